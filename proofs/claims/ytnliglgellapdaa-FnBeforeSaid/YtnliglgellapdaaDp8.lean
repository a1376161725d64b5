/- Stores, structs and slices that are built. -/
import Derived.Test.YtnliglgellapdaaDp7
import Derived.Great.BuildSlice
import Derived.Laws.Tables
set_option linter.unusedVariables false
set_option linter.unusedSimpArgs false
namespace Go.Dp
section
variable {P : Program} {E : Env} {w w' : World} {Im Im' : Nat → Prop} {ρ ρ' : Nat → Option Value} {o o' : List AObj} {K : Kt} {r : List SV × List (List CV)}

theorem get_splice {α : Type} (l ns : List α) (k p : Nat) (h : k + ns.length ≤ l.length) :
    (l.take k ++ ns ++ l.drop (k + ns.length))[p]? = if p < k then l[p]? else if p < k + ns.length then ns[p - k]? else l[p]? := by
  have h1 : (l.take k).length = k := by simp; omega
  by_cases h2 : p < k
  · rw [if_pos h2, List.append_assoc, List.getElem?_append_left (by omega), List.getElem?_take_of_lt h2]
  · rw [if_neg h2]
    by_cases h3 : p < k + ns.length
    · rw [if_pos h3, List.append_assoc, List.getElem?_append_right (by omega), h1, List.getElem?_append_left (by omega)]
    · rw [if_neg h3, List.append_assoc, List.getElem?_append_right (by omega), h1, List.getElem?_append_right (by omega), List.getElem?_drop]
      congr 1
      omega
theorem len_splice {α : Type} (l ns : List α) (k : Nat) (h : k + ns.length ≤ l.length) : (l.take k ++ ns ++ l.drop (k + ns.length)).length = l.length := by simp; omega
theorem splice_some {cs ns cs' : List CV} {off : Nat} (h : splice cs off ns = some cs') : off + ns.length ≤ cs.length ∧ cs' = cs.take off ++ ns ++ cs.drop (off + ns.length) := by
  unfold splice at h
  obtain ⟨hc, h⟩ := bif_some h
  injection h with h
  exact ⟨of_decide_eq_true hc, h.symm⟩
theorem setRow_world (w : World) (g : Nat) (cs : Array Value) : Wd w (w.setRow g cs) := ⟨rfl, rfl, rfl, by simp [World.setRow]⟩
theorem setRow_size (w : World) (g : Nat) (cs : Array Value) : (w.setRow g cs).heap.size = w.heap.size := by simp [World.setRow]
theorem run_storeVar (hE : EnvOK P E) {T : TypeId} {sh : Nat} (hT : E.sh T = some sh) {g off : Nat} {e : TypeId} {cur : Array Value} {y : Value} (hg : w.heap[g]? = some (.cells cur e (0, 0))) (hy : y.cells.size = csz sh) (hf : off + csz sh ≤ cur.size)
    (h1 : ∀ (i : Nat) (z : Value), y.cells[i]? = some z → z.oneCell' = true) :
    (storeVar T ⟨g, off, none⟩ y).run P w = .ok () (w.setRow g (cur.toList.take off ++ y.cells.toList ++ cur.toList.drop (off + y.cells.toList.length)).toArray) := by
  have := run_storeCells_at P g off e y.cells.toList 0 cur w hg (by simp; omega) (fun v hv => by
    obtain ⟨i, hi, rfl⟩ := List.getElem_of_mem hv
    exact h1 i _ (by simp at hi; simp [hi]))
  simp only [Nat.add_zero] at this
  simp [storeVar, run_size hE hT, hy, this]

theorem take_splice {α : Type} (l ns : List α) (k m : Nat) (h : k + ns.length ≤ m) (hm : m ≤ l.length) :
    (l.take k ++ ns ++ l.drop (k + ns.length)).take m = (l.take m).take k ++ ns ++ (l.take m).drop (k + ns.length) := by
  apply List.ext_getElem?
  intro p
  have hl : (l.take m).length = m := by simp; omega
  rw [get_splice _ _ _ _ (by omega)]
  by_cases hp : p < m
  · rw [List.getElem?_take_of_lt hp, get_splice _ _ _ _ (by omega), List.getElem?_take_of_lt hp]
  · rw [List.getElem?_eq_none (by simp; omega), if_neg (by omega), if_neg (by omega), List.getElem?_eq_none (by omega)]
/-- A part of an element written: the elements as they then are. -/
theorem putPart_some {y v z : PV} {vsh off sh : Nat} (h : putPart y vsh off v sh = some z) (hy : y.shp vsh = true) (hv : v.shp sh = true) :
    z.shp vsh = true ∧ off + csz sh ≤ csz vsh ∧ ∀ (j : Nat) (c : PV), z.cells[j]? = some c → (off ≤ j ∧ j < off + csz sh ∧ v.cells[j - off]? = some c) ∨ ((j < off ∨ off + csz sh ≤ j) ∧ y.cells[j]? = some c) := by
  unfold putPart at h
  cases h0 : (off == 0 && vsh == sh) <;> rw [h0] at h <;> simp only [cond_true, cond_false] at h
  · cases sh with
    | succ n => cases h
    | zero =>
      obtain ⟨hc, h⟩ := bif_some h
      injection h with h
      subst h
      simp only [Bool.and_eq_true, decide_eq_true_eq, bne_iff_ne] at hc
      cases vsh with
      | zero => simp at hc
      | succ m =>
        cases y with
        | agg cs =>
          simp only [PV.shp, Bool.and_eq_true, beq_iff_eq, List.all_eq_true] at hy
          have e0 : ∀ l : List PV, (PV.agg l).cells = l := fun _ => rfl
          simp only [e0] at hc ⊢
          have hv1 : v.one = true := hc.2
          refine ⟨?_, by simp [csz]; omega, ?_⟩
          · simp only [PV.shp, Bool.and_eq_true, beq_iff_eq, List.all_eq_true, List.length_set]
            refine ⟨hy.1, fun q hq => ?_⟩
            rcases List.mem_or_eq_of_mem_set hq with h1 | h1
            · exact hy.2 q h1
            · rw [h1]; exact hv1
          · intro j c hj
            by_cases e : j = off
            · subst e
              left
              rw [List.getElem?_set_self hc.1.1] at hj
              injection hj with hj
              subst hj
              exact ⟨Nat.le_refl _, by simp [csz], by rw [PV.cells_of_one hv1]; simp⟩
            · right
              rw [List.getElem?_set_ne (Ne.symm e)] at hj
              exact ⟨by simp [csz]; omega, hj⟩
        | _ => simp [PV.shp] at hy
  · injection h with h
    subst h
    simp only [Bool.and_eq_true, beq_iff_eq] at h0
    obtain ⟨rfl, rfl⟩ := h0
    refine ⟨hv, by omega, fun j c hj => .inl ⟨Nat.zero_le _, ?_, by simpa using hj⟩⟩
    rw [Nat.zero_add, ← PV.shp_len hv]
    exact (List.getElem?_eq_some_iff.1 hj).1
theorem opStore_sound (hE : EnvOK P E) (hs : SR w Im ρ o) {T : TypeId} {a b : AV} {x y : Value} (ha : RA w Im ρ o a x) (hb : RA w Im ρ o b y) (h : opStore E T a b o K = some r) : Did P w Im ρ o K r (do Instr.storeAt T x y; pure undef) := by
  unfold opStore at h
  split at h
  · rename_i id off sh v hc hT hv
    rw [cv_some hc] at ha
    rw [sv_some hv] at hb
    split at h
    · rename_i cs ho
      obtain ⟨ns, h, hnl, hyl, hyr, hy1⟩ := cellsK_sound hs h hb
      obtain ⟨cs', hcs, hk⟩ := bind_some h
      obtain ⟨hle, rfl⟩ := splice_some hcs
      simp only [RA, RS, RC, RB, ho] at ha
      obtain ⟨g, hρ, rfl⟩ := ha
      obtain ⟨g', vs, e, hg, hh, hl, hrc, h1, hni⟩ := hs.ob id _ _ ho hρ
      obtain rfl : g = g' := by simpa using hg
      have hlt := (Array.getElem?_eq_some_iff.1 hh).1
      have hrun := run_storeVar hE hT (off := off) hh (by omega) (by omega) hy1
      obtain ⟨NV, hNV⟩ : ∃ NV, NV = (vs.toList.take off ++ y.cells.toList ++ vs.toList.drop (off + y.cells.toList.length)).toArray := ⟨_, rfl⟩
      rw [← hNV] at hrun
      have hid : upd ρ id (some (.pointer (some ⟨g, 0, none⟩))) = ρ := by funext i; unfold upd; split <;> simp_all
      have hst := Step.turn (w' := w.setRow g NV) (x' := .box (cs.take off ++ ns ++ cs.drop (off + ns.length))) (v' := .pointer (some ⟨g, 0, none⟩)) hs (setRow_world w g NV) ho hρ (by simp) rfl
        (fun b hb hne => setRow_other w g b NV (fun e => hne (by rw [e]; rfl))) (fun b hb => by simp at hb; subst hb; exact hni) (fun b hb => .inl hb) (fun b hb => by simp at hb; subst hb; rw [setRow_size]; exact hlt) ?_
      · exact ⟨_, _, undef, _, Im, _, hk, by simp [Instr.storeAt, Instr.sureAddr, hrun], hst, trivial⟩
      · have hcomp : Compat ρ (upd ρ id (some (.pointer (some ⟨g, 0, none⟩)))) o (o.set id (.box (cs.take off ++ ns ++ cs.drop (off + ns.length)))) := by
          intro i q hq
          by_cases e1 : i = id
          · subst e1
            rw [ho] at hq
            injection hq with hq
            subst hq
            exact ⟨_, by rw [List.getElem?_set_self (List.getElem?_eq_some_iff.1 ho).1], by rw [hid]; rfl⟩
          · exact ⟨q, by rw [List.getElem?_set_ne (Ne.symm e1)]; exact hq, by rw [hid]; cases q <;> simp [CompatO]⟩
        have him : ∀ b, Im b → Im b ∧ (w.setRow g NV).heap[b]? = w.heap[b]? := fun b hb => ⟨hb, setRow_other w g b NV (fun e => hni (e ▸ hb))⟩
        have hsz : off + y.cells.toList.length ≤ vs.toList.length := by simp; omega
        have hyn : y.cells.toList.length = ns.length := by simp; omega
        refine ⟨g, NV, e, rfl, setRow_heap w g vs NV e _ hh, ?_, ?_, ?_, hni⟩
        · rw [len_splice _ _ _ hle, hNV, List.size_toArray, len_splice _ _ _ hsz, Array.length_toList, hl]
        · intro i c z hc hz
          rw [hNV, List.getElem?_toArray, get_splice _ _ _ _ hsz] at hz
          rw [get_splice _ _ _ _ hle] at hc
          rw [hyn] at hz
          split at hc
          · rename_i h2
            rw [if_pos h2] at hz
            exact RC.compat him hcomp (hrc i c z hc (by simpa using hz))
          · rename_i h2
            rw [if_neg h2] at hz
            split at hc
            · rename_i h3
              rw [if_pos h3] at hz
              exact RC.compat him hcomp (hyr _ c z hc (by simpa using hz))
            · rename_i h3
              rw [if_neg h3] at hz
              exact RC.compat him hcomp (hrc i c z hc (by simpa using hz))
        · intro i z hz
          rw [hNV, List.getElem?_toArray, get_splice _ _ _ _ hsz] at hz
          split at hz
          · exact h1 i z (by simpa using hz)
          · split at hz
            · exact hy1 _ z (by simpa using hz)
            · exact h1 i z (by simpa using hz)
    · cases h
  · rename_i id ver vsh i off sh sv hc hT hv
    rw [cv_some hc] at ha
    rw [sv_some hv] at hb
    obtain ⟨⟨v, o1⟩, hfz, h⟩ := bind_some h
    obtain ⟨Im1, hst1, hrv⟩ := freezeS_sound hs hb hfz
    have ha1 := hst1.keepA _ _ ha
    have hs1 := hst1.sr
    simp only at h
    split at h
    · rename_i e sh' ver' xs ho
      obtain ⟨hcnd, h⟩ := bif_some h
      obtain ⟨z0, hz0, h⟩ := bind_some h
      obtain ⟨z, hz, hk⟩ := bind_some h
      simp only [Bool.and_eq_true, beq_iff_eq] at hcnd
      obtain ⟨⟨⟨rfl, rfl⟩, hvs⟩, hstay⟩ := hcnd
      simp only [RA, RS, RC, ho] at ha1
      obtain ⟨hi, g, n, cap, v0, hρ, hmv, rfl⟩ := ha1.2 trivial trivial
      obtain ⟨vals, hown, hshp, hrp, hbk, hkids⟩ := hs1.ob id _ _ ho hρ
      have hgv : Blk v0 g := main_Blk (by rw [hmv]; rfl)
      have hniv : ∀ b, Blk v0 b → ¬ Im1 b := fun b hb => (hbk b hb).1 rfl
      have hni : ¬ Im1 g := hniv g hgv
      rcases hown.2 with ⟨hbad, _⟩ | ⟨g', cap', cu, heq, _, hh, hnc, hcm, hcs, htk⟩
      · rw [hmv] at hbad; cases hbad
      rw [hmv] at heq
      injection heq with e1 e2 e3
      injection e1 with e1
      injection e1 with e1
      subst e1
      subst e2
      subst e3
      have hlt := (Array.getElem?_eq_some_iff.1 hh).1
      have hz0s := hshp z0 (List.mem_of_getElem? hz0)
      obtain ⟨hzs, hoff, hzc⟩ := putPart_some hz hz0s hvs
      have hyc := hrv.cells
      have hyl : y.cells.size = csz sh := by rw [hyc.1, PV.shp_len hvs]
      have hy1 : ∀ (i : Nat) (z : Value), y.cells[i]? = some z → z.oneCell' = true := by
        intro i z hz
        have hil : i < v.cells.length := by rw [← hyc.1]; exact (Array.getElem?_eq_some_iff.1 hz).1
        exact ((hyc.2 i v.cells[i] z (by simp [hil]) hz).one (PV.shp_one hvs i _ (by simp [hil]))).1
      have hmul : (i + 1) * csz vsh ≤ xs.length * csz vsh := Nat.mul_le_mul_right _ hi
      have hmul2 : xs.length * csz vsh ≤ cap * csz vsh := Nat.mul_le_mul_right _ hnc
      rw [Nat.add_mul] at hmul
      have hrun := run_storeVar hE hT (off := i * csz vsh + off) hh hyl (by omega) hy1
      have hyn : y.cells.toList.length = csz sh := by simp [hyl]
      obtain ⟨NV, hNV⟩ : ∃ NV, NV = (cu.toList.take (i * csz vsh + off) ++ y.cells.toList ++ cu.toList.drop (i * csz vsh + off + y.cells.toList.length)).toArray := ⟨_, rfl⟩
      rw [← hNV] at hrun
      have hcul : xs.length * csz vsh ≤ cu.toList.length := by simp; omega
      have hspl : i * csz vsh + off + y.cells.toList.length ≤ xs.length * csz vsh := by omega
      have hid : upd ρ id (some v0) = ρ := by funext i; unfold upd; split <;> simp_all
      have hcomp : Compat ρ (upd ρ id (some v0)) o1 (o1.set id (.arr e vsh ver false (xs.set i z))) := by
        intro q a hq
        by_cases e1 : q = id
        · subst e1
          rw [ho] at hq
          injection hq with hq
          subst hq
          exact ⟨_, by rw [List.getElem?_set_self (List.getElem?_eq_some_iff.1 ho).1], by rw [hid]; exact Or.inr ⟨rfl, rfl, by simp, rfl, KdC_refl' _ rfl⟩⟩
        · exact ⟨a, by rw [List.getElem?_set_ne (Ne.symm e1)]; exact hq, by rw [hid]; cases a <;> simp [CompatO]⟩
      have him : ∀ b, Im1 b → Im1 b ∧ (w.setRow g NV).heap[b]? = w.heap[b]? := fun b hb => ⟨hb, setRow_other w g b NV (fun e => hni (e ▸ hb))⟩
      have hst := Step.turn (w' := w.setRow g NV) (x' := .arr e vsh ver false (xs.set i z)) (v' := v0) hs1 (setRow_world w g NV) ho hρ (by simp) (Or.inr ⟨rfl, rfl, by simp, rfl, KdC_refl' _ rfl⟩)
        (fun b hb hne => setRow_other w g b NV (fun e => hne (by rw [e]; exact hgv))) hniv (fun b hb => .inl hb) (fun b hb => by rw [setRow_size]; exact (hs1.lt id v0 hρ).2 b hb) ?_
      · exact ⟨_, _, undef, _, Im1, _, hk, by simp [Instr.storeAt, Instr.sureAddr, hrun], hst1.trans hst, trivial⟩
      · refine ⟨vals.take (i * csz vsh + off) ++ y.cells.toList ++ vals.drop (i * csz vsh + off + y.cells.toList.length), ⟨?_, .inr ⟨g, cap, NV, by rw [hmv]; simp, Nat.zero_le _, setRow_heap w g cu NV e.t _ hh, by simpa using hnc, hcm, ?_, ?_⟩⟩, ?_, ?_, ?_, ?_⟩
        · rw [len_splice _ _ _ (by rw [hown.1]; exact hspl), hown.1]; simp
        · rw [hNV, List.size_toArray, len_splice _ _ _ (by omega)]; simpa using hcs
        · rw [hNV]
          simp only [List.length_set]
          rw [take_splice _ _ _ _ hspl hcul, htk]
        · intro q hq
          rcases List.mem_or_eq_of_mem_set hq with h1 | h1
          · exact hshp q h1
          · rw [h1]; exact hzs
        · intro i' x' j c u hx' hj hu
          rw [get_splice _ _ _ _ (by rw [hown.1]; exact hspl)] at hu
          rw [hyn] at hu
          by_cases e1 : i' = i
          · subst e1
            rw [List.getElem?_set_self hi] at hx'
            injection hx' with hx'
            subst hx'
            rcases hzc j c hj with ⟨h1, h2, h3⟩ | ⟨h1, h3⟩
            · rw [if_neg (by omega), if_pos (by omega)] at hu
              have e2 : i' * csz vsh + j - (i' * csz vsh + off) = j - off := by omega
              rw [e2] at hu
              have hrpu := RP.mono him (hyc.2 _ c u h3 (by simpa using hu))
              unfold RPk
              split
              · exact hrpu
              · exact fun _ => hrpu
            · have hu' : vals[i' * csz vsh + j]? = some u := by
                rcases h1 with h1 | h1
                · rwa [if_pos (by omega)] at hu
                · rwa [if_neg (by omega), if_neg (by omega)] at hu
              exact (hrp i' z0 j c u hz0 h3 hu').keep him
          · rw [List.getElem?_set_ne (Ne.symm e1)] at hx'
            have hjl : j < csz vsh := by rw [← PV.shp_len (hshp x' (List.mem_of_getElem? hx'))]; exact (List.getElem?_eq_some_iff.1 hj).1
            have hu' : vals[i' * csz vsh + j]? = some u := by
              rcases Nat.lt_or_gt_of_ne e1 with h1 | h1
              · have : (i' + 1) * csz vsh ≤ i * csz vsh := Nat.mul_le_mul_right _ h1
                rw [Nat.add_mul] at this
                rwa [if_pos (by omega)] at hu
              · have : (i + 1) * csz vsh ≤ i' * csz vsh := Nat.mul_le_mul_right _ h1
                rw [Nat.add_mul] at this
                rwa [if_neg (by omega), if_neg (by omega)] at hu
            exact (hrp i' x' j c u hx' hj hu').keep him
        · intro b hb
          exact ⟨fun _ => hniv b hb, fun hf => nomatch hf⟩
        · unfold RKids
          split
          · rename_i hk
            simp only [RKids, hk] at hkids
            exact fun _ => hkids trivial
          · rename_i k hk
            simp only [RKids, hk] at hkids
            obtain ⟨_, ks, hv0, hks, hdis⟩ := hkids
            simp only [stays, hk, Bool.and_eq_true, beq_iff_eq, bne_iff_ne] at hstay
            obtain ⟨rfl, hoffj⟩ := hstay
            have hkh : ∀ (q : Nat) (u : Value) (b : Nat), ks[q]? = some u → kidBlk u b → (w.setRow g NV).heap[b]? = w.heap[b]? := fun q u b h1 h2 => setRow_other w g b NV (fun e => hdis q u b h1 h2 (by rw [e, hmv]; rfl))
            refine ⟨rfl, ks, hv0, ?_, hdis⟩
            refine ⟨by simpa using hks.len, hks.jlt, fun q x hx hh0 => ?_, hks.out, hks.inj, ?_⟩
            · have key : ∃ x0, xs[q]? = some x0 ∧ x0.cells[k.j]? = x.cells[k.j]? := by
                by_cases e1 : q = i
                · subst e1
                  rw [List.getElem?_set_self hi] at hx
                  injection hx with hx
                  subst hx
                  refine ⟨z0, hz0, ?_⟩
                  have hzl := PV.shp_len hzs
                  have hz0l := PV.shp_len hz0s
                  have hkj := hks.jlt
                  have hc1 : z.cells[k.j]? = some z.cells[k.j] := by simp [hzl, hkj]
                  rcases hzc k.j _ hc1 with ⟨h1, h2, _⟩ | ⟨_, h3⟩
                  · simp [csz] at h2; omega
                  · rw [h3, hc1]
                · rw [List.getElem?_set_ne (Ne.symm e1)] at hx
                  exact ⟨x, hx, rfl⟩
              obtain ⟨x0, hx0, hxc⟩ := key
              obtain ⟨f, ys, u, b1, b2, b3, b4, b5⟩ := hks.kid q x0 hx0 hh0
              refine ⟨f, ys, u, hxc ▸ b1, b2, b3, ?_, b5.keep him fun b hb => hkh q u b b3 hb⟩
              rw [get_splice _ _ _ _ (by rw [hown.1]; exact hspl), hyn]
              have hkj := hks.jlt
              have c0 : csz 0 = 1 := rfl
              have hne : q * csz vsh + k.j ≠ i * csz vsh + off := by
                rcases Nat.lt_trichotomy q i with h3 | h3 | h3
                · have : (q + 1) * csz vsh ≤ i * csz vsh := Nat.mul_le_mul_right _ h3
                  rw [Nat.add_mul] at this
                  omega
                · subst h3; omega
                · have : (i + 1) * csz vsh ≤ q * csz vsh := Nat.mul_le_mul_right _ h3
                  rw [Nat.add_mul] at this
                  omega
              split
              · exact b4
              · rw [if_neg (by omega)]; exact b4
            · intro q y hy
              rw [get_splice _ _ _ _ (by rw [hown.1]; exact hspl)] at hy
              split at hy
              · exact hks.one q y hy
              · split at hy
                · exact hy1 _ y (by simpa using hy)
                · exact hks.one q y hy
    · cases h
  · cases h
end
end Go.Dp
