/- Rows with a column of rows of one's own: what is given back, built and grown. -/
import Derived.Test.YtocmjgfbcpgaoaaDp10
set_option linter.unusedVariables false
set_option linter.unusedSimpArgs false
namespace Go.Dp
section
variable {P : Program} {E : Env} {w w' : World} {Im Im' : Nat → Prop} {ρ ρ' : Nat → Option Value} {o o' : List AObj} {K : Kt} {r : List SV × List (List CV)}

theorem own_kid {base : Nat} {e s n : Nat} {v : Value} {xs : List Value} (h : w.ownsRow base e s v n xs) : v.cells = #[v] ∧ v.oneCell' = true ∧ ∀ b, kidBlk v b ↔ v.ownBlock = some b := by
  rcases h.2 with ⟨rfl, rfl⟩ | ⟨g, cap, cur, rfl, _⟩
  · exact ⟨rfl, rfl, fun b => by simp [Value.ownBlock]⟩
  · exact ⟨rfl, rfl, fun b => by simp [Value.ownBlock]⟩
theorem tuple_inj {m m' : Value} {ks ks' : List Value} (h : Value.tuple (m :: ks).toArray = .tuple (m' :: ks').toArray) : m = m' ∧ ks = ks' := by
  injection h with h
  simpa using h
theorem opGive_sound (hE : EnvOK P E) (hs : SR w Im ρ o) {T : TypeId} {a b : AV} {x y : Value} (ha : RA w Im ρ o a x) (hb : RA w Im ρ o b y) (h : opGive E T a b o K = some r) : Did P w Im ρ o K r (do Instr.storeAt T x y; pure undef) := by
  unfold opGive at h
  split at h
  · rename_i id ver vsh i off id2 ver2 sh2 lo len hca hT hcb
    rw [cv_some hca] at ha
    rw [cv_some hcb] at hb
    split at h
    · rename_i e sh' ver' xs e2 sh2' ver2' ys ho ho2
      split at h
      · rename_i k hk
        obtain ⟨y0, hxi, h⟩ := bind_some h
        obtain ⟨hcnd, h9⟩ := bif_some h
        clear h
        simp only [Bool.and_eq_true, beq_iff_eq, bne_iff_ne, decide_eq_true_eq] at hcnd
        obtain ⟨⟨⟨⟨⟨⟨⟨⟨⟨⟨rfl, rfl⟩, rfl⟩, rfl⟩, rfl⟩, rfl⟩, rfl⟩, rfl⟩, hne⟩, hhole⟩, hlen⟩ := hcnd
        obtain ⟨z, hz, hkk⟩ := bind_some h9
        clear h9
        simp only [RA, RS, RC, ho] at ha
        obtain ⟨hi, g, n, cap, v, hρ, hmv, rfl⟩ := ha.2 trivial trivial
        simp only [RA, RS, RC, ho2] at hb
        obtain ⟨_, v2, hρ2, hsl2⟩ := hb.2 trivial trivial
        obtain ⟨vals, hown, hshp, hrp, hbk, hkids⟩ := hs.ob id _ _ ho hρ
        obtain ⟨vals2, hown2, hshp2, hrp2, hbk2, _⟩ := hs.ob id2 _ _ ho2 hρ2
        replace hrp2 : ∀ (i : Nat) (x : PV) (j : Nat) (c : PV) (y : Value), ys[i]? = some x → x.cells[j]? = some c → vals2[i * csz k.sh + j]? = some y → RP w Im c y := hrp2
        simp only [RKids, hk] at hkids
        obtain ⟨_, ks, hv, hks, hdis⟩ := hkids
        obtain ⟨hy, hyb⟩ := own_take (lo := 0) hown2 hsl2 hlen
        have hyc := own_kid hy
        have hgm : kidBlk (mainV v) g := by rw [hmv]; rfl
        have hyB : ∀ b, kidBlk y b → Blk v2 b := fun b hb => main_Blk ((hyb b).1 (kid_Blk hb))
        have hcross : ∀ b, Blk v b → Blk v2 b → False := fun b h1 h2 => hne (hs.inj id id2 v v2 b hρ hρ2 h1 h2)
        rcases hown.2 with ⟨hbad, _⟩ | ⟨g', cap', cu, heq, _, hh, hnc, hcm, hcs, htk⟩
        · rw [hmv] at hbad; cases hbad
        rw [hmv] at heq
        injection heq with e1 e2 e3
        injection e1 with e1
        injection e1 with e1
        subst e1
        subst e2
        subst e3
        have hy0s := hshp y0 (List.mem_of_getElem? hxi)
        obtain ⟨hzs, hoff, hzc⟩ := putPart_some hz hy0s (by simp [PV.shp, PV.one])
        have c0 : csz 0 = 1 := rfl
        rw [c0] at hoff
        have hmul : (i + 1) * csz vsh ≤ xs.length * csz vsh := Nat.mul_le_mul_right _ hi
        have hmul2 : xs.length * csz vsh ≤ cap * csz vsh := Nat.mul_le_mul_right _ hnc
        rw [Nat.add_mul] at hmul
        have hrun := run_storeVar (y := y) hE hT (off := i * csz vsh + k.j) hh (by rw [hyc.1]; rfl) (by omega) (by rw [hyc.1]; intro p z hz; cases p <;> simp at hz; subst hz; exact hyc.2.1)
        have hyn : y.cells.toList = [y] := by rw [hyc.1]
        rw [hyn] at hrun
        obtain ⟨NV, hNV⟩ : ∃ NV, NV = (cu.toList.take (i * csz vsh + k.j) ++ [y] ++ cu.toList.drop (i * csz vsh + k.j + [y].length)).toArray := ⟨_, rfl⟩
        rw [← hNV] at hrun
        have hcul : xs.length * csz vsh ≤ cu.toList.length := by simp; omega
        have hspl : i * csz vsh + k.j + [y].length ≤ xs.length * csz vsh := by simp; omega
        have hoth : ∀ b, b ≠ g → (w.setRow g NV).heap[b]? = w.heap[b]? := fun b hb => setRow_other w g b NV hb
        have hlt := (hs.lt id _ hρ).1
        have hlt2 := (hs.lt id2 _ hρ2).1
        have him : ∀ b, Im b → Im b ∧ (w.setRow g NV).heap[b]? = w.heap[b]? := fun b hb => ⟨hb, hoth b fun h => (hbk g (main_Blk hgm)).1 rfl (h ▸ hb)⟩
        obtain ⟨V, hVd⟩ : ∃ V, V = Value.tuple (mainV v :: ks.set i y).toArray := ⟨_, rfl⟩
        have hVm : mainV V = mainV v := by rw [hVd]; rfl
        have hVb : ∀ b, Blk V b → Blk v b ∨ Blk v2 b := by
          intro b hb
          rw [hVd] at hb
          obtain ⟨q, u, hq, hub⟩ := hb
          cases q with
          | zero =>
            simp at hq
            subst hq
            exact .inl (main_Blk hub)
          | succ q =>
            replace hq : (ks.set i y)[q]? = some u := by simpa using hq
            by_cases e1 : q = i
            · subst e1
              rw [List.getElem?_set_self (by rw [hks.len]; exact hi)] at hq
              injection hq with hq
              subst hq
              exact .inr (hyB b hub)
            · rw [List.getElem?_set_ne (Ne.symm e1)] at hq
              exact .inl (kids_Blk hv hq hub)
        obtain ⟨X, hX⟩ : ∃ X, X = AObj.arr ⟨e.t, some { k with nv := k.nv + 1, hole := none }⟩ vsh ver false (xs.set i z) := ⟨_, rfl⟩
        rw [← hX] at hkk
        have hoid : ((o.set id X).set id2 .dead)[id]? = some X := by rw [List.getElem?_set_ne (Ne.symm hne), List.getElem?_set_self hlt]
        have hoid2 : ((o.set id X).set id2 .dead)[id2]? = some .dead := by rw [List.getElem?_set_self (by simpa using hlt2)]
        obtain ⟨R, hR⟩ : ∃ R, R = upd (upd ρ id (some V)) id2 none := ⟨_, rfl⟩
        have hRid : R id = some V := by rw [hR, upd_ne hne, upd_same]
        have hRid2 : R id2 = none := by rw [hR, upd_same]
        have hRne : ∀ q, q ≠ id → q ≠ id2 → R q = ρ q := fun q h1 h2 => by rw [hR, upd_ne h2, upd_ne h1]
        have hc : Compat ρ R o ((o.set id X).set id2 .dead) := by
          intro q a hq
          by_cases e1 : q = id
          · subst e1
            rw [ho] at hq
            injection hq with hq
            subst hq
            refine ⟨X, hoid, ?_⟩
            rw [hRid, hρ, hX]
            refine Or.inr ⟨rfl, rfl, by simp, ?_, ?_⟩
            · simp [hVm]
            · rw [hk]; exact .inl (Nat.lt_succ_self _)
          · by_cases e2 : q = id2
            · subst e2
              rw [ho2] at hq
              injection hq with hq
              subst hq
              exact ⟨.dead, hoid2, trivial⟩
            · refine ⟨a, by rw [List.getElem?_set_ne (Ne.symm e2), List.getElem?_set_ne (Ne.symm e1)]; exact hq, ?_⟩
              rw [hRne q e1 e2]
              cases a <;> simp [CompatO]
        have hst := Step.multi (w' := w.setRow g NV) (ρ' := R) (o' := (o.set id X).set id2 .dead) hs (setRow_world w g NV) (fun q => q = id ∨ q = id2) (by simp) ?_ ?_ hc ?_ ?_ ?_ ?_ ?_ ?_ ?_ ?_ ?_
        · exact ⟨_, _, undef, _, Im, _, hkk, by simp [Instr.storeAt, Instr.sureAddr, hrun], hst, trivial⟩
        · intro q hq hql
          simp only [not_or] at hq
          exact ⟨by rw [List.getElem?_set_ne (Ne.symm hq.2), List.getElem?_set_ne (Ne.symm hq.1)], hRne q hq.1 hq.2⟩
        · intro q hql hq
          simp only [not_or] at hq
          refine ⟨List.getElem?_eq_none (by simp; omega), ?_⟩
          rw [hRne q hq.1 hq.2]
          cases h : ρ q with
          | none => rfl
          | some u => have := (hs.lt q u h).1; omega
        · intro b hb hno
          exact hoth b fun h => hno id v (.inl rfl) hρ (h ▸ main_Blk hgm)
        · rintro q v' b (rfl | rfl) hv' hb
          · rw [hρ] at hv'
            injection hv' with hv'
            subst hv'
            exact (hbk b hb).1 rfl
          · rw [hρ2] at hv'
            injection hv' with hv'
            subst hv'
            exact (hbk2 b hb).1 rfl
        · rintro q v' b (rfl | rfl) hv' hb
          · rw [hRid] at hv'
            injection hv' with hv'
            subst hv'
            rcases hVb b hb with h1 | h1
            · exact .inl ⟨q, _, .inl rfl, hρ, h1⟩
            · exact .inl ⟨id2, _, .inr rfl, hρ2, h1⟩
          · rw [hRid2] at hv'; cases hv'
        · rintro q v' (rfl | rfl) hv'
          · rw [hRid] at hv'
            injection hv' with hv'
            subst hv'
            refine ⟨by simpa using hlt, fun b hb => ?_⟩
            rw [setRow_size]
            rcases hVb b hb with h1 | h1
            · exact (hs.lt q _ hρ).2 b h1
            · exact (hs.lt id2 _ hρ2).2 b h1
          · rw [hRid2] at hv'; cases hv'
        · rintro q q' v' v1 b (rfl | rfl) (rfl | rfl) h1 h2 h3 h4
          · rfl
          · rw [hRid2] at h2; cases h2
          · rw [hRid2] at h1; cases h1
          · rfl
        · rintro q a v' (rfl | rfl) ha' hv'
          · rw [hoid] at ha'
            rw [hRid] at hv'
            injection ha' with ha'
            injection hv' with hv'
            subst ha'
            subst hv'
            rw [hX]
            have hylt : (w.setRow g NV).ownsRow 0 k.e (csz k.sh) y len (vals2.take (len * csz k.sh)) := ownsRow_main (fun b hb => hoth b fun h => hcross g (main_Blk hgm) (h ▸ hyB b hb)) hy
            have hxl : (ys.take len).length = len := by simp; omega
            refine ⟨vals.take (i * csz vsh + k.j) ++ [y] ++ vals.drop (i * csz vsh + k.j + [y].length), ⟨?_, .inr ⟨g, cap, NV, by rw [hVm, hmv]; simp, Nat.zero_le _, setRow_heap w g cu NV e.t _ hh, by simpa using hnc, hcm, ?_, ?_⟩⟩, ?_, ?_, fun b hb => ⟨fun _ hI => ?_, fun h => nomatch h⟩, rfl, ks.set i y, ?_, ⟨by simpa using hks.len, hks.jlt, ?_, (fun p u h => nomatch h), ?_, ?_⟩, ?_⟩
            · rw [len_splice _ _ _ (by rw [hown.1]; exact hspl), hown.1]; simp
            · rw [hNV, List.size_toArray, len_splice _ _ _ (by omega)]; simpa using hcs
            · rw [hNV]
              simp only [List.length_set]
              rw [take_splice _ _ _ _ hspl hcul, htk]
            · intro q hq
              rcases List.mem_or_eq_of_mem_set hq with h1 | h1
              · exact hshp q h1
              · rw [h1]; exact hzs
            · intro i' x' j c u hx' hj hu
              show j ≠ k.j → RP _ Im c u
              intro hjk
              rw [get_splice _ _ _ _ (by rw [hown.1]; exact hspl)] at hu
              have key : ∃ x0, xs[i']? = some x0 ∧ x0.cells[j]? = some c := by
                by_cases e1 : i' = i
                · subst e1
                  rw [List.getElem?_set_self hi] at hx'
                  injection hx' with hx'
                  subst hx'
                  rcases hzc j c hj with ⟨h1, h2, _⟩ | ⟨_, h3⟩
                  · rw [c0] at h2; omega
                  · exact ⟨y0, hxi, h3⟩
                · rw [List.getElem?_set_ne (Ne.symm e1)] at hx'
                  exact ⟨x', hx', hj⟩
              obtain ⟨x0, hx0, hj0⟩ := key
              have hjl : j < csz vsh := by rw [← PV.shp_len (hshp x0 (List.mem_of_getElem? hx0))]; exact (List.getElem?_eq_some_iff.1 hj0).1
              have hkj := hks.jlt
              have hne2 : i' * csz vsh + j ≠ i * csz vsh + k.j := by
                rcases Nat.lt_trichotomy i' i with h3 | h3 | h3
                · have : (i' + 1) * csz vsh ≤ i * csz vsh := Nat.mul_le_mul_right _ h3
                  rw [Nat.add_mul] at this
                  omega
                · subst h3; omega
                · have : (i + 1) * csz vsh ≤ i' * csz vsh := Nat.mul_le_mul_right _ h3
                  rw [Nat.add_mul] at this
                  omega
              have hu' : vals[i' * csz vsh + j]? = some u := by
                split at hu
                · exact hu
                · rw [if_neg (by simp; omega)] at hu; exact hu
              have h4 := hrp i' x0 j c u hx0 hj0 hu'
              unfold RPk at h4
              rw [hk] at h4
              exact RP.mono him (h4 hjk)
            · rcases hVb b hb with h1 | h1
              · exact (hbk b h1).1 rfl hI
              · exact (hbk2 b h1).1 rfl hI
            · rw [hVm, hVd]
            · intro p x1 hx1 _
              by_cases e1 : p = i
              · subst e1
                rw [List.getElem?_set_self hi] at hx1
                injection hx1 with hx1
                subst hx1
                have hzl := PV.shp_len hzs
                have hkj := hks.jlt
                have hc1 : z.cells[k.j]? = some z.cells[k.j] := by simp [hzl, hkj]
                have hc2 : z.cells[k.j]? = some (.row k.sh 0 (ys.take len)) := by
                  rcases hzc k.j _ hc1 with ⟨_, _, h3⟩ | ⟨h2, _⟩
                  · rw [hc1, ← h3]; simp [PV.cells]
                  · rw [c0] at h2; omega
                refine ⟨0, _, y, hc2, .inl rfl, by rw [List.getElem?_set_self (by rw [hks.len]; exact hi)], ?_, _, by rw [hxl]; exact hylt, fun x hx => hshp2 x (List.mem_of_mem_take hx), ?_⟩
                · rw [get_splice _ _ _ _ (by rw [hown.1]; exact hspl), if_neg (Nat.lt_irrefl _), if_pos (by simp)]
                  simp
                · intro q x j c u hx hj hu
                  have hql : q < len := by have := (List.getElem?_eq_some_iff.1 hx).1; rwa [hxl] at this
                  rw [List.getElem?_take_of_lt hql] at hx
                  have hu' : vals2[q * csz k.sh + j]? = some u := by
                    rw [List.getElem?_take] at hu
                    split at hu
                    · exact hu
                    · cases hu
                  exact RP.mono him (hrp2 q x j c u hx hj hu')
              · rw [List.getElem?_set_ne (Ne.symm e1)] at hx1
                obtain ⟨f2, ys2, u2, c1, c2, c3, c4, c5⟩ := hks.kid p x1 hx1 (by rw [hhole]; simp [Ne.symm e1])
                refine ⟨f2, ys2, u2, c1, c2, by rw [List.getElem?_set_ne (Ne.symm e1)]; exact c3, ?_, c5.keep him fun b hb => hoth b fun h => hdis p u2 b c3 hb (h ▸ hgm)⟩
                show (vals.take (i * csz vsh + k.j) ++ [y] ++ vals.drop (i * csz vsh + k.j + [y].length))[p * csz vsh + k.j]? = some u2
                rw [get_splice _ _ _ _ (by rw [hown.1]; exact hspl)]
                have hkj := hks.jlt
                have hne2 : p * csz vsh + k.j ≠ i * csz vsh + k.j := by
                  intro h
                  have : p * csz vsh = i * csz vsh := by omega
                  exact e1 (Nat.eq_of_mul_eq_mul_right (csz_pos vsh) this)
                split
                · exact c4
                · rename_i h5
                  rw [if_neg (fun h6 => by simp only [List.length_singleton] at h6; omega)]; exact c4
            · have old : ∀ (p : Nat) (u : Value) (b : Nat), (ks.set i y)[p]? = some u → kidBlk u b → (p = i ∧ Blk v2 b) ∨ (ks[p]? = some u ∧ Blk v b) := by
                intro p u b hp hb
                by_cases e1 : p = i
                · subst e1
                  rw [List.getElem?_set_self (by rw [hks.len]; exact hi)] at hp
                  injection hp with hp
                  subst hp
                  exact .inl ⟨rfl, hyB b hb⟩
                · rw [List.getElem?_set_ne (Ne.symm e1)] at hp
                  exact .inr ⟨hp, kids_Blk hv hp hb⟩
              intro p p' u u' b h1 h2 h3 h4
              rcases old p u b h1 h3 with ⟨a1, a2⟩ | ⟨a1, a2⟩ <;> rcases old p' u' b h2 h4 with ⟨b1, b2⟩ | ⟨b1, b2⟩
              · omega
              · exact (hcross b b2 a2).elim
              · exact (hcross b a2 b2).elim
              · exact hks.inj p p' u u' b a1 b1 h3 h4
            · intro p u hu
              rw [get_splice _ _ _ _ (by rw [hown.1]; exact hspl)] at hu
              split at hu
              · exact hks.one p u hu
              · split at hu
                · have : u = y := by
                    have := List.mem_of_getElem? hu
                    simpa using this
                  rw [this]; exact hyc.2.1
                · exact hks.one p u hu
            · intro p u b hp hb
              rw [hVm]
              by_cases e1 : p = i
              · subst e1
                rw [List.getElem?_set_self (by rw [hks.len]; exact hi)] at hp
                injection hp with hp
                subst hp
                exact fun h => hcross b (main_Blk h) (hyB b hb)
              · rw [List.getElem?_set_ne (Ne.symm e1)] at hp
                exact hdis p u b hp hb
          · rw [hRid2] at hv'; cases hv'
        · rintro q (rfl | rfl) hd
          · rw [hoid, hX] at hd; cases hd
          · exact hRid2
        · rintro q a (rfl | rfl) ha' hd
          · exact ⟨_, hRid⟩
          · rw [hoid2] at ha'; injection ha' with ha'; exact absurd ha'.symm hd
        · rintro q (rfl | rfl) hql h0
          · rw [hρ] at h0; cases h0
          · rw [hρ2] at h0; cases h0
      · cases h
    · cases h
  · cases h
theorem run_build1 (hE : EnvOK P E) {T e sh by_ : Nat} (hT : E.sl T = some (e, sh, by_)) (hsm : csz sh ≤ 16777216) {u : Value} (hu : u.cells.size = csz sh) (w : World) :
    ∃ cells : Array Value, (Instr.buildSlice T 1 #[(0, u)]).run P w = .ok (.slice (some ⟨w.heap.size, 0, none⟩) 1 1) (w.alloc (.cells cells e)) ∧ cells.size = csz sh ∧ ∀ j, j < csz sh → cells[j]? = u.cells[j]? := by
  obtain ⟨hun, ⟨inf, z, hi, hsz, hby, hiz, hzs⟩, _⟩ := hE.sl T e sh by_ hT
  have hp := csz_pos sh
  obtain ⟨zc, hzc⟩ : ∃ zc, zc = (Array.range (1 * csz sh)).map (fun k => z.cells[k % z.cells.size]!) := ⟨_, rfl⟩
  have hzcs : zc.size = 1 * csz sh := by rw [hzc]; simp
  obtain ⟨cells, hfill, hcs, hget⟩ := Great.fill_dense hp [u] 0 zc (by simpa using hu) (by rw [hzcs]; simp)
  refine ⟨cells, ?_, by rw [hcs, hzcs]; omega, fun j hj => ?_⟩
  · refine run_buildSlice w T e 1 _ cells inf z hun hi hiz (by omega) (by omega) ?_
    rw [hsz]
    subst hzc
    simpa using hfill
  · rw [hget, if_pos ⟨by simp, by simpa using hj⟩]
    have h1 : j / csz sh = 0 := Nat.div_eq_of_lt hj
    simp [h1, Nat.mod_eq_of_lt hj]
theorem allP_some {cs : List CV} : ∀ {vs : List PV}, allP cs = some vs → cs = vs.map .p := by
  induction cs with
  | nil => intro vs h; simp [allP] at h; subst h; rfl
  | cons c cs ih =>
    intro vs h
    cases c <;> simp only [allP] at h <;> first | (cases h; done) | skip
    obtain ⟨us, hu, rfl⟩ := Option.map_eq_some_iff.1 h
    rw [ih hu]
    rfl
theorem opBuildNest_sound (hE : EnvOK P E) (hs : SR w Im ρ o) {T : TypeId} {n : Nat} {t : List AV} {ev : Operand → Value} {ps : Array (Nat × Operand)} (hra : ∀ q ∈ ps.toList, RA w Im ρ o (aval t q.2) (ev q.2)) (h : opBuildNest E T n t ps.toList o K = some r) :
    Did P w Im ρ o K r (Instr.buildSlice T n (ps.map fun (i, x) => (i, ev x))) := by
  unfold opBuildNest at h
  split at h
  · rename_i k e sh by_ i0 x hnest hT hps
    split at h
    · rename_i cs hsv
      split at h
      · rename_i id2 ver2 sh2 lo len hcj
        split at h
        · rename_i e2 sh2' ver2' ys ho2
          obtain ⟨hcnd, h9⟩ := bif_some h
          clear h
          simp only [Bool.and_eq_true, beq_iff_eq, decide_eq_true_eq] at hcnd
          obtain ⟨⟨⟨⟨⟨⟨⟨⟨rfl, rfl⟩, hsm⟩, rfl⟩, rfl⟩, rfl⟩, rfl⟩, rfl⟩, hlen⟩ := hcnd
          obtain ⟨vs, hvs, h8⟩ := bind_some h9
          clear h9
          obtain ⟨hshp1, hkk⟩ := bif_some h8
          clear h8
          have hcs := allP_some hvs
          have hpa : ps = #[(0, x)] := by rw [← Array.toArray_toList (xs := ps), hps]
          have hx := hra (0, x) (by rw [hps]; simp)
          simp only [sv_some hsv] at hx
          obtain ⟨us, hux, hul, hur, hu1⟩ := hx
          have hjl : k.j < cs.length := (List.getElem?_eq_some_iff.1 hcj).1
          obtain ⟨y, hy⟩ : ∃ y, us[k.j]? = some y := ⟨us[k.j]'(by omega), by simp [hul, hjl]⟩
          have hb := hur k.j _ y hcj hy
          simp only [RC, ho2] at hb
          obtain ⟨_, v2, hρ2, hsl2⟩ := hb.2 trivial trivial
          obtain ⟨vals2, hown2, hshp2, hrp2, hbk2, _⟩ := hs.ob id2 _ _ ho2 hρ2
          replace hrp2 : ∀ (i : Nat) (x : PV) (j : Nat) (c : PV) (y : Value), ys[i]? = some x → x.cells[j]? = some c → vals2[i * csz k.sh + j]? = some y → RP w Im c y := hrp2
          obtain ⟨hyo, hyb⟩ := own_take (lo := 0) hown2 hsl2 hlen
          have hyc := own_kid hyo
          have hyB : ∀ b, kidBlk y b → Blk v2 b := fun b hb => main_Blk ((hyb b).1 (kid_Blk hb))
          have hvl : vs.length = cs.length := by rw [← List.length_map (f := CV.p), ← hcs]; simp
          have hsh : csz sh = cs.length := by rw [← hvl]; exact (PV.shp_len hshp1).symm
          have hucs : (ev x).cells.size = csz sh := by rw [hux]; show us.size = csz sh; omega
          obtain ⟨cells, hrun, hcsz, hcget⟩ := run_build1 hE hT hsm hucs w
          have hcu : ∀ j, j < csz sh → cells[j]? = us[j]? := fun j hj => by rw [hcget j hj, hux]; rfl
          have hlt2 := (hs.lt id2 _ hρ2).1
          have hltb := (hs.lt id2 _ hρ2).2
          have hpush : ∀ b, b < w.heap.size → (w.alloc (.cells cells e)).heap[b]? = w.heap[b]? := fun b hb => push_old _ _ _ hb
          have him : ∀ b, Im b → Im b ∧ (w.alloc (.cells cells e)).heap[b]? = w.heap[b]? := fun b hb => ⟨hb, hpush b (hs.im b hb)⟩
          obtain ⟨V, hVd⟩ : ∃ V, V = Value.tuple [Value.slice (some ⟨w.heap.size, 0, none⟩) 1 1, y].toArray := ⟨_, rfl⟩
          have hVm : mainV V = Value.slice (some ⟨w.heap.size, 0, none⟩) 1 1 := by rw [hVd]; rfl
          have hVb : ∀ b, Blk V b → b = w.heap.size ∨ Blk v2 b := by
            intro b hb
            rw [hVd] at hb
            obtain ⟨q, u, hq, hub⟩ := hb
            match q, hq with
            | 0, hq => simp at hq; subst hq; exact .inl (by simpa using hub.symm)
            | 1, hq => simp at hq; subst hq; exact .inr (hyB b hub)
            | q + 2, hq => simp at hq
          obtain ⟨X, hX⟩ : ∃ X, X = AObj.arr ⟨e, some { k with nv := 0, hole := none }⟩ sh 0 false [.agg vs] := ⟨_, rfl⟩
          rw [← hX] at hkk
          have hoid2 : (o.set id2 .dead ++ [X])[id2]? = some .dead := by rw [List.getElem?_append_left (by simpa using hlt2), List.getElem?_set_self hlt2]
          have holen : (o.set id2 .dead ++ [X])[o.length]? = some X := by rw [List.getElem?_append_right (by simp)]; simp
          obtain ⟨R, hR⟩ : ∃ R, R = upd (upd ρ id2 none) o.length (some V) := ⟨_, rfl⟩
          have hRid2 : R id2 = none := by rw [hR, upd_ne (by omega), upd_same]
          have hRlen : R o.length = some V := by rw [hR, upd_same]
          have hRne : ∀ q, q ≠ id2 → q ≠ o.length → R q = ρ q := fun q h1 h2 => by rw [hR, upd_ne h2, upd_ne h1]
          have hnone : ρ o.length = none := by
            cases h : ρ o.length with
            | none => rfl
            | some u => have := (hs.lt _ u h).1; omega
          have hc : Compat ρ R o (o.set id2 .dead ++ [X]) := by
            intro q a hq
            have hql := (List.getElem?_eq_some_iff.1 hq).1
            by_cases e2 : q = id2
            · subst e2
              rw [ho2] at hq
              injection hq with hq
              subst hq
              exact ⟨.dead, hoid2, trivial⟩
            · refine ⟨a, by rw [List.getElem?_append_left (by simpa using hql), List.getElem?_set_ne (Ne.symm e2)]; exact hq, ?_⟩
              rw [hRne q e2 (by omega)]
              cases a <;> simp [CompatO]
          have hst := Step.multi (w' := w.alloc (.cells cells e)) (ρ' := R) (o' := o.set id2 .dead ++ [X]) hs ⟨rfl, rfl, rfl, by simp⟩ (fun q => q = id2 ∨ q = o.length) (by simp) ?_ ?_ hc ?_ ?_ ?_ ?_ ?_ ?_ ?_ ?_ ?_
          · refine ⟨_, _, .slice (some ⟨w.heap.size, 0, none⟩) 1 1, _, Im, _, hkk, by rw [hpa]; simpa using hrun, hst, ?_⟩
            simp only [RA, RS, RC, holen]
            rw [hX]
            refine ⟨Nat.le_refl _, fun _ _ => ⟨by simp, V, hRlen, ?_⟩⟩
            rw [hVm]
            exact ⟨0, rfl, by omega, fun _ => by simp⟩
          · intro q hq hql
            simp only [not_or] at hq
            exact ⟨by rw [List.getElem?_append_left (by simpa using hql), List.getElem?_set_ne (Ne.symm hq.1)], hRne q hq.1 hq.2⟩
          · intro q hql hq
            simp only [not_or] at hq
            refine ⟨List.getElem?_eq_none (by simp; omega), ?_⟩
            rw [hRne q hq.1 hq.2]
            cases h : ρ q with
            | none => rfl
            | some u => have := (hs.lt q u h).1; omega
          · intro b hb _
            exact hpush b hb
          · rintro q v' b (rfl | rfl) hv' hb
            · rw [hρ2] at hv'
              injection hv' with hv'
              subst hv'
              exact (hbk2 b hb).1 rfl
            · rw [hnone] at hv'; cases hv'
          · rintro q v' b (rfl | rfl) hv' hb
            · rw [hRid2] at hv'; cases hv'
            · rw [hRlen] at hv'
              injection hv' with hv'
              subst hv'
              rcases hVb b hb with h1 | h1
              · exact .inr (by omega)
              · exact .inl ⟨id2, _, .inl rfl, hρ2, h1⟩
          · rintro q v' (rfl | rfl) hv'
            · rw [hRid2] at hv'; cases hv'
            · rw [hRlen] at hv'
              injection hv' with hv'
              subst hv'
              refine ⟨by simp, fun b hb => ?_⟩
              rcases hVb b hb with h1 | h1
              · simp; omega
              · have := hltb b h1; simp; omega
          · rintro q q' v' v1 b (rfl | rfl) (rfl | rfl) h1 h2 h3 h4
            · rfl
            · rw [hRid2] at h1; cases h1
            · rw [hRid2] at h2; cases h2
            · rfl
          · rintro q a v' (rfl | rfl) ha' hv'
            · rw [hRid2] at hv'; cases hv'
            · rw [holen] at ha'
              rw [hRlen] at hv'
              injection ha' with ha'
              injection hv' with hv'
              subst ha'
              subst hv'
              rw [hX]
              have hxl : (ys.take len).length = len := by simp; omega
              have hcl : cells.toList.length = csz sh := by simpa using hcsz
              have hylt : (w.alloc (.cells cells e)).ownsRow 0 k.e (csz k.sh) y len (vals2.take (len * csz k.sh)) := ownsRow_main (fun b hb => hpush b (hltb b (hyB b hb))) hyo
              have hown' : (w.alloc (.cells cells e)).ownsRow 0 e (csz sh) (.slice (some ⟨w.heap.size, 0, none⟩) 1 1) 1 cells.toList := by
                refine ⟨by simp [hcl], .inr ⟨w.heap.size, 1, cells, rfl, Nat.zero_le _, push_new _ _, Nat.le_refl _, by simp [maxLen], by omega, ?_⟩⟩
                rw [Nat.one_mul, ← hcl, List.take_length]
              refine ⟨cells.toList, by rw [hVm]; exact hown', by simpa using hshp1, ?_, fun b hb => ⟨fun _ hI => ?_, fun h => nomatch h⟩, rfl, [y], by rw [hVm, hVd], ⟨rfl, by show k.j < csz sh; omega, ?_, (fun p u h => nomatch h), ?_, ?_⟩, ?_⟩
              · intro p x1 j c u hx1 hj hu
                show j ≠ k.j → RP _ Im c u
                intro hjk
                cases p with
                | succ p => simp at hx1
                | zero =>
                  simp at hx1
                  subst hx1
                  replace hj : vs[j]? = some c := hj
                  have hjl2 : j < csz sh := by rw [hsh, ← hvl]; exact (List.getElem?_eq_some_iff.1 hj).1
                  rw [Nat.zero_mul, Nat.zero_add, Array.getElem?_toList, hcu j hjl2] at hu
                  have hcj2 : cs[j]? = some (.p c) := by
                    have h1 : (cs.set k.j (.p (.row k.sh 0 (ys.take len))))[j]? = some (.p c) := by rw [hcs]; simp [hj]
                    rwa [List.getElem?_set_ne (Ne.symm hjk)] at h1
                  exact RP.mono him (hur j _ u hcj2 hu)
              · rcases hVb b hb with h1 | h1
                · have := hs.im b hI; omega
                · exact (hbk2 b h1).1 rfl hI
              · intro p x1 hx1 _
                cases p with
                | succ p => simp at hx1
                | zero =>
                  simp at hx1
                  subst hx1
                  have hvj : vs[k.j]? = some (.row k.sh 0 (ys.take len)) := by
                    have h1 : (cs.set k.j (.p (.row k.sh 0 (ys.take len))))[k.j]? = some (.p (.row k.sh 0 (ys.take len))) := List.getElem?_set_self hjl
                    rw [hcs] at h1
                    simpa using h1
                  refine ⟨0, _, y, hvj, .inl rfl, rfl, ?_, _, by rw [hxl]; exact hylt, fun x hx => hshp2 x (List.mem_of_mem_take hx), ?_⟩
                  · rw [Nat.zero_mul, Nat.zero_add, Array.getElem?_toList, hcu k.j (by omega)]
                    exact hy
                  · intro q x j c u hx hj hu
                    have hql : q < len := by have := (List.getElem?_eq_some_iff.1 hx).1; rwa [hxl] at this
                    rw [List.getElem?_take_of_lt hql] at hx
                    have hu' : vals2[q * csz k.sh + j]? = some u := by
                      rw [List.getElem?_take] at hu
                      split at hu
                      · exact hu
                      · cases hu
                    exact RP.mono him (hrp2 q x j c u hx hj hu')
              · intro p p' u u' b h1 h2 _ _
                have h3 := (List.getElem?_eq_some_iff.1 h1).1
                have h4 := (List.getElem?_eq_some_iff.1 h2).1
                simp at h3 h4
                omega
              · intro p u hu
                have hp2 : p < csz sh := by rw [← hcl]; exact (List.getElem?_eq_some_iff.1 hu).1
                rw [Array.getElem?_toList, hcu p hp2] at hu
                exact hu1 p u hu
              · intro p u b hp2 hb
                rw [hVm]
                cases p with
                | succ p => simp at hp2
                | zero =>
                  simp at hp2
                  subst hp2
                  intro h
                  have := hltb b (hyB b hb)
                  simp at h
                  omega
          · rintro q (rfl | rfl) hd
            · exact hRid2
            · rw [holen, hX] at hd; cases hd
          · rintro q a (rfl | rfl) ha' hd
            · rw [hoid2] at ha'; injection ha' with ha'; exact absurd ha'.symm hd
            · exact ⟨_, hRlen⟩
          · rintro q (rfl | rfl) hql h0
            · rw [hρ2] at h0; cases h0
            · omega
        · cases h
      · cases h
    · cases h
  · cases h
theorem opAppendNest_sound (hE : EnvOK P E) (hs : SR w Im ρ o) {T ty : TypeId} {a b : AV} {x y : Value} (ha : RA w Im ρ o a x) (hb : RA w Im ρ o b y) (h : opAppendNest E T a b o K = some r) : Did P w Im ρ o K r (Builtin.append_ #[T, T] ty #[x, y]) := by
  unfold opAppendNest at h
  split at h
  · rename_i e sh by_ id ver sh1 lo len id2 ver2 sh2 lo2 len2 hT hca hcb
    rw [cv_some hca] at ha
    rw [cv_some hcb] at hb
    split at h
    · rename_i e1 sh1' ver' xs e2 sh2' ver2' ys ho ho2
      split at h
      · rename_i k1 k2 hk1 hk2
        obtain ⟨hcnd, hkk⟩ := bif_some h
        clear h
        simp only [Bool.and_eq_true, beq_iff_eq, bne_iff_ne, decide_eq_true_eq, Option.isNone_iff_eq_none] at hcnd
        obtain ⟨⟨⟨⟨⟨⟨⟨⟨⟨⟨⟨⟨⟨⟨⟨⟨⟨⟨⟨het, het2⟩, hj⟩, hke⟩, hksh⟩, hh1⟩, hh2⟩, rfl⟩, rfl⟩, rfl⟩, rfl⟩, rfl⟩, rfl⟩, rfl⟩, rfl⟩, hne⟩, rfl⟩, rfl⟩, hlb⟩, hll⟩ := hcnd
        simp only [RA, RS, RC, ho] at ha
        obtain ⟨_, v, hρ, hsl⟩ := ha.2 trivial trivial
        simp only [RA, RS, RC, ho2] at hb
        obtain ⟨_, v2, hρ2, hsl2⟩ := hb.2 trivial trivial
        obtain ⟨vals, hown, hshp, hrp, hbk, hkids⟩ := hs.ob id _ _ ho hρ
        obtain ⟨vals2, hown2, hshp2, hrp2, hbk2, hkids2⟩ := hs.ob id2 _ _ ho2 hρ2
        simp only [RKids, hk1] at hkids
        simp only [RKids, hk2] at hkids2
        obtain ⟨_, ks, hv, hks, hdis⟩ := hkids
        obtain ⟨_, ks2, hv2, hks2, hdis2⟩ := hkids2
        obtain ⟨hx, hxb⟩ := own_take (lo := 0) hown hsl (Nat.le_refl _)
        obtain ⟨hy, hyb⟩ := own_take (lo := 0) hown2 hsl2 (Nat.le_refl _)
        have e1v : vals.take (xs.length * csz sh) = vals := by rw [← hown.1, List.take_length]
        have e2v : vals2.take (ys.length * csz sh) = vals2 := by rw [← hown2.1, List.take_length]
        rw [e1v, het] at hx
        rw [e2v, het2] at hy
        obtain ⟨hu, ⟨inf, z, hi, hsz, hby, hiz, hzs⟩, _⟩ := hE.sl T e sh by_ hT
        have hp := csz_pos sh
        have hlim : xs.length + ys.length ≤ maxLen := by simp only [maxLen]; simp only [LIM] at hll; omega
        have main : ∃ (v' : Value) (w' : World), (Builtin.append_ #[T, T] ty #[x, y]).run P w = .ok v' w' ∧ w'.ownsRow 0 e (csz sh) v' (xs.length + ys.length) (vals ++ vals2) ∧ w.grownBy w' x.ownBlock ∧ (v'.ownBlock = x.ownBlock ∨ v'.ownBlock = some w.heap.size) := by
          rcases hy.2 with ⟨rfl, hy0⟩ | ⟨g2, cap2, cur2, rfl, _⟩
          · have hys0 : ys = [] := List.eq_nil_of_length_eq_zero hy0
            have hv20 : vals2 = [] := List.eq_nil_of_length_eq_zero (by rw [hown2.1, hy0]; simp)
            subst hys0
            subst hv20
            refine ⟨x, w, ?_, by simpa using hx, ⟨rfl, rfl, rfl, Nat.le_refl _, fun _ _ _ => rfl⟩, .inl rfl⟩
            rcases hx.2 with ⟨rfl, hn⟩ | ⟨g, cap, cur, rfl, _, _, hnc, _⟩
            · exact run_append_none hu hi none none 0 0 0 (Nat.le_refl _) w
            · exact run_append_none hu hi _ none _ cap 0 hnc w
          · obtain ⟨v', w', hrun, hown', hgr, _, hat⟩ := run_append_own_at (P := P) w 0 T ty e inf z (csz sh) by_ hu hi hiz hsz hby hzs hp x xs.length _ hx ⟨g2, 0, none⟩ ys.length cap2 vals2 hown2.1 (hy.cells (g := g2) rfl) (fun u hu => by
              obtain ⟨p, hp⟩ := List.getElem?_of_mem hu
              exact hks2.one p u hp) hlim (by simpa [LIM] using hlb) (Nat.zero_le _)
            exact ⟨v', w', hrun, hown', hgr, hat⟩
        obtain ⟨v', w', hrun, hown', hgr, hat⟩ := main
        have hxB : ∀ b, x.ownBlock = some b → kidBlk (mainV v) b := by
          intro b hb
          refine (hxb b).1 ?_
          rcases hx.2 with ⟨rfl, _⟩ | ⟨g, cap, cur, rfl, _⟩
          · cases hb
          · simp [Value.ownBlock] at hb; subst hb; rfl
        have hvb : ∀ b, kidBlk v' b → kidBlk (mainV v) b ∨ b = w.heap.size := by
          intro b hb
          have h1 := ((own_kid hown').2.2 b).1 hb
          rcases hat with h2 | h2
          · exact .inl (hxB b (h2 ▸ h1))
          · rw [h2] at h1; injection h1 with h1; exact .inr h1.symm
        have hcross : ∀ b, Blk v b → Blk v2 b → False := fun b h1 h2 => hne (hs.inj id id2 v v2 b hρ hρ2 h1 h2)
        have hunch : ∀ b, b < w.heap.size → ¬ kidBlk (mainV v) b → w'.heap[b]? = w.heap[b]? := fun b hb hne => hgr.block b hb fun h => hne (hxB b h.symm)
        have hlt := (hs.lt id _ hρ).1
        have hlt2 := (hs.lt id2 _ hρ2).1
        have hltb := (hs.lt id _ hρ).2
        have hltb2 := (hs.lt id2 _ hρ2).2
        have him : ∀ b, Im b → Im b ∧ w'.heap[b]? = w.heap[b]? := fun b hb => ⟨hb, hunch b (hs.im b hb) fun h => (hbk b (main_Blk h)).1 rfl hb⟩
        obtain ⟨V, hVd⟩ : ∃ V, V = Value.tuple (v' :: (ks ++ ks2)).toArray := ⟨_, rfl⟩
        have hVm : mainV V = v' := by rw [hVd]; rfl
        have hkk2 : ∀ (q : Nat) (u : Value), (ks ++ ks2)[q]? = some u → (q < xs.length ∧ ks[q]? = some u) ∨ (xs.length ≤ q ∧ ks2[q - xs.length]? = some u) := by
          intro q u hq
          rcases Nat.lt_or_ge q ks.length with h1 | h1
          · rw [List.getElem?_append_left h1] at hq
            exact .inl ⟨by rw [← hks.len]; exact h1, hq⟩
          · rw [List.getElem?_append_right h1] at hq
            exact .inr ⟨by rw [← hks.len]; exact h1, by rw [← hks.len]; exact hq⟩
        have hVb : ∀ b, Blk V b → Blk v b ∨ Blk v2 b ∨ b = w.heap.size := by
          intro b hb
          rw [hVd] at hb
          obtain ⟨q, u, hq, hub⟩ := hb
          cases q with
          | zero =>
            simp at hq
            subst hq
            rcases hvb b hub with h1 | h1
            · exact .inl (main_Blk h1)
            · exact .inr (.inr h1)
          | succ q =>
            rcases hkk2 q u (by simpa using hq) with ⟨_, h1⟩ | ⟨_, h1⟩
            · exact .inl (kids_Blk hv h1 hub)
            · exact .inr (.inl (kids_Blk hv2 h1 hub))
        obtain ⟨X, hX⟩ : ∃ X, X = AObj.arr e1 sh (ver + 1) false (xs ++ ys) := ⟨_, rfl⟩
        rw [← hX] at hkk
        have hoid : ((o.set id X).set id2 .dead)[id]? = some X := by rw [List.getElem?_set_ne (Ne.symm hne), List.getElem?_set_self hlt]
        have hoid2 : ((o.set id X).set id2 .dead)[id2]? = some .dead := by rw [List.getElem?_set_self (by simpa using hlt2)]
        obtain ⟨R, hR⟩ : ∃ R, R = upd (upd ρ id (some V)) id2 none := ⟨_, rfl⟩
        have hRid : R id = some V := by rw [hR, upd_ne hne, upd_same]
        have hRid2 : R id2 = none := by rw [hR, upd_same]
        have hRne : ∀ q, q ≠ id → q ≠ id2 → R q = ρ q := fun q h1 h2 => by rw [hR, upd_ne h2, upd_ne h1]
        have hc : Compat ρ R o ((o.set id X).set id2 .dead) := by
          intro q a hq
          by_cases e1 : q = id
          · subst e1
            rw [ho] at hq
            injection hq with hq
            subst hq
            refine ⟨X, hoid, ?_⟩
            rw [hX]
            exact Or.inl (Nat.lt_succ_self _)
          · by_cases e2 : q = id2
            · subst e2
              rw [ho2] at hq
              injection hq with hq
              subst hq
              exact ⟨.dead, hoid2, trivial⟩
            · refine ⟨a, by rw [List.getElem?_set_ne (Ne.symm e2), List.getElem?_set_ne (Ne.symm e1)]; exact hq, ?_⟩
              rw [hRne q e1 e2]
              cases a <;> simp [CompatO]
        have hst := Step.multi (w' := w') (ρ' := R) (o' := (o.set id X).set id2 .dead) hs ⟨hgr.os, hgr.tape, hgr.output, hgr.size⟩ (fun q => q = id ∨ q = id2) (by simp) ?_ ?_ hc ?_ ?_ ?_ ?_ ?_ ?_ ?_ ?_ ?_
        · refine ⟨_, _, v', w', Im, _, hkk, hrun, hst, ?_⟩
          simp only [RA, RS, RC, hoid]
          rw [hX]
          refine ⟨Nat.le_refl _, fun _ _ => ⟨by simp, V, hRid, ?_⟩⟩
          rw [hVm]
          exact ownsRow_self hown'
        · intro q hq hql
          simp only [not_or] at hq
          exact ⟨by rw [List.getElem?_set_ne (Ne.symm hq.2), List.getElem?_set_ne (Ne.symm hq.1)], hRne q hq.1 hq.2⟩
        · intro q hql hq
          simp only [not_or] at hq
          refine ⟨List.getElem?_eq_none (by simp; omega), ?_⟩
          rw [hRne q hq.1 hq.2]
          cases h : ρ q with
          | none => rfl
          | some u => have := (hs.lt q u h).1; omega
        · intro b hb hno
          exact hunch b hb fun h => hno id v (.inl rfl) hρ (main_Blk h)
        · rintro q v' b (rfl | rfl) hv' hb
          · rw [hρ] at hv'
            injection hv' with hv'
            subst hv'
            exact (hbk b hb).1 rfl
          · rw [hρ2] at hv'
            injection hv' with hv'
            subst hv'
            exact (hbk2 b hb).1 rfl
        · rintro q v' b (rfl | rfl) hv' hb
          · rw [hRid] at hv'
            injection hv' with hv'
            subst hv'
            rcases hVb b hb with h1 | h1 | h1
            · exact .inl ⟨q, _, .inl rfl, hρ, h1⟩
            · exact .inl ⟨id2, _, .inr rfl, hρ2, h1⟩
            · exact .inr (by omega)
          · rw [hRid2] at hv'; cases hv'
        · rintro q v1 (rfl | rfl) hv'
          · rw [hRid] at hv'
            injection hv' with hv'
            subst hv'
            refine ⟨by simpa using hlt, fun b hb => ?_⟩
            rw [hVd] at hb
            obtain ⟨p, u, hq, hub⟩ := hb
            cases p with
            | zero =>
              simp at hq
              subst hq
              exact ownsRow_lt hown' b (kid_Blk hub)
            | succ p =>
              rcases hkk2 p u (by simpa using hq) with ⟨_, h1⟩ | ⟨_, h1⟩
              · exact Nat.lt_of_lt_of_le (hltb b (kids_Blk hv h1 hub)) hgr.size
              · exact Nat.lt_of_lt_of_le (hltb2 b (kids_Blk hv2 h1 hub)) hgr.size
          · rw [hRid2] at hv'; cases hv'
        · rintro q q' v' v1 b (rfl | rfl) (rfl | rfl) h1 h2 h3 h4
          · rfl
          · rw [hRid2] at h2; cases h2
          · rw [hRid2] at h1; cases h1
          · rfl
        · rintro q a v1 (rfl | rfl) ha' hv'
          · rw [hoid] at ha'
            rw [hRid] at hv'
            injection ha' with ha'
            injection hv' with hv'
            subst ha'
            subst hv'
            rw [hX]
            have split : ∀ (p : Nat) (x : PV), (xs ++ ys)[p]? = some x → (p < xs.length ∧ xs[p]? = some x) ∨ (xs.length ≤ p ∧ ys[p - xs.length]? = some x) := by
              intro p x hp
              rcases Nat.lt_or_ge p xs.length with h1 | h1
              · rw [List.getElem?_append_left h1] at hp; exact .inl ⟨h1, hp⟩
              · rw [List.getElem?_append_right h1] at hp; exact .inr ⟨h1, hp⟩
            have vget : ∀ (p j : Nat), j < csz sh → (p < xs.length → (vals ++ vals2)[p * csz sh + j]? = vals[p * csz sh + j]?) ∧ (xs.length ≤ p → (vals ++ vals2)[p * csz sh + j]? = vals2[(p - xs.length) * csz sh + j]?) := by
              intro p j hj
              refine ⟨fun h => ?_, fun h => ?_⟩
              · have := get_flat h hj
                rw [List.getElem?_append_left (by rw [hown.1]; exact this)]
              · have h1 : xs.length * csz sh ≤ p * csz sh := Nat.mul_le_mul_right _ h
                rw [List.getElem?_append_right (by rw [hown.1]; omega), hown.1, Nat.sub_mul]
                congr 1
                omega
            have hnk : ∀ (q : Nat) (u : Value) (b : Nat), ks[q]? = some u → kidBlk u b → w'.heap[b]? = w.heap[b]? := fun q u b h1 h2 => hunch b (hltb b (kids_Blk hv h1 h2)) (hdis q u b h1 h2)
            have hnk2 : ∀ (q : Nat) (u : Value) (b : Nat), ks2[q]? = some u → kidBlk u b → w'.heap[b]? = w.heap[b]? := fun q u b h1 h2 => hunch b (hltb2 b (kids_Blk hv2 h1 h2)) fun h => hcross b (main_Blk h) (kids_Blk hv2 h1 h2)
            refine ⟨vals ++ vals2, by rw [hVm, List.length_append, het]; exact hown', ?_, ?_, fun b hb => ⟨fun _ hI => ?_, fun h => nomatch h⟩, ?_⟩
            · intro x hx
              rcases List.mem_append.1 hx with hx | hx
              · exact hshp x hx
              · exact hshp2 x hx
            · intro p x j c u hx hjc hu
              have hjl : j < csz sh := by
                rcases split p x hx with ⟨_, h2⟩ | ⟨_, h2⟩
                · rw [← PV.shp_len (hshp x (List.mem_of_getElem? h2))]; exact (List.getElem?_eq_some_iff.1 hjc).1
                · rw [← PV.shp_len (hshp2 x (List.mem_of_getElem? h2))]; exact (List.getElem?_eq_some_iff.1 hjc).1
              unfold RPk
              rw [hk1]
              intro hjk
              rcases split p x hx with ⟨h1, h2⟩ | ⟨h1, h2⟩
              · rw [(vget p j hjl).1 h1] at hu
                have h4 := hrp p x j c u h2 hjc hu
                unfold RPk at h4
                rw [hk1] at h4
                exact RP.mono him (h4 hjk)
              · rw [(vget p j hjl).2 h1] at hu
                have h4 := hrp2 _ x j c u h2 hjc hu
                unfold RPk at h4
                rw [hk2] at h4
                exact RP.mono him (h4 (by rw [← hj]; exact hjk))
            · rcases hVb b hb with h1 | h1 | h1
              · exact (hbk b h1).1 rfl hI
              · exact (hbk2 b h1).1 rfl hI
              · have := hs.im b hI; omega
            · unfold RKids
              rw [hk1]
              refine ⟨rfl, ks ++ ks2, by rw [hVm, hVd], ⟨by simp [hks.len, hks2.len], hks.jlt, ?_, ?_, ?_, ?_⟩, ?_⟩
              · intro p x1 hx1 _
                rcases split p x1 hx1 with ⟨h1, h2⟩ | ⟨h1, h2⟩
                · obtain ⟨f2, ys2, u2, c1, c2, c3, c4, c5⟩ := hks.kid p x1 h2 (by rw [hh1]; simp)
                  exact ⟨f2, ys2, u2, c1, c2, by rw [List.getElem?_append_left (by rw [hks.len]; exact h1)]; exact c3, by rw [(vget p k1.j hks.jlt).1 h1]; exact c4, c5.keep him fun b hb => hnk p u2 b c3 hb⟩
                · obtain ⟨f2, ys2, u2, c1, c2, c3, c4, c5⟩ := hks2.kid _ x1 h2 (by rw [hh2]; simp)
                  refine ⟨f2, ys2, u2, by rw [hj, hksh]; exact c1, c2, by rw [List.getElem?_append_right (by rw [hks.len]; exact h1), hks.len]; exact c3, by rw [(vget p k1.j hks.jlt).2 h1, hj]; exact c4, ?_⟩
                  rw [hke, hksh]
                  exact c5.keep him fun b hb => hnk2 _ u2 b c3 hb
              · intro p u h; rw [hh1] at h; cases h
              · intro p p' u u' b h1 h2 h3 h4
                rcases hkk2 p u h1 with ⟨a1, a2⟩ | ⟨a1, a2⟩ <;> rcases hkk2 p' u' h2 with ⟨b1, b2⟩ | ⟨b1, b2⟩
                · exact hks.inj p p' u u' b a2 b2 h3 h4
                · exact (hcross b (kids_Blk hv a2 h3) (kids_Blk hv2 b2 h4)).elim
                · exact (hcross b (kids_Blk hv b2 h4) (kids_Blk hv2 a2 h3)).elim
                · have := hks2.inj _ _ u u' b a2 b2 h3 h4; omega
              · intro p u hu
                rcases Nat.lt_or_ge p vals.length with h1 | h1
                · rw [List.getElem?_append_left h1] at hu; exact hks.one p u hu
                · rw [List.getElem?_append_right h1] at hu; exact hks2.one _ u hu
              · intro p u b hp2 hb h
                rw [hVm] at h
                have hlb : b < w.heap.size := by
                  rcases hkk2 p u hp2 with ⟨_, a2⟩ | ⟨_, a2⟩
                  · exact hltb b (kids_Blk hv a2 hb)
                  · exact hltb2 b (kids_Blk hv2 a2 hb)
                rcases hvb b h with h1 | h1
                · rcases hkk2 p u hp2 with ⟨_, a2⟩ | ⟨_, a2⟩
                  · exact hdis p u b a2 hb h1
                  · exact hcross b (main_Blk h1) (kids_Blk hv2 a2 hb)
                · omega
          · rw [hRid2] at hv'; cases hv'
        · rintro q (rfl | rfl) hd
          · rw [hoid, hX] at hd; cases hd
          · exact hRid2
        · rintro q a (rfl | rfl) ha' hd
          · exact ⟨_, hRid⟩
          · rw [hoid2] at ha'; injection ha' with ha'; exact absurd ha'.symm hd
        · rintro q (rfl | rfl) hql h0
          · rw [hρ] at h0; cases h0
          · rw [hρ2] at h0; cases h0
      · cases h
    · cases h
  · cases h
end
end Go.Dp
