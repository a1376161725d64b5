/- What makes and writes memory. -/
import Derived.Test.YtnliglgellapdaaDp5
set_option linter.unusedVariables false
set_option linter.unusedSimpArgs false
namespace Go.Dp
section
variable {P : Program} {E : Env} {w w' : World} {Im Im' : Nat → Prop} {ρ ρ' : Nat → Option Value} {o o' : List AObj} {K : Kt} {r : List SV × List (List CV)}

/-! ### Letting go -/
theorem get_flat {i j s n : Nat} (hi : i < n) (hj : j < s) : i * s + j < n * s := by
  have : (i + 1) * s ≤ n * s := Nat.mul_le_mul_right _ hi
  rw [Nat.add_mul] at this
  omega
/-- A row let go. -/
theorem Row1.rp {Im2 : Nat → Prop} {e sh : Nat} {u : Value} {ys : List PV} (h : Row1 w Im e sh u ys) (hi : ∀ b, Im b → Im2 b) (hb : ∀ b, kidBlk u b → Im2 b) : RP w Im2 (.row sh 0 ys) u := by
  obtain ⟨vals, hown, hshp, hrp⟩ := h
  have hm : ∀ b, Im b → Im2 b ∧ w.heap[b]? = w.heap[b]? := fun b h => ⟨hi b h, rfl⟩
  rcases hown.2 with ⟨rfl, hn⟩ | ⟨g, cap, cu, rfl, _, hh, hnc, hcm, hcs, htk⟩
  · rw [List.eq_nil_of_length_eq_zero hn]
    exact RP.nil sh 0 (by decide)
  · have hjl : ∀ (i : Nat) (x : PV) (j : Nat) (c : PV), ys[i]? = some x → x.cells[j]? = some c → vals[i * csz sh + j]? = some vals[i * csz sh + j]! := by
      intro i x j c hx hj
      have h1 : j < csz sh := by rw [← PV.shp_len (hshp x (List.mem_of_getElem? hx))]; exact (List.getElem?_eq_some_iff.1 hj).1
      have h2 := get_flat (List.getElem?_eq_some_iff.1 hx).1 h1
      rw [← hown.1] at h2
      simp [h2]
    refine RP.row (w := w) (Im := Im2) sh 0 ys ⟨g, 0, none⟩ cap (fun k => vals[k]!) (by decide) rfl hnc hcm (fun h => by omega) (fun _ => hb g rfl) (fun i x hx => hshp x (List.mem_of_getElem? hx)) ?_ ?_
    · intro i x j c hx hj
      have := hown.cells (g := g) rfl (i * csz sh + j) _ (hjl i x j c hx hj)
      rw [add_at, Nat.zero_add] at this
      simpa using this
    · intro i x j c hx hj
      exact RP.mono hm (hrp i x j c _ hx hj (hjl i x j c hx hj))
theorem Step.freeze (hs : SR w Im ρ o) {id sh ver : Nat} {e : Et} {fz : Bool} {xs : List PV} (ho : o[id]? = some (.arr e sh ver fz xs)) (hhole : ∀ k, e.kd = some k → k.hole = none) : ∃ Im', Step w Im ρ o w Im' ρ (o.set id (.arr e.t sh ver true xs)) ∧ ∀ v b, ρ id = some v → Blk v b → Im' b := by
  have hlt := (List.getElem?_eq_some_iff.1 ho).1
  let Im' : Nat → Prop := fun b => Im b ∨ ∃ v, ρ id = some v ∧ Blk v b
  have him : ∀ b, Im b → Im' b ∧ w.heap[b]? = w.heap[b]? := fun b hb => ⟨.inl hb, rfl⟩
  have hc : Compat ρ ρ o (o.set id (.arr e.t sh ver true xs)) := by
    intro i a ha
    by_cases e1 : i = id
    · subst e1
      rw [ho] at ha
      injection ha with ha
      subst ha
      exact ⟨.arr e.t sh ver true xs, by simp [hlt], Or.inr ⟨rfl, rfl, Nat.le_refl _, rfl, KdC_none rfl⟩⟩
    · exact ⟨a, by rw [List.getElem?_set_ne (Ne.symm e1)]; exact ha, by cases a <;> simp [CompatO]⟩
  refine ⟨Im', ⟨Wd.refl w, ⟨?_, hs.inj, fun i v hv => ⟨by simpa using (hs.lt i v hv).1, (hs.lt i v hv).2⟩, ?_, ?_⟩, fun c y hy => RC.compat him hc hy, fun _ _ _ => rfl, fun i v b hv hb => .inr ⟨i, v, hv, hb⟩, him, ?_, ?_, ⟨by simp, fun _ _ h => h⟩⟩, fun v b hv hb => .inr ⟨v, hv, hb⟩⟩
  · intro i a v ha hv
    by_cases e1 : i = id
    · subst e1
      have : a = .arr e.t sh ver true xs := by simpa [hlt] using ha.symm
      subst this
      obtain ⟨vals, hown, h1, h2, h3, h4⟩ := hs.ob i _ _ ho hv
      refine ⟨vals, hown, h1, fun p x j c y a1 a2 a3 => ?_, fun b hb => And.intro (fun (hf : true = false) => nomatch hf) (fun _ => Or.inr ⟨v, hv, hb⟩), fun h => nomatch h⟩
      show RP w Im' c y
      have h5 := h2 p x j c y a1 a2 a3
      unfold RPk at h5
      split at h5
      · exact RP.mono him h5
      · rename_i k hk
        by_cases hj : j = k.j
        · subst hj
          simp only [RKids, hk] at h4
          obtain ⟨_, ks, hvk, hks, _⟩ := h4
          obtain ⟨f, ys, u, b1, b2, b3, b4, b5⟩ := hks.kid p x a1 (by rw [hhole k hk]; simp)
          rw [a2] at b1
          rw [a3] at b4
          injection b1 with b1
          injection b4 with b4
          subst b1
          subst b4
          have h6 := b5.rp (Im2 := Im') (fun b hb => .inl hb) (fun b hb => .inr ⟨v, hv, kids_Blk hvk b3 hb⟩)
          rcases b2 with rfl | ⟨rfl, rfl⟩
          · exact h6
          · cases h6; exact RP.nil _ _ (by decide)
        · exact RP.mono him (h5 hj)
    · rw [List.getElem?_set_ne (Ne.symm e1)] at ha
      refine RO.keep him hc (fun _ _ => rfl) (fun b hb hI => ?_) (hs.ob i a v ha hv)
      rcases hI with h | ⟨u, hu, hub⟩
      · exact h
      · exact absurd (hs.inj i id v u b hv hu hb hub) e1
  · intro b hb
    rcases hb with h | ⟨u, hu, hub⟩
    · exact hs.im b h
    · exact (hs.lt id u hu).2 b hub
  · intro i hd
    by_cases e1 : i = id
    · subst e1; simp [hlt] at hd
    · rw [List.getElem?_set_ne (Ne.symm e1)] at hd; exact hs.dd i hd
  · intro b hb
    rcases hb with h | ⟨u, hu, hub⟩
    · exact .inl h
    · exact .inr (.inr ⟨id, u, hu, hub⟩)
  · intro hm i a ha hd
    by_cases e1 : i = id
    · subst e1; exact hm i _ ho (by simp)
    · rw [List.getElem?_set_ne (Ne.symm e1)] at ha; exact hm i a ha hd
/-- A slice of a row of the call's own reads as a pure row, once its block counts among those let go. -/
theorem view_sound {Im2 : Nat → Prop} (hs : SR w Im ρ o) (hi : ∀ b, Im b → Im2 b) {id ver sh lo len : Nat} {y : Value} {v : PV} (hy : RC w Im ρ o (.loc id ver sh lo len) y) (hv : viewLoc o id ver sh lo len = some v)
    (hb : ∀ u b, ρ id = some u → Blk u b → Im2 b) : RP w Im2 v y := by
  unfold viewLoc at hv
  split at hv
  · rename_i e sh' ver' fz xs ho
    obtain ⟨hcnd, hv'⟩ := bif_some hv
    simp only [Bool.and_eq_true, beq_iff_eq, Option.isNone_iff_eq_none] at hcnd
    obtain ⟨⟨rfl, rfl⟩, hkd⟩ := hcnd
    injection hv' with hv'
    subst hv'
    simp only [RC, ho] at hy
    obtain ⟨hle, u, hρ, hsl⟩ := hy.2 trivial trivial
    obtain ⟨vals, hown, hshp, hrp, _⟩ := hs.ob id _ _ ho hρ
    simp only [RPk, hkd] at hrp
    have hm : ∀ b, Im b → Im2 b ∧ w.heap[b]? = w.heap[b]? := fun b h => ⟨hi b h, rfl⟩
    have hlen : ((xs.drop lo).take len).length = len := by simp; omega
    rcases hown.2 with ⟨hmu, _⟩ | ⟨g, cap, cu, hmu, _, hh, hnc, hcm, hcs, htk⟩ <;> rw [hmu] at hsl
    · obtain ⟨rfl, rfl, rfl⟩ := hsl
      simpa using RP.nil sh 0 (by decide)
    · obtain ⟨off, rfl, hlc, hoff⟩ := hsl
      have get : ∀ i x, ((xs.drop lo).take len)[i]? = some x → i < len ∧ xs[lo + i]? = some x := by
        intro i x hx
        have h1 : i < len := by have := (List.getElem?_eq_some_iff.1 hx).1; rwa [hlen] at this
        rw [List.getElem?_take_of_lt h1, List.getElem?_drop] at hx
        exact ⟨h1, hx⟩
      have key := RP.row (w := w) (Im := Im2) sh 0 ((xs.drop lo).take len) ⟨g, off, none⟩ (cap - lo) (fun k => (vals[lo * csz sh + k]?).getD undef) (by decide) rfl (by omega) (by omega) (fun h => by omega)
        (fun _ => hb _ g hρ (main_Blk (by rw [hmu]; rfl))) (fun i x hx => hshp x (List.mem_of_getElem? (get i x hx).2)) ?_ ?_
      · rwa [hlen] at key
      all_goals
        intro i x j c hx hj
        obtain ⟨h1, hx⟩ := get i x hx
        have hjl : j < csz sh := by rw [← PV.shp_len (hshp x (List.mem_of_getElem? hx))]; exact (List.getElem?_eq_some_iff.1 hj).1
        have hvl : (lo + i) * csz sh + j < vals.length := by
          rw [hown.1]
          have h1 : (lo + i + 1) * csz sh ≤ xs.length * csz sh := Nat.mul_le_mul_right _ (by have := (List.getElem?_eq_some_iff.1 hx).1; omega)
          rw [Nat.add_mul (lo + i)] at h1
          omega
        have e1 : (lo + i) * csz sh + j = lo * csz sh + (i * csz sh + j) := by rw [Nat.add_mul, Nat.add_assoc]
        rw [e1] at hvl
        have e2 : vals[lo * csz sh + (i * csz sh + j)]? = some vals[lo * csz sh + (i * csz sh + j)] := by simp [hvl]
      · have := hown.cells (g := g) (by rw [hmu]; rfl) (lo * csz sh + (i * csz sh + j)) _ e2
        rw [add_at, Nat.zero_add] at this
        rw [hoff (.inr (by omega))]
        simp only [e2, Option.getD_some]
        exact this
      · simp only [e2, Option.getD_some]
        exact RP.mono hm (hrp (lo + i) x j c _ hx hj (by rw [e1]; exact e2))
  · cases hv
theorem freezeO_sound (hs : SR w Im ρ o) (id : Nat) : ∃ Im', Step w Im ρ o w Im' ρ (freezeO o id) ∧ ∀ e sh ver fz xs, (freezeO o id)[id]? = some (.arr e sh ver fz xs) → e.kd = none → ∀ v b, ρ id = some v → Blk v b → Im' b := by
  unfold freezeO
  split
  · rename_i e sh ver fz xs ho
    have hlt := (List.getElem?_eq_some_iff.1 ho).1
    have main : ∀ (hh : ∀ k, e.kd = some k → k.hole = none), ∃ Im', Step w Im ρ o w Im' ρ (o.set id (.arr e.t sh ver true xs)) ∧ ∀ e' sh' ver' fz' xs', (o.set id (AObj.arr e.t sh ver true xs))[id]? = some (.arr e' sh' ver' fz' xs') → e'.kd = none → ∀ v b, ρ id = some v → Blk v b → Im' b := by
      intro hh
      obtain ⟨Im', hst, hb⟩ := Step.freeze hs ho hh
      exact ⟨Im', hst, fun _ _ _ _ _ _ _ v b h1 h2 => hb v b h1 h2⟩
    cases hk : e.kd with
    | none =>
      have he : (e.t : Et) = e := by cases e; simp at hk; subst hk; rfl
      have := main (by simp [hk])
      rw [he] at this
      exact this
    | some k =>
      cases hh : k.hole with
      | none =>
        simp only [hh, Option.isNone_none, cond_true]
        exact main (by intro k2 hk2; rw [hk] at hk2; injection hk2 with hk2; subst hk2; exact hh)
      | some i =>
        simp only [hh, Option.isNone_some, cond_false]
        refine ⟨Im, Step.refl hs, fun e' sh' ver' fz' xs' h1 h2 => ?_⟩
        rw [ho] at h1
        injection h1 with h1
        injection h1 with h1
        subst h1
        rw [hk] at h2
        cases h2
  · rename_i hno
    refine ⟨Im, Step.refl hs, fun e' sh' ver' fz' xs' h1 => ?_⟩
    exact (hno e' sh' ver' fz' xs' h1).elim
theorem freezeC_sound (hs : SR w Im ρ o) {c : CV} {y : Value} {v : PV} {o1 : List AObj} (hy : RC w Im ρ o c y) (h : freezeC o c = some (v, o1)) : ∃ Im', Step w Im ρ o w Im' ρ o1 ∧ RP w Im' v y := by
  cases c with
  | p u =>
    simp [freezeC] at h
    obtain ⟨rfl, rfl⟩ := h
    exact ⟨Im, Step.refl hs, hy⟩
  | loc id ver sh lo len =>
    simp only [freezeC] at h
    obtain ⟨u, hu, he⟩ := Option.map_eq_some_iff.1 h
    injection he with e1 e2
    subst e1
    obtain ⟨Im', hst, hb⟩ := freezeO_sound hs id
    rw [e2] at hst hb
    rw [e2] at hu
    exact ⟨Im', hst, view_sound hst.sr (fun b h => h) (hst.keep _ _ hy) hu (fun u b h1 h2 => by
      unfold viewLoc at hu
      split at hu
      · rename_i e sh' ver' fz xs ho
        obtain ⟨hcnd, _⟩ := bif_some hu
        simp only [Bool.and_eq_true, Option.isNone_iff_eq_none] at hcnd
        exact hb e sh' ver' fz xs ho hcnd.2 u b h1 h2
      · cases hu)⟩
  | _ => simp [freezeC] at h
theorem freezeCs_sound {cs : List CV} : ∀ {o o1 : List AObj} {Im : Nat → Prop} {ys : List Value} {vs : List PV}, SR w Im ρ o → ys.length = cs.length → (∀ (i : Nat) (c : CV) (y : Value), cs[i]? = some c → ys[i]? = some y → RC w Im ρ o c y) → freezeCs o cs = some (vs, o1) →
    ∃ Im', Step w Im ρ o w Im' ρ o1 ∧ vs.length = cs.length ∧ ∀ (i : Nat) (v : PV) (y : Value), vs[i]? = some v → ys[i]? = some y → RP w Im' v y := by
  induction cs with
  | nil =>
    intro o o1 Im ys vs hs hl h hf
    simp [freezeCs] at hf
    obtain ⟨rfl, rfl⟩ := hf
    exact ⟨Im, Step.refl hs, rfl, fun i v y hv => by simp at hv⟩
  | cons c cs ih =>
    intro o o1 Im ys vs hs hl h hf
    cases ys with
    | nil => simp at hl
    | cons y ys =>
      simp only [freezeCs] at hf
      obtain ⟨⟨v, o2⟩, hv, hf⟩ := bind_some hf
      obtain ⟨⟨us, o3⟩, hu, hf⟩ := bind_some hf
      simp at hf
      obtain ⟨rfl, rfl⟩ := hf
      obtain ⟨Im1, hst1, hr1⟩ := freezeC_sound hs (h 0 c y rfl rfl) hv
      obtain ⟨Im2, hst2, hl2, hr2⟩ := ih hst1.sr (by simpa using hl) (fun i c' y' hc' hy' => hst1.keep _ _ (h (i + 1) c' y' (by simpa using hc') (by simpa using hy'))) hu
      refine ⟨Im2, hst1.trans hst2, by simp [hl2], ?_⟩
      intro i v' y' hv' hy'
      cases i with
      | zero =>
        simp at hv' hy'
        subst hv'
        subst hy'
        exact RP.mono (fun b hb => hst2.im b hb) hr1
      | succ i => exact hr2 i v' y' (by simpa using hv') (by simpa using hy')
theorem freezeS_sound (hs : SR w Im ρ o) {x : SV} {y : Value} {v : PV} {o1 : List AObj} (hy : RS w Im ρ o x y) (h : freezeS o x = some (v, o1)) : ∃ Im', Step w Im ρ o w Im' ρ o1 ∧ RP w Im' v y := by
  cases x with
  | c c => exact freezeC_sound hs hy h
  | agg cs =>
    simp only [freezeS] at h
    obtain ⟨⟨vs, o2⟩, hv, he⟩ := bind_some h
    simp at he
    obtain ⟨rfl, rfl⟩ := he
    obtain ⟨ys, rfl, hl, hh, h1⟩ := hy
    obtain ⟨Im', hst, hl', hr⟩ := freezeCs_sound (ys := ys.toList) hs (by simpa using hl) (fun i c y hc hy => hh i c y hc (by simpa using hy)) hv
    refine ⟨Im', hst, RP.agg vs ys (by omega) ?_ (fun i c y hc hy => hr i c y hc (by simpa using hy))⟩
    intro i c hc
    have hi : i < ys.size := by rw [hl, ← hl']; exact (List.getElem?_eq_some_iff.1 hc).1
    exact RP.one_of (hr i c ys[i] hc (by simp [hi])) (h1 i _ (by simp [hi]))
end
end Go.Dp
