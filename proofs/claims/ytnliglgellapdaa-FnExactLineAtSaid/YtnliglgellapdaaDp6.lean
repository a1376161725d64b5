/- What makes and writes memory. -/
import Derived.Test.YtnliglgellapdaaDp5
set_option linter.unusedVariables false
set_option linter.unusedSimpArgs false
namespace Go.Dp
section
variable {P : Program} {E : Env} {w w' : World} {Im Im' : Nat → Prop} {ρ ρ' : Nat → Option Value} {o o' : List AObj} {K : Kt} {r : List SV × List (List CV)}

/-! ### Letting go -/
theorem Step.freeze (hs : SR w Im ρ o) {id e sh ver : Nat} {fz : Bool} {xs : List PV} (ho : o[id]? = some (.arr e sh ver fz xs)) : ∃ Im', Step w Im ρ o w Im' ρ (o.set id (.arr e sh ver true xs)) ∧ ∀ v b, ρ id = some v → blk v = some b → Im' b := by
  have hlt := (List.getElem?_eq_some_iff.1 ho).1
  let Im' : Nat → Prop := fun b => Im b ∨ ∃ v, ρ id = some v ∧ blk v = some b
  have him : ∀ b, Im b → Im' b ∧ w.heap[b]? = w.heap[b]? := fun b hb => ⟨.inl hb, rfl⟩
  have hc : Compat ρ ρ o (o.set id (.arr e sh ver true xs)) := by
    intro i a ha
    by_cases e1 : i = id
    · subst e1
      rw [ho] at ha
      injection ha with ha
      subst ha
      exact ⟨.arr e sh ver true xs, by simp [hlt], Or.inr ⟨rfl, rfl, Nat.le_refl _, rfl⟩⟩
    · exact ⟨a, by rw [List.getElem?_set_ne (Ne.symm e1)]; exact ha, by cases a <;> simp [CompatO]⟩
  refine ⟨Im', ⟨Wd.refl w, ⟨?_, hs.inj, fun i v hv => ⟨by simpa using (hs.lt i v hv).1, (hs.lt i v hv).2⟩, ?_, ?_⟩, fun c y hy => RC.compat him hc hy, fun _ _ _ => rfl, fun i v b hv hb => .inr ⟨i, v, hv, hb⟩, him, ?_, ?_⟩, fun v b hv hb => .inr ⟨v, hv, hb⟩⟩
  · intro i a v ha hv
    by_cases e1 : i = id
    · subst e1
      have : a = .arr e sh ver true xs := by simpa [hlt] using ha.symm
      subst this
      obtain ⟨vals, hown, h1, h2, h3⟩ := hs.ob i _ _ ho hv
      exact ⟨vals, hown, h1, fun i x j c y a1 a2 a3 => RP.mono him (h2 i x j c y a1 a2 a3), fun b hb => And.intro (fun (hf : true = false) => nomatch hf) (fun _ => Or.inr ⟨v, hv, hb⟩)⟩
    · rw [List.getElem?_set_ne (Ne.symm e1)] at ha
      refine RO.keep him hc (fun _ _ => rfl) (fun b hb hI => ?_) (hs.ob i a v ha hv)
      rcases hI with h | ⟨u, hu, hub⟩
      · exact h
      · exact absurd (hs.inj i id v u b hv hu hb hub) e1
  · intro b hb
    rcases hb with h | ⟨u, hu, hub⟩
    · exact hs.im b h
    · exact (hs.lt id u hu).2 b hub
  · intro i hd
    by_cases e1 : i = id
    · subst e1; simp [hlt] at hd
    · rw [List.getElem?_set_ne (Ne.symm e1)] at hd; exact hs.dd i hd
  · intro b hb
    rcases hb with h | ⟨u, hu, hub⟩
    · exact .inl h
    · exact .inr (.inr ⟨id, u, hu, hub⟩)
  · intro hm i a ha hd
    by_cases e1 : i = id
    · subst e1; exact hm i _ ho (by simp)
    · rw [List.getElem?_set_ne (Ne.symm e1)] at ha; exact hm i a ha hd
/-- A slice of a row of the call's own reads as a pure row, once its block counts among those let go. -/
theorem view_sound {Im2 : Nat → Prop} (hs : SR w Im ρ o) (hi : ∀ b, Im b → Im2 b) {id ver sh lo len : Nat} {y : Value} {v : PV} (hy : RC w Im ρ o (.loc id ver sh lo len) y) (hv : viewLoc o id ver sh lo len = some v)
    (hb : ∀ u b, ρ id = some u → blk u = some b → Im2 b) : RP w Im2 v y := by
  unfold viewLoc at hv
  split at hv
  · rename_i e sh' ver' fz xs ho
    obtain ⟨hcnd, hv'⟩ := bif_some hv
    simp only [Bool.and_eq_true, beq_iff_eq] at hcnd
    obtain ⟨rfl, rfl⟩ := hcnd
    injection hv' with hv'
    subst hv'
    simp only [RC, ho] at hy
    obtain ⟨hle, u, hρ, hsl⟩ := hy.2 trivial trivial
    obtain ⟨vals, hown, hshp, hrp, _⟩ := hs.ob id _ _ ho hρ
    have hm : ∀ b, Im b → Im2 b ∧ w.heap[b]? = w.heap[b]? := fun b h => ⟨hi b h, rfl⟩
    have hlen : ((xs.drop lo).take len).length = len := by simp; omega
    rcases hown.2 with ⟨rfl, _⟩ | ⟨g, cap, cu, rfl, _, hh, hnc, hcm, hcs, htk⟩
    · obtain ⟨rfl, rfl, rfl⟩ := hsl
      simpa using RP.nil sh 0 (by decide)
    · obtain ⟨off, rfl, hlc, hoff⟩ := hsl
      have get : ∀ i x, ((xs.drop lo).take len)[i]? = some x → i < len ∧ xs[lo + i]? = some x := by
        intro i x hx
        have h1 : i < len := by have := (List.getElem?_eq_some_iff.1 hx).1; rwa [hlen] at this
        rw [List.getElem?_take_of_lt h1, List.getElem?_drop] at hx
        exact ⟨h1, hx⟩
      have key := RP.row (w := w) (Im := Im2) sh 0 ((xs.drop lo).take len) ⟨g, off, none⟩ (cap - lo) (fun k => (vals[lo * csz sh + k]?).getD undef) (by decide) rfl (by omega) (by omega) (fun h => by omega)
        (fun _ => hb _ g hρ rfl) (fun i x hx => hshp x (List.mem_of_getElem? (get i x hx).2)) ?_ ?_
      · rwa [hlen] at key
      all_goals
        intro i x j c hx hj
        obtain ⟨h1, hx⟩ := get i x hx
        have hjl : j < csz sh := by rw [← PV.shp_len (hshp x (List.mem_of_getElem? hx))]; exact (List.getElem?_eq_some_iff.1 hj).1
        have hvl : (lo + i) * csz sh + j < vals.length := by
          rw [hown.1]
          have h1 : (lo + i + 1) * csz sh ≤ xs.length * csz sh := Nat.mul_le_mul_right _ (by have := (List.getElem?_eq_some_iff.1 hx).1; omega)
          rw [Nat.add_mul (lo + i)] at h1
          omega
        have e1 : (lo + i) * csz sh + j = lo * csz sh + (i * csz sh + j) := by rw [Nat.add_mul, Nat.add_assoc]
        rw [e1] at hvl
        have e2 : vals[lo * csz sh + (i * csz sh + j)]? = some vals[lo * csz sh + (i * csz sh + j)] := by simp [hvl]
      · have := hown.cells (g := g) rfl (lo * csz sh + (i * csz sh + j)) _ e2
        rw [add_at, Nat.zero_add] at this
        rw [hoff (.inr (by omega))]
        simp only [e2, Option.getD_some]
        exact this
      · simp only [e2, Option.getD_some]
        exact RP.mono hm (hrp (lo + i) x j c _ hx hj (by rw [e1]; exact e2))
  · cases hv
theorem freezeC_sound (hs : SR w Im ρ o) {c : CV} {y : Value} {v : PV} {o1 : List AObj} (hy : RC w Im ρ o c y) (h : freezeC o c = some (v, o1)) : ∃ Im', Step w Im ρ o w Im' ρ o1 ∧ RP w Im' v y := by
  cases c with
  | p u =>
    simp [freezeC] at h
    obtain ⟨rfl, rfl⟩ := h
    exact ⟨Im, Step.refl hs, hy⟩
  | loc id ver sh lo len =>
    simp only [freezeC] at h
    obtain ⟨u, hu, he⟩ := Option.map_eq_some_iff.1 h
    injection he with e1 e2
    subst e1
    have ho : ∃ e sh' ver' fz xs, o[id]? = some (.arr e sh' ver' fz xs) := by
      unfold viewLoc at hu
      split at hu
      · rename_i e sh' ver' fz xs ho; exact ⟨_, _, _, _, _, ho⟩
      · cases hu
    obtain ⟨e, sh', ver', fz, xs, ho⟩ := ho
    obtain ⟨Im', hst, hb⟩ := Step.freeze hs ho
    have e3 : o1 = o.set id (.arr e sh' ver' true xs) := by rw [← e2]; simp [freezeO, ho]
    subst e3
    exact ⟨Im', hst, view_sound hs (fun b h => (hst.im b h).1) hy hu hb⟩
  | _ => simp [freezeC] at h
theorem freezeCs_sound {cs : List CV} : ∀ {o o1 : List AObj} {Im : Nat → Prop} {ys : List Value} {vs : List PV}, SR w Im ρ o → ys.length = cs.length → (∀ (i : Nat) (c : CV) (y : Value), cs[i]? = some c → ys[i]? = some y → RC w Im ρ o c y) → freezeCs o cs = some (vs, o1) →
    ∃ Im', Step w Im ρ o w Im' ρ o1 ∧ vs.length = cs.length ∧ ∀ (i : Nat) (v : PV) (y : Value), vs[i]? = some v → ys[i]? = some y → RP w Im' v y := by
  induction cs with
  | nil =>
    intro o o1 Im ys vs hs hl h hf
    simp [freezeCs] at hf
    obtain ⟨rfl, rfl⟩ := hf
    exact ⟨Im, Step.refl hs, rfl, fun i v y hv => by simp at hv⟩
  | cons c cs ih =>
    intro o o1 Im ys vs hs hl h hf
    cases ys with
    | nil => simp at hl
    | cons y ys =>
      simp only [freezeCs] at hf
      obtain ⟨⟨v, o2⟩, hv, hf⟩ := bind_some hf
      obtain ⟨⟨us, o3⟩, hu, hf⟩ := bind_some hf
      simp at hf
      obtain ⟨rfl, rfl⟩ := hf
      obtain ⟨Im1, hst1, hr1⟩ := freezeC_sound hs (h 0 c y rfl rfl) hv
      obtain ⟨Im2, hst2, hl2, hr2⟩ := ih hst1.sr (by simpa using hl) (fun i c' y' hc' hy' => hst1.keep _ _ (h (i + 1) c' y' (by simpa using hc') (by simpa using hy'))) hu
      refine ⟨Im2, hst1.trans hst2, by simp [hl2], ?_⟩
      intro i v' y' hv' hy'
      cases i with
      | zero =>
        simp at hv' hy'
        subst hv'
        subst hy'
        exact RP.mono (fun b hb => hst2.im b hb) hr1
      | succ i => exact hr2 i v' y' (by simpa using hv') (by simpa using hy')
theorem freezeS_sound (hs : SR w Im ρ o) {x : SV} {y : Value} {v : PV} {o1 : List AObj} (hy : RS w Im ρ o x y) (h : freezeS o x = some (v, o1)) : ∃ Im', Step w Im ρ o w Im' ρ o1 ∧ RP w Im' v y := by
  cases x with
  | c c => exact freezeC_sound hs hy h
  | agg cs =>
    simp only [freezeS] at h
    obtain ⟨⟨vs, o2⟩, hv, he⟩ := bind_some h
    simp at he
    obtain ⟨rfl, rfl⟩ := he
    obtain ⟨ys, rfl, hl, hh, h1⟩ := hy
    obtain ⟨Im', hst, hl', hr⟩ := freezeCs_sound (ys := ys.toList) hs (by simpa using hl) (fun i c y hc hy => hh i c y hc (by simpa using hy)) hv
    refine ⟨Im', hst, RP.agg vs ys (by omega) ?_ (fun i c y hc hy => hr i c y hc (by simpa using hy))⟩
    intro i c hc
    have hi : i < ys.size := by rw [hl, ← hl']; exact (List.getElem?_eq_some_iff.1 hc).1
    exact RP.one_of (hr i c ys[i] hc (by simp [hi])) (h1 i _ (by simp [hi]))
end
end Go.Dp
