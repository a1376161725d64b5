/- Memory that is made and written. -/
import Derived.Test.YtnliglgellapdaaDp4
set_option linter.unusedVariables false
set_option linter.unusedSimpArgs false
namespace Go.Dp

/-- How an object may change under the eyes of those who know of it. -/
def CompatO (v v' : Option Value) : AObj → AObj → Prop
  | .box _, .box _ => v' = v
  | .box _, .dead => True
  | .arr _ sh ver _ xs, .arr _ sh' ver' _ xs' => ver < ver' ∨ (ver = ver' ∧ sh = sh' ∧ xs.length ≤ xs'.length ∧ v' = v)
  | .arr .., .dead => True
  | .dead, .dead => True
  | _, _ => False
def Compat (ρ ρ' : Nat → Option Value) (o o' : List AObj) : Prop := ∀ id a, o[id]? = some a → ∃ a', o'[id]? = some a' ∧ CompatO (ρ id) (ρ' id) a a'
section
variable {P : Program} {E : Env} {w w' : World} {Im Im' : Nat → Prop} {ρ ρ' : Nat → Option Value} {o o' : List AObj} {K : Kt} {r : List SV × List (List CV)}

theorem RB.compat (hc : Compat ρ ρ' o o') {id off : Nat} {x : Value} (h : RB ρ o id off x) : RB ρ' o' id off x := by
  unfold RB at h ⊢
  split at h
  · rename_i cs ho
    obtain ⟨a', ha', hcc⟩ := hc id _ ho
    obtain ⟨b, hb, hx⟩ := h
    rw [ha']
    cases a' <;> simp only [CompatO] at hcc
    · trivial
    · exact ⟨b, hcc.trans hb, hx⟩
  · rename_i a _ ho
    obtain ⟨a', ha', hcc⟩ := hc id _ ho
    rw [ha']
    cases a <;> cases a' <;> simp_all [CompatO]
  · exact h.elim
theorem RC.compat (hi : ∀ b, Im b → Im' b ∧ w'.heap[b]? = w.heap[b]?) (hc : Compat ρ ρ' o o') {c : CV} {x : Value} (h : RC w Im ρ o c x) : RC w' Im' ρ' o' c x := by
  cases c with
  | undef => trivial
  | p v => exact RP.mono hi h
  | loc id ver sh lo len =>
    simp only [RC] at h ⊢
    split at h
    · rename_i e sh' ver' fz xs ho
      obtain ⟨a', ha', hcc⟩ := hc id _ ho
      simp only [ha']
      cases a' with
      | dead => trivial
      | box cs => exact hcc.elim
      | arr e2 sh2 ver2 fz2 xs2 =>
        rcases hcc with hlt | ⟨rfl, rfl, hlen, hρ⟩
        · exact ⟨by omega, fun he => by omega⟩
        · refine ⟨h.1, fun he hs => ?_⟩
          obtain ⟨hle, v, hv, hsl⟩ := h.2 he hs
          exact ⟨by omega, v, hρ.trans hv, hsl⟩
    · rename_i a hno ho
      obtain ⟨a', ha', hcc⟩ := hc id _ ho
      simp only [ha']
      cases a with
      | arr e1 s1 v1 f1 x1 => exact (hno e1 s1 v1 f1 x1 rfl).elim
      | _ => cases a' <;> simp_all [CompatO]
    · exact h.elim
  | bptr id off => exact RB.compat hc h
  | aptr id ver sh i off =>
    simp only [RC] at h ⊢
    split at h
    · rename_i e sh' ver' fz xs ho
      obtain ⟨a', ha', hcc⟩ := hc id _ ho
      simp only [ha']
      cases a' with
      | dead => trivial
      | box cs => exact hcc.elim
      | arr e2 sh2 ver2 fz2 xs2 =>
        rcases hcc with hlt | ⟨rfl, rfl, hlen, hρ⟩
        · exact ⟨by omega, fun he => by omega⟩
        · refine ⟨h.1, fun he hs => ?_⟩
          obtain ⟨hle, g, n, cap, hv, hx⟩ := h.2 he hs
          exact ⟨by omega, g, n, cap, hρ.trans hv, hx⟩
    · rename_i a hno ho
      obtain ⟨a', ha', hcc⟩ := hc id _ ho
      simp only [ha']
      cases a with
      | arr e1 s1 v1 f1 x1 => exact (hno e1 s1 v1 f1 x1 rfl).elim
      | _ => cases a' <;> simp_all [CompatO]
    · exact h.elim
  | eptr v sh off =>
    obtain ⟨b, base, hx, hb, hs, hh⟩ := h
    refine ⟨b, base, hx, (hi b hb).1, hs, fun j c hj => ?_⟩
    obtain ⟨y, hy, hr⟩ := hh j c hj
    exact ⟨y, (cell_same (w := w) (w' := w') (a := ⟨b, base + j, none⟩) (hi b hb).2).trans hy, RP.mono hi hr⟩
  | fn f caps =>
    obtain ⟨vs, hx, hl, hh⟩ := h
    exact ⟨vs, hx, hl, fun i id hid => let ⟨y, hy, hr⟩ := hh i id hid; ⟨y, hy, RB.compat hc hr⟩⟩
  | own e sh xs => exact h.elim
theorem ownsRow_same {base : Nat} {e s n : Nat} {v : Value} {xs : List Value} (hb : ∀ b, blk v = some b → w'.heap[b]? = w.heap[b]?) (h : w.ownsRow base e s v n xs) : w'.ownsRow base e s v n xs := by
  refine ⟨h.1, ?_⟩
  rcases h.2 with hn | ⟨g, cap, cur, rfl, hb', hh, rest⟩
  · exact .inl hn
  · exact .inr ⟨g, cap, cur, rfl, hb', (hb g rfl).trans hh, rest⟩
/-- An object that nobody touched. -/
theorem RO.keep (hi : ∀ b, Im b → Im' b ∧ w'.heap[b]? = w.heap[b]?) (hc : Compat ρ ρ' o o') {v : Value} {x : AObj} (hb : ∀ b, blk v = some b → w'.heap[b]? = w.heap[b]?) (hn : ∀ b, blk v = some b → Im' b → Im b) (h : RO w Im ρ o v x) : RO w' Im' ρ' o' v x := by
  cases x with
  | dead => trivial
  | box cs =>
    obtain ⟨b, vs, e, rfl, hh, hl, hr, h1, hni⟩ := h
    exact ⟨b, vs, e, rfl, (hb b rfl).trans hh, hl, fun i c y hc' hy => RC.compat hi hc (hr i c y hc' hy), h1, fun him => hni (hn b rfl him)⟩
  | arr e sh ver fz xs =>
    obtain ⟨vals, hown, hs, hr, hz⟩ := h
    exact ⟨vals, ownsRow_same hb hown, hs, fun i x j c y h1 h2 h3 => RP.mono hi (hr i x j c y h1 h2 h3), fun b hbk => ⟨fun hf him => (hz b hbk).1 hf (hn b hbk him), fun hf => (hi b ((hz b hbk).2 hf)).1⟩⟩

def upd (ρ : Nat → Option Value) (id : Nat) (v : Option Value) : Nat → Option Value := fun i => if i = id then v else ρ i
theorem upd_same {ρ : Nat → Option Value} {id : Nat} {v : Option Value} : upd ρ id v id = v := by simp [upd]
theorem upd_ne {ρ : Nat → Option Value} {id i : Nat} {v : Option Value} (h : i ≠ id) : upd ρ id v i = ρ i := by simp [upd, h]
theorem compat_new (hs : SR w Im ρ o) (v : Option Value) (x : AObj) : Compat ρ (upd ρ o.length v) o (o ++ [x]) := by
  intro id a ha
  have hlt := (List.getElem?_eq_some_iff.1 ha).1
  refine ⟨a, by rw [List.getElem?_append_left hlt]; exact ha, ?_⟩
  rw [upd_ne (by omega)]
  cases a <;> simp [CompatO]
/-- One new object. -/
theorem Step.new (hs : SR w Im ρ o) (hwd : Wd w w') (hh : ∀ b, b < w.heap.size → w'.heap[b]? = w.heap[b]?) {v : Value} {x : AObj} (hx : x ≠ .dead) (hv : ∀ b, blk v = some b → w.heap.size ≤ b ∧ b < w'.heap.size)
    (hro : RO w' Im (upd ρ o.length (some v)) (o ++ [x]) v x) : Step w Im ρ o w' Im (upd ρ o.length (some v)) (o ++ [x]) := by
  have hc := compat_new hs (some v) x
  have him : ∀ b, Im b → Im b ∧ w'.heap[b]? = w.heap[b]? := fun b hb => ⟨hb, hh b (hs.im b hb)⟩
  have hn : ρ o.length = none := by
    cases h : ρ o.length with
    | none => rfl
    | some u => have := (hs.lt _ u h).1; omega
  have cs : ∀ id u, upd ρ o.length (some v) id = some u → (id = o.length ∧ u = v) ∨ (id ≠ o.length ∧ ρ id = some u) := by
    intro id u h
    by_cases e : id = o.length
    · subst e; rw [upd_same] at h; exact .inl ⟨rfl, by injection h with h; exact h.symm⟩
    · rw [upd_ne e] at h; exact .inr ⟨e, h⟩
  refine ⟨hwd, ⟨?_, ?_, ?_, fun b hb => Nat.lt_of_lt_of_le (hs.im b hb) hwd.size, ?_⟩, fun c y hy => RC.compat him hc hy, fun b hb _ => hh b hb, ?_, him, fun b hb => .inl hb, ?_⟩
  · intro id a u ha hu
    rcases cs id u hu with ⟨rfl, rfl⟩ | ⟨hne, hu⟩
    · have : a = x := by simpa using ha.symm
      subst this
      exact hro
    · have hlt := (hs.lt id u hu).1
      rw [List.getElem?_append_left hlt] at ha
      exact RO.keep him hc (fun b hb => hh b ((hs.lt id u hu).2 b hb)) (fun b _ h => h) (hs.ob id a u ha hu)
  · intro id id' u u' b hu hu' hb hb'
    rcases cs id u hu with ⟨h1, h2⟩ | ⟨hne, h2⟩ <;> rcases cs id' u' hu' with ⟨h3, h4⟩ | ⟨hne', h4⟩
    · exact h1.trans h3.symm
    · rw [h2] at hb; have := (hv b hb).1; have := (hs.lt id' u' h4).2 b hb'; omega
    · rw [h4] at hb'; have := (hv b hb').1; have := (hs.lt id u h2).2 b hb; omega
    · exact hs.inj id id' u u' b h2 h4 hb hb'
  · intro id u hu
    rcases cs id u hu with ⟨rfl, rfl⟩ | ⟨hne, hu⟩
    · exact ⟨by simp, fun b hb => (hv b hb).2⟩
    · have := hs.lt id u hu
      exact ⟨by simp; omega, fun b hb => Nat.lt_of_lt_of_le (this.2 b hb) hwd.size⟩
  · intro id hd
    by_cases e : id = o.length
    · subst e; simp at hd; exact absurd hd hx
    · rw [upd_ne e]
      have hlt : id < o.length := by have := (List.getElem?_eq_some_iff.1 hd).1; simp at this; omega
      rw [List.getElem?_append_left hlt] at hd
      exact hs.dd id hd
  · intro id u b hu hb
    rcases cs id u hu with ⟨rfl, rfl⟩ | ⟨hne, hu⟩
    · exact .inl (hv b hb).1
    · exact .inr ⟨id, u, hu, hb⟩
  · intro hm id a ha hd
    by_cases e : id = o.length
    · subst e; exact ⟨v, upd_same⟩
    · rw [upd_ne e]
      have hlt : id < o.length := by have := (List.getElem?_eq_some_iff.1 ha).1; simp at this; omega
      rw [List.getElem?_append_left hlt] at ha
      exact hm id a ha hd
/-- One object turned, its place kept or moved; nobody else's block is written. -/
theorem Step.turn (hs : SR w Im ρ o) (hwd : Wd w w') {id : Nat} {x x' : AObj} {v v' : Value} (hx : o[id]? = some x) (hρ : ρ id = some v) (hd : x' ≠ .dead) (hco : CompatO (some v) (some v') x x')
    (hh : ∀ b, b < w.heap.size → blk v ≠ some b → w'.heap[b]? = w.heap[b]?) (hni : ∀ b, blk v = some b → ¬ Im b) (hv : ∀ b, blk v' = some b → blk v = some b ∨ (w.heap.size ≤ b)) (hv2 : ∀ b, blk v' = some b → b < w'.heap.size)
    (hro : RO w' Im (upd ρ id (some v')) (o.set id x') v' x') : Step w Im ρ o w' Im (upd ρ id (some v')) (o.set id x') := by
  have hlt := (hs.lt id v hρ).1
  have hc : Compat ρ (upd ρ id (some v')) o (o.set id x') := by
    intro i a ha
    by_cases e : i = id
    · subst e
      rw [hx] at ha
      injection ha with ha
      subst ha
      exact ⟨x', by simp [hlt], by rw [upd_same, hρ]; exact hco⟩
    · refine ⟨a, by rw [List.getElem?_set_ne (Ne.symm e)]; exact ha, ?_⟩
      rw [upd_ne e]
      cases a <;> simp [CompatO]
  have him : ∀ b, Im b → Im b ∧ w'.heap[b]? = w.heap[b]? := fun b hb => ⟨hb, hh b (hs.im b hb) fun e => hni b e hb⟩
  have cs : ∀ i u, upd ρ id (some v') i = some u → (i = id ∧ u = v') ∨ (i ≠ id ∧ ρ i = some u) := by
    intro i u h
    by_cases e : i = id
    · subst e; rw [upd_same] at h; exact .inl ⟨rfl, by injection h with h; exact h.symm⟩
    · rw [upd_ne e] at h; exact .inr ⟨e, h⟩
  have oth : ∀ i u b, i ≠ id → ρ i = some u → blk u = some b → w'.heap[b]? = w.heap[b]? := fun i u b hne hu hb => hh b ((hs.lt i u hu).2 b hb) fun e => hne (hs.inj i id u v b hu hρ hb e)
  refine ⟨hwd, ⟨?_, ?_, ?_, fun b hb => Nat.lt_of_lt_of_le (hs.im b hb) hwd.size, ?_⟩, fun c y hy => RC.compat him hc hy, fun b hb hno => hh b hb (hno id v hρ), ?_, him, fun b hb => .inl hb, ?_⟩
  · intro i a u ha hu
    rcases cs i u hu with ⟨rfl, rfl⟩ | ⟨hne, hu⟩
    · have : a = x' := by simpa [hlt] using ha.symm
      subst this
      exact hro
    · rw [List.getElem?_set_ne (Ne.symm hne)] at ha
      exact RO.keep him hc (fun b hb => oth i u b hne hu hb) (fun b _ h => h) (hs.ob i a u ha hu)
  · intro i i' u u' b hu hu' hb hb'
    rcases cs i u hu with ⟨h1, h2⟩ | ⟨hne, h2⟩ <;> rcases cs i' u' hu' with ⟨h3, h4⟩ | ⟨hne', h4⟩
    · exact h1.trans h3.symm
    · rw [h2] at hb
      rcases hv b hb with h5 | h5
      · exact absurd (hs.inj i' id u' v b h4 hρ hb' h5) hne'
      · have := (hs.lt i' u' h4).2 b hb'; omega
    · rw [h4] at hb'
      rcases hv b hb' with h5 | h5
      · exact absurd (hs.inj i id u v b h2 hρ hb h5) hne
      · have := (hs.lt i u h2).2 b hb; omega
    · exact hs.inj i i' u u' b h2 h4 hb hb'
  · intro i u hu
    rcases cs i u hu with ⟨rfl, rfl⟩ | ⟨hne, hu⟩
    · exact ⟨by simpa using hlt, fun b hb => hv2 b hb⟩
    · have := hs.lt i u hu
      exact ⟨by simpa using this.1, fun b hb => Nat.lt_of_lt_of_le (this.2 b hb) hwd.size⟩
  · intro i hdd
    by_cases e : i = id
    · subst e; simp [hlt] at hdd; exact absurd hdd hd
    · rw [upd_ne e]
      rw [List.getElem?_set_ne (Ne.symm e)] at hdd
      exact hs.dd i hdd
  · intro i u b hu hb
    rcases cs i u hu with ⟨rfl, rfl⟩ | ⟨hne, hu⟩
    · rcases hv b hb with h1 | h1
      · exact .inr ⟨i, v, hρ, h1⟩
      · exact .inl h1
    · exact .inr ⟨i, u, hu, hb⟩
  · intro hm i a ha hdd
    by_cases e : i = id
    · subst e; exact ⟨v', upd_same⟩
    · rw [upd_ne e]
      rw [List.getElem?_set_ne (Ne.symm e)] at ha
      exact hm i a ha hdd
end
end Go.Dp
