/- An object that stands already gets its place: what is made behind the evaluator's back. -/
import Derived.Test.YtocmjgfbcpgaoaaDp11
set_option linter.unusedVariables false
set_option linter.unusedSimpArgs false
namespace Go.Dp
section
variable {P : Program} {E : Env} {w w' : World} {Im Im' : Nat → Prop} {ρ ρ' : Nat → Option Value} {o o' : List AObj} {n : Nat}

theorem RB.more (hm : ∀ id v, ρ id = some v → ρ' id = some v) {id off : Nat} {x : Value} (h : RB ρ o id off x) : RB ρ' o id off x := by
  unfold RB at h ⊢
  split at h
  · obtain ⟨b, h1, h2⟩ := h
    exact ⟨b, hm _ _ h1, h2⟩
  · trivial
  · exact h
theorem RC.more (hi : ∀ b, Im b → Im' b ∧ w'.heap[b]? = w.heap[b]?) (hm : ∀ id v, ρ id = some v → ρ' id = some v) {c : CV} {x : Value} (h : RC w Im ρ o c x) : RC w' Im' ρ' o c x := by
  cases c with
  | undef => trivial
  | p v => exact RP.mono hi h
  | loc id ver sh lo len =>
    simp only [RC] at h ⊢
    split at h
    · refine ⟨h.1, fun a b => ?_⟩
      obtain ⟨h1, v, h2, h3⟩ := h.2 a b
      exact ⟨h1, v, hm _ _ h2, h3⟩
    · trivial
    · exact h
  | bptr id off => exact RB.more hm h
  | aptr id ver sh i off =>
    simp only [RC] at h ⊢
    split at h
    · refine ⟨h.1, fun a b => ?_⟩
      obtain ⟨h1, g, m, cap, v, h2, h3⟩ := h.2 a b
      exact ⟨h1, g, m, cap, v, hm _ _ h2, h3⟩
    · trivial
    · exact h
  | eptr v sh off =>
    obtain ⟨b, base, hx, hb, hs, hh⟩ := h
    refine ⟨b, base, hx, (hi b hb).1, hs, fun j c hj => ?_⟩
    obtain ⟨y, hy, hr⟩ := hh j c hj
    exact ⟨y, (cell_same (w := w) (w' := w') (a := ⟨b, base + j, none⟩) (hi b hb).2).trans hy, RP.mono hi hr⟩
  | fn f caps =>
    obtain ⟨vs, hx, hl, hh⟩ := h
    exact ⟨vs, hx, hl, fun i id hid => let ⟨y, hy, hr⟩ := hh i id hid; ⟨y, hy, RB.more hm hr⟩⟩
  | own e sh xs => exact h.elim
  | nel id ver nv i =>
    simp only [RC] at h ⊢
    split at h
    · refine ⟨h.1, fun a k hk => ?_⟩
      obtain ⟨h1, h2⟩ := h.2 a k hk
      refine ⟨h1, fun h3 h4 => ?_⟩
      obtain ⟨h5, m, ks, h6, h7⟩ := h2 h3 h4
      exact ⟨h5, m, ks, hm _ _ h6, h7⟩
    · trivial
    · exact h
theorem RO.more (hi : ∀ b, Im b → Im' b ∧ w'.heap[b]? = w.heap[b]?) (hm : ∀ id v, ρ id = some v → ρ' id = some v) {v : Value} {x : AObj} (hb : ∀ b, Blk v b → w'.heap[b]? = w.heap[b]?) (hn : ∀ b, Blk v b → Im' b → Im b) (h : RO w Im ρ o v x) : RO w' Im' ρ' o v x := by
  cases x with
  | dead => trivial
  | box cs =>
    obtain ⟨b, vs, e, rfl, hh, hl, hr, h1, hni⟩ := h
    exact ⟨b, vs, e, rfl, (hb b rfl).trans hh, hl, fun i c y hc' hy => RC.more hi hm (hr i c y hc' hy), h1, fun him => hni (hn b rfl him)⟩
  | arr e sh ver fz xs =>
    obtain ⟨vals, hown, hs, hr, hz, hk⟩ := h
    exact ⟨vals, ownsRow_main (fun b hbk => hb b (main_Blk hbk)) hown, hs, fun i x j c y h1 h2 h3 => (hr i x j c y h1 h2 h3).keep hi, fun b hbk => ⟨fun hf him => (hz b hbk).1 hf (hn b hbk him), fun hf => (hi b ((hz b hbk).2 hf)).1⟩, hk.keep hi hb⟩
/-- The object at 'n' gets its place; nothing else is told. -/
structure Fill (w : World) (Im : Nat → Prop) (ρ : Nat → Option Value) (o : List AObj) (w' : World) (n : Nat) (Im' : Nat → Prop) (ρ' : Nat → Option Value) : Prop where
  wd : Wd w w'
  sr : SR w' Im' ρ' o
  keep : ∀ c x, RC w Im ρ o c x → RC w' Im' ρ' o c x
  fr : ∀ b, b < w.heap.size → w'.heap[b]? = w.heap[b]?
  ow : ∀ id v b, ρ' id = some v → Blk v b → w.heap.size ≤ b ∨ ∃ id' v', ρ id' = some v' ∧ Blk v' b
  im : ∀ b, Im b → Im' b ∧ w'.heap[b]? = w.heap[b]?
  imn : ∀ b, Im' b → Im b ∨ w.heap.size ≤ b
  ne : ∀ id, id ≠ n → ρ' id = ρ id
theorem Fill.mk1 (hs : SR w Im ρ o) (hwd : Wd w w') (hh : ∀ b, b < w.heap.size → w'.heap[b]? = w.heap[b]?) (hi : ∀ b, Im b → Im' b) (hi2 : ∀ b, Im' b → Im b ∨ (w.heap.size ≤ b ∧ b < w'.heap.size)) {v : Value} {x : AObj} (ho : o[n]? = some x) (hn : ρ n = none) (hx : x ≠ .dead) (hv : ∀ b, Blk v b → w.heap.size ≤ b ∧ b < w'.heap.size)
    (hro : RO w' Im' (upd ρ n (some v)) o v x) : Fill w Im ρ o w' n Im' (upd ρ n (some v)) := by
  have him : ∀ b, Im b → Im' b ∧ w'.heap[b]? = w.heap[b]? := fun b hb => ⟨hi b hb, hh b (hs.im b hb)⟩
  have hm : ∀ id u, ρ id = some u → upd ρ n (some v) id = some u := by
    intro id u h
    rw [upd_ne (by rintro rfl; rw [hn] at h; cases h)]
    exact h
  have cs : ∀ id u, upd ρ n (some v) id = some u → (id = n ∧ u = v) ∨ (id ≠ n ∧ ρ id = some u) := by
    intro id u h
    by_cases e : id = n
    · subst e; rw [upd_same] at h; exact .inl ⟨rfl, by injection h with h; exact h.symm⟩
    · rw [upd_ne e] at h; exact .inr ⟨e, h⟩
  refine ⟨hwd, ⟨?_, ?_, ?_, fun b hb => ?_, ?_⟩, fun c y hy => RC.more him hm hy, fun b hb => hh b hb, ?_, him, fun b hb => (hi2 b hb).imp (fun h => h) (fun h => h.1), fun id h => upd_ne h⟩
  · intro id a u ha hu
    rcases cs id u hu with ⟨rfl, rfl⟩ | ⟨hne, hu⟩
    · rw [ho] at ha
      injection ha with ha
      subst ha
      exact hro
    · refine RO.more him hm (fun b hb => hh b ((hs.lt id u hu).2 b hb)) (fun b hb hI => ?_) (hs.ob id a u ha hu)
      rcases hi2 b hI with h | h
      · exact h
      · have := (hs.lt id u hu).2 b hb; omega
  · intro id id' u u' b hu hu' hb hb'
    rcases cs id u hu with ⟨h1, h2⟩ | ⟨hne, h2⟩ <;> rcases cs id' u' hu' with ⟨h3, h4⟩ | ⟨hne', h4⟩
    · exact h1.trans h3.symm
    · rw [h2] at hb; have := (hv b hb).1; have := (hs.lt id' u' h4).2 b hb'; omega
    · rw [h4] at hb'; have := (hv b hb').1; have := (hs.lt id u h2).2 b hb; omega
    · exact hs.inj id id' u u' b h2 h4 hb hb'
  · intro id u hu
    rcases cs id u hu with ⟨rfl, rfl⟩ | ⟨hne, hu⟩
    · exact ⟨(List.getElem?_eq_some_iff.1 ho).1, fun b hb => (hv b hb).2⟩
    · have := hs.lt id u hu
      exact ⟨this.1, fun b hb => Nat.lt_of_lt_of_le (this.2 b hb) hwd.size⟩
  · rcases hi2 b hb with h | h
    · exact Nat.lt_of_lt_of_le (hs.im b h) hwd.size
    · exact h.2
  · intro id hd
    by_cases e : id = n
    · subst e; rw [ho] at hd; injection hd with hd; exact absurd hd hx
    · rw [upd_ne e]; exact hs.dd id hd
  · intro id u b hu hb
    rcases cs id u hu with ⟨rfl, rfl⟩ | ⟨hne, hu⟩
    · exact .inl (hv b hb).1
    · exact .inr ⟨id, u, hu, hb⟩
theorem Fill.keepS (h : Fill w Im ρ o w' n Im' ρ') : ∀ v x, RS w Im ρ o v x → RS w' Im' ρ' o v x := by
  intro v x hv
  cases v with
  | c c => exact h.keep c x hv
  | agg cs => obtain ⟨vs, rfl, h1, h2, h3⟩ := hv; exact ⟨vs, rfl, h1, fun i c y hc hy => h.keep c y (h2 i c y hc hy), h3⟩
theorem Fill.keepA (h : Fill w Im ρ o w' n Im' ρ') : ∀ v x, RA w Im ρ o v x → RA w' Im' ρ' o v x := by
  intro v x hv
  cases v with
  | s v => exact h.keepS v x hv
  | tup ts => obtain ⟨vs, rfl, h1, h2⟩ := hv; exact ⟨vs, rfl, h1, fun i c y hc hy => h.keepS c y (h2 i c y hc hy)⟩
/-- What a creator that comes late brings. -/
def DidF (P : Program) (w : World) (Im : Nat → Prop) (ρ : Nat → Option Value) (o : List AObj) (n : Nat) (v : AV) (s : Sem Value) : Prop :=
  ∃ y w' Im' ρ', s.run P w = .ok y w' ∧ Fill w Im ρ o w' n Im' ρ' ∧ RA w' Im' ρ' o v y
theorem newBox_fill (hs : SR w Im ρ o) {T : TypeId} {y : Value} {cs : List CV} (ho : o[n]? = some (.box cs)) (hn : ρ n = none) (hl : y.cells.size = cs.length)
    (hr : ∀ (i : Nat) (c : CV) (z : Value), cs[i]? = some c → y.cells[i]? = some z → RC w Im ρ o c z) (h1 : ∀ (i : Nat) (z : Value), y.cells[i]? = some z → z.oneCell' = true) {s : Sem Value}
    (hrun : s.run P w = .ok (.pointer (some ⟨w.heap.size, 0, none⟩)) { w with heap := w.heap.push (.cells y.cells T) }) : DidF P w Im ρ o n (.s (.c (.bptr n 0))) s := by
  have hnb : ¬ Im w.heap.size := fun h => by have := hs.im _ h; omega
  have hm : ∀ id u, ρ id = some u → upd ρ n (some (Value.pointer (some ⟨w.heap.size, 0, none⟩))) id = some u := by
    intro id u h
    rw [upd_ne (by rintro rfl; rw [hn] at h; cases h)]
    exact h
  have hro : RO { w with heap := w.heap.push (.cells y.cells T) } Im (upd ρ n (some (.pointer (some ⟨w.heap.size, 0, none⟩)))) o (.pointer (some ⟨w.heap.size, 0, none⟩)) (.box cs) :=
    ⟨w.heap.size, y.cells, T, rfl, push_new _ _, hl, fun i c z a b => RC.more (fun b hb => ⟨hb, push_old _ _ _ (hs.im b hb)⟩) hm (hr i c z a b), h1, hnb⟩
  have hst := Fill.mk1 (w' := { w with heap := w.heap.push (.cells y.cells T) }) hs ⟨rfl, rfl, rfl, by simp⟩ (fun b hb => push_old _ _ _ hb) (fun b h => h) (fun b h => .inl h) ho hn (by simp) (fun b hb => by simp at hb; subst hb; simp) hro
  refine ⟨_, _, _, _, hrun, hst, ?_⟩
  simp only [RA, RS, RC, RB, ho]
  exact ⟨_, upd_same, rfl⟩
theorem newArr_fill (hs : SR w Im ρ o) {e sh : Nat} {fz : Bool} {xs : List PV} {v : Value} {vals : List Value} {s : Sem Value} (ho : o[n]? = some (.arr (e : Et) sh 0 fz xs)) (hn : ρ n = none) (hwd : Wd w w') (hh : ∀ b, b < w.heap.size → w'.heap[b]? = w.heap[b]?) (hown : w'.ownsRow 0 e (csz sh) v xs.length vals)
    (hb : ∀ b, Blk v b → w.heap.size ≤ b) (hsh : ∀ x ∈ xs, x.shp sh = true) (hr : ∀ (i : Nat) (x : PV) (j : Nat) (c : PV) (y : Value), xs[i]? = some x → x.cells[j]? = some c → vals[i * csz sh + j]? = some y → RP w Im c y)
    (hrun : s.run P w = .ok v w') : DidF P w Im ρ o n (.s (.c (.loc n 0 sh 0 xs.length))) s := by
  have him : ∀ b, Im b → (Im b ∨ (fz = true ∧ Blk v b)) ∧ w'.heap[b]? = w.heap[b]? := fun b h => ⟨.inl h, hh b (hs.im b h)⟩
  have hno : ∀ b, Blk v b → fz = false → ¬ (Im b ∨ (fz = true ∧ Blk v b)) := by
    rintro b h hf (hI | ⟨h1, _⟩)
    · have := hs.im b hI
      have := hb b h
      omega
    · rw [hf] at h1
      cases h1
  have hst := Fill.mk1 (Im' := fun b => Im b ∨ (fz = true ∧ Blk v b)) (v := v) (x := .arr e sh 0 fz xs) hs hwd hh (fun b h => .inl h) (fun b h => h.imp (fun h => h) fun h => ⟨hb b h.2, ownsRow_lt hown b h.2⟩) ho hn (by simp) (fun b h => ⟨hb b h, ownsRow_lt hown b h⟩)
    ⟨vals, by rw [(ownsRow_mainV hown).1]; exact hown, hsh, fun i x j c y h1 h2 h3 => RP.mono him (hr i x j c y h1 h2 h3), fun b h => ⟨fun hf hI => hno b h hf hI, fun hf => .inr ⟨hf, h⟩⟩, fun _ => (ownsRow_mainV hown).1⟩
  refine ⟨_, _, _, _, hrun, hst, ?_⟩
  simp only [RA, RS, RC, ho]
  refine ⟨Nat.le_refl _, fun _ _ => ⟨by omega, v, upd_same, by rw [(ownsRow_mainV hown).1]; exact ownsRow_self hown⟩⟩
theorem opAlloc_fill (hE : EnvOK P E) (hs : SR w Im ρ o) {T : TypeId} {zs : List PV} (hz : E.zr T = some zs) (ho : o[n]? = some (.box (zs.map CV.p))) (hn : ρ n = none) : DidF P w Im ρ o n (.s (.c (.bptr n 0))) (Instr.alloc T true (.tuple #[])) := by
  obtain ⟨i, z, sh, hi, hiz, hl, _, _, hone, hrp⟩ := hE.zr T zs hz
  have hrp' : ∀ (i : Nat) (c : CV) (y : Value), (zs.map CV.p)[i]? = some c → z.cells[i]? = some y → RC w Im ρ o c y := by
    intro i c y a b
    simp at a
    obtain ⟨q, hq, rfl⟩ := a
    exact hrp i q y hq b w Im
  refine newBox_fill (y := z) (T := T) hs ho hn (by simpa using hl) hrp' ?_ ?_
  · intro i y b
    have hi' : i < zs.length := by rw [← hl]; exact (Array.getElem?_eq_some_iff.1 b).1
    exact ((hrp i zs[i] y (by simp [hi']) b w Im).one (hone _ (List.getElem_mem hi'))).1
  · simp [Instr.alloc, zeroValue, typeInfo, hi, hiz, newVar, newRow]
theorem opBox_fill (hs : SR w Im ρ o) {T : TypeId} {v : SV} {sh : Nat} {x : Value} {cs : List CV} (ha : RS w Im ρ o v x) (hk : ∀ K : List CV → R, cellsK o sh v K = K cs) (ho : o[n]? = some (.box cs)) (hn : ρ n = none) : DidF P w Im ρ o n (.s (.c (.bptr n 0))) (Instr.box T x) := by
  classical
  obtain ⟨cs2, hk2, hl, hl2, hr, h1⟩ := cellsK_sound (K := fun c => if c = cs then some ([], []) else none) (r := ([], [])) hs ((hk _).trans (by simp)) ha
  have : cs2 = cs := by
    by_cases e : cs2 = cs
    · exact e
    · simp [e] at hk2
  subst this
  exact newBox_fill (y := x) (T := T) hs ho hn hl2 hr h1 (by simp [Instr.box, newVar, newRow])
end
end Go.Dp
