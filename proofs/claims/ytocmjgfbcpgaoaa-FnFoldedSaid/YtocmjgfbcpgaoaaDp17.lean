/- Texts Dp12, Dp13, Dp14, Dp15, Dp16, Dp17 in one. -/
import Derived.Test.YtocmjgfbcpgaoaaDp11
/- Handing over: rows of one's own go out and come in. -/
set_option linter.unusedVariables false
set_option linter.unusedSimpArgs false
namespace Go.Dp

/-- A row that is nobody's but the holder's. -/
def OwnRow (w : World) (Im : Nat → Prop) (e : Et) (sh : Nat) (xs : List PV) (y : Value) : Prop := RO w Im (fun _ => none) [] y (.arr e sh 0 false xs)
theorem RP.mainV {w : World} {Im : Nat → Prop} {v : PV} {y : Value} (h : RP w Im v y) : mainV y = y := by cases h <;> rfl
theorem RC.mainV {w : World} {Im : Nat → Prop} {ρ : Nat → Option Value} {o : List AObj} {id ver sh lo len : Nat} {v y : Value} (h : RSl v sh lo len y) : mainV y = y := by
  unfold RSl at h
  split at h
  · obtain ⟨off, rfl, _⟩ := h; rfl
  · obtain ⟨_, _, rfl⟩ := h; rfl
  · exact h.elim
/-- The blocks of a row of one's own lie in memory. -/
theorem RO.arr_lt {w : World} {Im : Nat → Prop} {ρ : Nat → Option Value} {o : List AObj} {v : Value} {e : Et} {sh ver : Nat} {xs : List PV} (h : RO w Im ρ o v (.arr e sh ver false xs)) {b : Nat} (hb : Blk v b) : b < w.heap.size := by
  obtain ⟨vals, hown, _, _, _, hk⟩ := h
  cases hkd : e.kd with
  | none =>
    simp only [RKids, hkd] at hk
    have hm := hk trivial
    rw [hm] at hown
    exact ownsRow_lt hown b hb
  | some k =>
    simp only [RKids, hkd] at hk
    obtain ⟨_, ks, hv, hks, _⟩ := hk
    rw [hv] at hb
    obtain ⟨q, u, hq, hub⟩ := hb
    cases q with
    | zero =>
      simp at hq
      subst hq
      exact ownsRow_lt hown b (kid_Blk hub)
    | succ q =>
      replace hq : ks[q]? = some u := by simpa using hq
      have hql : q < xs.length := by rw [← hks.len]; exact (List.getElem?_eq_some_iff.1 hq).1
      by_cases hh : k.hole = some q
      · rw [hks.out q u hh hq] at hub; exact hub.elim
      · obtain ⟨_, _, u2, _, _, h3, _, vals2, h5, _⟩ := hks.kid q xs[q] (by simp [hql]) hh
        rw [hq] at h3
        injection h3 with h3
        subst h3
        exact ownsRow_lt h5 b (kid_Blk hub)
theorem RO.arr_any {w : World} {Im : Nat → Prop} {ρ ρ' : Nat → Option Value} {o o' : List AObj} {v : Value} {e : Et} {sh ver ver' : Nat} {fz : Bool} {xs : List PV} (h : RO w Im ρ o v (.arr e sh ver fz xs)) : RO w Im ρ' o' v (.arr e sh ver' fz xs) := h
def TokC (w : World) (Im : Nat → Prop) : CV → Value → Prop
  | .p v, y => RP w Im v y
  | .own e sh xs, y => OwnRow w Im e sh xs y
  | _, _ => False
def Ow (ρ : Nat → Option Value) (b : Nat) : Prop := ∃ id v, ρ id = some v ∧ Blk v b
def OB (cs : List CV) (ys : List Value) (i b : Nat) : Prop := ∃ e sh xs y, cs[i]? = some (.own e sh xs) ∧ ys[i]? = some y ∧ Blk y b
def OBs (cs : List CV) (ys : List Value) (b : Nat) : Prop := ∃ i, OB cs ys i b
structure Toks (w : World) (Im : Nat → Prop) (cs : List CV) (ys : List Value) (D : Nat → Prop) : Prop where
  len : ys.length = cs.length
  tok : ∀ (i : Nat) (c : CV) (y : Value), cs[i]? = some c → ys[i]? = some y → TokC w Im c y
  dis : ∀ i j b, OB cs ys i b → OB cs ys j b → i = j
  out : ∀ i b, OB cs ys i b → ¬ D b
section
variable {P : Program} {E : Env} {w w' : World} {Im Im' : Nat → Prop} {ρ ρ' : Nat → Option Value} {o o' : List AObj} {K : Kt} {r : List SV × List (List CV)} {cs : List CV} {ys : List Value} {D D' : Nat → Prop}

theorem Toks.nil : Toks w Im [] [] D := ⟨rfl, fun i c y h => by simp at h, fun i j b ⟨_, _, _, _, h, _⟩ => by simp at h, fun i b ⟨_, _, _, _, h, _⟩ => by simp at h⟩
theorem Toks.lt (h : Toks w Im cs ys D) {i b : Nat} (hb : OB cs ys i b) : b < w.heap.size ∧ ¬ Im b := by
  obtain ⟨e, sh, xs, y, h1, h2, h3⟩ := hb
  have ht : OwnRow w Im e sh xs y := h.tok i _ y h1 h2
  refine ⟨RO.arr_lt ht h3, ?_⟩
  obtain ⟨vals, hown, _, _, hz, _⟩ := ht
  exact (hz b h3).1 rfl
theorem OwnRow.keep (hi : ∀ b, Im b → Im' b ∧ w'.heap[b]? = w.heap[b]?) {e : Et} {sh : Nat} {xs : List PV} {y : Value} (hb : ∀ b, Blk y b → w'.heap[b]? = w.heap[b]? ∧ ¬ Im' b) (h : OwnRow w Im e sh xs y) : OwnRow w' Im' e sh xs y := by
  obtain ⟨vals, hown, h1, h2, h3, h4⟩ := h
  exact ⟨vals, ownsRow_main (fun b hb' => (hb b (main_Blk hb')).1) hown, h1, fun i x j c y a1 a2 a3 => (h2 i x j c y a1 a2 a3).keep hi, fun b hb' => ⟨fun _ => (hb b hb').2, fun h => nomatch h⟩, h4.keep hi fun b hb' => (hb b hb').1⟩
theorem Toks.keep (h : Toks w Im cs ys D) (hi : ∀ b, Im b → Im' b ∧ w'.heap[b]? = w.heap[b]?) (hb : ∀ i b, OB cs ys i b → w'.heap[b]? = w.heap[b]? ∧ ¬ Im' b ∧ ¬ D' b) : Toks w' Im' cs ys D' := by
  refine ⟨h.len, fun i c y hc hy => ?_, h.dis, fun i b hob => (hb i b hob).2.2⟩
  have := h.tok i c y hc hy
  cases c <;> first | exact this.elim | skip
  · exact RP.mono hi this
  · exact OwnRow.keep hi (fun b hbk => ⟨(hb i b ⟨_, _, _, y, hc, hy, hbk⟩).1, (hb i b ⟨_, _, _, y, hc, hy, hbk⟩).2.1⟩) this
theorem Toks.step (h : Toks w Im cs ys (Ow ρ)) (st : Step w Im ρ o w' Im' ρ' o') : Toks w' Im' cs ys (Ow ρ') := by
  refine h.keep st.im fun i b hob => ?_
  have hlt := h.lt hob
  have hno := h.out i b hob
  refine ⟨st.fr b hlt.1 fun id v hv hb => hno ⟨id, v, hv, hb⟩, fun hI => ?_, fun ⟨id, v, hv, hb⟩ => ?_⟩
  · rcases st.imn b hI with h1 | h1 | h1
    · exact hlt.2 h1
    · omega
    · exact hno h1
  · rcases st.ow id v b hv hb with h1 | h1
    · omega
    · exact hno h1
theorem Toks.mono (h : Toks w Im cs ys D) (hd : ∀ b, D' b → D b) : Toks w Im cs ys D' := ⟨h.len, h.tok, h.dis, fun i b hob hD => h.out i b hob (hd b hD)⟩
theorem OB.left {cs2 : List CV} {ys2 : List Value} {i b : Nat} (h : OB cs ys i b) : OB (cs ++ cs2) (ys ++ ys2) i b := by
  obtain ⟨e, sh, xs, y, h1, h2, h3⟩ := h
  have a1 := (List.getElem?_eq_some_iff.1 h1).1
  have a2 := (List.getElem?_eq_some_iff.1 h2).1
  exact ⟨e, sh, xs, y, by rw [List.getElem?_append_left a1]; exact h1, by rw [List.getElem?_append_left a2]; exact h2, h3⟩
theorem OB.right {cs2 : List CV} {ys2 : List Value} {i b : Nat} (hl : ys.length = cs.length) (h : OB cs2 ys2 i b) : OB (cs ++ cs2) (ys ++ ys2) (cs.length + i) b := by
  obtain ⟨e, sh, xs, y, h1, h2, h3⟩ := h
  exact ⟨e, sh, xs, y, by rw [List.getElem?_append_right (by omega)]; simpa using h1, by rw [List.getElem?_append_right (by omega), hl]; simpa using h2, h3⟩
theorem OB.split {cs2 : List CV} {ys2 : List Value} {i b : Nat} (hl : ys.length = cs.length) (h : OB (cs ++ cs2) (ys ++ ys2) i b) : (i < cs.length ∧ OB cs ys i b) ∨ (cs.length ≤ i ∧ OB cs2 ys2 (i - cs.length) b) := by
  obtain ⟨e, sh, xs, y, h1, h2, h3⟩ := h
  rcases Nat.lt_or_ge i cs.length with hi | hi
  · rw [List.getElem?_append_left hi] at h1
    rw [List.getElem?_append_left (by omega)] at h2
    exact .inl ⟨hi, _, _, _, _, h1, h2, h3⟩
  · rw [List.getElem?_append_right hi] at h1
    rw [List.getElem?_append_right (by omega), hl] at h2
    exact .inr ⟨hi, _, _, _, _, h1, h2, h3⟩
theorem Toks.left {cs2 : List CV} {ys2 : List Value} (hl : ys.length = cs.length) (h : Toks w Im (cs ++ cs2) (ys ++ ys2) D) : Toks w Im cs ys D := by
  refine ⟨hl, fun i c y hc hy => ?_, fun i j b h1 h2 => h.dis i j b h1.left h2.left, fun i b h1 => h.out i b h1.left⟩
  have a1 := (List.getElem?_eq_some_iff.1 hc).1
  exact h.tok i c y (by rw [List.getElem?_append_left a1]; exact hc) (by rw [List.getElem?_append_left (by omega)]; exact hy)
theorem Toks.right {cs2 : List CV} {ys2 : List Value} (hl : ys.length = cs.length) (h : Toks w Im (cs ++ cs2) (ys ++ ys2) D) : Toks w Im cs2 ys2 D := by
  refine ⟨by have := h.len; simp at this; omega, fun i c y hc hy => ?_, fun i j b h1 h2 => by have := h.dis _ _ b (h1.right hl) (h2.right hl); omega, fun i b h1 => h.out _ b (h1.right hl)⟩
  exact h.tok (cs.length + i) c y (by rw [List.getElem?_append_right (by omega)]; simpa using hc) (by rw [List.getElem?_append_right (by omega), hl]; simpa using hy)
theorem Toks.app {cs2 : List CV} {ys2 : List Value} (h : Toks w Im cs ys D) (h2 : Toks w Im cs2 ys2 D) (hd : ∀ i j b, OB cs ys i b → OB cs2 ys2 j b → False) : Toks w Im (cs ++ cs2) (ys ++ ys2) D := by
  have hl := h.len
  refine ⟨by simp [h.len, h2.len], fun i c y hc hy => ?_, fun i j b h3 h4 => ?_, fun i b h3 => ?_⟩
  · rcases Nat.lt_or_ge i cs.length with hi | hi
    · rw [List.getElem?_append_left hi] at hc
      rw [List.getElem?_append_left (by omega)] at hy
      exact h.tok i c y hc hy
    · rw [List.getElem?_append_right hi] at hc
      rw [List.getElem?_append_right (by omega), hl] at hy
      exact h2.tok _ c y hc hy
  · rcases h3.split hl with ⟨a1, a2⟩ | ⟨a1, a2⟩ <;> rcases h4.split hl with ⟨b1, b2⟩ | ⟨b1, b2⟩
    · exact h.dis i j b a2 b2
    · exact (hd _ _ b a2 b2).elim
    · exact (hd _ _ b b2 a2).elim
    · have := h2.dis _ _ b a2 b2; omega
  · rcases h3.split hl with ⟨a1, a2⟩ | ⟨a1, a2⟩
    · exact h.out i b a2
    · exact h2.out _ b a2
theorem OB.single {c : CV} {y : Value} {i b : Nat} (h : OB [c] [y] i b) : i = 0 ∧ Blk y b ∧ ∃ e sh xs, c = .own e sh xs := by
  obtain ⟨e, sh, xs, y', h1, h2, h3⟩ := h
  cases i with
  | zero => simp at h1 h2; subst h1; subst h2; exact ⟨rfl, h3, _, _, _, rfl⟩
  | succ i => simp at h1
theorem Toks.one {c : CV} {y : Value} (h : TokC w Im c y) (hd : ∀ e sh xs b, c = .own e sh xs → Blk y b → ¬ D b) : Toks w Im [c] [y] D := by
  refine ⟨rfl, fun i c' y' hc hy => ?_, fun i j b h1 h2 => by rw [h1.single.1, h2.single.1], fun i b h1 => ?_⟩
  · cases i with
    | zero => simp at hc hy; subst hc; subst hy; exact h
    | succ i => simp at hc
  · obtain ⟨_, h3, e, sh, xs, rfl⟩ := h1.single
    exact hd _ _ _ b rfl h3

/-! ### Out -/
/-- Boxes stay. -/
def Bx (ρ : Nat → Option Value) (o : List AObj) (ρ' : Nat → Option Value) (o' : List AObj) : Prop :=
  ∀ id cs, (o[id]? = some (.box cs) → o'[id]? = some (.box cs) ∧ ρ' id = ρ id) ∧ (o'[id]? = some (.box cs) → o[id]? = some (.box cs))
theorem Bx.refl : Bx ρ o ρ o := fun _ _ => ⟨fun h => ⟨h, rfl⟩, fun h => h⟩
theorem Bx.trans {ρ2 : Nat → Option Value} {o2 : List AObj} (h : Bx ρ o ρ' o') (k : Bx ρ' o' ρ2 o2) : Bx ρ o ρ2 o2 :=
  fun id cs => ⟨fun hc => let h1 := (h id cs).1 hc; let h2 := (k id cs).1 h1.1; ⟨h2.1, h2.2.trans h1.2⟩, fun hc => (h id cs).2 ((k id cs).2 hc)⟩
theorem bx_set {id : Nat} {x : AObj} (h : ∀ cs, o[id]? ≠ some (.box cs)) (hx : ∀ cs, x ≠ .box cs) : Bx ρ o ρ (o.set id x) := by
  intro i cs
  by_cases e : i = id
  · subst e
    refine ⟨fun hc => absurd hc (h cs), fun hc => ?_⟩
    rw [List.getElem?_set] at hc
    simp at hc
    exact absurd hc.2 (hx cs)
  · rw [List.getElem?_set_ne (Ne.symm e)]
    exact ⟨fun hc => ⟨hc, rfl⟩, fun hc => hc⟩
theorem bx_freezeC {c : CV} {v : PV} {o1 : List AObj} (h : freezeC o c = some (v, o1)) : Bx ρ o ρ o1 := by
  cases c <;> simp [freezeC] at h
  · rw [← h.2]; exact Bx.refl
  · obtain ⟨u, _, _, rfl⟩ := h
    unfold freezeO
    split
    · rename_i ho
      split
      · exact bx_set (by simp [ho]) (by simp)
      · cases Option.isNone _
        · exact Bx.refl
        · exact bx_set (by simp [ho]) (by simp)
    · exact Bx.refl
theorem bx_freezeCs : ∀ {cs : List CV} {vs : List PV} {o o1 : List AObj}, freezeCs o cs = some (vs, o1) → Bx ρ o ρ o1
  | [], vs, o, o1, h => by simp [freezeCs] at h; rw [← h.2]; exact Bx.refl
  | c :: cs, vs, o, o1, h => by
    simp only [freezeCs] at h
    obtain ⟨⟨v, o2⟩, hv, h⟩ := bind_some h
    obtain ⟨⟨us, o3⟩, hu, h⟩ := bind_some h
    simp at h
    obtain ⟨_, rfl⟩ := h
    exact (bx_freezeC hv).trans (bx_freezeCs hu)
/-- A row leaves the store. -/
theorem Step.kill (hs : SR w Im ρ o) {id sh ver : Nat} {e : Et} {fz : Bool} {xs : List PV} (ho : o[id]? = some (.arr e sh ver fz xs)) : Step w Im ρ o w Im (upd ρ id none) (o.set id .dead) := by
  have hlt := (List.getElem?_eq_some_iff.1 ho).1
  have him : ∀ b, Im b → Im b ∧ w.heap[b]? = w.heap[b]? := fun b hb => ⟨hb, rfl⟩
  have hc : Compat ρ (upd ρ id none) o (o.set id .dead) := by
    intro i a ha
    by_cases e1 : i = id
    · subst e1
      rw [ho] at ha
      injection ha with ha
      subst ha
      exact ⟨.dead, by simp [hlt], trivial⟩
    · exact ⟨a, by rw [List.getElem?_set_ne (Ne.symm e1)]; exact ha, by rw [upd_ne e1]; cases a <;> simp [CompatO]⟩
  have cs : ∀ i v, upd ρ id none i = some v → i ≠ id ∧ ρ i = some v := by
    intro i v h
    by_cases e1 : i = id
    · subst e1; rw [upd_same] at h; cases h
    · rw [upd_ne e1] at h; exact ⟨e1, h⟩
  refine ⟨Wd.refl w, ⟨?_, ?_, ?_, hs.im, ?_⟩, fun c y hy => RC.compat him hc hy, fun _ _ _ => rfl, ?_, him, fun b hb => .inl hb, ?_, ⟨by simp, fun i _ h0 => by
    by_cases e1 : i = id
    · subst e1; exact upd_same
    · rw [upd_ne e1]; exact h0⟩⟩
  · intro i a v ha hv
    obtain ⟨e1, hv⟩ := cs i v hv
    rw [List.getElem?_set_ne (Ne.symm e1)] at ha
    exact RO.keep him hc (fun _ _ => rfl) (fun _ _ h => h) (hs.ob i a v ha hv)
  · intro i i' v v' b hv hv' hb hb'
    exact hs.inj i i' v v' b (cs i v hv).2 (cs i' v' hv').2 hb hb'
  · intro i v hv
    obtain ⟨e1, hv⟩ := cs i v hv
    exact ⟨by simpa using (hs.lt i v hv).1, (hs.lt i v hv).2⟩
  · intro i hd
    by_cases e1 : i = id
    · subst e1; exact upd_same
    · rw [upd_ne e1]
      rw [List.getElem?_set_ne (Ne.symm e1)] at hd
      exact hs.dd i hd
  · intro i v b hv hb
    exact .inr ⟨i, v, (cs i v hv).2, hb⟩
  · intro hm i a ha hd
    by_cases e1 : i = id
    · subst e1; simp [hlt] at ha; exact absurd ha.symm hd
    · rw [List.getElem?_set_ne (Ne.symm e1)] at ha
      rw [upd_ne e1]
      exact hm i a ha hd
theorem Step.own (h : Step w Im ρ o w Im' ρ' o') : ∀ b, Ow ρ' b → Ow ρ b := by
  rintro b ⟨id, v, hv, hb⟩
  rcases h.ow id v b hv hb with h1 | h1
  · have := (h.sr.lt id v hv).2 b hb; omega
  · exact h1
theorem OBs.one {c : CV} {y : Value} {b : Nat} (hl : ys.length = cs.length) (h : OBs (cs ++ [c]) (ys ++ [y]) b) : OBs cs ys b ∨ (Blk y b ∧ ∃ e sh xs, c = .own e sh xs) := by
  obtain ⟨i, h⟩ := h
  rcases h.split hl with ⟨_, h1⟩ | ⟨_, h1⟩
  · exact .inl ⟨i, h1⟩
  · exact .inr h1.single.2
theorem ownNilG (w : World) (Im : Nat → Prop) (e : Et) (sh : Nat) (h : nilEt e sh = true) : ∃ g, mainV g = .slice none 0 0 ∧ OwnRow w Im e sh [] g ∧ ∀ b, ¬ Blk g b := by
  cases hk : e.kd with
  | none => exact ⟨.slice none 0 0, rfl, ⟨[], World.ownsRow_nil w 0 e.t (csz sh), by simp, by simp, by simp, by simp only [RKids, hk]; exact fun _ => rfl⟩, by simp⟩
  | some k =>
    simp only [nilEt, hk, Bool.and_eq_true, decide_eq_true_eq, Option.isNone_iff_eq_none] at h
    refine ⟨.tuple #[.slice none 0 0], rfl, ⟨[], World.ownsRow_nil w 0 e.t (csz sh), by simp, by simp, ?_, ?_⟩, ?_⟩
    · rintro b ⟨i, v, h1, h2⟩
      cases i <;> simp at h1
      subst h1
      exact h2.elim
    · simp only [RKids, hk]
      exact ⟨trivial, [], rfl, ⟨rfl, h.1, by simp, by simp, by simp, by simp⟩, by simp⟩
    · rintro b ⟨i, v, h1, h2⟩
      cases i <;> simp at h1
      subst h1
      exact h2.elim
/-- A row that is as asked for, as another column's. -/
theorem sameEt_own {e e' : Et} {sh len ver : Nat} {xs : List PV} {v : Value} (h : sameEt e e' len xs.length = true) (hr : RO w Im ρ o v (.arr e' sh ver false xs)) : (e.kd = none ∧ e'.kd = none ∧ e = e') ∨ (len = xs.length ∧ OwnRow w Im e sh xs v) := by
  unfold sameEt at h
  simp only [Bool.and_eq_true, beq_iff_eq] at h
  obtain ⟨ht, h⟩ := h
  split at h
  · rename_i h1 h2
    left
    refine ⟨h1, h2, ?_⟩
    cases e
    cases e'
    simp at ht h1 h2
    subst ht h1 h2
    rfl
  · rename_i k k' h1 h2
    right
    simp only [Bool.and_eq_true, beq_iff_eq, Option.isNone_iff_eq_none] at h
    obtain ⟨⟨⟨⟨⟨⟨hj, he⟩, hsh⟩, _⟩, hh⟩, hh'⟩, hl⟩ := h
    refine ⟨hl, ?_⟩
    obtain ⟨vals, hown, hs, hrp, hz, hk⟩ := hr
    simp only [RKids, h2] at hk
    obtain ⟨_, ks, hv, hks, hd⟩ := hk
    refine ⟨vals, by rw [ht]; exact hown, hs, fun i x j c y a1 a2 a3 => ?_, hz, ?_⟩
    · have := hrp i x j c y a1 a2 a3
      unfold RPk at this ⊢
      rw [h2] at this
      rw [h1]
      exact fun hjk => this (by rw [← hj]; exact hjk)
    · simp only [RKids, h1]
      refine ⟨trivial, ks, hv, ⟨hks.len, by rw [hj]; exact hks.jlt, fun i x hx _ => ?_, (fun i u h => by rw [hh] at h; cases h), hks.inj, hks.one⟩, hd⟩
      rw [hj, he, hsh]
      exact hks.kid i x hx (by rw [hh']; simp)
  · cases h
theorem outC_sound {K : CV → List AObj → R} {k : Kind} {c : CV} {y : Value} (hs : SR w Im ρ o) (hT : Toks w Im cs ys (Ow ρ)) (hc : RC w Im ρ o c y) (h : outC k c o K = some r) :
    ∃ d o1 Im1 ρ1 g, mainV g = y ∧ K d o1 = some r ∧ Step w Im ρ o w Im1 ρ1 o1 ∧ Bx ρ o ρ1 o1 ∧ Toks w Im1 (cs ++ [d]) (ys ++ [g]) (Ow ρ1) ∧ ∀ b, OBs (cs ++ [d]) (ys ++ [g]) b → OBs cs ys b ∨ Ow ρ b := by
  unfold outC at h
  split at h
  · obtain ⟨⟨v, o1⟩, hf, hk⟩ := bind_some h
    obtain ⟨v2, hk, hwk⟩ := castCell_some hk
    obtain ⟨Im1, hst, hr⟩ := freezeC_sound hs hc hf
    refine ⟨_, o1, Im1, ρ, y, hr.mainV, hk, hst, bx_freezeC hf, (hT.step hst).app (Toks.one (c := .p v2) (hwk.2 _ _ _ hr) (fun _ _ _ _ h => nomatch h)) (fun i j b _ h2 => ?_), fun b hb => ?_⟩
    · obtain ⟨_, _, _, _, _, h3⟩ := h2.single
      cases h3
    · rcases hb.one hT.len with h1 | ⟨_, _, _, _, h1⟩
      · exact .inl h1
      · cases h1
  · rename_i e sh
    split at h
    · rename_i v
      obtain ⟨⟨sh', f, xs⟩, hq, h⟩ := bind_some h
      obtain rfl := row_some hq
      · obtain ⟨hf, hk⟩ := bif_some h
        simp only [Bool.and_eq_true, beq_iff_eq] at hf
        obtain ⟨hf, hkj⟩ := hf
        have hy : y = .slice none 0 0 := by
          have hr : RP w Im (.row sh' f xs) y := hc
          subst hf
          cases hr with
          | nil => rfl
          | row _ _ _ a cap g hf2 => exact absurd rfl hf2
        subst hy
        obtain ⟨g, hg, hgo, hgb⟩ := ownNilG w Im e sh hkj
        refine ⟨_, o, Im, ρ, g, hg, hk, Step.refl hs, Bx.refl, hT.app (Toks.one hgo (fun _ _ _ b _ hb => (hgb b hb).elim)) (fun i j b _ h2 => ?_), fun b hb => ?_⟩
        · exact hgb b h2.single.2.1
        · rcases hb.one hT.len with h1 | ⟨h1, _⟩
          · exact .inl h1
          · exact (hgb b h1).elim
    · rename_i id ver sh' lo len
      split at h
      · rename_i e' sh'' ver' xs ho
        obtain ⟨hcnd, hk⟩ := bif_some h
        simp only [Bool.and_eq_true, beq_iff_eq] at hcnd
        obtain ⟨⟨⟨⟨rfl, rfl⟩, rfl⟩, rfl⟩, hsame⟩ := hcnd
        simp only [RC, ho] at hc
        obtain ⟨hle, v, hρ, hsl⟩ := hc.2 trivial trivial
        simp only [Nat.zero_add] at hle
        obtain ⟨vals, hown, hshp, hrp, hbk, hkids⟩ := hs.ob id _ _ ho hρ
        obtain ⟨hown2, hbx⟩ := own_take (lo := 0) hown hsl hle
        have hxl : (xs.take len).length = len := by simp; omega
        have hst := Step.kill hs ho
        have hrow : ∃ g, mainV g = y ∧ OwnRow w Im e sh (xs.take len) g ∧ ∀ b, Blk g b → Blk v b := by
          rcases sameEt_own hsame (hs.ob id _ _ ho hρ) with ⟨hk1, hk2, he⟩ | ⟨hl, hr⟩
          rotate_left
          · subst hl
            refine ⟨v, ?_, by rw [List.take_length]; exact hr, fun b hb => hb⟩
            rcases hown.2 with ⟨hm, hn⟩ | ⟨g, cap, cur, hm, _⟩
            · rw [hm] at hsl ⊢
              exact hsl.2.2.symm
            · rw [hm] at hsl ⊢
              obtain ⟨off, h1, _, h2⟩ := hsl
              have := h2 (.inl rfl)
              rw [h1, this]
              simp
          subst he
          simp only [RPk, hk1] at hrp
          refine ⟨y, (ownsRow_mainV hown2).1, ?_, fun b hb => main_Blk ((hbx b).1 hb)⟩
          refine ⟨_, by rw [hxl, (ownsRow_mainV hown2).1]; exact hown2, fun x hx => hshp x (List.mem_of_mem_take hx), ?_, fun b hb => ?_, by simp only [RKids, hk1]; exact fun _ => (ownsRow_mainV hown2).1⟩
          · intro i x j c u hx hj hu
            have hil : i < len := by have := (List.getElem?_eq_some_iff.1 hx).1; rwa [hxl] at this
            rw [List.getElem?_take_of_lt hil] at hx
            have hu' : vals[i * csz sh + j]? = some u := by
              rw [List.getElem?_take] at hu
              split at hu
              · exact hu
              · cases hu
            simp only [RPk, hk1]
            exact hrp i x j c u hx hj hu'
          · exact ⟨fun _ => (hbk b (main_Blk ((hbx b).1 hb))).1 rfl, fun h => nomatch h⟩
        obtain ⟨g, hgm, hrow, hgv⟩ := hrow
        refine ⟨_, _, Im, _, g, hgm, hk, hst, ?_, (hT.step hst).app (Toks.one hrow ?_) ?_, ?_⟩
        · intro i cs'
          have hb := (bx_set (ρ := ρ) (x := .dead) (id := id) (o := o) (by simp [ho]) (by simp)) i cs'
          refine ⟨fun hc' => ⟨(hb.1 hc').1, upd_ne fun e1 => ?_⟩, hb.2⟩
          subst e1
          rw [ho] at hc'
          cases hc'
        · rintro _ _ _ b _ hb ⟨i, u, hu, hub⟩
          replace hb := hgv b hb
          by_cases e1 : i = id
          · subst e1; rw [upd_same] at hu; cases hu
          · rw [upd_ne e1] at hu
            exact e1 (hs.inj i id u v b hu hρ hub hb)
        · intro i j b h1 h2
          have h3 := hgv b h2.single.2.1
          exact hT.out i b h1 ⟨id, v, hρ, h3⟩
        · intro b hb
          rcases hb.one hT.len with h1 | ⟨h1, _⟩
          · exact .inl h1
          · exact .inr ⟨id, v, hρ, hgv b h1⟩
      · cases h
    · cases h
theorem outCs_sound : ∀ {ks : List Kind} {c0 : List CV} {y0 : List Value} {o : List AObj} {Im : Nat → Prop} {ρ : Nat → Option Value} {cs : List CV} {ys : List Value} {K : List CV → List AObj → R}, SR w Im ρ o → Toks w Im cs ys (Ow ρ) → y0.length = c0.length →
    (∀ (i : Nat) (c : CV) (y : Value), c0[i]? = some c → y0[i]? = some y → RC w Im ρ o c y) → outCs ks c0 o K = some r →
    ∃ ds o1 Im1 ρ1 g0, g0.map mainV = y0 ∧ K ds o1 = some r ∧ Step w Im ρ o w Im1 ρ1 o1 ∧ Bx ρ o ρ1 o1 ∧ ds.length = c0.length ∧ ks.length = c0.length ∧ Toks w Im1 (cs ++ ds) (ys ++ g0) (Ow ρ1) ∧ ∀ b, OBs (cs ++ ds) (ys ++ g0) b → OBs cs ys b ∨ Ow ρ b
  | [], [], y0, o, Im, ρ, cs, ys, K, hs, hT, hl, hr, h => by
    simp only [outCs] at h
    have : y0 = [] := List.eq_nil_of_length_eq_zero hl
    subst this
    exact ⟨[], o, Im, ρ, [], rfl, h, Step.refl hs, Bx.refl, rfl, rfl, by simpa using hT, fun b hb => .inl (by simpa using hb)⟩
  | k :: ks, c :: c0, y0, o, Im, ρ, cs, ys, K, hs, hT, hl, hr, h => by
    cases y0 with
    | nil => simp at hl
    | cons y y0 =>
      simp only [outCs] at h
      obtain ⟨d, o1, Im1, ρ1, g, hg, h, hst, hb, hT1, hO1⟩ := outC_sound hs hT (hr 0 c y rfl rfl) h
      obtain ⟨ds, o2, Im2, ρ2, g0, hg0, h, hst2, hb2, hl2, hk2, hT2, hO2⟩ := outCs_sound hst.sr hT1 (by simpa using hl) (fun i c' y' hc' hy' => hst.keep _ _ (hr (i + 1) c' y' (by simpa using hc') (by simpa using hy'))) h
      refine ⟨d :: ds, o2, Im2, ρ2, g :: g0, by simp [hg, hg0], h, hst.trans hst2, hb.trans hb2, by simp [hl2], by simp [hk2], by simpa using hT2, fun b hb => ?_⟩
      rcases hO2 b (by simpa using hb) with h1 | h1
      · exact hO1 b h1
      · exact .inr (hst.own b h1)
  | [], _ :: _, _, _, _, _, _, _, _, _, _, _, _, h => by simp [outCs] at h
  | _ :: _, [], _, _, _, _, _, _, _, _, _, _, _, h => by simp [outCs] at h

/-- A result and its cells. -/
def RetS : SV → Value → List Value → Prop
  | .c _, y, zs => ∃ g, zs = [g] ∧ mainV g = y
  | .agg ds, y, zs => zs.length = ds.length ∧ y = .agg (zs.map mainV).toArray ∧ ∀ z ∈ zs, (mainV z).oneCell' = true
theorem cellsK_agg {α : Type} {K : List CV → Option α} {r : α} {n : Nat} {v : SV} {y : Value} (h : cellsK o (n + 1) v K = some r) (hy : RS w Im ρ o v y) : ∃ vs, y = .agg vs := by
  unfold cellsK at h
  split at h
  · obtain ⟨vs, rfl, _⟩ := hy; exact ⟨vs, rfl⟩
  · split at h
    · rename_i v
      obtain ⟨hc, _⟩ := bif_some h
      cases v <;> simp [PV.shp] at hc
      cases hy
      exact ⟨_, rfl⟩
    · obtain ⟨hc, _⟩ := bif_some h
      simp at hc
theorem bx_freezeS {x : SV} {v : PV} {o1 : List AObj} (h : freezeS o x = some (v, o1)) : Bx ρ o ρ o1 := by
  cases x with
  | c c => exact bx_freezeC h
  | agg cs =>
    simp only [freezeS] at h
    obtain ⟨⟨vs, o2⟩, hv, he⟩ := bind_some h
    simp at he
    rw [← he.2]
    exact bx_freezeCs hv
theorem outS_sound {K : SV → List AObj → R} {k : RK} {v : SV} {y : Value} (hs : SR w Im ρ o) (hT : Toks w Im cs ys (Ow ρ)) (hv : RS w Im ρ o v y) (h : outS k v o K = some r) :
    ∃ d o1 Im1 ρ1 zs, K d o1 = some r ∧ Step w Im ρ o w Im1 ρ1 o1 ∧ Bx ρ o ρ1 o1 ∧ RetS d y zs ∧ lenS d = lenK k ∧ Toks w Im1 (cs ++ cellsOfS d) (ys ++ zs) (Ow ρ1) ∧ ∀ b, OBs (cs ++ cellsOfS d) (ys ++ zs) b → OBs cs ys b ∨ Ow ρ b := by
  unfold outS at h
  split at h
  · obtain ⟨d, o1, Im1, ρ1, g, hg, h, hst, hb, hT1, hO⟩ := outC_sound hs hT hv h
    exact ⟨_, o1, Im1, ρ1, [g], h, hst, hb, ⟨g, rfl, hg⟩, rfl, hT1, hO⟩
  · rename_i cs'
    obtain ⟨⟨vs, o1⟩, hf, h⟩ := bind_some h
    have hf' : freezeS o (.agg cs') = some (.agg vs, o1) := by simp [freezeS, hf]
    obtain ⟨Im1, hst, hr⟩ := freezeS_sound hs hv hf'
    refine ⟨_, o1, Im1, ρ, [y], h, hst, bx_freezeS hf', ⟨y, rfl, hr.mainV⟩, rfl, (hT.step hst).app (Toks.one hr (fun _ _ _ _ h => nomatch h)) (fun i j b _ h2 => ?_), fun b hb => ?_⟩
    · obtain ⟨_, _, _, _, _, h3⟩ := h2.single
      cases h3
    · rcases hb.one hT.len with h1 | ⟨_, _, _, _, h1⟩
      · exact .inl h1
      · cases h1
  · rename_i v ks
    cases hk : ks.length with
    | zero =>
      have : ks = [] := List.eq_nil_of_length_eq_zero hk
      subst this
      obtain ⟨c0, h, hcl, hyl, hr, h1⟩ := cellsK_sound hs h hv
      obtain ⟨ds, o1, Im1, ρ1, g0, hg0, h, hst, hb, hl, hkl, hT1, _⟩ := outCs_sound (y0 := y.cells.toList) hs hT (by simpa using hyl) (fun i c z a b => hr i c z a (by simpa using b)) h
      simp [csz] at hcl hkl
      omega
    | succ n =>
      rw [hk] at h
      obtain ⟨vs, rfl⟩ := cellsK_agg h hv
      obtain ⟨c0, h, hcl, hyl, hr, h1⟩ := cellsK_sound hs h hv
      have e0 : (Value.agg vs).cells = vs := rfl
      rw [e0] at hyl hr h1
      obtain ⟨ds, o1, Im1, ρ1, g0, hg0, h, hst, hb, hl, hkl, hT1, hO⟩ := outCs_sound (y0 := vs.toList) hs hT (by simpa using hyl) (fun i c z a b => hr i c z a (by simpa using b)) h
      have hgl : g0.length = vs.size := by have := congrArg List.length hg0; simpa using this
      refine ⟨_, o1, Im1, ρ1, g0, h, hst, hb, ⟨by omega, by rw [hg0], fun z hz => ?_⟩, by simp [lenS, lenK]; omega, hT1, hO⟩
      have hz' : mainV z ∈ vs.toList := by rw [← hg0]; exact List.mem_map_of_mem hz
      obtain ⟨i, hi, hzi⟩ := List.getElem_of_mem hz'
      rw [← hzi]
      exact h1 i _ (by simp at hi; simp [hi])
  · cases h
inductive RetSs : List SV → List Value → List Value → Prop
  | nil : RetSs [] [] []
  | cons {d y zs ds ys' zss} : RetS d y zs → RetSs ds ys' zss → RetSs (d :: ds) (y :: ys') (zs ++ zss)
theorem outSs_sound : ∀ {ks : List RK} {vs : List SV} {y0 : List Value} {o : List AObj} {Im : Nat → Prop} {ρ : Nat → Option Value} {cs : List CV} {ys : List Value} {K : List SV → List AObj → R}, SR w Im ρ o → Toks w Im cs ys (Ow ρ) → y0.length = vs.length →
    (∀ (i : Nat) (c : SV) (y : Value), vs[i]? = some c → y0[i]? = some y → RS w Im ρ o c y) → outSs ks vs o K = some r →
    ∃ ds o1 Im1 ρ1 zs, K ds o1 = some r ∧ Step w Im ρ o w Im1 ρ1 o1 ∧ Bx ρ o ρ1 o1 ∧ RetSs ds y0 zs ∧ ds.map lenS = ks.map lenK ∧ Toks w Im1 (cs ++ ds.flatMap cellsOfS) (ys ++ zs) (Ow ρ1) ∧ ∀ b, OBs (cs ++ ds.flatMap cellsOfS) (ys ++ zs) b → OBs cs ys b ∨ Ow ρ b
  | [], [], y0, o, Im, ρ, cs, ys, K, hs, hT, hl, hr, h => by
    simp only [outSs] at h
    have : y0 = [] := List.eq_nil_of_length_eq_zero hl
    subst this
    exact ⟨[], o, Im, ρ, [], h, Step.refl hs, Bx.refl, .nil, rfl, by simpa using hT, fun b hb => .inl (by simpa using hb)⟩
  | k :: ks, v :: vs, y0, o, Im, ρ, cs, ys, K, hs, hT, hl, hr, h => by
    cases y0 with
    | nil => simp at hl
    | cons y y0 =>
      simp only [outSs] at h
      obtain ⟨d, o1, Im1, ρ1, zs, h, hst, hb, hret, hlk, hT1, hO1⟩ := outS_sound hs hT (hr 0 v y rfl rfl) h
      obtain ⟨ds, o2, Im2, ρ2, zss, h, hst2, hb2, hret2, hlk2, hT2, hO2⟩ := outSs_sound hst.sr hT1 (by simpa using hl) (fun i c' y' hc' hy' => hst.keepS _ _ (hr (i + 1) c' y' (by simpa using hc') (by simpa using hy'))) h
      refine ⟨d :: ds, o2, Im2, ρ2, zs ++ zss, h, hst.trans hst2, hb.trans hb2, .cons hret hret2, by simp [hlk, hlk2], by simpa using hT2, fun b hb => ?_⟩
      rcases hO2 b (by simpa using hb) with h1 | h1
      · exact hO1 b h1
      · exact .inr (hst.own b h1)
  | [], _ :: _, _, _, _, _, _, _, _, _, _, _, _, h => by simp [outSs] at h
  | _ :: _, [], _, _, _, _, _, _, _, _, _, _, _, h => by simp [outSs] at h
/-- The boxes' cells, as they lie. -/
def BoxAt (w : World) (b : Nat) (vs : List Value) : Prop := (∃ e, w.heap[b]? = some (.cells (vs.map mainV).toArray e (0, 0))) ∧ ∀ v ∈ vs, (mainV v).oneCell' = true
theorem outBs_sound : ∀ {kss : List (List Kind)} {ids : List Nat} {o : List AObj} {Im : Nat → Prop} {ρ : Nat → Option Value} {cs : List CV} {ys : List Value} {K : List (List CV) → List AObj → R}, SR w Im ρ o → Toks w Im cs ys (Ow ρ) →
    (∀ id ∈ ids, ∀ c0, o[id]? = some (.box c0) → ∃ b, ρ id = some (.pointer (some ⟨b, 0, none⟩))) → outBs kss ids o K = some r →
    ∃ (dss : List (List CV)) (o1 : List AObj) (Im1 : Nat → Prop) (ρ1 : Nat → Option Value) (vss : List (List Value)), K dss o1 = some r ∧ Step w Im ρ o w Im1 ρ1 o1 ∧ Bx ρ o ρ1 o1 ∧ dss.length = ids.length ∧ vss.length = ids.length ∧ dss.map List.length = kss.map List.length ∧ Toks w Im1 (cs ++ dss.flatten) (ys ++ vss.flatten) (Ow ρ1) ∧ (∀ b, OBs (cs ++ dss.flatten) (ys ++ vss.flatten) b → OBs cs ys b ∨ Ow ρ b) ∧
      ∀ (j id : Nat), ids[j]? = some id → ∃ b vs ds cs0, ρ id = some (.pointer (some ⟨b, 0, none⟩)) ∧ BoxAt w b vs ∧ vss[j]? = some vs ∧ dss[j]? = some ds ∧ ds.length = vs.length ∧ o[id]? = some (.box cs0)
  | [], [], o, Im, ρ, cs, ys, K, hs, hT, hp, h => by
    simp only [outBs] at h
    exact ⟨[], o, Im, ρ, [], h, Step.refl hs, Bx.refl, rfl, rfl, rfl, by simpa using hT, fun b hb => .inl (by simpa using hb), fun j id hj => by simp at hj⟩
  | ks :: kss, i :: ids, o, Im, ρ, cs, ys, K, hs, hT, hp, h => by
    simp only [outBs] at h
    split at h
    · rename_i c0 ho
      obtain ⟨b, hρ⟩ := hp i (by simp) c0 ho
      obtain ⟨b', vs, e, hb, hh, hl, hr, h1, _⟩ := hs.ob i _ _ ho hρ
      obtain rfl : b = b' := by simpa using hb
      obtain ⟨ds, o1, Im1, ρ1, g0, hg0, h, hst, hbx, hld, hlk, hT1, hO1⟩ := outCs_sound (y0 := vs.toList) hs hT (by simpa using hl) (fun i c y a c' => hr i c y a (by simpa using c')) h
      have hp1 : ∀ id ∈ ids, ∀ c0, o1[id]? = some (.box c0) → ∃ b, ρ1 id = some (.pointer (some ⟨b, 0, none⟩)) := by
        intro id hid c1 hc1
        have h2 := (hbx id c1).2 hc1
        obtain ⟨b, hb⟩ := hp id (by simp [hid]) c1 h2
        exact ⟨b, ((hbx id c1).1 h2).2.trans hb⟩
      obtain ⟨dss, o2, Im2, ρ2, vss, h, hst2, hbx2, hl1, hl2, hl3, hT2, hO2, hrest⟩ := outBs_sound hst.sr hT1 hp1 h
      have hgl : g0.length = vs.size := by have := congrArg List.length hg0; simpa using this
      refine ⟨ds :: dss, o2, Im2, ρ2, g0 :: vss, h, hst.trans hst2, hbx.trans hbx2, by simp [hl1], by simp [hl2], by simp [hl3, hld, hlk], by simpa using hT2, fun b hb => ?_, ?_⟩
      · rcases hO2 b (by simpa using hb) with h1 | h1
        · exact hO1 b h1
        · exact .inr (hst.own b h1)
      intro j id hj
      cases j with
      | zero =>
        simp at hj
        subst hj
        refine ⟨b, g0, ds, c0, hρ, ⟨⟨e, by rw [hg0]; simpa using hh⟩, fun v hv => ?_⟩, rfl, rfl, by omega, ho⟩
        have hz' : mainV v ∈ vs.toList := by rw [← hg0]; exact List.mem_map_of_mem hv
        obtain ⟨k, hk, hzk⟩ := List.getElem_of_mem hz'
        rw [← hzk]
        exact h1 k _ (by simp at hk; simp [hk])
      | succ j =>
        obtain ⟨b2, vs2, ds2, cs2, h3, h4, h5, h6, h7, h8⟩ := hrest j id (by simpa using hj)
        have h9 := (hbx id cs2).2 h8
        exact ⟨b2, vs2, ds2, cs2, by rw [← ((hbx id cs2).1 h9).2]; exact h3, h4, by simpa using h5, by simpa using h6, h7, h9⟩
    · cases h
  | [], _ :: _, _, _, _, _, _, _, _, _, _, h => by simp [outBs] at h
  | _ :: _, [], _, _, _, _, _, _, _, _, _, h => by simp [outBs] at h
end
end Go.Dp

/- Handing over: what comes in. -/
set_option linter.unusedVariables false
set_option linter.unusedSimpArgs false
namespace Go.Dp

/-- The store, but for some boxes whose cells nobody vouches for. -/
structure SRx (w : World) (Im : Nat → Prop) (ρ : Nat → Option Value) (o : List AObj) (X : Nat → Prop) : Prop where
  ob : ∀ id x v, ¬ X id → o[id]? = some x → ρ id = some v → RO w Im ρ o v x
  inj : ∀ id id' v v' b, ρ id = some v → ρ id' = some v' → Blk v b → Blk v' b → id = id'
  lt : ∀ id v, ρ id = some v → id < o.length ∧ ∀ b, Blk v b → b < w.heap.size
  im : ∀ b, Im b → b < w.heap.size
  dd : ∀ id, o[id]? = some .dead → ρ id = none
section
variable {P : Program} {E : Env} {w w' : World} {Im Im' : Nat → Prop} {ρ ρ' : Nat → Option Value} {o o' : List AObj} {K : Kt} {r : List SV × List (List CV)} {cs : List CV} {ys : List Value} {D D' X : Nat → Prop}
theorem SR.x (h : SR w Im ρ o) (X : Nat → Prop) : SRx w Im ρ o X := ⟨fun id x v _ => h.ob id x v, h.inj, h.lt, h.im, h.dd⟩
theorem SRx.sr (h : SRx w Im ρ o X) (hx : ∀ id, ¬ X id) : SR w Im ρ o := ⟨fun id x v => h.ob id x v (hx id), h.inj, h.lt, h.im, h.dd⟩
theorem SRx.mono {X' : Nat → Prop} (h : SRx w Im ρ o X) (hx : ∀ id, X id → X' id) : SRx w Im ρ o X' := ⟨fun id x v hn => h.ob id x v (fun h => hn (hx id h)), h.inj, h.lt, h.im, h.dd⟩
theorem him_refl : ∀ b, Im b → Im b ∧ w.heap[b]? = w.heap[b]? := fun b hb => ⟨hb, rfl⟩
theorem compat_app (hl : ∀ id v, ρ id = some v → id < o.length) (v : Option Value) (x : AObj) : Compat ρ (upd ρ o.length v) o (o ++ [x]) := by
  intro id a ha
  have hlt := (List.getElem?_eq_some_iff.1 ha).1
  refine ⟨a, by rw [List.getElem?_append_left hlt]; exact ha, ?_⟩
  rw [upd_ne (by omega)]
  cases a <;> simp [CompatO]
/-- What the in-coming leaves alone. -/
structure Inn (w : World) (Im : Nat → Prop) (ρ : Nat → Option Value) (o : List AObj) (ρ' : Nat → Option Value) (o' : List AObj) (A : Nat → Prop) : Prop where
  keep : ∀ c x, RC w Im ρ o c x → RC w Im ρ' o' c x
  own : ∀ b, Ow ρ' b → Ow ρ b ∨ A b
  box : ∀ id cs, o[id]? = some (.box cs) → ∃ cs', o'[id]? = some (.box cs') ∧ ρ' id = ρ id
  mp : Mapped ρ o → Mapped ρ' o'
  len : o.length ≤ o'.length
  no : ∀ id, id < o.length → ρ id = none → ρ' id = none
theorem Inn.refl {A : Nat → Prop} : Inn w Im ρ o ρ o A := ⟨fun _ _ h => h, fun b h => .inl h, fun id cs h => ⟨cs, h, rfl⟩, fun h => h, Nat.le_refl _, fun _ _ h => h⟩
theorem Inn.gr {A : Nat → Prop} (h : Inn w Im ρ o ρ' o' A) : Grown ρ o ρ' o' := ⟨h.len, h.no⟩
theorem Inn.trans {ρ2 : Nat → Option Value} {o2 : List AObj} {A : Nat → Prop} (h : Inn w Im ρ o ρ' o' A) (k : Inn w Im ρ' o' ρ2 o2 A) : Inn w Im ρ o ρ2 o2 A := by
  refine ⟨fun c x hc => k.keep c x (h.keep c x hc), fun b hb => ?_, fun id cs hc => ?_, fun hm => k.mp (h.mp hm), Nat.le_trans h.len k.len, (h.gr.trans k.gr).2⟩
  · rcases k.own b hb with h1 | h1
    · exact h.own b h1
    · exact .inr h1
  · obtain ⟨cs', h1, h2⟩ := h.box id cs hc
    obtain ⟨cs2, h3, h4⟩ := k.box id cs' h1
    exact ⟨cs2, h3, h4.trans h2⟩
theorem Inn.mono {A A' : Nat → Prop} (h : Inn w Im ρ o ρ' o' A) (ha : ∀ b, A b → A' b) : Inn w Im ρ o ρ' o' A' := ⟨h.keep, fun b hb => (h.own b hb).imp (fun h => h) (ha b), h.box, h.mp, h.len, h.no⟩
theorem adopt (hs : SRx w Im ρ o X) {e : Et} {sh : Nat} {xs : List PV} {v : Value} (hr : OwnRow w Im e sh xs v) (hv : ∀ b, Blk v b → ¬ Ow ρ b) :
    SRx w Im (upd ρ o.length (some v)) (o ++ [.arr e sh 0 false xs]) X ∧ Inn w Im ρ o (upd ρ o.length (some v)) (o ++ [.arr e sh 0 false xs]) (fun b => Blk v b) ∧ RC w Im (upd ρ o.length (some v)) (o ++ [.arr e sh 0 false xs]) (.loc o.length 0 sh 0 xs.length) (mainV v) := by
  have hrr := hr
  have hc := compat_app (o := o) (fun id v hv => (hs.lt id v hv).1) (some v) (.arr e sh 0 false xs)
  have cs : ∀ id u, upd ρ o.length (some v) id = some u → (id = o.length ∧ u = v) ∨ (id ≠ o.length ∧ ρ id = some u) := by
    intro id u h
    by_cases e : id = o.length
    · subst e; rw [upd_same] at h; exact .inl ⟨rfl, by injection h with h; exact h.symm⟩
    · rw [upd_ne e] at h; exact .inr ⟨e, h⟩
  obtain ⟨vals, hown, h1, h2, h3, h4⟩ := hr
  refine ⟨⟨?_, ?_, ?_, hs.im, ?_⟩, ⟨fun c y hy => RC.compat him_refl hc hy, ?_, ?_, ?_, by simp, fun id hl h0 => by rw [upd_ne (by omega)]; exact h0⟩, ?_⟩
  · intro id a u hX ha hu
    rcases cs id u hu with ⟨rfl, rfl⟩ | ⟨hne, hu⟩
    · have : a = .arr e sh 0 false xs := by simpa using ha.symm
      subst this
      exact ⟨vals, hown, h1, h2, h3, h4⟩
    · have hlt := (hs.lt id u hu).1
      rw [List.getElem?_append_left hlt] at ha
      exact RO.keep him_refl hc (fun _ _ => rfl) (fun b _ h => h) (hs.ob id a u hX ha hu)
  · intro id id' u u' b hu hu' hb hb'
    rcases cs id u hu with ⟨h1, h2⟩ | ⟨hne, h2⟩ <;> rcases cs id' u' hu' with ⟨h3, h4⟩ | ⟨hne', h4⟩
    · exact h1.trans h3.symm
    · rw [h2] at hb; exact (hv b hb ⟨id', u', h4, hb'⟩).elim
    · rw [h4] at hb'; exact (hv b hb' ⟨id, u, h2, hb⟩).elim
    · exact hs.inj id id' u u' b h2 h4 hb hb'
  · intro id u hu
    rcases cs id u hu with ⟨rfl, rfl⟩ | ⟨hne, hu⟩
    · exact ⟨by simp, fun b hb => RO.arr_lt hrr hb⟩
    · have := hs.lt id u hu
      exact ⟨by simp; omega, this.2⟩
  · intro id hd
    by_cases e1 : id = o.length
    · subst e1; simp at hd
    · rw [upd_ne e1]
      have hlt : id < o.length := by have := (List.getElem?_eq_some_iff.1 hd).1; simp at this; omega
      rw [List.getElem?_append_left hlt] at hd
      exact hs.dd id hd
  · rintro b ⟨id, u, hu, hb⟩
    rcases cs id u hu with ⟨rfl, rfl⟩ | ⟨hne, hu⟩
    · exact .inr hb
    · exact .inl ⟨id, u, hu, hb⟩
  · intro id cs' hc'
    have hlt := (List.getElem?_eq_some_iff.1 hc').1
    exact ⟨cs', by rw [List.getElem?_append_left hlt]; exact hc', upd_ne (by omega)⟩
  · intro hm id a ha hd
    by_cases e1 : id = o.length
    · subst e1; exact ⟨v, upd_same⟩
    · rw [upd_ne e1]
      have hlt : id < o.length := by have := (List.getElem?_eq_some_iff.1 ha).1; simp at this; omega
      rw [List.getElem?_append_left hlt] at ha
      exact hm id a ha hd
  · simp only [RC]
    simp
    exact ⟨v, upd_same, ownsRow_self hown⟩
/-- A box filled. -/
theorem close (hs : SRx w Im ρ o X) {i b : Nat} {c0 ds : List CV} {vs : List Value} (ho : o[i]? = some (.box c0)) (hρ : ρ i = some (.pointer (some ⟨b, 0, none⟩))) (hb : BoxAt w b vs) (hI : ¬ Im b) (hl : vs.length = ds.length)
    (hr : ∀ (k : Nat) (c : CV) (y : Value), ds[k]? = some c → vs[k]? = some y → RC w Im ρ o c (mainV y)) :
    SRx w Im ρ (o.set i (.box ds)) (fun j => X j ∧ j ≠ i) ∧ Inn w Im ρ o ρ (o.set i (.box ds)) (fun _ => False) := by
  have hlt := (List.getElem?_eq_some_iff.1 ho).1
  have hc : Compat ρ ρ o (o.set i (.box ds)) := by
    intro j a ha
    by_cases e1 : j = i
    · subst e1
      rw [ho] at ha
      injection ha with ha
      subst ha
      exact ⟨.box ds, by rw [List.getElem?_set_self hlt], rfl⟩
    · exact ⟨a, by rw [List.getElem?_set_ne (Ne.symm e1)]; exact ha, by cases a <;> simp [CompatO]⟩
  refine ⟨⟨?_, hs.inj, fun id v hv => ⟨by simpa using (hs.lt id v hv).1, (hs.lt id v hv).2⟩, hs.im, ?_⟩, ⟨fun c y hy => RC.compat him_refl hc hy, fun b hb => .inl hb, ?_, ?_, by simp, fun _ _ h => h⟩⟩
  · intro j a v hX ha hv
    by_cases e1 : j = i
    · subst e1
      rw [List.getElem?_set_self hlt] at ha
      injection ha with ha
      subst ha
      rw [hρ] at hv
      injection hv with hv
      subst hv
      obtain ⟨e, he⟩ := hb.1
      refine ⟨b, (vs.map mainV).toArray, e, rfl, he, by simpa using hl, fun k c y hk hy => ?_, fun k y hy => ?_, hI⟩
      · simp only [List.getElem?_toArray, List.getElem?_map, Option.map_eq_some_iff] at hy
        obtain ⟨y', hy', rfl⟩ := hy
        exact RC.compat him_refl hc (hr k c y' hk hy')
      · simp only [List.getElem?_toArray, List.getElem?_map, Option.map_eq_some_iff] at hy
        obtain ⟨y', hy', rfl⟩ := hy
        exact hb.2 y' (List.mem_of_getElem? hy')
    · rw [List.getElem?_set_ne (Ne.symm e1)] at ha
      exact RO.keep him_refl hc (fun _ _ => rfl) (fun _ _ h => h) (hs.ob j a v (fun h => hX ⟨h, e1⟩) ha hv)
  · intro j hd
    by_cases e1 : j = i
    · subst e1; rw [List.getElem?_set_self hlt] at hd; cases hd
    · rw [List.getElem?_set_ne (Ne.symm e1)] at hd; exact hs.dd j hd
  · intro j cs' hj
    by_cases e1 : j = i
    · subst e1; exact ⟨ds, by rw [List.getElem?_set_self hlt], rfl⟩
    · exact ⟨cs', by rw [List.getElem?_set_ne (Ne.symm e1)]; exact hj, rfl⟩
  · intro hm j a ha hd
    by_cases e1 : j = i
    · subst e1; exact ⟨_, hρ⟩
    · rw [List.getElem?_set_ne (Ne.symm e1)] at ha; exact hm j a ha hd

theorem inP_eq (ct : CellT) (c : Option CV) (K : PV → R) : inP ct c K = (asP c).bind fun v => castCell ct v K := by
  cases ct <;> simp only [inP, castCell, cInt, cBool, cStr, cRow] <;> cases asP c <;> rfl
theorem inC_sound {K : CV → List AObj → R} {k : Kind} {c : Option CV} {c1 : CV} {y : Value} {A : Nat → Prop} (hs : SRx w Im ρ o X) (hc : c = some c1) (hT : Toks w Im (c1 :: cs) (y :: ys) (Ow ρ)) (hA : ∀ i b, OB (c1 :: cs) (y :: ys) i b → A b) (h : inC k c o K = some r) :
    ∃ d o1 ρ1, K d o1 = some r ∧ SRx w Im ρ1 o1 X ∧ Inn w Im ρ o ρ1 o1 A ∧ RC w Im ρ1 o1 d (mainV y) ∧ Toks w Im cs ys (Ow ρ1) := by
  subst hc
  have hr := hT.tok 0 c1 y rfl rfl
  have htl : Toks w Im cs ys (Ow ρ) := Toks.right (cs := [c1]) (ys := [y]) rfl hT
  unfold inC at h
  split at h
  · rw [inP_eq] at h
    obtain ⟨v, hv, hk⟩ := bind_some h
    cases c1 <;> simp [asP] at hv
    subst hv
    obtain ⟨v2, hk, hwk⟩ := castCell_some hk
    exact ⟨.p v2, o, ρ, hk, hs, Inn.refl, by rw [RP.mainV hr]; exact hwk.2 _ _ _ hr, htl⟩
  · rename_i e sh
    obtain ⟨xs, hv, hk⟩ := bind_some h
    cases c1 <;> simp only [asOwn] at hv <;> first | (cases hv; done) | skip
    rename_i e' sh' xs'
    obtain ⟨hcnd, hv2⟩ := bif_some hv
    simp only [Bool.and_eq_true, beq_iff_eq] at hcnd
    obtain ⟨rfl, rfl⟩ := hcnd
    injection hv2 with hv2
    subst hv2
    have hnew : ∀ b, Blk y b → OB (.own e sh xs' :: cs) (y :: ys) 0 b := fun b hb => ⟨_, _, _, y, rfl, rfl, hb⟩
    obtain ⟨h1, h2, h3⟩ := adopt hs hr (fun b hb => hT.out 0 b (hnew b hb))
    refine ⟨_, _, _, hk, h1, h2.mono fun b hb => hA 0 b (hnew b hb), h3, htl.keep him_refl fun i b hob => ⟨rfl, (htl.lt hob).2, fun hO => ?_⟩⟩
    rcases h2.own b hO with h4 | h4
    · exact htl.out i b hob h4
    · have := hT.dis _ _ b (hnew b h4) (OB.right (cs := [.own e sh xs']) (ys := [y]) rfl hob)
      simp at this
      omega
theorem inCs_sound {A : Nat → Prop} {get : Nat → Option CV} : ∀ {ks : List Kind} {i : Nat} {c0 : List CV} {y0 : List Value} {o : List AObj} {ρ : Nat → Option Value} {K : List CV → List AObj → R}, SRx w Im ρ o X → c0.length = ks.length → y0.length = ks.length →
    (∀ t, t < ks.length → get (i + t) = c0[t]?) → Toks w Im (c0 ++ cs) (y0 ++ ys) (Ow ρ) → (∀ i b, OB (c0 ++ cs) (y0 ++ ys) i b → A b) → inCs get ks i o K = some r →
    ∃ ds o1 ρ1, K ds o1 = some r ∧ SRx w Im ρ1 o1 X ∧ Inn w Im ρ o ρ1 o1 A ∧ ds.length = ks.length ∧ (∀ (t : Nat) (d : CV) (y : Value), ds[t]? = some d → y0[t]? = some y → RC w Im ρ1 o1 d (mainV y)) ∧ Toks w Im cs ys (Ow ρ1)
  | [], i, c0, y0, o, ρ, K, hs, hl, hl2, hg, hT, hA, h => by
    simp only [inCs] at h
    have e1 : c0 = [] := List.eq_nil_of_length_eq_zero hl
    have e2 : y0 = [] := List.eq_nil_of_length_eq_zero hl2
    subst e1
    subst e2
    exact ⟨[], o, ρ, h, hs, Inn.refl, rfl, fun t d y hd => by simp at hd, by simpa using hT⟩
  | k :: ks, i, c0, y0, o, ρ, K, hs, hl, hl2, hg, hT, hA, h => by
    cases c0 with
    | nil => simp at hl
    | cons c c0 =>
      cases y0 with
      | nil => simp at hl2
      | cons y y0 =>
        simp only [inCs] at h
        have hg0 := hg 0 (by simp)
        simp only [Nat.add_zero, List.getElem?_cons_zero] at hg0
        obtain ⟨d, o1, ρ1, h, hs1, hin, hr, hT1⟩ := inC_sound (cs := c0 ++ cs) (ys := y0 ++ ys) (A := A) hs hg0 (by simpa using hT) (by simpa using hA) h
        obtain ⟨ds, o2, ρ2, h, hs2, hin2, hl3, hr2, hT2⟩ := inCs_sound (c0 := c0) (y0 := y0) hs1 (by simpa using hl) (by simpa using hl2)
          (fun t ht => by rw [show i + 1 + t = i + (t + 1) by omega, hg (t + 1) (by simpa using ht)]; simp) hT1 (fun j b hob => hA _ b (OB.right (cs := [c]) (ys := [y]) rfl hob)) h
        refine ⟨d :: ds, o2, ρ2, h, hs2, hin.trans hin2, by simp [hl3], ?_, hT2⟩
        intro t d' y' hd' hy'
        cases t with
        | zero =>
          simp at hd' hy'
          subst hd'
          subst hy'
          exact hin2.keep _ _ hr
        | succ t => exact hr2 t d' y' (by simpa using hd') (by simpa using hy')

theorem cellAt_get {bs : List (List CV)} {j : Nat} {c0 : List CV} (h : bs[j]? = some c0) (i : Nat) : cellAt bs j i = c0[i]? := by simp [cellAt, h]
/-- The boxes are filled, one by one. -/
theorem inBs_sound {A : Nat → Prop} {bs : List (List CV)} : ∀ {kss : List (List Kind)} {is : List Nat} {j : Nat} {bsr : List (List CV)} {vss : List (List Value)} {o : List AObj} {ρ : Nat → Option Value} {K : List AObj → R}, SRx w Im ρ o (· ∈ is) →
    bsr.map List.length = kss.map List.length → vss.map List.length = kss.map List.length → is.length = kss.length → (∀ t, t < kss.length → bs[j + t]? = bsr[t]?) →
    (∀ (t i : Nat) (vs : List Value), is[t]? = some i → vss[t]? = some vs → ∃ b c0, o[i]? = some (.box c0) ∧ ρ i = some (.pointer (some ⟨b, 0, none⟩)) ∧ BoxAt w b vs ∧ ¬ Im b) →
    Toks w Im (bsr.flatten ++ cs) (vss.flatten ++ ys) (Ow ρ) → (∀ i b, OB (bsr.flatten ++ cs) (vss.flatten ++ ys) i b → A b) → inBs bs kss is j o K = some r →
    ∃ o1 ρ1, K o1 = some r ∧ SR w Im ρ1 o1 ∧ Inn w Im ρ o ρ1 o1 A ∧ Toks w Im cs ys (Ow ρ1)
  | [], [], j, bsr, vss, o, ρ, K, hs, hl, hl2, hli, hg, hb, hT, hA, h => by
    simp only [inBs] at h
    have e1 : bsr = [] := by simpa using hl
    have e2 : vss = [] := by simpa using hl2
    subst e1
    subst e2
    exact ⟨o, ρ, h, hs.sr (by simp), Inn.refl, by simpa using hT⟩
  | ks :: kss, i :: is, j, bsr, vss, o, ρ, K, hs, hl, hl2, hli, hg, hb, hT, hA, h => by
    cases bsr with
    | nil => simp at hl
    | cons c0 bsr =>
      cases vss with
      | nil => simp at hl2
      | cons v0 vss =>
        simp only [inBs] at h
        simp only [List.map_cons, List.cons.injEq] at hl hl2
        have hg0 := hg 0 (by simp)
        simp only [Nat.add_zero, List.getElem?_cons_zero] at hg0
        have hlen : v0.length = c0.length := by rw [hl.1, hl2.1]
        obtain ⟨ds, o1, ρ1, h, hs1, hin, hl3, hr, hT1⟩ := inCs_sound (cs := bsr.flatten ++ cs) (ys := vss.flatten ++ ys) (A := A) (c0 := c0) (y0 := v0) hs hl.1 hl2.1 (fun t ht => by rw [Nat.zero_add]; exact cellAt_get hg0 t)
          (by simpa using hT) (by simpa using hA) h
        obtain ⟨b, c00, ho, hρ, hbx, hI⟩ := hb 0 i v0 rfl rfl
        obtain ⟨c1, ho1, hρ1⟩ := hin.box i c00 ho
        rw [hρ] at hρ1
        obtain ⟨hs2, hin2⟩ := close hs1 ho1 hρ1 hbx hI (by rw [hl3]; exact hl2.1) hr
        have hin2' : Inn w Im ρ1 o1 ρ1 (o1.set i (.box ds)) A := hin2.mono fun _ h => h.elim
        have hb2 : ∀ (t i' : Nat) (vs : List Value), is[t]? = some i' → vss[t]? = some vs → ∃ b c0, (o1.set i (.box ds))[i']? = some (.box c0) ∧ ρ1 i' = some (.pointer (some ⟨b, 0, none⟩)) ∧ BoxAt w b vs ∧ ¬ Im b := by
          intro t i' vs hi hv
          obtain ⟨b', c2, h1, h2, h3, h4⟩ := hb (t + 1) i' vs (by simpa using hi) (by simpa using hv)
          obtain ⟨c3, h5, h6⟩ := (hin.trans hin2').box i' c2 h1
          exact ⟨b', c3, h5, h6.trans h2, h3, h4⟩
        obtain ⟨o3, ρ3, hk, hs3, hin3, hT3⟩ := inBs_sound (bsr := bsr) (vss := vss) (hs2.mono (X' := (· ∈ is)) fun id hid => by
            rcases List.mem_cons.1 hid.1 with h1 | h1
            · exact absurd h1 hid.2
            · exact h1) hl.2 hl2.2 (by simpa using hli)
          (fun t ht => by rw [show j + 1 + t = j + (t + 1) by omega, hg (t + 1) (by simpa using ht)]; simp) hb2 hT1 (fun t b hob => by
            have := OB.right (cs := c0) (ys := v0) hlen hob
            exact hA _ b (by simpa using this)) h
        exact ⟨o3, ρ3, hk, hs3, (hin.trans hin2').trans hin3, hT3⟩
  | [], _ :: _, _, _, _, _, _, _, _, _, _, _, _, _, _, _, h => by simp [inBs] at h
  | _ :: _, [], _, _, _, _, _, _, _, _, _, _, _, _, _, _, h => by simp [inBs] at h
theorem lenS_zero {d : SV} {k : Kind} (h : lenS d = lenK (.c k)) : ∃ c, d = .c c := by cases d <;> simp_all [lenS, lenK]
theorem lenS_succ {d : SV} {ks : List Kind} (h : lenS d = lenK (.agg ks)) : ∃ c, d = .agg c ∧ c.length = ks.length := by cases d <;> simp_all [lenS, lenK]
theorem inSs_sound {A : Nat → Prop} {vs : List SV} : ∀ {ks : List RK} {j : Nat} {vr : List SV} {y0 zs : List Value} {o : List AObj} {ρ : Nat → Option Value} {K : List SV → List AObj → R}, SR w Im ρ o → vr.map lenS = ks.map lenK → RetSs vr y0 zs →
    (∀ t, t < ks.length → vs[j + t]? = vr[t]?) → Toks w Im (vr.flatMap cellsOfS) zs (Ow ρ) → (∀ i b, OB (vr.flatMap cellsOfS) zs i b → A b) → inSs vs ks j o K = some r →
    ∃ ds o1 ρ1, K ds o1 = some r ∧ SR w Im ρ1 o1 ∧ Inn w Im ρ o ρ1 o1 A ∧ ds.length = ks.length ∧ y0.length = ks.length ∧ ∀ (t : Nat) (d : SV) (y : Value), ds[t]? = some d → y0[t]? = some y → RS w Im ρ1 o1 d y
  | [], j, vr, y0, zs, o, ρ, K, hs, hl, hret, hg, hT, hA, h => by
    simp only [inSs] at h
    have e1 : vr = [] := by simpa using hl
    subst e1
    cases hret
    exact ⟨[], o, ρ, h, hs, Inn.refl, rfl, rfl, fun t d y hd => by simp at hd⟩
  | k :: ks, j, vr, y0, zs, o, ρ, K, hs, hl, hret, hg, hT, hA, h => by
    cases hret with
    | nil => simp at hl
    | @cons d0 y z0 vr y0 zs h0 hrest =>
      simp only [List.map_cons, List.cons.injEq] at hl
      have hg0 := hg 0 (by simp)
      simp only [Nat.add_zero, List.getElem?_cons_zero] at hg0
      have hgr : ∀ t, t < ks.length → vs[j + 1 + t]? = vr[t]? := fun t ht => by rw [show j + 1 + t = j + (t + 1) by omega, hg (t + 1) (by simpa using ht)]; simp
      cases k with
      | c k =>
        obtain ⟨c, rfl⟩ := lenS_zero hl.1
        simp only [RetS] at h0
        obtain ⟨g, rfl, rfl⟩ := h0
        simp only [inSs] at h
        obtain ⟨d, o1, ρ1, h, hs1, hin, hr, hT1⟩ := inC_sound (cs := vr.flatMap cellsOfS) (ys := zs) (A := A) (X := fun _ => False) (c1 := c) (y := g) (hs.x _) (by simp [resAt, hg0]) (by simpa [cellsOfS] using hT) (by simpa [cellsOfS] using hA) h
        obtain ⟨ds, o2, ρ2, h, hs2, hin2, hl3, hl4, hr2⟩ := inSs_sound (hs1.sr fun _ h => h) hl.2 hrest hgr hT1 (fun t b hob => hA _ b (by simpa [cellsOfS] using OB.right (cs := [c]) (ys := [g]) rfl hob)) h
        refine ⟨.c d :: ds, o2, ρ2, h, hs2, hin.trans hin2, by simp [hl3], by simp [hl4], ?_⟩
        intro t d' y' hd' hy'
        cases t with
        | zero =>
          simp at hd' hy'
          subst hd'
          subst hy'
          exact hin2.keep _ _ hr
        | succ t => exact hr2 t d' y' (by simpa using hd') (by simpa using hy')
      | agg kk =>
        obtain ⟨c, rfl, hcl⟩ := lenS_succ hl.1
        obtain ⟨hzl, rfl, hz1⟩ := h0
        simp only [inSs] at h
        obtain ⟨d, o1, ρ1, h, hs1, hin, hdl, hr, hT1⟩ := inCs_sound (cs := vr.flatMap cellsOfS) (ys := zs) (A := A) (X := fun _ => False) (c0 := c) (y0 := z0) (hs.x _) hcl (by omega) (fun t ht => by simp [partAt, hg0]) (by simpa [cellsOfS] using hT) (by simpa [cellsOfS] using hA) h
        obtain ⟨ds, o2, ρ2, h, hs2, hin2, hl3, hl4, hr2⟩ := inSs_sound (hs1.sr fun _ h => h) hl.2 hrest hgr hT1 (fun t b hob => hA _ b (by simpa [cellsOfS] using OB.right (cs := c) (ys := z0) hzl hob)) h
        refine ⟨mkAgg d :: ds, o2, ρ2, h, hs2, hin.trans hin2, by simp [hl3], by simp [hl4], ?_⟩
        intro t d' y' hd' hy'
        cases t with
        | zero =>
          simp at hd' hy'
          subst hd'
          subst hy'
          refine mkAgg_sound (by simp; omega) (fun i c' y hc' hy => ?_) (fun i y hy => ?_)
          · simp only [List.getElem?_toArray, List.getElem?_map, Option.map_eq_some_iff] at hy
            obtain ⟨y', hy', rfl⟩ := hy
            exact hin2.keep _ _ (hr i c' y' hc' hy')
          · simp only [List.getElem?_toArray, List.getElem?_map, Option.map_eq_some_iff] at hy
            obtain ⟨y', hy', rfl⟩ := hy
            exact hz1 y' (List.mem_of_getElem? hy')
        | succ t => exact hr2 t d' y' (by simpa using hd') (by simpa using hy')
end
end Go.Dp

/- Calls: what is known of a function, and what the caller makes of it. -/
set_option linter.unusedVariables false
set_option linter.unusedSimpArgs false
namespace Go.Dp

def Ptrs (bl : List Nat) : Nat → Option Value := fun j => bl[j]?.map fun b => .pointer (some ⟨b, 0, none⟩)
def blanks (n : Nat) : List AObj := List.replicate n (.box [])
def packV : List Value → Value
  | [y] => y
  | ys => .tuple ys.toArray
def RetV (rs : List SV) (v : Value) (zs : List Value) : Prop := ∃ y0, RetSs rs y0 zs ∧ v = packV y0
/-- The blocks that the callee may write. -/
def DD (bl : List Nat) (cs : List CV) (ys : List Value) (b : Nat) : Prop := b ∈ bl ∨ OBs cs ys b
def Enters (P : Program) (f : FuncId) : Prop := ∃ fn, P.funcs[f]? = some fn ∧ fn.body.isSome = true ∧ fn.name ≠ "runtime.NumGoroutine"
structure Pre (w : World) (Im : Nat → Prop) (bl : List Nat) (bs : List (List CV)) (vss : List (List Value)) (args : List AV) (ys : List Value) : Prop where
  im : ∀ b, Im b → b < w.heap.size
  nd : ∀ (i j b : Nat), bl[i]? = some b → bl[j]? = some b → i = j
  l1 : bl.length = bs.length
  l2 : vss.map List.length = bs.map List.length
  box : ∀ (j b : Nat) (vs : List Value), bl[j]? = some b → vss[j]? = some vs → BoxAt w b vs ∧ ¬ Im b
  tok : Toks w Im bs.flatten vss.flatten (· ∈ bl)
  l3 : ys.length = args.length
  arg : ∀ (i : Nat) (a : AV) (y : Value), args[i]? = some a → ys[i]? = some y → RA w Im (Ptrs bl) (blanks bl.length) a y
structure Post (w : World) (Im : Nat → Prop) (bl : List Nat) (bs : List (List CV)) (vss : List (List Value)) (r : List SV × List (List CV)) (v : Value) (w' : World) (Im' : Nat → Prop) (vss' : List (List Value)) (zs : List Value) : Prop where
  wd : Wd w w'
  fr : ∀ b, b < w.heap.size → ¬ DD bl bs.flatten vss.flatten b → w'.heap[b]? = w.heap[b]?
  im : ∀ b, Im b → Im' b ∧ w'.heap[b]? = w.heap[b]?
  imn : ∀ b, Im' b → (Im b ∨ w.heap.size ≤ b ∨ DD bl bs.flatten vss.flatten b) ∧ b < w'.heap.size
  l1 : r.2.length = bl.length
  l2 : vss'.map List.length = r.2.map List.length
  box : ∀ (j b : Nat) (vs : List Value), bl[j]? = some b → vss'[j]? = some vs → BoxAt w' b vs ∧ ¬ Im' b
  tok : Toks w' Im' (r.2.flatten ++ r.1.flatMap cellsOfS) (vss'.flatten ++ zs) (· ∈ bl)
  ow : ∀ b, OBs (r.2.flatten ++ r.1.flatMap cellsOfS) (vss'.flatten ++ zs) b → w.heap.size ≤ b ∨ DD bl bs.flatten vss.flatten b
  ret : RetV r.1 v zs
/-- What is known of a function at given arguments and boxes. -/
def Contract (P : Program) (f : FuncId) (args : List AV) (bs : List (List CV)) (r : List SV × List (List CV)) : Prop :=
  Enters P f ∧ ∀ w Im bl vss ys, Pre w Im bl bs vss args ys → Calls P f ys.toArray w fun e w' => ∃ v Im' vss' zs, e = .returned v ∧ Post w Im bl bs vss r v w' Im' vss' zs

theorem mem_add1 {l : List Nat} {i x : Nat} : x ∈ add1 l i ↔ x ∈ l ∨ x = i := by
  unfold add1
  cases h : l.contains i
  · simp
  · simp at h
    simp
    intro e; subst e; exact h
theorem mem_adds {l is : List Nat} {x : Nat} : x ∈ adds l is ↔ x ∈ l ∨ x ∈ is := by
  unfold adds
  induction is generalizing l with
  | nil => simp
  | cons i is ih => rw [List.foldl_cons, ih, mem_add1]; simp [or_assoc]
theorem nodup_add1 {l : List Nat} {i : Nat} (h : l.Nodup) : (add1 l i).Nodup := by
  unfold add1
  cases hc : l.contains i
  · simp at hc
    simp [List.nodup_append, h]
    intro a ha e
    subst e
    exact hc ha
  · exact h
theorem nodup_adds {l is : List Nat} (h : l.Nodup) : (adds l is).Nodup := by
  unfold adds
  induction is generalizing l with
  | nil => exact h
  | cons i is ih => exact ih (nodup_add1 h)
theorem idx_some {L : List Nat} {id j : Nat} (h : idx L id = some j) : L[j]? = some id := by
  unfold idx at h
  rw [List.idxOf?_eq_some_iff] at h
  obtain ⟨hlt, h1, _⟩ := h
  simp [hlt, h1]
theorem idxs_some {L : List Nat} : ∀ {is js : List Nat}, idxs L is = some js → js.length = is.length ∧ ∀ (k j : Nat), js[k]? = some j → ∃ id, is[k]? = some id ∧ L[j]? = some id
  | [], js, h => by simp [idxs] at h; subst h; exact ⟨rfl, fun k j h => by simp at h⟩
  | i :: is, js, h => by
    simp only [idxs] at h
    split at h
    · rename_i j js' h1 h2
      injection h with h
      subst h
      obtain ⟨hl, hr⟩ := idxs_some h2
      refine ⟨by simp [hl], fun k j' hj => ?_⟩
      cases k with
      | zero => simp at hj; subst hj; exact ⟨i, rfl, idx_some h1⟩
      | succ k => simpa using hr k j' (by simpa using hj)
    · cases h
section
variable {P : Program} {E : Env} {w w' : World} {Im Im' : Nat → Prop} {ρ ρ' : Nat → Option Value} {o o' : List AObj} {K : Kt} {r : List SV × List (List CV)} {cs : List CV} {ys : List Value} {D D' X : Nat → Prop}

theorem cells_of_RA {a : AV} {y : Value} (h : RA w Im ρ o a y) : ∀ c ∈ cellsOfA a, ∃ z, RC w Im ρ o c z := by
  have hS : ∀ (v : SV) (y : Value), RS w Im ρ o v y → ∀ c ∈ cellsOfS v, ∃ z, RC w Im ρ o c z := by
    intro v y h c hc
    cases v with
    | c c' => simp [cellsOfS] at hc; subst hc; exact ⟨y, h⟩
    | agg cs =>
      obtain ⟨vs, rfl, hl, hr, _⟩ := h
      obtain ⟨i, hi, rfl⟩ := List.getElem_of_mem hc
      simp only [cellsOfS] at hi ⊢
      have hi' : i < vs.size := by rw [hl]; exact hi
      exact ⟨vs[i], hr i _ _ (by simp [hi]) (by simp [hi'])⟩
  cases a with
  | s v => exact hS v y h
  | tup ts =>
    intro c hc
    obtain ⟨vs, rfl, hl, hr⟩ := h
    simp only [cellsOfA, List.mem_flatMap] at hc
    obtain ⟨s, hs, hc⟩ := hc
    obtain ⟨i, hi, rfl⟩ := List.getElem_of_mem hs
    have hi' : i < vs.size := by rw [hl]; exact hi
    exact hS _ _ (hr i _ vs[i] (by simp [hi]) (by simp [hi'])) c hc
theorem ptr_of_RC {c : CV} {y : Value} (h : RC w Im ρ o c y) {id : Nat} (hid : id ∈ ptrsC c) {c0 : List CV} (ho : o[id]? = some (.box c0)) : ∃ b, ρ id = some (.pointer (some ⟨b, 0, none⟩)) := by
  cases c <;> simp [ptrsC] at hid
  · subst hid
    simp only [RC, RB, ho] at h
    obtain ⟨b, hb, _⟩ := h
    exact ⟨b, hb⟩
  · obtain ⟨vs, _, hl, hr⟩ := h
    obtain ⟨i, hi, rfl⟩ := List.getElem_of_mem hid
    obtain ⟨y, _, hb⟩ := hr i _ (List.getElem?_eq_getElem hi)
    simp only [RB, ho] at hb
    obtain ⟨b, hb, _⟩ := hb
    exact ⟨b, hb⟩
theorem freezeO_box {i id : Nat} : (∀ cs, o[id]? = some (.box cs) ↔ (freezeO o i)[id]? = some (.box cs)) := by
  intro cs
  unfold freezeO
  split
  · rename_i e sh ver fz xs h
    have key : ∀ x : AObj, (∀ cs, x ≠ .box cs) → (o[id]? = some (.box cs) ↔ (o.set i x)[id]? = some (.box cs)) := by
      intro x hx
      by_cases e1 : id = i
      · subst e1
        have hlt := (List.getElem?_eq_some_iff.1 h).1
        rw [h, List.getElem?_set_self hlt]
        constructor
        · intro h; cases h
        · intro h; injection h with h; exact absurd h (hx cs)
      · rw [List.getElem?_set_ne (Ne.symm e1)]
    split
    · exact key _ (by simp)
    · cases Option.isNone _
      · exact Iff.rfl
      · exact key _ (by simp)
  · exact Iff.rfl
theorem freezeAll_box {is : List Nat} {id : Nat} : ∀ {o : List AObj} (cs : List CV), o[id]? = some (.box cs) ↔ (freezeAll is o)[id]? = some (.box cs) := by
  unfold freezeAll
  induction is with
  | nil => intro o cs; exact Iff.rfl
  | cons i is ih => intro o cs; rw [List.foldl_cons, ← ih]; exact freezeO_box cs
theorem freezeO_arr {i id sh ver : Nat} {e : Et} {fz : Bool} {xs : List PV} (h : o[id]? = some (.arr e sh ver fz xs)) (hk : e.kd = none) : ∃ fz', (freezeO o i)[id]? = some (.arr e sh ver fz' xs) := by
  unfold freezeO
  split
  · rename_i e' sh' ver' fz' xs' h'
    by_cases e1 : id = i
    · subst e1
      rw [h] at h'
      injection h' with h'
      injection h' with h1 h2 h3 h4 h5
      subst h1 h2 h3 h5
      rw [hk]
      exact ⟨true, by rw [List.getElem?_set_self (List.getElem?_eq_some_iff.1 h).1]⟩
    · split
      · exact ⟨fz, by rw [List.getElem?_set_ne (Ne.symm e1)]; exact h⟩
      · cases Option.isNone _
        · exact ⟨fz, h⟩
        · exact ⟨fz, by simp only [cond_true]; rw [List.getElem?_set_ne (Ne.symm e1)]; exact h⟩
  · exact ⟨fz, h⟩
theorem freezeAll_sound : ∀ {is : List Nat} {o : List AObj} {Im : Nat → Prop}, SR w Im ρ o → ∃ ImL, Step w Im ρ o w ImL ρ (freezeAll is o) ∧ ∀ id ∈ is, ∀ e sh ver fz xs, o[id]? = some (.arr e sh ver fz xs) → e.kd = none → ∀ v b, ρ id = some v → Blk v b → ImL b
  | [], o, Im, hs => ⟨Im, Step.refl hs, by simp⟩
  | i :: is, o, Im, hs => by
    obtain ⟨Im1, hst, hb⟩ := freezeO_sound hs i
    obtain ⟨ImL, hst2, hb2⟩ := freezeAll_sound (is := is) hst.sr
    refine ⟨ImL, hst.trans hst2, ?_⟩
    intro id hid e sh ver fz xs ho hk v b hv hbk
    obtain ⟨fz', ho'⟩ := freezeO_arr (i := i) ho hk
    rcases List.mem_cons.1 hid with rfl | hid
    · exact (hst2.im b (hb _ _ _ _ _ ho' hk v b hv hbk)).1
    · exact hb2 id hid _ _ _ _ _ ho' hk v b hv hbk
/-- Pointers as the callee names them. -/
theorem RB.name {roots bl : List Nat} {id off j : Nat} {y : Value} (hj : roots[j]? = some id) (hb : RB ρ o id off y) {c0 : List CV} (ho : o[id]? = some (.box c0)) (hbl : ∀ (j id : Nat), roots[j]? = some id → ∃ b, bl[j]? = some b ∧ ρ id = some (.pointer (some ⟨b, 0, none⟩))) :
    RB (Ptrs bl) (blanks bl.length) j off y := by
  simp only [RB, ho] at hb
  obtain ⟨b, hρ, rfl⟩ := hb
  obtain ⟨b', h1, h2⟩ := hbl j id hj
  rw [hρ] at h2
  injection h2 with h2
  injection h2 with h2
  injection h2 with h2
  injection h2 with h2
  subst h2
  have hlt := (List.getElem?_eq_some_iff.1 h1).1
  have : (blanks bl.length)[j]? = some (.box []) := by simp [blanks, hlt]
  simp only [RB, this]
  exact ⟨b, by simp [Ptrs, h1], rfl⟩
theorem lendC_sound {ImL : Nat → Prop} {roots bl lent : List Nat} (hs : SR w Im ρ o) (hi : ∀ b, Im b → ImL b) {c : CV} {y : Value} (hc : RC w Im ρ o c y) (hlent : ∀ id ∈ locsC o c, ∀ e sh ver fz xs, o[id]? = some (.arr e sh ver fz xs) → e.kd = none → ∀ v b, ρ id = some v → Blk v b → ImL b)
    (hbox : ∀ (j id : Nat), roots[j]? = some id → ∃ c0, o[id]? = some (.box c0)) (hbl : ∀ (j id : Nat), roots[j]? = some id → ∃ b, bl[j]? = some b ∧ ρ id = some (.pointer (some ⟨b, 0, none⟩))) :
    RC w ImL (Ptrs bl) (blanks bl.length) (nameC roots (lendC o c)) y := by
  have hm : ∀ b, Im b → ImL b ∧ w.heap[b]? = w.heap[b]? := fun b h => ⟨hi b h, rfl⟩
  cases c with
  | p v => exact RP.mono hm hc
  | undef => trivial
  | own e sh xs => exact hc.elim
  | nel => trivial
  | aptr => trivial
  | eptr v sh off =>
    obtain ⟨b, base, hx, hb, hsh, hh⟩ := hc
    exact ⟨b, base, hx, hi b hb, hsh, fun j c hj => let ⟨z, hz, hr⟩ := hh j c hj; ⟨z, hz, RP.mono hm hr⟩⟩
  | loc id ver sh lo len =>
    simp only [lendC]
    split
    · rename_i v hv
      refine view_sound hs hi hc hv fun u b hu hb => ?_
      unfold viewLoc at hv
      split at hv
      · rename_i e sh' ver' fz xs ho
        obtain ⟨hcnd, _⟩ := bif_some hv
        simp only [Bool.and_eq_true, beq_iff_eq, Option.isNone_iff_eq_none] at hcnd
        obtain ⟨⟨rfl, rfl⟩, hk⟩ := hcnd
        cases fz with
        | true =>
          obtain ⟨vals, _, _, _, hz, _⟩ := hs.ob id _ _ ho hu
          exact hi b ((hz b hb).2 rfl)
        | false => exact hlent id (by simp [locsC, ho]) e sh ver false xs ho hk u b hu hb
      · cases hv
    · trivial
  | bptr id off =>
    simp only [lendC, nameC]
    split
    · rename_i j hj
      have hj' := idx_some hj
      obtain ⟨c0, ho⟩ := hbox j id hj'
      exact RB.name hj' hc ho hbl
    · trivial
  | fn f caps =>
    simp only [lendC, nameC]
    split
    · rename_i js hj
      obtain ⟨hl, hr⟩ := idxs_some hj
      obtain ⟨vs, hx, hl2, hh⟩ := hc
      refine ⟨vs, hx, by omega, fun i j hij => ?_⟩
      obtain ⟨id, h1, h2⟩ := hr i j hij
      obtain ⟨z, hz, hb⟩ := hh i id h1
      obtain ⟨c0, ho⟩ := hbox j id h2
      exact ⟨z, hz, RB.name h2 hb ho hbl⟩
    · trivial
theorem lendA_sound {ImL : Nat → Prop} {roots bl lent : List Nat} (hs : SR w Im ρ o) (hi : ∀ b, Im b → ImL b) {a : AV} {y : Value} (ha : RA w Im ρ o a y) (hlent : ∀ c ∈ cellsOfA a, ∀ id ∈ locsC o c, ∀ e sh ver fz xs, o[id]? = some (.arr e sh ver fz xs) → e.kd = none → ∀ v b, ρ id = some v → Blk v b → ImL b)
    (hbox : ∀ (j id : Nat), roots[j]? = some id → ∃ c0, o[id]? = some (.box c0)) (hbl : ∀ (j id : Nat), roots[j]? = some id → ∃ b, bl[j]? = some b ∧ ρ id = some (.pointer (some ⟨b, 0, none⟩))) :
    RA w ImL (Ptrs bl) (blanks bl.length) (lendA roots o a) y := by
  cases a with
  | tup ts => trivial
  | s v =>
    cases v with
    | c c => exact lendC_sound (lent := lent) hs hi ha (hlent c (by simp [cellsOfA, cellsOfS])) hbox hbl
    | agg cs =>
      obtain ⟨vs, rfl, hl, hr, h1⟩ := ha
      refine mkAgg_sound (by simpa using hl) (fun i c z hc hz => ?_) h1
      simp only [List.getElem?_map, Option.map_eq_some_iff] at hc
      obtain ⟨c', hc', rfl⟩ := hc
      exact lendC_sound (lent := lent) hs hi (hr i c' z hc' hz) (hlent c' (by simp [cellsOfA, cellsOfS]; exact List.mem_of_getElem? hc')) hbox hbl

theorem len_flatten {α β : Type} : ∀ {a : List (List α)} {b : List (List β)}, a.map List.length = b.map List.length → a.flatten.length = b.flatten.length
  | [], [], _ => rfl
  | x :: a, y :: b, h => by
    simp only [List.map_cons, List.cons.injEq] at h
    simp only [List.flatten_cons, List.length_append, h.1, len_flatten h.2]
  | [], _ :: _, h => by simp at h
  | _ :: _, [], h => by simp at h
theorem pack_sound {ds : List SV} {y0 : List Value} (hl : ds.length = y0.length) (h : ∀ (t : Nat) (d : SV) (y : Value), ds[t]? = some d → y0[t]? = some y → RS w Im ρ o d y) :
    RA w Im ρ o (packS ds) (packV y0) := by
  match ds, y0, hl with
  | [], [], _ => exact ⟨#[], rfl, rfl, fun i c y h => by simp at h⟩
  | [x], [y], _ => exact h 0 x y rfl rfl
  | x :: x2 :: xs, y :: y2 :: ys, hl => exact ⟨_, rfl, by simpa using hl.symm, fun i c z hc hz => h i c z hc (by simpa using hz)⟩
/-- Back in the caller: all that came back is taken in. -/
theorem afterCall {ImA ImR : Nat → Prop} {ρ1 : Nat → Option Value} {oA : List AObj} {roots bl : List Nat} {bs : List (List CV)} {vss vss' : List (List Value)} {ks : List (List Kind)} {rk : List RK} {v : Value} {zs : List Value} {q : List SV × List (List CV)}
    (hst : Step w Im ρ o w ImA ρ1 oA)
    (hown : ∀ b, DD bl bs.flatten vss.flatten b → Ow ρ b) (hnow : ∀ b, OBs bs.flatten vss.flatten b → ¬ Ow ρ1 b)
    (hbl : ∀ (j id : Nat), roots[j]? = some id → ∃ b c0, bl[j]? = some b ∧ ρ1 id = some (.pointer (some ⟨b, 0, none⟩)) ∧ oA[id]? = some (.box c0)) (hbr : ∀ b ∈ bl, ∃ (j id : Nat), bl[j]? = some b ∧ roots[j]? = some id)
    (hwd : Wd w w') (hfr : ∀ b, b < w.heap.size → ¬ DD bl bs.flatten vss.flatten b → w'.heap[b]? = w.heap[b]?) (him : ∀ b, ImA b → ImR b ∧ w'.heap[b]? = w.heap[b]?)
    (himn : ∀ b, ImR b → (ImA b ∨ w.heap.size ≤ b ∨ DD bl bs.flatten vss.flatten b) ∧ b < w'.heap.size) (hl2 : vss'.map List.length = q.2.map List.length)
    (hbox : ∀ (j b : Nat) (vs : List Value), bl[j]? = some b → vss'[j]? = some vs → BoxAt w' b vs ∧ ¬ ImR b)
    (htok : Toks w' ImR (q.2.flatten ++ q.1.flatMap cellsOfS) (vss'.flatten ++ zs) (· ∈ bl))
    (how : ∀ b, OBs (q.2.flatten ++ q.1.flatMap cellsOfS) (vss'.flatten ++ zs) b → w.heap.size ≤ b ∨ DD bl bs.flatten vss.flatten b) (hret : RetV q.1 v zs)
    (hk1 : q.2.map List.length = ks.map List.length) (hk2 : roots.length = ks.length) (hk3 : q.1.map lenS = rk.map lenK)
    (h : (inBs q.2 ks roots 0 oA fun o3 => inSs q.1 rk 0 o3 fun vs o4 => K (packS vs) o4) = some r) :
    ∃ v' o' ρ', K v' o' = some r ∧ Step w Im ρ o w' ImR ρ' o' ∧ RA w' ImR ρ' o' v' v := by
  have hsA := hst.sr
  have ptr : ∀ b ∈ bl, ∃ id, id ∈ roots ∧ ρ1 id = some (.pointer (some ⟨b, 0, none⟩)) := by
    intro b hb
    obtain ⟨j, id, h1, h2⟩ := hbr b hb
    obtain ⟨b', c0, h3, h4, _⟩ := hbl j id h2
    rw [h1] at h3
    injection h3 with h3
    subst h3
    exact ⟨id, List.mem_of_getElem? h2, h4⟩
  have ndd : ∀ id u b, id ∉ roots → ρ1 id = some u → Blk u b → ¬ DD bl bs.flatten vss.flatten b := by
    rintro id u b hid hu hb (hd | hd)
    · obtain ⟨id', h1, h2⟩ := ptr b hd
      exact hid (hsA.inj id' id _ u b h2 hu rfl hb ▸ h1)
    · exact hnow b hd ⟨id, u, hu, hb⟩
  have hc : Compat ρ1 ρ1 oA oA := fun id a ha => ⟨a, ha, by cases a <;> simp [CompatO]⟩
  have hsx : SRx w' ImR ρ1 oA (· ∈ roots) := by
    refine ⟨?_, hsA.inj, fun id v hv => ⟨(hsA.lt id v hv).1, fun b hb => Nat.lt_of_lt_of_le ((hsA.lt id v hv).2 b hb) hwd.size⟩, fun b hb => (himn b hb).2, hsA.dd⟩
    intro id x u hid hx hu
    refine RO.keep him hc (fun b hb => hfr b ((hsA.lt id u hu).2 b hb) (ndd id u b hid hu hb)) (fun b hb hI => ?_) (hsA.ob id x u hx hu)
    rcases (himn b hI).1 with h1 | h1 | h1
    · exact h1
    · have := (hsA.lt id u hu).2 b hb; omega
    · exact (ndd id u b hid hu hb h1).elim
  have htok' : Toks w' ImR (q.2.flatten ++ q.1.flatMap cellsOfS) (vss'.flatten ++ zs) (Ow ρ1) := by
    refine htok.keep him_refl fun i b hob => ⟨rfl, (htok.lt hob).2, ?_⟩
    rintro ⟨id, u, hu, hb⟩
    rcases how b ⟨i, hob⟩ with h1 | h1 | h1
    · have := (hsA.lt id u hu).2 b hb; omega
    · exact htok.out i b hob h1
    · exact hnow b h1 ⟨id, u, hu, hb⟩
  have hlf := len_flatten hl2
  obtain ⟨o3, ρ3, h, hs3, hin3, ht3⟩ := inBs_sound (A := OBs (q.2.flatten ++ q.1.flatMap cellsOfS) (vss'.flatten ++ zs)) (bsr := q.2) (vss := vss') hsx hk1 (hl2.trans hk1) hk2 (fun t _ => by rw [Nat.zero_add])
    (fun t i vs hi hv => by
      obtain ⟨b, c0, h1, h2, h3⟩ := hbl t i hi
      exact ⟨b, c0, h3, h2, hbox t b vs h1 hv⟩) htok' (fun i b hob => ⟨i, hob⟩) h
  obtain ⟨y0, hret, rfl⟩ := hret
  obtain ⟨ds, o4, ρ4, h, hs4, hin4, hl4, hl5, hr4⟩ := inSs_sound (A := OBs (q.2.flatten ++ q.1.flatMap cellsOfS) (vss'.flatten ++ zs)) hs3 hk3 hret (fun t _ => by rw [Nat.zero_add]) ht3 (fun i b hob => ⟨_, OB.right hlf hob⟩) h
  have hin := hin3.trans hin4
  have hownS : ∀ b, Ow ρ1 b → Ow ρ b := hst.own
  refine ⟨_, o4, ρ4, h, ⟨hwd, hs4, ?_, ?_, ?_, ?_, ?_, fun hm => hin.mp (hst.mp hm), hst.gr.trans hin.gr⟩, pack_sound (by omega) hr4⟩
  · intro c x hc'
    exact hin.keep c x (RC.compat him hc (hst.keep c x hc'))
  · intro b hb hno
    exact hfr b hb fun hd => let ⟨id, u, hu, hub⟩ := hown b hd; hno id u hu hub
  · intro id u b hu hb
    rcases hin.own b ⟨id, u, hu, hb⟩ with h1 | h1
    · exact .inr (hownS b h1)
    · rcases how b h1 with h2 | h2
      · exact .inl h2
      · exact .inr (hown b h2)
  · intro b hb
    have h1 := hst.im b hb
    have h2 := him b h1.1
    exact h2
  · intro b hb
    rcases (himn b hb).1 with h1 | h1 | h1
    · exact hst.imn b h1
    · exact .inr (.inl h1)
    · exact .inr (.inr (hown b h1))
theorem RP.plain {ImR : Nat → Prop} {v : PV} {y : Value} (hp : plainP v = true) (h : RP w Im v y) : RP w ImR v y := by
  cases h with
  | int k n => exact .int k n
  | bool b => exact .bool b
  | str s => exact .str s
  | agg cs vs hl h1 hh =>
    refine .agg cs vs hl h1 fun i c y hc hy => ?_
    have := hh i c y hc hy
    simp only [plainP, List.all_eq_true] at hp
    have hp' := hp c (List.mem_of_getElem? hc)
    cases this <;> first | (exact .int _ _) | (exact .bool _) | (exact .str _) | (simp at hp')
  | nil => simp [plainP] at hp
  | row => simp [plainP] at hp
theorem plainP_cells {v : PV} (h : plainP v = true) : ∀ c ∈ v.cells, plainP c = true := by
  intro c hc
  cases v with
  | agg cs =>
    simp only [plainP, List.all_eq_true] at h
    have := h c hc
    cases c <;> simp_all [plainP]
  | _ => simp [PV.cells] at hc; subst hc; exact h
theorem TokC.plain {ImR : Nat → Prop} (hi : ∀ b, ImR b → Im b) {c : CV} {y : Value} (hp : plainC c = true) (h : TokC w Im c y) : TokC w ImR c y := by
  cases c <;> first | exact h.elim | skip
  · exact RP.plain hp h
  · rename_i e sh xs
    obtain ⟨vals, hown, h1, h2, h3, h4⟩ := h
    simp only [plainC, Bool.and_eq_true, List.all_eq_true, Option.isNone_iff_eq_none] at hp
    obtain ⟨hk, hp⟩ := hp
    simp only [RPk, hk] at h2
    refine ⟨vals, hown, h1, fun i x j c y a1 a2 a3 => ?_, fun b hb => ⟨fun _ hI => (h3 b hb).1 rfl (hi b hI), fun h => nomatch h⟩, ?_⟩
    · simp only [RPk, hk]
      exact RP.plain (plainP_cells (hp x (List.mem_of_getElem? a1)) c (List.mem_of_getElem? a2)) (h2 i x j c y a1 a2 a3)
    · simp only [RKids, hk] at h4 ⊢
      exact h4
theorem Toks.plain {ImR : Nat → Prop} (hi : ∀ b, ImR b → Im b) (hp : ∀ c ∈ cs, plainC c = true) (h : Toks w Im cs ys D) : Toks w ImR cs ys D :=
  ⟨h.len, fun i c y hc hy => TokC.plain hi (hp c (List.mem_of_getElem? hc)) (h.tok i c y hc hy), h.dis, h.out⟩
end
end Go.Dp

/- A call in the code. -/
set_option linter.unusedVariables false
set_option linter.unusedSimpArgs false
namespace Go.Dp
section
variable {P : Program} {E : Env} {w w' : World} {Im Im' : Nat → Prop} {ρ ρ' : Nat → Option Value} {o o' : List AObj} {K : Kt} {r : List SV × List (List CV)} {t : List AV}

theorem locsC_arr {c : CV} {id : Nat} (h : id ∈ locsC o c) : ∃ e sh ver xs, o[id]? = some (AObj.arr e sh ver false xs) := by
  cases c <;> simp only [locsC] at h <;> first | (simp at h; done) | skip
  split at h
  · rename_i e sh ver' xs ho
    cases hb : (_ : Nat) == ver' <;> rw [hb] at h
    · simp at h
    · simp at h
      subst h
      exact ⟨e, sh, ver', xs, ho⟩
  · simp at h
theorem castC_some {ct : CellT} {c : CV} {K : CV → R} (h : castC ct c K = some r) : ∃ d, K d = some r ∧ ∀ (w : World) (Im : Nat → Prop) (ρ : Nat → Option Value) (o : List AObj) (y : Value), RC w Im ρ o c y → RC w Im ρ o d y := by
  unfold castC at h
  split at h
  · obtain ⟨u, h, hw⟩ := castCell_some h
    exact ⟨_, h, fun w Im ρ o y hy => hw.2 w Im y hy⟩
  · exact ⟨_, h, fun w Im ρ o y hy => hy⟩
theorem castA_some {ct : CT} {a : AV} {K : AV → R} (h : castA ct a K = some r) : ∃ b, K b = some r ∧ ∀ (w : World) (Im : Nat → Prop) (ρ : Nat → Option Value) (o : List AObj) (y : Value), RA w Im ρ o a y → RA w Im ρ o b y := by
  unfold castA at h
  split at h
  · obtain ⟨d, h, hw⟩ := castC_some h
    exact ⟨_, h, fun w Im ρ o y hy => hw w Im ρ o y hy⟩
  · obtain ⟨u, h, hw⟩ := castK_some h
    exact ⟨_, h, fun w Im ρ o y hy => hw.2 w Im y hy⟩
  · exact ⟨_, h, fun w Im ρ o y hy => hy⟩
theorem castAs_some : ∀ {cts : List CT} {as : List AV} {K : List AV → R}, castAs cts as K = some r → ∃ bs, K bs = some r ∧ bs.length = as.length ∧ ∀ (w : World) (Im : Nat → Prop) (ρ : Nat → Option Value) (o : List AObj) (i : Nat) (b : AV), bs[i]? = some b → ∃ a, as[i]? = some a ∧ ∀ y, RA w Im ρ o a y → RA w Im ρ o b y
  | [], as, K, h => ⟨as, by simpa [castAs] using h, rfl, fun w Im ρ o i b hb => ⟨b, hb, fun y hy => hy⟩⟩
  | _ :: _, [], K, h => ⟨[], by simpa [castAs] using h, rfl, fun w Im ρ o i b hb => ⟨b, hb, fun y hy => hy⟩⟩
  | ct :: cts, a :: as, K, h => by
    simp only [castAs] at h
    obtain ⟨b, h, hw⟩ := castA_some h
    obtain ⟨bs, h, hl, hr⟩ := castAs_some h
    refine ⟨b :: bs, h, by simp [hl], fun w Im ρ o i b' hb' => ?_⟩
    cases i with
    | zero => simp at hb'; subst hb'; exact ⟨a, rfl, hw w Im ρ o⟩
    | succ i => simpa using hr w Im ρ o i b' (by simpa using hb')
theorem castC_det (ct : CellT) (c : CV) : (∀ K : CV → R, castC ct c K = none) ∨ ∃ d, ∀ K : CV → R, castC ct c K = K d := by
  unfold castC
  split
  · rename_i v
    rcases castCell_det (α := List SV × List (List CV)) ct v with h | ⟨u, h⟩
    · exact .inl fun K => h _
    · exact .inr ⟨_, fun K => h _⟩
  · exact .inr ⟨_, fun K => rfl⟩
theorem castA_det (ct : CT) (a : AV) : (∀ K : AV → R, castA ct a K = none) ∨ ∃ d, ∀ K : AV → R, castA ct a K = K d := by
  unfold castA
  split
  · rename_i ct c
    rcases castC_det ct c with h | ⟨u, h⟩
    · exact .inl fun K => h _
    · exact .inr ⟨_, fun K => h _⟩
  · rename_i cts v
    rcases castK_det (α := List SV × List (List CV)) (.agg cts) v with h | ⟨u, h⟩
    · exact .inl fun K => h _
    · exact .inr ⟨_, fun K => h _⟩
  · exact .inr ⟨_, fun K => rfl⟩
theorem castAs_det : ∀ (cts : List CT) (as : List AV), (∀ K : List AV → R, castAs cts as K = none) ∨ ∃ d, ∀ K : List AV → R, castAs cts as K = K d
  | [], as => .inr ⟨as, fun K => by simp [castAs]⟩
  | _ :: _, [] => .inr ⟨[], fun K => by simp [castAs]⟩
  | ct :: cts, a :: as => by
    simp only [castAs]
    rcases castA_det ct a with h | ⟨b, h⟩
    · exact .inl fun K => h _
    · rcases castAs_det cts as with h2 | ⟨bs, h2⟩
      · exact .inl fun K => (h _).trans (h2 _)
      · exact .inr ⟨b :: bs, fun K => (h _).trans (h2 _)⟩
theorem intsOf_some : ∀ {l : List PV} {zs : List Int}, intsOf l = some zs → l = zs.map (PV.int .i64)
  | [], zs, h => by simp only [intsOf] at h; injection h with h; subst h; rfl
  | x :: l, zs, h => by
    unfold intsOf at h
    split at h
    · rename_i hl; cases hl
    · rename_i n l' hl
      injection hl with h1 h2
      subst h1
      subst h2
      obtain ⟨zs', h3, rfl⟩ := Option.map_eq_some_iff.1 h
      rw [intsOf_some h3]
      rfl
    · cases h
theorem compI_le (zs : List Int) : (compI zs).length ≤ zs.length := by
  simp only [compI, Lib.compact, Lib.compactUpTo, List.length_map]
  exact Nat.le_trans (List.length_filter_le _ _) (by simp)
theorem sortRes_len (n : Nat) (zs : List Int) : (sortRes n zs).length = zs.length := by
  unfold sortRes
  split
  · simp [sortI]
  · have := compI_le zs
    simp
    omega
theorem RP_intv {k : IntKind} {n : Int} {y : Value} (h : RP w Im (.int k n) y) : y = .int k n := by cases h; rfl
theorem opSort_sound {n : Nat} {g : FuncId} (hS : SortOK P n g) (hs : SR w Im ρ o) {args : List AV} {ys : List Value} (hl : ys.length = args.length)
    (hargs : ∀ (i : Nat) (a : AV) (y : Value), args[i]? = some a → ys[i]? = some y → RA w Im ρ o a y) (h : opSort n args o K = some r) :
    Calls P g ys.toArray w fun e w' => ∃ v v' o' Im' ρ', e = .returned v ∧ K v' o' = some r ∧ Step w Im ρ o w' Im' ρ' o' ∧ RA w' Im' ρ' o' v' v := by
  unfold opSort at h
  split at h
  · rename_i id ver sh lo len
    obtain ⟨y, rfl⟩ : ∃ y, ys = [y] := by
      match ys, hl with
      | [y], _ => exact ⟨y, rfl⟩
    have hy := hargs 0 _ y rfl rfl
    split at h
    · rename_i e sh' ver' xs ho
      obtain ⟨hcnd, h1⟩ := bif_some h
      clear h
      obtain ⟨zs, hz, h⟩ := bind_some h1
      clear h1
      simp only [Bool.and_eq_true, beq_iff_eq, decide_eq_true_eq, Option.isNone_iff_eq_none] at hcnd
      obtain ⟨⟨⟨⟨⟨hkd, rfl⟩, rfl⟩, rfl⟩, rfl⟩, hlim⟩ := hcnd
      simp only [RA, RS, RC, ho] at hy
      obtain ⟨_, hy⟩ := hy
      obtain ⟨hle, v, hρ, hsl⟩ := hy trivial trivial
      have hid := (List.getElem?_eq_some_iff.1 ho).1
      have hz1 := intsOf_some hz
      have hzl : zs.length = len := by
        have := congrArg List.length hz1
        simp at this
        omega
      subst hzl
      have hfin : ∃ v' x', K v' (o.set id x') = some r ∧ x' = .arr e 0 ver false ((sortRes n zs).map (PV.int .i64) ++ xs.drop zs.length) ∧ ((n = 1 ∧ v' = .tup []) ∨ (n ≠ 1 ∧ v' = .s (.c (.loc id ver 0 0 (compI zs).length)))) := by
        cases hn : n == 1
        · have hn' : n ≠ 1 := by simpa using hn
          rw [hn] at h
          simp only [cond_false] at h
          refine ⟨_, _, h, ?_, .inr ⟨hn', rfl⟩⟩
          simp [sortRes, hn']
        · have hn' : n = 1 := by simpa using hn
          rw [hn] at h
          simp only [cond_true] at h
          exact ⟨_, _, h, by simp [sortRes, hn'], .inl ⟨hn', rfl⟩⟩
      obtain ⟨v', x', hk, hx', hv'⟩ := hfin
      obtain ⟨vals, hown, hshp, hrp, hbk, hkids⟩ := hs.ob id _ _ ho hρ
      have same : zs = [] → o.set id x' = o := by
        intro h0
        have : x' = .arr e 0 ver false xs := by rw [hx', h0]; unfold sortRes; split <;> simp [sortI, compI, Lib.compact, Lib.compactUpTo]
        rw [this]
        apply List.ext_getElem?
        intro i
        by_cases e1 : i = id
        · subst e1; rw [List.getElem?_set_self hid, ho]
        · rw [List.getElem?_set_ne (Ne.symm e1)]
      by_cases h0 : zs = []
      · have hy0 : ∃ p cap, y = .slice p 0 cap := by
          subst h0
          unfold RSl at hsl
          split at hsl
          · obtain ⟨off, h1, _⟩ := hsl; exact ⟨_, _, h1⟩
          · exact ⟨_, _, hsl.2.2⟩
          · exact hsl.elim
        obtain ⟨p, cap, rfl⟩ := hy0
        refine Calls.mono (hS.empty w p cap) ?_
        rintro e' w' ⟨rfl, rfl⟩
        rw [same h0] at hk
        refine ⟨_, v', o, Im, ρ, rfl, hk, Step.refl hs, ?_⟩
        rcases hv' with ⟨hn, rfl⟩ | ⟨hn, rfl⟩
        · rw [sortRet, if_pos hn]
          exact ⟨#[], rfl, rfl, fun i c y h => by simp at h⟩
        · rw [sortRet, if_neg hn]
          subst h0
          have e0 : (compI []).length = 0 := rfl
          simp only [RA, RS, RC, ho, e0]
          exact ⟨Nat.le_refl _, fun _ _ => ⟨by omega, v, hρ, hsl⟩⟩
      · have hpos : 0 < zs.length := Nat.pos_of_ne_zero fun h => h0 (List.eq_nil_of_length_eq_zero h)
        rcases hown.2 with ⟨hbad, _⟩ | ⟨b, cap, cu, hmv, _, hh, hnc, hcm, hcs, htk⟩
        · rw [hbad] at hsl
          simp only [RSl] at hsl
          omega
        rw [hmv] at hsl
        simp only [RSl] at hsl
        obtain ⟨off, rfl, _, hoff⟩ := hsl
        have hoff : off = 0 := by have := hoff (.inl trivial); omega
        subst hoff
        have c0 : csz 0 = 1 := rfl
        rw [c0, Nat.mul_one] at hcs htk
        have hbv : Blk v b := main_Blk (by rw [hmv]; rfl)
        have hniv : ∀ b, Blk v b → ¬ Im b := fun b hb => (hbk b hb).1 rfl
        have hvl : vals.length = xs.length := by have := hown.1; rw [c0] at this; omega
        have hvt : vals.take zs.length = zs.map (Value.int .i64) := by
          apply List.ext_getElem?
          intro i
          by_cases hi : i < zs.length
          · rw [List.getElem?_take_of_lt hi, List.getElem?_map, List.getElem?_eq_getElem hi, List.getElem?_eq_getElem (by omega)]
            have hx : xs[i]? = some (.int .i64 zs[i]) := by
              have := congrArg (fun l : List PV => l[i]?) hz1
              simp only [List.getElem?_take_of_lt hi, List.getElem?_map, List.getElem?_eq_getElem hi] at this
              exact this
            have h2 := hrp i _ 0 (.int .i64 zs[i]) vals[i] hx rfl (by rw [c0]; simp)
            simp only [RPk, hkd] at h2
            rw [RP_intv h2]
            simp
          · rw [List.getElem?_take_eq_none (by omega), List.getElem?_eq_none (by simp; omega)]
        have hct : cu.toList.take zs.length = zs.map (Value.int .i64) := by
          rw [← hvt, ← htk, List.take_take, Nat.min_eq_left (by omega)]
        refine Calls.mono (hS.row w b cap zs cu _ hh hct (by omega) hlim) ?_
        rintro e' w' ⟨rfl, hwd, hoth, cu', hh', hcs', hcl'⟩
        have hrl := sortRes_len n zs
        have hidρ : upd ρ id (some v) = ρ := by
          funext i
          by_cases e1 : i = id
          · rw [e1, upd_same, hρ]
          · rw [upd_ne e1]
        have hxl : ((sortRes n zs).map (PV.int .i64) ++ xs.drop zs.length).length = xs.length := by simp [hrl]; omega
        have hcomp : Compat ρ (upd ρ id (some v)) o (o.set id x') := by
          intro q a hq
          by_cases e1 : q = id
          · subst e1
            rw [ho] at hq
            injection hq with hq
            subst hq
            exact ⟨_, by rw [List.getElem?_set_self hid], by rw [hidρ, hx']; exact Or.inr ⟨rfl, rfl, Nat.le_of_eq hxl.symm, rfl, KdC_refl' _ rfl⟩⟩
          · exact ⟨a, by rw [List.getElem?_set_ne (Ne.symm e1)]; exact hq, by rw [hidρ]; cases a <;> simp [CompatO]⟩
        have him : ∀ k, Im k → Im k ∧ w'.heap[k]? = w.heap[k]? := fun k hk => ⟨hk, hoth k (hs.im k hk) (fun e => hniv b hbv (e ▸ hk))⟩
        have hst := Step.turn (w' := w') (x' := x') (v' := v) hs hwd ho hρ (by rw [hx']; simp) (by rw [hx']; exact Or.inr ⟨rfl, rfl, Nat.le_of_eq hxl.symm, rfl, KdC_refl' _ rfl⟩)
          (fun k hk hne => hoth k hk (fun e => hne (by rw [e]; exact hbv))) hniv (fun b hb => .inl hb) (fun k hk => Nat.lt_of_lt_of_le ((hs.lt id v hρ).2 k hk) hwd.size) ?_
        · refine ⟨_, v', o.set id x', Im, _, rfl, hk, hst, ?_⟩
          rcases hv' with ⟨hn, rfl⟩ | ⟨hn, rfl⟩
          · rw [sortRet, if_pos hn]
            exact ⟨#[], rfl, rfl, fun i c y h => by simp at h⟩
          · rw [sortRet, if_neg hn]
            have hcl := compI_le zs
            simp only [RA, RS, RC, List.getElem?_set_self hid, hx']
            refine ⟨Nat.le_refl _, fun _ _ => ⟨by rw [hxl]; omega, v, upd_same, ?_⟩⟩
            rw [hmv]
            exact ⟨0, rfl, Nat.zero_le _, fun _ => by simp⟩
        · rw [hx']
          refine ⟨(sortRes n zs).map (Value.int .i64) ++ vals.drop zs.length, ⟨?_, .inr ⟨b, cap, cu', by rw [hmv, hxl], Nat.zero_le _, hh', by rw [hxl]; exact hnc, hcm, ?_, ?_⟩⟩, ?_, ?_, ?_, ?_⟩
          · rw [hxl, c0]; simp [hrl]; omega
          · rw [hcs', hcs, c0]; omega
          · rw [hxl, c0, Nat.mul_one, hcl', ← htk, List.take_append, List.drop_take]
            simp only [List.length_map, hrl]
            rw [List.take_of_length_le (by simp [hrl]; omega)]
          · intro q hq
            rcases List.mem_append.1 hq with h1 | h1
            · obtain ⟨z, _, rfl⟩ := List.mem_map.1 h1; rfl
            · exact hshp q (List.mem_of_mem_drop h1)
          · intro i x j c u hx hj hu
            rw [c0, Nat.mul_one] at hu
            by_cases hi : i < zs.length
            · rw [List.getElem?_append_left (by simp [hrl]; omega)] at hx
              obtain ⟨z, hz2, rfl⟩ := by simpa only [List.getElem?_map, Option.map_eq_some_iff] using hx
              have hj0 : j = 0 ∧ c = .int .i64 z := by
                cases j with
                | zero => simp [PV.cells] at hj; exact ⟨rfl, hj.symm⟩
                | succ j => simp [PV.cells] at hj
              obtain ⟨rfl, rfl⟩ := hj0
              rw [Nat.add_zero, List.getElem?_append_left (by simp [hrl]; omega), List.getElem?_map, hz2] at hu
              injection hu with hu
              subst hu
              simp only [RPk, hkd]
              exact .int _ _
            · rw [List.getElem?_append_right (by simp [hrl]; omega), List.length_map, hrl, List.getElem?_drop, Nat.add_sub_cancel' (by omega)] at hx
              have hjl : j < csz 0 := by rw [← PV.shp_len (hshp x (List.mem_of_getElem? hx))]; exact (List.getElem?_eq_some_iff.1 hj).1
              have hj0 : j = 0 := by omega
              subst hj0
              rw [Nat.add_zero, List.getElem?_append_right (by simp [hrl]; omega), List.length_map, hrl, List.getElem?_drop, Nat.add_sub_cancel' (by omega)] at hu
              exact (hrp i x 0 c u hx hj (by rw [c0, Nat.mul_one]; exact hu)).keep him
          · intro k hk
            exact ⟨fun _ => hniv k hk, fun hf => nomatch hf⟩
          · simp only [RKids, hkd] at hkids ⊢
            exact fun _ => hkids trivial
    · cases h
  · cases h
theorem callOp_sound {C : Ctx} (hE : EnvOK P C.E) (hC : ∀ g args bs r, C.call g args bs = some r → Contract P g args bs r) (hs : SR w Im ρ o) {f : AV} {x : Value} {args : List AV} {ys : List Value} (hf : RA w Im ρ o f x) (hl : ys.length = args.length)
    (hargs : ∀ (i : Nat) (a : AV) (y : Value), args[i]? = some a → ys[i]? = some y → RA w Im ρ o a y) (h : callOp C f args ⟨t, o⟩ K = some r) :
    ∃ g vs, x = .func (.func g) #[] vs ∧ Enters P g ∧ Calls P g (ys ++ vs.toList).toArray w fun e w' => ∃ v v' o' Im' ρ', e = .returned v ∧ K v' o' = some r ∧ Step w Im ρ o w' Im' ρ' o' ∧ RA w' Im' ρ' o' v' v := by
  unfold callOp at h
  split at h
  · rename_i g caps hc
    rw [cv_some hc] at hf
    obtain ⟨vs, rfl, hvl, hvr⟩ := hf
    refine ⟨g, vs, rfl, ?_⟩
    cases hsr : (C.E.sorts g != 0)
    rotate_left
    · rw [hsr] at h
      simp only [cond_true] at h
      obtain ⟨hcp, h⟩ := bif_some h
      have hS := hE.srt g _ rfl (by simpa using hsr)
      have hv0 : vs.toList = [] := by
        have : caps = [] := by simpa using hcp
        rw [this] at hvl
        simpa using hvl
      rw [hv0, List.append_nil]
      exact ⟨hS.enters, opSort_sound hS hs hl hargs h⟩
    rw [hsr] at h
    simp only [cond_false] at h
    obtain ⟨A, hA⟩ : ∃ A, A = args ++ caps.map fun i => (.s (.c (.bptr i 0)) : AV) := ⟨_, rfl⟩
    obtain ⟨Y, hY⟩ : ∃ Y, Y = ys ++ vs.toList := ⟨_, rfl⟩
    simp only [← hA] at h
    rw [← hY]
    have hYl : Y.length = A.length := by rw [hY, hA]; simp [hl, hvl]
    have hAY : ∀ (i : Nat) (a : AV) (y : Value), A[i]? = some a → Y[i]? = some y → RA w Im ρ o a y := by
      intro i a y ha hy
      rw [hA] at ha
      rw [hY] at hy
      rcases Nat.lt_or_ge i args.length with hi | hi
      · rw [List.getElem?_append_left hi] at ha
        rw [List.getElem?_append_left (by omega)] at hy
        exact hargs i a y ha hy
      · rw [List.getElem?_append_right hi] at ha
        rw [List.getElem?_append_right (by omega), hl] at hy
        simp only [List.getElem?_map, Option.map_eq_some_iff] at ha
        obtain ⟨id, hid, rfl⟩ := ha
        obtain ⟨y', hy', hb⟩ := hvr _ id hid
        rw [Array.getElem?_toList, hy'] at hy
        injection hy with hy
        subst hy
        exact hb
    clear hA hY hargs hl hvr hvl hc
    have hmemc : ∀ a ∈ A, ∃ y, RA w Im ρ o a y := by
      intro a ha
      obtain ⟨i, hi, rfl⟩ := List.getElem_of_mem ha
      have hi' : i < Y.length := by omega
      exact ⟨Y[i], hAY i _ _ (by simp [hi]) (by simp [hi'])⟩
    obtain ⟨roots, hroots⟩ : ∃ l, l = adds [] ((A.flatMap cellsOfA).flatMap ptrsC) := ⟨_, rfl⟩
    rw [← hroots] at h
    have hptr : ∀ id ∈ roots, ∀ c0, o[id]? = some (.box c0) → ∃ b, ρ id = some (.pointer (some ⟨b, 0, none⟩)) := by
      intro id hid c0 ho
      rw [hroots, mem_adds] at hid
      simp only [List.not_mem_nil, false_or, List.mem_flatMap] at hid
      obtain ⟨c, ⟨a, ha, hca⟩, hid⟩ := hid
      obtain ⟨y, hy⟩ := hmemc a ha
      obtain ⟨z, hz⟩ := cells_of_RA hy c hca
      exact ptr_of_RC hz hid ho
    have hnd : roots.Nodup := by rw [hroots]; exact nodup_adds List.nodup_nil
    obtain ⟨dss, o1, Im1, ρ1, vss, h, hst1, hbx, hl1, hl2, hl3, hT, hO, hbox⟩ := outBs_sound hs Toks.nil hptr h
    simp only [List.nil_append] at hT hO
    obtain ⟨lent, hlent⟩ : ∃ l, l = adds [] ((A.flatMap cellsOfA).flatMap (locsC o1)) := ⟨_, rfl⟩
    rw [← hlent] at h
    obtain ⟨as, h, hal, har⟩ := castAs_some h
    obtain ⟨q, hq, h⟩ := bind_some h
    have hcon := hC _ _ _ _ hq
    refine ⟨hcon.1, ?_⟩
    obtain ⟨ImL, hstL, hbL⟩ := freezeAll_sound (is := lent) hst1.sr
    obtain ⟨bl, hbl⟩ : ∃ bl, bl = roots.map fun id => (match ρ id with | some (.pointer (some a)) => a.block | _ => 0) := ⟨_, rfl⟩
    have hblr : ∀ (j id : Nat), roots[j]? = some id → ∃ b c0, bl[j]? = some b ∧ ρ1 id = some (.pointer (some ⟨b, 0, none⟩)) ∧ o1[id]? = some (.box c0) ∧ ρ id = some (.pointer (some ⟨b, 0, none⟩)) := by
      intro j id hj
      obtain ⟨b, vs', ds, c0, h1, h2, h3, h4, h5, h6⟩ := hbox j id hj
      have h7 := (hbx id c0).1 h6
      exact ⟨b, c0, by rw [hbl]; simp [hj, h1], h7.2.trans h1, h7.1, h1⟩
    have hbll : bl.length = roots.length := by rw [hbl]; simp
    have hbr : ∀ b ∈ bl, ∃ (j id : Nat), bl[j]? = some b ∧ roots[j]? = some id := by
      intro b hb
      obtain ⟨j, hj, rfl⟩ := List.getElem_of_mem hb
      have hj' : j < roots.length := by omega
      exact ⟨j, roots[j], by simp [hj], by simp [hj']⟩
    have hptr1 : ∀ (j b : Nat), bl[j]? = some b → ∃ id c0, roots[j]? = some id ∧ ρ1 id = some (.pointer (some ⟨b, 0, none⟩)) ∧ o1[id]? = some (.box c0) ∧ ρ id = some (.pointer (some ⟨b, 0, none⟩)) := by
      intro j b hj
      have hjl : j < roots.length := by rw [← hbll]; exact (List.getElem?_eq_some_iff.1 hj).1
      obtain ⟨b', c0, h1, h2, h3, h4⟩ := hblr j roots[j] (by simp [hjl])
      rw [hj] at h1
      injection h1 with h1
      subst h1
      exact ⟨roots[j], c0, by simp [hjl], h2, h3, h4⟩
    have hTL := hT.step hstL
    have hOw1 : ∀ b ∈ bl, Ow ρ1 b := by
      intro b hb
      obtain ⟨j, hj⟩ := List.getElem?_of_mem hb
      obtain ⟨id, c0, _, h2, _⟩ := hptr1 j b hj
      exact ⟨id, _, h2, rfl⟩
    have pre : Pre w ImL bl dss vss as Y := by
      refine ⟨hstL.sr.im, ?_, by omega, ?_, ?_, hTL.mono hOw1, by rw [hal]; simpa using hYl, ?_⟩
      · intro i j b hi hj
        obtain ⟨id, _, h1, h2, _⟩ := hptr1 i b hi
        obtain ⟨id', _, h3, h4, _⟩ := hptr1 j b hj
        have := hst1.sr.inj id id' _ _ b h2 h4 rfl rfl
        subst this
        have hi' := (List.getElem?_eq_some_iff.1 h1)
        have hj' := (List.getElem?_eq_some_iff.1 h3)
        exact (List.getElem_inj hnd).1 (hi'.2.trans hj'.2.symm)
      · apply List.ext_getElem?
        intro j
        rw [List.getElem?_map, List.getElem?_map]
        rcases Nat.lt_or_ge j roots.length with hj | hj
        · obtain ⟨b, vs', ds, c0, h1, h2, h3, h4, h5, h6⟩ := hbox j roots[j] (by simp [hj])
          rw [h3, h4]
          simp [h5]
        · rw [List.getElem?_eq_none (by omega), List.getElem?_eq_none (by omega)]
          rfl
      · intro j b vs' hj hv
        obtain ⟨id, c0, h1, h2, h3, h4⟩ := hptr1 j b hj
        obtain ⟨b2, vs2, ds, c2, h5, h6, h7, _⟩ := hbox j id h1
        rw [h4] at h5
        injection h5 with h5
        injection h5 with h5
        injection h5 with h5
        injection h5 with h5
        subst h5
        rw [hv] at h7
        injection h7 with h7
        subst h7
        obtain ⟨b3, _, _, hb3, _, _, _, _, hI⟩ := hstL.sr.ob id _ _ ((freezeAll_box c0).1 h3) h2
        obtain rfl : b = b3 := by simpa using hb3
        exact ⟨h6, hI⟩
      · intro i a0 y ha0 hy
        obtain ⟨a, ha, hweak⟩ := har w ImL (Ptrs bl) (blanks bl.length) i a0 ha0
        refine hweak y ?_
        simp only [List.getElem?_map, Option.map_eq_some_iff] at ha
        obtain ⟨a', ha', rfl⟩ := ha
        refine lendA_sound (lent := lent) hst1.sr (fun b h => (hstL.im b h).1) (hst1.keepA _ _ (hAY i a' y ha' hy)) ?_ (fun j id hj => ?_) (fun j id hj => ?_)
        · intro c hc id hid e sh ver fz xs ho hk v b hv hb
          refine hbL id ?_ e sh ver fz xs ho hk v b hv hb
          rw [hlent, mem_adds]
          right
          simp only [List.mem_flatMap]
          exact ⟨c, ⟨a', List.mem_of_getElem? ha', hc⟩, hid⟩
        · obtain ⟨b, c0, _, _, h3, _⟩ := hblr j id hj
          exact ⟨c0, h3⟩
        · obtain ⟨b, c0, h1, h2, _, _⟩ := hblr j id hj
          exact ⟨b, h1, h2⟩
    refine Calls.mono (hcon.2 w ImL bl vss Y pre) ?_
    rintro e w' ⟨v, Im', vss', zs, rfl, post⟩
    have hown : ∀ b, DD bl dss.flatten vss.flatten b → Ow ρ b := by
      rintro b (hb | hb)
      · obtain ⟨j, hj⟩ := List.getElem?_of_mem hb
        obtain ⟨id, c0, _, _, _, h4⟩ := hptr1 j b hj
        exact ⟨id, _, h4, rfl⟩
      · rcases hO b hb with ⟨i, _, _, _, _, h1, _⟩ | h1
        · simp at h1
        · exact h1
    have hnow : ∀ b, OBs dss.flatten vss.flatten b → ¬ Ow ρ1 b := fun b ⟨i, hb⟩ => hT.out i b hb
    have fin : ∀ {ImA ImR : Nat → Prop} {oA : List AObj} {ks : List (List Kind)}, Step w Im ρ o w ImA ρ1 oA → (∀ (id : Nat) (c0 : List CV), o1[id]? = some (AObj.box c0) → oA[id]? = some (AObj.box c0)) → dss.map List.length = ks.map List.length → (∀ b, ImA b → ImR b ∧ w'.heap[b]? = w.heap[b]?) →
        (∀ b, ImR b → (ImA b ∨ w.heap.size ≤ b ∨ DD bl dss.flatten vss.flatten b) ∧ b < w'.heap.size) → (∀ (j b : Nat) (vs : List Value), bl[j]? = some b → vss'[j]? = some vs → BoxAt w' b vs ∧ ¬ ImR b) →
        Toks w' ImR (q.2.flatten ++ q.1.flatMap cellsOfS) (vss'.flatten ++ zs) (· ∈ bl) →
        (bif lensB q.2 ks && lensS q.1 (C.E.rk g) then inBs q.2 ks roots 0 oA fun o3 => inSs q.1 (C.E.rk g) 0 o3 fun vs o4 => K (packS vs) o4 else none) = some r →
        ∃ v1 v' o' Im' ρ', Ending.returned v = .returned v1 ∧ K v' o' = some r ∧ Step w Im ρ o w' Im' ρ' o' ∧ RA w' Im' ρ' o' v' v1 := by
      intro ImA ImR oA ks hst hbo hks him himn hbox' htok h
      obtain ⟨hcnd, h⟩ := bif_some h
      simp only [lensB, lensS, Bool.and_eq_true, beq_iff_eq] at hcnd
      have hkl : roots.length = ks.length := by have := congrArg List.length hks; simp at this; omega
      obtain ⟨v', o', ρ', hk, hst', hra⟩ := afterCall hst hown hnow (fun j id hj => by
          obtain ⟨b, c0, h1, h2, h3, _⟩ := hblr j id hj
          exact ⟨b, c0, h1, h2, hbo id c0 h3⟩) hbr post.wd post.fr him himn post.l2 hbox' htok post.ow post.ret hcnd.1 hkl hcnd.2 h
      exact ⟨v, v', o', ImR, ρ', rfl, hk, hst', hra⟩
    unfold afterLend at h
    split at h
    · exact fin (hst1.trans hstL) (fun id c0 hh => (freezeAll_box c0).1 hh) hl3 post.im post.imn post.box post.tok h
    · cases hpl : C.E.plain g <;> rw [hpl] at h <;> simp only [cond_true, cond_false] at h
      · exact fin (hst1.trans hstL) (fun id c0 hh => (freezeAll_box c0).1 hh) hl3 post.im post.imn post.box post.tok h
      · obtain ⟨hpp, h⟩ := bif_some h
        simp only [Bool.and_eq_true, List.all_eq_true] at hpp
        have hi : ∀ b, Im1 b → Im' b := fun b hb => (post.im b (hstL.im b hb).1).1
        refine fin hst1 (fun id c0 hh => hh) hl3 (fun b hb => ⟨hb, (post.im b (hstL.im b hb).1).2⟩) (fun b hb => ⟨.inl hb, (post.imn b (hi b hb)).2⟩) (fun j b vs h1 h2 => ⟨(post.box j b vs h1 h2).1, fun hb => (post.box j b vs h1 h2).2 (hi b hb)⟩) (post.tok.plain hi ?_) h
        intro c hc
        rcases List.mem_append.1 hc with hc | hc
        · obtain ⟨cs, h1, h2⟩ := List.mem_flatten.1 hc
          exact hpp.2 cs h1 c h2
        · obtain ⟨s, h1, h2⟩ := List.mem_flatMap.1 hc
          have := hpp.1 s h1
          cases s with
          | c v => simp [cellsOfS] at h2; subst h2; exact this
          | agg cs => exact List.all_eq_true.1 this c h2
  · cases h
end
end Go.Dp

/- Operations in their place in the code. -/
set_option linter.unusedVariables false
set_option linter.unusedSimpArgs false
namespace Go.Dp

/-- What a call began with. -/
structure Base where
  w : World
  Im : Nat → Prop
  D : Nat → Prop
  bl : List Nat
/-- Where memory stands now, seen from there. -/
structure Now (B : Base) (w : World) (Im : Nat → Prop) (ρ : Nat → Option Value) (o : List AObj) : Prop where
  wd : Wd B.w w
  sr : SR w Im ρ o
  fr : ∀ b, b < B.w.heap.size → ¬ B.D b → w.heap[b]? = B.w.heap[b]?
  ow : ∀ b, Ow ρ b → B.w.heap.size ≤ b ∨ B.D b
  im : ∀ b, B.Im b → Im b ∧ w.heap[b]? = B.w.heap[b]?
  imn : ∀ b, Im b → B.Im b ∨ B.w.heap.size ≤ b ∨ B.D b
  hd : ∀ (j b : Nat), B.bl[j]? = some b → RB ρ o j 0 (.pointer (some ⟨b, 0, none⟩))
structure Sta (B : Base) (s : St) (a : Act) (w : World) : Prop where
  ex : ∃ Im ρ, Now B w Im ρ s.o ∧ TR w Im ρ s.o s.t a
  df : a.defers = []
section
variable {P : Program} {E : Env} {w w' : World} {Im Im' : Nat → Prop} {ρ ρ' : Nat → Option Value} {o o' : List AObj} {r : List SV × List (List CV)} {t : List AV} {a : Act} {B : Base} {C : Ctx}
theorem Now.step (h : Now B w Im ρ o) (st : Step w Im ρ o w' Im' ρ' o') : Now B w' Im' ρ' o' := by
  refine ⟨h.wd.trans st.wd, st.sr, ?_, ?_, ?_, ?_, fun j b hj => st.keep (.bptr j 0) _ (h.hd j b hj)⟩
  · intro b hb hd
    rw [st.fr b (Nat.lt_of_lt_of_le hb h.wd.size) (fun id v hv hbk => ?_), h.fr b hb hd]
    rcases h.ow b ⟨id, v, hv, hbk⟩ with h1 | h1
    · omega
    · exact hd h1
  · rintro b ⟨id, v, hv, hb⟩
    rcases st.ow id v b hv hb with h1 | h1
    · exact .inl (Nat.le_trans h.wd.size h1)
    · exact h.ow b h1
  · intro b hb
    have h1 := h.im b hb
    have h2 := st.im b h1.1
    exact ⟨h2.1, h2.2.trans h1.2⟩
  · intro b hb
    rcases st.imn b hb with h1 | h1 | h1
    · exact h.imn b h1
    · exact .inr (.inl (Nat.le_trans h.wd.size h1))
    · exact .inr (h.ow b h1)
theorem set_same {l : List AV} {i : Nat} {v : AV} (h : getT l i = v) (hv : v ≠ .undef) : l.set i v = l := by
  apply List.ext_getElem?
  intro j
  by_cases e : i = j
  · subst e
    unfold getT at h
    rcases Nat.lt_or_ge i l.length with hi | hi
    · rw [List.getElem?_set_self hi]
      simp [hi] at h
      simp [hi, h]
    · rw [List.getElem?_eq_none (by omega)] at h
      exact absurd h.symm hv
  · rw [List.getElem?_set_ne e]
theorem branch_some {x : Operand} {K : Bool → List AV → R} (h : branch t x K = some r) : ∃ b, aval t x = .p (.bool b) ∧ K b t = some r := by
  unfold branch at h
  split at h
  · rename_i i
    obtain ⟨b, hb, h⟩ := bind_some h
    have hv := bool_some hb
    refine ⟨b, hv, ?_⟩
    have e : t.set i (.p (.bool b)) = t := set_same hv (by simp)
    cases b
    · simpa [e] using h
    · simpa [e] using h
  · rename_i v
    obtain ⟨b, hb, h⟩ := bind_some h
    refine ⟨b, bool_some hb, ?_⟩
    cases b
    · exact h
    · exact h
  · cases h
/-- What one operation that is carried out does to the state. -/
theorem stepOp_sound (hE : EnvOK P C.E) (hC : ∀ g args bs r, C.call g args bs = some r → Contract P g args bs r) (oo : Oper) {K : St → R} (hs : SR w Im ρ o) (av : ∀ x ∈ oo.op.operands.toList, RA w Im ρ o (aval t x) (a.eval x)) (h : stepOp C oo ⟨t, o⟩ K = some r)
    {next : Act → World → Prop} {Q : Exit → Act → World → Prop} (hn : ∀ v o' y w' Im' ρ', K ⟨putD t oo.dst v, o'⟩ = some r → Step w Im ρ o w' Im' ρ' o' → RA w' Im' ρ' o' v y → next (a.put oo.dst y) w') : oo.wp P a w next Q := by
  unfold Oper.wp
  have evs : ∀ {op}, oo.op = op → evOp C.E op ⟨t, o⟩ (fun v ob => K ⟨putD t oo.dst v, ob⟩) = some r → oo.upon P a next Q ((execOp a.eval oo).run P w) := by
    intro op hop h
    obtain ⟨v, o', y, w', Im', ρ', h1, h2, h3, h4⟩ := evOp_sound hE hs oo hop (by rw [← hop]; exact av) h
    rcases h4 with h4 | ⟨h4, rfl⟩
    · rw [h4]; exact hn v o' y w' Im' ρ' h1 h2 h3
    · rw [h4]; exact hn v o' _ w' Im' ρ' h1 h2 h3
  unfold stepOp at h
  split at h
  · rename_i c x y hop
    obtain ⟨b, hb, h⟩ := branch_some h
    have hc := av c (by rw [hop]; simp [Op.operands])
    rw [hb] at hc
    have hc' : a.eval c = .bool b := RA.bool (a := .p (.bool b)) rfl hc
    have hrun : (execOp a.eval oo).run P w = .ok (.value (if b = true then a.eval x else a.eval y)) w := by simp [execOp, hop, hc', asBool]
    rw [hrun]
    refine hn _ o _ w Im ρ h (Step.refl hs) ?_
    cases b
    · exact av y (by rw [hop]; simp [Op.operands])
    · exact av x (by rw [hop]; simp [Op.operands])
  · rename_i c hop
    split at h
    · rename_i f hcal
      have hf := av f (by rw [hop]; simp [Op.operands, Call.operands, hcal])
      obtain ⟨g, vs, hv, hent, hcalls⟩ := callOp_sound hE hC hs (ys := c.args.toList.map a.eval) hf (by simp) (fun i x y hx hy => by
        simp only [List.getElem?_map, Option.map_eq_some_iff] at hx hy
        obtain ⟨z, hz, rfl⟩ := hx
        obtain ⟨z', hz', rfl⟩ := hy
        rw [hz] at hz'
        injection hz' with hz'
        subst hz'
        have hz := List.mem_of_getElem? hz
        exact av z (by rw [hop]; simp only [Op.operands, Call.operands, hcal]; simp at hz ⊢; exact .inr hz)) h
      obtain ⟨fn, hfn, hbody, hname⟩ := hent
      have hrun : (execOp a.eval oo).run P w = .ok (.enter g (c.args.toList.map a.eval ++ vs.toList).toArray) w := by
        have hb : ¬ fn.body = none := by cases h : fn.body <;> simp_all
        have he : (c.args.toList.map a.eval ++ vs.toList).toArray = c.args.map a.eval ++ vs := by apply Array.ext'; simp
        rw [he]
        simp [execOp, hop, resolve, hcal, hv, Deferred.ofValue, invoke, callFunc, hfn, hname, hb]
      rw [hrun]
      refine Calls.mono hcalls ?_
      rintro e w' ⟨v, v', o', Im', ρ', rfl, h1, h2, h3⟩
      exact hn v' o' v w' Im' ρ' h1 h2 h3
    · exact evs rfl h
  · exact evs rfl h
theorem RA_tup0 : RA w Im ρ o (.tup []) undef := ⟨#[], rfl, rfl, fun i c y h => by simp at h⟩
theorem skipped_some {v : AV} (h : skipped v = true) : v = .tup [] := by
  unfold skipped at h
  split at h
  · rfl
  · cases h
theorem skipped_wanted {ops : Array Oper} {oo : Oper} {j : Nat} {want : Bool} {d : Tmp} (hg : oo.guard = some (j, want)) (hd : (ops[j]?).bind (·.dst) = some d) {v : AV} (h : skipped v = true) (hra : RA w Im ρ o v (a.tmps.getD d undef)) : Region.wanted oo (yielded ops a.tmps) = false := by
  rw [skipped_some h] at hra
  obtain ⟨vs, hv, _, _⟩ := hra
  have hy : yielded ops a.tmps j = none := by
    unfold yielded
    rw [hd]
    simp only [Option.bind_some]
    rw [Array.getD_eq_getD_getElem?] at hv
    cases hq : a.tmps[d]? with
    | none => rfl
    | some u => rw [hq] at hv; simp at hv; subst hv; rfl
  simp [Region.wanted, hg, hy]
/-- The same with its guard, in a region. -/
theorem guarded_sound (hE : EnvOK P C.E) (hC : ∀ g args bs r, C.call g args bs = some r → Contract P g args bs r) {ops : Array Oper} {i : Nat} {oo : Oper} (hi : ops[i]? = some oo) {K : St → R} (hs : SR w Im ρ o)
    (av : ∀ x ∈ oo.op.operands.toList, RA w Im ρ o (aval t x) (a.eval x)) (ag : ∀ j want d, oo.guard = some (j, want) → (ops[j]?).bind (·.dst) = some d → RA w Im ρ o (getT t d) (a.tmps.getD d undef)) (h : guarded C ops oo ⟨t, o⟩ K = some r)
    {next : Act → World → Prop} {Q : Exit → Act → World → Prop} (hn : ∀ v o' y w' Im' ρ', K ⟨putD t oo.dst v, o'⟩ = some r → Step w Im ρ o w' Im' ρ' o' → RA w' Im' ρ' o' v y → next (a.put oo.dst y) w') : wpOp P ops Q i next a w := by
  unfold wpOp
  simp only [hi]
  unfold guarded at h
  split at h
  · rename_i hg
    have hw : Region.wanted oo (yielded ops a.tmps) = true := by simp [Region.wanted, hg]
    rw [if_pos hw]
    exact .inl (stepOp_sound hE hC oo hs av h hn)
  · rename_i j want hg
    split at h
    · rename_i d hd
      have hgd := ag j want d hg hd
      cases hsk : skipped (getT t d) with
      | true =>
        rw [hsk] at h
        simp only [cond_true] at h
        rw [skipped_wanted hg hd hsk hgd]
        simp only [Bool.false_eq_true, if_false]
        exact hn (.tup []) o undef w Im ρ h (Step.refl hs) RA_tup0
      | false =>
      rw [hsk] at h
      simp only [cond_false] at h
      obtain ⟨b, hb, h⟩ := branch_some h
      have hb' : getT t d = .p (.bool b) := hb
      rw [hb'] at hgd
      have hv : a.tmps.getD d undef = .bool b := RA.bool (a := .p (.bool b)) rfl hgd
      have hy : yielded ops a.tmps j = some b := by
        unfold yielded
        rw [hd]
        simp only [Option.bind_some]
        rw [Array.getD_eq_getD_getElem?] at hv
        cases hq : a.tmps[d]? with
        | none => rw [hq] at hv; simp [undef] at hv
        | some v => rw [hq] at hv; simp at hv; subst hv; rfl
      have hw : Region.wanted oo (yielded ops a.tmps) = (b == want) := by simp [Region.wanted, hg, hy]
      rw [hw]
      cases hbw : b == want <;> rw [hbw] at h <;> simp only [cond_true, cond_false] at h
      · simp only [Bool.false_eq_true, if_false]
        exact hn (.tup []) o undef w Im ρ h (Step.refl hs) RA_tup0
      · simp only [if_true]
        exact .inl (stepOp_sound hE hC oo hs av h hn)
    · cases h
/-- In the order of the text. -/
theorem evOps_sound (hE : EnvOK P C.E) (hC : ∀ g args bs r, C.call g args bs = some r → Contract P g args bs r) {ops : Array Oper} {Q : Exit → Act → World → Prop} {K : St → R} (hQ : ∀ s a w, K s = some r → Sta B s a w → Q .normal a w) :
    ∀ {l : List Nat} {s : St} {a : Act} {w : World}, evOps C ops l s K = some r → Sta B s a w → wpOps P ops Q l a w
  | [], s, a, w, h, hs => hQ s a w h hs
  | i :: l, s, a, w, h, hs => by
    rw [wpOps_cons]
    simp only [evOps] at h
    split at h
    · rename_i oo hi
      obtain ⟨⟨Im, ρ, hnow, ht⟩, hdf⟩ := hs
      refine guarded_sound hE hC hi hnow.sr (fun x _ => aval_sound ht x) (fun j want d _ _ => ht.at_ d) h ?_
      intro v o' y w' Im' ρ' hk hst hra
      refine evOps_sound hE hC hQ hk ⟨⟨Im', ρ', hnow.step hst, (ht.mono hst.keepA).put hra oo.dst⟩, ?_⟩
      cases oo.dst <;> exact hdf
    · cases h
end
end Go.Dp

/- Loops' heads: objects named anew. -/
set_option linter.unusedVariables false
set_option linter.unusedSimpArgs false
namespace Go.Dp
section
variable {P : Program} {E : Env} {w w' : World} {Im Im' : Nat → Prop} {ρ ρ' : Nat → Option Value} {o o' : List AObj} {r : List SV × List (List CV)} {t : List AV} {a : Act} {B : Base} {C : Ctx} {L : List Nat}

def named (ρ : Nat → Option Value) (L : List Nat) : Nat → Option Value := fun j => (L[j]?).bind ρ
theorem renSt_get (j : Nat) : (renSt L o)[j]? = (L[j]?).map fun id => renO L o ((o[id]?).getD .dead) := by simp [renSt]
theorem renSt_at {j id : Nat} {x : AObj} (hj : L[j]? = some id) (hx : o[id]? = some x) : (renSt L o)[j]? = some (renO L o x) := by rw [renSt_get, hj]; simp [hx]
theorem RB.ren {id j off : Nat} {y : Value} (hj : L[j]? = some id) {cs : List CV} (ho : o[id]? = some (.box cs)) (h : RB ρ o id off y) : RB (named ρ L) (renSt L o) j off y := by
  simp only [RB, ho] at h
  obtain ⟨b, hb, hy⟩ := h
  simp only [RB, renSt_at hj ho, renO]
  exact ⟨b, by simp [named, hj, hb], hy⟩
theorem RC.ren (hs : SR w Im ρ o) {c : CV} {y : Value} (h : RC w Im ρ o c y) : RC w Im (named ρ L) (renSt L o) (renC L o c) y := by
  cases c with
  | undef => trivial
  | p v => exact h
  | own e sh xs => exact h.elim
  | nel => trivial
  | aptr => trivial
  | eptr v sh off => exact h
  | loc id ver sh lo len =>
    simp only [renC]
    split
    · rename_i e sh' ver' fz xs ho
      cases hc : (ver == ver' && sh == sh')
      · trivial
      · simp only [cond_true]
        simp only [Bool.and_eq_true, beq_iff_eq] at hc
        obtain ⟨rfl, rfl⟩ := hc
        cases fz with
        | true =>
          simp only [cond_true]
          have hkd : e.kd = none := by
            simp only [RC, ho] at h
            obtain ⟨hle, v, hv, hsl⟩ := h.2 trivial trivial
            obtain ⟨vals, _, _, _, _, hk⟩ := hs.ob id _ _ ho hv
            cases hk0 : e.kd with
            | none => rfl
            | some k => simp [RKids, hk0] at hk
          refine view_sound (Im2 := Im) hs (fun _ h => h) h (by simp [viewLoc, ho, hkd]) fun u b hu hb => ?_
          obtain ⟨vals, _, _, _, hz, _⟩ := hs.ob id _ _ ho hu
          exact (hz b hb).2 rfl
        | false =>
          simp only [cond_false]
          split
          · rename_i j hj
            have hj' := idx_some hj
            simp only [RC, ho] at h
            obtain ⟨hle, v, hv, hsl⟩ := h.2 trivial trivial
            simp only [RC, renSt_at hj' ho, renO]
            exact ⟨Nat.zero_le _, fun _ _ => ⟨hle, v, by simp [named, hj', hv], hsl⟩⟩
          · trivial
    · trivial
  | bptr id off =>
    simp only [renC]
    split
    · rename_i cs j ho hj
      exact RB.ren (idx_some hj) ho h
    · trivial
  | fn f caps =>
    simp only [renC]
    split
    · rename_i js hjs
      cases hall : caps.all (fun i => match o[i]? with | some (.box _) => true | _ => false)
      · trivial
      · simp only [cond_true]
        simp only [List.all_eq_true] at hall
        obtain ⟨hl, hr⟩ := idxs_some hjs
        obtain ⟨vs, hx, hl2, hh⟩ := h
        refine ⟨vs, hx, by omega, fun i j hij => ?_⟩
        obtain ⟨id, h1, h2⟩ := hr i j hij
        obtain ⟨z, hz, hb⟩ := hh i id h1
        have h3 := hall id (List.mem_of_getElem? h1)
        split at h3
        · rename_i cs ho
          exact ⟨z, hz, RB.ren h2 ho hb⟩
        · cases h3
    · trivial
theorem RS.ren (hs : SR w Im ρ o) {v : SV} {y : Value} (h : RS w Im ρ o v y) : RS w Im (named ρ L) (renSt L o) (renS L o v) y := by
  cases v with
  | c c => exact RC.ren hs h
  | agg cs =>
    obtain ⟨vs, rfl, hl, hr, h1⟩ := h
    refine ⟨vs, rfl, by simpa using hl, fun i c z hc hz => ?_, h1⟩
    simp only [List.getElem?_map, Option.map_eq_some_iff] at hc
    obtain ⟨c', hc', rfl⟩ := hc
    exact RC.ren hs (hr i c' z hc' hz)
theorem RA.ren (hs : SR w Im ρ o) {v : AV} {y : Value} (h : RA w Im ρ o v y) : RA w Im (named ρ L) (renSt L o) (renA L o v) y := by
  cases v with
  | s v => exact RS.ren hs h
  | tup ts =>
    obtain ⟨vs, rfl, hl, hr⟩ := h
    refine ⟨vs, rfl, by simpa using hl, fun i c z hc hz => ?_⟩
    simp only [List.getElem?_map, Option.map_eq_some_iff] at hc
    obtain ⟨c', hc', rfl⟩ := hc
    exact RS.ren hs (hr i c' z hc' hz)
theorem RO.reset {ρ ρ' : Nat → Option Value} {o o' : List AObj} {v : Value} {e : Et} {sh ver ver' : Nat} {fz : Bool} {xs : List PV} (h : RO w Im ρ o v (.arr e sh ver fz xs)) : RO w Im ρ' o' v (.arr e.reset sh ver' fz xs) := by
  unfold Et.reset
  split
  · exact h
  · rename_i k hk
    obtain ⟨vals, h1, h2, h3, h4, h5⟩ := h
    simp only [RKids, hk] at h5
    obtain ⟨h6, ks, h7, h8, h9⟩ := h5
    refine ⟨vals, h1, h2, fun i x j c y a b d => ?_, h4, h6, ks, h7, ⟨h8.len, h8.jlt, h8.kid, h8.out, h8.inj, h8.one⟩, h9⟩
    have := h3 i x j c y a b d
    unfold RPk at this
    rw [hk] at this
    exact this
theorem SR.ren (hs : SR w Im ρ o) (hL : L.Nodup) : SR w Im (named ρ L) (renSt L o) := by
  have nm : ∀ j v, named ρ L j = some v → ∃ id, L[j]? = some id ∧ ρ id = some v := by
    intro j v h
    obtain ⟨id, h1, h2⟩ := bind_some h
    exact ⟨id, h1, h2⟩
  refine ⟨?_, ?_, ?_, hs.im, ?_⟩
  · intro j x v hx hv
    obtain ⟨id, hj, hv⟩ := nm j v hv
    obtain ⟨x0, hx0⟩ : ∃ x0, o[id]? = some x0 := ⟨_, List.getElem?_eq_getElem (hs.lt id v hv).1⟩
    rw [renSt_at hj hx0] at hx
    injection hx with hx
    subst hx
    have h := hs.ob id x0 v hx0 hv
    cases x0 with
    | dead => trivial
    | box cs =>
      obtain ⟨b, vs, e, h1, h2, h3, h4, h5, h6⟩ := h
      refine ⟨b, vs, e, h1, h2, by simpa using h3, fun i c z hc hz => ?_, h5, h6⟩
      simp only [List.getElem?_map, Option.map_eq_some_iff] at hc
      obtain ⟨c', hc', rfl⟩ := hc
      exact RC.ren hs (h4 i c' z hc' hz)
    | arr e sh ver fz xs => exact RO.reset h
  · intro j j' v v' b hv hv' hb hb'
    obtain ⟨id, hj, hv⟩ := nm j v hv
    obtain ⟨id', hj', hv'⟩ := nm j' v' hv'
    have := hs.inj id id' v v' b hv hv' hb hb'
    subst this
    have h1 := List.getElem?_eq_some_iff.1 hj
    have h2 := List.getElem?_eq_some_iff.1 hj'
    exact (List.getElem_inj hL).1 (h1.2.trans h2.2.symm)
  · intro j v hv
    obtain ⟨id, hj, hv⟩ := nm j v hv
    exact ⟨by simp [renSt]; exact (List.getElem?_eq_some_iff.1 hj).1, (hs.lt id v hv).2⟩
  · intro j hd
    rw [renSt_get] at hd
    obtain ⟨id, hj, hd⟩ := Option.map_eq_some_iff.1 hd
    simp only [named, hj, Option.bind_some]
    cases ho : o[id]? with
    | none =>
      cases hv : ρ id with
      | none => rfl
      | some v =>
        have := (hs.lt id v hv).1
        rw [List.getElem?_eq_none_iff] at ho
        omega
    | some x =>
      rw [ho] at hd
      simp only [Option.getD_some] at hd
      cases x <;> simp [renO] at hd
      exact hs.dd id ho

theorem keepT_get (live : List Nat) : ∀ (t : List AV) (k i : Nat), (keepT live k t).length = t.length ∧ (getT (keepT live k t) i = getT t i ∨ getT (keepT live k t) i = .undef)
  | [], k, i => ⟨rfl, .inl rfl⟩
  | v :: t, k, i => by
    have ih := keepT_get live t (k + 1)
    refine ⟨by simp [keepT, (ih 0).1], ?_⟩
    cases i with
    | zero =>
      simp only [keepT, getT, List.getElem?_cons_zero, Option.getD_some]
      cases live.contains k
      · exact .inr rfl
      · exact .inl rfl
    | succ i => simpa [keepT, getT] using (ih i).2
theorem prefix_add1 (l : List Nat) (i : Nat) : l <+: add1 l i := by
  unfold add1
  cases l.contains i
  · exact List.prefix_append _ _
  · exact List.prefix_refl _
theorem prefix_adds : ∀ (is l : List Nat), l <+: adds l is
  | [], l => List.prefix_refl l
  | i :: is, l => (prefix_add1 l i).trans (prefix_adds is (add1 l i))
theorem reach_ok (o : List AObj) (m : Nat) (cs : List CV) : (reach o m cs).Nodup ∧ List.range m <+: reach o m cs := by
  unfold reach
  refine ⟨nodup_adds (nodup_adds (nodup_adds (nodup_adds List.nodup_range))), ?_⟩
  exact (((prefix_adds _ _).trans (prefix_adds _ _)).trans (prefix_adds _ _)).trans (prefix_adds _ _)
theorem Sta.canon {s : St} (h : Sta B s a w) (live : List Nat) : Sta B (canon B.bl.length live s) a w := by
  obtain ⟨⟨Im, ρ, hn, ht⟩, hd⟩ := h
  obtain ⟨L, hL⟩ : ∃ L, L = reach s.o B.bl.length ((keepT live 0 s.t).flatMap cellsOfA) := ⟨_, rfl⟩
  have hok := reach_ok s.o B.bl.length ((keepT live 0 s.t).flatMap cellsOfA)
  rw [← hL] at hok
  have hc : Dp.canon B.bl.length live s = ⟨(keepT live 0 s.t).map (renA L s.o), renSt L s.o⟩ := by rw [hL]; rfl
  rw [hc]
  refine ⟨⟨Im, named ρ L, ⟨hn.wd, hn.sr.ren hok.1, hn.fr, ?_, hn.im, hn.imn, ?_⟩, ⟨?_, ?_⟩⟩, hd⟩
  · rintro b ⟨j, v, hv, hb⟩
    obtain ⟨id, _, h2⟩ := bind_some hv
    exact hn.ow b ⟨id, v, h2, hb⟩
  · intro j b hj
    have hjl := (List.getElem?_eq_some_iff.1 hj).1
    have hLj : L[j]? = some j := by
      obtain ⟨l2, hl2⟩ := hok.2
      rw [← hl2, List.getElem?_append_left (by simpa using hjl), List.getElem?_range hjl]
    have h := hn.hd j b hj
    cases ho : s.o[j]? with
    | none => simp [RB, ho] at h
    | some x =>
      cases x with
      | box cs => exact RB.ren hLj ho h
      | dead => simp [RB, renSt_at hLj ho, renO]
      | arr e sh ver fz xs => simp [RB, renSt_at hLj ho, renO]
  · simp only [List.length_map]
    rw [(keepT_get live s.t 0 0).1]
    exact ht.size
  · intro i
    have h1 : getT ((keepT live 0 s.t).map (renA L s.o)) i = renA L s.o (getT (keepT live 0 s.t) i) := by
      simp only [getT, List.getElem?_map]
      cases (keepT live 0 s.t)[i]? <;> rfl
    rw [h1]
    rcases (keepT_get live s.t 0 i).2 with h2 | h2
    · rw [h2]; exact RA.ren hn.sr (ht.at_ i)
    · rw [h2]; trivial
/-! ### Nil rows as rows of one's own -/
theorem rebox (hs : SR w Im ρ o) {i : Nat} {c0 ds : List CV} (ho : o[i]? = some (.box c0)) (hl : ds.length = c0.length)
    (hr : ∀ (k : Nat) (c : CV) (y : Value), ds[k]? = some c → (∀ c', c0[k]? = some c' → RC w Im ρ o c' y) → RC w Im ρ o c y) :
    SR w Im ρ (o.set i (.box ds)) ∧ Inn w Im ρ o ρ (o.set i (.box ds)) (fun _ => False) := by
  have hlt := (List.getElem?_eq_some_iff.1 ho).1
  have hc : Compat ρ ρ o (o.set i (.box ds)) := by
    intro j a ha
    by_cases e1 : j = i
    · subst e1
      rw [ho] at ha
      injection ha with ha
      subst ha
      exact ⟨.box ds, by rw [List.getElem?_set_self hlt], rfl⟩
    · exact ⟨a, by rw [List.getElem?_set_ne (Ne.symm e1)]; exact ha, by cases a <;> simp [CompatO]⟩
  refine ⟨⟨?_, hs.inj, fun id v hv => ⟨by simpa using (hs.lt id v hv).1, (hs.lt id v hv).2⟩, hs.im, ?_⟩, ⟨fun c y hy => RC.compat him_refl hc hy, fun b hb => .inl hb, ?_, ?_, by simp, fun _ _ h => h⟩⟩
  · intro j a v ha hv
    by_cases e1 : j = i
    · subst e1
      rw [List.getElem?_set_self hlt] at ha
      injection ha with ha
      subst ha
      obtain ⟨b, vs, e, h1, h2, h3, h4, h5, h6⟩ := hs.ob j _ v ho hv
      exact ⟨b, vs, e, h1, h2, by omega, fun k c y hk hy => RC.compat him_refl hc (hr k c y hk fun c' hc' => h4 k c' y hc' hy), h5, h6⟩
    · rw [List.getElem?_set_ne (Ne.symm e1)] at ha
      exact RO.keep him_refl hc (fun _ _ => rfl) (fun _ _ h => h) (hs.ob j a v ha hv)
  · intro j hd
    by_cases e1 : j = i
    · subst e1; rw [List.getElem?_set_self hlt] at hd; cases hd
    · rw [List.getElem?_set_ne (Ne.symm e1)] at hd; exact hs.dd j hd
  · intro j cs' hj
    by_cases e1 : j = i
    · subst e1
      rw [ho] at hj
      injection hj with hj
      exact ⟨ds, by rw [List.getElem?_set_self hlt], rfl⟩
    · exact ⟨cs', by rw [List.getElem?_set_ne (Ne.symm e1)]; exact hj, rfl⟩
  · intro hm j a ha hd
    by_cases e1 : j = i
    · subst e1; exact hm j _ ho (by simp)
    · rw [List.getElem?_set_ne (Ne.symm e1)] at ha; exact hm j a ha hd
theorem nil_of_RP2 {sh : Nat} {xs : List PV} {y : Value} (h : RP w Im (.row sh 2 xs) y) : y = .slice none 0 0 := by
  cases h with
  | nil => rfl
  | row _ _ _ a cap g hf2 => exact absurd rfl hf2
theorem Now.inn (h : Now B w Im ρ o) (hs : SR w Im ρ' o') (hi : Inn w Im ρ o ρ' o' (fun _ => False)) : Now B w Im ρ' o' := by
  refine ⟨h.wd, hs, h.fr, fun b hb => ?_, h.im, h.imn, fun j b hj => hi.keep (.bptr j 0) _ (h.hd j b hj)⟩
  rcases hi.own b hb with h1 | h1
  · exact h.ow b h1
  · exact h1.elim
theorem innA (hi : Inn w Im ρ o ρ' o' (fun _ => False)) {v : AV} {x : Value} (hv : RA w Im ρ o v x) : RA w Im ρ' o' v x := by
  have hS : ∀ (v : SV) (x : Value), RS w Im ρ o v x → RS w Im ρ' o' v x := by
    intro v x hv
    cases v with
    | c c => exact hi.keep c x hv
    | agg cs => obtain ⟨vs, rfl, h1, h2, h3⟩ := hv; exact ⟨vs, rfl, h1, fun i c y hc hy => hi.keep c y (h2 i c y hc hy), h3⟩
  cases v with
  | s v => exact hS v x hv
  | tup ts => obtain ⟨vs, rfl, h1, h2⟩ := hv; exact ⟨vs, rfl, h1, fun i c y hc hy => hS c y (h2 i c y hc hy)⟩
theorem Sta.own1 {s : St} (h : Sta B s a w) (q : Option Nat × Nat × Et × Nat) : Sta B (own1 s q) a w := by
  obtain ⟨⟨Im, ρ, hn, ht⟩, hd⟩ := h
  have h0 : Sta B s a w := ⟨⟨Im, ρ, hn, ht⟩, hd⟩
  obtain ⟨j, i, e, sh⟩ := q
  unfold Dp.own1
  have ad : nilEt e sh = true → ∃ g : Value, SR w Im (upd ρ s.o.length (some g)) (s.o ++ [.arr e sh 0 false []]) ∧ Inn w Im ρ s.o (upd ρ s.o.length (some g)) (s.o ++ [.arr e sh 0 false []]) (fun _ => False) ∧ RC w Im (upd ρ s.o.length (some g)) (s.o ++ [.arr e sh 0 false []]) (.loc s.o.length 0 sh 0 0) (.slice none 0 0) := by
    intro hnil
    obtain ⟨g, hg, hgo, hgb⟩ := ownNilG w Im e sh hnil
    obtain ⟨a1, a2, a3⟩ := adopt (X := fun _ => False) (hn.sr.x _) hgo (fun b hb => (hgb b hb).elim)
    rw [hg] at a3
    exact ⟨g, a1.sr fun _ h => h, a2.mono fun b hb => hgb b hb, a3⟩
  cases j with
  | none =>
    simp only
    split
    · rename_i s' f xs hq
      have hx := ht.at_ i
      rw [hq] at hx
      split
      · split
        · rename_i ys hys
          have hw := (asRow_weak hys).2 w Im _ hx
          refine ⟨⟨Im, ρ, hn, ⟨by simpa using ht.size, fun k => ?_⟩⟩, hd⟩
          show RA w Im ρ s.o (getT (s.t.set i _) k) _
          rw [getT_set]
          split
          · rename_i hk
            obtain ⟨rfl, _⟩ := hk
            exact hw
          · exact ht.at_ k
        · exact h0
      · cases hf : (f == 2 && nilEt e sh)
        · exact h0
        · simp only [Bool.and_eq_true, beq_iff_eq] at hf
          obtain ⟨rfl, hnil⟩ := hf
          obtain ⟨g, hs1, a2, a3⟩ := ad hnil
          have hy := nil_of_RP2 (w := w) (Im := Im) hx
          refine ⟨⟨Im, _, hn.inn hs1 a2, ⟨by simpa using ht.size, fun k => ?_⟩⟩, hd⟩
          show RA w Im _ _ (getT (s.t.set i _) k) _
          rw [getT_set]
          split
          · rename_i hk
            obtain ⟨rfl, _⟩ := hk
            show RC w Im (upd ρ s.o.length (some g)) (s.o ++ [.arr e sh 0 false []]) (.loc s.o.length 0 sh 0 0) _
            rw [hy]
            exact a3
          · exact innA a2 (ht.at_ k)
    · exact h0
  | some j =>
    simp only
    split
    · rename_i cs ho
      split
      · rename_i s' f xs hq
        have hil := (List.getElem?_eq_some_iff.1 hq).1
        split
        · split
          · rename_i ys hys
            obtain ⟨b1, b2⟩ := rebox (ds := cs.set i (.p (.row sh 0 ys))) hn.sr ho (by simp) (fun k c y hk hc => by
              by_cases ek : k = i
              · subst ek
                rw [List.getElem?_set_self hil] at hk
                injection hk with hk
                subst hk
                exact (asRow_weak hys).2 w Im _ (hc _ hq)
              · rw [List.getElem?_set_ne (Ne.symm ek)] at hk
                exact hc c hk)
            exact ⟨⟨Im, _, hn.inn b1 b2, ⟨ht.size, fun k => innA b2 (ht.at_ k)⟩⟩, hd⟩
          · exact h0
        · cases hf : (f == 2 && nilEt e sh)
          · exact h0
          · simp only [Bool.and_eq_true, beq_iff_eq] at hf
            obtain ⟨rfl, hnil⟩ := hf
            obtain ⟨g, hs1, a2, a3⟩ := ad hnil
            have hlt := (List.getElem?_eq_some_iff.1 ho).1
            have ho1 : (s.o ++ [AObj.arr e sh 0 false []])[j]? = some (.box cs) := by rw [List.getElem?_append_left hlt]; exact ho
            obtain ⟨b1, b2⟩ := rebox (ds := cs.set i (.loc s.o.length 0 sh 0 0)) hs1 ho1 (by simp) (fun k c y hk hc => by
              by_cases ek : k = i
              · subst ek
                rw [List.getElem?_set_self hil] at hk
                injection hk with hk
                subst hk
                have := nil_of_RP2 (w := w) (Im := Im) (hc _ hq)
                rw [this]
                exact a3
              · rw [List.getElem?_set_ne (Ne.symm ek)] at hk
                exact hc c hk)
            have a4 := a2.trans b2
            exact ⟨⟨Im, _, hn.inn b1 a4, ⟨ht.size, fun k => innA a4 (ht.at_ k)⟩⟩, hd⟩
      · exact h0
    · exact h0
theorem Sta.head {s : St} (h : Sta B s a w) (live : List Nat) (own : List (Option Nat × Nat × Et × Nat)) : Sta B (head B.bl.length live own s) a w := by
  have hf : ∀ (l : List (Option Nat × Nat × Et × Nat)) (s : St), Sta B s a w → Sta B (l.foldl Dp.own1 s) a w := by
    intro l
    induction l with
    | nil => intro s h; exact h
    | cons q l ih => intro s h; exact ih _ (h.own1 q)
  unfold Dp.head
  split
  · exact h.canon live
  · exact (hf _ _ (h.canon live)).canon live
end
end Go.Dp

