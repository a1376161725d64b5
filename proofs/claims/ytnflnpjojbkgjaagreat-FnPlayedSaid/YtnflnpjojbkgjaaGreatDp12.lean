/- Handing over: rows of one's own go out and come in. -/
import Derived.Test.YtnflnpjojbkgjaaGreatDp11
set_option linter.unusedVariables false
set_option linter.unusedSimpArgs false
namespace Go.Dp

/-- A row that is nobody's but the holder's. -/
def OwnRow (w : World) (Im : Nat → Prop) (e : Et) (sh : Nat) (xs : List PV) (y : Value) : Prop := RO w Im (fun _ => none) [] y (.arr e sh 0 false xs)
theorem RP.mainV {w : World} {Im : Nat → Prop} {v : PV} {y : Value} (h : RP w Im v y) : mainV y = y := by cases h <;> rfl
theorem RC.mainV {w : World} {Im : Nat → Prop} {ρ : Nat → Option Value} {o : List AObj} {id ver sh lo len : Nat} {v y : Value} (h : RSl v sh lo len y) : mainV y = y := by
  unfold RSl at h
  split at h
  · obtain ⟨off, rfl, _⟩ := h; rfl
  · obtain ⟨_, _, rfl⟩ := h; rfl
  · exact h.elim
/-- The blocks of a row of one's own lie in memory. -/
theorem RO.arr_lt {w : World} {Im : Nat → Prop} {ρ : Nat → Option Value} {o : List AObj} {v : Value} {e : Et} {sh ver : Nat} {xs : List PV} (h : RO w Im ρ o v (.arr e sh ver false xs)) {b : Nat} (hb : Blk v b) : b < w.heap.size := by
  obtain ⟨vals, hown, _, _, _, hk⟩ := h
  cases hkd : e.kd with
  | none =>
    simp only [RKids, hkd] at hk
    have hm := hk trivial
    rw [hm] at hown
    exact ownsRow_lt hown b hb
  | some k =>
    simp only [RKids, hkd] at hk
    obtain ⟨_, ks, hv, hks, _⟩ := hk
    rw [hv] at hb
    obtain ⟨q, u, hq, hub⟩ := hb
    cases q with
    | zero =>
      simp at hq
      subst hq
      exact ownsRow_lt hown b (kid_Blk hub)
    | succ q =>
      replace hq : ks[q]? = some u := by simpa using hq
      have hql : q < xs.length := by rw [← hks.len]; exact (List.getElem?_eq_some_iff.1 hq).1
      by_cases hh : k.hole = some q
      · rw [hks.out q u hh hq] at hub; exact hub.elim
      · obtain ⟨_, _, u2, _, _, h3, _, vals2, h5, _⟩ := hks.kid q xs[q] (by simp [hql]) hh
        rw [hq] at h3
        injection h3 with h3
        subst h3
        exact ownsRow_lt h5 b (kid_Blk hub)
theorem RO.arr_any {w : World} {Im : Nat → Prop} {ρ ρ' : Nat → Option Value} {o o' : List AObj} {v : Value} {e : Et} {sh ver ver' : Nat} {fz : Bool} {xs : List PV} (h : RO w Im ρ o v (.arr e sh ver fz xs)) : RO w Im ρ' o' v (.arr e sh ver' fz xs) := h
def TokC (w : World) (Im : Nat → Prop) : CV → Value → Prop
  | .p v, y => RP w Im v y
  | .own e sh xs, y => OwnRow w Im e sh xs y
  | _, _ => False
def Ow (ρ : Nat → Option Value) (b : Nat) : Prop := ∃ id v, ρ id = some v ∧ Blk v b
def OB (cs : List CV) (ys : List Value) (i b : Nat) : Prop := ∃ e sh xs y, cs[i]? = some (.own e sh xs) ∧ ys[i]? = some y ∧ Blk y b
def OBs (cs : List CV) (ys : List Value) (b : Nat) : Prop := ∃ i, OB cs ys i b
structure Toks (w : World) (Im : Nat → Prop) (cs : List CV) (ys : List Value) (D : Nat → Prop) : Prop where
  len : ys.length = cs.length
  tok : ∀ (i : Nat) (c : CV) (y : Value), cs[i]? = some c → ys[i]? = some y → TokC w Im c y
  dis : ∀ i j b, OB cs ys i b → OB cs ys j b → i = j
  out : ∀ i b, OB cs ys i b → ¬ D b
section
variable {P : Program} {E : Env} {w w' : World} {Im Im' : Nat → Prop} {ρ ρ' : Nat → Option Value} {o o' : List AObj} {K : Kt} {r : List SV × List (List CV)} {cs : List CV} {ys : List Value} {D D' : Nat → Prop}

theorem Toks.nil : Toks w Im [] [] D := ⟨rfl, fun i c y h => by simp at h, fun i j b ⟨_, _, _, _, h, _⟩ => by simp at h, fun i b ⟨_, _, _, _, h, _⟩ => by simp at h⟩
theorem Toks.lt (h : Toks w Im cs ys D) {i b : Nat} (hb : OB cs ys i b) : b < w.heap.size ∧ ¬ Im b := by
  obtain ⟨e, sh, xs, y, h1, h2, h3⟩ := hb
  have ht : OwnRow w Im e sh xs y := h.tok i _ y h1 h2
  refine ⟨RO.arr_lt ht h3, ?_⟩
  obtain ⟨vals, hown, _, _, hz, _⟩ := ht
  exact (hz b h3).1 rfl
theorem OwnRow.keep (hi : ∀ b, Im b → Im' b ∧ w'.heap[b]? = w.heap[b]?) {e : Et} {sh : Nat} {xs : List PV} {y : Value} (hb : ∀ b, Blk y b → w'.heap[b]? = w.heap[b]? ∧ ¬ Im' b) (h : OwnRow w Im e sh xs y) : OwnRow w' Im' e sh xs y := by
  obtain ⟨vals, hown, h1, h2, h3, h4⟩ := h
  exact ⟨vals, ownsRow_main (fun b hb' => (hb b (main_Blk hb')).1) hown, h1, fun i x j c y a1 a2 a3 => (h2 i x j c y a1 a2 a3).keep hi, fun b hb' => ⟨fun _ => (hb b hb').2, fun h => nomatch h⟩, h4.keep hi fun b hb' => (hb b hb').1⟩
theorem Toks.keep (h : Toks w Im cs ys D) (hi : ∀ b, Im b → Im' b ∧ w'.heap[b]? = w.heap[b]?) (hb : ∀ i b, OB cs ys i b → w'.heap[b]? = w.heap[b]? ∧ ¬ Im' b ∧ ¬ D' b) : Toks w' Im' cs ys D' := by
  refine ⟨h.len, fun i c y hc hy => ?_, h.dis, fun i b hob => (hb i b hob).2.2⟩
  have := h.tok i c y hc hy
  cases c <;> first | exact this.elim | skip
  · exact RP.mono hi this
  · exact OwnRow.keep hi (fun b hbk => ⟨(hb i b ⟨_, _, _, y, hc, hy, hbk⟩).1, (hb i b ⟨_, _, _, y, hc, hy, hbk⟩).2.1⟩) this
theorem Toks.step (h : Toks w Im cs ys (Ow ρ)) (st : Step w Im ρ o w' Im' ρ' o') : Toks w' Im' cs ys (Ow ρ') := by
  refine h.keep st.im fun i b hob => ?_
  have hlt := h.lt hob
  have hno := h.out i b hob
  refine ⟨st.fr b hlt.1 fun id v hv hb => hno ⟨id, v, hv, hb⟩, fun hI => ?_, fun ⟨id, v, hv, hb⟩ => ?_⟩
  · rcases st.imn b hI with h1 | h1 | h1
    · exact hlt.2 h1
    · omega
    · exact hno h1
  · rcases st.ow id v b hv hb with h1 | h1
    · omega
    · exact hno h1
theorem Toks.mono (h : Toks w Im cs ys D) (hd : ∀ b, D' b → D b) : Toks w Im cs ys D' := ⟨h.len, h.tok, h.dis, fun i b hob hD => h.out i b hob (hd b hD)⟩
theorem OB.left {cs2 : List CV} {ys2 : List Value} {i b : Nat} (h : OB cs ys i b) : OB (cs ++ cs2) (ys ++ ys2) i b := by
  obtain ⟨e, sh, xs, y, h1, h2, h3⟩ := h
  have a1 := (List.getElem?_eq_some_iff.1 h1).1
  have a2 := (List.getElem?_eq_some_iff.1 h2).1
  exact ⟨e, sh, xs, y, by rw [List.getElem?_append_left a1]; exact h1, by rw [List.getElem?_append_left a2]; exact h2, h3⟩
theorem OB.right {cs2 : List CV} {ys2 : List Value} {i b : Nat} (hl : ys.length = cs.length) (h : OB cs2 ys2 i b) : OB (cs ++ cs2) (ys ++ ys2) (cs.length + i) b := by
  obtain ⟨e, sh, xs, y, h1, h2, h3⟩ := h
  exact ⟨e, sh, xs, y, by rw [List.getElem?_append_right (by omega)]; simpa using h1, by rw [List.getElem?_append_right (by omega), hl]; simpa using h2, h3⟩
theorem OB.split {cs2 : List CV} {ys2 : List Value} {i b : Nat} (hl : ys.length = cs.length) (h : OB (cs ++ cs2) (ys ++ ys2) i b) : (i < cs.length ∧ OB cs ys i b) ∨ (cs.length ≤ i ∧ OB cs2 ys2 (i - cs.length) b) := by
  obtain ⟨e, sh, xs, y, h1, h2, h3⟩ := h
  rcases Nat.lt_or_ge i cs.length with hi | hi
  · rw [List.getElem?_append_left hi] at h1
    rw [List.getElem?_append_left (by omega)] at h2
    exact .inl ⟨hi, _, _, _, _, h1, h2, h3⟩
  · rw [List.getElem?_append_right hi] at h1
    rw [List.getElem?_append_right (by omega), hl] at h2
    exact .inr ⟨hi, _, _, _, _, h1, h2, h3⟩
theorem Toks.left {cs2 : List CV} {ys2 : List Value} (hl : ys.length = cs.length) (h : Toks w Im (cs ++ cs2) (ys ++ ys2) D) : Toks w Im cs ys D := by
  refine ⟨hl, fun i c y hc hy => ?_, fun i j b h1 h2 => h.dis i j b h1.left h2.left, fun i b h1 => h.out i b h1.left⟩
  have a1 := (List.getElem?_eq_some_iff.1 hc).1
  exact h.tok i c y (by rw [List.getElem?_append_left a1]; exact hc) (by rw [List.getElem?_append_left (by omega)]; exact hy)
theorem Toks.right {cs2 : List CV} {ys2 : List Value} (hl : ys.length = cs.length) (h : Toks w Im (cs ++ cs2) (ys ++ ys2) D) : Toks w Im cs2 ys2 D := by
  refine ⟨by have := h.len; simp at this; omega, fun i c y hc hy => ?_, fun i j b h1 h2 => by have := h.dis _ _ b (h1.right hl) (h2.right hl); omega, fun i b h1 => h.out _ b (h1.right hl)⟩
  exact h.tok (cs.length + i) c y (by rw [List.getElem?_append_right (by omega)]; simpa using hc) (by rw [List.getElem?_append_right (by omega), hl]; simpa using hy)
theorem Toks.app {cs2 : List CV} {ys2 : List Value} (h : Toks w Im cs ys D) (h2 : Toks w Im cs2 ys2 D) (hd : ∀ i j b, OB cs ys i b → OB cs2 ys2 j b → False) : Toks w Im (cs ++ cs2) (ys ++ ys2) D := by
  have hl := h.len
  refine ⟨by simp [h.len, h2.len], fun i c y hc hy => ?_, fun i j b h3 h4 => ?_, fun i b h3 => ?_⟩
  · rcases Nat.lt_or_ge i cs.length with hi | hi
    · rw [List.getElem?_append_left hi] at hc
      rw [List.getElem?_append_left (by omega)] at hy
      exact h.tok i c y hc hy
    · rw [List.getElem?_append_right hi] at hc
      rw [List.getElem?_append_right (by omega), hl] at hy
      exact h2.tok _ c y hc hy
  · rcases h3.split hl with ⟨a1, a2⟩ | ⟨a1, a2⟩ <;> rcases h4.split hl with ⟨b1, b2⟩ | ⟨b1, b2⟩
    · exact h.dis i j b a2 b2
    · exact (hd _ _ b a2 b2).elim
    · exact (hd _ _ b b2 a2).elim
    · have := h2.dis _ _ b a2 b2; omega
  · rcases h3.split hl with ⟨a1, a2⟩ | ⟨a1, a2⟩
    · exact h.out i b a2
    · exact h2.out _ b a2
theorem OB.single {c : CV} {y : Value} {i b : Nat} (h : OB [c] [y] i b) : i = 0 ∧ Blk y b ∧ ∃ e sh xs, c = .own e sh xs := by
  obtain ⟨e, sh, xs, y', h1, h2, h3⟩ := h
  cases i with
  | zero => simp at h1 h2; subst h1; subst h2; exact ⟨rfl, h3, _, _, _, rfl⟩
  | succ i => simp at h1
theorem Toks.one {c : CV} {y : Value} (h : TokC w Im c y) (hd : ∀ e sh xs b, c = .own e sh xs → Blk y b → ¬ D b) : Toks w Im [c] [y] D := by
  refine ⟨rfl, fun i c' y' hc hy => ?_, fun i j b h1 h2 => by rw [h1.single.1, h2.single.1], fun i b h1 => ?_⟩
  · cases i with
    | zero => simp at hc hy; subst hc; subst hy; exact h
    | succ i => simp at hc
  · obtain ⟨_, h3, e, sh, xs, rfl⟩ := h1.single
    exact hd _ _ _ b rfl h3

/-! ### Out -/
/-- Boxes stay. -/
def Bx (ρ : Nat → Option Value) (o : List AObj) (ρ' : Nat → Option Value) (o' : List AObj) : Prop :=
  ∀ id cs, (o[id]? = some (.box cs) → o'[id]? = some (.box cs) ∧ ρ' id = ρ id) ∧ (o'[id]? = some (.box cs) → o[id]? = some (.box cs))
theorem Bx.refl : Bx ρ o ρ o := fun _ _ => ⟨fun h => ⟨h, rfl⟩, fun h => h⟩
theorem Bx.trans {ρ2 : Nat → Option Value} {o2 : List AObj} (h : Bx ρ o ρ' o') (k : Bx ρ' o' ρ2 o2) : Bx ρ o ρ2 o2 :=
  fun id cs => ⟨fun hc => let h1 := (h id cs).1 hc; let h2 := (k id cs).1 h1.1; ⟨h2.1, h2.2.trans h1.2⟩, fun hc => (h id cs).2 ((k id cs).2 hc)⟩
theorem bx_set {id : Nat} {x : AObj} (h : ∀ cs, o[id]? ≠ some (.box cs)) (hx : ∀ cs, x ≠ .box cs) : Bx ρ o ρ (o.set id x) := by
  intro i cs
  by_cases e : i = id
  · subst e
    refine ⟨fun hc => absurd hc (h cs), fun hc => ?_⟩
    rw [List.getElem?_set] at hc
    simp at hc
    exact absurd hc.2 (hx cs)
  · rw [List.getElem?_set_ne (Ne.symm e)]
    exact ⟨fun hc => ⟨hc, rfl⟩, fun hc => hc⟩
theorem bx_freezeC {c : CV} {v : PV} {o1 : List AObj} (h : freezeC o c = some (v, o1)) : Bx ρ o ρ o1 := by
  cases c <;> simp [freezeC] at h
  · rw [← h.2]; exact Bx.refl
  · obtain ⟨u, _, _, rfl⟩ := h
    unfold freezeO
    split
    · rename_i ho
      split
      · exact bx_set (by simp [ho]) (by simp)
      · cases Option.isNone _
        · exact Bx.refl
        · exact bx_set (by simp [ho]) (by simp)
    · exact Bx.refl
theorem bx_freezeCs : ∀ {cs : List CV} {vs : List PV} {o o1 : List AObj}, freezeCs o cs = some (vs, o1) → Bx ρ o ρ o1
  | [], vs, o, o1, h => by simp [freezeCs] at h; rw [← h.2]; exact Bx.refl
  | c :: cs, vs, o, o1, h => by
    simp only [freezeCs] at h
    obtain ⟨⟨v, o2⟩, hv, h⟩ := bind_some h
    obtain ⟨⟨us, o3⟩, hu, h⟩ := bind_some h
    simp at h
    obtain ⟨_, rfl⟩ := h
    exact (bx_freezeC hv).trans (bx_freezeCs hu)
/-- A row leaves the store. -/
theorem Step.kill (hs : SR w Im ρ o) {id sh ver : Nat} {e : Et} {fz : Bool} {xs : List PV} (ho : o[id]? = some (.arr e sh ver fz xs)) : Step w Im ρ o w Im (upd ρ id none) (o.set id .dead) := by
  have hlt := (List.getElem?_eq_some_iff.1 ho).1
  have him : ∀ b, Im b → Im b ∧ w.heap[b]? = w.heap[b]? := fun b hb => ⟨hb, rfl⟩
  have hc : Compat ρ (upd ρ id none) o (o.set id .dead) := by
    intro i a ha
    by_cases e1 : i = id
    · subst e1
      rw [ho] at ha
      injection ha with ha
      subst ha
      exact ⟨.dead, by simp [hlt], trivial⟩
    · exact ⟨a, by rw [List.getElem?_set_ne (Ne.symm e1)]; exact ha, by rw [upd_ne e1]; cases a <;> simp [CompatO]⟩
  have cs : ∀ i v, upd ρ id none i = some v → i ≠ id ∧ ρ i = some v := by
    intro i v h
    by_cases e1 : i = id
    · subst e1; rw [upd_same] at h; cases h
    · rw [upd_ne e1] at h; exact ⟨e1, h⟩
  refine ⟨Wd.refl w, ⟨?_, ?_, ?_, hs.im, ?_⟩, fun c y hy => RC.compat him hc hy, fun _ _ _ => rfl, ?_, him, fun b hb => .inl hb, ?_, ⟨by simp, fun i _ h0 => by
    by_cases e1 : i = id
    · subst e1; exact upd_same
    · rw [upd_ne e1]; exact h0⟩⟩
  · intro i a v ha hv
    obtain ⟨e1, hv⟩ := cs i v hv
    rw [List.getElem?_set_ne (Ne.symm e1)] at ha
    exact RO.keep him hc (fun _ _ => rfl) (fun _ _ h => h) (hs.ob i a v ha hv)
  · intro i i' v v' b hv hv' hb hb'
    exact hs.inj i i' v v' b (cs i v hv).2 (cs i' v' hv').2 hb hb'
  · intro i v hv
    obtain ⟨e1, hv⟩ := cs i v hv
    exact ⟨by simpa using (hs.lt i v hv).1, (hs.lt i v hv).2⟩
  · intro i hd
    by_cases e1 : i = id
    · subst e1; exact upd_same
    · rw [upd_ne e1]
      rw [List.getElem?_set_ne (Ne.symm e1)] at hd
      exact hs.dd i hd
  · intro i v b hv hb
    exact .inr ⟨i, v, (cs i v hv).2, hb⟩
  · intro hm i a ha hd
    by_cases e1 : i = id
    · subst e1; simp [hlt] at ha; exact absurd ha.symm hd
    · rw [List.getElem?_set_ne (Ne.symm e1)] at ha
      rw [upd_ne e1]
      exact hm i a ha hd
theorem Step.own (h : Step w Im ρ o w Im' ρ' o') : ∀ b, Ow ρ' b → Ow ρ b := by
  rintro b ⟨id, v, hv, hb⟩
  rcases h.ow id v b hv hb with h1 | h1
  · have := (h.sr.lt id v hv).2 b hb; omega
  · exact h1
theorem OBs.one {c : CV} {y : Value} {b : Nat} (hl : ys.length = cs.length) (h : OBs (cs ++ [c]) (ys ++ [y]) b) : OBs cs ys b ∨ (Blk y b ∧ ∃ e sh xs, c = .own e sh xs) := by
  obtain ⟨i, h⟩ := h
  rcases h.split hl with ⟨_, h1⟩ | ⟨_, h1⟩
  · exact .inl ⟨i, h1⟩
  · exact .inr h1.single.2
theorem ownNilG (w : World) (Im : Nat → Prop) (e : Et) (sh : Nat) (h : nilEt e sh = true) : ∃ g, mainV g = .slice none 0 0 ∧ OwnRow w Im e sh [] g ∧ ∀ b, ¬ Blk g b := by
  cases hk : e.kd with
  | none => exact ⟨.slice none 0 0, rfl, ⟨[], World.ownsRow_nil w 0 e.t (csz sh), by simp, by simp, by simp, by simp only [RKids, hk]; exact fun _ => rfl⟩, by simp⟩
  | some k =>
    simp only [nilEt, hk, Bool.and_eq_true, decide_eq_true_eq, Option.isNone_iff_eq_none] at h
    refine ⟨.tuple #[.slice none 0 0], rfl, ⟨[], World.ownsRow_nil w 0 e.t (csz sh), by simp, by simp, ?_, ?_⟩, ?_⟩
    · rintro b ⟨i, v, h1, h2⟩
      cases i <;> simp at h1
      subst h1
      exact h2.elim
    · simp only [RKids, hk]
      exact ⟨trivial, [], rfl, ⟨rfl, h.1, by simp, by simp, by simp, by simp⟩, by simp⟩
    · rintro b ⟨i, v, h1, h2⟩
      cases i <;> simp at h1
      subst h1
      exact h2.elim
/-- A row that is as asked for, as another column's. -/
theorem sameEt_own {e e' : Et} {sh len ver : Nat} {xs : List PV} {v : Value} (h : sameEt e e' len xs.length = true) (hr : RO w Im ρ o v (.arr e' sh ver false xs)) : (e.kd = none ∧ e'.kd = none ∧ e = e') ∨ (len = xs.length ∧ OwnRow w Im e sh xs v) := by
  unfold sameEt at h
  simp only [Bool.and_eq_true, beq_iff_eq] at h
  obtain ⟨ht, h⟩ := h
  split at h
  · rename_i h1 h2
    left
    refine ⟨h1, h2, ?_⟩
    cases e
    cases e'
    simp at ht h1 h2
    subst ht h1 h2
    rfl
  · rename_i k k' h1 h2
    right
    simp only [Bool.and_eq_true, beq_iff_eq, Option.isNone_iff_eq_none] at h
    obtain ⟨⟨⟨⟨⟨⟨hj, he⟩, hsh⟩, _⟩, hh⟩, hh'⟩, hl⟩ := h
    refine ⟨hl, ?_⟩
    obtain ⟨vals, hown, hs, hrp, hz, hk⟩ := hr
    simp only [RKids, h2] at hk
    obtain ⟨_, ks, hv, hks, hd⟩ := hk
    refine ⟨vals, by rw [ht]; exact hown, hs, fun i x j c y a1 a2 a3 => ?_, hz, ?_⟩
    · have := hrp i x j c y a1 a2 a3
      unfold RPk at this ⊢
      rw [h2] at this
      rw [h1]
      exact fun hjk => this (by rw [← hj]; exact hjk)
    · simp only [RKids, h1]
      refine ⟨trivial, ks, hv, ⟨hks.len, by rw [hj]; exact hks.jlt, fun i x hx _ => ?_, (fun i u h => by rw [hh] at h; cases h), hks.inj, hks.one⟩, hd⟩
      rw [hj, he, hsh]
      exact hks.kid i x hx (by rw [hh']; simp)
  · cases h
theorem outC_sound {K : CV → List AObj → R} {k : Kind} {c : CV} {y : Value} (hs : SR w Im ρ o) (hT : Toks w Im cs ys (Ow ρ)) (hc : RC w Im ρ o c y) (h : outC k c o K = some r) :
    ∃ d o1 Im1 ρ1 g, mainV g = y ∧ K d o1 = some r ∧ Step w Im ρ o w Im1 ρ1 o1 ∧ Bx ρ o ρ1 o1 ∧ Toks w Im1 (cs ++ [d]) (ys ++ [g]) (Ow ρ1) ∧ ∀ b, OBs (cs ++ [d]) (ys ++ [g]) b → OBs cs ys b ∨ Ow ρ b := by
  unfold outC at h
  split at h
  · obtain ⟨⟨v, o1⟩, hf, hk⟩ := bind_some h
    obtain ⟨v2, hk, hwk⟩ := castCell_some hk
    obtain ⟨Im1, hst, hr⟩ := freezeC_sound hs hc hf
    refine ⟨_, o1, Im1, ρ, y, hr.mainV, hk, hst, bx_freezeC hf, (hT.step hst).app (Toks.one (c := .p v2) (hwk.2 _ _ _ hr) (fun _ _ _ _ h => nomatch h)) (fun i j b _ h2 => ?_), fun b hb => ?_⟩
    · obtain ⟨_, _, _, _, _, h3⟩ := h2.single
      cases h3
    · rcases hb.one hT.len with h1 | ⟨_, _, _, _, h1⟩
      · exact .inl h1
      · cases h1
  · rename_i e sh
    split at h
    · rename_i v
      obtain ⟨⟨sh', f, xs⟩, hq, h⟩ := bind_some h
      obtain rfl := row_some hq
      · obtain ⟨hf, hk⟩ := bif_some h
        simp only [Bool.and_eq_true, beq_iff_eq] at hf
        obtain ⟨hf, hkj⟩ := hf
        have hy : y = .slice none 0 0 := by
          have hr : RP w Im (.row sh' f xs) y := hc
          subst hf
          cases hr with
          | nil => rfl
          | row _ _ _ a cap g hf2 => exact absurd rfl hf2
        subst hy
        obtain ⟨g, hg, hgo, hgb⟩ := ownNilG w Im e sh hkj
        refine ⟨_, o, Im, ρ, g, hg, hk, Step.refl hs, Bx.refl, hT.app (Toks.one hgo (fun _ _ _ b _ hb => (hgb b hb).elim)) (fun i j b _ h2 => ?_), fun b hb => ?_⟩
        · exact hgb b h2.single.2.1
        · rcases hb.one hT.len with h1 | ⟨h1, _⟩
          · exact .inl h1
          · exact (hgb b h1).elim
    · rename_i id ver sh' lo len
      split at h
      · rename_i e' sh'' ver' xs ho
        obtain ⟨hcnd, hk⟩ := bif_some h
        simp only [Bool.and_eq_true, beq_iff_eq] at hcnd
        obtain ⟨⟨⟨⟨rfl, rfl⟩, rfl⟩, rfl⟩, hsame⟩ := hcnd
        simp only [RC, ho] at hc
        obtain ⟨hle, v, hρ, hsl⟩ := hc.2 trivial trivial
        simp only [Nat.zero_add] at hle
        obtain ⟨vals, hown, hshp, hrp, hbk, hkids⟩ := hs.ob id _ _ ho hρ
        obtain ⟨hown2, hbx⟩ := own_take (lo := 0) hown hsl hle
        have hxl : (xs.take len).length = len := by simp; omega
        have hst := Step.kill hs ho
        have hrow : ∃ g, mainV g = y ∧ OwnRow w Im e sh (xs.take len) g ∧ ∀ b, Blk g b → Blk v b := by
          rcases sameEt_own hsame (hs.ob id _ _ ho hρ) with ⟨hk1, hk2, he⟩ | ⟨hl, hr⟩
          rotate_left
          · subst hl
            refine ⟨v, ?_, by rw [List.take_length]; exact hr, fun b hb => hb⟩
            rcases hown.2 with ⟨hm, hn⟩ | ⟨g, cap, cur, hm, _⟩
            · rw [hm] at hsl ⊢
              exact hsl.2.2.symm
            · rw [hm] at hsl ⊢
              obtain ⟨off, h1, _, h2⟩ := hsl
              have := h2 (.inl rfl)
              rw [h1, this]
              simp
          subst he
          simp only [RPk, hk1] at hrp
          refine ⟨y, (ownsRow_mainV hown2).1, ?_, fun b hb => main_Blk ((hbx b).1 hb)⟩
          refine ⟨_, by rw [hxl, (ownsRow_mainV hown2).1]; exact hown2, fun x hx => hshp x (List.mem_of_mem_take hx), ?_, fun b hb => ?_, by simp only [RKids, hk1]; exact fun _ => (ownsRow_mainV hown2).1⟩
          · intro i x j c u hx hj hu
            have hil : i < len := by have := (List.getElem?_eq_some_iff.1 hx).1; rwa [hxl] at this
            rw [List.getElem?_take_of_lt hil] at hx
            have hu' : vals[i * csz sh + j]? = some u := by
              rw [List.getElem?_take] at hu
              split at hu
              · exact hu
              · cases hu
            simp only [RPk, hk1]
            exact hrp i x j c u hx hj hu'
          · exact ⟨fun _ => (hbk b (main_Blk ((hbx b).1 hb))).1 rfl, fun h => nomatch h⟩
        obtain ⟨g, hgm, hrow, hgv⟩ := hrow
        refine ⟨_, _, Im, _, g, hgm, hk, hst, ?_, (hT.step hst).app (Toks.one hrow ?_) ?_, ?_⟩
        · intro i cs'
          have hb := (bx_set (ρ := ρ) (x := .dead) (id := id) (o := o) (by simp [ho]) (by simp)) i cs'
          refine ⟨fun hc' => ⟨(hb.1 hc').1, upd_ne fun e1 => ?_⟩, hb.2⟩
          subst e1
          rw [ho] at hc'
          cases hc'
        · rintro _ _ _ b _ hb ⟨i, u, hu, hub⟩
          replace hb := hgv b hb
          by_cases e1 : i = id
          · subst e1; rw [upd_same] at hu; cases hu
          · rw [upd_ne e1] at hu
            exact e1 (hs.inj i id u v b hu hρ hub hb)
        · intro i j b h1 h2
          have h3 := hgv b h2.single.2.1
          exact hT.out i b h1 ⟨id, v, hρ, h3⟩
        · intro b hb
          rcases hb.one hT.len with h1 | ⟨h1, _⟩
          · exact .inl h1
          · exact .inr ⟨id, v, hρ, hgv b h1⟩
      · cases h
    · cases h
theorem outCs_sound : ∀ {ks : List Kind} {c0 : List CV} {y0 : List Value} {o : List AObj} {Im : Nat → Prop} {ρ : Nat → Option Value} {cs : List CV} {ys : List Value} {K : List CV → List AObj → R}, SR w Im ρ o → Toks w Im cs ys (Ow ρ) → y0.length = c0.length →
    (∀ (i : Nat) (c : CV) (y : Value), c0[i]? = some c → y0[i]? = some y → RC w Im ρ o c y) → outCs ks c0 o K = some r →
    ∃ ds o1 Im1 ρ1 g0, g0.map mainV = y0 ∧ K ds o1 = some r ∧ Step w Im ρ o w Im1 ρ1 o1 ∧ Bx ρ o ρ1 o1 ∧ ds.length = c0.length ∧ ks.length = c0.length ∧ Toks w Im1 (cs ++ ds) (ys ++ g0) (Ow ρ1) ∧ ∀ b, OBs (cs ++ ds) (ys ++ g0) b → OBs cs ys b ∨ Ow ρ b
  | [], [], y0, o, Im, ρ, cs, ys, K, hs, hT, hl, hr, h => by
    simp only [outCs] at h
    have : y0 = [] := List.eq_nil_of_length_eq_zero hl
    subst this
    exact ⟨[], o, Im, ρ, [], rfl, h, Step.refl hs, Bx.refl, rfl, rfl, by simpa using hT, fun b hb => .inl (by simpa using hb)⟩
  | k :: ks, c :: c0, y0, o, Im, ρ, cs, ys, K, hs, hT, hl, hr, h => by
    cases y0 with
    | nil => simp at hl
    | cons y y0 =>
      simp only [outCs] at h
      obtain ⟨d, o1, Im1, ρ1, g, hg, h, hst, hb, hT1, hO1⟩ := outC_sound hs hT (hr 0 c y rfl rfl) h
      obtain ⟨ds, o2, Im2, ρ2, g0, hg0, h, hst2, hb2, hl2, hk2, hT2, hO2⟩ := outCs_sound hst.sr hT1 (by simpa using hl) (fun i c' y' hc' hy' => hst.keep _ _ (hr (i + 1) c' y' (by simpa using hc') (by simpa using hy'))) h
      refine ⟨d :: ds, o2, Im2, ρ2, g :: g0, by simp [hg, hg0], h, hst.trans hst2, hb.trans hb2, by simp [hl2], by simp [hk2], by simpa using hT2, fun b hb => ?_⟩
      rcases hO2 b (by simpa using hb) with h1 | h1
      · exact hO1 b h1
      · exact .inr (hst.own b h1)
  | [], _ :: _, _, _, _, _, _, _, _, _, _, _, _, h => by simp [outCs] at h
  | _ :: _, [], _, _, _, _, _, _, _, _, _, _, _, h => by simp [outCs] at h

/-- A result and its cells. -/
def RetS : SV → Value → List Value → Prop
  | .c _, y, zs => ∃ g, zs = [g] ∧ mainV g = y
  | .agg ds, y, zs => zs.length = ds.length ∧ y = .agg (zs.map mainV).toArray ∧ ∀ z ∈ zs, (mainV z).oneCell' = true
theorem cellsK_agg {α : Type} {K : List CV → Option α} {r : α} {n : Nat} {v : SV} {y : Value} (h : cellsK o (n + 1) v K = some r) (hy : RS w Im ρ o v y) : ∃ vs, y = .agg vs := by
  unfold cellsK at h
  split at h
  · obtain ⟨vs, rfl, _⟩ := hy; exact ⟨vs, rfl⟩
  · split at h
    · rename_i v
      obtain ⟨hc, _⟩ := bif_some h
      cases v <;> simp [PV.shp] at hc
      cases hy
      exact ⟨_, rfl⟩
    · obtain ⟨hc, _⟩ := bif_some h
      simp at hc
theorem bx_freezeS {x : SV} {v : PV} {o1 : List AObj} (h : freezeS o x = some (v, o1)) : Bx ρ o ρ o1 := by
  cases x with
  | c c => exact bx_freezeC h
  | agg cs =>
    simp only [freezeS] at h
    obtain ⟨⟨vs, o2⟩, hv, he⟩ := bind_some h
    simp at he
    rw [← he.2]
    exact bx_freezeCs hv
theorem outS_sound {K : SV → List AObj → R} {k : RK} {v : SV} {y : Value} (hs : SR w Im ρ o) (hT : Toks w Im cs ys (Ow ρ)) (hv : RS w Im ρ o v y) (h : outS k v o K = some r) :
    ∃ d o1 Im1 ρ1 zs, K d o1 = some r ∧ Step w Im ρ o w Im1 ρ1 o1 ∧ Bx ρ o ρ1 o1 ∧ RetS d y zs ∧ lenS d = lenK k ∧ Toks w Im1 (cs ++ cellsOfS d) (ys ++ zs) (Ow ρ1) ∧ ∀ b, OBs (cs ++ cellsOfS d) (ys ++ zs) b → OBs cs ys b ∨ Ow ρ b := by
  unfold outS at h
  split at h
  · obtain ⟨d, o1, Im1, ρ1, g, hg, h, hst, hb, hT1, hO⟩ := outC_sound hs hT hv h
    exact ⟨_, o1, Im1, ρ1, [g], h, hst, hb, ⟨g, rfl, hg⟩, rfl, hT1, hO⟩
  · rename_i cs'
    obtain ⟨⟨vs, o1⟩, hf, h⟩ := bind_some h
    have hf' : freezeS o (.agg cs') = some (.agg vs, o1) := by simp [freezeS, hf]
    obtain ⟨Im1, hst, hr⟩ := freezeS_sound hs hv hf'
    refine ⟨_, o1, Im1, ρ, [y], h, hst, bx_freezeS hf', ⟨y, rfl, hr.mainV⟩, rfl, (hT.step hst).app (Toks.one hr (fun _ _ _ _ h => nomatch h)) (fun i j b _ h2 => ?_), fun b hb => ?_⟩
    · obtain ⟨_, _, _, _, _, h3⟩ := h2.single
      cases h3
    · rcases hb.one hT.len with h1 | ⟨_, _, _, _, h1⟩
      · exact .inl h1
      · cases h1
  · rename_i v ks
    cases hk : ks.length with
    | zero =>
      have : ks = [] := List.eq_nil_of_length_eq_zero hk
      subst this
      obtain ⟨c0, h, hcl, hyl, hr, h1⟩ := cellsK_sound hs h hv
      obtain ⟨ds, o1, Im1, ρ1, g0, hg0, h, hst, hb, hl, hkl, hT1, _⟩ := outCs_sound (y0 := y.cells.toList) hs hT (by simpa using hyl) (fun i c z a b => hr i c z a (by simpa using b)) h
      simp [csz] at hcl hkl
      omega
    | succ n =>
      rw [hk] at h
      obtain ⟨vs, rfl⟩ := cellsK_agg h hv
      obtain ⟨c0, h, hcl, hyl, hr, h1⟩ := cellsK_sound hs h hv
      have e0 : (Value.agg vs).cells = vs := rfl
      rw [e0] at hyl hr h1
      obtain ⟨ds, o1, Im1, ρ1, g0, hg0, h, hst, hb, hl, hkl, hT1, hO⟩ := outCs_sound (y0 := vs.toList) hs hT (by simpa using hyl) (fun i c z a b => hr i c z a (by simpa using b)) h
      have hgl : g0.length = vs.size := by have := congrArg List.length hg0; simpa using this
      refine ⟨_, o1, Im1, ρ1, g0, h, hst, hb, ⟨by omega, by rw [hg0], fun z hz => ?_⟩, by simp [lenS, lenK]; omega, hT1, hO⟩
      have hz' : mainV z ∈ vs.toList := by rw [← hg0]; exact List.mem_map_of_mem hz
      obtain ⟨i, hi, hzi⟩ := List.getElem_of_mem hz'
      rw [← hzi]
      exact h1 i _ (by simp at hi; simp [hi])
  · cases h
inductive RetSs : List SV → List Value → List Value → Prop
  | nil : RetSs [] [] []
  | cons {d y zs ds ys' zss} : RetS d y zs → RetSs ds ys' zss → RetSs (d :: ds) (y :: ys') (zs ++ zss)
theorem outSs_sound : ∀ {ks : List RK} {vs : List SV} {y0 : List Value} {o : List AObj} {Im : Nat → Prop} {ρ : Nat → Option Value} {cs : List CV} {ys : List Value} {K : List SV → List AObj → R}, SR w Im ρ o → Toks w Im cs ys (Ow ρ) → y0.length = vs.length →
    (∀ (i : Nat) (c : SV) (y : Value), vs[i]? = some c → y0[i]? = some y → RS w Im ρ o c y) → outSs ks vs o K = some r →
    ∃ ds o1 Im1 ρ1 zs, K ds o1 = some r ∧ Step w Im ρ o w Im1 ρ1 o1 ∧ Bx ρ o ρ1 o1 ∧ RetSs ds y0 zs ∧ ds.map lenS = ks.map lenK ∧ Toks w Im1 (cs ++ ds.flatMap cellsOfS) (ys ++ zs) (Ow ρ1) ∧ ∀ b, OBs (cs ++ ds.flatMap cellsOfS) (ys ++ zs) b → OBs cs ys b ∨ Ow ρ b
  | [], [], y0, o, Im, ρ, cs, ys, K, hs, hT, hl, hr, h => by
    simp only [outSs] at h
    have : y0 = [] := List.eq_nil_of_length_eq_zero hl
    subst this
    exact ⟨[], o, Im, ρ, [], h, Step.refl hs, Bx.refl, .nil, rfl, by simpa using hT, fun b hb => .inl (by simpa using hb)⟩
  | k :: ks, v :: vs, y0, o, Im, ρ, cs, ys, K, hs, hT, hl, hr, h => by
    cases y0 with
    | nil => simp at hl
    | cons y y0 =>
      simp only [outSs] at h
      obtain ⟨d, o1, Im1, ρ1, zs, h, hst, hb, hret, hlk, hT1, hO1⟩ := outS_sound hs hT (hr 0 v y rfl rfl) h
      obtain ⟨ds, o2, Im2, ρ2, zss, h, hst2, hb2, hret2, hlk2, hT2, hO2⟩ := outSs_sound hst.sr hT1 (by simpa using hl) (fun i c' y' hc' hy' => hst.keepS _ _ (hr (i + 1) c' y' (by simpa using hc') (by simpa using hy'))) h
      refine ⟨d :: ds, o2, Im2, ρ2, zs ++ zss, h, hst.trans hst2, hb.trans hb2, .cons hret hret2, by simp [hlk, hlk2], by simpa using hT2, fun b hb => ?_⟩
      rcases hO2 b (by simpa using hb) with h1 | h1
      · exact hO1 b h1
      · exact .inr (hst.own b h1)
  | [], _ :: _, _, _, _, _, _, _, _, _, _, _, _, h => by simp [outSs] at h
  | _ :: _, [], _, _, _, _, _, _, _, _, _, _, _, h => by simp [outSs] at h
/-- The boxes' cells, as they lie. -/
def BoxAt (w : World) (b : Nat) (vs : List Value) : Prop := (∃ e, w.heap[b]? = some (.cells (vs.map mainV).toArray e (0, 0))) ∧ ∀ v ∈ vs, (mainV v).oneCell' = true
theorem outBs_sound : ∀ {kss : List (List Kind)} {ids : List Nat} {o : List AObj} {Im : Nat → Prop} {ρ : Nat → Option Value} {cs : List CV} {ys : List Value} {K : List (List CV) → List AObj → R}, SR w Im ρ o → Toks w Im cs ys (Ow ρ) →
    (∀ id ∈ ids, ∀ c0, o[id]? = some (.box c0) → ∃ b, ρ id = some (.pointer (some ⟨b, 0, none⟩))) → outBs kss ids o K = some r →
    ∃ (dss : List (List CV)) (o1 : List AObj) (Im1 : Nat → Prop) (ρ1 : Nat → Option Value) (vss : List (List Value)), K dss o1 = some r ∧ Step w Im ρ o w Im1 ρ1 o1 ∧ Bx ρ o ρ1 o1 ∧ dss.length = ids.length ∧ vss.length = ids.length ∧ dss.map List.length = kss.map List.length ∧ Toks w Im1 (cs ++ dss.flatten) (ys ++ vss.flatten) (Ow ρ1) ∧ (∀ b, OBs (cs ++ dss.flatten) (ys ++ vss.flatten) b → OBs cs ys b ∨ Ow ρ b) ∧
      ∀ (j id : Nat), ids[j]? = some id → ∃ b vs ds cs0, ρ id = some (.pointer (some ⟨b, 0, none⟩)) ∧ BoxAt w b vs ∧ vss[j]? = some vs ∧ dss[j]? = some ds ∧ ds.length = vs.length ∧ o[id]? = some (.box cs0)
  | [], [], o, Im, ρ, cs, ys, K, hs, hT, hp, h => by
    simp only [outBs] at h
    exact ⟨[], o, Im, ρ, [], h, Step.refl hs, Bx.refl, rfl, rfl, rfl, by simpa using hT, fun b hb => .inl (by simpa using hb), fun j id hj => by simp at hj⟩
  | ks :: kss, i :: ids, o, Im, ρ, cs, ys, K, hs, hT, hp, h => by
    simp only [outBs] at h
    split at h
    · rename_i c0 ho
      obtain ⟨b, hρ⟩ := hp i (by simp) c0 ho
      obtain ⟨b', vs, e, hb, hh, hl, hr, h1, _⟩ := hs.ob i _ _ ho hρ
      obtain rfl : b = b' := by simpa using hb
      obtain ⟨ds, o1, Im1, ρ1, g0, hg0, h, hst, hbx, hld, hlk, hT1, hO1⟩ := outCs_sound (y0 := vs.toList) hs hT (by simpa using hl) (fun i c y a c' => hr i c y a (by simpa using c')) h
      have hp1 : ∀ id ∈ ids, ∀ c0, o1[id]? = some (.box c0) → ∃ b, ρ1 id = some (.pointer (some ⟨b, 0, none⟩)) := by
        intro id hid c1 hc1
        have h2 := (hbx id c1).2 hc1
        obtain ⟨b, hb⟩ := hp id (by simp [hid]) c1 h2
        exact ⟨b, ((hbx id c1).1 h2).2.trans hb⟩
      obtain ⟨dss, o2, Im2, ρ2, vss, h, hst2, hbx2, hl1, hl2, hl3, hT2, hO2, hrest⟩ := outBs_sound hst.sr hT1 hp1 h
      have hgl : g0.length = vs.size := by have := congrArg List.length hg0; simpa using this
      refine ⟨ds :: dss, o2, Im2, ρ2, g0 :: vss, h, hst.trans hst2, hbx.trans hbx2, by simp [hl1], by simp [hl2], by simp [hl3, hld, hlk], by simpa using hT2, fun b hb => ?_, ?_⟩
      · rcases hO2 b (by simpa using hb) with h1 | h1
        · exact hO1 b h1
        · exact .inr (hst.own b h1)
      intro j id hj
      cases j with
      | zero =>
        simp at hj
        subst hj
        refine ⟨b, g0, ds, c0, hρ, ⟨⟨e, by rw [hg0]; simpa using hh⟩, fun v hv => ?_⟩, rfl, rfl, by omega, ho⟩
        have hz' : mainV v ∈ vs.toList := by rw [← hg0]; exact List.mem_map_of_mem hv
        obtain ⟨k, hk, hzk⟩ := List.getElem_of_mem hz'
        rw [← hzk]
        exact h1 k _ (by simp at hk; simp [hk])
      | succ j =>
        obtain ⟨b2, vs2, ds2, cs2, h3, h4, h5, h6, h7, h8⟩ := hrest j id (by simpa using hj)
        have h9 := (hbx id cs2).2 h8
        exact ⟨b2, vs2, ds2, cs2, by rw [← ((hbx id cs2).1 h9).2]; exact h3, h4, by simpa using h5, by simpa using h6, h7, h9⟩
    · cases h
  | [], _ :: _, _, _, _, _, _, _, _, _, _, h => by simp [outBs] at h
  | _ :: _, [], _, _, _, _, _, _, _, _, _, h => by simp [outBs] at h
end
end Go.Dp
