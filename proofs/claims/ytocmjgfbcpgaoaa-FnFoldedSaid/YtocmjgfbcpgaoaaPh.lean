/- FnCommute: what commands touch; independent commands commute; the law. -/
import Derived.Test.YtocmjgfbcpgaoaaPg
set_option linter.unusedVariables false
set_option linter.unusedSimpArgs false
set_option maxRecDepth 4000
namespace Go.Proofs.Ytocmjgfbcpgaoaa
open Go.Dp

/-! ### What a command touches -/
def readsCh : List Chg → List Int
  | [] => []
  | x :: l => vlist x.by1 ++ readsCh l
def readsI : List Chg → List Int
  | [] => []
  | x :: l => canI (vlist x.by1) ++ readsI l
theorem readsI_mem : ∀ (l : List Chg) (v : Int), v ∈ readsI l ↔ v ∈ readsCh l
  | [], v => by simp [readsI, readsCh]
  | x :: l, v => by simp only [readsI, readsCh, List.mem_append, readsI_mem l v, (canI_spec _).2]
theorem readsI_len : ∀ (l : List Chg), (∀ x ∈ l, x.by1.length ≤ 100) → (readsI l).length ≤ 100 * l.length
  | [], h => by simp [readsI]
  | x :: l, h => by
    have h1 := readsI_len l fun y hy => h y (by simp [hy])
    have h2 := canI_len (vlist x.by1)
    have h3 := vlist_len x.by1
    have h4 := h x (by simp)
    simp only [readsI, List.length_append, List.length_cons]
    omega
theorem readsCh_len : ∀ (l : List Chg), (∀ x ∈ l, x.by1.length ≤ 100) → (readsCh l).length ≤ 100 * l.length
  | [], h => by simp [readsCh]
  | x :: l, h => by
    have h1 := readsCh_len l fun y hy => h y (by simp [hy])
    have h3 := vlist_len x.by1
    have h4 := h x (by simp)
    simp only [readsCh, List.length_append, List.length_cons]
    omega
def readsOf (c : Cmd) : List Int := putAllI [] (vlist c.wh ++ readsCh c.ch)
def writesOf (c : Cmd) : List Int := c.ch.map Chg.v
theorem reads_eq (c : Cmd) : canI (canI (vlist c.wh) ++ readsI c.ch) = readsOf c := by
  refine canI_put fun x => ?_
  simp only [List.mem_append, (canI_spec _).2, readsI_mem]
/-! ### Apart -/
def meetI (a b : List Int) : Bool := a.any fun x => b.contains x
def tOK (p : Prg) (k1 : Int) : Bool := goodP p && cnoOK p k1
def apart (p : Prg) (k1 m1 : Int) : Bool := !meetI (writesOf (cmdAt p k1)) (readsOf (cmdAt p m1)) && (!meetI (writesOf (cmdAt p k1)) (writesOf (cmdAt p m1)) && !meetI (writesOf (cmdAt p m1)) (readsOf (cmdAt p k1)))
theorem reads_len {p : Prg} (hp : FitP p) {k1 : Int} (h : cnoOK p k1 = true) : (readsOf (cmdAt p k1)).length ≤ 1000 ∧ (writesOf (cmdAt p k1)).length ≤ 1000 := by
  have hf := hp.c _ (cmdAt_get h).2
  have h1 := putAllI_len (vlist (cmdAt p k1).wh ++ readsCh (cmdAt p k1).ch) []
  have h2 := readsCh_len (cmdAt p k1).ch hf.by1
  have h3 := vlist_len (cmdAt p k1).wh
  have h4 := hf.wh
  have h5 := hf.ch
  simp only [List.length_append, List.length_nil] at h1
  unfold readsOf writesOf
  exact ⟨by omega, by simp; omega⟩
theorem sameI_loop {k : Nat} (a : List Int) (ha : a.length ≤ 1000000) : ∀ (n i : Nat), a.length - i < n → i ≤ a.length → L13_1 k n (encZ a) (encZ a) (a.length : Int) (i : Int) = r13 true
  | 0, i, h, hi => by omega
  | n + 1, i, h, hi => by
    rw [sL13_1]
    by_cases hlt : i < a.length
    · have hd : decide ((i : Int) < (a.length : Int)) = true := by simpa using hlt
      rw [hd, encZ_lookup hlt]
      simp only [cond_true, Option.bind_some, int_atInt, bne_self_eq_false, cond_false]
      rw [i64_id (by omega) (by omega)]
      exact sameI_loop a ha n (i + 1) (by omega) (by omega)
    · have hd : decide ((i : Int) < (a.length : Int)) = false := by simpa using hlt
      rw [hd]
      rfl
theorem sameI_ok {k : Nat} (hk : 1000010 ≤ k) (a : List Int) (ha : a.length ≤ 1000000) : c13 k (encZ a) (encZ a) = r13 true := by
  obtain ⟨k, rfl⟩ : ∃ j, k = j + 1 := ⟨k - 1, by omega⟩
  rw [n13, encZ_length, bne_self_eq_false]
  have := sameI_loop (k := k) a ha k 0 (by omega) (by omega)
  simpa using this
end Go.Proofs.Ytocmjgfbcpgaoaa
