/- States of programs and their numbers. -/
import Derived.Test.YtocmjgfbcpgaoaaPb
import Derived.Test.YtocmjgfbcpgaoaaKj
set_option linter.unusedVariables false
set_option linter.unusedSimpArgs false
set_option maxRecDepth 4000
namespace Go.Dp

/-! ### Bits of small numbers -/
theorem i64_bv (x : Nat) (hx : x < 9223372036854775808) : (BitVec.ofInt 64 (x : Int)).toNat = x := by
  rw [BitVec.toNat_ofInt]
  show ((x : Int) % ((2 ^ 64 : Nat) : Int)).toNat = x
  omega
theorem i64_or {x y : Nat} (hx : x < 4611686018427387904) (hy : y < 4611686018427387904) : bitsOp .or .i64 (x : Int) (y : Int) = ((x ||| y : Nat) : Int) := by
  show IntKind.i64.wrap (((BitVec.ofInt 64 (x : Int)) ||| (BitVec.ofInt 64 (y : Int))).toNat : Int) = _
  rw [BitVec.toNat_or, i64_bv x (by omega), i64_bv y (by omega)]
  have : x ||| y < 2 ^ 62 := Nat.or_lt_two_pow (by omega) (by omega)
  exact i64_id (by omega) (by omega)
theorem i64_and {x y : Nat} (hx : x < 4611686018427387904) (hy : y < 4611686018427387904) : bitsOp .and .i64 (x : Int) (y : Int) = ((x &&& y : Nat) : Int) := by
  show IntKind.i64.wrap (((BitVec.ofInt 64 (x : Int)) &&& (BitVec.ofInt 64 (y : Int))).toNat : Int) = _
  rw [BitVec.toNat_and, i64_bv x (by omega), i64_bv y (by omega)]
  have : x &&& y ≤ x := Nat.and_le_left
  exact i64_id (by omega) (by omega)
theorem i64_shl {x n : Nat} (h : x * 2 ^ n < 9223372036854775808) (hn : n ≤ 64) : shlI .i64 (x : Int) (n : Int) = ((x * 2 ^ n : Nat) : Int) := by
  unfold shlI
  show IntKind.i64.wrap ((x : Int) * 2 ^ (min (n : Int).toNat 64)) = _
  rw [Int.toNat_natCast, Nat.min_eq_left hn]
  have e : (x : Int) * 2 ^ n = ((x * 2 ^ n : Nat) : Int) := by simp
  rw [e]
  exact i64_id (by omega) (by omega)
theorem i64_shr {x n : Nat} (hn : n ≤ 64) : shrI .i64 (x : Int) (n : Int) = ((x / 2 ^ n : Nat) : Int) := by
  unfold shrI
  show Int.fdiv (x : Int) (2 ^ (min (n : Int).toNat 64)) = _
  rw [Int.toNat_natCast, Nat.min_eq_left hn]
  have e : ((2 : Int) ^ n) = ((2 ^ n : Nat) : Int) := by simp
  rw [e, Int.fdiv_eq_ediv_of_nonneg _ (Int.natCast_nonneg _), ← Int.natCast_ediv]
theorem ofInt_toNat {x : Nat} (hx : x < 18446744073709551616) : (BitVec.ofInt 64 (x : Int)).toNat = x := by
  rw [BitVec.toNat_ofInt]
  show ((x : Int) % ((2 ^ 64 : Nat) : Int)).toNat = x
  omega
end Go.Dp
namespace Go.Proofs.Ytocmjgfbcpgaoaa
open Go.Dp

/-- The number of a state. -/
def noOf (w : Nat) : List W → Nat
  | [] => 0
  | a :: l => a.toNat + 2 ^ w * noOf w l
def digs (w : Nat) : Nat → Nat → List W
  | 0, _ => []
  | v + 1, no => BitVec.ofNat 64 (no % 2 ^ w) :: digs w v (no / 2 ^ w)
theorem noOf_lt {w : Nat} : ∀ {s : List W}, (∀ a ∈ s, a.toNat < 2 ^ w) → noOf w s < 2 ^ (w * s.length)
  | [], _ => by simp [noOf]
  | a :: l, h => by
    have h1 := h a (by simp)
    have h2 := noOf_lt (s := l) fun b hb => h b (by simp [hb])
    simp only [noOf, List.length_cons]
    have e : 2 ^ (w * (l.length + 1)) = 2 ^ w * 2 ^ (w * l.length) := by rw [← Nat.pow_add]; congr 1; rw [Nat.mul_succ]; omega
    rw [e]
    have h3 : 2 ^ w * (noOf w l + 1) ≤ 2 ^ w * 2 ^ (w * l.length) := Nat.mul_le_mul_left _ h2
    rw [Nat.mul_add] at h3
    omega
theorem noOf_app {w : Nat} : ∀ (s t : List W), noOf w (s ++ t) = noOf w s + 2 ^ (w * s.length) * noOf w t
  | [], t => by simp [noOf]
  | a :: l, t => by
    simp only [List.cons_append, noOf, noOf_app l t, List.length_cons]
    have e : 2 ^ (w * (l.length + 1)) = 2 ^ w * 2 ^ (w * l.length) := by rw [← Nat.pow_add]; congr 1; rw [Nat.mul_succ]; omega
    rw [e, Nat.mul_add, Nat.mul_assoc]
    omega
theorem digs_length {w : Nat} : ∀ {v no : Nat}, (digs w v no).length = v
  | 0, _ => rfl
  | v + 1, no => by simp [digs, digs_length]
theorem digs_lt {w : Nat} (hw : w ≤ 63) : ∀ {v no : Nat}, ∀ a ∈ digs w v no, a.toNat < 2 ^ w
  | 0, no, a, h => by simp [digs] at h
  | v + 1, no, a, h => by
    simp only [digs, List.mem_cons] at h
    rcases h with rfl | h
    · have h1 : no % 2 ^ w < 2 ^ w := Nat.mod_lt _ (Nat.two_pow_pos w)
      have h2 : 2 ^ w ≤ 2 ^ 63 := Nat.pow_le_pow_right (by omega) hw
      rw [BitVec.toNat_ofNat, Nat.mod_eq_of_lt (by omega)]
      exact h1
    · exact digs_lt hw a h
theorem noOf_digs {w : Nat} (hw : w ≤ 63) : ∀ {v no : Nat}, no < 2 ^ (w * v) → noOf w (digs w v no) = no
  | 0, no, h => by simp at h; subst h; rfl
  | v + 1, no, h => by
    have h1 : no % 2 ^ w < 2 ^ w := Nat.mod_lt _ (Nat.two_pow_pos w)
    have h2 : 2 ^ w ≤ 2 ^ 63 := Nat.pow_le_pow_right (by omega) hw
    have e : 2 ^ (w * (v + 1)) = 2 ^ w * 2 ^ (w * v) := by rw [← Nat.pow_add]; congr 1; rw [Nat.mul_succ]; omega
    rw [e] at h
    simp only [digs, noOf]
    rw [noOf_digs hw (Nat.div_lt_of_lt_mul h), BitVec.toNat_ofNat, Nat.mod_eq_of_lt (a := no % 2 ^ w) (by omega)]
    exact Nat.mod_add_div no (2 ^ w)
theorem digs_noOf {w : Nat} : ∀ {s : List W}, (∀ a ∈ s, a.toNat < 2 ^ w) → digs w s.length (noOf w s) = s
  | [], _ => rfl
  | a :: l, h => by
    have h1 := h a (by simp)
    simp only [List.length_cons, digs, noOf]
    rw [Nat.add_mul_mod_self_left, Nat.mod_eq_of_lt h1, Nat.add_mul_div_left _ _ (Nat.two_pow_pos w), Nat.div_eq_of_lt h1, Nat.zero_add, digs_noOf fun b hb => h b (by simp [hb])]
    congr 1
    exact BitVec.eq_of_toNat_eq (by rw [BitVec.toNat_ofNat, Nat.mod_eq_of_lt a.isLt])
theorem digs_get {w : Nat} : ∀ {v no i : Nat}, i < v → (digs w v no)[i]? = some (BitVec.ofNat 64 (no / 2 ^ (w * i) % 2 ^ w))
  | 0, no, i, h => by omega
  | v + 1, no, 0, h => by simp [digs]
  | v + 1, no, i + 1, h => by
    simp only [digs, List.getElem?_cons_succ]
    rw [digs_get (by omega), Nat.div_div_eq_div_mul, ← Nat.pow_add, Nat.mul_succ, Nat.add_comm (w * i) w]
theorem digs_take {w v no i : Nat} (h : i < v) : (digs w v no).take i ++ [BitVec.ofNat 64 (no / 2 ^ (w * i) % 2 ^ w)] = (digs w v no).take (i + 1) := by
  have hl : i < (digs w v no).length := by rw [digs_length]; exact h
  have e := digs_get (w := w) (no := no) h
  rw [List.getElem?_eq_getElem hl] at e
  injection e with e
  rw [List.take_succ_eq_append_getElem hl, e]

/-! ### The functions -/
theorem wordsS_loop {k : Nat} (hk : 100 ≤ k) (wide : Int) (l : List W) (hl : l.length ≤ 1000000) : ∀ (n i : Nat), l.length - i < n → i ≤ l.length → L22_1 k n wide (encW l) (l.length : Int) (i : Int) = r22 ((l.drop i).all (goodW wide))
  | 0, i, h, hi => by omega
  | n + 1, i, h, hi => by
    rw [sL22_1]
    by_cases hlt : i < l.length
    · have hd : decide ((i : Int) < (l.length : Int)) = true := by simpa using hlt
      rw [hd, lookP_nat, encW_get, List.getElem?_eq_getElem hlt]
      simp only [cond_true, Option.map_some, Option.bind_some, int_atInt, goodWordS_ok (show 80 ≤ k by omega), R48_r]
      rw [drop_cons hlt, List.all_cons]
      cases hne : goodW wide l[i]
      · rfl
      · simp only [Bool.not_true, cond_false, Bool.true_and]
        rw [i64_id (by omega) (by omega)]
        exact wordsS_loop hk wide l hl n (i + 1) (by omega) (by omega)
    · have hd : decide ((i : Int) < (l.length : Int)) = false := by simpa using hlt
      rw [hd, List.drop_eq_nil_of_le (by omega)]
      rfl
theorem words_ok {k : Nat} (hk : 1000100 ≤ k) (wide : Int) (l : List W) (hl : l.length ≤ 1000000) : c22 k wide (encW l) = r22 (l.all (goodW wide)) := by
  obtain ⟨k, rfl⟩ : ∃ j, k = j + 1 := ⟨k - 1, by omega⟩
  rw [n22, encW_length]
  exact wordsS_loop (by omega) wide l hl k 0 (by omega) (by omega)
def stOK (p : Prg) (s : List W) : Bool := decide ((s.length : Int) = p.vars) && s.all (goodW p.wide)
def smallP (p : Prg) : Bool := goodP p && decide (p.wide * p.vars ≤ 5)
theorem fit_mul {p : Prg} (hp : FitP p) : IntKind.i64.wrap (p.wide * p.vars) = p.wide * p.vars ∧ 0 ≤ p.wide * p.vars ∧ p.wide * p.vars ≤ 320 := by
  have h1 := hp.w
  have h2 := hp.v
  have h3 : p.wide * p.vars ≤ 64 * p.vars := Int.mul_le_mul_of_nonneg_right h1.2 (by omega)
  have h4 : 0 ≤ p.wide * p.vars := Int.mul_nonneg (by omega) (by omega)
  exact ⟨i64_id (by omega) (by omega), h4, by omega⟩
/-- What is small: width and variables as numbers. -/
theorem small_nat {p : Prg} (h : smallP p = true) : ∃ w v : Nat, p.wide = w ∧ p.vars = v ∧ 1 ≤ w ∧ 1 ≤ v ∧ v ≤ 4 ∧ w * v ≤ 5 ∧ goodP p = true := by
  simp only [smallP, Bool.and_eq_true, decide_eq_true_eq] at h
  obtain ⟨hw, hv⟩ := goodP_size h.1
  have hw' := isW_iff.1 hw
  have hv' := isV_iff.1 hv
  have h2 := h.2
  refine ⟨p.wide.toNat, p.vars.toNat, by omega, by omega, by omega, by omega, by omega, ?_, h.1⟩
  have e1 : p.wide = (p.wide.toNat : Int) := by omega
  have e2 : p.vars = (p.vars.toNat : Int) := by omega
  rw [e1, e2, ← Int.natCast_mul] at h2
  omega
theorem goodW_lt {w : Nat} (hw : w ≤ 64) {a : W} (h : goodW (w : Int) a = true) : a.toNat < 2 ^ w := by
  have h1 := (goodW_iff.1 h).2
  rw [BitVec.le_def] at h1
  have h2 : (mk (w : Int)).toNat = 2 ^ w - 1 := by
    unfold mk
    rw [Int.toNat_natCast]
    exact maskB_toNat hw
  have := Nat.two_pow_pos w
  omega
theorem goodW_of {w : Nat} (h1 : 1 ≤ w) (hw : w ≤ 64) {a : W} (h : a.toNat < 2 ^ w) : goodW (w : Int) a = true := by
  rw [goodW_iff]
  refine ⟨isW_iff.2 (by omega), ?_⟩
  rw [BitVec.le_def]
  have h2 : (mk (w : Int)).toNat = 2 ^ w - 1 := by
    unfold mk
    rw [Int.toNat_natCast]
    exact maskB_toNat hw
  omega
theorem pow5 {n : Nat} (h : n ≤ 5) : 2 ^ n ≤ 32 := Nat.pow_le_pow_right (n := 2) (by omega) h
theorem or_shift {x a n : Nat} (h : x < 2 ^ n) : x ||| (a * 2 ^ n) = x + 2 ^ n * a := by
  rw [← Nat.shiftLeft_eq, Nat.or_comm, ← Nat.shiftLeft_add_eq_or_of_lt h, Nat.shiftLeft_eq, Nat.mul_comm, Nat.add_comm]
end Go.Proofs.Ytocmjgfbcpgaoaa
