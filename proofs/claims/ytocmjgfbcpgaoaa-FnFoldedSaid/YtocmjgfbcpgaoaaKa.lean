/- Words, rows, draws: plain facts that the functions' proofs share. -/
import Derived.Test.YtocmjgfbcpgaoaaDp20
import Derived.IntWalk
set_option linter.unusedVariables false
set_option linter.unusedSimpArgs false
namespace Go.Dp

abbrev W := BitVec 64
def wi (a : W) : Int := (a.toNat : Int)
theorem wi_nonneg (a : W) : 0 ≤ wi a := by unfold wi; omega
theorem wi_lt (a : W) : wi a < 18446744073709551616 := by unfold wi; have := a.isLt; omega
@[simp] theorem wi_ofInt (a : W) : BitVec.ofInt 64 (wi a) = a := by simp [wi]
theorem wrapU (n : Int) : IntKind.u64.wrap n = wi (BitVec.ofInt 64 n) := by
  unfold IntKind.wrap wi
  simp only [IntKind.bits, IntKind.signed, Bool.false_and]
  rw [BitVec.toNat_ofInt]
  simp
  omega
@[simp] theorem wrap_wi (a : W) : IntKind.u64.wrap (wi a) = wi a := by rw [wrapU, wi_ofInt]
theorem wi_inj {a b : W} : wi a = wi b ↔ a = b := by
  constructor
  · intro h; have : BitVec.ofInt 64 (wi a) = BitVec.ofInt 64 (wi b) := by rw [h]
    simpa using this
  · intro h; rw [h]
@[simp] theorem wi_beq (a b : W) : (wi a == wi b) = (a == b) := by
  rw [Bool.eq_iff_iff]; simp [wi_inj]
@[simp] theorem wi_bne (a b : W) : (wi a != wi b) = (a != b) := by simp [bne]
theorem wi_lt_iff {a b : W} : wi a < wi b ↔ a < b := by unfold wi; rw [BitVec.lt_def]; omega
theorem wi_le_iff {a b : W} : wi a ≤ wi b ↔ a ≤ b := by unfold wi; rw [BitVec.le_def]; omega
@[simp] theorem and_wi (a b : W) : bitsOp .and .u64 (wi a) (wi b) = wi (a &&& b) := by
  show IntKind.u64.wrap (((BitVec.ofInt 64 (wi a)) &&& (BitVec.ofInt 64 (wi b))).toNat : Int) = _
  rw [wi_ofInt, wi_ofInt]
  exact wrap_wi _
@[simp] theorem or_wi (a b : W) : bitsOp .or .u64 (wi a) (wi b) = wi (a ||| b) := by
  show IntKind.u64.wrap (((BitVec.ofInt 64 (wi a)) ||| (BitVec.ofInt 64 (wi b))).toNat : Int) = _
  rw [wi_ofInt, wi_ofInt]
  exact wrap_wi _
@[simp] theorem xor_wi (a b : W) : bitsOp .xor .u64 (wi a) (wi b) = wi (a ^^^ b) := by
  show IntKind.u64.wrap (((BitVec.ofInt 64 (wi a)) ^^^ (BitVec.ofInt 64 (wi b))).toNat : Int) = _
  rw [wi_ofInt, wi_ofInt]
  exact wrap_wi _
theorem ofInt_add_wi (a b : W) : BitVec.ofInt 64 (wi a + wi b) = a + b := by rw [BitVec.ofInt_add]; simp
theorem ofInt_mul_wi (a b : W) : BitVec.ofInt 64 (wi a * wi b) = a * b := by rw [BitVec.ofInt_mul]; simp
theorem ofInt_sub_wi (a b : W) : BitVec.ofInt 64 (wi a - wi b) = a - b := by
  have h : wi a = (wi a - wi b) + wi b := by omega
  have h2 : BitVec.ofInt 64 (wi a) = BitVec.ofInt 64 (wi a - wi b) + BitVec.ofInt 64 (wi b) := by rw [← BitVec.ofInt_add, ← h]
  rw [wi_ofInt, wi_ofInt] at h2
  generalize BitVec.ofInt 64 (wi a - wi b) = c at h2 ⊢
  rw [h2, BitVec.add_sub_cancel]
@[simp] theorem add_wi (a b : W) : IntKind.u64.wrap (wi a + wi b) = wi (a + b) := by rw [wrapU, ofInt_add_wi]
@[simp] theorem mul_wi (a b : W) : IntKind.u64.wrap (wi a * wi b) = wi (a * b) := by rw [wrapU, ofInt_mul_wi]
@[simp] theorem sub_wi (a b : W) : IntKind.u64.wrap (wi a - wi b) = wi (a - b) := by rw [wrapU, ofInt_sub_wi]
theorem shl_wi (a : W) {y : Int} (h : 0 ≤ y) : shlI .u64 (wi a) y = wi (a <<< y.toNat) := by
  unfold shlI
  rw [wrapU]
  congr 1
  apply BitVec.eq_of_toNat_eq
  rw [BitVec.toNat_ofInt, BitVec.toNat_shiftLeft, Nat.shiftLeft_eq]
  show ((wi a * 2 ^ (min y.toNat 64)) % ((2 ^ 64 : Nat) : Int)).toNat = _
  have e : (wi a * 2 ^ (min y.toNat 64)) = ((a.toNat * 2 ^ (min y.toNat 64) : Nat) : Int) := by simp [wi]
  rw [e, ← Int.natCast_emod, Int.toNat_natCast]
  rcases Nat.le_total y.toNat 64 with h1 | h1
  · rw [Nat.min_eq_left h1]
  · rw [Nat.min_eq_right h1, Nat.mul_mod_left]
    have : (2 : Nat) ^ y.toNat = 2 ^ 64 * 2 ^ (y.toNat - 64) := by rw [← Nat.pow_add]; congr 1; omega
    rw [this, Nat.mul_comm (2 ^ 64), ← Nat.mul_assoc, Nat.mul_mod_left]
theorem shr_wi (a : W) {y : Int} (h : 0 ≤ y) : shrI .u64 (wi a) y = wi (a >>> y.toNat) := by
  unfold shrI wi
  show Int.fdiv (a.toNat : Int) (2 ^ (min y.toNat 64)) = _
  rw [BitVec.toNat_ushiftRight, Nat.shiftRight_eq_div_pow]
  have e : ((2 : Int) ^ (min y.toNat 64)) = ((2 ^ (min y.toNat 64) : Nat) : Int) := by simp
  rw [e, Int.fdiv_eq_ediv_of_nonneg _ (Int.natCast_nonneg _), ← Int.natCast_ediv]
  congr 1
  rcases Nat.le_total y.toNat 64 with h1 | h1
  · rw [Nat.min_eq_left h1]
  · rw [Nat.min_eq_right h1, Nat.div_eq_of_lt a.isLt]
    refine (Nat.div_eq_of_lt (Nat.lt_of_lt_of_le a.isLt (Nat.pow_le_pow_right (by omega) h1))).symm

theorem i64_id {n : Int} (h1 : -9223372036854775808 ≤ n) (h2 : n ≤ 9223372036854775807) : IntKind.i64.wrap n = n := Go.IntWalk.i64_in n ⟨h1, h2⟩
theorem u64_id {n : Int} (h1 : 0 ≤ n) (h2 : n ≤ 18446744073709551615) : IntKind.u64.wrap n = n := Go.IntWalk.u64_in n ⟨h1, h2⟩

theorem emod_le_self {v n : Int} (hv : 0 ≤ v) (hn : 0 < n) : v % n ≤ v := by
  have h := Int.mul_ediv_add_emod v n
  have h2 : 0 ≤ n * (v / n) := Int.mul_nonneg (by omega) (Int.ediv_nonneg hv (by omega))
  omega
/-! ### Rows -/
theorem lookP_nat (xs : List PV) (i : Nat) : lookP xs (i : Int) = xs[i]? := by simp [lookP]
theorem lookP_int {xs : List PV} {n : Int} (h : 0 ≤ n) : lookP xs n = xs[n.toNat]? := by
  have : decide (0 ≤ n) = true := by simpa using h
  simp [lookP, this]
theorem lookP_neg {xs : List PV} {n : Int} (h : n < 0) : lookP xs n = none := by
  have : decide (0 ≤ n) = false := by simp; omega
  simp [lookP, this]
theorem lookP_ge {xs : List PV} {n : Int} (h0 : 0 ≤ n) (h : n < xs.length) : lookP xs n = some (xs[n.toNat]'(by omega)) := by
  have : decide (0 ≤ n) = true := by simp; omega
  simp [lookP, this]
theorem drop_cons {α : Type} {l : List α} {i : Nat} (h : i < l.length) : l.drop i = l[i] :: l.drop (i + 1) := List.drop_eq_getElem_cons h

/-- A term's node. -/
abbrev Nd := Int × W
def encN (x : Nd) : PV := .agg [.int .i64 x.1, .int .u64 (wi x.2)]
def encT (t : List Nd) : List PV := t.map encN
@[simp] theorem encN_shp (x : Nd) : (encN x).shp 2 = true := rfl
@[simp] theorem encN_op (x : Nd) : (encN x).atInt .i64 0 = some x.1 := rfl
@[simp] theorem encN_n (x : Nd) : (encN x).atInt .u64 1 = some (wi x.2) := rfl
theorem encN_eq (op : Int) (a : W) : PV.agg [.int .i64 op, .int .u64 (wi a)] = encN (op, a) := rfl
@[simp] theorem encT_length (t : List Nd) : (encT t).length = t.length := by simp [encT]
theorem encT_app (t u : List Nd) : encT t ++ encT u = encT (t ++ u) := by simp [encT]
theorem encT_snoc (t : List Nd) (x : Nd) : encT t ++ [encN x] = encT (t ++ [x]) := by simp [encT]
theorem encT_one (x : Nd) : [encN x] = encT [x] := rfl
theorem encT_get (t : List Nd) (i : Nat) : (encT t)[i]? = (t[i]?).map encN := by simp [encT]
theorem encT_take (t : List Nd) (i : Nat) : (encT t).take i = encT (t.take i) := by simp [encT, List.map_take]
theorem lookT {t : List Nd} {i : Nat} (h : i < t.length) : lookP (encT t) (i : Int) = some (encN t[i]) := by rw [lookP_nat, encT_get]; simp [h]
def encTT (l : List (List Nd)) : List PV := l.map fun t => .row 2 0 (encT t)
@[simp] theorem encTT_length (l : List (List Nd)) : (encTT l).length = l.length := by simp [encTT]
theorem encTT_get (l : List (List Nd)) (i : Nat) : (encTT l)[i]? = (l[i]?).map fun t => .row 2 0 (encT t) := by simp [encTT]
theorem encTT_snoc (l : List (List Nd)) (x : List Nd) : encTT l ++ [.row 2 0 (encT x)] = encTT (l ++ [x]) := by simp [encTT]
theorem encTT_take (l : List (List Nd)) (i : Nat) : (encTT l).take i = encTT (l.take i) := by simp [encTT, List.map_take]
@[simp] theorem row_atRow (l : List PV) (sh : Nat) : (PV.row sh 0 l).atRow sh 0 = some l := by simp [PV.atRow, PV.cell, PV.cells, PV.asRow]
def encW (l : List W) : List PV := l.map fun a => .int .u64 (wi a)
@[simp] theorem encW_length (l : List W) : (encW l).length = l.length := by simp [encW]
theorem encW_get (l : List W) (i : Nat) : (encW l)[i]? = (l[i]?).map fun a => .int .u64 (wi a) := by simp [encW]
theorem encW_snoc (l : List W) (x : W) : encW l ++ [.int .u64 (wi x)] = encW (l ++ [x]) := by simp [encW]
theorem encW_take (l : List W) (i : Nat) : (encW l).take i = encW (l.take i) := by simp [encW, List.map_take]
@[simp] theorem int_atInt (k : IntKind) (n : Int) : (PV.int k n).atInt k 0 = some n := by simp [PV.atInt, PV.cell, PV.cells, PV.asInt]
def encZ (l : List Int) : List PV := l.map (PV.int .i64)
@[simp] theorem encZ_length (l : List Int) : (encZ l).length = l.length := by simp [encZ]
theorem encZ_get (l : List Int) (i : Nat) : (encZ l)[i]? = (l[i]?).map (PV.int .i64) := by simp [encZ]
theorem encZ_snoc (l : List Int) (x : Int) : encZ l ++ [.int .i64 x] = encZ (l ++ [x]) := by simp [encZ]
theorem encZ_take (l : List Int) (i : Nat) : (encZ l).take i = encZ (l.take i) := by simp [encZ, List.map_take]
theorem encZ_drop (l : List Int) (i : Nat) : (encZ l).drop i = encZ (l.drop i) := by simp [encZ, List.map_drop]
/-- Bytes. -/
def encB (l : List Nat) : List PV := l.map fun (b : Nat) => PV.int .u8 (b : Int)
@[simp] theorem encB_length (l : List Nat) : (encB l).length = l.length := by simp [encB]
theorem encB_get (l : List Nat) (i : Nat) : (encB l)[i]? = (l[i]?).map fun (b : Nat) => PV.int .u8 (b : Int) := by simp [encB]
end Go.Dp
namespace Go.Dp
theorem lim_ok {n c : Nat} (h : n ≤ 100000000) (hc : c ≤ 1000) : (decide (n * c ≤ LIM) && decide (n ≤ LIM)) = true := by
  have h1 : n * c ≤ 100000000 * 1000 := Nat.mul_le_mul h hc
  have h2 : n * c ≤ LIM := Nat.le_trans h1 (by decide)
  have h3 : n ≤ LIM := Nat.le_trans h (by decide)
  simp [h2, h3]
theorem take1 {α : Type} (l : List α) (x : α) : ((l.take l.length) ++ [x]).take (l.length + 1) = l ++ [x] := by
  rw [List.take_length]
  exact List.take_of_length_le (by simp)
theorem take2 {α : Type} (l m : List α) (x : α) : ((((l.take l.length) ++ (m.take m.length)).take (l.length + ((m.take m.length).length))) ++ [x]).take ((l.length + ((m.take m.length).length)) + 1) = l ++ m ++ [x] := by
  simp only [List.take_length]
  rw [List.take_of_length_le (by simp), List.take_of_length_le (by simp)]
theorem takeAll {α : Type} (l : List α) : l.take l.length = l := List.take_length
end Go.Dp
