/- Good terms: what they are, and that both texts find them so. -/
import Derived.Test.YtocmjgfbcpgaoaaKb
set_option linter.unusedVariables false
set_option linter.unusedSimpArgs false
set_option maxRecDepth 4000
namespace Go.Proofs.Ytocmjgfbcpgaoaa
open Go.Dp

theorem maskB_toNat {n : Nat} (hn : n ≤ 64) : (maskB n).toNat = 2 ^ n - 1 := by
  unfold maskB
  rw [BitVec.toNat_ushiftRight, BitVec.toNat_allOnes, Nat.shiftRight_eq_div_pow]
  have h1 : (2 : Nat) ^ 64 = 2 ^ n * 2 ^ (64 - n) := by rw [← Nat.pow_add]; congr 1; omega
  have h2 : 1 ≤ (2 : Nat) ^ (64 - n) := Nat.one_le_two_pow
  have h3 : 1 ≤ (2 : Nat) ^ n := Nat.one_le_two_pow
  have h4 : (2 : Nat) ^ 64 - 1 = (2 ^ (64 - n) - 1) + 2 ^ (64 - n) * (2 ^ n - 1) := by
    rw [h1, Nat.mul_sub, Nat.mul_comm (2 ^ (64 - n)) (2 ^ n)]
    have : 2 ^ (64 - n) ≤ 2 ^ n * 2 ^ (64 - n) := Nat.le_mul_of_pos_left _ (by omega)
    omega
  rw [h4, Nat.add_mul_div_left _ _ (by omega), Nat.div_eq_of_lt (by omega), Nat.zero_add]
theorem cut_eq_iff {n : Nat} (hn : n ≤ 64) (a : W) : a &&& maskB n = a ↔ a ≤ maskB n := by
  rw [BitVec.le_def, maskB_toNat hn]
  have h3 : 1 ≤ (2 : Nat) ^ n := Nat.one_le_two_pow
  constructor
  · intro h
    have : a.toNat = (a &&& maskB n).toNat := by rw [h]
    rw [BitVec.toNat_and, maskB_toNat hn, Nat.and_two_pow_sub_one_eq_mod] at this
    have := Nat.mod_lt a.toNat (show 0 < 2 ^ n by omega)
    omega
  · intro h
    apply BitVec.eq_of_toNat_eq
    rw [BitVec.toNat_and, maskB_toNat hn, Nat.and_two_pow_sub_one_eq_mod, Nat.mod_eq_of_lt (by omega)]
theorem cut_le {n : Nat} (hn : n ≤ 64) (a : W) : a &&& maskB n ≤ maskB n := by
  rw [BitVec.le_def, BitVec.toNat_and]
  exact Nat.and_le_right
def isW (n : Int) : Bool := decide (1 ≤ n) && decide (n ≤ 64)
theorem isW_iff {n : Int} : isW n = true ↔ 1 ≤ n ∧ n ≤ 64 := by simp [isW]
theorem isWide_ok {k : Nat} (hk : 1 ≤ k) (n : Int) : c36 k n = r36 (isW n) := by
  obtain ⟨k, rfl⟩ : ∃ j, k = j + 1 := ⟨k - 1, by omega⟩
  rw [n36]
  by_cases h : 1 ≤ n <;> simp [isW, h]
def isV (n : Int) : Bool := decide (1 ≤ n) && decide (n ≤ 4)
theorem isV_iff {n : Int} : isV n = true ↔ 1 ≤ n ∧ n ≤ 4 := by simp [isV]
theorem isVars_ok {k : Nat} (hk : 1 ≤ k) (n : Int) : c37 k n = r37 (isV n) := by
  obtain ⟨k, rfl⟩ : ∃ j, k = j + 1 := ⟨k - 1, by omega⟩
  rw [n37]
  by_cases h : 1 ≤ n <;> simp [isV, h]
theorem in_ok {k : Nat} (hk : 1 ≤ k) (n lo hi : Int) : c66 k n lo hi = r66 (decide (lo ≤ n) && decide (n ≤ hi)) := by
  obtain ⟨k, rfl⟩ : ∃ j, k = j + 1 := ⟨k - 1, by omega⟩
  rw [n66]
  by_cases h : lo ≤ n <;> simp [h]
theorem wideS_ok {k : Nat} (hk : 2 ≤ k) (n : Int) : c65 k n = r65 (isW n) := by
  obtain ⟨k, rfl⟩ : ∃ j, k = j + 1 := ⟨k - 1, by omega⟩
  rw [n65, in_ok (by omega)]
  simp only [R66_r]
  rfl
def goodW (wide : Int) (a : W) : Bool := isW wide && decide (a ≤ maskB wide.toNat)
theorem goodWord_ok {k : Nat} (hk : 2 ≤ k) (wide : Int) (a : W) : c40 k wide (wi a) = r40 (goodW wide a) := by
  obtain ⟨k, rfl⟩ : ∃ j, k = j + 1 := ⟨k - 1, by omega⟩
  rw [n40, isWide_ok (by omega)]
  simp only [R36_r]
  cases h : isW wide
  · simp [goodW, h]
  · have h' := isW_iff.1 h
    rw [mask_ok (by omega) (by omega) (by omega)]
    simp only [cond_true, R45_r, wi_le_iff]
    simp [goodW, h]
theorem goodWordS_ok {k : Nat} (hk : 80 ≤ k) (wide : Int) (a : W) : c48 k wide (wi a) = r48 (goodW wide a) := by
  obtain ⟨k, rfl⟩ : ∃ j, k = j + 1 := ⟨k - 1, by omega⟩
  rw [n48, wideS_ok (by omega)]
  simp only [R65_r]
  cases h : isW wide
  · simp [goodW, h]
  · have h' := isW_iff.1 h
    rw [cut_ok (by omega) (by omega) (by omega)]
    simp only [cond_true, R50_r, wi_beq]
    congr 1
    have := cut_eq_iff (n := wide.toNat) (by omega) a
    simp only [goodW, h, Bool.true_and]
    rw [Bool.eq_iff_iff]
    simp [this]

/-! ### Ops -/
def need (op : Int) : Nat × Int × Int :=
  if op = 1 ∨ op = 2 then (0, 1, 1) else if op = 20 then (0, 2, 2) else if op = 13 then (1, 1, 1) else if op = 19 then (1, 2, 2)
  else if 3 ≤ op ∧ op ≤ 12 then (2, 1, 1) else if 14 ≤ op ∧ op ≤ 16 then (2, 1, 2) else if op = 17 ∨ op = 18 then (2, 2, 2) else (0, 0, 0)
def needI (op : Int) : Int := if (need op).1 = 0 then 0 else (need op).2.1
theorem need_le (op : Int) : (need op).1 ≤ 2 := by
  unfold need
  repeat' split
  all_goals simp
theorem operandsOf_ok {k : Nat} (hk : 1 ≤ k) (op : Int) : c41 k op = r41 (need op).1 (needI op) (need op).2.2 := by
  obtain ⟨k, rfl⟩ : ∃ j, k = j + 1 := ⟨k - 1, by omega⟩
  rw [n41]
  unfold needI need
  by_cases h1 : op = 1
  · subst h1; rfl
  by_cases h2 : op = 2
  · subst h2; rfl
  by_cases h3 : op = 20
  · subst h3; rfl
  by_cases h4 : op = 13
  · subst h4; rfl
  by_cases h5 : op = 19
  · subst h5; rfl
  by_cases h6 : op = 17
  · subst h6; rfl
  by_cases h7 : op = 18
  · subst h7; rfl
  have e1 : (op == 1) = false := by simpa using h1
  have e2 : (op == 2) = false := by simpa using h2
  have e3 : (op == 20) = false := by simpa using h3
  have e4 : (op == 13) = false := by simpa using h4
  have e5 : (op == 19) = false := by simpa using h5
  have e6 : (op == 17) = false := by simpa using h6
  have e7 : (op == 18) = false := by simpa using h7
  simp only [e1, e2, e3, e4, e5, e6, e7, cond_false, h1, h2, h3, h4, h5, h6, h7, or_self, if_false]
  by_cases a1 : 3 ≤ op
  · by_cases a2 : op ≤ 12
    · simp [a1, a2]
    · by_cases a3 : 14 ≤ op
      · by_cases a4 : op ≤ 16
        · simp [a1, a2, a3, a4]
        · simp [a1, a2, a3, a4]
      · simp [a1, a2, a3]
  · have a3 : ¬ 14 ≤ op := by omega
    simp [a1, a3]
theorem needS_ok {k : Nat} (hk : 2 ≤ k) (op : Int) : c49 k op = r49 (need op).1 (need op).2.1 (need op).2.2 := by
  obtain ⟨k, rfl⟩ : ∃ j, k = j + 1 := ⟨k - 1, by omega⟩
  rw [n49]
  unfold need
  by_cases h1 : op = 1
  · subst h1; rfl
  by_cases h2 : op = 2
  · subst h2; rfl
  by_cases h3 : op = 20
  · subst h3; rfl
  by_cases h4 : op = 13
  · subst h4; rfl
  by_cases h5 : op = 19
  · subst h5; rfl
  have e1 : (op == 1) = false := by simpa using h1
  have e2 : (op == 2) = false := by simpa using h2
  have e3 : (op == 20) = false := by simpa using h3
  have e4 : (op == 13) = false := by simpa using h4
  have e5 : (op == 19) = false := by simpa using h5
  simp only [e1, e2, e3, e4, e5, cond_false, h1, h2, h3, h4, h5, or_self, if_false, in_ok (show 1 ≤ k by omega), R66_r]
  by_cases a1 : 3 ≤ op ∧ op ≤ 12
  · simp [a1]
  · have b1 : (decide (3 ≤ op) && decide (op ≤ 12)) = false := by simp; omega
    simp only [b1, cond_false, a1, if_false]
    by_cases a2 : 14 ≤ op ∧ op ≤ 16
    · simp [a2]
    · have b2 : (decide (14 ≤ op) && decide (op ≤ 16)) = false := by simp; omega
      simp only [b2, cond_false, a2, if_false]
      by_cases h6 : op = 17
      · subst h6; rfl
      by_cases h7 : op = 18
      · subst h7; rfl
      have e6 : (op == 17) = false := by simpa using h6
      have e7 : (op == 18) = false := by simpa using h7
      simp [e6, e7, h6, h7]
def leafOK (wide vars : Int) (x : Nd) : Bool :=
  if x.1 = 1 then goodW wide x.2 else if x.1 = 2 then decide (wi x.2 < IntKind.u64.wrap vars) else if x.1 = 20 then decide (wi x.2 ≤ 1) else decide (x.2 = 0#64)
theorem isLeafRight_ok {k : Nat} (hk : 3 ≤ k) (wide vars : Int) (x : Nd) : c42 k wide vars x.1 (wi x.2) = r42 (leafOK wide vars x) := by
  obtain ⟨k, rfl⟩ : ∃ j, k = j + 1 := ⟨k - 1, by omega⟩
  rw [n42]
  unfold leafOK
  by_cases h1 : x.1 = 1
  · simp [h1, goodWord_ok (show 2 ≤ k by omega)]
  by_cases h2 : x.1 = 2
  · simp [h2]
  by_cases h3 : x.1 = 20
  · simp [h3]
  have e : (wi x.2 == 0) = decide (x.2 = 0#64) := by
    have : (0 : Int) = wi 0#64 := rfl
    rw [this, wi_beq]; rfl
  have e1 : (x.1 == 1) = false := by simpa using h1
  have e2 : (x.1 == 2) = false := by simpa using h2
  have e3 : (x.1 == 20) = false := by simpa using h3
  simp [h1, h2, h3, e, e1, e2, e3]
theorem l2N_ok {k : Nat} (hk : 81 ≤ k) (wide vars : Int) (x : Nd) : c67 k wide vars x.1 (wi x.2) = r67 (leafOK wide vars x) := by
  obtain ⟨k, rfl⟩ : ∃ j, k = j + 1 := ⟨k - 1, by omega⟩
  rw [n67]
  unfold leafOK
  by_cases h1 : x.1 = 1
  · simp [h1, goodWordS_ok (show 80 ≤ k by omega)]
  by_cases h2 : x.1 = 2
  · simp [h2]
  by_cases h3 : x.1 = 20
  · have : decide (wi x.2 < 2) = decide (wi x.2 ≤ 1) := by rw [Bool.eq_iff_iff]; simp; omega
    simp [h3, this]
  have e : (wi x.2 == 0) = decide (x.2 = 0#64) := by
    have : (0 : Int) = wi 0#64 := rfl
    rw [this, wi_beq]; rfl
  have e1 : (x.1 == 1) = false := by simpa using h1
  have e2 : (x.1 == 2) = false := by simpa using h2
  have e3 : (x.1 == 20) = false := by simpa using h3
  simp [h1, h2, h3, e, e1, e2, e3]
end Go.Proofs.Ytocmjgfbcpgaoaa
