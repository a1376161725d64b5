/- The draws: next, pick, one, among; cutting a word. -/
import Derived.Test.YtocmjgfbcpgaoaaKa
import Derived.Test.YtocmjgfbcpgaoaaNf0
import Derived.Test.YtocmjgfbcpgaoaaNf1
import Derived.Test.YtocmjgfbcpgaoaaNf2
import Derived.Test.YtocmjgfbcpgaoaaNf3
set_option linter.unusedVariables false
set_option linter.unusedSimpArgs false
set_option maxRecDepth 4000
namespace Go.Proofs.Ytocmjgfbcpgaoaa
open Go.Dp

structure CodeOK (bs : List Nat) : Prop where
  len : bs.length ≤ 1048576
  lt : ∀ b ∈ bs, b < 256
theorem and255 (x : Int) : 0 ≤ bitsOp .and .u64 x 255 ∧ bitsOp .and .u64 x 255 ≤ 255 := by
  have e : bitsOp .and .u64 x 255 = wi (BitVec.ofInt 64 x &&& 255#64) := by
    show IntKind.u64.wrap (((BitVec.ofInt 64 x) &&& (BitVec.ofInt 64 255)).toNat : Int) = _
    exact wrap_wi _
  rw [e]
  refine ⟨wi_nonneg _, ?_⟩
  unfold wi
  rw [BitVec.toNat_and]
  have := Nat.and_le_right (n := (BitVec.ofInt 64 x).toNat) (m := (255#64).toNat)
  have h2 : (255#64).toNat = 255 := rfl
  omega
theorem next_ok {bs : List Nat} (hc : CodeOK bs) {k : Nat} (hk : 1 ≤ k) {at' : Int} (h0 : 0 ≤ at') (h1 : at' ≤ 1000000000) (s : W) :
    ∃ s2 v, c57 k (encB bs) at' (wi s) = r57 (encB bs) (at' + 1) (wi s2) v ∧ 0 ≤ v ∧ v ≤ 255 := by
  obtain ⟨k, rfl⟩ : ∃ j, k = j + 1 := ⟨k - 1, by omega⟩
  rw [n57, i64_id (n := at' + 1) (by omega) (by omega)]
  simp only [wrapU]
  have hl := hc.len
  cases hd : decide (at' < ((encB bs).length : Int))
  · simp only [cond_false]
    cases hd2 : decide (at' + 1 ≤ ((encB bs).length : Int))
    · simp only [cond_false]
      have h3 := and255 (shrI .u64 (wi (BitVec.ofInt 64 (wi (BitVec.ofInt 64 (wi (BitVec.ofInt 64 (wi s * 6364136223846793005)) + 0)) + 1442695040888963407))) 40)
      exact ⟨_, _, rfl, by rw [i64_id (by omega) (by omega)]; exact h3⟩
    · simp only [cond_true]
      exact ⟨_, _, rfl, by omega, by omega⟩
  · simp only [cond_true]
    simp only [encB_length, decide_eq_true_eq] at hd
    have hlt : at'.toNat < bs.length := by omega
    have hlk : lookP (encB bs) at' = some (.int .u8 (bs[at'.toNat] : Int)) := by
      rw [lookP_int h0, encB_get]
      simp [hlt]
    have hb := hc.lt bs[at'.toNat] (List.getElem_mem hlt)
    rw [hlk]
    simp only [Option.bind_some, int_atInt]
    rw [i64_id (n := (bs[at'.toNat] : Int)) (by omega) (by omega)]
    cases hd2 : decide (at' + 1 ≤ ((encB bs).length : Int))
    · simp only [cond_false]
      have h3 := and255 (shrI .u64 (wi (BitVec.ofInt 64 (wi (BitVec.ofInt 64 (wi (BitVec.ofInt 64 (wi s * 6364136223846793005)) + wi (BitVec.ofInt 64 (bs[at'.toNat] : Int)))) + 1442695040888963407))) 40)
      exact ⟨_, _, rfl, by rw [i64_id (by omega) (by omega)]; exact h3⟩
    · simp only [cond_true]
      exact ⟨_, _, rfl, by omega, by omega⟩
theorem pick_ok {bs : List Nat} (hc : CodeOK bs) {k : Nat} (hk : 2 ≤ k) {at' : Int} (h0 : 0 ≤ at') (h1 : at' ≤ 999999000) (s : W) (n : Int) :
    ∃ a2 s2 v, c31 k n (encB bs) at' (wi s) = r31 (encB bs) a2 (wi s2) v ∧ at' ≤ a2 ∧ a2 ≤ at' + 2 ∧ 0 ≤ v ∧ (1 ≤ n → v < n) ∧ (n ≤ 1 → v = 0) ∧ v ≤ 65535 := by
  obtain ⟨k, rfl⟩ : ∃ j, k = j + 1 := ⟨k - 1, by omega⟩
  rw [n31]
  cases hd : decide (n ≤ 1)
  · simp only [cond_false]
    simp at hd
    obtain ⟨s2, v, h, hv0, hv1⟩ := next_ok hc (k := k) (by omega) h0 (by omega) s
    rw [h]
    simp only [R57_r]
    have hn0 : (n == 0) = false := by simp; omega
    cases hd2 : decide (n > 200)
    · simp only [cond_false, hn0, Bool.not_false, cond_true]
      have h5 := Int.tmod_lt_of_pos v (b := n) (by omega)
      have h6 := Int.tmod_nonneg n hv0
      have h7 : v.tmod n ≤ v := by rw [Int.tmod_eq_emod_of_nonneg hv0]; exact emod_le_self hv0 (by omega)
      exact ⟨_, _, _, rfl, by omega, by omega, h6, fun _ => h5, by omega, by omega⟩
    · simp only [cond_true, hn0, Bool.not_false]
      obtain ⟨s3, v3, h3, hv2, hv3⟩ := next_ok hc (k := k) (by omega) (at' := at' + 1) (by omega) (by omega) s2
      rw [h3]
      simp only [R57_r, cond_true]
      rw [i64_id (n := v * 256) (by omega) (by omega), i64_id (n := v * 256 + v3) (by omega) (by omega)]
      have h5 := Int.tmod_lt_of_pos (v * 256 + v3) (b := n) (by omega)
      have h6 := Int.tmod_nonneg n (a := v * 256 + v3) (by omega)
      have h7 : (v * 256 + v3).tmod n ≤ v * 256 + v3 := by rw [Int.tmod_eq_emod_of_nonneg (by omega)]; exact emod_le_self (by omega) (by omega)
      exact ⟨_, _, _, rfl, by omega, by omega, h6, fun _ => h5, by omega, by omega⟩
  · simp only [cond_true]
    simp at hd
    exact ⟨_, _, _, rfl, by omega, by omega, by omega, by omega, fun _ => rfl, by omega⟩
theorem one_ok {bs : List Nat} (hc : CodeOK bs) {k : Nat} (hk : 3 ≤ k) {at' : Int} (h0 : 0 ≤ at') (h1 : at' ≤ 999999000) (s : W) (n : Int) :
    ∃ a2 s2 b, c33 k n (encB bs) at' (wi s) = r33 (encB bs) a2 (wi s2) b ∧ at' ≤ a2 ∧ a2 ≤ at' + 2 := by
  obtain ⟨k, rfl⟩ : ∃ j, k = j + 1 := ⟨k - 1, by omega⟩
  obtain ⟨a2, s2, v, h, h2, h3, _⟩ := pick_ok hc (k := k) (by omega) h0 h1 s n
  rw [n33, h]
  simp only [R31_r]
  exact ⟨_, _, _, rfl, h2, h3⟩
theorem among_ok {bs : List Nat} (hc : CodeOK bs) {k : Nat} (hk : 3 ≤ k) {at' : Int} (h0 : 0 ≤ at') (h1 : at' ≤ 999999000) (s : W) (L : List Int) (hL : 1 ≤ L.length) :
    ∃ a2 s2 v, c30 k (encZ L) (encB bs) at' (wi s) = r30 (encB bs) a2 (wi s2) v ∧ at' ≤ a2 ∧ a2 ≤ at' + 2 ∧ v ∈ L := by
  obtain ⟨k, rfl⟩ : ∃ j, k = j + 1 := ⟨k - 1, by omega⟩
  obtain ⟨a2, s2, v, h, h2, h3, h4, h5, _⟩ := pick_ok hc (k := k) (by omega) h0 h1 s (L.length : Int)
  rw [n30, encZ_length, h]
  simp only [R31_r]
  have hv := h5 (by omega)
  have hlt : v.toNat < L.length := by omega
  have e : v = (v.toNat : Int) := by omega
  have hlk : lookP (encZ L) v = some (.int .i64 L[v.toNat]) := by
    rw [lookP_int h4, encZ_get]
    simp [hlt]
  rw [hlk]
  simp only [Option.bind_some, int_atInt]
  exact ⟨_, _, _, rfl, h2, h3, List.getElem_mem hlt⟩

/-! ### Cutting a word -/
def maskB (n : Nat) : W := BitVec.allOnes 64 >>> (64 - n)
theorem maskB_lsb {n : Nat} (hn : n ≤ 64) (i : Nat) : (maskB n).getLsbD i = decide (i < n) := by
  unfold maskB
  rw [BitVec.getLsbD_ushiftRight, BitVec.getLsbD_allOnes]
  by_cases h : i < n <;> simp <;> omega
theorem mask_ok {k : Nat} (hk : 1 ≤ k) {wide : Int} (h1 : 0 ≤ wide) (h2 : wide ≤ 64) : c45 k wide = r45 (wi (maskB wide.toNat)) := by
  obtain ⟨k, rfl⟩ : ∃ j, k = j + 1 := ⟨k - 1, by omega⟩
  rw [n45, i64_id (by omega) (by omega)]
  have hd : decide (64 - wide < 0) = false := by simp; omega
  simp only [hd, Bool.not_false, cond_true]
  have e : (18446744073709551615 : Int) = wi (BitVec.allOnes 64) := rfl
  rw [e, shr_wi _ (by omega)]
  have : (64 - wide).toNat = 64 - wide.toNat := by omega
  rw [this]
  rfl
theorem cut_step (a : W) (j : Nat) (hj : j < 64) : (a &&& maskB j) ||| (a &&& (1#64 <<< j)) = a &&& maskB (j + 1) := by
  apply BitVec.eq_of_getLsbD_eq
  intro i hi
  rw [BitVec.getLsbD_or, BitVec.getLsbD_and, BitVec.getLsbD_and, BitVec.getLsbD_and, maskB_lsb (by omega), maskB_lsb (by omega)]
  rw [BitVec.getLsbD_shiftLeft, BitVec.getLsbD_one]
  by_cases h1 : i < j
  · have : i < j + 1 := by omega
    simp [h1, this]
  · by_cases h2 : i = j
    · subst h2; simp; omega
    · have h3 : ¬ i < j + 1 := by omega
      have h4 : ¬ (i - j = 0) := by omega
      simp [h1, h3, h4]
theorem cutloop {wide : Int} (h2 : wide ≤ 64) (a : W) (k : Nat) : ∀ (m n : Nat) (j : Nat), (wide - j).toNat ≤ m → m < n → (j : Int) ≤ wide → L50_1 k n wide (wi a) (wi (a &&& maskB j)) (j : Int) = r50 (wi (a &&& maskB wide.toNat))
  | m, 0, j, hm, hn, hj => by omega
  | m, n + 1, j, hm, hn, hj => by
    rw [sL50_1]
    by_cases h : (j : Int) < wide
    · have hd : decide ((j : Int) < wide) = true := by simpa using h
      rw [u64_id (n := (j : Int)) (by omega) (by omega)]
      have hd2 : decide ((j : Int) < 0) = false := by simp
      have e1 : (1 : Int) = wi (1#64) := rfl
      simp only [hd, hd2, cond_true, Bool.not_false]
      rw [e1, shl_wi _ (by omega), and_wi, or_wi, ← e1, Int.toNat_natCast, cut_step a j (by omega), i64_id (by omega) (by omega)]
      have e2 : (j : Int) + 1 = ((j + 1 : Nat) : Int) := by omega
      rw [e2]
      cases m with
      | zero => omega
      | succ m => exact cutloop h2 a k m n (j + 1) (by omega) (by omega) (by omega)
    · have hd : decide ((j : Int) < wide) = false := by simpa using h
      simp only [hd, cond_false]
      have : wide.toNat = j := by omega
      rw [this]
theorem cut_ok {k : Nat} (hk : 70 ≤ k) {wide : Int} (h1 : 0 ≤ wide) (h2 : wide ≤ 64) (a : W) : c50 k wide (wi a) = r50 (wi (a &&& maskB wide.toNat)) := by
  obtain ⟨k, rfl⟩ : ∃ j, k = j + 1 := ⟨k - 1, by omega⟩
  rw [n50]
  have e0 : (0 : Int) = wi (a &&& maskB 0) := by
    have : maskB 0 = 0#64 := by rfl
    rw [this]; simp [wi]
  have := cutloop h2 a k wide.toNat k 0 (by omega) (by omega) (by omega)
  rw [← e0] at this
  exact this
end Go.Proofs.Ytocmjgfbcpgaoaa
