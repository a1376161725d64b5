/- The reference's values of terms: by the tree of a node. -/
import Derived.Test.YtocmjgfbcpgaoaaKj
import Derived.Test.YtocmjgfbcpgaoaaKk
set_option linter.unusedVariables false
set_option linter.unusedSimpArgs false
set_option maxRecDepth 4000
namespace Go.Proofs.Ytocmjgfbcpgaoaa
open Go.Dp

/-! ### Words -/
theorem mk_cut {wide : Int} (hw : isW wide = true) {a : W} (h : a ≤ mk wide) : a &&& mk wide = a := by
  have h' := isW_iff.1 hw
  exact (cut_eq_iff (by omega) a).2 h
theorem le_of_cut {wide : Int} (hw : isW wide = true) {a : W} (h : a &&& mk wide = a) : a ≤ mk wide := by
  have h' := isW_iff.1 hw
  exact (cut_eq_iff (by omega) a).1 h
theorem bit_mk {wide : Int} (hw : isW wide = true) (i : Nat) : (mk wide).getLsbD i = decide (i < wide.toNat) := by
  have h' := isW_iff.1 hw
  exact maskB_lsb (by omega) i
theorem or_cut {wide : Int} (hw : isW wide = true) {a b : W} (ha : a ≤ mk wide) (hb : b ≤ mk wide) : (a ||| b) &&& mk wide = a ||| b := by
  have h1 := mk_cut hw ha
  have h2 := mk_cut hw hb
  rw [BitVec.and_comm, BitVec.and_or_distrib_left, BitVec.and_comm _ a, BitVec.and_comm _ b, h1, h2]
theorem xor_cut {wide : Int} (hw : isW wide = true) {a b : W} (ha : a ≤ mk wide) (hb : b ≤ mk wide) : (a ^^^ b) &&& mk wide = a ^^^ b := by
  have h1 := mk_cut hw ha
  have h2 := mk_cut hw hb
  apply BitVec.eq_of_getLsbD_eq
  intro i hi
  have b1 := congrArg (fun x => x.getLsbD i) h1
  have b2 := congrArg (fun x => x.getLsbD i) h2
  simp only [BitVec.getLsbD_and, BitVec.getLsbD_xor] at b1 b2 ⊢
  revert b1 b2
  cases a.getLsbD i <;> cases b.getLsbD i <;> cases (mk wide).getLsbD i <;> simp
theorem shl_step {wide : Int} (hw : isW wide = true) (a : W) (j : Nat) : (((a <<< 1) &&& mk wide) <<< j) &&& mk wide = (a <<< (j + 1)) &&& mk wide := by
  apply BitVec.eq_of_getLsbD_eq
  intro i hi
  simp only [BitVec.getLsbD_and, BitVec.getLsbD_shiftLeft, bit_mk hw]
  by_cases h1 : i < wide.toNat
  · by_cases h2 : i < j
    · have : i < j + 1 := by omega
      simp [h2, this]
    · by_cases h3 : i = j
      · subst h3
        simp
      · have e1 : i - j - 1 = i - (j + 1) := by omega
        have h4 : ¬ i < j + 1 := by omega
        have h5 : ¬ i - j < 1 := by omega
        have h6 : i - j < wide.toNat := by omega
        have h7 : i - j < 64 := by omega
        simp [h1, h2, h4, h5, h6, h7, hi, e1]
  · simp [h1]
theorem cut_idem {wide : Int} (hw : isW wide = true) (a : W) : (a &&& mk wide) &&& mk wide = a &&& mk wide := by rw [BitVec.and_assoc, BitVec.and_self]
/-- The signed value of a word. -/
def sg (wide : Int) (a : W) : Int := if a.toNat < 2 ^ (wide.toNat - 1) then (a.toNat : Int) else (a.toNat : Int) - 2 ^ wide.toNat
theorem wrap_hi {x : Int} (h1 : 9223372036854775808 ≤ x) (h2 : x < 18446744073709551616) : IntKind.i64.wrap x = x - 18446744073709551616 := by
  unfold IntKind.wrap
  simp [IntKind.signed, IntKind.bits]
  omega
theorem mk_toNat {wide : Int} (hw : isW wide = true) : (mk wide).toNat = 2 ^ wide.toNat - 1 := by
  have h' := isW_iff.1 hw
  exact maskB_toNat (by omega)
theorem word_lt {wide : Int} (hw : isW wide = true) {a : W} (ha : a ≤ mk wide) : a.toNat < 2 ^ wide.toNat := by
  have h1 := mk_toNat hw
  rw [BitVec.le_def] at ha
  have := Nat.two_pow_pos wide.toNat
  omega
theorem pow_parts {wide : Int} (hw : isW wide = true) : ∃ w : Nat, wide = ((w + 1 : Nat) : Int) ∧ w ≤ 63 ∧ wide.toNat = w + 1 ∧ wide.toNat - 1 = w := by
  have h' := isW_iff.1 hw
  exact ⟨wide.toNat - 1, by omega, by omega, by omega, rfl⟩
theorem sgn_sg {wide : Int} (hw : isW wide = true) {a : W} (ha : a ≤ mk wide) : sgn wide a = sg wide a := by
  have hlt := word_lt hw ha
  obtain ⟨w, rfl, hw63, e1, e2⟩ := pow_parts hw
  unfold sgn sg
  rw [e2, e1] at *
  have hd : (64 - ((w + 1 : Nat) : Int)).toNat = 63 - w := by omega
  have hmul : 2 ^ (w + 1) * 2 ^ (63 - w) = 18446744073709551616 := by rw [← Nat.pow_add, show w + 1 + (63 - w) = 64 by omega]
  have hmul2 : 2 ^ w * 2 ^ (63 - w) = 9223372036854775808 := by rw [← Nat.pow_add, show w + (63 - w) = 63 by omega]
  have hp := Nat.two_pow_pos (63 - w)
  have hb : a.toNat * 2 ^ (63 - w) < 18446744073709551616 := by rw [← hmul]; exact Nat.mul_lt_mul_of_pos_right hlt hp
  have hs : (a <<< (63 - w)).toNat = a.toNat * 2 ^ (63 - w) := by
    rw [BitVec.toNat_shiftLeft, Nat.shiftLeft_eq, Nat.mod_eq_of_lt (by simpa using hb)]
  have hy : min (64 - ((w + 1 : Nat) : Int)).toNat 64 = 63 - w := by omega
  unfold shrI
  rw [hd, show min (63 - w) IntKind.i64.bits = 63 - w from Nat.min_eq_left (by show 63 - w ≤ 64; omega)]
  have hwi : wi (a <<< (63 - w)) = ((a.toNat * 2 ^ (63 - w) : Nat) : Int) := by unfold wi; rw [hs]
  have hpc : (2 : Int) ^ (63 - w) = ((2 ^ (63 - w) : Nat) : Int) := by simp
  rw [hwi, hpc]
  by_cases h : a.toNat < 2 ^ w
  · have hc : a.toNat * 2 ^ (63 - w) < 9223372036854775808 := by rw [← hmul2]; exact Nat.mul_lt_mul_of_pos_right h hp
    rw [if_pos h, i64_id (by omega) (by omega), Int.fdiv_eq_ediv_of_nonneg _ (Int.natCast_nonneg _), ← Int.natCast_ediv, Nat.mul_div_cancel _ hp]
  · have hc : 9223372036854775808 ≤ a.toNat * 2 ^ (63 - w) := by rw [← hmul2]; exact Nat.mul_le_mul_right _ (by omega)
    rw [if_neg h, wrap_hi (by omega) (by omega)]
    have e3 : ((a.toNat * 2 ^ (63 - w) : Nat) : Int) - 18446744073709551616 = ((a.toNat : Int) - ((2 ^ (w + 1) : Nat) : Int)) * ((2 ^ (63 - w) : Nat) : Int) := by
      rw [Int.sub_mul, ← Int.natCast_mul, ← Int.natCast_mul, hmul]
      rfl
    rw [e3, Int.mul_fdiv_cancel _ (by omega)]
    simp
theorem or_hi {wide : Int} (hw : isW wide = true) {a : W} (ha : a ≤ mk wide) : (a ||| ~~~mk wide).toNat = a.toNat + (18446744073709551616 - 2 ^ wide.toNat) := by
  have hz : a &&& ~~~mk wide = 0#64 := by
    have h1 := mk_cut hw ha
    apply BitVec.eq_of_getLsbD_eq
    intro i hi
    have b1 := congrArg (fun x => x.getLsbD i) h1
    simp only [BitVec.getLsbD_and, BitVec.getLsbD_not, hi, decide_true, Bool.true_and] at b1 ⊢
    revert b1
    cases a.getLsbD i <;> cases (mk wide).getLsbD i <;> simp
  rw [← BitVec.add_eq_or_of_and_eq_zero _ _ hz, BitVec.toNat_add, BitVec.toNat_not, mk_toNat hw]
  have h1 := word_lt hw ha
  have h' := isW_iff.1 hw
  have h2 : 2 ^ wide.toNat ≤ 2 ^ 64 := Nat.pow_le_pow_right (by omega) (by omega)
  have h3 := Nat.two_pow_pos wide.toNat
  rw [Nat.mod_eq_of_lt]
  · omega
  · omega
theorem top_bit {wide : Int} (hw : isW wide = true) {a : W} (ha : a ≤ mk wide) : ((a >>> (wide.toNat - 1)) &&& 1#64 == 1#64) = !decide (a.toNat < 2 ^ (wide.toNat - 1)) := by
  have hlt := word_lt hw ha
  obtain ⟨w, rfl, hw63, e1, e2⟩ := pow_parts hw
  rw [e2]
  rw [e1, Nat.pow_succ] at hlt
  have hp := Nat.two_pow_pos w
  have hn : ((a >>> w) &&& 1#64).toNat = a.toNat / 2 ^ w % 2 := by
    rw [BitVec.toNat_and, BitVec.toNat_ushiftRight, Nat.shiftRight_eq_div_pow]
    exact Nat.and_one_is_mod _
  by_cases h : a.toNat < 2 ^ w
  · rw [Nat.div_eq_of_lt h] at hn
    have : (a >>> w) &&& 1#64 ≠ 1#64 := fun e => by rw [e] at hn; simp at hn
    simp [h, this]
  · have hq : a.toNat / 2 ^ w = 1 := by
      apply Nat.div_eq_of_lt_le <;> omega
    rw [hq] at hn
    have : (a >>> w) &&& 1#64 = 1#64 := BitVec.eq_of_toNat_eq hn
    simp [h, this]
/-! ### The reference's functions -/
theorem both_ok {k : Nat} (hk : 90 ≤ k) (wide : Int) (a b : W) : c76 k wide (wi a) (wi b) = r76 (goodW wide a && goodW wide b) := by
  obtain ⟨k, rfl⟩ : ∃ j, k = j + 1 := ⟨k - 1, by omega⟩
  rw [n76, goodWordS_ok (by omega), goodWordS_ok (by omega)]
  simp only [R48_r]
  cases goodW wide a <;> rfl
theorem cutM_ok {k : Nat} (hk : 70 ≤ k) {wide : Int} (hw : isW wide = true) (a : W) : c50 k wide (wi a) = r50 (wi (a &&& mk wide)) := by
  have h' := isW_iff.1 hw
  exact cut_ok hk (by omega) h'.2 a
theorem divS_ok {k : Nat} (hk : 100 ≤ k) {wide : Int} (hw : isW wide = true) (a b : W) : c68 k wide (wi a) (wi b) = r68 (wi (divW wide a b).1) (wi (divW wide a b).2) (goodW wide a && goodW wide b) := by
  obtain ⟨k, rfl⟩ : ∃ j, k = j + 1 := ⟨k - 1, by omega⟩
  rw [n68, both_ok (by omega)]
  simp only [R76_r]
  unfold divW
  cases h1 : (goodW wide a && goodW wide b)
  · rfl
  · simp only [Bool.not_true, cond_false, if_true]
    by_cases hb : b = 0#64
    · subst hb
      have e : (wi 0#64 == 0) = true := rfl
      have e2 : (18446744073709551615 : Int) = wi (BitVec.allOnes 64) := rfl
      simp only [e, cond_true, if_true]
      rw [e2, cutM_ok (by omega) hw]
      simp only [R50_r]
      rw [BitVec.allOnes_and]
    · have h2 : (wi b == 0) = false := by
        have e : (0 : Int) = wi 0#64 := rfl
        rw [e, wi_beq]; simpa using hb
      simp only [h2, cond_false, cond_true, Bool.not_false, hb, if_false]
      have e1 : (wi a).tdiv (wi b) = wi (a / b) := by
        unfold wi
        rw [Int.tdiv_eq_ediv_of_nonneg (by omega), BitVec.toNat_udiv, Int.natCast_ediv]
      have e2 : (wi a).tmod (wi b) = wi (a % b) := by
        unfold wi
        rw [Int.tmod_eq_emod_of_nonneg (by omega), BitVec.toNat_umod, Int.natCast_emod]
      rw [e1, e2, wrap_wi]
theorem shiftS_loop {k : Nat} (hk : 80 ≤ k) {wide : Int} (hw : isW wide = true) (left : Bool) : ∀ (n j : Nat) (a : W), j < n → j ≤ 64 → a ≤ mk wide → L69_1 k n wide (wi a) (j : Int) left = r69 (wi (if left then (a <<< j) &&& mk wide else a >>> j))
  | 0, j, a, h, hj, ha => by omega
  | n + 1, j, a, h, hj, ha => by
    rw [sL69_1]
    cases j with
    | zero =>
      have hd : decide (((0 : Nat) : Int) > 0) = false := by simp
      rw [hd]
      simp only [cond_false]
      congr 2
      cases left
      · simp
      · simp [mk_cut hw ha]
    | succ j =>
      have hd : decide (((j + 1 : Nat) : Int) > 0) = true := by (simp; try omega)
      rw [hd, u64_id (by omega) (by omega), show ((j + 1 : Nat) : Int) - 1 = (j : Int) by omega]
      simp only [cond_true]
      cases left
      · simp only [cond_false, Bool.false_eq_true, if_false]
        rw [shr_wi _ (by omega)]
        have e1 : (1 : Int).toNat = 1 := rfl
        rw [e1]
        have hle : a >>> 1 ≤ mk wide := by
          refine BitVec.le_trans ?_ ha
          rw [BitVec.le_def, BitVec.toNat_ushiftRight, Nat.shiftRight_eq_div_pow]
          exact Nat.div_le_self _ _
        rw [shiftS_loop hk hw false n j (a >>> 1) (by omega) (by omega) hle]
        simp only [Bool.false_eq_true, if_false]
        congr 2
        rw [← BitVec.shiftRight_add, Nat.add_comm]
      · simp only [cond_true, if_true]
        rw [shl_wi _ (by omega)]
        have e1 : (1 : Int).toNat = 1 := rfl
        rw [e1, cutM_ok (by omega) hw]
        simp only [R50_r]
        rw [shiftS_loop hk hw true n j _ (by omega) (by omega) (and_le_right' _ _)]
        simp only [if_true]
        rw [shl_step hw]
theorem shiftS_ok {k : Nat} (hk : 100 ≤ k) {wide : Int} (hw : isW wide = true) (a b : W) (left : Bool) (ha : a ≤ mk wide) : c69 k wide (wi a) (wi b) left = r69 (wi (shW wide a b left &&& mk wide)) := by
  obtain ⟨k, rfl⟩ : ∃ j, k = j + 1 := ⟨k - 1, by omega⟩
  have h' := isW_iff.1 hw
  rw [n69, u64_id (by omega) (by omega)]
  unfold shW
  by_cases h1 : wide ≤ wi b
  · have : decide (wi b ≥ wide) = true := by simpa using h1
    rw [this, if_pos h1]
    simp only [cond_true]
    have e : (0#64 : W) &&& mk wide = 0#64 := by simp
    rw [e]
    rfl
  · have h2 : decide (wi b ≥ wide) = false := by simpa using h1
    rw [h2, if_neg h1]
    simp only [cond_false]
    have hb : b.toNat ≤ 64 := by unfold wi at h1; omega
    have := shiftS_loop (k := k) (by omega) hw left k b.toNat a (by omega) hb ha
    have e : wi b = (b.toNat : Int) := rfl
    rw [e, this]
    congr 2
    cases left
    · simp only [Bool.false_eq_true, if_false]
      refine (mk_cut hw (BitVec.le_trans ?_ ha)).symm
      rw [BitVec.le_def, BitVec.toNat_ushiftRight, Nat.shiftRight_eq_div_pow]
      exact Nat.div_le_self _ _
    · simp only [if_true]
      rw [cut_idem hw]
theorem signedS_ok {k : Nat} (hk : 100 ≤ k) {wide : Int} (hw : isW wide = true) (a : W) (ha : a ≤ mk wide) : c71 k wide (wi a) = r71 (sg wide a) := by
  obtain ⟨k, rfl⟩ : ∃ j, k = j + 1 := ⟨k - 1, by omega⟩
  have h' := isW_iff.1 hw
  have hlt := word_lt hw ha
  rw [n71, i64_id (n := wide - 1) (by omega) (by omega), u64_id (n := wide - 1) (by omega) (by omega)]
  have h3 : decide (wide - 1 < 0) = false := by simp; omega
  rw [h3]
  simp only [Bool.not_false, cond_true]
  have e1 : (1 : Int) = wi 1#64 := rfl
  have e2 : (18446744073709551615 : Int) = wi (BitVec.allOnes 64) := rfl
  have e3 : (wide - wi 1#64).toNat = wide.toNat - 1 := by
    have : wi 1#64 = 1 := rfl
    omega
  rw [e1, shr_wi _ (by rw [← e1]; omega), and_wi, wi_beq, e3, top_bit hw ha]
  unfold sg
  by_cases h : a.toNat < 2 ^ (wide.toNat - 1)
  · simp only [h, decide_true, Bool.not_true, cond_false, if_true]
    have hp : 2 ^ (wide.toNat - 1) ≤ 2 ^ 63 := Nat.pow_le_pow_right (by omega) (by omega)
    have e4 : wi a = (a.toNat : Int) := rfl
    rw [e4, i64_id (by omega) (by omega)]
  · simp only [h, decide_false, Bool.not_false, cond_true, if_false]
    rw [e2, cutM_ok (by omega) hw]
    simp only [R50_r]
    rw [BitVec.allOnes_and, xor_wi, BitVec.allOnes_xor, or_wi]
    have e4 : wi (a ||| ~~~mk wide) = ((a.toNat + (18446744073709551616 - 2 ^ wide.toNat) : Nat) : Int) := by unfold wi; rw [or_hi hw ha]
    have hp : 2 ^ wide.toNat ≤ 2 ^ 64 := Nat.pow_le_pow_right (by omega) (by omega)
    have hp2 : 2 ^ wide.toNat = 2 * 2 ^ (wide.toNat - 1) := by
      obtain ⟨w, rfl, hw63, e5, e6⟩ := pow_parts hw
      rw [e6, e5, Nat.pow_succ, Nat.mul_comm]
    have hp3 : 2 ^ (wide.toNat - 1) ≤ 2 ^ 63 := Nat.pow_le_pow_right (by omega) (by omega)
    have hpc : (2 : Int) ^ wide.toNat = ((2 ^ wide.toNat : Nat) : Int) := by simp
    rw [e4, wrap_hi (by omega) (by omega), hpc]
    congr 1
    omega
theorem boolS_ok {k : Nat} (hk : 1 ≤ k) (b : Bool) : c70 k b = r70 (wi (tr b)) := by
  obtain ⟨k, rfl⟩ : ∃ j, k = j + 1 := ⟨k - 1, by omega⟩
  rw [n70]
  cases b <;> rfl
theorem tr_cut {wide : Int} (hw : isW wide = true) (b : Bool) : tr b &&& mk wide = tr b := by
  refine mk_cut hw (BitVec.le_trans (tr_le b) ?_)
  have h1 := mk_toNat hw
  have h' := isW_iff.1 hw
  have : 2 ^ 1 ≤ 2 ^ wide.toNat := Nat.pow_le_pow_right (by omega) (by omega)
  have h2 : (1#64).toNat = 1 := rfl
  rw [BitVec.le_def]
  omega
theorem divW_le {wide : Int} (hw : isW wide = true) {a b : W} (ha : a ≤ mk wide) (hb : b ≤ mk wide) : (divW wide a b).1 ≤ mk wide ∧ (divW wide a b).2 ≤ mk wide := by
  unfold divW
  split
  · split
    · exact ⟨BitVec.le_refl _, ha⟩
    · refine ⟨BitVec.le_trans ?_ ha, BitVec.le_trans ?_ ha⟩
      · rw [BitVec.le_def, BitVec.toNat_udiv]; exact Nat.div_le_self _ _
      · rw [BitVec.le_def, BitVec.toNat_umod]; exact Nat.mod_le _ _
  · exact ⟨by rw [BitVec.le_def]; exact Nat.zero_le _, by rw [BitVec.le_def]; exact Nat.zero_le _⟩
theorem l2Do_ok {k : Nat} (hk : 200 ≤ k) {wide : Int} (hw : isW wide = true) (op : Int) (a b : W) (ha : a ≤ mk wide) (hb : b ≤ mk wide) : c51 k wide op (wi a) (wi b) = r51 (wi (apW wide op a b)) := by
  obtain ⟨k, rfl⟩ : ∃ j, k = j + 1 := ⟨k - 1, by omega⟩
  rw [n51]
  have hd := divS_ok (k := k) (by omega) hw a b
  have hcut := fun x : W => cutM_ok (k := k) (by omega) hw x
  have hs := fun l => shiftS_ok (k := k) (by omega) hw a b l ha
  have ht := fun x => boolS_ok (k := k) (by omega) x
  have hga := signedS_ok (k := k) (by omega) hw a ha
  have hgb := signedS_ok (k := k) (by omega) hw b hb
  obtain ⟨hd1, hd2⟩ := divW_le hw ha hb
  simp only [hd, hs, ht, hga, hgb, R68_r, R69_r, R70_r, R71_r, add_wi, sub_wi, mul_wi, and_wi, or_wi, xor_wi, wi_beq, wi_lt_iff, hcut, R50_r]
  unfold apW apRaw
  have q : ∀ {c d : Int}, c ≠ d → (c == d) = false := fun h => by simpa using h
  by_cases h1 : op = 3
  · subst h1; rfl
  by_cases h2 : op = 4
  · subst h2; rfl
  by_cases h3 : op = 5
  · subst h3; rfl
  by_cases h4 : op = 6
  · subst h4; show r51 _ = r51 (wi ((divW wide a b).1 &&& mk wide)); rw [mk_cut hw hd1]
  by_cases h5 : op = 7
  · subst h5; show r51 _ = r51 (wi ((divW wide a b).2 &&& mk wide)); rw [mk_cut hw hd2]
  by_cases h6 : op = 8
  · subst h6; show r51 _ = r51 (wi ((a &&& b) &&& mk wide)); rw [mk_cut hw (BitVec.le_trans (and_le_left' a b) ha)]
  by_cases h7 : op = 17
  · subst h7; show r51 _ = r51 (wi ((a &&& b) &&& mk wide)); rw [mk_cut hw (BitVec.le_trans (and_le_left' a b) ha)]
  by_cases h8 : op = 9
  · subst h8; show r51 _ = r51 (wi ((a ||| b) &&& mk wide)); rw [or_cut hw ha hb]
  by_cases h9 : op = 18
  · subst h9; show r51 _ = r51 (wi ((a ||| b) &&& mk wide)); rw [or_cut hw ha hb]
  by_cases h10 : op = 10
  · subst h10; show r51 _ = r51 (wi ((a ^^^ b) &&& mk wide)); rw [xor_cut hw ha hb]
  by_cases h11 : op = 11
  · subst h11; rfl
  by_cases h12 : op = 12
  · subst h12; rfl
  by_cases h13 : op = 14
  · subst h13; show r51 _ = r51 (wi (tr (a == b) &&& mk wide)); rw [tr_cut hw]
  by_cases h14 : op = 15
  · subst h14; show r51 _ = r51 (wi (tr (decide (a < b)) &&& mk wide)); rw [tr_cut hw]
  by_cases h15 : op = 16
  · subst h15; show r51 _ = r51 (wi (tr (decide (sgn wide a < sgn wide b)) &&& mk wide)); rw [tr_cut hw, sgn_sg hw ha, sgn_sg hw hb]
  simp only [q h1, q h2, q h3, q h4, q h5, q h6, q h7, q h8, q h9, q h10, q h11, q h12, q h13, q h14, q h15, cond_false, h1, h2, h3, h4, h5, h6, h7, h8, h9, h10, h11, h12, h13, h14, h15, if_false]
  have e : (0#64 : W) &&& mk wide = 0#64 := by simp
  rw [e]
  rfl
/-! ### The tree of a node -/
theorem kst_need {wide vars : Int} : ∀ {t : List Nd} {st st' : List Int}, kst wide vars t st = some st' → ∀ x ∈ t, (need x.1).2.2 ≠ 0
  | [], st, st', h => by simp
  | x :: t, st, st', h => by
    simp only [kst] at h
    split at h
    · cases h
    · rename_i h0
      split at h
      · cases h
      · split at h
        · cases h
        · split at h
          · cases h
          · intro y hy
            rcases List.mem_cons.1 hy with rfl | hy
            · exact h0
            · exact kst_need h y hy
theorem need_cases {op : Int} (h : (need op).2.2 ≠ 0) : ((op = 1 ∨ op = 20) ∧ (need op).1 = 0) ∨ (op = 2 ∧ (need op).1 = 0) ∨ ((op = 13 ∨ op = 19) ∧ (need op).1 = 1) ∨ (op ≠ 1 ∧ op ≠ 20 ∧ op ≠ 2 ∧ op ≠ 13 ∧ op ≠ 19 ∧ (need op).1 = 2) := by
  by_cases h1 : op = 1
  · subst h1; exact .inl ⟨.inl rfl, rfl⟩
  by_cases h20 : op = 20
  · subst h20; exact .inl ⟨.inr rfl, by decide⟩
  by_cases h2 : op = 2
  · subst h2; exact .inr (.inl ⟨rfl, by decide⟩)
  by_cases h13 : op = 13
  · subst h13; exact .inr (.inr (.inl ⟨.inl rfl, by decide⟩))
  by_cases h19 : op = 19
  · subst h19; exact .inr (.inr (.inl ⟨.inr rfl, by decide⟩))
  refine .inr (.inr (.inr ⟨h1, h20, h2, h13, h19, ?_⟩))
  unfold need at h ⊢
  rw [if_neg (by omega), if_neg h20, if_neg h13, if_neg h19] at h ⊢
  split
  · rfl
  · split
    · rfl
    · split
      · rfl
      · rename_i b1 b2 b3
        rw [if_neg b1, if_neg b2, if_neg b3] at h
        exact absurd rfl h
theorem Fit.le {wide : Int} (hw : isW wide = true) {ks : List Int} {vs : List W} (h : Fit wide ks vs) : ∀ v ∈ vs, v ≤ mk wide := by
  induction h with
  | nil => simp
  | cons ho _ ih =>
    intro v hv
    rcases List.mem_cons.1 hv with rfl | hv
    · rcases ho with ho | ho
      · exact ho.2
      · refine BitVec.le_trans ho.2 ?_
        exact le_of_cut hw (by
          have := tr_cut hw true
          simpa [tr] using this)
    · exact ih v hv
/-- What a term's nodes are: known operators, and a part of the term leaves words. -/
theorem good_prefix {wide vars : Int} {t : List Nd} (h : goodT wide vars t = true) {s : List W} (hs : (s.length : Int) = vars) (hg : ∀ a ∈ s, a ≤ mk wide) : (∀ x ∈ t, (need x.1).2.2 ≠ 0) ∧ ∀ (j : Nat) (us : List W), vrun wide s (t.take j) [] = some us → ∀ u ∈ us, u ≤ mk wide := by
  obtain ⟨hsz, c, hk, hc⟩ := goodT_iff.1 h
  have hw : isW wide = true := by simp only [sizeT, Bool.and_eq_true] at hsz; exact hsz.1.1.1
  have hv : isV vars = true := by simp only [sizeT, Bool.and_eq_true] at hsz; exact hsz.1.1.2
  refine ⟨kst_need hk, fun j us hus => ?_⟩
  rw [← List.take_append_drop j t, kst_app] at hk
  obtain ⟨ks, h1, h2⟩ := Option.bind_eq_some_iff.1 hk
  obtain ⟨vs', h3, hf⟩ := run_fit hw hv hs hg h1 .nil
  rw [hus] at h3
  injection h3 with h3
  subst h3
  exact hf.le hw
theorem node_ok {wide vars : Int} {t : List Nd} (hgt : goodT wide vars t = true) {s : List W} (hs : (s.length : Int) = vars) (hg : ∀ a ∈ s, a ≤ mk wide) (ht : t.length ≤ 100) (hw : isW wide = true) (hv : isV vars = true) : ∀ (m j : Nat), j < m → j < t.length → ∀ (v : W) (vs : List W), vrun wide s (t.take (j + 1)) [] = some (v :: vs) →
    ∃ f, f ≤ j ∧ vrun wide s (t.take f) [] = some vs ∧ (∀ k, 300 + j ≤ k → c52 k (encT t) (j : Int) = r52 (f : Int)) ∧ ∀ k, 300 + 2 * j ≤ k → c23 k wide (encT t) (j : Int) (encW s) = r23 (wi v)
  | 0, j, h, hj, v, vs, hr => by omega
  | m + 1, j, h, hj, v, vs, hr => by
    obtain ⟨hne, hle⟩ := good_prefix hgt hs hg
    have hv' := isV_iff.1 hv
    have htk : t.take (j + 1) = t.take j ++ [t[j]] := List.take_succ_eq_append_getElem hj
    rw [htk, vrun_app] at hr
    obtain ⟨us, hu, hr⟩ := Option.bind_eq_some_iff.1 hr
    have hx := hne t[j] (List.getElem_mem hj)
    have from_ok : ∀ k, 300 + j ≤ k → c52 k (encT t) (j : Int) = L52_1 (k - 1) (k - 1) (encT t) ((need t[j].1).1 : Nat) (j : Int) := by
      intro k hk
      obtain ⟨k, rfl⟩ : ∃ i, k = i + 1 := ⟨k - 1, by omega⟩
      rw [n52, lookT hj]
      simp only [Option.bind_some, encN_op]
      rw [needS_ok (by omega)]
      simp only [R49_r, Nat.add_sub_cancel]
    have from0 : ∀ (k n : Nat) (f : Int), 1 ≤ n → L52_1 k n (encT t) ((0 : Nat) : Int) f = r52 f := by
      intro k n f hn
      obtain ⟨n, rfl⟩ : ∃ i, n = i + 1 := ⟨n - 1, by omega⟩
      rw [sL52_1]
      rfl
    have fromS : ∀ (k n a f f2 : Nat), 1 ≤ n → 1 ≤ f → f ≤ 1000 → a ≤ 5 → c52 k (encT t) ((f - 1 : Nat) : Int) = r52 (f2 : Int) → L52_1 k n (encT t) ((a + 1 : Nat) : Int) (f : Int) = L52_1 k (n - 1) (encT t) (a : Int) (f2 : Int) := by
      intro k n a f f2 hn hf hf2 ha hc
      obtain ⟨n, rfl⟩ : ∃ i, n = i + 1 := ⟨n - 1, by omega⟩
      rw [sL52_1]
      have hd : decide (((a + 1 : Nat) : Int) > 0) = true := by (simp; try omega)
      rw [hd, i64_id (n := (f : Int) - 1) (by omega) (by omega), show (f : Int) - 1 = ((f - 1 : Nat) : Int) by omega, hc]
      simp only [cond_true, R52_r]
      rw [i64_id (by omega) (by omega), show ((a + 1 : Nat) : Int) - 1 = (a : Int) by omega]
      rfl
    have val_ok : ∀ k, c23 (k + 1) wide (encT t) (j : Int) (encW s) = _ := fun k => n23 k wide (encT t) (j : Int) (encW s)
    rcases need_cases hx with ⟨h1, hn⟩ | ⟨h1, hn⟩ | ⟨h1, hn⟩ | ⟨h1, h20, h2, h13, h19, hn⟩
    · simp only [vrun] at hr
      rw [if_pos h1] at hr
      injection hr with hr
      injection hr with e1 e2
      subst e2
      refine ⟨j, by omega, hu, fun k hk => ?_, fun k hk => ?_⟩
      · rw [from_ok k hk, hn]
        exact from0 _ _ _ (by omega)
      · obtain ⟨k, rfl⟩ : ∃ i, k = i + 1 := ⟨k - 1, by omega⟩
        have h2' : (t[j].1 == 2) = false := by rcases h1 with h | h <;> simp [h]
        have h0' : ((((need t[j].1).1 : Nat) : Int) == 0) = true := by simp [hn]
        rw [n23, lookT hj]
        simp only [Option.bind_some, encN_shp, encN_op, encN_n, cond_true]
        rw [needS_ok (by omega)]
        simp only [R49_r, h2', h0', cond_false, cond_true, e1]
    · simp only [vrun] at hr
      rw [if_neg (by omega), if_pos h1] at hr
      obtain ⟨a, ha, hr⟩ := Option.bind_eq_some_iff.1 hr
      injection hr with hr
      injection hr with e1 e2
      subst e2
      refine ⟨j, by omega, hu, fun k hk => ?_, fun k hk => ?_⟩
      · rw [from_ok k hk, hn]
        exact from0 _ _ _ (by omega)
      · obtain ⟨k, rfl⟩ : ∃ i, k = i + 1 := ⟨k - 1, by omega⟩
        have h2' : (t[j].1 == 2) = true := by simpa using h1
        have e4 : (wi t[j].2).toNat = t[j].2.toNat := by simp [wi]
        rw [n23, lookT hj]
        simp only [Option.bind_some, encN_shp, encN_op, encN_n, cond_true]
        rw [needS_ok (by omega)]
        simp only [R49_r, h2', cond_true]
        rw [lookP_int (wi_nonneg _), encW_get, e4, ha]
        simp only [Option.map_some, Option.bind_some, int_atInt, e1]
    · have hus : ∃ a, us = a :: vs ∧ ((t[j].1 = 13 ∧ v = (~~~a &&& mk wide)) ∨ (t[j].1 = 19 ∧ v = (1#64 - a))) := by
        simp only [vrun] at hr
        rw [if_neg (by omega), if_neg (by omega)] at hr
        rcases h1 with h1 | h1
        · rw [if_pos h1] at hr
          cases us with
          | nil => cases hr
          | cons a r =>
            injection hr with hr
            injection hr with e1 e2
            exact ⟨a, by rw [e2], .inl ⟨h1, e1.symm⟩⟩
        · rw [if_neg (by omega), if_pos h1] at hr
          cases us with
          | nil => cases hr
          | cons a r =>
            injection hr with hr
            injection hr with e1 e2
            exact ⟨a, by rw [e2], .inr ⟨h1, e1.symm⟩⟩
      obtain ⟨a, rfl, hva⟩ := hus
      have hj0 : 1 ≤ j := by
        cases j with
        | zero => simp [vrun] at hu
        | succ j => omega
      have hjj : j - 1 + 1 = j := by omega
      obtain ⟨f, hf1, hf2, hf3, hf4⟩ := node_ok hgt hs hg ht hw hv m (j - 1) (by omega) (by omega) a vs (by rw [hjj]; exact hu)
      refine ⟨f, by omega, hf2, fun k hk => ?_, fun k hk => ?_⟩
      · rw [from_ok k hk, hn, fromS (k - 1) (k - 1) 0 j f (by omega) hj0 (by omega) (by omega) (hf3 (k - 1) (by omega))]
        exact from0 _ _ _ (by omega)
      · obtain ⟨k, rfl⟩ : ∃ i, k = i + 1 := ⟨k - 1, by omega⟩
        have h2' : (t[j].1 == 2) = false := by rcases h1 with h | h <;> simp [h]
        have h0' : ((((need t[j].1).1 : Nat) : Int) == 0) = false := by simp [hn]
        rw [n23, lookT hj]
        simp only [Option.bind_some, encN_shp, encN_op, encN_n, cond_true]
        rw [needS_ok (by omega), i64_id (n := (j : Int) - 1) (by omega) (by omega), show (j : Int) - 1 = ((j - 1 : Nat) : Int) by omega, hf4 k (by omega)]
        simp only [R49_r, h2', h0', cond_false, R23_r]
        rcases hva with ⟨h13, rfl⟩ | ⟨h19, rfl⟩
        · have e13 : (t[j].1 == 13) = true := by simpa using h13
          have e2 : (18446744073709551615 : Int) = wi (BitVec.allOnes 64) := rfl
          rw [e13, e2, xor_wi, cutM_ok (by omega) hw, BitVec.allOnes_xor]
          simp only [cond_true, R50_r]
        · have e13 : (t[j].1 == 13) = false := by simp [h19]
          have e19 : (t[j].1 == 19) = true := by simpa using h19
          have e1 : (1 : Int) = wi 1#64 := rfl
          rw [e13, e19, e1, sub_wi]
          simp only [cond_true, cond_false]
    · have hus : ∃ b a, us = b :: a :: vs ∧ v = apW wide t[j].1 a b := by
        simp only [vrun] at hr
        rw [if_neg (by omega), if_neg h2, if_neg h13, if_neg h19] at hr
        rcases us with _ | ⟨b, _ | ⟨a, r⟩⟩
        · cases hr
        · cases hr
        · injection hr with hr
          injection hr with e1 e2
          exact ⟨b, a, by rw [e2], e1.symm⟩
      obtain ⟨b, a, rfl, rfl⟩ := hus
      have hj0 : 1 ≤ j := by
        cases j with
        | zero => simp [vrun] at hu
        | succ j => omega
      have hjj : j - 1 + 1 = j := by omega
      obtain ⟨f, hf1, hf2, hf3, hf4⟩ := node_ok hgt hs hg ht hw hv m (j - 1) (by omega) (by omega) b (a :: vs) (by rw [hjj]; exact hu)
      have hf0 : 1 ≤ f := by
        cases f with
        | zero => simp [vrun] at hf2
        | succ f => omega
      have hff : f - 1 + 1 = f := by omega
      obtain ⟨g, hg1, hg2, hg3, hg4⟩ := node_ok hgt hs hg ht hw hv m (f - 1) (by omega) (by omega) a vs (by rw [hff]; exact hf2)
      have hbm := hle j _ hu b (by simp)
      have ham := hle j _ hu a (by simp)
      refine ⟨g, by omega, hg2, fun k hk => ?_, fun k hk => ?_⟩
      · rw [from_ok k hk, hn, fromS (k - 1) (k - 1) 1 j f (by omega) hj0 (by omega) (by omega) (hf3 (k - 1) (by omega)), fromS (k - 1) (k - 1 - 1) 0 f g (by omega) hf0 (by omega) (by omega) (hg3 (k - 1) (by omega))]
        exact from0 _ _ _ (by omega)
      · obtain ⟨k, rfl⟩ : ∃ i, k = i + 1 := ⟨k - 1, by omega⟩
        have e2 : (t[j].1 == 2) = false := by simpa using h2
        have e13 : (t[j].1 == 13) = false := by simpa using h13
        have e19 : (t[j].1 == 19) = false := by simpa using h19
        have h0' : ((((need t[j].1).1 : Nat) : Int) == 0) = false := by simp [hn]
        rw [n23, lookT hj]
        simp only [Option.bind_some, encN_shp, encN_op, encN_n, cond_true]
        rw [needS_ok (by omega), i64_id (n := (j : Int) - 1) (by omega) (by omega), show (j : Int) - 1 = ((j - 1 : Nat) : Int) by omega, hf4 k (by omega), hf3 k (by omega)]
        simp only [R49_r, e2, h0', e13, e19, cond_false, R23_r, R52_r]
        rw [i64_id (n := (f : Int) - 1) (by omega) (by omega), show (f : Int) - 1 = ((f - 1 : Nat) : Int) by omega, hg4 k (by omega)]
        simp only [R23_r]
        rw [l2Do_ok (by omega) hw _ a b ham hbm]
        simp only [R51_r]
/-- The reference's value of a good term. -/
theorem l2Value_ok {k : Nat} (hk : 600 ≤ k) {wide vars : Int} {t : List Nd} (hgt : goodT wide vars t = true) {s : List W} (hs : (s.length : Int) = vars) (hg : ∀ a ∈ s, a ≤ mk wide) (ht : t.length ≤ 100) {v : W} (hv : vrun wide s t [] = some [v]) :
    c23 k wide (encT t) (IntKind.i64.wrap ((t.length : Int) - 1)) (encW s) = r23 (wi v) := by
  have hsz := (goodT_iff.1 hgt).1
  simp only [sizeT, Bool.and_eq_true, decide_eq_true_eq] at hsz
  have hl := hsz.1.2
  obtain ⟨f, _, _, _, h4⟩ := node_ok hgt hs hg ht hsz.1.1.1 hsz.1.1.2 (t.length + 1) (t.length - 1) (by omega) (by omega) v [] (by rw [show t.length - 1 + 1 = t.length by omega, List.take_length]; exact hv)
  rw [i64_id (by omega) (by omega), show (t.length : Int) - 1 = ((t.length - 1 : Nat) : Int) by omega]
  exact h4 k (by omega)
end Go.Proofs.Ytocmjgfbcpgaoaa
