/- Pv; Pw; Pd; Ha; Hp; Cb; Cc; Cd; Ta; Tb; Tc; Td; Te; Hx; Ba; Bb; Bc; Bd; Px; Cf; Be; Bf; Bg; Bh; Bi; Bj; Ch; Cj: texts put together. -/
import Derived.Test.YthoecdnmokcfbaaGreatM4
import Derived.Test.YthoecdnmokcfbaaGreatM2
import Derived.Test.YthoecdnmokcfbaaGreatM3
/- The reference's values of terms: by the tree of a node. -/
set_option linter.unusedVariables false
set_option linter.unusedSimpArgs false
set_option maxRecDepth 4000
namespace Go.Proofs.YthoecdnmokcfbaaGreat
open Go.Dp
theorem mk_cut {wide : Int} (hw : isW wide = true) {a : W} (h : a <= mk wide) : a &&& mk wide = a := by
 have h' := isW_iff.1 hw
 exact (cut_eq_iff (by omega) a).2 h
theorem le_of_cut {wide : Int} (hw : isW wide = true) {a : W} (h : a &&& mk wide = a) : a <= mk wide := by
 have h' := isW_iff.1 hw
 exact (cut_eq_iff (by omega) a).1 h
theorem bit_mk {wide : Int} (hw : isW wide = true) (i : Nat) : (mk wide).getLsbD i = decide (i < wide.toNat) := by
 have h' := isW_iff.1 hw
 exact maskB_lsb (by omega) i
theorem or_cut {wide : Int} (hw : isW wide = true) {a b : W} (ha : a <= mk wide) (hb : b <= mk wide) : (a ||| b) &&& mk wide = a ||| b := by
 have h1 := mk_cut hw ha
 have h2 := mk_cut hw hb
 rw [BitVec.and_comm, BitVec.and_or_distrib_left, BitVec.and_comm _ a, BitVec.and_comm _ b, h1, h2]
theorem xor_cut {wide : Int} (hw : isW wide = true) {a b : W} (ha : a <= mk wide) (hb : b <= mk wide) : (a ^^^ b) &&& mk wide = a ^^^ b := by
 have h1 := mk_cut hw ha
 have h2 := mk_cut hw hb
 apply BitVec.eq_of_getLsbD_eq
 intro i hi
 have b1 := congrArg (fun x => x.getLsbD i) h1
 have b2 := congrArg (fun x => x.getLsbD i) h2
 simp only [BitVec.getLsbD_and, BitVec.getLsbD_xor] at b1 b2 ⊢
 revert b1 b2
 cases a.getLsbD i <;> cases b.getLsbD i <;> cases (mk wide).getLsbD i <;> simp
theorem shl_step {wide : Int} (hw : isW wide = true) (a : W) (j : Nat) : (((a <<< 1) &&& mk wide) <<< j) &&& mk wide = (a <<< (j + 1)) &&& mk wide := by
 apply BitVec.eq_of_getLsbD_eq
 intro i hi
 simp only [BitVec.getLsbD_and, BitVec.getLsbD_shiftLeft, bit_mk hw]
 by_cases h1 : i < wide.toNat
 · by_cases h2 : i < j
   · have : i < j + 1 := by omega
     simp [h2, this]
   · by_cases h3 : i = j
     · subst h3
       simp
     · have e1 : i - j - 1 = i - (j + 1) := by omega
       have h4 : ¬ i < j + 1 := by omega
       have h5 : ¬ i - j < 1 := by omega
       have h6 : i - j < wide.toNat := by omega
       have h7 : i - j < 64 := by omega
       simp [h1, h2, h4, h5, h6, h7, hi, e1]
 · simp [h1]
theorem cut_idem {wide : Int} (hw : isW wide = true) (a : W) : (a &&& mk wide) &&& mk wide = a &&& mk wide := by rw [BitVec.and_assoc, BitVec.and_self]
def sg (wide : Int) (a : W) : Int := if a.toNat < 2 ^ (wide.toNat - 1) then (a.toNat : Int) else (a.toNat : Int) - 2 ^ wide.toNat
theorem wrap_hi {x : Int} (h1 : 9223372036854775808 <= x) (h2 : x < 18446744073709551616) : IntKind.i64.wrap x = x - 18446744073709551616 := by
 unfold IntKind.wrap
 simp [IntKind.signed, IntKind.bits]
 omega
theorem mk_toNat {wide : Int} (hw : isW wide = true) : (mk wide).toNat = 2 ^ wide.toNat - 1 := by
 have h' := isW_iff.1 hw
 exact maskB_toNat (by omega)
theorem word_lt {wide : Int} (hw : isW wide = true) {a : W} (ha : a <= mk wide) : a.toNat < 2 ^ wide.toNat := by
 have h1 := mk_toNat hw
 rw [BitVec.le_def] at ha
 have := Nat.two_pow_pos wide.toNat
 omega
theorem pow_parts {wide : Int} (hw : isW wide = true) : ∃ w : Nat, wide = ((w + 1 : Nat) : Int) /\ w <= 63 /\ wide.toNat = w + 1 /\ wide.toNat - 1 = w := by
 have h' := isW_iff.1 hw
 exact ⟨wide.toNat - 1, by omega, by omega, by omega, rfl⟩
theorem sgn_sg {wide : Int} (hw : isW wide = true) {a : W} (ha : a <= mk wide) : sgn wide a = sg wide a := by
 have hlt := word_lt hw ha
 obtain ⟨w, rfl, hw63, e1, e2⟩ := pow_parts hw
 unfold sgn sg
 rw [e2, e1] at *
 have hd : (64 - ((w + 1 : Nat) : Int)).toNat = 63 - w := by omega
 have hmul : 2 ^ (w + 1) * 2 ^ (63 - w) = 18446744073709551616 := by rw [<- Nat.pow_add, show w + 1 + (63 - w) = 64 by omega]
 have hmul2 : 2 ^ w * 2 ^ (63 - w) = 9223372036854775808 := by rw [<- Nat.pow_add, show w + (63 - w) = 63 by omega]
 have hp := Nat.two_pow_pos (63 - w)
 have hb : a.toNat * 2 ^ (63 - w) < 18446744073709551616 := by rw [<- hmul]; exact Nat.mul_lt_mul_of_pos_right hlt hp
 have hs : (a <<< (63 - w)).toNat = a.toNat * 2 ^ (63 - w) := by
   rw [BitVec.toNat_shiftLeft, Nat.shiftLeft_eq, Nat.mod_eq_of_lt (by simpa using hb)]
 have hy : min (64 - ((w + 1 : Nat) : Int)).toNat 64 = 63 - w := by omega
 unfold shrI
 rw [hd, show min (63 - w) IntKind.i64.bits = 63 - w from Nat.min_eq_left (by show 63 - w <= 64; omega)]
 have hwi : wi (a <<< (63 - w)) = ((a.toNat * 2 ^ (63 - w) : Nat) : Int) := by unfold wi; rw [hs]
 have hpc : (2 : Int) ^ (63 - w) = ((2 ^ (63 - w) : Nat) : Int) := by simp
 rw [hwi, hpc]
 by_cases h : a.toNat < 2 ^ w
 · have hc : a.toNat * 2 ^ (63 - w) < 9223372036854775808 := by rw [<- hmul2]; exact Nat.mul_lt_mul_of_pos_right h hp
   rw [if_pos h, i64_id (by omega) (by omega), Int.fdiv_eq_ediv_of_nonneg _ (Int.natCast_nonneg _), <- Int.natCast_ediv, Nat.mul_div_cancel _ hp]
 · have hc : 9223372036854775808 <= a.toNat * 2 ^ (63 - w) := by rw [<- hmul2]; exact Nat.mul_le_mul_right _ (by omega)
   rw [if_neg h, wrap_hi (by omega) (by omega)]
   have e3 : ((a.toNat * 2 ^ (63 - w) : Nat) : Int) - 18446744073709551616 = ((a.toNat : Int) - ((2 ^ (w + 1) : Nat) : Int)) * ((2 ^ (63 - w) : Nat) : Int) := by
     rw [Int.sub_mul, <- Int.natCast_mul, <- Int.natCast_mul, hmul]
     rfl
   rw [e3, Int.mul_fdiv_cancel _ (by omega)]
   simp
theorem or_hi {wide : Int} (hw : isW wide = true) {a : W} (ha : a <= mk wide) : (a ||| ~~~mk wide).toNat = a.toNat + (18446744073709551616 - 2 ^ wide.toNat) := by
 have hz : a &&& ~~~mk wide = 0#64 := by
   have h1 := mk_cut hw ha
   apply BitVec.eq_of_getLsbD_eq
   intro i hi
   have b1 := congrArg (fun x => x.getLsbD i) h1
   simp only [BitVec.getLsbD_and, BitVec.getLsbD_not, hi, decide_true, Bool.true_and] at b1 ⊢
   revert b1
   cases a.getLsbD i <;> cases (mk wide).getLsbD i <;> simp
 rw [<- BitVec.add_eq_or_of_and_eq_zero _ _ hz, BitVec.toNat_add, BitVec.toNat_not, mk_toNat hw]
 have h1 := word_lt hw ha
 have h' := isW_iff.1 hw
 have h2 : 2 ^ wide.toNat <= 2 ^ 64 := Nat.pow_le_pow_right (by omega) (by omega)
 have h3 := Nat.two_pow_pos wide.toNat
 rw [Nat.mod_eq_of_lt]
 · omega
 · omega
theorem top_bit {wide : Int} (hw : isW wide = true) {a : W} (ha : a <= mk wide) : ((a >>> (wide.toNat - 1)) &&& 1#64 == 1#64) = !decide (a.toNat < 2 ^ (wide.toNat - 1)) := by
 have hlt := word_lt hw ha
 obtain ⟨w, rfl, hw63, e1, e2⟩ := pow_parts hw
 rw [e2]
 rw [e1, Nat.pow_succ] at hlt
 have hp := Nat.two_pow_pos w
 have hn : ((a >>> w) &&& 1#64).toNat = a.toNat / 2 ^ w % 2 := by
   rw [BitVec.toNat_and, BitVec.toNat_ushiftRight, Nat.shiftRight_eq_div_pow]
   exact Nat.and_one_is_mod _
 by_cases h : a.toNat < 2 ^ w
 · rw [Nat.div_eq_of_lt h] at hn
   have : (a >>> w) &&& 1#64 ≠ 1#64 := fun e => by rw [e] at hn; simp at hn
   simp [h, this]
 · have hq : a.toNat / 2 ^ w = 1 := by
     apply Nat.div_eq_of_lt_le <;> omega
   rw [hq] at hn
   have : (a >>> w) &&& 1#64 = 1#64 := BitVec.eq_of_toNat_eq hn
   simp [h, this]
theorem both_ok {k : Nat} (hk : 90 <= k) (wide : Int) (a b : W) : c233 k wide (wi a) (wi b) = r233 (goodW wide a && goodW wide b) := by
 obtain ⟨k, rfl⟩ : ∃ j, k = j + 1 := ⟨k - 1, by omega⟩
 rw [n233, goodWordS_ok (by omega), goodWordS_ok (by omega)]
 simp only [R218_r]
 cases goodW wide a <;> rfl
theorem cutM_ok {k : Nat} (hk : 70 <= k) {wide : Int} (hw : isW wide = true) (a : W) : c198 k wide (wi a) = r198 (wi (a &&& mk wide)) := by
 have h' := isW_iff.1 hw
 exact cut_ok hk (by omega) h'.2 a
theorem divS_ok {k : Nat} (hk : 100 <= k) {wide : Int} (hw : isW wide = true) (a b : W) : c220 k wide (wi a) (wi b) = r220 (wi (divW wide a b).1) (wi (divW wide a b).2) (goodW wide a && goodW wide b) := by
 obtain ⟨k, rfl⟩ : ∃ j, k = j + 1 := ⟨k - 1, by omega⟩
 rw [n220, both_ok (by omega)]
 simp only [R233_r]
 unfold divW
 cases h1 : (goodW wide a && goodW wide b)
 · rfl
 · simp only [Bool.not_true, cond_false, if_true]
   by_cases hb : b = 0#64
   · subst hb
     have e : (wi 0#64 == 0) = true := rfl
     have e2 : (18446744073709551615 : Int) = wi (BitVec.allOnes 64) := rfl
     simp only [e, cond_true, if_true]
     rw [e2, cutM_ok (by omega) hw]
     simp only [R198_r]
     rw [BitVec.allOnes_and]
   · have h2 : (wi b == 0) = false := by
       have e : (0 : Int) = wi 0#64 := rfl
       rw [e, wi_beq]; simpa using hb
     simp only [h2, cond_false, cond_true, Bool.not_false, hb, if_false]
     have e1 : (wi a).tdiv (wi b) = wi (a / b) := by
       unfold wi
       rw [Int.tdiv_eq_ediv_of_nonneg (by omega), BitVec.toNat_udiv, Int.natCast_ediv]
     have e2 : (wi a).tmod (wi b) = wi (a % b) := by
       unfold wi
       rw [Int.tmod_eq_emod_of_nonneg (by omega), BitVec.toNat_umod, Int.natCast_emod]
     rw [e1, e2, wrap_wi]
theorem shiftS_loop {k : Nat} (hk : 80 <= k) {wide : Int} (hw : isW wide = true) (left : Bool) : ∀ (n j : Nat) (a : W), j < n -> j <= 64 -> a <= mk wide -> L221_1 k n wide (wi a) (j : Int) left = r221 (wi (if left then (a <<< j) &&& mk wide else a >>> j))
 | 0, j, a, h, hj, ha => by omega
 | n + 1, j, a, h, hj, ha => by
   rw [sL221_1]
   cases j with
   | zero =>
     have hd : decide (((0 : Nat) : Int) > 0) = false := by simp
     rw [hd]
     simp only [cond_false]
     congr 2
     cases left
     · simp
     · simp [mk_cut hw ha]
   | succ j =>
     have hd : decide (((j + 1 : Nat) : Int) > 0) = true := by (simp; try omega)
     rw [hd, u64_id (by omega) (by omega), show ((j + 1 : Nat) : Int) - 1 = (j : Int) by omega]
     simp only [cond_true]
     cases left
     · simp only [cond_false, Bool.false_eq_true, if_false]
       rw [shr_wi _ (by omega)]
       have e1 : (1 : Int).toNat = 1 := rfl
       rw [e1]
       have hle : a >>> 1 <= mk wide := by
         refine BitVec.le_trans ?_ ha
         rw [BitVec.le_def, BitVec.toNat_ushiftRight, Nat.shiftRight_eq_div_pow]
         exact Nat.div_le_self _ _
       rw [shiftS_loop hk hw false n j (a >>> 1) (by omega) (by omega) hle]
       simp only [Bool.false_eq_true, if_false]
       congr 2
       rw [<- BitVec.shiftRight_add, Nat.add_comm]
     · simp only [cond_true, if_true]
       rw [shl_wi _ (by omega)]
       have e1 : (1 : Int).toNat = 1 := rfl
       rw [e1, cutM_ok (by omega) hw]
       simp only [R198_r]
       rw [shiftS_loop hk hw true n j _ (by omega) (by omega) (and_le_right' _ _)]
       simp only [if_true]
       rw [shl_step hw]
theorem shiftS_ok {k : Nat} (hk : 100 <= k) {wide : Int} (hw : isW wide = true) (a b : W) (left : Bool) (ha : a <= mk wide) : c221 k wide (wi a) (wi b) left = r221 (wi (shW wide a b left &&& mk wide)) := by
 obtain ⟨k, rfl⟩ : ∃ j, k = j + 1 := ⟨k - 1, by omega⟩
 have h' := isW_iff.1 hw
 rw [n221, u64_id (by omega) (by omega)]
 unfold shW
 by_cases h1 : wide <= wi b
 · have : decide (wi b ≥ wide) = true := by simpa using h1
   rw [this, if_pos h1]
   simp only [cond_true]
   have e : (0#64 : W) &&& mk wide = 0#64 := by simp
   rw [e]
   rfl
 · have h2 : decide (wi b ≥ wide) = false := by simpa using h1
   rw [h2, if_neg h1]
   simp only [cond_false]
   have hb : b.toNat <= 64 := by unfold wi at h1; omega
   have := shiftS_loop (k := k) (by omega) hw left k b.toNat a (by omega) hb ha
   have e : wi b = (b.toNat : Int) := rfl
   rw [e, this]
   congr 2
   cases left
   · simp only [Bool.false_eq_true, if_false]
     refine (mk_cut hw (BitVec.le_trans ?_ ha)).symm
     rw [BitVec.le_def, BitVec.toNat_ushiftRight, Nat.shiftRight_eq_div_pow]
     exact Nat.div_le_self _ _
   · simp only [if_true]
     rw [cut_idem hw]
theorem signedS_ok {k : Nat} (hk : 100 <= k) {wide : Int} (hw : isW wide = true) (a : W) (ha : a <= mk wide) : c223 k wide (wi a) = r223 (sg wide a) := by
 obtain ⟨k, rfl⟩ : ∃ j, k = j + 1 := ⟨k - 1, by omega⟩
 have h' := isW_iff.1 hw
 have hlt := word_lt hw ha
 rw [n223, i64_id (n := wide - 1) (by omega) (by omega), u64_id (n := wide - 1) (by omega) (by omega)]
 have h3 : decide (wide - 1 < 0) = false := by simp; omega
 rw [h3]
 simp only [Bool.not_false, cond_true]
 have e1 : (1 : Int) = wi 1#64 := rfl
 have e2 : (18446744073709551615 : Int) = wi (BitVec.allOnes 64) := rfl
 have e3 : (wide - wi 1#64).toNat = wide.toNat - 1 := by
   have : wi 1#64 = 1 := rfl
   omega
 rw [e1, shr_wi _ (by rw [<- e1]; omega), and_wi, wi_beq, e3, top_bit hw ha]
 unfold sg
 by_cases h : a.toNat < 2 ^ (wide.toNat - 1)
 · simp only [h, decide_true, Bool.not_true, cond_false, if_true]
   have hp : 2 ^ (wide.toNat - 1) <= 2 ^ 63 := Nat.pow_le_pow_right (by omega) (by omega)
   have e4 : wi a = (a.toNat : Int) := rfl
   rw [e4, i64_id (by omega) (by omega)]
 · simp only [h, decide_false, Bool.not_false, cond_true, if_false]
   rw [e2, cutM_ok (by omega) hw]
   simp only [R198_r]
   rw [BitVec.allOnes_and, xor_wi, BitVec.allOnes_xor, or_wi]
   have e4 : wi (a ||| ~~~mk wide) = ((a.toNat + (18446744073709551616 - 2 ^ wide.toNat) : Nat) : Int) := by unfold wi; rw [or_hi hw ha]
   have hp : 2 ^ wide.toNat <= 2 ^ 64 := Nat.pow_le_pow_right (by omega) (by omega)
   have hp2 : 2 ^ wide.toNat = 2 * 2 ^ (wide.toNat - 1) := by
     obtain ⟨w, rfl, hw63, e5, e6⟩ := pow_parts hw
     rw [e6, e5, Nat.pow_succ, Nat.mul_comm]
   have hp3 : 2 ^ (wide.toNat - 1) <= 2 ^ 63 := Nat.pow_le_pow_right (by omega) (by omega)
   have hpc : (2 : Int) ^ wide.toNat = ((2 ^ wide.toNat : Nat) : Int) := by simp
   rw [e4, wrap_hi (by omega) (by omega), hpc]
   congr 1
   omega
theorem boolS_ok {k : Nat} (hk : 1 <= k) (b : Bool) : c222 k b = r222 (wi (tr b)) := by
 obtain ⟨k, rfl⟩ : ∃ j, k = j + 1 := ⟨k - 1, by omega⟩
 rw [n222]
 cases b <;> rfl
theorem tr_cut {wide : Int} (hw : isW wide = true) (b : Bool) : tr b &&& mk wide = tr b := by
 refine mk_cut hw (BitVec.le_trans (tr_le b) ?_)
 have h1 := mk_toNat hw
 have h' := isW_iff.1 hw
 have : 2 ^ 1 <= 2 ^ wide.toNat := Nat.pow_le_pow_right (by omega) (by omega)
 have h2 : (1#64).toNat = 1 := rfl
 rw [BitVec.le_def]
 omega
theorem divW_le {wide : Int} (hw : isW wide = true) {a b : W} (ha : a <= mk wide) (hb : b <= mk wide) : (divW wide a b).1 <= mk wide /\ (divW wide a b).2 <= mk wide := by
 unfold divW
 split
 · split
   · exact ⟨BitVec.le_refl _, ha⟩
   · refine ⟨BitVec.le_trans ?_ ha, BitVec.le_trans ?_ ha⟩
     · rw [BitVec.le_def, BitVec.toNat_udiv]; exact Nat.div_le_self _ _
     · rw [BitVec.le_def, BitVec.toNat_umod]; exact Nat.mod_le _ _
 · exact ⟨by rw [BitVec.le_def]; exact Nat.zero_le _, by rw [BitVec.le_def]; exact Nat.zero_le _⟩
theorem l2Do_ok {k : Nat} (hk : 200 <= k) {wide : Int} (hw : isW wide = true) (op : Int) (a b : W) (ha : a <= mk wide) (hb : b <= mk wide) : c199 k wide op (wi a) (wi b) = r199 (wi (apW wide op a b)) := by
 obtain ⟨k, rfl⟩ : ∃ j, k = j + 1 := ⟨k - 1, by omega⟩
 rw [n199]
 have hd := divS_ok (k := k) (by omega) hw a b
 have hcut := fun x : W => cutM_ok (k := k) (by omega) hw x
 have hs := fun l => shiftS_ok (k := k) (by omega) hw a b l ha
 have ht := fun x => boolS_ok (k := k) (by omega) x
 have hga := signedS_ok (k := k) (by omega) hw a ha
 have hgb := signedS_ok (k := k) (by omega) hw b hb
 obtain ⟨hd1, hd2⟩ := divW_le hw ha hb
 simp only [hd, hs, ht, hga, hgb, R220_r, R221_r, R222_r, R223_r, add_wi, sub_wi, mul_wi, and_wi, or_wi, xor_wi, wi_beq, wi_lt_iff, hcut, R198_r]
 unfold apW apRaw
 have q : ∀ {c d : Int}, c ≠ d -> (c == d) = false := fun h => by simpa using h
 by_cases h1 : op = 3
 · subst h1; rfl
 by_cases h2 : op = 4
 · subst h2; rfl
 by_cases h3 : op = 5
 · subst h3; rfl
 by_cases h4 : op = 6
 · subst h4; show r199 _ = r199 (wi ((divW wide a b).1 &&& mk wide)); rw [mk_cut hw hd1]
 by_cases h5 : op = 7
 · subst h5; show r199 _ = r199 (wi ((divW wide a b).2 &&& mk wide)); rw [mk_cut hw hd2]
 by_cases h6 : op = 8
 · subst h6; show r199 _ = r199 (wi ((a &&& b) &&& mk wide)); rw [mk_cut hw (BitVec.le_trans (and_le_left' a b) ha)]
 by_cases h7 : op = 17
 · subst h7; show r199 _ = r199 (wi ((a &&& b) &&& mk wide)); rw [mk_cut hw (BitVec.le_trans (and_le_left' a b) ha)]
 by_cases h8 : op = 9
 · subst h8; show r199 _ = r199 (wi ((a ||| b) &&& mk wide)); rw [or_cut hw ha hb]
 by_cases h9 : op = 18
 · subst h9; show r199 _ = r199 (wi ((a ||| b) &&& mk wide)); rw [or_cut hw ha hb]
 by_cases h10 : op = 10
 · subst h10; show r199 _ = r199 (wi ((a ^^^ b) &&& mk wide)); rw [xor_cut hw ha hb]
 by_cases h11 : op = 11
 · subst h11; rfl
 by_cases h12 : op = 12
 · subst h12; rfl
 by_cases h13 : op = 14
 · subst h13; show r199 _ = r199 (wi (tr (a == b) &&& mk wide)); rw [tr_cut hw]
 by_cases h14 : op = 15
 · subst h14; show r199 _ = r199 (wi (tr (decide (a < b)) &&& mk wide)); rw [tr_cut hw]
 by_cases h15 : op = 16
 · subst h15; show r199 _ = r199 (wi (tr (decide (sgn wide a < sgn wide b)) &&& mk wide)); rw [tr_cut hw, sgn_sg hw ha, sgn_sg hw hb]
 simp only [q h1, q h2, q h3, q h4, q h5, q h6, q h7, q h8, q h9, q h10, q h11, q h12, q h13, q h14, q h15, cond_false, h1, h2, h3, h4, h5, h6, h7, h8, h9, h10, h11, h12, h13, h14, h15, if_false]
 have e : (0#64 : W) &&& mk wide = 0#64 := by simp
 rw [e]
 rfl
theorem kst_need {wide vars : Int} : ∀ {t : List Nd} {st st' : List Int}, kst wide vars t st = some st' -> ∀ x ∈ t, (need x.1).2.2 ≠ 0
 | [], st, st', h => by simp
 | x :: t, st, st', h => by
   simp only [kst] at h
   split at h
   · cases h
   · rename_i h0
     split at h
     · cases h
     · split at h
       · cases h
       · split at h
         · cases h
         · intro y hy
           rcases List.mem_cons.1 hy with rfl | hy
           · exact h0
           · exact kst_need h y hy
theorem need_cases {op : Int} (h : (need op).2.2 ≠ 0) : ((op = 1 ∨ op = 20) /\ (need op).1 = 0) ∨ (op = 2 /\ (need op).1 = 0) ∨ ((op = 13 ∨ op = 19) /\ (need op).1 = 1) ∨ (op ≠ 1 /\ op ≠ 20 /\ op ≠ 2 /\ op ≠ 13 /\ op ≠ 19 /\ (need op).1 = 2) := by
 by_cases h1 : op = 1
 · subst h1; exact .inl ⟨.inl rfl, rfl⟩
 by_cases h20 : op = 20
 · subst h20; exact .inl ⟨.inr rfl, by decide⟩
 by_cases h2 : op = 2
 · subst h2; exact .inr (.inl ⟨rfl, by decide⟩)
 by_cases h13 : op = 13
 · subst h13; exact .inr (.inr (.inl ⟨.inl rfl, by decide⟩))
 by_cases h19 : op = 19
 · subst h19; exact .inr (.inr (.inl ⟨.inr rfl, by decide⟩))
 refine .inr (.inr (.inr ⟨h1, h20, h2, h13, h19, ?_⟩))
 unfold need at h ⊢
 rw [if_neg (by omega), if_neg h20, if_neg h13, if_neg h19] at h ⊢
 split
 · rfl
 · split
   · rfl
   · split
     · rfl
     · rename_i b1 b2 b3
       rw [if_neg b1, if_neg b2, if_neg b3] at h
       exact absurd rfl h
theorem Fit.le {wide : Int} (hw : isW wide = true) {ks : List Int} {vs : List W} (h : Fit wide ks vs) : ∀ v ∈ vs, v <= mk wide := by
 induction h with
 | nil => simp
 | cons ho _ ih =>
   intro v hv
   rcases List.mem_cons.1 hv with rfl | hv
   · rcases ho with ho | ho
     · exact ho.2
     · refine BitVec.le_trans ho.2 ?_
       exact le_of_cut hw (by
         have := tr_cut hw true
         simpa [tr] using this)
   · exact ih v hv
theorem good_prefix {wide vars : Int} {t : List Nd} (h : goodT wide vars t = true) {s : List W} (hs : (s.length : Int) = vars) (hg : ∀ a ∈ s, a <= mk wide) : (∀ x ∈ t, (need x.1).2.2 ≠ 0) /\ ∀ (j : Nat) (us : List W), vrun wide s (t.take j) [] = some us -> ∀ u ∈ us, u <= mk wide := by
 obtain ⟨hsz, c, hk, hc⟩ := goodT_iff.1 h
 have hw : isW wide = true := by simp only [sizeT, Bool.and_eq_true] at hsz; exact hsz.1.1.1
 have hv : isV vars = true := by simp only [sizeT, Bool.and_eq_true] at hsz; exact hsz.1.1.2
 refine ⟨kst_need hk, fun j us hus => ?_⟩
 rw [<- List.take_append_drop j t, kst_app] at hk
 obtain ⟨ks, h1, h2⟩ := Option.bind_eq_some_iff.1 hk
 obtain ⟨vs', h3, hf⟩ := run_fit hw hv hs hg h1 .nil
 rw [hus] at h3
 injection h3 with h3
 subst h3
 exact hf.le hw
theorem node_ok {wide vars : Int} {t : List Nd} (hgt : goodT wide vars t = true) {s : List W} (hs : (s.length : Int) = vars) (hg : ∀ a ∈ s, a <= mk wide) (ht : t.length <= 100) (hw : isW wide = true) (hv : isV vars = true) : ∀ (m j : Nat), j < m -> j < t.length -> ∀ (v : W) (vs : List W), vrun wide s (t.take (j + 1)) [] = some (v :: vs) ->
   ∃ f, f <= j /\ vrun wide s (t.take f) [] = some vs /\ (∀ k, 300 + j <= k -> c200 k (encT t) (j : Int) = r200 (f : Int)) /\ ∀ k, 300 + 2 * j <= k -> c176 k wide (encT t) (j : Int) (encW s) = r176 (wi v)
 | 0, j, h, hj, v, vs, hr => by omega
 | m + 1, j, h, hj, v, vs, hr => by
   obtain ⟨hne, hle⟩ := good_prefix hgt hs hg
   have hv' := isV_iff.1 hv
   have htk : t.take (j + 1) = t.take j ++ [t[j]] := List.take_succ_eq_append_getElem hj
   rw [htk, vrun_app] at hr
   obtain ⟨us, hu, hr⟩ := Option.bind_eq_some_iff.1 hr
   have hx := hne t[j] (List.getElem_mem hj)
   have from_ok : ∀ k, 300 + j <= k -> c200 k (encT t) (j : Int) = L200_1 (k - 1) (k - 1) (encT t) ((need t[j].1).1 : Nat) (j : Int) := by
     intro k hk
     obtain ⟨k, rfl⟩ : ∃ i, k = i + 1 := ⟨k - 1, by omega⟩
     rw [n200, lookT hj]
     simp only [Option.bind_some, encN_op]
     rw [needS_ok (by omega)]
     simp only [R189_r, Nat.add_sub_cancel]
   have from0 : ∀ (k n : Nat) (f : Int), 1 <= n -> L200_1 k n (encT t) ((0 : Nat) : Int) f = r200 f := by
     intro k n f hn
     obtain ⟨n, rfl⟩ : ∃ i, n = i + 1 := ⟨n - 1, by omega⟩
     rw [sL200_1]
     rfl
   have fromS : ∀ (k n a f f2 : Nat), 1 <= n -> 1 <= f -> f <= 1000 -> a <= 5 -> c200 k (encT t) ((f - 1 : Nat) : Int) = r200 (f2 : Int) -> L200_1 k n (encT t) ((a + 1 : Nat) : Int) (f : Int) = L200_1 k (n - 1) (encT t) (a : Int) (f2 : Int) := by
     intro k n a f f2 hn hf hf2 ha hc
     obtain ⟨n, rfl⟩ : ∃ i, n = i + 1 := ⟨n - 1, by omega⟩
     rw [sL200_1]
     have hd : decide (((a + 1 : Nat) : Int) > 0) = true := by (simp; try omega)
     rw [hd, i64_id (n := (f : Int) - 1) (by omega) (by omega), show (f : Int) - 1 = ((f - 1 : Nat) : Int) by omega, hc]
     simp only [cond_true, R200_r]
     rw [i64_id (by omega) (by omega), show ((a + 1 : Nat) : Int) - 1 = (a : Int) by omega]
     rfl
   have val_ok : ∀ k, c176 (k + 1) wide (encT t) (j : Int) (encW s) = _ := fun k => n176 k wide (encT t) (j : Int) (encW s)
   rcases need_cases hx with ⟨h1, hn⟩ | ⟨h1, hn⟩ | ⟨h1, hn⟩ | ⟨h1, h20, h2, h13, h19, hn⟩
   · simp only [vrun] at hr
     rw [if_pos h1] at hr
     injection hr with hr
     injection hr with e1 e2
     subst e2
     refine ⟨j, by omega, hu, fun k hk => ?_, fun k hk => ?_⟩
     · rw [from_ok k hk, hn]
       exact from0 _ _ _ (by omega)
     · obtain ⟨k, rfl⟩ : ∃ i, k = i + 1 := ⟨k - 1, by omega⟩
       have h2' : (t[j].1 == 2) = false := by rcases h1 with h | h <;> simp [h]
       have h0' : ((((need t[j].1).1 : Nat) : Int) == 0) = true := by simp [hn]
       rw [n176, lookT hj]
       simp only [Option.bind_some, encN_shp, encN_op, encN_n, cond_true]
       rw [needS_ok (by omega)]
       simp only [R189_r, h2', h0', cond_false, cond_true, e1]
   · simp only [vrun] at hr
     rw [if_neg (by omega), if_pos h1] at hr
     obtain ⟨a, ha, hr⟩ := Option.bind_eq_some_iff.1 hr
     injection hr with hr
     injection hr with e1 e2
     subst e2
     refine ⟨j, by omega, hu, fun k hk => ?_, fun k hk => ?_⟩
     · rw [from_ok k hk, hn]
       exact from0 _ _ _ (by omega)
     · obtain ⟨k, rfl⟩ : ∃ i, k = i + 1 := ⟨k - 1, by omega⟩
       have h2' : (t[j].1 == 2) = true := by simpa using h1
       have e4 : (wi t[j].2).toNat = t[j].2.toNat := by simp [wi]
       rw [n176, lookT hj]
       simp only [Option.bind_some, encN_shp, encN_op, encN_n, cond_true]
       rw [needS_ok (by omega)]
       simp only [R189_r, h2', cond_true]
       rw [lookP_int (wi_nonneg _), encW_get, e4, ha]
       simp only [Option.map_some, Option.bind_some, int_atInt, e1]
   · have hus : ∃ a, us = a :: vs /\ ((t[j].1 = 13 /\ v = (~~~a &&& mk wide)) ∨ (t[j].1 = 19 /\ v = (1#64 - a))) := by
       simp only [vrun] at hr
       rw [if_neg (by omega), if_neg (by omega)] at hr
       rcases h1 with h1 | h1
       · rw [if_pos h1] at hr
         cases us with
         | nil => cases hr
         | cons a r =>
           injection hr with hr
           injection hr with e1 e2
           exact ⟨a, by rw [e2], .inl ⟨h1, e1.symm⟩⟩
       · rw [if_neg (by omega), if_pos h1] at hr
         cases us with
         | nil => cases hr
         | cons a r =>
           injection hr with hr
           injection hr with e1 e2
           exact ⟨a, by rw [e2], .inr ⟨h1, e1.symm⟩⟩
     obtain ⟨a, rfl, hva⟩ := hus
     have hj0 : 1 <= j := by
       cases j with
       | zero => simp [vrun] at hu
       | succ j => omega
     have hjj : j - 1 + 1 = j := by omega
     obtain ⟨f, hf1, hf2, hf3, hf4⟩ := node_ok hgt hs hg ht hw hv m (j - 1) (by omega) (by omega) a vs (by rw [hjj]; exact hu)
     refine ⟨f, by omega, hf2, fun k hk => ?_, fun k hk => ?_⟩
     · rw [from_ok k hk, hn, fromS (k - 1) (k - 1) 0 j f (by omega) hj0 (by omega) (by omega) (hf3 (k - 1) (by omega))]
       exact from0 _ _ _ (by omega)
     · obtain ⟨k, rfl⟩ : ∃ i, k = i + 1 := ⟨k - 1, by omega⟩
       have h2' : (t[j].1 == 2) = false := by rcases h1 with h | h <;> simp [h]
       have h0' : ((((need t[j].1).1 : Nat) : Int) == 0) = false := by simp [hn]
       rw [n176, lookT hj]
       simp only [Option.bind_some, encN_shp, encN_op, encN_n, cond_true]
       rw [needS_ok (by omega), i64_id (n := (j : Int) - 1) (by omega) (by omega), show (j : Int) - 1 = ((j - 1 : Nat) : Int) by omega, hf4 k (by omega)]
       simp only [R189_r, h2', h0', cond_false, R176_r]
       rcases hva with ⟨h13, rfl⟩ | ⟨h19, rfl⟩
       · have e13 : (t[j].1 == 13) = true := by simpa using h13
         have e2 : (18446744073709551615 : Int) = wi (BitVec.allOnes 64) := rfl
         rw [e13, e2, xor_wi, cutM_ok (by omega) hw, BitVec.allOnes_xor]
         simp only [cond_true, R198_r]
       · have e13 : (t[j].1 == 13) = false := by simp [h19]
         have e19 : (t[j].1 == 19) = true := by simpa using h19
         have e1 : (1 : Int) = wi 1#64 := rfl
         rw [e13, e19, e1, sub_wi]
         simp only [cond_true, cond_false]
   · have hus : ∃ b a, us = b :: a :: vs /\ v = apW wide t[j].1 a b := by
       simp only [vrun] at hr
       rw [if_neg (by omega), if_neg h2, if_neg h13, if_neg h19] at hr
       rcases us with _ | ⟨b, _ | ⟨a, r⟩⟩
       · cases hr
       · cases hr
       · injection hr with hr
         injection hr with e1 e2
         exact ⟨b, a, by rw [e2], e1.symm⟩
     obtain ⟨b, a, rfl, rfl⟩ := hus
     have hj0 : 1 <= j := by
       cases j with
       | zero => simp [vrun] at hu
       | succ j => omega
     have hjj : j - 1 + 1 = j := by omega
     obtain ⟨f, hf1, hf2, hf3, hf4⟩ := node_ok hgt hs hg ht hw hv m (j - 1) (by omega) (by omega) b (a :: vs) (by rw [hjj]; exact hu)
     have hf0 : 1 <= f := by
       cases f with
       | zero => simp [vrun] at hf2
       | succ f => omega
     have hff : f - 1 + 1 = f := by omega
     obtain ⟨g, hg1, hg2, hg3, hg4⟩ := node_ok hgt hs hg ht hw hv m (f - 1) (by omega) (by omega) a vs (by rw [hff]; exact hf2)
     have hbm := hle j _ hu b (by simp)
     have ham := hle j _ hu a (by simp)
     refine ⟨g, by omega, hg2, fun k hk => ?_, fun k hk => ?_⟩
     · rw [from_ok k hk, hn, fromS (k - 1) (k - 1) 1 j f (by omega) hj0 (by omega) (by omega) (hf3 (k - 1) (by omega)), fromS (k - 1) (k - 1 - 1) 0 f g (by omega) hf0 (by omega) (by omega) (hg3 (k - 1) (by omega))]
       exact from0 _ _ _ (by omega)
     · obtain ⟨k, rfl⟩ : ∃ i, k = i + 1 := ⟨k - 1, by omega⟩
       have e2 : (t[j].1 == 2) = false := by simpa using h2
       have e13 : (t[j].1 == 13) = false := by simpa using h13
       have e19 : (t[j].1 == 19) = false := by simpa using h19
       have h0' : ((((need t[j].1).1 : Nat) : Int) == 0) = false := by simp [hn]
       rw [n176, lookT hj]
       simp only [Option.bind_some, encN_shp, encN_op, encN_n, cond_true]
       rw [needS_ok (by omega), i64_id (n := (j : Int) - 1) (by omega) (by omega), show (j : Int) - 1 = ((j - 1 : Nat) : Int) by omega, hf4 k (by omega), hf3 k (by omega)]
       simp only [R189_r, e2, h0', e13, e19, cond_false, R176_r, R200_r]
       rw [i64_id (n := (f : Int) - 1) (by omega) (by omega), show (f : Int) - 1 = ((f - 1 : Nat) : Int) by omega, hg4 k (by omega)]
       simp only [R176_r]
       rw [l2Do_ok (by omega) hw _ a b ham hbm]
       simp only [R199_r]
theorem l2Value_ok {k : Nat} (hk : 600 <= k) {wide vars : Int} {t : List Nd} (hgt : goodT wide vars t = true) {s : List W} (hs : (s.length : Int) = vars) (hg : ∀ a ∈ s, a <= mk wide) (ht : t.length <= 100) {v : W} (hv : vrun wide s t [] = some [v]) :
   c176 k wide (encT t) (IntKind.i64.wrap ((t.length : Int) - 1)) (encW s) = r176 (wi v) := by
 have hsz := (goodT_iff.1 hgt).1
 simp only [sizeT, Bool.and_eq_true, decide_eq_true_eq] at hsz
 have hl := hsz.1.2
 obtain ⟨f, _, _, _, h4⟩ := node_ok hgt hs hg ht hsz.1.1.1 hsz.1.1.2 (t.length + 1) (t.length - 1) (by omega) (by omega) v [] (by rw [show t.length - 1 + 1 = t.length by omega, List.take_length]; exact hv)
 rw [i64_id (by omega) (by omega), show (t.length : Int) - 1 = ((t.length - 1 : Nat) : Int) by omega]
 exact h4 k (by omega)
end Go.Proofs.YthoecdnmokcfbaaGreat
/- FnPlayed: commands that are played. -/
set_option linter.unusedVariables false
set_option linter.unusedSimpArgs false
set_option maxRecDepth 4000
namespace Go.Proofs.YthoecdnmokcfbaaGreat
open Go.Dp
def encBo (l : List Bool) : List PV := l.map PV.bool
theorem encBo_get (l : List Bool) (i : Nat) : (encBo l)[i]? = (l[i]?).map PV.bool := by simp [encBo]
theorem good_all {p : Prg} (hg : goodP p = true) : kindT p.wide p.vars p.start = 2 /\ ∀ c ∈ p.cmds, kindT p.wide p.vars c.wh = 2 := by
 simp only [goodP, Bool.and_eq_true, List.all_eq_true, beq_iff_eq] at hg
 refine ⟨hg.1.1.1, fun c hc => ?_⟩
 have := hg.2 c hc
 simp only [goodCmd, Bool.and_eq_true, beq_iff_eq] at this
 exact this.1
theorem st_len {p : Prg} (hp : FitP p) {s : List W} (hs : stOK p s = true) : s.length <= 5 := by
 simp only [stOK, Bool.and_eq_true, decide_eq_true_eq] at hs
 have := hp.v
 omega
def holdT (p : Prg) (t : List Nd) (s : List W) : Bool := valD p.wide s t == 1#64
theorem holdsI_ok {k : Nat} (hk : 1000010 <= k) (p : Prg) (hg : goodP p = true) (l1 l2 : List PV) (t : List Nd) (ht : t.length <= 100) (hkt : kindT p.wide p.vars t = 2) (s : List W) (hs : stOK p s = true) : c67 k p.wide p.vars l1 l2 (encT t) (encW s) = r67 (holdT p t s) := by
 obtain ⟨k, rfl⟩ : ∃ j, k = j + 1 := ⟨k - 1, by omega⟩
 obtain ⟨hw, hv⟩ := goodP_size hg
 obtain ⟨h1, h2⟩ := (stOK_of hw).1 hs
 obtain ⟨hval, _⟩ := kind_val hkt (by omega) h1 h2
 rw [n67, valueOf_ok (by omega) hw s _ (by omega) hval]
 simp only [R130_r]
 have e : (1 : Int) = wi 1#64 := rfl
 rw [e, wi_beq]
 rfl
theorem holdsS_ok {k : Nat} (hk : 1000010 <= k) (p : Prg) (hg : goodP p = true) (l1 l2 : List PV) (t : List Nd) (ht : t.length <= 100) (hkt : kindT p.wide p.vars t = 2) (s : List W) (hs : stOK p s = true) : c120 k p.wide p.vars l1 l2 (encT t) (encW s) = r120 (holdT p t s) := by
 obtain ⟨k, rfl⟩ : ∃ j, k = j + 1 := ⟨k - 1, by omega⟩
 obtain ⟨hw, hv⟩ := goodP_size hg
 obtain ⟨h1, h2⟩ := (stOK_of hw).1 hs
 obtain ⟨hval, _⟩ := kind_val hkt (by omega) h1 h2
 rw [n120, encT_length, l2Value_ok (by omega) (kind_good (by omega)) h1 h2 ht hval]
 simp only [R176_r]
 have e : (1 : Int) = wi 1#64 := rfl
 rw [e, wi_beq]
 rfl
def enL (p : Prg) (s : List W) : Nat -> List Cmd -> List Int
 | _, [] => []
 | i, c :: l => (bif holdT p c.wh s then [(i : Int)] else []) ++ enL p s (i + 1) l
theorem enL_mem (p : Prg) (s : List W) : ∀ (l : List Cmd) (i : Nat) (v : Int), v ∈ enL p s i l ↔ ∃ j c, l[j]? = some c /\ holdT p c.wh s = true /\ v = ((i + j : Nat) : Int)
 | [], i, v => by simp [enL]
 | c :: l, i, v => by
   simp only [enL, List.mem_append, enL_mem p s l (i + 1) v]
   constructor
   · rintro (h | ⟨j, c', h1, h2, h3⟩)
     · cases hh : holdT p c.wh s
       · rw [hh] at h; simp at h
       · rw [hh] at h
         simp at h
         exact ⟨0, c, rfl, hh, by simp [h]⟩
     · exact ⟨j + 1, c', by simpa using h1, h2, by rw [h3]; omega⟩
   · rintro ⟨j, c', h1, h2, h3⟩
     cases j with
     | zero =>
       simp at h1
       subst h1
       left
       rw [h2, h3]
       simp
     | succ j => exact .inr ⟨j, c', by simpa using h1, h2, by rw [h3]; omega⟩
theorem enabledS_loop {k : Nat} (hk : 1000010 <= k) (p : Prg) (hp : FitP p) (hg : goodP p = true) (s : List W) (hs : stOK p s = true) (l1 l2 : List PV) : ∀ (n i : Nat) (o : List Int), p.cmds.length - i < n -> i <= p.cmds.length -> o.length <= i ->
   L171_1 k n (encW s) o.length (encCms p.cmds) (p.cmds.length : Int) (i : Int) p.wide p.vars l1 l2 (encZ o) = r171 (encZ (o ++ enL p s i (p.cmds.drop i)))
 | 0, i, o, h, hi, ho => by omega
 | n + 1, i, o, h, hi, ho => by
   have hcm := hp.cm
   rw [sL171_1]
   have e1 : (encZ o).take o.length = encZ o := by rw [List.take_of_length_le (by simp)]
   rw [e1]
   by_cases hlt : i < p.cmds.length
   · have hd : decide ((i : Int) < (p.cmds.length : Int)) = true := by simpa using hlt
     have hm := List.getElem_mem hlt
     rw [hd, lookP_nat, encCms_get, List.getElem?_eq_getElem hlt, drop_cons hlt]
     simp only [cond_true, Option.map_some, Option.bind_some, encCm_shp, encCm_wh, encCm_ch]
     rw [holdsS_ok (by omega) p hg _ _ _ (hp.c _ hm).wh ((good_all hg).2 _ hm) s hs]
     simp only [R120_r, enL]
     rw [i64_id (by omega) (by omega)]
     cases holdT p p.cmds[i].wh s
     · simp only [cond_false, List.nil_append]
       exact enabledS_loop hk p hp hg s hs l1 l2 n (i + 1) o (by omega) (by omega) (by omega)
     · simp only [cond_true]
       rw [lim_ok (by omega) (by omega), encZ_snoc]
       have e2 : o.length + 1 = (o ++ [(i : Int)]).length := by simp
       simp only [cond_true]
       rw [e2, <- List.append_assoc]
       exact enabledS_loop hk p hp hg s hs l1 l2 n (i + 1) _ (by omega) (by omega) (by simp; omega)
   · have hd : decide ((i : Int) < (p.cmds.length : Int)) = false := by simpa using hlt
     rw [hd, List.drop_eq_nil_of_le (by omega)]
     simp [enL]
theorem do_loop {k : Nat} (hk : 1000000 <= k) (p : Prg) (hw : isW p.wide = true) (l1 l2 : List PV) (s : List W) (hs : (s.length : Int) = p.vars) (hg : ∀ a ∈ s, a <= mk p.wide) (ch : List Chg) (hl : ch.length <= 100) (hx : ∀ x ∈ ch, 0 <= x.v /\ x.v < p.vars /\ kindT p.wide p.vars x.by1 = 1 /\ x.by1.length <= 100) : ∀ (n i : Nat) (o : List W), ch.length - i < n -> i <= ch.length -> o.length = s.length ->
   L173_1 k n (encW s) o.length (encChs ch) (ch.length : Int) (i : Int) p.wide p.vars l1 l2 (encW o) = r173 (encW (afterS p.wide s (ch.drop i) o))
 | 0, i, o, h, hi, ho => by omega
 | n + 1, i, o, h, hi, ho => by
   rw [sL173_1]
   by_cases hlt : i < ch.length
   · have hd : decide ((i : Int) < (ch.length : Int)) = true := by simpa using hlt
     have hxi := hx _ (List.getElem_mem hlt)
     obtain ⟨hv, _⟩ := kind_val hxi.2.2.1 (by omega) hs hg
     rw [hd, lookP_nat, encChs_get, List.getElem?_eq_getElem hlt, drop_cons hlt]
     simp only [cond_true, Option.map_some, Option.bind_some, encCh_shp, encCh_v, encCh_by, encT_length]
     rw [l2Value_ok (by omega) (kind_good (by omega)) hs hg hxi.2.2.2 hv]
     simp only [R176_r]
     have hin : (decide ((0 : Int) <= ch[i].v) && decide (ch[i].v < (o.length : Int))) = true := by simp; omega
     have hget : (encW o)[0 + ch[i].v.toNat]? = some (PV.int .u64 (wi (o[ch[i].v.toNat]'(by omega)))) := by rw [Nat.zero_add, encW_get, List.getElem?_eq_getElem (by omega)]; rfl
     rw [hin, hget]
     simp only [cond_true, Option.bind_some, Nat.zero_add]
     have hset : (encW o).set ch[i].v.toNat (PV.int .u64 (wi (valD p.wide s ch[i].by1))) = encW (o.set ch[i].v.toNat (valD p.wide s ch[i].by1)) := by simp [encW, List.map_set]
     rw [hset, i64_id (by omega) (by omega)]
     have := do_loop hk p hw l1 l2 s hs hg ch hl hx n (i + 1) (o.set ch[i].v.toNat (valD p.wide s ch[i].by1)) (by omega) (by omega) (by simpa using ho)
     rw [List.length_set] at this
     exact this
   · have hd : decide ((i : Int) < (ch.length : Int)) = false := by simpa using hlt
     rw [hd, List.drop_eq_nil_of_le (by omega)]
     have e1 : (encW o).take o.length = encW o := by rw [List.take_of_length_le (by simp)]
     simp only [cond_false, e1]
     rfl
end Go.Proofs.YthoecdnmokcfbaaGreat
/- FnNumbered: states of drawn small programs and their numbers correspond. -/
set_option linter.unusedVariables false
set_option linter.unusedSimpArgs false
set_option maxRecDepth 4000
namespace Go.Proofs.YthoecdnmokcfbaaGreat
open Go.Dp
def pw (p : Prg) : Nat := p.wide.toNat
def pv (p : Prg) : Nat := p.vars.toNat
theorem small_nat2 {p : Prg} (h : smallP p = true) : p.wide = (pw p : Int) /\ p.vars = (pv p : Int) /\ 1 <= pw p /\ 1 <= pv p /\ pv p <= 4 /\ pw p * pv p <= 5 /\ pw p <= 5 := by
 obtain ⟨w, v, h1, h2, h3, h4, h5, h6, h7⟩ := small_nat h
 have e1 : pw p = w := by unfold pw; omega
 have e2 : pv p = v := by unfold pv; omega
 rw [e1, e2]
 refine ⟨h1, h2, h3, h4, h5, h6, ?_⟩
 have : w * 1 <= w * v := Nat.mul_le_mul_left _ h4
 omega
theorem stOK_nat {p : Prg} (h : smallP p = true) {s : List W} (hs : stOK p s = true) : s.length = pv p /\ ∀ a ∈ s, a.toNat < 2 ^ pw p := by
 obtain ⟨h1, h2, h3, h4, h5, h6, h7⟩ := small_nat2 h
 simp only [stOK, Bool.and_eq_true, decide_eq_true_eq, List.all_eq_true] at hs
 refine ⟨by omega, fun a ha => ?_⟩
 have := hs.2 a ha
 rw [h1] at this
 exact goodW_lt (by omega) this
def noOK (p : Prg) (no : Int) : Bool := smallP p && decide (0 <= no) && decide (no < ((2 ^ (pw p * pv p) : Nat) : Int))
theorem stOK_digs {p : Prg} {no : Int} (h : noOK p no = true) : smallP p = true /\ stOK p (digs (pw p) (pv p) no.toNat) = true /\ (noOf (pw p) (digs (pw p) (pv p) no.toNat) : Int) = no := by
 simp only [noOK, Bool.and_eq_true, decide_eq_true_eq] at h
 obtain ⟨⟨h1, h2⟩, h3⟩ := h
 obtain ⟨h4, h5, h6, h7, h8, h9, h10⟩ := small_nat2 h1
 refine ⟨h1, ?_, ?_⟩
 · simp only [stOK, Bool.and_eq_true, decide_eq_true_eq, List.all_eq_true]
   refine ⟨by rw [digs_length, h5], fun a ha => ?_⟩
   have := digs_lt (w := pw p) (by omega) a ha
   rw [h4]
   exact goodW_of h6 (by omega) this
 · rw [noOf_digs (by omega) (by omega)]
   omega
theorem noOK_noOf {p : Prg} {s : List W} (h1 : smallP p = true) (h2 : stOK p s = true) : noOK p (noOf (pw p) s : Int) = true /\ digs (pw p) (pv p) (noOf (pw p) s : Int).toNat = s := by
 obtain ⟨h3, h4⟩ := stOK_nat h1 h2
 refine ⟨?_, ?_⟩
 · simp only [noOK, h1, Bool.true_and, Bool.and_eq_true, decide_eq_true_eq]
   have := noOf_lt h4
   rw [h3] at this
   exact ⟨Int.natCast_nonneg _, by omega⟩
 · rw [Int.toNat_natCast, <- h3]
   exact digs_noOf h4
end Go.Proofs.YthoecdnmokcfbaaGreat
/- Small programs: states by their numbers; where a condition holds; lists of states. -/
set_option linter.unusedVariables false
set_option linter.unusedSimpArgs false
set_option maxRecDepth 4000
namespace Go.Proofs.YthoecdnmokcfbaaGreat
open Go.Dp
def nS (p : Prg) : Nat := 2 ^ (pw p * pv p)
def sto (p : Prg) (no : Int) : List W := digs (pw p) (pv p) no.toNat
def inS (p : Prg) (no : Int) : Prop := 0 <= no /\ no < (nS p : Int)
theorem nS_le {p : Prg} (h : smallP p = true) : 2 <= nS p /\ nS p <= 32 := by
 obtain ⟨_, _, h3, h4, _, h6, _⟩ := small_nat2 h
 refine ⟨?_, pow5 h6⟩
 have : 1 <= pw p * pv p := Nat.mul_pos h3 h4
 exact Nat.pow_le_pow_right (n := 2) (by omega) this
theorem inS_no {p : Prg} (h : smallP p = true) {no : Int} (hi : inS p no) : noOK p no = true := by
 simp only [noOK, h, Bool.true_and, Bool.and_eq_true, decide_eq_true_eq]
 exact hi
theorem sto_ok {p : Prg} (h : smallP p = true) {no : Int} (hi : inS p no) : stOK p (sto p no) = true := (stOK_digs (inS_no h hi)).2.1
theorem no_inS {p : Prg} (h : smallP p = true) {s : List W} (hs : stOK p s = true) : inS p (noOf (pw p) s : Int) /\ sto p (noOf (pw p) s : Int) = s := by
 obtain ⟨h1, h2⟩ := noOK_noOf h hs
 simp only [noOK, Bool.and_eq_true, decide_eq_true_eq] at h1
 exact ⟨⟨h1.1.2, h1.2⟩, h2⟩
theorem stoI_ok {k : Nat} (hk : 100 <= k) {p : Prg} (h : smallP p = true) (l1 l2 : List PV) {no : Int} (hi : inS p no) : c68 k p.wide p.vars l1 l2 no = r68 (encW (sto p no)) := by
 obtain ⟨h1, h2, h3, h4, h5, h6, _⟩ := small_nat2 h
 have := stateOf_ok hk (pw p) (pv p) h3 h6 h5 l1 l2 no.toNat (by have := hi.1; have := hi.2; unfold nS at this; omega)
 rw [<- h1, <- h2, Int.toNat_of_nonneg hi.1] at this
 exact this
theorem stoS_ok {k : Nat} (hk : 100 <= k) {p : Prg} (h : smallP p = true) (l1 l2 : List PV) {no : Int} (hi : inS p no) : c121 k p.wide p.vars l1 l2 no = r121 (encW (sto p no)) := by
 obtain ⟨h1, h2, h3, h4, h5, h6, _⟩ := small_nat2 h
 have := l7Of_ok hk (pw p) (pv p) h3 h6 h5 l1 l2 no.toNat (by have := hi.1; have := hi.2; unfold nS at this; omega)
 rw [<- h1, <- h2, Int.toNat_of_nonneg hi.1] at this
 exact this
theorem nSI_ok {k : Nat} (hk : 1 <= k) {p : Prg} (h : smallP p = true) (l1 l2 : List PV) : c50 k p.wide p.vars l1 l2 = r50 (nS p : Int) := by
 obtain ⟨h1, h2, h3, h4, h5, h6, _⟩ := small_nat2 h
 rw [h1, h2]
 exact states_ok hk (pw p) (pv p) h6 l1 l2
theorem nSS_ok {k : Nat} (hk : 1 <= k) {p : Prg} (h : smallP p = true) (l1 l2 : List PV) : c115 k p.wide p.vars l1 l2 = r115 (nS p : Int) := by
 obtain ⟨h1, h2, h3, h4, h5, h6, _⟩ := small_nat2 h
 rw [h1, h2]
 exact l7Many_ok hk (pw p) (pv p) h6 l1 l2
theorem noI_ok {k : Nat} (hk : 100 <= k) {p : Prg} (h : smallP p = true) (l1 l2 : List PV) {s : List W} (hs : stOK p s = true) : c126 k p.wide p.vars l1 l2 (encW s) = r126 (noOf (pw p) s : Int) := by
 obtain ⟨h1, h2, h3, h4, h5, h6, _⟩ := small_nat2 h
 obtain ⟨h7, h8⟩ := stOK_nat h hs
 rw [h1, h2]
 exact stateNo_ok hk (pw p) (pv p) h6 l1 l2 s h7 h5 h8
theorem noS_ok {k : Nat} (hk : 100 <= k) {p : Prg} (h : smallP p = true) (l1 l2 : List PV) {s : List W} (hs : stOK p s = true) : c172 k p.wide p.vars l1 l2 (encW s) = r172 (noOf (pw p) s : Int) := by
 obtain ⟨h1, h2, h3, h4, h5, h6, _⟩ := small_nat2 h
 obtain ⟨h7, h8⟩ := stOK_nat h hs
 rw [h1, h2]
 exact l7No_ok hk (pw p) (pv p) h3 h6 l1 l2 s h7 h5 h8
theorem small_good {p : Prg} (h : smallP p = true) : goodP p = true := by
 simp only [smallP, Bool.and_eq_true] at h
 exact h.1
def hN (p : Prg) (t : List Nd) (no : Int) : Bool := holdT p t (sto p no)
def whN (p : Prg) (t : List Nd) : Nat -> Nat -> List Int
 | _, 0 => []
 | i, m + 1 => (bif hN p t (i : Int) then [(i : Int)] else []) ++ whN p t (i + 1) m
def whI (p : Prg) (t : List Nd) : List Int := whN p t 0 (nS p)
theorem whN_mem (p : Prg) (t : List Nd) : ∀ (m i : Nat) (x : Int), x ∈ whN p t i m ↔ (i : Int) <= x /\ x < (i + m : Nat) /\ hN p t x = true
 | 0, i, x => by simp [whN]; omega
 | m + 1, i, x => by
   simp only [whN, List.mem_append, whN_mem p t m (i + 1) x]
   by_cases hx : x = (i : Int)
   · subst hx
     cases hN p t (i : Int) <;> simp <;> omega
   · have : x ∉ (bif hN p t (i : Int) then [(i : Int)] else []) := by cases hN p t (i : Int) <;> simp [hx]
     simp only [this, false_or]
     constructor
     · rintro ⟨h1, h2, h3⟩; exact ⟨by omega, by omega, h3⟩
     · rintro ⟨h1, h2, h3⟩; exact ⟨by omega, by omega, h3⟩
theorem whI_mem (p : Prg) (t : List Nd) (x : Int) : x ∈ whI p t ↔ inS p x /\ hN p t x = true := by
 rw [whI, whN_mem]
 simp [inS, and_assoc]
theorem whN_len (p : Prg) (t : List Nd) : ∀ (m i : Nat), (whN p t i m).length <= m
 | 0, i => by simp [whN]
 | m + 1, i => by
   have := whN_len p t m (i + 1)
   simp only [whN, List.length_append]
   cases hN p t (i : Int) <;> simp <;> omega
theorem whN_lt (p : Prg) (t : List Nd) : ∀ (m i : Nat), (whN p t i m).Pairwise (· < ·)
 | 0, i => by simp [whN]
 | m + 1, i => by
   have h := whN_lt p t m (i + 1)
   simp only [whN]
   cases hN p t (i : Int)
   · exact h
   · simp only [cond_true, List.cons_append, List.nil_append, List.pairwise_cons]
     refine ⟨fun x hx => ?_, h⟩
     have := (whN_mem p t m (i + 1) x).1 hx
     omega
theorem where_loop {k : Nat} (hk : 1000100 <= k) {p : Prg} (hs : smallP p = true) (l1 l2 : List PV) (t : List Nd) (ht : t.length <= 100) (hkt : kindT p.wide p.vars t = 2) : ∀ (n i : Nat) (o : List Int), nS p - i < n -> i <= nS p -> o.length <= i ->
   L57_1 k n (encT t) o.length (nS p : Int) (i : Int) p.wide p.vars l1 l2 (encZ o) = r57 (encZ (o ++ whN p t i (nS p - i)))
 | 0, i, o, h, hi, ho => by omega
 | n + 1, i, o, h, hi, ho => by
   have hle := nS_le hs
   rw [sL57_1]
   have etk : (encZ o).take o.length = encZ o := by rw [List.take_of_length_le (by simp)]
   by_cases hlt : i < nS p
   · have hd : decide ((i : Int) < (nS p : Int)) = true := by simpa using hlt
     have hin : inS p (i : Int) := ⟨by omega, by omega⟩
     obtain ⟨m, hm⟩ : ∃ m, nS p - i = m + 1 := ⟨nS p - i - 1, by omega⟩
     have hm2 : nS p - (i + 1) = m := by omega
     rw [hd, stoI_ok (by omega) hs l1 l2 hin]
     simp only [cond_true, R68_r]
     rw [holdsI_ok (by omega) p (small_good hs) l1 l2 t ht hkt _ (sto_ok hs hin)]
     simp only [R67_r]
     rw [i64_id (by omega) (by omega), show (i : Int) + 1 = ((i + 1 : Nat) : Int) by omega, hm]
     simp only [whN]
     change (bif hN p t (i : Int) then _ else _) = _
     cases hh : hN p t (i : Int)
     · simp only [cond_false, List.nil_append]
       have := where_loop hk hs l1 l2 t ht hkt n (i + 1) o (by omega) (by omega) (by omega)
       rw [hm2] at this
       exact this
     · simp only [cond_true]
       rw [lim_ok (by omega) (by omega), etk, encZ_snoc]
       have := where_loop hk hs l1 l2 t ht hkt n (i + 1) (o ++ [(i : Int)]) (by omega) (by omega) (by simp; omega)
       rw [hm2, List.length_append, List.append_assoc] at this
       exact this
   · have hd : decide ((i : Int) < (nS p : Int)) = false := by simpa using hlt
     have h0 : nS p - i = 0 := by omega
     rw [hd, etk, h0]
     simp [whN]
theorem where_ok {k : Nat} (hk : 1000200 <= k) {p : Prg} (hs : smallP p = true) (l1 l2 : List PV) (t : List Nd) (ht : t.length <= 100) (hkt : kindT p.wide p.vars t = 2) : c57 k p.wide p.vars l1 l2 (encT t) = r57 (encZ (whI p t)) := by
 obtain ⟨k, rfl⟩ : ∃ j, k = j + 1 := ⟨k - 1, by omega⟩
 have hle := nS_le hs
 rw [n57, nSI_ok (by omega) hs]
 simp only [R50_r]
 have := where_loop (k := k) (by omega) hs l1 l2 t ht hkt k 0 [] (by omega) (by omega) (by simp)
 rw [show encZ ([] : List Int) = [] from rfl] at this
 simpa [whI] using this
theorem those_loop {k : Nat} (hk : 1000100 <= k) {p : Prg} (hs : smallP p = true) (l1 l2 : List PV) (t : List Nd) (ht : t.length <= 100) (hkt : kindT p.wide p.vars t = 2) : ∀ (n i : Nat) (o : List Int), nS p - i < n -> i <= nS p -> o.length <= i ->
   L59_1 k n (encT t) o.length (i : Int) p.wide p.vars l1 l2 (encZ o) = r59 (encZ (o ++ whN p t i (nS p - i)))
 | 0, i, o, h, hi, ho => by omega
 | n + 1, i, o, h, hi, ho => by
   have hle := nS_le hs
   rw [sL59_1, nSS_ok (by omega) hs]
   simp only [R115_r]
   have etk : (encZ o).take o.length = encZ o := by rw [List.take_of_length_le (by simp)]
   by_cases hlt : i < nS p
   · have hd : decide ((i : Int) < (nS p : Int)) = true := by simpa using hlt
     have hin : inS p (i : Int) := ⟨by omega, by omega⟩
     obtain ⟨m, hm⟩ : ∃ m, nS p - i = m + 1 := ⟨nS p - i - 1, by omega⟩
     have hm2 : nS p - (i + 1) = m := by omega
     rw [hd, stoS_ok (by omega) hs l1 l2 hin]
     simp only [cond_true, R121_r]
     rw [holdsS_ok (by omega) p (small_good hs) l1 l2 t ht hkt _ (sto_ok hs hin)]
     simp only [R120_r]
     rw [i64_id (by omega) (by omega), show (i : Int) + 1 = ((i + 1 : Nat) : Int) by omega, hm]
     simp only [whN]
     change (bif hN p t (i : Int) then _ else _) = _
     cases hh : hN p t (i : Int)
     · simp only [cond_false, List.nil_append]
       have := those_loop hk hs l1 l2 t ht hkt n (i + 1) o (by omega) (by omega) (by omega)
       rw [hm2] at this
       exact this
     · simp only [cond_true]
       rw [lim_ok (by omega) (by omega), etk, encZ_snoc]
       have := those_loop hk hs l1 l2 t ht hkt n (i + 1) (o ++ [(i : Int)]) (by omega) (by omega) (by simp; omega)
       rw [hm2, List.length_append, List.append_assoc] at this
       exact this
   · have hd : decide ((i : Int) < (nS p : Int)) = false := by simpa using hlt
     have h0 : nS p - i = 0 := by omega
     rw [hd, etk, h0]
     simp [whN]
theorem those_ok {k : Nat} (hk : 1000200 <= k) {p : Prg} (hs : smallP p = true) (l1 l2 : List PV) (t : List Nd) (ht : t.length <= 100) (hkt : kindT p.wide p.vars t = 2) : c59 k p.wide p.vars l1 l2 (encT t) = r59 (encZ (whI p t)) := by
 obtain ⟨k, rfl⟩ : ∃ j, k = j + 1 := ⟨k - 1, by omega⟩
 have hle := nS_le hs
 rw [n59]
 have := those_loop (k := k) (by omega) hs l1 l2 t ht hkt k 0 [] (by omega) (by omega) (by simp)
 rw [show encZ ([] : List Int) = [] from rfl] at this
 simpa [whI] using this
def incG (b : Int) : Option Int -> List Int -> Bool
 | _, [] => true
 | pr, n :: l => decide (0 <= n) && decide (n < b) && (match pr with | none => true | some q => decide (q < n)) && incG b (some n) l
def prI (l : List Int) (i : Nat) : Option Int := if i = 0 then none else l[i - 1]?
theorem incG_at {b : Int} {l : List Int} {i : Nat} (h : i < l.length) : incG b (prI l i) (l.drop i) = (decide (0 <= l[i]) && decide (l[i] < b) && (if i = 0 then true else decide (l[i - 1]! < l[i])) && incG b (prI l (i + 1)) (l.drop (i + 1))) := by
 rw [drop_cons h]
 simp only [incG]
 have e : prI l (i + 1) = some l[i] := by simp [prI, h]
 rw [e]
 by_cases h0 : i = 0
 · subst h0; simp [prI]
 · have e2 : prI l i = some l[i - 1]! := by
     rw [prI, if_neg h0, List.getElem?_eq_getElem (by omega), getElem!_pos l (i - 1) (by omega)]
   rw [e2, if_neg h0]
theorem rise_loop {k : Nat} (hk : 1 <= k) (l : List Int) (hl : l.length <= 100000) (b : Int) : ∀ (n i : Nat), l.length - i < n -> i <= l.length -> L167_1 k n (encZ l) 0 (b - 1) (encZ l) (l.length : Int) (i : Int) = r167 (incG b (prI l i) (l.drop i))
 | 0, i, h, hi => by omega
 | n + 1, i, h, hi => by
   rw [sL167_1]
   by_cases hlt : i < l.length
   · have hd : decide ((i : Int) < (l.length : Int)) = true := by simpa using hlt
     rw [hd, encZ_lookup hlt, incG_at hlt]
     simp only [cond_true, Option.bind_some, int_atInt]
     have hnext : IntKind.i64.wrap ((i : Int) + 1) = ((i + 1 : Nat) : Int) := by rw [i64_id (by omega) (by omega)]; omega
     have eb : decide (l[i] <= b - 1) = decide (l[i] < b) := by
       rw [Bool.eq_iff_iff]; simp; omega
     rw [hnext, in_ok hk, eb]
     simp only [R52_r]
     cases hc : (decide (0 <= l[i]) && decide (l[i] < b))
     · rfl
     · simp only [Bool.not_true, cond_false, Bool.true_and]
       by_cases h0 : i = 0
       · have e5 : decide ((i : Int) > 0) = false := by simp; omega
         rw [e5, if_pos h0]
         simp only [cond_false, Bool.true_and]
         exact rise_loop hk l hl b n (i + 1) (by omega) (by omega)
       · have e5 : decide ((i : Int) > 0) = true := by simp; omega
         have e6 : IntKind.i64.wrap ((i : Int) - 1) = ((i - 1 : Nat) : Int) := by rw [i64_id (by omega) (by omega)]; omega
         rw [e5, if_neg h0, e6, encZ_lookup (l := l) (i := i - 1) (by omega)]
         simp only [cond_true, Option.bind_some, int_atInt]
         rw [<- getElem!_pos l (i - 1) (by omega)]
         by_cases h3 : l[i - 1]! ≥ l[i]
         · have e7 : decide (l[i - 1]! ≥ l[i]) = true := decide_eq_true h3
           have e8 : decide (l[i - 1]! < l[i]) = false := decide_eq_false (by omega)
           rw [e7, e8]; rfl
         · have e7 : decide (l[i - 1]! ≥ l[i]) = false := decide_eq_false h3
           have e8 : decide (l[i - 1]! < l[i]) = true := decide_eq_true (by omega)
           rw [e7, e8]
           simp only [cond_false, Bool.true_and]
           exact rise_loop hk l hl b n (i + 1) (by omega) (by omega)
   · have hd : decide ((i : Int) < (l.length : Int)) = false := by simpa using hlt
     rw [hd, List.drop_eq_nil_of_le (by omega)]
     rfl
theorem rise_ok {k : Nat} (hk : 100010 <= k) (l : List Int) (hl : l.length <= 100000) (b : Int) : c167 k (encZ l) 0 (b - 1) = r167 (incG b none l) := by
 obtain ⟨k, rfl⟩ : ∃ j, k = j + 1 := ⟨k - 1, by omega⟩
 rw [n167, encZ_length]
 exact rise_loop (k := k) (by omega) l hl b k 0 (by omega) (by omega)
theorem someOf_loop {bs : List Nat} (hc : CodeOK bs) {k : Nat} (hk : 2010 <= k) (n1 : Int) : ∀ (m n : Nat) (q : Int) (o : List Int) {at' : Int} (s : W), q.toNat <= m -> m < n -> q <= 100 -> o.length + m <= 200 -> 0 <= at' -> at' + 2 * m <= 700000000 ->
   ∃ a2 s2 l, L108_1 k n n1 o.length q (encB bs) at' (wi s) (encZ o) = r108 (encB bs) a2 (wi s2) (encZ l) /\ at' <= a2 /\ a2 <= at' + 2 * m + 2 /\ l.length <= o.length + m + 1
 | m, 0, q, o, at', s, h1, h2, _, _, _, _ => by omega
 | m, n + 1, q, o, at', s, h1, h2, h3, h4, h5, h6 => by
   rw [sL108_1]
   have etk : (encZ o).take o.length = encZ o := by rw [List.take_of_length_le (by simp)]
   rw [etk]
   by_cases hq : q > 0
   · have e1 : decide (q > 0) = true := by simpa using hq
     obtain ⟨a2, s2, v, h, h7, h8, _⟩ := pick_ok hc (k := k) (by omega) h5 (by omega) s n1
     have hpl := putI_len o v
     rw [e1, h]
     simp only [cond_true, R103_r]
     rw [l1Put_ok (by omega) o (by omega)]
     simp only [R119_r, encZ_length]
     rw [i64_id (by omega) (by omega)]
     cases m with
     | zero => omega
     | succ m =>
       obtain ⟨a3, s3, l, h, h9, h10, h11⟩ := someOf_loop hc hk n1 m n (q - 1) (putI o v) (at' := a2) s2 (by omega) (by omega) (by omega) (by omega) (by omega) (by omega)
       exact ⟨a3, s3, l, h, by omega, by omega, by omega⟩
   · have e1 : decide (q > 0) = false := by simpa using hq
     obtain ⟨a2, s2, b, h, h7, h8⟩ := one_ok hc (k := k) (by omega) h5 (by omega) s 40
     rw [e1, h]
     simp only [cond_false, R48_r]
     cases b
     · exact ⟨a2, s2, o, rfl, by omega, by omega, by omega⟩
     · rw [lim_ok (by omega) (by omega), encZ_snoc, List.take_of_length_le (by simp)]
       exact ⟨a2, s2, o ++ [n1], rfl, by omega, by omega, by simp⟩
theorem someOf_ok {bs : List Nat} (hc : CodeOK bs) {k : Nat} (hk : 2100 <= k) (n1 m1 : Int) (hm0 : 0 <= m1) (hm : m1 <= 50) {at' : Int} (h0 : 0 <= at') (h1 : at' <= 600000000) (s : W) :
   ∃ a2 s2 l, c108 k n1 m1 (encB bs) at' (wi s) = r108 (encB bs) a2 (wi s2) (encZ l) /\ at' <= a2 /\ a2 <= at' + 200 /\ l.length <= 60 := by
 obtain ⟨k, rfl⟩ : ∃ j, k = j + 1 := ⟨k - 1, by omega⟩
 rw [n108, i64_id (by omega) (by omega)]
 obtain ⟨a2, s2, v, h, h2, h3, h4, h5, _⟩ := pick_ok hc (k := k) (by omega) h0 (by omega) s (m1 + 1)
 have h5 := h5 (by omega)
 rw [h]
 simp only [R103_r]
 obtain ⟨a3, s3, l, h, h6, h7, h8⟩ := someOf_loop hc (k := k) (by omega) n1 51 k v [] (at' := a2) s2 (by omega) (by omega) (by omega) (by simp) (by omega) (by omega)
 exact ⟨a3, s3, l, h, by omega, by omega, by simp at h8; omega⟩
end Go.Proofs.YthoecdnmokcfbaaGreat
/- Lists of conditions: checked and drawn. -/
set_option linter.unusedVariables false
set_option linter.unusedSimpArgs false
set_option maxRecDepth 4000
namespace Go.Proofs.YthoecdnmokcfbaaGreat
open Go.Dp
def allC (p : Prg) (ts : List (List Nd)) : Bool := ts.all fun t => kindT p.wide p.vars t == 2
theorem allC_get {p : Prg} {ts : List (List Nd)} (h : allC p ts = true) : ∀ t ∈ ts, kindT p.wide p.vars t = 2 := by simpa [allC] using h
theorem notp_loop {k : Nat} (w1 v1 : Int) (l1 l2 : List PV) (f : List Nd -> Bool) (l : List (List Nd)) (hl : l.length <= 100000) (hc : ∀ x ∈ l, c193 k (encT x) w1 v1 l1 l2 = r193 (f x)) : ∀ (n i : Nat), l.length - i < n -> i <= l.length -> L219f193_1 k n (encTT l) w1 v1 l1 l2 (l.length : Int) (i : Int) = r219f193 (fixI f i (l.drop i))
 | 0, i, h, hi => by omega
 | n + 1, i, h, hi => by
   rw [sL219f193_1]
   by_cases hlt : i < l.length
   · have hd : decide ((i : Int) < (l.length : Int)) = true := by simpa using hlt
     have hnext : IntKind.i64.wrap ((i : Int) + 1) = ((i + 1 : Nat) : Int) := by rw [i64_id (by omega) (by omega)]; omega
     rw [hd, lookP_nat, encTT_get, List.getElem?_eq_getElem hlt, drop_cons hlt, hnext]
     simp only [cond_true, Option.map_some, Option.bind_some, row_atRow]
     rw [hc _ (List.getElem_mem hlt)]
     simp only [R193_r, fixI]
     cases f l[i]
     · exact notp_loop w1 v1 l1 l2 f l hl hc n (i + 1) (by omega) (by omega)
     · rfl
   · have hd : decide ((i : Int) < (l.length : Int)) = false := by simpa using hlt
     rw [hd, List.drop_eq_nil_of_le (by omega)]
     rfl
theorem notp_idx {k : Nat} (hk : 100010 <= k) (w1 v1 : Int) (l1 l2 : List PV) (f : List Nd -> Bool) (l : List (List Nd)) (hl : l.length <= 100000) (hc : ∀ x ∈ l, c193 k (encT x) w1 v1 l1 l2 = r193 (f x)) : c219f193 (k + 1) (encTT l) w1 v1 l1 l2 = r219f193 (fixI f 0 l) := by
 rw [n219f193, encTT_length]
 exact notp_loop (k := k) w1 v1 l1 l2 f l hl hc k 0 (by omega) (by omega)
theorem notp_ok {k : Nat} (hk : 100010 <= k) (w1 v1 : Int) (l1 l2 : List PV) (f : List Nd -> Bool) (l : List (List Nd)) (hl : l.length <= 100000) (hc : ∀ x ∈ l, c193 k (encT x) w1 v1 l1 l2 = r193 (f x)) : c192f193 (k + 2) (encTT l) w1 v1 l1 l2 = r192f193 (l.any f) := by
 rw [n192f193, notp_idx (by omega) w1 v1 l1 l2 f l hl hc]
 simp only [R219f193p_r, fixI_ge]
theorem any_not_all {α : Type} (f : α -> Bool) : ∀ l : List α, (l.any fun x => !f x) = !l.all f
 | [] => rfl
 | x :: l => by simp [any_not_all f l]
def predsOK (p : Prg) (ts : List (List Nd)) : Bool := decide (ts.length <= 8) && allC p ts
theorem arePreds_ok {k : Nat} (hk : 1000400 <= k) (p : Prg) (l1 l2 : List PV) (ts : List (List Nd)) (hl : ts.length <= 1000) (ht : ∀ t ∈ ts, t.length <= 100) : c144 k p.wide p.vars l1 l2 (encTT ts) 0 = r144 (predsOK p ts) := by
 obtain ⟨k, rfl⟩ : ∃ j, k = j + 4 := ⟨k - 4, by omega⟩
 have e0 : decide ((ts.length : Int) ≥ 0) = true := by simp
 rw [n144, encTT_length, e0]
 unfold predsOK
 by_cases h8 : ts.length <= 8
 · have e1 : decide ((ts.length : Int) <= 8) = true := by simp; omega
   have e2 : decide (ts.length <= 8) = true := by simpa using h8
   rw [e1, e2, notp_ok (k := k + 1) (by omega) p.wide p.vars _ _ (fun t => !(kindT p.wide p.vars t == 2)) ts (by omega) (fun t h => by
     rw [n193, cond_ok (by omega) _ _ _ _ t (by have := ht t h; omega)]
     simp only [R72_r])]
   simp only [R192f193p_r, any_not_all, cond_true, Bool.not_not, Bool.true_and]
   rfl
 · have e1 : decide ((ts.length : Int) <= 8) = false := by simp; omega
   have e2 : decide (ts.length <= 8) = false := by simpa using h8
   rw [e1, e2]
   rfl
theorem preds_loop {k : Nat} (hk : 1000300 <= k) (p : Prg) (l1 l2 : List PV) (ts : List (List Nd)) (hl : ts.length <= 1000) (ht : ∀ t ∈ ts, t.length <= 100) : ∀ (n i : Nat), ts.length - i < n -> i <= ts.length ->
   L165_1 k n (encTT ts) (ts.length : Int) (i : Int) p.wide p.vars l1 l2 = r165 (allC p (ts.drop i))
 | 0, i, h, hi => by omega
 | n + 1, i, h, hi => by
   rw [sL165_1]
   by_cases hlt : i < ts.length
   · have hd : decide ((i : Int) < (ts.length : Int)) = true := by simpa using hlt
     have hnext : IntKind.i64.wrap ((i : Int) + 1) = ((i + 1 : Nat) : Int) := by rw [i64_id (by omega) (by omega)]; omega
     have hm := List.getElem_mem hlt
     rw [hd, lookP_nat, encTT_get, List.getElem?_eq_getElem hlt, drop_cons hlt, hnext]
     simp only [cond_true, Option.map_some, Option.bind_some, row_atRow]
     rw [asks_ok (by omega) _ _ _ _ _ (by have := ht _ hm; omega)]
     simp only [R74_r, allC, List.all_cons]
     cases hk2 : (kindT p.wide p.vars ts[i] == 2)
     · rfl
     · exact preds_loop hk p l1 l2 ts hl ht n (i + 1) (by omega) (by omega)
   · have hd : decide ((i : Int) < (ts.length : Int)) = false := by simpa using hlt
     rw [hd, List.drop_eq_nil_of_le (by omega)]
     rfl
theorem l15Preds_ok {k : Nat} (hk : 1000400 <= k) (p : Prg) (l1 l2 : List PV) (ts : List (List Nd)) (hl : ts.length <= 1000) (ht : ∀ t ∈ ts, t.length <= 100) : c165 k p.wide p.vars l1 l2 (encTT ts) = r165 (predsOK p ts) := by
 obtain ⟨k, rfl⟩ : ∃ j, k = j + 1 := ⟨k - 1, by omega⟩
 rw [n165, encTT_length]
 unfold predsOK
 by_cases h8 : ts.length <= 8
 · have e1 : decide ((ts.length : Int) > 8) = false := by simp; omega
   have e2 : decide (ts.length <= 8) = true := by simpa using h8
   rw [e1, e2]
   simp only [cond_false, Bool.true_and]
   exact preds_loop (k := k) (by omega) p l1 l2 ts hl ht k 0 (by omega) (by omega)
 · have e1 : decide ((ts.length : Int) > 8) = true := by simp; omega
   have e2 : decide (ts.length <= 8) = false := by simpa using h8
   rw [e1, e2]
   rfl
theorem predsD_loop {bs : List Nat} (hc : CodeOK bs) {k : Nat} (hk : 2010 <= k) {wide vars : Int} (hw : wide <= 64) (hv : vars <= 100) (l1 l2 : List PV) : ∀ (m n : Nat) (q : Int) (o : List (List Nd)) {at' : Int} (s : W), q.toNat <= m -> m < n -> q <= 100 -> o.length + m <= 200 -> (∀ t ∈ o, t.length <= 100) -> 0 <= at' -> at' + 600 * m <= 590000000 ->
   ∃ a2 s2 l, L106_1 k n o.length q (encB bs) at' (wi s) wide vars l1 l2 (encTT o) = r106 (encB bs) a2 (wi s2) (encTT l) /\ at' <= a2 /\ a2 <= at' + 600 * m /\ l.length <= o.length + m /\ ∀ t ∈ l, t.length <= 100
 | m, 0, q, o, at', s, h1, h2, _, _, _, _, _ => by omega
 | m, n + 1, q, o, at', s, h1, h2, h3, h4, ho, h5, h6 => by
   rw [sL106_1]
   have etk : (encTT o).take o.length = encTT o := by rw [List.take_of_length_le (by simp)]
   rw [etk]
   by_cases hq : q > 0
   · have e1 : decide (q > 0) = true := by simpa using hq
     have hon : ∀ n : Int, 1 <= one1 n /\ (n <= 64 -> one1 n <= 64) /\ (n <= 100 -> one1 n <= 100) := by intro n; unfold one1; split <;> omega
     rw [e1, l2One_ok (by omega), l2One_ok (by omega)]
     simp only [cond_true, R135_r]
     obtain ⟨a2, s2, v, h, h7, h8, h9, h10, _⟩ := pick_ok hc (k := k) (by omega) h5 (by omega) s 2
     have h10 := h10 (by omega)
     rw [h]
     simp only [R103_r]
     cases m with
     | zero => omega
     | succ m =>
       obtain ⟨a3, s3, t, h, h11, h12, h13, h14⟩ := asked_int hc (wide := one1 wide) (vars := one1 vars) (by have := hon wide; omega) ((hon wide).2.1 hw) (hon vars).1 ((hon vars).2.2 hv) (d := v) (by omega) (by omega) (k := k) (by omega) (at' := a2) (by omega) (by omega) s2
       rw [h]
       simp only [R134_r, encT_length]
       have e3 : (encT t).take t.length = encT t := by rw [List.take_of_length_le (by simp)]
       rw [lim_ok (by omega) (by omega), i64_id (by omega) (by omega), e3, encTT_snoc]
       have := predsD_loop hc hk hw hv l1 l2 m n (q - 1) (o ++ [t]) (at' := a3) s3 (by omega) (by omega) (by omega) (by simp; omega) (fun u hu => by
         rcases List.mem_append.1 hu with hu | hu
         · exact ho u hu
         · rw [List.mem_singleton.1 hu]; omega) (by omega) (by omega)
       rw [List.length_append] at this
       obtain ⟨a4, s4, l, h, h15, h16, h17, h18⟩ := this
       exact ⟨a4, s4, l, h, by omega, by omega, by simp at h17; omega, h18⟩
   · have e1 : decide (q > 0) = false := by simpa using hq
     rw [e1]
     exact ⟨at', s, o, rfl, by omega, by omega, by omega, ho⟩
theorem preds_ok {bs : List Nat} (hc : CodeOK bs) {k : Nat} (hk : 2100 <= k) {wide vars : Int} (hw : wide <= 64) (hv : vars <= 100) (l1 l2 : List PV) (m1 : Int) (hm0 : 0 <= m1) (hm : m1 <= 50) {at' : Int} (h0 : 0 <= at') (h1 : at' <= 500000000) (s : W) :
   ∃ a2 s2 l, c106 k wide vars l1 l2 m1 (encB bs) at' (wi s) = r106 (encB bs) a2 (wi s2) (encTT l) /\ at' <= a2 /\ a2 <= at' + 40000 /\ l.length <= 60 /\ ∀ t ∈ l, t.length <= 100 := by
 obtain ⟨k, rfl⟩ : ∃ j, k = j + 1 := ⟨k - 1, by omega⟩
 rw [n106, i64_id (by omega) (by omega)]
 obtain ⟨a2, s2, v, h, h2, h3, h4, h5, _⟩ := pick_ok hc (k := k) (by omega) h0 (by omega) s (m1 + 1)
 have h5 := h5 (by omega)
 rw [h]
 simp only [R103_r]
 obtain ⟨a3, s3, l, h, h6, h7, h8, h9⟩ := predsD_loop hc (k := k) (by omega) hw hv l1 l2 51 k v [] (at' := a2) s2 (by omega) (by omega) (by omega) (by simp) (by simp) (by omega) (by omega)
 exact ⟨a3, s3, l, h, by omega, by omega, by simp at h8; omega, h9⟩
theorem kind_len {wide vars : Int} {t : List Nd} (h : kindT wide vars t = 2) : t.length <= 48 /\ goodT wide vars t = true := by
 have hg := kind_good (by omega : kindT wide vars t > 0)
 have hs := (goodT_iff.1 hg).1
 simp only [sizeT, Bool.and_eq_true, decide_eq_true_eq] at hs
 exact ⟨hs.2, hg⟩
end Go.Proofs.YthoecdnmokcfbaaGreat
/- The program's sights: walked through. -/
set_option linter.unusedVariables false
set_option linter.unusedSimpArgs false
set_option maxRecDepth 4000
namespace Go.Proofs.YthoecdnmokcfbaaGreat
open Go.Dp
theorem sameInts_loop {k : Nat} (a b : List (Int)) (hl : a.length = b.length) (ha : a.length <= 1000000) : ∀ (n i : Nat), a.length - i < n -> i <= a.length -> L16_1 k n (encZ a) (encZ b) (a.length : Int) (i : Int) = r16 (decide (a.drop i = b.drop i))
 | 0, i, h, hi => by omega
 | n + 1, i, h, hi => by
   rw [sL16_1]
   by_cases hlt : i < a.length
   · have hd : decide ((i : Int) < (a.length : Int)) = true := by simpa using hlt
     have hnext : IntKind.i64.wrap ((i : Int) + 1) = ((i + 1 : Nat) : Int) := by rw [i64_id (by omega) (by omega)]; omega
     rw [hd, encZ_lookup hlt, encZ_lookup (l := b) (i := i) (by omega), drop_cons hlt, drop_cons (l := b) (by omega), hnext]
     simp only [cond_true, Option.bind_some, int_atInt, List.cons.injEq, Bool.decide_and]
     by_cases he : a[i] = b[i]
     · have e1 : (a[i] != b[i]) = false := by simp [he]
       have e2 : decide (a[i] = b[i]) = true := by simpa using he
       rw [e1, e2]
       simp only [cond_false, Bool.true_and]
       exact sameInts_loop a b hl ha n (i + 1) (by omega) (by omega)
     · have e1 : (a[i] != b[i]) = true := by
         simpa using he
       have e2 : decide (a[i] = b[i]) = false := by simpa using he
       rw [e1, e2]; rfl
   · have hd : decide ((i : Int) < (a.length : Int)) = false := by simpa using hlt
     rw [hd, List.drop_eq_nil_of_le (by omega), List.drop_eq_nil_of_le (by omega)]
     rfl
theorem sameInts_ok {k : Nat} (hk : 1000010 <= k) (a b : List (Int)) (ha : a.length <= 1000000) : c16 k (encZ a) (encZ b) = r16 (decide (a = b)) := by
 obtain ⟨k, rfl⟩ : ∃ j, k = j + 1 := ⟨k - 1, by omega⟩
 rw [n16, encZ_length, encZ_length]
 by_cases hl : a.length = b.length
 · have e : ((a.length : Int) != (b.length : Int)) = false := by simp [hl]
   rw [e]
   exact sameInts_loop (k := k) a b hl ha k 0 (by omega) (by omega)
 · have e : ((a.length : Int) != (b.length : Int)) = true := by simp; omega
   have e2 : decide (a = b) = false := by simp; intro h; exact hl (by rw [h])
   rw [e, e2]; rfl
structure OkV (v : List Int) : Prop where
 len : v.length <= 100
 rng : ∀ x ∈ v, 0 <= x /\ x <= 100
theorem R145p_enc (l : List Int) (K0 : List PV -> R) : R145p (r145 (encZ l)) K0 = K0 (encZ l) := by
 have h : ([SV.agg [.own 3 0 (encZ l)]].all plainS && true) = true := by simp [plainS, plainC, encZ_plain]; rfl
 show (bif ([SV.agg [.own 3 0 (encZ l)]].all plainS && true) then K0 (encZ l) else none) = _
 rw [h]
 rfl
theorem goodI_loop {k : Nat} (v : List Int) (hv : v.length <= 1000) (st : Int) : ∀ (n i m : Nat), v.length - i < n -> i <= v.length -> m <= i ->
   L113_1 k n st (m : Int) (encZ v) (v.length : Int) (i : Int) (encZ v) = r113 (goodF (v.drop i) (m : Int) && ((v.length : Int) == st))
 | 0, i, m, h, hi, hm => by omega
 | n + 1, i, m, h, hi, hm => by
   rw [sL113_1]
   by_cases hlt : i < v.length
   · have hd : decide ((i : Int) < (v.length : Int)) = true := by simpa using hlt
     have hnext : IntKind.i64.wrap ((i : Int) + 1) = ((i + 1 : Nat) : Int) := by rw [i64_id (by omega) (by omega)]; omega
     rw [hd, encZ_lookup hlt, drop_cons hlt, hnext]
     simp only [cond_true, Option.bind_some, int_atInt, goodF]
     by_cases h0 : v[i] < 0
     · have e1 : decide (v[i] < 0) = true := by simpa using h0
       have e2 : decide (0 <= v[i]) = false := by simpa using h0
       rw [e1, e2]; rfl
     · have e1 : decide (v[i] < 0) = false := by simpa using h0
       have e2 : decide (0 <= v[i]) = true := decide_eq_true (by omega)
       rw [e1, e2]
       simp only [cond_false, Bool.true_and]
       by_cases h1 : v[i] > (m : Int)
       · have e3 : decide (v[i] > (m : Int)) = true := by simpa using h1
         have e4 : decide (v[i] <= (m : Int)) = false := decide_eq_false (by omega)
         rw [e3, e4]; rfl
       · have e3 : decide (v[i] > (m : Int)) = false := by simpa using h1
         have e4 : decide (v[i] <= (m : Int)) = true := decide_eq_true (by omega)
         rw [e3, e4]
         simp only [cond_false, Bool.true_and]
         have hm2 : IntKind.i64.wrap ((m : Int) + 1) = ((m + 1 : Nat) : Int) := by rw [i64_id (by omega) (by omega)]; omega
         have hm3 : ((m : Int) + 1) = ((m + 1 : Nat) : Int) := by omega
         rw [hm2, hm3]
         cases (v[i] == (m : Int))
         · exact goodI_loop v hv st n (i + 1) m (by omega) (by omega) (by omega)
         · exact goodI_loop v hv st n (i + 1) (m + 1) (by omega) (by omega) (by omega)
   · have hd : decide ((i : Int) < (v.length : Int)) = false := by simpa using hlt
     rw [hd, List.drop_eq_nil_of_le (by omega), encZ_length]
     rfl
def gsB (p : Prg) (v : List Int) : Bool := smallP p && (goodF v 0 && ((v.length : Int) == (nS p : Int)))
theorem goodSightI_ok {k : Nat} (hk : 1000300 <= k) (p : Prg) (hp : FitP p) (v : List Int) (hv : v.length <= 1000) : c49 k p.wide p.vars (encT p.start) (encCms p.cmds) (encZ v) = r49 (gsB p v) := by
 obtain ⟨k, rfl⟩ : ∃ j, k = j + 2 := ⟨k - 2, by omega⟩
 rw [n49, isSmall_ok (by omega) p hp]
 simp only [R69_r, gsB]
 cases hs : smallP p
 · rfl
 · simp only [cond_true, Bool.true_and]
   rw [nSI_ok (by omega) hs]
   simp only [R50_r]
   rw [n113, encZ_length]
   have := goodI_loop (k := k) v hv (nS p : Int) k 0 0 (by omega) (by omega) (by omega)
   have h' : L113_1 k k (nS p : Int) 0 (encZ v) (v.length : Int) 0 (encZ v) = _ := this
   rw [h']
   simp only [R113_r]
   rfl
theorem pr_wf {x y : Int} (hx : 0 <= x /\ x <= 1000) (hy : 0 <= y /\ y <= 1000) : wf2B (x, y) = true := by
 have h : ∀ z : Int, 0 <= z /\ z <= 1000 -> (Lit.int .i64 z).wf = true := by
   intro z hz
   have h1 : IntKind.i64.min = -9223372036854775808 := rfl
   have h2 : IntKind.i64.max = 9223372036854775807 := rfl
   simp only [Lit.wf, h1, h2, Bool.and_eq_true, decide_eq_true_eq]
   omega
 simp only [wf2B, Bool.and_eq_true]
 exact ⟨h x hx, h y hy⟩
theorem meetI_loop {k : Nat} (hk : 1 <= k) (a b : List Int) (hl : a.length = b.length) (ha : a.length <= 1000) (hwf : (a.zip b).all wf2B = true) : ∀ (n i : Nat), a.length - i < n -> i <= a.length ->
   L82_1 k n i (encZ a) (a.length : Int) (i : Int) (encZ b) [] (((a.zip b).take i).map encPr) = r82 (encZ (cls (a.zip b) []))
 | 0, i, h, hi => by omega
 | n + 1, i, h, hi => by
   rw [sL82_1]
   have hz : (a.zip b).length = a.length := by simp; omega
   have etk : (((a.zip b).take i).map encPr).take i = ((a.zip b).take i).map encPr := by rw [List.take_of_length_le (by simp; omega)]
   by_cases hlt : i < a.length
   · have hd : decide ((i : Int) < (a.length : Int)) = true := by simpa using hlt
     have hnext : IntKind.i64.wrap ((i : Int) + 1) = ((i + 1 : Nat) : Int) := by rw [i64_id (by omega) (by omega)]; omega
     have hap : ((a.zip b).take i).map encPr ++ [PV.agg [.int .i64 a[i], .int .i64 b[i]]] = ((a.zip b).take (i + 1)).map encPr := by
       rw [List.take_succ_eq_append_getElem (by omega), List.map_append]
       simp [encPr]
     rw [hd, encZ_lookup hlt, encZ_lookup (l := b) (i := i) (by omega), hnext]
     simp only [cond_true, Option.bind_some, int_atInt]
     rw [lim_ok (by omega) (by omega), etk, hap]
     exact meetI_loop hk a b hl ha hwf n (i + 1) (by omega) (by omega)
   · have hd : decide ((i : Int) < (a.length : Int)) = false := by simpa using hlt
     obtain ⟨k, rfl⟩ : ∃ j, k = j + 1 := ⟨k - 1, by omega⟩
     have hfull : (a.zip b).take i = a.zip b := List.take_of_length_le (by omega)
     rw [hd, etk, hfull, n145 k _ (by omega) hwf, clsL_cls]
     have h' : r145 ((cls (a.zip b) []).map (PV.int .i64)) = r145 (encZ (cls (a.zip b) [])) := rfl
     rw [h', R145p_enc, List.take_of_length_le (by simp)]
     rfl
theorem zip_wf {a b : List Int} (ha : OkV a) (hb : OkV b) : (a.zip b).all wf2B = true := by
 rw [List.all_eq_true]
 rintro ⟨x, y⟩ h
 have h1 := ha.rng x (List.of_mem_zip h).1
 have h2 := hb.rng y (List.of_mem_zip h).2
 exact pr_wf ⟨h1.1, by omega⟩ ⟨h2.1, by omega⟩
theorem meetI_ok {k : Nat} (hk : 1010 <= k) {a b : List Int} (ha : OkV a) (hb : OkV b) (hl : a.length = b.length) : c82 k (encZ a) (encZ b) = r82 (encZ (cls (a.zip b) [])) := by
 obtain ⟨k, rfl⟩ : ∃ j, k = j + 1 := ⟨k - 1, by omega⟩
 have := ha.len
 rw [n82, encZ_length]
 exact meetI_loop (k := k) (by omega) a b hl (by omega) (zip_wf ha hb) k 0 (by omega) (by omega)
def bitI (p : Prg) (t : List Nd) (no : Int) : Int := bif hN p t no then 1 else 0
def bitsI (p : Prg) (t : List Nd) : List Int := (iota (nS p)).map (bitI p t)
def keysI (p : Prg) (t : List Nd) : List (Int × Int) := (bitsI p t).map fun b => (b, 0)
theorem bitI_cases (p : Prg) (t : List Nd) (no : Int) : bitI p t no = 0 ∨ bitI p t no = 1 := by
 unfold bitI
 cases hN p t no
 · exact .inl rfl
 · exact .inr rfl
theorem valueB_ok {k : Nat} (hk : 1000010 <= k) {p : Prg} (hs : smallP p = true) (t : List Nd) (ht : t.length <= 100) (hkt : kindT p.wide p.vars t = 2) {no : Int} (hin : inS p no) : c130 k p.wide (encT t) (encW (sto p no)) = r130 (bitI p t no) := by
 obtain ⟨hw, hv⟩ := goodP_size (small_good hs)
 obtain ⟨h1, h2⟩ := (stOK_of hw).1 (sto_ok hs hin)
 obtain ⟨hval, hok⟩ := kind_val hkt (by omega) h1 h2
 rw [valueOf_ok (by omega) hw _ _ (by omega) hval]
 have hc := le_one_cases (okV_two (by rw [hkt] at *; exact hok))
 congr 1
 unfold bitI hN holdT
 rcases hc with h | h <;> rw [h] <;> rfl
theorem byI_loop2 {k : Nat} (hk : 1000010 <= k) {p : Prg} (hs : smallP p = true) (l1 l2 u : List PV) (t : List Nd) (ht : t.length <= 100) (hkt : kindT p.wide p.vars t = 2) (N n1 n i : Nat) (hn : 2 <= n) (hin : inS p (i : Int)) (hN : i < N) (xs : List PV) (hx : xs[0 + (i : Int).toNat]? = some (encPr (0, 0))) :
   L81_2 k n1 n (encTT [t]) N (i : Int) (encW (sto p (i : Int))) (N : Int) (i : Int) (encTT [t]) 1 0 p.wide p.vars l1 l2 u xs = L81_1 k n1 (encTT [t]) N (N : Int) (IntKind.i64.wrap ((i : Int) + 1)) p.wide p.vars l1 l2 u (xs.set i (encPr (bitI p t (i : Int), 0))) := by
 obtain ⟨n, rfl⟩ : ∃ j, n = j + 2 := ⟨n - 2, by omega⟩
 have hg : (decide ((0 : Int) <= (i : Int)) && decide ((i : Int) < (N : Int))) = true := by
   rw [decide_eq_true (by omega), decide_eq_true (by omega)]; rfl
 have hd : decide ((0 : Int) < 1) = true := rfl
 have hd2 : decide ((0 : Int) < 0) = false := rfl
 have hl : lookP (encTT [t]) 0 = some (.row 2 0 (encT t)) := rfl
 have ha : (encPr (0, 0)).atInt .i64 0 = some 0 := rfl
 have hw : IntKind.i64.wrap (0 + 1) = 1 := rfl
 rw [sL81_2, hd, hl, hg, hx]
 simp only [cond_true, Option.bind_some, row_atRow, ha]
 rw [valueB_ok hk hs t ht hkt hin]
 simp only [R130_r, hd2, Bool.not_false, cond_true, hw]
 have hp : putPart (encPr (0, 0)) 2 0 (PV.int .i64 (bitsOp .or .i64 0 (shlI .i64 (IntKind.i64.wrap (bitI p t (i : Int))) 0))) 0 = some (encPr (bitI p t (i : Int), 0)) := by
   rcases bitI_cases p t (i : Int) with h | h <;> rw [h] <;> rfl
 rw [hp]
 simp only [Option.bind_some, Nat.zero_add, Int.toNat_natCast]
 rw [sL81_2]
 rfl
theorem byI_loop1 {k : Nat} (hk : 1000010 <= k) {p : Prg} (hs : smallP p = true) (l1 l2 u : List PV) (t : List Nd) (ht : t.length <= 100) (hkt : kindT p.wide p.vars t = 2) : ∀ (n i : Nat), nS p - i < n -> i <= nS p ->
   L81_1 k n (encTT [t]) (nS p) (nS p : Int) (i : Int) p.wide p.vars l1 l2 u (((keysI p t).take i).map encPr ++ List.replicate (nS p - i) (encPr (0, 0))) = r81 (encZ (cls (keysI p t) [])) true
 | 0, i, h, hi => by omega
 | n + 1, i, h, hi => by
   have hle := nS_le hs
   have hlen : (keysI p t).length = nS p := by simp [keysI, bitsI, iota_len]
   rw [sL81_1]
   by_cases hlt : i < nS p
   · have hd : decide ((i : Int) < (nS p : Int)) = true := by simpa using hlt
     have hnext : IntKind.i64.wrap ((i : Int) + 1) = ((i + 1 : Nat) : Int) := by rw [i64_id (by omega) (by omega)]; omega
     have hin : inS p (i : Int) := ⟨by omega, by omega⟩
     obtain ⟨m, hm⟩ : ∃ m, nS p - i = m + 1 := ⟨nS p - i - 1, by omega⟩
     have hl1 : (((keysI p t).take i).map encPr).length = i := by simp; omega
     have hx : (((keysI p t).take i).map encPr ++ List.replicate (nS p - i) (encPr (0, 0)))[0 + (i : Int).toNat]? = some (encPr (0, 0)) := by
       rw [Nat.zero_add, Int.toNat_natCast, List.getElem?_append_right (by omega), hl1, hm]
       simp
     have hset : (((keysI p t).take i).map encPr ++ List.replicate (nS p - i) (encPr (0, 0))).set i (encPr (bitI p t (i : Int), 0)) = ((keysI p t).take (i + 1)).map encPr ++ List.replicate (nS p - (i + 1)) (encPr (0, 0)) := by
       rw [List.set_append_right _ _ (by omega), hl1, Nat.sub_self, hm, List.replicate_succ, List.set_cons_zero, List.take_succ_eq_append_getElem (by omega), List.map_append, show nS p - (i + 1) = m by omega, List.append_assoc]
       congr 1
       simp [keysI, bitsI, iota]
     rw [hd, stoI_ok (by omega) hs l1 l2 hin]
     simp only [cond_true, R68_r]
     have h2 := byI_loop2 hk hs l1 l2 u t ht hkt (nS p) n k i (by omega) hin hlt _ hx
     have h' : L81_2 k n k (encTT [t]) (nS p) (i : Int) (encW (sto p (i : Int))) (nS p : Int) (i : Int) (encTT [t]) ((encTT [t]).length : Int) 0 p.wide p.vars l1 l2 u (((keysI p t).take i).map encPr ++ List.replicate (nS p - i) (encPr (0, 0))) = _ := h2
     rw [h', hnext, hset]
     exact byI_loop1 hk hs l1 l2 u t ht hkt n (i + 1) (by omega) (by omega)
   · have hd : decide ((i : Int) < (nS p : Int)) = false := by simpa using hlt
     obtain ⟨k, rfl⟩ : ∃ j, k = j + 1 := ⟨k - 1, by omega⟩
     have hi2 : i = nS p := by omega
     have hfull : (keysI p t).take i = keysI p t := List.take_of_length_le (by omega)
     have hwf : (keysI p t).all wf2B = true := by
       rw [List.all_eq_true]
       intro q hq
       simp only [keysI, bitsI, List.mem_map] at hq
       obtain ⟨_, ⟨y, _, rfl⟩, rfl⟩ := hq
       rcases bitI_cases p t y with h | h <;> rw [h] <;> rfl
     have e1 : nS p - i = 0 := by omega
     rw [hd, hfull, e1, List.replicate_zero, List.append_nil, List.take_of_length_le (by simp; omega), n145 k _ (by omega) hwf, clsL_cls]
     have h' : r145 ((cls (keysI p t) []).map (PV.int .i64)) = r145 (encZ (cls (keysI p t) [])) := rfl
     rw [h', R145p_enc, List.take_of_length_le (by simp)]
     rfl
def byV (p : Prg) (t : List Nd) : List Int := cls (bitsI p t) []
theorem keys_bij (bs : List Int) : cls (bs.map fun b => (b, (0 : Int))) [] = cls bs [] := by
 have h : Bij (bs.map fun b => ((b, (0 : Int)), b)) := by
   intro x hx y hy
   obtain ⟨a, _, rfl⟩ := List.mem_map.1 hx
   obtain ⟨b, _, rfl⟩ := List.mem_map.1 hy
   simp
 have := cls_eq h
 simpa [Function.comp_def] using this
def spB (p : Prg) (t : List Nd) : Bool := smallP p && (kindT p.wide p.vars t == 2)
theorem sightByI_ok {k : Nat} (hk : 1000500 <= k) (p : Prg) (hp : FitP p) (t : List Nd) (ht : t.length <= 100) : c81 k p.wide p.vars (encT p.start) (encCms p.cmds) [PV.row 2 0 (encT t)] = r81 (encZ (bif spB p t then byV p t else [])) (spB p t) := by
 obtain ⟨k, rfl⟩ : ∃ j, k = j + 1 := ⟨k - 1, by omega⟩
 have ha := arePreds_ok (k := k) (by omega) p (encT p.start) (encCms p.cmds) [t] (by simp) (by simpa using ht)
 have ha' : c144 k p.wide p.vars (encT p.start) (encCms p.cmds) [PV.row 2 0 (encT t)] 0 = _ := ha
 have hpr : predsOK p [t] = (kindT p.wide p.vars t == 2) := by simp [predsOK, allC]
 rw [n81, isSmall_ok (by omega) p hp]
 simp only [R69_r, spB]
 cases hs : smallP p
 · rfl
 simp only [Bool.not_true, cond_false]
 rw [ha', hpr]
 simp only [R144_r]
 cases hk2 : (kindT p.wide p.vars t == 2)
 · rfl
 have hle := nS_le hs
 simp only [Bool.not_true, cond_false, Bool.and_self, cond_true]
 rw [nSI_ok (by omega) hs]
 simp only [R50_r, Int.toNat_natCast]
 have hg : (((nS p : Int) == (nS p : Int)) && decide ((0 : Int) <= (nS p : Int)) && decide (nS p * 16 <= LIM) && decide (nS p <= LIM)) = true := by
   have q1 : decide (nS p * 16 <= LIM) = true := decide_eq_true (by unfold LIM; omega)
   have q2 : decide (nS p <= LIM) = true := decide_eq_true (by unfold LIM; omega)
   rw [q1, q2]
   simp
 rw [hg]
 have := byI_loop1 (k := k) (by omega) hs (encT p.start) (encCms p.cmds) [] t ht (by simpa using hk2) k 0 (by omega) (by omega)
 simp only [List.take_zero, List.map_nil, List.nil_append, Nat.sub_zero] at this
 rw [keysI, keys_bij] at this
 exact this
def mxF : List Int -> Int -> Int
 | [], m => m
 | x :: l, m => mxF l (maxI m x)
theorem max_loop {k : Nat} (v : List Int) (hv : v.length <= 1000) : ∀ (n i : Nat) (m : Int), v.length - i < n -> i <= v.length -> L175_1 k n (encZ v) m (i : Int) = r175 (mxF (v.drop i) m)
 | 0, i, m, h, hi => by omega
 | n + 1, i, m, h, hi => by
   rw [sL175_1, encZ_length]
   by_cases hlt : i < v.length
   · have hd : decide ((i : Int) < (v.length : Int)) = true := by simpa using hlt
     have hnext : IntKind.i64.wrap ((i : Int) + 1) = ((i + 1 : Nat) : Int) := by rw [i64_id (by omega) (by omega)]; omega
     rw [hd, encZ_lookup hlt, drop_cons hlt, hnext]
     simp only [cond_true, Option.bind_some, int_atInt, mxF]
     exact max_loop v hv n (i + 1) _ (by omega) (by omega)
   · have hd : decide ((i : Int) < (v.length : Int)) = false := by simpa using hlt
     rw [hd, List.drop_eq_nil_of_le (by omega)]
     rfl
theorem mx_many : ∀ (l : List Int) (m : Int), goodF l m = true -> mxF l (m - 1) = manyF l m - 1
 | [], m, h => rfl
 | x :: l, m, h => by
   simp only [goodF, Bool.and_eq_true, decide_eq_true_eq] at h
   obtain ⟨h1, h2, h3⟩ := h
   rw [mxF, manyF]
   by_cases e : x = m
   · subst e
     have he : (x == x) = true := beq_self_eq_true _
     rw [he] at h3 ⊢
     simp only [cond_true] at h3 ⊢
     have := mx_many l (x + 1) h3
     have hx : maxI (x - 1) x = x := by
       unfold maxI
       rw [decide_eq_true (by omega : x > x - 1)]
       rfl
     rw [hx]
     rw [show x + 1 - 1 = x by omega] at this
     exact this
   · have he : (x == m) = false := by simpa using e
     rw [he] at h3 ⊢
     simp only [cond_false] at h3 ⊢
     have hx : maxI (m - 1) x = m - 1 := by
       unfold maxI
       rw [decide_eq_false (by omega : ¬ x > m - 1)]
       rfl
     rw [hx]
     exact mx_many l m h3
theorem classes_ok {k : Nat} (hk : 1010 <= k) {v : List Int} (hv : v.length <= 1000) (h0 : v ≠ []) (hg : goodF v 0 = true) : c116 k (encZ v) = r116 (manyF v 0) := by
 obtain ⟨k, rfl⟩ : ∃ j, k = j + 2 := ⟨k - 2, by omega⟩
 have hlen : 0 < v.length := List.length_pos_iff.2 h0
 have hd : decide ((v.length : Int) < 1) = false := decide_eq_false (by omega)
 have hl : lookP (encZ v) 0 = _ := encZ_lookup (l := v) (i := 0) hlen
 have hv0 : v = v[0] :: v.drop 1 := by
   have := drop_cons hlen
   simpa using this
 rw [n116, n175, encZ_length, hd, hl]
 simp only [cond_false, Option.bind_some, int_atInt]
 have hm := max_loop (k := k) v hv k 1 v[0] (by omega) (by omega)
 have hm' : L175_1 k k (encZ v) v[0] 1 = _ := hm
 rw [hm']
 simp only [R175_r]
 have hg2 := hg
 rw [hv0] at hg2
 simp only [goodF, Bool.and_eq_true, decide_eq_true_eq] at hg2
 have hz : v[0] = 0 := by omega
 have hmm := mx_many (v[0] :: v.drop 1) 0 (by rw [<- hv0]; exact hg)
 have hb := good_lt v 0 (by simpa using hg) 0 (by rw [hv0, hz]; simp)
 have hlenm : manyF v 0 <= 1000 := by
   have := (cls_self hg).2
   have hs : (dis v []).length <= v.length := nodup_sub (dis_nodup v [] (by simp)) (fun x hx => by simpa using (dis_sub v [] x).1 hx)
   omega
 have e : mxF (v.drop 1) v[0] = manyF v 0 - 1 := by
   rw [<- hv0] at hmm
   rw [<- hmm]
   conv => rhs; rw [hv0]
   rw [mxF, hz]
   rfl
 have hb2 : (0 : Int) < manyF v 0 := hb.2
 rw [e, show manyF v 0 - 1 + 1 = manyF v 0 by omega, i64_id (by omega) (by omega)]
end Go.Proofs.YthoecdnmokcfbaaGreat
/- The reference's sights: walked through. -/
set_option linter.unusedVariables false
set_option linter.unusedSimpArgs false
set_option maxRecDepth 4000
namespace Go.Proofs.YthoecdnmokcfbaaGreat
open Go.Dp
theorem R195p_enc (l : List Int) (K0 : List PV -> R) : R195p (r195 (encZ l)) K0 = K0 (encZ l) := by
 have h : ([SV.agg [.own 3 0 (encZ l)]].all plainS && true) = true := by simp [plainS, plainC, encZ_plain]; rfl
 show (bif ([SV.agg [.own 3 0 (encZ l)]].all plainS && true) then K0 (encZ l) else none) = _
 rw [h]
 rfl
theorem R194p_enc (l : List Int) (K0 : List PV -> R) : R194p (r194 (encZ l)) K0 = K0 (encZ l) := by
 have h : ([SV.agg [.own 3 0 (encZ l)]].all plainS && true) = true := by simp [plainS, plainC, encZ_plain]; rfl
 show (bif ([SV.agg [.own 3 0 (encZ l)]].all plainS && true) then K0 (encZ l) else none) = _
 rw [h]
 rfl
theorem R107p_enc (l : List Int) (b : Bool) (K0 : List PV -> Bool -> R) : R107p (r107 (encZ l) b) K0 = K0 (encZ l) b := by
 have h : ([SV.agg [.own 3 0 (encZ l)], SV.c (.p (.bool b))].all plainS && true) = true := by simp [plainS, plainC, plainP, encZ_plain]; rfl
 show (bif ([SV.agg [.own 3 0 (encZ l)], SV.c (.p (.bool b))].all plainS && true) then K0 (encZ l) b else none) = _
 rw [h]
 rfl
theorem encZ_tk (l : List Int) : (encZ l).take l.length = encZ l := List.take_of_length_le (by simp)
theorem gsS_loop {k : Nat} (hk : 1 <= k) (v : List Int) (hv : v.length <= 1000) : ∀ (n i m : Nat), v.length - i < n -> i <= v.length -> m <= i ->
   L51_1 k n (m : Int) (encZ v) (v.length : Int) (i : Int) = r51 (goodF (v.drop i) (m : Int))
 | 0, i, m, h, hi, hm => by omega
 | n + 1, i, m, h, hi, hm => by
   rw [sL51_1]
   by_cases hlt : i < v.length
   · have hd : decide ((i : Int) < (v.length : Int)) = true := by simpa using hlt
     have hnext : IntKind.i64.wrap ((i : Int) + 1) = ((i + 1 : Nat) : Int) := by rw [i64_id (by omega) (by omega)]; omega
     have hm2 : IntKind.i64.wrap ((m : Int) + 1) = ((m + 1 : Nat) : Int) := by rw [i64_id (by omega) (by omega)]; omega
     have hm3 : ((m : Int) + 1) = ((m + 1 : Nat) : Int) := by omega
     rw [hd, encZ_lookup hlt, drop_cons hlt, hnext]
     simp only [cond_true, Option.bind_some, int_atInt, goodF]
     rw [in_ok hk, hm2, hm3]
     simp only [R52_r]
     cases decide (0 <= v[i])
     · rfl
     cases decide (v[i] <= (m : Int))
     · rfl
     simp only [Bool.true_and, Bool.not_true, cond_false]
     cases (v[i] == (m : Int))
     · exact gsS_loop hk v hv n (i + 1) m (by omega) (by omega) (by omega)
     · exact gsS_loop hk v hv n (i + 1) (m + 1) (by omega) (by omega) (by omega)
   · have hd : decide ((i : Int) < (v.length : Int)) = false := by simpa using hlt
     rw [hd, List.drop_eq_nil_of_le (by omega)]
     rfl
theorem goodSightS_ok {k : Nat} (hk : 1000300 <= k) (p : Prg) (hp : FitP p) (v : List Int) (hv : v.length <= 1000) : c51 k p.wide p.vars (encT p.start) (encCms p.cmds) (encZ v) = r51 (gsB p v) := by
 obtain ⟨k, rfl⟩ : ∃ j, k = j + 1 := ⟨k - 1, by omega⟩
 rw [n51, l7Small_ok (by omega) p hp]
 simp only [R114_r, gsB]
 cases hs : smallP p
 · rfl
 · simp only [cond_false, Bool.not_true, Bool.true_and]
   rw [nSS_ok (by omega) hs, encZ_length]
   simp only [R115_r]
   cases hl : ((v.length : Int) == (nS p : Int))
   · have e : ((v.length : Int) != (nS p : Int)) = true := by simp only [bne, hl]; rfl
     rw [e, Bool.and_false]
     rfl
   · have e : ((v.length : Int) != (nS p : Int)) = false := by simp only [bne, hl]; rfl
     rw [e, Bool.and_true]
     exact gsS_loop (k := k) (by omega) v hv k 0 0 (by omega) (by omega) (by omega)
theorem of_loop2 {k : Nat} (ks : List Int) (hlen : ks.length <= 1000) (kn : List Int) (n1 i : Nat) (hi : i < ks.length) (hkn : ∀ x, x ∈ kn ↔ x ∈ ks.take i) (hk1 : kn.length <= 1000) : ∀ (n j : Nat), i - j < n -> j <= i -> (∀ x ∈ ks.take j, x ≠ ks[i]) ->
   L195_2 k n1 n (encZ ks) (kn.length : Int) (i : Int) ks[i] (kn.length : Int) (j : Int) (encZ ks) (ks.length : Int) (i : Int) 0 i [] (encZ ((ks.take i).map fun x => (kn.idxOf x : Int))) =
     bif kn.contains ks[i] then L195_1 k n1 (encZ ks) (kn.length : Int) (encZ ks) (ks.length : Int) ((i + 1 : Nat) : Int) 0 (i + 1) [] (encZ (((ks.take i).map fun x => (kn.idxOf x : Int)) ++ [(kn.idxOf ks[i] : Int)]))
     else L195_1 k n1 (encZ ks) ((kn.length + 1 : Nat) : Int) (encZ ks) (ks.length : Int) ((i + 1 : Nat) : Int) 0 (i + 1) [] (encZ (((ks.take i).map fun x => (kn.idxOf x : Int)) ++ [(kn.length : Int)]))
 | 0, j, h, hj, hno => by omega
 | n + 1, j, h, hj, hno => by
   rw [sL195_2]
   have hol : ((ks.take i).map fun x => (kn.idxOf x : Int)).length = i := by simp; omega
   have hnext : IntKind.i64.wrap ((i : Int) + 1) = ((i + 1 : Nat) : Int) := by rw [i64_id (by omega) (by omega)]; omega
   have hm2 : IntKind.i64.wrap ((kn.length : Int) + 1) = ((kn.length + 1 : Nat) : Int) := by rw [i64_id (by omega) (by omega)]; omega
   have htk : (encZ ((ks.take i).map fun x => (kn.idxOf x : Int))).take i = encZ ((ks.take i).map fun x => (kn.idxOf x : Int)) := by rw [List.take_of_length_le (by simp; omega)]
   have hlim : (decide ((i + 1) * 8 <= LIM) && decide (i + 1 <= LIM)) = true := lim_ok (by omega) (by omega)
   by_cases hlt : j < i
   · have hd : decide ((j : Int) < (i : Int)) = true := by simpa using hlt
     have hnj : IntKind.i64.wrap ((j : Int) + 1) = ((j + 1 : Nat) : Int) := by rw [i64_id (by omega) (by omega)]; omega
     rw [hd, encZ_lookup (l := ks) (i := j) (by omega), hnj]
     simp only [cond_true, Option.bind_some, int_atInt]
     by_cases he : ks[j] = ks[i]
     · have e1 : (ks[j] == ks[i]) = true := by simpa using he
       have hg : (decide ((0 : Int) <= (j : Int)) && true) = true := by
         rw [decide_eq_true (by omega)]; rfl
       have hm : ks[i] ∈ ks.take i := by
         rw [<- he]
         exact List.mem_take_iff_getElem.2 ⟨j, by omega, rfl⟩
       have hmk : ks[i] ∈ kn := (hkn _).2 hm
       have hc : kn.contains ks[i] = true := by simpa using hmk
       have hidx := List.idxOf_lt_length_of_mem hmk
       have hget : (encZ ((ks.take i).map fun x => (kn.idxOf x : Int)))[0 + (j : Int).toNat]? = some (.int .i64 (kn.idxOf ks[i] : Int)) := by
         rw [Nat.zero_add, Int.toNat_natCast, encZ_get, List.getElem?_map, List.getElem?_take_of_lt hlt, List.getElem?_eq_getElem (by omega), <- he]
         rfl
       have e2 : (((kn.idxOf ks[i] : Nat) : Int) == (kn.length : Int)) = false := by
         have : ((kn.idxOf ks[i] : Nat) : Int) ≠ (kn.length : Int) := by omega
         simpa using this
       rw [e1, hg, hget, hc]
       simp only [cond_true, Option.bind_some, int_atInt]
       rw [e2, hlim, htk, hnext, encZ_snoc]
       rfl
     · have e1 : (ks[j] == ks[i]) = false := by simpa using he
       rw [e1]
       simp only [cond_false]
       refine of_loop2 ks hlen kn n1 i hi hkn hk1 n (j + 1) (by omega) (by omega) fun x hx => ?_
       rw [List.take_succ_eq_append_getElem (by omega), List.mem_append, List.mem_singleton] at hx
       rcases hx with hx | rfl
       · exact hno x hx
       · exact he
   · have hd : decide ((j : Int) < (i : Int)) = false := by simpa using hlt
     have hji : j = i := by omega
     subst hji
     have hc : kn.contains ks[j] = false := by
       rw [<- Bool.not_eq_true, List.contains_iff_mem, hkn]
       intro hm
       exact hno _ hm rfl
     have e2 : ((kn.length : Int) == (kn.length : Int)) = true := beq_self_eq_true _
     rw [hd, e2, hc, hlim, htk, hnext, hm2, encZ_snoc]
     rfl
theorem of_loop1 {k : Nat} (ks : List Int) (hlen : ks.length <= 1000) (hk : 1010 <= k) : ∀ (n i : Nat) (kn : List Int), ks.length - i < n -> i <= ks.length -> (∀ x, x ∈ kn ↔ x ∈ ks.take i) -> kn.length <= i ->
   L195_1 k n (encZ ks) (kn.length : Int) (encZ ks) (ks.length : Int) (i : Int) 0 i [] (encZ ((ks.take i).map fun x => (kn.idxOf x : Int))) = r195 (encZ (((ks.take i).map fun x => (kn.idxOf x : Int)) ++ cls (ks.drop i) kn))
 | 0, i, kn, h, hi, hkn, hk1 => by omega
 | n + 1, i, kn, h, hi, hkn, hk1 => by
   rw [sL195_1]
   by_cases hlt : i < ks.length
   · have hd : decide ((i : Int) < (ks.length : Int)) = true := by simpa using hlt
     rw [hd, encZ_lookup hlt, drop_cons hlt]
     simp only [cond_true, Option.bind_some, int_atInt, cls]
     have h2 := of_loop2 (k := k) ks hlen kn n i hlt hkn (by omega) k 0 (by omega) (by omega) (by simp)
     have h' : L195_2 k n k (encZ ks) (kn.length : Int) (i : Int) ks[i] (kn.length : Int) 0 (encZ ks) (ks.length : Int) (i : Int) 0 i [] (encZ ((ks.take i).map fun x => (kn.idxOf x : Int))) = _ := h2
     rw [h']
     cases hc : kn.contains ks[i]
     · have hp : ks[i] ∉ kn := by simpa using hc
       simp only [cond_false]
       have e : ((ks.take i).map fun x => (kn.idxOf x : Int)) ++ [(kn.length : Int)] = (ks.take (i + 1)).map fun x => ((kn ++ [ks[i]]).idxOf x : Int) := by
         rw [List.take_succ_eq_append_getElem hlt, List.map_append]
         congr 1
         · apply List.map_congr_left
           intro x hx
           rw [idx_app ((hkn x).2 hx)]
         · simp [List.idxOf_append, hp]
       have := of_loop1 ks hlen hk n (i + 1) (kn ++ [ks[i]]) (by omega) (by omega) (fun x => by
         rw [List.take_succ_eq_append_getElem hlt, List.mem_append, List.mem_append, hkn x]) (by simp; omega)
       rw [<- e, List.length_append] at this
       rw [show (ks.take i).map (fun x => (kn.idxOf x : Int)) ++ (kn.length : Int) :: cls (ks.drop (i + 1)) (kn ++ [ks[i]]) = ((ks.take i).map (fun x => (kn.idxOf x : Int)) ++ [(kn.length : Int)]) ++ cls (ks.drop (i + 1)) (kn ++ [ks[i]]) by simp]
       exact this
     · have hp : ks[i] ∈ kn := by simpa using hc
       simp only [cond_true]
       have e : ((ks.take i).map fun x => (kn.idxOf x : Int)) ++ [(kn.idxOf ks[i] : Int)] = (ks.take (i + 1)).map fun x => (kn.idxOf x : Int) := by
         rw [List.take_succ_eq_append_getElem hlt, List.map_append]
         rfl
       have := of_loop1 ks hlen hk n (i + 1) kn (by omega) (by omega) (fun x => by
         rw [List.take_succ_eq_append_getElem hlt, List.mem_append, hkn x]
         constructor
         · exact .inl
         · rintro (h | h)
           · exact h
           · rw [List.mem_singleton.1 h]
             exact (hkn _).1 hp) (by omega)
       rw [<- e] at this
       rw [show (ks.take i).map (fun x => (kn.idxOf x : Int)) ++ (kn.idxOf ks[i] : Int) :: cls (ks.drop (i + 1)) kn = ((ks.take i).map (fun x => (kn.idxOf x : Int)) ++ [(kn.idxOf ks[i] : Int)]) ++ cls (ks.drop (i + 1)) kn by simp]
       exact this
   · have hd : decide ((i : Int) < (ks.length : Int)) = false := by simpa using hlt
     rw [hd, List.drop_eq_nil_of_le (by omega)]
     simp only [cond_false, cls, List.append_nil]
     rw [List.take_of_length_le (by simp; omega)]
theorem of_ok {k : Nat} (hk : 1020 <= k) (ks : List Int) (hlen : ks.length <= 1000) : c195 k (encZ ks) = r195 (encZ (cls ks [])) := by
 obtain ⟨k, rfl⟩ : ∃ j, k = j + 1 := ⟨k - 1, by omega⟩
 rw [n195, encZ_length]
 have := of_loop1 (k := k) ks hlen (by omega) k 0 [] (by omega) (by omega) (by simp) (by simp)
 simp only [List.take_zero, List.map_nil, List.nil_append, List.drop_zero, List.length_nil] at this
 exact this
def cutK (some1 : List Int) : List Int -> Nat -> List Int
 | [], _ => []
 | x :: l, i => (bif some1.contains (i : Int) then 2 * x + 1 else 2 * x) :: cutK some1 l (i + 1)
theorem cutK_len (some1 : List Int) : ∀ (l : List Int) (i : Nat), (cutK some1 l i).length = l.length
 | [], i => rfl
 | x :: l, i => by simp [cutK, cutK_len some1 l]
def cutV (some1 v : List Int) : List Int := cls (cutK some1 v 0) []
theorem cut_loop {k : Nat} (hk : 100010 <= k) (some1 v : List Int) (hs : some1.length <= 1000) (hv : OkV v) : ∀ (n i : Nat) (o : List Int), v.length - i < n -> i <= v.length -> o.length = i ->
   L168_1 k n (encZ some1) o.length (encZ v) (v.length : Int) (i : Int) [] (encZ o) = r168 (encZ (cls (o ++ cutK some1 (v.drop i) i) []))
 | 0, i, o, h, hi, ho => by omega
 | n + 1, i, o, h, hi, ho => by
   have hvl := hv.len
   rw [sL168_1, encZ_tk]
   by_cases hlt : i < v.length
   · have hd : decide ((i : Int) < (v.length : Int)) = true := by simpa using hlt
     have hnext : IntKind.i64.wrap ((i : Int) + 1) = ((i + 1 : Nat) : Int) := by rw [i64_id (by omega) (by omega)]; omega
     have hr := hv.rng _ (List.getElem_mem hlt)
     have e1 : IntKind.i64.wrap (2 * v[i]) = 2 * v[i] := i64_id (by omega) (by omega)
     have e2 : IntKind.i64.wrap (2 * v[i] + 1) = 2 * v[i] + 1 := i64_id (by omega) (by omega)
     rw [hd, encZ_lookup hlt, drop_cons hlt, hnext]
     simp only [cond_true, Option.bind_some, int_atInt, cutK]
     rw [has_ok hk some1 (by omega)]
     simp only [R138_r]
     rw [lim_ok (by omega) (by omega), e1, e2, encZ_snoc, encZ_snoc]
     cases some1.contains (i : Int)
     · have := cut_loop hk some1 v hs hv n (i + 1) (o ++ [2 * v[i]]) (by omega) (by omega) (by simp; omega)
       rw [List.length_append, List.append_assoc] at this
       exact this
     · have := cut_loop hk some1 v hs hv n (i + 1) (o ++ [2 * v[i] + 1]) (by omega) (by omega) (by simp; omega)
       rw [List.length_append, List.append_assoc] at this
       exact this
   · have hd : decide ((i : Int) < (v.length : Int)) = false := by simpa using hlt
     rw [hd, List.drop_eq_nil_of_le (by omega), of_ok (by omega) o (by omega)]
     simp only [cond_false, cutK, List.append_nil]
     rw [R195p_enc, List.take_of_length_le (by simp)]
theorem cut15_ok {k : Nat} (hk : 100020 <= k) (some1 v : List Int) (hs : some1.length <= 1000) (hv : OkV v) : c168 k (encZ v) (encZ some1) = r168 (encZ (cutV some1 v)) := by
 obtain ⟨k, rfl⟩ : ∃ j, k = j + 1 := ⟨k - 1, by omega⟩
 have := hv.len
 rw [n168, encZ_length]
 exact cut_loop (k := k) (by omega) some1 v hs hv k 0 [] (by omega) (by omega) rfl
theorem cls_okV {α : Type} [BEq α] [LawfulBEq α] (l : List α) (h : l.length <= 100) : OkV (cls l []) := by
 refine ⟨by rw [cls_len]; exact h, fun x hx => ?_⟩
 obtain ⟨h1, h2⟩ := good_cls l []
 have h3 := good_lt (cls l []) 0 h1 x hx
 have h4 : (dis l []).length <= l.length := nodup_sub (dis_nodup l [] (by simp)) (fun x hx => by simpa using (dis_sub l [] x).1 hx)
 have h5 : manyF (cls l []) 0 = ((dis l []).length : Int) := h2
 have h6 : ((0 : Nat) : Int) = 0 := rfl
 rw [h6] at h3
 omega
theorem cut_okV {some1 v : List Int} (hv : OkV v) : OkV (cutV some1 v) := cls_okV _ (by rw [cutK_len]; exact hv.len)
theorem cut_len (some1 v : List Int) : (cutV some1 v).length = v.length := by rw [cutV, cls_len, cutK_len]
theorem wh_le {p : Prg} (hs : smallP p = true) (t : List Nd) : (whI p t).length <= 32 := by
 have := whN_len p t (nS p) 0
 have := (nS_le hs).2
 unfold whI
 omega
theorem split_ok {k : Nat} (hk : 1000300 <= k) {p : Prg} (hs : smallP p = true) (l1 l2 : List PV) (t : List Nd) (ht : t.length <= 100) (hkt : kindT p.wide p.vars t = 2) {v : List Int} (hv : OkV v) : c194 k p.wide p.vars l1 l2 (encZ v) (encT t) = r194 (encZ (cutV (whI p t) v)) := by
 obtain ⟨k, rfl⟩ : ∃ j, k = j + 1 := ⟨k - 1, by omega⟩
 have := wh_le hs t
 rw [n194, those_ok (by omega) hs l1 l2 t ht hkt]
 simp only [R59_r]
 rw [cut15_ok (by omega) _ _ (by omega) hv]
 simp only [R168_r, encZ_length, encZ_tk]
def byL (p : Prg) : List (List Nd) -> List Int -> List Int
 | [], v => v
 | t :: ts, v => byL p ts (cutV (whI p t) v)
theorem byL_okV (p : Prg) : ∀ (ts : List (List Nd)) {v : List Int}, OkV v -> OkV (byL p ts v)
 | [], v, h => h
 | t :: ts, v, h => byL_okV p ts (cut_okV h)
theorem byL_len (p : Prg) : ∀ (ts : List (List Nd)) (v : List Int), (byL p ts v).length = v.length
 | [], v => rfl
 | t :: ts, v => by rw [byL, byL_len p ts, cut_len]
theorem byS_loop {k : Nat} (hk : 1000300 <= k) {p : Prg} (hs : smallP p = true) (l1 l2 u : List PV) (ts : List (List Nd)) (hl : ts.length <= 1000) (ht : ∀ t ∈ ts, t.length <= 100) (hkt : ∀ t ∈ ts, kindT p.wide p.vars t = 2) : ∀ (n i : Nat) (v : List Int), ts.length - i < n -> i <= ts.length -> OkV v ->
   L166_1 k n (encTT ts) (ts.length : Int) (i : Int) p.wide p.vars l1 l2 u v.length (encZ v) = r166 (encZ (byL p (ts.drop i) v))
 | 0, i, v, h, hi, hv => by omega
 | n + 1, i, v, h, hi, hv => by
   rw [sL166_1, encZ_tk]
   by_cases hlt : i < ts.length
   · have hd : decide ((i : Int) < (ts.length : Int)) = true := by simpa using hlt
     have hnext : IntKind.i64.wrap ((i : Int) + 1) = ((i + 1 : Nat) : Int) := by rw [i64_id (by omega) (by omega)]; omega
     have hm := List.getElem_mem hlt
     rw [hd, lookP_nat, encTT_get, List.getElem?_eq_getElem hlt, drop_cons hlt, hnext]
     simp only [cond_true, Option.map_some, Option.bind_some, row_atRow, byL]
     rw [split_ok hk hs l1 l2 _ (ht _ hm) (hkt _ hm) hv, R194p_enc, encZ_length]
     exact byS_loop hk hs l1 l2 u ts hl ht hkt n (i + 1) _ (by omega) (by omega) (cut_okV hv)
   · have hd : decide ((i : Int) < (ts.length : Int)) = false := by simpa using hlt
     rw [hd, List.drop_eq_nil_of_le (by omega)]
     rfl
def zeros (p : Prg) : List Int := List.replicate (nS p) 0
theorem zeros_okV {p : Prg} (hs : smallP p = true) : OkV (zeros p) := by
 have := (nS_le hs).2
 refine ⟨by simp [zeros]; omega, fun x hx => ?_⟩
 rw [List.eq_of_mem_replicate hx]
 omega
theorem by_ok15 {k : Nat} (hk : 1000400 <= k) {p : Prg} (hs : smallP p = true) (l1 l2 : List PV) (ts : List (List Nd)) (hl : ts.length <= 1000) (ht : ∀ t ∈ ts, t.length <= 100) (hkt : ∀ t ∈ ts, kindT p.wide p.vars t = 2) : c166 k p.wide p.vars l1 l2 (encTT ts) = r166 (encZ (byL p ts (zeros p))) := by
 obtain ⟨k, rfl⟩ : ∃ j, k = j + 1 := ⟨k - 1, by omega⟩
 have hle := nS_le hs
 rw [n166, nSS_ok (by omega) hs]
 simp only [R115_r, Int.toNat_natCast]
 have hg : (((nS p : Int) == (nS p : Int)) && decide ((0 : Int) <= (nS p : Int)) && decide (nS p * 8 <= LIM) && decide (nS p <= LIM)) = true := by
   have q1 : decide (nS p * 8 <= LIM) = true := decide_eq_true (by unfold LIM; omega)
   have q2 : decide (nS p <= LIM) = true := decide_eq_true (by unfold LIM; omega)
   rw [q1, q2]
   simp
 have hz : (zeros p).length = nS p := by simp [zeros]
 have he : List.replicate (nS p) (PV.int .i64 0) = encZ (zeros p) := by simp [zeros, encZ]
 have := byS_loop (k := k) (by omega) hs l1 l2 [] ts hl ht hkt k 0 (zeros p) (by omega) (by omega) (zeros_okV hs)
 rw [hg, he, encTT_length]
 rw [hz] at this
 exact this
def sbB (p : Prg) (ts : List (List Nd)) : Bool := smallP p && predsOK p ts
theorem sightByS_ok {k : Nat} (hk : 1000500 <= k) (p : Prg) (hp : FitP p) (ts : List (List Nd)) (hl : ts.length <= 1000) (ht : ∀ t ∈ ts, t.length <= 100) : c105 k p.wide p.vars (encT p.start) (encCms p.cmds) (encTT ts) = r105 (encZ (bif sbB p ts then byL p ts (zeros p) else [])) (sbB p ts) := by
 obtain ⟨k, rfl⟩ : ∃ j, k = j + 1 := ⟨k - 1, by omega⟩
 rw [n105, l7Small_ok (by omega) p hp]
 simp only [R114_r, sbB]
 cases hs : smallP p
 · rfl
 simp only [Bool.not_true, cond_false]
 rw [l15Preds_ok (by omega) p _ _ ts hl ht]
 simp only [R165_r]
 cases hq : predsOK p ts
 · rfl
 simp only [Bool.not_true, cond_false, Bool.and_self, cond_true]
 rw [by_ok15 (by omega) hs _ _ ts hl ht (by simp only [predsOK, Bool.and_eq_true] at hq; exact allC_get hq.2)]
 simp only [R166_r, encZ_length, encZ_tk]
def coB (p : Prg) (v some1 : List Int) : Bool := gsB p v && incG (v.length : Int) none some1
theorem cutOutS_ok {k : Nat} (hk : 1000500 <= k) (p : Prg) (hp : FitP p) {v some1 : List Int} (hv : OkV v) (hs : some1.length <= 1000) : c107 k p.wide p.vars (encT p.start) (encCms p.cmds) (encZ v) (encZ some1) = r107 (encZ (bif coB p v some1 then cutV some1 v else [])) (coB p v some1) := by
 obtain ⟨k, rfl⟩ : ∃ j, k = j + 1 := ⟨k - 1, by omega⟩
 have hvl := hv.len
 rw [n107, goodSightS_ok (by omega) p hp v (by omega), encZ_length, i64_id (by omega) (by omega)]
 simp only [R51_r, coB]
 cases hg : gsB p v
 · rfl
 simp only [Bool.not_true, cond_false]
 rw [rise_ok (by omega) some1 (by omega)]
 simp only [R167_r]
 cases hq : incG (v.length : Int) none some1
 · rfl
 simp only [Bool.not_true, cond_false, Bool.and_self, cond_true]
 rw [cut15_ok (by omega) some1 v hs hv]
 simp only [R168_r, encZ_length, encZ_tk]
def ssB (p : Prg) (v : List Int) (t : List Nd) : Bool := gsB p v && (kindT p.wide p.vars t == 2)
theorem gs_small {p : Prg} {v : List Int} (h : gsB p v = true) : smallP p = true /\ goodF v 0 = true /\ v.length = nS p := by
 simp only [gsB, Bool.and_eq_true, beq_iff_eq] at h
 exact ⟨h.1, h.2.1, by have := h.2.2; omega⟩
end Go.Proofs.YthoecdnmokcfbaaGreat
/- Sights drawn; splits and meets of the program. -/
set_option linter.unusedVariables false
set_option linter.unusedSimpArgs false
set_option maxRecDepth 4000
namespace Go.Proofs.YthoecdnmokcfbaaGreat
open Go.Dp
theorem byS_okV {p : Prg} {ts : List (List Nd)} : OkV (bif sbB p ts then byL p ts (zeros p) else []) /\ (bif sbB p ts then byL p ts (zeros p) else []).length <= 32 := by
 cases h : sbB p ts
 · exact ⟨⟨by simp, by simp⟩, by simp⟩
 · simp only [sbB, Bool.and_eq_true] at h
   have := (nS_le h.1).2
   refine ⟨byL_okV p ts (zeros_okV h.1), ?_⟩
   simp only [cond_true]
   rw [byL_len]
   simpa [zeros] using this
theorem tail_okV {v : List Int} (hv : OkV v) (h32 : v.length <= 32) : OkV (v ++ [0]) /\ OkV (v.set (v.length - 1) (v.length : Int)) := by
 refine ⟨⟨by simp; omega, fun x hx => ?_⟩, ⟨by simp; omega, fun x hx => ?_⟩⟩
 · rcases List.mem_append.1 hx with h | h
   · exact hv.rng x h
   · rw [List.mem_singleton.1 h]; omega
 · rcases List.mem_or_eq_of_mem_set hx with h | rfl
   · exact hv.rng x h
   · omega
theorem tail_ok {bs : List Nat} (hc : CodeOK bs) {k : Nat} (hk : 2000 <= k) {v : List Int} (hv : OkV v) (h32 : v.length <= 32) {at' : Int} (h0 : 0 <= at') (h1 : at' <= 600000000) (s : W) :
   ∃ a2 s2 w, (R103 (c103 k 40 (encB bs) at' (wi s)) fun l8 v7 v8 v9 =>
  bif (v9 == 0) then
   bif decide (((encZ v).length + 1) * 8 <= LIM) && decide ((encZ v).length + 1 <= LIM) then
    r45 l8 v7 v8 ((((encZ v).take (encZ v).length) ++ [PV.int .i64 0]).take ((encZ v).length + 1))
   else none
  else
   bif (v9 == 1) then
    bif decide (((encZ v).length : Int) > 0) then
     bif decide ((0 : Int) <= IntKind.i64.wrap (((encZ v).length : Int) - 1)) && decide (IntKind.i64.wrap (((encZ v).length : Int) - 1) < ((encZ v).length : Int)) then
      ((encZ v)[0 + ((IntKind.i64.wrap (((encZ v).length : Int) - 1)).toNat)]?).bind fun p4 =>
      r45 l8 v7 v8 (((encZ v).set (0 + ((IntKind.i64.wrap (((encZ v).length : Int) - 1)).toNat)) (PV.int .i64 ((encZ v).length : Int))).take (encZ v).length)
     else none
    else r45 l8 v7 v8 ((encZ v).take (encZ v).length)
   else r45 l8 v7 v8 ((encZ v).take (encZ v).length)) = r45 (encB bs) a2 (wi s2) (encZ w) /\ at' <= a2 /\ a2 <= at' + 2 /\ OkV w := by
 obtain ⟨a2, s2, x, h, h2, h3, _⟩ := pick_ok hc (k := k) (by omega) h0 (by omega) s 40
 obtain ⟨t1, t2⟩ := tail_okV hv h32
 rw [h]
 simp only [R103_r, encZ_length, encZ_tk]
 cases (x == 0)
 · simp only [cond_false]
   cases (x == 1)
   · exact ⟨a2, s2, v, rfl, by omega, by omega, hv⟩
   · simp only [cond_true]
     by_cases hl : 0 < v.length
     · have e1 : decide ((v.length : Int) > 0) = true := decide_eq_true (by omega)
       have ew : IntKind.i64.wrap ((v.length : Int) - 1) = ((v.length - 1 : Nat) : Int) := by rw [i64_id (by omega) (by omega)]; omega
       have eg : (decide ((0 : Int) <= ((v.length - 1 : Nat) : Int)) && decide (((v.length - 1 : Nat) : Int) < (v.length : Int))) = true := by
         rw [decide_eq_true (by omega), decide_eq_true (by omega)]; rfl
       have hg : (encZ v)[0 + (((v.length - 1 : Nat) : Int)).toNat]? = some (.int .i64 (v[v.length - 1]'(by omega))) := by
         rw [Nat.zero_add, Int.toNat_natCast, encZ_get, List.getElem?_eq_getElem (by omega)]
         rfl
       rw [e1, ew, eg, hg]
       simp only [cond_true, Option.bind_some, Nat.zero_add, Int.toNat_natCast]
       rw [encZ_set, List.take_of_length_le (by simp)]
       exact ⟨a2, s2, _, rfl, by omega, by omega, t2⟩
     · have e1 : decide ((v.length : Int) > 0) = false := decide_eq_false (by omega)
       rw [e1]
       exact ⟨a2, s2, v, rfl, by omega, by omega, hv⟩
 · simp only [cond_true]
   rw [lim_ok (by omega) (by omega), encZ_snoc, List.take_of_length_le (by simp)]
   exact ⟨a2, s2, _, rfl, by omega, by omega, t1⟩
theorem sight_ok {bs : List Nat} (hc : CodeOK bs) {k : Nat} (hk : 1001000 <= k) {p : Prg} (hp : FitP p) {at' : Int} (h0 : 0 <= at') (h1 : at' <= 400000000) (s : W) :
   ∃ a2 s2 v, c45 k p.wide p.vars (encT p.start) (encCms p.cmds) (encB bs) at' (wi s) = r45 (encB bs) a2 (wi s2) (encZ v) /\ at' <= a2 /\ a2 <= at' + 50000 /\ OkV v := by
 obtain ⟨k, rfl⟩ : ∃ j, k = j + 1 := ⟨k - 1, by omega⟩
 have hw := hp.w
 have hv := hp.v
 rw [n45]
 obtain ⟨a2, s2, ts, h, h2, h3, h4, h5⟩ := preds_ok hc (k := k) (by omega) (wide := p.wide) (vars := p.vars) (by omega) (by omega) (encT p.start) (encCms p.cmds) 3 (by omega) (by omega) h0 (by omega) s
 rw [h]
 simp only [R106_r]
 rw [sightByS_ok (by omega) p hp ts (by omega) h5]
 simp only [R105_r]
 obtain ⟨hk0, hl0⟩ := byS_okV (p := p) (ts := ts)
 generalize (bif sbB p ts then byL p ts (zeros p) else []) = v at hk0 hl0 ⊢
 obtain ⟨a3, s3, b, h, h6, h7⟩ := one_ok hc (k := k) (by omega) (at' := a2) (by omega) (by omega) s2 3
 rw [h]
 simp only [R48_r]
 cases b
 · simp only [cond_false]
   obtain ⟨a4, s4, w, h, h8, h9, h10⟩ := tail_ok hc (k := k) (by omega) hk0 hl0 (at' := a3) (by omega) (by omega) s3
   exact ⟨a4, s4, w, h, by omega, by omega, h10⟩
 · simp only [cond_true]
   obtain ⟨a4, s4, so, h, h8, h9, h10⟩ := someOf_ok hc (k := k) (by omega) 4 3 (by omega) (by omega) (at' := a3) (by omega) (by omega) s3
   rw [h]
   simp only [R108_r]
   rw [encZ_length, encZ_tk, cutOutS_ok (by omega) p hp hk0 (by omega), R107p_enc]
   cases hco : coB p v so
   · simp only [cond_false]
     obtain ⟨a5, s5, w, h, h11, h12, h13⟩ := tail_ok hc (k := k) (by omega) hk0 hl0 (at' := a4) (by omega) (by omega) s4
     rw [encZ_length, encZ_tk] at h
     exact ⟨a5, s5, w, h, by omega, by omega, h13⟩
   · simp only [cond_true]
     obtain ⟨a5, s5, w, h, h11, h12, h13⟩ := tail_ok hc (k := k) (by omega) (cut_okV (some1 := so) hk0) (by rw [cut_len]; exact hl0) (at' := a4) (by omega) (by omega) s4
     exact ⟨a5, s5, w, h, by omega, by omega, h13⟩
theorem drawSplitBy_ok {bs : List Nat} (hc : CodeOK bs) {k : Nat} (hk : 1001100 <= k) : ∃ p v t, c71 k (encB bs) = r71 p.wide p.vars (encT p.start) (encCms p.cmds) (encZ v) (encT t) /\ FitP p /\ OkV v /\ t.length <= 100 := by
 obtain ⟨k, rfl⟩ : ∃ j, k = j + 1 := ⟨k - 1, by omega⟩
 rw [n71]
 obtain ⟨a2, s2, p, h, h2, h3, h4⟩ := small_ok hc (k := k) (by omega) (at' := 0) (by omega) (by omega) 0#64
 have h' : c44 k (encB bs) 0 0 = _ := h
 have hw := h4.w
 have hv := h4.v
 rw [h']
 simp only [R44_r]
 obtain ⟨a3, s3, v, h, h5, h6, h7⟩ := sight_ok hc (k := k) (by omega) h4 (at' := a2) (by omega) (by omega) s2
 rw [h]
 simp only [R45_r]
 have hon : ∀ n : Int, 1 <= one1 n /\ (n <= 64 -> one1 n <= 64) /\ (n <= 100 -> one1 n <= 100) := by intro n; unfold one1; split <;> omega
 rw [l2One_ok (by omega), l2One_ok (by omega)]
 simp only [R135_r]
 obtain ⟨a4, s4, t, h, h11, h12, h13, h14⟩ := asked_int hc (wide := one1 p.wide) (vars := one1 p.vars) (by have := hon p.wide; omega) ((hon p.wide).2.1 (by omega)) (hon p.vars).1 ((hon p.vars).2.2 (by omega)) (d := 1) (by omega) (by omega) (k := k) (by omega) (at' := a3) (by omega) (by omega) s3
 rw [h]
 simp only [R134_r, encT_length]
 rw [List.take_of_length_le (by simp)]
 exact ⟨p, v, t, rfl, h4, h7, by omega⟩
theorem bits_okV {p : Prg} (hs : smallP p = true) (t : List Nd) : OkV (byV p t) /\ (byV p t).length = nS p := by
 have := (nS_le hs).2
 have hl : (bitsI p t).length = nS p := by simp [bitsI, iota_len]
 exact ⟨cls_okV _ (by omega), by rw [byV, cls_len, hl]⟩
theorem splitByI_ok {k : Nat} (hk : 1000600 <= k) (p : Prg) (hp : FitP p) {v : List Int} (hv : OkV v) (t : List Nd) (ht : t.length <= 100) : c26 k p.wide p.vars (encT p.start) (encCms p.cmds) (encZ v) (encT t) = r26 (encZ (bif ssB p v t then cls (v.zip (byV p t)) [] else [])) (ssB p v t) := by
 obtain ⟨k, rfl⟩ : ∃ j, k = j + 1 := ⟨k - 1, by omega⟩
 have hvl := hv.len
 rw [n26, sightByI_ok (by omega) p hp t ht]
 simp only [R81_r, ssB, spB]
 cases hs : smallP p
 · have : gsB p v = false := by simp [gsB, hs]
   rw [this]
   rfl
 cases hq : (kindT p.wide p.vars t == 2)
 · simp only [Bool.and_false]
   rfl
 simp only [Bool.and_self, Bool.not_true, cond_false, cond_true, Bool.and_true]
 rw [goodSightI_ok (by omega) p hp v (by omega)]
 simp only [R49_r]
 cases hg : gsB p v
 · rfl
 simp only [Bool.not_true, cond_false, cond_true]
 rw [meetI_ok (by omega) hv (bits_okV hs t).1 (by rw [(gs_small hg).2.2, (bits_okV hs t).2])]
 simp only [R82_r]
end Go.Proofs.YthoecdnmokcfbaaGreat
/- Terms as trees. -/
set_option linter.unusedVariables false
set_option linter.unusedSimpArgs false
set_option maxRecDepth 4000
namespace Go.Proofs.YthoecdnmokcfbaaGreat
open Go.Dp
inductive Tr where
 | leaf (x : Nd)
 | un (x : Nd) (a : Tr)
 | bin (x : Nd) (a b : Tr)
end Go.Proofs.YthoecdnmokcfbaaGreat
/- Folding: the plain laws. -/
set_option linter.unusedVariables false
set_option linter.unusedSimpArgs false
set_option maxRecDepth 4000
namespace Go.Proofs.YthoecdnmokcfbaaGreat
open Go.Dp
end Go.Proofs.YthoecdnmokcfbaaGreat
/- Folding: the functions. -/
set_option linter.unusedVariables false
set_option linter.unusedSimpArgs false
set_option maxRecDepth 4000
namespace Go.Proofs.YthoecdnmokcfbaaGreat
open Go.Dp
theorem w1 : IntKind.i64.wrap ((1 : Int) - 1) = 0 := (i64_id (by omega) (by omega)).trans (by omega)
end Go.Proofs.YthoecdnmokcfbaaGreat
/- FnFolded: folding's functions and the law. -/
set_option linter.unusedVariables false
set_option linter.unusedSimpArgs false
set_option maxRecDepth 4000
namespace Go.Proofs.YthoecdnmokcfbaaGreat
open Go.Dp
end Go.Proofs.YthoecdnmokcfbaaGreat
/- FnFolded: the law. -/
set_option linter.unusedVariables false
set_option linter.unusedSimpArgs false
set_option maxRecDepth 4000
namespace Go.Proofs.YthoecdnmokcfbaaGreat
open Go.Dp
end Go.Proofs.YthoecdnmokcfbaaGreat
/- Steps between numbered states. -/
set_option linter.unusedVariables false
set_option linter.unusedSimpArgs false
set_option maxRecDepth 4000
namespace Go.Proofs.YthoecdnmokcfbaaGreat
open Go.Dp
def aft (p : Prg) (c : Cmd) (no : Int) : List W := afterS p.wide (sto p no) c.ch (sto p no)
def toN (p : Prg) (c : Cmd) (no : Int) : Int := (noOf (pw p) (aft p c no) : Nat)
theorem toN_ok {p : Prg} (hp : FitP p) (hs : smallP p = true) {k1 : Int} (hn : cnoOK p k1 = true) {no : Int} (hi : inS p no) : stOK p (aft p (cmdAt p k1) no) = true /\ inS p (toN p (cmdAt p k1) no) /\ sto p (toN p (cmdAt p k1) no) = aft p (cmdAt p k1) no := by
 obtain ⟨hw, hv, _, _, _, _, hx⟩ := good_cmd hp (k1 := k1) (by simp [tOK, small_good hs, hn])
 obtain ⟨h1, h2⟩ := (stOK_of hw).1 (sto_ok hs hi)
 have h3 : stOK p (aft p (cmdAt p k1) no) = true := (stOK_of hw).2 ⟨by rw [aft, afterS_length]; exact h1, afterS_all h1 h2 _ _ (fun x h => (hx x h).2.2) h2⟩
 exact ⟨h3, no_inS hs h3⟩
theorem afterN_ok {k : Nat} (hk : 1000020 <= k) {p : Prg} (hp : FitP p) (hs : smallP p = true) {k1 : Int} (hn : cnoOK p k1 = true) (l1 l2 l3 : List PV) {no : Int} (hi : inS p no) : c127 k p.wide p.vars l1 l2 l3 (encChs (cmdAt p k1).ch) (encW (sto p no)) = r127 (encW (aft p (cmdAt p k1) no)) := by
 obtain ⟨hw, hv, _, _, hf, _, hx⟩ := good_cmd hp (k1 := k1) (by simp [tOK, small_good hs, hn])
 have hso := sto_ok hs hi
 obtain ⟨h1, h2⟩ := (stOK_of hw).1 hso
 have hsl := st_len hp hso
 have hfc := hf.ch
 exact after_ok (by omega) p hw l1 l2 l3 _ (by omega) h1 h2 _ (by omega) (fun x h => ⟨(hx x h).1, (hx x h).2.1, (hx x h).2.2, hf.by1 x h⟩)
theorem doN_ok {k : Nat} (hk : 1000020 <= k) {p : Prg} (hp : FitP p) (hs : smallP p = true) {k1 : Int} (hn : cnoOK p k1 = true) (l1 : List PV) {no : Int} (hi : inS p no) : c173 k p.wide p.vars l1 (encCms p.cmds) (encW (sto p no)) k1 = r173 (encW (aft p (cmdAt p k1) no)) := by
 obtain ⟨k, rfl⟩ : ∃ j, k = j + 1 := ⟨k - 1, by omega⟩
 obtain ⟨hw, hv, _, _, hf, _, hx⟩ := good_cmd hp (k1 := k1) (by simp [tOK, small_good hs, hn])
 have hso := sto_ok hs hi
 obtain ⟨h1, h2⟩ := (stOK_of hw).1 hso
 have hsl := st_len hp hso
 have hfc := hf.ch
 obtain ⟨hget, hm⟩ := cmdAt_get hn
 rw [n173, hget, encW_length, lim_ok (by omega) (by omega)]
 simp only [cond_true, Option.bind_some, encCm_ch, encChs_length, List.nil_append, Nat.zero_add]
 have := do_loop (k := k) (by omega) p hw l1 (encCms p.cmds) _ h1 h2 (cmdAt p k1).ch (by omega) (fun x h => ⟨(hx x h).1, (hx x h).2.1, (hx x h).2.2, hf.by1 x h⟩) k 0 _ (by omega) (by omega) rfl
 exact this
theorem cmd_kind {p : Prg} (hp : FitP p) (hs : smallP p = true) {k1 : Int} (hn : cnoOK p k1 = true) : (cmdAt p k1).wh.length <= 100 /\ kindT p.wide p.vars (cmdAt p k1).wh = 2 := by
 obtain ⟨hw, hv, _, _, hf, h1, hx⟩ := good_cmd hp (k1 := k1) (by simp [tOK, small_good hs, hn])
 exact ⟨hf.wh, h1⟩
end Go.Proofs.YthoecdnmokcfbaaGreat
/- The states that one step reaches: both sides; those of many states, the reference's reachable ones. -/
set_option linter.unusedVariables false
set_option linter.unusedSimpArgs false
set_option maxRecDepth 4000
namespace Go.Proofs.YthoecdnmokcfbaaGreat
open Go.Dp
def sucL (p : Prg) (no : Int) : List Cmd -> List Int
 | [] => []
 | c :: l => (bif hN p c.wh no then [toN p c no] else []) ++ sucL p no l
theorem sucL_len (p : Prg) (no : Int) : ∀ l : List Cmd, (sucL p no l).length <= l.length
 | [] => by simp [sucL]
 | c :: l => by
   have := sucL_len p no l
   simp only [sucL, List.length_append, List.length_cons]
   cases hN p c.wh no <;> simp <;> omega
theorem sucL_mem (p : Prg) (no : Int) : ∀ (l : List Cmd) (y : Int), y ∈ sucL p no l ↔ ∃ c ∈ l, hN p c.wh no = true /\ y = toN p c no
 | [], y => by simp [sucL]
 | c :: l, y => by
   simp only [sucL, List.mem_append, sucL_mem p no l y]
   cases hh : hN p c.wh no <;> simp [hh]
def nxL (p : Prg) (no : Int) : List Int := bif (sucL p no p.cmds).isEmpty then [no] else canI (sucL p no p.cmds)
theorem canI_nil' {l : List Int} (h : l ≠ []) : canI l ≠ [] := by
 intro h2
 obtain ⟨x, hx⟩ := List.exists_mem_of_ne_nil _ h
 have := ((canI_spec l).2 x).2 hx
 rw [h2] at this
 cases this
theorem cmd_at {p : Prg} {i : Nat} (h : i < p.cmds.length) : cmdAt p (i : Int) = p.cmds[i] /\ cnoOK p (i : Int) = true := by
 refine ⟨?_, by simp [cnoOK, h]⟩
 unfold cmdAt
 rw [Int.toNat_natCast, List.getElem?_eq_getElem h]
 rfl
theorem nxL_mem {p : Prg} {no y : Int} : y ∈ nxL p no ↔ (∃ c ∈ p.cmds, hN p c.wh no = true /\ y = toN p c no) ∨ ((∀ c ∈ p.cmds, hN p c.wh no = false) /\ y = no) := by
 unfold nxL
 cases he : (sucL p no p.cmds).isEmpty
 · have hne : sucL p no p.cmds ≠ [] := by intro h; rw [h] at he; cases he
   simp only [cond_false]
   rw [(canI_spec _).2 y, sucL_mem]
   constructor
   · exact .inl
   · rintro (h | ⟨h, _⟩)
     · exact h
     · obtain ⟨x, hx⟩ := List.exists_mem_of_ne_nil _ hne
       obtain ⟨c, hc, h2, _⟩ := (sucL_mem p no p.cmds x).1 hx
       rw [h c hc] at h2
       cases h2
 · have hnil : sucL p no p.cmds = [] := by simpa using he
   simp only [cond_true, List.mem_singleton]
   have hno : ∀ c ∈ p.cmds, hN p c.wh no = false := by
     intro c hc
     cases hh : hN p c.wh no
     · rfl
     · have : toN p c no ∈ sucL p no p.cmds := (sucL_mem p no p.cmds _).2 ⟨c, hc, hh, rfl⟩
       rw [hnil] at this
       cases this
   constructor
   · exact fun h => .inr ⟨hno, h⟩
   · rintro (⟨c, hc, h2, _⟩ | ⟨_, h⟩)
     · rw [hno c hc] at h2; cases h2
     · exact h
theorem nxL_len {p : Prg} (hp : FitP p) (no : Int) : (nxL p no).length <= 6 := by
 have hcm := hp.cm
 unfold nxL
 cases (sucL p no p.cmds).isEmpty
 · have h1 := canI_len (sucL p no p.cmds)
   have h2 := sucL_len p no p.cmds
   simp only [cond_false]; omega
 · simp
theorem nxL_in {p : Prg} (hp : FitP p) (hs : smallP p = true) {no : Int} (hi : inS p no) : ∀ y ∈ nxL p no, inS p y := by
 intro y hy
 rcases nxL_mem.1 hy with ⟨c, hc, _, rfl⟩ | ⟨_, rfl⟩
 · obtain ⟨i, hil, rfl⟩ := List.getElem_of_mem hc
   obtain ⟨e, hn⟩ := cmd_at hil
   rw [<- e]
   exact (toN_ok hp hs hn hi).2.1
 · exact hi
theorem nextI_loop {k : Nat} (hk : 1000100 <= k) {p : Prg} (hp : FitP p) (hs : smallP p = true) {no : Int} (hi : inS p no) (l1 : List PV) : ∀ (n i : Nat) (o : List Int), p.cmds.length - i < n -> i <= p.cmds.length -> o.length <= i ->
   L66_1 k n no (encW (sto p no)) o.length (encCms p.cmds) (p.cmds.length : Int) (i : Int) p.wide p.vars l1 (encCms p.cmds) (encZ o) = r66 (encZ (bif (o ++ sucL p no (p.cmds.drop i)).isEmpty then [no] else canI (o ++ sucL p no (p.cmds.drop i))))
 | 0, i, o, h, hj, ho => by omega
 | n + 1, i, o, h, hj, ho => by
   have hcm := hp.cm
   have etk : (encZ o).take o.length = encZ o := by rw [List.take_of_length_le (by simp)]
   rw [sL66_1]
   by_cases hlt : i < p.cmds.length
   · have hd : decide ((i : Int) < (p.cmds.length : Int)) = true := by simpa using hlt
     have hnext : IntKind.i64.wrap ((i : Int) + 1) = ((i + 1 : Nat) : Int) := by rw [i64_id (by omega) (by omega)]; omega
     obtain ⟨e, hn⟩ := cmd_at hlt
     obtain ⟨hwl, hwk⟩ := cmd_kind hp hs hn
     rw [hd, lookP_nat, encCms_get, List.getElem?_eq_getElem hlt, drop_cons hlt, hnext, <- e]
     simp only [cond_true, Option.map_some, Option.bind_some, encCm_shp, encCm_wh, encCm_ch]
     rw [holdsI_ok (by omega) p (small_good hs) _ _ _ hwl hwk _ (sto_ok hs hi)]
     simp only [R67_r, sucL]
     change (bif hN p (cmdAt p (i : Int)).wh no then _ else _) = _
     cases hh : hN p (cmdAt p (i : Int)).wh no
     · simp only [cond_false, List.nil_append]
       exact nextI_loop hk hp hs hi l1 n (i + 1) o (by omega) (by omega) (by omega)
     · simp only [cond_true]
       rw [afterN_ok (by omega) hp hs hn _ _ _ hi]
       simp only [R127_r]
       rw [noI_ok (by omega) hs _ _ (toN_ok hp hs hn hi).1]
       simp only [R126_r]
       rw [lim_ok (by omega) (by omega), etk, encZ_snoc]
       simp only [cond_true]
       have := nextI_loop hk hp hs hi l1 n (i + 1) (o ++ [toN p (cmdAt p (i : Int)) no]) (by omega) (by omega) (by simp; omega)
       rw [List.length_append, List.append_assoc] at this
       exact this
   · have hd : decide ((i : Int) < (p.cmds.length : Int)) = false := by simpa using hlt
     have hol : decide (o.length <= LIM) = true := decide_eq_true (by unfold LIM; omega)
     have ed : p.cmds.drop i = [] := List.drop_eq_nil_of_le (by omega)
     rw [hd, ed]
     simp only [cond_false, sucL, List.append_nil]
     cases o with
     | nil => rfl
     | cons x o =>
       have e0 : (((x :: o).length : Int) == 0) = false := by simp; omega
       rw [e0, etk, intsOf_enc, hol]
       simp only [cond_false, cond_true, Option.bind_some]
       rw [sort_view, intsOf_enc]
       simp only [Option.bind_some]
       rw [comp_view]
       rfl
theorem nextI_ok {k : Nat} (hk : 1000200 <= k) {p : Prg} (hp : FitP p) (hs : smallP p = true) {no : Int} (hi : inS p no) (l1 : List PV) : c66 k p.wide p.vars l1 (encCms p.cmds) no = r66 (encZ (nxL p no)) := by
 obtain ⟨k, rfl⟩ : ∃ j, k = j + 1 := ⟨k - 1, by omega⟩
 have hcm := hp.cm
 rw [n66, stoI_ok (by omega) hs _ _ hi]
 simp only [R68_r, encCms_length]
 exact nextI_loop (k := k) (by omega) hp hs hi l1 k 0 [] (by omega) (by omega) (by simp)
theorem sucE (p : Prg) (no : Int) : ∀ (i : Nat), i <= p.cmds.length -> (enL p (sto p no) i (p.cmds.drop i)).map (fun j => toN p (cmdAt p j) no) = sucL p no (p.cmds.drop i) := by
 intro i hi
 generalize hm : p.cmds.length - i = m
 induction m generalizing i with
 | zero => rw [List.drop_eq_nil_of_le (by omega)]; rfl
 | succ m ih =>
   have hlt : i < p.cmds.length := by omega
   rw [drop_cons hlt]
   simp only [enL, sucL, List.map_append, ih (i + 1) (by omega) (by omega)]
   congr 1
   obtain ⟨e, _⟩ := cmd_at hlt
   change (bif hN p p.cmds[i].wh no then [(i : Int)] else []).map _ = _
   cases hN p p.cmds[i].wh no
   · rfl
   · simp [e]
theorem nextS_loop {k : Nat} (hk : 1000100 <= k) {p : Prg} (hp : FitP p) (hs : smallP p = true) {no : Int} (hi : inS p no) (l1 : List PV) (en : List Int) (hen : en.length <= 100) (hin : ∀ j ∈ en, cnoOK p j = true) : ∀ (n i : Nat) (o : List Int), en.length - i < n -> i <= en.length -> o.length <= i ->
   L111_1 k n no (encW (sto p no)) o.length (encZ en) (en.length : Int) (i : Int) p.wide p.vars l1 (encCms p.cmds) (encZ o) = r111 (encZ (bif (putAllI o ((en.drop i).map fun j => toN p (cmdAt p j) no)).isEmpty then [no] else putAllI o ((en.drop i).map fun j => toN p (cmdAt p j) no)))
 | 0, i, o, h, hj, ho => by omega
 | n + 1, i, o, h, hj, ho => by
   have etk : (encZ o).take o.length = encZ o := by rw [List.take_of_length_le (by simp)]
   rw [sL111_1, etk]
   by_cases hlt : i < en.length
   · have hd : decide ((i : Int) < (en.length : Int)) = true := by simpa using hlt
     have hnext : IntKind.i64.wrap ((i : Int) + 1) = ((i + 1 : Nat) : Int) := by rw [i64_id (by omega) (by omega)]; omega
     have hn := hin _ (List.getElem_mem hlt)
     rw [hd, encZ_lookup hlt, drop_cons hlt, hnext]
     simp only [cond_true, Option.bind_some, int_atInt, List.map_cons]
     rw [doN_ok (by omega) hp hs hn _ hi]
     simp only [R173_r]
     rw [noS_ok (by omega) hs _ _ (toN_ok hp hs hn hi).1]
     simp only [R172_r]
     rw [l1Put_ok (by omega) o (by omega)]
     simp only [R119_r, encZ_length]
     have hpl := putI_len o (toN p (cmdAt p en[i]) no)
     exact nextS_loop hk hp hs hi l1 en hen hin n (i + 1) (putI o (toN p (cmdAt p en[i]) no)) (by omega) (by omega) (by omega)
   · have hd : decide ((i : Int) < (en.length : Int)) = false := by simpa using hlt
     have ed : en.drop i = [] := List.drop_eq_nil_of_le (by omega)
     rw [hd, ed]
     cases o with
     | nil => rfl
     | cons x o =>
       have e0 : (((x :: o).length : Int) == 0) = false := by simp; omega
       rw [e0]
       rfl
theorem nextS_ok {k : Nat} (hk : 1000200 <= k) {p : Prg} (hp : FitP p) (hs : smallP p = true) {no : Int} (hi : inS p no) (l1 : List PV) : c111 k p.wide p.vars l1 (encCms p.cmds) no = r111 (encZ (nxL p no)) := by
 obtain ⟨k, rfl⟩ : ∃ j, k = j + 2 := ⟨k - 2, by omega⟩
 have hcm := hp.cm
 rw [n111, stoS_ok (by omega) hs _ _ hi]
 simp only [R121_r]
 have hen := enabledS_loop (k := k) (by omega) p hp (small_good hs) (sto p no) (sto_ok hs hi) l1 (encCms p.cmds) k 0 [] (by omega) (by omega) (by simp)
 rw [n171, encCms_length]
 have hen' : L171_1 k k (encW (sto p no)) 0 (encCms p.cmds) (p.cmds.length : Int) 0 p.wide p.vars l1 (encCms p.cmds) [] = _ := hen
 rw [hen']
 simp only [R171_r, List.nil_append, encZ_length]
 have hmem : ∀ j ∈ enL p (sto p no) 0 p.cmds, cnoOK p j = true := by
   intro j hj
   obtain ⟨q, c, hq, _, rfl⟩ := (enL_mem p (sto p no) p.cmds 0 j).1 hj
   have := (List.getElem?_eq_some_iff.1 hq).1
   simp [cnoOK, this]
 have hsl := sucL_len p no p.cmds
 have he := sucE p no 0 (by omega)
 rw [List.drop_zero] at he
 have hel : (enL p (sto p no) 0 p.cmds).length <= 100 := by
   have := congrArg List.length he
   rw [List.length_map] at this
   omega
 have := nextS_loop (k := k + 1) (by omega) hp hs hi l1 _ hel hmem (k + 1) 0 [] (by omega) (by omega) (by simp)
 rw [List.drop_zero, he] at this
 have h' : L111_1 (k + 1) (k + 1) no (encW (sto p no)) 0 (encZ (enL p (sto p no) 0 (p.cmds.drop 0))) ((enL p (sto p no) 0 (p.cmds.drop 0)).length : Int) 0 p.wide p.vars l1 (encCms p.cmds) [] = _ := this
 rw [h', <- canI_put (l := sucL p no p.cmds) (m := sucL p no p.cmds) (fun x => Iff.rfl)]
 congr 2
 unfold nxL
 cases hq : (sucL p no p.cmds).isEmpty
 · have hne : sucL p no p.cmds ≠ [] := by intro h; rw [h] at hq; cases hq
   have : (canI (sucL p no p.cmds)).isEmpty = false := by
     cases hc : canI (sucL p no p.cmds) with
     | nil => exact absurd hc (canI_nil' hne)
     | cons => rfl
   rw [this]
 · have hnil : sucL p no p.cmds = [] := by simpa using hq
   rw [hnil, show canI ([] : List Int) = [] from List.eq_nil_of_length_eq_zero (Nat.le_zero.1 (canI_len []))]
   rfl
end Go.Proofs.YthoecdnmokcfbaaGreat
/- The reference's reachable states. -/
set_option linter.unusedVariables false
set_option linter.unusedSimpArgs false
set_option maxRecDepth 4000
namespace Go.Proofs.YthoecdnmokcfbaaGreat
open Go.Dp
theorem lt_room : ∀ (l : List Int) (lo hi : Int), l.Pairwise (· < ·) -> (∀ x ∈ l, lo <= x /\ x < hi) -> (l.length : Int) <= max 0 (hi - lo)
 | [], lo, hi, _, _ => by simp; omega
 | x :: l, lo, hi, h, hb => by
   have hx := hb x (by simp)
   have h1 := List.pairwise_cons.1 h
   have := lt_room l (x + 1) hi h1.2 fun y hy => ⟨by have := h1.1 y hy; omega, (hb y (by simp [hy])).2⟩
   simp only [List.length_cons]
   omega
theorem in_room {p : Prg} (hs : smallP p = true) {l : List Int} (hl : l.Pairwise (· < ·)) (hi : ∀ x ∈ l, inS p x) : l.length <= 32 := by
 have h1 := lt_room l 0 (nS p : Int) hl fun x hx => hi x hx
 have h2 := (nS_le hs).2
 omega
theorem lt_sub : ∀ {a b : List Int}, a.Pairwise (· < ·) -> b.Pairwise (· < ·) -> (∀ x ∈ a, x ∈ b) -> a.Sublist b
 | [], b, _, _, _ => List.nil_sublist b
 | x :: a, [], _, _, h => by have := h x (by simp); cases this
 | x :: a, y :: b, ha, hb, h => by
   have h1 := List.pairwise_cons.1 ha
   have h2 := List.pairwise_cons.1 hb
   by_cases he : x = y
   · subst he
     refine (lt_sub h1.2 h2.2 fun z hz => ?_).cons_cons x
     rcases List.mem_cons.1 (h z (by simp [hz])) with rfl | h3
     · have := h1.1 z hz; omega
     · exact h3
   · have hxy : x ∈ b := by
       rcases List.mem_cons.1 (h x (by simp)) with h3 | h3
       · exact absurd h3 he
       · exact h3
     have hlt := h2.1 x hxy
     refine (lt_sub ha h2.2 fun z hz => ?_).cons y
     rcases List.mem_cons.1 (h z hz) with rfl | h3
     · rcases List.mem_cons.1 hz with h4 | h4
       · omega
       · have := h1.1 _ h4; omega
     · exact h3
theorem lt_same {a b : List Int} (ha : a.Pairwise (· < ·)) (hb : b.Pairwise (· < ·)) (h : ∀ x ∈ a, x ∈ b) (hl : b.length = a.length) : a = b :=
 (lt_sub ha hb h).eq_of_length hl.symm
def aftAll (p : Prg) : List Int -> List Int
 | [] => []
 | x :: l => nxL p x ++ aftAll p l
theorem aftAll_mem (p : Prg) : ∀ (l : List Int) (y : Int), y ∈ aftAll p l ↔ ∃ x ∈ l, y ∈ nxL p x
 | [], y => by simp [aftAll]
 | x :: l, y => by simp [aftAll, aftAll_mem p l y]
theorem after_loop2 {k : Nat} (hk : 1000100 <= k) (p : Prg) (l1 l2 : List PV) (n1 : Nat) (t10 : List PV) (t11 : Int) (i : Nat) (l : List Int) (hl : l.length <= 100) : ∀ (n j : Nat) (o : List Int), l.length - j < n -> j <= l.length -> o.length <= 700 + j ->
   L149_2 k n1 n o.length t10 t11 (i : Int) (encZ l) (l.length : Int) (j : Int) p.wide p.vars l1 l2 (encZ o) = L149_1 k n1 (putAllI o (l.drop j)).length t10 t11 (IntKind.i64.wrap ((i : Int) + 1)) p.wide p.vars l1 l2 (encZ (putAllI o (l.drop j)))
 | 0, j, o, hn, hj, ho => by omega
 | n + 1, j, o, hn, hj, ho => by
   have etk : (encZ o).take o.length = encZ o := by rw [List.take_of_length_le (by simp)]
   rw [sL149_2]
   by_cases hlt : j < l.length
   · have hd : decide ((j : Int) < (l.length : Int)) = true := by simpa using hlt
     have hnext : IntKind.i64.wrap ((j : Int) + 1) = ((j + 1 : Nat) : Int) := by rw [i64_id (by omega) (by omega)]; omega
     rw [hd, encZ_lookup hlt, drop_cons hlt, hnext, etk]
     simp only [cond_true, Option.bind_some, int_atInt]
     rw [l1Put_ok (by omega) o (by omega)]
     simp only [R119_r, encZ_length]
     have hpl := putI_len o l[j]
     exact after_loop2 hk p l1 l2 n1 t10 t11 i l hl n (j + 1) (putI o l[j]) (by omega) (by omega) (by omega)
   · have hd : decide ((j : Int) < (l.length : Int)) = false := by simpa using hlt
     rw [hd, List.drop_eq_nil_of_le (by omega)]
     rfl
theorem after_loop1 {k : Nat} (hk : 1000300 <= k) {p : Prg} (hp : FitP p) (hs : smallP p = true) (l1 : List PV) (l : List Int) (hl : l.length <= 100) (hin : ∀ x ∈ l, inS p x) : ∀ (n i : Nat) (o : List Int), l.length - i < n -> i <= l.length -> o.length <= 6 * i ->
   L149_1 k n o.length (encZ l) (l.length : Int) (i : Int) p.wide p.vars l1 (encCms p.cmds) (encZ o) = r149 (encZ (putAllI o (aftAll p (l.drop i))))
 | 0, i, o, hn, hi, ho => by omega
 | n + 1, i, o, hn, hi, ho => by
   have etk : (encZ o).take o.length = encZ o := by rw [List.take_of_length_le (by simp)]
   rw [sL149_1]
   by_cases hlt : i < l.length
   · have hd : decide ((i : Int) < (l.length : Int)) = true := by simpa using hlt
     have hnext : IntKind.i64.wrap ((i : Int) + 1) = ((i + 1 : Nat) : Int) := by rw [i64_id (by omega) (by omega)]; omega
     have hx := hin _ (List.getElem_mem hlt)
     rw [hd, encZ_lookup hlt, drop_cons hlt]
     simp only [cond_true, Option.bind_some, int_atInt]
     rw [nextS_ok (by omega) hp hs hx]
     simp only [R111_r, encZ_length]
     have hnl := nxL_len hp l[i]
     have h2 := after_loop2 (k := k) (by omega) p l1 (encCms p.cmds) n (encZ l) (l.length : Int) i (nxL p l[i]) (by omega) k 0 o (by omega) (by omega) (by omega)
     have h' : L149_2 k n k o.length (encZ l) (l.length : Int) (i : Int) (encZ (nxL p l[i])) ((nxL p l[i]).length : Int) 0 p.wide p.vars l1 (encCms p.cmds) (encZ o) = _ := h2
     rw [h', hnext, List.drop_zero, aftAll, putAllI_app]
     have hpl := putAllI_len (nxL p l[i]) o
     exact after_loop1 hk hp hs l1 l hl hin n (i + 1) _ (by omega) (by omega) (by omega)
   · have hd : decide ((i : Int) < (l.length : Int)) = false := by simpa using hlt
     rw [hd, List.drop_eq_nil_of_le (by omega), etk]
     rfl
theorem l8After_ok {k : Nat} (hk : 1000400 <= k) {p : Prg} (hp : FitP p) (hs : smallP p = true) (l1 : List PV) (l : List Int) (hl : l.length <= 100) (hin : ∀ x ∈ l, inS p x) : c149 k p.wide p.vars l1 (encCms p.cmds) (encZ l) = r149 (encZ (putAllI [] (aftAll p l))) := by
 obtain ⟨k, rfl⟩ : ∃ j, k = j + 1 := ⟨k - 1, by omega⟩
 rw [n149, encZ_length]
 exact after_loop1 (k := k) (by omega) hp hs l1 l hl hin k 0 [] (by omega) (by omega) (by simp)
theorem own_ok {k : Nat} (hk : 1 <= k) (l : List Int) (hl : l.length <= 1000) : c196 k (encZ l) = r196 (encZ l) := by
 obtain ⟨k, rfl⟩ : ∃ j, k = j + 1 := ⟨k - 1, by omega⟩
 rw [n196, encZ_length, Nat.zero_add, lim_ok (by omega) (by omega), List.nil_append, List.take_of_length_le (by simp)]
 rfl
def grow (p : Prg) (o : List Int) : List Int := putAllI o (putAllI [] (aftAll p o))
theorem grow_spec {p : Prg} {o : List Int} (ho : o.Pairwise (· < ·)) : (grow p o).Pairwise (· < ·) /\ ∀ x, x ∈ grow p o ↔ x ∈ o ∨ ∃ y ∈ o, x ∈ nxL p y := by
 obtain ⟨h1, h2⟩ := putAllI_spec (putAllI [] (aftAll p o)) o ho
 obtain ⟨_, h4⟩ := putAllI_spec (aftAll p o) [] List.Pairwise.nil
 refine ⟨h1, fun x => ?_⟩
 unfold grow
 rw [h2, h4, aftAll_mem]
 simp
def reachF (p : Prg) : Nat -> List Int -> List Int
 | 0, o => o
 | m + 1, o => bif (grow p o).length == o.length then o else reachF p m (grow p o)
theorem grow_in {p : Prg} (hp : FitP p) (hs : smallP p = true) {o : List Int} (ho : o.Pairwise (· < ·)) (hi : ∀ x ∈ o, inS p x) : ∀ x ∈ grow p o, inS p x := by
 intro x hx
 rcases ((grow_spec ho).2 x).1 hx with h | ⟨y, hy, h⟩
 · exact hi x h
 · exact nxL_in hp hs (hi y hy) x h
theorem reachF_spec {p : Prg} (hp : FitP p) (hs : smallP p = true) : ∀ (m : Nat) (o : List Int), 33 <= m + o.length -> o.Pairwise (· < ·) -> (∀ x ∈ o, inS p x) ->
   (reachF p m o).Pairwise (· < ·) /\ (∀ x ∈ reachF p m o, inS p x) /\ (∀ x ∈ o, x ∈ reachF p m o) /\ (∀ x ∈ reachF p m o, ∀ y ∈ nxL p x, y ∈ reachF p m o) /\ ∀ S : Int -> Prop, (∀ x ∈ o, S x) -> (∀ x, S x -> ∀ y ∈ nxL p x, S y) -> ∀ x ∈ reachF p m o, S x
 | 0, o, hm, ho, hi => by
   have := in_room hs ho hi
   omega
 | m + 1, o, hm, ho, hi => by
   obtain ⟨g1, g2⟩ := grow_spec (p := p) ho
   have g3 := grow_in hp hs ho hi
   rw [reachF]
   cases hq : ((grow p o).length == o.length)
   · have hne : (grow p o).length ≠ o.length := by simpa using hq
     have hge := (lt_sub ho g1 fun x hx => (g2 x).2 (.inl hx)).length_le
     obtain ⟨r1, r2, r3, r4, r5⟩ := reachF_spec hp hs m (grow p o) (by omega) g1 g3
     refine ⟨r1, r2, fun x hx => r3 x ((g2 x).2 (.inl hx)), r4, fun S h1 h2 => r5 S (fun x hx => ?_) h2⟩
     rcases (g2 x).1 hx with h | ⟨y, hy, h⟩
     · exact h1 x h
     · exact h2 y (h1 y hy) x h
   · have heq : o = grow p o := lt_same ho g1 (fun x hx => (g2 x).2 (.inl hx)) (by simpa using hq)
     refine ⟨ho, hi, fun x hx => hx, fun x hx y hy => ?_, fun S h1 _ => h1⟩
     rw [heq]
     exact (g2 y).2 (.inr ⟨x, hx, hy⟩)
def reachL (p : Prg) : List Int := reachF p 33 (whI p p.start)
inductive Rch (p : Prg) : Int -> Prop
 | start {x : Int} : inS p x -> hN p p.start x = true -> Rch p x
 | step {x y : Int} : Rch p x -> y ∈ nxL p x -> Rch p y
theorem reachL_mem {p : Prg} (hp : FitP p) (hs : smallP p = true) (x : Int) : x ∈ reachL p ↔ Rch p x := by
 obtain ⟨r1, r2, r3, r4, r5⟩ := reachF_spec hp hs 33 (whI p p.start) (by omega) (whN_lt p p.start _ _) (fun x hx => ((whI_mem p p.start x).1 hx).1)
 constructor
 · exact r5 (Rch p) (fun x hx => .start ((whI_mem p p.start x).1 hx).1 ((whI_mem p p.start x).1 hx).2) (fun x hx y hy => .step hx hy) x
 · intro h
   induction h with
   | start h1 h2 => exact r3 _ ((whI_mem p p.start _).2 ⟨h1, h2⟩)
   | step _ h2 ih => exact r4 _ ih _ h2
end Go.Proofs.YthoecdnmokcfbaaGreat
/- The reference's way back. -/
set_option linter.unusedVariables false
set_option linter.unusedSimpArgs false
set_option maxRecDepth 4000
namespace Go.Proofs.YthoecdnmokcfbaaGreat
open Go.Dp
theorem meetI_iff (a b : List Int) : meetI a b = true ↔ ∃ y ∈ a, y ∈ b := by simp [meetI]
theorem rch_in {p : Prg} (hp : FitP p) (hs : smallP p = true) {x : Int} (h : Rch p x) : inS p x := by
 induction h with
 | start h1 _ => exact h1
 | step _ h2 ih => exact nxL_in hp hs ih _ h2
end Go.Proofs.YthoecdnmokcfbaaGreat
/- What is asked of reachable states: the reference's answers, the draws. -/
set_option linter.unusedVariables false
set_option linter.unusedSimpArgs false
set_option maxRecDepth 4000
namespace Go.Proofs.YthoecdnmokcfbaaGreat
open Go.Dp
theorem startK {p : Prg} (hs : smallP p = true) : kindT p.wide p.vars p.start = 2 := by
 have := small_good hs
 simp only [goodP, Bool.and_eq_true, beq_iff_eq] at this
 exact this.1.1.1
def alwB (p : Prg) (t : List Nd) : Bool := (reachL p).all (hN p t)
def alwOK (p : Prg) (t : List Nd) : Bool := smallP p && (kindT p.wide p.vars t == 2)
end Go.Proofs.YthoecdnmokcfbaaGreat
/- FnPlayed: the law. -/
set_option linter.unusedVariables false
set_option linter.unusedSimpArgs false
set_option maxRecDepth 4000
namespace Go.Proofs.YthoecdnmokcfbaaGreat
open Go.Dp
theorem hasL_loop {k : Nat} (l : List Int) (hl : l.length <= 100000) (v : Int) : ∀ (n i : Nat), l.length - i < n -> i <= l.length -> L19_1 k n v (encZ l) (l.length : Int) (i : Int) = r19 ((l.drop i).contains v)
 | 0, i, h, hi => by omega
 | n + 1, i, h, hi => by
   rw [sL19_1]
   by_cases hlt : i < l.length
   · have hd : decide ((i : Int) < (l.length : Int)) = true := by simpa using hlt
     rw [hd, encZ_lookup hlt, drop_cons hlt]
     simp only [cond_true, Option.bind_some, int_atInt, List.contains_cons]
     rw [show (v == l[i]) = (l[i] == v) from BEq.comm]
     cases he : (l[i] == v)
     · simp only [cond_false, Bool.false_or]
       rw [i64_id (by omega) (by omega)]
       exact hasL_loop l hl v n (i + 1) (by omega) (by omega)
     · simp
   · have hd : decide ((i : Int) < (l.length : Int)) = false := by simpa using hlt
     rw [hd, List.drop_eq_nil_of_le (by omega)]
     simp
theorem hasL_ok {k : Nat} (hk : 100010 <= k) (l : List Int) (hl : l.length <= 100000) (v : Int) : c19 k (encZ l) v = r19 (l.contains v) := by
 obtain ⟨k, rfl⟩ : ∃ j, k = j + 1 := ⟨k - 1, by omega⟩
 rw [n19, encZ_length]
 have := hasL_loop (k := k) l hl v k 0 (by omega) (by omega)
 simpa using this
theorem withinL_loop {k : Nat} (hk : 100010 <= k) (a b : List Int) (ha : a.length <= 100000) (hb : b.length <= 100000) : ∀ (n i : Nat), a.length - i < n -> i <= a.length -> L32_1 k n (encZ b) (encZ a) (a.length : Int) (i : Int) = r32 ((a.drop i).all fun x => b.contains x)
 | 0, i, h, hi => by omega
 | n + 1, i, h, hi => by
   rw [sL32_1]
   by_cases hlt : i < a.length
   · have hd : decide ((i : Int) < (a.length : Int)) = true := by simpa using hlt
     have hnext : IntKind.i64.wrap ((i : Int) + 1) = ((i + 1 : Nat) : Int) := by rw [i64_id (by omega) (by omega)]; omega
     rw [hd, encZ_lookup hlt, drop_cons hlt, hnext]
     simp only [cond_true, Option.bind_some, int_atInt]
     rw [hasL_ok hk b hb]
     simp only [R19_r, List.all_cons]
     cases b.contains a[i]
     · rfl
     · exact withinL_loop hk a b ha hb n (i + 1) (by omega) (by omega)
   · have hd : decide ((i : Int) < (a.length : Int)) = false := by simpa using hlt
     rw [hd, List.drop_eq_nil_of_le (by omega)]
     rfl
theorem withinL_ok {k : Nat} (hk : 100020 <= k) (a b : List Int) (ha : a.length <= 100000) (hb : b.length <= 100000) : c32 k (encZ a) (encZ b) = r32 (a.all fun x => b.contains x) := by
 obtain ⟨k, rfl⟩ : ∃ j, k = j + 1 := ⟨k - 1, by omega⟩
 rw [n32, encZ_length]
 exact withinL_loop (k := k) (by omega) a b ha hb k 0 (by omega) (by omega)
end Go.Proofs.YthoecdnmokcfbaaGreat
/- Sights by several conditions; cubes; cuts of the program. -/
set_option linter.unusedVariables false
set_option linter.unusedSimpArgs false
set_option linter.unusedSectionVars false
set_option maxRecDepth 8000
namespace Go.Proofs.YthoecdnmokcfbaaGreat
open Go.Dp
def stF (c : Int) : List Int -> Nat -> List Int
 | [], _ => []
 | x :: l, i => bif x == c then (i : Int) :: stF c l (i + 1) else stF c l (i + 1)
theorem stF_mem (c : Int) : ∀ (l : List Int) (i : Nat) (x : Int), x ∈ stF c l i ↔ ∃ j, ∃ h : j < l.length, x = ((i + j : Nat) : Int) /\ l[j] = c
 | [], i, x => by simp [stF]
 | y :: l, i, x => by
   have key : (x ∈ stF c (y :: l) i) ↔ (y = c /\ x = (i : Int)) ∨ x ∈ stF c l (i + 1) := by
     rw [stF]
     by_cases h : y = c
     · have h1 : (y == c) = true := by simpa using h
       rw [h1, cond_true, List.mem_cons]
       constructor
       · rintro (h2 | h2)
         · exact .inl ⟨h, h2⟩
         · exact .inr h2
       · rintro (⟨_, h2⟩ | h2)
         · exact .inl h2
         · exact .inr h2
     · have h1 : (y == c) = false := by simpa using h
       rw [h1, cond_false]
       exact ⟨.inr, fun h2 => h2.resolve_left fun h3 => h h3.1⟩
   rw [key, stF_mem c l (i + 1)]
   constructor
   · rintro (⟨h1, h2⟩ | ⟨j, hj, h1, h2⟩)
     · exact ⟨0, by simp, by simpa using h2, h1⟩
     · exact ⟨j + 1, by simp; omega, by rw [h1]; congr 1; omega, h2⟩
   · rintro ⟨j, hj, h1, h2⟩
     cases j with
     | zero => exact .inl ⟨h2, by simpa using h1⟩
     | succ j => exact .inr ⟨j, by simpa using hj, by rw [h1]; congr 1; omega, h2⟩
theorem stF_len (c : Int) : ∀ (l : List Int) (i : Nat), (stF c l i).length <= l.length
 | [], i => by simp [stF]
 | y :: l, i => by
   have := stF_len c l (i + 1)
   rw [stF]
   cases (y == c) <;> simp <;> omega
def stV (v : List Int) (c : Int) : List Int := stF c v 0
theorem statesIn_loop {k : Nat} (c : Int) (v : List Int) (hv : v.length <= 1000) : ∀ (n i : Nat) (o : List Int), v.length - i < n -> i <= v.length -> o.length <= i ->
   L101_1 k n c o.length (encZ v) (v.length : Int) (i : Int) (encZ o) = r101 (encZ (o ++ stF c (v.drop i) i))
 | 0, i, o, h, hi, ho => by omega
 | n + 1, i, o, h, hi, ho => by
   rw [sL101_1, encZ_tk]
   by_cases hlt : i < v.length
   · have hd : decide ((i : Int) < (v.length : Int)) = true := by simpa using hlt
     have hnext : IntKind.i64.wrap ((i : Int) + 1) = ((i + 1 : Nat) : Int) := by rw [i64_id (by omega) (by omega)]; omega
     rw [hd, encZ_lookup hlt, drop_cons hlt, hnext]
     simp only [cond_true, Option.bind_some, int_atInt, stF]
     cases (v[i] == c)
     · exact statesIn_loop c v hv n (i + 1) o (by omega) (by omega) (by omega)
     · rw [lim_ok (by omega) (by omega), encZ_snoc]
       have := statesIn_loop (k := k) c v hv n (i + 1) (o ++ [(i : Int)]) (by omega) (by omega) (by simp; omega)
       rw [List.length_append, List.append_assoc] at this
       exact this
   · have hd : decide ((i : Int) < (v.length : Int)) = false := by simpa using hlt
     rw [hd, List.drop_eq_nil_of_le (by omega)]
     simp [stF]
theorem statesIn_ok {k : Nat} (hk : 1010 <= k) {v : List Int} (hv : v.length <= 1000) (c : Int) : c101 k (encZ v) c = r101 (encZ (stV v c)) := by
 obtain ⟨k, rfl⟩ : ∃ j, k = j + 1 := ⟨k - 1, by omega⟩
 rw [n101, encZ_length]
 have := statesIn_loop (k := k) c v hv k 0 [] (by omega) (by omega) (by simp)
 simpa [stV, encZ] using this
theorem isClass_ok {k : Nat} (hk : 1000600 <= k) (p : Prg) (hp : FitP p) {v : List Int} (hv : OkV v) (c : Int) : c84 k p.wide p.vars (encT p.start) (encCms p.cmds) (encZ v) c = r84 (gsB p v && (decide (0 <= c) && decide (c < manyF v 0))) := by
 obtain ⟨k, rfl⟩ : ∃ j, k = j + 1 := ⟨k - 1, by omega⟩
 have hvl := hv.len
 rw [n84, goodSightI_ok (by omega) p hp v (by omega)]
 simp only [R49_r]
 cases hg : gsB p v
 · rfl
 obtain ⟨s1, s2, s3⟩ := gs_small hg
 have := (nS_le s1).1
 simp only [cond_true, Bool.true_and, ge_iff_le]
 cases h0 : decide (0 <= c)
 · rfl
 simp only [cond_true, Bool.true_and]
 rw [classes_ok (by omega) (by omega) (by rintro rfl; simp at s3; omega) s2]
 simp only [R116_r]
end Go.Proofs.YthoecdnmokcfbaaGreat
/- Graphs of small programs. -/
set_option linter.unusedVariables false
set_option linter.unusedSimpArgs false
set_option maxRecDepth 4000
namespace Go.Proofs.YthoecdnmokcfbaaGreat
open Go.Dp
def encZZ (l : List (List Int)) : List PV := l.map fun z => .row 0 0 (encZ z)
@[simp] theorem encZZ_length (l : List (List Int)) : (encZZ l).length = l.length := by simp [encZZ]
theorem encZZ_get (l : List (List Int)) (i : Nat) : (encZZ l)[i]? = (l[i]?).map fun z => .row 0 0 (encZ z) := by simp [encZZ]
theorem encZZ_snoc (l : List (List Int)) (x : List Int) : encZZ l ++ [.row 0 0 (encZ x)] = encZZ (l ++ [x]) := by simp [encZZ]
def graphF (p : Prg) : Nat -> Nat -> List (List Int)
 | 0, i => []
 | m + 1, i => nxL p (i : Int) :: graphF p m (i + 1)
def graphL (p : Prg) : List (List Int) := graphF p (nS p) 0
theorem graphF_len (p : Prg) : ∀ (m i : Nat), (graphF p m i).length = m
 | 0, i => rfl
 | m + 1, i => by simp [graphF, graphF_len p m]
theorem graphF_get (p : Prg) : ∀ (m i j : Nat), j < m -> (graphF p m i)[j]? = some (nxL p ((i + j : Nat) : Int))
 | 0, i, j, h => by omega
 | m + 1, i, 0, h => by simp [graphF]
 | m + 1, i, j + 1, h => by
   rw [graphF, List.getElem?_cons_succ, graphF_get p m (i + 1) j (by omega)]
   congr 3
   omega
theorem graph_loop {k : Nat} (hk : 1000300 <= k) {p : Prg} (hp : FitP p) (hs : smallP p = true) (l1 : List PV) : ∀ (m n i : Nat) (o : List (List Int)), m < n -> i + m = nS p -> o.length = i ->
   L133_1 k n o.length (nS p : Int) (i : Int) p.wide p.vars l1 (encCms p.cmds) (encZZ o) = r133 (encZZ (o ++ graphF p m i))
 | m, 0, i, o, hn, hm, ho => by omega
 | 0, n + 1, i, o, hn, hm, ho => by
   have hd : decide ((i : Int) < (nS p : Int)) = false := by simp; omega
   have etk : (encZZ o).take o.length = encZZ o := by rw [List.take_of_length_le (by simp)]
   rw [sL133_1, hd, etk, graphF, List.append_nil]
   rfl
 | m + 1, n + 1, i, o, hn, hm, ho => by
   have hle := (nS_le hs).2
   have hd : decide ((i : Int) < (nS p : Int)) = true := by simp; omega
   have hnext : IntKind.i64.wrap ((i : Int) + 1) = ((i + 1 : Nat) : Int) := by rw [i64_id (by omega) (by omega)]; omega
   have etk : (encZZ o).take o.length = encZZ o := by rw [List.take_of_length_le (by simp)]
   rw [sL133_1, hd, nextI_ok (by omega) hp hs ⟨by omega, by omega⟩, hnext, etk]
   simp only [cond_true, R66_r]
   rw [lim_ok (by omega) (by omega), encZZ_snoc]
   simp only [cond_true]
   have := graph_loop hk hp hs l1 m n (i + 1) (o ++ [nxL p (i : Int)]) (by omega) (by omega) (by simp; omega)
   rw [List.length_append, List.append_assoc] at this
   exact this
theorem graph_ok {k : Nat} (hk : 1000400 <= k) {p : Prg} (hp : FitP p) (hs : smallP p = true) (l1 : List PV) : c133 k p.wide p.vars l1 (encCms p.cmds) = r133 (encZZ (graphL p)) := by
 obtain ⟨k, rfl⟩ : ∃ j, k = j + 1 := ⟨k - 1, by omega⟩
 have hle := (nS_le hs).2
 rw [n133, nSI_ok (by omega) hs]
 simp only [R50_r]
 exact graph_loop (k := k) (by omega) hp hs l1 (nS p) k 0 [] (by omega) (by omega) rfl
end Go.Proofs.YthoecdnmokcfbaaGreat
/- Graphs turned around. -/
set_option linter.unusedVariables false
set_option linter.unusedSimpArgs false
set_option maxRecDepth 4000
namespace Go.Proofs.YthoecdnmokcfbaaGreat
open Go.Dp
def atL (o : List (List Int)) (w : Nat) : List Int := (o[w]?).getD []
end Go.Proofs.YthoecdnmokcfbaaGreat
/- Breadth first: the least numbers of steps. -/
set_option linter.unusedVariables false
set_option linter.unusedSimpArgs false
namespace Go.Proofs.YthoecdnmokcfbaaGreat
open Go.Dp
def dAt (d : List Int) (v : Int) : Int := (d[v.toNat]?).getD (-1)
def inG (N : Nat) (v : Int) : Prop := 0 <= v /\ v.toNat < N
inductive Way (g : List (List Int)) (some : List Int) : Nat -> Int -> Prop
 | start (v : Int) (h : v ∈ some) : Way g some 0 v
 | step (n : Nat) (v w : Int) (h : Way g some n v) (hw : w ∈ atL g v.toNat) : Way g some (n + 1) w
def bIn (h : Int) : List Int -> List Int -> List Int -> List Int × List Int
 | [], d, q => (d, q)
 | w :: l, d, q => bif decide (dAt d w < 0) then bIn h l (d.set w.toNat (dAt d h + 1)) (q ++ [w]) else bIn h l d q
def bOut (g : List (List Int)) : Nat -> List Int -> List Int -> List Int
 | _, d, [] => d
 | 0, d, _ => d
 | m + 1, d, h :: t => bOut g m (bIn h (atL g h.toNat) d (h :: t)).1 ((bIn h (atL g h.toNat) d (h :: t)).2.drop 1)
def bSt : List Int -> List Int -> List Int
 | [], d => d
 | v :: l, d => bSt l (d.set v.toNat 0)
def stepsL (g : List (List Int)) (some : List Int) : List Int := bOut g (some.length + g.length) (bSt some (List.replicate g.length (-1))) some
theorem dAt_set {d : List Int} {w : Int} (hw : inG d.length w) (x : Int) {v : Int} (hv : 0 <= v) : dAt (d.set w.toNat x) v = if v = w then x else dAt d v := by
 obtain ⟨h0, h1⟩ := hw
 unfold dAt
 by_cases e : v = w
 · subst e; rw [List.getElem?_set_self h1, if_pos rfl]; rfl
 · rw [List.getElem?_set_ne (by omega), if_neg e]
def negs (d : List Int) : Nat := d.countP fun x => decide (x < 0)
theorem negs_set : ∀ {d : List Int} {i : Nat} (x : Int), i < d.length -> (d[i]?).getD (-1) < 0 -> 0 <= x -> negs (d.set i x) + 1 = negs d
 | [], i, x, h, _, _ => by simp at h
 | a :: d, 0, x, h, h1, h2 => by
   simp at h1
   simp only [List.set_cons_zero, negs, List.countP_cons]
   rw [if_neg (by simp; omega), if_pos (by simpa using h1)]
 | a :: d, i + 1, x, h, h1, h2 => by
   have := negs_set (d := d) (i := i) x (by simpa using h) (by simpa using h1) h2
   simp only [List.set_cons_succ, negs, List.countP_cons] at this ⊢
   omega
structure BfsI (g : List (List Int)) (some d q : List Int) : Prop where
 len : d.length = g.length
 rng : ∀ v ∈ q, inG g.length v
 snd : ∀ v, inG g.length v -> dAt d v = -1 ∨ (0 <= dAt d v /\ Way g some (dAt d v).toNat v)
 st : ∀ v ∈ some, dAt d v = 0
 vis : ∀ v ∈ q, 0 <= dAt d v
 srt : q.Pairwise (fun a b => dAt d a <= dAt d b)
 bnd : ∀ h t, q = h :: t -> ∀ v, inG g.length v -> dAt d v <= dAt d h + 1
 don : ∀ v, inG g.length v -> 0 <= dAt d v -> v ∉ q -> ∀ w ∈ atL g v.toNat, 0 <= dAt d w /\ dAt d w <= dAt d v + 1
theorem bIn_spec {g : List (List Int)} {some : List Int} (hg : ∀ (i : Nat) (x : Int), x ∈ atL g i -> inG g.length x) (hs : ∀ x ∈ some, inG g.length x) (h : Int) : ∀ (l d t : List Int), BfsI g some d (h :: t) -> (∀ w ∈ l, w ∈ atL g h.toNat) ->
   ∃ t', (bIn h l d (h :: t)).2 = h :: t' /\ BfsI g some (bIn h l d (h :: t)).1 (h :: t') /\ (∀ v, inG g.length v -> 0 <= dAt d v -> dAt (bIn h l d (h :: t)).1 v = dAt d v) /\ (∀ w ∈ l, 0 <= dAt (bIn h l d (h :: t)).1 w) /\ negs (bIn h l d (h :: t)).1 + t'.length = negs d + t.length
 | [], d, t, hI, hl => ⟨t, rfl, hI, fun _ _ _ => rfl, by simp, rfl⟩
 | w :: l, d, t, hI, hl => by
   have hh := hI.vis h (by simp)
   have hhr := hI.rng h (by simp)
   have hwr : inG g.length w := hg _ _ (hl w (by simp))
   have hwd : inG d.length w := by rw [hI.len]; exact hwr
   rw [bIn]
   by_cases hc : dAt d w < 0
   · have e : decide (dAt d w < 0) = true := by simpa using hc
     rw [e]
     simp only [cond_true]
     have key : ∀ v, inG g.length v -> dAt (d.set w.toNat (dAt d h + 1)) v = if v = w then dAt d h + 1 else dAt d v := fun v hv => dAt_set hwd _ hv.1
     have old : ∀ v, inG g.length v -> 0 <= dAt d v -> dAt (d.set w.toNat (dAt d h + 1)) v = dAt d v := by
       intro v hv h0
       rw [key v hv, if_neg (by rintro rfl; omega)]
     have hI2 : BfsI g some (d.set w.toNat (dAt d h + 1)) (h :: (t ++ [w])) := by
       refine ⟨by rw [List.length_set]; exact hI.len, ?_, ?_, ?_, ?_, ?_, ?_, ?_⟩
       · intro v hv
         rcases List.mem_cons.1 hv with rfl | hv
         · exact hhr
         · rcases List.mem_append.1 hv with hv | hv
           · exact hI.rng v (by simp [hv])
           · rw [List.mem_singleton.1 hv]; exact hwr
       · intro v hv
         rw [key v hv]
         by_cases e1 : v = w
         · subst e1
           rw [if_pos rfl]
           right
           refine ⟨by omega, ?_⟩
           rcases hI.snd h hhr with h1 | ⟨_, h1⟩
           · omega
           · have := Way.step _ _ v h1 (hl v (by simp))
             rwa [show (dAt d h).toNat + 1 = (dAt d h + 1).toNat by omega] at this
         · rw [if_neg e1]; exact hI.snd v hv
       · intro v hv
         rw [old v (hs v hv) (by rw [hI.st v hv]; omega)]
         exact hI.st v hv
       · intro v hv
         rcases List.mem_cons.1 hv with rfl | hv
         · rw [old v hhr hh]; exact hh
         · rcases List.mem_append.1 hv with hv | hv
           · have h1 := hI.vis v (by simp [hv])
             rw [old v (hI.rng v (by simp [hv])) h1]; exact h1
           · rw [List.mem_singleton.1 hv, key w hwr, if_pos rfl]; omega
       · rw [<- List.cons_append, List.pairwise_append]
         refine ⟨?_, by simp, ?_⟩
         · refine hI.srt.imp_of_mem ?_
           intro a b ha hb hab
           rw [old a (hI.rng a ha) (hI.vis a ha), old b (hI.rng b hb) (hI.vis b hb)]
           exact hab
         · intro a ha b hb
           rw [List.mem_singleton.1 hb, key w hwr, if_pos rfl, old a (hI.rng a ha) (hI.vis a ha)]
           exact hI.bnd h t rfl a (hI.rng a ha)
       · intro h' t' he v hv
         injection he with he _
         subst he
         rw [old h hhr hh, key v hv]
         by_cases e1 : v = w
         · rw [if_pos e1]; omega
         · rw [if_neg e1]; exact hI.bnd h t rfl v hv
       · intro v hv h0 hn x hx
         have hvw : v ≠ w := by rintro rfl; exact hn (by simp)
         have hvq : v ∉ h :: t := by
           intro hm
           rcases List.mem_cons.1 hm with rfl | hm
           · exact hn (by simp)
           · exact hn (by simp [hm])
         rw [key v hv, if_neg hvw] at h0 ⊢
         obtain ⟨h1, h2⟩ := hI.don v hv h0 hvq x hx
         rw [old x (hg _ _ hx) h1]
         exact ⟨h1, h2⟩
     obtain ⟨t', r1, r2, r3, r4, r5⟩ := bIn_spec hg hs h l _ (t ++ [w]) hI2 (fun x hx => hl x (by simp [hx]))
     have hq : (h :: t) ++ [w] = h :: (t ++ [w]) := rfl
     rw [hq]
     refine ⟨t', r1, r2, fun v hv h0 => ?_, fun x hx => ?_, ?_⟩
     · rw [r3 v hv (by rw [old v hv h0]; exact h0), old v hv h0]
     · rcases List.mem_cons.1 hx with rfl | hx
       · rw [r3 x hwr (by rw [key x hwr, if_pos rfl]; omega), key x hwr, if_pos rfl]; omega
       · exact r4 x hx
     · have := negs_set (d := d) (i := w.toNat) (dAt d h + 1) hwd.2 hc (by omega)
       rw [r5, List.length_append, List.length_singleton]
       omega
   · have e : decide (dAt d w < 0) = false := by simpa using hc
     rw [e]
     simp only [cond_false]
     obtain ⟨t', r1, r2, r3, r4, r5⟩ := bIn_spec hg hs h l d t hI (fun x hx => hl x (by simp [hx]))
     refine ⟨t', r1, r2, r3, fun x hx => ?_, r5⟩
     rcases List.mem_cons.1 hx with rfl | hx
     · rw [r3 x hwr (by omega)]; omega
     · exact r4 x hx
theorem bPop {g : List (List Int)} {some : List Int} {h : Int} {d t : List Int} (hg : ∀ (i : Nat) (x : Int), x ∈ atL g i -> inG g.length x) (hI : BfsI g some d (h :: t)) (hd : ∀ w ∈ atL g h.toNat, 0 <= dAt d w) : BfsI g some d t := by
 have hs := List.pairwise_cons.1 hI.srt
 refine ⟨hI.len, fun v hv => hI.rng v (by simp [hv]), hI.snd, hI.st, fun v hv => hI.vis v (by simp [hv]), hs.2, ?_, ?_⟩
 · rintro h' t' rfl v hv
   have h1 := hI.bnd h _ rfl v hv
   have h2 := hs.1 h' (by simp)
   omega
 · intro v hv h0 hn w hw
   by_cases e : v = h
   · subst e
     exact ⟨hd w hw, hI.bnd v t rfl w (hg _ _ hw)⟩
   · exact hI.don v hv h0 (by simp [e, hn]) w hw
theorem bOut_spec {g : List (List Int)} {some : List Int} (hg : ∀ (i : Nat) (x : Int), x ∈ atL g i -> inG g.length x) (hs : ∀ x ∈ some, inG g.length x) : ∀ (m : Nat) (d q : List Int), BfsI g some d q -> negs d + q.length <= m -> BfsI g some (bOut g m d q) []
 | m, d, [], hI, hm => by unfold bOut; exact hI
 | 0, d, h :: t, hI, hm => by simp at hm
 | m + 1, d, h :: t, hI, hm => by
   obtain ⟨t', r1, r2, r3, r4, r5⟩ := bIn_spec hg hs h (atL g h.toNat) d t hI (fun x hx => hx)
   rw [bOut, r1]
   simp only [List.length_cons] at hm
   exact bOut_spec hg hs m _ t' (bPop hg r2 r4) (by omega)
theorem bSt_spec : ∀ (l d : List Int), (∀ v ∈ l, inG d.length v) -> (bSt l d).length = d.length /\ ∀ v, 0 <= v -> dAt (bSt l d) v = if v ∈ l then 0 else dAt d v
 | [], d, h => ⟨rfl, fun v _ => by simp [bSt]⟩
 | x :: l, d, h => by
   have hx := h x (by simp)
   obtain ⟨h1, h2⟩ := bSt_spec l (d.set x.toNat 0) (fun v hv => by rw [List.length_set]; exact h v (by simp [hv]))
   rw [bSt]
   refine ⟨by rw [h1, List.length_set], fun v hv => ?_⟩
   rw [h2 v hv, dAt_set hx 0 hv]
   by_cases e1 : v ∈ l
   · simp [e1]
   · by_cases e2 : v = x <;> simp [e1, e2]
theorem dAt_rep (N : Nat) (v : Int) : dAt (List.replicate N (-1)) v = -1 := by
 unfold dAt
 by_cases h : v.toNat < N
 · simp [h]
 · rw [List.getElem?_eq_none (by simp; omega)]; rfl
theorem negs_le (d : List Int) : negs d <= d.length := List.countP_le_length
theorem bfs_start {g : List (List Int)} {some : List Int} (hs : ∀ x ∈ some, inG g.length x) : BfsI g some (bSt some (List.replicate g.length (-1))) some := by
 obtain ⟨h1, h2⟩ := bSt_spec some (List.replicate g.length (-1)) (fun v hv => by simpa using hs v hv)
 have hd : ∀ v, 0 <= v -> dAt (bSt some (List.replicate g.length (-1))) v = if v ∈ some then 0 else -1 := fun v hv => by rw [h2 v hv, dAt_rep]
 refine ⟨by simpa using h1, hs, ?_, ?_, ?_, ?_, ?_, ?_⟩
 · intro v hv
   rw [hd v hv.1]
   by_cases e : v ∈ some
   · rw [if_pos e]; exact .inr ⟨by omega, .start v e⟩
   · rw [if_neg e]; exact .inl rfl
 · intro v hv; rw [hd v (hs v hv).1, if_pos hv]
 · intro v hv; rw [hd v (hs v hv).1, if_pos hv]; omega
 · refine (List.pairwise_of_forall (R := fun _ _ => True) (fun _ _ => trivial)).imp_of_mem ?_
   intro a b ha hb _
   rw [hd a (hs a ha).1, hd b (hs b hb).1, if_pos ha, if_pos hb]
   omega
 · rintro h t rfl v hv
   rw [hd v hv.1, hd h (hs h (by simp)).1, if_pos (show h ∈ h :: t by simp)]
   split <;> omega
 · intro v hv h0 hn
   rw [hd v hv.1, if_neg hn] at h0
   omega
theorem stepsL_spec {g : List (List Int)} {some : List Int} (hg : ∀ (i : Nat) (x : Int), x ∈ atL g i -> inG g.length x) (hs : ∀ x ∈ some, inG g.length x) : (stepsL g some).length = g.length /\
   ∀ v, inG g.length v -> (dAt (stepsL g some) v = -1 /\ ∀ n, ¬ Way g some n v) ∨ (0 <= dAt (stepsL g some) v /\ Way g some (dAt (stepsL g some) v).toNat v /\ ∀ n, Way g some n v -> dAt (stepsL g some) v <= n) := by
 have hI := bOut_spec hg hs (some.length + g.length) _ some (bfs_start hs) (by
   have h1 := negs_le (bSt some (List.replicate g.length (-1)))
   have h2 := (bfs_start hs).len
   omega)
 have hI' : BfsI g some (stepsL g some) [] := hI
 have low : ∀ n v, Way g some n v -> 0 <= dAt (stepsL g some) v /\ dAt (stepsL g some) v <= n /\ inG g.length v := by
   intro n v hw
   induction hw with
   | start v h => rw [hI'.st v h]; exact ⟨by omega, by omega, hs v h⟩
   | step n v w _ hw ih =>
     obtain ⟨h1, h2⟩ := hI'.don v ih.2.2 ih.1 (by simp) w hw
     exact ⟨h1, by omega, hg _ _ hw⟩
 refine ⟨hI'.len, fun v hv => ?_⟩
 rcases hI'.snd v hv with h | ⟨h1, h2⟩
 · exact .inl ⟨h, fun n hn => by have := (low n v hn).1; omega⟩
 · exact .inr ⟨h1, h2, fun n hn => (low n v hn).2.1⟩
end Go.Proofs.YthoecdnmokcfbaaGreat
/- A row made of one value, many times over. -/
set_option linter.unusedVariables false
set_option linter.unusedSimpArgs false
set_option maxRecDepth 8000
namespace Go.Proofs.YthoecdnmokcfbaaGreat
open Go.Dp
theorem lo32B (a : W) : (a &&& 4294967295#64).toNat = a.toNat % 4294967296 := by
 rw [BitVec.toNat_and]
 exact Nat.and_two_pow_sub_one_eq_mod a.toNat 32
theorem hi32B (a : W) : (a >>> (32 : Int).toNat).toNat = a.toNat / 4294967296 := by
 rw [BitVec.toNat_ushiftRight, Nat.shiftRight_eq_div_pow]
 rfl
theorem mulB64_ok {k : Nat} (hk : 1 <= k) (a b : W) : ∃ h : W, c235 k (wi a) (wi b) = r235 (wi h) (wi (a * b)) /\ h.toNat = a.toNat * b.toNat / 18446744073709551616 := by
 obtain ⟨k, rfl⟩ : ∃ j, k = j + 1 := ⟨k - 1, by omega⟩
 rw [n235]
 have e : (4294967295 : Int) = wi 4294967295#64 := rfl
 have hs : ∀ x : W, shrI .u64 (wi x) 32 = wi (x >>> (32 : Int).toNat) := fun x => shr_wi x (by omega)
 rw [e]
 simp only [hs, and_wi, mul_wi, add_wi]
 refine ⟨_, rfl, ?_⟩
 simp only [BitVec.toNat_add, BitVec.toNat_mul, lo32B, hi32B]
 have ha := a.isLt
 have hb := b.isLt
 generalize a.toNat = x at *
 generalize b.toNat = y at *
 have hx : x = x / 4294967296 * 4294967296 + x % 4294967296 := by omega
 have hy : y = y / 4294967296 * 4294967296 + y % 4294967296 := by omega
 have b1 : x / 4294967296 <= 4294967295 := by omega
 have b2 : x % 4294967296 <= 4294967295 := by omega
 have b3 : y / 4294967296 <= 4294967295 := by omega
 have b4 : y % 4294967296 <= 4294967295 := by omega
 have e1 : x * y = x / 4294967296 * (y / 4294967296) * 18446744073709551616 + (x / 4294967296 * (y % 4294967296) + x % 4294967296 * (y / 4294967296)) * 4294967296 + x % 4294967296 * (y % 4294967296) := by
   generalize x / 4294967296 = p at *
   generalize x % 4294967296 = q at *
   generalize y / 4294967296 = u at *
   generalize y % 4294967296 = v at *
   subst hx hy
   simp only [Nat.add_mul, Nat.mul_add]
   have t1 : p * 4294967296 * (u * 4294967296) = p * u * 18446744073709551616 := by rw [Nat.mul_mul_mul_comm]
   have t2 : p * 4294967296 * v = p * v * 4294967296 := by rw [Nat.mul_right_comm]
   have t3 : q * (u * 4294967296) = q * u * 4294967296 := by rw [Nat.mul_assoc]
   rw [t1, t2, t3]
   omega
 rw [e1]
 have m1 := Nat.mul_le_mul b1 b3
 have m2 := Nat.mul_le_mul b1 b4
 have m3 := Nat.mul_le_mul b2 b3
 have m4 := Nat.mul_le_mul b2 b4
 generalize x / 4294967296 * (y / 4294967296) = A at *
 generalize x / 4294967296 * (y % 4294967296) = B at *
 generalize x % 4294967296 * (y / 4294967296) = C at *
 generalize x % 4294967296 * (y % 4294967296) = D at *
 clear e1 hx hy
 omega
theorem u64_small {n : Int} (h0 : 0 <= n) (h1 : n <= 1000000) : IntKind.u64.wrap n = n := by
 show n % 18446744073709551616 = n
 omega
theorem repeat_loop {k : Nat} (N : Nat) (hN : N <= 1000) (a : Int) : ∀ (n c : Nat), 1 <= c -> c <= N -> N - c < n ->
   L201_1 k n N (c : Int) (encZ (List.replicate c a ++ List.replicate (N - c) 0)) = r201 (encZ (List.replicate N a))
 | 0, c, h1, h2, h => by omega
 | n + 1, c, h1, h2, h => by
   rw [sL201_1]
   have ln : (encZ (List.replicate c a ++ List.replicate (N - c) 0)).length = N := by simp; omega
   by_cases hlt : c < N
   · have hd : decide ((c : Int) < (N : Int)) = true := by simpa using hlt
     have ht : (encZ (List.replicate c a ++ List.replicate (N - c) 0)).take c = encZ (List.replicate c a) := by rw [encZ_take, List.take_left' (by simp)]
     have hl : ((encZ (List.replicate c a)).length) = c := by simp
     have hm : min c (N - c) <= c := Nat.min_le_left _ _
     have hm2 : min c (N - c) <= N - c := Nat.min_le_right _ _
     have hm3 : 1 <= min c (N - c) := by omega
     rw [hd]
     simp only [Int.toNat_natCast, Nat.zero_add, ht, hl]
     have hg1 : (decide ((0 : Int) <= (c : Int)) && decide ((c : Int) <= (N : Int)) && decide ((N : Int) <= (N : Int))) = true := by simp; omega
     have hg2 : (decide ((0 : Int) <= (c : Int)) && decide ((c : Int) <= (N : Int))) = true := by simp; omega
     have ht2 : (encZ (List.replicate c a)).take (min c (N - c)) = encZ (List.replicate (min c (N - c)) a) := by rw [encZ_take, List.take_replicate, Nat.min_eq_left hm]
     have ht3 : (encZ (List.replicate c a ++ List.replicate (N - c) 0)).drop (c + min c (N - c)) = encZ (List.replicate (N - (c + min c (N - c))) 0) := by
       rw [show encZ (List.replicate c a ++ List.replicate (N - c) 0) = encZ (List.replicate c a) ++ encZ (List.replicate (N - c) 0) by simp [encZ], <- List.drop_drop, List.drop_left' (by simp)]
       simp only [encZ, <- List.map_drop, List.drop_replicate]
       congr 2
       omega
     have hnext : IntKind.i64.wrap ((c : Int) + ((min c (N - c) : Nat) : Int)) = ((c + min c (N - c) : Nat) : Int) := by rw [i64_id (by omega) (by omega)]; omega
     have he : encZ (List.replicate c a) ++ encZ (List.replicate (min c (N - c)) a) ++ encZ (List.replicate (N - (c + min c (N - c))) 0) = encZ (List.replicate (c + min c (N - c)) a ++ List.replicate (N - (c + min c (N - c))) 0) := by
       simp [encZ, <- List.replicate_append_replicate]
     rw [hg1, hg2, ht2, encZ_length, List.length_replicate, ht3, hnext, he]
     simp only [cond_true]
     exact repeat_loop N hN a n _ (by omega) (by omega) (by omega)
   · have hd : decide ((c : Int) < (N : Int)) = false := by simpa using hlt
     have hc : c = N := by omega
     subst hc
     have et : (encZ (List.replicate c a)).take c = encZ (List.replicate c a) := by rw [List.take_of_length_le (by simp)]
     rw [hd, Nat.sub_self, List.replicate_zero, List.append_nil, et]
     rfl
theorem repeat_ok {k : Nat} (hk : 1010 <= k) (N : Nat) (hN : N <= 1000) (a : Int) : c201 k [PV.int .i64 a] (N : Int) = r201 (encZ (List.replicate N a)) := by
 obtain ⟨k, rfl⟩ : ∃ j, k = j + 1 := ⟨k - 1, by omega⟩
 rw [n201]
 have hd : decide ((N : Int) < 0) = false := by simp
 have hw1 : IntKind.u64.wrap (([PV.int .i64 a] : List PV).length : Int) = wi 1#64 := rfl
 have hw2 : IntKind.u64.wrap (N : Int) = wi (BitVec.ofNat 64 N) := by
   rw [u64_small (by omega) (by omega)]
   show (N : Int) = ((BitVec.ofNat 64 N).toNat : Int)
   rw [BitVec.toNat_ofNat, Nat.mod_eq_of_lt (by omega)]
 obtain ⟨k, rfl⟩ : ∃ j, k = j + 1 := ⟨k - 1, by omega⟩
 rw [hd, hw1, hw2, n224]
 obtain ⟨h, h1, h2⟩ := mulB64_ok (k := k) (by omega) 1#64 (BitVec.ofNat 64 N)
 rw [h1]
 simp only [R235_r, R224_r, cond_false]
 have hh : h = 0#64 := by
   apply BitVec.eq_of_toNat_eq
   rw [h2, BitVec.toNat_ofNat, BitVec.toNat_ofNat, Nat.mod_eq_of_lt (a := N) (by omega)]
   simp
   omega
 have hv : wi (1#64 * BitVec.ofNat 64 N) = (N : Int) := by
   rw [BitVec.one_mul, <- hw2, u64_small (by omega) (by omega)]
 subst hh
 have h0 : decide (wi 0#64 > 0) = false := rfl
 have h3 : decide ((N : Int) > 9223372036854775807) = false := by simp; omega
 have h4 : IntKind.i64.wrap (N : Int) = (N : Int) := i64_id (by omega) (by omega)
 have h5 : (((N : Int) == (N : Int)) && decide ((0 : Int) <= (N : Int)) && decide (N * 8 <= LIM) && decide (N <= LIM)) = true := by
   have q1 : decide (N * 8 <= LIM) = true := decide_eq_true (by unfold LIM; omega)
   have q2 : decide (N <= LIM) = true := decide_eq_true (by unfold LIM; omega)
   rw [q1, q2]
   simp
 rw [hv, h0, h3, h4]
 simp only [cond_false, Int.toNat_natCast]
 rw [h5]
 simp only [cond_true, List.length_singleton]
 rcases Nat.eq_zero_or_pos N with hN0 | hN0
 · subst hN0
   obtain ⟨k, rfl⟩ : ∃ j, k = j + 1 := ⟨k - 1, by omega⟩
   rw [sL201_1]
   rfl
 · have e1 : min 1 N = 1 := by omega
   rw [e1]
   have e2 : (List.replicate N (PV.int .i64 0)).take 0 ++ [PV.int .i64 a].take 1 ++ (List.replicate N (PV.int .i64 0)).drop (0 + ([PV.int .i64 a].take 1).length) = encZ (List.replicate 1 a ++ List.replicate (N - 1) 0) := by
     simp [encZ]
   rw [e2]
   exact repeat_loop (k := k + 1) N hN a (k + 1) 1 (by omega) (by omega) (by omega)
end Go.Proofs.YthoecdnmokcfbaaGreat
/- The program's numbers of steps: breadth first. -/
set_option linter.unusedVariables false
set_option linter.unusedSimpArgs false
set_option maxRecDepth 8000
namespace Go.Proofs.YthoecdnmokcfbaaGreat
open Go.Dp
theorem encZ_at {d : List Int} {v : Int} (h : inG d.length v) : (encZ d)[0 + v.toNat]? = some (.int .i64 (dAt d v)) := by
 rw [Nat.zero_add, encZ_get, List.getElem?_eq_getElem h.2]
 simp [dAt, h.2]
theorem inG_dec {N : Nat} {v : Int} (h : inG N v) : (decide ((0 : Int) <= v) && decide (v < (N : Int))) = true := by
 obtain ⟨h0, h1⟩ := h
 rw [decide_eq_true h0, decide_eq_true (by omega)]
 rfl
theorem R201p_enc (l : List Int) (K0 : List PV -> R) : R201p (r201 (encZ l)) K0 = K0 (encZ l) := by
 have h : ([SV.c (.own 3 0 (encZ l))].all plainS && true) = true := by simp [plainS, plainC, encZ_plain]; rfl
 show (bif ([SV.c (.own 3 0 (encZ l))].all plainS && true) then K0 (encZ l) else none) = _
 rw [h]
 rfl
structure GrF (G : List PV) (g : List (List Int)) : Prop where
 len : G.length = g.length
 row : ∀ i, i < g.length -> ∃ p, G[i]? = some p /\ p.atRow 0 0 = some (encZ (atL g i))
theorem GrF.at {G : List PV} {g : List (List Int)} (h : GrF G g) {v : Int} (hv : inG g.length v) : (lookP G v).bind (fun p => p.atRow 0 0) = some (encZ (atL g v.toNat)) := by
 obtain ⟨p, h1, h2⟩ := h.row v.toNat hv.2
 have : v = ((v.toNat : Nat) : Int) := by have := hv.1; omega
 rw [this, lookP_nat, Int.toNat_natCast, h1]
 exact h2
theorem GrF.bind {G : List PV} {g : List (List Int)} (h : GrF G g) {v : Int} (hv : inG g.length v) {α : Type} (K : List PV -> Option α) : ((lookP G v).bind fun p => (p.atRow 0 0).bind fun l => K l) = K (encZ (atL g v.toNat)) := by
 have := h.at hv
 cases hl : lookP G v with
 | none => rw [hl] at this; cases this
 | some p =>
   rw [hl] at this
   simp only [Option.bind_some] at this ⊢
   rw [this]
   rfl
section
variable {k : Nat} {G : List PV} (h : Int)
theorem in3 (n1 : Nat) (N : Nat) (l : List Int) (hll : l.length <= 1000) (hl : ∀ w ∈ l, inG N w) (hN : N <= 1000) : ∀ (n j : Nat) (d t : List Int), l.length - j < n -> j <= l.length -> d.length = N -> inG N h -> (h :: t).length + (l.length - j) <= 100000 -> 0 <= dAt d h -> dAt d h <= 100000 ->
   L177_3 k n1 n G N (h :: t).length (encZ l) (l.length : Int) (j : Int) (encZ d) (encZ (h :: t)) =
     L177_4 k n1 G N 1 ((bIn h (l.drop j) d (h :: t)).2.length - 1) (encZ (bIn h (l.drop j) d (h :: t)).1) (encZ (bIn h (l.drop j) d (h :: t)).2)
 | 0, j, d, t, hn, hj, hd, hh, hq, h0, h1 => by omega
 | n + 1, j, d, t, hn, hj, hd, hh, hq, h0, h1 => by
   rw [sL177_3]
   by_cases hlt : j < l.length
   · have hdj : decide ((j : Int) < (l.length : Int)) = true := by simpa using hlt
     have hnext : IntKind.i64.wrap ((j : Int) + 1) = ((j + 1 : Nat) : Int) := by rw [i64_id (by omega) (by omega)]; omega
     have hw := hl _ (List.getElem_mem hlt)
     rw [hdj, encZ_lookup hlt, hnext]
     simp only [cond_true, Option.bind_some, int_atInt]
     rw [inG_dec hw, encZ_at (d := d) (v := l[j]) (by rw [hd]; exact hw)]
     simp only [cond_true, Option.bind_some, int_atInt]
     rw [drop_cons hlt, bIn]
     cases hc : decide (dAt d l[j] < 0)
     · exact in3 n1 N l hll hl hN n (j + 1) d t (by omega) (by omega) hd hh (by omega) h0 h1
     · have hp : decide ((0 : Int) < (((h :: t).length : Nat) : Int)) = true := decide_eq_true (by rw [List.length_cons]; omega)
       have hget : (encZ (h :: t))[0]? = some (PV.int .i64 h) := rfl
       have hwr : IntKind.i64.wrap (dAt d h + 1) = dAt d h + 1 := i64_id (by omega) (by omega)
       have hlm : (decide (((h :: t).length + 1) * 8 <= LIM) && decide ((h :: t).length + 1 <= LIM)) = true := lim_ok (by omega) (by omega)
       simp only [cond_true]
       rw [hp, hget]
       simp only [cond_true, Option.bind_some, int_atInt]
       rw [inG_dec hh, encZ_at (d := d) (v := h) (by rw [hd]; exact hh), hlm]
       simp only [cond_true, Option.bind_some, int_atInt]
       rw [hwr, Nat.zero_add, encZ_set, List.take_of_length_le (by simp), encZ_snoc]
       have hwh : l[j] ≠ h := by
         intro e
         have := of_decide_eq_true hc
         rw [e] at this
         omega
       have hdh : dAt (d.set l[j].toNat (dAt d h + 1)) h = dAt d h := by
         rw [dAt_set (by rw [hd]; exact hw) _ hh.1, if_neg (Ne.symm hwh)]
       have := in3 n1 N l hll hl hN n (j + 1) (d.set l[j].toNat (dAt d h + 1)) (t ++ [l[j]]) (by omega) (by omega) (by rw [List.length_set]; exact hd) hh (by simp at hq ⊢; omega) (by rw [hdh]; exact h0) (by rw [hdh]; exact h1)
       have e1 : (h :: (t ++ [l[j]])).length = (h :: t).length + 1 := by simp
       rw [e1] at this
       exact this
   · have hdj : decide ((j : Int) < (l.length : Int)) = false := by simpa using hlt
     have hp : (decide ((1 : Int) <= (((h :: t).length : Nat) : Int)) && decide ((((h :: t).length : Nat) : Int) <= (((h :: t).length : Nat) : Int))) = true := by
       rw [decide_eq_true (by rw [List.length_cons]; omega), decide_eq_true (by omega)]
       rfl
     have ed : l.drop j = [] := List.drop_eq_nil_of_le (by omega)
     rw [hdj, ed, hp]
     rfl
theorem in5 (n1 : Nat) (N : Nat) (l : List Int) (hll : l.length <= 1000) (hl : ∀ w ∈ l, inG N w) (hN : N <= 1000) : ∀ (n j : Nat) (d pre t : List Int), l.length - j < n -> j <= l.length -> d.length = N -> inG N h -> (h :: t).length + (l.length - j) <= 100000 -> 0 <= dAt d h -> dAt d h <= 100000 ->
   ∃ pre' : List Int, L177_5 k n1 n G N pre.length (h :: t).length (encZ l) (l.length : Int) (j : Int) (encZ d) (encZ (pre ++ (h :: t))) =
     L177_4 k n1 G N (pre'.length + 1) ((bIn h (l.drop j) d (h :: t)).2.length - 1) (encZ (bIn h (l.drop j) d (h :: t)).1) (encZ (pre' ++ (bIn h (l.drop j) d (h :: t)).2))
 | 0, j, d, pre, t, hn, hj, hd, hh, hq, h0, h1 => by omega
 | n + 1, j, d, pre, t, hn, hj, hd, hh, hq, h0, h1 => by
   rw [sL177_5]
   by_cases hlt : j < l.length
   · have hdj : decide ((j : Int) < (l.length : Int)) = true := by simpa using hlt
     have hnext : IntKind.i64.wrap ((j : Int) + 1) = ((j + 1 : Nat) : Int) := by rw [i64_id (by omega) (by omega)]; omega
     have hw := hl _ (List.getElem_mem hlt)
     rw [hdj, encZ_lookup hlt, hnext]
     simp only [cond_true, Option.bind_some, int_atInt]
     rw [inG_dec hw, encZ_at (d := d) (v := l[j]) (by rw [hd]; exact hw)]
     simp only [cond_true, Option.bind_some, int_atInt]
     rw [drop_cons hlt, bIn]
     cases hc : decide (dAt d l[j] < 0)
     · exact in5 n1 N l hll hl hN n (j + 1) d pre t (by omega) (by omega) hd hh (by omega) h0 h1
     · have hp : decide ((0 : Int) < (((h :: t).length : Nat) : Int)) = true := decide_eq_true (by rw [List.length_cons]; omega)
       have hget : (encZ (pre ++ (h :: t)))[pre.length]? = some (PV.int .i64 h) := by rw [encZ_get]; simp
       have hwr : IntKind.i64.wrap (dAt d h + 1) = dAt d h + 1 := i64_id (by omega) (by omega)
       have hlm : (decide (((h :: t).length + 1) * 8 <= LIM) && decide ((h :: t).length + 1 <= LIM)) = true := lim_ok (by omega) (by omega)
       simp only [cond_true]
       rw [hp, hget]
       simp only [cond_true, Option.bind_some, int_atInt]
       rw [inG_dec hh, encZ_at (d := d) (v := h) (by rw [hd]; exact hh), hlm]
       simp only [cond_true, Option.bind_some, int_atInt]
       rw [hwr, Nat.zero_add, encZ_set, encZ_drop, List.drop_left, List.take_of_length_le (by simp), encZ_snoc]
       have hwh : l[j] ≠ h := by
         intro e
         have := of_decide_eq_true hc
         rw [e] at this
         omega
       have hdh : dAt (d.set l[j].toNat (dAt d h + 1)) h = dAt d h := by
         rw [dAt_set (by rw [hd]; exact hw) _ hh.1, if_neg (Ne.symm hwh)]
       have := in3 (k := k) (G := G) h n1 N l hll hl hN n (j + 1) (d.set l[j].toNat (dAt d h + 1)) (t ++ [l[j]]) (by omega) (by omega) (by rw [List.length_set]; exact hd) hh (by simp at hq ⊢; omega) (by rw [hdh]; exact h0) (by rw [hdh]; exact h1)
       have e1 : (h :: (t ++ [l[j]])).length = (h :: t).length + 1 := by simp
       rw [e1] at this
       exact ⟨[], this⟩
   · have hdj : decide ((j : Int) < (l.length : Int)) = false := by simpa using hlt
     have hp : (decide ((1 : Int) <= (((h :: t).length : Nat) : Int)) && decide ((((h :: t).length : Nat) : Int) <= (((h :: t).length : Nat) : Int))) = true := by
       rw [decide_eq_true (by rw [List.length_cons]; omega), decide_eq_true (by omega)]
       rfl
     have ed : l.drop j = [] := List.drop_eq_nil_of_le (by omega)
     rw [hdj, ed, hp]
     exact ⟨pre, rfl⟩
end
theorem out4 {k : Nat} (hk : 2000 <= k) {G : List PV} {g : List (List Int)} (hG : GrF G g) (hN : g.length <= 1000) (hgl : ∀ i, (atL g i).length <= 1000) {some' : List Int} (hg : ∀ (i : Nat) (x : Int), x ∈ atL g i -> inG g.length x) (hs : ∀ x ∈ some', inG g.length x) : ∀ (m n : Nat) (d q pre : List Int), BfsI g some' d q -> negs d + q.length <= m -> m < n -> (b : Int) -> (∀ v, inG g.length v -> dAt d v <= b) -> b + m <= 50000 -> m <= 50000 ->
   L177_4 k n G g.length pre.length q.length (encZ d) (encZ (pre ++ q)) = r177 (encZ (bOut g m d q))
 | m, 0, d, q, pre, hI, hm, hn, b, hb, hbm, hm5 => by omega
 | m, n + 1, d, [], pre, hI, hm, hn, b, hb, hbm, hm5 => by
   rw [sL177_4]
   have e : bOut g m d [] = d := by unfold bOut; rfl
   have e2 : (encZ d).take g.length = encZ d := by rw [List.take_of_length_le (by simp [hI.len])]
   rw [e2, e]
   rfl
 | 0, n + 1, d, h :: t, pre, hI, hm, hn, b, hb, hbm, hm5 => by simp at hm
 | m + 1, n + 1, d, h :: t, pre, hI, hm, hn, b, hb, hbm, hm5 => by
   have hh := hI.rng h (by simp)
   have hp : decide ((((h :: t).length : Nat) : Int) > 0) = true := decide_eq_true (by rw [List.length_cons]; omega)
   have hp2 : decide ((0 : Int) < (((h :: t).length : Nat) : Int)) = true := hp
   have hget : (encZ (pre ++ (h :: t)))[pre.length]? = some (PV.int .i64 h) := by rw [encZ_get]; simp
   obtain ⟨t', r1, r2, r3, r4, r5⟩ := bIn_spec hg hs h (atL g h.toNat) d t hI (fun x hx => hx)
   have hlen := hgl h.toNat
   have hml : (h :: t).length <= m + 1 := by omega
   obtain ⟨pre', h5⟩ := in5 (k := k) (G := G) h n g.length (atL g h.toNat) hlen (fun w hw => hg _ w hw) hN k 0 d pre t (by omega) (by omega) hI.len hh (by omega) (hI.vis h (by simp)) (by have := hb h hh; omega)
   rw [sL177_4, hp, hget]
   simp only [cond_true, Option.bind_some, int_atInt]
   rw [hG.bind hh]
   rw [List.drop_zero, r1] at h5
   have h5' : L177_5 k n k G g.length pre.length (h :: t).length (encZ (atL g h.toNat)) ((atL g h.toNat).length : Int) 0 (encZ d) (encZ (pre ++ (h :: t))) = _ := h5
   rw [encZ_length, h5', bOut, r1]
   simp only [List.length_cons, Nat.add_sub_cancel, List.drop_succ_cons, List.drop_zero] at hm ⊢
   have hbd := hb h hh
   have e1 : pre' ++ h :: t' = (pre' ++ [h]) ++ t' := by simp
   have e2 : pre'.length + 1 = (pre' ++ [h]).length := by simp
   rw [e1, e2]
   refine out4 hk hG hN hgl hg hs m n _ t' (pre' ++ [h]) (bPop hg r2 r4) (by omega) (by omega) (b + 1) (fun v hv => ?_) (by omega) (by omega)
   have h1 := r2.bnd h t' rfl v hv
   rw [r3 h hh (hI.vis h (by simp))] at h1
   omega
theorem out2 {k : Nat} (hk : 2000 <= k) {G : List PV} {g : List (List Int)} (hG : GrF G g) (hN : g.length <= 1000) (hgl : ∀ i, (atL g i).length <= 1000) {some' : List Int} (hg : ∀ (i : Nat) (x : Int), x ∈ atL g i -> inG g.length x) (hs : ∀ x ∈ some', inG g.length x) : ∀ (m n : Nat) (d q : List Int), BfsI g some' d q -> negs d + q.length <= m -> m < n -> (b : Int) -> (∀ v, inG g.length v -> dAt d v <= b) -> b + m <= 50000 -> m <= 50000 ->
   L177_2 k n G g.length q.length (encZ d) (encZ q) = r177 (encZ (bOut g m d q))
 | m, 0, d, q, hI, hm, hn, b, hb, hbm, hm5 => by omega
 | m, n + 1, d, [], hI, hm, hn, b, hb, hbm, hm5 => by
   rw [sL177_2]
   have e : bOut g m d [] = d := by unfold bOut; rfl
   have e2 : (encZ d).take g.length = encZ d := by rw [List.take_of_length_le (by simp [hI.len])]
   rw [e2, e]
   rfl
 | 0, n + 1, d, h :: t, hI, hm, hn, b, hb, hbm, hm5 => by simp at hm
 | m + 1, n + 1, d, h :: t, hI, hm, hn, b, hb, hbm, hm5 => by
   have hh := hI.rng h (by simp)
   have hp : decide ((((h :: t).length : Nat) : Int) > 0) = true := decide_eq_true (by rw [List.length_cons]; omega)
   have hp2 : decide ((0 : Int) < (((h :: t).length : Nat) : Int)) = true := hp
   have hget : (encZ (h :: t))[0]? = some (PV.int .i64 h) := rfl
   obtain ⟨t', r1, r2, r3, r4, r5⟩ := bIn_spec hg hs h (atL g h.toNat) d t hI (fun x hx => hx)
   have hlen := hgl h.toNat
   have hml : (h :: t).length <= m + 1 := by omega
   have h5 := in3 (k := k) (G := G) h n g.length (atL g h.toNat) hlen (fun w hw => hg _ w hw) hN k 0 d t (by omega) (by omega) hI.len hh (by omega) (hI.vis h (by simp)) (by have := hb h hh; omega)
   rw [sL177_2, hp, hget]
   simp only [cond_true, Option.bind_some, int_atInt]
   rw [hG.bind hh]
   rw [List.drop_zero, r1] at h5
   have h5' : L177_3 k n k G g.length (h :: t).length (encZ (atL g h.toNat)) ((atL g h.toNat).length : Int) 0 (encZ d) (encZ (h :: t)) = _ := h5
   rw [encZ_length, h5', bOut, r1]
   simp only [List.length_cons, Nat.add_sub_cancel, List.drop_succ_cons, List.drop_zero] at hm ⊢
   have hbd := hb h hh
   have e1 : h :: t' = [h] ++ t' := by simp
   rw [e1]
   refine out4 hk hG hN hgl hg hs m n _ t' [h] (bPop hg r2 r4) (by omega) (by omega) (b + 1) (fun v hv => ?_) (by omega) (by omega)
   have h1 := r2.bnd h t' rfl v hv
   rw [r3 h hh (hI.vis h (by simp))] at h1
   omega
theorem st1 {k : Nat} {G : List PV} {N : Nat} (hN : N <= 1000) (oL : Nat) (l : List Int) (hll : l.length <= 1000) (hl : ∀ w ∈ l, inG N w) (q : List PV) : ∀ (n j : Nat) (d : List Int), l.length - j < n -> j <= l.length -> d.length = N ->
   L177_1 k n G N oL (encZ l) (l.length : Int) (j : Int) (encZ d) q = L177_2 k k G N oL (encZ (bSt (l.drop j) d)) q
 | 0, j, d, hn, hj, hd => by omega
 | n + 1, j, d, hn, hj, hd => by
   rw [sL177_1]
   by_cases hlt : j < l.length
   · have hdj : decide ((j : Int) < (l.length : Int)) = true := by simpa using hlt
     have hnext : IntKind.i64.wrap ((j : Int) + 1) = ((j + 1 : Nat) : Int) := by rw [i64_id (by omega) (by omega)]; omega
     have hw := hl _ (List.getElem_mem hlt)
     rw [hdj, encZ_lookup hlt, hnext, drop_cons hlt, bSt]
     simp only [cond_true, Option.bind_some, int_atInt]
     rw [inG_dec hw, encZ_at (d := d) (v := l[j]) (by rw [hd]; exact hw)]
     simp only [cond_true, Option.bind_some]
     rw [Nat.zero_add, encZ_set]
     exact st1 hN oL l hll hl q n (j + 1) _ (by omega) (by omega) (by rw [List.length_set]; exact hd)
   · have hdj : decide ((j : Int) < (l.length : Int)) = false := by simpa using hlt
     rw [hdj, List.drop_eq_nil_of_le (by omega)]
     rfl
theorem stepsFrom_ok {k : Nat} (hk : 3000 <= k) {G : List PV} {g : List (List Int)} (hG : GrF G g) (hN : g.length <= 1000) (hgl : ∀ i, (atL g i).length <= 1000) {l : List Int} (hll : l.length <= 500) (hg : ∀ (i : Nat) (x : Int), x ∈ atL g i -> inG g.length x) (hs : ∀ x ∈ l, inG g.length x) :
   c177 k G (encZ l) = r177 (encZ (stepsL g l)) := by
 obtain ⟨k, rfl⟩ : ∃ j, k = j + 1 := ⟨k - 1, by omega⟩
 obtain ⟨k', rfl⟩ : ∃ j, k = j + 1 := ⟨k - 1, by omega⟩
 rw [n177, hG.len, repeat_ok (by omega) g.length hN (-1)]
 simp only [R201p_enc]
 rw [n160 _ _ (by rw [encZ_length]; unfold LIM; omega) (by rw [encZ_length]; unfold LIM; omega)]
 simp only [R160_r, encZ_length, List.length_replicate]
 have h1 := st1 (k := k' + 1) (G := G) (N := g.length) hN l.length l (by omega) hs (encZ l) (k' + 1) 0 (List.replicate g.length (-1)) (by omega) (by omega) (by simp)
 have h1' : L177_1 (k' + 1) (k' + 1) G g.length l.length (encZ l) (l.length : Int) 0 (encZ (List.replicate g.length (-1))) (encZ l) = _ := h1
 rw [h1', List.drop_zero]
 have hI := bfs_start (g := g) hs
 have hneg := negs_le (bSt l (List.replicate g.length (-1)))
 have hlen := hI.len
 refine out2 (by omega) hG hN hgl hg hs (l.length + g.length) (k' + 1) _ l hI (by omega) (by omega) 0 (fun v hv => ?_) (by omega) (by omega)
 rw [(bSt_spec l (List.replicate g.length (-1)) (fun v hv => by simpa using hs v hv)).2 v hv.1, dAt_rep]
 split <;> omega
end Go.Proofs.YthoecdnmokcfbaaGreat
/- What the program reaches, forth and back. -/
set_option linter.unusedVariables false
set_option linter.unusedSimpArgs false
set_option maxRecDepth 8000
namespace Go.Proofs.YthoecdnmokcfbaaGreat
open Go.Dp
def nnF : List Int -> Nat -> List Int
 | [], _ => []
 | x :: d, i => bif decide (x ≥ 0) then (i : Int) :: nnF d (i + 1) else nnF d (i + 1)
theorem nnF_mem : ∀ (d : List Int) (i : Nat) (x : Int), x ∈ nnF d i ↔ ∃ (j : Nat) (y : Int), x = ((i + j : Nat) : Int) /\ d[j]? = some y /\ 0 <= y
 | [], i, x => by simp [nnF]
 | z :: d, i, x => by
   have ih := nnF_mem d (i + 1) x
   have tail : (∃ (j : Nat) (y : Int), x = ((i + j : Nat) : Int) /\ (z :: d)[j]? = some y /\ 0 <= y) ↔ (x = (i : Int) /\ 0 <= z) ∨ ∃ (j : Nat) (y : Int), x = ((i + 1 + j : Nat) : Int) /\ d[j]? = some y /\ 0 <= y := by
     constructor
     · rintro ⟨j, y, h1, h2, h3⟩
       cases j with
       | zero => simp at h2; subst h2; exact .inl ⟨by simpa using h1, h3⟩
       | succ j => exact .inr ⟨j, y, by rw [h1]; omega, by simpa using h2, h3⟩
     · rintro (⟨h1, h2⟩ | ⟨j, y, h1, h2, h3⟩)
       · exact ⟨0, z, by simpa using h1, rfl, h2⟩
       · exact ⟨j + 1, y, by rw [h1]; omega, by simpa using h2, h3⟩
   rw [tail, nnF]
   by_cases hz : z ≥ 0
   · rw [decide_eq_true hz]
     simp only [cond_true, List.mem_cons, ih]
     constructor
     · rintro (h | h)
       · exact .inl ⟨h, hz⟩
       · exact .inr h
     · rintro (h | h)
       · exact .inl h.1
       · exact .inr h
   · rw [decide_eq_false hz]
     simp only [cond_false, ih]
     constructor
     · exact .inr
     · rintro (h | h)
       · exact absurd h.2 hz
       · exact h
theorem nnF_lt : ∀ (d : List Int) (i : Nat), (nnF d i).Pairwise (· < ·) /\ ∀ x ∈ nnF d i, (i : Int) <= x
 | [], i => by simp [nnF]
 | z :: d, i => by
   obtain ⟨h1, h2⟩ := nnF_lt d (i + 1)
   rw [nnF]
   cases decide (z ≥ 0)
   · exact ⟨h1, fun x hx => by have := h2 x hx; omega⟩
   · refine ⟨List.pairwise_cons.2 ⟨fun x hx => by have := h2 x hx; omega, h1⟩, fun x hx => ?_⟩
     rcases List.mem_cons.1 hx with rfl | hx
     · omega
     · have := h2 x hx; omega
theorem nnF_len : ∀ (d : List Int) (i : Nat), (nnF d i).length <= d.length
 | [], i => by simp [nnF]
 | z :: d, i => by
   have := nnF_len d (i + 1)
   rw [nnF]
   cases decide (z ≥ 0)
   · simp only [cond_false, List.length_cons]; omega
   · simp only [cond_true, List.length_cons]; omega
theorem reachFrom_loop {k : Nat} (d : List Int) (hl : d.length <= 1000) : ∀ (n i : Nat) (o : List Int), d.length - i < n -> i <= d.length -> o.length <= i ->
   L122_1 k n o.length (encZ d) (d.length : Int) (i : Int) (encZ o) = r122 (encZ (o ++ nnF (d.drop i) i))
 | 0, i, o, hn, hi, ho => by omega
 | n + 1, i, o, hn, hi, ho => by
   rw [sL122_1]
   have etk : (encZ o).take o.length = encZ o := by rw [List.take_of_length_le (by simp)]
   by_cases hlt : i < d.length
   · have hd : decide ((i : Int) < (d.length : Int)) = true := by simpa using hlt
     have hnext : IntKind.i64.wrap ((i : Int) + 1) = ((i + 1 : Nat) : Int) := by rw [i64_id (by omega) (by omega)]; omega
     rw [hd, encZ_lookup hlt, drop_cons hlt, hnext, etk, nnF]
     simp only [cond_true, Option.bind_some, int_atInt]
     cases hc : decide (d[i] ≥ 0)
     · exact reachFrom_loop d hl n (i + 1) o (by omega) (by omega) (by omega)
     · simp only [cond_true]
       rw [lim_ok (by omega) (by omega), encZ_snoc]
       simp only [cond_true]
       have := reachFrom_loop (k := k) d hl n (i + 1) (o ++ [(i : Int)]) (by omega) (by omega) (by simp; omega)
       rw [List.length_append, List.append_assoc] at this
       exact this
   · have hd : decide ((i : Int) < (d.length : Int)) = false := by simpa using hlt
     rw [hd, List.drop_eq_nil_of_le (by omega), etk]
     simp only [nnF, List.append_nil]
     rfl
def rfL (g : List (List Int)) (l : List Int) : List Int := nnF (stepsL g l) 0
theorem rfL_mem {g : List (List Int)} {l : List Int} (hg : ∀ (i : Nat) (x : Int), x ∈ atL g i -> inG g.length x) (hs : ∀ x ∈ l, inG g.length x) (x : Int) : x ∈ rfL g l ↔ ∃ n, Way g l n x := by
 obtain ⟨h1, h2⟩ := stepsL_spec hg hs
 have hin : ∀ n x, Way g l n x -> inG g.length x := by
   intro n x h
   cases h with
   | start _ h => exact hs _ h
   | step n v w h hw => exact hg _ _ hw
 rw [rfL, nnF_mem]
 constructor
 · rintro ⟨j, y, h3, h4, h5⟩
   have hj := (List.getElem?_eq_some_iff.1 h4).1
   have hx : inG g.length x := ⟨by omega, by omega⟩
   have hd : dAt (stepsL g l) x = y := by
     unfold dAt
     rw [show x.toNat = j by omega, h4]
     rfl
   rcases h2 x hx with ⟨h6, _⟩ | ⟨_, h6, _⟩
   · omega
   · exact ⟨_, h6⟩
 · rintro ⟨n, h⟩
   have hx := hin n x h
   have hlt : x.toNat < (stepsL g l).length := by rw [h1]; exact hx.2
   refine ⟨x.toNat, dAt (stepsL g l) x, by have := hx.1; omega, by simp [dAt, hlt], ?_⟩
   rcases h2 x hx with ⟨_, h6⟩ | ⟨h6, _⟩
   · exact absurd h (h6 n)
   · exact h6
theorem reachedFrom_ok {k : Nat} (hk : 4000 <= k) {G : List PV} {g : List (List Int)} (hG : GrF G g) (hN : g.length <= 1000) (hgl : ∀ i, (atL g i).length <= 1000) {l : List Int} (hll : l.length <= 500) (hg : ∀ (i : Nat) (x : Int), x ∈ atL g i -> inG g.length x) (hs : ∀ x ∈ l, inG g.length x) :
   c122 k G (encZ l) = r122 (encZ (rfL g l)) := by
 obtain ⟨k, rfl⟩ : ∃ j, k = j + 1 := ⟨k - 1, by omega⟩
 have h1 := (stepsL_spec hg hs).1
 rw [n122, stepsFrom_ok (by omega) hG hN hgl hll hg hs]
 simp only [R177_r, encZ_length]
 have := reachFrom_loop (k := k) (stepsL g l) (by omega) k 0 [] (by omega) (by omega) (by simp)
 rw [List.drop_zero, List.nil_append] at this
 exact this
theorem inG_in {p : Prg} {x : Int} : inG (nS p) x ↔ inS p x := by
 unfold inG inS
 omega
theorem graphL_len (p : Prg) : (graphL p).length = nS p := graphF_len p (nS p) 0
theorem graphL_at (p : Prg) (i : Nat) : atL (graphL p) i = if i < nS p then nxL p (i : Int) else [] := by
 unfold atL graphL
 by_cases h : i < nS p
 · rw [graphF_get p _ _ _ h, if_pos h, Nat.zero_add]; rfl
 · rw [List.getElem?_eq_none (by rw [graphF_len]; omega), if_neg h]; rfl
theorem graphL_in {p : Prg} (hp : FitP p) (hs : smallP p = true) (i : Nat) (x : Int) (h : x ∈ atL (graphL p) i) : inG (graphL p).length x := by
 rw [graphL_len]
 rw [graphL_at] at h
 split at h
 · exact inG_in.2 (nxL_in hp hs ⟨by omega, by omega⟩ x h)
 · simp at h
theorem graphL_fit (p : Prg) : GrF (encZZ (graphL p)) (graphL p) := by
 refine ⟨by simp, fun i hi => ⟨.row 0 0 (encZ (atL (graphL p) i)), ?_, by simp⟩⟩
 rw [encZZ_get, List.getElem?_eq_getElem hi]
 simp [atL, hi]
theorem way_rch {p : Prg} (hp : FitP p) (hs : smallP p = true) (x : Int) : (∃ n, Way (graphL p) (whI p p.start) n x) ↔ Rch p x := by
 constructor
 · rintro ⟨n, h⟩
   induction h with
   | start v h => exact .start ((whI_mem p p.start v).1 h).1 ((whI_mem p p.start v).1 h).2
   | step n v w _ hw ih =>
     have hv := rch_in hp hs ih
     have := hv.1
     have := hv.2
     rw [graphL_at, if_pos (by omega), show ((v.toNat : Nat) : Int) = v by omega] at hw
     exact .step ih hw
 · intro h
   induction h with
   | start h1 h2 => exact ⟨0, .start _ ((whI_mem p p.start _).2 ⟨h1, h2⟩)⟩
   | @step x y h1 h2 ih =>
     obtain ⟨n, hn⟩ := ih
     have hv := rch_in hp hs h1
     have := hv.1
     have := hv.2
     exact ⟨n + 1, .step n x y hn (by rw [graphL_at, if_pos (by omega), show ((x.toNat : Nat) : Int) = x by omega]; exact h2)⟩
theorem whI_len {p : Prg} (hs : smallP p = true) (t : List Nd) : (whI p t).length <= 32 := in_room hs (whN_lt p t _ _) fun x hx => ((whI_mem p t x).1 hx).1
theorem reachL_lt {p : Prg} (hp : FitP p) (hs : smallP p = true) : (reachL p).Pairwise (· < ·) := (reachF_spec hp hs 33 (whI p p.start) (by omega) (whN_lt p p.start _ _) (fun x hx => ((whI_mem p p.start x).1 hx).1)).1
theorem reachL_in {p : Prg} (hp : FitP p) (hs : smallP p = true) : ∀ x ∈ reachL p, inS p x := fun x hx => rch_in hp hs ((reachL_mem hp hs x).1 hx)
theorem reachL_len {p : Prg} (hp : FitP p) (hs : smallP p = true) : (reachL p).length <= 32 := in_room hs (reachL_lt hp hs) (reachL_in hp hs)
theorem reach_ok {k : Nat} (hk : 1000500 <= k) {p : Prg} (hp : FitP p) (hs : smallP p = true) : c70 k p.wide p.vars (encT p.start) (encCms p.cmds) = r70 (encZ (reachL p)) := by
 obtain ⟨k, rfl⟩ : ∃ j, k = j + 1 := ⟨k - 1, by omega⟩
 have hst := hp.st
 have hle := (nS_le hs).2
 have hwl := whI_len hs p.start
 have hsin : ∀ x ∈ whI p p.start, inG (graphL p).length x := fun x hx => by rw [graphL_len]; exact inG_in.2 ((whI_mem p p.start x).1 hx).1
 rw [n70, graph_ok (by omega) hp hs]
 simp only [R133_r]
 rw [where_ok (by omega) hs _ _ p.start (by omega) (startK hs)]
 simp only [R57_r]
 rw [reachedFrom_ok (by omega) (graphL_fit p) (by rw [graphL_len]; omega) (fun i => by
   rw [graphL_at]
   split
   · have := nxL_len hp (i : Int); omega
   · simp) (by omega) (graphL_in hp hs) hsin]
 simp only [R122_r]
 have e : rfL (graphL p) (whI p p.start) = reachL p := lt_ext (nnF_lt _ 0).1 (reachL_lt hp hs) fun x => by
   rw [rfL_mem (graphL_in hp hs) hsin x, way_rch hp hs x, reachL_mem hp hs x]
 rw [e]
theorem alwN_loop {k : Nat} (w1 v1 : Int) (l1 l2 t1 : List PV) (f : Int -> Bool) (l : List (Int)) (hl : l.length <= 100000) (hc : ∀ x ∈ l, c80 k x w1 v1 l1 l2 t1 = r80 (f x)) : ∀ (n i : Nat), l.length - i < n -> i <= l.length -> L124f80_1 k n (encZ l) w1 v1 l1 l2 t1 (l.length : Int) (i : Int) = r124f80 (fixI f i (l.drop i))
 | 0, i, h, hi => by omega
 | n + 1, i, h, hi => by
   rw [sL124f80_1]
   by_cases hlt : i < l.length
   · have hd : decide ((i : Int) < (l.length : Int)) = true := by simpa using hlt
     have hnext : IntKind.i64.wrap ((i : Int) + 1) = ((i + 1 : Nat) : Int) := by rw [i64_id (by omega) (by omega)]; omega
     rw [hd, encZ_lookup hlt, drop_cons hlt, hnext]
     simp only [cond_true, Option.bind_some, int_atInt]
     rw [hc _ (List.getElem_mem hlt)]
     simp only [R80_r, fixI]
     cases f l[i]
     · exact alwN_loop w1 v1 l1 l2 t1 f l hl hc n (i + 1) (by omega) (by omega)
     · rfl
   · have hd : decide ((i : Int) < (l.length : Int)) = false := by simpa using hlt
     rw [hd, List.drop_eq_nil_of_le (by omega)]
     rfl
theorem alwN_idx {k : Nat} (hk : 100010 <= k) (w1 v1 : Int) (l1 l2 t1 : List PV) (f : Int -> Bool) (l : List (Int)) (hl : l.length <= 100000) (hc : ∀ x ∈ l, c80 k x w1 v1 l1 l2 t1 = r80 (f x)) : c124f80 (k + 1) (encZ l) w1 v1 l1 l2 t1 = r124f80 (fixI f 0 l) := by
 rw [n124f80, encZ_length]
 exact alwN_loop (k := k) w1 v1 l1 l2 t1 f l hl hc k 0 (by omega) (by omega)
theorem alwN_ok {k : Nat} (hk : 100010 <= k) (w1 v1 : Int) (l1 l2 t1 : List PV) (f : Int -> Bool) (l : List (Int)) (hl : l.length <= 100000) (hc : ∀ x ∈ l, c80 k x w1 v1 l1 l2 t1 = r80 (f x)) : c62f80 (k + 2) (encZ l) w1 v1 l1 l2 t1 = r62f80 (l.any f) := by
 rw [n62f80, alwN_idx (by omega) w1 v1 l1 l2 t1 f l hl hc]
 simp only [R124f80p_r, fixI_ge]
theorem alwaysI_ok {k : Nat} (hk : 1000700 <= k) (p : Prg) (hp : FitP p) (t : List Nd) (ht : t.length <= 100) : c25 k p.wide p.vars (encT p.start) (encCms p.cmds) (encT t) = r25 (alwOK p t && alwB p t) (alwOK p t) := by
 obtain ⟨k, rfl⟩ : ∃ j, k = j + 4 := ⟨k - 4, by omega⟩
 rw [n25, isSmall_ok (by omega) p hp]
 simp only [R69_r, alwOK]
 cases hs : smallP p
 · rfl
 · simp only [Bool.not_true, cond_false, Bool.true_and]
   rw [cond_ok (by omega) _ _ _ _ t (by omega)]
   simp only [R72_r]
   cases hk2 : (kindT p.wide p.vars t == 2)
   · rfl
   · have hkt : kindT p.wide p.vars t = 2 := by simpa using hk2
     have hrl := reachL_len hp hs
     simp only [Bool.not_true, cond_false, Bool.true_and]
     rw [reach_ok (by omega) hp hs]
     simp only [R70_r]
     rw [alwN_ok (k := k + 1) (by omega) p.wide p.vars (encT p.start) (encCms p.cmds) (encT t) (fun x => !hN p t x) (reachL p) (by omega) (fun x hx => by
       have hx := reachL_in hp hs x hx
       rw [n80, stoI_ok (by omega) hs _ _ hx]
       simp only [R68_r]
       rw [holdsI_ok (by omega) p (small_good hs) _ _ t ht hkt _ (sto_ok hs hx)]
       simp only [R67_r]
       rfl)]
     simp only [R62f80p_r, alwB, List.any_eq_not_all_not, Bool.not_not]
end Go.Proofs.YthoecdnmokcfbaaGreat
/- The classes of a program's states: their steps, their graph, what is reached. -/
set_option linter.unusedVariables false
set_option linter.unusedSimpArgs false
set_option maxRecDepth 8000
namespace Go.Proofs.YthoecdnmokcfbaaGreat
open Go.Dp
theorem stF_lt (c : Int) : ∀ (l : List Int) (i : Nat), (stF c l i).Pairwise (· < ·) /\ ∀ x ∈ stF c l i, (i : Int) <= x
 | [], i => by simp [stF]
 | y :: l, i => by
   obtain ⟨h1, h2⟩ := stF_lt c l (i + 1)
   rw [stF]
   cases (y == c)
   · exact ⟨h1, fun x hx => by have := h2 x hx; omega⟩
   · refine ⟨List.pairwise_cons.2 ⟨fun x hx => by have := h2 x hx; omega, h1⟩, fun x hx => ?_⟩
     rcases List.mem_cons.1 hx with rfl | hx
     · exact Int.le_refl _
     · have := h2 x hx
       omega
def mkB (bs : List Bool) (i : Nat) : List Int := stF 1 (bs.map fun b => bif b then 1 else 0) i
theorem marked_loop {k : Nat} (bs : List Bool) (hl : bs.length <= 1000) : ∀ (n i : Nat) (o : List Int), bs.length - i < n -> i <= bs.length -> o.length <= i ->
   L118_1 k n o.length (encBo bs) (bs.length : Int) (i : Int) (encZ o) = r118 (encZ (o ++ mkB (bs.drop i) i))
 | 0, i, o, h, hi, ho => by omega
 | n + 1, i, o, h, hi, ho => by
   rw [sL118_1, encZ_tk]
   by_cases hlt : i < bs.length
   · have hd : decide ((i : Int) < (bs.length : Int)) = true := by simpa using hlt
     have hnext : IntKind.i64.wrap ((i : Int) + 1) = ((i + 1 : Nat) : Int) := by rw [i64_id (by omega) (by omega)]; omega
     have hb : (PV.bool bs[i]).atBool 0 = some bs[i] := rfl
     have hm : mkB (bs.drop i) i = bif bs[i] then (i : Int) :: mkB (bs.drop (i + 1)) (i + 1) else mkB (bs.drop (i + 1)) (i + 1) := by
       unfold mkB
       rw [drop_cons hlt, List.map_cons, stF]
       cases bs[i] <;> rfl
     rw [hd, lookP_nat, encBo_get, List.getElem?_eq_getElem hlt, hnext, hm]
     simp only [cond_true, Option.map_some, Option.bind_some, hb]
     cases bs[i]
     · exact marked_loop bs hl n (i + 1) o (by omega) (by omega) (by omega)
     · simp only [cond_true]
       rw [lim_ok (by omega) (by omega), encZ_snoc]
       have := marked_loop (k := k) bs hl n (i + 1) (o ++ [(i : Int)]) (by omega) (by omega) (by simp; omega)
       rw [List.length_append, List.append_assoc] at this
       exact this
   · have hd : decide ((i : Int) < (bs.length : Int)) = false := by simpa using hlt
     rw [hd, List.drop_eq_nil_of_le (by omega)]
     simp [mkB, stF]
theorem marked_ok {k : Nat} (hk : 1010 <= k) (bs : List Bool) (hl : bs.length <= 1000) : c118 k (encBo bs) = r118 (encZ (mkB bs 0)) := by
 obtain ⟨k, rfl⟩ : ∃ j, k = j + 1 := ⟨k - 1, by omega⟩
 have e : (encBo bs).length = bs.length := by simp [encBo]
 rw [n118, e]
 have := marked_loop (k := k) bs hl k 0 [] (by omega) (by omega) (by simp)
 rw [List.drop_zero, List.nil_append] at this
 exact this
theorem R118p_enc (l : List Int) (K0 : List PV -> R) : R118p (r118 (encZ l)) K0 = K0 (encZ l) := by
 have h : ([SV.c (.own 3 0 (encZ l))].all plainS && true) = true := by simp [plainS, plainC, encZ_plain]; rfl
 show (bif ([SV.c (.own 3 0 (encZ l))].all plainS && true) then K0 (encZ l) else none) = _
 rw [h]
 rfl
theorem R56p_enc (l : List Int) (K0 : List PV -> R) : R56p (r56 (encZ l)) K0 = K0 (encZ l) := by
 have h : ([SV.c (.own 3 0 (encZ l))].all plainS && true) = true := by simp [plainS, plainC, encZ_plain]; rfl
 show (bif ([SV.c (.own 3 0 (encZ l))].all plainS && true) then K0 (encZ l) else none) = _
 rw [h]
 rfl
def clV (v l : List Int) : List Int := putAllI [] (l.map (dAt v))
theorem clV_mem (v l : List Int) (x : Int) : x ∈ clV v l ↔ ∃ y ∈ l, dAt v y = x := by
 unfold clV
 rw [(putAllI_spec (l.map (dAt v)) [] (by simp)).2, List.mem_map]
 simp
theorem clV_lt (v l : List Int) : (clV v l).Pairwise (· < ·) := (putAllI_spec (l.map (dAt v)) [] (by simp)).1
theorem clV_same {v l m : List Int} (h : ∀ x, x ∈ l ↔ x ∈ m) : clV v l = clV v m :=
 lt_ext (clV_lt v l) (clV_lt v m) fun x => by
   rw [clV_mem, clV_mem]
   exact ⟨fun ⟨y, h1, h2⟩ => ⟨y, (h y).1 h1, h2⟩, fun ⟨y, h1, h2⟩ => ⟨y, (h y).2 h1, h2⟩⟩
theorem dAt_get {v : List Int} {x : Int} (h : x.toNat < v.length) : dAt v x = v[x.toNat] := by simp [dAt, h]
theorem dAt_rng {v : List Int} (hg : goodF v 0 = true) {x : Int} (h : x.toNat < v.length) : 0 <= dAt v x /\ dAt v x < manyF v 0 := by
 rw [dAt_get h]
 exact good_lt v 0 hg _ (List.getElem_mem h)
theorem lookV {v : List Int} {x : Int} (h0 : 0 <= x) (h1 : x.toNat < v.length) : lookP (encZ v) x = some (.int .i64 (dAt v x)) := by
 have e : x = ((x.toNat : Nat) : Int) := by omega
 conv => lhs; rw [e]
 rw [encZ_lookup h1, dAt_get h1]
theorem clV_rng {v l : List Int} (hg : goodF v 0 = true) (hl : ∀ x ∈ l, inG v.length x) : ∀ x ∈ clV v l, 0 <= x /\ x < manyF v 0 := by
 intro x hx
 obtain ⟨y, h1, rfl⟩ := (clV_mem v l x).1 hx
 exact dAt_rng hg (hl y h1).2
theorem many_le {v : List Int} (hg : goodF v 0 = true) : 0 <= manyF v 0 /\ manyF v 0 <= (v.length : Int) := by
 have h2 := (cls_self hg).2
 have h3 : (dis v []).length <= v.length := nodup_sub (dis_nodup v [] (by simp)) (fun x hx => by simpa using (dis_sub v [] x).1 hx)
 omega
theorem clV_len {v l : List Int} (hg : goodF v 0 = true) (hl : ∀ x ∈ l, inG v.length x) : (clV v l).length <= v.length := by
 have h := lt_room (clV v l) 0 (manyF v 0) (clV_lt v l) (clV_rng hg hl)
 have := many_le hg
 omega
def inB (m : Nat) (l : List Int) : List Bool := (iota m).map fun c => l.contains c
theorem inB_len (m : Nat) (l : List Int) : (inB m l).length = m := by simp [inB, iota_len]
theorem inB_set (n : Nat) (l : List Int) (a : Int) (h0 : 0 <= a) (h1 : a < (n : Int)) : (inB n l).set a.toNat true = inB n (l ++ [a]) := by
 apply List.ext_getElem
 · simp [inB, iota_len]
 · intro i h2 h3
   have hi : i < n := by simpa [inB, iota_len] using h3
   rw [List.getElem_set]
   simp only [inB, iota, List.getElem_map, List.getElem_range]
   split
   · rename_i e
     have : (i : Int) = a := by omega
     rw [this]
     simp
   · rename_i e
     have hne : (i : Int) ≠ a := by omega
     rw [Bool.eq_iff_iff, List.contains_iff_mem, List.contains_iff_mem, List.mem_append, List.mem_singleton]
     exact ⟨.inl, fun h => h.resolve_right hne⟩
theorem encBo_set (l : List Bool) (i : Nat) (b : Bool) : (encBo l).set i (.bool b) = encBo (l.set i b) := by simp [encBo, List.map_set]
theorem mkB_inB {m : Nat} {l : List Int} (hl : ∀ x ∈ l, 0 <= x /\ x < (m : Int)) : mkB (inB m l) 0 = putAllI [] l := by
 refine lt_ext (stF_lt _ _ _).1 (putAllI_spec l [] (by simp)).1 fun x => ?_
 rw [(putAllI_spec l [] (by simp)).2, mkB, stF_mem]
 simp only [List.not_mem_nil, false_or]
 constructor
 · rintro ⟨j, hj, rfl, h⟩
   have hj2 : j < m := by simpa [inB, iota_len] using hj
   simp only [inB, iota, List.getElem_map, List.getElem_range] at h
   cases hc : l.contains (j : Int)
   · rw [hc] at h
     simp at h
   · simpa using hc
 · intro h
   have hx := hl x h
   refine ⟨x.toNat, by simp [inB, iota_len]; omega, by omega, ?_⟩
   have e : ((x.toNat : Nat) : Int) = x := by omega
   have hc : l.contains x = true := by simpa using h
   simp only [inB, iota, List.getElem_map, List.getElem_range, e, hc]
   rfl
theorem classesOf_loop {k : Nat} (hk : 1010 <= k) {v : List Int} (hv : OkV v) (hg : goodF v 0 = true) (so : List Int) (hin : ∀ x ∈ so, inG v.length x) (hs : so.length <= 1000) : ∀ (n i : Nat), so.length - i < n -> i <= so.length ->
   L56_1 k n (manyF v 0).toNat (encZ so) (so.length : Int) (i : Int) (encZ v) (encBo (inB (manyF v 0).toNat ((so.take i).map (dAt v)))) = r56 (encZ (clV v so))
 | 0, i, h, hi => by omega
 | n + 1, i, h, hi => by
   rw [sL56_1]
   have hml := many_le hg
   have hvl := hv.len
   by_cases hlt : i < so.length
   · have hd : decide ((i : Int) < (so.length : Int)) = true := by simpa using hlt
     have hnext : IntKind.i64.wrap ((i : Int) + 1) = ((i + 1 : Nat) : Int) := by rw [i64_id (by omega) (by omega)]; omega
     have hx := hin _ (List.getElem_mem hlt)
     have hr := dAt_rng hg hx.2
     have hgd : (decide ((0 : Int) <= dAt v so[i]) && decide (dAt v so[i] < (((manyF v 0).toNat : Nat) : Int))) = true := by
       rw [decide_eq_true hr.1, decide_eq_true (by omega)]; rfl
     have hat : ∃ z, (encBo (inB (manyF v 0).toNat ((so.take i).map (dAt v))))[(dAt v so[i]).toNat]? = some z :=
       ⟨_, List.getElem?_eq_getElem (by simp only [encBo, List.length_map, inB_len]; omega)⟩
     obtain ⟨z, hz⟩ := hat
     rw [hd, encZ_lookup hlt, hnext]
     simp only [cond_true, Option.bind_some, int_atInt]
     rw [lookV hx.1 hx.2]
     simp only [Option.bind_some, int_atInt]
     rw [hgd, Nat.zero_add, hz]
     simp only [cond_true, Option.bind_some]
     rw [encBo_set, inB_set _ _ _ hr.1 (by omega)]
     have e : (so.take i).map (dAt v) ++ [dAt v so[i]] = (so.take (i + 1)).map (dAt v) := by
       rw [List.take_succ_eq_append_getElem hlt, List.map_append]
       rfl
     rw [e]
     exact classesOf_loop hk hv hg so hin hs n (i + 1) (by omega) (by omega)
   · have hd : decide ((i : Int) < (so.length : Int)) = false := by simpa using hlt
     have hf : so.take i = so := List.take_of_length_le (by omega)
     have htk : (encBo (inB (manyF v 0).toNat (so.map (dAt v)))).take (manyF v 0).toNat = encBo (inB (manyF v 0).toNat (so.map (dAt v))) := List.take_of_length_le (by simp [encBo, inB_len])
     have hmk : mkB (inB (manyF v 0).toNat (so.map (dAt v))) 0 = clV v so := mkB_inB fun x hx => by
       obtain ⟨y, hy, rfl⟩ := List.mem_map.1 hx
       have := dAt_rng hg (hin y hy).2
       omega
     rw [hd, hf, htk, marked_ok hk _ (by rw [inB_len]; omega), hmk]
     simp only [cond_false]
     rw [R118p_enc, List.take_of_length_le (by simp)]
theorem nn_of {p : Prg} (hs : smallP p = true) {v : List Int} (h : v.length = nS p) : v ≠ [] := by
 have := (nS_le hs).1
 rintro rfl
 simp at h
 omega
theorem classesOf_ok {k : Nat} (hk : 1020 <= k) {v : List Int} (hv : OkV v) (h0 : v ≠ []) (hg : goodF v 0 = true) (so : List Int) (hin : ∀ x ∈ so, inG v.length x) (hs : so.length <= 1000) : c56 k (encZ v) (encZ so) = r56 (encZ (clV v so)) := by
 obtain ⟨k, rfl⟩ : ∃ j, k = j + 1 := ⟨k - 1, by omega⟩
 have hml := many_le hg
 have hvl := hv.len
 rw [n56, classes_ok (by omega) (by omega) h0 hg]
 simp only [R116_r, encZ_length]
 have hgd : ((manyF v 0 == manyF v 0) && decide ((0 : Int) <= manyF v 0) && decide ((manyF v 0).toNat * 1 <= LIM) && decide ((manyF v 0).toNat <= LIM)) = true := by
   have q1 : decide ((manyF v 0).toNat * 1 <= LIM) = true := decide_eq_true (by unfold LIM; omega)
   have q2 : decide ((manyF v 0).toNat <= LIM) = true := decide_eq_true (by unfold LIM; omega)
   rw [q1, q2, decide_eq_true hml.1]
   simp
 have he : List.replicate (manyF v 0).toNat (PV.bool false) = encBo (inB (manyF v 0).toNat ((so.take 0).map (dAt v))) := by
   apply List.ext_getElem
   · simp [encBo, inB_len]
   · intro i h1 h2
     simp [encBo, inB]
 rw [hgd, he]
 exact classesOf_loop (k := k) (by omega) hv hg so hin hs k 0 (by omega) (by omega)
theorem cl17_loop {k : Nat} (hk : 2000 <= k) {v : List Int} (hv : OkV v) (so : List Int) (hin : ∀ x ∈ so, inG v.length x) (hs : so.length <= 500) : ∀ (n i : Nat) (o : List Int), so.length - i < n -> i <= so.length -> o.length <= i ->
   L58_1 k n o.length (encZ so) (so.length : Int) (i : Int) (encZ v) (encZ o) = r58 (encZ (putAllI o ((so.drop i).map (dAt v))))
 | 0, i, o, h, hi, ho => by omega
 | n + 1, i, o, h, hi, ho => by
   rw [sL58_1, encZ_tk]
   by_cases hlt : i < so.length
   · have hd : decide ((i : Int) < (so.length : Int)) = true := by simpa using hlt
     have hnext : IntKind.i64.wrap ((i : Int) + 1) = ((i + 1 : Nat) : Int) := by rw [i64_id (by omega) (by omega)]; omega
     have hx := hin _ (List.getElem_mem hlt)
     have hpl := putI_len o (dAt v so[i])
     rw [hd, encZ_lookup hlt, drop_cons hlt, hnext]
     simp only [cond_true, Option.bind_some, int_atInt]
     rw [lookV hx.1 hx.2]
     simp only [Option.bind_some, int_atInt]
     rw [l1Put_ok hk o (by omega)]
     simp only [R119_r, encZ_length, List.map_cons]
     exact cl17_loop hk hv so hin hs n (i + 1) _ (by omega) (by omega) (by omega)
   · have hd : decide ((i : Int) < (so.length : Int)) = false := by simpa using hlt
     rw [hd, List.drop_eq_nil_of_le (by omega)]
     rfl
theorem cl17_ok {k : Nat} (hk : 2010 <= k) {v : List Int} (hv : OkV v) (so : List Int) (hin : ∀ x ∈ so, inG v.length x) (hs : so.length <= 500) : c58 k (encZ v) (encZ so) = r58 (encZ (clV v so)) := by
 obtain ⟨k, rfl⟩ : ∃ j, k = j + 1 := ⟨k - 1, by omega⟩
 rw [n58, encZ_length]
 exact cl17_loop (k := k) (by omega) hv so hin hs k 0 [] (by omega) (by omega) (by simp)
theorem l15In_loop {k : Nat} (c : Int) (v : List Int) (hv : v.length <= 1000) : ∀ (n i : Nat) (o : List Int), v.length - i < n -> i <= v.length -> o.length <= i ->
   L148_1 k n c o.length (encZ v) (v.length : Int) (i : Int) (encZ o) = r148 (encZ (o ++ stF c (v.drop i) i))
 | 0, i, o, h, hi, ho => by omega
 | n + 1, i, o, h, hi, ho => by
   rw [sL148_1, encZ_tk]
   by_cases hlt : i < v.length
   · have hd : decide ((i : Int) < (v.length : Int)) = true := by simpa using hlt
     have hnext : IntKind.i64.wrap ((i : Int) + 1) = ((i + 1 : Nat) : Int) := by rw [i64_id (by omega) (by omega)]; omega
     rw [hd, encZ_lookup hlt, drop_cons hlt, hnext]
     simp only [cond_true, Option.bind_some, int_atInt, stF]
     cases (v[i] == c)
     · exact l15In_loop c v hv n (i + 1) o (by omega) (by omega) (by omega)
     · rw [lim_ok (by omega) (by omega), encZ_snoc]
       have := l15In_loop (k := k) c v hv n (i + 1) (o ++ [(i : Int)]) (by omega) (by omega) (by simp; omega)
       rw [List.length_append, List.append_assoc] at this
       exact this
   · have hd : decide ((i : Int) < (v.length : Int)) = false := by simpa using hlt
     rw [hd, List.drop_eq_nil_of_le (by omega)]
     simp [stF]
theorem l15In_ok {k : Nat} (hk : 1010 <= k) {v : List Int} (hv : v.length <= 1000) (c : Int) : c148 k (encZ v) c = r148 (encZ (stV v c)) := by
 obtain ⟨k, rfl⟩ : ∃ j, k = j + 1 := ⟨k - 1, by omega⟩
 rw [n148, encZ_length]
 have := l15In_loop (k := k) c v hv k 0 [] (by omega) (by omega) (by simp)
 simpa [stV, encZ] using this
theorem stV_in {v : List Int} {c x : Int} : x ∈ stV v c ↔ inG v.length x /\ dAt v x = c := by
 rw [stV, stF_mem]
 constructor
 · rintro ⟨j, hj, rfl, h⟩
   refine ⟨⟨by omega, by omega⟩, ?_⟩
   rw [dAt_get (by omega)]
   simpa using h
 · rintro ⟨⟨h1, h2⟩, h3⟩
   exact ⟨x.toNat, h2, by omega, by rw [<- dAt_get h2]; exact h3⟩
theorem stV_len (v : List Int) (c : Int) : (stV v c).length <= v.length := stF_len c v 0
theorem stV_inS {p : Prg} {v : List Int} (hn : v.length = nS p) (c : Int) : ∀ x ∈ stV v c, inS p x := by
 intro x hx
 have := (stV_in.1 hx).1
 rw [hn] at this
 exact inG_in.1 this
theorem aft_in {p : Prg} (hp : FitP p) (hs : smallP p = true) {v : List Int} (hn : v.length = nS p) {l : List Int} (hl : ∀ x ∈ l, inS p x) : ∀ x ∈ aftAll p l, inG v.length x := by
 intro x hx
 obtain ⟨y, h1, h2⟩ := (aftAll_mem p l x).1 hx
 rw [hn]
 exact inG_in.2 (nxL_in hp hs (hl y h1) x h2)
def stpL (p : Prg) (v : List Int) (c : Int) : List Int := clV v (aftAll p (stV v c))
theorem encZ_app (a b : List Int) : encZ a ++ encZ b = encZ (a ++ b) := by simp [encZ]
theorem stepsI_loop {k : Nat} (hk : 1000300 <= k) {p : Prg} (hp : FitP p) (hs : smallP p = true) (l1 : List PV) {v : List Int} (hv : OkV v) (hn : v.length = nS p) (hg : goodF v 0 = true) (l : List Int) (hl : l.length <= 100) (hin : ∀ x ∈ l, inS p x) : ∀ (n i : Nat) (o : List Int), l.length - i < n -> i <= l.length -> o.length <= 6 * i -> (∀ x ∈ o, inG v.length x) ->
   L88_1 k n o.length (encZ l) (l.length : Int) (i : Int) p.wide p.vars l1 (encCms p.cmds) (encZ v) (encZ o) = r88 (encZ (clV v (o ++ aftAll p (l.drop i))))
 | 0, i, o, h, hi, ho, hoi => by omega
 | n + 1, i, o, h, hi, ho, hoi => by
   rw [sL88_1, encZ_tk]
   by_cases hlt : i < l.length
   · have hd : decide ((i : Int) < (l.length : Int)) = true := by simpa using hlt
     have hnext : IntKind.i64.wrap ((i : Int) + 1) = ((i + 1 : Nat) : Int) := by rw [i64_id (by omega) (by omega)]; omega
     have hx := hin _ (List.getElem_mem hlt)
     have hnl := nxL_len hp l[i]
     rw [hd, encZ_lookup hlt, drop_cons hlt, hnext]
     simp only [cond_true, Option.bind_some, int_atInt, aftAll]
     rw [nextI_ok (by omega) hp hs hx]
     simp only [R66_r, encZ_length]
     rw [lim_ok (by omega) (by omega), encZ_app]
     have := stepsI_loop hk hp hs l1 hv hn hg l hl hin n (i + 1) (o ++ nxL p l[i]) (by omega) (by omega) (by simp; omega) (fun x hx2 => by
       rcases List.mem_append.1 hx2 with h | h
       · exact hoi x h
       · rw [hn]; exact inG_in.2 (nxL_in hp hs hx x h))
     rw [List.length_append, List.append_assoc] at this
     exact this
   · have hd : decide ((i : Int) < (l.length : Int)) = false := by simpa using hlt
     rw [hd, List.drop_eq_nil_of_le (by omega), classesOf_ok (by omega) hv (nn_of hs hn) hg o hoi (by omega)]
     simp only [cond_false, aftAll, List.append_nil]
     rw [R56p_enc, List.take_of_length_le (by simp)]
theorem classSteps_ok {k : Nat} (hk : 1000400 <= k) {p : Prg} (hp : FitP p) (hs : smallP p = true) (l1 : List PV) {v : List Int} (hv : OkV v) (hn : v.length = nS p) (hg : goodF v 0 = true) (c : Int) : c88 k p.wide p.vars l1 (encCms p.cmds) (encZ v) c = r88 (encZ (stpL p v c)) := by
 obtain ⟨k, rfl⟩ : ∃ j, k = j + 1 := ⟨k - 1, by omega⟩
 have hvl := hv.len
 have hsl := stV_len v c
 rw [n88, statesIn_ok (by omega) (by omega)]
 simp only [R101_r, encZ_length]
 exact stepsI_loop (k := k) (by omega) hp hs l1 hv hn hg (stV v c) (by omega) (stV_inS hn c) k 0 [] (by omega) (by omega) (by simp) (by simp)
theorem steps17_ok {k : Nat} (hk : 1000500 <= k) {p : Prg} (hp : FitP p) (hs : smallP p = true) (l1 : List PV) {v : List Int} (hv : OkV v) (hn : v.length = nS p) (c : Int) : c89 k p.wide p.vars l1 (encCms p.cmds) (encZ v) c = r89 (encZ (stpL p v c)) := by
 obtain ⟨k, rfl⟩ : ∃ j, k = j + 1 := ⟨k - 1, by omega⟩
 have hvl := hv.len
 have hsl := stV_len v c
 have hsi := stV_inS hn c
 obtain ⟨q1, q2⟩ := putAllI_spec (aftAll p (stV v c)) [] (by simp)
 have hmem : ∀ x, x ∈ putAllI [] (aftAll p (stV v c)) ↔ x ∈ aftAll p (stV v c) := fun x => by rw [q2]; simp
 have hin : ∀ x ∈ putAllI [] (aftAll p (stV v c)), inG v.length x := fun x hx => aft_in hp hs hn hsi x ((hmem x).1 hx)
 have hlen := in_room hs q1 (fun x hx => inG_in.1 (by have := hin x hx; rw [hn] at this; exact this))
 rw [n89, l15In_ok (by omega) (by omega)]
 simp only [R148_r]
 rw [l8After_ok (by omega) hp hs l1 (stV v c) (by omega) hsi]
 simp only [R149_r]
 rw [cl17_ok (by omega) hv _ hin (by omega), clV_same hmem]
 simp only [R58_r]
 rfl
theorem stpL_len {p : Prg} (hp : FitP p) (hs : smallP p = true) {v : List Int} (hn : v.length = nS p) (hg : goodF v 0 = true) (c : Int) : (stpL p v c).length <= v.length := clV_len hg (aft_in hp hs hn (stV_inS hn c))
theorem stpL_mem (p : Prg) (v : List Int) (c x : Int) : x ∈ stpL p v c ↔ ∃ y, inG v.length y /\ dAt v y = c /\ ∃ z ∈ nxL p y, dAt v z = x := by
 rw [stpL, clV_mem]
 constructor
 · rintro ⟨z, h1, h2⟩
   obtain ⟨y, h3, h4⟩ := (aftAll_mem p _ z).1 h1
   obtain ⟨h5, h6⟩ := stV_in.1 h3
   exact ⟨y, h5, h6, z, h4, h2⟩
 · rintro ⟨y, h5, h6, z, h4, h2⟩
   exact ⟨z, (aftAll_mem p _ z).2 ⟨y, stV_in.2 ⟨h5, h6⟩, h4⟩, h2⟩
theorem sure_loop {k : Nat} (l0 : List PV) (f : Int -> Bool) (l : List (Int)) (hl : l.length <= 100000) (hc : ∀ x ∈ l, c147 k x l0 = r147 (f x)) : ∀ (n i : Nat), l.length - i < n -> i <= l.length -> L124f147_1 k n (encZ l) l0 (l.length : Int) (i : Int) = r124f147 (fixI f i (l.drop i))
 | 0, i, h, hi => by omega
 | n + 1, i, h, hi => by
   rw [sL124f147_1]
   by_cases hlt : i < l.length
   · have hd : decide ((i : Int) < (l.length : Int)) = true := by simpa using hlt
     have hnext : IntKind.i64.wrap ((i : Int) + 1) = ((i + 1 : Nat) : Int) := by rw [i64_id (by omega) (by omega)]; omega
     rw [hd, encZ_lookup hlt, drop_cons hlt, hnext]
     simp only [cond_true, Option.bind_some, int_atInt]
     rw [hc _ (List.getElem_mem hlt)]
     simp only [R147_r, fixI]
     cases f l[i]
     · exact sure_loop l0 f l hl hc n (i + 1) (by omega) (by omega)
     · rfl
   · have hd : decide ((i : Int) < (l.length : Int)) = false := by simpa using hlt
     rw [hd, List.drop_eq_nil_of_le (by omega)]
     rfl
theorem sure_idx {k : Nat} (hk : 100010 <= k) (l0 : List PV) (f : Int -> Bool) (l : List (Int)) (hl : l.length <= 100000) (hc : ∀ x ∈ l, c147 k x l0 = r147 (f x)) : c124f147 (k + 1) (encZ l) l0 = r124f147 (fixI f 0 l) := by
 rw [n124f147, encZ_length]
 exact sure_loop (k := k) l0 f l hl hc k 0 (by omega) (by omega)
theorem sure_del {k : Nat} (l0 : List PV) (f : Int -> Bool) (s : List Int) (hl : s.length <= 100000) (hc : ∀ x ∈ s, c147 k x l0 = r147 (f x)) : ∀ (n i j : Nat) (xs : List Int), s.length - j < n -> j <= s.length -> i <= j -> xs.length = s.length -> xs.take i = (s.take j).filter (fun x => !f x) -> xs.drop j = s.drop j ->
   L146f147_1 k n s.length l0 (i : Int) (j : Int) (encZ xs) = r146f147 (encZ (s.filter fun x => !f x))
 | 0, i, j, xs, h, hj, hi, hx, h1, h2 => by omega
 | n + 1, i, j, xs, h, hj, hi, hx, h1, h2 => by
   rw [sL146f147_1]
   by_cases hlt : j < s.length
   · have hd : decide ((j : Int) < (s.length : Int)) = true := by simpa using hlt
     have hg : (decide ((0 : Int) <= (j : Int)) && true) = true := by rw [decide_eq_true (by omega)]; rfl
     have hg2 : (decide ((0 : Int) <= (i : Int)) && decide ((i : Int) < (s.length : Int))) = true := by rw [decide_eq_true (by omega), decide_eq_true (by omega)]; rfl
     have hnj : IntKind.i64.wrap ((j : Int) + 1) = ((j + 1 : Nat) : Int) := by rw [i64_id (by omega) (by omega)]; omega
     have hni : IntKind.i64.wrap ((i : Int) + 1) = ((i + 1 : Nat) : Int) := by rw [i64_id (by omega) (by omega)]; omega
     have hxj : xs[j]'(by omega) = s[j] := by
       have e := h2
       rw [drop_cons (by omega), drop_cons hlt] at e
       exact (List.cons.inj e).1
     have hat : ∀ (m : Nat) (hm : m < xs.length), (encZ xs)[0 + (m : Int).toNat]? = some (.int .i64 xs[m]) := by
       intro m hm
       rw [Nat.zero_add, Int.toNat_natCast, encZ_get, List.getElem?_eq_getElem hm]
       rfl
     rw [hd, hg, hat j (by omega), hxj, hnj]
     simp only [cond_true, Option.bind_some, int_atInt]
     rw [hc _ (List.getElem_mem hlt)]
     simp only [R147_r]
     have hd2 : xs.drop (j + 1) = s.drop (j + 1) := by rw [<- List.drop_drop, <- List.drop_drop, h2]
     have ht2 : s.take (j + 1) = s.take j ++ [s[j]] := List.take_succ_eq_append_getElem hlt
     cases hf : f s[j]
     · simp only [Bool.not_false, cond_true]
       rw [hg2, hat i (by omega), hni]
       simp only [cond_true, Option.bind_some, Nat.zero_add, Int.toNat_natCast]
       rw [encZ_set]
       refine sure_del l0 f s hl hc n (i + 1) (j + 1) (xs.set i s[j]) (by omega) (by omega) (by omega) (by simp; omega) ?_ ?_
       · rw [List.take_succ_eq_append_getElem (by simp; omega), List.take_set_of_le (by omega), h1, ht2, List.filter_append]
         simp [hf]
       · rw [List.drop_set_of_lt (by omega), hd2]
     · simp only [Bool.not_true, cond_false]
       refine sure_del l0 f s hl hc n i (j + 1) xs (by omega) (by omega) (by omega) hx ?_ hd2
       rw [h1, ht2, List.filter_append]
       simp [hf]
   · have hd : decide ((j : Int) < (s.length : Int)) = false := by simpa using hlt
     have hg : (decide ((0 : Int) <= (i : Int)) && decide ((i : Int) <= (s.length : Int)) && decide ((s.length : Int) <= (s.length : Int))) = true := by
       rw [decide_eq_true (by omega), decide_eq_true (by omega), decide_eq_true (by omega)]; rfl
     have hg2 : (decide ((0 : Int) <= (i : Int)) && decide ((i : Int) <= (s.length : Int))) = true := by rw [decide_eq_true (by omega), decide_eq_true (by omega)]; rfl
     have hjs : s.take j = s := List.take_of_length_le (by omega)
     rw [hd, hg, hg2]
     simp only [cond_true, cond_false, Nat.zero_add, Int.toNat_natCast]
     rw [List.append_assoc, List.take_left' (by simp; omega), encZ_take, h1, hjs]
theorem sure_ok {k : Nat} (hk : 100010 <= k) (l0 : List PV) (f : Int -> Bool) (s : List Int) (hl : s.length <= 100000) (hc : ∀ k', k <= k' -> ∀ x ∈ s, c147 k' x l0 = r147 (f x)) : c146f147 (k + 2) (encZ s) l0 = r146f147 (encZ (s.filter fun x => !f x)) := by
 have etk : (encZ s).take s.length = encZ s := List.take_of_length_le (by simp)
 rw [n146f147, encZ_length, etk, sure_idx (k := k) hk l0 f s hl (hc k (Nat.le_refl k))]
 simp only [R124f147p_r]
 rcases fixI_spec f s 0 with ⟨h1, h2⟩ | ⟨j, hj, h1, h2, h3⟩
 · rw [h1]
   have hall : s.filter (fun x => !f x) = s := List.filter_eq_self.2 fun x hx => by
     obtain ⟨i, hi, rfl⟩ := List.mem_iff_getElem.1 hx
     simp [h2 _ (List.getElem_mem hi)]
   rw [hall]
   rfl
 · rw [h1]
   have e1 : ((((0 + j : Nat) : Int)) == (-1)) = false := by rw [beq_eq_false_iff_ne]; omega
   have e2 : IntKind.i64.wrap (((0 + j : Nat) : Int) + 1) = ((j + 1 : Nat) : Int) := by rw [i64_id (by omega) (by omega)]; omega
   rw [e1, e2, Nat.zero_add]
   simp only [cond_false]
   have hpre : (s.take j).filter (fun x => !f x) = s.take j := List.filter_eq_self.2 fun x hx => by
     obtain ⟨i, hi, rfl⟩ := List.mem_iff_getElem.1 hx
     rw [List.length_take] at hi
     rw [List.getElem_take]
     simp [h3 i (by omega)]
   refine sure_del (k := k + 1) l0 f s hl (hc (k + 1) (by omega)) (k + 1) j (j + 1) s (by omega) (by omega) (by omega) rfl ?_ rfl
   rw [List.take_succ_eq_append_getElem hj, List.filter_append, hpre]
   simp [h2]
theorem R146f147p_enc (l : List Int) (K0 : List PV -> R) : R146f147p (r146f147 (encZ l)) K0 = K0 (encZ l) := by
 have h : ([SV.c (.own 3 0 (encZ l))].all plainS && true) = true := by simp [plainS, plainC, encZ_plain]; rfl
 show (bif ([SV.c (.own 3 0 (encZ l))].all plainS && true) then K0 (encZ l) else none) = _
 rw [h]
 rfl
def sureB (p : Prg) (v : List Int) (l : List Int) (to : Int) : Bool := l.all fun no => (clV v (nxL p no)).contains to
def sureL (p : Prg) (v : List Int) (c : Int) : List Int := (stpL p v c).filter (sureB p v (stV v c))
theorem nx_inG {p : Prg} (hp : FitP p) (hs : smallP p = true) {v : List Int} (hn : v.length = nS p) {no : Int} (hi : inS p no) : ∀ x ∈ nxL p no, inG v.length x := by
 intro x hx
 rw [hn]
 exact inG_in.2 (nxL_in hp hs hi x hx)
theorem sureI_loop {k : Nat} (hk : 1000300 <= k) {p : Prg} (hp : FitP p) (hs : smallP p = true) (l1 : List PV) {v : List Int} (hv : OkV v) (hn : v.length = nS p) (hg : goodF v 0 = true) (l : List Int) (hl : l.length <= 100) (hin : ∀ x ∈ l, inS p x) : ∀ (n i : Nat) (o : List Int), l.length - i < n -> i <= l.length -> o.length <= 100 ->
   L85_1 k n o.length (encZ l) (l.length : Int) (i : Int) p.wide p.vars l1 (encCms p.cmds) (encZ v) (encZ o) = r85 (encZ (o.filter (sureB p v (l.drop i))))
 | 0, i, o, h, hi, ho => by omega
 | n + 1, i, o, h, hi, ho => by
   rw [sL85_1, encZ_tk]
   by_cases hlt : i < l.length
   · have hd : decide ((i : Int) < (l.length : Int)) = true := by simpa using hlt
     have hnext : IntKind.i64.wrap ((i : Int) + 1) = ((i + 1 : Nat) : Int) := by rw [i64_id (by omega) (by omega)]; omega
     have hx := hin _ (List.getElem_mem hlt)
     have hnl := nxL_len hp l[i]
     have hni := nx_inG hp hs hn hx
     have hvl := hv.len
     have hcl := clV_len hg hni
     rw [hd, encZ_lookup hlt, drop_cons hlt, hnext]
     simp only [cond_true, Option.bind_some, int_atInt]
     rw [nextI_ok (by omega) hp hs hx]
     simp only [R66_r]
     rw [classesOf_ok (by omega) hv (nn_of hs hn) hg _ hni (by omega)]
     simp only [R56_r, encZ_length, encZ_tk]
     obtain ⟨k, rfl⟩ : ∃ j, k = j + 2 := ⟨k - 2, by omega⟩
     rw [sure_ok (k := k) (by omega) (encZ (clV v (nxL p l[i]))) (fun to => !(clV v (nxL p l[i])).contains to) o (by omega) (fun k' hk' x hx => by
       obtain ⟨k', rfl⟩ : ∃ j, k' = j + 1 := ⟨k' - 1, by omega⟩
       rw [n147, contains1_ok (by omega) _ (by omega)]
       simp only [R65_r]), R146f147p_enc, encZ_length]
     have hfl := List.length_filter_le (fun x => !!(clV v (nxL p l[i])).contains x) o
     rw [sureI_loop hk hp hs l1 hv hn hg l hl hin n (i + 1) _ (by omega) (by omega) (by omega), List.filter_filter]
     congr 2
     apply List.filter_congr
     intro x _
     simp only [sureB, List.all_cons, Bool.not_not]
     rw [Bool.and_comm]
   · have hd : decide ((i : Int) < (l.length : Int)) = false := by simpa using hlt
     rw [hd, List.drop_eq_nil_of_le (by omega)]
     have : o.filter (sureB p v []) = o := List.filter_eq_self.2 fun x _ => rfl
     rw [this]
     rfl
theorem sureSteps_ok {k : Nat} (hk : 1000500 <= k) {p : Prg} (hp : FitP p) (hs : smallP p = true) (l1 : List PV) {v : List Int} (hv : OkV v) (hn : v.length = nS p) (hg : goodF v 0 = true) (c : Int) : c85 k p.wide p.vars l1 (encCms p.cmds) (encZ v) c = r85 (encZ (sureL p v c)) := by
 obtain ⟨k, rfl⟩ : ∃ j, k = j + 1 := ⟨k - 1, by omega⟩
 have hvl := hv.len
 have hsl := stV_len v c
 have hpl := stpL_len hp hs hn hg c
 rw [n85, classSteps_ok (by omega) hp hs l1 hv hn hg]
 simp only [R88_r]
 rw [statesIn_ok (by omega) (by omega)]
 simp only [R101_r, encZ_length]
 exact sureI_loop (k := k) (by omega) hp hs l1 hv hn hg (stV v c) (by omega) (stV_inS hn c) k 0 (stpL p v c) (by omega) (by omega) (by omega)
theorem sure17_loop2 {k : Nat} (hk : 1000300 <= k) {p : Prg} (hp : FitP p) (hs : smallP p = true) (l1 : List PV) {v : List Int} (hv : OkV v) (hn : v.length = nS p) (hg : goodF v 0 = true) (c to : Int) (l : List Int) (hl : l.length <= 100) (hin : ∀ x ∈ l, inS p x) (n1 : Nat) (u : List PV) (t17 : Int) (t18 : Nat) (h18 : t18 <= 1000) (o : List Int) (ho : o.length <= 1000) : ∀ (n i : Nat) (q : Bool), l.length - i < n -> i <= l.length ->
   L87_2 k n1 n c o.length to q u t17 (t18 : Int) (encZ l) (l.length : Int) (i : Int) p.wide p.vars l1 (encCms p.cmds) (encZ v) (encZ o) = L87_1 k n1 c (bif q && sureB p v (l.drop i) to then o ++ [to] else o).length u t17 ((t18 + 1 : Nat) : Int) p.wide p.vars l1 (encCms p.cmds) (encZ v) (encZ (bif q && sureB p v (l.drop i) to then o ++ [to] else o))
 | 0, i, q, h, hi => by omega
 | n + 1, i, q, h, hi => by
   rw [sL87_2]
   by_cases hlt : i < l.length
   · have hd : decide ((i : Int) < (l.length : Int)) = true := by simpa using hlt
     have hnext : IntKind.i64.wrap ((i : Int) + 1) = ((i + 1 : Nat) : Int) := by rw [i64_id (by omega) (by omega)]; omega
     have hx := hin _ (List.getElem_mem hlt)
     have hnl := nxL_len hp l[i]
     have hni := nx_inG hp hs hn hx
     have hvl := hv.len
     have hcl := clV_len hg hni
     have hsb : sureB p v (l[i] :: l.drop (i + 1)) to = ((clV v (nxL p l[i])).contains to && sureB p v (l.drop (i + 1)) to) := rfl
     rw [hd, encZ_lookup hlt, drop_cons hlt, hnext, hsb]
     simp only [cond_true, Option.bind_some, int_atInt]
     cases q
     · simp only [cond_false, Bool.false_and]
       have := sure17_loop2 hk hp hs l1 hv hn hg c to l hl hin n1 u t17 t18 h18 o ho n (i + 1) false (by omega) (by omega)
       simp only [cond_false, Bool.false_and] at this
       exact this
     · simp only [cond_true, Bool.true_and]
       rw [nextS_ok (by omega) hp hs hx]
       simp only [R111_r]
       rw [cl17_ok (by omega) hv _ hni (by omega)]
       simp only [R58_r]
       rw [has_ok (by omega) _ (by omega)]
       simp only [R138_r]
       exact sure17_loop2 hk hp hs l1 hv hn hg c to l hl hin n1 u t17 t18 h18 o ho n (i + 1) _ (by omega) (by omega)
   · have hd : decide ((i : Int) < (l.length : Int)) = false := by simpa using hlt
     have hnx : IntKind.i64.wrap ((t18 : Int) + 1) = ((t18 + 1 : Nat) : Int) := by rw [i64_id (by omega) (by omega)]; omega
     have hnil : sureB p v [] to = true := rfl
     rw [hd, List.drop_eq_nil_of_le (by omega), hnx, hnil, Bool.and_true, encZ_tk]
     cases q
     · rfl
     · simp only [cond_true, cond_false]
       rw [lim_ok (by omega) (by omega), encZ_snoc, List.length_append]
       rfl
theorem sure17_loop1 {k : Nat} (hk : 1000300 <= k) {p : Prg} (hp : FitP p) (hs : smallP p = true) (l1 : List PV) {v : List Int} (hv : OkV v) (hn : v.length = nS p) (hg : goodF v 0 = true) (c : Int) (u : List Int) (hu : u.length <= 100) : ∀ (n i : Nat) (o : List Int), u.length - i < n -> i <= u.length -> o.length <= i ->
   L87_1 k n c o.length (encZ u) (u.length : Int) (i : Int) p.wide p.vars l1 (encCms p.cmds) (encZ v) (encZ o) = r87 (encZ (o ++ (u.drop i).filter (sureB p v (stV v c))))
 | 0, i, o, h, hi, ho => by omega
 | n + 1, i, o, h, hi, ho => by
   rw [sL87_1]
   have hvl := hv.len
   have hsl := stV_len v c
   by_cases hlt : i < u.length
   · have hd : decide ((i : Int) < (u.length : Int)) = true := by simpa using hlt
     rw [hd, encZ_lookup hlt, drop_cons hlt]
     simp only [cond_true, Option.bind_some, int_atInt]
     rw [l15In_ok (by omega) (by omega)]
     simp only [R148_r, encZ_length]
     have h2 := sure17_loop2 hk hp hs l1 hv hn hg c u[i] (stV v c) (by omega) (stV_inS hn c) n (encZ u) (u.length : Int) i (by omega) o (by omega) k 0 true (by omega) (by omega)
     have h' : L87_2 k n k c o.length u[i] true (encZ u) (u.length : Int) (i : Int) (encZ (stV v c)) ((stV v c).length : Int) 0 p.wide p.vars l1 (encCms p.cmds) (encZ v) (encZ o) = _ := h2
     rw [h', List.drop_zero, Bool.true_and, List.filter_cons]
     cases sureB p v (stV v c) u[i]
     · have := sure17_loop1 hk hp hs l1 hv hn hg c u hu n (i + 1) o (by omega) (by omega) (by omega)
       simpa using this
     · have := sure17_loop1 hk hp hs l1 hv hn hg c u hu n (i + 1) (o ++ [u[i]]) (by omega) (by omega) (by simp; omega)
       simpa using this
   · have hd : decide ((i : Int) < (u.length : Int)) = false := by simpa using hlt
     rw [hd, encZ_tk, List.drop_eq_nil_of_le (by omega)]
     simp
theorem sure17_ok {k : Nat} (hk : 1000600 <= k) {p : Prg} (hp : FitP p) (hs : smallP p = true) (l1 : List PV) {v : List Int} (hv : OkV v) (hn : v.length = nS p) (hg : goodF v 0 = true) (c : Int) : c87 k p.wide p.vars l1 (encCms p.cmds) (encZ v) c = r87 (encZ (sureL p v c)) := by
 obtain ⟨k, rfl⟩ : ∃ j, k = j + 1 := ⟨k - 1, by omega⟩
 have hvl := hv.len
 have hpl := stpL_len hp hs hn hg c
 rw [n87, steps17_ok (by omega) hp hs l1 hv hn]
 simp only [R89_r, encZ_length]
 have := sure17_loop1 (k := k) (by omega) hp hs l1 hv hn hg c (stpL p v c) (by omega) k 0 [] (by omega) (by omega) (by simp)
 rw [List.drop_zero, List.nil_append] at this
 exact this
theorem many15_loop {k : Nat} (v : List Int) (hv : v.length <= 1000) : ∀ (n i m : Nat), v.length - i < n -> i <= v.length -> m <= i -> goodF (v.drop i) (m : Int) = true ->
   L117_1 k n (m : Int) (encZ v) (v.length : Int) (i : Int) = r117 (manyF (v.drop i) (m : Int))
 | 0, i, m, h, hi, hm, hg => by omega
 | n + 1, i, m, h, hi, hm, hg => by
   rw [sL117_1]
   by_cases hlt : i < v.length
   · have hd : decide ((i : Int) < (v.length : Int)) = true := by simpa using hlt
     have hnext : IntKind.i64.wrap ((i : Int) + 1) = ((i + 1 : Nat) : Int) := by rw [i64_id (by omega) (by omega)]; omega
     rw [drop_cons hlt] at hg ⊢
     simp only [goodF, Bool.and_eq_true, decide_eq_true_eq] at hg
     obtain ⟨h1, h2, h3⟩ := hg
     rw [hd, encZ_lookup hlt, hnext]
     simp only [cond_true, Option.bind_some, int_atInt, manyF]
     by_cases e : v[i] = (m : Int)
     · have e1 : (v[i] == (m : Int)) = true := by simpa using e
       have e2 : decide (v[i] ≥ (m : Int)) = true := decide_eq_true (by omega)
       have e3 : IntKind.i64.wrap (v[i] + 1) = ((m + 1 : Nat) : Int) := by rw [e, i64_id (by omega) (by omega)]; omega
       have e4 : (m : Int) + 1 = ((m + 1 : Nat) : Int) := by omega
       rw [e1] at h3 ⊢
       rw [e2, e3]
       simp only [cond_true] at h3 ⊢
       rw [e4] at h3 ⊢
       exact many15_loop v hv n (i + 1) (m + 1) (by omega) (by omega) (by omega) h3
     · have e1 : (v[i] == (m : Int)) = false := by simpa using e
       have e2 : decide (v[i] ≥ (m : Int)) = false := decide_eq_false (by omega)
       rw [e1] at h3 ⊢
       rw [e2]
       simp only [cond_false] at h3 ⊢
       exact many15_loop v hv n (i + 1) m (by omega) (by omega) (by omega) h3
   · have hd : decide ((i : Int) < (v.length : Int)) = false := by simpa using hlt
     rw [hd, List.drop_eq_nil_of_le (by omega)]
     rfl
theorem many15_ok {k : Nat} (hk : 1010 <= k) {v : List Int} (hv : v.length <= 1000) (hg : goodF v 0 = true) : c117 k (encZ v) = r117 (manyF v 0) := by
 obtain ⟨k, rfl⟩ : ∃ j, k = j + 1 := ⟨k - 1, by omega⟩
 rw [n117, encZ_length]
 exact many15_loop (k := k) v hv k 0 0 (by omega) (by omega) (by omega) hg
def clGF (p : Prg) (v : List Int) : Nat -> Nat -> List (List Int)
 | 0, _ => []
 | m + 1, c => stpL p v (c : Int) :: clGF p v m (c + 1)
def clG (p : Prg) (v : List Int) : List (List Int) := clGF p v (manyF v 0).toNat 0
theorem clGF_len (p : Prg) (v : List Int) : ∀ (m c : Nat), (clGF p v m c).length = m
 | 0, c => rfl
 | m + 1, c => by simp [clGF, clGF_len p v m]
theorem clGF_at (p : Prg) (v : List Int) : ∀ (m c j : Nat), atL (clGF p v m c) j = if j < m then stpL p v ((c + j : Nat) : Int) else []
 | 0, c, j => by simp [clGF, atL]
 | m + 1, c, 0 => by simp [clGF, atL]
 | m + 1, c, j + 1 => by
   have := clGF_at p v m (c + 1) j
   simp only [atL] at this
   simp only [clGF, atL, List.getElem?_cons_succ, this, Nat.add_lt_add_iff_right]
   rw [show c + 1 + j = c + (j + 1) by omega]
theorem clG_len {p : Prg} {v : List Int} : (clG p v).length = (manyF v 0).toNat := clGF_len p v _ 0
theorem clG_at (p : Prg) (v : List Int) (j : Nat) : atL (clG p v) j = if j < (manyF v 0).toNat then stpL p v (j : Int) else [] := by
 have := clGF_at p v (manyF v 0).toNat 0 j
 rw [Nat.zero_add] at this
 exact this
theorem encZZ_fit (g : List (List Int)) : GrF (encZZ g) g := by
 refine ⟨by simp, fun i hi => ⟨.row 0 0 (encZ (atL g i)), ?_, by simp⟩⟩
 rw [encZZ_get, List.getElem?_eq_getElem hi]
 simp [atL, hi]
theorem clGraph_loop {k : Nat} (hk : 1000400 <= k) {p : Prg} (hp : FitP p) (hs : smallP p = true) (l1 : List PV) {v : List Int} (hv : OkV v) (hn : v.length = nS p) (hg : goodF v 0 = true) : ∀ (n i : Nat) (o : List (List Int)), (manyF v 0).toNat - i < n -> i <= (manyF v 0).toNat -> o.length <= i ->
   L54_1 k n o.length (manyF v 0) (i : Int) p.wide p.vars l1 (encCms p.cmds) (encZ v) (encZZ o) = r54 (encZZ (o ++ clGF p v ((manyF v 0).toNat - i) i))
 | 0, i, o, h, hi, ho => by omega
 | n + 1, i, o, h, hi, ho => by
   have hml := many_le hg
   have hvl := hv.len
   have etk : (encZZ o).take o.length = encZZ o := List.take_of_length_le (by simp)
   rw [sL54_1, etk]
   by_cases hlt : i < (manyF v 0).toNat
   · have hd : decide ((i : Int) < manyF v 0) = true := decide_eq_true (by omega)
     have hnext : IntKind.i64.wrap ((i : Int) + 1) = ((i + 1 : Nat) : Int) := by rw [i64_id (by omega) (by omega)]; omega
     obtain ⟨m, hm⟩ : ∃ m, (manyF v 0).toNat - i = m + 1 := ⟨(manyF v 0).toNat - i - 1, by omega⟩
     rw [hd, hnext, hm, classSteps_ok hk hp hs l1 hv hn hg]
     simp only [cond_true, R88_r, encZ_length, encZ_tk, clGF]
     rw [lim_ok (by omega) (by omega), encZZ_snoc]
     have := clGraph_loop hk hp hs l1 hv hn hg n (i + 1) (o ++ [stpL p v (i : Int)]) (by omega) (by omega) (by simp; omega)
     rw [List.length_append, List.append_assoc, show (manyF v 0).toNat - (i + 1) = m by omega] at this
     exact this
   · have hd : decide ((i : Int) < manyF v 0) = false := decide_eq_false (by omega)
     rw [hd, show (manyF v 0).toNat - i = 0 by omega]
     simp [clGF]
theorem clGraph_ok {k : Nat} (hk : 1000500 <= k) {p : Prg} (hp : FitP p) (hs : smallP p = true) (l1 : List PV) {v : List Int} (hv : OkV v) (hn : v.length = nS p) (hg : goodF v 0 = true) : c54 k p.wide p.vars l1 (encCms p.cmds) (encZ v) = r54 (encZZ (clG p v)) := by
 obtain ⟨k, rfl⟩ : ∃ j, k = j + 1 := ⟨k - 1, by omega⟩
 have hml := many_le hg
 have hvl := hv.len
 rw [n54, classes_ok (by omega) (by omega) (nn_of hs hn) hg]
 simp only [R116_r]
 exact clGraph_loop (k := k) (by omega) hp hs l1 hv hn hg k 0 [] (by omega) (by omega) (by simp)
theorem clG_rows {p : Prg} (hp : FitP p) (hs : smallP p = true) {v : List Int} (hv : OkV v) (hn : v.length = nS p) (hg : goodF v 0 = true) (i : Nat) : (atL (clG p v) i).length <= 1000 /\ ∀ x ∈ atL (clG p v) i, inG (clG p v).length x := by
 have hvl := hv.len
 rw [clG_at, clG_len]
 split
 · have := stpL_len hp hs hn hg (i : Int)
   refine ⟨by omega, fun x hx => ?_⟩
   have hr := clV_rng hg (aft_in hp hs hn (stV_inS hn (i : Int))) x hx
   exact ⟨hr.1, by omega⟩
 · exact ⟨by simp, by simp⟩
def starts17 (p : Prg) (v : List Int) : List Int := clV v (whI p p.start)
theorem wh_inG {p : Prg} {v : List Int} (hn : v.length = nS p) (t : List Nd) : ∀ x ∈ whI p t, inG v.length x := by
 intro x hx
 rw [hn]
 exact inG_in.2 ((whI_mem p t x).1 hx).1
theorem starts_in {p : Prg} {v : List Int} (hn : v.length = nS p) (hg : goodF v 0 = true) : ∀ x ∈ starts17 p v, inG (clG p v).length x := by
 intro x hx
 have := clV_rng hg (wh_inG hn p.start) x hx
 rw [clG_len]
 exact ⟨this.1, by omega⟩
def reachC (p : Prg) (v : List Int) : List Int := rfL (clG p v) (starts17 p v)
theorem classReach_ok {k : Nat} (hk : 1000600 <= k) {p : Prg} (hp : FitP p) (hs : smallP p = true) {v : List Int} (hv : OkV v) (hn : v.length = nS p) (hg : goodF v 0 = true) : c60 k p.wide p.vars (encT p.start) (encCms p.cmds) (encZ v) = r60 (encZ (reachC p v)) := by
 obtain ⟨k, rfl⟩ : ∃ j, k = j + 1 := ⟨k - 1, by omega⟩
 have hml := many_le hg
 have hvl := hv.len
 have hst := hp.st
 have hwl := whI_len hs p.start
 have hsl : (starts17 p v).length <= v.length := clV_len hg (wh_inG hn p.start)
 rw [n60, clGraph_ok (by omega) hp hs _ hv hn hg]
 simp only [R54_r]
 rw [where_ok (by omega) hs _ _ p.start (by omega) (startK hs)]
 simp only [R57_r]
 rw [classesOf_ok (by omega) hv (nn_of hs hn) hg _ (wh_inG hn p.start) (by omega)]
 simp only [R56_r, encZ_length, encZ_tk]
 have hro := clG_rows hp hs hv hn hg
 have := reachedFrom_ok (k := k) (by omega) (encZZ_fit (clG p v)) (by rw [clG_len]; omega) (fun i => (hro i).1) (l := starts17 p v) (by omega) (fun i x hx => (hro i).2 x hx) (starts_in hn hg)
 rw [show clV v (whI p p.start) = starts17 p v from rfl, this]
 simp only [R122_r]
 rfl
theorem reachC_mem {p : Prg} (hp : FitP p) (hs : smallP p = true) {v : List Int} (hv : OkV v) (hn : v.length = nS p) (hg : goodF v 0 = true) (x : Int) : x ∈ reachC p v ↔ ∃ n, Way (clG p v) (starts17 p v) n x :=
 rfL_mem (fun i x hx => (clG_rows hp hs hv hn hg i).2 x hx) (starts_in hn hg) x
theorem reach_class {p : Prg} (hp : FitP p) (hs : smallP p = true) {v : List Int} (hv : OkV v) (hn : v.length = nS p) (hg : goodF v 0 = true) {x : Int} (h : Rch p x) : dAt v x ∈ reachC p v := by
 rw [reachC_mem hp hs hv hn hg]
 induction h with
 | start h1 h2 => exact ⟨0, .start _ ((clV_mem _ _ _).2 ⟨_, (whI_mem p p.start _).2 ⟨h1, h2⟩, rfl⟩)⟩
 | @step x y hx hy ih =>
   obtain ⟨n, hw⟩ := ih
   have hi : inS p x := rch_in hp hs hx
   have hi2 : inG v.length x := by rw [hn]; exact inG_in.2 hi
   have hr := dAt_rng hg hi2.2
   refine ⟨n + 1, .step n _ _ hw ?_⟩
   rw [clG_at, if_pos (by omega), show (((dAt v x).toNat : Nat) : Int) = dAt v x by omega, stpL_mem]
   exact ⟨x, hi2, rfl, y, hy, rfl⟩
end Go.Proofs.YthoecdnmokcfbaaGreat
/- The reference's ways through a graph; its graph of classes. -/
set_option linter.unusedVariables false
set_option linter.unusedSimpArgs false
set_option maxRecDepth 8000
namespace Go.Proofs.YthoecdnmokcfbaaGreat
open Go.Dp
theorem bIn_cons (h x : Int) : ∀ (l d q : List Int), bIn h l d (x :: q) = ((bIn h l d q).1, x :: (bIn h l d q).2)
 | [], d, q => rfl
 | w :: l, d, q => by
   rw [bIn, bIn]
   cases decide (dAt d w < 0)
   · exact bIn_cons h x l d q
   · have := bIn_cons h x l (d.set w.toNat (dAt d h + 1)) (q ++ [w])
     simpa using this
section
variable {k : Nat} {G : List PV} (h : Int)
theorem far36 (n N L : Nat) (xs q : List PV) : L178_3 k (n + 1) G N L xs q = L178_6 k (n + 1) G N 0 L xs q := by
 rw [sL178_3, sL178_6]
theorem far5 (n1 : Nat) (N : Nat) (l : List Int) (hll : l.length <= 1000) (hl : ∀ w ∈ l, inG N w) (hN : N <= 1000) : ∀ (n j : Nat) (d t : List Int), l.length - j < n -> j <= l.length -> d.length = N -> inG N h -> t.length + (l.length - j) <= 100000 -> 0 <= dAt d h -> dAt d h <= 100000 ->
   L178_5 k n1 n G N t.length h (encZ l) (l.length : Int) (j : Int) (encZ d) (encZ t) =
     L178_3 k n1 G N (bIn h (l.drop j) d t).2.length (encZ (bIn h (l.drop j) d t).1) (encZ (bIn h (l.drop j) d t).2)
 | 0, j, d, t, hn, hj, hd, hh, hq, h0, h1 => by omega
 | n + 1, j, d, t, hn, hj, hd, hh, hq, h0, h1 => by
   rw [sL178_5]
   by_cases hlt : j < l.length
   · have hdj : decide ((j : Int) < (l.length : Int)) = true := by simpa using hlt
     have hnext : IntKind.i64.wrap ((j : Int) + 1) = ((j + 1 : Nat) : Int) := by rw [i64_id (by omega) (by omega)]; omega
     have hw := hl _ (List.getElem_mem hlt)
     rw [hdj, encZ_lookup hlt, hnext]
     simp only [cond_true, Option.bind_some, int_atInt]
     rw [inG_dec hw, encZ_at (d := d) (v := l[j]) (by rw [hd]; exact hw)]
     simp only [cond_true, Option.bind_some, int_atInt]
     rw [drop_cons hlt, bIn]
     cases hc : decide (dAt d l[j] < 0)
     · exact far5 n1 N l hll hl hN n (j + 1) d t (by omega) (by omega) hd hh (by omega) h0 h1
     · have hwr : IntKind.i64.wrap (dAt d h + 1) = dAt d h + 1 := i64_id (by omega) (by omega)
       have hlm : (decide ((t.length + 1) * 8 <= LIM) && decide (t.length + 1 <= LIM)) = true := lim_ok (by omega) (by omega)
       simp only [cond_true]
       rw [inG_dec hh, encZ_at (d := d) (v := h) (by rw [hd]; exact hh), hlm]
       simp only [cond_true, Option.bind_some, int_atInt]
       rw [hwr, Nat.zero_add, encZ_set, encZ_tk, encZ_snoc]
       have hwh : l[j] ≠ h := by
         intro e
         have := of_decide_eq_true hc
         rw [e] at this
         omega
       have hdh : dAt (d.set l[j].toNat (dAt d h + 1)) h = dAt d h := by
         rw [dAt_set (by rw [hd]; exact hw) _ hh.1, if_neg (Ne.symm hwh)]
       have := far5 n1 N l hll hl hN n (j + 1) (d.set l[j].toNat (dAt d h + 1)) (t ++ [l[j]]) (by omega) (by omega) (by rw [List.length_set]; exact hd) hh (by simp at hq ⊢; omega) (by rw [hdh]; exact h0) (by rw [hdh]; exact h1)
       rw [List.length_append] at this
       exact this
   · have hdj : decide ((j : Int) < (l.length : Int)) = false := by simpa using hlt
     have ed : l.drop j = [] := List.drop_eq_nil_of_le (by omega)
     rw [hdj, ed]
     rfl
theorem far4 (n1 : Nat) (N : Nat) (l : List Int) (hll : l.length <= 1000) (hl : ∀ w ∈ l, inG N w) (hN : N <= 1000) : ∀ (n j : Nat) (d pre t : List Int), l.length - j < n -> j <= l.length -> d.length = N -> inG N h -> t.length + (l.length - j) <= 100000 -> 0 <= dAt d h -> dAt d h <= 100000 ->
   ∃ pre' : List Int, L178_4 k (n1 + 1) n G N pre.length t.length h (encZ l) (l.length : Int) (j : Int) (encZ d) (encZ (pre ++ t)) =
     L178_6 k (n1 + 1) G N pre'.length (bIn h (l.drop j) d t).2.length (encZ (bIn h (l.drop j) d t).1) (encZ (pre' ++ (bIn h (l.drop j) d t).2))
 | 0, j, d, pre, t, hn, hj, hd, hh, hq, h0, h1 => by omega
 | n + 1, j, d, pre, t, hn, hj, hd, hh, hq, h0, h1 => by
   rw [sL178_4]
   by_cases hlt : j < l.length
   · have hdj : decide ((j : Int) < (l.length : Int)) = true := by simpa using hlt
     have hnext : IntKind.i64.wrap ((j : Int) + 1) = ((j + 1 : Nat) : Int) := by rw [i64_id (by omega) (by omega)]; omega
     have hw := hl _ (List.getElem_mem hlt)
     rw [hdj, encZ_lookup hlt, hnext]
     simp only [cond_true, Option.bind_some, int_atInt]
     rw [inG_dec hw, encZ_at (d := d) (v := l[j]) (by rw [hd]; exact hw)]
     simp only [cond_true, Option.bind_some, int_atInt]
     rw [drop_cons hlt, bIn]
     cases hc : decide (dAt d l[j] < 0)
     · exact far4 n1 N l hll hl hN n (j + 1) d pre t (by omega) (by omega) hd hh (by omega) h0 h1
     · have hwr : IntKind.i64.wrap (dAt d h + 1) = dAt d h + 1 := i64_id (by omega) (by omega)
       have hlm : (decide ((t.length + 1) * 8 <= LIM) && decide (t.length + 1 <= LIM)) = true := lim_ok (by omega) (by omega)
       simp only [cond_true]
       rw [inG_dec hh, encZ_at (d := d) (v := h) (by rw [hd]; exact hh), hlm]
       simp only [cond_true, Option.bind_some, int_atInt]
       rw [hwr, Nat.zero_add, encZ_set, encZ_drop, List.drop_left, encZ_tk, encZ_snoc]
       have hwh : l[j] ≠ h := by
         intro e
         have := of_decide_eq_true hc
         rw [e] at this
         omega
       have hdh : dAt (d.set l[j].toNat (dAt d h + 1)) h = dAt d h := by
         rw [dAt_set (by rw [hd]; exact hw) _ hh.1, if_neg (Ne.symm hwh)]
       have := far5 (k := k) (G := G) h (n1 + 1) N l hll hl hN n (j + 1) (d.set l[j].toNat (dAt d h + 1)) (t ++ [l[j]]) (by omega) (by omega) (by rw [List.length_set]; exact hd) hh (by simp at hq ⊢; omega) (by rw [hdh]; exact h0) (by rw [hdh]; exact h1)
       rw [List.length_append, far36] at this
       exact ⟨[], this⟩
   · have hdj : decide ((j : Int) < (l.length : Int)) = false := by simpa using hlt
     have ed : l.drop j = [] := List.drop_eq_nil_of_le (by omega)
     rw [hdj, ed]
     exact ⟨pre, rfl⟩
end
theorem far6 {k : Nat} (hk : 2000 <= k) {G : List PV} {g : List (List Int)} (hG : GrF G g) (hN : g.length <= 1000) (hgl : ∀ i, (atL g i).length <= 1000) {some' : List Int} (hg : ∀ (i : Nat) (x : Int), x ∈ atL g i -> inG g.length x) (hs : ∀ x ∈ some', inG g.length x) : ∀ (m n : Nat) (d q pre : List Int), BfsI g some' d q -> negs d + q.length <= m -> m < n -> (b : Int) -> (∀ v, inG g.length v -> dAt d v <= b) -> b + m <= 50000 -> m <= 50000 ->
   L178_6 k n G g.length pre.length q.length (encZ d) (encZ (pre ++ q)) = r178 (encZ (bOut g m d q))
 | m, 0, d, q, pre, hI, hm, hn, b, hb, hbm, hm5 => by omega
 | m, n + 1, d, [], pre, hI, hm, hn, b, hb, hbm, hm5 => by
   rw [sL178_6]
   have e : bOut g m d [] = d := by unfold bOut; rfl
   have e2 : (encZ d).take g.length = encZ d := by rw [List.take_of_length_le (by simp [hI.len])]
   rw [e2, e]
   rfl
 | 0, n + 1, d, h :: t, pre, hI, hm, hn, b, hb, hbm, hm5 => by simp at hm
 | m + 1, n + 1, d, h :: t, pre, hI, hm, hn, b, hb, hbm, hm5 => by
   have hh := hI.rng h (by simp)
   have hp : decide ((((h :: t).length : Nat) : Int) > 0) = true := decide_eq_true (by rw [List.length_cons]; omega)
   have hp2 : decide ((0 : Int) < (((h :: t).length : Nat) : Int)) = true := hp
   have hp3 : (decide ((1 : Int) <= (((h :: t).length : Nat) : Int)) && decide ((((h :: t).length : Nat) : Int) <= (((h :: t).length : Nat) : Int))) = true := by
     rw [decide_eq_true (by rw [List.length_cons]; omega), decide_eq_true (by omega)]
     rfl
   have hget : (encZ (pre ++ (h :: t)))[pre.length]? = some (PV.int .i64 h) := by rw [encZ_get]; simp
   obtain ⟨t', r1, r2, r3, r4, r5⟩ := bIn_spec hg hs h (atL g h.toNat) d t hI (fun x hx => hx)
   have hlen := hgl h.toNat
   have hml : (h :: t).length <= m + 1 := by omega
   have hml2 : t.length <= m := by simp at hml; omega
   obtain ⟨n, rfl⟩ : ∃ j, n = j + 1 := ⟨n - 1, by omega⟩
   obtain ⟨pre', h5⟩ := far4 (k := k) (G := G) h n g.length (atL g h.toNat) hlen (fun w hw => hg _ w hw) hN k 0 d (pre ++ [h]) t (by omega) (by omega) hI.len hh (by omega) (hI.vis h (by simp)) (by have := hb h hh; omega)
   rw [sL178_6, hp, hget, hp3]
   simp only [cond_true, Option.bind_some, int_atInt]
   rw [hG.bind hh]
   have hcons := bIn_cons h h (atL g h.toNat) d t
   rw [hcons] at r1
   have e2' : (bIn h (atL g h.toNat) d t).2 = t' := (List.cons.inj r1).2
   have e1' : (bIn h (atL g h.toNat) d (h :: t)).1 = (bIn h (atL g h.toNat) d t).1 := by rw [hcons]
   rw [List.drop_zero, e2'] at h5
   have e3 : (pre ++ [h]).length = pre.length + 1 := by simp
   have e4 : pre ++ h :: t = (pre ++ [h]) ++ t := by simp
   have h5' : L178_4 k (n + 1) k G g.length (pre.length + 1) ((h :: t).length - 1) h (encZ (atL g h.toNat)) ((atL g h.toNat).length : Int) 0 (encZ d) (encZ (pre ++ h :: t)) = L178_6 k (n + 1) G g.length pre'.length t'.length (encZ (bIn h (atL g h.toNat) d t).1) (encZ (pre' ++ t')) := by
     rw [e4, <- e3]
     exact h5
   rw [encZ_length, h5', bOut]
   have hbd := hb h hh
   have e5 : (bIn h (atL g h.toNat) d (h :: t)).2 = h :: t' := by rw [hcons, e2']
   rw [e5, e1']
   simp only [List.length_cons, List.drop_succ_cons, List.drop_zero] at hm ⊢
   rw [e1'] at r2 r3 r4 r5
   refine far6 hk hG hN hgl hg hs m (n + 1) _ t' pre' (bPop hg r2 r4) (by omega) (by omega) (b + 1) (fun v hv => ?_) (by omega) (by omega)
   have h1 := r2.bnd h t' rfl v hv
   rw [r3 h hh (hI.vis h (by simp))] at h1
   omega
theorem far2 {k : Nat} (hk : 1 <= k) {G : List PV} {N : Nat} (hN : N <= 1000) (l : List Int) (hll : l.length <= 1000) (hl : ∀ w ∈ l, inG N w) : ∀ (n j : Nat) (d : List Int), l.length - j < n -> j <= l.length -> d.length = N ->
   L178_2 k n G (encZ l) N (encZ l) (l.length : Int) (j : Int) (encZ d) = L178_3 k k G N l.length (encZ (bSt (l.drop j) d)) (encZ l)
 | 0, j, d, hn, hj, hd => by omega
 | n + 1, j, d, hn, hj, hd => by
   rw [sL178_2]
   by_cases hlt : j < l.length
   · have hdj : decide ((j : Int) < (l.length : Int)) = true := by simpa using hlt
     have hnext : IntKind.i64.wrap ((j : Int) + 1) = ((j + 1 : Nat) : Int) := by rw [i64_id (by omega) (by omega)]; omega
     have hw := hl _ (List.getElem_mem hlt)
     rw [hdj, encZ_lookup hlt, hnext, drop_cons hlt, bSt]
     simp only [cond_true, Option.bind_some, int_atInt]
     rw [inG_dec hw, encZ_at (d := d) (v := l[j]) (by rw [hd]; exact hw)]
     simp only [cond_true, Option.bind_some]
     rw [Nat.zero_add, encZ_set]
     exact far2 hk hN l hll hl n (j + 1) _ (by omega) (by omega) (by rw [List.length_set]; exact hd)
   · have hdj : decide ((j : Int) < (l.length : Int)) = false := by simpa using hlt
     rw [hdj, List.drop_eq_nil_of_le (by omega), own_ok hk l hll]
     simp only [cond_false, R196_r, encZ_length]
     rfl
theorem far1 {k : Nat} {G : List PV} {N : Nat} (hN : N <= 1000) (l : List Int) : ∀ (n j : Nat), N - j < n -> j <= N ->
   L178_1 k n G (encZ l) N (N : Int) (j : Int) (encZ (List.replicate j (-1) ++ List.replicate (N - j) 0)) = L178_2 k k G (encZ l) N (encZ l) (l.length : Int) 0 (encZ (List.replicate N (-1)))
 | 0, j, hn, hj => by omega
 | n + 1, j, hn, hj => by
   rw [sL178_1]
   by_cases hlt : j < N
   · have hdj : decide ((j : Int) < (N : Int)) = true := by simpa using hlt
     have hnext : IntKind.i64.wrap ((j : Int) + 1) = ((j + 1 : Nat) : Int) := by rw [i64_id (by omega) (by omega)]; omega
     have hg : (decide ((0 : Int) <= (j : Int)) && true) = true := by rw [decide_eq_true (by omega)]; rfl
     obtain ⟨m, hm⟩ : ∃ m, N - j = m + 1 := ⟨N - j - 1, by omega⟩
     have hat : ∃ z, (encZ (List.replicate j (-1) ++ List.replicate (N - j) 0))[0 + (j : Int).toNat]? = some z :=
       ⟨_, List.getElem?_eq_getElem (by simp; omega)⟩
     obtain ⟨z, hz⟩ := hat
     have hset : (List.replicate j (-1 : Int) ++ List.replicate (N - j) 0).set j (-1) = List.replicate (j + 1) (-1) ++ List.replicate (N - (j + 1)) 0 := by
       rw [List.set_append_right _ _ (by simp), List.length_replicate, Nat.sub_self, hm, List.replicate_succ, List.set_cons_zero, List.replicate_succ', show N - (j + 1) = m by omega, List.append_assoc]
       rfl
     rw [hdj, hg, hz, hnext]
     simp only [cond_true, Option.bind_some, Nat.zero_add, Int.toNat_natCast]
     rw [encZ_set, hset]
     exact far1 hN l n (j + 1) (by omega) (by omega)
   · have hdj : decide ((j : Int) < (N : Int)) = false := by simpa using hlt
     have e : j = N := by omega
     subst e
     rw [hdj, Nat.sub_self, List.replicate_zero, List.append_nil, encZ_length]
     rfl
theorem far_ok {k : Nat} (hk : 3000 <= k) {G : List PV} {g : List (List Int)} (hG : GrF G g) (hN : g.length <= 1000) (hgl : ∀ i, (atL g i).length <= 1000) {l : List Int} (hll : l.length <= 500) (hg : ∀ (i : Nat) (x : Int), x ∈ atL g i -> inG g.length x) (hs : ∀ x ∈ l, inG g.length x) :
   c178 k G (encZ l) = r178 (encZ (stepsL g l)) := by
 obtain ⟨k, rfl⟩ : ∃ j, k = j + 1 := ⟨k - 1, by omega⟩
 obtain ⟨k', rfl⟩ : ∃ j, k = j + 1 := ⟨k - 1, by omega⟩
 have hgd : (((G.length : Int) == (G.length : Int)) && decide ((0 : Int) <= (G.length : Int)) && decide (G.length * 8 <= LIM) && decide (G.length <= LIM)) = true := by
   have := hG.len
   have q1 : decide (G.length * 8 <= LIM) = true := decide_eq_true (by unfold LIM; omega)
   have q2 : decide (G.length <= LIM) = true := decide_eq_true (by unfold LIM; omega)
   rw [q1, q2]
   simp
 have he : List.replicate g.length (PV.int .i64 0) = encZ (List.replicate 0 (-1) ++ List.replicate (g.length - 0) 0) := by simp [encZ]
 have h1 := far1 (k := k' + 1) (G := G) (N := g.length) hN l (k' + 1) 0 (by omega) (by omega)
 have h2 := far2 (k := k' + 1) (by omega) (G := G) (N := g.length) hN l (by omega) hs (k' + 1) 0 (List.replicate g.length (-1)) (by omega) (by omega) (by simp)
 rw [n178, hgd, hG.len, he]
 have h1' : L178_1 (k' + 1) (k' + 1) G (encZ l) g.length (g.length : Int) 0 (encZ (List.replicate 0 (-1) ++ List.replicate (g.length - 0) 0)) = _ := h1
 have h2' : L178_2 (k' + 1) (k' + 1) G (encZ l) g.length (encZ l) (l.length : Int) 0 (encZ (List.replicate g.length (-1))) = _ := h2
 simp only [cond_true]
 rw [h1', h2', List.drop_zero, far36]
 have hI := bfs_start (g := g) hs
 have hneg := negs_le (bSt l (List.replicate g.length (-1)))
 have hlen := hI.len
 refine far6 (by omega) hG hN hgl hg hs (l.length + g.length) (k' + 1) _ l [] hI (by omega) (by omega) 0 (fun v hv => ?_) (by omega) (by omega)
 rw [(bSt_spec l (List.replicate g.length (-1)) (fun v hv => by simpa using hs v hv)).2 v hv.1, dAt_rep]
 split <;> omega
theorem reach11_loop {k : Nat} (d : List Int) (hl : d.length <= 1000) : ∀ (n i : Nat) (o : List Int), d.length - i < n -> i <= d.length -> o.length <= i ->
   L123_1 k n o.length (encZ d) (d.length : Int) (i : Int) (encZ o) = r123 (encZ (o ++ nnF (d.drop i) i))
 | 0, i, o, h, hi, ho => by omega
 | n + 1, i, o, h, hi, ho => by
   rw [sL123_1, encZ_tk]
   by_cases hlt : i < d.length
   · have hd : decide ((i : Int) < (d.length : Int)) = true := by simpa using hlt
     have hnext : IntKind.i64.wrap ((i : Int) + 1) = ((i + 1 : Nat) : Int) := by rw [i64_id (by omega) (by omega)]; omega
     rw [hd, encZ_lookup hlt, drop_cons hlt, hnext]
     simp only [cond_true, Option.bind_some, int_atInt, nnF, ge_iff_le]
     cases hc : decide (0 <= d[i])
     · simp only [cond_false]
       exact reach11_loop d hl n (i + 1) o (by omega) (by omega) (by omega)
     · simp only [cond_true]
       rw [lim_ok (by omega) (by omega), encZ_snoc]
       have := reach11_loop (k := k) d hl n (i + 1) (o ++ [(i : Int)]) (by omega) (by omega) (by simp; omega)
       rw [List.length_append, List.append_assoc] at this
       exact this
   · have hd : decide ((i : Int) < (d.length : Int)) = false := by simpa using hlt
     rw [hd, List.drop_eq_nil_of_le (by omega)]
     simp [nnF]
theorem reach11_ok {k : Nat} (hk : 4000 <= k) {G : List PV} {g : List (List Int)} (hG : GrF G g) (hN : g.length <= 1000) (hgl : ∀ i, (atL g i).length <= 1000) {l : List Int} (hll : l.length <= 500) (hg : ∀ (i : Nat) (x : Int), x ∈ atL g i -> inG g.length x) (hs : ∀ x ∈ l, inG g.length x) :
   c123 k G (encZ l) = r123 (encZ (rfL g l)) := by
 obtain ⟨k, rfl⟩ : ∃ j, k = j + 1 := ⟨k - 1, by omega⟩
 have h1 := (stepsL_spec hg hs).1
 rw [n123, far_ok (by omega) hG hN hgl hll hg hs]
 simp only [R178_r, encZ_length]
 have := reach11_loop (k := k) (stepsL g l) (by omega) k 0 [] (by omega) (by omega) (by simp)
 rw [List.drop_zero, List.nil_append] at this
 exact this
theorem graph17_loop {k : Nat} (hk : 1000500 <= k) {p : Prg} (hp : FitP p) (hs : smallP p = true) (l1 : List PV) {v : List Int} (hv : OkV v) (hn : v.length = nS p) (hg : goodF v 0 = true) : ∀ (n i : Nat) (o : List (List Int)), (manyF v 0).toNat - i < n -> i <= (manyF v 0).toNat -> o.length <= i ->
   L55_1 k n o.length (i : Int) p.wide p.vars l1 (encCms p.cmds) (encZ v) (encZZ o) = r55 (encZZ (o ++ clGF p v ((manyF v 0).toNat - i) i))
 | 0, i, o, h, hi, ho => by omega
 | n + 1, i, o, h, hi, ho => by
   have hml := many_le hg
   have hvl := hv.len
   have etk : (encZZ o).take o.length = encZZ o := List.take_of_length_le (by simp)
   rw [sL55_1, etk, many15_ok (by omega) (by omega) hg]
   simp only [R117_r]
   by_cases hlt : i < (manyF v 0).toNat
   · have hd : decide ((i : Int) < manyF v 0) = true := decide_eq_true (by omega)
     have hnext : IntKind.i64.wrap ((i : Int) + 1) = ((i + 1 : Nat) : Int) := by rw [i64_id (by omega) (by omega)]; omega
     obtain ⟨m, hm⟩ : ∃ m, (manyF v 0).toNat - i = m + 1 := ⟨(manyF v 0).toNat - i - 1, by omega⟩
     rw [hd, hnext, hm, steps17_ok hk hp hs l1 hv hn]
     simp only [cond_true, R89_r, clGF]
     rw [lim_ok (by omega) (by omega), encZZ_snoc]
     have := graph17_loop hk hp hs l1 hv hn hg n (i + 1) (o ++ [stpL p v (i : Int)]) (by omega) (by omega) (by simp; omega)
     rw [List.length_append, List.append_assoc, show (manyF v 0).toNat - (i + 1) = m by omega] at this
     exact this
   · have hd : decide ((i : Int) < manyF v 0) = false := decide_eq_false (by omega)
     rw [hd, show (manyF v 0).toNat - i = 0 by omega]
     simp [clGF]
theorem graph17_ok {k : Nat} (hk : 1000600 <= k) {p : Prg} (hp : FitP p) (hs : smallP p = true) (l1 : List PV) {v : List Int} (hv : OkV v) (hn : v.length = nS p) (hg : goodF v 0 = true) : c55 k p.wide p.vars l1 (encCms p.cmds) (encZ v) = r55 (encZZ (clG p v)) := by
 obtain ⟨k, rfl⟩ : ∃ j, k = j + 1 := ⟨k - 1, by omega⟩
 have hml := many_le hg
 have hvl := hv.len
 rw [n55]
 exact graph17_loop (k := k) (by omega) hp hs l1 hv hn hg k 0 [] (by omega) (by omega) (by simp)
theorem reach17_ok {k : Nat} (hk : 1000700 <= k) {p : Prg} (hp : FitP p) (hs : smallP p = true) {v : List Int} (hv : OkV v) (hn : v.length = nS p) (hg : goodF v 0 = true) : c61 k p.wide p.vars (encT p.start) (encCms p.cmds) (encZ v) = r61 (encZ (reachC p v)) := by
 obtain ⟨k, rfl⟩ : ∃ j, k = j + 1 := ⟨k - 1, by omega⟩
 have hml := many_le hg
 have hvl := hv.len
 have hst := hp.st
 have hwl := whI_len hs p.start
 have hsl : (starts17 p v).length <= v.length := clV_len hg (wh_inG hn p.start)
 rw [n61, graph17_ok (by omega) hp hs _ hv hn hg]
 simp only [R55_r]
 rw [those_ok (by omega) hs _ _ p.start (by omega) (startK hs)]
 simp only [R59_r]
 rw [cl17_ok (by omega) hv _ (wh_inG hn p.start) (by omega)]
 simp only [R58_r]
 have hro := clG_rows hp hs hv hn hg
 have := reach11_ok (k := k) (by omega) (encZZ_fit (clG p v)) (by rw [clG_len]; omega) (fun i => (hro i).1) (l := starts17 p v) (by omega) (fun i x hx => (hro i).2 x hx) (starts_in hn hg)
 rw [show clV v (whI p p.start) = starts17 p v from rfl, this]
 simp only [R123_r]
 rfl
theorem reachC_len {p : Prg} (hp : FitP p) (hs : smallP p = true) {v : List Int} (hv : OkV v) (hn : v.length = nS p) (hg : goodF v 0 = true) : (reachC p v).length <= 100 := by
 have hml := many_le hg
 have hvl := hv.len
 have hro := clG_rows hp hs hv hn hg
 have h1 := (stepsL_spec (g := clG p v) (some := starts17 p v) (fun i x hx => (hro i).2 x hx) (starts_in hn hg)).1
 have h2 := nnF_len (stepsL (clG p v) (starts17 p v)) 0
 rw [clG_len] at h1
 have h3 : (reachC p v).length = (nnF (stepsL (clG p v) (starts17 p v)) 0).length := rfl
 omega
end Go.Proofs.YthoecdnmokcfbaaGreat
