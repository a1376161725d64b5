/- Values of terms. -/
import Derived.Test.YtocmjgfbcpgaoaaKg
set_option linter.unusedVariables false
set_option linter.unusedSimpArgs false
set_option maxRecDepth 4000
namespace Go.Proofs.Ytocmjgfbcpgaoaa
open Go.Dp

def mk (wide : Int) : W := maskB wide.toNat
def tr (b : Bool) : W := if b then 1#64 else 0#64
def shW (wide : Int) (a b : W) (left : Bool) : W := if wide ≤ wi b then 0#64 else if left then (a <<< b.toNat) &&& mk wide else a >>> b.toNat
def sgn (wide : Int) (a : W) : Int := shrI .i64 (IntKind.i64.wrap (wi (a <<< (64 - wide).toNat))) (64 - wide)
def divW (wide : Int) (a b : W) : W × W := if goodW wide a && goodW wide b then (if b = 0#64 then (mk wide, a) else (a / b, a % b)) else (0#64, 0#64)
def apRaw (wide op : Int) (a b : W) : W :=
  if op = 3 then a + b else if op = 4 then a - b else if op = 5 then a * b else if op = 6 then (divW wide a b).1 else if op = 7 then (divW wide a b).2
  else if op = 8 then a &&& b else if op = 17 then a &&& b else if op = 9 then a ||| b else if op = 18 then a ||| b else if op = 10 then a ^^^ b
  else if op = 11 then shW wide a b true else if op = 12 then shW wide a b false else if op = 14 then tr (a == b) else if op = 15 then tr (decide (a < b))
  else if op = 16 then tr (decide (sgn wide a < sgn wide b)) else 0#64
def apW (wide op : Int) (a b : W) : W := apRaw wide op a b &&& mk wide

theorem truth_ok {k : Nat} (hk : 1 ≤ k) (b : Bool) : c63 k b = r63 (wi (tr b)) := by
  obtain ⟨k, rfl⟩ : ∃ j, k = j + 1 := ⟨k - 1, by omega⟩
  rw [n63]
  cases b <;> rfl
theorem mk_ok {k : Nat} (hk : 1 ≤ k) {wide : Int} (h : isW wide = true) : c45 k wide = r45 (wi (mk wide)) := by
  have := isW_iff.1 h
  exact mask_ok hk (by omega) (by omega)
theorem shift_ok {k : Nat} (hk : 2 ≤ k) {wide : Int} (h : isW wide = true) (a b : W) (left : Bool) : c62 k wide (wi a) (wi b) left = r62 (wi (shW wide a b left)) := by
  obtain ⟨k, rfl⟩ : ∃ j, k = j + 1 := ⟨k - 1, by omega⟩
  have h' := isW_iff.1 h
  rw [n62, u64_id (by omega) (by omega)]
  unfold shW
  by_cases h1 : wide ≤ wi b
  · have : decide (wi b ≥ wide) = true := by simpa using h1
    simp only [this, cond_true, h1, if_true]
    rfl
  · have h2 : decide (wi b ≥ wide) = false := by simpa using h1
    have h3 : decide (wi b < 0) = false := by have := wi_nonneg b; simp; omega
    simp only [h2, h3, cond_false, h1, if_false, Bool.not_false, cond_true]
    cases left
    · simp only [cond_false, Bool.false_eq_true, if_false]
      rw [shr_wi _ (wi_nonneg b)]
      simp [wi]
    · simp only [cond_true, if_true]
      rw [mk_ok (by omega) h]
      simp only [R45_r]
      rw [shl_wi _ (wi_nonneg b), and_wi]
      simp [wi]
theorem signed_ok {k : Nat} (hk : 1 ≤ k) {wide : Int} (h : isW wide = true) (a : W) : c64 k wide (wi a) = r64 (sgn wide a) := by
  obtain ⟨k, rfl⟩ : ∃ j, k = j + 1 := ⟨k - 1, by omega⟩
  have h' := isW_iff.1 h
  rw [n64, i64_id (n := 64 - wide) (by omega) (by omega)]
  have h3 : decide (64 - wide < 0) = false := by simp; omega
  simp only [h3, Bool.not_false, cond_true]
  rw [shl_wi _ (by omega)]
  rfl
theorem div64_ok {k : Nat} (hk : 1 ≤ k) (a b : W) (hb : b ≠ 0#64) : c75 k 0 (wi a) (wi b) = r75 (wi (a / b)) (wi (a % b)) := by
  obtain ⟨k, rfl⟩ : ∃ j, k = j + 1 := ⟨k - 1, by omega⟩
  rw [n75]
  have hb0 : b.toNat ≠ 0 := fun h => hb (BitVec.eq_of_toNat_eq (by simpa using h))
  have h1 : (wi b == 0) = false := by unfold wi; simp; omega
  have h2 : decide (wi b ≤ 0) = false := by unfold wi; simp; omega
  have h3 : ((0 : Int) == 0) = true := rfl
  simp only [h1, h2, h3, cond_false, cond_true, Bool.not_false]
  have e1 : (wi a).tdiv (wi b) = wi (a / b) := by
    unfold wi
    rw [Int.tdiv_eq_ediv_of_nonneg (by omega), BitVec.toNat_udiv, Int.natCast_ediv]
  have e2 : (wi a).tmod (wi b) = wi (a % b) := by
    unfold wi
    rw [Int.tmod_eq_emod_of_nonneg (by omega), BitVec.toNat_umod, Int.natCast_emod]
  rw [e1, e2, wrap_wi]
theorem areWords_ok {k : Nat} (hk : 3 ≤ k) (wide : Int) (a b : W) : c74 k wide (wi a) (wi b) = r74 (goodW wide a && goodW wide b) := by
  obtain ⟨k, rfl⟩ : ∃ j, k = j + 1 := ⟨k - 1, by omega⟩
  rw [n74, goodWord_ok (by omega), goodWord_ok (by omega)]
  simp only [R40_r]
  cases goodW wide a <;> rfl
theorem divWord_ok {k : Nat} (hk : 4 ≤ k) {wide : Int} (h : isW wide = true) (a b : W) : c61 k wide (wi a) (wi b) = r61 (wi (divW wide a b).1) (wi (divW wide a b).2) (goodW wide a && goodW wide b) := by
  obtain ⟨k, rfl⟩ : ∃ j, k = j + 1 := ⟨k - 1, by omega⟩
  rw [n61, areWords_ok (by omega)]
  simp only [R74_r]
  unfold divW
  cases h1 : (goodW wide a && goodW wide b)
  · rfl
  · simp only [Bool.not_true, cond_false, if_true]
    by_cases hb : b = 0#64
    · subst hb
      have e : (wi 0#64 == 0) = true := rfl
      simp only [e, cond_true, if_true]
      rw [mk_ok (by omega) h]
      simp only [R45_r]
    · have h2 : (wi b == 0) = false := by
        have e : (0 : Int) = wi 0#64 := rfl
        rw [e, wi_beq]; simpa using hb
      simp only [h2, cond_false, hb, if_false]
      rw [div64_ok (by omega) a b hb]
      simp only [R75_r]
theorem apply_ok {k : Nat} (hk : 5 ≤ k) {wide : Int} (h : isW wide = true) (op : Int) (a b : W) : c46 k wide op (wi a) (wi b) = r46 (wi (apW wide op a b)) := by
  obtain ⟨k, rfl⟩ : ∃ j, k = j + 1 := ⟨k - 1, by omega⟩
  rw [n46]
  have hm := mk_ok (k := k) (by omega) h
  have hd := divWord_ok (k := k) (by omega) h a b
  have hs := fun l => shift_ok (k := k) (by omega) h a b l
  have ht := fun x => truth_ok (k := k) (by omega) x
  have hg := fun x => signed_ok (k := k) (by omega) h x
  simp only [hm, hd, hs, ht, hg, R45_r, R61_r, R62_r, R63_r, R64_r, add_wi, sub_wi, mul_wi, and_wi, or_wi, xor_wi, wi_beq, wi_lt_iff]
  unfold apW apRaw
  by_cases h1 : op = 3
  · subst h1; rfl
  by_cases h2 : op = 4
  · subst h2; rfl
  by_cases h3 : op = 5
  · subst h3; rfl
  by_cases h4 : op = 6
  · subst h4; rfl
  by_cases h5 : op = 7
  · subst h5; rfl
  by_cases h6 : op = 8
  · subst h6; rfl
  by_cases h7 : op = 17
  · subst h7; rfl
  by_cases h8 : op = 9
  · subst h8; rfl
  by_cases h9 : op = 18
  · subst h9; rfl
  by_cases h10 : op = 10
  · subst h10; rfl
  by_cases h11 : op = 11
  · subst h11; rfl
  by_cases h12 : op = 12
  · subst h12; rfl
  by_cases h13 : op = 14
  · subst h13; rfl
  by_cases h14 : op = 15
  · subst h14; rfl
  by_cases h15 : op = 16
  · subst h15; rfl
  have q : ∀ c : Int, op ≠ c → (op == c) = false := fun c hc => by simpa using hc
  simp only [q _ h1, q _ h2, q _ h3, q _ h4, q _ h5, q _ h6, q _ h7, q _ h8, q _ h9, q _ h10, q _ h11, q _ h12, q _ h13, q _ h14, q _ h15, cond_false, h1, h2, h3, h4, h5, h6, h7, h8, h9, h10, h11, h12, h13, h14, h15, if_false]
  have e : (0 : Int) = wi 0#64 := rfl
  rw [e, and_wi]

/-! ### The pile of values -/
def vrun (wide : Int) (state : List W) : List Nd → List W → Option (List W)
  | [], vs => some vs
  | x :: t, vs =>
    if x.1 = 1 ∨ x.1 = 20 then vrun wide state t (x.2 :: vs)
    else if x.1 = 2 then (state[x.2.toNat]?).bind fun s => vrun wide state t (s :: vs)
    else if x.1 = 13 then match vs with
      | a :: r => vrun wide state t ((~~~a &&& mk wide) :: r)
      | [] => none
    else if x.1 = 19 then match vs with
      | a :: r => vrun wide state t ((1#64 - a) :: r)
      | [] => none
    else match vs with
      | b :: a :: r => vrun wide state t (apW wide x.1 a b :: r)
      | _ => none
theorem encW_top {a : W} {r : List W} : (encW (a :: r).reverse)[r.length]? = some (.int .u64 (wi a)) := by rw [encW_get]; simp
theorem encW_top2 {a b : W} {r : List W} : (encW (b :: a :: r).reverse)[r.length]? = some (.int .u64 (wi a)) := by rw [encW_get]; simp
theorem encW_set {a b : W} {r : List W} : (encW (a :: r).reverse).set r.length (.int .u64 (wi b)) = encW (b :: r).reverse := by
  simp [encW]
theorem val_loop {k : Nat} (hk : 100 ≤ k) {wide : Int} (hw : isW wide = true) (state : List W) (t : List Nd) (ht : t.length ≤ 100000) (v : W) : ∀ (n i : Nat) (vs : List W), t.length - i < n → i ≤ t.length → vs.length ≤ i → vrun wide state (t.drop i) vs = some [v] →
    L20_1 k n wide (encW state) vs.length (encT t) (t.length : Int) (i : Int) (encW vs.reverse) = r20 (wi v)
  | 0, i, vs, h, hi, hs, hv => by omega
  | n + 1, i, vs, h, hi, hs, hv => by
    rw [sL20_1]
    by_cases hlt : i < t.length
    · have hd : decide ((i : Int) < (t.length : Int)) = true := by simpa using hlt
      rw [hd, lookT hlt]
      rw [drop_cons hlt] at hv
      generalize t[i] = x at hv
      simp only [cond_true, Option.bind_some, encN_shp, encN_op, encN_n]
      have hnext : IntKind.i64.wrap ((i : Int) + 1) = ((i + 1 : Nat) : Int) := by rw [i64_id (by omega) (by omega)]; omega
      rw [hnext]
      have push : ∀ a : W, (encW vs.reverse).take vs.length ++ [PV.int .u64 (wi a)] = encW (a :: vs).reverse := by
        intro a
        rw [List.take_of_length_le (by simp), encW_snoc]
        simp
      have ih := fun (vs : List W) (h1 : vs.length ≤ i + 1) (h2 : vrun wide state (t.drop (i + 1)) vs = some [v]) => val_loop hk hw state t ht v n (i + 1) vs (by omega) (by omega) h1 h2
      simp only [vrun] at hv
      have hlim : (decide ((vs.length + 1) * 8 ≤ LIM) && decide (vs.length + 1 ≤ LIM)) = true := lim_ok (by omega) (by omega)
      by_cases h1 : x.1 = 1
      · have e1 : (x.1 == 1) = true := by simpa using h1
        simp only [e1, cond_true, hlim, push]
        rw [if_pos (.inl h1)] at hv
        exact ih (x.2 :: vs) (by simp; omega) hv
      have e1 : (x.1 == 1) = false := by simpa using h1
      by_cases h2 : x.1 = 20
      · have e2 : (x.1 == 20) = true := by simpa using h2
        simp only [e1, e2, cond_true, cond_false, hlim, push]
        rw [if_pos (.inr h2)] at hv
        exact ih (x.2 :: vs) (by simp; omega) hv
      have e2 : (x.1 == 20) = false := by simpa using h2
      rw [if_neg (by simp [h1, h2])] at hv
      by_cases h3 : x.1 = 2
      · have e3 : (x.1 == 2) = true := by simpa using h3
        rw [if_pos h3] at hv
        obtain ⟨s, hst, hv⟩ := Option.bind_eq_some_iff.1 hv
        simp only [e1, e2, e3, cond_true, cond_false, hlim]
        rw [lookP_int (wi_nonneg _), encW_get]
        have e4 : (wi x.2).toNat = x.2.toNat := by simp [wi]
        rw [e4, hst]
        simp only [Option.map_some, Option.bind_some, int_atInt, push]
        exact ih (s :: vs) (by simp; omega) hv
      have e3 : (x.1 == 2) = false := by simpa using h3
      rw [if_neg h3] at hv
      by_cases h4 : x.1 = 13
      · have e4 : (x.1 == 13) = true := by simpa using h4
        rw [if_pos h4] at hv
        cases vs with
        | nil => cases hv
        | cons a r =>
          simp only at hv
          have hlen : IntKind.i64.wrap (((a :: r).length : Int) - 1) = (r.length : Int) := by simp only [List.length_cons] at hs ⊢; rw [i64_id (by omega) (by omega)]; omega
          have hb : (decide ((0 : Int) ≤ (r.length : Int)) && decide ((r.length : Int) < ((a :: r).length : Int))) = true := by simp; omega
          simp only [e1, e2, e3, e4, cond_true, cond_false, hlen, hb, Int.toNat_natCast, Nat.zero_add, encW_top, Option.bind_some, int_atInt]
          rw [mk_ok (by omega) hw]
          simp only [R45_r]
          have ex : (18446744073709551615 : Int) = wi (BitVec.allOnes 64) := rfl
          rw [ex, xor_wi, and_wi, BitVec.allOnes_xor, encW_set]
          exact ih ((~~~a &&& mk wide) :: r) (by simp at hs ⊢; omega) hv
      have e4 : (x.1 == 13) = false := by simpa using h4
      rw [if_neg h4] at hv
      by_cases h5 : x.1 = 19
      · have e5 : (x.1 == 19) = true := by simpa using h5
        rw [if_pos h5] at hv
        cases vs with
        | nil => cases hv
        | cons a r =>
          simp only at hv
          have hlen : IntKind.i64.wrap (((a :: r).length : Int) - 1) = (r.length : Int) := by simp only [List.length_cons] at hs ⊢; rw [i64_id (by omega) (by omega)]; omega
          have hb : (decide ((0 : Int) ≤ (r.length : Int)) && decide ((r.length : Int) < ((a :: r).length : Int))) = true := by simp; omega
          simp only [e1, e2, e3, e4, e5, cond_true, cond_false, hlen, hb, Int.toNat_natCast, Nat.zero_add, encW_top, Option.bind_some, int_atInt]
          have ex : (1 : Int) = wi 1#64 := rfl
          rw [ex, sub_wi, encW_set]
          exact ih ((1#64 - a) :: r) (by simp at hs ⊢; omega) hv
      have e5 : (x.1 == 19) = false := by simpa using h5
      rw [if_neg h5] at hv
      rcases vs with _ | ⟨b, _ | ⟨a, r⟩⟩
      · cases hv
      · cases hv
      · simp only at hv
        have hlen : IntKind.i64.wrap (((b :: a :: r).length : Int) - 1) = ((r.length + 1 : Nat) : Int) := by simp only [List.length_cons] at hs ⊢; rw [i64_id (by omega) (by omega)]; omega
        have hlen2 : IntKind.i64.wrap (((r.length + 1 : Nat) : Int) - 1) = (r.length : Int) := by simp only [List.length_cons] at hs; rw [i64_id (by omega) (by omega)]; omega
        have hb : (decide ((0 : Int) ≤ (r.length : Int)) && decide ((r.length : Int) < ((b :: a :: r).length : Int))) = true := by simp; omega
        have hb2 : (decide ((0 : Int) ≤ (r.length : Int)) && decide ((r.length : Int) ≤ ((b :: a :: r).length : Int))) = true := by simp; omega
        have hb3 : (decide ((0 : Int) ≤ ((r.length + 1 : Nat) : Int)) && decide (((r.length + 1 : Nat) : Int) < ((b :: a :: r).length : Int))) = true := by simp; omega
        have ht1 : (encW (b :: a :: r).reverse)[r.length + 1]? = some (.int .u64 (wi b)) := encW_top (a := b) (r := a :: r)
        simp only [e1, e2, e3, e4, e5, cond_true, cond_false, hlen, hlen2, hb, hb2, hb3, Int.toNat_natCast, Nat.zero_add, encW_top2, ht1, Option.bind_some, int_atInt]
        rw [apply_ok (by omega) hw]
        simp only [R46_r]
        have hlim2 : (decide ((r.length + 1) * 8 ≤ LIM) && decide (r.length + 1 ≤ LIM)) = true := lim_ok (by simp at hs; omega) (by omega)
        have hp : (encW (b :: a :: r).reverse).take r.length ++ [PV.int .u64 (wi (apW wide x.1 a b))] = encW (apW wide x.1 a b :: r).reverse := by
          rw [encW_take, encW_snoc]
          simp
        rw [hlim2, hp]
        exact ih (apW wide x.1 a b :: r) (by simp at hs ⊢; omega) hv
    · have hd : decide ((i : Int) < (t.length : Int)) = false := by simpa using hlt
      rw [hd]
      rw [List.drop_eq_nil_of_le (by omega)] at hv
      simp only [vrun] at hv
      injection hv with hv
      subst hv
      rfl
theorem valueOf_ok {k : Nat} (hk : 200000 ≤ k) {wide : Int} (hw : isW wide = true) (state : List W) (t : List Nd) (ht : t.length ≤ 100000) {v : W} (hv : vrun wide state t [] = some [v]) : c20 k wide (encT t) (encW state) = r20 (wi v) := by
  obtain ⟨k, rfl⟩ : ∃ j, k = j + 1 := ⟨k - 1, by omega⟩
  rw [n20, encT_length]
  exact val_loop (by omega) hw state t ht v k 0 [] (by omega) (by omega) (by simp) hv
end Go.Proofs.Ytocmjgfbcpgaoaa
