/- Good terms, by both texts. -/
import Derived.Test.YtocmjgfbcpgaoaaKe
set_option linter.unusedVariables false
set_option linter.unusedSimpArgs false
set_option maxRecDepth 4000
namespace Go.Proofs.Ytocmjgfbcpgaoaa
open Go.Dp

def kst (wide vars : Int) : List Nd → List Int → Option (List Int)
  | [], st => some st
  | x :: t, st =>
    if (need x.1).2.2 = 0 then none else if leafOK wide vars x = false then none else if st.length < (need x.1).1 then none
    else if (st.take (need x.1).1).any (· != (need x.1).2.1) then none else kst wide vars t ((need x.1).2.2 :: st.drop (need x.1).1)
def fin1 (o : Option (List Int)) : Bool := match o with | some [_] => true | _ => false
def kind1 (o : Option (List Int)) : Int := match o with | some [k] => k | _ => 0
def sizeT (wide vars : Int) (t : List Nd) : Bool := isW wide && isV vars && decide (1 ≤ t.length) && decide (t.length ≤ 48)
def goodT (wide vars : Int) (t : List Nd) : Bool := sizeT wide vars t && fin1 (kst wide vars t [])
def kindT (wide vars : Int) (t : List Nd) : Int := if sizeT wide vars t then kind1 (kst wide vars t []) else 0
theorem cast_eq {n m : Nat} (h : n = m) : (n : Int) = (m : Int) := by rw [h]

theorem idx_loop {k : Nat} (hk : 1 ≤ k) (l : List Int) (hl : l.length ≤ 1000000) (c : Int) : ∀ (n i : Nat), l.length - i < n → i ≤ l.length → ∃ v, L60_1 k n (encZ l) (l.length : Int) (i : Int) c = r60 c v ∧ decide (v ≥ 0) = (l.drop i).any (· != c)
  | 0, i, h, hi => by omega
  | n + 1, i, h, hi => by
    obtain ⟨k, rfl⟩ : ∃ j, k = j + 1 := ⟨k - 1, by omega⟩
    rw [sL60_1]
    by_cases hlt : i < l.length
    · have hd : decide ((i : Int) < (l.length : Int)) = true := by simpa using hlt
      rw [hd, lookP_nat, encZ_get, List.getElem?_eq_getElem hlt]
      simp only [cond_true, Option.map_some, Option.bind_some, int_atInt, n44, R44_r]
      rw [drop_cons hlt, List.any_cons]
      cases hne : (l[i] != c)
      · simp only [cond_false, Bool.false_or]
        rw [i64_id (by omega) (by omega)]
        exact idx_loop (k := k + 1) (by omega) l hl c n (i + 1) (by omega) (by omega)
      · simp only [cond_true, Bool.true_or]
        exact ⟨_, rfl, by simp⟩
    · have hd : decide ((i : Int) < (l.length : Int)) = false := by simpa using hlt
      rw [hd, List.drop_eq_nil_of_le (by omega)]
      exact ⟨_, rfl, by simp⟩
theorem contains_ok {k : Nat} (hk : 1000010 ≤ k) (l : List Int) (hl : l.length ≤ 1000000) (c : Int) : c43 k (encZ l) c = r43 c (l.any (· != c)) := by
  obtain ⟨k, rfl⟩ : ∃ j, k = j + 2 := ⟨k - 2, by omega⟩
  rw [n43, n60, encZ_length]
  obtain ⟨v, h, h2⟩ := idx_loop (k := k) (by omega) l hl c k 0 (by omega) (by omega)
  have h' : L60_1 k k (encZ l) (l.length : Int) 0 c = r60 c v := h
  rw [h']
  simp only [R60_r, h2, List.drop_zero]
theorem good_loop {k : Nat} (hk : 1000020 ≤ k) (wide vars : Int) (t : List Nd) (ht : t.length ≤ 100000) : ∀ (n i : Nat) (st : List Int), t.length - i < n → i ≤ t.length → st.length ≤ i →
    L19_1 k n wide vars st.length (encT t) (t.length : Int) (i : Int) (encZ st.reverse) = r19 (fin1 (kst wide vars (t.drop i) st))
  | 0, i, st, h, hi, hs => by omega
  | n + 1, i, st, h, hi, hs => by
    rw [sL19_1]
    by_cases hlt : i < t.length
    · have hd : decide ((i : Int) < (t.length : Int)) = true := by simpa using hlt
      rw [hd, lookT hlt, drop_cons hlt]
      simp only [cond_true, Option.bind_some, encN_shp, encN_op, encN_n]
      rw [operandsOf_ok (by omega), isLeafRight_ok (by omega) wide vars t[i]]
      simp only [R41_r, kst]
      have hn2 := need_le t[i].1
      by_cases h1 : (need t[i].1).2.2 = 0
      · simp [h1, fin1]
      · have h1' : ((need t[i].1).2.2 == 0) = false := by simpa using h1
        simp only [h1', cond_false, h1, if_false, R42_r]
        cases h2 : leafOK wide vars t[i]
        · simp [fin1]
        · have e1 : IntKind.i64.wrap ((st.length : Int) - ((need t[i].1).1 : Nat)) = (st.length : Int) - ((need t[i].1).1 : Nat) := i64_id (by omega) (by omega)
          rw [e1]
          simp only [Bool.not_true, cond_false, Bool.true_eq_false, if_false]
          by_cases h3 : st.length < (need t[i].1).1
          · have h3' : decide ((st.length : Int) - ((need t[i].1).1 : Nat) < 0) = true := by simp; omega
            simp [h3', h3, fin1]
          · have h3' : decide ((st.length : Int) - ((need t[i].1).1 : Nat) < 0) = false := by simp; omega
            have e2 : (st.length : Int) - ((need t[i].1).1 : Nat) = ((st.length - (need t[i].1).1 : Nat) : Int) := by omega
            rw [h3', e2]
            simp only [cond_false, h3, if_false, Int.toNat_natCast]
            have h4 : (decide ((0 : Int) ≤ ((st.length - (need t[i].1).1 : Nat) : Int)) && decide (((st.length - (need t[i].1).1 : Nat) : Int) ≤ (st.length : Int))) = true := by (simp; try omega)
            have h5 : decide ((st.length : Int) ≤ (st.length : Int)) = true := by simp
            rw [h4, h5]
            simp only [Bool.and_self, cond_true, Nat.zero_add]
            have e3 : ((encZ st.reverse).drop (st.length - (need t[i].1).1)).take (st.length - (st.length - (need t[i].1).1)) = encZ (st.take (need t[i].1).1).reverse := by
              rw [encZ_drop, encZ_take, List.drop_reverse]
              have : st.length - (st.length - (need t[i].1).1) = (need t[i].1).1 := by omega
              rw [this, List.take_of_length_le (by simp; omega)]
            rw [e3, contains_ok (by omega) _ (by simp; omega)]
            simp only [R43p_r, List.any_reverse]
            have e4 : (st.take (need t[i].1).1).any (· != needI t[i].1) = (st.take (need t[i].1).1).any (· != (need t[i].1).2.1) := by
              unfold needI
              by_cases h0 : (need t[i].1).1 = 0
              · simp [h0]
              · simp [h0]
            rw [e4]
            cases h6 : (st.take (need t[i].1).1).any (· != (need t[i].1).2.1)
            · simp only [cond_false, Bool.false_eq_true, if_false]
              rw [lim_ok (by omega) (by omega)]
              simp only [cond_true]
              have e5 : (encZ st.reverse).take (st.length - (need t[i].1).1) ++ [PV.int .i64 (need t[i].1).2.2] = encZ ((need t[i].1).2.2 :: st.drop (need t[i].1).1).reverse := by
                rw [encZ_take, encZ_snoc, List.take_reverse]
                have : st.length - (st.length - (need t[i].1).1) = (need t[i].1).1 := by omega
                rw [this]
                simp
              have e6 : st.length - (need t[i].1).1 + 1 = ((need t[i].1).2.2 :: st.drop (need t[i].1).1).length := by simp
              rw [e5, e6, i64_id (by omega) (by omega)]
              exact good_loop hk wide vars t ht n (i + 1) _ (by omega) (by omega) (by simp; omega)
            · simp [fin1]
    · have hd : decide ((i : Int) < (t.length : Int)) = false := by simpa using hlt
      rw [hd, List.drop_eq_nil_of_le (by omega)]
      simp only [cond_false, kst]
      congr 1
      rcases st with _ | ⟨a, _ | ⟨b, st⟩⟩ <;> simp [fin1]
      omega
theorem goodTerm_ok {k : Nat} (hk : 1000100 ≤ k) (wide vars : Int) (t : List Nd) (ht : t.length ≤ 100000) : c19 k wide vars (encT t) = r19 (goodT wide vars t) := by
  obtain ⟨k, rfl⟩ : ∃ j, k = j + 1 := ⟨k - 1, by omega⟩
  rw [n19, isWide_ok (by omega), isVars_ok (by omega)]
  simp only [R36_r, R37_r, encT_length]
  unfold goodT sizeT
  cases h1 : isW wide
  · simp
  · cases h2 : isV vars
    · simp
    · by_cases h3 : 1 ≤ t.length
      · have h3' : decide ((t.length : Int) < 1) = false := by simp; omega
        by_cases h4 : t.length ≤ 48
        · have h4' : decide ((t.length : Int) > 48) = false := by simp; omega
          simp only [Bool.not_true, cond_false, h3', h4', h3, h4, decide_true, Bool.and_self, Bool.true_and]
          have := good_loop (k := k) (by omega) wide vars t ht k 0 [] (by omega) (by omega) (by simp)
          simpa [encZ] using this
        · have h4' : decide ((t.length : Int) > 48) = true := by simp; omega
          simp [h3', h4', h4]
      · have h3' : decide ((t.length : Int) < 1) = true := by simp; omega
        simp [h3', h3]
end Go.Proofs.Ytocmjgfbcpgaoaa
