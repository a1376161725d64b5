/- Joined and turned terms: the functions. -/
import Derived.Test.YtnliglgellapdaaKj
set_option linter.unusedVariables false
set_option linter.unusedSimpArgs false
set_option maxRecDepth 4000
namespace Go.Proofs.Ytnliglgellapdaa
open Go.Dp

theorem kst_frame {wide vars : Int} : ∀ {t : List Nd} {ks ks' : List Int} (r : List Int), kst wide vars t ks = some ks' → kst wide vars t (ks ++ r) = some (ks' ++ r)
  | [], ks, ks', r, h => by simp only [kst] at h ⊢; injection h with h; rw [h]
  | x :: t, ks, ks', r, h => by
    simp only [kst] at h ⊢
    split at h
    · cases h
    · rename_i h0
      rw [if_neg h0]
      split at h
      · cases h
      · rename_i h1
        rw [if_neg h1]
        split at h
        · cases h
        · rename_i h2
          rw [if_neg (by simp; try omega)]
          have e1 : (ks ++ r).take (need x.1).1 = ks.take (need x.1).1 := List.take_append_of_le_length (by omega)
          have e2 : (ks ++ r).drop (need x.1).1 = ks.drop (need x.1).1 ++ r := List.drop_append_of_le_length (by omega)
          rw [e1, e2]
          split at h
          · cases h
          · rename_i h3
            rw [if_neg h3]
            exact kst_frame (ks := (need x.1).2.2 :: ks.drop (need x.1).1) r h
/-! ### slices.Concat -/
def rowsP (ls : List (List PV)) : List PV := ls.map (PV.row 2 0)
@[simp] theorem rowsP_length (ls : List (List PV)) : (rowsP ls).length = ls.length := by simp [rowsP]
theorem rowsP_get (ls : List (List PV)) (i : Nat) : (rowsP ls)[i]? = (ls[i]?).map (PV.row 2 0) := by simp [rowsP]
theorem grow_ok {k : Nat} (hk : 1 ≤ k) {n : Nat} (hn : n ≤ 1000000) : c149 k [] (n : Int) = r149 [] := by
  obtain ⟨k, rfl⟩ : ∃ j, k = j + 1 := ⟨k - 1, by omega⟩
  rw [n149]
  have h1 : decide ((n : Int) < 0) = false := by simp
  have e : IntKind.i64.wrap ((n : Int) - IntKind.i64.wrap (0 - (([] : List PV).length : Int))) = (n : Int) := by
    rw [i64_id (n := 0 - (([] : List PV).length : Int)) (by simp) (by simp), i64_id (by simp; try omega) (by simp; try omega)]; simp
  rw [h1, e]
  simp only [cond_false]
  by_cases h : 0 < n
  · have h2 : decide ((n : Int) > 0) = true := by simpa using h
    rw [h2]
    have h4 := lim_ok (n := n) (c := 16) (by omega) (by omega)
    simp only [Bool.and_eq_true] at h4
    simp [h4.1, h4.2]
  · have h2 : decide ((n : Int) > 0) = false := by simp; omega
    rw [h2]
    rfl
theorem concat_loop2 {k : Nat} (ls : List (List PV)) (hl : ls.length ≤ 1000) (hb : ∀ l ∈ ls, l.length ≤ 1000) : ∀ (n i : Nat) (xs : List PV), ls.length - i < n → i ≤ ls.length → xs.length ≤ 1000 * i →
    L92_2 k n xs.length (rowsP ls) (ls.length : Int) (i : Int) xs = r92 (xs ++ (ls.drop i).flatten)
  | 0, i, xs, h, hi, hx => by omega
  | n + 1, i, xs, h, hi, hx => by
    rw [sL92_2, List.take_length]
    by_cases hlt : i < ls.length
    · have hd : decide ((i : Int) < (ls.length : Int)) = true := by simpa using hlt
      have hlb := hb ls[i] (List.getElem_mem hlt)
      rw [hd, lookP_nat, rowsP_get, List.getElem?_eq_getElem hlt]
      simp only [cond_true, Option.map_some, Option.bind_some, row_atRow]
      rw [lim_ok (by omega) (by omega), i64_id (by omega) (by omega), ← List.length_append]
      simp only [cond_true]
      rw [show (i : Int) + 1 = ((i + 1 : Nat) : Int) by omega, concat_loop2 ls hl hb n (i + 1) (xs ++ ls[i]) (by omega) (by omega) (by simp; omega), drop_cons hlt, List.flatten_cons, List.append_assoc]
    · have hd : decide ((i : Int) < (ls.length : Int)) = false := by simpa using hlt
      rw [hd, List.drop_eq_nil_of_le (by omega)]
      simp
theorem concat_loop1 {k : Nat} (hk : 2000 ≤ k) (ls : List (List PV)) (hl : ls.length ≤ 1000) (hb : ∀ l ∈ ls, l.length ≤ 1000) : ∀ (n i s : Nat), ls.length - i < n → i ≤ ls.length → s ≤ 1000 * i →
    L92_1 k n (rowsP ls) (s : Int) (rowsP ls) (ls.length : Int) (i : Int) = r92 ls.flatten
  | 0, i, s, h, hi, hx => by omega
  | n + 1, i, s, h, hi, hx => by
    rw [sL92_1]
    by_cases hlt : i < ls.length
    · have hd : decide ((i : Int) < (ls.length : Int)) = true := by simpa using hlt
      have hlb := hb ls[i] (List.getElem_mem hlt)
      rw [hd, lookP_nat, rowsP_get, List.getElem?_eq_getElem hlt]
      simp only [cond_true, Option.map_some, Option.bind_some, row_atRow]
      rw [i64_id (by omega) (by omega), i64_id (by omega) (by omega)]
      have hd2 : decide ((s : Int) + (ls[i].length : Int) < 0) = false := by simp; omega
      rw [hd2]
      simp only [cond_false]
      have := concat_loop1 hk ls hl hb n (i + 1) (s + ls[i].length) (by omega) (by omega) (by omega)
      simpa using this
    · have hd : decide ((i : Int) < (ls.length : Int)) = false := by simpa using hlt
      rw [hd, grow_ok (by omega) (by omega), rowsP_length]
      simp only [cond_false, R149_r]
      have := concat_loop2 (k := k) ls hl hb k 0 [] (by omega) (by omega) (by simp)
      simpa using this
theorem concat_ok {k : Nat} (hk : 2001 ≤ k) (ls : List (List PV)) (hl : ls.length ≤ 1000) (hb : ∀ l ∈ ls, l.length ≤ 1000) : c92 k (rowsP ls) = r92 ls.flatten := by
  obtain ⟨k, rfl⟩ : ∃ j, k = j + 1 := ⟨k - 1, by omega⟩
  rw [n92, rowsP_length]
  exact concat_loop1 (by omega) ls hl hb k 0 0 (by omega) (by omega) (by omega)
theorem encT_plain (t : List Nd) : (encT t).all plainP = true := by
  simp only [encT, List.all_eq_true, List.mem_map]
  rintro _ ⟨x, _, rfl⟩
  rfl
theorem R92p_enc (t : List Nd) (K0 : List PV → R) : R92p (r92 (encT t)) K0 = K0 (encT t) := by
  have h : ([SV.c (.own 104 2 (encT t))].all plainS && true) = true := by simp [plainS, plainC, encT_plain]; rfl
  show (bif ([SV.c (.own 104 2 (encT t))].all plainS && true) then K0 (encT t) else none) = _
  rw [h]
  rfl
/-! ### Join, turn -/
def joinT (op : Int) (a b : List Nd) : List Nd := a ++ b ++ [(op, 0#64)]
def joinOK (wide vars op : Int) (a b : List Nd) : Bool := decide ((need op).1 = 2) && goodT wide vars a && goodT wide vars b && goodT wide vars (joinT op a b)
theorem good_kst {wide vars : Int} {t : List Nd} (h : goodT wide vars t = true) : kst wide vars t [] = some [kindT wide vars t] ∧ (kindT wide vars t = 1 ∨ kindT wide vars t = 2) := by
  obtain ⟨hs, c, hk, hc⟩ := goodT_iff.1 h
  have : kindT wide vars t = c := by simp [kindT, hs, hk, kind1]
  rw [this]
  exact ⟨hk, hc⟩
theorem join_kinds {wide vars op : Int} {a b : List Nd} (h : joinOK wide vars op a b = true) : kindT wide vars a = (need op).2.1 ∧ kindT wide vars b = (need op).2.1 := by
  simp only [joinOK, Bool.and_eq_true, decide_eq_true_eq] at h
  obtain ⟨⟨⟨hm, ha⟩, hb⟩, hj⟩ := h
  obtain ⟨ka, _⟩ := good_kst ha
  obtain ⟨kb, _⟩ := good_kst hb
  obtain ⟨kj, _⟩ := good_kst hj
  have kb' := kst_frame [kindT wide vars a] kb
  rw [joinT, kst_app, kst_app, ka] at kj
  simp only [Option.bind_some] at kj
  rw [List.nil_append] at kb'
  rw [kb'] at kj
  simp only [List.cons_append, List.nil_append, Option.bind_some, kst] at kj
  split at kj
  · cases kj
  · split at kj
    · cases kj
    · split at kj
      · cases kj
      · split at kj
        · cases kj
        · rename_i h3
          rw [hm] at h3
          simp at h3
          exact ⟨h3.2, h3.1⟩
theorem need_part {op : Int} (h : (need op).1 ≠ 0) : (need op).2.1 = 1 ∨ (need op).2.1 = 2 := by
  unfold need at h ⊢
  repeat' split
  all_goals simp_all
theorem kind_good {wide vars : Int} {t : List Nd} (h : kindT wide vars t > 0) : goodT wide vars t = true := by
  rw [← kindT_pos]; simpa using h
theorem join_spec (wide vars op : Int) (a b : List Nd) : (decide ((need op).1 = 2) && (kindT wide vars a == (need op).2.1) && (kindT wide vars b == (need op).2.1) && goodT wide vars (joinT op a b)) = joinOK wide vars op a b := by
  rw [Bool.eq_iff_iff]
  constructor
  · intro h
    simp only [Bool.and_eq_true, decide_eq_true_eq, beq_iff_eq] at h
    obtain ⟨⟨⟨hm, ha⟩, hb⟩, hj⟩ := h
    have hp := need_part (op := op) (by omega)
    simp only [joinOK, Bool.and_eq_true, decide_eq_true_eq]
    exact ⟨⟨⟨hm, kind_good (by omega)⟩, kind_good (by omega)⟩, hj⟩
  · intro h
    obtain ⟨h1, h2⟩ := join_kinds h
    simp only [joinOK, Bool.and_eq_true, decide_eq_true_eq] at h
    simp only [Bool.and_eq_true, decide_eq_true_eq, beq_iff_eq]
    exact ⟨⟨⟨h.1.1.1, h1⟩, h2⟩, h.2⟩
theorem joinTerms_ok {k : Nat} (hk : 1000200 ≤ k) (wide vars op : Int) (a b : List Nd) (ha : a.length ≤ 500) (hb : b.length ≤ 500) : c31 k wide vars op (encT a) (encT b) = r31 (bif joinOK wide vars op a b then encT (joinT op a b) else []) (joinOK wide vars op a b) := by
  obtain ⟨k, rfl⟩ : ∃ j, k = j + 1 := ⟨k - 1, by omega⟩
  rw [n31, operandsOf_ok (by omega), goodTerm_ok (by omega) _ _ _ (by omega), goodTerm_ok (by omega) _ _ _ (by omega)]
  simp only [R84_r, R25_r]
  unfold joinOK
  by_cases hm : (need op).1 = 2
  · have e1 : ((((need op).1 : Nat) : Int) != 2) = false := by rw [hm]; rfl
    rw [e1]
    simp only [cond_false, hm, decide_true, Bool.true_and]
    cases h1 : goodT wide vars a
    · rfl
    · cases h2 : goodT wide vars b
      · rfl
      · simp only [Bool.not_true, cond_false, Bool.true_and]
        have e2 : ([PV.row 2 0 (encT a), PV.row 2 0 (encT b), PV.row 2 0 [PV.agg [.int .i64 op, .int .u64 0]]] : List PV) = rowsP [encT a, encT b, encT [(op, 0#64)]] := rfl
        have e3 : [encT a, encT b, encT [(op, 0#64)]].flatten = encT (joinT op a b) := by simp [joinT, encT]
        rw [e2, concat_ok (by omega) _ (by simp) (by simp; omega), e3, R92p_enc, List.take_length, checked_ok (by omega) _ _ _ (by simp [joinT]; omega)]
        simp only [R79_r]
  · have e1 : ((((need op).1 : Nat) : Int) != 2) = true := by simp; omega
    simp [e1, hm]
theorem joinTermsS_ok {k : Nat} (hk : 1000200 ≤ k) (wide vars op : Int) (a b : List Nd) (ha : a.length ≤ 500) (hb : b.length ≤ 500) : c32 k wide vars op (encT a) (encT b) = r32 (bif joinOK wide vars op a b then encT (joinT op a b) else []) (joinOK wide vars op a b) := by
  obtain ⟨k, rfl⟩ : ∃ j, k = j + 1 := ⟨k - 1, by omega⟩
  rw [n32, needS_ok (by omega), l2Kind_ok (by omega) _ _ _ (by omega), l2Kind_ok (by omega) _ _ _ (by omega), ← join_spec]
  simp only [R93_r, R80_r]
  by_cases hm : (need op).1 = 2
  · have e1 : ((((need op).1 : Nat) : Int) != 2) = false := by rw [hm]; rfl
    rw [e1]
    simp only [cond_false, hm, decide_true, Bool.true_and]
    cases h1 : (kindT wide vars a == (need op).2.1)
    · have : (kindT wide vars a != (need op).2.1) = true := by simpa using h1
      simp [this]
    · have e2 : (kindT wide vars a != (need op).2.1) = false := by simpa using h1
      cases h2 : (kindT wide vars b == (need op).2.1)
      · have : (kindT wide vars b != (need op).2.1) = true := by simpa using h2
        simp [this, e2]
      · have e3 : (kindT wide vars b != (need op).2.1) = false := by simpa using h2
        simp only [e2, e3, cond_false, Bool.true_and, encT_length]
        rw [lim_ok (by omega) (by omega), lim_ok (by omega) (by omega), lim_ok (by omega) (by omega)]
        have e4 : ((((([] ++ encT a).take (0 + a.length) ++ encT b).take (0 + a.length + b.length)) ++ [PV.agg [.int .i64 op, .int .u64 0]]).take (0 + a.length + b.length + 1)) = encT (joinT op a b) := by
          have e5 : PV.agg [.int .i64 op, .int .u64 0] = encN (op, 0#64) := rfl
          rw [e5]
          simp only [List.nil_append, Nat.zero_add]
          rw [List.take_of_length_le (l := encT a) (by (simp; try omega)), encT_app, List.take_of_length_le (l := encT (a ++ b)) (by (simp; try omega)), encT_snoc, List.take_of_length_le (by (simp; try omega))]
          rfl
        rw [e4]
        simp only [cond_true]
        rw [made_ok (by omega) _ _ _ (by simp [joinT]; omega)]
        simp only [R81_r]
  · have e1 : ((((need op).1 : Nat) : Int) != 2) = true := by simp; omega
    simp [e1, hm]
def turnT (op : Int) (a : List Nd) : List Nd := a ++ [(op, 0#64)]
def turnOK (wide vars op : Int) (a : List Nd) : Bool := decide (op = 13 ∨ op = 19) && goodT wide vars a && goodT wide vars (turnT op a)
theorem need_one {op : Int} : (need op).1 = 1 ↔ op = 13 ∨ op = 19 := by
  constructor
  · intro h
    unfold need at h
    split at h
    · simp at h
    · split at h
      · simp at h
      · split at h
        · left; assumption
        · split at h
          · right; assumption
          · split at h
            · simp at h
            · split at h
              · simp at h
              · split at h
                · simp at h
                · simp at h
  · rintro (h | h) <;> rw [h] <;> decide
theorem turn_kind {wide vars op : Int} {a : List Nd} (h : turnOK wide vars op a = true) : kindT wide vars a = (need op).2.1 := by
  simp only [turnOK, Bool.and_eq_true, decide_eq_true_eq] at h
  obtain ⟨⟨hm, ha⟩, hj⟩ := h
  have hm := need_one.2 hm
  obtain ⟨ka, _⟩ := good_kst ha
  obtain ⟨kj, _⟩ := good_kst hj
  rw [turnT, kst_app, ka] at kj
  simp only [Option.bind_some, kst] at kj
  split at kj
  · cases kj
  · split at kj
    · cases kj
    · split at kj
      · cases kj
      · split at kj
        · cases kj
        · rename_i h3
          rw [hm] at h3
          simpa using h3
theorem turn_spec (wide vars op : Int) (a : List Nd) : (decide ((need op).1 = 1) && (kindT wide vars a == (need op).2.1) && goodT wide vars (turnT op a)) = turnOK wide vars op a := by
  rw [Bool.eq_iff_iff]
  constructor
  · intro h
    simp only [Bool.and_eq_true, decide_eq_true_eq, beq_iff_eq] at h
    obtain ⟨⟨hm, ha⟩, hj⟩ := h
    have hp := need_part (op := op) (by omega)
    simp only [turnOK, Bool.and_eq_true, decide_eq_true_eq]
    exact ⟨⟨need_one.1 hm, kind_good (by omega)⟩, hj⟩
  · intro h
    have h1 := turn_kind h
    simp only [turnOK, Bool.and_eq_true, decide_eq_true_eq] at h
    simp only [Bool.and_eq_true, decide_eq_true_eq, beq_iff_eq]
    exact ⟨⟨need_one.2 h.1.1, h1⟩, h.2⟩
theorem turnTerm_ok {k : Nat} (hk : 1000200 ≤ k) (wide vars op : Int) (a : List Nd) (ha : a.length ≤ 500) : c36 k wide vars op (encT a) = r36 (bif turnOK wide vars op a then encT (turnT op a) else []) (turnOK wide vars op a) := by
  obtain ⟨k, rfl⟩ : ∃ j, k = j + 1 := ⟨k - 1, by omega⟩
  have hcl : c97 k (encT a) = r97 (encT a) := by
    obtain ⟨k, rfl⟩ : ∃ j, k = j + 1 := ⟨k - 1, by omega⟩
    exact n97 k _ (by simp [LIM]; omega) (by simp [LIM]; omega)
  have main : (R25 (c25 k wide vars (encT a)) fun b1 => bif !b1 then r36 [] false else R97 (c97 k (encT a)) fun l1 => bif decide ((l1.length + 1) * 16 ≤ LIM) && decide (l1.length + 1 ≤ LIM) then
      R79 (c79 k wide vars (((l1.take l1.length) ++ [PV.agg [.int .i64 op, .int .u64 0]]).take (l1.length + 1))) fun l2 b2 => r36 l2 b2 else none) = r36 (bif goodT wide vars a && goodT wide vars (turnT op a) then encT (turnT op a) else []) (goodT wide vars a && goodT wide vars (turnT op a)) := by
    rw [goodTerm_ok (by omega) _ _ _ (by omega), hcl]
    simp only [R25_r, R97_r, encT_length]
    cases h1 : goodT wide vars a
    · rfl
    · simp only [Bool.not_true, cond_false, Bool.true_and]
      rw [lim_ok (by omega) (by omega)]
      have e4 : (((encT a).take a.length) ++ [PV.agg [.int .i64 op, .int .u64 0]]).take (a.length + 1) = encT (turnT op a) := by
        have e5 : PV.agg [.int .i64 op, .int .u64 0] = encN (op, 0#64) := rfl
        rw [e5, List.take_of_length_le (l := encT a) (by (simp; try omega)), encT_snoc, List.take_of_length_le (by (simp; try omega))]
        rfl
      rw [e4]
      simp only [cond_true]
      rw [checked_ok (by omega) _ _ _ (by simp [turnT]; omega)]
      simp only [R79_r]
  rw [n36]
  unfold turnOK
  by_cases h1 : op = 13
  · have e1 : (op != 13) = false := by simpa using h1
    rw [e1]
    simp only [cond_false]
    rw [main]
    simp [h1]
  · have e1 : (op != 13) = true := by simpa using h1
    by_cases h2 : op = 19
    · have e2 : (op != 19) = false := by simpa using h2
      rw [e1, e2]
      simp only [cond_true, cond_false]
      rw [main]
      simp [h2]
    · have e2 : (op != 19) = true := by simpa using h2
      rw [e1, e2]
      simp [h1, h2]
theorem turnTermS_ok {k : Nat} (hk : 1000200 ≤ k) (wide vars op : Int) (a : List Nd) (ha : a.length ≤ 500) : c37 k wide vars op (encT a) = r37 (bif turnOK wide vars op a then encT (turnT op a) else []) (turnOK wide vars op a) := by
  obtain ⟨k, rfl⟩ : ∃ j, k = j + 1 := ⟨k - 1, by omega⟩
  rw [n37, needS_ok (by omega), l2Kind_ok (by omega) _ _ _ (by omega), ← turn_spec]
  simp only [R93_r, R80_r]
  by_cases hm : (need op).1 = 1
  · have e1 : ((((need op).1 : Nat) : Int) != 1) = false := by rw [hm]; rfl
    rw [e1]
    simp only [cond_false, hm, decide_true, Bool.true_and]
    cases h1 : (kindT wide vars a == (need op).2.1)
    · have : (kindT wide vars a != (need op).2.1) = true := by simpa using h1
      simp [this]
    · have e2 : (kindT wide vars a != (need op).2.1) = false := by simpa using h1
      simp only [e2, cond_false, Bool.true_and, encT_length]
      rw [lim_ok (by omega) (by omega), lim_ok (by omega) (by omega)]
      have e4 : ((([] ++ encT a).take (0 + a.length)) ++ [PV.agg [.int .i64 op, .int .u64 0]]).take (0 + a.length + 1) = encT (turnT op a) := by
        have e5 : PV.agg [.int .i64 op, .int .u64 0] = encN (op, 0#64) := rfl
        rw [e5]
        simp only [List.nil_append, Nat.zero_add]
        rw [List.take_of_length_le (l := encT a) (by (simp; try omega)), encT_snoc, List.take_of_length_le (by (simp; try omega))]
        rfl
      rw [e4]
      simp only [cond_true]
      rw [made_ok (by omega) _ _ _ (by simp [turnT]; omega)]
      simp only [R81_r]
  · have e1 : ((((need op).1 : Nat) : Int) != 1) = true := by simp; omega
    simp [e1, hm]
end Go.Proofs.Ytnliglgellapdaa
