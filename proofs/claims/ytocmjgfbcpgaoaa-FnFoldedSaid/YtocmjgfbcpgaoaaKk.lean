/- Joined and turned terms: the functions. -/
import Derived.Test.YtocmjgfbcpgaoaaKj
set_option linter.unusedVariables false
set_option linter.unusedSimpArgs false
set_option maxRecDepth 4000
namespace Go.Proofs.Ytocmjgfbcpgaoaa
open Go.Dp

theorem kst_frame {wide vars : Int} : ∀ {t : List Nd} {ks ks' : List Int} (r : List Int), kst wide vars t ks = some ks' → kst wide vars t (ks ++ r) = some (ks' ++ r)
  | [], ks, ks', r, h => by simp only [kst] at h ⊢; injection h with h; rw [h]
  | x :: t, ks, ks', r, h => by
    simp only [kst] at h ⊢
    split at h
    · cases h
    · rename_i h0
      rw [if_neg h0]
      split at h
      · cases h
      · rename_i h1
        rw [if_neg h1]
        split at h
        · cases h
        · rename_i h2
          rw [if_neg (by simp; try omega)]
          have e1 : (ks ++ r).take (need x.1).1 = ks.take (need x.1).1 := List.take_append_of_le_length (by omega)
          have e2 : (ks ++ r).drop (need x.1).1 = ks.drop (need x.1).1 ++ r := List.drop_append_of_le_length (by omega)
          rw [e1, e2]
          split at h
          · cases h
          · rename_i h3
            rw [if_neg h3]
            exact kst_frame (ks := (need x.1).2.2 :: ks.drop (need x.1).1) r h
/-! ### slices.Concat -/
def rowsP (ls : List (List PV)) : List PV := ls.map (PV.row 2 0)
@[simp] theorem rowsP_length (ls : List (List PV)) : (rowsP ls).length = ls.length := by simp [rowsP]
theorem rowsP_get (ls : List (List PV)) (i : Nat) : (rowsP ls)[i]? = (ls[i]?).map (PV.row 2 0) := by simp [rowsP]
theorem encT_plain (t : List Nd) : (encT t).all plainP = true := by
  simp only [encT, List.all_eq_true, List.mem_map]
  rintro _ ⟨x, _, rfl⟩
  rfl
/-! ### Join, turn -/
def joinT (op : Int) (a b : List Nd) : List Nd := a ++ b ++ [(op, 0#64)]
def joinOK (wide vars op : Int) (a b : List Nd) : Bool := decide ((need op).1 = 2) && goodT wide vars a && goodT wide vars b && goodT wide vars (joinT op a b)
theorem good_kst {wide vars : Int} {t : List Nd} (h : goodT wide vars t = true) : kst wide vars t [] = some [kindT wide vars t] ∧ (kindT wide vars t = 1 ∨ kindT wide vars t = 2) := by
  obtain ⟨hs, c, hk, hc⟩ := goodT_iff.1 h
  have : kindT wide vars t = c := by simp [kindT, hs, hk, kind1]
  rw [this]
  exact ⟨hk, hc⟩
theorem join_kinds {wide vars op : Int} {a b : List Nd} (h : joinOK wide vars op a b = true) : kindT wide vars a = (need op).2.1 ∧ kindT wide vars b = (need op).2.1 := by
  simp only [joinOK, Bool.and_eq_true, decide_eq_true_eq] at h
  obtain ⟨⟨⟨hm, ha⟩, hb⟩, hj⟩ := h
  obtain ⟨ka, _⟩ := good_kst ha
  obtain ⟨kb, _⟩ := good_kst hb
  obtain ⟨kj, _⟩ := good_kst hj
  have kb' := kst_frame [kindT wide vars a] kb
  rw [joinT, kst_app, kst_app, ka] at kj
  simp only [Option.bind_some] at kj
  rw [List.nil_append] at kb'
  rw [kb'] at kj
  simp only [List.cons_append, List.nil_append, Option.bind_some, kst] at kj
  split at kj
  · cases kj
  · split at kj
    · cases kj
    · split at kj
      · cases kj
      · split at kj
        · cases kj
        · rename_i h3
          rw [hm] at h3
          simp at h3
          exact ⟨h3.2, h3.1⟩
theorem need_part {op : Int} (h : (need op).1 ≠ 0) : (need op).2.1 = 1 ∨ (need op).2.1 = 2 := by
  unfold need at h ⊢
  repeat' split
  all_goals simp_all
theorem kind_good {wide vars : Int} {t : List Nd} (h : kindT wide vars t > 0) : goodT wide vars t = true := by
  rw [← kindT_pos]; simpa using h
theorem join_spec (wide vars op : Int) (a b : List Nd) : (decide ((need op).1 = 2) && (kindT wide vars a == (need op).2.1) && (kindT wide vars b == (need op).2.1) && goodT wide vars (joinT op a b)) = joinOK wide vars op a b := by
  rw [Bool.eq_iff_iff]
  constructor
  · intro h
    simp only [Bool.and_eq_true, decide_eq_true_eq, beq_iff_eq] at h
    obtain ⟨⟨⟨hm, ha⟩, hb⟩, hj⟩ := h
    have hp := need_part (op := op) (by omega)
    simp only [joinOK, Bool.and_eq_true, decide_eq_true_eq]
    exact ⟨⟨⟨hm, kind_good (by omega)⟩, kind_good (by omega)⟩, hj⟩
  · intro h
    obtain ⟨h1, h2⟩ := join_kinds h
    simp only [joinOK, Bool.and_eq_true, decide_eq_true_eq] at h
    simp only [Bool.and_eq_true, decide_eq_true_eq, beq_iff_eq]
    exact ⟨⟨⟨h.1.1.1, h1⟩, h2⟩, h.2⟩
def turnT (op : Int) (a : List Nd) : List Nd := a ++ [(op, 0#64)]
def turnOK (wide vars op : Int) (a : List Nd) : Bool := decide (op = 13 ∨ op = 19) && goodT wide vars a && goodT wide vars (turnT op a)
theorem need_one {op : Int} : (need op).1 = 1 ↔ op = 13 ∨ op = 19 := by
  constructor
  · intro h
    unfold need at h
    split at h
    · simp at h
    · split at h
      · simp at h
      · split at h
        · left; assumption
        · split at h
          · right; assumption
          · split at h
            · simp at h
            · split at h
              · simp at h
              · split at h
                · simp at h
                · simp at h
  · rintro (h | h) <;> rw [h] <;> decide
theorem turn_kind {wide vars op : Int} {a : List Nd} (h : turnOK wide vars op a = true) : kindT wide vars a = (need op).2.1 := by
  simp only [turnOK, Bool.and_eq_true, decide_eq_true_eq] at h
  obtain ⟨⟨hm, ha⟩, hj⟩ := h
  have hm := need_one.2 hm
  obtain ⟨ka, _⟩ := good_kst ha
  obtain ⟨kj, _⟩ := good_kst hj
  rw [turnT, kst_app, ka] at kj
  simp only [Option.bind_some, kst] at kj
  split at kj
  · cases kj
  · split at kj
    · cases kj
    · split at kj
      · cases kj
      · split at kj
        · cases kj
        · rename_i h3
          rw [hm] at h3
          simpa using h3
theorem turn_spec (wide vars op : Int) (a : List Nd) : (decide ((need op).1 = 1) && (kindT wide vars a == (need op).2.1) && goodT wide vars (turnT op a)) = turnOK wide vars op a := by
  rw [Bool.eq_iff_iff]
  constructor
  · intro h
    simp only [Bool.and_eq_true, decide_eq_true_eq, beq_iff_eq] at h
    obtain ⟨⟨hm, ha⟩, hj⟩ := h
    have hp := need_part (op := op) (by omega)
    simp only [turnOK, Bool.and_eq_true, decide_eq_true_eq]
    exact ⟨⟨need_one.1 hm, kind_good (by omega)⟩, hj⟩
  · intro h
    have h1 := turn_kind h
    simp only [turnOK, Bool.and_eq_true, decide_eq_true_eq] at h
    simp only [Bool.and_eq_true, decide_eq_true_eq, beq_iff_eq]
    exact ⟨⟨need_one.2 h.1.1, h1⟩, h.2⟩
end Go.Proofs.Ytocmjgfbcpgaoaa
