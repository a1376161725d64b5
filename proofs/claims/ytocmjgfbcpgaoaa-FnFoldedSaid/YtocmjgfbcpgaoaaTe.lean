/- FnFolded: the law. -/
import Derived.Test.YtocmjgfbcpgaoaaTd
set_option linter.unusedVariables false
set_option linter.unusedSimpArgs false
set_option maxRecDepth 4000
namespace Go.Proofs.Ytocmjgfbcpgaoaa
open Go.Dp

theorem good_len {wide vars : Int} {t : List Nd} (h : goodT wide vars t = true) : isW wide = true ∧ isV vars = true ∧ t.length ≤ 48 := by
  have hs := (goodT_iff.1 h).1
  simp only [sizeT, Bool.and_eq_true, decide_eq_true_eq] at hs
  exact ⟨hs.1.1.1, hs.1.1.2, hs.2⟩
def FoldP (wide vars : Int) (t u : List Nd) : Prop := (∀ k, 500000 ≤ k → c24 k wide (encT t) = r24 (encT u)) ∧ (∀ k, 500000 ≤ k → c25 k wide (encT t) (IntKind.i64.wrap ((t.length : Int) - 1)) = r25 (encT u)) ∧ goodT wide vars u = true ∧ kindT wide vars u = kindT wide vars t ∧ u.length ≤ 48 ∧
    (∀ k, 500000 ≤ k → c24 k wide (encT u) = r24 (encT u)) ∧ vlist u = vlist t ∧ ∀ (s : List W), (s.length : Int) = vars → (∀ a ∈ s, a ≤ mk wide) → ∃ v, vrun wide s t [] = some [v] ∧ vrun wide s u [] = some [v]
/-- What folding makes of a term. -/
theorem folded {wide vars : Int} {t : List Nd} (h : goodT wide vars t = true) : ∃ u, (∀ k, 500000 ≤ k → c24 k wide (encT t) = r24 (encT u)) ∧ (∀ k, 500000 ≤ k → c25 k wide (encT t) (IntKind.i64.wrap ((t.length : Int) - 1)) = r25 (encT u)) ∧ goodT wide vars u = true ∧ kindT wide vars u = kindT wide vars t ∧ u.length ≤ 48 ∧
    (∀ k, 500000 ≤ k → c24 k wide (encT u) = r24 (encT u)) ∧ vlist u = vlist t ∧ ∀ (s : List W), (s.length : Int) = vars → (∀ a ∈ s, a ≤ mk wide) → ∃ v, vrun wide s t [] = some [v] ∧ vrun wide s u [] = some [v] := by
  obtain ⟨hw, hv, hl⟩ := good_len h
  obtain ⟨T, hT, hok, hkd⟩ := good_tree h
  have hp := T.flat_pos
  have hTl : T.flat.length = t.length := by rw [hT]
  obtain ⟨fok, fkd⟩ := Tr.fold_ok hw hv T hok
  have flen := Tr.fold_len wide T
  obtain ⟨g1, g2⟩ := tree_good fok hw hv (by omega)
  refine ⟨(T.fold wide).flat, fun k hk => ?_, fun k hk => ?_, g1, by rw [g2, fkd, hkd], by omega, fun k hk => ?_, by rw [Tr.fold_vlist T hok, hT], fun s hs hg => ?_⟩
  · rw [← hT]; exact fold_tree hw hv T k hok (by omega) (by omega)
  · have := l2Fold_tree hw hv T t [] [] k hok (by simp [hT]) (by omega) (by omega)
    rw [i64_id (by omega) (by omega), show (t.length : Int) - 1 = ((([] : List Nd).length + T.flat.length - 1 : Nat) : Int) by simp; omega]
    exact this
  · have := fold_tree hw hv (T.fold wide) k fok (by omega) (by omega)
    rw [Tr.fold_fold] at this
    exact this
  · obtain ⟨v, h1, _⟩ := good_value h hs hg
    obtain ⟨u, h2, _⟩ := good_value g1 hs hg
    refine ⟨v, h1, ?_⟩
    have hin : ∀ (S : Tr), S.ok wide vars → S.inS s := by
      intro S
      induction S with
      | leaf x =>
        intro ho h2
        have := (leaf_run hv ho.2.2).2.2 h2
        omega
      | un x a ih => intro ho; exact ih ho.2.2.2.2
      | bin x a b iha ihb => intro ho; exact ⟨iha ho.2.2.2.2.2.1, ihb ho.2.2.2.2.2.2⟩
    have r1 := T.run_val s hok (hin T hok) []
    have r2 := (T.fold wide).run_val s fok (hin _ fok) []
    rw [hT, h1] at r1
    injection r1 with r1
    injection r1 with r1
    rw [r2, Tr.fold_val, ← r1]
theorem folded' (wide vars : Int) (t : List Nd) : ∃ u, goodT wide vars t = true → FoldP wide vars t u := by
  cases hg : goodT wide vars t
  · exact ⟨[], fun h => by cases h⟩
  · obtain ⟨u, hu⟩ := folded hg
    exact ⟨u, fun _ => hu⟩
theorem foldI_ok {k : Nat} (hk : 1000500 ≤ k) {wide vars : Int} {t u : List Nd} (ht : t.length ≤ 100) (hu : goodT wide vars t = true → ∀ k, 500000 ≤ k → c24 k wide (encT t) = r24 (encT u)) : c8 k wide vars (encT t) = r8 (encT (bif goodT wide vars t then u else [])) (goodT wide vars t) := by
  obtain ⟨k, rfl⟩ : ∃ j, k = j + 1 := ⟨k - 1, by omega⟩
  rw [n8, goodTerm_ok (by omega) _ _ _ (by omega)]
  simp only [R19_r]
  cases h : goodT wide vars t
  · rfl
  · rw [hu h k (by omega)]
    simp only [Bool.not_true, cond_false, cond_true, R24_r, List.take_length]
theorem foldS_ok {k : Nat} (hk : 1000500 ≤ k) {wide vars : Int} {t u : List Nd} (ht : t.length ≤ 100) (hu : goodT wide vars t = true → ∀ k, 500000 ≤ k → c25 k wide (encT t) (IntKind.i64.wrap ((t.length : Int) - 1)) = r25 (encT u)) : c9 k wide vars (encT t) = r9 (encT (bif goodT wide vars t then u else [])) (goodT wide vars t) := by
  obtain ⟨k, rfl⟩ : ∃ j, k = j + 1 := ⟨k - 1, by omega⟩
  rw [n9, goodTermS_ok (by omega) _ _ _ (by omega), encT_length]
  simp only [R21_r]
  cases h : goodT wide vars t
  · rfl
  · rw [hu h k (by omega)]
    simp only [Bool.not_true, cond_false, cond_true, R25_r, List.take_length]
theorem varsInI_ok {k : Nat} (hk : 1000500 ≤ k) (wide vars : Int) (t : List Nd) (ht : t.length ≤ 100) : c11 k wide vars (encT t) = r11 (encZ (bif goodT wide vars t then canI (vlist t) else [])) (goodT wide vars t) := by
  obtain ⟨k, rfl⟩ : ∃ j, k = j + 1 := ⟨k - 1, by omega⟩
  rw [n11, goodTerm_ok (by omega) _ _ _ (by omega), varsIn_ok (by omega) _ ht]
  simp only [R19_r, R26_r, List.take_length]
  cases goodT wide vars t <;> rfl
theorem varsInS_ok {k : Nat} (hk : 1000500 ≤ k) (wide vars : Int) (t : List Nd) (ht : t.length ≤ 100) : c15 k wide vars (encT t) = r15 (encZ (bif goodT wide vars t then canI (vlist t) else [])) (goodT wide vars t) := by
  obtain ⟨k, rfl⟩ : ∃ j, k = j + 1 := ⟨k - 1, by omega⟩
  rw [n15, goodTermS_ok (by omega) _ _ _ (by omega), l2Vars_ok (by omega) _ ht, canI_put (m := vlist t) (fun x => Iff.rfl)]
  simp only [R21_r, R29_r]
  cases goodT wide vars t <;> rfl
theorem kindI_ok {k : Nat} (hk : 1000500 ≤ k) (wide vars : Int) (t : List Nd) (ht : t.length ≤ 100) : c12 k wide vars (encT t) = r12 (bif goodT wide vars t then kindT wide vars t else 0) (goodT wide vars t) := by
  obtain ⟨k, rfl⟩ : ∃ j, k = j + 1 := ⟨k - 1, by omega⟩
  rw [n12, goodTerm_ok (by omega) _ _ _ (by omega)]
  simp only [R19_r]
  cases h : goodT wide vars t
  · rfl
  · rw [kindOf_ok (by omega) wide vars t (by omega) h]
    simp only [Bool.not_true, cond_false, cond_true, R27_r]
end Go.Proofs.Ytocmjgfbcpgaoaa
