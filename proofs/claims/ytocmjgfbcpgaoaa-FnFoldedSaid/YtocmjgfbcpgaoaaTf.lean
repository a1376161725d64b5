/- FnFolded: the law itself. -/
import Derived.Test.YtocmjgfbcpgaoaaTe
import Derived.Test.YtocmjgfbcpgaoaaPh
set_option linter.unusedVariables false
set_option linter.unusedSimpArgs false
set_option maxRecDepth 4000
namespace Go.Proofs.Ytocmjgfbcpgaoaa
open Go.Dp

theorem stateD_ok {bs : List Nat} (hc : CodeOK bs) {k : Nat} (hk : 200 ≤ k) {wide vars : Int} (hw0 : 0 ≤ wide) (hw : wide ≤ 64) (hv : vars ≤ 100) {at' : Int} (h0 : 0 ≤ at') (h1 : at' ≤ 600000000) (s : W) :
    ∃ a2 s2 st, c17 k wide vars (encB bs) at' (wi s) = r17 (encB bs) a2 (wi s2) (encW st) ∧ st.length ≤ 100 := by
  obtain ⟨k, rfl⟩ : ∃ j, k = j + 1 := ⟨k - 1, by omega⟩
  rw [n17]
  obtain ⟨a2, s2, st, h, h2, h3, h4⟩ := state_loop hc (k := k) (by omega) hw0 hw hv 100 k [] (at' := at') s (by simp; omega) (by omega) (by simp) h0 (by omega)
  exact ⟨a2, s2, st, h, h4⟩
theorem drawVal_ok {bs : List Nat} (hc : CodeOK bs) {k : Nat} (hk : 400 ≤ k) : ∃ wide t s, c5 k (encB bs) = r5 wide (encT t) (encW s) ∧ t.length ≤ 100 ∧ s.length ≤ 100 := by
  obtain ⟨k, rfl⟩ : ∃ j, k = j + 1 := ⟨k - 1, by omega⟩
  rw [n5]
  obtain ⟨a2, s2, wide, vars, t, h, h2, h3, h4, h5, h6, h7, h8⟩ := term_ok hc (k := k) (by omega) (at' := 0) (by omega) (by omega) 0#64
  have h' : c16 k (encB bs) 0 0 = _ := h
  rw [h']
  simp only [R16_r]
  obtain ⟨a3, s3, st, h, h9⟩ := stateD_ok hc (k := k) (by omega) (wide := wide) (vars := vars) (by omega) (by omega) (by omega) (at' := a2) (by omega) (by omega) s2
  rw [h]
  simp only [R17_r, encW_length]
  have e1 : (encW st).take st.length = encW st := by rw [List.take_of_length_le (by simp)]
  exact ⟨wide, t, st, by simp only [List.take_length, e1], h8, h9⟩
theorem drawVars_ok {bs : List Nat} (hc : CodeOK bs) {k : Nat} (hk : 400 ≤ k) : ∃ wide vars t, c14 k (encB bs) = r14 wide vars (encT t) ∧ t.length ≤ 100 := by
  obtain ⟨k, rfl⟩ : ∃ j, k = j + 2 := ⟨k - 2, by omega⟩
  rw [n14, n28]
  obtain ⟨a2, s2, wide, vars, t, h, h2, h3, h4, h5, h6, h7, h8⟩ := term_ok hc (k := k) (by omega) (at' := 0) (by omega) (by omega) 0#64
  have h' : c16 k (encB bs) 0 0 = _ := h
  rw [h']
  simp only [R16_r, R28_r]
  exact ⟨wide, vars, t, rfl, h8⟩
def vOK (wide : Int) (t : List Nd) (s : List W) : Bool := goodT wide s.length t && s.all (goodW wide)
theorem v_get {wide : Int} {t : List Nd} {s : List W} (h : vOK wide t s = true) : goodT wide s.length t = true ∧ (∀ a ∈ s, a ≤ mk wide) ∧ stateOK wide s.length s = true := by
  simp only [vOK, Bool.and_eq_true, List.all_eq_true] at h
  obtain ⟨hw, hv, _⟩ := good_len h.1
  have hg : ∀ a ∈ s, a ≤ mk wide := fun a ha => (goodW_iff.1 (h.2 a ha)).2
  exact ⟨h.1, hg, stateOK_of hw hv rfl hg⟩
theorem vI_ok {k : Nat} (hk : 1000500 ≤ k) (wide : Int) (t : List Nd) (ht : t.length ≤ 100) (s : List W) (hs : s.length ≤ 100) : c6 k wide (encT t) (encW s) = r6 (bif vOK wide t s then wi ((vrun wide s t []).getD [] |>.headD 0#64) else 0) (vOK wide t s) := by
  cases hv : vOK wide t s
  · obtain ⟨k, rfl⟩ : ∃ j, k = j + 1 := ⟨k - 1, by omega⟩
    rw [n6, encW_length, isState_ok (by omega) _ _ _ (by omega), goodTerm_ok (by omega) _ _ _ (by omega)]
    simp only [R18_r, R19_r]
    cases h1 : stateOK wide s.length s
    · rfl
    · cases h2 : goodT wide s.length t
      · rfl
      · exfalso
        simp only [stateOK, Bool.and_eq_true] at h1
        simp only [vOK, h2, h1.2, Bool.and_self] at hv
        cases hv
  · obtain ⟨h1, h2, h3⟩ := v_get hv
    obtain ⟨v, h4, _⟩ := good_value h1 rfl h2
    rw [valueOf_full (by omega) wide t (by omega) s (by omega) h3 h1 h4, h4]
    rfl
theorem vS_ok {k : Nat} (hk : 1000500 ≤ k) (wide : Int) (t : List Nd) (ht : t.length ≤ 100) (s : List W) (hs : s.length ≤ 100) : c7 k wide (encT t) (encW s) = r7 (bif vOK wide t s then wi ((vrun wide s t []).getD [] |>.headD 0#64) else 0) (vOK wide t s) := by
  obtain ⟨k, rfl⟩ : ∃ j, k = j + 1 := ⟨k - 1, by omega⟩
  rw [n7, encW_length, encT_length, goodTermS_ok (by omega) _ _ _ (by omega), words_ok (by omega) _ _ (by omega)]
  simp only [R21_r, R22_r]
  cases hv : vOK wide t s
  · cases h1 : goodT wide s.length t
    · rfl
    · cases h2 : s.all (goodW wide)
      · rfl
      · simp [vOK, h1, h2] at hv
  · obtain ⟨h1, h2, h3⟩ := v_get hv
    obtain ⟨v, h4, _⟩ := good_value h1 rfl h2
    have h5 : s.all (goodW wide) = true := by simp only [vOK, Bool.and_eq_true] at hv; exact hv.2
    rw [h1, h5, l2Value_ok (by omega) h1 rfl h2 ht h4, h4]
    simp only [Bool.not_true, cond_false, cond_true, R23_r]
    rfl
theorem folded_end {k : Nat} (hk : 1001000 ≤ k) {more : List Nat} (hm : CodeOK more) : (R14 (c14 k (encB more)) fun v7 v8 l8 =>
            R11 (c11 k v7 v8 l8) fun l9 b15 =>
            R15 (c15 k v7 v8 l8) fun l10 b16 =>
            bif (b15 == b16) then
            R13 (c13 k l9 l10) fun b17 =>
            r3 b17
            else r3 false) = r3 true := by
  obtain ⟨wide, vars, t, h, ht⟩ := drawVars_ok hm (k := k) (by omega)
  have h1 := vlist_len t
  have h2 := canI_len (vlist t)
  rw [h]
  simp only [R14_r]
  rw [varsInI_ok (by omega) wide vars t ht, varsInS_ok (by omega) wide vars t ht]
  simp only [R11_r, R15_r, beq_self_eq_true, cond_true]
  rw [sameI_ok (by omega) _ (by cases goodT wide vars t <;> simp <;> omega)]
  simp only [R13_r]
theorem folded_true {k : Nat} (hk : 1048700 ≤ k) (code more : List Nat) (hc : ∀ b ∈ code, b < 256) (hm : ∀ b ∈ more, b < 256) : c3 k (encB code) (encB more) = r3 true := by
  obtain ⟨k, rfl⟩ : ∃ j, k = j + 1 := ⟨k - 1, by omega⟩
  rw [n3, big_ok (by omega)]
  simp only [R4_r]
  cases hbig : (decide (code.length > 1048576) || decide (more.length + code.length > 1048576))
  · simp only [cond_false]
    rw [Bool.or_eq_false_iff] at hbig
    have hl : code.length ≤ 1048576 ∧ more.length ≤ 1048576 := by
      have h1 := hbig.1
      have h2 := hbig.2
      simp at h1 h2
      omega
    have hcc : CodeOK code := ⟨hl.1, hc⟩
    have hmm : CodeOK more := ⟨hl.2, hm⟩
    obtain ⟨wide, t, s, h, ht, hs⟩ := drawVal_ok hcc (k := k) (by omega)
    rw [h]
    simp only [R5_r, encW_length]
    obtain ⟨u, hu⟩ := folded' wide s.length t
    rw [vI_ok (by omega) wide t ht s hs, vS_ok (by omega) wide t ht s hs, foldI_ok (u := u) (by omega) ht (fun hg => (hu hg).1), foldS_ok (u := u) (by omega) ht (fun hg => (hu hg).2.1)]
    simp only [R6_r, R7_r, R8_r, R9_r, beq_self_eq_true, bne_self_eq_false, Bool.not_true, cond_false]
    cases hg : goodT wide s.length t
    · simp only [cond_false]
      rw [sameNodes_ok (by omega) _ _ (by simp)]
      have hv : vOK wide t s = false := by simp [vOK, hg]
      simp only [R10_r, decide_true, Bool.not_true, cond_false, hv]
      exact folded_end (by omega) hmm
    · obtain ⟨f1, f2, f3, f4, f5, f6, f7, f8⟩ := hu hg
      simp only [cond_true]
      rw [sameNodes_ok (by omega) _ _ (by omega)]
      simp only [R10_r, decide_true, Bool.not_true, cond_false]
      cases hv : vOK wide t s
      · exact folded_end (by omega) hmm
      · obtain ⟨g1, g2, g3⟩ := v_get hv
        obtain ⟨v, e1, e2⟩ := f8 s rfl g2
        have hvu : vOK wide u s = true := by
          simp only [vOK, Bool.and_eq_true] at hv ⊢
          exact ⟨f3, hv.2⟩
        have h1 := vlist_len t
        have h2 := canI_len (vlist t)
        simp only [cond_true]
        rw [vI_ok (by omega) wide u (by omega) s hs, foldI_ok (u := u) (by omega) (by omega) (fun _ => f6), varsInI_ok (by omega) wide s.length t ht, varsInI_ok (by omega) wide s.length u (by omega), kindI_ok (by omega) wide s.length t ht, kindI_ok (by omega) wide s.length u (by omega)]
        rw [hvu, f3, hg, f4, f7, e1, e2]
        simp only [R6_r, R8_r, R11_r, R12_r, Bool.not_true, cond_false, cond_true, bne_self_eq_false]
        rw [sameNodes_ok (by omega) _ _ (by omega), sameI_ok (by omega) _ (by omega)]
        simp only [R10_r, R13_r, decide_true, Bool.not_true, cond_false]
        exact folded_end (by omega) hmm
  · rfl
theorem lawFnFolded (code more : List Int) (hc : ∀ n ∈ code, (Lit.int .u8 n).wf = true) (hm : ∀ n ∈ more, (Lit.int .u8 n).wf = true) : Contract Try.prog 3 (([.row 0 0 (ints .u8 code), .row 0 0 (ints .u8 more)] : List PV).map .p) [] ([.c (.p (.bool true))], []) := by
  obtain ⟨e1, h1⟩ := ints_encB code hc
  obtain ⟨e2, h2⟩ := ints_encB more hm
  rw [e1, e2]
  exact evF_sound envOK pOK (T := T) hT 1048700 (folded_true (k := 1048700) (Nat.le_refl _) _ _ h1 h2)
end Go.Proofs.Ytocmjgfbcpgaoaa
