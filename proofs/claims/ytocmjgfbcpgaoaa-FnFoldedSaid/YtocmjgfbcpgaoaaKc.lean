/- The draws of terms. -/
import Derived.Test.YtocmjgfbcpgaoaaKb
set_option linter.unusedVariables false
set_option linter.unusedSimpArgs false
set_option maxRecDepth 4000
namespace Go.Proofs.Ytocmjgfbcpgaoaa
open Go.Dp

theorem number_ok {bs : List Nat} (hc : CodeOK bs) {wide vars : Int} (hw0 : 0 ≤ wide) (hw : wide ≤ 64) (hv : 1 ≤ vars) (hv2 : vars ≤ 100) : ∀ (d : Nat) {k : Nat} (hk : 80 + d ≤ k) (hd : d ≤ 16) {at' : Int} (h0 : 0 ≤ at') (h1 : at' + (20 * 2 ^ d : Nat) ≤ 900000000) (s : W),
    ∃ a2 s2 t, c34 k wide vars (d : Int) (encB bs) at' (wi s) = r34 (encB bs) a2 (wi s2) (encT t) ∧ at' ≤ a2 ∧ a2 ≤ at' + (20 * (2 ^ d : Nat) - 10 : Nat) ∧ 1 ≤ t.length ∧ t.length + 1 ≤ 2 ^ (d + 1)
  | 0, k, hk, hd, at', h0, h1, s => by
    obtain ⟨k, rfl⟩ : ∃ j, k = j + 1 := ⟨k - 1, by omega⟩
    rw [n34]
    have e : (((0 : Nat) : Int) == 0) = true := rfl
    simp only [e, cond_true]
    obtain ⟨a2, s2, b, h, h2, h3⟩ := one_ok hc (k := k) (by omega) h0 (by omega) s 2
    rw [h]
    simp only [R33_r]
    cases b
    · simp only [cond_false]
      obtain ⟨a3, s3, v, h, h4, h5, _⟩ := pick_ok hc (k := k) (by omega) (at' := a2) (by omega) (by omega) s2 vars
      rw [h]
      simp only [R31_r]
      rw [wrapU]
      exact ⟨a3, s3, [(2, BitVec.ofInt 64 v)], rfl, by omega, by (simp; try omega), by simp, by simp⟩
    · simp only [cond_true]
      obtain ⟨a3, s3, v, h, h4, h5, _⟩ := pick_ok hc (k := k) (by omega) (at' := a2) (by omega) (by omega) s2 9
      rw [h]
      simp only [R31_r]
      rw [wrapU, cut_ok (by omega) hw0 hw]
      simp only [R50_r]
      exact ⟨a3, s3, [(1, _)], rfl, by omega, by (simp; try omega), by simp, by simp⟩
  | d + 1, k, hk, hd, at', h0, h1, s => by
    obtain ⟨k, rfl⟩ : ∃ j, k = j + 1 := ⟨k - 1, by omega⟩
    have ih := fun (a : Int) (h0 : 0 ≤ a) (h1 : a + (20 * 2 ^ d : Nat) ≤ 900000000) (s : W) => number_ok hc hw0 hw hv hv2 d (k := k) (by omega) (by omega) h0 h1 s
    have hp : (2 : Nat) ^ d ≤ 65536 := Nat.pow_le_pow_right (n := 2) (by omega) (show d ≤ 16 by omega)
    have hp1 : 1 ≤ (2 : Nat) ^ d := Nat.one_le_two_pow
    have e2 : (2 : Nat) ^ (d + 1) = 2 * 2 ^ d := by rw [Nat.pow_succ]; omega
    have e3 : (2 : Nat) ^ (d + 1 + 1) = 4 * 2 ^ d := by rw [Nat.pow_succ, e2]; omega
    rw [e3]
    rw [e2] at h1 ⊢
    rw [n34]
    have e : (((d + 1 : Nat) : Int) == 0) = false := by (simp; try omega)
    have e1 : IntKind.i64.wrap (((d + 1 : Nat) : Int) - 1) = (d : Int) := by rw [i64_id (by omega) (by omega)]; omega
    simp only [e, cond_false, e1]
    obtain ⟨a2, s2, b, h, h2, h3⟩ := one_ok hc (k := k) (by omega) h0 (by omega) s 4
    rw [h]
    simp only [R33_r]
    cases b
    · simp only [cond_false]
      obtain ⟨a3, s3, b, h, h4, h5⟩ := one_ok hc (k := k) (by omega) (at' := a2) (by omega) (by omega) s2 7
      rw [h]
      simp only [R33_r]
      cases b
      · simp only [cond_false]
        obtain ⟨a4, s4, t, h, h6, h7, h8, h9⟩ := ih a3 (by omega) (by omega) s3
        rw [h]
        simp only [R34_r]
        obtain ⟨a5, s5, u, h, h10, h11, h12, h13⟩ := ih a4 (by omega) (by omega) s4
        rw [h]
        simp only [R34_r]
        rw [lim_ok (by (simp; try omega)) (by omega)]
        simp only [cond_true]
        obtain ⟨a6, s6, v, h, h14, h15, _⟩ := among_ok hc (k := k) (by omega) (at' := a5) (by omega) (by omega) s5 [3, 3, 3, 4, 4, 5, 8, 9, 10] (by simp)
        rw [show ([PV.int .i64 3, PV.int .i64 3, PV.int .i64 3, PV.int .i64 4, PV.int .i64 4, PV.int .i64 5, PV.int .i64 8, PV.int .i64 9, PV.int .i64 10] : List PV) = encZ [3, 3, 3, 4, 4, 5, 8, 9, 10] from rfl, h]
        simp only [R30_r]
        obtain ⟨a7, s7, b, h, h16, h17⟩ := one_ok hc (k := k) (by omega) (at' := a6) (by omega) (by omega) s6 6
        rw [h]
        simp only [R33_r]
        cases b
        · simp only [cond_false]
          rw [lim_ok (by (simp; try omega)) (by omega), take2]
          exact ⟨a7, s7, t ++ u ++ [(v, 0#64)], by simp [encT, encN, wi], by omega, by omega, by (simp; try omega), by (simp; try omega)⟩
        · simp only [cond_true]
          obtain ⟨a8, s8, v2, h, h18, h19, _⟩ := among_ok hc (k := k) (by omega) (at' := a7) (by omega) (by omega) s7 [6, 7, 11, 12] (by simp)
          rw [show ([PV.int .i64 6, PV.int .i64 7, PV.int .i64 11, PV.int .i64 12] : List PV) = encZ [6, 7, 11, 12] from rfl, h]
          simp only [R30_r]
          rw [lim_ok (by (simp; try omega)) (by omega), take2]
          exact ⟨a8, s8, t ++ u ++ [(v2, 0#64)], by simp [encT, encN, wi], by omega, by omega, by (simp; try omega), by (simp; try omega)⟩
      · simp only [cond_true]
        obtain ⟨a4, s4, t, h, h6, h7, h8, h9⟩ := ih a3 (by omega) (by omega) s3
        rw [h]
        simp only [R34_r]
        rw [lim_ok (by (simp; try omega)) (by omega), take1]
        exact ⟨a4, s4, t ++ [(13, 0#64)], by simp [encT, encN, wi], by omega, by omega, by simp, by (simp; try omega)⟩
    · simp only [cond_true]
      obtain ⟨a3, s3, b, h, h4, h5⟩ := one_ok hc (k := k) (by omega) (at' := a2) (by omega) (by omega) s2 2
      rw [h]
      simp only [R33_r]
      cases b
      · simp only [cond_false]
        obtain ⟨a4, s4, v, h, h6, h7, _⟩ := pick_ok hc (k := k) (by omega) (at' := a3) (by omega) (by omega) s3 vars
        rw [h]
        simp only [R31_r]
        rw [wrapU]
        exact ⟨a4, s4, [(2, BitVec.ofInt 64 v)], rfl, by omega, by omega, by simp, by (simp; try omega)⟩
      · simp only [cond_true]
        obtain ⟨a4, s4, v, h, h6, h7, _⟩ := pick_ok hc (k := k) (by omega) (at' := a3) (by omega) (by omega) s3 9
        rw [h]
        simp only [R31_r]
        rw [wrapU, cut_ok (by omega) hw0 hw]
        simp only [R50_r]
        exact ⟨a4, s4, [(1, _)], rfl, by omega, by omega, by simp, by (simp; try omega)⟩
theorem number_int {bs : List Nat} (hc : CodeOK bs) {wide vars : Int} (hw0 : 0 ≤ wide) (hw : wide ≤ 64) (hv : 1 ≤ vars) (hv2 : vars ≤ 100) {d : Int} (hd0 : 0 ≤ d) (hd : d ≤ 3) {k : Nat} (hk : 90 ≤ k) {at' : Int} (h0 : 0 ≤ at') (h1 : at' ≤ 800000000) (s : W) :
    ∃ a2 s2 t, c34 k wide vars d (encB bs) at' (wi s) = r34 (encB bs) a2 (wi s2) (encT t) ∧ at' ≤ a2 ∧ a2 ≤ at' + 150 ∧ 1 ≤ t.length ∧ t.length ≤ 15 ∧ (d ≤ 1 → t.length ≤ 3 ∧ a2 ≤ at' + 30) := by
  have hd2 : d.toNat ≤ 3 := by omega
  have e1 : 1 ≤ (2 : Nat) ^ d.toNat := Nat.one_le_two_pow
  have e2 : (2 : Nat) ^ d.toNat ≤ 2 ^ 3 := Nat.pow_le_pow_right (by omega) hd2
  have e3 : (2 : Nat) ^ (d.toNat + 1) = 2 * 2 ^ d.toNat := by rw [Nat.pow_succ]; omega
  obtain ⟨a2, s2, t, h, h2, h3, h4, h5⟩ := number_ok hc hw0 hw hv hv2 d.toNat (k := k) (by omega) (by omega) (at' := at') h0 (by omega) s
  rw [Int.toNat_of_nonneg hd0] at h
  refine ⟨a2, s2, t, h, h2, by omega, h4, by omega, fun hd3 => ?_⟩
  have e4 : (2 : Nat) ^ d.toNat ≤ 2 ^ 1 := Nat.pow_le_pow_right (by omega) (by omega)
  omega
theorem asked_base {bs : List Nat} (hc : CodeOK bs) {wide vars : Int} (hw0 : 0 ≤ wide) (hw : wide ≤ 64) (hv : 1 ≤ vars) (hv2 : vars ≤ 100) {k : Nat} (hk : 100 ≤ k) {at' : Int} (h0 : 0 ≤ at') (h1 : at' ≤ 700000000) (s : W) :
    ∃ a2 s2 t, (R34 (c34 k wide vars 1 (encB bs) at' (wi s)) fun l12 q19 q20 l13 =>
      R31 (c31 k 2 l12 q19 q20) fun l14 q21 q22 q23 =>
      R34 (c34 k wide vars q23 l14 q21 q22) fun l15 q24 q25 l16 =>
      bif decide ((l13.length + ((l16.take l16.length).length)) * 16 ≤ LIM) && decide (l13.length + ((l16.take l16.length).length) ≤ LIM) then
       R30 (c30 k [PV.int .i64 14, PV.int .i64 15, PV.int .i64 15, PV.int .i64 16] l15 q24 q25) fun l17 q26 q27 q28 =>
       bif decide (((l13.length + ((l16.take l16.length).length)) + 1) * 16 ≤ LIM) && decide ((l13.length + ((l16.take l16.length).length)) + 1 ≤ LIM) then
        r32 l17 q26 q27 (((((l13.take l13.length) ++ (l16.take l16.length)).take (l13.length + ((l16.take l16.length).length))) ++ [PV.agg [.int .i64 q28, .int .u64 0]]).take ((l13.length + ((l16.take l16.length).length)) + 1))
       else none
      else none) = r32 (encB bs) a2 (wi s2) (encT t) ∧ at' ≤ a2 ∧ a2 ≤ at' + 70 ∧ 1 ≤ t.length ∧ t.length ≤ 7 := by
  obtain ⟨a4, s4, t, h, h6, h7, h8, h9, h10⟩ := number_int hc hw0 hw hv hv2 (d := 1) (by omega) (by omega) (k := k) (by omega) h0 (by omega) s
  have h10 := h10 (by omega)
  rw [h]
  simp only [R34_r]
  obtain ⟨a5, s5, v, h, h11, h12, h13, h14, _⟩ := pick_ok hc (k := k) (by omega) (at' := a4) (by omega) (by omega) s4 2
  rw [h]
  simp only [R31_r]
  obtain ⟨a6, s6, u, h, h15, h16, h17, h18, h19⟩ := number_int hc hw0 hw hv hv2 (d := v) (by omega) (by omega) (k := k) (by omega) (at' := a5) (by omega) (by omega) s5
  have h19 := h19 (by omega)
  rw [h]
  simp only [R34_r]
  rw [lim_ok (by (simp; try omega)) (by omega)]
  simp only [cond_true]
  obtain ⟨a7, s7, w, h, h20, h21, _⟩ := among_ok hc (k := k) (by omega) (at' := a6) (by omega) (by omega) s6 [14, 15, 15, 16] (by simp)
  rw [show ([PV.int .i64 14, PV.int .i64 15, PV.int .i64 15, PV.int .i64 16] : List PV) = encZ [14, 15, 15, 16] from rfl, h]
  simp only [R30_r]
  rw [lim_ok (by (simp; try omega)) (by omega), take2]
  exact ⟨a7, s7, t ++ u ++ [(w, 0#64)], by simp [encT, encN, wi], by omega, by omega, by (simp; try omega), by (simp; try omega)⟩
theorem asked_ok {bs : List Nat} (hc : CodeOK bs) {wide vars : Int} (hw0 : 0 ≤ wide) (hw : wide ≤ 64) (hv : 1 ≤ vars) (hv2 : vars ≤ 100) : ∀ (d : Nat) {k : Nat} (hk : 110 + d ≤ k) (hd : d ≤ 16) {at' : Int} (h0 : 0 ≤ at') (h1 : at' + (100 * 2 ^ d : Nat) ≤ 700000000) (s : W),
    ∃ a2 s2 t, c32 k wide vars (d : Int) (encB bs) at' (wi s) = r32 (encB bs) a2 (wi s2) (encT t) ∧ at' ≤ a2 ∧ a2 ≤ at' + (100 * (2 ^ d : Nat) - 20 : Nat) ∧ 1 ≤ t.length ∧ t.length + 1 ≤ 8 * 2 ^ d
  | d, k, hk, hd, at', h0, h1, s => by
    obtain ⟨k, rfl⟩ : ∃ j, k = j + 1 := ⟨k - 1, by omega⟩
    have hp : (2 : Nat) ^ d ≤ 65536 := Nat.pow_le_pow_right (n := 2) (by omega) (show d ≤ 16 by omega)
    have hp1 : 1 ≤ (2 : Nat) ^ d := Nat.one_le_two_pow
    rw [n32]
    obtain ⟨a2, s2, b, h, h2, h3⟩ := one_ok hc (k := k) (by omega) h0 (by omega) s 20
    rw [h]
    simp only [R33_r]
    cases b
    · simp only [cond_false]
      cases d with
      | zero =>
        have e : decide (((0 : Nat) : Int) > 0) = false := rfl
        simp only [e, cond_false]
        obtain ⟨a3, s3, t, h, h4, h5, h6, h7⟩ := asked_base hc hw0 hw hv hv2 (k := k) (by omega) (at' := a2) (by omega) (by omega) s2
        rw [h]
        exact ⟨a3, s3, t, rfl, by omega, by omega, h6, by omega⟩
      | succ d =>
        have e : decide (((d + 1 : Nat) : Int) > 0) = true := by (simp; try omega)
        have e1 : IntKind.i64.wrap (((d + 1 : Nat) : Int) - 1) = (d : Int) := by rw [i64_id (by omega) (by omega)]; omega
        have e2 : (2 : Nat) ^ (d + 1) = 2 * 2 ^ d := by rw [Nat.pow_succ]; omega
        rw [e2] at h1 hp hp1 ⊢
        have ih := fun (a : Int) (h0 : 0 ≤ a) (h1 : a + (100 * 2 ^ d : Nat) ≤ 700000000) (s : W) => asked_ok hc hw0 hw hv hv2 d (k := k) (by omega) (by omega) h0 h1 s
        simp only [e, cond_true, e1]
        obtain ⟨a3, s3, b, h, h4, h5⟩ := one_ok hc (k := k) (by omega) (at' := a2) (by omega) (by omega) s2 4
        rw [h]
        simp only [R33_r]
        cases b
        · simp only [cond_false]
          obtain ⟨a4, s4, b, h, h6, h7⟩ := one_ok hc (k := k) (by omega) (at' := a3) (by omega) (by omega) s3 2
          rw [h]
          simp only [R33_r]
          cases b
          · simp only [cond_false]
            obtain ⟨a5, s5, t, h, h8, h9, h10, h11⟩ := asked_base hc hw0 hw hv hv2 (k := k) (by omega) (at' := a4) (by omega) (by omega) s4
            rw [h]
            exact ⟨a5, s5, t, rfl, by omega, by omega, h10, by omega⟩
          · simp only [cond_true]
            obtain ⟨a5, s5, t, h, h8, h9, h10, h11⟩ := ih a4 (by omega) (by omega) s4
            rw [h]
            simp only [R32_r]
            obtain ⟨a6, s6, u, h, h12, h13, h14, h15⟩ := ih a5 (by omega) (by omega) s5
            rw [h]
            simp only [R32_r]
            rw [lim_ok (by (simp; try omega)) (by omega)]
            simp only [cond_true]
            obtain ⟨a7, s7, w, h, h20, h21, _⟩ := among_ok hc (k := k) (by omega) (at' := a6) (by omega) (by omega) s6 [17, 18] (by simp)
            rw [show ([PV.int .i64 17, PV.int .i64 18] : List PV) = encZ [17, 18] from rfl, h]
            simp only [R30_r]
            rw [lim_ok (by (simp; try omega)) (by omega), take2]
            exact ⟨a7, s7, t ++ u ++ [(w, 0#64)], by simp [encT, encN, wi], by omega, by omega, by (simp; try omega), by (simp; try omega)⟩
        · simp only [cond_true]
          obtain ⟨a5, s5, t, h, h8, h9, h10, h11⟩ := ih a3 (by omega) (by omega) s3
          rw [h]
          simp only [R32_r]
          rw [lim_ok (by (simp; try omega)) (by omega), take1]
          exact ⟨a5, s5, t ++ [(19, 0#64)], by simp [encT, encN, wi], by omega, by omega, by simp, by (simp; try omega)⟩
    · simp only [cond_true]
      obtain ⟨a3, s3, v, h, h4, h5, _⟩ := pick_ok hc (k := k) (by omega) (at' := a2) (by omega) (by omega) s2 2
      rw [h]
      simp only [R31_r]
      rw [wrapU]
      exact ⟨a3, s3, [(20, BitVec.ofInt 64 v)], rfl, by omega, by omega, by simp, by (simp; try omega)⟩
end Go.Proofs.Ytocmjgfbcpgaoaa
