/- The draws of terms with their width and variables, and of what is put for these. -/
import Derived.Test.YtocmjgfbcpgaoaaKc
set_option linter.unusedVariables false
set_option linter.unusedSimpArgs false
set_option maxRecDepth 4000
namespace Go.Proofs.Ytocmjgfbcpgaoaa
open Go.Dp

theorem set_encT (t : List Nd) (i : Nat) (x : Nd) : (encT t).set i (encN x) = encT (t.set i x) := by simp [encT, List.map_set]
theorem put_n (x : Nd) (a : W) : putPart (encN x) 2 1 (PV.int .u64 (wi a)) 0 = some (encN (x.1, a)) := rfl
theorem put_op (x : Nd) (n : Int) : putPart (encN x) 2 0 (PV.int .i64 n) 0 = some (encN (n, x.2)) := rfl
theorem term_tail {bs : List Nat} (hc : CodeOK bs) (wide v1 : Int) (hv1 : 0 ≤ v1 ∧ v1 ≤ 5) (t : List Nd) (ht : 1 ≤ t.length ∧ t.length ≤ 100) {k : Nat} (hk : 100 ≤ k) {at' : Int} (h0 : 0 ≤ at') (h1 : at' ≤ 700000000) (s : W) :
    ∃ a2 s2 vars u, (R31 (c31 k 40 (encB bs) at' (wi s)) fun l8 q13 q14 q15 =>
      bif (q15 == 0) then
       bif decide ((0 : Int) < ((encT t).length : Int)) then
        ((encT t)[0]?).bind fun p1 =>
        (putPart p1 2 1 (PV.int .u64 9223372036854775808) 0).bind fun p2 =>
        r16 l8 q13 q14 wide v1 (((encT t).set 0 p2).take (encT t).length)
       else none
      else
       bif (q15 == 1) then
        bif decide ((0 : Int) ≤ IntKind.i64.wrap (((encT t).length : Int) - 1)) && decide (IntKind.i64.wrap (((encT t).length : Int) - 1) ≤ ((encT t).length : Int)) then
         r16 l8 q13 q14 wide v1 ((encT t).take ((IntKind.i64.wrap (((encT t).length : Int) - 1)).toNat))
        else none
       else
        bif (q15 == 2) then
         R30 (c30 k [PV.int .i64 0, PV.int .i64 4, PV.int .i64 5] l8 q13 q14) fun l9 q16 q17 q18 =>
         r16 l9 q16 q17 wide q18 ((encT t).take (encT t).length)
        else
         bif (q15 == 3) then
          R31 (c31 k 23 l8 q13 q14) fun l10 q19 q20 q21 =>
          bif decide ((0 : Int) ≤ IntKind.i64.wrap (((encT t).length : Int) - 1)) && decide (IntKind.i64.wrap (((encT t).length : Int) - 1) < ((encT t).length : Int)) then
           ((encT t)[0 + ((IntKind.i64.wrap (((encT t).length : Int) - 1)).toNat)]?).bind fun p3 =>
           (putPart p3 2 0 (PV.int .i64 q21) 0).bind fun p4 =>
           r16 l10 q19 q20 wide v1 (((encT t).set (0 + ((IntKind.i64.wrap (((encT t).length : Int) - 1)).toNat)) p4).take (encT t).length)
          else none
         else r16 l8 q13 q14 wide v1 ((encT t).take (encT t).length)) = r16 (encB bs) a2 (wi s2) wide vars (encT u) ∧ at' ≤ a2 ∧ a2 ≤ at' + 10 ∧ 0 ≤ vars ∧ vars ≤ 5 ∧ u.length ≤ 100 := by
  obtain ⟨a3, s3, v, h, h4, h5, h6, h7, _⟩ := pick_ok hc (k := k) (by omega) h0 (by omega) s 40
  rw [h]
  simp only [R31_r]
  have hw1 : IntKind.i64.wrap (((encT t).length : Int) - 1) = ((t.length - 1 : Nat) : Int) := by rw [encT_length, i64_id (by omega) (by omega)]; omega
  rw [hw1]
  simp only [encT_length, Int.toNat_natCast, Nat.zero_add, encT_get, encT_take]
  cases e0 : (v == 0)
  · simp only [cond_false]
    cases e1 : (v == 1)
    · simp only [cond_false]
      cases e2 : (v == 2)
      · simp only [cond_false]
        cases e3 : (v == 3)
        · simp only [cond_false]
          exact ⟨a3, s3, v1, t, by rw [List.take_length], by omega, by omega, by omega, by omega, ht.2⟩
        · simp only [cond_true]
          obtain ⟨a4, s4, w, h, h8, h9, _⟩ := pick_ok hc (k := k) (by omega) (at' := a3) (by omega) (by omega) s3 23
          rw [h]
          simp only [R31_r]
          have hd : (decide ((0 : Int) ≤ ((t.length - 1 : Nat) : Int)) && decide (((t.length - 1 : Nat) : Int) < (t.length : Int))) = true := by (simp; try omega)
          have hlt : t.length - 1 < t.length := by omega
          rw [hd, List.getElem?_eq_getElem hlt]
          simp only [cond_true, Option.map_some, Option.bind_some, put_op, set_encT, encT_take]
          refine ⟨a4, s4, v1, t.set (t.length - 1) (w, (t[t.length - 1]).2), ?_, by omega, by omega, by omega, by omega, by simpa using ht.2⟩
          rw [List.take_of_length_le (by simp)]
      · simp only [cond_true]
        obtain ⟨a4, s4, w, h, h8, h9, h10⟩ := among_ok hc (k := k) (by omega) (at' := a3) (by omega) (by omega) s3 [0, 4, 5] (by simp)
        rw [show ([PV.int .i64 0, PV.int .i64 4, PV.int .i64 5] : List PV) = encZ [0, 4, 5] from rfl, h]
        simp only [R30_r]
        simp at h10
        exact ⟨a4, s4, w, t, by rw [List.take_length], by omega, by omega, by omega, by omega, ht.2⟩
    · simp only [cond_true]
      have hd : (decide ((0 : Int) ≤ ((t.length - 1 : Nat) : Int)) && decide (((t.length - 1 : Nat) : Int) ≤ (t.length : Int))) = true := by (simp; try omega)
      rw [hd]
      exact ⟨a3, s3, v1, t.take (t.length - 1), rfl, by omega, by omega, by omega, by omega, by (simp; try omega)⟩
  · simp only [cond_true]
    have hd : decide ((0 : Int) < (t.length : Int)) = true := by (simp; try omega)
    have hlt : 0 < t.length := by omega
    have ew : (9223372036854775808 : Int) = wi (9223372036854775808#64) := rfl
    rw [hd, List.getElem?_eq_getElem hlt, ew]
    simp only [cond_true, Option.map_some, Option.bind_some, put_n, set_encT, encT_take]
    refine ⟨a3, s3, v1, t.set 0 ((t[0]).1, 9223372036854775808#64), ?_, by omega, by omega, by omega, by omega, by simpa using ht.2⟩
    rw [List.take_of_length_le (by simp)]
theorem term_ok {bs : List Nat} (hc : CodeOK bs) {k : Nat} (hk : 130 ≤ k) {at' : Int} (h0 : 0 ≤ at') (h1 : at' ≤ 600000000) (s : W) :
    ∃ a2 s2 wide vars t, c16 k (encB bs) at' (wi s) = r16 (encB bs) a2 (wi s2) wide vars (encT t) ∧ at' ≤ a2 ∧ a2 ≤ at' + 600 ∧ 1 ≤ wide ∧ wide ≤ 64 ∧ 0 ≤ vars ∧ vars ≤ 5 ∧ t.length ≤ 100 := by
  obtain ⟨k, rfl⟩ : ∃ j, k = j + 1 := ⟨k - 1, by omega⟩
  rw [n16, show ([PV.int .i64 1, PV.int .i64 2, PV.int .i64 3, PV.int .i64 4, PV.int .i64 8, PV.int .i64 64] : List PV) = encZ [1, 2, 3, 4, 8, 64] from rfl]
  obtain ⟨a2, s2, wide, h, h2, h3, h4⟩ := among_ok hc (k := k) (by omega) h0 (by omega) s [1, 2, 3, 4, 8, 64] (by simp)
  simp at h4
  rw [h]
  simp only [R30_r]
  obtain ⟨a3, s3, v, h, h5, h6, h7, h8, _⟩ := pick_ok hc (k := k) (by omega) (at' := a2) (by omega) (by omega) s2 3
  rw [h]
  simp only [R31_r]
  have ev : IntKind.i64.wrap (1 + v) = 1 + v := i64_id (by omega) (by omega)
  rw [ev]
  obtain ⟨a4, s4, t, h, h9, h10, h11, h12⟩ := asked_ok hc (wide := wide) (vars := 1 + v) (by omega) (by omega) (by omega) (by omega) 2 (k := k) (by omega) (by omega) (at' := a3) (by omega) (by omega) s3
  have h' : c32 k wide (1 + v) 2 (encB bs) a3 (wi s3) = r32 (encB bs) a4 (wi s4) (encT t) := h
  rw [h']
  simp only [R32_r]
  obtain ⟨a5, s5, b, h, h13, h14⟩ := one_ok hc (k := k) (by omega) (at' := a4) (by omega) (by omega) s4 3
  rw [h]
  simp only [R33_r]
  cases b
  · simp only [cond_false]
    obtain ⟨a6, s6, vars, u, h, h15, h16, h17, h18, h19⟩ := term_tail hc wide (1 + v) (by omega) t (by omega) (k := k) (by omega) (at' := a5) (by omega) (by omega) s5
    rw [h]
    exact ⟨a6, s6, wide, vars, u, rfl, by omega, by omega, by omega, by omega, h17, h18, h19⟩
  · simp only [cond_true]
    obtain ⟨a6, s6, u, h, h15, h16, h17, h18, _⟩ := number_int hc (wide := wide) (vars := 1 + v) (by omega) (by omega) (by omega) (by omega) (d := 3) (by omega) (by omega) (k := k) (by omega) (at' := a5) (by omega) (by omega) s5
    rw [h]
    simp only [R34_r]
    obtain ⟨a7, s7, vars, u2, h, h19, h20, h21, h22, h23⟩ := term_tail hc wide (1 + v) (by omega) u (by omega) (k := k) (by omega) (at' := a6) (by omega) (by omega) s6
    rw [h]
    exact ⟨a7, s7, wide, vars, u2, rfl, by omega, by omega, by omega, by omega, h21, h22, h23⟩
end Go.Proofs.Ytocmjgfbcpgaoaa
