/- Calls and loops of the program, by shape: printed by nf.py. -/
import Derived.Test.YtnliglgellapdaaEnv
set_option linter.unusedVariables false
namespace Go.Proofs.Ytnliglgellapdaa
open Go.Dp
noncomputable section
/-! 4 : laws.FnNumbered -/
def c4 (k : Nat) (code more : List PV) : R := evF P E T k 4 [.s (.c (.p (PV.row 0 0 code))), .s (.c (.p (PV.row 0 0 more)))] []
def r4 (b : Bool) : R := some ([.c (.p (PV.bool b))], [])
def R4 (x0 : R) (K0 : Bool → R) : R := x0.bind fun q0 => bif lensB q0.2 [] && lensS q0.1 [.c (.p (.bool))] then (cBool (resAt q0.1 0)).bind fun b => K0 b else none
@[simp] theorem R4_r (b : Bool) (K0 : Bool → R) : R4 (r4 b) K0 = K0 b := by kernel_rfl
/-! 5 : laws.FnPutFor -/
def c5 (k : Nat) (code more : List PV) : R := evF P E T k 5 [.s (.c (.p (PV.row 0 0 code))), .s (.c (.p (PV.row 0 0 more)))] []
def r5 (b : Bool) : R := some ([.c (.p (PV.bool b))], [])
def R5 (x0 : R) (K0 : Bool → R) : R := x0.bind fun q0 => bif lensB q0.2 [] && lensS q0.1 [.c (.p (.bool))] then (cBool (resAt q0.1 0)).bind fun b => K0 b else none
@[simp] theorem R5_r (b : Bool) (K0 : Bool → R) : R5 (r5 b) K0 = K0 b := by kernel_rfl
def L5_1 (k n : Nat) (more : List PV) (w1 vars : Int) (t by1 p : List PV) (stateLen valuesLen : Nat) (k1 : Int) (xs xs1 : List PV) : R := evLoopAt P E T k 5 [] [1, 1, 1, 1, 1, 1, 1, 1, 0, 1, 0] [] n ⟨mkT 140 [(1, .s (.c (.p (PV.row 0 0 more)))), (5, .s (.c (.p (PV.int .i64 w1)))), (6, .s (.c (.p (PV.int .i64 vars)))), (7, .s (.c (.p (PV.row 2 0 t)))), (8, .s (.c (.p (PV.row 0 0 by1)))), (9, .s (.c (.p (PV.row 2 0 p)))), (13, .s (.c (.loc 0 0 0 0 stateLen))), (14, .s (.c (.loc 1 0 0 0 valuesLen))), (15, .s (.c (.p (PV.int .i64 k1))))], [.arr 50 0 0 false xs, .arr 50 0 0 false xs1]⟩
def L5_2 (k n : Nat) (w1 : Int) (t p : List PV) (stateLen valuesLen : Nat) (t97 : List PV) (t98 t99 : Int) (xs xs1 : List PV) : R := evLoopAt P E T k 5 [] [1, 1, 1, 1, 1, 1, 1, 1, 1, 0, 1, 0] [] n ⟨mkT 140 [(5, .s (.c (.p (PV.int .i64 w1)))), (7, .s (.c (.p (PV.row 2 0 t)))), (9, .s (.c (.p (PV.row 2 0 p)))), (13, .s (.c (.loc 0 0 0 0 stateLen))), (14, .s (.c (.loc 1 0 0 0 valuesLen))), (97, .s (.c (.p (PV.row 0 0 t97)))), (98, .s (.c (.p (PV.int .i64 t98)))), (99, .s (.c (.p (PV.int .i64 t99))))], [.arr 50 0 0 false xs, .arr 50 0 0 false xs1]⟩
/-! 6 : laws.FnJoined -/
def c6 (k : Nat) (code more : List PV) : R := evF P E T k 6 [.s (.c (.p (PV.row 0 0 code))), .s (.c (.p (PV.row 0 0 more)))] []
def r6 (b : Bool) : R := some ([.c (.p (PV.bool b))], [])
def R6 (x0 : R) (K0 : Bool → R) : R := x0.bind fun q0 => bif lensB q0.2 [] && lensS q0.1 [.c (.p (.bool))] then (cBool (resAt q0.1 0)).bind fun b => K0 b else none
@[simp] theorem R6_r (b : Bool) (K0 : Bool → R) : R6 (r6 b) K0 = K0 b := by kernel_rfl
def L6_1 (k n : Nat) (code more : List PV) (w1 vars op : Int) (a b j : List PV) (ok : Bool) (stateLen : Nat) (k1 : Int) (xs : List PV) : R := evLoopAt P E T k 6 [] [1, 1, 1, 1, 1, 1, 1, 0, 1, 0] [] n ⟨mkT 296 [(0, .s (.c (.p (PV.row 0 0 code)))), (1, .s (.c (.p (PV.row 0 0 more)))), (5, .s (.c (.p (PV.int .i64 w1)))), (6, .s (.c (.p (PV.int .i64 vars)))), (7, .s (.c (.p (PV.int .i64 op)))), (8, .s (.c (.p (PV.row 2 0 a)))), (9, .s (.c (.p (PV.row 2 0 b)))), (10, .s (.c (.p (PV.row 2 0 j)))), (11, .s (.c (.p (PV.bool ok)))), (14, .s (.c (.loc 0 0 0 0 stateLen))), (15, .s (.c (.p (PV.int .i64 k1))))], [.arr 50 0 0 false xs]⟩
def J6_2 (k : Nat) (code more : List PV) : R := evCutAt P E T k 6 [] [1, 1, 1, 1, 1, 1, 1, 1, 1, 0] [] ⟨mkT 296 [(0, .s (.c (.p (PV.row 0 0 code)))), (1, .s (.c (.p (PV.row 0 0 more))))], []⟩
def L6_3 (k n : Nat) (code : List PV) (u n1 : Int) (t : List PV) (one : Bool) (twice : List PV) (three : Bool) (otherLen : Nat) (k1 : Int) (xs : List PV) : R := evLoopAt P E T k 6 [] [1, 1, 1, 1, 1, 1, 1, 1, 1, 1, 1, 1, 1, 1, 1, 0, 1, 0] [] n ⟨mkT 296 [(0, .s (.c (.p (PV.row 0 0 code)))), (28, .s (.c (.p (PV.int .i64 u)))), (29, .s (.c (.p (PV.int .i64 n1)))), (31, .s (.c (.p (PV.row 2 0 t)))), (33, .s (.c (.p (PV.bool one)))), (36, .s (.c (.p (PV.row 2 0 twice)))), (37, .s (.c (.p (PV.bool three)))), (38, .s (.c (.loc 0 0 0 0 otherLen))), (39, .s (.c (.p (PV.int .i64 k1))))], [.arr 50 0 0 false xs]⟩
/-! 7 : laws.FnBefore -/
def c7 (k : Nat) (code more : List PV) : R := evF P E T k 7 [.s (.c (.p (PV.row 0 0 code))), .s (.c (.p (PV.row 0 0 more)))] []
def r7 (b : Bool) : R := some ([.c (.p (PV.bool b))], [])
def R7 (x0 : R) (K0 : Bool → R) : R := x0.bind fun q0 => bif lensB q0.2 [] && lensS q0.1 [.c (.p (.bool))] then (cBool (resAt q0.1 0)).bind fun b => K0 b else none
@[simp] theorem R7_r (b : Bool) (K0 : Bool → R) : R7 (r7 b) K0 = K0 b := by kernel_rfl
def L7_1 (k n : Nat) (more : List PV) (k1 : Int) (t b i : List PV) (one : Bool) (sLen : Nat) (v n1 n11 : Int) (l l1 xs : List PV) : R := evLoopAt P E T k 7 [] [1, 1, 1, 1, 1, 1, 1, 1, 1, 1, 0, 1, 0] [] n ⟨mkT 178 [(1, .s (.c (.p (PV.row 0 0 more)))), (5, .s (.c (.bptr 0 0))), (6, .s (.c (.p (PV.int .i64 k1)))), (7, .s (.c (.p (PV.row 2 0 t)))), (8, .s (.c (.p (PV.row 2 0 b)))), (12, .s (.c (.p (PV.row 2 0 i)))), (13, .s (.c (.p (PV.bool one)))), (16, .s (.c (.loc 1 0 0 0 sLen))), (17, .s (.c (.p (PV.int .i64 v))))], [.box [.p (PV.int .i64 n1), .p (PV.int .i64 n11), .p (PV.row 2 0 l), .p (PV.row 2 0 l1)], .arr 50 0 0 false xs]⟩
/-! 11 : laws.big -/
def c11 (k : Nat) (code more : List PV) : R := evF P E T k 11 [.s (.c (.p (PV.row 0 0 code))), .s (.c (.p (PV.row 0 0 more)))] []
def r11 (b : Bool) : R := some ([.c (.p (PV.bool b))], [])
def R11 (x0 : R) (K0 : Bool → R) : R := x0.bind fun q0 => bif lensB q0.2 [] && lensS q0.1 [.c (.p (.bool))] then (cBool (resAt q0.1 0)).bind fun b => K0 b else none
@[simp] theorem R11_r (b : Bool) (K0 : Bool → R) : R11 (r11 b) K0 = K0 b := by kernel_rfl
/-! 12 : spec.DrawStateNo -/
def c12 (k : Nat) (code : List PV) : R := evF P E T k 12 [.s (.c (.p (PV.row 0 0 code)))] []
def r12 (qr qr1 : Int) (l l1 l2 : List PV) : R := some ([.agg [.p (PV.int .i64 qr), .p (PV.int .i64 qr1), .p (PV.row 2 0 l), .p (PV.row 2 0 l1)], .c (.p (PV.row 0 0 l2))], [])
def R12 (x0 : R) (K0 : Int → Int → List PV → List PV → List PV → R) : R := x0.bind fun q0 => bif lensB q0.2 [] && lensS q0.1 [.agg [.p (.int .i64), .p (.int .i64), .p (.row 2), .p (.row 2)], .c (.p (.row 0))] then (cInt (Dp.partAt q0.1 0 0) .i64).bind fun qr => (cInt (Dp.partAt q0.1 0 1) .i64).bind fun qr1 => (cRow (Dp.partAt q0.1 0 2) 2).bind fun l => (cRow (Dp.partAt q0.1 0 3) 2).bind fun l1 => (cRow (resAt q0.1 1) 0).bind fun l2 => K0 qr qr1 l l1 l2 else none
@[simp] theorem R12_r (qr qr1 : Int) (l l1 l2 : List PV) (K0 : Int → Int → List PV → List PV → List PV → R) : R12 (r12 qr qr1 l l1 l2) K0 = K0 qr qr1 l l1 l2 := by kernel_rfl
/-! 13 : impl.StateNo -/
def c13 (k : Nat) (p p1 : Int) (p2 p3 qs : List PV) : R := evF P E T k 13 [.s (.c (.p (PV.agg [.int .i64 p, .int .i64 p1, .row 2 0 p2, .row 2 0 p3]))), .s (.c (.p (PV.row 0 0 qs)))] []
def r13 (qr : Int) (b : Bool) : R := some ([.c (.p (PV.int .i64 qr)), .c (.p (PV.bool b))], [])
def R13 (x0 : R) (K0 : Int → Bool → R) : R := x0.bind fun q0 => bif lensB q0.2 [] && lensS q0.1 [.c (.p (.int .i64)), .c (.p (.bool))] then (cInt (resAt q0.1 0) .i64).bind fun qr => (cBool (resAt q0.1 1)).bind fun b => K0 qr b else none
@[simp] theorem R13_r (qr : Int) (b : Bool) (K0 : Int → Bool → R) : R13 (r13 qr b) K0 = K0 qr b := by kernel_rfl
/-! 14 : spec.StateNo -/
def c14 (k : Nat) (p p1 : Int) (p2 p3 qs : List PV) : R := evF P E T k 14 [.s (.c (.p (PV.agg [.int .i64 p, .int .i64 p1, .row 2 0 p2, .row 2 0 p3]))), .s (.c (.p (PV.row 0 0 qs)))] []
def r14 (qr : Int) (b : Bool) : R := some ([.c (.p (PV.int .i64 qr)), .c (.p (PV.bool b))], [])
def R14 (x0 : R) (K0 : Int → Bool → R) : R := x0.bind fun q0 => bif lensB q0.2 [] && lensS q0.1 [.c (.p (.int .i64)), .c (.p (.bool))] then (cInt (resAt q0.1 0) .i64).bind fun qr => (cBool (resAt q0.1 1)).bind fun b => K0 qr b else none
@[simp] theorem R14_r (qr : Int) (b : Bool) (K0 : Int → Bool → R) : R14 (r14 qr b) K0 = K0 qr b := by kernel_rfl
/-! 15 : impl.IsSmall -/
def c15 (k : Nat) (p p1 : Int) (p2 p3 : List PV) : R := evF P E T k 15 [.s (.c (.p (PV.agg [.int .i64 p, .int .i64 p1, .row 2 0 p2, .row 2 0 p3])))] []
def r15 (b b1 : Bool) : R := some ([.c (.p (PV.bool b)), .c (.p (PV.bool b1))], [])
def R15 (x0 : R) (K0 : Bool → Bool → R) : R := x0.bind fun q0 => bif lensB q0.2 [] && lensS q0.1 [.c (.p (.bool)), .c (.p (.bool))] then (cBool (resAt q0.1 0)).bind fun b => (cBool (resAt q0.1 1)).bind fun b1 => K0 b b1 else none
@[simp] theorem R15_r (b b1 : Bool) (K0 : Bool → Bool → R) : R15 (r15 b b1) K0 = K0 b b1 := by kernel_rfl
/-! 16 : spec.IsSmall -/
def c16 (k : Nat) (p p1 : Int) (p2 p3 : List PV) : R := evF P E T k 16 [.s (.c (.p (PV.agg [.int .i64 p, .int .i64 p1, .row 2 0 p2, .row 2 0 p3])))] []
def r16 (b b1 : Bool) : R := some ([.c (.p (PV.bool b)), .c (.p (PV.bool b1))], [])
def R16 (x0 : R) (K0 : Bool → Bool → R) : R := x0.bind fun q0 => bif lensB q0.2 [] && lensS q0.1 [.c (.p (.bool)), .c (.p (.bool))] then (cBool (resAt q0.1 0)).bind fun b => (cBool (resAt q0.1 1)).bind fun b1 => K0 b b1 else none
@[simp] theorem R16_r (b b1 : Bool) (K0 : Bool → Bool → R) : R16 (r16 b b1) K0 = K0 b b1 := by kernel_rfl
/-! 17 : impl.StateOf -/
def c17 (k : Nat) (p p1 : Int) (p2 p3 : List PV) (no : Int) : R := evF P E T k 17 [.s (.c (.p (PV.agg [.int .i64 p, .int .i64 p1, .row 2 0 p2, .row 2 0 p3]))), .s (.c (.p (PV.int .i64 no)))] []
def r17 (l : List PV) (b : Bool) : R := some ([.c (.p (PV.row 0 0 l)), .c (.p (PV.bool b))], [])
def R17 (x0 : R) (K0 : List PV → Bool → R) : R := x0.bind fun q0 => bif lensB q0.2 [] && lensS q0.1 [.c (.p (.row 0)), .c (.p (.bool))] then (cRow (resAt q0.1 0) 0).bind fun l => (cBool (resAt q0.1 1)).bind fun b => K0 l b else none
@[simp] theorem R17_r (l : List PV) (b : Bool) (K0 : List PV → Bool → R) : R17 (r17 l b) K0 = K0 l b := by kernel_rfl
/-! 18 : laws.sameWords -/
def c18 (k : Nat) (a b : List PV) : R := evF P E T k 18 [.s (.c (.p (PV.row 0 0 a))), .s (.c (.p (PV.row 0 0 b)))] []
def r18 (b : Bool) : R := some ([.c (.p (PV.bool b))], [])
def R18 (x0 : R) (K0 : Bool → R) : R := x0.bind fun q0 => bif lensB q0.2 [] && lensS q0.1 [.c (.p (.bool))] then (cBool (resAt q0.1 0)).bind fun b => K0 b else none
@[simp] theorem R18_r (b : Bool) (K0 : Bool → R) : R18 (r18 b) K0 = K0 b := by kernel_rfl
def L18_1 (k n : Nat) (a b : List PV) (t12 t13 : Int) : R := evLoopAt P E T k 18 [] [1, 1, 0, 1, 0] [] n ⟨mkT 26 [(0, .s (.c (.p (PV.row 0 0 a)))), (1, .s (.c (.p (PV.row 0 0 b)))), (12, .s (.c (.p (PV.int .i64 t12)))), (13, .s (.c (.p (PV.int .i64 t13))))], []⟩
/-! 19 : spec.DrawStateOf -/
def c19 (k : Nat) (code : List PV) : R := evF P E T k 19 [.s (.c (.p (PV.row 0 0 code)))] []
def r19 (qr qr1 : Int) (l l1 : List PV) (qr2 : Int) : R := some ([.agg [.p (PV.int .i64 qr), .p (PV.int .i64 qr1), .p (PV.row 2 0 l), .p (PV.row 2 0 l1)], .c (.p (PV.int .i64 qr2))], [])
def R19 (x0 : R) (K0 : Int → Int → List PV → List PV → Int → R) : R := x0.bind fun q0 => bif lensB q0.2 [] && lensS q0.1 [.agg [.p (.int .i64), .p (.int .i64), .p (.row 2), .p (.row 2)], .c (.p (.int .i64))] then (cInt (Dp.partAt q0.1 0 0) .i64).bind fun qr => (cInt (Dp.partAt q0.1 0 1) .i64).bind fun qr1 => (cRow (Dp.partAt q0.1 0 2) 2).bind fun l => (cRow (Dp.partAt q0.1 0 3) 2).bind fun l1 => (cInt (resAt q0.1 1) .i64).bind fun qr2 => K0 qr qr1 l l1 qr2 else none
@[simp] theorem R19_r (qr qr1 : Int) (l l1 : List PV) (qr2 : Int) (K0 : Int → Int → List PV → List PV → Int → R) : R19 (r19 qr qr1 l l1 qr2) K0 = K0 qr qr1 l l1 qr2 := by kernel_rfl
/-! 20 : spec.StateOf -/
def c20 (k : Nat) (p p1 : Int) (p2 p3 : List PV) (no : Int) : R := evF P E T k 20 [.s (.c (.p (PV.agg [.int .i64 p, .int .i64 p1, .row 2 0 p2, .row 2 0 p3]))), .s (.c (.p (PV.int .i64 no)))] []
def r20 (l : List PV) (b : Bool) : R := some ([.c (.p (PV.row 0 0 l)), .c (.p (PV.bool b))], [])
def R20 (x0 : R) (K0 : List PV → Bool → R) : R := x0.bind fun q0 => bif lensB q0.2 [] && lensS q0.1 [.c (.p (.row 0)), .c (.p (.bool))] then (cRow (resAt q0.1 0) 0).bind fun l => (cBool (resAt q0.1 1)).bind fun b => K0 l b else none
@[simp] theorem R20_r (l : List PV) (b : Bool) (K0 : List PV → Bool → R) : R20 (r20 l b) K0 = K0 l b := by kernel_rfl
/-! 21 : spec.DrawPutAll -/
def c21 (k : Nat) (code : List PV) : R := evF P E T k 21 [.s (.c (.p (PV.row 0 0 code)))] []
def r21 (qr qr1 : Int) (l l1 : List PV) : R := some ([.c (.p (PV.int .i64 qr)), .c (.p (PV.int .i64 qr1)), .c (.p (PV.row 2 0 l)), .c (.p (PV.row 0 0 l1))], [])
def R21 (x0 : R) (K0 : Int → Int → List PV → List PV → R) : R := x0.bind fun q0 => bif lensB q0.2 [] && lensS q0.1 [.c (.p (.int .i64)), .c (.p (.int .i64)), .c (.p (.row 2)), .c (.p (.row 0))] then (cInt (resAt q0.1 0) .i64).bind fun qr => (cInt (resAt q0.1 1) .i64).bind fun qr1 => (cRow (resAt q0.1 2) 2).bind fun l => (cRow (resAt q0.1 3) 0).bind fun l1 => K0 qr qr1 l l1 else none
@[simp] theorem R21_r (qr qr1 : Int) (l l1 : List PV) (K0 : Int → Int → List PV → List PV → R) : R21 (r21 qr qr1 l l1) K0 = K0 qr qr1 l l1 := by kernel_rfl
def L21_1 (k n : Nat) (wide vars : Int) (t : List PV) (byLen : Nat) (k1 : Int) (l : List PV) (n1 n11 : Int) (xs : List PV) : R := evLoopAt P E T k 21 [] [1, 1, 1, 1, 0, 1, 0] [] n ⟨mkT 44 [(6, .s (.c (.bptr 0 0))), (7, .s (.c (.p (PV.int .i64 wide)))), (8, .s (.c (.p (PV.int .i64 vars)))), (9, .s (.c (.p (PV.row 2 0 t)))), (10, .s (.c (.loc 1 0 0 0 byLen))), (11, .s (.c (.p (PV.int .i64 k1))))], [.box [.p (PV.row 0 0 l), .p (PV.int .i64 n1), .p (PV.int .u64 n11)], .arr 27 0 0 false xs]⟩
/-! 22 : impl.PutAll -/
def c22 (k : Nat) (wide vars : Int) (t by1 : List PV) : R := evF P E T k 22 [.s (.c (.p (PV.int .i64 wide))), .s (.c (.p (PV.int .i64 vars))), .s (.c (.p (PV.row 2 0 t))), .s (.c (.p (PV.row 0 0 by1)))] []
def r22 (l : List PV) (b : Bool) : R := some ([.c (.p (PV.row 2 0 l)), .c (.p (PV.bool b))], [])
def R22 (x0 : R) (K0 : List PV → Bool → R) : R := x0.bind fun q0 => bif lensB q0.2 [] && lensS q0.1 [.c (.p (.row 2)), .c (.p (.bool))] then (cRow (resAt q0.1 0) 2).bind fun l => (cBool (resAt q0.1 1)).bind fun b => K0 l b else none
@[simp] theorem R22_r (l : List PV) (b : Bool) (K0 : List PV → Bool → R) : R22 (r22 l b) K0 = K0 l b := by kernel_rfl
def L22_1 (k n : Nat) (by1 : List PV) (outLen : Nat) (t30 : List PV) (t31 t32 n1 n11 : Int) (xs : List PV) : R := evLoopAt P E T k 22 [] [1, 1, 1, 0, 1, 0] [] n ⟨mkT 57 [(3, .s (.c (.p (PV.row 0 0 by1)))), (4, .s (.c (.bptr 0 0))), (5, .s (.c (.bptr 1 0))), (10, .s (.c (.loc 2 0 2 0 outLen))), (30, .s (.c (.p (PV.row 2 0 t30)))), (31, .s (.c (.p (PV.int .i64 t31)))), (32, .s (.c (.p (PV.int .i64 t32))))], [.box [.p (PV.int .i64 n1)], .box [.p (PV.int .i64 n11)], .arr 104 2 0 false xs]⟩
/-! 23 : spec.PutAll -/
def c23 (k : Nat) (wide vars : Int) (t by1 : List PV) : R := evF P E T k 23 [.s (.c (.p (PV.int .i64 wide))), .s (.c (.p (PV.int .i64 vars))), .s (.c (.p (PV.row 2 0 t))), .s (.c (.p (PV.row 0 0 by1)))] []
def r23 (l : List PV) (b : Bool) : R := some ([.c (.p (PV.row 2 0 l)), .c (.p (PV.bool b))], [])
def R23 (x0 : R) (K0 : List PV → Bool → R) : R := x0.bind fun q0 => bif lensB q0.2 [] && lensS q0.1 [.c (.p (.row 2)), .c (.p (.bool))] then (cRow (resAt q0.1 0) 2).bind fun l => (cBool (resAt q0.1 1)).bind fun b => K0 l b else none
@[simp] theorem R23_r (l : List PV) (b : Bool) (K0 : List PV → Bool → R) : R23 (r23 l b) K0 = K0 l b := by kernel_rfl
def L23_1 (k n : Nat) (wide vars : Int) (t by1 t26 : List PV) (t27 t28 : Int) : R := evLoopAt P E T k 23 [] [1, 1, 0, 1, 0] [] n ⟨mkT 65 [(0, .s (.c (.p (PV.int .i64 wide)))), (1, .s (.c (.p (PV.int .i64 vars)))), (2, .s (.c (.p (PV.row 2 0 t)))), (3, .s (.c (.p (PV.row 0 0 by1)))), (26, .s (.c (.p (PV.row 0 0 t26)))), (27, .s (.c (.p (PV.int .i64 t27)))), (28, .s (.c (.p (PV.int .i64 t28))))], []⟩
def L23_2 (k n : Nat) (wide vars : Int) (by1 : List PV) (outLen : Nat) (t38 : List PV) (t39 t40 : Int) (xs : List PV) : R := evLoopAt P E T k 23 [] [1, 1, 1, 1, 0, 1, 0] [] n ⟨mkT 65 [(0, .s (.c (.p (PV.int .i64 wide)))), (1, .s (.c (.p (PV.int .i64 vars)))), (3, .s (.c (.p (PV.row 0 0 by1)))), (12, .s (.c (.loc 0 0 2 0 outLen))), (38, .s (.c (.p (PV.row 2 0 t38)))), (39, .s (.c (.p (PV.int .i64 t39)))), (40, .s (.c (.p (PV.int .i64 t40))))], [.arr 104 2 0 false xs]⟩
/-! 24 : laws.sameNodes -/
def c24 (k : Nat) (a b : List PV) : R := evF P E T k 24 [.s (.c (.p (PV.row 2 0 a))), .s (.c (.p (PV.row 2 0 b)))] []
def r24 (b : Bool) : R := some ([.c (.p (PV.bool b))], [])
def R24 (x0 : R) (K0 : Bool → R) : R := x0.bind fun q0 => bif lensB q0.2 [] && lensS q0.1 [.c (.p (.bool))] then (cBool (resAt q0.1 0)).bind fun b => K0 b else none
@[simp] theorem R24_r (b : Bool) (K0 : Bool → R) : R24 (r24 b) K0 = K0 b := by kernel_rfl
def L24_1 (k n : Nat) (a b : List PV) (t12 t13 : Int) : R := evLoopAt P E T k 24 [] [1, 1, 0, 1, 0] [] n ⟨mkT 26 [(0, .s (.c (.p (PV.row 2 0 a)))), (1, .s (.c (.p (PV.row 2 0 b)))), (12, .s (.c (.p (PV.int .i64 t12)))), (13, .s (.c (.p (PV.int .i64 t13))))], []⟩
/-! 25 : impl.GoodTerm -/
def c25 (k : Nat) (wide vars : Int) (t : List PV) : R := evF P E T k 25 [.s (.c (.p (PV.int .i64 wide))), .s (.c (.p (PV.int .i64 vars))), .s (.c (.p (PV.row 2 0 t)))] []
def r25 (b : Bool) : R := some ([.c (.p (PV.bool b))], [])
def R25 (x0 : R) (K0 : Bool → R) : R := x0.bind fun q0 => bif lensB q0.2 [] && lensS q0.1 [.c (.p (.bool))] then (cBool (resAt q0.1 0)).bind fun b => K0 b else none
@[simp] theorem R25_r (b : Bool) (K0 : Bool → R) : R25 (r25 b) K0 = K0 b := by kernel_rfl
def L25_1 (k n : Nat) (wide vars : Int) (stackLen : Nat) (t33 : List PV) (t34 t35 : Int) (xs : List PV) : R := evLoopAt P E T k 25 [] [1, 1, 1, 0, 1, 0] [] n ⟨mkT 80 [(0, .s (.c (.p (PV.int .i64 wide)))), (1, .s (.c (.p (PV.int .i64 vars)))), (7, .s (.c (.loc 0 0 0 0 stackLen))), (33, .s (.c (.p (PV.row 2 0 t33)))), (34, .s (.c (.p (PV.int .i64 t34)))), (35, .s (.c (.p (PV.int .i64 t35))))], [.arr 3 0 0 false xs]⟩
/-! 26 : spec.GoodTerm -/
def c26 (k : Nat) (wide vars : Int) (t : List PV) : R := evF P E T k 26 [.s (.c (.p (PV.int .i64 wide))), .s (.c (.p (PV.int .i64 vars))), .s (.c (.p (PV.row 2 0 t)))] []
def r26 (b : Bool) : R := some ([.c (.p (PV.bool b))], [])
def R26 (x0 : R) (K0 : Bool → R) : R := x0.bind fun q0 => bif lensB q0.2 [] && lensS q0.1 [.c (.p (.bool))] then (cBool (resAt q0.1 0)).bind fun b => K0 b else none
@[simp] theorem R26_r (b : Bool) (K0 : Bool → R) : R26 (r26 b) K0 = K0 b := by kernel_rfl
/-! 27 : impl.CutTo -/
def c27 (k : Nat) (wide a : Int) : R := evF P E T k 27 [.s (.c (.p (PV.int .i64 wide))), .s (.c (.p (PV.int .u64 a)))] []
def r27 (qr : Int) (b : Bool) : R := some ([.c (.p (PV.int .u64 qr)), .c (.p (PV.bool b))], [])
def R27 (x0 : R) (K0 : Int → Bool → R) : R := x0.bind fun q0 => bif lensB q0.2 [] && lensS q0.1 [.c (.p (.int .u64)), .c (.p (.bool))] then (cInt (resAt q0.1 0) .u64).bind fun qr => (cBool (resAt q0.1 1)).bind fun b => K0 qr b else none
@[simp] theorem R27_r (qr : Int) (b : Bool) (K0 : Int → Bool → R) : R27 (r27 qr b) K0 = K0 qr b := by kernel_rfl
/-! 28 : laws.numberOf -/
def c28 (k : Nat) (b : List PV) : R := evF P E T k 28 [.s (.c (.p (PV.row 0 0 b)))] []
def r28 (qr : Int) : R := some ([.c (.p (PV.int .i64 qr))], [])
def R28 (x0 : R) (K0 : Int → R) : R := x0.bind fun q0 => bif lensB q0.2 [] && lensS q0.1 [.c (.p (.int .i64))] then (cInt (resAt q0.1 0) .i64).bind fun qr => K0 qr else none
@[simp] theorem R28_r (qr : Int) (K0 : Int → R) : R28 (r28 qr) K0 = K0 qr := by kernel_rfl
def L28_1 (k n : Nat) (n1 : Int) (t6 : List PV) (t7 t8 : Int) : R := evLoopAt P E T k 28 [] [1, 1, 0, 1, 0] [] n ⟨mkT 20 [(3, .s (.c (.p (PV.int .i64 n1)))), (6, .s (.c (.p (PV.row 0 0 t6)))), (7, .s (.c (.p (PV.int .i64 t7)))), (8, .s (.c (.p (PV.int .i64 t8))))], []⟩
/-! 29 : impl.ValueOf -/
def c29 (k : Nat) (wide : Int) (t state : List PV) : R := evF P E T k 29 [.s (.c (.p (PV.int .i64 wide))), .s (.c (.p (PV.row 2 0 t))), .s (.c (.p (PV.row 0 0 state)))] []
def r29 (qr : Int) (b : Bool) : R := some ([.c (.p (PV.int .u64 qr)), .c (.p (PV.bool b))], [])
def R29 (x0 : R) (K0 : Int → Bool → R) : R := x0.bind fun q0 => bif lensB q0.2 [] && lensS q0.1 [.c (.p (.int .u64)), .c (.p (.bool))] then (cInt (resAt q0.1 0) .u64).bind fun qr => (cBool (resAt q0.1 1)).bind fun b => K0 qr b else none
@[simp] theorem R29_r (qr : Int) (b : Bool) (K0 : Int → Bool → R) : R29 (r29 qr b) K0 = K0 qr b := by kernel_rfl
def R29p (x0 : R) (K0 : Int → Bool → R) : R := x0.bind fun q0 => bif q0.1.all plainS && q0.2.all (fun cs => cs.all plainC) then (bif lensB q0.2 [] && lensS q0.1 [.c (.p (.int .u64)), .c (.p (.bool))] then (cInt (resAt q0.1 0) .u64).bind fun qr => (cBool (resAt q0.1 1)).bind fun b => K0 qr b else none) else none
@[simp] theorem R29p_r (qr : Int) (b : Bool) (K0 : Int → Bool → R) : R29p (r29 qr b) K0 = K0 qr b := by kernel_rfl
/-! 30 : spec.DrawJoinTerms -/
def c30 (k : Nat) (code : List PV) : R := evF P E T k 30 [.s (.c (.p (PV.row 0 0 code)))] []
def r30 (qr qr1 qr2 : Int) (l l1 : List PV) : R := some ([.c (.p (PV.int .i64 qr)), .c (.p (PV.int .i64 qr1)), .c (.p (PV.int .i64 qr2)), .c (.p (PV.row 2 0 l)), .c (.p (PV.row 2 0 l1))], [])
def R30 (x0 : R) (K0 : Int → Int → Int → List PV → List PV → R) : R := x0.bind fun q0 => bif lensB q0.2 [] && lensS q0.1 [.c (.p (.int .i64)), .c (.p (.int .i64)), .c (.p (.int .i64)), .c (.p (.row 2)), .c (.p (.row 2))] then (cInt (resAt q0.1 0) .i64).bind fun qr => (cInt (resAt q0.1 1) .i64).bind fun qr1 => (cInt (resAt q0.1 2) .i64).bind fun qr2 => (cRow (resAt q0.1 3) 2).bind fun l => (cRow (resAt q0.1 4) 2).bind fun l1 => K0 qr qr1 qr2 l l1 else none
@[simp] theorem R30_r (qr qr1 qr2 : Int) (l l1 : List PV) (K0 : Int → Int → Int → List PV → List PV → R) : R30 (r30 qr qr1 qr2 l l1) K0 = K0 qr qr1 qr2 l l1 := by kernel_rfl
/-! 31 : impl.JoinTerms -/
def c31 (k : Nat) (wide vars op : Int) (a b : List PV) : R := evF P E T k 31 [.s (.c (.p (PV.int .i64 wide))), .s (.c (.p (PV.int .i64 vars))), .s (.c (.p (PV.int .i64 op))), .s (.c (.p (PV.row 2 0 a))), .s (.c (.p (PV.row 2 0 b)))] []
def r31 (l : List PV) (b : Bool) : R := some ([.c (.p (PV.row 2 0 l)), .c (.p (PV.bool b))], [])
def R31 (x0 : R) (K0 : List PV → Bool → R) : R := x0.bind fun q0 => bif lensB q0.2 [] && lensS q0.1 [.c (.p (.row 2)), .c (.p (.bool))] then (cRow (resAt q0.1 0) 2).bind fun l => (cBool (resAt q0.1 1)).bind fun b => K0 l b else none
@[simp] theorem R31_r (l : List PV) (b : Bool) (K0 : List PV → Bool → R) : R31 (r31 l b) K0 = K0 l b := by kernel_rfl
/-! 32 : spec.JoinTerms -/
def c32 (k : Nat) (wide vars op : Int) (a b : List PV) : R := evF P E T k 32 [.s (.c (.p (PV.int .i64 wide))), .s (.c (.p (PV.int .i64 vars))), .s (.c (.p (PV.int .i64 op))), .s (.c (.p (PV.row 2 0 a))), .s (.c (.p (PV.row 2 0 b)))] []
def r32 (l : List PV) (b : Bool) : R := some ([.c (.p (PV.row 2 0 l)), .c (.p (PV.bool b))], [])
def R32 (x0 : R) (K0 : List PV → Bool → R) : R := x0.bind fun q0 => bif lensB q0.2 [] && lensS q0.1 [.c (.p (.row 2)), .c (.p (.bool))] then (cRow (resAt q0.1 0) 2).bind fun l => (cBool (resAt q0.1 1)).bind fun b => K0 l b else none
@[simp] theorem R32_r (l : List PV) (b : Bool) (K0 : List PV → Bool → R) : R32 (r32 l b) K0 = K0 l b := by kernel_rfl
/-! 33 : impl.AddWord -/
def c33 (k : Nat) (wide a b : Int) : R := evF P E T k 33 [.s (.c (.p (PV.int .i64 wide))), .s (.c (.p (PV.int .u64 a))), .s (.c (.p (PV.int .u64 b)))] []
def r33 (qr : Int) (b : Bool) : R := some ([.c (.p (PV.int .u64 qr)), .c (.p (PV.bool b))], [])
def R33 (x0 : R) (K0 : Int → Bool → R) : R := x0.bind fun q0 => bif lensB q0.2 [] && lensS q0.1 [.c (.p (.int .u64)), .c (.p (.bool))] then (cInt (resAt q0.1 0) .u64).bind fun qr => (cBool (resAt q0.1 1)).bind fun b => K0 qr b else none
@[simp] theorem R33_r (qr : Int) (b : Bool) (K0 : Int → Bool → R) : R33 (r33 qr b) K0 = K0 qr b := by kernel_rfl
/-! 34 : impl.LessSigned -/
def c34 (k : Nat) (wide a b : Int) : R := evF P E T k 34 [.s (.c (.p (PV.int .i64 wide))), .s (.c (.p (PV.int .u64 a))), .s (.c (.p (PV.int .u64 b)))] []
def r34 (b b1 : Bool) : R := some ([.c (.p (PV.bool b)), .c (.p (PV.bool b1))], [])
def R34 (x0 : R) (K0 : Bool → Bool → R) : R := x0.bind fun q0 => bif lensB q0.2 [] && lensS q0.1 [.c (.p (.bool)), .c (.p (.bool))] then (cBool (resAt q0.1 0)).bind fun b => (cBool (resAt q0.1 1)).bind fun b1 => K0 b b1 else none
@[simp] theorem R34_r (b b1 : Bool) (K0 : Bool → Bool → R) : R34 (r34 b b1) K0 = K0 b b1 := by kernel_rfl
/-! 35 : spec.DrawTurnTerm -/
def c35 (k : Nat) (code : List PV) : R := evF P E T k 35 [.s (.c (.p (PV.row 0 0 code)))] []
def r35 (qr qr1 qr2 : Int) (l : List PV) : R := some ([.c (.p (PV.int .i64 qr)), .c (.p (PV.int .i64 qr1)), .c (.p (PV.int .i64 qr2)), .c (.p (PV.row 2 0 l))], [])
def R35 (x0 : R) (K0 : Int → Int → Int → List PV → R) : R := x0.bind fun q0 => bif lensB q0.2 [] && lensS q0.1 [.c (.p (.int .i64)), .c (.p (.int .i64)), .c (.p (.int .i64)), .c (.p (.row 2))] then (cInt (resAt q0.1 0) .i64).bind fun qr => (cInt (resAt q0.1 1) .i64).bind fun qr1 => (cInt (resAt q0.1 2) .i64).bind fun qr2 => (cRow (resAt q0.1 3) 2).bind fun l => K0 qr qr1 qr2 l else none
@[simp] theorem R35_r (qr qr1 qr2 : Int) (l : List PV) (K0 : Int → Int → Int → List PV → R) : R35 (r35 qr qr1 qr2 l) K0 = K0 qr qr1 qr2 l := by kernel_rfl
/-! 36 : impl.TurnTerm -/
def c36 (k : Nat) (wide vars op : Int) (a : List PV) : R := evF P E T k 36 [.s (.c (.p (PV.int .i64 wide))), .s (.c (.p (PV.int .i64 vars))), .s (.c (.p (PV.int .i64 op))), .s (.c (.p (PV.row 2 0 a)))] []
def r36 (l : List PV) (b : Bool) : R := some ([.c (.p (PV.row 2 0 l)), .c (.p (PV.bool b))], [])
def R36 (x0 : R) (K0 : List PV → Bool → R) : R := x0.bind fun q0 => bif lensB q0.2 [] && lensS q0.1 [.c (.p (.row 2)), .c (.p (.bool))] then (cRow (resAt q0.1 0) 2).bind fun l => (cBool (resAt q0.1 1)).bind fun b => K0 l b else none
@[simp] theorem R36_r (l : List PV) (b : Bool) (K0 : List PV → Bool → R) : R36 (r36 l b) K0 = K0 l b := by kernel_rfl
/-! 37 : spec.TurnTerm -/
def c37 (k : Nat) (wide vars op : Int) (a : List PV) : R := evF P E T k 37 [.s (.c (.p (PV.int .i64 wide))), .s (.c (.p (PV.int .i64 vars))), .s (.c (.p (PV.int .i64 op))), .s (.c (.p (PV.row 2 0 a)))] []
def r37 (l : List PV) (b : Bool) : R := some ([.c (.p (PV.row 2 0 l)), .c (.p (PV.bool b))], [])
def R37 (x0 : R) (K0 : List PV → Bool → R) : R := x0.bind fun q0 => bif lensB q0.2 [] && lensS q0.1 [.c (.p (.row 2)), .c (.p (.bool))] then (cRow (resAt q0.1 0) 2).bind fun l => (cBool (resAt q0.1 1)).bind fun b => K0 l b else none
@[simp] theorem R37_r (l : List PV) (b : Bool) (K0 : List PV → Bool → R) : R37 (r37 l b) K0 = K0 l b := by kernel_rfl
/-! 38 : spec.DrawBeforeOne -/
def c38 (k : Nat) (code : List PV) : R := evF P E T k 38 [.s (.c (.p (PV.row 0 0 code)))] []
def r38 (qr qr1 : Int) (l l1 : List PV) (qr2 : Int) (l2 : List PV) : R := some ([.agg [.p (PV.int .i64 qr), .p (PV.int .i64 qr1), .p (PV.row 2 0 l), .p (PV.row 2 0 l1)], .c (.p (PV.int .i64 qr2)), .c (.p (PV.row 2 0 l2))], [])
def R38 (x0 : R) (K0 : Int → Int → List PV → List PV → Int → List PV → R) : R := x0.bind fun q0 => bif lensB q0.2 [] && lensS q0.1 [.agg [.p (.int .i64), .p (.int .i64), .p (.row 2), .p (.row 2)], .c (.p (.int .i64)), .c (.p (.row 2))] then (cInt (Dp.partAt q0.1 0 0) .i64).bind fun qr => (cInt (Dp.partAt q0.1 0 1) .i64).bind fun qr1 => (cRow (Dp.partAt q0.1 0 2) 2).bind fun l => (cRow (Dp.partAt q0.1 0 3) 2).bind fun l1 => (cInt (resAt q0.1 1) .i64).bind fun qr2 => (cRow (resAt q0.1 2) 2).bind fun l2 => K0 qr qr1 l l1 qr2 l2 else none
@[simp] theorem R38_r (qr qr1 : Int) (l l1 : List PV) (qr2 : Int) (l2 : List PV) (K0 : Int → Int → List PV → List PV → Int → List PV → R) : R38 (r38 qr qr1 l l1 qr2 l2) K0 = K0 qr qr1 l l1 qr2 l2 := by kernel_rfl
/-! 39 : impl.BeforeOne -/
def c39 (k : Nat) (p p1 : Int) (p2 p3 : List PV) (k1 : Int) (t : List PV) : R := evF P E T k 39 [.s (.c (.p (PV.agg [.int .i64 p, .int .i64 p1, .row 2 0 p2, .row 2 0 p3]))), .s (.c (.p (PV.int .i64 k1))), .s (.c (.p (PV.row 2 0 t)))] []
def r39 (l : List PV) (b : Bool) : R := some ([.c (.p (PV.row 2 0 l)), .c (.p (PV.bool b))], [])
def R39 (x0 : R) (K0 : List PV → Bool → R) : R := x0.bind fun q0 => bif lensB q0.2 [] && lensS q0.1 [.c (.p (.row 2)), .c (.p (.bool))] then (cRow (resAt q0.1 0) 2).bind fun l => (cBool (resAt q0.1 1)).bind fun b => K0 l b else none
@[simp] theorem R39_r (l : List PV) (b : Bool) (K0 : List PV → Bool → R) : R39 (r39 l b) K0 = K0 l b := by kernel_rfl
/-! 40 : spec.BeforeOne -/
def c40 (k : Nat) (p p1 : Int) (p2 p3 : List PV) (k1 : Int) (t : List PV) : R := evF P E T k 40 [.s (.c (.p (PV.agg [.int .i64 p, .int .i64 p1, .row 2 0 p2, .row 2 0 p3]))), .s (.c (.p (PV.int .i64 k1))), .s (.c (.p (PV.row 2 0 t)))] []
def r40 (l : List PV) (b : Bool) : R := some ([.c (.p (PV.row 2 0 l)), .c (.p (PV.bool b))], [])
def R40 (x0 : R) (K0 : List PV → Bool → R) : R := x0.bind fun q0 => bif lensB q0.2 [] && lensS q0.1 [.c (.p (.row 2)), .c (.p (.bool))] then (cRow (resAt q0.1 0) 2).bind fun l => (cBool (resAt q0.1 1)).bind fun b => K0 l b else none
@[simp] theorem R40_r (l : List PV) (b : Bool) (K0 : List PV → Bool → R) : R40 (r40 l b) K0 = K0 l b := by kernel_rfl
/-! 41 : impl.BeforeIf -/
def c41 (k : Nat) (p p1 : Int) (p2 p3 : List PV) (k1 : Int) (t : List PV) : R := evF P E T k 41 [.s (.c (.p (PV.agg [.int .i64 p, .int .i64 p1, .row 2 0 p2, .row 2 0 p3]))), .s (.c (.p (PV.int .i64 k1))), .s (.c (.p (PV.row 2 0 t)))] []
def r41 (l : List PV) (b : Bool) : R := some ([.c (.p (PV.row 2 0 l)), .c (.p (PV.bool b))], [])
def R41 (x0 : R) (K0 : List PV → Bool → R) : R := x0.bind fun q0 => bif lensB q0.2 [] && lensS q0.1 [.c (.p (.row 2)), .c (.p (.bool))] then (cRow (resAt q0.1 0) 2).bind fun l => (cBool (resAt q0.1 1)).bind fun b => K0 l b else none
@[simp] theorem R41_r (l : List PV) (b : Bool) (K0 : List PV → Bool → R) : R41 (r41 l b) K0 = K0 l b := by kernel_rfl
/-! 42 : spec.BeforeIf -/
def c42 (k : Nat) (p p1 : Int) (p2 p3 : List PV) (k1 : Int) (t : List PV) : R := evF P E T k 42 [.s (.c (.p (PV.agg [.int .i64 p, .int .i64 p1, .row 2 0 p2, .row 2 0 p3]))), .s (.c (.p (PV.int .i64 k1))), .s (.c (.p (PV.row 2 0 t)))] []
def r42 (l : List PV) (b : Bool) : R := some ([.c (.p (PV.row 2 0 l)), .c (.p (PV.bool b))], [])
def R42 (x0 : R) (K0 : List PV → Bool → R) : R := x0.bind fun q0 => bif lensB q0.2 [] && lensS q0.1 [.c (.p (.row 2)), .c (.p (.bool))] then (cRow (resAt q0.1 0) 2).bind fun l => (cBool (resAt q0.1 1)).bind fun b => K0 l b else none
@[simp] theorem R42_r (l : List PV) (b : Bool) (K0 : List PV → Bool → R) : R42 (r42 l b) K0 = K0 l b := by kernel_rfl
/-! 43 : impl.StepBy -/
def c43 (k : Nat) (p p1 : Int) (p2 p3 qs : List PV) (k1 : Int) : R := evF P E T k 43 [.s (.c (.p (PV.agg [.int .i64 p, .int .i64 p1, .row 2 0 p2, .row 2 0 p3]))), .s (.c (.p (PV.row 0 0 qs))), .s (.c (.p (PV.int .i64 k1)))] []
def r43 (l : List PV) (b : Bool) : R := some ([.c (.p (PV.row 0 0 l)), .c (.p (PV.bool b))], [])
def R43 (x0 : R) (K0 : List PV → Bool → R) : R := x0.bind fun q0 => bif lensB q0.2 [] && lensS q0.1 [.c (.p (.row 0)), .c (.p (.bool))] then (cRow (resAt q0.1 0) 0).bind fun l => (cBool (resAt q0.1 1)).bind fun b => K0 l b else none
@[simp] theorem R43_r (l : List PV) (b : Bool) (K0 : List PV → Bool → R) : R43 (r43 l b) K0 = K0 l b := by kernel_rfl
/-! 54 : spec.l1In -/
def c54 (k : Nat) (n1 lo hi : Int) : R := evF P E T k 54 [.s (.c (.p (PV.int .i64 n1))), .s (.c (.p (PV.int .i64 lo))), .s (.c (.p (PV.int .i64 hi)))] []
def r54 (b : Bool) : R := some ([.c (.p (PV.bool b))], [])
def R54 (x0 : R) (K0 : Bool → R) : R := x0.bind fun q0 => bif lensB q0.2 [] && lensS q0.1 [.c (.p (.bool))] then (cBool (resAt q0.1 0)).bind fun b => K0 b else none
@[simp] theorem R54_r (b : Bool) (K0 : Bool → R) : R54 (r54 b) K0 = K0 b := by kernel_rfl
/-! 57 : spec.l1Cur).small -/
def c57 (k : Nat) (l : List PV) (n1 n11 : Int) : R := evF P E T k 57 [.s (.c (.bptr 0 0))] [[.p (PV.row 0 0 l), .p (PV.int .i64 n1), .p (PV.int .u64 n11)]]
def r57 (l : List PV) (qr qr1 qr2 qr3 : Int) (l1 l2 : List PV) : R := some ([.agg [.p (PV.int .i64 qr2), .p (PV.int .i64 qr3), .p (PV.row 2 0 l1), .p (PV.row 2 0 l2)]], [[.p (PV.row 0 0 l), .p (PV.int .i64 qr), .p (PV.int .u64 qr1)]])
def R57 (x0 : R) (K0 : List PV → Int → Int → Int → Int → List PV → List PV → R) : R := x0.bind fun q0 => bif lensB q0.2 [[.p (.row 0), .p (.int .i64), .p (.int .u64)]] && lensS q0.1 [.agg [.p (.int .i64), .p (.int .i64), .p (.row 2), .p (.row 2)]] then (cRow (cellAt q0.2 0 0) 0).bind fun l => (cInt (cellAt q0.2 0 1) .i64).bind fun qr => (cInt (cellAt q0.2 0 2) .u64).bind fun qr1 => (cInt (Dp.partAt q0.1 0 0) .i64).bind fun qr2 => (cInt (Dp.partAt q0.1 0 1) .i64).bind fun qr3 => (cRow (Dp.partAt q0.1 0 2) 2).bind fun l1 => (cRow (Dp.partAt q0.1 0 3) 2).bind fun l2 => K0 l qr qr1 qr2 qr3 l1 l2 else none
@[simp] theorem R57_r (l : List PV) (qr qr1 qr2 qr3 : Int) (l1 l2 : List PV) (K0 : List PV → Int → Int → Int → Int → List PV → List PV → R) : R57 (r57 l qr qr1 qr2 qr3 l1 l2) K0 = K0 l qr qr1 qr2 qr3 l1 l2 := by kernel_rfl
def L57_1 (k n : Nat) (wide vars : Int) (l : List PV) (n1 n11 n12 n13 : Int) (l1 l2 : List PV) : R := evLoopAt P E T k 57 [3] [1, 1, 1, 1, 0, 0] [] n ⟨mkT 67 [(0, .s (.c (.bptr 0 0))), (2, .s (.c (.bptr 1 0))), (3, .s (.c (.p (PV.int .i64 wide)))), (4, .s (.c (.p (PV.int .i64 vars))))], [.box [.p (PV.row 0 0 l), .p (PV.int .i64 n1), .p (PV.int .u64 n11)], .box [.p (PV.int .i64 n12), .p (PV.int .i64 n13), .p (PV.row 2 0 l1), .p (PV.row 2 0 l2)]]⟩
/-! 58 : spec.l1Cur).stateFor -/
def c58 (k : Nat) (p p1 : Int) (p2 p3 l : List PV) (n1 n11 : Int) : R := evF P E T k 58 [.s (.c (.bptr 0 0)), .s (.c (.p (PV.agg [.int .i64 p, .int .i64 p1, .row 2 0 p2, .row 2 0 p3])))] [[.p (PV.row 0 0 l), .p (PV.int .i64 n1), .p (PV.int .u64 n11)]]
def r58 (l : List PV) (qr qr1 : Int) (l1 : List PV) : R := some ([.c (.p (PV.row 0 0 l1))], [[.p (PV.row 0 0 l), .p (PV.int .i64 qr), .p (PV.int .u64 qr1)]])
def R58 (x0 : R) (K0 : List PV → Int → Int → List PV → R) : R := x0.bind fun q0 => bif lensB q0.2 [[.p (.row 0), .p (.int .i64), .p (.int .u64)]] && lensS q0.1 [.c (.p (.row 0))] then (cRow (cellAt q0.2 0 0) 0).bind fun l => (cInt (cellAt q0.2 0 1) .i64).bind fun qr => (cInt (cellAt q0.2 0 2) .u64).bind fun qr1 => (cRow (resAt q0.1 0) 0).bind fun l1 => K0 l qr qr1 l1 else none
@[simp] theorem R58_r (l : List PV) (qr qr1 : Int) (l1 : List PV) (K0 : List PV → Int → Int → List PV → R) : R58 (r58 l qr qr1 l1) K0 = K0 l qr qr1 l1 := by kernel_rfl
/-! 59 : impl.isSmall -/
def c59 (k : Nat) (p p1 : Int) (p2 p3 : List PV) : R := evF P E T k 59 [.s (.c (.p (PV.agg [.int .i64 p, .int .i64 p1, .row 2 0 p2, .row 2 0 p3])))] []
def r59 (b : Bool) : R := some ([.c (.p (PV.bool b))], [])
def R59 (x0 : R) (K0 : Bool → R) : R := x0.bind fun q0 => bif lensB q0.2 [] && lensS q0.1 [.c (.p (.bool))] then (cBool (resAt q0.1 0)).bind fun b => K0 b else none
@[simp] theorem R59_r (b : Bool) (K0 : Bool → R) : R59 (r59 b) K0 = K0 b := by kernel_rfl
/-! 60 : impl.isStateOf -/
def c60 (k : Nat) (p p1 : Int) (p2 p3 qs : List PV) : R := evF P E T k 60 [.s (.c (.p (PV.agg [.int .i64 p, .int .i64 p1, .row 2 0 p2, .row 2 0 p3]))), .s (.c (.p (PV.row 0 0 qs)))] []
def r60 (b : Bool) : R := some ([.c (.p (PV.bool b))], [])
def R60 (x0 : R) (K0 : Bool → R) : R := x0.bind fun q0 => bif lensB q0.2 [] && lensS q0.1 [.c (.p (.bool))] then (cBool (resAt q0.1 0)).bind fun b => K0 b else none
@[simp] theorem R60_r (b : Bool) (K0 : Bool → R) : R60 (r60 b) K0 = K0 b := by kernel_rfl
/-! 61 : impl.Program).stateNo -/
def c61 (k : Nat) (p p1 : Int) (p2 p3 qs : List PV) : R := evF P E T k 61 [.s (.c (.p (PV.agg [.int .i64 p, .int .i64 p1, .row 2 0 p2, .row 2 0 p3]))), .s (.c (.p (PV.row 0 0 qs)))] []
def r61 (qr : Int) : R := some ([.c (.p (PV.int .i64 qr))], [])
def R61 (x0 : R) (K0 : Int → R) : R := x0.bind fun q0 => bif lensB q0.2 [] && lensS q0.1 [.c (.p (.int .i64))] then (cInt (resAt q0.1 0) .i64).bind fun qr => K0 qr else none
@[simp] theorem R61_r (qr : Int) (K0 : Int → R) : R61 (r61 qr) K0 = K0 qr := by kernel_rfl
def L61_1 (k n : Nat) (no : Int) (t8 : List PV) (t9 t10 n1 n11 : Int) (l l1 : List PV) : R := evLoopAt P E T k 61 [] [1, 1, 0, 1, 0] [] n ⟨mkT 26 [(2, .s (.c (.bptr 0 0))), (5, .s (.c (.p (PV.int .i64 no)))), (8, .s (.c (.p (PV.row 0 0 t8)))), (9, .s (.c (.p (PV.int .i64 t9)))), (10, .s (.c (.p (PV.int .i64 t10))))], [.box [.p (PV.int .i64 n1), .p (PV.int .i64 n11), .p (PV.row 2 0 l), .p (PV.row 2 0 l1)]]⟩
/-! 62 : spec.l7Small -/
def c62 (k : Nat) (p p1 : Int) (p2 p3 : List PV) : R := evF P E T k 62 [.s (.c (.p (PV.agg [.int .i64 p, .int .i64 p1, .row 2 0 p2, .row 2 0 p3])))] []
def r62 (b : Bool) : R := some ([.c (.p (PV.bool b))], [])
def R62 (x0 : R) (K0 : Bool → R) : R := x0.bind fun q0 => bif lensB q0.2 [] && lensS q0.1 [.c (.p (.bool))] then (cBool (resAt q0.1 0)).bind fun b => K0 b else none
@[simp] theorem R62_r (b : Bool) (K0 : Bool → R) : R62 (r62 b) K0 = K0 b := by kernel_rfl
/-! 63 : spec.l7State -/
def c63 (k : Nat) (p p1 : Int) (p2 p3 qs : List PV) : R := evF P E T k 63 [.s (.c (.p (PV.agg [.int .i64 p, .int .i64 p1, .row 2 0 p2, .row 2 0 p3]))), .s (.c (.p (PV.row 0 0 qs)))] []
def r63 (b : Bool) : R := some ([.c (.p (PV.bool b))], [])
def R63 (x0 : R) (K0 : Bool → R) : R := x0.bind fun q0 => bif lensB q0.2 [] && lensS q0.1 [.c (.p (.bool))] then (cBool (resAt q0.1 0)).bind fun b => K0 b else none
@[simp] theorem R63_r (b : Bool) (K0 : Bool → R) : R63 (r63 b) K0 = K0 b := by kernel_rfl
/-! 64 : spec.l7No -/
def c64 (k : Nat) (p p1 : Int) (p2 p3 qs : List PV) : R := evF P E T k 64 [.s (.c (.p (PV.agg [.int .i64 p, .int .i64 p1, .row 2 0 p2, .row 2 0 p3]))), .s (.c (.p (PV.row 0 0 qs)))] []
def r64 (qr : Int) : R := some ([.c (.p (PV.int .i64 qr))], [])
def R64 (x0 : R) (K0 : Int → R) : R := x0.bind fun q0 => bif lensB q0.2 [] && lensS q0.1 [.c (.p (.int .i64))] then (cInt (resAt q0.1 0) .i64).bind fun qr => K0 qr else none
@[simp] theorem R64_r (qr : Int) (K0 : Int → R) : R64 (r64 qr) K0 = K0 qr := by kernel_rfl
def L64_1 (k n : Nat) (qs : List PV) (n1 v n11 n12 : Int) (l l1 : List PV) : R := evLoopAt P E T k 64 [] [1, 1, 0, 1, 0] [] n ⟨mkT 26 [(1, .s (.c (.p (PV.row 0 0 qs)))), (2, .s (.c (.bptr 0 0))), (5, .s (.c (.p (PV.int .i64 n1)))), (6, .s (.c (.p (PV.int .i64 v))))], [.box [.p (PV.int .i64 n11), .p (PV.int .i64 n12), .p (PV.row 2 0 l), .p (PV.row 2 0 l1)]]⟩
/-! 65 : impl.GoodProgram -/
def c65 (k : Nat) (p p1 : Int) (p2 p3 : List PV) : R := evF P E T k 65 [.s (.c (.p (PV.agg [.int .i64 p, .int .i64 p1, .row 2 0 p2, .row 2 0 p3])))] []
def r65 (b : Bool) : R := some ([.c (.p (PV.bool b))], [])
def R65 (x0 : R) (K0 : Bool → R) : R := x0.bind fun q0 => bif lensB q0.2 [] && lensS q0.1 [.c (.p (.bool))] then (cBool (resAt q0.1 0)).bind fun b => K0 b else none
@[simp] theorem R65_r (b : Bool) (K0 : Bool → R) : R65 (r65 b) K0 = K0 b := by kernel_rfl
/-! 66 : spec.GoodProgram -/
def c66 (k : Nat) (p p1 : Int) (p2 p3 : List PV) : R := evF P E T k 66 [.s (.c (.p (PV.agg [.int .i64 p, .int .i64 p1, .row 2 0 p2, .row 2 0 p3])))] []
def r66 (b : Bool) : R := some ([.c (.p (PV.bool b))], [])
def R66 (x0 : R) (K0 : Bool → R) : R := x0.bind fun q0 => bif lensB q0.2 [] && lensS q0.1 [.c (.p (.bool))] then (cBool (resAt q0.1 0)).bind fun b => K0 b else none
@[simp] theorem R66_r (b : Bool) (K0 : Bool → R) : R66 (r66 b) K0 = K0 b := by kernel_rfl
def L66_1 (k n : Nat) (t18 : List PV) (t19 t20 n1 n11 : Int) (l l1 : List PV) : R := evLoopAt P E T k 66 [] [1, 1, 0, 1, 0] [] n ⟨mkT 29 [(1, .s (.c (.bptr 0 0))), (18, .s (.c (.p (PV.row 2 0 t18)))), (19, .s (.c (.p (PV.int .i64 t19)))), (20, .s (.c (.p (PV.int .i64 t20))))], [.box [.p (PV.int .i64 n1), .p (PV.int .i64 n11), .p (PV.row 2 0 l), .p (PV.row 2 0 l1)]]⟩
/-! 67 : impl.isNo -/
def c67 (k : Nat) (p p1 : Int) (p2 p3 : List PV) (no : Int) : R := evF P E T k 67 [.s (.c (.p (PV.agg [.int .i64 p, .int .i64 p1, .row 2 0 p2, .row 2 0 p3]))), .s (.c (.p (PV.int .i64 no)))] []
def r67 (b : Bool) : R := some ([.c (.p (PV.bool b))], [])
def R67 (x0 : R) (K0 : Bool → R) : R := x0.bind fun q0 => bif lensB q0.2 [] && lensS q0.1 [.c (.p (.bool))] then (cBool (resAt q0.1 0)).bind fun b => K0 b else none
@[simp] theorem R67_r (b : Bool) (K0 : Bool → R) : R67 (r67 b) K0 = K0 b := by kernel_rfl
/-! 68 : impl.Program).stateOf -/
def c68 (k : Nat) (p p1 : Int) (p2 p3 : List PV) (no : Int) : R := evF P E T k 68 [.s (.c (.p (PV.agg [.int .i64 p, .int .i64 p1, .row 2 0 p2, .row 2 0 p3]))), .s (.c (.p (PV.int .i64 no)))] []
def r68 (l : List PV) : R := some ([.c (.p (PV.row 0 0 l))], [])
def R68 (x0 : R) (K0 : List PV → R) : R := x0.bind fun q0 => bif lensB q0.2 [] && lensS q0.1 [.c (.p (.row 0))] then (cRow (resAt q0.1 0) 0).bind fun l => K0 l else none
@[simp] theorem R68_r (l : List PV) (K0 : List PV → R) : R68 (r68 l) K0 = K0 l := by kernel_rfl
def L68_1 (k n : Nat) (no : Int) (outLen : Nat) (t9 t10 n1 n11 : Int) (l l1 xs : List PV) : R := evLoopAt P E T k 68 [] [1, 1, 0, 1, 0] [] n ⟨mkT 29 [(1, .s (.c (.p (PV.int .i64 no)))), (2, .s (.c (.bptr 0 0))), (5, .s (.c (.loc 1 0 0 0 outLen))), (9, .s (.c (.p (PV.int .i64 t9)))), (10, .s (.c (.p (PV.int .i64 t10))))], [.box [.p (PV.int .i64 n1), .p (PV.int .i64 n11), .p (PV.row 2 0 l), .p (PV.row 2 0 l1)], .arr 50 0 0 false xs]⟩
/-! 69 : spec.l1Cur).pick -/
def c69 (k : Nat) (n1 : Int) (l : List PV) (n11 n12 : Int) : R := evF P E T k 69 [.s (.c (.bptr 0 0)), .s (.c (.p (PV.int .i64 n1)))] [[.p (PV.row 0 0 l), .p (PV.int .i64 n11), .p (PV.int .u64 n12)]]
def r69 (l : List PV) (qr qr1 qr2 : Int) : R := some ([.c (.p (PV.int .i64 qr2))], [[.p (PV.row 0 0 l), .p (PV.int .i64 qr), .p (PV.int .u64 qr1)]])
def R69 (x0 : R) (K0 : List PV → Int → Int → Int → R) : R := x0.bind fun q0 => bif lensB q0.2 [[.p (.row 0), .p (.int .i64), .p (.int .u64)]] && lensS q0.1 [.c (.p (.int .i64))] then (cRow (cellAt q0.2 0 0) 0).bind fun l => (cInt (cellAt q0.2 0 1) .i64).bind fun qr => (cInt (cellAt q0.2 0 2) .u64).bind fun qr1 => (cInt (resAt q0.1 0) .i64).bind fun qr2 => K0 l qr qr1 qr2 else none
@[simp] theorem R69_r (l : List PV) (qr qr1 qr2 : Int) (K0 : List PV → Int → Int → Int → R) : R69 (r69 l qr qr1 qr2) K0 = K0 l qr qr1 qr2 := by kernel_rfl
/-! 70 : spec.l7Many -/
def c70 (k : Nat) (p p1 : Int) (p2 p3 : List PV) : R := evF P E T k 70 [.s (.c (.p (PV.agg [.int .i64 p, .int .i64 p1, .row 2 0 p2, .row 2 0 p3])))] []
def r70 (qr : Int) : R := some ([.c (.p (PV.int .i64 qr))], [])
def R70 (x0 : R) (K0 : Int → R) : R := x0.bind fun q0 => bif lensB q0.2 [] && lensS q0.1 [.c (.p (.int .i64))] then (cInt (resAt q0.1 0) .i64).bind fun qr => K0 qr else none
@[simp] theorem R70_r (qr : Int) (K0 : Int → R) : R70 (r70 qr) K0 = K0 qr := by kernel_rfl
/-! 71 : spec.l7Of -/
def c71 (k : Nat) (p p1 : Int) (p2 p3 : List PV) (no : Int) : R := evF P E T k 71 [.s (.c (.p (PV.agg [.int .i64 p, .int .i64 p1, .row 2 0 p2, .row 2 0 p3]))), .s (.c (.p (PV.int .i64 no)))] []
def r71 (l : List PV) : R := some ([.c (.p (PV.row 0 0 l))], [])
def R71 (x0 : R) (K0 : List PV → R) : R := x0.bind fun q0 => bif lensB q0.2 [] && lensS q0.1 [.c (.p (.row 0))] then (cRow (resAt q0.1 0) 0).bind fun l => K0 l else none
@[simp] theorem R71_r (l : List PV) (K0 : List PV → R) : R71 (r71 l) K0 = K0 l := by kernel_rfl
def L71_1 (k n : Nat) (no : Int) (outLen : Nat) (v n1 n11 : Int) (l l1 xs : List PV) : R := evLoopAt P E T k 71 [] [1, 1, 0, 1, 0] [] n ⟨mkT 31 [(1, .s (.c (.p (PV.int .i64 no)))), (2, .s (.c (.bptr 0 0))), (5, .s (.c (.loc 1 0 0 0 outLen))), (6, .s (.c (.p (PV.int .i64 v))))], [.box [.p (PV.int .i64 n1), .p (PV.int .i64 n11), .p (PV.row 2 0 l), .p (PV.row 2 0 l1)], .arr 50 0 0 false xs]⟩
/-! 72 : spec.l1Cur).term -/
def c72 (k : Nat) (l : List PV) (n1 n11 : Int) : R := evF P E T k 72 [.s (.c (.bptr 0 0))] [[.p (PV.row 0 0 l), .p (PV.int .i64 n1), .p (PV.int .u64 n11)]]
def r72 (l : List PV) (qr qr1 qr2 qr3 : Int) (l1 : List PV) : R := some ([.c (.p (PV.int .i64 qr2)), .c (.p (PV.int .i64 qr3)), .c (.p (PV.row 2 0 l1))], [[.p (PV.row 0 0 l), .p (PV.int .i64 qr), .p (PV.int .u64 qr1)]])
def R72 (x0 : R) (K0 : List PV → Int → Int → Int → Int → List PV → R) : R := x0.bind fun q0 => bif lensB q0.2 [[.p (.row 0), .p (.int .i64), .p (.int .u64)]] && lensS q0.1 [.c (.p (.int .i64)), .c (.p (.int .i64)), .c (.p (.row 2))] then (cRow (cellAt q0.2 0 0) 0).bind fun l => (cInt (cellAt q0.2 0 1) .i64).bind fun qr => (cInt (cellAt q0.2 0 2) .u64).bind fun qr1 => (cInt (resAt q0.1 0) .i64).bind fun qr2 => (cInt (resAt q0.1 1) .i64).bind fun qr3 => (cRow (resAt q0.1 2) 2).bind fun l1 => K0 l qr qr1 qr2 qr3 l1 else none
@[simp] theorem R72_r (l : List PV) (qr qr1 qr2 qr3 : Int) (l1 : List PV) (K0 : List PV → Int → Int → Int → Int → List PV → R) : R72 (r72 l qr qr1 qr2 qr3 l1) K0 = K0 l qr qr1 qr2 qr3 l1 := by kernel_rfl
/-! 73 : spec.l1Cur).number -/
def c73 (k : Nat) (wide vars deep : Int) (l : List PV) (n1 n11 : Int) : R := evF P E T k 73 [.s (.c (.bptr 0 0)), .s (.c (.p (PV.int .i64 wide))), .s (.c (.p (PV.int .i64 vars))), .s (.c (.p (PV.int .i64 deep)))] [[.p (PV.row 0 0 l), .p (PV.int .i64 n1), .p (PV.int .u64 n11)]]
def r73 (l : List PV) (qr qr1 : Int) (l1 : List PV) : R := some ([.c (.own 104 2 l1)], [[.p (PV.row 0 0 l), .p (PV.int .i64 qr), .p (PV.int .u64 qr1)]])
def R73 (x0 : R) (K0 : List PV → Int → Int → List PV → R) : R := x0.bind fun q0 => bif lensB q0.2 [[.p (.row 0), .p (.int .i64), .p (.int .u64)]] && lensS q0.1 [.c (.own 104 2)] then (cRow (cellAt q0.2 0 0) 0).bind fun l => (cInt (cellAt q0.2 0 1) .i64).bind fun qr => (cInt (cellAt q0.2 0 2) .u64).bind fun qr1 => (asOwn 104 2 (resAt q0.1 0)).bind fun l1 => K0 l qr qr1 l1 else none
@[simp] theorem R73_r (l : List PV) (qr qr1 : Int) (l1 : List PV) (K0 : List PV → Int → Int → List PV → R) : R73 (r73 l qr qr1 l1) K0 = K0 l qr qr1 l1 := by kernel_rfl
/-! 74 : spec.l2One -/
def c74 (k : Nat) (n1 : Int) : R := evF P E T k 74 [.s (.c (.p (PV.int .i64 n1)))] []
def r74 (qr : Int) : R := some ([.c (.p (PV.int .i64 qr))], [])
def R74 (x0 : R) (K0 : Int → R) : R := x0.bind fun q0 => bif lensB q0.2 [] && lensS q0.1 [.c (.p (.int .i64))] then (cInt (resAt q0.1 0) .i64).bind fun qr => K0 qr else none
@[simp] theorem R74_r (qr : Int) (K0 : Int → R) : R74 (r74 qr) K0 = K0 qr := by kernel_rfl
/-! 75 : spec.l1Cur).one -/
def c75 (k : Nat) (n1 : Int) (l : List PV) (n11 n12 : Int) : R := evF P E T k 75 [.s (.c (.bptr 0 0)), .s (.c (.p (PV.int .i64 n1)))] [[.p (PV.row 0 0 l), .p (PV.int .i64 n11), .p (PV.int .u64 n12)]]
def r75 (l : List PV) (qr qr1 : Int) (b : Bool) : R := some ([.c (.p (PV.bool b))], [[.p (PV.row 0 0 l), .p (PV.int .i64 qr), .p (PV.int .u64 qr1)]])
def R75 (x0 : R) (K0 : List PV → Int → Int → Bool → R) : R := x0.bind fun q0 => bif lensB q0.2 [[.p (.row 0), .p (.int .i64), .p (.int .u64)]] && lensS q0.1 [.c (.p (.bool))] then (cRow (cellAt q0.2 0 0) 0).bind fun l => (cInt (cellAt q0.2 0 1) .i64).bind fun qr => (cInt (cellAt q0.2 0 2) .u64).bind fun qr1 => (cBool (resAt q0.1 0)).bind fun b => K0 l qr qr1 b else none
@[simp] theorem R75_r (l : List PV) (qr qr1 : Int) (b : Bool) (K0 : List PV → Int → Int → Bool → R) : R75 (r75 l qr qr1 b) K0 = K0 l qr qr1 b := by kernel_rfl
/-! 76 : impl.Node] -/
def c76 (k : Nat) (qs : List PV) (n1 n11 : Int) : R := evF P E T k 76 [.s (.c (.p (PV.row 0 0 qs))), .s (.c (.fn 77 [0, 1]))] [[.p (PV.int .i64 n1)], [.p (PV.int .i64 n11)]]
def r76 (qr qr1 : Int) (b : Bool) : R := some ([.c (.p (PV.bool b))], [[.p (PV.int .i64 qr)], [.p (PV.int .i64 qr1)]])
def R76 (x0 : R) (K0 : Int → Int → Bool → R) : R := x0.bind fun q0 => bif lensB q0.2 [[.p (.int .i64)], [.p (.int .i64)]] && lensS q0.1 [.c (.p (.bool))] then (cInt (cellAt q0.2 0 0) .i64).bind fun qr => (cInt (cellAt q0.2 1 0) .i64).bind fun qr1 => (cBool (resAt q0.1 0)).bind fun b => K0 qr qr1 b else none
@[simp] theorem R76_r (qr qr1 : Int) (b : Bool) (K0 : Int → Int → Bool → R) : R76 (r76 qr qr1 b) K0 = K0 qr qr1 b := by kernel_rfl
/-! 77 : impl.PutAll$1 -/
def c77 (k : Nat) (own : List PV) (n1 n11 : Int) : R := evF P E T k 77 [.s (.c (.p (PV.row 2 0 own))), .s (.c (.bptr 0 0)), .s (.c (.bptr 1 0))] [[.p (PV.int .i64 n1)], [.p (PV.int .i64 n11)]]
def r77 (qr qr1 : Int) (b : Bool) : R := some ([.c (.p (PV.bool b))], [[.p (PV.int .i64 qr)], [.p (PV.int .i64 qr1)]])
def R77 (x0 : R) (K0 : Int → Int → Bool → R) : R := x0.bind fun q0 => bif lensB q0.2 [[.p (.int .i64)], [.p (.int .i64)]] && lensS q0.1 [.c (.p (.bool))] then (cInt (cellAt q0.2 0 0) .i64).bind fun qr => (cInt (cellAt q0.2 1 0) .i64).bind fun qr1 => (cBool (resAt q0.1 0)).bind fun b => K0 qr qr1 b else none
@[simp] theorem R77_r (qr qr1 : Int) (b : Bool) (K0 : Int → Int → Bool → R) : R77 (r77 qr qr1 b) K0 = K0 qr qr1 b := by kernel_rfl
/-! 78 : impl.isTermOf -/
def c78 (k : Nat) (wide vars : Int) (t : List PV) (kind : Int) : R := evF P E T k 78 [.s (.c (.p (PV.int .i64 wide))), .s (.c (.p (PV.int .i64 vars))), .s (.c (.p (PV.row 2 0 t))), .s (.c (.p (PV.int .i64 kind)))] []
def r78 (b : Bool) : R := some ([.c (.p (PV.bool b))], [])
def R78 (x0 : R) (K0 : Bool → R) : R := x0.bind fun q0 => bif lensB q0.2 [] && lensS q0.1 [.c (.p (.bool))] then (cBool (resAt q0.1 0)).bind fun b => K0 b else none
@[simp] theorem R78_r (b : Bool) (K0 : Bool → R) : R78 (r78 b) K0 = K0 b := by kernel_rfl
/-! 79 : impl.checkedTerm -/
def c79 (k : Nat) (wide vars : Int) (t : List PV) : R := evF P E T k 79 [.s (.c (.p (PV.int .i64 wide))), .s (.c (.p (PV.int .i64 vars))), .s (.c (.p (PV.row 2 0 t)))] []
def r79 (l : List PV) (b : Bool) : R := some ([.c (.p (PV.row 2 0 l)), .c (.p (PV.bool b))], [])
def R79 (x0 : R) (K0 : List PV → Bool → R) : R := x0.bind fun q0 => bif lensB q0.2 [] && lensS q0.1 [.c (.p (.row 2)), .c (.p (.bool))] then (cRow (resAt q0.1 0) 2).bind fun l => (cBool (resAt q0.1 1)).bind fun b => K0 l b else none
@[simp] theorem R79_r (l : List PV) (b : Bool) (K0 : List PV → Bool → R) : R79 (r79 l b) K0 = K0 l b := by kernel_rfl
/-! 80 : spec.l2Kind -/
def c80 (k : Nat) (wide vars : Int) (t : List PV) : R := evF P E T k 80 [.s (.c (.p (PV.int .i64 wide))), .s (.c (.p (PV.int .i64 vars))), .s (.c (.p (PV.row 2 0 t)))] []
def r80 (qr : Int) : R := some ([.c (.p (PV.int .i64 qr))], [])
def R80 (x0 : R) (K0 : Int → R) : R := x0.bind fun q0 => bif lensB q0.2 [] && lensS q0.1 [.c (.p (.int .i64))] then (cInt (resAt q0.1 0) .i64).bind fun qr => K0 qr else none
@[simp] theorem R80_r (qr : Int) (K0 : Int → R) : R80 (r80 qr) K0 = K0 qr := by kernel_rfl
def L80_1 (k n : Nat) (wide vars : Int) (pileLen : Nat) (t27 : List PV) (t28 t29 : Int) (xs : List PV) : R := evLoopAt P E T k 80 [] [1, 1, 1, 0, 1, 0] [] n ⟨mkT 83 [(0, .s (.c (.p (PV.int .i64 wide)))), (1, .s (.c (.p (PV.int .i64 vars)))), (7, .s (.c (.loc 0 0 0 0 pileLen))), (27, .s (.c (.p (PV.row 2 0 t27)))), (28, .s (.c (.p (PV.int .i64 t28)))), (29, .s (.c (.p (PV.int .i64 t29))))], [.arr 3 0 0 false xs]⟩
def L80_2 (k n1 n : Nat) (wide vars : Int) (pileLen : Nat) (many part own : Int) (t27 : List PV) (t28 t29 : Int) (xs : List PV) : R := evLoopAt P E T k 80 [] [1, 1, 1, 0, 1, 0, 0, 1, 1, 0, 0, 1, 1, 1, 0, 0] [n1] n ⟨mkT 83 [(0, .s (.c (.p (PV.int .i64 wide)))), (1, .s (.c (.p (PV.int .i64 vars)))), (7, .s (.c (.loc 0 0 0 0 pileLen))), (10, .s (.c (.p (PV.int .i64 many)))), (11, .s (.c (.p (PV.int .i64 part)))), (12, .s (.c (.p (PV.int .i64 own)))), (27, .s (.c (.p (PV.row 2 0 t27)))), (28, .s (.c (.p (PV.int .i64 t28)))), (29, .s (.c (.p (PV.int .i64 t29))))], [.arr 3 0 0 false xs]⟩
/-! 81 : spec.l2Made -/
def c81 (k : Nat) (wide vars : Int) (t : List PV) : R := evF P E T k 81 [.s (.c (.p (PV.int .i64 wide))), .s (.c (.p (PV.int .i64 vars))), .s (.c (.p (PV.row 2 0 t)))] []
def r81 (l : List PV) (b : Bool) : R := some ([.c (.p (PV.row 2 0 l)), .c (.p (PV.bool b))], [])
def R81 (x0 : R) (K0 : List PV → Bool → R) : R := x0.bind fun q0 => bif lensB q0.2 [] && lensS q0.1 [.c (.p (.row 2)), .c (.p (.bool))] then (cRow (resAt q0.1 0) 2).bind fun l => (cBool (resAt q0.1 1)).bind fun b => K0 l b else none
@[simp] theorem R81_r (l : List PV) (b : Bool) (K0 : List PV → Bool → R) : R81 (r81 l b) K0 = K0 l b := by kernel_rfl
/-! 82 : impl.isWide -/
def c82 (k : Nat) (n1 : Int) : R := evF P E T k 82 [.s (.c (.p (PV.int .i64 n1)))] []
def r82 (b : Bool) : R := some ([.c (.p (PV.bool b))], [])
def R82 (x0 : R) (K0 : Bool → R) : R := x0.bind fun q0 => bif lensB q0.2 [] && lensS q0.1 [.c (.p (.bool))] then (cBool (resAt q0.1 0)).bind fun b => K0 b else none
@[simp] theorem R82_r (b : Bool) (K0 : Bool → R) : R82 (r82 b) K0 = K0 b := by kernel_rfl
/-! 83 : impl.isVars -/
def c83 (k : Nat) (n1 : Int) : R := evF P E T k 83 [.s (.c (.p (PV.int .i64 n1)))] []
def r83 (b : Bool) : R := some ([.c (.p (PV.bool b))], [])
def R83 (x0 : R) (K0 : Bool → R) : R := x0.bind fun q0 => bif lensB q0.2 [] && lensS q0.1 [.c (.p (.bool))] then (cBool (resAt q0.1 0)).bind fun b => K0 b else none
@[simp] theorem R83_r (b : Bool) (K0 : Bool → R) : R83 (r83 b) K0 = K0 b := by kernel_rfl
/-! 84 : impl.operandsOf -/
def c84 (k : Nat) (op : Int) : R := evF P E T k 84 [.s (.c (.p (PV.int .i64 op)))] []
def r84 (qr qr1 qr2 : Int) : R := some ([.c (.p (PV.int .i64 qr)), .c (.p (PV.int .i64 qr1)), .c (.p (PV.int .i64 qr2))], [])
def R84 (x0 : R) (K0 : Int → Int → Int → R) : R := x0.bind fun q0 => bif lensB q0.2 [] && lensS q0.1 [.c (.p (.int .i64)), .c (.p (.int .i64)), .c (.p (.int .i64))] then (cInt (resAt q0.1 0) .i64).bind fun qr => (cInt (resAt q0.1 1) .i64).bind fun qr1 => (cInt (resAt q0.1 2) .i64).bind fun qr2 => K0 qr qr1 qr2 else none
@[simp] theorem R84_r (qr qr1 qr2 : Int) (K0 : Int → Int → Int → R) : R84 (r84 qr qr1 qr2) K0 = K0 qr qr1 qr2 := by kernel_rfl
/-! 85 : impl.isLeafRight -/
def c85 (k : Nat) (wide vars x x1 : Int) : R := evF P E T k 85 [.s (.c (.p (PV.int .i64 wide))), .s (.c (.p (PV.int .i64 vars))), .s (.c (.p (PV.agg [.int .i64 x, .int .u64 x1])))] []
def r85 (b : Bool) : R := some ([.c (.p (PV.bool b))], [])
def R85 (x0 : R) (K0 : Bool → R) : R := x0.bind fun q0 => bif lensB q0.2 [] && lensS q0.1 [.c (.p (.bool))] then (cBool (resAt q0.1 0)).bind fun b => K0 b else none
@[simp] theorem R85_r (b : Bool) (K0 : Bool → R) : R85 (r85 b) K0 = K0 b := by kernel_rfl
/-! 86 : slices.ContainsFunc[[]int,int] -/
def c86 (k : Nat) (qs : List PV) (n1 : Int) : R := evF P E T k 86 [.s (.c (.p (PV.row 0 0 qs))), .s (.c (.fn 87 [0]))] [[.p (PV.int .i64 n1)]]
def r86 (qr : Int) (b : Bool) : R := some ([.c (.p (PV.bool b))], [[.p (PV.int .i64 qr)]])
def R86 (x0 : R) (K0 : Int → Bool → R) : R := x0.bind fun q0 => bif lensB q0.2 [[.p (.int .i64)]] && lensS q0.1 [.c (.p (.bool))] then (cInt (cellAt q0.2 0 0) .i64).bind fun qr => (cBool (resAt q0.1 0)).bind fun b => K0 qr b else none
@[simp] theorem R86_r (qr : Int) (b : Bool) (K0 : Int → Bool → R) : R86 (r86 qr b) K0 = K0 qr b := by kernel_rfl
def R86p (x0 : R) (K0 : Int → Bool → R) : R := x0.bind fun q0 => bif q0.1.all plainS && q0.2.all (fun cs => cs.all plainC) then (bif lensB q0.2 [[.p (.int .i64)]] && lensS q0.1 [.c (.p (.bool))] then (cInt (cellAt q0.2 0 0) .i64).bind fun qr => (cBool (resAt q0.1 0)).bind fun b => K0 qr b else none) else none
@[simp] theorem R86p_r (qr : Int) (b : Bool) (K0 : Int → Bool → R) : R86p (r86 qr b) K0 = K0 qr b := by kernel_rfl
/-! 87 : impl.GoodTerm$1 -/
def c87 (k : Nat) (own n1 : Int) : R := evF P E T k 87 [.s (.c (.p (PV.int .i64 own))), .s (.c (.bptr 0 0))] [[.p (PV.int .i64 n1)]]
def r87 (qr : Int) (b : Bool) : R := some ([.c (.p (PV.bool b))], [[.p (PV.int .i64 qr)]])
def R87 (x0 : R) (K0 : Int → Bool → R) : R := x0.bind fun q0 => bif lensB q0.2 [[.p (.int .i64)]] && lensS q0.1 [.c (.p (.bool))] then (cInt (cellAt q0.2 0 0) .i64).bind fun qr => (cBool (resAt q0.1 0)).bind fun b => K0 qr b else none
@[simp] theorem R87_r (qr : Int) (b : Bool) (K0 : Int → Bool → R) : R87 (r87 qr b) K0 = K0 qr b := by kernel_rfl
/-! 88 : impl.mask -/
def c88 (k : Nat) (wide : Int) : R := evF P E T k 88 [.s (.c (.p (PV.int .i64 wide)))] []
def r88 (qr : Int) : R := some ([.c (.p (PV.int .u64 qr))], [])
def R88 (x0 : R) (K0 : Int → R) : R := x0.bind fun q0 => bif lensB q0.2 [] && lensS q0.1 [.c (.p (.int .u64))] then (cInt (resAt q0.1 0) .u64).bind fun qr => K0 qr else none
@[simp] theorem R88_r (qr : Int) (K0 : Int → R) : R88 (r88 qr) K0 = K0 qr := by kernel_rfl
/-! 89 : impl.isState -/
def c89 (k : Nat) (wide vars : Int) (state : List PV) : R := evF P E T k 89 [.s (.c (.p (PV.int .i64 wide))), .s (.c (.p (PV.int .i64 vars))), .s (.c (.p (PV.row 0 0 state)))] []
def r89 (b : Bool) : R := some ([.c (.p (PV.bool b))], [])
def R89 (x0 : R) (K0 : Bool → R) : R := x0.bind fun q0 => bif lensB q0.2 [] && lensS q0.1 [.c (.p (.bool))] then (cBool (resAt q0.1 0)).bind fun b => K0 b else none
@[simp] theorem R89_r (b : Bool) (K0 : Bool → R) : R89 (r89 b) K0 = K0 b := by kernel_rfl
/-! 90 : impl.valueOf -/
def c90 (k : Nat) (wide : Int) (t state : List PV) : R := evF P E T k 90 [.s (.c (.p (PV.int .i64 wide))), .s (.c (.p (PV.row 2 0 t))), .s (.c (.p (PV.row 0 0 state)))] []
def r90 (qr : Int) : R := some ([.c (.p (PV.int .u64 qr))], [])
def R90 (x0 : R) (K0 : Int → R) : R := x0.bind fun q0 => bif lensB q0.2 [] && lensS q0.1 [.c (.p (.int .u64))] then (cInt (resAt q0.1 0) .u64).bind fun qr => K0 qr else none
@[simp] theorem R90_r (qr : Int) (K0 : Int → R) : R90 (r90 qr) K0 = K0 qr := by kernel_rfl
def L90_1 (k n : Nat) (wide : Int) (state : List PV) (stackLen : Nat) (t12 : List PV) (t13 t14 : Int) (xs : List PV) : R := evLoopAt P E T k 90 [] [1, 1, 0, 1, 0] [] n ⟨mkT 87 [(0, .s (.c (.p (PV.int .i64 wide)))), (2, .s (.c (.p (PV.row 0 0 state)))), (7, .s (.c (.loc 0 0 0 0 stackLen))), (12, .s (.c (.p (PV.row 2 0 t12)))), (13, .s (.c (.p (PV.int .i64 t13)))), (14, .s (.c (.p (PV.int .i64 t14))))], [.arr 50 0 0 false xs]⟩
/-! 91 : spec.l1Cur).asked -/
def c91 (k : Nat) (wide vars deep : Int) (l : List PV) (n1 n11 : Int) : R := evF P E T k 91 [.s (.c (.bptr 0 0)), .s (.c (.p (PV.int .i64 wide))), .s (.c (.p (PV.int .i64 vars))), .s (.c (.p (PV.int .i64 deep)))] [[.p (PV.row 0 0 l), .p (PV.int .i64 n1), .p (PV.int .u64 n11)]]
def r91 (l : List PV) (qr qr1 : Int) (l1 : List PV) : R := some ([.c (.own 104 2 l1)], [[.p (PV.row 0 0 l), .p (PV.int .i64 qr), .p (PV.int .u64 qr1)]])
def R91 (x0 : R) (K0 : List PV → Int → Int → List PV → R) : R := x0.bind fun q0 => bif lensB q0.2 [[.p (.row 0), .p (.int .i64), .p (.int .u64)]] && lensS q0.1 [.c (.own 104 2)] then (cRow (cellAt q0.2 0 0) 0).bind fun l => (cInt (cellAt q0.2 0 1) .i64).bind fun qr => (cInt (cellAt q0.2 0 2) .u64).bind fun qr1 => (asOwn 104 2 (resAt q0.1 0)).bind fun l1 => K0 l qr qr1 l1 else none
@[simp] theorem R91_r (l : List PV) (qr qr1 : Int) (l1 : List PV) (K0 : List PV → Int → Int → List PV → R) : R91 (r91 l qr qr1 l1) K0 = K0 l qr qr1 l1 := by kernel_rfl
/-! 92 : impl.Node] -/
def c92 (k : Nat) (slices : List PV) : R := evF P E T k 92 [.s (.c (.p (PV.row 0 0 slices)))] []
def r92 (l : List PV) : R := some ([.c (.own 104 2 l)], [])
def R92 (x0 : R) (K0 : List PV → R) : R := x0.bind fun q0 => bif lensB q0.2 [] && lensS q0.1 [.c (.own 104 2)] then (asOwn 104 2 (resAt q0.1 0)).bind fun l => K0 l else none
@[simp] theorem R92_r (l : List PV) (K0 : List PV → R) : R92 (r92 l) K0 = K0 l := by kernel_rfl
def R92p (x0 : R) (K0 : List PV → R) : R := x0.bind fun q0 => bif q0.1.all plainS && q0.2.all (fun cs => cs.all plainC) then (bif lensB q0.2 [] && lensS q0.1 [.c (.own 104 2)] then (asOwn 104 2 (resAt q0.1 0)).bind fun l => K0 l else none) else none
def L92_1 (k n : Nat) (slices : List PV) (size : Int) (t9 : List PV) (t10 t11 : Int) : R := evLoopAt P E T k 92 [] [1, 1, 0, 1, 0] [] n ⟨mkT 36 [(0, .s (.c (.p (PV.row 0 0 slices)))), (3, .s (.c (.p (PV.int .i64 size)))), (9, .s (.c (.p (PV.row 0 0 t9)))), (10, .s (.c (.p (PV.int .i64 t10)))), (11, .s (.c (.p (PV.int .i64 t11))))], []⟩
def L92_2 (k n : Nat) (newsliceLen : Nat) (t25 : List PV) (t26 t27 : Int) (xs : List PV) : R := evLoopAt P E T k 92 [] [1, 1, 1, 1, 0, 1, 0] [] n ⟨mkT 36 [(6, .s (.c (.loc 0 0 2 0 newsliceLen))), (25, .s (.c (.p (PV.row 0 0 t25)))), (26, .s (.c (.p (PV.int .i64 t26)))), (27, .s (.c (.p (PV.int .i64 t27))))], [.arr 104 2 0 false xs]⟩
/-! 93 : spec.l2Need -/
def c93 (k : Nat) (op : Int) : R := evF P E T k 93 [.s (.c (.p (PV.int .i64 op)))] []
def r93 (qr qr1 qr2 : Int) : R := some ([.c (.p (PV.int .i64 qr)), .c (.p (PV.int .i64 qr1)), .c (.p (PV.int .i64 qr2))], [])
def R93 (x0 : R) (K0 : Int → Int → Int → R) : R := x0.bind fun q0 => bif lensB q0.2 [] && lensS q0.1 [.c (.p (.int .i64)), .c (.p (.int .i64)), .c (.p (.int .i64))] then (cInt (resAt q0.1 0) .i64).bind fun qr => (cInt (resAt q0.1 1) .i64).bind fun qr1 => (cInt (resAt q0.1 2) .i64).bind fun qr2 => K0 qr qr1 qr2 else none
@[simp] theorem R93_r (qr qr1 qr2 : Int) (K0 : Int → Int → Int → R) : R93 (r93 qr qr1 qr2) K0 = K0 qr qr1 qr2 := by kernel_rfl
/-! 94 : impl.areWords -/
def c94 (k : Nat) (wide a b : Int) : R := evF P E T k 94 [.s (.c (.p (PV.int .i64 wide))), .s (.c (.p (PV.int .u64 a))), .s (.c (.p (PV.int .u64 b)))] []
def r94 (b : Bool) : R := some ([.c (.p (PV.bool b))], [])
def R94 (x0 : R) (K0 : Bool → R) : R := x0.bind fun q0 => bif lensB q0.2 [] && lensS q0.1 [.c (.p (.bool))] then (cBool (resAt q0.1 0)).bind fun b => K0 b else none
@[simp] theorem R94_r (b : Bool) (K0 : Bool → R) : R94 (r94 b) K0 = K0 b := by kernel_rfl
/-! 95 : impl.signed -/
def c95 (k : Nat) (wide a : Int) : R := evF P E T k 95 [.s (.c (.p (PV.int .i64 wide))), .s (.c (.p (PV.int .u64 a)))] []
def r95 (qr : Int) : R := some ([.c (.p (PV.int .i64 qr))], [])
def R95 (x0 : R) (K0 : Int → R) : R := x0.bind fun q0 => bif lensB q0.2 [] && lensS q0.1 [.c (.p (.int .i64))] then (cInt (resAt q0.1 0) .i64).bind fun qr => K0 qr else none
@[simp] theorem R95_r (qr : Int) (K0 : Int → R) : R95 (r95 qr) K0 = K0 qr := by kernel_rfl
/-! 96 : spec.l1Cur).among -/
def c96 (k : Nat) (list l : List PV) (n1 n11 : Int) : R := evF P E T k 96 [.s (.c (.bptr 0 0)), .s (.c (.p (PV.row 0 0 list)))] [[.p (PV.row 0 0 l), .p (PV.int .i64 n1), .p (PV.int .u64 n11)]]
def r96 (l : List PV) (qr qr1 qr2 : Int) : R := some ([.c (.p (PV.int .i64 qr2))], [[.p (PV.row 0 0 l), .p (PV.int .i64 qr), .p (PV.int .u64 qr1)]])
def R96 (x0 : R) (K0 : List PV → Int → Int → Int → R) : R := x0.bind fun q0 => bif lensB q0.2 [[.p (.row 0), .p (.int .i64), .p (.int .u64)]] && lensS q0.1 [.c (.p (.int .i64))] then (cRow (cellAt q0.2 0 0) 0).bind fun l => (cInt (cellAt q0.2 0 1) .i64).bind fun qr => (cInt (cellAt q0.2 0 2) .u64).bind fun qr1 => (cInt (resAt q0.1 0) .i64).bind fun qr2 => K0 l qr qr1 qr2 else none
@[simp] theorem R96_r (l : List PV) (qr qr1 qr2 : Int) (K0 : List PV → Int → Int → Int → R) : R96 (r96 l qr qr1 qr2) K0 = K0 l qr qr1 qr2 := by kernel_rfl
/-! 97 : impl.Node] -/
def c97 (k : Nat) (qs : List PV) : R := evF P E T k 97 [.s (.c (.p (PV.row 2 0 qs)))] []
def r97 (l : List PV) : R := some ([.c (.own 104 2 l)], [])
def R97 (x0 : R) (K0 : List PV → R) : R := x0.bind fun q0 => bif lensB q0.2 [] && lensS q0.1 [.c (.own 104 2)] then (asOwn 104 2 (resAt q0.1 0)).bind fun l => K0 l else none
@[simp] theorem R97_r (l : List PV) (K0 : List PV → R) : R97 (r97 l) K0 = K0 l := by kernel_rfl
/-! 98 : spec.l1Cur).prog -/
def c98 (k : Nat) (l : List PV) (n1 n11 : Int) : R := evF P E T k 98 [.s (.c (.bptr 0 0))] [[.p (PV.row 0 0 l), .p (PV.int .i64 n1), .p (PV.int .u64 n11)]]
def r98 (l : List PV) (qr qr1 qr2 qr3 : Int) (l1 l2 : List PV) : R := some ([.agg [.p (PV.int .i64 qr2), .p (PV.int .i64 qr3), .p (PV.row 2 0 l1), .p (PV.row 2 0 l2)]], [[.p (PV.row 0 0 l), .p (PV.int .i64 qr), .p (PV.int .u64 qr1)]])
def R98 (x0 : R) (K0 : List PV → Int → Int → Int → Int → List PV → List PV → R) : R := x0.bind fun q0 => bif lensB q0.2 [[.p (.row 0), .p (.int .i64), .p (.int .u64)]] && lensS q0.1 [.agg [.p (.int .i64), .p (.int .i64), .p (.row 2), .p (.row 2)]] then (cRow (cellAt q0.2 0 0) 0).bind fun l => (cInt (cellAt q0.2 0 1) .i64).bind fun qr => (cInt (cellAt q0.2 0 2) .u64).bind fun qr1 => (cInt (Dp.partAt q0.1 0 0) .i64).bind fun qr2 => (cInt (Dp.partAt q0.1 0 1) .i64).bind fun qr3 => (cRow (Dp.partAt q0.1 0 2) 2).bind fun l1 => (cRow (Dp.partAt q0.1 0 3) 2).bind fun l2 => K0 l qr qr1 qr2 qr3 l1 l2 else none
@[simp] theorem R98_r (l : List PV) (qr qr1 qr2 qr3 : Int) (l1 l2 : List PV) (K0 : List PV → Int → Int → Int → Int → List PV → List PV → R) : R98 (r98 l qr qr1 qr2 qr3 l1 l2) K0 = K0 l qr qr1 qr2 qr3 l1 l2 := by kernel_rfl
/-! 99 : spec.l1Cur).askedOf -/
def c99 (k : Nat) (p p1 : Int) (p2 p3 : List PV) (deep : Int) (l : List PV) (n1 n11 : Int) : R := evF P E T k 99 [.s (.c (.bptr 0 0)), .s (.c (.p (PV.agg [.int .i64 p, .int .i64 p1, .row 2 0 p2, .row 2 0 p3]))), .s (.c (.p (PV.int .i64 deep)))] [[.p (PV.row 0 0 l), .p (PV.int .i64 n1), .p (PV.int .u64 n11)]]
def r99 (l : List PV) (qr qr1 : Int) (l1 : List PV) : R := some ([.c (.p (PV.row 2 0 l1))], [[.p (PV.row 0 0 l), .p (PV.int .i64 qr), .p (PV.int .u64 qr1)]])
def R99 (x0 : R) (K0 : List PV → Int → Int → List PV → R) : R := x0.bind fun q0 => bif lensB q0.2 [[.p (.row 0), .p (.int .i64), .p (.int .u64)]] && lensS q0.1 [.c (.p (.row 2))] then (cRow (cellAt q0.2 0 0) 0).bind fun l => (cInt (cellAt q0.2 0 1) .i64).bind fun qr => (cInt (cellAt q0.2 0 2) .u64).bind fun qr1 => (cRow (resAt q0.1 0) 2).bind fun l1 => K0 l qr qr1 l1 else none
@[simp] theorem R99_r (l : List PV) (qr qr1 : Int) (l1 : List PV) (K0 : List PV → Int → Int → List PV → R) : R99 (r99 l qr qr1 l1) K0 = K0 l qr qr1 l1 := by kernel_rfl
/-! 100 : impl.isBefore -/
def c100 (k : Nat) (p p1 : Int) (p2 p3 : List PV) (k1 : Int) (t : List PV) : R := evF P E T k 100 [.s (.c (.p (PV.agg [.int .i64 p, .int .i64 p1, .row 2 0 p2, .row 2 0 p3]))), .s (.c (.p (PV.int .i64 k1))), .s (.c (.p (PV.row 2 0 t)))] []
def r100 (b : Bool) : R := some ([.c (.p (PV.bool b))], [])
def R100 (x0 : R) (K0 : Bool → R) : R := x0.bind fun q0 => bif lensB q0.2 [] && lensS q0.1 [.c (.p (.bool))] then (cBool (resAt q0.1 0)).bind fun b => K0 b else none
@[simp] theorem R100_r (b : Bool) (K0 : Bool → R) : R100 (r100 b) K0 = K0 b := by kernel_rfl
/-! 101 : impl.Program).beforeOne -/
def c101 (k : Nat) (p p1 : Int) (p2 p3 : List PV) (k1 : Int) (t : List PV) : R := evF P E T k 101 [.s (.c (.p (PV.agg [.int .i64 p, .int .i64 p1, .row 2 0 p2, .row 2 0 p3]))), .s (.c (.p (PV.int .i64 k1))), .s (.c (.p (PV.row 2 0 t)))] []
def r101 (l : List PV) (b : Bool) : R := some ([.c (.p (PV.row 2 0 l)), .c (.p (PV.bool b))], [])
def R101 (x0 : R) (K0 : List PV → Bool → R) : R := x0.bind fun q0 => bif lensB q0.2 [] && lensS q0.1 [.c (.p (.row 2)), .c (.p (.bool))] then (cRow (resAt q0.1 0) 2).bind fun l => (cBool (resAt q0.1 1)).bind fun b => K0 l b else none
@[simp] theorem R101_r (l : List PV) (b : Bool) (K0 : List PV → Bool → R) : R101 (r101 l b) K0 = K0 l b := by kernel_rfl
def L101_1 (k n : Nat) (k1 : Int) (t : List PV) (byLen : Nat) (t14 t15 n1 n11 : Int) (l l1 xs : List PV) : R := evLoopAt P E T k 101 [] [1, 1, 0, 1, 0] [] n ⟨mkT 53 [(1, .s (.c (.p (PV.int .i64 k1)))), (2, .s (.c (.p (PV.row 2 0 t)))), (3, .s (.c (.bptr 0 0))), (8, .s (.c (.loc 1 0 0 0 byLen))), (14, .s (.c (.p (PV.int .i64 t14)))), (15, .s (.c (.p (PV.int .i64 t15))))], [.box [.p (PV.int .i64 n1), .p (PV.int .i64 n11), .p (PV.row 2 0 l), .p (PV.row 2 0 l1)], .arr 27 0 0 false xs]⟩
def L101_2 (k n : Nat) (t : List PV) (byLen : Nat) (t31 : List PV) (t32 t33 n1 n11 : Int) (l l1 xs : List PV) : R := evLoopAt P E T k 101 [] [1, 1, 1, 0, 1, 0] [] n ⟨mkT 53 [(2, .s (.c (.p (PV.row 2 0 t)))), (3, .s (.c (.bptr 0 0))), (8, .s (.c (.loc 1 0 0 0 byLen))), (31, .s (.c (.p (PV.row 2 0 t31)))), (32, .s (.c (.p (PV.int .i64 t32)))), (33, .s (.c (.p (PV.int .i64 t33))))], [.box [.p (PV.int .i64 n1), .p (PV.int .i64 n11), .p (PV.row 2 0 l), .p (PV.row 2 0 l1)], .arr 27 0 0 false xs]⟩
/-! 102 : spec.l16Asked -/
def c102 (k : Nat) (p p1 : Int) (p2 p3 : List PV) (k1 : Int) (t : List PV) : R := evF P E T k 102 [.s (.c (.p (PV.agg [.int .i64 p, .int .i64 p1, .row 2 0 p2, .row 2 0 p3]))), .s (.c (.p (PV.int .i64 k1))), .s (.c (.p (PV.row 2 0 t)))] []
def r102 (b : Bool) : R := some ([.c (.p (PV.bool b))], [])
def R102 (x0 : R) (K0 : Bool → R) : R := x0.bind fun q0 => bif lensB q0.2 [] && lensS q0.1 [.c (.p (.bool))] then (cBool (resAt q0.1 0)).bind fun b => K0 b else none
@[simp] theorem R102_r (b : Bool) (K0 : Bool → R) : R102 (r102 b) K0 = K0 b := by kernel_rfl
/-! 103 : spec.l16One -/
def c103 (k : Nat) (p p1 : Int) (p2 p3 : List PV) (k1 : Int) (t : List PV) : R := evF P E T k 103 [.s (.c (.p (PV.agg [.int .i64 p, .int .i64 p1, .row 2 0 p2, .row 2 0 p3]))), .s (.c (.p (PV.int .i64 k1))), .s (.c (.p (PV.row 2 0 t)))] []
def r103 (l : List PV) (b : Bool) : R := some ([.c (.p (PV.row 2 0 l)), .c (.p (PV.bool b))], [])
def R103 (x0 : R) (K0 : List PV → Bool → R) : R := x0.bind fun q0 => bif lensB q0.2 [] && lensS q0.1 [.c (.p (.row 2)), .c (.p (.bool))] then (cRow (resAt q0.1 0) 2).bind fun l => (cBool (resAt q0.1 1)).bind fun b => K0 l b else none
@[simp] theorem R103_r (l : List PV) (b : Bool) (K0 : List PV → Bool → R) : R103 (r103 l b) K0 = K0 l b := by kernel_rfl
def L103_1 (k n : Nat) (k1 : Int) (t : List PV) (byLen : Nat) (v n1 n11 : Int) (l l1 xs : List PV) : R := evLoopAt P E T k 103 [] [1, 1, 0, 1, 0] [] n ⟨mkT 52 [(1, .s (.c (.p (PV.int .i64 k1)))), (2, .s (.c (.p (PV.row 2 0 t)))), (3, .s (.c (.bptr 0 0))), (8, .s (.c (.loc 1 0 0 0 byLen))), (9, .s (.c (.p (PV.int .i64 v))))], [.box [.p (PV.int .i64 n1), .p (PV.int .i64 n11), .p (PV.row 2 0 l), .p (PV.row 2 0 l1)], .arr 27 0 0 false xs]⟩
def L103_2 (k n : Nat) (t : List PV) (byLen : Nat) (t30 : List PV) (t31 t32 n1 n11 : Int) (l l1 xs : List PV) : R := evLoopAt P E T k 103 [] [1, 1, 1, 0, 1, 0] [] n ⟨mkT 52 [(2, .s (.c (.p (PV.row 2 0 t)))), (3, .s (.c (.bptr 0 0))), (8, .s (.c (.loc 1 0 0 0 byLen))), (30, .s (.c (.p (PV.row 2 0 t30)))), (31, .s (.c (.p (PV.int .i64 t31)))), (32, .s (.c (.p (PV.int .i64 t32))))], [.box [.p (PV.int .i64 n1), .p (PV.int .i64 n11), .p (PV.row 2 0 l), .p (PV.row 2 0 l1)], .arr 27 0 0 false xs]⟩
/-! 104 : impl.Program).beforeIf -/
def c104 (k : Nat) (p p1 : Int) (p2 p3 : List PV) (k1 : Int) (t : List PV) : R := evF P E T k 104 [.s (.c (.p (PV.agg [.int .i64 p, .int .i64 p1, .row 2 0 p2, .row 2 0 p3]))), .s (.c (.p (PV.int .i64 k1))), .s (.c (.p (PV.row 2 0 t)))] []
def r104 (l : List PV) (b : Bool) : R := some ([.c (.p (PV.row 2 0 l)), .c (.p (PV.bool b))], [])
def R104 (x0 : R) (K0 : List PV → Bool → R) : R := x0.bind fun q0 => bif lensB q0.2 [] && lensS q0.1 [.c (.p (.row 2)), .c (.p (.bool))] then (cRow (resAt q0.1 0) 2).bind fun l => (cBool (resAt q0.1 1)).bind fun b => K0 l b else none
@[simp] theorem R104_r (l : List PV) (b : Bool) (K0 : List PV → Bool → R) : R104 (r104 l b) K0 = K0 l b := by kernel_rfl
/-! 105 : spec.l16If -/
def c105 (k : Nat) (p p1 : Int) (p2 p3 : List PV) (k1 : Int) (t : List PV) : R := evF P E T k 105 [.s (.c (.p (PV.agg [.int .i64 p, .int .i64 p1, .row 2 0 p2, .row 2 0 p3]))), .s (.c (.p (PV.int .i64 k1))), .s (.c (.p (PV.row 2 0 t)))] []
def r105 (l : List PV) (b : Bool) : R := some ([.c (.p (PV.row 2 0 l)), .c (.p (PV.bool b))], [])
def R105 (x0 : R) (K0 : List PV → Bool → R) : R := x0.bind fun q0 => bif lensB q0.2 [] && lensS q0.1 [.c (.p (.row 2)), .c (.p (.bool))] then (cRow (resAt q0.1 0) 2).bind fun l => (cBool (resAt q0.1 1)).bind fun b => K0 l b else none
@[simp] theorem R105_r (l : List PV) (b : Bool) (K0 : List PV → Bool → R) : R105 (r105 l b) K0 = K0 l b := by kernel_rfl
/-! 106 : impl.Program).isCommandNo -/
def c106 (k : Nat) (p p1 : Int) (p2 p3 : List PV) (k1 : Int) : R := evF P E T k 106 [.s (.c (.p (PV.agg [.int .i64 p, .int .i64 p1, .row 2 0 p2, .row 2 0 p3]))), .s (.c (.p (PV.int .i64 k1)))] []
def r106 (b : Bool) : R := some ([.c (.p (PV.bool b))], [])
def R106 (x0 : R) (K0 : Bool → R) : R := x0.bind fun q0 => bif lensB q0.2 [] && lensS q0.1 [.c (.p (.bool))] then (cBool (resAt q0.1 0)).bind fun b => K0 b else none
@[simp] theorem R106_r (b : Bool) (K0 : Bool → R) : R106 (r106 b) K0 = K0 b := by kernel_rfl
/-! 107 : impl.Program).holds -/
def c107 (k : Nat) (p p1 : Int) (p2 p3 t qs : List PV) : R := evF P E T k 107 [.s (.c (.p (PV.agg [.int .i64 p, .int .i64 p1, .row 2 0 p2, .row 2 0 p3]))), .s (.c (.p (PV.row 2 0 t))), .s (.c (.p (PV.row 0 0 qs)))] []
def r107 (b : Bool) : R := some ([.c (.p (PV.bool b))], [])
def R107 (x0 : R) (K0 : Bool → R) : R := x0.bind fun q0 => bif lensB q0.2 [] && lensS q0.1 [.c (.p (.bool))] then (cBool (resAt q0.1 0)).bind fun b => K0 b else none
@[simp] theorem R107_r (b : Bool) (K0 : Bool → R) : R107 (r107 b) K0 = K0 b := by kernel_rfl
/-! 108 : impl.Program).after -/
def c108 (k : Nat) (p p1 : Int) (p2 p3 qc qc1 qs : List PV) : R := evF P E T k 108 [.s (.c (.p (PV.agg [.int .i64 p, .int .i64 p1, .row 2 0 p2, .row 2 0 p3]))), .s (.c (.p (PV.agg [.row 2 0 qc, .row 2 0 qc1]))), .s (.c (.p (PV.row 0 0 qs)))] []
def r108 (l : List PV) : R := some ([.c (.p (PV.row 0 0 l))], [])
def R108 (x0 : R) (K0 : List PV → R) : R := x0.bind fun q0 => bif lensB q0.2 [] && lensS q0.1 [.c (.p (.row 0))] then (cRow (resAt q0.1 0) 0).bind fun l => K0 l else none
@[simp] theorem R108_r (l : List PV) (K0 : List PV → R) : R108 (r108 l) K0 = K0 l := by kernel_rfl
def L108_1 (k n : Nat) (qs : List PV) (outLen : Nat) (t13 : List PV) (t14 t15 n1 n11 : Int) (l l1 xs : List PV) : R := evLoopAt P E T k 108 [] [1, 1, 0, 1, 0] [] n ⟨mkT 31 [(2, .s (.c (.p (PV.row 0 0 qs)))), (3, .s (.c (.bptr 0 0))), (7, .s (.c (.loc 1 0 0 0 outLen))), (13, .s (.c (.p (PV.row 2 0 t13)))), (14, .s (.c (.p (PV.int .i64 t14)))), (15, .s (.c (.p (PV.int .i64 t15))))], [.box [.p (PV.int .i64 n1), .p (PV.int .i64 n11), .p (PV.row 2 0 l), .p (PV.row 2 0 l1)], .arr 50 0 0 false xs]⟩
/-! 114 : impl.GoodWord -/
def c114 (k : Nat) (wide a : Int) : R := evF P E T k 114 [.s (.c (.p (PV.int .i64 wide))), .s (.c (.p (PV.int .u64 a)))] []
def r114 (b : Bool) : R := some ([.c (.p (PV.bool b))], [])
def R114 (x0 : R) (K0 : Bool → R) : R := x0.bind fun q0 => bif lensB q0.2 [] && lensS q0.1 [.c (.p (.bool))] then (cBool (resAt q0.1 0)).bind fun b => K0 b else none
@[simp] theorem R114_r (b : Bool) (K0 : Bool → R) : R114 (r114 b) K0 = K0 b := by kernel_rfl
/-! 129 : spec.l1Cur).progOf -/
def c129 (k : Nat) (wide vars : Int) (l : List PV) (n1 n11 : Int) : R := evF P E T k 129 [.s (.c (.bptr 0 0)), .s (.c (.p (PV.int .i64 wide))), .s (.c (.p (PV.int .i64 vars)))] [[.p (PV.row 0 0 l), .p (PV.int .i64 n1), .p (PV.int .u64 n11)]]
def r129 (l : List PV) (qr qr1 qr2 qr3 : Int) (l1 l2 : List PV) : R := some ([.agg [.p (PV.int .i64 qr2), .p (PV.int .i64 qr3), .p (PV.row 2 0 l1), .own ⟨126, some ⟨1, 143, 2, 0, none⟩⟩ 2 l2]], [[.p (PV.row 0 0 l), .p (PV.int .i64 qr), .p (PV.int .u64 qr1)]])
def R129 (x0 : R) (K0 : List PV → Int → Int → Int → Int → List PV → List PV → R) : R := x0.bind fun q0 => bif lensB q0.2 [[.p (.row 0), .p (.int .i64), .p (.int .u64)]] && lensS q0.1 [.agg [.p (.int .i64), .p (.int .i64), .p (.row 2), .own ⟨126, some ⟨1, 143, 2, 0, none⟩⟩ 2]] then (cRow (cellAt q0.2 0 0) 0).bind fun l => (cInt (cellAt q0.2 0 1) .i64).bind fun qr => (cInt (cellAt q0.2 0 2) .u64).bind fun qr1 => (cInt (Dp.partAt q0.1 0 0) .i64).bind fun qr2 => (cInt (Dp.partAt q0.1 0 1) .i64).bind fun qr3 => (cRow (Dp.partAt q0.1 0 2) 2).bind fun l1 => (asOwn ⟨126, some ⟨1, 143, 2, 0, none⟩⟩ 2 (Dp.partAt q0.1 0 3)).bind fun l2 => K0 l qr qr1 qr2 qr3 l1 l2 else none
@[simp] theorem R129_r (l : List PV) (qr qr1 qr2 qr3 : Int) (l1 l2 : List PV) (K0 : List PV → Int → Int → Int → Int → List PV → List PV → R) : R129 (r129 l qr qr1 qr2 qr3 l1 l2) K0 = K0 l qr qr1 qr2 qr3 l1 l2 := by kernel_rfl
def L129_1 (k n : Nat) (wide vars n1 : Int) (l : List PV) (n11 n12 n13 n14 : Int) (l1 l2 : List PV) (n15 n16 : Int) (Len Len1 : Nat) (xs xs1 : List PV) : R := evLoopAt P E T k 129 [3] [1, 1, 1, 1, 0, 1, 0] [] n ⟨mkT 44 [(0, .s (.c (.bptr 0 0))), (1, .s (.c (.p (PV.int .i64 wide)))), (2, .s (.c (.p (PV.int .i64 vars)))), (6, .s (.c (.bptr 1 0))), (7, .s (.c (.bptr 2 0))), (8, .s (.c (.p (PV.int .i64 n1))))], [.box [.p (PV.row 0 0 l), .p (PV.int .i64 n11), .p (PV.int .u64 n12)], .box [.p (PV.int .i64 n13), .p (PV.int .i64 n14), .p (PV.row 2 0 l1), .p (PV.row 2 0 l2)], .box [.p (PV.int .i64 n15), .p (PV.int .i64 n16), .loc 3 0 2 0 Len, .loc 4 0 2 0 Len1], .arr 104 2 0 false xs, .arr ⟨126, some ⟨1, 143, 2, 0, none⟩⟩ 2 0 false xs1]⟩
/-! 130 : spec.l1Cur).state -/
def c130 (k : Nat) (wide vars : Int) (l : List PV) (n1 n11 : Int) : R := evF P E T k 130 [.s (.c (.bptr 0 0)), .s (.c (.p (PV.int .i64 wide))), .s (.c (.p (PV.int .i64 vars)))] [[.p (PV.row 0 0 l), .p (PV.int .i64 n1), .p (PV.int .u64 n11)]]
def r130 (l : List PV) (qr qr1 : Int) (l1 : List PV) : R := some ([.c (.own 50 0 l1)], [[.p (PV.row 0 0 l), .p (PV.int .i64 qr), .p (PV.int .u64 qr1)]])
def R130 (x0 : R) (K0 : List PV → Int → Int → List PV → R) : R := x0.bind fun q0 => bif lensB q0.2 [[.p (.row 0), .p (.int .i64), .p (.int .u64)]] && lensS q0.1 [.c (.own 50 0)] then (cRow (cellAt q0.2 0 0) 0).bind fun l => (cInt (cellAt q0.2 0 1) .i64).bind fun qr => (cInt (cellAt q0.2 0 2) .u64).bind fun qr1 => (asOwn 50 0 (resAt q0.1 0)).bind fun l1 => K0 l qr qr1 l1 else none
@[simp] theorem R130_r (l : List PV) (qr qr1 : Int) (l1 : List PV) (K0 : List PV → Int → Int → List PV → R) : R130 (r130 l qr qr1 l1) K0 = K0 l qr qr1 l1 := by kernel_rfl
def L130_1 (k n : Nat) (wide vars : Int) (lLen : Nat) (k1 : Int) (l : List PV) (n1 n11 : Int) (xs : List PV) : R := evLoopAt P E T k 130 [3] [1, 1, 0, 1, 0] [] n ⟨mkT 21 [(0, .s (.c (.bptr 0 0))), (1, .s (.c (.p (PV.int .i64 wide)))), (2, .s (.c (.p (PV.int .i64 vars)))), (7, .s (.c (.loc 1 0 0 0 lLen))), (8, .s (.c (.p (PV.int .i64 k1))))], [.box [.p (PV.row 0 0 l), .p (PV.int .i64 n1), .p (PV.int .u64 n11)], .arr 50 0 0 false xs]⟩
/-! 131 : spec.l2Words -/
def c131 (k : Nat) (wide : Int) (state : List PV) : R := evF P E T k 131 [.s (.c (.p (PV.int .i64 wide))), .s (.c (.p (PV.row 0 0 state)))] []
def r131 (b : Bool) : R := some ([.c (.p (PV.bool b))], [])
def R131 (x0 : R) (K0 : Bool → R) : R := x0.bind fun q0 => bif lensB q0.2 [] && lensS q0.1 [.c (.p (.bool))] then (cBool (resAt q0.1 0)).bind fun b => K0 b else none
@[simp] theorem R131_r (b : Bool) (K0 : Bool → R) : R131 (r131 b) K0 = K0 b := by kernel_rfl
def L131_1 (k n : Nat) (wide : Int) (t7 : List PV) (t8 t9 : Int) : R := evLoopAt P E T k 131 [] [1, 0, 1, 0] [] n ⟨mkT 18 [(0, .s (.c (.p (PV.int .i64 wide)))), (7, .s (.c (.p (PV.row 0 0 t7)))), (8, .s (.c (.p (PV.int .i64 t8)))), (9, .s (.c (.p (PV.int .i64 t9))))], []⟩
/-! 132 : impl.Program).isCondition -/
def c132 (k : Nat) (p p1 : Int) (p2 p3 t : List PV) : R := evF P E T k 132 [.s (.c (.p (PV.agg [.int .i64 p, .int .i64 p1, .row 2 0 p2, .row 2 0 p3]))), .s (.c (.p (PV.row 2 0 t)))] []
def r132 (b : Bool) : R := some ([.c (.p (PV.bool b))], [])
def R132 (x0 : R) (K0 : Bool → R) : R := x0.bind fun q0 => bif lensB q0.2 [] && lensS q0.1 [.c (.p (.bool))] then (cBool (resAt q0.1 0)).bind fun b => K0 b else none
@[simp] theorem R132_r (b : Bool) (K0 : Bool → R) : R132 (r132 b) K0 = K0 b := by kernel_rfl
/-! 133 : impl.Command] -/
def c133 (k : Nat) (qs : List PV) (n1 n11 : Int) (l l1 : List PV) : R := evF P E T k 133 [.s (.c (.p (PV.row 2 0 qs))), .s (.c (.fn 134 [0]))] [[.p (PV.int .i64 n1), .p (PV.int .i64 n11), .p (PV.row 2 0 l), .p (PV.row 2 0 l1)]]
def r133 (qr qr1 : Int) (l l1 : List PV) (b : Bool) : R := some ([.c (.p (PV.bool b))], [[.p (PV.int .i64 qr), .p (PV.int .i64 qr1), .p (PV.row 2 0 l), .p (PV.row 2 0 l1)]])
def R133 (x0 : R) (K0 : Int → Int → List PV → List PV → Bool → R) : R := x0.bind fun q0 => bif lensB q0.2 [[.p (.int .i64), .p (.int .i64), .p (.row 2), .p (.row 2)]] && lensS q0.1 [.c (.p (.bool))] then (cInt (cellAt q0.2 0 0) .i64).bind fun qr => (cInt (cellAt q0.2 0 1) .i64).bind fun qr1 => (cRow (cellAt q0.2 0 2) 2).bind fun l => (cRow (cellAt q0.2 0 3) 2).bind fun l1 => (cBool (resAt q0.1 0)).bind fun b => K0 qr qr1 l l1 b else none
@[simp] theorem R133_r (qr qr1 : Int) (l l1 : List PV) (b : Bool) (K0 : Int → Int → List PV → List PV → Bool → R) : R133 (r133 qr qr1 l l1 b) K0 = K0 qr qr1 l l1 b := by kernel_rfl
/-! 134 : impl.GoodProgram$1 -/
def c134 (k : Nat) (qc qc1 : List PV) (n1 n11 : Int) (l l1 : List PV) : R := evF P E T k 134 [.s (.c (.p (PV.agg [.row 2 0 qc, .row 2 0 qc1]))), .s (.c (.bptr 0 0))] [[.p (PV.int .i64 n1), .p (PV.int .i64 n11), .p (PV.row 2 0 l), .p (PV.row 2 0 l1)]]
def r134 (qr qr1 : Int) (l l1 : List PV) (b : Bool) : R := some ([.c (.p (PV.bool b))], [[.p (PV.int .i64 qr), .p (PV.int .i64 qr1), .p (PV.row 2 0 l), .p (PV.row 2 0 l1)]])
def R134 (x0 : R) (K0 : Int → Int → List PV → List PV → Bool → R) : R := x0.bind fun q0 => bif lensB q0.2 [[.p (.int .i64), .p (.int .i64), .p (.row 2), .p (.row 2)]] && lensS q0.1 [.c (.p (.bool))] then (cInt (cellAt q0.2 0 0) .i64).bind fun qr => (cInt (cellAt q0.2 0 1) .i64).bind fun qr1 => (cRow (cellAt q0.2 0 2) 2).bind fun l => (cRow (cellAt q0.2 0 3) 2).bind fun l1 => (cBool (resAt q0.1 0)).bind fun b => K0 qr qr1 l l1 b else none
@[simp] theorem R134_r (qr qr1 : Int) (l l1 : List PV) (b : Bool) (K0 : Int → Int → List PV → List PV → Bool → R) : R134 (r134 qr qr1 l l1 b) K0 = K0 qr qr1 l l1 b := by kernel_rfl
/-! 135 : impl.Program).isCommand -/
def c135 (k : Nat) (p p1 : Int) (p2 p3 qc qc1 : List PV) : R := evF P E T k 135 [.s (.c (.p (PV.agg [.int .i64 p, .int .i64 p1, .row 2 0 p2, .row 2 0 p3]))), .s (.c (.p (PV.agg [.row 2 0 qc, .row 2 0 qc1])))] []
def r135 (b : Bool) : R := some ([.c (.p (PV.bool b))], [])
def R135 (x0 : R) (K0 : Bool → R) : R := x0.bind fun q0 => bif lensB q0.2 [] && lensS q0.1 [.c (.p (.bool))] then (cBool (resAt q0.1 0)).bind fun b => K0 b else none
@[simp] theorem R135_r (b : Bool) (K0 : Bool → R) : R135 (r135 b) K0 = K0 b := by kernel_rfl
def L135_1 (k n : Nat) (t13 : List PV) (t14 t15 n1 n11 : Int) (l l1 l2 l3 : List PV) : R := evLoopAt P E T k 135 [] [1, 1, 0, 1, 0] [] n ⟨mkT 57 [(2, .s (.c (.bptr 0 0))), (3, .s (.c (.bptr 1 0))), (13, .s (.c (.p (PV.row 2 0 t13)))), (14, .s (.c (.p (PV.int .i64 t14)))), (15, .s (.c (.p (PV.int .i64 t15))))], [.box [.p (PV.int .i64 n1), .p (PV.int .i64 n11), .p (PV.row 2 0 l), .p (PV.row 2 0 l1)], .box [.p (PV.row 2 0 l2), .p (PV.row 2 0 l3)]]⟩
/-! 136 : spec.l7Asks -/
def c136 (k : Nat) (p p1 : Int) (p2 p3 t : List PV) : R := evF P E T k 136 [.s (.c (.p (PV.agg [.int .i64 p, .int .i64 p1, .row 2 0 p2, .row 2 0 p3]))), .s (.c (.p (PV.row 2 0 t)))] []
def r136 (b : Bool) : R := some ([.c (.p (PV.bool b))], [])
def R136 (x0 : R) (K0 : Bool → R) : R := x0.bind fun q0 => bif lensB q0.2 [] && lensS q0.1 [.c (.p (.bool))] then (cBool (resAt q0.1 0)).bind fun b => K0 b else none
@[simp] theorem R136_r (b : Bool) (K0 : Bool → R) : R136 (r136 b) K0 = K0 b := by kernel_rfl
/-! 137 : spec.l7Command -/
def c137 (k : Nat) (p p1 : Int) (p2 p3 qc qc1 : List PV) : R := evF P E T k 137 [.s (.c (.p (PV.agg [.int .i64 p, .int .i64 p1, .row 2 0 p2, .row 2 0 p3]))), .s (.c (.p (PV.agg [.row 2 0 qc, .row 2 0 qc1])))] []
def r137 (b : Bool) : R := some ([.c (.p (PV.bool b))], [])
def R137 (x0 : R) (K0 : Bool → R) : R := x0.bind fun q0 => bif lensB q0.2 [] && lensS q0.1 [.c (.p (.bool))] then (cBool (resAt q0.1 0)).bind fun b => K0 b else none
@[simp] theorem R137_r (b : Bool) (K0 : Bool → R) : R137 (r137 b) K0 = K0 b := by kernel_rfl
def L137_1 (k n : Nat) (t21 : List PV) (t22 t23 n1 n11 : Int) (l l1 l2 l3 : List PV) : R := evLoopAt P E T k 137 [] [1, 1, 0, 1, 0] [] n ⟨mkT 62 [(2, .s (.c (.bptr 0 0))), (3, .s (.c (.bptr 1 0))), (21, .s (.c (.p (PV.row 2 0 t21)))), (22, .s (.c (.p (PV.int .i64 t22)))), (23, .s (.c (.p (PV.int .i64 t23))))], [.box [.p (PV.int .i64 n1), .p (PV.int .i64 n11), .p (PV.row 2 0 l), .p (PV.row 2 0 l1)], .box [.p (PV.row 2 0 l2), .p (PV.row 2 0 l3)]]⟩
/-! 138 : impl.Program).states -/
def c138 (k : Nat) (p p1 : Int) (p2 p3 : List PV) : R := evF P E T k 138 [.s (.c (.p (PV.agg [.int .i64 p, .int .i64 p1, .row 2 0 p2, .row 2 0 p3])))] []
def r138 (qr : Int) : R := some ([.c (.p (PV.int .i64 qr))], [])
def R138 (x0 : R) (K0 : Int → R) : R := x0.bind fun q0 => bif lensB q0.2 [] && lensS q0.1 [.c (.p (.int .i64))] then (cInt (resAt q0.1 0) .i64).bind fun qr => K0 qr else none
@[simp] theorem R138_r (qr : Int) (K0 : Int → R) : R138 (r138 qr) K0 = K0 qr := by kernel_rfl
/-! 139 : spec.l1Cur).next -/
def c139 (k : Nat) (l : List PV) (n1 n11 : Int) : R := evF P E T k 139 [.s (.c (.bptr 0 0))] [[.p (PV.row 0 0 l), .p (PV.int .i64 n1), .p (PV.int .u64 n11)]]
def r139 (l : List PV) (qr qr1 qr2 : Int) : R := some ([.c (.p (PV.int .i64 qr2))], [[.p (PV.row 0 0 l), .p (PV.int .i64 qr), .p (PV.int .u64 qr1)]])
def R139 (x0 : R) (K0 : List PV → Int → Int → Int → R) : R := x0.bind fun q0 => bif lensB q0.2 [[.p (.row 0), .p (.int .i64), .p (.int .u64)]] && lensS q0.1 [.c (.p (.int .i64))] then (cRow (cellAt q0.2 0 0) 0).bind fun l => (cInt (cellAt q0.2 0 1) .i64).bind fun qr => (cInt (cellAt q0.2 0 2) .u64).bind fun qr1 => (cInt (resAt q0.1 0) .i64).bind fun qr2 => K0 l qr qr1 qr2 else none
@[simp] theorem R139_r (l : List PV) (qr qr1 qr2 : Int) (K0 : List PV → Int → Int → Int → R) : R139 (r139 l qr qr1 qr2) K0 = K0 l qr qr1 qr2 := by kernel_rfl
/-! 140 : spec.l1Cut -/
def c140 (k : Nat) (wide a : Int) : R := evF P E T k 140 [.s (.c (.p (PV.int .i64 wide))), .s (.c (.p (PV.int .u64 a)))] []
def r140 (qr : Int) : R := some ([.c (.p (PV.int .u64 qr))], [])
def R140 (x0 : R) (K0 : Int → R) : R := x0.bind fun q0 => bif lensB q0.2 [] && lensS q0.1 [.c (.p (.int .u64))] then (cInt (resAt q0.1 0) .u64).bind fun qr => K0 qr else none
@[simp] theorem R140_r (qr : Int) (K0 : Int → R) : R140 (r140 qr) K0 = K0 qr := by kernel_rfl
def L140_1 (k n : Nat) (wide a out k1 : Int) : R := evLoopAt P E T k 140 [] [1, 1, 0, 1, 0] [] n ⟨mkT 20 [(0, .s (.c (.p (PV.int .i64 wide)))), (1, .s (.c (.p (PV.int .u64 a)))), (5, .s (.c (.p (PV.int .u64 out)))), (6, .s (.c (.p (PV.int .i64 k1))))], []⟩
/-! 141 : impl.Node] -/
def c141 (k : Nat) (qs : List PV) (n1 n11 : Int) : R := evF P E T k 141 [.s (.c (.p (PV.row 0 0 qs))), .s (.c (.fn 77 [0, 1]))] [[.p (PV.int .i64 n1)], [.p (PV.int .i64 n11)]]
def r141 (qr qr1 qr2 : Int) : R := some ([.c (.p (PV.int .i64 qr2))], [[.p (PV.int .i64 qr)], [.p (PV.int .i64 qr1)]])
def R141 (x0 : R) (K0 : Int → Int → Int → R) : R := x0.bind fun q0 => bif lensB q0.2 [[.p (.int .i64)], [.p (.int .i64)]] && lensS q0.1 [.c (.p (.int .i64))] then (cInt (cellAt q0.2 0 0) .i64).bind fun qr => (cInt (cellAt q0.2 1 0) .i64).bind fun qr1 => (cInt (resAt q0.1 0) .i64).bind fun qr2 => K0 qr qr1 qr2 else none
@[simp] theorem R141_r (qr qr1 qr2 : Int) (K0 : Int → Int → Int → R) : R141 (r141 qr qr1 qr2) K0 = K0 qr qr1 qr2 := by kernel_rfl
def L141_1 (k n : Nat) (qs : List PV) (t7 t8 n1 n11 : Int) : R := evLoopAt P E T k 141 [1, 1] [1, 0, 1, 0] [] n ⟨mkT 19 [(0, .s (.c (.p (PV.row 0 0 qs)))), (1, .s (.c (.fn 77 [0, 1]))), (7, .s (.c (.p (PV.int .i64 t7)))), (8, .s (.c (.p (PV.int .i64 t8))))], [.box [.p (PV.int .i64 n1)], .box [.p (PV.int .i64 n11)]]⟩
/-! 142 : impl.kindOf -/
def c142 (k : Nat) (t : List PV) : R := evF P E T k 142 [.s (.c (.p (PV.row 2 0 t)))] []
def r142 (qr : Int) : R := some ([.c (.p (PV.int .i64 qr))], [])
def R142 (x0 : R) (K0 : Int → R) : R := x0.bind fun q0 => bif lensB q0.2 [] && lensS q0.1 [.c (.p (.int .i64))] then (cInt (resAt q0.1 0) .i64).bind fun qr => K0 qr else none
@[simp] theorem R142_r (qr : Int) (K0 : Int → R) : R142 (r142 qr) K0 = K0 qr := by kernel_rfl
/-! 143 : spec.l1Wide -/
def c143 (k : Nat) (wide : Int) : R := evF P E T k 143 [.s (.c (.p (PV.int .i64 wide)))] []
def r143 (b : Bool) : R := some ([.c (.p (PV.bool b))], [])
def R143 (x0 : R) (K0 : Bool → R) : R := x0.bind fun q0 => bif lensB q0.2 [] && lensS q0.1 [.c (.p (.bool))] then (cBool (resAt q0.1 0)).bind fun b => K0 b else none
@[simp] theorem R143_r (b : Bool) (K0 : Bool → R) : R143 (r143 b) K0 = K0 b := by kernel_rfl
/-! 144 : spec.l2N -/
def c144 (k : Nat) (wide vars n1 n11 : Int) : R := evF P E T k 144 [.s (.c (.p (PV.int .i64 wide))), .s (.c (.p (PV.int .i64 vars))), .s (.c (.p (PV.agg [.int .i64 n1, .int .u64 n11])))] []
def r144 (b : Bool) : R := some ([.c (.p (PV.bool b))], [])
def R144 (x0 : R) (K0 : Bool → R) : R := x0.bind fun q0 => bif lensB q0.2 [] && lensS q0.1 [.c (.p (.bool))] then (cBool (resAt q0.1 0)).bind fun b => K0 b else none
@[simp] theorem R144_r (b : Bool) (K0 : Bool → R) : R144 (r144 b) K0 = K0 b := by kernel_rfl
/-! 145 : slices.IndexFunc[[]int,int] -/
def c145 (k : Nat) (qs : List PV) (n1 : Int) : R := evF P E T k 145 [.s (.c (.p (PV.row 0 0 qs))), .s (.c (.fn 87 [0]))] [[.p (PV.int .i64 n1)]]
def r145 (qr qr1 : Int) : R := some ([.c (.p (PV.int .i64 qr1))], [[.p (PV.int .i64 qr)]])
def R145 (x0 : R) (K0 : Int → Int → R) : R := x0.bind fun q0 => bif lensB q0.2 [[.p (.int .i64)]] && lensS q0.1 [.c (.p (.int .i64))] then (cInt (cellAt q0.2 0 0) .i64).bind fun qr => (cInt (resAt q0.1 0) .i64).bind fun qr1 => K0 qr qr1 else none
@[simp] theorem R145_r (qr qr1 : Int) (K0 : Int → Int → R) : R145 (r145 qr qr1) K0 = K0 qr qr1 := by kernel_rfl
def L145_1 (k n : Nat) (qs : List PV) (t7 t8 n1 : Int) : R := evLoopAt P E T k 145 [1] [1, 0, 1, 0] [] n ⟨mkT 19 [(0, .s (.c (.p (PV.row 0 0 qs)))), (1, .s (.c (.fn 87 [0]))), (7, .s (.c (.p (PV.int .i64 t7)))), (8, .s (.c (.p (PV.int .i64 t8))))], [.box [.p (PV.int .i64 n1)]]⟩
/-! 146 : slices.ContainsFunc[[]uint64,uint64] -/
def c146 (k : Nat) (qs : List PV) (n1 : Int) : R := evF P E T k 146 [.s (.c (.p (PV.row 0 0 qs))), .s (.c (.fn 147 [0]))] [[.p (PV.int .i64 n1)]]
def r146 (qr : Int) (b : Bool) : R := some ([.c (.p (PV.bool b))], [[.p (PV.int .i64 qr)]])
def R146 (x0 : R) (K0 : Int → Bool → R) : R := x0.bind fun q0 => bif lensB q0.2 [[.p (.int .i64)]] && lensS q0.1 [.c (.p (.bool))] then (cInt (cellAt q0.2 0 0) .i64).bind fun qr => (cBool (resAt q0.1 0)).bind fun b => K0 qr b else none
@[simp] theorem R146_r (qr : Int) (b : Bool) (K0 : Int → Bool → R) : R146 (r146 qr b) K0 = K0 qr b := by kernel_rfl
/-! 147 : impl.isState$1 -/
def c147 (k : Nat) (a n1 : Int) : R := evF P E T k 147 [.s (.c (.p (PV.int .u64 a))), .s (.c (.bptr 0 0))] [[.p (PV.int .i64 n1)]]
def r147 (qr : Int) (b : Bool) : R := some ([.c (.p (PV.bool b))], [[.p (PV.int .i64 qr)]])
def R147 (x0 : R) (K0 : Int → Bool → R) : R := x0.bind fun q0 => bif lensB q0.2 [[.p (.int .i64)]] && lensS q0.1 [.c (.p (.bool))] then (cInt (cellAt q0.2 0 0) .i64).bind fun qr => (cBool (resAt q0.1 0)).bind fun b => K0 qr b else none
@[simp] theorem R147_r (qr : Int) (b : Bool) (K0 : Int → Bool → R) : R147 (r147 qr b) K0 = K0 qr b := by kernel_rfl
/-! 148 : impl.apply -/
def c148 (k : Nat) (wide op a b : Int) : R := evF P E T k 148 [.s (.c (.p (PV.int .i64 wide))), .s (.c (.p (PV.int .i64 op))), .s (.c (.p (PV.int .u64 a))), .s (.c (.p (PV.int .u64 b)))] []
def r148 (qr : Int) : R := some ([.c (.p (PV.int .u64 qr))], [])
def R148 (x0 : R) (K0 : Int → R) : R := x0.bind fun q0 => bif lensB q0.2 [] && lensS q0.1 [.c (.p (.int .u64))] then (cInt (resAt q0.1 0) .u64).bind fun qr => K0 qr else none
@[simp] theorem R148_r (qr : Int) (K0 : Int → R) : R148 (r148 qr) K0 = K0 qr := by kernel_rfl
/-! 149 : impl.Node] -/
def c149 (k : Nat) (qs : List PV) (n1 : Int) : R := evF P E T k 149 [.s (.c (.p (PV.row 0 2 qs))), .s (.c (.p (PV.int .i64 n1)))] []
def r149 (l : List PV) : R := some ([.c (.own 104 2 l)], [])
def R149 (x0 : R) (K0 : List PV → R) : R := x0.bind fun q0 => bif lensB q0.2 [] && lensS q0.1 [.c (.own 104 2)] then (asOwn 104 2 (resAt q0.1 0)).bind fun l => K0 l else none
@[simp] theorem R149_r (l : List PV) (K0 : List PV → R) : R149 (r149 l) K0 = K0 l := by kernel_rfl
/-! 150 : slices.Clone[[]uint64,uint64] -/
def c150 (k : Nat) (qs : List PV) : R := evF P E T k 150 [.s (.c (.p (PV.row 0 0 qs)))] []
def r150 (l : List PV) : R := some ([.c (.own 50 0 l)], [])
def R150 (x0 : R) (K0 : List PV → R) : R := x0.bind fun q0 => bif lensB q0.2 [] && lensS q0.1 [.c (.own 50 0)] then (asOwn 50 0 (resAt q0.1 0)).bind fun l => K0 l else none
@[simp] theorem R150_r (l : List PV) (K0 : List PV → R) : R150 (r150 l) K0 = K0 l := by kernel_rfl
/-! 157 : spec.l1Cur).word -/
def c157 (k : Nat) (wide : Int) (l : List PV) (n1 n11 : Int) : R := evF P E T k 157 [.s (.c (.bptr 0 0)), .s (.c (.p (PV.int .i64 wide)))] [[.p (PV.row 0 0 l), .p (PV.int .i64 n1), .p (PV.int .u64 n11)]]
def r157 (l : List PV) (qr qr1 qr2 : Int) : R := some ([.c (.p (PV.int .u64 qr2))], [[.p (PV.row 0 0 l), .p (PV.int .i64 qr), .p (PV.int .u64 qr1)]])
def R157 (x0 : R) (K0 : List PV → Int → Int → Int → R) : R := x0.bind fun q0 => bif lensB q0.2 [[.p (.row 0), .p (.int .i64), .p (.int .u64)]] && lensS q0.1 [.c (.p (.int .u64))] then (cRow (cellAt q0.2 0 0) 0).bind fun l => (cInt (cellAt q0.2 0 1) .i64).bind fun qr => (cInt (cellAt q0.2 0 2) .u64).bind fun qr1 => (cInt (resAt q0.1 0) .u64).bind fun qr2 => K0 l qr qr1 qr2 else none
@[simp] theorem R157_r (l : List PV) (qr qr1 qr2 : Int) (K0 : List PV → Int → Int → Int → R) : R157 (r157 l qr qr1 qr2) K0 = K0 l qr qr1 qr2 := by kernel_rfl
/-! 161 : spec.l1Cur).command -/
def c161 (k : Nat) (wide vars : Int) (l : List PV) (n1 n11 : Int) : R := evF P E T k 161 [.s (.c (.bptr 0 0)), .s (.c (.p (PV.int .i64 wide))), .s (.c (.p (PV.int .i64 vars)))] [[.p (PV.row 0 0 l), .p (PV.int .i64 n1), .p (PV.int .u64 n11)]]
def r161 (l : List PV) (qr qr1 : Int) (l1 l2 : List PV) : R := some ([.agg [.p (PV.row 2 0 l1), .own 143 2 l2]], [[.p (PV.row 0 0 l), .p (PV.int .i64 qr), .p (PV.int .u64 qr1)]])
def R161 (x0 : R) (K0 : List PV → Int → Int → List PV → List PV → R) : R := x0.bind fun q0 => bif lensB q0.2 [[.p (.row 0), .p (.int .i64), .p (.int .u64)]] && lensS q0.1 [.agg [.p (.row 2), .own 143 2]] then (cRow (cellAt q0.2 0 0) 0).bind fun l => (cInt (cellAt q0.2 0 1) .i64).bind fun qr => (cInt (cellAt q0.2 0 2) .u64).bind fun qr1 => (cRow (Dp.partAt q0.1 0 0) 2).bind fun l1 => (asOwn 143 2 (Dp.partAt q0.1 0 1)).bind fun l2 => K0 l qr qr1 l1 l2 else none
@[simp] theorem R161_r (l : List PV) (qr qr1 : Int) (l1 l2 : List PV) (K0 : List PV → Int → Int → List PV → List PV → R) : R161 (r161 l qr qr1 l1 l2) K0 = K0 l qr qr1 l1 l2 := by kernel_rfl
def L161_1 (k n : Nat) (wide vars v : Int) (l : List PV) (n1 n11 : Int) (l1 l2 : List PV) (Len Len1 : Nat) (xs xs1 : List PV) : R := evLoopAt P E T k 161 [3] [1, 1, 0, 1, 0] [] n ⟨mkT 35 [(0, .s (.c (.bptr 0 0))), (1, .s (.c (.p (PV.int .i64 wide)))), (2, .s (.c (.p (PV.int .i64 vars)))), (6, .s (.c (.bptr 1 0))), (7, .s (.c (.bptr 2 0))), (8, .s (.c (.p (PV.int .i64 v))))], [.box [.p (PV.row 0 0 l), .p (PV.int .i64 n1), .p (PV.int .u64 n11)], .box [.p (PV.row 2 0 l1), .p (PV.row 2 0 l2)], .box [.loc 3 0 2 0 Len, .loc 4 0 2 0 Len1], .arr 104 2 0 false xs, .arr 143 2 0 false xs1]⟩
/-! 162 : spec.GoodWord -/
def c162 (k : Nat) (wide a : Int) : R := evF P E T k 162 [.s (.c (.p (PV.int .i64 wide))), .s (.c (.p (PV.int .u64 a)))] []
def r162 (b : Bool) : R := some ([.c (.p (PV.bool b))], [])
def R162 (x0 : R) (K0 : Bool → R) : R := x0.bind fun q0 => bif lensB q0.2 [] && lensS q0.1 [.c (.p (.bool))] then (cBool (resAt q0.1 0)).bind fun b => K0 b else none
@[simp] theorem R162_r (b : Bool) (K0 : Bool → R) : R162 (r162 b) K0 = K0 b := by kernel_rfl
/-! 163 : impl.Command] -/
def c163 (k : Nat) (qs : List PV) (n1 n11 : Int) (l l1 : List PV) : R := evF P E T k 163 [.s (.c (.p (PV.row 2 0 qs))), .s (.c (.fn 134 [0]))] [[.p (PV.int .i64 n1), .p (PV.int .i64 n11), .p (PV.row 2 0 l), .p (PV.row 2 0 l1)]]
def r163 (qr qr1 : Int) (l l1 : List PV) (qr2 : Int) : R := some ([.c (.p (PV.int .i64 qr2))], [[.p (PV.int .i64 qr), .p (PV.int .i64 qr1), .p (PV.row 2 0 l), .p (PV.row 2 0 l1)]])
def R163 (x0 : R) (K0 : Int → Int → List PV → List PV → Int → R) : R := x0.bind fun q0 => bif lensB q0.2 [[.p (.int .i64), .p (.int .i64), .p (.row 2), .p (.row 2)]] && lensS q0.1 [.c (.p (.int .i64))] then (cInt (cellAt q0.2 0 0) .i64).bind fun qr => (cInt (cellAt q0.2 0 1) .i64).bind fun qr1 => (cRow (cellAt q0.2 0 2) 2).bind fun l => (cRow (cellAt q0.2 0 3) 2).bind fun l1 => (cInt (resAt q0.1 0) .i64).bind fun qr2 => K0 qr qr1 l l1 qr2 else none
@[simp] theorem R163_r (qr qr1 : Int) (l l1 : List PV) (qr2 : Int) (K0 : Int → Int → List PV → List PV → Int → R) : R163 (r163 qr qr1 l l1 qr2) K0 = K0 qr qr1 l l1 qr2 := by kernel_rfl
def L163_1 (k n : Nat) (qs : List PV) (t7 t8 n1 n11 : Int) (l l1 : List PV) : R := evLoopAt P E T k 163 [4] [1, 0, 1, 0] [] n ⟨mkT 19 [(0, .s (.c (.p (PV.row 2 0 qs)))), (1, .s (.c (.fn 134 [0]))), (7, .s (.c (.p (PV.int .i64 t7)))), (8, .s (.c (.p (PV.int .i64 t8))))], [.box [.p (PV.int .i64 n1), .p (PV.int .i64 n11), .p (PV.row 2 0 l), .p (PV.row 2 0 l1)]]⟩
/-! 164 : slices.IndexFunc[[]uint64,uint64] -/
def c164 (k : Nat) (qs : List PV) (n1 : Int) : R := evF P E T k 164 [.s (.c (.p (PV.row 0 0 qs))), .s (.c (.fn 147 [0]))] [[.p (PV.int .i64 n1)]]
def r164 (qr qr1 : Int) : R := some ([.c (.p (PV.int .i64 qr1))], [[.p (PV.int .i64 qr)]])
def R164 (x0 : R) (K0 : Int → Int → R) : R := x0.bind fun q0 => bif lensB q0.2 [[.p (.int .i64)]] && lensS q0.1 [.c (.p (.int .i64))] then (cInt (cellAt q0.2 0 0) .i64).bind fun qr => (cInt (resAt q0.1 0) .i64).bind fun qr1 => K0 qr qr1 else none
@[simp] theorem R164_r (qr qr1 : Int) (K0 : Int → Int → R) : R164 (r164 qr qr1) K0 = K0 qr qr1 := by kernel_rfl
def L164_1 (k n : Nat) (qs : List PV) (t7 t8 n1 : Int) : R := evLoopAt P E T k 164 [1] [1, 0, 1, 0] [] n ⟨mkT 19 [(0, .s (.c (.p (PV.row 0 0 qs)))), (1, .s (.c (.fn 147 [0]))), (7, .s (.c (.p (PV.int .i64 t7)))), (8, .s (.c (.p (PV.int .i64 t8))))], [.box [.p (PV.int .i64 n1)]]⟩
/-! 165 : impl.DivWord -/
def c165 (k : Nat) (wide a b : Int) : R := evF P E T k 165 [.s (.c (.p (PV.int .i64 wide))), .s (.c (.p (PV.int .u64 a))), .s (.c (.p (PV.int .u64 b)))] []
def r165 (qr qr1 : Int) (b : Bool) : R := some ([.c (.p (PV.int .u64 qr)), .c (.p (PV.int .u64 qr1)), .c (.p (PV.bool b))], [])
def R165 (x0 : R) (K0 : Int → Int → Bool → R) : R := x0.bind fun q0 => bif lensB q0.2 [] && lensS q0.1 [.c (.p (.int .u64)), .c (.p (.int .u64)), .c (.p (.bool))] then (cInt (resAt q0.1 0) .u64).bind fun qr => (cInt (resAt q0.1 1) .u64).bind fun qr1 => (cBool (resAt q0.1 2)).bind fun b => K0 qr qr1 b else none
@[simp] theorem R165_r (qr qr1 : Int) (b : Bool) (K0 : Int → Int → Bool → R) : R165 (r165 qr qr1 b) K0 = K0 qr qr1 b := by kernel_rfl
/-! 166 : impl.shift -/
def c166 (k : Nat) (wide a by1 : Int) (left : Bool) : R := evF P E T k 166 [.s (.c (.p (PV.int .i64 wide))), .s (.c (.p (PV.int .u64 a))), .s (.c (.p (PV.int .u64 by1))), .s (.c (.p (PV.bool left)))] []
def r166 (qr : Int) : R := some ([.c (.p (PV.int .u64 qr))], [])
def R166 (x0 : R) (K0 : Int → R) : R := x0.bind fun q0 => bif lensB q0.2 [] && lensS q0.1 [.c (.p (.int .u64))] then (cInt (resAt q0.1 0) .u64).bind fun qr => K0 qr else none
@[simp] theorem R166_r (qr : Int) (K0 : Int → R) : R166 (r166 qr) K0 = K0 qr := by kernel_rfl
/-! 167 : impl.truth -/
def c167 (k : Nat) (holds : Bool) : R := evF P E T k 167 [.s (.c (.p (PV.bool holds)))] []
def r167 (qr : Int) : R := some ([.c (.p (PV.int .u64 qr))], [])
def R167 (x0 : R) (K0 : Int → R) : R := x0.bind fun q0 => bif lensB q0.2 [] && lensS q0.1 [.c (.p (.int .u64))] then (cInt (resAt q0.1 0) .u64).bind fun qr => K0 qr else none
@[simp] theorem R167_r (qr : Int) (K0 : Int → R) : R167 (r167 qr) K0 = K0 qr := by kernel_rfl
/-! 173 : spec.l1Cur).long -/
def c173 (k : Nat) (l : List PV) (n1 n11 : Int) : R := evF P E T k 173 [.s (.c (.bptr 0 0))] [[.p (PV.row 0 0 l), .p (PV.int .i64 n1), .p (PV.int .u64 n11)]]
def r173 (l : List PV) (qr qr1 qr2 : Int) : R := some ([.c (.p (PV.int .u64 qr2))], [[.p (PV.row 0 0 l), .p (PV.int .i64 qr), .p (PV.int .u64 qr1)]])
def R173 (x0 : R) (K0 : List PV → Int → Int → Int → R) : R := x0.bind fun q0 => bif lensB q0.2 [[.p (.row 0), .p (.int .i64), .p (.int .u64)]] && lensS q0.1 [.c (.p (.int .u64))] then (cRow (cellAt q0.2 0 0) 0).bind fun l => (cInt (cellAt q0.2 0 1) .i64).bind fun qr => (cInt (cellAt q0.2 0 2) .u64).bind fun qr1 => (cInt (resAt q0.1 0) .u64).bind fun qr2 => K0 l qr qr1 qr2 else none
@[simp] theorem R173_r (l : List PV) (qr qr1 qr2 : Int) (K0 : List PV → Int → Int → Int → R) : R173 (r173 l qr qr1 qr2) K0 = K0 l qr qr1 qr2 := by kernel_rfl
def L173_1 (k n : Nat) (n1 i : Int) (l : List PV) (n11 n12 : Int) : R := evLoopAt P E T k 173 [3] [1, 1, 0, 1, 0] [] n ⟨mkT 16 [(0, .s (.c (.bptr 0 0))), (3, .s (.c (.p (PV.int .u64 n1)))), (4, .s (.c (.p (PV.int .i64 i))))], [.box [.p (PV.row 0 0 l), .p (PV.int .i64 n11), .p (PV.int .u64 n12)]]⟩
/-! 178 : bits.Div64 -/
def c178 (k : Nat) (hi lo y : Int) : R := evF P E T k 178 [.s (.c (.p (PV.int .u64 hi))), .s (.c (.p (PV.int .u64 lo))), .s (.c (.p (PV.int .u64 y)))] []
def r178 (qr qr1 : Int) : R := some ([.c (.p (PV.int .u64 qr)), .c (.p (PV.int .u64 qr1))], [])
def R178 (x0 : R) (K0 : Int → Int → R) : R := x0.bind fun q0 => bif lensB q0.2 [] && lensS q0.1 [.c (.p (.int .u64)), .c (.p (.int .u64))] then (cInt (resAt q0.1 0) .u64).bind fun qr => (cInt (resAt q0.1 1) .u64).bind fun qr1 => K0 qr qr1 else none
@[simp] theorem R178_r (qr qr1 : Int) (K0 : Int → Int → R) : R178 (r178 qr qr1) K0 = K0 qr qr1 := by kernel_rfl
def L178_1 (k n : Nat) (y qs yn1 yn0 un32 un1 un0 q1 rhat : Int) : R := evLoopAt P E T k 178 [] [1, 1, 1, 1, 1, 1, 1, 1, 1, 1, 1, 1, 1, 1, 0, 0] [] n ⟨mkT 135 [(2, .s (.c (.p (PV.int .u64 y)))), (8, .s (.c (.p (PV.int .u64 qs)))), (9, .s (.c (.p (PV.int .u64 yn1)))), (10, .s (.c (.p (PV.int .u64 yn0)))), (11, .s (.c (.p (PV.int .u64 un32)))), (13, .s (.c (.p (PV.int .u64 un1)))), (14, .s (.c (.p (PV.int .u64 un0)))), (15, .s (.c (.p (PV.int .u64 q1)))), (16, .s (.c (.p (PV.int .u64 rhat))))], []⟩
def L178_2 (k n : Nat) (y qs yn1 yn0 un0 q1 rhat un21 q0 : Int) : R := evLoopAt P E T k 178 [] [1, 1, 1, 1, 1, 1, 1, 1, 1, 1, 1, 1, 1, 1, 1, 1, 1, 1, 0, 0] [] n ⟨mkT 135 [(2, .s (.c (.p (PV.int .u64 y)))), (8, .s (.c (.p (PV.int .u64 qs)))), (9, .s (.c (.p (PV.int .u64 yn1)))), (10, .s (.c (.p (PV.int .u64 yn0)))), (14, .s (.c (.p (PV.int .u64 un0)))), (15, .s (.c (.p (PV.int .u64 q1)))), (16, .s (.c (.p (PV.int .u64 rhat)))), (17, .s (.c (.p (PV.int .u64 un21)))), (18, .s (.c (.p (PV.int .u64 q0))))], []⟩
/-! 183 : bits.LeadingZeros64 -/
def c183 (k : Nat) (x : Int) : R := evF P E T k 183 [.s (.c (.p (PV.int .u64 x)))] []
def r183 (qr : Int) : R := some ([.c (.p (PV.int .i64 qr))], [])
def R183 (x0 : R) (K0 : Int → R) : R := x0.bind fun q0 => bif lensB q0.2 [] && lensS q0.1 [.c (.p (.int .i64))] then (cInt (resAt q0.1 0) .i64).bind fun qr => K0 qr else none
@[simp] theorem R183_r (qr : Int) (K0 : Int → R) : R183 (r183 qr) K0 = K0 qr := by kernel_rfl
/-! 184 : bits.Len64 -/
def c184 (k : Nat) (x : Int) : R := evF P E T k 184 [.s (.c (.p (PV.int .u64 x)))] []
def r184 (qr : Int) : R := some ([.c (.p (PV.int .i64 qr))], [])
def R184 (x0 : R) (K0 : Int → R) : R := x0.bind fun q0 => bif lensB q0.2 [] && lensS q0.1 [.c (.p (.int .i64))] then (cInt (resAt q0.1 0) .i64).bind fun qr => K0 qr else none
@[simp] theorem R184_r (qr : Int) (K0 : Int → R) : R184 (r184 qr) K0 = K0 qr := by kernel_rfl
end
end Go.Proofs.Ytnliglgellapdaa
