/- Calls and loops of the program, by shape: printed by nf.py. -/
import Derived.Test.YtnflnpjojbkgjaaGreatEnv
set_option linter.unusedVariables false
namespace Go.Proofs.YtnflnpjojbkgjaaGreat
open Go.Dp
noncomputable section
/-! 6 : laws.FnPlayed -/
def c6 (k : Nat) (code more : List PV) : R := evF P E T k 6 [.s (.c (.p (PV.row 0 0 code))), .s (.c (.p (PV.row 0 0 more)))] []
def r6 (b : Bool) : R := some ([.c (.p (PV.bool b))], [])
def R6 (x0 : R) (K0 : Bool → R) : R := x0.bind fun q0 => bif lensB q0.2 [] && lensS q0.1 [.c (.p (.bool))] then (cBool (resAt q0.1 0)).bind fun b => K0 b else none
@[simp] theorem R6_r (b : Bool) (K0 : Bool → R) : R6 (r6 b) K0 = K0 b := by kernel_rfl
def L6_1 (k n : Nat) (more ks l did : List PV) (ok : Bool) (at1 : List PV) (i n1 n11 : Int) (l1 l2 : List PV) : R := evLoopAt P E T k 6 [] [1, 1, 1, 1, 1, 1, 1, 0, 1, 0] [] n ⟨mkT 223 [(1, .s (.c (.p (PV.row 0 0 more)))), (5, .s (.c (.bptr 0 0))), (7, .s (.c (.p (PV.row 0 0 ks)))), (8, .s (.c (.p (PV.row 0 0 l)))), (9, .s (.c (.p (PV.row 0 0 did)))), (10, .s (.c (.p (PV.bool ok)))), (14, .s (.c (.p (PV.row 0 0 at1)))), (15, .s (.c (.p (PV.int .i64 i))))], [.box [.p (PV.int .i64 n1), .p (PV.int .i64 n11), .p (PV.row 2 0 l1), .p (PV.row 2 0 l2)]]⟩
def L6_2 (k n1 n : Nat) (more ks l did : List PV) (ok : Bool) (at1 : List PV) (i : Int) (x writes : List PV) (three : Bool) (t144 t145 n11 n12 : Int) (l1 l2 : List PV) : R := evLoopAt P E T k 6 [] [1, 1, 1, 1, 1, 1, 1, 0, 1, 0, 0, 1, 0, 0, 1, 1, 1, 1, 0, 1, 0, 1, 0, 1, 0] [n1] n ⟨mkT 223 [(1, .s (.c (.p (PV.row 0 0 more)))), (5, .s (.c (.bptr 0 0))), (7, .s (.c (.p (PV.row 0 0 ks)))), (8, .s (.c (.p (PV.row 0 0 l)))), (9, .s (.c (.p (PV.row 0 0 did)))), (10, .s (.c (.p (PV.bool ok)))), (14, .s (.c (.p (PV.row 0 0 at1)))), (15, .s (.c (.p (PV.int .i64 i)))), (18, .s (.c (.p (PV.row 0 0 x)))), (21, .s (.c (.p (PV.row 0 0 writes)))), (22, .s (.c (.p (PV.bool three)))), (144, .s (.c (.p (PV.int .i64 t144)))), (145, .s (.c (.p (PV.int .i64 t145))))], [.box [.p (PV.int .i64 n11), .p (PV.int .i64 n12), .p (PV.row 2 0 l1), .p (PV.row 2 0 l2)]]⟩
/-! 8 : laws.big -/
def c8 (k : Nat) (code more : List PV) : R := evF P E T k 8 [.s (.c (.p (PV.row 0 0 code))), .s (.c (.p (PV.row 0 0 more)))] []
def r8 (b : Bool) : R := some ([.c (.p (PV.bool b))], [])
def R8 (x0 : R) (K0 : Bool → R) : R := x0.bind fun q0 => bif lensB q0.2 [] && lensS q0.1 [.c (.p (.bool))] then (cBool (resAt q0.1 0)).bind fun b => K0 b else none
@[simp] theorem R8_r (b : Bool) (K0 : Bool → R) : R8 (r8 b) K0 = K0 b := by kernel_rfl
/-! 23 : impl.TouchedBy -/
def c23 (k : Nat) (p p1 : Int) (p2 p3 : List PV) (k1 : Int) : R := evF P E T k 23 [.s (.c (.p (PV.agg [.int .i64 p, .int .i64 p1, .row 2 0 p2, .row 2 0 p3]))), .s (.c (.p (PV.int .i64 k1)))] []
def r23 (l l1 : List PV) (b : Bool) : R := some ([.c (.p (PV.row 0 0 l)), .c (.p (PV.row 0 0 l1)), .c (.p (PV.bool b))], [])
def R23 (x0 : R) (K0 : List PV → List PV → Bool → R) : R := x0.bind fun q0 => bif lensB q0.2 [] && lensS q0.1 [.c (.p (.row 0)), .c (.p (.row 0)), .c (.p (.bool))] then (cRow (resAt q0.1 0) 0).bind fun l => (cRow (resAt q0.1 1) 0).bind fun l1 => (cBool (resAt q0.1 2)).bind fun b => K0 l l1 b else none
@[simp] theorem R23_r (l l1 : List PV) (b : Bool) (K0 : List PV → List PV → Bool → R) : R23 (r23 l l1 b) K0 = K0 l l1 b := by kernel_rfl
def L23_1 (k n : Nat) (readsLen changesLen : Nat) (t31 : List PV) (t32 t33 : Int) (xs xs1 : List PV) : R := evLoopAt P E T k 23 [] [1, 1, 1, 1, 0, 1, 0] [] n ⟨mkT 53 [(8, .s (.c (.loc 0 0 0 0 readsLen))), (9, .s (.c (.loc 1 0 0 0 changesLen))), (31, .s (.c (.p (PV.row 2 0 t31)))), (32, .s (.c (.p (PV.int .i64 t32)))), (33, .s (.c (.p (PV.int .i64 t33))))], [.arr 3 0 0 false xs, .arr 3 0 0 false xs1]⟩
/-! 25 : laws.sameInts -/
def c25 (k : Nat) (a b : List PV) : R := evF P E T k 25 [.s (.c (.p (PV.row 0 0 a))), .s (.c (.p (PV.row 0 0 b)))] []
def r25 (b : Bool) : R := some ([.c (.p (PV.bool b))], [])
def R25 (x0 : R) (K0 : Bool → R) : R := x0.bind fun q0 => bif lensB q0.2 [] && lensS q0.1 [.c (.p (.bool))] then (cBool (resAt q0.1 0)).bind fun b => K0 b else none
@[simp] theorem R25_r (b : Bool) (K0 : Bool → R) : R25 (r25 b) K0 = K0 b := by kernel_rfl
def L25_1 (k n : Nat) (a b : List PV) (t12 t13 : Int) : R := evLoopAt P E T k 25 [] [1, 1, 0, 1, 0] [] n ⟨mkT 26 [(0, .s (.c (.p (PV.row 0 0 a)))), (1, .s (.c (.p (PV.row 0 0 b)))), (12, .s (.c (.p (PV.int .i64 t12)))), (13, .s (.c (.p (PV.int .i64 t13))))], []⟩
/-! 28 : impl.StepBy -/
def c28 (k : Nat) (p p1 : Int) (p2 p3 qs : List PV) (k1 : Int) : R := evF P E T k 28 [.s (.c (.p (PV.agg [.int .i64 p, .int .i64 p1, .row 2 0 p2, .row 2 0 p3]))), .s (.c (.p (PV.row 0 0 qs))), .s (.c (.p (PV.int .i64 k1)))] []
def r28 (l : List PV) (b : Bool) : R := some ([.c (.p (PV.row 0 0 l)), .c (.p (PV.bool b))], [])
def R28 (x0 : R) (K0 : List PV → Bool → R) : R := x0.bind fun q0 => bif lensB q0.2 [] && lensS q0.1 [.c (.p (.row 0)), .c (.p (.bool))] then (cRow (resAt q0.1 0) 0).bind fun l => (cBool (resAt q0.1 1)).bind fun b => K0 l b else none
@[simp] theorem R28_r (l : List PV) (b : Bool) (K0 : List PV → Bool → R) : R28 (r28 l b) K0 = K0 l b := by kernel_rfl
/-! 29 : laws.sameWords -/
def c29 (k : Nat) (a b : List PV) : R := evF P E T k 29 [.s (.c (.p (PV.row 0 0 a))), .s (.c (.p (PV.row 0 0 b)))] []
def r29 (b : Bool) : R := some ([.c (.p (PV.bool b))], [])
def R29 (x0 : R) (K0 : Bool → R) : R := x0.bind fun q0 => bif lensB q0.2 [] && lensS q0.1 [.c (.p (.bool))] then (cBool (resAt q0.1 0)).bind fun b => K0 b else none
@[simp] theorem R29_r (b : Bool) (K0 : Bool → R) : R29 (r29 b) K0 = K0 b := by kernel_rfl
def L29_1 (k n : Nat) (a b : List PV) (t12 t13 : Int) : R := evLoopAt P E T k 29 [] [1, 1, 0, 1, 0] [] n ⟨mkT 26 [(0, .s (.c (.p (PV.row 0 0 a)))), (1, .s (.c (.p (PV.row 0 0 b)))), (12, .s (.c (.p (PV.int .i64 t12)))), (13, .s (.c (.p (PV.int .i64 t13))))], []⟩
/-! 39 : spec.DrawPlayCommands -/
def c39 (k : Nat) (code : List PV) : R := evF P E T k 39 [.s (.c (.p (PV.row 0 0 code)))] []
def r39 (qr qr1 : Int) (l l1 l2 l3 : List PV) : R := some ([.agg [.p (PV.int .i64 qr), .p (PV.int .i64 qr1), .p (PV.row 2 0 l), .p (PV.row 2 0 l1)], .c (.p (PV.row 0 0 l2)), .c (.p (PV.row 0 0 l3))], [])
def R39 (x0 : R) (K0 : Int → Int → List PV → List PV → List PV → List PV → R) : R := x0.bind fun q0 => bif lensB q0.2 [] && lensS q0.1 [.agg [.p (.int .i64), .p (.int .i64), .p (.row 2), .p (.row 2)], .c (.p (.row 0)), .c (.p (.row 0))] then (cInt (Dp.partAt q0.1 0 0) .i64).bind fun qr => (cInt (Dp.partAt q0.1 0 1) .i64).bind fun qr1 => (cRow (Dp.partAt q0.1 0 2) 2).bind fun l => (cRow (Dp.partAt q0.1 0 3) 2).bind fun l1 => (cRow (resAt q0.1 1) 0).bind fun l2 => (cRow (resAt q0.1 2) 0).bind fun l3 => K0 qr qr1 l l1 l2 l3 else none
@[simp] theorem R39_r (qr qr1 : Int) (l l1 l2 l3 : List PV) (K0 : Int → Int → List PV → List PV → List PV → List PV → R) : R39 (r39 qr qr1 l l1 l2 l3) K0 = K0 qr qr1 l l1 l2 l3 := by kernel_rfl
def L39_1 (k n : Nat) (qs : List PV) (n1 : Int) (lLen : Nat) (n11 n12 : Int) (l l1 l2 : List PV) (n13 n14 n15 n16 : Int) (l3 l4 xs : List PV) : R := evLoopAt P E T k 39 [] [1, 1, 1, 1, 1, 1, 1, 0, 0] [] n ⟨mkT 37 [(2, .s (.c (.bptr 0 0))), (5, .s (.c (.bptr 1 0))), (6, .s (.c (.bptr 2 0))), (7, .s (.c (.p (PV.row 0 0 qs)))), (8, .s (.c (.p (PV.int .i64 n1)))), (9, .s (.c (.loc 3 0 0 0 lLen)))], [.box [.p (PV.int .i64 n11), .p (PV.int .i64 n12), .p (PV.row 2 0 l), .p (PV.row 2 0 l1)], .box [.p (PV.row 0 0 l2), .p (PV.int .i64 n13), .p (PV.int .u64 n14)], .box [.p (PV.int .i64 n15), .p (PV.int .i64 n16), .p (PV.row 2 0 l3), .p (PV.row 2 0 l4)], .arr 3 0 0 false xs]⟩
/-! 40 : impl.PlayCommands -/
def c40 (k : Nat) (p p1 : Int) (p2 p3 qs ks : List PV) : R := evF P E T k 40 [.s (.c (.p (PV.agg [.int .i64 p, .int .i64 p1, .row 2 0 p2, .row 2 0 p3]))), .s (.c (.p (PV.row 0 0 qs))), .s (.c (.p (PV.row 0 0 ks)))] []
def r40 (l l1 : List PV) (b : Bool) : R := some ([.c (.p (PV.row 0 0 l)), .c (.p (PV.row 0 0 l1)), .c (.p (PV.bool b))], [])
def R40 (x0 : R) (K0 : List PV → List PV → Bool → R) : R := x0.bind fun q0 => bif lensB q0.2 [] && lensS q0.1 [.c (.p (.row 0)), .c (.p (.row 0)), .c (.p (.bool))] then (cRow (resAt q0.1 0) 0).bind fun l => (cRow (resAt q0.1 1) 0).bind fun l1 => (cBool (resAt q0.1 2)).bind fun b => K0 l l1 b else none
@[simp] theorem R40_r (l l1 : List PV) (b : Bool) (K0 : List PV → List PV → Bool → R) : R40 (r40 l l1 b) K0 = K0 l l1 b := by kernel_rfl
def L40_1 (k n : Nat) (qs : List PV) (statesLen executedLen : Nat) (t26 : List PV) (t27 t28 n1 n11 : Int) (l l1 xs xs1 : List PV) : R := evLoopAt P E T k 40 [] [1, 1, 1, 0, 1, 0] [] n ⟨mkT 53 [(1, .s (.c (.p (PV.row 0 0 qs)))), (3, .s (.c (.bptr 0 0))), (9, .s (.c (.loc 1 0 0 0 statesLen))), (10, .s (.c (.loc 2 0 0 0 executedLen))), (26, .s (.c (.p (PV.row 0 0 t26)))), (27, .s (.c (.p (PV.int .i64 t27)))), (28, .s (.c (.p (PV.int .i64 t28))))], [.box [.p (PV.int .i64 n1), .p (PV.int .i64 n11), .p (PV.row 2 0 l), .p (PV.row 2 0 l1)], .arr 50 0 0 false xs, .arr 4 0 0 false xs1]⟩
/-! 41 : spec.PlayCommands -/
def c41 (k : Nat) (p p1 : Int) (p2 p3 qs ks : List PV) : R := evF P E T k 41 [.s (.c (.p (PV.agg [.int .i64 p, .int .i64 p1, .row 2 0 p2, .row 2 0 p3]))), .s (.c (.p (PV.row 0 0 qs))), .s (.c (.p (PV.row 0 0 ks)))] []
def r41 (l l1 : List PV) (b : Bool) : R := some ([.c (.p (PV.row 0 0 l)), .c (.p (PV.row 0 0 l1)), .c (.p (PV.bool b))], [])
def R41 (x0 : R) (K0 : List PV → List PV → Bool → R) : R := x0.bind fun q0 => bif lensB q0.2 [] && lensS q0.1 [.c (.p (.row 0)), .c (.p (.row 0)), .c (.p (.bool))] then (cRow (resAt q0.1 0) 0).bind fun l => (cRow (resAt q0.1 1) 0).bind fun l1 => (cBool (resAt q0.1 2)).bind fun b => K0 l l1 b else none
@[simp] theorem R41_r (l l1 : List PV) (b : Bool) (K0 : List PV → List PV → Bool → R) : R41 (r41 l l1 b) K0 = K0 l l1 b := by kernel_rfl
def L41_1 (k n : Nat) (qs : List PV) (outLen didLen : Nat) (t29 : List PV) (t30 t31 n1 n11 : Int) (l l1 xs xs1 : List PV) : R := evLoopAt P E T k 41 [] [1, 1, 1, 1, 0, 1, 0] [] n ⟨mkT 57 [(1, .s (.c (.p (PV.row 0 0 qs)))), (3, .s (.c (.bptr 0 0))), (9, .s (.c (.loc 1 0 0 0 outLen))), (10, .s (.c (.loc 2 0 0 0 didLen))), (29, .s (.c (.p (PV.row 0 0 t29)))), (30, .s (.c (.p (PV.int .i64 t30)))), (31, .s (.c (.p (PV.int .i64 t31))))], [.box [.p (PV.int .i64 n1), .p (PV.int .i64 n11), .p (PV.row 2 0 l), .p (PV.row 2 0 l1)], .arr 50 0 0 false xs, .arr 4 0 0 false xs1]⟩
/-! 42 : laws.sameStates -/
def c42 (k : Nat) (a b : List PV) : R := evF P E T k 42 [.s (.c (.p (PV.row 0 0 a))), .s (.c (.p (PV.row 0 0 b)))] []
def r42 (b : Bool) : R := some ([.c (.p (PV.bool b))], [])
def R42 (x0 : R) (K0 : Bool → R) : R := x0.bind fun q0 => bif lensB q0.2 [] && lensS q0.1 [.c (.p (.bool))] then (cBool (resAt q0.1 0)).bind fun b => K0 b else none
@[simp] theorem R42_r (b : Bool) (K0 : Bool → R) : R42 (r42 b) K0 = K0 b := by kernel_rfl
def L42_1 (k n : Nat) (a b : List PV) (t12 t13 : Int) : R := evLoopAt P E T k 42 [] [1, 1, 0, 1, 0] [] n ⟨mkT 27 [(0, .s (.c (.p (PV.row 0 0 a)))), (1, .s (.c (.p (PV.row 0 0 b)))), (12, .s (.c (.p (PV.int .i64 t12)))), (13, .s (.c (.p (PV.int .i64 t13))))], []⟩
/-! 43 : laws.sameBools -/
def c43 (k : Nat) (a b : List PV) : R := evF P E T k 43 [.s (.c (.p (PV.row 0 0 a))), .s (.c (.p (PV.row 0 0 b)))] []
def r43 (b : Bool) : R := some ([.c (.p (PV.bool b))], [])
def R43 (x0 : R) (K0 : Bool → R) : R := x0.bind fun q0 => bif lensB q0.2 [] && lensS q0.1 [.c (.p (.bool))] then (cBool (resAt q0.1 0)).bind fun b => K0 b else none
@[simp] theorem R43_r (b : Bool) (K0 : Bool → R) : R43 (r43 b) K0 = K0 b := by kernel_rfl
def L43_1 (k n : Nat) (a b : List PV) (t12 t13 : Int) : R := evLoopAt P E T k 43 [] [1, 1, 0, 1, 0] [] n ⟨mkT 26 [(0, .s (.c (.p (PV.row 0 0 a)))), (1, .s (.c (.p (PV.row 0 0 b)))), (12, .s (.c (.p (PV.int .i64 t12)))), (13, .s (.c (.p (PV.int .i64 t13))))], []⟩
/-! 44 : impl.GoodProgram -/
def c44 (k : Nat) (p p1 : Int) (p2 p3 : List PV) : R := evF P E T k 44 [.s (.c (.p (PV.agg [.int .i64 p, .int .i64 p1, .row 2 0 p2, .row 2 0 p3])))] []
def r44 (b : Bool) : R := some ([.c (.p (PV.bool b))], [])
def R44 (x0 : R) (K0 : Bool → R) : R := x0.bind fun q0 => bif lensB q0.2 [] && lensS q0.1 [.c (.p (.bool))] then (cBool (resAt q0.1 0)).bind fun b => K0 b else none
@[simp] theorem R44_r (b : Bool) (K0 : Bool → R) : R44 (r44 b) K0 = K0 b := by kernel_rfl
/-! 45 : spec.GoodProgram -/
def c45 (k : Nat) (p p1 : Int) (p2 p3 : List PV) : R := evF P E T k 45 [.s (.c (.p (PV.agg [.int .i64 p, .int .i64 p1, .row 2 0 p2, .row 2 0 p3])))] []
def r45 (b : Bool) : R := some ([.c (.p (PV.bool b))], [])
def R45 (x0 : R) (K0 : Bool → R) : R := x0.bind fun q0 => bif lensB q0.2 [] && lensS q0.1 [.c (.p (.bool))] then (cBool (resAt q0.1 0)).bind fun b => K0 b else none
@[simp] theorem R45_r (b : Bool) (K0 : Bool → R) : R45 (r45 b) K0 = K0 b := by kernel_rfl
def L45_1 (k n : Nat) (t18 : List PV) (t19 t20 n1 n11 : Int) (l l1 : List PV) : R := evLoopAt P E T k 45 [] [1, 1, 0, 1, 0] [] n ⟨mkT 29 [(1, .s (.c (.bptr 0 0))), (18, .s (.c (.p (PV.row 2 0 t18)))), (19, .s (.c (.p (PV.int .i64 t19)))), (20, .s (.c (.p (PV.int .i64 t20))))], [.box [.p (PV.int .i64 n1), .p (PV.int .i64 n11), .p (PV.row 2 0 l), .p (PV.row 2 0 l1)]]⟩
/-! 46 : impl.Enabled -/
def c46 (k : Nat) (p p1 : Int) (p2 p3 qs : List PV) : R := evF P E T k 46 [.s (.c (.p (PV.agg [.int .i64 p, .int .i64 p1, .row 2 0 p2, .row 2 0 p3]))), .s (.c (.p (PV.row 0 0 qs)))] []
def r46 (l : List PV) (b : Bool) : R := some ([.c (.p (PV.row 0 0 l)), .c (.p (PV.bool b))], [])
def R46 (x0 : R) (K0 : List PV → Bool → R) : R := x0.bind fun q0 => bif lensB q0.2 [] && lensS q0.1 [.c (.p (.row 0)), .c (.p (.bool))] then (cRow (resAt q0.1 0) 0).bind fun l => (cBool (resAt q0.1 1)).bind fun b => K0 l b else none
@[simp] theorem R46_r (l : List PV) (b : Bool) (K0 : List PV → Bool → R) : R46 (r46 l b) K0 = K0 l b := by kernel_rfl
def L46_1 (k n : Nat) (qs : List PV) (outLen : Nat) (t15 : List PV) (t16 t17 n1 n11 : Int) (l l1 xs : List PV) : R := evLoopAt P E T k 46 [] [1, 1, 1, 0, 1, 0] [] n ⟨mkT 33 [(1, .s (.c (.p (PV.row 0 0 qs)))), (2, .s (.c (.bptr 0 0))), (6, .s (.c (.loc 1 0 0 0 outLen))), (15, .s (.c (.p (PV.row 2 0 t15)))), (16, .s (.c (.p (PV.int .i64 t16)))), (17, .s (.c (.p (PV.int .i64 t17))))], [.box [.p (PV.int .i64 n1), .p (PV.int .i64 n11), .p (PV.row 2 0 l), .p (PV.row 2 0 l1)], .arr 3 0 0 false xs]⟩
/-! 47 : laws.has -/
def c47 (k : Nat) (l : List PV) (n1 : Int) : R := evF P E T k 47 [.s (.c (.p (PV.row 0 0 l))), .s (.c (.p (PV.int .i64 n1)))] []
def r47 (b : Bool) : R := some ([.c (.p (PV.bool b))], [])
def R47 (x0 : R) (K0 : Bool → R) : R := x0.bind fun q0 => bif lensB q0.2 [] && lensS q0.1 [.c (.p (.bool))] then (cBool (resAt q0.1 0)).bind fun b => K0 b else none
@[simp] theorem R47_r (b : Bool) (K0 : Bool → R) : R47 (r47 b) K0 = K0 b := by kernel_rfl
def L47_1 (k n : Nat) (n1 : Int) (t7 : List PV) (t8 t9 : Int) : R := evLoopAt P E T k 47 [] [1, 0, 1, 0] [] n ⟨mkT 17 [(1, .s (.c (.p (PV.int .i64 n1)))), (7, .s (.c (.p (PV.row 0 0 t7)))), (8, .s (.c (.p (PV.int .i64 t8)))), (9, .s (.c (.p (PV.int .i64 t9))))], []⟩
/-! 48 : spec.DrawIsStart -/
def c48 (k : Nat) (code : List PV) : R := evF P E T k 48 [.s (.c (.p (PV.row 0 0 code)))] []
def r48 (qr qr1 : Int) (l l1 l2 : List PV) : R := some ([.agg [.p (PV.int .i64 qr), .p (PV.int .i64 qr1), .p (PV.row 2 0 l), .p (PV.row 2 0 l1)], .c (.p (PV.row 0 0 l2))], [])
def R48 (x0 : R) (K0 : Int → Int → List PV → List PV → List PV → R) : R := x0.bind fun q0 => bif lensB q0.2 [] && lensS q0.1 [.agg [.p (.int .i64), .p (.int .i64), .p (.row 2), .p (.row 2)], .c (.p (.row 0))] then (cInt (Dp.partAt q0.1 0 0) .i64).bind fun qr => (cInt (Dp.partAt q0.1 0 1) .i64).bind fun qr1 => (cRow (Dp.partAt q0.1 0 2) 2).bind fun l => (cRow (Dp.partAt q0.1 0 3) 2).bind fun l1 => (cRow (resAt q0.1 1) 0).bind fun l2 => K0 qr qr1 l l1 l2 else none
@[simp] theorem R48_r (qr qr1 : Int) (l l1 l2 : List PV) (K0 : Int → Int → List PV → List PV → List PV → R) : R48 (r48 qr qr1 l l1 l2) K0 = K0 qr qr1 l l1 l2 := by kernel_rfl
/-! 49 : impl.IsStart -/
def c49 (k : Nat) (p p1 : Int) (p2 p3 qs : List PV) : R := evF P E T k 49 [.s (.c (.p (PV.agg [.int .i64 p, .int .i64 p1, .row 2 0 p2, .row 2 0 p3]))), .s (.c (.p (PV.row 0 0 qs)))] []
def r49 (b b1 : Bool) : R := some ([.c (.p (PV.bool b)), .c (.p (PV.bool b1))], [])
def R49 (x0 : R) (K0 : Bool → Bool → R) : R := x0.bind fun q0 => bif lensB q0.2 [] && lensS q0.1 [.c (.p (.bool)), .c (.p (.bool))] then (cBool (resAt q0.1 0)).bind fun b => (cBool (resAt q0.1 1)).bind fun b1 => K0 b b1 else none
@[simp] theorem R49_r (b b1 : Bool) (K0 : Bool → Bool → R) : R49 (r49 b b1) K0 = K0 b b1 := by kernel_rfl
/-! 50 : spec.IsStart -/
def c50 (k : Nat) (p p1 : Int) (p2 p3 qs : List PV) : R := evF P E T k 50 [.s (.c (.p (PV.agg [.int .i64 p, .int .i64 p1, .row 2 0 p2, .row 2 0 p3]))), .s (.c (.p (PV.row 0 0 qs)))] []
def r50 (b b1 : Bool) : R := some ([.c (.p (PV.bool b)), .c (.p (PV.bool b1))], [])
def R50 (x0 : R) (K0 : Bool → Bool → R) : R := x0.bind fun q0 => bif lensB q0.2 [] && lensS q0.1 [.c (.p (.bool)), .c (.p (.bool))] then (cBool (resAt q0.1 0)).bind fun b => (cBool (resAt q0.1 1)).bind fun b1 => K0 b b1 else none
@[simp] theorem R50_r (b b1 : Bool) (K0 : Bool → Bool → R) : R50 (r50 b b1) K0 = K0 b b1 := by kernel_rfl
/-! 51 : spec.Enabled -/
def c51 (k : Nat) (p p1 : Int) (p2 p3 qs : List PV) : R := evF P E T k 51 [.s (.c (.p (PV.agg [.int .i64 p, .int .i64 p1, .row 2 0 p2, .row 2 0 p3]))), .s (.c (.p (PV.row 0 0 qs)))] []
def r51 (l : List PV) (b : Bool) : R := some ([.c (.p (PV.row 0 0 l)), .c (.p (PV.bool b))], [])
def R51 (x0 : R) (K0 : List PV → Bool → R) : R := x0.bind fun q0 => bif lensB q0.2 [] && lensS q0.1 [.c (.p (.row 0)), .c (.p (.bool))] then (cRow (resAt q0.1 0) 0).bind fun l => (cBool (resAt q0.1 1)).bind fun b => K0 l b else none
@[simp] theorem R51_r (l : List PV) (b : Bool) (K0 : List PV → Bool → R) : R51 (r51 l b) K0 = K0 l b := by kernel_rfl
/-! 64 : spec.l1Cur).small -/
def c64 (k : Nat) (l : List PV) (n1 n11 : Int) : R := evF P E T k 64 [.s (.c (.bptr 0 0))] [[.p (PV.row 0 0 l), .p (PV.int .i64 n1), .p (PV.int .u64 n11)]]
def r64 (l : List PV) (qr qr1 qr2 qr3 : Int) (l1 l2 : List PV) : R := some ([.agg [.p (PV.int .i64 qr2), .p (PV.int .i64 qr3), .p (PV.row 2 0 l1), .p (PV.row 2 0 l2)]], [[.p (PV.row 0 0 l), .p (PV.int .i64 qr), .p (PV.int .u64 qr1)]])
def R64 (x0 : R) (K0 : List PV → Int → Int → Int → Int → List PV → List PV → R) : R := x0.bind fun q0 => bif lensB q0.2 [[.p (.row 0), .p (.int .i64), .p (.int .u64)]] && lensS q0.1 [.agg [.p (.int .i64), .p (.int .i64), .p (.row 2), .p (.row 2)]] then (cRow (cellAt q0.2 0 0) 0).bind fun l => (cInt (cellAt q0.2 0 1) .i64).bind fun qr => (cInt (cellAt q0.2 0 2) .u64).bind fun qr1 => (cInt (Dp.partAt q0.1 0 0) .i64).bind fun qr2 => (cInt (Dp.partAt q0.1 0 1) .i64).bind fun qr3 => (cRow (Dp.partAt q0.1 0 2) 2).bind fun l1 => (cRow (Dp.partAt q0.1 0 3) 2).bind fun l2 => K0 l qr qr1 qr2 qr3 l1 l2 else none
@[simp] theorem R64_r (l : List PV) (qr qr1 qr2 qr3 : Int) (l1 l2 : List PV) (K0 : List PV → Int → Int → Int → Int → List PV → List PV → R) : R64 (r64 l qr qr1 qr2 qr3 l1 l2) K0 = K0 l qr qr1 qr2 qr3 l1 l2 := by kernel_rfl
def L64_1 (k n : Nat) (wide vars : Int) (l : List PV) (n1 n11 n12 n13 : Int) (l1 l2 : List PV) : R := evLoopAt P E T k 64 [3] [1, 1, 1, 1, 0, 0] [] n ⟨mkT 67 [(0, .s (.c (.bptr 0 0))), (2, .s (.c (.bptr 1 0))), (3, .s (.c (.p (PV.int .i64 wide)))), (4, .s (.c (.p (PV.int .i64 vars))))], [.box [.p (PV.row 0 0 l), .p (PV.int .i64 n1), .p (PV.int .u64 n11)], .box [.p (PV.int .i64 n12), .p (PV.int .i64 n13), .p (PV.row 2 0 l1), .p (PV.row 2 0 l2)]]⟩
/-! 70 : impl.Program).isCondition -/
def c70 (k : Nat) (p p1 : Int) (p2 p3 t : List PV) : R := evF P E T k 70 [.s (.c (.p (PV.agg [.int .i64 p, .int .i64 p1, .row 2 0 p2, .row 2 0 p3]))), .s (.c (.p (PV.row 2 0 t)))] []
def r70 (b : Bool) : R := some ([.c (.p (PV.bool b))], [])
def R70 (x0 : R) (K0 : Bool → R) : R := x0.bind fun q0 => bif lensB q0.2 [] && lensS q0.1 [.c (.p (.bool))] then (cBool (resAt q0.1 0)).bind fun b => K0 b else none
@[simp] theorem R70_r (b : Bool) (K0 : Bool → R) : R70 (r70 b) K0 = K0 b := by kernel_rfl
/-! 74 : spec.l7Asks -/
def c74 (k : Nat) (p p1 : Int) (p2 p3 t : List PV) : R := evF P E T k 74 [.s (.c (.p (PV.agg [.int .i64 p, .int .i64 p1, .row 2 0 p2, .row 2 0 p3]))), .s (.c (.p (PV.row 2 0 t)))] []
def r74 (b : Bool) : R := some ([.c (.p (PV.bool b))], [])
def R74 (x0 : R) (K0 : Bool → R) : R := x0.bind fun q0 => bif lensB q0.2 [] && lensS q0.1 [.c (.p (.bool))] then (cBool (resAt q0.1 0)).bind fun b => K0 b else none
@[simp] theorem R74_r (b : Bool) (K0 : Bool → R) : R74 (r74 b) K0 = K0 b := by kernel_rfl
/-! 82 : impl.GoodTerm -/
def c82 (k : Nat) (wide vars : Int) (t : List PV) : R := evF P E T k 82 [.s (.c (.p (PV.int .i64 wide))), .s (.c (.p (PV.int .i64 vars))), .s (.c (.p (PV.row 2 0 t)))] []
def r82 (b : Bool) : R := some ([.c (.p (PV.bool b))], [])
def R82 (x0 : R) (K0 : Bool → R) : R := x0.bind fun q0 => bif lensB q0.2 [] && lensS q0.1 [.c (.p (.bool))] then (cBool (resAt q0.1 0)).bind fun b => K0 b else none
@[simp] theorem R82_r (b : Bool) (K0 : Bool → R) : R82 (r82 b) K0 = K0 b := by kernel_rfl
def L82_1 (k n : Nat) (wide vars : Int) (stackLen : Nat) (t33 : List PV) (t34 t35 : Int) (xs : List PV) : R := evLoopAt P E T k 82 [] [1, 1, 1, 0, 1, 0] [] n ⟨mkT 80 [(0, .s (.c (.p (PV.int .i64 wide)))), (1, .s (.c (.p (PV.int .i64 vars)))), (7, .s (.c (.loc 0 0 0 0 stackLen))), (33, .s (.c (.p (PV.row 2 0 t33)))), (34, .s (.c (.p (PV.int .i64 t34)))), (35, .s (.c (.p (PV.int .i64 t35))))], [.arr 3 0 0 false xs]⟩
/-! 83 : impl.kindOf -/
def c83 (k : Nat) (t : List PV) : R := evF P E T k 83 [.s (.c (.p (PV.row 2 0 t)))] []
def r83 (qr : Int) : R := some ([.c (.p (PV.int .i64 qr))], [])
def R83 (x0 : R) (K0 : Int → R) : R := x0.bind fun q0 => bif lensB q0.2 [] && lensS q0.1 [.c (.p (.int .i64))] then (cInt (resAt q0.1 0) .i64).bind fun qr => K0 qr else none
@[simp] theorem R83_r (qr : Int) (K0 : Int → R) : R83 (r83 qr) K0 = K0 qr := by kernel_rfl
/-! 85 : spec.l1Cur).one -/
def c85 (k : Nat) (n1 : Int) (l : List PV) (n11 n12 : Int) : R := evF P E T k 85 [.s (.c (.bptr 0 0)), .s (.c (.p (PV.int .i64 n1)))] [[.p (PV.row 0 0 l), .p (PV.int .i64 n11), .p (PV.int .u64 n12)]]
def r85 (l : List PV) (qr qr1 : Int) (b : Bool) : R := some ([.c (.p (PV.bool b))], [[.p (PV.row 0 0 l), .p (PV.int .i64 qr), .p (PV.int .u64 qr1)]])
def R85 (x0 : R) (K0 : List PV → Int → Int → Bool → R) : R := x0.bind fun q0 => bif lensB q0.2 [[.p (.row 0), .p (.int .i64), .p (.int .u64)]] && lensS q0.1 [.c (.p (.bool))] then (cRow (cellAt q0.2 0 0) 0).bind fun l => (cInt (cellAt q0.2 0 1) .i64).bind fun qr => (cInt (cellAt q0.2 0 2) .u64).bind fun qr1 => (cBool (resAt q0.1 0)).bind fun b => K0 l qr qr1 b else none
@[simp] theorem R85_r (l : List PV) (qr qr1 : Int) (b : Bool) (K0 : List PV → Int → Int → Bool → R) : R85 (r85 l qr qr1 b) K0 = K0 l qr qr1 b := by kernel_rfl
/-! 88 : spec.l1Has -/
def c88 (k : Nat) (l : List PV) (n1 : Int) : R := evF P E T k 88 [.s (.c (.p (PV.row 0 0 l))), .s (.c (.p (PV.int .i64 n1)))] []
def r88 (b : Bool) : R := some ([.c (.p (PV.bool b))], [])
def R88 (x0 : R) (K0 : Bool → R) : R := x0.bind fun q0 => bif lensB q0.2 [] && lensS q0.1 [.c (.p (.bool))] then (cBool (resAt q0.1 0)).bind fun b => K0 b else none
@[simp] theorem R88_r (b : Bool) (K0 : Bool → R) : R88 (r88 b) K0 = K0 b := by kernel_rfl
def L88_1 (k n : Nat) (n1 : Int) (t7 : List PV) (t8 t9 : Int) : R := evLoopAt P E T k 88 [] [1, 0, 1, 0] [] n ⟨mkT 17 [(1, .s (.c (.p (PV.int .i64 n1)))), (7, .s (.c (.p (PV.row 0 0 t7)))), (8, .s (.c (.p (PV.int .i64 t8)))), (9, .s (.c (.p (PV.int .i64 t9))))], []⟩
/-! 90 : spec.l1Cur).prog -/
def c90 (k : Nat) (l : List PV) (n1 n11 : Int) : R := evF P E T k 90 [.s (.c (.bptr 0 0))] [[.p (PV.row 0 0 l), .p (PV.int .i64 n1), .p (PV.int .u64 n11)]]
def r90 (l : List PV) (qr qr1 qr2 qr3 : Int) (l1 l2 : List PV) : R := some ([.agg [.p (PV.int .i64 qr2), .p (PV.int .i64 qr3), .p (PV.row 2 0 l1), .p (PV.row 2 0 l2)]], [[.p (PV.row 0 0 l), .p (PV.int .i64 qr), .p (PV.int .u64 qr1)]])
def R90 (x0 : R) (K0 : List PV → Int → Int → Int → Int → List PV → List PV → R) : R := x0.bind fun q0 => bif lensB q0.2 [[.p (.row 0), .p (.int .i64), .p (.int .u64)]] && lensS q0.1 [.agg [.p (.int .i64), .p (.int .i64), .p (.row 2), .p (.row 2)]] then (cRow (cellAt q0.2 0 0) 0).bind fun l => (cInt (cellAt q0.2 0 1) .i64).bind fun qr => (cInt (cellAt q0.2 0 2) .u64).bind fun qr1 => (cInt (Dp.partAt q0.1 0 0) .i64).bind fun qr2 => (cInt (Dp.partAt q0.1 0 1) .i64).bind fun qr3 => (cRow (Dp.partAt q0.1 0 2) 2).bind fun l1 => (cRow (Dp.partAt q0.1 0 3) 2).bind fun l2 => K0 l qr qr1 qr2 qr3 l1 l2 else none
@[simp] theorem R90_r (l : List PV) (qr qr1 qr2 qr3 : Int) (l1 l2 : List PV) (K0 : List PV → Int → Int → Int → Int → List PV → List PV → R) : R90 (r90 l qr qr1 qr2 qr3 l1 l2) K0 = K0 l qr qr1 qr2 qr3 l1 l2 := by kernel_rfl
/-! 91 : spec.l1Cur).pick -/
def c91 (k : Nat) (n1 : Int) (l : List PV) (n11 n12 : Int) : R := evF P E T k 91 [.s (.c (.bptr 0 0)), .s (.c (.p (PV.int .i64 n1)))] [[.p (PV.row 0 0 l), .p (PV.int .i64 n11), .p (PV.int .u64 n12)]]
def r91 (l : List PV) (qr qr1 qr2 : Int) : R := some ([.c (.p (PV.int .i64 qr2))], [[.p (PV.row 0 0 l), .p (PV.int .i64 qr), .p (PV.int .u64 qr1)]])
def R91 (x0 : R) (K0 : List PV → Int → Int → Int → R) : R := x0.bind fun q0 => bif lensB q0.2 [[.p (.row 0), .p (.int .i64), .p (.int .u64)]] && lensS q0.1 [.c (.p (.int .i64))] then (cRow (cellAt q0.2 0 0) 0).bind fun l => (cInt (cellAt q0.2 0 1) .i64).bind fun qr => (cInt (cellAt q0.2 0 2) .u64).bind fun qr1 => (cInt (resAt q0.1 0) .i64).bind fun qr2 => K0 l qr qr1 qr2 else none
@[simp] theorem R91_r (l : List PV) (qr qr1 qr2 : Int) (K0 : List PV → Int → Int → Int → R) : R91 (r91 l qr qr1 qr2) K0 = K0 l qr qr1 qr2 := by kernel_rfl
/-! 93 : slices.ContainsFunc[[]int,int] -/
def c93 (k : Nat) (qs : List PV) (n1 : Int) : R := evF P E T k 93 [.s (.c (.p (PV.row 0 0 qs))), .s (.c (.fn 165 [0]))] [[.p (PV.int .i64 n1)]]
def r93 (qr : Int) (b : Bool) : R := some ([.c (.p (PV.bool b))], [[.p (PV.int .i64 qr)]])
def R93 (x0 : R) (K0 : Int → Bool → R) : R := x0.bind fun q0 => bif lensB q0.2 [[.p (.int .i64)]] && lensS q0.1 [.c (.p (.bool))] then (cInt (cellAt q0.2 0 0) .i64).bind fun qr => (cBool (resAt q0.1 0)).bind fun b => K0 qr b else none
@[simp] theorem R93_r (qr : Int) (b : Bool) (K0 : Int → Bool → R) : R93 (r93 qr b) K0 = K0 qr b := by kernel_rfl
def R93p (x0 : R) (K0 : Int → Bool → R) : R := x0.bind fun q0 => bif q0.1.all plainS && q0.2.all (fun cs => cs.all plainC) then (bif lensB q0.2 [[.p (.int .i64)]] && lensS q0.1 [.c (.p (.bool))] then (cInt (cellAt q0.2 0 0) .i64).bind fun qr => (cBool (resAt q0.1 0)).bind fun b => K0 qr b else none) else none
@[simp] theorem R93p_r (qr : Int) (b : Bool) (K0 : Int → Bool → R) : R93p (r93 qr b) K0 = K0 qr b := by kernel_rfl
/-! 97 : impl.Program).isCommandNo -/
def c97 (k : Nat) (p p1 : Int) (p2 p3 : List PV) (k1 : Int) : R := evF P E T k 97 [.s (.c (.p (PV.agg [.int .i64 p, .int .i64 p1, .row 2 0 p2, .row 2 0 p3]))), .s (.c (.p (PV.int .i64 k1)))] []
def r97 (b : Bool) : R := some ([.c (.p (PV.bool b))], [])
def R97 (x0 : R) (K0 : Bool → R) : R := x0.bind fun q0 => bif lensB q0.2 [] && lensS q0.1 [.c (.p (.bool))] then (cBool (resAt q0.1 0)).bind fun b => K0 b else none
@[simp] theorem R97_r (b : Bool) (K0 : Bool → R) : R97 (r97 b) K0 = K0 b := by kernel_rfl
/-! 98 : impl.varsIn -/
def c98 (k : Nat) (t : List PV) : R := evF P E T k 98 [.s (.c (.p (PV.row 2 0 t)))] []
def r98 (l : List PV) : R := some ([.c (.own 3 0 l)], [])
def R98 (x0 : R) (K0 : List PV → R) : R := x0.bind fun q0 => bif lensB q0.2 [] && lensS q0.1 [.c (.own 3 0)] then (asOwn 3 0 (resAt q0.1 0)).bind fun l => K0 l else none
@[simp] theorem R98_r (l : List PV) (K0 : List PV → R) : R98 (r98 l) K0 = K0 l := by kernel_rfl
def L98_1 (k n : Nat) (outLen : Nat) (t7 : List PV) (t8 t9 : Int) (xs : List PV) : R := evLoopAt P E T k 98 [] [1, 1, 0, 1, 0] [] n ⟨mkT 27 [(3, .s (.c (.loc 0 0 0 0 outLen))), (7, .s (.c (.p (PV.row 2 0 t7)))), (8, .s (.c (.p (PV.int .i64 t8)))), (9, .s (.c (.p (PV.int .i64 t9))))], [.arr 3 0 0 false xs]⟩
/-! 101 : spec.l1In -/
def c101 (k : Nat) (n1 lo hi : Int) : R := evF P E T k 101 [.s (.c (.p (PV.int .i64 n1))), .s (.c (.p (PV.int .i64 lo))), .s (.c (.p (PV.int .i64 hi)))] []
def r101 (b : Bool) : R := some ([.c (.p (PV.bool b))], [])
def R101 (x0 : R) (K0 : Bool → R) : R := x0.bind fun q0 => bif lensB q0.2 [] && lensS q0.1 [.c (.p (.bool))] then (cBool (resAt q0.1 0)).bind fun b => K0 b else none
@[simp] theorem R101_r (b : Bool) (K0 : Bool → R) : R101 (r101 b) K0 = K0 b := by kernel_rfl
/-! 104 : impl.isWide -/
def c104 (k : Nat) (n1 : Int) : R := evF P E T k 104 [.s (.c (.p (PV.int .i64 n1)))] []
def r104 (b : Bool) : R := some ([.c (.p (PV.bool b))], [])
def R104 (x0 : R) (K0 : Bool → R) : R := x0.bind fun q0 => bif lensB q0.2 [] && lensS q0.1 [.c (.p (.bool))] then (cBool (resAt q0.1 0)).bind fun b => K0 b else none
@[simp] theorem R104_r (b : Bool) (K0 : Bool → R) : R104 (r104 b) K0 = K0 b := by kernel_rfl
/-! 105 : impl.mask -/
def c105 (k : Nat) (wide : Int) : R := evF P E T k 105 [.s (.c (.p (PV.int .i64 wide)))] []
def r105 (qr : Int) : R := some ([.c (.p (PV.int .u64 qr))], [])
def R105 (x0 : R) (K0 : Int → R) : R := x0.bind fun q0 => bif lensB q0.2 [] && lensS q0.1 [.c (.p (.int .u64))] then (cInt (resAt q0.1 0) .u64).bind fun qr => K0 qr else none
@[simp] theorem R105_r (qr : Int) (K0 : Int → R) : R105 (r105 qr) K0 = K0 qr := by kernel_rfl
/-! 106 : impl.isStateOf -/
def c106 (k : Nat) (p p1 : Int) (p2 p3 qs : List PV) : R := evF P E T k 106 [.s (.c (.p (PV.agg [.int .i64 p, .int .i64 p1, .row 2 0 p2, .row 2 0 p3]))), .s (.c (.p (PV.row 0 0 qs)))] []
def r106 (b : Bool) : R := some ([.c (.p (PV.bool b))], [])
def R106 (x0 : R) (K0 : Bool → R) : R := x0.bind fun q0 => bif lensB q0.2 [] && lensS q0.1 [.c (.p (.bool))] then (cBool (resAt q0.1 0)).bind fun b => K0 b else none
@[simp] theorem R106_r (b : Bool) (K0 : Bool → R) : R106 (r106 b) K0 = K0 b := by kernel_rfl
/-! 107 : impl.Program).holds -/
def c107 (k : Nat) (p p1 : Int) (p2 p3 t qs : List PV) : R := evF P E T k 107 [.s (.c (.p (PV.agg [.int .i64 p, .int .i64 p1, .row 2 0 p2, .row 2 0 p3]))), .s (.c (.p (PV.row 2 0 t))), .s (.c (.p (PV.row 0 0 qs)))] []
def r107 (b : Bool) : R := some ([.c (.p (PV.bool b))], [])
def R107 (x0 : R) (K0 : Bool → R) : R := x0.bind fun q0 => bif lensB q0.2 [] && lensS q0.1 [.c (.p (.bool))] then (cBool (resAt q0.1 0)).bind fun b => K0 b else none
@[simp] theorem R107_r (b : Bool) (K0 : Bool → R) : R107 (r107 b) K0 = K0 b := by kernel_rfl
/-! 108 : impl.Program).after -/
def c108 (k : Nat) (p p1 : Int) (p2 p3 qc qc1 qs : List PV) : R := evF P E T k 108 [.s (.c (.p (PV.agg [.int .i64 p, .int .i64 p1, .row 2 0 p2, .row 2 0 p3]))), .s (.c (.p (PV.agg [.row 2 0 qc, .row 2 0 qc1]))), .s (.c (.p (PV.row 0 0 qs)))] []
def r108 (l : List PV) : R := some ([.c (.p (PV.row 0 0 l))], [])
def R108 (x0 : R) (K0 : List PV → R) : R := x0.bind fun q0 => bif lensB q0.2 [] && lensS q0.1 [.c (.p (.row 0))] then (cRow (resAt q0.1 0) 0).bind fun l => K0 l else none
@[simp] theorem R108_r (l : List PV) (K0 : List PV → R) : R108 (r108 l) K0 = K0 l := by kernel_rfl
def L108_1 (k n : Nat) (qs : List PV) (outLen : Nat) (t13 : List PV) (t14 t15 n1 n11 : Int) (l l1 xs : List PV) : R := evLoopAt P E T k 108 [] [1, 1, 0, 1, 0] [] n ⟨mkT 31 [(2, .s (.c (.p (PV.row 0 0 qs)))), (3, .s (.c (.bptr 0 0))), (7, .s (.c (.loc 1 0 0 0 outLen))), (13, .s (.c (.p (PV.row 2 0 t13)))), (14, .s (.c (.p (PV.int .i64 t14)))), (15, .s (.c (.p (PV.int .i64 t15))))], [.box [.p (PV.int .i64 n1), .p (PV.int .i64 n11), .p (PV.row 2 0 l), .p (PV.row 2 0 l1)], .arr 51 0 0 false xs]⟩
/-! 124 : spec.l1Cur).stateFor -/
def c124 (k : Nat) (p p1 : Int) (p2 p3 l : List PV) (n1 n11 : Int) : R := evF P E T k 124 [.s (.c (.bptr 0 0)), .s (.c (.p (PV.agg [.int .i64 p, .int .i64 p1, .row 2 0 p2, .row 2 0 p3])))] [[.p (PV.row 0 0 l), .p (PV.int .i64 n1), .p (PV.int .u64 n11)]]
def r124 (l : List PV) (qr qr1 : Int) (l1 : List PV) : R := some ([.c (.p (PV.row 0 0 l1))], [[.p (PV.row 0 0 l), .p (PV.int .i64 qr), .p (PV.int .u64 qr1)]])
def R124 (x0 : R) (K0 : List PV → Int → Int → List PV → R) : R := x0.bind fun q0 => bif lensB q0.2 [[.p (.row 0), .p (.int .i64), .p (.int .u64)]] && lensS q0.1 [.c (.p (.row 0))] then (cRow (cellAt q0.2 0 0) 0).bind fun l => (cInt (cellAt q0.2 0 1) .i64).bind fun qr => (cInt (cellAt q0.2 0 2) .u64).bind fun qr1 => (cRow (resAt q0.1 0) 0).bind fun l1 => K0 l qr qr1 l1 else none
@[simp] theorem R124_r (l : List PV) (qr qr1 : Int) (l1 : List PV) (K0 : List PV → Int → Int → List PV → R) : R124 (r124 l qr qr1 l1) K0 = K0 l qr qr1 l1 := by kernel_rfl
/-! 125 : slices.Clone[[]uint64,uint64] -/
def c125 (k : Nat) (qs : List PV) : R := evF P E T k 125 [.s (.c (.p (PV.row 0 0 qs)))] []
def r125 (l : List PV) : R := some ([.c (.own 51 0 l)], [])
def R125 (x0 : R) (K0 : List PV → R) : R := x0.bind fun q0 => bif lensB q0.2 [] && lensS q0.1 [.c (.own 51 0)] then (asOwn 51 0 (resAt q0.1 0)).bind fun l => K0 l else none
@[simp] theorem R125_r (l : List PV) (K0 : List PV → R) : R125 (r125 l) K0 = K0 l := by kernel_rfl
/-! 126 : spec.l7State -/
def c126 (k : Nat) (p p1 : Int) (p2 p3 qs : List PV) : R := evF P E T k 126 [.s (.c (.p (PV.agg [.int .i64 p, .int .i64 p1, .row 2 0 p2, .row 2 0 p3]))), .s (.c (.p (PV.row 0 0 qs)))] []
def r126 (b : Bool) : R := some ([.c (.p (PV.bool b))], [])
def R126 (x0 : R) (K0 : Bool → R) : R := x0.bind fun q0 => bif lensB q0.2 [] && lensS q0.1 [.c (.p (.bool))] then (cBool (resAt q0.1 0)).bind fun b => K0 b else none
@[simp] theorem R126_r (b : Bool) (K0 : Bool → R) : R126 (r126 b) K0 = K0 b := by kernel_rfl
/-! 127 : spec.StepBy -/
def c127 (k : Nat) (p p1 : Int) (p2 p3 qs : List PV) (k1 : Int) : R := evF P E T k 127 [.s (.c (.p (PV.agg [.int .i64 p, .int .i64 p1, .row 2 0 p2, .row 2 0 p3]))), .s (.c (.p (PV.row 0 0 qs))), .s (.c (.p (PV.int .i64 k1)))] []
def r127 (l : List PV) (b : Bool) : R := some ([.c (.p (PV.row 0 0 l)), .c (.p (PV.bool b))], [])
def R127 (x0 : R) (K0 : List PV → Bool → R) : R := x0.bind fun q0 => bif lensB q0.2 [] && lensS q0.1 [.c (.p (.row 0)), .c (.p (.bool))] then (cRow (resAt q0.1 0) 0).bind fun l => (cBool (resAt q0.1 1)).bind fun b => K0 l b else none
@[simp] theorem R127_r (l : List PV) (b : Bool) (K0 : List PV → Bool → R) : R127 (r127 l b) K0 = K0 l b := by kernel_rfl
/-! 128 : impl.isVars -/
def c128 (k : Nat) (n1 : Int) : R := evF P E T k 128 [.s (.c (.p (PV.int .i64 n1)))] []
def r128 (b : Bool) : R := some ([.c (.p (PV.bool b))], [])
def R128 (x0 : R) (K0 : Bool → R) : R := x0.bind fun q0 => bif lensB q0.2 [] && lensS q0.1 [.c (.p (.bool))] then (cBool (resAt q0.1 0)).bind fun b => K0 b else none
@[simp] theorem R128_r (b : Bool) (K0 : Bool → R) : R128 (r128 b) K0 = K0 b := by kernel_rfl
/-! 129 : impl.Command] -/
def c129 (k : Nat) (qs : List PV) (n1 n11 : Int) (l l1 : List PV) : R := evF P E T k 129 [.s (.c (.p (PV.row 2 0 qs))), .s (.c (.fn 130 [0]))] [[.p (PV.int .i64 n1), .p (PV.int .i64 n11), .p (PV.row 2 0 l), .p (PV.row 2 0 l1)]]
def r129 (qr qr1 : Int) (l l1 : List PV) (b : Bool) : R := some ([.c (.p (PV.bool b))], [[.p (PV.int .i64 qr), .p (PV.int .i64 qr1), .p (PV.row 2 0 l), .p (PV.row 2 0 l1)]])
def R129 (x0 : R) (K0 : Int → Int → List PV → List PV → Bool → R) : R := x0.bind fun q0 => bif lensB q0.2 [[.p (.int .i64), .p (.int .i64), .p (.row 2), .p (.row 2)]] && lensS q0.1 [.c (.p (.bool))] then (cInt (cellAt q0.2 0 0) .i64).bind fun qr => (cInt (cellAt q0.2 0 1) .i64).bind fun qr1 => (cRow (cellAt q0.2 0 2) 2).bind fun l => (cRow (cellAt q0.2 0 3) 2).bind fun l1 => (cBool (resAt q0.1 0)).bind fun b => K0 qr qr1 l l1 b else none
@[simp] theorem R129_r (qr qr1 : Int) (l l1 : List PV) (b : Bool) (K0 : Int → Int → List PV → List PV → Bool → R) : R129 (r129 qr qr1 l l1 b) K0 = K0 qr qr1 l l1 b := by kernel_rfl
/-! 130 : impl.GoodProgram$1 -/
def c130 (k : Nat) (qc qc1 : List PV) (n1 n11 : Int) (l l1 : List PV) : R := evF P E T k 130 [.s (.c (.p (PV.agg [.row 2 0 qc, .row 2 0 qc1]))), .s (.c (.bptr 0 0))] [[.p (PV.int .i64 n1), .p (PV.int .i64 n11), .p (PV.row 2 0 l), .p (PV.row 2 0 l1)]]
def r130 (qr qr1 : Int) (l l1 : List PV) (b : Bool) : R := some ([.c (.p (PV.bool b))], [[.p (PV.int .i64 qr), .p (PV.int .i64 qr1), .p (PV.row 2 0 l), .p (PV.row 2 0 l1)]])
def R130 (x0 : R) (K0 : Int → Int → List PV → List PV → Bool → R) : R := x0.bind fun q0 => bif lensB q0.2 [[.p (.int .i64), .p (.int .i64), .p (.row 2), .p (.row 2)]] && lensS q0.1 [.c (.p (.bool))] then (cInt (cellAt q0.2 0 0) .i64).bind fun qr => (cInt (cellAt q0.2 0 1) .i64).bind fun qr1 => (cRow (cellAt q0.2 0 2) 2).bind fun l => (cRow (cellAt q0.2 0 3) 2).bind fun l1 => (cBool (resAt q0.1 0)).bind fun b => K0 qr qr1 l l1 b else none
@[simp] theorem R130_r (qr qr1 : Int) (l l1 : List PV) (b : Bool) (K0 : Int → Int → List PV → List PV → Bool → R) : R130 (r130 qr qr1 l l1 b) K0 = K0 qr qr1 l l1 b := by kernel_rfl
/-! 131 : impl.Program).isCommand -/
def c131 (k : Nat) (p p1 : Int) (p2 p3 qc qc1 : List PV) : R := evF P E T k 131 [.s (.c (.p (PV.agg [.int .i64 p, .int .i64 p1, .row 2 0 p2, .row 2 0 p3]))), .s (.c (.p (PV.agg [.row 2 0 qc, .row 2 0 qc1])))] []
def r131 (b : Bool) : R := some ([.c (.p (PV.bool b))], [])
def R131 (x0 : R) (K0 : Bool → R) : R := x0.bind fun q0 => bif lensB q0.2 [] && lensS q0.1 [.c (.p (.bool))] then (cBool (resAt q0.1 0)).bind fun b => K0 b else none
@[simp] theorem R131_r (b : Bool) (K0 : Bool → R) : R131 (r131 b) K0 = K0 b := by kernel_rfl
def L131_1 (k n : Nat) (t13 : List PV) (t14 t15 n1 n11 : Int) (l l1 l2 l3 : List PV) : R := evLoopAt P E T k 131 [] [1, 1, 0, 1, 0] [] n ⟨mkT 57 [(2, .s (.c (.bptr 0 0))), (3, .s (.c (.bptr 1 0))), (13, .s (.c (.p (PV.row 2 0 t13)))), (14, .s (.c (.p (PV.int .i64 t14)))), (15, .s (.c (.p (PV.int .i64 t15))))], [.box [.p (PV.int .i64 n1), .p (PV.int .i64 n11), .p (PV.row 2 0 l), .p (PV.row 2 0 l1)], .box [.p (PV.row 2 0 l2), .p (PV.row 2 0 l3)]]⟩
/-! 132 : spec.l7Command -/
def c132 (k : Nat) (p p1 : Int) (p2 p3 qc qc1 : List PV) : R := evF P E T k 132 [.s (.c (.p (PV.agg [.int .i64 p, .int .i64 p1, .row 2 0 p2, .row 2 0 p3]))), .s (.c (.p (PV.agg [.row 2 0 qc, .row 2 0 qc1])))] []
def r132 (b : Bool) : R := some ([.c (.p (PV.bool b))], [])
def R132 (x0 : R) (K0 : Bool → R) : R := x0.bind fun q0 => bif lensB q0.2 [] && lensS q0.1 [.c (.p (.bool))] then (cBool (resAt q0.1 0)).bind fun b => K0 b else none
@[simp] theorem R132_r (b : Bool) (K0 : Bool → R) : R132 (r132 b) K0 = K0 b := by kernel_rfl
def L132_1 (k n : Nat) (t21 : List PV) (t22 t23 n1 n11 : Int) (l l1 l2 l3 : List PV) : R := evLoopAt P E T k 132 [] [1, 1, 0, 1, 0] [] n ⟨mkT 62 [(2, .s (.c (.bptr 0 0))), (3, .s (.c (.bptr 1 0))), (21, .s (.c (.p (PV.row 2 0 t21)))), (22, .s (.c (.p (PV.int .i64 t22)))), (23, .s (.c (.p (PV.int .i64 t23))))], [.box [.p (PV.int .i64 n1), .p (PV.int .i64 n11), .p (PV.row 2 0 l), .p (PV.row 2 0 l1)], .box [.p (PV.row 2 0 l2), .p (PV.row 2 0 l3)]]⟩
/-! 133 : spec.l7Holds -/
def c133 (k : Nat) (p p1 : Int) (p2 p3 t qs : List PV) : R := evF P E T k 133 [.s (.c (.p (PV.agg [.int .i64 p, .int .i64 p1, .row 2 0 p2, .row 2 0 p3]))), .s (.c (.p (PV.row 2 0 t))), .s (.c (.p (PV.row 0 0 qs)))] []
def r133 (b : Bool) : R := some ([.c (.p (PV.bool b))], [])
def R133 (x0 : R) (K0 : Bool → R) : R := x0.bind fun q0 => bif lensB q0.2 [] && lensS q0.1 [.c (.p (.bool))] then (cBool (resAt q0.1 0)).bind fun b => K0 b else none
@[simp] theorem R133_r (b : Bool) (K0 : Bool → R) : R133 (r133 b) K0 = K0 b := by kernel_rfl
/-! 134 : spec.l7Enabled -/
def c134 (k : Nat) (p p1 : Int) (p2 p3 qs : List PV) : R := evF P E T k 134 [.s (.c (.p (PV.agg [.int .i64 p, .int .i64 p1, .row 2 0 p2, .row 2 0 p3]))), .s (.c (.p (PV.row 0 0 qs)))] []
def r134 (l : List PV) : R := some ([.c (.p (PV.row 0 0 l))], [])
def R134 (x0 : R) (K0 : List PV → R) : R := x0.bind fun q0 => bif lensB q0.2 [] && lensS q0.1 [.c (.p (.row 0))] then (cRow (resAt q0.1 0) 0).bind fun l => K0 l else none
@[simp] theorem R134_r (l : List PV) (K0 : List PV → R) : R134 (r134 l) K0 = K0 l := by kernel_rfl
def L134_1 (k n : Nat) (qs : List PV) (outLen : Nat) (t9 : List PV) (t10 t11 n1 n11 : Int) (l l1 xs : List PV) : R := evLoopAt P E T k 134 [] [1, 1, 0, 1, 0] [] n ⟨mkT 27 [(1, .s (.c (.p (PV.row 0 0 qs)))), (2, .s (.c (.bptr 0 0))), (5, .s (.c (.loc 1 0 0 0 outLen))), (9, .s (.c (.p (PV.row 2 0 t9)))), (10, .s (.c (.p (PV.int .i64 t10)))), (11, .s (.c (.p (PV.int .i64 t11))))], [.box [.p (PV.int .i64 n1), .p (PV.int .i64 n11), .p (PV.row 2 0 l), .p (PV.row 2 0 l1)], .arr 3 0 0 false xs]⟩
/-! 149 : spec.l1Cur).among -/
def c149 (k : Nat) (list l : List PV) (n1 n11 : Int) : R := evF P E T k 149 [.s (.c (.bptr 0 0)), .s (.c (.p (PV.row 0 0 list)))] [[.p (PV.row 0 0 l), .p (PV.int .i64 n1), .p (PV.int .u64 n11)]]
def r149 (l : List PV) (qr qr1 qr2 : Int) : R := some ([.c (.p (PV.int .i64 qr2))], [[.p (PV.row 0 0 l), .p (PV.int .i64 qr), .p (PV.int .u64 qr1)]])
def R149 (x0 : R) (K0 : List PV → Int → Int → Int → R) : R := x0.bind fun q0 => bif lensB q0.2 [[.p (.row 0), .p (.int .i64), .p (.int .u64)]] && lensS q0.1 [.c (.p (.int .i64))] then (cRow (cellAt q0.2 0 0) 0).bind fun l => (cInt (cellAt q0.2 0 1) .i64).bind fun qr => (cInt (cellAt q0.2 0 2) .u64).bind fun qr1 => (cInt (resAt q0.1 0) .i64).bind fun qr2 => K0 l qr qr1 qr2 else none
@[simp] theorem R149_r (l : List PV) (qr qr1 qr2 : Int) (K0 : List PV → Int → Int → Int → R) : R149 (r149 l qr qr1 qr2) K0 = K0 l qr qr1 qr2 := by kernel_rfl
/-! 150 : spec.l1Cur).progOf -/
def c150 (k : Nat) (wide vars : Int) (l : List PV) (n1 n11 : Int) : R := evF P E T k 150 [.s (.c (.bptr 0 0)), .s (.c (.p (PV.int .i64 wide))), .s (.c (.p (PV.int .i64 vars)))] [[.p (PV.row 0 0 l), .p (PV.int .i64 n1), .p (PV.int .u64 n11)]]
def r150 (l : List PV) (qr qr1 qr2 qr3 : Int) (l1 l2 : List PV) : R := some ([.agg [.p (PV.int .i64 qr2), .p (PV.int .i64 qr3), .p (PV.row 2 0 l1), .own ⟨123, some ⟨1, 126, 2, 0, none⟩⟩ 2 l2]], [[.p (PV.row 0 0 l), .p (PV.int .i64 qr), .p (PV.int .u64 qr1)]])
def R150 (x0 : R) (K0 : List PV → Int → Int → Int → Int → List PV → List PV → R) : R := x0.bind fun q0 => bif lensB q0.2 [[.p (.row 0), .p (.int .i64), .p (.int .u64)]] && lensS q0.1 [.agg [.p (.int .i64), .p (.int .i64), .p (.row 2), .own ⟨123, some ⟨1, 126, 2, 0, none⟩⟩ 2]] then (cRow (cellAt q0.2 0 0) 0).bind fun l => (cInt (cellAt q0.2 0 1) .i64).bind fun qr => (cInt (cellAt q0.2 0 2) .u64).bind fun qr1 => (cInt (Dp.partAt q0.1 0 0) .i64).bind fun qr2 => (cInt (Dp.partAt q0.1 0 1) .i64).bind fun qr3 => (cRow (Dp.partAt q0.1 0 2) 2).bind fun l1 => (asOwn ⟨123, some ⟨1, 126, 2, 0, none⟩⟩ 2 (Dp.partAt q0.1 0 3)).bind fun l2 => K0 l qr qr1 qr2 qr3 l1 l2 else none
@[simp] theorem R150_r (l : List PV) (qr qr1 qr2 qr3 : Int) (l1 l2 : List PV) (K0 : List PV → Int → Int → Int → Int → List PV → List PV → R) : R150 (r150 l qr qr1 qr2 qr3 l1 l2) K0 = K0 l qr qr1 qr2 qr3 l1 l2 := by kernel_rfl
def L150_1 (k n : Nat) (wide vars n1 : Int) (l : List PV) (n11 n12 n13 n14 : Int) (l1 l2 : List PV) (n15 n16 : Int) (Len Len1 : Nat) (xs xs1 : List PV) : R := evLoopAt P E T k 150 [3] [1, 1, 1, 1, 0, 1, 0] [] n ⟨mkT 44 [(0, .s (.c (.bptr 0 0))), (1, .s (.c (.p (PV.int .i64 wide)))), (2, .s (.c (.p (PV.int .i64 vars)))), (6, .s (.c (.bptr 1 0))), (7, .s (.c (.bptr 2 0))), (8, .s (.c (.p (PV.int .i64 n1))))], [.box [.p (PV.row 0 0 l), .p (PV.int .i64 n11), .p (PV.int .u64 n12)], .box [.p (PV.int .i64 n13), .p (PV.int .i64 n14), .p (PV.row 2 0 l1), .p (PV.row 2 0 l2)], .box [.p (PV.int .i64 n15), .p (PV.int .i64 n16), .loc 3 0 2 0 Len, .loc 4 0 2 0 Len1], .arr 113 2 0 false xs, .arr ⟨123, some ⟨1, 126, 2, 0, none⟩⟩ 2 0 false xs1]⟩
/-! 151 : spec.l1Cur).asked -/
def c151 (k : Nat) (wide vars deep : Int) (l : List PV) (n1 n11 : Int) : R := evF P E T k 151 [.s (.c (.bptr 0 0)), .s (.c (.p (PV.int .i64 wide))), .s (.c (.p (PV.int .i64 vars))), .s (.c (.p (PV.int .i64 deep)))] [[.p (PV.row 0 0 l), .p (PV.int .i64 n1), .p (PV.int .u64 n11)]]
def r151 (l : List PV) (qr qr1 : Int) (l1 : List PV) : R := some ([.c (.own 113 2 l1)], [[.p (PV.row 0 0 l), .p (PV.int .i64 qr), .p (PV.int .u64 qr1)]])
def R151 (x0 : R) (K0 : List PV → Int → Int → List PV → R) : R := x0.bind fun q0 => bif lensB q0.2 [[.p (.row 0), .p (.int .i64), .p (.int .u64)]] && lensS q0.1 [.c (.own 113 2)] then (cRow (cellAt q0.2 0 0) 0).bind fun l => (cInt (cellAt q0.2 0 1) .i64).bind fun qr => (cInt (cellAt q0.2 0 2) .u64).bind fun qr1 => (asOwn 113 2 (resAt q0.1 0)).bind fun l1 => K0 l qr qr1 l1 else none
@[simp] theorem R151_r (l : List PV) (qr qr1 : Int) (l1 : List PV) (K0 : List PV → Int → Int → List PV → R) : R151 (r151 l qr qr1 l1) K0 = K0 l qr qr1 l1 := by kernel_rfl
/-! 153 : impl.isTermOf -/
def c153 (k : Nat) (wide vars : Int) (t : List PV) (kind : Int) : R := evF P E T k 153 [.s (.c (.p (PV.int .i64 wide))), .s (.c (.p (PV.int .i64 vars))), .s (.c (.p (PV.row 2 0 t))), .s (.c (.p (PV.int .i64 kind)))] []
def r153 (b : Bool) : R := some ([.c (.p (PV.bool b))], [])
def R153 (x0 : R) (K0 : Bool → R) : R := x0.bind fun q0 => bif lensB q0.2 [] && lensS q0.1 [.c (.p (.bool))] then (cBool (resAt q0.1 0)).bind fun b => K0 b else none
@[simp] theorem R153_r (b : Bool) (K0 : Bool → R) : R153 (r153 b) K0 = K0 b := by kernel_rfl
/-! 155 : spec.l2Kind -/
def c155 (k : Nat) (wide vars : Int) (t : List PV) : R := evF P E T k 155 [.s (.c (.p (PV.int .i64 wide))), .s (.c (.p (PV.int .i64 vars))), .s (.c (.p (PV.row 2 0 t)))] []
def r155 (qr : Int) : R := some ([.c (.p (PV.int .i64 qr))], [])
def R155 (x0 : R) (K0 : Int → R) : R := x0.bind fun q0 => bif lensB q0.2 [] && lensS q0.1 [.c (.p (.int .i64))] then (cInt (resAt q0.1 0) .i64).bind fun qr => K0 qr else none
@[simp] theorem R155_r (qr : Int) (K0 : Int → R) : R155 (r155 qr) K0 = K0 qr := by kernel_rfl
def L155_1 (k n : Nat) (wide vars : Int) (pileLen : Nat) (t27 : List PV) (t28 t29 : Int) (xs : List PV) : R := evLoopAt P E T k 155 [] [1, 1, 1, 0, 1, 0] [] n ⟨mkT 83 [(0, .s (.c (.p (PV.int .i64 wide)))), (1, .s (.c (.p (PV.int .i64 vars)))), (7, .s (.c (.loc 0 0 0 0 pileLen))), (27, .s (.c (.p (PV.row 2 0 t27)))), (28, .s (.c (.p (PV.int .i64 t28)))), (29, .s (.c (.p (PV.int .i64 t29))))], [.arr 3 0 0 false xs]⟩
def L155_2 (k n1 n : Nat) (wide vars : Int) (pileLen : Nat) (many part own : Int) (t27 : List PV) (t28 t29 : Int) (xs : List PV) : R := evLoopAt P E T k 155 [] [1, 1, 1, 0, 1, 0, 0, 1, 1, 0, 0, 1, 1, 1, 0, 0] [n1] n ⟨mkT 83 [(0, .s (.c (.p (PV.int .i64 wide)))), (1, .s (.c (.p (PV.int .i64 vars)))), (7, .s (.c (.loc 0 0 0 0 pileLen))), (10, .s (.c (.p (PV.int .i64 many)))), (11, .s (.c (.p (PV.int .i64 part)))), (12, .s (.c (.p (PV.int .i64 own)))), (27, .s (.c (.p (PV.row 2 0 t27)))), (28, .s (.c (.p (PV.int .i64 t28)))), (29, .s (.c (.p (PV.int .i64 t29))))], [.arr 3 0 0 false xs]⟩
/-! 163 : impl.operandsOf -/
def c163 (k : Nat) (op : Int) : R := evF P E T k 163 [.s (.c (.p (PV.int .i64 op)))] []
def r163 (qr qr1 qr2 : Int) : R := some ([.c (.p (PV.int .i64 qr)), .c (.p (PV.int .i64 qr1)), .c (.p (PV.int .i64 qr2))], [])
def R163 (x0 : R) (K0 : Int → Int → Int → R) : R := x0.bind fun q0 => bif lensB q0.2 [] && lensS q0.1 [.c (.p (.int .i64)), .c (.p (.int .i64)), .c (.p (.int .i64))] then (cInt (resAt q0.1 0) .i64).bind fun qr => (cInt (resAt q0.1 1) .i64).bind fun qr1 => (cInt (resAt q0.1 2) .i64).bind fun qr2 => K0 qr qr1 qr2 else none
@[simp] theorem R163_r (qr qr1 qr2 : Int) (K0 : Int → Int → Int → R) : R163 (r163 qr qr1 qr2) K0 = K0 qr qr1 qr2 := by kernel_rfl
/-! 164 : impl.isLeafRight -/
def c164 (k : Nat) (wide vars x x1 : Int) : R := evF P E T k 164 [.s (.c (.p (PV.int .i64 wide))), .s (.c (.p (PV.int .i64 vars))), .s (.c (.p (PV.agg [.int .i64 x, .int .u64 x1])))] []
def r164 (b : Bool) : R := some ([.c (.p (PV.bool b))], [])
def R164 (x0 : R) (K0 : Bool → R) : R := x0.bind fun q0 => bif lensB q0.2 [] && lensS q0.1 [.c (.p (.bool))] then (cBool (resAt q0.1 0)).bind fun b => K0 b else none
@[simp] theorem R164_r (b : Bool) (K0 : Bool → R) : R164 (r164 b) K0 = K0 b := by kernel_rfl
/-! 165 : impl.GoodTerm$1 -/
def c165 (k : Nat) (own n1 : Int) : R := evF P E T k 165 [.s (.c (.p (PV.int .i64 own))), .s (.c (.bptr 0 0))] [[.p (PV.int .i64 n1)]]
def r165 (qr : Int) (b : Bool) : R := some ([.c (.p (PV.bool b))], [[.p (PV.int .i64 qr)]])
def R165 (x0 : R) (K0 : Int → Bool → R) : R := x0.bind fun q0 => bif lensB q0.2 [[.p (.int .i64)]] && lensS q0.1 [.c (.p (.bool))] then (cInt (cellAt q0.2 0 0) .i64).bind fun qr => (cBool (resAt q0.1 0)).bind fun b => K0 qr b else none
@[simp] theorem R165_r (qr : Int) (b : Bool) (K0 : Int → Bool → R) : R165 (r165 qr b) K0 = K0 qr b := by kernel_rfl
/-! 167 : spec.l1Cur).next -/
def c167 (k : Nat) (l : List PV) (n1 n11 : Int) : R := evF P E T k 167 [.s (.c (.bptr 0 0))] [[.p (PV.row 0 0 l), .p (PV.int .i64 n1), .p (PV.int .u64 n11)]]
def r167 (l : List PV) (qr qr1 qr2 : Int) : R := some ([.c (.p (PV.int .i64 qr2))], [[.p (PV.row 0 0 l), .p (PV.int .i64 qr), .p (PV.int .u64 qr1)]])
def R167 (x0 : R) (K0 : List PV → Int → Int → Int → R) : R := x0.bind fun q0 => bif lensB q0.2 [[.p (.row 0), .p (.int .i64), .p (.int .u64)]] && lensS q0.1 [.c (.p (.int .i64))] then (cRow (cellAt q0.2 0 0) 0).bind fun l => (cInt (cellAt q0.2 0 1) .i64).bind fun qr => (cInt (cellAt q0.2 0 2) .u64).bind fun qr1 => (cInt (resAt q0.1 0) .i64).bind fun qr2 => K0 l qr qr1 qr2 else none
@[simp] theorem R167_r (l : List PV) (qr qr1 qr2 : Int) (K0 : List PV → Int → Int → Int → R) : R167 (r167 l qr qr1 qr2) K0 = K0 l qr qr1 qr2 := by kernel_rfl
/-! 168 : slices.IndexFunc[[]int,int] -/
def c168 (k : Nat) (qs : List PV) (n1 : Int) : R := evF P E T k 168 [.s (.c (.p (PV.row 0 0 qs))), .s (.c (.fn 165 [0]))] [[.p (PV.int .i64 n1)]]
def r168 (qr qr1 : Int) : R := some ([.c (.p (PV.int .i64 qr1))], [[.p (PV.int .i64 qr)]])
def R168 (x0 : R) (K0 : Int → Int → R) : R := x0.bind fun q0 => bif lensB q0.2 [[.p (.int .i64)]] && lensS q0.1 [.c (.p (.int .i64))] then (cInt (cellAt q0.2 0 0) .i64).bind fun qr => (cInt (resAt q0.1 0) .i64).bind fun qr1 => K0 qr qr1 else none
@[simp] theorem R168_r (qr qr1 : Int) (K0 : Int → Int → R) : R168 (r168 qr qr1) K0 = K0 qr qr1 := by kernel_rfl
def L168_1 (k n : Nat) (qs : List PV) (t7 t8 n1 : Int) : R := evLoopAt P E T k 168 [1] [1, 0, 1, 0] [] n ⟨mkT 19 [(0, .s (.c (.p (PV.row 0 0 qs)))), (1, .s (.c (.fn 165 [0]))), (7, .s (.c (.p (PV.int .i64 t7)))), (8, .s (.c (.p (PV.int .i64 t8))))], [.box [.p (PV.int .i64 n1)]]⟩
/-! 172 : impl.isState -/
def c172 (k : Nat) (wide vars : Int) (state : List PV) : R := evF P E T k 172 [.s (.c (.p (PV.int .i64 wide))), .s (.c (.p (PV.int .i64 vars))), .s (.c (.p (PV.row 0 0 state)))] []
def r172 (b : Bool) : R := some ([.c (.p (PV.bool b))], [])
def R172 (x0 : R) (K0 : Bool → R) : R := x0.bind fun q0 => bif lensB q0.2 [] && lensS q0.1 [.c (.p (.bool))] then (cBool (resAt q0.1 0)).bind fun b => K0 b else none
@[simp] theorem R172_r (b : Bool) (K0 : Bool → R) : R172 (r172 b) K0 = K0 b := by kernel_rfl
/-! 173 : impl.valueOf -/
def c173 (k : Nat) (wide : Int) (t state : List PV) : R := evF P E T k 173 [.s (.c (.p (PV.int .i64 wide))), .s (.c (.p (PV.row 2 0 t))), .s (.c (.p (PV.row 0 0 state)))] []
def r173 (qr : Int) : R := some ([.c (.p (PV.int .u64 qr))], [])
def R173 (x0 : R) (K0 : Int → R) : R := x0.bind fun q0 => bif lensB q0.2 [] && lensS q0.1 [.c (.p (.int .u64))] then (cInt (resAt q0.1 0) .u64).bind fun qr => K0 qr else none
@[simp] theorem R173_r (qr : Int) (K0 : Int → R) : R173 (r173 qr) K0 = K0 qr := by kernel_rfl
def L173_1 (k n : Nat) (wide : Int) (state : List PV) (stackLen : Nat) (t12 : List PV) (t13 t14 : Int) (xs : List PV) : R := evLoopAt P E T k 173 [] [1, 1, 0, 1, 0] [] n ⟨mkT 87 [(0, .s (.c (.p (PV.int .i64 wide)))), (2, .s (.c (.p (PV.row 0 0 state)))), (7, .s (.c (.loc 0 0 0 0 stackLen))), (12, .s (.c (.p (PV.row 2 0 t12)))), (13, .s (.c (.p (PV.int .i64 t13)))), (14, .s (.c (.p (PV.int .i64 t14))))], [.arr 51 0 0 false xs]⟩
/-! 178 : spec.l1Cur).state -/
def c178 (k : Nat) (wide vars : Int) (l : List PV) (n1 n11 : Int) : R := evF P E T k 178 [.s (.c (.bptr 0 0)), .s (.c (.p (PV.int .i64 wide))), .s (.c (.p (PV.int .i64 vars)))] [[.p (PV.row 0 0 l), .p (PV.int .i64 n1), .p (PV.int .u64 n11)]]
def r178 (l : List PV) (qr qr1 : Int) (l1 : List PV) : R := some ([.c (.own 51 0 l1)], [[.p (PV.row 0 0 l), .p (PV.int .i64 qr), .p (PV.int .u64 qr1)]])
def R178 (x0 : R) (K0 : List PV → Int → Int → List PV → R) : R := x0.bind fun q0 => bif lensB q0.2 [[.p (.row 0), .p (.int .i64), .p (.int .u64)]] && lensS q0.1 [.c (.own 51 0)] then (cRow (cellAt q0.2 0 0) 0).bind fun l => (cInt (cellAt q0.2 0 1) .i64).bind fun qr => (cInt (cellAt q0.2 0 2) .u64).bind fun qr1 => (asOwn 51 0 (resAt q0.1 0)).bind fun l1 => K0 l qr qr1 l1 else none
@[simp] theorem R178_r (l : List PV) (qr qr1 : Int) (l1 : List PV) (K0 : List PV → Int → Int → List PV → R) : R178 (r178 l qr qr1 l1) K0 = K0 l qr qr1 l1 := by kernel_rfl
def L178_1 (k n : Nat) (wide vars : Int) (lLen : Nat) (k1 : Int) (l : List PV) (n1 n11 : Int) (xs : List PV) : R := evLoopAt P E T k 178 [3] [1, 1, 0, 1, 0] [] n ⟨mkT 21 [(0, .s (.c (.bptr 0 0))), (1, .s (.c (.p (PV.int .i64 wide)))), (2, .s (.c (.p (PV.int .i64 vars)))), (7, .s (.c (.loc 1 0 0 0 lLen))), (8, .s (.c (.p (PV.int .i64 k1))))], [.box [.p (PV.row 0 0 l), .p (PV.int .i64 n1), .p (PV.int .u64 n11)], .arr 51 0 0 false xs]⟩
/-! 179 : spec.l2Words -/
def c179 (k : Nat) (wide : Int) (state : List PV) : R := evF P E T k 179 [.s (.c (.p (PV.int .i64 wide))), .s (.c (.p (PV.row 0 0 state)))] []
def r179 (b : Bool) : R := some ([.c (.p (PV.bool b))], [])
def R179 (x0 : R) (K0 : Bool → R) : R := x0.bind fun q0 => bif lensB q0.2 [] && lensS q0.1 [.c (.p (.bool))] then (cBool (resAt q0.1 0)).bind fun b => K0 b else none
@[simp] theorem R179_r (b : Bool) (K0 : Bool → R) : R179 (r179 b) K0 = K0 b := by kernel_rfl
def L179_1 (k n : Nat) (wide : Int) (t7 : List PV) (t8 t9 : Int) : R := evLoopAt P E T k 179 [] [1, 0, 1, 0] [] n ⟨mkT 18 [(0, .s (.c (.p (PV.int .i64 wide)))), (7, .s (.c (.p (PV.row 0 0 t7)))), (8, .s (.c (.p (PV.int .i64 t8)))), (9, .s (.c (.p (PV.int .i64 t9))))], []⟩
/-! 180 : spec.l7Do -/
def c180 (k : Nat) (p p1 : Int) (p2 p3 qs : List PV) (k1 : Int) : R := evF P E T k 180 [.s (.c (.p (PV.agg [.int .i64 p, .int .i64 p1, .row 2 0 p2, .row 2 0 p3]))), .s (.c (.p (PV.row 0 0 qs))), .s (.c (.p (PV.int .i64 k1)))] []
def r180 (l : List PV) : R := some ([.c (.p (PV.row 0 0 l))], [])
def R180 (x0 : R) (K0 : List PV → R) : R := x0.bind fun q0 => bif lensB q0.2 [] && lensS q0.1 [.c (.p (.row 0))] then (cRow (resAt q0.1 0) 0).bind fun l => K0 l else none
@[simp] theorem R180_r (l : List PV) (K0 : List PV → R) : R180 (r180 l) K0 = K0 l := by kernel_rfl
def L180_1 (k n : Nat) (qs : List PV) (outLen : Nat) (t18 : List PV) (t19 t20 n1 n11 : Int) (l l1 xs : List PV) : R := evLoopAt P E T k 180 [] [1, 1, 0, 1, 0] [] n ⟨mkT 40 [(1, .s (.c (.p (PV.row 0 0 qs)))), (3, .s (.c (.bptr 0 0))), (7, .s (.c (.loc 1 0 0 0 outLen))), (18, .s (.c (.p (PV.row 2 0 t18)))), (19, .s (.c (.p (PV.int .i64 t19)))), (20, .s (.c (.p (PV.int .i64 t20))))], [.box [.p (PV.int .i64 n1), .p (PV.int .i64 n11), .p (PV.row 2 0 l), .p (PV.row 2 0 l1)], .arr 51 0 0 false xs]⟩
/-! 181 : impl.Command] -/
def c181 (k : Nat) (qs : List PV) (n1 n11 : Int) (l l1 : List PV) : R := evF P E T k 181 [.s (.c (.p (PV.row 2 0 qs))), .s (.c (.fn 130 [0]))] [[.p (PV.int .i64 n1), .p (PV.int .i64 n11), .p (PV.row 2 0 l), .p (PV.row 2 0 l1)]]
def r181 (qr qr1 : Int) (l l1 : List PV) (qr2 : Int) : R := some ([.c (.p (PV.int .i64 qr2))], [[.p (PV.int .i64 qr), .p (PV.int .i64 qr1), .p (PV.row 2 0 l), .p (PV.row 2 0 l1)]])
def R181 (x0 : R) (K0 : Int → Int → List PV → List PV → Int → R) : R := x0.bind fun q0 => bif lensB q0.2 [[.p (.int .i64), .p (.int .i64), .p (.row 2), .p (.row 2)]] && lensS q0.1 [.c (.p (.int .i64))] then (cInt (cellAt q0.2 0 0) .i64).bind fun qr => (cInt (cellAt q0.2 0 1) .i64).bind fun qr1 => (cRow (cellAt q0.2 0 2) 2).bind fun l => (cRow (cellAt q0.2 0 3) 2).bind fun l1 => (cInt (resAt q0.1 0) .i64).bind fun qr2 => K0 qr qr1 l l1 qr2 else none
@[simp] theorem R181_r (qr qr1 : Int) (l l1 : List PV) (qr2 : Int) (K0 : Int → Int → List PV → List PV → Int → R) : R181 (r181 qr qr1 l l1 qr2) K0 = K0 qr qr1 l l1 qr2 := by kernel_rfl
def L181_1 (k n : Nat) (qs : List PV) (t7 t8 n1 n11 : Int) (l l1 : List PV) : R := evLoopAt P E T k 181 [4] [1, 0, 1, 0] [] n ⟨mkT 19 [(0, .s (.c (.p (PV.row 2 0 qs)))), (1, .s (.c (.fn 130 [0]))), (7, .s (.c (.p (PV.int .i64 t7)))), (8, .s (.c (.p (PV.int .i64 t8))))], [.box [.p (PV.int .i64 n1), .p (PV.int .i64 n11), .p (PV.row 2 0 l), .p (PV.row 2 0 l1)]]⟩
/-! 182 : spec.l2Value -/
def c182 (k : Nat) (wide : Int) (t : List PV) (k1 : Int) (state : List PV) : R := evF P E T k 182 [.s (.c (.p (PV.int .i64 wide))), .s (.c (.p (PV.row 2 0 t))), .s (.c (.p (PV.int .i64 k1))), .s (.c (.p (PV.row 0 0 state)))] []
def r182 (qr : Int) : R := some ([.c (.p (PV.int .u64 qr))], [])
def R182 (x0 : R) (K0 : Int → R) : R := x0.bind fun q0 => bif lensB q0.2 [] && lensS q0.1 [.c (.p (.int .u64))] then (cInt (resAt q0.1 0) .u64).bind fun qr => K0 qr else none
@[simp] theorem R182_r (qr : Int) (K0 : Int → R) : R182 (r182 qr) K0 = K0 qr := by kernel_rfl
/-! 185 : spec.l2Need -/
def c185 (k : Nat) (op : Int) : R := evF P E T k 185 [.s (.c (.p (PV.int .i64 op)))] []
def r185 (qr qr1 qr2 : Int) : R := some ([.c (.p (PV.int .i64 qr)), .c (.p (PV.int .i64 qr1)), .c (.p (PV.int .i64 qr2))], [])
def R185 (x0 : R) (K0 : Int → Int → Int → R) : R := x0.bind fun q0 => bif lensB q0.2 [] && lensS q0.1 [.c (.p (.int .i64)), .c (.p (.int .i64)), .c (.p (.int .i64))] then (cInt (resAt q0.1 0) .i64).bind fun qr => (cInt (resAt q0.1 1) .i64).bind fun qr1 => (cInt (resAt q0.1 2) .i64).bind fun qr2 => K0 qr qr1 qr2 else none
@[simp] theorem R185_r (qr qr1 qr2 : Int) (K0 : Int → Int → Int → R) : R185 (r185 qr qr1 qr2) K0 = K0 qr qr1 qr2 := by kernel_rfl
/-! 187 : spec.l1Cur).command -/
def c187 (k : Nat) (wide vars : Int) (l : List PV) (n1 n11 : Int) : R := evF P E T k 187 [.s (.c (.bptr 0 0)), .s (.c (.p (PV.int .i64 wide))), .s (.c (.p (PV.int .i64 vars)))] [[.p (PV.row 0 0 l), .p (PV.int .i64 n1), .p (PV.int .u64 n11)]]
def r187 (l : List PV) (qr qr1 : Int) (l1 l2 : List PV) : R := some ([.agg [.p (PV.row 2 0 l1), .own 126 2 l2]], [[.p (PV.row 0 0 l), .p (PV.int .i64 qr), .p (PV.int .u64 qr1)]])
def R187 (x0 : R) (K0 : List PV → Int → Int → List PV → List PV → R) : R := x0.bind fun q0 => bif lensB q0.2 [[.p (.row 0), .p (.int .i64), .p (.int .u64)]] && lensS q0.1 [.agg [.p (.row 2), .own 126 2]] then (cRow (cellAt q0.2 0 0) 0).bind fun l => (cInt (cellAt q0.2 0 1) .i64).bind fun qr => (cInt (cellAt q0.2 0 2) .u64).bind fun qr1 => (cRow (Dp.partAt q0.1 0 0) 2).bind fun l1 => (asOwn 126 2 (Dp.partAt q0.1 0 1)).bind fun l2 => K0 l qr qr1 l1 l2 else none
@[simp] theorem R187_r (l : List PV) (qr qr1 : Int) (l1 l2 : List PV) (K0 : List PV → Int → Int → List PV → List PV → R) : R187 (r187 l qr qr1 l1 l2) K0 = K0 l qr qr1 l1 l2 := by kernel_rfl
def L187_1 (k n : Nat) (wide vars v : Int) (l : List PV) (n1 n11 : Int) (l1 l2 : List PV) (Len Len1 : Nat) (xs xs1 : List PV) : R := evLoopAt P E T k 187 [3] [1, 1, 0, 1, 0] [] n ⟨mkT 35 [(0, .s (.c (.bptr 0 0))), (1, .s (.c (.p (PV.int .i64 wide)))), (2, .s (.c (.p (PV.int .i64 vars)))), (6, .s (.c (.bptr 1 0))), (7, .s (.c (.bptr 2 0))), (8, .s (.c (.p (PV.int .i64 v))))], [.box [.p (PV.row 0 0 l), .p (PV.int .i64 n1), .p (PV.int .u64 n11)], .box [.p (PV.row 2 0 l1), .p (PV.row 2 0 l2)], .box [.loc 3 0 2 0 Len, .loc 4 0 2 0 Len1], .arr 113 2 0 false xs, .arr 126 2 0 false xs1]⟩
/-! 188 : spec.l1Cur).number -/
def c188 (k : Nat) (wide vars deep : Int) (l : List PV) (n1 n11 : Int) : R := evF P E T k 188 [.s (.c (.bptr 0 0)), .s (.c (.p (PV.int .i64 wide))), .s (.c (.p (PV.int .i64 vars))), .s (.c (.p (PV.int .i64 deep)))] [[.p (PV.row 0 0 l), .p (PV.int .i64 n1), .p (PV.int .u64 n11)]]
def r188 (l : List PV) (qr qr1 : Int) (l1 : List PV) : R := some ([.c (.own 113 2 l1)], [[.p (PV.row 0 0 l), .p (PV.int .i64 qr), .p (PV.int .u64 qr1)]])
def R188 (x0 : R) (K0 : List PV → Int → Int → List PV → R) : R := x0.bind fun q0 => bif lensB q0.2 [[.p (.row 0), .p (.int .i64), .p (.int .u64)]] && lensS q0.1 [.c (.own 113 2)] then (cRow (cellAt q0.2 0 0) 0).bind fun l => (cInt (cellAt q0.2 0 1) .i64).bind fun qr => (cInt (cellAt q0.2 0 2) .u64).bind fun qr1 => (asOwn 113 2 (resAt q0.1 0)).bind fun l1 => K0 l qr qr1 l1 else none
@[simp] theorem R188_r (l : List PV) (qr qr1 : Int) (l1 : List PV) (K0 : List PV → Int → Int → List PV → R) : R188 (r188 l qr qr1 l1) K0 = K0 l qr qr1 l1 := by kernel_rfl
/-! 189 : spec.l1Wide -/
def c189 (k : Nat) (wide : Int) : R := evF P E T k 189 [.s (.c (.p (PV.int .i64 wide)))] []
def r189 (b : Bool) : R := some ([.c (.p (PV.bool b))], [])
def R189 (x0 : R) (K0 : Bool → R) : R := x0.bind fun q0 => bif lensB q0.2 [] && lensS q0.1 [.c (.p (.bool))] then (cBool (resAt q0.1 0)).bind fun b => K0 b else none
@[simp] theorem R189_r (b : Bool) (K0 : Bool → R) : R189 (r189 b) K0 = K0 b := by kernel_rfl
/-! 190 : spec.l2N -/
def c190 (k : Nat) (wide vars n1 n11 : Int) : R := evF P E T k 190 [.s (.c (.p (PV.int .i64 wide))), .s (.c (.p (PV.int .i64 vars))), .s (.c (.p (PV.agg [.int .i64 n1, .int .u64 n11])))] []
def r190 (b : Bool) : R := some ([.c (.p (PV.bool b))], [])
def R190 (x0 : R) (K0 : Bool → R) : R := x0.bind fun q0 => bif lensB q0.2 [] && lensS q0.1 [.c (.p (.bool))] then (cBool (resAt q0.1 0)).bind fun b => K0 b else none
@[simp] theorem R190_r (b : Bool) (K0 : Bool → R) : R190 (r190 b) K0 = K0 b := by kernel_rfl
/-! 194 : impl.GoodWord -/
def c194 (k : Nat) (wide a : Int) : R := evF P E T k 194 [.s (.c (.p (PV.int .i64 wide))), .s (.c (.p (PV.int .u64 a)))] []
def r194 (b : Bool) : R := some ([.c (.p (PV.bool b))], [])
def R194 (x0 : R) (K0 : Bool → R) : R := x0.bind fun q0 => bif lensB q0.2 [] && lensS q0.1 [.c (.p (.bool))] then (cBool (resAt q0.1 0)).bind fun b => K0 b else none
@[simp] theorem R194_r (b : Bool) (K0 : Bool → R) : R194 (r194 b) K0 = K0 b := by kernel_rfl
/-! 205 : bits.Len64 -/
def c205 (k : Nat) (x : Int) : R := evF P E T k 205 [.s (.c (.p (PV.int .u64 x)))] []
def r205 (qr : Int) : R := some ([.c (.p (PV.int .i64 qr))], [])
def R205 (x0 : R) (K0 : Int → R) : R := x0.bind fun q0 => bif lensB q0.2 [] && lensS q0.1 [.c (.p (.int .i64))] then (cInt (resAt q0.1 0) .i64).bind fun qr => K0 qr else none
@[simp] theorem R205_r (qr : Int) (K0 : Int → R) : R205 (r205 qr) K0 = K0 qr := by kernel_rfl
/-! 206 : slices.ContainsFunc[[]uint64,uint64] -/
def c206 (k : Nat) (qs : List PV) (n1 : Int) : R := evF P E T k 206 [.s (.c (.p (PV.row 0 0 qs))), .s (.c (.fn 207 [0]))] [[.p (PV.int .i64 n1)]]
def r206 (qr : Int) (b : Bool) : R := some ([.c (.p (PV.bool b))], [[.p (PV.int .i64 qr)]])
def R206 (x0 : R) (K0 : Int → Bool → R) : R := x0.bind fun q0 => bif lensB q0.2 [[.p (.int .i64)]] && lensS q0.1 [.c (.p (.bool))] then (cInt (cellAt q0.2 0 0) .i64).bind fun qr => (cBool (resAt q0.1 0)).bind fun b => K0 qr b else none
@[simp] theorem R206_r (qr : Int) (b : Bool) (K0 : Int → Bool → R) : R206 (r206 qr b) K0 = K0 qr b := by kernel_rfl
/-! 207 : impl.isState$1 -/
def c207 (k : Nat) (a n1 : Int) : R := evF P E T k 207 [.s (.c (.p (PV.int .u64 a))), .s (.c (.bptr 0 0))] [[.p (PV.int .i64 n1)]]
def r207 (qr : Int) (b : Bool) : R := some ([.c (.p (PV.bool b))], [[.p (PV.int .i64 qr)]])
def R207 (x0 : R) (K0 : Int → Bool → R) : R := x0.bind fun q0 => bif lensB q0.2 [[.p (.int .i64)]] && lensS q0.1 [.c (.p (.bool))] then (cInt (cellAt q0.2 0 0) .i64).bind fun qr => (cBool (resAt q0.1 0)).bind fun b => K0 qr b else none
@[simp] theorem R207_r (qr : Int) (b : Bool) (K0 : Int → Bool → R) : R207 (r207 qr b) K0 = K0 qr b := by kernel_rfl
/-! 208 : impl.apply -/
def c208 (k : Nat) (wide op a b : Int) : R := evF P E T k 208 [.s (.c (.p (PV.int .i64 wide))), .s (.c (.p (PV.int .i64 op))), .s (.c (.p (PV.int .u64 a))), .s (.c (.p (PV.int .u64 b)))] []
def r208 (qr : Int) : R := some ([.c (.p (PV.int .u64 qr))], [])
def R208 (x0 : R) (K0 : Int → R) : R := x0.bind fun q0 => bif lensB q0.2 [] && lensS q0.1 [.c (.p (.int .u64))] then (cInt (resAt q0.1 0) .u64).bind fun qr => K0 qr else none
@[simp] theorem R208_r (qr : Int) (K0 : Int → R) : R208 (r208 qr) K0 = K0 qr := by kernel_rfl
/-! 209 : spec.l1Cur).word -/
def c209 (k : Nat) (wide : Int) (l : List PV) (n1 n11 : Int) : R := evF P E T k 209 [.s (.c (.bptr 0 0)), .s (.c (.p (PV.int .i64 wide)))] [[.p (PV.row 0 0 l), .p (PV.int .i64 n1), .p (PV.int .u64 n11)]]
def r209 (l : List PV) (qr qr1 qr2 : Int) : R := some ([.c (.p (PV.int .u64 qr2))], [[.p (PV.row 0 0 l), .p (PV.int .i64 qr), .p (PV.int .u64 qr1)]])
def R209 (x0 : R) (K0 : List PV → Int → Int → Int → R) : R := x0.bind fun q0 => bif lensB q0.2 [[.p (.row 0), .p (.int .i64), .p (.int .u64)]] && lensS q0.1 [.c (.p (.int .u64))] then (cRow (cellAt q0.2 0 0) 0).bind fun l => (cInt (cellAt q0.2 0 1) .i64).bind fun qr => (cInt (cellAt q0.2 0 2) .u64).bind fun qr1 => (cInt (resAt q0.1 0) .u64).bind fun qr2 => K0 l qr qr1 qr2 else none
@[simp] theorem R209_r (l : List PV) (qr qr1 qr2 : Int) (K0 : List PV → Int → Int → Int → R) : R209 (r209 l qr qr1 qr2) K0 = K0 l qr qr1 qr2 := by kernel_rfl
/-! 210 : spec.GoodWord -/
def c210 (k : Nat) (wide a : Int) : R := evF P E T k 210 [.s (.c (.p (PV.int .i64 wide))), .s (.c (.p (PV.int .u64 a)))] []
def r210 (b : Bool) : R := some ([.c (.p (PV.bool b))], [])
def R210 (x0 : R) (K0 : Bool → R) : R := x0.bind fun q0 => bif lensB q0.2 [] && lensS q0.1 [.c (.p (.bool))] then (cBool (resAt q0.1 0)).bind fun b => K0 b else none
@[simp] theorem R210_r (b : Bool) (K0 : Bool → R) : R210 (r210 b) K0 = K0 b := by kernel_rfl
/-! 211 : spec.l1Cut -/
def c211 (k : Nat) (wide a : Int) : R := evF P E T k 211 [.s (.c (.p (PV.int .i64 wide))), .s (.c (.p (PV.int .u64 a)))] []
def r211 (qr : Int) : R := some ([.c (.p (PV.int .u64 qr))], [])
def R211 (x0 : R) (K0 : Int → R) : R := x0.bind fun q0 => bif lensB q0.2 [] && lensS q0.1 [.c (.p (.int .u64))] then (cInt (resAt q0.1 0) .u64).bind fun qr => K0 qr else none
@[simp] theorem R211_r (qr : Int) (K0 : Int → R) : R211 (r211 qr) K0 = K0 qr := by kernel_rfl
def L211_1 (k n : Nat) (wide a out k1 : Int) : R := evLoopAt P E T k 211 [] [1, 1, 0, 1, 0] [] n ⟨mkT 20 [(0, .s (.c (.p (PV.int .i64 wide)))), (1, .s (.c (.p (PV.int .u64 a)))), (5, .s (.c (.p (PV.int .u64 out)))), (6, .s (.c (.p (PV.int .i64 k1))))], []⟩
/-! 212 : spec.l2Do -/
def c212 (k : Nat) (wide op a b : Int) : R := evF P E T k 212 [.s (.c (.p (PV.int .i64 wide))), .s (.c (.p (PV.int .i64 op))), .s (.c (.p (PV.int .u64 a))), .s (.c (.p (PV.int .u64 b)))] []
def r212 (qr : Int) : R := some ([.c (.p (PV.int .u64 qr))], [])
def R212 (x0 : R) (K0 : Int → R) : R := x0.bind fun q0 => bif lensB q0.2 [] && lensS q0.1 [.c (.p (.int .u64))] then (cInt (resAt q0.1 0) .u64).bind fun qr => K0 qr else none
@[simp] theorem R212_r (qr : Int) (K0 : Int → R) : R212 (r212 qr) K0 = K0 qr := by kernel_rfl
/-! 213 : spec.l2From -/
def c213 (k : Nat) (t : List PV) (k1 : Int) : R := evF P E T k 213 [.s (.c (.p (PV.row 2 0 t))), .s (.c (.p (PV.int .i64 k1)))] []
def r213 (qr : Int) : R := some ([.c (.p (PV.int .i64 qr))], [])
def R213 (x0 : R) (K0 : Int → R) : R := x0.bind fun q0 => bif lensB q0.2 [] && lensS q0.1 [.c (.p (.int .i64))] then (cInt (resAt q0.1 0) .i64).bind fun qr => K0 qr else none
@[simp] theorem R213_r (qr : Int) (K0 : Int → R) : R213 (r213 qr) K0 = K0 qr := by kernel_rfl
def L213_1 (k n : Nat) (t : List PV) (many from1 : Int) : R := evLoopAt P E T k 213 [] [1, 1, 1, 0, 0] [] n ⟨mkT 29 [(0, .s (.c (.p (PV.row 2 0 t)))), (5, .s (.c (.p (PV.int .i64 many)))), (8, .s (.c (.p (PV.int .i64 from1))))], []⟩
/-! 221 : slices.IndexFunc[[]uint64,uint64] -/
def c221 (k : Nat) (qs : List PV) (n1 : Int) : R := evF P E T k 221 [.s (.c (.p (PV.row 0 0 qs))), .s (.c (.fn 207 [0]))] [[.p (PV.int .i64 n1)]]
def r221 (qr qr1 : Int) : R := some ([.c (.p (PV.int .i64 qr1))], [[.p (PV.int .i64 qr)]])
def R221 (x0 : R) (K0 : Int → Int → R) : R := x0.bind fun q0 => bif lensB q0.2 [[.p (.int .i64)]] && lensS q0.1 [.c (.p (.int .i64))] then (cInt (cellAt q0.2 0 0) .i64).bind fun qr => (cInt (resAt q0.1 0) .i64).bind fun qr1 => K0 qr qr1 else none
@[simp] theorem R221_r (qr qr1 : Int) (K0 : Int → Int → R) : R221 (r221 qr qr1) K0 = K0 qr qr1 := by kernel_rfl
def L221_1 (k n : Nat) (qs : List PV) (t7 t8 n1 : Int) : R := evLoopAt P E T k 221 [1] [1, 0, 1, 0] [] n ⟨mkT 19 [(0, .s (.c (.p (PV.row 0 0 qs)))), (1, .s (.c (.fn 207 [0]))), (7, .s (.c (.p (PV.int .i64 t7)))), (8, .s (.c (.p (PV.int .i64 t8))))], [.box [.p (PV.int .i64 n1)]]⟩
/-! 222 : impl.DivWord -/
def c222 (k : Nat) (wide a b : Int) : R := evF P E T k 222 [.s (.c (.p (PV.int .i64 wide))), .s (.c (.p (PV.int .u64 a))), .s (.c (.p (PV.int .u64 b)))] []
def r222 (qr qr1 : Int) (b : Bool) : R := some ([.c (.p (PV.int .u64 qr)), .c (.p (PV.int .u64 qr1)), .c (.p (PV.bool b))], [])
def R222 (x0 : R) (K0 : Int → Int → Bool → R) : R := x0.bind fun q0 => bif lensB q0.2 [] && lensS q0.1 [.c (.p (.int .u64)), .c (.p (.int .u64)), .c (.p (.bool))] then (cInt (resAt q0.1 0) .u64).bind fun qr => (cInt (resAt q0.1 1) .u64).bind fun qr1 => (cBool (resAt q0.1 2)).bind fun b => K0 qr qr1 b else none
@[simp] theorem R222_r (qr qr1 : Int) (b : Bool) (K0 : Int → Int → Bool → R) : R222 (r222 qr qr1 b) K0 = K0 qr qr1 b := by kernel_rfl
/-! 223 : impl.shift -/
def c223 (k : Nat) (wide a by1 : Int) (left : Bool) : R := evF P E T k 223 [.s (.c (.p (PV.int .i64 wide))), .s (.c (.p (PV.int .u64 a))), .s (.c (.p (PV.int .u64 by1))), .s (.c (.p (PV.bool left)))] []
def r223 (qr : Int) : R := some ([.c (.p (PV.int .u64 qr))], [])
def R223 (x0 : R) (K0 : Int → R) : R := x0.bind fun q0 => bif lensB q0.2 [] && lensS q0.1 [.c (.p (.int .u64))] then (cInt (resAt q0.1 0) .u64).bind fun qr => K0 qr else none
@[simp] theorem R223_r (qr : Int) (K0 : Int → R) : R223 (r223 qr) K0 = K0 qr := by kernel_rfl
/-! 224 : impl.truth -/
def c224 (k : Nat) (holds : Bool) : R := evF P E T k 224 [.s (.c (.p (PV.bool holds)))] []
def r224 (qr : Int) : R := some ([.c (.p (PV.int .u64 qr))], [])
def R224 (x0 : R) (K0 : Int → R) : R := x0.bind fun q0 => bif lensB q0.2 [] && lensS q0.1 [.c (.p (.int .u64))] then (cInt (resAt q0.1 0) .u64).bind fun qr => K0 qr else none
@[simp] theorem R224_r (qr : Int) (K0 : Int → R) : R224 (r224 qr) K0 = K0 qr := by kernel_rfl
/-! 225 : impl.signed -/
def c225 (k : Nat) (wide a : Int) : R := evF P E T k 225 [.s (.c (.p (PV.int .i64 wide))), .s (.c (.p (PV.int .u64 a)))] []
def r225 (qr : Int) : R := some ([.c (.p (PV.int .i64 qr))], [])
def R225 (x0 : R) (K0 : Int → R) : R := x0.bind fun q0 => bif lensB q0.2 [] && lensS q0.1 [.c (.p (.int .i64))] then (cInt (resAt q0.1 0) .i64).bind fun qr => K0 qr else none
@[simp] theorem R225_r (qr : Int) (K0 : Int → R) : R225 (r225 qr) K0 = K0 qr := by kernel_rfl
/-! 226 : spec.l1Cur).long -/
def c226 (k : Nat) (l : List PV) (n1 n11 : Int) : R := evF P E T k 226 [.s (.c (.bptr 0 0))] [[.p (PV.row 0 0 l), .p (PV.int .i64 n1), .p (PV.int .u64 n11)]]
def r226 (l : List PV) (qr qr1 qr2 : Int) : R := some ([.c (.p (PV.int .u64 qr2))], [[.p (PV.row 0 0 l), .p (PV.int .i64 qr), .p (PV.int .u64 qr1)]])
def R226 (x0 : R) (K0 : List PV → Int → Int → Int → R) : R := x0.bind fun q0 => bif lensB q0.2 [[.p (.row 0), .p (.int .i64), .p (.int .u64)]] && lensS q0.1 [.c (.p (.int .u64))] then (cRow (cellAt q0.2 0 0) 0).bind fun l => (cInt (cellAt q0.2 0 1) .i64).bind fun qr => (cInt (cellAt q0.2 0 2) .u64).bind fun qr1 => (cInt (resAt q0.1 0) .u64).bind fun qr2 => K0 l qr qr1 qr2 else none
@[simp] theorem R226_r (l : List PV) (qr qr1 qr2 : Int) (K0 : List PV → Int → Int → Int → R) : R226 (r226 l qr qr1 qr2) K0 = K0 l qr qr1 qr2 := by kernel_rfl
def L226_1 (k n : Nat) (n1 i : Int) (l : List PV) (n11 n12 : Int) : R := evLoopAt P E T k 226 [3] [1, 1, 0, 1, 0] [] n ⟨mkT 16 [(0, .s (.c (.bptr 0 0))), (3, .s (.c (.p (PV.int .u64 n1)))), (4, .s (.c (.p (PV.int .i64 i))))], [.box [.p (PV.row 0 0 l), .p (PV.int .i64 n11), .p (PV.int .u64 n12)]]⟩
/-! 227 : spec.DivWord -/
def c227 (k : Nat) (wide a b : Int) : R := evF P E T k 227 [.s (.c (.p (PV.int .i64 wide))), .s (.c (.p (PV.int .u64 a))), .s (.c (.p (PV.int .u64 b)))] []
def r227 (qr qr1 : Int) (b : Bool) : R := some ([.c (.p (PV.int .u64 qr)), .c (.p (PV.int .u64 qr1)), .c (.p (PV.bool b))], [])
def R227 (x0 : R) (K0 : Int → Int → Bool → R) : R := x0.bind fun q0 => bif lensB q0.2 [] && lensS q0.1 [.c (.p (.int .u64)), .c (.p (.int .u64)), .c (.p (.bool))] then (cInt (resAt q0.1 0) .u64).bind fun qr => (cInt (resAt q0.1 1) .u64).bind fun qr1 => (cBool (resAt q0.1 2)).bind fun b => K0 qr qr1 b else none
@[simp] theorem R227_r (qr qr1 : Int) (b : Bool) (K0 : Int → Int → Bool → R) : R227 (r227 qr qr1 b) K0 = K0 qr qr1 b := by kernel_rfl
/-! 228 : spec.l1Shift -/
def c228 (k : Nat) (wide a by1 : Int) (left : Bool) : R := evF P E T k 228 [.s (.c (.p (PV.int .i64 wide))), .s (.c (.p (PV.int .u64 a))), .s (.c (.p (PV.int .u64 by1))), .s (.c (.p (PV.bool left)))] []
def r228 (qr : Int) : R := some ([.c (.p (PV.int .u64 qr))], [])
def R228 (x0 : R) (K0 : Int → R) : R := x0.bind fun q0 => bif lensB q0.2 [] && lensS q0.1 [.c (.p (.int .u64))] then (cInt (resAt q0.1 0) .u64).bind fun qr => K0 qr else none
@[simp] theorem R228_r (qr : Int) (K0 : Int → R) : R228 (r228 qr) K0 = K0 qr := by kernel_rfl
def L228_1 (k n : Nat) (wide a by1 : Int) (left : Bool) : R := evLoopAt P E T k 228 [] [1, 1, 0, 0] [] n ⟨mkT 25 [(0, .s (.c (.p (PV.int .i64 wide)))), (1, .s (.c (.p (PV.int .u64 a)))), (2, .s (.c (.p (PV.int .u64 by1)))), (3, .s (.c (.p (PV.bool left))))], []⟩
/-! 229 : spec.l2Bool -/
def c229 (k : Nat) (is1 : Bool) : R := evF P E T k 229 [.s (.c (.p (PV.bool is1)))] []
def r229 (qr : Int) : R := some ([.c (.p (PV.int .u64 qr))], [])
def R229 (x0 : R) (K0 : Int → R) : R := x0.bind fun q0 => bif lensB q0.2 [] && lensS q0.1 [.c (.p (.int .u64))] then (cInt (resAt q0.1 0) .u64).bind fun qr => K0 qr else none
@[simp] theorem R229_r (qr : Int) (K0 : Int → R) : R229 (r229 qr) K0 = K0 qr := by kernel_rfl
/-! 230 : spec.l1Signed -/
def c230 (k : Nat) (wide a : Int) : R := evF P E T k 230 [.s (.c (.p (PV.int .i64 wide))), .s (.c (.p (PV.int .u64 a)))] []
def r230 (qr : Int) : R := some ([.c (.p (PV.int .i64 qr))], [])
def R230 (x0 : R) (K0 : Int → R) : R := x0.bind fun q0 => bif lensB q0.2 [] && lensS q0.1 [.c (.p (.int .i64))] then (cInt (resAt q0.1 0) .i64).bind fun qr => K0 qr else none
@[simp] theorem R230_r (qr : Int) (K0 : Int → R) : R230 (r230 qr) K0 = K0 qr := by kernel_rfl
/-! 232 : impl.areWords -/
def c232 (k : Nat) (wide a b : Int) : R := evF P E T k 232 [.s (.c (.p (PV.int .i64 wide))), .s (.c (.p (PV.int .u64 a))), .s (.c (.p (PV.int .u64 b)))] []
def r232 (b : Bool) : R := some ([.c (.p (PV.bool b))], [])
def R232 (x0 : R) (K0 : Bool → R) : R := x0.bind fun q0 => bif lensB q0.2 [] && lensS q0.1 [.c (.p (.bool))] then (cBool (resAt q0.1 0)).bind fun b => K0 b else none
@[simp] theorem R232_r (b : Bool) (K0 : Bool → R) : R232 (r232 b) K0 = K0 b := by kernel_rfl
/-! 233 : bits.Div64 -/
def c233 (k : Nat) (hi lo y : Int) : R := evF P E T k 233 [.s (.c (.p (PV.int .u64 hi))), .s (.c (.p (PV.int .u64 lo))), .s (.c (.p (PV.int .u64 y)))] []
def r233 (qr qr1 : Int) : R := some ([.c (.p (PV.int .u64 qr)), .c (.p (PV.int .u64 qr1))], [])
def R233 (x0 : R) (K0 : Int → Int → R) : R := x0.bind fun q0 => bif lensB q0.2 [] && lensS q0.1 [.c (.p (.int .u64)), .c (.p (.int .u64))] then (cInt (resAt q0.1 0) .u64).bind fun qr => (cInt (resAt q0.1 1) .u64).bind fun qr1 => K0 qr qr1 else none
@[simp] theorem R233_r (qr qr1 : Int) (K0 : Int → Int → R) : R233 (r233 qr qr1) K0 = K0 qr qr1 := by kernel_rfl
def L233_1 (k n : Nat) (y qs yn1 yn0 un32 un1 un0 q1 rhat : Int) : R := evLoopAt P E T k 233 [] [1, 1, 1, 1, 1, 1, 1, 1, 1, 1, 1, 1, 1, 1, 0, 0] [] n ⟨mkT 135 [(2, .s (.c (.p (PV.int .u64 y)))), (8, .s (.c (.p (PV.int .u64 qs)))), (9, .s (.c (.p (PV.int .u64 yn1)))), (10, .s (.c (.p (PV.int .u64 yn0)))), (11, .s (.c (.p (PV.int .u64 un32)))), (13, .s (.c (.p (PV.int .u64 un1)))), (14, .s (.c (.p (PV.int .u64 un0)))), (15, .s (.c (.p (PV.int .u64 q1)))), (16, .s (.c (.p (PV.int .u64 rhat))))], []⟩
def L233_2 (k n : Nat) (y qs yn1 yn0 un0 q1 rhat un21 q0 : Int) : R := evLoopAt P E T k 233 [] [1, 1, 1, 1, 1, 1, 1, 1, 1, 1, 1, 1, 1, 1, 1, 1, 1, 1, 0, 0] [] n ⟨mkT 135 [(2, .s (.c (.p (PV.int .u64 y)))), (8, .s (.c (.p (PV.int .u64 qs)))), (9, .s (.c (.p (PV.int .u64 yn1)))), (10, .s (.c (.p (PV.int .u64 yn0)))), (14, .s (.c (.p (PV.int .u64 un0)))), (15, .s (.c (.p (PV.int .u64 q1)))), (16, .s (.c (.p (PV.int .u64 rhat)))), (17, .s (.c (.p (PV.int .u64 un21)))), (18, .s (.c (.p (PV.int .u64 q0))))], []⟩
/-! 234 : spec.l1Both -/
def c234 (k : Nat) (wide a b : Int) : R := evF P E T k 234 [.s (.c (.p (PV.int .i64 wide))), .s (.c (.p (PV.int .u64 a))), .s (.c (.p (PV.int .u64 b)))] []
def r234 (b : Bool) : R := some ([.c (.p (PV.bool b))], [])
def R234 (x0 : R) (K0 : Bool → R) : R := x0.bind fun q0 => bif lensB q0.2 [] && lensS q0.1 [.c (.p (.bool))] then (cBool (resAt q0.1 0)).bind fun b => K0 b else none
@[simp] theorem R234_r (b : Bool) (K0 : Bool → R) : R234 (r234 b) K0 = K0 b := by kernel_rfl
/-! 235 : bits.LeadingZeros64 -/
def c235 (k : Nat) (x : Int) : R := evF P E T k 235 [.s (.c (.p (PV.int .u64 x)))] []
def r235 (qr : Int) : R := some ([.c (.p (PV.int .i64 qr))], [])
def R235 (x0 : R) (K0 : Int → R) : R := x0.bind fun q0 => bif lensB q0.2 [] && lensS q0.1 [.c (.p (.int .i64))] then (cInt (resAt q0.1 0) .i64).bind fun qr => K0 qr else none
@[simp] theorem R235_r (qr : Int) (K0 : Int → R) : R235 (r235 qr) K0 = K0 qr := by kernel_rfl
end
end Go.Proofs.YtnflnpjojbkgjaaGreat
