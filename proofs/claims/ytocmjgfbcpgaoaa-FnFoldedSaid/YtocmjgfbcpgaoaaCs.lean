/- Calls and loops of the program, by shape: printed by nf.py. -/
import Derived.Test.YtocmjgfbcpgaoaaEnv
set_option linter.unusedVariables false
namespace Go.Proofs.Ytocmjgfbcpgaoaa
open Go.Dp
noncomputable section
/-! 3 : laws.FnFolded -/
def c3 (k : Nat) (code more : List PV) : R := evF P E T k 3 [.s (.c (.p (PV.row 0 0 code))), .s (.c (.p (PV.row 0 0 more)))] []
def r3 (b : Bool) : R := some ([.c (.p (PV.bool b))], [])
def R3 (x0 : R) (K0 : Bool → R) : R := x0.bind fun q0 => bif lensB q0.2 [] && lensS q0.1 [.c (.p (.bool))] then (cBool (resAt q0.1 0)).bind fun b => K0 b else none
@[simp] theorem R3_r (b : Bool) (K0 : Bool → R) : R3 (r3 b) K0 = K0 b := by kernel_rfl
/-! 4 : laws.big -/
def c4 (k : Nat) (code more : List PV) : R := evF P E T k 4 [.s (.c (.p (PV.row 0 0 code))), .s (.c (.p (PV.row 0 0 more)))] []
def r4 (b : Bool) : R := some ([.c (.p (PV.bool b))], [])
def R4 (x0 : R) (K0 : Bool → R) : R := x0.bind fun q0 => bif lensB q0.2 [] && lensS q0.1 [.c (.p (.bool))] then (cBool (resAt q0.1 0)).bind fun b => K0 b else none
@[simp] theorem R4_r (b : Bool) (K0 : Bool → R) : R4 (r4 b) K0 = K0 b := by kernel_rfl
/-! 5 : spec.DrawValueOf -/
def c5 (k : Nat) (code : List PV) : R := evF P E T k 5 [.s (.c (.p (PV.row 0 0 code)))] []
def r5 (qr : Int) (l l1 : List PV) : R := some ([.c (.p (PV.int .i64 qr)), .c (.p (PV.row 2 0 l)), .c (.p (PV.row 0 0 l1))], [])
def R5 (x0 : R) (K0 : Int → List PV → List PV → R) : R := x0.bind fun q0 => bif lensB q0.2 [] && lensS q0.1 [.c (.p (.int .i64)), .c (.p (.row 2)), .c (.p (.row 0))] then (cInt (resAt q0.1 0) .i64).bind fun qr => (cRow (resAt q0.1 1) 2).bind fun l => (cRow (resAt q0.1 2) 0).bind fun l1 => K0 qr l l1 else none
@[simp] theorem R5_r (qr : Int) (l l1 : List PV) (K0 : Int → List PV → List PV → R) : R5 (r5 qr l l1) K0 = K0 qr l l1 := by kernel_rfl
/-! 6 : impl.ValueOf -/
def c6 (k : Nat) (wide : Int) (t state : List PV) : R := evF P E T k 6 [.s (.c (.p (PV.int .i64 wide))), .s (.c (.p (PV.row 2 0 t))), .s (.c (.p (PV.row 0 0 state)))] []
def r6 (qr : Int) (b : Bool) : R := some ([.c (.p (PV.int .u64 qr)), .c (.p (PV.bool b))], [])
def R6 (x0 : R) (K0 : Int → Bool → R) : R := x0.bind fun q0 => bif lensB q0.2 [] && lensS q0.1 [.c (.p (.int .u64)), .c (.p (.bool))] then (cInt (resAt q0.1 0) .u64).bind fun qr => (cBool (resAt q0.1 1)).bind fun b => K0 qr b else none
@[simp] theorem R6_r (qr : Int) (b : Bool) (K0 : Int → Bool → R) : R6 (r6 qr b) K0 = K0 qr b := by kernel_rfl
/-! 7 : spec.ValueOf -/
def c7 (k : Nat) (wide : Int) (t state : List PV) : R := evF P E T k 7 [.s (.c (.p (PV.int .i64 wide))), .s (.c (.p (PV.row 2 0 t))), .s (.c (.p (PV.row 0 0 state)))] []
def r7 (qr : Int) (b : Bool) : R := some ([.c (.p (PV.int .u64 qr)), .c (.p (PV.bool b))], [])
def R7 (x0 : R) (K0 : Int → Bool → R) : R := x0.bind fun q0 => bif lensB q0.2 [] && lensS q0.1 [.c (.p (.int .u64)), .c (.p (.bool))] then (cInt (resAt q0.1 0) .u64).bind fun qr => (cBool (resAt q0.1 1)).bind fun b => K0 qr b else none
@[simp] theorem R7_r (qr : Int) (b : Bool) (K0 : Int → Bool → R) : R7 (r7 qr b) K0 = K0 qr b := by kernel_rfl
/-! 8 : impl.FoldTerm -/
def c8 (k : Nat) (wide vars : Int) (t : List PV) : R := evF P E T k 8 [.s (.c (.p (PV.int .i64 wide))), .s (.c (.p (PV.int .i64 vars))), .s (.c (.p (PV.row 2 0 t)))] []
def r8 (l : List PV) (b : Bool) : R := some ([.c (.p (PV.row 2 0 l)), .c (.p (PV.bool b))], [])
def R8 (x0 : R) (K0 : List PV → Bool → R) : R := x0.bind fun q0 => bif lensB q0.2 [] && lensS q0.1 [.c (.p (.row 2)), .c (.p (.bool))] then (cRow (resAt q0.1 0) 2).bind fun l => (cBool (resAt q0.1 1)).bind fun b => K0 l b else none
@[simp] theorem R8_r (l : List PV) (b : Bool) (K0 : List PV → Bool → R) : R8 (r8 l b) K0 = K0 l b := by kernel_rfl
/-! 9 : spec.FoldTerm -/
def c9 (k : Nat) (wide vars : Int) (t : List PV) : R := evF P E T k 9 [.s (.c (.p (PV.int .i64 wide))), .s (.c (.p (PV.int .i64 vars))), .s (.c (.p (PV.row 2 0 t)))] []
def r9 (l : List PV) (b : Bool) : R := some ([.c (.p (PV.row 2 0 l)), .c (.p (PV.bool b))], [])
def R9 (x0 : R) (K0 : List PV → Bool → R) : R := x0.bind fun q0 => bif lensB q0.2 [] && lensS q0.1 [.c (.p (.row 2)), .c (.p (.bool))] then (cRow (resAt q0.1 0) 2).bind fun l => (cBool (resAt q0.1 1)).bind fun b => K0 l b else none
@[simp] theorem R9_r (l : List PV) (b : Bool) (K0 : List PV → Bool → R) : R9 (r9 l b) K0 = K0 l b := by kernel_rfl
/-! 10 : laws.sameNodes -/
def c10 (k : Nat) (a b : List PV) : R := evF P E T k 10 [.s (.c (.p (PV.row 2 0 a))), .s (.c (.p (PV.row 2 0 b)))] []
def r10 (b : Bool) : R := some ([.c (.p (PV.bool b))], [])
def R10 (x0 : R) (K0 : Bool → R) : R := x0.bind fun q0 => bif lensB q0.2 [] && lensS q0.1 [.c (.p (.bool))] then (cBool (resAt q0.1 0)).bind fun b => K0 b else none
@[simp] theorem R10_r (b : Bool) (K0 : Bool → R) : R10 (r10 b) K0 = K0 b := by kernel_rfl
def L10_1 (k n : Nat) (a b : List PV) (t12 t13 : Int) : R := evLoopAt P E T k 10 [] [1, 1, 0, 1, 0] [] n ⟨mkT 26 [(0, .s (.c (.p (PV.row 2 0 a)))), (1, .s (.c (.p (PV.row 2 0 b)))), (12, .s (.c (.p (PV.int .i64 t12)))), (13, .s (.c (.p (PV.int .i64 t13))))], []⟩
/-! 11 : impl.VarsIn -/
def c11 (k : Nat) (wide vars : Int) (t : List PV) : R := evF P E T k 11 [.s (.c (.p (PV.int .i64 wide))), .s (.c (.p (PV.int .i64 vars))), .s (.c (.p (PV.row 2 0 t)))] []
def r11 (l : List PV) (b : Bool) : R := some ([.c (.p (PV.row 0 0 l)), .c (.p (PV.bool b))], [])
def R11 (x0 : R) (K0 : List PV → Bool → R) : R := x0.bind fun q0 => bif lensB q0.2 [] && lensS q0.1 [.c (.p (.row 0)), .c (.p (.bool))] then (cRow (resAt q0.1 0) 0).bind fun l => (cBool (resAt q0.1 1)).bind fun b => K0 l b else none
@[simp] theorem R11_r (l : List PV) (b : Bool) (K0 : List PV → Bool → R) : R11 (r11 l b) K0 = K0 l b := by kernel_rfl
/-! 12 : impl.KindOf -/
def c12 (k : Nat) (wide vars : Int) (t : List PV) : R := evF P E T k 12 [.s (.c (.p (PV.int .i64 wide))), .s (.c (.p (PV.int .i64 vars))), .s (.c (.p (PV.row 2 0 t)))] []
def r12 (qr : Int) (b : Bool) : R := some ([.c (.p (PV.int .i64 qr)), .c (.p (PV.bool b))], [])
def R12 (x0 : R) (K0 : Int → Bool → R) : R := x0.bind fun q0 => bif lensB q0.2 [] && lensS q0.1 [.c (.p (.int .i64)), .c (.p (.bool))] then (cInt (resAt q0.1 0) .i64).bind fun qr => (cBool (resAt q0.1 1)).bind fun b => K0 qr b else none
@[simp] theorem R12_r (qr : Int) (b : Bool) (K0 : Int → Bool → R) : R12 (r12 qr b) K0 = K0 qr b := by kernel_rfl
/-! 13 : laws.sameInts -/
def c13 (k : Nat) (a b : List PV) : R := evF P E T k 13 [.s (.c (.p (PV.row 0 0 a))), .s (.c (.p (PV.row 0 0 b)))] []
def r13 (b : Bool) : R := some ([.c (.p (PV.bool b))], [])
def R13 (x0 : R) (K0 : Bool → R) : R := x0.bind fun q0 => bif lensB q0.2 [] && lensS q0.1 [.c (.p (.bool))] then (cBool (resAt q0.1 0)).bind fun b => K0 b else none
@[simp] theorem R13_r (b : Bool) (K0 : Bool → R) : R13 (r13 b) K0 = K0 b := by kernel_rfl
def L13_1 (k n : Nat) (a b : List PV) (t12 t13 : Int) : R := evLoopAt P E T k 13 [] [1, 1, 0, 1, 0] [] n ⟨mkT 26 [(0, .s (.c (.p (PV.row 0 0 a)))), (1, .s (.c (.p (PV.row 0 0 b)))), (12, .s (.c (.p (PV.int .i64 t12)))), (13, .s (.c (.p (PV.int .i64 t13))))], []⟩
/-! 14 : spec.DrawVarsIn -/
def c14 (k : Nat) (code : List PV) : R := evF P E T k 14 [.s (.c (.p (PV.row 0 0 code)))] []
def r14 (qr qr1 : Int) (l : List PV) : R := some ([.c (.p (PV.int .i64 qr)), .c (.p (PV.int .i64 qr1)), .c (.p (PV.row 2 0 l))], [])
def R14 (x0 : R) (K0 : Int → Int → List PV → R) : R := x0.bind fun q0 => bif lensB q0.2 [] && lensS q0.1 [.c (.p (.int .i64)), .c (.p (.int .i64)), .c (.p (.row 2))] then (cInt (resAt q0.1 0) .i64).bind fun qr => (cInt (resAt q0.1 1) .i64).bind fun qr1 => (cRow (resAt q0.1 2) 2).bind fun l => K0 qr qr1 l else none
@[simp] theorem R14_r (qr qr1 : Int) (l : List PV) (K0 : Int → Int → List PV → R) : R14 (r14 qr qr1 l) K0 = K0 qr qr1 l := by kernel_rfl
/-! 15 : spec.VarsIn -/
def c15 (k : Nat) (wide vars : Int) (t : List PV) : R := evF P E T k 15 [.s (.c (.p (PV.int .i64 wide))), .s (.c (.p (PV.int .i64 vars))), .s (.c (.p (PV.row 2 0 t)))] []
def r15 (l : List PV) (b : Bool) : R := some ([.c (.p (PV.row 0 0 l)), .c (.p (PV.bool b))], [])
def R15 (x0 : R) (K0 : List PV → Bool → R) : R := x0.bind fun q0 => bif lensB q0.2 [] && lensS q0.1 [.c (.p (.row 0)), .c (.p (.bool))] then (cRow (resAt q0.1 0) 0).bind fun l => (cBool (resAt q0.1 1)).bind fun b => K0 l b else none
@[simp] theorem R15_r (l : List PV) (b : Bool) (K0 : List PV → Bool → R) : R15 (r15 l b) K0 = K0 l b := by kernel_rfl
/-! 16 : spec.l1Cur).term -/
def c16 (k : Nat) (l : List PV) (n1 n11 : Int) : R := evF P E T k 16 [.s (.c (.bptr 0 0))] [[.p (PV.row 0 0 l), .p (PV.int .i64 n1), .p (PV.int .u64 n11)]]
def r16 (l : List PV) (qr qr1 qr2 qr3 : Int) (l1 : List PV) : R := some ([.c (.p (PV.int .i64 qr2)), .c (.p (PV.int .i64 qr3)), .c (.p (PV.row 2 0 l1))], [[.p (PV.row 0 0 l), .p (PV.int .i64 qr), .p (PV.int .u64 qr1)]])
def R16 (x0 : R) (K0 : List PV → Int → Int → Int → Int → List PV → R) : R := x0.bind fun q0 => bif lensB q0.2 [[.p (.row 0), .p (.int .i64), .p (.int .u64)]] && lensS q0.1 [.c (.p (.int .i64)), .c (.p (.int .i64)), .c (.p (.row 2))] then (cRow (cellAt q0.2 0 0) 0).bind fun l => (cInt (cellAt q0.2 0 1) .i64).bind fun qr => (cInt (cellAt q0.2 0 2) .u64).bind fun qr1 => (cInt (resAt q0.1 0) .i64).bind fun qr2 => (cInt (resAt q0.1 1) .i64).bind fun qr3 => (cRow (resAt q0.1 2) 2).bind fun l1 => K0 l qr qr1 qr2 qr3 l1 else none
@[simp] theorem R16_r (l : List PV) (qr qr1 qr2 qr3 : Int) (l1 : List PV) (K0 : List PV → Int → Int → Int → Int → List PV → R) : R16 (r16 l qr qr1 qr2 qr3 l1) K0 = K0 l qr qr1 qr2 qr3 l1 := by kernel_rfl
/-! 17 : spec.l1Cur).state -/
def c17 (k : Nat) (wide vars : Int) (l : List PV) (n1 n11 : Int) : R := evF P E T k 17 [.s (.c (.bptr 0 0)), .s (.c (.p (PV.int .i64 wide))), .s (.c (.p (PV.int .i64 vars)))] [[.p (PV.row 0 0 l), .p (PV.int .i64 n1), .p (PV.int .u64 n11)]]
def r17 (l : List PV) (qr qr1 : Int) (l1 : List PV) : R := some ([.c (.own 28 0 l1)], [[.p (PV.row 0 0 l), .p (PV.int .i64 qr), .p (PV.int .u64 qr1)]])
def R17 (x0 : R) (K0 : List PV → Int → Int → List PV → R) : R := x0.bind fun q0 => bif lensB q0.2 [[.p (.row 0), .p (.int .i64), .p (.int .u64)]] && lensS q0.1 [.c (.own 28 0)] then (cRow (cellAt q0.2 0 0) 0).bind fun l => (cInt (cellAt q0.2 0 1) .i64).bind fun qr => (cInt (cellAt q0.2 0 2) .u64).bind fun qr1 => (asOwn 28 0 (resAt q0.1 0)).bind fun l1 => K0 l qr qr1 l1 else none
@[simp] theorem R17_r (l : List PV) (qr qr1 : Int) (l1 : List PV) (K0 : List PV → Int → Int → List PV → R) : R17 (r17 l qr qr1 l1) K0 = K0 l qr qr1 l1 := by kernel_rfl
def L17_1 (k n : Nat) (wide vars : Int) (lLen : Nat) (k1 : Int) (l : List PV) (n1 n11 : Int) (xs : List PV) : R := evLoopAt P E T k 17 [3] [1, 1, 0, 1, 0] [] n ⟨mkT 21 [(0, .s (.c (.bptr 0 0))), (1, .s (.c (.p (PV.int .i64 wide)))), (2, .s (.c (.p (PV.int .i64 vars)))), (7, .s (.c (.loc 1 0 0 0 lLen))), (8, .s (.c (.p (PV.int .i64 k1))))], [.box [.p (PV.row 0 0 l), .p (PV.int .i64 n1), .p (PV.int .u64 n11)], .arr 28 0 0 false xs]⟩
/-! 18 : impl.isState -/
def c18 (k : Nat) (wide vars : Int) (state : List PV) : R := evF P E T k 18 [.s (.c (.p (PV.int .i64 wide))), .s (.c (.p (PV.int .i64 vars))), .s (.c (.p (PV.row 0 0 state)))] []
def r18 (b : Bool) : R := some ([.c (.p (PV.bool b))], [])
def R18 (x0 : R) (K0 : Bool → R) : R := x0.bind fun q0 => bif lensB q0.2 [] && lensS q0.1 [.c (.p (.bool))] then (cBool (resAt q0.1 0)).bind fun b => K0 b else none
@[simp] theorem R18_r (b : Bool) (K0 : Bool → R) : R18 (r18 b) K0 = K0 b := by kernel_rfl
/-! 19 : impl.GoodTerm -/
def c19 (k : Nat) (wide vars : Int) (t : List PV) : R := evF P E T k 19 [.s (.c (.p (PV.int .i64 wide))), .s (.c (.p (PV.int .i64 vars))), .s (.c (.p (PV.row 2 0 t)))] []
def r19 (b : Bool) : R := some ([.c (.p (PV.bool b))], [])
def R19 (x0 : R) (K0 : Bool → R) : R := x0.bind fun q0 => bif lensB q0.2 [] && lensS q0.1 [.c (.p (.bool))] then (cBool (resAt q0.1 0)).bind fun b => K0 b else none
@[simp] theorem R19_r (b : Bool) (K0 : Bool → R) : R19 (r19 b) K0 = K0 b := by kernel_rfl
def L19_1 (k n : Nat) (wide vars : Int) (stackLen : Nat) (t33 : List PV) (t34 t35 : Int) (xs : List PV) : R := evLoopAt P E T k 19 [] [1, 1, 1, 0, 1, 0] [] n ⟨mkT 80 [(0, .s (.c (.p (PV.int .i64 wide)))), (1, .s (.c (.p (PV.int .i64 vars)))), (7, .s (.c (.loc 0 0 0 0 stackLen))), (33, .s (.c (.p (PV.row 2 0 t33)))), (34, .s (.c (.p (PV.int .i64 t34)))), (35, .s (.c (.p (PV.int .i64 t35))))], [.arr 3 0 0 false xs]⟩
/-! 20 : impl.valueOf -/
def c20 (k : Nat) (wide : Int) (t state : List PV) : R := evF P E T k 20 [.s (.c (.p (PV.int .i64 wide))), .s (.c (.p (PV.row 2 0 t))), .s (.c (.p (PV.row 0 0 state)))] []
def r20 (qr : Int) : R := some ([.c (.p (PV.int .u64 qr))], [])
def R20 (x0 : R) (K0 : Int → R) : R := x0.bind fun q0 => bif lensB q0.2 [] && lensS q0.1 [.c (.p (.int .u64))] then (cInt (resAt q0.1 0) .u64).bind fun qr => K0 qr else none
@[simp] theorem R20_r (qr : Int) (K0 : Int → R) : R20 (r20 qr) K0 = K0 qr := by kernel_rfl
def L20_1 (k n : Nat) (wide : Int) (state : List PV) (stackLen : Nat) (t12 : List PV) (t13 t14 : Int) (xs : List PV) : R := evLoopAt P E T k 20 [] [1, 1, 0, 1, 0] [] n ⟨mkT 87 [(0, .s (.c (.p (PV.int .i64 wide)))), (2, .s (.c (.p (PV.row 0 0 state)))), (7, .s (.c (.loc 0 0 0 0 stackLen))), (12, .s (.c (.p (PV.row 2 0 t12)))), (13, .s (.c (.p (PV.int .i64 t13)))), (14, .s (.c (.p (PV.int .i64 t14))))], [.arr 28 0 0 false xs]⟩
/-! 21 : spec.GoodTerm -/
def c21 (k : Nat) (wide vars : Int) (t : List PV) : R := evF P E T k 21 [.s (.c (.p (PV.int .i64 wide))), .s (.c (.p (PV.int .i64 vars))), .s (.c (.p (PV.row 2 0 t)))] []
def r21 (b : Bool) : R := some ([.c (.p (PV.bool b))], [])
def R21 (x0 : R) (K0 : Bool → R) : R := x0.bind fun q0 => bif lensB q0.2 [] && lensS q0.1 [.c (.p (.bool))] then (cBool (resAt q0.1 0)).bind fun b => K0 b else none
@[simp] theorem R21_r (b : Bool) (K0 : Bool → R) : R21 (r21 b) K0 = K0 b := by kernel_rfl
/-! 22 : spec.l2Words -/
def c22 (k : Nat) (wide : Int) (state : List PV) : R := evF P E T k 22 [.s (.c (.p (PV.int .i64 wide))), .s (.c (.p (PV.row 0 0 state)))] []
def r22 (b : Bool) : R := some ([.c (.p (PV.bool b))], [])
def R22 (x0 : R) (K0 : Bool → R) : R := x0.bind fun q0 => bif lensB q0.2 [] && lensS q0.1 [.c (.p (.bool))] then (cBool (resAt q0.1 0)).bind fun b => K0 b else none
@[simp] theorem R22_r (b : Bool) (K0 : Bool → R) : R22 (r22 b) K0 = K0 b := by kernel_rfl
def L22_1 (k n : Nat) (wide : Int) (t7 : List PV) (t8 t9 : Int) : R := evLoopAt P E T k 22 [] [1, 0, 1, 0] [] n ⟨mkT 18 [(0, .s (.c (.p (PV.int .i64 wide)))), (7, .s (.c (.p (PV.row 0 0 t7)))), (8, .s (.c (.p (PV.int .i64 t8)))), (9, .s (.c (.p (PV.int .i64 t9))))], []⟩
/-! 23 : spec.l2Value -/
def c23 (k : Nat) (wide : Int) (t : List PV) (k1 : Int) (state : List PV) : R := evF P E T k 23 [.s (.c (.p (PV.int .i64 wide))), .s (.c (.p (PV.row 2 0 t))), .s (.c (.p (PV.int .i64 k1))), .s (.c (.p (PV.row 0 0 state)))] []
def r23 (qr : Int) : R := some ([.c (.p (PV.int .u64 qr))], [])
def R23 (x0 : R) (K0 : Int → R) : R := x0.bind fun q0 => bif lensB q0.2 [] && lensS q0.1 [.c (.p (.int .u64))] then (cInt (resAt q0.1 0) .u64).bind fun qr => K0 qr else none
@[simp] theorem R23_r (qr : Int) (K0 : Int → R) : R23 (r23 qr) K0 = K0 qr := by kernel_rfl
/-! 24 : impl.fold -/
def c24 (k : Nat) (wide : Int) (t : List PV) : R := evF P E T k 24 [.s (.c (.p (PV.int .i64 wide))), .s (.c (.p (PV.row 2 0 t)))] []
def r24 (l : List PV) : R := some ([.c (.own 55 2 l)], [])
def R24 (x0 : R) (K0 : List PV → R) : R := x0.bind fun q0 => bif lensB q0.2 [] && lensS q0.1 [.c (.own 55 2)] then (asOwn 55 2 (resAt q0.1 0)).bind fun l => K0 l else none
@[simp] theorem R24_r (l : List PV) (K0 : List PV → R) : R24 (r24 l) K0 = K0 l := by kernel_rfl
def L24_1 (k n : Nat) (wide : Int) (t : List PV) (outLen : Nat) (end1 : Int) (xs : List PV) : R := evLoopAt P E T k 24 [] [1, 1, 1, 1, 0, 0] [] n ⟨mkT 48 [(0, .s (.c (.p (PV.int .i64 wide)))), (1, .s (.c (.p (PV.row 2 0 t)))), (7, .s (.c (.loc 0 0 2 0 outLen))), (8, .s (.c (.p (PV.int .i64 end1))))], [.arr 55 2 0 false xs]⟩
/-! 25 : spec.l2Fold -/
def c25 (k : Nat) (wide : Int) (t : List PV) (k1 : Int) : R := evF P E T k 25 [.s (.c (.p (PV.int .i64 wide))), .s (.c (.p (PV.row 2 0 t))), .s (.c (.p (PV.int .i64 k1)))] []
def r25 (l : List PV) : R := some ([.c (.own 55 2 l)], [])
def R25 (x0 : R) (K0 : List PV → R) : R := x0.bind fun q0 => bif lensB q0.2 [] && lensS q0.1 [.c (.own 55 2)] then (asOwn 55 2 (resAt q0.1 0)).bind fun l => K0 l else none
@[simp] theorem R25_r (l : List PV) (K0 : List PV → R) : R25 (r25 l) K0 = K0 l := by kernel_rfl
/-! 26 : impl.varsIn -/
def c26 (k : Nat) (t : List PV) : R := evF P E T k 26 [.s (.c (.p (PV.row 2 0 t)))] []
def r26 (l : List PV) : R := some ([.c (.own 3 0 l)], [])
def R26 (x0 : R) (K0 : List PV → R) : R := x0.bind fun q0 => bif lensB q0.2 [] && lensS q0.1 [.c (.own 3 0)] then (asOwn 3 0 (resAt q0.1 0)).bind fun l => K0 l else none
@[simp] theorem R26_r (l : List PV) (K0 : List PV → R) : R26 (r26 l) K0 = K0 l := by kernel_rfl
def L26_1 (k n : Nat) (outLen : Nat) (t7 : List PV) (t8 t9 : Int) (xs : List PV) : R := evLoopAt P E T k 26 [] [1, 1, 0, 1, 0] [] n ⟨mkT 27 [(3, .s (.c (.loc 0 0 0 0 outLen))), (7, .s (.c (.p (PV.row 2 0 t7)))), (8, .s (.c (.p (PV.int .i64 t8)))), (9, .s (.c (.p (PV.int .i64 t9))))], [.arr 3 0 0 false xs]⟩
/-! 27 : impl.kindOf -/
def c27 (k : Nat) (t : List PV) : R := evF P E T k 27 [.s (.c (.p (PV.row 2 0 t)))] []
def r27 (qr : Int) : R := some ([.c (.p (PV.int .i64 qr))], [])
def R27 (x0 : R) (K0 : Int → R) : R := x0.bind fun q0 => bif lensB q0.2 [] && lensS q0.1 [.c (.p (.int .i64))] then (cInt (resAt q0.1 0) .i64).bind fun qr => K0 qr else none
@[simp] theorem R27_r (qr : Int) (K0 : Int → R) : R27 (r27 qr) K0 = K0 qr := by kernel_rfl
/-! 28 : spec.DrawGoodTerm -/
def c28 (k : Nat) (code : List PV) : R := evF P E T k 28 [.s (.c (.p (PV.row 0 0 code)))] []
def r28 (qr qr1 : Int) (l : List PV) : R := some ([.c (.p (PV.int .i64 qr)), .c (.p (PV.int .i64 qr1)), .c (.p (PV.row 2 0 l))], [])
def R28 (x0 : R) (K0 : Int → Int → List PV → R) : R := x0.bind fun q0 => bif lensB q0.2 [] && lensS q0.1 [.c (.p (.int .i64)), .c (.p (.int .i64)), .c (.p (.row 2))] then (cInt (resAt q0.1 0) .i64).bind fun qr => (cInt (resAt q0.1 1) .i64).bind fun qr1 => (cRow (resAt q0.1 2) 2).bind fun l => K0 qr qr1 l else none
@[simp] theorem R28_r (qr qr1 : Int) (l : List PV) (K0 : Int → Int → List PV → R) : R28 (r28 qr qr1 l) K0 = K0 qr qr1 l := by kernel_rfl
/-! 29 : spec.l2Vars -/
def c29 (k : Nat) (t : List PV) : R := evF P E T k 29 [.s (.c (.p (PV.row 2 0 t)))] []
def r29 (l : List PV) : R := some ([.c (.p (PV.row 0 0 l))], [])
def R29 (x0 : R) (K0 : List PV → R) : R := x0.bind fun q0 => bif lensB q0.2 [] && lensS q0.1 [.c (.p (.row 0))] then (cRow (resAt q0.1 0) 0).bind fun l => K0 l else none
@[simp] theorem R29_r (l : List PV) (K0 : List PV → R) : R29 (r29 l) K0 = K0 l := by kernel_rfl
def L29_1 (k n : Nat) (outLen : Nat) (t6 : List PV) (t7 t8 : Int) (xs : List PV) : R := evLoopAt P E T k 29 [] [1, 1, 0, 1, 0] [] n ⟨mkT 22 [(3, .s (.c (.loc 0 0 0 0 outLen))), (6, .s (.c (.p (PV.row 2 0 t6)))), (7, .s (.c (.p (PV.int .i64 t7)))), (8, .s (.c (.p (PV.int .i64 t8))))], [.arr 3 0 0 false xs]⟩
def L29_2 (k n : Nat) (out t6 : List PV) (t7 t8 : Int) : R := evLoopAt P E T k 29 [] [1, 1, 0, 1, 0] [] n ⟨mkT 22 [(3, .s (.c (.p (PV.row 0 0 out)))), (6, .s (.c (.p (PV.row 2 0 t6)))), (7, .s (.c (.p (PV.int .i64 t7)))), (8, .s (.c (.p (PV.int .i64 t8))))], []⟩
/-! 30 : spec.l1Cur).among -/
def c30 (k : Nat) (list l : List PV) (n1 n11 : Int) : R := evF P E T k 30 [.s (.c (.bptr 0 0)), .s (.c (.p (PV.row 0 0 list)))] [[.p (PV.row 0 0 l), .p (PV.int .i64 n1), .p (PV.int .u64 n11)]]
def r30 (l : List PV) (qr qr1 qr2 : Int) : R := some ([.c (.p (PV.int .i64 qr2))], [[.p (PV.row 0 0 l), .p (PV.int .i64 qr), .p (PV.int .u64 qr1)]])
def R30 (x0 : R) (K0 : List PV → Int → Int → Int → R) : R := x0.bind fun q0 => bif lensB q0.2 [[.p (.row 0), .p (.int .i64), .p (.int .u64)]] && lensS q0.1 [.c (.p (.int .i64))] then (cRow (cellAt q0.2 0 0) 0).bind fun l => (cInt (cellAt q0.2 0 1) .i64).bind fun qr => (cInt (cellAt q0.2 0 2) .u64).bind fun qr1 => (cInt (resAt q0.1 0) .i64).bind fun qr2 => K0 l qr qr1 qr2 else none
@[simp] theorem R30_r (l : List PV) (qr qr1 qr2 : Int) (K0 : List PV → Int → Int → Int → R) : R30 (r30 l qr qr1 qr2) K0 = K0 l qr qr1 qr2 := by kernel_rfl
/-! 31 : spec.l1Cur).pick -/
def c31 (k : Nat) (n1 : Int) (l : List PV) (n11 n12 : Int) : R := evF P E T k 31 [.s (.c (.bptr 0 0)), .s (.c (.p (PV.int .i64 n1)))] [[.p (PV.row 0 0 l), .p (PV.int .i64 n11), .p (PV.int .u64 n12)]]
def r31 (l : List PV) (qr qr1 qr2 : Int) : R := some ([.c (.p (PV.int .i64 qr2))], [[.p (PV.row 0 0 l), .p (PV.int .i64 qr), .p (PV.int .u64 qr1)]])
def R31 (x0 : R) (K0 : List PV → Int → Int → Int → R) : R := x0.bind fun q0 => bif lensB q0.2 [[.p (.row 0), .p (.int .i64), .p (.int .u64)]] && lensS q0.1 [.c (.p (.int .i64))] then (cRow (cellAt q0.2 0 0) 0).bind fun l => (cInt (cellAt q0.2 0 1) .i64).bind fun qr => (cInt (cellAt q0.2 0 2) .u64).bind fun qr1 => (cInt (resAt q0.1 0) .i64).bind fun qr2 => K0 l qr qr1 qr2 else none
@[simp] theorem R31_r (l : List PV) (qr qr1 qr2 : Int) (K0 : List PV → Int → Int → Int → R) : R31 (r31 l qr qr1 qr2) K0 = K0 l qr qr1 qr2 := by kernel_rfl
/-! 32 : spec.l1Cur).asked -/
def c32 (k : Nat) (wide vars deep : Int) (l : List PV) (n1 n11 : Int) : R := evF P E T k 32 [.s (.c (.bptr 0 0)), .s (.c (.p (PV.int .i64 wide))), .s (.c (.p (PV.int .i64 vars))), .s (.c (.p (PV.int .i64 deep)))] [[.p (PV.row 0 0 l), .p (PV.int .i64 n1), .p (PV.int .u64 n11)]]
def r32 (l : List PV) (qr qr1 : Int) (l1 : List PV) : R := some ([.c (.own 55 2 l1)], [[.p (PV.row 0 0 l), .p (PV.int .i64 qr), .p (PV.int .u64 qr1)]])
def R32 (x0 : R) (K0 : List PV → Int → Int → List PV → R) : R := x0.bind fun q0 => bif lensB q0.2 [[.p (.row 0), .p (.int .i64), .p (.int .u64)]] && lensS q0.1 [.c (.own 55 2)] then (cRow (cellAt q0.2 0 0) 0).bind fun l => (cInt (cellAt q0.2 0 1) .i64).bind fun qr => (cInt (cellAt q0.2 0 2) .u64).bind fun qr1 => (asOwn 55 2 (resAt q0.1 0)).bind fun l1 => K0 l qr qr1 l1 else none
@[simp] theorem R32_r (l : List PV) (qr qr1 : Int) (l1 : List PV) (K0 : List PV → Int → Int → List PV → R) : R32 (r32 l qr qr1 l1) K0 = K0 l qr qr1 l1 := by kernel_rfl
/-! 33 : spec.l1Cur).one -/
def c33 (k : Nat) (n1 : Int) (l : List PV) (n11 n12 : Int) : R := evF P E T k 33 [.s (.c (.bptr 0 0)), .s (.c (.p (PV.int .i64 n1)))] [[.p (PV.row 0 0 l), .p (PV.int .i64 n11), .p (PV.int .u64 n12)]]
def r33 (l : List PV) (qr qr1 : Int) (b : Bool) : R := some ([.c (.p (PV.bool b))], [[.p (PV.row 0 0 l), .p (PV.int .i64 qr), .p (PV.int .u64 qr1)]])
def R33 (x0 : R) (K0 : List PV → Int → Int → Bool → R) : R := x0.bind fun q0 => bif lensB q0.2 [[.p (.row 0), .p (.int .i64), .p (.int .u64)]] && lensS q0.1 [.c (.p (.bool))] then (cRow (cellAt q0.2 0 0) 0).bind fun l => (cInt (cellAt q0.2 0 1) .i64).bind fun qr => (cInt (cellAt q0.2 0 2) .u64).bind fun qr1 => (cBool (resAt q0.1 0)).bind fun b => K0 l qr qr1 b else none
@[simp] theorem R33_r (l : List PV) (qr qr1 : Int) (b : Bool) (K0 : List PV → Int → Int → Bool → R) : R33 (r33 l qr qr1 b) K0 = K0 l qr qr1 b := by kernel_rfl
/-! 34 : spec.l1Cur).number -/
def c34 (k : Nat) (wide vars deep : Int) (l : List PV) (n1 n11 : Int) : R := evF P E T k 34 [.s (.c (.bptr 0 0)), .s (.c (.p (PV.int .i64 wide))), .s (.c (.p (PV.int .i64 vars))), .s (.c (.p (PV.int .i64 deep)))] [[.p (PV.row 0 0 l), .p (PV.int .i64 n1), .p (PV.int .u64 n11)]]
def r34 (l : List PV) (qr qr1 : Int) (l1 : List PV) : R := some ([.c (.own 55 2 l1)], [[.p (PV.row 0 0 l), .p (PV.int .i64 qr), .p (PV.int .u64 qr1)]])
def R34 (x0 : R) (K0 : List PV → Int → Int → List PV → R) : R := x0.bind fun q0 => bif lensB q0.2 [[.p (.row 0), .p (.int .i64), .p (.int .u64)]] && lensS q0.1 [.c (.own 55 2)] then (cRow (cellAt q0.2 0 0) 0).bind fun l => (cInt (cellAt q0.2 0 1) .i64).bind fun qr => (cInt (cellAt q0.2 0 2) .u64).bind fun qr1 => (asOwn 55 2 (resAt q0.1 0)).bind fun l1 => K0 l qr qr1 l1 else none
@[simp] theorem R34_r (l : List PV) (qr qr1 : Int) (l1 : List PV) (K0 : List PV → Int → Int → List PV → R) : R34 (r34 l qr qr1 l1) K0 = K0 l qr qr1 l1 := by kernel_rfl
/-! 35 : spec.l1Cur).word -/
def c35 (k : Nat) (wide : Int) (l : List PV) (n1 n11 : Int) : R := evF P E T k 35 [.s (.c (.bptr 0 0)), .s (.c (.p (PV.int .i64 wide)))] [[.p (PV.row 0 0 l), .p (PV.int .i64 n1), .p (PV.int .u64 n11)]]
def r35 (l : List PV) (qr qr1 qr2 : Int) : R := some ([.c (.p (PV.int .u64 qr2))], [[.p (PV.row 0 0 l), .p (PV.int .i64 qr), .p (PV.int .u64 qr1)]])
def R35 (x0 : R) (K0 : List PV → Int → Int → Int → R) : R := x0.bind fun q0 => bif lensB q0.2 [[.p (.row 0), .p (.int .i64), .p (.int .u64)]] && lensS q0.1 [.c (.p (.int .u64))] then (cRow (cellAt q0.2 0 0) 0).bind fun l => (cInt (cellAt q0.2 0 1) .i64).bind fun qr => (cInt (cellAt q0.2 0 2) .u64).bind fun qr1 => (cInt (resAt q0.1 0) .u64).bind fun qr2 => K0 l qr qr1 qr2 else none
@[simp] theorem R35_r (l : List PV) (qr qr1 qr2 : Int) (K0 : List PV → Int → Int → Int → R) : R35 (r35 l qr qr1 qr2) K0 = K0 l qr qr1 qr2 := by kernel_rfl
/-! 36 : impl.isWide -/
def c36 (k : Nat) (n1 : Int) : R := evF P E T k 36 [.s (.c (.p (PV.int .i64 n1)))] []
def r36 (b : Bool) : R := some ([.c (.p (PV.bool b))], [])
def R36 (x0 : R) (K0 : Bool → R) : R := x0.bind fun q0 => bif lensB q0.2 [] && lensS q0.1 [.c (.p (.bool))] then (cBool (resAt q0.1 0)).bind fun b => K0 b else none
@[simp] theorem R36_r (b : Bool) (K0 : Bool → R) : R36 (r36 b) K0 = K0 b := by kernel_rfl
/-! 37 : impl.isVars -/
def c37 (k : Nat) (n1 : Int) : R := evF P E T k 37 [.s (.c (.p (PV.int .i64 n1)))] []
def r37 (b : Bool) : R := some ([.c (.p (PV.bool b))], [])
def R37 (x0 : R) (K0 : Bool → R) : R := x0.bind fun q0 => bif lensB q0.2 [] && lensS q0.1 [.c (.p (.bool))] then (cBool (resAt q0.1 0)).bind fun b => K0 b else none
@[simp] theorem R37_r (b : Bool) (K0 : Bool → R) : R37 (r37 b) K0 = K0 b := by kernel_rfl
/-! 38 : slices.ContainsFunc[[]uint64,uint64] -/
def c38 (k : Nat) (qs : List PV) (n1 : Int) : R := evF P E T k 38 [.s (.c (.p (PV.row 0 0 qs))), .s (.c (.fn 39 [0]))] [[.p (PV.int .i64 n1)]]
def r38 (qr : Int) (b : Bool) : R := some ([.c (.p (PV.bool b))], [[.p (PV.int .i64 qr)]])
def R38 (x0 : R) (K0 : Int → Bool → R) : R := x0.bind fun q0 => bif lensB q0.2 [[.p (.int .i64)]] && lensS q0.1 [.c (.p (.bool))] then (cInt (cellAt q0.2 0 0) .i64).bind fun qr => (cBool (resAt q0.1 0)).bind fun b => K0 qr b else none
@[simp] theorem R38_r (qr : Int) (b : Bool) (K0 : Int → Bool → R) : R38 (r38 qr b) K0 = K0 qr b := by kernel_rfl
/-! 39 : impl.isState$1 -/
def c39 (k : Nat) (a n1 : Int) : R := evF P E T k 39 [.s (.c (.p (PV.int .u64 a))), .s (.c (.bptr 0 0))] [[.p (PV.int .i64 n1)]]
def r39 (qr : Int) (b : Bool) : R := some ([.c (.p (PV.bool b))], [[.p (PV.int .i64 qr)]])
def R39 (x0 : R) (K0 : Int → Bool → R) : R := x0.bind fun q0 => bif lensB q0.2 [[.p (.int .i64)]] && lensS q0.1 [.c (.p (.bool))] then (cInt (cellAt q0.2 0 0) .i64).bind fun qr => (cBool (resAt q0.1 0)).bind fun b => K0 qr b else none
@[simp] theorem R39_r (qr : Int) (b : Bool) (K0 : Int → Bool → R) : R39 (r39 qr b) K0 = K0 qr b := by kernel_rfl
/-! 40 : impl.GoodWord -/
def c40 (k : Nat) (wide a : Int) : R := evF P E T k 40 [.s (.c (.p (PV.int .i64 wide))), .s (.c (.p (PV.int .u64 a)))] []
def r40 (b : Bool) : R := some ([.c (.p (PV.bool b))], [])
def R40 (x0 : R) (K0 : Bool → R) : R := x0.bind fun q0 => bif lensB q0.2 [] && lensS q0.1 [.c (.p (.bool))] then (cBool (resAt q0.1 0)).bind fun b => K0 b else none
@[simp] theorem R40_r (b : Bool) (K0 : Bool → R) : R40 (r40 b) K0 = K0 b := by kernel_rfl
/-! 41 : impl.operandsOf -/
def c41 (k : Nat) (op : Int) : R := evF P E T k 41 [.s (.c (.p (PV.int .i64 op)))] []
def r41 (qr qr1 qr2 : Int) : R := some ([.c (.p (PV.int .i64 qr)), .c (.p (PV.int .i64 qr1)), .c (.p (PV.int .i64 qr2))], [])
def R41 (x0 : R) (K0 : Int → Int → Int → R) : R := x0.bind fun q0 => bif lensB q0.2 [] && lensS q0.1 [.c (.p (.int .i64)), .c (.p (.int .i64)), .c (.p (.int .i64))] then (cInt (resAt q0.1 0) .i64).bind fun qr => (cInt (resAt q0.1 1) .i64).bind fun qr1 => (cInt (resAt q0.1 2) .i64).bind fun qr2 => K0 qr qr1 qr2 else none
@[simp] theorem R41_r (qr qr1 qr2 : Int) (K0 : Int → Int → Int → R) : R41 (r41 qr qr1 qr2) K0 = K0 qr qr1 qr2 := by kernel_rfl
/-! 42 : impl.isLeafRight -/
def c42 (k : Nat) (wide vars x x1 : Int) : R := evF P E T k 42 [.s (.c (.p (PV.int .i64 wide))), .s (.c (.p (PV.int .i64 vars))), .s (.c (.p (PV.agg [.int .i64 x, .int .u64 x1])))] []
def r42 (b : Bool) : R := some ([.c (.p (PV.bool b))], [])
def R42 (x0 : R) (K0 : Bool → R) : R := x0.bind fun q0 => bif lensB q0.2 [] && lensS q0.1 [.c (.p (.bool))] then (cBool (resAt q0.1 0)).bind fun b => K0 b else none
@[simp] theorem R42_r (b : Bool) (K0 : Bool → R) : R42 (r42 b) K0 = K0 b := by kernel_rfl
/-! 43 : slices.ContainsFunc[[]int,int] -/
def c43 (k : Nat) (qs : List PV) (n1 : Int) : R := evF P E T k 43 [.s (.c (.p (PV.row 0 0 qs))), .s (.c (.fn 44 [0]))] [[.p (PV.int .i64 n1)]]
def r43 (qr : Int) (b : Bool) : R := some ([.c (.p (PV.bool b))], [[.p (PV.int .i64 qr)]])
def R43 (x0 : R) (K0 : Int → Bool → R) : R := x0.bind fun q0 => bif lensB q0.2 [[.p (.int .i64)]] && lensS q0.1 [.c (.p (.bool))] then (cInt (cellAt q0.2 0 0) .i64).bind fun qr => (cBool (resAt q0.1 0)).bind fun b => K0 qr b else none
@[simp] theorem R43_r (qr : Int) (b : Bool) (K0 : Int → Bool → R) : R43 (r43 qr b) K0 = K0 qr b := by kernel_rfl
def R43p (x0 : R) (K0 : Int → Bool → R) : R := x0.bind fun q0 => bif q0.1.all plainS && q0.2.all (fun cs => cs.all plainC) then (bif lensB q0.2 [[.p (.int .i64)]] && lensS q0.1 [.c (.p (.bool))] then (cInt (cellAt q0.2 0 0) .i64).bind fun qr => (cBool (resAt q0.1 0)).bind fun b => K0 qr b else none) else none
@[simp] theorem R43p_r (qr : Int) (b : Bool) (K0 : Int → Bool → R) : R43p (r43 qr b) K0 = K0 qr b := by kernel_rfl
/-! 44 : impl.GoodTerm$1 -/
def c44 (k : Nat) (own n1 : Int) : R := evF P E T k 44 [.s (.c (.p (PV.int .i64 own))), .s (.c (.bptr 0 0))] [[.p (PV.int .i64 n1)]]
def r44 (qr : Int) (b : Bool) : R := some ([.c (.p (PV.bool b))], [[.p (PV.int .i64 qr)]])
def R44 (x0 : R) (K0 : Int → Bool → R) : R := x0.bind fun q0 => bif lensB q0.2 [[.p (.int .i64)]] && lensS q0.1 [.c (.p (.bool))] then (cInt (cellAt q0.2 0 0) .i64).bind fun qr => (cBool (resAt q0.1 0)).bind fun b => K0 qr b else none
@[simp] theorem R44_r (qr : Int) (b : Bool) (K0 : Int → Bool → R) : R44 (r44 qr b) K0 = K0 qr b := by kernel_rfl
/-! 45 : impl.mask -/
def c45 (k : Nat) (wide : Int) : R := evF P E T k 45 [.s (.c (.p (PV.int .i64 wide)))] []
def r45 (qr : Int) : R := some ([.c (.p (PV.int .u64 qr))], [])
def R45 (x0 : R) (K0 : Int → R) : R := x0.bind fun q0 => bif lensB q0.2 [] && lensS q0.1 [.c (.p (.int .u64))] then (cInt (resAt q0.1 0) .u64).bind fun qr => K0 qr else none
@[simp] theorem R45_r (qr : Int) (K0 : Int → R) : R45 (r45 qr) K0 = K0 qr := by kernel_rfl
/-! 46 : impl.apply -/
def c46 (k : Nat) (wide op a b : Int) : R := evF P E T k 46 [.s (.c (.p (PV.int .i64 wide))), .s (.c (.p (PV.int .i64 op))), .s (.c (.p (PV.int .u64 a))), .s (.c (.p (PV.int .u64 b)))] []
def r46 (qr : Int) : R := some ([.c (.p (PV.int .u64 qr))], [])
def R46 (x0 : R) (K0 : Int → R) : R := x0.bind fun q0 => bif lensB q0.2 [] && lensS q0.1 [.c (.p (.int .u64))] then (cInt (resAt q0.1 0) .u64).bind fun qr => K0 qr else none
@[simp] theorem R46_r (qr : Int) (K0 : Int → R) : R46 (r46 qr) K0 = K0 qr := by kernel_rfl
/-! 47 : spec.l2Kind -/
def c47 (k : Nat) (wide vars : Int) (t : List PV) : R := evF P E T k 47 [.s (.c (.p (PV.int .i64 wide))), .s (.c (.p (PV.int .i64 vars))), .s (.c (.p (PV.row 2 0 t)))] []
def r47 (qr : Int) : R := some ([.c (.p (PV.int .i64 qr))], [])
def R47 (x0 : R) (K0 : Int → R) : R := x0.bind fun q0 => bif lensB q0.2 [] && lensS q0.1 [.c (.p (.int .i64))] then (cInt (resAt q0.1 0) .i64).bind fun qr => K0 qr else none
@[simp] theorem R47_r (qr : Int) (K0 : Int → R) : R47 (r47 qr) K0 = K0 qr := by kernel_rfl
def L47_1 (k n : Nat) (wide vars : Int) (pileLen : Nat) (t27 : List PV) (t28 t29 : Int) (xs : List PV) : R := evLoopAt P E T k 47 [] [1, 1, 1, 0, 1, 0] [] n ⟨mkT 83 [(0, .s (.c (.p (PV.int .i64 wide)))), (1, .s (.c (.p (PV.int .i64 vars)))), (7, .s (.c (.loc 0 0 0 0 pileLen))), (27, .s (.c (.p (PV.row 2 0 t27)))), (28, .s (.c (.p (PV.int .i64 t28)))), (29, .s (.c (.p (PV.int .i64 t29))))], [.arr 3 0 0 false xs]⟩
def L47_2 (k n1 n : Nat) (wide vars : Int) (pileLen : Nat) (many part own : Int) (t27 : List PV) (t28 t29 : Int) (xs : List PV) : R := evLoopAt P E T k 47 [] [1, 1, 1, 0, 1, 0, 0, 1, 1, 0, 0, 1, 1, 1, 0, 0] [n1] n ⟨mkT 83 [(0, .s (.c (.p (PV.int .i64 wide)))), (1, .s (.c (.p (PV.int .i64 vars)))), (7, .s (.c (.loc 0 0 0 0 pileLen))), (10, .s (.c (.p (PV.int .i64 many)))), (11, .s (.c (.p (PV.int .i64 part)))), (12, .s (.c (.p (PV.int .i64 own)))), (27, .s (.c (.p (PV.row 2 0 t27)))), (28, .s (.c (.p (PV.int .i64 t28)))), (29, .s (.c (.p (PV.int .i64 t29))))], [.arr 3 0 0 false xs]⟩
/-! 48 : spec.GoodWord -/
def c48 (k : Nat) (wide a : Int) : R := evF P E T k 48 [.s (.c (.p (PV.int .i64 wide))), .s (.c (.p (PV.int .u64 a)))] []
def r48 (b : Bool) : R := some ([.c (.p (PV.bool b))], [])
def R48 (x0 : R) (K0 : Bool → R) : R := x0.bind fun q0 => bif lensB q0.2 [] && lensS q0.1 [.c (.p (.bool))] then (cBool (resAt q0.1 0)).bind fun b => K0 b else none
@[simp] theorem R48_r (b : Bool) (K0 : Bool → R) : R48 (r48 b) K0 = K0 b := by kernel_rfl
/-! 49 : spec.l2Need -/
def c49 (k : Nat) (op : Int) : R := evF P E T k 49 [.s (.c (.p (PV.int .i64 op)))] []
def r49 (qr qr1 qr2 : Int) : R := some ([.c (.p (PV.int .i64 qr)), .c (.p (PV.int .i64 qr1)), .c (.p (PV.int .i64 qr2))], [])
def R49 (x0 : R) (K0 : Int → Int → Int → R) : R := x0.bind fun q0 => bif lensB q0.2 [] && lensS q0.1 [.c (.p (.int .i64)), .c (.p (.int .i64)), .c (.p (.int .i64))] then (cInt (resAt q0.1 0) .i64).bind fun qr => (cInt (resAt q0.1 1) .i64).bind fun qr1 => (cInt (resAt q0.1 2) .i64).bind fun qr2 => K0 qr qr1 qr2 else none
@[simp] theorem R49_r (qr qr1 qr2 : Int) (K0 : Int → Int → Int → R) : R49 (r49 qr qr1 qr2) K0 = K0 qr qr1 qr2 := by kernel_rfl
/-! 50 : spec.l1Cut -/
def c50 (k : Nat) (wide a : Int) : R := evF P E T k 50 [.s (.c (.p (PV.int .i64 wide))), .s (.c (.p (PV.int .u64 a)))] []
def r50 (qr : Int) : R := some ([.c (.p (PV.int .u64 qr))], [])
def R50 (x0 : R) (K0 : Int → R) : R := x0.bind fun q0 => bif lensB q0.2 [] && lensS q0.1 [.c (.p (.int .u64))] then (cInt (resAt q0.1 0) .u64).bind fun qr => K0 qr else none
@[simp] theorem R50_r (qr : Int) (K0 : Int → R) : R50 (r50 qr) K0 = K0 qr := by kernel_rfl
def L50_1 (k n : Nat) (wide a out k1 : Int) : R := evLoopAt P E T k 50 [] [1, 1, 0, 1, 0] [] n ⟨mkT 20 [(0, .s (.c (.p (PV.int .i64 wide)))), (1, .s (.c (.p (PV.int .u64 a)))), (5, .s (.c (.p (PV.int .u64 out)))), (6, .s (.c (.p (PV.int .i64 k1))))], []⟩
/-! 51 : spec.l2Do -/
def c51 (k : Nat) (wide op a b : Int) : R := evF P E T k 51 [.s (.c (.p (PV.int .i64 wide))), .s (.c (.p (PV.int .i64 op))), .s (.c (.p (PV.int .u64 a))), .s (.c (.p (PV.int .u64 b)))] []
def r51 (qr : Int) : R := some ([.c (.p (PV.int .u64 qr))], [])
def R51 (x0 : R) (K0 : Int → R) : R := x0.bind fun q0 => bif lensB q0.2 [] && lensS q0.1 [.c (.p (.int .u64))] then (cInt (resAt q0.1 0) .u64).bind fun qr => K0 qr else none
@[simp] theorem R51_r (qr : Int) (K0 : Int → R) : R51 (r51 qr) K0 = K0 qr := by kernel_rfl
/-! 52 : spec.l2From -/
def c52 (k : Nat) (t : List PV) (k1 : Int) : R := evF P E T k 52 [.s (.c (.p (PV.row 2 0 t))), .s (.c (.p (PV.int .i64 k1)))] []
def r52 (qr : Int) : R := some ([.c (.p (PV.int .i64 qr))], [])
def R52 (x0 : R) (K0 : Int → R) : R := x0.bind fun q0 => bif lensB q0.2 [] && lensS q0.1 [.c (.p (.int .i64))] then (cInt (resAt q0.1 0) .i64).bind fun qr => K0 qr else none
@[simp] theorem R52_r (qr : Int) (K0 : Int → R) : R52 (r52 qr) K0 = K0 qr := by kernel_rfl
def L52_1 (k n : Nat) (t : List PV) (many from1 : Int) : R := evLoopAt P E T k 52 [] [1, 1, 1, 0, 0] [] n ⟨mkT 29 [(0, .s (.c (.p (PV.row 2 0 t)))), (5, .s (.c (.p (PV.int .i64 many)))), (8, .s (.c (.p (PV.int .i64 from1))))], []⟩
/-! 53 : impl.startOf -/
def c53 (k : Nat) (t : List PV) (at1 : Int) : R := evF P E T k 53 [.s (.c (.p (PV.row 2 0 t))), .s (.c (.p (PV.int .i64 at1)))] []
def r53 (qr : Int) : R := some ([.c (.p (PV.int .i64 qr))], [])
def R53 (x0 : R) (K0 : Int → R) : R := x0.bind fun q0 => bif lensB q0.2 [] && lensS q0.1 [.c (.p (.int .i64))] then (cInt (resAt q0.1 0) .i64).bind fun qr => K0 qr else none
@[simp] theorem R53_r (qr : Int) (K0 : Int → R) : R53 (r53 qr) K0 = K0 qr := by kernel_rfl
def L53_1 (k n : Nat) (t : List PV) (start t20 t21 : Int) : R := evLoopAt P E T k 53 [] [1, 1, 1, 0, 1, 0] [] n ⟨mkT 29 [(0, .s (.c (.p (PV.row 2 0 t)))), (8, .s (.c (.p (PV.int .i64 start)))), (20, .s (.c (.p (PV.int .i64 t20)))), (21, .s (.c (.p (PV.int .i64 t21))))], []⟩
/-! 56 : spec.l1Put -/
def c56 (k : Nat) (l : List PV) (n1 : Int) : R := evF P E T k 56 [.s (.c (.p (PV.row 0 0 l))), .s (.c (.p (PV.int .i64 n1)))] []
def r56 (l : List PV) : R := some ([.c (.p (PV.row 0 0 l))], [])
def R56 (x0 : R) (K0 : List PV → R) : R := x0.bind fun q0 => bif lensB q0.2 [] && lensS q0.1 [.c (.p (.row 0))] then (cRow (resAt q0.1 0) 0).bind fun l => K0 l else none
@[simp] theorem R56_r (l : List PV) (K0 : List PV → R) : R56 (r56 l) K0 = K0 l := by kernel_rfl
def L56_1 (k n : Nat) (l : List PV) (n1 k1 : Int) : R := evLoopAt P E T k 56 [] [1, 1, 0, 0] [] n ⟨mkT 48 [(0, .s (.c (.p (PV.row 0 0 l)))), (1, .s (.c (.p (PV.int .i64 n1)))), (5, .s (.c (.p (PV.int .i64 k1))))], []⟩
/-! 57 : spec.l1Cur).next -/
def c57 (k : Nat) (l : List PV) (n1 n11 : Int) : R := evF P E T k 57 [.s (.c (.bptr 0 0))] [[.p (PV.row 0 0 l), .p (PV.int .i64 n1), .p (PV.int .u64 n11)]]
def r57 (l : List PV) (qr qr1 qr2 : Int) : R := some ([.c (.p (PV.int .i64 qr2))], [[.p (PV.row 0 0 l), .p (PV.int .i64 qr), .p (PV.int .u64 qr1)]])
def R57 (x0 : R) (K0 : List PV → Int → Int → Int → R) : R := x0.bind fun q0 => bif lensB q0.2 [[.p (.row 0), .p (.int .i64), .p (.int .u64)]] && lensS q0.1 [.c (.p (.int .i64))] then (cRow (cellAt q0.2 0 0) 0).bind fun l => (cInt (cellAt q0.2 0 1) .i64).bind fun qr => (cInt (cellAt q0.2 0 2) .u64).bind fun qr1 => (cInt (resAt q0.1 0) .i64).bind fun qr2 => K0 l qr qr1 qr2 else none
@[simp] theorem R57_r (l : List PV) (qr qr1 qr2 : Int) (K0 : List PV → Int → Int → Int → R) : R57 (r57 l qr qr1 qr2) K0 = K0 l qr qr1 qr2 := by kernel_rfl
/-! 58 : spec.l1Cur).long -/
def c58 (k : Nat) (l : List PV) (n1 n11 : Int) : R := evF P E T k 58 [.s (.c (.bptr 0 0))] [[.p (PV.row 0 0 l), .p (PV.int .i64 n1), .p (PV.int .u64 n11)]]
def r58 (l : List PV) (qr qr1 qr2 : Int) : R := some ([.c (.p (PV.int .u64 qr2))], [[.p (PV.row 0 0 l), .p (PV.int .i64 qr), .p (PV.int .u64 qr1)]])
def R58 (x0 : R) (K0 : List PV → Int → Int → Int → R) : R := x0.bind fun q0 => bif lensB q0.2 [[.p (.row 0), .p (.int .i64), .p (.int .u64)]] && lensS q0.1 [.c (.p (.int .u64))] then (cRow (cellAt q0.2 0 0) 0).bind fun l => (cInt (cellAt q0.2 0 1) .i64).bind fun qr => (cInt (cellAt q0.2 0 2) .u64).bind fun qr1 => (cInt (resAt q0.1 0) .u64).bind fun qr2 => K0 l qr qr1 qr2 else none
@[simp] theorem R58_r (l : List PV) (qr qr1 qr2 : Int) (K0 : List PV → Int → Int → Int → R) : R58 (r58 l qr qr1 qr2) K0 = K0 l qr qr1 qr2 := by kernel_rfl
def L58_1 (k n : Nat) (n1 i : Int) (l : List PV) (n11 n12 : Int) : R := evLoopAt P E T k 58 [3] [1, 1, 0, 1, 0] [] n ⟨mkT 16 [(0, .s (.c (.bptr 0 0))), (3, .s (.c (.p (PV.int .u64 n1)))), (4, .s (.c (.p (PV.int .i64 i))))], [.box [.p (PV.row 0 0 l), .p (PV.int .i64 n11), .p (PV.int .u64 n12)]]⟩
/-! 59 : slices.IndexFunc[[]uint64,uint64] -/
def c59 (k : Nat) (qs : List PV) (n1 : Int) : R := evF P E T k 59 [.s (.c (.p (PV.row 0 0 qs))), .s (.c (.fn 39 [0]))] [[.p (PV.int .i64 n1)]]
def r59 (qr qr1 : Int) : R := some ([.c (.p (PV.int .i64 qr1))], [[.p (PV.int .i64 qr)]])
def R59 (x0 : R) (K0 : Int → Int → R) : R := x0.bind fun q0 => bif lensB q0.2 [[.p (.int .i64)]] && lensS q0.1 [.c (.p (.int .i64))] then (cInt (cellAt q0.2 0 0) .i64).bind fun qr => (cInt (resAt q0.1 0) .i64).bind fun qr1 => K0 qr qr1 else none
@[simp] theorem R59_r (qr qr1 : Int) (K0 : Int → Int → R) : R59 (r59 qr qr1) K0 = K0 qr qr1 := by kernel_rfl
def L59_1 (k n : Nat) (qs : List PV) (t7 t8 n1 : Int) : R := evLoopAt P E T k 59 [1] [1, 0, 1, 0] [] n ⟨mkT 19 [(0, .s (.c (.p (PV.row 0 0 qs)))), (1, .s (.c (.fn 39 [0]))), (7, .s (.c (.p (PV.int .i64 t7)))), (8, .s (.c (.p (PV.int .i64 t8))))], [.box [.p (PV.int .i64 n1)]]⟩
/-! 60 : slices.IndexFunc[[]int,int] -/
def c60 (k : Nat) (qs : List PV) (n1 : Int) : R := evF P E T k 60 [.s (.c (.p (PV.row 0 0 qs))), .s (.c (.fn 44 [0]))] [[.p (PV.int .i64 n1)]]
def r60 (qr qr1 : Int) : R := some ([.c (.p (PV.int .i64 qr1))], [[.p (PV.int .i64 qr)]])
def R60 (x0 : R) (K0 : Int → Int → R) : R := x0.bind fun q0 => bif lensB q0.2 [[.p (.int .i64)]] && lensS q0.1 [.c (.p (.int .i64))] then (cInt (cellAt q0.2 0 0) .i64).bind fun qr => (cInt (resAt q0.1 0) .i64).bind fun qr1 => K0 qr qr1 else none
@[simp] theorem R60_r (qr qr1 : Int) (K0 : Int → Int → R) : R60 (r60 qr qr1) K0 = K0 qr qr1 := by kernel_rfl
def L60_1 (k n : Nat) (qs : List PV) (t7 t8 n1 : Int) : R := evLoopAt P E T k 60 [1] [1, 0, 1, 0] [] n ⟨mkT 19 [(0, .s (.c (.p (PV.row 0 0 qs)))), (1, .s (.c (.fn 44 [0]))), (7, .s (.c (.p (PV.int .i64 t7)))), (8, .s (.c (.p (PV.int .i64 t8))))], [.box [.p (PV.int .i64 n1)]]⟩
/-! 61 : impl.DivWord -/
def c61 (k : Nat) (wide a b : Int) : R := evF P E T k 61 [.s (.c (.p (PV.int .i64 wide))), .s (.c (.p (PV.int .u64 a))), .s (.c (.p (PV.int .u64 b)))] []
def r61 (qr qr1 : Int) (b : Bool) : R := some ([.c (.p (PV.int .u64 qr)), .c (.p (PV.int .u64 qr1)), .c (.p (PV.bool b))], [])
def R61 (x0 : R) (K0 : Int → Int → Bool → R) : R := x0.bind fun q0 => bif lensB q0.2 [] && lensS q0.1 [.c (.p (.int .u64)), .c (.p (.int .u64)), .c (.p (.bool))] then (cInt (resAt q0.1 0) .u64).bind fun qr => (cInt (resAt q0.1 1) .u64).bind fun qr1 => (cBool (resAt q0.1 2)).bind fun b => K0 qr qr1 b else none
@[simp] theorem R61_r (qr qr1 : Int) (b : Bool) (K0 : Int → Int → Bool → R) : R61 (r61 qr qr1 b) K0 = K0 qr qr1 b := by kernel_rfl
/-! 62 : impl.shift -/
def c62 (k : Nat) (wide a by1 : Int) (left : Bool) : R := evF P E T k 62 [.s (.c (.p (PV.int .i64 wide))), .s (.c (.p (PV.int .u64 a))), .s (.c (.p (PV.int .u64 by1))), .s (.c (.p (PV.bool left)))] []
def r62 (qr : Int) : R := some ([.c (.p (PV.int .u64 qr))], [])
def R62 (x0 : R) (K0 : Int → R) : R := x0.bind fun q0 => bif lensB q0.2 [] && lensS q0.1 [.c (.p (.int .u64))] then (cInt (resAt q0.1 0) .u64).bind fun qr => K0 qr else none
@[simp] theorem R62_r (qr : Int) (K0 : Int → R) : R62 (r62 qr) K0 = K0 qr := by kernel_rfl
/-! 63 : impl.truth -/
def c63 (k : Nat) (holds : Bool) : R := evF P E T k 63 [.s (.c (.p (PV.bool holds)))] []
def r63 (qr : Int) : R := some ([.c (.p (PV.int .u64 qr))], [])
def R63 (x0 : R) (K0 : Int → R) : R := x0.bind fun q0 => bif lensB q0.2 [] && lensS q0.1 [.c (.p (.int .u64))] then (cInt (resAt q0.1 0) .u64).bind fun qr => K0 qr else none
@[simp] theorem R63_r (qr : Int) (K0 : Int → R) : R63 (r63 qr) K0 = K0 qr := by kernel_rfl
/-! 64 : impl.signed -/
def c64 (k : Nat) (wide a : Int) : R := evF P E T k 64 [.s (.c (.p (PV.int .i64 wide))), .s (.c (.p (PV.int .u64 a)))] []
def r64 (qr : Int) : R := some ([.c (.p (PV.int .i64 qr))], [])
def R64 (x0 : R) (K0 : Int → R) : R := x0.bind fun q0 => bif lensB q0.2 [] && lensS q0.1 [.c (.p (.int .i64))] then (cInt (resAt q0.1 0) .i64).bind fun qr => K0 qr else none
@[simp] theorem R64_r (qr : Int) (K0 : Int → R) : R64 (r64 qr) K0 = K0 qr := by kernel_rfl
/-! 65 : spec.l1Wide -/
def c65 (k : Nat) (wide : Int) : R := evF P E T k 65 [.s (.c (.p (PV.int .i64 wide)))] []
def r65 (b : Bool) : R := some ([.c (.p (PV.bool b))], [])
def R65 (x0 : R) (K0 : Bool → R) : R := x0.bind fun q0 => bif lensB q0.2 [] && lensS q0.1 [.c (.p (.bool))] then (cBool (resAt q0.1 0)).bind fun b => K0 b else none
@[simp] theorem R65_r (b : Bool) (K0 : Bool → R) : R65 (r65 b) K0 = K0 b := by kernel_rfl
/-! 66 : spec.l1In -/
def c66 (k : Nat) (n1 lo hi : Int) : R := evF P E T k 66 [.s (.c (.p (PV.int .i64 n1))), .s (.c (.p (PV.int .i64 lo))), .s (.c (.p (PV.int .i64 hi)))] []
def r66 (b : Bool) : R := some ([.c (.p (PV.bool b))], [])
def R66 (x0 : R) (K0 : Bool → R) : R := x0.bind fun q0 => bif lensB q0.2 [] && lensS q0.1 [.c (.p (.bool))] then (cBool (resAt q0.1 0)).bind fun b => K0 b else none
@[simp] theorem R66_r (b : Bool) (K0 : Bool → R) : R66 (r66 b) K0 = K0 b := by kernel_rfl
/-! 67 : spec.l2N -/
def c67 (k : Nat) (wide vars n1 n11 : Int) : R := evF P E T k 67 [.s (.c (.p (PV.int .i64 wide))), .s (.c (.p (PV.int .i64 vars))), .s (.c (.p (PV.agg [.int .i64 n1, .int .u64 n11])))] []
def r67 (b : Bool) : R := some ([.c (.p (PV.bool b))], [])
def R67 (x0 : R) (K0 : Bool → R) : R := x0.bind fun q0 => bif lensB q0.2 [] && lensS q0.1 [.c (.p (.bool))] then (cBool (resAt q0.1 0)).bind fun b => K0 b else none
@[simp] theorem R67_r (b : Bool) (K0 : Bool → R) : R67 (r67 b) K0 = K0 b := by kernel_rfl
/-! 68 : spec.DivWord -/
def c68 (k : Nat) (wide a b : Int) : R := evF P E T k 68 [.s (.c (.p (PV.int .i64 wide))), .s (.c (.p (PV.int .u64 a))), .s (.c (.p (PV.int .u64 b)))] []
def r68 (qr qr1 : Int) (b : Bool) : R := some ([.c (.p (PV.int .u64 qr)), .c (.p (PV.int .u64 qr1)), .c (.p (PV.bool b))], [])
def R68 (x0 : R) (K0 : Int → Int → Bool → R) : R := x0.bind fun q0 => bif lensB q0.2 [] && lensS q0.1 [.c (.p (.int .u64)), .c (.p (.int .u64)), .c (.p (.bool))] then (cInt (resAt q0.1 0) .u64).bind fun qr => (cInt (resAt q0.1 1) .u64).bind fun qr1 => (cBool (resAt q0.1 2)).bind fun b => K0 qr qr1 b else none
@[simp] theorem R68_r (qr qr1 : Int) (b : Bool) (K0 : Int → Int → Bool → R) : R68 (r68 qr qr1 b) K0 = K0 qr qr1 b := by kernel_rfl
/-! 69 : spec.l1Shift -/
def c69 (k : Nat) (wide a by1 : Int) (left : Bool) : R := evF P E T k 69 [.s (.c (.p (PV.int .i64 wide))), .s (.c (.p (PV.int .u64 a))), .s (.c (.p (PV.int .u64 by1))), .s (.c (.p (PV.bool left)))] []
def r69 (qr : Int) : R := some ([.c (.p (PV.int .u64 qr))], [])
def R69 (x0 : R) (K0 : Int → R) : R := x0.bind fun q0 => bif lensB q0.2 [] && lensS q0.1 [.c (.p (.int .u64))] then (cInt (resAt q0.1 0) .u64).bind fun qr => K0 qr else none
@[simp] theorem R69_r (qr : Int) (K0 : Int → R) : R69 (r69 qr) K0 = K0 qr := by kernel_rfl
def L69_1 (k n : Nat) (wide a by1 : Int) (left : Bool) : R := evLoopAt P E T k 69 [] [1, 1, 0, 0] [] n ⟨mkT 25 [(0, .s (.c (.p (PV.int .i64 wide)))), (1, .s (.c (.p (PV.int .u64 a)))), (2, .s (.c (.p (PV.int .u64 by1)))), (3, .s (.c (.p (PV.bool left))))], []⟩
/-! 70 : spec.l2Bool -/
def c70 (k : Nat) (is1 : Bool) : R := evF P E T k 70 [.s (.c (.p (PV.bool is1)))] []
def r70 (qr : Int) : R := some ([.c (.p (PV.int .u64 qr))], [])
def R70 (x0 : R) (K0 : Int → R) : R := x0.bind fun q0 => bif lensB q0.2 [] && lensS q0.1 [.c (.p (.int .u64))] then (cInt (resAt q0.1 0) .u64).bind fun qr => K0 qr else none
@[simp] theorem R70_r (qr : Int) (K0 : Int → R) : R70 (r70 qr) K0 = K0 qr := by kernel_rfl
/-! 71 : spec.l1Signed -/
def c71 (k : Nat) (wide a : Int) : R := evF P E T k 71 [.s (.c (.p (PV.int .i64 wide))), .s (.c (.p (PV.int .u64 a)))] []
def r71 (qr : Int) : R := some ([.c (.p (PV.int .i64 qr))], [])
def R71 (x0 : R) (K0 : Int → R) : R := x0.bind fun q0 => bif lensB q0.2 [] && lensS q0.1 [.c (.p (.int .i64))] then (cInt (resAt q0.1 0) .i64).bind fun qr => K0 qr else none
@[simp] theorem R71_r (qr : Int) (K0 : Int → R) : R71 (r71 qr) K0 = K0 qr := by kernel_rfl
/-! 74 : impl.areWords -/
def c74 (k : Nat) (wide a b : Int) : R := evF P E T k 74 [.s (.c (.p (PV.int .i64 wide))), .s (.c (.p (PV.int .u64 a))), .s (.c (.p (PV.int .u64 b)))] []
def r74 (b : Bool) : R := some ([.c (.p (PV.bool b))], [])
def R74 (x0 : R) (K0 : Bool → R) : R := x0.bind fun q0 => bif lensB q0.2 [] && lensS q0.1 [.c (.p (.bool))] then (cBool (resAt q0.1 0)).bind fun b => K0 b else none
@[simp] theorem R74_r (b : Bool) (K0 : Bool → R) : R74 (r74 b) K0 = K0 b := by kernel_rfl
/-! 75 : bits.Div64 -/
def c75 (k : Nat) (hi lo y : Int) : R := evF P E T k 75 [.s (.c (.p (PV.int .u64 hi))), .s (.c (.p (PV.int .u64 lo))), .s (.c (.p (PV.int .u64 y)))] []
def r75 (qr qr1 : Int) : R := some ([.c (.p (PV.int .u64 qr)), .c (.p (PV.int .u64 qr1))], [])
def R75 (x0 : R) (K0 : Int → Int → R) : R := x0.bind fun q0 => bif lensB q0.2 [] && lensS q0.1 [.c (.p (.int .u64)), .c (.p (.int .u64))] then (cInt (resAt q0.1 0) .u64).bind fun qr => (cInt (resAt q0.1 1) .u64).bind fun qr1 => K0 qr qr1 else none
@[simp] theorem R75_r (qr qr1 : Int) (K0 : Int → Int → R) : R75 (r75 qr qr1) K0 = K0 qr qr1 := by kernel_rfl
def L75_1 (k n : Nat) (y qs yn1 yn0 un32 un1 un0 q1 rhat : Int) : R := evLoopAt P E T k 75 [] [1, 1, 1, 1, 1, 1, 1, 1, 1, 1, 1, 1, 1, 1, 0, 0] [] n ⟨mkT 135 [(2, .s (.c (.p (PV.int .u64 y)))), (8, .s (.c (.p (PV.int .u64 qs)))), (9, .s (.c (.p (PV.int .u64 yn1)))), (10, .s (.c (.p (PV.int .u64 yn0)))), (11, .s (.c (.p (PV.int .u64 un32)))), (13, .s (.c (.p (PV.int .u64 un1)))), (14, .s (.c (.p (PV.int .u64 un0)))), (15, .s (.c (.p (PV.int .u64 q1)))), (16, .s (.c (.p (PV.int .u64 rhat))))], []⟩
def L75_2 (k n : Nat) (y qs yn1 yn0 un0 q1 rhat un21 q0 : Int) : R := evLoopAt P E T k 75 [] [1, 1, 1, 1, 1, 1, 1, 1, 1, 1, 1, 1, 1, 1, 1, 1, 1, 1, 0, 0] [] n ⟨mkT 135 [(2, .s (.c (.p (PV.int .u64 y)))), (8, .s (.c (.p (PV.int .u64 qs)))), (9, .s (.c (.p (PV.int .u64 yn1)))), (10, .s (.c (.p (PV.int .u64 yn0)))), (14, .s (.c (.p (PV.int .u64 un0)))), (15, .s (.c (.p (PV.int .u64 q1)))), (16, .s (.c (.p (PV.int .u64 rhat)))), (17, .s (.c (.p (PV.int .u64 un21)))), (18, .s (.c (.p (PV.int .u64 q0))))], []⟩
/-! 76 : spec.l1Both -/
def c76 (k : Nat) (wide a b : Int) : R := evF P E T k 76 [.s (.c (.p (PV.int .i64 wide))), .s (.c (.p (PV.int .u64 a))), .s (.c (.p (PV.int .u64 b)))] []
def r76 (b : Bool) : R := some ([.c (.p (PV.bool b))], [])
def R76 (x0 : R) (K0 : Bool → R) : R := x0.bind fun q0 => bif lensB q0.2 [] && lensS q0.1 [.c (.p (.bool))] then (cBool (resAt q0.1 0)).bind fun b => K0 b else none
@[simp] theorem R76_r (b : Bool) (K0 : Bool → R) : R76 (r76 b) K0 = K0 b := by kernel_rfl
/-! 87 : bits.Len64 -/
def c87 (k : Nat) (x : Int) : R := evF P E T k 87 [.s (.c (.p (PV.int .u64 x)))] []
def r87 (qr : Int) : R := some ([.c (.p (PV.int .i64 qr))], [])
def R87 (x0 : R) (K0 : Int → R) : R := x0.bind fun q0 => bif lensB q0.2 [] && lensS q0.1 [.c (.p (.int .i64))] then (cInt (resAt q0.1 0) .i64).bind fun qr => K0 qr else none
@[simp] theorem R87_r (qr : Int) (K0 : Int → R) : R87 (r87 qr) K0 = K0 qr := by kernel_rfl
/-! 88 : bits.LeadingZeros64 -/
def c88 (k : Nat) (x : Int) : R := evF P E T k 88 [.s (.c (.p (PV.int .u64 x)))] []
def r88 (qr : Int) : R := some ([.c (.p (PV.int .i64 qr))], [])
def R88 (x0 : R) (K0 : Int → R) : R := x0.bind fun q0 => bif lensB q0.2 [] && lensS q0.1 [.c (.p (.int .i64))] then (cInt (resAt q0.1 0) .i64).bind fun qr => K0 qr else none
@[simp] theorem R88_r (qr : Int) (K0 : Int → R) : R88 (r88 qr) K0 = K0 qr := by kernel_rfl
end
end Go.Proofs.Ytocmjgfbcpgaoaa
