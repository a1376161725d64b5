/- Calls and loops of the program, by shape: printed by nf.py. -/
import Derived.Test.YtnliglgellapdaaEnv
set_option linter.unusedVariables false
namespace Go.Proofs.Ytnliglgellapdaa
open Go.Dp
noncomputable section
/-! 3 : laws.FnExactLineAt -/
def c3 (k : Nat) (aS : ByteArray) (aAt : Int) : R := evF P E T k 3 [.s (.c (.p (PV.str aS))), .s (.c (.p (PV.int .i64 aAt)))] []
def r3 (b : Bool) : R := some ([.c (.p (PV.bool b))], [])
def R3 (x0 : R) (K0 : Bool → R) : R := x0.bind fun q0 => bif lensB q0.2 [] && lensS q0.1 [.c (.p (.bool))] then (cBool (resAt q0.1 0)).bind fun b => K0 b else none
@[simp] theorem R3_r (b : Bool) (K0 : Bool → R) : R3 (r3 b) K0 = K0 b := by kernel_rfl
/-! 9 : spec.LineAt -/
def c9 (k : Nat) (qs : ByteArray) (at1 : Int) : R := evF P E T k 9 [.s (.c (.p (PV.str qs))), .s (.c (.p (PV.int .i64 at1)))] []
def r9 (qr qr1 : Int) (b : Bool) : R := some ([.c (.p (PV.int .i64 qr)), .c (.p (PV.int .i64 qr1)), .c (.p (PV.bool b))], [])
def R9 (x0 : R) (K0 : Int → Int → Bool → R) : R := x0.bind fun q0 => bif lensB q0.2 [] && lensS q0.1 [.c (.p (.int .i64)), .c (.p (.int .i64)), .c (.p (.bool))] then (cInt (resAt q0.1 0) .i64).bind fun qr => (cInt (resAt q0.1 1) .i64).bind fun qr1 => (cBool (resAt q0.1 2)).bind fun b => K0 qr qr1 b else none
@[simp] theorem R9_r (qr qr1 : Int) (b : Bool) (K0 : Int → Int → Bool → R) : R9 (r9 qr qr1 b) K0 = K0 qr qr1 b := by kernel_rfl
def L9_1 (k n : Nat) (qs : ByteArray) (at1 line ahead i : Int) : R := evLoopAt P E T k 9 [] [1, 1, 1, 1, 0, 1, 0] [] n ⟨mkT 35 [(0, .s (.c (.p (PV.str qs)))), (1, .s (.c (.p (PV.int .i64 at1)))), (7, .s (.c (.p (PV.int .i64 line)))), (8, .s (.c (.p (PV.int .i64 ahead)))), (9, .s (.c (.p (PV.int .i64 i))))], []⟩
/-! 10 : impl.LineAt -/
def c10 (k : Nat) (qs : ByteArray) (at1 : Int) : R := evF P E T k 10 [.s (.c (.p (PV.str qs))), .s (.c (.p (PV.int .i64 at1)))] []
def r10 (qr qr1 : Int) (b : Bool) : R := some ([.c (.p (PV.int .i64 qr)), .c (.p (PV.int .i64 qr1)), .c (.p (PV.bool b))], [])
def R10 (x0 : R) (K0 : Int → Int → Bool → R) : R := x0.bind fun q0 => bif lensB q0.2 [] && lensS q0.1 [.c (.p (.int .i64)), .c (.p (.int .i64)), .c (.p (.bool))] then (cInt (resAt q0.1 0) .i64).bind fun qr => (cInt (resAt q0.1 1) .i64).bind fun qr1 => (cBool (resAt q0.1 2)).bind fun b => K0 qr qr1 b else none
@[simp] theorem R10_r (qr qr1 : Int) (b : Bool) (K0 : Int → Int → Bool → R) : R10 (r10 qr qr1 b) K0 = K0 qr qr1 b := by kernel_rfl
/-! 54 : spec.l1In -/
def c54 (k : Nat) (n1 lo hi : Int) : R := evF P E T k 54 [.s (.c (.p (PV.int .i64 n1))), .s (.c (.p (PV.int .i64 lo))), .s (.c (.p (PV.int .i64 hi)))] []
def r54 (b : Bool) : R := some ([.c (.p (PV.bool b))], [])
def R54 (x0 : R) (K0 : Bool → R) : R := x0.bind fun q0 => bif lensB q0.2 [] && lensS q0.1 [.c (.p (.bool))] then (cBool (resAt q0.1 0)).bind fun b => K0 b else none
@[simp] theorem R54_r (b : Bool) (K0 : Bool → R) : R54 (r54 b) K0 = K0 b := by kernel_rfl
/-! 55 : strings.Count -/
def c55 (k : Nat) (qs substr : ByteArray) : R := evF P E T k 55 [.s (.c (.p (PV.str qs))), .s (.c (.p (PV.str substr)))] []
def r55 (qr : Int) : R := some ([.c (.p (PV.int .i64 qr))], [])
def R55 (x0 : R) (K0 : Int → R) : R := x0.bind fun q0 => bif lensB q0.2 [] && lensS q0.1 [.c (.p (.int .i64))] then (cInt (resAt q0.1 0) .i64).bind fun qr => K0 qr else none
@[simp] theorem R55_r (qr : Int) (K0 : Int → R) : R55 (r55 qr) K0 = K0 qr := by kernel_rfl
/-! 56 : strings.LastIndex -/
def c56 (k : Nat) (qs substr : ByteArray) : R := evF P E T k 56 [.s (.c (.p (PV.str qs))), .s (.c (.p (PV.str substr)))] []
def r56 (qr : Int) : R := some ([.c (.p (PV.int .i64 qr))], [])
def R56 (x0 : R) (K0 : Int → R) : R := x0.bind fun q0 => bif lensB q0.2 [] && lensS q0.1 [.c (.p (.int .i64))] then (cInt (resAt q0.1 0) .i64).bind fun qr => K0 qr else none
@[simp] theorem R56_r (qr : Int) (K0 : Int → R) : R56 (r56 qr) K0 = K0 qr := by kernel_rfl
/-! 127 : bytealg.LastIndexByteString -/
def c127 (k : Nat) (qs : ByteArray) (qc : Int) : R := evF P E T k 127 [.s (.c (.p (PV.str qs))), .s (.c (.p (PV.int .u8 qc)))] []
def r127 (qr : Int) : R := some ([.c (.p (PV.int .i64 qr))], [])
def R127 (x0 : R) (K0 : Int → R) : R := x0.bind fun q0 => bif lensB q0.2 [] && lensS q0.1 [.c (.p (.int .i64))] then (cInt (resAt q0.1 0) .i64).bind fun qr => K0 qr else none
@[simp] theorem R127_r (qr : Int) (K0 : Int → R) : R127 (r127 qr) K0 = K0 qr := by kernel_rfl
def L127_1 (k n : Nat) (qs : ByteArray) (qc i : Int) : R := evLoopAt P E T k 127 [] [1, 0, 1, 0] [] n ⟨mkT 19 [(0, .s (.c (.p (PV.str qs)))), (1, .s (.c (.p (PV.int .u8 qc)))), (5, .s (.c (.p (PV.int .i64 i))))], []⟩
/-! 128 : bytealg.LastIndexRabinKarp[string] -/
def c128 (k : Nat) (qs sep : ByteArray) : R := evF P E T k 128 [.s (.c (.p (PV.str qs))), .s (.c (.p (PV.str sep)))] []
def r128 (qr : Int) : R := some ([.c (.p (PV.int .i64 qr))], [])
def R128 (x0 : R) (K0 : Int → R) : R := x0.bind fun q0 => bif lensB q0.2 [] && lensS q0.1 [.c (.p (.int .i64))] then (cInt (resAt q0.1 0) .i64).bind fun qr => K0 qr else none
@[simp] theorem R128_r (qr : Int) (K0 : Int → R) : R128 (r128 qr) K0 = K0 qr := by kernel_rfl
def L128_1 (k n : Nat) (qs sep : ByteArray) (hashss pow n1 last h i : Int) : R := evLoopAt P E T k 128 [] [1, 1, 1, 1, 1, 0, 1, 0] [] n ⟨mkT 87 [(0, .s (.c (.p (PV.str qs)))), (1, .s (.c (.p (PV.str sep)))), (5, .s (.c (.p (PV.int .u32 hashss)))), (6, .s (.c (.p (PV.int .u32 pow)))), (7, .s (.c (.p (PV.int .i64 n1)))), (8, .s (.c (.p (PV.int .i64 last)))), (9, .s (.c (.p (PV.int .u32 h)))), (10, .s (.c (.p (PV.int .i64 i))))], []⟩
def L128_2 (k n : Nat) (qs sep : ByteArray) (hashss pow n1 h i : Int) : R := evLoopAt P E T k 128 [] [1, 1, 1, 1, 1, 1, 1, 0, 1, 0] [] n ⟨mkT 87 [(0, .s (.c (.p (PV.str qs)))), (1, .s (.c (.p (PV.str sep)))), (5, .s (.c (.p (PV.int .u32 hashss)))), (6, .s (.c (.p (PV.int .u32 pow)))), (7, .s (.c (.p (PV.int .i64 n1)))), (9, .s (.c (.p (PV.int .u32 h)))), (11, .s (.c (.p (PV.int .i64 i))))], []⟩
/-! 160 : bytealg.hashStrRev[string] -/
def c160 (k : Nat) (sep : ByteArray) : R := evF P E T k 160 [.s (.c (.p (PV.str sep)))] []
def r160 (qr qr1 : Int) : R := some ([.c (.p (PV.int .u32 qr)), .c (.p (PV.int .u32 qr1))], [])
def R160 (x0 : R) (K0 : Int → Int → R) : R := x0.bind fun q0 => bif lensB q0.2 [] && lensS q0.1 [.c (.p (.int .u32)), .c (.p (.int .u32))] then (cInt (resAt q0.1 0) .u32).bind fun qr => (cInt (resAt q0.1 1) .u32).bind fun qr1 => K0 qr qr1 else none
@[simp] theorem R160_r (qr qr1 : Int) (K0 : Int → Int → R) : R160 (r160 qr qr1) K0 = K0 qr qr1 := by kernel_rfl
def L160_1 (k n : Nat) (sep : ByteArray) (hash i : Int) : R := evLoopAt P E T k 160 [] [1, 1, 0, 1, 0] [] n ⟨mkT 40 [(0, .s (.c (.p (PV.str sep)))), (4, .s (.c (.p (PV.int .u32 hash)))), (5, .s (.c (.p (PV.int .i64 i))))], []⟩
def L160_2 (k n : Nat) (hash pow sq i : Int) : R := evLoopAt P E T k 160 [] [1, 1, 1, 1, 0, 1, 0] [] n ⟨mkT 40 [(4, .s (.c (.p (PV.int .u32 hash)))), (6, .s (.c (.p (PV.int .u32 pow)))), (7, .s (.c (.p (PV.int .u32 sq)))), (8, .s (.c (.p (PV.int .i64 i))))], []⟩
end
end Go.Proofs.Ytnliglgellapdaa
