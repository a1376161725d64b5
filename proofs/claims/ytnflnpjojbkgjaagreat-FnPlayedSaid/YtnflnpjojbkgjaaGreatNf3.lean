/- Normal forms: printed by nf.py. -/
import Derived.Test.YtnflnpjojbkgjaaGreatCs
set_option linter.unusedVariables false
set_option maxRecDepth 100000
namespace Go.Proofs.YtnflnpjojbkgjaaGreat
open Go.Dp
/-! 209 : spec.l1Cur).word -/
theorem n209 (k : Nat) (wide : Int) (l : List PV) (n1 n11 : Int) : c209 (k + 1) wide l n1 n11 =
 R91 (c91 k 5 l n1 n11) fun l1 v1 v2 v3 =>
 R91 (c91 k 5 l1 v1 v2) fun l2 v4 v5 v6 =>
 bif (v6 == 0) then
  R226 (c226 k l2 v4 v5) fun l3 v7 v8 v9 =>
  R85 (c85 k 30 l3 v7 v8) fun l4 v10 v11 b1 =>
  bif b1 then
   r209 l4 v10 v11 v9
  else
   R211 (c211 k wide v9) fun v12 =>
   r209 l4 v10 v11 v12
 else
  bif (v6 == 1) then
   R91 (c91 k 3 l2 v4 v5) fun l5 v13 v14 v15 =>
   R85 (c85 k 30 l5 v13 v14) fun l6 v16 v17 b2 =>
   bif b2 then
    r209 l6 v16 v17 (IntKind.u64.wrap (18446744073709551615 - (IntKind.u64.wrap v15)))
   else
    R211 (c211 k wide (IntKind.u64.wrap (18446744073709551615 - (IntKind.u64.wrap v15)))) fun v18 =>
    r209 l6 v16 v17 v18
  else
   bif (v6 == 2) then
    R91 (c91 k 64 l2 v4 v5) fun l7 v19 v20 v21 =>
    bif !decide (IntKind.u64.wrap v21 < 0) then
     R85 (c85 k 30 l7 v19 v20) fun l8 v22 v23 b3 =>
     bif b3 then
      r209 l8 v22 v23 (shlI .u64 1 (IntKind.u64.wrap v21))
     else
      R211 (c211 k wide (shlI .u64 1 (IntKind.u64.wrap v21))) fun v24 =>
      r209 l8 v22 v23 v24
    else none
   else
    R85 (c85 k 30 l2 v4 v5) fun l9 v25 v26 b4 =>
    bif b4 then
     r209 l9 v25 v26 (IntKind.u64.wrap v3)
    else
     R211 (c211 k wide (IntKind.u64.wrap v3)) fun v27 =>
     r209 l9 v25 v26 v27 := by kernel_rfl
/-! 210 : spec.GoodWord -/
theorem n210 (k : Nat) (wide a : Int) : c210 (k + 1) wide a =
 R189 (c189 k wide) fun b1 =>
 bif b1 then
  R211 (c211 k wide a) fun v1 =>
  r210 (v1 == a)
 else r210 false := by kernel_rfl
/-! 211 : spec.l1Cut -/
theorem n211 (k : Nat) (wide a : Int) : c211 (k + 1) wide a =
 L211_1 k k wide a 0 0 := by kernel_rfl
theorem sL211_1 (k n : Nat) (wide a out k1 : Int) : L211_1 k (n + 1) wide a out k1 =
 bif decide (k1 < wide) then
  bif !decide (IntKind.u64.wrap k1 < 0) then
   L211_1 k n wide a (bitsOp .or .u64 out (bitsOp .and .u64 a (shlI .u64 1 (IntKind.u64.wrap k1)))) (IntKind.i64.wrap (k1 + 1))
  else none
 else r211 out := by kernel_rfl
/-! 212 : spec.l2Do -/
theorem n212 (k : Nat) (wide op a b : Int) : c212 (k + 1) wide op a b =
 R227 (c227 k wide a b) fun v1 v2 b1 =>
 bif (op == 3) then
  R211 (c211 k wide (IntKind.u64.wrap (a + b))) fun v3 =>
  r212 v3
 else
  bif (op == 4) then
   R211 (c211 k wide (IntKind.u64.wrap (a - b))) fun v4 =>
   r212 v4
  else
   bif (op == 5) then
    R211 (c211 k wide (IntKind.u64.wrap (a * b))) fun v5 =>
    r212 v5
   else
    bif (op == 6) then
     r212 v1
    else
     bif (op == 7) then
      r212 v2
     else
      bif (op == 8) then
       r212 (bitsOp .and .u64 a b)
      else
       bif (op == 17) then
        r212 (bitsOp .and .u64 a b)
       else
        bif (op == 9) then
         r212 (bitsOp .or .u64 a b)
        else
         bif (op == 18) then
          r212 (bitsOp .or .u64 a b)
         else
          bif (op == 10) then
           r212 (bitsOp .xor .u64 a b)
          else
           bif (op == 11) then
            R228 (c228 k wide a b true) fun v6 =>
            r212 v6
           else
            bif (op == 12) then
            R228 (c228 k wide a b false) fun v7 =>
            r212 v7
            else
            bif (op == 14) then
            R229 (c229 k (a == b)) fun v8 =>
            r212 v8
            else
            bif (op == 15) then
            R229 (c229 k (decide (a < b))) fun v9 =>
            r212 v9
            else
            bif (op == 16) then
            R230 (c230 k wide a) fun v10 =>
            R230 (c230 k wide b) fun v11 =>
            R229 (c229 k (decide (v10 < v11))) fun v12 =>
            r212 v12
            else r212 0 := by kernel_rfl
/-! 213 : spec.l2From -/
theorem n213 (k : Nat) (t : List PV) (k1 : Int) : c213 (k + 1) t k1 =
 (lookP t k1).bind fun p1 =>
 (p1.atInt .i64 0).bind fun n1 =>
 R185 (c185 k n1) fun v1 v2 v3 =>
 L213_1 k k t v1 k1 := by kernel_rfl
theorem sL213_1 (k n : Nat) (t : List PV) (many from1 : Int) : L213_1 k (n + 1) t many from1 =
 bif decide (many > 0) then
  R213 (c213 k t (IntKind.i64.wrap (from1 - 1))) fun v1 =>
  L213_1 k n t (IntKind.i64.wrap (many - 1)) v1
 else r213 from1 := by kernel_rfl
/-! 221 : slices.IndexFunc[[]uint64,uint64] -/
theorem n221 (k : Nat) (qs : List PV) (n1 : Int) : c221 (k + 1) qs n1 =
 L221_1 k k qs (qs.length : Int) 0 n1 := by kernel_rfl
theorem sL221_1 (k n : Nat) (qs : List PV) (t7 t8 n1 : Int) : L221_1 k (n + 1) qs t7 t8 n1 =
 bif decide (t8 < t7) then
  (lookP qs t8).bind fun p1 =>
  (p1.atInt .u64 0).bind fun n2 =>
  R207 (c207 k n2 n1) fun v1 b1 =>
  bif b1 then
   r221 v1 t8
  else L221_1 k n qs t7 (IntKind.i64.wrap (t8 + 1)) v1
 else r221 n1 (-1) := by kernel_rfl
/-! 222 : impl.DivWord -/
theorem n222 (k : Nat) (wide a b : Int) : c222 (k + 1) wide a b =
 R232 (c232 k wide a b) fun b1 =>
 bif !b1 then
  r222 0 0 false
 else
  bif (b == 0) then
   R105 (c105 k wide) fun v1 =>
   r222 v1 a true
  else
   R233 (c233 k 0 a b) fun v2 v3 =>
   r222 v2 v3 true := by kernel_rfl
/-! 223 : impl.shift -/
theorem n223 (k : Nat) (wide a by1 : Int) (left : Bool) : c223 (k + 1) wide a by1 left =
 bif decide (by1 ≥ IntKind.u64.wrap wide) then
  r223 0
 else
  bif left then
   bif !decide (by1 < 0) then
    R105 (c105 k wide) fun v1 =>
    r223 (bitsOp .and .u64 (shlI .u64 a by1) v1)
   else none
  else
   bif !decide (by1 < 0) then
    r223 (shrI .u64 a by1)
   else none := by kernel_rfl
/-! 224 : impl.truth -/
theorem n224 (k : Nat) (holds : Bool) : c224 (k + 1) holds =
 bif holds then
  r224 1
 else r224 0 := by kernel_rfl
/-! 225 : impl.signed -/
theorem n225 (k : Nat) (wide a : Int) : c225 (k + 1) wide a =
 bif !decide (IntKind.i64.wrap (64 - wide) < 0) then
  bif !decide (IntKind.i64.wrap (64 - wide) < 0) then
   r225 (shrI .i64 (IntKind.i64.wrap (shlI .u64 a (IntKind.i64.wrap (64 - wide)))) (IntKind.i64.wrap (64 - wide)))
  else none
 else none := by kernel_rfl
/-! 226 : spec.l1Cur).long -/
theorem n226 (k : Nat) (l : List PV) (n1 n11 : Int) : c226 (k + 1) l n1 n11 =
 L226_1 k k 0 0 l n1 n11 := by kernel_rfl
theorem sL226_1 (k n : Nat) (n1 i : Int) (l : List PV) (n11 n12 : Int) : L226_1 k (n + 1) n1 i l n11 n12 =
 bif decide (i < 8) then
  R167 (c167 k l n11 n12) fun l1 v1 v2 v3 =>
  L226_1 k n (bitsOp .or .u64 (shlI .u64 n1 8) (IntKind.u64.wrap v3)) (IntKind.i64.wrap (i + 1)) l1 v1 v2
 else r226 l n11 n12 n1 := by kernel_rfl
/-! 227 : spec.DivWord -/
theorem n227 (k : Nat) (wide a b : Int) : c227 (k + 1) wide a b =
 R234 (c234 k wide a b) fun b1 =>
 bif !b1 then
  r227 0 0 false
 else
  bif (b == 0) then
   R211 (c211 k wide 18446744073709551615) fun v1 =>
   r227 v1 a true
  else
   bif !(b == 0) then
    bif !(b == 0) then
     r227 (IntKind.u64.wrap (a.tdiv b)) (a.tmod b) true
    else none
   else none := by kernel_rfl
/-! 228 : spec.l1Shift -/
theorem n228 (k : Nat) (wide a by1 : Int) (left : Bool) : c228 (k + 1) wide a by1 left =
 bif decide (by1 ≥ IntKind.u64.wrap wide) then
  r228 0
 else L228_1 k k wide a by1 left := by kernel_rfl
theorem sL228_1 (k n : Nat) (wide a by1 : Int) (left : Bool) : L228_1 k (n + 1) wide a by1 left =
 bif decide (by1 > 0) then
  bif left then
   R211 (c211 k wide (shlI .u64 a 1)) fun v1 =>
   L228_1 k n wide v1 (IntKind.u64.wrap (by1 - 1)) left
  else L228_1 k n wide (shrI .u64 a 1) (IntKind.u64.wrap (by1 - 1)) left
 else r228 a := by kernel_rfl
/-! 229 : spec.l2Bool -/
theorem n229 (k : Nat) (is1 : Bool) : c229 (k + 1) is1 =
 bif is1 then
  r229 1
 else r229 0 := by kernel_rfl
/-! 230 : spec.l1Signed -/
theorem n230 (k : Nat) (wide a : Int) : c230 (k + 1) wide a =
 bif !decide (IntKind.u64.wrap (IntKind.i64.wrap (wide - 1)) < 0) then
  bif (bitsOp .and .u64 (shrI .u64 a (IntKind.u64.wrap (IntKind.i64.wrap (wide - 1)))) 1 == 1) then
   R211 (c211 k wide 18446744073709551615) fun v1 =>
   r230 (IntKind.i64.wrap (bitsOp .or .u64 a (bitsOp .xor .u64 18446744073709551615 v1)))
  else r230 (IntKind.i64.wrap a)
 else none := by kernel_rfl
/-! 232 : impl.areWords -/
theorem n232 (k : Nat) (wide a b : Int) : c232 (k + 1) wide a b =
 R194 (c194 k wide a) fun b1 =>
 bif b1 then
  R194 (c194 k wide b) fun b2 =>
  r232 b2
 else r232 false := by kernel_rfl
/-! 233 : bits.Div64 -/
theorem n233 (k : Nat) (hi lo y : Int) : c233 (k + 1) hi lo y =
 bif (y == 0) then
  none
 else
  bif decide (y ≤ hi) then
   none
  else
   bif (hi == 0) then
    bif !(y == 0) then
     bif !(y == 0) then
      r233 (IntKind.u64.wrap (lo.tdiv y)) (lo.tmod y)
     else none
    else none
   else
    R235 (c235 k y) fun v1 =>
    bif !decide (IntKind.u64.wrap v1 < 0) then
     bif !decide (IntKind.u64.wrap v1 < 0) then
      bif !decide (IntKind.u64.wrap (64 - (IntKind.u64.wrap v1)) < 0) then
       bif !decide (IntKind.u64.wrap v1 < 0) then
        bif !(shrI .u64 (shlI .u64 y (IntKind.u64.wrap v1)) 32 == 0) then
         L233_1 k k (shlI .u64 y (IntKind.u64.wrap v1)) (IntKind.u64.wrap v1) (shrI .u64 (shlI .u64 y (IntKind.u64.wrap v1)) 32) (bitsOp .and .u64 (shlI .u64 y (IntKind.u64.wrap v1)) 4294967295) (bitsOp .or .u64 (shlI .u64 hi (IntKind.u64.wrap v1)) (shrI .u64 lo (IntKind.u64.wrap (64 - (IntKind.u64.wrap v1))))) (shrI .u64 (shlI .u64 lo (IntKind.u64.wrap v1)) 32) (bitsOp .and .u64 (shlI .u64 lo (IntKind.u64.wrap v1)) 4294967295) (IntKind.u64.wrap ((bitsOp .or .u64 (shlI .u64 hi (IntKind.u64.wrap v1)) (shrI .u64 lo (IntKind.u64.wrap (64 - (IntKind.u64.wrap v1))))).tdiv (shrI .u64 (shlI .u64 y (IntKind.u64.wrap v1)) 32))) (IntKind.u64.wrap ((bitsOp .or .u64 (shlI .u64 hi (IntKind.u64.wrap v1)) (shrI .u64 lo (IntKind.u64.wrap (64 - (IntKind.u64.wrap v1))))) - (IntKind.u64.wrap ((IntKind.u64.wrap ((bitsOp .or .u64 (shlI .u64 hi (IntKind.u64.wrap v1)) (shrI .u64 lo (IntKind.u64.wrap (64 - (IntKind.u64.wrap v1))))).tdiv (shrI .u64 (shlI .u64 y (IntKind.u64.wrap v1)) 32))) * (shrI .u64 (shlI .u64 y (IntKind.u64.wrap v1)) 32)))))
        else none
       else none
      else none
     else none
    else none := by kernel_rfl
theorem sL233_1 (k n : Nat) (y qs yn1 yn0 un32 un1 un0 q1 rhat : Int) : L233_1 k (n + 1) y qs yn1 yn0 un32 un1 un0 q1 rhat =
 bif decide (q1 ≥ 4294967296) then
  bif decide (IntKind.u64.wrap (rhat + yn1) ≥ 4294967296) then
   bif !(yn1 == 0) then
    L233_2 k k y qs yn1 yn0 un0 (IntKind.u64.wrap (q1 - 1)) (IntKind.u64.wrap ((IntKind.u64.wrap ((IntKind.u64.wrap ((IntKind.u64.wrap (un32 * 4294967296)) + un1)) - (IntKind.u64.wrap ((IntKind.u64.wrap (q1 - 1)) * y)))) - (IntKind.u64.wrap ((IntKind.u64.wrap ((IntKind.u64.wrap ((IntKind.u64.wrap ((IntKind.u64.wrap (un32 * 4294967296)) + un1)) - (IntKind.u64.wrap ((IntKind.u64.wrap (q1 - 1)) * y)))).tdiv yn1)) * yn1)))) (IntKind.u64.wrap ((IntKind.u64.wrap ((IntKind.u64.wrap (un32 * 4294967296)) + un1)) - (IntKind.u64.wrap ((IntKind.u64.wrap (q1 - 1)) * y)))) (IntKind.u64.wrap ((IntKind.u64.wrap ((IntKind.u64.wrap ((IntKind.u64.wrap (un32 * 4294967296)) + un1)) - (IntKind.u64.wrap ((IntKind.u64.wrap (q1 - 1)) * y)))).tdiv yn1))
   else none
  else L233_1 k n y qs yn1 yn0 un32 un1 un0 (IntKind.u64.wrap (q1 - 1)) (IntKind.u64.wrap (rhat + yn1))
 else
  bif decide (IntKind.u64.wrap (q1 * yn0) > IntKind.u64.wrap ((IntKind.u64.wrap (4294967296 * rhat)) + un1)) then
   bif decide (IntKind.u64.wrap (rhat + yn1) ≥ 4294967296) then
    bif !(yn1 == 0) then
     L233_2 k k y qs yn1 yn0 un0 (IntKind.u64.wrap (q1 - 1)) (IntKind.u64.wrap ((IntKind.u64.wrap ((IntKind.u64.wrap ((IntKind.u64.wrap (un32 * 4294967296)) + un1)) - (IntKind.u64.wrap ((IntKind.u64.wrap (q1 - 1)) * y)))) - (IntKind.u64.wrap ((IntKind.u64.wrap ((IntKind.u64.wrap ((IntKind.u64.wrap ((IntKind.u64.wrap (un32 * 4294967296)) + un1)) - (IntKind.u64.wrap ((IntKind.u64.wrap (q1 - 1)) * y)))).tdiv yn1)) * yn1)))) (IntKind.u64.wrap ((IntKind.u64.wrap ((IntKind.u64.wrap (un32 * 4294967296)) + un1)) - (IntKind.u64.wrap ((IntKind.u64.wrap (q1 - 1)) * y)))) (IntKind.u64.wrap ((IntKind.u64.wrap ((IntKind.u64.wrap ((IntKind.u64.wrap (un32 * 4294967296)) + un1)) - (IntKind.u64.wrap ((IntKind.u64.wrap (q1 - 1)) * y)))).tdiv yn1))
    else none
   else L233_1 k n y qs yn1 yn0 un32 un1 un0 (IntKind.u64.wrap (q1 - 1)) (IntKind.u64.wrap (rhat + yn1))
  else
   bif !(yn1 == 0) then
    L233_2 k k y qs yn1 yn0 un0 q1 (IntKind.u64.wrap ((IntKind.u64.wrap ((IntKind.u64.wrap ((IntKind.u64.wrap (un32 * 4294967296)) + un1)) - (IntKind.u64.wrap (q1 * y)))) - (IntKind.u64.wrap ((IntKind.u64.wrap ((IntKind.u64.wrap ((IntKind.u64.wrap ((IntKind.u64.wrap (un32 * 4294967296)) + un1)) - (IntKind.u64.wrap (q1 * y)))).tdiv yn1)) * yn1)))) (IntKind.u64.wrap ((IntKind.u64.wrap ((IntKind.u64.wrap (un32 * 4294967296)) + un1)) - (IntKind.u64.wrap (q1 * y)))) (IntKind.u64.wrap ((IntKind.u64.wrap ((IntKind.u64.wrap ((IntKind.u64.wrap (un32 * 4294967296)) + un1)) - (IntKind.u64.wrap (q1 * y)))).tdiv yn1))
   else none := by kernel_rfl
theorem sL233_2 (k n : Nat) (y qs yn1 yn0 un0 q1 rhat un21 q0 : Int) : L233_2 k (n + 1) y qs yn1 yn0 un0 q1 rhat un21 q0 =
 bif decide (q0 ≥ 4294967296) then
  bif decide (IntKind.u64.wrap (rhat + yn1) ≥ 4294967296) then
   bif !decide (qs < 0) then
    r233 (IntKind.u64.wrap ((IntKind.u64.wrap (q1 * 4294967296)) + (IntKind.u64.wrap (q0 - 1)))) (shrI .u64 (IntKind.u64.wrap ((IntKind.u64.wrap ((IntKind.u64.wrap (un21 * 4294967296)) + un0)) - (IntKind.u64.wrap ((IntKind.u64.wrap (q0 - 1)) * y)))) qs)
   else none
  else L233_2 k n y qs yn1 yn0 un0 q1 (IntKind.u64.wrap (rhat + yn1)) un21 (IntKind.u64.wrap (q0 - 1))
 else
  bif decide (IntKind.u64.wrap (q0 * yn0) > IntKind.u64.wrap ((IntKind.u64.wrap (4294967296 * rhat)) + un0)) then
   bif decide (IntKind.u64.wrap (rhat + yn1) ≥ 4294967296) then
    bif !decide (qs < 0) then
     r233 (IntKind.u64.wrap ((IntKind.u64.wrap (q1 * 4294967296)) + (IntKind.u64.wrap (q0 - 1)))) (shrI .u64 (IntKind.u64.wrap ((IntKind.u64.wrap ((IntKind.u64.wrap (un21 * 4294967296)) + un0)) - (IntKind.u64.wrap ((IntKind.u64.wrap (q0 - 1)) * y)))) qs)
    else none
   else L233_2 k n y qs yn1 yn0 un0 q1 (IntKind.u64.wrap (rhat + yn1)) un21 (IntKind.u64.wrap (q0 - 1))
  else
   bif !decide (qs < 0) then
    r233 (IntKind.u64.wrap ((IntKind.u64.wrap (q1 * 4294967296)) + q0)) (shrI .u64 (IntKind.u64.wrap ((IntKind.u64.wrap ((IntKind.u64.wrap (un21 * 4294967296)) + un0)) - (IntKind.u64.wrap (q0 * y)))) qs)
   else none := by kernel_rfl
/-! 234 : spec.l1Both -/
theorem n234 (k : Nat) (wide a b : Int) : c234 (k + 1) wide a b =
 R210 (c210 k wide a) fun b1 =>
 bif b1 then
  R210 (c210 k wide b) fun b2 =>
  r234 b2
 else r234 false := by kernel_rfl
/-! 235 : bits.LeadingZeros64 -/
theorem n235 (k : Nat) (x : Int) : c235 (k + 1) x =
 R205 (c205 k x) fun v1 =>
 r235 (IntKind.i64.wrap (64 - v1)) := by kernel_rfl
end Go.Proofs.YtnflnpjojbkgjaaGreat
