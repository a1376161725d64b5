/- Normal forms: printed by nf.py. -/
import Derived.Test.YtocmjgfbcpgaoaaCs
set_option linter.unusedVariables false
set_option maxRecDepth 100000
namespace Go.Proofs.Ytocmjgfbcpgaoaa
open Go.Dp
/-! 56 : spec.l1Put -/
theorem n56 (k : Nat) (l : List PV) (n1 : Int) : c56 (k + 1) l n1 =
 L56_1 k k l n1 0 := by kernel_rfl
theorem sL56_1 (k n : Nat) (l : List PV) (n1 k1 : Int) : L56_1 k (n + 1) l n1 k1 =
 bif decide (k1 < (l.length : Int)) then
  (lookP l k1).bind fun p1 =>
  (p1.atInt .i64 0).bind fun n2 =>
  bif decide (n2 < n1) then
   L56_1 k n l n1 (IntKind.i64.wrap (k1 + 1))
  else
   bif decide (k1 < (l.length : Int)) then
    (lookP l k1).bind fun p2 =>
    (p2.atInt .i64 0).bind fun n3 =>
    bif (n3 == n1) then
     r56 l
    else
     bif decide ((0 : Int) ≤ k1) && decide (k1 ≤ (l.length : Int)) then
      bif decide ((0 + ((l.take k1.toNat).length)) * 8 ≤ LIM) && decide (0 + ((l.take k1.toNat).length) ≤ LIM) then
       bif decide (((0 + ((l.take k1.toNat).length)) + 1) * 8 ≤ LIM) && decide ((0 + ((l.take k1.toNat).length)) + 1 ≤ LIM) then
        bif decide ((0 : Int) ≤ k1) && decide (k1 ≤ (l.length : Int)) && decide ((l.length : Int) ≤ (l.length : Int)) then
         bif decide ((((0 + ((l.take k1.toNat).length)) + 1) + (((l.take l.length).drop k1.toNat).length)) * 8 ≤ LIM) && decide (((0 + ((l.take k1.toNat).length)) + 1) + (((l.take l.length).drop k1.toNat).length) ≤ LIM) then
          r56 (((((([] ++ (l.take k1.toNat)).take (0 + ((l.take k1.toNat).length))) ++ [PV.int .i64 n1]).take ((0 + ((l.take k1.toNat).length)) + 1)) ++ ((l.take l.length).drop k1.toNat)).take (((0 + ((l.take k1.toNat).length)) + 1) + (((l.take l.length).drop k1.toNat).length)))
         else none
        else none
       else none
      else none
     else none
   else
    bif decide ((0 : Int) ≤ k1) && decide (k1 ≤ (l.length : Int)) then
     bif decide ((0 + ((l.take k1.toNat).length)) * 8 ≤ LIM) && decide (0 + ((l.take k1.toNat).length) ≤ LIM) then
      bif decide (((0 + ((l.take k1.toNat).length)) + 1) * 8 ≤ LIM) && decide ((0 + ((l.take k1.toNat).length)) + 1 ≤ LIM) then
       bif decide ((0 : Int) ≤ k1) && decide (k1 ≤ (l.length : Int)) && decide ((l.length : Int) ≤ (l.length : Int)) then
        bif decide ((((0 + ((l.take k1.toNat).length)) + 1) + (((l.take l.length).drop k1.toNat).length)) * 8 ≤ LIM) && decide (((0 + ((l.take k1.toNat).length)) + 1) + (((l.take l.length).drop k1.toNat).length) ≤ LIM) then
         r56 (((((([] ++ (l.take k1.toNat)).take (0 + ((l.take k1.toNat).length))) ++ [PV.int .i64 n1]).take ((0 + ((l.take k1.toNat).length)) + 1)) ++ ((l.take l.length).drop k1.toNat)).take (((0 + ((l.take k1.toNat).length)) + 1) + (((l.take l.length).drop k1.toNat).length)))
        else none
       else none
      else none
     else none
    else none
 else
  bif decide (k1 < (l.length : Int)) then
   (lookP l k1).bind fun p3 =>
   (p3.atInt .i64 0).bind fun n4 =>
   bif (n4 == n1) then
    r56 l
   else
    bif decide ((0 : Int) ≤ k1) && decide (k1 ≤ (l.length : Int)) then
     bif decide ((0 + ((l.take k1.toNat).length)) * 8 ≤ LIM) && decide (0 + ((l.take k1.toNat).length) ≤ LIM) then
      bif decide (((0 + ((l.take k1.toNat).length)) + 1) * 8 ≤ LIM) && decide ((0 + ((l.take k1.toNat).length)) + 1 ≤ LIM) then
       bif decide ((0 : Int) ≤ k1) && decide (k1 ≤ (l.length : Int)) && decide ((l.length : Int) ≤ (l.length : Int)) then
        bif decide ((((0 + ((l.take k1.toNat).length)) + 1) + (((l.take l.length).drop k1.toNat).length)) * 8 ≤ LIM) && decide (((0 + ((l.take k1.toNat).length)) + 1) + (((l.take l.length).drop k1.toNat).length) ≤ LIM) then
         r56 (((((([] ++ (l.take k1.toNat)).take (0 + ((l.take k1.toNat).length))) ++ [PV.int .i64 n1]).take ((0 + ((l.take k1.toNat).length)) + 1)) ++ ((l.take l.length).drop k1.toNat)).take (((0 + ((l.take k1.toNat).length)) + 1) + (((l.take l.length).drop k1.toNat).length)))
        else none
       else none
      else none
     else none
    else none
  else
   bif decide ((0 : Int) ≤ k1) && decide (k1 ≤ (l.length : Int)) then
    bif decide ((0 + ((l.take k1.toNat).length)) * 8 ≤ LIM) && decide (0 + ((l.take k1.toNat).length) ≤ LIM) then
     bif decide (((0 + ((l.take k1.toNat).length)) + 1) * 8 ≤ LIM) && decide ((0 + ((l.take k1.toNat).length)) + 1 ≤ LIM) then
      bif decide ((0 : Int) ≤ k1) && decide (k1 ≤ (l.length : Int)) && decide ((l.length : Int) ≤ (l.length : Int)) then
       bif decide ((((0 + ((l.take k1.toNat).length)) + 1) + (((l.take l.length).drop k1.toNat).length)) * 8 ≤ LIM) && decide (((0 + ((l.take k1.toNat).length)) + 1) + (((l.take l.length).drop k1.toNat).length) ≤ LIM) then
        r56 (((((([] ++ (l.take k1.toNat)).take (0 + ((l.take k1.toNat).length))) ++ [PV.int .i64 n1]).take ((0 + ((l.take k1.toNat).length)) + 1)) ++ ((l.take l.length).drop k1.toNat)).take (((0 + ((l.take k1.toNat).length)) + 1) + (((l.take l.length).drop k1.toNat).length)))
       else none
      else none
     else none
    else none
   else none := by kernel_rfl
/-! 57 : spec.l1Cur).next -/
theorem n57 (k : Nat) (l : List PV) (n1 n11 : Int) : c57 (k + 1) l n1 n11 =
 bif decide (n1 < (l.length : Int)) then
  (lookP l n1).bind fun p1 =>
  (p1.atInt .u8 0).bind fun n2 =>
  bif decide (IntKind.i64.wrap (n1 + 1) ≤ (l.length : Int)) then
   r57 l (IntKind.i64.wrap (n1 + 1)) (IntKind.u64.wrap ((IntKind.u64.wrap ((IntKind.u64.wrap (n11 * 6364136223846793005)) + (IntKind.u64.wrap (IntKind.i64.wrap n2)))) + 1442695040888963407)) (IntKind.i64.wrap n2)
  else r57 l (IntKind.i64.wrap (n1 + 1)) (IntKind.u64.wrap ((IntKind.u64.wrap ((IntKind.u64.wrap (n11 * 6364136223846793005)) + (IntKind.u64.wrap (IntKind.i64.wrap n2)))) + 1442695040888963407)) (IntKind.i64.wrap (bitsOp .and .u64 (shrI .u64 (IntKind.u64.wrap ((IntKind.u64.wrap ((IntKind.u64.wrap (n11 * 6364136223846793005)) + (IntKind.u64.wrap (IntKind.i64.wrap n2)))) + 1442695040888963407)) 40) 255))
 else
  bif decide (IntKind.i64.wrap (n1 + 1) ≤ (l.length : Int)) then
   r57 l (IntKind.i64.wrap (n1 + 1)) (IntKind.u64.wrap ((IntKind.u64.wrap ((IntKind.u64.wrap (n11 * 6364136223846793005)) + 0)) + 1442695040888963407)) 0
  else r57 l (IntKind.i64.wrap (n1 + 1)) (IntKind.u64.wrap ((IntKind.u64.wrap ((IntKind.u64.wrap (n11 * 6364136223846793005)) + 0)) + 1442695040888963407)) (IntKind.i64.wrap (bitsOp .and .u64 (shrI .u64 (IntKind.u64.wrap ((IntKind.u64.wrap ((IntKind.u64.wrap (n11 * 6364136223846793005)) + 0)) + 1442695040888963407)) 40) 255)) := by kernel_rfl
/-! 58 : spec.l1Cur).long -/
theorem n58 (k : Nat) (l : List PV) (n1 n11 : Int) : c58 (k + 1) l n1 n11 =
 L58_1 k k 0 0 l n1 n11 := by kernel_rfl
theorem sL58_1 (k n : Nat) (n1 i : Int) (l : List PV) (n11 n12 : Int) : L58_1 k (n + 1) n1 i l n11 n12 =
 bif decide (i < 8) then
  R57 (c57 k l n11 n12) fun l1 v1 v2 v3 =>
  L58_1 k n (bitsOp .or .u64 (shlI .u64 n1 8) (IntKind.u64.wrap v3)) (IntKind.i64.wrap (i + 1)) l1 v1 v2
 else r58 l n11 n12 n1 := by kernel_rfl
/-! 59 : slices.IndexFunc[[]uint64,uint64] -/
theorem n59 (k : Nat) (qs : List PV) (n1 : Int) : c59 (k + 1) qs n1 =
 L59_1 k k qs (qs.length : Int) 0 n1 := by kernel_rfl
theorem sL59_1 (k n : Nat) (qs : List PV) (t7 t8 n1 : Int) : L59_1 k (n + 1) qs t7 t8 n1 =
 bif decide (t8 < t7) then
  (lookP qs t8).bind fun p1 =>
  (p1.atInt .u64 0).bind fun n2 =>
  R39 (c39 k n2 n1) fun v1 b1 =>
  bif b1 then
   r59 v1 t8
  else L59_1 k n qs t7 (IntKind.i64.wrap (t8 + 1)) v1
 else r59 n1 (-1) := by kernel_rfl
/-! 60 : slices.IndexFunc[[]int,int] -/
theorem n60 (k : Nat) (qs : List PV) (n1 : Int) : c60 (k + 1) qs n1 =
 L60_1 k k qs (qs.length : Int) 0 n1 := by kernel_rfl
theorem sL60_1 (k n : Nat) (qs : List PV) (t7 t8 n1 : Int) : L60_1 k (n + 1) qs t7 t8 n1 =
 bif decide (t8 < t7) then
  (lookP qs t8).bind fun p1 =>
  (p1.atInt .i64 0).bind fun n2 =>
  R44 (c44 k n2 n1) fun v1 b1 =>
  bif b1 then
   r60 v1 t8
  else L60_1 k n qs t7 (IntKind.i64.wrap (t8 + 1)) v1
 else r60 n1 (-1) := by kernel_rfl
/-! 61 : impl.DivWord -/
theorem n61 (k : Nat) (wide a b : Int) : c61 (k + 1) wide a b =
 R74 (c74 k wide a b) fun b1 =>
 bif !b1 then
  r61 0 0 false
 else
  bif (b == 0) then
   R45 (c45 k wide) fun v1 =>
   r61 v1 a true
  else
   R75 (c75 k 0 a b) fun v2 v3 =>
   r61 v2 v3 true := by kernel_rfl
/-! 62 : impl.shift -/
theorem n62 (k : Nat) (wide a by1 : Int) (left : Bool) : c62 (k + 1) wide a by1 left =
 bif decide (by1 ≥ IntKind.u64.wrap wide) then
  r62 0
 else
  bif left then
   bif !decide (by1 < 0) then
    R45 (c45 k wide) fun v1 =>
    r62 (bitsOp .and .u64 (shlI .u64 a by1) v1)
   else none
  else
   bif !decide (by1 < 0) then
    r62 (shrI .u64 a by1)
   else none := by kernel_rfl
/-! 63 : impl.truth -/
theorem n63 (k : Nat) (holds : Bool) : c63 (k + 1) holds =
 bif holds then
  r63 1
 else r63 0 := by kernel_rfl
/-! 64 : impl.signed -/
theorem n64 (k : Nat) (wide a : Int) : c64 (k + 1) wide a =
 bif !decide (IntKind.i64.wrap (64 - wide) < 0) then
  bif !decide (IntKind.i64.wrap (64 - wide) < 0) then
   r64 (shrI .i64 (IntKind.i64.wrap (shlI .u64 a (IntKind.i64.wrap (64 - wide)))) (IntKind.i64.wrap (64 - wide)))
  else none
 else none := by kernel_rfl
/-! 65 : spec.l1Wide -/
theorem n65 (k : Nat) (wide : Int) : c65 (k + 1) wide =
 R66 (c66 k wide 1 64) fun b1 =>
 r65 b1 := by kernel_rfl
/-! 66 : spec.l1In -/
theorem n66 (k : Nat) (n1 lo hi : Int) : c66 (k + 1) n1 lo hi =
 bif decide (n1 ≥ lo) then
  r66 (decide (n1 ≤ hi))
 else r66 false := by kernel_rfl
/-! 67 : spec.l2N -/
theorem n67 (k : Nat) (wide vars n1 n11 : Int) : c67 (k + 1) wide vars n1 n11 =
 bif (n1 == 1) then
  R48 (c48 k wide n11) fun b1 =>
  r67 b1
 else
  bif (n1 == 2) then
   r67 (decide (n11 < IntKind.u64.wrap vars))
  else
   bif (n1 == 20) then
    r67 (decide (n11 < 2))
   else r67 (n11 == 0) := by kernel_rfl
/-! 68 : spec.DivWord -/
theorem n68 (k : Nat) (wide a b : Int) : c68 (k + 1) wide a b =
 R76 (c76 k wide a b) fun b1 =>
 bif !b1 then
  r68 0 0 false
 else
  bif (b == 0) then
   R50 (c50 k wide 18446744073709551615) fun v1 =>
   r68 v1 a true
  else
   bif !(b == 0) then
    bif !(b == 0) then
     r68 (IntKind.u64.wrap (a.tdiv b)) (a.tmod b) true
    else none
   else none := by kernel_rfl
/-! 69 : spec.l1Shift -/
theorem n69 (k : Nat) (wide a by1 : Int) (left : Bool) : c69 (k + 1) wide a by1 left =
 bif decide (by1 ≥ IntKind.u64.wrap wide) then
  r69 0
 else L69_1 k k wide a by1 left := by kernel_rfl
theorem sL69_1 (k n : Nat) (wide a by1 : Int) (left : Bool) : L69_1 k (n + 1) wide a by1 left =
 bif decide (by1 > 0) then
  bif left then
   R50 (c50 k wide (shlI .u64 a 1)) fun v1 =>
   L69_1 k n wide v1 (IntKind.u64.wrap (by1 - 1)) left
  else L69_1 k n wide (shrI .u64 a 1) (IntKind.u64.wrap (by1 - 1)) left
 else r69 a := by kernel_rfl
/-! 70 : spec.l2Bool -/
theorem n70 (k : Nat) (is1 : Bool) : c70 (k + 1) is1 =
 bif is1 then
  r70 1
 else r70 0 := by kernel_rfl
/-! 71 : spec.l1Signed -/
theorem n71 (k : Nat) (wide a : Int) : c71 (k + 1) wide a =
 bif !decide (IntKind.u64.wrap (IntKind.i64.wrap (wide - 1)) < 0) then
  bif (bitsOp .and .u64 (shrI .u64 a (IntKind.u64.wrap (IntKind.i64.wrap (wide - 1)))) 1 == 1) then
   R50 (c50 k wide 18446744073709551615) fun v1 =>
   r71 (IntKind.i64.wrap (bitsOp .or .u64 a (bitsOp .xor .u64 18446744073709551615 v1)))
  else r71 (IntKind.i64.wrap a)
 else none := by kernel_rfl
/-! 74 : impl.areWords -/
theorem n74 (k : Nat) (wide a b : Int) : c74 (k + 1) wide a b =
 R40 (c40 k wide a) fun b1 =>
 bif b1 then
  R40 (c40 k wide b) fun b2 =>
  r74 b2
 else r74 false := by kernel_rfl
/-! 75 : bits.Div64 -/
theorem n75 (k : Nat) (hi lo y : Int) : c75 (k + 1) hi lo y =
 bif (y == 0) then
  none
 else
  bif decide (y ≤ hi) then
   none
  else
   bif (hi == 0) then
    bif !(y == 0) then
     bif !(y == 0) then
      r75 (IntKind.u64.wrap (lo.tdiv y)) (lo.tmod y)
     else none
    else none
   else
    R88 (c88 k y) fun v1 =>
    bif !decide (IntKind.u64.wrap v1 < 0) then
     bif !decide (IntKind.u64.wrap v1 < 0) then
      bif !decide (IntKind.u64.wrap (64 - (IntKind.u64.wrap v1)) < 0) then
       bif !decide (IntKind.u64.wrap v1 < 0) then
        bif !(shrI .u64 (shlI .u64 y (IntKind.u64.wrap v1)) 32 == 0) then
         L75_1 k k (shlI .u64 y (IntKind.u64.wrap v1)) (IntKind.u64.wrap v1) (shrI .u64 (shlI .u64 y (IntKind.u64.wrap v1)) 32) (bitsOp .and .u64 (shlI .u64 y (IntKind.u64.wrap v1)) 4294967295) (bitsOp .or .u64 (shlI .u64 hi (IntKind.u64.wrap v1)) (shrI .u64 lo (IntKind.u64.wrap (64 - (IntKind.u64.wrap v1))))) (shrI .u64 (shlI .u64 lo (IntKind.u64.wrap v1)) 32) (bitsOp .and .u64 (shlI .u64 lo (IntKind.u64.wrap v1)) 4294967295) (IntKind.u64.wrap ((bitsOp .or .u64 (shlI .u64 hi (IntKind.u64.wrap v1)) (shrI .u64 lo (IntKind.u64.wrap (64 - (IntKind.u64.wrap v1))))).tdiv (shrI .u64 (shlI .u64 y (IntKind.u64.wrap v1)) 32))) (IntKind.u64.wrap ((bitsOp .or .u64 (shlI .u64 hi (IntKind.u64.wrap v1)) (shrI .u64 lo (IntKind.u64.wrap (64 - (IntKind.u64.wrap v1))))) - (IntKind.u64.wrap ((IntKind.u64.wrap ((bitsOp .or .u64 (shlI .u64 hi (IntKind.u64.wrap v1)) (shrI .u64 lo (IntKind.u64.wrap (64 - (IntKind.u64.wrap v1))))).tdiv (shrI .u64 (shlI .u64 y (IntKind.u64.wrap v1)) 32))) * (shrI .u64 (shlI .u64 y (IntKind.u64.wrap v1)) 32)))))
        else none
       else none
      else none
     else none
    else none := by kernel_rfl
theorem sL75_1 (k n : Nat) (y qs yn1 yn0 un32 un1 un0 q1 rhat : Int) : L75_1 k (n + 1) y qs yn1 yn0 un32 un1 un0 q1 rhat =
 bif decide (q1 ≥ 4294967296) then
  bif decide (IntKind.u64.wrap (rhat + yn1) ≥ 4294967296) then
   bif !(yn1 == 0) then
    L75_2 k k y qs yn1 yn0 un0 (IntKind.u64.wrap (q1 - 1)) (IntKind.u64.wrap ((IntKind.u64.wrap ((IntKind.u64.wrap ((IntKind.u64.wrap (un32 * 4294967296)) + un1)) - (IntKind.u64.wrap ((IntKind.u64.wrap (q1 - 1)) * y)))) - (IntKind.u64.wrap ((IntKind.u64.wrap ((IntKind.u64.wrap ((IntKind.u64.wrap ((IntKind.u64.wrap (un32 * 4294967296)) + un1)) - (IntKind.u64.wrap ((IntKind.u64.wrap (q1 - 1)) * y)))).tdiv yn1)) * yn1)))) (IntKind.u64.wrap ((IntKind.u64.wrap ((IntKind.u64.wrap (un32 * 4294967296)) + un1)) - (IntKind.u64.wrap ((IntKind.u64.wrap (q1 - 1)) * y)))) (IntKind.u64.wrap ((IntKind.u64.wrap ((IntKind.u64.wrap ((IntKind.u64.wrap (un32 * 4294967296)) + un1)) - (IntKind.u64.wrap ((IntKind.u64.wrap (q1 - 1)) * y)))).tdiv yn1))
   else none
  else L75_1 k n y qs yn1 yn0 un32 un1 un0 (IntKind.u64.wrap (q1 - 1)) (IntKind.u64.wrap (rhat + yn1))
 else
  bif decide (IntKind.u64.wrap (q1 * yn0) > IntKind.u64.wrap ((IntKind.u64.wrap (4294967296 * rhat)) + un1)) then
   bif decide (IntKind.u64.wrap (rhat + yn1) ≥ 4294967296) then
    bif !(yn1 == 0) then
     L75_2 k k y qs yn1 yn0 un0 (IntKind.u64.wrap (q1 - 1)) (IntKind.u64.wrap ((IntKind.u64.wrap ((IntKind.u64.wrap ((IntKind.u64.wrap (un32 * 4294967296)) + un1)) - (IntKind.u64.wrap ((IntKind.u64.wrap (q1 - 1)) * y)))) - (IntKind.u64.wrap ((IntKind.u64.wrap ((IntKind.u64.wrap ((IntKind.u64.wrap ((IntKind.u64.wrap (un32 * 4294967296)) + un1)) - (IntKind.u64.wrap ((IntKind.u64.wrap (q1 - 1)) * y)))).tdiv yn1)) * yn1)))) (IntKind.u64.wrap ((IntKind.u64.wrap ((IntKind.u64.wrap (un32 * 4294967296)) + un1)) - (IntKind.u64.wrap ((IntKind.u64.wrap (q1 - 1)) * y)))) (IntKind.u64.wrap ((IntKind.u64.wrap ((IntKind.u64.wrap ((IntKind.u64.wrap (un32 * 4294967296)) + un1)) - (IntKind.u64.wrap ((IntKind.u64.wrap (q1 - 1)) * y)))).tdiv yn1))
    else none
   else L75_1 k n y qs yn1 yn0 un32 un1 un0 (IntKind.u64.wrap (q1 - 1)) (IntKind.u64.wrap (rhat + yn1))
  else
   bif !(yn1 == 0) then
    L75_2 k k y qs yn1 yn0 un0 q1 (IntKind.u64.wrap ((IntKind.u64.wrap ((IntKind.u64.wrap ((IntKind.u64.wrap (un32 * 4294967296)) + un1)) - (IntKind.u64.wrap (q1 * y)))) - (IntKind.u64.wrap ((IntKind.u64.wrap ((IntKind.u64.wrap ((IntKind.u64.wrap ((IntKind.u64.wrap (un32 * 4294967296)) + un1)) - (IntKind.u64.wrap (q1 * y)))).tdiv yn1)) * yn1)))) (IntKind.u64.wrap ((IntKind.u64.wrap ((IntKind.u64.wrap (un32 * 4294967296)) + un1)) - (IntKind.u64.wrap (q1 * y)))) (IntKind.u64.wrap ((IntKind.u64.wrap ((IntKind.u64.wrap ((IntKind.u64.wrap (un32 * 4294967296)) + un1)) - (IntKind.u64.wrap (q1 * y)))).tdiv yn1))
   else none := by kernel_rfl
theorem sL75_2 (k n : Nat) (y qs yn1 yn0 un0 q1 rhat un21 q0 : Int) : L75_2 k (n + 1) y qs yn1 yn0 un0 q1 rhat un21 q0 =
 bif decide (q0 ≥ 4294967296) then
  bif decide (IntKind.u64.wrap (rhat + yn1) ≥ 4294967296) then
   bif !decide (qs < 0) then
    r75 (IntKind.u64.wrap ((IntKind.u64.wrap (q1 * 4294967296)) + (IntKind.u64.wrap (q0 - 1)))) (shrI .u64 (IntKind.u64.wrap ((IntKind.u64.wrap ((IntKind.u64.wrap (un21 * 4294967296)) + un0)) - (IntKind.u64.wrap ((IntKind.u64.wrap (q0 - 1)) * y)))) qs)
   else none
  else L75_2 k n y qs yn1 yn0 un0 q1 (IntKind.u64.wrap (rhat + yn1)) un21 (IntKind.u64.wrap (q0 - 1))
 else
  bif decide (IntKind.u64.wrap (q0 * yn0) > IntKind.u64.wrap ((IntKind.u64.wrap (4294967296 * rhat)) + un0)) then
   bif decide (IntKind.u64.wrap (rhat + yn1) ≥ 4294967296) then
    bif !decide (qs < 0) then
     r75 (IntKind.u64.wrap ((IntKind.u64.wrap (q1 * 4294967296)) + (IntKind.u64.wrap (q0 - 1)))) (shrI .u64 (IntKind.u64.wrap ((IntKind.u64.wrap ((IntKind.u64.wrap (un21 * 4294967296)) + un0)) - (IntKind.u64.wrap ((IntKind.u64.wrap (q0 - 1)) * y)))) qs)
    else none
   else L75_2 k n y qs yn1 yn0 un0 q1 (IntKind.u64.wrap (rhat + yn1)) un21 (IntKind.u64.wrap (q0 - 1))
  else
   bif !decide (qs < 0) then
    r75 (IntKind.u64.wrap ((IntKind.u64.wrap (q1 * 4294967296)) + q0)) (shrI .u64 (IntKind.u64.wrap ((IntKind.u64.wrap ((IntKind.u64.wrap (un21 * 4294967296)) + un0)) - (IntKind.u64.wrap (q0 * y)))) qs)
   else none := by kernel_rfl
/-! 76 : spec.l1Both -/
theorem n76 (k : Nat) (wide a b : Int) : c76 (k + 1) wide a b =
 R48 (c48 k wide a) fun b1 =>
 bif b1 then
  R48 (c48 k wide b) fun b2 =>
  r76 b2
 else r76 false := by kernel_rfl
end Go.Proofs.Ytocmjgfbcpgaoaa
