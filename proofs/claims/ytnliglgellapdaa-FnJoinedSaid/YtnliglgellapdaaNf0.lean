/- Normal forms: printed by nf.py. -/
import Derived.Test.YtnliglgellapdaaCs
set_option linter.unusedVariables false
set_option maxRecDepth 100000
namespace Go.Proofs.Ytnliglgellapdaa
open Go.Dp
/-! 5 : laws.FnPutFor -/
theorem n5 (k : Nat) (code more : List PV) : c5 (k + 1) code more =
 R11 (c11 k code more) fun b1 =>
 bif b1 then
  r5 true
 else
  R21 (c21 k code) fun v1 v2 l1 l2 =>
  R22 (c22 k v1 v2 l1 l2) fun l3 b2 =>
  R23 (c23 k v1 v2 l1 l2) fun l4 b3 =>
  bif (!(b2 == b3)) then
   r5 false
  else
   R24 (c24 k l3 l4) fun b4 =>
   bif !b4 then
    r5 false
   else
    R25 (c25 k v1 v2 l1) fun b5 =>
    R26 (c26 k v1 v2 l1) fun b6 =>
    bif (!(b5 == b6)) then
     r5 false
    else
     bif !b2 then
      r5 true
     else L5_1 k k more v1 v2 l1 l2 l3 0 0 0 [] [] := by kernel_rfl
theorem sL5_1 (k n : Nat) (more : List PV) (w1 vars : Int) (t by1 p : List PV) (stateLen valuesLen : Nat) (k1 : Int) (xs xs1 : List PV) : L5_1 k (n + 1) more w1 vars t by1 p stateLen valuesLen k1 xs xs1 =
 bif decide (k1 < vars) then
  R28 (c28 k more) fun v1 =>
  bif !decide (IntKind.u64.wrap (IntKind.i64.wrap (3 * k1)) < 0) then
   R27 (c27 k w1 (IntKind.u64.wrap (shrI .i64 v1 (IntKind.u64.wrap (IntKind.i64.wrap (3 * k1)))))) fun v2 b1 =>
   bif !b1 then
    r5 false
   else
    bif decide ((stateLen + 1) * 8 ≤ LIM) && decide (stateLen + 1 ≤ LIM) then
     L5_1 k n more w1 vars t by1 p (stateLen + 1) valuesLen (IntKind.i64.wrap (k1 + 1)) ((xs.take stateLen) ++ [PV.int .u64 v2]) xs1
    else none
  else none
 else L5_2 k k w1 t p stateLen valuesLen by1 (by1.length : Int) 0 xs xs1 := by kernel_rfl
theorem sL5_2 (k n : Nat) (w1 : Int) (t p : List PV) (stateLen valuesLen : Nat) (t97 : List PV) (t98 t99 : Int) (xs xs1 : List PV) : L5_2 k (n + 1) w1 t p stateLen valuesLen t97 t98 t99 xs xs1 =
 bif decide (t99 < t98) then
  (lookP t97 t99).bind fun p1 =>
  (p1.atRow 2 0).bind fun l1 =>
  R29p (c29 k w1 l1 (xs.take stateLen)) fun v1 b1 =>
  bif !b1 then
   r5 false
  else
   bif decide ((valuesLen + 1) * 8 ≤ LIM) && decide (valuesLen + 1 ≤ LIM) then
    L5_2 k n w1 t p stateLen (valuesLen + 1) t97 t98 (IntKind.i64.wrap (t99 + 1)) xs ((xs1.take valuesLen) ++ [PV.int .u64 v1])
   else none
 else
  R29p (c29 k w1 p (xs.take stateLen)) fun v2 b2 =>
  R29p (c29 k w1 t (xs1.take valuesLen)) fun v3 b3 =>
  bif b2 then
   bif b3 then
    r5 (v2 == v3)
   else r5 false
  else r5 false := by kernel_rfl
/-! 6 : laws.FnJoined -/
theorem n6 (k : Nat) (code more : List PV) : c6 (k + 1) code more =
 R11 (c11 k code more) fun b1 =>
 bif b1 then
  r6 true
 else
  R30 (c30 k code) fun v1 v2 v3 l1 l2 =>
  R31 (c31 k v1 v2 v3 l1 l2) fun l3 b2 =>
  R32 (c32 k v1 v2 v3 l1 l2) fun l4 b3 =>
  bif (!(b2 == b3)) then
   r6 false
  else
   R24 (c24 k l3 l4) fun b4 =>
   bif !b4 then
    r6 false
   else L6_1 k k code more v1 v2 v3 l1 l2 l3 b2 0 0 [] := by kernel_rfl
theorem sL6_1 (k n : Nat) (code more : List PV) (w1 vars op : Int) (a b j : List PV) (ok : Bool) (stateLen : Nat) (k1 : Int) (xs : List PV) : L6_1 k (n + 1) code more w1 vars op a b j ok stateLen k1 xs =
 bif ok then
  bif decide (k1 < vars) then
   R28 (c28 k more) fun v1 =>
   bif !decide (IntKind.u64.wrap (IntKind.i64.wrap (3 * k1)) < 0) then
    R27 (c27 k w1 (IntKind.u64.wrap (shrI .i64 v1 (IntKind.u64.wrap (IntKind.i64.wrap (3 * k1)))))) fun v2 b1 =>
    bif !b1 then
     r6 false
    else
     bif decide ((stateLen + 1) * 8 ≤ LIM) && decide (stateLen + 1 ≤ LIM) then
      L6_1 k n code more w1 vars op a b j ok (stateLen + 1) (IntKind.i64.wrap (k1 + 1)) ((xs.take stateLen) ++ [PV.int .u64 v2])
     else none
   else none
  else
   bif ok then
    R29p (c29 k w1 j (xs.take stateLen)) fun v3 b2 =>
    R29p (c29 k w1 a (xs.take stateLen)) fun v4 b3 =>
    R29p (c29 k w1 b (xs.take stateLen)) fun v5 b4 =>
    R33 (c33 k w1 v4 v5) fun v6 b5 =>
    R34 (c34 k w1 v4 v5) fun b6 b7 =>
    bif !b2 then
     r6 false
    else
     bif !b3 then
      r6 false
     else
      bif !b4 then
       r6 false
      else
       bif !b5 then
        r6 false
       else
        bif !b7 then
         r6 false
        else
         bif (op == 3) then
          bif (v3 != v6) then
           r6 false
          else
           bif (op == 10) then
            bif (v3 != bitsOp .xor .u64 v4 v5) then
            r6 false
            else
            bif (op == 16) then
            bif (!((v3 == 1) == b6)) then
            r6 false
            else
            bif (op == 18) then
            bif (v3 != bitsOp .or .u64 v4 v5) then
            r6 false
            else J6_2 k code more
            else J6_2 k code more
            else
            bif (op == 18) then
            bif (v3 != bitsOp .or .u64 v4 v5) then
            r6 false
            else J6_2 k code more
            else J6_2 k code more
           else
            bif (op == 16) then
            bif (!((v3 == 1) == b6)) then
            r6 false
            else
            bif (op == 18) then
            bif (v3 != bitsOp .or .u64 v4 v5) then
            r6 false
            else J6_2 k code more
            else J6_2 k code more
            else
            bif (op == 18) then
            bif (v3 != bitsOp .or .u64 v4 v5) then
            r6 false
            else J6_2 k code more
            else J6_2 k code more
         else
          bif (op == 10) then
           bif (v3 != bitsOp .xor .u64 v4 v5) then
            r6 false
           else
            bif (op == 16) then
            bif (!((v3 == 1) == b6)) then
            r6 false
            else
            bif (op == 18) then
            bif (v3 != bitsOp .or .u64 v4 v5) then
            r6 false
            else J6_2 k code more
            else J6_2 k code more
            else
            bif (op == 18) then
            bif (v3 != bitsOp .or .u64 v4 v5) then
            r6 false
            else J6_2 k code more
            else J6_2 k code more
          else
           bif (op == 16) then
            bif (!((v3 == 1) == b6)) then
            r6 false
            else
            bif (op == 18) then
            bif (v3 != bitsOp .or .u64 v4 v5) then
            r6 false
            else J6_2 k code more
            else J6_2 k code more
           else
            bif (op == 18) then
            bif (v3 != bitsOp .or .u64 v4 v5) then
            r6 false
            else J6_2 k code more
            else J6_2 k code more
   else J6_2 k code more
 else
  bif ok then
   R29p (c29 k w1 j (xs.take stateLen)) fun v7 b8 =>
   R29p (c29 k w1 a (xs.take stateLen)) fun v8 b9 =>
   R29p (c29 k w1 b (xs.take stateLen)) fun v9 b10 =>
   R33 (c33 k w1 v8 v9) fun v10 b11 =>
   R34 (c34 k w1 v8 v9) fun b12 b13 =>
   bif !b8 then
    r6 false
   else
    bif !b9 then
     r6 false
    else
     bif !b10 then
      r6 false
     else
      bif !b11 then
       r6 false
      else
       bif !b13 then
        r6 false
       else
        bif (op == 3) then
         bif (v7 != v10) then
          r6 false
         else
          bif (op == 10) then
           bif (v7 != bitsOp .xor .u64 v8 v9) then
            r6 false
           else
            bif (op == 16) then
            bif (!((v7 == 1) == b12)) then
            r6 false
            else
            bif (op == 18) then
            bif (v7 != bitsOp .or .u64 v8 v9) then
            r6 false
            else J6_2 k code more
            else J6_2 k code more
            else
            bif (op == 18) then
            bif (v7 != bitsOp .or .u64 v8 v9) then
            r6 false
            else J6_2 k code more
            else J6_2 k code more
          else
           bif (op == 16) then
            bif (!((v7 == 1) == b12)) then
            r6 false
            else
            bif (op == 18) then
            bif (v7 != bitsOp .or .u64 v8 v9) then
            r6 false
            else J6_2 k code more
            else J6_2 k code more
           else
            bif (op == 18) then
            bif (v7 != bitsOp .or .u64 v8 v9) then
            r6 false
            else J6_2 k code more
            else J6_2 k code more
        else
         bif (op == 10) then
          bif (v7 != bitsOp .xor .u64 v8 v9) then
           r6 false
          else
           bif (op == 16) then
            bif (!((v7 == 1) == b12)) then
            r6 false
            else
            bif (op == 18) then
            bif (v7 != bitsOp .or .u64 v8 v9) then
            r6 false
            else J6_2 k code more
            else J6_2 k code more
           else
            bif (op == 18) then
            bif (v7 != bitsOp .or .u64 v8 v9) then
            r6 false
            else J6_2 k code more
            else J6_2 k code more
         else
          bif (op == 16) then
           bif (!((v7 == 1) == b12)) then
            r6 false
           else
            bif (op == 18) then
            bif (v7 != bitsOp .or .u64 v8 v9) then
            r6 false
            else J6_2 k code more
            else J6_2 k code more
          else
           bif (op == 18) then
            bif (v7 != bitsOp .or .u64 v8 v9) then
            r6 false
            else J6_2 k code more
           else J6_2 k code more
  else J6_2 k code more := by kernel_rfl
theorem sJ6_2 (k : Nat) (code more : List PV) : J6_2 (k + 1) code more =
 R35 (c35 (k + 1) more) fun v1 v2 v3 l1 =>
 R36 (c36 (k + 1) v1 v2 v3 l1) fun l2 b1 =>
 R37 (c37 (k + 1) v1 v2 v3 l1) fun l3 b2 =>
 bif (!(b1 == b2)) then
  r6 false
 else
  R24 (c24 (k + 1) l2 l3) fun b3 =>
  bif !b3 then
   r6 false
  else
   R36 (c36 (k + 1) v1 v2 v3 l2) fun l4 b4 =>
   L6_3 (k + 1) (k + 1) code v1 v2 l1 b1 l4 b4 0 0 [] := by kernel_rfl
theorem sL6_3 (k n : Nat) (code : List PV) (u n1 : Int) (t : List PV) (one : Bool) (twice : List PV) (three : Bool) (otherLen : Nat) (k1 : Int) (xs : List PV) : L6_3 k (n + 1) code u n1 t one twice three otherLen k1 xs =
 bif three then
  bif decide (k1 < n1) then
   R28 (c28 k code) fun v1 =>
   bif !decide (IntKind.u64.wrap (IntKind.i64.wrap (3 * k1)) < 0) then
    R27 (c27 k u (IntKind.u64.wrap (shrI .i64 v1 (IntKind.u64.wrap (IntKind.i64.wrap (3 * k1)))))) fun v2 b1 =>
    bif !b1 then
     r6 false
    else
     bif decide ((otherLen + 1) * 8 ≤ LIM) && decide (otherLen + 1 ≤ LIM) then
      L6_3 k n code u n1 t one twice three (otherLen + 1) (IntKind.i64.wrap (k1 + 1)) ((xs.take otherLen) ++ [PV.int .u64 v2])
     else none
   else none
  else
   bif one then
    bif three then
     R29p (c29 k u twice (xs.take otherLen)) fun v3 b2 =>
     R29p (c29 k u t (xs.take otherLen)) fun v4 b3 =>
     bif b2 then
      bif b3 then
       r6 (v3 == v4)
      else r6 false
     else r6 false
    else r6 true
   else r6 true
 else
  bif one then
   bif three then
    R29p (c29 k u twice (xs.take otherLen)) fun v5 b4 =>
    R29p (c29 k u t (xs.take otherLen)) fun v6 b5 =>
    bif b4 then
     bif b5 then
      r6 (v5 == v6)
     else r6 false
    else r6 false
   else r6 true
  else r6 true := by kernel_rfl
/-! 11 : laws.big -/
theorem n11 (k : Nat) (code more : List PV) : c11 (k + 1) code more =
 bif decide ((code.length : Int) > 1048576) then
  r11 true
 else r11 (decide ((more.length : Int) > IntKind.i64.wrap (1048576 - (code.length : Int)))) := by kernel_rfl
/-! 21 : spec.DrawPutAll -/
theorem n21 (k : Nat) (code : List PV) : c21 (k + 1) code =
 R72 (c72 k code 0 0) fun l1 v1 v2 v3 v4 l2 =>
 L21_1 k k v3 v4 l2 0 0 l1 v1 v2 [] := by kernel_rfl
theorem sL21_1 (k n : Nat) (wide vars : Int) (t : List PV) (byLen : Nat) (k1 : Int) (l : List PV) (n1 n11 : Int) (xs : List PV) : L21_1 k (n + 1) wide vars t byLen k1 l n1 n11 xs =
 bif decide (k1 < vars) then
  R74 (c74 k vars) fun v1 =>
  R73 (c73 k wide v1 1 l n1 n11) fun l1 v2 v3 l2 =>
  bif decide ((byLen + 1) * 24 ≤ LIM) && decide (byLen + 1 ≤ LIM) then
   L21_1 k n wide vars t (byLen + 1) (IntKind.i64.wrap (k1 + 1)) l1 v2 v3 ((xs.take byLen) ++ [PV.row 2 0 (l2.take l2.length)])
  else none
 else
  R75 (c75 k 20 l n1 n11) fun l3 v4 v5 b1 =>
  bif b1 then
   bif decide ((byLen + 1) * 24 ≤ LIM) && decide (byLen + 1 ≤ LIM) then
    r21 wide vars t (((xs.take byLen) ++ [PV.row 2 0 t]).take (byLen + 1))
   else none
  else r21 wide vars t (xs.take byLen) := by kernel_rfl
/-! 22 : impl.PutAll -/
theorem n22 (k : Nat) (wide vars : Int) (t by1 : List PV) : c22 (k + 1) wide vars t by1 =
 R25 (c25 k wide vars t) fun b1 =>
 bif !b1 then
  r22 [] false
 else
  bif ((by1.length : Int) != vars) then
   r22 [] false
  else
   R76 (c76 k by1 wide vars) fun v1 v2 b2 =>
   bif b2 then
    r22 [] false
   else L22_1 k k by1 0 t (t.length : Int) 0 v1 v2 [] := by kernel_rfl
theorem sL22_1 (k n : Nat) (by1 : List PV) (outLen : Nat) (t30 : List PV) (t31 t32 n1 n11 : Int) (xs : List PV) : L22_1 k (n + 1) by1 outLen t30 t31 t32 n1 n11 xs =
 bif decide (t32 < t31) then
  (lookP t30 t32).bind fun p1 =>
  bif p1.shp 2 then
   (p1.atInt .i64 0).bind fun n2 =>
   (p1.atInt .u64 1).bind fun n3 =>
   bif (n2 == 2) then
    (lookP by1 n3).bind fun p2 =>
    (p2.atRow 2 0).bind fun l1 =>
    bif decide ((outLen + l1.length) * 16 ≤ LIM) && decide (outLen + l1.length ≤ LIM) then
     L22_1 k n by1 (outLen + l1.length) t30 t31 (IntKind.i64.wrap (t32 + 1)) n1 n11 ((xs.take outLen) ++ l1)
    else none
   else
    bif decide ((outLen + 1) * 16 ≤ LIM) && decide (outLen + 1 ≤ LIM) then
     L22_1 k n by1 (outLen + 1) t30 t31 (IntKind.i64.wrap (t32 + 1)) n1 n11 ((xs.take outLen) ++ [PV.agg [.int .i64 n2, .int .u64 n3]])
    else none
  else none
 else
  R79 (c79 k n1 n11 (xs.take outLen)) fun l2 b1 =>
  r22 l2 b1 := by kernel_rfl
/-! 23 : spec.PutAll -/
theorem n23 (k : Nat) (wide vars : Int) (t by1 : List PV) : c23 (k + 1) wide vars t by1 =
 R26 (c26 k wide vars t) fun b1 =>
 bif !b1 then
  r23 [] false
 else
  bif ((by1.length : Int) != vars) then
   r23 [] false
  else L23_1 k k wide vars t by1 by1 (by1.length : Int) 0 := by kernel_rfl
theorem sL23_1 (k n : Nat) (wide vars : Int) (t by1 t26 : List PV) (t27 t28 : Int) : L23_1 k (n + 1) wide vars t by1 t26 t27 t28 =
 bif decide (t28 < t27) then
  (lookP t26 t28).bind fun p1 =>
  (p1.atRow 2 0).bind fun l1 =>
  R80 (c80 k wide vars l1) fun v1 =>
  bif (v1 != 1) then
   r23 [] false
  else L23_1 k n wide vars t by1 t26 t27 (IntKind.i64.wrap (t28 + 1))
 else L23_2 k k wide vars by1 0 t (t.length : Int) 0 [] := by kernel_rfl
theorem sL23_2 (k n : Nat) (wide vars : Int) (by1 : List PV) (outLen : Nat) (t38 : List PV) (t39 t40 : Int) (xs : List PV) : L23_2 k (n + 1) wide vars by1 outLen t38 t39 t40 xs =
 bif decide (t40 < t39) then
  (lookP t38 t40).bind fun p1 =>
  bif p1.shp 2 then
   (p1.atInt .i64 0).bind fun n1 =>
   (p1.atInt .u64 1).bind fun n2 =>
   bif (n1 == 2) then
    (lookP by1 n2).bind fun p2 =>
    (p2.atRow 2 0).bind fun l1 =>
    bif decide ((outLen + l1.length) * 16 ≤ LIM) && decide (outLen + l1.length ≤ LIM) then
     L23_2 k n wide vars by1 (outLen + l1.length) t38 t39 (IntKind.i64.wrap (t40 + 1)) ((xs.take outLen) ++ l1)
    else none
   else
    bif decide ((outLen + 1) * 16 ≤ LIM) && decide (outLen + 1 ≤ LIM) then
     L23_2 k n wide vars by1 (outLen + 1) t38 t39 (IntKind.i64.wrap (t40 + 1)) ((xs.take outLen) ++ [PV.agg [.int .i64 n1, .int .u64 n2]])
    else none
  else none
 else
  R81 (c81 k wide vars (xs.take outLen)) fun l2 b1 =>
  r23 l2 b1 := by kernel_rfl
/-! 24 : laws.sameNodes -/
theorem n24 (k : Nat) (a b : List PV) : c24 (k + 1) a b =
 bif ((a.length : Int) != (b.length : Int)) then
  r24 false
 else L24_1 k k a b (a.length : Int) 0 := by kernel_rfl
theorem sL24_1 (k n : Nat) (a b : List PV) (t12 t13 : Int) : L24_1 k (n + 1) a b t12 t13 =
 bif decide (t13 < t12) then
  (lookP a t13).bind fun p1 =>
  bif p1.shp 2 then
   (p1.atInt .i64 0).bind fun n1 =>
   (p1.atInt .u64 1).bind fun n2 =>
   (lookP b t13).bind fun p2 =>
   bif p2.shp 2 then
    (p2.atInt .i64 0).bind fun n3 =>
    (p2.atInt .u64 1).bind fun n4 =>
    bif (!((n1 == n3) && ((n2 == n4) && true))) then
     r24 false
    else L24_1 k n a b t12 (IntKind.i64.wrap (t13 + 1))
   else none
  else none
 else r24 true := by kernel_rfl
/-! 25 : impl.GoodTerm -/
theorem n25 (k : Nat) (wide vars : Int) (t : List PV) : c25 (k + 1) wide vars t =
 R82 (c82 k wide) fun b1 =>
 bif !b1 then
  r25 false
 else
  R83 (c83 k vars) fun b2 =>
  bif !b2 then
   r25 false
  else
   bif decide ((t.length : Int) < 1) then
    r25 false
   else
    bif decide ((t.length : Int) > 48) then
     r25 false
    else L25_1 k k wide vars 0 t (t.length : Int) 0 [] := by kernel_rfl
theorem sL25_1 (k n : Nat) (wide vars : Int) (stackLen : Nat) (t33 : List PV) (t34 t35 : Int) (xs : List PV) : L25_1 k (n + 1) wide vars stackLen t33 t34 t35 xs =
 bif decide (t35 < t34) then
  (lookP t33 t35).bind fun p1 =>
  bif p1.shp 2 then
   (p1.atInt .i64 0).bind fun n1 =>
   (p1.atInt .u64 1).bind fun n2 =>
   R84 (c84 k n1) fun v1 v2 v3 =>
   bif (v3 == 0) then
    r25 false
   else
    R85 (c85 k wide vars n1 n2) fun b1 =>
    bif !b1 then
     r25 false
    else
     bif decide (IntKind.i64.wrap ((stackLen : Int) - v1) < 0) then
      r25 false
     else
      bif decide ((0 : Int) ≤ IntKind.i64.wrap ((stackLen : Int) - v1)) && decide (IntKind.i64.wrap ((stackLen : Int) - v1) ≤ (stackLen : Int)) && decide ((stackLen : Int) ≤ (stackLen : Int)) then
       R86p (c86 k ((xs.drop (0 + ((IntKind.i64.wrap ((stackLen : Int) - v1)).toNat))).take (stackLen - ((IntKind.i64.wrap ((stackLen : Int) - v1)).toNat))) v2) fun v4 b2 =>
       bif b2 then
        r25 false
       else
        bif decide ((0 : Int) ≤ IntKind.i64.wrap ((stackLen : Int) - v1)) && decide (IntKind.i64.wrap ((stackLen : Int) - v1) ≤ (stackLen : Int)) then
         bif decide ((((IntKind.i64.wrap ((stackLen : Int) - v1)).toNat) + 1) * 8 ≤ LIM) && decide (((IntKind.i64.wrap ((stackLen : Int) - v1)).toNat) + 1 ≤ LIM) then
          L25_1 k n wide vars (((IntKind.i64.wrap ((stackLen : Int) - v1)).toNat) + 1) t33 t34 (IntKind.i64.wrap (t35 + 1)) ((xs.take ((IntKind.i64.wrap ((stackLen : Int) - v1)).toNat)) ++ [PV.int .i64 v3])
         else none
        else none
      else none
  else none
 else r25 ((stackLen : Int) == 1) := by kernel_rfl
/-! 26 : spec.GoodTerm -/
theorem n26 (k : Nat) (wide vars : Int) (t : List PV) : c26 (k + 1) wide vars t =
 R80 (c80 k wide vars t) fun v1 =>
 r26 (decide (v1 > 0)) := by kernel_rfl
/-! 27 : impl.CutTo -/
theorem n27 (k : Nat) (wide a : Int) : c27 (k + 1) wide a =
 R82 (c82 k wide) fun b1 =>
 bif !b1 then
  r27 0 false
 else
  R88 (c88 k wide) fun v1 =>
  r27 (bitsOp .and .u64 a v1) true := by kernel_rfl
/-! 28 : laws.numberOf -/
theorem n28 (k : Nat) (b : List PV) : c28 (k + 1) b =
 L28_1 k k 0 b (b.length : Int) 0 := by kernel_rfl
theorem sL28_1 (k n : Nat) (n1 : Int) (t6 : List PV) (t7 t8 : Int) : L28_1 k (n + 1) n1 t6 t7 t8 =
 bif decide (t8 < t7) then
  (lookP t6 t8).bind fun p1 =>
  (p1.atInt .u8 0).bind fun n2 =>
  L28_1 k n ((IntKind.i64.wrap ((IntKind.i64.wrap (31 * n1)) + (IntKind.i64.wrap n2))).tmod 1000003) t6 t7 (IntKind.i64.wrap (t8 + 1))
 else r28 n1 := by kernel_rfl
/-! 29 : impl.ValueOf -/
theorem n29 (k : Nat) (wide : Int) (t state : List PV) : c29 (k + 1) wide t state =
 R89 (c89 k wide (state.length : Int) state) fun b1 =>
 bif !b1 then
  r29 0 false
 else
  R25 (c25 k wide (state.length : Int) t) fun b2 =>
  bif !b2 then
   r29 0 false
  else
   R90 (c90 k wide t state) fun v1 =>
   r29 v1 true := by kernel_rfl
/-! 30 : spec.DrawJoinTerms -/
theorem n30 (k : Nat) (code : List PV) : c30 (k + 1) code =
 R69 (c69 k 8 code 0 0) fun l1 v1 v2 v3 =>
 R69 (c69 k 3 l1 v1 v2) fun l2 v4 v5 v6 =>
 R75 (c75 k 3 l2 v4 v5) fun l3 v7 v8 b1 =>
 bif b1 then
  R69 (c69 k 21 l3 v7 v8) fun l4 v9 v10 v11 =>
  R91 (c91 k (IntKind.i64.wrap (1 + v3)) (IntKind.i64.wrap (1 + v6)) 1 l4 v9 v10) fun l5 v12 v13 l6 =>
  R91 (c91 k (IntKind.i64.wrap (1 + v3)) (IntKind.i64.wrap (1 + v6)) 2 l5 v12 v13) fun l7 v14 v15 l8 =>
  r30 (IntKind.i64.wrap (1 + v3)) (IntKind.i64.wrap (1 + v6)) v11 (l6.take l6.length) (l8.take l8.length)
 else
  R69 (c69 k 18 l3 v7 v8) fun l9 v16 v17 v18 =>
  R73 (c73 k (IntKind.i64.wrap (1 + v3)) (IntKind.i64.wrap (1 + v6)) 2 l9 v16 v17) fun l10 v19 v20 l11 =>
  R73 (c73 k (IntKind.i64.wrap (1 + v3)) (IntKind.i64.wrap (1 + v6)) 3 l10 v19 v20) fun l12 v21 v22 l13 =>
  r30 (IntKind.i64.wrap (1 + v3)) (IntKind.i64.wrap (1 + v6)) v18 (l11.take l11.length) (l13.take l13.length) := by kernel_rfl
/-! 31 : impl.JoinTerms -/
theorem n31 (k : Nat) (wide vars op : Int) (a b : List PV) : c31 (k + 1) wide vars op a b =
 R84 (c84 k op) fun v1 v2 v3 =>
 bif (v1 != 2) then
  r31 [] false
 else
  R25 (c25 k wide vars a) fun b1 =>
  bif !b1 then
   r31 [] false
  else
   R25 (c25 k wide vars b) fun b2 =>
   bif !b2 then
    r31 [] false
   else
    R92p (c92 k [PV.row 2 0 a, PV.row 2 0 b, PV.row 2 0 [PV.agg [.int .i64 op, .int .u64 0]]]) fun l1 =>
    R79 (c79 k wide vars (l1.take l1.length)) fun l2 b3 =>
    r31 l2 b3 := by kernel_rfl
/-! 32 : spec.JoinTerms -/
theorem n32 (k : Nat) (wide vars op : Int) (a b : List PV) : c32 (k + 1) wide vars op a b =
 R93 (c93 k op) fun v1 v2 v3 =>
 bif (v1 != 2) then
  r32 [] false
 else
  R80 (c80 k wide vars a) fun v4 =>
  bif (v4 != v2) then
   r32 [] false
  else
   R80 (c80 k wide vars b) fun v5 =>
   bif (v5 != v2) then
    r32 [] false
   else
    bif decide ((0 + a.length) * 16 ≤ LIM) && decide (0 + a.length ≤ LIM) then
     bif decide (((0 + a.length) + b.length) * 16 ≤ LIM) && decide ((0 + a.length) + b.length ≤ LIM) then
      bif decide ((((0 + a.length) + b.length) + 1) * 16 ≤ LIM) && decide (((0 + a.length) + b.length) + 1 ≤ LIM) then
       R81 (c81 k wide vars (((((([] ++ a).take (0 + a.length)) ++ b).take ((0 + a.length) + b.length)) ++ [PV.agg [.int .i64 op, .int .u64 0]]).take (((0 + a.length) + b.length) + 1))) fun l1 b1 =>
       r32 l1 b1
      else none
     else none
    else none := by kernel_rfl
/-! 33 : impl.AddWord -/
theorem n33 (k : Nat) (wide a b : Int) : c33 (k + 1) wide a b =
 R94 (c94 k wide a b) fun b1 =>
 bif !b1 then
  r33 0 false
 else
  R88 (c88 k wide) fun v1 =>
  r33 (bitsOp .and .u64 (IntKind.u64.wrap (a + b)) v1) true := by kernel_rfl
/-! 34 : impl.LessSigned -/
theorem n34 (k : Nat) (wide a b : Int) : c34 (k + 1) wide a b =
 R94 (c94 k wide a b) fun b1 =>
 bif !b1 then
  r34 false false
 else
  R95 (c95 k wide a) fun v1 =>
  R95 (c95 k wide b) fun v2 =>
  r34 (decide (v1 < v2)) true := by kernel_rfl
/-! 35 : spec.DrawTurnTerm -/
theorem n35 (k : Nat) (code : List PV) : c35 (k + 1) code =
 R72 (c72 k code 0 0) fun l1 v1 v2 v3 v4 l2 =>
 R96 (c96 k [PV.int .i64 13, PV.int .i64 19, PV.int .i64 19, PV.int .i64 3] l1 v1 v2) fun l3 v5 v6 v7 =>
 r35 v3 v4 v7 l2 := by kernel_rfl
/-! 36 : impl.TurnTerm -/
theorem n36 (k : Nat) (wide vars op : Int) (a : List PV) : c36 (k + 1) wide vars op a =
 bif (op != 13) then
  bif (op != 19) then
   r36 [] false
  else
   R25 (c25 k wide vars a) fun b1 =>
   bif !b1 then
    r36 [] false
   else
    R97 (c97 k a) fun l1 =>
    bif decide ((l1.length + 1) * 16 ≤ LIM) && decide (l1.length + 1 ≤ LIM) then
     R79 (c79 k wide vars (((l1.take l1.length) ++ [PV.agg [.int .i64 op, .int .u64 0]]).take (l1.length + 1))) fun l2 b2 =>
     r36 l2 b2
    else none
 else
  R25 (c25 k wide vars a) fun b3 =>
  bif !b3 then
   r36 [] false
  else
   R97 (c97 k a) fun l3 =>
   bif decide ((l3.length + 1) * 16 ≤ LIM) && decide (l3.length + 1 ≤ LIM) then
    R79 (c79 k wide vars (((l3.take l3.length) ++ [PV.agg [.int .i64 op, .int .u64 0]]).take (l3.length + 1))) fun l4 b4 =>
    r36 l4 b4
   else none := by kernel_rfl
/-! 37 : spec.TurnTerm -/
theorem n37 (k : Nat) (wide vars op : Int) (a : List PV) : c37 (k + 1) wide vars op a =
 R93 (c93 k op) fun v1 v2 v3 =>
 bif (v1 != 1) then
  r37 [] false
 else
  R80 (c80 k wide vars a) fun v4 =>
  bif (v4 != v2) then
   r37 [] false
  else
   bif decide ((0 + a.length) * 16 ≤ LIM) && decide (0 + a.length ≤ LIM) then
    bif decide (((0 + a.length) + 1) * 16 ≤ LIM) && decide ((0 + a.length) + 1 ≤ LIM) then
     R81 (c81 k wide vars (((([] ++ a).take (0 + a.length)) ++ [PV.agg [.int .i64 op, .int .u64 0]]).take ((0 + a.length) + 1))) fun l1 b1 =>
     r37 l1 b1
    else none
   else none := by kernel_rfl
/-! 54 : spec.l1In -/
theorem n54 (k : Nat) (n1 lo hi : Int) : c54 (k + 1) n1 lo hi =
 bif decide (n1 ≥ lo) then
  r54 (decide (n1 ≤ hi))
 else r54 false := by kernel_rfl
/-! 69 : spec.l1Cur).pick -/
theorem n69 (k : Nat) (n1 : Int) (l : List PV) (n11 n12 : Int) : c69 (k + 1) n1 l n11 n12 =
 bif decide (n1 ≤ 1) then
  r69 l n11 n12 0
 else
  R139 (c139 k l n11 n12) fun l1 v1 v2 v3 =>
  bif decide (n1 > 200) then
   R139 (c139 k l1 v1 v2) fun l2 v4 v5 v6 =>
   bif !(n1 == 0) then
    r69 l2 v4 v5 ((IntKind.i64.wrap ((IntKind.i64.wrap (v3 * 256)) + v6)).tmod n1)
   else none
  else
   bif !(n1 == 0) then
    r69 l1 v1 v2 (v3.tmod n1)
   else none := by kernel_rfl
end Go.Proofs.Ytnliglgellapdaa
