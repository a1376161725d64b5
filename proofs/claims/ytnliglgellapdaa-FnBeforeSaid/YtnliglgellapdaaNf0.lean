/- Normal forms: printed by nf.py. -/
import Derived.Test.YtnliglgellapdaaCs
set_option linter.unusedVariables false
set_option maxRecDepth 100000
namespace Go.Proofs.Ytnliglgellapdaa
open Go.Dp
/-! 4 : laws.FnNumbered -/
theorem n4 (k : Nat) (code more : List PV) : c4 (k + 1) code more =
 R11 (c11 k code more) fun b1 =>
 bif b1 then
  r4 true
 else
  R12 (c12 k code) fun v1 v2 l1 l2 l3 =>
  R13 (c13 k v1 v2 l1 l2 l3) fun v3 b2 =>
  R14 (c14 k v1 v2 l1 l2 l3) fun v4 b3 =>
  R15 (c15 k v1 v2 l1 l2) fun b4 b5 =>
  R16 (c16 k v1 v2 l1 l2) fun b6 b7 =>
  bif (!(b2 == b3)) then
   r4 false
  else
   bif (v3 != v4) then
    r4 false
   else
    bif (!(b5 == b7)) then
     r4 false
    else
     bif (!(b4 == b6)) then
      r4 false
     else
      bif b2 then
       R17 (c17 k v1 v2 l1 l2 v3) fun l4 b8 =>
       bif !b4 then
        r4 false
       else
        bif !b8 then
         r4 false
        else
         R18 (c18 k l4 l3) fun b9 =>
         bif !b9 then
          r4 false
         else
          R19 (c19 k more) fun v5 v6 l5 l6 v7 =>
          R17 (c17 k v5 v6 l5 l6 v7) fun l7 b10 =>
          R20 (c20 k v5 v6 l5 l6 v7) fun l8 b11 =>
          bif (!(b10 == b11)) then
           r4 false
          else
           R18 (c18 k l7 l8) fun b12 =>
           bif !b12 then
            r4 false
           else
            bif b10 then
            R13 (c13 k v5 v6 l5 l6 l7) fun v8 b13 =>
            bif b13 then
            r4 (v8 == v7)
            else r4 false
            else r4 true
      else
       R19 (c19 k more) fun v9 v10 l9 l10 v11 =>
       R17 (c17 k v9 v10 l9 l10 v11) fun l11 b14 =>
       R20 (c20 k v9 v10 l9 l10 v11) fun l12 b15 =>
       bif (!(b14 == b15)) then
        r4 false
       else
        R18 (c18 k l11 l12) fun b16 =>
        bif !b16 then
         r4 false
        else
         bif b14 then
          R13 (c13 k v9 v10 l9 l10 l11) fun v12 b17 =>
          bif b17 then
           r4 (v12 == v11)
          else r4 false
         else r4 true := by kernel_rfl
/-! 5 : laws.FnPutFor -/
theorem n5 (k : Nat) (code more : List PV) : c5 (k + 1) code more =
 R11 (c11 k code more) fun b1 =>
 bif b1 then
  r5 true
 else
  R21 (c21 k code) fun v1 v2 l1 l2 =>
  R22 (c22 k v1 v2 l1 l2) fun l3 b2 =>
  R23 (c23 k v1 v2 l1 l2) fun l4 b3 =>
  bif (!(b2 == b3)) then
   r5 false
  else
   R24 (c24 k l3 l4) fun b4 =>
   bif !b4 then
    r5 false
   else
    R25 (c25 k v1 v2 l1) fun b5 =>
    R26 (c26 k v1 v2 l1) fun b6 =>
    bif (!(b5 == b6)) then
     r5 false
    else
     bif !b2 then
      r5 true
     else L5_1 k k more v1 v2 l1 l2 l3 0 0 0 [] [] := by kernel_rfl
theorem sL5_1 (k n : Nat) (more : List PV) (w1 vars : Int) (t by1 p : List PV) (stateLen valuesLen : Nat) (k1 : Int) (xs xs1 : List PV) : L5_1 k (n + 1) more w1 vars t by1 p stateLen valuesLen k1 xs xs1 =
 bif decide (k1 < vars) then
  R28 (c28 k more) fun v1 =>
  bif !decide (IntKind.u64.wrap (IntKind.i64.wrap (3 * k1)) < 0) then
   R27 (c27 k w1 (IntKind.u64.wrap (shrI .i64 v1 (IntKind.u64.wrap (IntKind.i64.wrap (3 * k1)))))) fun v2 b1 =>
   bif !b1 then
    r5 false
   else
    bif decide ((stateLen + 1) * 8 ≤ LIM) && decide (stateLen + 1 ≤ LIM) then
     L5_1 k n more w1 vars t by1 p (stateLen + 1) valuesLen (IntKind.i64.wrap (k1 + 1)) ((xs.take stateLen) ++ [PV.int .u64 v2]) xs1
    else none
  else none
 else L5_2 k k w1 t p stateLen valuesLen by1 (by1.length : Int) 0 xs xs1 := by kernel_rfl
theorem sL5_2 (k n : Nat) (w1 : Int) (t p : List PV) (stateLen valuesLen : Nat) (t97 : List PV) (t98 t99 : Int) (xs xs1 : List PV) : L5_2 k (n + 1) w1 t p stateLen valuesLen t97 t98 t99 xs xs1 =
 bif decide (t99 < t98) then
  (lookP t97 t99).bind fun p1 =>
  (p1.atRow 2 0).bind fun l1 =>
  R29p (c29 k w1 l1 (xs.take stateLen)) fun v1 b1 =>
  bif !b1 then
   r5 false
  else
   bif decide ((valuesLen + 1) * 8 ≤ LIM) && decide (valuesLen + 1 ≤ LIM) then
    L5_2 k n w1 t p stateLen (valuesLen + 1) t97 t98 (IntKind.i64.wrap (t99 + 1)) xs ((xs1.take valuesLen) ++ [PV.int .u64 v1])
   else none
 else
  R29p (c29 k w1 p (xs.take stateLen)) fun v2 b2 =>
  R29p (c29 k w1 t (xs1.take valuesLen)) fun v3 b3 =>
  bif b2 then
   bif b3 then
    r5 (v2 == v3)
   else r5 false
  else r5 false := by kernel_rfl
/-! 6 : laws.FnJoined -/
theorem n6 (k : Nat) (code more : List PV) : c6 (k + 1) code more =
 R11 (c11 k code more) fun b1 =>
 bif b1 then
  r6 true
 else
  R30 (c30 k code) fun v1 v2 v3 l1 l2 =>
  R31 (c31 k v1 v2 v3 l1 l2) fun l3 b2 =>
  R32 (c32 k v1 v2 v3 l1 l2) fun l4 b3 =>
  bif (!(b2 == b3)) then
   r6 false
  else
   R24 (c24 k l3 l4) fun b4 =>
   bif !b4 then
    r6 false
   else L6_1 k k code more v1 v2 v3 l1 l2 l3 b2 0 0 [] := by kernel_rfl
theorem sL6_1 (k n : Nat) (code more : List PV) (w1 vars op : Int) (a b j : List PV) (ok : Bool) (stateLen : Nat) (k1 : Int) (xs : List PV) : L6_1 k (n + 1) code more w1 vars op a b j ok stateLen k1 xs =
 bif ok then
  bif decide (k1 < vars) then
   R28 (c28 k more) fun v1 =>
   bif !decide (IntKind.u64.wrap (IntKind.i64.wrap (3 * k1)) < 0) then
    R27 (c27 k w1 (IntKind.u64.wrap (shrI .i64 v1 (IntKind.u64.wrap (IntKind.i64.wrap (3 * k1)))))) fun v2 b1 =>
    bif !b1 then
     r6 false
    else
     bif decide ((stateLen + 1) * 8 ≤ LIM) && decide (stateLen + 1 ≤ LIM) then
      L6_1 k n code more w1 vars op a b j ok (stateLen + 1) (IntKind.i64.wrap (k1 + 1)) ((xs.take stateLen) ++ [PV.int .u64 v2])
     else none
   else none
  else
   bif ok then
    R29p (c29 k w1 j (xs.take stateLen)) fun v3 b2 =>
    R29p (c29 k w1 a (xs.take stateLen)) fun v4 b3 =>
    R29p (c29 k w1 b (xs.take stateLen)) fun v5 b4 =>
    R33 (c33 k w1 v4 v5) fun v6 b5 =>
    R34 (c34 k w1 v4 v5) fun b6 b7 =>
    bif !b2 then
     r6 false
    else
     bif !b3 then
      r6 false
     else
      bif !b4 then
       r6 false
      else
       bif !b5 then
        r6 false
       else
        bif !b7 then
         r6 false
        else
         bif (op == 3) then
          bif (v3 != v6) then
           r6 false
          else
           bif (op == 10) then
            bif (v3 != bitsOp .xor .u64 v4 v5) then
            r6 false
            else
            bif (op == 16) then
            bif (!((v3 == 1) == b6)) then
            r6 false
            else
            bif (op == 18) then
            bif (v3 != bitsOp .or .u64 v4 v5) then
            r6 false
            else J6_2 k code more
            else J6_2 k code more
            else
            bif (op == 18) then
            bif (v3 != bitsOp .or .u64 v4 v5) then
            r6 false
            else J6_2 k code more
            else J6_2 k code more
           else
            bif (op == 16) then
            bif (!((v3 == 1) == b6)) then
            r6 false
            else
            bif (op == 18) then
            bif (v3 != bitsOp .or .u64 v4 v5) then
            r6 false
            else J6_2 k code more
            else J6_2 k code more
            else
            bif (op == 18) then
            bif (v3 != bitsOp .or .u64 v4 v5) then
            r6 false
            else J6_2 k code more
            else J6_2 k code more
         else
          bif (op == 10) then
           bif (v3 != bitsOp .xor .u64 v4 v5) then
            r6 false
           else
            bif (op == 16) then
            bif (!((v3 == 1) == b6)) then
            r6 false
            else
            bif (op == 18) then
            bif (v3 != bitsOp .or .u64 v4 v5) then
            r6 false
            else J6_2 k code more
            else J6_2 k code more
            else
            bif (op == 18) then
            bif (v3 != bitsOp .or .u64 v4 v5) then
            r6 false
            else J6_2 k code more
            else J6_2 k code more
          else
           bif (op == 16) then
            bif (!((v3 == 1) == b6)) then
            r6 false
            else
            bif (op == 18) then
            bif (v3 != bitsOp .or .u64 v4 v5) then
            r6 false
            else J6_2 k code more
            else J6_2 k code more
           else
            bif (op == 18) then
            bif (v3 != bitsOp .or .u64 v4 v5) then
            r6 false
            else J6_2 k code more
            else J6_2 k code more
   else J6_2 k code more
 else
  bif ok then
   R29p (c29 k w1 j (xs.take stateLen)) fun v7 b8 =>
   R29p (c29 k w1 a (xs.take stateLen)) fun v8 b9 =>
   R29p (c29 k w1 b (xs.take stateLen)) fun v9 b10 =>
   R33 (c33 k w1 v8 v9) fun v10 b11 =>
   R34 (c34 k w1 v8 v9) fun b12 b13 =>
   bif !b8 then
    r6 false
   else
    bif !b9 then
     r6 false
    else
     bif !b10 then
      r6 false
     else
      bif !b11 then
       r6 false
      else
       bif !b13 then
        r6 false
       else
        bif (op == 3) then
         bif (v7 != v10) then
          r6 false
         else
          bif (op == 10) then
           bif (v7 != bitsOp .xor .u64 v8 v9) then
            r6 false
           else
            bif (op == 16) then
            bif (!((v7 == 1) == b12)) then
            r6 false
            else
            bif (op == 18) then
            bif (v7 != bitsOp .or .u64 v8 v9) then
            r6 false
            else J6_2 k code more
            else J6_2 k code more
            else
            bif (op == 18) then
            bif (v7 != bitsOp .or .u64 v8 v9) then
            r6 false
            else J6_2 k code more
            else J6_2 k code more
          else
           bif (op == 16) then
            bif (!((v7 == 1) == b12)) then
            r6 false
            else
            bif (op == 18) then
            bif (v7 != bitsOp .or .u64 v8 v9) then
            r6 false
            else J6_2 k code more
            else J6_2 k code more
           else
            bif (op == 18) then
            bif (v7 != bitsOp .or .u64 v8 v9) then
            r6 false
            else J6_2 k code more
            else J6_2 k code more
        else
         bif (op == 10) then
          bif (v7 != bitsOp .xor .u64 v8 v9) then
           r6 false
          else
           bif (op == 16) then
            bif (!((v7 == 1) == b12)) then
            r6 false
            else
            bif (op == 18) then
            bif (v7 != bitsOp .or .u64 v8 v9) then
            r6 false
            else J6_2 k code more
            else J6_2 k code more
           else
            bif (op == 18) then
            bif (v7 != bitsOp .or .u64 v8 v9) then
            r6 false
            else J6_2 k code more
            else J6_2 k code more
         else
          bif (op == 16) then
           bif (!((v7 == 1) == b12)) then
            r6 false
           else
            bif (op == 18) then
            bif (v7 != bitsOp .or .u64 v8 v9) then
            r6 false
            else J6_2 k code more
            else J6_2 k code more
          else
           bif (op == 18) then
            bif (v7 != bitsOp .or .u64 v8 v9) then
            r6 false
            else J6_2 k code more
           else J6_2 k code more
  else J6_2 k code more := by kernel_rfl
theorem sJ6_2 (k : Nat) (code more : List PV) : J6_2 (k + 1) code more =
 R35 (c35 (k + 1) more) fun v1 v2 v3 l1 =>
 R36 (c36 (k + 1) v1 v2 v3 l1) fun l2 b1 =>
 R37 (c37 (k + 1) v1 v2 v3 l1) fun l3 b2 =>
 bif (!(b1 == b2)) then
  r6 false
 else
  R24 (c24 (k + 1) l2 l3) fun b3 =>
  bif !b3 then
   r6 false
  else
   R36 (c36 (k + 1) v1 v2 v3 l2) fun l4 b4 =>
   L6_3 (k + 1) (k + 1) code v1 v2 l1 b1 l4 b4 0 0 [] := by kernel_rfl
theorem sL6_3 (k n : Nat) (code : List PV) (u n1 : Int) (t : List PV) (one : Bool) (twice : List PV) (three : Bool) (otherLen : Nat) (k1 : Int) (xs : List PV) : L6_3 k (n + 1) code u n1 t one twice three otherLen k1 xs =
 bif three then
  bif decide (k1 < n1) then
   R28 (c28 k code) fun v1 =>
   bif !decide (IntKind.u64.wrap (IntKind.i64.wrap (3 * k1)) < 0) then
    R27 (c27 k u (IntKind.u64.wrap (shrI .i64 v1 (IntKind.u64.wrap (IntKind.i64.wrap (3 * k1)))))) fun v2 b1 =>
    bif !b1 then
     r6 false
    else
     bif decide ((otherLen + 1) * 8 ≤ LIM) && decide (otherLen + 1 ≤ LIM) then
      L6_3 k n code u n1 t one twice three (otherLen + 1) (IntKind.i64.wrap (k1 + 1)) ((xs.take otherLen) ++ [PV.int .u64 v2])
     else none
   else none
  else
   bif one then
    bif three then
     R29p (c29 k u twice (xs.take otherLen)) fun v3 b2 =>
     R29p (c29 k u t (xs.take otherLen)) fun v4 b3 =>
     bif b2 then
      bif b3 then
       r6 (v3 == v4)
      else r6 false
     else r6 false
    else r6 true
   else r6 true
 else
  bif one then
   bif three then
    R29p (c29 k u twice (xs.take otherLen)) fun v5 b4 =>
    R29p (c29 k u t (xs.take otherLen)) fun v6 b5 =>
    bif b4 then
     bif b5 then
      r6 (v5 == v6)
     else r6 false
    else r6 false
   else r6 true
  else r6 true := by kernel_rfl
/-! 7 : laws.FnBefore -/
theorem n7 (k : Nat) (code more : List PV) : c7 (k + 1) code more =
 R11 (c11 k code more) fun b1 =>
 bif b1 then
  r7 true
 else
  R38 (c38 k code) fun v1 v2 l1 l2 v3 l3 =>
  R39 (c39 k v1 v2 l1 l2 v3 l3) fun l4 b2 =>
  R40 (c40 k v1 v2 l1 l2 v3 l3) fun l5 b3 =>
  R41 (c41 k v1 v2 l1 l2 v3 l3) fun l6 b4 =>
  R42 (c42 k v1 v2 l1 l2 v3 l3) fun l7 b5 =>
  bif (!(b2 == b3)) then
   r7 false
  else
   R24 (c24 k l4 l5) fun b6 =>
   bif !b6 then
    r7 false
   else
    bif (!(b4 == b5)) then
     r7 false
    else
     R24 (c24 k l6 l7) fun b7 =>
     bif !b7 then
      r7 false
     else
      bif !b2 then
       r7 true
      else L7_1 k k more v3 l3 l4 l6 b4 0 0 v1 v2 l1 l2 [] := by kernel_rfl
theorem sL7_1 (k n : Nat) (more : List PV) (k1 : Int) (t b i : List PV) (one : Bool) (sLen : Nat) (v n1 n11 : Int) (l l1 xs : List PV) : L7_1 k (n + 1) more k1 t b i one sLen v n1 n11 l l1 xs =
 bif decide (v < n11) then
  R28 (c28 k more) fun v1 =>
  bif !decide (IntKind.u64.wrap (IntKind.i64.wrap (3 * v)) < 0) then
   R27 (c27 k n1 (IntKind.u64.wrap (shrI .i64 v1 (IntKind.u64.wrap (IntKind.i64.wrap (3 * v)))))) fun v2 b1 =>
   bif !b1 then
    r7 false
   else
    bif decide ((sLen + 1) * 8 ≤ LIM) && decide (sLen + 1 ≤ LIM) then
     L7_1 k n more k1 t b i one (sLen + 1) (IntKind.i64.wrap (v + 1)) n1 n11 l l1 ((xs.take sLen) ++ [PV.int .u64 v2])
    else none
  else none
 else
  R43 (c43 k n1 n11 l l1 (xs.take sLen) k1) fun l2 b2 =>
  bif b2 then
   R29 (c29 k n1 t l2) fun v3 b3 =>
   R29 (c29 k n1 b (xs.take sLen)) fun v4 b4 =>
   bif !b3 then
    r7 false
   else
    bif !b4 then
     r7 false
    else
     bif (v3 != v4) then
      r7 false
     else
      bif one then
       R29 (c29 k n1 i (xs.take sLen)) fun v5 b5 =>
       bif b5 then
        r7 (v5 == v3)
       else r7 false
      else r7 true
  else
   bif one then
    R29 (c29 k n1 i (xs.take sLen)) fun v6 b6 =>
    bif b6 then
     r7 (v6 == 1)
    else r7 false
   else r7 true := by kernel_rfl
/-! 11 : laws.big -/
theorem n11 (k : Nat) (code more : List PV) : c11 (k + 1) code more =
 bif decide ((code.length : Int) > 1048576) then
  r11 true
 else r11 (decide ((more.length : Int) > IntKind.i64.wrap (1048576 - (code.length : Int)))) := by kernel_rfl
/-! 12 : spec.DrawStateNo -/
theorem n12 (k : Nat) (code : List PV) : c12 (k + 1) code =
 R57 (c57 k code 0 0) fun l1 v1 v2 v3 v4 l2 l3 =>
 R58 (c58 k v3 v4 l2 l3 l1 v1 v2) fun l4 v5 v6 l5 =>
 r12 v3 v4 l2 l3 l5 := by kernel_rfl
/-! 13 : impl.StateNo -/
theorem n13 (k : Nat) (p p1 : Int) (p2 p3 qs : List PV) : c13 (k + 1) p p1 p2 p3 qs =
 R59 (c59 k p p1 p2 p3) fun b1 =>
 bif !b1 then
  r13 0 false
 else
  R60 (c60 k p p1 p2 p3 qs) fun b2 =>
  bif !b2 then
   r13 0 false
  else
   R61 (c61 k p p1 p2 p3 qs) fun v1 =>
   r13 v1 true := by kernel_rfl
/-! 14 : spec.StateNo -/
theorem n14 (k : Nat) (p p1 : Int) (p2 p3 qs : List PV) : c14 (k + 1) p p1 p2 p3 qs =
 R62 (c62 k p p1 p2 p3) fun b1 =>
 bif !b1 then
  r14 0 false
 else
  R63 (c63 k p p1 p2 p3 qs) fun b2 =>
  bif !b2 then
   r14 0 false
  else
   R64 (c64 k p p1 p2 p3 qs) fun v1 =>
   r14 v1 true := by kernel_rfl
/-! 15 : impl.IsSmall -/
theorem n15 (k : Nat) (p p1 : Int) (p2 p3 : List PV) : c15 (k + 1) p p1 p2 p3 =
 R65 (c65 k p p1 p2 p3) fun b1 =>
 bif !b1 then
  r15 false false
 else
  R59 (c59 k p p1 p2 p3) fun b2 =>
  r15 b2 true := by kernel_rfl
/-! 16 : spec.IsSmall -/
theorem n16 (k : Nat) (p p1 : Int) (p2 p3 : List PV) : c16 (k + 1) p p1 p2 p3 =
 R66 (c66 k p p1 p2 p3) fun b1 =>
 bif !b1 then
  r16 false false
 else
  R62 (c62 k p p1 p2 p3) fun b2 =>
  r16 b2 true := by kernel_rfl
/-! 17 : impl.StateOf -/
theorem n17 (k : Nat) (p p1 : Int) (p2 p3 : List PV) (no : Int) : c17 (k + 1) p p1 p2 p3 no =
 R67 (c67 k p p1 p2 p3 no) fun b1 =>
 bif !b1 then
  r17 [] false
 else
  R68 (c68 k p p1 p2 p3 no) fun l1 =>
  r17 l1 true := by kernel_rfl
/-! 18 : laws.sameWords -/
theorem n18 (k : Nat) (a b : List PV) : c18 (k + 1) a b =
 bif ((a.length : Int) != (b.length : Int)) then
  r18 false
 else L18_1 k k a b (a.length : Int) 0 := by kernel_rfl
theorem sL18_1 (k n : Nat) (a b : List PV) (t12 t13 : Int) : L18_1 k (n + 1) a b t12 t13 =
 bif decide (t13 < t12) then
  (lookP a t13).bind fun p1 =>
  (p1.atInt .u64 0).bind fun n1 =>
  (lookP b t13).bind fun p2 =>
  (p2.atInt .u64 0).bind fun n2 =>
  bif (n1 != n2) then
   r18 false
  else L18_1 k n a b t12 (IntKind.i64.wrap (t13 + 1))
 else r18 true := by kernel_rfl
/-! 19 : spec.DrawStateOf -/
theorem n19 (k : Nat) (code : List PV) : c19 (k + 1) code =
 R57 (c57 k code 0 0) fun l1 v1 v2 v3 v4 l2 l3 =>
 R69 (c69 k 35 l1 v1 v2) fun l4 v5 v6 v7 =>
 r19 v3 v4 l2 l3 (IntKind.i64.wrap (v7 - 1)) := by kernel_rfl
/-! 20 : spec.StateOf -/
theorem n20 (k : Nat) (p p1 : Int) (p2 p3 : List PV) (no : Int) : c20 (k + 1) p p1 p2 p3 no =
 R62 (c62 k p p1 p2 p3) fun b1 =>
 bif !b1 then
  r20 [] false
 else
  R70 (c70 k p p1 p2 p3) fun v1 =>
  R54 (c54 k no 0 (IntKind.i64.wrap (v1 - 1))) fun b2 =>
  bif !b2 then
   r20 [] false
  else
   R71 (c71 k p p1 p2 p3 no) fun l1 =>
   r20 l1 true := by kernel_rfl
/-! 21 : spec.DrawPutAll -/
theorem n21 (k : Nat) (code : List PV) : c21 (k + 1) code =
 R72 (c72 k code 0 0) fun l1 v1 v2 v3 v4 l2 =>
 L21_1 k k v3 v4 l2 0 0 l1 v1 v2 [] := by kernel_rfl
theorem sL21_1 (k n : Nat) (wide vars : Int) (t : List PV) (byLen : Nat) (k1 : Int) (l : List PV) (n1 n11 : Int) (xs : List PV) : L21_1 k (n + 1) wide vars t byLen k1 l n1 n11 xs =
 bif decide (k1 < vars) then
  R74 (c74 k vars) fun v1 =>
  R73 (c73 k wide v1 1 l n1 n11) fun l1 v2 v3 l2 =>
  bif decide ((byLen + 1) * 24 ≤ LIM) && decide (byLen + 1 ≤ LIM) then
   L21_1 k n wide vars t (byLen + 1) (IntKind.i64.wrap (k1 + 1)) l1 v2 v3 ((xs.take byLen) ++ [PV.row 2 0 (l2.take l2.length)])
  else none
 else
  R75 (c75 k 20 l n1 n11) fun l3 v4 v5 b1 =>
  bif b1 then
   bif decide ((byLen + 1) * 24 ≤ LIM) && decide (byLen + 1 ≤ LIM) then
    r21 wide vars t (((xs.take byLen) ++ [PV.row 2 0 t]).take (byLen + 1))
   else none
  else r21 wide vars t (xs.take byLen) := by kernel_rfl
/-! 22 : impl.PutAll -/
theorem n22 (k : Nat) (wide vars : Int) (t by1 : List PV) : c22 (k + 1) wide vars t by1 =
 R25 (c25 k wide vars t) fun b1 =>
 bif !b1 then
  r22 [] false
 else
  bif ((by1.length : Int) != vars) then
   r22 [] false
  else
   R76 (c76 k by1 wide vars) fun v1 v2 b2 =>
   bif b2 then
    r22 [] false
   else L22_1 k k by1 0 t (t.length : Int) 0 v1 v2 [] := by kernel_rfl
theorem sL22_1 (k n : Nat) (by1 : List PV) (outLen : Nat) (t30 : List PV) (t31 t32 n1 n11 : Int) (xs : List PV) : L22_1 k (n + 1) by1 outLen t30 t31 t32 n1 n11 xs =
 bif decide (t32 < t31) then
  (lookP t30 t32).bind fun p1 =>
  bif p1.shp 2 then
   (p1.atInt .i64 0).bind fun n2 =>
   (p1.atInt .u64 1).bind fun n3 =>
   bif (n2 == 2) then
    (lookP by1 n3).bind fun p2 =>
    (p2.atRow 2 0).bind fun l1 =>
    bif decide ((outLen + l1.length) * 16 ≤ LIM) && decide (outLen + l1.length ≤ LIM) then
     L22_1 k n by1 (outLen + l1.length) t30 t31 (IntKind.i64.wrap (t32 + 1)) n1 n11 ((xs.take outLen) ++ l1)
    else none
   else
    bif decide ((outLen + 1) * 16 ≤ LIM) && decide (outLen + 1 ≤ LIM) then
     L22_1 k n by1 (outLen + 1) t30 t31 (IntKind.i64.wrap (t32 + 1)) n1 n11 ((xs.take outLen) ++ [PV.agg [.int .i64 n2, .int .u64 n3]])
    else none
  else none
 else
  R79 (c79 k n1 n11 (xs.take outLen)) fun l2 b1 =>
  r22 l2 b1 := by kernel_rfl
/-! 23 : spec.PutAll -/
theorem n23 (k : Nat) (wide vars : Int) (t by1 : List PV) : c23 (k + 1) wide vars t by1 =
 R26 (c26 k wide vars t) fun b1 =>
 bif !b1 then
  r23 [] false
 else
  bif ((by1.length : Int) != vars) then
   r23 [] false
  else L23_1 k k wide vars t by1 by1 (by1.length : Int) 0 := by kernel_rfl
theorem sL23_1 (k n : Nat) (wide vars : Int) (t by1 t26 : List PV) (t27 t28 : Int) : L23_1 k (n + 1) wide vars t by1 t26 t27 t28 =
 bif decide (t28 < t27) then
  (lookP t26 t28).bind fun p1 =>
  (p1.atRow 2 0).bind fun l1 =>
  R80 (c80 k wide vars l1) fun v1 =>
  bif (v1 != 1) then
   r23 [] false
  else L23_1 k n wide vars t by1 t26 t27 (IntKind.i64.wrap (t28 + 1))
 else L23_2 k k wide vars by1 0 t (t.length : Int) 0 [] := by kernel_rfl
theorem sL23_2 (k n : Nat) (wide vars : Int) (by1 : List PV) (outLen : Nat) (t38 : List PV) (t39 t40 : Int) (xs : List PV) : L23_2 k (n + 1) wide vars by1 outLen t38 t39 t40 xs =
 bif decide (t40 < t39) then
  (lookP t38 t40).bind fun p1 =>
  bif p1.shp 2 then
   (p1.atInt .i64 0).bind fun n1 =>
   (p1.atInt .u64 1).bind fun n2 =>
   bif (n1 == 2) then
    (lookP by1 n2).bind fun p2 =>
    (p2.atRow 2 0).bind fun l1 =>
    bif decide ((outLen + l1.length) * 16 ≤ LIM) && decide (outLen + l1.length ≤ LIM) then
     L23_2 k n wide vars by1 (outLen + l1.length) t38 t39 (IntKind.i64.wrap (t40 + 1)) ((xs.take outLen) ++ l1)
    else none
   else
    bif decide ((outLen + 1) * 16 ≤ LIM) && decide (outLen + 1 ≤ LIM) then
     L23_2 k n wide vars by1 (outLen + 1) t38 t39 (IntKind.i64.wrap (t40 + 1)) ((xs.take outLen) ++ [PV.agg [.int .i64 n1, .int .u64 n2]])
    else none
  else none
 else
  R81 (c81 k wide vars (xs.take outLen)) fun l2 b1 =>
  r23 l2 b1 := by kernel_rfl
/-! 24 : laws.sameNodes -/
theorem n24 (k : Nat) (a b : List PV) : c24 (k + 1) a b =
 bif ((a.length : Int) != (b.length : Int)) then
  r24 false
 else L24_1 k k a b (a.length : Int) 0 := by kernel_rfl
theorem sL24_1 (k n : Nat) (a b : List PV) (t12 t13 : Int) : L24_1 k (n + 1) a b t12 t13 =
 bif decide (t13 < t12) then
  (lookP a t13).bind fun p1 =>
  bif p1.shp 2 then
   (p1.atInt .i64 0).bind fun n1 =>
   (p1.atInt .u64 1).bind fun n2 =>
   (lookP b t13).bind fun p2 =>
   bif p2.shp 2 then
    (p2.atInt .i64 0).bind fun n3 =>
    (p2.atInt .u64 1).bind fun n4 =>
    bif (!((n1 == n3) && ((n2 == n4) && true))) then
     r24 false
    else L24_1 k n a b t12 (IntKind.i64.wrap (t13 + 1))
   else none
  else none
 else r24 true := by kernel_rfl
/-! 25 : impl.GoodTerm -/
theorem n25 (k : Nat) (wide vars : Int) (t : List PV) : c25 (k + 1) wide vars t =
 R82 (c82 k wide) fun b1 =>
 bif !b1 then
  r25 false
 else
  R83 (c83 k vars) fun b2 =>
  bif !b2 then
   r25 false
  else
   bif decide ((t.length : Int) < 1) then
    r25 false
   else
    bif decide ((t.length : Int) > 48) then
     r25 false
    else L25_1 k k wide vars 0 t (t.length : Int) 0 [] := by kernel_rfl
theorem sL25_1 (k n : Nat) (wide vars : Int) (stackLen : Nat) (t33 : List PV) (t34 t35 : Int) (xs : List PV) : L25_1 k (n + 1) wide vars stackLen t33 t34 t35 xs =
 bif decide (t35 < t34) then
  (lookP t33 t35).bind fun p1 =>
  bif p1.shp 2 then
   (p1.atInt .i64 0).bind fun n1 =>
   (p1.atInt .u64 1).bind fun n2 =>
   R84 (c84 k n1) fun v1 v2 v3 =>
   bif (v3 == 0) then
    r25 false
   else
    R85 (c85 k wide vars n1 n2) fun b1 =>
    bif !b1 then
     r25 false
    else
     bif decide (IntKind.i64.wrap ((stackLen : Int) - v1) < 0) then
      r25 false
     else
      bif decide ((0 : Int) ≤ IntKind.i64.wrap ((stackLen : Int) - v1)) && decide (IntKind.i64.wrap ((stackLen : Int) - v1) ≤ (stackLen : Int)) && decide ((stackLen : Int) ≤ (stackLen : Int)) then
       R86p (c86 k ((xs.drop (0 + ((IntKind.i64.wrap ((stackLen : Int) - v1)).toNat))).take (stackLen - ((IntKind.i64.wrap ((stackLen : Int) - v1)).toNat))) v2) fun v4 b2 =>
       bif b2 then
        r25 false
       else
        bif decide ((0 : Int) ≤ IntKind.i64.wrap ((stackLen : Int) - v1)) && decide (IntKind.i64.wrap ((stackLen : Int) - v1) ≤ (stackLen : Int)) then
         bif decide ((((IntKind.i64.wrap ((stackLen : Int) - v1)).toNat) + 1) * 8 ≤ LIM) && decide (((IntKind.i64.wrap ((stackLen : Int) - v1)).toNat) + 1 ≤ LIM) then
          L25_1 k n wide vars (((IntKind.i64.wrap ((stackLen : Int) - v1)).toNat) + 1) t33 t34 (IntKind.i64.wrap (t35 + 1)) ((xs.take ((IntKind.i64.wrap ((stackLen : Int) - v1)).toNat)) ++ [PV.int .i64 v3])
         else none
        else none
      else none
  else none
 else r25 ((stackLen : Int) == 1) := by kernel_rfl
/-! 26 : spec.GoodTerm -/
theorem n26 (k : Nat) (wide vars : Int) (t : List PV) : c26 (k + 1) wide vars t =
 R80 (c80 k wide vars t) fun v1 =>
 r26 (decide (v1 > 0)) := by kernel_rfl
/-! 27 : impl.CutTo -/
theorem n27 (k : Nat) (wide a : Int) : c27 (k + 1) wide a =
 R82 (c82 k wide) fun b1 =>
 bif !b1 then
  r27 0 false
 else
  R88 (c88 k wide) fun v1 =>
  r27 (bitsOp .and .u64 a v1) true := by kernel_rfl
end Go.Proofs.Ytnliglgellapdaa
