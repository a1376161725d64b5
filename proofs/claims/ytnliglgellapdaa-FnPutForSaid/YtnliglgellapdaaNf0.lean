/- Normal forms: printed by nf.py. -/
import Derived.Test.YtnliglgellapdaaCs
set_option linter.unusedVariables false
set_option maxRecDepth 100000
namespace Go.Proofs.Ytnliglgellapdaa
open Go.Dp
/-! 5 : laws.FnPutFor -/
theorem n5 (k : Nat) (code more : List PV) : c5 (k + 1) code more =
 R11 (c11 k code more) fun b1 =>
 bif b1 then
  r5 true
 else
  R21 (c21 k code) fun r1 r2 l1 l2 =>
  R22 (c22 k r1 r2 l1 l2) fun l3 b2 =>
  R23 (c23 k r1 r2 l1 l2) fun l4 b3 =>
  bif (!(b2 == b3)) then
   r5 false
  else
   R24 (c24 k l3 l4) fun b4 =>
   bif !b4 then
    r5 false
   else
    R25 (c25 k r1 r2 l1) fun b5 =>
    R26 (c26 k r1 r2 l1) fun b6 =>
    bif (!(b5 == b6)) then
     r5 false
    else
     bif !b2 then
      r5 true
     else L5_1 k k more r1 r2 l1 l2 l3 0 0 0 [] [] := by kernel_rfl
theorem sL5_1 (k n : Nat) (more : List PV) (w1 vars : Int) (t by1 p : List PV) (stateLen valuesLen : Nat) (k1 : Int) (xs xs1 : List PV) : L5_1 k (n + 1) more w1 vars t by1 p stateLen valuesLen k1 xs xs1 =
 bif decide (k1 < vars) then
  R28 (c28 k more) fun r1 =>
  bif !decide (IntKind.u64.wrap (IntKind.i64.wrap (3 * k1)) < 0) then
   R27 (c27 k w1 (IntKind.u64.wrap (shrI .i64 r1 (IntKind.u64.wrap (IntKind.i64.wrap (3 * k1)))))) fun r2 b1 =>
   bif !b1 then
    r5 false
   else
    bif decide ((stateLen + 1) * 8 ≤ LIM) && decide (stateLen + 1 ≤ LIM) then
     L5_1 k n more w1 vars t by1 p (stateLen + 1) valuesLen (IntKind.i64.wrap (k1 + 1)) ((xs.take stateLen) ++ [PV.int .u64 r2]) xs1
    else none
  else none
 else L5_2 k k w1 t p stateLen valuesLen by1 (by1.length : Int) 0 xs xs1 := by kernel_rfl
theorem sL5_2 (k n : Nat) (w1 : Int) (t p : List PV) (stateLen valuesLen : Nat) (t97 : List PV) (t98 t99 : Int) (xs xs1 : List PV) : L5_2 k (n + 1) w1 t p stateLen valuesLen t97 t98 t99 xs xs1 =
 bif decide (t99 < t98) then
  (lookP t97 t99).bind fun p1 =>
  (p1.atRow 2 0).bind fun l1 =>
  R29p (c29 k w1 l1 (xs.take stateLen)) fun r1 b1 =>
  bif !b1 then
   r5 false
  else
   bif decide ((valuesLen + 1) * 8 ≤ LIM) && decide (valuesLen + 1 ≤ LIM) then
    L5_2 k n w1 t p stateLen (valuesLen + 1) t97 t98 (IntKind.i64.wrap (t99 + 1)) xs ((xs1.take valuesLen) ++ [PV.int .u64 r1])
   else none
 else
  R29p (c29 k w1 p (xs.take stateLen)) fun r2 b2 =>
  R29p (c29 k w1 t (xs1.take valuesLen)) fun r3 b3 =>
  bif b2 then
   bif b3 then
    r5 (r2 == r3)
   else r5 false
  else r5 false := by kernel_rfl
/-! 11 : laws.big -/
theorem n11 (k : Nat) (code more : List PV) : c11 (k + 1) code more =
 bif decide ((code.length : Int) > 1048576) then
  r11 true
 else r11 (decide ((more.length : Int) > IntKind.i64.wrap (1048576 - (code.length : Int)))) := by kernel_rfl
/-! 21 : spec.DrawPutAll -/
theorem n21 (k : Nat) (code : List PV) : c21 (k + 1) code =
 R72 (c72 k code 0 0) fun l1 r1 r2 r3 r4 l2 =>
 L21_1 k k r3 r4 l2 0 0 l1 r1 r2 [] := by kernel_rfl
theorem sL21_1 (k n : Nat) (wide vars : Int) (t : List PV) (byLen : Nat) (k1 : Int) (l : List PV) (n1 n11 : Int) (xs : List PV) : L21_1 k (n + 1) wide vars t byLen k1 l n1 n11 xs =
 bif decide (k1 < vars) then
  R74 (c74 k vars) fun r1 =>
  R73 (c73 k wide r1 1 l n1 n11) fun l1 r2 r3 l2 =>
  bif decide ((byLen + 1) * 24 ≤ LIM) && decide (byLen + 1 ≤ LIM) then
   L21_1 k n wide vars t (byLen + 1) (IntKind.i64.wrap (k1 + 1)) l1 r2 r3 ((xs.take byLen) ++ [PV.row 2 0 (l2.take l2.length)])
  else none
 else
  R75 (c75 k 20 l n1 n11) fun l3 r4 r5 b1 =>
  bif b1 then
   bif decide ((byLen + 1) * 24 ≤ LIM) && decide (byLen + 1 ≤ LIM) then
    r21 wide vars t (((xs.take byLen) ++ [PV.row 2 0 t]).take (byLen + 1))
   else none
  else r21 wide vars t (xs.take byLen) := by kernel_rfl
/-! 22 : impl.PutAll -/
theorem n22 (k : Nat) (wide vars : Int) (t by1 : List PV) : c22 (k + 1) wide vars t by1 =
 R25 (c25 k wide vars t) fun b1 =>
 bif !b1 then
  r22 [] false
 else
  bif ((by1.length : Int) != vars) then
   r22 [] false
  else
   R76 (c76 k by1 wide vars) fun r1 r2 b2 =>
   bif b2 then
    r22 [] false
   else L22_1 k k by1 0 t (t.length : Int) 0 r1 r2 [] := by kernel_rfl
theorem sL22_1 (k n : Nat) (by1 : List PV) (outLen : Nat) (t30 : List PV) (t31 t32 n1 n11 : Int) (xs : List PV) : L22_1 k (n + 1) by1 outLen t30 t31 t32 n1 n11 xs =
 bif decide (t32 < t31) then
  (lookP t30 t32).bind fun p1 =>
  bif p1.shp 2 then
   (p1.atInt .i64 0).bind fun n2 =>
   (p1.atInt .u64 1).bind fun n3 =>
   bif (n2 == 2) then
    (lookP by1 n3).bind fun p2 =>
    (p2.atRow 2 0).bind fun l1 =>
    bif decide ((outLen + l1.length) * 16 ≤ LIM) && decide (outLen + l1.length ≤ LIM) then
     L22_1 k n by1 (outLen + l1.length) t30 t31 (IntKind.i64.wrap (t32 + 1)) n1 n11 ((xs.take outLen) ++ l1)
    else none
   else
    bif decide ((outLen + 1) * 16 ≤ LIM) && decide (outLen + 1 ≤ LIM) then
     L22_1 k n by1 (outLen + 1) t30 t31 (IntKind.i64.wrap (t32 + 1)) n1 n11 ((xs.take outLen) ++ [PV.agg [.int .i64 n2, .int .u64 n3]])
    else none
  else none
 else
  R79 (c79 k n1 n11 (xs.take outLen)) fun l2 b1 =>
  r22 l2 b1 := by kernel_rfl
/-! 23 : spec.PutAll -/
theorem n23 (k : Nat) (wide vars : Int) (t by1 : List PV) : c23 (k + 1) wide vars t by1 =
 R26 (c26 k wide vars t) fun b1 =>
 bif !b1 then
  r23 [] false
 else
  bif ((by1.length : Int) != vars) then
   r23 [] false
  else L23_1 k k wide vars t by1 by1 (by1.length : Int) 0 := by kernel_rfl
theorem sL23_1 (k n : Nat) (wide vars : Int) (t by1 t26 : List PV) (t27 t28 : Int) : L23_1 k (n + 1) wide vars t by1 t26 t27 t28 =
 bif decide (t28 < t27) then
  (lookP t26 t28).bind fun p1 =>
  (p1.atRow 2 0).bind fun l1 =>
  R80 (c80 k wide vars l1) fun r1 =>
  bif (r1 != 1) then
   r23 [] false
  else L23_1 k n wide vars t by1 t26 t27 (IntKind.i64.wrap (t28 + 1))
 else L23_2 k k wide vars by1 0 t (t.length : Int) 0 [] := by kernel_rfl
theorem sL23_2 (k n : Nat) (wide vars : Int) (by1 : List PV) (outLen : Nat) (t38 : List PV) (t39 t40 : Int) (xs : List PV) : L23_2 k (n + 1) wide vars by1 outLen t38 t39 t40 xs =
 bif decide (t40 < t39) then
  (lookP t38 t40).bind fun p1 =>
  bif p1.shp 2 then
   (p1.atInt .i64 0).bind fun n1 =>
   (p1.atInt .u64 1).bind fun n2 =>
   bif (n1 == 2) then
    (lookP by1 n2).bind fun p2 =>
    (p2.atRow 2 0).bind fun l1 =>
    bif decide ((outLen + l1.length) * 16 ≤ LIM) && decide (outLen + l1.length ≤ LIM) then
     L23_2 k n wide vars by1 (outLen + l1.length) t38 t39 (IntKind.i64.wrap (t40 + 1)) ((xs.take outLen) ++ l1)
    else none
   else
    bif decide ((outLen + 1) * 16 ≤ LIM) && decide (outLen + 1 ≤ LIM) then
     L23_2 k n wide vars by1 (outLen + 1) t38 t39 (IntKind.i64.wrap (t40 + 1)) ((xs.take outLen) ++ [PV.agg [.int .i64 n1, .int .u64 n2]])
    else none
  else none
 else
  R81 (c81 k wide vars (xs.take outLen)) fun l2 b1 =>
  r23 l2 b1 := by kernel_rfl
/-! 24 : laws.sameNodes -/
theorem n24 (k : Nat) (a b : List PV) : c24 (k + 1) a b =
 bif ((a.length : Int) != (b.length : Int)) then
  r24 false
 else L24_1 k k a b (a.length : Int) 0 := by kernel_rfl
theorem sL24_1 (k n : Nat) (a b : List PV) (t12 t13 : Int) : L24_1 k (n + 1) a b t12 t13 =
 bif decide (t13 < t12) then
  (lookP a t13).bind fun p1 =>
  bif p1.shp 2 then
   (p1.atInt .i64 0).bind fun n1 =>
   (p1.atInt .u64 1).bind fun n2 =>
   (lookP b t13).bind fun p2 =>
   bif p2.shp 2 then
    (p2.atInt .i64 0).bind fun n3 =>
    (p2.atInt .u64 1).bind fun n4 =>
    bif (!((n1 == n3) && ((n2 == n4) && true))) then
     r24 false
    else L24_1 k n a b t12 (IntKind.i64.wrap (t13 + 1))
   else none
  else none
 else r24 true := by kernel_rfl
/-! 25 : impl.GoodTerm -/
theorem n25 (k : Nat) (wide vars : Int) (t : List PV) : c25 (k + 1) wide vars t =
 R82 (c82 k wide) fun b1 =>
 bif !b1 then
  r25 false
 else
  R83 (c83 k vars) fun b2 =>
  bif !b2 then
   r25 false
  else
   bif decide ((t.length : Int) < 1) then
    r25 false
   else
    bif decide ((t.length : Int) > 48) then
     r25 false
    else L25_1 k k wide vars 0 t (t.length : Int) 0 [] := by kernel_rfl
theorem sL25_1 (k n : Nat) (wide vars : Int) (stackLen : Nat) (t33 : List PV) (t34 t35 : Int) (xs : List PV) : L25_1 k (n + 1) wide vars stackLen t33 t34 t35 xs =
 bif decide (t35 < t34) then
  (lookP t33 t35).bind fun p1 =>
  bif p1.shp 2 then
   (p1.atInt .i64 0).bind fun n1 =>
   (p1.atInt .u64 1).bind fun n2 =>
   R84 (c84 k n1) fun r1 r2 r3 =>
   bif (r3 == 0) then
    r25 false
   else
    R85 (c85 k wide vars n1 n2) fun b1 =>
    bif !b1 then
     r25 false
    else
     bif decide (IntKind.i64.wrap ((stackLen : Int) - r1) < 0) then
      r25 false
     else
      bif decide ((0 : Int) ≤ IntKind.i64.wrap ((stackLen : Int) - r1)) && decide (IntKind.i64.wrap ((stackLen : Int) - r1) ≤ (stackLen : Int)) && decide ((stackLen : Int) ≤ (stackLen : Int)) then
       R86p (c86 k ((xs.drop (0 + ((IntKind.i64.wrap ((stackLen : Int) - r1)).toNat))).take (stackLen - ((IntKind.i64.wrap ((stackLen : Int) - r1)).toNat))) r2) fun r4 b2 =>
       bif b2 then
        r25 false
       else
        bif decide ((0 : Int) ≤ IntKind.i64.wrap ((stackLen : Int) - r1)) && decide (IntKind.i64.wrap ((stackLen : Int) - r1) ≤ (stackLen : Int)) then
         bif decide ((((IntKind.i64.wrap ((stackLen : Int) - r1)).toNat) + 1) * 8 ≤ LIM) && decide (((IntKind.i64.wrap ((stackLen : Int) - r1)).toNat) + 1 ≤ LIM) then
          L25_1 k n wide vars (((IntKind.i64.wrap ((stackLen : Int) - r1)).toNat) + 1) t33 t34 (IntKind.i64.wrap (t35 + 1)) ((xs.take ((IntKind.i64.wrap ((stackLen : Int) - r1)).toNat)) ++ [PV.int .i64 r3])
         else none
        else none
      else none
  else none
 else r25 ((stackLen : Int) == 1) := by kernel_rfl
/-! 26 : spec.GoodTerm -/
theorem n26 (k : Nat) (wide vars : Int) (t : List PV) : c26 (k + 1) wide vars t =
 R80 (c80 k wide vars t) fun r1 =>
 r26 (decide (r1 > 0)) := by kernel_rfl
/-! 27 : impl.CutTo -/
theorem n27 (k : Nat) (wide a : Int) : c27 (k + 1) wide a =
 R82 (c82 k wide) fun b1 =>
 bif !b1 then
  r27 0 false
 else
  R88 (c88 k wide) fun r1 =>
  r27 (bitsOp .and .u64 a r1) true := by kernel_rfl
/-! 28 : laws.numberOf -/
theorem n28 (k : Nat) (b : List PV) : c28 (k + 1) b =
 L28_1 k k 0 b (b.length : Int) 0 := by kernel_rfl
theorem sL28_1 (k n : Nat) (n1 : Int) (t6 : List PV) (t7 t8 : Int) : L28_1 k (n + 1) n1 t6 t7 t8 =
 bif decide (t8 < t7) then
  (lookP t6 t8).bind fun p1 =>
  (p1.atInt .u8 0).bind fun n2 =>
  L28_1 k n ((IntKind.i64.wrap ((IntKind.i64.wrap (31 * n1)) + (IntKind.i64.wrap n2))).tmod 1000003) t6 t7 (IntKind.i64.wrap (t8 + 1))
 else r28 n1 := by kernel_rfl
/-! 29 : impl.ValueOf -/
theorem n29 (k : Nat) (wide : Int) (t state : List PV) : c29 (k + 1) wide t state =
 R89 (c89 k wide (state.length : Int) state) fun b1 =>
 bif !b1 then
  r29 0 false
 else
  R25 (c25 k wide (state.length : Int) t) fun b2 =>
  bif !b2 then
   r29 0 false
  else
   R90 (c90 k wide t state) fun r1 =>
   r29 r1 true := by kernel_rfl
/-! 54 : spec.l1In -/
theorem n54 (k : Nat) (n1 lo hi : Int) : c54 (k + 1) n1 lo hi =
 bif decide (n1 ≥ lo) then
  r54 (decide (n1 ≤ hi))
 else r54 false := by kernel_rfl
/-! 69 : spec.l1Cur).pick -/
theorem n69 (k : Nat) (n1 : Int) (l : List PV) (n11 n12 : Int) : c69 (k + 1) n1 l n11 n12 =
 bif decide (n1 ≤ 1) then
  r69 l n11 n12 0
 else
  R139 (c139 k l n11 n12) fun l1 r1 r2 r3 =>
  bif decide (n1 > 200) then
   R139 (c139 k l1 r1 r2) fun l2 r4 r5 r6 =>
   bif !(n1 == 0) then
    r69 l2 r4 r5 ((IntKind.i64.wrap ((IntKind.i64.wrap (r3 * 256)) + r6)).tmod n1)
   else none
  else
   bif !(n1 == 0) then
    r69 l1 r1 r2 (r3.tmod n1)
   else none := by kernel_rfl
/-! 72 : spec.l1Cur).term -/
theorem n72 (k : Nat) (l : List PV) (n1 n11 : Int) : c72 (k + 1) l n1 n11 =
 R96 (c96 k [PV.int .i64 1, PV.int .i64 2, PV.int .i64 3, PV.int .i64 4, PV.int .i64 8, PV.int .i64 64] l n1 n11) fun l1 r1 r2 r3 =>
 R69 (c69 k 3 l1 r1 r2) fun l2 r4 r5 r6 =>
 R91 (c91 k r3 (IntKind.i64.wrap (1 + r6)) 2 l2 r4 r5) fun l3 r7 r8 l4 =>
 R75 (c75 k 3 l3 r7 r8) fun l5 r9 r10 b1 =>
 bif b1 then
  R73 (c73 k r3 (IntKind.i64.wrap (1 + r6)) 3 l5 r9 r10) fun l6 r11 r12 l7 =>
  R69 (c69 k 40 l6 r11 r12) fun l8 r13 r14 r15 =>
  bif (r15 == 0) then
   bif decide ((0 : Int) < (l7.length : Int)) then
    (l7[0]?).bind fun p1 =>
    (putPart p1 2 1 (PV.int .u64 9223372036854775808) 0).bind fun p2 =>
    r72 l8 r13 r14 r3 (IntKind.i64.wrap (1 + r6)) ((l7.set 0 p2).take l7.length)
   else none
  else
   bif (r15 == 1) then
    bif decide ((0 : Int) ≤ IntKind.i64.wrap ((l7.length : Int) - 1)) && decide (IntKind.i64.wrap ((l7.length : Int) - 1) ≤ (l7.length : Int)) then
     r72 l8 r13 r14 r3 (IntKind.i64.wrap (1 + r6)) (l7.take ((IntKind.i64.wrap ((l7.length : Int) - 1)).toNat))
    else none
   else
    bif (r15 == 2) then
     R96 (c96 k [PV.int .i64 0, PV.int .i64 4, PV.int .i64 5] l8 r13 r14) fun l9 r16 r17 r18 =>
     r72 l9 r16 r17 r3 r18 (l7.take l7.length)
    else
     bif (r15 == 3) then
      R69 (c69 k 23 l8 r13 r14) fun l10 r19 r20 r21 =>
      bif decide ((0 : Int) ≤ IntKind.i64.wrap ((l7.length : Int) - 1)) && decide (IntKind.i64.wrap ((l7.length : Int) - 1) < (l7.length : Int)) then
       (l7[0 + ((IntKind.i64.wrap ((l7.length : Int) - 1)).toNat)]?).bind fun p3 =>
       (putPart p3 2 0 (PV.int .i64 r21) 0).bind fun p4 =>
       r72 l10 r19 r20 r3 (IntKind.i64.wrap (1 + r6)) ((l7.set (0 + ((IntKind.i64.wrap ((l7.length : Int) - 1)).toNat)) p4).take l7.length)
      else none
     else r72 l8 r13 r14 r3 (IntKind.i64.wrap (1 + r6)) (l7.take l7.length)
 else
  R69 (c69 k 40 l5 r9 r10) fun l11 r22 r23 r24 =>
  bif (r24 == 0) then
   bif decide ((0 : Int) < (l4.length : Int)) then
    (l4[0]?).bind fun p5 =>
    (putPart p5 2 1 (PV.int .u64 9223372036854775808) 0).bind fun p6 =>
    r72 l11 r22 r23 r3 (IntKind.i64.wrap (1 + r6)) ((l4.set 0 p6).take l4.length)
   else none
  else
   bif (r24 == 1) then
    bif decide ((0 : Int) ≤ IntKind.i64.wrap ((l4.length : Int) - 1)) && decide (IntKind.i64.wrap ((l4.length : Int) - 1) ≤ (l4.length : Int)) then
     r72 l11 r22 r23 r3 (IntKind.i64.wrap (1 + r6)) (l4.take ((IntKind.i64.wrap ((l4.length : Int) - 1)).toNat))
    else none
   else
    bif (r24 == 2) then
     R96 (c96 k [PV.int .i64 0, PV.int .i64 4, PV.int .i64 5] l11 r22 r23) fun l12 r25 r26 r27 =>
     r72 l12 r25 r26 r3 r27 (l4.take l4.length)
    else
     bif (r24 == 3) then
      R69 (c69 k 23 l11 r22 r23) fun l13 r28 r29 r30 =>
      bif decide ((0 : Int) ≤ IntKind.i64.wrap ((l4.length : Int) - 1)) && decide (IntKind.i64.wrap ((l4.length : Int) - 1) < (l4.length : Int)) then
       (l4[0 + ((IntKind.i64.wrap ((l4.length : Int) - 1)).toNat)]?).bind fun p7 =>
       (putPart p7 2 0 (PV.int .i64 r30) 0).bind fun p8 =>
       r72 l13 r28 r29 r3 (IntKind.i64.wrap (1 + r6)) ((l4.set (0 + ((IntKind.i64.wrap ((l4.length : Int) - 1)).toNat)) p8).take l4.length)
      else none
     else r72 l11 r22 r23 r3 (IntKind.i64.wrap (1 + r6)) (l4.take l4.length) := by kernel_rfl
/-! 73 : spec.l1Cur).number -/
theorem n73 (k : Nat) (wide vars deep : Int) (l : List PV) (n1 n11 : Int) : c73 (k + 1) wide vars deep l n1 n11 =
 bif (deep == 0) then
  R75 (c75 k 2 l n1 n11) fun l1 r1 r2 b1 =>
  bif b1 then
   R69 (c69 k 9 l1 r1 r2) fun l2 r3 r4 r5 =>
   R140 (c140 k wide (IntKind.u64.wrap r5)) fun r6 =>
   r73 l2 r3 r4 [PV.agg [.int .i64 1, .int .u64 r6]]
  else
   R69 (c69 k vars l1 r1 r2) fun l3 r7 r8 r9 =>
   r73 l3 r7 r8 [PV.agg [.int .i64 2, .int .u64 (IntKind.u64.wrap r9)]]
 else
  R75 (c75 k 4 l n1 n11) fun l4 r10 r11 b2 =>
  bif b2 then
   R75 (c75 k 2 l4 r10 r11) fun l5 r12 r13 b3 =>
   bif b3 then
    R69 (c69 k 9 l5 r12 r13) fun l6 r14 r15 r16 =>
    R140 (c140 k wide (IntKind.u64.wrap r16)) fun r17 =>
    r73 l6 r14 r15 [PV.agg [.int .i64 1, .int .u64 r17]]
   else
    R69 (c69 k vars l5 r12 r13) fun l7 r18 r19 r20 =>
    r73 l7 r18 r19 [PV.agg [.int .i64 2, .int .u64 (IntKind.u64.wrap r20)]]
  else
   R75 (c75 k 7 l4 r10 r11) fun l8 r21 r22 b4 =>
   bif b4 then
    R73 (c73 k wide vars (IntKind.i64.wrap (deep - 1)) l8 r21 r22) fun l9 r23 r24 l10 =>
    bif decide ((l10.length + 1) * 16 ≤ LIM) && decide (l10.length + 1 ≤ LIM) then
     r73 l9 r23 r24 (((l10.take l10.length) ++ [PV.agg [.int .i64 13, .int .u64 0]]).take (l10.length + 1))
    else none
   else
    R73 (c73 k wide vars (IntKind.i64.wrap (deep - 1)) l8 r21 r22) fun l11 r25 r26 l12 =>
    R73 (c73 k wide vars (IntKind.i64.wrap (deep - 1)) l11 r25 r26) fun l13 r27 r28 l14 =>
    bif decide ((l12.length + ((l14.take l14.length).length)) * 16 ≤ LIM) && decide (l12.length + ((l14.take l14.length).length) ≤ LIM) then
     R96 (c96 k [PV.int .i64 3, PV.int .i64 3, PV.int .i64 3, PV.int .i64 4, PV.int .i64 4, PV.int .i64 5, PV.int .i64 8, PV.int .i64 9, PV.int .i64 10] l13 r27 r28) fun l15 r29 r30 r31 =>
     R75 (c75 k 6 l15 r29 r30) fun l16 r32 r33 b5 =>
     bif b5 then
      R96 (c96 k [PV.int .i64 6, PV.int .i64 7, PV.int .i64 11, PV.int .i64 12] l16 r32 r33) fun l17 r34 r35 r36 =>
      bif decide (((l12.length + ((l14.take l14.length).length)) + 1) * 16 ≤ LIM) && decide ((l12.length + ((l14.take l14.length).length)) + 1 ≤ LIM) then
       r73 l17 r34 r35 (((((l12.take l12.length) ++ (l14.take l14.length)).take (l12.length + ((l14.take l14.length).length))) ++ [PV.agg [.int .i64 r36, .int .u64 0]]).take ((l12.length + ((l14.take l14.length).length)) + 1))
      else none
     else
      bif decide (((l12.length + ((l14.take l14.length).length)) + 1) * 16 ≤ LIM) && decide ((l12.length + ((l14.take l14.length).length)) + 1 ≤ LIM) then
       r73 l16 r32 r33 (((((l12.take l12.length) ++ (l14.take l14.length)).take (l12.length + ((l14.take l14.length).length))) ++ [PV.agg [.int .i64 r31, .int .u64 0]]).take ((l12.length + ((l14.take l14.length).length)) + 1))
      else none
    else none := by kernel_rfl
/-! 74 : spec.l2One -/
theorem n74 (k : Nat) (n1 : Int) : c74 (k + 1) n1 =
 bif decide (n1 < 1) then
  r74 1
 else r74 n1 := by kernel_rfl
/-! 75 : spec.l1Cur).one -/
theorem n75 (k : Nat) (n1 : Int) (l : List PV) (n11 n12 : Int) : c75 (k + 1) n1 l n11 n12 =
 R69 (c69 k n1 l n11 n12) fun l1 r1 r2 r3 =>
 r75 l1 r1 r2 (r3 == 0) := by kernel_rfl
/-! 76 : impl.Node] -/
theorem n76 (k : Nat) (s : List PV) (n1 n11 : Int) : c76 (k + 1) s n1 n11 =
 R141 (c141 k s n1 n11) fun r1 r2 r3 =>
 r76 r1 r2 (decide (r3 ≥ 0)) := by kernel_rfl
/-! 77 : impl.PutAll$1 -/
theorem n77 (k : Nat) (own : List PV) (n1 n11 : Int) : c77 (k + 1) own n1 n11 =
 R78 (c78 k n1 n11 own 1) fun b1 =>
 r77 n1 n11 (!b1) := by kernel_rfl
/-! 78 : impl.isTermOf -/
theorem n78 (k : Nat) (wide vars : Int) (t : List PV) (kind : Int) : c78 (k + 1) wide vars t kind =
 R25 (c25 k wide vars t) fun b1 =>
 bif b1 then
  R142 (c142 k t) fun r1 =>
  r78 (r1 == kind)
 else r78 false := by kernel_rfl
/-! 79 : impl.checkedTerm -/
theorem n79 (k : Nat) (wide vars : Int) (t : List PV) : c79 (k + 1) wide vars t =
 R25 (c25 k wide vars t) fun b1 =>
 bif !b1 then
  r79 [] false
 else r79 t true := by kernel_rfl
/-! 80 : spec.l2Kind -/
theorem n80 (k : Nat) (wide vars : Int) (t : List PV) : c80 (k + 1) wide vars t =
 R143 (c143 k wide) fun b1 =>
 bif !b1 then
  r80 0
 else
  R54 (c54 k vars 1 4) fun b2 =>
  bif !b2 then
   r80 0
  else
   R54 (c54 k (t.length : Int) 1 48) fun b3 =>
   bif !b3 then
    r80 0
   else L80_1 k k wide vars 0 t (t.length : Int) 0 [] := by kernel_rfl
theorem sL80_1 (k n : Nat) (wide vars : Int) (pileLen : Nat) (t27 : List PV) (t28 t29 : Int) (xs : List PV) : L80_1 k (n + 1) wide vars pileLen t27 t28 t29 xs =
 bif decide (t29 < t28) then
  (lookP t27 t29).bind fun p1 =>
  bif p1.shp 2 then
   (p1.atInt .i64 0).bind fun n1 =>
   (p1.atInt .u64 1).bind fun n2 =>
   R93 (c93 k n1) fun r1 r2 r3 =>
   bif (r3 == 0) then
    r80 0
   else
    R144 (c144 k wide vars n1 n2) fun b1 =>
    bif !b1 then
     r80 0
    else
     bif decide ((pileLen : Int) < r1) then
      r80 0
     else L80_2 k n k wide vars pileLen r1 r2 r3 t27 t28 t29 xs
  else none
 else
  bif ((pileLen : Int) != 1) then
   r80 0
  else
   bif decide ((0 : Int) < (pileLen : Int)) then
    (xs[0]?).bind fun p2 =>
    (p2.atInt .i64 0).bind fun n3 =>
    r80 n3
   else none := by kernel_rfl
theorem sL80_2 (k n1 n : Nat) (wide vars : Int) (pileLen : Nat) (many part own : Int) (t27 : List PV) (t28 t29 : Int) (xs : List PV) : L80_2 k n1 (n + 1) wide vars pileLen many part own t27 t28 t29 xs =
 bif decide (many > 0) then
  bif decide ((0 : Int) ≤ IntKind.i64.wrap ((pileLen : Int) - 1)) && decide (IntKind.i64.wrap ((pileLen : Int) - 1) < (pileLen : Int)) then
   (xs[0 + ((IntKind.i64.wrap ((pileLen : Int) - 1)).toNat)]?).bind fun p1 =>
   (p1.atInt .i64 0).bind fun n2 =>
   bif (n2 != part) then
    r80 0
   else
    bif decide ((0 : Int) ≤ IntKind.i64.wrap ((pileLen : Int) - 1)) && decide (IntKind.i64.wrap ((pileLen : Int) - 1) ≤ (pileLen : Int)) then
     L80_2 k n1 n wide vars ((IntKind.i64.wrap ((pileLen : Int) - 1)).toNat) (IntKind.i64.wrap (many - 1)) part own t27 t28 t29 xs
    else none
  else none
 else
  bif decide ((pileLen + 1) * 8 ≤ LIM) && decide (pileLen + 1 ≤ LIM) then
   L80_1 k n1 wide vars (pileLen + 1) t27 t28 (IntKind.i64.wrap (t29 + 1)) ((xs.take pileLen) ++ [PV.int .i64 own])
  else none := by kernel_rfl
/-! 81 : spec.l2Made -/
theorem n81 (k : Nat) (wide vars : Int) (t : List PV) : c81 (k + 1) wide vars t =
 R26 (c26 k wide vars t) fun b1 =>
 bif !b1 then
  r81 [] false
 else r81 t true := by kernel_rfl
/-! 82 : impl.isWide -/
theorem n82 (k : Nat) (n1 : Int) : c82 (k + 1) n1 =
 bif decide (n1 ≥ 1) then
  r82 (decide (n1 ≤ 64))
 else r82 false := by kernel_rfl
/-! 83 : impl.isVars -/
theorem n83 (k : Nat) (n1 : Int) : c83 (k + 1) n1 =
 bif decide (n1 ≥ 1) then
  r83 (decide (n1 ≤ 4))
 else r83 false := by kernel_rfl
/-! 84 : impl.operandsOf -/
theorem n84 (k : Nat) (op : Int) : c84 (k + 1) op =
 bif (op == 1) then
  r84 0 0 1
 else
  bif (op == 2) then
   r84 0 0 1
  else
   bif (op == 20) then
    r84 0 0 2
   else
    bif (op == 13) then
     r84 1 1 1
    else
     bif (op == 19) then
      r84 1 2 2
     else
      bif decide (op ≥ 3) then
       bif decide (op ≤ 12) then
        r84 2 1 1
       else
        bif decide (op ≥ 14) then
         bif decide (op ≤ 16) then
          r84 2 1 2
         else
          bif (op == 17) then
           r84 2 2 2
          else
           bif (op == 18) then
            r84 2 2 2
           else r84 0 0 0
        else
         bif (op == 17) then
          r84 2 2 2
         else
          bif (op == 18) then
           r84 2 2 2
          else r84 0 0 0
      else
       bif decide (op ≥ 14) then
        bif decide (op ≤ 16) then
         r84 2 1 2
        else
         bif (op == 17) then
          r84 2 2 2
         else
          bif (op == 18) then
           r84 2 2 2
          else r84 0 0 0
       else
        bif (op == 17) then
         r84 2 2 2
        else
         bif (op == 18) then
          r84 2 2 2
         else r84 0 0 0 := by kernel_rfl
/-! 85 : impl.isLeafRight -/
theorem n85 (k : Nat) (wide vars x x1 : Int) : c85 (k + 1) wide vars x x1 =
 bif (x == 1) then
  R114 (c114 k wide x1) fun b1 =>
  r85 b1
 else
  bif (x == 2) then
   r85 (decide (x1 < IntKind.u64.wrap vars))
  else
   bif (x == 20) then
    r85 (decide (x1 ≤ 1))
   else r85 (x1 == 0) := by kernel_rfl
/-! 86 : slices.ContainsFunc[[]int,int] -/
theorem n86 (k : Nat) (s : List PV) (n1 : Int) : c86 (k + 1) s n1 =
 R145 (c145 k s n1) fun r1 r2 =>
 r86 r1 (decide (r2 ≥ 0)) := by kernel_rfl
/-! 87 : impl.GoodTerm$1 -/
theorem n87 (k : Nat) (own n1 : Int) : c87 (k + 1) own n1 =
 r87 n1 (own != n1) := by kernel_rfl
/-! 88 : impl.mask -/
theorem n88 (k : Nat) (wide : Int) : c88 (k + 1) wide =
 bif !decide (IntKind.i64.wrap (64 - wide) < 0) then
  r88 (shrI .u64 18446744073709551615 (IntKind.i64.wrap (64 - wide)))
 else none := by kernel_rfl
/-! 89 : impl.isState -/
theorem n89 (k : Nat) (wide vars : Int) (state : List PV) : c89 (k + 1) wide vars state =
 R82 (c82 k wide) fun b1 =>
 bif b1 then
  R83 (c83 k vars) fun b2 =>
  bif b2 then
   bif ((state.length : Int) == vars) then
    R146 (c146 k state wide) fun r1 b3 =>
    r89 (!b3)
   else r89 false
  else r89 false
 else r89 false := by kernel_rfl
end Go.Proofs.Ytnliglgellapdaa
