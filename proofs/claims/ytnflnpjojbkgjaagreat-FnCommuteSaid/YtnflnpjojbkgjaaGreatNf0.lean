/- Normal forms: printed by nf.py. -/
import Derived.Test.YtnflnpjojbkgjaaGreatCs
set_option linter.unusedVariables false
set_option maxRecDepth 100000
namespace Go.Proofs.YtnflnpjojbkgjaaGreat
open Go.Dp
/-! 4 : laws.FnCommute -/
theorem n4 (k : Nat) (code more : List PV) : c4 (k + 1) code more =
 R8 (c8 k code more) fun b1 =>
 bif b1 then
  r4 true
 else
  R20 (c20 k code) fun v1 v2 l1 l2 v3 v4 =>
  R21 (c21 k v1 v2 l1 l2 v3 v4) fun b2 b3 =>
  R22 (c22 k v1 v2 l1 l2 v3 v4) fun b4 b5 =>
  R23 (c23 k v1 v2 l1 l2 v3) fun l3 l4 b6 =>
  R24 (c24 k v1 v2 l1 l2 v3) fun l5 l6 b7 =>
  bif (!(b3 == b5)) then
   r4 false
  else
   bif (!(b2 == b4)) then
    r4 false
   else
    bif (!(b6 == b7)) then
     r4 false
    else
     R25 (c25 k l3 l5) fun b8 =>
     bif !b8 then
      r4 false
     else
      R25 (c25 k l4 l6) fun b9 =>
      bif !b9 then
       r4 false
      else
       bif !b2 then
        r4 true
       else L4_1 k k more v3 v4 0 0 v1 v2 l1 l2 [] := by kernel_rfl
theorem sL4_1 (k n : Nat) (more : List PV) (k1 m : Int) (sLen : Nat) (v n1 n11 : Int) (l l1 xs : List PV) : L4_1 k (n + 1) more k1 m sLen v n1 n11 l l1 xs =
 bif decide (v < n11) then
  R27 (c27 k more) fun v1 =>
  bif !decide (IntKind.u64.wrap (IntKind.i64.wrap (3 * v)) < 0) then
   R26 (c26 k n1 (IntKind.u64.wrap (shrI .i64 v1 (IntKind.u64.wrap (IntKind.i64.wrap (3 * v)))))) fun v2 b1 =>
   bif !b1 then
    r4 false
   else
    bif decide ((sLen + 1) * 8 ≤ LIM) && decide (sLen + 1 ≤ LIM) then
     L4_1 k n more k1 m (sLen + 1) (IntKind.i64.wrap (v + 1)) n1 n11 l l1 ((xs.take sLen) ++ [PV.int .u64 v2])
    else none
  else none
 else
  R28 (c28 k n1 n11 l l1 (xs.take sLen) k1) fun l2 b2 =>
  R28 (c28 k n1 n11 l l1 (xs.take sLen) m) fun l3 b3 =>
  R28 (c28 k n1 n11 l l1 l2 m) fun l4 b4 =>
  R28 (c28 k n1 n11 l l1 l3 k1) fun l5 b5 =>
  bif b2 then
   bif b3 then
    bif b4 then
     bif b5 then
      R29 (c29 k l4 l5) fun b6 =>
      r4 b6
     else r4 false
    else r4 false
   else r4 true
  else r4 true := by kernel_rfl
/-! 8 : laws.big -/
theorem n8 (k : Nat) (code more : List PV) : c8 (k + 1) code more =
 bif decide ((code.length : Int) > 1048576) then
  r8 true
 else r8 (decide ((more.length : Int) > IntKind.i64.wrap (1048576 - (code.length : Int)))) := by kernel_rfl
/-! 20 : spec.DrawApart -/
theorem n20 (k : Nat) (code : List PV) : c20 (k + 1) code =
 R90 (c90 k code 0 0) fun l1 v1 v2 v3 v4 l2 l3 =>
 R91 (c91 k 3 l1 v1 v2) fun l4 v5 v6 v7 =>
 R91 (c91 k 4 l4 v5 v6) fun l5 v8 v9 v10 =>
 r20 v3 v4 l2 l3 v7 v10 := by kernel_rfl
/-! 21 : impl.Apart -/
theorem n21 (k : Nat) (p p1 : Int) (p2 p3 : List PV) (k1 m : Int) : c21 (k + 1) p p1 p2 p3 k1 m =
 R23 (c23 k p p1 p2 p3 k1) fun l1 l2 b1 =>
 R23 (c23 k p p1 p2 p3 m) fun l3 l4 b2 =>
 bif !b1 then
  r21 false false
 else
  bif !b2 then
   r21 false false
  else
   R92 (c92 k l2 l3) fun b3 =>
   bif !b3 then
    R92 (c92 k l2 l4) fun b4 =>
    bif !b4 then
     R92 (c92 k l4 l1) fun b5 =>
     r21 (!b5) true
    else r21 false true
   else r21 false true := by kernel_rfl
/-! 22 : spec.Apart -/
theorem n22 (k : Nat) (p p1 : Int) (p2 p3 : List PV) (k1 m : Int) : c22 (k + 1) p p1 p2 p3 k1 m =
 R24 (c24 k p p1 p2 p3 k1) fun l1 l2 b1 =>
 R24 (c24 k p p1 p2 p3 m) fun l3 l4 b2 =>
 bif !b1 then
  r22 false false
 else
  bif !b2 then
   r22 false false
  else
   R96 (c96 k l2 l3) fun b3 =>
   bif !b3 then
    R96 (c96 k l2 l4) fun b4 =>
    bif !b4 then
     R96 (c96 k l4 l1) fun b5 =>
     r22 (!b5) true
    else r22 false true
   else r22 false true := by kernel_rfl
/-! 23 : impl.TouchedBy -/
theorem n23 (k : Nat) (p p1 : Int) (p2 p3 : List PV) (k1 : Int) : c23 (k + 1) p p1 p2 p3 k1 =
 R44 (c44 k p p1 p2 p3) fun b1 =>
 bif !b1 then
  r23 [] [] false
 else
  R97 (c97 k p p1 p2 p3 k1) fun b2 =>
  bif !b2 then
   r23 [] [] false
  else
   (lookP p3 k1).bind fun p4 =>
   bif p4.shp 2 then
    (p4.atRow 2 0).bind fun l1 =>
    (p4.atRow 2 1).bind fun l2 =>
    R98 (c98 k l1) fun l3 =>
    L23_1 k k l3.length 0 l2 (l2.length : Int) 0 l3 []
   else none := by kernel_rfl
theorem sL23_1 (k n : Nat) (readsLen changesLen : Nat) (t31 : List PV) (t32 t33 : Int) (xs xs1 : List PV) : L23_1 k (n + 1) readsLen changesLen t31 t32 t33 xs xs1 =
 bif decide (t33 < t32) then
  (lookP t31 t33).bind fun p1 =>
  bif p1.shp 2 then
   (p1.atInt .i64 0).bind fun n1 =>
   (p1.atRow 2 1).bind fun l1 =>
   R98 (c98 k l1) fun l2 =>
   bif decide ((readsLen + ((l2.take l2.length).length)) * 8 ≤ LIM) && decide (readsLen + ((l2.take l2.length).length) ≤ LIM) then
    bif decide ((changesLen + 1) * 8 ≤ LIM) && decide (changesLen + 1 ≤ LIM) then
     L23_1 k n (readsLen + ((l2.take l2.length).length)) (changesLen + 1) t31 t32 (IntKind.i64.wrap (t33 + 1)) ((xs.take readsLen) ++ (l2.take l2.length)) ((xs1.take changesLen) ++ [PV.int .i64 n1])
    else none
   else none
  else none
 else
  bif decide (readsLen ≤ LIM) then
   (intsOf (xs.take readsLen)).bind fun zs1 =>
   bif decide (readsLen ≤ LIM) then
    (intsOf ((((sortI zs1).map (PV.int .i64)) ++ (xs.drop readsLen)).take readsLen)).bind fun zs2 =>
    r23 (((((compI zs2).map (PV.int .i64)) ++ (List.replicate (readsLen - (compI zs2).length) (PV.int .i64 0))) ++ ((((sortI zs1).map (PV.int .i64)) ++ (xs.drop readsLen)).drop readsLen)).take ((compI zs2).length)) (xs1.take changesLen) true
   else none
  else none := by kernel_rfl
/-! 24 : spec.TouchedBy -/
theorem n24 (k : Nat) (p p1 : Int) (p2 p3 : List PV) (k1 : Int) : c24 (k + 1) p p1 p2 p3 k1 =
 R45 (c45 k p p1 p2 p3) fun b1 =>
 bif !b1 then
  r24 [] [] false
 else
  R101 (c101 k k1 0 (IntKind.i64.wrap ((p3.length : Int) - 1))) fun b2 =>
  bif !b2 then
   r24 [] [] false
  else
   (lookP p3 k1).bind fun p4 =>
   (p4.atRow 2 0).bind fun l1 =>
   R102 (c102 k l1) fun l2 =>
   (lookP p3 k1).bind fun p5 =>
   (p5.atRow 2 1).bind fun l3 =>
   L24_1 k k l2 0 l3 (l3.length : Int) 0 [] := by kernel_rfl
theorem sL24_1 (k n : Nat) (reads : List PV) (writesLen : Nat) (t37 : List PV) (t38 t39 : Int) (xs : List PV) : L24_1 k (n + 1) reads writesLen t37 t38 t39 xs =
 bif decide (t39 < t38) then
  (lookP t37 t39).bind fun p1 =>
  bif p1.shp 2 then
   (p1.atInt .i64 0).bind fun n1 =>
   (p1.atRow 2 1).bind fun l1 =>
   bif decide ((writesLen + 1) * 8 ≤ LIM) && decide (writesLen + 1 ≤ LIM) then
    R102 (c102 k l1) fun l2 =>
    L24_2 k n k reads (writesLen + 1) t37 t38 t39 l2 (l2.length : Int) 0 ((xs.take writesLen) ++ [PV.int .i64 n1])
   else none
  else none
 else r24 reads (xs.take writesLen) true := by kernel_rfl
theorem sL24_2 (k n1 n : Nat) (reads : List PV) (writesLen : Nat) (t37 : List PV) (t38 t39 : Int) (t50 : List PV) (t51 t52 : Int) (xs : List PV) : L24_2 k n1 (n + 1) reads writesLen t37 t38 t39 t50 t51 t52 xs =
 bif decide (t52 < t51) then
  (lookP t50 t52).bind fun p1 =>
  (p1.atInt .i64 0).bind fun n2 =>
  R103 (c103 k reads n2) fun l1 =>
  L24_2 k n1 n l1 writesLen t37 t38 t39 t50 t51 (IntKind.i64.wrap (t52 + 1)) xs
 else L24_1 k n1 reads writesLen t37 t38 (IntKind.i64.wrap (t39 + 1)) xs := by kernel_rfl
/-! 25 : laws.sameInts -/
theorem n25 (k : Nat) (a b : List PV) : c25 (k + 1) a b =
 bif ((a.length : Int) != (b.length : Int)) then
  r25 false
 else L25_1 k k a b (a.length : Int) 0 := by kernel_rfl
theorem sL25_1 (k n : Nat) (a b : List PV) (t12 t13 : Int) : L25_1 k (n + 1) a b t12 t13 =
 bif decide (t13 < t12) then
  (lookP a t13).bind fun p1 =>
  (p1.atInt .i64 0).bind fun n1 =>
  (lookP b t13).bind fun p2 =>
  (p2.atInt .i64 0).bind fun n2 =>
  bif (n1 != n2) then
   r25 false
  else L25_1 k n a b t12 (IntKind.i64.wrap (t13 + 1))
 else r25 true := by kernel_rfl
/-! 26 : impl.CutTo -/
theorem n26 (k : Nat) (wide a : Int) : c26 (k + 1) wide a =
 R104 (c104 k wide) fun b1 =>
 bif !b1 then
  r26 0 false
 else
  R105 (c105 k wide) fun v1 =>
  r26 (bitsOp .and .u64 a v1) true := by kernel_rfl
/-! 27 : laws.numberOf -/
theorem n27 (k : Nat) (b : List PV) : c27 (k + 1) b =
 L27_1 k k 0 b (b.length : Int) 0 := by kernel_rfl
theorem sL27_1 (k n : Nat) (n1 : Int) (t6 : List PV) (t7 t8 : Int) : L27_1 k (n + 1) n1 t6 t7 t8 =
 bif decide (t8 < t7) then
  (lookP t6 t8).bind fun p1 =>
  (p1.atInt .u8 0).bind fun n2 =>
  L27_1 k n ((IntKind.i64.wrap ((IntKind.i64.wrap (31 * n1)) + (IntKind.i64.wrap n2))).tmod 1000003) t6 t7 (IntKind.i64.wrap (t8 + 1))
 else r27 n1 := by kernel_rfl
/-! 28 : impl.StepBy -/
theorem n28 (k : Nat) (p p1 : Int) (p2 p3 qs : List PV) (k1 : Int) : c28 (k + 1) p p1 p2 p3 qs k1 =
 R106 (c106 k p p1 p2 p3 qs) fun b1 =>
 bif !b1 then
  r28 [] false
 else
  R97 (c97 k p p1 p2 p3 k1) fun b2 =>
  bif !b2 then
   r28 [] false
  else
   (lookP p3 k1).bind fun p4 =>
   (p4.atRow 2 0).bind fun l1 =>
   R107 (c107 k p p1 p2 p3 l1 qs) fun b3 =>
   bif !b3 then
    r28 [] false
   else
    (lookP p3 k1).bind fun p5 =>
    bif p5.shp 2 then
     (p5.atRow 2 0).bind fun l2 =>
     (p5.atRow 2 1).bind fun l3 =>
     R108 (c108 k p p1 p2 p3 l2 l3 qs) fun l4 =>
     r28 l4 true
    else none := by kernel_rfl
/-! 29 : laws.sameWords -/
theorem n29 (k : Nat) (a b : List PV) : c29 (k + 1) a b =
 bif ((a.length : Int) != (b.length : Int)) then
  r29 false
 else L29_1 k k a b (a.length : Int) 0 := by kernel_rfl
theorem sL29_1 (k n : Nat) (a b : List PV) (t12 t13 : Int) : L29_1 k (n + 1) a b t12 t13 =
 bif decide (t13 < t12) then
  (lookP a t13).bind fun p1 =>
  (p1.atInt .u64 0).bind fun n1 =>
  (lookP b t13).bind fun p2 =>
  (p2.atInt .u64 0).bind fun n2 =>
  bif (n1 != n2) then
   r29 false
  else L29_1 k n a b t12 (IntKind.i64.wrap (t13 + 1))
 else r29 true := by kernel_rfl
/-! 44 : impl.GoodProgram -/
theorem n44 (k : Nat) (p p1 : Int) (p2 p3 : List PV) : c44 (k + 1) p p1 p2 p3 =
 R104 (c104 k p) fun b1 =>
 bif !b1 then
  r44 false
 else
  R128 (c128 k p1) fun b2 =>
  bif !b2 then
   r44 false
  else
   R70 (c70 k p p1 p2 p3 p2) fun b3 =>
   bif !b3 then
    r44 false
   else
    bif decide ((p3.length : Int) < 1) then
     r44 false
    else
     bif decide ((p3.length : Int) > 6) then
      r44 false
     else
      R129 (c129 k p3 p p1 p2 p3) fun v1 v2 l1 l2 b4 =>
      r44 (!b4) := by kernel_rfl
/-! 45 : spec.GoodProgram -/
theorem n45 (k : Nat) (p p1 : Int) (p2 p3 : List PV) : c45 (k + 1) p p1 p2 p3 =
 R74 (c74 k p p1 p2 p3 p2) fun b1 =>
 bif !b1 then
  r45 false
 else
  R101 (c101 k (p3.length : Int) 1 6) fun b2 =>
  bif !b2 then
   r45 false
  else L45_1 k k p3 (p3.length : Int) 0 p p1 p2 p3 := by kernel_rfl
theorem sL45_1 (k n : Nat) (t18 : List PV) (t19 t20 n1 n11 : Int) (l l1 : List PV) : L45_1 k (n + 1) t18 t19 t20 n1 n11 l l1 =
 bif decide (t20 < t19) then
  (lookP t18 t20).bind fun p1 =>
  bif p1.shp 2 then
   (p1.atRow 2 0).bind fun l2 =>
   (p1.atRow 2 1).bind fun l3 =>
   R132 (c132 k n1 n11 l l1 l2 l3) fun b1 =>
   bif !b1 then
    r45 false
   else L45_1 k n t18 t19 (IntKind.i64.wrap (t20 + 1)) n1 n11 l l1
  else none
 else r45 true := by kernel_rfl
/-! 64 : spec.l1Cur).small -/
theorem n64 (k : Nat) (l : List PV) (n1 n11 : Int) : c64 (k + 1) l n1 n11 =
 R149 (c149 k [PV.int .i64 1, PV.int .i64 2, PV.int .i64 2, PV.int .i64 2, PV.int .i64 3, PV.int .i64 4] l n1 n11) fun l1 v1 v2 v3 =>
 bif decide (v3 < 3) then
  bif !(v3 == 0) then
   R91 (c91 k (IntKind.i64.wrap ((6 : Int).tdiv v3)) l1 v1 v2) fun l2 v4 v5 v6 =>
   L64_1 k k v3 (IntKind.i64.wrap (1 + v6)) l2 v4 v5 0 0 [] []
  else none
 else L64_1 k k v3 1 l1 v1 v2 0 0 [] [] := by kernel_rfl
theorem sL64_1 (k n : Nat) (wide vars : Int) (l : List PV) (n1 n11 n12 n13 : Int) (l1 l2 : List PV) : L64_1 k (n + 1) wide vars l n1 n11 n12 n13 l1 l2 =
 bif decide (IntKind.i64.wrap (wide * vars) > 5) then
  L64_1 k n wide (IntKind.i64.wrap (vars - 1)) l n1 n11 n12 n13 l1 l2
 else
  bif decide (vars > 4) then
   L64_1 k n wide (IntKind.i64.wrap (vars - 1)) l n1 n11 n12 n13 l1 l2
  else
   R150 (c150 k wide vars l n1 n11) fun l3 v1 v2 v3 v4 l4 l5 =>
   R91 (c91 k 40 l3 v1 v2) fun l6 v5 v6 v7 =>
   bif (v7 == 0) then
    R149 (c149 k [PV.int .i64 0, PV.int .i64 4, PV.int .i64 5] l6 v5 v6) fun l7 v8 v9 v10 =>
    r64 l7 v8 v9 v3 v10 l4 (l5.take l5.length)
   else
    bif (v7 == 1) then
     r64 l6 v5 v6 v3 v4 l4 []
    else
     bif (v7 == 2) then
      bif decide ((0 : Int) < (l5.length : Int)) then
       (l5[0]?).bind fun p1 =>
       (putPart p1 2 0 (PV.row 2 0 [PV.agg [.int .i64 1, .int .u64 0]]) 0).bind fun p2 =>
       r64 l6 v5 v6 v3 v4 l4 ((l5.set 0 p2).take l5.length)
      else none
     else
      bif (v7 == 3) then
       bif decide ((0 : Int) < (l5.length : Int)) then
        (l5[0]?).bind fun p3 =>
        (p3.atRow 2 1).bind fun l8 =>
        bif decide ((l8.length + 1) * 32 ≤ LIM) && decide (l8.length + 1 ≤ LIM) then
         bif decide ((0 : Int) < (l5.length : Int)) then
          (l5[0]?).bind fun p4 =>
          bif decide (l8.length + 1 ≤ (l8 ++ [PV.agg [.int .i64 0, .row 2 0 [PV.agg [.int .i64 1, .int .u64 0]]]]).length) then
           (putPart p4 2 1 (PV.row 2 0 ((l8 ++ [PV.agg [.int .i64 0, .row 2 0 [PV.agg [.int .i64 1, .int .u64 0]]]]).take (l8.length + 1))) 0).bind fun p5 =>
           r64 l6 v5 v6 v3 v4 l4 ((l5.set 0 p5).take l5.length)
          else none
         else none
        else none
       else none
      else r64 l6 v5 v6 v3 v4 l4 (l5.take l5.length) := by kernel_rfl
/-! 70 : impl.Program).isCondition -/
theorem n70 (k : Nat) (p p1 : Int) (p2 p3 t : List PV) : c70 (k + 1) p p1 p2 p3 t =
 R153 (c153 k p p1 t 2) fun b1 =>
 r70 b1 := by kernel_rfl
/-! 74 : spec.l7Asks -/
theorem n74 (k : Nat) (p p1 : Int) (p2 p3 t : List PV) : c74 (k + 1) p p1 p2 p3 t =
 R155 (c155 k p p1 t) fun v1 =>
 r74 (v1 == 2) := by kernel_rfl
/-! 82 : impl.GoodTerm -/
theorem n82 (k : Nat) (wide vars : Int) (t : List PV) : c82 (k + 1) wide vars t =
 R104 (c104 k wide) fun b1 =>
 bif !b1 then
  r82 false
 else
  R128 (c128 k vars) fun b2 =>
  bif !b2 then
   r82 false
  else
   bif decide ((t.length : Int) < 1) then
    r82 false
   else
    bif decide ((t.length : Int) > 48) then
     r82 false
    else L82_1 k k wide vars 0 t (t.length : Int) 0 [] := by kernel_rfl
theorem sL82_1 (k n : Nat) (wide vars : Int) (stackLen : Nat) (t33 : List PV) (t34 t35 : Int) (xs : List PV) : L82_1 k (n + 1) wide vars stackLen t33 t34 t35 xs =
 bif decide (t35 < t34) then
  (lookP t33 t35).bind fun p1 =>
  bif p1.shp 2 then
   (p1.atInt .i64 0).bind fun n1 =>
   (p1.atInt .u64 1).bind fun n2 =>
   R163 (c163 k n1) fun v1 v2 v3 =>
   bif (v3 == 0) then
    r82 false
   else
    R164 (c164 k wide vars n1 n2) fun b1 =>
    bif !b1 then
     r82 false
    else
     bif decide (IntKind.i64.wrap ((stackLen : Int) - v1) < 0) then
      r82 false
     else
      bif decide ((0 : Int) ≤ IntKind.i64.wrap ((stackLen : Int) - v1)) && decide (IntKind.i64.wrap ((stackLen : Int) - v1) ≤ (stackLen : Int)) && decide ((stackLen : Int) ≤ (stackLen : Int)) then
       R93ap (c93a k ((xs.drop (0 + ((IntKind.i64.wrap ((stackLen : Int) - v1)).toNat))).take (stackLen - ((IntKind.i64.wrap ((stackLen : Int) - v1)).toNat))) v2) fun p2 b2 =>
       bif b2 then
        r82 false
       else
        bif decide ((0 : Int) ≤ IntKind.i64.wrap ((stackLen : Int) - v1)) && decide (IntKind.i64.wrap ((stackLen : Int) - v1) ≤ (stackLen : Int)) then
         bif decide ((((IntKind.i64.wrap ((stackLen : Int) - v1)).toNat) + 1) * 8 ≤ LIM) && decide (((IntKind.i64.wrap ((stackLen : Int) - v1)).toNat) + 1 ≤ LIM) then
          L82_1 k n wide vars (((IntKind.i64.wrap ((stackLen : Int) - v1)).toNat) + 1) t33 t34 (IntKind.i64.wrap (t35 + 1)) ((xs.take ((IntKind.i64.wrap ((stackLen : Int) - v1)).toNat)) ++ [PV.int .i64 v3])
         else none
        else none
      else none
  else none
 else r82 ((stackLen : Int) == 1) := by kernel_rfl
/-! 83 : impl.kindOf -/
theorem n83 (k : Nat) (t : List PV) : c83 (k + 1) t =
 (lookP t (IntKind.i64.wrap ((t.length : Int) - 1))).bind fun p1 =>
 (p1.atInt .i64 0).bind fun n1 =>
 R163 (c163 k n1) fun v1 v2 v3 =>
 r83 v3 := by kernel_rfl
/-! 85 : spec.l1Cur).one -/
theorem n85 (k : Nat) (n1 : Int) (l : List PV) (n11 n12 : Int) : c85 (k + 1) n1 l n11 n12 =
 R91 (c91 k n1 l n11 n12) fun l1 v1 v2 v3 =>
 r85 l1 v1 v2 (v3 == 0) := by kernel_rfl
/-! 88 : spec.l1Has -/
theorem n88 (k : Nat) (l : List PV) (n1 : Int) : c88 (k + 1) l n1 =
 L88_1 k k n1 l (l.length : Int) 0 := by kernel_rfl
theorem sL88_1 (k n : Nat) (n1 : Int) (t7 : List PV) (t8 t9 : Int) : L88_1 k (n + 1) n1 t7 t8 t9 =
 bif decide (t9 < t8) then
  (lookP t7 t9).bind fun p1 =>
  (p1.atInt .i64 0).bind fun n2 =>
  bif (n2 == n1) then
   r88 true
  else L88_1 k n n1 t7 t8 (IntKind.i64.wrap (t9 + 1))
 else r88 false := by kernel_rfl
/-! 90 : spec.l1Cur).prog -/
theorem n90 (k : Nat) (l : List PV) (n1 n11 : Int) : c90 (k + 1) l n1 n11 =
 R85 (c85 k 2 l n1 n11) fun l1 v1 v2 b1 =>
 bif b1 then
  R64 (c64 k l1 v1 v2) fun l2 v3 v4 v5 v6 l3 l4 =>
  r90 l2 v3 v4 v5 v6 l3 l4
 else
  R149 (c149 k [PV.int .i64 8, PV.int .i64 32, PV.int .i64 64] l1 v1 v2) fun l5 v7 v8 v9 =>
  R91 (c91 k 3 l5 v7 v8) fun l6 v10 v11 v12 =>
  R150 (c150 k v9 (IntKind.i64.wrap (1 + v12)) l6 v10 v11) fun l7 v13 v14 v15 v16 l8 l9 =>
  r90 l7 v13 v14 v15 v16 l8 (l9.take l9.length) := by kernel_rfl
/-! 91 : spec.l1Cur).pick -/
theorem n91 (k : Nat) (n1 : Int) (l : List PV) (n11 n12 : Int) : c91 (k + 1) n1 l n11 n12 =
 bif decide (n1 ≤ 1) then
  r91 l n11 n12 0
 else
  R167 (c167 k l n11 n12) fun l1 v1 v2 v3 =>
  bif decide (n1 > 200) then
   R167 (c167 k l1 v1 v2) fun l2 v4 v5 v6 =>
   bif !(n1 == 0) then
    r91 l2 v4 v5 ((IntKind.i64.wrap ((IntKind.i64.wrap (v3 * 256)) + v6)).tmod n1)
   else none
  else
   bif !(n1 == 0) then
    r91 l1 v1 v2 (v3.tmod n1)
   else none := by kernel_rfl
/-! 92 : impl.Apart$1 -/
theorem n92 (k : Nat) (a b : List PV) : c92 (k + 1) a b =
 R93 (c93 k a b) fun p1 b1 =>
 r92 b1 := by kernel_rfl
/-! 93 : slices.ContainsFunc[[]int,int] -/
theorem n93 (k : Nat) (qs l : List PV) : c93 (k + 1) qs l =
 R168 (c168 k qs l) fun p1 v1 =>
 r93 p1 (decide (v1 ≥ 0)) := by kernel_rfl
theorem n93a (k : Nat) (qs : List PV) (n1 : Int) : c93a (k + 1) qs n1 =
 R168a (c168a k qs n1) fun p1 v1 =>
 r93a p1 (decide (v1 ≥ 0)) := by kernel_rfl
/-! 94 : impl.Apart$1$1 -/
theorem n94 (k : Nat) (v : Int) (l : List PV) : c94 (k + 1) v l =
 R95 (c95 k l v) fun b1 =>
 r94 l b1 := by kernel_rfl
/-! 95 : slices.Contains[[]int,int] -/
theorem n95 (k : Nat) (qs : List PV) (v : Int) : c95 (k + 1) qs v =
 R169 (c169 k qs v) fun v1 =>
 r95 (decide (v1 ≥ 0)) := by kernel_rfl
/-! 96 : spec.l7Meet -/
theorem n96 (k : Nat) (a b : List PV) : c96 (k + 1) a b =
 L96_1 k k b a (a.length : Int) 0 := by kernel_rfl
theorem sL96_1 (k n : Nat) (b t7 : List PV) (t8 t9 : Int) : L96_1 k (n + 1) b t7 t8 t9 =
 bif decide (t9 < t8) then
  (lookP t7 t9).bind fun p1 =>
  (p1.atInt .i64 0).bind fun n1 =>
  R88 (c88 k b n1) fun b1 =>
  bif b1 then
   r96 true
  else L96_1 k n b t7 t8 (IntKind.i64.wrap (t9 + 1))
 else r96 false := by kernel_rfl
/-! 97 : impl.Program).isCommandNo -/
theorem n97 (k : Nat) (p p1 : Int) (p2 p3 : List PV) (k1 : Int) : c97 (k + 1) p p1 p2 p3 k1 =
 bif decide (k1 ≥ 0) then
  r97 (decide (k1 < (p3.length : Int)))
 else r97 false := by kernel_rfl
/-! 98 : impl.varsIn -/
theorem n98 (k : Nat) (t : List PV) : c98 (k + 1) t =
 L98_1 k k 0 t (t.length : Int) 0 [] := by kernel_rfl
theorem sL98_1 (k n : Nat) (outLen : Nat) (t7 : List PV) (t8 t9 : Int) (xs : List PV) : L98_1 k (n + 1) outLen t7 t8 t9 xs =
 bif decide (t9 < t8) then
  (lookP t7 t9).bind fun p1 =>
  bif p1.shp 2 then
   (p1.atInt .i64 0).bind fun n1 =>
   (p1.atInt .u64 1).bind fun n2 =>
   bif (n1 == 2) then
    bif decide ((outLen + 1) * 8 ≤ LIM) && decide (outLen + 1 ≤ LIM) then
     L98_1 k n (outLen + 1) t7 t8 (IntKind.i64.wrap (t9 + 1)) ((xs.take outLen) ++ [PV.int .i64 (IntKind.i64.wrap n2)])
    else none
   else L98_1 k n outLen t7 t8 (IntKind.i64.wrap (t9 + 1)) xs
  else none
 else
  bif decide (outLen ≤ LIM) then
   (intsOf (xs.take outLen)).bind fun zs1 =>
   bif decide (outLen ≤ LIM) then
    (intsOf ((((sortI zs1).map (PV.int .i64)) ++ (xs.drop outLen)).take outLen)).bind fun zs2 =>
    r98 (((((compI zs2).map (PV.int .i64)) ++ (List.replicate (outLen - (compI zs2).length) (PV.int .i64 0))) ++ ((((sortI zs1).map (PV.int .i64)) ++ (xs.drop outLen)).drop outLen)).take ((compI zs2).length))
   else none
  else none := by kernel_rfl
/-! 101 : spec.l1In -/
theorem n101 (k : Nat) (n1 lo hi : Int) : c101 (k + 1) n1 lo hi =
 bif decide (n1 ≥ lo) then
  r101 (decide (n1 ≤ hi))
 else r101 false := by kernel_rfl
/-! 102 : spec.l2Vars -/
theorem n102 (k : Nat) (t : List PV) : c102 (k + 1) t =
 L102_1 k k 0 t (t.length : Int) 0 [] := by kernel_rfl
theorem sL102_1 (k n : Nat) (outLen : Nat) (t6 : List PV) (t7 t8 : Int) (xs : List PV) : L102_1 k (n + 1) outLen t6 t7 t8 xs =
 bif decide (t8 < t7) then
  (lookP t6 t8).bind fun p1 =>
  bif p1.shp 2 then
   (p1.atInt .i64 0).bind fun n1 =>
   (p1.atInt .u64 1).bind fun n2 =>
   bif (n1 == 2) then
    R103 (c103 k (xs.take outLen) (IntKind.i64.wrap n2)) fun l1 =>
    L102_2 k n l1 t6 t7 (IntKind.i64.wrap (t8 + 1))
   else L102_1 k n outLen t6 t7 (IntKind.i64.wrap (t8 + 1)) xs
  else none
 else r102 (xs.take outLen) := by kernel_rfl
theorem sL102_2 (k n : Nat) (out t6 : List PV) (t7 t8 : Int) : L102_2 k (n + 1) out t6 t7 t8 =
 bif decide (t8 < t7) then
  (lookP t6 t8).bind fun p1 =>
  bif p1.shp 2 then
   (p1.atInt .i64 0).bind fun n1 =>
   (p1.atInt .u64 1).bind fun n2 =>
   bif (n1 == 2) then
    R103 (c103 k out (IntKind.i64.wrap n2)) fun l1 =>
    L102_2 k n l1 t6 t7 (IntKind.i64.wrap (t8 + 1))
   else L102_2 k n out t6 t7 (IntKind.i64.wrap (t8 + 1))
  else none
 else r102 out := by kernel_rfl
end Go.Proofs.YtnflnpjojbkgjaaGreat
