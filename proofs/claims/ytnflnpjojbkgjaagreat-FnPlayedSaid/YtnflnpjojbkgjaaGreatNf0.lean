/- Normal forms: printed by nf.py. -/
import Derived.Test.YtnflnpjojbkgjaaGreatCs
set_option linter.unusedVariables false
set_option maxRecDepth 100000
namespace Go.Proofs.YtnflnpjojbkgjaaGreat
open Go.Dp
/-! 6 : laws.FnPlayed -/
theorem n6 (k : Nat) (code more : List PV) : c6 (k + 1) code more =
 R8 (c8 k code more) fun b1 =>
 bif b1 then
  r6 true
 else
  R39 (c39 k code) fun v1 v2 l1 l2 l3 l4 =>
  R40 (c40 k v1 v2 l1 l2 l3 l4) fun l5 l6 b2 =>
  R41 (c41 k v1 v2 l1 l2 l3 l4) fun l7 l8 b3 =>
  bif (!(b2 == b3)) then
   r6 false
  else
   R42 (c42 k l5 l7) fun b4 =>
   bif !b4 then
    r6 false
   else
    R43 (c43 k l6 l8) fun b5 =>
    bif !b5 then
     r6 false
    else
     R44 (c44 k v1 v2 l1 l2) fun b6 =>
     R45 (c45 k v1 v2 l1 l2) fun b7 =>
     bif (!(b6 == b7)) then
      r6 false
     else L6_1 k k more l4 l5 l6 b2 l3 0 v1 v2 l1 l2 := by kernel_rfl
theorem sL6_1 (k n : Nat) (more ks l did : List PV) (ok : Bool) (at1 : List PV) (i n1 n11 : Int) (l1 l2 : List PV) : L6_1 k (n + 1) more ks l did ok at1 i n1 n11 l1 l2 =
 bif ok then
  bif decide (i < (ks.length : Int)) then
   R46 (c46 k n1 n11 l1 l2 at1) fun l3 b1 =>
   (lookP ks i).bind fun p1 =>
   (p1.atInt .i64 0).bind fun n2 =>
   R28 (c28 k n1 n11 l1 l2 at1 n2) fun l4 b2 =>
   (lookP ks i).bind fun p2 =>
   (p2.atInt .i64 0).bind fun n3 =>
   R23 (c23 k n1 n11 l1 l2 n3) fun l5 l6 b3 =>
   bif !b1 then
    r6 false
   else
    (lookP did i).bind fun p3 =>
    (p3.atBool 0).bind fun b4 =>
    bif (!(b2 == b4)) then
     r6 false
    else
     (lookP ks i).bind fun p4 =>
     (p4.atInt .i64 0).bind fun n4 =>
     R47 (c47 k l3 n4) fun b5 =>
     bif (!(b2 == b5)) then
      r6 false
     else
      bif b2 then
       bif ((l4.length : Int) != (at1.length : Int)) then
        r6 false
       else L6_2 k n k more ks l did ok at1 i l4 l6 b3 (l4.length : Int) 0 n1 n11 l1 l2
      else
       (lookP l i).bind fun p5 =>
       (p5.atRow 0 0).bind fun l7 =>
       R29 (c29 k at1 l7) fun b6 =>
       bif !b6 then
        r6 false
       else L6_1 k n more ks l did ok at1 (IntKind.i64.wrap (i + 1)) n1 n11 l1 l2
  else
   R48 (c48 k more) fun v1 v2 l8 l9 l10 =>
   R49 (c49 k v1 v2 l8 l9 l10) fun b7 b8 =>
   R50 (c50 k v1 v2 l8 l9 l10) fun b9 b10 =>
   R46 (c46 k v1 v2 l8 l9 l10) fun l11 b11 =>
   R51 (c51 k v1 v2 l8 l9 l10) fun l12 b12 =>
   bif (b8 == b10) then
    bif (b7 == b9) then
     bif (b11 == b12) then
      R25 (c25 k l11 l12) fun b13 =>
      r6 b13
     else r6 false
    else r6 false
   else r6 false
 else
  R48 (c48 k more) fun v3 v4 l13 l14 l15 =>
  R49 (c49 k v3 v4 l13 l14 l15) fun b14 b15 =>
  R50 (c50 k v3 v4 l13 l14 l15) fun b16 b17 =>
  R46 (c46 k v3 v4 l13 l14 l15) fun l16 b18 =>
  R51 (c51 k v3 v4 l13 l14 l15) fun l17 b19 =>
  bif (b15 == b17) then
   bif (b14 == b16) then
    bif (b18 == b19) then
     R25 (c25 k l16 l17) fun b20 =>
     r6 b20
    else r6 false
   else r6 false
  else r6 false := by kernel_rfl
theorem sL6_2 (k n1 n : Nat) (more ks l did : List PV) (ok : Bool) (at1 : List PV) (i : Int) (x writes : List PV) (three : Bool) (t144 t145 n11 n12 : Int) (l1 l2 : List PV) : L6_2 k n1 (n + 1) more ks l did ok at1 i x writes three t144 t145 n11 n12 l1 l2 =
 bif decide (t145 < t144) then
  bif !three then
   r6 false
  else
   R47 (c47 k writes t145) fun b1 =>
   bif !b1 then
    (lookP x t145).bind fun p1 =>
    (p1.atInt .u64 0).bind fun n2 =>
    (lookP at1 t145).bind fun p2 =>
    (p2.atInt .u64 0).bind fun n3 =>
    bif (n2 != n3) then
     r6 false
    else L6_2 k n1 n more ks l did ok at1 i x writes three t144 (IntKind.i64.wrap (t145 + 1)) n11 n12 l1 l2
   else L6_2 k n1 n more ks l did ok at1 i x writes three t144 (IntKind.i64.wrap (t145 + 1)) n11 n12 l1 l2
 else
  (lookP l i).bind fun p3 =>
  (p3.atRow 0 0).bind fun l3 =>
  R29 (c29 k x l3) fun b2 =>
  bif !b2 then
   r6 false
  else L6_1 k n1 more ks l did ok x (IntKind.i64.wrap (i + 1)) n11 n12 l1 l2 := by kernel_rfl
/-! 8 : laws.big -/
theorem n8 (k : Nat) (code more : List PV) : c8 (k + 1) code more =
 bif decide ((code.length : Int) > 1048576) then
  r8 true
 else r8 (decide ((more.length : Int) > IntKind.i64.wrap (1048576 - (code.length : Int)))) := by kernel_rfl
/-! 23 : impl.TouchedBy -/
theorem n23 (k : Nat) (p p1 : Int) (p2 p3 : List PV) (k1 : Int) : c23 (k + 1) p p1 p2 p3 k1 =
 R44 (c44 k p p1 p2 p3) fun b1 =>
 bif !b1 then
  r23 [] [] false
 else
  R97 (c97 k p p1 p2 p3 k1) fun b2 =>
  bif !b2 then
   r23 [] [] false
  else
   (lookP p3 k1).bind fun p4 =>
   bif p4.shp 2 then
    (p4.atRow 2 0).bind fun l1 =>
    (p4.atRow 2 1).bind fun l2 =>
    R98 (c98 k l1) fun l3 =>
    L23_1 k k l3.length 0 l2 (l2.length : Int) 0 l3 []
   else none := by kernel_rfl
theorem sL23_1 (k n : Nat) (readsLen changesLen : Nat) (t31 : List PV) (t32 t33 : Int) (xs xs1 : List PV) : L23_1 k (n + 1) readsLen changesLen t31 t32 t33 xs xs1 =
 bif decide (t33 < t32) then
  (lookP t31 t33).bind fun p1 =>
  bif p1.shp 2 then
   (p1.atInt .i64 0).bind fun n1 =>
   (p1.atRow 2 1).bind fun l1 =>
   R98 (c98 k l1) fun l2 =>
   bif decide ((readsLen + ((l2.take l2.length).length)) * 8 ≤ LIM) && decide (readsLen + ((l2.take l2.length).length) ≤ LIM) then
    bif decide ((changesLen + 1) * 8 ≤ LIM) && decide (changesLen + 1 ≤ LIM) then
     L23_1 k n (readsLen + ((l2.take l2.length).length)) (changesLen + 1) t31 t32 (IntKind.i64.wrap (t33 + 1)) ((xs.take readsLen) ++ (l2.take l2.length)) ((xs1.take changesLen) ++ [PV.int .i64 n1])
    else none
   else none
  else none
 else
  bif decide (readsLen ≤ LIM) then
   (intsOf (xs.take readsLen)).bind fun zs1 =>
   bif decide (readsLen ≤ LIM) then
    (intsOf ((((sortI zs1).map (PV.int .i64)) ++ (xs.drop readsLen)).take readsLen)).bind fun zs2 =>
    r23 (((((compI zs2).map (PV.int .i64)) ++ (List.replicate (readsLen - (compI zs2).length) (PV.int .i64 0))) ++ ((((sortI zs1).map (PV.int .i64)) ++ (xs.drop readsLen)).drop readsLen)).take ((compI zs2).length)) (xs1.take changesLen) true
   else none
  else none := by kernel_rfl
/-! 25 : laws.sameInts -/
theorem n25 (k : Nat) (a b : List PV) : c25 (k + 1) a b =
 bif ((a.length : Int) != (b.length : Int)) then
  r25 false
 else L25_1 k k a b (a.length : Int) 0 := by kernel_rfl
theorem sL25_1 (k n : Nat) (a b : List PV) (t12 t13 : Int) : L25_1 k (n + 1) a b t12 t13 =
 bif decide (t13 < t12) then
  (lookP a t13).bind fun p1 =>
  (p1.atInt .i64 0).bind fun n1 =>
  (lookP b t13).bind fun p2 =>
  (p2.atInt .i64 0).bind fun n2 =>
  bif (n1 != n2) then
   r25 false
  else L25_1 k n a b t12 (IntKind.i64.wrap (t13 + 1))
 else r25 true := by kernel_rfl
/-! 28 : impl.StepBy -/
theorem n28 (k : Nat) (p p1 : Int) (p2 p3 qs : List PV) (k1 : Int) : c28 (k + 1) p p1 p2 p3 qs k1 =
 R106 (c106 k p p1 p2 p3 qs) fun b1 =>
 bif !b1 then
  r28 [] false
 else
  R97 (c97 k p p1 p2 p3 k1) fun b2 =>
  bif !b2 then
   r28 [] false
  else
   (lookP p3 k1).bind fun p4 =>
   (p4.atRow 2 0).bind fun l1 =>
   R107 (c107 k p p1 p2 p3 l1 qs) fun b3 =>
   bif !b3 then
    r28 [] false
   else
    (lookP p3 k1).bind fun p5 =>
    bif p5.shp 2 then
     (p5.atRow 2 0).bind fun l2 =>
     (p5.atRow 2 1).bind fun l3 =>
     R108 (c108 k p p1 p2 p3 l2 l3 qs) fun l4 =>
     r28 l4 true
    else none := by kernel_rfl
/-! 29 : laws.sameWords -/
theorem n29 (k : Nat) (a b : List PV) : c29 (k + 1) a b =
 bif ((a.length : Int) != (b.length : Int)) then
  r29 false
 else L29_1 k k a b (a.length : Int) 0 := by kernel_rfl
theorem sL29_1 (k n : Nat) (a b : List PV) (t12 t13 : Int) : L29_1 k (n + 1) a b t12 t13 =
 bif decide (t13 < t12) then
  (lookP a t13).bind fun p1 =>
  (p1.atInt .u64 0).bind fun n1 =>
  (lookP b t13).bind fun p2 =>
  (p2.atInt .u64 0).bind fun n2 =>
  bif (n1 != n2) then
   r29 false
  else L29_1 k n a b t12 (IntKind.i64.wrap (t13 + 1))
 else r29 true := by kernel_rfl
/-! 39 : spec.DrawPlayCommands -/
theorem n39 (k : Nat) (code : List PV) : c39 (k + 1) code =
 R90 (c90 k code 0 0) fun l1 v1 v2 v3 v4 l2 l3 =>
 R124 (c124 k v3 v4 l2 l3 l1 v1 v2) fun l4 v5 v6 l5 =>
 R91 (c91 k 12 l4 v5 v6) fun l6 v7 v8 v9 =>
 R85 (c85 k 30 l6 v7 v8) fun l7 v10 v11 b1 =>
 bif b1 then
  R91 (c91 k 2 l7 v10 v11) fun l8 v12 v13 v14 =>
  L39_1 k k l5 (IntKind.i64.wrap (60 + v14)) 0 0 0 [] [] l8 v12 v13 v3 v4 l2 l3 []
 else L39_1 k k l5 v9 0 0 0 [] [] l7 v10 v11 v3 v4 l2 l3 [] := by kernel_rfl
theorem sL39_1 (k n : Nat) (qs : List PV) (n1 : Int) (lLen : Nat) (n11 n12 : Int) (l l1 l2 : List PV) (n13 n14 n15 n16 : Int) (l3 l4 xs : List PV) : L39_1 k (n + 1) qs n1 lLen n11 n12 l l1 l2 n13 n14 n15 n16 l3 l4 xs =
 bif decide (n1 > 0) then
  R91 (c91 k 4 l2 n13 n14) fun l5 v1 v2 v3 =>
  bif decide ((lLen + 1) * 8 ≤ LIM) && decide (lLen + 1 ≤ LIM) then
   L39_1 k n qs (IntKind.i64.wrap (n1 - 1)) (lLen + 1) n11 n12 l l1 l5 v1 v2 n15 n16 l3 l4 ((xs.take lLen) ++ [PV.int .i64 v3])
  else none
 else r39 n15 n16 l3 l4 qs (xs.take lLen) := by kernel_rfl
/-! 40 : impl.PlayCommands -/
theorem n40 (k : Nat) (p p1 : Int) (p2 p3 qs ks : List PV) : c40 (k + 1) p p1 p2 p3 qs ks =
 R106 (c106 k p p1 p2 p3 qs) fun b1 =>
 bif !b1 then
  r40 [] [] false
 else
  bif decide ((ks.length : Int) > 60) then
   r40 [] [] false
  else L40_1 k k qs 0 0 ks (ks.length : Int) 0 p p1 p2 p3 [] [] := by kernel_rfl
theorem sL40_1 (k n : Nat) (qs : List PV) (statesLen executedLen : Nat) (t26 : List PV) (t27 t28 n1 n11 : Int) (l l1 xs xs1 : List PV) : L40_1 k (n + 1) qs statesLen executedLen t26 t27 t28 n1 n11 l l1 xs xs1 =
 bif decide (t28 < t27) then
  (lookP t26 t28).bind fun p1 =>
  (p1.atInt .i64 0).bind fun n2 =>
  R28 (c28 k n1 n11 l l1 qs n2) fun l2 b1 =>
  bif b1 then
   R125 (c125 k l2) fun l3 =>
   bif decide ((statesLen + 1) * 24 ≤ LIM) && decide (statesLen + 1 ≤ LIM) then
    bif decide ((executedLen + 1) * 1 ≤ LIM) && decide (executedLen + 1 ≤ LIM) then
     L40_1 k n l2 (statesLen + 1) (executedLen + 1) t26 t27 (IntKind.i64.wrap (t28 + 1)) n1 n11 l l1 ((xs.take statesLen) ++ [PV.row 0 0 (l3.take l3.length)]) ((xs1.take executedLen) ++ [PV.bool b1])
    else none
   else none
  else
   R125 (c125 k qs) fun l4 =>
   bif decide ((statesLen + 1) * 24 ≤ LIM) && decide (statesLen + 1 ≤ LIM) then
    bif decide ((executedLen + 1) * 1 ≤ LIM) && decide (executedLen + 1 ≤ LIM) then
     L40_1 k n qs (statesLen + 1) (executedLen + 1) t26 t27 (IntKind.i64.wrap (t28 + 1)) n1 n11 l l1 ((xs.take statesLen) ++ [PV.row 0 0 (l4.take l4.length)]) ((xs1.take executedLen) ++ [PV.bool b1])
    else none
   else none
 else r40 (xs.take statesLen) (xs1.take executedLen) true := by kernel_rfl
/-! 41 : spec.PlayCommands -/
theorem n41 (k : Nat) (p p1 : Int) (p2 p3 qs ks : List PV) : c41 (k + 1) p p1 p2 p3 qs ks =
 R45 (c45 k p p1 p2 p3) fun b1 =>
 bif !b1 then
  r41 [] [] false
 else
  R126 (c126 k p p1 p2 p3 qs) fun b2 =>
  bif !b2 then
   r41 [] [] false
  else
   bif decide ((ks.length : Int) > 60) then
    r41 [] [] false
   else L41_1 k k qs 0 0 ks (ks.length : Int) 0 p p1 p2 p3 [] [] := by kernel_rfl
theorem sL41_1 (k n : Nat) (qs : List PV) (outLen didLen : Nat) (t29 : List PV) (t30 t31 n1 n11 : Int) (l l1 xs xs1 : List PV) : L41_1 k (n + 1) qs outLen didLen t29 t30 t31 n1 n11 l l1 xs xs1 =
 bif decide (t31 < t30) then
  (lookP t29 t31).bind fun p1 =>
  (p1.atInt .i64 0).bind fun n2 =>
  R127 (c127 k n1 n11 l l1 qs n2) fun l2 b1 =>
  bif b1 then
   bif decide ((0 + l2.length) * 8 ≤ LIM) && decide (0 + l2.length ≤ LIM) then
    bif decide ((outLen + 1) * 24 ≤ LIM) && decide (outLen + 1 ≤ LIM) then
     bif decide ((didLen + 1) * 1 ≤ LIM) && decide (didLen + 1 ≤ LIM) then
      L41_1 k n l2 (outLen + 1) (didLen + 1) t29 t30 (IntKind.i64.wrap (t31 + 1)) n1 n11 l l1 ((xs.take outLen) ++ [PV.row 0 0 (([] ++ l2).take (0 + l2.length))]) ((xs1.take didLen) ++ [PV.bool b1])
     else none
    else none
   else none
  else
   bif decide ((0 + qs.length) * 8 ≤ LIM) && decide (0 + qs.length ≤ LIM) then
    bif decide ((outLen + 1) * 24 ≤ LIM) && decide (outLen + 1 ≤ LIM) then
     bif decide ((didLen + 1) * 1 ≤ LIM) && decide (didLen + 1 ≤ LIM) then
      L41_1 k n qs (outLen + 1) (didLen + 1) t29 t30 (IntKind.i64.wrap (t31 + 1)) n1 n11 l l1 ((xs.take outLen) ++ [PV.row 0 0 (([] ++ qs).take (0 + qs.length))]) ((xs1.take didLen) ++ [PV.bool b1])
     else none
    else none
   else none
 else r41 (xs.take outLen) (xs1.take didLen) true := by kernel_rfl
/-! 42 : laws.sameStates -/
theorem n42 (k : Nat) (a b : List PV) : c42 (k + 1) a b =
 bif ((a.length : Int) != (b.length : Int)) then
  r42 false
 else L42_1 k k a b (a.length : Int) 0 := by kernel_rfl
theorem sL42_1 (k n : Nat) (a b : List PV) (t12 t13 : Int) : L42_1 k (n + 1) a b t12 t13 =
 bif decide (t13 < t12) then
  (lookP a t13).bind fun p1 =>
  (p1.atRow 0 0).bind fun l1 =>
  (lookP b t13).bind fun p2 =>
  (p2.atRow 0 0).bind fun l2 =>
  R29 (c29 k l1 l2) fun b1 =>
  bif !b1 then
   r42 false
  else L42_1 k n a b t12 (IntKind.i64.wrap (t13 + 1))
 else r42 true := by kernel_rfl
/-! 43 : laws.sameBools -/
theorem n43 (k : Nat) (a b : List PV) : c43 (k + 1) a b =
 bif ((a.length : Int) != (b.length : Int)) then
  r43 false
 else L43_1 k k a b (a.length : Int) 0 := by kernel_rfl
theorem sL43_1 (k n : Nat) (a b : List PV) (t12 t13 : Int) : L43_1 k (n + 1) a b t12 t13 =
 bif decide (t13 < t12) then
  (lookP a t13).bind fun p1 =>
  (p1.atBool 0).bind fun b1 =>
  (lookP b t13).bind fun p2 =>
  (p2.atBool 0).bind fun b2 =>
  bif (!(b1 == b2)) then
   r43 false
  else L43_1 k n a b t12 (IntKind.i64.wrap (t13 + 1))
 else r43 true := by kernel_rfl
/-! 44 : impl.GoodProgram -/
theorem n44 (k : Nat) (p p1 : Int) (p2 p3 : List PV) : c44 (k + 1) p p1 p2 p3 =
 R104 (c104 k p) fun b1 =>
 bif !b1 then
  r44 false
 else
  R128 (c128 k p1) fun b2 =>
  bif !b2 then
   r44 false
  else
   R70 (c70 k p p1 p2 p3 p2) fun b3 =>
   bif !b3 then
    r44 false
   else
    bif decide ((p3.length : Int) < 1) then
     r44 false
    else
     bif decide ((p3.length : Int) > 6) then
      r44 false
     else
      R129 (c129 k p3 p p1 p2 p3) fun v1 v2 l1 l2 b4 =>
      r44 (!b4) := by kernel_rfl
/-! 45 : spec.GoodProgram -/
theorem n45 (k : Nat) (p p1 : Int) (p2 p3 : List PV) : c45 (k + 1) p p1 p2 p3 =
 R74 (c74 k p p1 p2 p3 p2) fun b1 =>
 bif !b1 then
  r45 false
 else
  R101 (c101 k (p3.length : Int) 1 6) fun b2 =>
  bif !b2 then
   r45 false
  else L45_1 k k p3 (p3.length : Int) 0 p p1 p2 p3 := by kernel_rfl
theorem sL45_1 (k n : Nat) (t18 : List PV) (t19 t20 n1 n11 : Int) (l l1 : List PV) : L45_1 k (n + 1) t18 t19 t20 n1 n11 l l1 =
 bif decide (t20 < t19) then
  (lookP t18 t20).bind fun p1 =>
  bif p1.shp 2 then
   (p1.atRow 2 0).bind fun l2 =>
   (p1.atRow 2 1).bind fun l3 =>
   R132 (c132 k n1 n11 l l1 l2 l3) fun b1 =>
   bif !b1 then
    r45 false
   else L45_1 k n t18 t19 (IntKind.i64.wrap (t20 + 1)) n1 n11 l l1
  else none
 else r45 true := by kernel_rfl
/-! 46 : impl.Enabled -/
theorem n46 (k : Nat) (p p1 : Int) (p2 p3 qs : List PV) : c46 (k + 1) p p1 p2 p3 qs =
 R106 (c106 k p p1 p2 p3 qs) fun b1 =>
 bif !b1 then
  r46 [] false
 else L46_1 k k qs 0 p3 (p3.length : Int) 0 p p1 p2 p3 [] := by kernel_rfl
theorem sL46_1 (k n : Nat) (qs : List PV) (outLen : Nat) (t15 : List PV) (t16 t17 n1 n11 : Int) (l l1 xs : List PV) : L46_1 k (n + 1) qs outLen t15 t16 t17 n1 n11 l l1 xs =
 bif decide (t17 < t16) then
  (lookP t15 t17).bind fun p1 =>
  bif p1.shp 2 then
   (p1.atRow 2 0).bind fun l2 =>
   (p1.atRow 2 1).bind fun l3 =>
   R107 (c107 k n1 n11 l l1 l2 qs) fun b1 =>
   bif b1 then
    bif decide ((outLen + 1) * 8 ≤ LIM) && decide (outLen + 1 ≤ LIM) then
     L46_1 k n qs (outLen + 1) t15 t16 (IntKind.i64.wrap (t17 + 1)) n1 n11 l l1 ((xs.take outLen) ++ [PV.int .i64 t17])
    else none
   else L46_1 k n qs outLen t15 t16 (IntKind.i64.wrap (t17 + 1)) n1 n11 l l1 xs
  else none
 else r46 (xs.take outLen) true := by kernel_rfl
/-! 47 : laws.has -/
theorem n47 (k : Nat) (l : List PV) (n1 : Int) : c47 (k + 1) l n1 =
 L47_1 k k n1 l (l.length : Int) 0 := by kernel_rfl
theorem sL47_1 (k n : Nat) (n1 : Int) (t7 : List PV) (t8 t9 : Int) : L47_1 k (n + 1) n1 t7 t8 t9 =
 bif decide (t9 < t8) then
  (lookP t7 t9).bind fun p1 =>
  (p1.atInt .i64 0).bind fun n2 =>
  bif (n2 == n1) then
   r47 true
  else L47_1 k n n1 t7 t8 (IntKind.i64.wrap (t9 + 1))
 else r47 false := by kernel_rfl
/-! 48 : spec.DrawIsStart -/
theorem n48 (k : Nat) (code : List PV) : c48 (k + 1) code =
 R90 (c90 k code 0 0) fun l1 v1 v2 v3 v4 l2 l3 =>
 R124 (c124 k v3 v4 l2 l3 l1 v1 v2) fun l4 v5 v6 l5 =>
 r48 v3 v4 l2 l3 l5 := by kernel_rfl
/-! 49 : impl.IsStart -/
theorem n49 (k : Nat) (p p1 : Int) (p2 p3 qs : List PV) : c49 (k + 1) p p1 p2 p3 qs =
 R106 (c106 k p p1 p2 p3 qs) fun b1 =>
 bif !b1 then
  r49 false false
 else
  R107 (c107 k p p1 p2 p3 p2 qs) fun b2 =>
  r49 b2 true := by kernel_rfl
/-! 50 : spec.IsStart -/
theorem n50 (k : Nat) (p p1 : Int) (p2 p3 qs : List PV) : c50 (k + 1) p p1 p2 p3 qs =
 R45 (c45 k p p1 p2 p3) fun b1 =>
 bif !b1 then
  r50 false false
 else
  R126 (c126 k p p1 p2 p3 qs) fun b2 =>
  bif !b2 then
   r50 false false
  else
   R133 (c133 k p p1 p2 p3 p2 qs) fun b3 =>
   r50 b3 true := by kernel_rfl
/-! 51 : spec.Enabled -/
theorem n51 (k : Nat) (p p1 : Int) (p2 p3 qs : List PV) : c51 (k + 1) p p1 p2 p3 qs =
 R45 (c45 k p p1 p2 p3) fun b1 =>
 bif !b1 then
  r51 [] false
 else
  R126 (c126 k p p1 p2 p3 qs) fun b2 =>
  bif !b2 then
   r51 [] false
  else
   R134 (c134 k p p1 p2 p3 qs) fun l1 =>
   r51 l1 true := by kernel_rfl
/-! 64 : spec.l1Cur).small -/
theorem n64 (k : Nat) (l : List PV) (n1 n11 : Int) : c64 (k + 1) l n1 n11 =
 R149 (c149 k [PV.int .i64 1, PV.int .i64 2, PV.int .i64 2, PV.int .i64 2, PV.int .i64 3, PV.int .i64 4] l n1 n11) fun l1 v1 v2 v3 =>
 bif decide (v3 < 3) then
  bif !(v3 == 0) then
   R91 (c91 k (IntKind.i64.wrap ((6 : Int).tdiv v3)) l1 v1 v2) fun l2 v4 v5 v6 =>
   L64_1 k k v3 (IntKind.i64.wrap (1 + v6)) l2 v4 v5 0 0 [] []
  else none
 else L64_1 k k v3 1 l1 v1 v2 0 0 [] [] := by kernel_rfl
theorem sL64_1 (k n : Nat) (wide vars : Int) (l : List PV) (n1 n11 n12 n13 : Int) (l1 l2 : List PV) : L64_1 k (n + 1) wide vars l n1 n11 n12 n13 l1 l2 =
 bif decide (IntKind.i64.wrap (wide * vars) > 5) then
  L64_1 k n wide (IntKind.i64.wrap (vars - 1)) l n1 n11 n12 n13 l1 l2
 else
  bif decide (vars > 4) then
   L64_1 k n wide (IntKind.i64.wrap (vars - 1)) l n1 n11 n12 n13 l1 l2
  else
   R150 (c150 k wide vars l n1 n11) fun l3 v1 v2 v3 v4 l4 l5 =>
   R91 (c91 k 40 l3 v1 v2) fun l6 v5 v6 v7 =>
   bif (v7 == 0) then
    R149 (c149 k [PV.int .i64 0, PV.int .i64 4, PV.int .i64 5] l6 v5 v6) fun l7 v8 v9 v10 =>
    r64 l7 v8 v9 v3 v10 l4 (l5.take l5.length)
   else
    bif (v7 == 1) then
     r64 l6 v5 v6 v3 v4 l4 []
    else
     bif (v7 == 2) then
      bif decide ((0 : Int) < (l5.length : Int)) then
       (l5[0]?).bind fun p1 =>
       (putPart p1 2 0 (PV.row 2 0 [PV.agg [.int .i64 1, .int .u64 0]]) 0).bind fun p2 =>
       r64 l6 v5 v6 v3 v4 l4 ((l5.set 0 p2).take l5.length)
      else none
     else
      bif (v7 == 3) then
       bif decide ((0 : Int) < (l5.length : Int)) then
        (l5[0]?).bind fun p3 =>
        (p3.atRow 2 1).bind fun l8 =>
        bif decide ((l8.length + 1) * 32 ≤ LIM) && decide (l8.length + 1 ≤ LIM) then
         bif decide ((0 : Int) < (l5.length : Int)) then
          (l5[0]?).bind fun p4 =>
          bif decide (l8.length + 1 ≤ (l8 ++ [PV.agg [.int .i64 0, .row 2 0 [PV.agg [.int .i64 1, .int .u64 0]]]]).length) then
           (putPart p4 2 1 (PV.row 2 0 ((l8 ++ [PV.agg [.int .i64 0, .row 2 0 [PV.agg [.int .i64 1, .int .u64 0]]]]).take (l8.length + 1))) 0).bind fun p5 =>
           r64 l6 v5 v6 v3 v4 l4 ((l5.set 0 p5).take l5.length)
          else none
         else none
        else none
       else none
      else r64 l6 v5 v6 v3 v4 l4 (l5.take l5.length) := by kernel_rfl
/-! 70 : impl.Program).isCondition -/
theorem n70 (k : Nat) (p p1 : Int) (p2 p3 t : List PV) : c70 (k + 1) p p1 p2 p3 t =
 R153 (c153 k p p1 t 2) fun b1 =>
 r70 b1 := by kernel_rfl
/-! 74 : spec.l7Asks -/
theorem n74 (k : Nat) (p p1 : Int) (p2 p3 t : List PV) : c74 (k + 1) p p1 p2 p3 t =
 R155 (c155 k p p1 t) fun v1 =>
 r74 (v1 == 2) := by kernel_rfl
/-! 82 : impl.GoodTerm -/
theorem n82 (k : Nat) (wide vars : Int) (t : List PV) : c82 (k + 1) wide vars t =
 R104 (c104 k wide) fun b1 =>
 bif !b1 then
  r82 false
 else
  R128 (c128 k vars) fun b2 =>
  bif !b2 then
   r82 false
  else
   bif decide ((t.length : Int) < 1) then
    r82 false
   else
    bif decide ((t.length : Int) > 48) then
     r82 false
    else L82_1 k k wide vars 0 t (t.length : Int) 0 [] := by kernel_rfl
theorem sL82_1 (k n : Nat) (wide vars : Int) (stackLen : Nat) (t33 : List PV) (t34 t35 : Int) (xs : List PV) : L82_1 k (n + 1) wide vars stackLen t33 t34 t35 xs =
 bif decide (t35 < t34) then
  (lookP t33 t35).bind fun p1 =>
  bif p1.shp 2 then
   (p1.atInt .i64 0).bind fun n1 =>
   (p1.atInt .u64 1).bind fun n2 =>
   R163 (c163 k n1) fun v1 v2 v3 =>
   bif (v3 == 0) then
    r82 false
   else
    R164 (c164 k wide vars n1 n2) fun b1 =>
    bif !b1 then
     r82 false
    else
     bif decide (IntKind.i64.wrap ((stackLen : Int) - v1) < 0) then
      r82 false
     else
      bif decide ((0 : Int) ≤ IntKind.i64.wrap ((stackLen : Int) - v1)) && decide (IntKind.i64.wrap ((stackLen : Int) - v1) ≤ (stackLen : Int)) && decide ((stackLen : Int) ≤ (stackLen : Int)) then
       R93p (c93 k ((xs.drop (0 + ((IntKind.i64.wrap ((stackLen : Int) - v1)).toNat))).take (stackLen - ((IntKind.i64.wrap ((stackLen : Int) - v1)).toNat))) v2) fun v4 b2 =>
       bif b2 then
        r82 false
       else
        bif decide ((0 : Int) ≤ IntKind.i64.wrap ((stackLen : Int) - v1)) && decide (IntKind.i64.wrap ((stackLen : Int) - v1) ≤ (stackLen : Int)) then
         bif decide ((((IntKind.i64.wrap ((stackLen : Int) - v1)).toNat) + 1) * 8 ≤ LIM) && decide (((IntKind.i64.wrap ((stackLen : Int) - v1)).toNat) + 1 ≤ LIM) then
          L82_1 k n wide vars (((IntKind.i64.wrap ((stackLen : Int) - v1)).toNat) + 1) t33 t34 (IntKind.i64.wrap (t35 + 1)) ((xs.take ((IntKind.i64.wrap ((stackLen : Int) - v1)).toNat)) ++ [PV.int .i64 v3])
         else none
        else none
      else none
  else none
 else r82 ((stackLen : Int) == 1) := by kernel_rfl
/-! 83 : impl.kindOf -/
theorem n83 (k : Nat) (t : List PV) : c83 (k + 1) t =
 (lookP t (IntKind.i64.wrap ((t.length : Int) - 1))).bind fun p1 =>
 (p1.atInt .i64 0).bind fun n1 =>
 R163 (c163 k n1) fun v1 v2 v3 =>
 r83 v3 := by kernel_rfl
/-! 85 : spec.l1Cur).one -/
theorem n85 (k : Nat) (n1 : Int) (l : List PV) (n11 n12 : Int) : c85 (k + 1) n1 l n11 n12 =
 R91 (c91 k n1 l n11 n12) fun l1 v1 v2 v3 =>
 r85 l1 v1 v2 (v3 == 0) := by kernel_rfl
/-! 88 : spec.l1Has -/
theorem n88 (k : Nat) (l : List PV) (n1 : Int) : c88 (k + 1) l n1 =
 L88_1 k k n1 l (l.length : Int) 0 := by kernel_rfl
theorem sL88_1 (k n : Nat) (n1 : Int) (t7 : List PV) (t8 t9 : Int) : L88_1 k (n + 1) n1 t7 t8 t9 =
 bif decide (t9 < t8) then
  (lookP t7 t9).bind fun p1 =>
  (p1.atInt .i64 0).bind fun n2 =>
  bif (n2 == n1) then
   r88 true
  else L88_1 k n n1 t7 t8 (IntKind.i64.wrap (t9 + 1))
 else r88 false := by kernel_rfl
/-! 90 : spec.l1Cur).prog -/
theorem n90 (k : Nat) (l : List PV) (n1 n11 : Int) : c90 (k + 1) l n1 n11 =
 R85 (c85 k 2 l n1 n11) fun l1 v1 v2 b1 =>
 bif b1 then
  R64 (c64 k l1 v1 v2) fun l2 v3 v4 v5 v6 l3 l4 =>
  r90 l2 v3 v4 v5 v6 l3 l4
 else
  R149 (c149 k [PV.int .i64 8, PV.int .i64 32, PV.int .i64 64] l1 v1 v2) fun l5 v7 v8 v9 =>
  R91 (c91 k 3 l5 v7 v8) fun l6 v10 v11 v12 =>
  R150 (c150 k v9 (IntKind.i64.wrap (1 + v12)) l6 v10 v11) fun l7 v13 v14 v15 v16 l8 l9 =>
  r90 l7 v13 v14 v15 v16 l8 (l9.take l9.length) := by kernel_rfl
/-! 91 : spec.l1Cur).pick -/
theorem n91 (k : Nat) (n1 : Int) (l : List PV) (n11 n12 : Int) : c91 (k + 1) n1 l n11 n12 =
 bif decide (n1 ≤ 1) then
  r91 l n11 n12 0
 else
  R167 (c167 k l n11 n12) fun l1 v1 v2 v3 =>
  bif decide (n1 > 200) then
   R167 (c167 k l1 v1 v2) fun l2 v4 v5 v6 =>
   bif !(n1 == 0) then
    r91 l2 v4 v5 ((IntKind.i64.wrap ((IntKind.i64.wrap (v3 * 256)) + v6)).tmod n1)
   else none
  else
   bif !(n1 == 0) then
    r91 l1 v1 v2 (v3.tmod n1)
   else none := by kernel_rfl
/-! 93 : slices.ContainsFunc[[]int,int] -/
theorem n93 (k : Nat) (qs : List PV) (n1 : Int) : c93 (k + 1) qs n1 =
 R168 (c168 k qs n1) fun v1 v2 =>
 r93 v1 (decide (v2 ≥ 0)) := by kernel_rfl
/-! 97 : impl.Program).isCommandNo -/
theorem n97 (k : Nat) (p p1 : Int) (p2 p3 : List PV) (k1 : Int) : c97 (k + 1) p p1 p2 p3 k1 =
 bif decide (k1 ≥ 0) then
  r97 (decide (k1 < (p3.length : Int)))
 else r97 false := by kernel_rfl
end Go.Proofs.YtnflnpjojbkgjaaGreat
