/- Normal forms: printed by nf.py. -/
import Derived.Test.YtnliglgellapdaaCs
set_option linter.unusedVariables false
set_option maxRecDepth 100000
namespace Go.Proofs.Ytnliglgellapdaa
open Go.Dp
/-! 28 : laws.numberOf -/
theorem n28 (k : Nat) (b : List PV) : c28 (k + 1) b =
 L28_1 k k 0 b (b.length : Int) 0 := by kernel_rfl
theorem sL28_1 (k n : Nat) (n1 : Int) (t6 : List PV) (t7 t8 : Int) : L28_1 k (n + 1) n1 t6 t7 t8 =
 bif decide (t8 < t7) then
  (lookP t6 t8).bind fun p1 =>
  (p1.atInt .u8 0).bind fun n2 =>
  L28_1 k n ((IntKind.i64.wrap ((IntKind.i64.wrap (31 * n1)) + (IntKind.i64.wrap n2))).tmod 1000003) t6 t7 (IntKind.i64.wrap (t8 + 1))
 else r28 n1 := by kernel_rfl
/-! 29 : impl.ValueOf -/
theorem n29 (k : Nat) (wide : Int) (t state : List PV) : c29 (k + 1) wide t state =
 R89 (c89 k wide (state.length : Int) state) fun b1 =>
 bif !b1 then
  r29 0 false
 else
  R25 (c25 k wide (state.length : Int) t) fun b2 =>
  bif !b2 then
   r29 0 false
  else
   R90 (c90 k wide t state) fun v1 =>
   r29 v1 true := by kernel_rfl
/-! 30 : spec.DrawJoinTerms -/
theorem n30 (k : Nat) (code : List PV) : c30 (k + 1) code =
 R69 (c69 k 8 code 0 0) fun l1 v1 v2 v3 =>
 R69 (c69 k 3 l1 v1 v2) fun l2 v4 v5 v6 =>
 R75 (c75 k 3 l2 v4 v5) fun l3 v7 v8 b1 =>
 bif b1 then
  R69 (c69 k 21 l3 v7 v8) fun l4 v9 v10 v11 =>
  R91 (c91 k (IntKind.i64.wrap (1 + v3)) (IntKind.i64.wrap (1 + v6)) 1 l4 v9 v10) fun l5 v12 v13 l6 =>
  R91 (c91 k (IntKind.i64.wrap (1 + v3)) (IntKind.i64.wrap (1 + v6)) 2 l5 v12 v13) fun l7 v14 v15 l8 =>
  r30 (IntKind.i64.wrap (1 + v3)) (IntKind.i64.wrap (1 + v6)) v11 (l6.take l6.length) (l8.take l8.length)
 else
  R69 (c69 k 18 l3 v7 v8) fun l9 v16 v17 v18 =>
  R73 (c73 k (IntKind.i64.wrap (1 + v3)) (IntKind.i64.wrap (1 + v6)) 2 l9 v16 v17) fun l10 v19 v20 l11 =>
  R73 (c73 k (IntKind.i64.wrap (1 + v3)) (IntKind.i64.wrap (1 + v6)) 3 l10 v19 v20) fun l12 v21 v22 l13 =>
  r30 (IntKind.i64.wrap (1 + v3)) (IntKind.i64.wrap (1 + v6)) v18 (l11.take l11.length) (l13.take l13.length) := by kernel_rfl
/-! 31 : impl.JoinTerms -/
theorem n31 (k : Nat) (wide vars op : Int) (a b : List PV) : c31 (k + 1) wide vars op a b =
 R84 (c84 k op) fun v1 v2 v3 =>
 bif (v1 != 2) then
  r31 [] false
 else
  R25 (c25 k wide vars a) fun b1 =>
  bif !b1 then
   r31 [] false
  else
   R25 (c25 k wide vars b) fun b2 =>
   bif !b2 then
    r31 [] false
   else
    R92p (c92 k [PV.row 2 0 a, PV.row 2 0 b, PV.row 2 0 [PV.agg [.int .i64 op, .int .u64 0]]]) fun l1 =>
    R79 (c79 k wide vars (l1.take l1.length)) fun l2 b3 =>
    r31 l2 b3 := by kernel_rfl
/-! 32 : spec.JoinTerms -/
theorem n32 (k : Nat) (wide vars op : Int) (a b : List PV) : c32 (k + 1) wide vars op a b =
 R93 (c93 k op) fun v1 v2 v3 =>
 bif (v1 != 2) then
  r32 [] false
 else
  R80 (c80 k wide vars a) fun v4 =>
  bif (v4 != v2) then
   r32 [] false
  else
   R80 (c80 k wide vars b) fun v5 =>
   bif (v5 != v2) then
    r32 [] false
   else
    bif decide ((0 + a.length) * 16 ≤ LIM) && decide (0 + a.length ≤ LIM) then
     bif decide (((0 + a.length) + b.length) * 16 ≤ LIM) && decide ((0 + a.length) + b.length ≤ LIM) then
      bif decide ((((0 + a.length) + b.length) + 1) * 16 ≤ LIM) && decide (((0 + a.length) + b.length) + 1 ≤ LIM) then
       R81 (c81 k wide vars (((((([] ++ a).take (0 + a.length)) ++ b).take ((0 + a.length) + b.length)) ++ [PV.agg [.int .i64 op, .int .u64 0]]).take (((0 + a.length) + b.length) + 1))) fun l1 b1 =>
       r32 l1 b1
      else none
     else none
    else none := by kernel_rfl
/-! 33 : impl.AddWord -/
theorem n33 (k : Nat) (wide a b : Int) : c33 (k + 1) wide a b =
 R94 (c94 k wide a b) fun b1 =>
 bif !b1 then
  r33 0 false
 else
  R88 (c88 k wide) fun v1 =>
  r33 (bitsOp .and .u64 (IntKind.u64.wrap (a + b)) v1) true := by kernel_rfl
/-! 34 : impl.LessSigned -/
theorem n34 (k : Nat) (wide a b : Int) : c34 (k + 1) wide a b =
 R94 (c94 k wide a b) fun b1 =>
 bif !b1 then
  r34 false false
 else
  R95 (c95 k wide a) fun v1 =>
  R95 (c95 k wide b) fun v2 =>
  r34 (decide (v1 < v2)) true := by kernel_rfl
/-! 35 : spec.DrawTurnTerm -/
theorem n35 (k : Nat) (code : List PV) : c35 (k + 1) code =
 R72 (c72 k code 0 0) fun l1 v1 v2 v3 v4 l2 =>
 R96 (c96 k [PV.int .i64 13, PV.int .i64 19, PV.int .i64 19, PV.int .i64 3] l1 v1 v2) fun l3 v5 v6 v7 =>
 r35 v3 v4 v7 l2 := by kernel_rfl
/-! 36 : impl.TurnTerm -/
theorem n36 (k : Nat) (wide vars op : Int) (a : List PV) : c36 (k + 1) wide vars op a =
 bif (op != 13) then
  bif (op != 19) then
   r36 [] false
  else
   R25 (c25 k wide vars a) fun b1 =>
   bif !b1 then
    r36 [] false
   else
    R97 (c97 k a) fun l1 =>
    bif decide ((l1.length + 1) * 16 ≤ LIM) && decide (l1.length + 1 ≤ LIM) then
     R79 (c79 k wide vars (((l1.take l1.length) ++ [PV.agg [.int .i64 op, .int .u64 0]]).take (l1.length + 1))) fun l2 b2 =>
     r36 l2 b2
    else none
 else
  R25 (c25 k wide vars a) fun b3 =>
  bif !b3 then
   r36 [] false
  else
   R97 (c97 k a) fun l3 =>
   bif decide ((l3.length + 1) * 16 ≤ LIM) && decide (l3.length + 1 ≤ LIM) then
    R79 (c79 k wide vars (((l3.take l3.length) ++ [PV.agg [.int .i64 op, .int .u64 0]]).take (l3.length + 1))) fun l4 b4 =>
    r36 l4 b4
   else none := by kernel_rfl
/-! 37 : spec.TurnTerm -/
theorem n37 (k : Nat) (wide vars op : Int) (a : List PV) : c37 (k + 1) wide vars op a =
 R93 (c93 k op) fun v1 v2 v3 =>
 bif (v1 != 1) then
  r37 [] false
 else
  R80 (c80 k wide vars a) fun v4 =>
  bif (v4 != v2) then
   r37 [] false
  else
   bif decide ((0 + a.length) * 16 ≤ LIM) && decide (0 + a.length ≤ LIM) then
    bif decide (((0 + a.length) + 1) * 16 ≤ LIM) && decide ((0 + a.length) + 1 ≤ LIM) then
     R81 (c81 k wide vars (((([] ++ a).take (0 + a.length)) ++ [PV.agg [.int .i64 op, .int .u64 0]]).take ((0 + a.length) + 1))) fun l1 b1 =>
     r37 l1 b1
    else none
   else none := by kernel_rfl
/-! 38 : spec.DrawBeforeOne -/
theorem n38 (k : Nat) (code : List PV) : c38 (k + 1) code =
 R98 (c98 k code 0 0) fun l1 v1 v2 v3 v4 l2 l3 =>
 R69 (c69 k 3 l1 v1 v2) fun l4 v5 v6 v7 =>
 R99 (c99 k v3 v4 l2 l3 1 l4 v5 v6) fun l5 v8 v9 l6 =>
 r38 v3 v4 l2 l3 v7 l6 := by kernel_rfl
/-! 39 : impl.BeforeOne -/
theorem n39 (k : Nat) (p p1 : Int) (p2 p3 : List PV) (k1 : Int) (t : List PV) : c39 (k + 1) p p1 p2 p3 k1 t =
 R100 (c100 k p p1 p2 p3 k1 t) fun b1 =>
 bif !b1 then
  r39 [] false
 else
  R101 (c101 k p p1 p2 p3 k1 t) fun l1 b2 =>
  r39 l1 b2 := by kernel_rfl
/-! 40 : spec.BeforeOne -/
theorem n40 (k : Nat) (p p1 : Int) (p2 p3 : List PV) (k1 : Int) (t : List PV) : c40 (k + 1) p p1 p2 p3 k1 t =
 R102 (c102 k p p1 p2 p3 k1 t) fun b1 =>
 bif !b1 then
  r40 [] false
 else
  R103 (c103 k p p1 p2 p3 k1 t) fun l1 b2 =>
  r40 l1 b2 := by kernel_rfl
/-! 41 : impl.BeforeIf -/
theorem n41 (k : Nat) (p p1 : Int) (p2 p3 : List PV) (k1 : Int) (t : List PV) : c41 (k + 1) p p1 p2 p3 k1 t =
 R100 (c100 k p p1 p2 p3 k1 t) fun b1 =>
 bif !b1 then
  r41 [] false
 else
  R104 (c104 k p p1 p2 p3 k1 t) fun l1 b2 =>
  r41 l1 b2 := by kernel_rfl
/-! 42 : spec.BeforeIf -/
theorem n42 (k : Nat) (p p1 : Int) (p2 p3 : List PV) (k1 : Int) (t : List PV) : c42 (k + 1) p p1 p2 p3 k1 t =
 R102 (c102 k p p1 p2 p3 k1 t) fun b1 =>
 bif !b1 then
  r42 [] false
 else
  R105 (c105 k p p1 p2 p3 k1 t) fun l1 b2 =>
  r42 l1 b2 := by kernel_rfl
/-! 43 : impl.StepBy -/
theorem n43 (k : Nat) (p p1 : Int) (p2 p3 qs : List PV) (k1 : Int) : c43 (k + 1) p p1 p2 p3 qs k1 =
 R60 (c60 k p p1 p2 p3 qs) fun b1 =>
 bif !b1 then
  r43 [] false
 else
  R106 (c106 k p p1 p2 p3 k1) fun b2 =>
  bif !b2 then
   r43 [] false
  else
   (lookP p3 k1).bind fun p4 =>
   (p4.atRow 2 0).bind fun l1 =>
   R107 (c107 k p p1 p2 p3 l1 qs) fun b3 =>
   bif !b3 then
    r43 [] false
   else
    (lookP p3 k1).bind fun p5 =>
    bif p5.shp 2 then
     (p5.atRow 2 0).bind fun l2 =>
     (p5.atRow 2 1).bind fun l3 =>
     R108 (c108 k p p1 p2 p3 l2 l3 qs) fun l4 =>
     r43 l4 true
    else none := by kernel_rfl
/-! 54 : spec.l1In -/
theorem n54 (k : Nat) (n1 lo hi : Int) : c54 (k + 1) n1 lo hi =
 bif decide (n1 ≥ lo) then
  r54 (decide (n1 ≤ hi))
 else r54 false := by kernel_rfl
/-! 57 : spec.l1Cur).small -/
theorem n57 (k : Nat) (l : List PV) (n1 n11 : Int) : c57 (k + 1) l n1 n11 =
 R96 (c96 k [PV.int .i64 1, PV.int .i64 2, PV.int .i64 2, PV.int .i64 2, PV.int .i64 3, PV.int .i64 4] l n1 n11) fun l1 v1 v2 v3 =>
 bif decide (v3 < 3) then
  bif !(v3 == 0) then
   R69 (c69 k (IntKind.i64.wrap ((6 : Int).tdiv v3)) l1 v1 v2) fun l2 v4 v5 v6 =>
   L57_1 k k v3 (IntKind.i64.wrap (1 + v6)) l2 v4 v5 0 0 [] []
  else none
 else L57_1 k k v3 1 l1 v1 v2 0 0 [] [] := by kernel_rfl
theorem sL57_1 (k n : Nat) (wide vars : Int) (l : List PV) (n1 n11 n12 n13 : Int) (l1 l2 : List PV) : L57_1 k (n + 1) wide vars l n1 n11 n12 n13 l1 l2 =
 bif decide (IntKind.i64.wrap (wide * vars) > 5) then
  L57_1 k n wide (IntKind.i64.wrap (vars - 1)) l n1 n11 n12 n13 l1 l2
 else
  bif decide (vars > 4) then
   L57_1 k n wide (IntKind.i64.wrap (vars - 1)) l n1 n11 n12 n13 l1 l2
  else
   R129 (c129 k wide vars l n1 n11) fun l3 v1 v2 v3 v4 l4 l5 =>
   R69 (c69 k 40 l3 v1 v2) fun l6 v5 v6 v7 =>
   bif (v7 == 0) then
    R96 (c96 k [PV.int .i64 0, PV.int .i64 4, PV.int .i64 5] l6 v5 v6) fun l7 v8 v9 v10 =>
    r57 l7 v8 v9 v3 v10 l4 (l5.take l5.length)
   else
    bif (v7 == 1) then
     r57 l6 v5 v6 v3 v4 l4 []
    else
     bif (v7 == 2) then
      bif decide ((0 : Int) < (l5.length : Int)) then
       (l5[0]?).bind fun p1 =>
       (putPart p1 2 0 (PV.row 2 0 [PV.agg [.int .i64 1, .int .u64 0]]) 0).bind fun p2 =>
       r57 l6 v5 v6 v3 v4 l4 ((l5.set 0 p2).take l5.length)
      else none
     else
      bif (v7 == 3) then
       bif decide ((0 : Int) < (l5.length : Int)) then
        (l5[0]?).bind fun p3 =>
        (p3.atRow 2 1).bind fun l8 =>
        bif decide ((l8.length + 1) * 32 ≤ LIM) && decide (l8.length + 1 ≤ LIM) then
         bif decide ((0 : Int) < (l5.length : Int)) then
          (l5[0]?).bind fun p4 =>
          bif decide (l8.length + 1 ≤ (l8 ++ [PV.agg [.int .i64 0, .row 2 0 [PV.agg [.int .i64 1, .int .u64 0]]]]).length) then
           (putPart p4 2 1 (PV.row 2 0 ((l8 ++ [PV.agg [.int .i64 0, .row 2 0 [PV.agg [.int .i64 1, .int .u64 0]]]]).take (l8.length + 1))) 0).bind fun p5 =>
           r57 l6 v5 v6 v3 v4 l4 ((l5.set 0 p5).take l5.length)
          else none
         else none
        else none
       else none
      else r57 l6 v5 v6 v3 v4 l4 (l5.take l5.length) := by kernel_rfl
/-! 58 : spec.l1Cur).stateFor -/
theorem n58 (k : Nat) (p p1 : Int) (p2 p3 l : List PV) (n1 n11 : Int) : c58 (k + 1) p p1 p2 p3 l n1 n11 =
 R130 (c130 k p p1 l n1 n11) fun l1 v1 v2 l2 =>
 R75 (c75 k 30 l1 v1 v2) fun l3 v3 v4 b1 =>
 bif b1 then
  bif decide ((l2.length + 1) * 8 ≤ LIM) && decide (l2.length + 1 ≤ LIM) then
   r58 l3 v3 v4 (((l2.take l2.length) ++ [PV.int .u64 0]).take (l2.length + 1))
  else none
 else r58 l3 v3 v4 (l2.take l2.length) := by kernel_rfl
/-! 59 : impl.isSmall -/
theorem n59 (k : Nat) (p p1 : Int) (p2 p3 : List PV) : c59 (k + 1) p p1 p2 p3 =
 R65 (c65 k p p1 p2 p3) fun b1 =>
 bif b1 then
  r59 (decide (IntKind.i64.wrap (p * p1) ≤ 5))
 else r59 false := by kernel_rfl
/-! 60 : impl.isStateOf -/
theorem n60 (k : Nat) (p p1 : Int) (p2 p3 qs : List PV) : c60 (k + 1) p p1 p2 p3 qs =
 R65 (c65 k p p1 p2 p3) fun b1 =>
 bif b1 then
  R89 (c89 k p p1 qs) fun b2 =>
  r60 b2
 else r60 false := by kernel_rfl
/-! 61 : impl.Program).stateNo -/
theorem n61 (k : Nat) (p p1 : Int) (p2 p3 qs : List PV) : c61 (k + 1) p p1 p2 p3 qs =
 L61_1 k k 0 qs (qs.length : Int) 0 p p1 p2 p3 := by kernel_rfl
theorem sL61_1 (k n : Nat) (no : Int) (t8 : List PV) (t9 t10 n1 n11 : Int) (l l1 : List PV) : L61_1 k (n + 1) no t8 t9 t10 n1 n11 l l1 =
 bif decide (t10 < t9) then
  (lookP t8 t10).bind fun p1 =>
  (p1.atInt .u64 0).bind fun n2 =>
  bif !decide (IntKind.i64.wrap (n1 * t10) < 0) then
   L61_1 k n (bitsOp .or .i64 no (shlI .i64 (IntKind.i64.wrap n2) (IntKind.i64.wrap (n1 * t10)))) t8 t9 (IntKind.i64.wrap (t10 + 1)) n1 n11 l l1
  else none
 else r61 no := by kernel_rfl
/-! 62 : spec.l7Small -/
theorem n62 (k : Nat) (p p1 : Int) (p2 p3 : List PV) : c62 (k + 1) p p1 p2 p3 =
 R66 (c66 k p p1 p2 p3) fun b1 =>
 bif b1 then
  r62 (decide (IntKind.i64.wrap (p * p1) ≤ 5))
 else r62 false := by kernel_rfl
/-! 63 : spec.l7State -/
theorem n63 (k : Nat) (p p1 : Int) (p2 p3 qs : List PV) : c63 (k + 1) p p1 p2 p3 qs =
 bif ((qs.length : Int) == p1) then
  R131 (c131 k p qs) fun b1 =>
  r63 b1
 else r63 false := by kernel_rfl
/-! 64 : spec.l7No -/
theorem n64 (k : Nat) (p p1 : Int) (p2 p3 qs : List PV) : c64 (k + 1) p p1 p2 p3 qs =
 L64_1 k k qs 0 (IntKind.i64.wrap (p1 - 1)) p p1 p2 p3 := by kernel_rfl
theorem sL64_1 (k n : Nat) (qs : List PV) (n1 v n11 n12 : Int) (l l1 : List PV) : L64_1 k (n + 1) qs n1 v n11 n12 l l1 =
 bif decide (v ≥ 0) then
  bif !decide (IntKind.u64.wrap n11 < 0) then
   (lookP qs v).bind fun p1 =>
   (p1.atInt .u64 0).bind fun n2 =>
   L64_1 k n qs (IntKind.i64.wrap ((shlI .i64 n1 (IntKind.u64.wrap n11)) + (IntKind.i64.wrap n2))) (IntKind.i64.wrap (v - 1)) n11 n12 l l1
  else none
 else r64 n1 := by kernel_rfl
/-! 65 : impl.GoodProgram -/
theorem n65 (k : Nat) (p p1 : Int) (p2 p3 : List PV) : c65 (k + 1) p p1 p2 p3 =
 R82 (c82 k p) fun b1 =>
 bif !b1 then
  r65 false
 else
  R83 (c83 k p1) fun b2 =>
  bif !b2 then
   r65 false
  else
   R132 (c132 k p p1 p2 p3 p2) fun b3 =>
   bif !b3 then
    r65 false
   else
    bif decide ((p3.length : Int) < 1) then
     r65 false
    else
     bif decide ((p3.length : Int) > 6) then
      r65 false
     else
      R133 (c133 k p3 p p1 p2 p3) fun v1 v2 l1 l2 b4 =>
      r65 (!b4) := by kernel_rfl
/-! 66 : spec.GoodProgram -/
theorem n66 (k : Nat) (p p1 : Int) (p2 p3 : List PV) : c66 (k + 1) p p1 p2 p3 =
 R136 (c136 k p p1 p2 p3 p2) fun b1 =>
 bif !b1 then
  r66 false
 else
  R54 (c54 k (p3.length : Int) 1 6) fun b2 =>
  bif !b2 then
   r66 false
  else L66_1 k k p3 (p3.length : Int) 0 p p1 p2 p3 := by kernel_rfl
theorem sL66_1 (k n : Nat) (t18 : List PV) (t19 t20 n1 n11 : Int) (l l1 : List PV) : L66_1 k (n + 1) t18 t19 t20 n1 n11 l l1 =
 bif decide (t20 < t19) then
  (lookP t18 t20).bind fun p1 =>
  bif p1.shp 2 then
   (p1.atRow 2 0).bind fun l2 =>
   (p1.atRow 2 1).bind fun l3 =>
   R137 (c137 k n1 n11 l l1 l2 l3) fun b1 =>
   bif !b1 then
    r66 false
   else L66_1 k n t18 t19 (IntKind.i64.wrap (t20 + 1)) n1 n11 l l1
  else none
 else r66 true := by kernel_rfl
/-! 67 : impl.isNo -/
theorem n67 (k : Nat) (p p1 : Int) (p2 p3 : List PV) (no : Int) : c67 (k + 1) p p1 p2 p3 no =
 R59 (c59 k p p1 p2 p3) fun b1 =>
 bif b1 then
  bif decide (no ≥ 0) then
   R138 (c138 k p p1 p2 p3) fun v1 =>
   r67 (decide (no < v1))
  else r67 false
 else r67 false := by kernel_rfl
/-! 68 : impl.Program).stateOf -/
theorem n68 (k : Nat) (p p1 : Int) (p2 p3 : List PV) (no : Int) : c68 (k + 1) p p1 p2 p3 no =
 L68_1 k k no 0 p1 0 p p1 p2 p3 [] := by kernel_rfl
theorem sL68_1 (k n : Nat) (no : Int) (outLen : Nat) (t9 t10 n1 n11 : Int) (l l1 xs : List PV) : L68_1 k (n + 1) no outLen t9 t10 n1 n11 l l1 xs =
 bif decide (t10 < t9) then
  bif !decide (IntKind.i64.wrap (n1 * t10) < 0) then
   R88 (c88 k n1) fun v1 =>
   bif decide ((outLen + 1) * 8 ≤ LIM) && decide (outLen + 1 ≤ LIM) then
    L68_1 k n no (outLen + 1) t9 (IntKind.i64.wrap (t10 + 1)) n1 n11 l l1 ((xs.take outLen) ++ [PV.int .u64 (bitsOp .and .u64 (shrI .u64 (IntKind.u64.wrap no) (IntKind.i64.wrap (n1 * t10))) v1)])
   else none
  else none
 else r68 (xs.take outLen) := by kernel_rfl
/-! 69 : spec.l1Cur).pick -/
theorem n69 (k : Nat) (n1 : Int) (l : List PV) (n11 n12 : Int) : c69 (k + 1) n1 l n11 n12 =
 bif decide (n1 ≤ 1) then
  r69 l n11 n12 0
 else
  R139 (c139 k l n11 n12) fun l1 v1 v2 v3 =>
  bif decide (n1 > 200) then
   R139 (c139 k l1 v1 v2) fun l2 v4 v5 v6 =>
   bif !(n1 == 0) then
    r69 l2 v4 v5 ((IntKind.i64.wrap ((IntKind.i64.wrap (v3 * 256)) + v6)).tmod n1)
   else none
  else
   bif !(n1 == 0) then
    r69 l1 v1 v2 (v3.tmod n1)
   else none := by kernel_rfl
/-! 70 : spec.l7Many -/
theorem n70 (k : Nat) (p p1 : Int) (p2 p3 : List PV) : c70 (k + 1) p p1 p2 p3 =
 bif !decide (IntKind.u64.wrap (IntKind.i64.wrap (p * p1)) < 0) then
  r70 (shlI .i64 1 (IntKind.u64.wrap (IntKind.i64.wrap (p * p1))))
 else none := by kernel_rfl
/-! 71 : spec.l7Of -/
theorem n71 (k : Nat) (p p1 : Int) (p2 p3 : List PV) (no : Int) : c71 (k + 1) p p1 p2 p3 no =
 L71_1 k k no 0 0 p p1 p2 p3 [] := by kernel_rfl
theorem sL71_1 (k n : Nat) (no : Int) (outLen : Nat) (v n1 n11 : Int) (l l1 xs : List PV) : L71_1 k (n + 1) no outLen v n1 n11 l l1 xs =
 bif decide (v < n11) then
  bif !decide (IntKind.u64.wrap (IntKind.i64.wrap (v * n1)) < 0) then
   bif !decide (IntKind.u64.wrap n1 < 0) then
    bif decide ((outLen + 1) * 8 ≤ LIM) && decide (outLen + 1 ≤ LIM) then
     L71_1 k n no (outLen + 1) (IntKind.i64.wrap (v + 1)) n1 n11 l l1 ((xs.take outLen) ++ [PV.int .u64 (IntKind.u64.wrap (bitsOp .and .i64 (shrI .i64 no (IntKind.u64.wrap (IntKind.i64.wrap (v * n1)))) (IntKind.i64.wrap ((shlI .i64 1 (IntKind.u64.wrap n1)) - 1))))])
    else none
   else none
  else none
 else r71 (xs.take outLen) := by kernel_rfl
/-! 72 : spec.l1Cur).term -/
theorem n72 (k : Nat) (l : List PV) (n1 n11 : Int) : c72 (k + 1) l n1 n11 =
 R96 (c96 k [PV.int .i64 1, PV.int .i64 2, PV.int .i64 3, PV.int .i64 4, PV.int .i64 8, PV.int .i64 64] l n1 n11) fun l1 v1 v2 v3 =>
 R69 (c69 k 3 l1 v1 v2) fun l2 v4 v5 v6 =>
 R91 (c91 k v3 (IntKind.i64.wrap (1 + v6)) 2 l2 v4 v5) fun l3 v7 v8 l4 =>
 R75 (c75 k 3 l3 v7 v8) fun l5 v9 v10 b1 =>
 bif b1 then
  R73 (c73 k v3 (IntKind.i64.wrap (1 + v6)) 3 l5 v9 v10) fun l6 v11 v12 l7 =>
  R69 (c69 k 40 l6 v11 v12) fun l8 v13 v14 v15 =>
  bif (v15 == 0) then
   bif decide ((0 : Int) < (l7.length : Int)) then
    (l7[0]?).bind fun p1 =>
    (putPart p1 2 1 (PV.int .u64 9223372036854775808) 0).bind fun p2 =>
    r72 l8 v13 v14 v3 (IntKind.i64.wrap (1 + v6)) ((l7.set 0 p2).take l7.length)
   else none
  else
   bif (v15 == 1) then
    bif decide ((0 : Int) ≤ IntKind.i64.wrap ((l7.length : Int) - 1)) && decide (IntKind.i64.wrap ((l7.length : Int) - 1) ≤ (l7.length : Int)) then
     r72 l8 v13 v14 v3 (IntKind.i64.wrap (1 + v6)) (l7.take ((IntKind.i64.wrap ((l7.length : Int) - 1)).toNat))
    else none
   else
    bif (v15 == 2) then
     R96 (c96 k [PV.int .i64 0, PV.int .i64 4, PV.int .i64 5] l8 v13 v14) fun l9 v16 v17 v18 =>
     r72 l9 v16 v17 v3 v18 (l7.take l7.length)
    else
     bif (v15 == 3) then
      R69 (c69 k 23 l8 v13 v14) fun l10 v19 v20 v21 =>
      bif decide ((0 : Int) ≤ IntKind.i64.wrap ((l7.length : Int) - 1)) && decide (IntKind.i64.wrap ((l7.length : Int) - 1) < (l7.length : Int)) then
       (l7[0 + ((IntKind.i64.wrap ((l7.length : Int) - 1)).toNat)]?).bind fun p3 =>
       (putPart p3 2 0 (PV.int .i64 v21) 0).bind fun p4 =>
       r72 l10 v19 v20 v3 (IntKind.i64.wrap (1 + v6)) ((l7.set (0 + ((IntKind.i64.wrap ((l7.length : Int) - 1)).toNat)) p4).take l7.length)
      else none
     else r72 l8 v13 v14 v3 (IntKind.i64.wrap (1 + v6)) (l7.take l7.length)
 else
  R69 (c69 k 40 l5 v9 v10) fun l11 v22 v23 v24 =>
  bif (v24 == 0) then
   bif decide ((0 : Int) < (l4.length : Int)) then
    (l4[0]?).bind fun p5 =>
    (putPart p5 2 1 (PV.int .u64 9223372036854775808) 0).bind fun p6 =>
    r72 l11 v22 v23 v3 (IntKind.i64.wrap (1 + v6)) ((l4.set 0 p6).take l4.length)
   else none
  else
   bif (v24 == 1) then
    bif decide ((0 : Int) ≤ IntKind.i64.wrap ((l4.length : Int) - 1)) && decide (IntKind.i64.wrap ((l4.length : Int) - 1) ≤ (l4.length : Int)) then
     r72 l11 v22 v23 v3 (IntKind.i64.wrap (1 + v6)) (l4.take ((IntKind.i64.wrap ((l4.length : Int) - 1)).toNat))
    else none
   else
    bif (v24 == 2) then
     R96 (c96 k [PV.int .i64 0, PV.int .i64 4, PV.int .i64 5] l11 v22 v23) fun l12 v25 v26 v27 =>
     r72 l12 v25 v26 v3 v27 (l4.take l4.length)
    else
     bif (v24 == 3) then
      R69 (c69 k 23 l11 v22 v23) fun l13 v28 v29 v30 =>
      bif decide ((0 : Int) ≤ IntKind.i64.wrap ((l4.length : Int) - 1)) && decide (IntKind.i64.wrap ((l4.length : Int) - 1) < (l4.length : Int)) then
       (l4[0 + ((IntKind.i64.wrap ((l4.length : Int) - 1)).toNat)]?).bind fun p7 =>
       (putPart p7 2 0 (PV.int .i64 v30) 0).bind fun p8 =>
       r72 l13 v28 v29 v3 (IntKind.i64.wrap (1 + v6)) ((l4.set (0 + ((IntKind.i64.wrap ((l4.length : Int) - 1)).toNat)) p8).take l4.length)
      else none
     else r72 l11 v22 v23 v3 (IntKind.i64.wrap (1 + v6)) (l4.take l4.length) := by kernel_rfl
/-! 73 : spec.l1Cur).number -/
theorem n73 (k : Nat) (wide vars deep : Int) (l : List PV) (n1 n11 : Int) : c73 (k + 1) wide vars deep l n1 n11 =
 bif (deep == 0) then
  R75 (c75 k 2 l n1 n11) fun l1 v1 v2 b1 =>
  bif b1 then
   R69 (c69 k 9 l1 v1 v2) fun l2 v3 v4 v5 =>
   R140 (c140 k wide (IntKind.u64.wrap v5)) fun v6 =>
   r73 l2 v3 v4 [PV.agg [.int .i64 1, .int .u64 v6]]
  else
   R69 (c69 k vars l1 v1 v2) fun l3 v7 v8 v9 =>
   r73 l3 v7 v8 [PV.agg [.int .i64 2, .int .u64 (IntKind.u64.wrap v9)]]
 else
  R75 (c75 k 4 l n1 n11) fun l4 v10 v11 b2 =>
  bif b2 then
   R75 (c75 k 2 l4 v10 v11) fun l5 v12 v13 b3 =>
   bif b3 then
    R69 (c69 k 9 l5 v12 v13) fun l6 v14 v15 v16 =>
    R140 (c140 k wide (IntKind.u64.wrap v16)) fun v17 =>
    r73 l6 v14 v15 [PV.agg [.int .i64 1, .int .u64 v17]]
   else
    R69 (c69 k vars l5 v12 v13) fun l7 v18 v19 v20 =>
    r73 l7 v18 v19 [PV.agg [.int .i64 2, .int .u64 (IntKind.u64.wrap v20)]]
  else
   R75 (c75 k 7 l4 v10 v11) fun l8 v21 v22 b4 =>
   bif b4 then
    R73 (c73 k wide vars (IntKind.i64.wrap (deep - 1)) l8 v21 v22) fun l9 v23 v24 l10 =>
    bif decide ((l10.length + 1) * 16 ≤ LIM) && decide (l10.length + 1 ≤ LIM) then
     r73 l9 v23 v24 (((l10.take l10.length) ++ [PV.agg [.int .i64 13, .int .u64 0]]).take (l10.length + 1))
    else none
   else
    R73 (c73 k wide vars (IntKind.i64.wrap (deep - 1)) l8 v21 v22) fun l11 v25 v26 l12 =>
    R73 (c73 k wide vars (IntKind.i64.wrap (deep - 1)) l11 v25 v26) fun l13 v27 v28 l14 =>
    bif decide ((l12.length + ((l14.take l14.length).length)) * 16 ≤ LIM) && decide (l12.length + ((l14.take l14.length).length) ≤ LIM) then
     R96 (c96 k [PV.int .i64 3, PV.int .i64 3, PV.int .i64 3, PV.int .i64 4, PV.int .i64 4, PV.int .i64 5, PV.int .i64 8, PV.int .i64 9, PV.int .i64 10] l13 v27 v28) fun l15 v29 v30 v31 =>
     R75 (c75 k 6 l15 v29 v30) fun l16 v32 v33 b5 =>
     bif b5 then
      R96 (c96 k [PV.int .i64 6, PV.int .i64 7, PV.int .i64 11, PV.int .i64 12] l16 v32 v33) fun l17 v34 v35 v36 =>
      bif decide (((l12.length + ((l14.take l14.length).length)) + 1) * 16 ≤ LIM) && decide ((l12.length + ((l14.take l14.length).length)) + 1 ≤ LIM) then
       r73 l17 v34 v35 (((((l12.take l12.length) ++ (l14.take l14.length)).take (l12.length + ((l14.take l14.length).length))) ++ [PV.agg [.int .i64 v36, .int .u64 0]]).take ((l12.length + ((l14.take l14.length).length)) + 1))
      else none
     else
      bif decide (((l12.length + ((l14.take l14.length).length)) + 1) * 16 ≤ LIM) && decide ((l12.length + ((l14.take l14.length).length)) + 1 ≤ LIM) then
       r73 l16 v32 v33 (((((l12.take l12.length) ++ (l14.take l14.length)).take (l12.length + ((l14.take l14.length).length))) ++ [PV.agg [.int .i64 v31, .int .u64 0]]).take ((l12.length + ((l14.take l14.length).length)) + 1))
      else none
    else none := by kernel_rfl
/-! 74 : spec.l2One -/
theorem n74 (k : Nat) (n1 : Int) : c74 (k + 1) n1 =
 bif decide (n1 < 1) then
  r74 1
 else r74 n1 := by kernel_rfl
/-! 75 : spec.l1Cur).one -/
theorem n75 (k : Nat) (n1 : Int) (l : List PV) (n11 n12 : Int) : c75 (k + 1) n1 l n11 n12 =
 R69 (c69 k n1 l n11 n12) fun l1 v1 v2 v3 =>
 r75 l1 v1 v2 (v3 == 0) := by kernel_rfl
/-! 76 : impl.Node] -/
theorem n76 (k : Nat) (qs : List PV) (n1 n11 : Int) : c76 (k + 1) qs n1 n11 =
 R141 (c141 k qs n1 n11) fun v1 v2 v3 =>
 r76 v1 v2 (decide (v3 ≥ 0)) := by kernel_rfl
/-! 77 : impl.PutAll$1 -/
theorem n77 (k : Nat) (own : List PV) (n1 n11 : Int) : c77 (k + 1) own n1 n11 =
 R78 (c78 k n1 n11 own 1) fun b1 =>
 r77 n1 n11 (!b1) := by kernel_rfl
/-! 78 : impl.isTermOf -/
theorem n78 (k : Nat) (wide vars : Int) (t : List PV) (kind : Int) : c78 (k + 1) wide vars t kind =
 R25 (c25 k wide vars t) fun b1 =>
 bif b1 then
  R142 (c142 k t) fun v1 =>
  r78 (v1 == kind)
 else r78 false := by kernel_rfl
/-! 79 : impl.checkedTerm -/
theorem n79 (k : Nat) (wide vars : Int) (t : List PV) : c79 (k + 1) wide vars t =
 R25 (c25 k wide vars t) fun b1 =>
 bif !b1 then
  r79 [] false
 else r79 t true := by kernel_rfl
end Go.Proofs.Ytnliglgellapdaa
