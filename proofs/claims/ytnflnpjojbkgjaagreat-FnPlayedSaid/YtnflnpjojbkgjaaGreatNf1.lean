/- Normal forms: printed by nf.py. -/
import Derived.Test.YtnflnpjojbkgjaaGreatCs
set_option linter.unusedVariables false
set_option maxRecDepth 100000
namespace Go.Proofs.YtnflnpjojbkgjaaGreat
open Go.Dp
/-! 98 : impl.varsIn -/
theorem n98 (k : Nat) (t : List PV) : c98 (k + 1) t =
 L98_1 k k 0 t (t.length : Int) 0 [] := by kernel_rfl
theorem sL98_1 (k n : Nat) (outLen : Nat) (t7 : List PV) (t8 t9 : Int) (xs : List PV) : L98_1 k (n + 1) outLen t7 t8 t9 xs =
 bif decide (t9 < t8) then
  (lookP t7 t9).bind fun p1 =>
  bif p1.shp 2 then
   (p1.atInt .i64 0).bind fun n1 =>
   (p1.atInt .u64 1).bind fun n2 =>
   bif (n1 == 2) then
    bif decide ((outLen + 1) * 8 ≤ LIM) && decide (outLen + 1 ≤ LIM) then
     L98_1 k n (outLen + 1) t7 t8 (IntKind.i64.wrap (t9 + 1)) ((xs.take outLen) ++ [PV.int .i64 (IntKind.i64.wrap n2)])
    else none
   else L98_1 k n outLen t7 t8 (IntKind.i64.wrap (t9 + 1)) xs
  else none
 else
  bif decide (outLen ≤ LIM) then
   (intsOf (xs.take outLen)).bind fun zs1 =>
   bif decide (outLen ≤ LIM) then
    (intsOf ((((sortI zs1).map (PV.int .i64)) ++ (xs.drop outLen)).take outLen)).bind fun zs2 =>
    r98 (((((compI zs2).map (PV.int .i64)) ++ (List.replicate (outLen - (compI zs2).length) (PV.int .i64 0))) ++ ((((sortI zs1).map (PV.int .i64)) ++ (xs.drop outLen)).drop outLen)).take ((compI zs2).length))
   else none
  else none := by kernel_rfl
/-! 101 : spec.l1In -/
theorem n101 (k : Nat) (n1 lo hi : Int) : c101 (k + 1) n1 lo hi =
 bif decide (n1 ≥ lo) then
  r101 (decide (n1 ≤ hi))
 else r101 false := by kernel_rfl
/-! 104 : impl.isWide -/
theorem n104 (k : Nat) (n1 : Int) : c104 (k + 1) n1 =
 bif decide (n1 ≥ 1) then
  r104 (decide (n1 ≤ 64))
 else r104 false := by kernel_rfl
/-! 105 : impl.mask -/
theorem n105 (k : Nat) (wide : Int) : c105 (k + 1) wide =
 bif !decide (IntKind.i64.wrap (64 - wide) < 0) then
  r105 (shrI .u64 18446744073709551615 (IntKind.i64.wrap (64 - wide)))
 else none := by kernel_rfl
/-! 106 : impl.isStateOf -/
theorem n106 (k : Nat) (p p1 : Int) (p2 p3 qs : List PV) : c106 (k + 1) p p1 p2 p3 qs =
 R44 (c44 k p p1 p2 p3) fun b1 =>
 bif b1 then
  R172 (c172 k p p1 qs) fun b2 =>
  r106 b2
 else r106 false := by kernel_rfl
/-! 107 : impl.Program).holds -/
theorem n107 (k : Nat) (p p1 : Int) (p2 p3 t qs : List PV) : c107 (k + 1) p p1 p2 p3 t qs =
 R173 (c173 k p t qs) fun v1 =>
 r107 (v1 == 1) := by kernel_rfl
/-! 108 : impl.Program).after -/
theorem n108 (k : Nat) (p p1 : Int) (p2 p3 qc qc1 qs : List PV) : c108 (k + 1) p p1 p2 p3 qc qc1 qs =
 R125 (c125 k qs) fun l1 =>
 L108_1 k k qs l1.length qc1 (qc1.length : Int) 0 p p1 p2 p3 l1 := by kernel_rfl
theorem sL108_1 (k n : Nat) (qs : List PV) (outLen : Nat) (t13 : List PV) (t14 t15 n1 n11 : Int) (l l1 xs : List PV) : L108_1 k (n + 1) qs outLen t13 t14 t15 n1 n11 l l1 xs =
 bif decide (t15 < t14) then
  (lookP t13 t15).bind fun p1 =>
  bif p1.shp 2 then
   (p1.atInt .i64 0).bind fun n2 =>
   (p1.atRow 2 1).bind fun l2 =>
   R173 (c173 k n1 l2 qs) fun v1 =>
   bif decide ((0 : Int) ≤ n2) && decide (n2 < (outLen : Int)) then
    (xs[0 + n2.toNat]?).bind fun p2 =>
    L108_1 k n qs outLen t13 t14 (IntKind.i64.wrap (t15 + 1)) n1 n11 l l1 (xs.set (0 + n2.toNat) (PV.int .u64 v1))
   else none
  else none
 else r108 (xs.take outLen) := by kernel_rfl
/-! 124 : spec.l1Cur).stateFor -/
theorem n124 (k : Nat) (p p1 : Int) (p2 p3 l : List PV) (n1 n11 : Int) : c124 (k + 1) p p1 p2 p3 l n1 n11 =
 R178 (c178 k p p1 l n1 n11) fun l1 v1 v2 l2 =>
 R85 (c85 k 30 l1 v1 v2) fun l3 v3 v4 b1 =>
 bif b1 then
  bif decide ((l2.length + 1) * 8 ≤ LIM) && decide (l2.length + 1 ≤ LIM) then
   r124 l3 v3 v4 (((l2.take l2.length) ++ [PV.int .u64 0]).take (l2.length + 1))
  else none
 else r124 l3 v3 v4 (l2.take l2.length) := by kernel_rfl
/-! 125 : slices.Clone[[]uint64,uint64] -/
theorem n125 (k : Nat) (qs : List PV) (h1 : qs.length * 8 ≤ LIM) (h2 : qs.length ≤ LIM) : c125 (k + 1) qs = r125 qs := evF_T (by simp [T, cloneT, clones, lk, h1, h2] <;> rfl)
/-! 126 : spec.l7State -/
theorem n126 (k : Nat) (p p1 : Int) (p2 p3 qs : List PV) : c126 (k + 1) p p1 p2 p3 qs =
 bif ((qs.length : Int) == p1) then
  R179 (c179 k p qs) fun b1 =>
  r126 b1
 else r126 false := by kernel_rfl
/-! 127 : spec.StepBy -/
theorem n127 (k : Nat) (p p1 : Int) (p2 p3 qs : List PV) (k1 : Int) : c127 (k + 1) p p1 p2 p3 qs k1 =
 R51 (c51 k p p1 p2 p3 qs) fun l1 b1 =>
 bif !b1 then
  r127 [] false
 else
  R88 (c88 k l1 k1) fun b2 =>
  bif !b2 then
   r127 [] false
  else
   R180 (c180 k p p1 p2 p3 qs k1) fun l2 =>
   r127 l2 true := by kernel_rfl
/-! 128 : impl.isVars -/
theorem n128 (k : Nat) (n1 : Int) : c128 (k + 1) n1 =
 bif decide (n1 ≥ 1) then
  r128 (decide (n1 ≤ 4))
 else r128 false := by kernel_rfl
/-! 129 : impl.Command] -/
theorem n129 (k : Nat) (qs : List PV) (n1 n11 : Int) (l l1 : List PV) : c129 (k + 1) qs n1 n11 l l1 =
 R181 (c181 k qs n1 n11 l l1) fun v1 v2 l2 l3 v3 =>
 r129 v1 v2 l2 l3 (decide (v3 ≥ 0)) := by kernel_rfl
/-! 130 : impl.GoodProgram$1 -/
theorem n130 (k : Nat) (qc qc1 : List PV) (n1 n11 : Int) (l l1 : List PV) : c130 (k + 1) qc qc1 n1 n11 l l1 =
 R131 (c131 k n1 n11 l l1 qc qc1) fun b1 =>
 r130 n1 n11 l l1 (!b1) := by kernel_rfl
/-! 131 : impl.Program).isCommand -/
theorem n131 (k : Nat) (p p1 : Int) (p2 p3 qc qc1 : List PV) : c131 (k + 1) p p1 p2 p3 qc qc1 =
 R70 (c70 k p p1 p2 p3 qc) fun b1 =>
 bif !b1 then
  r131 false
 else L131_1 k k qc1 (qc1.length : Int) 0 p p1 p2 p3 qc qc1 := by kernel_rfl
theorem sL131_1 (k n : Nat) (t13 : List PV) (t14 t15 n1 n11 : Int) (l l1 l2 l3 : List PV) : L131_1 k (n + 1) t13 t14 t15 n1 n11 l l1 l2 l3 =
 bif decide (t15 < t14) then
  (lookP t13 t15).bind fun p1 =>
  bif p1.shp 2 then
   (p1.atInt .i64 0).bind fun n2 =>
   (p1.atRow 2 1).bind fun l4 =>
   bif decide (n2 < 0) then
    r131 false
   else
    bif decide (n2 ≥ n11) then
     r131 false
    else
     bif decide (t15 > 0) then
      (lookP l3 (IntKind.i64.wrap (t15 - 1))).bind fun p2 =>
      (p2.atInt .i64 0).bind fun n3 =>
      bif decide (n3 ≥ n2) then
       r131 false
      else
       R153 (c153 k n1 n11 l4 1) fun b1 =>
       bif !b1 then
        r131 false
       else L131_1 k n t13 t14 (IntKind.i64.wrap (t15 + 1)) n1 n11 l l1 l2 l3
     else
      R153 (c153 k n1 n11 l4 1) fun b2 =>
      bif !b2 then
       r131 false
      else L131_1 k n t13 t14 (IntKind.i64.wrap (t15 + 1)) n1 n11 l l1 l2 l3
  else none
 else r131 true := by kernel_rfl
/-! 132 : spec.l7Command -/
theorem n132 (k : Nat) (p p1 : Int) (p2 p3 qc qc1 : List PV) : c132 (k + 1) p p1 p2 p3 qc qc1 =
 R74 (c74 k p p1 p2 p3 qc) fun b1 =>
 bif !b1 then
  r132 false
 else
  bif decide ((qc1.length : Int) > p1) then
   r132 false
  else L132_1 k k qc1 (qc1.length : Int) 0 p p1 p2 p3 qc qc1 := by kernel_rfl
theorem sL132_1 (k n : Nat) (t21 : List PV) (t22 t23 n1 n11 : Int) (l l1 l2 l3 : List PV) : L132_1 k (n + 1) t21 t22 t23 n1 n11 l l1 l2 l3 =
 bif decide (t23 < t22) then
  (lookP t21 t23).bind fun p1 =>
  bif p1.shp 2 then
   (p1.atInt .i64 0).bind fun n2 =>
   (p1.atRow 2 1).bind fun l4 =>
   R101 (c101 k n2 0 (IntKind.i64.wrap (n11 - 1))) fun b1 =>
   bif !b1 then
    r132 false
   else
    bif decide (t23 > 0) then
     (lookP l3 (IntKind.i64.wrap (t23 - 1))).bind fun p2 =>
     (p2.atInt .i64 0).bind fun n3 =>
     bif decide (n3 ≥ n2) then
      r132 false
     else
      R155 (c155 k n1 n11 l4) fun v1 =>
      bif (v1 != 1) then
       r132 false
      else L132_1 k n t21 t22 (IntKind.i64.wrap (t23 + 1)) n1 n11 l l1 l2 l3
    else
     R155 (c155 k n1 n11 l4) fun v2 =>
     bif (v2 != 1) then
      r132 false
     else L132_1 k n t21 t22 (IntKind.i64.wrap (t23 + 1)) n1 n11 l l1 l2 l3
  else none
 else r132 true := by kernel_rfl
/-! 133 : spec.l7Holds -/
theorem n133 (k : Nat) (p p1 : Int) (p2 p3 t qs : List PV) : c133 (k + 1) p p1 p2 p3 t qs =
 R182 (c182 k p t (IntKind.i64.wrap ((t.length : Int) - 1)) qs) fun v1 =>
 r133 (v1 == 1) := by kernel_rfl
/-! 134 : spec.l7Enabled -/
theorem n134 (k : Nat) (p p1 : Int) (p2 p3 qs : List PV) : c134 (k + 1) p p1 p2 p3 qs =
 L134_1 k k qs 0 p3 (p3.length : Int) 0 p p1 p2 p3 [] := by kernel_rfl
theorem sL134_1 (k n : Nat) (qs : List PV) (outLen : Nat) (t9 : List PV) (t10 t11 n1 n11 : Int) (l l1 xs : List PV) : L134_1 k (n + 1) qs outLen t9 t10 t11 n1 n11 l l1 xs =
 bif decide (t11 < t10) then
  (lookP t9 t11).bind fun p1 =>
  bif p1.shp 2 then
   (p1.atRow 2 0).bind fun l2 =>
   (p1.atRow 2 1).bind fun l3 =>
   R133 (c133 k n1 n11 l l1 l2 qs) fun b1 =>
   bif b1 then
    bif decide ((outLen + 1) * 8 ≤ LIM) && decide (outLen + 1 ≤ LIM) then
     L134_1 k n qs (outLen + 1) t9 t10 (IntKind.i64.wrap (t11 + 1)) n1 n11 l l1 ((xs.take outLen) ++ [PV.int .i64 t11])
    else none
   else L134_1 k n qs outLen t9 t10 (IntKind.i64.wrap (t11 + 1)) n1 n11 l l1 xs
  else none
 else r134 (xs.take outLen) := by kernel_rfl
/-! 149 : spec.l1Cur).among -/
theorem n149 (k : Nat) (list l : List PV) (n1 n11 : Int) : c149 (k + 1) list l n1 n11 =
 R91 (c91 k (list.length : Int) l n1 n11) fun l1 v1 v2 v3 =>
 (lookP list v3).bind fun p1 =>
 (p1.atInt .i64 0).bind fun n2 =>
 r149 l1 v1 v2 n2 := by kernel_rfl
/-! 150 : spec.l1Cur).progOf -/
theorem n150 (k : Nat) (wide vars : Int) (l : List PV) (n1 n11 : Int) : c150 (k + 1) wide vars l n1 n11 =
 R91 (c91 k 2 l n1 n11) fun l1 v1 v2 v3 =>
 R85 (c85 k 3 l1 v1 v2) fun l2 v4 v5 b1 =>
 bif b1 then
  R151 (c151 k wide vars 1 l2 v4 v5) fun l3 v6 v7 l4 =>
  R91 (c91 k 3 l3 v6 v7) fun l5 v8 v9 v10 =>
  L150_1 k k wide vars (IntKind.i64.wrap (1 + v10)) l5 v8 v9 0 0 [] [] wide vars l4.length 0 l4 []
 else
  R91 (c91 k 3 l2 v4 v5) fun l6 v11 v12 v13 =>
  L150_1 k k wide vars (IntKind.i64.wrap (1 + v13)) l6 v11 v12 0 0 [] [] wide vars 3 0 [PV.agg [.int .i64 2, .int .u64 0], PV.agg [.int .i64 1, .int .u64 (IntKind.u64.wrap v3)], PV.agg [.int .i64 14, .int .u64 0]] [] := by kernel_rfl
theorem sL150_1 (k n : Nat) (wide vars n1 : Int) (l : List PV) (n11 n12 n13 n14 : Int) (l1 l2 : List PV) (n15 n16 : Int) (Len Len1 : Nat) (xs xs1 : List PV) : L150_1 k (n + 1) wide vars n1 l n11 n12 n13 n14 l1 l2 n15 n16 Len Len1 xs xs1 =
 bif decide (n1 > 0) then
  R187 (c187 k wide vars l n11 n12) fun l3 v1 v2 l4 l5 =>
  bif decide (l5.length ≤ l5.length) then
   bif (Len1 == xs1.length) && decide ((Len1 + 1) * 48 ≤ LIM) && decide (Len1 + 1 ≤ LIM) then
    L150_1 k n wide vars (IntKind.i64.wrap (n1 - 1)) l3 v1 v2 n13 n14 l1 l2 n15 n16 Len (Len1 + 1) xs (xs1 ++ [PV.agg [.row 2 0 l4, .row 2 0 (l5.take l5.length)]])
   else none
  else none
 else
  bif (Len1 == xs1.length) then
   r150 l n11 n12 n15 n16 (xs.take Len) (xs1.take Len1)
  else none := by kernel_rfl
/-! 151 : spec.l1Cur).asked -/
theorem n151 (k : Nat) (wide vars deep : Int) (l : List PV) (n1 n11 : Int) : c151 (k + 1) wide vars deep l n1 n11 =
 R85 (c85 k 20 l n1 n11) fun l1 v1 v2 b1 =>
 bif b1 then
  R91 (c91 k 2 l1 v1 v2) fun l2 v3 v4 v5 =>
  r151 l2 v3 v4 [PV.agg [.int .i64 20, .int .u64 (IntKind.u64.wrap v5)]]
 else
  bif decide (deep > 0) then
   R85 (c85 k 4 l1 v1 v2) fun l3 v6 v7 b2 =>
   bif b2 then
    R151 (c151 k wide vars (IntKind.i64.wrap (deep - 1)) l3 v6 v7) fun l4 v8 v9 l5 =>
    bif decide ((l5.length + 1) * 16 ≤ LIM) && decide (l5.length + 1 ≤ LIM) then
     r151 l4 v8 v9 (((l5.take l5.length) ++ [PV.agg [.int .i64 19, .int .u64 0]]).take (l5.length + 1))
    else none
   else
    bif decide (deep > 0) then
     R85 (c85 k 2 l3 v6 v7) fun l6 v10 v11 b3 =>
     bif b3 then
      R151 (c151 k wide vars (IntKind.i64.wrap (deep - 1)) l6 v10 v11) fun l7 v12 v13 l8 =>
      R151 (c151 k wide vars (IntKind.i64.wrap (deep - 1)) l7 v12 v13) fun l9 v14 v15 l10 =>
      bif decide ((l8.length + ((l10.take l10.length).length)) * 16 ≤ LIM) && decide (l8.length + ((l10.take l10.length).length) ≤ LIM) then
       R149 (c149 k [PV.int .i64 17, PV.int .i64 18] l9 v14 v15) fun l11 v16 v17 v18 =>
       bif decide (((l8.length + ((l10.take l10.length).length)) + 1) * 16 ≤ LIM) && decide ((l8.length + ((l10.take l10.length).length)) + 1 ≤ LIM) then
        r151 l11 v16 v17 (((((l8.take l8.length) ++ (l10.take l10.length)).take (l8.length + ((l10.take l10.length).length))) ++ [PV.agg [.int .i64 v18, .int .u64 0]]).take ((l8.length + ((l10.take l10.length).length)) + 1))
       else none
      else none
     else
      R188 (c188 k wide vars 1 l6 v10 v11) fun l12 v19 v20 l13 =>
      R91 (c91 k 2 l12 v19 v20) fun l14 v21 v22 v23 =>
      R188 (c188 k wide vars v23 l14 v21 v22) fun l15 v24 v25 l16 =>
      bif decide ((l13.length + ((l16.take l16.length).length)) * 16 ≤ LIM) && decide (l13.length + ((l16.take l16.length).length) ≤ LIM) then
       R149 (c149 k [PV.int .i64 14, PV.int .i64 15, PV.int .i64 15, PV.int .i64 16] l15 v24 v25) fun l17 v26 v27 v28 =>
       bif decide (((l13.length + ((l16.take l16.length).length)) + 1) * 16 ≤ LIM) && decide ((l13.length + ((l16.take l16.length).length)) + 1 ≤ LIM) then
        r151 l17 v26 v27 (((((l13.take l13.length) ++ (l16.take l16.length)).take (l13.length + ((l16.take l16.length).length))) ++ [PV.agg [.int .i64 v28, .int .u64 0]]).take ((l13.length + ((l16.take l16.length).length)) + 1))
       else none
      else none
    else
     R188 (c188 k wide vars 1 l3 v6 v7) fun l18 v29 v30 l19 =>
     R91 (c91 k 2 l18 v29 v30) fun l20 v31 v32 v33 =>
     R188 (c188 k wide vars v33 l20 v31 v32) fun l21 v34 v35 l22 =>
     bif decide ((l19.length + ((l22.take l22.length).length)) * 16 ≤ LIM) && decide (l19.length + ((l22.take l22.length).length) ≤ LIM) then
      R149 (c149 k [PV.int .i64 14, PV.int .i64 15, PV.int .i64 15, PV.int .i64 16] l21 v34 v35) fun l23 v36 v37 v38 =>
      bif decide (((l19.length + ((l22.take l22.length).length)) + 1) * 16 ≤ LIM) && decide ((l19.length + ((l22.take l22.length).length)) + 1 ≤ LIM) then
       r151 l23 v36 v37 (((((l19.take l19.length) ++ (l22.take l22.length)).take (l19.length + ((l22.take l22.length).length))) ++ [PV.agg [.int .i64 v38, .int .u64 0]]).take ((l19.length + ((l22.take l22.length).length)) + 1))
      else none
     else none
  else
   bif decide (deep > 0) then
    R85 (c85 k 2 l1 v1 v2) fun l24 v39 v40 b4 =>
    bif b4 then
     R151 (c151 k wide vars (IntKind.i64.wrap (deep - 1)) l24 v39 v40) fun l25 v41 v42 l26 =>
     R151 (c151 k wide vars (IntKind.i64.wrap (deep - 1)) l25 v41 v42) fun l27 v43 v44 l28 =>
     bif decide ((l26.length + ((l28.take l28.length).length)) * 16 ≤ LIM) && decide (l26.length + ((l28.take l28.length).length) ≤ LIM) then
      R149 (c149 k [PV.int .i64 17, PV.int .i64 18] l27 v43 v44) fun l29 v45 v46 v47 =>
      bif decide (((l26.length + ((l28.take l28.length).length)) + 1) * 16 ≤ LIM) && decide ((l26.length + ((l28.take l28.length).length)) + 1 ≤ LIM) then
       r151 l29 v45 v46 (((((l26.take l26.length) ++ (l28.take l28.length)).take (l26.length + ((l28.take l28.length).length))) ++ [PV.agg [.int .i64 v47, .int .u64 0]]).take ((l26.length + ((l28.take l28.length).length)) + 1))
      else none
     else none
    else
     R188 (c188 k wide vars 1 l24 v39 v40) fun l30 v48 v49 l31 =>
     R91 (c91 k 2 l30 v48 v49) fun l32 v50 v51 v52 =>
     R188 (c188 k wide vars v52 l32 v50 v51) fun l33 v53 v54 l34 =>
     bif decide ((l31.length + ((l34.take l34.length).length)) * 16 ≤ LIM) && decide (l31.length + ((l34.take l34.length).length) ≤ LIM) then
      R149 (c149 k [PV.int .i64 14, PV.int .i64 15, PV.int .i64 15, PV.int .i64 16] l33 v53 v54) fun l35 v55 v56 v57 =>
      bif decide (((l31.length + ((l34.take l34.length).length)) + 1) * 16 ≤ LIM) && decide ((l31.length + ((l34.take l34.length).length)) + 1 ≤ LIM) then
       r151 l35 v55 v56 (((((l31.take l31.length) ++ (l34.take l34.length)).take (l31.length + ((l34.take l34.length).length))) ++ [PV.agg [.int .i64 v57, .int .u64 0]]).take ((l31.length + ((l34.take l34.length).length)) + 1))
      else none
     else none
   else
    R188 (c188 k wide vars 1 l1 v1 v2) fun l36 v58 v59 l37 =>
    R91 (c91 k 2 l36 v58 v59) fun l38 v60 v61 v62 =>
    R188 (c188 k wide vars v62 l38 v60 v61) fun l39 v63 v64 l40 =>
    bif decide ((l37.length + ((l40.take l40.length).length)) * 16 ≤ LIM) && decide (l37.length + ((l40.take l40.length).length) ≤ LIM) then
     R149 (c149 k [PV.int .i64 14, PV.int .i64 15, PV.int .i64 15, PV.int .i64 16] l39 v63 v64) fun l41 v65 v66 v67 =>
     bif decide (((l37.length + ((l40.take l40.length).length)) + 1) * 16 ≤ LIM) && decide ((l37.length + ((l40.take l40.length).length)) + 1 ≤ LIM) then
      r151 l41 v65 v66 (((((l37.take l37.length) ++ (l40.take l40.length)).take (l37.length + ((l40.take l40.length).length))) ++ [PV.agg [.int .i64 v67, .int .u64 0]]).take ((l37.length + ((l40.take l40.length).length)) + 1))
     else none
    else none := by kernel_rfl
/-! 153 : impl.isTermOf -/
theorem n153 (k : Nat) (wide vars : Int) (t : List PV) (kind : Int) : c153 (k + 1) wide vars t kind =
 R82 (c82 k wide vars t) fun b1 =>
 bif b1 then
  R83 (c83 k t) fun v1 =>
  r153 (v1 == kind)
 else r153 false := by kernel_rfl
/-! 155 : spec.l2Kind -/
theorem n155 (k : Nat) (wide vars : Int) (t : List PV) : c155 (k + 1) wide vars t =
 R189 (c189 k wide) fun b1 =>
 bif !b1 then
  r155 0
 else
  R101 (c101 k vars 1 4) fun b2 =>
  bif !b2 then
   r155 0
  else
   R101 (c101 k (t.length : Int) 1 48) fun b3 =>
   bif !b3 then
    r155 0
   else L155_1 k k wide vars 0 t (t.length : Int) 0 [] := by kernel_rfl
theorem sL155_1 (k n : Nat) (wide vars : Int) (pileLen : Nat) (t27 : List PV) (t28 t29 : Int) (xs : List PV) : L155_1 k (n + 1) wide vars pileLen t27 t28 t29 xs =
 bif decide (t29 < t28) then
  (lookP t27 t29).bind fun p1 =>
  bif p1.shp 2 then
   (p1.atInt .i64 0).bind fun n1 =>
   (p1.atInt .u64 1).bind fun n2 =>
   R185 (c185 k n1) fun v1 v2 v3 =>
   bif (v3 == 0) then
    r155 0
   else
    R190 (c190 k wide vars n1 n2) fun b1 =>
    bif !b1 then
     r155 0
    else
     bif decide ((pileLen : Int) < v1) then
      r155 0
     else L155_2 k n k wide vars pileLen v1 v2 v3 t27 t28 t29 xs
  else none
 else
  bif ((pileLen : Int) != 1) then
   r155 0
  else
   bif decide ((0 : Int) < (pileLen : Int)) then
    (xs[0]?).bind fun p2 =>
    (p2.atInt .i64 0).bind fun n3 =>
    r155 n3
   else none := by kernel_rfl
theorem sL155_2 (k n1 n : Nat) (wide vars : Int) (pileLen : Nat) (many part own : Int) (t27 : List PV) (t28 t29 : Int) (xs : List PV) : L155_2 k n1 (n + 1) wide vars pileLen many part own t27 t28 t29 xs =
 bif decide (many > 0) then
  bif decide ((0 : Int) ≤ IntKind.i64.wrap ((pileLen : Int) - 1)) && decide (IntKind.i64.wrap ((pileLen : Int) - 1) < (pileLen : Int)) then
   (xs[0 + ((IntKind.i64.wrap ((pileLen : Int) - 1)).toNat)]?).bind fun p1 =>
   (p1.atInt .i64 0).bind fun n2 =>
   bif (n2 != part) then
    r155 0
   else
    bif decide ((0 : Int) ≤ IntKind.i64.wrap ((pileLen : Int) - 1)) && decide (IntKind.i64.wrap ((pileLen : Int) - 1) ≤ (pileLen : Int)) then
     L155_2 k n1 n wide vars ((IntKind.i64.wrap ((pileLen : Int) - 1)).toNat) (IntKind.i64.wrap (many - 1)) part own t27 t28 t29 xs
    else none
  else none
 else
  bif decide ((pileLen + 1) * 8 ≤ LIM) && decide (pileLen + 1 ≤ LIM) then
   L155_1 k n1 wide vars (pileLen + 1) t27 t28 (IntKind.i64.wrap (t29 + 1)) ((xs.take pileLen) ++ [PV.int .i64 own])
  else none := by kernel_rfl
/-! 163 : impl.operandsOf -/
theorem n163 (k : Nat) (op : Int) : c163 (k + 1) op =
 bif (op == 1) then
  r163 0 0 1
 else
  bif (op == 2) then
   r163 0 0 1
  else
   bif (op == 20) then
    r163 0 0 2
   else
    bif (op == 13) then
     r163 1 1 1
    else
     bif (op == 19) then
      r163 1 2 2
     else
      bif decide (op ≥ 3) then
       bif decide (op ≤ 12) then
        r163 2 1 1
       else
        bif decide (op ≥ 14) then
         bif decide (op ≤ 16) then
          r163 2 1 2
         else
          bif (op == 17) then
           r163 2 2 2
          else
           bif (op == 18) then
            r163 2 2 2
           else r163 0 0 0
        else
         bif (op == 17) then
          r163 2 2 2
         else
          bif (op == 18) then
           r163 2 2 2
          else r163 0 0 0
      else
       bif decide (op ≥ 14) then
        bif decide (op ≤ 16) then
         r163 2 1 2
        else
         bif (op == 17) then
          r163 2 2 2
         else
          bif (op == 18) then
           r163 2 2 2
          else r163 0 0 0
       else
        bif (op == 17) then
         r163 2 2 2
        else
         bif (op == 18) then
          r163 2 2 2
         else r163 0 0 0 := by kernel_rfl
/-! 164 : impl.isLeafRight -/
theorem n164 (k : Nat) (wide vars x x1 : Int) : c164 (k + 1) wide vars x x1 =
 bif (x == 1) then
  R194 (c194 k wide x1) fun b1 =>
  r164 b1
 else
  bif (x == 2) then
   r164 (decide (x1 < IntKind.u64.wrap vars))
  else
   bif (x == 20) then
    r164 (decide (x1 ≤ 1))
   else r164 (x1 == 0) := by kernel_rfl
/-! 165 : impl.GoodTerm$1 -/
theorem n165 (k : Nat) (own n1 : Int) : c165 (k + 1) own n1 =
 r165 n1 (own != n1) := by kernel_rfl
/-! 167 : spec.l1Cur).next -/
theorem n167 (k : Nat) (l : List PV) (n1 n11 : Int) : c167 (k + 1) l n1 n11 =
 bif decide (n1 < (l.length : Int)) then
  (lookP l n1).bind fun p1 =>
  (p1.atInt .u8 0).bind fun n2 =>
  bif decide (IntKind.i64.wrap (n1 + 1) ≤ (l.length : Int)) then
   r167 l (IntKind.i64.wrap (n1 + 1)) (IntKind.u64.wrap ((IntKind.u64.wrap ((IntKind.u64.wrap (n11 * 6364136223846793005)) + (IntKind.u64.wrap (IntKind.i64.wrap n2)))) + 1442695040888963407)) (IntKind.i64.wrap n2)
  else r167 l (IntKind.i64.wrap (n1 + 1)) (IntKind.u64.wrap ((IntKind.u64.wrap ((IntKind.u64.wrap (n11 * 6364136223846793005)) + (IntKind.u64.wrap (IntKind.i64.wrap n2)))) + 1442695040888963407)) (IntKind.i64.wrap (bitsOp .and .u64 (shrI .u64 (IntKind.u64.wrap ((IntKind.u64.wrap ((IntKind.u64.wrap (n11 * 6364136223846793005)) + (IntKind.u64.wrap (IntKind.i64.wrap n2)))) + 1442695040888963407)) 40) 255))
 else
  bif decide (IntKind.i64.wrap (n1 + 1) ≤ (l.length : Int)) then
   r167 l (IntKind.i64.wrap (n1 + 1)) (IntKind.u64.wrap ((IntKind.u64.wrap ((IntKind.u64.wrap (n11 * 6364136223846793005)) + 0)) + 1442695040888963407)) 0
  else r167 l (IntKind.i64.wrap (n1 + 1)) (IntKind.u64.wrap ((IntKind.u64.wrap ((IntKind.u64.wrap (n11 * 6364136223846793005)) + 0)) + 1442695040888963407)) (IntKind.i64.wrap (bitsOp .and .u64 (shrI .u64 (IntKind.u64.wrap ((IntKind.u64.wrap ((IntKind.u64.wrap (n11 * 6364136223846793005)) + 0)) + 1442695040888963407)) 40) 255)) := by kernel_rfl
/-! 168 : slices.IndexFunc[[]int,int] -/
theorem n168 (k : Nat) (qs : List PV) (n1 : Int) : c168 (k + 1) qs n1 =
 L168_1 k k qs (qs.length : Int) 0 n1 := by kernel_rfl
theorem sL168_1 (k n : Nat) (qs : List PV) (t7 t8 n1 : Int) : L168_1 k (n + 1) qs t7 t8 n1 =
 bif decide (t8 < t7) then
  (lookP qs t8).bind fun p1 =>
  (p1.atInt .i64 0).bind fun n2 =>
  R165 (c165 k n2 n1) fun v1 b1 =>
  bif b1 then
   r168 v1 t8
  else L168_1 k n qs t7 (IntKind.i64.wrap (t8 + 1)) v1
 else r168 n1 (-1) := by kernel_rfl
/-! 172 : impl.isState -/
theorem n172 (k : Nat) (wide vars : Int) (state : List PV) : c172 (k + 1) wide vars state =
 R104 (c104 k wide) fun b1 =>
 bif b1 then
  R128 (c128 k vars) fun b2 =>
  bif b2 then
   bif ((state.length : Int) == vars) then
    R206 (c206 k state wide) fun v1 b3 =>
    r172 (!b3)
   else r172 false
  else r172 false
 else r172 false := by kernel_rfl
end Go.Proofs.YtnflnpjojbkgjaaGreat
