/- Normal forms: printed by nf.py. -/
import Derived.Test.YtocmjgfbcpgaoaaCs
set_option linter.unusedVariables false
set_option maxRecDepth 100000
namespace Go.Proofs.Ytocmjgfbcpgaoaa
open Go.Dp
/-! 29 : spec.l2Vars -/
theorem n29 (k : Nat) (t : List PV) : c29 (k + 1) t =
 L29_1 k k 0 t (t.length : Int) 0 [] := by kernel_rfl
theorem sL29_1 (k n : Nat) (outLen : Nat) (t6 : List PV) (t7 t8 : Int) (xs : List PV) : L29_1 k (n + 1) outLen t6 t7 t8 xs =
 bif decide (t8 < t7) then
  (lookP t6 t8).bind fun p1 =>
  bif p1.shp 2 then
   (p1.atInt .i64 0).bind fun n1 =>
   (p1.atInt .u64 1).bind fun n2 =>
   bif (n1 == 2) then
    R56 (c56 k (xs.take outLen) (IntKind.i64.wrap n2)) fun l1 =>
    L29_2 k n l1 t6 t7 (IntKind.i64.wrap (t8 + 1))
   else L29_1 k n outLen t6 t7 (IntKind.i64.wrap (t8 + 1)) xs
  else none
 else r29 (xs.take outLen) := by kernel_rfl
theorem sL29_2 (k n : Nat) (out t6 : List PV) (t7 t8 : Int) : L29_2 k (n + 1) out t6 t7 t8 =
 bif decide (t8 < t7) then
  (lookP t6 t8).bind fun p1 =>
  bif p1.shp 2 then
   (p1.atInt .i64 0).bind fun n1 =>
   (p1.atInt .u64 1).bind fun n2 =>
   bif (n1 == 2) then
    R56 (c56 k out (IntKind.i64.wrap n2)) fun l1 =>
    L29_2 k n l1 t6 t7 (IntKind.i64.wrap (t8 + 1))
   else L29_2 k n out t6 t7 (IntKind.i64.wrap (t8 + 1))
  else none
 else r29 out := by kernel_rfl
/-! 30 : spec.l1Cur).among -/
theorem n30 (k : Nat) (list l : List PV) (n1 n11 : Int) : c30 (k + 1) list l n1 n11 =
 R31 (c31 k (list.length : Int) l n1 n11) fun l1 v1 v2 v3 =>
 (lookP list v3).bind fun p1 =>
 (p1.atInt .i64 0).bind fun n2 =>
 r30 l1 v1 v2 n2 := by kernel_rfl
/-! 31 : spec.l1Cur).pick -/
theorem n31 (k : Nat) (n1 : Int) (l : List PV) (n11 n12 : Int) : c31 (k + 1) n1 l n11 n12 =
 bif decide (n1 ≤ 1) then
  r31 l n11 n12 0
 else
  R57 (c57 k l n11 n12) fun l1 v1 v2 v3 =>
  bif decide (n1 > 200) then
   R57 (c57 k l1 v1 v2) fun l2 v4 v5 v6 =>
   bif !(n1 == 0) then
    r31 l2 v4 v5 ((IntKind.i64.wrap ((IntKind.i64.wrap (v3 * 256)) + v6)).tmod n1)
   else none
  else
   bif !(n1 == 0) then
    r31 l1 v1 v2 (v3.tmod n1)
   else none := by kernel_rfl
/-! 32 : spec.l1Cur).asked -/
theorem n32 (k : Nat) (wide vars deep : Int) (l : List PV) (n1 n11 : Int) : c32 (k + 1) wide vars deep l n1 n11 =
 R33 (c33 k 20 l n1 n11) fun l1 v1 v2 b1 =>
 bif b1 then
  R31 (c31 k 2 l1 v1 v2) fun l2 v3 v4 v5 =>
  r32 l2 v3 v4 [PV.agg [.int .i64 20, .int .u64 (IntKind.u64.wrap v5)]]
 else
  bif decide (deep > 0) then
   R33 (c33 k 4 l1 v1 v2) fun l3 v6 v7 b2 =>
   bif b2 then
    R32 (c32 k wide vars (IntKind.i64.wrap (deep - 1)) l3 v6 v7) fun l4 v8 v9 l5 =>
    bif decide ((l5.length + 1) * 16 ≤ LIM) && decide (l5.length + 1 ≤ LIM) then
     r32 l4 v8 v9 (((l5.take l5.length) ++ [PV.agg [.int .i64 19, .int .u64 0]]).take (l5.length + 1))
    else none
   else
    bif decide (deep > 0) then
     R33 (c33 k 2 l3 v6 v7) fun l6 v10 v11 b3 =>
     bif b3 then
      R32 (c32 k wide vars (IntKind.i64.wrap (deep - 1)) l6 v10 v11) fun l7 v12 v13 l8 =>
      R32 (c32 k wide vars (IntKind.i64.wrap (deep - 1)) l7 v12 v13) fun l9 v14 v15 l10 =>
      bif decide ((l8.length + ((l10.take l10.length).length)) * 16 ≤ LIM) && decide (l8.length + ((l10.take l10.length).length) ≤ LIM) then
       R30 (c30 k [PV.int .i64 17, PV.int .i64 18] l9 v14 v15) fun l11 v16 v17 v18 =>
       bif decide (((l8.length + ((l10.take l10.length).length)) + 1) * 16 ≤ LIM) && decide ((l8.length + ((l10.take l10.length).length)) + 1 ≤ LIM) then
        r32 l11 v16 v17 (((((l8.take l8.length) ++ (l10.take l10.length)).take (l8.length + ((l10.take l10.length).length))) ++ [PV.agg [.int .i64 v18, .int .u64 0]]).take ((l8.length + ((l10.take l10.length).length)) + 1))
       else none
      else none
     else
      R34 (c34 k wide vars 1 l6 v10 v11) fun l12 v19 v20 l13 =>
      R31 (c31 k 2 l12 v19 v20) fun l14 v21 v22 v23 =>
      R34 (c34 k wide vars v23 l14 v21 v22) fun l15 v24 v25 l16 =>
      bif decide ((l13.length + ((l16.take l16.length).length)) * 16 ≤ LIM) && decide (l13.length + ((l16.take l16.length).length) ≤ LIM) then
       R30 (c30 k [PV.int .i64 14, PV.int .i64 15, PV.int .i64 15, PV.int .i64 16] l15 v24 v25) fun l17 v26 v27 v28 =>
       bif decide (((l13.length + ((l16.take l16.length).length)) + 1) * 16 ≤ LIM) && decide ((l13.length + ((l16.take l16.length).length)) + 1 ≤ LIM) then
        r32 l17 v26 v27 (((((l13.take l13.length) ++ (l16.take l16.length)).take (l13.length + ((l16.take l16.length).length))) ++ [PV.agg [.int .i64 v28, .int .u64 0]]).take ((l13.length + ((l16.take l16.length).length)) + 1))
       else none
      else none
    else
     R34 (c34 k wide vars 1 l3 v6 v7) fun l18 v29 v30 l19 =>
     R31 (c31 k 2 l18 v29 v30) fun l20 v31 v32 v33 =>
     R34 (c34 k wide vars v33 l20 v31 v32) fun l21 v34 v35 l22 =>
     bif decide ((l19.length + ((l22.take l22.length).length)) * 16 ≤ LIM) && decide (l19.length + ((l22.take l22.length).length) ≤ LIM) then
      R30 (c30 k [PV.int .i64 14, PV.int .i64 15, PV.int .i64 15, PV.int .i64 16] l21 v34 v35) fun l23 v36 v37 v38 =>
      bif decide (((l19.length + ((l22.take l22.length).length)) + 1) * 16 ≤ LIM) && decide ((l19.length + ((l22.take l22.length).length)) + 1 ≤ LIM) then
       r32 l23 v36 v37 (((((l19.take l19.length) ++ (l22.take l22.length)).take (l19.length + ((l22.take l22.length).length))) ++ [PV.agg [.int .i64 v38, .int .u64 0]]).take ((l19.length + ((l22.take l22.length).length)) + 1))
      else none
     else none
  else
   bif decide (deep > 0) then
    R33 (c33 k 2 l1 v1 v2) fun l24 v39 v40 b4 =>
    bif b4 then
     R32 (c32 k wide vars (IntKind.i64.wrap (deep - 1)) l24 v39 v40) fun l25 v41 v42 l26 =>
     R32 (c32 k wide vars (IntKind.i64.wrap (deep - 1)) l25 v41 v42) fun l27 v43 v44 l28 =>
     bif decide ((l26.length + ((l28.take l28.length).length)) * 16 ≤ LIM) && decide (l26.length + ((l28.take l28.length).length) ≤ LIM) then
      R30 (c30 k [PV.int .i64 17, PV.int .i64 18] l27 v43 v44) fun l29 v45 v46 v47 =>
      bif decide (((l26.length + ((l28.take l28.length).length)) + 1) * 16 ≤ LIM) && decide ((l26.length + ((l28.take l28.length).length)) + 1 ≤ LIM) then
       r32 l29 v45 v46 (((((l26.take l26.length) ++ (l28.take l28.length)).take (l26.length + ((l28.take l28.length).length))) ++ [PV.agg [.int .i64 v47, .int .u64 0]]).take ((l26.length + ((l28.take l28.length).length)) + 1))
      else none
     else none
    else
     R34 (c34 k wide vars 1 l24 v39 v40) fun l30 v48 v49 l31 =>
     R31 (c31 k 2 l30 v48 v49) fun l32 v50 v51 v52 =>
     R34 (c34 k wide vars v52 l32 v50 v51) fun l33 v53 v54 l34 =>
     bif decide ((l31.length + ((l34.take l34.length).length)) * 16 ≤ LIM) && decide (l31.length + ((l34.take l34.length).length) ≤ LIM) then
      R30 (c30 k [PV.int .i64 14, PV.int .i64 15, PV.int .i64 15, PV.int .i64 16] l33 v53 v54) fun l35 v55 v56 v57 =>
      bif decide (((l31.length + ((l34.take l34.length).length)) + 1) * 16 ≤ LIM) && decide ((l31.length + ((l34.take l34.length).length)) + 1 ≤ LIM) then
       r32 l35 v55 v56 (((((l31.take l31.length) ++ (l34.take l34.length)).take (l31.length + ((l34.take l34.length).length))) ++ [PV.agg [.int .i64 v57, .int .u64 0]]).take ((l31.length + ((l34.take l34.length).length)) + 1))
      else none
     else none
   else
    R34 (c34 k wide vars 1 l1 v1 v2) fun l36 v58 v59 l37 =>
    R31 (c31 k 2 l36 v58 v59) fun l38 v60 v61 v62 =>
    R34 (c34 k wide vars v62 l38 v60 v61) fun l39 v63 v64 l40 =>
    bif decide ((l37.length + ((l40.take l40.length).length)) * 16 ≤ LIM) && decide (l37.length + ((l40.take l40.length).length) ≤ LIM) then
     R30 (c30 k [PV.int .i64 14, PV.int .i64 15, PV.int .i64 15, PV.int .i64 16] l39 v63 v64) fun l41 v65 v66 v67 =>
     bif decide (((l37.length + ((l40.take l40.length).length)) + 1) * 16 ≤ LIM) && decide ((l37.length + ((l40.take l40.length).length)) + 1 ≤ LIM) then
      r32 l41 v65 v66 (((((l37.take l37.length) ++ (l40.take l40.length)).take (l37.length + ((l40.take l40.length).length))) ++ [PV.agg [.int .i64 v67, .int .u64 0]]).take ((l37.length + ((l40.take l40.length).length)) + 1))
     else none
    else none := by kernel_rfl
/-! 33 : spec.l1Cur).one -/
theorem n33 (k : Nat) (n1 : Int) (l : List PV) (n11 n12 : Int) : c33 (k + 1) n1 l n11 n12 =
 R31 (c31 k n1 l n11 n12) fun l1 v1 v2 v3 =>
 r33 l1 v1 v2 (v3 == 0) := by kernel_rfl
/-! 34 : spec.l1Cur).number -/
theorem n34 (k : Nat) (wide vars deep : Int) (l : List PV) (n1 n11 : Int) : c34 (k + 1) wide vars deep l n1 n11 =
 bif (deep == 0) then
  R33 (c33 k 2 l n1 n11) fun l1 v1 v2 b1 =>
  bif b1 then
   R31 (c31 k 9 l1 v1 v2) fun l2 v3 v4 v5 =>
   R50 (c50 k wide (IntKind.u64.wrap v5)) fun v6 =>
   r34 l2 v3 v4 [PV.agg [.int .i64 1, .int .u64 v6]]
  else
   R31 (c31 k vars l1 v1 v2) fun l3 v7 v8 v9 =>
   r34 l3 v7 v8 [PV.agg [.int .i64 2, .int .u64 (IntKind.u64.wrap v9)]]
 else
  R33 (c33 k 4 l n1 n11) fun l4 v10 v11 b2 =>
  bif b2 then
   R33 (c33 k 2 l4 v10 v11) fun l5 v12 v13 b3 =>
   bif b3 then
    R31 (c31 k 9 l5 v12 v13) fun l6 v14 v15 v16 =>
    R50 (c50 k wide (IntKind.u64.wrap v16)) fun v17 =>
    r34 l6 v14 v15 [PV.agg [.int .i64 1, .int .u64 v17]]
   else
    R31 (c31 k vars l5 v12 v13) fun l7 v18 v19 v20 =>
    r34 l7 v18 v19 [PV.agg [.int .i64 2, .int .u64 (IntKind.u64.wrap v20)]]
  else
   R33 (c33 k 7 l4 v10 v11) fun l8 v21 v22 b4 =>
   bif b4 then
    R34 (c34 k wide vars (IntKind.i64.wrap (deep - 1)) l8 v21 v22) fun l9 v23 v24 l10 =>
    bif decide ((l10.length + 1) * 16 ≤ LIM) && decide (l10.length + 1 ≤ LIM) then
     r34 l9 v23 v24 (((l10.take l10.length) ++ [PV.agg [.int .i64 13, .int .u64 0]]).take (l10.length + 1))
    else none
   else
    R34 (c34 k wide vars (IntKind.i64.wrap (deep - 1)) l8 v21 v22) fun l11 v25 v26 l12 =>
    R34 (c34 k wide vars (IntKind.i64.wrap (deep - 1)) l11 v25 v26) fun l13 v27 v28 l14 =>
    bif decide ((l12.length + ((l14.take l14.length).length)) * 16 ≤ LIM) && decide (l12.length + ((l14.take l14.length).length) ≤ LIM) then
     R30 (c30 k [PV.int .i64 3, PV.int .i64 3, PV.int .i64 3, PV.int .i64 4, PV.int .i64 4, PV.int .i64 5, PV.int .i64 8, PV.int .i64 9, PV.int .i64 10] l13 v27 v28) fun l15 v29 v30 v31 =>
     R33 (c33 k 6 l15 v29 v30) fun l16 v32 v33 b5 =>
     bif b5 then
      R30 (c30 k [PV.int .i64 6, PV.int .i64 7, PV.int .i64 11, PV.int .i64 12] l16 v32 v33) fun l17 v34 v35 v36 =>
      bif decide (((l12.length + ((l14.take l14.length).length)) + 1) * 16 ≤ LIM) && decide ((l12.length + ((l14.take l14.length).length)) + 1 ≤ LIM) then
       r34 l17 v34 v35 (((((l12.take l12.length) ++ (l14.take l14.length)).take (l12.length + ((l14.take l14.length).length))) ++ [PV.agg [.int .i64 v36, .int .u64 0]]).take ((l12.length + ((l14.take l14.length).length)) + 1))
      else none
     else
      bif decide (((l12.length + ((l14.take l14.length).length)) + 1) * 16 ≤ LIM) && decide ((l12.length + ((l14.take l14.length).length)) + 1 ≤ LIM) then
       r34 l16 v32 v33 (((((l12.take l12.length) ++ (l14.take l14.length)).take (l12.length + ((l14.take l14.length).length))) ++ [PV.agg [.int .i64 v31, .int .u64 0]]).take ((l12.length + ((l14.take l14.length).length)) + 1))
      else none
    else none := by kernel_rfl
/-! 35 : spec.l1Cur).word -/
theorem n35 (k : Nat) (wide : Int) (l : List PV) (n1 n11 : Int) : c35 (k + 1) wide l n1 n11 =
 R31 (c31 k 5 l n1 n11) fun l1 v1 v2 v3 =>
 R31 (c31 k 5 l1 v1 v2) fun l2 v4 v5 v6 =>
 bif (v6 == 0) then
  R58 (c58 k l2 v4 v5) fun l3 v7 v8 v9 =>
  R33 (c33 k 30 l3 v7 v8) fun l4 v10 v11 b1 =>
  bif b1 then
   r35 l4 v10 v11 v9
  else
   R50 (c50 k wide v9) fun v12 =>
   r35 l4 v10 v11 v12
 else
  bif (v6 == 1) then
   R31 (c31 k 3 l2 v4 v5) fun l5 v13 v14 v15 =>
   R33 (c33 k 30 l5 v13 v14) fun l6 v16 v17 b2 =>
   bif b2 then
    r35 l6 v16 v17 (IntKind.u64.wrap (18446744073709551615 - (IntKind.u64.wrap v15)))
   else
    R50 (c50 k wide (IntKind.u64.wrap (18446744073709551615 - (IntKind.u64.wrap v15)))) fun v18 =>
    r35 l6 v16 v17 v18
  else
   bif (v6 == 2) then
    R31 (c31 k 64 l2 v4 v5) fun l7 v19 v20 v21 =>
    bif !decide (IntKind.u64.wrap v21 < 0) then
     R33 (c33 k 30 l7 v19 v20) fun l8 v22 v23 b3 =>
     bif b3 then
      r35 l8 v22 v23 (shlI .u64 1 (IntKind.u64.wrap v21))
     else
      R50 (c50 k wide (shlI .u64 1 (IntKind.u64.wrap v21))) fun v24 =>
      r35 l8 v22 v23 v24
    else none
   else
    R33 (c33 k 30 l2 v4 v5) fun l9 v25 v26 b4 =>
    bif b4 then
     r35 l9 v25 v26 (IntKind.u64.wrap v3)
    else
     R50 (c50 k wide (IntKind.u64.wrap v3)) fun v27 =>
     r35 l9 v25 v26 v27 := by kernel_rfl
/-! 36 : impl.isWide -/
theorem n36 (k : Nat) (n1 : Int) : c36 (k + 1) n1 =
 bif decide (n1 ≥ 1) then
  r36 (decide (n1 ≤ 64))
 else r36 false := by kernel_rfl
/-! 37 : impl.isVars -/
theorem n37 (k : Nat) (n1 : Int) : c37 (k + 1) n1 =
 bif decide (n1 ≥ 1) then
  r37 (decide (n1 ≤ 4))
 else r37 false := by kernel_rfl
/-! 38 : slices.ContainsFunc[[]uint64,uint64] -/
theorem n38 (k : Nat) (qs : List PV) (n1 : Int) : c38 (k + 1) qs n1 =
 R59 (c59 k qs n1) fun v1 v2 =>
 r38 v1 (decide (v2 ≥ 0)) := by kernel_rfl
/-! 39 : impl.isState$1 -/
theorem n39 (k : Nat) (a n1 : Int) : c39 (k + 1) a n1 =
 R40 (c40 k n1 a) fun b1 =>
 r39 n1 (!b1) := by kernel_rfl
/-! 40 : impl.GoodWord -/
theorem n40 (k : Nat) (wide a : Int) : c40 (k + 1) wide a =
 R36 (c36 k wide) fun b1 =>
 bif b1 then
  R45 (c45 k wide) fun v1 =>
  r40 (decide (a ≤ v1))
 else r40 false := by kernel_rfl
/-! 41 : impl.operandsOf -/
theorem n41 (k : Nat) (op : Int) : c41 (k + 1) op =
 bif (op == 1) then
  r41 0 0 1
 else
  bif (op == 2) then
   r41 0 0 1
  else
   bif (op == 20) then
    r41 0 0 2
   else
    bif (op == 13) then
     r41 1 1 1
    else
     bif (op == 19) then
      r41 1 2 2
     else
      bif decide (op ≥ 3) then
       bif decide (op ≤ 12) then
        r41 2 1 1
       else
        bif decide (op ≥ 14) then
         bif decide (op ≤ 16) then
          r41 2 1 2
         else
          bif (op == 17) then
           r41 2 2 2
          else
           bif (op == 18) then
            r41 2 2 2
           else r41 0 0 0
        else
         bif (op == 17) then
          r41 2 2 2
         else
          bif (op == 18) then
           r41 2 2 2
          else r41 0 0 0
      else
       bif decide (op ≥ 14) then
        bif decide (op ≤ 16) then
         r41 2 1 2
        else
         bif (op == 17) then
          r41 2 2 2
         else
          bif (op == 18) then
           r41 2 2 2
          else r41 0 0 0
       else
        bif (op == 17) then
         r41 2 2 2
        else
         bif (op == 18) then
          r41 2 2 2
         else r41 0 0 0 := by kernel_rfl
/-! 42 : impl.isLeafRight -/
theorem n42 (k : Nat) (wide vars x x1 : Int) : c42 (k + 1) wide vars x x1 =
 bif (x == 1) then
  R40 (c40 k wide x1) fun b1 =>
  r42 b1
 else
  bif (x == 2) then
   r42 (decide (x1 < IntKind.u64.wrap vars))
  else
   bif (x == 20) then
    r42 (decide (x1 ≤ 1))
   else r42 (x1 == 0) := by kernel_rfl
/-! 43 : slices.ContainsFunc[[]int,int] -/
theorem n43 (k : Nat) (qs : List PV) (n1 : Int) : c43 (k + 1) qs n1 =
 R60 (c60 k qs n1) fun v1 v2 =>
 r43 v1 (decide (v2 ≥ 0)) := by kernel_rfl
/-! 44 : impl.GoodTerm$1 -/
theorem n44 (k : Nat) (own n1 : Int) : c44 (k + 1) own n1 =
 r44 n1 (own != n1) := by kernel_rfl
/-! 45 : impl.mask -/
theorem n45 (k : Nat) (wide : Int) : c45 (k + 1) wide =
 bif !decide (IntKind.i64.wrap (64 - wide) < 0) then
  r45 (shrI .u64 18446744073709551615 (IntKind.i64.wrap (64 - wide)))
 else none := by kernel_rfl
/-! 46 : impl.apply -/
theorem n46 (k : Nat) (wide op a b : Int) : c46 (k + 1) wide op a b =
 bif (op == 3) then
  R45 (c45 k wide) fun v1 =>
  r46 (bitsOp .and .u64 (IntKind.u64.wrap (a + b)) v1)
 else
  bif (op == 4) then
   R45 (c45 k wide) fun v2 =>
   r46 (bitsOp .and .u64 (IntKind.u64.wrap (a - b)) v2)
  else
   bif (op == 5) then
    R45 (c45 k wide) fun v3 =>
    r46 (bitsOp .and .u64 (IntKind.u64.wrap (a * b)) v3)
   else
    bif (op == 6) then
     R61 (c61 k wide a b) fun v4 v5 b1 =>
     R45 (c45 k wide) fun v6 =>
     r46 (bitsOp .and .u64 v4 v6)
    else
     bif (op == 7) then
      R61 (c61 k wide a b) fun v7 v8 b2 =>
      R45 (c45 k wide) fun v9 =>
      r46 (bitsOp .and .u64 v8 v9)
     else
      bif (op == 8) then
       R45 (c45 k wide) fun v10 =>
       r46 (bitsOp .and .u64 (bitsOp .and .u64 a b) v10)
      else
       bif (op == 17) then
        R45 (c45 k wide) fun v11 =>
        r46 (bitsOp .and .u64 (bitsOp .and .u64 a b) v11)
       else
        bif (op == 9) then
         R45 (c45 k wide) fun v12 =>
         r46 (bitsOp .and .u64 (bitsOp .or .u64 a b) v12)
        else
         bif (op == 18) then
          R45 (c45 k wide) fun v13 =>
          r46 (bitsOp .and .u64 (bitsOp .or .u64 a b) v13)
         else
          bif (op == 10) then
           R45 (c45 k wide) fun v14 =>
           r46 (bitsOp .and .u64 (bitsOp .xor .u64 a b) v14)
          else
           bif (op == 11) then
            R62 (c62 k wide a b (op == 11)) fun v15 =>
            R45 (c45 k wide) fun v16 =>
            r46 (bitsOp .and .u64 v15 v16)
           else
            bif (op == 12) then
            R62 (c62 k wide a b (op == 11)) fun v17 =>
            R45 (c45 k wide) fun v18 =>
            r46 (bitsOp .and .u64 v17 v18)
            else
            bif (op == 14) then
            R63 (c63 k (a == b)) fun v19 =>
            R45 (c45 k wide) fun v20 =>
            r46 (bitsOp .and .u64 v19 v20)
            else
            bif (op == 15) then
            R63 (c63 k (decide (a < b))) fun v21 =>
            R45 (c45 k wide) fun v22 =>
            r46 (bitsOp .and .u64 v21 v22)
            else
            bif (op == 16) then
            R64 (c64 k wide a) fun v23 =>
            R64 (c64 k wide b) fun v24 =>
            R63 (c63 k (decide (v23 < v24))) fun v25 =>
            R45 (c45 k wide) fun v26 =>
            r46 (bitsOp .and .u64 v25 v26)
            else
            R45 (c45 k wide) fun v27 =>
            r46 (bitsOp .and .u64 0 v27) := by kernel_rfl
/-! 47 : spec.l2Kind -/
theorem n47 (k : Nat) (wide vars : Int) (t : List PV) : c47 (k + 1) wide vars t =
 R65 (c65 k wide) fun b1 =>
 bif !b1 then
  r47 0
 else
  R66 (c66 k vars 1 4) fun b2 =>
  bif !b2 then
   r47 0
  else
   R66 (c66 k (t.length : Int) 1 48) fun b3 =>
   bif !b3 then
    r47 0
   else L47_1 k k wide vars 0 t (t.length : Int) 0 [] := by kernel_rfl
theorem sL47_1 (k n : Nat) (wide vars : Int) (pileLen : Nat) (t27 : List PV) (t28 t29 : Int) (xs : List PV) : L47_1 k (n + 1) wide vars pileLen t27 t28 t29 xs =
 bif decide (t29 < t28) then
  (lookP t27 t29).bind fun p1 =>
  bif p1.shp 2 then
   (p1.atInt .i64 0).bind fun n1 =>
   (p1.atInt .u64 1).bind fun n2 =>
   R49 (c49 k n1) fun v1 v2 v3 =>
   bif (v3 == 0) then
    r47 0
   else
    R67 (c67 k wide vars n1 n2) fun b1 =>
    bif !b1 then
     r47 0
    else
     bif decide ((pileLen : Int) < v1) then
      r47 0
     else L47_2 k n k wide vars pileLen v1 v2 v3 t27 t28 t29 xs
  else none
 else
  bif ((pileLen : Int) != 1) then
   r47 0
  else
   bif decide ((0 : Int) < (pileLen : Int)) then
    (xs[0]?).bind fun p2 =>
    (p2.atInt .i64 0).bind fun n3 =>
    r47 n3
   else none := by kernel_rfl
theorem sL47_2 (k n1 n : Nat) (wide vars : Int) (pileLen : Nat) (many part own : Int) (t27 : List PV) (t28 t29 : Int) (xs : List PV) : L47_2 k n1 (n + 1) wide vars pileLen many part own t27 t28 t29 xs =
 bif decide (many > 0) then
  bif decide ((0 : Int) ≤ IntKind.i64.wrap ((pileLen : Int) - 1)) && decide (IntKind.i64.wrap ((pileLen : Int) - 1) < (pileLen : Int)) then
   (xs[0 + ((IntKind.i64.wrap ((pileLen : Int) - 1)).toNat)]?).bind fun p1 =>
   (p1.atInt .i64 0).bind fun n2 =>
   bif (n2 != part) then
    r47 0
   else
    bif decide ((0 : Int) ≤ IntKind.i64.wrap ((pileLen : Int) - 1)) && decide (IntKind.i64.wrap ((pileLen : Int) - 1) ≤ (pileLen : Int)) then
     L47_2 k n1 n wide vars ((IntKind.i64.wrap ((pileLen : Int) - 1)).toNat) (IntKind.i64.wrap (many - 1)) part own t27 t28 t29 xs
    else none
  else none
 else
  bif decide ((pileLen + 1) * 8 ≤ LIM) && decide (pileLen + 1 ≤ LIM) then
   L47_1 k n1 wide vars (pileLen + 1) t27 t28 (IntKind.i64.wrap (t29 + 1)) ((xs.take pileLen) ++ [PV.int .i64 own])
  else none := by kernel_rfl
/-! 48 : spec.GoodWord -/
theorem n48 (k : Nat) (wide a : Int) : c48 (k + 1) wide a =
 R65 (c65 k wide) fun b1 =>
 bif b1 then
  R50 (c50 k wide a) fun v1 =>
  r48 (v1 == a)
 else r48 false := by kernel_rfl
/-! 49 : spec.l2Need -/
theorem n49 (k : Nat) (op : Int) : c49 (k + 1) op =
 bif (op == 1) then
  r49 0 1 1
 else
  bif (op == 2) then
   r49 0 1 1
  else
   bif (op == 20) then
    r49 0 2 2
   else
    bif (op == 13) then
     r49 1 1 1
    else
     bif (op == 19) then
      r49 1 2 2
     else
      R66 (c66 k op 3 12) fun b1 =>
      bif b1 then
       r49 2 1 1
      else
       R66 (c66 k op 14 16) fun b2 =>
       bif b2 then
        r49 2 1 2
       else
        bif (op == 17) then
         r49 2 2 2
        else
         bif (op == 18) then
          r49 2 2 2
         else r49 0 0 0 := by kernel_rfl
/-! 50 : spec.l1Cut -/
theorem n50 (k : Nat) (wide a : Int) : c50 (k + 1) wide a =
 L50_1 k k wide a 0 0 := by kernel_rfl
theorem sL50_1 (k n : Nat) (wide a out k1 : Int) : L50_1 k (n + 1) wide a out k1 =
 bif decide (k1 < wide) then
  bif !decide (IntKind.u64.wrap k1 < 0) then
   L50_1 k n wide a (bitsOp .or .u64 out (bitsOp .and .u64 a (shlI .u64 1 (IntKind.u64.wrap k1)))) (IntKind.i64.wrap (k1 + 1))
  else none
 else r50 out := by kernel_rfl
/-! 51 : spec.l2Do -/
theorem n51 (k : Nat) (wide op a b : Int) : c51 (k + 1) wide op a b =
 R68 (c68 k wide a b) fun v1 v2 b1 =>
 bif (op == 3) then
  R50 (c50 k wide (IntKind.u64.wrap (a + b))) fun v3 =>
  r51 v3
 else
  bif (op == 4) then
   R50 (c50 k wide (IntKind.u64.wrap (a - b))) fun v4 =>
   r51 v4
  else
   bif (op == 5) then
    R50 (c50 k wide (IntKind.u64.wrap (a * b))) fun v5 =>
    r51 v5
   else
    bif (op == 6) then
     r51 v1
    else
     bif (op == 7) then
      r51 v2
     else
      bif (op == 8) then
       r51 (bitsOp .and .u64 a b)
      else
       bif (op == 17) then
        r51 (bitsOp .and .u64 a b)
       else
        bif (op == 9) then
         r51 (bitsOp .or .u64 a b)
        else
         bif (op == 18) then
          r51 (bitsOp .or .u64 a b)
         else
          bif (op == 10) then
           r51 (bitsOp .xor .u64 a b)
          else
           bif (op == 11) then
            R69 (c69 k wide a b true) fun v6 =>
            r51 v6
           else
            bif (op == 12) then
            R69 (c69 k wide a b false) fun v7 =>
            r51 v7
            else
            bif (op == 14) then
            R70 (c70 k (a == b)) fun v8 =>
            r51 v8
            else
            bif (op == 15) then
            R70 (c70 k (decide (a < b))) fun v9 =>
            r51 v9
            else
            bif (op == 16) then
            R71 (c71 k wide a) fun v10 =>
            R71 (c71 k wide b) fun v11 =>
            R70 (c70 k (decide (v10 < v11))) fun v12 =>
            r51 v12
            else r51 0 := by kernel_rfl
/-! 52 : spec.l2From -/
theorem n52 (k : Nat) (t : List PV) (k1 : Int) : c52 (k + 1) t k1 =
 (lookP t k1).bind fun p1 =>
 (p1.atInt .i64 0).bind fun n1 =>
 R49 (c49 k n1) fun v1 v2 v3 =>
 L52_1 k k t v1 k1 := by kernel_rfl
theorem sL52_1 (k n : Nat) (t : List PV) (many from1 : Int) : L52_1 k (n + 1) t many from1 =
 bif decide (many > 0) then
  R52 (c52 k t (IntKind.i64.wrap (from1 - 1))) fun v1 =>
  L52_1 k n t (IntKind.i64.wrap (many - 1)) v1
 else r52 from1 := by kernel_rfl
/-! 53 : impl.startOf -/
theorem n53 (k : Nat) (t : List PV) (at1 : Int) : c53 (k + 1) t at1 =
 (lookP t at1).bind fun p1 =>
 (p1.atInt .i64 0).bind fun n1 =>
 R41 (c41 k n1) fun v1 v2 v3 =>
 L53_1 k k t at1 v1 0 := by kernel_rfl
theorem sL53_1 (k n : Nat) (t : List PV) (start t20 t21 : Int) : L53_1 k (n + 1) t start t20 t21 =
 bif decide (t21 < t20) then
  R53 (c53 k t (IntKind.i64.wrap (start - 1))) fun v1 =>
  L53_1 k n t v1 t20 (IntKind.i64.wrap (t21 + 1))
 else r53 start := by kernel_rfl
end Go.Proofs.Ytocmjgfbcpgaoaa
