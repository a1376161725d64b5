/- Normal forms: printed by nf.py. -/
import Derived.Test.YtnliglgellapdaaCs
set_option linter.unusedVariables false
set_option maxRecDepth 100000
namespace Go.Proofs.Ytnliglgellapdaa
open Go.Dp
/-! 80 : spec.l2Kind -/
theorem n80 (k : Nat) (wide vars : Int) (t : List PV) : c80 (k + 1) wide vars t =
 R143 (c143 k wide) fun b1 =>
 bif !b1 then
  r80 0
 else
  R54 (c54 k vars 1 4) fun b2 =>
  bif !b2 then
   r80 0
  else
   R54 (c54 k (t.length : Int) 1 48) fun b3 =>
   bif !b3 then
    r80 0
   else L80_1 k k wide vars 0 t (t.length : Int) 0 [] := by kernel_rfl
theorem sL80_1 (k n : Nat) (wide vars : Int) (pileLen : Nat) (t27 : List PV) (t28 t29 : Int) (xs : List PV) : L80_1 k (n + 1) wide vars pileLen t27 t28 t29 xs =
 bif decide (t29 < t28) then
  (lookP t27 t29).bind fun p1 =>
  bif p1.shp 2 then
   (p1.atInt .i64 0).bind fun n1 =>
   (p1.atInt .u64 1).bind fun n2 =>
   R93 (c93 k n1) fun v1 v2 v3 =>
   bif (v3 == 0) then
    r80 0
   else
    R144 (c144 k wide vars n1 n2) fun b1 =>
    bif !b1 then
     r80 0
    else
     bif decide ((pileLen : Int) < v1) then
      r80 0
     else L80_2 k n k wide vars pileLen v1 v2 v3 t27 t28 t29 xs
  else none
 else
  bif ((pileLen : Int) != 1) then
   r80 0
  else
   bif decide ((0 : Int) < (pileLen : Int)) then
    (xs[0]?).bind fun p2 =>
    (p2.atInt .i64 0).bind fun n3 =>
    r80 n3
   else none := by kernel_rfl
theorem sL80_2 (k n1 n : Nat) (wide vars : Int) (pileLen : Nat) (many part own : Int) (t27 : List PV) (t28 t29 : Int) (xs : List PV) : L80_2 k n1 (n + 1) wide vars pileLen many part own t27 t28 t29 xs =
 bif decide (many > 0) then
  bif decide ((0 : Int) ≤ IntKind.i64.wrap ((pileLen : Int) - 1)) && decide (IntKind.i64.wrap ((pileLen : Int) - 1) < (pileLen : Int)) then
   (xs[0 + ((IntKind.i64.wrap ((pileLen : Int) - 1)).toNat)]?).bind fun p1 =>
   (p1.atInt .i64 0).bind fun n2 =>
   bif (n2 != part) then
    r80 0
   else
    bif decide ((0 : Int) ≤ IntKind.i64.wrap ((pileLen : Int) - 1)) && decide (IntKind.i64.wrap ((pileLen : Int) - 1) ≤ (pileLen : Int)) then
     L80_2 k n1 n wide vars ((IntKind.i64.wrap ((pileLen : Int) - 1)).toNat) (IntKind.i64.wrap (many - 1)) part own t27 t28 t29 xs
    else none
  else none
 else
  bif decide ((pileLen + 1) * 8 ≤ LIM) && decide (pileLen + 1 ≤ LIM) then
   L80_1 k n1 wide vars (pileLen + 1) t27 t28 (IntKind.i64.wrap (t29 + 1)) ((xs.take pileLen) ++ [PV.int .i64 own])
  else none := by kernel_rfl
/-! 81 : spec.l2Made -/
theorem n81 (k : Nat) (wide vars : Int) (t : List PV) : c81 (k + 1) wide vars t =
 R26 (c26 k wide vars t) fun b1 =>
 bif !b1 then
  r81 [] false
 else r81 t true := by kernel_rfl
/-! 82 : impl.isWide -/
theorem n82 (k : Nat) (n1 : Int) : c82 (k + 1) n1 =
 bif decide (n1 ≥ 1) then
  r82 (decide (n1 ≤ 64))
 else r82 false := by kernel_rfl
/-! 83 : impl.isVars -/
theorem n83 (k : Nat) (n1 : Int) : c83 (k + 1) n1 =
 bif decide (n1 ≥ 1) then
  r83 (decide (n1 ≤ 4))
 else r83 false := by kernel_rfl
/-! 84 : impl.operandsOf -/
theorem n84 (k : Nat) (op : Int) : c84 (k + 1) op =
 bif (op == 1) then
  r84 0 0 1
 else
  bif (op == 2) then
   r84 0 0 1
  else
   bif (op == 20) then
    r84 0 0 2
   else
    bif (op == 13) then
     r84 1 1 1
    else
     bif (op == 19) then
      r84 1 2 2
     else
      bif decide (op ≥ 3) then
       bif decide (op ≤ 12) then
        r84 2 1 1
       else
        bif decide (op ≥ 14) then
         bif decide (op ≤ 16) then
          r84 2 1 2
         else
          bif (op == 17) then
           r84 2 2 2
          else
           bif (op == 18) then
            r84 2 2 2
           else r84 0 0 0
        else
         bif (op == 17) then
          r84 2 2 2
         else
          bif (op == 18) then
           r84 2 2 2
          else r84 0 0 0
      else
       bif decide (op ≥ 14) then
        bif decide (op ≤ 16) then
         r84 2 1 2
        else
         bif (op == 17) then
          r84 2 2 2
         else
          bif (op == 18) then
           r84 2 2 2
          else r84 0 0 0
       else
        bif (op == 17) then
         r84 2 2 2
        else
         bif (op == 18) then
          r84 2 2 2
         else r84 0 0 0 := by kernel_rfl
/-! 85 : impl.isLeafRight -/
theorem n85 (k : Nat) (wide vars x x1 : Int) : c85 (k + 1) wide vars x x1 =
 bif (x == 1) then
  R114 (c114 k wide x1) fun b1 =>
  r85 b1
 else
  bif (x == 2) then
   r85 (decide (x1 < IntKind.u64.wrap vars))
  else
   bif (x == 20) then
    r85 (decide (x1 ≤ 1))
   else r85 (x1 == 0) := by kernel_rfl
/-! 86 : slices.ContainsFunc[[]int,int] -/
theorem n86 (k : Nat) (qs : List PV) (n1 : Int) : c86 (k + 1) qs n1 =
 R145 (c145 k qs n1) fun v1 v2 =>
 r86 v1 (decide (v2 ≥ 0)) := by kernel_rfl
/-! 87 : impl.GoodTerm$1 -/
theorem n87 (k : Nat) (own n1 : Int) : c87 (k + 1) own n1 =
 r87 n1 (own != n1) := by kernel_rfl
/-! 88 : impl.mask -/
theorem n88 (k : Nat) (wide : Int) : c88 (k + 1) wide =
 bif !decide (IntKind.i64.wrap (64 - wide) < 0) then
  r88 (shrI .u64 18446744073709551615 (IntKind.i64.wrap (64 - wide)))
 else none := by kernel_rfl
/-! 89 : impl.isState -/
theorem n89 (k : Nat) (wide vars : Int) (state : List PV) : c89 (k + 1) wide vars state =
 R82 (c82 k wide) fun b1 =>
 bif b1 then
  R83 (c83 k vars) fun b2 =>
  bif b2 then
   bif ((state.length : Int) == vars) then
    R146 (c146 k state wide) fun v1 b3 =>
    r89 (!b3)
   else r89 false
  else r89 false
 else r89 false := by kernel_rfl
/-! 90 : impl.valueOf -/
theorem n90 (k : Nat) (wide : Int) (t state : List PV) : c90 (k + 1) wide t state =
 L90_1 k k wide state 0 t (t.length : Int) 0 [] := by kernel_rfl
theorem sL90_1 (k n : Nat) (wide : Int) (state : List PV) (stackLen : Nat) (t12 : List PV) (t13 t14 : Int) (xs : List PV) : L90_1 k (n + 1) wide state stackLen t12 t13 t14 xs =
 bif decide (t14 < t13) then
  (lookP t12 t14).bind fun p1 =>
  bif p1.shp 2 then
   (p1.atInt .i64 0).bind fun n1 =>
   (p1.atInt .u64 1).bind fun n2 =>
   bif (n1 == 1) then
    bif decide ((stackLen + 1) * 8 ≤ LIM) && decide (stackLen + 1 ≤ LIM) then
     L90_1 k n wide state (stackLen + 1) t12 t13 (IntKind.i64.wrap (t14 + 1)) ((xs.take stackLen) ++ [PV.int .u64 n2])
    else none
   else
    bif (n1 == 20) then
     bif decide ((stackLen + 1) * 8 ≤ LIM) && decide (stackLen + 1 ≤ LIM) then
      L90_1 k n wide state (stackLen + 1) t12 t13 (IntKind.i64.wrap (t14 + 1)) ((xs.take stackLen) ++ [PV.int .u64 n2])
     else none
    else
     bif (n1 == 2) then
      (lookP state n2).bind fun p2 =>
      (p2.atInt .u64 0).bind fun n3 =>
      bif decide ((stackLen + 1) * 8 ≤ LIM) && decide (stackLen + 1 ≤ LIM) then
       L90_1 k n wide state (stackLen + 1) t12 t13 (IntKind.i64.wrap (t14 + 1)) ((xs.take stackLen) ++ [PV.int .u64 n3])
      else none
     else
      bif (n1 == 13) then
       bif decide ((0 : Int) ≤ IntKind.i64.wrap ((stackLen : Int) - 1)) && decide (IntKind.i64.wrap ((stackLen : Int) - 1) < (stackLen : Int)) then
        (xs[0 + ((IntKind.i64.wrap ((stackLen : Int) - 1)).toNat)]?).bind fun p3 =>
        (p3.atInt .u64 0).bind fun n4 =>
        R88 (c88 k wide) fun v1 =>
        bif decide ((0 : Int) ≤ IntKind.i64.wrap ((stackLen : Int) - 1)) && decide (IntKind.i64.wrap ((stackLen : Int) - 1) < (stackLen : Int)) then
         (xs[0 + ((IntKind.i64.wrap ((stackLen : Int) - 1)).toNat)]?).bind fun p4 =>
         L90_1 k n wide state stackLen t12 t13 (IntKind.i64.wrap (t14 + 1)) (xs.set (0 + ((IntKind.i64.wrap ((stackLen : Int) - 1)).toNat)) (PV.int .u64 (bitsOp .and .u64 (bitsOp .xor .u64 18446744073709551615 n4) v1)))
        else none
       else none
      else
       bif (n1 == 19) then
        bif decide ((0 : Int) ≤ IntKind.i64.wrap ((stackLen : Int) - 1)) && decide (IntKind.i64.wrap ((stackLen : Int) - 1) < (stackLen : Int)) then
         (xs[0 + ((IntKind.i64.wrap ((stackLen : Int) - 1)).toNat)]?).bind fun p5 =>
         (p5.atInt .u64 0).bind fun n5 =>
         bif decide ((0 : Int) ≤ IntKind.i64.wrap ((stackLen : Int) - 1)) && decide (IntKind.i64.wrap ((stackLen : Int) - 1) < (stackLen : Int)) then
          (xs[0 + ((IntKind.i64.wrap ((stackLen : Int) - 1)).toNat)]?).bind fun p6 =>
          L90_1 k n wide state stackLen t12 t13 (IntKind.i64.wrap (t14 + 1)) (xs.set (0 + ((IntKind.i64.wrap ((stackLen : Int) - 1)).toNat)) (PV.int .u64 (IntKind.u64.wrap (1 - n5))))
         else none
        else none
       else
        bif decide ((0 : Int) ≤ IntKind.i64.wrap ((IntKind.i64.wrap ((stackLen : Int) - 1)) - 1)) && decide (IntKind.i64.wrap ((IntKind.i64.wrap ((stackLen : Int) - 1)) - 1) ≤ (stackLen : Int)) then
         bif decide ((0 : Int) ≤ IntKind.i64.wrap ((IntKind.i64.wrap ((stackLen : Int) - 1)) - 1)) && decide (IntKind.i64.wrap ((IntKind.i64.wrap ((stackLen : Int) - 1)) - 1) < (stackLen : Int)) then
          (xs[0 + ((IntKind.i64.wrap ((IntKind.i64.wrap ((stackLen : Int) - 1)) - 1)).toNat)]?).bind fun p7 =>
          (p7.atInt .u64 0).bind fun n6 =>
          bif decide ((0 : Int) ≤ IntKind.i64.wrap ((stackLen : Int) - 1)) && decide (IntKind.i64.wrap ((stackLen : Int) - 1) < (stackLen : Int)) then
           (xs[0 + ((IntKind.i64.wrap ((stackLen : Int) - 1)).toNat)]?).bind fun p8 =>
           (p8.atInt .u64 0).bind fun n7 =>
           R148 (c148 k wide n1 n6 n7) fun v2 =>
           bif decide ((((IntKind.i64.wrap ((IntKind.i64.wrap ((stackLen : Int) - 1)) - 1)).toNat) + 1) * 8 ≤ LIM) && decide (((IntKind.i64.wrap ((IntKind.i64.wrap ((stackLen : Int) - 1)) - 1)).toNat) + 1 ≤ LIM) then
            L90_1 k n wide state (((IntKind.i64.wrap ((IntKind.i64.wrap ((stackLen : Int) - 1)) - 1)).toNat) + 1) t12 t13 (IntKind.i64.wrap (t14 + 1)) ((xs.take ((IntKind.i64.wrap ((IntKind.i64.wrap ((stackLen : Int) - 1)) - 1)).toNat)) ++ [PV.int .u64 v2])
           else none
          else none
         else none
        else none
  else none
 else
  bif decide ((0 : Int) < (stackLen : Int)) then
   (xs[0]?).bind fun p9 =>
   (p9.atInt .u64 0).bind fun n8 =>
   r90 n8
  else none := by kernel_rfl
/-! 91 : spec.l1Cur).asked -/
theorem n91 (k : Nat) (wide vars deep : Int) (l : List PV) (n1 n11 : Int) : c91 (k + 1) wide vars deep l n1 n11 =
 R75 (c75 k 20 l n1 n11) fun l1 v1 v2 b1 =>
 bif b1 then
  R69 (c69 k 2 l1 v1 v2) fun l2 v3 v4 v5 =>
  r91 l2 v3 v4 [PV.agg [.int .i64 20, .int .u64 (IntKind.u64.wrap v5)]]
 else
  bif decide (deep > 0) then
   R75 (c75 k 4 l1 v1 v2) fun l3 v6 v7 b2 =>
   bif b2 then
    R91 (c91 k wide vars (IntKind.i64.wrap (deep - 1)) l3 v6 v7) fun l4 v8 v9 l5 =>
    bif decide ((l5.length + 1) * 16 ≤ LIM) && decide (l5.length + 1 ≤ LIM) then
     r91 l4 v8 v9 (((l5.take l5.length) ++ [PV.agg [.int .i64 19, .int .u64 0]]).take (l5.length + 1))
    else none
   else
    bif decide (deep > 0) then
     R75 (c75 k 2 l3 v6 v7) fun l6 v10 v11 b3 =>
     bif b3 then
      R91 (c91 k wide vars (IntKind.i64.wrap (deep - 1)) l6 v10 v11) fun l7 v12 v13 l8 =>
      R91 (c91 k wide vars (IntKind.i64.wrap (deep - 1)) l7 v12 v13) fun l9 v14 v15 l10 =>
      bif decide ((l8.length + ((l10.take l10.length).length)) * 16 ≤ LIM) && decide (l8.length + ((l10.take l10.length).length) ≤ LIM) then
       R96 (c96 k [PV.int .i64 17, PV.int .i64 18] l9 v14 v15) fun l11 v16 v17 v18 =>
       bif decide (((l8.length + ((l10.take l10.length).length)) + 1) * 16 ≤ LIM) && decide ((l8.length + ((l10.take l10.length).length)) + 1 ≤ LIM) then
        r91 l11 v16 v17 (((((l8.take l8.length) ++ (l10.take l10.length)).take (l8.length + ((l10.take l10.length).length))) ++ [PV.agg [.int .i64 v18, .int .u64 0]]).take ((l8.length + ((l10.take l10.length).length)) + 1))
       else none
      else none
     else
      R73 (c73 k wide vars 1 l6 v10 v11) fun l12 v19 v20 l13 =>
      R69 (c69 k 2 l12 v19 v20) fun l14 v21 v22 v23 =>
      R73 (c73 k wide vars v23 l14 v21 v22) fun l15 v24 v25 l16 =>
      bif decide ((l13.length + ((l16.take l16.length).length)) * 16 ≤ LIM) && decide (l13.length + ((l16.take l16.length).length) ≤ LIM) then
       R96 (c96 k [PV.int .i64 14, PV.int .i64 15, PV.int .i64 15, PV.int .i64 16] l15 v24 v25) fun l17 v26 v27 v28 =>
       bif decide (((l13.length + ((l16.take l16.length).length)) + 1) * 16 ≤ LIM) && decide ((l13.length + ((l16.take l16.length).length)) + 1 ≤ LIM) then
        r91 l17 v26 v27 (((((l13.take l13.length) ++ (l16.take l16.length)).take (l13.length + ((l16.take l16.length).length))) ++ [PV.agg [.int .i64 v28, .int .u64 0]]).take ((l13.length + ((l16.take l16.length).length)) + 1))
       else none
      else none
    else
     R73 (c73 k wide vars 1 l3 v6 v7) fun l18 v29 v30 l19 =>
     R69 (c69 k 2 l18 v29 v30) fun l20 v31 v32 v33 =>
     R73 (c73 k wide vars v33 l20 v31 v32) fun l21 v34 v35 l22 =>
     bif decide ((l19.length + ((l22.take l22.length).length)) * 16 ≤ LIM) && decide (l19.length + ((l22.take l22.length).length) ≤ LIM) then
      R96 (c96 k [PV.int .i64 14, PV.int .i64 15, PV.int .i64 15, PV.int .i64 16] l21 v34 v35) fun l23 v36 v37 v38 =>
      bif decide (((l19.length + ((l22.take l22.length).length)) + 1) * 16 ≤ LIM) && decide ((l19.length + ((l22.take l22.length).length)) + 1 ≤ LIM) then
       r91 l23 v36 v37 (((((l19.take l19.length) ++ (l22.take l22.length)).take (l19.length + ((l22.take l22.length).length))) ++ [PV.agg [.int .i64 v38, .int .u64 0]]).take ((l19.length + ((l22.take l22.length).length)) + 1))
      else none
     else none
  else
   bif decide (deep > 0) then
    R75 (c75 k 2 l1 v1 v2) fun l24 v39 v40 b4 =>
    bif b4 then
     R91 (c91 k wide vars (IntKind.i64.wrap (deep - 1)) l24 v39 v40) fun l25 v41 v42 l26 =>
     R91 (c91 k wide vars (IntKind.i64.wrap (deep - 1)) l25 v41 v42) fun l27 v43 v44 l28 =>
     bif decide ((l26.length + ((l28.take l28.length).length)) * 16 ≤ LIM) && decide (l26.length + ((l28.take l28.length).length) ≤ LIM) then
      R96 (c96 k [PV.int .i64 17, PV.int .i64 18] l27 v43 v44) fun l29 v45 v46 v47 =>
      bif decide (((l26.length + ((l28.take l28.length).length)) + 1) * 16 ≤ LIM) && decide ((l26.length + ((l28.take l28.length).length)) + 1 ≤ LIM) then
       r91 l29 v45 v46 (((((l26.take l26.length) ++ (l28.take l28.length)).take (l26.length + ((l28.take l28.length).length))) ++ [PV.agg [.int .i64 v47, .int .u64 0]]).take ((l26.length + ((l28.take l28.length).length)) + 1))
      else none
     else none
    else
     R73 (c73 k wide vars 1 l24 v39 v40) fun l30 v48 v49 l31 =>
     R69 (c69 k 2 l30 v48 v49) fun l32 v50 v51 v52 =>
     R73 (c73 k wide vars v52 l32 v50 v51) fun l33 v53 v54 l34 =>
     bif decide ((l31.length + ((l34.take l34.length).length)) * 16 ≤ LIM) && decide (l31.length + ((l34.take l34.length).length) ≤ LIM) then
      R96 (c96 k [PV.int .i64 14, PV.int .i64 15, PV.int .i64 15, PV.int .i64 16] l33 v53 v54) fun l35 v55 v56 v57 =>
      bif decide (((l31.length + ((l34.take l34.length).length)) + 1) * 16 ≤ LIM) && decide ((l31.length + ((l34.take l34.length).length)) + 1 ≤ LIM) then
       r91 l35 v55 v56 (((((l31.take l31.length) ++ (l34.take l34.length)).take (l31.length + ((l34.take l34.length).length))) ++ [PV.agg [.int .i64 v57, .int .u64 0]]).take ((l31.length + ((l34.take l34.length).length)) + 1))
      else none
     else none
   else
    R73 (c73 k wide vars 1 l1 v1 v2) fun l36 v58 v59 l37 =>
    R69 (c69 k 2 l36 v58 v59) fun l38 v60 v61 v62 =>
    R73 (c73 k wide vars v62 l38 v60 v61) fun l39 v63 v64 l40 =>
    bif decide ((l37.length + ((l40.take l40.length).length)) * 16 ≤ LIM) && decide (l37.length + ((l40.take l40.length).length) ≤ LIM) then
     R96 (c96 k [PV.int .i64 14, PV.int .i64 15, PV.int .i64 15, PV.int .i64 16] l39 v63 v64) fun l41 v65 v66 v67 =>
     bif decide (((l37.length + ((l40.take l40.length).length)) + 1) * 16 ≤ LIM) && decide ((l37.length + ((l40.take l40.length).length)) + 1 ≤ LIM) then
      r91 l41 v65 v66 (((((l37.take l37.length) ++ (l40.take l40.length)).take (l37.length + ((l40.take l40.length).length))) ++ [PV.agg [.int .i64 v67, .int .u64 0]]).take ((l37.length + ((l40.take l40.length).length)) + 1))
     else none
    else none := by kernel_rfl
/-! 92 : impl.Node] -/
theorem n92 (k : Nat) (slices : List PV) : c92 (k + 1) slices =
 L92_1 k k slices 0 slices (slices.length : Int) 0 := by kernel_rfl
theorem sL92_1 (k n : Nat) (slices : List PV) (size : Int) (t9 : List PV) (t10 t11 : Int) : L92_1 k (n + 1) slices size t9 t10 t11 =
 bif decide (t11 < t10) then
  (lookP t9 t11).bind fun p1 =>
  (p1.atRow 2 0).bind fun l1 =>
  bif decide (IntKind.i64.wrap (size + (l1.length : Int)) < 0) then
   none
  else L92_1 k n slices (IntKind.i64.wrap (size + (l1.length : Int))) t9 t10 (IntKind.i64.wrap (t11 + 1))
 else
  R149 (c149 k [] size) fun l2 =>
  L92_2 k k l2.length slices (slices.length : Int) 0 l2 := by kernel_rfl
theorem sL92_2 (k n : Nat) (newsliceLen : Nat) (t25 : List PV) (t26 t27 : Int) (xs : List PV) : L92_2 k (n + 1) newsliceLen t25 t26 t27 xs =
 bif decide (t27 < t26) then
  (lookP t25 t27).bind fun p1 =>
  (p1.atRow 2 0).bind fun l1 =>
  bif decide ((newsliceLen + l1.length) * 16 ≤ LIM) && decide (newsliceLen + l1.length ≤ LIM) then
   L92_2 k n (newsliceLen + l1.length) t25 t26 (IntKind.i64.wrap (t27 + 1)) ((xs.take newsliceLen) ++ l1)
  else none
 else r92 (xs.take newsliceLen) := by kernel_rfl
/-! 93 : spec.l2Need -/
theorem n93 (k : Nat) (op : Int) : c93 (k + 1) op =
 bif (op == 1) then
  r93 0 1 1
 else
  bif (op == 2) then
   r93 0 1 1
  else
   bif (op == 20) then
    r93 0 2 2
   else
    bif (op == 13) then
     r93 1 1 1
    else
     bif (op == 19) then
      r93 1 2 2
     else
      R54 (c54 k op 3 12) fun b1 =>
      bif b1 then
       r93 2 1 1
      else
       R54 (c54 k op 14 16) fun b2 =>
       bif b2 then
        r93 2 1 2
       else
        bif (op == 17) then
         r93 2 2 2
        else
         bif (op == 18) then
          r93 2 2 2
         else r93 0 0 0 := by kernel_rfl
/-! 94 : impl.areWords -/
theorem n94 (k : Nat) (wide a b : Int) : c94 (k + 1) wide a b =
 R114 (c114 k wide a) fun b1 =>
 bif b1 then
  R114 (c114 k wide b) fun b2 =>
  r94 b2
 else r94 false := by kernel_rfl
/-! 95 : impl.signed -/
theorem n95 (k : Nat) (wide a : Int) : c95 (k + 1) wide a =
 bif !decide (IntKind.i64.wrap (64 - wide) < 0) then
  bif !decide (IntKind.i64.wrap (64 - wide) < 0) then
   r95 (shrI .i64 (IntKind.i64.wrap (shlI .u64 a (IntKind.i64.wrap (64 - wide)))) (IntKind.i64.wrap (64 - wide)))
  else none
 else none := by kernel_rfl
/-! 96 : spec.l1Cur).among -/
theorem n96 (k : Nat) (list l : List PV) (n1 n11 : Int) : c96 (k + 1) list l n1 n11 =
 R69 (c69 k (list.length : Int) l n1 n11) fun l1 v1 v2 v3 =>
 (lookP list v3).bind fun p1 =>
 (p1.atInt .i64 0).bind fun n2 =>
 r96 l1 v1 v2 n2 := by kernel_rfl
/-! 97 : impl.Node] -/
theorem n97 (k : Nat) (qs : List PV) (h1 : qs.length * 16 ≤ LIM) (h2 : qs.length ≤ LIM) : c97 (k + 1) qs = r97 qs := evF_T (by simp [T, cloneT, clones, lk, h1, h2] <;> rfl)
/-! 98 : spec.l1Cur).prog -/
theorem n98 (k : Nat) (l : List PV) (n1 n11 : Int) : c98 (k + 1) l n1 n11 =
 R75 (c75 k 2 l n1 n11) fun l1 v1 v2 b1 =>
 bif b1 then
  R57 (c57 k l1 v1 v2) fun l2 v3 v4 v5 v6 l3 l4 =>
  r98 l2 v3 v4 v5 v6 l3 l4
 else
  R96 (c96 k [PV.int .i64 8, PV.int .i64 32, PV.int .i64 64] l1 v1 v2) fun l5 v7 v8 v9 =>
  R69 (c69 k 3 l5 v7 v8) fun l6 v10 v11 v12 =>
  R129 (c129 k v9 (IntKind.i64.wrap (1 + v12)) l6 v10 v11) fun l7 v13 v14 v15 v16 l8 l9 =>
  r98 l7 v13 v14 v15 v16 l8 (l9.take l9.length) := by kernel_rfl
/-! 99 : spec.l1Cur).askedOf -/
theorem n99 (k : Nat) (p p1 : Int) (p2 p3 : List PV) (deep : Int) (l : List PV) (n1 n11 : Int) : c99 (k + 1) p p1 p2 p3 deep l n1 n11 =
 R74 (c74 k p) fun v1 =>
 R74 (c74 k p1) fun v2 =>
 R91 (c91 k v1 v2 deep l n1 n11) fun l1 v3 v4 l2 =>
 R75 (c75 k 40 l1 v3 v4) fun l3 v5 v6 b1 =>
 bif b1 then
  bif decide ((0 : Int) ≤ IntKind.i64.wrap ((l2.length : Int) - 1)) && decide (IntKind.i64.wrap ((l2.length : Int) - 1) ≤ (l2.length : Int)) then
   r99 l3 v5 v6 (l2.take ((IntKind.i64.wrap ((l2.length : Int) - 1)).toNat))
  else none
 else r99 l3 v5 v6 (l2.take l2.length) := by kernel_rfl
/-! 100 : impl.isBefore -/
theorem n100 (k : Nat) (p p1 : Int) (p2 p3 : List PV) (k1 : Int) (t : List PV) : c100 (k + 1) p p1 p2 p3 k1 t =
 R65 (c65 k p p1 p2 p3) fun b1 =>
 bif b1 then
  R106 (c106 k p p1 p2 p3 k1) fun b2 =>
  bif b2 then
   R132 (c132 k p p1 p2 p3 t) fun b3 =>
   r100 b3
  else r100 false
 else r100 false := by kernel_rfl
/-! 101 : impl.Program).beforeOne -/
theorem n101 (k : Nat) (p p1 : Int) (p2 p3 : List PV) (k1 : Int) (t : List PV) : c101 (k + 1) p p1 p2 p3 k1 t =
 L101_1 k k k1 t 0 p1 0 p p1 p2 p3 [] := by kernel_rfl
theorem sL101_1 (k n : Nat) (k1 : Int) (t : List PV) (byLen : Nat) (t14 t15 n1 n11 : Int) (l l1 xs : List PV) : L101_1 k (n + 1) k1 t byLen t14 t15 n1 n11 l l1 xs =
 bif decide (t15 < t14) then
  bif decide ((byLen + 1) * 24 ≤ LIM) && decide (byLen + 1 ≤ LIM) then
   L101_1 k n k1 t (byLen + 1) t14 (IntKind.i64.wrap (t15 + 1)) n1 n11 l l1 ((xs.take byLen) ++ [PV.row 2 0 [PV.agg [.int .i64 2, .int .u64 (IntKind.u64.wrap t15)]]])
  else none
 else
  (lookP l1 k1).bind fun p1 =>
  (p1.atRow 2 1).bind fun l2 =>
  L101_2 k k t byLen l2 (l2.length : Int) 0 n1 n11 l l1 xs := by kernel_rfl
theorem sL101_2 (k n : Nat) (t : List PV) (byLen : Nat) (t31 : List PV) (t32 t33 n1 n11 : Int) (l l1 xs : List PV) : L101_2 k (n + 1) t byLen t31 t32 t33 n1 n11 l l1 xs =
 bif decide (t33 < t32) then
  (lookP t31 t33).bind fun p1 =>
  bif p1.shp 2 then
   (p1.atInt .i64 0).bind fun n2 =>
   (p1.atRow 2 1).bind fun l2 =>
   bif decide ((0 : Int) ≤ n2) && decide (n2 < (byLen : Int)) then
    (xs[0 + n2.toNat]?).bind fun p2 =>
    L101_2 k n t byLen t31 t32 (IntKind.i64.wrap (t33 + 1)) n1 n11 l l1 (xs.set (0 + n2.toNat) (PV.row 2 0 l2))
   else none
  else none
 else
  R22 (c22 k n1 n11 t (xs.take byLen)) fun l3 b1 =>
  r101 l3 b1 := by kernel_rfl
/-! 102 : spec.l16Asked -/
theorem n102 (k : Nat) (p p1 : Int) (p2 p3 : List PV) (k1 : Int) (t : List PV) : c102 (k + 1) p p1 p2 p3 k1 t =
 R66 (c66 k p p1 p2 p3) fun b1 =>
 bif b1 then
  R54 (c54 k k1 0 (IntKind.i64.wrap ((p3.length : Int) - 1))) fun b2 =>
  bif b2 then
   R136 (c136 k p p1 p2 p3 t) fun b3 =>
   r102 b3
  else r102 false
 else r102 false := by kernel_rfl
/-! 103 : spec.l16One -/
theorem n103 (k : Nat) (p p1 : Int) (p2 p3 : List PV) (k1 : Int) (t : List PV) : c103 (k + 1) p p1 p2 p3 k1 t =
 L103_1 k k k1 t 0 0 p p1 p2 p3 [] := by kernel_rfl
theorem sL103_1 (k n : Nat) (k1 : Int) (t : List PV) (byLen : Nat) (v n1 n11 : Int) (l l1 xs : List PV) : L103_1 k (n + 1) k1 t byLen v n1 n11 l l1 xs =
 bif decide (v < n11) then
  bif decide ((byLen + 1) * 24 ≤ LIM) && decide (byLen + 1 ≤ LIM) then
   L103_1 k n k1 t (byLen + 1) (IntKind.i64.wrap (v + 1)) n1 n11 l l1 ((xs.take byLen) ++ [PV.row 2 0 [PV.agg [.int .i64 2, .int .u64 (IntKind.u64.wrap v)]]])
  else none
 else
  (lookP l1 k1).bind fun p1 =>
  (p1.atRow 2 1).bind fun l2 =>
  L103_2 k k t byLen l2 (l2.length : Int) 0 n1 n11 l l1 xs := by kernel_rfl
theorem sL103_2 (k n : Nat) (t : List PV) (byLen : Nat) (t30 : List PV) (t31 t32 n1 n11 : Int) (l l1 xs : List PV) : L103_2 k (n + 1) t byLen t30 t31 t32 n1 n11 l l1 xs =
 bif decide (t32 < t31) then
  (lookP t30 t32).bind fun p1 =>
  bif p1.shp 2 then
   (p1.atInt .i64 0).bind fun n2 =>
   (p1.atRow 2 1).bind fun l2 =>
   bif decide ((0 : Int) ≤ n2) && decide (n2 < (byLen : Int)) then
    (xs[0 + n2.toNat]?).bind fun p2 =>
    L103_2 k n t byLen t30 t31 (IntKind.i64.wrap (t32 + 1)) n1 n11 l l1 (xs.set (0 + n2.toNat) (PV.row 2 0 l2))
   else none
  else none
 else
  R23 (c23 k n1 n11 t (xs.take byLen)) fun l3 b1 =>
  r103 l3 b1 := by kernel_rfl
/-! 104 : impl.Program).beforeIf -/
theorem n104 (k : Nat) (p p1 : Int) (p2 p3 : List PV) (k1 : Int) (t : List PV) : c104 (k + 1) p p1 p2 p3 k1 t =
 R101 (c101 k p p1 p2 p3 k1 t) fun l1 b1 =>
 bif !b1 then
  r104 [] false
 else
  (lookP p3 k1).bind fun p4 =>
  (p4.atRow 2 0).bind fun l2 =>
  R92p (c92 k [PV.row 2 0 l2, PV.row 2 0 [PV.agg [.int .i64 19, .int .u64 0]], PV.row 2 0 l1, PV.row 2 0 [PV.agg [.int .i64 18, .int .u64 0]]]) fun l3 =>
  R79 (c79 k p p1 (l3.take l3.length)) fun l4 b2 =>
  r104 l4 b2 := by kernel_rfl
/-! 105 : spec.l16If -/
theorem n105 (k : Nat) (p p1 : Int) (p2 p3 : List PV) (k1 : Int) (t : List PV) : c105 (k + 1) p p1 p2 p3 k1 t =
 R103 (c103 k p p1 p2 p3 k1 t) fun l1 b1 =>
 bif !b1 then
  r105 [] false
 else
  (lookP p3 k1).bind fun p4 =>
  (p4.atRow 2 0).bind fun l2 =>
  bif decide ((0 + l2.length) * 16 ≤ LIM) && decide (0 + l2.length ≤ LIM) then
   bif decide (((0 + l2.length) + 1) * 16 ≤ LIM) && decide ((0 + l2.length) + 1 ≤ LIM) then
    bif decide ((((0 + l2.length) + 1) + l1.length) * 16 ≤ LIM) && decide (((0 + l2.length) + 1) + l1.length ≤ LIM) then
     bif decide (((((0 + l2.length) + 1) + l1.length) + 1) * 16 ≤ LIM) && decide ((((0 + l2.length) + 1) + l1.length) + 1 ≤ LIM) then
      R81 (c81 k p p1 (((((((([] ++ l2).take (0 + l2.length)) ++ [PV.agg [.int .i64 19, .int .u64 0]]).take ((0 + l2.length) + 1)) ++ l1).take (((0 + l2.length) + 1) + l1.length)) ++ [PV.agg [.int .i64 18, .int .u64 0]]).take ((((0 + l2.length) + 1) + l1.length) + 1))) fun l3 b2 =>
      r105 l3 b2
     else none
    else none
   else none
  else none := by kernel_rfl
end Go.Proofs.Ytnliglgellapdaa
