/- Normal forms: printed by nf.py. -/
import Derived.Test.YtnliglgellapdaaCs
set_option linter.unusedVariables false
set_option maxRecDepth 100000
namespace Go.Proofs.Ytnliglgellapdaa
open Go.Dp
/-! 90 : impl.valueOf -/
theorem n90 (k : Nat) (wide : Int) (t state : List PV) : c90 (k + 1) wide t state =
 L90_1 k k wide state 0 t (t.length : Int) 0 [] := by kernel_rfl
theorem sL90_1 (k n : Nat) (wide : Int) (state : List PV) (stackLen : Nat) (t12 : List PV) (t13 t14 : Int) (xs : List PV) : L90_1 k (n + 1) wide state stackLen t12 t13 t14 xs =
 bif decide (t14 < t13) then
  (lookP t12 t14).bind fun p1 =>
  bif p1.shp 2 then
   (p1.atInt .i64 0).bind fun n1 =>
   (p1.atInt .u64 1).bind fun n2 =>
   bif (n1 == 1) then
    bif decide ((stackLen + 1) * 8 ≤ LIM) && decide (stackLen + 1 ≤ LIM) then
     L90_1 k n wide state (stackLen + 1) t12 t13 (IntKind.i64.wrap (t14 + 1)) ((xs.take stackLen) ++ [PV.int .u64 n2])
    else none
   else
    bif (n1 == 20) then
     bif decide ((stackLen + 1) * 8 ≤ LIM) && decide (stackLen + 1 ≤ LIM) then
      L90_1 k n wide state (stackLen + 1) t12 t13 (IntKind.i64.wrap (t14 + 1)) ((xs.take stackLen) ++ [PV.int .u64 n2])
     else none
    else
     bif (n1 == 2) then
      (lookP state n2).bind fun p2 =>
      (p2.atInt .u64 0).bind fun n3 =>
      bif decide ((stackLen + 1) * 8 ≤ LIM) && decide (stackLen + 1 ≤ LIM) then
       L90_1 k n wide state (stackLen + 1) t12 t13 (IntKind.i64.wrap (t14 + 1)) ((xs.take stackLen) ++ [PV.int .u64 n3])
      else none
     else
      bif (n1 == 13) then
       bif decide ((0 : Int) ≤ IntKind.i64.wrap ((stackLen : Int) - 1)) && decide (IntKind.i64.wrap ((stackLen : Int) - 1) < (stackLen : Int)) then
        (xs[0 + ((IntKind.i64.wrap ((stackLen : Int) - 1)).toNat)]?).bind fun p3 =>
        (p3.atInt .u64 0).bind fun n4 =>
        R88 (c88 k wide) fun r1 =>
        bif decide ((0 : Int) ≤ IntKind.i64.wrap ((stackLen : Int) - 1)) && decide (IntKind.i64.wrap ((stackLen : Int) - 1) < (stackLen : Int)) then
         (xs[0 + ((IntKind.i64.wrap ((stackLen : Int) - 1)).toNat)]?).bind fun p4 =>
         L90_1 k n wide state stackLen t12 t13 (IntKind.i64.wrap (t14 + 1)) (xs.set (0 + ((IntKind.i64.wrap ((stackLen : Int) - 1)).toNat)) (PV.int .u64 (bitsOp .and .u64 (bitsOp .xor .u64 18446744073709551615 n4) r1)))
        else none
       else none
      else
       bif (n1 == 19) then
        bif decide ((0 : Int) ≤ IntKind.i64.wrap ((stackLen : Int) - 1)) && decide (IntKind.i64.wrap ((stackLen : Int) - 1) < (stackLen : Int)) then
         (xs[0 + ((IntKind.i64.wrap ((stackLen : Int) - 1)).toNat)]?).bind fun p5 =>
         (p5.atInt .u64 0).bind fun n5 =>
         bif decide ((0 : Int) ≤ IntKind.i64.wrap ((stackLen : Int) - 1)) && decide (IntKind.i64.wrap ((stackLen : Int) - 1) < (stackLen : Int)) then
          (xs[0 + ((IntKind.i64.wrap ((stackLen : Int) - 1)).toNat)]?).bind fun p6 =>
          L90_1 k n wide state stackLen t12 t13 (IntKind.i64.wrap (t14 + 1)) (xs.set (0 + ((IntKind.i64.wrap ((stackLen : Int) - 1)).toNat)) (PV.int .u64 (IntKind.u64.wrap (1 - n5))))
         else none
        else none
       else
        bif decide ((0 : Int) ≤ IntKind.i64.wrap ((IntKind.i64.wrap ((stackLen : Int) - 1)) - 1)) && decide (IntKind.i64.wrap ((IntKind.i64.wrap ((stackLen : Int) - 1)) - 1) ≤ (stackLen : Int)) then
         bif decide ((0 : Int) ≤ IntKind.i64.wrap ((IntKind.i64.wrap ((stackLen : Int) - 1)) - 1)) && decide (IntKind.i64.wrap ((IntKind.i64.wrap ((stackLen : Int) - 1)) - 1) < (stackLen : Int)) then
          (xs[0 + ((IntKind.i64.wrap ((IntKind.i64.wrap ((stackLen : Int) - 1)) - 1)).toNat)]?).bind fun p7 =>
          (p7.atInt .u64 0).bind fun n6 =>
          bif decide ((0 : Int) ≤ IntKind.i64.wrap ((stackLen : Int) - 1)) && decide (IntKind.i64.wrap ((stackLen : Int) - 1) < (stackLen : Int)) then
           (xs[0 + ((IntKind.i64.wrap ((stackLen : Int) - 1)).toNat)]?).bind fun p8 =>
           (p8.atInt .u64 0).bind fun n7 =>
           R148 (c148 k wide n1 n6 n7) fun r2 =>
           bif decide ((((IntKind.i64.wrap ((IntKind.i64.wrap ((stackLen : Int) - 1)) - 1)).toNat) + 1) * 8 ≤ LIM) && decide (((IntKind.i64.wrap ((IntKind.i64.wrap ((stackLen : Int) - 1)) - 1)).toNat) + 1 ≤ LIM) then
            L90_1 k n wide state (((IntKind.i64.wrap ((IntKind.i64.wrap ((stackLen : Int) - 1)) - 1)).toNat) + 1) t12 t13 (IntKind.i64.wrap (t14 + 1)) ((xs.take ((IntKind.i64.wrap ((IntKind.i64.wrap ((stackLen : Int) - 1)) - 1)).toNat)) ++ [PV.int .u64 r2])
           else none
          else none
         else none
        else none
  else none
 else
  bif decide ((0 : Int) < (stackLen : Int)) then
   (xs[0]?).bind fun p9 =>
   (p9.atInt .u64 0).bind fun n8 =>
   r90 n8
  else none := by kernel_rfl
/-! 91 : spec.l1Cur).asked -/
theorem n91 (k : Nat) (wide vars deep : Int) (l : List PV) (n1 n11 : Int) : c91 (k + 1) wide vars deep l n1 n11 =
 R75 (c75 k 20 l n1 n11) fun l1 r1 r2 b1 =>
 bif b1 then
  R69 (c69 k 2 l1 r1 r2) fun l2 r3 r4 r5 =>
  r91 l2 r3 r4 [PV.agg [.int .i64 20, .int .u64 (IntKind.u64.wrap r5)]]
 else
  bif decide (deep > 0) then
   R75 (c75 k 4 l1 r1 r2) fun l3 r6 r7 b2 =>
   bif b2 then
    R91 (c91 k wide vars (IntKind.i64.wrap (deep - 1)) l3 r6 r7) fun l4 r8 r9 l5 =>
    bif decide ((l5.length + 1) * 16 ≤ LIM) && decide (l5.length + 1 ≤ LIM) then
     r91 l4 r8 r9 (((l5.take l5.length) ++ [PV.agg [.int .i64 19, .int .u64 0]]).take (l5.length + 1))
    else none
   else
    bif decide (deep > 0) then
     R75 (c75 k 2 l3 r6 r7) fun l6 r10 r11 b3 =>
     bif b3 then
      R91 (c91 k wide vars (IntKind.i64.wrap (deep - 1)) l6 r10 r11) fun l7 r12 r13 l8 =>
      R91 (c91 k wide vars (IntKind.i64.wrap (deep - 1)) l7 r12 r13) fun l9 r14 r15 l10 =>
      bif decide ((l8.length + ((l10.take l10.length).length)) * 16 ≤ LIM) && decide (l8.length + ((l10.take l10.length).length) ≤ LIM) then
       R96 (c96 k [PV.int .i64 17, PV.int .i64 18] l9 r14 r15) fun l11 r16 r17 r18 =>
       bif decide (((l8.length + ((l10.take l10.length).length)) + 1) * 16 ≤ LIM) && decide ((l8.length + ((l10.take l10.length).length)) + 1 ≤ LIM) then
        r91 l11 r16 r17 (((((l8.take l8.length) ++ (l10.take l10.length)).take (l8.length + ((l10.take l10.length).length))) ++ [PV.agg [.int .i64 r18, .int .u64 0]]).take ((l8.length + ((l10.take l10.length).length)) + 1))
       else none
      else none
     else
      R73 (c73 k wide vars 1 l6 r10 r11) fun l12 r19 r20 l13 =>
      R69 (c69 k 2 l12 r19 r20) fun l14 r21 r22 r23 =>
      R73 (c73 k wide vars r23 l14 r21 r22) fun l15 r24 r25 l16 =>
      bif decide ((l13.length + ((l16.take l16.length).length)) * 16 ≤ LIM) && decide (l13.length + ((l16.take l16.length).length) ≤ LIM) then
       R96 (c96 k [PV.int .i64 14, PV.int .i64 15, PV.int .i64 15, PV.int .i64 16] l15 r24 r25) fun l17 r26 r27 r28 =>
       bif decide (((l13.length + ((l16.take l16.length).length)) + 1) * 16 ≤ LIM) && decide ((l13.length + ((l16.take l16.length).length)) + 1 ≤ LIM) then
        r91 l17 r26 r27 (((((l13.take l13.length) ++ (l16.take l16.length)).take (l13.length + ((l16.take l16.length).length))) ++ [PV.agg [.int .i64 r28, .int .u64 0]]).take ((l13.length + ((l16.take l16.length).length)) + 1))
       else none
      else none
    else
     R73 (c73 k wide vars 1 l3 r6 r7) fun l18 r29 r30 l19 =>
     R69 (c69 k 2 l18 r29 r30) fun l20 r31 r32 r33 =>
     R73 (c73 k wide vars r33 l20 r31 r32) fun l21 r34 r35 l22 =>
     bif decide ((l19.length + ((l22.take l22.length).length)) * 16 ≤ LIM) && decide (l19.length + ((l22.take l22.length).length) ≤ LIM) then
      R96 (c96 k [PV.int .i64 14, PV.int .i64 15, PV.int .i64 15, PV.int .i64 16] l21 r34 r35) fun l23 r36 r37 r38 =>
      bif decide (((l19.length + ((l22.take l22.length).length)) + 1) * 16 ≤ LIM) && decide ((l19.length + ((l22.take l22.length).length)) + 1 ≤ LIM) then
       r91 l23 r36 r37 (((((l19.take l19.length) ++ (l22.take l22.length)).take (l19.length + ((l22.take l22.length).length))) ++ [PV.agg [.int .i64 r38, .int .u64 0]]).take ((l19.length + ((l22.take l22.length).length)) + 1))
      else none
     else none
  else
   bif decide (deep > 0) then
    R75 (c75 k 2 l1 r1 r2) fun l24 r39 r40 b4 =>
    bif b4 then
     R91 (c91 k wide vars (IntKind.i64.wrap (deep - 1)) l24 r39 r40) fun l25 r41 r42 l26 =>
     R91 (c91 k wide vars (IntKind.i64.wrap (deep - 1)) l25 r41 r42) fun l27 r43 r44 l28 =>
     bif decide ((l26.length + ((l28.take l28.length).length)) * 16 ≤ LIM) && decide (l26.length + ((l28.take l28.length).length) ≤ LIM) then
      R96 (c96 k [PV.int .i64 17, PV.int .i64 18] l27 r43 r44) fun l29 r45 r46 r47 =>
      bif decide (((l26.length + ((l28.take l28.length).length)) + 1) * 16 ≤ LIM) && decide ((l26.length + ((l28.take l28.length).length)) + 1 ≤ LIM) then
       r91 l29 r45 r46 (((((l26.take l26.length) ++ (l28.take l28.length)).take (l26.length + ((l28.take l28.length).length))) ++ [PV.agg [.int .i64 r47, .int .u64 0]]).take ((l26.length + ((l28.take l28.length).length)) + 1))
      else none
     else none
    else
     R73 (c73 k wide vars 1 l24 r39 r40) fun l30 r48 r49 l31 =>
     R69 (c69 k 2 l30 r48 r49) fun l32 r50 r51 r52 =>
     R73 (c73 k wide vars r52 l32 r50 r51) fun l33 r53 r54 l34 =>
     bif decide ((l31.length + ((l34.take l34.length).length)) * 16 ≤ LIM) && decide (l31.length + ((l34.take l34.length).length) ≤ LIM) then
      R96 (c96 k [PV.int .i64 14, PV.int .i64 15, PV.int .i64 15, PV.int .i64 16] l33 r53 r54) fun l35 r55 r56 r57 =>
      bif decide (((l31.length + ((l34.take l34.length).length)) + 1) * 16 ≤ LIM) && decide ((l31.length + ((l34.take l34.length).length)) + 1 ≤ LIM) then
       r91 l35 r55 r56 (((((l31.take l31.length) ++ (l34.take l34.length)).take (l31.length + ((l34.take l34.length).length))) ++ [PV.agg [.int .i64 r57, .int .u64 0]]).take ((l31.length + ((l34.take l34.length).length)) + 1))
      else none
     else none
   else
    R73 (c73 k wide vars 1 l1 r1 r2) fun l36 r58 r59 l37 =>
    R69 (c69 k 2 l36 r58 r59) fun l38 r60 r61 r62 =>
    R73 (c73 k wide vars r62 l38 r60 r61) fun l39 r63 r64 l40 =>
    bif decide ((l37.length + ((l40.take l40.length).length)) * 16 ≤ LIM) && decide (l37.length + ((l40.take l40.length).length) ≤ LIM) then
     R96 (c96 k [PV.int .i64 14, PV.int .i64 15, PV.int .i64 15, PV.int .i64 16] l39 r63 r64) fun l41 r65 r66 r67 =>
     bif decide (((l37.length + ((l40.take l40.length).length)) + 1) * 16 ≤ LIM) && decide ((l37.length + ((l40.take l40.length).length)) + 1 ≤ LIM) then
      r91 l41 r65 r66 (((((l37.take l37.length) ++ (l40.take l40.length)).take (l37.length + ((l40.take l40.length).length))) ++ [PV.agg [.int .i64 r67, .int .u64 0]]).take ((l37.length + ((l40.take l40.length).length)) + 1))
     else none
    else none := by kernel_rfl
/-! 93 : spec.l2Need -/
theorem n93 (k : Nat) (op : Int) : c93 (k + 1) op =
 bif (op == 1) then
  r93 0 1 1
 else
  bif (op == 2) then
   r93 0 1 1
  else
   bif (op == 20) then
    r93 0 2 2
   else
    bif (op == 13) then
     r93 1 1 1
    else
     bif (op == 19) then
      r93 1 2 2
     else
      R54 (c54 k op 3 12) fun b1 =>
      bif b1 then
       r93 2 1 1
      else
       R54 (c54 k op 14 16) fun b2 =>
       bif b2 then
        r93 2 1 2
       else
        bif (op == 17) then
         r93 2 2 2
        else
         bif (op == 18) then
          r93 2 2 2
         else r93 0 0 0 := by kernel_rfl
/-! 94 : impl.areWords -/
theorem n94 (k : Nat) (wide a b : Int) : c94 (k + 1) wide a b =
 R114 (c114 k wide a) fun b1 =>
 bif b1 then
  R114 (c114 k wide b) fun b2 =>
  r94 b2
 else r94 false := by kernel_rfl
/-! 95 : impl.signed -/
theorem n95 (k : Nat) (wide a : Int) : c95 (k + 1) wide a =
 bif !decide (IntKind.i64.wrap (64 - wide) < 0) then
  bif !decide (IntKind.i64.wrap (64 - wide) < 0) then
   r95 (shrI .i64 (IntKind.i64.wrap (shlI .u64 a (IntKind.i64.wrap (64 - wide)))) (IntKind.i64.wrap (64 - wide)))
  else none
 else none := by kernel_rfl
/-! 96 : spec.l1Cur).among -/
theorem n96 (k : Nat) (list l : List PV) (n1 n11 : Int) : c96 (k + 1) list l n1 n11 =
 R69 (c69 k (list.length : Int) l n1 n11) fun l1 r1 r2 r3 =>
 (lookP list r3).bind fun p1 =>
 (p1.atInt .i64 0).bind fun n2 =>
 r96 l1 r1 r2 n2 := by kernel_rfl
/-! 114 : impl.GoodWord -/
theorem n114 (k : Nat) (wide a : Int) : c114 (k + 1) wide a =
 R82 (c82 k wide) fun b1 =>
 bif b1 then
  R88 (c88 k wide) fun r1 =>
  r114 (decide (a ≤ r1))
 else r114 false := by kernel_rfl
/-! 139 : spec.l1Cur).next -/
theorem n139 (k : Nat) (l : List PV) (n1 n11 : Int) : c139 (k + 1) l n1 n11 =
 bif decide (n1 < (l.length : Int)) then
  (lookP l n1).bind fun p1 =>
  (p1.atInt .u8 0).bind fun n2 =>
  bif decide (IntKind.i64.wrap (n1 + 1) ≤ (l.length : Int)) then
   r139 l (IntKind.i64.wrap (n1 + 1)) (IntKind.u64.wrap ((IntKind.u64.wrap ((IntKind.u64.wrap (n11 * 6364136223846793005)) + (IntKind.u64.wrap (IntKind.i64.wrap n2)))) + 1442695040888963407)) (IntKind.i64.wrap n2)
  else r139 l (IntKind.i64.wrap (n1 + 1)) (IntKind.u64.wrap ((IntKind.u64.wrap ((IntKind.u64.wrap (n11 * 6364136223846793005)) + (IntKind.u64.wrap (IntKind.i64.wrap n2)))) + 1442695040888963407)) (IntKind.i64.wrap (bitsOp .and .u64 (shrI .u64 (IntKind.u64.wrap ((IntKind.u64.wrap ((IntKind.u64.wrap (n11 * 6364136223846793005)) + (IntKind.u64.wrap (IntKind.i64.wrap n2)))) + 1442695040888963407)) 40) 255))
 else
  bif decide (IntKind.i64.wrap (n1 + 1) ≤ (l.length : Int)) then
   r139 l (IntKind.i64.wrap (n1 + 1)) (IntKind.u64.wrap ((IntKind.u64.wrap ((IntKind.u64.wrap (n11 * 6364136223846793005)) + 0)) + 1442695040888963407)) 0
  else r139 l (IntKind.i64.wrap (n1 + 1)) (IntKind.u64.wrap ((IntKind.u64.wrap ((IntKind.u64.wrap (n11 * 6364136223846793005)) + 0)) + 1442695040888963407)) (IntKind.i64.wrap (bitsOp .and .u64 (shrI .u64 (IntKind.u64.wrap ((IntKind.u64.wrap ((IntKind.u64.wrap (n11 * 6364136223846793005)) + 0)) + 1442695040888963407)) 40) 255)) := by kernel_rfl
/-! 140 : spec.l1Cut -/
theorem n140 (k : Nat) (wide a : Int) : c140 (k + 1) wide a =
 L140_1 k k wide a 0 0 := by kernel_rfl
theorem sL140_1 (k n : Nat) (wide a out k1 : Int) : L140_1 k (n + 1) wide a out k1 =
 bif decide (k1 < wide) then
  bif !decide (IntKind.u64.wrap k1 < 0) then
   L140_1 k n wide a (bitsOp .or .u64 out (bitsOp .and .u64 a (shlI .u64 1 (IntKind.u64.wrap k1)))) (IntKind.i64.wrap (k1 + 1))
  else none
 else r140 out := by kernel_rfl
/-! 141 : impl.Node] -/
theorem n141 (k : Nat) (s : List PV) (n1 n11 : Int) : c141 (k + 1) s n1 n11 =
 L141_1 k k s (s.length : Int) 0 n1 n11 := by kernel_rfl
theorem sL141_1 (k n : Nat) (s : List PV) (t7 t8 n1 n11 : Int) : L141_1 k (n + 1) s t7 t8 n1 n11 =
 bif decide (t8 < t7) then
  (lookP s t8).bind fun p1 =>
  (p1.atRow 2 0).bind fun l1 =>
  R77 (c77 k l1 n1 n11) fun r1 r2 b1 =>
  bif b1 then
   r141 r1 r2 t8
  else L141_1 k n s t7 (IntKind.i64.wrap (t8 + 1)) r1 r2
 else r141 n1 n11 (-1) := by kernel_rfl
/-! 142 : impl.kindOf -/
theorem n142 (k : Nat) (t : List PV) : c142 (k + 1) t =
 (lookP t (IntKind.i64.wrap ((t.length : Int) - 1))).bind fun p1 =>
 (p1.atInt .i64 0).bind fun n1 =>
 R84 (c84 k n1) fun r1 r2 r3 =>
 r142 r3 := by kernel_rfl
/-! 143 : spec.l1Wide -/
theorem n143 (k : Nat) (wide : Int) : c143 (k + 1) wide =
 R54 (c54 k wide 1 64) fun b1 =>
 r143 b1 := by kernel_rfl
/-! 144 : spec.l2N -/
theorem n144 (k : Nat) (wide vars n1 n11 : Int) : c144 (k + 1) wide vars n1 n11 =
 bif (n1 == 1) then
  R162 (c162 k wide n11) fun b1 =>
  r144 b1
 else
  bif (n1 == 2) then
   r144 (decide (n11 < IntKind.u64.wrap vars))
  else
   bif (n1 == 20) then
    r144 (decide (n11 < 2))
   else r144 (n11 == 0) := by kernel_rfl
/-! 145 : slices.IndexFunc[[]int,int] -/
theorem n145 (k : Nat) (s : List PV) (n1 : Int) : c145 (k + 1) s n1 =
 L145_1 k k s (s.length : Int) 0 n1 := by kernel_rfl
theorem sL145_1 (k n : Nat) (s : List PV) (t7 t8 n1 : Int) : L145_1 k (n + 1) s t7 t8 n1 =
 bif decide (t8 < t7) then
  (lookP s t8).bind fun p1 =>
  (p1.atInt .i64 0).bind fun n2 =>
  R87 (c87 k n2 n1) fun r1 b1 =>
  bif b1 then
   r145 r1 t8
  else L145_1 k n s t7 (IntKind.i64.wrap (t8 + 1)) r1
 else r145 n1 (-1) := by kernel_rfl
/-! 146 : slices.ContainsFunc[[]uint64,uint64] -/
theorem n146 (k : Nat) (s : List PV) (n1 : Int) : c146 (k + 1) s n1 =
 R164 (c164 k s n1) fun r1 r2 =>
 r146 r1 (decide (r2 ≥ 0)) := by kernel_rfl
/-! 147 : impl.isState$1 -/
theorem n147 (k : Nat) (a n1 : Int) : c147 (k + 1) a n1 =
 R114 (c114 k n1 a) fun b1 =>
 r147 n1 (!b1) := by kernel_rfl
/-! 148 : impl.apply -/
theorem n148 (k : Nat) (wide op a b : Int) : c148 (k + 1) wide op a b =
 bif (op == 3) then
  R88 (c88 k wide) fun r1 =>
  r148 (bitsOp .and .u64 (IntKind.u64.wrap (a + b)) r1)
 else
  bif (op == 4) then
   R88 (c88 k wide) fun r2 =>
   r148 (bitsOp .and .u64 (IntKind.u64.wrap (a - b)) r2)
  else
   bif (op == 5) then
    R88 (c88 k wide) fun r3 =>
    r148 (bitsOp .and .u64 (IntKind.u64.wrap (a * b)) r3)
   else
    bif (op == 6) then
     R165 (c165 k wide a b) fun r4 r5 b1 =>
     R88 (c88 k wide) fun r6 =>
     r148 (bitsOp .and .u64 r4 r6)
    else
     bif (op == 7) then
      R165 (c165 k wide a b) fun r7 r8 b2 =>
      R88 (c88 k wide) fun r9 =>
      r148 (bitsOp .and .u64 r8 r9)
     else
      bif (op == 8) then
       R88 (c88 k wide) fun r10 =>
       r148 (bitsOp .and .u64 (bitsOp .and .u64 a b) r10)
      else
       bif (op == 17) then
        R88 (c88 k wide) fun r11 =>
        r148 (bitsOp .and .u64 (bitsOp .and .u64 a b) r11)
       else
        bif (op == 9) then
         R88 (c88 k wide) fun r12 =>
         r148 (bitsOp .and .u64 (bitsOp .or .u64 a b) r12)
        else
         bif (op == 18) then
          R88 (c88 k wide) fun r13 =>
          r148 (bitsOp .and .u64 (bitsOp .or .u64 a b) r13)
         else
          bif (op == 10) then
           R88 (c88 k wide) fun r14 =>
           r148 (bitsOp .and .u64 (bitsOp .xor .u64 a b) r14)
          else
           bif (op == 11) then
            R166 (c166 k wide a b (op == 11)) fun r15 =>
            R88 (c88 k wide) fun r16 =>
            r148 (bitsOp .and .u64 r15 r16)
           else
            bif (op == 12) then
            R166 (c166 k wide a b (op == 11)) fun r17 =>
            R88 (c88 k wide) fun r18 =>
            r148 (bitsOp .and .u64 r17 r18)
            else
            bif (op == 14) then
            R167 (c167 k (a == b)) fun r19 =>
            R88 (c88 k wide) fun r20 =>
            r148 (bitsOp .and .u64 r19 r20)
            else
            bif (op == 15) then
            R167 (c167 k (decide (a < b))) fun r21 =>
            R88 (c88 k wide) fun r22 =>
            r148 (bitsOp .and .u64 r21 r22)
            else
            bif (op == 16) then
            R95 (c95 k wide a) fun r23 =>
            R95 (c95 k wide b) fun r24 =>
            R167 (c167 k (decide (r23 < r24))) fun r25 =>
            R88 (c88 k wide) fun r26 =>
            r148 (bitsOp .and .u64 r25 r26)
            else
            R88 (c88 k wide) fun r27 =>
            r148 (bitsOp .and .u64 0 r27) := by kernel_rfl
/-! 162 : spec.GoodWord -/
theorem n162 (k : Nat) (wide a : Int) : c162 (k + 1) wide a =
 R143 (c143 k wide) fun b1 =>
 bif b1 then
  R140 (c140 k wide a) fun r1 =>
  r162 (r1 == a)
 else r162 false := by kernel_rfl
/-! 164 : slices.IndexFunc[[]uint64,uint64] -/
theorem n164 (k : Nat) (s : List PV) (n1 : Int) : c164 (k + 1) s n1 =
 L164_1 k k s (s.length : Int) 0 n1 := by kernel_rfl
theorem sL164_1 (k n : Nat) (s : List PV) (t7 t8 n1 : Int) : L164_1 k (n + 1) s t7 t8 n1 =
 bif decide (t8 < t7) then
  (lookP s t8).bind fun p1 =>
  (p1.atInt .u64 0).bind fun n2 =>
  R147 (c147 k n2 n1) fun r1 b1 =>
  bif b1 then
   r164 r1 t8
  else L164_1 k n s t7 (IntKind.i64.wrap (t8 + 1)) r1
 else r164 n1 (-1) := by kernel_rfl
/-! 165 : impl.DivWord -/
theorem n165 (k : Nat) (wide a b : Int) : c165 (k + 1) wide a b =
 R94 (c94 k wide a b) fun b1 =>
 bif !b1 then
  r165 0 0 false
 else
  bif (b == 0) then
   R88 (c88 k wide) fun r1 =>
   r165 r1 a true
  else
   R178 (c178 k 0 a b) fun r2 r3 =>
   r165 r2 r3 true := by kernel_rfl
/-! 166 : impl.shift -/
theorem n166 (k : Nat) (wide a by1 : Int) (left : Bool) : c166 (k + 1) wide a by1 left =
 bif decide (by1 ≥ IntKind.u64.wrap wide) then
  r166 0
 else
  bif left then
   bif !decide (by1 < 0) then
    R88 (c88 k wide) fun r1 =>
    r166 (bitsOp .and .u64 (shlI .u64 a by1) r1)
   else none
  else
   bif !decide (by1 < 0) then
    r166 (shrI .u64 a by1)
   else none := by kernel_rfl
/-! 167 : impl.truth -/
theorem n167 (k : Nat) (holds : Bool) : c167 (k + 1) holds =
 bif holds then
  r167 1
 else r167 0 := by kernel_rfl
end Go.Proofs.Ytnliglgellapdaa
