/- Normal forms: printed by nf.py. -/
import Derived.Test.YtnliglgellapdaaCs
set_option linter.unusedVariables false
set_option maxRecDepth 100000
namespace Go.Proofs.Ytnliglgellapdaa
open Go.Dp
/-! 106 : impl.Program).isCommandNo -/
theorem n106 (k : Nat) (p p1 : Int) (p2 p3 : List PV) (k1 : Int) : c106 (k + 1) p p1 p2 p3 k1 =
 bif decide (k1 ≥ 0) then
  r106 (decide (k1 < (p3.length : Int)))
 else r106 false := by kernel_rfl
/-! 107 : impl.Program).holds -/
theorem n107 (k : Nat) (p p1 : Int) (p2 p3 t qs : List PV) : c107 (k + 1) p p1 p2 p3 t qs =
 R90 (c90 k p t qs) fun v1 =>
 r107 (v1 == 1) := by kernel_rfl
/-! 108 : impl.Program).after -/
theorem n108 (k : Nat) (p p1 : Int) (p2 p3 qc qc1 qs : List PV) : c108 (k + 1) p p1 p2 p3 qc qc1 qs =
 R150 (c150 k qs) fun l1 =>
 L108_1 k k qs l1.length qc1 (qc1.length : Int) 0 p p1 p2 p3 l1 := by kernel_rfl
theorem sL108_1 (k n : Nat) (qs : List PV) (outLen : Nat) (t13 : List PV) (t14 t15 n1 n11 : Int) (l l1 xs : List PV) : L108_1 k (n + 1) qs outLen t13 t14 t15 n1 n11 l l1 xs =
 bif decide (t15 < t14) then
  (lookP t13 t15).bind fun p1 =>
  bif p1.shp 2 then
   (p1.atInt .i64 0).bind fun n2 =>
   (p1.atRow 2 1).bind fun l2 =>
   R90 (c90 k n1 l2 qs) fun v1 =>
   bif decide ((0 : Int) ≤ n2) && decide (n2 < (outLen : Int)) then
    (xs[0 + n2.toNat]?).bind fun p2 =>
    L108_1 k n qs outLen t13 t14 (IntKind.i64.wrap (t15 + 1)) n1 n11 l l1 (xs.set (0 + n2.toNat) (PV.int .u64 v1))
   else none
  else none
 else r108 (xs.take outLen) := by kernel_rfl
/-! 114 : impl.GoodWord -/
theorem n114 (k : Nat) (wide a : Int) : c114 (k + 1) wide a =
 R82 (c82 k wide) fun b1 =>
 bif b1 then
  R88 (c88 k wide) fun v1 =>
  r114 (decide (a ≤ v1))
 else r114 false := by kernel_rfl
/-! 129 : spec.l1Cur).progOf -/
theorem n129 (k : Nat) (wide vars : Int) (l : List PV) (n1 n11 : Int) : c129 (k + 1) wide vars l n1 n11 =
 R69 (c69 k 2 l n1 n11) fun l1 v1 v2 v3 =>
 R75 (c75 k 3 l1 v1 v2) fun l2 v4 v5 b1 =>
 bif b1 then
  R91 (c91 k wide vars 1 l2 v4 v5) fun l3 v6 v7 l4 =>
  R69 (c69 k 3 l3 v6 v7) fun l5 v8 v9 v10 =>
  L129_1 k k wide vars (IntKind.i64.wrap (1 + v10)) l5 v8 v9 0 0 [] [] wide vars l4.length 0 l4 []
 else
  R69 (c69 k 3 l2 v4 v5) fun l6 v11 v12 v13 =>
  L129_1 k k wide vars (IntKind.i64.wrap (1 + v13)) l6 v11 v12 0 0 [] [] wide vars 3 0 [PV.agg [.int .i64 2, .int .u64 0], PV.agg [.int .i64 1, .int .u64 (IntKind.u64.wrap v3)], PV.agg [.int .i64 14, .int .u64 0]] [] := by kernel_rfl
theorem sL129_1 (k n : Nat) (wide vars n1 : Int) (l : List PV) (n11 n12 n13 n14 : Int) (l1 l2 : List PV) (n15 n16 : Int) (Len Len1 : Nat) (xs xs1 : List PV) : L129_1 k (n + 1) wide vars n1 l n11 n12 n13 n14 l1 l2 n15 n16 Len Len1 xs xs1 =
 bif decide (n1 > 0) then
  R161 (c161 k wide vars l n11 n12) fun l3 v1 v2 l4 l5 =>
  bif decide (l5.length ≤ l5.length) then
   bif (Len1 == xs1.length) && decide ((Len1 + 1) * 48 ≤ LIM) && decide (Len1 + 1 ≤ LIM) then
    L129_1 k n wide vars (IntKind.i64.wrap (n1 - 1)) l3 v1 v2 n13 n14 l1 l2 n15 n16 Len (Len1 + 1) xs (xs1 ++ [PV.agg [.row 2 0 l4, .row 2 0 (l5.take l5.length)]])
   else none
  else none
 else
  bif (Len1 == xs1.length) then
   r129 l n11 n12 n15 n16 (xs.take Len) (xs1.take Len1)
  else none := by kernel_rfl
/-! 130 : spec.l1Cur).state -/
theorem n130 (k : Nat) (wide vars : Int) (l : List PV) (n1 n11 : Int) : c130 (k + 1) wide vars l n1 n11 =
 L130_1 k k wide vars 0 0 l n1 n11 [] := by kernel_rfl
theorem sL130_1 (k n : Nat) (wide vars : Int) (lLen : Nat) (k1 : Int) (l : List PV) (n1 n11 : Int) (xs : List PV) : L130_1 k (n + 1) wide vars lLen k1 l n1 n11 xs =
 bif decide (k1 < vars) then
  R157 (c157 k wide l n1 n11) fun l1 v1 v2 v3 =>
  bif decide ((lLen + 1) * 8 ≤ LIM) && decide (lLen + 1 ≤ LIM) then
   L130_1 k n wide vars (lLen + 1) (IntKind.i64.wrap (k1 + 1)) l1 v1 v2 ((xs.take lLen) ++ [PV.int .u64 v3])
  else none
 else r130 l n1 n11 (xs.take lLen) := by kernel_rfl
/-! 131 : spec.l2Words -/
theorem n131 (k : Nat) (wide : Int) (state : List PV) : c131 (k + 1) wide state =
 L131_1 k k wide state (state.length : Int) 0 := by kernel_rfl
theorem sL131_1 (k n : Nat) (wide : Int) (t7 : List PV) (t8 t9 : Int) : L131_1 k (n + 1) wide t7 t8 t9 =
 bif decide (t9 < t8) then
  (lookP t7 t9).bind fun p1 =>
  (p1.atInt .u64 0).bind fun n1 =>
  R162 (c162 k wide n1) fun b1 =>
  bif !b1 then
   r131 false
  else L131_1 k n wide t7 t8 (IntKind.i64.wrap (t9 + 1))
 else r131 true := by kernel_rfl
/-! 132 : impl.Program).isCondition -/
theorem n132 (k : Nat) (p p1 : Int) (p2 p3 t : List PV) : c132 (k + 1) p p1 p2 p3 t =
 R78 (c78 k p p1 t 2) fun b1 =>
 r132 b1 := by kernel_rfl
/-! 133 : impl.Command] -/
theorem n133 (k : Nat) (qs : List PV) (n1 n11 : Int) (l l1 : List PV) : c133 (k + 1) qs n1 n11 l l1 =
 R163 (c163 k qs n1 n11 l l1) fun v1 v2 l2 l3 v3 =>
 r133 v1 v2 l2 l3 (decide (v3 ≥ 0)) := by kernel_rfl
/-! 134 : impl.GoodProgram$1 -/
theorem n134 (k : Nat) (qc qc1 : List PV) (n1 n11 : Int) (l l1 : List PV) : c134 (k + 1) qc qc1 n1 n11 l l1 =
 R135 (c135 k n1 n11 l l1 qc qc1) fun b1 =>
 r134 n1 n11 l l1 (!b1) := by kernel_rfl
/-! 135 : impl.Program).isCommand -/
theorem n135 (k : Nat) (p p1 : Int) (p2 p3 qc qc1 : List PV) : c135 (k + 1) p p1 p2 p3 qc qc1 =
 R132 (c132 k p p1 p2 p3 qc) fun b1 =>
 bif !b1 then
  r135 false
 else L135_1 k k qc1 (qc1.length : Int) 0 p p1 p2 p3 qc qc1 := by kernel_rfl
theorem sL135_1 (k n : Nat) (t13 : List PV) (t14 t15 n1 n11 : Int) (l l1 l2 l3 : List PV) : L135_1 k (n + 1) t13 t14 t15 n1 n11 l l1 l2 l3 =
 bif decide (t15 < t14) then
  (lookP t13 t15).bind fun p1 =>
  bif p1.shp 2 then
   (p1.atInt .i64 0).bind fun n2 =>
   (p1.atRow 2 1).bind fun l4 =>
   bif decide (n2 < 0) then
    r135 false
   else
    bif decide (n2 ≥ n11) then
     r135 false
    else
     bif decide (t15 > 0) then
      (lookP l3 (IntKind.i64.wrap (t15 - 1))).bind fun p2 =>
      (p2.atInt .i64 0).bind fun n3 =>
      bif decide (n3 ≥ n2) then
       r135 false
      else
       R78 (c78 k n1 n11 l4 1) fun b1 =>
       bif !b1 then
        r135 false
       else L135_1 k n t13 t14 (IntKind.i64.wrap (t15 + 1)) n1 n11 l l1 l2 l3
     else
      R78 (c78 k n1 n11 l4 1) fun b2 =>
      bif !b2 then
       r135 false
      else L135_1 k n t13 t14 (IntKind.i64.wrap (t15 + 1)) n1 n11 l l1 l2 l3
  else none
 else r135 true := by kernel_rfl
/-! 136 : spec.l7Asks -/
theorem n136 (k : Nat) (p p1 : Int) (p2 p3 t : List PV) : c136 (k + 1) p p1 p2 p3 t =
 R80 (c80 k p p1 t) fun v1 =>
 r136 (v1 == 2) := by kernel_rfl
/-! 137 : spec.l7Command -/
theorem n137 (k : Nat) (p p1 : Int) (p2 p3 qc qc1 : List PV) : c137 (k + 1) p p1 p2 p3 qc qc1 =
 R136 (c136 k p p1 p2 p3 qc) fun b1 =>
 bif !b1 then
  r137 false
 else
  bif decide ((qc1.length : Int) > p1) then
   r137 false
  else L137_1 k k qc1 (qc1.length : Int) 0 p p1 p2 p3 qc qc1 := by kernel_rfl
theorem sL137_1 (k n : Nat) (t21 : List PV) (t22 t23 n1 n11 : Int) (l l1 l2 l3 : List PV) : L137_1 k (n + 1) t21 t22 t23 n1 n11 l l1 l2 l3 =
 bif decide (t23 < t22) then
  (lookP t21 t23).bind fun p1 =>
  bif p1.shp 2 then
   (p1.atInt .i64 0).bind fun n2 =>
   (p1.atRow 2 1).bind fun l4 =>
   R54 (c54 k n2 0 (IntKind.i64.wrap (n11 - 1))) fun b1 =>
   bif !b1 then
    r137 false
   else
    bif decide (t23 > 0) then
     (lookP l3 (IntKind.i64.wrap (t23 - 1))).bind fun p2 =>
     (p2.atInt .i64 0).bind fun n3 =>
     bif decide (n3 ≥ n2) then
      r137 false
     else
      R80 (c80 k n1 n11 l4) fun v1 =>
      bif (v1 != 1) then
       r137 false
      else L137_1 k n t21 t22 (IntKind.i64.wrap (t23 + 1)) n1 n11 l l1 l2 l3
    else
     R80 (c80 k n1 n11 l4) fun v2 =>
     bif (v2 != 1) then
      r137 false
     else L137_1 k n t21 t22 (IntKind.i64.wrap (t23 + 1)) n1 n11 l l1 l2 l3
  else none
 else r137 true := by kernel_rfl
/-! 138 : impl.Program).states -/
theorem n138 (k : Nat) (p p1 : Int) (p2 p3 : List PV) : c138 (k + 1) p p1 p2 p3 =
 bif !decide (IntKind.i64.wrap (p * p1) < 0) then
  r138 (shlI .i64 1 (IntKind.i64.wrap (p * p1)))
 else none := by kernel_rfl
/-! 139 : spec.l1Cur).next -/
theorem n139 (k : Nat) (l : List PV) (n1 n11 : Int) : c139 (k + 1) l n1 n11 =
 bif decide (n1 < (l.length : Int)) then
  (lookP l n1).bind fun p1 =>
  (p1.atInt .u8 0).bind fun n2 =>
  bif decide (IntKind.i64.wrap (n1 + 1) ≤ (l.length : Int)) then
   r139 l (IntKind.i64.wrap (n1 + 1)) (IntKind.u64.wrap ((IntKind.u64.wrap ((IntKind.u64.wrap (n11 * 6364136223846793005)) + (IntKind.u64.wrap (IntKind.i64.wrap n2)))) + 1442695040888963407)) (IntKind.i64.wrap n2)
  else r139 l (IntKind.i64.wrap (n1 + 1)) (IntKind.u64.wrap ((IntKind.u64.wrap ((IntKind.u64.wrap (n11 * 6364136223846793005)) + (IntKind.u64.wrap (IntKind.i64.wrap n2)))) + 1442695040888963407)) (IntKind.i64.wrap (bitsOp .and .u64 (shrI .u64 (IntKind.u64.wrap ((IntKind.u64.wrap ((IntKind.u64.wrap (n11 * 6364136223846793005)) + (IntKind.u64.wrap (IntKind.i64.wrap n2)))) + 1442695040888963407)) 40) 255))
 else
  bif decide (IntKind.i64.wrap (n1 + 1) ≤ (l.length : Int)) then
   r139 l (IntKind.i64.wrap (n1 + 1)) (IntKind.u64.wrap ((IntKind.u64.wrap ((IntKind.u64.wrap (n11 * 6364136223846793005)) + 0)) + 1442695040888963407)) 0
  else r139 l (IntKind.i64.wrap (n1 + 1)) (IntKind.u64.wrap ((IntKind.u64.wrap ((IntKind.u64.wrap (n11 * 6364136223846793005)) + 0)) + 1442695040888963407)) (IntKind.i64.wrap (bitsOp .and .u64 (shrI .u64 (IntKind.u64.wrap ((IntKind.u64.wrap ((IntKind.u64.wrap (n11 * 6364136223846793005)) + 0)) + 1442695040888963407)) 40) 255)) := by kernel_rfl
/-! 140 : spec.l1Cut -/
theorem n140 (k : Nat) (wide a : Int) : c140 (k + 1) wide a =
 L140_1 k k wide a 0 0 := by kernel_rfl
theorem sL140_1 (k n : Nat) (wide a out k1 : Int) : L140_1 k (n + 1) wide a out k1 =
 bif decide (k1 < wide) then
  bif !decide (IntKind.u64.wrap k1 < 0) then
   L140_1 k n wide a (bitsOp .or .u64 out (bitsOp .and .u64 a (shlI .u64 1 (IntKind.u64.wrap k1)))) (IntKind.i64.wrap (k1 + 1))
  else none
 else r140 out := by kernel_rfl
/-! 141 : impl.Node] -/
theorem n141 (k : Nat) (qs : List PV) (n1 n11 : Int) : c141 (k + 1) qs n1 n11 =
 L141_1 k k qs (qs.length : Int) 0 n1 n11 := by kernel_rfl
theorem sL141_1 (k n : Nat) (qs : List PV) (t7 t8 n1 n11 : Int) : L141_1 k (n + 1) qs t7 t8 n1 n11 =
 bif decide (t8 < t7) then
  (lookP qs t8).bind fun p1 =>
  (p1.atRow 2 0).bind fun l1 =>
  R77 (c77 k l1 n1 n11) fun v1 v2 b1 =>
  bif b1 then
   r141 v1 v2 t8
  else L141_1 k n qs t7 (IntKind.i64.wrap (t8 + 1)) v1 v2
 else r141 n1 n11 (-1) := by kernel_rfl
/-! 142 : impl.kindOf -/
theorem n142 (k : Nat) (t : List PV) : c142 (k + 1) t =
 (lookP t (IntKind.i64.wrap ((t.length : Int) - 1))).bind fun p1 =>
 (p1.atInt .i64 0).bind fun n1 =>
 R84 (c84 k n1) fun v1 v2 v3 =>
 r142 v3 := by kernel_rfl
/-! 143 : spec.l1Wide -/
theorem n143 (k : Nat) (wide : Int) : c143 (k + 1) wide =
 R54 (c54 k wide 1 64) fun b1 =>
 r143 b1 := by kernel_rfl
/-! 144 : spec.l2N -/
theorem n144 (k : Nat) (wide vars n1 n11 : Int) : c144 (k + 1) wide vars n1 n11 =
 bif (n1 == 1) then
  R162 (c162 k wide n11) fun b1 =>
  r144 b1
 else
  bif (n1 == 2) then
   r144 (decide (n11 < IntKind.u64.wrap vars))
  else
   bif (n1 == 20) then
    r144 (decide (n11 < 2))
   else r144 (n11 == 0) := by kernel_rfl
/-! 145 : slices.IndexFunc[[]int,int] -/
theorem n145 (k : Nat) (qs : List PV) (n1 : Int) : c145 (k + 1) qs n1 =
 L145_1 k k qs (qs.length : Int) 0 n1 := by kernel_rfl
theorem sL145_1 (k n : Nat) (qs : List PV) (t7 t8 n1 : Int) : L145_1 k (n + 1) qs t7 t8 n1 =
 bif decide (t8 < t7) then
  (lookP qs t8).bind fun p1 =>
  (p1.atInt .i64 0).bind fun n2 =>
  R87 (c87 k n2 n1) fun v1 b1 =>
  bif b1 then
   r145 v1 t8
  else L145_1 k n qs t7 (IntKind.i64.wrap (t8 + 1)) v1
 else r145 n1 (-1) := by kernel_rfl
/-! 146 : slices.ContainsFunc[[]uint64,uint64] -/
theorem n146 (k : Nat) (qs : List PV) (n1 : Int) : c146 (k + 1) qs n1 =
 R164 (c164 k qs n1) fun v1 v2 =>
 r146 v1 (decide (v2 ≥ 0)) := by kernel_rfl
/-! 147 : impl.isState$1 -/
theorem n147 (k : Nat) (a n1 : Int) : c147 (k + 1) a n1 =
 R114 (c114 k n1 a) fun b1 =>
 r147 n1 (!b1) := by kernel_rfl
/-! 148 : impl.apply -/
theorem n148 (k : Nat) (wide op a b : Int) : c148 (k + 1) wide op a b =
 bif (op == 3) then
  R88 (c88 k wide) fun v1 =>
  r148 (bitsOp .and .u64 (IntKind.u64.wrap (a + b)) v1)
 else
  bif (op == 4) then
   R88 (c88 k wide) fun v2 =>
   r148 (bitsOp .and .u64 (IntKind.u64.wrap (a - b)) v2)
  else
   bif (op == 5) then
    R88 (c88 k wide) fun v3 =>
    r148 (bitsOp .and .u64 (IntKind.u64.wrap (a * b)) v3)
   else
    bif (op == 6) then
     R165 (c165 k wide a b) fun v4 v5 b1 =>
     R88 (c88 k wide) fun v6 =>
     r148 (bitsOp .and .u64 v4 v6)
    else
     bif (op == 7) then
      R165 (c165 k wide a b) fun v7 v8 b2 =>
      R88 (c88 k wide) fun v9 =>
      r148 (bitsOp .and .u64 v8 v9)
     else
      bif (op == 8) then
       R88 (c88 k wide) fun v10 =>
       r148 (bitsOp .and .u64 (bitsOp .and .u64 a b) v10)
      else
       bif (op == 17) then
        R88 (c88 k wide) fun v11 =>
        r148 (bitsOp .and .u64 (bitsOp .and .u64 a b) v11)
       else
        bif (op == 9) then
         R88 (c88 k wide) fun v12 =>
         r148 (bitsOp .and .u64 (bitsOp .or .u64 a b) v12)
        else
         bif (op == 18) then
          R88 (c88 k wide) fun v13 =>
          r148 (bitsOp .and .u64 (bitsOp .or .u64 a b) v13)
         else
          bif (op == 10) then
           R88 (c88 k wide) fun v14 =>
           r148 (bitsOp .and .u64 (bitsOp .xor .u64 a b) v14)
          else
           bif (op == 11) then
            R166 (c166 k wide a b (op == 11)) fun v15 =>
            R88 (c88 k wide) fun v16 =>
            r148 (bitsOp .and .u64 v15 v16)
           else
            bif (op == 12) then
            R166 (c166 k wide a b (op == 11)) fun v17 =>
            R88 (c88 k wide) fun v18 =>
            r148 (bitsOp .and .u64 v17 v18)
            else
            bif (op == 14) then
            R167 (c167 k (a == b)) fun v19 =>
            R88 (c88 k wide) fun v20 =>
            r148 (bitsOp .and .u64 v19 v20)
            else
            bif (op == 15) then
            R167 (c167 k (decide (a < b))) fun v21 =>
            R88 (c88 k wide) fun v22 =>
            r148 (bitsOp .and .u64 v21 v22)
            else
            bif (op == 16) then
            R95 (c95 k wide a) fun v23 =>
            R95 (c95 k wide b) fun v24 =>
            R167 (c167 k (decide (v23 < v24))) fun v25 =>
            R88 (c88 k wide) fun v26 =>
            r148 (bitsOp .and .u64 v25 v26)
            else
            R88 (c88 k wide) fun v27 =>
            r148 (bitsOp .and .u64 0 v27) := by kernel_rfl
/-! 149 : impl.Node] -/
theorem n149 (k : Nat) (qs : List PV) (n1 : Int) : c149 (k + 1) qs n1 =
 bif decide (n1 < 0) then
  none
 else
  bif decide (IntKind.i64.wrap (n1 - (IntKind.i64.wrap (0 - (qs.length : Int)))) > 0) then
   bif decide ((0 : Int) ≤ (qs.length : Int)) then
    bif decide ((0 : Int) < IntKind.i64.wrap (n1 - (IntKind.i64.wrap (0 - (qs.length : Int))))) && decide (((IntKind.i64.wrap (n1 - (IntKind.i64.wrap (0 - (qs.length : Int))))).toNat) * 16 ≤ LIM) && decide ((IntKind.i64.wrap (n1 - (IntKind.i64.wrap (0 - (qs.length : Int))))).toNat ≤ LIM) then
     bif decide ((0 : Int) ≤ (qs.length : Int)) && decide ((qs.length : Int) ≤ ((IntKind.i64.wrap (n1 - (IntKind.i64.wrap (0 - (qs.length : Int))))).toNat : Int)) then
      r149 ((List.replicate ((IntKind.i64.wrap (n1 - (IntKind.i64.wrap (0 - (qs.length : Int))))).toNat) (PV.agg [.int .i64 0, .int .u64 0])).take qs.length)
     else none
    else none
   else none
  else r149 [] := by kernel_rfl
/-! 150 : slices.Clone[[]uint64,uint64] -/
theorem n150 (k : Nat) (qs : List PV) (h1 : qs.length * 8 ≤ LIM) (h2 : qs.length ≤ LIM) : c150 (k + 1) qs = r150 qs := evF_T (by simp [T, cloneT, clones, lk, h1, h2] <;> rfl)
/-! 157 : spec.l1Cur).word -/
theorem n157 (k : Nat) (wide : Int) (l : List PV) (n1 n11 : Int) : c157 (k + 1) wide l n1 n11 =
 R69 (c69 k 5 l n1 n11) fun l1 v1 v2 v3 =>
 R69 (c69 k 5 l1 v1 v2) fun l2 v4 v5 v6 =>
 bif (v6 == 0) then
  R173 (c173 k l2 v4 v5) fun l3 v7 v8 v9 =>
  R75 (c75 k 30 l3 v7 v8) fun l4 v10 v11 b1 =>
  bif b1 then
   r157 l4 v10 v11 v9
  else
   R140 (c140 k wide v9) fun v12 =>
   r157 l4 v10 v11 v12
 else
  bif (v6 == 1) then
   R69 (c69 k 3 l2 v4 v5) fun l5 v13 v14 v15 =>
   R75 (c75 k 30 l5 v13 v14) fun l6 v16 v17 b2 =>
   bif b2 then
    r157 l6 v16 v17 (IntKind.u64.wrap (18446744073709551615 - (IntKind.u64.wrap v15)))
   else
    R140 (c140 k wide (IntKind.u64.wrap (18446744073709551615 - (IntKind.u64.wrap v15)))) fun v18 =>
    r157 l6 v16 v17 v18
  else
   bif (v6 == 2) then
    R69 (c69 k 64 l2 v4 v5) fun l7 v19 v20 v21 =>
    bif !decide (IntKind.u64.wrap v21 < 0) then
     R75 (c75 k 30 l7 v19 v20) fun l8 v22 v23 b3 =>
     bif b3 then
      r157 l8 v22 v23 (shlI .u64 1 (IntKind.u64.wrap v21))
     else
      R140 (c140 k wide (shlI .u64 1 (IntKind.u64.wrap v21))) fun v24 =>
      r157 l8 v22 v23 v24
    else none
   else
    R75 (c75 k 30 l2 v4 v5) fun l9 v25 v26 b4 =>
    bif b4 then
     r157 l9 v25 v26 (IntKind.u64.wrap v3)
    else
     R140 (c140 k wide (IntKind.u64.wrap v3)) fun v27 =>
     r157 l9 v25 v26 v27 := by kernel_rfl
/-! 161 : spec.l1Cur).command -/
theorem n161 (k : Nat) (wide vars : Int) (l : List PV) (n1 n11 : Int) : c161 (k + 1) wide vars l n1 n11 =
 R69 (c69 k 2 l n1 n11) fun l1 v1 v2 v3 =>
 R91 (c91 k wide vars v3 l1 v1 v2) fun l2 v4 v5 l3 =>
 L161_1 k k wide vars 0 l2 v4 v5 [] [] l3.length 0 l3 [] := by kernel_rfl
theorem sL161_1 (k n : Nat) (wide vars v : Int) (l : List PV) (n1 n11 : Int) (l1 l2 : List PV) (Len Len1 : Nat) (xs xs1 : List PV) : L161_1 k (n + 1) wide vars v l n1 n11 l1 l2 Len Len1 xs xs1 =
 bif decide (v < vars) then
  R75 (c75 k 2 l n1 n11) fun l3 v1 v2 b1 =>
  bif b1 then
   R73 (c73 k wide vars 1 l3 v1 v2) fun l4 v3 v4 l5 =>
   bif decide ((Len1 + 1) * 32 ≤ LIM) && decide (Len1 + 1 ≤ LIM) then
    L161_1 k n wide vars (IntKind.i64.wrap (v + 1)) l4 v3 v4 l1 l2 Len (Len1 + 1) xs ((xs1.take Len1) ++ [PV.agg [.int .i64 v, .row 2 0 (l5.take l5.length)]])
   else none
  else L161_1 k n wide vars (IntKind.i64.wrap (v + 1)) l3 v1 v2 l1 l2 Len Len1 xs xs1
 else r161 l n1 n11 (xs.take Len) (xs1.take Len1) := by kernel_rfl
/-! 162 : spec.GoodWord -/
theorem n162 (k : Nat) (wide a : Int) : c162 (k + 1) wide a =
 R143 (c143 k wide) fun b1 =>
 bif b1 then
  R140 (c140 k wide a) fun v1 =>
  r162 (v1 == a)
 else r162 false := by kernel_rfl
/-! 163 : impl.Command] -/
theorem n163 (k : Nat) (qs : List PV) (n1 n11 : Int) (l l1 : List PV) : c163 (k + 1) qs n1 n11 l l1 =
 L163_1 k k qs (qs.length : Int) 0 n1 n11 l l1 := by kernel_rfl
theorem sL163_1 (k n : Nat) (qs : List PV) (t7 t8 n1 n11 : Int) (l l1 : List PV) : L163_1 k (n + 1) qs t7 t8 n1 n11 l l1 =
 bif decide (t8 < t7) then
  (lookP qs t8).bind fun p1 =>
  bif p1.shp 2 then
   (p1.atRow 2 0).bind fun l2 =>
   (p1.atRow 2 1).bind fun l3 =>
   R134 (c134 k l2 l3 n1 n11 l l1) fun v1 v2 l4 l5 b1 =>
   bif b1 then
    r163 v1 v2 l4 l5 t8
   else L163_1 k n qs t7 (IntKind.i64.wrap (t8 + 1)) v1 v2 l4 l5
  else none
 else r163 n1 n11 l l1 (-1) := by kernel_rfl
/-! 164 : slices.IndexFunc[[]uint64,uint64] -/
theorem n164 (k : Nat) (qs : List PV) (n1 : Int) : c164 (k + 1) qs n1 =
 L164_1 k k qs (qs.length : Int) 0 n1 := by kernel_rfl
theorem sL164_1 (k n : Nat) (qs : List PV) (t7 t8 n1 : Int) : L164_1 k (n + 1) qs t7 t8 n1 =
 bif decide (t8 < t7) then
  (lookP qs t8).bind fun p1 =>
  (p1.atInt .u64 0).bind fun n2 =>
  R147 (c147 k n2 n1) fun v1 b1 =>
  bif b1 then
   r164 v1 t8
  else L164_1 k n qs t7 (IntKind.i64.wrap (t8 + 1)) v1
 else r164 n1 (-1) := by kernel_rfl
/-! 165 : impl.DivWord -/
theorem n165 (k : Nat) (wide a b : Int) : c165 (k + 1) wide a b =
 R94 (c94 k wide a b) fun b1 =>
 bif !b1 then
  r165 0 0 false
 else
  bif (b == 0) then
   R88 (c88 k wide) fun v1 =>
   r165 v1 a true
  else
   R178 (c178 k 0 a b) fun v2 v3 =>
   r165 v2 v3 true := by kernel_rfl
/-! 166 : impl.shift -/
theorem n166 (k : Nat) (wide a by1 : Int) (left : Bool) : c166 (k + 1) wide a by1 left =
 bif decide (by1 ≥ IntKind.u64.wrap wide) then
  r166 0
 else
  bif left then
   bif !decide (by1 < 0) then
    R88 (c88 k wide) fun v1 =>
    r166 (bitsOp .and .u64 (shlI .u64 a by1) v1)
   else none
  else
   bif !decide (by1 < 0) then
    r166 (shrI .u64 a by1)
   else none := by kernel_rfl
/-! 167 : impl.truth -/
theorem n167 (k : Nat) (holds : Bool) : c167 (k + 1) holds =
 bif holds then
  r167 1
 else r167 0 := by kernel_rfl
/-! 173 : spec.l1Cur).long -/
theorem n173 (k : Nat) (l : List PV) (n1 n11 : Int) : c173 (k + 1) l n1 n11 =
 L173_1 k k 0 0 l n1 n11 := by kernel_rfl
theorem sL173_1 (k n : Nat) (n1 i : Int) (l : List PV) (n11 n12 : Int) : L173_1 k (n + 1) n1 i l n11 n12 =
 bif decide (i < 8) then
  R139 (c139 k l n11 n12) fun l1 v1 v2 v3 =>
  L173_1 k n (bitsOp .or .u64 (shlI .u64 n1 8) (IntKind.u64.wrap v3)) (IntKind.i64.wrap (i + 1)) l1 v1 v2
 else r173 l n11 n12 n1 := by kernel_rfl
end Go.Proofs.Ytnliglgellapdaa
