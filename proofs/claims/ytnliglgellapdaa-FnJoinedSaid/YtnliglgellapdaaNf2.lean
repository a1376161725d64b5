/- Normal forms: printed by nf.py. -/
import Derived.Test.YtnliglgellapdaaCs
set_option linter.unusedVariables false
set_option maxRecDepth 100000
namespace Go.Proofs.Ytnliglgellapdaa
open Go.Dp
/-! 94 : impl.areWords -/
theorem n94 (k : Nat) (wide a b : Int) : c94 (k + 1) wide a b =
 R114 (c114 k wide a) fun b1 =>
 bif b1 then
  R114 (c114 k wide b) fun b2 =>
  r94 b2
 else r94 false := by kernel_rfl
/-! 95 : impl.signed -/
theorem n95 (k : Nat) (wide a : Int) : c95 (k + 1) wide a =
 bif !decide (IntKind.i64.wrap (64 - wide) < 0) then
  bif !decide (IntKind.i64.wrap (64 - wide) < 0) then
   r95 (shrI .i64 (IntKind.i64.wrap (shlI .u64 a (IntKind.i64.wrap (64 - wide)))) (IntKind.i64.wrap (64 - wide)))
  else none
 else none := by kernel_rfl
/-! 96 : spec.l1Cur).among -/
theorem n96 (k : Nat) (list l : List PV) (n1 n11 : Int) : c96 (k + 1) list l n1 n11 =
 R69 (c69 k (list.length : Int) l n1 n11) fun l1 v1 v2 v3 =>
 (lookP list v3).bind fun p1 =>
 (p1.atInt .i64 0).bind fun n2 =>
 r96 l1 v1 v2 n2 := by kernel_rfl
/-! 97 : impl.Node] -/
theorem n97 (k : Nat) (qs : List PV) (h1 : qs.length * 16 ≤ LIM) (h2 : qs.length ≤ LIM) : c97 (k + 1) qs = r97 qs := evF_T (by simp [T, cloneT, clones, lk, h1, h2])
/-! 114 : impl.GoodWord -/
theorem n114 (k : Nat) (wide a : Int) : c114 (k + 1) wide a =
 R82 (c82 k wide) fun b1 =>
 bif b1 then
  R88 (c88 k wide) fun v1 =>
  r114 (decide (a ≤ v1))
 else r114 false := by kernel_rfl
/-! 139 : spec.l1Cur).next -/
theorem n139 (k : Nat) (l : List PV) (n1 n11 : Int) : c139 (k + 1) l n1 n11 =
 bif decide (n1 < (l.length : Int)) then
  (lookP l n1).bind fun p1 =>
  (p1.atInt .u8 0).bind fun n2 =>
  bif decide (IntKind.i64.wrap (n1 + 1) ≤ (l.length : Int)) then
   r139 l (IntKind.i64.wrap (n1 + 1)) (IntKind.u64.wrap ((IntKind.u64.wrap ((IntKind.u64.wrap (n11 * 6364136223846793005)) + (IntKind.u64.wrap (IntKind.i64.wrap n2)))) + 1442695040888963407)) (IntKind.i64.wrap n2)
  else r139 l (IntKind.i64.wrap (n1 + 1)) (IntKind.u64.wrap ((IntKind.u64.wrap ((IntKind.u64.wrap (n11 * 6364136223846793005)) + (IntKind.u64.wrap (IntKind.i64.wrap n2)))) + 1442695040888963407)) (IntKind.i64.wrap (bitsOp .and .u64 (shrI .u64 (IntKind.u64.wrap ((IntKind.u64.wrap ((IntKind.u64.wrap (n11 * 6364136223846793005)) + (IntKind.u64.wrap (IntKind.i64.wrap n2)))) + 1442695040888963407)) 40) 255))
 else
  bif decide (IntKind.i64.wrap (n1 + 1) ≤ (l.length : Int)) then
   r139 l (IntKind.i64.wrap (n1 + 1)) (IntKind.u64.wrap ((IntKind.u64.wrap ((IntKind.u64.wrap (n11 * 6364136223846793005)) + 0)) + 1442695040888963407)) 0
  else r139 l (IntKind.i64.wrap (n1 + 1)) (IntKind.u64.wrap ((IntKind.u64.wrap ((IntKind.u64.wrap (n11 * 6364136223846793005)) + 0)) + 1442695040888963407)) (IntKind.i64.wrap (bitsOp .and .u64 (shrI .u64 (IntKind.u64.wrap ((IntKind.u64.wrap ((IntKind.u64.wrap (n11 * 6364136223846793005)) + 0)) + 1442695040888963407)) 40) 255)) := by kernel_rfl
/-! 140 : spec.l1Cut -/
theorem n140 (k : Nat) (wide a : Int) : c140 (k + 1) wide a =
 L140_1 k k wide a 0 0 := by kernel_rfl
theorem sL140_1 (k n : Nat) (wide a out k1 : Int) : L140_1 k (n + 1) wide a out k1 =
 bif decide (k1 < wide) then
  bif !decide (IntKind.u64.wrap k1 < 0) then
   L140_1 k n wide a (bitsOp .or .u64 out (bitsOp .and .u64 a (shlI .u64 1 (IntKind.u64.wrap k1)))) (IntKind.i64.wrap (k1 + 1))
  else none
 else r140 out := by kernel_rfl
/-! 141 : impl.Node] -/
theorem n141 (k : Nat) (qs : List PV) (n1 n11 : Int) : c141 (k + 1) qs n1 n11 =
 L141_1 k k qs (qs.length : Int) 0 n1 n11 := by kernel_rfl
theorem sL141_1 (k n : Nat) (qs : List PV) (t7 t8 n1 n11 : Int) : L141_1 k (n + 1) qs t7 t8 n1 n11 =
 bif decide (t8 < t7) then
  (lookP qs t8).bind fun p1 =>
  (p1.atRow 2 0).bind fun l1 =>
  R77 (c77 k l1 n1 n11) fun v1 v2 b1 =>
  bif b1 then
   r141 v1 v2 t8
  else L141_1 k n qs t7 (IntKind.i64.wrap (t8 + 1)) v1 v2
 else r141 n1 n11 (-1) := by kernel_rfl
/-! 142 : impl.kindOf -/
theorem n142 (k : Nat) (t : List PV) : c142 (k + 1) t =
 (lookP t (IntKind.i64.wrap ((t.length : Int) - 1))).bind fun p1 =>
 (p1.atInt .i64 0).bind fun n1 =>
 R84 (c84 k n1) fun v1 v2 v3 =>
 r142 v3 := by kernel_rfl
/-! 143 : spec.l1Wide -/
theorem n143 (k : Nat) (wide : Int) : c143 (k + 1) wide =
 R54 (c54 k wide 1 64) fun b1 =>
 r143 b1 := by kernel_rfl
/-! 144 : spec.l2N -/
theorem n144 (k : Nat) (wide vars n1 n11 : Int) : c144 (k + 1) wide vars n1 n11 =
 bif (n1 == 1) then
  R162 (c162 k wide n11) fun b1 =>
  r144 b1
 else
  bif (n1 == 2) then
   r144 (decide (n11 < IntKind.u64.wrap vars))
  else
   bif (n1 == 20) then
    r144 (decide (n11 < 2))
   else r144 (n11 == 0) := by kernel_rfl
/-! 145 : slices.IndexFunc[[]int,int] -/
theorem n145 (k : Nat) (qs : List PV) (n1 : Int) : c145 (k + 1) qs n1 =
 L145_1 k k qs (qs.length : Int) 0 n1 := by kernel_rfl
theorem sL145_1 (k n : Nat) (qs : List PV) (t7 t8 n1 : Int) : L145_1 k (n + 1) qs t7 t8 n1 =
 bif decide (t8 < t7) then
  (lookP qs t8).bind fun p1 =>
  (p1.atInt .i64 0).bind fun n2 =>
  R87 (c87 k n2 n1) fun v1 b1 =>
  bif b1 then
   r145 v1 t8
  else L145_1 k n qs t7 (IntKind.i64.wrap (t8 + 1)) v1
 else r145 n1 (-1) := by kernel_rfl
/-! 146 : slices.ContainsFunc[[]uint64,uint64] -/
theorem n146 (k : Nat) (qs : List PV) (n1 : Int) : c146 (k + 1) qs n1 =
 R164 (c164 k qs n1) fun v1 v2 =>
 r146 v1 (decide (v2 ≥ 0)) := by kernel_rfl
/-! 147 : impl.isState$1 -/
theorem n147 (k : Nat) (a n1 : Int) : c147 (k + 1) a n1 =
 R114 (c114 k n1 a) fun b1 =>
 r147 n1 (!b1) := by kernel_rfl
/-! 148 : impl.apply -/
theorem n148 (k : Nat) (wide op a b : Int) : c148 (k + 1) wide op a b =
 bif (op == 3) then
  R88 (c88 k wide) fun v1 =>
  r148 (bitsOp .and .u64 (IntKind.u64.wrap (a + b)) v1)
 else
  bif (op == 4) then
   R88 (c88 k wide) fun v2 =>
   r148 (bitsOp .and .u64 (IntKind.u64.wrap (a - b)) v2)
  else
   bif (op == 5) then
    R88 (c88 k wide) fun v3 =>
    r148 (bitsOp .and .u64 (IntKind.u64.wrap (a * b)) v3)
   else
    bif (op == 6) then
     R165 (c165 k wide a b) fun v4 v5 b1 =>
     R88 (c88 k wide) fun v6 =>
     r148 (bitsOp .and .u64 v4 v6)
    else
     bif (op == 7) then
      R165 (c165 k wide a b) fun v7 v8 b2 =>
      R88 (c88 k wide) fun v9 =>
      r148 (bitsOp .and .u64 v8 v9)
     else
      bif (op == 8) then
       R88 (c88 k wide) fun v10 =>
       r148 (bitsOp .and .u64 (bitsOp .and .u64 a b) v10)
      else
       bif (op == 17) then
        R88 (c88 k wide) fun v11 =>
        r148 (bitsOp .and .u64 (bitsOp .and .u64 a b) v11)
       else
        bif (op == 9) then
         R88 (c88 k wide) fun v12 =>
         r148 (bitsOp .and .u64 (bitsOp .or .u64 a b) v12)
        else
         bif (op == 18) then
          R88 (c88 k wide) fun v13 =>
          r148 (bitsOp .and .u64 (bitsOp .or .u64 a b) v13)
         else
          bif (op == 10) then
           R88 (c88 k wide) fun v14 =>
           r148 (bitsOp .and .u64 (bitsOp .xor .u64 a b) v14)
          else
           bif (op == 11) then
            R166 (c166 k wide a b (op == 11)) fun v15 =>
            R88 (c88 k wide) fun v16 =>
            r148 (bitsOp .and .u64 v15 v16)
           else
            bif (op == 12) then
            R166 (c166 k wide a b (op == 11)) fun v17 =>
            R88 (c88 k wide) fun v18 =>
            r148 (bitsOp .and .u64 v17 v18)
            else
            bif (op == 14) then
            R167 (c167 k (a == b)) fun v19 =>
            R88 (c88 k wide) fun v20 =>
            r148 (bitsOp .and .u64 v19 v20)
            else
            bif (op == 15) then
            R167 (c167 k (decide (a < b))) fun v21 =>
            R88 (c88 k wide) fun v22 =>
            r148 (bitsOp .and .u64 v21 v22)
            else
            bif (op == 16) then
            R95 (c95 k wide a) fun v23 =>
            R95 (c95 k wide b) fun v24 =>
            R167 (c167 k (decide (v23 < v24))) fun v25 =>
            R88 (c88 k wide) fun v26 =>
            r148 (bitsOp .and .u64 v25 v26)
            else
            R88 (c88 k wide) fun v27 =>
            r148 (bitsOp .and .u64 0 v27) := by kernel_rfl
/-! 149 : impl.Node] -/
theorem n149 (k : Nat) (qs : List PV) (n1 : Int) : c149 (k + 1) qs n1 =
 bif decide (n1 < 0) then
  none
 else
  bif decide (IntKind.i64.wrap (n1 - (IntKind.i64.wrap (0 - (qs.length : Int)))) > 0) then
   bif decide ((0 : Int) ≤ (qs.length : Int)) then
    bif decide ((0 : Int) < IntKind.i64.wrap (n1 - (IntKind.i64.wrap (0 - (qs.length : Int))))) && decide (((IntKind.i64.wrap (n1 - (IntKind.i64.wrap (0 - (qs.length : Int))))).toNat) * 16 ≤ LIM) && decide ((IntKind.i64.wrap (n1 - (IntKind.i64.wrap (0 - (qs.length : Int))))).toNat ≤ LIM) then
     bif decide ((0 : Int) ≤ (qs.length : Int)) && decide ((qs.length : Int) ≤ ((IntKind.i64.wrap (n1 - (IntKind.i64.wrap (0 - (qs.length : Int))))).toNat : Int)) then
      r149 ((List.replicate ((IntKind.i64.wrap (n1 - (IntKind.i64.wrap (0 - (qs.length : Int))))).toNat) (PV.agg [.int .i64 0, .int .u64 0])).take qs.length)
     else none
    else none
   else none
  else r149 [] := by kernel_rfl
/-! 162 : spec.GoodWord -/
theorem n162 (k : Nat) (wide a : Int) : c162 (k + 1) wide a =
 R143 (c143 k wide) fun b1 =>
 bif b1 then
  R140 (c140 k wide a) fun v1 =>
  r162 (v1 == a)
 else r162 false := by kernel_rfl
/-! 164 : slices.IndexFunc[[]uint64,uint64] -/
theorem n164 (k : Nat) (qs : List PV) (n1 : Int) : c164 (k + 1) qs n1 =
 L164_1 k k qs (qs.length : Int) 0 n1 := by kernel_rfl
theorem sL164_1 (k n : Nat) (qs : List PV) (t7 t8 n1 : Int) : L164_1 k (n + 1) qs t7 t8 n1 =
 bif decide (t8 < t7) then
  (lookP qs t8).bind fun p1 =>
  (p1.atInt .u64 0).bind fun n2 =>
  R147 (c147 k n2 n1) fun v1 b1 =>
  bif b1 then
   r164 v1 t8
  else L164_1 k n qs t7 (IntKind.i64.wrap (t8 + 1)) v1
 else r164 n1 (-1) := by kernel_rfl
/-! 165 : impl.DivWord -/
theorem n165 (k : Nat) (wide a b : Int) : c165 (k + 1) wide a b =
 R94 (c94 k wide a b) fun b1 =>
 bif !b1 then
  r165 0 0 false
 else
  bif (b == 0) then
   R88 (c88 k wide) fun v1 =>
   r165 v1 a true
  else
   R178 (c178 k 0 a b) fun v2 v3 =>
   r165 v2 v3 true := by kernel_rfl
/-! 166 : impl.shift -/
theorem n166 (k : Nat) (wide a by1 : Int) (left : Bool) : c166 (k + 1) wide a by1 left =
 bif decide (by1 ≥ IntKind.u64.wrap wide) then
  r166 0
 else
  bif left then
   bif !decide (by1 < 0) then
    R88 (c88 k wide) fun v1 =>
    r166 (bitsOp .and .u64 (shlI .u64 a by1) v1)
   else none
  else
   bif !decide (by1 < 0) then
    r166 (shrI .u64 a by1)
   else none := by kernel_rfl
/-! 167 : impl.truth -/
theorem n167 (k : Nat) (holds : Bool) : c167 (k + 1) holds =
 bif holds then
  r167 1
 else r167 0 := by kernel_rfl
/-! 178 : bits.Div64 -/
theorem n178 (k : Nat) (hi lo y : Int) : c178 (k + 1) hi lo y =
 bif (y == 0) then
  none
 else
  bif decide (y ≤ hi) then
   none
  else
   bif (hi == 0) then
    bif !(y == 0) then
     bif !(y == 0) then
      r178 (IntKind.u64.wrap (lo.tdiv y)) (lo.tmod y)
     else none
    else none
   else
    R183 (c183 k y) fun v1 =>
    bif !decide (IntKind.u64.wrap v1 < 0) then
     bif !decide (IntKind.u64.wrap v1 < 0) then
      bif !decide (IntKind.u64.wrap (64 - (IntKind.u64.wrap v1)) < 0) then
       bif !decide (IntKind.u64.wrap v1 < 0) then
        bif !(shrI .u64 (shlI .u64 y (IntKind.u64.wrap v1)) 32 == 0) then
         L178_1 k k (shlI .u64 y (IntKind.u64.wrap v1)) (IntKind.u64.wrap v1) (shrI .u64 (shlI .u64 y (IntKind.u64.wrap v1)) 32) (bitsOp .and .u64 (shlI .u64 y (IntKind.u64.wrap v1)) 4294967295) (bitsOp .or .u64 (shlI .u64 hi (IntKind.u64.wrap v1)) (shrI .u64 lo (IntKind.u64.wrap (64 - (IntKind.u64.wrap v1))))) (shrI .u64 (shlI .u64 lo (IntKind.u64.wrap v1)) 32) (bitsOp .and .u64 (shlI .u64 lo (IntKind.u64.wrap v1)) 4294967295) (IntKind.u64.wrap ((bitsOp .or .u64 (shlI .u64 hi (IntKind.u64.wrap v1)) (shrI .u64 lo (IntKind.u64.wrap (64 - (IntKind.u64.wrap v1))))).tdiv (shrI .u64 (shlI .u64 y (IntKind.u64.wrap v1)) 32))) (IntKind.u64.wrap ((bitsOp .or .u64 (shlI .u64 hi (IntKind.u64.wrap v1)) (shrI .u64 lo (IntKind.u64.wrap (64 - (IntKind.u64.wrap v1))))) - (IntKind.u64.wrap ((IntKind.u64.wrap ((bitsOp .or .u64 (shlI .u64 hi (IntKind.u64.wrap v1)) (shrI .u64 lo (IntKind.u64.wrap (64 - (IntKind.u64.wrap v1))))).tdiv (shrI .u64 (shlI .u64 y (IntKind.u64.wrap v1)) 32))) * (shrI .u64 (shlI .u64 y (IntKind.u64.wrap v1)) 32)))))
        else none
       else none
      else none
     else none
    else none := by kernel_rfl
theorem sL178_1 (k n : Nat) (y qs yn1 yn0 un32 un1 un0 q1 rhat : Int) : L178_1 k (n + 1) y qs yn1 yn0 un32 un1 un0 q1 rhat =
 bif decide (q1 ≥ 4294967296) then
  bif decide (IntKind.u64.wrap (rhat + yn1) ≥ 4294967296) then
   bif !(yn1 == 0) then
    L178_2 k k y qs yn1 yn0 un0 (IntKind.u64.wrap (q1 - 1)) (IntKind.u64.wrap ((IntKind.u64.wrap ((IntKind.u64.wrap ((IntKind.u64.wrap (un32 * 4294967296)) + un1)) - (IntKind.u64.wrap ((IntKind.u64.wrap (q1 - 1)) * y)))) - (IntKind.u64.wrap ((IntKind.u64.wrap ((IntKind.u64.wrap ((IntKind.u64.wrap ((IntKind.u64.wrap (un32 * 4294967296)) + un1)) - (IntKind.u64.wrap ((IntKind.u64.wrap (q1 - 1)) * y)))).tdiv yn1)) * yn1)))) (IntKind.u64.wrap ((IntKind.u64.wrap ((IntKind.u64.wrap (un32 * 4294967296)) + un1)) - (IntKind.u64.wrap ((IntKind.u64.wrap (q1 - 1)) * y)))) (IntKind.u64.wrap ((IntKind.u64.wrap ((IntKind.u64.wrap ((IntKind.u64.wrap (un32 * 4294967296)) + un1)) - (IntKind.u64.wrap ((IntKind.u64.wrap (q1 - 1)) * y)))).tdiv yn1))
   else none
  else L178_1 k n y qs yn1 yn0 un32 un1 un0 (IntKind.u64.wrap (q1 - 1)) (IntKind.u64.wrap (rhat + yn1))
 else
  bif decide (IntKind.u64.wrap (q1 * yn0) > IntKind.u64.wrap ((IntKind.u64.wrap (4294967296 * rhat)) + un1)) then
   bif decide (IntKind.u64.wrap (rhat + yn1) ≥ 4294967296) then
    bif !(yn1 == 0) then
     L178_2 k k y qs yn1 yn0 un0 (IntKind.u64.wrap (q1 - 1)) (IntKind.u64.wrap ((IntKind.u64.wrap ((IntKind.u64.wrap ((IntKind.u64.wrap (un32 * 4294967296)) + un1)) - (IntKind.u64.wrap ((IntKind.u64.wrap (q1 - 1)) * y)))) - (IntKind.u64.wrap ((IntKind.u64.wrap ((IntKind.u64.wrap ((IntKind.u64.wrap ((IntKind.u64.wrap (un32 * 4294967296)) + un1)) - (IntKind.u64.wrap ((IntKind.u64.wrap (q1 - 1)) * y)))).tdiv yn1)) * yn1)))) (IntKind.u64.wrap ((IntKind.u64.wrap ((IntKind.u64.wrap (un32 * 4294967296)) + un1)) - (IntKind.u64.wrap ((IntKind.u64.wrap (q1 - 1)) * y)))) (IntKind.u64.wrap ((IntKind.u64.wrap ((IntKind.u64.wrap ((IntKind.u64.wrap (un32 * 4294967296)) + un1)) - (IntKind.u64.wrap ((IntKind.u64.wrap (q1 - 1)) * y)))).tdiv yn1))
    else none
   else L178_1 k n y qs yn1 yn0 un32 un1 un0 (IntKind.u64.wrap (q1 - 1)) (IntKind.u64.wrap (rhat + yn1))
  else
   bif !(yn1 == 0) then
    L178_2 k k y qs yn1 yn0 un0 q1 (IntKind.u64.wrap ((IntKind.u64.wrap ((IntKind.u64.wrap ((IntKind.u64.wrap (un32 * 4294967296)) + un1)) - (IntKind.u64.wrap (q1 * y)))) - (IntKind.u64.wrap ((IntKind.u64.wrap ((IntKind.u64.wrap ((IntKind.u64.wrap ((IntKind.u64.wrap (un32 * 4294967296)) + un1)) - (IntKind.u64.wrap (q1 * y)))).tdiv yn1)) * yn1)))) (IntKind.u64.wrap ((IntKind.u64.wrap ((IntKind.u64.wrap (un32 * 4294967296)) + un1)) - (IntKind.u64.wrap (q1 * y)))) (IntKind.u64.wrap ((IntKind.u64.wrap ((IntKind.u64.wrap ((IntKind.u64.wrap (un32 * 4294967296)) + un1)) - (IntKind.u64.wrap (q1 * y)))).tdiv yn1))
   else none := by kernel_rfl
theorem sL178_2 (k n : Nat) (y qs yn1 yn0 un0 q1 rhat un21 q0 : Int) : L178_2 k (n + 1) y qs yn1 yn0 un0 q1 rhat un21 q0 =
 bif decide (q0 ≥ 4294967296) then
  bif decide (IntKind.u64.wrap (rhat + yn1) ≥ 4294967296) then
   bif !decide (qs < 0) then
    r178 (IntKind.u64.wrap ((IntKind.u64.wrap (q1 * 4294967296)) + (IntKind.u64.wrap (q0 - 1)))) (shrI .u64 (IntKind.u64.wrap ((IntKind.u64.wrap ((IntKind.u64.wrap (un21 * 4294967296)) + un0)) - (IntKind.u64.wrap ((IntKind.u64.wrap (q0 - 1)) * y)))) qs)
   else none
  else L178_2 k n y qs yn1 yn0 un0 q1 (IntKind.u64.wrap (rhat + yn1)) un21 (IntKind.u64.wrap (q0 - 1))
 else
  bif decide (IntKind.u64.wrap (q0 * yn0) > IntKind.u64.wrap ((IntKind.u64.wrap (4294967296 * rhat)) + un0)) then
   bif decide (IntKind.u64.wrap (rhat + yn1) ≥ 4294967296) then
    bif !decide (qs < 0) then
     r178 (IntKind.u64.wrap ((IntKind.u64.wrap (q1 * 4294967296)) + (IntKind.u64.wrap (q0 - 1)))) (shrI .u64 (IntKind.u64.wrap ((IntKind.u64.wrap ((IntKind.u64.wrap (un21 * 4294967296)) + un0)) - (IntKind.u64.wrap ((IntKind.u64.wrap (q0 - 1)) * y)))) qs)
    else none
   else L178_2 k n y qs yn1 yn0 un0 q1 (IntKind.u64.wrap (rhat + yn1)) un21 (IntKind.u64.wrap (q0 - 1))
  else
   bif !decide (qs < 0) then
    r178 (IntKind.u64.wrap ((IntKind.u64.wrap (q1 * 4294967296)) + q0)) (shrI .u64 (IntKind.u64.wrap ((IntKind.u64.wrap ((IntKind.u64.wrap (un21 * 4294967296)) + un0)) - (IntKind.u64.wrap (q0 * y)))) qs)
   else none := by kernel_rfl
/-! 183 : bits.LeadingZeros64 -/
theorem n183 (k : Nat) (x : Int) : c183 (k + 1) x =
 R184 (c184 k x) fun v1 =>
 r183 (IntKind.i64.wrap (64 - v1)) := by kernel_rfl
/-! 184 : bits.Len64 -/
theorem n184 (k : Nat) (x : Int) : c184 (k + 1) x =
 bif decide (x ≥ 4294967296) then
  bif decide (shrI .u64 x 32 ≥ 65536) then
   bif decide (shrI .u64 (shrI .u64 x 32) 16 ≥ 256) then
    (byteAt ⟨#[0, 1, 2, 2, 3, 3, 3, 3, 4, 4, 4, 4, 4, 4, 4, 4, 5, 5, 5, 5, 5, 5, 5, 5, 5, 5, 5, 5, 5, 5, 5, 5, 6, 6, 6, 6, 6, 6, 6, 6, 6, 6, 6, 6, 6, 6, 6, 6, 6, 6, 6, 6, 6, 6, 6, 6, 6, 6, 6, 6, 6, 6, 6, 6, 7, 7, 7, 7, 7, 7, 7, 7, 7, 7, 7, 7, 7, 7, 7, 7, 7, 7, 7, 7, 7, 7, 7, 7, 7, 7, 7, 7, 7, 7, 7, 7, 7, 7, 7, 7, 7, 7, 7, 7, 7, 7, 7, 7, 7, 7, 7, 7, 7, 7, 7, 7, 7, 7, 7, 7, 7, 7, 7, 7, 7, 7, 7, 7, 8, 8, 8, 8, 8, 8, 8, 8, 8, 8, 8, 8, 8, 8, 8, 8, 8, 8, 8, 8, 8, 8, 8, 8, 8, 8, 8, 8, 8, 8, 8, 8, 8, 8, 8, 8, 8, 8, 8, 8, 8, 8, 8, 8, 8, 8, 8, 8, 8, 8, 8, 8, 8, 8, 8, 8, 8, 8, 8, 8, 8, 8, 8, 8, 8, 8, 8, 8, 8, 8, 8, 8, 8, 8, 8, 8, 8, 8, 8, 8, 8, 8, 8, 8, 8, 8, 8, 8, 8, 8, 8, 8, 8, 8, 8, 8, 8, 8, 8, 8, 8, 8, 8, 8, 8, 8, 8, 8, 8, 8, 8, 8, 8, 8, 8, 8, 8, 8, 8, 8, 8, 8, 8, 8, 8, 8, 8, 8]⟩ (IntKind.u8.wrap (shrI .u64 (shrI .u64 (shrI .u64 x 32) 16) 8))).bind fun b1 =>
    r184 (IntKind.i64.wrap (56 + (IntKind.i64.wrap b1)))
   else
    (byteAt ⟨#[0, 1, 2, 2, 3, 3, 3, 3, 4, 4, 4, 4, 4, 4, 4, 4, 5, 5, 5, 5, 5, 5, 5, 5, 5, 5, 5, 5, 5, 5, 5, 5, 6, 6, 6, 6, 6, 6, 6, 6, 6, 6, 6, 6, 6, 6, 6, 6, 6, 6, 6, 6, 6, 6, 6, 6, 6, 6, 6, 6, 6, 6, 6, 6, 7, 7, 7, 7, 7, 7, 7, 7, 7, 7, 7, 7, 7, 7, 7, 7, 7, 7, 7, 7, 7, 7, 7, 7, 7, 7, 7, 7, 7, 7, 7, 7, 7, 7, 7, 7, 7, 7, 7, 7, 7, 7, 7, 7, 7, 7, 7, 7, 7, 7, 7, 7, 7, 7, 7, 7, 7, 7, 7, 7, 7, 7, 7, 7, 8, 8, 8, 8, 8, 8, 8, 8, 8, 8, 8, 8, 8, 8, 8, 8, 8, 8, 8, 8, 8, 8, 8, 8, 8, 8, 8, 8, 8, 8, 8, 8, 8, 8, 8, 8, 8, 8, 8, 8, 8, 8, 8, 8, 8, 8, 8, 8, 8, 8, 8, 8, 8, 8, 8, 8, 8, 8, 8, 8, 8, 8, 8, 8, 8, 8, 8, 8, 8, 8, 8, 8, 8, 8, 8, 8, 8, 8, 8, 8, 8, 8, 8, 8, 8, 8, 8, 8, 8, 8, 8, 8, 8, 8, 8, 8, 8, 8, 8, 8, 8, 8, 8, 8, 8, 8, 8, 8, 8, 8, 8, 8, 8, 8, 8, 8, 8, 8, 8, 8, 8, 8, 8, 8, 8, 8, 8, 8]⟩ (IntKind.u8.wrap (shrI .u64 (shrI .u64 x 32) 16))).bind fun b2 =>
    r184 (IntKind.i64.wrap (48 + (IntKind.i64.wrap b2)))
  else
   bif decide (shrI .u64 x 32 ≥ 256) then
    (byteAt ⟨#[0, 1, 2, 2, 3, 3, 3, 3, 4, 4, 4, 4, 4, 4, 4, 4, 5, 5, 5, 5, 5, 5, 5, 5, 5, 5, 5, 5, 5, 5, 5, 5, 6, 6, 6, 6, 6, 6, 6, 6, 6, 6, 6, 6, 6, 6, 6, 6, 6, 6, 6, 6, 6, 6, 6, 6, 6, 6, 6, 6, 6, 6, 6, 6, 7, 7, 7, 7, 7, 7, 7, 7, 7, 7, 7, 7, 7, 7, 7, 7, 7, 7, 7, 7, 7, 7, 7, 7, 7, 7, 7, 7, 7, 7, 7, 7, 7, 7, 7, 7, 7, 7, 7, 7, 7, 7, 7, 7, 7, 7, 7, 7, 7, 7, 7, 7, 7, 7, 7, 7, 7, 7, 7, 7, 7, 7, 7, 7, 8, 8, 8, 8, 8, 8, 8, 8, 8, 8, 8, 8, 8, 8, 8, 8, 8, 8, 8, 8, 8, 8, 8, 8, 8, 8, 8, 8, 8, 8, 8, 8, 8, 8, 8, 8, 8, 8, 8, 8, 8, 8, 8, 8, 8, 8, 8, 8, 8, 8, 8, 8, 8, 8, 8, 8, 8, 8, 8, 8, 8, 8, 8, 8, 8, 8, 8, 8, 8, 8, 8, 8, 8, 8, 8, 8, 8, 8, 8, 8, 8, 8, 8, 8, 8, 8, 8, 8, 8, 8, 8, 8, 8, 8, 8, 8, 8, 8, 8, 8, 8, 8, 8, 8, 8, 8, 8, 8, 8, 8, 8, 8, 8, 8, 8, 8, 8, 8, 8, 8, 8, 8, 8, 8, 8, 8, 8, 8]⟩ (IntKind.u8.wrap (shrI .u64 (shrI .u64 x 32) 8))).bind fun b3 =>
    r184 (IntKind.i64.wrap (40 + (IntKind.i64.wrap b3)))
   else
    (byteAt ⟨#[0, 1, 2, 2, 3, 3, 3, 3, 4, 4, 4, 4, 4, 4, 4, 4, 5, 5, 5, 5, 5, 5, 5, 5, 5, 5, 5, 5, 5, 5, 5, 5, 6, 6, 6, 6, 6, 6, 6, 6, 6, 6, 6, 6, 6, 6, 6, 6, 6, 6, 6, 6, 6, 6, 6, 6, 6, 6, 6, 6, 6, 6, 6, 6, 7, 7, 7, 7, 7, 7, 7, 7, 7, 7, 7, 7, 7, 7, 7, 7, 7, 7, 7, 7, 7, 7, 7, 7, 7, 7, 7, 7, 7, 7, 7, 7, 7, 7, 7, 7, 7, 7, 7, 7, 7, 7, 7, 7, 7, 7, 7, 7, 7, 7, 7, 7, 7, 7, 7, 7, 7, 7, 7, 7, 7, 7, 7, 7, 8, 8, 8, 8, 8, 8, 8, 8, 8, 8, 8, 8, 8, 8, 8, 8, 8, 8, 8, 8, 8, 8, 8, 8, 8, 8, 8, 8, 8, 8, 8, 8, 8, 8, 8, 8, 8, 8, 8, 8, 8, 8, 8, 8, 8, 8, 8, 8, 8, 8, 8, 8, 8, 8, 8, 8, 8, 8, 8, 8, 8, 8, 8, 8, 8, 8, 8, 8, 8, 8, 8, 8, 8, 8, 8, 8, 8, 8, 8, 8, 8, 8, 8, 8, 8, 8, 8, 8, 8, 8, 8, 8, 8, 8, 8, 8, 8, 8, 8, 8, 8, 8, 8, 8, 8, 8, 8, 8, 8, 8, 8, 8, 8, 8, 8, 8, 8, 8, 8, 8, 8, 8, 8, 8, 8, 8, 8, 8]⟩ (IntKind.u8.wrap (shrI .u64 x 32))).bind fun b4 =>
    r184 (IntKind.i64.wrap (32 + (IntKind.i64.wrap b4)))
 else
  bif decide (x ≥ 65536) then
   bif decide (shrI .u64 x 16 ≥ 256) then
    (byteAt ⟨#[0, 1, 2, 2, 3, 3, 3, 3, 4, 4, 4, 4, 4, 4, 4, 4, 5, 5, 5, 5, 5, 5, 5, 5, 5, 5, 5, 5, 5, 5, 5, 5, 6, 6, 6, 6, 6, 6, 6, 6, 6, 6, 6, 6, 6, 6, 6, 6, 6, 6, 6, 6, 6, 6, 6, 6, 6, 6, 6, 6, 6, 6, 6, 6, 7, 7, 7, 7, 7, 7, 7, 7, 7, 7, 7, 7, 7, 7, 7, 7, 7, 7, 7, 7, 7, 7, 7, 7, 7, 7, 7, 7, 7, 7, 7, 7, 7, 7, 7, 7, 7, 7, 7, 7, 7, 7, 7, 7, 7, 7, 7, 7, 7, 7, 7, 7, 7, 7, 7, 7, 7, 7, 7, 7, 7, 7, 7, 7, 8, 8, 8, 8, 8, 8, 8, 8, 8, 8, 8, 8, 8, 8, 8, 8, 8, 8, 8, 8, 8, 8, 8, 8, 8, 8, 8, 8, 8, 8, 8, 8, 8, 8, 8, 8, 8, 8, 8, 8, 8, 8, 8, 8, 8, 8, 8, 8, 8, 8, 8, 8, 8, 8, 8, 8, 8, 8, 8, 8, 8, 8, 8, 8, 8, 8, 8, 8, 8, 8, 8, 8, 8, 8, 8, 8, 8, 8, 8, 8, 8, 8, 8, 8, 8, 8, 8, 8, 8, 8, 8, 8, 8, 8, 8, 8, 8, 8, 8, 8, 8, 8, 8, 8, 8, 8, 8, 8, 8, 8, 8, 8, 8, 8, 8, 8, 8, 8, 8, 8, 8, 8, 8, 8, 8, 8, 8, 8]⟩ (IntKind.u8.wrap (shrI .u64 (shrI .u64 x 16) 8))).bind fun b5 =>
    r184 (IntKind.i64.wrap (24 + (IntKind.i64.wrap b5)))
   else
    (byteAt ⟨#[0, 1, 2, 2, 3, 3, 3, 3, 4, 4, 4, 4, 4, 4, 4, 4, 5, 5, 5, 5, 5, 5, 5, 5, 5, 5, 5, 5, 5, 5, 5, 5, 6, 6, 6, 6, 6, 6, 6, 6, 6, 6, 6, 6, 6, 6, 6, 6, 6, 6, 6, 6, 6, 6, 6, 6, 6, 6, 6, 6, 6, 6, 6, 6, 7, 7, 7, 7, 7, 7, 7, 7, 7, 7, 7, 7, 7, 7, 7, 7, 7, 7, 7, 7, 7, 7, 7, 7, 7, 7, 7, 7, 7, 7, 7, 7, 7, 7, 7, 7, 7, 7, 7, 7, 7, 7, 7, 7, 7, 7, 7, 7, 7, 7, 7, 7, 7, 7, 7, 7, 7, 7, 7, 7, 7, 7, 7, 7, 8, 8, 8, 8, 8, 8, 8, 8, 8, 8, 8, 8, 8, 8, 8, 8, 8, 8, 8, 8, 8, 8, 8, 8, 8, 8, 8, 8, 8, 8, 8, 8, 8, 8, 8, 8, 8, 8, 8, 8, 8, 8, 8, 8, 8, 8, 8, 8, 8, 8, 8, 8, 8, 8, 8, 8, 8, 8, 8, 8, 8, 8, 8, 8, 8, 8, 8, 8, 8, 8, 8, 8, 8, 8, 8, 8, 8, 8, 8, 8, 8, 8, 8, 8, 8, 8, 8, 8, 8, 8, 8, 8, 8, 8, 8, 8, 8, 8, 8, 8, 8, 8, 8, 8, 8, 8, 8, 8, 8, 8, 8, 8, 8, 8, 8, 8, 8, 8, 8, 8, 8, 8, 8, 8, 8, 8, 8, 8]⟩ (IntKind.u8.wrap (shrI .u64 x 16))).bind fun b6 =>
    r184 (IntKind.i64.wrap (16 + (IntKind.i64.wrap b6)))
  else
   bif decide (x ≥ 256) then
    (byteAt ⟨#[0, 1, 2, 2, 3, 3, 3, 3, 4, 4, 4, 4, 4, 4, 4, 4, 5, 5, 5, 5, 5, 5, 5, 5, 5, 5, 5, 5, 5, 5, 5, 5, 6, 6, 6, 6, 6, 6, 6, 6, 6, 6, 6, 6, 6, 6, 6, 6, 6, 6, 6, 6, 6, 6, 6, 6, 6, 6, 6, 6, 6, 6, 6, 6, 7, 7, 7, 7, 7, 7, 7, 7, 7, 7, 7, 7, 7, 7, 7, 7, 7, 7, 7, 7, 7, 7, 7, 7, 7, 7, 7, 7, 7, 7, 7, 7, 7, 7, 7, 7, 7, 7, 7, 7, 7, 7, 7, 7, 7, 7, 7, 7, 7, 7, 7, 7, 7, 7, 7, 7, 7, 7, 7, 7, 7, 7, 7, 7, 8, 8, 8, 8, 8, 8, 8, 8, 8, 8, 8, 8, 8, 8, 8, 8, 8, 8, 8, 8, 8, 8, 8, 8, 8, 8, 8, 8, 8, 8, 8, 8, 8, 8, 8, 8, 8, 8, 8, 8, 8, 8, 8, 8, 8, 8, 8, 8, 8, 8, 8, 8, 8, 8, 8, 8, 8, 8, 8, 8, 8, 8, 8, 8, 8, 8, 8, 8, 8, 8, 8, 8, 8, 8, 8, 8, 8, 8, 8, 8, 8, 8, 8, 8, 8, 8, 8, 8, 8, 8, 8, 8, 8, 8, 8, 8, 8, 8, 8, 8, 8, 8, 8, 8, 8, 8, 8, 8, 8, 8, 8, 8, 8, 8, 8, 8, 8, 8, 8, 8, 8, 8, 8, 8, 8, 8, 8, 8]⟩ (IntKind.u8.wrap (shrI .u64 x 8))).bind fun b7 =>
    r184 (IntKind.i64.wrap (8 + (IntKind.i64.wrap b7)))
   else
    (byteAt ⟨#[0, 1, 2, 2, 3, 3, 3, 3, 4, 4, 4, 4, 4, 4, 4, 4, 5, 5, 5, 5, 5, 5, 5, 5, 5, 5, 5, 5, 5, 5, 5, 5, 6, 6, 6, 6, 6, 6, 6, 6, 6, 6, 6, 6, 6, 6, 6, 6, 6, 6, 6, 6, 6, 6, 6, 6, 6, 6, 6, 6, 6, 6, 6, 6, 7, 7, 7, 7, 7, 7, 7, 7, 7, 7, 7, 7, 7, 7, 7, 7, 7, 7, 7, 7, 7, 7, 7, 7, 7, 7, 7, 7, 7, 7, 7, 7, 7, 7, 7, 7, 7, 7, 7, 7, 7, 7, 7, 7, 7, 7, 7, 7, 7, 7, 7, 7, 7, 7, 7, 7, 7, 7, 7, 7, 7, 7, 7, 7, 8, 8, 8, 8, 8, 8, 8, 8, 8, 8, 8, 8, 8, 8, 8, 8, 8, 8, 8, 8, 8, 8, 8, 8, 8, 8, 8, 8, 8, 8, 8, 8, 8, 8, 8, 8, 8, 8, 8, 8, 8, 8, 8, 8, 8, 8, 8, 8, 8, 8, 8, 8, 8, 8, 8, 8, 8, 8, 8, 8, 8, 8, 8, 8, 8, 8, 8, 8, 8, 8, 8, 8, 8, 8, 8, 8, 8, 8, 8, 8, 8, 8, 8, 8, 8, 8, 8, 8, 8, 8, 8, 8, 8, 8, 8, 8, 8, 8, 8, 8, 8, 8, 8, 8, 8, 8, 8, 8, 8, 8, 8, 8, 8, 8, 8, 8, 8, 8, 8, 8, 8, 8, 8, 8, 8, 8, 8, 8]⟩ (IntKind.u8.wrap x)).bind fun b8 =>
    r184 (IntKind.i64.wrap (0 + (IntKind.i64.wrap b8))) := by kernel_rfl
end Go.Proofs.Ytnliglgellapdaa
