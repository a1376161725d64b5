/- Nf4; Nf5; Kb; Kc; Kd; Pa; Ke; Kf; Kg; Kh; Ki; Pb; Kj; Pc; Kk; Pe; Pf; Pg; Ph; Pi; Pv; Pw; Pd; Ha; Hp; Cb; Cc: texts put together. -/
import Derived.Test.YthoecdnmokcfbaaGreatM3
import Derived.Test.YthoecdnmokcfbaaGreatM2
/- Normal forms: printed by nf.py. -/
set_option linter.unusedVariables false
set_option maxRecDepth 100000
namespace Go.Proofs.YthoecdnmokcfbaaGreat
open Go.Dp
theorem n164 (k:Nat) (wide vars:Int) (l:List PV) (n1 n11:Int):c164 (k + 1) wide vars l n1 n11 =
 R103 (c103 k 2 l n1 n11) fun l1 v1 v2 v3 =>
 R134 (c134 k wide vars v3 l1 v1 v2) fun l2 v4 v5 l3 =>
 L164_1 k k wide vars 0 l2 v4 v5 [] [] l3.length 0 l3 []:=by kernel_rfl
theorem sL164_1 (k n:Nat) (wide vars v:Int) (l:List PV) (n1 n11:Int) (l1 l2:List PV) (Len Len1:Nat) (xs xs1:List PV):L164_1 k (n + 1) wide vars v l n1 n11 l1 l2 Len Len1 xs xs1 =
 bif decide (v < vars) then
  R48 (c48 k 2 l n1 n11) fun l3 v1 v2 b1 =>
  bif b1 then
   R186 (c186 k wide vars 1 l3 v1 v2) fun l4 v3 v4 l5 =>
   bif decide ((Len1 + 1) * 32<=LIM) && decide (Len1 + 1<=LIM) then
    L164_1 k n wide vars (IntKind.i64.wrap (v + 1)) l4 v3 v4 l1 l2 Len (Len1 + 1) xs ((xs1.take Len1) ++ [PV.agg [.int .i64 v,.row 2 0 (l5.take l5.length)]])
   else none
  else L164_1 k n wide vars (IntKind.i64.wrap (v + 1)) l3 v1 v2 l1 l2 Len Len1 xs xs1
 else r164 l n1 n11 (xs.take Len) (xs1.take Len1):=by kernel_rfl
theorem n165 (k:Nat) (p p1:Int) (p2 p3 preds:List PV):c165 (k + 1) p p1 p2 p3 preds =
 bif decide ((preds.length:Int) > 8) then
  r165 false
 else L165_1 k k preds (preds.length:Int) 0 p p1 p2 p3:=by kernel_rfl
theorem sL165_1 (k n:Nat) (t10:List PV) (t11 t12 n1 n11:Int) (l l1:List PV):L165_1 k (n + 1) t10 t11 t12 n1 n11 l l1 =
 bif decide (t12 < t11) then
  (lookP t10 t12).bind fun p1 =>
  (p1.atRow 2 0).bind fun l2 =>
  R74 (c74 k n1 n11 l l1 l2) fun b1 =>
  bif !b1 then
   r165 false
  else L165_1 k n t10 t11 (IntKind.i64.wrap (t12 + 1)) n1 n11 l l1
 else r165 true:=by kernel_rfl
theorem n166 (k:Nat) (p p1:Int) (p2 p3 preds:List PV):c166 (k + 1) p p1 p2 p3 preds =
 R115 (c115 k p p1 p2 p3) fun v1 =>
 bif (v1 == v1) && decide ((0:Int)<=v1) && decide (v1.toNat * 8<=LIM) && decide (v1.toNat<=LIM) then
  L166_1 k k preds (preds.length:Int) 0 p p1 p2 p3 [] v1.toNat (List.replicate v1.toNat (PV.int .i64 0))
 else none:=by kernel_rfl
theorem sL166_1 (k n:Nat) (t12:List PV) (t13 t14 n1 n11:Int) (l l1 l2:List PV) (Len:Nat) (xs:List PV):L166_1 k (n + 1) t12 t13 t14 n1 n11 l l1 l2 Len xs =
 bif decide (t14 < t13) then
  (lookP t12 t14).bind fun p1 =>
  (p1.atRow 2 0).bind fun l3 =>
  R194p (c194 k n1 n11 l l1 (xs.take Len) l3) fun l4 =>
  L166_1 k n t12 t13 (IntKind.i64.wrap (t14 + 1)) n1 n11 l l1 l2 l4.length l4
 else r166 (xs.take Len):=by kernel_rfl
theorem n167 (k:Nat) (l:List PV) (lo hi:Int):c167 (k + 1) l lo hi =
 L167_1 k k l lo hi l (l.length:Int) 0:=by kernel_rfl
theorem sL167_1 (k n:Nat) (l:List PV) (lo hi:Int) (t9:List PV) (t10 t11:Int):L167_1 k (n + 1) l lo hi t9 t10 t11 =
 bif decide (t11 < t10) then
  (lookP t9 t11).bind fun p1 =>
  (p1.atInt .i64 0).bind fun n1 =>
  R52 (c52 k n1 lo hi) fun b1 =>
  bif !b1 then
   r167 false
  else
   bif decide (t11 > 0) then
    (lookP l (IntKind.i64.wrap (t11 - 1))).bind fun p2 =>
    (p2.atInt .i64 0).bind fun n2 =>
    bif decide (n2>=n1) then
     r167 false
    else L167_1 k n l lo hi t9 t10 (IntKind.i64.wrap (t11 + 1))
   else L167_1 k n l lo hi t9 t10 (IntKind.i64.wrap (t11 + 1))
 else r167 true:=by kernel_rfl
theorem n168 (k:Nat) (v some1:List PV):c168 (k + 1) v some1 =
 L168_1 k k some1 0 v (v.length:Int) 0 [] []:=by kernel_rfl
theorem sL168_1 (k n:Nat) (some1:List PV) (keysLen:Nat) (t9:List PV) (t10 t11:Int) (l xs:List PV):L168_1 k (n + 1) some1 keysLen t9 t10 t11 l xs =
 bif decide (t11 < t10) then
  (lookP t9 t11).bind fun p1 =>
  (p1.atInt .i64 0).bind fun n1 =>
  R138 (c138 k some1 t11) fun b1 =>
  bif b1 then
   bif decide ((keysLen + 1) * 8<=LIM) && decide (keysLen + 1<=LIM) then
    L168_1 k n some1 (keysLen + 1) t9 t10 (IntKind.i64.wrap (t11 + 1)) l ((xs.take keysLen) ++ [PV.int .i64 (IntKind.i64.wrap ((IntKind.i64.wrap (2 * n1)) + 1))])
   else none
  else
   bif decide ((keysLen + 1) * 8<=LIM) && decide (keysLen + 1<=LIM) then
    L168_1 k n some1 (keysLen + 1) t9 t10 (IntKind.i64.wrap (t11 + 1)) l ((xs.take keysLen) ++ [PV.int .i64 (IntKind.i64.wrap (2 * n1))])
   else none
 else
  R195p (c195 k (xs.take keysLen)) fun l1 =>
  r168 (l1.take l1.length):=by kernel_rfl
theorem n171 (k:Nat) (p p1:Int) (p2 p3 qs:List PV):c171 (k + 1) p p1 p2 p3 qs =
 L171_1 k k qs 0 p3 (p3.length:Int) 0 p p1 p2 p3 []:=by kernel_rfl
theorem sL171_1 (k n:Nat) (qs:List PV) (outLen:Nat) (t9:List PV) (t10 t11 n1 n11:Int) (l l1 xs:List PV):L171_1 k (n + 1) qs outLen t9 t10 t11 n1 n11 l l1 xs =
 bif decide (t11 < t10) then
  (lookP t9 t11).bind fun p1 =>
  bif p1.shp 2 then
   (p1.atRow 2 0).bind fun l2 =>
   (p1.atRow 2 1).bind fun l3 =>
   R120 (c120 k n1 n11 l l1 l2 qs) fun b1 =>
   bif b1 then
    bif decide ((outLen + 1) * 8<=LIM) && decide (outLen + 1<=LIM) then
     L171_1 k n qs (outLen + 1) t9 t10 (IntKind.i64.wrap (t11 + 1)) n1 n11 l l1 ((xs.take outLen) ++ [PV.int .i64 t11])
    else none
   else L171_1 k n qs outLen t9 t10 (IntKind.i64.wrap (t11 + 1)) n1 n11 l l1 xs
  else none
 else r171 (xs.take outLen):=by kernel_rfl
theorem n172 (k:Nat) (p p1:Int) (p2 p3 qs:List PV):c172 (k + 1) p p1 p2 p3 qs =
 L172_1 k k qs 0 (IntKind.i64.wrap (p1 - 1)) p p1 p2 p3:=by kernel_rfl
theorem sL172_1 (k n:Nat) (qs:List PV) (n1 v n11 n12:Int) (l l1:List PV):L172_1 k (n + 1) qs n1 v n11 n12 l l1 =
 bif decide (v>=0) then
  bif !decide (IntKind.u64.wrap n11 < 0) then
   (lookP qs v).bind fun p1 =>
   (p1.atInt .u64 0).bind fun n2 =>
   L172_1 k n qs (IntKind.i64.wrap ((shlI .i64 n1 (IntKind.u64.wrap n11)) + (IntKind.i64.wrap n2))) (IntKind.i64.wrap (v - 1)) n11 n12 l l1
  else none
 else r172 n1:=by kernel_rfl
theorem n173 (k:Nat) (p p1:Int) (p2 p3 qs:List PV) (k1:Int):c173 (k + 1) p p1 p2 p3 qs k1 =
 bif decide ((0 + qs.length) * 8<=LIM) && decide (0 + qs.length<=LIM) then
  (lookP p3 k1).bind fun p4 =>
  (p4.atRow 2 1).bind fun l1 =>
  L173_1 k k qs (0 + qs.length) l1 (l1.length:Int) 0 p p1 p2 p3 ([] ++ qs)
 else none:=by kernel_rfl
theorem sL173_1 (k n:Nat) (qs:List PV) (outLen:Nat) (t18:List PV) (t19 t20 n1 n11:Int) (l l1 xs:List PV):L173_1 k (n + 1) qs outLen t18 t19 t20 n1 n11 l l1 xs =
 bif decide (t20 < t19) then
  (lookP t18 t20).bind fun p1 =>
  bif p1.shp 2 then
   (p1.atInt .i64 0).bind fun n2 =>
   (p1.atRow 2 1).bind fun l2 =>
   R176 (c176 k n1 l2 (IntKind.i64.wrap ((l2.length:Int) - 1)) qs) fun v1 =>
   bif decide ((0:Int)<=n2) && decide (n2 < (outLen:Int)) then
    (xs[0 + n2.toNat]?).bind fun p2 =>
    L173_1 k n qs outLen t18 t19 (IntKind.i64.wrap (t20 + 1)) n1 n11 l l1 (xs.set (0 + n2.toNat) (PV.int .u64 v1))
   else none
  else none
 else r173 (xs.take outLen):=by kernel_rfl
theorem n174 (k:Nat) (p p1:Int) (p2 p3:List PV):c174 (k + 1) p p1 p2 p3 =
 R74 (c74 k p p1 p2 p3 p2) fun b1 =>
 bif !b1 then
  r174 false
 else
  R52 (c52 k (p3.length:Int) 1 6) fun b2 =>
  bif !b2 then
   r174 false
  else L174_1 k k p3 (p3.length:Int) 0 p p1 p2 p3:=by kernel_rfl
theorem sL174_1 (k n:Nat) (t18:List PV) (t19 t20 n1 n11:Int) (l l1:List PV):L174_1 k (n + 1) t18 t19 t20 n1 n11 l l1 =
 bif decide (t20 < t19) then
  (lookP t18 t20).bind fun p1 =>
  bif p1.shp 2 then
   (p1.atRow 2 0).bind fun l2 =>
   (p1.atRow 2 1).bind fun l3 =>
   R197 (c197 k n1 n11 l l1 l2 l3) fun b1 =>
   bif !b1 then
    r174 false
   else L174_1 k n t18 t19 (IntKind.i64.wrap (t20 + 1)) n1 n11 l l1
  else none
 else r174 true:=by kernel_rfl
theorem n175 (k:Nat) (x:List PV):c175 (k + 1) x =
 bif decide ((x.length:Int) < 1) then
  none
 else
  (lookP x 0).bind fun p1 =>
  (p1.atInt .i64 0).bind fun n1 =>
  L175_1 k k x n1 1:=by kernel_rfl
theorem sL175_1 (k n:Nat) (x:List PV) (m i:Int):L175_1 k (n + 1) x m i =
 bif decide (i < (x.length:Int)) then
  (lookP x i).bind fun p1 =>
  (p1.atInt .i64 0).bind fun n1 =>
  L175_1 k n x (maxI m n1) (IntKind.i64.wrap (i + 1))
 else r175 m:=by kernel_rfl
theorem n176 (k:Nat) (wide:Int) (t:List PV) (k1:Int) (state:List PV):c176 (k + 1) wide t k1 state =
 (lookP t k1).bind fun p1 =>
 bif p1.shp 2 then
  (p1.atInt .i64 0).bind fun n1 =>
  (p1.atInt .u64 1).bind fun n2 =>
  R189 (c189 k n1) fun v1 v2 v3 =>
  bif (n1 == 2) then
   (lookP state n2).bind fun p2 =>
   (p2.atInt .u64 0).bind fun n3 =>
   r176 n3
  else
   bif (v1 == 0) then
    r176 n2
   else
    bif (n1 == 13) then
     R176 (c176 k wide t (IntKind.i64.wrap (k1 - 1)) state) fun v4 =>
     R198 (c198 k wide (bitsOp .xor .u64 18446744073709551615 v4)) fun v5 =>
     r176 v5
    else
     bif (n1 == 19) then
      R176 (c176 k wide t (IntKind.i64.wrap (k1 - 1)) state) fun v6 =>
      r176 (IntKind.u64.wrap (1 - v6))
     else
      R200 (c200 k t (IntKind.i64.wrap (k1 - 1))) fun v7 =>
      R176 (c176 k wide t (IntKind.i64.wrap (v7 - 1)) state) fun v8 =>
      R176 (c176 k wide t (IntKind.i64.wrap (k1 - 1)) state) fun v9 =>
      R199 (c199 k wide n1 v8 v9) fun v10 =>
      r176 v10
 else none:=by kernel_rfl
theorem n179 (k:Nat) (qs:List PV) (h1:qs.length * 8<=LIM) (h2:qs.length<=LIM):c179 (k + 1) qs = r179 qs:=evF_T (by first | (simp [T,orT,numT,cloneT,clones,lk,h1,h2] <;> rfl) | (simp [T,cloneT,clones,lk,h1,h2] <;> rfl))
theorem n182 (k:Nat) (wide op a b:Int):c182 (k + 1) wide op a b =
 bif (op == 3) then
  R131 (c131 k wide) fun v1 =>
  r182 (bitsOp .and .u64 (IntKind.u64.wrap (a + b)) v1)
 else
  bif (op == 4) then
   R131 (c131 k wide) fun v2 =>
   r182 (bitsOp .and .u64 (IntKind.u64.wrap (a - b)) v2)
  else
   bif (op == 5) then
    R131 (c131 k wide) fun v3 =>
    r182 (bitsOp .and .u64 (IntKind.u64.wrap (a * b)) v3)
   else
    bif (op == 6) then
     R213 (c213 k wide a b) fun v4 v5 b1 =>
     R131 (c131 k wide) fun v6 =>
     r182 (bitsOp .and .u64 v4 v6)
    else
     bif (op == 7) then
      R213 (c213 k wide a b) fun v7 v8 b2 =>
      R131 (c131 k wide) fun v9 =>
      r182 (bitsOp .and .u64 v8 v9)
     else
      bif (op == 8) then
       R131 (c131 k wide) fun v10 =>
       r182 (bitsOp .and .u64 (bitsOp .and .u64 a b) v10)
      else
       bif (op == 17) then
        R131 (c131 k wide) fun v11 =>
        r182 (bitsOp .and .u64 (bitsOp .and .u64 a b) v11)
       else
        bif (op == 9) then
         R131 (c131 k wide) fun v12 =>
         r182 (bitsOp .and .u64 (bitsOp .or .u64 a b) v12)
        else
         bif (op == 18) then
          R131 (c131 k wide) fun v13 =>
          r182 (bitsOp .and .u64 (bitsOp .or .u64 a b) v13)
         else
          bif (op == 10) then
           R131 (c131 k wide) fun v14 =>
           r182 (bitsOp .and .u64 (bitsOp .xor .u64 a b) v14)
          else
           bif (op == 11) then
            R214 (c214 k wide a b (op == 11)) fun v15 =>
            R131 (c131 k wide) fun v16 =>
            r182 (bitsOp .and .u64 v15 v16)
           else
            bif (op == 12) then
            R214 (c214 k wide a b (op == 11)) fun v17 =>
            R131 (c131 k wide) fun v18 =>
            r182 (bitsOp .and .u64 v17 v18)
            else
            bif (op == 14) then
            R215 (c215 k (a == b)) fun v19 =>
            R131 (c131 k wide) fun v20 =>
            r182 (bitsOp .and .u64 v19 v20)
            else
            bif (op == 15) then
            R215 (c215 k (decide (a < b))) fun v21 =>
            R131 (c131 k wide) fun v22 =>
            r182 (bitsOp .and .u64 v21 v22)
            else
            bif (op == 16) then
            R216 (c216 k wide a) fun v23 =>
            R216 (c216 k wide b) fun v24 =>
            R215 (c215 k (decide (v23 < v24))) fun v25 =>
            R131 (c131 k wide) fun v26 =>
            r182 (bitsOp .and .u64 v25 v26)
            else
            R131 (c131 k wide) fun v27 =>
            r182 (bitsOp .and .u64 0 v27):=by kernel_rfl
theorem n183f184 (k:Nat) (qs:List PV) (n1 n11:Int) (l l1:List PV):c183f184 (k + 1) qs n1 n11 l l1 =
 R217f184 (c217f184 k qs n1 n11 l l1) fun v1 v2 l2 l3 v3 =>
 r183f184 v1 v2 l2 l3 (decide (v3>=0)):=by kernel_rfl
theorem n184 (k:Nat) (qc qc1:List PV) (n1 n11:Int) (l l1:List PV):c184 (k + 1) qc qc1 n1 n11 l l1 =
 R185 (c185 k n1 n11 l l1 qc qc1) fun b1 =>
 r184 n1 n11 l l1 (!b1):=by kernel_rfl
theorem n185 (k:Nat) (p p1:Int) (p2 p3 qc qc1:List PV):c185 (k + 1) p p1 p2 p3 qc qc1 =
 R72 (c72 k p p1 p2 p3 qc) fun b1 =>
 bif !b1 then
  r185 false
 else L185_1 k k qc1 (qc1.length:Int) 0 p p1 p2 p3 qc qc1:=by kernel_rfl
theorem sL185_1 (k n:Nat) (t13:List PV) (t14 t15 n1 n11:Int) (l l1 l2 l3:List PV):L185_1 k (n + 1) t13 t14 t15 n1 n11 l l1 l2 l3 =
 bif decide (t15 < t14) then
  (lookP t13 t15).bind fun p1 =>
  bif p1.shp 2 then
   (p1.atInt .i64 0).bind fun n2 =>
   (p1.atRow 2 1).bind fun l4 =>
   bif decide (n2 < 0) then
    r185 false
   else
    bif decide (n2>=n11) then
     r185 false
    else
     bif decide (t15 > 0) then
      (lookP l3 (IntKind.i64.wrap (t15 - 1))).bind fun p2 =>
      (p2.atInt .i64 0).bind fun n3 =>
      bif decide (n3>=n2) then
       r185 false
      else
       R136 (c136 k n1 n11 l4 1) fun b1 =>
       bif !b1 then
        r185 false
       else L185_1 k n t13 t14 (IntKind.i64.wrap (t15 + 1)) n1 n11 l l1 l2 l3
     else
      R136 (c136 k n1 n11 l4 1) fun b2 =>
      bif !b2 then
       r185 false
      else L185_1 k n t13 t14 (IntKind.i64.wrap (t15 + 1)) n1 n11 l l1 l2 l3
  else none
 else r185 true:=by kernel_rfl
theorem n186 (k:Nat) (wide vars deep:Int) (l:List PV) (n1 n11:Int):c186 (k + 1) wide vars deep l n1 n11 =
 bif (deep == 0) then
  R48 (c48 k 2 l n1 n11) fun l1 v1 v2 b1 =>
  bif b1 then
   R103 (c103 k 9 l1 v1 v2) fun l2 v3 v4 v5 =>
   R198 (c198 k wide (IntKind.u64.wrap v5)) fun v6 =>
   r186 l2 v3 v4 [PV.agg [.int .i64 1,.int .u64 v6]]
  else
   R103 (c103 k vars l1 v1 v2) fun l3 v7 v8 v9 =>
   r186 l3 v7 v8 [PV.agg [.int .i64 2,.int .u64 (IntKind.u64.wrap v9)]]
 else
  R48 (c48 k 4 l n1 n11) fun l4 v10 v11 b2 =>
  bif b2 then
   R48 (c48 k 2 l4 v10 v11) fun l5 v12 v13 b3 =>
   bif b3 then
    R103 (c103 k 9 l5 v12 v13) fun l6 v14 v15 v16 =>
    R198 (c198 k wide (IntKind.u64.wrap v16)) fun v17 =>
    r186 l6 v14 v15 [PV.agg [.int .i64 1,.int .u64 v17]]
   else
    R103 (c103 k vars l5 v12 v13) fun l7 v18 v19 v20 =>
    r186 l7 v18 v19 [PV.agg [.int .i64 2,.int .u64 (IntKind.u64.wrap v20)]]
  else
   R48 (c48 k 7 l4 v10 v11) fun l8 v21 v22 b4 =>
   bif b4 then
    R186 (c186 k wide vars (IntKind.i64.wrap (deep - 1)) l8 v21 v22) fun l9 v23 v24 l10 =>
    bif decide ((l10.length + 1) * 16<=LIM) && decide (l10.length + 1<=LIM) then
     r186 l9 v23 v24 (((l10.take l10.length) ++ [PV.agg [.int .i64 13,.int .u64 0]]).take (l10.length + 1))
    else none
   else
    R186 (c186 k wide vars (IntKind.i64.wrap (deep - 1)) l8 v21 v22) fun l11 v25 v26 l12 =>
    R186 (c186 k wide vars (IntKind.i64.wrap (deep - 1)) l11 v25 v26) fun l13 v27 v28 l14 =>
    bif decide ((l12.length + ((l14.take l14.length).length)) * 16<=LIM) && decide (l12.length + ((l14.take l14.length).length)<=LIM) then
     R102 (c102 k [PV.int .i64 3,PV.int .i64 3,PV.int .i64 3,PV.int .i64 4,PV.int .i64 4,PV.int .i64 5,PV.int .i64 8,PV.int .i64 9,PV.int .i64 10] l13 v27 v28) fun l15 v29 v30 v31 =>
     R48 (c48 k 6 l15 v29 v30) fun l16 v32 v33 b5 =>
     bif b5 then
      R102 (c102 k [PV.int .i64 6,PV.int .i64 7,PV.int .i64 11,PV.int .i64 12] l16 v32 v33) fun l17 v34 v35 v36 =>
      bif decide (((l12.length + ((l14.take l14.length).length)) + 1) * 16<=LIM) && decide ((l12.length + ((l14.take l14.length).length)) + 1<=LIM) then
       r186 l17 v34 v35 (((((l12.take l12.length) ++ (l14.take l14.length)).take (l12.length + ((l14.take l14.length).length))) ++ [PV.agg [.int .i64 v36,.int .u64 0]]).take ((l12.length + ((l14.take l14.length).length)) + 1))
      else none
     else
      bif decide (((l12.length + ((l14.take l14.length).length)) + 1) * 16<=LIM) && decide ((l12.length + ((l14.take l14.length).length)) + 1<=LIM) then
       r186 l16 v32 v33 (((((l12.take l12.length) ++ (l14.take l14.length)).take (l12.length + ((l14.take l14.length).length))) ++ [PV.agg [.int .i64 v31,.int .u64 0]]).take ((l12.length + ((l14.take l14.length).length)) + 1))
      else none
    else none:=by kernel_rfl
theorem n187 (k:Nat) (t:List PV):c187 (k + 1) t =
 (lookP t (IntKind.i64.wrap ((t.length:Int) - 1))).bind fun p1 =>
 (p1.atInt .i64 0).bind fun n1 =>
 R141 (c141 k n1) fun v1 v2 v3 =>
 r187 v3:=by kernel_rfl
theorem n188 (k:Nat) (wide:Int):c188 (k + 1) wide =
 R52 (c52 k wide 1 64) fun b1 =>
 r188 b1:=by kernel_rfl
theorem n189 (k:Nat) (op:Int):c189 (k + 1) op =
 bif (op == 1) then
  r189 0 1 1
 else
  bif (op == 2) then
   r189 0 1 1
  else
   bif (op == 20) then
    r189 0 2 2
   else
    bif (op == 13) then
     r189 1 1 1
    else
     bif (op == 19) then
      r189 1 2 2
     else
      R52 (c52 k op 3 12) fun b1 =>
      bif b1 then
       r189 2 1 1
      else
       R52 (c52 k op 14 16) fun b2 =>
       bif b2 then
        r189 2 1 2
       else
        bif (op == 17) then
         r189 2 2 2
        else
         bif (op == 18) then
          r189 2 2 2
         else r189 0 0 0:=by kernel_rfl
theorem n190 (k:Nat) (wide vars n1 n11:Int):c190 (k + 1) wide vars n1 n11 =
 bif (n1 == 1) then
  R218 (c218 k wide n11) fun b1 =>
  r190 b1
 else
  bif (n1 == 2) then
   r190 (decide (n11 < IntKind.u64.wrap vars))
  else
   bif (n1 == 20) then
    r190 (decide (n11 < 2))
   else r190 (n11 == 0):=by kernel_rfl
theorem n191 (k:Nat) (wide a:Int):c191 (k + 1) wide a =
 R139 (c139 k wide) fun b1 =>
 bif b1 then
  R131 (c131 k wide) fun v1 =>
  r191 (decide (a<=v1))
 else r191 false:=by kernel_rfl
theorem n194 (k:Nat) (p p1:Int) (p2 p3 v t:List PV):c194 (k + 1) p p1 p2 p3 v t =
 R59 (c59 k p p1 p2 p3 t) fun l1 =>
 R168 (c168 k v l1) fun l2 =>
 r194 (l2.take l2.length):=by kernel_rfl
theorem n195 (k:Nat) (keys:List PV):c195 (k + 1) keys =
 L195_1 k k keys 0 keys (keys.length:Int) 0 0 0 [] []:=by kernel_rfl
theorem sL195_1 (k n:Nat) (keys:List PV) (many:Int) (t9:List PV) (t10 t11:Int) (Len Len1:Nat) (xs xs1:List PV):L195_1 k (n + 1) keys many t9 t10 t11 Len Len1 xs xs1 =
 bif decide (t11 < t10) then
  (lookP t9 t11).bind fun p1 =>
  (p1.atInt .i64 0).bind fun n1 =>
  L195_2 k n k keys many t11 n1 many 0 t9 t10 t11 Len Len1 xs xs1
 else r195 (xs1.take Len1):=by kernel_rfl
theorem sL195_2 (k n1 n:Nat) (keys:List PV) (many i key class1 j:Int) (t9:List PV) (t10 t11:Int) (Len Len1:Nat) (xs xs1:List PV):L195_2 k n1 (n + 1) keys many i key class1 j t9 t10 t11 Len Len1 xs xs1 =
 bif decide (j < i) then
  (lookP keys j).bind fun p1 =>
  (p1.atInt .i64 0).bind fun n2 =>
  bif (n2 == key) then
   bif decide ((0:Int)<=j) && decide (j < (Len1:Int)) then
    (xs1[0 + j.toNat]?).bind fun p2 =>
    (p2.atInt .i64 0).bind fun n3 =>
    bif (n3 == many) then
     bif decide ((Len1 + 1) * 8<=LIM) && decide (Len1 + 1<=LIM) then
      L195_1 k n1 keys (IntKind.i64.wrap (many + 1)) t9 t10 (IntKind.i64.wrap (t11 + 1)) Len (Len1 + 1) xs ((xs1.take Len1) ++ [PV.int .i64 n3])
     else none
    else
     bif decide ((Len1 + 1) * 8<=LIM) && decide (Len1 + 1<=LIM) then
      L195_1 k n1 keys many t9 t10 (IntKind.i64.wrap (t11 + 1)) Len (Len1 + 1) xs ((xs1.take Len1) ++ [PV.int .i64 n3])
     else none
   else none
  else L195_2 k n1 n keys many i key class1 (IntKind.i64.wrap (j + 1)) t9 t10 t11 Len Len1 xs xs1
 else
  bif (class1 == many) then
   bif decide ((Len1 + 1) * 8<=LIM) && decide (Len1 + 1<=LIM) then
    L195_1 k n1 keys (IntKind.i64.wrap (many + 1)) t9 t10 (IntKind.i64.wrap (t11 + 1)) Len (Len1 + 1) xs ((xs1.take Len1) ++ [PV.int .i64 class1])
   else none
  else
   bif decide ((Len1 + 1) * 8<=LIM) && decide (Len1 + 1<=LIM) then
    L195_1 k n1 keys many t9 t10 (IntKind.i64.wrap (t11 + 1)) Len (Len1 + 1) xs ((xs1.take Len1) ++ [PV.int .i64 class1])
   else none:=by kernel_rfl
theorem n197 (k:Nat) (p p1:Int) (p2 p3 qc qc1:List PV):c197 (k + 1) p p1 p2 p3 qc qc1 =
 R74 (c74 k p p1 p2 p3 qc) fun b1 =>
 bif !b1 then
  r197 false
 else
  bif decide ((qc1.length:Int) > p1) then
   r197 false
  else L197_1 k k qc1 (qc1.length:Int) 0 p p1 p2 p3 qc qc1:=by kernel_rfl
theorem sL197_1 (k n:Nat) (t21:List PV) (t22 t23 n1 n11:Int) (l l1 l2 l3:List PV):L197_1 k (n + 1) t21 t22 t23 n1 n11 l l1 l2 l3 =
 bif decide (t23 < t22) then
  (lookP t21 t23).bind fun p1 =>
  bif p1.shp 2 then
   (p1.atInt .i64 0).bind fun n2 =>
   (p1.atRow 2 1).bind fun l4 =>
   R52 (c52 k n2 0 (IntKind.i64.wrap (n11 - 1))) fun b1 =>
   bif !b1 then
    r197 false
   else
    bif decide (t23 > 0) then
     (lookP l3 (IntKind.i64.wrap (t23 - 1))).bind fun p2 =>
     (p2.atInt .i64 0).bind fun n3 =>
     bif decide (n3>=n2) then
      r197 false
     else
      R137 (c137 k n1 n11 l4) fun v1 =>
      bif (v1 != 1) then
       r197 false
      else L197_1 k n t21 t22 (IntKind.i64.wrap (t23 + 1)) n1 n11 l l1 l2 l3
    else
     R137 (c137 k n1 n11 l4) fun v2 =>
     bif (v2 != 1) then
      r197 false
     else L197_1 k n t21 t22 (IntKind.i64.wrap (t23 + 1)) n1 n11 l l1 l2 l3
  else none
 else r197 true:=by kernel_rfl
theorem n198 (k:Nat) (wide a:Int):c198 (k + 1) wide a =
 L198_1 k k wide a 0 0:=by kernel_rfl
theorem sL198_1 (k n:Nat) (wide a out k1:Int):L198_1 k (n + 1) wide a out k1 =
 bif decide (k1 < wide) then
  bif !decide (IntKind.u64.wrap k1 < 0) then
   L198_1 k n wide a (bitsOp .or .u64 out (bitsOp .and .u64 a (shlI .u64 1 (IntKind.u64.wrap k1)))) (IntKind.i64.wrap (k1 + 1))
  else none
 else r198 out:=by kernel_rfl
theorem n199 (k:Nat) (wide op a b:Int):c199 (k + 1) wide op a b =
 R220 (c220 k wide a b) fun v1 v2 b1 =>
 bif (op == 3) then
  R198 (c198 k wide (IntKind.u64.wrap (a + b))) fun v3 =>
  r199 v3
 else
  bif (op == 4) then
   R198 (c198 k wide (IntKind.u64.wrap (a - b))) fun v4 =>
   r199 v4
  else
   bif (op == 5) then
    R198 (c198 k wide (IntKind.u64.wrap (a * b))) fun v5 =>
    r199 v5
   else
    bif (op == 6) then
     r199 v1
    else
     bif (op == 7) then
      r199 v2
     else
      bif (op == 8) then
       r199 (bitsOp .and .u64 a b)
      else
       bif (op == 17) then
        r199 (bitsOp .and .u64 a b)
       else
        bif (op == 9) then
         r199 (bitsOp .or .u64 a b)
        else
         bif (op == 18) then
          r199 (bitsOp .or .u64 a b)
         else
          bif (op == 10) then
           r199 (bitsOp .xor .u64 a b)
          else
           bif (op == 11) then
            R221 (c221 k wide a b true) fun v6 =>
            r199 v6
           else
            bif (op == 12) then
            R221 (c221 k wide a b false) fun v7 =>
            r199 v7
            else
            bif (op == 14) then
            R222 (c222 k (a == b)) fun v8 =>
            r199 v8
            else
            bif (op == 15) then
            R222 (c222 k (decide (a < b))) fun v9 =>
            r199 v9
            else
            bif (op == 16) then
            R223 (c223 k wide a) fun v10 =>
            R223 (c223 k wide b) fun v11 =>
            R222 (c222 k (decide (v10 < v11))) fun v12 =>
            r199 v12
            else r199 0:=by kernel_rfl
theorem n200 (k:Nat) (t:List PV) (k1:Int):c200 (k + 1) t k1 =
 (lookP t k1).bind fun p1 =>
 (p1.atInt .i64 0).bind fun n1 =>
 R189 (c189 k n1) fun v1 v2 v3 =>
 L200_1 k k t v1 k1:=by kernel_rfl
theorem sL200_1 (k n:Nat) (t:List PV) (many from1:Int):L200_1 k (n + 1) t many from1 =
 bif decide (many > 0) then
  R200 (c200 k t (IntKind.i64.wrap (from1 - 1))) fun v1 =>
  L200_1 k n t (IntKind.i64.wrap (many - 1)) v1
 else r200 from1:=by kernel_rfl
end Go.Proofs.YthoecdnmokcfbaaGreat
/- Normal forms: printed by nf.py. -/
set_option linter.unusedVariables false
set_option maxRecDepth 100000
namespace Go.Proofs.YthoecdnmokcfbaaGreat
open Go.Dp
theorem n213 (k:Nat) (wide a b:Int):c213 (k + 1) wide a b =
 R231 (c231 k wide a b) fun b1 =>
 bif !b1 then
  r213 0 0 false
 else
  bif (b == 0) then
   R131 (c131 k wide) fun v1 =>
   r213 v1 a true
  else
   R232 (c232 k 0 a b) fun v2 v3 =>
   r213 v2 v3 true:=by kernel_rfl
theorem n214 (k:Nat) (wide a by1:Int) (left:Bool):c214 (k + 1) wide a by1 left =
 bif decide (by1>=IntKind.u64.wrap wide) then
  r214 0
 else
  bif left then
   bif !decide (by1 < 0) then
    R131 (c131 k wide) fun v1 =>
    r214 (bitsOp .and .u64 (shlI .u64 a by1) v1)
   else none
  else
   bif !decide (by1 < 0) then
    r214 (shrI .u64 a by1)
   else none:=by kernel_rfl
theorem n215 (k:Nat) (holds:Bool):c215 (k + 1) holds =
 bif holds then
  r215 1
 else r215 0:=by kernel_rfl
theorem n216 (k:Nat) (wide a:Int):c216 (k + 1) wide a =
 bif !decide (IntKind.i64.wrap (64 - wide) < 0) then
  bif !decide (IntKind.i64.wrap (64 - wide) < 0) then
   r216 (shrI .i64 (IntKind.i64.wrap (shlI .u64 a (IntKind.i64.wrap (64 - wide)))) (IntKind.i64.wrap (64 - wide)))
  else none
 else none:=by kernel_rfl
theorem n217f184 (k:Nat) (qs:List PV) (n1 n11:Int) (l l1:List PV):c217f184 (k + 1) qs n1 n11 l l1 =
 L217f184_1 k k qs (qs.length:Int) 0 n1 n11 l l1:=by kernel_rfl
theorem sL217f184_1 (k n:Nat) (qs:List PV) (t7 t8 n1 n11:Int) (l l1:List PV):L217f184_1 k (n + 1) qs t7 t8 n1 n11 l l1 =
 bif decide (t8 < t7) then
  (lookP qs t8).bind fun p1 =>
  bif p1.shp 2 then
   (p1.atRow 2 0).bind fun l2 =>
   (p1.atRow 2 1).bind fun l3 =>
   R184 (c184 k l2 l3 n1 n11 l l1) fun v1 v2 l4 l5 b1 =>
   bif b1 then
    r217f184 v1 v2 l4 l5 t8
   else L217f184_1 k n qs t7 (IntKind.i64.wrap (t8 + 1)) v1 v2 l4 l5
  else none
 else r217f184 n1 n11 l l1 (-1):=by kernel_rfl
theorem n218 (k:Nat) (wide a:Int):c218 (k + 1) wide a =
 R188 (c188 k wide) fun b1 =>
 bif b1 then
  R198 (c198 k wide a) fun v1 =>
  r218 (v1 == a)
 else r218 false:=by kernel_rfl
theorem n220 (k:Nat) (wide a b:Int):c220 (k + 1) wide a b =
 R233 (c233 k wide a b) fun b1 =>
 bif !b1 then
  r220 0 0 false
 else
  bif (b == 0) then
   R198 (c198 k wide 18446744073709551615) fun v1 =>
   r220 v1 a true
  else
   bif !(b == 0) then
    bif !(b == 0) then
     r220 (IntKind.u64.wrap (a.tdiv b)) (a.tmod b) true
    else none
   else none:=by kernel_rfl
theorem n221 (k:Nat) (wide a by1:Int) (left:Bool):c221 (k + 1) wide a by1 left =
 bif decide (by1>=IntKind.u64.wrap wide) then
  r221 0
 else L221_1 k k wide a by1 left:=by kernel_rfl
theorem sL221_1 (k n:Nat) (wide a by1:Int) (left:Bool):L221_1 k (n + 1) wide a by1 left =
 bif decide (by1 > 0) then
  bif left then
   R198 (c198 k wide (shlI .u64 a 1)) fun v1 =>
   L221_1 k n wide v1 (IntKind.u64.wrap (by1 - 1)) left
  else L221_1 k n wide (shrI .u64 a 1) (IntKind.u64.wrap (by1 - 1)) left
 else r221 a:=by kernel_rfl
theorem n222 (k:Nat) (is1:Bool):c222 (k + 1) is1 =
 bif is1 then
  r222 1
 else r222 0:=by kernel_rfl
theorem n223 (k:Nat) (wide a:Int):c223 (k + 1) wide a =
 bif !decide (IntKind.u64.wrap (IntKind.i64.wrap (wide - 1)) < 0) then
  bif (bitsOp .and .u64 (shrI .u64 a (IntKind.u64.wrap (IntKind.i64.wrap (wide - 1)))) 1 == 1) then
   R198 (c198 k wide 18446744073709551615) fun v1 =>
   r223 (IntKind.i64.wrap (bitsOp .or .u64 a (bitsOp .xor .u64 18446744073709551615 v1)))
  else r223 (IntKind.i64.wrap a)
 else none:=by kernel_rfl
theorem n231 (k:Nat) (wide a b:Int):c231 (k + 1) wide a b =
 R191 (c191 k wide a) fun b1 =>
 bif b1 then
  R191 (c191 k wide b) fun b2 =>
  r231 b2
 else r231 false:=by kernel_rfl
theorem n232 (k:Nat) (hi lo y:Int):c232 (k + 1) hi lo y =
 bif (y == 0) then
  none
 else
  bif decide (y<=hi) then
   none
  else
   bif (hi == 0) then
    bif !(y == 0) then
     bif !(y == 0) then
      r232 (IntKind.u64.wrap (lo.tdiv y)) (lo.tmod y)
     else none
    else none
   else
    R237 (c237 k y) fun v1 =>
    bif !decide (IntKind.u64.wrap v1 < 0) then
     bif !decide (IntKind.u64.wrap v1 < 0) then
      bif !decide (IntKind.u64.wrap (64 - (IntKind.u64.wrap v1)) < 0) then
       bif !decide (IntKind.u64.wrap v1 < 0) then
        bif !(shrI .u64 (shlI .u64 y (IntKind.u64.wrap v1)) 32 == 0) then
         L232_1 k k (shlI .u64 y (IntKind.u64.wrap v1)) (IntKind.u64.wrap v1) (shrI .u64 (shlI .u64 y (IntKind.u64.wrap v1)) 32) (bitsOp .and .u64 (shlI .u64 y (IntKind.u64.wrap v1)) 4294967295) (bitsOp .or .u64 (shlI .u64 hi (IntKind.u64.wrap v1)) (shrI .u64 lo (IntKind.u64.wrap (64 - (IntKind.u64.wrap v1))))) (shrI .u64 (shlI .u64 lo (IntKind.u64.wrap v1)) 32) (bitsOp .and .u64 (shlI .u64 lo (IntKind.u64.wrap v1)) 4294967295) (IntKind.u64.wrap ((bitsOp .or .u64 (shlI .u64 hi (IntKind.u64.wrap v1)) (shrI .u64 lo (IntKind.u64.wrap (64 - (IntKind.u64.wrap v1))))).tdiv (shrI .u64 (shlI .u64 y (IntKind.u64.wrap v1)) 32))) (IntKind.u64.wrap ((bitsOp .or .u64 (shlI .u64 hi (IntKind.u64.wrap v1)) (shrI .u64 lo (IntKind.u64.wrap (64 - (IntKind.u64.wrap v1))))) - (IntKind.u64.wrap ((IntKind.u64.wrap ((bitsOp .or .u64 (shlI .u64 hi (IntKind.u64.wrap v1)) (shrI .u64 lo (IntKind.u64.wrap (64 - (IntKind.u64.wrap v1))))).tdiv (shrI .u64 (shlI .u64 y (IntKind.u64.wrap v1)) 32))) * (shrI .u64 (shlI .u64 y (IntKind.u64.wrap v1)) 32)))))
        else none
       else none
      else none
     else none
    else none:=by kernel_rfl
theorem n233 (k:Nat) (wide a b:Int):c233 (k + 1) wide a b =
 R218 (c218 k wide a) fun b1 =>
 bif b1 then
  R218 (c218 k wide b) fun b2 =>
  r233 b2
 else r233 false:=by kernel_rfl
end Go.Proofs.YthoecdnmokcfbaaGreat
/- The draws: next,pick,one,among;cutting a word. -/
set_option linter.unusedVariables false
set_option linter.unusedSimpArgs false
set_option maxRecDepth 4000
namespace Go.Proofs.YthoecdnmokcfbaaGreat
open Go.Dp
structure CodeOK (bs:List Nat):Prop where
 len:bs.length<=1048576
 lt:∀ b ∈ bs,b < 256
theorem and255 (x:Int):0<=bitsOp .and .u64 x 255 /\ bitsOp .and .u64 x 255<=255:=by
 have e:bitsOp .and .u64 x 255 = wi (BitVec.ofInt 64 x &&& 255#64):=by
  show IntKind.u64.wrap (((BitVec.ofInt 64 x) &&& (BitVec.ofInt 64 255)).toNat:Int) = _
  exact wrap_wi _
 rw [e]
 refine ⟨wi_nonneg _,?_⟩
 unfold wi
 rw [BitVec.toNat_and]
 have:=Nat.and_le_right (n:=(BitVec.ofInt 64 x).toNat) (m:=(255#64).toNat)
 have h2:(255#64).toNat = 255:=rfl
 omega
theorem next_ok {bs:List Nat} (hc:CodeOK bs) {k:Nat} (hk:1<=k) {at':Int} (h0:0<=at') (h1:at'<=1000000000) (s:W) :
  ∃ s2 v,c163 k (encB bs) at' (wi s) = r163 (encB bs) (at' + 1) (wi s2) v /\ 0<=v /\ v<=255:=by
 obtain ⟨k,rfl⟩:∃ j,k = j + 1:=⟨k - 1,by omega⟩
 rw [n163,i64_id (n:=at' + 1) (by omega) (by omega)]
 simp only [wrapU]
 have hl:=hc.len
 cases hd:decide (at' < ((encB bs).length:Int))
 ·simp only [cond_false]
  cases hd2:decide (at' + 1<=((encB bs).length:Int))
  ·simp only [cond_false]
   have h3:=and255 (shrI .u64 (wi (BitVec.ofInt 64 (wi (BitVec.ofInt 64 (wi (BitVec.ofInt 64 (wi s * 6364136223846793005)) + 0)) + 1442695040888963407))) 40)
   exact ⟨_,_,rfl,by rw [i64_id (by omega) (by omega)];exact h3⟩
  ·simp only [cond_true]
   exact ⟨_,_,rfl,by omega,by omega⟩
 ·simp only [cond_true]
  simp only [encB_length,decide_eq_true_eq] at hd
  have hlt:at'.toNat < bs.length:=by omega
  have hlk:lookP (encB bs) at' = some (.int .u8 (bs[at'.toNat]:Int)):=by
   rw [lookP_int h0,encB_get]
   simp [hlt]
  have hb:=hc.lt bs[at'.toNat] (List.getElem_mem hlt)
  rw [hlk]
  simp only [Option.bind_some,int_atInt]
  rw [i64_id (n:=(bs[at'.toNat]:Int)) (by omega) (by omega)]
  cases hd2:decide (at' + 1<=((encB bs).length:Int))
  ·simp only [cond_false]
   have h3:=and255 (shrI .u64 (wi (BitVec.ofInt 64 (wi (BitVec.ofInt 64 (wi (BitVec.ofInt 64 (wi s * 6364136223846793005)) + wi (BitVec.ofInt 64 (bs[at'.toNat]:Int)))) + 1442695040888963407))) 40)
   exact ⟨_,_,rfl,by rw [i64_id (by omega) (by omega)];exact h3⟩
  ·simp only [cond_true]
   exact ⟨_,_,rfl,by omega,by omega⟩
theorem pick_ok {bs:List Nat} (hc:CodeOK bs) {k:Nat} (hk:2<=k) {at':Int} (h0:0<=at') (h1:at'<=999999000) (s:W) (n:Int) :
  ∃ a2 s2 v,c103 k n (encB bs) at' (wi s) = r103 (encB bs) a2 (wi s2) v /\ at'<=a2 /\ a2<=at' + 2 /\ 0<=v /\ (1<=n->v < n) /\ (n<=1->v = 0) /\ v<=65535:=by
 obtain ⟨k,rfl⟩:∃ j,k = j + 1:=⟨k - 1,by omega⟩
 rw [n103]
 cases hd:decide (n<=1)
 ·simp only [cond_false]
  simp at hd
  obtain ⟨s2,v,h,hv0,hv1⟩:=next_ok hc (k:=k) (by omega) h0 (by omega) s
  rw [h]
  simp only [R163_r]
  have hn0:(n == 0) = false:=by simp;omega
  cases hd2:decide (n > 200)
  ·simp only [cond_false,hn0,Bool.not_false,cond_true]
   have h5:=Int.tmod_lt_of_pos v (b:=n) (by omega)
   have h6:=Int.tmod_nonneg n hv0
   have h7:v.tmod n<=v:=by rw [Int.tmod_eq_emod_of_nonneg hv0];exact emod_le_self hv0 (by omega)
   exact ⟨_,_,_,rfl,by omega,by omega,h6,fun _=>h5,by omega,by omega⟩
  ·simp only [cond_true,hn0,Bool.not_false]
   obtain ⟨s3,v3,h3,hv2,hv3⟩:=next_ok hc (k:=k) (by omega) (at':=at' + 1) (by omega) (by omega) s2
   rw [h3]
   simp only [R163_r,cond_true]
   rw [i64_id (n:=v * 256) (by omega) (by omega),i64_id (n:=v * 256 + v3) (by omega) (by omega)]
   have h5:=Int.tmod_lt_of_pos (v * 256 + v3) (b:=n) (by omega)
   have h6:=Int.tmod_nonneg n (a:=v * 256 + v3) (by omega)
   have h7:(v * 256 + v3).tmod n<=v * 256 + v3:=by rw [Int.tmod_eq_emod_of_nonneg (by omega)];exact emod_le_self (by omega) (by omega)
   exact ⟨_,_,_,rfl,by omega,by omega,h6,fun _=>h5,by omega,by omega⟩
 ·simp only [cond_true]
  simp at hd
  exact ⟨_,_,_,rfl,by omega,by omega,by omega,by omega,fun _=>rfl,by omega⟩
theorem one_ok {bs:List Nat} (hc:CodeOK bs) {k:Nat} (hk:3<=k) {at':Int} (h0:0<=at') (h1:at'<=999999000) (s:W) (n:Int) :
  ∃ a2 s2 b,c48 k n (encB bs) at' (wi s) = r48 (encB bs) a2 (wi s2) b /\ at'<=a2 /\ a2<=at' + 2:=by
 obtain ⟨k,rfl⟩:∃ j,k = j + 1:=⟨k - 1,by omega⟩
 obtain ⟨a2,s2,v,h,h2,h3,_⟩:=pick_ok hc (k:=k) (by omega) h0 h1 s n
 rw [n48,h]
 simp only [R103_r]
 exact ⟨_,_,_,rfl,h2,h3⟩
theorem among_ok {bs:List Nat} (hc:CodeOK bs) {k:Nat} (hk:3<=k) {at':Int} (h0:0<=at') (h1:at'<=999999000) (s:W) (L:List Int) (hL:1<=L.length) :
  ∃ a2 s2 v,c102 k (encZ L) (encB bs) at' (wi s) = r102 (encB bs) a2 (wi s2) v /\ at'<=a2 /\ a2<=at' + 2 /\ v ∈ L:=by
 obtain ⟨k,rfl⟩:∃ j,k = j + 1:=⟨k - 1,by omega⟩
 obtain ⟨a2,s2,v,h,h2,h3,h4,h5,_⟩:=pick_ok hc (k:=k) (by omega) h0 h1 s (L.length:Int)
 rw [n102,encZ_length,h]
 simp only [R103_r]
 have hv:=h5 (by omega)
 have hlt:v.toNat < L.length:=by omega
 have e:v = (v.toNat:Int):=by omega
 have hlk:lookP (encZ L) v = some (.int .i64 L[v.toNat]):=by
  rw [lookP_int h4,encZ_get]
  simp [hlt]
 rw [hlk]
 simp only [Option.bind_some,int_atInt]
 exact ⟨_,_,_,rfl,h2,h3,List.getElem_mem hlt⟩
def maskB (n:Nat):W:=BitVec.allOnes 64 >>> (64 - n)
theorem maskB_lsb {n:Nat} (hn:n<=64) (i:Nat):(maskB n).getLsbD i = decide (i < n):=by
 unfold maskB
 rw [BitVec.getLsbD_ushiftRight,BitVec.getLsbD_allOnes]
 by_cases h:i < n <;> simp <;> omega
theorem mask_ok {k:Nat} (hk:1<=k) {wide:Int} (h1:0<=wide) (h2:wide<=64):c131 k wide = r131 (wi (maskB wide.toNat)):=by
 obtain ⟨k,rfl⟩:∃ j,k = j + 1:=⟨k - 1,by omega⟩
 rw [n131,i64_id (by omega) (by omega)]
 have hd:decide (64 - wide < 0) = false:=by simp;omega
 simp only [hd,Bool.not_false,cond_true]
 have e:(18446744073709551615:Int) = wi (BitVec.allOnes 64):=rfl
 rw [e,shr_wi _ (by omega)]
 have:(64 - wide).toNat = 64 - wide.toNat:=by omega
 rw [this]
 rfl
theorem cut_step (a:W) (j:Nat) (hj:j < 64):(a &&& maskB j) ||| (a &&& (1#64 <<< j)) = a &&& maskB (j + 1):=by
 apply BitVec.eq_of_getLsbD_eq
 intro i hi
 rw [BitVec.getLsbD_or,BitVec.getLsbD_and,BitVec.getLsbD_and,BitVec.getLsbD_and,maskB_lsb (by omega),maskB_lsb (by omega)]
 rw [BitVec.getLsbD_shiftLeft,BitVec.getLsbD_one]
 by_cases h1:i < j
 ·have:i < j + 1:=by omega
  simp [h1,this]
 ·by_cases h2:i = j
  ·subst h2;simp;omega
  ·have h3:¬ i < j + 1:=by omega
   have h4:¬ (i - j = 0):=by omega
   simp [h1,h3,h4]
theorem cutloop {wide:Int} (h2:wide<=64) (a:W) (k:Nat):∀ (m n:Nat) (j:Nat),(wide - j).toNat<=m->m < n->(j:Int)<=wide->L198_1 k n wide (wi a) (wi (a &&& maskB j)) (j:Int) = r198 (wi (a &&& maskB wide.toNat))
 | m,0,j,hm,hn,hj=>by omega
 | m,n + 1,j,hm,hn,hj=>by
  rw [sL198_1]
  by_cases h:(j:Int) < wide
  ·have hd:decide ((j:Int) < wide) = true:=by simpa using h
   rw [u64_id (n:=(j:Int)) (by omega) (by omega)]
   have hd2:decide ((j:Int) < 0) = false:=by simp
   have e1:(1:Int) = wi (1#64):=rfl
   simp only [hd,hd2,cond_true,Bool.not_false]
   rw [e1,shl_wi _ (by omega),and_wi,or_wi,<- e1,Int.toNat_natCast,cut_step a j (by omega),i64_id (by omega) (by omega)]
   have e2:(j:Int) + 1 = ((j + 1:Nat):Int):=by omega
   rw [e2]
   cases m with
   | zero=>omega
   | succ m=>exact cutloop h2 a k m n (j + 1) (by omega) (by omega) (by omega)
  ·have hd:decide ((j:Int) < wide) = false:=by simpa using h
   simp only [hd,cond_false]
   have:wide.toNat = j:=by omega
   rw [this]
theorem cut_ok {k:Nat} (hk:70<=k) {wide:Int} (h1:0<=wide) (h2:wide<=64) (a:W):c198 k wide (wi a) = r198 (wi (a &&& maskB wide.toNat)):=by
 obtain ⟨k,rfl⟩:∃ j,k = j + 1:=⟨k - 1,by omega⟩
 rw [n198]
 have e0:(0:Int) = wi (a &&& maskB 0):=by
  have:maskB 0 = 0#64:=by rfl
  rw [this];simp [wi]
 have:=cutloop h2 a k wide.toNat k 0 (by omega) (by omega) (by omega)
 rw [<- e0] at this
 exact this
end Go.Proofs.YthoecdnmokcfbaaGreat
/- The draws of terms. -/
set_option linter.unusedVariables false
set_option linter.unusedSimpArgs false
set_option maxRecDepth 4000
namespace Go.Proofs.YthoecdnmokcfbaaGreat
open Go.Dp
theorem number_ok {bs:List Nat} (hc:CodeOK bs) {wide vars:Int} (hw0:0<=wide) (hw:wide<=64) (hv:1<=vars) (hv2:vars<=100):∀ (d:Nat) {k:Nat} (hk:80 + d<=k) (hd:d<=16) {at':Int} (h0:0<=at') (h1:at' + (20 * 2 ^ d:Nat)<=900000000) (s:W),
  ∃ a2 s2 t,c186 k wide vars (d:Int) (encB bs) at' (wi s) = r186 (encB bs) a2 (wi s2) (encT t) /\ at'<=a2 /\ a2<=at' + (20 * (2 ^ d:Nat) - 10:Nat) /\ 1<=t.length /\ t.length + 1<=2 ^ (d + 1)
 | 0,k,hk,hd,at',h0,h1,s=>by
  obtain ⟨k,rfl⟩:∃ j,k = j + 1:=⟨k - 1,by omega⟩
  rw [n186]
  have e:(((0:Nat):Int) == 0) = true:=rfl
  simp only [e,cond_true]
  obtain ⟨a2,s2,b,h,h2,h3⟩:=one_ok hc (k:=k) (by omega) h0 (by omega) s 2
  rw [h]
  simp only [R48_r]
  cases b
  ·simp only [cond_false]
   obtain ⟨a3,s3,v,h,h4,h5,_⟩:=pick_ok hc (k:=k) (by omega) (at':=a2) (by omega) (by omega) s2 vars
   rw [h]
   simp only [R103_r]
   rw [wrapU]
   exact ⟨a3,s3,[(2,BitVec.ofInt 64 v)],rfl,by omega,by (simp;try omega),by simp,by simp⟩
  ·simp only [cond_true]
   obtain ⟨a3,s3,v,h,h4,h5,_⟩:=pick_ok hc (k:=k) (by omega) (at':=a2) (by omega) (by omega) s2 9
   rw [h]
   simp only [R103_r]
   rw [wrapU,cut_ok (by omega) hw0 hw]
   simp only [R198_r]
   exact ⟨a3,s3,[(1,_)],rfl,by omega,by (simp;try omega),by simp,by simp⟩
 | d + 1,k,hk,hd,at',h0,h1,s=>by
  obtain ⟨k,rfl⟩:∃ j,k = j + 1:=⟨k - 1,by omega⟩
  have ih:=fun (a:Int) (h0:0<=a) (h1:a + (20 * 2 ^ d:Nat)<=900000000) (s:W)=>number_ok hc hw0 hw hv hv2 d (k:=k) (by omega) (by omega) h0 h1 s
  have hp:(2:Nat) ^ d<=65536:=Nat.pow_le_pow_right (n:=2) (by omega) (show d<=16 by omega)
  have hp1:1<=(2:Nat) ^ d:=Nat.one_le_two_pow
  have e2:(2:Nat) ^ (d + 1) = 2 * 2 ^ d:=by rw [Nat.pow_succ];omega
  have e3:(2:Nat) ^ (d + 1 + 1) = 4 * 2 ^ d:=by rw [Nat.pow_succ,e2];omega
  rw [e3]
  rw [e2] at h1 ⊢
  rw [n186]
  have e:(((d + 1:Nat):Int) == 0) = false:=by (simp;try omega)
  have e1:IntKind.i64.wrap (((d + 1:Nat):Int) - 1) = (d:Int):=by rw [i64_id (by omega) (by omega)];omega
  simp only [e,cond_false,e1]
  obtain ⟨a2,s2,b,h,h2,h3⟩:=one_ok hc (k:=k) (by omega) h0 (by omega) s 4
  rw [h]
  simp only [R48_r]
  cases b
  ·simp only [cond_false]
   obtain ⟨a3,s3,b,h,h4,h5⟩:=one_ok hc (k:=k) (by omega) (at':=a2) (by omega) (by omega) s2 7
   rw [h]
   simp only [R48_r]
   cases b
   ·simp only [cond_false]
    obtain ⟨a4,s4,t,h,h6,h7,h8,h9⟩:=ih a3 (by omega) (by omega) s3
    rw [h]
    simp only [R186_r]
    obtain ⟨a5,s5,u,h,h10,h11,h12,h13⟩:=ih a4 (by omega) (by omega) s4
    rw [h]
    simp only [R186_r]
    rw [lim_ok (by (simp;try omega)) (by omega)]
    simp only [cond_true]
    obtain ⟨a6,s6,v,h,h14,h15,_⟩:=among_ok hc (k:=k) (by omega) (at':=a5) (by omega) (by omega) s5 [3,3,3,4,4,5,8,9,10] (by simp)
    rw [show ([PV.int .i64 3,PV.int .i64 3,PV.int .i64 3,PV.int .i64 4,PV.int .i64 4,PV.int .i64 5,PV.int .i64 8,PV.int .i64 9,PV.int .i64 10]:List PV) = encZ [3,3,3,4,4,5,8,9,10] from rfl,h]
    simp only [R102_r]
    obtain ⟨a7,s7,b,h,h16,h17⟩:=one_ok hc (k:=k) (by omega) (at':=a6) (by omega) (by omega) s6 6
    rw [h]
    simp only [R48_r]
    cases b
    ·simp only [cond_false]
     rw [lim_ok (by (simp;try omega)) (by omega),take2]
     exact ⟨a7,s7,t ++ u ++ [(v,0#64)],by simp [encT,encN,wi],by omega,by omega,by (simp;try omega),by (simp;try omega)⟩
    ·simp only [cond_true]
     obtain ⟨a8,s8,v2,h,h18,h19,_⟩:=among_ok hc (k:=k) (by omega) (at':=a7) (by omega) (by omega) s7 [6,7,11,12] (by simp)
     rw [show ([PV.int .i64 6,PV.int .i64 7,PV.int .i64 11,PV.int .i64 12]:List PV) = encZ [6,7,11,12] from rfl,h]
     simp only [R102_r]
     rw [lim_ok (by (simp;try omega)) (by omega),take2]
     exact ⟨a8,s8,t ++ u ++ [(v2,0#64)],by simp [encT,encN,wi],by omega,by omega,by (simp;try omega),by (simp;try omega)⟩
   ·simp only [cond_true]
    obtain ⟨a4,s4,t,h,h6,h7,h8,h9⟩:=ih a3 (by omega) (by omega) s3
    rw [h]
    simp only [R186_r]
    rw [lim_ok (by (simp;try omega)) (by omega),take1]
    exact ⟨a4,s4,t ++ [(13,0#64)],by simp [encT,encN,wi],by omega,by omega,by simp,by (simp;try omega)⟩
  ·simp only [cond_true]
   obtain ⟨a3,s3,b,h,h4,h5⟩:=one_ok hc (k:=k) (by omega) (at':=a2) (by omega) (by omega) s2 2
   rw [h]
   simp only [R48_r]
   cases b
   ·simp only [cond_false]
    obtain ⟨a4,s4,v,h,h6,h7,_⟩:=pick_ok hc (k:=k) (by omega) (at':=a3) (by omega) (by omega) s3 vars
    rw [h]
    simp only [R103_r]
    rw [wrapU]
    exact ⟨a4,s4,[(2,BitVec.ofInt 64 v)],rfl,by omega,by omega,by simp,by (simp;try omega)⟩
   ·simp only [cond_true]
    obtain ⟨a4,s4,v,h,h6,h7,_⟩:=pick_ok hc (k:=k) (by omega) (at':=a3) (by omega) (by omega) s3 9
    rw [h]
    simp only [R103_r]
    rw [wrapU,cut_ok (by omega) hw0 hw]
    simp only [R198_r]
    exact ⟨a4,s4,[(1,_)],rfl,by omega,by omega,by simp,by (simp;try omega)⟩
theorem number_int {bs:List Nat} (hc:CodeOK bs) {wide vars:Int} (hw0:0<=wide) (hw:wide<=64) (hv:1<=vars) (hv2:vars<=100) {d:Int} (hd0:0<=d) (hd:d<=3) {k:Nat} (hk:90<=k) {at':Int} (h0:0<=at') (h1:at'<=800000000) (s:W) :
  ∃ a2 s2 t,c186 k wide vars d (encB bs) at' (wi s) = r186 (encB bs) a2 (wi s2) (encT t) /\ at'<=a2 /\ a2<=at' + 150 /\ 1<=t.length /\ t.length<=15 /\ (d<=1->t.length<=3 /\ a2<=at' + 30):=by
 have hd2:d.toNat<=3:=by omega
 have e1:1<=(2:Nat) ^ d.toNat:=Nat.one_le_two_pow
 have e2:(2:Nat) ^ d.toNat<=2 ^ 3:=Nat.pow_le_pow_right (by omega) hd2
 have e3:(2:Nat) ^ (d.toNat + 1) = 2 * 2 ^ d.toNat:=by rw [Nat.pow_succ];omega
 obtain ⟨a2,s2,t,h,h2,h3,h4,h5⟩:=number_ok hc hw0 hw hv hv2 d.toNat (k:=k) (by omega) (by omega) (at':=at') h0 (by omega) s
 rw [Int.toNat_of_nonneg hd0] at h
 refine ⟨a2,s2,t,h,h2,by omega,h4,by omega,fun hd3=>?_⟩
 have e4:(2:Nat) ^ d.toNat<=2 ^ 1:=Nat.pow_le_pow_right (by omega) (by omega)
 omega
theorem asked_base {bs:List Nat} (hc:CodeOK bs) {wide vars:Int} (hw0:0<=wide) (hw:wide<=64) (hv:1<=vars) (hv2:vars<=100) {k:Nat} (hk:100<=k) {at':Int} (h0:0<=at') (h1:at'<=700000000) (s:W) :
   ∃ a2 s2 t,(R186 (c186 k wide vars 1 (encB bs) at' (wi s)) fun l12 q19 q20 l13 =>
     R103 (c103 k 2 l12 q19 q20) fun l14 q21 q22 q23 =>
     R186 (c186 k wide vars q23 l14 q21 q22) fun l15 q24 q25 l16 =>
     bif decide ((l13.length + ((l16.take l16.length).length)) * 16<=LIM) && decide (l13.length + ((l16.take l16.length).length)<=LIM) then
      R102 (c102 k [PV.int .i64 14,PV.int .i64 15,PV.int .i64 15,PV.int .i64 16] l15 q24 q25) fun l17 q26 q27 q28 =>
      bif decide (((l13.length + ((l16.take l16.length).length)) + 1) * 16<=LIM) && decide ((l13.length + ((l16.take l16.length).length)) + 1<=LIM) then
       r134 l17 q26 q27 (((((l13.take l13.length) ++ (l16.take l16.length)).take (l13.length + ((l16.take l16.length).length))) ++ [PV.agg [.int .i64 q28,.int .u64 0]]).take ((l13.length + ((l16.take l16.length).length)) + 1))
      else none
     else none) = r134 (encB bs) a2 (wi s2) (encT t) /\ at'<=a2 /\ a2<=at' + 70 /\ 1<=t.length /\ t.length<=7:=by
 obtain ⟨a4,s4,t,h,h6,h7,h8,h9,h10⟩:=number_int hc hw0 hw hv hv2 (d:=1) (by omega) (by omega) (k:=k) (by omega) h0 (by omega) s
 have h10:=h10 (by omega)
 rw [h]
 simp only [R186_r]
 obtain ⟨a5,s5,v,h,h11,h12,h13,h14,_⟩:=pick_ok hc (k:=k) (by omega) (at':=a4) (by omega) (by omega) s4 2
 rw [h]
 simp only [R103_r]
 obtain ⟨a6,s6,u,h,h15,h16,h17,h18,h19⟩:=number_int hc hw0 hw hv hv2 (d:=v) (by omega) (by omega) (k:=k) (by omega) (at':=a5) (by omega) (by omega) s5
 have h19:=h19 (by omega)
 rw [h]
 simp only [R186_r]
 rw [lim_ok (by (simp;try omega)) (by omega)]
 simp only [cond_true]
 obtain ⟨a7,s7,w,h,h20,h21,_⟩:=among_ok hc (k:=k) (by omega) (at':=a6) (by omega) (by omega) s6 [14,15,15,16] (by simp)
 rw [show ([PV.int .i64 14,PV.int .i64 15,PV.int .i64 15,PV.int .i64 16]:List PV) = encZ [14,15,15,16] from rfl,h]
 simp only [R102_r]
 rw [lim_ok (by (simp;try omega)) (by omega),take2]
 exact ⟨a7,s7,t ++ u ++ [(w,0#64)],by simp [encT,encN,wi],by omega,by omega,by (simp;try omega),by (simp;try omega)⟩
theorem asked_ok {bs:List Nat} (hc:CodeOK bs) {wide vars:Int} (hw0:0<=wide) (hw:wide<=64) (hv:1<=vars) (hv2:vars<=100):∀ (d:Nat) {k:Nat} (hk:110 + d<=k) (hd:d<=16) {at':Int} (h0:0<=at') (h1:at' + (100 * 2 ^ d:Nat)<=700000000) (s:W),
  ∃ a2 s2 t,c134 k wide vars (d:Int) (encB bs) at' (wi s) = r134 (encB bs) a2 (wi s2) (encT t) /\ at'<=a2 /\ a2<=at' + (100 * (2 ^ d:Nat) - 20:Nat) /\ 1<=t.length /\ t.length + 1<=8 * 2 ^ d
 | d,k,hk,hd,at',h0,h1,s=>by
  obtain ⟨k,rfl⟩:∃ j,k = j + 1:=⟨k - 1,by omega⟩
  have hp:(2:Nat) ^ d<=65536:=Nat.pow_le_pow_right (n:=2) (by omega) (show d<=16 by omega)
  have hp1:1<=(2:Nat) ^ d:=Nat.one_le_two_pow
  rw [n134]
  obtain ⟨a2,s2,b,h,h2,h3⟩:=one_ok hc (k:=k) (by omega) h0 (by omega) s 20
  rw [h]
  simp only [R48_r]
  cases b
  ·simp only [cond_false]
   cases d with
   | zero =>
    have e:decide (((0:Nat):Int) > 0) = false:=rfl
    simp only [e,cond_false]
    obtain ⟨a3,s3,t,h,h4,h5,h6,h7⟩:=asked_base hc hw0 hw hv hv2 (k:=k) (by omega) (at':=a2) (by omega) (by omega) s2
    rw [h]
    exact ⟨a3,s3,t,rfl,by omega,by omega,h6,by omega⟩
   | succ d =>
    have e:decide (((d + 1:Nat):Int) > 0) = true:=by (simp;try omega)
    have e1:IntKind.i64.wrap (((d + 1:Nat):Int) - 1) = (d:Int):=by rw [i64_id (by omega) (by omega)];omega
    have e2:(2:Nat) ^ (d + 1) = 2 * 2 ^ d:=by rw [Nat.pow_succ];omega
    rw [e2] at h1 hp hp1 ⊢
    have ih:=fun (a:Int) (h0:0<=a) (h1:a + (100 * 2 ^ d:Nat)<=700000000) (s:W)=>asked_ok hc hw0 hw hv hv2 d (k:=k) (by omega) (by omega) h0 h1 s
    simp only [e,cond_true,e1]
    obtain ⟨a3,s3,b,h,h4,h5⟩:=one_ok hc (k:=k) (by omega) (at':=a2) (by omega) (by omega) s2 4
    rw [h]
    simp only [R48_r]
    cases b
    ·simp only [cond_false]
     obtain ⟨a4,s4,b,h,h6,h7⟩:=one_ok hc (k:=k) (by omega) (at':=a3) (by omega) (by omega) s3 2
     rw [h]
     simp only [R48_r]
     cases b
     ·simp only [cond_false]
      obtain ⟨a5,s5,t,h,h8,h9,h10,h11⟩:=asked_base hc hw0 hw hv hv2 (k:=k) (by omega) (at':=a4) (by omega) (by omega) s4
      rw [h]
      exact ⟨a5,s5,t,rfl,by omega,by omega,h10,by omega⟩
     ·simp only [cond_true]
      obtain ⟨a5,s5,t,h,h8,h9,h10,h11⟩:=ih a4 (by omega) (by omega) s4
      rw [h]
      simp only [R134_r]
      obtain ⟨a6,s6,u,h,h12,h13,h14,h15⟩:=ih a5 (by omega) (by omega) s5
      rw [h]
      simp only [R134_r]
      rw [lim_ok (by (simp;try omega)) (by omega)]
      simp only [cond_true]
      obtain ⟨a7,s7,w,h,h20,h21,_⟩:=among_ok hc (k:=k) (by omega) (at':=a6) (by omega) (by omega) s6 [17,18] (by simp)
      rw [show ([PV.int .i64 17,PV.int .i64 18]:List PV) = encZ [17,18] from rfl,h]
      simp only [R102_r]
      rw [lim_ok (by (simp;try omega)) (by omega),take2]
      exact ⟨a7,s7,t ++ u ++ [(w,0#64)],by simp [encT,encN,wi],by omega,by omega,by (simp;try omega),by (simp;try omega)⟩
    ·simp only [cond_true]
     obtain ⟨a5,s5,t,h,h8,h9,h10,h11⟩:=ih a3 (by omega) (by omega) s3
     rw [h]
     simp only [R134_r]
     rw [lim_ok (by (simp;try omega)) (by omega),take1]
     exact ⟨a5,s5,t ++ [(19,0#64)],by simp [encT,encN,wi],by omega,by omega,by simp,by (simp;try omega)⟩
  ·simp only [cond_true]
   obtain ⟨a3,s3,v,h,h4,h5,_⟩:=pick_ok hc (k:=k) (by omega) (at':=a2) (by omega) (by omega) s2 2
   rw [h]
   simp only [R103_r]
   rw [wrapU]
   exact ⟨a3,s3,[(20,BitVec.ofInt 64 v)],rfl,by omega,by omega,by simp,by (simp;try omega)⟩
end Go.Proofs.YthoecdnmokcfbaaGreat
/- The draws of terms with their width and variables,and of what is put for these. -/
set_option linter.unusedVariables false
set_option linter.unusedSimpArgs false
set_option maxRecDepth 4000
namespace Go.Proofs.YthoecdnmokcfbaaGreat
open Go.Dp
end Go.Proofs.YthoecdnmokcfbaaGreat
/- Programs: how they lie in rows,and how they are drawn. -/
set_option linter.unusedVariables false
set_option linter.unusedSimpArgs false
set_option maxRecDepth 4000
namespace Go.Proofs.YthoecdnmokcfbaaGreat
open Go.Dp
structure Chg where
 v:Int
 by1:List Nd
 deriving DecidableEq
structure Cmd where
 wh:List Nd
 ch:List Chg
 deriving DecidableEq
structure Prg where
 wide:Int
 vars:Int
 start:List Nd
 cmds:List Cmd
 deriving DecidableEq
def encCh (x:Chg):PV:=.agg [.int .i64 x.v,.row 2 0 (encT x.by1)]
def encChs (l:List Chg):List PV:=l.map encCh
def encCm (x:Cmd):PV:=.agg [.row 2 0 (encT x.wh),.row 2 0 (encChs x.ch)]
def encCms (l:List Cmd):List PV:=l.map encCm
@[simp] theorem encChs_length (l:List Chg):(encChs l).length = l.length:=by simp [encChs]
@[simp] theorem encCms_length (l:List Cmd):(encCms l).length = l.length:=by simp [encCms]
theorem encChs_get (l:List Chg) (i:Nat):(encChs l)[i]? = (l[i]?).map encCh:=by simp [encChs]
theorem encCms_get (l:List Cmd) (i:Nat):(encCms l)[i]? = (l[i]?).map encCm:=by simp [encCms]
theorem encChs_snoc (l:List Chg) (x:Chg):encChs l ++ [encCh x] = encChs (l ++ [x]):=by simp [encChs]
theorem encCms_snoc (l:List Cmd) (x:Cmd):encCms l ++ [encCm x] = encCms (l ++ [x]):=by simp [encCms]
theorem encCms_take (l:List Cmd) (i:Nat):(encCms l).take i = encCms (l.take i):=by simp [encCms,List.map_take]
theorem encCms_set (l:List Cmd) (i:Nat) (x:Cmd):(encCms l).set i (encCm x) = encCms (l.set i x):=by simp [encCms,List.map_set]
@[simp] theorem encCh_shp (x:Chg):(encCh x).shp 2 = true:=rfl
@[simp] theorem encCh_v (x:Chg):(encCh x).atInt .i64 0 = some x.v:=rfl
@[simp] theorem encCh_by (x:Chg):(encCh x).atRow 2 1 = some (encT x.by1):=rfl
@[simp] theorem encCm_shp (x:Cmd):(encCm x).shp 2 = true:=rfl
@[simp] theorem encCm_wh (x:Cmd):(encCm x).atRow 2 0 = some (encT x.wh):=rfl
@[simp] theorem encCm_ch (x:Cmd):(encCm x).atRow 2 1 = some (encChs x.ch):=rfl
theorem put_wh (x:Cmd) (t:List Nd):putPart (encCm x) 2 0 (PV.row 2 0 (encT t)) 0 = some (encCm { x with wh:=t }):=rfl
theorem put_ch (x:Cmd) (l:List Chg):putPart (encCm x) 2 1 (PV.row 2 0 (encChs l)) 0 = some (encCm { x with ch:=l }):=rfl
structure FitC (m:Nat) (c:Cmd):Prop where
 wh:c.wh.length<=100
 ch:c.ch.length<=m
 by1:∀ x ∈ c.ch,x.by1.length<=100
theorem FitC.mono {m m':Nat} {c:Cmd} (h:FitC m c) (hm:m<=m'):FitC m' c:=⟨h.wh,Nat.le_trans h.ch hm,h.by1⟩
structure FitP (p:Prg):Prop where
 w:1<=p.wide /\ p.wide<=64
 v:0<=p.vars /\ p.vars<=5
 st:p.start.length<=100
 cm:p.cmds.length<=6
 c:∀ c ∈ p.cmds,FitC 6 c
theorem asked_int {bs:List Nat} (hc:CodeOK bs) {wide vars:Int} (hw0:0<=wide) (hw:wide<=64) (hv:1<=vars) (hv2:vars<=100) {d:Int} (hd0:0<=d) (hd:d<=2) {k:Nat} (hk:130<=k) {at':Int} (h0:0<=at') (h1:at'<=600000000) (s:W) :
  ∃ a2 s2 t,c134 k wide vars d (encB bs) at' (wi s) = r134 (encB bs) a2 (wi s2) (encT t) /\ at'<=a2 /\ a2<=at' + 500 /\ 1<=t.length /\ t.length<=31:=by
 have hd2:d.toNat<=2:=by omega
 have e2:(2:Nat) ^ d.toNat<=2 ^ 2:=Nat.pow_le_pow_right (by omega) hd2
 obtain ⟨a2,s2,t,h,h2,h3,h4,h5⟩:=asked_ok hc hw0 hw hv hv2 d.toNat (k:=k) (by omega) (by omega) (at':=at') h0 (by omega) s
 rw [Int.toNat_of_nonneg hd0] at h
 exact ⟨a2,s2,t,h,h2,by omega,h4,by omega⟩
theorem command_loop {bs:List Nat} (hc:CodeOK bs) {k:Nat} (hk:120<=k) {wide vars:Int} (hw:1<=wide /\ wide<=64) (hv:1<=vars /\ vars<=5) (l1 l2:List PV) (t:List Nd) (ht:t.length<=31):∀ (m n:Nat) (v:Int) (cs:List Chg) {at':Int} (s:W),(vars - v).toNat<=m->m < n->0<=v->(cs.length:Int)<=v->v<=vars->(∀ x ∈ cs,x.by1.length<=100)->0<=at'->at' + 40 * m<=590000000 ->
  ∃ a2 s2 cs2,L164_1 k n wide vars v (encB bs) at' (wi s) l1 l2 t.length cs.length (encT t) (encChs cs) = r164 (encB bs) a2 (wi s2) (encT t) (encChs cs2) /\ at'<=a2 /\ a2<=at' + 40 * m /\ cs2.length<=5 /\ ∀ x ∈ cs2,x.by1.length<=100
 | m,0,v,cs,at',s,hm,hn,hv0,hj,hvv,hb,h0,h1=>by omega
 | m,n + 1,v,cs,at',s,hm,hn,hv0,hj,hvv,hb,h0,h1=>by
  rw [sL164_1]
  by_cases hd:v < vars
  ·have hd':decide (v < vars) = true:=by simpa using hd
   rw [hd']
   simp only [cond_true]
   obtain ⟨a2,s2,b,h,h2,h3⟩:=one_ok hc (k:=k) (by omega) h0 (by omega) s 2
   rw [h]
   simp only [R48_r]
   cases m with
   | zero=>omega
   | succ m =>
    cases b
    ·simp only [cond_false]
     rw [i64_id (by omega) (by omega)]
     obtain ⟨a3,s3,cs2,h,h4,h5,h6⟩:=command_loop hc hk hw hv l1 l2 t ht m n (v + 1) cs (at':=a2) s2 (by omega) (by omega) (by omega) (by omega) (by omega) hb (by omega) (by omega)
     exact ⟨a3,s3,cs2,h,by omega,by omega,h6⟩
    ·simp only [cond_true]
     obtain ⟨a4,s4,u,h,h7,h8,h9,h10,h11⟩:=number_int hc (wide:=wide) (vars:=vars) (by omega) (by omega) (by omega) (by omega) (d:=1) (by omega) (by omega) (k:=k) (by omega) (at':=a2) (by omega) (by omega) s2
     have h11:=h11 (by omega)
     rw [h]
     simp only [R186_r]
     rw [lim_ok (by omega) (by omega),i64_id (by omega) (by omega)]
     simp only [cond_true,List.take_length]
     have e1:(encChs cs).take cs.length = encChs cs:=by rw [List.take_of_length_le (by simp)]
     have e3:PV.agg [.int .i64 v,.row 2 0 (encT u)] = encCh ⟨v,u⟩:=rfl
     rw [e1,e3,encChs_snoc]
     have e2:cs.length + 1 = (cs ++ [Chg.mk v u]).length:=by simp
     rw [e2]
     obtain ⟨a3,s3,cs2,h,h4,h5,h6⟩:=command_loop hc hk hw hv l1 l2 t ht m n (v + 1) (cs ++ [Chg.mk v u]) (at':=a4) s4 (by omega) (by omega) (by omega) (by simp;omega) (by omega) (by
      intro x hx
      rcases List.mem_append.1 hx with hx | hx
      ·exact hb x hx
      ·simp at hx;subst hx;simp only;omega) (by omega) (by omega)
     exact ⟨a3,s3,cs2,h,by omega,by omega,h6⟩
  ·have hd':decide (v < vars) = false:=by simpa using hd
   rw [hd']
   simp only [cond_false]
   have e1:(encChs cs).take cs.length = encChs cs:=by rw [List.take_of_length_le (by simp)]
   have e2:(encT t).take t.length = encT t:=by rw [List.take_of_length_le (by simp)]
   rw [e1,e2]
   exact ⟨at',s,cs,rfl,by omega,by omega,by omega,hb⟩
theorem command_ok {bs:List Nat} (hc:CodeOK bs) {k:Nat} (hk:140<=k) {wide vars:Int} (hw:1<=wide /\ wide<=64) (hv:1<=vars /\ vars<=5) {at':Int} (h0:0<=at') (h1:at'<=580000000) (s:W) :
  ∃ a2 s2 c,c164 k wide vars (encB bs) at' (wi s) = r164 (encB bs) a2 (wi s2) (encT c.wh) (encChs c.ch) /\ at'<=a2 /\ a2<=at' + 1000 /\ FitC 5 c:=by
 obtain ⟨k,rfl⟩:∃ j,k = j + 1:=⟨k - 1,by omega⟩
 rw [n164]
 obtain ⟨a2,s2,v,h,h2,h3,h4,h5,_⟩:=pick_ok hc (k:=k) (by omega) h0 (by omega) s 2
 rw [h]
 simp only [R103_r]
 obtain ⟨a3,s3,t,h,h6,h7,h8,h9⟩:=asked_int hc (wide:=wide) (vars:=vars) (by omega) (by omega) (by omega) (by omega) (d:=v) (by omega) (by omega) (k:=k) (by omega) (at':=a2) (by omega) (by omega) s2
 rw [h]
 simp only [R134_r,encT_length]
 obtain ⟨a4,s4,cs,h,h10,h11,h12,h13⟩:=command_loop hc (k:=k) (by omega) hw hv [] [] t h9 5 k 0 [] (at':=a3) s3 (by omega) (by omega) (by omega) (by simp) (by omega) (by simp) (by omega) (by omega)
 exact ⟨a4,s4,⟨t,cs⟩,h,by omega,by omega,⟨by simp only;omega,by simp only;omega,h13⟩⟩
theorem progOf_loop {bs:List Nat} (hc:CodeOK bs) {k:Nat} (hk:150<=k) {wide vars:Int} (hw:1<=wide /\ wide<=64) (hv:1<=vars /\ vars<=5) (n13 n14:Int) (l1 l2:List PV) (t:List Nd) (ht:t.length<=31):∀ (m n:Nat) (n1:Int) (cs:List Cmd) {at':Int} (s:W),n1.toNat<=m->m < n->cs.length + m<=6->n1<=6->(∀ x ∈ cs,FitC 5 x)->0<=at'->at' + 1000 * m<=570000000 ->
  ∃ a2 s2 cs2,L104_1 k n wide vars n1 (encB bs) at' (wi s) n13 n14 l1 l2 wide vars t.length cs.length (encT t) (encCms cs) = r104 (encB bs) a2 (wi s2) wide vars (encT t) (encCms cs2) /\ at'<=a2 /\ a2<=at' + 1000 * m /\ cs2.length<=6 /\ (∀ x ∈ cs2,FitC 5 x) /\ (n1>=1 ∨ 1<=cs.length->1<=cs2.length)
 | m,0,n1,cs,at',s,hm,hn,hl,hn1,hb,h0,h1=>by omega
 | m,n + 1,n1,cs,at',s,hm,hn,hl,hn1,hb,h0,h1=>by
  rw [sL104_1]
  by_cases hd:n1 > 0
  ·have hd':decide (n1 > 0) = true:=by simpa using hd
   rw [hd']
   simp only [cond_true]
   obtain ⟨a2,s2,c,h,h2,h3,h4⟩:=command_ok hc (k:=k) (by omega) hw hv h0 (by omega) s
   rw [h]
   simp only [R164_r,encChs_length]
   have e0:decide (c.ch.length<=c.ch.length) = true:=by simp
   rw [e0]
   simp only [cond_true,encCms_length,beq_self_eq_true,Bool.true_and]
   rw [lim_ok (by omega) (by omega)]
   simp only [cond_true]
   have e1:(encChs c.ch).take c.ch.length = encChs c.ch:=by rw [List.take_of_length_le (by simp)]
   have e3:PV.agg [.row 2 0 (encT c.wh),.row 2 0 (encChs c.ch)] = encCm c:=rfl
   rw [e1,e3,encCms_snoc,i64_id (by omega) (by omega)]
   have e2:cs.length + 1 = (cs ++ [c]).length:=by simp
   rw [e2]
   cases m with
   | zero=>omega
   | succ m =>
    obtain ⟨a3,s3,cs2,h,h5,h6,h7,h8,h9⟩:=progOf_loop hc hk hw hv n13 n14 l1 l2 t ht m n (n1 - 1) (cs ++ [c]) (at':=a2) s2 (by omega) (by omega) (by simp;omega) (by omega) (by
     intro x hx
     rcases List.mem_append.1 hx with hx | hx
     ·exact hb x hx
     ·simp at hx;subst hx;exact h4) (by omega) (by omega)
    exact ⟨a3,s3,cs2,h,by omega,by omega,h7,h8,fun _=>h9 (by simp)⟩
  ·have hd':decide (n1 > 0) = false:=by simpa using hd
   rw [hd']
   simp only [cond_false,encCms_length,beq_self_eq_true,cond_true]
   have e1:(encCms cs).take cs.length = encCms cs:=by rw [List.take_of_length_le (by simp)]
   have e2:(encT t).take t.length = encT t:=by rw [List.take_of_length_le (by simp)]
   rw [e1,e2]
   exact ⟨at',s,cs,rfl,by omega,by omega,by omega,hb,fun h=>by omega⟩
theorem progOf_ok {bs:List Nat} (hc:CodeOK bs) {k:Nat} (hk:160<=k) {wide vars:Int} (hw:1<=wide /\ wide<=64) (hv:1<=vars /\ vars<=5) {at':Int} (h0:0<=at') (h1:at'<=560000000) (s:W) :
  ∃ a2 s2 p,c104 k wide vars (encB bs) at' (wi s) = r104 (encB bs) a2 (wi s2) p.wide p.vars (encT p.start) (encCms p.cmds) /\ at'<=a2 /\ a2<=at' + 8000 /\ FitP p /\ 1<=p.cmds.length /\ p.wide = wide /\ p.vars = vars /\ ∀ c ∈ p.cmds,FitC 5 c:=by
 obtain ⟨k,rfl⟩:∃ j,k = j + 1:=⟨k - 1,by omega⟩
 rw [n104]
 obtain ⟨a2,s2,v,h,h2,h3,h4,h5,_⟩:=pick_ok hc (k:=k) (by omega) h0 (by omega) s 2
 rw [h]
 simp only [R103_r]
 obtain ⟨a3,s3,b,h,h6,h7⟩:=one_ok hc (k:=k) (by omega) (at':=a2) (by omega) (by omega) s2 3
 rw [h]
 simp only [R48_r]
 cases b
 ·simp only [cond_false]
  obtain ⟨a4,s4,u,h,h8,h9,h10,h11,_⟩:=pick_ok hc (k:=k) (by omega) (at':=a3) (by omega) (by omega) s3 3
  rw [h]
  simp only [R103_r]
  have h5:=h5 (by omega)
  have h11:=h11 (by omega)
  rw [i64_id (n:=1 + u) (by omega) (by omega)]
  have e0:IntKind.u64.wrap v = wi (BitVec.ofInt 64 v):=wrapU v
  have e1:([PV.agg [.int .i64 2,.int .u64 0],PV.agg [.int .i64 1,.int .u64 (IntKind.u64.wrap v)],PV.agg [.int .i64 14,.int .u64 0]]:List PV) = encT [(2,0#64),(1,BitVec.ofInt 64 v),(14,0#64)]:=by rw [e0];rfl
  rw [e1]
  obtain ⟨a5,s5,cs,h,h12,h13,h14,h15,h16⟩:=progOf_loop hc (k:=k) (by omega) hw hv 0 0 [] [] [(2,0#64),(1,BitVec.ofInt 64 v),(14,0#64)] (by simp) 3 k (1 + u) [] (at':=a4) s4 (by omega) (by omega) (by simp) (by omega) (by simp) (by omega) (by omega)
  exact ⟨a5,s5,⟨wide,vars,_,cs⟩,h,by omega,by omega,⟨hw,⟨by simp only;omega,by simp only;omega⟩,by simp,h14,fun c hc=>(h15 c hc).mono (by omega)⟩,h16 (by omega),rfl,rfl,h15⟩
 ·simp only [cond_true]
  obtain ⟨a4,s4,t,h,h8,h9,h10,h11⟩:=asked_int hc (wide:=wide) (vars:=vars) (by omega) (by omega) (by omega) (by omega) (d:=1) (by omega) (by omega) (k:=k) (by omega) (at':=a3) (by omega) (by omega) s3
  rw [h]
  simp only [R134_r,encT_length]
  obtain ⟨a5,s5,u,h,h12,h13,h14,h15,_⟩:=pick_ok hc (k:=k) (by omega) (at':=a4) (by omega) (by omega) s4 3
  rw [h]
  simp only [R103_r]
  have h15:=h15 (by omega)
  rw [i64_id (n:=1 + u) (by omega) (by omega)]
  obtain ⟨a6,s6,cs,h,h16,h17,h18,h19,h20⟩:=progOf_loop hc (k:=k) (by omega) hw hv 0 0 [] [] t h11 3 k (1 + u) [] (at':=a5) s5 (by omega) (by omega) (by simp) (by omega) (by simp) (by omega) (by omega)
  exact ⟨a6,s6,⟨wide,vars,t,cs⟩,h,by omega,by omega,⟨hw,⟨by simp only;omega,by simp only;omega⟩,by simp only;omega,h18,fun c hc=>(h19 c hc).mono (by omega)⟩,h20 (by omega),rfl,rfl,h19⟩
theorem small_tail {bs:List Nat} (hc:CodeOK bs) {k:Nat} (hk:170<=k):∀ (m n:Nat) {wide vars:Int} {at':Int} (s:W),1<=wide->wide<=4->1<=vars->vars<=10->(vars - 1).toNat<=m->m < n->0<=at'->at'<=550000000 ->
  ∃ a2 s2 p,L44_1 k n wide vars (encB bs) at' (wi s) 0 0 [] [] = r44 (encB bs) a2 (wi s2) p.wide p.vars (encT p.start) (encCms p.cmds) /\ at'<=a2 /\ a2<=at' + 9000 /\ FitP p
 | m,0,wide,vars,at',s,hw0,hw,hv0,hv,hm,hn,h0,h1=>by omega
 | m,n + 1,wide,vars,at',s,hw0,hw,hv0,hv,hm,hn,h0,h1=>by
  rw [sL44_1]
  have hb:0<=wide * vars /\ wide * vars<=40:=by
   have h2:wide * vars<=4 * vars:=Int.mul_le_mul_of_nonneg_right hw (by omega)
   have h3:0<=wide * vars:=Int.mul_nonneg (by omega) (by omega)
   omega
  rw [i64_id (n:=wide * vars) (by omega) (by omega),i64_id (n:=vars - 1) (by omega) (by omega)]
  have one:vars = 1->wide * vars<=5:=by intro h;subst h;omega
  have rc:(1 < vars)->∃ a2 s2 p,L44_1 k n wide (vars - 1) (encB bs) at' (wi s) 0 0 [] [] = r44 (encB bs) a2 (wi s2) p.wide p.vars (encT p.start) (encCms p.cmds) /\ at'<=a2 /\ a2<=at' + 9000 /\ FitP p:=by
   intro h
   cases m with
   | zero=>omega
   | succ m=>exact small_tail hc hk m n s hw0 hw (by omega) (by omega) (by omega) (by omega) h0 h1
  by_cases hd:wide * vars > 5
  ·have hd':decide (wide * vars > 5) = true:=by simpa using hd
   rw [hd']
   exact rc (by omega)
  ·have hd':decide (wide * vars > 5) = false:=by simpa using hd
   rw [hd']
   simp only [cond_false]
   by_cases hd2:vars > 4
   ·have hd2':decide (vars > 4) = true:=by simpa using hd2
    rw [hd2']
    exact rc (by omega)
   ·have hd2':decide (vars > 4) = false:=by simpa using hd2
    rw [hd2']
    simp only [cond_false]
    obtain ⟨a2,s2,p,h,h2,h3,h4,h5,h6,h7,h7b⟩:=progOf_ok hc (k:=k) (by omega) (wide:=wide) (vars:=vars) ⟨hw0,by omega⟩ ⟨hv0,by omega⟩ h0 (by omega) s
    rw [h]
    simp only [R104_r]
    obtain ⟨a3,s3,v,h,h8,h9,h10,h11,_⟩:=pick_ok hc (k:=k) (by omega) (at':=a2) (by omega) (by omega) s2 40
    rw [h]
    simp only [R103_r,encCms_length]
    have e1:(encCms p.cmds).take p.cmds.length = encCms p.cmds:=by rw [List.take_of_length_le (by simp)]
    have hpos:decide ((0:Int) < (p.cmds.length:Int)) = true:=by simp;omega
    have hget:(encCms p.cmds)[0]? = some (encCm p.cmds[0]):=by rw [encCms_get,List.getElem?_eq_getElem (by omega)];rfl
    have hf0:=h7b p.cmds[0] (List.getElem_mem _)
    cases e0:(v == 0)
    ·simp only [cond_false]
     cases e1':(v == 1)
     ·simp only [cond_false]
      cases e2:(v == 2)
      ·simp only [cond_false]
       cases e3:(v == 3)
       ·simp only [cond_false,e1]
        exact ⟨a3,s3,p,(by first | rfl | simp),by omega,by omega,h4⟩
       ·simp only [cond_true,hpos,hget,Option.bind_some,encCm_ch,encChs_length]
        have hl:=hf0.ch
        rw [lim_ok (by omega) (by omega)]
        have e5:PV.agg [.int .i64 0,.row 2 0 [PV.agg [.int .i64 1,.int .u64 0]]] = encCh ⟨0,[(1,0#64)]⟩:=rfl
        rw [e5,encChs_snoc]
        have e6:decide (p.cmds[0].ch.length + 1<=(encChs (p.cmds[0].ch ++ [⟨0,[(1,0#64)]⟩])).length) = true:=by simp
        rw [e6]
        simp only [cond_true]
        have e7:(encChs (p.cmds[0].ch ++ [⟨0,[(1,0#64)]⟩])).take (p.cmds[0].ch.length + 1) = encChs (p.cmds[0].ch ++ [⟨0,[(1,0#64)]⟩]):=by rw [List.take_of_length_le (by simp)]
        rw [e7,put_ch]
        simp only [Option.bind_some]
        rw [encCms_set,encCms_take,List.take_of_length_le (by simp)]
        refine ⟨a3,s3,{ p with cmds:=p.cmds.set 0 { p.cmds[0] with ch:=p.cmds[0].ch ++ [⟨0,[(1,0#64)]⟩] } },(by first | rfl | simp),by omega,by omega,⟨h4.w,h4.v,h4.st,by simpa using h4.cm,fun c hc'=>?_⟩⟩
        rcases List.mem_or_eq_of_mem_set hc' with h12 | h12
        ·exact h4.c c h12
        ·subst h12
         refine ⟨hf0.wh,by simp;omega,fun x hx=>?_⟩
         rcases List.mem_append.1 hx with hx | hx
         ·exact hf0.by1 x hx
         ·simp at hx;subst hx;simp
      ·simp only [cond_true,hpos,hget,Option.bind_some]
       have e5:([PV.agg [.int .i64 1,.int .u64 0]]:List PV) = encT [(1,0#64)]:=rfl
       rw [e5,put_wh]
       simp only [Option.bind_some]
       rw [encCms_set,encCms_take,List.take_of_length_le (by simp)]
       refine ⟨a3,s3,{ p with cmds:=p.cmds.set 0 { p.cmds[0] with wh:=[(1,0#64)] } },(by first | rfl | simp),by omega,by omega,⟨h4.w,h4.v,h4.st,by simpa using h4.cm,fun c hc'=>?_⟩⟩
       have hl:=hf0.ch
       rcases List.mem_or_eq_of_mem_set hc' with h12 | h12
       ·exact h4.c c h12
       ·subst h12
        exact ⟨by simp,by simp only;omega,hf0.by1⟩
     ·simp only [cond_true]
      exact ⟨a3,s3,{ p with cmds:=[] },rfl,by omega,by omega,⟨h4.w,h4.v,h4.st,by simp,by simp⟩⟩
    ·simp only [cond_true]
     obtain ⟨a4,s4,x,h,h12,h13,h14⟩:=among_ok hc (k:=k) (by omega) (at':=a3) (by omega) (by omega) s3 [0,4,5] (by simp)
     rw [show ([PV.int .i64 0,PV.int .i64 4,PV.int .i64 5]:List PV) = encZ [0,4,5] from rfl,h]
     simp only [R102_r,e1]
     refine ⟨a4,s4,{ p with vars:=x },(by first | rfl | simp),by omega,by omega,⟨h4.w,?_,h4.st,h4.cm,h4.c⟩⟩
     simp at h14
     simp only
     omega
theorem small_ok {bs:List Nat} (hc:CodeOK bs) {k:Nat} (hk:200<=k) {at':Int} (h0:0<=at') (h1:at'<=500000000) (s:W) :
  ∃ a2 s2 p,c44 k (encB bs) at' (wi s) = r44 (encB bs) a2 (wi s2) p.wide p.vars (encT p.start) (encCms p.cmds) /\ at'<=a2 /\ a2<=at' + 10000 /\ FitP p:=by
 obtain ⟨k,rfl⟩:∃ j,k = j + 1:=⟨k - 1,by omega⟩
 rw [n44]
 obtain ⟨a2,s2,v,h,h2,h3,h4⟩:=among_ok hc (k:=k) (by omega) h0 (by omega) s [1,2,2,2,3,4] (by simp)
 rw [show ([PV.int .i64 1,PV.int .i64 2,PV.int .i64 2,PV.int .i64 2,PV.int .i64 3,PV.int .i64 4]:List PV) = encZ [1,2,2,2,3,4] from rfl,h]
 simp only [R102_r]
 have hv:1<=v /\ v<=4:=by simp at h4;omega
 cases e0:decide (v < 3)
 ·simp only [cond_false]
  obtain ⟨a3,s3,p,h,h5,h6,h7⟩:=small_tail hc (k:=k) (by omega) 9 k (wide:=v) (vars:=1) (at':=a2) s2 hv.1 hv.2 (by omega) (by omega) (by omega) (by omega) (by omega) (by omega)
  exact ⟨a3,s3,p,h,by omega,by omega,h7⟩
 ·simp only [cond_true]
  have hz:(v == 0) = false:=by simp;omega
  rw [hz]
  simp only [Bool.not_false,cond_true]
  have hq:IntKind.i64.wrap ((6:Int).tdiv v) = 6 / v /\ 1<=6 / v /\ 6 / v<=6:=by
   have:v = 1 ∨ v = 2:=by simp at e0;omega
   rcases this with rfl | rfl <;> decide
  rw [hq.1]
  obtain ⟨a3,s3,u,h,h5,h6,h7,h8,h9,_⟩:=pick_ok hc (k:=k) (by omega) (at':=a2) (by omega) (by omega) s2 (6 / v)
  rw [h]
  simp only [R103_r]
  have h8:=h8 hq.2.1
  rw [i64_id (n:=1 + u) (by omega) (by omega)]
  obtain ⟨a4,s4,p,h,h10,h11,h12⟩:=small_tail hc (k:=k) (by omega) 9 k (wide:=v) (vars:=1 + u) (at':=a3) s3 hv.1 hv.2 (by omega) (by omega) (by omega) (by omega) (by omega) (by omega)
  exact ⟨a4,s4,p,h,by omega,by omega,h12⟩
end Go.Proofs.YthoecdnmokcfbaaGreat
/- Good terms: what they are,and that both texts find them so. -/
set_option linter.unusedVariables false
set_option linter.unusedSimpArgs false
set_option maxRecDepth 4000
namespace Go.Proofs.YthoecdnmokcfbaaGreat
open Go.Dp
theorem maskB_toNat {n:Nat} (hn:n<=64):(maskB n).toNat = 2 ^ n - 1:=by
 unfold maskB
 rw [BitVec.toNat_ushiftRight,BitVec.toNat_allOnes,Nat.shiftRight_eq_div_pow]
 have h1:(2:Nat) ^ 64 = 2 ^ n * 2 ^ (64 - n):=by rw [<- Nat.pow_add];congr 1;omega
 have h2:1<=(2:Nat) ^ (64 - n):=Nat.one_le_two_pow
 have h3:1<=(2:Nat) ^ n:=Nat.one_le_two_pow
 have h4:(2:Nat) ^ 64 - 1 = (2 ^ (64 - n) - 1) + 2 ^ (64 - n) * (2 ^ n - 1):=by
  rw [h1,Nat.mul_sub,Nat.mul_comm (2 ^ (64 - n)) (2 ^ n)]
  have:2 ^ (64 - n)<=2 ^ n * 2 ^ (64 - n):=Nat.le_mul_of_pos_left _ (by omega)
  omega
 rw [h4,Nat.add_mul_div_left _ _ (by omega),Nat.div_eq_of_lt (by omega),Nat.zero_add]
theorem cut_eq_iff {n:Nat} (hn:n<=64) (a:W):a &&& maskB n = a ↔ a<=maskB n:=by
 rw [BitVec.le_def,maskB_toNat hn]
 have h3:1<=(2:Nat) ^ n:=Nat.one_le_two_pow
 constructor
 ·intro h
  have:a.toNat = (a &&& maskB n).toNat:=by rw [h]
  rw [BitVec.toNat_and,maskB_toNat hn,Nat.and_two_pow_sub_one_eq_mod] at this
  have:=Nat.mod_lt a.toNat (show 0 < 2 ^ n by omega)
  omega
 ·intro h
  apply BitVec.eq_of_toNat_eq
  rw [BitVec.toNat_and,maskB_toNat hn,Nat.and_two_pow_sub_one_eq_mod,Nat.mod_eq_of_lt (by omega)]
def isW (n:Int):Bool:=decide (1<=n) && decide (n<=64)
theorem isW_iff {n:Int}:isW n = true ↔ 1<=n /\ n<=64:=by simp [isW]
theorem isWide_ok {k:Nat} (hk:1<=k) (n:Int):c139 k n = r139 (isW n):=by
 obtain ⟨k,rfl⟩:∃ j,k = j + 1:=⟨k - 1,by omega⟩
 rw [n139]
 by_cases h:1<=n <;> simp [isW,h]
def isV (n:Int):Bool:=decide (1<=n) && decide (n<=4)
theorem isV_iff {n:Int}:isV n = true ↔ 1<=n /\ n<=4:=by simp [isV]
theorem isVars_ok {k:Nat} (hk:1<=k) (n:Int):c140 k n = r140 (isV n):=by
 obtain ⟨k,rfl⟩:∃ j,k = j + 1:=⟨k - 1,by omega⟩
 rw [n140]
 by_cases h:1<=n <;> simp [isV,h]
theorem in_ok {k:Nat} (hk:1<=k) (n lo hi:Int):c52 k n lo hi = r52 (decide (lo<=n) && decide (n<=hi)):=by
 obtain ⟨k,rfl⟩:∃ j,k = j + 1:=⟨k - 1,by omega⟩
 rw [n52]
 by_cases h:lo<=n <;> simp [h]
theorem wideS_ok {k:Nat} (hk:2<=k) (n:Int):c188 k n = r188 (isW n):=by
 obtain ⟨k,rfl⟩:∃ j,k = j + 1:=⟨k - 1,by omega⟩
 rw [n188,in_ok (by omega)]
 simp only [R52_r]
 rfl
def goodW (wide:Int) (a:W):Bool:=isW wide && decide (a<=maskB wide.toNat)
theorem goodWord_ok {k:Nat} (hk:2<=k) (wide:Int) (a:W):c191 k wide (wi a) = r191 (goodW wide a):=by
 obtain ⟨k,rfl⟩:∃ j,k = j + 1:=⟨k - 1,by omega⟩
 rw [n191,isWide_ok (by omega)]
 simp only [R139_r]
 cases h:isW wide
 ·simp [goodW,h]
 ·have h':=isW_iff.1 h
  rw [mask_ok (by omega) (by omega) (by omega)]
  simp only [cond_true,R131_r,wi_le_iff]
  simp [goodW,h]
theorem goodWordS_ok {k:Nat} (hk:80<=k) (wide:Int) (a:W):c218 k wide (wi a) = r218 (goodW wide a):=by
 obtain ⟨k,rfl⟩:∃ j,k = j + 1:=⟨k - 1,by omega⟩
 rw [n218,wideS_ok (by omega)]
 simp only [R188_r]
 cases h:isW wide
 ·simp [goodW,h]
 ·have h':=isW_iff.1 h
  rw [cut_ok (by omega) (by omega) (by omega)]
  simp only [cond_true,R198_r,wi_beq]
  congr 1
  have:=cut_eq_iff (n:=wide.toNat) (by omega) a
  simp only [goodW,h,Bool.true_and]
  rw [Bool.eq_iff_iff]
  simp [this]
def need (op:Int):Nat × Int × Int :=
 if op = 1 ∨ op = 2 then (0,1,1) else if op = 20 then (0,2,2) else if op = 13 then (1,1,1) else if op = 19 then (1,2,2)
 else if 3<=op /\ op<=12 then (2,1,1) else if 14<=op /\ op<=16 then (2,1,2) else if op = 17 ∨ op = 18 then (2,2,2) else (0,0,0)
def needI (op:Int):Int:=if (need op).1 = 0 then 0 else (need op).2.1
theorem need_le (op:Int):(need op).1<=2:=by
 unfold need
 repeat' split
 all_goals simp
theorem operandsOf_ok {k:Nat} (hk:1<=k) (op:Int):c141 k op = r141 (need op).1 (needI op) (need op).2.2:=by
 obtain ⟨k,rfl⟩:∃ j,k = j + 1:=⟨k - 1,by omega⟩
 rw [n141]
 unfold needI need
 by_cases h1:op = 1
 ·subst h1;rfl
 by_cases h2:op = 2
 ·subst h2;rfl
 by_cases h3:op = 20
 ·subst h3;rfl
 by_cases h4:op = 13
 ·subst h4;rfl
 by_cases h5:op = 19
 ·subst h5;rfl
 by_cases h6:op = 17
 ·subst h6;rfl
 by_cases h7:op = 18
 ·subst h7;rfl
 have e1:(op == 1) = false:=by simpa using h1
 have e2:(op == 2) = false:=by simpa using h2
 have e3:(op == 20) = false:=by simpa using h3
 have e4:(op == 13) = false:=by simpa using h4
 have e5:(op == 19) = false:=by simpa using h5
 have e6:(op == 17) = false:=by simpa using h6
 have e7:(op == 18) = false:=by simpa using h7
 simp only [e1,e2,e3,e4,e5,e6,e7,cond_false,h1,h2,h3,h4,h5,h6,h7,or_self,if_false]
 by_cases a1:3<=op
 ·by_cases a2:op<=12
  ·simp [a1,a2]
  ·by_cases a3:14<=op
   ·by_cases a4:op<=16
    ·simp [a1,a2,a3,a4]
    ·simp [a1,a2,a3,a4]
   ·simp [a1,a2,a3]
 ·have a3:¬ 14<=op:=by omega
  simp [a1,a3]
theorem needS_ok {k:Nat} (hk:2<=k) (op:Int):c189 k op = r189 (need op).1 (need op).2.1 (need op).2.2:=by
 obtain ⟨k,rfl⟩:∃ j,k = j + 1:=⟨k - 1,by omega⟩
 rw [n189]
 unfold need
 by_cases h1:op = 1
 ·subst h1;rfl
 by_cases h2:op = 2
 ·subst h2;rfl
 by_cases h3:op = 20
 ·subst h3;rfl
 by_cases h4:op = 13
 ·subst h4;rfl
 by_cases h5:op = 19
 ·subst h5;rfl
 have e1:(op == 1) = false:=by simpa using h1
 have e2:(op == 2) = false:=by simpa using h2
 have e3:(op == 20) = false:=by simpa using h3
 have e4:(op == 13) = false:=by simpa using h4
 have e5:(op == 19) = false:=by simpa using h5
 simp only [e1,e2,e3,e4,e5,cond_false,h1,h2,h3,h4,h5,or_self,if_false,in_ok (show 1<=k by omega),R52_r]
 by_cases a1:3<=op /\ op<=12
 ·simp [a1]
 ·have b1:(decide (3<=op) && decide (op<=12)) = false:=by simp;omega
  simp only [b1,cond_false,a1,if_false]
  by_cases a2:14<=op /\ op<=16
  ·simp [a2]
  ·have b2:(decide (14<=op) && decide (op<=16)) = false:=by simp;omega
   simp only [b2,cond_false,a2,if_false]
   by_cases h6:op = 17
   ·subst h6;rfl
   by_cases h7:op = 18
   ·subst h7;rfl
   have e6:(op == 17) = false:=by simpa using h6
   have e7:(op == 18) = false:=by simpa using h7
   simp [e6,e7,h6,h7]
def leafOK (wide vars:Int) (x:Nd):Bool :=
 if x.1 = 1 then goodW wide x.2 else if x.1 = 2 then decide (wi x.2 < IntKind.u64.wrap vars) else if x.1 = 20 then decide (wi x.2<=1) else decide (x.2 = 0#64)
theorem isLeafRight_ok {k:Nat} (hk:3<=k) (wide vars:Int) (x:Nd):c142 k wide vars x.1 (wi x.2) = r142 (leafOK wide vars x):=by
 obtain ⟨k,rfl⟩:∃ j,k = j + 1:=⟨k - 1,by omega⟩
 rw [n142]
 unfold leafOK
 by_cases h1:x.1 = 1
 ·simp [h1,goodWord_ok (show 2<=k by omega)]
 by_cases h2:x.1 = 2
 ·simp [h2]
 by_cases h3:x.1 = 20
 ·simp [h3]
 have e:(wi x.2 == 0) = decide (x.2 = 0#64):=by
  have:(0:Int) = wi 0#64:=rfl
  rw [this,wi_beq];rfl
 have e1:(x.1 == 1) = false:=by simpa using h1
 have e2:(x.1 == 2) = false:=by simpa using h2
 have e3:(x.1 == 20) = false:=by simpa using h3
 simp [h1,h2,h3,e,e1,e2,e3]
theorem l2N_ok {k:Nat} (hk:81<=k) (wide vars:Int) (x:Nd):c190 k wide vars x.1 (wi x.2) = r190 (leafOK wide vars x):=by
 obtain ⟨k,rfl⟩:∃ j,k = j + 1:=⟨k - 1,by omega⟩
 rw [n190]
 unfold leafOK
 by_cases h1:x.1 = 1
 ·simp [h1,goodWordS_ok (show 80<=k by omega)]
 by_cases h2:x.1 = 2
 ·simp [h2]
 by_cases h3:x.1 = 20
 ·have:decide (wi x.2 < 2) = decide (wi x.2<=1):=by rw [Bool.eq_iff_iff];simp;omega
  simp [h3,this]
 have e:(wi x.2 == 0) = decide (x.2 = 0#64):=by
  have:(0:Int) = wi 0#64:=rfl
  rw [this,wi_beq];rfl
 have e1:(x.1 == 1) = false:=by simpa using h1
 have e2:(x.1 == 2) = false:=by simpa using h2
 have e3:(x.1 == 20) = false:=by simpa using h3
 simp [h1,h2,h3,e,e1,e2,e3]
end Go.Proofs.YthoecdnmokcfbaaGreat
/- Good terms,by both texts. -/
set_option linter.unusedVariables false
set_option linter.unusedSimpArgs false
set_option maxRecDepth 4000
namespace Go.Proofs.YthoecdnmokcfbaaGreat
open Go.Dp
def kst (wide vars:Int):List Nd->List Int->Option (List Int)
 | [],st=>some st
 | x :: t,st =>
  if (need x.1).2.2 = 0 then none else if leafOK wide vars x = false then none else if st.length < (need x.1).1 then none
  else if (st.take (need x.1).1).any (· != (need x.1).2.1) then none else kst wide vars t ((need x.1).2.2 :: st.drop (need x.1).1)
def fin1 (o:Option (List Int)):Bool:=match o with | some [_]=>true | _=>false
def kind1 (o:Option (List Int)):Int:=match o with | some [k]=>k | _=>0
def sizeT (wide vars:Int) (t:List Nd):Bool:=isW wide && isV vars && decide (1<=t.length) && decide (t.length<=48)
def goodT (wide vars:Int) (t:List Nd):Bool:=sizeT wide vars t && fin1 (kst wide vars t [])
def kindT (wide vars:Int) (t:List Nd):Int:=if sizeT wide vars t then kind1 (kst wide vars t []) else 0
theorem idx_loop {k:Nat} (hk:1<=k) (l:List Int) (hl:l.length<=1000000) (c:Int):∀ (n i:Nat),l.length - i < n->i<=l.length->∃ v,L124f143_1 k n (encZ l) (l.length:Int) (i:Int) c = r124f143 c v /\ decide (v>=0) = (l.drop i).any (· != c)
 | 0,i,h,hi=>by omega
 | n + 1,i,h,hi=>by
  obtain ⟨k,rfl⟩:∃ j,k = j + 1:=⟨k - 1,by omega⟩
  rw [sL124f143_1]
  by_cases hlt:i < l.length
  ·have hd:decide ((i:Int) < (l.length:Int)) = true:=by simpa using hlt
   rw [hd,lookP_nat,encZ_get,List.getElem?_eq_getElem hlt]
   simp only [cond_true,Option.map_some,Option.bind_some,int_atInt,n143,R143_r]
   rw [drop_cons hlt,List.any_cons]
   cases hne:(l[i] != c)
   ·simp only [cond_false,Bool.false_or]
    rw [i64_id (by omega) (by omega)]
    exact idx_loop (k:=k + 1) (by omega) l hl c n (i + 1) (by omega) (by omega)
   ·simp only [cond_true,Bool.true_or]
    exact ⟨_,rfl,by simp⟩
  ·have hd:decide ((i:Int) < (l.length:Int)) = false:=by simpa using hlt
   rw [hd,List.drop_eq_nil_of_le (by omega)]
   exact ⟨_,rfl,by simp⟩
theorem contains_ok {k:Nat} (hk:1000010<=k) (l:List Int) (hl:l.length<=1000000) (c:Int):c62f143 k (encZ l) c = r62f143 c (l.any (· != c)):=by
 obtain ⟨k,rfl⟩:∃ j,k = j + 2:=⟨k - 2,by omega⟩
 rw [n62f143,n124f143,encZ_length]
 obtain ⟨v,h,h2⟩:=idx_loop (k:=k) (by omega) l hl c k 0 (by omega) (by omega)
 have h':L124f143_1 k k (encZ l) (l.length:Int) 0 c = r124f143 c v:=h
 rw [h']
 simp only [R124f143_r,h2,List.drop_zero]
theorem good_loop {k:Nat} (hk:1000020<=k) (wide vars:Int) (t:List Nd) (ht:t.length<=100000):∀ (n i:Nat) (st:List Int),t.length - i < n->i<=t.length->st.length<=i ->
  L77_1 k n wide vars st.length (encT t) (t.length:Int) (i:Int) (encZ st.reverse) = r77 (fin1 (kst wide vars (t.drop i) st))
 | 0,i,st,h,hi,hs=>by omega
 | n + 1,i,st,h,hi,hs=>by
  rw [sL77_1]
  by_cases hlt:i < t.length
  ·have hd:decide ((i:Int) < (t.length:Int)) = true:=by simpa using hlt
   rw [hd,lookT hlt,drop_cons hlt]
   simp only [cond_true,Option.bind_some,encN_shp,encN_op,encN_n]
   rw [operandsOf_ok (by omega),isLeafRight_ok (by omega) wide vars t[i]]
   simp only [R141_r,kst]
   have hn2:=need_le t[i].1
   by_cases h1:(need t[i].1).2.2 = 0
   ·simp [h1,fin1]
   ·have h1':((need t[i].1).2.2 == 0) = false:=by simpa using h1
    simp only [h1',cond_false,h1,if_false,R142_r]
    cases h2:leafOK wide vars t[i]
    ·simp [fin1]
    ·have e1:IntKind.i64.wrap ((st.length:Int) - ((need t[i].1).1:Nat)) = (st.length:Int) - ((need t[i].1).1:Nat):=i64_id (by omega) (by omega)
     rw [e1]
     simp only [Bool.not_true,cond_false,Bool.true_eq_false,if_false]
     by_cases h3:st.length < (need t[i].1).1
     ·have h3':decide ((st.length:Int) - ((need t[i].1).1:Nat) < 0) = true:=by simp;omega
      simp [h3',h3,fin1]
     ·have h3':decide ((st.length:Int) - ((need t[i].1).1:Nat) < 0) = false:=by simp;omega
      have e2:(st.length:Int) - ((need t[i].1).1:Nat) = ((st.length - (need t[i].1).1:Nat):Int):=by omega
      rw [h3',e2]
      simp only [cond_false,h3,if_false,Int.toNat_natCast]
      have h4:(decide ((0:Int)<=((st.length - (need t[i].1).1:Nat):Int)) && decide (((st.length - (need t[i].1).1:Nat):Int)<=(st.length:Int))) = true:=by (simp;try omega)
      have h5:decide ((st.length:Int)<=(st.length:Int)) = true:=by simp
      rw [h4,h5]
      simp only [Bool.and_self,cond_true,Nat.zero_add]
      have e3:((encZ st.reverse).drop (st.length - (need t[i].1).1)).take (st.length - (st.length - (need t[i].1).1)) = encZ (st.take (need t[i].1).1).reverse:=by
       rw [encZ_drop,encZ_take,List.drop_reverse]
       have:st.length - (st.length - (need t[i].1).1) = (need t[i].1).1:=by omega
       rw [this,List.take_of_length_le (by simp;omega)]
      rw [e3,contains_ok (by omega) _ (by simp;omega)]
      simp only [R62f143p_r,List.any_reverse]
      have e4:(st.take (need t[i].1).1).any (· != needI t[i].1) = (st.take (need t[i].1).1).any (· != (need t[i].1).2.1):=by
       unfold needI
       by_cases h0:(need t[i].1).1 = 0
       ·simp [h0]
       ·simp [h0]
      rw [e4]
      cases h6:(st.take (need t[i].1).1).any (· != (need t[i].1).2.1)
      ·simp only [cond_false,Bool.false_eq_true,if_false]
       rw [lim_ok (by omega) (by omega)]
       simp only [cond_true]
       have e5:(encZ st.reverse).take (st.length - (need t[i].1).1) ++ [PV.int .i64 (need t[i].1).2.2] = encZ ((need t[i].1).2.2 :: st.drop (need t[i].1).1).reverse:=by
        rw [encZ_take,encZ_snoc,List.take_reverse]
        have:st.length - (st.length - (need t[i].1).1) = (need t[i].1).1:=by omega
        rw [this]
        simp
       have e6:st.length - (need t[i].1).1 + 1 = ((need t[i].1).2.2 :: st.drop (need t[i].1).1).length:=by simp
       rw [e5,e6,i64_id (by omega) (by omega)]
       exact good_loop hk wide vars t ht n (i + 1) _ (by omega) (by omega) (by simp;omega)
      ·simp [fin1]
  ·have hd:decide ((i:Int) < (t.length:Int)) = false:=by simpa using hlt
   rw [hd,List.drop_eq_nil_of_le (by omega)]
   simp only [cond_false,kst]
   congr 1
   rcases st with _ | ⟨a,_ | ⟨b,st⟩⟩ <;> simp [fin1]
   omega
theorem goodTerm_ok {k:Nat} (hk:1000100<=k) (wide vars:Int) (t:List Nd) (ht:t.length<=100000):c77 k wide vars (encT t) = r77 (goodT wide vars t):=by
 obtain ⟨k,rfl⟩:∃ j,k = j + 1:=⟨k - 1,by omega⟩
 rw [n77,isWide_ok (by omega),isVars_ok (by omega)]
 simp only [R139_r,R140_r,encT_length]
 unfold goodT sizeT
 cases h1:isW wide
 ·simp
 ·cases h2:isV vars
  ·simp
  ·by_cases h3:1<=t.length
   ·have h3':decide ((t.length:Int) < 1) = false:=by simp;omega
    by_cases h4:t.length<=48
    ·have h4':decide ((t.length:Int) > 48) = false:=by simp;omega
     simp only [Bool.not_true,cond_false,h3',h4',h3,h4,decide_true,Bool.and_self,Bool.true_and]
     have:=good_loop (k:=k) (by omega) wide vars t ht k 0 [] (by omega) (by omega) (by simp)
     simpa [encZ] using this
    ·have h4':decide ((t.length:Int) > 48) = true:=by simp;omega
     simp [h3',h4',h4]
   ·have h3':decide ((t.length:Int) < 1) = true:=by simp;omega
    simp [h3',h3]
end Go.Proofs.YthoecdnmokcfbaaGreat
/- Kinds of terms,by the reference's text;kinds of good terms. -/
set_option linter.unusedVariables false
set_option linter.unusedSimpArgs false
set_option maxRecDepth 4000
namespace Go.Proofs.YthoecdnmokcfbaaGreat
open Go.Dp
def Pile (xs:List PV) (st:List Int):Prop:=xs.take st.length = encZ st.reverse
theorem Pile.nil (xs:List PV):Pile xs []:=by simp [Pile,encZ]
theorem Pile.top {xs:List PV} {a:Int} {st:List Int} (h:Pile xs (a :: st)):xs[st.length]? = some (.int .i64 a) /\ Pile xs st:=by
 unfold Pile at h ⊢
 have e:(a :: st).length = st.length + 1:=rfl
 rw [e] at h
 constructor
 ·have h1:(xs.take (st.length + 1))[st.length]? = xs[st.length]?:=List.getElem?_take_of_lt (by omega)
  rw [<- h1,h,encZ_get]
  simp
 ·have h2:(xs.take (st.length + 1)).take st.length = xs.take st.length:=by rw [List.take_take];congr 1;omega
  rw [<- h2,h,encZ_take]
  simp
theorem Pile.push {xs:List PV} {st:List Int} (h:Pile xs st) (b:Int):Pile (xs.take st.length ++ [PV.int .i64 b]) (b :: st):=by
 unfold Pile at h ⊢
 rw [h,encZ_snoc,encZ_take]
 rw [List.take_of_length_le (by simp)]
 simp
theorem pop_loop {k:Nat} (hk:1000000<=k) (wide vars:Int) (n1:Nat) (t27:List PV) (t28:Int) (i:Nat) (hi:i<=100000) (part own:Int) (xs:List PV):∀ (m n:Nat) (st:List Int),m < n->m<=st.length->st.length<=100000->Pile xs st ->
  L137_2 k n1 n wide vars st.length (m:Int) part own t27 t28 (i:Int) xs = if (st.take m).any (· != part) then r137 0 else L137_1 k n1 wide vars (own :: st.drop m).length t27 t28 ((i + 1:Nat):Int) (xs.take (st.drop m).length ++ [PV.int .i64 own])
 | m,0,st,hm,hs,hl,hp=>by omega
 | 0,n + 1,st,hm,hs,hl,hp=>by
  rw [sL137_2]
  have hd:decide (((0:Nat):Int) > 0) = false:=rfl
  rw [hd]
  simp only [cond_false,List.take_zero,List.any_nil,Bool.false_eq_true,if_false,List.drop_zero]
  rw [lim_ok (by omega) (by omega),i64_id (by omega) (by omega)]
  simp only [cond_true]
  rfl
 | m + 1,n + 1,st,hm,hs,hl,hp=>by
  rw [sL137_2]
  have hd:decide (((m + 1:Nat):Int) > 0) = true:=by (simp;try omega)
  rw [hd]
  cases st with
  | nil=>simp at hs
  | cons a st =>
   obtain ⟨hg,hp'⟩:=hp.top
   have e1:IntKind.i64.wrap (((a :: st).length:Int) - 1) = (st.length:Int):=by
    simp only [List.length_cons] at hl ⊢
    rw [i64_id (by omega) (by omega)];omega
   have e2:IntKind.i64.wrap (((m + 1:Nat):Int) - 1) = (m:Int):=by rw [i64_id (by omega) (by simp at hs hl;omega)];omega
   have e3:(decide ((0:Int)<=(st.length:Int)) && decide ((st.length:Int) < ((a :: st).length:Int))) = true:=by simp;omega
   have e4:(decide ((0:Int)<=(st.length:Int)) && decide ((st.length:Int)<=((a :: st).length:Int))) = true:=by simp;omega
   rw [e1,e2,e3,e4]
   simp only [cond_true,Int.toNat_natCast,Nat.zero_add,hg,Option.bind_some,int_atInt,List.take_succ_cons,List.any_cons,List.drop_succ_cons]
   cases hne:(a != part)
   ·simp only [cond_false,Bool.false_or]
    exact pop_loop hk wide vars n1 t27 t28 i hi part own xs m n st (by omega) (by simpa using hs) (by simp at hl;omega) hp'
   ·simp
theorem kind_loop {k:Nat} (hk:1000020<=k) (wide vars:Int) (t:List Nd) (ht:t.length<=100000):∀ (n i:Nat) (st:List Int) (xs:List PV),t.length - i < n->i<=t.length->st.length<=i->Pile xs st ->
  L137_1 k n wide vars st.length (encT t) (t.length:Int) (i:Int) xs = r137 (kind1 (kst wide vars (t.drop i) st))
 | 0,i,st,xs,h,hi,hs,hp=>by omega
 | n + 1,i,st,xs,h,hi,hs,hp=>by
  rw [sL137_1]
  by_cases hlt:i < t.length
  ·have hd:decide ((i:Int) < (t.length:Int)) = true:=by simpa using hlt
   rw [hd,lookT hlt,drop_cons hlt]
   simp only [cond_true,Option.bind_some,encN_shp,encN_op,encN_n]
   rw [needS_ok (by omega),l2N_ok (by omega) wide vars t[i]]
   simp only [R189_r,kst]
   have hn2:=need_le t[i].1
   by_cases h1:(need t[i].1).2.2 = 0
   ·simp [h1,kind1]
   ·have h1':((need t[i].1).2.2 == 0) = false:=by simpa using h1
    simp only [h1',cond_false,h1,if_false,R190_r]
    cases h2:leafOK wide vars t[i]
    ·simp [kind1]
    ·simp only [Bool.not_true,cond_false,Bool.true_eq_false,if_false]
     by_cases h3:st.length < (need t[i].1).1
     ·have h3':decide ((st.length:Int) < ((need t[i].1).1:Nat)) = true:=by simpa using h3
      simp [h3',h3,kind1]
     ·have h3':decide ((st.length:Int) < ((need t[i].1).1:Nat)) = false:=by simp;omega
      rw [h3']
      simp only [cond_false,h3,if_false]
      rw [pop_loop (by omega) wide vars n _ _ i (by omega) _ _ xs _ k st (by omega) (by omega) (by omega) hp]
      cases h6:(st.take (need t[i].1).1).any (· != (need t[i].1).2.1)
      ·simp only [Bool.false_eq_true,if_false]
       have hpd:∀ (m:Nat) (st:List Int),Pile xs st->Pile xs (st.drop m):=by
        intro m
        induction m with
        | zero=>intro st h;simpa using h
        | succ m ih =>
         intro st h
         cases st with
         | nil=>simpa using h
         | cons a st=>simpa using ih st h.top.2
       refine kind_loop hk wide vars t ht n (i + 1) _ _ (by omega) (by omega) ?_ ((hpd _ st hp).push _)
       simp
       omega
      ·simp [kind1]
  ·have hd:decide ((i:Int) < (t.length:Int)) = false:=by simpa using hlt
   rw [hd,List.drop_eq_nil_of_le (by omega)]
   simp only [cond_false,kst]
   rcases st with _ | ⟨a,_ | ⟨b,st⟩⟩
   ·simp [kind1]
   ·have:=hp.top.1
    simp at this
    simp [kind1,this]
   ·have:(((a :: b :: st).length:Int) != 1) = true:=by simp;omega
    rw [this]
    simp [kind1]
theorem l2Kind_ok {k:Nat} (hk:1000100<=k) (wide vars:Int) (t:List Nd) (ht:t.length<=100000):c137 k wide vars (encT t) = r137 (kindT wide vars t):=by
 obtain ⟨k,rfl⟩:∃ j,k = j + 1:=⟨k - 1,by omega⟩
 rw [n137,wideS_ok (by omega),in_ok (by omega),in_ok (by omega)]
 simp only [R188_r,R52_r,encT_length]
 unfold kindT sizeT
 cases h1:isW wide
 ·simp
 ·have e:(decide (1<=vars) && decide (vars<=4)) = isV vars:=rfl
  rw [e]
  cases h2:isV vars
  ·simp
  ·have e2:(decide ((1:Int)<=(t.length:Int)) && decide ((t.length:Int)<=48)) = (decide (1<=t.length) && decide (t.length<=48)):=by
    rw [Bool.eq_iff_iff];simp;omega
   rw [e2]
   cases h3:(decide (1<=t.length) && decide (t.length<=48))
   ·rw [Bool.and_eq_false_iff] at h3
    rcases h3 with h3 | h3 <;> simp [h3]
   ·rw [Bool.and_eq_true] at h3
    simp only [Bool.not_true,cond_false,h3.1,h3.2,Bool.and_self,if_true]
    have:=kind_loop (k:=k) (by omega) wide vars t ht k 0 [] [] (by omega) (by omega) (by simp) (Pile.nil _)
    simpa using this
theorem need_own (op:Int):(need op).2.2 = 0 ∨ (need op).2.2 = 1 ∨ (need op).2.2 = 2:=by
 unfold need
 repeat' split
 all_goals simp
theorem kst_pos {wide vars:Int}:∀ {t:List Nd} {st st':List Int},kst wide vars t st = some st'->(∀ a ∈ st,a = 1 ∨ a = 2)->∀ a ∈ st',a = 1 ∨ a = 2
 | [],st,st',h,hs=>by simp [kst] at h;subst h;exact hs
 | x :: t,st,st',h,hs=>by
  simp only [kst] at h
  split at h
  ·cases h
  ·split at h
   ·cases h
   ·split at h
    ·cases h
    ·split at h
     ·cases h
     ·rename_i h1 _ _ _
      refine kst_pos h ?_
      intro a ha
      rcases List.mem_cons.1 ha with rfl | ha
      ·rcases need_own x.1 with h | h | h
       ·exact absurd h h1
       ·exact .inl h
       ·exact .inr h
      ·exact hs a (List.mem_of_mem_drop ha)
theorem kst_app {wide vars:Int}:∀ (t u:List Nd) (st:List Int),kst wide vars (t ++ u) st = (kst wide vars t st).bind (kst wide vars u)
 | [],u,st=>rfl
 | x :: t,u,st=>by
  simp only [List.cons_append,kst]
  split
  ·rfl
  ·split
   ·rfl
   ·split
    ·rfl
    ·split
     ·rfl
     ·exact kst_app t u _
theorem kst_last {wide vars:Int} {t:List Nd} {x:Nd} {st st':List Int} (h:kst wide vars (t ++ [x]) st = some st'):∃ s,st' = (need x.1).2.2 :: s:=by
 rw [kst_app] at h
 obtain ⟨s,_,h⟩:=Option.bind_eq_some_iff.1 h
 simp only [kst] at h
 split at h
 ·cases h
 ·split at h
  ·cases h
  ·split at h
   ·cases h
   ·split at h
    ·cases h
    ·exact ⟨_,(Option.some.inj h).symm⟩
theorem goodT_iff {wide vars:Int} {t:List Nd}:goodT wide vars t = true ↔ sizeT wide vars t = true /\ ∃ c,kst wide vars t [] = some [c] /\ (c = 1 ∨ c = 2):=by
 unfold goodT
 rw [Bool.and_eq_true]
 constructor
 ·rintro ⟨h1,h2⟩
  refine ⟨h1,?_⟩
  cases h:kst wide vars t [] with
  | none=>rw [h] at h2;cases h2
  | some st =>
   rw [h] at h2
   rcases st with _ | ⟨a,_ | ⟨b,st⟩⟩
   ·cases h2
   ·exact ⟨a,rfl,kst_pos h (by simp) a (by simp)⟩
   ·cases h2
 ·rintro ⟨h1,c,h2,_⟩
  exact ⟨h1,by rw [h2];rfl⟩
theorem kindT_pos {wide vars:Int} {t:List Nd}:decide (kindT wide vars t > 0) = goodT wide vars t:=by
 rw [Bool.eq_iff_iff,goodT_iff]
 unfold kindT
 constructor
 ·intro h
  simp only [decide_eq_true_eq] at h
  split at h
  ·rename_i hs
   refine ⟨hs,?_⟩
   cases hk:kst wide vars t [] with
   | none=>rw [hk] at h;simp [kind1] at h
   | some st =>
    rw [hk] at h
    rcases st with _ | ⟨a,_ | ⟨b,st⟩⟩
    ·simp [kind1] at h
    ·exact ⟨a,rfl,kst_pos hk (by simp) a (by simp)⟩
    ·simp [kind1] at h
  ·simp at h
 ·rintro ⟨hs,c,hk,hc⟩
  simp [hs,hk,kind1]
  omega
theorem kindOf_ok {k:Nat} (hk:2<=k) (wide vars:Int) (t:List Nd) (ht:t.length<=100000) (h:goodT wide vars t = true):c187 k (encT t) = r187 (kindT wide vars t):=by
 obtain ⟨k,rfl⟩:∃ j,k = j + 1:=⟨k - 1,by omega⟩
 obtain ⟨hs,c,hk',hc⟩:=goodT_iff.1 h
 have hl:1<=t.length:=by simp [sizeT] at hs;omega
 have hlt:t.length - 1 < t.length:=by omega
 rw [n187,encT_length,i64_id (by omega) (by omega)]
 have e:(t.length:Int) - 1 = ((t.length - 1:Nat):Int):=by omega
 rw [e,lookT hlt]
 simp only [Option.bind_some,encN_op]
 rw [operandsOf_ok (by omega)]
 simp only [R141_r]
 congr 1
 have e2:t = t.take (t.length - 1) ++ [t[t.length - 1]]:=by
  conv=>lhs;rw [<- List.take_append_drop (t.length - 1) t]
  rw [drop_cons hlt,List.drop_eq_nil_of_le (by omega)]
 rw [e2] at hk'
 obtain ⟨s,h3⟩:=kst_last hk'
 rw [<- e2] at hk'
 injection h3 with h3 _
 simp [kindT,hs,hk',kind1,h3]
theorem isTermOf_ok {k:Nat} (hk:1000102<=k) (wide vars:Int) (t:List Nd) (ht:t.length<=100000) (c:Int) (hc:c ≠ 0):c136 k wide vars (encT t) c = r136 (kindT wide vars t == c):=by
 obtain ⟨k,rfl⟩:∃ j,k = j + 1:=⟨k - 1,by omega⟩
 rw [n136,goodTerm_ok (by omega) _ _ _ ht]
 simp only [R77_r]
 cases h:goodT wide vars t
 ·simp only [cond_false]
  congr 1
  have h2:=kindT_pos (wide:=wide) (vars:=vars) (t:=t)
  rw [h] at h2
  symm
  rw [beq_eq_false_iff_ne]
  intro h3
  have hz:kindT wide vars t = 0:=by
   unfold kindT at h2 ⊢
   split
   ·rename_i hs
    rw [if_pos hs] at h2
    cases hk:kst wide vars t [] with
    | none=>simp [kind1]
    | some st =>
     rw [hk] at h2
     rcases st with _ | ⟨a,_ | ⟨b,st⟩⟩
     ·simp [kind1]
     ·have:=kst_pos hk (by simp) a (by simp)
      simp [kind1] at h2
      omega
     ·simp [kind1]
   ·rfl
  omega
 ·simp only [cond_true]
  rw [kindOf_ok (by omega) _ _ _ ht h]
  simp only [R187_r]
end Go.Proofs.YthoecdnmokcfbaaGreat
/- Values of terms. -/
set_option linter.unusedVariables false
set_option linter.unusedSimpArgs false
set_option maxRecDepth 4000
namespace Go.Proofs.YthoecdnmokcfbaaGreat
open Go.Dp
def mk (wide:Int):W:=maskB wide.toNat
def tr (b:Bool):W:=if b then 1#64 else 0#64
def shW (wide:Int) (a b:W) (left:Bool):W:=if wide<=wi b then 0#64 else if left then (a <<< b.toNat) &&& mk wide else a >>> b.toNat
def sgn (wide:Int) (a:W):Int:=shrI .i64 (IntKind.i64.wrap (wi (a <<< (64 - wide).toNat))) (64 - wide)
def divW (wide:Int) (a b:W):W × W:=if goodW wide a && goodW wide b then (if b = 0#64 then (mk wide,a) else (a / b,a % b)) else (0#64,0#64)
def apRaw (wide op:Int) (a b:W):W :=
 if op = 3 then a + b else if op = 4 then a - b else if op = 5 then a * b else if op = 6 then (divW wide a b).1 else if op = 7 then (divW wide a b).2
 else if op = 8 then a &&& b else if op = 17 then a &&& b else if op = 9 then a ||| b else if op = 18 then a ||| b else if op = 10 then a ^^^ b
 else if op = 11 then shW wide a b true else if op = 12 then shW wide a b false else if op = 14 then tr (a == b) else if op = 15 then tr (decide (a < b))
 else if op = 16 then tr (decide (sgn wide a < sgn wide b)) else 0#64
def apW (wide op:Int) (a b:W):W:=apRaw wide op a b &&& mk wide
theorem truth_ok {k:Nat} (hk:1<=k) (b:Bool):c215 k b = r215 (wi (tr b)):=by
 obtain ⟨k,rfl⟩:∃ j,k = j + 1:=⟨k - 1,by omega⟩
 rw [n215]
 cases b <;> rfl
theorem mk_ok {k:Nat} (hk:1<=k) {wide:Int} (h:isW wide = true):c131 k wide = r131 (wi (mk wide)):=by
 have:=isW_iff.1 h
 exact mask_ok hk (by omega) (by omega)
theorem shift_ok {k:Nat} (hk:2<=k) {wide:Int} (h:isW wide = true) (a b:W) (left:Bool):c214 k wide (wi a) (wi b) left = r214 (wi (shW wide a b left)):=by
 obtain ⟨k,rfl⟩:∃ j,k = j + 1:=⟨k - 1,by omega⟩
 have h':=isW_iff.1 h
 rw [n214,u64_id (by omega) (by omega)]
 unfold shW
 by_cases h1:wide<=wi b
 ·have:decide (wi b>=wide) = true:=by simpa using h1
  simp only [this,cond_true,h1,if_true]
  rfl
 ·have h2:decide (wi b>=wide) = false:=by simpa using h1
  have h3:decide (wi b < 0) = false:=by have:=wi_nonneg b;simp;omega
  simp only [h2,h3,cond_false,h1,if_false,Bool.not_false,cond_true]
  cases left
  ·simp only [cond_false,Bool.false_eq_true,if_false]
   rw [shr_wi _ (wi_nonneg b)]
   simp [wi]
  ·simp only [cond_true,if_true]
   rw [mk_ok (by omega) h]
   simp only [R131_r]
   rw [shl_wi _ (wi_nonneg b),and_wi]
   simp [wi]
theorem signed_ok {k:Nat} (hk:1<=k) {wide:Int} (h:isW wide = true) (a:W):c216 k wide (wi a) = r216 (sgn wide a):=by
 obtain ⟨k,rfl⟩:∃ j,k = j + 1:=⟨k - 1,by omega⟩
 have h':=isW_iff.1 h
 rw [n216,i64_id (n:=64 - wide) (by omega) (by omega)]
 have h3:decide (64 - wide < 0) = false:=by simp;omega
 simp only [h3,Bool.not_false,cond_true]
 rw [shl_wi _ (by omega)]
 rfl
theorem div64_ok {k:Nat} (hk:1<=k) (a b:W) (hb:b ≠ 0#64):c232 k 0 (wi a) (wi b) = r232 (wi (a / b)) (wi (a % b)):=by
 obtain ⟨k,rfl⟩:∃ j,k = j + 1:=⟨k - 1,by omega⟩
 rw [n232]
 have hb0:b.toNat ≠ 0:=fun h=>hb (BitVec.eq_of_toNat_eq (by simpa using h))
 have h1:(wi b == 0) = false:=by unfold wi;simp;omega
 have h2:decide (wi b<=0) = false:=by unfold wi;simp;omega
 have h3:((0:Int) == 0) = true:=rfl
 simp only [h1,h2,h3,cond_false,cond_true,Bool.not_false]
 have e1:(wi a).tdiv (wi b) = wi (a / b):=by
  unfold wi
  rw [Int.tdiv_eq_ediv_of_nonneg (by omega),BitVec.toNat_udiv,Int.natCast_ediv]
 have e2:(wi a).tmod (wi b) = wi (a % b):=by
  unfold wi
  rw [Int.tmod_eq_emod_of_nonneg (by omega),BitVec.toNat_umod,Int.natCast_emod]
 rw [e1,e2,wrap_wi]
theorem areWords_ok {k:Nat} (hk:3<=k) (wide:Int) (a b:W):c231 k wide (wi a) (wi b) = r231 (goodW wide a && goodW wide b):=by
 obtain ⟨k,rfl⟩:∃ j,k = j + 1:=⟨k - 1,by omega⟩
 rw [n231,goodWord_ok (by omega),goodWord_ok (by omega)]
 simp only [R191_r]
 cases goodW wide a <;> rfl
theorem divWord_ok {k:Nat} (hk:4<=k) {wide:Int} (h:isW wide = true) (a b:W):c213 k wide (wi a) (wi b) = r213 (wi (divW wide a b).1) (wi (divW wide a b).2) (goodW wide a && goodW wide b):=by
 obtain ⟨k,rfl⟩:∃ j,k = j + 1:=⟨k - 1,by omega⟩
 rw [n213,areWords_ok (by omega)]
 simp only [R231_r]
 unfold divW
 cases h1:(goodW wide a && goodW wide b)
 ·rfl
 ·simp only [Bool.not_true,cond_false,if_true]
  by_cases hb:b = 0#64
  ·subst hb
   have e:(wi 0#64 == 0) = true:=rfl
   simp only [e,cond_true,if_true]
   rw [mk_ok (by omega) h]
   simp only [R131_r]
  ·have h2:(wi b == 0) = false:=by
    have e:(0:Int) = wi 0#64:=rfl
    rw [e,wi_beq];simpa using hb
   simp only [h2,cond_false,hb,if_false]
   rw [div64_ok (by omega) a b hb]
   simp only [R232_r]
theorem apply_ok {k:Nat} (hk:5<=k) {wide:Int} (h:isW wide = true) (op:Int) (a b:W):c182 k wide op (wi a) (wi b) = r182 (wi (apW wide op a b)):=by
 obtain ⟨k,rfl⟩:∃ j,k = j + 1:=⟨k - 1,by omega⟩
 rw [n182]
 have hm:=mk_ok (k:=k) (by omega) h
 have hd:=divWord_ok (k:=k) (by omega) h a b
 have hs:=fun l=>shift_ok (k:=k) (by omega) h a b l
 have ht:=fun x=>truth_ok (k:=k) (by omega) x
 have hg:=fun x=>signed_ok (k:=k) (by omega) h x
 simp only [hm,hd,hs,ht,hg,R131_r,R213_r,R214_r,R215_r,R216_r,add_wi,sub_wi,mul_wi,and_wi,or_wi,xor_wi,wi_beq,wi_lt_iff]
 unfold apW apRaw
 by_cases h1:op = 3
 · subst h1;rfl
 by_cases h2:op = 4
 · subst h2;rfl
 by_cases h3:op = 5
 · subst h3;rfl
 by_cases h4:op = 6
 · subst h4;rfl
 by_cases h5:op = 7
 · subst h5;rfl
 by_cases h6:op = 8
 · subst h6;rfl
 by_cases h7:op = 17
 · subst h7;rfl
 by_cases h8:op = 9
 · subst h8;rfl
 by_cases h9:op = 18
 · subst h9;rfl
 by_cases h10:op = 10
 · subst h10;rfl
 by_cases h11:op = 11
 · subst h11;rfl
 by_cases h12:op = 12
 · subst h12;rfl
 by_cases h13:op = 14
 · subst h13;rfl
 by_cases h14:op = 15
 · subst h14;rfl
 by_cases h15:op = 16
 · subst h15;rfl
 have q:∀ c:Int,op ≠ c->(op == c) = false:=fun c hc=>by simpa using hc
 simp only [q _ h1,q _ h2,q _ h3,q _ h4,q _ h5,q _ h6,q _ h7,q _ h8,q _ h9,q _ h10,q _ h11,q _ h12,q _ h13,q _ h14,q _ h15,cond_false,h1,h2,h3,h4,h5,h6,h7,h8,h9,h10,h11,h12,h13,h14,h15,if_false]
 have e:(0:Int) = wi 0#64:=rfl
 rw [e,and_wi]
def vrun (wide:Int) (state:List W):List Nd->List W->Option (List W)
 | [],vs=>some vs
 | x :: t,vs =>
  if x.1 = 1 ∨ x.1 = 20 then vrun wide state t (x.2 :: vs)
  else if x.1 = 2 then (state[x.2.toNat]?).bind fun s=>vrun wide state t (s :: vs)
  else if x.1 = 13 then match vs with
   | a :: r=>vrun wide state t ((~~~a &&& mk wide) :: r)
   | []=>none
  else if x.1 = 19 then match vs with
   | a :: r=>vrun wide state t ((1#64 - a) :: r)
   | []=>none
  else match vs with
   | b :: a :: r=>vrun wide state t (apW wide x.1 a b :: r)
   | _=>none
theorem encW_top {a:W} {r:List W}:(encW (a :: r).reverse)[r.length]? = some (.int .u64 (wi a)):=by rw [encW_get];simp
theorem encW_top2 {a b:W} {r:List W}:(encW (b :: a :: r).reverse)[r.length]? = some (.int .u64 (wi a)):=by rw [encW_get];simp
theorem encW_set {a b:W} {r:List W}:(encW (a :: r).reverse).set r.length (.int .u64 (wi b)) = encW (b :: r).reverse:=by
 simp [encW]
theorem val_loop {k:Nat} (hk:100<=k) {wide:Int} (hw:isW wide = true) (state:List W) (t:List Nd) (ht:t.length<=100000) (v:W):∀ (n i:Nat) (vs:List W),t.length - i < n->i<=t.length->vs.length<=i->vrun wide state (t.drop i) vs = some [v] ->
  L130_1 k n wide (encW state) vs.length (encT t) (t.length:Int) (i:Int) (encW vs.reverse) = r130 (wi v)
 | 0,i,vs,h,hi,hs,hv=>by omega
 | n + 1,i,vs,h,hi,hs,hv=>by
  rw [sL130_1]
  by_cases hlt:i < t.length
  ·have hd:decide ((i:Int) < (t.length:Int)) = true:=by simpa using hlt
   rw [hd,lookT hlt]
   rw [drop_cons hlt] at hv
   generalize t[i] = x at hv
   simp only [cond_true,Option.bind_some,encN_shp,encN_op,encN_n]
   have hnext:IntKind.i64.wrap ((i:Int) + 1) = ((i + 1:Nat):Int):=by rw [i64_id (by omega) (by omega)];omega
   rw [hnext]
   have push:∀ a:W,(encW vs.reverse).take vs.length ++ [PV.int .u64 (wi a)] = encW (a :: vs).reverse:=by
    intro a
    rw [List.take_of_length_le (by simp),encW_snoc]
    simp
   have ih:=fun (vs:List W) (h1:vs.length<=i + 1) (h2:vrun wide state (t.drop (i + 1)) vs = some [v])=>val_loop hk hw state t ht v n (i + 1) vs (by omega) (by omega) h1 h2
   simp only [vrun] at hv
   have hlim:(decide ((vs.length + 1) * 8<=LIM) && decide (vs.length + 1<=LIM)) = true:=lim_ok (by omega) (by omega)
   by_cases h1:x.1 = 1
   ·have e1:(x.1 == 1) = true:=by simpa using h1
    simp only [e1,cond_true,hlim,push]
    rw [if_pos (.inl h1)] at hv
    exact ih (x.2 :: vs) (by simp;omega) hv
   have e1:(x.1 == 1) = false:=by simpa using h1
   by_cases h2:x.1 = 20
   ·have e2:(x.1 == 20) = true:=by simpa using h2
    simp only [e1,e2,cond_true,cond_false,hlim,push]
    rw [if_pos (.inr h2)] at hv
    exact ih (x.2 :: vs) (by simp;omega) hv
   have e2:(x.1 == 20) = false:=by simpa using h2
   rw [if_neg (by simp [h1,h2])] at hv
   by_cases h3:x.1 = 2
   ·have e3:(x.1 == 2) = true:=by simpa using h3
    rw [if_pos h3] at hv
    obtain ⟨s,hst,hv⟩:=Option.bind_eq_some_iff.1 hv
    simp only [e1,e2,e3,cond_true,cond_false,hlim]
    rw [lookP_int (wi_nonneg _),encW_get]
    have e4:(wi x.2).toNat = x.2.toNat:=by simp [wi]
    rw [e4,hst]
    simp only [Option.map_some,Option.bind_some,int_atInt,push]
    exact ih (s :: vs) (by simp;omega) hv
   have e3:(x.1 == 2) = false:=by simpa using h3
   rw [if_neg h3] at hv
   by_cases h4:x.1 = 13
   ·have e4:(x.1 == 13) = true:=by simpa using h4
    rw [if_pos h4] at hv
    cases vs with
    | nil=>cases hv
    | cons a r =>
     simp only at hv
     have hlen:IntKind.i64.wrap (((a :: r).length:Int) - 1) = (r.length:Int):=by simp only [List.length_cons] at hs ⊢;rw [i64_id (by omega) (by omega)];omega
     have hb:(decide ((0:Int)<=(r.length:Int)) && decide ((r.length:Int) < ((a :: r).length:Int))) = true:=by simp;omega
     simp only [e1,e2,e3,e4,cond_true,cond_false,hlen,hb,Int.toNat_natCast,Nat.zero_add,encW_top,Option.bind_some,int_atInt]
     rw [mk_ok (by omega) hw]
     simp only [R131_r]
     have ex:(18446744073709551615:Int) = wi (BitVec.allOnes 64):=rfl
     rw [ex,xor_wi,and_wi,BitVec.allOnes_xor,encW_set]
     exact ih ((~~~a &&& mk wide) :: r) (by simp at hs ⊢;omega) hv
   have e4:(x.1 == 13) = false:=by simpa using h4
   rw [if_neg h4] at hv
   by_cases h5:x.1 = 19
   ·have e5:(x.1 == 19) = true:=by simpa using h5
    rw [if_pos h5] at hv
    cases vs with
    | nil=>cases hv
    | cons a r =>
     simp only at hv
     have hlen:IntKind.i64.wrap (((a :: r).length:Int) - 1) = (r.length:Int):=by simp only [List.length_cons] at hs ⊢;rw [i64_id (by omega) (by omega)];omega
     have hb:(decide ((0:Int)<=(r.length:Int)) && decide ((r.length:Int) < ((a :: r).length:Int))) = true:=by simp;omega
     simp only [e1,e2,e3,e4,e5,cond_true,cond_false,hlen,hb,Int.toNat_natCast,Nat.zero_add,encW_top,Option.bind_some,int_atInt]
     have ex:(1:Int) = wi 1#64:=rfl
     rw [ex,sub_wi,encW_set]
     exact ih ((1#64 - a) :: r) (by simp at hs ⊢;omega) hv
   have e5:(x.1 == 19) = false:=by simpa using h5
   rw [if_neg h5] at hv
   rcases vs with _ | ⟨b,_ | ⟨a,r⟩⟩
   ·cases hv
   ·cases hv
   ·simp only at hv
    have hlen:IntKind.i64.wrap (((b :: a :: r).length:Int) - 1) = ((r.length + 1:Nat):Int):=by simp only [List.length_cons] at hs ⊢;rw [i64_id (by omega) (by omega)];omega
    have hlen2:IntKind.i64.wrap (((r.length + 1:Nat):Int) - 1) = (r.length:Int):=by simp only [List.length_cons] at hs;rw [i64_id (by omega) (by omega)];omega
    have hb:(decide ((0:Int)<=(r.length:Int)) && decide ((r.length:Int) < ((b :: a :: r).length:Int))) = true:=by simp;omega
    have hb2:(decide ((0:Int)<=(r.length:Int)) && decide ((r.length:Int)<=((b :: a :: r).length:Int))) = true:=by simp;omega
    have hb3:(decide ((0:Int)<=((r.length + 1:Nat):Int)) && decide (((r.length + 1:Nat):Int) < ((b :: a :: r).length:Int))) = true:=by simp;omega
    have ht1:(encW (b :: a :: r).reverse)[r.length + 1]? = some (.int .u64 (wi b)):=encW_top (a:=b) (r:=a :: r)
    simp only [e1,e2,e3,e4,e5,cond_true,cond_false,hlen,hlen2,hb,hb2,hb3,Int.toNat_natCast,Nat.zero_add,encW_top2,ht1,Option.bind_some,int_atInt]
    rw [apply_ok (by omega) hw]
    simp only [R182_r]
    have hlim2:(decide ((r.length + 1) * 8<=LIM) && decide (r.length + 1<=LIM)) = true:=lim_ok (by simp at hs;omega) (by omega)
    have hp:(encW (b :: a :: r).reverse).take r.length ++ [PV.int .u64 (wi (apW wide x.1 a b))] = encW (apW wide x.1 a b :: r).reverse:=by
     rw [encW_take,encW_snoc]
     simp
    rw [hlim2,hp]
    exact ih (apW wide x.1 a b :: r) (by simp at hs ⊢;omega) hv
  ·have hd:decide ((i:Int) < (t.length:Int)) = false:=by simpa using hlt
   rw [hd]
   rw [List.drop_eq_nil_of_le (by omega)] at hv
   simp only [vrun] at hv
   injection hv with hv
   subst hv
   rfl
theorem valueOf_ok {k:Nat} (hk:200000<=k) {wide:Int} (hw:isW wide = true) (state:List W) (t:List Nd) (ht:t.length<=100000) {v:W} (hv:vrun wide state t [] = some [v]):c130 k wide (encT t) (encW state) = r130 (wi v):=by
 obtain ⟨k,rfl⟩:∃ j,k = j + 1:=⟨k - 1,by omega⟩
 rw [n130,encT_length]
 exact val_loop (by omega) hw state t ht v k 0 [] (by omega) (by omega) (by simp) hv
end Go.Proofs.YthoecdnmokcfbaaGreat
/- States,values,what is put for variables: the functions. -/
set_option linter.unusedVariables false
set_option linter.unusedSimpArgs false
set_option maxRecDepth 4000
namespace Go.Proofs.YthoecdnmokcfbaaGreat
open Go.Dp
theorem kst_leaf {wide vars:Int}:∀ {t:List Nd} {st st':List Int},kst wide vars t st = some st'->∀ x ∈ t,leafOK wide vars x = true
 | [],st,st',h=>by simp
 | x :: t,st,st',h=>by
  simp only [kst] at h
  split at h
  ·cases h
  ·split at h
   ·cases h
   ·rename_i h2
    split at h
    ·cases h
    ·split at h
     ·cases h
     ·intro y hy
      rcases List.mem_cons.1 hy with rfl | hy
      ·simpa using h2
      ·exact kst_leaf h y hy
theorem goodT_vars {wide vars:Int} {t:List Nd} (h:goodT wide vars t = true):∀ x ∈ t,x.1 = 2->(x.2.toNat:Int) < vars:=by
 obtain ⟨hs,c,hk,_⟩:=goodT_iff.1 h
 have hv:isV vars = true:=by simp only [sizeT,Bool.and_eq_true] at hs;exact hs.1.1.2
 have hv':=isV_iff.1 hv
 intro x hx h2
 have:=kst_leaf hk x hx
 simp [leafOK,h2] at this
 rw [u64_id (by omega) (by omega)] at this
 exact this
end Go.Proofs.YthoecdnmokcfbaaGreat
/- Good programs. -/
set_option linter.unusedVariables false
set_option linter.unusedSimpArgs false
set_option maxRecDepth 4000
namespace Go.Proofs.YthoecdnmokcfbaaGreat
open Go.Dp
theorem kindT_size {wide vars:Int} {t:List Nd} (h:kindT wide vars t ≠ 0):isW wide = true /\ isV vars = true:=by
 unfold kindT at h
 split at h
 ·rename_i hs
  simp only [sizeT,Bool.and_eq_true] at hs
  exact hs.1.1
 ·exact absurd rfl h
def goodChs (wide vars:Int):Int->List Chg->Bool
 | _,[]=>true
 | pv,x :: l=>decide (0<=x.v) && decide (x.v < vars) && decide (pv < x.v) && (kindT wide vars x.by1 == 1) && goodChs wide vars x.v l
def goodCmd (wide vars:Int) (c:Cmd):Bool:=(kindT wide vars c.wh == 2) && goodChs wide vars (-1) c.ch
def goodP (p:Prg):Bool:=(kindT p.wide p.vars p.start == 2) && decide (1<=p.cmds.length) && decide (p.cmds.length<=6) && p.cmds.all (goodCmd p.wide p.vars)
theorem goodChs_len {wide vars:Int}:∀ {l:List Chg} {pv:Int},-1<=pv->goodChs wide vars pv l = true->l = [] ∨ (l.length:Int)<=vars - 1 - pv
 | [],pv,hp,h=>.inl rfl
 | x :: l,pv,hp,h=>by
  simp only [goodChs,Bool.and_eq_true,decide_eq_true_eq] at h
  obtain ⟨⟨⟨⟨h1,h2⟩,h3⟩,_⟩,h5⟩:=h
  right
  rcases goodChs_len (by omega) h5 with rfl | h6
  ·simp;omega
  ·simp;omega
def prevV (l:List Chg) (i:Nat):Int:=if i = 0 then -1 else match l[i - 1]? with | some x=>x.v | none=>-1
theorem cond_ok {k:Nat} (hk:1000110<=k) (wide vars:Int) (l1 l2:List PV) (t:List Nd) (ht:t.length<=100000):c72 k wide vars l1 l2 (encT t) = r72 (kindT wide vars t == 2):=by
 obtain ⟨k,rfl⟩:∃ j,k = j + 1:=⟨k - 1,by omega⟩
 rw [n72,isTermOf_ok (by omega) _ _ _ ht _ (by decide)]
 simp only [R136_r]
theorem asks_ok {k:Nat} (hk:1000110<=k) (wide vars:Int) (l1 l2:List PV) (t:List Nd) (ht:t.length<=100000):c74 k wide vars l1 l2 (encT t) = r74 (kindT wide vars t == 2):=by
 obtain ⟨k,rfl⟩:∃ j,k = j + 1:=⟨k - 1,by omega⟩
 rw [n74,l2Kind_ok (by omega) _ _ _ ht]
 simp only [R137_r]
theorem goodChs_at {wide vars:Int} {l:List Chg} {i:Nat} (h:i < l.length):goodChs wide vars (prevV l i) (l.drop i) = (decide (0<=l[i].v) && decide (l[i].v < vars) && decide (prevV l i < l[i].v) && (kindT wide vars l[i].by1 == 1) && goodChs wide vars (prevV l (i + 1)) (l.drop (i + 1))):=by
 rw [drop_cons h]
 have e:prevV l (i + 1) = l[i].v:=by simp [prevV,h]
 rw [e]
 rfl
theorem isCommand_loop {k:Nat} (hk:1000110<=k) (wide vars:Int) (hv:vars<=100) (l1 l2:List PV) (qw:List PV) (l:List Chg) (hl:l.length<=1000) (hb:∀ x ∈ l,x.by1.length<=100000):∀ (n i:Nat),l.length - i < n->i<=l.length ->
  L185_1 k n (encChs l) (l.length:Int) (i:Int) wide vars l1 l2 qw (encChs l) = r185 (goodChs wide vars (prevV l i) (l.drop i))
 | 0,i,h,hi=>by omega
 | n + 1,i,h,hi=>by
  rw [sL185_1]
  by_cases hlt:i < l.length
  ·have hd:decide ((i:Int) < (l.length:Int)) = true:=by simpa using hlt
   rw [hd,lookP_nat,encChs_get,List.getElem?_eq_getElem hlt,goodChs_at hlt]
   simp only [cond_true,Option.map_some,Option.bind_some,encCh_shp,encCh_v,encCh_by]
   have hbi:=hb l[i] (List.getElem_mem hlt)
   by_cases h0:l[i].v < 0
   ·have e1:decide (l[i].v < 0) = true:=by simpa using h0
    have e2:decide (0<=l[i].v) = false:=by simp;omega
    simp only [e1,e2,cond_true,Bool.false_and]
   ·have e1:decide (l[i].v < 0) = false:=by simpa using h0
    have e2:decide (0<=l[i].v) = true:=by simp;omega
    simp only [e1,e2,cond_false,Bool.true_and]
    by_cases h1:l[i].v>=vars
    ·have e3:decide (l[i].v>=vars) = true:=by simpa using h1
     have e4:decide (l[i].v < vars) = false:=by simp;omega
     simp only [e3,e4,cond_true,Bool.false_and]
    ·have e3:decide (l[i].v>=vars) = false:=by simpa using h1
     have e4:decide (l[i].v < vars) = true:=by simp;omega
     simp only [e3,e4,cond_false,Bool.true_and]
     have fin:(R136 (c136 k wide vars (encT l[i].by1) 1) fun b2=>bif !b2 then r185 false else L185_1 k n (encChs l) (l.length:Int) (IntKind.i64.wrap ((i:Int) + 1)) wide vars l1 l2 qw (encChs l)) = r185 ((kindT wide vars l[i].by1 == 1) && goodChs wide vars (prevV l (i + 1)) (l.drop (i + 1))):=by
      rw [isTermOf_ok (by omega) _ _ _ hbi _ (by decide)]
      simp only [R136_r]
      cases kindT wide vars l[i].by1 == 1
      ·rfl
      ·simp only [Bool.not_true,cond_false,Bool.true_and]
       rw [i64_id (by omega) (by omega)]
       exact isCommand_loop hk wide vars hv l1 l2 qw l hl hb n (i + 1) (by omega) (by omega)
     by_cases hi0:i = 0
     ·have e5:decide ((i:Int) > 0) = false:=by simp;omega
      have e6:decide (prevV l i < l[i].v) = true:=by
       have h9:prevV l i = -1:=by simp [prevV,hi0]
       rw [h9];simp;omega
      simp only [e5,e6,cond_false,Bool.true_and]
      exact fin
     ·have e5:decide ((i:Int) > 0) = true:=by simp;omega
      have hlt1:i - 1 < l.length:=by omega
      rw [e5,i64_id (n:=(i:Int) - 1) (by omega) (by omega),show (i:Int) - 1 = ((i - 1:Nat):Int) by omega,lookP_nat,encChs_get,List.getElem?_eq_getElem hlt1]
      simp only [cond_true,Option.map_some,Option.bind_some,encCh_v]
      have e6:prevV l i = l[i - 1].v:=by simp [prevV,hi0,hlt1]
      rw [e6]
      by_cases h2:l[i - 1].v>=l[i].v
      ·have e7:decide (l[i - 1].v>=l[i].v) = true:=by simpa using h2
       have e8:decide (l[i - 1].v < l[i].v) = false:=by simp;omega
       simp only [e7,e8,cond_true,Bool.false_and]
      ·have e7:decide (l[i - 1].v>=l[i].v) = false:=by simpa using h2
       have e8:decide (l[i - 1].v < l[i].v) = true:=by simp;omega
       simp only [e7,e8,cond_false,Bool.true_and]
       exact fin
  ·have hd:decide ((i:Int) < (l.length:Int)) = false:=by simpa using hlt
   rw [hd,List.drop_eq_nil_of_le (by omega)]
   rfl
theorem isCommand_ok {k:Nat} (hk:1000120<=k) (wide vars:Int) (hv:vars<=100) (l1 l2:List PV) (c:Cmd) (hw:c.wh.length<=100000) (hl:c.ch.length<=1000) (hb:∀ x ∈ c.ch,x.by1.length<=100000) :
  c185 k wide vars l1 l2 (encT c.wh) (encChs c.ch) = r185 (goodCmd wide vars c):=by
 obtain ⟨k,rfl⟩:∃ j,k = j + 1:=⟨k - 1,by omega⟩
 rw [n185,cond_ok (by omega) _ _ _ _ _ hw,encChs_length]
 simp only [R72_r]
 unfold goodCmd
 cases kindT wide vars c.wh == 2
 ·rfl
 ·simp only [Bool.not_true,cond_false,Bool.true_and]
  exact isCommand_loop (by omega) wide vars hv l1 l2 (encT c.wh) c.ch hl hb k 0 (by omega) (by omega)
theorem l7Command_loop {k:Nat} (hk:1000110<=k) (wide vars:Int) (hv:0<=vars /\ vars<=100) (l1 l2:List PV) (qw:List PV) (l:List Chg) (hl:l.length<=1000) (hb:∀ x ∈ l,x.by1.length<=100000):∀ (n i:Nat),l.length - i < n->i<=l.length ->
  L197_1 k n (encChs l) (l.length:Int) (i:Int) wide vars l1 l2 qw (encChs l) = r197 (goodChs wide vars (prevV l i) (l.drop i))
 | 0,i,h,hi=>by omega
 | n + 1,i,h,hi=>by
  rw [sL197_1]
  by_cases hlt:i < l.length
  ·have hd:decide ((i:Int) < (l.length:Int)) = true:=by simpa using hlt
   rw [hd,lookP_nat,encChs_get,List.getElem?_eq_getElem hlt,goodChs_at hlt]
   simp only [cond_true,Option.map_some,Option.bind_some,encCh_shp,encCh_v,encCh_by]
   have hbi:=hb l[i] (List.getElem_mem hlt)
   rw [in_ok (by omega),i64_id (n:=vars - 1) (by omega) (by omega)]
   simp only [R52_r]
   have ein:(decide (0<=l[i].v) && decide (l[i].v<=vars - 1)) = (decide (0<=l[i].v) && decide (l[i].v < vars)):=by
    congr 1
    rw [decide_eq_decide]
    omega
   rw [ein]
   cases hin:(decide (0<=l[i].v) && decide (l[i].v < vars))
   ·simp only [Bool.not_false,cond_true,Bool.false_and]
   ·simp only [Bool.not_true,cond_false,Bool.true_and]
    have fin:(R137 (c137 k wide vars (encT l[i].by1)) fun v2=>bif (v2 != 1) then r197 false else L197_1 k n (encChs l) (l.length:Int) (IntKind.i64.wrap ((i:Int) + 1)) wide vars l1 l2 qw (encChs l)) = r197 ((kindT wide vars l[i].by1 == 1) && goodChs wide vars (prevV l (i + 1)) (l.drop (i + 1))):=by
     rw [l2Kind_ok (by omega) _ _ _ hbi]
     simp only [R137_r,bne]
     cases kindT wide vars l[i].by1 == 1
     ·rfl
     ·simp only [Bool.not_true,cond_false,Bool.true_and]
      rw [i64_id (by omega) (by omega)]
      exact l7Command_loop hk wide vars hv l1 l2 qw l hl hb n (i + 1) (by omega) (by omega)
    by_cases hi0:i = 0
    ·have e5:decide ((i:Int) > 0) = false:=by simp;omega
     have e6:decide (prevV l i < l[i].v) = true:=by
      have h9:prevV l i = -1:=by simp [prevV,hi0]
      simp at hin
      rw [h9];simp;omega
     simp only [e5,e6,cond_false,Bool.true_and]
     exact fin
    ·have e5:decide ((i:Int) > 0) = true:=by simp;omega
     have hlt1:i - 1 < l.length:=by omega
     rw [e5,i64_id (n:=(i:Int) - 1) (by omega) (by omega),show (i:Int) - 1 = ((i - 1:Nat):Int) by omega,lookP_nat,encChs_get,List.getElem?_eq_getElem hlt1]
     simp only [cond_true,Option.map_some,Option.bind_some,encCh_v]
     have e6:prevV l i = l[i - 1].v:=by simp [prevV,hi0,hlt1]
     rw [e6]
     by_cases h2:l[i - 1].v>=l[i].v
     ·have e7:decide (l[i - 1].v>=l[i].v) = true:=by simpa using h2
      have e8:decide (l[i - 1].v < l[i].v) = false:=by simp;omega
      simp only [e7,e8,cond_true,Bool.false_and]
     ·have e7:decide (l[i - 1].v>=l[i].v) = false:=by simpa using h2
      have e8:decide (l[i - 1].v < l[i].v) = true:=by simp;omega
      simp only [e7,e8,cond_false,Bool.true_and]
      exact fin
  ·have hd:decide ((i:Int) < (l.length:Int)) = false:=by simpa using hlt
   rw [hd,List.drop_eq_nil_of_le (by omega)]
   rfl
theorem l7Command_ok {k:Nat} (hk:1000120<=k) (wide vars:Int) (hv:vars<=100) (l1 l2:List PV) (c:Cmd) (hw:c.wh.length<=100000) (hl:c.ch.length<=1000) (hb:∀ x ∈ c.ch,x.by1.length<=100000) :
  c197 k wide vars l1 l2 (encT c.wh) (encChs c.ch) = r197 (goodCmd wide vars c):=by
 obtain ⟨k,rfl⟩:∃ j,k = j + 1:=⟨k - 1,by omega⟩
 rw [n197,asks_ok (by omega) _ _ _ _ _ hw,encChs_length]
 simp only [R74_r]
 unfold goodCmd
 cases hkd:kindT wide vars c.wh == 2
 ·rfl
 ·simp only [Bool.not_true,cond_false,Bool.true_and]
  have hvv:=isV_iff.1 (kindT_size (wide:=wide) (vars:=vars) (t:=c.wh) (by rw [beq_iff_eq] at hkd;rw [hkd];decide)).2
  by_cases hln:(c.ch.length:Int) > vars
  ·have e1:decide ((c.ch.length:Int) > vars) = true:=by simpa using hln
   rw [e1]
   simp only [cond_true]
   congr 1
   cases hg:goodChs wide vars (-1) c.ch
   ·rfl
   ·rcases goodChs_len (by omega) hg with h | h
    ·rw [h] at hln;simp at hln;omega
    ·omega
  ·have e1:decide ((c.ch.length:Int) > vars) = false:=by simpa using hln
   rw [e1]
   simp only [cond_false]
   exact l7Command_loop (by omega) wide vars (by omega) l1 l2 (encT c.wh) c.ch hl hb k 0 (by omega) (by omega)
theorem cmds_loop {k:Nat} (hk:1000130<=k) (wide vars:Int) (hv:vars<=100) (l1 l2:List PV) (l:List Cmd) (hl:l.length<=1000) (hf:∀ c ∈ l,FitC 6 c):∀ (n i:Nat),l.length - i < n->i<=l.length ->
  ∃ v,L217f184_1 k n (encCms l) (l.length:Int) (i:Int) wide vars l1 l2 = r217f184 wide vars l1 l2 v /\ decide (v>=0) = (l.drop i).any (fun c=>!goodCmd wide vars c)
 | 0,i,h,hi=>by omega
 | n + 1,i,h,hi=>by
  rw [sL217f184_1]
  by_cases hlt:i < l.length
  ·have hd:decide ((i:Int) < (l.length:Int)) = true:=by simpa using hlt
   obtain ⟨k,rfl⟩:∃ j,k = j + 1:=⟨k - 1,by omega⟩
   have hfi:=hf l[i] (List.getElem_mem hlt)
   rw [hd,lookP_nat,encCms_get,List.getElem?_eq_getElem hlt]
   simp only [cond_true,Option.map_some,Option.bind_some,encCm_shp,encCm_wh,encCm_ch]
   rw [n184,isCommand_ok (by omega) wide vars hv l1 l2 l[i] (by have:=hfi.wh;omega) (by have:=hfi.ch;omega) (fun x hx=>by have:=hfi.by1 x hx;omega)]
   simp only [R185_r,R184_r]
   rw [drop_cons hlt,List.any_cons]
   cases hne:goodCmd wide vars l[i]
   ·simp only [Bool.not_false,cond_true,Bool.true_or]
    exact ⟨_,rfl,by simp⟩
   ·simp only [Bool.not_true,cond_false,Bool.false_or]
    rw [i64_id (by omega) (by omega)]
    exact cmds_loop (k:=k + 1) (by omega) wide vars hv l1 l2 l hl hf n (i + 1) (by omega) (by omega)
  ·have hd:decide ((i:Int) < (l.length:Int)) = false:=by simpa using hlt
   rw [hd,List.drop_eq_nil_of_le (by omega)]
   exact ⟨_,rfl,by simp⟩
theorem goodProgram_ok {k:Nat} (hk:1000200<=k) (p:Prg) (hp:FitP p):c132 k p.wide p.vars (encT p.start) (encCms p.cmds) = r132 (goodP p):=by
 obtain ⟨k,rfl⟩:∃ j,k = j + 3:=⟨k - 3,by omega⟩
 have hst:=hp.st
 have hcm:=hp.cm
 rw [n132,isWide_ok (by omega),isVars_ok (by omega),cond_ok (by omega) _ _ _ _ _ (by omega)]
 simp only [R139_r,R140_r,R72_r,encCms_length]
 unfold goodP
 cases hkd:kindT p.wide p.vars p.start == 2
 ·simp only [Bool.not_false,cond_true,Bool.false_and]
  cases isW p.wide <;> cases isV p.vars <;> rfl
 ·obtain ⟨hw,hv⟩:=kindT_size (wide:=p.wide) (vars:=p.vars) (t:=p.start) (by rw [beq_iff_eq] at hkd;rw [hkd];decide)
  rw [hw,hv]
  simp only [Bool.not_true,cond_false,Bool.true_and]
  by_cases h1:(p.cmds.length:Int) < 1
  ·have e1:decide ((p.cmds.length:Int) < 1) = true:=by simpa using h1
   have e2:decide (1<=p.cmds.length) = false:=by rw [decide_eq_false_iff_not];omega
   simp only [e1,e2,cond_true,Bool.false_and]
  ·have e1:decide ((p.cmds.length:Int) < 1) = false:=by simpa using h1
   have e2:decide (1<=p.cmds.length) = true:=by rw [decide_eq_true_eq];omega
   have e3:decide ((p.cmds.length:Int) > 6) = false:=by simp;omega
   have e4:decide (p.cmds.length<=6) = true:=by simp;omega
   simp only [e1,e2,e3,e4,cond_false,Bool.true_and]
   obtain ⟨v,h,hv2⟩:=cmds_loop (k:=k) (by omega) p.wide p.vars (by have:=hp.v;omega) (encT p.start) (encCms p.cmds) p.cmds (by omega) hp.c k 0 (by omega) (by omega)
   have h':L217f184_1 k k (encCms p.cmds) (p.cmds.length:Int) 0 p.wide p.vars (encT p.start) (encCms p.cmds) = _:=h
   rw [n183f184,n217f184,encCms_length,h']
   simp only [R217f184_r,R183f184_r,hv2,List.drop_zero]
   congr 1
   rw [List.all_eq_not_any_not]
theorem goodS_loop {k:Nat} (hk:1000130<=k) (wide vars:Int) (hv:vars<=100) (l1 l2:List PV) (l:List Cmd) (hl:l.length<=1000) (hf:∀ c ∈ l,FitC 6 c):∀ (n i:Nat),l.length - i < n->i<=l.length ->
  L174_1 k n (encCms l) (l.length:Int) (i:Int) wide vars l1 l2 = r174 ((l.drop i).all (goodCmd wide vars))
 | 0,i,h,hi=>by omega
 | n + 1,i,h,hi=>by
  rw [sL174_1]
  by_cases hlt:i < l.length
  ·have hd:decide ((i:Int) < (l.length:Int)) = true:=by simpa using hlt
   have hfi:=hf l[i] (List.getElem_mem hlt)
   rw [hd,lookP_nat,encCms_get,List.getElem?_eq_getElem hlt]
   simp only [cond_true,Option.map_some,Option.bind_some,encCm_shp,encCm_wh,encCm_ch]
   rw [l7Command_ok (by omega) wide vars hv l1 l2 l[i] (by have:=hfi.wh;omega) (by have:=hfi.ch;omega) (fun x hx=>by have:=hfi.by1 x hx;omega)]
   simp only [R197_r]
   rw [drop_cons hlt,List.all_cons]
   cases hne:goodCmd wide vars l[i]
   ·rfl
   ·simp only [Bool.not_true,cond_false,Bool.true_and]
    rw [i64_id (by omega) (by omega)]
    exact goodS_loop hk wide vars hv l1 l2 l hl hf n (i + 1) (by omega) (by omega)
  ·have hd:decide ((i:Int) < (l.length:Int)) = false:=by simpa using hlt
   rw [hd,List.drop_eq_nil_of_le (by omega)]
   rfl
theorem goodProgramS_ok {k:Nat} (hk:1000200<=k) (p:Prg) (hp:FitP p):c174 k p.wide p.vars (encT p.start) (encCms p.cmds) = r174 (goodP p):=by
 obtain ⟨k,rfl⟩:∃ j,k = j + 1:=⟨k - 1,by omega⟩
 have hst:=hp.st
 have hcm:=hp.cm
 rw [n174,asks_ok (by omega) _ _ _ _ _ (by omega)]
 simp only [R74_r,encCms_length]
 unfold goodP
 cases hkd:kindT p.wide p.vars p.start == 2
 ·rfl
 ·simp only [Bool.not_true,cond_false,Bool.true_and]
  rw [in_ok (by omega)]
  simp only [R52_r]
  have e1:(decide ((1:Int)<=(p.cmds.length:Int)) && decide ((p.cmds.length:Int)<=6)) = (decide (1<=p.cmds.length) && decide (p.cmds.length<=6)):=by
   congr 1 <;> rw [decide_eq_decide] <;> omega
  rw [e1]
  cases decide (1<=p.cmds.length) && decide (p.cmds.length<=6)
  ·rfl
  ·simp only [Bool.not_true,cond_false,Bool.true_and]
   exact goodS_loop (by omega) p.wide p.vars (by have:=hp.v;omega) (encT p.start) (encCms p.cmds) p.cmds (by omega) hp.c k 0 (by omega) (by omega)
theorem goodP_size {p:Prg} (h:goodP p = true):isW p.wide = true /\ isV p.vars = true:=by
 simp only [goodP,Bool.and_eq_true,beq_iff_eq] at h
 exact kindT_size (t:=p.start) (by omega)
end Go.Proofs.YthoecdnmokcfbaaGreat
/- What is put for variables does as their values do: the plain law,and the law. -/
set_option linter.unusedVariables false
set_option linter.unusedSimpArgs false
set_option maxRecDepth 4000
namespace Go.Proofs.YthoecdnmokcfbaaGreat
open Go.Dp
theorem vrun_app (wide:Int) (state:List W):∀ (t u:List Nd) (vs:List W),vrun wide state (t ++ u) vs = (vrun wide state t vs).bind (vrun wide state u)
 | [],u,vs=>rfl
 | x :: t,u,vs=>by
  simp only [List.cons_append,vrun]
  split
  ·exact vrun_app wide state t u _
  ·split
   ·cases state[x.2.toNat]? with
    | none=>rfl
    | some s=>exact vrun_app wide state t u _
   ·split
    ·cases vs with
     | nil=>rfl
     | cons a r=>exact vrun_app wide state t u _
    ·split
     ·cases vs with
      | nil=>rfl
      | cons a r=>exact vrun_app wide state t u _
     ·rcases vs with _ | ⟨b,_ | ⟨a,r⟩⟩
      ·rfl
      ·rfl
      ·exact vrun_app wide state t u _
def okV (wide k:Int) (v:W):Prop:=(k = 1 /\ v<=mk wide) ∨ (k = 2 /\ v<=1#64)
inductive Fit (wide:Int):List Int->List W->Prop
 | nil:Fit wide [] []
 | cons {k v ks vs}:okV wide k v->Fit wide ks vs->Fit wide (k :: ks) (v :: vs)
theorem tr_le (b:Bool):tr b<=1#64:=by cases b <;> decide
theorem and_le_left' (a b:W):a &&& b<=a:=by rw [BitVec.le_def,BitVec.toNat_and];exact Nat.and_le_left
theorem and_le_right' (a b:W):a &&& b<=b:=by rw [BitVec.le_def,BitVec.toNat_and];exact Nat.and_le_right
theorem le_one_cases {a:W} (h:a<=1#64):a = 0#64 ∨ a = 1#64:=by
 rw [BitVec.le_def] at h
 have h1:(1#64).toNat = 1:=rfl
 rcases Nat.lt_or_ge a.toNat 1 with h2 | h2
 · left;exact BitVec.eq_of_toNat_eq (by simp;omega)
 · right;exact BitVec.eq_of_toNat_eq (by omega)
theorem apW_ok {wide op:Int} {a b:W} (hw:isW wide = true) (hm:(need op).1 = 2) (ha:okV wide (need op).2.1 a) (hb:okV wide (need op).2.1 b):okV wide (need op).2.2 (apW wide op a b):=by
 have hle:apW wide op a b<=mk wide:=and_le_right' _ _
 have hle2:apW wide op a b<=apRaw wide op a b:=and_le_left' _ _
 have ho:3<=op /\ op<=12 ∨ 14<=op /\ op<=16 ∨ op = 17 ∨ op = 18:=by
  unfold need at hm
  split at hm
  ·simp at hm
  ·split at hm
   ·simp at hm
   ·split at hm
    ·simp at hm
    ·split at hm
     ·simp at hm
     ·split at hm
      ·left;assumption
      ·split at hm
       ·right;left;assumption
       ·split at hm
        ·right;right;assumption
        ·simp at hm
 rcases ho with h | h | h
 ·have:(need op).2.2 = 1:=by
   unfold need
   rw [if_neg (by omega),if_neg (by omega),if_neg (by omega),if_neg (by omega),if_pos h]
  rw [this]
  exact .inl ⟨rfl,hle⟩
 ·have:(need op).2.2 = 2:=by
   unfold need
   rw [if_neg (by omega),if_neg (by omega),if_neg (by omega),if_neg (by omega),if_neg (by omega),if_pos h]
  rw [this]
  refine .inr ⟨rfl,?_⟩
  have h3:op = 14 ∨ op = 15 ∨ op = 16:=by omega
  have:∃ c,apRaw wide op a b = tr c:=by
   rcases h3 with rfl | rfl | rfl
   ·exact ⟨_,rfl⟩
   ·exact ⟨_,rfl⟩
   ·exact ⟨_,rfl⟩
  obtain ⟨c,hc⟩:=this
  rw [hc] at hle2
  exact BitVec.le_trans hle2 (tr_le c)
 ·have:(need op).2.2 = 2 /\ (need op).2.1 = 2:=by
   unfold need
   rw [if_neg (by omega),if_neg (by omega),if_neg (by omega),if_neg (by omega),if_neg (by omega),if_neg (by omega),if_pos h]
   exact ⟨rfl,rfl⟩
  rw [this.1]
  rw [this.2] at ha hb
  refine .inr ⟨rfl,?_⟩
  have ha:a<=1#64:=by rcases ha with h | h;exact absurd h.1 (by omega);exact h.2
  have hb:b<=1#64:=by rcases hb with h | h;exact absurd h.1 (by omega);exact h.2
  refine BitVec.le_trans hle2 ?_
  rcases h with rfl | rfl <;> rcases le_one_cases ha with rfl | rfl <;> rcases le_one_cases hb with rfl | rfl <;> simp [apRaw]
theorem goodW_iff {wide:Int} {a:W}:goodW wide a = true ↔ isW wide = true /\ a<=mk wide:=by simp [goodW,mk]
theorem leaf_run {wide vars:Int} (hv:isV vars = true) {x:Nd} (h:leafOK wide vars x = true):(x.1 = 1->x.2<=mk wide) /\ (x.1 = 20->x.2<=1#64) /\ (x.1 = 2->(x.2.toNat:Int) < vars):=by
 have hv':=isV_iff.1 hv
 unfold leafOK at h
 refine ⟨fun h1=>?_,fun h1=>?_,fun h1=>?_⟩
 ·rw [if_pos h1] at h;exact (goodW_iff.1 h).2
 ·rw [if_neg (by omega),if_neg (by omega),if_pos h1] at h
  rw [decide_eq_true_eq] at h
  exact wi_le_iff.1 h
 ·rw [if_neg (by omega),if_pos h1,decide_eq_true_eq,u64_id (by omega) (by omega)] at h
  exact h
theorem run_fit {wide vars:Int} (hw:isW wide = true) (hv:isV vars = true) {state:List W} (hs:(state.length:Int) = vars) (hg:∀ a ∈ state,a<=mk wide):∀ {t:List Nd} {ks ks':List Int} {vs:List W},kst wide vars t ks = some ks'->Fit wide ks vs->∃ vs',vrun wide state t vs = some vs' /\ Fit wide ks' vs'
 | [],ks,ks',vs,h,hf=>by simp only [kst] at h;injection h with h;subst h;exact ⟨vs,rfl,hf⟩
 | x :: t,ks,ks',vs,h,hf=>by
  simp only [kst] at h
  split at h
  ·cases h
  ·rename_i h0
   split at h
   ·cases h
   ·rename_i h1
    split at h
    ·cases h
    ·rename_i h2
     split at h
     ·cases h
     ·rename_i h3
      have hlf:=leaf_run hv (x:=x) (by simpa using h1)
      simp only [vrun]
      by_cases a1:x.1 = 1 ∨ x.1 = 20
      ·rw [if_pos a1]
       have hn:(need x.1).1 = 0 /\ (x.1 = 1->(need x.1).2.2 = 1) /\ (x.1 = 20->(need x.1).2.2 = 2):=by
        rcases a1 with a | a <;> rw [a] <;> decide
       rw [hn.1,List.drop_zero] at h
       refine run_fit hw hv hs hg h (.cons ?_ hf)
       rcases a1 with a | a
       ·exact .inl ⟨hn.2.1 a,hlf.1 a⟩
       ·exact .inr ⟨hn.2.2 a,hlf.2.1 a⟩
      ·rw [if_neg a1]
       by_cases a2:x.1 = 2
       ·rw [if_pos a2]
        have hn:(need x.1).1 = 0 /\ (need x.1).2.2 = 1:=by rw [a2];decide
        have hlt:x.2.toNat < state.length:=by have:=hlf.2.2 a2;omega
        rw [List.getElem?_eq_getElem hlt]
        rw [hn.1,List.drop_zero] at h
        exact run_fit hw hv hs hg h (.cons (.inl ⟨hn.2,hg _ (List.getElem_mem hlt)⟩) hf)
       ·rw [if_neg a2]
        by_cases a3:x.1 = 13
        ·rw [if_pos a3]
         have hn:(need x.1).1 = 1 /\ (need x.1).2.2 = 1:=by rw [a3];decide
         cases hf with
         | nil=>simp [hn.1] at h2
         | cons ho hf =>
          rw [hn.1] at h
          exact run_fit hw hv hs hg h (.cons (.inl ⟨hn.2,and_le_right' _ _⟩) hf)
        ·rw [if_neg a3]
         by_cases a4:x.1 = 19
         ·rw [if_pos a4]
          have hn:(need x.1).1 = 1 /\ (need x.1).2.2 = 2 /\ (need x.1).2.1 = 2:=by rw [a4];decide
          cases hf with
          | nil=>simp [hn.1] at h2
          | @cons kk v ks vs ho hf =>
           rw [hn.1] at h h3
           rw [hn.2.2] at h3
           have hk:kk = 2:=by simpa using h3
           refine run_fit hw hv hs hg h (.cons (.inr ⟨hn.2.1,?_⟩) hf)
           rcases ho with ho | ho
           ·omega
           ·rcases le_one_cases ho.2 with rfl | rfl <;> decide
         ·rw [if_neg a4]
          have hn:(need x.1).1 = 2:=by
           unfold need at h0 ⊢
           rw [if_neg (by omega),if_neg (by omega),if_neg a3,if_neg a4] at h0 ⊢
           split
           ·rfl
           ·split
            ·rfl
            ·split
             ·rfl
             ·rename_i b1 b2 b3
              rw [if_neg b1,if_neg b2,if_neg b3] at h0
              exact absurd rfl h0
          rw [hn] at h h2 h3
          cases hf with
          | nil=>simp at h2
          | @cons k1 v1 ks vs ho1 hf =>
           cases hf with
           | nil=>simp at h2
           | @cons k2 v2 ks vs ho2 hf =>
            have hk:k1 = (need x.1).2.1 /\ k2 = (need x.1).2.1:=by simpa using h3
            rw [hk.1] at ho1
            rw [hk.2] at ho2
            exact run_fit hw hv hs hg h (.cons (apW_ok hw hn ho2 ho1) hf)
theorem good_value {wide vars:Int} {t:List Nd} (h:goodT wide vars t = true) {state:List W} (hs:(state.length:Int) = vars) (hg:∀ a ∈ state,a<=mk wide):∃ v,vrun wide state t [] = some [v] /\ okV wide (kindT wide vars t) v:=by
 obtain ⟨hsz,c,hk,hc⟩:=goodT_iff.1 h
 have hw:isW wide = true:=by simp only [sizeT,Bool.and_eq_true] at hsz;exact hsz.1.1.1
 have hv:isV vars = true:=by simp only [sizeT,Bool.and_eq_true] at hsz;exact hsz.1.1.2
 obtain ⟨vs',h1,hf⟩:=run_fit hw hv hs hg hk .nil
 cases hf with
 | cons ho hf =>
  cases hf
  refine ⟨_,h1,?_⟩
  have:kindT wide vars t = c:=by simp [kindT,hsz,hk,kind1]
  rw [this]
  exact ho
theorem big_ok {k:Nat} (hk:1<=k) (a b:List Nat):c6 k (encB a) (encB b) = r6 (decide (a.length > 1048576) || decide (b.length + a.length > 1048576)):=by
 obtain ⟨k,rfl⟩:∃ j,k = j + 1:=⟨k - 1,by omega⟩
 rw [n6,encB_length,encB_length]
 by_cases h:a.length > 1048576
 ·have:decide ((a.length:Int) > 1048576) = true:=by simp;omega
  simp [this,h]
 ·have:decide ((a.length:Int) > 1048576) = false:=by simp;omega
  rw [this,i64_id (by omega) (by omega)]
  simp only [cond_false]
  congr 1
  rw [Bool.eq_iff_iff]
  simp
  omega
theorem ints_encB (l:List Int) (h:∀ n ∈ l,(Lit.int .u8 n).wf = true):ints .u8 l = encB (l.map Int.toNat) /\ ∀ b ∈ l.map Int.toNat,b < 256:=by
 have hb:∀ n ∈ l,0<=n /\ n<=255:=by
  intro n hn
  have:=h n hn
  simp only [Lit.wf,Bool.and_eq_true,decide_eq_true_eq] at this
  have e1:IntKind.u8.min = 0:=rfl
  have e2:IntKind.u8.max = 255:=rfl
  rw [e1,e2] at this
  exact this
 constructor
 ·simp only [ints,encB,List.map_map]
  apply List.map_congr_left
  intro n hn
  have:=hb n hn
  simp only [Function.comp]
  congr 1
  omega
 ·intro b hb2
  obtain ⟨n,hn,rfl⟩:=List.mem_map.1 hb2
  have:=hb n hn
  omega
end Go.Proofs.YthoecdnmokcfbaaGreat
/- States of programs and their numbers. -/
set_option linter.unusedVariables false
set_option linter.unusedSimpArgs false
set_option maxRecDepth 4000
namespace Go.Dp
theorem i64_bv (x:Nat) (hx:x < 9223372036854775808):(BitVec.ofInt 64 (x:Int)).toNat = x:=by
 rw [BitVec.toNat_ofInt]
 show ((x:Int) % ((2 ^ 64:Nat):Int)).toNat = x
 omega
theorem i64_or {x y:Nat} (hx:x < 4611686018427387904) (hy:y < 4611686018427387904):bitsOp .or .i64 (x:Int) (y:Int) = ((x ||| y:Nat):Int):=by
 show IntKind.i64.wrap (((BitVec.ofInt 64 (x:Int)) ||| (BitVec.ofInt 64 (y:Int))).toNat:Int) = _
 rw [BitVec.toNat_or,i64_bv x (by omega),i64_bv y (by omega)]
 have:x ||| y < 2 ^ 62:=Nat.or_lt_two_pow (by omega) (by omega)
 exact i64_id (by omega) (by omega)
theorem i64_and {x y:Nat} (hx:x < 4611686018427387904) (hy:y < 4611686018427387904):bitsOp .and .i64 (x:Int) (y:Int) = ((x &&& y:Nat):Int):=by
 show IntKind.i64.wrap (((BitVec.ofInt 64 (x:Int)) &&& (BitVec.ofInt 64 (y:Int))).toNat:Int) = _
 rw [BitVec.toNat_and,i64_bv x (by omega),i64_bv y (by omega)]
 have:x &&& y<=x:=Nat.and_le_left
 exact i64_id (by omega) (by omega)
theorem i64_shl {x n:Nat} (h:x * 2 ^ n < 9223372036854775808) (hn:n<=64):shlI .i64 (x:Int) (n:Int) = ((x * 2 ^ n:Nat):Int):=by
 unfold shlI
 show IntKind.i64.wrap ((x:Int) * 2 ^ (min (n:Int).toNat 64)) = _
 rw [Int.toNat_natCast,Nat.min_eq_left hn]
 have e:(x:Int) * 2 ^ n = ((x * 2 ^ n:Nat):Int):=by simp
 rw [e]
 exact i64_id (by omega) (by omega)
theorem i64_shr {x n:Nat} (hn:n<=64):shrI .i64 (x:Int) (n:Int) = ((x / 2 ^ n:Nat):Int):=by
 unfold shrI
 show Int.fdiv (x:Int) (2 ^ (min (n:Int).toNat 64)) = _
 rw [Int.toNat_natCast,Nat.min_eq_left hn]
 have e:((2:Int) ^ n) = ((2 ^ n:Nat):Int):=by simp
 rw [e,Int.fdiv_eq_ediv_of_nonneg _ (Int.natCast_nonneg _),<- Int.natCast_ediv]
theorem ofInt_toNat {x:Nat} (hx:x < 18446744073709551616):(BitVec.ofInt 64 (x:Int)).toNat = x:=by
 rw [BitVec.toNat_ofInt]
 show ((x:Int) % ((2 ^ 64:Nat):Int)).toNat = x
 omega
end Go.Dp
namespace Go.Proofs.YthoecdnmokcfbaaGreat
open Go.Dp
def noOf (w:Nat):List W->Nat
 | []=>0
 | a :: l=>a.toNat + 2 ^ w * noOf w l
def digs (w:Nat):Nat->Nat->List W
 | 0,_=>[]
 | v + 1,no=>BitVec.ofNat 64 (no % 2 ^ w) :: digs w v (no / 2 ^ w)
theorem noOf_lt {w:Nat}:∀ {s:List W},(∀ a ∈ s,a.toNat < 2 ^ w)->noOf w s < 2 ^ (w * s.length)
 | [],_=>by simp [noOf]
 | a :: l,h=>by
  have h1:=h a (by simp)
  have h2:=noOf_lt (s:=l) fun b hb=>h b (by simp [hb])
  simp only [noOf,List.length_cons]
  have e:2 ^ (w * (l.length + 1)) = 2 ^ w * 2 ^ (w * l.length):=by rw [<- Nat.pow_add];congr 1;rw [Nat.mul_succ];omega
  rw [e]
  have h3:2 ^ w * (noOf w l + 1)<=2 ^ w * 2 ^ (w * l.length):=Nat.mul_le_mul_left _ h2
  rw [Nat.mul_add] at h3
  omega
theorem noOf_app {w:Nat}:∀ (s t:List W),noOf w (s ++ t) = noOf w s + 2 ^ (w * s.length) * noOf w t
 | [],t=>by simp [noOf]
 | a :: l,t=>by
  simp only [List.cons_append,noOf,noOf_app l t,List.length_cons]
  have e:2 ^ (w * (l.length + 1)) = 2 ^ w * 2 ^ (w * l.length):=by rw [<- Nat.pow_add];congr 1;rw [Nat.mul_succ];omega
  rw [e,Nat.mul_add,Nat.mul_assoc]
  omega
theorem digs_length {w:Nat}:∀ {v no:Nat},(digs w v no).length = v
 | 0,_=>rfl
 | v + 1,no=>by simp [digs,digs_length]
theorem digs_lt {w:Nat} (hw:w<=63):∀ {v no:Nat},∀ a ∈ digs w v no,a.toNat < 2 ^ w
 | 0,no,a,h=>by simp [digs] at h
 | v + 1,no,a,h=>by
  simp only [digs,List.mem_cons] at h
  rcases h with rfl | h
  ·have h1:no % 2 ^ w < 2 ^ w:=Nat.mod_lt _ (Nat.two_pow_pos w)
   have h2:2 ^ w<=2 ^ 63:=Nat.pow_le_pow_right (by omega) hw
   rw [BitVec.toNat_ofNat,Nat.mod_eq_of_lt (by omega)]
   exact h1
  ·exact digs_lt hw a h
theorem noOf_digs {w:Nat} (hw:w<=63):∀ {v no:Nat},no < 2 ^ (w * v)->noOf w (digs w v no) = no
 | 0,no,h=>by simp at h;subst h;rfl
 | v + 1,no,h=>by
  have h1:no % 2 ^ w < 2 ^ w:=Nat.mod_lt _ (Nat.two_pow_pos w)
  have h2:2 ^ w<=2 ^ 63:=Nat.pow_le_pow_right (by omega) hw
  have e:2 ^ (w * (v + 1)) = 2 ^ w * 2 ^ (w * v):=by rw [<- Nat.pow_add];congr 1;rw [Nat.mul_succ];omega
  rw [e] at h
  simp only [digs,noOf]
  rw [noOf_digs hw (Nat.div_lt_of_lt_mul h),BitVec.toNat_ofNat,Nat.mod_eq_of_lt (a:=no % 2 ^ w) (by omega)]
  exact Nat.mod_add_div no (2 ^ w)
theorem digs_noOf {w:Nat}:∀ {s:List W},(∀ a ∈ s,a.toNat < 2 ^ w)->digs w s.length (noOf w s) = s
 | [],_=>rfl
 | a :: l,h=>by
  have h1:=h a (by simp)
  simp only [List.length_cons,digs,noOf]
  rw [Nat.add_mul_mod_self_left,Nat.mod_eq_of_lt h1,Nat.add_mul_div_left _ _ (Nat.two_pow_pos w),Nat.div_eq_of_lt h1,Nat.zero_add,digs_noOf fun b hb=>h b (by simp [hb])]
  congr 1
  exact BitVec.eq_of_toNat_eq (by rw [BitVec.toNat_ofNat,Nat.mod_eq_of_lt a.isLt])
theorem digs_get {w:Nat}:∀ {v no i:Nat},i < v->(digs w v no)[i]? = some (BitVec.ofNat 64 (no / 2 ^ (w * i) % 2 ^ w))
 | 0,no,i,h=>by omega
 | v + 1,no,0,h=>by simp [digs]
 | v + 1,no,i + 1,h=>by
  simp only [digs,List.getElem?_cons_succ]
  rw [digs_get (by omega),Nat.div_div_eq_div_mul,<- Nat.pow_add,Nat.mul_succ,Nat.add_comm (w * i) w]
theorem digs_take {w v no i:Nat} (h:i < v):(digs w v no).take i ++ [BitVec.ofNat 64 (no / 2 ^ (w * i) % 2 ^ w)] = (digs w v no).take (i + 1):=by
 have hl:i < (digs w v no).length:=by rw [digs_length];exact h
 have e:=digs_get (w:=w) (no:=no) h
 rw [List.getElem?_eq_getElem hl] at e
 injection e with e
 rw [List.take_succ_eq_append_getElem hl,e]
def stOK (p:Prg) (s:List W):Bool:=decide ((s.length:Int) = p.vars) && s.all (goodW p.wide)
def smallP (p:Prg):Bool:=goodP p && decide (p.wide * p.vars<=5)
theorem fit_mul {p:Prg} (hp:FitP p):IntKind.i64.wrap (p.wide * p.vars) = p.wide * p.vars /\ 0<=p.wide * p.vars /\ p.wide * p.vars<=320:=by
 have h1:=hp.w
 have h2:=hp.v
 have h3:p.wide * p.vars<=64 * p.vars:=Int.mul_le_mul_of_nonneg_right h1.2 (by omega)
 have h4:0<=p.wide * p.vars:=Int.mul_nonneg (by omega) (by omega)
 exact ⟨i64_id (by omega) (by omega),h4,by omega⟩
theorem isSmall_ok {k:Nat} (hk:1000210<=k) (p:Prg) (hp:FitP p):c69 k p.wide p.vars (encT p.start) (encCms p.cmds) = r69 (smallP p):=by
 obtain ⟨k,rfl⟩:∃ j,k = j + 1:=⟨k - 1,by omega⟩
 rw [n69,goodProgram_ok (by omega) p hp,(fit_mul hp).1]
 simp only [R132_r]
 unfold smallP
 cases goodP p <;> rfl
theorem l7Small_ok {k:Nat} (hk:1000210<=k) (p:Prg) (hp:FitP p):c114 k p.wide p.vars (encT p.start) (encCms p.cmds) = r114 (smallP p):=by
 obtain ⟨k,rfl⟩:∃ j,k = j + 1:=⟨k - 1,by omega⟩
 rw [n114,goodProgramS_ok (by omega) p hp,(fit_mul hp).1]
 simp only [R174_r]
 unfold smallP
 cases goodP p <;> rfl
theorem small_nat {p:Prg} (h:smallP p = true):∃ w v:Nat,p.wide = w /\ p.vars = v /\ 1<=w /\ 1<=v /\ v<=4 /\ w * v<=5 /\ goodP p = true:=by
 simp only [smallP,Bool.and_eq_true,decide_eq_true_eq] at h
 obtain ⟨hw,hv⟩:=goodP_size h.1
 have hw':=isW_iff.1 hw
 have hv':=isV_iff.1 hv
 have h2:=h.2
 refine ⟨p.wide.toNat,p.vars.toNat,by omega,by omega,by omega,by omega,by omega,?_,h.1⟩
 have e1:p.wide = (p.wide.toNat:Int):=by omega
 have e2:p.vars = (p.vars.toNat:Int):=by omega
 rw [e1,e2,<- Int.natCast_mul] at h2
 omega
theorem goodW_lt {w:Nat} (hw:w<=64) {a:W} (h:goodW (w:Int) a = true):a.toNat < 2 ^ w:=by
 have h1:=(goodW_iff.1 h).2
 rw [BitVec.le_def] at h1
 have h2:(mk (w:Int)).toNat = 2 ^ w - 1:=by
  unfold mk
  rw [Int.toNat_natCast]
  exact maskB_toNat hw
 have:=Nat.two_pow_pos w
 omega
theorem goodW_of {w:Nat} (h1:1<=w) (hw:w<=64) {a:W} (h:a.toNat < 2 ^ w):goodW (w:Int) a = true:=by
 rw [goodW_iff]
 refine ⟨isW_iff.2 (by omega),?_⟩
 rw [BitVec.le_def]
 have h2:(mk (w:Int)).toNat = 2 ^ w - 1:=by
  unfold mk
  rw [Int.toNat_natCast]
  exact maskB_toNat hw
 omega
theorem pow5 {n:Nat} (h:n<=5):2 ^ n<=32:=Nat.pow_le_pow_right (n:=2) (by omega) h
theorem or_shift {x a n:Nat} (h:x < 2 ^ n):x ||| (a * 2 ^ n) = x + 2 ^ n * a:=by
 rw [<- Nat.shiftLeft_eq,Nat.or_comm,<- Nat.shiftLeft_add_eq_or_of_lt h,Nat.shiftLeft_eq,Nat.mul_comm,Nat.add_comm]
theorem stateNo_loop {k:Nat} (w v:Nat) (hwv:w * v<=5) (l1 l2:List PV) (s:List W) (hs:s.length = v) (hv:v<=4) (hg:∀ a ∈ s,a.toNat < 2 ^ w):∀ (n i:Nat),s.length - i < n->i<=s.length ->
  L126_1 k n (noOf w (s.take i):Int) (encW s) (s.length:Int) (i:Int) (w:Int) (v:Int) l1 l2 = r126 (noOf w s:Int)
 | 0,i,h,hi=>by omega
 | n + 1,i,h,hi=>by
  rw [sL126_1]
  by_cases hlt:i < s.length
  ·have hd:decide ((i:Int) < (s.length:Int)) = true:=by simpa using hlt
   have hwi:w * i<=5:=Nat.le_trans (Nat.mul_le_mul_left _ (by omega)) hwv
   have hwi1:w * (i + 1)<=5:=Nat.le_trans (Nat.mul_le_mul_left _ (by omega)) hwv
   rw [hd,lookP_nat,encW_get,List.getElem?_eq_getElem hlt]
   simp only [cond_true,Option.map_some,Option.bind_some,int_atInt]
   have e0:(w:Int) * (i:Int) = ((w * i:Nat):Int):=(Int.natCast_mul w i).symm
   rw [e0,i64_id (n:=((w * i:Nat):Int)) (by omega) (by omega)]
   have e1:decide (((w * i:Nat):Int) < 0) = false:=decide_eq_false (Int.not_lt.2 (Int.natCast_nonneg _))
   rw [e1]
   simp only [Bool.not_false,cond_true]
   have ha:=hg s[i] (List.getElem_mem hlt)
   have hw5:w<=5:=by
    have:w * 1<=w * (i + 1):=Nat.mul_le_mul_left _ (by omega)
    omega
   have h32:=pow5 hw5
   have h32b:=pow5 hwi
   have e2:IntKind.i64.wrap (wi s[i]) = (s[i].toNat:Int):=i64_id (by unfold wi;omega) (by unfold wi;omega)
   have hmul:s[i].toNat * 2 ^ (w * i)<=32 * 32:=Nat.mul_le_mul (by omega) h32b
   rw [e2,i64_shl (by omega) (by omega)]
   have hno:=noOf_lt (w:=w) (s:=s.take i) fun a h=>hg a (List.mem_of_mem_take h)
   have hln:(s.take i).length = i:=by simp;omega
   rw [hln] at hno
   rw [i64_or (by omega) (by omega),or_shift hno,i64_id (by omega) (by omega)]
   have e3:noOf w (s.take i) + 2 ^ (w * i) * s[i].toNat = noOf w (s.take (i + 1)):=by
    rw [List.take_succ_eq_append_getElem hlt,noOf_app,hln]
    simp [noOf]
   rw [e3]
   exact stateNo_loop w v hwv l1 l2 s hs hv hg n (i + 1) (by omega) (by omega)
  ·have hd:decide ((i:Int) < (s.length:Int)) = false:=by simpa using hlt
   rw [hd,List.take_of_length_le (by omega)]
   rfl
theorem stateNo_ok {k:Nat} (hk:100<=k) (w v:Nat) (hwv:w * v<=5) (l1 l2:List PV) (s:List W) (hs:s.length = v) (hv:v<=4) (hg:∀ a ∈ s,a.toNat < 2 ^ w) :
  c126 k (w:Int) (v:Int) l1 l2 (encW s) = r126 (noOf w s:Int):=by
 obtain ⟨k,rfl⟩:∃ j,k = j + 1:=⟨k - 1,by omega⟩
 rw [n126,encW_length]
 exact stateNo_loop w v hwv l1 l2 s hs hv hg k 0 (by omega) (by omega)
theorem l7No_loop {k:Nat} (w v:Nat) (hw1:1<=w) (hwv:w * v<=5) (l1 l2:List PV) (s:List W) (hs:s.length = v) (hv:v<=4) (hg:∀ a ∈ s,a.toNat < 2 ^ w):∀ (i n:Nat),i < n->i<=s.length ->
  L172_1 k n (encW s) (noOf w (s.drop i):Int) ((i:Int) - 1) (w:Int) (v:Int) l1 l2 = r172 (noOf w s:Int)
 | i,0,h,hi=>by omega
 | 0,n + 1,h,hi=>by
  rw [sL172_1]
  rfl
 | i + 1,n + 1,h,hi=>by
  rw [sL172_1]
  have e0:((i + 1:Nat):Int) - 1 = (i:Int):=by omega
  rw [e0]
  have hd:decide ((i:Int)>=0) = true:=by simp
  have hlt:i < s.length:=by omega
  have hw5:w<=5:=by
   have:w * 1<=w * v:=Nat.mul_le_mul_left _ (by omega)
   omega
  rw [hd,u64_id (n:=(w:Int)) (by omega) (by omega)]
  have e1:decide ((w:Int) < 0) = false:=by simp
  rw [e1,lookP_nat,encW_get,List.getElem?_eq_getElem hlt]
  simp only [Bool.not_false,cond_true,Option.map_some,Option.bind_some,int_atInt]
  have ha:=hg s[i] (List.getElem_mem hlt)
  have hno:=noOf_lt (w:=w) (s:=s.drop (i + 1)) fun a h=>hg a (List.mem_of_mem_drop h)
  have hln:(s.drop (i + 1)).length = v - (i + 1):=by simp;omega
  rw [hln] at hno
  have h5:w * (v - (i + 1))<=5:=Nat.le_trans (Nat.mul_le_mul_left _ (by omega)) hwv
  have h32:=pow5 hw5
  have h32b:=pow5 h5
  have e2:IntKind.i64.wrap (wi s[i]) = (s[i].toNat:Int):=i64_id (by unfold wi;omega) (by unfold wi;omega)
  have hmul:noOf w (s.drop (i + 1)) * 2 ^ w<=32 * 32:=Nat.mul_le_mul (by omega) h32
  rw [e2,i64_shl (by omega) (by omega),i64_id (n:=((noOf w (s.drop (i + 1)) * 2 ^ w:Nat):Int) + (s[i].toNat:Int)) (by omega) (by omega),i64_id (n:=(i:Int) - 1) (by omega) (by omega)]
  have e3:((noOf w (s.drop (i + 1)) * 2 ^ w:Nat):Int) + (s[i].toNat:Int) = (noOf w (s.drop i):Int):=by
   rw [drop_cons hlt]
   simp only [noOf]
   rw [Nat.mul_comm]
   omega
  rw [e3]
  exact l7No_loop w v hw1 hwv l1 l2 s hs hv hg i n (by omega) (by omega)
theorem l7No_ok {k:Nat} (hk:100<=k) (w v:Nat) (hw1:1<=w) (hwv:w * v<=5) (l1 l2:List PV) (s:List W) (hs:s.length = v) (hv:v<=4) (hg:∀ a ∈ s,a.toNat < 2 ^ w) :
  c172 k (w:Int) (v:Int) l1 l2 (encW s) = r172 (noOf w s:Int):=by
 obtain ⟨k,rfl⟩:∃ j,k = j + 1:=⟨k - 1,by omega⟩
 rw [n172,i64_id (by omega) (by omega)]
 have:=l7No_loop (k:=k) w v hw1 hwv l1 l2 s hs hv hg v k (by omega) (by omega)
 rw [List.drop_eq_nil_of_le (by omega)] at this
 exact this
theorem stateOf_loop {k:Nat} (hk:10<=k) (w v:Nat) (hw1:1<=w) (hwv:w * v<=5) (hv:v<=4) (l1 l2:List PV) (no:Nat) (hno:no < 2 ^ (w * v)):∀ (n i:Nat),v - i < n->i<=v ->
  L68_1 k n (no:Int) i (v:Int) (i:Int) (w:Int) (v:Int) l1 l2 (encW ((digs w v no).take i)) = r68 (encW (digs w v no))
 | 0,i,h,hi=>by omega
 | n + 1,i,h,hi=>by
  rw [sL68_1]
  have hln:((digs w v no).take i).length = i:=by rw [List.length_take,digs_length];omega
  have e9:(encW ((digs w v no).take i)).take i = encW ((digs w v no).take i):=by rw [List.take_of_length_le (by rw [encW_length,hln];omega)]
  have h32:=pow5 hwv
  by_cases hlt:i < v
  ·have hd:decide ((i:Int) < (v:Int)) = true:=by simpa using hlt
   have hwi:w * i<=5:=Nat.le_trans (Nat.mul_le_mul_left _ (by omega)) hwv
   have hw5:w<=5:=by
    have:w * 1<=w * v:=Nat.mul_le_mul_left _ (by omega)
    omega
   have e0:(w:Int) * (i:Int) = ((w * i:Nat):Int):=(Int.natCast_mul w i).symm
   rw [hd,e0,i64_id (n:=((w * i:Nat):Int)) (by omega) (by omega)]
   have e1:decide (((w * i:Nat):Int) < 0) = false:=decide_eq_false (Int.not_lt.2 (Int.natCast_nonneg _))
   rw [e1,mask_ok (by omega) (by omega) (by omega)]
   simp only [Bool.not_false,cond_true,R131_r]
   rw [lim_ok (by omega) (by omega),i64_id (n:=(i:Int) + 1) (by omega) (by omega),e9]
   simp only [cond_true]
   rw [wrapU,shr_wi _ (by omega),and_wi,encW_snoc]
   have e2:(BitVec.ofInt 64 (no:Int) >>> ((w * i:Nat):Int).toNat) &&& maskB (w:Int).toNat = BitVec.ofNat 64 (no / 2 ^ (w * i) % 2 ^ w):=by
    apply BitVec.eq_of_toNat_eq
    rw [BitVec.toNat_and,BitVec.toNat_ushiftRight,ofInt_toNat (by omega),Int.toNat_natCast,Int.toNat_natCast,Nat.shiftRight_eq_div_pow,maskB_toNat (by omega),Nat.and_two_pow_sub_one_eq_mod]
    have h1:no / 2 ^ (w * i) % 2 ^ w < 2 ^ w:=Nat.mod_lt _ (Nat.two_pow_pos w)
    have:=pow5 hw5
    rw [BitVec.toNat_ofNat,Nat.mod_eq_of_lt (a:=no / 2 ^ (w * i) % 2 ^ w) (by omega)]
   rw [e2,digs_take hlt]
   exact stateOf_loop hk w v hw1 hwv hv l1 l2 no hno n (i + 1) (by omega) (by omega)
  ·have hd:decide ((i:Int) < (v:Int)) = false:=by simpa using hlt
   rw [hd]
   simp only [cond_false,e9]
   rw [List.take_of_length_le (by rw [digs_length];omega)]
theorem stateOf_ok {k:Nat} (hk:100<=k) (w v:Nat) (hw1:1<=w) (hwv:w * v<=5) (hv:v<=4) (l1 l2:List PV) (no:Nat) (hno:no < 2 ^ (w * v)) :
  c68 k (w:Int) (v:Int) l1 l2 (no:Int) = r68 (encW (digs w v no)):=by
 obtain ⟨k,rfl⟩:∃ j,k = j + 1:=⟨k - 1,by omega⟩
 rw [n68]
 exact stateOf_loop (by omega) w v hw1 hwv hv l1 l2 no hno k 0 (by omega) (by omega)
theorem l7Of_loop {k:Nat} (w v:Nat) (hw1:1<=w) (hwv:w * v<=5) (hv:v<=4) (l1 l2:List PV) (no:Nat) (hno:no < 2 ^ (w * v)):∀ (n i:Nat),v - i < n->i<=v ->
  L121_1 k n (no:Int) i (i:Int) (w:Int) (v:Int) l1 l2 (encW ((digs w v no).take i)) = r121 (encW (digs w v no))
 | 0,i,h,hi=>by omega
 | n + 1,i,h,hi=>by
  rw [sL121_1]
  have hln:((digs w v no).take i).length = i:=by rw [List.length_take,digs_length];omega
  have e9:(encW ((digs w v no).take i)).take i = encW ((digs w v no).take i):=by rw [List.take_of_length_le (by rw [encW_length,hln];omega)]
  have h32:=pow5 hwv
  by_cases hlt:i < v
  ·have hd:decide ((i:Int) < (v:Int)) = true:=by simpa using hlt
   have hwi:w * i<=5:=Nat.le_trans (Nat.mul_le_mul_left _ (by omega)) hwv
   have hw5:w<=5:=by
    have:w * 1<=w * v:=Nat.mul_le_mul_left _ (by omega)
    omega
   have e0:(i:Int) * (w:Int) = ((w * i:Nat):Int):=by rw [Int.mul_comm];exact (Int.natCast_mul w i).symm
   rw [hd,e0,i64_id (n:=((w * i:Nat):Int)) (by omega) (by omega),u64_id (n:=((w * i:Nat):Int)) (by omega) (by omega),u64_id (n:=(w:Int)) (by omega) (by omega)]
   have e1:decide (((w * i:Nat):Int) < 0) = false:=decide_eq_false (Int.not_lt.2 (Int.natCast_nonneg _))
   have e1':decide ((w:Int) < 0) = false:=by simp
   rw [e1,e1']
   simp only [Bool.not_false,cond_true]
   rw [lim_ok (by omega) (by omega),i64_id (n:=(i:Int) + 1) (by omega) (by omega),e9]
   simp only [cond_true]
   have hp:=pow5 hw5
   have hp1:=Nat.two_pow_pos w
   have e2:shlI .i64 1 (w:Int) = ((2 ^ w:Nat):Int):=by
    have:=i64_shl (x:=1) (n:=w) (by omega) (by omega)
    simpa using this
   rw [e2,i64_id (n:=((2 ^ w:Nat):Int) - 1) (by omega) (by omega),show ((2 ^ w:Nat):Int) - 1 = ((2 ^ w - 1:Nat):Int) by omega,i64_shr (by omega)]
   have hdv:no / 2 ^ (w * i)<=no:=Nat.div_le_self _ _
   rw [i64_and (by omega) (by omega),Nat.and_two_pow_sub_one_eq_mod]
   have h1:no / 2 ^ (w * i) % 2 ^ w < 2 ^ w:=Nat.mod_lt _ hp1
   have e3:IntKind.u64.wrap ((no / 2 ^ (w * i) % 2 ^ w:Nat):Int) = wi (BitVec.ofNat 64 (no / 2 ^ (w * i) % 2 ^ w)):=by
    rw [u64_id (by omega) (by omega)]
    unfold wi
    rw [BitVec.toNat_ofNat,Nat.mod_eq_of_lt (a:=no / 2 ^ (w * i) % 2 ^ w) (by omega)]
   rw [e3,encW_snoc,digs_take hlt]
   exact l7Of_loop w v hw1 hwv hv l1 l2 no hno n (i + 1) (by omega) (by omega)
  ·have hd:decide ((i:Int) < (v:Int)) = false:=by simpa using hlt
   rw [hd]
   simp only [cond_false,e9]
   rw [List.take_of_length_le (by rw [digs_length];omega)]
theorem l7Of_ok {k:Nat} (hk:100<=k) (w v:Nat) (hw1:1<=w) (hwv:w * v<=5) (hv:v<=4) (l1 l2:List PV) (no:Nat) (hno:no < 2 ^ (w * v)) :
  c121 k (w:Int) (v:Int) l1 l2 (no:Int) = r121 (encW (digs w v no)):=by
 obtain ⟨k,rfl⟩:∃ j,k = j + 1:=⟨k - 1,by omega⟩
 rw [n121]
 exact l7Of_loop w v hw1 hwv hv l1 l2 no hno k 0 (by omega) (by omega)
theorem states_ok {k:Nat} (hk:1<=k) (w v:Nat) (hwv:w * v<=5) (l1 l2:List PV):c50 k (w:Int) (v:Int) l1 l2 = r50 ((2 ^ (w * v):Nat):Int):=by
 obtain ⟨k,rfl⟩:∃ j,k = j + 1:=⟨k - 1,by omega⟩
 have e0:(w:Int) * (v:Int) = ((w * v:Nat):Int):=(Int.natCast_mul w v).symm
 rw [n50,e0,i64_id (by omega) (by omega)]
 have e1:decide (((w * v:Nat):Int) < 0) = false:=decide_eq_false (Int.not_lt.2 (Int.natCast_nonneg _))
 have h32:=pow5 hwv
 have e2:=i64_shl (x:=1) (n:=w * v) (by omega) (by omega)
 rw [Nat.one_mul] at e2
 rw [e1]
 simp only [Bool.not_false,cond_true]
 rw [<- e2]
 rfl
theorem l7Many_ok {k:Nat} (hk:1<=k) (w v:Nat) (hwv:w * v<=5) (l1 l2:List PV):c115 k (w:Int) (v:Int) l1 l2 = r115 ((2 ^ (w * v):Nat):Int):=by
 obtain ⟨k,rfl⟩:∃ j,k = j + 1:=⟨k - 1,by omega⟩
 have e0:(w:Int) * (v:Int) = ((w * v:Nat):Int):=(Int.natCast_mul w v).symm
 rw [n115,e0,i64_id (by omega) (by omega),u64_id (by omega) (by omega)]
 have e1:decide (((w * v:Nat):Int) < 0) = false:=decide_eq_false (Int.not_lt.2 (Int.natCast_nonneg _))
 have h32:=pow5 hwv
 have e2:=i64_shl (x:=1) (n:=w * v) (by omega) (by omega)
 rw [Nat.one_mul] at e2
 rw [e1]
 simp only [Bool.not_false,cond_true]
 rw [<- e2]
 rfl
end Go.Proofs.YthoecdnmokcfbaaGreat
/- Joined and turned terms: the functions. -/
set_option linter.unusedVariables false
set_option linter.unusedSimpArgs false
set_option maxRecDepth 4000
namespace Go.Proofs.YthoecdnmokcfbaaGreat
open Go.Dp
theorem kind_good {wide vars:Int} {t:List Nd} (h:kindT wide vars t > 0):goodT wide vars t = true:=by
 rw [<- kindT_pos];simpa using h
end Go.Proofs.YthoecdnmokcfbaaGreat
/- FnBefore: what is drawn;what must hold ahead of a command. -/
set_option linter.unusedVariables false
set_option linter.unusedSimpArgs false
set_option maxRecDepth 4000
namespace Go.Proofs.YthoecdnmokcfbaaGreat
open Go.Dp
def one1 (n:Int):Int:=if n < 1 then 1 else n
theorem l2One_ok {k:Nat} (hk:1<=k) (n:Int):c135 k n = r135 (one1 n):=by
 obtain ⟨k,rfl⟩:∃ j,k = j + 1:=⟨k - 1,by omega⟩
 rw [n135]
 unfold one1
 by_cases h:n < 1
 · simp [h]
 · simp [h]
def cnoOK (p:Prg) (k1:Int):Bool:=decide (0<=k1) && decide (k1 < (p.cmds.length:Int))
def cmdAt (p:Prg) (k1:Int):Cmd:=(p.cmds[k1.toNat]?).getD ⟨[],[]⟩
theorem cmdAt_get {p:Prg} {k1:Int} (h:cnoOK p k1 = true):lookP (encCms p.cmds) k1 = some (encCm (cmdAt p k1)) /\ cmdAt p k1 ∈ p.cmds:=by
 simp only [cnoOK,Bool.and_eq_true,decide_eq_true_eq] at h
 have hlt:k1.toNat < p.cmds.length:=by omega
 rw [lookP_int h.1,encCms_get]
 unfold cmdAt
 rw [List.getElem?_eq_getElem hlt]
 exact ⟨rfl,List.getElem_mem hlt⟩
theorem goodChs_mem {wide vars:Int}:∀ {l:List Chg} {pv:Int},goodChs wide vars pv l = true->∀ x ∈ l,0<=x.v /\ x.v < vars /\ kindT wide vars x.by1 = 1
 | [],pv,h=>by simp
 | x :: l,pv,h=>by
  simp only [goodChs,Bool.and_eq_true,decide_eq_true_eq,beq_iff_eq] at h
  intro y hy
  rcases List.mem_cons.1 hy with rfl | hy
  ·exact ⟨h.1.1.1.1,h.1.1.1.2,h.1.2⟩
  ·exact goodChs_mem h.2 y hy
end Go.Proofs.YthoecdnmokcfbaaGreat
/- FnBefore: what must hold ahead of a command does;the law. -/
set_option linter.unusedVariables false
set_option linter.unusedSimpArgs false
set_option maxRecDepth 4000
namespace Go.Proofs.YthoecdnmokcfbaaGreat
open Go.Dp
def valD (wide:Int) (s:List W) (t:List Nd):W:=match vrun wide s t [] with | some [v]=>v | _=>0#64
theorem valD_of {wide:Int} {s:List W} {t:List Nd} {v:W} (h:vrun wide s t [] = some [v]):valD wide s t = v:=by unfold valD;rw [h]
def afterS (wide:Int) (s:List W) (ch:List Chg) (o:List W):List W:=ch.foldl (fun o x=>o.set x.v.toNat (valD wide s x.by1)) o
theorem kind_val {wide vars c:Int} {t:List Nd} (h:kindT wide vars t = c) (hc:c > 0) {s:List W} (hs:(s.length:Int) = vars) (hg:∀ a ∈ s,a<=mk wide):vrun wide s t [] = some [valD wide s t] /\ okV wide c (valD wide s t):=by
 obtain ⟨v,h1,h2⟩:=good_value (kind_good (by omega:kindT wide vars t > 0)) hs hg
 rw [valD_of h1,<- h]
 exact ⟨h1,h2⟩
theorem after_loop {k:Nat} (hk:1000000<=k) (p:Prg) (hw:isW p.wide = true) (l1 l2:List PV) (s:List W) (hs:(s.length:Int) = p.vars) (hg:∀ a ∈ s,a<=mk p.wide) (ch:List Chg) (hl:ch.length<=100) (hx:∀ x ∈ ch,0<=x.v /\ x.v < p.vars /\ kindT p.wide p.vars x.by1 = 1 /\ x.by1.length<=100):∀ (n i:Nat) (o:List W),ch.length - i < n->i<=ch.length->o.length = s.length ->
  L127_1 k n (encW s) o.length (encChs ch) (ch.length:Int) (i:Int) p.wide p.vars l1 l2 (encW o) = r127 (encW (afterS p.wide s (ch.drop i) o))
 | 0,i,o,h,hi,ho=>by omega
 | n + 1,i,o,h,hi,ho=>by
  rw [sL127_1]
  by_cases hlt:i < ch.length
  ·have hd:decide ((i:Int) < (ch.length:Int)) = true:=by simpa using hlt
   have hxi:=hx _ (List.getElem_mem hlt)
   obtain ⟨hv,_⟩:=kind_val hxi.2.2.1 (by omega) hs hg
   rw [hd,lookP_nat,encChs_get,List.getElem?_eq_getElem hlt,drop_cons hlt]
   simp only [cond_true,Option.map_some,Option.bind_some,encCh_shp,encCh_v,encCh_by]
   rw [valueOf_ok (by omega) hw s _ (by omega) hv]
   simp only [R130_r]
   have hin:(decide ((0:Int)<=ch[i].v) && decide (ch[i].v < (o.length:Int))) = true:=by simp;omega
   have hget:(encW o)[0 + ch[i].v.toNat]? = some (PV.int .u64 (wi (o[ch[i].v.toNat]'(by omega)))):=by rw [Nat.zero_add,encW_get,List.getElem?_eq_getElem (by omega)];rfl
   rw [hin,hget]
   simp only [cond_true,Option.bind_some,Nat.zero_add]
   have hset:(encW o).set ch[i].v.toNat (PV.int .u64 (wi (valD p.wide s ch[i].by1))) = encW (o.set ch[i].v.toNat (valD p.wide s ch[i].by1)):=by simp [encW,List.map_set]
   rw [hset,i64_id (by omega) (by omega)]
   have:=after_loop hk p hw l1 l2 s hs hg ch hl hx n (i + 1) (o.set ch[i].v.toNat (valD p.wide s ch[i].by1)) (by omega) (by omega) (by simpa using ho)
   rw [List.length_set] at this
   exact this
  ·have hd:decide ((i:Int) < (ch.length:Int)) = false:=by simpa using hlt
   rw [hd,List.drop_eq_nil_of_le (by omega)]
   have e1:(encW o).take o.length = encW o:=by rw [List.take_of_length_le (by simp)]
   simp only [cond_false,e1]
   rfl
theorem after_ok {k:Nat} (hk:1000010<=k) (p:Prg) (hw:isW p.wide = true) (l1 l2 l3:List PV) (s:List W) (hsl:s.length<=1000) (hs:(s.length:Int) = p.vars) (hg:∀ a ∈ s,a<=mk p.wide) (ch:List Chg) (hl:ch.length<=100) (hx:∀ x ∈ ch,0<=x.v /\ x.v < p.vars /\ kindT p.wide p.vars x.by1 = 1 /\ x.by1.length<=100) :
  c127 k p.wide p.vars l1 l2 l3 (encChs ch) (encW s) = r127 (encW (afterS p.wide s ch s)):=by
 obtain ⟨k,rfl⟩:∃ j,k = j + 2:=⟨k - 2,by omega⟩
 have hcl:c179 (k + 1) (encW s) = r179 (encW s):=n179 k _ (by simp [LIM];omega) (by simp [LIM];omega)
 rw [n127,hcl]
 simp only [R179_r,encW_length,encChs_length]
 exact after_loop (k:=k + 1) (by omega) p hw l1 l2 s hs hg ch hl hx (k + 1) 0 s (by omega) (by omega) rfl
def holdC (p:Prg) (c:Cmd) (s:List W):Bool:=valD p.wide s c.wh == 1#64
end Go.Proofs.YthoecdnmokcfbaaGreat
/- Sorted lists;the variables that a command reads and changes. -/
set_option linter.unusedVariables false
set_option linter.unusedSimpArgs false
set_option maxRecDepth 4000
namespace Go.Dp
theorem lt_ext:∀ {a b:List Int},a.Pairwise (· < ·)->b.Pairwise (· < ·)->(∀ x,x ∈ a ↔ x ∈ b)->a = b
 | [],[],_,_,_=>rfl
 | [],y :: b,_,_,h=>by have:=(h y).2 (by simp);simp at this
 | x :: a,[],_,_,h=>by have:=(h x).1 (by simp);simp at this
 | x :: a,y :: b,ha,hb,h=>by
  rw [List.pairwise_cons] at ha hb
  have exy:x = y:=by
   have h1:=(h x).1 (by simp)
   have h2:=(h y).2 (by simp)
   rcases List.mem_cons.1 h1 with h1 | h1
   ·exact h1
   ·rcases List.mem_cons.1 h2 with h2 | h2
    ·exact h2.symm
    ·have:=ha.1 y h2
     have:=hb.1 x h1
     omega
  subst exy
  rw [lt_ext ha.2 hb.2 fun z=>?_]
  constructor
  ·intro hz
   rcases List.mem_cons.1 ((h z).1 (List.mem_cons_of_mem _ hz)) with h1 | h1
   ·have:=ha.1 z hz;omega
   ·exact h1
  ·intro hz
   rcases List.mem_cons.1 ((h z).2 (List.mem_cons_of_mem _ hz)) with h1 | h1
   ·have:=hb.1 z hz;omega
   ·exact h1
theorem comp_up (z:List Int) (hs:∀ i j,i<=j->j < z.length->z.toArray[i]!<=z.toArray[j]!):∀ m,m<=z.length->(Lib.compactUpTo z.toArray m).Pairwise (· < ·) /\ ∀ x,x ∈ Lib.compactUpTo z.toArray m ↔ ∃ j,j < m /\ z.toArray[j]! = x
 | 0,_=>by simp [Lib.compactUpTo]
 | m + 1,h=>by
  obtain ⟨h1,h2⟩:=comp_up z hs m (by omega)
  rw [Lib.compactUpTo_succ]
  by_cases hk:Lib.keeps z.toArray m = true
  ·rw [if_pos hk]
   refine ⟨List.pairwise_append.2 ⟨h1,by simp,fun a ha b hb=>?_⟩,fun x=>?_⟩
   ·rw [List.mem_singleton] at hb
    subst hb
    obtain ⟨j,hj,rfl⟩:=(h2 a).1 ha
    have l1:=hs j (m - 1) (by omega) (by omega)
    have l2:=hs (m - 1) m (by omega) (by omega)
    have hne:z.toArray[m]! ≠ z.toArray[m - 1]!:=by
     unfold Lib.keeps at hk
     rw [decide_eq_true_eq] at hk
     rcases hk with hk | hk
     ·omega
     ·exact hk
    omega
   ·rw [List.mem_append,h2,List.mem_singleton]
    constructor
    ·rintro (⟨j,hj,hx⟩ | hx)
     ·exact ⟨j,by omega,hx⟩
     ·exact ⟨m,by omega,hx.symm⟩
    ·rintro ⟨j,hj,hx⟩
     by_cases e:j = m
     ·subst e;exact .inr hx.symm
     ·exact .inl ⟨j,by omega,hx⟩
  ·rw [if_neg hk,List.append_nil]
   refine ⟨h1,fun x=>?_⟩
   have hm:m ≠ 0 /\ z.toArray[m]! = z.toArray[m - 1]!:=by
    unfold Lib.keeps at hk
    rw [decide_eq_true_eq] at hk
    exact ⟨fun e=>hk (.inl e),Decidable.byContradiction fun e=>hk (.inr e)⟩
   rw [h2]
   constructor
   ·rintro ⟨j,hj,hx⟩;exact ⟨j,by omega,hx⟩
   ·rintro ⟨j,hj,hx⟩
    by_cases e:j = m
    ·subst e;exact ⟨j - 1,by omega,by rw [<- hm.2];exact hx⟩
    ·exact ⟨j,by omega,hx⟩
def canI (l:List Int):List Int:=compI (sortI l)
theorem mem_bang {z:List Int} {x:Int}:(∃ j,j < z.length /\ z.toArray[j]! = x) ↔ x ∈ z:=by
 constructor
 ·rintro ⟨j,hj,rfl⟩
  rw [getElem!_pos z.toArray j (by simpa using hj)]
  simp
 ·intro h
  obtain ⟨j,hj,rfl⟩:=List.getElem_of_mem h
  exact ⟨j,hj,by rw [getElem!_pos z.toArray j (by simpa using hj)];simp⟩
theorem canI_spec (l:List Int):(canI l).Pairwise (· < ·) /\ ∀ x,x ∈ canI l ↔ x ∈ l:=by
 have hp:(sortI l).Pairwise fun a b=>decide (a<=b) = true:=List.pairwise_mergeSort (fun a b c h1 h2=>by simp at h1 h2 ⊢;omega) (fun a b=>by simp;omega) l
 have hs:∀ i j,i<=j->j < (sortI l).length->(sortI l).toArray[i]!<=(sortI l).toArray[j]!:=by
  intro i j hij hj
  rw [getElem!_pos (sortI l).toArray i (by simp;omega),getElem!_pos (sortI l).toArray j (by simpa using hj)]
  by_cases e:i = j
  ·subst e;omega
  ·have:=List.pairwise_iff_getElem.1 hp i j (by omega) hj (by omega)
   simpa using this
 obtain ⟨h1,h2⟩:=comp_up (sortI l) hs (sortI l).length (Nat.le_refl _)
 refine ⟨h1,fun x=>(h2 x).trans (mem_bang.trans ?_)⟩
 unfold sortI
 exact List.mem_mergeSort
theorem canI_len (l:List Int):(canI l).length<=l.length:=by
 have:=compI_le (sortI l)
 unfold canI
 have:(sortI l).length = l.length:=by simp [sortI]
 omega
def putI:List Int->Int->List Int
 | [],n=>[n]
 | x :: l,n=>if x < n then x :: putI l n else if x = n then x :: l else n :: x :: l
theorem putI_cons (x:Int) (l:List Int) (n:Int):putI (x :: l) n = if x < n then x :: putI l n else if x = n then x :: l else n :: x :: l:=rfl
theorem putI_mem:∀ (l:List Int) (n x:Int),x ∈ putI l n ↔ x = n ∨ x ∈ l
 | [],n,x=>by simp [putI]
 | y :: l,n,x=>by
  unfold putI
  split
  ·simp only [List.mem_cons,putI_mem l n x]
   constructor
   ·rintro (h | h | h) <;> simp [h]
   ·rintro (h | h | h) <;> simp [h]
  ·split
   ·rename_i h
    subst h
    simp
   ·simp
theorem putI_lt:∀ (l:List Int) (n:Int),l.Pairwise (· < ·)->(putI l n).Pairwise (· < ·)
 | [],n,h=>by simp [putI]
 | y :: l,n,h=>by
  rw [List.pairwise_cons] at h
  unfold putI
  split
  ·rename_i h1
   rw [List.pairwise_cons]
   refine ⟨fun x hx=>?_,putI_lt l n h.2⟩
   rcases (putI_mem l n x).1 hx with hx | hx
   ·omega
   ·exact h.1 x hx
  ·split
   ·exact List.pairwise_cons.2 h
   ·rw [List.pairwise_cons]
    refine ⟨fun x hx=>?_,List.pairwise_cons.2 h⟩
    rcases List.mem_cons.1 hx with hx | hx
    ·omega
    ·have:=h.1 x hx;omega
theorem putI_len:∀ (l:List Int) (n:Int),(putI l n).length<=l.length + 1
 | [],n=>by simp [putI]
 | y :: l,n=>by
  have:=putI_len l n
  unfold putI
  split
  ·simp;omega
  ·split <;> simp
def putAllI (l m:List Int):List Int:=m.foldl putI l
theorem putAllI_spec:∀ (m l:List Int),l.Pairwise (· < ·)->(putAllI l m).Pairwise (· < ·) /\ ∀ x,x ∈ putAllI l m ↔ x ∈ l ∨ x ∈ m
 | [],l,h=>⟨h,fun x=>by simp [putAllI]⟩
 | n :: m,l,h=>by
  obtain ⟨h1,h2⟩:=putAllI_spec m (putI l n) (putI_lt l n h)
  refine ⟨h1,fun x=>(h2 x).trans ?_⟩
  rw [putI_mem,List.mem_cons]
  constructor
  ·rintro ((h | h) | h) <;> simp [h]
  ·rintro (h | h | h) <;> simp [h]
theorem putAllI_len:∀ (m l:List Int),(putAllI l m).length<=l.length + m.length
 | [],l=>by simp [putAllI]
 | n :: m,l=>by
  have h1:=putAllI_len m (putI l n)
  have h2:=putI_len l n
  simp only [putAllI,List.foldl_cons,List.length_cons] at h1 ⊢
  omega
theorem putAllI_app (l m m2:List Int):putAllI l (m ++ m2) = putAllI (putAllI l m) m2:=by simp [putAllI]
theorem canI_put {l m:List Int} (h:∀ x,x ∈ l ↔ x ∈ m):canI l = putAllI [] m:=by
 obtain ⟨h1,h2⟩:=canI_spec l
 obtain ⟨h3,h4⟩:=putAllI_spec m [] List.Pairwise.nil
 exact lt_ext h1 h3 fun x=>by rw [h2,h4];simp [h]
end Go.Dp
namespace Go.Proofs.YthoecdnmokcfbaaGreat
open Go.Dp
theorem encZ_lookup {l:List Int} {i:Nat} (h:i < l.length):lookP (encZ l) (i:Int) = some (.int .i64 l[i]):=by rw [lookP_nat,encZ_get,List.getElem?_eq_getElem h];rfl
theorem intsOf_enc:∀ l:List Int,intsOf (encZ l) = some l
 | []=>rfl
 | x :: l=>by
  have:=intsOf_enc l
  simp only [encZ,List.map_cons] at this ⊢
  simp only [intsOf,this]
  rfl
theorem sort_view (o:List Int):((((sortI o).map (PV.int .i64)) ++ ((encZ o).drop o.length)).take o.length) = encZ (sortI o):=by
 have hl:(sortI o).length = o.length:=by simp [sortI]
 have:(encZ o).drop o.length = []:=List.drop_eq_nil_of_le (by simp)
 rw [this,List.append_nil,List.take_of_length_le (by simp [hl])]
 rfl
theorem comp_view (z:List Int) (r tl:List PV):(((((compI z).map (PV.int .i64)) ++ r) ++ tl).take ((compI z).length)) = encZ (compI z):=by
 rw [List.append_assoc,List.take_append_of_le_length (by simp),List.take_of_length_le (by simp)]
 rfl
def vlist:List Nd->List Int
 | []=>[]
 | x :: t=>(if x.1 = 2 then [IntKind.i64.wrap (wi x.2)] else []) ++ vlist t
theorem put_loop1 {k:Nat} (l:List Int) (hl:l.length<=1000) (m:Int):∀ (n i:Nat),l.length - i < n->i<=l.length ->
   L119_1 k n l.length m (i:Int) (encZ l) = r119 (encZ (l.take i ++ putI (l.drop i) m))
 | 0,i,h,hi=>by omega
 | n + 1,i,h,hi=>by
   have key:(l.drop i = [] ∨ ∃ x r,l.drop i = x :: r /\ ¬ x < m /\ x ≠ m)->(bif decide ((0:Int)<=(i:Int)) && decide ((i:Int)<=(l.length:Int)) then
     bif decide ((0 + (((encZ l).take (i:Int).toNat).length)) * 8<=LIM) && decide (0 + (((encZ l).take (i:Int).toNat).length)<=LIM) then
      bif decide (((0 + (((encZ l).take (i:Int).toNat).length)) + 1) * 8<=LIM) && decide ((0 + (((encZ l).take (i:Int).toNat).length)) + 1<=LIM) then
       bif decide ((0:Int)<=(i:Int)) && decide ((i:Int)<=(l.length:Int)) && decide ((l.length:Int)<=(l.length:Int)) then
        bif decide ((((0 + (((encZ l).take (i:Int).toNat).length)) + 1) + ((((encZ l).drop (0 + (i:Int).toNat)).take (l.length - (i:Int).toNat)).length)) * 8<=LIM) && decide (((0 + (((encZ l).take (i:Int).toNat).length)) + 1) + ((((encZ l).drop (0 + (i:Int).toNat)).take (l.length - (i:Int).toNat)).length)<=LIM) then
         r119 (((((([] ++ ((encZ l).take (i:Int).toNat)).take (0 + (((encZ l).take (i:Int).toNat).length))) ++ [PV.int .i64 m]).take ((0 + (((encZ l).take (i:Int).toNat).length)) + 1)) ++ (((encZ l).drop (0 + (i:Int).toNat)).take (l.length - (i:Int).toNat))).take (((0 + (((encZ l).take (i:Int).toNat).length)) + 1) + ((((encZ l).drop (0 + (i:Int).toNat)).take (l.length - (i:Int).toNat)).length)))
        else none
       else none
      else none
     else none
    else none) = r119 (encZ (l.take i ++ putI (l.drop i) m)):=by
     intro hc
     have e1:(decide ((0:Int)<=(i:Int)) && decide ((i:Int)<=(l.length:Int))) = true:=by simp;omega
     have e2:(encZ l).take (i:Int).toNat = encZ (l.take i):=by rw [Int.toNat_natCast,encZ_take]
     have e3:((encZ l).drop (0 + (i:Int).toNat)).take (l.length - (i:Int).toNat) = encZ (l.drop i):=by rw [Nat.zero_add,Int.toNat_natCast,encZ_drop,List.take_of_length_le (by simp)]
     have e4:(encZ (l.take i)).length = i:=by simp;omega
     have e5:(encZ (l.drop i)).length = l.length - i:=by simp
     rw [e2,e3,e4,e5,e1,lim_ok (by omega) (by omega),lim_ok (by omega) (by omega),lim_ok (by omega) (by omega)]
     have e6:decide ((l.length:Int)<=(l.length:Int)) = true:=by simp
     rw [e6]
     simp only [cond_true,Bool.and_self,List.nil_append,Nat.zero_add]
     rw [List.take_of_length_le (l:=encZ (l.take i)) (by simp;omega),encZ_snoc,List.take_of_length_le (l:=encZ (l.take i ++ [m])) (by (simp;try omega))]
     have e7:putI (l.drop i) m = m :: l.drop i:=by
       rcases hc with hc | ⟨x,r,hc,h1,h2⟩
       · rw [hc];rfl
       · rw [hc,putI_cons,if_neg h1,if_neg h2]
     have e8:encZ (l.take i ++ [m]) ++ encZ (l.drop i) = encZ (l.take i ++ putI (l.drop i) m):=by rw [e7];simp [encZ]
     rw [e8,List.take_of_length_le]
     rw [e7]
     simp
     omega
   rw [sL119_1]
   by_cases hlt:i < l.length
   · have hd:decide ((i:Int) < (l.length:Int)) = true:=by simpa using hlt
     have h0:decide ((0:Int)<=(i:Int)) = true:=by simp
     have hget:(encZ l)[0 + (i:Int).toNat]? = some (.int .i64 l[i]):=by rw [Nat.zero_add,Int.toNat_natCast,encZ_get,List.getElem?_eq_getElem hlt];rfl
     rw [hd,h0,hget]
     simp only [Bool.and_self,cond_true,Option.bind_some,int_atInt]
     by_cases h1:l[i] < m
     · have h1':decide (l[i] < m) = true:=by simpa using h1
       rw [h1']
       simp only [cond_true]
       rw [i64_id (by omega) (by omega),show (i:Int) + 1 = ((i + 1:Nat):Int) by omega,put_loop1 l hl m n (i + 1) (by omega) (by omega)]
       rw [drop_cons hlt,List.take_succ_eq_append_getElem hlt]
       rw [putI_cons,if_pos h1,List.append_assoc]
       rfl
     · have h1':decide (l[i] < m) = false:=by simpa using h1
       rw [h1']
       simp only [cond_false]
       by_cases h2:l[i] = m
       · have h2':(l[i] == m) = true:=by simpa using h2
         rw [h2']
         simp only [cond_true]
         rw [List.take_of_length_le (by simp)]
         congr 2
         rw [drop_cons hlt]
         rw [putI_cons,if_neg h1,if_pos h2,<- drop_cons hlt,List.take_append_drop]
       · have h2':(l[i] == m) = false:=by simpa using h2
         rw [h2']
         simp only [cond_false]
         have:=key (.inr ⟨_,_,drop_cons hlt,h1,h2⟩)
         rw [h0] at this
         exact this
   · have hd:decide ((i:Int) < (l.length:Int)) = false:=by simpa using hlt
     rw [hd]
     simp only [cond_false]
     exact key (.inl (List.drop_eq_nil_of_le (by omega)))
theorem l1Put_ok {k:Nat} (hk:2000<=k) (l:List Int) (hl:l.length<=1000) (m:Int):c119 k (encZ l) m = r119 (encZ (putI l m)):=by
 obtain ⟨k,rfl⟩:∃ j,k = j + 1:=⟨k - 1,by omega⟩
 rw [n119]
 have:=put_loop1 (k:=k) l hl m k 0 (by omega) (by omega)
 simpa using this
end Go.Proofs.YthoecdnmokcfbaaGreat
/- FnCommute: what commands touch;independent commands commute;the law. -/
set_option linter.unusedVariables false
set_option linter.unusedSimpArgs false
set_option maxRecDepth 4000
namespace Go.Proofs.YthoecdnmokcfbaaGreat
open Go.Dp
def readsCh:List Chg->List Int
 | []=>[]
 | x :: l=>vlist x.by1 ++ readsCh l
def readsOf (c:Cmd):List Int:=putAllI [] (vlist c.wh ++ readsCh c.ch)
def writesOf (c:Cmd):List Int:=c.ch.map Chg.v
def meetI (a b:List Int):Bool:=a.any fun x=>b.contains x
theorem index_loop {k:Nat} (l:List Int) (hl:l.length<=100000) (v:Int):∀ (n i:Nat),l.length - i < n->i<=l.length->∃ u,L125_1 k n (encZ l) v (l.length:Int) (i:Int) = r125 u /\ decide (u>=0) = (l.drop i).contains v
 | 0,i,h,hi=>by omega
 | n + 1,i,h,hi=>by
  rw [sL125_1]
  by_cases hlt:i < l.length
  ·have hd:decide ((i:Int) < (l.length:Int)) = true:=by simpa using hlt
   rw [hd,encZ_lookup hlt,drop_cons hlt]
   simp only [cond_true,Option.bind_some,int_atInt,List.contains_cons]
   cases he:(v == l[i])
   ·simp only [cond_false,Bool.false_or]
    rw [i64_id (by omega) (by omega)]
    exact index_loop l hl v n (i + 1) (by omega) (by omega)
   ·exact ⟨_,rfl,by simp⟩
  ·have hd:decide ((i:Int) < (l.length:Int)) = false:=by simpa using hlt
   rw [hd,List.drop_eq_nil_of_le (by omega)]
   exact ⟨_,rfl,by simp⟩
theorem contains1_ok {k:Nat} (hk:100010<=k) (l:List Int) (hl:l.length<=100000) (v:Int):c65 k (encZ l) v = r65 (l.contains v):=by
 obtain ⟨k,rfl⟩:∃ j,k = j + 2:=⟨k - 2,by omega⟩
 rw [n65,n125,encZ_length]
 obtain ⟨u,h,h2⟩:=index_loop (k:=k) l hl v k 0 (by omega) (by omega)
 have h':L125_1 k k (encZ l) v (l.length:Int) 0 = r125 u:=h
 rw [h']
 simp only [R125_r,h2,List.drop_zero]
theorem has_loop {k:Nat} (l:List Int) (hl:l.length<=100000) (v:Int):∀ (n i:Nat),l.length - i < n->i<=l.length->L138_1 k n v (encZ l) (l.length:Int) (i:Int) = r138 ((l.drop i).contains v)
 | 0,i,h,hi=>by omega
 | n + 1,i,h,hi=>by
  rw [sL138_1]
  by_cases hlt:i < l.length
  ·have hd:decide ((i:Int) < (l.length:Int)) = true:=by simpa using hlt
   rw [hd,encZ_lookup hlt,drop_cons hlt]
   simp only [cond_true,Option.bind_some,int_atInt,List.contains_cons]
   rw [show (v == l[i]) = (l[i] == v) from BEq.comm]
   cases he:(l[i] == v)
   ·simp only [cond_false,Bool.false_or]
    rw [i64_id (by omega) (by omega)]
    exact has_loop l hl v n (i + 1) (by omega) (by omega)
   ·simp
  ·have hd:decide ((i:Int) < (l.length:Int)) = false:=by simpa using hlt
   rw [hd,List.drop_eq_nil_of_le (by omega)]
   simp
theorem has_ok {k:Nat} (hk:100010<=k) (l:List Int) (hl:l.length<=100000) (v:Int):c138 k (encZ l) v = r138 (l.contains v):=by
 obtain ⟨k,rfl⟩:∃ j,k = j + 1:=⟨k - 1,by omega⟩
 rw [n138,encZ_length]
 have:=has_loop (k:=k) l hl v k 0 (by omega) (by omega)
 simpa using this
theorem meetS_loop {k:Nat} (hk:100020<=k) (a b:List Int) (ha:a.length<=100000) (hb:b.length<=100000):∀ (n i:Nat),a.length - i < n->i<=a.length->L75_1 k n (encZ b) (encZ a) (a.length:Int) (i:Int) = r75 (meetI (a.drop i) b)
 | 0,i,h,hi=>by omega
 | n + 1,i,h,hi=>by
  rw [sL75_1]
  by_cases hlt:i < a.length
  ·have hd:decide ((i:Int) < (a.length:Int)) = true:=by simpa using hlt
   rw [hd,encZ_lookup hlt,drop_cons hlt]
   simp only [cond_true,Option.bind_some,int_atInt,meetI,List.any_cons]
   rw [has_ok (by omega) b hb]
   simp only [R138_r]
   cases b.contains a[i]
   ·simp only [cond_false,Bool.false_or]
    rw [i64_id (by omega) (by omega)]
    exact meetS_loop hk a b ha hb n (i + 1) (by omega) (by omega)
   ·rfl
  ·have hd:decide ((i:Int) < (a.length:Int)) = false:=by simpa using hlt
   rw [hd,List.drop_eq_nil_of_le (by omega)]
   simp [meetI]
theorem meetS_ok {k:Nat} (hk:100100<=k) (a b:List Int) (ha:a.length<=100000) (hb:b.length<=100000):c75 k (encZ a) (encZ b) = r75 (meetI a b):=by
 obtain ⟨k,rfl⟩:∃ j,k = j + 1:=⟨k - 1,by omega⟩
 rw [n75,encZ_length]
 have:=meetS_loop (k:=k) (by omega) a b ha hb k 0 (by omega) (by omega)
 simpa using this
def tOK (p:Prg) (k1:Int):Bool:=goodP p && cnoOK p k1
def apart (p:Prg) (k1 m1:Int):Bool:=!meetI (writesOf (cmdAt p k1)) (readsOf (cmdAt p m1)) && (!meetI (writesOf (cmdAt p k1)) (writesOf (cmdAt p m1)) && !meetI (writesOf (cmdAt p m1)) (readsOf (cmdAt p k1)))
end Go.Proofs.YthoecdnmokcfbaaGreat
/- FnCommute: independent commands commute;the law. -/
set_option linter.unusedVariables false
set_option linter.unusedSimpArgs false
set_option maxRecDepth 4000
namespace Go.Proofs.YthoecdnmokcfbaaGreat
open Go.Dp
theorem good_cmd {p:Prg} (hp:FitP p) {k1:Int} (h:tOK p k1 = true):isW p.wide = true /\ isV p.vars = true /\ goodP p = true /\ cnoOK p k1 = true /\ FitC 6 (cmdAt p k1) /\ kindT p.wide p.vars (cmdAt p k1).wh = 2 /\ ∀ x ∈ (cmdAt p k1).ch,0<=x.v /\ x.v < p.vars /\ kindT p.wide p.vars x.by1 = 1:=by
 simp only [tOK,Bool.and_eq_true] at h
 obtain ⟨hg,hn⟩:=h
 obtain ⟨h1,h2⟩:=goodP_size hg
 have hm:=(cmdAt_get hn).2
 have hg':=hg
 simp only [goodP,Bool.and_eq_true,List.all_eq_true] at hg
 have hc:=hg.2 _ hm
 simp only [goodCmd,Bool.and_eq_true,beq_iff_eq] at hc
 exact ⟨h1,h2,hg',hn,hp.c _ hm,hc.1,goodChs_mem hc.2⟩
theorem stOK_of {p:Prg} (hw:isW p.wide = true) {s:List W}:stOK p s = true ↔ (s.length:Int) = p.vars /\ ∀ a ∈ s,a<=mk p.wide:=by
 simp only [stOK,Bool.and_eq_true,decide_eq_true_eq,List.all_eq_true]
 constructor
 · rintro ⟨h1,h2⟩;exact ⟨h1,fun a ha=>(goodW_iff.1 (h2 a ha)).2⟩
 · rintro ⟨h1,h2⟩;exact ⟨h1,fun a ha=>goodW_iff.2 ⟨hw,h2 a ha⟩⟩
def stepO (p:Prg) (k1:Int) (s:List W):Bool:=stOK p s && holdC p (cmdAt p k1) s
def stepT (p:Prg) (k1:Int) (s:List W):List W:=bif stepO p k1 s then afterS p.wide s (cmdAt p k1).ch s else []
theorem vrun_agree {wide:Int} {s s':List W}:∀ (t:List Nd) (vs:List W),(∀ x ∈ t,x.1 = 2->s[x.2.toNat]? = s'[x.2.toNat]?)->vrun wide s t vs = vrun wide s' t vs
 | [],vs,h=>rfl
 | x :: t,vs,h=>by
  have ih:=fun vs=>vrun_agree (wide:=wide) t vs fun y hy=>h y (by simp [hy])
  simp only [vrun]
  split
  ·exact ih _
  ·split
   ·rename_i h2
    rw [h x (by simp) h2]
    cases s'[x.2.toNat]? with
    | none=>rfl
    | some a=>exact ih _
   ·split
    ·cases vs with
     | nil=>rfl
     | cons a r=>exact ih _
    ·split
     ·cases vs with
      | nil=>rfl
      | cons a r=>exact ih _
     ·rcases vs with _ | ⟨b,_ | ⟨a,r⟩⟩
      ·rfl
      ·rfl
      ·exact ih _
theorem vlist_mem:∀ (t:List Nd) (x:Nd),x ∈ t->x.1 = 2->IntKind.i64.wrap (wi x.2) ∈ vlist t
 | [],x,h,h2=>by simp at h
 | y :: t,x,h,h2=>by
  simp only [vlist,List.mem_append]
  rcases List.mem_cons.1 h with rfl | h
  ·left;rw [if_pos h2];simp
  ·exact .inr (vlist_mem t x h h2)
theorem readsCh_mem:∀ (l:List Chg) (x:Chg) (v:Int),x ∈ l->v ∈ vlist x.by1->v ∈ readsCh l
 | [],x,v,h,hv=>by simp at h
 | y :: l,x,v,h,hv=>by
  simp only [readsCh,List.mem_append]
  rcases List.mem_cons.1 h with rfl | h
  ·exact .inl hv
  ·exact .inr (readsCh_mem l x v h hv)
theorem readsOf_mem (c:Cmd) (v:Int):v ∈ readsOf c ↔ v ∈ vlist c.wh ∨ v ∈ readsCh c.ch:=by
 rw [readsOf,(putAllI_spec _ [] List.Pairwise.nil).2]
 simp [List.mem_append]
theorem meetI_false {a b:List Int} (h:meetI a b = false):∀ x ∈ a,x ∉ b:=by
 intro x hx hb
 have:meetI a b = true:=by
  simp only [meetI,List.any_eq_true]
  exact ⟨x,hx,by simpa using hb⟩
 rw [h] at this
 cases this
theorem afterS_length (wide:Int) (s:List W):∀ (ch:List Chg) (o:List W),(afterS wide s ch o).length = o.length
 | [],o=>rfl
 | x :: l,o=>by
  have:=afterS_length wide s l (o.set x.v.toNat (valD wide s x.by1))
  simpa [afterS] using this
theorem afterS_get (wide:Int) (s:List W) (i:Nat):∀ (ch:List Chg) (o:List W),(∀ x ∈ ch,x.v.toNat ≠ i)->(afterS wide s ch o)[i]? = o[i]?
 | [],o,h=>rfl
 | x :: l,o,h=>by
  have:=afterS_get wide s i l (o.set x.v.toNat (valD wide s x.by1)) fun y hy=>h y (by simp [hy])
  rw [List.getElem?_set_ne (h x (by simp))] at this
  exact this
theorem afterS_all {wide vars:Int} {s:List W} (hs:(s.length:Int) = vars) (hg:∀ a ∈ s,a<=mk wide):∀ (ch:List Chg) (o:List W),(∀ x ∈ ch,kindT wide vars x.by1 = 1)->(∀ a ∈ o,a<=mk wide)->∀ a ∈ afterS wide s ch o,a<=mk wide
 | [],o,hx,ho=>ho
 | x :: l,o,hx,ho=>by
  obtain ⟨_,h2⟩:=kind_val (hx x (by simp)) (by omega) hs hg
  have h3:valD wide s x.by1<=mk wide:=by rcases h2 with h | h;exact h.2;exact absurd h.1 (by omega)
  refine afterS_all hs hg l (o.set x.v.toNat (valD wide s x.by1)) (fun y hy=>hx y (by simp [hy])) fun a ha=>?_
  rcases List.mem_or_eq_of_mem_set ha with h4 | h4
  ·exact ho a h4
  ·rw [h4];exact h3
theorem afterS_set (wide:Int) (s:List W) (i:Nat) (a:W):∀ (ch:List Chg) (o:List W),(∀ x ∈ ch,x.v.toNat ≠ i)->afterS wide s ch (o.set i a) = (afterS wide s ch o).set i a
 | [],o,h=>rfl
 | x :: l,o,h=>by
  have:=afterS_set wide s i a l (o.set x.v.toNat (valD wide s x.by1)) fun y hy=>h y (by simp [hy])
  simp only [afterS,List.foldl_cons] at this ⊢
  rw [List.set_comm _ _ (Ne.symm (h x (by simp)))]
  exact this
theorem afterS_comm (wide:Int) (s:List W) (c2:List Chg):∀ (c1:List Chg) (o:List W),(∀ x ∈ c1,∀ y ∈ c2,y.v.toNat ≠ x.v.toNat)->afterS wide s c2 (afterS wide s c1 o) = afterS wide s c1 (afterS wide s c2 o)
 | [],o,h=>rfl
 | x :: l,o,h=>by
  have:=afterS_comm wide s c2 l (o.set x.v.toNat (valD wide s x.by1)) fun y hy=>h y (by simp [hy])
  rw [afterS_set wide s _ _ c2 o (h x (by simp))] at this
  exact this
theorem afterS_vals {wide:Int} {s s':List W}:∀ (ch:List Chg) (o:List W),(∀ x ∈ ch,valD wide s x.by1 = valD wide s' x.by1)->afterS wide s ch o = afterS wide s' ch o
 | [],o,h=>rfl
 | x :: l,o,h=>by
  have:=afterS_vals (wide:=wide) (s:=s) (s':=s') l (o.set x.v.toNat (valD wide s x.by1)) fun y hy=>h y (by simp [hy])
  simp only [afterS,List.foldl_cons] at this ⊢
  rw [this,h x (by simp)]
theorem apart_val {p:Prg} (hp:FitP p) {k1 m1:Int} (hk:tOK p k1 = true) (hm:tOK p m1 = true) (h:meetI (writesOf (cmdAt p k1)) (readsOf (cmdAt p m1)) = false) (s:List W) {t:List Nd} (hg:goodT p.wide p.vars t = true) (hr:∀ v ∈ vlist t,v ∈ readsOf (cmdAt p m1)) :
  valD p.wide (afterS p.wide s (cmdAt p k1).ch s) t = valD p.wide s t:=by
 obtain ⟨hw,hv,_,_,_,_,hx⟩:=good_cmd hp hk
 have hv':=isV_iff.1 hv
 unfold valD
 rw [vrun_agree (s:=afterS p.wide s (cmdAt p k1).ch s) (s':=s) t [] fun x hxt h2=>?_]
 have hlt:=goodT_vars hg x hxt h2
 refine afterS_get p.wide s _ _ _ fun y hy e=>?_
 have h3:=vlist_mem t x hxt h2
 have h4:IntKind.i64.wrap (wi x.2) = (x.2.toNat:Int):=by unfold wi;exact i64_id (by omega) (by omega)
 rw [h4] at h3
 have h5:=meetI_false h y.v (List.mem_map.2 ⟨y,hy,rfl⟩)
 have h6:y.v = (x.2.toNat:Int):=by have:=(hx y hy).1;omega
 rw [h6] at h5
 exact h5 (hr _ h3)
theorem commute {p:Prg} (hp:FitP p) {k1 m1:Int} (hk:tOK p k1 = true) (hm:tOK p m1 = true) (ha:apart p k1 m1 = true) {s:List W} (h1:stepO p k1 s = true) (h2:stepO p m1 s = true) :
  stepO p m1 (stepT p k1 s) = true /\ stepO p k1 (stepT p m1 s) = true /\ stepT p m1 (stepT p k1 s) = stepT p k1 (stepT p m1 s):=by
 simp only [apart,Bool.and_eq_true,Bool.not_eq_true'] at ha
 obtain ⟨a1,a2,a3⟩:=ha
 obtain ⟨hw,hv,_,_,hfk,hkk,hxk⟩:=good_cmd hp hk
 obtain ⟨_,_,_,_,hfm,hkm,hxm⟩:=good_cmd hp hm
 have ek:stepT p k1 s = afterS p.wide s (cmdAt p k1).ch s:=by unfold stepT;rw [h1];rfl
 have em:stepT p m1 s = afterS p.wide s (cmdAt p m1).ch s:=by unfold stepT;rw [h2];rfl
 simp only [stepO,Bool.and_eq_true] at h1 h2
 obtain ⟨hs,hg⟩:=(stOK_of hw).1 h1.1
 have oks:∀ ch:List Chg,(∀ x ∈ ch,kindT p.wide p.vars x.by1 = 1)->stOK p (afterS p.wide s ch s) = true:=fun ch hc=>(stOK_of hw).2 ⟨by rw [afterS_length];exact hs,afterS_all hs hg ch s hc hg⟩
 have okk:=oks _ fun x h=>(hxk x h).2.2
 have okm:=oks _ fun x h=>(hxm x h).2.2
 have vm:=fun t hg hr=>apart_val hp hk hm a1 s (t:=t) hg hr
 have vk:=fun t hg hr=>apart_val hp hm hk a3 s (t:=t) hg hr
 have hwm:=vm (cmdAt p m1).wh (kind_good (by omega)) fun v hv=>(readsOf_mem _ _).2 (.inl hv)
 have hwk:=vk (cmdAt p k1).wh (kind_good (by omega)) fun v hv=>(readsOf_mem _ _).2 (.inl hv)
 have hbm:∀ x ∈ (cmdAt p m1).ch,valD p.wide (afterS p.wide s (cmdAt p k1).ch s) x.by1 = valD p.wide s x.by1:=fun x hx=>vm x.by1 (kind_good (by have:=(hxm x hx).2.2;omega)) fun v hv=>(readsOf_mem _ _).2 (.inr (readsCh_mem _ x v hx hv))
 have hbk:∀ x ∈ (cmdAt p k1).ch,valD p.wide (afterS p.wide s (cmdAt p m1).ch s) x.by1 = valD p.wide s x.by1:=fun x hx=>vk x.by1 (kind_good (by have:=(hxk x hx).2.2;omega)) fun v hv=>(readsOf_mem _ _).2 (.inr (readsCh_mem _ x v hx hv))
 have o1:stepO p m1 (stepT p k1 s) = true:=by
  rw [ek,stepO,okk,Bool.true_and,holdC,hwm]
  exact h2.2
 have o2:stepO p k1 (stepT p m1 s) = true:=by
  rw [em,stepO,okm,Bool.true_and,holdC,hwk]
  exact h1.2
 refine ⟨o1,o2,?_⟩
 unfold stepT at o1 o2 ⊢
 rw [show (bif stepO p m1 (bif stepO p k1 s then afterS p.wide s (cmdAt p k1).ch s else []) then _ else []) = afterS p.wide (bif stepO p k1 s then afterS p.wide s (cmdAt p k1).ch s else []) (cmdAt p m1).ch (bif stepO p k1 s then afterS p.wide s (cmdAt p k1).ch s else []) by rw [o1];rfl]
 rw [show (bif stepO p k1 (bif stepO p m1 s then afterS p.wide s (cmdAt p m1).ch s else []) then _ else []) = afterS p.wide (bif stepO p m1 s then afterS p.wide s (cmdAt p m1).ch s else []) (cmdAt p k1).ch (bif stepO p m1 s then afterS p.wide s (cmdAt p m1).ch s else []) by rw [o2];rfl]
 have ek':(bif stepO p k1 s then afterS p.wide s (cmdAt p k1).ch s else []) = afterS p.wide s (cmdAt p k1).ch s:=ek
 have em':(bif stepO p m1 s then afterS p.wide s (cmdAt p m1).ch s else []) = afterS p.wide s (cmdAt p m1).ch s:=em
 rw [ek',em',afterS_vals _ _ hbm,afterS_vals _ _ hbk]
 refine afterS_comm p.wide s _ _ s fun x hx y hy e=>?_
 have h5:=meetI_false a2 x.v (List.mem_map.2 ⟨x,hx,rfl⟩)
 have h6:x.v = y.v:=by have:=(hxk x hx).1;have:=(hxm y hy).1;omega
 exact h5 (h6 ▸ List.mem_map.2 ⟨y,hy,rfl⟩)
end Go.Proofs.YthoecdnmokcfbaaGreat
/- The reference's values of terms: by the tree of a node. -/
set_option linter.unusedVariables false
set_option linter.unusedSimpArgs false
set_option maxRecDepth 4000
namespace Go.Proofs.YthoecdnmokcfbaaGreat
open Go.Dp
theorem mk_cut {wide:Int} (hw:isW wide = true) {a:W} (h:a<=mk wide):a &&& mk wide = a:=by
 have h':=isW_iff.1 hw
 exact (cut_eq_iff (by omega) a).2 h
theorem le_of_cut {wide:Int} (hw:isW wide = true) {a:W} (h:a &&& mk wide = a):a<=mk wide:=by
 have h':=isW_iff.1 hw
 exact (cut_eq_iff (by omega) a).1 h
theorem bit_mk {wide:Int} (hw:isW wide = true) (i:Nat):(mk wide).getLsbD i = decide (i < wide.toNat):=by
 have h':=isW_iff.1 hw
 exact maskB_lsb (by omega) i
theorem or_cut {wide:Int} (hw:isW wide = true) {a b:W} (ha:a<=mk wide) (hb:b<=mk wide):(a ||| b) &&& mk wide = a ||| b:=by
 have h1:=mk_cut hw ha
 have h2:=mk_cut hw hb
 rw [BitVec.and_comm,BitVec.and_or_distrib_left,BitVec.and_comm _ a,BitVec.and_comm _ b,h1,h2]
theorem xor_cut {wide:Int} (hw:isW wide = true) {a b:W} (ha:a<=mk wide) (hb:b<=mk wide):(a ^^^ b) &&& mk wide = a ^^^ b:=by
 have h1:=mk_cut hw ha
 have h2:=mk_cut hw hb
 apply BitVec.eq_of_getLsbD_eq
 intro i hi
 have b1:=congrArg (fun x=>x.getLsbD i) h1
 have b2:=congrArg (fun x=>x.getLsbD i) h2
 simp only [BitVec.getLsbD_and,BitVec.getLsbD_xor] at b1 b2 ⊢
 revert b1 b2
 cases a.getLsbD i <;> cases b.getLsbD i <;> cases (mk wide).getLsbD i <;> simp
theorem shl_step {wide:Int} (hw:isW wide = true) (a:W) (j:Nat):(((a <<< 1) &&& mk wide) <<< j) &&& mk wide = (a <<< (j + 1)) &&& mk wide:=by
 apply BitVec.eq_of_getLsbD_eq
 intro i hi
 simp only [BitVec.getLsbD_and,BitVec.getLsbD_shiftLeft,bit_mk hw]
 by_cases h1:i < wide.toNat
 ·by_cases h2:i < j
  ·have:i < j + 1:=by omega
   simp [h2,this]
  ·by_cases h3:i = j
   ·subst h3
    simp
   ·have e1:i - j - 1 = i - (j + 1):=by omega
    have h4:¬ i < j + 1:=by omega
    have h5:¬ i - j < 1:=by omega
    have h6:i - j < wide.toNat:=by omega
    have h7:i - j < 64:=by omega
    simp [h1,h2,h4,h5,h6,h7,hi,e1]
 ·simp [h1]
theorem cut_idem {wide:Int} (hw:isW wide = true) (a:W):(a &&& mk wide) &&& mk wide = a &&& mk wide:=by rw [BitVec.and_assoc,BitVec.and_self]
def sg (wide:Int) (a:W):Int:=if a.toNat < 2 ^ (wide.toNat - 1) then (a.toNat:Int) else (a.toNat:Int) - 2 ^ wide.toNat
theorem wrap_hi {x:Int} (h1:9223372036854775808<=x) (h2:x < 18446744073709551616):IntKind.i64.wrap x = x - 18446744073709551616:=by
 unfold IntKind.wrap
 simp [IntKind.signed,IntKind.bits]
 omega
theorem mk_toNat {wide:Int} (hw:isW wide = true):(mk wide).toNat = 2 ^ wide.toNat - 1:=by
 have h':=isW_iff.1 hw
 exact maskB_toNat (by omega)
theorem word_lt {wide:Int} (hw:isW wide = true) {a:W} (ha:a<=mk wide):a.toNat < 2 ^ wide.toNat:=by
 have h1:=mk_toNat hw
 rw [BitVec.le_def] at ha
 have:=Nat.two_pow_pos wide.toNat
 omega
theorem pow_parts {wide:Int} (hw:isW wide = true):∃ w:Nat,wide = ((w + 1:Nat):Int) /\ w<=63 /\ wide.toNat = w + 1 /\ wide.toNat - 1 = w:=by
 have h':=isW_iff.1 hw
 exact ⟨wide.toNat - 1,by omega,by omega,by omega,rfl⟩
theorem sgn_sg {wide:Int} (hw:isW wide = true) {a:W} (ha:a<=mk wide):sgn wide a = sg wide a:=by
 have hlt:=word_lt hw ha
 obtain ⟨w,rfl,hw63,e1,e2⟩:=pow_parts hw
 unfold sgn sg
 rw [e2,e1] at *
 have hd:(64 - ((w + 1:Nat):Int)).toNat = 63 - w:=by omega
 have hmul:2 ^ (w + 1) * 2 ^ (63 - w) = 18446744073709551616:=by rw [<- Nat.pow_add,show w + 1 + (63 - w) = 64 by omega]
 have hmul2:2 ^ w * 2 ^ (63 - w) = 9223372036854775808:=by rw [<- Nat.pow_add,show w + (63 - w) = 63 by omega]
 have hp:=Nat.two_pow_pos (63 - w)
 have hb:a.toNat * 2 ^ (63 - w) < 18446744073709551616:=by rw [<- hmul];exact Nat.mul_lt_mul_of_pos_right hlt hp
 have hs:(a <<< (63 - w)).toNat = a.toNat * 2 ^ (63 - w):=by
  rw [BitVec.toNat_shiftLeft,Nat.shiftLeft_eq,Nat.mod_eq_of_lt (by simpa using hb)]
 have hy:min (64 - ((w + 1:Nat):Int)).toNat 64 = 63 - w:=by omega
 unfold shrI
 rw [hd,show min (63 - w) IntKind.i64.bits = 63 - w from Nat.min_eq_left (by show 63 - w<=64;omega)]
 have hwi:wi (a <<< (63 - w)) = ((a.toNat * 2 ^ (63 - w):Nat):Int):=by unfold wi;rw [hs]
 have hpc:(2:Int) ^ (63 - w) = ((2 ^ (63 - w):Nat):Int):=by simp
 rw [hwi,hpc]
 by_cases h:a.toNat < 2 ^ w
 ·have hc:a.toNat * 2 ^ (63 - w) < 9223372036854775808:=by rw [<- hmul2];exact Nat.mul_lt_mul_of_pos_right h hp
  rw [if_pos h,i64_id (by omega) (by omega),Int.fdiv_eq_ediv_of_nonneg _ (Int.natCast_nonneg _),<- Int.natCast_ediv,Nat.mul_div_cancel _ hp]
 ·have hc:9223372036854775808<=a.toNat * 2 ^ (63 - w):=by rw [<- hmul2];exact Nat.mul_le_mul_right _ (by omega)
  rw [if_neg h,wrap_hi (by omega) (by omega)]
  have e3:((a.toNat * 2 ^ (63 - w):Nat):Int) - 18446744073709551616 = ((a.toNat:Int) - ((2 ^ (w + 1):Nat):Int)) * ((2 ^ (63 - w):Nat):Int):=by
   rw [Int.sub_mul,<- Int.natCast_mul,<- Int.natCast_mul,hmul]
   rfl
  rw [e3,Int.mul_fdiv_cancel _ (by omega)]
  simp
theorem or_hi {wide:Int} (hw:isW wide = true) {a:W} (ha:a<=mk wide):(a ||| ~~~mk wide).toNat = a.toNat + (18446744073709551616 - 2 ^ wide.toNat):=by
 have hz:a &&& ~~~mk wide = 0#64:=by
  have h1:=mk_cut hw ha
  apply BitVec.eq_of_getLsbD_eq
  intro i hi
  have b1:=congrArg (fun x=>x.getLsbD i) h1
  simp only [BitVec.getLsbD_and,BitVec.getLsbD_not,hi,decide_true,Bool.true_and] at b1 ⊢
  revert b1
  cases a.getLsbD i <;> cases (mk wide).getLsbD i <;> simp
 rw [<- BitVec.add_eq_or_of_and_eq_zero _ _ hz,BitVec.toNat_add,BitVec.toNat_not,mk_toNat hw]
 have h1:=word_lt hw ha
 have h':=isW_iff.1 hw
 have h2:2 ^ wide.toNat<=2 ^ 64:=Nat.pow_le_pow_right (by omega) (by omega)
 have h3:=Nat.two_pow_pos wide.toNat
 rw [Nat.mod_eq_of_lt]
 ·omega
 ·omega
theorem top_bit {wide:Int} (hw:isW wide = true) {a:W} (ha:a<=mk wide):((a >>> (wide.toNat - 1)) &&& 1#64 == 1#64) = !decide (a.toNat < 2 ^ (wide.toNat - 1)):=by
 have hlt:=word_lt hw ha
 obtain ⟨w,rfl,hw63,e1,e2⟩:=pow_parts hw
 rw [e2]
 rw [e1,Nat.pow_succ] at hlt
 have hp:=Nat.two_pow_pos w
 have hn:((a >>> w) &&& 1#64).toNat = a.toNat / 2 ^ w % 2:=by
  rw [BitVec.toNat_and,BitVec.toNat_ushiftRight,Nat.shiftRight_eq_div_pow]
  exact Nat.and_one_is_mod _
 by_cases h:a.toNat < 2 ^ w
 ·rw [Nat.div_eq_of_lt h] at hn
  have:(a >>> w) &&& 1#64 ≠ 1#64:=fun e=>by rw [e] at hn;simp at hn
  simp [h,this]
 ·have hq:a.toNat / 2 ^ w = 1:=by
   apply Nat.div_eq_of_lt_le <;> omega
  rw [hq] at hn
  have:(a >>> w) &&& 1#64 = 1#64:=BitVec.eq_of_toNat_eq hn
  simp [h,this]
theorem both_ok {k:Nat} (hk:90<=k) (wide:Int) (a b:W):c233 k wide (wi a) (wi b) = r233 (goodW wide a && goodW wide b):=by
 obtain ⟨k,rfl⟩:∃ j,k = j + 1:=⟨k - 1,by omega⟩
 rw [n233,goodWordS_ok (by omega),goodWordS_ok (by omega)]
 simp only [R218_r]
 cases goodW wide a <;> rfl
theorem cutM_ok {k:Nat} (hk:70<=k) {wide:Int} (hw:isW wide = true) (a:W):c198 k wide (wi a) = r198 (wi (a &&& mk wide)):=by
 have h':=isW_iff.1 hw
 exact cut_ok hk (by omega) h'.2 a
theorem divS_ok {k:Nat} (hk:100<=k) {wide:Int} (hw:isW wide = true) (a b:W):c220 k wide (wi a) (wi b) = r220 (wi (divW wide a b).1) (wi (divW wide a b).2) (goodW wide a && goodW wide b):=by
 obtain ⟨k,rfl⟩:∃ j,k = j + 1:=⟨k - 1,by omega⟩
 rw [n220,both_ok (by omega)]
 simp only [R233_r]
 unfold divW
 cases h1:(goodW wide a && goodW wide b)
 ·rfl
 ·simp only [Bool.not_true,cond_false,if_true]
  by_cases hb:b = 0#64
  ·subst hb
   have e:(wi 0#64 == 0) = true:=rfl
   have e2:(18446744073709551615:Int) = wi (BitVec.allOnes 64):=rfl
   simp only [e,cond_true,if_true]
   rw [e2,cutM_ok (by omega) hw]
   simp only [R198_r]
   rw [BitVec.allOnes_and]
  ·have h2:(wi b == 0) = false:=by
    have e:(0:Int) = wi 0#64:=rfl
    rw [e,wi_beq];simpa using hb
   simp only [h2,cond_false,cond_true,Bool.not_false,hb,if_false]
   have e1:(wi a).tdiv (wi b) = wi (a / b):=by
    unfold wi
    rw [Int.tdiv_eq_ediv_of_nonneg (by omega),BitVec.toNat_udiv,Int.natCast_ediv]
   have e2:(wi a).tmod (wi b) = wi (a % b):=by
    unfold wi
    rw [Int.tmod_eq_emod_of_nonneg (by omega),BitVec.toNat_umod,Int.natCast_emod]
   rw [e1,e2,wrap_wi]
theorem shiftS_loop {k:Nat} (hk:80<=k) {wide:Int} (hw:isW wide = true) (left:Bool):∀ (n j:Nat) (a:W),j < n->j<=64->a<=mk wide->L221_1 k n wide (wi a) (j:Int) left = r221 (wi (if left then (a <<< j) &&& mk wide else a >>> j))
 | 0,j,a,h,hj,ha=>by omega
 | n + 1,j,a,h,hj,ha=>by
  rw [sL221_1]
  cases j with
  | zero =>
   have hd:decide (((0:Nat):Int) > 0) = false:=by simp
   rw [hd]
   simp only [cond_false]
   congr 2
   cases left
   ·simp
   ·simp [mk_cut hw ha]
  | succ j =>
   have hd:decide (((j + 1:Nat):Int) > 0) = true:=by (simp;try omega)
   rw [hd,u64_id (by omega) (by omega),show ((j + 1:Nat):Int) - 1 = (j:Int) by omega]
   simp only [cond_true]
   cases left
   ·simp only [cond_false,Bool.false_eq_true,if_false]
    rw [shr_wi _ (by omega)]
    have e1:(1:Int).toNat = 1:=rfl
    rw [e1]
    have hle:a >>> 1<=mk wide:=by
     refine BitVec.le_trans ?_ ha
     rw [BitVec.le_def,BitVec.toNat_ushiftRight,Nat.shiftRight_eq_div_pow]
     exact Nat.div_le_self _ _
    rw [shiftS_loop hk hw false n j (a >>> 1) (by omega) (by omega) hle]
    simp only [Bool.false_eq_true,if_false]
    congr 2
    rw [<- BitVec.shiftRight_add,Nat.add_comm]
   ·simp only [cond_true,if_true]
    rw [shl_wi _ (by omega)]
    have e1:(1:Int).toNat = 1:=rfl
    rw [e1,cutM_ok (by omega) hw]
    simp only [R198_r]
    rw [shiftS_loop hk hw true n j _ (by omega) (by omega) (and_le_right' _ _)]
    simp only [if_true]
    rw [shl_step hw]
theorem shiftS_ok {k:Nat} (hk:100<=k) {wide:Int} (hw:isW wide = true) (a b:W) (left:Bool) (ha:a<=mk wide):c221 k wide (wi a) (wi b) left = r221 (wi (shW wide a b left &&& mk wide)):=by
 obtain ⟨k,rfl⟩:∃ j,k = j + 1:=⟨k - 1,by omega⟩
 have h':=isW_iff.1 hw
 rw [n221,u64_id (by omega) (by omega)]
 unfold shW
 by_cases h1:wide<=wi b
 ·have:decide (wi b>=wide) = true:=by simpa using h1
  rw [this,if_pos h1]
  simp only [cond_true]
  have e:(0#64:W) &&& mk wide = 0#64:=by simp
  rw [e]
  rfl
 ·have h2:decide (wi b>=wide) = false:=by simpa using h1
  rw [h2,if_neg h1]
  simp only [cond_false]
  have hb:b.toNat<=64:=by unfold wi at h1;omega
  have:=shiftS_loop (k:=k) (by omega) hw left k b.toNat a (by omega) hb ha
  have e:wi b = (b.toNat:Int):=rfl
  rw [e,this]
  congr 2
  cases left
  ·simp only [Bool.false_eq_true,if_false]
   refine (mk_cut hw (BitVec.le_trans ?_ ha)).symm
   rw [BitVec.le_def,BitVec.toNat_ushiftRight,Nat.shiftRight_eq_div_pow]
   exact Nat.div_le_self _ _
  ·simp only [if_true]
   rw [cut_idem hw]
theorem signedS_ok {k:Nat} (hk:100<=k) {wide:Int} (hw:isW wide = true) (a:W) (ha:a<=mk wide):c223 k wide (wi a) = r223 (sg wide a):=by
 obtain ⟨k,rfl⟩:∃ j,k = j + 1:=⟨k - 1,by omega⟩
 have h':=isW_iff.1 hw
 have hlt:=word_lt hw ha
 rw [n223,i64_id (n:=wide - 1) (by omega) (by omega),u64_id (n:=wide - 1) (by omega) (by omega)]
 have h3:decide (wide - 1 < 0) = false:=by simp;omega
 rw [h3]
 simp only [Bool.not_false,cond_true]
 have e1:(1:Int) = wi 1#64:=rfl
 have e2:(18446744073709551615:Int) = wi (BitVec.allOnes 64):=rfl
 have e3:(wide - wi 1#64).toNat = wide.toNat - 1:=by
  have:wi 1#64 = 1:=rfl
  omega
 rw [e1,shr_wi _ (by rw [<- e1];omega),and_wi,wi_beq,e3,top_bit hw ha]
 unfold sg
 by_cases h:a.toNat < 2 ^ (wide.toNat - 1)
 ·simp only [h,decide_true,Bool.not_true,cond_false,if_true]
  have hp:2 ^ (wide.toNat - 1)<=2 ^ 63:=Nat.pow_le_pow_right (by omega) (by omega)
  have e4:wi a = (a.toNat:Int):=rfl
  rw [e4,i64_id (by omega) (by omega)]
 ·simp only [h,decide_false,Bool.not_false,cond_true,if_false]
  rw [e2,cutM_ok (by omega) hw]
  simp only [R198_r]
  rw [BitVec.allOnes_and,xor_wi,BitVec.allOnes_xor,or_wi]
  have e4:wi (a ||| ~~~mk wide) = ((a.toNat + (18446744073709551616 - 2 ^ wide.toNat):Nat):Int):=by unfold wi;rw [or_hi hw ha]
  have hp:2 ^ wide.toNat<=2 ^ 64:=Nat.pow_le_pow_right (by omega) (by omega)
  have hp2:2 ^ wide.toNat = 2 * 2 ^ (wide.toNat - 1):=by
   obtain ⟨w,rfl,hw63,e5,e6⟩:=pow_parts hw
   rw [e6,e5,Nat.pow_succ,Nat.mul_comm]
  have hp3:2 ^ (wide.toNat - 1)<=2 ^ 63:=Nat.pow_le_pow_right (by omega) (by omega)
  have hpc:(2:Int) ^ wide.toNat = ((2 ^ wide.toNat:Nat):Int):=by simp
  rw [e4,wrap_hi (by omega) (by omega),hpc]
  congr 1
  omega
theorem boolS_ok {k:Nat} (hk:1<=k) (b:Bool):c222 k b = r222 (wi (tr b)):=by
 obtain ⟨k,rfl⟩:∃ j,k = j + 1:=⟨k - 1,by omega⟩
 rw [n222]
 cases b <;> rfl
theorem tr_cut {wide:Int} (hw:isW wide = true) (b:Bool):tr b &&& mk wide = tr b:=by
 refine mk_cut hw (BitVec.le_trans (tr_le b) ?_)
 have h1:=mk_toNat hw
 have h':=isW_iff.1 hw
 have:2 ^ 1<=2 ^ wide.toNat:=Nat.pow_le_pow_right (by omega) (by omega)
 have h2:(1#64).toNat = 1:=rfl
 rw [BitVec.le_def]
 omega
theorem divW_le {wide:Int} (hw:isW wide = true) {a b:W} (ha:a<=mk wide) (hb:b<=mk wide):(divW wide a b).1<=mk wide /\ (divW wide a b).2<=mk wide:=by
 unfold divW
 split
 ·split
  ·exact ⟨BitVec.le_refl _,ha⟩
  ·refine ⟨BitVec.le_trans ?_ ha,BitVec.le_trans ?_ ha⟩
   ·rw [BitVec.le_def,BitVec.toNat_udiv];exact Nat.div_le_self _ _
   ·rw [BitVec.le_def,BitVec.toNat_umod];exact Nat.mod_le _ _
 ·exact ⟨by rw [BitVec.le_def];exact Nat.zero_le _,by rw [BitVec.le_def];exact Nat.zero_le _⟩
theorem l2Do_ok {k:Nat} (hk:200<=k) {wide:Int} (hw:isW wide = true) (op:Int) (a b:W) (ha:a<=mk wide) (hb:b<=mk wide):c199 k wide op (wi a) (wi b) = r199 (wi (apW wide op a b)):=by
 obtain ⟨k,rfl⟩:∃ j,k = j + 1:=⟨k - 1,by omega⟩
 rw [n199]
 have hd:=divS_ok (k:=k) (by omega) hw a b
 have hcut:=fun x:W=>cutM_ok (k:=k) (by omega) hw x
 have hs:=fun l=>shiftS_ok (k:=k) (by omega) hw a b l ha
 have ht:=fun x=>boolS_ok (k:=k) (by omega) x
 have hga:=signedS_ok (k:=k) (by omega) hw a ha
 have hgb:=signedS_ok (k:=k) (by omega) hw b hb
 obtain ⟨hd1,hd2⟩:=divW_le hw ha hb
 simp only [hd,hs,ht,hga,hgb,R220_r,R221_r,R222_r,R223_r,add_wi,sub_wi,mul_wi,and_wi,or_wi,xor_wi,wi_beq,wi_lt_iff,hcut,R198_r]
 unfold apW apRaw
 have q:∀ {c d:Int},c ≠ d->(c == d) = false:=fun h=>by simpa using h
 by_cases h1:op = 3
 · subst h1;rfl
 by_cases h2:op = 4
 · subst h2;rfl
 by_cases h3:op = 5
 · subst h3;rfl
 by_cases h4:op = 6
 · subst h4;show r199 _ = r199 (wi ((divW wide a b).1 &&& mk wide));rw [mk_cut hw hd1]
 by_cases h5:op = 7
 · subst h5;show r199 _ = r199 (wi ((divW wide a b).2 &&& mk wide));rw [mk_cut hw hd2]
 by_cases h6:op = 8
 · subst h6;show r199 _ = r199 (wi ((a &&& b) &&& mk wide));rw [mk_cut hw (BitVec.le_trans (and_le_left' a b) ha)]
 by_cases h7:op = 17
 · subst h7;show r199 _ = r199 (wi ((a &&& b) &&& mk wide));rw [mk_cut hw (BitVec.le_trans (and_le_left' a b) ha)]
 by_cases h8:op = 9
 · subst h8;show r199 _ = r199 (wi ((a ||| b) &&& mk wide));rw [or_cut hw ha hb]
 by_cases h9:op = 18
 · subst h9;show r199 _ = r199 (wi ((a ||| b) &&& mk wide));rw [or_cut hw ha hb]
 by_cases h10:op = 10
 · subst h10;show r199 _ = r199 (wi ((a ^^^ b) &&& mk wide));rw [xor_cut hw ha hb]
 by_cases h11:op = 11
 · subst h11;rfl
 by_cases h12:op = 12
 · subst h12;rfl
 by_cases h13:op = 14
 · subst h13;show r199 _ = r199 (wi (tr (a == b) &&& mk wide));rw [tr_cut hw]
 by_cases h14:op = 15
 · subst h14;show r199 _ = r199 (wi (tr (decide (a < b)) &&& mk wide));rw [tr_cut hw]
 by_cases h15:op = 16
 · subst h15;show r199 _ = r199 (wi (tr (decide (sgn wide a < sgn wide b)) &&& mk wide));rw [tr_cut hw,sgn_sg hw ha,sgn_sg hw hb]
 simp only [q h1,q h2,q h3,q h4,q h5,q h6,q h7,q h8,q h9,q h10,q h11,q h12,q h13,q h14,q h15,cond_false,h1,h2,h3,h4,h5,h6,h7,h8,h9,h10,h11,h12,h13,h14,h15,if_false]
 have e:(0#64:W) &&& mk wide = 0#64:=by simp
 rw [e]
 rfl
theorem kst_need {wide vars:Int}:∀ {t:List Nd} {st st':List Int},kst wide vars t st = some st'->∀ x ∈ t,(need x.1).2.2 ≠ 0
 | [],st,st',h=>by simp
 | x :: t,st,st',h=>by
  simp only [kst] at h
  split at h
  ·cases h
  ·rename_i h0
   split at h
   ·cases h
   ·split at h
    ·cases h
    ·split at h
     ·cases h
     ·intro y hy
      rcases List.mem_cons.1 hy with rfl | hy
      ·exact h0
      ·exact kst_need h y hy
theorem need_cases {op:Int} (h:(need op).2.2 ≠ 0):((op = 1 ∨ op = 20) /\ (need op).1 = 0) ∨ (op = 2 /\ (need op).1 = 0) ∨ ((op = 13 ∨ op = 19) /\ (need op).1 = 1) ∨ (op ≠ 1 /\ op ≠ 20 /\ op ≠ 2 /\ op ≠ 13 /\ op ≠ 19 /\ (need op).1 = 2):=by
 by_cases h1:op = 1
 ·subst h1;exact .inl ⟨.inl rfl,rfl⟩
 by_cases h20:op = 20
 ·subst h20;exact .inl ⟨.inr rfl,by decide⟩
 by_cases h2:op = 2
 ·subst h2;exact .inr (.inl ⟨rfl,by decide⟩)
 by_cases h13:op = 13
 ·subst h13;exact .inr (.inr (.inl ⟨.inl rfl,by decide⟩))
 by_cases h19:op = 19
 ·subst h19;exact .inr (.inr (.inl ⟨.inr rfl,by decide⟩))
 refine .inr (.inr (.inr ⟨h1,h20,h2,h13,h19,?_⟩))
 unfold need at h ⊢
 rw [if_neg (by omega),if_neg h20,if_neg h13,if_neg h19] at h ⊢
 split
 ·rfl
 ·split
  ·rfl
  ·split
   ·rfl
   ·rename_i b1 b2 b3
    rw [if_neg b1,if_neg b2,if_neg b3] at h
    exact absurd rfl h
theorem Fit.le {wide:Int} (hw:isW wide = true) {ks:List Int} {vs:List W} (h:Fit wide ks vs):∀ v ∈ vs,v<=mk wide:=by
 induction h with
 | nil=>simp
 | cons ho _ ih =>
  intro v hv
  rcases List.mem_cons.1 hv with rfl | hv
  ·rcases ho with ho | ho
   ·exact ho.2
   ·refine BitVec.le_trans ho.2 ?_
    exact le_of_cut hw (by
     have:=tr_cut hw true
     simpa [tr] using this)
  ·exact ih v hv
theorem good_prefix {wide vars:Int} {t:List Nd} (h:goodT wide vars t = true) {s:List W} (hs:(s.length:Int) = vars) (hg:∀ a ∈ s,a<=mk wide):(∀ x ∈ t,(need x.1).2.2 ≠ 0) /\ ∀ (j:Nat) (us:List W),vrun wide s (t.take j) [] = some us->∀ u ∈ us,u<=mk wide:=by
 obtain ⟨hsz,c,hk,hc⟩:=goodT_iff.1 h
 have hw:isW wide = true:=by simp only [sizeT,Bool.and_eq_true] at hsz;exact hsz.1.1.1
 have hv:isV vars = true:=by simp only [sizeT,Bool.and_eq_true] at hsz;exact hsz.1.1.2
 refine ⟨kst_need hk,fun j us hus=>?_⟩
 rw [<- List.take_append_drop j t,kst_app] at hk
 obtain ⟨ks,h1,h2⟩:=Option.bind_eq_some_iff.1 hk
 obtain ⟨vs',h3,hf⟩:=run_fit hw hv hs hg h1 .nil
 rw [hus] at h3
 injection h3 with h3
 subst h3
 exact hf.le hw
theorem node_ok {wide vars:Int} {t:List Nd} (hgt:goodT wide vars t = true) {s:List W} (hs:(s.length:Int) = vars) (hg:∀ a ∈ s,a<=mk wide) (ht:t.length<=100) (hw:isW wide = true) (hv:isV vars = true):∀ (m j:Nat),j < m->j < t.length->∀ (v:W) (vs:List W),vrun wide s (t.take (j + 1)) [] = some (v :: vs) ->
  ∃ f,f<=j /\ vrun wide s (t.take f) [] = some vs /\ (∀ k,300 + j<=k->c200 k (encT t) (j:Int) = r200 (f:Int)) /\ ∀ k,300 + 2 * j<=k->c176 k wide (encT t) (j:Int) (encW s) = r176 (wi v)
 | 0,j,h,hj,v,vs,hr=>by omega
 | m + 1,j,h,hj,v,vs,hr=>by
  obtain ⟨hne,hle⟩:=good_prefix hgt hs hg
  have hv':=isV_iff.1 hv
  have htk:t.take (j + 1) = t.take j ++ [t[j]]:=List.take_succ_eq_append_getElem hj
  rw [htk,vrun_app] at hr
  obtain ⟨us,hu,hr⟩:=Option.bind_eq_some_iff.1 hr
  have hx:=hne t[j] (List.getElem_mem hj)
  have from_ok:∀ k,300 + j<=k->c200 k (encT t) (j:Int) = L200_1 (k - 1) (k - 1) (encT t) ((need t[j].1).1:Nat) (j:Int):=by
   intro k hk
   obtain ⟨k,rfl⟩:∃ i,k = i + 1:=⟨k - 1,by omega⟩
   rw [n200,lookT hj]
   simp only [Option.bind_some,encN_op]
   rw [needS_ok (by omega)]
   simp only [R189_r,Nat.add_sub_cancel]
  have from0:∀ (k n:Nat) (f:Int),1<=n->L200_1 k n (encT t) ((0:Nat):Int) f = r200 f:=by
   intro k n f hn
   obtain ⟨n,rfl⟩:∃ i,n = i + 1:=⟨n - 1,by omega⟩
   rw [sL200_1]
   rfl
  have fromS:∀ (k n a f f2:Nat),1<=n->1<=f->f<=1000->a<=5->c200 k (encT t) ((f - 1:Nat):Int) = r200 (f2:Int)->L200_1 k n (encT t) ((a + 1:Nat):Int) (f:Int) = L200_1 k (n - 1) (encT t) (a:Int) (f2:Int):=by
   intro k n a f f2 hn hf hf2 ha hc
   obtain ⟨n,rfl⟩:∃ i,n = i + 1:=⟨n - 1,by omega⟩
   rw [sL200_1]
   have hd:decide (((a + 1:Nat):Int) > 0) = true:=by (simp;try omega)
   rw [hd,i64_id (n:=(f:Int) - 1) (by omega) (by omega),show (f:Int) - 1 = ((f - 1:Nat):Int) by omega,hc]
   simp only [cond_true,R200_r]
   rw [i64_id (by omega) (by omega),show ((a + 1:Nat):Int) - 1 = (a:Int) by omega]
   rfl
  have val_ok:∀ k,c176 (k + 1) wide (encT t) (j:Int) (encW s) = _:=fun k=>n176 k wide (encT t) (j:Int) (encW s)
  rcases need_cases hx with ⟨h1,hn⟩ | ⟨h1,hn⟩ | ⟨h1,hn⟩ | ⟨h1,h20,h2,h13,h19,hn⟩
  ·simp only [vrun] at hr
   rw [if_pos h1] at hr
   injection hr with hr
   injection hr with e1 e2
   subst e2
   refine ⟨j,by omega,hu,fun k hk=>?_,fun k hk=>?_⟩
   ·rw [from_ok k hk,hn]
    exact from0 _ _ _ (by omega)
   ·obtain ⟨k,rfl⟩:∃ i,k = i + 1:=⟨k - 1,by omega⟩
    have h2':(t[j].1 == 2) = false:=by rcases h1 with h | h <;> simp [h]
    have h0':((((need t[j].1).1:Nat):Int) == 0) = true:=by simp [hn]
    rw [n176,lookT hj]
    simp only [Option.bind_some,encN_shp,encN_op,encN_n,cond_true]
    rw [needS_ok (by omega)]
    simp only [R189_r,h2',h0',cond_false,cond_true,e1]
  ·simp only [vrun] at hr
   rw [if_neg (by omega),if_pos h1] at hr
   obtain ⟨a,ha,hr⟩:=Option.bind_eq_some_iff.1 hr
   injection hr with hr
   injection hr with e1 e2
   subst e2
   refine ⟨j,by omega,hu,fun k hk=>?_,fun k hk=>?_⟩
   ·rw [from_ok k hk,hn]
    exact from0 _ _ _ (by omega)
   ·obtain ⟨k,rfl⟩:∃ i,k = i + 1:=⟨k - 1,by omega⟩
    have h2':(t[j].1 == 2) = true:=by simpa using h1
    have e4:(wi t[j].2).toNat = t[j].2.toNat:=by simp [wi]
    rw [n176,lookT hj]
    simp only [Option.bind_some,encN_shp,encN_op,encN_n,cond_true]
    rw [needS_ok (by omega)]
    simp only [R189_r,h2',cond_true]
    rw [lookP_int (wi_nonneg _),encW_get,e4,ha]
    simp only [Option.map_some,Option.bind_some,int_atInt,e1]
  ·have hus:∃ a,us = a :: vs /\ ((t[j].1 = 13 /\ v = (~~~a &&& mk wide)) ∨ (t[j].1 = 19 /\ v = (1#64 - a))):=by
    simp only [vrun] at hr
    rw [if_neg (by omega),if_neg (by omega)] at hr
    rcases h1 with h1 | h1
    ·rw [if_pos h1] at hr
     cases us with
     | nil=>cases hr
     | cons a r =>
      injection hr with hr
      injection hr with e1 e2
      exact ⟨a,by rw [e2],.inl ⟨h1,e1.symm⟩⟩
    ·rw [if_neg (by omega),if_pos h1] at hr
     cases us with
     | nil=>cases hr
     | cons a r =>
      injection hr with hr
      injection hr with e1 e2
      exact ⟨a,by rw [e2],.inr ⟨h1,e1.symm⟩⟩
   obtain ⟨a,rfl,hva⟩:=hus
   have hj0:1<=j:=by
    cases j with
    | zero=>simp [vrun] at hu
    | succ j=>omega
   have hjj:j - 1 + 1 = j:=by omega
   obtain ⟨f,hf1,hf2,hf3,hf4⟩:=node_ok hgt hs hg ht hw hv m (j - 1) (by omega) (by omega) a vs (by rw [hjj];exact hu)
   refine ⟨f,by omega,hf2,fun k hk=>?_,fun k hk=>?_⟩
   ·rw [from_ok k hk,hn,fromS (k - 1) (k - 1) 0 j f (by omega) hj0 (by omega) (by omega) (hf3 (k - 1) (by omega))]
    exact from0 _ _ _ (by omega)
   ·obtain ⟨k,rfl⟩:∃ i,k = i + 1:=⟨k - 1,by omega⟩
    have h2':(t[j].1 == 2) = false:=by rcases h1 with h | h <;> simp [h]
    have h0':((((need t[j].1).1:Nat):Int) == 0) = false:=by simp [hn]
    rw [n176,lookT hj]
    simp only [Option.bind_some,encN_shp,encN_op,encN_n,cond_true]
    rw [needS_ok (by omega),i64_id (n:=(j:Int) - 1) (by omega) (by omega),show (j:Int) - 1 = ((j - 1:Nat):Int) by omega,hf4 k (by omega)]
    simp only [R189_r,h2',h0',cond_false,R176_r]
    rcases hva with ⟨h13,rfl⟩ | ⟨h19,rfl⟩
    ·have e13:(t[j].1 == 13) = true:=by simpa using h13
     have e2:(18446744073709551615:Int) = wi (BitVec.allOnes 64):=rfl
     rw [e13,e2,xor_wi,cutM_ok (by omega) hw,BitVec.allOnes_xor]
     simp only [cond_true,R198_r]
    ·have e13:(t[j].1 == 13) = false:=by simp [h19]
     have e19:(t[j].1 == 19) = true:=by simpa using h19
     have e1:(1:Int) = wi 1#64:=rfl
     rw [e13,e19,e1,sub_wi]
     simp only [cond_true,cond_false]
  ·have hus:∃ b a,us = b :: a :: vs /\ v = apW wide t[j].1 a b:=by
    simp only [vrun] at hr
    rw [if_neg (by omega),if_neg h2,if_neg h13,if_neg h19] at hr
    rcases us with _ | ⟨b,_ | ⟨a,r⟩⟩
    ·cases hr
    ·cases hr
    ·injection hr with hr
     injection hr with e1 e2
     exact ⟨b,a,by rw [e2],e1.symm⟩
   obtain ⟨b,a,rfl,rfl⟩:=hus
   have hj0:1<=j:=by
    cases j with
    | zero=>simp [vrun] at hu
    | succ j=>omega
   have hjj:j - 1 + 1 = j:=by omega
   obtain ⟨f,hf1,hf2,hf3,hf4⟩:=node_ok hgt hs hg ht hw hv m (j - 1) (by omega) (by omega) b (a :: vs) (by rw [hjj];exact hu)
   have hf0:1<=f:=by
    cases f with
    | zero=>simp [vrun] at hf2
    | succ f=>omega
   have hff:f - 1 + 1 = f:=by omega
   obtain ⟨g,hg1,hg2,hg3,hg4⟩:=node_ok hgt hs hg ht hw hv m (f - 1) (by omega) (by omega) a vs (by rw [hff];exact hf2)
   have hbm:=hle j _ hu b (by simp)
   have ham:=hle j _ hu a (by simp)
   refine ⟨g,by omega,hg2,fun k hk=>?_,fun k hk=>?_⟩
   ·rw [from_ok k hk,hn,fromS (k - 1) (k - 1) 1 j f (by omega) hj0 (by omega) (by omega) (hf3 (k - 1) (by omega)),fromS (k - 1) (k - 1 - 1) 0 f g (by omega) hf0 (by omega) (by omega) (hg3 (k - 1) (by omega))]
    exact from0 _ _ _ (by omega)
   ·obtain ⟨k,rfl⟩:∃ i,k = i + 1:=⟨k - 1,by omega⟩
    have e2:(t[j].1 == 2) = false:=by simpa using h2
    have e13:(t[j].1 == 13) = false:=by simpa using h13
    have e19:(t[j].1 == 19) = false:=by simpa using h19
    have h0':((((need t[j].1).1:Nat):Int) == 0) = false:=by simp [hn]
    rw [n176,lookT hj]
    simp only [Option.bind_some,encN_shp,encN_op,encN_n,cond_true]
    rw [needS_ok (by omega),i64_id (n:=(j:Int) - 1) (by omega) (by omega),show (j:Int) - 1 = ((j - 1:Nat):Int) by omega,hf4 k (by omega),hf3 k (by omega)]
    simp only [R189_r,e2,h0',e13,e19,cond_false,R176_r,R200_r]
    rw [i64_id (n:=(f:Int) - 1) (by omega) (by omega),show (f:Int) - 1 = ((f - 1:Nat):Int) by omega,hg4 k (by omega)]
    simp only [R176_r]
    rw [l2Do_ok (by omega) hw _ a b ham hbm]
    simp only [R199_r]
theorem l2Value_ok {k:Nat} (hk:600<=k) {wide vars:Int} {t:List Nd} (hgt:goodT wide vars t = true) {s:List W} (hs:(s.length:Int) = vars) (hg:∀ a ∈ s,a<=mk wide) (ht:t.length<=100) {v:W} (hv:vrun wide s t [] = some [v]) :
  c176 k wide (encT t) (IntKind.i64.wrap ((t.length:Int) - 1)) (encW s) = r176 (wi v):=by
 have hsz:=(goodT_iff.1 hgt).1
 simp only [sizeT,Bool.and_eq_true,decide_eq_true_eq] at hsz
 have hl:=hsz.1.2
 obtain ⟨f,_,_,_,h4⟩:=node_ok hgt hs hg ht hsz.1.1.1 hsz.1.1.2 (t.length + 1) (t.length - 1) (by omega) (by omega) v [] (by rw [show t.length - 1 + 1 = t.length by omega,List.take_length];exact hv)
 rw [i64_id (by omega) (by omega),show (t.length:Int) - 1 = ((t.length - 1:Nat):Int) by omega]
 exact h4 k (by omega)
end Go.Proofs.YthoecdnmokcfbaaGreat
/- FnPlayed: commands that are played. -/
set_option linter.unusedVariables false
set_option linter.unusedSimpArgs false
set_option maxRecDepth 4000
namespace Go.Proofs.YthoecdnmokcfbaaGreat
open Go.Dp
def encBo (l:List Bool):List PV:=l.map PV.bool
theorem encBo_get (l:List Bool) (i:Nat):(encBo l)[i]? = (l[i]?).map PV.bool:=by simp [encBo]
theorem good_all {p:Prg} (hg:goodP p = true):kindT p.wide p.vars p.start = 2 /\ ∀ c ∈ p.cmds,kindT p.wide p.vars c.wh = 2:=by
 simp only [goodP,Bool.and_eq_true,List.all_eq_true,beq_iff_eq] at hg
 refine ⟨hg.1.1.1,fun c hc=>?_⟩
 have:=hg.2 c hc
 simp only [goodCmd,Bool.and_eq_true,beq_iff_eq] at this
 exact this.1
theorem st_len {p:Prg} (hp:FitP p) {s:List W} (hs:stOK p s = true):s.length<=5:=by
 simp only [stOK,Bool.and_eq_true,decide_eq_true_eq] at hs
 have:=hp.v
 omega
def holdT (p:Prg) (t:List Nd) (s:List W):Bool:=valD p.wide s t == 1#64
theorem holdsI_ok {k:Nat} (hk:1000010<=k) (p:Prg) (hg:goodP p = true) (l1 l2:List PV) (t:List Nd) (ht:t.length<=100) (hkt:kindT p.wide p.vars t = 2) (s:List W) (hs:stOK p s = true):c67 k p.wide p.vars l1 l2 (encT t) (encW s) = r67 (holdT p t s):=by
 obtain ⟨k,rfl⟩:∃ j,k = j + 1:=⟨k - 1,by omega⟩
 obtain ⟨hw,hv⟩:=goodP_size hg
 obtain ⟨h1,h2⟩:=(stOK_of hw).1 hs
 obtain ⟨hval,_⟩:=kind_val hkt (by omega) h1 h2
 rw [n67,valueOf_ok (by omega) hw s _ (by omega) hval]
 simp only [R130_r]
 have e:(1:Int) = wi 1#64:=rfl
 rw [e,wi_beq]
 rfl
theorem holdsS_ok {k:Nat} (hk:1000010<=k) (p:Prg) (hg:goodP p = true) (l1 l2:List PV) (t:List Nd) (ht:t.length<=100) (hkt:kindT p.wide p.vars t = 2) (s:List W) (hs:stOK p s = true):c120 k p.wide p.vars l1 l2 (encT t) (encW s) = r120 (holdT p t s):=by
 obtain ⟨k,rfl⟩:∃ j,k = j + 1:=⟨k - 1,by omega⟩
 obtain ⟨hw,hv⟩:=goodP_size hg
 obtain ⟨h1,h2⟩:=(stOK_of hw).1 hs
 obtain ⟨hval,_⟩:=kind_val hkt (by omega) h1 h2
 rw [n120,encT_length,l2Value_ok (by omega) (kind_good (by omega)) h1 h2 ht hval]
 simp only [R176_r]
 have e:(1:Int) = wi 1#64:=rfl
 rw [e,wi_beq]
 rfl
def enL (p:Prg) (s:List W):Nat->List Cmd->List Int
 | _,[]=>[]
 | i,c :: l=>(bif holdT p c.wh s then [(i:Int)] else []) ++ enL p s (i + 1) l
theorem enL_mem (p:Prg) (s:List W):∀ (l:List Cmd) (i:Nat) (v:Int),v ∈ enL p s i l ↔ ∃ j c,l[j]? = some c /\ holdT p c.wh s = true /\ v = ((i + j:Nat):Int)
 | [],i,v=>by simp [enL]
 | c :: l,i,v=>by
  simp only [enL,List.mem_append,enL_mem p s l (i + 1) v]
  constructor
  ·rintro (h | ⟨j,c',h1,h2,h3⟩)
   ·cases hh:holdT p c.wh s
    ·rw [hh] at h;simp at h
    ·rw [hh] at h
     simp at h
     exact ⟨0,c,rfl,hh,by simp [h]⟩
   ·exact ⟨j + 1,c',by simpa using h1,h2,by rw [h3];omega⟩
  ·rintro ⟨j,c',h1,h2,h3⟩
   cases j with
   | zero =>
    simp at h1
    subst h1
    left
    rw [h2,h3]
    simp
   | succ j=>exact .inr ⟨j,c',by simpa using h1,h2,by rw [h3];omega⟩
theorem enabledS_loop {k:Nat} (hk:1000010<=k) (p:Prg) (hp:FitP p) (hg:goodP p = true) (s:List W) (hs:stOK p s = true) (l1 l2:List PV):∀ (n i:Nat) (o:List Int),p.cmds.length - i < n->i<=p.cmds.length->o.length<=i ->
  L171_1 k n (encW s) o.length (encCms p.cmds) (p.cmds.length:Int) (i:Int) p.wide p.vars l1 l2 (encZ o) = r171 (encZ (o ++ enL p s i (p.cmds.drop i)))
 | 0,i,o,h,hi,ho=>by omega
 | n + 1,i,o,h,hi,ho=>by
  have hcm:=hp.cm
  rw [sL171_1]
  have e1:(encZ o).take o.length = encZ o:=by rw [List.take_of_length_le (by simp)]
  rw [e1]
  by_cases hlt:i < p.cmds.length
  ·have hd:decide ((i:Int) < (p.cmds.length:Int)) = true:=by simpa using hlt
   have hm:=List.getElem_mem hlt
   rw [hd,lookP_nat,encCms_get,List.getElem?_eq_getElem hlt,drop_cons hlt]
   simp only [cond_true,Option.map_some,Option.bind_some,encCm_shp,encCm_wh,encCm_ch]
   rw [holdsS_ok (by omega) p hg _ _ _ (hp.c _ hm).wh ((good_all hg).2 _ hm) s hs]
   simp only [R120_r,enL]
   rw [i64_id (by omega) (by omega)]
   cases holdT p p.cmds[i].wh s
   ·simp only [cond_false,List.nil_append]
    exact enabledS_loop hk p hp hg s hs l1 l2 n (i + 1) o (by omega) (by omega) (by omega)
   ·simp only [cond_true]
    rw [lim_ok (by omega) (by omega),encZ_snoc]
    have e2:o.length + 1 = (o ++ [(i:Int)]).length:=by simp
    simp only [cond_true]
    rw [e2,<- List.append_assoc]
    exact enabledS_loop hk p hp hg s hs l1 l2 n (i + 1) _ (by omega) (by omega) (by simp;omega)
  ·have hd:decide ((i:Int) < (p.cmds.length:Int)) = false:=by simpa using hlt
   rw [hd,List.drop_eq_nil_of_le (by omega)]
   simp [enL]
theorem do_loop {k:Nat} (hk:1000000<=k) (p:Prg) (hw:isW p.wide = true) (l1 l2:List PV) (s:List W) (hs:(s.length:Int) = p.vars) (hg:∀ a ∈ s,a<=mk p.wide) (ch:List Chg) (hl:ch.length<=100) (hx:∀ x ∈ ch,0<=x.v /\ x.v < p.vars /\ kindT p.wide p.vars x.by1 = 1 /\ x.by1.length<=100):∀ (n i:Nat) (o:List W),ch.length - i < n->i<=ch.length->o.length = s.length ->
  L173_1 k n (encW s) o.length (encChs ch) (ch.length:Int) (i:Int) p.wide p.vars l1 l2 (encW o) = r173 (encW (afterS p.wide s (ch.drop i) o))
 | 0,i,o,h,hi,ho=>by omega
 | n + 1,i,o,h,hi,ho=>by
  rw [sL173_1]
  by_cases hlt:i < ch.length
  ·have hd:decide ((i:Int) < (ch.length:Int)) = true:=by simpa using hlt
   have hxi:=hx _ (List.getElem_mem hlt)
   obtain ⟨hv,_⟩:=kind_val hxi.2.2.1 (by omega) hs hg
   rw [hd,lookP_nat,encChs_get,List.getElem?_eq_getElem hlt,drop_cons hlt]
   simp only [cond_true,Option.map_some,Option.bind_some,encCh_shp,encCh_v,encCh_by,encT_length]
   rw [l2Value_ok (by omega) (kind_good (by omega)) hs hg hxi.2.2.2 hv]
   simp only [R176_r]
   have hin:(decide ((0:Int)<=ch[i].v) && decide (ch[i].v < (o.length:Int))) = true:=by simp;omega
   have hget:(encW o)[0 + ch[i].v.toNat]? = some (PV.int .u64 (wi (o[ch[i].v.toNat]'(by omega)))):=by rw [Nat.zero_add,encW_get,List.getElem?_eq_getElem (by omega)];rfl
   rw [hin,hget]
   simp only [cond_true,Option.bind_some,Nat.zero_add]
   have hset:(encW o).set ch[i].v.toNat (PV.int .u64 (wi (valD p.wide s ch[i].by1))) = encW (o.set ch[i].v.toNat (valD p.wide s ch[i].by1)):=by simp [encW,List.map_set]
   rw [hset,i64_id (by omega) (by omega)]
   have:=do_loop hk p hw l1 l2 s hs hg ch hl hx n (i + 1) (o.set ch[i].v.toNat (valD p.wide s ch[i].by1)) (by omega) (by omega) (by simpa using ho)
   rw [List.length_set] at this
   exact this
  ·have hd:decide ((i:Int) < (ch.length:Int)) = false:=by simpa using hlt
   rw [hd,List.drop_eq_nil_of_le (by omega)]
   have e1:(encW o).take o.length = encW o:=by rw [List.take_of_length_le (by simp)]
   simp only [cond_false,e1]
   rfl
end Go.Proofs.YthoecdnmokcfbaaGreat
/- FnNumbered: states of drawn small programs and their numbers correspond. -/
set_option linter.unusedVariables false
set_option linter.unusedSimpArgs false
set_option maxRecDepth 4000
namespace Go.Proofs.YthoecdnmokcfbaaGreat
open Go.Dp
def pw (p:Prg):Nat:=p.wide.toNat
def pv (p:Prg):Nat:=p.vars.toNat
theorem small_nat2 {p:Prg} (h:smallP p = true):p.wide = (pw p:Int) /\ p.vars = (pv p:Int) /\ 1<=pw p /\ 1<=pv p /\ pv p<=4 /\ pw p * pv p<=5 /\ pw p<=5:=by
 obtain ⟨w,v,h1,h2,h3,h4,h5,h6,h7⟩:=small_nat h
 have e1:pw p = w:=by unfold pw;omega
 have e2:pv p = v:=by unfold pv;omega
 rw [e1,e2]
 refine ⟨h1,h2,h3,h4,h5,h6,?_⟩
 have:w * 1<=w * v:=Nat.mul_le_mul_left _ h4
 omega
theorem stOK_nat {p:Prg} (h:smallP p = true) {s:List W} (hs:stOK p s = true):s.length = pv p /\ ∀ a ∈ s,a.toNat < 2 ^ pw p:=by
 obtain ⟨h1,h2,h3,h4,h5,h6,h7⟩:=small_nat2 h
 simp only [stOK,Bool.and_eq_true,decide_eq_true_eq,List.all_eq_true] at hs
 refine ⟨by omega,fun a ha=>?_⟩
 have:=hs.2 a ha
 rw [h1] at this
 exact goodW_lt (by omega) this
def noOK (p:Prg) (no:Int):Bool:=smallP p && decide (0<=no) && decide (no < ((2 ^ (pw p * pv p):Nat):Int))
theorem isNo_ok {k:Nat} (hk:1000300<=k) (p:Prg) (hp:FitP p) (no:Int):c64 k p.wide p.vars (encT p.start) (encCms p.cmds) no = r64 (noOK p no):=by
 obtain ⟨k,rfl⟩:∃ j,k = j + 1:=⟨k - 1,by omega⟩
 rw [n64,isSmall_ok (by omega) p hp]
 simp only [R69_r]
 unfold noOK
 cases h1:smallP p
 ·rfl
 ·simp only [cond_true,Bool.true_and,ge_iff_le]
  cases h2:decide (0<=no)
  ·rfl
  ·obtain ⟨h3,h4,h5,h6,h7,h8,h9⟩:=small_nat2 h1
   have:=states_ok (k:=k) (by omega) (pw p) (pv p) h8 (encT p.start) (encCms p.cmds)
   rw [<- h3,<- h4] at this
   rw [this]
   simp only [R50_r,cond_true,Bool.true_and]
theorem stOK_digs {p:Prg} {no:Int} (h:noOK p no = true):smallP p = true /\ stOK p (digs (pw p) (pv p) no.toNat) = true /\ (noOf (pw p) (digs (pw p) (pv p) no.toNat):Int) = no:=by
 simp only [noOK,Bool.and_eq_true,decide_eq_true_eq] at h
 obtain ⟨⟨h1,h2⟩,h3⟩:=h
 obtain ⟨h4,h5,h6,h7,h8,h9,h10⟩:=small_nat2 h1
 refine ⟨h1,?_,?_⟩
 ·simp only [stOK,Bool.and_eq_true,decide_eq_true_eq,List.all_eq_true]
  refine ⟨by rw [digs_length,h5],fun a ha=>?_⟩
  have:=digs_lt (w:=pw p) (by omega) a ha
  rw [h4]
  exact goodW_of h6 (by omega) this
 ·rw [noOf_digs (by omega) (by omega)]
  omega
theorem noOK_noOf {p:Prg} {s:List W} (h1:smallP p = true) (h2:stOK p s = true):noOK p (noOf (pw p) s:Int) = true /\ digs (pw p) (pv p) (noOf (pw p) s:Int).toNat = s:=by
 obtain ⟨h3,h4⟩:=stOK_nat h1 h2
 refine ⟨?_,?_⟩
 ·simp only [noOK,h1,Bool.true_and,Bool.and_eq_true,decide_eq_true_eq]
  have:=noOf_lt h4
  rw [h3] at this
  exact ⟨Int.natCast_nonneg _,by omega⟩
 ·rw [Int.toNat_natCast,<- h3]
  exact digs_noOf h4
end Go.Proofs.YthoecdnmokcfbaaGreat
/- Small programs: states by their numbers;where a condition holds;lists of states. -/
set_option linter.unusedVariables false
set_option linter.unusedSimpArgs false
set_option maxRecDepth 4000
namespace Go.Proofs.YthoecdnmokcfbaaGreat
open Go.Dp
def nS (p:Prg):Nat:=2 ^ (pw p * pv p)
def sto (p:Prg) (no:Int):List W:=digs (pw p) (pv p) no.toNat
def inS (p:Prg) (no:Int):Prop:=0<=no /\ no < (nS p:Int)
theorem nS_le {p:Prg} (h:smallP p = true):2<=nS p /\ nS p<=32:=by
 obtain ⟨_,_,h3,h4,_,h6,_⟩:=small_nat2 h
 refine ⟨?_,pow5 h6⟩
 have:1<=pw p * pv p:=Nat.mul_pos h3 h4
 exact Nat.pow_le_pow_right (n:=2) (by omega) this
theorem inS_no {p:Prg} (h:smallP p = true) {no:Int} (hi:inS p no):noOK p no = true:=by
 simp only [noOK,h,Bool.true_and,Bool.and_eq_true,decide_eq_true_eq]
 exact hi
theorem sto_ok {p:Prg} (h:smallP p = true) {no:Int} (hi:inS p no):stOK p (sto p no) = true:=(stOK_digs (inS_no h hi)).2.1
theorem no_inS {p:Prg} (h:smallP p = true) {s:List W} (hs:stOK p s = true):inS p (noOf (pw p) s:Int) /\ sto p (noOf (pw p) s:Int) = s:=by
 obtain ⟨h1,h2⟩:=noOK_noOf h hs
 simp only [noOK,Bool.and_eq_true,decide_eq_true_eq] at h1
 exact ⟨⟨h1.1.2,h1.2⟩,h2⟩
theorem stoI_ok {k:Nat} (hk:100<=k) {p:Prg} (h:smallP p = true) (l1 l2:List PV) {no:Int} (hi:inS p no):c68 k p.wide p.vars l1 l2 no = r68 (encW (sto p no)):=by
 obtain ⟨h1,h2,h3,h4,h5,h6,_⟩:=small_nat2 h
 have:=stateOf_ok hk (pw p) (pv p) h3 h6 h5 l1 l2 no.toNat (by have:=hi.1;have:=hi.2;unfold nS at this;omega)
 rw [<- h1,<- h2,Int.toNat_of_nonneg hi.1] at this
 exact this
theorem stoS_ok {k:Nat} (hk:100<=k) {p:Prg} (h:smallP p = true) (l1 l2:List PV) {no:Int} (hi:inS p no):c121 k p.wide p.vars l1 l2 no = r121 (encW (sto p no)):=by
 obtain ⟨h1,h2,h3,h4,h5,h6,_⟩:=small_nat2 h
 have:=l7Of_ok hk (pw p) (pv p) h3 h6 h5 l1 l2 no.toNat (by have:=hi.1;have:=hi.2;unfold nS at this;omega)
 rw [<- h1,<- h2,Int.toNat_of_nonneg hi.1] at this
 exact this
theorem nSI_ok {k:Nat} (hk:1<=k) {p:Prg} (h:smallP p = true) (l1 l2:List PV):c50 k p.wide p.vars l1 l2 = r50 (nS p:Int):=by
 obtain ⟨h1,h2,h3,h4,h5,h6,_⟩:=small_nat2 h
 rw [h1,h2]
 exact states_ok hk (pw p) (pv p) h6 l1 l2
theorem nSS_ok {k:Nat} (hk:1<=k) {p:Prg} (h:smallP p = true) (l1 l2:List PV):c115 k p.wide p.vars l1 l2 = r115 (nS p:Int):=by
 obtain ⟨h1,h2,h3,h4,h5,h6,_⟩:=small_nat2 h
 rw [h1,h2]
 exact l7Many_ok hk (pw p) (pv p) h6 l1 l2
theorem noI_ok {k:Nat} (hk:100<=k) {p:Prg} (h:smallP p = true) (l1 l2:List PV) {s:List W} (hs:stOK p s = true):c126 k p.wide p.vars l1 l2 (encW s) = r126 (noOf (pw p) s:Int):=by
 obtain ⟨h1,h2,h3,h4,h5,h6,_⟩:=small_nat2 h
 obtain ⟨h7,h8⟩:=stOK_nat h hs
 rw [h1,h2]
 exact stateNo_ok hk (pw p) (pv p) h6 l1 l2 s h7 h5 h8
theorem noS_ok {k:Nat} (hk:100<=k) {p:Prg} (h:smallP p = true) (l1 l2:List PV) {s:List W} (hs:stOK p s = true):c172 k p.wide p.vars l1 l2 (encW s) = r172 (noOf (pw p) s:Int):=by
 obtain ⟨h1,h2,h3,h4,h5,h6,_⟩:=small_nat2 h
 obtain ⟨h7,h8⟩:=stOK_nat h hs
 rw [h1,h2]
 exact l7No_ok hk (pw p) (pv p) h3 h6 l1 l2 s h7 h5 h8
theorem small_good {p:Prg} (h:smallP p = true):goodP p = true:=by
 simp only [smallP,Bool.and_eq_true] at h
 exact h.1
def hN (p:Prg) (t:List Nd) (no:Int):Bool:=holdT p t (sto p no)
def whN (p:Prg) (t:List Nd):Nat->Nat->List Int
 | _,0=>[]
 | i,m + 1=>(bif hN p t (i:Int) then [(i:Int)] else []) ++ whN p t (i + 1) m
def whI (p:Prg) (t:List Nd):List Int:=whN p t 0 (nS p)
theorem whN_mem (p:Prg) (t:List Nd):∀ (m i:Nat) (x:Int),x ∈ whN p t i m ↔ (i:Int)<=x /\ x < (i + m:Nat) /\ hN p t x = true
 | 0,i,x=>by simp [whN];omega
 | m + 1,i,x=>by
  simp only [whN,List.mem_append,whN_mem p t m (i + 1) x]
  by_cases hx:x = (i:Int)
  ·subst hx
   cases hN p t (i:Int) <;> simp <;> omega
  ·have:x ∉ (bif hN p t (i:Int) then [(i:Int)] else []):=by cases hN p t (i:Int) <;> simp [hx]
   simp only [this,false_or]
   constructor
   ·rintro ⟨h1,h2,h3⟩;exact ⟨by omega,by omega,h3⟩
   ·rintro ⟨h1,h2,h3⟩;exact ⟨by omega,by omega,h3⟩
theorem whI_mem (p:Prg) (t:List Nd) (x:Int):x ∈ whI p t ↔ inS p x /\ hN p t x = true:=by
 rw [whI,whN_mem]
 simp [inS,and_assoc]
theorem whN_len (p:Prg) (t:List Nd):∀ (m i:Nat),(whN p t i m).length<=m
 | 0,i=>by simp [whN]
 | m + 1,i=>by
  have:=whN_len p t m (i + 1)
  simp only [whN,List.length_append]
  cases hN p t (i:Int) <;> simp <;> omega
theorem whN_lt (p:Prg) (t:List Nd):∀ (m i:Nat),(whN p t i m).Pairwise (· < ·)
 | 0,i=>by simp [whN]
 | m + 1,i=>by
  have h:=whN_lt p t m (i + 1)
  simp only [whN]
  cases hN p t (i:Int)
  ·exact h
  ·simp only [cond_true,List.cons_append,List.nil_append,List.pairwise_cons]
   refine ⟨fun x hx=>?_,h⟩
   have:=(whN_mem p t m (i + 1) x).1 hx
   omega
theorem where_loop {k:Nat} (hk:1000100<=k) {p:Prg} (hs:smallP p = true) (l1 l2:List PV) (t:List Nd) (ht:t.length<=100) (hkt:kindT p.wide p.vars t = 2):∀ (n i:Nat) (o:List Int),nS p - i < n->i<=nS p->o.length<=i ->
  L57_1 k n (encT t) o.length (nS p:Int) (i:Int) p.wide p.vars l1 l2 (encZ o) = r57 (encZ (o ++ whN p t i (nS p - i)))
 | 0,i,o,h,hi,ho=>by omega
 | n + 1,i,o,h,hi,ho=>by
  have hle:=nS_le hs
  rw [sL57_1]
  have etk:(encZ o).take o.length = encZ o:=by rw [List.take_of_length_le (by simp)]
  by_cases hlt:i < nS p
  ·have hd:decide ((i:Int) < (nS p:Int)) = true:=by simpa using hlt
   have hin:inS p (i:Int):=⟨by omega,by omega⟩
   obtain ⟨m,hm⟩:∃ m,nS p - i = m + 1:=⟨nS p - i - 1,by omega⟩
   have hm2:nS p - (i + 1) = m:=by omega
   rw [hd,stoI_ok (by omega) hs l1 l2 hin]
   simp only [cond_true,R68_r]
   rw [holdsI_ok (by omega) p (small_good hs) l1 l2 t ht hkt _ (sto_ok hs hin)]
   simp only [R67_r]
   rw [i64_id (by omega) (by omega),show (i:Int) + 1 = ((i + 1:Nat):Int) by omega,hm]
   simp only [whN]
   change (bif hN p t (i:Int) then _ else _) = _
   cases hh:hN p t (i:Int)
   ·simp only [cond_false,List.nil_append]
    have:=where_loop hk hs l1 l2 t ht hkt n (i + 1) o (by omega) (by omega) (by omega)
    rw [hm2] at this
    exact this
   ·simp only [cond_true]
    rw [lim_ok (by omega) (by omega),etk,encZ_snoc]
    have:=where_loop hk hs l1 l2 t ht hkt n (i + 1) (o ++ [(i:Int)]) (by omega) (by omega) (by simp;omega)
    rw [hm2,List.length_append,List.append_assoc] at this
    exact this
  ·have hd:decide ((i:Int) < (nS p:Int)) = false:=by simpa using hlt
   have h0:nS p - i = 0:=by omega
   rw [hd,etk,h0]
   simp [whN]
theorem where_ok {k:Nat} (hk:1000200<=k) {p:Prg} (hs:smallP p = true) (l1 l2:List PV) (t:List Nd) (ht:t.length<=100) (hkt:kindT p.wide p.vars t = 2):c57 k p.wide p.vars l1 l2 (encT t) = r57 (encZ (whI p t)):=by
 obtain ⟨k,rfl⟩:∃ j,k = j + 1:=⟨k - 1,by omega⟩
 have hle:=nS_le hs
 rw [n57,nSI_ok (by omega) hs]
 simp only [R50_r]
 have:=where_loop (k:=k) (by omega) hs l1 l2 t ht hkt k 0 [] (by omega) (by omega) (by simp)
 rw [show encZ ([]:List Int) = [] from rfl] at this
 simpa [whI] using this
theorem those_loop {k:Nat} (hk:1000100<=k) {p:Prg} (hs:smallP p = true) (l1 l2:List PV) (t:List Nd) (ht:t.length<=100) (hkt:kindT p.wide p.vars t = 2):∀ (n i:Nat) (o:List Int),nS p - i < n->i<=nS p->o.length<=i ->
  L59_1 k n (encT t) o.length (i:Int) p.wide p.vars l1 l2 (encZ o) = r59 (encZ (o ++ whN p t i (nS p - i)))
 | 0,i,o,h,hi,ho=>by omega
 | n + 1,i,o,h,hi,ho=>by
  have hle:=nS_le hs
  rw [sL59_1,nSS_ok (by omega) hs]
  simp only [R115_r]
  have etk:(encZ o).take o.length = encZ o:=by rw [List.take_of_length_le (by simp)]
  by_cases hlt:i < nS p
  ·have hd:decide ((i:Int) < (nS p:Int)) = true:=by simpa using hlt
   have hin:inS p (i:Int):=⟨by omega,by omega⟩
   obtain ⟨m,hm⟩:∃ m,nS p - i = m + 1:=⟨nS p - i - 1,by omega⟩
   have hm2:nS p - (i + 1) = m:=by omega
   rw [hd,stoS_ok (by omega) hs l1 l2 hin]
   simp only [cond_true,R121_r]
   rw [holdsS_ok (by omega) p (small_good hs) l1 l2 t ht hkt _ (sto_ok hs hin)]
   simp only [R120_r]
   rw [i64_id (by omega) (by omega),show (i:Int) + 1 = ((i + 1:Nat):Int) by omega,hm]
   simp only [whN]
   change (bif hN p t (i:Int) then _ else _) = _
   cases hh:hN p t (i:Int)
   ·simp only [cond_false,List.nil_append]
    have:=those_loop hk hs l1 l2 t ht hkt n (i + 1) o (by omega) (by omega) (by omega)
    rw [hm2] at this
    exact this
   ·simp only [cond_true]
    rw [lim_ok (by omega) (by omega),etk,encZ_snoc]
    have:=those_loop hk hs l1 l2 t ht hkt n (i + 1) (o ++ [(i:Int)]) (by omega) (by omega) (by simp;omega)
    rw [hm2,List.length_append,List.append_assoc] at this
    exact this
  ·have hd:decide ((i:Int) < (nS p:Int)) = false:=by simpa using hlt
   have h0:nS p - i = 0:=by omega
   rw [hd,etk,h0]
   simp [whN]
theorem those_ok {k:Nat} (hk:1000200<=k) {p:Prg} (hs:smallP p = true) (l1 l2:List PV) (t:List Nd) (ht:t.length<=100) (hkt:kindT p.wide p.vars t = 2):c59 k p.wide p.vars l1 l2 (encT t) = r59 (encZ (whI p t)):=by
 obtain ⟨k,rfl⟩:∃ j,k = j + 1:=⟨k - 1,by omega⟩
 have hle:=nS_le hs
 rw [n59]
 have:=those_loop (k:=k) (by omega) hs l1 l2 t ht hkt k 0 [] (by omega) (by omega) (by simp)
 rw [show encZ ([]:List Int) = [] from rfl] at this
 simpa [whI] using this
def incG (b:Int):Option Int->List Int->Bool
 | _,[]=>true
 | pr,n :: l=>decide (0<=n) && decide (n < b) && (match pr with | none=>true | some q=>decide (q < n)) && incG b (some n) l
def prI (l:List Int) (i:Nat):Option Int:=if i = 0 then none else l[i - 1]?
theorem incG_at {b:Int} {l:List Int} {i:Nat} (h:i < l.length):incG b (prI l i) (l.drop i) = (decide (0<=l[i]) && decide (l[i] < b) && (if i = 0 then true else decide (l[i - 1]! < l[i])) && incG b (prI l (i + 1)) (l.drop (i + 1))):=by
 rw [drop_cons h]
 simp only [incG]
 have e:prI l (i + 1) = some l[i]:=by simp [prI,h]
 rw [e]
 by_cases h0:i = 0
 ·subst h0;simp [prI]
 ·have e2:prI l i = some l[i - 1]!:=by
   rw [prI,if_neg h0,List.getElem?_eq_getElem (by omega),getElem!_pos l (i - 1) (by omega)]
  rw [e2,if_neg h0]
theorem rise_loop {k:Nat} (hk:1<=k) (l:List Int) (hl:l.length<=100000) (b:Int):∀ (n i:Nat),l.length - i < n->i<=l.length->L167_1 k n (encZ l) 0 (b - 1) (encZ l) (l.length:Int) (i:Int) = r167 (incG b (prI l i) (l.drop i))
 | 0,i,h,hi=>by omega
 | n + 1,i,h,hi=>by
  rw [sL167_1]
  by_cases hlt:i < l.length
  ·have hd:decide ((i:Int) < (l.length:Int)) = true:=by simpa using hlt
   rw [hd,encZ_lookup hlt,incG_at hlt]
   simp only [cond_true,Option.bind_some,int_atInt]
   have hnext:IntKind.i64.wrap ((i:Int) + 1) = ((i + 1:Nat):Int):=by rw [i64_id (by omega) (by omega)];omega
   have eb:decide (l[i]<=b - 1) = decide (l[i] < b):=by
    rw [Bool.eq_iff_iff];simp;omega
   rw [hnext,in_ok hk,eb]
   simp only [R52_r]
   cases hc:(decide (0<=l[i]) && decide (l[i] < b))
   ·rfl
   ·simp only [Bool.not_true,cond_false,Bool.true_and]
    by_cases h0:i = 0
    ·have e5:decide ((i:Int) > 0) = false:=by simp;omega
     rw [e5,if_pos h0]
     simp only [cond_false,Bool.true_and]
     exact rise_loop hk l hl b n (i + 1) (by omega) (by omega)
    ·have e5:decide ((i:Int) > 0) = true:=by simp;omega
     have e6:IntKind.i64.wrap ((i:Int) - 1) = ((i - 1:Nat):Int):=by rw [i64_id (by omega) (by omega)];omega
     rw [e5,if_neg h0,e6,encZ_lookup (l:=l) (i:=i - 1) (by omega)]
     simp only [cond_true,Option.bind_some,int_atInt]
     rw [<- getElem!_pos l (i - 1) (by omega)]
     by_cases h3:l[i - 1]!>=l[i]
     ·have e7:decide (l[i - 1]!>=l[i]) = true:=decide_eq_true h3
      have e8:decide (l[i - 1]! < l[i]) = false:=decide_eq_false (by omega)
      rw [e7,e8];rfl
     ·have e7:decide (l[i - 1]!>=l[i]) = false:=decide_eq_false h3
      have e8:decide (l[i - 1]! < l[i]) = true:=decide_eq_true (by omega)
      rw [e7,e8]
      simp only [cond_false,Bool.true_and]
      exact rise_loop hk l hl b n (i + 1) (by omega) (by omega)
  ·have hd:decide ((i:Int) < (l.length:Int)) = false:=by simpa using hlt
   rw [hd,List.drop_eq_nil_of_le (by omega)]
   rfl
theorem rise_ok {k:Nat} (hk:100010<=k) (l:List Int) (hl:l.length<=100000) (b:Int):c167 k (encZ l) 0 (b - 1) = r167 (incG b none l):=by
 obtain ⟨k,rfl⟩:∃ j,k = j + 1:=⟨k - 1,by omega⟩
 rw [n167,encZ_length]
 exact rise_loop (k:=k) (by omega) l hl b k 0 (by omega) (by omega)
theorem someOf_loop {bs:List Nat} (hc:CodeOK bs) {k:Nat} (hk:2010<=k) (n1:Int):∀ (m n:Nat) (q:Int) (o:List Int) {at':Int} (s:W),q.toNat<=m->m < n->q<=100->o.length + m<=200->0<=at'->at' + 2 * m<=700000000 ->
  ∃ a2 s2 l,L108_1 k n n1 o.length q (encB bs) at' (wi s) (encZ o) = r108 (encB bs) a2 (wi s2) (encZ l) /\ at'<=a2 /\ a2<=at' + 2 * m + 2 /\ l.length<=o.length + m + 1
 | m,0,q,o,at',s,h1,h2,_,_,_,_=>by omega
 | m,n + 1,q,o,at',s,h1,h2,h3,h4,h5,h6=>by
  rw [sL108_1]
  have etk:(encZ o).take o.length = encZ o:=by rw [List.take_of_length_le (by simp)]
  rw [etk]
  by_cases hq:q > 0
  ·have e1:decide (q > 0) = true:=by simpa using hq
   obtain ⟨a2,s2,v,h,h7,h8,_⟩:=pick_ok hc (k:=k) (by omega) h5 (by omega) s n1
   have hpl:=putI_len o v
   rw [e1,h]
   simp only [cond_true,R103_r]
   rw [l1Put_ok (by omega) o (by omega)]
   simp only [R119_r,encZ_length]
   rw [i64_id (by omega) (by omega)]
   cases m with
   | zero=>omega
   | succ m =>
    obtain ⟨a3,s3,l,h,h9,h10,h11⟩:=someOf_loop hc hk n1 m n (q - 1) (putI o v) (at':=a2) s2 (by omega) (by omega) (by omega) (by omega) (by omega) (by omega)
    exact ⟨a3,s3,l,h,by omega,by omega,by omega⟩
  ·have e1:decide (q > 0) = false:=by simpa using hq
   obtain ⟨a2,s2,b,h,h7,h8⟩:=one_ok hc (k:=k) (by omega) h5 (by omega) s 40
   rw [e1,h]
   simp only [cond_false,R48_r]
   cases b
   ·exact ⟨a2,s2,o,rfl,by omega,by omega,by omega⟩
   ·rw [lim_ok (by omega) (by omega),encZ_snoc,List.take_of_length_le (by simp)]
    exact ⟨a2,s2,o ++ [n1],rfl,by omega,by omega,by simp⟩
theorem someOf_ok {bs:List Nat} (hc:CodeOK bs) {k:Nat} (hk:2100<=k) (n1 m1:Int) (hm0:0<=m1) (hm:m1<=50) {at':Int} (h0:0<=at') (h1:at'<=600000000) (s:W) :
  ∃ a2 s2 l,c108 k n1 m1 (encB bs) at' (wi s) = r108 (encB bs) a2 (wi s2) (encZ l) /\ at'<=a2 /\ a2<=at' + 200 /\ l.length<=60:=by
 obtain ⟨k,rfl⟩:∃ j,k = j + 1:=⟨k - 1,by omega⟩
 rw [n108,i64_id (by omega) (by omega)]
 obtain ⟨a2,s2,v,h,h2,h3,h4,h5,_⟩:=pick_ok hc (k:=k) (by omega) h0 (by omega) s (m1 + 1)
 have h5:=h5 (by omega)
 rw [h]
 simp only [R103_r]
 obtain ⟨a3,s3,l,h,h6,h7,h8⟩:=someOf_loop hc (k:=k) (by omega) n1 51 k v [] (at':=a2) s2 (by omega) (by omega) (by omega) (by simp) (by omega) (by omega)
 exact ⟨a3,s3,l,h,by omega,by omega,by simp at h8;omega⟩
end Go.Proofs.YthoecdnmokcfbaaGreat
/- Lists of conditions: checked and drawn. -/
set_option linter.unusedVariables false
set_option linter.unusedSimpArgs false
set_option maxRecDepth 4000
namespace Go.Proofs.YthoecdnmokcfbaaGreat
open Go.Dp
def allC (p:Prg) (ts:List (List Nd)):Bool:=ts.all fun t=>kindT p.wide p.vars t == 2
theorem allC_get {p:Prg} {ts:List (List Nd)} (h:allC p ts = true):∀ t ∈ ts,kindT p.wide p.vars t = 2:=by simpa [allC] using h
def predsOK (p:Prg) (ts:List (List Nd)):Bool:=decide (ts.length<=8) && allC p ts
theorem preds_loop {k:Nat} (hk:1000300<=k) (p:Prg) (l1 l2:List PV) (ts:List (List Nd)) (hl:ts.length<=1000) (ht:∀ t ∈ ts,t.length<=100):∀ (n i:Nat),ts.length - i < n->i<=ts.length ->
  L165_1 k n (encTT ts) (ts.length:Int) (i:Int) p.wide p.vars l1 l2 = r165 (allC p (ts.drop i))
 | 0,i,h,hi=>by omega
 | n + 1,i,h,hi=>by
  rw [sL165_1]
  by_cases hlt:i < ts.length
  ·have hd:decide ((i:Int) < (ts.length:Int)) = true:=by simpa using hlt
   have hnext:IntKind.i64.wrap ((i:Int) + 1) = ((i + 1:Nat):Int):=by rw [i64_id (by omega) (by omega)];omega
   have hm:=List.getElem_mem hlt
   rw [hd,lookP_nat,encTT_get,List.getElem?_eq_getElem hlt,drop_cons hlt,hnext]
   simp only [cond_true,Option.map_some,Option.bind_some,row_atRow]
   rw [asks_ok (by omega) _ _ _ _ _ (by have:=ht _ hm;omega)]
   simp only [R74_r,allC,List.all_cons]
   cases hk2:(kindT p.wide p.vars ts[i] == 2)
   ·rfl
   ·exact preds_loop hk p l1 l2 ts hl ht n (i + 1) (by omega) (by omega)
  ·have hd:decide ((i:Int) < (ts.length:Int)) = false:=by simpa using hlt
   rw [hd,List.drop_eq_nil_of_le (by omega)]
   rfl
theorem l15Preds_ok {k:Nat} (hk:1000400<=k) (p:Prg) (l1 l2:List PV) (ts:List (List Nd)) (hl:ts.length<=1000) (ht:∀ t ∈ ts,t.length<=100):c165 k p.wide p.vars l1 l2 (encTT ts) = r165 (predsOK p ts):=by
 obtain ⟨k,rfl⟩:∃ j,k = j + 1:=⟨k - 1,by omega⟩
 rw [n165,encTT_length]
 unfold predsOK
 by_cases h8:ts.length<=8
 ·have e1:decide ((ts.length:Int) > 8) = false:=by simp;omega
  have e2:decide (ts.length<=8) = true:=by simpa using h8
  rw [e1,e2]
  simp only [cond_false,Bool.true_and]
  exact preds_loop (k:=k) (by omega) p l1 l2 ts hl ht k 0 (by omega) (by omega)
 ·have e1:decide ((ts.length:Int) > 8) = true:=by simp;omega
  have e2:decide (ts.length<=8) = false:=by simpa using h8
  rw [e1,e2]
  rfl
theorem predsD_loop {bs:List Nat} (hc:CodeOK bs) {k:Nat} (hk:2010<=k) {wide vars:Int} (hw:wide<=64) (hv:vars<=100) (l1 l2:List PV):∀ (m n:Nat) (q:Int) (o:List (List Nd)) {at':Int} (s:W),q.toNat<=m->m < n->q<=100->o.length + m<=200->(∀ t ∈ o,t.length<=100)->0<=at'->at' + 600 * m<=590000000 ->
  ∃ a2 s2 l,L106_1 k n o.length q (encB bs) at' (wi s) wide vars l1 l2 (encTT o) = r106 (encB bs) a2 (wi s2) (encTT l) /\ at'<=a2 /\ a2<=at' + 600 * m /\ l.length<=o.length + m /\ ∀ t ∈ l,t.length<=100
 | m,0,q,o,at',s,h1,h2,_,_,_,_,_=>by omega
 | m,n + 1,q,o,at',s,h1,h2,h3,h4,ho,h5,h6=>by
  rw [sL106_1]
  have etk:(encTT o).take o.length = encTT o:=by rw [List.take_of_length_le (by simp)]
  rw [etk]
  by_cases hq:q > 0
  ·have e1:decide (q > 0) = true:=by simpa using hq
   have hon:∀ n:Int,1<=one1 n /\ (n<=64->one1 n<=64) /\ (n<=100->one1 n<=100):=by intro n;unfold one1;split <;> omega
   rw [e1,l2One_ok (by omega),l2One_ok (by omega)]
   simp only [cond_true,R135_r]
   obtain ⟨a2,s2,v,h,h7,h8,h9,h10,_⟩:=pick_ok hc (k:=k) (by omega) h5 (by omega) s 2
   have h10:=h10 (by omega)
   rw [h]
   simp only [R103_r]
   cases m with
   | zero=>omega
   | succ m =>
    obtain ⟨a3,s3,t,h,h11,h12,h13,h14⟩:=asked_int hc (wide:=one1 wide) (vars:=one1 vars) (by have:=hon wide;omega) ((hon wide).2.1 hw) (hon vars).1 ((hon vars).2.2 hv) (d:=v) (by omega) (by omega) (k:=k) (by omega) (at':=a2) (by omega) (by omega) s2
    rw [h]
    simp only [R134_r,encT_length]
    have e3:(encT t).take t.length = encT t:=by rw [List.take_of_length_le (by simp)]
    rw [lim_ok (by omega) (by omega),i64_id (by omega) (by omega),e3,encTT_snoc]
    have:=predsD_loop hc hk hw hv l1 l2 m n (q - 1) (o ++ [t]) (at':=a3) s3 (by omega) (by omega) (by omega) (by simp;omega) (fun u hu=>by
     rcases List.mem_append.1 hu with hu | hu
     ·exact ho u hu
     ·rw [List.mem_singleton.1 hu];omega) (by omega) (by omega)
    rw [List.length_append] at this
    obtain ⟨a4,s4,l,h,h15,h16,h17,h18⟩:=this
    exact ⟨a4,s4,l,h,by omega,by omega,by simp at h17;omega,h18⟩
  ·have e1:decide (q > 0) = false:=by simpa using hq
   rw [e1]
   exact ⟨at',s,o,rfl,by omega,by omega,by omega,ho⟩
theorem preds_ok {bs:List Nat} (hc:CodeOK bs) {k:Nat} (hk:2100<=k) {wide vars:Int} (hw:wide<=64) (hv:vars<=100) (l1 l2:List PV) (m1:Int) (hm0:0<=m1) (hm:m1<=50) {at':Int} (h0:0<=at') (h1:at'<=500000000) (s:W) :
  ∃ a2 s2 l,c106 k wide vars l1 l2 m1 (encB bs) at' (wi s) = r106 (encB bs) a2 (wi s2) (encTT l) /\ at'<=a2 /\ a2<=at' + 40000 /\ l.length<=60 /\ ∀ t ∈ l,t.length<=100:=by
 obtain ⟨k,rfl⟩:∃ j,k = j + 1:=⟨k - 1,by omega⟩
 rw [n106,i64_id (by omega) (by omega)]
 obtain ⟨a2,s2,v,h,h2,h3,h4,h5,_⟩:=pick_ok hc (k:=k) (by omega) h0 (by omega) s (m1 + 1)
 have h5:=h5 (by omega)
 rw [h]
 simp only [R103_r]
 obtain ⟨a3,s3,l,h,h6,h7,h8,h9⟩:=predsD_loop hc (k:=k) (by omega) hw hv l1 l2 51 k v [] (at':=a2) s2 (by omega) (by omega) (by omega) (by simp) (by simp) (by omega) (by omega)
 exact ⟨a3,s3,l,h,by omega,by omega,by simp at h8;omega,h9⟩
end Go.Proofs.YthoecdnmokcfbaaGreat
/- The program's sights: walked through. -/
set_option linter.unusedVariables false
set_option linter.unusedSimpArgs false
set_option maxRecDepth 4000
namespace Go.Proofs.YthoecdnmokcfbaaGreat
open Go.Dp
theorem sameInts_loop {k:Nat} (a b:List (Int)) (hl:a.length = b.length) (ha:a.length<=1000000):∀ (n i:Nat),a.length - i < n->i<=a.length->L16_1 k n (encZ a) (encZ b) (a.length:Int) (i:Int) = r16 (decide (a.drop i = b.drop i))
 | 0,i,h,hi=>by omega
 | n + 1,i,h,hi=>by
  rw [sL16_1]
  by_cases hlt:i < a.length
  ·have hd:decide ((i:Int) < (a.length:Int)) = true:=by simpa using hlt
   have hnext:IntKind.i64.wrap ((i:Int) + 1) = ((i + 1:Nat):Int):=by rw [i64_id (by omega) (by omega)];omega
   rw [hd,encZ_lookup hlt,encZ_lookup (l:=b) (i:=i) (by omega),drop_cons hlt,drop_cons (l:=b) (by omega),hnext]
   simp only [cond_true,Option.bind_some,int_atInt,List.cons.injEq,Bool.decide_and]
   by_cases he:a[i] = b[i]
   ·have e1:(a[i] != b[i]) = false:=by simp [he]
    have e2:decide (a[i] = b[i]) = true:=by simpa using he
    rw [e1,e2]
    simp only [cond_false,Bool.true_and]
    exact sameInts_loop a b hl ha n (i + 1) (by omega) (by omega)
   ·have e1:(a[i] != b[i]) = true:=by
     simpa using he
    have e2:decide (a[i] = b[i]) = false:=by simpa using he
    rw [e1,e2];rfl
  ·have hd:decide ((i:Int) < (a.length:Int)) = false:=by simpa using hlt
   rw [hd,List.drop_eq_nil_of_le (by omega),List.drop_eq_nil_of_le (by omega)]
   rfl
theorem sameInts_ok {k:Nat} (hk:1000010<=k) (a b:List (Int)) (ha:a.length<=1000000):c16 k (encZ a) (encZ b) = r16 (decide (a = b)):=by
 obtain ⟨k,rfl⟩:∃ j,k = j + 1:=⟨k - 1,by omega⟩
 rw [n16,encZ_length,encZ_length]
 by_cases hl:a.length = b.length
 ·have e:((a.length:Int) != (b.length:Int)) = false:=by simp [hl]
  rw [e]
  exact sameInts_loop (k:=k) a b hl ha k 0 (by omega) (by omega)
 ·have e:((a.length:Int) != (b.length:Int)) = true:=by simp;omega
  have e2:decide (a = b) = false:=by simp;intro h;exact hl (by rw [h])
  rw [e,e2];rfl
structure OkV (v:List Int):Prop where
 len:v.length<=100
 rng:∀ x ∈ v,0<=x /\ x<=100
theorem goodI_loop {k:Nat} (v:List Int) (hv:v.length<=1000) (st:Int):∀ (n i m:Nat),v.length - i < n->i<=v.length->m<=i ->
  L113_1 k n st (m:Int) (encZ v) (v.length:Int) (i:Int) (encZ v) = r113 (goodF (v.drop i) (m:Int) && ((v.length:Int) == st))
 | 0,i,m,h,hi,hm=>by omega
 | n + 1,i,m,h,hi,hm=>by
  rw [sL113_1]
  by_cases hlt:i < v.length
  ·have hd:decide ((i:Int) < (v.length:Int)) = true:=by simpa using hlt
   have hnext:IntKind.i64.wrap ((i:Int) + 1) = ((i + 1:Nat):Int):=by rw [i64_id (by omega) (by omega)];omega
   rw [hd,encZ_lookup hlt,drop_cons hlt,hnext]
   simp only [cond_true,Option.bind_some,int_atInt,goodF]
   by_cases h0:v[i] < 0
   ·have e1:decide (v[i] < 0) = true:=by simpa using h0
    have e2:decide (0<=v[i]) = false:=by simpa using h0
    rw [e1,e2];rfl
   ·have e1:decide (v[i] < 0) = false:=by simpa using h0
    have e2:decide (0<=v[i]) = true:=decide_eq_true (by omega)
    rw [e1,e2]
    simp only [cond_false,Bool.true_and]
    by_cases h1:v[i] > (m:Int)
    ·have e3:decide (v[i] > (m:Int)) = true:=by simpa using h1
     have e4:decide (v[i]<=(m:Int)) = false:=decide_eq_false (by omega)
     rw [e3,e4];rfl
    ·have e3:decide (v[i] > (m:Int)) = false:=by simpa using h1
     have e4:decide (v[i]<=(m:Int)) = true:=decide_eq_true (by omega)
     rw [e3,e4]
     simp only [cond_false,Bool.true_and]
     have hm2:IntKind.i64.wrap ((m:Int) + 1) = ((m + 1:Nat):Int):=by rw [i64_id (by omega) (by omega)];omega
     have hm3:((m:Int) + 1) = ((m + 1:Nat):Int):=by omega
     rw [hm2,hm3]
     cases (v[i] == (m:Int))
     ·exact goodI_loop v hv st n (i + 1) m (by omega) (by omega) (by omega)
     ·exact goodI_loop v hv st n (i + 1) (m + 1) (by omega) (by omega) (by omega)
  ·have hd:decide ((i:Int) < (v.length:Int)) = false:=by simpa using hlt
   rw [hd,List.drop_eq_nil_of_le (by omega),encZ_length]
   rfl
def gsB (p:Prg) (v:List Int):Bool:=smallP p && (goodF v 0 && ((v.length:Int) == (nS p:Int)))
theorem goodSightI_ok {k:Nat} (hk:1000300<=k) (p:Prg) (hp:FitP p) (v:List Int) (hv:v.length<=1000):c49 k p.wide p.vars (encT p.start) (encCms p.cmds) (encZ v) = r49 (gsB p v):=by
 obtain ⟨k,rfl⟩:∃ j,k = j + 2:=⟨k - 2,by omega⟩
 rw [n49,isSmall_ok (by omega) p hp]
 simp only [R69_r,gsB]
 cases hs:smallP p
 ·rfl
 ·simp only [cond_true,Bool.true_and]
  rw [nSI_ok (by omega) hs]
  simp only [R50_r]
  rw [n113,encZ_length]
  have:=goodI_loop (k:=k) v hv (nS p:Int) k 0 0 (by omega) (by omega) (by omega)
  have h':L113_1 k k (nS p:Int) 0 (encZ v) (v.length:Int) 0 (encZ v) = _:=this
  rw [h']
  simp only [R113_r]
  rfl
def mxF:List Int->Int->Int
 | [],m=>m
 | x :: l,m=>mxF l (maxI m x)
theorem max_loop {k:Nat} (v:List Int) (hv:v.length<=1000):∀ (n i:Nat) (m:Int),v.length - i < n->i<=v.length->L175_1 k n (encZ v) m (i:Int) = r175 (mxF (v.drop i) m)
 | 0,i,m,h,hi=>by omega
 | n + 1,i,m,h,hi=>by
  rw [sL175_1,encZ_length]
  by_cases hlt:i < v.length
  ·have hd:decide ((i:Int) < (v.length:Int)) = true:=by simpa using hlt
   have hnext:IntKind.i64.wrap ((i:Int) + 1) = ((i + 1:Nat):Int):=by rw [i64_id (by omega) (by omega)];omega
   rw [hd,encZ_lookup hlt,drop_cons hlt,hnext]
   simp only [cond_true,Option.bind_some,int_atInt,mxF]
   exact max_loop v hv n (i + 1) _ (by omega) (by omega)
  ·have hd:decide ((i:Int) < (v.length:Int)) = false:=by simpa using hlt
   rw [hd,List.drop_eq_nil_of_le (by omega)]
   rfl
theorem mx_many:∀ (l:List Int) (m:Int),goodF l m = true->mxF l (m - 1) = manyF l m - 1
 | [],m,h=>rfl
 | x :: l,m,h=>by
  simp only [goodF,Bool.and_eq_true,decide_eq_true_eq] at h
  obtain ⟨h1,h2,h3⟩:=h
  rw [mxF,manyF]
  by_cases e:x = m
  ·subst e
   have he:(x == x) = true:=beq_self_eq_true _
   rw [he] at h3 ⊢
   simp only [cond_true] at h3 ⊢
   have:=mx_many l (x + 1) h3
   have hx:maxI (x - 1) x = x:=by
    unfold maxI
    rw [decide_eq_true (by omega:x > x - 1)]
    rfl
   rw [hx]
   rw [show x + 1 - 1 = x by omega] at this
   exact this
  ·have he:(x == m) = false:=by simpa using e
   rw [he] at h3 ⊢
   simp only [cond_false] at h3 ⊢
   have hx:maxI (m - 1) x = m - 1:=by
    unfold maxI
    rw [decide_eq_false (by omega:¬ x > m - 1)]
    rfl
   rw [hx]
   exact mx_many l m h3
theorem classes_ok {k:Nat} (hk:1010<=k) {v:List Int} (hv:v.length<=1000) (h0:v ≠ []) (hg:goodF v 0 = true):c116 k (encZ v) = r116 (manyF v 0):=by
 obtain ⟨k,rfl⟩:∃ j,k = j + 2:=⟨k - 2,by omega⟩
 have hlen:0 < v.length:=List.length_pos_iff.2 h0
 have hd:decide ((v.length:Int) < 1) = false:=decide_eq_false (by omega)
 have hl:lookP (encZ v) 0 = _:=encZ_lookup (l:=v) (i:=0) hlen
 have hv0:v = v[0] :: v.drop 1:=by
  have:=drop_cons hlen
  simpa using this
 rw [n116,n175,encZ_length,hd,hl]
 simp only [cond_false,Option.bind_some,int_atInt]
 have hm:=max_loop (k:=k) v hv k 1 v[0] (by omega) (by omega)
 have hm':L175_1 k k (encZ v) v[0] 1 = _:=hm
 rw [hm']
 simp only [R175_r]
 have hg2:=hg
 rw [hv0] at hg2
 simp only [goodF,Bool.and_eq_true,decide_eq_true_eq] at hg2
 have hz:v[0] = 0:=by omega
 have hmm:=mx_many (v[0] :: v.drop 1) 0 (by rw [<- hv0];exact hg)
 have hb:=good_lt v 0 (by simpa using hg) 0 (by rw [hv0,hz];simp)
 have hlenm:manyF v 0<=1000:=by
  have:=(cls_self hg).2
  have hs:(dis v []).length<=v.length:=nodup_sub (dis_nodup v [] (by simp)) (fun x hx=>by simpa using (dis_sub v [] x).1 hx)
  omega
 have e:mxF (v.drop 1) v[0] = manyF v 0 - 1:=by
  rw [<- hv0] at hmm
  rw [<- hmm]
  conv=>rhs;rw [hv0]
  rw [mxF,hz]
  rfl
 have hb2:(0:Int) < manyF v 0:=hb.2
 rw [e,show manyF v 0 - 1 + 1 = manyF v 0 by omega,i64_id (by omega) (by omega)]
end Go.Proofs.YthoecdnmokcfbaaGreat
/- The reference's sights: walked through. -/
set_option linter.unusedVariables false
set_option linter.unusedSimpArgs false
set_option maxRecDepth 4000
namespace Go.Proofs.YthoecdnmokcfbaaGreat
open Go.Dp
theorem R195p_enc (l:List Int) (K0:List PV->R):R195p (r195 (encZ l)) K0 = K0 (encZ l):=by
 have h:([SV.agg [.own 3 0 (encZ l)]].all plainS && true) = true:=by simp [plainS,plainC,encZ_plain];rfl
 show (bif ([SV.agg [.own 3 0 (encZ l)]].all plainS && true) then K0 (encZ l) else none) = _
 rw [h]
 rfl
theorem R194p_enc (l:List Int) (K0:List PV->R):R194p (r194 (encZ l)) K0 = K0 (encZ l):=by
 have h:([SV.agg [.own 3 0 (encZ l)]].all plainS && true) = true:=by simp [plainS,plainC,encZ_plain];rfl
 show (bif ([SV.agg [.own 3 0 (encZ l)]].all plainS && true) then K0 (encZ l) else none) = _
 rw [h]
 rfl
theorem R107p_enc (l:List Int) (b:Bool) (K0:List PV->Bool->R):R107p (r107 (encZ l) b) K0 = K0 (encZ l) b:=by
 have h:([SV.agg [.own 3 0 (encZ l)],SV.c (.p (.bool b))].all plainS && true) = true:=by simp [plainS,plainC,plainP,encZ_plain];rfl
 show (bif ([SV.agg [.own 3 0 (encZ l)],SV.c (.p (.bool b))].all plainS && true) then K0 (encZ l) b else none) = _
 rw [h]
 rfl
theorem encZ_tk (l:List Int):(encZ l).take l.length = encZ l:=List.take_of_length_le (by simp)
theorem gsS_loop {k:Nat} (hk:1<=k) (v:List Int) (hv:v.length<=1000):∀ (n i m:Nat),v.length - i < n->i<=v.length->m<=i ->
  L51_1 k n (m:Int) (encZ v) (v.length:Int) (i:Int) = r51 (goodF (v.drop i) (m:Int))
 | 0,i,m,h,hi,hm=>by omega
 | n + 1,i,m,h,hi,hm=>by
  rw [sL51_1]
  by_cases hlt:i < v.length
  ·have hd:decide ((i:Int) < (v.length:Int)) = true:=by simpa using hlt
   have hnext:IntKind.i64.wrap ((i:Int) + 1) = ((i + 1:Nat):Int):=by rw [i64_id (by omega) (by omega)];omega
   have hm2:IntKind.i64.wrap ((m:Int) + 1) = ((m + 1:Nat):Int):=by rw [i64_id (by omega) (by omega)];omega
   have hm3:((m:Int) + 1) = ((m + 1:Nat):Int):=by omega
   rw [hd,encZ_lookup hlt,drop_cons hlt,hnext]
   simp only [cond_true,Option.bind_some,int_atInt,goodF]
   rw [in_ok hk,hm2,hm3]
   simp only [R52_r]
   cases decide (0<=v[i])
   ·rfl
   cases decide (v[i]<=(m:Int))
   ·rfl
   simp only [Bool.true_and,Bool.not_true,cond_false]
   cases (v[i] == (m:Int))
   ·exact gsS_loop hk v hv n (i + 1) m (by omega) (by omega) (by omega)
   ·exact gsS_loop hk v hv n (i + 1) (m + 1) (by omega) (by omega) (by omega)
  ·have hd:decide ((i:Int) < (v.length:Int)) = false:=by simpa using hlt
   rw [hd,List.drop_eq_nil_of_le (by omega)]
   rfl
theorem goodSightS_ok {k:Nat} (hk:1000300<=k) (p:Prg) (hp:FitP p) (v:List Int) (hv:v.length<=1000):c51 k p.wide p.vars (encT p.start) (encCms p.cmds) (encZ v) = r51 (gsB p v):=by
 obtain ⟨k,rfl⟩:∃ j,k = j + 1:=⟨k - 1,by omega⟩
 rw [n51,l7Small_ok (by omega) p hp]
 simp only [R114_r,gsB]
 cases hs:smallP p
 ·rfl
 ·simp only [cond_false,Bool.not_true,Bool.true_and]
  rw [nSS_ok (by omega) hs,encZ_length]
  simp only [R115_r]
  cases hl:((v.length:Int) == (nS p:Int))
  ·have e:((v.length:Int) != (nS p:Int)) = true:=by simp only [bne,hl];rfl
   rw [e,Bool.and_false]
   rfl
  ·have e:((v.length:Int) != (nS p:Int)) = false:=by simp only [bne,hl];rfl
   rw [e,Bool.and_true]
   exact gsS_loop (k:=k) (by omega) v hv k 0 0 (by omega) (by omega) (by omega)
theorem of_loop2 {k:Nat} (ks:List Int) (hlen:ks.length<=1000) (kn:List Int) (n1 i:Nat) (hi:i < ks.length) (hkn:∀ x,x ∈ kn ↔ x ∈ ks.take i) (hk1:kn.length<=1000):∀ (n j:Nat),i - j < n->j<=i->(∀ x ∈ ks.take j,x ≠ ks[i]) ->
  L195_2 k n1 n (encZ ks) (kn.length:Int) (i:Int) ks[i] (kn.length:Int) (j:Int) (encZ ks) (ks.length:Int) (i:Int) 0 i [] (encZ ((ks.take i).map fun x=>(kn.idxOf x:Int))) =
   bif kn.contains ks[i] then L195_1 k n1 (encZ ks) (kn.length:Int) (encZ ks) (ks.length:Int) ((i + 1:Nat):Int) 0 (i + 1) [] (encZ (((ks.take i).map fun x=>(kn.idxOf x:Int)) ++ [(kn.idxOf ks[i]:Int)]))
   else L195_1 k n1 (encZ ks) ((kn.length + 1:Nat):Int) (encZ ks) (ks.length:Int) ((i + 1:Nat):Int) 0 (i + 1) [] (encZ (((ks.take i).map fun x=>(kn.idxOf x:Int)) ++ [(kn.length:Int)]))
 | 0,j,h,hj,hno=>by omega
 | n + 1,j,h,hj,hno=>by
  rw [sL195_2]
  have hol:((ks.take i).map fun x=>(kn.idxOf x:Int)).length = i:=by simp;omega
  have hnext:IntKind.i64.wrap ((i:Int) + 1) = ((i + 1:Nat):Int):=by rw [i64_id (by omega) (by omega)];omega
  have hm2:IntKind.i64.wrap ((kn.length:Int) + 1) = ((kn.length + 1:Nat):Int):=by rw [i64_id (by omega) (by omega)];omega
  have htk:(encZ ((ks.take i).map fun x=>(kn.idxOf x:Int))).take i = encZ ((ks.take i).map fun x=>(kn.idxOf x:Int)):=by rw [List.take_of_length_le (by simp;omega)]
  have hlim:(decide ((i + 1) * 8<=LIM) && decide (i + 1<=LIM)) = true:=lim_ok (by omega) (by omega)
  by_cases hlt:j < i
  ·have hd:decide ((j:Int) < (i:Int)) = true:=by simpa using hlt
   have hnj:IntKind.i64.wrap ((j:Int) + 1) = ((j + 1:Nat):Int):=by rw [i64_id (by omega) (by omega)];omega
   rw [hd,encZ_lookup (l:=ks) (i:=j) (by omega),hnj]
   simp only [cond_true,Option.bind_some,int_atInt]
   by_cases he:ks[j] = ks[i]
   ·have e1:(ks[j] == ks[i]) = true:=by simpa using he
    have hg:(decide ((0:Int)<=(j:Int)) && true) = true:=by
     rw [decide_eq_true (by omega)];rfl
    have hm:ks[i] ∈ ks.take i:=by
     rw [<- he]
     exact List.mem_take_iff_getElem.2 ⟨j,by omega,rfl⟩
    have hmk:ks[i] ∈ kn:=(hkn _).2 hm
    have hc:kn.contains ks[i] = true:=by simpa using hmk
    have hidx:=List.idxOf_lt_length_of_mem hmk
    have hget:(encZ ((ks.take i).map fun x=>(kn.idxOf x:Int)))[0 + (j:Int).toNat]? = some (.int .i64 (kn.idxOf ks[i]:Int)):=by
     rw [Nat.zero_add,Int.toNat_natCast,encZ_get,List.getElem?_map,List.getElem?_take_of_lt hlt,List.getElem?_eq_getElem (by omega),<- he]
     rfl
    have e2:(((kn.idxOf ks[i]:Nat):Int) == (kn.length:Int)) = false:=by
     have:((kn.idxOf ks[i]:Nat):Int) ≠ (kn.length:Int):=by omega
     simpa using this
    rw [e1,hg,hget,hc]
    simp only [cond_true,Option.bind_some,int_atInt]
    rw [e2,hlim,htk,hnext,encZ_snoc]
    rfl
   ·have e1:(ks[j] == ks[i]) = false:=by simpa using he
    rw [e1]
    simp only [cond_false]
    refine of_loop2 ks hlen kn n1 i hi hkn hk1 n (j + 1) (by omega) (by omega) fun x hx=>?_
    rw [List.take_succ_eq_append_getElem (by omega),List.mem_append,List.mem_singleton] at hx
    rcases hx with hx | rfl
    ·exact hno x hx
    ·exact he
  ·have hd:decide ((j:Int) < (i:Int)) = false:=by simpa using hlt
   have hji:j = i:=by omega
   subst hji
   have hc:kn.contains ks[j] = false:=by
    rw [<- Bool.not_eq_true,List.contains_iff_mem,hkn]
    intro hm
    exact hno _ hm rfl
   have e2:((kn.length:Int) == (kn.length:Int)) = true:=beq_self_eq_true _
   rw [hd,e2,hc,hlim,htk,hnext,hm2,encZ_snoc]
   rfl
theorem of_loop1 {k:Nat} (ks:List Int) (hlen:ks.length<=1000) (hk:1010<=k):∀ (n i:Nat) (kn:List Int),ks.length - i < n->i<=ks.length->(∀ x,x ∈ kn ↔ x ∈ ks.take i)->kn.length<=i ->
  L195_1 k n (encZ ks) (kn.length:Int) (encZ ks) (ks.length:Int) (i:Int) 0 i [] (encZ ((ks.take i).map fun x=>(kn.idxOf x:Int))) = r195 (encZ (((ks.take i).map fun x=>(kn.idxOf x:Int)) ++ cls (ks.drop i) kn))
 | 0,i,kn,h,hi,hkn,hk1=>by omega
 | n + 1,i,kn,h,hi,hkn,hk1=>by
  rw [sL195_1]
  by_cases hlt:i < ks.length
  ·have hd:decide ((i:Int) < (ks.length:Int)) = true:=by simpa using hlt
   rw [hd,encZ_lookup hlt,drop_cons hlt]
   simp only [cond_true,Option.bind_some,int_atInt,cls]
   have h2:=of_loop2 (k:=k) ks hlen kn n i hlt hkn (by omega) k 0 (by omega) (by omega) (by simp)
   have h':L195_2 k n k (encZ ks) (kn.length:Int) (i:Int) ks[i] (kn.length:Int) 0 (encZ ks) (ks.length:Int) (i:Int) 0 i [] (encZ ((ks.take i).map fun x=>(kn.idxOf x:Int))) = _:=h2
   rw [h']
   cases hc:kn.contains ks[i]
   ·have hp:ks[i] ∉ kn:=by simpa using hc
    simp only [cond_false]
    have e:((ks.take i).map fun x=>(kn.idxOf x:Int)) ++ [(kn.length:Int)] = (ks.take (i + 1)).map fun x=>((kn ++ [ks[i]]).idxOf x:Int):=by
     rw [List.take_succ_eq_append_getElem hlt,List.map_append]
     congr 1
     ·apply List.map_congr_left
      intro x hx
      rw [idx_app ((hkn x).2 hx)]
     ·simp [List.idxOf_append,hp]
    have:=of_loop1 ks hlen hk n (i + 1) (kn ++ [ks[i]]) (by omega) (by omega) (fun x=>by
     rw [List.take_succ_eq_append_getElem hlt,List.mem_append,List.mem_append,hkn x]) (by simp;omega)
    rw [<- e,List.length_append] at this
    rw [show (ks.take i).map (fun x=>(kn.idxOf x:Int)) ++ (kn.length:Int) :: cls (ks.drop (i + 1)) (kn ++ [ks[i]]) = ((ks.take i).map (fun x=>(kn.idxOf x:Int)) ++ [(kn.length:Int)]) ++ cls (ks.drop (i + 1)) (kn ++ [ks[i]]) by simp]
    exact this
   ·have hp:ks[i] ∈ kn:=by simpa using hc
    simp only [cond_true]
    have e:((ks.take i).map fun x=>(kn.idxOf x:Int)) ++ [(kn.idxOf ks[i]:Int)] = (ks.take (i + 1)).map fun x=>(kn.idxOf x:Int):=by
     rw [List.take_succ_eq_append_getElem hlt,List.map_append]
     rfl
    have:=of_loop1 ks hlen hk n (i + 1) kn (by omega) (by omega) (fun x=>by
     rw [List.take_succ_eq_append_getElem hlt,List.mem_append,hkn x]
     constructor
     ·exact .inl
     ·rintro (h | h)
      ·exact h
      ·rw [List.mem_singleton.1 h]
       exact (hkn _).1 hp) (by omega)
    rw [<- e] at this
    rw [show (ks.take i).map (fun x=>(kn.idxOf x:Int)) ++ (kn.idxOf ks[i]:Int) :: cls (ks.drop (i + 1)) kn = ((ks.take i).map (fun x=>(kn.idxOf x:Int)) ++ [(kn.idxOf ks[i]:Int)]) ++ cls (ks.drop (i + 1)) kn by simp]
    exact this
  ·have hd:decide ((i:Int) < (ks.length:Int)) = false:=by simpa using hlt
   rw [hd,List.drop_eq_nil_of_le (by omega)]
   simp only [cond_false,cls,List.append_nil]
   rw [List.take_of_length_le (by simp;omega)]
theorem of_ok {k:Nat} (hk:1020<=k) (ks:List Int) (hlen:ks.length<=1000):c195 k (encZ ks) = r195 (encZ (cls ks [])):=by
 obtain ⟨k,rfl⟩:∃ j,k = j + 1:=⟨k - 1,by omega⟩
 rw [n195,encZ_length]
 have:=of_loop1 (k:=k) ks hlen (by omega) k 0 [] (by omega) (by omega) (by simp) (by simp)
 simp only [List.take_zero,List.map_nil,List.nil_append,List.drop_zero,List.length_nil] at this
 exact this
def cutK (some1:List Int):List Int->Nat->List Int
 | [],_=>[]
 | x :: l,i=>(bif some1.contains (i:Int) then 2 * x + 1 else 2 * x) :: cutK some1 l (i + 1)
theorem cutK_len (some1:List Int):∀ (l:List Int) (i:Nat),(cutK some1 l i).length = l.length
 | [],i=>rfl
 | x :: l,i=>by simp [cutK,cutK_len some1 l]
def cutV (some1 v:List Int):List Int:=cls (cutK some1 v 0) []
theorem cut_loop {k:Nat} (hk:100010<=k) (some1 v:List Int) (hs:some1.length<=1000) (hv:OkV v):∀ (n i:Nat) (o:List Int),v.length - i < n->i<=v.length->o.length = i ->
  L168_1 k n (encZ some1) o.length (encZ v) (v.length:Int) (i:Int) [] (encZ o) = r168 (encZ (cls (o ++ cutK some1 (v.drop i) i) []))
 | 0,i,o,h,hi,ho=>by omega
 | n + 1,i,o,h,hi,ho=>by
  have hvl:=hv.len
  rw [sL168_1,encZ_tk]
  by_cases hlt:i < v.length
  ·have hd:decide ((i:Int) < (v.length:Int)) = true:=by simpa using hlt
   have hnext:IntKind.i64.wrap ((i:Int) + 1) = ((i + 1:Nat):Int):=by rw [i64_id (by omega) (by omega)];omega
   have hr:=hv.rng _ (List.getElem_mem hlt)
   have e1:IntKind.i64.wrap (2 * v[i]) = 2 * v[i]:=i64_id (by omega) (by omega)
   have e2:IntKind.i64.wrap (2 * v[i] + 1) = 2 * v[i] + 1:=i64_id (by omega) (by omega)
   rw [hd,encZ_lookup hlt,drop_cons hlt,hnext]
   simp only [cond_true,Option.bind_some,int_atInt,cutK]
   rw [has_ok hk some1 (by omega)]
   simp only [R138_r]
   rw [lim_ok (by omega) (by omega),e1,e2,encZ_snoc,encZ_snoc]
   cases some1.contains (i:Int)
   ·have:=cut_loop hk some1 v hs hv n (i + 1) (o ++ [2 * v[i]]) (by omega) (by omega) (by simp;omega)
    rw [List.length_append,List.append_assoc] at this
    exact this
   ·have:=cut_loop hk some1 v hs hv n (i + 1) (o ++ [2 * v[i] + 1]) (by omega) (by omega) (by simp;omega)
    rw [List.length_append,List.append_assoc] at this
    exact this
  ·have hd:decide ((i:Int) < (v.length:Int)) = false:=by simpa using hlt
   rw [hd,List.drop_eq_nil_of_le (by omega),of_ok (by omega) o (by omega)]
   simp only [cond_false,cutK,List.append_nil]
   rw [R195p_enc,List.take_of_length_le (by simp)]
theorem cut15_ok {k:Nat} (hk:100020<=k) (some1 v:List Int) (hs:some1.length<=1000) (hv:OkV v):c168 k (encZ v) (encZ some1) = r168 (encZ (cutV some1 v)):=by
 obtain ⟨k,rfl⟩:∃ j,k = j + 1:=⟨k - 1,by omega⟩
 have:=hv.len
 rw [n168,encZ_length]
 exact cut_loop (k:=k) (by omega) some1 v hs hv k 0 [] (by omega) (by omega) rfl
theorem cls_okV {α:Type} [BEq α] [LawfulBEq α] (l:List α) (h:l.length<=100):OkV (cls l []):=by
 refine ⟨by rw [cls_len];exact h,fun x hx=>?_⟩
 obtain ⟨h1,h2⟩:=good_cls l []
 have h3:=good_lt (cls l []) 0 h1 x hx
 have h4:(dis l []).length<=l.length:=nodup_sub (dis_nodup l [] (by simp)) (fun x hx=>by simpa using (dis_sub l [] x).1 hx)
 have h5:manyF (cls l []) 0 = ((dis l []).length:Int):=h2
 have h6:((0:Nat):Int) = 0:=rfl
 rw [h6] at h3
 omega
theorem cut_okV {some1 v:List Int} (hv:OkV v):OkV (cutV some1 v):=cls_okV _ (by rw [cutK_len];exact hv.len)
theorem cut_len (some1 v:List Int):(cutV some1 v).length = v.length:=by rw [cutV,cls_len,cutK_len]
theorem wh_le {p:Prg} (hs:smallP p = true) (t:List Nd):(whI p t).length<=32:=by
 have:=whN_len p t (nS p) 0
 have:=(nS_le hs).2
 unfold whI
 omega
theorem split_ok {k:Nat} (hk:1000300<=k) {p:Prg} (hs:smallP p = true) (l1 l2:List PV) (t:List Nd) (ht:t.length<=100) (hkt:kindT p.wide p.vars t = 2) {v:List Int} (hv:OkV v):c194 k p.wide p.vars l1 l2 (encZ v) (encT t) = r194 (encZ (cutV (whI p t) v)):=by
 obtain ⟨k,rfl⟩:∃ j,k = j + 1:=⟨k - 1,by omega⟩
 have:=wh_le hs t
 rw [n194,those_ok (by omega) hs l1 l2 t ht hkt]
 simp only [R59_r]
 rw [cut15_ok (by omega) _ _ (by omega) hv]
 simp only [R168_r,encZ_length,encZ_tk]
def byL (p:Prg):List (List Nd)->List Int->List Int
 | [],v=>v
 | t :: ts,v=>byL p ts (cutV (whI p t) v)
theorem byL_okV (p:Prg):∀ (ts:List (List Nd)) {v:List Int},OkV v->OkV (byL p ts v)
 | [],v,h=>h
 | t :: ts,v,h=>byL_okV p ts (cut_okV h)
theorem byL_len (p:Prg):∀ (ts:List (List Nd)) (v:List Int),(byL p ts v).length = v.length
 | [],v=>rfl
 | t :: ts,v=>by rw [byL,byL_len p ts,cut_len]
theorem byS_loop {k:Nat} (hk:1000300<=k) {p:Prg} (hs:smallP p = true) (l1 l2 u:List PV) (ts:List (List Nd)) (hl:ts.length<=1000) (ht:∀ t ∈ ts,t.length<=100) (hkt:∀ t ∈ ts,kindT p.wide p.vars t = 2):∀ (n i:Nat) (v:List Int),ts.length - i < n->i<=ts.length->OkV v ->
  L166_1 k n (encTT ts) (ts.length:Int) (i:Int) p.wide p.vars l1 l2 u v.length (encZ v) = r166 (encZ (byL p (ts.drop i) v))
 | 0,i,v,h,hi,hv=>by omega
 | n + 1,i,v,h,hi,hv=>by
  rw [sL166_1,encZ_tk]
  by_cases hlt:i < ts.length
  ·have hd:decide ((i:Int) < (ts.length:Int)) = true:=by simpa using hlt
   have hnext:IntKind.i64.wrap ((i:Int) + 1) = ((i + 1:Nat):Int):=by rw [i64_id (by omega) (by omega)];omega
   have hm:=List.getElem_mem hlt
   rw [hd,lookP_nat,encTT_get,List.getElem?_eq_getElem hlt,drop_cons hlt,hnext]
   simp only [cond_true,Option.map_some,Option.bind_some,row_atRow,byL]
   rw [split_ok hk hs l1 l2 _ (ht _ hm) (hkt _ hm) hv,R194p_enc,encZ_length]
   exact byS_loop hk hs l1 l2 u ts hl ht hkt n (i + 1) _ (by omega) (by omega) (cut_okV hv)
  ·have hd:decide ((i:Int) < (ts.length:Int)) = false:=by simpa using hlt
   rw [hd,List.drop_eq_nil_of_le (by omega)]
   rfl
def zeros (p:Prg):List Int:=List.replicate (nS p) 0
theorem zeros_okV {p:Prg} (hs:smallP p = true):OkV (zeros p):=by
 have:=(nS_le hs).2
 refine ⟨by simp [zeros];omega,fun x hx=>?_⟩
 rw [List.eq_of_mem_replicate hx]
 omega
theorem by_ok15 {k:Nat} (hk:1000400<=k) {p:Prg} (hs:smallP p = true) (l1 l2:List PV) (ts:List (List Nd)) (hl:ts.length<=1000) (ht:∀ t ∈ ts,t.length<=100) (hkt:∀ t ∈ ts,kindT p.wide p.vars t = 2):c166 k p.wide p.vars l1 l2 (encTT ts) = r166 (encZ (byL p ts (zeros p))):=by
 obtain ⟨k,rfl⟩:∃ j,k = j + 1:=⟨k - 1,by omega⟩
 have hle:=nS_le hs
 rw [n166,nSS_ok (by omega) hs]
 simp only [R115_r,Int.toNat_natCast]
 have hg:(((nS p:Int) == (nS p:Int)) && decide ((0:Int)<=(nS p:Int)) && decide (nS p * 8<=LIM) && decide (nS p<=LIM)) = true:=by
  have q1:decide (nS p * 8<=LIM) = true:=decide_eq_true (by unfold LIM;omega)
  have q2:decide (nS p<=LIM) = true:=decide_eq_true (by unfold LIM;omega)
  rw [q1,q2]
  simp
 have hz:(zeros p).length = nS p:=by simp [zeros]
 have he:List.replicate (nS p) (PV.int .i64 0) = encZ (zeros p):=by simp [zeros,encZ]
 have:=byS_loop (k:=k) (by omega) hs l1 l2 [] ts hl ht hkt k 0 (zeros p) (by omega) (by omega) (zeros_okV hs)
 rw [hg,he,encTT_length]
 rw [hz] at this
 exact this
def sbB (p:Prg) (ts:List (List Nd)):Bool:=smallP p && predsOK p ts
theorem sightByS_ok {k:Nat} (hk:1000500<=k) (p:Prg) (hp:FitP p) (ts:List (List Nd)) (hl:ts.length<=1000) (ht:∀ t ∈ ts,t.length<=100):c105 k p.wide p.vars (encT p.start) (encCms p.cmds) (encTT ts) = r105 (encZ (bif sbB p ts then byL p ts (zeros p) else [])) (sbB p ts):=by
 obtain ⟨k,rfl⟩:∃ j,k = j + 1:=⟨k - 1,by omega⟩
 rw [n105,l7Small_ok (by omega) p hp]
 simp only [R114_r,sbB]
 cases hs:smallP p
 · rfl
 simp only [Bool.not_true,cond_false]
 rw [l15Preds_ok (by omega) p _ _ ts hl ht]
 simp only [R165_r]
 cases hq:predsOK p ts
 · rfl
 simp only [Bool.not_true,cond_false,Bool.and_self,cond_true]
 rw [by_ok15 (by omega) hs _ _ ts hl ht (by simp only [predsOK,Bool.and_eq_true] at hq;exact allC_get hq.2)]
 simp only [R166_r,encZ_length,encZ_tk]
def coB (p:Prg) (v some1:List Int):Bool:=gsB p v && incG (v.length:Int) none some1
theorem cutOutS_ok {k:Nat} (hk:1000500<=k) (p:Prg) (hp:FitP p) {v some1:List Int} (hv:OkV v) (hs:some1.length<=1000):c107 k p.wide p.vars (encT p.start) (encCms p.cmds) (encZ v) (encZ some1) = r107 (encZ (bif coB p v some1 then cutV some1 v else [])) (coB p v some1):=by
 obtain ⟨k,rfl⟩:∃ j,k = j + 1:=⟨k - 1,by omega⟩
 have hvl:=hv.len
 rw [n107,goodSightS_ok (by omega) p hp v (by omega),encZ_length,i64_id (by omega) (by omega)]
 simp only [R51_r,coB]
 cases hg:gsB p v
 · rfl
 simp only [Bool.not_true,cond_false]
 rw [rise_ok (by omega) some1 (by omega)]
 simp only [R167_r]
 cases hq:incG (v.length:Int) none some1
 · rfl
 simp only [Bool.not_true,cond_false,Bool.and_self,cond_true]
 rw [cut15_ok (by omega) some1 v hs hv]
 simp only [R168_r,encZ_length,encZ_tk]
theorem gs_small {p:Prg} {v:List Int} (h:gsB p v = true):smallP p = true /\ goodF v 0 = true /\ v.length = nS p:=by
 simp only [gsB,Bool.and_eq_true,beq_iff_eq] at h
 exact ⟨h.1,h.2.1,by have:=h.2.2;omega⟩
end Go.Proofs.YthoecdnmokcfbaaGreat
