/- Nf4; Nf5; Nf6; Kb; Kc; Kd; Pa; Ke; Kf; Kg; Kh; Ki; Pb; Kj; Pc; Kk; Pe; Pf; Pg; Ph; Pi; Pv; Pw; Pd; Ha: texts put together. -/
import Derived.Test.YtgdegfijcijnoaaGreatM3
import Derived.Test.YtgdegfijcijnoaaGreatM2
set_option linter.all false
set_option maxRecDepth 100000
/- Normal forms: printed by nf.py. -/
namespace Go.Proofs.YtgdegfijcijnoaaGreat
open Go.Dp
theorem n201 (k:Nat) p p1 p2 p3 v class1:c201 (k + 1) p p1 p2 p3 v class1 =
 R129 (c129 k p p1 p2 p3 v) fun b1 =>
 bif b1 then
  R208 (c208 k v) fun v1 =>
  R140 (c140 k class1 0 (IntKind.i64.wrap (v1 - 1))) fun b2 =>
  r201 b2
 else r201 false:=by kernel_rfl
theorem n202 (k:Nat) p p1 p2 p3 v class1:c202 (k + 1) p p1 p2 p3 v class1 =
 R227 (c227 k v class1) fun l1 =>
 R125 (c125 k p p1 p2 p3 l1) fun l2 =>
 R181 (c181 k v l2) fun l3 =>
 r202 l3:=by kernel_rfl
theorem n207 (k:Nat) l lo hi:c207 (k + 1) l lo hi =
 z89 k k lo hi l (l.length:Int) 0:=by kernel_rfl
theorem w0v (k n:Nat) lo hi t9 t10 t11:z89 k (n + 1) lo hi t9 t10 t11 =
 bif decide (t11 < t10) then
  (q0i t9 t11).bind fun p1 =>
  (p1.atInt .i64 0).bind fun n1 =>
  R140 (c140 k n1 lo hi) fun b1 =>
  bif !b1 then
   r207 false
  else z89 k n lo hi t9 t10 (IntKind.i64.wrap (t11 + 1))
 else r207 true:=by kernel_rfl
theorem n208 (k:Nat) v:c208 (k + 1) v =
 z3d k k 0 v (v.length:Int) 0:=by kernel_rfl
theorem x9u (k n:Nat) many t7 t8 t9:z3d k (n + 1) many t7 t8 t9 =
 bif decide (t9 < t8) then
  (q0i t7 t9).bind fun p1 =>
  (p1.atInt .i64 0).bind fun n1 =>
  bif decide (n1>=many) then
   z3d k n (IntKind.i64.wrap (n1 + 1)) t7 t8 (IntKind.i64.wrap (t9 + 1))
  else z3d k n many t7 t8 (IntKind.i64.wrap (t9 + 1))
 else r208 many:=by kernel_rfl
theorem n210 (k:Nat) qs (h1:qs.length * 8<=LIM) (h2:qs.length<=LIM):c210 (k + 1) qs = r210 qs:=y5n (by first | (simp [T,orT,numT,cloneT,q5l,lk,h1,h2] <;> rfl) | (simp [T,cloneT,q5l,lk,h1,h2] <;> rfl))
theorem n213 (k:Nat) wide op a b:c213 (k + 1) wide op a b =
 bif (op == 3) then
  R150 (c150 k wide) fun v1 =>
  r213 (q0n .and .u64 (IntKind.u64.wrap (a + b)) v1)
 else
  bif (op == 4) then
   R150 (c150 k wide) fun v2 =>
   r213 (q0n .and .u64 (IntKind.u64.wrap (a - b)) v2)
  else
   bif (op == 5) then
    R150 (c150 k wide) fun v3 =>
    r213 (q0n .and .u64 (IntKind.u64.wrap (a * b)) v3)
   else
    bif (op == 6) then
     R263 (c263 k wide a b) fun v4 v5 b1 =>
     R150 (c150 k wide) fun v6 =>
     r213 (q0n .and .u64 v4 v6)
    else
     bif (op == 7) then
      R263 (c263 k wide a b) fun v7 v8 b2 =>
      R150 (c150 k wide) fun v9 =>
      r213 (q0n .and .u64 v8 v9)
     else
      bif (op == 8) then
       R150 (c150 k wide) fun v10 =>
       r213 (q0n .and .u64 (q0n .and .u64 a b) v10)
      else
       bif (op == 17) then
        R150 (c150 k wide) fun v11 =>
        r213 (q0n .and .u64 (q0n .and .u64 a b) v11)
       else
        bif (op == 9) then
         R150 (c150 k wide) fun v12 =>
         r213 (q0n .and .u64 (q0n .or .u64 a b) v12)
        else
         bif (op == 18) then
          R150 (c150 k wide) fun v13 =>
          r213 (q0n .and .u64 (q0n .or .u64 a b) v13)
         else
          bif (op == 10) then
           R150 (c150 k wide) fun v14 =>
           r213 (q0n .and .u64 (q0n .xor .u64 a b) v14)
          else
           bif (op == 11) then
            R264 (c264 k wide a b (op == 11)) fun v15 =>
            R150 (c150 k wide) fun v16 =>
            r213 (q0n .and .u64 v15 v16)
           else
            bif (op == 12) then
            R264 (c264 k wide a b (op == 11)) fun v17 =>
            R150 (c150 k wide) fun v18 =>
            r213 (q0n .and .u64 v17 v18)
            else
            bif (op == 14) then
            R265 (c265 k (a == b)) fun v19 =>
            R150 (c150 k wide) fun v20 =>
            r213 (q0n .and .u64 v19 v20)
            else
            bif (op == 15) then
            R265 (c265 k (decide (a < b))) fun v21 =>
            R150 (c150 k wide) fun v22 =>
            r213 (q0n .and .u64 v21 v22)
            else
            bif (op == 16) then
            R266 (c266 k wide a) fun v23 =>
            R266 (c266 k wide b) fun v24 =>
            R265 (c265 k (decide (v23 < v24))) fun v25 =>
            R150 (c150 k wide) fun v26 =>
            r213 (q0n .and .u64 v25 v26)
            else
            R150 (c150 k wide) fun v27 =>
            r213 (q0n .and .u64 0 v27):=by kernel_rfl
theorem n214 (k:Nat) wide vars deep l n1 n11:c214 (k + 1) wide vars deep l n1 n11 =
 bif (deep == 0) then
  R120 (c120 k 2 l n1 n11) fun l1 v1 v2 b1 =>
  bif b1 then
   R56 (c56 k 9 l1 v1 v2) fun l2 v3 v4 v5 =>
   R267 (c267 k wide (IntKind.u64.wrap v5)) fun v6 =>
   r214 l2 v3 v4 [PV.agg [.int .i64 1,.int .u64 v6]]
  else
   R56 (c56 k vars l1 v1 v2) fun l3 v7 v8 v9 =>
   r214 l3 v7 v8 [PV.agg [.int .i64 2,.int .u64 (IntKind.u64.wrap v9)]]
 else
  R120 (c120 k 4 l n1 n11) fun l4 v10 v11 b2 =>
  bif b2 then
   R120 (c120 k 2 l4 v10 v11) fun l5 v12 v13 b3 =>
   bif b3 then
    R56 (c56 k 9 l5 v12 v13) fun l6 v14 v15 v16 =>
    R267 (c267 k wide (IntKind.u64.wrap v16)) fun v17 =>
    r214 l6 v14 v15 [PV.agg [.int .i64 1,.int .u64 v17]]
   else
    R56 (c56 k vars l5 v12 v13) fun l7 v18 v19 v20 =>
    r214 l7 v18 v19 [PV.agg [.int .i64 2,.int .u64 (IntKind.u64.wrap v20)]]
  else
   R120 (c120 k 7 l4 v10 v11) fun l8 v21 v22 b4 =>
   bif b4 then
    R214 (c214 k wide vars (IntKind.i64.wrap (deep - 1)) l8 v21 v22) fun l9 v23 v24 l10 =>
    bif decide ((l10.length + 1) * 16<=LIM) && decide (l10.length + 1<=LIM) then
     r214 l9 v23 v24 (((l10.take l10.length) ++ [PV.agg [.int .i64 13,.int .u64 0]]).take (l10.length + 1))
    else none
   else
    R214 (c214 k wide vars (IntKind.i64.wrap (deep - 1)) l8 v21 v22) fun l11 v25 v26 l12 =>
    R214 (c214 k wide vars (IntKind.i64.wrap (deep - 1)) l11 v25 v26) fun l13 v27 v28 l14 =>
    bif decide ((l12.length + ((l14.take l14.length).length)) * 16<=LIM) && decide (l12.length + ((l14.take l14.length).length)<=LIM) then
     R177 (c177 k [PV.int .i64 3,PV.int .i64 3,PV.int .i64 3,PV.int .i64 4,PV.int .i64 4,PV.int .i64 5,PV.int .i64 8,PV.int .i64 9,PV.int .i64 10] l13 v27 v28) fun l15 v29 v30 v31 =>
     R120 (c120 k 6 l15 v29 v30) fun l16 v32 v33 b5 =>
     bif b5 then
      R177 (c177 k [PV.int .i64 6,PV.int .i64 7,PV.int .i64 11,PV.int .i64 12] l16 v32 v33) fun l17 v34 v35 v36 =>
      bif decide (((l12.length + ((l14.take l14.length).length)) + 1) * 16<=LIM) && decide ((l12.length + ((l14.take l14.length).length)) + 1<=LIM) then
       r214 l17 v34 v35 (((((l12.take l12.length) ++ (l14.take l14.length)).take (l12.length + ((l14.take l14.length).length))) ++ [PV.agg [.int .i64 v36,.int .u64 0]]).take ((l12.length + ((l14.take l14.length).length)) + 1))
      else none
     else
      bif decide (((l12.length + ((l14.take l14.length).length)) + 1) * 16<=LIM) && decide ((l12.length + ((l14.take l14.length).length)) + 1<=LIM) then
       r214 l16 v32 v33 (((((l12.take l12.length) ++ (l14.take l14.length)).take (l12.length + ((l14.take l14.length).length))) ++ [PV.agg [.int .i64 v31,.int .u64 0]]).take ((l12.length + ((l14.take l14.length).length)) + 1))
      else none
    else none:=by kernel_rfl
theorem x6t (k:Nat) qs n1 n11 l l1:z8q (k + 1) qs n1 n11 l l1 =
 q7y k k qs n1 n11 l l1 (qs.length:Int) 0:=by kernel_rfl
theorem x7x (k:Nat) qs n1 n11 l l1 l2 l3:z8p (k + 1) qs n1 n11 l l1 l2 l3 =
 q72 k k qs n1 n11 l l1 l2 l3 (qs.length:Int) 0:=by kernel_rfl
theorem y9e (k n:Nat) qs n1 n11 l l1 t7 t8:q7y k (n + 1) qs n1 n11 l l1 t7 t8 =
 bif decide (t8 < t7) then
  (q0i qs t8).bind fun p1 =>
  (p1.atRow 2 0).bind fun l2 =>
  R155 (c155 k l2 n1 n11 l l1) fun b1 =>
  bif b1 then
   q85 t8
  else q7y k n qs n1 n11 l l1 t7 (IntKind.i64.wrap (t8 + 1))
 else q85 (-1):=by kernel_rfl
theorem y86 (k n:Nat) qs n1 n11 l l1 l2 l3 t7 t8:q72 k (n + 1) qs n1 n11 l l1 l2 l3 t7 t8 =
 bif decide (t8 < t7) then
  (q0i qs t8).bind fun p1 =>
  (p1.atRow 2 0).bind fun l4 =>
  R221 (c221 k l4 n1 n11 l l1 l2 l3) fun b1 =>
  bif b1 then
   q8y t8
  else q72 k n qs n1 n11 l l1 l2 l3 t7 (IntKind.i64.wrap (t8 + 1))
 else q8y (-1):=by kernel_rfl
theorem x7g (k:Nat) qs l:z8d (k + 1) qs l =
 q70 k k qs l (qs.length:Int) 0:=by kernel_rfl
theorem y93 (k n:Nat) qs l t7 t8:q70 k (n + 1) qs l t7 t8 =
 bif decide (t8 < t7) then
  (q0i qs t8).bind fun p1 =>
  (p1.atRow 2 0).bind fun l1 =>
  R217 (c217 k l1 l) fun b1 =>
  bif b1 then
   q8q t8
  else q70 k n qs l t7 (IntKind.i64.wrap (t8 + 1))
 else q8q (-1):=by kernel_rfl
theorem x64 (k:Nat) qs n1 n11:y8n (k + 1) qs n1 n11 =
 q56 k k qs (qs.length:Int) 0 n1 n11:=by kernel_rfl
theorem y9l (k n:Nat) qs t7 t8 n1 n11:q56 k (n + 1) qs t7 t8 n1 n11 =
 bif decide (t8 < t7) then
  (q0i qs t8).bind fun p1 =>
  (p1.atRow 2 0).bind fun l1 =>
  R288 (c288 k l1 n1 n11) fun v1 v2 b1 =>
  bif b1 then
   q8u v1 v2 t8
  else q56 k n qs t7 (IntKind.i64.wrap (t8 + 1)) v1 v2
 else q8u n1 n11 (-1):=by kernel_rfl
theorem n216 (k:Nat) t l:c216 (k + 1) t l =
 bif decide ((l.length:Int) < 40) then
  y4j (z8r k (l.take l.length) t) fun b1 =>
  bif !b1 then
   R219 (c219 k t) fun l1 =>
   bif decide ((l.length + 1) * 24<=LIM) && decide (l.length + 1<=LIM) then
    r216 (((l.take l.length) ++ [PV.row 2 0 (l1.take l1.length)]).take (l.length + 1))
   else none
  else r216 (l.take l.length)
 else r216 (l.take l.length):=by kernel_rfl
theorem n217 (k:Nat) own l:c217 (k + 1) own l =
 R218 (c218 k own l) fun b1 =>
 r217 b1:=by kernel_rfl
theorem n218 (k:Nat) qs1 qs2:c218 (k + 1) qs1 qs2 =
 bif ((qs1.length:Int) != (qs2.length:Int)) then
  r218 false
 else y0t k k qs1 qs2 (qs1.length:Int) 0:=by kernel_rfl
theorem w1c (k n:Nat) qs1 qs2 t12 t13:y0t k (n + 1) qs1 qs2 t12 t13 =
 bif decide (t13 < t12) then
  (q0i qs1 t13).bind fun p1 =>
  bif p1.shp 2 then
   (p1.atInt .i64 0).bind fun n1 =>
   (p1.atInt .u64 1).bind fun n2 =>
   (q0i qs2 t13).bind fun p2 =>
   bif p2.shp 2 then
    (p2.atInt .i64 0).bind fun n3 =>
    (p2.atInt .u64 1).bind fun n4 =>
    bif (!((n1 == n3) && ((n2 == n4) && true))) then
     r218 false
    else y0t k n qs1 qs2 t12 (IntKind.i64.wrap (t13 + 1))
   else none
  else none
 else r218 true:=by kernel_rfl
theorem n219 (k:Nat) qs (h1:qs.length * 16<=LIM) (h2:qs.length<=LIM):c219 (k + 1) qs = r219 qs:=y5n (by first | (simp [T,orT,numT,cloneT,q5l,lk,h1,h2] <;> rfl) | (simp [T,cloneT,q5l,lk,h1,h2] <;> rfl))
theorem n220 (k:Nat) p p1 p2 p3 k1 t:c220 (k + 1) p p1 p2 p3 k1 t =
 y0a k k k1 t 0 p1 0 p p1 p2 p3 []:=by kernel_rfl
theorem x9i (k n:Nat) k1 t byLen t14 t15 n1 n11 l l1 xs:y0a k (n + 1) k1 t byLen t14 t15 n1 n11 l l1 xs =
 bif decide (t15 < t14) then
  bif decide ((byLen + 1) * 24<=LIM) && decide (byLen + 1<=LIM) then
   y0a k n k1 t (byLen + 1) t14 (IntKind.i64.wrap (t15 + 1)) n1 n11 l l1 ((xs.take byLen) ++ [PV.row 2 0 [PV.agg [.int .i64 2,.int .u64 (IntKind.u64.wrap t15)]]])
  else none
 else
  (q0i l1 k1).bind fun p1 =>
  (p1.atRow 2 1).bind fun l2 =>
  z48 k k t byLen l2 (l2.length:Int) 0 n1 n11 l l1 xs:=by kernel_rfl
theorem w1f (k n:Nat) t byLen t31 t32 t33 n1 n11 l l1 xs:z48 k (n + 1) t byLen t31 t32 t33 n1 n11 l l1 xs =
 bif decide (t33 < t32) then
  (q0i t31 t33).bind fun p1 =>
  bif p1.shp 2 then
   (p1.atInt .i64 0).bind fun n2 =>
   (p1.atRow 2 1).bind fun l2 =>
   bif decide ((0:Int)<=n2) && decide (n2 < (byLen:Int)) then
    (xs[0 + n2.toNat]?).bind fun p2 =>
    z48 k n t byLen t31 t32 (IntKind.i64.wrap (t33 + 1)) n1 n11 l l1 (xs.set (0 + n2.toNat) (PV.row 2 0 l2))
   else none
  else none
 else
  R268 (c268 k n1 n11 t (xs.take byLen)) fun l3 b1 =>
  r220 l3 b1:=by kernel_rfl
theorem n221 (k:Nat) t n1 n11 l l1 l2 l3:c221 (k + 1) t n1 n11 l l1 l2 l3 =
 R222 (c222 k n1 n11 l l1 t l2 l3) fun b1 =>
 r221 b1:=by kernel_rfl
theorem n222 (k:Nat) p p1 p2 p3 t a b:c222 (k + 1) p p1 p2 p3 t a b =
 x8t (c269 k [PV.row 2 0 t,PV.row 2 0 [PV.agg [.int .i64 19,.int .u64 0]]]) fun l1 =>
 R270 (c270 k p p1 p2 p3 t a) fun b1 =>
 bif b1 then
  y5e (c270 k p p1 p2 p3 (l1.take l1.length) b) fun b2 =>
  bif b2 then
   r222 true
  else
   y5e (c270 k p p1 p2 p3 (l1.take l1.length) a) fun b3 =>
   bif b3 then
    R270 (c270 k p p1 p2 p3 t b) fun b4 =>
    r222 b4
   else r222 false
 else
  y5e (c270 k p p1 p2 p3 (l1.take l1.length) a) fun b5 =>
  bif b5 then
   R270 (c270 k p p1 p2 p3 t b) fun b6 =>
   r222 b6
  else r222 false:=by kernel_rfl
theorem n223 (k:Nat) p p1 p2 p3 preds:c223 (k + 1) p p1 p2 p3 preds =
 R102 (c102 k p p1 p2 p3) fun b1 =>
 bif !b1 then
  r223 [] false
 else
  R74 (c74 k p p1 p2 p3 preds 0) fun b2 =>
  bif !b2 then
   r223 [] false
  else
   R103 (c103 k p p1 p2 p3) fun v1 =>
   bif (v1 == v1) && decide ((0:Int)<=v1) && decide (v1.toNat * 16<=LIM) && decide (v1.toNat<=LIM) then
    z39 k k preds v1.toNat (v1.toNat:Int) 0 p p1 p2 p3 [] (List.replicate v1.toNat (PV.agg [.int .i64 0,.int .i64 0]))
   else none:=by kernel_rfl
theorem w1x (k n:Nat) preds keysLen t25 t26 n1 n11 l l1 l2 xs:z39 k (n + 1) preds keysLen t25 t26 n1 n11 l l1 l2 xs =
 bif decide (t26 < t25) then
  R70 (c70 k n1 n11 l l1 t26) fun l3 =>
  z4m k n k preds keysLen t26 l3 t25 t26 preds (preds.length:Int) 0 n1 n11 l l1 l2 xs
 else
  x2i (c166 k (xs.take keysLen)) fun l4 =>
  r223 (l4.take l4.length) true:=by kernel_rfl
theorem x0w (k n1 n:Nat) preds keysLen no qs t25 t26 t32 t33 t34 n11 n12 l l1 l2 xs:z4m k n1 (n + 1) preds keysLen no qs t25 t26 t32 t33 t34 n11 n12 l l1 l2 xs =
 bif decide (t34 < t33) then
  (q0i t32 t34).bind fun p1 =>
  (p1.atRow 2 0).bind fun l3 =>
  bif decide ((0:Int)<=no) && decide (no < (keysLen:Int)) then
   (xs[0 + no.toNat]?).bind fun p2 =>
   (p2.atInt .i64 0).bind fun n2 =>
   bif decide ((0:Int)<=no) && decide (no < (keysLen:Int)) then
    R149 (c149 k n11 l3 qs) fun v1 =>
    bif !decide (t34 < 0) then
     (xs[0 + no.toNat]?).bind fun p3 =>
     (putPart p3 2 0 (PV.int .i64 (q0n .or .i64 n2 (shlI .i64 (IntKind.i64.wrap v1) t34))) 0).bind fun p4 =>
     z4m k n1 n preds keysLen no qs t25 t26 t32 t33 (IntKind.i64.wrap (t34 + 1)) n11 n12 l l1 l2 (xs.set (0 + no.toNat) p4)
    else none
   else none
  else none
 else z39 k n1 preds keysLen t25 (IntKind.i64.wrap (t26 + 1)) n11 n12 l l1 l2 xs:=by kernel_rfl
theorem n224 (k:Nat) l t:c224 (k + 1) l t =
 z4z k k l.length t l.length (l.length:Int) 0 l:=by kernel_rfl
theorem x90 (k n:Nat) lLen t t7Len t8 t9 xs:z4z k (n + 1) lLen t t7Len t8 t9 xs =
 bif decide (t9 < t8) then
  bif decide ((0:Int)<=t9) && decide (t9 < (t7Len:Int)) then
   (xs[0 + t9.toNat]?).bind fun p1 =>
   (p1.atRow 2 0).bind fun l1 =>
   R271 (c271 k l1 t) fun b1 =>
   bif b1 then
    r224 (xs.take lLen)
   else z4z k n lLen t t7Len t8 (IntKind.i64.wrap (t9 + 1)) xs
  else none
 else
  bif ((lLen:Int) == 40) then
   r224 (xs.take lLen)
  else
   bif decide ((0 + t.length) * 16<=LIM) && decide (0 + t.length<=LIM) then
    bif decide ((lLen + 1) * 24<=LIM) && decide (lLen + 1<=LIM) then
     r224 (((xs.take lLen) ++ [PV.row 2 0 (([] ++ t).take (0 + t.length))]).take (lLen + 1))
    else none
   else none:=by kernel_rfl
theorem n225 (k:Nat) p p1 p2 p3 k1 t:c225 (k + 1) p p1 p2 p3 k1 t =
 z9l k k k1 t 0 0 p p1 p2 p3 []:=by kernel_rfl
theorem w2a (k n:Nat) k1 t byLen v n1 n11 l l1 xs:z9l k (n + 1) k1 t byLen v n1 n11 l l1 xs =
 bif decide (v < n11) then
  bif decide ((byLen + 1) * 24<=LIM) && decide (byLen + 1<=LIM) then
   z9l k n k1 t (byLen + 1) (IntKind.i64.wrap (v + 1)) n1 n11 l l1 ((xs.take byLen) ++ [PV.row 2 0 [PV.agg [.int .i64 2,.int .u64 (IntKind.u64.wrap v)]]])
  else none
 else
  (q0i l1 k1).bind fun p1 =>
  (p1.atRow 2 1).bind fun l2 =>
  z3m k k t byLen l2 (l2.length:Int) 0 n1 n11 l l1 xs:=by kernel_rfl
theorem x9l (k n:Nat) t byLen t30 t31 t32 n1 n11 l l1 xs:z3m k (n + 1) t byLen t30 t31 t32 n1 n11 l l1 xs =
 bif decide (t32 < t31) then
  (q0i t30 t32).bind fun p1 =>
  bif p1.shp 2 then
   (p1.atInt .i64 0).bind fun n2 =>
   (p1.atRow 2 1).bind fun l2 =>
   bif decide ((0:Int)<=n2) && decide (n2 < (byLen:Int)) then
    (xs[0 + n2.toNat]?).bind fun p2 =>
    z3m k n t byLen t30 t31 (IntKind.i64.wrap (t32 + 1)) n1 n11 l l1 (xs.set (0 + n2.toNat) (PV.row 2 0 l2))
   else none
  else none
 else
  R272 (c272 k n1 n11 t (xs.take byLen)) fun l3 b1 =>
  r225 l3 b1:=by kernel_rfl
theorem n226 (k:Nat) p p1 p2 p3 t a b:c226 (k + 1) p p1 p2 p3 t a b =
 R124 (c124 k p p1 p2 p3 t) fun l1 =>
 R123 (c123 k a l1) fun b1 =>
 bif b1 then
  R127 (c127 k b l1) fun b2 =>
  bif !b2 then
   r226 true
  else
   R127 (c127 k a l1) fun b3 =>
   bif !b3 then
    R123 (c123 k b l1) fun b4 =>
    r226 b4
   else r226 false
 else
  R127 (c127 k a l1) fun b5 =>
  bif !b5 then
   R123 (c123 k b l1) fun b6 =>
   r226 b6
  else r226 false:=by kernel_rfl
theorem n227 (k:Nat) v class1:c227 (k + 1) v class1 =
 z4l k k class1 0 v (v.length:Int) 0 []:=by kernel_rfl
theorem w12 (k n:Nat) class1 outLen t9 t10 t11 xs:z4l k (n + 1) class1 outLen t9 t10 t11 xs =
 bif decide (t11 < t10) then
  (q0i t9 t11).bind fun p1 =>
  (p1.atInt .i64 0).bind fun n1 =>
  bif (n1 == class1) then
   bif decide ((outLen + 1) * 8<=LIM) && decide (outLen + 1<=LIM) then
    z4l k n class1 (outLen + 1) t9 t10 (IntKind.i64.wrap (t11 + 1)) ((xs.take outLen) ++ [PV.int .i64 t11])
   else none
  else z4l k n class1 outLen t9 t10 (IntKind.i64.wrap (t11 + 1)) xs
 else r227 (xs.take outLen):=by kernel_rfl
theorem n231 (k:Nat) p p1 p2 p3 qs:c231 (k + 1) p p1 p2 p3 qs =
 z0y k k qs 0 p3 (p3.length:Int) 0 p p1 p2 p3 []:=by kernel_rfl
theorem w13 (k n:Nat) qs outLen t9 t10 t11 n1 n11 l l1 xs:z0y k (n + 1) qs outLen t9 t10 t11 n1 n11 l l1 xs =
 bif decide (t11 < t10) then
  (q0i t9 t11).bind fun p1 =>
  bif p1.shp 2 then
   (p1.atRow 2 0).bind fun l2 =>
   (p1.atRow 2 1).bind fun l3 =>
   R194 (c194 k n1 n11 l l1 l2 qs) fun b1 =>
   bif b1 then
    bif decide ((outLen + 1) * 8<=LIM) && decide (outLen + 1<=LIM) then
     z0y k n qs (outLen + 1) t9 t10 (IntKind.i64.wrap (t11 + 1)) n1 n11 l l1 ((xs.take outLen) ++ [PV.int .i64 t11])
    else none
   else z0y k n qs outLen t9 t10 (IntKind.i64.wrap (t11 + 1)) n1 n11 l l1 xs
  else none
 else r231 (xs.take outLen):=by kernel_rfl
theorem n232 (k:Nat) p p1 p2 p3 qs:c232 (k + 1) p p1 p2 p3 qs =
 z9x k k qs 0 (IntKind.i64.wrap (p1 - 1)) p p1 p2 p3:=by kernel_rfl
theorem x1c (k n:Nat) qs n1 v n11 n12 l l1:z9x k (n + 1) qs n1 v n11 n12 l l1 =
 bif decide (v>=0) then
  bif !decide (IntKind.u64.wrap n11 < 0) then
   (q0i qs v).bind fun p1 =>
   (p1.atInt .u64 0).bind fun n2 =>
   z9x k n qs (IntKind.i64.wrap ((shlI .i64 n1 (IntKind.u64.wrap n11)) + (IntKind.i64.wrap n2))) (IntKind.i64.wrap (v - 1)) n11 n12 l l1
  else none
 else r232 n1:=by kernel_rfl
theorem n233 (k:Nat) p p1 p2 p3 qs k1:c233 (k + 1) p p1 p2 p3 qs k1 =
 bif decide ((0 + qs.length) * 8<=LIM) && decide (0 + qs.length<=LIM) then
  (q0i p3 k1).bind fun p4 =>
  (p4.atRow 2 1).bind fun l1 =>
  y1t k k qs (0 + qs.length) l1 (l1.length:Int) 0 p p1 p2 p3 ([] ++ qs)
 else none:=by kernel_rfl
theorem x9w (k n:Nat) qs outLen t18 t19 t20 n1 n11 l l1 xs:y1t k (n + 1) qs outLen t18 t19 t20 n1 n11 l l1 xs =
 bif decide (t20 < t19) then
  (q0i t18 t20).bind fun p1 =>
  bif p1.shp 2 then
   (p1.atInt .i64 0).bind fun n2 =>
   (p1.atRow 2 1).bind fun l2 =>
   R244 (c244 k n1 l2 (IntKind.i64.wrap ((l2.length:Int) - 1)) qs) fun v1 =>
   bif decide ((0:Int)<=n2) && decide (n2 < (outLen:Int)) then
    (xs[0 + n2.toNat]?).bind fun p2 =>
    y1t k n qs outLen t18 t19 (IntKind.i64.wrap (t20 + 1)) n1 n11 l l1 (xs.set (0 + n2.toNat) (PV.int .u64 v1))
   else none
  else none
 else r233 (xs.take outLen):=by kernel_rfl
theorem n234 (k:Nat) n1:c234 (k + 1) n1 =
 bif decide (n1>=1) then
  r234 (decide (n1<=64))
 else r234 false:=by kernel_rfl
theorem n235 (k:Nat) n1:c235 (k + 1) n1 =
 bif decide (n1>=1) then
  r235 (decide (n1<=4))
 else r235 false:=by kernel_rfl
theorem x6q (k:Nat) qs n1 n11 l l1:y6f (k + 1) qs n1 n11 l l1 =
 y8m (y7 k qs n1 n11 l l1) fun v1 v2 l2 l3 v3 =>
 y7c v1 v2 l2 l3 (decide (v3>=0)):=by kernel_rfl
theorem n237 (k:Nat) qc qc1 n1 n11 l l1:c237 (k + 1) qc qc1 n1 n11 l l1 =
 R238 (c238 k n1 n11 l l1 qc qc1) fun b1 =>
 r237 n1 n11 l l1 (!b1):=by kernel_rfl
theorem n238 (k:Nat) p p1 p2 p3 qc qc1:c238 (k + 1) p p1 p2 p3 qc qc1 =
 R107 (c107 k p p1 p2 p3 qc) fun b1 =>
 bif !b1 then
  r238 false
 else z08 k k qc1 (qc1.length:Int) 0 p p1 p2 p3 qc qc1:=by kernel_rfl
theorem w1h (k n:Nat) t13 t14 t15 n1 n11 l l1 l2 l3:z08 k (n + 1) t13 t14 t15 n1 n11 l l1 l2 l3 =
 bif decide (t15 < t14) then
  (q0i t13 t15).bind fun p1 =>
  bif p1.shp 2 then
   (p1.atInt .i64 0).bind fun n2 =>
   (p1.atRow 2 1).bind fun l4 =>
   bif decide (n2 < 0) then
    r238 false
   else
    bif decide (n2>=n11) then
     r238 false
    else
     bif decide (t15 > 0) then
      (q0i l3 (IntKind.i64.wrap (t15 - 1))).bind fun p2 =>
      (p2.atInt .i64 0).bind fun n3 =>
      bif decide (n3>=n2) then
       r238 false
      else
       R187 (c187 k n1 n11 l4 1) fun b1 =>
       bif !b1 then
        r238 false
       else z08 k n t13 t14 (IntKind.i64.wrap (t15 + 1)) n1 n11 l l1 l2 l3
     else
      R187 (c187 k n1 n11 l4 1) fun b2 =>
      bif !b2 then
       r238 false
      else z08 k n t13 t14 (IntKind.i64.wrap (t15 + 1)) n1 n11 l l1 l2 l3
  else none
 else r238 true:=by kernel_rfl
end Go.Proofs.YtgdegfijcijnoaaGreat
/- Normal forms: printed by nf.py. -/
namespace Go.Proofs.YtgdegfijcijnoaaGreat
open Go.Dp
theorem n239 (k:Nat) wide vars t:c239 (k + 1) wide vars t =
 R234 (c234 k wide) fun b1 =>
 bif !b1 then
  r239 false
 else
  R235 (c235 k vars) fun b2 =>
  bif !b2 then
   r239 false
  else
   bif decide ((t.length:Int) < 1) then
    r239 false
   else
    bif decide ((t.length:Int) > 48) then
     r239 false
    else y1c k k wide vars 0 t (t.length:Int) 0 []:=by kernel_rfl
theorem w18 (k n:Nat) wide vars stackLen t33 t34 t35 xs:y1c k (n + 1) wide vars stackLen t33 t34 t35 xs =
 bif decide (t35 < t34) then
  (q0i t33 t35).bind fun p1 =>
  bif p1.shp 2 then
   (p1.atInt .i64 0).bind fun n1 =>
   (p1.atInt .u64 1).bind fun n2 =>
   R274 (c274 k n1) fun v1 v2 v3 =>
   bif (v3 == 0) then
    r239 false
   else
    R275 (c275 k wide vars n1 n2) fun b1 =>
    bif !b1 then
     r239 false
    else
     bif decide (IntKind.i64.wrap ((stackLen:Int) - v1) < 0) then
      r239 false
     else
      bif decide ((0:Int)<=IntKind.i64.wrap ((stackLen:Int) - v1)) && decide (IntKind.i64.wrap ((stackLen:Int) - v1)<=(stackLen:Int)) && decide ((stackLen:Int)<=(stackLen:Int)) then
       y58 (y12 k ((xs.drop (0 + ((IntKind.i64.wrap ((stackLen:Int) - v1)).toNat))).take (stackLen - ((IntKind.i64.wrap ((stackLen:Int) - v1)).toNat))) v2) fun v4 b2 =>
       bif b2 then
        r239 false
       else
        bif decide ((0:Int)<=IntKind.i64.wrap ((stackLen:Int) - v1)) && decide (IntKind.i64.wrap ((stackLen:Int) - v1)<=(stackLen:Int)) then
         bif decide ((((IntKind.i64.wrap ((stackLen:Int) - v1)).toNat) + 1) * 8<=LIM) && decide (((IntKind.i64.wrap ((stackLen:Int) - v1)).toNat) + 1<=LIM) then
          y1c k n wide vars (((IntKind.i64.wrap ((stackLen:Int) - v1)).toNat) + 1) t33 t34 (IntKind.i64.wrap (t35 + 1)) ((xs.take ((IntKind.i64.wrap ((stackLen:Int) - v1)).toNat)) ++ [PV.int .i64 v3])
         else none
        else none
      else none
  else none
 else r239 ((stackLen:Int) == 1):=by kernel_rfl
theorem n240 (k:Nat) t:c240 (k + 1) t =
 (q0i t (IntKind.i64.wrap ((t.length:Int) - 1))).bind fun p1 =>
 (p1.atInt .i64 0).bind fun n1 =>
 R274 (c274 k n1) fun v1 v2 v3 =>
 r240 v3:=by kernel_rfl
theorem n242 (k:Nat) wide vars l n1 n11:c242 (k + 1) wide vars l n1 n11 =
 R56 (c56 k 2 l n1 n11) fun l1 v1 v2 v3 =>
 R151 (c151 k wide vars v3 l1 v1 v2) fun l2 v4 v5 l3 =>
 z3y k k wide vars 0 l2 v4 v5 [] [] l3.length 0 l3 []:=by kernel_rfl
theorem w00 (k n:Nat) wide vars v l n1 n11 l1 l2 Len Len1 xs xs1:z3y k (n + 1) wide vars v l n1 n11 l1 l2 Len Len1 xs xs1 =
 bif decide (v < vars) then
  R120 (c120 k 2 l n1 n11) fun l3 v1 v2 b1 =>
  bif b1 then
   R214 (c214 k wide vars 1 l3 v1 v2) fun l4 v3 v4 l5 =>
   bif decide ((Len1 + 1) * 32<=LIM) && decide (Len1 + 1<=LIM) then
    z3y k n wide vars (IntKind.i64.wrap (v + 1)) l4 v3 v4 l1 l2 Len (Len1 + 1) xs ((xs1.take Len1) ++ [PV.agg [.int .i64 v,.row 2 0 (l5.take l5.length)]])
   else none
  else z3y k n wide vars (IntKind.i64.wrap (v + 1)) l3 v1 v2 l1 l2 Len Len1 xs xs1
 else r242 l n1 n11 (xs.take Len) (xs1.take Len1):=by kernel_rfl
theorem n244 (k:Nat) wide t k1 state:c244 (k + 1) wide t k1 state =
 (q0i t k1).bind fun p1 =>
 bif p1.shp 2 then
  (p1.atInt .i64 0).bind fun n1 =>
  (p1.atInt .u64 1).bind fun n2 =>
  R246 (c246 k n1) fun v1 v2 v3 =>
  bif (n1 == 2) then
   (q0i state n2).bind fun p2 =>
   (p2.atInt .u64 0).bind fun n3 =>
   r244 n3
  else
   bif (v1 == 0) then
    r244 n2
   else
    bif (n1 == 13) then
     R244 (c244 k wide t (IntKind.i64.wrap (k1 - 1)) state) fun v4 =>
     R267 (c267 k wide (q0n .xor .u64 18446744073709551615 v4)) fun v5 =>
     r244 v5
    else
     bif (n1 == 19) then
      R244 (c244 k wide t (IntKind.i64.wrap (k1 - 1)) state) fun v6 =>
      r244 (IntKind.u64.wrap (1 - v6))
     else
      R278 (c278 k t (IntKind.i64.wrap (k1 - 1))) fun v7 =>
      R244 (c244 k wide t (IntKind.i64.wrap (v7 - 1)) state) fun v8 =>
      R244 (c244 k wide t (IntKind.i64.wrap (k1 - 1)) state) fun v9 =>
      R277 (c277 k wide n1 v8 v9) fun v10 =>
      r244 v10
 else none:=by kernel_rfl
theorem n245 (k:Nat) wide:c245 (k + 1) wide =
 R140 (c140 k wide 1 64) fun b1 =>
 r245 b1:=by kernel_rfl
theorem n246 (k:Nat) op:c246 (k + 1) op =
 bif (op == 1) then
  r246 0 1 1
 else
  bif (op == 2) then
   r246 0 1 1
  else
   bif (op == 20) then
    r246 0 2 2
   else
    bif (op == 13) then
     r246 1 1 1
    else
     bif (op == 19) then
      r246 1 2 2
     else
      R140 (c140 k op 3 12) fun b1 =>
      bif b1 then
       r246 2 1 1
      else
       R140 (c140 k op 14 16) fun b2 =>
       bif b2 then
        r246 2 1 2
       else
        bif (op == 17) then
         r246 2 2 2
        else
         bif (op == 18) then
          r246 2 2 2
         else r246 0 0 0:=by kernel_rfl
theorem n247 (k:Nat) wide vars n1 n11:c247 (k + 1) wide vars n1 n11 =
 bif (n1 == 1) then
  R279 (c279 k wide n11) fun b1 =>
  r247 b1
 else
  bif (n1 == 2) then
   r247 (decide (n11 < IntKind.u64.wrap vars))
  else
   bif (n1 == 20) then
    r247 (decide (n11 < 2))
   else r247 (n11 == 0):=by kernel_rfl
theorem n263 (k:Nat) wide a b:c263 (k + 1) wide a b =
 R286 (c286 k wide a b) fun b1 =>
 bif !b1 then
  r263 0 0 false
 else
  bif (b == 0) then
   R150 (c150 k wide) fun v1 =>
   r263 v1 a true
  else
   R287 (c287 k 0 a b) fun v2 v3 =>
   r263 v2 v3 true:=by kernel_rfl
theorem n264 (k:Nat) wide a by1 left:c264 (k + 1) wide a by1 left =
 bif decide (by1>=IntKind.u64.wrap wide) then
  r264 0
 else
  bif left then
   bif !decide (by1 < 0) then
    R150 (c150 k wide) fun v1 =>
    r264 (q0n .and .u64 (shlI .u64 a by1) v1)
   else none
  else
   bif !decide (by1 < 0) then
    r264 (shrI .u64 a by1)
   else none:=by kernel_rfl
theorem n265 (k:Nat) holds:c265 (k + 1) holds =
 bif holds then
  r265 1
 else r265 0:=by kernel_rfl
theorem n266 (k:Nat) wide a:c266 (k + 1) wide a =
 bif !decide (IntKind.i64.wrap (64 - wide) < 0) then
  bif !decide (IntKind.i64.wrap (64 - wide) < 0) then
   r266 (shrI .i64 (IntKind.i64.wrap (shlI .u64 a (IntKind.i64.wrap (64 - wide)))) (IntKind.i64.wrap (64 - wide)))
  else none
 else none:=by kernel_rfl
theorem n267 (k:Nat) wide a:c267 (k + 1) wide a =
 y0s k k wide a 0 0:=by kernel_rfl
theorem w17 (k n:Nat) wide a out k1:y0s k (n + 1) wide a out k1 =
 bif decide (k1 < wide) then
  bif !decide (IntKind.u64.wrap k1 < 0) then
   y0s k n wide a (q0n .or .u64 out (q0n .and .u64 a (shlI .u64 1 (IntKind.u64.wrap k1)))) (IntKind.i64.wrap (k1 + 1))
  else none
 else r267 out:=by kernel_rfl
theorem n268 (k:Nat) wide vars t by1:c268 (k + 1) wide vars t by1 =
 R239 (c239 k wide vars t) fun b1 =>
 bif !b1 then
  r268 [] false
 else
  bif ((by1.length:Int) != vars) then
   r268 [] false
  else
   z7o (z8h k by1 wide vars) fun v1 v2 b2 =>
   bif b2 then
    r268 [] false
   else z4a k k by1 0 t (t.length:Int) 0 v1 v2 []:=by kernel_rfl
theorem w0f (k n:Nat) by1 outLen t30 t31 t32 n1 n11 xs:z4a k (n + 1) by1 outLen t30 t31 t32 n1 n11 xs =
 bif decide (t32 < t31) then
  (q0i t30 t32).bind fun p1 =>
  bif p1.shp 2 then
   (p1.atInt .i64 0).bind fun n2 =>
   (p1.atInt .u64 1).bind fun n3 =>
   bif (n2 == 2) then
    (q0i by1 n3).bind fun p2 =>
    (p2.atRow 2 0).bind fun l1 =>
    bif decide ((outLen + l1.length) * 16<=LIM) && decide (outLen + l1.length<=LIM) then
     z4a k n by1 (outLen + l1.length) t30 t31 (IntKind.i64.wrap (t32 + 1)) n1 n11 ((xs.take outLen) ++ l1)
    else none
   else
    bif decide ((outLen + 1) * 16<=LIM) && decide (outLen + 1<=LIM) then
     z4a k n by1 (outLen + 1) t30 t31 (IntKind.i64.wrap (t32 + 1)) n1 n11 ((xs.take outLen) ++ [PV.agg [.int .i64 n2,.int .u64 n3]])
    else none
  else none
 else
  R289 (c289 k n1 n11 (xs.take outLen)) fun l2 b1 =>
  r268 l2 b1:=by kernel_rfl
theorem n269 (k:Nat) slices:c269 (k + 1) slices =
 y1g k k slices 0 slices (slices.length:Int) 0:=by kernel_rfl
theorem x9g (k n:Nat) slices size t9 t10 t11:y1g k (n + 1) slices size t9 t10 t11 =
 bif decide (t11 < t10) then
  (q0i t9 t11).bind fun p1 =>
  (p1.atRow 2 0).bind fun l1 =>
  bif decide (IntKind.i64.wrap (size + (l1.length:Int)) < 0) then
   none
  else y1g k n slices (IntKind.i64.wrap (size + (l1.length:Int))) t9 t10 (IntKind.i64.wrap (t11 + 1))
 else
  R290 (c290 k [] size) fun l2 =>
  y0l k k l2.length slices (slices.length:Int) 0 l2:=by kernel_rfl
theorem x9c (k n:Nat) newsliceLen t25 t26 t27 xs:y0l k (n + 1) newsliceLen t25 t26 t27 xs =
 bif decide (t27 < t26) then
  (q0i t25 t27).bind fun p1 =>
  (p1.atRow 2 0).bind fun l1 =>
  bif decide ((newsliceLen + l1.length) * 16<=LIM) && decide (newsliceLen + l1.length<=LIM) then
   y0l k n (newsliceLen + l1.length) t25 t26 (IntKind.i64.wrap (t27 + 1)) ((xs.take newsliceLen) ++ l1)
  else none
 else r269 (xs.take newsliceLen):=by kernel_rfl
theorem n270 (k:Nat) p p1 p2 p3 t some1:c270 (k + 1) p p1 p2 p3 t some1 =
 y6m (y2b k some1 p p1 p2 p3 t) fun b1 =>
 r270 (!b1):=by kernel_rfl
theorem n271 (k:Nat) a b:c271 (k + 1) a b =
 bif ((a.length:Int) != (b.length:Int)) then
  r271 false
 else y06 k k a b (a.length:Int) 0:=by kernel_rfl
theorem w05 (k n:Nat) a b t12 t13:y06 k (n + 1) a b t12 t13 =
 bif decide (t13 < t12) then
  (q0i a t13).bind fun p1 =>
  bif p1.shp 2 then
   (p1.atInt .i64 0).bind fun n1 =>
   (p1.atInt .u64 1).bind fun n2 =>
   (q0i b t13).bind fun p2 =>
   bif p2.shp 2 then
    (p2.atInt .i64 0).bind fun n3 =>
    (p2.atInt .u64 1).bind fun n4 =>
    bif (!((n1 == n3) && ((n2 == n4) && true))) then
     r271 false
    else y06 k n a b t12 (IntKind.i64.wrap (t13 + 1))
   else none
  else none
 else r271 true:=by kernel_rfl
theorem n272 (k:Nat) wide vars t by1:c272 (k + 1) wide vars t by1 =
 R292 (c292 k wide vars t) fun b1 =>
 bif !b1 then
  r272 [] false
 else
  bif ((by1.length:Int) != vars) then
   r272 [] false
  else z40 k k wide vars t by1 by1 (by1.length:Int) 0:=by kernel_rfl
theorem x9b (k n:Nat) wide vars t by1 t26 t27 t28:z40 k (n + 1) wide vars t by1 t26 t27 t28 =
 bif decide (t28 < t27) then
  (q0i t26 t28).bind fun p1 =>
  (p1.atRow 2 0).bind fun l1 =>
  R196 (c196 k wide vars l1) fun v1 =>
  bif (v1 != 1) then
   r272 [] false
  else z40 k n wide vars t by1 t26 t27 (IntKind.i64.wrap (t28 + 1))
 else z0r k k wide vars by1 0 t (t.length:Int) 0 []:=by kernel_rfl
theorem w0h (k n:Nat) wide vars by1 outLen t38 t39 t40 xs:z0r k (n + 1) wide vars by1 outLen t38 t39 t40 xs =
 bif decide (t40 < t39) then
  (q0i t38 t40).bind fun p1 =>
  bif p1.shp 2 then
   (p1.atInt .i64 0).bind fun n1 =>
   (p1.atInt .u64 1).bind fun n2 =>
   bif (n1 == 2) then
    (q0i by1 n2).bind fun p2 =>
    (p2.atRow 2 0).bind fun l1 =>
    bif decide ((outLen + l1.length) * 16<=LIM) && decide (outLen + l1.length<=LIM) then
     z0r k n wide vars by1 (outLen + l1.length) t38 t39 (IntKind.i64.wrap (t40 + 1)) ((xs.take outLen) ++ l1)
    else none
   else
    bif decide ((outLen + 1) * 16<=LIM) && decide (outLen + 1<=LIM) then
     z0r k n wide vars by1 (outLen + 1) t38 t39 (IntKind.i64.wrap (t40 + 1)) ((xs.take outLen) ++ [PV.agg [.int .i64 n1,.int .u64 n2]])
    else none
  else none
 else
  R293 (c293 k wide vars (xs.take outLen)) fun l2 b1 =>
  r272 l2 b1:=by kernel_rfl
theorem x6y (k:Nat) qs n1 n11 l l1:y7 (k + 1) qs n1 n11 l l1 =
 q6k k k qs (qs.length:Int) 0 n1 n11 l l1:=by kernel_rfl
theorem y84 (k n:Nat) qs t7 t8 n1 n11 l l1:q6k k (n + 1) qs t7 t8 n1 n11 l l1 =
 bif decide (t8 < t7) then
  (q0i qs t8).bind fun p1 =>
  bif p1.shp 2 then
   (p1.atRow 2 0).bind fun l2 =>
   (p1.atRow 2 1).bind fun l3 =>
   R237 (c237 k l2 l3 n1 n11 l l1) fun v1 v2 l4 l5 b1 =>
   bif b1 then
    z1j v1 v2 l4 l5 t8
   else q6k k n qs t7 (IntKind.i64.wrap (t8 + 1)) v1 v2 l4 l5
  else none
 else z1j n1 n11 l l1 (-1):=by kernel_rfl
theorem n274 (k:Nat) op:c274 (k + 1) op =
 bif (op == 1) then
  r274 0 0 1
 else
  bif (op == 2) then
   r274 0 0 1
  else
   bif (op == 20) then
    r274 0 0 2
   else
    bif (op == 13) then
     r274 1 1 1
    else
     bif (op == 19) then
      r274 1 2 2
     else
      bif decide (op>=3) then
       bif decide (op<=12) then
        r274 2 1 1
       else
        bif decide (op>=14) then
         bif decide (op<=16) then
          r274 2 1 2
         else
          bif (op == 17) then
           r274 2 2 2
          else
           bif (op == 18) then
            r274 2 2 2
           else r274 0 0 0
        else
         bif (op == 17) then
          r274 2 2 2
         else
          bif (op == 18) then
           r274 2 2 2
          else r274 0 0 0
      else
       bif decide (op>=14) then
        bif decide (op<=16) then
         r274 2 1 2
        else
         bif (op == 17) then
          r274 2 2 2
         else
          bif (op == 18) then
           r274 2 2 2
          else r274 0 0 0
       else
        bif (op == 17) then
         r274 2 2 2
        else
         bif (op == 18) then
          r274 2 2 2
         else r274 0 0 0:=by kernel_rfl
theorem n275 (k:Nat) wide vars x x1:c275 (k + 1) wide vars x x1 =
 bif (x == 1) then
  R294 (c294 k wide x1) fun b1 =>
  r275 b1
 else
  bif (x == 2) then
   r275 (decide (x1 < IntKind.u64.wrap vars))
  else
   bif (x == 20) then
    r275 (decide (x1<=1))
   else r275 (x1 == 0):=by kernel_rfl
theorem n276 (k:Nat) own n1:c276 (k + 1) own n1 =
 r276 n1 (own != n1):=by kernel_rfl
theorem n277 (k:Nat) wide op a b:c277 (k + 1) wide op a b =
 R295 (c295 k wide a b) fun v1 v2 b1 =>
 bif (op == 3) then
  R267 (c267 k wide (IntKind.u64.wrap (a + b))) fun v3 =>
  r277 v3
 else
  bif (op == 4) then
   R267 (c267 k wide (IntKind.u64.wrap (a - b))) fun v4 =>
   r277 v4
  else
   bif (op == 5) then
    R267 (c267 k wide (IntKind.u64.wrap (a * b))) fun v5 =>
    r277 v5
   else
    bif (op == 6) then
     r277 v1
    else
     bif (op == 7) then
      r277 v2
     else
      bif (op == 8) then
       r277 (q0n .and .u64 a b)
      else
       bif (op == 17) then
        r277 (q0n .and .u64 a b)
       else
        bif (op == 9) then
         r277 (q0n .or .u64 a b)
        else
         bif (op == 18) then
          r277 (q0n .or .u64 a b)
         else
          bif (op == 10) then
           r277 (q0n .xor .u64 a b)
          else
           bif (op == 11) then
            R296 (c296 k wide a b true) fun v6 =>
            r277 v6
           else
            bif (op == 12) then
            R296 (c296 k wide a b false) fun v7 =>
            r277 v7
            else
            bif (op == 14) then
            R297 (c297 k (a == b)) fun v8 =>
            r277 v8
            else
            bif (op == 15) then
            R297 (c297 k (decide (a < b))) fun v9 =>
            r277 v9
            else
            bif (op == 16) then
            R298 (c298 k wide a) fun v10 =>
            R298 (c298 k wide b) fun v11 =>
            R297 (c297 k (decide (v10 < v11))) fun v12 =>
            r277 v12
            else r277 0:=by kernel_rfl
theorem n278 (k:Nat) t k1:c278 (k + 1) t k1 =
 (q0i t k1).bind fun p1 =>
 (p1.atInt .i64 0).bind fun n1 =>
 R246 (c246 k n1) fun v1 v2 v3 =>
 q9b k k t v1 k1:=by kernel_rfl
theorem x0i (k n:Nat) t many from1:q9b k (n + 1) t many from1 =
 bif decide (many > 0) then
  R278 (c278 k t (IntKind.i64.wrap (from1 - 1))) fun v1 =>
  q9b k n t (IntKind.i64.wrap (many - 1)) v1
 else r278 from1:=by kernel_rfl
theorem n279 (k:Nat) wide a:c279 (k + 1) wide a =
 R245 (c245 k wide) fun b1 =>
 bif b1 then
  R267 (c267 k wide a) fun v1 =>
  r279 (v1 == a)
 else r279 false:=by kernel_rfl
end Go.Proofs.YtgdegfijcijnoaaGreat
/- Normal forms: printed by nf.py. -/
namespace Go.Proofs.YtgdegfijcijnoaaGreat
open Go.Dp
theorem n286 (k:Nat) wide a b:c286 (k + 1) wide a b =
 R294 (c294 k wide a) fun b1 =>
 bif b1 then
  R294 (c294 k wide b) fun b2 =>
  r286 b2
 else r286 false:=by kernel_rfl
theorem n287 (k:Nat) hi lo y:c287 (k + 1) hi lo y =
 bif (y == 0) then
  none
 else
  bif decide (y<=hi) then
   none
  else
   bif (hi == 0) then
    bif !(y == 0) then
     bif !(y == 0) then
      r287 (IntKind.u64.wrap (lo.tdiv y)) (lo.tmod y)
     else none
    else none
   else
    R300 (c300 k y) fun v1 =>
    bif !decide (IntKind.u64.wrap v1 < 0) then
     bif !decide (IntKind.u64.wrap v1 < 0) then
      bif !decide (IntKind.u64.wrap (64 - (IntKind.u64.wrap v1)) < 0) then
       bif !decide (IntKind.u64.wrap v1 < 0) then
        bif !(shrI .u64 (shlI .u64 y (IntKind.u64.wrap v1)) 32 == 0) then
         w2y k k (shlI .u64 y (IntKind.u64.wrap v1)) (IntKind.u64.wrap v1) (shrI .u64 (shlI .u64 y (IntKind.u64.wrap v1)) 32) (q0n .and .u64 (shlI .u64 y (IntKind.u64.wrap v1)) 4294967295) (q0n .or .u64 (shlI .u64 hi (IntKind.u64.wrap v1)) (shrI .u64 lo (IntKind.u64.wrap (64 - (IntKind.u64.wrap v1))))) (shrI .u64 (shlI .u64 lo (IntKind.u64.wrap v1)) 32) (q0n .and .u64 (shlI .u64 lo (IntKind.u64.wrap v1)) 4294967295) (IntKind.u64.wrap ((q0n .or .u64 (shlI .u64 hi (IntKind.u64.wrap v1)) (shrI .u64 lo (IntKind.u64.wrap (64 - (IntKind.u64.wrap v1))))).tdiv (shrI .u64 (shlI .u64 y (IntKind.u64.wrap v1)) 32))) (IntKind.u64.wrap ((q0n .or .u64 (shlI .u64 hi (IntKind.u64.wrap v1)) (shrI .u64 lo (IntKind.u64.wrap (64 - (IntKind.u64.wrap v1))))) - (IntKind.u64.wrap ((IntKind.u64.wrap ((q0n .or .u64 (shlI .u64 hi (IntKind.u64.wrap v1)) (shrI .u64 lo (IntKind.u64.wrap (64 - (IntKind.u64.wrap v1))))).tdiv (shrI .u64 (shlI .u64 y (IntKind.u64.wrap v1)) 32))) * (shrI .u64 (shlI .u64 y (IntKind.u64.wrap v1)) 32)))))
        else none
       else none
      else none
     else none
    else none:=by kernel_rfl
theorem n288 (k:Nat) own n1 n11:c288 (k + 1) own n1 n11 =
 R187 (c187 k n1 n11 own 1) fun b1 =>
 r288 n1 n11 (!b1):=by kernel_rfl
theorem n289 (k:Nat) wide vars t:c289 (k + 1) wide vars t =
 R239 (c239 k wide vars t) fun b1 =>
 bif !b1 then
  r289 [] false
 else r289 t true:=by kernel_rfl
theorem n290 (k:Nat) qs n1:c290 (k + 1) qs n1 =
 bif decide (n1 < 0) then
  none
 else
  bif decide (IntKind.i64.wrap (n1 - (IntKind.i64.wrap (0 - (qs.length:Int)))) > 0) then
   bif decide ((0:Int)<=(qs.length:Int)) then
    bif decide ((0:Int) < IntKind.i64.wrap (n1 - (IntKind.i64.wrap (0 - (qs.length:Int))))) && decide (((IntKind.i64.wrap (n1 - (IntKind.i64.wrap (0 - (qs.length:Int))))).toNat) * 16<=LIM) && decide ((IntKind.i64.wrap (n1 - (IntKind.i64.wrap (0 - (qs.length:Int))))).toNat<=LIM) then
     bif decide ((0:Int)<=(qs.length:Int)) && decide ((qs.length:Int)<=((IntKind.i64.wrap (n1 - (IntKind.i64.wrap (0 - (qs.length:Int))))).toNat:Int)) then
      r290 ((List.replicate ((IntKind.i64.wrap (n1 - (IntKind.i64.wrap (0 - (qs.length:Int))))).toNat) (PV.agg [.int .i64 0,.int .u64 0])).take qs.length)
     else none
    else none
   else none
  else r290 []:=by kernel_rfl
theorem n291 (k:Nat) no n1 n11 l l1 l2:c291 (k + 1) no n1 n11 l l1 l2 =
 R70 (c70 k n1 n11 l l1 no) fun l3 =>
 R69 (c69 k n1 n11 l l1 l2 l3) fun b1 =>
 r291 (!b1):=by kernel_rfl
theorem n292 (k:Nat) wide vars t:c292 (k + 1) wide vars t =
 R196 (c196 k wide vars t) fun v1 =>
 r292 (decide (v1 > 0)):=by kernel_rfl
theorem n293 (k:Nat) wide vars t:c293 (k + 1) wide vars t =
 R292 (c292 k wide vars t) fun b1 =>
 bif !b1 then
  r293 [] false
 else r293 t true:=by kernel_rfl
theorem n294 (k:Nat) wide a:c294 (k + 1) wide a =
 R234 (c234 k wide) fun b1 =>
 bif b1 then
  R150 (c150 k wide) fun v1 =>
  r294 (decide (a<=v1))
 else r294 false:=by kernel_rfl
theorem n295 (k:Nat) wide a b:c295 (k + 1) wide a b =
 R301 (c301 k wide a b) fun b1 =>
 bif !b1 then
  r295 0 0 false
 else
  bif (b == 0) then
   R267 (c267 k wide 18446744073709551615) fun v1 =>
   r295 v1 a true
  else
   bif !(b == 0) then
    bif !(b == 0) then
     r295 (IntKind.u64.wrap (a.tdiv b)) (a.tmod b) true
    else none
   else none:=by kernel_rfl
theorem n296 (k:Nat) wide a by1 left:c296 (k + 1) wide a by1 left =
 bif decide (by1>=IntKind.u64.wrap wide) then
  r296 0
 else z33 k k wide a by1 left:=by kernel_rfl
theorem w09 (k n:Nat) wide a by1 left:z33 k (n + 1) wide a by1 left =
 bif decide (by1 > 0) then
  bif left then
   R267 (c267 k wide (shlI .u64 a 1)) fun v1 =>
   z33 k n wide v1 (IntKind.u64.wrap (by1 - 1)) left
  else z33 k n wide (shrI .u64 a 1) (IntKind.u64.wrap (by1 - 1)) left
 else r296 a:=by kernel_rfl
theorem n297 (k:Nat) is1:c297 (k + 1) is1 =
 bif is1 then
  r297 1
 else r297 0:=by kernel_rfl
theorem n298 (k:Nat) wide a:c298 (k + 1) wide a =
 bif !decide (IntKind.u64.wrap (IntKind.i64.wrap (wide - 1)) < 0) then
  bif (q0n .and .u64 (shrI .u64 a (IntKind.u64.wrap (IntKind.i64.wrap (wide - 1)))) 1 == 1) then
   R267 (c267 k wide 18446744073709551615) fun v1 =>
   r298 (IntKind.i64.wrap (q0n .or .u64 a (q0n .xor .u64 18446744073709551615 v1)))
  else r298 (IntKind.i64.wrap a)
 else none:=by kernel_rfl
theorem n301 (k:Nat) wide a b:c301 (k + 1) wide a b =
 R279 (c279 k wide a) fun b1 =>
 bif b1 then
  R279 (c279 k wide b) fun b2 =>
  r301 b2
 else r301 false:=by kernel_rfl
end Go.Proofs.YtgdegfijcijnoaaGreat
/- The draws: next,pick,one,among;cutting a word. -/
namespace Go.Proofs.YtgdegfijcijnoaaGreat
open Go.Dp
structure CodeOK (bs:List Nat):Prop where
 len:bs.length<=1048576
 lt:∀ b ∈ bs,b < 256
theorem x5i (x:Int):0<=q0n .and .u64 x 255 /\ q0n .and .u64 x 255<=255:=by
 have e:q0n .and .u64 x 255 = wi (BitVec.ofInt 64 x &&& 255#64):=by
  show IntKind.u64.wrap (((BitVec.ofInt 64 x) &&& (BitVec.ofInt 64 255)).toNat:Int) = _
  exact q8c _
 rw [e]
 refine ⟨q36 _,?_⟩
 unfold wi
 rw [BitVec.toNat_and]
 have:=Nat.and_le_right (n:=(BitVec.ofInt 64 x).toNat) (m:=(255#64).toNat)
 have h2:(255#64).toNat = 255:=rfl
 omega
theorem x1o {bs:List Nat} (hc:CodeOK bs) {k:Nat} (hk:1<=k) {at':Int} (h0:0<=at') (h1:at'<=1000000000) (s:W) :
  ∃ s2 v,c136 k (encB bs) at' (wi s) = r136 (encB bs) (at' + 1) (wi s2) v /\ 0<=v /\ v<=255:=by
 obtain ⟨k,rfl⟩:∃ j,k = j + 1:=⟨k - 1,by omega⟩
 rw [n136,q0b (n:=at' + 1) (by omega) (by omega)]
 simp only [q4t]
 have hl:=hc.len
 cases hd:decide (at' < ((encB bs).length:Int))
 ·simp only [cond_false]
  cases hd2:decide (at' + 1<=((encB bs).length:Int))
  ·simp only [cond_false]
   have h3:=x5i (shrI .u64 (wi (BitVec.ofInt 64 (wi (BitVec.ofInt 64 (wi (BitVec.ofInt 64 (wi s * 6364136223846793005)) + 0)) + 1442695040888963407))) 40)
   exact ⟨_,_,rfl,by rw [q0b (by omega) (by omega)];exact h3⟩
  ·simp only [cond_true]
   exact ⟨_,_,rfl,by omega,by omega⟩
 ·simp only [cond_true]
  simp only [q9t,decide_eq_true_eq] at hd
  have hlt:at'.toNat < bs.length:=by omega
  have hlk:q0i (encB bs) at' = some (.int .u8 (bs[at'.toNat]:Int)):=by
   rw [q48 h0,x68]
   simp [hlt]
  have hb:=hc.lt bs[at'.toNat] (List.getElem_mem hlt)
  rw [hlk]
  simp only [Option.bind_some,q0k]
  rw [q0b (n:=(bs[at'.toNat]:Int)) (by omega) (by omega)]
  cases hd2:decide (at' + 1<=((encB bs).length:Int))
  ·simp only [cond_false]
   have h3:=x5i (shrI .u64 (wi (BitVec.ofInt 64 (wi (BitVec.ofInt 64 (wi (BitVec.ofInt 64 (wi s * 6364136223846793005)) + wi (BitVec.ofInt 64 (bs[at'.toNat]:Int)))) + 1442695040888963407))) 40)
   exact ⟨_,_,rfl,by rw [q0b (by omega) (by omega)];exact h3⟩
  ·simp only [cond_true]
   exact ⟨_,_,rfl,by omega,by omega⟩
theorem q1k {bs:List Nat} (hc:CodeOK bs) {k:Nat} (hk:2<=k) {at':Int} (h0:0<=at') (h1:at'<=999999000) (s:W) (n:Int) :
  ∃ a2 s2 v,c56 k n (encB bs) at' (wi s) = r56 (encB bs) a2 (wi s2) v /\ at'<=a2 /\ a2<=at' + 2 /\ 0<=v /\ (1<=n->v < n) /\ (n<=1->v = 0) /\ v<=65535:=by
 obtain ⟨k,rfl⟩:∃ j,k = j + 1:=⟨k - 1,by omega⟩
 rw [n56]
 cases hd:decide (n<=1)
 ·simp only [cond_false]
  simp at hd
  obtain ⟨s2,v,h,hv0,hv1⟩:=x1o hc (k:=k) (by omega) h0 (by omega) s
  rw [h]
  simp only [x5j]
  have hn0:(n == 0) = false:=by simp;omega
  cases hd2:decide (n > 200)
  ·simp only [cond_false,hn0,Bool.not_false,cond_true]
   have h5:=Int.tmod_lt_of_pos v (b:=n) (by omega)
   have h6:=Int.tmod_nonneg n hv0
   have h7:v.tmod n<=v:=by rw [Int.tmod_eq_emod_of_nonneg hv0];exact z3k hv0 (by omega)
   exact ⟨_,_,_,rfl,by omega,by omega,h6,fun _=>h5,by omega,by omega⟩
  ·simp only [cond_true,hn0,Bool.not_false]
   obtain ⟨s3,v3,h3,hv2,hv3⟩:=x1o hc (k:=k) (by omega) (at':=at' + 1) (by omega) (by omega) s2
   rw [h3]
   simp only [x5j,cond_true]
   rw [q0b (n:=v * 256) (by omega) (by omega),q0b (n:=v * 256 + v3) (by omega) (by omega)]
   have h5:=Int.tmod_lt_of_pos (v * 256 + v3) (b:=n) (by omega)
   have h6:=Int.tmod_nonneg n (a:=v * 256 + v3) (by omega)
   have h7:(v * 256 + v3).tmod n<=v * 256 + v3:=by rw [Int.tmod_eq_emod_of_nonneg (by omega)];exact z3k (by omega) (by omega)
   exact ⟨_,_,_,rfl,by omega,by omega,h6,fun _=>h5,by omega,by omega⟩
 ·simp only [cond_true]
  simp at hd
  exact ⟨_,_,_,rfl,by omega,by omega,by omega,by omega,fun _=>rfl,by omega⟩
theorem q3r {bs:List Nat} (hc:CodeOK bs) {k:Nat} (hk:3<=k) {at':Int} (h0:0<=at') (h1:at'<=999999000) (s:W) (n:Int) :
  ∃ a2 s2 b,c120 k n (encB bs) at' (wi s) = r120 (encB bs) a2 (wi s2) b /\ at'<=a2 /\ a2<=at' + 2:=by
 obtain ⟨k,rfl⟩:∃ j,k = j + 1:=⟨k - 1,by omega⟩
 obtain ⟨a2,s2,v,h,h2,h3,_⟩:=q1k hc (k:=k) (by omega) h0 h1 s n
 rw [n120,h]
 simp only [q16]
 exact ⟨_,_,_,rfl,h2,h3⟩
theorem q6r {bs:List Nat} (hc:CodeOK bs) {k:Nat} (hk:3<=k) {at':Int} (h0:0<=at') (h1:at'<=999999000) (s:W) (L:List Int) (hL:1<=L.length) :
  ∃ a2 s2 v,c177 k (encZ L) (encB bs) at' (wi s) = r177 (encB bs) a2 (wi s2) v /\ at'<=a2 /\ a2<=at' + 2 /\ v ∈ L:=by
 obtain ⟨k,rfl⟩:∃ j,k = j + 1:=⟨k - 1,by omega⟩
 obtain ⟨a2,s2,v,h,h2,h3,h4,h5,_⟩:=q1k hc (k:=k) (by omega) h0 h1 s (L.length:Int)
 rw [n177,q0d,h]
 simp only [q16]
 have hv:=h5 (by omega)
 have hlt:v.toNat < L.length:=by omega
 have e:v = (v.toNat:Int):=by omega
 have hlk:q0i (encZ L) v = some (.int .i64 L[v.toNat]):=by
  rw [q48 h4,q2s]
  simp [hlt]
 rw [hlk]
 simp only [Option.bind_some,q0k]
 exact ⟨_,_,_,rfl,h2,h3,List.getElem_mem hlt⟩
def q3d (n:Nat):W:=BitVec.allOnes 64 >>> (64 - n)
theorem z4k {n:Nat} (hn:n<=64) (i:Nat):(q3d n).getLsbD i = decide (i < n):=by
 unfold q3d
 rw [BitVec.getLsbD_ushiftRight,BitVec.getLsbD_allOnes]
 by_cases h:i < n <;> simp <;> omega
theorem y2k {k:Nat} (hk:1<=k) {wide:Int} (h1:0<=wide) (h2:wide<=64):c150 k wide = r150 (wi (q3d wide.toNat)):=by
 obtain ⟨k,rfl⟩:∃ j,k = j + 1:=⟨k - 1,by omega⟩
 rw [n150,q0b (by omega) (by omega)]
 have hd:decide (64 - wide < 0) = false:=by simp;omega
 simp only [hd,Bool.not_false,cond_true]
 have e:(18446744073709551615:Int) = wi (BitVec.allOnes 64):=rfl
 rw [e,z3v _ (by omega)]
 have:(64 - wide).toNat = 64 - wide.toNat:=by omega
 rw [this]
 rfl
theorem x8a (a:W) (j:Nat) (hj:j < 64):(a &&& q3d j) ||| (a &&& (1#64 <<< j)) = a &&& q3d (j + 1):=by
 apply BitVec.eq_of_getLsbD_eq
 intro i hi
 rw [BitVec.getLsbD_or,BitVec.getLsbD_and,BitVec.getLsbD_and,BitVec.getLsbD_and,z4k (by omega),z4k (by omega)]
 rw [BitVec.getLsbD_shiftLeft,BitVec.getLsbD_one]
 by_cases h1:i < j
 ·have:i < j + 1:=by omega
  simp [h1,this]
 ·by_cases h2:i = j
  ·subst h2;simp;omega
  ·have h3:¬ i < j + 1:=by omega
   have h4:¬ (i - j = 0):=by omega
   simp [h1,h3,h4]
theorem x05 {wide:Int} (h2:wide<=64) (a:W) (k:Nat):∀ (m n:Nat) (j:Nat),(wide - j).toNat<=m->m < n->(j:Int)<=wide->y0s k n wide (wi a) (wi (a &&& q3d j)) (j:Int) = r267 (wi (a &&& q3d wide.toNat))
 | m,0,j,hm,hn,hj=>by omega
 | m,n + 1,j,hm,hn,hj=>by
  rw [w17]
  by_cases h:(j:Int) < wide
  ·have hd:decide ((j:Int) < wide) = true:=by simpa using h
   rw [q4m (n:=(j:Int)) (by omega) (by omega)]
   have hd2:decide ((j:Int) < 0) = false:=by simp
   have e1:(1:Int) = wi (1#64):=rfl
   simp only [hd,hd2,cond_true,Bool.not_false]
   rw [e1,y0o _ (by omega),q7b,y5k,<- e1,Int.toNat_natCast,x8a a j (by omega),q0b (by omega) (by omega)]
   have e2:(j:Int) + 1 = ((j + 1:Nat):Int):=by omega
   rw [e2]
   cases m with
   | zero=>omega
   | succ m=>exact x05 h2 a k m n (j + 1) (by omega) (by omega) (by omega)
  ·have hd:decide ((j:Int) < wide) = false:=by simpa using h
   simp only [hd,cond_false]
   have:wide.toNat = j:=by omega
   rw [this]
theorem y0d {k:Nat} (hk:70<=k) {wide:Int} (h1:0<=wide) (h2:wide<=64) (a:W):c267 k wide (wi a) = r267 (wi (a &&& q3d wide.toNat)):=by
 obtain ⟨k,rfl⟩:∃ j,k = j + 1:=⟨k - 1,by omega⟩
 rw [n267]
 have e0:(0:Int) = wi (a &&& q3d 0):=by
  have:q3d 0 = 0#64:=by rfl
  rw [this];simp [wi]
 have:=x05 h2 a k wide.toNat k 0 (by omega) (by omega) (by omega)
 rw [<- e0] at this
 exact this
end Go.Proofs.YtgdegfijcijnoaaGreat
/- The draws of terms. -/
namespace Go.Proofs.YtgdegfijcijnoaaGreat
open Go.Dp
theorem y39 {bs:List Nat} (hc:CodeOK bs) {wide vars:Int} (hw0:0<=wide) (hw:wide<=64) (hv:1<=vars) (hv2:vars<=100):∀ (d:Nat) {k:Nat} (hk:80 + d<=k) (hd:d<=16) {at':Int} (h0:0<=at') (h1:at' + (20 * 2 ^ d:Nat)<=900000000) (s:W),
  ∃ a2 s2 t,c214 k wide vars (d:Int) (encB bs) at' (wi s) = r214 (encB bs) a2 (wi s2) (encT t) /\ at'<=a2 /\ a2<=at' + (20 * (2 ^ d:Nat) - 10:Nat) /\ 1<=t.length /\ t.length + 1<=2 ^ (d + 1)
 | 0,k,hk,hd,at',h0,h1,s=>by
  obtain ⟨k,rfl⟩:∃ j,k = j + 1:=⟨k - 1,by omega⟩
  rw [n214]
  have e:(((0:Nat):Int) == 0) = true:=rfl
  simp only [e,cond_true]
  obtain ⟨a2,s2,b,h,h2,h3⟩:=q3r hc (k:=k) (by omega) h0 (by omega) s 2
  rw [h]
  simp only [q3o]
  cases b
  ·simp only [cond_false]
   obtain ⟨a3,s3,v,h,h4,h5,_⟩:=q1k hc (k:=k) (by omega) (at':=a2) (by omega) (by omega) s2 vars
   rw [h]
   simp only [q16]
   rw [q4t]
   exact ⟨a3,s3,[(2,BitVec.ofInt 64 v)],rfl,by omega,by (simp;try omega),by simp,by simp⟩
  ·simp only [cond_true]
   obtain ⟨a3,s3,v,h,h4,h5,_⟩:=q1k hc (k:=k) (by omega) (at':=a2) (by omega) (by omega) s2 9
   rw [h]
   simp only [q16]
   rw [q4t,y0d (by omega) hw0 hw]
   simp only [q7e]
   exact ⟨a3,s3,[(1,_)],rfl,by omega,by (simp;try omega),by simp,by simp⟩
 | d + 1,k,hk,hd,at',h0,h1,s=>by
  obtain ⟨k,rfl⟩:∃ j,k = j + 1:=⟨k - 1,by omega⟩
  have ih:=fun (a:Int) (h0:0<=a) (h1:a + (20 * 2 ^ d:Nat)<=900000000) (s:W)=>y39 hc hw0 hw hv hv2 d (k:=k) (by omega) (by omega) h0 h1 s
  have hp:(2:Nat) ^ d<=65536:=Nat.pow_le_pow_right (n:=2) (by omega) (show d<=16 by omega)
  have hp1:1<=(2:Nat) ^ d:=Nat.one_le_two_pow
  have e2:(2:Nat) ^ (d + 1) = 2 * 2 ^ d:=by rw [Nat.pow_succ];omega
  have e3:(2:Nat) ^ (d + 1 + 1) = 4 * 2 ^ d:=by rw [Nat.pow_succ,e2];omega
  rw [e3]
  rw [e2] at h1 ⊢
  rw [n214]
  have e:(((d + 1:Nat):Int) == 0) = false:=by (simp;try omega)
  have e1:IntKind.i64.wrap (((d + 1:Nat):Int) - 1) = (d:Int):=by rw [q0b (by omega) (by omega)];omega
  simp only [e,cond_false,e1]
  obtain ⟨a2,s2,b,h,h2,h3⟩:=q3r hc (k:=k) (by omega) h0 (by omega) s 4
  rw [h]
  simp only [q3o]
  cases b
  ·simp only [cond_false]
   obtain ⟨a3,s3,b,h,h4,h5⟩:=q3r hc (k:=k) (by omega) (at':=a2) (by omega) (by omega) s2 7
   rw [h]
   simp only [q3o]
   cases b
   ·simp only [cond_false]
    obtain ⟨a4,s4,t,h,h6,h7,h8,h9⟩:=ih a3 (by omega) (by omega) s3
    rw [h]
    simp only [z0k]
    obtain ⟨a5,s5,u,h,h10,h11,h12,h13⟩:=ih a4 (by omega) (by omega) s4
    rw [h]
    simp only [z0k]
    rw [q0r (by (simp;try omega)) (by omega)]
    simp only [cond_true]
    obtain ⟨a6,s6,v,h,h14,h15,_⟩:=q6r hc (k:=k) (by omega) (at':=a5) (by omega) (by omega) s5 [3,3,3,4,4,5,8,9,10] (by simp)
    rw [show ([PV.int .i64 3,PV.int .i64 3,PV.int .i64 3,PV.int .i64 4,PV.int .i64 4,PV.int .i64 5,PV.int .i64 8,PV.int .i64 9,PV.int .i64 10]:List PV) = encZ [3,3,3,4,4,5,8,9,10] from rfl,h]
    simp only [z0x]
    obtain ⟨a7,s7,b,h,h16,h17⟩:=q3r hc (k:=k) (by omega) (at':=a6) (by omega) (by omega) s6 6
    rw [h]
    simp only [q3o]
    cases b
    ·simp only [cond_false]
     rw [q0r (by (simp;try omega)) (by omega),y5b]
     exact ⟨a7,s7,t ++ u ++ [(v,0#64)],by simp [encT,encN,wi],by omega,by omega,by (simp;try omega),by (simp;try omega)⟩
    ·simp only [cond_true]
     obtain ⟨a8,s8,v2,h,h18,h19,_⟩:=q6r hc (k:=k) (by omega) (at':=a7) (by omega) (by omega) s7 [6,7,11,12] (by simp)
     rw [show ([PV.int .i64 6,PV.int .i64 7,PV.int .i64 11,PV.int .i64 12]:List PV) = encZ [6,7,11,12] from rfl,h]
     simp only [z0x]
     rw [q0r (by (simp;try omega)) (by omega),y5b]
     exact ⟨a8,s8,t ++ u ++ [(v2,0#64)],by simp [encT,encN,wi],by omega,by omega,by (simp;try omega),by (simp;try omega)⟩
   ·simp only [cond_true]
    obtain ⟨a4,s4,t,h,h6,h7,h8,h9⟩:=ih a3 (by omega) (by omega) s3
    rw [h]
    simp only [z0k]
    rw [q0r (by (simp;try omega)) (by omega),x80]
    exact ⟨a4,s4,t ++ [(13,0#64)],by simp [encT,encN,wi],by omega,by omega,by simp,by (simp;try omega)⟩
  ·simp only [cond_true]
   obtain ⟨a3,s3,b,h,h4,h5⟩:=q3r hc (k:=k) (by omega) (at':=a2) (by omega) (by omega) s2 2
   rw [h]
   simp only [q3o]
   cases b
   ·simp only [cond_false]
    obtain ⟨a4,s4,v,h,h6,h7,_⟩:=q1k hc (k:=k) (by omega) (at':=a3) (by omega) (by omega) s3 vars
    rw [h]
    simp only [q16]
    rw [q4t]
    exact ⟨a4,s4,[(2,BitVec.ofInt 64 v)],rfl,by omega,by omega,by simp,by (simp;try omega)⟩
   ·simp only [cond_true]
    obtain ⟨a4,s4,v,h,h6,h7,_⟩:=q1k hc (k:=k) (by omega) (at':=a3) (by omega) (by omega) s3 9
    rw [h]
    simp only [q16]
    rw [q4t,y0d (by omega) hw0 hw]
    simp only [q7e]
    exact ⟨a4,s4,[(1,_)],rfl,by omega,by omega,by simp,by (simp;try omega)⟩
theorem z2d {bs:List Nat} (hc:CodeOK bs) {wide vars:Int} (hw0:0<=wide) (hw:wide<=64) (hv:1<=vars) (hv2:vars<=100) {d:Int} (hd0:0<=d) (hd:d<=3) {k:Nat} (hk:90<=k) {at':Int} (h0:0<=at') (h1:at'<=800000000) (s:W) :
  ∃ a2 s2 t,c214 k wide vars d (encB bs) at' (wi s) = r214 (encB bs) a2 (wi s2) (encT t) /\ at'<=a2 /\ a2<=at' + 150 /\ 1<=t.length /\ t.length<=15 /\ (d<=1->t.length<=3 /\ a2<=at' + 30):=by
 have hd2:d.toNat<=3:=by omega
 have e1:1<=(2:Nat) ^ d.toNat:=Nat.one_le_two_pow
 have e2:(2:Nat) ^ d.toNat<=2 ^ 3:=Nat.pow_le_pow_right (by omega) hd2
 have e3:(2:Nat) ^ (d.toNat + 1) = 2 * 2 ^ d.toNat:=by rw [Nat.pow_succ];omega
 obtain ⟨a2,s2,t,h,h2,h3,h4,h5⟩:=y39 hc hw0 hw hv hv2 d.toNat (k:=k) (by omega) (by omega) (at':=at') h0 (by omega) s
 rw [Int.toNat_of_nonneg hd0] at h
 refine ⟨a2,s2,t,h,h2,by omega,h4,by omega,fun hd3=>?_⟩
 have e4:(2:Nat) ^ d.toNat<=2 ^ 1:=Nat.pow_le_pow_right (by omega) (by omega)
 omega
theorem y1q {bs:List Nat} (hc:CodeOK bs) {wide vars:Int} (hw0:0<=wide) (hw:wide<=64) (hv:1<=vars) (hv2:vars<=100) {k:Nat} (hk:100<=k) {at':Int} (h0:0<=at') (h1:at'<=700000000) (s:W) :
   ∃ a2 s2 t,(R214 (c214 k wide vars 1 (encB bs) at' (wi s)) fun l12 q19 q20 l13 =>
     R56 (c56 k 2 l12 q19 q20) fun l14 q21 q22 q23 =>
     R214 (c214 k wide vars q23 l14 q21 q22) fun l15 q24 q25 l16 =>
     bif decide ((l13.length + ((l16.take l16.length).length)) * 16<=LIM) && decide (l13.length + ((l16.take l16.length).length)<=LIM) then
      R177 (c177 k [PV.int .i64 14,PV.int .i64 15,PV.int .i64 15,PV.int .i64 16] l15 q24 q25) fun l17 q26 q27 q28 =>
      bif decide (((l13.length + ((l16.take l16.length).length)) + 1) * 16<=LIM) && decide ((l13.length + ((l16.take l16.length).length)) + 1<=LIM) then
       r151 l17 q26 q27 (((((l13.take l13.length) ++ (l16.take l16.length)).take (l13.length + ((l16.take l16.length).length))) ++ [PV.agg [.int .i64 q28,.int .u64 0]]).take ((l13.length + ((l16.take l16.length).length)) + 1))
      else none
     else none) = r151 (encB bs) a2 (wi s2) (encT t) /\ at'<=a2 /\ a2<=at' + 70 /\ 1<=t.length /\ t.length<=7:=by
 obtain ⟨a4,s4,t,h,h6,h7,h8,h9,h10⟩:=z2d hc hw0 hw hv hv2 (d:=1) (by omega) (by omega) (k:=k) (by omega) h0 (by omega) s
 have h10:=h10 (by omega)
 rw [h]
 simp only [z0k]
 obtain ⟨a5,s5,v,h,h11,h12,h13,h14,_⟩:=q1k hc (k:=k) (by omega) (at':=a4) (by omega) (by omega) s4 2
 rw [h]
 simp only [q16]
 obtain ⟨a6,s6,u,h,h15,h16,h17,h18,h19⟩:=z2d hc hw0 hw hv hv2 (d:=v) (by omega) (by omega) (k:=k) (by omega) (at':=a5) (by omega) (by omega) s5
 have h19:=h19 (by omega)
 rw [h]
 simp only [z0k]
 rw [q0r (by (simp;try omega)) (by omega)]
 simp only [cond_true]
 obtain ⟨a7,s7,w,h,h20,h21,_⟩:=q6r hc (k:=k) (by omega) (at':=a6) (by omega) (by omega) s6 [14,15,15,16] (by simp)
 rw [show ([PV.int .i64 14,PV.int .i64 15,PV.int .i64 15,PV.int .i64 16]:List PV) = encZ [14,15,15,16] from rfl,h]
 simp only [z0x]
 rw [q0r (by (simp;try omega)) (by omega),y5b]
 exact ⟨a7,s7,t ++ u ++ [(w,0#64)],by simp [encT,encN,wi],by omega,by omega,by (simp;try omega),by (simp;try omega)⟩
theorem y8q {bs:List Nat} (hc:CodeOK bs) {wide vars:Int} (hw0:0<=wide) (hw:wide<=64) (hv:1<=vars) (hv2:vars<=100):∀ (d:Nat) {k:Nat} (hk:110 + d<=k) (hd:d<=16) {at':Int} (h0:0<=at') (h1:at' + (100 * 2 ^ d:Nat)<=700000000) (s:W),
  ∃ a2 s2 t,c151 k wide vars (d:Int) (encB bs) at' (wi s) = r151 (encB bs) a2 (wi s2) (encT t) /\ at'<=a2 /\ a2<=at' + (100 * (2 ^ d:Nat) - 20:Nat) /\ 1<=t.length /\ t.length + 1<=8 * 2 ^ d
 | d,k,hk,hd,at',h0,h1,s=>by
  obtain ⟨k,rfl⟩:∃ j,k = j + 1:=⟨k - 1,by omega⟩
  have hp:(2:Nat) ^ d<=65536:=Nat.pow_le_pow_right (n:=2) (by omega) (show d<=16 by omega)
  have hp1:1<=(2:Nat) ^ d:=Nat.one_le_two_pow
  rw [n151]
  obtain ⟨a2,s2,b,h,h2,h3⟩:=q3r hc (k:=k) (by omega) h0 (by omega) s 20
  rw [h]
  simp only [q3o]
  cases b
  ·simp only [cond_false]
   cases d with
   | zero =>
    have e:decide (((0:Nat):Int) > 0) = false:=rfl
    simp only [e,cond_false]
    obtain ⟨a3,s3,t,h,h4,h5,h6,h7⟩:=y1q hc hw0 hw hv hv2 (k:=k) (by omega) (at':=a2) (by omega) (by omega) s2
    rw [h]
    exact ⟨a3,s3,t,rfl,by omega,by omega,h6,by omega⟩
   | succ d =>
    have e:decide (((d + 1:Nat):Int) > 0) = true:=by (simp;try omega)
    have e1:IntKind.i64.wrap (((d + 1:Nat):Int) - 1) = (d:Int):=by rw [q0b (by omega) (by omega)];omega
    have e2:(2:Nat) ^ (d + 1) = 2 * 2 ^ d:=by rw [Nat.pow_succ];omega
    rw [e2] at h1 hp hp1 ⊢
    have ih:=fun (a:Int) (h0:0<=a) (h1:a + (100 * 2 ^ d:Nat)<=700000000) (s:W)=>y8q hc hw0 hw hv hv2 d (k:=k) (by omega) (by omega) h0 h1 s
    simp only [e,cond_true,e1]
    obtain ⟨a3,s3,b,h,h4,h5⟩:=q3r hc (k:=k) (by omega) (at':=a2) (by omega) (by omega) s2 4
    rw [h]
    simp only [q3o]
    cases b
    ·simp only [cond_false]
     obtain ⟨a4,s4,b,h,h6,h7⟩:=q3r hc (k:=k) (by omega) (at':=a3) (by omega) (by omega) s3 2
     rw [h]
     simp only [q3o]
     cases b
     ·simp only [cond_false]
      obtain ⟨a5,s5,t,h,h8,h9,h10,h11⟩:=y1q hc hw0 hw hv hv2 (k:=k) (by omega) (at':=a4) (by omega) (by omega) s4
      rw [h]
      exact ⟨a5,s5,t,rfl,by omega,by omega,h10,by omega⟩
     ·simp only [cond_true]
      obtain ⟨a5,s5,t,h,h8,h9,h10,h11⟩:=ih a4 (by omega) (by omega) s4
      rw [h]
      simp only [z1a]
      obtain ⟨a6,s6,u,h,h12,h13,h14,h15⟩:=ih a5 (by omega) (by omega) s5
      rw [h]
      simp only [z1a]
      rw [q0r (by (simp;try omega)) (by omega)]
      simp only [cond_true]
      obtain ⟨a7,s7,w,h,h20,h21,_⟩:=q6r hc (k:=k) (by omega) (at':=a6) (by omega) (by omega) s6 [17,18] (by simp)
      rw [show ([PV.int .i64 17,PV.int .i64 18]:List PV) = encZ [17,18] from rfl,h]
      simp only [z0x]
      rw [q0r (by (simp;try omega)) (by omega),y5b]
      exact ⟨a7,s7,t ++ u ++ [(w,0#64)],by simp [encT,encN,wi],by omega,by omega,by (simp;try omega),by (simp;try omega)⟩
    ·simp only [cond_true]
     obtain ⟨a5,s5,t,h,h8,h9,h10,h11⟩:=ih a3 (by omega) (by omega) s3
     rw [h]
     simp only [z1a]
     rw [q0r (by (simp;try omega)) (by omega),x80]
     exact ⟨a5,s5,t ++ [(19,0#64)],by simp [encT,encN,wi],by omega,by omega,by simp,by (simp;try omega)⟩
  ·simp only [cond_true]
   obtain ⟨a3,s3,v,h,h4,h5,_⟩:=q1k hc (k:=k) (by omega) (at':=a2) (by omega) (by omega) s2 2
   rw [h]
   simp only [q16]
   rw [q4t]
   exact ⟨a3,s3,[(20,BitVec.ofInt 64 v)],rfl,by omega,by omega,by simp,by (simp;try omega)⟩
end Go.Proofs.YtgdegfijcijnoaaGreat
/- The draws of terms with their width and variables,and of what is put for these. -/
namespace Go.Proofs.YtgdegfijcijnoaaGreat
open Go.Dp
end Go.Proofs.YtgdegfijcijnoaaGreat
/- Programs: how they lie in rows,and how they are drawn. -/
namespace Go.Proofs.YtgdegfijcijnoaaGreat
open Go.Dp
structure Chg where
 v:Int
 by1:List Nd
 deriving DecidableEq
structure Cmd where
 wh:List Nd
 ch:List Chg
 deriving DecidableEq
structure Prg where
 wide:Int
 vars:Int
 start:List Nd
 cmds:List Cmd
 deriving DecidableEq
def q9i (x:Chg):PV:=.agg [.int .i64 x.v,.row 2 0 (encT x.by1)]
def q0y (l:List Chg):List PV:=l.map q9i
def q38 (x:Cmd):PV:=.agg [.row 2 0 (encT x.wh),.row 2 0 (q0y x.ch)]
def q0c (l:List Cmd):List PV:=l.map q38
@[simp] theorem q2c (l:List Chg):(q0y l).length = l.length:=by simp [q0y]
@[simp] theorem q1h (l:List Cmd):(q0c l).length = l.length:=by simp [q0c]
theorem q3p (l:List Chg) (i:Nat):(q0y l)[i]? = (l[i]?).map q9i:=by simp [q0y]
theorem q2i (l:List Cmd) (i:Nat):(q0c l)[i]? = (l[i]?).map q38:=by simp [q0c]
theorem z6k (l:List Chg) (x:Chg):q0y l ++ [q9i x] = q0y (l ++ [x]):=by simp [q0y]
theorem y97 (l:List Cmd) (x:Cmd):q0c l ++ [q38 x] = q0c (l ++ [x]):=by simp [q0c]
theorem z7c (l:List Cmd) (i:Nat):(q0c l).take i = q0c (l.take i):=by simp [q0c,List.map_take]
theorem q7p (l:List Cmd) (i:Nat) (x:Cmd):(q0c l).set i (q38 x) = q0c (l.set i x):=by simp [q0c,List.map_set]
@[simp] theorem q52 (x:Chg):(q9i x).shp 2 = true:=rfl
@[simp] theorem q5x (x:Chg):(q9i x).atInt .i64 0 = some x.v:=rfl
@[simp] theorem q6v (x:Chg):(q9i x).atRow 2 1 = some (encT x.by1):=rfl
@[simp] theorem q5w (x:Cmd):(q38 x).shp 2 = true:=rfl
@[simp] theorem q6u (x:Cmd):(q38 x).atRow 2 0 = some (encT x.wh):=rfl
@[simp] theorem q3v (x:Cmd):(q38 x).atRow 2 1 = some (q0y x.ch):=rfl
theorem x4s (x:Cmd) (t:List Nd):putPart (q38 x) 2 0 (PV.row 2 0 (encT t)) 0 = some (q38 { x with wh:=t }):=rfl
theorem x31 (x:Cmd) (l:List Chg):putPart (q38 x) 2 1 (PV.row 2 0 (q0y l)) 0 = some (q38 { x with ch:=l }):=rfl
structure FitC (m:Nat) (c:Cmd):Prop where
 wh:c.wh.length<=100
 ch:c.ch.length<=m
 by1:∀ x ∈ c.ch,x.by1.length<=100
theorem FitC.mono {m m':Nat} {c:Cmd} (h:FitC m c) (hm:m<=m'):FitC m' c:=⟨h.wh,Nat.le_trans h.ch hm,h.by1⟩
structure FitP (p:Prg):Prop where
 w:1<=p.wide /\ p.wide<=64
 v:0<=p.vars /\ p.vars<=5
 st:p.start.length<=100
 cm:p.cmds.length<=6
 c:∀ c ∈ p.cmds,FitC 6 c
theorem z4c {bs:List Nat} (hc:CodeOK bs) {wide vars:Int} (hw0:0<=wide) (hw:wide<=64) (hv:1<=vars) (hv2:vars<=100) {d:Int} (hd0:0<=d) (hd:d<=2) {k:Nat} (hk:130<=k) {at':Int} (h0:0<=at') (h1:at'<=600000000) (s:W) :
  ∃ a2 s2 t,c151 k wide vars d (encB bs) at' (wi s) = r151 (encB bs) a2 (wi s2) (encT t) /\ at'<=a2 /\ a2<=at' + 500 /\ 1<=t.length /\ t.length<=31:=by
 have hd2:d.toNat<=2:=by omega
 have e2:(2:Nat) ^ d.toNat<=2 ^ 2:=Nat.pow_le_pow_right (by omega) hd2
 obtain ⟨a2,s2,t,h,h2,h3,h4,h5⟩:=y8q hc hw0 hw hv hv2 d.toNat (k:=k) (by omega) (by omega) (at':=at') h0 (by omega) s
 rw [Int.toNat_of_nonneg hd0] at h
 exact ⟨a2,s2,t,h,h2,by omega,h4,by omega⟩
theorem q8v {bs:List Nat} (hc:CodeOK bs) {k:Nat} (hk:120<=k) {wide vars:Int} (hw:1<=wide /\ wide<=64) (hv:1<=vars /\ vars<=5) (l1 l2:List PV) (t:List Nd) (ht:t.length<=31):∀ (m n:Nat) (v:Int) (cs:List Chg) {at':Int} (s:W),(vars - v).toNat<=m->m < n->0<=v->(cs.length:Int)<=v->v<=vars->(∀ x ∈ cs,x.by1.length<=100)->0<=at'->at' + 40 * m<=590000000 ->
  ∃ a2 s2 cs2,z3y k n wide vars v (encB bs) at' (wi s) l1 l2 t.length cs.length (encT t) (q0y cs) = r242 (encB bs) a2 (wi s2) (encT t) (q0y cs2) /\ at'<=a2 /\ a2<=at' + 40 * m /\ cs2.length<=5 /\ ∀ x ∈ cs2,x.by1.length<=100
 | m,0,v,cs,at',s,hm,hn,hv0,hj,hvv,hb,h0,h1=>by omega
 | m,n + 1,v,cs,at',s,hm,hn,hv0,hj,hvv,hb,h0,h1=>by
  rw [w00]
  by_cases hd:v < vars
  ·have hd':decide (v < vars) = true:=by simpa using hd
   rw [hd']
   simp only [cond_true]
   obtain ⟨a2,s2,b,h,h2,h3⟩:=q3r hc (k:=k) (by omega) h0 (by omega) s 2
   rw [h]
   simp only [q3o]
   cases m with
   | zero=>omega
   | succ m =>
    cases b
    ·simp only [cond_false]
     rw [q0b (by omega) (by omega)]
     obtain ⟨a3,s3,cs2,h,h4,h5,h6⟩:=q8v hc hk hw hv l1 l2 t ht m n (v + 1) cs (at':=a2) s2 (by omega) (by omega) (by omega) (by omega) (by omega) hb (by omega) (by omega)
     exact ⟨a3,s3,cs2,h,by omega,by omega,h6⟩
    ·simp only [cond_true]
     obtain ⟨a4,s4,u,h,h7,h8,h9,h10,h11⟩:=z2d hc (wide:=wide) (vars:=vars) (by omega) (by omega) (by omega) (by omega) (d:=1) (by omega) (by omega) (k:=k) (by omega) (at':=a2) (by omega) (by omega) s2
     have h11:=h11 (by omega)
     rw [h]
     simp only [z0k]
     rw [q0r (by omega) (by omega),q0b (by omega) (by omega)]
     simp only [cond_true,List.take_length]
     have e1:(q0y cs).take cs.length = q0y cs:=by rw [List.take_of_length_le (by simp)]
     have e3:PV.agg [.int .i64 v,.row 2 0 (encT u)] = q9i ⟨v,u⟩:=rfl
     rw [e1,e3,z6k]
     have e2:cs.length + 1 = (cs ++ [Chg.mk v u]).length:=by simp
     rw [e2]
     obtain ⟨a3,s3,cs2,h,h4,h5,h6⟩:=q8v hc hk hw hv l1 l2 t ht m n (v + 1) (cs ++ [Chg.mk v u]) (at':=a4) s4 (by omega) (by omega) (by omega) (by simp;omega) (by omega) (by
      intro x hx
      rcases List.mem_append.1 hx with hx | hx
      ·exact hb x hx
      ·simp at hx;subst hx;simp only;omega) (by omega) (by omega)
     exact ⟨a3,s3,cs2,h,by omega,by omega,h6⟩
  ·have hd':decide (v < vars) = false:=by simpa using hd
   rw [hd']
   simp only [cond_false]
   have e1:(q0y cs).take cs.length = q0y cs:=by rw [List.take_of_length_le (by simp)]
   have e2:(encT t).take t.length = encT t:=by rw [List.take_of_length_le (by simp)]
   rw [e1,e2]
   exact ⟨at',s,cs,rfl,by omega,by omega,by omega,hb⟩
theorem x2g {bs:List Nat} (hc:CodeOK bs) {k:Nat} (hk:140<=k) {wide vars:Int} (hw:1<=wide /\ wide<=64) (hv:1<=vars /\ vars<=5) {at':Int} (h0:0<=at') (h1:at'<=580000000) (s:W) :
  ∃ a2 s2 c,c242 k wide vars (encB bs) at' (wi s) = r242 (encB bs) a2 (wi s2) (encT c.wh) (q0y c.ch) /\ at'<=a2 /\ a2<=at' + 1000 /\ FitC 5 c:=by
 obtain ⟨k,rfl⟩:∃ j,k = j + 1:=⟨k - 1,by omega⟩
 rw [n242]
 obtain ⟨a2,s2,v,h,h2,h3,h4,h5,_⟩:=q1k hc (k:=k) (by omega) h0 (by omega) s 2
 rw [h]
 simp only [q16]
 obtain ⟨a3,s3,t,h,h6,h7,h8,h9⟩:=z4c hc (wide:=wide) (vars:=vars) (by omega) (by omega) (by omega) (by omega) (d:=v) (by omega) (by omega) (k:=k) (by omega) (at':=a2) (by omega) (by omega) s2
 rw [h]
 simp only [z1a,q06]
 obtain ⟨a4,s4,cs,h,h10,h11,h12,h13⟩:=q8v hc (k:=k) (by omega) hw hv [] [] t h9 5 k 0 [] (at':=a3) s3 (by omega) (by omega) (by omega) (by simp) (by omega) (by simp) (by omega) (by omega)
 exact ⟨a4,s4,⟨t,cs⟩,h,by omega,by omega,⟨by simp only;omega,by simp only;omega,h13⟩⟩
theorem q9z {bs:List Nat} (hc:CodeOK bs) {k:Nat} (hk:150<=k) {wide vars:Int} (hw:1<=wide /\ wide<=64) (hv:1<=vars /\ vars<=5) (n13 n14:Int) (l1 l2:List PV) (t:List Nd) (ht:t.length<=31):∀ (m n:Nat) (n1:Int) (cs:List Cmd) {at':Int} (s:W),n1.toNat<=m->m < n->cs.length + m<=6->n1<=6->(∀ x ∈ cs,FitC 5 x)->0<=at'->at' + 1000 * m<=570000000 ->
  ∃ a2 s2 cs2,z4s k n wide vars n1 (encB bs) at' (wi s) n13 n14 l1 l2 wide vars t.length cs.length (encT t) (q0c cs) = r190 (encB bs) a2 (wi s2) wide vars (encT t) (q0c cs2) /\ at'<=a2 /\ a2<=at' + 1000 * m /\ cs2.length<=6 /\ (∀ x ∈ cs2,FitC 5 x) /\ (n1>=1 ∨ 1<=cs.length->1<=cs2.length)
 | m,0,n1,cs,at',s,hm,hn,hl,hn1,hb,h0,h1=>by omega
 | m,n + 1,n1,cs,at',s,hm,hn,hl,hn1,hb,h0,h1=>by
  rw [x9]
  by_cases hd:n1 > 0
  ·have hd':decide (n1 > 0) = true:=by simpa using hd
   rw [hd']
   simp only [cond_true]
   obtain ⟨a2,s2,c,h,h2,h3,h4⟩:=x2g hc (k:=k) (by omega) hw hv h0 (by omega) s
   rw [h]
   simp only [w3i,q2c]
   have e0:decide (c.ch.length<=c.ch.length) = true:=by simp
   rw [e0]
   simp only [cond_true,q1h,beq_self_eq_true,Bool.true_and]
   rw [q0r (by omega) (by omega)]
   simp only [cond_true]
   have e1:(q0y c.ch).take c.ch.length = q0y c.ch:=by rw [List.take_of_length_le (by simp)]
   have e3:PV.agg [.row 2 0 (encT c.wh),.row 2 0 (q0y c.ch)] = q38 c:=rfl
   rw [e1,e3,y97,q0b (by omega) (by omega)]
   have e2:cs.length + 1 = (cs ++ [c]).length:=by simp
   rw [e2]
   cases m with
   | zero=>omega
   | succ m =>
    obtain ⟨a3,s3,cs2,h,h5,h6,h7,h8,h9⟩:=q9z hc hk hw hv n13 n14 l1 l2 t ht m n (n1 - 1) (cs ++ [c]) (at':=a2) s2 (by omega) (by omega) (by simp;omega) (by omega) (by
     intro x hx
     rcases List.mem_append.1 hx with hx | hx
     ·exact hb x hx
     ·simp at hx;subst hx;exact h4) (by omega) (by omega)
    exact ⟨a3,s3,cs2,h,by omega,by omega,h7,h8,fun _=>h9 (by simp)⟩
  ·have hd':decide (n1 > 0) = false:=by simpa using hd
   rw [hd']
   simp only [cond_false,q1h,beq_self_eq_true,cond_true]
   have e1:(q0c cs).take cs.length = q0c cs:=by rw [List.take_of_length_le (by simp)]
   have e2:(encT t).take t.length = encT t:=by rw [List.take_of_length_le (by simp)]
   rw [e1,e2]
   exact ⟨at',s,cs,rfl,by omega,by omega,by omega,hb,fun h=>by omega⟩
theorem x6e {bs:List Nat} (hc:CodeOK bs) {k:Nat} (hk:160<=k) {wide vars:Int} (hw:1<=wide /\ wide<=64) (hv:1<=vars /\ vars<=5) {at':Int} (h0:0<=at') (h1:at'<=560000000) (s:W) :
  ∃ a2 s2 p,c190 k wide vars (encB bs) at' (wi s) = r190 (encB bs) a2 (wi s2) p.wide p.vars (encT p.start) (q0c p.cmds) /\ at'<=a2 /\ a2<=at' + 8000 /\ FitP p /\ 1<=p.cmds.length /\ p.wide = wide /\ p.vars = vars /\ ∀ c ∈ p.cmds,FitC 5 c:=by
 obtain ⟨k,rfl⟩:∃ j,k = j + 1:=⟨k - 1,by omega⟩
 rw [n190]
 obtain ⟨a2,s2,v,h,h2,h3,h4,h5,_⟩:=q1k hc (k:=k) (by omega) h0 (by omega) s 2
 rw [h]
 simp only [q16]
 obtain ⟨a3,s3,b,h,h6,h7⟩:=q3r hc (k:=k) (by omega) (at':=a2) (by omega) (by omega) s2 3
 rw [h]
 simp only [q3o]
 cases b
 ·simp only [cond_false]
  obtain ⟨a4,s4,u,h,h8,h9,h10,h11,_⟩:=q1k hc (k:=k) (by omega) (at':=a3) (by omega) (by omega) s3 3
  rw [h]
  simp only [q16]
  have h5:=h5 (by omega)
  have h11:=h11 (by omega)
  rw [q0b (n:=1 + u) (by omega) (by omega)]
  have e0:IntKind.u64.wrap v = wi (BitVec.ofInt 64 v):=q4t v
  have e1:([PV.agg [.int .i64 2,.int .u64 0],PV.agg [.int .i64 1,.int .u64 (IntKind.u64.wrap v)],PV.agg [.int .i64 14,.int .u64 0]]:List PV) = encT [(2,0#64),(1,BitVec.ofInt 64 v),(14,0#64)]:=by rw [e0];rfl
  rw [e1]
  obtain ⟨a5,s5,cs,h,h12,h13,h14,h15,h16⟩:=q9z hc (k:=k) (by omega) hw hv 0 0 [] [] [(2,0#64),(1,BitVec.ofInt 64 v),(14,0#64)] (by simp) 3 k (1 + u) [] (at':=a4) s4 (by omega) (by omega) (by simp) (by omega) (by simp) (by omega) (by omega)
  exact ⟨a5,s5,⟨wide,vars,_,cs⟩,h,by omega,by omega,⟨hw,⟨by simp only;omega,by simp only;omega⟩,by simp,h14,fun c hc=>(h15 c hc).mono (by omega)⟩,h16 (by omega),rfl,rfl,h15⟩
 ·simp only [cond_true]
  obtain ⟨a4,s4,t,h,h8,h9,h10,h11⟩:=z4c hc (wide:=wide) (vars:=vars) (by omega) (by omega) (by omega) (by omega) (d:=1) (by omega) (by omega) (k:=k) (by omega) (at':=a3) (by omega) (by omega) s3
  rw [h]
  simp only [z1a,q06]
  obtain ⟨a5,s5,u,h,h12,h13,h14,h15,_⟩:=q1k hc (k:=k) (by omega) (at':=a4) (by omega) (by omega) s4 3
  rw [h]
  simp only [q16]
  have h15:=h15 (by omega)
  rw [q0b (n:=1 + u) (by omega) (by omega)]
  obtain ⟨a6,s6,cs,h,h16,h17,h18,h19,h20⟩:=q9z hc (k:=k) (by omega) hw hv 0 0 [] [] t h11 3 k (1 + u) [] (at':=a5) s5 (by omega) (by omega) (by simp) (by omega) (by simp) (by omega) (by omega)
  exact ⟨a6,s6,⟨wide,vars,t,cs⟩,h,by omega,by omega,⟨hw,⟨by simp only;omega,by simp only;omega⟩,by simp only;omega,h18,fun c hc=>(h19 c hc).mono (by omega)⟩,h20 (by omega),rfl,rfl,h19⟩
theorem z2r {bs:List Nat} (hc:CodeOK bs) {k:Nat} (hk:170<=k):∀ (m n:Nat) {wide vars:Int} {at':Int} (s:W),1<=wide->wide<=4->1<=vars->vars<=10->(vars - 1).toNat<=m->m < n->0<=at'->at'<=550000000 ->
  ∃ a2 s2 p,q9e k n wide vars (encB bs) at' (wi s) 0 0 [] [] = r118 (encB bs) a2 (wi s2) p.wide p.vars (encT p.start) (q0c p.cmds) /\ at'<=a2 /\ a2<=at' + 9000 /\ FitP p
 | m,0,wide,vars,at',s,hw0,hw,hv0,hv,hm,hn,h0,h1=>by omega
 | m,n + 1,wide,vars,at',s,hw0,hw,hv0,hv,hm,hn,h0,h1=>by
  rw [x9r]
  have hb:0<=wide * vars /\ wide * vars<=40:=by
   have h2:wide * vars<=4 * vars:=Int.mul_le_mul_of_nonneg_right hw (by omega)
   have h3:0<=wide * vars:=Int.mul_nonneg (by omega) (by omega)
   omega
  rw [q0b (n:=wide * vars) (by omega) (by omega),q0b (n:=vars - 1) (by omega) (by omega)]
  have one:vars = 1->wide * vars<=5:=by intro h;subst h;omega
  have rc:(1 < vars)->∃ a2 s2 p,q9e k n wide (vars - 1) (encB bs) at' (wi s) 0 0 [] [] = r118 (encB bs) a2 (wi s2) p.wide p.vars (encT p.start) (q0c p.cmds) /\ at'<=a2 /\ a2<=at' + 9000 /\ FitP p:=by
   intro h
   cases m with
   | zero=>omega
   | succ m=>exact z2r hc hk m n s hw0 hw (by omega) (by omega) (by omega) (by omega) h0 h1
  by_cases hd:wide * vars > 5
  ·have hd':decide (wide * vars > 5) = true:=by simpa using hd
   rw [hd']
   exact rc (by omega)
  ·have hd':decide (wide * vars > 5) = false:=by simpa using hd
   rw [hd']
   simp only [cond_false]
   by_cases hd2:vars > 4
   ·have hd2':decide (vars > 4) = true:=by simpa using hd2
    rw [hd2']
    exact rc (by omega)
   ·have hd2':decide (vars > 4) = false:=by simpa using hd2
    rw [hd2']
    simp only [cond_false]
    obtain ⟨a2,s2,p,h,h2,h3,h4,h5,h6,h7,h7b⟩:=x6e hc (k:=k) (by omega) (wide:=wide) (vars:=vars) ⟨hw0,by omega⟩ ⟨hv0,by omega⟩ h0 (by omega) s
    rw [h]
    simp only [w2k]
    obtain ⟨a3,s3,v,h,h8,h9,h10,h11,_⟩:=q1k hc (k:=k) (by omega) (at':=a2) (by omega) (by omega) s2 40
    rw [h]
    simp only [q16,q1h]
    have e1:(q0c p.cmds).take p.cmds.length = q0c p.cmds:=by rw [List.take_of_length_le (by simp)]
    have hpos:decide ((0:Int) < (p.cmds.length:Int)) = true:=by simp;omega
    have hget:(q0c p.cmds)[0]? = some (q38 p.cmds[0]):=by rw [q2i,List.getElem?_eq_getElem (by omega)];rfl
    have hf0:=h7b p.cmds[0] (List.getElem_mem _)
    cases e0:(v == 0)
    ·simp only [cond_false]
     cases e1':(v == 1)
     ·simp only [cond_false]
      cases e2:(v == 2)
      ·simp only [cond_false]
       cases e3:(v == 3)
       ·simp only [cond_false,e1]
        exact ⟨a3,s3,p,(by first | rfl | simp),by omega,by omega,h4⟩
       ·simp only [cond_true,hpos,hget,Option.bind_some,q3v,q2c]
        have hl:=hf0.ch
        rw [q0r (by omega) (by omega)]
        have e5:PV.agg [.int .i64 0,.row 2 0 [PV.agg [.int .i64 1,.int .u64 0]]] = q9i ⟨0,[(1,0#64)]⟩:=rfl
        rw [e5,z6k]
        have e6:decide (p.cmds[0].ch.length + 1<=(q0y (p.cmds[0].ch ++ [⟨0,[(1,0#64)]⟩])).length) = true:=by simp
        rw [e6]
        simp only [cond_true]
        have e7:(q0y (p.cmds[0].ch ++ [⟨0,[(1,0#64)]⟩])).take (p.cmds[0].ch.length + 1) = q0y (p.cmds[0].ch ++ [⟨0,[(1,0#64)]⟩]):=by rw [List.take_of_length_le (by simp)]
        rw [e7,x31]
        simp only [Option.bind_some]
        rw [q7p,z7c,List.take_of_length_le (by simp)]
        refine ⟨a3,s3,{ p with cmds:=p.cmds.set 0 { p.cmds[0] with ch:=p.cmds[0].ch ++ [⟨0,[(1,0#64)]⟩] } },(by first | rfl | simp),by omega,by omega,⟨h4.w,h4.v,h4.st,by simpa using h4.cm,fun c hc'=>?_⟩⟩
        rcases List.mem_or_eq_of_mem_set hc' with h12 | h12
        ·exact h4.c c h12
        ·subst h12
         refine ⟨hf0.wh,by simp;omega,fun x hx=>?_⟩
         rcases List.mem_append.1 hx with hx | hx
         ·exact hf0.by1 x hx
         ·simp at hx;subst hx;simp
      ·simp only [cond_true,hpos,hget,Option.bind_some]
       have e5:([PV.agg [.int .i64 1,.int .u64 0]]:List PV) = encT [(1,0#64)]:=rfl
       rw [e5,x4s]
       simp only [Option.bind_some]
       rw [q7p,z7c,List.take_of_length_le (by simp)]
       refine ⟨a3,s3,{ p with cmds:=p.cmds.set 0 { p.cmds[0] with wh:=[(1,0#64)] } },(by first | rfl | simp),by omega,by omega,⟨h4.w,h4.v,h4.st,by simpa using h4.cm,fun c hc'=>?_⟩⟩
       have hl:=hf0.ch
       rcases List.mem_or_eq_of_mem_set hc' with h12 | h12
       ·exact h4.c c h12
       ·subst h12
        exact ⟨by simp,by simp only;omega,hf0.by1⟩
     ·simp only [cond_true]
      exact ⟨a3,s3,{ p with cmds:=[] },rfl,by omega,by omega,⟨h4.w,h4.v,h4.st,by simp,by simp⟩⟩
    ·simp only [cond_true]
     obtain ⟨a4,s4,x,h,h12,h13,h14⟩:=q6r hc (k:=k) (by omega) (at':=a3) (by omega) (by omega) s3 [0,4,5] (by simp)
     rw [show ([PV.int .i64 0,PV.int .i64 4,PV.int .i64 5]:List PV) = encZ [0,4,5] from rfl,h]
     simp only [z0x,e1]
     refine ⟨a4,s4,{ p with vars:=x },(by first | rfl | simp),by omega,by omega,⟨h4.w,?_,h4.st,h4.cm,h4.c⟩⟩
     simp at h14
     simp only
     omega
theorem x61 {bs:List Nat} (hc:CodeOK bs) {k:Nat} (hk:200<=k) {at':Int} (h0:0<=at') (h1:at'<=500000000) (s:W) :
  ∃ a2 s2 p,c118 k (encB bs) at' (wi s) = r118 (encB bs) a2 (wi s2) p.wide p.vars (encT p.start) (q0c p.cmds) /\ at'<=a2 /\ a2<=at' + 10000 /\ FitP p:=by
 obtain ⟨k,rfl⟩:∃ j,k = j + 1:=⟨k - 1,by omega⟩
 rw [n118]
 obtain ⟨a2,s2,v,h,h2,h3,h4⟩:=q6r hc (k:=k) (by omega) h0 (by omega) s [1,2,2,2,3,4] (by simp)
 rw [show ([PV.int .i64 1,PV.int .i64 2,PV.int .i64 2,PV.int .i64 2,PV.int .i64 3,PV.int .i64 4]:List PV) = encZ [1,2,2,2,3,4] from rfl,h]
 simp only [z0x]
 have hv:1<=v /\ v<=4:=by simp at h4;omega
 cases e0:decide (v < 3)
 ·simp only [cond_false]
  obtain ⟨a3,s3,p,h,h5,h6,h7⟩:=z2r hc (k:=k) (by omega) 9 k (wide:=v) (vars:=1) (at':=a2) s2 hv.1 hv.2 (by omega) (by omega) (by omega) (by omega) (by omega) (by omega)
  exact ⟨a3,s3,p,h,by omega,by omega,h7⟩
 ·simp only [cond_true]
  have hz:(v == 0) = false:=by simp;omega
  rw [hz]
  simp only [Bool.not_false,cond_true]
  have hq:IntKind.i64.wrap ((6:Int).tdiv v) = 6 / v /\ 1<=6 / v /\ 6 / v<=6:=by
   have:v = 1 ∨ v = 2:=by simp at e0;omega
   rcases this with rfl | rfl <;> decide
  rw [hq.1]
  obtain ⟨a3,s3,u,h,h5,h6,h7,h8,h9,_⟩:=q1k hc (k:=k) (by omega) (at':=a2) (by omega) (by omega) s2 (6 / v)
  rw [h]
  simp only [q16]
  have h8:=h8 hq.2.1
  rw [q0b (n:=1 + u) (by omega) (by omega)]
  obtain ⟨a4,s4,p,h,h10,h11,h12⟩:=z2r hc (k:=k) (by omega) 9 k (wide:=v) (vars:=1 + u) (at':=a3) s3 hv.1 hv.2 (by omega) (by omega) (by omega) (by omega) (by omega) (by omega)
  exact ⟨a4,s4,p,h,by omega,by omega,h12⟩
end Go.Proofs.YtgdegfijcijnoaaGreat
/- Good terms: what they are,and that both texts find them so. -/
namespace Go.Proofs.YtgdegfijcijnoaaGreat
open Go.Dp
theorem q3u {n:Nat} (hn:n<=64):(q3d n).toNat = 2 ^ n - 1:=by
 unfold q3d
 rw [BitVec.toNat_ushiftRight,BitVec.toNat_allOnes,Nat.shiftRight_eq_div_pow]
 have h1:(2:Nat) ^ 64 = 2 ^ n * 2 ^ (64 - n):=by rw [<- Nat.pow_add];congr 1;omega
 have h2:1<=(2:Nat) ^ (64 - n):=Nat.one_le_two_pow
 have h3:1<=(2:Nat) ^ n:=Nat.one_le_two_pow
 have h4:(2:Nat) ^ 64 - 1 = (2 ^ (64 - n) - 1) + 2 ^ (64 - n) * (2 ^ n - 1):=by
  rw [h1,Nat.mul_sub,Nat.mul_comm (2 ^ (64 - n)) (2 ^ n)]
  have:2 ^ (64 - n)<=2 ^ n * 2 ^ (64 - n):=Nat.le_mul_of_pos_left _ (by omega)
  omega
 rw [h4,Nat.add_mul_div_left _ _ (by omega),Nat.div_eq_of_lt (by omega),Nat.zero_add]
theorem z2b {n:Nat} (hn:n<=64) (a:W):a &&& q3d n = a ↔ a<=q3d n:=by
 rw [BitVec.le_def,q3u hn]
 have h3:1<=(2:Nat) ^ n:=Nat.one_le_two_pow
 constructor
 ·intro h
  have:a.toNat = (a &&& q3d n).toNat:=by rw [h]
  rw [BitVec.toNat_and,q3u hn,Nat.and_two_pow_sub_one_eq_mod] at this
  have:=Nat.mod_lt a.toNat (show 0 < 2 ^ n by omega)
  omega
 ·intro h
  apply BitVec.eq_of_toNat_eq
  rw [BitVec.toNat_and,q3u hn,Nat.and_two_pow_sub_one_eq_mod,Nat.mod_eq_of_lt (by omega)]
def isW (n:Int):Bool:=decide (1<=n) && decide (n<=64)
theorem q14 {n:Int}:isW n = true ↔ 1<=n /\ n<=64:=by simp [isW]
theorem z44 {k:Nat} (hk:1<=k) (n:Int):c234 k n = r234 (isW n):=by
 obtain ⟨k,rfl⟩:∃ j,k = j + 1:=⟨k - 1,by omega⟩
 rw [n234]
 by_cases h:1<=n <;> simp [isW,h]
def isV (n:Int):Bool:=decide (1<=n) && decide (n<=4)
theorem q8a {n:Int}:isV n = true ↔ 1<=n /\ n<=4:=by simp [isV]
theorem y3u {k:Nat} (hk:1<=k) (n:Int):c235 k n = r235 (isV n):=by
 obtain ⟨k,rfl⟩:∃ j,k = j + 1:=⟨k - 1,by omega⟩
 rw [n235]
 by_cases h:1<=n <;> simp [isV,h]
theorem q6j {k:Nat} (hk:1<=k) (n lo hi:Int):c140 k n lo hi = r140 (decide (lo<=n) && decide (n<=hi)):=by
 obtain ⟨k,rfl⟩:∃ j,k = j + 1:=⟨k - 1,by omega⟩
 rw [n140]
 by_cases h:lo<=n <;> simp [h]
theorem y6 {k:Nat} (hk:2<=k) (n:Int):c245 k n = r245 (isW n):=by
 obtain ⟨k,rfl⟩:∃ j,k = j + 1:=⟨k - 1,by omega⟩
 rw [n245,q6j (by omega)]
 simp only [q5m]
 rfl
def q1v (wide:Int) (a:W):Bool:=isW wide && decide (a<=q3d wide.toNat)
theorem q9y {k:Nat} (hk:2<=k) (wide:Int) (a:W):c294 k wide (wi a) = r294 (q1v wide a):=by
 obtain ⟨k,rfl⟩:∃ j,k = j + 1:=⟨k - 1,by omega⟩
 rw [n294,z44 (by omega)]
 simp only [y7r]
 cases h:isW wide
 ·simp [q1v,h]
 ·have h':=q14.1 h
  rw [y2k (by omega) (by omega) (by omega)]
  simp only [cond_true,z02,y21]
  simp [q1v,h]
theorem q81 {k:Nat} (hk:80<=k) (wide:Int) (a:W):c279 k wide (wi a) = r279 (q1v wide a):=by
 obtain ⟨k,rfl⟩:∃ j,k = j + 1:=⟨k - 1,by omega⟩
 rw [n279,y6 (by omega)]
 simp only [x50]
 cases h:isW wide
 ·simp [q1v,h]
 ·have h':=q14.1 h
  rw [y0d (by omega) (by omega) (by omega)]
  simp only [cond_true,q7e,q3y]
  congr 1
  have:=z2b (n:=wide.toNat) (by omega) a
  simp only [q1v,h,Bool.true_and]
  rw [Bool.eq_iff_iff]
  simp [this]
def need (op:Int):Nat × Int × Int :=
 if op = 1 ∨ op = 2 then (0,1,1) else if op = 20 then (0,2,2) else if op = 13 then (1,1,1) else if op = 19 then (1,2,2)
 else if 3<=op /\ op<=12 then (2,1,1) else if 14<=op /\ op<=16 then (2,1,2) else if op = 17 ∨ op = 18 then (2,2,2) else (0,0,0)
def y5d (op:Int):Int:=if (need op).1 = 0 then 0 else (need op).2.1
theorem x1b (op:Int):(need op).1<=2:=by
 unfold need
 repeat' split
 all_goals simp
theorem z2s {k:Nat} (hk:1<=k) (op:Int):c274 k op = r274 (need op).1 (y5d op) (need op).2.2:=by
 obtain ⟨k,rfl⟩:∃ j,k = j + 1:=⟨k - 1,by omega⟩
 rw [n274]
 unfold y5d need
 by_cases h1:op = 1
 ·subst h1;rfl
 by_cases h2:op = 2
 ·subst h2;rfl
 by_cases h3:op = 20
 ·subst h3;rfl
 by_cases h4:op = 13
 ·subst h4;rfl
 by_cases h5:op = 19
 ·subst h5;rfl
 by_cases h6:op = 17
 ·subst h6;rfl
 by_cases h7:op = 18
 ·subst h7;rfl
 have e1:(op == 1) = false:=by simpa using h1
 have e2:(op == 2) = false:=by simpa using h2
 have e3:(op == 20) = false:=by simpa using h3
 have e4:(op == 13) = false:=by simpa using h4
 have e5:(op == 19) = false:=by simpa using h5
 have e6:(op == 17) = false:=by simpa using h6
 have e7:(op == 18) = false:=by simpa using h7
 simp only [e1,e2,e3,e4,e5,e6,e7,cond_false,h1,h2,h3,h4,h5,h6,h7,or_self,if_false]
 by_cases a1:3<=op
 ·by_cases a2:op<=12
  ·simp [a1,a2]
  ·by_cases a3:14<=op
   ·by_cases a4:op<=16
    ·simp [a1,a2,a3,a4]
    ·simp [a1,a2,a3,a4]
   ·simp [a1,a2,a3]
 ·have a3:¬ 14<=op:=by omega
  simp [a1,a3]
theorem q6t {k:Nat} (hk:2<=k) (op:Int):c246 k op = r246 (need op).1 (need op).2.1 (need op).2.2:=by
 obtain ⟨k,rfl⟩:∃ j,k = j + 1:=⟨k - 1,by omega⟩
 rw [n246]
 unfold need
 by_cases h1:op = 1
 ·subst h1;rfl
 by_cases h2:op = 2
 ·subst h2;rfl
 by_cases h3:op = 20
 ·subst h3;rfl
 by_cases h4:op = 13
 ·subst h4;rfl
 by_cases h5:op = 19
 ·subst h5;rfl
 have e1:(op == 1) = false:=by simpa using h1
 have e2:(op == 2) = false:=by simpa using h2
 have e3:(op == 20) = false:=by simpa using h3
 have e4:(op == 13) = false:=by simpa using h4
 have e5:(op == 19) = false:=by simpa using h5
 simp only [e1,e2,e3,e4,e5,cond_false,h1,h2,h3,h4,h5,or_self,if_false,q6j (show 1<=k by omega),q5m]
 by_cases a1:3<=op /\ op<=12
 ·simp [a1]
 ·have b1:(decide (3<=op) && decide (op<=12)) = false:=by simp;omega
  simp only [b1,cond_false,a1,if_false]
  by_cases a2:14<=op /\ op<=16
  ·simp [a2]
  ·have b2:(decide (14<=op) && decide (op<=16)) = false:=by simp;omega
   simp only [b2,cond_false,a2,if_false]
   by_cases h6:op = 17
   ·subst h6;rfl
   by_cases h7:op = 18
   ·subst h7;rfl
   have e6:(op == 17) = false:=by simpa using h6
   have e7:(op == 18) = false:=by simpa using h7
   simp [e6,e7,h6,h7]
def q44 (wide vars:Int) (x:Nd):Bool :=
 if x.1 = 1 then q1v wide x.2 else if x.1 = 2 then decide (wi x.2 < IntKind.u64.wrap vars) else if x.1 = 20 then decide (wi x.2<=1) else decide (x.2 = 0#64)
theorem y2u {k:Nat} (hk:3<=k) (wide vars:Int) (x:Nd):c275 k wide vars x.1 (wi x.2) = r275 (q44 wide vars x):=by
 obtain ⟨k,rfl⟩:∃ j,k = j + 1:=⟨k - 1,by omega⟩
 rw [n275]
 unfold q44
 by_cases h1:x.1 = 1
 ·simp [h1,q9y (show 2<=k by omega)]
 by_cases h2:x.1 = 2
 ·simp [h2]
 by_cases h3:x.1 = 20
 ·simp [h3]
 have e:(wi x.2 == 0) = decide (x.2 = 0#64):=by
  have:(0:Int) = wi 0#64:=rfl
  rw [this,q3y];rfl
 have e1:(x.1 == 1) = false:=by simpa using h1
 have e2:(x.1 == 2) = false:=by simpa using h2
 have e3:(x.1 == 20) = false:=by simpa using h3
 simp [h1,h2,h3,e,e1,e2,e3]
theorem w4a {k:Nat} (hk:81<=k) (wide vars:Int) (x:Nd):c247 k wide vars x.1 (wi x.2) = r247 (q44 wide vars x):=by
 obtain ⟨k,rfl⟩:∃ j,k = j + 1:=⟨k - 1,by omega⟩
 rw [n247]
 unfold q44
 by_cases h1:x.1 = 1
 ·simp [h1,q81 (show 80<=k by omega)]
 by_cases h2:x.1 = 2
 ·simp [h2]
 by_cases h3:x.1 = 20
 ·have:decide (wi x.2 < 2) = decide (wi x.2<=1):=by rw [Bool.eq_iff_iff];simp;omega
  simp [h3,this]
 have e:(wi x.2 == 0) = decide (x.2 = 0#64):=by
  have:(0:Int) = wi 0#64:=rfl
  rw [this,q3y];rfl
 have e1:(x.1 == 1) = false:=by simpa using h1
 have e2:(x.1 == 2) = false:=by simpa using h2
 have e3:(x.1 == 20) = false:=by simpa using h3
 simp [h1,h2,h3,e,e1,e2,e3]
end Go.Proofs.YtgdegfijcijnoaaGreat
/- Good terms,by both texts. -/
namespace Go.Proofs.YtgdegfijcijnoaaGreat
open Go.Dp
def kst (wide vars:Int):List Nd->List Int->Option (List Int)
 | [],st=>some st
 | x :: t,st =>
  if (need x.1).2.2 = 0 then none else if q44 wide vars x = false then none else if st.length < (need x.1).1 then none
  else if (st.take (need x.1).1).any (· != (need x.1).2.1) then none else kst wide vars t ((need x.1).2.2 :: st.drop (need x.1).1)
def fin1 (o:Option (List Int)):Bool:=match o with | some [_]=>true | _=>false
def q2r (o:Option (List Int)):Int:=match o with | some [k]=>k | _=>0
def q4j (wide vars:Int) (t:List Nd):Bool:=isW wide && isV vars && decide (1<=t.length) && decide (t.length<=48)
def q1a (wide vars:Int) (t:List Nd):Bool:=q4j wide vars t && fin1 (kst wide vars t [])
def kindT (wide vars:Int) (t:List Nd):Int:=if q4j wide vars t then q2r (kst wide vars t []) else 0
theorem y62 {k:Nat} (hk:1<=k) (l:List Int) (hl:l.length<=1000000) (c:Int):∀ (n i:Nat),l.length - i < n->i<=l.length->∃ v,q6h k n (encZ l) (l.length:Int) (i:Int) c = q8o c v /\ decide (v>=0) = (l.drop i).any (· != c)
 | 0,i,h,hi=>by omega
 | n + 1,i,h,hi=>by
  obtain ⟨k,rfl⟩:∃ j,k = j + 1:=⟨k - 1,by omega⟩
  rw [y9m]
  by_cases hlt:i < l.length
  ·have hd:decide ((i:Int) < (l.length:Int)) = true:=by simpa using hlt
   rw [hd,q0o,q2s,List.getElem?_eq_getElem hlt]
   simp only [cond_true,Option.map_some,Option.bind_some,q0k,n276,w2o]
   rw [q0f hlt,List.any_cons]
   cases hne:(l[i] != c)
   ·simp only [cond_false,Bool.false_or]
    rw [q0b (by omega) (by omega)]
    exact y62 (k:=k + 1) (by omega) l hl c n (i + 1) (by omega) (by omega)
   ·simp only [cond_true,Bool.true_or]
    exact ⟨_,rfl,by simp⟩
  ·have hd:decide ((i:Int) < (l.length:Int)) = false:=by simpa using hlt
   rw [hd,List.drop_eq_nil_of_le (by omega)]
   exact ⟨_,rfl,by simp⟩
theorem y9w {k:Nat} (hk:1000010<=k) (l:List Int) (hl:l.length<=1000000) (c:Int):y12 k (encZ l) c = y1z c (l.any (· != c)):=by
 obtain ⟨k,rfl⟩:∃ j,k = j + 2:=⟨k - 2,by omega⟩
 rw [x95,x76,q0d]
 obtain ⟨v,h,h2⟩:=y62 (k:=k) (by omega) l hl c k 0 (by omega) (by omega)
 have h':q6h k k (encZ l) (l.length:Int) 0 c = q8o c v:=h
 rw [h']
 simp only [x3l,h2,List.drop_zero]
theorem y3t {k:Nat} (hk:1000020<=k) (wide vars:Int) (t:List Nd) (ht:t.length<=100000):∀ (n i:Nat) (st:List Int),t.length - i < n->i<=t.length->st.length<=i ->
  y1c k n wide vars st.length (encT t) (t.length:Int) (i:Int) (encZ st.reverse) = r239 (fin1 (kst wide vars (t.drop i) st))
 | 0,i,st,h,hi,hs=>by omega
 | n + 1,i,st,h,hi,hs=>by
  rw [w18]
  by_cases hlt:i < t.length
  ·have hd:decide ((i:Int) < (t.length:Int)) = true:=by simpa using hlt
   rw [hd,q4l hlt,q0f hlt]
   simp only [cond_true,Option.bind_some,q29,q2x,q4y]
   rw [z2s (by omega),y2u (by omega) wide vars t[i]]
   simp only [x30,kst]
   have hn2:=x1b t[i].1
   by_cases h1:(need t[i].1).2.2 = 0
   ·simp [h1,fin1]
   ·have h1':((need t[i].1).2.2 == 0) = false:=by simpa using h1
    simp only [h1',cond_false,h1,if_false,w4y]
    cases h2:q44 wide vars t[i]
    ·simp [fin1]
    ·have e1:IntKind.i64.wrap ((st.length:Int) - ((need t[i].1).1:Nat)) = (st.length:Int) - ((need t[i].1).1:Nat):=q0b (by omega) (by omega)
     rw [e1]
     simp only [Bool.not_true,cond_false,Bool.true_eq_false,if_false]
     by_cases h3:st.length < (need t[i].1).1
     ·have h3':decide ((st.length:Int) - ((need t[i].1).1:Nat) < 0) = true:=by simp;omega
      simp [h3',h3,fin1]
     ·have h3':decide ((st.length:Int) - ((need t[i].1).1:Nat) < 0) = false:=by simp;omega
      have e2:(st.length:Int) - ((need t[i].1).1:Nat) = ((st.length - (need t[i].1).1:Nat):Int):=by omega
      rw [h3',e2]
      simp only [cond_false,h3,if_false,Int.toNat_natCast]
      have h4:(decide ((0:Int)<=((st.length - (need t[i].1).1:Nat):Int)) && decide (((st.length - (need t[i].1).1:Nat):Int)<=(st.length:Int))) = true:=by (simp;try omega)
      have h5:decide ((st.length:Int)<=(st.length:Int)) = true:=by simp
      rw [h4,h5]
      simp only [Bool.and_self,cond_true,Nat.zero_add]
      have e3:((encZ st.reverse).drop (st.length - (need t[i].1).1)).take (st.length - (st.length - (need t[i].1).1)) = encZ (st.take (need t[i].1).1).reverse:=by
       rw [y3l,q42,List.drop_reverse]
       have:st.length - (st.length - (need t[i].1).1) = (need t[i].1).1:=by omega
       rw [this,List.take_of_length_le (by simp;omega)]
      rw [e3,y9w (by omega) _ (by simp;omega)]
      simp only [x3g,List.any_reverse]
      have e4:(st.take (need t[i].1).1).any (· != y5d t[i].1) = (st.take (need t[i].1).1).any (· != (need t[i].1).2.1):=by
       unfold y5d
       by_cases h0:(need t[i].1).1 = 0
       ·simp [h0]
       ·simp [h0]
      rw [e4]
      cases h6:(st.take (need t[i].1).1).any (· != (need t[i].1).2.1)
      ·simp only [cond_false,Bool.false_eq_true,if_false]
       rw [q0r (by omega) (by omega)]
       simp only [cond_true]
       have e5:(encZ st.reverse).take (st.length - (need t[i].1).1) ++ [PV.int .i64 (need t[i].1).2.2] = encZ ((need t[i].1).2.2 :: st.drop (need t[i].1).1).reverse:=by
        rw [q42,q1i,List.take_reverse]
        have:st.length - (st.length - (need t[i].1).1) = (need t[i].1).1:=by omega
        rw [this]
        simp
       have e6:st.length - (need t[i].1).1 + 1 = ((need t[i].1).2.2 :: st.drop (need t[i].1).1).length:=by simp
       rw [e5,e6,q0b (by omega) (by omega)]
       exact y3t hk wide vars t ht n (i + 1) _ (by omega) (by omega) (by simp;omega)
      ·simp [fin1]
  ·have hd:decide ((i:Int) < (t.length:Int)) = false:=by simpa using hlt
   rw [hd,List.drop_eq_nil_of_le (by omega)]
   simp only [cond_false,kst]
   congr 1
   rcases st with _ | ⟨a,_ | ⟨b,st⟩⟩ <;> simp [fin1]
   omega
theorem q96 {k:Nat} (hk:1000100<=k) (wide vars:Int) (t:List Nd) (ht:t.length<=100000):c239 k wide vars (encT t) = r239 (q1a wide vars t):=by
 obtain ⟨k,rfl⟩:∃ j,k = j + 1:=⟨k - 1,by omega⟩
 rw [n239,z44 (by omega),y3u (by omega)]
 simp only [y7r,x4g,q06]
 unfold q1a q4j
 cases h1:isW wide
 ·simp
 ·cases h2:isV vars
  ·simp
  ·by_cases h3:1<=t.length
   ·have h3':decide ((t.length:Int) < 1) = false:=by simp;omega
    by_cases h4:t.length<=48
    ·have h4':decide ((t.length:Int) > 48) = false:=by simp;omega
     simp only [Bool.not_true,cond_false,h3',h4',h3,h4,decide_true,Bool.and_self,Bool.true_and]
     have:=y3t (k:=k) (by omega) wide vars t ht k 0 [] (by omega) (by omega) (by simp)
     simpa [encZ] using this
    ·have h4':decide ((t.length:Int) > 48) = true:=by simp;omega
     simp [h3',h4',h4]
   ·have h3':decide ((t.length:Int) < 1) = true:=by simp;omega
    simp [h3',h3]
end Go.Proofs.YtgdegfijcijnoaaGreat
/- Kinds of terms,by the reference's text;kinds of good terms. -/
namespace Go.Proofs.YtgdegfijcijnoaaGreat
open Go.Dp
def Pile (xs:List PV) (st:List Int):Prop:=xs.take st.length = encZ st.reverse
theorem Pile.nil (xs:List PV):Pile xs []:=by simp [Pile,encZ]
theorem Pile.top {xs:List PV} {a:Int} {st:List Int} (h:Pile xs (a :: st)):xs[st.length]? = some (.int .i64 a) /\ Pile xs st:=by
 unfold Pile at h ⊢
 have e:(a :: st).length = st.length + 1:=rfl
 rw [e] at h
 constructor
 ·have h1:(xs.take (st.length + 1))[st.length]? = xs[st.length]?:=List.getElem?_take_of_lt (by omega)
  rw [<- h1,h,q2s]
  simp
 ·have h2:(xs.take (st.length + 1)).take st.length = xs.take st.length:=by rw [List.take_take];congr 1;omega
  rw [<- h2,h,q42]
  simp
theorem Pile.push {xs:List PV} {st:List Int} (h:Pile xs st) (b:Int):Pile (xs.take st.length ++ [PV.int .i64 b]) (b :: st):=by
 unfold Pile at h ⊢
 rw [h,q1i,q42]
 rw [List.take_of_length_le (by simp)]
 simp
theorem y7k {k:Nat} (hk:1000000<=k) (wide vars:Int) (n1:Nat) (t27:List PV) (t28:Int) (i:Nat) (hi:i<=100000) (part own:Int) (xs:List PV):∀ (m n:Nat) (st:List Int),m < n->m<=st.length->st.length<=100000->Pile xs st ->
  y0y k n1 n wide vars st.length (m:Int) part own t27 t28 (i:Int) xs = if (st.take m).any (· != part) then r196 0 else z3u k n1 wide vars (own :: st.drop m).length t27 t28 ((i + 1:Nat):Int) (xs.take (st.drop m).length ++ [PV.int .i64 own])
 | m,0,st,hm,hs,hl,hp=>by omega
 | 0,n + 1,st,hm,hs,hl,hp=>by
  rw [x08]
  have hd:decide (((0:Nat):Int) > 0) = false:=rfl
  rw [hd]
  simp only [cond_false,List.take_zero,List.any_nil,Bool.false_eq_true,if_false,List.drop_zero]
  rw [q0r (by omega) (by omega),q0b (by omega) (by omega)]
  simp only [cond_true]
  rfl
 | m + 1,n + 1,st,hm,hs,hl,hp=>by
  rw [x08]
  have hd:decide (((m + 1:Nat):Int) > 0) = true:=by (simp;try omega)
  rw [hd]
  cases st with
  | nil=>simp at hs
  | cons a st =>
   obtain ⟨hg,hp'⟩:=hp.top
   have e1:IntKind.i64.wrap (((a :: st).length:Int) - 1) = (st.length:Int):=by
    simp only [List.length_cons] at hl ⊢
    rw [q0b (by omega) (by omega)];omega
   have e2:IntKind.i64.wrap (((m + 1:Nat):Int) - 1) = (m:Int):=by rw [q0b (by omega) (by simp at hs hl;omega)];omega
   have e3:(decide ((0:Int)<=(st.length:Int)) && decide ((st.length:Int) < ((a :: st).length:Int))) = true:=by simp;omega
   have e4:(decide ((0:Int)<=(st.length:Int)) && decide ((st.length:Int)<=((a :: st).length:Int))) = true:=by simp;omega
   rw [e1,e2,e3,e4]
   simp only [cond_true,Int.toNat_natCast,Nat.zero_add,hg,Option.bind_some,q0k,List.take_succ_cons,List.any_cons,List.drop_succ_cons]
   cases hne:(a != part)
   ·simp only [cond_false,Bool.false_or]
    exact y7k hk wide vars n1 t27 t28 i hi part own xs m n st (by omega) (by simpa using hs) (by simp at hl;omega) hp'
   ·simp
theorem y38 {k:Nat} (hk:1000020<=k) (wide vars:Int) (t:List Nd) (ht:t.length<=100000):∀ (n i:Nat) (st:List Int) (xs:List PV),t.length - i < n->i<=t.length->st.length<=i->Pile xs st ->
  z3u k n wide vars st.length (encT t) (t.length:Int) (i:Int) xs = r196 (q2r (kst wide vars (t.drop i) st))
 | 0,i,st,xs,h,hi,hs,hp=>by omega
 | n + 1,i,st,xs,h,hi,hs,hp=>by
  rw [w16]
  by_cases hlt:i < t.length
  ·have hd:decide ((i:Int) < (t.length:Int)) = true:=by simpa using hlt
   rw [hd,q4l hlt,q0f hlt]
   simp only [cond_true,Option.bind_some,q29,q2x,q4y]
   rw [q6t (by omega),w4a (by omega) wide vars t[i]]
   simp only [z0g,kst]
   have hn2:=x1b t[i].1
   by_cases h1:(need t[i].1).2.2 = 0
   ·simp [h1,q2r]
   ·have h1':((need t[i].1).2.2 == 0) = false:=by simpa using h1
    simp only [h1',cond_false,h1,if_false,w5k]
    cases h2:q44 wide vars t[i]
    ·simp [q2r]
    ·simp only [Bool.not_true,cond_false,Bool.true_eq_false,if_false]
     by_cases h3:st.length < (need t[i].1).1
     ·have h3':decide ((st.length:Int) < ((need t[i].1).1:Nat)) = true:=by simpa using h3
      simp [h3',h3,q2r]
     ·have h3':decide ((st.length:Int) < ((need t[i].1).1:Nat)) = false:=by simp;omega
      rw [h3']
      simp only [cond_false,h3,if_false]
      rw [y7k (by omega) wide vars n _ _ i (by omega) _ _ xs _ k st (by omega) (by omega) (by omega) hp]
      cases h6:(st.take (need t[i].1).1).any (· != (need t[i].1).2.1)
      ·simp only [Bool.false_eq_true,if_false]
       have hpd:∀ (m:Nat) (st:List Int),Pile xs st->Pile xs (st.drop m):=by
        intro m
        induction m with
        | zero=>intro st h;simpa using h
        | succ m ih =>
         intro st h
         cases st with
         | nil=>simpa using h
         | cons a st=>simpa using ih st h.top.2
       refine y38 hk wide vars t ht n (i + 1) _ _ (by omega) (by omega) ?_ ((hpd _ st hp).push _)
       simp
       omega
      ·simp [q2r]
  ·have hd:decide ((i:Int) < (t.length:Int)) = false:=by simpa using hlt
   rw [hd,List.drop_eq_nil_of_le (by omega)]
   simp only [cond_false,kst]
   rcases st with _ | ⟨a,_ | ⟨b,st⟩⟩
   ·simp [q2r]
   ·have:=hp.top.1
    simp at this
    simp [q2r,this]
   ·have:(((a :: b :: st).length:Int) != 1) = true:=by simp;omega
    rw [this]
    simp [q2r]
theorem q9o {k:Nat} (hk:1000100<=k) (wide vars:Int) (t:List Nd) (ht:t.length<=100000):c196 k wide vars (encT t) = r196 (kindT wide vars t):=by
 obtain ⟨k,rfl⟩:∃ j,k = j + 1:=⟨k - 1,by omega⟩
 rw [n196,y6 (by omega),q6j (by omega),q6j (by omega)]
 simp only [x50,q5m,q06]
 unfold kindT q4j
 cases h1:isW wide
 ·simp
 ·have e:(decide (1<=vars) && decide (vars<=4)) = isV vars:=rfl
  rw [e]
  cases h2:isV vars
  ·simp
  ·have e2:(decide ((1:Int)<=(t.length:Int)) && decide ((t.length:Int)<=48)) = (decide (1<=t.length) && decide (t.length<=48)):=by
    rw [Bool.eq_iff_iff];simp;omega
   rw [e2]
   cases h3:(decide (1<=t.length) && decide (t.length<=48))
   ·rw [Bool.and_eq_false_iff] at h3
    rcases h3 with h3 | h3 <;> simp [h3]
   ·rw [Bool.and_eq_true] at h3
    simp only [Bool.not_true,cond_false,h3.1,h3.2,Bool.and_self,if_true]
    have:=y38 (k:=k) (by omega) wide vars t ht k 0 [] [] (by omega) (by omega) (by simp) (Pile.nil _)
    simpa using this
theorem x7t (op:Int):(need op).2.2 = 0 ∨ (need op).2.2 = 1 ∨ (need op).2.2 = 2:=by
 unfold need
 repeat' split
 all_goals simp
theorem z54 {wide vars:Int}:∀ {t:List Nd} {st st':List Int},kst wide vars t st = some st'->(∀ a ∈ st,a = 1 ∨ a = 2)->∀ a ∈ st',a = 1 ∨ a = 2
 | [],st,st',h,hs=>by simp [kst] at h;subst h;exact hs
 | x :: t,st,st',h,hs=>by
  simp only [kst] at h
  split at h
  ·cases h
  ·split at h
   ·cases h
   ·split at h
    ·cases h
    ·split at h
     ·cases h
     ·rename_i h1 _ _ _
      refine z54 h ?_
      intro a ha
      rcases List.mem_cons.1 ha with rfl | ha
      ·rcases x7t x.1 with h | h | h
       ·exact absurd h h1
       ·exact .inl h
       ·exact .inr h
      ·exact hs a (List.mem_of_mem_drop ha)
theorem y2x {wide vars:Int}:∀ (t u:List Nd) (st:List Int),kst wide vars (t ++ u) st = (kst wide vars t st).bind (kst wide vars u)
 | [],u,st=>rfl
 | x :: t,u,st=>by
  simp only [List.cons_append,kst]
  split
  ·rfl
  ·split
   ·rfl
   ·split
    ·rfl
    ·split
     ·rfl
     ·exact y2x t u _
theorem z8s {wide vars:Int} {t:List Nd} {x:Nd} {st st':List Int} (h:kst wide vars (t ++ [x]) st = some st'):∃ s,st' = (need x.1).2.2 :: s:=by
 rw [y2x] at h
 obtain ⟨s,_,h⟩:=Option.bind_eq_some_iff.1 h
 simp only [kst] at h
 split at h
 ·cases h
 ·split at h
  ·cases h
  ·split at h
   ·cases h
   ·split at h
    ·cases h
    ·exact ⟨_,(Option.some.inj h).symm⟩
theorem q37 {wide vars:Int} {t:List Nd}:q1a wide vars t = true ↔ q4j wide vars t = true /\ ∃ c,kst wide vars t [] = some [c] /\ (c = 1 ∨ c = 2):=by
 unfold q1a
 rw [Bool.and_eq_true]
 constructor
 ·rintro ⟨h1,h2⟩
  refine ⟨h1,?_⟩
  cases h:kst wide vars t [] with
  | none=>rw [h] at h2;cases h2
  | some st =>
   rw [h] at h2
   rcases st with _ | ⟨a,_ | ⟨b,st⟩⟩
   ·cases h2
   ·exact ⟨a,rfl,z54 h (by simp) a (by simp)⟩
   ·cases h2
 ·rintro ⟨h1,c,h2,_⟩
  exact ⟨h1,by rw [h2];rfl⟩
theorem z4v {wide vars:Int} {t:List Nd}:decide (kindT wide vars t > 0) = q1a wide vars t:=by
 rw [Bool.eq_iff_iff,q37]
 unfold kindT
 constructor
 ·intro h
  simp only [decide_eq_true_eq] at h
  split at h
  ·rename_i hs
   refine ⟨hs,?_⟩
   cases hk:kst wide vars t [] with
   | none=>rw [hk] at h;simp [q2r] at h
   | some st =>
    rw [hk] at h
    rcases st with _ | ⟨a,_ | ⟨b,st⟩⟩
    ·simp [q2r] at h
    ·exact ⟨a,rfl,z54 hk (by simp) a (by simp)⟩
    ·simp [q2r] at h
  ·simp at h
 ·rintro ⟨hs,c,hk,hc⟩
  simp [hs,hk,q2r]
  omega
theorem z3n {k:Nat} (hk:1000101<=k) (wide vars:Int) (t:List Nd) (ht:t.length<=100000):c292 k wide vars (encT t) = r292 (q1a wide vars t):=by
 obtain ⟨k,rfl⟩:∃ j,k = j + 1:=⟨k - 1,by omega⟩
 rw [n292,q9o (by omega) _ _ _ ht]
 simp only [z9k,z4v]
theorem x4o {k:Nat} (hk:2<=k) (wide vars:Int) (t:List Nd) (ht:t.length<=100000) (h:q1a wide vars t = true):c240 k (encT t) = r240 (kindT wide vars t):=by
 obtain ⟨k,rfl⟩:∃ j,k = j + 1:=⟨k - 1,by omega⟩
 obtain ⟨hs,c,hk',hc⟩:=q37.1 h
 have hl:1<=t.length:=by simp [q4j] at hs;omega
 have hlt:t.length - 1 < t.length:=by omega
 rw [n240,q06,q0b (by omega) (by omega)]
 have e:(t.length:Int) - 1 = ((t.length - 1:Nat):Int):=by omega
 rw [e,q4l hlt]
 simp only [Option.bind_some,q2x]
 rw [z2s (by omega)]
 simp only [x30]
 congr 1
 have e2:t = t.take (t.length - 1) ++ [t[t.length - 1]]:=by
  conv=>lhs;rw [<- List.take_append_drop (t.length - 1) t]
  rw [q0f hlt,List.drop_eq_nil_of_le (by omega)]
 rw [e2] at hk'
 obtain ⟨s,h3⟩:=z8s hk'
 rw [<- e2] at hk'
 injection h3 with h3 _
 simp [kindT,hs,hk',q2r,h3]
theorem z0d {k:Nat} (hk:1000102<=k) (wide vars:Int) (t:List Nd) (ht:t.length<=100000) (c:Int) (hc:c ≠ 0):c187 k wide vars (encT t) c = r187 (kindT wide vars t == c):=by
 obtain ⟨k,rfl⟩:∃ j,k = j + 1:=⟨k - 1,by omega⟩
 rw [n187,q96 (by omega) _ _ _ ht]
 simp only [y7j]
 cases h:q1a wide vars t
 ·simp only [cond_false]
  congr 1
  have h2:=z4v (wide:=wide) (vars:=vars) (t:=t)
  rw [h] at h2
  symm
  rw [beq_eq_false_iff_ne]
  intro h3
  have hz:kindT wide vars t = 0:=by
   unfold kindT at h2 ⊢
   split
   ·rename_i hs
    rw [if_pos hs] at h2
    cases hk:kst wide vars t [] with
    | none=>simp [q2r]
    | some st =>
     rw [hk] at h2
     rcases st with _ | ⟨a,_ | ⟨b,st⟩⟩
     ·simp [q2r]
     ·have:=z54 hk (by simp) a (by simp)
      simp [q2r] at h2
      omega
     ·simp [q2r]
   ·rfl
  omega
 ·simp only [cond_true]
  rw [x4o (by omega) _ _ _ ht h]
  simp only [w38]
end Go.Proofs.YtgdegfijcijnoaaGreat
/- Values of terms. -/
namespace Go.Proofs.YtgdegfijcijnoaaGreat
open Go.Dp
def mk (wide:Int):W:=q3d wide.toNat
def tr (b:Bool):W:=if b then 1#64 else 0#64
def shW (wide:Int) (a b:W) (left:Bool):W:=if wide<=wi b then 0#64 else if left then (a <<< b.toNat) &&& mk wide else a >>> b.toNat
def sgn (wide:Int) (a:W):Int:=shrI .i64 (IntKind.i64.wrap (wi (a <<< (64 - wide).toNat))) (64 - wide)
def divW (wide:Int) (a b:W):W × W:=if q1v wide a && q1v wide b then (if b = 0#64 then (mk wide,a) else (a / b,a % b)) else (0#64,0#64)
def z5k (wide op:Int) (a b:W):W :=
 if op = 3 then a + b else if op = 4 then a - b else if op = 5 then a * b else if op = 6 then (divW wide a b).1 else if op = 7 then (divW wide a b).2
 else if op = 8 then a &&& b else if op = 17 then a &&& b else if op = 9 then a ||| b else if op = 18 then a ||| b else if op = 10 then a ^^^ b
 else if op = 11 then shW wide a b true else if op = 12 then shW wide a b false else if op = 14 then tr (a == b) else if op = 15 then tr (decide (a < b))
 else if op = 16 then tr (decide (sgn wide a < sgn wide b)) else 0#64
def apW (wide op:Int) (a b:W):W:=z5k wide op a b &&& mk wide
theorem x8c {k:Nat} (hk:1<=k) (b:Bool):c265 k b = r265 (wi (tr b)):=by
 obtain ⟨k,rfl⟩:∃ j,k = j + 1:=⟨k - 1,by omega⟩
 rw [n265]
 cases b <;> rfl
theorem y5g {k:Nat} (hk:1<=k) {wide:Int} (h:isW wide = true):c150 k wide = r150 (wi (mk wide)):=by
 have:=q14.1 h
 exact y2k hk (by omega) (by omega)
theorem x60 {k:Nat} (hk:2<=k) {wide:Int} (h:isW wide = true) (a b:W) (left:Bool):c264 k wide (wi a) (wi b) left = r264 (wi (shW wide a b left)):=by
 obtain ⟨k,rfl⟩:∃ j,k = j + 1:=⟨k - 1,by omega⟩
 have h':=q14.1 h
 rw [n264,q4m (by omega) (by omega)]
 unfold shW
 by_cases h1:wide<=wi b
 ·have:decide (wi b>=wide) = true:=by simpa using h1
  simp only [this,cond_true,h1,if_true]
  rfl
 ·have h2:decide (wi b>=wide) = false:=by simpa using h1
  have h3:decide (wi b < 0) = false:=by have:=q36 b;simp;omega
  simp only [h2,h3,cond_false,h1,if_false,Bool.not_false,cond_true]
  cases left
  ·simp only [cond_false,Bool.false_eq_true,if_false]
   rw [z3v _ (q36 b)]
   simp [wi]
  ·simp only [cond_true,if_true]
   rw [y5g (by omega) h]
   simp only [z02]
   rw [y0o _ (q36 b),q7b]
   simp [wi]
theorem x4v {k:Nat} (hk:1<=k) {wide:Int} (h:isW wide = true) (a:W):c266 k wide (wi a) = r266 (sgn wide a):=by
 obtain ⟨k,rfl⟩:∃ j,k = j + 1:=⟨k - 1,by omega⟩
 have h':=q14.1 h
 rw [n266,q0b (n:=64 - wide) (by omega) (by omega)]
 have h3:decide (64 - wide < 0) = false:=by simp;omega
 simp only [h3,Bool.not_false,cond_true]
 rw [y0o _ (by omega)]
 rfl
theorem x7b {k:Nat} (hk:1<=k) (a b:W) (hb:b ≠ 0#64):c287 k 0 (wi a) (wi b) = r287 (wi (a / b)) (wi (a % b)):=by
 obtain ⟨k,rfl⟩:∃ j,k = j + 1:=⟨k - 1,by omega⟩
 rw [n287]
 have hb0:b.toNat ≠ 0:=fun h=>hb (BitVec.eq_of_toNat_eq (by simpa using h))
 have h1:(wi b == 0) = false:=by unfold wi;simp;omega
 have h2:decide (wi b<=0) = false:=by unfold wi;simp;omega
 have h3:((0:Int) == 0) = true:=rfl
 simp only [h1,h2,h3,cond_false,cond_true,Bool.not_false]
 have e1:(wi a).tdiv (wi b) = wi (a / b):=by
  unfold wi
  rw [Int.tdiv_eq_ediv_of_nonneg (by omega),BitVec.toNat_udiv,Int.natCast_ediv]
 have e2:(wi a).tmod (wi b) = wi (a % b):=by
  unfold wi
  rw [Int.tmod_eq_emod_of_nonneg (by omega),BitVec.toNat_umod,Int.natCast_emod]
 rw [e1,e2,q8c]
theorem y9b {k:Nat} (hk:3<=k) (wide:Int) (a b:W):c286 k wide (wi a) (wi b) = r286 (q1v wide a && q1v wide b):=by
 obtain ⟨k,rfl⟩:∃ j,k = j + 1:=⟨k - 1,by omega⟩
 rw [n286,q9y (by omega),q9y (by omega)]
 simp only [w2z]
 cases q1v wide a <;> rfl
theorem x25 {k:Nat} (hk:4<=k) {wide:Int} (h:isW wide = true) (a b:W):c263 k wide (wi a) (wi b) = r263 (wi (divW wide a b).1) (wi (divW wide a b).2) (q1v wide a && q1v wide b):=by
 obtain ⟨k,rfl⟩:∃ j,k = j + 1:=⟨k - 1,by omega⟩
 rw [n263,y9b (by omega)]
 simp only [w36]
 unfold divW
 cases h1:(q1v wide a && q1v wide b)
 ·rfl
 ·simp only [Bool.not_true,cond_false,if_true]
  by_cases hb:b = 0#64
  ·subst hb
   have e:(wi 0#64 == 0) = true:=rfl
   simp only [e,cond_true,if_true]
   rw [y5g (by omega) h]
   simp only [z02]
  ·have h2:(wi b == 0) = false:=by
    have e:(0:Int) = wi 0#64:=rfl
    rw [e,q3y];simpa using hb
   simp only [h2,cond_false,hb,if_false]
   rw [x7b (by omega) a b hb]
   simp only [w3z]
theorem x8 {k:Nat} (hk:5<=k) {wide:Int} (h:isW wide = true) (op:Int) (a b:W):c213 k wide op (wi a) (wi b) = r213 (wi (apW wide op a b)):=by
 obtain ⟨k,rfl⟩:∃ j,k = j + 1:=⟨k - 1,by omega⟩
 rw [n213]
 have hm:=y5g (k:=k) (by omega) h
 have hd:=x25 (k:=k) (by omega) h a b
 have hs:=fun l=>x60 (k:=k) (by omega) h a b l
 have ht:=fun x=>x8c (k:=k) (by omega) x
 have hg:=fun x=>x4v (k:=k) (by omega) h x
 simp only [hm,hd,hs,ht,hg,z02,w26,w3d,w20,w5g,x5f,z92,x54,q7b,y5k,z3i,q3y,y3s]
 unfold apW z5k
 by_cases h1:op = 3
 · subst h1;rfl
 by_cases h2:op = 4
 · subst h2;rfl
 by_cases h3:op = 5
 · subst h3;rfl
 by_cases h4:op = 6
 · subst h4;rfl
 by_cases h5:op = 7
 · subst h5;rfl
 by_cases h6:op = 8
 · subst h6;rfl
 by_cases h7:op = 17
 · subst h7;rfl
 by_cases h8:op = 9
 · subst h8;rfl
 by_cases h9:op = 18
 · subst h9;rfl
 by_cases h10:op = 10
 · subst h10;rfl
 by_cases h11:op = 11
 · subst h11;rfl
 by_cases h12:op = 12
 · subst h12;rfl
 by_cases h13:op = 14
 · subst h13;rfl
 by_cases h14:op = 15
 · subst h14;rfl
 by_cases h15:op = 16
 · subst h15;rfl
 have q:∀ c:Int,op ≠ c->(op == c) = false:=fun c hc=>by simpa using hc
 simp only [q _ h1,q _ h2,q _ h3,q _ h4,q _ h5,q _ h6,q _ h7,q _ h8,q _ h9,q _ h10,q _ h11,q _ h12,q _ h13,q _ h14,q _ h15,cond_false,h1,h2,h3,h4,h5,h6,h7,h8,h9,h10,h11,h12,h13,h14,h15,if_false]
 have e:(0:Int) = wi 0#64:=rfl
 rw [e,q7b]
def vrun (wide:Int) (state:List W):List Nd->List W->Option (List W)
 | [],vs=>some vs
 | x :: t,vs =>
  if x.1 = 1 ∨ x.1 = 20 then vrun wide state t (x.2 :: vs)
  else if x.1 = 2 then (state[x.2.toNat]?).bind fun s=>vrun wide state t (s :: vs)
  else if x.1 = 13 then match vs with
   | a :: r=>vrun wide state t ((~~~a &&& mk wide) :: r)
   | []=>none
  else if x.1 = 19 then match vs with
   | a :: r=>vrun wide state t ((1#64 - a) :: r)
   | []=>none
  else match vs with
   | b :: a :: r=>vrun wide state t (apW wide x.1 a b :: r)
   | _=>none
theorem z8t {a:W} {r:List W}:(encW (a :: r).reverse)[r.length]? = some (.int .u64 (wi a)):=by rw [q47];simp
theorem x3v {a b:W} {r:List W}:(encW (b :: a :: r).reverse)[r.length]? = some (.int .u64 (wi a)):=by rw [q47];simp
theorem y76 {a b:W} {r:List W}:(encW (a :: r).reverse).set r.length (.int .u64 (wi b)) = encW (b :: r).reverse:=by
 simp [encW]
theorem y8c {k:Nat} (hk:100<=k) {wide:Int} (hw:isW wide = true) (state:List W) (t:List Nd) (ht:t.length<=100000) (v:W):∀ (n i:Nat) (vs:List W),t.length - i < n->i<=t.length->vs.length<=i->vrun wide state (t.drop i) vs = some [v] ->
  q6d k n wide (encW state) vs.length (encT t) (t.length:Int) (i:Int) (encW vs.reverse) = r149 (wi v)
 | 0,i,vs,h,hi,hs,hv=>by omega
 | n + 1,i,vs,h,hi,hs,hv=>by
  rw [w03]
  by_cases hlt:i < t.length
  ·have hd:decide ((i:Int) < (t.length:Int)) = true:=by simpa using hlt
   rw [hd,q4l hlt]
   rw [q0f hlt] at hv
   generalize t[i] = x at hv
   simp only [cond_true,Option.bind_some,q29,q2x,q4y]
   have hnext:IntKind.i64.wrap ((i:Int) + 1) = ((i + 1:Nat):Int):=by rw [q0b (by omega) (by omega)];omega
   rw [hnext]
   have push:∀ a:W,(encW vs.reverse).take vs.length ++ [PV.int .u64 (wi a)] = encW (a :: vs).reverse:=by
    intro a
    rw [List.take_of_length_le (by simp),q9m]
    simp
   have ih:=fun (vs:List W) (h1:vs.length<=i + 1) (h2:vrun wide state (t.drop (i + 1)) vs = some [v])=>y8c hk hw state t ht v n (i + 1) vs (by omega) (by omega) h1 h2
   simp only [vrun] at hv
   have hlim:(decide ((vs.length + 1) * 8<=LIM) && decide (vs.length + 1<=LIM)) = true:=q0r (by omega) (by omega)
   by_cases h1:x.1 = 1
   ·have e1:(x.1 == 1) = true:=by simpa using h1
    simp only [e1,cond_true,hlim,push]
    rw [if_pos (.inl h1)] at hv
    exact ih (x.2 :: vs) (by simp;omega) hv
   have e1:(x.1 == 1) = false:=by simpa using h1
   by_cases h2:x.1 = 20
   ·have e2:(x.1 == 20) = true:=by simpa using h2
    simp only [e1,e2,cond_true,cond_false,hlim,push]
    rw [if_pos (.inr h2)] at hv
    exact ih (x.2 :: vs) (by simp;omega) hv
   have e2:(x.1 == 20) = false:=by simpa using h2
   rw [if_neg (by simp [h1,h2])] at hv
   by_cases h3:x.1 = 2
   ·have e3:(x.1 == 2) = true:=by simpa using h3
    rw [if_pos h3] at hv
    obtain ⟨s,hst,hv⟩:=Option.bind_eq_some_iff.1 hv
    simp only [e1,e2,e3,cond_true,cond_false,hlim]
    rw [q48 (q36 _),q47]
    have e4:(wi x.2).toNat = x.2.toNat:=by simp [wi]
    rw [e4,hst]
    simp only [Option.map_some,Option.bind_some,q0k,push]
    exact ih (s :: vs) (by simp;omega) hv
   have e3:(x.1 == 2) = false:=by simpa using h3
   rw [if_neg h3] at hv
   by_cases h4:x.1 = 13
   ·have e4:(x.1 == 13) = true:=by simpa using h4
    rw [if_pos h4] at hv
    cases vs with
    | nil=>cases hv
    | cons a r =>
     simp only at hv
     have hlen:IntKind.i64.wrap (((a :: r).length:Int) - 1) = (r.length:Int):=by simp only [List.length_cons] at hs ⊢;rw [q0b (by omega) (by omega)];omega
     have hb:(decide ((0:Int)<=(r.length:Int)) && decide ((r.length:Int) < ((a :: r).length:Int))) = true:=by simp;omega
     simp only [e1,e2,e3,e4,cond_true,cond_false,hlen,hb,Int.toNat_natCast,Nat.zero_add,z8t,Option.bind_some,q0k]
     rw [y5g (by omega) hw]
     simp only [z02]
     have ex:(18446744073709551615:Int) = wi (BitVec.allOnes 64):=rfl
     rw [ex,z3i,q7b,BitVec.allOnes_xor,y76]
     exact ih ((~~~a &&& mk wide) :: r) (by simp at hs ⊢;omega) hv
   have e4:(x.1 == 13) = false:=by simpa using h4
   rw [if_neg h4] at hv
   by_cases h5:x.1 = 19
   ·have e5:(x.1 == 19) = true:=by simpa using h5
    rw [if_pos h5] at hv
    cases vs with
    | nil=>cases hv
    | cons a r =>
     simp only at hv
     have hlen:IntKind.i64.wrap (((a :: r).length:Int) - 1) = (r.length:Int):=by simp only [List.length_cons] at hs ⊢;rw [q0b (by omega) (by omega)];omega
     have hb:(decide ((0:Int)<=(r.length:Int)) && decide ((r.length:Int) < ((a :: r).length:Int))) = true:=by simp;omega
     simp only [e1,e2,e3,e4,e5,cond_true,cond_false,hlen,hb,Int.toNat_natCast,Nat.zero_add,z8t,Option.bind_some,q0k]
     have ex:(1:Int) = wi 1#64:=rfl
     rw [ex,z92,y76]
     exact ih ((1#64 - a) :: r) (by simp at hs ⊢;omega) hv
   have e5:(x.1 == 19) = false:=by simpa using h5
   rw [if_neg h5] at hv
   rcases vs with _ | ⟨b,_ | ⟨a,r⟩⟩
   ·cases hv
   ·cases hv
   ·simp only at hv
    have hlen:IntKind.i64.wrap (((b :: a :: r).length:Int) - 1) = ((r.length + 1:Nat):Int):=by simp only [List.length_cons] at hs ⊢;rw [q0b (by omega) (by omega)];omega
    have hlen2:IntKind.i64.wrap (((r.length + 1:Nat):Int) - 1) = (r.length:Int):=by simp only [List.length_cons] at hs;rw [q0b (by omega) (by omega)];omega
    have hb:(decide ((0:Int)<=(r.length:Int)) && decide ((r.length:Int) < ((b :: a :: r).length:Int))) = true:=by simp;omega
    have hb2:(decide ((0:Int)<=(r.length:Int)) && decide ((r.length:Int)<=((b :: a :: r).length:Int))) = true:=by simp;omega
    have hb3:(decide ((0:Int)<=((r.length + 1:Nat):Int)) && decide (((r.length + 1:Nat):Int) < ((b :: a :: r).length:Int))) = true:=by simp;omega
    have ht1:(encW (b :: a :: r).reverse)[r.length + 1]? = some (.int .u64 (wi b)):=z8t (a:=b) (r:=a :: r)
    simp only [e1,e2,e3,e4,e5,cond_true,cond_false,hlen,hlen2,hb,hb2,hb3,Int.toNat_natCast,Nat.zero_add,x3v,ht1,Option.bind_some,q0k]
    rw [x8 (by omega) hw]
    simp only [w5c]
    have hlim2:(decide ((r.length + 1) * 8<=LIM) && decide (r.length + 1<=LIM)) = true:=q0r (by simp at hs;omega) (by omega)
    have hp:(encW (b :: a :: r).reverse).take r.length ++ [PV.int .u64 (wi (apW wide x.1 a b))] = encW (apW wide x.1 a b :: r).reverse:=by
     rw [x59,q9m]
     simp
    rw [hlim2,hp]
    exact ih (apW wide x.1 a b :: r) (by simp at hs ⊢;omega) hv
  ·have hd:decide ((i:Int) < (t.length:Int)) = false:=by simpa using hlt
   rw [hd]
   rw [List.drop_eq_nil_of_le (by omega)] at hv
   simp only [vrun] at hv
   injection hv with hv
   subst hv
   rfl
theorem q7o {k:Nat} (hk:200000<=k) {wide:Int} (hw:isW wide = true) (state:List W) (t:List Nd) (ht:t.length<=100000) {v:W} (hv:vrun wide state t [] = some [v]):c149 k wide (encT t) (encW state) = r149 (wi v):=by
 obtain ⟨k,rfl⟩:∃ j,k = j + 1:=⟨k - 1,by omega⟩
 rw [n149,q06]
 exact y8c (by omega) hw state t ht v k 0 [] (by omega) (by omega) (by simp) hv
end Go.Proofs.YtgdegfijcijnoaaGreat
/- States,values,what is put for variables: the functions. -/
namespace Go.Proofs.YtgdegfijcijnoaaGreat
open Go.Dp
def putT (by1:List (List Nd)):List Nd->List Nd
 | []=>[]
 | x :: t=>(if x.1 = 2 then (by1[x.2.toNat]?).getD [] else [x]) ++ putT by1 t
def byOK (wide vars:Int) (by1:List (List Nd)):Bool:=by1.all fun b=>kindT wide vars b == 1
def q6g (wide vars:Int) (t:List Nd) (by1:List (List Nd)):Bool:=q1a wide vars t && decide ((by1.length:Int) = vars) && byOK wide vars by1
theorem x0x {k:Nat} (hk:1000150<=k) (wide vars:Int) (l:List (List Nd)) (hl:l.length<=1000) (hb:∀ b ∈ l,b.length<=100):∀ (n i:Nat),l.length - i < n->i<=l.length->∃ v,q56 k n (q0h l) (l.length:Int) (i:Int) wide vars = q8u wide vars v /\ decide (v>=0) = (l.drop i).any (fun b=>!(kindT wide vars b == 1))
 | 0,i,h,hi=>by omega
 | n + 1,i,h,hi=>by
  obtain ⟨k,rfl⟩:∃ j,k = j + 1:=⟨k - 1,by omega⟩
  rw [y9l]
  by_cases hlt:i < l.length
  ·have hd:decide ((i:Int) < (l.length:Int)) = true:=by simpa using hlt
   have h2:=hb l[i] (List.getElem_mem hlt)
   rw [hd,q0o,q1o,List.getElem?_eq_getElem hlt]
   simp only [cond_true,Option.map_some,Option.bind_some,q09,n288]
   rw [z0d (by omega) wide vars l[i] (by omega) 1 (by omega)]
   simp only [y8p,w27]
   rw [q0f hlt,List.any_cons]
   cases hne:(kindT wide vars l[i] == 1)
   ·simp only [Bool.not_false,cond_true,Bool.true_or]
    exact ⟨_,rfl,by simp⟩
   ·simp only [Bool.not_true,cond_false,Bool.false_or]
    rw [q0b (by omega) (by omega)]
    exact x0x (k:=k + 1) (by omega) wide vars l hl hb n (i + 1) (by omega) (by omega)
  ·have hd:decide ((i:Int) < (l.length:Int)) = false:=by simpa using hlt
   rw [hd,List.drop_eq_nil_of_le (by omega)]
   exact ⟨_,rfl,by simp⟩
theorem w5x {k:Nat} (hk:1000200<=k) (wide vars:Int) (l:List (List Nd)) (hl:l.length<=1000) (hb:∀ b ∈ l,b.length<=100):z8h k (q0h l) wide vars = z8j wide vars (!byOK wide vars l):=by
 obtain ⟨k,rfl⟩:∃ j,k = j + 2:=⟨k - 2,by omega⟩
 rw [x79,x64,q05]
 obtain ⟨v,h,h2⟩:=x0x (k:=k) (by omega) wide vars l hl hb k 0 (by omega) (by omega)
 have h':q56 k k (q0h l) (l.length:Int) 0 wide vars = q8u wide vars v:=h
 rw [h']
 simp only [x2o,h2,List.drop_zero,byOK]
 congr 1
 rw [List.all_eq_not_any_not,Bool.not_not]
theorem x1y {k:Nat} (hk:1000101<=k) (wide vars:Int) (t:List Nd) (ht:t.length<=100000):c289 k wide vars (encT t) = r289 (bif q1a wide vars t then encT t else []) (q1a wide vars t):=by
 obtain ⟨k,rfl⟩:∃ j,k = j + 1:=⟨k - 1,by omega⟩
 rw [n289,q96 (by omega) _ _ _ ht]
 simp only [y7j]
 cases q1a wide vars t <;> rfl
theorem w02 {k:Nat} (hk:1000102<=k) (wide vars:Int) (t:List Nd) (ht:t.length<=100000):c293 k wide vars (encT t) = r293 (bif q1a wide vars t then encT t else []) (q1a wide vars t):=by
 obtain ⟨k,rfl⟩:∃ j,k = j + 1:=⟨k - 1,by omega⟩
 rw [n293,z3n (by omega) _ _ _ ht]
 simp only [x6a]
 cases q1a wide vars t <;> rfl
theorem z79 {k:Nat} (hk:1000150<=k) (wide vars:Int) (t:List Nd) (ht:t.length<=100) (by1:List (List Nd)) (hb:∀ b ∈ by1,b.length<=100):∀ (n i:Nat) (o:List Nd),t.length - i < n->i<=t.length->o.length<=100 * i->(∀ x ∈ t.drop i,x.1 = 2->x.2.toNat < by1.length) ->
  z4a k n (q0h by1) o.length (encT t) (t.length:Int) (i:Int) wide vars (encT o) = r268 (bif q1a wide vars (o ++ putT by1 (t.drop i)) then encT (o ++ putT by1 (t.drop i)) else []) (q1a wide vars (o ++ putT by1 (t.drop i)))
 | 0,i,o,h,hi,ho,hv=>by omega
 | n + 1,i,o,h,hi,ho,hv=>by
  rw [w0f]
  have htk:(encT o).take o.length = encT o:=by rw [List.take_of_length_le (by simp)]
  rw [htk]
  by_cases hlt:i < t.length
  ·have hd:decide ((i:Int) < (t.length:Int)) = true:=by simpa using hlt
   have hx:=hv t[i] (by rw [q0f hlt];exact List.mem_cons_self)
   have hv':∀ x ∈ t.drop (i + 1),x.1 = 2->x.2.toNat < by1.length:=fun x hx=>hv x (by rw [q0f hlt];exact List.mem_cons_of_mem _ hx)
   rw [hd,q4l hlt,q0f hlt]
   simp only [cond_true,Option.bind_some,q29,q2x,q4y,putT]
   have hnext:IntKind.i64.wrap ((i:Int) + 1) = ((i + 1:Nat):Int):=by rw [q0b (by omega) (by omega)];omega
   rw [hnext]
   by_cases h2:t[i].1 = 2
   ·have h2':(t[i].1 == 2) = true:=by simpa using h2
    have hxl:=hx h2
    have e4:(wi t[i].2).toNat = t[i].2.toNat:=by simp [wi]
    have hbl:=hb _ (List.getElem_mem hxl)
    rw [h2',q48 (q36 _),q1o,e4,List.getElem?_eq_getElem hxl]
    simp only [cond_true,Option.map_some,Option.bind_some,q09,h2,if_true,Option.getD_some,q06]
    rw [q0r (by omega) (by omega),z8e,<- List.length_append]
    simp only [cond_true]
    rw [z79 hk wide vars t ht by1 hb n (i + 1) (o ++ by1[t[i].2.toNat]) (by omega) (by omega) (by simp;omega) hv',List.append_assoc]
   ·have h2':(t[i].1 == 2) = false:=by simpa using h2
    rw [h2',q0r (by omega) (by omega)]
    have e5:PV.agg [.int .i64 t[i].1,.int .u64 (wi t[i].2)] = encN t[i]:=rfl
    have e6:o.length + 1 = (o ++ [t[i]]).length:=by simp
    simp only [cond_true,cond_false,h2,if_false]
    rw [e5,y26,e6]
    rw [z79 hk wide vars t ht by1 hb n (i + 1) (o ++ [t[i]]) (by omega) (by omega) (by simp;omega) hv',List.append_assoc]
  ·have hd:decide ((i:Int) < (t.length:Int)) = false:=by simpa using hlt
   rw [hd,List.drop_eq_nil_of_le (by omega),x1y (by omega) _ _ _ (by omega)]
   simp only [cond_false,w42,putT,List.append_nil]
theorem z3a {k:Nat} (hk:1000150<=k) (wide vars:Int) (t:List Nd) (ht:t.length<=100) (by1:List (List Nd)) (hb:∀ b ∈ by1,b.length<=100):∀ (n i:Nat) (o:List Nd),t.length - i < n->i<=t.length->o.length<=100 * i->(∀ x ∈ t.drop i,x.1 = 2->x.2.toNat < by1.length) ->
  z0r k n wide vars (q0h by1) o.length (encT t) (t.length:Int) (i:Int) (encT o) = r272 (bif q1a wide vars (o ++ putT by1 (t.drop i)) then encT (o ++ putT by1 (t.drop i)) else []) (q1a wide vars (o ++ putT by1 (t.drop i)))
 | 0,i,o,h,hi,ho,hv=>by omega
 | n + 1,i,o,h,hi,ho,hv=>by
  rw [w0h]
  have htk:(encT o).take o.length = encT o:=by rw [List.take_of_length_le (by simp)]
  rw [htk]
  by_cases hlt:i < t.length
  ·have hd:decide ((i:Int) < (t.length:Int)) = true:=by simpa using hlt
   have hx:=hv t[i] (by rw [q0f hlt];exact List.mem_cons_self)
   have hv':∀ x ∈ t.drop (i + 1),x.1 = 2->x.2.toNat < by1.length:=fun x hx=>hv x (by rw [q0f hlt];exact List.mem_cons_of_mem _ hx)
   rw [hd,q4l hlt,q0f hlt]
   simp only [cond_true,Option.bind_some,q29,q2x,q4y,putT]
   have hnext:IntKind.i64.wrap ((i:Int) + 1) = ((i + 1:Nat):Int):=by rw [q0b (by omega) (by omega)];omega
   rw [hnext]
   by_cases h2:t[i].1 = 2
   ·have h2':(t[i].1 == 2) = true:=by simpa using h2
    have hxl:=hx h2
    have e4:(wi t[i].2).toNat = t[i].2.toNat:=by simp [wi]
    have hbl:=hb _ (List.getElem_mem hxl)
    rw [h2',q48 (q36 _),q1o,e4,List.getElem?_eq_getElem hxl]
    simp only [cond_true,Option.map_some,Option.bind_some,q09,h2,if_true,Option.getD_some,q06]
    rw [q0r (by omega) (by omega),z8e,<- List.length_append]
    simp only [cond_true]
    rw [z3a hk wide vars t ht by1 hb n (i + 1) (o ++ by1[t[i].2.toNat]) (by omega) (by omega) (by simp;omega) hv',List.append_assoc]
   ·have h2':(t[i].1 == 2) = false:=by simpa using h2
    rw [h2',q0r (by omega) (by omega)]
    have e5:PV.agg [.int .i64 t[i].1,.int .u64 (wi t[i].2)] = encN t[i]:=rfl
    have e6:o.length + 1 = (o ++ [t[i]]).length:=by simp
    simp only [cond_true,cond_false,h2,if_false]
    rw [e5,y26,e6]
    rw [z3a hk wide vars t ht by1 hb n (i + 1) (o ++ [t[i]]) (by omega) (by omega) (by simp;omega) hv',List.append_assoc]
  ·have hd:decide ((i:Int) < (t.length:Int)) = false:=by simpa using hlt
   rw [hd,List.drop_eq_nil_of_le (by omega),w02 (by omega) _ _ _ (by omega)]
   simp only [cond_false,w3n,putT,List.append_nil]
theorem y56 {wide vars:Int}:∀ {t:List Nd} {st st':List Int},kst wide vars t st = some st'->∀ x ∈ t,q44 wide vars x = true
 | [],st,st',h=>by simp
 | x :: t,st,st',h=>by
  simp only [kst] at h
  split at h
  ·cases h
  ·split at h
   ·cases h
   ·rename_i h2
    split at h
    ·cases h
    ·split at h
     ·cases h
     ·intro y hy
      rcases List.mem_cons.1 hy with rfl | hy
      ·simpa using h2
      ·exact y56 h y hy
theorem z1s {wide vars:Int} {t:List Nd} (h:q1a wide vars t = true):∀ x ∈ t,x.1 = 2->(x.2.toNat:Int) < vars:=by
 obtain ⟨hs,c,hk,_⟩:=q37.1 h
 have hv:isV vars = true:=by simp only [q4j,Bool.and_eq_true] at hs;exact hs.1.1.2
 have hv':=q8a.1 hv
 intro x hx h2
 have:=y56 hk x hx
 simp [q44,h2] at this
 rw [q4m (by omega) (by omega)] at this
 exact this
theorem x57 {k:Nat} (hk:1000300<=k) (wide vars:Int) (t:List Nd) (ht:t.length<=100) (by1:List (List Nd)) (hl:by1.length<=1000) (hb:∀ b ∈ by1,b.length<=100) :
  c268 k wide vars (encT t) (q0h by1) = r268 (bif q6g wide vars t by1 && q1a wide vars (putT by1 t) then encT (putT by1 t) else []) (q6g wide vars t by1 && q1a wide vars (putT by1 t)):=by
 obtain ⟨k,rfl⟩:∃ j,k = j + 1:=⟨k - 1,by omega⟩
 rw [n268,q96 (by omega) _ _ _ (by omega),q05,w5x (by omega) wide vars by1 hl hb]
 simp only [y7j,x2u]
 unfold q6g
 cases h1:q1a wide vars t
 ·simp
 ·simp only [Bool.not_true,cond_false,Bool.true_and]
  by_cases h2:(by1.length:Int) = vars
  ·have h2':((by1.length:Int) != vars) = false:=by simpa using h2
   simp only [h2',cond_false,h2,decide_true,Bool.true_and]
   cases h3:byOK wide vars by1
   ·simp
   ·simp only [Bool.not_true,cond_false,Bool.true_and,q06]
    have:=z79 (k:=k) (by omega) wide vars t ht by1 hb k 0 [] (by omega) (by omega) (by simp) (fun x hx h4=>by have:=z1s h1 x (by simpa using hx) h4;omega)
    simpa [encT] using this
  ·have h2':((by1.length:Int) != vars) = true:=by simpa using h2
   simp [h2',h2]
theorem y1a {k:Nat} (hk:1000150<=k) (wide vars:Int) (t:List Nd) (l:List (List Nd)) (hl:l.length<=1000) (hb:∀ b ∈ l,b.length<=100):∀ (n i:Nat),l.length - i < n->i<=l.length ->
  z40 k n wide vars (encT t) (q0h l) (q0h l) (l.length:Int) (i:Int) = bif byOK wide vars (l.drop i) then z0r k k wide vars (q0h l) 0 (encT t) (t.length:Int) 0 [] else r272 [] false
 | 0,i,h,hi=>by omega
 | n + 1,i,h,hi=>by
  rw [x9b]
  by_cases hlt:i < l.length
  ·have hd:decide ((i:Int) < (l.length:Int)) = true:=by simpa using hlt
   have h2:=hb l[i] (List.getElem_mem hlt)
   rw [hd,q0o,q1o,List.getElem?_eq_getElem hlt]
   simp only [cond_true,Option.map_some,Option.bind_some,q09]
   rw [q9o (by omega) wide vars l[i] (by omega),q0f hlt]
   simp only [z9k,byOK,List.all_cons]
   cases hne:(kindT wide vars l[i] == 1)
   ·have:(kindT wide vars l[i] != 1) = true:=by simpa using hne
    simp [this]
   ·have:(kindT wide vars l[i] != 1) = false:=by simpa using hne
    simp only [this,cond_false,Bool.true_and]
    rw [q0b (by omega) (by omega)]
    exact y1a hk wide vars t l hl hb n (i + 1) (by omega) (by omega)
  ·have hd:decide ((i:Int) < (l.length:Int)) = false:=by simpa using hlt
   rw [hd,List.drop_eq_nil_of_le (by omega),q06]
   simp [byOK]
theorem x11 {k:Nat} (hk:1000300<=k) (wide vars:Int) (t:List Nd) (ht:t.length<=100) (by1:List (List Nd)) (hl:by1.length<=1000) (hb:∀ b ∈ by1,b.length<=100) :
  c272 k wide vars (encT t) (q0h by1) = r272 (bif q6g wide vars t by1 && q1a wide vars (putT by1 t) then encT (putT by1 t) else []) (q6g wide vars t by1 && q1a wide vars (putT by1 t)):=by
 obtain ⟨k,rfl⟩:∃ j,k = j + 1:=⟨k - 1,by omega⟩
 rw [n272,z3n (by omega) _ _ _ (by omega),q05]
 simp only [x6a]
 unfold q6g
 cases h1:q1a wide vars t
 ·simp
 ·simp only [Bool.not_true,cond_false,Bool.true_and]
  by_cases h2:(by1.length:Int) = vars
  ·have h2':((by1.length:Int) != vars) = false:=by simpa using h2
   simp only [h2',cond_false,h2,decide_true,Bool.true_and]
   have hq:=y1a (k:=k) (by omega) wide vars t by1 hl hb k 0 (by omega) (by omega)
   have hq':z40 k k wide vars (encT t) (q0h by1) (q0h by1) (by1.length:Int) 0 = _:=hq
   rw [<- h2]
   rw [<- h2] at hq'
   rw [hq',List.drop_zero,h2]
   cases h3:byOK wide vars by1
   ·simp
   ·simp only [cond_true,Bool.true_and]
    have:=z3a (k:=k) (by omega) wide vars t ht by1 hb k 0 [] (by omega) (by omega) (by simp) (fun x hx h4=>by have:=z1s h1 x (by simpa using hx) h4;omega)
    simpa [encT] using this
  ·have h2':((by1.length:Int) != vars) = true:=by simpa using h2
   simp [h2',h2]
end Go.Proofs.YtgdegfijcijnoaaGreat
/- Good programs. -/
namespace Go.Proofs.YtgdegfijcijnoaaGreat
open Go.Dp
theorem z1l {wide vars:Int} {t:List Nd} (h:kindT wide vars t ≠ 0):isW wide = true /\ isV vars = true:=by
 unfold kindT at h
 split at h
 ·rename_i hs
  simp only [q4j,Bool.and_eq_true] at hs
  exact hs.1.1
 ·exact absurd rfl h
def q2z (wide vars:Int):Int->List Chg->Bool
 | _,[]=>true
 | pv,x :: l=>decide (0<=x.v) && decide (x.v < vars) && decide (pv < x.v) && (kindT wide vars x.by1 == 1) && q2z wide vars x.v l
def q3g (wide vars:Int) (c:Cmd):Bool:=(kindT wide vars c.wh == 2) && q2z wide vars (-1) c.ch
def q1w (p:Prg):Bool:=(kindT p.wide p.vars p.start == 2) && decide (1<=p.cmds.length) && decide (p.cmds.length<=6) && p.cmds.all (q3g p.wide p.vars)
theorem z6o {wide vars:Int}:∀ {l:List Chg} {pv:Int},-1<=pv->q2z wide vars pv l = true->l = [] ∨ (l.length:Int)<=vars - 1 - pv
 | [],pv,hp,h=>.inl rfl
 | x :: l,pv,hp,h=>by
  simp only [q2z,Bool.and_eq_true,decide_eq_true_eq] at h
  obtain ⟨⟨⟨⟨h1,h2⟩,h3⟩,_⟩,h5⟩:=h
  right
  rcases z6o (by omega) h5 with rfl | h6
  ·simp;omega
  ·simp;omega
def q2v (l:List Chg) (i:Nat):Int:=if i = 0 then -1 else match l[i - 1]? with | some x=>x.v | none=>-1
theorem y2n {k:Nat} (hk:1000110<=k) (wide vars:Int) (l1 l2:List PV) (t:List Nd) (ht:t.length<=100000):c107 k wide vars l1 l2 (encT t) = r107 (kindT wide vars t == 2):=by
 obtain ⟨k,rfl⟩:∃ j,k = j + 1:=⟨k - 1,by omega⟩
 rw [n107,z0d (by omega) _ _ _ ht _ (by decide)]
 simp only [y8p]
theorem y1x {k:Nat} (hk:1000110<=k) (wide vars:Int) (l1 l2:List PV) (t:List Nd) (ht:t.length<=100000):c126 k wide vars l1 l2 (encT t) = r126 (kindT wide vars t == 2):=by
 obtain ⟨k,rfl⟩:∃ j,k = j + 1:=⟨k - 1,by omega⟩
 rw [n126,q9o (by omega) _ _ _ ht]
 simp only [z9k]
theorem z9j {wide vars:Int} {l:List Chg} {i:Nat} (h:i < l.length):q2z wide vars (q2v l i) (l.drop i) = (decide (0<=l[i].v) && decide (l[i].v < vars) && decide (q2v l i < l[i].v) && (kindT wide vars l[i].by1 == 1) && q2z wide vars (q2v l (i + 1)) (l.drop (i + 1))):=by
 rw [q0f h]
 have e:q2v l (i + 1) = l[i].v:=by simp [q2v,h]
 rw [e]
 rfl
theorem z0s {k:Nat} (hk:1000110<=k) (wide vars:Int) (hv:vars<=100) (l1 l2:List PV) (qw:List PV) (l:List Chg) (hl:l.length<=1000) (hb:∀ x ∈ l,x.by1.length<=100000):∀ (n i:Nat),l.length - i < n->i<=l.length ->
  z08 k n (q0y l) (l.length:Int) (i:Int) wide vars l1 l2 qw (q0y l) = r238 (q2z wide vars (q2v l i) (l.drop i))
 | 0,i,h,hi=>by omega
 | n + 1,i,h,hi=>by
  rw [w1h]
  by_cases hlt:i < l.length
  ·have hd:decide ((i:Int) < (l.length:Int)) = true:=by simpa using hlt
   rw [hd,q0o,q3p,List.getElem?_eq_getElem hlt,z9j hlt]
   simp only [cond_true,Option.map_some,Option.bind_some,q52,q5x,q6v]
   have hbi:=hb l[i] (List.getElem_mem hlt)
   by_cases h0:l[i].v < 0
   ·have e1:decide (l[i].v < 0) = true:=by simpa using h0
    have e2:decide (0<=l[i].v) = false:=by simp;omega
    simp only [e1,e2,cond_true,Bool.false_and]
   ·have e1:decide (l[i].v < 0) = false:=by simpa using h0
    have e2:decide (0<=l[i].v) = true:=by simp;omega
    simp only [e1,e2,cond_false,Bool.true_and]
    by_cases h1:l[i].v>=vars
    ·have e3:decide (l[i].v>=vars) = true:=by simpa using h1
     have e4:decide (l[i].v < vars) = false:=by simp;omega
     simp only [e3,e4,cond_true,Bool.false_and]
    ·have e3:decide (l[i].v>=vars) = false:=by simpa using h1
     have e4:decide (l[i].v < vars) = true:=by simp;omega
     simp only [e3,e4,cond_false,Bool.true_and]
     have fin:(R187 (c187 k wide vars (encT l[i].by1) 1) fun b2=>bif !b2 then r238 false else z08 k n (q0y l) (l.length:Int) (IntKind.i64.wrap ((i:Int) + 1)) wide vars l1 l2 qw (q0y l)) = r238 ((kindT wide vars l[i].by1 == 1) && q2z wide vars (q2v l (i + 1)) (l.drop (i + 1))):=by
      rw [z0d (by omega) _ _ _ hbi _ (by decide)]
      simp only [y8p]
      cases kindT wide vars l[i].by1 == 1
      ·rfl
      ·simp only [Bool.not_true,cond_false,Bool.true_and]
       rw [q0b (by omega) (by omega)]
       exact z0s hk wide vars hv l1 l2 qw l hl hb n (i + 1) (by omega) (by omega)
     by_cases hi0:i = 0
     ·have e5:decide ((i:Int) > 0) = false:=by simp;omega
      have e6:decide (q2v l i < l[i].v) = true:=by
       have h9:q2v l i = -1:=by simp [q2v,hi0]
       rw [h9];simp;omega
      simp only [e5,e6,cond_false,Bool.true_and]
      exact fin
     ·have e5:decide ((i:Int) > 0) = true:=by simp;omega
      have hlt1:i - 1 < l.length:=by omega
      rw [e5,q0b (n:=(i:Int) - 1) (by omega) (by omega),show (i:Int) - 1 = ((i - 1:Nat):Int) by omega,q0o,q3p,List.getElem?_eq_getElem hlt1]
      simp only [cond_true,Option.map_some,Option.bind_some,q5x]
      have e6:q2v l i = l[i - 1].v:=by simp [q2v,hi0,hlt1]
      rw [e6]
      by_cases h2:l[i - 1].v>=l[i].v
      ·have e7:decide (l[i - 1].v>=l[i].v) = true:=by simpa using h2
       have e8:decide (l[i - 1].v < l[i].v) = false:=by simp;omega
       simp only [e7,e8,cond_true,Bool.false_and]
      ·have e7:decide (l[i - 1].v>=l[i].v) = false:=by simpa using h2
       have e8:decide (l[i - 1].v < l[i].v) = true:=by simp;omega
       simp only [e7,e8,cond_false,Bool.true_and]
       exact fin
  ·have hd:decide ((i:Int) < (l.length:Int)) = false:=by simpa using hlt
   rw [hd,List.drop_eq_nil_of_le (by omega)]
   rfl
theorem y51 {k:Nat} (hk:1000120<=k) (wide vars:Int) (hv:vars<=100) (l1 l2:List PV) (c:Cmd) (hw:c.wh.length<=100000) (hl:c.ch.length<=1000) (hb:∀ x ∈ c.ch,x.by1.length<=100000) :
  c238 k wide vars l1 l2 (encT c.wh) (q0y c.ch) = r238 (q3g wide vars c):=by
 obtain ⟨k,rfl⟩:∃ j,k = j + 1:=⟨k - 1,by omega⟩
 rw [n238,y2n (by omega) _ _ _ _ _ hw,q2c]
 simp only [y7n]
 unfold q3g
 cases kindT wide vars c.wh == 2
 ·rfl
 ·simp only [Bool.not_true,cond_false,Bool.true_and]
  exact z0s (by omega) wide vars hv l1 l2 (encT c.wh) c.ch hl hb k 0 (by omega) (by omega)
theorem z0v {k:Nat} (hk:1000110<=k) (wide vars:Int) (hv:0<=vars /\ vars<=100) (l1 l2:List PV) (qw:List PV) (l:List Chg) (hl:l.length<=1000) (hb:∀ x ∈ l,x.by1.length<=100000):∀ (n i:Nat),l.length - i < n->i<=l.length ->
  z0l k n (q0y l) (l.length:Int) (i:Int) wide vars l1 l2 qw (q0y l) = r198 (q2z wide vars (q2v l i) (l.drop i))
 | 0,i,h,hi=>by omega
 | n + 1,i,h,hi=>by
  rw [x9f]
  by_cases hlt:i < l.length
  ·have hd:decide ((i:Int) < (l.length:Int)) = true:=by simpa using hlt
   rw [hd,q0o,q3p,List.getElem?_eq_getElem hlt,z9j hlt]
   simp only [cond_true,Option.map_some,Option.bind_some,q52,q5x,q6v]
   have hbi:=hb l[i] (List.getElem_mem hlt)
   rw [q6j (by omega),q0b (n:=vars - 1) (by omega) (by omega)]
   simp only [q5m]
   have ein:(decide (0<=l[i].v) && decide (l[i].v<=vars - 1)) = (decide (0<=l[i].v) && decide (l[i].v < vars)):=by
    congr 1
    rw [decide_eq_decide]
    omega
   rw [ein]
   cases hin:(decide (0<=l[i].v) && decide (l[i].v < vars))
   ·simp only [Bool.not_false,cond_true,Bool.false_and]
   ·simp only [Bool.not_true,cond_false,Bool.true_and]
    have fin:(R196 (c196 k wide vars (encT l[i].by1)) fun v2=>bif (v2 != 1) then r198 false else z0l k n (q0y l) (l.length:Int) (IntKind.i64.wrap ((i:Int) + 1)) wide vars l1 l2 qw (q0y l)) = r198 ((kindT wide vars l[i].by1 == 1) && q2z wide vars (q2v l (i + 1)) (l.drop (i + 1))):=by
     rw [q9o (by omega) _ _ _ hbi]
     simp only [z9k,bne]
     cases kindT wide vars l[i].by1 == 1
     ·rfl
     ·simp only [Bool.not_true,cond_false,Bool.true_and]
      rw [q0b (by omega) (by omega)]
      exact z0v hk wide vars hv l1 l2 qw l hl hb n (i + 1) (by omega) (by omega)
    by_cases hi0:i = 0
    ·have e5:decide ((i:Int) > 0) = false:=by simp;omega
     have e6:decide (q2v l i < l[i].v) = true:=by
      have h9:q2v l i = -1:=by simp [q2v,hi0]
      simp at hin
      rw [h9];simp;omega
     simp only [e5,e6,cond_false,Bool.true_and]
     exact fin
    ·have e5:decide ((i:Int) > 0) = true:=by simp;omega
     have hlt1:i - 1 < l.length:=by omega
     rw [e5,q0b (n:=(i:Int) - 1) (by omega) (by omega),show (i:Int) - 1 = ((i - 1:Nat):Int) by omega,q0o,q3p,List.getElem?_eq_getElem hlt1]
     simp only [cond_true,Option.map_some,Option.bind_some,q5x]
     have e6:q2v l i = l[i - 1].v:=by simp [q2v,hi0,hlt1]
     rw [e6]
     by_cases h2:l[i - 1].v>=l[i].v
     ·have e7:decide (l[i - 1].v>=l[i].v) = true:=by simpa using h2
      have e8:decide (l[i - 1].v < l[i].v) = false:=by simp;omega
      simp only [e7,e8,cond_true,Bool.false_and]
     ·have e7:decide (l[i - 1].v>=l[i].v) = false:=by simpa using h2
      have e8:decide (l[i - 1].v < l[i].v) = true:=by simp;omega
      simp only [e7,e8,cond_false,Bool.true_and]
      exact fin
  ·have hd:decide ((i:Int) < (l.length:Int)) = false:=by simpa using hlt
   rw [hd,List.drop_eq_nil_of_le (by omega)]
   rfl
theorem y6j {k:Nat} (hk:1000120<=k) (wide vars:Int) (hv:vars<=100) (l1 l2:List PV) (c:Cmd) (hw:c.wh.length<=100000) (hl:c.ch.length<=1000) (hb:∀ x ∈ c.ch,x.by1.length<=100000) :
  c198 k wide vars l1 l2 (encT c.wh) (q0y c.ch) = r198 (q3g wide vars c):=by
 obtain ⟨k,rfl⟩:∃ j,k = j + 1:=⟨k - 1,by omega⟩
 rw [n198,y1x (by omega) _ _ _ _ _ hw,q2c]
 simp only [y53]
 unfold q3g
 cases hkd:kindT wide vars c.wh == 2
 ·rfl
 ·simp only [Bool.not_true,cond_false,Bool.true_and]
  have hvv:=q8a.1 (z1l (wide:=wide) (vars:=vars) (t:=c.wh) (by rw [beq_iff_eq] at hkd;rw [hkd];decide)).2
  by_cases hln:(c.ch.length:Int) > vars
  ·have e1:decide ((c.ch.length:Int) > vars) = true:=by simpa using hln
   rw [e1]
   simp only [cond_true]
   congr 1
   cases hg:q2z wide vars (-1) c.ch
   ·rfl
   ·rcases z6o (by omega) hg with h | h
    ·rw [h] at hln;simp at hln;omega
    ·omega
  ·have e1:decide ((c.ch.length:Int) > vars) = false:=by simpa using hln
   rw [e1]
   simp only [cond_false]
   exact z0v (by omega) wide vars (by omega) l1 l2 (encT c.wh) c.ch hl hb k 0 (by omega) (by omega)
theorem y29 {k:Nat} (hk:1000130<=k) (wide vars:Int) (hv:vars<=100) (l1 l2:List PV) (l:List Cmd) (hl:l.length<=1000) (hf:∀ c ∈ l,FitC 6 c):∀ (n i:Nat),l.length - i < n->i<=l.length ->
  ∃ v,q6k k n (q0c l) (l.length:Int) (i:Int) wide vars l1 l2 = z1j wide vars l1 l2 v /\ decide (v>=0) = (l.drop i).any (fun c=>!q3g wide vars c)
 | 0,i,h,hi=>by omega
 | n + 1,i,h,hi=>by
  rw [y84]
  by_cases hlt:i < l.length
  ·have hd:decide ((i:Int) < (l.length:Int)) = true:=by simpa using hlt
   obtain ⟨k,rfl⟩:∃ j,k = j + 1:=⟨k - 1,by omega⟩
   have hfi:=hf l[i] (List.getElem_mem hlt)
   rw [hd,q0o,q2i,List.getElem?_eq_getElem hlt]
   simp only [cond_true,Option.map_some,Option.bind_some,q5w,q6u,q3v]
   rw [n237,y51 (by omega) wide vars hv l1 l2 l[i] (by have:=hfi.wh;omega) (by have:=hfi.ch;omega) (fun x hx=>by have:=hfi.by1 x hx;omega)]
   simp only [w4i,w4j]
   rw [q0f hlt,List.any_cons]
   cases hne:q3g wide vars l[i]
   ·simp only [Bool.not_false,cond_true,Bool.true_or]
    exact ⟨_,rfl,by simp⟩
   ·simp only [Bool.not_true,cond_false,Bool.false_or]
    rw [q0b (by omega) (by omega)]
    exact y29 (k:=k + 1) (by omega) wide vars hv l1 l2 l hl hf n (i + 1) (by omega) (by omega)
  ·have hd:decide ((i:Int) < (l.length:Int)) = false:=by simpa using hlt
   rw [hd,List.drop_eq_nil_of_le (by omega)]
   exact ⟨_,rfl,by simp⟩
theorem y11 {k:Nat} (hk:1000200<=k) (p:Prg) (hp:FitP p):c185 k p.wide p.vars (encT p.start) (q0c p.cmds) = r185 (q1w p):=by
 obtain ⟨k,rfl⟩:∃ j,k = j + 3:=⟨k - 3,by omega⟩
 have hst:=hp.st
 have hcm:=hp.cm
 rw [n185,z44 (by omega),y3u (by omega),y2n (by omega) _ _ _ _ _ (by omega)]
 simp only [y7r,x4g,y7n,q1h]
 unfold q1w
 cases hkd:kindT p.wide p.vars p.start == 2
 ·simp only [Bool.not_false,cond_true,Bool.false_and]
  cases isW p.wide <;> cases isV p.vars <;> rfl
 ·obtain ⟨hw,hv⟩:=z1l (wide:=p.wide) (vars:=p.vars) (t:=p.start) (by rw [beq_iff_eq] at hkd;rw [hkd];decide)
  rw [hw,hv]
  simp only [Bool.not_true,cond_false,Bool.true_and]
  by_cases h1:(p.cmds.length:Int) < 1
  ·have e1:decide ((p.cmds.length:Int) < 1) = true:=by simpa using h1
   have e2:decide (1<=p.cmds.length) = false:=by rw [decide_eq_false_iff_not];omega
   simp only [e1,e2,cond_true,Bool.false_and]
  ·have e1:decide ((p.cmds.length:Int) < 1) = false:=by simpa using h1
   have e2:decide (1<=p.cmds.length) = true:=by rw [decide_eq_true_eq];omega
   have e3:decide ((p.cmds.length:Int) > 6) = false:=by simp;omega
   have e4:decide (p.cmds.length<=6) = true:=by simp;omega
   simp only [e1,e2,e3,e4,cond_false,Bool.true_and]
   obtain ⟨v,h,hv2⟩:=y29 (k:=k) (by omega) p.wide p.vars (by have:=hp.v;omega) (encT p.start) (q0c p.cmds) p.cmds (by omega) hp.c k 0 (by omega) (by omega)
   have h':q6k k k (q0c p.cmds) (p.cmds.length:Int) 0 p.wide p.vars (encT p.start) (q0c p.cmds) = _:=h
   rw [x6q,x6y,q1h,h']
   simp only [x3d,x1x,hv2,List.drop_zero]
   congr 1
   rw [List.all_eq_not_any_not]
theorem y1f {k:Nat} (hk:1000130<=k) (wide vars:Int) (hv:vars<=100) (l1 l2:List PV) (l:List Cmd) (hl:l.length<=1000) (hf:∀ c ∈ l,FitC 6 c):∀ (n i:Nat),l.length - i < n->i<=l.length ->
  y0q k n (q0c l) (l.length:Int) (i:Int) wide vars l1 l2 = r132 ((l.drop i).all (q3g wide vars))
 | 0,i,h,hi=>by omega
 | n + 1,i,h,hi=>by
  rw [w0j]
  by_cases hlt:i < l.length
  ·have hd:decide ((i:Int) < (l.length:Int)) = true:=by simpa using hlt
   have hfi:=hf l[i] (List.getElem_mem hlt)
   rw [hd,q0o,q2i,List.getElem?_eq_getElem hlt]
   simp only [cond_true,Option.map_some,Option.bind_some,q5w,q6u,q3v]
   rw [y6j (by omega) wide vars hv l1 l2 l[i] (by have:=hfi.wh;omega) (by have:=hfi.ch;omega) (fun x hx=>by have:=hfi.by1 x hx;omega)]
   simp only [w3j]
   rw [q0f hlt,List.all_cons]
   cases hne:q3g wide vars l[i]
   ·rfl
   ·simp only [Bool.not_true,cond_false,Bool.true_and]
    rw [q0b (by omega) (by omega)]
    exact y1f hk wide vars hv l1 l2 l hl hf n (i + 1) (by omega) (by omega)
  ·have hd:decide ((i:Int) < (l.length:Int)) = false:=by simpa using hlt
   rw [hd,List.drop_eq_nil_of_le (by omega)]
   rfl
theorem q9p {k:Nat} (hk:1000200<=k) (p:Prg) (hp:FitP p):c132 k p.wide p.vars (encT p.start) (q0c p.cmds) = r132 (q1w p):=by
 obtain ⟨k,rfl⟩:∃ j,k = j + 1:=⟨k - 1,by omega⟩
 have hst:=hp.st
 have hcm:=hp.cm
 rw [n132,y1x (by omega) _ _ _ _ _ (by omega)]
 simp only [y53,q1h]
 unfold q1w
 cases hkd:kindT p.wide p.vars p.start == 2
 ·rfl
 ·simp only [Bool.not_true,cond_false,Bool.true_and]
  rw [q6j (by omega)]
  simp only [q5m]
  have e1:(decide ((1:Int)<=(p.cmds.length:Int)) && decide ((p.cmds.length:Int)<=6)) = (decide (1<=p.cmds.length) && decide (p.cmds.length<=6)):=by
   congr 1 <;> rw [decide_eq_decide] <;> omega
  rw [e1]
  cases decide (1<=p.cmds.length) && decide (p.cmds.length<=6)
  ·rfl
  ·simp only [Bool.not_true,cond_false,Bool.true_and]
   exact y1f (by omega) p.wide p.vars (by have:=hp.v;omega) (encT p.start) (q0c p.cmds) p.cmds (by omega) hp.c k 0 (by omega) (by omega)
theorem q4g {p:Prg} (h:q1w p = true):isW p.wide = true /\ isV p.vars = true:=by
 simp only [q1w,Bool.and_eq_true,beq_iff_eq] at h
 exact z1l (t:=p.start) (by omega)
end Go.Proofs.YtgdegfijcijnoaaGreat
/- What is put for variables does as their values do: the plain law,and the law. -/
namespace Go.Proofs.YtgdegfijcijnoaaGreat
open Go.Dp
theorem q5r (wide:Int) (state:List W):∀ (t u:List Nd) (vs:List W),vrun wide state (t ++ u) vs = (vrun wide state t vs).bind (vrun wide state u)
 | [],u,vs=>rfl
 | x :: t,u,vs=>by
  simp only [List.cons_append,vrun]
  split
  ·exact q5r wide state t u _
  ·split
   ·cases state[x.2.toNat]? with
    | none=>rfl
    | some s=>exact q5r wide state t u _
   ·split
    ·cases vs with
     | nil=>rfl
     | cons a r=>exact q5r wide state t u _
    ·split
     ·cases vs with
      | nil=>rfl
      | cons a r=>exact q5r wide state t u _
     ·rcases vs with _ | ⟨b,_ | ⟨a,r⟩⟩
      ·rfl
      ·rfl
      ·exact q5r wide state t u _
def okV (wide k:Int) (v:W):Prop:=(k = 1 /\ v<=mk wide) ∨ (k = 2 /\ v<=1#64)
inductive Fit (wide:Int):List Int->List W->Prop
 | nil:Fit wide [] []
 | cons {k v ks vs}:okV wide k v->Fit wide ks vs->Fit wide (k :: ks) (v :: vs)
theorem x88 (b:Bool):tr b<=1#64:=by cases b <;> decide
theorem q9f (a b:W):a &&& b<=a:=by rw [BitVec.le_def,BitVec.toNat_and];exact Nat.and_le_left
theorem q7m (a b:W):a &&& b<=b:=by rw [BitVec.le_def,BitVec.toNat_and];exact Nat.and_le_right
theorem q4x {a:W} (h:a<=1#64):a = 0#64 ∨ a = 1#64:=by
 rw [BitVec.le_def] at h
 have h1:(1#64).toNat = 1:=rfl
 rcases Nat.lt_or_ge a.toNat 1 with h2 | h2
 · left;exact BitVec.eq_of_toNat_eq (by simp;omega)
 · right;exact BitVec.eq_of_toNat_eq (by omega)
theorem w5s {wide op:Int} {a b:W} (hw:isW wide = true) (hm:(need op).1 = 2) (ha:okV wide (need op).2.1 a) (hb:okV wide (need op).2.1 b):okV wide (need op).2.2 (apW wide op a b):=by
 have hle:apW wide op a b<=mk wide:=q7m _ _
 have hle2:apW wide op a b<=z5k wide op a b:=q9f _ _
 have ho:3<=op /\ op<=12 ∨ 14<=op /\ op<=16 ∨ op = 17 ∨ op = 18:=by
  unfold need at hm
  split at hm
  ·simp at hm
  ·split at hm
   ·simp at hm
   ·split at hm
    ·simp at hm
    ·split at hm
     ·simp at hm
     ·split at hm
      ·left;assumption
      ·split at hm
       ·right;left;assumption
       ·split at hm
        ·right;right;assumption
        ·simp at hm
 rcases ho with h | h | h
 ·have:(need op).2.2 = 1:=by
   unfold need
   rw [if_neg (by omega),if_neg (by omega),if_neg (by omega),if_neg (by omega),if_pos h]
  rw [this]
  exact .inl ⟨rfl,hle⟩
 ·have:(need op).2.2 = 2:=by
   unfold need
   rw [if_neg (by omega),if_neg (by omega),if_neg (by omega),if_neg (by omega),if_neg (by omega),if_pos h]
  rw [this]
  refine .inr ⟨rfl,?_⟩
  have h3:op = 14 ∨ op = 15 ∨ op = 16:=by omega
  have:∃ c,z5k wide op a b = tr c:=by
   rcases h3 with rfl | rfl | rfl
   ·exact ⟨_,rfl⟩
   ·exact ⟨_,rfl⟩
   ·exact ⟨_,rfl⟩
  obtain ⟨c,hc⟩:=this
  rw [hc] at hle2
  exact BitVec.le_trans hle2 (x88 c)
 ·have:(need op).2.2 = 2 /\ (need op).2.1 = 2:=by
   unfold need
   rw [if_neg (by omega),if_neg (by omega),if_neg (by omega),if_neg (by omega),if_neg (by omega),if_neg (by omega),if_pos h]
   exact ⟨rfl,rfl⟩
  rw [this.1]
  rw [this.2] at ha hb
  refine .inr ⟨rfl,?_⟩
  have ha:a<=1#64:=by rcases ha with h | h;exact absurd h.1 (by omega);exact h.2
  have hb:b<=1#64:=by rcases hb with h | h;exact absurd h.1 (by omega);exact h.2
  refine BitVec.le_trans hle2 ?_
  rcases h with rfl | rfl <;> rcases q4x ha with rfl | rfl <;> rcases q4x hb with rfl | rfl <;> simp [z5k]
theorem q7d {wide:Int} {a:W}:q1v wide a = true ↔ isW wide = true /\ a<=mk wide:=by simp [q1v,mk]
theorem x7q {wide vars:Int} (hv:isV vars = true) {x:Nd} (h:q44 wide vars x = true):(x.1 = 1->x.2<=mk wide) /\ (x.1 = 20->x.2<=1#64) /\ (x.1 = 2->(x.2.toNat:Int) < vars):=by
 have hv':=q8a.1 hv
 unfold q44 at h
 refine ⟨fun h1=>?_,fun h1=>?_,fun h1=>?_⟩
 ·rw [if_pos h1] at h;exact (q7d.1 h).2
 ·rw [if_neg (by omega),if_neg (by omega),if_pos h1] at h
  rw [decide_eq_true_eq] at h
  exact y21.1 h
 ·rw [if_neg (by omega),if_pos h1,decide_eq_true_eq,q4m (by omega) (by omega)] at h
  exact h
theorem q6l {wide vars:Int} (hw:isW wide = true) (hv:isV vars = true) {state:List W} (hs:(state.length:Int) = vars) (hg:∀ a ∈ state,a<=mk wide):∀ {t:List Nd} {ks ks':List Int} {vs:List W},kst wide vars t ks = some ks'->Fit wide ks vs->∃ vs',vrun wide state t vs = some vs' /\ Fit wide ks' vs'
 | [],ks,ks',vs,h,hf=>by simp only [kst] at h;injection h with h;subst h;exact ⟨vs,rfl,hf⟩
 | x :: t,ks,ks',vs,h,hf=>by
  simp only [kst] at h
  split at h
  ·cases h
  ·rename_i h0
   split at h
   ·cases h
   ·rename_i h1
    split at h
    ·cases h
    ·rename_i h2
     split at h
     ·cases h
     ·rename_i h3
      have hlf:=x7q hv (x:=x) (by simpa using h1)
      simp only [vrun]
      by_cases a1:x.1 = 1 ∨ x.1 = 20
      ·rw [if_pos a1]
       have hn:(need x.1).1 = 0 /\ (x.1 = 1->(need x.1).2.2 = 1) /\ (x.1 = 20->(need x.1).2.2 = 2):=by
        rcases a1 with a | a <;> rw [a] <;> decide
       rw [hn.1,List.drop_zero] at h
       refine q6l hw hv hs hg h (.cons ?_ hf)
       rcases a1 with a | a
       ·exact .inl ⟨hn.2.1 a,hlf.1 a⟩
       ·exact .inr ⟨hn.2.2 a,hlf.2.1 a⟩
      ·rw [if_neg a1]
       by_cases a2:x.1 = 2
       ·rw [if_pos a2]
        have hn:(need x.1).1 = 0 /\ (need x.1).2.2 = 1:=by rw [a2];decide
        have hlt:x.2.toNat < state.length:=by have:=hlf.2.2 a2;omega
        rw [List.getElem?_eq_getElem hlt]
        rw [hn.1,List.drop_zero] at h
        exact q6l hw hv hs hg h (.cons (.inl ⟨hn.2,hg _ (List.getElem_mem hlt)⟩) hf)
       ·rw [if_neg a2]
        by_cases a3:x.1 = 13
        ·rw [if_pos a3]
         have hn:(need x.1).1 = 1 /\ (need x.1).2.2 = 1:=by rw [a3];decide
         cases hf with
         | nil=>simp [hn.1] at h2
         | cons ho hf =>
          rw [hn.1] at h
          exact q6l hw hv hs hg h (.cons (.inl ⟨hn.2,q7m _ _⟩) hf)
        ·rw [if_neg a3]
         by_cases a4:x.1 = 19
         ·rw [if_pos a4]
          have hn:(need x.1).1 = 1 /\ (need x.1).2.2 = 2 /\ (need x.1).2.1 = 2:=by rw [a4];decide
          cases hf with
          | nil=>simp [hn.1] at h2
          | @cons kk v ks vs ho hf =>
           rw [hn.1] at h h3
           rw [hn.2.2] at h3
           have hk:kk = 2:=by simpa using h3
           refine q6l hw hv hs hg h (.cons (.inr ⟨hn.2.1,?_⟩) hf)
           rcases ho with ho | ho
           ·omega
           ·rcases q4x ho.2 with rfl | rfl <;> decide
         ·rw [if_neg a4]
          have hn:(need x.1).1 = 2:=by
           unfold need at h0 ⊢
           rw [if_neg (by omega),if_neg (by omega),if_neg a3,if_neg a4] at h0 ⊢
           split
           ·rfl
           ·split
            ·rfl
            ·split
             ·rfl
             ·rename_i b1 b2 b3
              rw [if_neg b1,if_neg b2,if_neg b3] at h0
              exact absurd rfl h0
          rw [hn] at h h2 h3
          cases hf with
          | nil=>simp at h2
          | @cons k1 v1 ks vs ho1 hf =>
           cases hf with
           | nil=>simp at h2
           | @cons k2 v2 ks vs ho2 hf =>
            have hk:k1 = (need x.1).2.1 /\ k2 = (need x.1).2.1:=by simpa using h3
            rw [hk.1] at ho1
            rw [hk.2] at ho2
            exact q6l hw hv hs hg h (.cons (w5s hw hn ho2 ho1) hf)
theorem x3 {wide vars:Int} {t:List Nd} (h:q1a wide vars t = true) {state:List W} (hs:(state.length:Int) = vars) (hg:∀ a ∈ state,a<=mk wide):∃ v,vrun wide state t [] = some [v] /\ okV wide (kindT wide vars t) v:=by
 obtain ⟨hsz,c,hk,hc⟩:=q37.1 h
 have hw:isW wide = true:=by simp only [q4j,Bool.and_eq_true] at hsz;exact hsz.1.1.1
 have hv:isV vars = true:=by simp only [q4j,Bool.and_eq_true] at hsz;exact hsz.1.1.2
 obtain ⟨vs',h1,hf⟩:=q6l hw hv hs hg hk .nil
 cases hf with
 | cons ho hf =>
  cases hf
  refine ⟨_,h1,?_⟩
  have:kindT wide vars t = c:=by simp [kindT,hsz,hk,q2r]
  rw [this]
  exact ho
theorem w2h {k:Nat} (hk:1<=k) (a b:List Nat):c9 k (encB a) (encB b) = r9 (decide (a.length > 1048576) || decide (b.length + a.length > 1048576)):=by
 obtain ⟨k,rfl⟩:∃ j,k = j + 1:=⟨k - 1,by omega⟩
 rw [n9,q9t,q9t]
 by_cases h:a.length > 1048576
 ·have:decide ((a.length:Int) > 1048576) = true:=by simp;omega
  simp [this,h]
 ·have:decide ((a.length:Int) > 1048576) = false:=by simp;omega
  rw [this,q0b (by omega) (by omega)]
  simp only [cond_false]
  congr 1
  rw [Bool.eq_iff_iff]
  simp
  omega
theorem y3j (l:List Int) (h:∀ n ∈ l,(Lit.int .u8 n).wf = true):ints .u8 l = encB (l.map Int.toNat) /\ ∀ b ∈ l.map Int.toNat,b < 256:=by
 have hb:∀ n ∈ l,0<=n /\ n<=255:=by
  intro n hn
  have:=h n hn
  simp only [Lit.wf,Bool.and_eq_true,decide_eq_true_eq] at this
  have e1:IntKind.u8.min = 0:=rfl
  have e2:IntKind.u8.max = 255:=rfl
  rw [e1,e2] at this
  exact this
 constructor
 ·simp only [ints,encB,List.map_map]
  apply List.map_congr_left
  intro n hn
  have:=hb n hn
  simp only [Function.comp]
  congr 1
  omega
 ·intro b hb2
  obtain ⟨n,hn,rfl⟩:=List.mem_map.1 hb2
  have:=hb n hn
  omega
end Go.Proofs.YtgdegfijcijnoaaGreat
/- States of programs and their numbers. -/
namespace Go.Dp
theorem z8x (x:Nat) (hx:x < 9223372036854775808):(BitVec.ofInt 64 (x:Int)).toNat = x:=by
 rw [BitVec.toNat_ofInt]
 show ((x:Int) % ((2 ^ 64:Nat):Int)).toNat = x
 omega
theorem w4q {x y:Nat} (hx:x < 4611686018427387904) (hy:y < 4611686018427387904):q0n .or .i64 (x:Int) (y:Int) = ((x ||| y:Nat):Int):=by
 show IntKind.i64.wrap (((BitVec.ofInt 64 (x:Int)) ||| (BitVec.ofInt 64 (y:Int))).toNat:Int) = _
 rw [BitVec.toNat_or,z8x x (by omega),z8x y (by omega)]
 have:x ||| y < 2 ^ 62:=Nat.or_lt_two_pow (by omega) (by omega)
 exact q0b (by omega) (by omega)
theorem x93 {x y:Nat} (hx:x < 4611686018427387904) (hy:y < 4611686018427387904):q0n .and .i64 (x:Int) (y:Int) = ((x &&& y:Nat):Int):=by
 show IntKind.i64.wrap (((BitVec.ofInt 64 (x:Int)) &&& (BitVec.ofInt 64 (y:Int))).toNat:Int) = _
 rw [BitVec.toNat_and,z8x x (by omega),z8x y (by omega)]
 have:x &&& y<=x:=Nat.and_le_left
 exact q0b (by omega) (by omega)
theorem z0w {x n:Nat} (h:x * 2 ^ n < 9223372036854775808) (hn:n<=64):shlI .i64 (x:Int) (n:Int) = ((x * 2 ^ n:Nat):Int):=by
 unfold shlI
 show IntKind.i64.wrap ((x:Int) * 2 ^ (min (n:Int).toNat 64)) = _
 rw [Int.toNat_natCast,Nat.min_eq_left hn]
 have e:(x:Int) * 2 ^ n = ((x * 2 ^ n:Nat):Int):=by simp
 rw [e]
 exact q0b (by omega) (by omega)
theorem w0b {x n:Nat} (hn:n<=64):shrI .i64 (x:Int) (n:Int) = ((x / 2 ^ n:Nat):Int):=by
 unfold shrI
 show Int.fdiv (x:Int) (2 ^ (min (n:Int).toNat 64)) = _
 rw [Int.toNat_natCast,Nat.min_eq_left hn]
 have e:((2:Int) ^ n) = ((2 ^ n:Nat):Int):=by simp
 rw [e,Int.fdiv_eq_ediv_of_nonneg _ (Int.natCast_nonneg _),<- Int.natCast_ediv]
theorem y8x {x:Nat} (hx:x < 18446744073709551616):(BitVec.ofInt 64 (x:Int)).toNat = x:=by
 rw [BitVec.toNat_ofInt]
 show ((x:Int) % ((2 ^ 64:Nat):Int)).toNat = x
 omega
end Go.Dp
namespace Go.Proofs.YtgdegfijcijnoaaGreat
open Go.Dp
def noOf (w:Nat):List W->Nat
 | []=>0
 | a :: l=>a.toNat + 2 ^ w * noOf w l
def digs (w:Nat):Nat->Nat->List W
 | 0,_=>[]
 | v + 1,no=>BitVec.ofNat 64 (no % 2 ^ w) :: digs w v (no / 2 ^ w)
theorem z5i {w:Nat}:∀ {s:List W},(∀ a ∈ s,a.toNat < 2 ^ w)->noOf w s < 2 ^ (w * s.length)
 | [],_=>by simp [noOf]
 | a :: l,h=>by
  have h1:=h a (by simp)
  have h2:=z5i (s:=l) fun b hb=>h b (by simp [hb])
  simp only [noOf,List.length_cons]
  have e:2 ^ (w * (l.length + 1)) = 2 ^ w * 2 ^ (w * l.length):=by rw [<- Nat.pow_add];congr 1;rw [Nat.mul_succ];omega
  rw [e]
  have h3:2 ^ w * (noOf w l + 1)<=2 ^ w * 2 ^ (w * l.length):=Nat.mul_le_mul_left _ h2
  rw [Nat.mul_add] at h3
  omega
theorem y6e {w:Nat}:∀ (s t:List W),noOf w (s ++ t) = noOf w s + 2 ^ (w * s.length) * noOf w t
 | [],t=>by simp [noOf]
 | a :: l,t=>by
  simp only [List.cons_append,noOf,y6e l t,List.length_cons]
  have e:2 ^ (w * (l.length + 1)) = 2 ^ w * 2 ^ (w * l.length):=by rw [<- Nat.pow_add];congr 1;rw [Nat.mul_succ];omega
  rw [e,Nat.mul_add,Nat.mul_assoc]
  omega
theorem q3w {w:Nat}:∀ {v no:Nat},(digs w v no).length = v
 | 0,_=>rfl
 | v + 1,no=>by simp [digs,q3w]
theorem x1g {w:Nat} (hw:w<=63):∀ {v no:Nat},∀ a ∈ digs w v no,a.toNat < 2 ^ w
 | 0,no,a,h=>by simp [digs] at h
 | v + 1,no,a,h=>by
  simp only [digs,List.mem_cons] at h
  rcases h with rfl | h
  ·have h1:no % 2 ^ w < 2 ^ w:=Nat.mod_lt _ (Nat.two_pow_pos w)
   have h2:2 ^ w<=2 ^ 63:=Nat.pow_le_pow_right (by omega) hw
   rw [BitVec.toNat_ofNat,Nat.mod_eq_of_lt (by omega)]
   exact h1
  ·exact x1g hw a h
theorem y25 {w:Nat} (hw:w<=63):∀ {v no:Nat},no < 2 ^ (w * v)->noOf w (digs w v no) = no
 | 0,no,h=>by simp at h;subst h;rfl
 | v + 1,no,h=>by
  have h1:no % 2 ^ w < 2 ^ w:=Nat.mod_lt _ (Nat.two_pow_pos w)
  have h2:2 ^ w<=2 ^ 63:=Nat.pow_le_pow_right (by omega) hw
  have e:2 ^ (w * (v + 1)) = 2 ^ w * 2 ^ (w * v):=by rw [<- Nat.pow_add];congr 1;rw [Nat.mul_succ];omega
  rw [e] at h
  simp only [digs,noOf]
  rw [y25 hw (Nat.div_lt_of_lt_mul h),BitVec.toNat_ofNat,Nat.mod_eq_of_lt (a:=no % 2 ^ w) (by omega)]
  exact Nat.mod_add_div no (2 ^ w)
theorem y4h {w:Nat}:∀ {s:List W},(∀ a ∈ s,a.toNat < 2 ^ w)->digs w s.length (noOf w s) = s
 | [],_=>rfl
 | a :: l,h=>by
  have h1:=h a (by simp)
  simp only [List.length_cons,digs,noOf]
  rw [Nat.add_mul_mod_self_left,Nat.mod_eq_of_lt h1,Nat.add_mul_div_left _ _ (Nat.two_pow_pos w),Nat.div_eq_of_lt h1,Nat.zero_add,y4h fun b hb=>h b (by simp [hb])]
  congr 1
  exact BitVec.eq_of_toNat_eq (by rw [BitVec.toNat_ofNat,Nat.mod_eq_of_lt a.isLt])
theorem y8r {w:Nat}:∀ {v no i:Nat},i < v->(digs w v no)[i]? = some (BitVec.ofNat 64 (no / 2 ^ (w * i) % 2 ^ w))
 | 0,no,i,h=>by omega
 | v + 1,no,0,h=>by simp [digs]
 | v + 1,no,i + 1,h=>by
  simp only [digs,List.getElem?_cons_succ]
  rw [y8r (by omega),Nat.div_div_eq_div_mul,<- Nat.pow_add,Nat.mul_succ,Nat.add_comm (w * i) w]
theorem y34 {w v no i:Nat} (h:i < v):(digs w v no).take i ++ [BitVec.ofNat 64 (no / 2 ^ (w * i) % 2 ^ w)] = (digs w v no).take (i + 1):=by
 have hl:i < (digs w v no).length:=by rw [q3w];exact h
 have e:=y8r (w:=w) (no:=no) h
 rw [List.getElem?_eq_getElem hl] at e
 injection e with e
 rw [List.take_succ_eq_append_getElem hl,e]
def stOK (p:Prg) (s:List W):Bool:=decide ((s.length:Int) = p.vars) && s.all (q1v p.wide)
def q0j (p:Prg):Bool:=q1w p && decide (p.wide * p.vars<=5)
theorem x1v {p:Prg} (hp:FitP p):IntKind.i64.wrap (p.wide * p.vars) = p.wide * p.vars /\ 0<=p.wide * p.vars /\ p.wide * p.vars<=320:=by
 have h1:=hp.w
 have h2:=hp.v
 have h3:p.wide * p.vars<=64 * p.vars:=Int.mul_le_mul_of_nonneg_right h1.2 (by omega)
 have h4:0<=p.wide * p.vars:=Int.mul_nonneg (by omega) (by omega)
 exact ⟨q0b (by omega) (by omega),h4,by omega⟩
theorem z9m {k:Nat} (hk:1000210<=k) (p:Prg) (hp:FitP p):c102 k p.wide p.vars (encT p.start) (q0c p.cmds) = r102 (q0j p):=by
 obtain ⟨k,rfl⟩:∃ j,k = j + 1:=⟨k - 1,by omega⟩
 rw [n102,y11 (by omega) p hp,(x1v hp).1]
 simp only [w3b]
 unfold q0j
 cases q1w p <;> rfl
theorem z9y {k:Nat} (hk:1000210<=k) (p:Prg) (hp:FitP p):c104 k p.wide p.vars (encT p.start) (q0c p.cmds) = r104 (q0j p):=by
 obtain ⟨k,rfl⟩:∃ j,k = j + 1:=⟨k - 1,by omega⟩
 rw [n104,q9p (by omega) p hp,(x1v hp).1]
 simp only [w5e]
 unfold q0j
 cases q1w p <;> rfl
theorem x5a {p:Prg} (h:q0j p = true):∃ w v:Nat,p.wide = w /\ p.vars = v /\ 1<=w /\ 1<=v /\ v<=4 /\ w * v<=5 /\ q1w p = true:=by
 simp only [q0j,Bool.and_eq_true,decide_eq_true_eq] at h
 obtain ⟨hw,hv⟩:=q4g h.1
 have hw':=q14.1 hw
 have hv':=q8a.1 hv
 have h2:=h.2
 refine ⟨p.wide.toNat,p.vars.toNat,by omega,by omega,by omega,by omega,by omega,?_,h.1⟩
 have e1:p.wide = (p.wide.toNat:Int):=by omega
 have e2:p.vars = (p.vars.toNat:Int):=by omega
 rw [e1,e2,<- Int.natCast_mul] at h2
 omega
theorem x78 {w:Nat} (hw:w<=64) {a:W} (h:q1v (w:Int) a = true):a.toNat < 2 ^ w:=by
 have h1:=(q7d.1 h).2
 rw [BitVec.le_def] at h1
 have h2:(mk (w:Int)).toNat = 2 ^ w - 1:=by
  unfold mk
  rw [Int.toNat_natCast]
  exact q3u hw
 have:=Nat.two_pow_pos w
 omega
theorem x73 {w:Nat} (h1:1<=w) (hw:w<=64) {a:W} (h:a.toNat < 2 ^ w):q1v (w:Int) a = true:=by
 rw [q7d]
 refine ⟨q14.2 (by omega),?_⟩
 rw [BitVec.le_def]
 have h2:(mk (w:Int)).toNat = 2 ^ w - 1:=by
  unfold mk
  rw [Int.toNat_natCast]
  exact q3u hw
 omega
theorem pow5 {n:Nat} (h:n<=5):2 ^ n<=32:=Nat.pow_le_pow_right (n:=2) (by omega) h
theorem x69 {x a n:Nat} (h:x < 2 ^ n):x ||| (a * 2 ^ n) = x + 2 ^ n * a:=by
 rw [<- Nat.shiftLeft_eq,Nat.or_comm,<- Nat.shiftLeft_add_eq_or_of_lt h,Nat.shiftLeft_eq,Nat.mul_comm,Nat.add_comm]
theorem z3s {k:Nat} (w v:Nat) (hwv:w * v<=5) (l1 l2:List PV) (s:List W) (hs:s.length = v) (hv:v<=4) (hg:∀ a ∈ s,a.toNat < 2 ^ w):∀ (n i:Nat),s.length - i < n->i<=s.length ->
  z97 k n (noOf w (s.take i):Int) (encW s) (s.length:Int) (i:Int) (w:Int) (v:Int) l1 l2 = r145 (noOf w s:Int)
 | 0,i,h,hi=>by omega
 | n + 1,i,h,hi=>by
  rw [w06]
  by_cases hlt:i < s.length
  ·have hd:decide ((i:Int) < (s.length:Int)) = true:=by simpa using hlt
   have hwi:w * i<=5:=Nat.le_trans (Nat.mul_le_mul_left _ (by omega)) hwv
   have hwi1:w * (i + 1)<=5:=Nat.le_trans (Nat.mul_le_mul_left _ (by omega)) hwv
   rw [hd,q0o,q47,List.getElem?_eq_getElem hlt]
   simp only [cond_true,Option.map_some,Option.bind_some,q0k]
   have e0:(w:Int) * (i:Int) = ((w * i:Nat):Int):=(Int.natCast_mul w i).symm
   rw [e0,q0b (n:=((w * i:Nat):Int)) (by omega) (by omega)]
   have e1:decide (((w * i:Nat):Int) < 0) = false:=decide_eq_false (Int.not_lt.2 (Int.natCast_nonneg _))
   rw [e1]
   simp only [Bool.not_false,cond_true]
   have ha:=hg s[i] (List.getElem_mem hlt)
   have hw5:w<=5:=by
    have:w * 1<=w * (i + 1):=Nat.mul_le_mul_left _ (by omega)
    omega
   have h32:=pow5 hw5
   have h32b:=pow5 hwi
   have e2:IntKind.i64.wrap (wi s[i]) = (s[i].toNat:Int):=q0b (by unfold wi;omega) (by unfold wi;omega)
   have hmul:s[i].toNat * 2 ^ (w * i)<=32 * 32:=Nat.mul_le_mul (by omega) h32b
   rw [e2,z0w (by omega) (by omega)]
   have hno:=z5i (w:=w) (s:=s.take i) fun a h=>hg a (List.mem_of_mem_take h)
   have hln:(s.take i).length = i:=by simp;omega
   rw [hln] at hno
   rw [w4q (by omega) (by omega),x69 hno,q0b (by omega) (by omega)]
   have e3:noOf w (s.take i) + 2 ^ (w * i) * s[i].toNat = noOf w (s.take (i + 1)):=by
    rw [List.take_succ_eq_append_getElem hlt,y6e,hln]
    simp [noOf]
   rw [e3]
   exact z3s w v hwv l1 l2 s hs hv hg n (i + 1) (by omega) (by omega)
  ·have hd:decide ((i:Int) < (s.length:Int)) = false:=by simpa using hlt
   rw [hd,List.take_of_length_le (by omega)]
   rfl
theorem x2d {k:Nat} (hk:100<=k) (w v:Nat) (hwv:w * v<=5) (l1 l2:List PV) (s:List W) (hs:s.length = v) (hv:v<=4) (hg:∀ a ∈ s,a.toNat < 2 ^ w) :
  c145 k (w:Int) (v:Int) l1 l2 (encW s) = r145 (noOf w s:Int):=by
 obtain ⟨k,rfl⟩:∃ j,k = j + 1:=⟨k - 1,by omega⟩
 rw [n145,q5k]
 exact z3s w v hwv l1 l2 s hs hv hg k 0 (by omega) (by omega)
theorem y3x {k:Nat} (w v:Nat) (hw1:1<=w) (hwv:w * v<=5) (l1 l2:List PV) (s:List W) (hs:s.length = v) (hv:v<=4) (hg:∀ a ∈ s,a.toNat < 2 ^ w):∀ (i n:Nat),i < n->i<=s.length ->
  z9x k n (encW s) (noOf w (s.drop i):Int) ((i:Int) - 1) (w:Int) (v:Int) l1 l2 = r232 (noOf w s:Int)
 | i,0,h,hi=>by omega
 | 0,n + 1,h,hi=>by
  rw [x1c]
  rfl
 | i + 1,n + 1,h,hi=>by
  rw [x1c]
  have e0:((i + 1:Nat):Int) - 1 = (i:Int):=by omega
  rw [e0]
  have hd:decide ((i:Int)>=0) = true:=by simp
  have hlt:i < s.length:=by omega
  have hw5:w<=5:=by
   have:w * 1<=w * v:=Nat.mul_le_mul_left _ (by omega)
   omega
  rw [hd,q4m (n:=(w:Int)) (by omega) (by omega)]
  have e1:decide ((w:Int) < 0) = false:=by simp
  rw [e1,q0o,q47,List.getElem?_eq_getElem hlt]
  simp only [Bool.not_false,cond_true,Option.map_some,Option.bind_some,q0k]
  have ha:=hg s[i] (List.getElem_mem hlt)
  have hno:=z5i (w:=w) (s:=s.drop (i + 1)) fun a h=>hg a (List.mem_of_mem_drop h)
  have hln:(s.drop (i + 1)).length = v - (i + 1):=by simp;omega
  rw [hln] at hno
  have h5:w * (v - (i + 1))<=5:=Nat.le_trans (Nat.mul_le_mul_left _ (by omega)) hwv
  have h32:=pow5 hw5
  have h32b:=pow5 h5
  have e2:IntKind.i64.wrap (wi s[i]) = (s[i].toNat:Int):=q0b (by unfold wi;omega) (by unfold wi;omega)
  have hmul:noOf w (s.drop (i + 1)) * 2 ^ w<=32 * 32:=Nat.mul_le_mul (by omega) h32
  rw [e2,z0w (by omega) (by omega),q0b (n:=((noOf w (s.drop (i + 1)) * 2 ^ w:Nat):Int) + (s[i].toNat:Int)) (by omega) (by omega),q0b (n:=(i:Int) - 1) (by omega) (by omega)]
  have e3:((noOf w (s.drop (i + 1)) * 2 ^ w:Nat):Int) + (s[i].toNat:Int) = (noOf w (s.drop i):Int):=by
   rw [q0f hlt]
   simp only [noOf]
   rw [Nat.mul_comm]
   omega
  rw [e3]
  exact y3x w v hw1 hwv l1 l2 s hs hv hg i n (by omega) (by omega)
theorem x9k {k:Nat} (hk:100<=k) (w v:Nat) (hw1:1<=w) (hwv:w * v<=5) (l1 l2:List PV) (s:List W) (hs:s.length = v) (hv:v<=4) (hg:∀ a ∈ s,a.toNat < 2 ^ w) :
  c232 k (w:Int) (v:Int) l1 l2 (encW s) = r232 (noOf w s:Int):=by
 obtain ⟨k,rfl⟩:∃ j,k = j + 1:=⟨k - 1,by omega⟩
 rw [n232,q0b (by omega) (by omega)]
 have:=y3x (k:=k) w v hw1 hwv l1 l2 s hs hv hg v k (by omega) (by omega)
 rw [List.drop_eq_nil_of_le (by omega)] at this
 exact this
theorem z3f {k:Nat} (hk:10<=k) (w v:Nat) (hw1:1<=w) (hwv:w * v<=5) (hv:v<=4) (l1 l2:List PV) (no:Nat) (hno:no < 2 ^ (w * v)):∀ (n i:Nat),v - i < n->i<=v ->
  y5t k n (no:Int) i (v:Int) (i:Int) (w:Int) (v:Int) l1 l2 (encW ((digs w v no).take i)) = r70 (encW (digs w v no))
 | 0,i,h,hi=>by omega
 | n + 1,i,h,hi=>by
  rw [w2t]
  have hln:((digs w v no).take i).length = i:=by rw [List.length_take,q3w];omega
  have e9:(encW ((digs w v no).take i)).take i = encW ((digs w v no).take i):=by rw [List.take_of_length_le (by rw [q5k,hln];omega)]
  have h32:=pow5 hwv
  by_cases hlt:i < v
  ·have hd:decide ((i:Int) < (v:Int)) = true:=by simpa using hlt
   have hwi:w * i<=5:=Nat.le_trans (Nat.mul_le_mul_left _ (by omega)) hwv
   have hw5:w<=5:=by
    have:w * 1<=w * v:=Nat.mul_le_mul_left _ (by omega)
    omega
   have e0:(w:Int) * (i:Int) = ((w * i:Nat):Int):=(Int.natCast_mul w i).symm
   rw [hd,e0,q0b (n:=((w * i:Nat):Int)) (by omega) (by omega)]
   have e1:decide (((w * i:Nat):Int) < 0) = false:=decide_eq_false (Int.not_lt.2 (Int.natCast_nonneg _))
   rw [e1,y2k (by omega) (by omega) (by omega)]
   simp only [Bool.not_false,cond_true,z02]
   rw [q0r (by omega) (by omega),q0b (n:=(i:Int) + 1) (by omega) (by omega),e9]
   simp only [cond_true]
   rw [q4t,z3v _ (by omega),q7b,q9m]
   have e2:(BitVec.ofInt 64 (no:Int) >>> ((w * i:Nat):Int).toNat) &&& q3d (w:Int).toNat = BitVec.ofNat 64 (no / 2 ^ (w * i) % 2 ^ w):=by
    apply BitVec.eq_of_toNat_eq
    rw [BitVec.toNat_and,BitVec.toNat_ushiftRight,y8x (by omega),Int.toNat_natCast,Int.toNat_natCast,Nat.shiftRight_eq_div_pow,q3u (by omega),Nat.and_two_pow_sub_one_eq_mod]
    have h1:no / 2 ^ (w * i) % 2 ^ w < 2 ^ w:=Nat.mod_lt _ (Nat.two_pow_pos w)
    have:=pow5 hw5
    rw [BitVec.toNat_ofNat,Nat.mod_eq_of_lt (a:=no / 2 ^ (w * i) % 2 ^ w) (by omega)]
   rw [e2,y34 hlt]
   exact z3f hk w v hw1 hwv hv l1 l2 no hno n (i + 1) (by omega) (by omega)
  ·have hd:decide ((i:Int) < (v:Int)) = false:=by simpa using hlt
   rw [hd]
   simp only [cond_false,e9]
   rw [List.take_of_length_le (by rw [q3w];omega)]
theorem x3a {k:Nat} (hk:100<=k) (w v:Nat) (hw1:1<=w) (hwv:w * v<=5) (hv:v<=4) (l1 l2:List PV) (no:Nat) (hno:no < 2 ^ (w * v)) :
  c70 k (w:Int) (v:Int) l1 l2 (no:Int) = r70 (encW (digs w v no)):=by
 obtain ⟨k,rfl⟩:∃ j,k = j + 1:=⟨k - 1,by omega⟩
 rw [n70]
 exact z3f (by omega) w v hw1 hwv hv l1 l2 no hno k 0 (by omega) (by omega)
theorem y3m {k:Nat} (w v:Nat) (hw1:1<=w) (hwv:w * v<=5) (hv:v<=4) (l1 l2:List PV) (no:Nat) (hno:no < 2 ^ (w * v)):∀ (n i:Nat),v - i < n->i<=v ->
  z9b k n (no:Int) i (i:Int) (w:Int) (v:Int) l1 l2 (encW ((digs w v no).take i)) = r195 (encW (digs w v no))
 | 0,i,h,hi=>by omega
 | n + 1,i,h,hi=>by
  rw [w1j]
  have hln:((digs w v no).take i).length = i:=by rw [List.length_take,q3w];omega
  have e9:(encW ((digs w v no).take i)).take i = encW ((digs w v no).take i):=by rw [List.take_of_length_le (by rw [q5k,hln];omega)]
  have h32:=pow5 hwv
  by_cases hlt:i < v
  ·have hd:decide ((i:Int) < (v:Int)) = true:=by simpa using hlt
   have hwi:w * i<=5:=Nat.le_trans (Nat.mul_le_mul_left _ (by omega)) hwv
   have hw5:w<=5:=by
    have:w * 1<=w * v:=Nat.mul_le_mul_left _ (by omega)
    omega
   have e0:(i:Int) * (w:Int) = ((w * i:Nat):Int):=by rw [Int.mul_comm];exact (Int.natCast_mul w i).symm
   rw [hd,e0,q0b (n:=((w * i:Nat):Int)) (by omega) (by omega),q4m (n:=((w * i:Nat):Int)) (by omega) (by omega),q4m (n:=(w:Int)) (by omega) (by omega)]
   have e1:decide (((w * i:Nat):Int) < 0) = false:=decide_eq_false (Int.not_lt.2 (Int.natCast_nonneg _))
   have e1':decide ((w:Int) < 0) = false:=by simp
   rw [e1,e1']
   simp only [Bool.not_false,cond_true]
   rw [q0r (by omega) (by omega),q0b (n:=(i:Int) + 1) (by omega) (by omega),e9]
   simp only [cond_true]
   have hp:=pow5 hw5
   have hp1:=Nat.two_pow_pos w
   have e2:shlI .i64 1 (w:Int) = ((2 ^ w:Nat):Int):=by
    have:=z0w (x:=1) (n:=w) (by omega) (by omega)
    simpa using this
   rw [e2,q0b (n:=((2 ^ w:Nat):Int) - 1) (by omega) (by omega),show ((2 ^ w:Nat):Int) - 1 = ((2 ^ w - 1:Nat):Int) by omega,w0b (by omega)]
   have hdv:no / 2 ^ (w * i)<=no:=Nat.div_le_self _ _
   rw [x93 (by omega) (by omega),Nat.and_two_pow_sub_one_eq_mod]
   have h1:no / 2 ^ (w * i) % 2 ^ w < 2 ^ w:=Nat.mod_lt _ hp1
   have e3:IntKind.u64.wrap ((no / 2 ^ (w * i) % 2 ^ w:Nat):Int) = wi (BitVec.ofNat 64 (no / 2 ^ (w * i) % 2 ^ w)):=by
    rw [q4m (by omega) (by omega)]
    unfold wi
    rw [BitVec.toNat_ofNat,Nat.mod_eq_of_lt (a:=no / 2 ^ (w * i) % 2 ^ w) (by omega)]
   rw [e3,q9m,y34 hlt]
   exact y3m w v hw1 hwv hv l1 l2 no hno n (i + 1) (by omega) (by omega)
  ·have hd:decide ((i:Int) < (v:Int)) = false:=by simpa using hlt
   rw [hd]
   simp only [cond_false,e9]
   rw [List.take_of_length_le (by rw [q3w];omega)]
theorem w0a {k:Nat} (hk:100<=k) (w v:Nat) (hw1:1<=w) (hwv:w * v<=5) (hv:v<=4) (l1 l2:List PV) (no:Nat) (hno:no < 2 ^ (w * v)) :
  c195 k (w:Int) (v:Int) l1 l2 (no:Int) = r195 (encW (digs w v no)):=by
 obtain ⟨k,rfl⟩:∃ j,k = j + 1:=⟨k - 1,by omega⟩
 rw [n195]
 exact y3m w v hw1 hwv hv l1 l2 no hno k 0 (by omega) (by omega)
theorem x6c {k:Nat} (hk:1<=k) (w v:Nat) (hwv:w * v<=5) (l1 l2:List PV):c103 k (w:Int) (v:Int) l1 l2 = r103 ((2 ^ (w * v):Nat):Int):=by
 obtain ⟨k,rfl⟩:∃ j,k = j + 1:=⟨k - 1,by omega⟩
 have e0:(w:Int) * (v:Int) = ((w * v:Nat):Int):=(Int.natCast_mul w v).symm
 rw [n103,e0,q0b (by omega) (by omega)]
 have e1:decide (((w * v:Nat):Int) < 0) = false:=decide_eq_false (Int.not_lt.2 (Int.natCast_nonneg _))
 have h32:=pow5 hwv
 have e2:=z0w (x:=1) (n:=w * v) (by omega) (by omega)
 rw [Nat.one_mul] at e2
 rw [e1]
 simp only [Bool.not_false,cond_true]
 rw [<- e2]
 rfl
theorem x6g {k:Nat} (hk:1<=k) (w v:Nat) (hwv:w * v<=5) (l1 l2:List PV):c105 k (w:Int) (v:Int) l1 l2 = r105 ((2 ^ (w * v):Nat):Int):=by
 obtain ⟨k,rfl⟩:∃ j,k = j + 1:=⟨k - 1,by omega⟩
 have e0:(w:Int) * (v:Int) = ((w * v:Nat):Int):=(Int.natCast_mul w v).symm
 rw [n105,e0,q0b (by omega) (by omega),q4m (by omega) (by omega)]
 have e1:decide (((w * v:Nat):Int) < 0) = false:=decide_eq_false (Int.not_lt.2 (Int.natCast_nonneg _))
 have h32:=pow5 hwv
 have e2:=z0w (x:=1) (n:=w * v) (by omega) (by omega)
 rw [Nat.one_mul] at e2
 rw [e1]
 simp only [Bool.not_false,cond_true]
 rw [<- e2]
 rfl
end Go.Proofs.YtgdegfijcijnoaaGreat
/- Joined and turned terms: the functions. -/
namespace Go.Proofs.YtgdegfijcijnoaaGreat
open Go.Dp
def q7q (ls:List (List PV)):List PV:=ls.map (PV.row 2 0)
@[simp] theorem z36 (ls:List (List PV)):(q7q ls).length = ls.length:=by simp [q7q]
theorem y3r (ls:List (List PV)) (i:Nat):(q7q ls)[i]? = (ls[i]?).map (PV.row 2 0):=by simp [q7q]
theorem w2d {k:Nat} (hk:1<=k) {n:Nat} (hn:n<=1000000):c290 k [] (n:Int) = r290 []:=by
 obtain ⟨k,rfl⟩:∃ j,k = j + 1:=⟨k - 1,by omega⟩
 rw [n290]
 have h1:decide ((n:Int) < 0) = false:=by simp
 have e:IntKind.i64.wrap ((n:Int) - IntKind.i64.wrap (0 - (([]:List PV).length:Int))) = (n:Int):=by
  rw [q0b (n:=0 - (([]:List PV).length:Int)) (by simp) (by simp),q0b (by simp;try omega) (by simp;try omega)];simp
 rw [h1,e]
 simp only [cond_false]
 by_cases h:0 < n
 ·have h2:decide ((n:Int) > 0) = true:=by simpa using h
  rw [h2]
  have h4:=q0r (n:=n) (c:=16) (by omega) (by omega)
  simp only [Bool.and_eq_true] at h4
  simp [h4.1,h4.2]
 ·have h2:decide ((n:Int) > 0) = false:=by simp;omega
  rw [h2]
  rfl
theorem z4t {k:Nat} (ls:List (List PV)) (hl:ls.length<=1000) (hb:∀ l ∈ ls,l.length<=1000):∀ (n i:Nat) (xs:List PV),ls.length - i < n->i<=ls.length->xs.length<=1000 * i ->
  y0l k n xs.length (q7q ls) (ls.length:Int) (i:Int) xs = r269 (xs ++ (ls.drop i).flatten)
 | 0,i,xs,h,hi,hx=>by omega
 | n + 1,i,xs,h,hi,hx=>by
  rw [x9c,List.take_length]
  by_cases hlt:i < ls.length
  ·have hd:decide ((i:Int) < (ls.length:Int)) = true:=by simpa using hlt
   have hlb:=hb ls[i] (List.getElem_mem hlt)
   rw [hd,q0o,y3r,List.getElem?_eq_getElem hlt]
   simp only [cond_true,Option.map_some,Option.bind_some,q09]
   rw [q0r (by omega) (by omega),q0b (by omega) (by omega),<- List.length_append]
   simp only [cond_true]
   rw [show (i:Int) + 1 = ((i + 1:Nat):Int) by omega,z4t ls hl hb n (i + 1) (xs ++ ls[i]) (by omega) (by omega) (by simp;omega),q0f hlt,List.flatten_cons,List.append_assoc]
  ·have hd:decide ((i:Int) < (ls.length:Int)) = false:=by simpa using hlt
   rw [hd,List.drop_eq_nil_of_le (by omega)]
   simp
theorem z43 {k:Nat} (hk:2000<=k) (ls:List (List PV)) (hl:ls.length<=1000) (hb:∀ l ∈ ls,l.length<=1000):∀ (n i s:Nat),ls.length - i < n->i<=ls.length->s<=1000 * i ->
  y1g k n (q7q ls) (s:Int) (q7q ls) (ls.length:Int) (i:Int) = r269 ls.flatten
 | 0,i,s,h,hi,hx=>by omega
 | n + 1,i,s,h,hi,hx=>by
  rw [x9g]
  by_cases hlt:i < ls.length
  ·have hd:decide ((i:Int) < (ls.length:Int)) = true:=by simpa using hlt
   have hlb:=hb ls[i] (List.getElem_mem hlt)
   rw [hd,q0o,y3r,List.getElem?_eq_getElem hlt]
   simp only [cond_true,Option.map_some,Option.bind_some,q09]
   rw [q0b (by omega) (by omega),q0b (by omega) (by omega)]
   have hd2:decide ((s:Int) + (ls[i].length:Int) < 0) = false:=by simp;omega
   rw [hd2]
   simp only [cond_false]
   have:=z43 hk ls hl hb n (i + 1) (s + ls[i].length) (by omega) (by omega) (by omega)
   simpa using this
  ·have hd:decide ((i:Int) < (ls.length:Int)) = false:=by simpa using hlt
   rw [hd,w2d (by omega) (by omega),z36]
   simp only [cond_false,w5h]
   have:=z4t (k:=k) ls hl hb k 0 [] (by omega) (by omega) (by simp)
   simpa using this
theorem x4e {k:Nat} (hk:2001<=k) (ls:List (List PV)) (hl:ls.length<=1000) (hb:∀ l ∈ ls,l.length<=1000):c269 k (q7q ls) = r269 ls.flatten:=by
 obtain ⟨k,rfl⟩:∃ j,k = j + 1:=⟨k - 1,by omega⟩
 rw [n269,z36]
 exact z43 (by omega) ls hl hb k 0 0 (by omega) (by omega) (by omega)
theorem x3q (t:List Nd):(encT t).all q3l = true:=by
 simp only [encT,List.all_eq_true,List.mem_map]
 rintro _ ⟨x,_,rfl⟩
 rfl
theorem x55 (t:List Nd) (K0:List PV->R):x8t (r269 (encT t)) K0 = K0 (encT t):=by
 have h:([SV.c (.own 104 2 (encT t))].all q04 && true) = true:=by simp [q04,q1u,x3q];rfl
 show (bif ([SV.c (.own 104 2 (encT t))].all q04 && true) then K0 (encT t) else none) = _
 rw [h]
 rfl
theorem y6q {wide vars:Int} {t:List Nd} (h:q1a wide vars t = true):kst wide vars t [] = some [kindT wide vars t] /\ (kindT wide vars t = 1 ∨ kindT wide vars t = 2):=by
 obtain ⟨hs,c,hk,hc⟩:=q37.1 h
 have:kindT wide vars t = c:=by simp [kindT,hs,hk,q2r]
 rw [this]
 exact ⟨hk,hc⟩
theorem q34 {wide vars:Int} {t:List Nd} (h:kindT wide vars t > 0):q1a wide vars t = true:=by
 rw [<- z4v];simpa using h
end Go.Proofs.YtgdegfijcijnoaaGreat
/- FnBefore: what is drawn;what must hold ahead of a command. -/
namespace Go.Proofs.YtgdegfijcijnoaaGreat
open Go.Dp
def one1 (n:Int):Int:=if n < 1 then 1 else n
theorem y6b {k:Nat} (hk:1<=k) (n:Int):c152 k n = r152 (one1 n):=by
 obtain ⟨k,rfl⟩:∃ j,k = j + 1:=⟨k - 1,by omega⟩
 rw [n152]
 unfold one1
 by_cases h:n < 1
 · simp [h]
 · simp [h]
def q2h (p:Prg) (k1:Int):Bool:=decide (0<=k1) && decide (k1 < (p.cmds.length:Int))
def q0m (p:Prg) (k1:Int):Cmd:=(p.cmds[k1.toNat]?).getD ⟨[],[]⟩
theorem q50 {p:Prg} {k1:Int} (h:q2h p k1 = true):q0i (q0c p.cmds) k1 = some (q38 (q0m p k1)) /\ q0m p k1 ∈ p.cmds:=by
 simp only [q2h,Bool.and_eq_true,decide_eq_true_eq] at h
 have hlt:k1.toNat < p.cmds.length:=by omega
 rw [q48 h.1,q2i]
 unfold q0m
 rw [List.getElem?_eq_getElem hlt]
 exact ⟨rfl,List.getElem_mem hlt⟩
def q3c (n:Nat):List (List Nd):=(List.range n).map fun v=>[((2:Int),BitVec.ofNat 64 v)]
@[simp] theorem z4b (n:Nat):(q3c n).length = n:=by simp [q3c]
theorem y0r (n:Nat):q3c n ++ [[(2,BitVec.ofNat 64 n)]] = q3c (n + 1):=by simp [q3c,List.range_succ]
def q5f (by1:List (List Nd)) (ch:List Chg):List (List Nd):=ch.foldl (fun b x=>b.set x.v.toNat x.by1) by1
def byOf (p:Prg) (c:Cmd):List (List Nd):=q5f (q3c p.vars.toNat) c.ch
theorem y27 (n:Nat):∀ b ∈ q3c n,b.length<=100:=by
 intro b hb
 simp only [q3c,List.mem_map] at hb
 obtain ⟨v,_,rfl⟩:=hb
 simp
def q4f (p:Prg) (c:Cmd) (t:List Nd):Bool:=q6g p.wide p.vars t (byOf p c) && q1a p.wide p.vars (putT (byOf p c) t)
def oneT (p:Prg) (c:Cmd) (t:List Nd):List Nd:=bif q4f p c t then putT (byOf p c) t else []
theorem y7z (p:Prg) (c:Cmd) (t:List Nd):(bif q4f p c t then encT (putT (byOf p c) t) else []) = encT (oneT p c t):=by
 unfold oneT
 cases q4f p c t <;> rfl
theorem q69 {wide vars:Int}:∀ {l:List Chg} {pv:Int},q2z wide vars pv l = true->∀ x ∈ l,0<=x.v /\ x.v < vars /\ kindT wide vars x.by1 = 1
 | [],pv,h=>by simp
 | x :: l,pv,h=>by
  simp only [q2z,Bool.and_eq_true,decide_eq_true_eq,beq_iff_eq] at h
  intro y hy
  rcases List.mem_cons.1 hy with rfl | hy
  ·exact ⟨h.1.1.1.1,h.1.1.1.2,h.1.2⟩
  ·exact q69 h.2 y hy
theorem y2z (v:Nat) (hv:v<=100):PV.agg [.int .i64 2,.int .u64 (IntKind.u64.wrap (v:Int))] = encN (2,BitVec.ofNat 64 v):=by
 rw [q4t]
 have:BitVec.ofInt 64 (v:Int) = BitVec.ofNat 64 v:=by simp
 rw [this]
 rfl
theorem y3p {k:Nat} (hk:1000300<=k) (p:Prg) (l1 l2:List PV) (t:List Nd) (ht:t.length<=100) (ch:List Chg) (hl:ch.length<=100) (hb:∀ x ∈ ch,x.by1.length<=100) (hx:∀ x ∈ ch,0<=x.v /\ x.v < p.vars):∀ (n i:Nat) (by1:List (List Nd)),ch.length - i < n->i<=ch.length->(by1.length:Int) = p.vars->by1.length<=1000->(∀ b ∈ by1,b.length<=100) ->
  z48 k n (encT t) by1.length (q0y ch) (ch.length:Int) (i:Int) p.wide p.vars l1 l2 (q0h by1) = r220 (bif q6g p.wide p.vars t (q5f by1 (ch.drop i)) && q1a p.wide p.vars (putT (q5f by1 (ch.drop i)) t) then encT (putT (q5f by1 (ch.drop i)) t) else []) (q6g p.wide p.vars t (q5f by1 (ch.drop i)) && q1a p.wide p.vars (putT (q5f by1 (ch.drop i)) t))
 | 0,i,by1,h,hi,hv,hv2,hb1=>by omega
 | n + 1,i,by1,h,hi,hv,hv2,hb1=>by
  rw [w1f]
  by_cases hlt:i < ch.length
  ·have hd:decide ((i:Int) < (ch.length:Int)) = true:=by simpa using hlt
   have hm:=List.getElem_mem hlt
   have hxi:=hx _ hm
   have hbi:=hb _ hm
   rw [hd,q0o,q3p,List.getElem?_eq_getElem hlt,q0f hlt]
   simp only [cond_true,Option.map_some,Option.bind_some,q52,q5x,q6v]
   have hin:(decide ((0:Int)<=ch[i].v) && decide (ch[i].v < (by1.length:Int))) = true:=by simp;omega
   have hget:(q0h by1)[0 + ch[i].v.toNat]? = some (PV.row 2 0 (encT (by1[ch[i].v.toNat]'(by omega)))):=by rw [Nat.zero_add,q1o,List.getElem?_eq_getElem (by omega)];rfl
   rw [hin,hget]
   simp only [cond_true,Option.bind_some,Nat.zero_add]
   have hset:(q0h by1).set ch[i].v.toNat (PV.row 2 0 (encT ch[i].by1)) = q0h (by1.set ch[i].v.toNat ch[i].by1):=by simp [q0h,List.map_set]
   rw [hset,q0b (by omega) (by omega)]
   have:=y3p hk p l1 l2 t ht ch hl hb hx n (i + 1) (by1.set ch[i].v.toNat ch[i].by1) (by omega) (by omega) (by simpa using hv) (by simpa using hv2) (fun b hb'=>by
    rcases List.mem_or_eq_of_mem_set hb' with h | h
    ·exact hb1 b h
    ·subst h;exact hbi)
   rw [List.length_set] at this
   exact this
  ·have hd:decide ((i:Int) < (ch.length:Int)) = false:=by simpa using hlt
   rw [hd,List.drop_eq_nil_of_le (by omega)]
   have e1:(q0h by1).take by1.length = q0h by1:=by rw [List.take_of_length_le (by simp)]
   simp only [cond_false,e1]
   rw [x57 (by omega) p.wide p.vars t ht by1 hv2 hb1]
   simp only [w3m,q5f,List.foldl_nil]
theorem y4s {k:Nat} (hk:1000300<=k) (p:Prg) (hp:FitP p) (k1:Int) (t:List Nd) (ht:t.length<=100) (hn:q2h p k1 = true) (hx:∀ x ∈ (q0m p k1).ch,0<=x.v /\ x.v < p.vars):∀ (n v:Nat),(p.vars - v).toNat < n->(v:Int)<=p.vars ->
  y0a k n k1 (encT t) v p.vars (v:Int) p.wide p.vars (encT p.start) (q0c p.cmds) (q0h (q3c v)) = r220 (encT (oneT p (q0m p k1) t)) (q4f p (q0m p k1) t)
 | 0,v,h,hv=>by omega
 | n + 1,v,h,hv=>by
  have hpv:=hp.v
  rw [x9i]
  by_cases hlt:(v:Int) < p.vars
  ·have hd:decide ((v:Int) < p.vars) = true:=by simpa using hlt
   rw [hd,q0r (by omega) (by omega),y2z v (by omega),q0b (by omega) (by omega)]
   simp only [cond_true]
   have e1:(q0h (q3c v)).take v = q0h (q3c v):=by rw [List.take_of_length_le (by simp)]
   have e2:PV.row 2 0 [encN (2,BitVec.ofNat 64 v)] = PV.row 2 0 (encT [(2,BitVec.ofNat 64 v)]):=rfl
   rw [e1,e2,q6f,y0r]
   exact y4s hk p hp k1 t ht hn hx n (v + 1) (by omega) (by omega)
  ·have hd:decide ((v:Int) < p.vars) = false:=by simpa using hlt
   have hvv:v = p.vars.toNat:=by omega
   obtain ⟨hget,hm⟩:=q50 hn
   have hf:=hp.c _ hm
   have hfl:=hf.ch
   rw [hd,hget]
   simp only [cond_false,Option.bind_some,q3v,q2c]
   have:=y3p (k:=k) hk p (encT p.start) (q0c p.cmds) t ht (q0m p k1).ch (by omega) hf.by1 hx k 0 (q3c v) (by omega) (by omega) (by simp;omega) (by simp;omega) (y27 v)
   rw [List.drop_zero,z4b] at this
   have h2:z48 k k (encT t) v (q0y (q0m p k1).ch) ((q0m p k1).ch.length:Int) 0 p.wide p.vars (encT p.start) (q0c p.cmds) (q0h (q3c v)) = _:=this
   rw [h2,<- y7z]
   unfold q4f byOf
   rw [hvv]
theorem y66 {k:Nat} (hk:1000310<=k) (p:Prg) (hp:FitP p) (k1:Int) (t:List Nd) (ht:t.length<=100) (hn:q2h p k1 = true) (hx:∀ x ∈ (q0m p k1).ch,0<=x.v /\ x.v < p.vars) :
  c220 k p.wide p.vars (encT p.start) (q0c p.cmds) k1 (encT t) = r220 (encT (oneT p (q0m p k1) t)) (q4f p (q0m p k1) t):=by
 obtain ⟨k,rfl⟩:∃ j,k = j + 1:=⟨k - 1,by omega⟩
 have hv:=hp.v
 rw [n220]
 exact y4s (k:=k) (by omega) p hp k1 t ht hn hx k 0 (by omega) (by omega)
theorem y01 {k:Nat} (hk:1000300<=k) (p:Prg) (l1 l2:List PV) (t:List Nd) (ht:t.length<=100) (ch:List Chg) (hl:ch.length<=100) (hb:∀ x ∈ ch,x.by1.length<=100) (hx:∀ x ∈ ch,0<=x.v /\ x.v < p.vars):∀ (n i:Nat) (by1:List (List Nd)),ch.length - i < n->i<=ch.length->(by1.length:Int) = p.vars->by1.length<=1000->(∀ b ∈ by1,b.length<=100) ->
  z3m k n (encT t) by1.length (q0y ch) (ch.length:Int) (i:Int) p.wide p.vars l1 l2 (q0h by1) = r225 (bif q6g p.wide p.vars t (q5f by1 (ch.drop i)) && q1a p.wide p.vars (putT (q5f by1 (ch.drop i)) t) then encT (putT (q5f by1 (ch.drop i)) t) else []) (q6g p.wide p.vars t (q5f by1 (ch.drop i)) && q1a p.wide p.vars (putT (q5f by1 (ch.drop i)) t))
 | 0,i,by1,h,hi,hv,hv2,hb1=>by omega
 | n + 1,i,by1,h,hi,hv,hv2,hb1=>by
  rw [x9l]
  by_cases hlt:i < ch.length
  ·have hd:decide ((i:Int) < (ch.length:Int)) = true:=by simpa using hlt
   have hm:=List.getElem_mem hlt
   have hxi:=hx _ hm
   have hbi:=hb _ hm
   rw [hd,q0o,q3p,List.getElem?_eq_getElem hlt,q0f hlt]
   simp only [cond_true,Option.map_some,Option.bind_some,q52,q5x,q6v]
   have hin:(decide ((0:Int)<=ch[i].v) && decide (ch[i].v < (by1.length:Int))) = true:=by simp;omega
   have hget:(q0h by1)[0 + ch[i].v.toNat]? = some (PV.row 2 0 (encT (by1[ch[i].v.toNat]'(by omega)))):=by rw [Nat.zero_add,q1o,List.getElem?_eq_getElem (by omega)];rfl
   rw [hin,hget]
   simp only [cond_true,Option.bind_some,Nat.zero_add]
   have hset:(q0h by1).set ch[i].v.toNat (PV.row 2 0 (encT ch[i].by1)) = q0h (by1.set ch[i].v.toNat ch[i].by1):=by simp [q0h,List.map_set]
   rw [hset,q0b (by omega) (by omega)]
   have:=y01 hk p l1 l2 t ht ch hl hb hx n (i + 1) (by1.set ch[i].v.toNat ch[i].by1) (by omega) (by omega) (by simpa using hv) (by simpa using hv2) (fun b hb'=>by
    rcases List.mem_or_eq_of_mem_set hb' with h | h
    ·exact hb1 b h
    ·subst h;exact hbi)
   rw [List.length_set] at this
   exact this
  ·have hd:decide ((i:Int) < (ch.length:Int)) = false:=by simpa using hlt
   rw [hd,List.drop_eq_nil_of_le (by omega)]
   have e1:(q0h by1).take by1.length = q0h by1:=by rw [List.take_of_length_le (by simp)]
   simp only [cond_false,e1]
   rw [x11 (by omega) p.wide p.vars t ht by1 hv2 hb1]
   simp only [w5b,q5f,List.foldl_nil]
theorem z9z {k:Nat} (hk:1000300<=k) (p:Prg) (hp:FitP p) (k1:Int) (t:List Nd) (ht:t.length<=100) (hn:q2h p k1 = true) (hx:∀ x ∈ (q0m p k1).ch,0<=x.v /\ x.v < p.vars):∀ (n v:Nat),(p.vars - v).toNat < n->(v:Int)<=p.vars ->
  z9l k n k1 (encT t) v (v:Int) p.wide p.vars (encT p.start) (q0c p.cmds) (q0h (q3c v)) = r225 (encT (oneT p (q0m p k1) t)) (q4f p (q0m p k1) t)
 | 0,v,h,hv=>by omega
 | n + 1,v,h,hv=>by
  have hpv:=hp.v
  rw [w2a]
  by_cases hlt:(v:Int) < p.vars
  ·have hd:decide ((v:Int) < p.vars) = true:=by simpa using hlt
   rw [hd,q0r (by omega) (by omega),y2z v (by omega),q0b (by omega) (by omega)]
   simp only [cond_true]
   have e1:(q0h (q3c v)).take v = q0h (q3c v):=by rw [List.take_of_length_le (by simp)]
   have e2:PV.row 2 0 [encN (2,BitVec.ofNat 64 v)] = PV.row 2 0 (encT [(2,BitVec.ofNat 64 v)]):=rfl
   rw [e1,e2,q6f,y0r]
   exact z9z hk p hp k1 t ht hn hx n (v + 1) (by omega) (by omega)
  ·have hd:decide ((v:Int) < p.vars) = false:=by simpa using hlt
   have hvv:v = p.vars.toNat:=by omega
   obtain ⟨hget,hm⟩:=q50 hn
   have hf:=hp.c _ hm
   have hfl:=hf.ch
   rw [hd,hget]
   simp only [cond_false,Option.bind_some,q3v,q2c]
   have:=y01 (k:=k) hk p (encT p.start) (q0c p.cmds) t ht (q0m p k1).ch (by omega) hf.by1 hx k 0 (q3c v) (by omega) (by omega) (by simp;omega) (by simp;omega) (y27 v)
   rw [List.drop_zero,z4b] at this
   have h2:z3m k k (encT t) v (q0y (q0m p k1).ch) ((q0m p k1).ch.length:Int) 0 p.wide p.vars (encT p.start) (q0c p.cmds) (q0h (q3c v)) = _:=this
   rw [h2,<- y7z]
   unfold q4f byOf
   rw [hvv]
theorem x34 {k:Nat} (hk:1000310<=k) (p:Prg) (hp:FitP p) (k1:Int) (t:List Nd) (ht:t.length<=100) (hn:q2h p k1 = true) (hx:∀ x ∈ (q0m p k1).ch,0<=x.v /\ x.v < p.vars) :
  c225 k p.wide p.vars (encT p.start) (q0c p.cmds) k1 (encT t) = r225 (encT (oneT p (q0m p k1) t)) (q4f p (q0m p k1) t):=by
 obtain ⟨k,rfl⟩:∃ j,k = j + 1:=⟨k - 1,by omega⟩
 have hv:=hp.v
 rw [n225]
 exact z9z (k:=k) (by omega) p hp k1 t ht hn hx k 0 (by omega) (by omega)
end Go.Proofs.YtgdegfijcijnoaaGreat
/- FnBefore: what must hold ahead of a command does;the law. -/
namespace Go.Proofs.YtgdegfijcijnoaaGreat
open Go.Dp
def valD (wide:Int) (s:List W) (t:List Nd):W:=match vrun wide s t [] with | some [v]=>v | _=>0#64
theorem w01 {wide:Int} {s:List W} {t:List Nd} {v:W} (h:vrun wide s t [] = some [v]):valD wide s t = v:=by unfold valD;rw [h]
def q01 (wide:Int) (s:List W) (ch:List Chg) (o:List W):List W:=ch.foldl (fun o x=>o.set x.v.toNat (valD wide s x.by1)) o
theorem q5u {wide vars c:Int} {t:List Nd} (h:kindT wide vars t = c) (hc:c > 0) {s:List W} (hs:(s.length:Int) = vars) (hg:∀ a ∈ s,a<=mk wide):vrun wide s t [] = some [valD wide s t] /\ okV wide c (valD wide s t):=by
 obtain ⟨v,h1,h2⟩:=x3 (q34 (by omega:kindT wide vars t > 0)) hs hg
 rw [w01 h1,<- h]
 exact ⟨h1,h2⟩
theorem z9n {k:Nat} (hk:1000000<=k) (p:Prg) (hw:isW p.wide = true) (l1 l2:List PV) (s:List W) (hs:(s.length:Int) = p.vars) (hg:∀ a ∈ s,a<=mk p.wide) (ch:List Chg) (hl:ch.length<=100) (hx:∀ x ∈ ch,0<=x.v /\ x.v < p.vars /\ kindT p.wide p.vars x.by1 = 1 /\ x.by1.length<=100):∀ (n i:Nat) (o:List W),ch.length - i < n->i<=ch.length->o.length = s.length ->
  y0h k n (encW s) o.length (q0y ch) (ch.length:Int) (i:Int) p.wide p.vars l1 l2 (encW o) = r146 (encW (q01 p.wide s (ch.drop i) o))
 | 0,i,o,h,hi,ho=>by omega
 | n + 1,i,o,h,hi,ho=>by
  rw [x9t]
  by_cases hlt:i < ch.length
  ·have hd:decide ((i:Int) < (ch.length:Int)) = true:=by simpa using hlt
   have hxi:=hx _ (List.getElem_mem hlt)
   obtain ⟨hv,_⟩:=q5u hxi.2.2.1 (by omega) hs hg
   rw [hd,q0o,q3p,List.getElem?_eq_getElem hlt,q0f hlt]
   simp only [cond_true,Option.map_some,Option.bind_some,q52,q5x,q6v]
   rw [q7o (by omega) hw s _ (by omega) hv]
   simp only [y08]
   have hin:(decide ((0:Int)<=ch[i].v) && decide (ch[i].v < (o.length:Int))) = true:=by simp;omega
   have hget:(encW o)[0 + ch[i].v.toNat]? = some (PV.int .u64 (wi (o[ch[i].v.toNat]'(by omega)))):=by rw [Nat.zero_add,q47,List.getElem?_eq_getElem (by omega)];rfl
   rw [hin,hget]
   simp only [cond_true,Option.bind_some,Nat.zero_add]
   have hset:(encW o).set ch[i].v.toNat (PV.int .u64 (wi (valD p.wide s ch[i].by1))) = encW (o.set ch[i].v.toNat (valD p.wide s ch[i].by1)):=by simp [encW,List.map_set]
   rw [hset,q0b (by omega) (by omega)]
   have:=z9n hk p hw l1 l2 s hs hg ch hl hx n (i + 1) (o.set ch[i].v.toNat (valD p.wide s ch[i].by1)) (by omega) (by omega) (by simpa using ho)
   rw [List.length_set] at this
   exact this
  ·have hd:decide ((i:Int) < (ch.length:Int)) = false:=by simpa using hlt
   rw [hd,List.drop_eq_nil_of_le (by omega)]
   have e1:(encW o).take o.length = encW o:=by rw [List.take_of_length_le (by simp)]
   simp only [cond_false,e1]
   rfl
theorem x6m {k:Nat} (hk:1000010<=k) (p:Prg) (hw:isW p.wide = true) (l1 l2 l3:List PV) (s:List W) (hsl:s.length<=1000) (hs:(s.length:Int) = p.vars) (hg:∀ a ∈ s,a<=mk p.wide) (ch:List Chg) (hl:ch.length<=100) (hx:∀ x ∈ ch,0<=x.v /\ x.v < p.vars /\ kindT p.wide p.vars x.by1 = 1 /\ x.by1.length<=100) :
  c146 k p.wide p.vars l1 l2 l3 (q0y ch) (encW s) = r146 (encW (q01 p.wide s ch s)):=by
 obtain ⟨k,rfl⟩:∃ j,k = j + 2:=⟨k - 2,by omega⟩
 have hcl:c210 (k + 1) (encW s) = r210 (encW s):=n210 k _ (by simp [LIM];omega) (by simp [LIM];omega)
 rw [n146,hcl]
 simp only [w4d,q5k,q2c]
 exact z9n (k:=k + 1) (by omega) p hw l1 l2 s hs hg ch hl hx (k + 1) 0 s (by omega) (by omega) rfl
def x24 (p:Prg) (c:Cmd) (s:List W):Bool:=valD p.wide s c.wh == 1#64
theorem x1e {wide:Int} {v:W} (h:okV wide 2 v):v<=1#64:=by rcases h with h | h;exact absurd h.1 (by omega);exact h.2
end Go.Proofs.YtgdegfijcijnoaaGreat
/- Sorted lists;the variables that a command reads and changes. -/
namespace Go.Dp
theorem z8y:∀ {a b:List Int},a.Pairwise (· < ·)->b.Pairwise (· < ·)->(∀ x,x ∈ a ↔ x ∈ b)->a = b
 | [],[],_,_,_=>rfl
 | [],y :: b,_,_,h=>by have:=(h y).2 (by simp);simp at this
 | x :: a,[],_,_,h=>by have:=(h x).1 (by simp);simp at this
 | x :: a,y :: b,ha,hb,h=>by
  rw [List.pairwise_cons] at ha hb
  have exy:x = y:=by
   have h1:=(h x).1 (by simp)
   have h2:=(h y).2 (by simp)
   rcases List.mem_cons.1 h1 with h1 | h1
   ·exact h1
   ·rcases List.mem_cons.1 h2 with h2 | h2
    ·exact h2.symm
    ·have:=ha.1 y h2
     have:=hb.1 x h1
     omega
  subst exy
  rw [z8y ha.2 hb.2 fun z=>?_]
  constructor
  ·intro hz
   rcases List.mem_cons.1 ((h z).1 (List.mem_cons_of_mem _ hz)) with h1 | h1
   ·have:=ha.1 z hz;omega
   ·exact h1
  ·intro hz
   rcases List.mem_cons.1 ((h z).2 (List.mem_cons_of_mem _ hz)) with h1 | h1
   ·have:=hb.1 z hz;omega
   ·exact h1
theorem x0n (z:List Int) (hs:∀ i j,i<=j->j < z.length->z.toArray[i]!<=z.toArray[j]!):∀ m,m<=z.length->(Lib.compactUpTo z.toArray m).Pairwise (· < ·) /\ ∀ x,x ∈ Lib.compactUpTo z.toArray m ↔ ∃ j,j < m /\ z.toArray[j]! = x
 | 0,_=>by simp [Lib.compactUpTo]
 | m + 1,h=>by
  obtain ⟨h1,h2⟩:=x0n z hs m (by omega)
  rw [Lib.compactUpTo_succ]
  by_cases hk:Lib.keeps z.toArray m = true
  ·rw [if_pos hk]
   refine ⟨List.pairwise_append.2 ⟨h1,by simp,fun a ha b hb=>?_⟩,fun x=>?_⟩
   ·rw [List.mem_singleton] at hb
    subst hb
    obtain ⟨j,hj,rfl⟩:=(h2 a).1 ha
    have l1:=hs j (m - 1) (by omega) (by omega)
    have l2:=hs (m - 1) m (by omega) (by omega)
    have hne:z.toArray[m]! ≠ z.toArray[m - 1]!:=by
     unfold Lib.keeps at hk
     rw [decide_eq_true_eq] at hk
     rcases hk with hk | hk
     ·omega
     ·exact hk
    omega
   ·rw [List.mem_append,h2,List.mem_singleton]
    constructor
    ·rintro (⟨j,hj,hx⟩ | hx)
     ·exact ⟨j,by omega,hx⟩
     ·exact ⟨m,by omega,hx.symm⟩
    ·rintro ⟨j,hj,hx⟩
     by_cases e:j = m
     ·subst e;exact .inr hx.symm
     ·exact .inl ⟨j,by omega,hx⟩
  ·rw [if_neg hk,List.append_nil]
   refine ⟨h1,fun x=>?_⟩
   have hm:m ≠ 0 /\ z.toArray[m]! = z.toArray[m - 1]!:=by
    unfold Lib.keeps at hk
    rw [decide_eq_true_eq] at hk
    exact ⟨fun e=>hk (.inl e),Decidable.byContradiction fun e=>hk (.inr e)⟩
   rw [h2]
   constructor
   ·rintro ⟨j,hj,hx⟩;exact ⟨j,by omega,hx⟩
   ·rintro ⟨j,hj,hx⟩
    by_cases e:j = m
    ·subst e;exact ⟨j - 1,by omega,by rw [<- hm.2];exact hx⟩
    ·exact ⟨j,by omega,hx⟩
def canI (l:List Int):List Int:=q3e (q18 l)
theorem x72 {z:List Int} {x:Int}:(∃ j,j < z.length /\ z.toArray[j]! = x) ↔ x ∈ z:=by
 constructor
 ·rintro ⟨j,hj,rfl⟩
  rw [getElem!_pos z.toArray j (by simpa using hj)]
  simp
 ·intro h
  obtain ⟨j,hj,rfl⟩:=List.getElem_of_mem h
  exact ⟨j,hj,by rw [getElem!_pos z.toArray j (by simpa using hj)];simp⟩
theorem z3e (l:List Int):(canI l).Pairwise (· < ·) /\ ∀ x,x ∈ canI l ↔ x ∈ l:=by
 have hp:(q18 l).Pairwise fun a b=>decide (a<=b) = true:=List.pairwise_mergeSort (fun a b c h1 h2=>by simp at h1 h2 ⊢;omega) (fun a b=>by simp;omega) l
 have hs:∀ i j,i<=j->j < (q18 l).length->(q18 l).toArray[i]!<=(q18 l).toArray[j]!:=by
  intro i j hij hj
  rw [getElem!_pos (q18 l).toArray i (by simp;omega),getElem!_pos (q18 l).toArray j (by simpa using hj)]
  by_cases e:i = j
  ·subst e;omega
  ·have:=List.pairwise_iff_getElem.1 hp i j (by omega) hj (by omega)
   simpa using this
 obtain ⟨h1,h2⟩:=x0n (q18 l) hs (q18 l).length (Nat.le_refl _)
 refine ⟨h1,fun x=>(h2 x).trans (x72.trans ?_)⟩
 unfold q18
 exact List.mem_mergeSort
theorem y7p (l:List Int):(canI l).length<=l.length:=by
 have:=z1g (q18 l)
 unfold canI
 have:(q18 l).length = l.length:=by simp [q18]
 omega
def putI:List Int->Int->List Int
 | [],n=>[n]
 | x :: l,n=>if x < n then x :: putI l n else if x = n then x :: l else n :: x :: l
theorem z34 (x:Int) (l:List Int) (n:Int):putI (x :: l) n = if x < n then x :: putI l n else if x = n then x :: l else n :: x :: l:=rfl
theorem z8m:∀ (l:List Int) (n x:Int),x ∈ putI l n ↔ x = n ∨ x ∈ l
 | [],n,x=>by simp [putI]
 | y :: l,n,x=>by
  unfold putI
  split
  ·simp only [List.mem_cons,z8m l n x]
   constructor
   ·rintro (h | h | h) <;> simp [h]
   ·rintro (h | h | h) <;> simp [h]
  ·split
   ·rename_i h
    subst h
    simp
   ·simp
theorem x04:∀ (l:List Int) (n:Int),l.Pairwise (· < ·)->(putI l n).Pairwise (· < ·)
 | [],n,h=>by simp [putI]
 | y :: l,n,h=>by
  rw [List.pairwise_cons] at h
  unfold putI
  split
  ·rename_i h1
   rw [List.pairwise_cons]
   refine ⟨fun x hx=>?_,x04 l n h.2⟩
   rcases (z8m l n x).1 hx with hx | hx
   ·omega
   ·exact h.1 x hx
  ·split
   ·exact List.pairwise_cons.2 h
   ·rw [List.pairwise_cons]
    refine ⟨fun x hx=>?_,List.pairwise_cons.2 h⟩
    rcases List.mem_cons.1 hx with hx | hx
    ·omega
    ·have:=h.1 x hx;omega
theorem q60:∀ (l:List Int) (n:Int),(putI l n).length<=l.length + 1
 | [],n=>by simp [putI]
 | y :: l,n=>by
  have:=q60 l n
  unfold putI
  split
  ·simp;omega
  ·split <;> simp
def q1g (l m:List Int):List Int:=m.foldl putI l
theorem q11:∀ (m l:List Int),l.Pairwise (· < ·)->(q1g l m).Pairwise (· < ·) /\ ∀ x,x ∈ q1g l m ↔ x ∈ l ∨ x ∈ m
 | [],l,h=>⟨h,fun x=>by simp [q1g]⟩
 | n :: m,l,h=>by
  obtain ⟨h1,h2⟩:=q11 m (putI l n) (x04 l n h)
  refine ⟨h1,fun x=>(h2 x).trans ?_⟩
  rw [z8m,List.mem_cons]
  constructor
  ·rintro ((h | h) | h) <;> simp [h]
  ·rintro (h | h | h) <;> simp [h]
theorem z6l:∀ (m l:List Int),(q1g l m).length<=l.length + m.length
 | [],l=>by simp [q1g]
 | n :: m,l=>by
  have h1:=z6l m (putI l n)
  have h2:=q60 l n
  simp only [q1g,List.foldl_cons,List.length_cons] at h1 ⊢
  omega
theorem y8z (l m m2:List Int):q1g l (m ++ m2) = q1g (q1g l m) m2:=by simp [q1g]
theorem x8i {l m:List Int} (h:∀ x,x ∈ l ↔ x ∈ m):canI l = q1g [] m:=by
 obtain ⟨h1,h2⟩:=z3e l
 obtain ⟨h3,h4⟩:=q11 m [] List.Pairwise.nil
 exact z8y h1 h3 fun x=>by rw [h2,h4];simp [h]
end Go.Dp
namespace Go.Proofs.YtgdegfijcijnoaaGreat
open Go.Dp
theorem q0l {l:List Int} {i:Nat} (h:i < l.length):q0i (encZ l) (i:Int) = some (.int .i64 l[i]):=by rw [q0o,q2s,List.getElem?_eq_getElem h];rfl
theorem z15:∀ l:List Int,intsOf (encZ l) = some l
 | []=>rfl
 | x :: l=>by
  have:=z15 l
  simp only [encZ,List.map_cons] at this ⊢
  simp only [intsOf,this]
  rfl
theorem x6i (o:List Int):((((q18 o).map (PV.int .i64)) ++ ((encZ o).drop o.length)).take o.length) = encZ (q18 o):=by
 have hl:(q18 o).length = o.length:=by simp [q18]
 have:(encZ o).drop o.length = []:=List.drop_eq_nil_of_le (by simp)
 rw [this,List.append_nil,List.take_of_length_le (by simp [hl])]
 rfl
theorem x39 (z:List Int) (r tl:List PV):(((((q3e z).map (PV.int .i64)) ++ r) ++ tl).take ((q3e z).length)) = encZ (q3e z):=by
 rw [List.append_assoc,List.take_append_of_le_length (by simp),List.take_of_length_le (by simp)]
 rfl
def q9g:List Nd->List Int
 | []=>[]
 | x :: t=>(if x.1 = 2 then [IntKind.i64.wrap (wi x.2)] else []) ++ q9g t
theorem y2y {k:Nat} (l:List Int) (hl:l.length<=1000) (m:Int):∀ (n i:Nat),l.length - i < n->i<=l.length ->
   z9f k n l.length m (i:Int) (encZ l) = r192 (encZ (l.take i ++ putI (l.drop i) m))
 | 0,i,h,hi=>by omega
 | n + 1,i,h,hi=>by
   have key:(l.drop i = [] ∨ ∃ x r,l.drop i = x :: r /\ ¬ x < m /\ x ≠ m)->(bif decide ((0:Int)<=(i:Int)) && decide ((i:Int)<=(l.length:Int)) then
     bif decide ((0 + (((encZ l).take (i:Int).toNat).length)) * 8<=LIM) && decide (0 + (((encZ l).take (i:Int).toNat).length)<=LIM) then
      bif decide (((0 + (((encZ l).take (i:Int).toNat).length)) + 1) * 8<=LIM) && decide ((0 + (((encZ l).take (i:Int).toNat).length)) + 1<=LIM) then
       bif decide ((0:Int)<=(i:Int)) && decide ((i:Int)<=(l.length:Int)) && decide ((l.length:Int)<=(l.length:Int)) then
        bif decide ((((0 + (((encZ l).take (i:Int).toNat).length)) + 1) + ((((encZ l).drop (0 + (i:Int).toNat)).take (l.length - (i:Int).toNat)).length)) * 8<=LIM) && decide (((0 + (((encZ l).take (i:Int).toNat).length)) + 1) + ((((encZ l).drop (0 + (i:Int).toNat)).take (l.length - (i:Int).toNat)).length)<=LIM) then
         r192 (((((([] ++ ((encZ l).take (i:Int).toNat)).take (0 + (((encZ l).take (i:Int).toNat).length))) ++ [PV.int .i64 m]).take ((0 + (((encZ l).take (i:Int).toNat).length)) + 1)) ++ (((encZ l).drop (0 + (i:Int).toNat)).take (l.length - (i:Int).toNat))).take (((0 + (((encZ l).take (i:Int).toNat).length)) + 1) + ((((encZ l).drop (0 + (i:Int).toNat)).take (l.length - (i:Int).toNat)).length)))
        else none
       else none
      else none
     else none
    else none) = r192 (encZ (l.take i ++ putI (l.drop i) m)):=by
     intro hc
     have e1:(decide ((0:Int)<=(i:Int)) && decide ((i:Int)<=(l.length:Int))) = true:=by simp;omega
     have e2:(encZ l).take (i:Int).toNat = encZ (l.take i):=by rw [Int.toNat_natCast,q42]
     have e3:((encZ l).drop (0 + (i:Int).toNat)).take (l.length - (i:Int).toNat) = encZ (l.drop i):=by rw [Nat.zero_add,Int.toNat_natCast,y3l,List.take_of_length_le (by simp)]
     have e4:(encZ (l.take i)).length = i:=by simp;omega
     have e5:(encZ (l.drop i)).length = l.length - i:=by simp
     rw [e2,e3,e4,e5,e1,q0r (by omega) (by omega),q0r (by omega) (by omega),q0r (by omega) (by omega)]
     have e6:decide ((l.length:Int)<=(l.length:Int)) = true:=by simp
     rw [e6]
     simp only [cond_true,Bool.and_self,List.nil_append,Nat.zero_add]
     rw [List.take_of_length_le (l:=encZ (l.take i)) (by simp;omega),q1i,List.take_of_length_le (l:=encZ (l.take i ++ [m])) (by (simp;try omega))]
     have e7:putI (l.drop i) m = m :: l.drop i:=by
       rcases hc with hc | ⟨x,r,hc,h1,h2⟩
       · rw [hc];rfl
       · rw [hc,z34,if_neg h1,if_neg h2]
     have e8:encZ (l.take i ++ [m]) ++ encZ (l.drop i) = encZ (l.take i ++ putI (l.drop i) m):=by rw [e7];simp [encZ]
     rw [e8,List.take_of_length_le]
     rw [e7]
     simp
     omega
   rw [w2b]
   by_cases hlt:i < l.length
   · have hd:decide ((i:Int) < (l.length:Int)) = true:=by simpa using hlt
     have h0:decide ((0:Int)<=(i:Int)) = true:=by simp
     have hget:(encZ l)[0 + (i:Int).toNat]? = some (.int .i64 l[i]):=by rw [Nat.zero_add,Int.toNat_natCast,q2s,List.getElem?_eq_getElem hlt];rfl
     rw [hd,h0,hget]
     simp only [Bool.and_self,cond_true,Option.bind_some,q0k]
     by_cases h1:l[i] < m
     · have h1':decide (l[i] < m) = true:=by simpa using h1
       rw [h1']
       simp only [cond_true]
       rw [q0b (by omega) (by omega),show (i:Int) + 1 = ((i + 1:Nat):Int) by omega,y2y l hl m n (i + 1) (by omega) (by omega)]
       rw [q0f hlt,List.take_succ_eq_append_getElem hlt]
       rw [z34,if_pos h1,List.append_assoc]
       rfl
     · have h1':decide (l[i] < m) = false:=by simpa using h1
       rw [h1']
       simp only [cond_false]
       by_cases h2:l[i] = m
       · have h2':(l[i] == m) = true:=by simpa using h2
         rw [h2']
         simp only [cond_true]
         rw [List.take_of_length_le (by simp)]
         congr 2
         rw [q0f hlt]
         rw [z34,if_neg h1,if_pos h2,<- q0f hlt,List.take_append_drop]
       · have h2':(l[i] == m) = false:=by simpa using h2
         rw [h2']
         simp only [cond_false]
         have:=key (.inr ⟨_,_,q0f hlt,h1,h2⟩)
         rw [h0] at this
         exact this
   · have hd:decide ((i:Int) < (l.length:Int)) = false:=by simpa using hlt
     rw [hd]
     simp only [cond_false]
     exact key (.inl (List.drop_eq_nil_of_le (by omega)))
theorem z2l {k:Nat} (hk:2000<=k) (l:List Int) (hl:l.length<=1000) (m:Int):c192 k (encZ l) m = r192 (encZ (putI l m)):=by
 obtain ⟨k,rfl⟩:∃ j,k = j + 1:=⟨k - 1,by omega⟩
 rw [n192]
 have:=y2y (k:=k) l hl m k 0 (by omega) (by omega)
 simpa using this
end Go.Proofs.YtgdegfijcijnoaaGreat
/- FnCommute: what commands touch;independent commands x1u;the law. -/
namespace Go.Proofs.YtgdegfijcijnoaaGreat
open Go.Dp
def z0o:List Chg->List Int
 | []=>[]
 | x :: l=>q9g x.by1 ++ z0o l
def q8 (c:Cmd):List Int:=q1g [] (q9g c.wh ++ z0o c.ch)
def q86 (c:Cmd):List Int:=c.ch.map Chg.v
def q5c (a b:List Int):Bool:=a.any fun x=>b.contains x
theorem y6x {k:Nat} (l:List Int) (hl:l.length<=100000) (v:Int):∀ (n i:Nat),l.length - i < n->i<=l.length->z84 k n v (encZ l) (l.length:Int) (i:Int) = r163 ((l.drop i).contains v)
 | 0,i,h,hi=>by omega
 | n + 1,i,h,hi=>by
  rw [w0c]
  by_cases hlt:i < l.length
  ·have hd:decide ((i:Int) < (l.length:Int)) = true:=by simpa using hlt
   rw [hd,q0l hlt,q0f hlt]
   simp only [cond_true,Option.bind_some,q0k,List.contains_cons]
   rw [show (v == l[i]) = (l[i] == v) from BEq.comm]
   cases he:(l[i] == v)
   ·simp only [cond_false,Bool.false_or]
    rw [q0b (by omega) (by omega)]
    exact y6x l hl v n (i + 1) (by omega) (by omega)
   ·simp
  ·have hd:decide ((i:Int) < (l.length:Int)) = false:=by simpa using hlt
   rw [hd,List.drop_eq_nil_of_le (by omega)]
   simp
theorem y0g {k:Nat} (hk:100010<=k) (l:List Int) (hl:l.length<=100000) (v:Int):c163 k (encZ l) v = r163 (l.contains v):=by
 obtain ⟨k,rfl⟩:∃ j,k = j + 1:=⟨k - 1,by omega⟩
 rw [n163,q0d]
 have:=y6x (k:=k) l hl v k 0 (by omega) (by omega)
 simpa using this
theorem z86 {k:Nat} (hk:100020<=k) (a b:List Int) (ha:a.length<=100000) (hb:b.length<=100000):∀ (n i:Nat),a.length - i < n->i<=a.length->z82 k n (encZ b) (encZ a) (a.length:Int) (i:Int) = r127 (q5c (a.drop i) b)
 | 0,i,h,hi=>by omega
 | n + 1,i,h,hi=>by
  rw [w1y]
  by_cases hlt:i < a.length
  ·have hd:decide ((i:Int) < (a.length:Int)) = true:=by simpa using hlt
   rw [hd,q0l hlt,q0f hlt]
   simp only [cond_true,Option.bind_some,q0k,q5c,List.any_cons]
   rw [y0g (by omega) b hb]
   simp only [z95]
   cases b.contains a[i]
   ·simp only [cond_false,Bool.false_or]
    rw [q0b (by omega) (by omega)]
    exact z86 hk a b ha hb n (i + 1) (by omega) (by omega)
   ·rfl
  ·have hd:decide ((i:Int) < (a.length:Int)) = false:=by simpa using hlt
   rw [hd,List.drop_eq_nil_of_le (by omega)]
   simp [q5c]
theorem y7f {k:Nat} (hk:100100<=k) (a b:List Int) (ha:a.length<=100000) (hb:b.length<=100000):c127 k (encZ a) (encZ b) = r127 (q5c a b):=by
 obtain ⟨k,rfl⟩:∃ j,k = j + 1:=⟨k - 1,by omega⟩
 rw [n127,q0d]
 have:=z86 (k:=k) (by omega) a b ha hb k 0 (by omega) (by omega)
 simpa using this
def tOK (p:Prg) (k1:Int):Bool:=q1w p && q2h p k1
def apart (p:Prg) (k1 m1:Int):Bool:=!q5c (q86 (q0m p k1)) (q8 (q0m p m1)) && (!q5c (q86 (q0m p k1)) (q86 (q0m p m1)) && !q5c (q86 (q0m p m1)) (q8 (q0m p k1)))
end Go.Proofs.YtgdegfijcijnoaaGreat
/- FnCommute: independent commands x1u;the law. -/
namespace Go.Proofs.YtgdegfijcijnoaaGreat
open Go.Dp
theorem q5q {p:Prg} (hp:FitP p) {k1:Int} (h:tOK p k1 = true):isW p.wide = true /\ isV p.vars = true /\ q1w p = true /\ q2h p k1 = true /\ FitC 6 (q0m p k1) /\ kindT p.wide p.vars (q0m p k1).wh = 2 /\ ∀ x ∈ (q0m p k1).ch,0<=x.v /\ x.v < p.vars /\ kindT p.wide p.vars x.by1 = 1:=by
 simp only [tOK,Bool.and_eq_true] at h
 obtain ⟨hg,hn⟩:=h
 obtain ⟨h1,h2⟩:=q4g hg
 have hm:=(q50 hn).2
 have hg':=hg
 simp only [q1w,Bool.and_eq_true,List.all_eq_true] at hg
 have hc:=hg.2 _ hm
 simp only [q3g,Bool.and_eq_true,beq_iff_eq] at hc
 exact ⟨h1,h2,hg',hn,hp.c _ hm,hc.1,q69 hc.2⟩
theorem q4q {p:Prg} (hw:isW p.wide = true) {s:List W}:stOK p s = true ↔ (s.length:Int) = p.vars /\ ∀ a ∈ s,a<=mk p.wide:=by
 simp only [stOK,Bool.and_eq_true,decide_eq_true_eq,List.all_eq_true]
 constructor
 · rintro ⟨h1,h2⟩;exact ⟨h1,fun a ha=>(q7d.1 (h2 a ha)).2⟩
 · rintro ⟨h1,h2⟩;exact ⟨h1,fun a ha=>q7d.2 ⟨hw,h2 a ha⟩⟩
def q2q (p:Prg) (k1:Int) (s:List W):Bool:=stOK p s && x24 p (q0m p k1) s
def stepT (p:Prg) (k1:Int) (s:List W):List W:=bif q2q p k1 s then q01 p.wide s (q0m p k1).ch s else []
theorem y05 {wide:Int} {s s':List W}:∀ (t:List Nd) (vs:List W),(∀ x ∈ t,x.1 = 2->s[x.2.toNat]? = s'[x.2.toNat]?)->vrun wide s t vs = vrun wide s' t vs
 | [],vs,h=>rfl
 | x :: t,vs,h=>by
  have ih:=fun vs=>y05 (wide:=wide) t vs fun y hy=>h y (by simp [hy])
  simp only [vrun]
  split
  ·exact ih _
  ·split
   ·rename_i h2
    rw [h x (by simp) h2]
    cases s'[x.2.toNat]? with
    | none=>rfl
    | some a=>exact ih _
   ·split
    ·cases vs with
     | nil=>rfl
     | cons a r=>exact ih _
    ·split
     ·cases vs with
      | nil=>rfl
      | cons a r=>exact ih _
     ·rcases vs with _ | ⟨b,_ | ⟨a,r⟩⟩
      ·rfl
      ·rfl
      ·exact ih _
theorem y3d:∀ (t:List Nd) (x:Nd),x ∈ t->x.1 = 2->IntKind.i64.wrap (wi x.2) ∈ q9g t
 | [],x,h,h2=>by simp at h
 | y :: t,x,h,h2=>by
  simp only [q9g,List.mem_append]
  rcases List.mem_cons.1 h with rfl | h
  ·left;rw [if_pos h2];simp
  ·exact .inr (y3d t x h h2)
theorem q97:∀ (l:List Chg) (x:Chg) (v:Int),x ∈ l->v ∈ q9g x.by1->v ∈ z0o l
 | [],x,v,h,hv=>by simp at h
 | y :: l,x,v,h,hv=>by
  simp only [z0o,List.mem_append]
  rcases List.mem_cons.1 h with rfl | h
  ·exact .inl hv
  ·exact .inr (q97 l x v h hv)
theorem q64 (c:Cmd) (v:Int):v ∈ q8 c ↔ v ∈ q9g c.wh ∨ v ∈ z0o c.ch:=by
 rw [q8,(q11 _ [] List.Pairwise.nil).2]
 simp [List.mem_append]
theorem z6p {a b:List Int} (h:q5c a b = false):∀ x ∈ a,x ∉ b:=by
 intro x hx hb
 have:q5c a b = true:=by
  simp only [q5c,List.any_eq_true]
  exact ⟨x,hx,by simpa using hb⟩
 rw [h] at this
 cases this
theorem q7k (wide:Int) (s:List W):∀ (ch:List Chg) (o:List W),(q01 wide s ch o).length = o.length
 | [],o=>rfl
 | x :: l,o=>by
  have:=q7k wide s l (o.set x.v.toNat (valD wide s x.by1))
  simpa [q01] using this
theorem y1i (wide:Int) (s:List W) (i:Nat):∀ (ch:List Chg) (o:List W),(∀ x ∈ ch,x.v.toNat ≠ i)->(q01 wide s ch o)[i]? = o[i]?
 | [],o,h=>rfl
 | x :: l,o,h=>by
  have:=y1i wide s i l (o.set x.v.toNat (valD wide s x.by1)) fun y hy=>h y (by simp [hy])
  rw [List.getElem?_set_ne (h x (by simp))] at this
  exact this
theorem z1b {wide vars:Int} {s:List W} (hs:(s.length:Int) = vars) (hg:∀ a ∈ s,a<=mk wide):∀ (ch:List Chg) (o:List W),(∀ x ∈ ch,kindT wide vars x.by1 = 1)->(∀ a ∈ o,a<=mk wide)->∀ a ∈ q01 wide s ch o,a<=mk wide
 | [],o,hx,ho=>ho
 | x :: l,o,hx,ho=>by
  obtain ⟨_,h2⟩:=q5u (hx x (by simp)) (by omega) hs hg
  have h3:valD wide s x.by1<=mk wide:=by rcases h2 with h | h;exact h.2;exact absurd h.1 (by omega)
  refine z1b hs hg l (o.set x.v.toNat (valD wide s x.by1)) (fun y hy=>hx y (by simp [hy])) fun a ha=>?_
  rcases List.mem_or_eq_of_mem_set ha with h4 | h4
  ·exact ho a h4
  ·rw [h4];exact h3
theorem z9w (wide:Int) (s:List W) (i:Nat) (a:W):∀ (ch:List Chg) (o:List W),(∀ x ∈ ch,x.v.toNat ≠ i)->q01 wide s ch (o.set i a) = (q01 wide s ch o).set i a
 | [],o,h=>rfl
 | x :: l,o,h=>by
  have:=z9w wide s i a l (o.set x.v.toNat (valD wide s x.by1)) fun y hy=>h y (by simp [hy])
  simp only [q01,List.foldl_cons] at this ⊢
  rw [List.set_comm _ _ (Ne.symm (h x (by simp)))]
  exact this
theorem z6h (wide:Int) (s:List W) (c2:List Chg):∀ (c1:List Chg) (o:List W),(∀ x ∈ c1,∀ y ∈ c2,y.v.toNat ≠ x.v.toNat)->q01 wide s c2 (q01 wide s c1 o) = q01 wide s c1 (q01 wide s c2 o)
 | [],o,h=>rfl
 | x :: l,o,h=>by
  have:=z6h wide s c2 l (o.set x.v.toNat (valD wide s x.by1)) fun y hy=>h y (by simp [hy])
  rw [z9w wide s _ _ c2 o (h x (by simp))] at this
  exact this
theorem q9q {wide:Int} {s s':List W}:∀ (ch:List Chg) (o:List W),(∀ x ∈ ch,valD wide s x.by1 = valD wide s' x.by1)->q01 wide s ch o = q01 wide s' ch o
 | [],o,h=>rfl
 | x :: l,o,h=>by
  have:=q9q (wide:=wide) (s:=s) (s':=s') l (o.set x.v.toNat (valD wide s x.by1)) fun y hy=>h y (by simp [hy])
  simp only [q01,List.foldl_cons] at this ⊢
  rw [this,h x (by simp)]
theorem y3n {p:Prg} (hp:FitP p) {k1 m1:Int} (hk:tOK p k1 = true) (hm:tOK p m1 = true) (h:q5c (q86 (q0m p k1)) (q8 (q0m p m1)) = false) (s:List W) {t:List Nd} (hg:q1a p.wide p.vars t = true) (hr:∀ v ∈ q9g t,v ∈ q8 (q0m p m1)) :
  valD p.wide (q01 p.wide s (q0m p k1).ch s) t = valD p.wide s t:=by
 obtain ⟨hw,hv,_,_,_,_,hx⟩:=q5q hp hk
 have hv':=q8a.1 hv
 unfold valD
 rw [y05 (s:=q01 p.wide s (q0m p k1).ch s) (s':=s) t [] fun x hxt h2=>?_]
 have hlt:=z1s hg x hxt h2
 refine y1i p.wide s _ _ _ fun y hy e=>?_
 have h3:=y3d t x hxt h2
 have h4:IntKind.i64.wrap (wi x.2) = (x.2.toNat:Int):=by unfold wi;exact q0b (by omega) (by omega)
 rw [h4] at h3
 have h5:=z6p h y.v (List.mem_map.2 ⟨y,hy,rfl⟩)
 have h6:y.v = (x.2.toNat:Int):=by have:=(hx y hy).1;omega
 rw [h6] at h5
 exact h5 (hr _ h3)
theorem x1u {p:Prg} (hp:FitP p) {k1 m1:Int} (hk:tOK p k1 = true) (hm:tOK p m1 = true) (ha:apart p k1 m1 = true) {s:List W} (h1:q2q p k1 s = true) (h2:q2q p m1 s = true) :
  q2q p m1 (stepT p k1 s) = true /\ q2q p k1 (stepT p m1 s) = true /\ stepT p m1 (stepT p k1 s) = stepT p k1 (stepT p m1 s):=by
 simp only [apart,Bool.and_eq_true,Bool.not_eq_true'] at ha
 obtain ⟨a1,a2,a3⟩:=ha
 obtain ⟨hw,hv,_,_,hfk,hkk,hxk⟩:=q5q hp hk
 obtain ⟨_,_,_,_,hfm,hkm,hxm⟩:=q5q hp hm
 have ek:stepT p k1 s = q01 p.wide s (q0m p k1).ch s:=by unfold stepT;rw [h1];rfl
 have em:stepT p m1 s = q01 p.wide s (q0m p m1).ch s:=by unfold stepT;rw [h2];rfl
 simp only [q2q,Bool.and_eq_true] at h1 h2
 obtain ⟨hs,hg⟩:=(q4q hw).1 h1.1
 have oks:∀ ch:List Chg,(∀ x ∈ ch,kindT p.wide p.vars x.by1 = 1)->stOK p (q01 p.wide s ch s) = true:=fun ch hc=>(q4q hw).2 ⟨by rw [q7k];exact hs,z1b hs hg ch s hc hg⟩
 have okk:=oks _ fun x h=>(hxk x h).2.2
 have okm:=oks _ fun x h=>(hxm x h).2.2
 have vm:=fun t hg hr=>y3n hp hk hm a1 s (t:=t) hg hr
 have vk:=fun t hg hr=>y3n hp hm hk a3 s (t:=t) hg hr
 have hwm:=vm (q0m p m1).wh (q34 (by omega)) fun v hv=>(q64 _ _).2 (.inl hv)
 have hwk:=vk (q0m p k1).wh (q34 (by omega)) fun v hv=>(q64 _ _).2 (.inl hv)
 have hbm:∀ x ∈ (q0m p m1).ch,valD p.wide (q01 p.wide s (q0m p k1).ch s) x.by1 = valD p.wide s x.by1:=fun x hx=>vm x.by1 (q34 (by have:=(hxm x hx).2.2;omega)) fun v hv=>(q64 _ _).2 (.inr (q97 _ x v hx hv))
 have hbk:∀ x ∈ (q0m p k1).ch,valD p.wide (q01 p.wide s (q0m p m1).ch s) x.by1 = valD p.wide s x.by1:=fun x hx=>vk x.by1 (q34 (by have:=(hxk x hx).2.2;omega)) fun v hv=>(q64 _ _).2 (.inr (q97 _ x v hx hv))
 have o1:q2q p m1 (stepT p k1 s) = true:=by
  rw [ek,q2q,okk,Bool.true_and,x24,hwm]
  exact h2.2
 have o2:q2q p k1 (stepT p m1 s) = true:=by
  rw [em,q2q,okm,Bool.true_and,x24,hwk]
  exact h1.2
 refine ⟨o1,o2,?_⟩
 unfold stepT at o1 o2 ⊢
 rw [show (bif q2q p m1 (bif q2q p k1 s then q01 p.wide s (q0m p k1).ch s else []) then _ else []) = q01 p.wide (bif q2q p k1 s then q01 p.wide s (q0m p k1).ch s else []) (q0m p m1).ch (bif q2q p k1 s then q01 p.wide s (q0m p k1).ch s else []) by rw [o1];rfl]
 rw [show (bif q2q p k1 (bif q2q p m1 s then q01 p.wide s (q0m p m1).ch s else []) then _ else []) = q01 p.wide (bif q2q p m1 s then q01 p.wide s (q0m p m1).ch s else []) (q0m p k1).ch (bif q2q p m1 s then q01 p.wide s (q0m p m1).ch s else []) by rw [o2];rfl]
 have ek':(bif q2q p k1 s then q01 p.wide s (q0m p k1).ch s else []) = q01 p.wide s (q0m p k1).ch s:=ek
 have em':(bif q2q p m1 s then q01 p.wide s (q0m p m1).ch s else []) = q01 p.wide s (q0m p m1).ch s:=em
 rw [ek',em',q9q _ _ hbm,q9q _ _ hbk]
 refine z6h p.wide s _ _ s fun x hx y hy e=>?_
 have h5:=z6p a2 x.v (List.mem_map.2 ⟨x,hx,rfl⟩)
 have h6:x.v = y.v:=by have:=(hxk x hx).1;have:=(hxm y hy).1;omega
 exact h5 (h6 ▸ List.mem_map.2 ⟨y,hy,rfl⟩)
end Go.Proofs.YtgdegfijcijnoaaGreat
/- The reference's values of terms: by the tree of a node. -/
namespace Go.Proofs.YtgdegfijcijnoaaGreat
open Go.Dp
theorem q4n {wide:Int} (hw:isW wide = true) {a:W} (h:a<=mk wide):a &&& mk wide = a:=by
 have h':=q14.1 hw
 exact (z2b (by omega) a).2 h
theorem x4p {wide:Int} (hw:isW wide = true) {a:W} (h:a &&& mk wide = a):a<=mk wide:=by
 have h':=q14.1 hw
 exact (z2b (by omega) a).1 h
theorem w3y {wide:Int} (hw:isW wide = true) (i:Nat):(mk wide).getLsbD i = decide (i < wide.toNat):=by
 have h':=q14.1 hw
 exact z4k (by omega) i
theorem x5v {wide:Int} (hw:isW wide = true) {a b:W} (ha:a<=mk wide) (hb:b<=mk wide):(a ||| b) &&& mk wide = a ||| b:=by
 have h1:=q4n hw ha
 have h2:=q4n hw hb
 rw [BitVec.and_comm,BitVec.and_or_distrib_left,BitVec.and_comm _ a,BitVec.and_comm _ b,h1,h2]
theorem x94 {wide:Int} (hw:isW wide = true) {a b:W} (ha:a<=mk wide) (hb:b<=mk wide):(a ^^^ b) &&& mk wide = a ^^^ b:=by
 have h1:=q4n hw ha
 have h2:=q4n hw hb
 apply BitVec.eq_of_getLsbD_eq
 intro i hi
 have b1:=congrArg (fun x=>x.getLsbD i) h1
 have b2:=congrArg (fun x=>x.getLsbD i) h2
 simp only [BitVec.getLsbD_and,BitVec.getLsbD_xor] at b1 b2 ⊢
 revert b1 b2
 cases a.getLsbD i <;> cases b.getLsbD i <;> cases (mk wide).getLsbD i <;> simp
theorem x7r {wide:Int} (hw:isW wide = true) (a:W) (j:Nat):(((a <<< 1) &&& mk wide) <<< j) &&& mk wide = (a <<< (j + 1)) &&& mk wide:=by
 apply BitVec.eq_of_getLsbD_eq
 intro i hi
 simp only [BitVec.getLsbD_and,BitVec.getLsbD_shiftLeft,w3y hw]
 by_cases h1:i < wide.toNat
 ·by_cases h2:i < j
  ·have:i < j + 1:=by omega
   simp [h2,this]
  ·by_cases h3:i = j
   ·subst h3
    simp
   ·have e1:i - j - 1 = i - (j + 1):=by omega
    have h4:¬ i < j + 1:=by omega
    have h5:¬ i - j < 1:=by omega
    have h6:i - j < wide.toNat:=by omega
    have h7:i - j < 64:=by omega
    simp [h1,h2,h4,h5,h6,h7,hi,e1]
 ·simp [h1]
theorem x6n {wide:Int} (hw:isW wide = true) (a:W):(a &&& mk wide) &&& mk wide = a &&& mk wide:=by rw [BitVec.and_assoc,BitVec.and_self]
def sg (wide:Int) (a:W):Int:=if a.toNat < 2 ^ (wide.toNat - 1) then (a.toNat:Int) else (a.toNat:Int) - 2 ^ wide.toNat
theorem x0q {x:Int} (h1:9223372036854775808<=x) (h2:x < 18446744073709551616):IntKind.i64.wrap x = x - 18446744073709551616:=by
 unfold IntKind.wrap
 simp [IntKind.signed,IntKind.bits]
 omega
theorem z8 {wide:Int} (hw:isW wide = true):(mk wide).toNat = 2 ^ wide.toNat - 1:=by
 have h':=q14.1 hw
 exact q3u (by omega)
theorem z5h {wide:Int} (hw:isW wide = true) {a:W} (ha:a<=mk wide):a.toNat < 2 ^ wide.toNat:=by
 have h1:=z8 hw
 rw [BitVec.le_def] at ha
 have:=Nat.two_pow_pos wide.toNat
 omega
theorem z4d {wide:Int} (hw:isW wide = true):∃ w:Nat,wide = ((w + 1:Nat):Int) /\ w<=63 /\ wide.toNat = w + 1 /\ wide.toNat - 1 = w:=by
 have h':=q14.1 hw
 exact ⟨wide.toNat - 1,by omega,by omega,by omega,rfl⟩
theorem x4h {wide:Int} (hw:isW wide = true) {a:W} (ha:a<=mk wide):sgn wide a = sg wide a:=by
 have hlt:=z5h hw ha
 obtain ⟨w,rfl,hw63,e1,e2⟩:=z4d hw
 unfold sgn sg
 rw [e2,e1] at *
 have hd:(64 - ((w + 1:Nat):Int)).toNat = 63 - w:=by omega
 have hmul:2 ^ (w + 1) * 2 ^ (63 - w) = 18446744073709551616:=by rw [<- Nat.pow_add,show w + 1 + (63 - w) = 64 by omega]
 have hmul2:2 ^ w * 2 ^ (63 - w) = 9223372036854775808:=by rw [<- Nat.pow_add,show w + (63 - w) = 63 by omega]
 have hp:=Nat.two_pow_pos (63 - w)
 have hb:a.toNat * 2 ^ (63 - w) < 18446744073709551616:=by rw [<- hmul];exact Nat.mul_lt_mul_of_pos_right hlt hp
 have hs:(a <<< (63 - w)).toNat = a.toNat * 2 ^ (63 - w):=by
  rw [BitVec.toNat_shiftLeft,Nat.shiftLeft_eq,Nat.mod_eq_of_lt (by simpa using hb)]
 have hy:min (64 - ((w + 1:Nat):Int)).toNat 64 = 63 - w:=by omega
 unfold shrI
 rw [hd,show min (63 - w) IntKind.i64.bits = 63 - w from Nat.min_eq_left (by show 63 - w<=64;omega)]
 have hwi:wi (a <<< (63 - w)) = ((a.toNat * 2 ^ (63 - w):Nat):Int):=by unfold wi;rw [hs]
 have hpc:(2:Int) ^ (63 - w) = ((2 ^ (63 - w):Nat):Int):=by simp
 rw [hwi,hpc]
 by_cases h:a.toNat < 2 ^ w
 ·have hc:a.toNat * 2 ^ (63 - w) < 9223372036854775808:=by rw [<- hmul2];exact Nat.mul_lt_mul_of_pos_right h hp
  rw [if_pos h,q0b (by omega) (by omega),Int.fdiv_eq_ediv_of_nonneg _ (Int.natCast_nonneg _),<- Int.natCast_ediv,Nat.mul_div_cancel _ hp]
 ·have hc:9223372036854775808<=a.toNat * 2 ^ (63 - w):=by rw [<- hmul2];exact Nat.mul_le_mul_right _ (by omega)
  rw [if_neg h,x0q (by omega) (by omega)]
  have e3:((a.toNat * 2 ^ (63 - w):Nat):Int) - 18446744073709551616 = ((a.toNat:Int) - ((2 ^ (w + 1):Nat):Int)) * ((2 ^ (63 - w):Nat):Int):=by
   rw [Int.sub_mul,<- Int.natCast_mul,<- Int.natCast_mul,hmul]
   rfl
  rw [e3,Int.mul_fdiv_cancel _ (by omega)]
  simp
theorem w6o {wide:Int} (hw:isW wide = true) {a:W} (ha:a<=mk wide):(a ||| ~~~mk wide).toNat = a.toNat + (18446744073709551616 - 2 ^ wide.toNat):=by
 have hz:a &&& ~~~mk wide = 0#64:=by
  have h1:=q4n hw ha
  apply BitVec.eq_of_getLsbD_eq
  intro i hi
  have b1:=congrArg (fun x=>x.getLsbD i) h1
  simp only [BitVec.getLsbD_and,BitVec.getLsbD_not,hi,decide_true,Bool.true_and] at b1 ⊢
  revert b1
  cases a.getLsbD i <;> cases (mk wide).getLsbD i <;> simp
 rw [<- BitVec.add_eq_or_of_and_eq_zero _ _ hz,BitVec.toNat_add,BitVec.toNat_not,z8 hw]
 have h1:=z5h hw ha
 have h':=q14.1 hw
 have h2:2 ^ wide.toNat<=2 ^ 64:=Nat.pow_le_pow_right (by omega) (by omega)
 have h3:=Nat.two_pow_pos wide.toNat
 rw [Nat.mod_eq_of_lt]
 ·omega
 ·omega
theorem w1b {wide:Int} (hw:isW wide = true) {a:W} (ha:a<=mk wide):((a >>> (wide.toNat - 1)) &&& 1#64 == 1#64) = !decide (a.toNat < 2 ^ (wide.toNat - 1)):=by
 have hlt:=z5h hw ha
 obtain ⟨w,rfl,hw63,e1,e2⟩:=z4d hw
 rw [e2]
 rw [e1,Nat.pow_succ] at hlt
 have hp:=Nat.two_pow_pos w
 have hn:((a >>> w) &&& 1#64).toNat = a.toNat / 2 ^ w % 2:=by
  rw [BitVec.toNat_and,BitVec.toNat_ushiftRight,Nat.shiftRight_eq_div_pow]
  exact Nat.and_one_is_mod _
 by_cases h:a.toNat < 2 ^ w
 ·rw [Nat.div_eq_of_lt h] at hn
  have:(a >>> w) &&& 1#64 ≠ 1#64:=fun e=>by rw [e] at hn;simp at hn
  simp [h,this]
 ·have hq:a.toNat / 2 ^ w = 1:=by
   apply Nat.div_eq_of_lt_le <;> omega
  rw [hq] at hn
  have:(a >>> w) &&& 1#64 = 1#64:=BitVec.eq_of_toNat_eq hn
  simp [h,this]
theorem w1m {k:Nat} (hk:90<=k) (wide:Int) (a b:W):c301 k wide (wi a) (wi b) = r301 (q1v wide a && q1v wide b):=by
 obtain ⟨k,rfl⟩:∃ j,k = j + 1:=⟨k - 1,by omega⟩
 rw [n301,q81 (by omega),q81 (by omega)]
 simp only [w4v]
 cases q1v wide a <;> rfl
theorem z0n {k:Nat} (hk:70<=k) {wide:Int} (hw:isW wide = true) (a:W):c267 k wide (wi a) = r267 (wi (a &&& mk wide)):=by
 have h':=q14.1 hw
 exact y0d hk (by omega) h'.2 a
theorem w04 {k:Nat} (hk:100<=k) {wide:Int} (hw:isW wide = true) (a b:W):c295 k wide (wi a) (wi b) = r295 (wi (divW wide a b).1) (wi (divW wide a b).2) (q1v wide a && q1v wide b):=by
 obtain ⟨k,rfl⟩:∃ j,k = j + 1:=⟨k - 1,by omega⟩
 rw [n295,w1m (by omega)]
 simp only [w29]
 unfold divW
 cases h1:(q1v wide a && q1v wide b)
 ·rfl
 ·simp only [Bool.not_true,cond_false,if_true]
  by_cases hb:b = 0#64
  ·subst hb
   have e:(wi 0#64 == 0) = true:=rfl
   have e2:(18446744073709551615:Int) = wi (BitVec.allOnes 64):=rfl
   simp only [e,cond_true,if_true]
   rw [e2,z0n (by omega) hw]
   simp only [q7e]
   rw [BitVec.allOnes_and]
  ·have h2:(wi b == 0) = false:=by
    have e:(0:Int) = wi 0#64:=rfl
    rw [e,q3y];simpa using hb
   simp only [h2,cond_false,cond_true,Bool.not_false,hb,if_false]
   have e1:(wi a).tdiv (wi b) = wi (a / b):=by
    unfold wi
    rw [Int.tdiv_eq_ediv_of_nonneg (by omega),BitVec.toNat_udiv,Int.natCast_ediv]
   have e2:(wi a).tmod (wi b) = wi (a % b):=by
    unfold wi
    rw [Int.tmod_eq_emod_of_nonneg (by omega),BitVec.toNat_umod,Int.natCast_emod]
   rw [e1,e2,q8c]
theorem q9x {k:Nat} (hk:80<=k) {wide:Int} (hw:isW wide = true) (left:Bool):∀ (n j:Nat) (a:W),j < n->j<=64->a<=mk wide->z33 k n wide (wi a) (j:Int) left = r296 (wi (if left then (a <<< j) &&& mk wide else a >>> j))
 | 0,j,a,h,hj,ha=>by omega
 | n + 1,j,a,h,hj,ha=>by
  rw [w09]
  cases j with
  | zero =>
   have hd:decide (((0:Nat):Int) > 0) = false:=by simp
   rw [hd]
   simp only [cond_false]
   congr 2
   cases left
   ·simp
   ·simp [q4n hw ha]
  | succ j =>
   have hd:decide (((j + 1:Nat):Int) > 0) = true:=by (simp;try omega)
   rw [hd,q4m (by omega) (by omega),show ((j + 1:Nat):Int) - 1 = (j:Int) by omega]
   simp only [cond_true]
   cases left
   ·simp only [cond_false,Bool.false_eq_true,if_false]
    rw [z3v _ (by omega)]
    have e1:(1:Int).toNat = 1:=rfl
    rw [e1]
    have hle:a >>> 1<=mk wide:=by
     refine BitVec.le_trans ?_ ha
     rw [BitVec.le_def,BitVec.toNat_ushiftRight,Nat.shiftRight_eq_div_pow]
     exact Nat.div_le_self _ _
    rw [q9x hk hw false n j (a >>> 1) (by omega) (by omega) hle]
    simp only [Bool.false_eq_true,if_false]
    congr 2
    rw [<- BitVec.shiftRight_add,Nat.add_comm]
   ·simp only [cond_true,if_true]
    rw [y0o _ (by omega)]
    have e1:(1:Int).toNat = 1:=rfl
    rw [e1,z0n (by omega) hw]
    simp only [q7e]
    rw [q9x hk hw true n j _ (by omega) (by omega) (q7m _ _)]
    simp only [if_true]
    rw [x7r hw]
theorem x6 {k:Nat} (hk:100<=k) {wide:Int} (hw:isW wide = true) (a b:W) (left:Bool) (ha:a<=mk wide):c296 k wide (wi a) (wi b) left = r296 (wi (shW wide a b left &&& mk wide)):=by
 obtain ⟨k,rfl⟩:∃ j,k = j + 1:=⟨k - 1,by omega⟩
 have h':=q14.1 hw
 rw [n296,q4m (by omega) (by omega)]
 unfold shW
 by_cases h1:wide<=wi b
 ·have:decide (wi b>=wide) = true:=by simpa using h1
  rw [this,if_pos h1]
  simp only [cond_true]
  have e:(0#64:W) &&& mk wide = 0#64:=by simp
  rw [e]
  rfl
 ·have h2:decide (wi b>=wide) = false:=by simpa using h1
  rw [h2,if_neg h1]
  simp only [cond_false]
  have hb:b.toNat<=64:=by unfold wi at h1;omega
  have:=q9x (k:=k) (by omega) hw left k b.toNat a (by omega) hb ha
  have e:wi b = (b.toNat:Int):=rfl
  rw [e,this]
  congr 2
  cases left
  ·simp only [Bool.false_eq_true,if_false]
   refine (q4n hw (BitVec.le_trans ?_ ha)).symm
   rw [BitVec.le_def,BitVec.toNat_ushiftRight,Nat.shiftRight_eq_div_pow]
   exact Nat.div_le_self _ _
  ·simp only [if_true]
   rw [x6n hw]
theorem y04 {k:Nat} (hk:100<=k) {wide:Int} (hw:isW wide = true) (a:W) (ha:a<=mk wide):c298 k wide (wi a) = r298 (sg wide a):=by
 obtain ⟨k,rfl⟩:∃ j,k = j + 1:=⟨k - 1,by omega⟩
 have h':=q14.1 hw
 have hlt:=z5h hw ha
 rw [n298,q0b (n:=wide - 1) (by omega) (by omega),q4m (n:=wide - 1) (by omega) (by omega)]
 have h3:decide (wide - 1 < 0) = false:=by simp;omega
 rw [h3]
 simp only [Bool.not_false,cond_true]
 have e1:(1:Int) = wi 1#64:=rfl
 have e2:(18446744073709551615:Int) = wi (BitVec.allOnes 64):=rfl
 have e3:(wide - wi 1#64).toNat = wide.toNat - 1:=by
  have:wi 1#64 = 1:=rfl
  omega
 rw [e1,z3v _ (by rw [<- e1];omega),q7b,q3y,e3,w1b hw ha]
 unfold sg
 by_cases h:a.toNat < 2 ^ (wide.toNat - 1)
 ·simp only [h,decide_true,Bool.not_true,cond_false,if_true]
  have hp:2 ^ (wide.toNat - 1)<=2 ^ 63:=Nat.pow_le_pow_right (by omega) (by omega)
  have e4:wi a = (a.toNat:Int):=rfl
  rw [e4,q0b (by omega) (by omega)]
 ·simp only [h,decide_false,Bool.not_false,cond_true,if_false]
  rw [e2,z0n (by omega) hw]
  simp only [q7e]
  rw [BitVec.allOnes_and,z3i,BitVec.allOnes_xor,y5k]
  have e4:wi (a ||| ~~~mk wide) = ((a.toNat + (18446744073709551616 - 2 ^ wide.toNat):Nat):Int):=by unfold wi;rw [w6o hw ha]
  have hp:2 ^ wide.toNat<=2 ^ 64:=Nat.pow_le_pow_right (by omega) (by omega)
  have hp2:2 ^ wide.toNat = 2 * 2 ^ (wide.toNat - 1):=by
   obtain ⟨w,rfl,hw63,e5,e6⟩:=z4d hw
   rw [e6,e5,Nat.pow_succ,Nat.mul_comm]
  have hp3:2 ^ (wide.toNat - 1)<=2 ^ 63:=Nat.pow_le_pow_right (by omega) (by omega)
  have hpc:(2:Int) ^ wide.toNat = ((2 ^ wide.toNat:Nat):Int):=by simp
  rw [e4,x0q (by omega) (by omega),hpc]
  congr 1
  omega
theorem x8j {k:Nat} (hk:1<=k) (b:Bool):c297 k b = r297 (wi (tr b)):=by
 obtain ⟨k,rfl⟩:∃ j,k = j + 1:=⟨k - 1,by omega⟩
 rw [n297]
 cases b <;> rfl
theorem z9g {wide:Int} (hw:isW wide = true) (b:Bool):tr b &&& mk wide = tr b:=by
 refine q4n hw (BitVec.le_trans (x88 b) ?_)
 have h1:=z8 hw
 have h':=q14.1 hw
 have:2 ^ 1<=2 ^ wide.toNat:=Nat.pow_le_pow_right (by omega) (by omega)
 have h2:(1#64).toNat = 1:=rfl
 rw [BitVec.le_def]
 omega
theorem w1d {wide:Int} (hw:isW wide = true) {a b:W} (ha:a<=mk wide) (hb:b<=mk wide):(divW wide a b).1<=mk wide /\ (divW wide a b).2<=mk wide:=by
 unfold divW
 split
 ·split
  ·exact ⟨BitVec.le_refl _,ha⟩
  ·refine ⟨BitVec.le_trans ?_ ha,BitVec.le_trans ?_ ha⟩
   ·rw [BitVec.le_def,BitVec.toNat_udiv];exact Nat.div_le_self _ _
   ·rw [BitVec.le_def,BitVec.toNat_umod];exact Nat.mod_le _ _
 ·exact ⟨by rw [BitVec.le_def];exact Nat.zero_le _,by rw [BitVec.le_def];exact Nat.zero_le _⟩
theorem x9s {k:Nat} (hk:200<=k) {wide:Int} (hw:isW wide = true) (op:Int) (a b:W) (ha:a<=mk wide) (hb:b<=mk wide):c277 k wide op (wi a) (wi b) = r277 (wi (apW wide op a b)):=by
 obtain ⟨k,rfl⟩:∃ j,k = j + 1:=⟨k - 1,by omega⟩
 rw [n277]
 have hd:=w04 (k:=k) (by omega) hw a b
 have hcut:=fun x:W=>z0n (k:=k) (by omega) hw x
 have hs:=fun l=>x6 (k:=k) (by omega) hw a b l ha
 have ht:=fun x=>x8j (k:=k) (by omega) x
 have hga:=y04 (k:=k) (by omega) hw a ha
 have hgb:=y04 (k:=k) (by omega) hw b hb
 obtain ⟨hd1,hd2⟩:=w1d hw ha hb
 simp only [hd,hs,ht,hga,hgb,w2u,w5o,w4p,w5t,x5f,z92,x54,q7b,y5k,z3i,q3y,y3s,hcut,q7e]
 unfold apW z5k
 have q:∀ {c d:Int},c ≠ d->(c == d) = false:=fun h=>by simpa using h
 by_cases h1:op = 3
 · subst h1;rfl
 by_cases h2:op = 4
 · subst h2;rfl
 by_cases h3:op = 5
 · subst h3;rfl
 by_cases h4:op = 6
 · subst h4;show r277 _ = r277 (wi ((divW wide a b).1 &&& mk wide));rw [q4n hw hd1]
 by_cases h5:op = 7
 · subst h5;show r277 _ = r277 (wi ((divW wide a b).2 &&& mk wide));rw [q4n hw hd2]
 by_cases h6:op = 8
 · subst h6;show r277 _ = r277 (wi ((a &&& b) &&& mk wide));rw [q4n hw (BitVec.le_trans (q9f a b) ha)]
 by_cases h7:op = 17
 · subst h7;show r277 _ = r277 (wi ((a &&& b) &&& mk wide));rw [q4n hw (BitVec.le_trans (q9f a b) ha)]
 by_cases h8:op = 9
 · subst h8;show r277 _ = r277 (wi ((a ||| b) &&& mk wide));rw [x5v hw ha hb]
 by_cases h9:op = 18
 · subst h9;show r277 _ = r277 (wi ((a ||| b) &&& mk wide));rw [x5v hw ha hb]
 by_cases h10:op = 10
 · subst h10;show r277 _ = r277 (wi ((a ^^^ b) &&& mk wide));rw [x94 hw ha hb]
 by_cases h11:op = 11
 · subst h11;rfl
 by_cases h12:op = 12
 · subst h12;rfl
 by_cases h13:op = 14
 · subst h13;show r277 _ = r277 (wi (tr (a == b) &&& mk wide));rw [z9g hw]
 by_cases h14:op = 15
 · subst h14;show r277 _ = r277 (wi (tr (decide (a < b)) &&& mk wide));rw [z9g hw]
 by_cases h15:op = 16
 · subst h15;show r277 _ = r277 (wi (tr (decide (sgn wide a < sgn wide b)) &&& mk wide));rw [z9g hw,x4h hw ha,x4h hw hb]
 simp only [q h1,q h2,q h3,q h4,q h5,q h6,q h7,q h8,q h9,q h10,q h11,q h12,q h13,q h14,q h15,cond_false,h1,h2,h3,h4,h5,h6,h7,h8,h9,h10,h11,h12,h13,h14,h15,if_false]
 have e:(0#64:W) &&& mk wide = 0#64:=by simp
 rw [e]
 rfl
theorem y7m {wide vars:Int}:∀ {t:List Nd} {st st':List Int},kst wide vars t st = some st'->∀ x ∈ t,(need x.1).2.2 ≠ 0
 | [],st,st',h=>by simp
 | x :: t,st,st',h=>by
  simp only [kst] at h
  split at h
  ·cases h
  ·rename_i h0
   split at h
   ·cases h
   ·split at h
    ·cases h
    ·split at h
     ·cases h
     ·intro y hy
      rcases List.mem_cons.1 hy with rfl | hy
      ·exact h0
      ·exact y7m h y hy
theorem x3b {op:Int} (h:(need op).2.2 ≠ 0):((op = 1 ∨ op = 20) /\ (need op).1 = 0) ∨ (op = 2 /\ (need op).1 = 0) ∨ ((op = 13 ∨ op = 19) /\ (need op).1 = 1) ∨ (op ≠ 1 /\ op ≠ 20 /\ op ≠ 2 /\ op ≠ 13 /\ op ≠ 19 /\ (need op).1 = 2):=by
 by_cases h1:op = 1
 ·subst h1;exact .inl ⟨.inl rfl,rfl⟩
 by_cases h20:op = 20
 ·subst h20;exact .inl ⟨.inr rfl,by decide⟩
 by_cases h2:op = 2
 ·subst h2;exact .inr (.inl ⟨rfl,by decide⟩)
 by_cases h13:op = 13
 ·subst h13;exact .inr (.inr (.inl ⟨.inl rfl,by decide⟩))
 by_cases h19:op = 19
 ·subst h19;exact .inr (.inr (.inl ⟨.inr rfl,by decide⟩))
 refine .inr (.inr (.inr ⟨h1,h20,h2,h13,h19,?_⟩))
 unfold need at h ⊢
 rw [if_neg (by omega),if_neg h20,if_neg h13,if_neg h19] at h ⊢
 split
 ·rfl
 ·split
  ·rfl
  ·split
   ·rfl
   ·rename_i b1 b2 b3
    rw [if_neg b1,if_neg b2,if_neg b3] at h
    exact absurd rfl h
theorem Fit.le {wide:Int} (hw:isW wide = true) {ks:List Int} {vs:List W} (h:Fit wide ks vs):∀ v ∈ vs,v<=mk wide:=by
 induction h with
 | nil=>simp
 | cons ho _ ih =>
  intro v hv
  rcases List.mem_cons.1 hv with rfl | hv
  ·rcases ho with ho | ho
   ·exact ho.2
   ·refine BitVec.le_trans ho.2 ?_
    exact x4p hw (by
     have:=z9g hw true
     simpa [tr] using this)
  ·exact ih v hv
theorem y92 {wide vars:Int} {t:List Nd} (h:q1a wide vars t = true) {s:List W} (hs:(s.length:Int) = vars) (hg:∀ a ∈ s,a<=mk wide):(∀ x ∈ t,(need x.1).2.2 ≠ 0) /\ ∀ (j:Nat) (us:List W),vrun wide s (t.take j) [] = some us->∀ u ∈ us,u<=mk wide:=by
 obtain ⟨hsz,c,hk,hc⟩:=q37.1 h
 have hw:isW wide = true:=by simp only [q4j,Bool.and_eq_true] at hsz;exact hsz.1.1.1
 have hv:isV vars = true:=by simp only [q4j,Bool.and_eq_true] at hsz;exact hsz.1.1.2
 refine ⟨y7m hk,fun j us hus=>?_⟩
 rw [<- List.take_append_drop j t,y2x] at hk
 obtain ⟨ks,h1,h2⟩:=Option.bind_eq_some_iff.1 hk
 obtain ⟨vs',h3,hf⟩:=q6l hw hv hs hg h1 .nil
 rw [hus] at h3
 injection h3 with h3
 subst h3
 exact hf.le hw
theorem z5e {wide vars:Int} {t:List Nd} (hgt:q1a wide vars t = true) {s:List W} (hs:(s.length:Int) = vars) (hg:∀ a ∈ s,a<=mk wide) (ht:t.length<=100) (hw:isW wide = true) (hv:isV vars = true):∀ (m j:Nat),j < m->j < t.length->∀ (v:W) (vs:List W),vrun wide s (t.take (j + 1)) [] = some (v :: vs) ->
  ∃ f,f<=j /\ vrun wide s (t.take f) [] = some vs /\ (∀ k,300 + j<=k->c278 k (encT t) (j:Int) = r278 (f:Int)) /\ ∀ k,300 + 2 * j<=k->c244 k wide (encT t) (j:Int) (encW s) = r244 (wi v)
 | 0,j,h,hj,v,vs,hr=>by omega
 | m + 1,j,h,hj,v,vs,hr=>by
  obtain ⟨hne,hle⟩:=y92 hgt hs hg
  have hv':=q8a.1 hv
  have htk:t.take (j + 1) = t.take j ++ [t[j]]:=List.take_succ_eq_append_getElem hj
  rw [htk,q5r] at hr
  obtain ⟨us,hu,hr⟩:=Option.bind_eq_some_iff.1 hr
  have hx:=hne t[j] (List.getElem_mem hj)
  have from_ok:∀ k,300 + j<=k->c278 k (encT t) (j:Int) = q9b (k - 1) (k - 1) (encT t) ((need t[j].1).1:Nat) (j:Int):=by
   intro k hk
   obtain ⟨k,rfl⟩:∃ i,k = i + 1:=⟨k - 1,by omega⟩
   rw [n278,q4l hj]
   simp only [Option.bind_some,q2x]
   rw [q6t (by omega)]
   simp only [z0g,Nat.add_sub_cancel]
  have from0:∀ (k n:Nat) (f:Int),1<=n->q9b k n (encT t) ((0:Nat):Int) f = r278 f:=by
   intro k n f hn
   obtain ⟨n,rfl⟩:∃ i,n = i + 1:=⟨n - 1,by omega⟩
   rw [x0i]
   rfl
  have fromS:∀ (k n a f f2:Nat),1<=n->1<=f->f<=1000->a<=5->c278 k (encT t) ((f - 1:Nat):Int) = r278 (f2:Int)->q9b k n (encT t) ((a + 1:Nat):Int) (f:Int) = q9b k (n - 1) (encT t) (a:Int) (f2:Int):=by
   intro k n a f f2 hn hf hf2 ha hc
   obtain ⟨n,rfl⟩:∃ i,n = i + 1:=⟨n - 1,by omega⟩
   rw [x0i]
   have hd:decide (((a + 1:Nat):Int) > 0) = true:=by (simp;try omega)
   rw [hd,q0b (n:=(f:Int) - 1) (by omega) (by omega),show (f:Int) - 1 = ((f - 1:Nat):Int) by omega,hc]
   simp only [cond_true,x5p]
   rw [q0b (by omega) (by omega),show ((a + 1:Nat):Int) - 1 = (a:Int) by omega]
   rfl
  have val_ok:∀ k,c244 (k + 1) wide (encT t) (j:Int) (encW s) = _:=fun k=>n244 k wide (encT t) (j:Int) (encW s)
  rcases x3b hx with ⟨h1,hn⟩ | ⟨h1,hn⟩ | ⟨h1,hn⟩ | ⟨h1,h20,h2,h13,h19,hn⟩
  ·simp only [vrun] at hr
   rw [if_pos h1] at hr
   injection hr with hr
   injection hr with e1 e2
   subst e2
   refine ⟨j,by omega,hu,fun k hk=>?_,fun k hk=>?_⟩
   ·rw [from_ok k hk,hn]
    exact from0 _ _ _ (by omega)
   ·obtain ⟨k,rfl⟩:∃ i,k = i + 1:=⟨k - 1,by omega⟩
    have h2':(t[j].1 == 2) = false:=by rcases h1 with h | h <;> simp [h]
    have h0':((((need t[j].1).1:Nat):Int) == 0) = true:=by simp [hn]
    rw [n244,q4l hj]
    simp only [Option.bind_some,q29,q2x,q4y,cond_true]
    rw [q6t (by omega)]
    simp only [z0g,h2',h0',cond_false,cond_true,e1]
  ·simp only [vrun] at hr
   rw [if_neg (by omega),if_pos h1] at hr
   obtain ⟨a,ha,hr⟩:=Option.bind_eq_some_iff.1 hr
   injection hr with hr
   injection hr with e1 e2
   subst e2
   refine ⟨j,by omega,hu,fun k hk=>?_,fun k hk=>?_⟩
   ·rw [from_ok k hk,hn]
    exact from0 _ _ _ (by omega)
   ·obtain ⟨k,rfl⟩:∃ i,k = i + 1:=⟨k - 1,by omega⟩
    have h2':(t[j].1 == 2) = true:=by simpa using h1
    have e4:(wi t[j].2).toNat = t[j].2.toNat:=by simp [wi]
    rw [n244,q4l hj]
    simp only [Option.bind_some,q29,q2x,q4y,cond_true]
    rw [q6t (by omega)]
    simp only [z0g,h2',cond_true]
    rw [q48 (q36 _),q47,e4,ha]
    simp only [Option.map_some,Option.bind_some,q0k,e1]
  ·have hus:∃ a,us = a :: vs /\ ((t[j].1 = 13 /\ v = (~~~a &&& mk wide)) ∨ (t[j].1 = 19 /\ v = (1#64 - a))):=by
    simp only [vrun] at hr
    rw [if_neg (by omega),if_neg (by omega)] at hr
    rcases h1 with h1 | h1
    ·rw [if_pos h1] at hr
     cases us with
     | nil=>cases hr
     | cons a r =>
      injection hr with hr
      injection hr with e1 e2
      exact ⟨a,by rw [e2],.inl ⟨h1,e1.symm⟩⟩
    ·rw [if_neg (by omega),if_pos h1] at hr
     cases us with
     | nil=>cases hr
     | cons a r =>
      injection hr with hr
      injection hr with e1 e2
      exact ⟨a,by rw [e2],.inr ⟨h1,e1.symm⟩⟩
   obtain ⟨a,rfl,hva⟩:=hus
   have hj0:1<=j:=by
    cases j with
    | zero=>simp [vrun] at hu
    | succ j=>omega
   have hjj:j - 1 + 1 = j:=by omega
   obtain ⟨f,hf1,hf2,hf3,hf4⟩:=z5e hgt hs hg ht hw hv m (j - 1) (by omega) (by omega) a vs (by rw [hjj];exact hu)
   refine ⟨f,by omega,hf2,fun k hk=>?_,fun k hk=>?_⟩
   ·rw [from_ok k hk,hn,fromS (k - 1) (k - 1) 0 j f (by omega) hj0 (by omega) (by omega) (hf3 (k - 1) (by omega))]
    exact from0 _ _ _ (by omega)
   ·obtain ⟨k,rfl⟩:∃ i,k = i + 1:=⟨k - 1,by omega⟩
    have h2':(t[j].1 == 2) = false:=by rcases h1 with h | h <;> simp [h]
    have h0':((((need t[j].1).1:Nat):Int) == 0) = false:=by simp [hn]
    rw [n244,q4l hj]
    simp only [Option.bind_some,q29,q2x,q4y,cond_true]
    rw [q6t (by omega),q0b (n:=(j:Int) - 1) (by omega) (by omega),show (j:Int) - 1 = ((j - 1:Nat):Int) by omega,hf4 k (by omega)]
    simp only [z0g,h2',h0',cond_false,z37]
    rcases hva with ⟨h13,rfl⟩ | ⟨h19,rfl⟩
    ·have e13:(t[j].1 == 13) = true:=by simpa using h13
     have e2:(18446744073709551615:Int) = wi (BitVec.allOnes 64):=rfl
     rw [e13,e2,z3i,z0n (by omega) hw,BitVec.allOnes_xor]
     simp only [cond_true,q7e]
    ·have e13:(t[j].1 == 13) = false:=by simp [h19]
     have e19:(t[j].1 == 19) = true:=by simpa using h19
     have e1:(1:Int) = wi 1#64:=rfl
     rw [e13,e19,e1,z92]
     simp only [cond_true,cond_false]
  ·have hus:∃ b a,us = b :: a :: vs /\ v = apW wide t[j].1 a b:=by
    simp only [vrun] at hr
    rw [if_neg (by omega),if_neg h2,if_neg h13,if_neg h19] at hr
    rcases us with _ | ⟨b,_ | ⟨a,r⟩⟩
    ·cases hr
    ·cases hr
    ·injection hr with hr
     injection hr with e1 e2
     exact ⟨b,a,by rw [e2],e1.symm⟩
   obtain ⟨b,a,rfl,rfl⟩:=hus
   have hj0:1<=j:=by
    cases j with
    | zero=>simp [vrun] at hu
    | succ j=>omega
   have hjj:j - 1 + 1 = j:=by omega
   obtain ⟨f,hf1,hf2,hf3,hf4⟩:=z5e hgt hs hg ht hw hv m (j - 1) (by omega) (by omega) b (a :: vs) (by rw [hjj];exact hu)
   have hf0:1<=f:=by
    cases f with
    | zero=>simp [vrun] at hf2
    | succ f=>omega
   have hff:f - 1 + 1 = f:=by omega
   obtain ⟨g,hg1,hg2,hg3,hg4⟩:=z5e hgt hs hg ht hw hv m (f - 1) (by omega) (by omega) a vs (by rw [hff];exact hf2)
   have hbm:=hle j _ hu b (by simp)
   have ham:=hle j _ hu a (by simp)
   refine ⟨g,by omega,hg2,fun k hk=>?_,fun k hk=>?_⟩
   ·rw [from_ok k hk,hn,fromS (k - 1) (k - 1) 1 j f (by omega) hj0 (by omega) (by omega) (hf3 (k - 1) (by omega)),fromS (k - 1) (k - 1 - 1) 0 f g (by omega) hf0 (by omega) (by omega) (hg3 (k - 1) (by omega))]
    exact from0 _ _ _ (by omega)
   ·obtain ⟨k,rfl⟩:∃ i,k = i + 1:=⟨k - 1,by omega⟩
    have e2:(t[j].1 == 2) = false:=by simpa using h2
    have e13:(t[j].1 == 13) = false:=by simpa using h13
    have e19:(t[j].1 == 19) = false:=by simpa using h19
    have h0':((((need t[j].1).1:Nat):Int) == 0) = false:=by simp [hn]
    rw [n244,q4l hj]
    simp only [Option.bind_some,q29,q2x,q4y,cond_true]
    rw [q6t (by omega),q0b (n:=(j:Int) - 1) (by omega) (by omega),show (j:Int) - 1 = ((j - 1:Nat):Int) by omega,hf4 k (by omega),hf3 k (by omega)]
    simp only [z0g,e2,h0',e13,e19,cond_false,z37,x5p]
    rw [q0b (n:=(f:Int) - 1) (by omega) (by omega),show (f:Int) - 1 = ((f - 1:Nat):Int) by omega,hg4 k (by omega)]
    simp only [z37]
    rw [x9s (by omega) hw _ a b ham hbm]
    simp only [w49]
theorem z83 {k:Nat} (hk:600<=k) {wide vars:Int} {t:List Nd} (hgt:q1a wide vars t = true) {s:List W} (hs:(s.length:Int) = vars) (hg:∀ a ∈ s,a<=mk wide) (ht:t.length<=100) {v:W} (hv:vrun wide s t [] = some [v]) :
  c244 k wide (encT t) (IntKind.i64.wrap ((t.length:Int) - 1)) (encW s) = r244 (wi v):=by
 have hsz:=(q37.1 hgt).1
 simp only [q4j,Bool.and_eq_true,decide_eq_true_eq] at hsz
 have hl:=hsz.1.2
 obtain ⟨f,_,_,_,h4⟩:=z5e hgt hs hg ht hsz.1.1.1 hsz.1.1.2 (t.length + 1) (t.length - 1) (by omega) (by omega) v [] (by rw [show t.length - 1 + 1 = t.length by omega,List.take_length];exact hv)
 rw [q0b (by omega) (by omega),show (t.length:Int) - 1 = ((t.length - 1:Nat):Int) by omega]
 exact h4 k (by omega)
end Go.Proofs.YtgdegfijcijnoaaGreat
/- FnPlayed: commands that are played. -/
namespace Go.Proofs.YtgdegfijcijnoaaGreat
open Go.Dp
def q2a (l:List Bool):List PV:=l.map PV.bool
theorem x3y (l:List Bool) (i:Nat):(q2a l)[i]? = (l[i]?).map PV.bool:=by simp [q2a]
theorem x6l {p:Prg} (hg:q1w p = true):kindT p.wide p.vars p.start = 2 /\ ∀ c ∈ p.cmds,kindT p.wide p.vars c.wh = 2:=by
 simp only [q1w,Bool.and_eq_true,List.all_eq_true,beq_iff_eq] at hg
 refine ⟨hg.1.1.1,fun c hc=>?_⟩
 have:=hg.2 c hc
 simp only [q3g,Bool.and_eq_true,beq_iff_eq] at this
 exact this.1
theorem x5n {p:Prg} (hp:FitP p) {s:List W} (hs:stOK p s = true):s.length<=5:=by
 simp only [stOK,Bool.and_eq_true,decide_eq_true_eq] at hs
 have:=hp.v
 omega
def q6 (p:Prg) (t:List Nd) (s:List W):Bool:=valD p.wide s t == 1#64
theorem z3p {k:Nat} (hk:1000010<=k) (p:Prg) (hg:q1w p = true) (l1 l2:List PV) (t:List Nd) (ht:t.length<=100) (hkt:kindT p.wide p.vars t = 2) (s:List W) (hs:stOK p s = true):c69 k p.wide p.vars l1 l2 (encT t) (encW s) = r69 (q6 p t s):=by
 obtain ⟨k,rfl⟩:∃ j,k = j + 1:=⟨k - 1,by omega⟩
 obtain ⟨hw,hv⟩:=q4g hg
 obtain ⟨h1,h2⟩:=(q4q hw).1 hs
 obtain ⟨hval,_⟩:=q5u hkt (by omega) h1 h2
 rw [n69,q7o (by omega) hw s _ (by omega) hval]
 simp only [y08]
 have e:(1:Int) = wi 1#64:=rfl
 rw [e,q3y]
 rfl
theorem y4e {k:Nat} (hk:1000010<=k) (p:Prg) (hg:q1w p = true) (l1 l2:List PV) (t:List Nd) (ht:t.length<=100) (hkt:kindT p.wide p.vars t = 2) (s:List W) (hs:stOK p s = true):c194 k p.wide p.vars l1 l2 (encT t) (encW s) = r194 (q6 p t s):=by
 obtain ⟨k,rfl⟩:∃ j,k = j + 1:=⟨k - 1,by omega⟩
 obtain ⟨hw,hv⟩:=q4g hg
 obtain ⟨h1,h2⟩:=(q4q hw).1 hs
 obtain ⟨hval,_⟩:=q5u hkt (by omega) h1 h2
 rw [n194,q06,z83 (by omega) (q34 (by omega)) h1 h2 ht hval]
 simp only [z37]
 have e:(1:Int) = wi 1#64:=rfl
 rw [e,q3y]
 rfl
def enL (p:Prg) (s:List W):Nat->List Cmd->List Int
 | _,[]=>[]
 | i,c :: l=>(bif q6 p c.wh s then [(i:Int)] else []) ++ enL p s (i + 1) l
theorem x1s (p:Prg) (s:List W):∀ (l:List Cmd) (i:Nat) (v:Int),v ∈ enL p s i l ↔ ∃ j c,l[j]? = some c /\ q6 p c.wh s = true /\ v = ((i + j:Nat):Int)
 | [],i,v=>by simp [enL]
 | c :: l,i,v=>by
  simp only [enL,List.mem_append,x1s p s l (i + 1) v]
  constructor
  ·rintro (h | ⟨j,c',h1,h2,h3⟩)
   ·cases hh:q6 p c.wh s
    ·rw [hh] at h;simp at h
    ·rw [hh] at h
     simp at h
     exact ⟨0,c,rfl,hh,by simp [h]⟩
   ·exact ⟨j + 1,c',by simpa using h1,h2,by rw [h3];omega⟩
  ·rintro ⟨j,c',h1,h2,h3⟩
   cases j with
   | zero =>
    simp at h1
    subst h1
    left
    rw [h2,h3]
    simp
   | succ j=>exact .inr ⟨j,c',by simpa using h1,h2,by rw [h3];omega⟩
theorem q7g {k:Nat} (hk:1000010<=k) (p:Prg) (hp:FitP p) (hg:q1w p = true) (s:List W) (hs:stOK p s = true) (l1 l2:List PV):∀ (n i:Nat) (o:List Int),p.cmds.length - i < n->i<=p.cmds.length->o.length<=i ->
  z0y k n (encW s) o.length (q0c p.cmds) (p.cmds.length:Int) (i:Int) p.wide p.vars l1 l2 (encZ o) = r231 (encZ (o ++ enL p s i (p.cmds.drop i)))
 | 0,i,o,h,hi,ho=>by omega
 | n + 1,i,o,h,hi,ho=>by
  have hcm:=hp.cm
  rw [w13]
  have e1:(encZ o).take o.length = encZ o:=by rw [List.take_of_length_le (by simp)]
  rw [e1]
  by_cases hlt:i < p.cmds.length
  ·have hd:decide ((i:Int) < (p.cmds.length:Int)) = true:=by simpa using hlt
   have hm:=List.getElem_mem hlt
   rw [hd,q0o,q2i,List.getElem?_eq_getElem hlt,q0f hlt]
   simp only [cond_true,Option.map_some,Option.bind_some,q5w,q6u,q3v]
   rw [y4e (by omega) p hg _ _ _ (hp.c _ hm).wh ((x6l hg).2 _ hm) s hs]
   simp only [x5y,enL]
   rw [q0b (by omega) (by omega)]
   cases q6 p p.cmds[i].wh s
   ·simp only [cond_false,List.nil_append]
    exact q7g hk p hp hg s hs l1 l2 n (i + 1) o (by omega) (by omega) (by omega)
   ·simp only [cond_true]
    rw [q0r (by omega) (by omega),q1i]
    have e2:o.length + 1 = (o ++ [(i:Int)]).length:=by simp
    simp only [cond_true]
    rw [e2,<- List.append_assoc]
    exact q7g hk p hp hg s hs l1 l2 n (i + 1) _ (by omega) (by omega) (by simp;omega)
  ·have hd:decide ((i:Int) < (p.cmds.length:Int)) = false:=by simpa using hlt
   rw [hd,List.drop_eq_nil_of_le (by omega)]
   simp [enL]
theorem x1i {k:Nat} (hk:1000000<=k) (p:Prg) (hw:isW p.wide = true) (l1 l2:List PV) (s:List W) (hs:(s.length:Int) = p.vars) (hg:∀ a ∈ s,a<=mk p.wide) (ch:List Chg) (hl:ch.length<=100) (hx:∀ x ∈ ch,0<=x.v /\ x.v < p.vars /\ kindT p.wide p.vars x.by1 = 1 /\ x.by1.length<=100):∀ (n i:Nat) (o:List W),ch.length - i < n->i<=ch.length->o.length = s.length ->
  y1t k n (encW s) o.length (q0y ch) (ch.length:Int) (i:Int) p.wide p.vars l1 l2 (encW o) = r233 (encW (q01 p.wide s (ch.drop i) o))
 | 0,i,o,h,hi,ho=>by omega
 | n + 1,i,o,h,hi,ho=>by
  rw [x9w]
  by_cases hlt:i < ch.length
  ·have hd:decide ((i:Int) < (ch.length:Int)) = true:=by simpa using hlt
   have hxi:=hx _ (List.getElem_mem hlt)
   obtain ⟨hv,_⟩:=q5u hxi.2.2.1 (by omega) hs hg
   rw [hd,q0o,q3p,List.getElem?_eq_getElem hlt,q0f hlt]
   simp only [cond_true,Option.map_some,Option.bind_some,q52,q5x,q6v,q06]
   rw [z83 (by omega) (q34 (by omega)) hs hg hxi.2.2.2 hv]
   simp only [z37]
   have hin:(decide ((0:Int)<=ch[i].v) && decide (ch[i].v < (o.length:Int))) = true:=by simp;omega
   have hget:(encW o)[0 + ch[i].v.toNat]? = some (PV.int .u64 (wi (o[ch[i].v.toNat]'(by omega)))):=by rw [Nat.zero_add,q47,List.getElem?_eq_getElem (by omega)];rfl
   rw [hin,hget]
   simp only [cond_true,Option.bind_some,Nat.zero_add]
   have hset:(encW o).set ch[i].v.toNat (PV.int .u64 (wi (valD p.wide s ch[i].by1))) = encW (o.set ch[i].v.toNat (valD p.wide s ch[i].by1)):=by simp [encW,List.map_set]
   rw [hset,q0b (by omega) (by omega)]
   have:=x1i hk p hw l1 l2 s hs hg ch hl hx n (i + 1) (o.set ch[i].v.toNat (valD p.wide s ch[i].by1)) (by omega) (by omega) (by simpa using ho)
   rw [List.length_set] at this
   exact this
  ·have hd:decide ((i:Int) < (ch.length:Int)) = false:=by simpa using hlt
   rw [hd,List.drop_eq_nil_of_le (by omega)]
   have e1:(encW o).take o.length = encW o:=by rw [List.take_of_length_le (by simp)]
   simp only [cond_false,e1]
   rfl
end Go.Proofs.YtgdegfijcijnoaaGreat
/- FnNumbered: states of drawn small programs and their numbers correspond. -/
namespace Go.Proofs.YtgdegfijcijnoaaGreat
open Go.Dp
def pw (p:Prg):Nat:=p.wide.toNat
def pv (p:Prg):Nat:=p.vars.toNat
theorem q2w {p:Prg} (h:q0j p = true):p.wide = (pw p:Int) /\ p.vars = (pv p:Int) /\ 1<=pw p /\ 1<=pv p /\ pv p<=4 /\ pw p * pv p<=5 /\ pw p<=5:=by
 obtain ⟨w,v,h1,h2,h3,h4,h5,h6,h7⟩:=x5a h
 have e1:pw p = w:=by unfold pw;omega
 have e2:pv p = v:=by unfold pv;omega
 rw [e1,e2]
 refine ⟨h1,h2,h3,h4,h5,h6,?_⟩
 have:w * 1<=w * v:=Nat.mul_le_mul_left _ h4
 omega
theorem z7m {p:Prg} (h:q0j p = true) {s:List W} (hs:stOK p s = true):s.length = pv p /\ ∀ a ∈ s,a.toNat < 2 ^ pw p:=by
 obtain ⟨h1,h2,h3,h4,h5,h6,h7⟩:=q2w h
 simp only [stOK,Bool.and_eq_true,decide_eq_true_eq,List.all_eq_true] at hs
 refine ⟨by omega,fun a ha=>?_⟩
 have:=hs.2 a ha
 rw [h1] at this
 exact x78 (by omega) this
def noOK (p:Prg) (no:Int):Bool:=q0j p && decide (0<=no) && decide (no < ((2 ^ (pw p * pv p):Nat):Int))
theorem x3w {p:Prg} {no:Int} (h:noOK p no = true):q0j p = true /\ stOK p (digs (pw p) (pv p) no.toNat) = true /\ (noOf (pw p) (digs (pw p) (pv p) no.toNat):Int) = no:=by
 simp only [noOK,Bool.and_eq_true,decide_eq_true_eq] at h
 obtain ⟨⟨h1,h2⟩,h3⟩:=h
 obtain ⟨h4,h5,h6,h7,h8,h9,h10⟩:=q2w h1
 refine ⟨h1,?_,?_⟩
 ·simp only [stOK,Bool.and_eq_true,decide_eq_true_eq,List.all_eq_true]
  refine ⟨by rw [q3w,h5],fun a ha=>?_⟩
  have:=x1g (w:=pw p) (by omega) a ha
  rw [h4]
  exact x73 h6 (by omega) this
 ·rw [y25 (by omega) (by omega)]
  omega
theorem x53 {p:Prg} {s:List W} (h1:q0j p = true) (h2:stOK p s = true):noOK p (noOf (pw p) s:Int) = true /\ digs (pw p) (pv p) (noOf (pw p) s:Int).toNat = s:=by
 obtain ⟨h3,h4⟩:=z7m h1 h2
 refine ⟨?_,?_⟩
 ·simp only [noOK,h1,Bool.true_and,Bool.and_eq_true,decide_eq_true_eq]
  have:=z5i h4
  rw [h3] at this
  exact ⟨Int.natCast_nonneg _,by omega⟩
 ·rw [Int.toNat_natCast,<- h3]
  exact y4h h4
end Go.Proofs.YtgdegfijcijnoaaGreat
/- Small programs: states by their numbers;where a condition holds;lists of states. -/
namespace Go.Proofs.YtgdegfijcijnoaaGreat
open Go.Dp
def nS (p:Prg):Nat:=2 ^ (pw p * pv p)
def sto (p:Prg) (no:Int):List W:=digs (pw p) (pv p) no.toNat
def inS (p:Prg) (no:Int):Prop:=0<=no /\ no < (nS p:Int)
theorem q2p {p:Prg} (h:q0j p = true):2<=nS p /\ nS p<=32:=by
 obtain ⟨_,_,h3,h4,_,h6,_⟩:=q2w h
 refine ⟨?_,pow5 h6⟩
 have:1<=pw p * pv p:=Nat.mul_pos h3 h4
 exact Nat.pow_le_pow_right (n:=2) (by omega) this
theorem w3e {p:Prg} (h:q0j p = true) {no:Int} (hi:inS p no):noOK p no = true:=by
 simp only [noOK,h,Bool.true_and,Bool.and_eq_true,decide_eq_true_eq]
 exact hi
theorem q5h {p:Prg} (h:q0j p = true) {no:Int} (hi:inS p no):stOK p (sto p no) = true:=(x3w (w3e h hi)).2.1
theorem w3c {p:Prg} (h:q0j p = true) {s:List W} (hs:stOK p s = true):inS p (noOf (pw p) s:Int) /\ sto p (noOf (pw p) s:Int) = s:=by
 obtain ⟨h1,h2⟩:=x53 h hs
 simp only [noOK,Bool.and_eq_true,decide_eq_true_eq] at h1
 exact ⟨⟨h1.1.2,h1.2⟩,h2⟩
theorem z5m {k:Nat} (hk:100<=k) {p:Prg} (h:q0j p = true) (l1 l2:List PV) {no:Int} (hi:inS p no):c70 k p.wide p.vars l1 l2 no = r70 (encW (sto p no)):=by
 obtain ⟨h1,h2,h3,h4,h5,h6,_⟩:=q2w h
 have:=x3a hk (pw p) (pv p) h3 h6 h5 l1 l2 no.toNat (by have:=hi.1;have:=hi.2;unfold nS at this;omega)
 rw [<- h1,<- h2,Int.toNat_of_nonneg hi.1] at this
 exact this
theorem x0k {k:Nat} (hk:100<=k) {p:Prg} (h:q0j p = true) (l1 l2:List PV) {no:Int} (hi:inS p no):c195 k p.wide p.vars l1 l2 no = r195 (encW (sto p no)):=by
 obtain ⟨h1,h2,h3,h4,h5,h6,_⟩:=q2w h
 have:=w0a hk (pw p) (pv p) h3 h6 h5 l1 l2 no.toNat (by have:=hi.1;have:=hi.2;unfold nS at this;omega)
 rw [<- h1,<- h2,Int.toNat_of_nonneg hi.1] at this
 exact this
theorem z4o {k:Nat} (hk:1<=k) {p:Prg} (h:q0j p = true) (l1 l2:List PV):c103 k p.wide p.vars l1 l2 = r103 (nS p:Int):=by
 obtain ⟨h1,h2,h3,h4,h5,h6,_⟩:=q2w h
 rw [h1,h2]
 exact x6c hk (pw p) (pv p) h6 l1 l2
theorem y5z {k:Nat} (hk:1<=k) {p:Prg} (h:q0j p = true) (l1 l2:List PV):c105 k p.wide p.vars l1 l2 = r105 (nS p:Int):=by
 obtain ⟨h1,h2,h3,h4,h5,h6,_⟩:=q2w h
 rw [h1,h2]
 exact x6g hk (pw p) (pv p) h6 l1 l2
theorem w3p {k:Nat} (hk:100<=k) {p:Prg} (h:q0j p = true) (l1 l2:List PV) {s:List W} (hs:stOK p s = true):c145 k p.wide p.vars l1 l2 (encW s) = r145 (noOf (pw p) s:Int):=by
 obtain ⟨h1,h2,h3,h4,h5,h6,_⟩:=q2w h
 obtain ⟨h7,h8⟩:=z7m h hs
 rw [h1,h2]
 exact x2d hk (pw p) (pv p) h6 l1 l2 s h7 h5 h8
theorem w31 {k:Nat} (hk:100<=k) {p:Prg} (h:q0j p = true) (l1 l2:List PV) {s:List W} (hs:stOK p s = true):c232 k p.wide p.vars l1 l2 (encW s) = r232 (noOf (pw p) s:Int):=by
 obtain ⟨h1,h2,h3,h4,h5,h6,_⟩:=q2w h
 obtain ⟨h7,h8⟩:=z7m h hs
 rw [h1,h2]
 exact x9k hk (pw p) (pv p) h3 h6 l1 l2 s h7 h5 h8
theorem q1q {p:Prg} (h:q0j p = true):q1w p = true:=by
 simp only [q0j,Bool.and_eq_true] at h
 exact h.1
def hN (p:Prg) (t:List Nd) (no:Int):Bool:=q6 p t (sto p no)
def whN (p:Prg) (t:List Nd):Nat->Nat->List Int
 | _,0=>[]
 | i,m + 1=>(bif hN p t (i:Int) then [(i:Int)] else []) ++ whN p t (i + 1) m
def whI (p:Prg) (t:List Nd):List Int:=whN p t 0 (nS p)
theorem y14 (p:Prg) (t:List Nd):∀ (m i:Nat) (x:Int),x ∈ whN p t i m ↔ (i:Int)<=x /\ x < (i + m:Nat) /\ hN p t x = true
 | 0,i,x=>by simp [whN];omega
 | m + 1,i,x=>by
  simp only [whN,List.mem_append,y14 p t m (i + 1) x]
  by_cases hx:x = (i:Int)
  ·subst hx
   cases hN p t (i:Int) <;> simp <;> omega
  ·have:x ∉ (bif hN p t (i:Int) then [(i:Int)] else []):=by cases hN p t (i:Int) <;> simp [hx]
   simp only [this,false_or]
   constructor
   ·rintro ⟨h1,h2,h3⟩;exact ⟨by omega,by omega,h3⟩
   ·rintro ⟨h1,h2,h3⟩;exact ⟨by omega,by omega,h3⟩
theorem q4r (p:Prg) (t:List Nd) (x:Int):x ∈ whI p t ↔ inS p x /\ hN p t x = true:=by
 rw [whI,y14]
 simp [inS,and_assoc]
theorem y2j (p:Prg) (t:List Nd):∀ (m i:Nat),(whN p t i m).length<=m
 | 0,i=>by simp [whN]
 | m + 1,i=>by
  have:=y2j p t m (i + 1)
  simp only [whN,List.length_append]
  cases hN p t (i:Int) <;> simp <;> omega
theorem y8l (p:Prg) (t:List Nd):∀ (m i:Nat),(whN p t i m).Pairwise (· < ·)
 | 0,i=>by simp [whN]
 | m + 1,i=>by
  have h:=y8l p t m (i + 1)
  simp only [whN]
  cases hN p t (i:Int)
  ·exact h
  ·simp only [cond_true,List.cons_append,List.nil_append,List.pairwise_cons]
   refine ⟨fun x hx=>?_,h⟩
   have:=(y14 p t m (i + 1) x).1 hx
   omega
theorem z1n {k:Nat} (hk:1000100<=k) {p:Prg} (hs:q0j p = true) (l1 l2:List PV) (t:List Nd) (ht:t.length<=100) (hkt:kindT p.wide p.vars t = 2):∀ (n i:Nat) (o:List Int),nS p - i < n->i<=nS p->o.length<=i ->
  z3w k n (encT t) o.length (nS p:Int) (i:Int) p.wide p.vars l1 l2 (encZ o) = r110 (encZ (o ++ whN p t i (nS p - i)))
 | 0,i,o,h,hi,ho=>by omega
 | n + 1,i,o,h,hi,ho=>by
  have hle:=q2p hs
  rw [x9v]
  have etk:(encZ o).take o.length = encZ o:=by rw [List.take_of_length_le (by simp)]
  by_cases hlt:i < nS p
  ·have hd:decide ((i:Int) < (nS p:Int)) = true:=by simpa using hlt
   have hin:inS p (i:Int):=⟨by omega,by omega⟩
   obtain ⟨m,hm⟩:∃ m,nS p - i = m + 1:=⟨nS p - i - 1,by omega⟩
   have hm2:nS p - (i + 1) = m:=by omega
   rw [hd,z5m (by omega) hs l1 l2 hin]
   simp only [cond_true,y5v]
   rw [z3p (by omega) p (q1q hs) l1 l2 t ht hkt _ (q5h hs hin)]
   simp only [x16]
   rw [q0b (by omega) (by omega),show (i:Int) + 1 = ((i + 1:Nat):Int) by omega,hm]
   simp only [whN]
   change (bif hN p t (i:Int) then _ else _) = _
   cases hh:hN p t (i:Int)
   ·simp only [cond_false,List.nil_append]
    have:=z1n hk hs l1 l2 t ht hkt n (i + 1) o (by omega) (by omega) (by omega)
    rw [hm2] at this
    exact this
   ·simp only [cond_true]
    rw [q0r (by omega) (by omega),etk,q1i]
    have:=z1n hk hs l1 l2 t ht hkt n (i + 1) (o ++ [(i:Int)]) (by omega) (by omega) (by simp;omega)
    rw [hm2,List.length_append,List.append_assoc] at this
    exact this
  ·have hd:decide ((i:Int) < (nS p:Int)) = false:=by simpa using hlt
   have h0:nS p - i = 0:=by omega
   rw [hd,etk,h0]
   simp [whN]
theorem x7m {k:Nat} (hk:1000200<=k) {p:Prg} (hs:q0j p = true) (l1 l2:List PV) (t:List Nd) (ht:t.length<=100) (hkt:kindT p.wide p.vars t = 2):c110 k p.wide p.vars l1 l2 (encT t) = r110 (encZ (whI p t)):=by
 obtain ⟨k,rfl⟩:∃ j,k = j + 1:=⟨k - 1,by omega⟩
 have hle:=q2p hs
 rw [n110,z4o (by omega) hs]
 simp only [z3x]
 have:=z1n (k:=k) (by omega) hs l1 l2 t ht hkt k 0 [] (by omega) (by omega) (by simp)
 rw [show encZ ([]:List Int) = [] from rfl] at this
 simpa [whI] using this
theorem z11 {k:Nat} (hk:1000100<=k) {p:Prg} (hs:q0j p = true) (l1 l2:List PV) (t:List Nd) (ht:t.length<=100) (hkt:kindT p.wide p.vars t = 2):∀ (n i:Nat) (o:List Int),nS p - i < n->i<=nS p->o.length<=i ->
  z27 k n (encT t) o.length (i:Int) p.wide p.vars l1 l2 (encZ o) = r124 (encZ (o ++ whN p t i (nS p - i)))
 | 0,i,o,h,hi,ho=>by omega
 | n + 1,i,o,h,hi,ho=>by
  have hle:=q2p hs
  rw [w1i,y5z (by omega) hs]
  simp only [y6w]
  have etk:(encZ o).take o.length = encZ o:=by rw [List.take_of_length_le (by simp)]
  by_cases hlt:i < nS p
  ·have hd:decide ((i:Int) < (nS p:Int)) = true:=by simpa using hlt
   have hin:inS p (i:Int):=⟨by omega,by omega⟩
   obtain ⟨m,hm⟩:∃ m,nS p - i = m + 1:=⟨nS p - i - 1,by omega⟩
   have hm2:nS p - (i + 1) = m:=by omega
   rw [hd,x0k (by omega) hs l1 l2 hin]
   simp only [cond_true,x4m]
   rw [y4e (by omega) p (q1q hs) l1 l2 t ht hkt _ (q5h hs hin)]
   simp only [x5y]
   rw [q0b (by omega) (by omega),show (i:Int) + 1 = ((i + 1:Nat):Int) by omega,hm]
   simp only [whN]
   change (bif hN p t (i:Int) then _ else _) = _
   cases hh:hN p t (i:Int)
   ·simp only [cond_false,List.nil_append]
    have:=z11 hk hs l1 l2 t ht hkt n (i + 1) o (by omega) (by omega) (by omega)
    rw [hm2] at this
    exact this
   ·simp only [cond_true]
    rw [q0r (by omega) (by omega),etk,q1i]
    have:=z11 hk hs l1 l2 t ht hkt n (i + 1) (o ++ [(i:Int)]) (by omega) (by omega) (by simp;omega)
    rw [hm2,List.length_append,List.append_assoc] at this
    exact this
  ·have hd:decide ((i:Int) < (nS p:Int)) = false:=by simpa using hlt
   have h0:nS p - i = 0:=by omega
   rw [hd,etk,h0]
   simp [whN]
theorem z2i {k:Nat} (hk:1000200<=k) {p:Prg} (hs:q0j p = true) (l1 l2:List PV) (t:List Nd) (ht:t.length<=100) (hkt:kindT p.wide p.vars t = 2):c124 k p.wide p.vars l1 l2 (encT t) = r124 (encZ (whI p t)):=by
 obtain ⟨k,rfl⟩:∃ j,k = j + 1:=⟨k - 1,by omega⟩
 have hle:=q2p hs
 rw [n124]
 have:=z11 (k:=k) (by omega) hs l1 l2 t ht hkt k 0 [] (by omega) (by omega) (by simp)
 rw [show encZ ([]:List Int) = [] from rfl] at this
 simpa [whI] using this
def incG (b:Int):Option Int->List Int->Bool
 | _,[]=>true
 | pr,n :: l=>decide (0<=n) && decide (n < b) && (match pr with | none=>true | some q=>decide (q < n)) && incG b (some n) l
def prI (l:List Int) (i:Nat):Option Int:=if i = 0 then none else l[i - 1]?
theorem w07 {b:Int} {l:List Int} {i:Nat} (h:i < l.length):incG b (prI l i) (l.drop i) = (decide (0<=l[i]) && decide (l[i] < b) && (if i = 0 then true else decide (l[i - 1]! < l[i])) && incG b (prI l (i + 1)) (l.drop (i + 1))):=by
 rw [q0f h]
 simp only [incG]
 have e:prI l (i + 1) = some l[i]:=by simp [prI,h]
 rw [e]
 by_cases h0:i = 0
 ·subst h0;simp [prI]
 ·have e2:prI l i = some l[i - 1]!:=by
   rw [prI,if_neg h0,List.getElem?_eq_getElem (by omega),getElem!_pos l (i - 1) (by omega)]
  rw [e2,if_neg h0]
theorem z3c {k:Nat} (hk:1<=k) (l:List Int) (hl:l.length<=100000) (b:Int):∀ (n i:Nat),l.length - i < n->i<=l.length->z5a k n (encZ l) 0 (b - 1) (encZ l) (l.length:Int) (i:Int) = r193 (incG b (prI l i) (l.drop i))
 | 0,i,h,hi=>by omega
 | n + 1,i,h,hi=>by
  rw [w1u]
  by_cases hlt:i < l.length
  ·have hd:decide ((i:Int) < (l.length:Int)) = true:=by simpa using hlt
   rw [hd,q0l hlt,w07 hlt]
   simp only [cond_true,Option.bind_some,q0k]
   have hnext:IntKind.i64.wrap ((i:Int) + 1) = ((i + 1:Nat):Int):=by rw [q0b (by omega) (by omega)];omega
   have eb:decide (l[i]<=b - 1) = decide (l[i] < b):=by
    rw [Bool.eq_iff_iff];simp;omega
   rw [hnext,q6j hk,eb]
   simp only [q5m]
   cases hc:(decide (0<=l[i]) && decide (l[i] < b))
   ·rfl
   ·simp only [Bool.not_true,cond_false,Bool.true_and]
    by_cases h0:i = 0
    ·have e5:decide ((i:Int) > 0) = false:=by simp;omega
     rw [e5,if_pos h0]
     simp only [cond_false,Bool.true_and]
     exact z3c hk l hl b n (i + 1) (by omega) (by omega)
    ·have e5:decide ((i:Int) > 0) = true:=by simp;omega
     have e6:IntKind.i64.wrap ((i:Int) - 1) = ((i - 1:Nat):Int):=by rw [q0b (by omega) (by omega)];omega
     rw [e5,if_neg h0,e6,q0l (l:=l) (i:=i - 1) (by omega)]
     simp only [cond_true,Option.bind_some,q0k]
     rw [<- getElem!_pos l (i - 1) (by omega)]
     by_cases h3:l[i - 1]!>=l[i]
     ·have e7:decide (l[i - 1]!>=l[i]) = true:=decide_eq_true h3
      have e8:decide (l[i - 1]! < l[i]) = false:=decide_eq_false (by omega)
      rw [e7,e8];rfl
     ·have e7:decide (l[i - 1]!>=l[i]) = false:=decide_eq_false h3
      have e8:decide (l[i - 1]! < l[i]) = true:=decide_eq_true (by omega)
      rw [e7,e8]
      simp only [cond_false,Bool.true_and]
      exact z3c hk l hl b n (i + 1) (by omega) (by omega)
  ·have hd:decide ((i:Int) < (l.length:Int)) = false:=by simpa using hlt
   rw [hd,List.drop_eq_nil_of_le (by omega)]
   rfl
theorem x98 {k:Nat} (hk:100010<=k) (l:List Int) (hl:l.length<=100000) (b:Int):c193 k (encZ l) 0 (b - 1) = r193 (incG b none l):=by
 obtain ⟨k,rfl⟩:∃ j,k = j + 1:=⟨k - 1,by omega⟩
 rw [n193,q0d]
 exact z3c (k:=k) (by omega) l hl b k 0 (by omega) (by omega)
theorem z6c {k:Nat} (hk:100010<=k) (a b:List Int) (ha:a.length<=100000) (hb:b.length<=100000):∀ (n i:Nat),a.length - i < n->i<=a.length->y1e k n (encZ b) (encZ a) (a.length:Int) (i:Int) = r123 ((a.drop i).all fun x=>b.contains x)
 | 0,i,h,hi=>by omega
 | n + 1,i,h,hi=>by
  rw [x92]
  by_cases hlt:i < a.length
  ·have hd:decide ((i:Int) < (a.length:Int)) = true:=by simpa using hlt
   have hnext:IntKind.i64.wrap ((i:Int) + 1) = ((i + 1:Nat):Int):=by rw [q0b (by omega) (by omega)];omega
   rw [hd,q0l hlt,q0f hlt,hnext]
   simp only [cond_true,Option.bind_some,q0k]
   rw [y0g hk b hb]
   simp only [z95,List.all_cons]
   cases b.contains a[i]
   ·rfl
   ·exact z6c hk a b ha hb n (i + 1) (by omega) (by omega)
  ·have hd:decide ((i:Int) < (a.length:Int)) = false:=by simpa using hlt
   rw [hd,List.drop_eq_nil_of_le (by omega)]
   rfl
theorem y4p {k:Nat} (hk:100020<=k) (a b:List Int) (ha:a.length<=100000) (hb:b.length<=100000):c123 k (encZ a) (encZ b) = r123 (a.all fun x=>b.contains x):=by
 obtain ⟨k,rfl⟩:∃ j,k = j + 1:=⟨k - 1,by omega⟩
 rw [n123,q0d]
 exact z6c (k:=k) (by omega) a b ha hb k 0 (by omega) (by omega)
theorem x4j {p:Prg} {t:List Nd} {l:List Int} (hl:∀ x ∈ l,inS p x):(l.all fun x=>(whI p t).contains x) = l.all (hN p t):=by
 induction l with
 | nil=>rfl
 | cons x l ih =>
  have h1:(whI p t).contains x = hN p t x:=by
   rw [Bool.eq_iff_iff,List.contains_iff_mem,q4r]
   simp [hl x (by simp)]
  simp only [List.all_cons,h1,ih fun y hy=>hl y (by simp [hy])]
theorem y74 {k:Nat} (a b:List Int) (hl:a.length = b.length) (ha:a.length<=1000000):∀ (n i:Nat),a.length - i < n->i<=a.length->y5p k n (encZ a) (encZ b) (a.length:Int) (i:Int) = r82 (decide (a.drop i = b.drop i))
 | 0,i,h,hi=>by omega
 | n + 1,i,h,hi=>by
  rw [w44]
  by_cases hlt:i < a.length
  ·have hd:decide ((i:Int) < (a.length:Int)) = true:=by simpa using hlt
   have hnext:IntKind.i64.wrap ((i:Int) + 1) = ((i + 1:Nat):Int):=by rw [q0b (by omega) (by omega)];omega
   rw [hd,q0l hlt,q0l (l:=b) (i:=i) (by omega),q0f hlt,q0f (l:=b) (by omega),hnext]
   simp only [cond_true,Option.bind_some,q0k,List.cons.injEq,Bool.decide_and]
   by_cases he:a[i] = b[i]
   ·have e1:(a[i] != b[i]) = false:=by simpa using he
    have e2:decide (a[i] = b[i]) = true:=by simpa using he
    rw [e1,e2]
    simp only [cond_false,Bool.true_and]
    exact y74 a b hl ha n (i + 1) (by omega) (by omega)
   ·have e1:(a[i] != b[i]) = true:=by simpa using he
    have e2:decide (a[i] = b[i]) = false:=by simpa using he
    rw [e1,e2];rfl
  ·have hd:decide ((i:Int) < (a.length:Int)) = false:=by simpa using hlt
   rw [hd,List.drop_eq_nil_of_le (by omega),List.drop_eq_nil_of_le (by omega)]
   rfl
theorem w4k {k:Nat} (hk:1000010<=k) (a b:List Int) (ha:a.length<=1000000):c82 k (encZ a) (encZ b) = r82 (decide (a = b)):=by
 obtain ⟨k,rfl⟩:∃ j,k = j + 1:=⟨k - 1,by omega⟩
 rw [n82,q0d,q0d]
 by_cases hl:a.length = b.length
 ·have e:((a.length:Int) != (b.length:Int)) = false:=by simp [hl]
  rw [e]
  exact y74 (k:=k) a b hl ha k 0 (by omega) (by omega)
 ·have e:((a.length:Int) != (b.length:Int)) = true:=by simp;omega
  have e2:decide (a = b) = false:=by simp;intro h;exact hl (by rw [h])
  rw [e,e2];rfl
theorem z6z {bs:List Nat} (hc:CodeOK bs) {k:Nat} (hk:2010<=k) (n1:Int):∀ (m n:Nat) (q:Int) (o:List Int) {at':Int} (s:W),q.toNat<=m->m < n->q<=100->o.length + m<=200->0<=at'->at' + 2 * m<=700000000 ->
  ∃ a2 s2 l,z9h k n n1 o.length q (encB bs) at' (wi s) (encZ o) = r121 (encB bs) a2 (wi s2) (encZ l) /\ at'<=a2 /\ a2<=at' + 2 * m + 2 /\ l.length<=o.length + m + 1
 | m,0,q,o,at',s,h1,h2,_,_,_,_=>by omega
 | m,n + 1,q,o,at',s,h1,h2,h3,h4,h5,h6=>by
  rw [w0i]
  have etk:(encZ o).take o.length = encZ o:=by rw [List.take_of_length_le (by simp)]
  rw [etk]
  by_cases hq:q > 0
  ·have e1:decide (q > 0) = true:=by simpa using hq
   obtain ⟨a2,s2,v,h,h7,h8,_⟩:=q1k hc (k:=k) (by omega) h5 (by omega) s n1
   have hpl:=q60 o v
   rw [e1,h]
   simp only [cond_true,q16]
   rw [z2l (by omega) o (by omega)]
   simp only [z8u,q0d]
   rw [q0b (by omega) (by omega)]
   cases m with
   | zero=>omega
   | succ m =>
    obtain ⟨a3,s3,l,h,h9,h10,h11⟩:=z6z hc hk n1 m n (q - 1) (putI o v) (at':=a2) s2 (by omega) (by omega) (by omega) (by omega) (by omega) (by omega)
    exact ⟨a3,s3,l,h,by omega,by omega,by omega⟩
  ·have e1:decide (q > 0) = false:=by simpa using hq
   obtain ⟨a2,s2,b,h,h7,h8⟩:=q3r hc (k:=k) (by omega) h5 (by omega) s 40
   rw [e1,h]
   simp only [cond_false,q3o]
   cases b
   ·exact ⟨a2,s2,o,rfl,by omega,by omega,by omega⟩
   ·rw [q0r (by omega) (by omega),q1i,List.take_of_length_le (by simp)]
    exact ⟨a2,s2,o ++ [n1],rfl,by omega,by omega,by simp⟩
theorem x4a {bs:List Nat} (hc:CodeOK bs) {k:Nat} (hk:2100<=k) (n1 m1:Int) (hm0:0<=m1) (hm:m1<=50) {at':Int} (h0:0<=at') (h1:at'<=600000000) (s:W) :
  ∃ a2 s2 l,c121 k n1 m1 (encB bs) at' (wi s) = r121 (encB bs) a2 (wi s2) (encZ l) /\ at'<=a2 /\ a2<=at' + 200 /\ l.length<=60:=by
 obtain ⟨k,rfl⟩:∃ j,k = j + 1:=⟨k - 1,by omega⟩
 rw [n121,q0b (by omega) (by omega)]
 obtain ⟨a2,s2,v,h,h2,h3,h4,h5,_⟩:=q1k hc (k:=k) (by omega) h0 (by omega) s (m1 + 1)
 have h5:=h5 (by omega)
 rw [h]
 simp only [q16]
 obtain ⟨a3,s3,l,h,h6,h7,h8⟩:=z6z hc (k:=k) (by omega) n1 51 k v [] (at':=a2) s2 (by omega) (by omega) (by omega) (by simp) (by omega) (by omega)
 exact ⟨a3,s3,l,h,by omega,by omega,by simp at h8;omega⟩
end Go.Proofs.YtgdegfijcijnoaaGreat
