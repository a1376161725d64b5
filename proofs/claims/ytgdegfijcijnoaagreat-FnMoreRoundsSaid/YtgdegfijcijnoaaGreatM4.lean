/- Nf5; Nf6; Nf7; Nf8; Kb; Kc; Kd; Pa; Ke; Kf; Kg; Kh; Ki; Pb; Kj; Pc; Kk; Pe; Pf; Pg; Ph; Pi; Pv; Pw; Pd; Ha; Hp: texts put together. -/
import Derived.Test.YtgdegfijcijnoaaGreatM3
import Derived.Test.YtgdegfijcijnoaaGreatM2
set_option linter.all false
set_option maxRecDepth 100000
namespace Go.Proofs.YtgdegfijcijnoaaGreat
open Go.Dp
theorem n196 (k:Nat) b a t:c196 (k+1) b a t=R245 (c245 k b) fun c=>bif !c then r196 0 else R140 (c140 k a 1 4) fun d=>bif !d then r196 0 else R140 (c140 k (t.length:Int) 1 48) fun e=>bif !e then r196 0 else z5v k k b a 0 t (t.length:Int) 0 []:=by kernel_rfl
theorem w76 (k n:Nat) c b a e f d h:z5v k (n+1) c b a e f d h=bif decide (d<f) then (q0e e d).bind fun g=>bif g.shp 2 then (g.atInt .i64 0).bind fun i=>(g.atInt .u64 1).bind fun l=>R246 (c246 k i) fun v1 v2 v3=>bif (v3==0) then r196 0 else R247 (c247 k c b i l) fun j=>bif !j then r196 0 else bif decide ((a:Int)<v1) then r196 0 else y2w k n k c b a v1 v2 v3 e f d h else none else bif ((a:Int) != 1) then r196 0 else bif decide ((0:Int)<(a:Int)) then (h[0]?).bind fun o=>(o.atInt .i64 0).bind fun m=>r196 m else none:=by kernel_rfl
theorem x6x (k l n:Nat) e d a b c f g h i j:y2w k l (n+1) e d a b c f g h i j=bif decide (b>0) then bif decide ((0:Int)<=IntKind.i64.wrap ((a:Int)-1))&&decide (IntKind.i64.wrap ((a:Int)-1)<(a:Int)) then (j[0+((IntKind.i64.wrap ((a:Int)-1)).toNat)]?).bind fun o=>(o.atInt .i64 0).bind fun m=>bif (m != c) then r196 0 else bif decide ((0:Int)<=IntKind.i64.wrap ((a:Int)-1))&&decide (IntKind.i64.wrap ((a:Int)-1)<=(a:Int)) then y2w k l n e d ((IntKind.i64.wrap ((a:Int)-1)).toNat) (IntKind.i64.wrap (b-1)) c f g h i j else none else none else bif decide ((a+1)*8<=LIM)&&decide (a+1<=LIM) then z5v k l e d (a+1) g h (IntKind.i64.wrap (i+1)) ((j.take a)++[PV.int .i64 f]) else none:=by kernel_rfl
theorem n197 (k:Nat) g a b:c197 (k+1) g a b=R248 (c248 k g) fun c=>R108 (c108 k c b) fun d=>q72 k k g (-1) a (a.length:Int) 0 d:=by kernel_rfl
theorem w77 (k n:Nat) g a c d b l:q72 k (n+1) g a c d b l=bif decide (b<d) then (q0e c b).bind fun j=>(j.atInt .i64 0).bind fun e=>(q0e l e).bind fun m=>(m.atInt .i64 0).bind fun f=>bif decide (f>=0) then bif decide (a<0) then q72 k n g e c d (IntKind.i64.wrap (b+1)) l else (q0e l e).bind fun o=>(o.atInt .i64 0).bind fun h=>(q0e l a).bind fun p=>(p.atInt .i64 0).bind fun i=>bif decide (h<i) then q72 k n g e c d (IntKind.i64.wrap (b+1)) l else q72 k n g a c d (IntKind.i64.wrap (b+1)) l else q72 k n g a c d (IntKind.i64.wrap (b+1)) l else bif decide (a<0) then r197 [] else z5w k k g 1 l a [PV.int .i64 a]:=by kernel_rfl
theorem x6y (k n:Nat) g a l b c:z5w k (n+1) g a l b c=(q0e l b).bind fun i=>(i.atInt .i64 0).bind fun h=>bif decide (h>0) then (q0e g b).bind fun j=>(j.atRow 0 0).bind fun e=>y62 (z3d k e l b) fun p=>(q0e g b).bind fun m=>(m.atRow 0 0).bind fun f=>(q0e f p).bind fun o=>(o.atInt .i64 0).bind fun d=>bif decide ((a+1)*8<=LIM)&&decide (a+1<=LIM) then z5w k n g (a+1) l d ((c.take a)++[PV.int .i64 d]) else none else bif !((c.take a).isEmpty) then r197 (c.take a) else none:=by kernel_rfl
theorem n198 (k:Nat) p b c d e a:c198 (k+1) p b c d e a=R126 (c126 k p b c d e) fun f=>bif !f then r198 false else bif decide ((a.length:Int)>b) then r198 false else z15 k k a (a.length:Int) 0 p b c d e a:=by kernel_rfl
theorem w78 (k n:Nat) c d a e b l g h f:z15 k (n+1) c d a e b l g h f=bif decide (a<d) then (q0e c a).bind fun i=>bif i.shp 2 then (i.atInt .i64 0).bind fun m=>(i.atRow 2 1).bind fun j=>R140 (c140 k m 0 (IntKind.i64.wrap (b-1))) fun o=>bif !o then r198 false else bif decide (a>0) then (q0e f (IntKind.i64.wrap (a-1))).bind fun q=>(q.atInt .i64 0).bind fun p=>bif decide (p>=m) then r198 false else R196 (c196 k e b j) fun r=>bif (r != 1) then r198 false else z15 k n c d (IntKind.i64.wrap (a+1)) e b l g h f else R196 (c196 k e b j) fun s=>bif (s != 1) then r198 false else z15 k n c d (IntKind.i64.wrap (a+1)) e b l g h f else none else r198 true:=by kernel_rfl
theorem n199 (k:Nat) p b c d a:c199 (k+1) p b c d a=R104 (c104 k p b c d) fun f=>bif !f then r199 [] false else R76 (c76 k p b c d a) fun g=>bif !g then r199 [] false else R99 (c99 k p b c d a) fun e=>r199 (e.take e.length) true:=by kernel_rfl
theorem n200 (k:Nat) p c d e v a:c200 (k+1) p c d e v a=R129 (c129 k p c d e v) fun f=>bif !f then r200 [] false else R193 (c193 k a 0 (IntKind.i64.wrap ((v.length:Int)-1))) fun g=>bif !g then r200 [] false else R80 (c80 k v a) fun b=>r200 (b.take b.length) true:=by kernel_rfl
theorem n202 (k:Nat) p b c d v a:c202 (k+1) p b c d v a=R227 (c227 k v a) fun e=>R125 (c125 k p b c d e) fun f=>R181 (c181 k v f) fun g=>r202 g:=by kernel_rfl
theorem n204 (k:Nat) c l a b:c204 (k+1) c l a b=(q0e l c).bind fun f=>(f.atRow 0 0).bind fun e=>x0m (z8e k e a b) fun d=>r204 (!d):=by kernel_rfl
theorem n205 (k:Nat) b l a:c205 (k+1) b l a=(q0e l (IntKind.i64.wrap (a+1))).bind fun e=>(e.atRow 0 0).bind fun d=>R67 (c67 k d b) fun c=>r205 c:=by kernel_rfl
theorem n206 (k:Nat) c l a b:c206 (k+1) c l a b=(q0e a (IntKind.i64.wrap (b-1))).bind fun g=>(g.atInt .i64 0).bind fun f=>(q0e l f).bind fun h=>(h.atRow 0 0).bind fun e=>R67 (c67 k e c) fun d=>r206 d:=by kernel_rfl
theorem n208 (k:Nat) v:c208 (k+1) v=z5x k k 0 v (v.length:Int) 0:=by kernel_rfl
theorem w79 (k n:Nat) a c d b:z5x k (n+1) a c d b=bif decide (b<d) then (q0e c b).bind fun f=>(f.atInt .i64 0).bind fun e=>bif decide (e>=a) then z5x k n (IntKind.i64.wrap (e+1)) c d (IntKind.i64.wrap (b+1)) else z5x k n a c d (IntKind.i64.wrap (b+1)) else r208 a:=by kernel_rfl
theorem n209 (k:Nat) x y:c209 (k+1) x y=R251 (c251 k x y) fun v1 v2=>r209 v1 v2:=by kernel_rfl
theorem n210 (k:Nat) qs (h1:qs.length*8<=LIM) (h2:qs.length<=LIM):c210 (k+1) qs=r210 qs:=y91 (by first | (simp [T,orT,numT,cloneT,q5x,lk,h1,h2] <;> rfl) | (simp [T,cloneT,q5x,lk,h1,h2] <;> rfl))
theorem n213 (k:Nat) c d a b:c213 (k+1) c d a b=bif (d==3) then R150 (c150 k c) fun y=>r213 (q0o .and .u64 (IntKind.u64.wrap (a+b)) y) else bif (d==4) then R150 (c150 k c) fun z=>r213 (q0o .and .u64 (IntKind.u64.wrap (a-b)) z) else bif (d==5) then R150 (c150 k c) fun A=>r213 (q0o .and .u64 (IntKind.u64.wrap (a*b)) A) else bif (d==6) then R263 (c263 k c a b) fun v4 v5 b1=>R150 (c150 k c) fun B=>r213 (q0o .and .u64 v4 B) else bif (d==7) then R263 (c263 k c a b) fun v7 v8 b2=>R150 (c150 k c) fun C=>r213 (q0o .and .u64 v8 C) else bif (d==8) then R150 (c150 k c) fun e=>r213 (q0o .and .u64 (q0o .and .u64 a b) e) else bif (d==17) then R150 (c150 k c) fun f=>r213 (q0o .and .u64 (q0o .and .u64 a b) f) else bif (d==9) then R150 (c150 k c) fun g=>r213 (q0o .and .u64 (q0o .or .u64 a b) g) else bif (d==18) then R150 (c150 k c) fun h=>r213 (q0o .and .u64 (q0o .or .u64 a b) h) else bif (d==10) then R150 (c150 k c) fun i=>r213 (q0o .and .u64 (q0o .xor .u64 a b) i) else bif (d==11) then R264 (c264 k c a b (d==11)) fun j=>R150 (c150 k c) fun l=>r213 (q0o .and .u64 j l) else bif (d==12) then R264 (c264 k c a b (d==11)) fun m=>R150 (c150 k c) fun o=>r213 (q0o .and .u64 m o) else bif (d==14) then R265 (c265 k (a==b)) fun p=>R150 (c150 k c) fun q=>r213 (q0o .and .u64 p q) else bif (d==15) then R265 (c265 k (decide (a<b))) fun r=>R150 (c150 k c) fun s=>r213 (q0o .and .u64 r s) else bif (d==16) then R266 (c266 k c a) fun t=>R266 (c266 k c b) fun u=>R265 (c265 k (decide (t<u))) fun v=>R150 (c150 k c) fun w=>r213 (q0o .and .u64 v w) else R150 (c150 k c) fun x=>r213 (q0o .and .u64 0 x):=by kernel_rfl
theorem n214 (k:Nat) b a c l e d:c214 (k+1) b a c l e d=bif (c==0) then R120 (c120 k 2 l e d) fun l1 v1 v2 b1=>bif b1 then R56 (c56 k 9 l1 v1 v2) fun l2 v3 v4 v5=>R267 (c267 k b (IntKind.u64.wrap v5)) fun g=>r214 l2 v3 v4 [PV.agg [.int .i64 1,.int .u64 g]] else R56 (c56 k a l1 v1 v2) fun l3 v7 v8 v9=>r214 l3 v7 v8 [PV.agg [.int .i64 2,.int .u64 (IntKind.u64.wrap v9)]] else R120 (c120 k 4 l e d) fun l4 v10 v11 b2=>bif b2 then R120 (c120 k 2 l4 v10 v11) fun l5 v12 v13 b3=>bif b3 then R56 (c56 k 9 l5 v12 v13) fun l6 v14 v15 v16=>R267 (c267 k b (IntKind.u64.wrap v16)) fun f=>r214 l6 v14 v15 [PV.agg [.int .i64 1,.int .u64 f]] else R56 (c56 k a l5 v12 v13) fun l7 v18 v19 v20=>r214 l7 v18 v19 [PV.agg [.int .i64 2,.int .u64 (IntKind.u64.wrap v20)]] else R120 (c120 k 7 l4 v10 v11) fun l8 v21 v22 b4=>bif b4 then R214 (c214 k b a (IntKind.i64.wrap (c-1)) l8 v21 v22) fun l9 v23 v24 l10=>bif decide ((l10.length+1)*16<=LIM)&&decide (l10.length+1<=LIM) then r214 l9 v23 v24 (((l10.take l10.length)++[PV.agg [.int .i64 13,.int .u64 0]]).take (l10.length+1)) else none else R214 (c214 k b a (IntKind.i64.wrap (c-1)) l8 v21 v22) fun l11 v25 v26 l12=>R214 (c214 k b a (IntKind.i64.wrap (c-1)) l11 v25 v26) fun l13 v27 v28 l14=>bif decide ((l12.length+((l14.take l14.length).length))*16<=LIM)&&decide (l12.length+((l14.take l14.length).length)<=LIM) then R177 (c177 k [PV.int .i64 3,PV.int .i64 3,PV.int .i64 3,PV.int .i64 4,PV.int .i64 4,PV.int .i64 5,PV.int .i64 8,PV.int .i64 9,PV.int .i64 10] l13 v27 v28) fun l15 v29 v30 v31=>R120 (c120 k 6 l15 v29 v30) fun l16 v32 v33 b5=>bif b5 then R177 (c177 k [PV.int .i64 6,PV.int .i64 7,PV.int .i64 11,PV.int .i64 12] l16 v32 v33) fun l17 v34 v35 v36=>bif decide (((l12.length+((l14.take l14.length).length))+1)*16<=LIM)&&decide ((l12.length+((l14.take l14.length).length))+1<=LIM) then r214 l17 v34 v35 (((((l12.take l12.length)++(l14.take l14.length)).take (l12.length+((l14.take l14.length).length)))++[PV.agg [.int .i64 v36,.int .u64 0]]).take ((l12.length+((l14.take l14.length).length))+1)) else none else bif decide (((l12.length+((l14.take l14.length).length))+1)*16<=LIM)&&decide ((l12.length+((l14.take l14.length).length))+1<=LIM) then r214 l16 v32 v33 (((((l12.take l12.length)++(l14.take l14.length)).take (l12.length+((l14.take l14.length).length)))++[PV.agg [.int .i64 v31,.int .u64 0]]).take ((l12.length+((l14.take l14.length).length))+1)) else none else none:=by kernel_rfl
theorem w3z (k:Nat) b d a l c:y06 (k+1) b d a l c=q8y k k b d a l c (b.length:Int) 0:=by kernel_rfl
theorem x5c (k n:Nat) e d a l c f b:q8y k (n+1) e d a l c f b=bif decide (b<f) then (q0e e b).bind fun i=>(i.atRow 2 0).bind fun h=>R155 (c155 k h d a l c) fun g=>bif g then z0k b else q8y k n e d a l c f (IntKind.i64.wrap (b+1)) else z0k (-1):=by kernel_rfl
theorem w31 (k:Nat) b f a l c d e:y08 (k+1) b f a l c d e=q80 k k b f a l c d e (b.length:Int) 0:=by kernel_rfl
theorem x5e (k n:Nat) g f a l c d e h b:q80 k (n+1) g f a l c d e h b=bif decide (b<h) then (q0e g b).bind fun m=>(m.atRow 2 0).bind fun j=>R221 (c221 k j f a l c d e) fun i=>bif i then z0m b else q80 k n g f a l c d e h (IntKind.i64.wrap (b+1)) else z0m (-1):=by kernel_rfl
theorem w30 (k:Nat) a l:y07 (k+1) a l=q8z k k a l (a.length:Int) 0:=by kernel_rfl
theorem x5d (k n:Nat) b l c a:q8z k (n+1) b l c a=bif decide (a<c) then (q0e b a).bind fun f=>(f.atRow 2 0).bind fun e=>R217 (c217 k e l) fun d=>bif d then z0l a else q8z k n b l c (IntKind.i64.wrap (a+1)) else z0l (-1):=by kernel_rfl
theorem w32 (k:Nat) b c a:x02 (k+1) b c a=q6o k k b (b.length:Int) 0 c a:=by kernel_rfl
theorem x5f (k n:Nat) d e b c a:q6o k (n+1) d e b c a=bif decide (b<e) then (q0e d b).bind fun g=>(g.atRow 2 0).bind fun f=>R288 (c288 k f c a) fun v1 v2 b1=>bif b1 then z0n v1 v2 b else q6o k n d e (IntKind.i64.wrap (b+1)) v1 v2 else z0n c a (-1):=by kernel_rfl
theorem n216 (k:Nat) t l:c216 (k+1) t l=bif decide ((l.length:Int)<40) then y65 (y02 k (l.take l.length) t) fun b=>bif !b then R219 (c219 k t) fun a=>bif decide ((l.length+1)*24<=LIM)&&decide (l.length+1<=LIM) then r216 (((l.take l.length)++[PV.row 2 0 (a.take a.length)]).take (l.length+1)) else none else r216 (l.take l.length) else r216 (l.take l.length):=by kernel_rfl
theorem n217 (k:Nat) a l:c217 (k+1) a l=R218 (c218 k a l) fun b=>r217 b:=by kernel_rfl
theorem n218 (k:Nat) a b:c218 (k+1) a b=bif ((a.length:Int) != (b.length:Int)) then r218 false else y2x k k a b (a.length:Int) 0:=by kernel_rfl
theorem w8 (k n:Nat) b c d a:y2x k (n+1) b c d a=bif decide (a<d) then (q0e b a).bind fun e=>bif e.shp 2 then (e.atInt .i64 0).bind fun g=>(e.atInt .u64 1).bind fun h=>(q0e c a).bind fun f=>bif f.shp 2 then (f.atInt .i64 0).bind fun i=>(f.atInt .u64 1).bind fun j=>bif (!((g==i)&&((h==j)&&true))) then r218 false else y2x k n b c d (IntKind.i64.wrap (a+1)) else none else none else r218 true:=by kernel_rfl
theorem n219 (k:Nat) qs (h1:qs.length*16<=LIM) (h2:qs.length<=LIM):c219 (k+1) qs=r219 qs:=y91 (by first | (simp [T,orT,numT,cloneT,q5x,lk,h1,h2] <;> rfl) | (simp [T,cloneT,q5x,lk,h1,h2] <;> rfl))
theorem n220 (k:Nat) p a c d b t:c220 (k+1) p a c d b t=y2y k k b t 0 a 0 p a c d []:=by kernel_rfl
theorem w8a (k n:Nat) f t a d b g c l e h:y2y k (n+1) f t a d b g c l e h=bif decide (b<d) then bif decide ((a+1)*24<=LIM)&&decide (a+1<=LIM) then y2y k n f t (a+1) d (IntKind.i64.wrap (b+1)) g c l e ((h.take a)++[PV.row 2 0 [PV.agg [.int .i64 2,.int .u64 (IntKind.u64.wrap b)]]]) else none else (q0e e f).bind fun j=>(j.atRow 2 1).bind fun i=>z5y k k t a i (i.length:Int) 0 g c l e h:=by kernel_rfl
theorem w8b (k n:Nat) t a d e b h c l j g:z5y k (n+1) t a d e b h c l j g=bif decide (b<e) then (q0e d b).bind fun i=>bif i.shp 2 then (i.atInt .i64 0).bind fun f=>(i.atRow 2 1).bind fun m=>bif decide ((0:Int)<=f)&&decide (f<(a:Int)) then (g[0+f.toNat]?).bind fun o=>z5y k n t a d e (IntKind.i64.wrap (b+1)) h c l j (g.set (0+f.toNat) (PV.row 2 0 m)) else none else none else R268 (c268 k h c t (g.take a)) fun l3 b1=>r220 l3 b1:=by kernel_rfl
theorem n221 (k:Nat) t e a l b c d:c221 (k+1) t e a l b c d=R222 (c222 k e a l b t c d) fun f=>r221 f:=by kernel_rfl
theorem n222 (k:Nat) p c d e t a b:c222 (k+1) p c d e t a b=w4x (c269 k [PV.row 2 0 t,PV.row 2 0 [PV.agg [.int .i64 19,.int .u64 0]]]) fun f=>R270 (c270 k p c d e t a) fun g=>bif g then y9z (c270 k p c d e (f.take f.length) b) fun h=>bif h then r222 true else y9z (c270 k p c d e (f.take f.length) a) fun i=>bif i then R270 (c270 k p c d e t b) fun j=>r222 j else r222 false else y9z (c270 k p c d e (f.take f.length) a) fun l=>bif l then R270 (c270 k p c d e t b) fun m=>r222 m else r222 false:=by kernel_rfl
theorem n223 (k:Nat) p c d e a:c223 (k+1) p c d e a=R102 (c102 k p c d e) fun f=>bif !f then r223 [] false else R74 (c74 k p c d e a 0) fun g=>bif !g then r223 [] false else R103 (c103 k p c d e) fun b=>bif (b==b)&&decide ((0:Int)<=b)&&decide (b.toNat*16<=LIM)&&decide (b.toNat<=LIM) then z5z k k a b.toNat (b.toNat:Int) 0 p c d e [] (List.replicate b.toNat (PV.agg [.int .i64 0,.int .i64 0])) else none:=by kernel_rfl
theorem w8c (k n:Nat) b a e c g d l f i h:z5z k (n+1) b a e c g d l f i h=bif decide (c<e) then R70 (c70 k g d l f c) fun m=>z50 k n k b a c m e c b (b.length:Int) 0 g d l f i h else x7j (c166 k (h.take a)) fun j=>r223 (j.take j.length) true:=by kernel_rfl
theorem x6z (k q n:Nat) b a e r g h i j c d f l o p m:z50 k q (n+1) b a e r g h i j c d f l o p m=bif decide (c<j) then (q0e i c).bind fun u=>(u.atRow 2 0).bind fun s=>bif decide ((0:Int)<=e)&&decide (e<(a:Int)) then (m[0+e.toNat]?).bind fun v=>(v.atInt .i64 0).bind fun t=>bif decide ((0:Int)<=e)&&decide (e<(a:Int)) then R149 (c149 k d s r) fun y=>bif !decide (c<0) then (m[0+e.toNat]?).bind fun w=>(putPart w 2 0 (PV.int .i64 (q0o .or .i64 t (shlI .i64 (IntKind.i64.wrap y) c))) 0).bind fun x=>z50 k q n b a e r g h i j (IntKind.i64.wrap (c+1)) d f l o p (m.set (0+e.toNat) x) else none else none else none else z5z k q b a g (IntKind.i64.wrap (h+1)) d f l o p m:=by kernel_rfl
theorem n224 (k:Nat) l t:c224 (k+1) l t=z52 k k l.length t l.length (l.length:Int) 0 l:=by kernel_rfl
theorem w8d (k n:Nat) a t b e c d:z52 k (n+1) a t b e c d=bif decide (c<e) then bif decide ((0:Int)<=c)&&decide (c<(b:Int)) then (d[0+c.toNat]?).bind fun h=>(h.atRow 2 0).bind fun g=>R271 (c271 k g t) fun f=>bif f then r224 (d.take a) else z52 k n a t b e (IntKind.i64.wrap (c+1)) d else none else bif ((a:Int)==40) then r224 (d.take a) else bif decide ((0+t.length)*16<=LIM)&&decide (0+t.length<=LIM) then bif decide ((a+1)*24<=LIM)&&decide (a+1<=LIM) then r224 (((d.take a)++[PV.row 2 0 (([]++t).take (0+t.length))]).take (a+1)) else none else none:=by kernel_rfl
theorem n225 (k:Nat) p b c d a t:c225 (k+1) p b c d a t=y2z k k a t 0 0 p b c d []:=by kernel_rfl
theorem w8e (k n:Nat) d t a v e b l c f:y2z k (n+1) d t a v e b l c f=bif decide (v<b) then bif decide ((a+1)*24<=LIM)&&decide (a+1<=LIM) then y2z k n d t (a+1) (IntKind.i64.wrap (v+1)) e b l c ((f.take a)++[PV.row 2 0 [PV.agg [.int .i64 2,.int .u64 (IntKind.u64.wrap v)]]]) else none else (q0e c d).bind fun h=>(h.atRow 2 1).bind fun g=>z54 k k t a g (g.length:Int) 0 e b l c f:=by kernel_rfl
theorem w8f (k n:Nat) t a d e b h c l j g:z54 k (n+1) t a d e b h c l j g=bif decide (b<e) then (q0e d b).bind fun i=>bif i.shp 2 then (i.atInt .i64 0).bind fun f=>(i.atRow 2 1).bind fun m=>bif decide ((0:Int)<=f)&&decide (f<(a:Int)) then (g[0+f.toNat]?).bind fun o=>z54 k n t a d e (IntKind.i64.wrap (b+1)) h c l j (g.set (0+f.toNat) (PV.row 2 0 m)) else none else none else R272 (c272 k h c t (g.take a)) fun l3 b1=>r225 l3 b1:=by kernel_rfl
theorem n226 (k:Nat) p d e f t a b:c226 (k+1) p d e f t a b=R124 (c124 k p d e f t) fun c=>R123 (c123 k a c) fun g=>bif g then R127 (c127 k b c) fun h=>bif !h then r226 true else R127 (c127 k a c) fun i=>bif !i then R123 (c123 k b c) fun j=>r226 j else r226 false else R127 (c127 k a c) fun l=>bif !l then R123 (c123 k b c) fun m=>r226 m else r226 false:=by kernel_rfl
theorem n227 (k:Nat) v a:c227 (k+1) v a=z55 k k a 0 v (v.length:Int) 0 []:=by kernel_rfl
theorem w8g (k n:Nat) b a e d c f:z55 k (n+1) b a e d c f=bif decide (c<d) then (q0e e c).bind fun h=>(h.atInt .i64 0).bind fun g=>bif (g==b) then bif decide ((a+1)*8<=LIM)&&decide (a+1<=LIM) then z55 k n b (a+1) e d (IntKind.i64.wrap (c+1)) ((f.take a)++[PV.int .i64 c]) else none else z55 k n b a e d (IntKind.i64.wrap (c+1)) f else r227 (f.take a):=by kernel_rfl
theorem n228 (k:Nat) a b:c228 (k+1) a b=bif decide (b<0) then none else bif decide (IntKind.i64.wrap (b-(IntKind.i64.wrap (0-(a.length:Int))))>0) then bif decide ((0:Int)<=(a.length:Int)) then bif decide ((0:Int)<IntKind.i64.wrap (b-(IntKind.i64.wrap (0-(a.length:Int)))))&&decide (((IntKind.i64.wrap (b-(IntKind.i64.wrap (0-(a.length:Int))))).toNat)*24<=LIM)&&decide ((IntKind.i64.wrap (b-(IntKind.i64.wrap (0-(a.length:Int))))).toNat<=LIM) then bif decide ((0:Int)<=(a.length:Int))&&decide ((a.length:Int)<=((IntKind.i64.wrap (b-(IntKind.i64.wrap (0-(a.length:Int))))).toNat:Int)) then r228 ((List.replicate ((IntKind.i64.wrap (b-(IntKind.i64.wrap (0-(a.length:Int))))).toNat) (PV.row 0 2 [])).take a.length) else none else none else none else r228 []:=by kernel_rfl
theorem n229 (k:Nat) a b:c229 (k+1) a b=bif ((a.length:Int)==(a.length:Int))&&decide ((0:Int)<=(a.length:Int))&&decide (a.length*8<=LIM)&&decide (a.length<=LIM) then z56 k k a b a.length (a.length:Int) 0 (List.replicate a.length (PV.int .i64 0)) else none:=by kernel_rfl
theorem w8h (k n:Nat) d b a e c f:z56 k (n+1) d b a e c f=bif decide (c<e) then bif decide ((0:Int)<=c)&&decide (c<(a:Int)) then (f[0+c.toNat]?).bind fun g=>z56 k n d b a e (IntKind.i64.wrap (c+1)) (f.set (0+c.toNat) (PV.int .i64 (-1))) else none else z16 k k d b a b (b.length:Int) 0 f:=by kernel_rfl
theorem w8i (k n:Nat) c b a e f d h:z16 k (n+1) c b a e f d h=bif decide (d<f) then (q0e e d).bind fun j=>(j.atInt .i64 0).bind fun g=>bif decide ((0:Int)<=g)&&decide (g<(a:Int)) then (h[0+g.toNat]?).bind fun l=>z16 k n c b a e f (IntKind.i64.wrap (d+1)) (h.set (0+g.toNat) (PV.int .i64 0)) else none else R57 (c57 k b) fun i=>z17 k k c a i.length h i:=by kernel_rfl
theorem w8j (k n:Nat) c b a e d:z17 k (n+1) c b a e d=bif decide ((a:Int)>0) then bif decide ((0:Int)<(a:Int)) then (d[0]?).bind fun h=>(h.atInt .i64 0).bind fun g=>bif decide ((1:Int)<=(a:Int))&&decide ((a:Int)<=(a:Int)) then (q0e c g).bind fun i=>(i.atRow 0 0).bind fun f=>z18 k n k c b 1 (a-1) g f (f.length:Int) 0 e d else none else none else r229 (e.take b):=by kernel_rfl
theorem w8k (k m n:Nat) d a c b l f g e j h:z18 k m (n+1) d a c b l f g e j h=bif decide (e<g) then (q0e f e).bind fun q=>(q.atInt .i64 0).bind fun i=>bif decide ((0:Int)<=i)&&decide (i<(a:Int)) then (j[0+i.toNat]?).bind fun r=>(r.atInt .i64 0).bind fun o=>bif decide (o<0) then bif decide ((0:Int)<=l)&&decide (l<(a:Int)) then (j[0+l.toNat]?).bind fun s=>(s.atInt .i64 0).bind fun p=>bif decide ((0:Int)<=i)&&decide (i<(a:Int)) then (j[0+i.toNat]?).bind fun t=>bif decide ((b+1)*8<=LIM)&&decide (b+1<=LIM) then z57 k m n d a (b+1) l f g (IntKind.i64.wrap (e+1)) (j.set (0+i.toNat) (PV.int .i64 (IntKind.i64.wrap (p+1)))) ((((h).drop c).take b)++[PV.int .i64 i]) else none else none else none else z18 k m n d a c b l f g (IntKind.i64.wrap (e+1)) j h else none else z19 k m d a c b j h:=by kernel_rfl
theorem w8l (k l n:Nat) c a b j e f d i g:z57 k l (n+1) c a b j e f d i g=bif decide (d<f) then (q0e e d).bind fun p=>(p.atInt .i64 0).bind fun h=>bif decide ((0:Int)<=h)&&decide (h<(a:Int)) then (i[0+h.toNat]?).bind fun q=>(q.atInt .i64 0).bind fun m=>bif decide (m<0) then bif decide ((0:Int)<=j)&&decide (j<(a:Int)) then (i[0+j.toNat]?).bind fun r=>(r.atInt .i64 0).bind fun o=>bif decide ((0:Int)<=h)&&decide (h<(a:Int)) then (i[0+h.toNat]?).bind fun s=>bif decide ((b+1)*8<=LIM)&&decide (b+1<=LIM) then z57 k l n c a (b+1) j e f (IntKind.i64.wrap (d+1)) (i.set (0+h.toNat) (PV.int .i64 (IntKind.i64.wrap (o+1)))) ((g.take b)++[PV.int .i64 h]) else none else none else none else z57 k l n c a b j e f (IntKind.i64.wrap (d+1)) i g else none else z17 k l c a b i g:=by kernel_rfl
theorem y6l (k n:Nat) d b c a f e:z19 k (n+1) d b c a f e=bif decide ((a:Int)>0) then bif decide ((0:Int)<(a:Int)) then (e[c]?).bind fun i=>(i.atInt .i64 0).bind fun h=>bif decide ((1:Int)<=(a:Int))&&decide ((a:Int)<=(a:Int)) then (q0e d h).bind fun j=>(j.atRow 0 0).bind fun g=>z18 k n k d b (c+1) (a-1) h g (g.length:Int) 0 f e else none else none else r229 (f.take b):=by kernel_rfl
theorem n230 (k:Nat) a:c230 (k+1) a=bif ((a.length:Int)==(a.length:Int))&&decide ((0:Int)<=(a.length:Int))&&decide (a.length*24<=LIM)&&decide (a.length<=LIM) then z58 k k a.length a (a.length:Int) 0 (List.replicate a.length (PV.row 0 2 [])) else none:=by kernel_rfl
theorem w8m (k n:Nat) a c d b e:z58 k (n+1) a c d b e=bif decide (b<d) then (q0e c b).bind fun g=>(g.atRow 0 0).bind fun f=>z59 k n k a b c d b f (f.length:Int) 0 e else r230 (e.take a):=by kernel_rfl
theorem w8n (k m n:Nat) a l d e f g h c j:z59 k m (n+1) a l d e f g h c j=bif decide (c<h) then (q0e g c).bind fun o=>(o.atInt .i64 0).bind fun b=>bif decide ((0:Int)<=b)&&decide (b<(a:Int)) then (j[0+b.toNat]?).bind fun p=>(p.atRow 0 0).bind fun i=>bif decide ((i.length+1)*8<=LIM)&&decide (i.length+1<=LIM) then bif decide ((0:Int)<=b)&&decide (b<(a:Int)) then (j[0+b.toNat]?).bind fun q=>bif ((some (0+b.toNat):Option Nat)==some (0+b.toNat))&&decide (i.length+1<=(i++[PV.int .i64 l]).length) then z59 k m n a l d e f g h (IntKind.i64.wrap (c+1)) (j.set (0+b.toNat) (PV.row 0 0 ((i++[PV.int .i64 l]).take (i.length+1)))) else none else none else none else none else z58 k m a d e (IntKind.i64.wrap (f+1)) j:=by kernel_rfl
theorem n231 (k:Nat) p b c a d:c231 (k+1) p b c a d=z2a k k d 0 a (a.length:Int) 0 p b c a []:=by kernel_rfl
theorem w8o (k n:Nat) g a h d b f c l e i:z2a k (n+1) g a h d b f c l e i=bif decide (b<d) then (q0e h b).bind fun j=>bif j.shp 2 then (j.atRow 2 0).bind fun o=>(j.atRow 2 1).bind fun p=>R194 (c194 k f c l e o g) fun m=>bif m then bif decide ((a+1)*8<=LIM)&&decide (a+1<=LIM) then z2a k n g (a+1) h d (IntKind.i64.wrap (b+1)) f c l e ((i.take a)++[PV.int .i64 b]) else none else z2a k n g a h d (IntKind.i64.wrap (b+1)) f c l e i else none else r231 (i.take a):=by kernel_rfl
theorem n232 (k:Nat) p a b c d:c232 (k+1) p a b c d=y20 k k d 0 (IntKind.i64.wrap (a-1)) p a b c:=by kernel_rfl
theorem x60 (k n:Nat) d c v a b l e:y20 k (n+1) d c v a b l e=bif decide (v>=0) then bif !decide (IntKind.u64.wrap a<0) then (q0e d v).bind fun g=>(g.atInt .u64 0).bind fun f=>y20 k n d (IntKind.i64.wrap ((shlI .i64 c (IntKind.u64.wrap a))+(IntKind.i64.wrap f))) (IntKind.i64.wrap (v-1)) a b l e else none else r232 c:=by kernel_rfl
theorem n233 (k:Nat) p e f b a c:c233 (k+1) p e f b a c=bif decide ((0+a.length)*8<=LIM)&&decide (0+a.length<=LIM) then (q0e b c).bind fun g=>(g.atRow 2 1).bind fun d=>y21 k k a (0+a.length) d (d.length:Int) 0 p e f b ([]++a) else none:=by kernel_rfl
theorem w8p (k n:Nat) j a c d b h e l m g:y21 k (n+1) j a c d b h e l m g=bif decide (b<d) then (q0e c b).bind fun i=>bif i.shp 2 then (i.atInt .i64 0).bind fun f=>(i.atRow 2 1).bind fun o=>R244 (c244 k h o (IntKind.i64.wrap ((o.length:Int)-1)) j) fun p=>bif decide ((0:Int)<=f)&&decide (f<(a:Int)) then (g[0+f.toNat]?).bind fun q=>y21 k n j a c d (IntKind.i64.wrap (b+1)) h e l m (g.set (0+f.toNat) (PV.int .u64 p)) else none else none else r233 (g.take a):=by kernel_rfl
theorem n234 (k:Nat) a:c234 (k+1) a=bif decide (a>=1) then r234 (decide (a<=64)) else r234 false:=by kernel_rfl
theorem n235 (k:Nat) a:c235 (k+1) a=bif decide (a>=1) then r235 (decide (a<=4)) else r235 false:=by kernel_rfl
theorem w33 (k:Nat) d c a l b:x03 (k+1) d c a l b=x0k (x04 k d c a l b) fun v1 v2 l2 l3 v3=>x24 v1 v2 l2 l3 (decide (v3>=0)):=by kernel_rfl
theorem n237 (k:Nat) e b d a l c:c237 (k+1) e b d a l c=R238 (c238 k d a l c e b) fun f=>r237 d a l c (!f):=by kernel_rfl
theorem n238 (k:Nat) p b c d e a:c238 (k+1) p b c d e a=R107 (c107 k p b c d e) fun f=>bif !f then r238 false else z2b k k a (a.length:Int) 0 p b c d e a:=by kernel_rfl
theorem w8q (k n:Nat) c d a e b l g h f:z2b k (n+1) c d a e b l g h f=bif decide (a<d) then (q0e c a).bind fun j=>bif j.shp 2 then (j.atInt .i64 0).bind fun i=>(j.atRow 2 1).bind fun m=>bif decide (i<0) then r238 false else bif decide (i>=b) then r238 false else bif decide (a>0) then (q0e f (IntKind.i64.wrap (a-1))).bind fun r=>(r.atInt .i64 0).bind fun q=>bif decide (q>=i) then r238 false else R187 (c187 k e b m 1) fun o=>bif !o then r238 false else z2b k n c d (IntKind.i64.wrap (a+1)) e b l g h f else R187 (c187 k e b m 1) fun p=>bif !p then r238 false else z2b k n c d (IntKind.i64.wrap (a+1)) e b l g h f else none else r238 true:=by kernel_rfl
theorem n239 (k:Nat) b a t:c239 (k+1) b a t=R234 (c234 k b) fun c=>bif !c then r239 false else R235 (c235 k a) fun d=>bif !d then r239 false else bif decide ((t.length:Int)<1) then r239 false else bif decide ((t.length:Int)>48) then r239 false else y22 k k b a 0 t (t.length:Int) 0 []:=by kernel_rfl
theorem w8r (k n:Nat) c b a e f d h:y22 k (n+1) c b a e f d h=bif decide (d<f) then (q0e e d).bind fun g=>bif g.shp 2 then (g.atInt .i64 0).bind fun i=>(g.atInt .u64 1).bind fun l=>R274 (c274 k i) fun v1 v2 v3=>bif (v3==0) then r239 false else R275 (c275 k c b i l) fun j=>bif !j then r239 false else bif decide (IntKind.i64.wrap ((a:Int)-v1)<0) then r239 false else bif decide ((0:Int)<=IntKind.i64.wrap ((a:Int)-v1))&&decide (IntKind.i64.wrap ((a:Int)-v1)<=(a:Int))&&decide ((a:Int)<=(a:Int)) then x0n (y5u k ((h.drop (0+((IntKind.i64.wrap ((a:Int)-v1)).toNat))).take (a-((IntKind.i64.wrap ((a:Int)-v1)).toNat))) v2) fun v4 b2=>bif b2 then r239 false else bif decide ((0:Int)<=IntKind.i64.wrap ((a:Int)-v1))&&decide (IntKind.i64.wrap ((a:Int)-v1)<=(a:Int)) then bif decide ((((IntKind.i64.wrap ((a:Int)-v1)).toNat)+1)*8<=LIM)&&decide (((IntKind.i64.wrap ((a:Int)-v1)).toNat)+1<=LIM) then y22 k n c b (((IntKind.i64.wrap ((a:Int)-v1)).toNat)+1) e f (IntKind.i64.wrap (d+1)) ((h.take ((IntKind.i64.wrap ((a:Int)-v1)).toNat))++[PV.int .i64 v3]) else none else none else none else none else r239 ((a:Int)==1):=by kernel_rfl
theorem n240 (k:Nat) t:c240 (k+1) t=(q0e t (IntKind.i64.wrap ((t.length:Int)-1))).bind fun b=>(b.atInt .i64 0).bind fun a=>R274 (c274 k a) fun v1 v2 v3=>r240 v3:=by kernel_rfl
theorem n241 (k:Nat) p c d e v a:c241 (k+1) p c d e v a=R173 (c173 k v a) fun b=>y23 k k 0 b.length (b.length:Int) 0 p c d e v [] b:=by kernel_rfl
theorem w8s (k n:Nat) a b e c j d l h i m f:y23 k (n+1) a b e c j d l h i m f=bif decide (c<e) then bif decide ((0:Int)<=c)&&decide (c<(b:Int)) then (f[0+c.toNat]?).bind fun q=>(q.atInt .i64 0).bind fun p=>R68 (c68 k j d l h p) fun g=>bif decide ((a+g.length)*8<=LIM)&&decide (a+g.length<=LIM) then y23 k n (a+g.length) b e (IntKind.i64.wrap (c+1)) j d l h i ((m.take a)++g) f else none else none else q52 (c130 k i (m.take a)) fun o=>r241 (o.take o.length):=by kernel_rfl
theorem n242 (k:Nat) b a l d c:c242 (k+1) b a l d c=R56 (c56 k 2 l d c) fun l1 v1 v2 v3=>R151 (c151 k b a v3 l1 v1 v2) fun l2 v4 v5 l3=>z6 k k b a 0 l2 v4 v5 [] [] l3.length 0 l3 []:=by kernel_rfl
theorem w8t (k n:Nat) c b v l j f h i d a g e:z6 k (n+1) c b v l j f h i d a g e=bif decide (v<b) then R120 (c120 k 2 l j f) fun l3 v1 v2 b1=>bif b1 then R214 (c214 k c b 1 l3 v1 v2) fun l4 v3 v4 l5=>bif decide ((a+1)*32<=LIM)&&decide (a+1<=LIM) then z6 k n c b (IntKind.i64.wrap (v+1)) l4 v3 v4 h i d (a+1) g ((e.take a)++[PV.agg [.int .i64 v,.row 2 0 (l5.take l5.length)]]) else none else z6 k n c b (IntKind.i64.wrap (v+1)) l3 v1 v2 h i d a g e else r242 l j f (g.take d) (e.take a):=by kernel_rfl
theorem n244 (k:Nat) b t c a:c244 (k+1) b t c a=(q0e t c).bind fun e=>bif e.shp 2 then (e.atInt .i64 0).bind fun d=>(e.atInt .u64 1).bind fun g=>R246 (c246 k d) fun v1 v2 v3=>bif (d==2) then (q0e a g).bind fun i=>(i.atInt .u64 0).bind fun h=>r244 h else bif (v1==0) then r244 g else bif (d==13) then R244 (c244 k b t (IntKind.i64.wrap (c-1)) a) fun j=>R267 (c267 k b (q0o .xor .u64 18446744073709551615 j)) fun l=>r244 l else bif (d==19) then R244 (c244 k b t (IntKind.i64.wrap (c-1)) a) fun m=>r244 (IntKind.u64.wrap (1-m)) else R278 (c278 k t (IntKind.i64.wrap (c-1))) fun o=>R244 (c244 k b t (IntKind.i64.wrap (o-1)) a) fun p=>R244 (c244 k b t (IntKind.i64.wrap (c-1)) a) fun q=>R277 (c277 k b d p q) fun f=>r244 f else none:=by kernel_rfl
theorem n245 (k:Nat) a:c245 (k+1) a=R140 (c140 k a 1 64) fun b=>r245 b:=by kernel_rfl
theorem n246 (k:Nat) a:c246 (k+1) a=bif (a==1) then r246 0 1 1 else bif (a==2) then r246 0 1 1 else bif (a==20) then r246 0 2 2 else bif (a==13) then r246 1 1 1 else bif (a==19) then r246 1 2 2 else R140 (c140 k a 3 12) fun b=>bif b then r246 2 1 1 else R140 (c140 k a 14 16) fun c=>bif c then r246 2 1 2 else bif (a==17) then r246 2 2 2 else bif (a==18) then r246 2 2 2 else r246 0 0 0:=by kernel_rfl
theorem n247 (k:Nat) c b d a:c247 (k+1) c b d a=bif (d==1) then R279 (c279 k c a) fun e=>r247 e else bif (d==2) then r247 (decide (a<IntKind.u64.wrap b)) else bif (d==20) then r247 (decide (a<2)) else r247 (a==0):=by kernel_rfl
theorem n248 (k:Nat) g:c248 (k+1) g=bif ((g.length:Int)==(g.length:Int))&&decide ((0:Int)<=(g.length:Int))&&decide (g.length*24<=LIM)&&decide (g.length<=LIM) then z6a k k g.length g (g.length:Int) 0 (List.replicate g.length (PV.row 0 2 [])) else none:=by kernel_rfl
theorem w8u (k n:Nat) a c d b e:z6a k (n+1) a c d b e=bif decide (b<d) then (q0e c b).bind fun g=>(g.atRow 0 0).bind fun f=>z6b k n k a b c d b f (f.length:Int) 0 e else r248 (e.take a):=by kernel_rfl
theorem w8v (k l n:Nat) a v d e f g h c j:z6b k l (n+1) a v d e f g h c j=bif decide (c<h) then (q0e g c).bind fun m=>(m.atInt .i64 0).bind fun b=>bif decide ((0:Int)<=b)&&decide (b<(a:Int)) then (j[0+b.toNat]?).bind fun o=>(o.atRow 0 0).bind fun i=>bif decide ((i.length+1)*8<=LIM)&&decide (i.length+1<=LIM) then bif decide ((0:Int)<=b)&&decide (b<(a:Int)) then (j[0+b.toNat]?).bind fun p=>bif ((some (0+b.toNat):Option Nat)==some (0+b.toNat))&&decide (i.length+1<=(i++[PV.int .i64 v]).length) then z6b k l n a v d e f g h (IntKind.i64.wrap (c+1)) (j.set (0+b.toNat) (PV.row 0 0 ((i++[PV.int .i64 v]).take (i.length+1)))) else none else none else none else none else z6a k l a d e (IntKind.i64.wrap (f+1)) j:=by kernel_rfl
theorem n249 (k:Nat) b l a:c249 (k+1) b l a=(q0e l b).bind fun e=>(e.atInt .i64 0).bind fun c=>(q0e l a).bind fun f=>(f.atInt .i64 0).bind fun d=>r249 (c==IntKind.i64.wrap (d-1)):=by kernel_rfl
theorem n251 (k:Nat) x y:c251 (k+1) x y=r251 (IntKind.u64.wrap ((IntKind.u64.wrap ((IntKind.u64.wrap ((shrI .u64 x 32)*(shrI .u64 y 32)))+(shrI .u64 (IntKind.u64.wrap ((IntKind.u64.wrap ((shrI .u64 x 32)*(q0o .and .u64 y 4294967295)))+(shrI .u64 (IntKind.u64.wrap ((q0o .and .u64 x 4294967295)*(q0o .and .u64 y 4294967295))) 32))) 32)))+(shrI .u64 (IntKind.u64.wrap ((q0o .and .u64 (IntKind.u64.wrap ((IntKind.u64.wrap ((shrI .u64 x 32)*(q0o .and .u64 y 4294967295)))+(shrI .u64 (IntKind.u64.wrap ((q0o .and .u64 x 4294967295)*(q0o .and .u64 y 4294967295))) 32))) 4294967295)+(IntKind.u64.wrap ((q0o .and .u64 x 4294967295)*(shrI .u64 y 32))))) 32))) (IntKind.u64.wrap (x*y)):=by kernel_rfl
theorem n263 (k:Nat) c a b:c263 (k+1) c a b=R286 (c286 k c a b) fun d=>bif !d then r263 0 0 false else bif (b==0) then R150 (c150 k c) fun e=>r263 e a true else R287 (c287 k 0 a b) fun v2 v3=>r263 v2 v3 true:=by kernel_rfl
theorem n264 (k:Nat) c a b d:c264 (k+1) c a b d=bif decide (b>=IntKind.u64.wrap c) then r264 0 else bif d then bif !decide (b<0) then R150 (c150 k c) fun e=>r264 (q0o .and .u64 (shlI .u64 a b) e) else none else bif !decide (b<0) then r264 (shrI .u64 a b) else none:=by kernel_rfl
theorem n265 (k:Nat) a:c265 (k+1) a=bif a then r265 1 else r265 0:=by kernel_rfl
theorem n266 (k:Nat) b a:c266 (k+1) b a=bif !decide (IntKind.i64.wrap (64-b)<0) then bif !decide (IntKind.i64.wrap (64-b)<0) then r266 (shrI .i64 (IntKind.i64.wrap (shlI .u64 a (IntKind.i64.wrap (64-b)))) (IntKind.i64.wrap (64-b))) else none else none:=by kernel_rfl
theorem n267 (k:Nat) b a:c267 (k+1) b a=y24 k k b a 0 0:=by kernel_rfl
theorem w8w (k n:Nat) b a c d:y24 k (n+1) b a c d=bif decide (d<b) then bif !decide (IntKind.u64.wrap d<0) then y24 k n b a (q0o .or .u64 c (q0o .and .u64 a (shlI .u64 1 (IntKind.u64.wrap d)))) (IntKind.i64.wrap (d+1)) else none else r267 c:=by kernel_rfl
theorem n268 (k:Nat) b a t c:c268 (k+1) b a t c=R239 (c239 k b a t) fun d=>bif !d then r268 [] false else bif ((c.length:Int) != a) then r268 [] false else y0p (y03 k c b a) fun v1 v2 b2=>bif b2 then r268 [] false else z6c k k c 0 t (t.length:Int) 0 v1 v2 []:=by kernel_rfl
theorem w8x (k n:Nat) c a e f b h d i:z6c k (n+1) c a e f b h d i=bif decide (b<f) then (q0e e b).bind fun j=>bif j.shp 2 then (j.atInt .i64 0).bind fun l=>(j.atInt .u64 1).bind fun m=>bif (l==2) then (q0e c m).bind fun o=>(o.atRow 2 0).bind fun g=>bif decide ((a+g.length)*16<=LIM)&&decide (a+g.length<=LIM) then z6c k n c (a+g.length) e f (IntKind.i64.wrap (b+1)) h d ((i.take a)++g) else none else bif decide ((a+1)*16<=LIM)&&decide (a+1<=LIM) then z6c k n c (a+1) e f (IntKind.i64.wrap (b+1)) h d ((i.take a)++[PV.agg [.int .i64 l,.int .u64 m]]) else none else none else R289 (c289 k h d (i.take a)) fun l2 b1=>r268 l2 b1:=by kernel_rfl
theorem n269 (k:Nat) a:c269 (k+1) a=y25 k k a 0 a (a.length:Int) 0:=by kernel_rfl
theorem w8y (k n:Nat) a b e d c:y25 k (n+1) a b e d c=bif decide (c<d) then (q0e e c).bind fun h=>(h.atRow 2 0).bind fun f=>bif decide (IntKind.i64.wrap (b+(f.length:Int))<0) then none else y25 k n a (IntKind.i64.wrap (b+(f.length:Int))) e d (IntKind.i64.wrap (c+1)) else R290 (c290 k [] b) fun g=>y26 k k g.length a (a.length:Int) 0 g:=by kernel_rfl
theorem w8z (k n:Nat) a c d b f:y26 k (n+1) a c d b f=bif decide (b<d) then (q0e c b).bind fun g=>(g.atRow 2 0).bind fun e=>bif decide ((a+e.length)*16<=LIM)&&decide (a+e.length<=LIM) then y26 k n (a+e.length) c d (IntKind.i64.wrap (b+1)) ((f.take a)++e) else none else r269 (f.take a):=by kernel_rfl
theorem n270 (k:Nat) p b c d t a:c270 (k+1) p b c d t a=x0o (y5v k a p b c d t) fun e=>r270 (!e):=by kernel_rfl
theorem n271 (k:Nat) a b:c271 (k+1) a b=bif ((a.length:Int) != (b.length:Int)) then r271 false else y27 k k a b (a.length:Int) 0:=by kernel_rfl
theorem w80 (k n:Nat) a b d c:y27 k (n+1) a b d c=bif decide (c<d) then (q0e a c).bind fun e=>bif e.shp 2 then (e.atInt .i64 0).bind fun g=>(e.atInt .u64 1).bind fun h=>(q0e b c).bind fun f=>bif f.shp 2 then (f.atInt .i64 0).bind fun i=>(f.atInt .u64 1).bind fun j=>bif (!((g==i)&&((h==j)&&true))) then r271 false else y27 k n a b d (IntKind.i64.wrap (c+1)) else none else none else r271 true:=by kernel_rfl
theorem n272 (k:Nat) c a t b:c272 (k+1) c a t b=R292 (c292 k c a t) fun d=>bif !d then r272 [] false else bif ((b.length:Int) != a) then r272 [] false else z6d k k c a t b b (b.length:Int) 0:=by kernel_rfl
theorem w81 (k n:Nat) b a t d e f c:z6d k (n+1) b a t d e f c=bif decide (c<f) then (q0e e c).bind fun h=>(h.atRow 2 0).bind fun g=>R196 (c196 k b a g) fun i=>bif (i != 1) then r272 [] false else z6d k n b a t d e f (IntKind.i64.wrap (c+1)) else z2c k k b a d 0 t (t.length:Int) 0 []:=by kernel_rfl
theorem w82 (k n:Nat) c b e a f g d i:z2c k (n+1) c b e a f g d i=bif decide (d<g) then (q0e f d).bind fun j=>bif j.shp 2 then (j.atInt .i64 0).bind fun l=>(j.atInt .u64 1).bind fun m=>bif (l==2) then (q0e e m).bind fun o=>(o.atRow 2 0).bind fun h=>bif decide ((a+h.length)*16<=LIM)&&decide (a+h.length<=LIM) then z2c k n c b e (a+h.length) f g (IntKind.i64.wrap (d+1)) ((i.take a)++h) else none else bif decide ((a+1)*16<=LIM)&&decide (a+1<=LIM) then z2c k n c b e (a+1) f g (IntKind.i64.wrap (d+1)) ((i.take a)++[PV.agg [.int .i64 l,.int .u64 m]]) else none else none else R293 (c293 k c b (i.take a)) fun l2 b1=>r272 l2 b1:=by kernel_rfl
theorem w34 (k:Nat) b d a l c:x04 (k+1) b d a l c=q6p k k b (b.length:Int) 0 d a l c:=by kernel_rfl
theorem x5g (k n:Nat) f g b d a l c:q6p k (n+1) f g b d a l c=bif decide (b<g) then (q0e f b).bind fun e=>bif e.shp 2 then (e.atRow 2 0).bind fun h=>(e.atRow 2 1).bind fun i=>R237 (c237 k h i d a l c) fun v1 v2 l4 l5 b1=>bif b1 then z4f v1 v2 l4 l5 b else q6p k n f g (IntKind.i64.wrap (b+1)) v1 v2 l4 l5 else none else z4f d a l c (-1):=by kernel_rfl
theorem n274 (k:Nat) a:c274 (k+1) a=bif (a==1) then r274 0 0 1 else bif (a==2) then r274 0 0 1 else bif (a==20) then r274 0 0 2 else bif (a==13) then r274 1 1 1 else bif (a==19) then r274 1 2 2 else bif decide (a>=3) then bif decide (a<=12) then r274 2 1 1 else bif decide (a>=14) then bif decide (a<=16) then r274 2 1 2 else bif (a==17) then r274 2 2 2 else bif (a==18) then r274 2 2 2 else r274 0 0 0 else bif (a==17) then r274 2 2 2 else bif (a==18) then r274 2 2 2 else r274 0 0 0 else bif decide (a>=14) then bif decide (a<=16) then r274 2 1 2 else bif (a==17) then r274 2 2 2 else bif (a==18) then r274 2 2 2 else r274 0 0 0 else bif (a==17) then r274 2 2 2 else bif (a==18) then r274 2 2 2 else r274 0 0 0:=by kernel_rfl
theorem n275 (k:Nat) b a x c:c275 (k+1) b a x c=bif (x==1) then R294 (c294 k b c) fun d=>r275 d else bif (x==2) then r275 (decide (c<IntKind.u64.wrap a)) else bif (x==20) then r275 (decide (c<=1)) else r275 (c==0):=by kernel_rfl
theorem n276 (k:Nat) a b:c276 (k+1) a b=r276 b (a != b):=by kernel_rfl
theorem n277 (k:Nat) c d a b:c277 (k+1) c d a b=R295 (c295 k c a b) fun v1 v2 b1=>bif (d==3) then R267 (c267 k c (IntKind.u64.wrap (a+b))) fun h=>r277 h else bif (d==4) then R267 (c267 k c (IntKind.u64.wrap (a-b))) fun i=>r277 i else bif (d==5) then R267 (c267 k c (IntKind.u64.wrap (a*b))) fun j=>r277 j else bif (d==6) then r277 v1 else bif (d==7) then r277 v2 else bif (d==8) then r277 (q0o .and .u64 a b) else bif (d==17) then r277 (q0o .and .u64 a b) else bif (d==9) then r277 (q0o .or .u64 a b) else bif (d==18) then r277 (q0o .or .u64 a b) else bif (d==10) then r277 (q0o .xor .u64 a b) else bif (d==11) then R296 (c296 k c a b true) fun l=>r277 l else bif (d==12) then R296 (c296 k c a b false) fun m=>r277 m else bif (d==14) then R297 (c297 k (a==b)) fun o=>r277 o else bif (d==15) then R297 (c297 k (decide (a<b))) fun p=>r277 p else bif (d==16) then R298 (c298 k c a) fun e=>R298 (c298 k c b) fun f=>R297 (c297 k (decide (e<f))) fun g=>r277 g else r277 0:=by kernel_rfl
theorem n278 (k:Nat) t a:c278 (k+1) t a=(q0e t a).bind fun c=>(c.atInt .i64 0).bind fun b=>R246 (c246 k b) fun v1 v2 v3=>q9r k k t v1 a:=by kernel_rfl
theorem x61 (k n:Nat) t b a:q9r k (n+1) t b a=bif decide (b>0) then R278 (c278 k t (IntKind.i64.wrap (a-1))) fun c=>q9r k n t (IntKind.i64.wrap (b-1)) c else r278 a:=by kernel_rfl
theorem n279 (k:Nat) b a:c279 (k+1) b a=R245 (c245 k b) fun c=>bif c then R267 (c267 k b a) fun d=>r279 (d==a) else r279 false:=by kernel_rfl
theorem n286 (k:Nat) c a b:c286 (k+1) c a b=R294 (c294 k c a) fun d=>bif d then R294 (c294 k c b) fun e=>r286 e else r286 false:=by kernel_rfl
theorem n287 (k:Nat) c b y:c287 (k+1) c b y=bif (y==0) then none else bif decide (y<=c) then none else bif (c==0) then bif !(y==0) then bif !(y==0) then r287 (IntKind.u64.wrap (b.tdiv y)) (b.tmod y) else none else none else R300 (c300 k y) fun a=>bif !decide (IntKind.u64.wrap a<0) then bif !decide (IntKind.u64.wrap a<0) then bif !decide (IntKind.u64.wrap (64-(IntKind.u64.wrap a))<0) then bif !decide (IntKind.u64.wrap a<0) then bif !(shrI .u64 (shlI .u64 y (IntKind.u64.wrap a)) 32==0) then w9h k k (shlI .u64 y (IntKind.u64.wrap a)) (IntKind.u64.wrap a) (shrI .u64 (shlI .u64 y (IntKind.u64.wrap a)) 32) (q0o .and .u64 (shlI .u64 y (IntKind.u64.wrap a)) 4294967295) (q0o .or .u64 (shlI .u64 c (IntKind.u64.wrap a)) (shrI .u64 b (IntKind.u64.wrap (64-(IntKind.u64.wrap a))))) (shrI .u64 (shlI .u64 b (IntKind.u64.wrap a)) 32) (q0o .and .u64 (shlI .u64 b (IntKind.u64.wrap a)) 4294967295) (IntKind.u64.wrap ((q0o .or .u64 (shlI .u64 c (IntKind.u64.wrap a)) (shrI .u64 b (IntKind.u64.wrap (64-(IntKind.u64.wrap a))))).tdiv (shrI .u64 (shlI .u64 y (IntKind.u64.wrap a)) 32))) (IntKind.u64.wrap ((q0o .or .u64 (shlI .u64 c (IntKind.u64.wrap a)) (shrI .u64 b (IntKind.u64.wrap (64-(IntKind.u64.wrap a)))))-(IntKind.u64.wrap ((IntKind.u64.wrap ((q0o .or .u64 (shlI .u64 c (IntKind.u64.wrap a)) (shrI .u64 b (IntKind.u64.wrap (64-(IntKind.u64.wrap a))))).tdiv (shrI .u64 (shlI .u64 y (IntKind.u64.wrap a)) 32)))*(shrI .u64 (shlI .u64 y (IntKind.u64.wrap a)) 32))))) else none else none else none else none else none:=by kernel_rfl
theorem n288 (k:Nat) b c a:c288 (k+1) b c a=R187 (c187 k c a b 1) fun d=>r288 c a (!d):=by kernel_rfl
theorem n289 (k:Nat) b a t:c289 (k+1) b a t=R239 (c239 k b a t) fun c=>bif !c then r289 [] false else r289 t true:=by kernel_rfl
theorem n290 (k:Nat) a b:c290 (k+1) a b=bif decide (b<0) then none else bif decide (IntKind.i64.wrap (b-(IntKind.i64.wrap (0-(a.length:Int))))>0) then bif decide ((0:Int)<=(a.length:Int)) then bif decide ((0:Int)<IntKind.i64.wrap (b-(IntKind.i64.wrap (0-(a.length:Int)))))&&decide (((IntKind.i64.wrap (b-(IntKind.i64.wrap (0-(a.length:Int))))).toNat)*16<=LIM)&&decide ((IntKind.i64.wrap (b-(IntKind.i64.wrap (0-(a.length:Int))))).toNat<=LIM) then bif decide ((0:Int)<=(a.length:Int))&&decide ((a.length:Int)<=((IntKind.i64.wrap (b-(IntKind.i64.wrap (0-(a.length:Int))))).toNat:Int)) then r290 ((List.replicate ((IntKind.i64.wrap (b-(IntKind.i64.wrap (0-(a.length:Int))))).toNat) (PV.agg [.int .i64 0,.int .u64 0])).take a.length) else none else none else none else r290 []:=by kernel_rfl
theorem n291 (k:Nat) e c a l b d:c291 (k+1) e c a l b d=R70 (c70 k c a l b e) fun g=>R69 (c69 k c a l b d g) fun f=>r291 (!f):=by kernel_rfl
theorem n292 (k:Nat) b a t:c292 (k+1) b a t=R196 (c196 k b a t) fun c=>r292 (decide (c>0)):=by kernel_rfl
theorem n293 (k:Nat) b a t:c293 (k+1) b a t=R292 (c292 k b a t) fun c=>bif !c then r293 [] false else r293 t true:=by kernel_rfl
theorem n294 (k:Nat) b a:c294 (k+1) b a=R234 (c234 k b) fun c=>bif c then R150 (c150 k b) fun d=>r294 (decide (a<=d)) else r294 false:=by kernel_rfl
theorem n295 (k:Nat) c a b:c295 (k+1) c a b=R301 (c301 k c a b) fun d=>bif !d then r295 0 0 false else bif (b==0) then R267 (c267 k c 18446744073709551615) fun e=>r295 e a true else bif !(b==0) then bif !(b==0) then r295 (IntKind.u64.wrap (a.tdiv b)) (a.tmod b) true else none else none:=by kernel_rfl
theorem n296 (k:Nat) b a d c:c296 (k+1) b a d c=bif decide (d>=IntKind.u64.wrap b) then r296 0 else z6e k k b a d c:=by kernel_rfl
theorem w83 (k n:Nat) c a d b:z6e k (n+1) c a d b=bif decide (d>0) then bif b then R267 (c267 k c (shlI .u64 a 1)) fun e=>z6e k n c e (IntKind.u64.wrap (d-1)) b else z6e k n c (shrI .u64 a 1) (IntKind.u64.wrap (d-1)) b else r296 a:=by kernel_rfl
theorem n297 (k:Nat) a:c297 (k+1) a=bif a then r297 1 else r297 0:=by kernel_rfl
theorem n298 (k:Nat) b a:c298 (k+1) b a=bif !decide (IntKind.u64.wrap (IntKind.i64.wrap (b-1))<0) then bif (q0o .and .u64 (shrI .u64 a (IntKind.u64.wrap (IntKind.i64.wrap (b-1)))) 1==1) then R267 (c267 k b 18446744073709551615) fun c=>r298 (IntKind.i64.wrap (q0o .or .u64 a (q0o .xor .u64 18446744073709551615 c))) else r298 (IntKind.i64.wrap a) else none:=by kernel_rfl
theorem n301 (k:Nat) c a b:c301 (k+1) c a b=R279 (c279 k c a) fun d=>bif d then R279 (c279 k c b) fun e=>r301 e else r301 false:=by kernel_rfl
structure CodeOK (bs:List Nat):Prop where
 len:bs.length<=1048576
 lt:∀ b∈bs,b<256
theorem w0d (x:Int):0<=q0o .and .u64 x 255 /\ q0o .and .u64 x 255<=255:=by
 have e:q0o .and .u64 x 255=wi (BitVec.ofInt 64 x &&& 255#64):=by
  show IntKind.u64.wrap (((BitVec.ofInt 64 x) &&& (BitVec.ofInt 64 255)).toNat:Int)=_
  exact q9n _
 rw [e];refine ⟨q4m _,?_⟩;unfold wi;rw [BitVec.toNat_and]
 have:=Nat.and_le_right (n:=(BitVec.ofInt 64 x).toNat) (m:=(255#64).toNat)
 have h2:(255#64).toNat=255:=rfl;omega
theorem x6h {bs:List Nat} (hc:CodeOK bs) {k:Nat} (hk:1<=k) {at':Int} (h0:0<=at') (h1:at'<=1000000000) (s:W) :
  ∃ s2 v,c136 k (encB bs) at' (wi s)=r136 (encB bs) (at'+1) (wi s2) v /\ 0<=v /\ v<=255:=by
 obtain ⟨k,rfl⟩:=k01 (k:=k) (by omega);rw [n136,q0g (n:=at'+1) (by omega) (by omega)];simp only [q4c];have hl:=hc.len;cases hd:decide (at'<((encB bs).length:Int))
 ·simp only [cond_false];cases hd2:decide (at'+1<=((encB bs).length:Int))
  ·simp only [cond_false];have h3:=w0d (shrI .u64 (wi (BitVec.ofInt 64 (wi (BitVec.ofInt 64 (wi (BitVec.ofInt 64 (wi s*6364136223846793005))+0))+1442695040888963407))) 40);exact ⟨_,_,rfl,by rw [q0g (by omega) (by omega)];exact h3⟩
  ·simp only [cond_true];exact ⟨_,_,rfl,by omega,by omega⟩
 ·simp only [cond_true];simp only [q7r,decide_eq_true_eq] at hd;have hlt:at'.toNat<bs.length:=by omega
  have hlk:q0e (encB bs) at'=some (.int .u8 (bs[at'.toNat]:Int)):=by
   rw [q5p h0,x1j];simp [hlt]
  have hb:=hc.lt bs[at'.toNat] (List.getElem_mem hlt);rw [hlk];simp only [Option.bind_some,q0d];rw [q0g (n:=(bs[at'.toNat]:Int)) (by omega) (by omega)];cases hd2:decide (at'+1<=((encB bs).length:Int))
  ·simp only [cond_false];have h3:=w0d (shrI .u64 (wi (BitVec.ofInt 64 (wi (BitVec.ofInt 64 (wi (BitVec.ofInt 64 (wi s*6364136223846793005))+wi (BitVec.ofInt 64 (bs[at'.toNat]:Int))))+1442695040888963407))) 40);exact ⟨_,_,rfl,by rw [q0g (by omega) (by omega)];exact h3⟩
  ·simp only [cond_true];exact ⟨_,_,rfl,by omega,by omega⟩
theorem q1w {bs:List Nat} (hc:CodeOK bs) {k:Nat} (hk:2<=k) {at':Int} (h0:0<=at') (h1:at'<=999999000) (s:W) (n:Int) :
  ∃ a2 s2 v,c56 k n (encB bs) at' (wi s)=r56 (encB bs) a2 (wi s2) v /\ at'<=a2 /\ a2<=at'+2 /\ 0<=v /\ (1<=n->v<n) /\ (n<=1->v=0) /\ v<=65535:=by
 obtain ⟨k,rfl⟩:=k01 (k:=k) (by omega);rw [n56];cases hd:decide (n<=1)
 ·simp only [cond_false];simp at hd;obtain ⟨s2,v,h,hv0,hv1⟩:=x6h hc (k:=k) (by omega) h0 (by omega) s;rw [h];simp only [x9l];have hn0:(n==0)=false:=by simp;omega
  cases hd2:decide (n>200)
  ·simp only [cond_false,hn0,Bool.not_false,cond_true];have h5:=Int.tmod_lt_of_pos v (b:=n) (by omega);have h6:=Int.tmod_nonneg n hv0;have h7:v.tmod n<=v:=by rw [Int.tmod_eq_emod_of_nonneg hv0];exact z6v hv0 (by omega)
   exact ⟨_,_,_,rfl,by omega,by omega,h6,fun _=>h5,by omega,by omega⟩
  ·simp only [cond_true,hn0,Bool.not_false];obtain ⟨s3,v3,h3,hv2,hv3⟩:=x6h hc (k:=k) (by omega) (at':=at'+1) (by omega) (by omega) s2;rw [h3];simp only [x9l,cond_true];rw [q0g (n:=v*256) (by omega) (by omega),q0g (n:=v*256+v3) (by omega) (by omega)];have h5:=Int.tmod_lt_of_pos (v*256+v3) (b:=n) (by omega);have h6:=Int.tmod_nonneg n (a:=v*256+v3) (by omega);have h7:(v*256+v3).tmod n<=v*256+v3:=by rw [Int.tmod_eq_emod_of_nonneg (by omega)];exact z6v (by omega) (by omega)
   exact ⟨_,_,_,rfl,by omega,by omega,h6,fun _=>h5,by omega,by omega⟩
 ·simp only [cond_true];simp at hd;exact ⟨_,_,_,rfl,by omega,by omega,by omega,by omega,fun _=>rfl,by omega⟩
theorem q3r {bs:List Nat} (hc:CodeOK bs) {k:Nat} (hk:3<=k) {at':Int} (h0:0<=at') (h1:at'<=999999000) (s:W) (n:Int) :
  ∃ a2 s2 b,c120 k n (encB bs) at' (wi s)=r120 (encB bs) a2 (wi s2) b /\ at'<=a2 /\ a2<=at'+2:=by
 obtain ⟨k,rfl⟩:=k01 (k:=k) (by omega);obtain ⟨a2,s2,v,h,h2,h3,_⟩:=q1w hc (k:=k) (by omega) h0 h1 s n;rw [n120,h];simp only [q2s];exact ⟨_,_,_,rfl,h2,h3⟩
theorem q5f {bs:List Nat} (hc:CodeOK bs) {k:Nat} (hk:3<=k) {at':Int} (h0:0<=at') (h1:at'<=999999000) (s:W) (L:List Int) (hL:1<=L.length) :
  ∃ a2 s2 v,c177 k (encZ L) (encB bs) at' (wi s)=r177 (encB bs) a2 (wi s2) v /\ at'<=a2 /\ a2<=at'+2 /\ v∈L:=by
 obtain ⟨k,rfl⟩:=k01 (k:=k) (by omega);obtain ⟨a2,s2,v,h,h2,h3,h4,h5,_⟩:=q1w hc (k:=k) (by omega) h0 h1 s (L.length:Int);rw [n177,q0b,h];simp only [q2s];have hv:=h5 (by omega);have hlt:v.toNat<L.length:=by omega
 have e:v=(v.toNat:Int):=by omega
 have hlk:q0e (encZ L) v=some (.int .i64 L[v.toNat]):=by
  rw [q5p h4,q1r];simp [hlt]
 rw [hlk];simp only [Option.bind_some,q0d];exact ⟨_,_,_,rfl,h2,h3,List.getElem_mem hlt⟩
def q3u (n:Nat):W:=BitVec.allOnes 64 >>> (64-n)
theorem z7c {n:Nat} (hn:n<=64) (i:Nat):(q3u n).getLsbD i=decide (i<n):=by
 unfold q3u;rw [BitVec.getLsbD_ushiftRight,BitVec.getLsbD_allOnes];by_cases h:i<n <;> simp <;> omega
theorem y6a {k:Nat} (hk:1<=k) {wide:Int} (h1:0<=wide) (h2:wide<=64):c150 k wide=r150 (wi (q3u wide.toNat)):=by
 obtain ⟨k,rfl⟩:=k01 (k:=k) (by omega);rw [n150,q0g (by omega) (by omega)];have hd:decide (64-wide<0)=false:=by simp;omega
 simp only [hd,Bool.not_false,cond_true];have e:(18446744073709551615:Int)=wi (BitVec.allOnes 64):=rfl;rw [e,z24 _ (by omega)]
 have:(64-wide).toNat=64-wide.toNat:=by omega
 rw [this];rfl
theorem w2x (a:W) (j:Nat) (hj:j<64):(a &&& q3u j) ||| (a &&& (1#64 <<< j))=a &&& q3u (j+1):=by
 apply BitVec.eq_of_getLsbD_eq;intro i hi;rw [BitVec.getLsbD_or,BitVec.getLsbD_and,BitVec.getLsbD_and,BitVec.getLsbD_and,z7c (by omega),z7c (by omega)];rw [BitVec.getLsbD_shiftLeft,BitVec.getLsbD_one];by_cases h1:i<j
 ·have:i<j+1:=by omega
  simp [h1,this]
 ·by_cases h2:i=j
  ·subst h2;simp;omega
  ·have h3:¬ i<j+1:=by omega
   have h4:¬ (i-j=0):=by omega
   simp [h1,h3,h4]
theorem x51 {wide:Int} (h2:wide<=64) (a:W) (k:Nat):∀ (m n:Nat) (j:Nat),(wide-j).toNat<=m->m<n->(j:Int)<=wide->y24 k n wide (wi a) (wi (a &&& q3u j)) (j:Int)=r267 (wi (a &&& q3u wide.toNat))
 | m,0,j,hm,hn,hj=>by omega
 | m,n+1,j,hm,hn,hj=>by
  rw [w8w];by_cases h:(j:Int)<wide
  ·have hd:decide ((j:Int)<wide)=true:=by simpa using h
   rw [q48 (n:=(j:Int)) (by omega) (by omega)];have hd2:decide ((j:Int)<0)=false:=by simp
   have e1:(1:Int)=wi (1#64):=rfl;simp only [hd,hd2,cond_true,Bool.not_false];rw [e1,y5 _ (by omega),q6q,y96,<- e1,Int.toNat_natCast,w2x a j (by omega),q0g (by omega) (by omega)];have e2:(j:Int)+1=((j+1:Nat):Int):=by omega
   rw [e2];cases m with
   | zero=>omega
   | succ m=>exact x51 h2 a k m n (j+1) (by omega) (by omega) (by omega)
  ·have hd:decide ((j:Int)<wide)=false:=by simpa using h
   simp only [hd,cond_false]
   have:wide.toNat=j:=by omega
   rw [this]
theorem y31 {k:Nat} (hk:70<=k) {wide:Int} (h1:0<=wide) (h2:wide<=64) (a:W):c267 k wide (wi a)=r267 (wi (a &&& q3u wide.toNat)):=by
 obtain ⟨k,rfl⟩:=k01 (k:=k) (by omega);rw [n267];have e0:(0:Int)=wi (a &&& q3u 0):=by
  have:q3u 0=0#64:=by rfl
  rw [this];simp [wi]
 have:=x51 h2 a k wide.toNat k 0 (by omega) (by omega) (by omega)
 rw [<- e0] at this;exact this
theorem y8c {bs:List Nat} (hc:CodeOK bs) {wide vars:Int} (hw0:0<=wide) (hw:wide<=64) (hv:1<=vars) (hv2:vars<=100):∀ (d:Nat) {k:Nat} (hk:80+d<=k) (hd:d<=16) {at':Int} (h0:0<=at') (h1:at'+(20*2 ^ d:Nat)<=900000000) (s:W),
  ∃ a2 s2 t,c214 k wide vars (d:Int) (encB bs) at' (wi s)=r214 (encB bs) a2 (wi s2) (encT t) /\ at'<=a2 /\ a2<=at'+(20*(2 ^ d:Nat)-10:Nat) /\ 1<=t.length /\ t.length+1<=2 ^ (d+1)
 | 0,k,hk,hd,at',h0,h1,s=>by
  obtain ⟨k,rfl⟩:=k01 (k:=k) (by omega);rw [n214];have e:(((0:Nat):Int)==0)=true:=rfl;simp only [e,cond_true];obtain ⟨a2,s2,b,h,h2,h3⟩:=q3r hc (k:=k) (by omega) h0 (by omega) s 2;rw [h];simp only [q3n];cases b
  ·simp only [cond_false];obtain ⟨a3,s3,v,h,h4,h5,_⟩:=q1w hc (k:=k) (by omega) (at':=a2) (by omega) (by omega) s2 vars;rw [h];simp only [q2s];rw [q4c];exact ⟨a3,s3,[(2,BitVec.ofInt 64 v)],rfl,by omega,by (simp;try omega),by simp,by simp⟩
  ·simp only [cond_true];obtain ⟨a3,s3,v,h,h4,h5,_⟩:=q1w hc (k:=k) (by omega) (at':=a2) (by omega) (by omega) s2 9;rw [h];simp only [q2s];rw [q4c,y31 (by omega) hw0 hw];simp only [q76];exact ⟨a3,s3,[(1,_)],rfl,by omega,by (simp;try omega),by simp,by simp⟩
 | d+1,k,hk,hd,at',h0,h1,s=>by
  obtain ⟨k,rfl⟩:=k01 (k:=k) (by omega);have ih:=fun (a:Int) (h0:0<=a) (h1:a+(20*2 ^ d:Nat)<=900000000) (s:W)=>y8c hc hw0 hw hv hv2 d (k:=k) (by omega) (by omega) h0 h1 s
  have hp:(2:Nat) ^ d<=65536:=Nat.pow_le_pow_right (n:=2) (by omega) (show d<=16 by omega);have hp1:1<=(2:Nat) ^ d:=Nat.one_le_two_pow;have e2:(2:Nat) ^ (d+1)=2*2 ^ d:=by rw [Nat.pow_succ];omega
  have e3:(2:Nat) ^ (d+1+1)=4*2 ^ d:=by rw [Nat.pow_succ,e2];omega
  rw [e3];rw [e2] at h1 ⊢;rw [n214];have e:(((d+1:Nat):Int)==0)=false:=by (simp;try omega)
  have e1:IntKind.i64.wrap (((d+1:Nat):Int)-1)=(d:Int):=by rw [q0g (by omega) (by omega)];omega
  simp only [e,cond_false,e1];obtain ⟨a2,s2,b,h,h2,h3⟩:=q3r hc (k:=k) (by omega) h0 (by omega) s 4;rw [h];simp only [q3n];cases b
  ·simp only [cond_false];obtain ⟨a3,s3,b,h,h4,h5⟩:=q3r hc (k:=k) (by omega) (at':=a2) (by omega) (by omega) s2 7;rw [h];simp only [q3n];cases b
   ·simp only [cond_false];obtain ⟨a4,s4,t,h,h6,h7,h8,h9⟩:=ih a3 (by omega) (by omega) s3;rw [h];simp only [z2g];obtain ⟨a5,s5,u,h,h10,h11,h12,h13⟩:=ih a4 (by omega) (by omega) s4;rw [h];simp only [z2g];rw [q0p (by (simp;try omega)) (by omega)];simp only [cond_true];obtain ⟨a6,s6,v,h,h14,h15,_⟩:=q5f hc (k:=k) (by omega) (at':=a5) (by omega) (by omega) s5 [3,3,3,4,4,5,8,9,10] (by simp);rw [show ([PV.int .i64 3,PV.int .i64 3,PV.int .i64 3,PV.int .i64 4,PV.int .i64 4,PV.int .i64 5,PV.int .i64 8,PV.int .i64 9,PV.int .i64 10]:List PV)=encZ [3,3,3,4,4,5,8,9,10] from rfl,h];simp only [q75];obtain ⟨a7,s7,b,h,h16,h17⟩:=q3r hc (k:=k) (by omega) (at':=a6) (by omega) (by omega) s6 6;rw [h];simp only [q3n];cases b
    ·simp only [cond_false];rw [q0p (by (simp;try omega)) (by omega),y97];exact ⟨a7,s7,t++u++[(v,0#64)],by simp [encT,encN,wi],by omega,by omega,by (simp;try omega),by (simp;try omega)⟩
    ·simp only [cond_true];obtain ⟨a8,s8,v2,h,h18,h19,_⟩:=q5f hc (k:=k) (by omega) (at':=a7) (by omega) (by omega) s7 [6,7,11,12] (by simp);rw [show ([PV.int .i64 6,PV.int .i64 7,PV.int .i64 11,PV.int .i64 12]:List PV)=encZ [6,7,11,12] from rfl,h];simp only [q75];rw [q0p (by (simp;try omega)) (by omega),y97];exact ⟨a8,s8,t++u++[(v2,0#64)],by simp [encT,encN,wi],by omega,by omega,by (simp;try omega),by (simp;try omega)⟩
   ·simp only [cond_true];obtain ⟨a4,s4,t,h,h6,h7,h8,h9⟩:=ih a3 (by omega) (by omega) s3;rw [h];simp only [z2g];rw [q0p (by (simp;try omega)) (by omega),w5e];exact ⟨a4,s4,t++[(13,0#64)],by simp [encT,encN,wi],by omega,by omega,by simp,by (simp;try omega)⟩
  ·simp only [cond_true];obtain ⟨a3,s3,b,h,h4,h5⟩:=q3r hc (k:=k) (by omega) (at':=a2) (by omega) (by omega) s2 2;rw [h];simp only [q3n];cases b
   ·simp only [cond_false];obtain ⟨a4,s4,v,h,h6,h7,_⟩:=q1w hc (k:=k) (by omega) (at':=a3) (by omega) (by omega) s3 vars;rw [h];simp only [q2s];rw [q4c];exact ⟨a4,s4,[(2,BitVec.ofInt 64 v)],rfl,by omega,by omega,by simp,by (simp;try omega)⟩
   ·simp only [cond_true];obtain ⟨a4,s4,v,h,h6,h7,_⟩:=q1w hc (k:=k) (by omega) (at':=a3) (by omega) (by omega) s3 9;rw [h];simp only [q2s];rw [q4c,y31 (by omega) hw0 hw];simp only [q76];exact ⟨a4,s4,[(1,_)],rfl,by omega,by omega,by simp,by (simp;try omega)⟩
theorem z4c {bs:List Nat} (hc:CodeOK bs) {wide vars:Int} (hw0:0<=wide) (hw:wide<=64) (hv:1<=vars) (hv2:vars<=100) {d:Int} (hd0:0<=d) (hd:d<=3) {k:Nat} (hk:90<=k) {at':Int} (h0:0<=at') (h1:at'<=800000000) (s:W) :
  ∃ a2 s2 t,c214 k wide vars d (encB bs) at' (wi s)=r214 (encB bs) a2 (wi s2) (encT t) /\ at'<=a2 /\ a2<=at'+150 /\ 1<=t.length /\ t.length<=15 /\ (d<=1->t.length<=3 /\ a2<=at'+30):=by
 have hd2:d.toNat<=3:=by omega
 have e1:1<=(2:Nat) ^ d.toNat:=Nat.one_le_two_pow;have e2:(2:Nat) ^ d.toNat<=2 ^ 3:=Nat.pow_le_pow_right (by omega) hd2;have e3:(2:Nat) ^ (d.toNat+1)=2*2 ^ d.toNat:=by rw [Nat.pow_succ];omega
 obtain ⟨a2,s2,t,h,h2,h3,h4,h5⟩:=y8c hc hw0 hw hv hv2 d.toNat (k:=k) (by omega) (by omega) (at':=at') h0 (by omega) s;rw [Int.toNat_of_nonneg hd0] at h;refine ⟨a2,s2,t,h,h2,by omega,h4,by omega,fun hd3=>?_⟩;have e4:(2:Nat) ^ d.toNat<=2 ^ 1:=Nat.pow_le_pow_right (by omega) (by omega);omega
theorem y3n {bs:List Nat} (hc:CodeOK bs) {wide vars:Int} (hw0:0<=wide) (hw:wide<=64) (hv:1<=vars) (hv2:vars<=100) {k:Nat} (hk:100<=k) {at':Int} (h0:0<=at') (h1:at'<=700000000) (s:W) :
   ∃ a2 s2 t,(R214 (c214 k wide vars 1 (encB bs) at' (wi s)) fun l12 q19 q20 l13=>
     R56 (c56 k 2 l12 q19 q20) fun l14 q21 q22 q23=>
     R214 (c214 k wide vars q23 l14 q21 q22) fun l15 q24 q25 l16=>
     bif decide ((l13.length+((l16.take l16.length).length))*16<=LIM)&&decide (l13.length+((l16.take l16.length).length)<=LIM) then
      R177 (c177 k [PV.int .i64 14,PV.int .i64 15,PV.int .i64 15,PV.int .i64 16] l15 q24 q25) fun l17 q26 q27 q28=>
      bif decide (((l13.length+((l16.take l16.length).length))+1)*16<=LIM)&&decide ((l13.length+((l16.take l16.length).length))+1<=LIM) then
       r151 l17 q26 q27 (((((l13.take l13.length)++(l16.take l16.length)).take (l13.length+((l16.take l16.length).length)))++[PV.agg [.int .i64 q28,.int .u64 0]]).take ((l13.length+((l16.take l16.length).length))+1))
      else none
     else none)=r151 (encB bs) a2 (wi s2) (encT t) /\ at'<=a2 /\ a2<=at'+70 /\ 1<=t.length /\ t.length<=7:=by
 obtain ⟨a4,s4,t,h,h6,h7,h8,h9,h10⟩:=z4c hc hw0 hw hv hv2 (d:=1) (by omega) (by omega) (k:=k) (by omega) h0 (by omega) s;have h10:=h10 (by omega);rw [h];simp only [z2g];obtain ⟨a5,s5,v,h,h11,h12,h13,h14,_⟩:=q1w hc (k:=k) (by omega) (at':=a4) (by omega) (by omega) s4 2;rw [h];simp only [q2s];obtain ⟨a6,s6,u,h,h15,h16,h17,h18,h19⟩:=z4c hc hw0 hw hv hv2 (d:=v) (by omega) (by omega) (k:=k) (by omega) (at':=a5) (by omega) (by omega) s5;have h19:=h19 (by omega);rw [h];simp only [z2g];rw [q0p (by (simp;try omega)) (by omega)];simp only [cond_true];obtain ⟨a7,s7,w,h,h20,h21,_⟩:=q5f hc (k:=k) (by omega) (at':=a6) (by omega) (by omega) s6 [14,15,15,16] (by simp);rw [show ([PV.int .i64 14,PV.int .i64 15,PV.int .i64 15,PV.int .i64 16]:List PV)=encZ [14,15,15,16] from rfl,h];simp only [q75];rw [q0p (by (simp;try omega)) (by omega),y97];exact ⟨a7,s7,t++u++[(w,0#64)],by simp [encT,encN,wi],by omega,by omega,by (simp;try omega),by (simp;try omega)⟩
theorem x0v {bs:List Nat} (hc:CodeOK bs) {wide vars:Int} (hw0:0<=wide) (hw:wide<=64) (hv:1<=vars) (hv2:vars<=100):∀ (d:Nat) {k:Nat} (hk:110+d<=k) (hd:d<=16) {at':Int} (h0:0<=at') (h1:at'+(100*2 ^ d:Nat)<=700000000) (s:W),
  ∃ a2 s2 t,c151 k wide vars (d:Int) (encB bs) at' (wi s)=r151 (encB bs) a2 (wi s2) (encT t) /\ at'<=a2 /\ a2<=at'+(100*(2 ^ d:Nat)-20:Nat) /\ 1<=t.length /\ t.length+1<=8*2 ^ d
 | d,k,hk,hd,at',h0,h1,s=>by
  obtain ⟨k,rfl⟩:=k01 (k:=k) (by omega);have hp:(2:Nat) ^ d<=65536:=Nat.pow_le_pow_right (n:=2) (by omega) (show d<=16 by omega);have hp1:1<=(2:Nat) ^ d:=Nat.one_le_two_pow;rw [n151];obtain ⟨a2,s2,b,h,h2,h3⟩:=q3r hc (k:=k) (by omega) h0 (by omega) s 20;rw [h];simp only [q3n];cases b
  ·simp only [cond_false];cases d with
   | zero=>
    have e:decide (((0:Nat):Int)>0)=false:=rfl;simp only [e,cond_false];obtain ⟨a3,s3,t,h,h4,h5,h6,h7⟩:=y3n hc hw0 hw hv hv2 (k:=k) (by omega) (at':=a2) (by omega) (by omega) s2;rw [h];exact ⟨a3,s3,t,rfl,by omega,by omega,h6,by omega⟩
   | succ d=>
    have e:decide (((d+1:Nat):Int)>0)=true:=by (simp;try omega)
    have e1:IntKind.i64.wrap (((d+1:Nat):Int)-1)=(d:Int):=by rw [q0g (by omega) (by omega)];omega
    have e2:(2:Nat) ^ (d+1)=2*2 ^ d:=by rw [Nat.pow_succ];omega
    rw [e2] at h1 hp hp1 ⊢;have ih:=fun (a:Int) (h0:0<=a) (h1:a+(100*2 ^ d:Nat)<=700000000) (s:W)=>x0v hc hw0 hw hv hv2 d (k:=k) (by omega) (by omega) h0 h1 s
    simp only [e,cond_true,e1];obtain ⟨a3,s3,b,h,h4,h5⟩:=q3r hc (k:=k) (by omega) (at':=a2) (by omega) (by omega) s2 4;rw [h];simp only [q3n];cases b
    ·simp only [cond_false];obtain ⟨a4,s4,b,h,h6,h7⟩:=q3r hc (k:=k) (by omega) (at':=a3) (by omega) (by omega) s3 2;rw [h];simp only [q3n];cases b
     ·simp only [cond_false];obtain ⟨a5,s5,t,h,h8,h9,h10,h11⟩:=y3n hc hw0 hw hv hv2 (k:=k) (by omega) (at':=a4) (by omega) (by omega) s4;rw [h];exact ⟨a5,s5,t,rfl,by omega,by omega,h10,by omega⟩
     ·simp only [cond_true];obtain ⟨a5,s5,t,h,h8,h9,h10,h11⟩:=ih a4 (by omega) (by omega) s4;rw [h];simp only [q9s];obtain ⟨a6,s6,u,h,h12,h13,h14,h15⟩:=ih a5 (by omega) (by omega) s5;rw [h];simp only [q9s];rw [q0p (by (simp;try omega)) (by omega)];simp only [cond_true];obtain ⟨a7,s7,w,h,h20,h21,_⟩:=q5f hc (k:=k) (by omega) (at':=a6) (by omega) (by omega) s6 [17,18] (by simp);rw [show ([PV.int .i64 17,PV.int .i64 18]:List PV)=encZ [17,18] from rfl,h];simp only [q75];rw [q0p (by (simp;try omega)) (by omega),y97];exact ⟨a7,s7,t++u++[(w,0#64)],by simp [encT,encN,wi],by omega,by omega,by (simp;try omega),by (simp;try omega)⟩
    ·simp only [cond_true];obtain ⟨a5,s5,t,h,h8,h9,h10,h11⟩:=ih a3 (by omega) (by omega) s3;rw [h];simp only [q9s];rw [q0p (by (simp;try omega)) (by omega),w5e];exact ⟨a5,s5,t++[(19,0#64)],by simp [encT,encN,wi],by omega,by omega,by simp,by (simp;try omega)⟩
  ·simp only [cond_true];obtain ⟨a3,s3,v,h,h4,h5,_⟩:=q1w hc (k:=k) (by omega) (at':=a2) (by omega) (by omega) s2 2;rw [h];simp only [q2s];rw [q4c];exact ⟨a3,s3,[(20,BitVec.ofInt 64 v)],rfl,by omega,by omega,by simp,by (simp;try omega)⟩
structure Chg where
 v:Int
 by1:List Nd
 deriving DecidableEq
structure Cmd where
 wh:List Nd
 ch:List Chg
 deriving DecidableEq
structure Prg where
 wide:Int
 vars:Int
 start:List Nd
 cmds:List Cmd
 deriving DecidableEq
def z00 (x:Chg):PV:=.agg [.int .i64 x.v,.row 2 0 (encT x.by1)]
def q03 (l:List Chg):List PV:=l.map z00
def q4r (x:Cmd):PV:=.agg [.row 2 0 (encT x.wh),.row 2 0 (q03 x.ch)]
def q0f (l:List Cmd):List PV:=l.map q4r
@[simp] theorem q2l (l:List Chg):(q03 l).length=l.length:=by simp [q03]
@[simp] theorem q1j (l:List Cmd):(q0f l).length=l.length:=by simp [q0f]
theorem q32 (l:List Chg) (i:Nat):(q03 l)[i]? = (l[i]?).map z00:=by simp [q03]
theorem q2v (l:List Cmd) (i:Nat):(q0f l)[i]? = (l[i]?).map q4r:=by simp [q0f]
theorem z9k (l:List Chg) (x:Chg):q03 l++[z00 x]=q03 (l++[x]):=by simp [q03]
theorem x4b (l:List Cmd) (x:Cmd):q0f l++[q4r x]=q0f (l++[x]):=by simp [q0f]
theorem z9l (l:List Cmd) (i:Nat):(q0f l).take i=q0f (l.take i):=by simp [q0f,List.map_take]
theorem q86 (l:List Cmd) (i:Nat) (x:Cmd):(q0f l).set i (q4r x)=q0f (l.set i x):=by simp [q0f,List.map_set]
@[simp] theorem q6d (x:Chg):(z00 x).shp 2=true:=rfl
@[simp] theorem q6e (x:Chg):(z00 x).atInt .i64 0=some x.v:=rfl
@[simp] theorem q69 (x:Chg):(z00 x).atRow 2 1=some (encT x.by1):=rfl
@[simp] theorem q6f (x:Cmd):(q4r x).shp 2=true:=rfl
@[simp] theorem q7 (x:Cmd):(q4r x).atRow 2 0=some (encT x.wh):=rfl
@[simp] theorem q39 (x:Cmd):(q4r x).atRow 2 1=some (q03 x.ch):=rfl
theorem w1z (x:Cmd) (t:List Nd):putPart (q4r x) 2 0 (PV.row 2 0 (encT t)) 0=some (q4r { x with wh:=t }):=rfl
theorem w1x (x:Cmd) (l:List Chg):putPart (q4r x) 2 1 (PV.row 2 0 (q03 l)) 0=some (q4r { x with ch:=l }):=rfl
structure FitC (m:Nat) (c:Cmd):Prop where
 wh:c.wh.length<=100
 ch:c.ch.length<=m
 by1:∀ x∈c.ch,x.by1.length<=100
theorem FitC.mono {m m':Nat} {c:Cmd} (h:FitC m c) (hm:m<=m'):FitC m' c:=⟨h.wh,Nat.le_trans h.ch hm,h.by1⟩
structure FitP (p:Prg):Prop where
 w:1<=p.wide /\ p.wide<=64
 v:0<=p.vars /\ p.vars<=5
 st:p.start.length<=100
 cm:p.cmds.length<=6
 c:∀ c∈p.cmds,FitC 6 c
theorem z0y {bs:List Nat} (hc:CodeOK bs) {wide vars:Int} (hw0:0<=wide) (hw:wide<=64) (hv:1<=vars) (hv2:vars<=100) {d:Int} (hd0:0<=d) (hd:d<=2) {k:Nat} (hk:130<=k) {at':Int} (h0:0<=at') (h1:at'<=600000000) (s:W) :
  ∃ a2 s2 t,c151 k wide vars d (encB bs) at' (wi s)=r151 (encB bs) a2 (wi s2) (encT t) /\ at'<=a2 /\ a2<=at'+500 /\ 1<=t.length /\ t.length<=31:=by
 have hd2:d.toNat<=2:=by omega
 have e2:(2:Nat) ^ d.toNat<=2 ^ 2:=Nat.pow_le_pow_right (by omega) hd2;obtain ⟨a2,s2,t,h,h2,h3,h4,h5⟩:=x0v hc hw0 hw hv hv2 d.toNat (k:=k) (by omega) (by omega) (at':=at') h0 (by omega) s;rw [Int.toNat_of_nonneg hd0] at h;exact ⟨a2,s2,t,h,h2,by omega,h4,by omega⟩
theorem q9y {bs:List Nat} (hc:CodeOK bs) {k:Nat} (hk:120<=k) {wide vars:Int} (hw:1<=wide /\ wide<=64) (hv:1<=vars /\ vars<=5) (l1 l2:List PV) (t:List Nd) (ht:t.length<=31):∀ (m n:Nat) (v:Int) (cs:List Chg) {at':Int} (s:W),(vars-v).toNat<=m->m<n->0<=v->(cs.length:Int)<=v->v<=vars->(∀ x∈cs,x.by1.length<=100)->0<=at'->at'+40*m<=590000000 ->
  ∃ a2 s2 cs2,z6 k n wide vars v (encB bs) at' (wi s) l1 l2 t.length cs.length (encT t) (q03 cs)=r242 (encB bs) a2 (wi s2) (encT t) (q03 cs2) /\ at'<=a2 /\ a2<=at'+40*m /\ cs2.length<=5 /\ ∀ x∈cs2,x.by1.length<=100
 | m,0,v,cs,at',s,hm,hn,hv0,hj,hvv,hb,h0,h1=>by omega
 | m,n+1,v,cs,at',s,hm,hn,hv0,hj,hvv,hb,h0,h1=>by
  rw [w8t];by_cases hd:v<vars
  ·have hd':decide (v<vars)=true:=by simpa using hd
   rw [hd'];simp only [cond_true];obtain ⟨a2,s2,b,h,h2,h3⟩:=q3r hc (k:=k) (by omega) h0 (by omega) s 2;rw [h];simp only [q3n];cases m with
   | zero=>omega
   | succ m=>
    cases b
    ·simp only [cond_false];rw [q0g (by omega) (by omega)];obtain ⟨a3,s3,cs2,h,h4,h5,h6⟩:=q9y hc hk hw hv l1 l2 t ht m n (v+1) cs (at':=a2) s2 (by omega) (by omega) (by omega) (by omega) (by omega) hb (by omega) (by omega);exact ⟨a3,s3,cs2,h,by omega,by omega,h6⟩
    ·simp only [cond_true];obtain ⟨a4,s4,u,h,h7,h8,h9,h10,h11⟩:=z4c hc (wide:=wide) (vars:=vars) (by omega) (by omega) (by omega) (by omega) (d:=1) (by omega) (by omega) (k:=k) (by omega) (at':=a2) (by omega) (by omega) s2;have h11:=h11 (by omega);rw [h];simp only [z2g];rw [q0p (by omega) (by omega),q0g (by omega) (by omega)];simp only [cond_true,List.take_length];have e1:(q03 cs).take cs.length=q03 cs:=by rw [List.take_of_length_le (by simp)]
     have e3:PV.agg [.int .i64 v,.row 2 0 (encT u)]=z00 ⟨v,u⟩:=rfl;rw [e1,e3,z9k];have e2:cs.length+1=(cs++[Chg.mk v u]).length:=by simp
     rw [e2];obtain ⟨a3,s3,cs2,h,h4,h5,h6⟩:=q9y hc hk hw hv l1 l2 t ht m n (v+1) (cs++[Chg.mk v u]) (at':=a4) s4 (by omega) (by omega) (by omega) (by simp;omega) (by omega) (by
      intro x hx;rcases List.mem_append.1 hx with hx | hx
      ·exact hb x hx
      ·simp at hx;subst hx;simp only;omega) (by omega) (by omega)
     exact ⟨a3,s3,cs2,h,by omega,by omega,h6⟩
  ·have hd':decide (v<vars)=false:=by simpa using hd
   rw [hd'];simp only [cond_false];have e1:(q03 cs).take cs.length=q03 cs:=by rw [List.take_of_length_le (by simp)]
   have e2:(encT t).take t.length=encT t:=by rw [List.take_of_length_le (by simp)]
   rw [e1,e2];exact ⟨at',s,cs,rfl,by omega,by omega,by omega,hb⟩
theorem x8d {bs:List Nat} (hc:CodeOK bs) {k:Nat} (hk:140<=k) {wide vars:Int} (hw:1<=wide /\ wide<=64) (hv:1<=vars /\ vars<=5) {at':Int} (h0:0<=at') (h1:at'<=580000000) (s:W) :
  ∃ a2 s2 c,c242 k wide vars (encB bs) at' (wi s)=r242 (encB bs) a2 (wi s2) (encT c.wh) (q03 c.ch) /\ at'<=a2 /\ a2<=at'+1000 /\ FitC 5 c:=by
 obtain ⟨k,rfl⟩:=k01 (k:=k) (by omega);rw [n242];obtain ⟨a2,s2,v,h,h2,h3,h4,h5,_⟩:=q1w hc (k:=k) (by omega) h0 (by omega) s 2;rw [h];simp only [q2s];obtain ⟨a3,s3,t,h,h6,h7,h8,h9⟩:=z0y hc (wide:=wide) (vars:=vars) (by omega) (by omega) (by omega) (by omega) (d:=v) (by omega) (by omega) (k:=k) (by omega) (at':=a2) (by omega) (by omega) s2;rw [h];simp only [q9s,q07];obtain ⟨a4,s4,cs,h,h10,h11,h12,h13⟩:=q9y hc (k:=k) (by omega) hw hv [] [] t h9 5 k 0 [] (at':=a3) s3 (by omega) (by omega) (by omega) (by simp) (by omega) (by simp) (by omega) (by omega);exact ⟨a4,s4,⟨t,cs⟩,h,by omega,by omega,⟨by simp only;omega,by simp only;omega,h13⟩⟩
theorem z1s {bs:List Nat} (hc:CodeOK bs) {k:Nat} (hk:150<=k) {wide vars:Int} (hw:1<=wide /\ wide<=64) (hv:1<=vars /\ vars<=5) (n13 n14:Int) (l1 l2:List PV) (t:List Nd) (ht:t.length<=31):∀ (m n:Nat) (n1:Int) (cs:List Cmd) {at':Int} (s:W),n1.toNat<=m->m<n->cs.length+m<=6->n1<=6->(∀ x∈cs,FitC 5 x)->0<=at'->at'+1000*m<=570000000 ->
  ∃ a2 s2 cs2,z5t k n wide vars n1 (encB bs) at' (wi s) n13 n14 l1 l2 wide vars t.length cs.length (encT t) (q0f cs)=r190 (encB bs) a2 (wi s2) wide vars (encT t) (q0f cs2) /\ at'<=a2 /\ a2<=at'+1000*m /\ cs2.length<=6 /\ (∀ x∈cs2,FitC 5 x) /\ (n1>=1∨1<=cs.length->1<=cs2.length)
 | m,0,n1,cs,at',s,hm,hn,hl,hn1,hb,h0,h1=>by omega
 | m,n+1,n1,cs,at',s,hm,hn,hl,hn1,hb,h0,h1=>by
  rw [w72];by_cases hd:n1>0
  ·have hd':decide (n1>0)=true:=by simpa using hd
   rw [hd'];simp only [cond_true];obtain ⟨a2,s2,c,h,h2,h3,h4⟩:=x8d hc (k:=k) (by omega) hw hv h0 (by omega) s;rw [h];simp only [v08,q2l];have e0:decide (c.ch.length<=c.ch.length)=true:=by simp
   rw [e0];simp only [cond_true,q1j,beq_self_eq_true,Bool.true_and];rw [q0p (by omega) (by omega)];simp only [cond_true];have e1:(q03 c.ch).take c.ch.length=q03 c.ch:=by rw [List.take_of_length_le (by simp)]
   have e3:PV.agg [.row 2 0 (encT c.wh),.row 2 0 (q03 c.ch)]=q4r c:=rfl;rw [e1,e3,x4b,q0g (by omega) (by omega)];have e2:cs.length+1=(cs++[c]).length:=by simp
   rw [e2];cases m with
   | zero=>omega
   | succ m=>
    obtain ⟨a3,s3,cs2,h,h5,h6,h7,h8,h9⟩:=z1s hc hk hw hv n13 n14 l1 l2 t ht m n (n1-1) (cs++[c]) (at':=a2) s2 (by omega) (by omega) (by simp;omega) (by omega) (by
     intro x hx;rcases List.mem_append.1 hx with hx | hx
     ·exact hb x hx
     ·simp at hx;subst hx;exact h4) (by omega) (by omega)
    exact ⟨a3,s3,cs2,h,by omega,by omega,h7,h8,fun _=>h9 (by simp)⟩
  ·have hd':decide (n1>0)=false:=by simpa using hd
   rw [hd'];simp only [cond_false,q1j,beq_self_eq_true,cond_true];have e1:(q0f cs).take cs.length=q0f cs:=by rw [List.take_of_length_le (by simp)]
   have e2:(encT t).take t.length=encT t:=by rw [List.take_of_length_le (by simp)]
   rw [e1,e2];exact ⟨at',s,cs,rfl,by omega,by omega,by omega,hb,fun h=>by omega⟩
theorem w1t {bs:List Nat} (hc:CodeOK bs) {k:Nat} (hk:160<=k) {wide vars:Int} (hw:1<=wide /\ wide<=64) (hv:1<=vars /\ vars<=5) {at':Int} (h0:0<=at') (h1:at'<=560000000) (s:W) :
  ∃ a2 s2 p,c190 k wide vars (encB bs) at' (wi s)=r190 (encB bs) a2 (wi s2) p.wide p.vars (encT p.start) (q0f p.cmds) /\ at'<=a2 /\ a2<=at'+8000 /\ FitP p /\ 1<=p.cmds.length /\ p.wide=wide /\ p.vars=vars /\ ∀ c∈p.cmds,FitC 5 c:=by
 obtain ⟨k,rfl⟩:=k01 (k:=k) (by omega);rw [n190];obtain ⟨a2,s2,v,h,h2,h3,h4,h5,_⟩:=q1w hc (k:=k) (by omega) h0 (by omega) s 2;rw [h];simp only [q2s];obtain ⟨a3,s3,b,h,h6,h7⟩:=q3r hc (k:=k) (by omega) (at':=a2) (by omega) (by omega) s2 3;rw [h];simp only [q3n];cases b
 ·simp only [cond_false];obtain ⟨a4,s4,u,h,h8,h9,h10,h11,_⟩:=q1w hc (k:=k) (by omega) (at':=a3) (by omega) (by omega) s3 3;rw [h];simp only [q2s];have h5:=h5 (by omega);have h11:=h11 (by omega);rw [q0g (n:=1+u) (by omega) (by omega)];have e0:IntKind.u64.wrap v=wi (BitVec.ofInt 64 v):=q4c v;have e1:([PV.agg [.int .i64 2,.int .u64 0],PV.agg [.int .i64 1,.int .u64 (IntKind.u64.wrap v)],PV.agg [.int .i64 14,.int .u64 0]]:List PV)=encT [(2,0#64),(1,BitVec.ofInt 64 v),(14,0#64)]:=by rw [e0];rfl
  rw [e1];obtain ⟨a5,s5,cs,h,h12,h13,h14,h15,h16⟩:=z1s hc (k:=k) (by omega) hw hv 0 0 [] [] [(2,0#64),(1,BitVec.ofInt 64 v),(14,0#64)] (by simp) 3 k (1+u) [] (at':=a4) s4 (by omega) (by omega) (by simp) (by omega) (by simp) (by omega) (by omega);exact ⟨a5,s5,⟨wide,vars,_,cs⟩,h,by omega,by omega,⟨hw,⟨by simp only;omega,by simp only;omega⟩,by simp,h14,fun c hc=>(h15 c hc).mono (by omega)⟩,h16 (by omega),rfl,rfl,h15⟩
 ·simp only [cond_true];obtain ⟨a4,s4,t,h,h8,h9,h10,h11⟩:=z0y hc (wide:=wide) (vars:=vars) (by omega) (by omega) (by omega) (by omega) (d:=1) (by omega) (by omega) (k:=k) (by omega) (at':=a3) (by omega) (by omega) s3;rw [h];simp only [q9s,q07];obtain ⟨a5,s5,u,h,h12,h13,h14,h15,_⟩:=q1w hc (k:=k) (by omega) (at':=a4) (by omega) (by omega) s4 3;rw [h];simp only [q2s];have h15:=h15 (by omega);rw [q0g (n:=1+u) (by omega) (by omega)];obtain ⟨a6,s6,cs,h,h16,h17,h18,h19,h20⟩:=z1s hc (k:=k) (by omega) hw hv 0 0 [] [] t h11 3 k (1+u) [] (at':=a5) s5 (by omega) (by omega) (by simp) (by omega) (by simp) (by omega) (by omega);exact ⟨a6,s6,⟨wide,vars,t,cs⟩,h,by omega,by omega,⟨hw,⟨by simp only;omega,by simp only;omega⟩,by simp only;omega,h18,fun c hc=>(h19 c hc).mono (by omega)⟩,h20 (by omega),rfl,rfl,h19⟩
theorem z4j {bs:List Nat} (hc:CodeOK bs) {k:Nat} (hk:170<=k):∀ (m n:Nat) {wide vars:Int} {at':Int} (s:W),1<=wide->wide<=4->1<=vars->vars<=10->(vars-1).toNat<=m->m<n->0<=at'->at'<=550000000 ->
  ∃ a2 s2 p,q9p k n wide vars (encB bs) at' (wi s) 0 0 [] []=r118 (encB bs) a2 (wi s2) p.wide p.vars (encT p.start) (q0f p.cmds) /\ at'<=a2 /\ a2<=at'+9000 /\ FitP p
 | m,0,wide,vars,at',s,hw0,hw,hv0,hv,hm,hn,h0,h1=>by omega
 | m,n+1,wide,vars,at',s,hw0,hw,hv0,hv,hm,hn,h0,h1=>by
  rw [w6z];have hb:0<=wide*vars /\ wide*vars<=40:=by
   have h2:wide*vars<=4*vars:=Int.mul_le_mul_of_nonneg_right hw (by omega);have h3:0<=wide*vars:=Int.mul_nonneg (by omega) (by omega);omega
  rw [q0g (n:=wide*vars) (by omega) (by omega),q0g (n:=vars-1) (by omega) (by omega)];have one:vars=1->wide*vars<=5:=by intro h;subst h;omega
  have rc:(1<vars)->∃ a2 s2 p,q9p k n wide (vars-1) (encB bs) at' (wi s) 0 0 [] []=r118 (encB bs) a2 (wi s2) p.wide p.vars (encT p.start) (q0f p.cmds) /\ at'<=a2 /\ a2<=at'+9000 /\ FitP p:=by
   intro h;cases m with
   | zero=>omega
   | succ m=>exact z4j hc hk m n s hw0 hw (by omega) (by omega) (by omega) (by omega) h0 h1
  by_cases hd:wide*vars>5
  ·have hd':decide (wide*vars>5)=true:=by simpa using hd
   rw [hd'];exact rc (by omega)
  ·have hd':decide (wide*vars>5)=false:=by simpa using hd
   rw [hd'];simp only [cond_false];by_cases hd2:vars>4
   ·have hd2':decide (vars>4)=true:=by simpa using hd2
    rw [hd2'];exact rc (by omega)
   ·have hd2':decide (vars>4)=false:=by simpa using hd2
    rw [hd2'];simp only [cond_false];obtain ⟨a2,s2,p,h,h2,h3,h4,h5,h6,h7,h7b⟩:=w1t hc (k:=k) (by omega) (wide:=wide) (vars:=vars) ⟨hw0,by omega⟩ ⟨hv0,by omega⟩ h0 (by omega) s;rw [h];simp only [v0d];obtain ⟨a3,s3,v,h,h8,h9,h10,h11,_⟩:=q1w hc (k:=k) (by omega) (at':=a2) (by omega) (by omega) s2 40;rw [h];simp only [q2s,q1j];have e1:(q0f p.cmds).take p.cmds.length=q0f p.cmds:=by rw [List.take_of_length_le (by simp)]
    have hpos:decide ((0:Int)<(p.cmds.length:Int))=true:=by simp;omega
    have hget:(q0f p.cmds)[0]? = some (q4r p.cmds[0]):=by rw [q2v,List.getElem?_eq_getElem (by omega)];rfl
    have hf0:=h7b p.cmds[0] (List.getElem_mem _);cases e0:(v==0)
    ·simp only [cond_false];cases e1':(v==1)
     ·simp only [cond_false];cases e2:(v==2)
      ·simp only [cond_false];cases e3:(v==3)
       ·simp only [cond_false,e1];exact ⟨a3,s3,p,(by first | rfl | simp),by omega,by omega,h4⟩
       ·simp only [cond_true,hpos,hget,Option.bind_some,q39,q2l];have hl:=hf0.ch;rw [q0p (by omega) (by omega)];have e5:PV.agg [.int .i64 0,.row 2 0 [PV.agg [.int .i64 1,.int .u64 0]]]=z00 ⟨0,[(1,0#64)]⟩:=rfl;rw [e5,z9k];have e6:decide (p.cmds[0].ch.length+1<=(q03 (p.cmds[0].ch++[⟨0,[(1,0#64)]⟩])).length)=true:=by simp
        rw [e6];simp only [cond_true];have e7:(q03 (p.cmds[0].ch++[⟨0,[(1,0#64)]⟩])).take (p.cmds[0].ch.length+1)=q03 (p.cmds[0].ch++[⟨0,[(1,0#64)]⟩]):=by rw [List.take_of_length_le (by simp)]
        rw [e7,w1x];simp only [Option.bind_some];rw [q86,z9l,List.take_of_length_le (by simp)];refine ⟨a3,s3,{ p with cmds:=p.cmds.set 0 { p.cmds[0] with ch:=p.cmds[0].ch++[⟨0,[(1,0#64)]⟩] } },(by first | rfl | simp),by omega,by omega,⟨h4.w,h4.v,h4.st,by simpa using h4.cm,fun c hc'=>?_⟩⟩;rcases List.mem_or_eq_of_mem_set hc' with h12 | h12
        ·exact h4.c c h12
        ·subst h12;refine ⟨hf0.wh,by simp;omega,fun x hx=>?_⟩;rcases List.mem_append.1 hx with hx | hx
         ·exact hf0.by1 x hx
         ·simp at hx;subst hx;simp
      ·simp only [cond_true,hpos,hget,Option.bind_some];have e5:([PV.agg [.int .i64 1,.int .u64 0]]:List PV)=encT [(1,0#64)]:=rfl;rw [e5,w1z];simp only [Option.bind_some];rw [q86,z9l,List.take_of_length_le (by simp)];refine ⟨a3,s3,{ p with cmds:=p.cmds.set 0 { p.cmds[0] with wh:=[(1,0#64)] } },(by first | rfl | simp),by omega,by omega,⟨h4.w,h4.v,h4.st,by simpa using h4.cm,fun c hc'=>?_⟩⟩;have hl:=hf0.ch;rcases List.mem_or_eq_of_mem_set hc' with h12 | h12
       ·exact h4.c c h12
       ·subst h12;exact ⟨by simp,by simp only;omega,hf0.by1⟩
     ·simp only [cond_true];exact ⟨a3,s3,{ p with cmds:=[] },rfl,by omega,by omega,⟨h4.w,h4.v,h4.st,by simp,by simp⟩⟩
    ·simp only [cond_true];obtain ⟨a4,s4,x,h,h12,h13,h14⟩:=q5f hc (k:=k) (by omega) (at':=a3) (by omega) (by omega) s3 [0,4,5] (by simp);rw [show ([PV.int .i64 0,PV.int .i64 4,PV.int .i64 5]:List PV)=encZ [0,4,5] from rfl,h];simp only [q75,e1];refine ⟨a4,s4,{ p with vars:=x },(by first | rfl | simp),by omega,by omega,⟨h4.w,?_,h4.st,h4.cm,h4.c⟩⟩;simp at h14
     simp only
     omega
theorem w4i {bs:List Nat} (hc:CodeOK bs) {k:Nat} (hk:200<=k) {at':Int} (h0:0<=at') (h1:at'<=500000000) (s:W) :
  ∃ a2 s2 p,c118 k (encB bs) at' (wi s)=r118 (encB bs) a2 (wi s2) p.wide p.vars (encT p.start) (q0f p.cmds) /\ at'<=a2 /\ a2<=at'+10000 /\ FitP p:=by
 obtain ⟨k,rfl⟩:=k01 (k:=k) (by omega);rw [n118];obtain ⟨a2,s2,v,h,h2,h3,h4⟩:=q5f hc (k:=k) (by omega) h0 (by omega) s [1,2,2,2,3,4] (by simp);rw [show ([PV.int .i64 1,PV.int .i64 2,PV.int .i64 2,PV.int .i64 2,PV.int .i64 3,PV.int .i64 4]:List PV)=encZ [1,2,2,2,3,4] from rfl,h];simp only [q75];have hv:1<=v /\ v<=4:=by simp at h4;omega
 cases e0:decide (v<3)
 ·simp only [cond_false];obtain ⟨a3,s3,p,h,h5,h6,h7⟩:=z4j hc (k:=k) (by omega) 9 k (wide:=v) (vars:=1) (at':=a2) s2 hv.1 hv.2 (by omega) (by omega) (by omega) (by omega) (by omega) (by omega);exact ⟨a3,s3,p,h,by omega,by omega,h7⟩
 ·simp only [cond_true];have hz:(v==0)=false:=by simp;omega
  rw [hz];simp only [Bool.not_false,cond_true];have hq:IntKind.i64.wrap ((6:Int).tdiv v)=6 / v /\ 1<=6 / v /\ 6 / v<=6:=by
   have:v=1∨v=2:=by simp at e0;omega
   rcases this with rfl | rfl <;> decide
  rw [hq.1];obtain ⟨a3,s3,u,h,h5,h6,h7,h8,h9,_⟩:=q1w hc (k:=k) (by omega) (at':=a2) (by omega) (by omega) s2 (6 / v);rw [h];simp only [q2s];have h8:=h8 hq.2.1;rw [q0g (n:=1+u) (by omega) (by omega)];obtain ⟨a4,s4,p,h,h10,h11,h12⟩:=z4j hc (k:=k) (by omega) 9 k (wide:=v) (vars:=1+u) (at':=a3) s3 hv.1 hv.2 (by omega) (by omega) (by omega) (by omega) (by omega) (by omega);exact ⟨a4,s4,p,h,by omega,by omega,h12⟩
theorem q4 {n:Nat} (hn:n<=64):(q3u n).toNat=2 ^ n-1:=by
 unfold q3u;rw [BitVec.toNat_ushiftRight,BitVec.toNat_allOnes,Nat.shiftRight_eq_div_pow];have h1:(2:Nat) ^ 64=2 ^ n*2 ^ (64-n):=by rw [<- Nat.pow_add];congr 1;omega
 have h2:1<=(2:Nat) ^ (64-n):=Nat.one_le_two_pow;have h3:1<=(2:Nat) ^ n:=Nat.one_le_two_pow;have h4:(2:Nat) ^ 64-1=(2 ^ (64-n)-1)+2 ^ (64-n)*(2 ^ n-1):=by
  rw [h1,Nat.mul_sub,Nat.mul_comm (2 ^ (64-n)) (2 ^ n)]
  have:2 ^ (64-n)<=2 ^ n*2 ^ (64-n):=Nat.le_mul_of_pos_left _ (by omega)
  omega
 rw [h4,Nat.add_mul_div_left _ _ (by omega),Nat.div_eq_of_lt (by omega),Nat.zero_add]
theorem z3j {n:Nat} (hn:n<=64) (a:W):a &&& q3u n=a↔a<=q3u n:=by
 rw [BitVec.le_def,q4 hn];have h3:1<=(2:Nat) ^ n:=Nat.one_le_two_pow;constructor
 ·intro h
  have:a.toNat=(a &&& q3u n).toNat:=by rw [h]
  rw [BitVec.toNat_and,q4 hn,Nat.and_two_pow_sub_one_eq_mod] at this
  have:=Nat.mod_lt a.toNat (show 0<2 ^ n by omega)
  omega
 ·intro h;apply BitVec.eq_of_toNat_eq;rw [BitVec.toNat_and,q4 hn,Nat.and_two_pow_sub_one_eq_mod,Nat.mod_eq_of_lt (by omega)]
def isW (n:Int):Bool:=decide (1<=n)&&decide (n<=64)
theorem q2f {n:Int}:isW n=true↔1<=n /\ n<=64:=by simp [isW]
theorem z69 {k:Nat} (hk:1<=k) (n:Int):c234 k n=r234 (isW n):=by
 obtain ⟨k,rfl⟩:=k01 (k:=k) (by omega);rw [n234];by_cases h:1<=n <;> simp [isW,h]
def isV (n:Int):Bool:=decide (1<=n)&&decide (n<=4)
theorem q9j {n:Int}:isV n=true↔1<=n /\ n<=4:=by simp [isV]
theorem y72 {k:Nat} (hk:1<=k) (n:Int):c235 k n=r235 (isV n):=by
 obtain ⟨k,rfl⟩:=k01 (k:=k) (by omega);rw [n235];by_cases h:1<=n <;> simp [isV,h]
theorem q87 {k:Nat} (hk:1<=k) (n lo hi:Int):c140 k n lo hi=r140 (decide (lo<=n)&&decide (n<=hi)):=by
 obtain ⟨k,rfl⟩:=k01 (k:=k) (by omega);rw [n140];by_cases h:lo<=n <;> simp [h]
theorem x3o {k:Nat} (hk:2<=k) (n:Int):c245 k n=r245 (isW n):=by
 obtain ⟨k,rfl⟩:=k01 (k:=k) (by omega);rw [n245,q87 (by omega)];simp only [q74];rfl
def q12 (wide:Int) (a:W):Bool:=isW wide&&decide (a<=q3u wide.toNat)
theorem z1k {k:Nat} (hk:2<=k) (wide:Int) (a:W):c294 k wide (wi a)=r294 (q12 wide a):=by
 obtain ⟨k,rfl⟩:=k01 (k:=k) (by omega);rw [n294,z69 (by omega)];simp only [x0i];cases h:isW wide
 ·simp [q12,h]
 ·have h':=q2f.1 h;rw [y6a (by omega) (by omega) (by omega)];simp only [cond_true,z2f,y85];simp [q12,h]
theorem q91 {k:Nat} (hk:80<=k) (wide:Int) (a:W):c279 k wide (wi a)=r279 (q12 wide a):=by
 obtain ⟨k,rfl⟩:=k01 (k:=k) (by omega);rw [n279,x3o (by omega)];simp only [x92];cases h:isW wide
 ·simp [q12,h]
 ·have h':=q2f.1 h;rw [y31 (by omega) (by omega) (by omega)];simp only [cond_true,q76,q4i]
  congr 1
  have:=z3j (n:=wide.toNat) (by omega) a
  simp only [q12,h,Bool.true_and];rw [Bool.eq_iff_iff];simp [this]
def need (op:Int):Nat × Int × Int :=
 if op=1∨op=2 then (0,1,1) else if op=20 then (0,2,2) else if op=13 then (1,1,1) else if op=19 then (1,2,2)
 else if 3<=op /\ op<=12 then (2,1,1) else if 14<=op /\ op<=16 then (2,1,2) else if op=17∨op=18 then (2,2,2) else (0,0,0)
def y95 (op:Int):Int:=if (need op).1=0 then 0 else (need op).2.1
theorem x6f (op:Int):(need op).1<=2:=by
 unfold need
 repeat' split
 all_goals simp
theorem z45 {k:Nat} (hk:1<=k) (op:Int):c274 k op=r274 (need op).1 (y95 op) (need op).2.2:=by
 obtain ⟨k,rfl⟩:=k01 (k:=k) (by omega);rw [n274];unfold y95 need;by_cases h1:op=1
 ·subst h1;rfl
 by_cases h2:op=2
 ·subst h2;rfl
 by_cases h3:op=20
 ·subst h3;rfl
 by_cases h4:op=13
 ·subst h4;rfl
 by_cases h5:op=19
 ·subst h5;rfl
 by_cases h6:op=17
 ·subst h6;rfl
 by_cases h7:op=18
 ·subst h7;rfl
 have e1:(op==1)=false:=by simpa using h1
 have e2:(op==2)=false:=by simpa using h2
 have e3:(op==20)=false:=by simpa using h3
 have e4:(op==13)=false:=by simpa using h4
 have e5:(op==19)=false:=by simpa using h5
 have e6:(op==17)=false:=by simpa using h6
 have e7:(op==18)=false:=by simpa using h7
 simp only [e1,e2,e3,e4,e5,e6,e7,cond_false,h1,h2,h3,h4,h5,h6,h7,or_self,if_false];by_cases a1:3<=op
 ·by_cases a2:op<=12
  ·simp [a1,a2]
  ·by_cases a3:14<=op
   ·by_cases a4:op<=16
    ·simp [a1,a2,a3,a4]
    ·simp [a1,a2,a3,a4]
   ·simp [a1,a2,a3]
 ·have a3:¬ 14<=op:=by omega
  simp [a1,a3]
theorem q7c {k:Nat} (hk:2<=k) (op:Int):c246 k op=r246 (need op).1 (need op).2.1 (need op).2.2:=by
 obtain ⟨k,rfl⟩:=k01 (k:=k) (by omega);rw [n246];unfold need;by_cases h1:op=1
 ·subst h1;rfl
 by_cases h2:op=2
 ·subst h2;rfl
 by_cases h3:op=20
 ·subst h3;rfl
 by_cases h4:op=13
 ·subst h4;rfl
 by_cases h5:op=19
 ·subst h5;rfl
 have e1:(op==1)=false:=by simpa using h1
 have e2:(op==2)=false:=by simpa using h2
 have e3:(op==20)=false:=by simpa using h3
 have e4:(op==13)=false:=by simpa using h4
 have e5:(op==19)=false:=by simpa using h5
 simp only [e1,e2,e3,e4,e5,cond_false,h1,h2,h3,h4,h5,or_self,if_false,q87 (show 1<=k by omega),q74];by_cases a1:3<=op /\ op<=12
 ·simp [a1]
 ·have b1:(decide (3<=op)&&decide (op<=12))=false:=by simp;omega
  simp only [b1,cond_false,a1,if_false];by_cases a2:14<=op /\ op<=16
  ·simp [a2]
  ·have b2:(decide (14<=op)&&decide (op<=16))=false:=by simp;omega
   simp only [b2,cond_false,a2,if_false];by_cases h6:op=17
   ·subst h6;rfl
   by_cases h7:op=18
   ·subst h7;rfl
   have e6:(op==17)=false:=by simpa using h6
   have e7:(op==18)=false:=by simpa using h7
   simp [e6,e7,h6,h7]
def q5o (wide vars:Int) (x:Nd):Bool :=
 if x.1=1 then q12 wide x.2 else if x.1=2 then decide (wi x.2<IntKind.u64.wrap vars) else if x.1=20 then decide (wi x.2<=1) else decide (x.2=0#64)
theorem y57 {k:Nat} (hk:3<=k) (wide vars:Int) (x:Nd):c275 k wide vars x.1 (wi x.2)=r275 (q5o wide vars x):=by
 obtain ⟨k,rfl⟩:=k01 (k:=k) (by omega);rw [n275];unfold q5o;by_cases h1:x.1=1
 ·simp [h1,z1k (show 2<=k by omega)]
 by_cases h2:x.1=2
 ·simp [h2]
 by_cases h3:x.1=20
 ·simp [h3]
 have e:(wi x.2==0)=decide (x.2=0#64):=by
  have:(0:Int)=wi 0#64:=rfl
  rw [this,q4i];rfl
 have e1:(x.1==1)=false:=by simpa using h1
 have e2:(x.1==2)=false:=by simpa using h2
 have e3:(x.1==20)=false:=by simpa using h3
 simp [h1,h2,h3,e,e1,e2,e3]
theorem v2r {k:Nat} (hk:81<=k) (wide vars:Int) (x:Nd):c247 k wide vars x.1 (wi x.2)=r247 (q5o wide vars x):=by
 obtain ⟨k,rfl⟩:=k01 (k:=k) (by omega);rw [n247];unfold q5o;by_cases h1:x.1=1
 ·simp [h1,q91 (show 80<=k by omega)]
 by_cases h2:x.1=2
 ·simp [h2]
 by_cases h3:x.1=20
 ·have:decide (wi x.2<2)=decide (wi x.2<=1):=by rw [Bool.eq_iff_iff];simp;omega
  simp [h3,this]
 have e:(wi x.2==0)=decide (x.2=0#64):=by
  have:(0:Int)=wi 0#64:=rfl
  rw [this,q4i];rfl
 have e1:(x.1==1)=false:=by simpa using h1
 have e2:(x.1==2)=false:=by simpa using h2
 have e3:(x.1==20)=false:=by simpa using h3
 simp [h1,h2,h3,e,e1,e2,e3]
def kst (wide vars:Int):List Nd->List Int->Option (List Int)
 | [],st=>some st
 | x::t,st=>
  if (need x.1).2.2=0 then none else if q5o wide vars x=false then none else if st.length<(need x.1).1 then none
  else if (st.take (need x.1).1).any (· != (need x.1).2.1) then none else kst wide vars t ((need x.1).2.2::st.drop (need x.1).1)
def fin1 (o:Option (List Int)):Bool:=match o with | some [_]=>true | _=>false
def q29 (o:Option (List Int)):Int:=match o with | some [k]=>k | _=>0
def q42 (wide vars:Int) (t:List Nd):Bool:=isW wide&&isV vars&&decide (1<=t.length)&&decide (t.length<=48)
def q1c (wide vars:Int) (t:List Nd):Bool:=q42 wide vars t&&fin1 (kst wide vars t [])
def kindT (wide vars:Int) (t:List Nd):Int:=if q42 wide vars t then q29 (kst wide vars t []) else 0
theorem x1w {k:Nat} (hk:1<=k) (l:List Int) (hl:l.length<=1000000) (c:Int):∀ (n i:Nat),l.length-i<n->i<=l.length->∃ v,q6i k n (encZ l) (l.length:Int) (i:Int) c=z0g c v /\ decide (v>=0)=(l.drop i).any (· != c)
 | 0,i,h,hi=>by omega
 | n+1,i,h,hi=>by
  obtain ⟨k,rfl⟩:=k01 (k:=k) (by omega);rw [x47];by_cases hlt:i<l.length
  ·have hd:=k04 (i:=i) (l:=l) hlt;rw [hd,q0n,q1r,List.getElem?_eq_getElem hlt];simp only [cond_true,Option.map_some,Option.bind_some,q0d,n276,v1m];rw [q0c hlt,List.any_cons];cases hne:(l[i] != c)
   ·simp only [cond_false,Bool.false_or];rw [q0g (by omega) (by omega)];exact x1w (k:=k+1) (by omega) l hl c n (i+1) (by omega) (by omega)
   ·simp only [cond_true,Bool.true_or];exact ⟨_,rfl,by simp⟩
  ·have hd:=k03 (i:=i) (l:=l) hlt;rw [hd,List.drop_eq_nil_of_le (by omega)];exact ⟨_,rfl,by simp⟩
theorem x39 {k:Nat} (hk:1000010<=k) (l:List Int) (hl:l.length<=1000000) (c:Int):y5u k (encZ l) c=y6h c (l.any (· != c)):=by
 obtain ⟨k,rfl⟩:∃ j,k=j+2:=⟨k-2,by omega⟩;rw [w6,w3q,q0b];obtain ⟨v,h,h2⟩:=x1w (k:=k) (by omega) l hl c k 0 (by omega) (by omega);have h':q6i k k (encZ l) (l.length:Int) 0 c=z0g c v:=h;rw [h'];simp only [x7h,h2,List.drop_zero]
theorem y7w {k:Nat} (hk:1000020<=k) (wide vars:Int) (t:List Nd) (ht:t.length<=100000):∀ (n i:Nat) (st:List Int),t.length-i<n->i<=t.length->st.length<=i ->
  y22 k n wide vars st.length (encT t) (t.length:Int) (i:Int) (encZ st.reverse)=r239 (fin1 (kst wide vars (t.drop i) st))
 | 0,i,st,h,hi,hs=>by omega
 | n+1,i,st,h,hi,hs=>by
  rw [w8r];by_cases hlt:i<t.length
  ·have hd:=k04 (i:=i) (l:=t) hlt;rw [hd,q4x hlt,q0c hlt];simp only [cond_true,Option.bind_some,q3p,q3k,q5k];rw [z45 (by omega),y57 (by omega) wide vars t[i]];simp only [x94,kst];have hn2:=x6f t[i].1;by_cases h1:(need t[i].1).2.2=0
   ·simp [h1,fin1]
   ·have h1':((need t[i].1).2.2==0)=false:=by simpa using h1
    simp only [h1',cond_false,h1,if_false,v1l];cases h2:q5o wide vars t[i]
    ·simp [fin1]
    ·have e1:IntKind.i64.wrap ((st.length:Int)-((need t[i].1).1:Nat))=(st.length:Int)-((need t[i].1).1:Nat):=q0g (by omega) (by omega);rw [e1];simp only [Bool.not_true,cond_false,Bool.true_eq_false,if_false];by_cases h3:st.length<(need t[i].1).1
     ·have h3':decide ((st.length:Int)-((need t[i].1).1:Nat)<0)=true:=by simp;omega
      simp [h3',h3,fin1]
     ·have h3':decide ((st.length:Int)-((need t[i].1).1:Nat)<0)=false:=by simp;omega
      have e2:(st.length:Int)-((need t[i].1).1:Nat)=((st.length-(need t[i].1).1:Nat):Int):=by omega
      rw [h3',e2];simp only [cond_false,h3,if_false,Int.toNat_natCast];have h4:(decide ((0:Int)<=((st.length-(need t[i].1).1:Nat):Int))&&decide (((st.length-(need t[i].1).1:Nat):Int)<=(st.length:Int)))=true:=by (simp;try omega)
      have h5:decide ((st.length:Int)<=(st.length:Int))=true:=by simp
      rw [h4,h5];simp only [Bool.and_self,cond_true,Nat.zero_add];have e3:((encZ st.reverse).drop (st.length-(need t[i].1).1)).take (st.length-(st.length-(need t[i].1).1))=encZ (st.take (need t[i].1).1).reverse:=by
       rw [z02,q3h,List.drop_reverse]
       have:st.length-(st.length-(need t[i].1).1)=(need t[i].1).1:=by omega
       rw [this,List.take_of_length_le (by simp;omega)]
      rw [e3,x39 (by omega) _ (by simp;omega)];simp only [x7r,List.any_reverse];have e4:(st.take (need t[i].1).1).any (· != y95 t[i].1)=(st.take (need t[i].1).1).any (· != (need t[i].1).2.1):=by
       unfold y95;by_cases h0:(need t[i].1).1=0
       ·simp [h0]
       ·simp [h0]
      rw [e4];cases h6:(st.take (need t[i].1).1).any (· != (need t[i].1).2.1)
      ·simp only [cond_false,Bool.false_eq_true,if_false];rw [q0p (by omega) (by omega)];simp only [cond_true];have e5:(encZ st.reverse).take (st.length-(need t[i].1).1)++[PV.int .i64 (need t[i].1).2.2]=encZ ((need t[i].1).2.2::st.drop (need t[i].1).1).reverse:=by
        rw [q3h,q00,List.take_reverse]
        have:st.length-(st.length-(need t[i].1).1)=(need t[i].1).1:=by omega
        rw [this];simp
       have e6:st.length-(need t[i].1).1+1=((need t[i].1).2.2::st.drop (need t[i].1).1).length:=by simp
       rw [e5,e6,q0g (by omega) (by omega)];exact y7w hk wide vars t ht n (i+1) _ (by omega) (by omega) (by simp;omega)
      ·simp [fin1]
  ·have hd:=k03 (i:=i) (l:=t) hlt;rw [hd,List.drop_eq_nil_of_le (by omega)];simp only [cond_false,kst]
   congr 1
   rcases st with _ | ⟨a,_ | ⟨b,st⟩⟩ <;> simp [fin1]
   omega
theorem z1j {k:Nat} (hk:1000100<=k) (wide vars:Int) (t:List Nd) (ht:t.length<=100000):c239 k wide vars (encT t)=r239 (q1c wide vars t):=by
 obtain ⟨k,rfl⟩:=k01 (k:=k) (by omega);rw [n239,z69 (by omega),y72 (by omega)];simp only [x0i,x91,q07];unfold q1c q42;cases h1:isW wide
 ·simp
 ·cases h2:isV vars
  ·simp
  ·by_cases h3:1<=t.length
   ·have h3':decide ((t.length:Int)<1)=false:=by simp;omega
    by_cases h4:t.length<=48
    ·have h4':decide ((t.length:Int)>48)=false:=by simp;omega
     simp only [Bool.not_true,cond_false,h3',h4',h3,h4,decide_true,Bool.and_self,Bool.true_and]
     have:=y7w (k:=k) (by omega) wide vars t ht k 0 [] (by omega) (by omega) (by simp)
     simpa [encZ] using this
    ·have h4':decide ((t.length:Int)>48)=true:=by simp;omega
     simp [h3',h4',h4]
   ·have h3':decide ((t.length:Int)<1)=true:=by simp;omega
    simp [h3',h3]
def Pile (xs:List PV) (st:List Int):Prop:=xs.take st.length=encZ st.reverse
theorem Pile.nil (xs:List PV):Pile xs []:=by simp [Pile,encZ]
theorem Pile.top {xs:List PV} {a:Int} {st:List Int} (h:Pile xs (a::st)):xs[st.length]? = some (.int .i64 a) /\ Pile xs st:=by
 unfold Pile at h ⊢;have e:(a::st).length=st.length+1:=rfl;rw [e] at h;constructor
 ·have h1:(xs.take (st.length+1))[st.length]? = xs[st.length]?:=List.getElem?_take_of_lt (by omega);rw [<- h1,h,q1r];simp
 ·have h2:(xs.take (st.length+1)).take st.length=xs.take st.length:=by rw [List.take_take];congr 1;omega
  rw [<- h2,h,q3h];simp
theorem Pile.push {xs:List PV} {st:List Int} (h:Pile xs st) (b:Int):Pile (xs.take st.length++[PV.int .i64 b]) (b::st):=by
 unfold Pile at h ⊢;rw [h,q00,q3h];rw [List.take_of_length_le (by simp)];simp
theorem x2y {k:Nat} (hk:1000000<=k) (wide vars:Int) (n1:Nat) (t27:List PV) (t28:Int) (i:Nat) (hi:i<=100000) (part own:Int) (xs:List PV):∀ (m n:Nat) (st:List Int),m<n->m<=st.length->st.length<=100000->Pile xs st ->
  y2w k n1 n wide vars st.length (m:Int) part own t27 t28 (i:Int) xs=if (st.take m).any (· != part) then r196 0 else z5v k n1 wide vars (own::st.drop m).length t27 t28 ((i+1:Nat):Int) (xs.take (st.drop m).length++[PV.int .i64 own])
 | m,0,st,hm,hs,hl,hp=>by omega
 | 0,n+1,st,hm,hs,hl,hp=>by
  rw [x6x];have hd:decide (((0:Nat):Int)>0)=false:=rfl;rw [hd];simp only [cond_false,List.take_zero,List.any_nil,Bool.false_eq_true,if_false,List.drop_zero];rw [q0p (by omega) (by omega),q0g (by omega) (by omega)];simp only [cond_true];rfl
 | m+1,n+1,st,hm,hs,hl,hp=>by
  rw [x6x];have hd:decide (((m+1:Nat):Int)>0)=true:=by (simp;try omega)
  rw [hd];cases st with
  | nil=>simp at hs
  | cons a st=>
   obtain ⟨hg,hp'⟩:=hp.top;have e1:IntKind.i64.wrap (((a::st).length:Int)-1)=(st.length:Int):=by
    simp only [List.length_cons] at hl ⊢;rw [q0g (by omega) (by omega)];omega
   have e2:IntKind.i64.wrap (((m+1:Nat):Int)-1)=(m:Int):=by rw [q0g (by omega) (by simp at hs hl;omega)];omega
   have e3:(decide ((0:Int)<=(st.length:Int))&&decide ((st.length:Int)<((a::st).length:Int)))=true:=by simp;omega
   have e4:(decide ((0:Int)<=(st.length:Int))&&decide ((st.length:Int)<=((a::st).length:Int)))=true:=by simp;omega
   rw [e1,e2,e3,e4];simp only [cond_true,Int.toNat_natCast,Nat.zero_add,hg,Option.bind_some,q0d,List.take_succ_cons,List.any_cons,List.drop_succ_cons];cases hne:(a != part)
   ·simp only [cond_false,Bool.false_or];exact x2y hk wide vars n1 t27 t28 i hi part own xs m n st (by omega) (by simpa using hs) (by simp at hl;omega) hp'
   ·simp
theorem y73 {k:Nat} (hk:1000020<=k) (wide vars:Int) (t:List Nd) (ht:t.length<=100000):∀ (n i:Nat) (st:List Int) (xs:List PV),t.length-i<n->i<=t.length->st.length<=i->Pile xs st ->
  z5v k n wide vars st.length (encT t) (t.length:Int) (i:Int) xs=r196 (q29 (kst wide vars (t.drop i) st))
 | 0,i,st,xs,h,hi,hs,hp=>by omega
 | n+1,i,st,xs,h,hi,hs,hp=>by
  rw [w76];by_cases hlt:i<t.length
  ·have hd:=k04 (i:=i) (l:=t) hlt;rw [hd,q4x hlt,q0c hlt];simp only [cond_true,Option.bind_some,q3p,q3k,q5k];rw [q7c (by omega),v2r (by omega) wide vars t[i]];simp only [z2h,kst];have hn2:=x6f t[i].1;by_cases h1:(need t[i].1).2.2=0
   ·simp [h1,q29]
   ·have h1':((need t[i].1).2.2==0)=false:=by simpa using h1
    simp only [h1',cond_false,h1,if_false,v09];cases h2:q5o wide vars t[i]
    ·simp [q29]
    ·simp only [Bool.not_true,cond_false,Bool.true_eq_false,if_false];by_cases h3:st.length<(need t[i].1).1
     ·have h3':decide ((st.length:Int)<((need t[i].1).1:Nat))=true:=by simpa using h3
      simp [h3',h3,q29]
     ·have h3':decide ((st.length:Int)<((need t[i].1).1:Nat))=false:=by simp;omega
      rw [h3'];simp only [cond_false,h3,if_false];rw [x2y (by omega) wide vars n _ _ i (by omega) _ _ xs _ k st (by omega) (by omega) (by omega) hp];cases h6:(st.take (need t[i].1).1).any (· != (need t[i].1).2.1)
      ·simp only [Bool.false_eq_true,if_false];have hpd:∀ (m:Nat) (st:List Int),Pile xs st->Pile xs (st.drop m):=by
        intro m
        induction m with
        | zero=>intro st h;simpa using h
        | succ m ih=>
         intro st h;cases st with
         | nil=>simpa using h
         | cons a st=>simpa using ih st h.top.2
       refine y73 hk wide vars t ht n (i+1) _ _ (by omega) (by omega) ?_ ((hpd _ st hp).push _);simp;omega
      ·simp [q29]
  ·have hd:=k03 (i:=i) (l:=t) hlt;rw [hd,List.drop_eq_nil_of_le (by omega)];simp only [cond_false,kst];rcases st with _ | ⟨a,_ | ⟨b,st⟩⟩
   ·simp [q29]
   ·have:=hp.top.1
    simp at this;simp [q29,this]
   ·have:(((a::b::st).length:Int) != 1)=true:=by simp;omega
    rw [this];simp [q29]
theorem z06 {k:Nat} (hk:1000100<=k) (wide vars:Int) (t:List Nd) (ht:t.length<=100000):c196 k wide vars (encT t)=r196 (kindT wide vars t):=by
 obtain ⟨k,rfl⟩:=k01 (k:=k) (by omega);rw [n196,x3o (by omega),q87 (by omega),q87 (by omega)];simp only [x92,q74,q07];unfold kindT q42;cases h1:isW wide
 ·simp
 ·have e:(decide (1<=vars)&&decide (vars<=4))=isV vars:=rfl;rw [e];cases h2:isV vars
  ·simp
  ·have e2:(decide ((1:Int)<=(t.length:Int))&&decide ((t.length:Int)<=48))=(decide (1<=t.length)&&decide (t.length<=48)):=by
    rw [Bool.eq_iff_iff];simp;omega
   rw [e2];cases h3:(decide (1<=t.length)&&decide (t.length<=48))
   ·rw [Bool.and_eq_false_iff] at h3;rcases h3 with h3 | h3 <;> simp [h3]
   ·rw [Bool.and_eq_true] at h3;simp only [Bool.not_true,cond_false,h3.1,h3.2,Bool.and_self,if_true]
    have:=y73 (k:=k) (by omega) wide vars t ht k 0 [] [] (by omega) (by omega) (by simp) (Pile.nil _)
    simpa using this
theorem w35 (op:Int):(need op).2.2=0∨(need op).2.2=1∨(need op).2.2=2:=by
 unfold need
 repeat' split
 all_goals simp
theorem z8n {wide vars:Int}:∀ {t:List Nd} {st st':List Int},kst wide vars t st=some st'->(∀ a∈st,a=1∨a=2)->∀ a∈st',a=1∨a=2
 | [],st,st',h,hs=>by simp [kst] at h;subst h;exact hs
 | x::t,st,st',h,hs=>by
  simp only [kst] at h;split at h
  ·cases h
  ·split at h
   ·cases h
   ·split at h
    ·cases h
    ·split at h
     ·cases h
     ·rename_i h1 _ _ _;refine z8n h ?_;intro a ha;rcases List.mem_cons.1 ha with rfl | ha
      ·rcases w35 x.1 with h | h | h
       ·exact absurd h h1
       ·exact .inl h
       ·exact .inr h
      ·exact hs a (List.mem_of_mem_drop ha)
theorem y58 {wide vars:Int}:∀ (t u:List Nd) (st:List Int),kst wide vars (t++u) st=(kst wide vars t st).bind (kst wide vars u)
 | [],u,st=>rfl
 | x::t,u,st=>by
  simp only [List.cons_append,kst];split
  ·rfl
  ·split
   ·rfl
   ·split
    ·rfl
    ·split
     ·rfl
     ·exact y58 t u _
theorem y1m {wide vars:Int} {t:List Nd} {x:Nd} {st st':List Int} (h:kst wide vars (t++[x]) st=some st'):∃ s,st'=(need x.1).2.2::s:=by
 rw [y58] at h;obtain ⟨s,_,h⟩:=Option.bind_eq_some_iff.1 h;simp only [kst] at h;split at h
 ·cases h
 ·split at h
  ·cases h
  ·split at h
   ·cases h
   ·split at h
    ·cases h
    ·exact ⟨_,(Option.some.inj h).symm⟩
theorem q4k {wide vars:Int} {t:List Nd}:q1c wide vars t=true↔q42 wide vars t=true /\ ∃ c,kst wide vars t []=some [c] /\ (c=1∨c=2):=by
 unfold q1c;rw [Bool.and_eq_true];constructor
 ·rintro ⟨h1,h2⟩
  refine ⟨h1,?_⟩;cases h:kst wide vars t [] with
  | none=>rw [h] at h2;cases h2
  | some st=>
   rw [h] at h2;rcases st with _ | ⟨a,_ | ⟨b,st⟩⟩
   ·cases h2
   ·exact ⟨a,rfl,z8n h (by simp) a (by simp)⟩
   ·cases h2
 ·rintro ⟨h1,c,h2,_⟩
  exact ⟨h1,by rw [h2];rfl⟩
theorem z7a {wide vars:Int} {t:List Nd}:decide (kindT wide vars t>0)=q1c wide vars t:=by
 rw [Bool.eq_iff_iff,q4k];unfold kindT;constructor
 ·intro h;simp only [decide_eq_true_eq] at h;split at h
  ·rename_i hs;refine ⟨hs,?_⟩;cases hk:kst wide vars t [] with
   | none=>rw [hk] at h;simp [q29] at h
   | some st=>
    rw [hk] at h;rcases st with _ | ⟨a,_ | ⟨b,st⟩⟩
    ·simp [q29] at h
    ·exact ⟨a,rfl,z8n hk (by simp) a (by simp)⟩
    ·simp [q29] at h
  ·simp at h
 ·rintro ⟨hs,c,hk,hc⟩
  simp [hs,hk,q29];omega
theorem z60 {k:Nat} (hk:1000101<=k) (wide vars:Int) (t:List Nd) (ht:t.length<=100000):c292 k wide vars (encT t)=r292 (q1c wide vars t):=by
 obtain ⟨k,rfl⟩:=k01 (k:=k) (by omega);rw [n292,z06 (by omega) _ _ _ ht];simp only [y3h,z7a]
theorem w1a {k:Nat} (hk:2<=k) (wide vars:Int) (t:List Nd) (ht:t.length<=100000) (h:q1c wide vars t=true):c240 k (encT t)=r240 (kindT wide vars t):=by
 obtain ⟨k,rfl⟩:=k01 (k:=k) (by omega);obtain ⟨hs,c,hk',hc⟩:=q4k.1 h;have hl:1<=t.length:=by simp [q42] at hs;omega
 have hlt:t.length-1<t.length:=by omega
 rw [n240,q07,q0g (by omega) (by omega)];have e:(t.length:Int)-1=((t.length-1:Nat):Int):=by omega
 rw [e,q4x hlt];simp only [Option.bind_some,q3k];rw [z45 (by omega)];simp only [x94]
 congr 1
 have e2:t=t.take (t.length-1)++[t[t.length-1]]:=by
  conv=>lhs;rw [<- List.take_append_drop (t.length-1) t]
  rw [q0c hlt,List.drop_eq_nil_of_le (by omega)]
 rw [e2] at hk';obtain ⟨s,h3⟩:=y1m hk';rw [<- e2] at hk';injection h3 with h3 _
 simp [kindT,hs,hk',q29,h3]
theorem z1l {k:Nat} (hk:1000102<=k) (wide vars:Int) (t:List Nd) (ht:t.length<=100000) (c:Int) (hc:c≠0):c187 k wide vars (encT t) c=r187 (kindT wide vars t==c):=by
 obtain ⟨k,rfl⟩:=k01 (k:=k) (by omega);rw [n187,z1j (by omega) _ _ _ ht];simp only [x0j];cases h:q1c wide vars t
 ·simp only [cond_false]
  congr 1
  have h2:=z7a (wide:=wide) (vars:=vars) (t:=t);rw [h] at h2
  symm
  rw [beq_eq_false_iff_ne];intro h3;have hz:kindT wide vars t=0:=by
   unfold kindT at h2 ⊢;split
   ·rename_i hs;rw [if_pos hs] at h2;cases hk:kst wide vars t [] with
    | none=>simp [q29]
    | some st=>
     rw [hk] at h2;rcases st with _ | ⟨a,_ | ⟨b,st⟩⟩
     ·simp [q29]
     ·have:=z8n hk (by simp) a (by simp)
      simp [q29] at h2;omega
     ·simp [q29]
   ·rfl
  omega
 ·simp only [cond_true];rw [w1a (by omega) _ _ _ ht h];simp only [v06]
def mk (wide:Int):W:=q3u wide.toNat
def tr (b:Bool):W:=if b then 1#64 else 0#64
def shW (wide:Int) (a b:W) (left:Bool):W:=if wide<=wi b then 0#64 else if left then (a <<< b.toNat) &&& mk wide else a >>> b.toNat
def sgn (wide:Int) (a:W):Int:=shrI .i64 (IntKind.i64.wrap (wi (a <<< (64-wide).toNat))) (64-wide)
def divW (wide:Int) (a b:W):W × W:=if q12 wide a&&q12 wide b then (if b=0#64 then (mk wide,a) else (a / b,a % b)) else (0#64,0#64)
def z8a (wide op:Int) (a b:W):W :=
 if op=3 then a+b else if op=4 then a-b else if op=5 then a*b else if op=6 then (divW wide a b).1 else if op=7 then (divW wide a b).2
 else if op=8 then a &&& b else if op=17 then a &&& b else if op=9 then a ||| b else if op=18 then a ||| b else if op=10 then a ^^^ b
 else if op=11 then shW wide a b true else if op=12 then shW wide a b false else if op=14 then tr (a==b) else if op=15 then tr (decide (a<b))
 else if op=16 then tr (decide (sgn wide a<sgn wide b)) else 0#64
def apW (wide op:Int) (a b:W):W:=z8a wide op a b &&& mk wide
theorem w4m {k:Nat} (hk:1<=k) (b:Bool):c265 k b=r265 (wi (tr b)):=by
 obtain ⟨k,rfl⟩:=k01 (k:=k) (by omega);rw [n265];cases b <;> rfl
theorem y94 {k:Nat} (hk:1<=k) {wide:Int} (h:isW wide=true):c150 k wide=r150 (wi (mk wide)):=by
 have:=q2f.1 h
 exact y6a hk (by omega) (by omega)
theorem w4e {k:Nat} (hk:2<=k) {wide:Int} (h:isW wide=true) (a b:W) (left:Bool):c264 k wide (wi a) (wi b) left=r264 (wi (shW wide a b left)):=by
 obtain ⟨k,rfl⟩:=k01 (k:=k) (by omega);have h':=q2f.1 h;rw [n264,q48 (by omega) (by omega)];unfold shW;by_cases h1:wide<=wi b
 ·have:decide (wi b>=wide)=true:=by simpa using h1
  simp only [this,cond_true,h1,if_true];rfl
 ·have h2:decide (wi b>=wide)=false:=by simpa using h1
  have h3:decide (wi b<0)=false:=by have:=q4m b;simp;omega
  simp only [h2,h3,cond_false,h1,if_false,Bool.not_false,cond_true];cases left
  ·simp only [cond_false,Bool.false_eq_true,if_false];rw [z24 _ (q4m b)];simp [wi]
  ·simp only [cond_true,if_true];rw [y94 (by omega) h];simp only [z2f];rw [y5 _ (q4m b),q6q];simp [wi]
theorem w15 {k:Nat} (hk:1<=k) {wide:Int} (h:isW wide=true) (a:W):c266 k wide (wi a)=r266 (sgn wide a):=by
 obtain ⟨k,rfl⟩:=k01 (k:=k) (by omega);have h':=q2f.1 h;rw [n266,q0g (n:=64-wide) (by omega) (by omega)];have h3:decide (64-wide<0)=false:=by simp;omega
 simp only [h3,Bool.not_false,cond_true];rw [y5 _ (by omega)];rfl
theorem w2y {k:Nat} (hk:1<=k) (a b:W) (hb:b≠0#64):c287 k 0 (wi a) (wi b)=r287 (wi (a / b)) (wi (a % b)):=by
 obtain ⟨k,rfl⟩:=k01 (k:=k) (by omega);rw [n287];have hb0:b.toNat≠0:=fun h=>hb (BitVec.eq_of_toNat_eq (by simpa using h))
 have h1:(wi b==0)=false:=by unfold wi;simp;omega
 have h2:decide (wi b<=0)=false:=by unfold wi;simp;omega
 have h3:((0:Int)==0)=true:=rfl;simp only [h1,h2,h3,cond_false,cond_true,Bool.not_false];have e1:(wi a).tdiv (wi b)=wi (a / b):=by
  unfold wi;rw [Int.tdiv_eq_ediv_of_nonneg (by omega),BitVec.toNat_udiv,Int.natCast_ediv]
 have e2:(wi a).tmod (wi b)=wi (a % b):=by
  unfold wi;rw [Int.tmod_eq_emod_of_nonneg (by omega),BitVec.toNat_umod,Int.natCast_emod]
 rw [e1,e2,q9n]
theorem x36 {k:Nat} (hk:3<=k) (wide:Int) (a b:W):c286 k wide (wi a) (wi b)=r286 (q12 wide a&&q12 wide b):=by
 obtain ⟨k,rfl⟩:=k01 (k:=k) (by omega);rw [n286,z1k (by omega),z1k (by omega)];simp only [v1w];cases q12 wide a <;> rfl
theorem x8h {k:Nat} (hk:4<=k) {wide:Int} (h:isW wide=true) (a b:W):c263 k wide (wi a) (wi b)=r263 (wi (divW wide a b).1) (wi (divW wide a b).2) (q12 wide a&&q12 wide b):=by
 obtain ⟨k,rfl⟩:=k01 (k:=k) (by omega);rw [n263,x36 (by omega)];simp only [v1p];unfold divW;cases h1:(q12 wide a&&q12 wide b)
 ·rfl
 ·simp only [Bool.not_true,cond_false,if_true];by_cases hb:b=0#64
  ·subst hb;have e:(wi 0#64==0)=true:=rfl;simp only [e,cond_true,if_true];rw [y94 (by omega) h];simp only [z2f]
  ·have h2:(wi b==0)=false:=by
    have e:(0:Int)=wi 0#64:=rfl;rw [e,q4i];simpa using hb
   simp only [h2,cond_false,hb,if_false];rw [w2y (by omega) a b hb];simp only [v1q]
theorem w2m {k:Nat} (hk:5<=k) {wide:Int} (h:isW wide=true) (op:Int) (a b:W):c213 k wide op (wi a) (wi b)=r213 (wi (apW wide op a b)):=by
 obtain ⟨k,rfl⟩:=k01 (k:=k) (by omega);rw [n213];have hm:=y94 (k:=k) (by omega) h;have hd:=x8h (k:=k) (by omega) h a b;have hs:=fun l=>w4e (k:=k) (by omega) h a b l
 have ht:=fun x=>w4m (k:=k) (by omega) x
 have hg:=fun x=>w15 (k:=k) (by omega) h x
 simp only [hm,hd,hs,ht,hg,z2f,v1d,v1e,v1f,v1g,x0t,y5e,x2b,q6q,y96,z75,q4i,y86];unfold apW z8a;by_cases h1:op=3
 · subst h1;rfl
 by_cases h2:op=4
 · subst h2;rfl
 by_cases h3:op=5
 · subst h3;rfl
 by_cases h4:op=6
 · subst h4;rfl
 by_cases h5:op=7
 · subst h5;rfl
 by_cases h6:op=8
 · subst h6;rfl
 by_cases h7:op=17
 · subst h7;rfl
 by_cases h8:op=9
 · subst h8;rfl
 by_cases h9:op=18
 · subst h9;rfl
 by_cases h10:op=10
 · subst h10;rfl
 by_cases h11:op=11
 · subst h11;rfl
 by_cases h12:op=12
 · subst h12;rfl
 by_cases h13:op=14
 · subst h13;rfl
 by_cases h14:op=15
 · subst h14;rfl
 by_cases h15:op=16
 · subst h15;rfl
 have q:∀ c:Int,op≠c->(op==c)=false:=fun c hc=>by simpa using hc
 simp only [q _ h1,q _ h2,q _ h3,q _ h4,q _ h5,q _ h6,q _ h7,q _ h8,q _ h9,q _ h10,q _ h11,q _ h12,q _ h13,q _ h14,q _ h15,cond_false,h1,h2,h3,h4,h5,h6,h7,h8,h9,h10,h11,h12,h13,h14,h15,if_false];have e:(0:Int)=wi 0#64:=rfl;rw [e,q6q]
def vrun (wide:Int) (state:List W):List Nd->List W->Option (List W)
 | [],vs=>some vs
 | x::t,vs=>
  if x.1=1∨x.1=20 then vrun wide state t (x.2::vs)
  else if x.1=2 then (state[x.2.toNat]?).bind fun s=>vrun wide state t (s::vs)
  else if x.1=13 then match vs with
   | a::r=>vrun wide state t ((~~~a &&& mk wide)::r)
   | []=>none
  else if x.1=19 then match vs with
   | a::r=>vrun wide state t ((1#64-a)::r)
   | []=>none
  else match vs with
   | b::a::r=>vrun wide state t (apW wide x.1 a b::r)
   | _=>none
theorem y1g {a:W} {r:List W}:(encW (a::r).reverse)[r.length]? = some (.int .u64 (wi a)):=by rw [q5l];simp
theorem w0z {a b:W} {r:List W}:(encW (b::a::r).reverse)[r.length]? = some (.int .u64 (wi a)):=by rw [q5l];simp
theorem x1l {a b:W} {r:List W}:(encW (a::r).reverse).set r.length (.int .u64 (wi b))=encW (b::r).reverse:=by
 simp [encW]
theorem x3l {k:Nat} (hk:100<=k) {wide:Int} (hw:isW wide=true) (state:List W) (t:List Nd) (ht:t.length<=100000) (v:W):∀ (n i:Nat) (vs:List W),t.length-i<n->i<=t.length->vs.length<=i->vrun wide state (t.drop i) vs=some [v] ->
  q6j k n wide (encW state) vs.length (encT t) (t.length:Int) (i:Int) (encW vs.reverse)=r149 (wi v)
 | 0,i,vs,h,hi,hs,hv=>by omega
 | n+1,i,vs,h,hi,hs,hv=>by
  rw [w7c];by_cases hlt:i<t.length
  ·have hd:=k04 (i:=i) (l:=t) hlt;rw [hd,q4x hlt];rw [q0c hlt] at hv
   generalize t[i]=x at hv
   simp only [cond_true,Option.bind_some,q3p,q3k,q5k];have hnext:=k02 (i:=i) (by omega);rw [hnext];have push:∀ a:W,(encW vs.reverse).take vs.length++[PV.int .u64 (wi a)]=encW (a::vs).reverse:=by
    intro a;rw [List.take_of_length_le (by simp),z01];simp
   have ih:=fun (vs:List W) (h1:vs.length<=i+1) (h2:vrun wide state (t.drop (i+1)) vs=some [v])=>x3l hk hw state t ht v n (i+1) vs (by omega) (by omega) h1 h2
   simp only [vrun] at hv;have hlim:(decide ((vs.length+1)*8<=LIM)&&decide (vs.length+1<=LIM))=true:=q0p (by omega) (by omega);by_cases h1:x.1=1
   ·have e1:(x.1==1)=true:=by simpa using h1
    simp only [e1,cond_true,hlim,push];rw [if_pos (.inl h1)] at hv;exact ih (x.2::vs) (by simp;omega) hv
   have e1:(x.1==1)=false:=by simpa using h1
   by_cases h2:x.1=20
   ·have e2:(x.1==20)=true:=by simpa using h2
    simp only [e1,e2,cond_true,cond_false,hlim,push];rw [if_pos (.inr h2)] at hv;exact ih (x.2::vs) (by simp;omega) hv
   have e2:(x.1==20)=false:=by simpa using h2
   rw [if_neg (by simp [h1,h2])] at hv;by_cases h3:x.1=2
   ·have e3:(x.1==2)=true:=by simpa using h3
    rw [if_pos h3] at hv;obtain ⟨s,hst,hv⟩:=Option.bind_eq_some_iff.1 hv;simp only [e1,e2,e3,cond_true,cond_false,hlim];rw [q5p (q4m _),q5l];have e4:(wi x.2).toNat=x.2.toNat:=by simp [wi]
    rw [e4,hst];simp only [Option.map_some,Option.bind_some,q0d,push];exact ih (s::vs) (by simp;omega) hv
   have e3:(x.1==2)=false:=by simpa using h3
   rw [if_neg h3] at hv;by_cases h4:x.1=13
   ·have e4:(x.1==13)=true:=by simpa using h4
    rw [if_pos h4] at hv;cases vs with
    | nil=>cases hv
    | cons a r=>
     simp only at hv
     have hlen:IntKind.i64.wrap (((a::r).length:Int)-1)=(r.length:Int):=by simp only [List.length_cons] at hs ⊢;rw [q0g (by omega) (by omega)];omega
     have hb:(decide ((0:Int)<=(r.length:Int))&&decide ((r.length:Int)<((a::r).length:Int)))=true:=by simp;omega
     simp only [e1,e2,e3,e4,cond_true,cond_false,hlen,hb,Int.toNat_natCast,Nat.zero_add,y1g,Option.bind_some,q0d];rw [y94 (by omega) hw];simp only [z2f];have ex:(18446744073709551615:Int)=wi (BitVec.allOnes 64):=rfl;rw [ex,z75,q6q,BitVec.allOnes_xor,x1l];exact ih ((~~~a &&& mk wide)::r) (by simp at hs ⊢;omega) hv
   have e4:(x.1==13)=false:=by simpa using h4
   rw [if_neg h4] at hv;by_cases h5:x.1=19
   ·have e5:(x.1==19)=true:=by simpa using h5
    rw [if_pos h5] at hv;cases vs with
    | nil=>cases hv
    | cons a r=>
     simp only at hv
     have hlen:IntKind.i64.wrap (((a::r).length:Int)-1)=(r.length:Int):=by simp only [List.length_cons] at hs ⊢;rw [q0g (by omega) (by omega)];omega
     have hb:(decide ((0:Int)<=(r.length:Int))&&decide ((r.length:Int)<((a::r).length:Int)))=true:=by simp;omega
     simp only [e1,e2,e3,e4,e5,cond_true,cond_false,hlen,hb,Int.toNat_natCast,Nat.zero_add,y1g,Option.bind_some,q0d];have ex:(1:Int)=wi 1#64:=rfl;rw [ex,y5e,x1l];exact ih ((1#64-a)::r) (by simp at hs ⊢;omega) hv
   have e5:(x.1==19)=false:=by simpa using h5
   rw [if_neg h5] at hv;rcases vs with _ | ⟨b,_ | ⟨a,r⟩⟩
   ·cases hv
   ·cases hv
   ·simp only at hv
    have hlen:IntKind.i64.wrap (((b::a::r).length:Int)-1)=((r.length+1:Nat):Int):=by simp only [List.length_cons] at hs ⊢;rw [q0g (by omega) (by omega)];omega
    have hlen2:IntKind.i64.wrap (((r.length+1:Nat):Int)-1)=(r.length:Int):=by simp only [List.length_cons] at hs;rw [q0g (by omega) (by omega)];omega
    have hb:(decide ((0:Int)<=(r.length:Int))&&decide ((r.length:Int)<((b::a::r).length:Int)))=true:=by simp;omega
    have hb2:(decide ((0:Int)<=(r.length:Int))&&decide ((r.length:Int)<=((b::a::r).length:Int)))=true:=by simp;omega
    have hb3:(decide ((0:Int)<=((r.length+1:Nat):Int))&&decide (((r.length+1:Nat):Int)<((b::a::r).length:Int)))=true:=by simp;omega
    have ht1:(encW (b::a::r).reverse)[r.length+1]? = some (.int .u64 (wi b)):=y1g (a:=b) (r:=a::r);simp only [e1,e2,e3,e4,e5,cond_true,cond_false,hlen,hlen2,hb,hb2,hb3,Int.toNat_natCast,Nat.zero_add,w0z,ht1,Option.bind_some,q0d];rw [w2m (by omega) hw];simp only [v0o];have hlim2:(decide ((r.length+1)*8<=LIM)&&decide (r.length+1<=LIM))=true:=q0p (by simp at hs;omega) (by omega);have hp:(encW (b::a::r).reverse).take r.length++[PV.int .u64 (wi (apW wide x.1 a b))]=encW (apW wide x.1 a b::r).reverse:=by
     rw [w0y,z01];simp
    rw [hlim2,hp];exact ih (apW wide x.1 a b::r) (by simp at hs ⊢;omega) hv
  ·have hd:=k03 (i:=i) (l:=t) hlt;rw [hd];rw [List.drop_eq_nil_of_le (by omega)] at hv;simp only [vrun] at hv;injection hv with hv
   subst hv;rfl
theorem q9d {k:Nat} (hk:200000<=k) {wide:Int} (hw:isW wide=true) (state:List W) (t:List Nd) (ht:t.length<=100000) {v:W} (hv:vrun wide state t []=some [v]):c149 k wide (encT t) (encW state)=r149 (wi v):=by
 obtain ⟨k,rfl⟩:=k01 (k:=k) (by omega);rw [n149,q07];exact x3l (by omega) hw state t ht v k 0 [] (by omega) (by omega) (by simp) hv
theorem z92 {k:Nat} (hk:1<=k) {bs:List Nat} (hc:CodeOK bs):∀ (n i:Nat) (v:Int),bs.length-i<n->i<=bs.length->0<=v->v<1000003->∃ r,y9s k n v (encB bs) (bs.length:Int) (i:Int)=r49 r /\ 0<=r /\ r<1000003
 | 0,i,v,h,hi,h0,h1=>by omega
 | n+1,i,v,h,hi,h0,h1=>by
  have hl:=hc.len;rw [v3e];by_cases hlt:i<bs.length
  ·have hd:=k04 (i:=i) (l:=bs) hlt;rw [hd,q0n,x1j,List.getElem?_eq_getElem hlt];have hb:=hc.lt bs[i] (List.getElem_mem hlt);simp only [cond_true,Option.map_some,Option.bind_some,q0d];rw [q0g (n:=31*v) (by omega) (by omega),q0g (n:=(bs[i]:Int)) (by omega) (by omega),q0g (n:=31*v+(bs[i]:Int)) (by omega) (by omega),q0g (n:=(i:Int)+1) (by omega) (by omega)];have h6:=Int.tmod_nonneg 1000003 (a:=31*v+(bs[i]:Int)) (by omega);have h7:=Int.tmod_lt_of_pos (31*v+(bs[i]:Int)) (b:=1000003) (by omega);exact z92 hk hc n (i+1) _ (by omega) (by omega) h6 h7
  ·have hd:=k03 (i:=i) (l:=bs) hlt;rw [hd];exact ⟨v,rfl,h0,h1⟩
theorem x4j {k:Nat} (hk:1048580<=k) {bs:List Nat} (hc:CodeOK bs):∃ r,c49 k (encB bs)=r49 r /\ 0<=r /\ r<1000003:=by
 have hl:=hc.len;obtain ⟨k,rfl⟩:=k01 (k:=k) (by omega);rw [n49,q7r];exact z92 (by omega) hc k 0 0 (by omega) (by omega) (by omega) (by omega)
def putT (by1:List (List Nd)):List Nd->List Nd
 | []=>[]
 | x::t=>(if x.1=2 then (by1[x.2.toNat]?).getD [] else [x])++putT by1 t
def byOK (wide vars:Int) (by1:List (List Nd)):Bool:=by1.all fun b=>kindT wide vars b==1
def q61 (wide vars:Int) (t:List Nd) (by1:List (List Nd)):Bool:=q1c wide vars t&&decide ((by1.length:Int)=vars)&&byOK wide vars by1
theorem x5r {k:Nat} (hk:1000150<=k) (wide vars:Int) (l:List (List Nd)) (hl:l.length<=1000) (hb:∀ b∈l,b.length<=100):∀ (n i:Nat),l.length-i<n->i<=l.length->∃ v,q6o k n (q0i l) (l.length:Int) (i:Int) wide vars=z0n wide vars v /\ decide (v>=0)=(l.drop i).any (fun b=>!(kindT wide vars b==1))
 | 0,i,h,hi=>by omega
 | n+1,i,h,hi=>by
  obtain ⟨k,rfl⟩:=k01 (k:=k) (by omega);rw [x5f];by_cases hlt:i<l.length
  ·have hd:=k04 (i:=i) (l:=l) hlt;have h2:=hb l[i] (List.getElem_mem hlt);rw [hd,q0n,q1l,List.getElem?_eq_getElem hlt];simp only [cond_true,Option.map_some,Option.bind_some,q0u,n288];rw [z1l (by omega) wide vars l[i] (by omega) 1 (by omega)];simp only [x0g,v1r];rw [q0c hlt,List.any_cons];cases hne:(kindT wide vars l[i]==1)
   ·simp only [Bool.not_false,cond_true,Bool.true_or];exact ⟨_,rfl,by simp⟩
   ·simp only [Bool.not_true,cond_false,Bool.false_or];rw [q0g (by omega) (by omega)];exact x5r (k:=k+1) (by omega) wide vars l hl hb n (i+1) (by omega) (by omega)
  ·have hd:=k03 (i:=i) (l:=l) hlt;rw [hd,List.drop_eq_nil_of_le (by omega)];exact ⟨_,rfl,by simp⟩
theorem v4v {k:Nat} (hk:1000200<=k) (wide vars:Int) (l:List (List Nd)) (hl:l.length<=1000) (hb:∀ b∈l,b.length<=100):y03 k (q0i l) wide vars=y1y wide vars (!byOK wide vars l):=by
 obtain ⟨k,rfl⟩:∃ j,k=j+2:=⟨k-2,by omega⟩;rw [w3u,w32,q05];obtain ⟨v,h,h2⟩:=x5r (k:=k) (by omega) wide vars l hl hb k 0 (by omega) (by omega);have h':q6o k k (q0i l) (l.length:Int) 0 wide vars=z0n wide vars v:=h;rw [h'];simp only [x7l,h2,List.drop_zero,byOK]
 congr 1
 rw [List.all_eq_not_any_not,Bool.not_not]
theorem x8c {k:Nat} (hk:1000101<=k) (wide vars:Int) (t:List Nd) (ht:t.length<=100000):c289 k wide vars (encT t)=r289 (bif q1c wide vars t then encT t else []) (q1c wide vars t):=by
 obtain ⟨k,rfl⟩:=k01 (k:=k) (by omega);rw [n289,z1j (by omega) _ _ _ ht];simp only [x0j];cases q1c wide vars t <;> rfl
theorem w55 {k:Nat} (hk:1000102<=k) (wide vars:Int) (t:List Nd) (ht:t.length<=100000):c293 k wide vars (encT t)=r293 (bif q1c wide vars t then encT t else []) (q1c wide vars t):=by
 obtain ⟨k,rfl⟩:=k01 (k:=k) (by omega);rw [n293,z60 (by omega) _ _ _ ht];simp only [x96];cases q1c wide vars t <;> rfl
theorem y1v {k:Nat} (hk:1000150<=k) (wide vars:Int) (t:List Nd) (ht:t.length<=100) (by1:List (List Nd)) (hb:∀ b∈by1,b.length<=100):∀ (n i:Nat) (o:List Nd),t.length-i<n->i<=t.length->o.length<=100*i->(∀ x∈t.drop i,x.1=2->x.2.toNat<by1.length) ->
  z6c k n (q0i by1) o.length (encT t) (t.length:Int) (i:Int) wide vars (encT o)=r268 (bif q1c wide vars (o++putT by1 (t.drop i)) then encT (o++putT by1 (t.drop i)) else []) (q1c wide vars (o++putT by1 (t.drop i)))
 | 0,i,o,h,hi,ho,hv=>by omega
 | n+1,i,o,h,hi,ho,hv=>by
  rw [w8x];have htk:(encT o).take o.length=encT o:=by rw [List.take_of_length_le (by simp)]
  rw [htk];by_cases hlt:i<t.length
  ·have hd:=k04 (i:=i) (l:=t) hlt;have hx:=hv t[i] (by rw [q0c hlt];exact List.mem_cons_self);have hv':∀ x∈t.drop (i+1),x.1=2->x.2.toNat<by1.length:=fun x hx=>hv x (by rw [q0c hlt];exact List.mem_cons_of_mem _ hx)
   rw [hd,q4x hlt,q0c hlt];simp only [cond_true,Option.bind_some,q3p,q3k,q5k,putT];have hnext:=k02 (i:=i) (by omega);rw [hnext];by_cases h2:t[i].1=2
   ·have h2':(t[i].1==2)=true:=by simpa using h2
    have hxl:=hx h2;have e4:(wi t[i].2).toNat=t[i].2.toNat:=by simp [wi]
    have hbl:=hb _ (List.getElem_mem hxl);rw [h2',q5p (q4m _),q1l,e4,List.getElem?_eq_getElem hxl];simp only [cond_true,Option.map_some,Option.bind_some,q0u,h2,if_true,Option.getD_some,q07];rw [q0p (by omega) (by omega),y1f,<- List.length_append];simp only [cond_true];rw [y1v hk wide vars t ht by1 hb n (i+1) (o++by1[t[i].2.toNat]) (by omega) (by omega) (by simp;omega) hv',List.append_assoc]
   ·have h2':(t[i].1==2)=false:=by simpa using h2
    rw [h2',q0p (by omega) (by omega)];have e5:PV.agg [.int .i64 t[i].1,.int .u64 (wi t[i].2)]=encN t[i]:=rfl;have e6:o.length+1=(o++[t[i]]).length:=by simp
    simp only [cond_true,cond_false,h2,if_false];rw [e5,y7t,e6];rw [y1v hk wide vars t ht by1 hb n (i+1) (o++[t[i]]) (by omega) (by omega) (by simp;omega) hv',List.append_assoc]
  ·have hd:=k03 (i:=i) (l:=t) hlt;rw [hd,List.drop_eq_nil_of_le (by omega),x8c (by omega) _ _ _ (by omega)];simp only [cond_false,v1s,putT,List.append_nil]
theorem z7p {k:Nat} (hk:1000150<=k) (wide vars:Int) (t:List Nd) (ht:t.length<=100) (by1:List (List Nd)) (hb:∀ b∈by1,b.length<=100):∀ (n i:Nat) (o:List Nd),t.length-i<n->i<=t.length->o.length<=100*i->(∀ x∈t.drop i,x.1=2->x.2.toNat<by1.length) ->
  z2c k n wide vars (q0i by1) o.length (encT t) (t.length:Int) (i:Int) (encT o)=r272 (bif q1c wide vars (o++putT by1 (t.drop i)) then encT (o++putT by1 (t.drop i)) else []) (q1c wide vars (o++putT by1 (t.drop i)))
 | 0,i,o,h,hi,ho,hv=>by omega
 | n+1,i,o,h,hi,ho,hv=>by
  rw [w82];have htk:(encT o).take o.length=encT o:=by rw [List.take_of_length_le (by simp)]
  rw [htk];by_cases hlt:i<t.length
  ·have hd:=k04 (i:=i) (l:=t) hlt;have hx:=hv t[i] (by rw [q0c hlt];exact List.mem_cons_self);have hv':∀ x∈t.drop (i+1),x.1=2->x.2.toNat<by1.length:=fun x hx=>hv x (by rw [q0c hlt];exact List.mem_cons_of_mem _ hx)
   rw [hd,q4x hlt,q0c hlt];simp only [cond_true,Option.bind_some,q3p,q3k,q5k,putT];have hnext:=k02 (i:=i) (by omega);rw [hnext];by_cases h2:t[i].1=2
   ·have h2':(t[i].1==2)=true:=by simpa using h2
    have hxl:=hx h2;have e4:(wi t[i].2).toNat=t[i].2.toNat:=by simp [wi]
    have hbl:=hb _ (List.getElem_mem hxl);rw [h2',q5p (q4m _),q1l,e4,List.getElem?_eq_getElem hxl];simp only [cond_true,Option.map_some,Option.bind_some,q0u,h2,if_true,Option.getD_some,q07];rw [q0p (by omega) (by omega),y1f,<- List.length_append];simp only [cond_true];rw [z7p hk wide vars t ht by1 hb n (i+1) (o++by1[t[i].2.toNat]) (by omega) (by omega) (by simp;omega) hv',List.append_assoc]
   ·have h2':(t[i].1==2)=false:=by simpa using h2
    rw [h2',q0p (by omega) (by omega)];have e5:PV.agg [.int .i64 t[i].1,.int .u64 (wi t[i].2)]=encN t[i]:=rfl;have e6:o.length+1=(o++[t[i]]).length:=by simp
    simp only [cond_true,cond_false,h2,if_false];rw [e5,y7t,e6];rw [z7p hk wide vars t ht by1 hb n (i+1) (o++[t[i]]) (by omega) (by omega) (by simp;omega) hv',List.append_assoc]
  ·have hd:=k03 (i:=i) (l:=t) hlt;rw [hd,List.drop_eq_nil_of_le (by omega),w55 (by omega) _ _ _ (by omega)];simp only [cond_false,v1v,putT,List.append_nil]
theorem x11 {wide vars:Int}:∀ {t:List Nd} {st st':List Int},kst wide vars t st=some st'->∀ x∈t,q5o wide vars x=true
 | [],st,st',h=>by simp
 | x::t,st,st',h=>by
  simp only [kst] at h;split at h
  ·cases h
  ·split at h
   ·cases h
   ·rename_i h2;split at h
    ·cases h
    ·split at h
     ·cases h
     ·intro y hy;rcases List.mem_cons.1 hy with rfl | hy
      ·simpa using h2
      ·exact x11 h y hy
theorem z3p {wide vars:Int} {t:List Nd} (h:q1c wide vars t=true):∀ x∈t,x.1=2->(x.2.toNat:Int)<vars:=by
 obtain ⟨hs,c,hk,_⟩:=q4k.1 h;have hv:isV vars=true:=by simp only [q42,Bool.and_eq_true] at hs;exact hs.1.1.2
 have hv':=q9j.1 hv;intro x hx h2
 have:=x11 hk x hx
 simp [q5o,h2] at this;rw [q48 (by omega) (by omega)] at this;exact this
theorem w1w {k:Nat} (hk:1000300<=k) (wide vars:Int) (t:List Nd) (ht:t.length<=100) (by1:List (List Nd)) (hl:by1.length<=1000) (hb:∀ b∈by1,b.length<=100) :
  c268 k wide vars (encT t) (q0i by1)=r268 (bif q61 wide vars t by1&&q1c wide vars (putT by1 t) then encT (putT by1 t) else []) (q61 wide vars t by1&&q1c wide vars (putT by1 t)):=by
 obtain ⟨k,rfl⟩:=k01 (k:=k) (by omega);rw [n268,z1j (by omega) _ _ _ (by omega),q05,v4v (by omega) wide vars by1 hl hb];simp only [x0j,x7i];unfold q61;cases h1:q1c wide vars t
 ·simp
 ·simp only [Bool.not_true,cond_false,Bool.true_and];by_cases h2:(by1.length:Int)=vars
  ·have h2':((by1.length:Int) != vars)=false:=by simpa using h2
   simp only [h2',cond_false,h2,decide_true,Bool.true_and];cases h3:byOK wide vars by1
   ·simp
   ·simp only [Bool.not_true,cond_false,Bool.true_and,q07]
    have:=y1v (k:=k) (by omega) wide vars t ht by1 hb k 0 [] (by omega) (by omega) (by simp) (fun x hx h4=>by have:=z3p h1 x (by simpa using hx) h4;omega)
    simpa [encT] using this
  ·have h2':((by1.length:Int) != vars)=true:=by simpa using h2
   simp [h2',h2]
theorem y4f {k:Nat} (hk:1000150<=k) (wide vars:Int) (t:List Nd) (l:List (List Nd)) (hl:l.length<=1000) (hb:∀ b∈l,b.length<=100):∀ (n i:Nat),l.length-i<n->i<=l.length ->
  z6d k n wide vars (encT t) (q0i l) (q0i l) (l.length:Int) (i:Int)=bif byOK wide vars (l.drop i) then z2c k k wide vars (q0i l) 0 (encT t) (t.length:Int) 0 [] else r272 [] false
 | 0,i,h,hi=>by omega
 | n+1,i,h,hi=>by
  rw [w81];by_cases hlt:i<l.length
  ·have hd:=k04 (i:=i) (l:=l) hlt;have h2:=hb l[i] (List.getElem_mem hlt);rw [hd,q0n,q1l,List.getElem?_eq_getElem hlt];simp only [cond_true,Option.map_some,Option.bind_some,q0u];rw [z06 (by omega) wide vars l[i] (by omega),q0c hlt];simp only [y3h,byOK,List.all_cons];cases hne:(kindT wide vars l[i]==1)
   ·have:(kindT wide vars l[i] != 1)=true:=by simpa using hne
    simp [this]
   ·have:(kindT wide vars l[i] != 1)=false:=by simpa using hne
    simp only [this,cond_false,Bool.true_and];rw [q0g (by omega) (by omega)];exact y4f hk wide vars t l hl hb n (i+1) (by omega) (by omega)
  ·have hd:=k03 (i:=i) (l:=l) hlt;rw [hd,List.drop_eq_nil_of_le (by omega),q07];simp [byOK]
theorem x80 {k:Nat} (hk:1000300<=k) (wide vars:Int) (t:List Nd) (ht:t.length<=100) (by1:List (List Nd)) (hl:by1.length<=1000) (hb:∀ b∈by1,b.length<=100) :
  c272 k wide vars (encT t) (q0i by1)=r272 (bif q61 wide vars t by1&&q1c wide vars (putT by1 t) then encT (putT by1 t) else []) (q61 wide vars t by1&&q1c wide vars (putT by1 t)):=by
 obtain ⟨k,rfl⟩:=k01 (k:=k) (by omega);rw [n272,z60 (by omega) _ _ _ (by omega),q05];simp only [x96];unfold q61;cases h1:q1c wide vars t
 ·simp
 ·simp only [Bool.not_true,cond_false,Bool.true_and];by_cases h2:(by1.length:Int)=vars
  ·have h2':((by1.length:Int) != vars)=false:=by simpa using h2
   simp only [h2',cond_false,h2,decide_true,Bool.true_and];have hq:=y4f (k:=k) (by omega) wide vars t by1 hl hb k 0 (by omega) (by omega);have hq':z6d k k wide vars (encT t) (q0i by1) (q0i by1) (by1.length:Int) 0=_:=hq;rw [<- h2];rw [<- h2] at hq';rw [hq',List.drop_zero,h2];cases h3:byOK wide vars by1
   ·simp
   ·simp only [cond_true,Bool.true_and]
    have:=z7p (k:=k) (by omega) wide vars t ht by1 hb k 0 [] (by omega) (by omega) (by simp) (fun x hx h4=>by have:=z3p h1 x (by simpa using hx) h4;omega)
    simpa [encT] using this
  ·have h2':((by1.length:Int) != vars)=true:=by simpa using h2
   simp [h2',h2]
theorem z30 {wide vars:Int} {t:List Nd} (h:kindT wide vars t≠0):isW wide=true /\ isV vars=true:=by
 unfold kindT at h;split at h
 ·rename_i hs;simp only [q42,Bool.and_eq_true] at hs;exact hs.1.1
 ·exact absurd rfl h
def q3l (wide vars:Int):Int->List Chg->Bool
 | _,[]=>true
 | pv,x::l=>decide (0<=x.v)&&decide (x.v<vars)&&decide (pv<x.v)&&(kindT wide vars x.by1==1)&&q3l wide vars x.v l
def q3x (wide vars:Int) (c:Cmd):Bool:=(kindT wide vars c.wh==2)&&q3l wide vars (-1) c.ch
def q11 (p:Prg):Bool:=(kindT p.wide p.vars p.start==2)&&decide (1<=p.cmds.length)&&decide (p.cmds.length<=6)&&p.cmds.all (q3x p.wide p.vars)
theorem z9p {wide vars:Int}:∀ {l:List Chg} {pv:Int},-1<=pv->q3l wide vars pv l=true->l=[]∨(l.length:Int)<=vars-1-pv
 | [],pv,hp,h=>.inl rfl
 | x::l,pv,hp,h=>by
  simp only [q3l,Bool.and_eq_true,decide_eq_true_eq] at h;obtain ⟨⟨⟨⟨h1,h2⟩,h3⟩,_⟩,h5⟩:=h;right;rcases z9p (by omega) h5 with rfl | h6
  ·simp;omega
  ·simp;omega
def q3f (l:List Chg) (i:Nat):Int:=if i=0 then -1 else match l[i-1]? with | some x=>x.v | none=>-1
theorem q9h {k:Nat} (hk:1000110<=k) (wide vars:Int) (l1 l2:List PV) (t:List Nd) (ht:t.length<=100000):c107 k wide vars l1 l2 (encT t)=r107 (kindT wide vars t==2):=by
 obtain ⟨k,rfl⟩:=k01 (k:=k) (by omega);rw [n107,z1l (by omega) _ _ _ ht _ (by decide)];simp only [x0g]
theorem z2i {k:Nat} (hk:1000110<=k) (wide vars:Int) (l1 l2:List PV) (t:List Nd) (ht:t.length<=100000):c126 k wide vars l1 l2 (encT t)=r126 (kindT wide vars t==2):=by
 obtain ⟨k,rfl⟩:=k01 (k:=k) (by omega);rw [n126,z06 (by omega) _ _ _ ht];simp only [y3h]
theorem y38 {wide vars:Int} {l:List Chg} {i:Nat} (h:i<l.length):q3l wide vars (q3f l i) (l.drop i)=(decide (0<=l[i].v)&&decide (l[i].v<vars)&&decide (q3f l i<l[i].v)&&(kindT wide vars l[i].by1==1)&&q3l wide vars (q3f l (i+1)) (l.drop (i+1))):=by
 rw [q0c h];have e:q3f l (i+1)=l[i].v:=by simp [q3f,h]
 rw [e];rfl
theorem z2x {k:Nat} (hk:1000110<=k) (wide vars:Int) (hv:vars<=100) (l1 l2:List PV) (qw:List PV) (l:List Chg) (hl:l.length<=1000) (hb:∀ x∈l,x.by1.length<=100000):∀ (n i:Nat),l.length-i<n->i<=l.length ->
  z2b k n (q03 l) (l.length:Int) (i:Int) wide vars l1 l2 qw (q03 l)=r238 (q3l wide vars (q3f l i) (l.drop i))
 | 0,i,h,hi=>by omega
 | n+1,i,h,hi=>by
  rw [w8q];by_cases hlt:i<l.length
  ·have hd:=k04 (i:=i) (l:=l) hlt;rw [hd,q0n,q32,List.getElem?_eq_getElem hlt,y38 hlt];simp only [cond_true,Option.map_some,Option.bind_some,q6d,q6e,q69];have hbi:=hb l[i] (List.getElem_mem hlt);by_cases h0:l[i].v<0
   ·have e1:decide (l[i].v<0)=true:=by simpa using h0
    have e2:decide (0<=l[i].v)=false:=by simp;omega
    simp only [e1,e2,cond_true,Bool.false_and]
   ·have e1:decide (l[i].v<0)=false:=by simpa using h0
    have e2:decide (0<=l[i].v)=true:=by simp;omega
    simp only [e1,e2,cond_false,Bool.true_and];by_cases h1:l[i].v>=vars
    ·have e3:decide (l[i].v>=vars)=true:=by simpa using h1
     have e4:decide (l[i].v<vars)=false:=by simp;omega
     simp only [e3,e4,cond_true,Bool.false_and]
    ·have e3:decide (l[i].v>=vars)=false:=by simpa using h1
     have e4:decide (l[i].v<vars)=true:=by simp;omega
     simp only [e3,e4,cond_false,Bool.true_and];have fin:(R187 (c187 k wide vars (encT l[i].by1) 1) fun b2=>bif !b2 then r238 false else z2b k n (q03 l) (l.length:Int) (IntKind.i64.wrap ((i:Int)+1)) wide vars l1 l2 qw (q03 l))=r238 ((kindT wide vars l[i].by1==1)&&q3l wide vars (q3f l (i+1)) (l.drop (i+1))):=by
      rw [z1l (by omega) _ _ _ hbi _ (by decide)];simp only [x0g];cases kindT wide vars l[i].by1==1
      ·rfl
      ·simp only [Bool.not_true,cond_false,Bool.true_and];rw [q0g (by omega) (by omega)];exact z2x hk wide vars hv l1 l2 qw l hl hb n (i+1) (by omega) (by omega)
     by_cases hi0:i=0
     ·have e5:decide ((i:Int)>0)=false:=by simp;omega
      have e6:decide (q3f l i<l[i].v)=true:=by
       have h9:q3f l i=-1:=by simp [q3f,hi0]
       rw [h9];simp;omega
      simp only [e5,e6,cond_false,Bool.true_and];exact fin
     ·have e5:decide ((i:Int)>0)=true:=by simp;omega
      have hlt1:i-1<l.length:=by omega
      rw [e5,q0g (n:=(i:Int)-1) (by omega) (by omega),show (i:Int)-1=((i-1:Nat):Int) by omega,q0n,q32,List.getElem?_eq_getElem hlt1];simp only [cond_true,Option.map_some,Option.bind_some,q6e];have e6:q3f l i=l[i-1].v:=by simp [q3f,hi0,hlt1]
      rw [e6];by_cases h2:l[i-1].v>=l[i].v
      ·have e7:decide (l[i-1].v>=l[i].v)=true:=by simpa using h2
       have e8:decide (l[i-1].v<l[i].v)=false:=by simp;omega
       simp only [e7,e8,cond_true,Bool.false_and]
      ·have e7:decide (l[i-1].v>=l[i].v)=false:=by simpa using h2
       have e8:decide (l[i-1].v<l[i].v)=true:=by simp;omega
       simp only [e7,e8,cond_false,Bool.true_and];exact fin
  ·have hd:=k03 (i:=i) (l:=l) hlt;rw [hd,List.drop_eq_nil_of_le (by omega)];rfl
theorem x10 {k:Nat} (hk:1000120<=k) (wide vars:Int) (hv:vars<=100) (l1 l2:List PV) (c:Cmd) (hw:c.wh.length<=100000) (hl:c.ch.length<=1000) (hb:∀ x∈c.ch,x.by1.length<=100000) :
  c238 k wide vars l1 l2 (encT c.wh) (q03 c.ch)=r238 (q3x wide vars c):=by
 obtain ⟨k,rfl⟩:=k01 (k:=k) (by omega);rw [n238,q9h (by omega) _ _ _ _ _ hw,q2l];simp only [z2e];unfold q3x;cases kindT wide vars c.wh==2
 ·rfl
 ·simp only [Bool.not_true,cond_false,Bool.true_and];exact z2x (by omega) wide vars hv l1 l2 (encT c.wh) c.ch hl hb k 0 (by omega) (by omega)
theorem z2y {k:Nat} (hk:1000110<=k) (wide vars:Int) (hv:0<=vars /\ vars<=100) (l1 l2:List PV) (qw:List PV) (l:List Chg) (hl:l.length<=1000) (hb:∀ x∈l,x.by1.length<=100000):∀ (n i:Nat),l.length-i<n->i<=l.length ->
  z15 k n (q03 l) (l.length:Int) (i:Int) wide vars l1 l2 qw (q03 l)=r198 (q3l wide vars (q3f l i) (l.drop i))
 | 0,i,h,hi=>by omega
 | n+1,i,h,hi=>by
  rw [w78];by_cases hlt:i<l.length
  ·have hd:=k04 (i:=i) (l:=l) hlt;rw [hd,q0n,q32,List.getElem?_eq_getElem hlt,y38 hlt];simp only [cond_true,Option.map_some,Option.bind_some,q6d,q6e,q69];have hbi:=hb l[i] (List.getElem_mem hlt);rw [q87 (by omega),q0g (n:=vars-1) (by omega) (by omega)];simp only [q74];have ein:(decide (0<=l[i].v)&&decide (l[i].v<=vars-1))=(decide (0<=l[i].v)&&decide (l[i].v<vars)):=by
    congr 1
    rw [decide_eq_decide];omega
   rw [ein];cases hin:(decide (0<=l[i].v)&&decide (l[i].v<vars))
   ·simp only [Bool.not_false,cond_true,Bool.false_and]
   ·simp only [Bool.not_true,cond_false,Bool.true_and];have fin:(R196 (c196 k wide vars (encT l[i].by1)) fun v2=>bif (v2 != 1) then r198 false else z15 k n (q03 l) (l.length:Int) (IntKind.i64.wrap ((i:Int)+1)) wide vars l1 l2 qw (q03 l))=r198 ((kindT wide vars l[i].by1==1)&&q3l wide vars (q3f l (i+1)) (l.drop (i+1))):=by
     rw [z06 (by omega) _ _ _ hbi];simp only [y3h,bne];cases kindT wide vars l[i].by1==1
     ·rfl
     ·simp only [Bool.not_true,cond_false,Bool.true_and];rw [q0g (by omega) (by omega)];exact z2y hk wide vars hv l1 l2 qw l hl hb n (i+1) (by omega) (by omega)
    by_cases hi0:i=0
    ·have e5:decide ((i:Int)>0)=false:=by simp;omega
     have e6:decide (q3f l i<l[i].v)=true:=by
      have h9:q3f l i=-1:=by simp [q3f,hi0]
      simp at hin;rw [h9];simp;omega
     simp only [e5,e6,cond_false,Bool.true_and];exact fin
    ·have e5:decide ((i:Int)>0)=true:=by simp;omega
     have hlt1:i-1<l.length:=by omega
     rw [e5,q0g (n:=(i:Int)-1) (by omega) (by omega),show (i:Int)-1=((i-1:Nat):Int) by omega,q0n,q32,List.getElem?_eq_getElem hlt1];simp only [cond_true,Option.map_some,Option.bind_some,q6e];have e6:q3f l i=l[i-1].v:=by simp [q3f,hi0,hlt1]
     rw [e6];by_cases h2:l[i-1].v>=l[i].v
     ·have e7:decide (l[i-1].v>=l[i].v)=true:=by simpa using h2
      have e8:decide (l[i-1].v<l[i].v)=false:=by simp;omega
      simp only [e7,e8,cond_true,Bool.false_and]
     ·have e7:decide (l[i-1].v>=l[i].v)=false:=by simpa using h2
      have e8:decide (l[i-1].v<l[i].v)=true:=by simp;omega
      simp only [e7,e8,cond_false,Bool.true_and];exact fin
  ·have hd:=k03 (i:=i) (l:=l) hlt;rw [hd,List.drop_eq_nil_of_le (by omega)];rfl
theorem x14 {k:Nat} (hk:1000120<=k) (wide vars:Int) (hv:vars<=100) (l1 l2:List PV) (c:Cmd) (hw:c.wh.length<=100000) (hl:c.ch.length<=1000) (hb:∀ x∈c.ch,x.by1.length<=100000) :
  c198 k wide vars l1 l2 (encT c.wh) (q03 c.ch)=r198 (q3x wide vars c):=by
 obtain ⟨k,rfl⟩:=k01 (k:=k) (by omega);rw [n198,z2i (by omega) _ _ _ _ _ hw,q2l];simp only [z6h];unfold q3x;cases hkd:kindT wide vars c.wh==2
 ·rfl
 ·simp only [Bool.not_true,cond_false,Bool.true_and];have hvv:=q9j.1 (z30 (wide:=wide) (vars:=vars) (t:=c.wh) (by rw [beq_iff_eq] at hkd;rw [hkd];decide)).2;by_cases hln:(c.ch.length:Int)>vars
  ·have e1:decide ((c.ch.length:Int)>vars)=true:=by simpa using hln
   rw [e1];simp only [cond_true]
   congr 1
   cases hg:q3l wide vars (-1) c.ch
   ·rfl
   ·rcases z9p (by omega) hg with h | h
    ·rw [h] at hln;simp at hln;omega
    ·omega
  ·have e1:decide ((c.ch.length:Int)>vars)=false:=by simpa using hln
   rw [e1];simp only [cond_false];exact z2y (by omega) wide vars (by omega) l1 l2 (encT c.wh) c.ch hl hb k 0 (by omega) (by omega)
theorem y7m {k:Nat} (hk:1000130<=k) (wide vars:Int) (hv:vars<=100) (l1 l2:List PV) (l:List Cmd) (hl:l.length<=1000) (hf:∀ c∈l,FitC 6 c):∀ (n i:Nat),l.length-i<n->i<=l.length ->
  ∃ v,q6p k n (q0f l) (l.length:Int) (i:Int) wide vars l1 l2=z4f wide vars l1 l2 v /\ decide (v>=0)=(l.drop i).any (fun c=>!q3x wide vars c)
 | 0,i,h,hi=>by omega
 | n+1,i,h,hi=>by
  rw [x5g];by_cases hlt:i<l.length
  ·have hd:=k04 (i:=i) (l:=l) hlt;obtain ⟨k,rfl⟩:=k01 (k:=k) (by omega);have hfi:=hf l[i] (List.getElem_mem hlt);rw [hd,q0n,q2v,List.getElem?_eq_getElem hlt];simp only [cond_true,Option.map_some,Option.bind_some,q6f,q7,q39];rw [n237,x10 (by omega) wide vars hv l1 l2 l[i] (by have:=hfi.wh;omega) (by have:=hfi.ch;omega) (fun x hx=>by have:=hfi.by1 x hx;omega)];simp only [v05,v04];rw [q0c hlt,List.any_cons];cases hne:q3x wide vars l[i]
   ·simp only [Bool.not_false,cond_true,Bool.true_or];exact ⟨_,rfl,by simp⟩
   ·simp only [Bool.not_true,cond_false,Bool.false_or];rw [q0g (by omega) (by omega)];exact y7m (k:=k+1) (by omega) wide vars hv l1 l2 l hl hf n (i+1) (by omega) (by omega)
  ·have hd:=k03 (i:=i) (l:=l) hlt;rw [hd,List.drop_eq_nil_of_le (by omega)];exact ⟨_,rfl,by simp⟩
theorem y54 {k:Nat} (hk:1000200<=k) (p:Prg) (hp:FitP p):c185 k p.wide p.vars (encT p.start) (q0f p.cmds)=r185 (q11 p):=by
 obtain ⟨k,rfl⟩:∃ j,k=j+3:=⟨k-3,by omega⟩;have hst:=hp.st;have hcm:=hp.cm;rw [n185,z69 (by omega),y72 (by omega),q9h (by omega) _ _ _ _ _ (by omega)];simp only [x0i,x91,z2e,q1j];unfold q11;cases hkd:kindT p.wide p.vars p.start==2
 ·simp only [Bool.not_false,cond_true,Bool.false_and];cases isW p.wide <;> cases isV p.vars <;> rfl
 ·obtain ⟨hw,hv⟩:=z30 (wide:=p.wide) (vars:=p.vars) (t:=p.start) (by rw [beq_iff_eq] at hkd;rw [hkd];decide);rw [hw,hv];simp only [Bool.not_true,cond_false,Bool.true_and];by_cases h1:(p.cmds.length:Int)<1
  ·have e1:decide ((p.cmds.length:Int)<1)=true:=by simpa using h1
   have e2:decide (1<=p.cmds.length)=false:=by rw [decide_eq_false_iff_not];omega
   simp only [e1,e2,cond_true,Bool.false_and]
  ·have e1:decide ((p.cmds.length:Int)<1)=false:=by simpa using h1
   have e2:decide (1<=p.cmds.length)=true:=by rw [decide_eq_true_eq];omega
   have e3:decide ((p.cmds.length:Int)>6)=false:=by simp;omega
   have e4:decide (p.cmds.length<=6)=true:=by simp;omega
   simp only [e1,e2,e3,e4,cond_false,Bool.true_and];obtain ⟨v,h,hv2⟩:=y7m (k:=k) (by omega) p.wide p.vars (by have:=hp.v;omega) (encT p.start) (q0f p.cmds) p.cmds (by omega) hp.c k 0 (by omega) (by omega);have h':q6p k k (q0f p.cmds) (p.cmds.length:Int) 0 p.wide p.vars (encT p.start) (q0f p.cmds)=_:=h;rw [w33,w34,q1j,h'];simp only [x7n,x7m,hv2,List.drop_zero]
   congr 1
   rw [List.all_eq_not_any_not]
theorem y39 {k:Nat} (hk:1000130<=k) (wide vars:Int) (hv:vars<=100) (l1 l2:List PV) (l:List Cmd) (hl:l.length<=1000) (hf:∀ c∈l,FitC 6 c):∀ (n i:Nat),l.length-i<n->i<=l.length ->
  y2f k n (q0f l) (l.length:Int) (i:Int) wide vars l1 l2=r132 ((l.drop i).all (q3x wide vars))
 | 0,i,h,hi=>by omega
 | n+1,i,h,hi=>by
  rw [w68];by_cases hlt:i<l.length
  ·have hd:=k04 (i:=i) (l:=l) hlt;have hfi:=hf l[i] (List.getElem_mem hlt);rw [hd,q0n,q2v,List.getElem?_eq_getElem hlt];simp only [cond_true,Option.map_some,Option.bind_some,q6f,q7,q39];rw [x14 (by omega) wide vars hv l1 l2 l[i] (by have:=hfi.wh;omega) (by have:=hfi.ch;omega) (fun x hx=>by have:=hfi.by1 x hx;omega)];simp only [v0g];rw [q0c hlt,List.all_cons];cases hne:q3x wide vars l[i]
   ·rfl
   ·simp only [Bool.not_true,cond_false,Bool.true_and];rw [q0g (by omega) (by omega)];exact y39 hk wide vars hv l1 l2 l hl hf n (i+1) (by omega) (by omega)
  ·have hd:=k03 (i:=i) (l:=l) hlt;rw [hd,List.drop_eq_nil_of_le (by omega)];rfl
theorem z05 {k:Nat} (hk:1000200<=k) (p:Prg) (hp:FitP p):c132 k p.wide p.vars (encT p.start) (q0f p.cmds)=r132 (q11 p):=by
 obtain ⟨k,rfl⟩:=k01 (k:=k) (by omega);have hst:=hp.st;have hcm:=hp.cm;rw [n132,z2i (by omega) _ _ _ _ _ (by omega)];simp only [z6h,q1j];unfold q11;cases hkd:kindT p.wide p.vars p.start==2
 ·rfl
 ·simp only [Bool.not_true,cond_false,Bool.true_and];rw [q87 (by omega)];simp only [q74];have e1:(decide ((1:Int)<=(p.cmds.length:Int))&&decide ((p.cmds.length:Int)<=6))=(decide (1<=p.cmds.length)&&decide (p.cmds.length<=6)):=by
   congr 1 <;> rw [decide_eq_decide] <;> omega
  rw [e1];cases decide (1<=p.cmds.length)&&decide (p.cmds.length<=6)
  ·rfl
  ·simp only [Bool.not_true,cond_false,Bool.true_and];exact y39 (by omega) p.wide p.vars (by have:=hp.v;omega) (encT p.start) (q0f p.cmds) p.cmds (by omega) hp.c k 0 (by omega) (by omega)
theorem q4u {p:Prg} (h:q11 p=true):isW p.wide=true /\ isV p.vars=true:=by
 simp only [q11,Bool.and_eq_true,beq_iff_eq] at h;exact z30 (t:=p.start) (by omega)
theorem q6 (wide:Int) (state:List W):∀ (t u:List Nd) (vs:List W),vrun wide state (t++u) vs=(vrun wide state t vs).bind (vrun wide state u)
 | [],u,vs=>rfl
 | x::t,u,vs=>by
  simp only [List.cons_append,vrun];split
  ·exact q6 wide state t u _
  ·split
   ·cases state[x.2.toNat]? with
    | none=>rfl
    | some s=>exact q6 wide state t u _
   ·split
    ·cases vs with
     | nil=>rfl
     | cons a r=>exact q6 wide state t u _
    ·split
     ·cases vs with
      | nil=>rfl
      | cons a r=>exact q6 wide state t u _
     ·rcases vs with _ | ⟨b,_ | ⟨a,r⟩⟩
      ·rfl
      ·rfl
      ·exact q6 wide state t u _
def okV (wide k:Int) (v:W):Prop:=(k=1 /\ v<=mk wide)∨(k=2 /\ v<=1#64)
inductive Fit (wide:Int):List Int->List W->Prop
 | nil:Fit wide [] []
 | cons {k v ks vs}:okV wide k v->Fit wide ks vs->Fit wide (k::ks) (v::vs)
theorem w5f (b:Bool):tr b<=1#64:=by cases b <;> decide
theorem q9t (a b:W):a &&& b<=a:=by rw [BitVec.le_def,BitVec.toNat_and];exact Nat.and_le_left
theorem q8f (a b:W):a &&& b<=b:=by rw [BitVec.le_def,BitVec.toNat_and];exact Nat.and_le_right
theorem q5n {a:W} (h:a<=1#64):a=0#64∨a=1#64:=by
 rw [BitVec.le_def] at h;have h1:(1#64).toNat=1:=rfl;rcases Nat.lt_or_ge a.toNat 1 with h2 | h2
 · left;exact BitVec.eq_of_toNat_eq (by simp;omega)
 · right;exact BitVec.eq_of_toNat_eq (by omega)
theorem v2c {wide op:Int} {a b:W} (hw:isW wide=true) (hm:(need op).1=2) (ha:okV wide (need op).2.1 a) (hb:okV wide (need op).2.1 b):okV wide (need op).2.2 (apW wide op a b):=by
 have hle:apW wide op a b<=mk wide:=q8f _ _;have hle2:apW wide op a b<=z8a wide op a b:=q9t _ _;have ho:3<=op /\ op<=12∨14<=op /\ op<=16∨op=17∨op=18:=by
  unfold need at hm;split at hm
  ·simp at hm
  ·split at hm
   ·simp at hm
   ·split at hm
    ·simp at hm
    ·split at hm
     ·simp at hm
     ·split at hm
      ·left;assumption
      ·split at hm
       ·right;left;assumption
       ·split at hm
        ·right;right;assumption
        ·simp at hm
 rcases ho with h | h | h
 ·have:(need op).2.2=1:=by
   unfold need;rw [if_neg (by omega),if_neg (by omega),if_neg (by omega),if_neg (by omega),if_pos h]
  rw [this];exact .inl ⟨rfl,hle⟩
 ·have:(need op).2.2=2:=by
   unfold need;rw [if_neg (by omega),if_neg (by omega),if_neg (by omega),if_neg (by omega),if_neg (by omega),if_pos h]
  rw [this];refine .inr ⟨rfl,?_⟩;have h3:op=14∨op=15∨op=16:=by omega
  have:∃ c,z8a wide op a b=tr c:=by
   rcases h3 with rfl | rfl | rfl
   ·exact ⟨_,rfl⟩
   ·exact ⟨_,rfl⟩
   ·exact ⟨_,rfl⟩
  obtain ⟨c,hc⟩:=this;rw [hc] at hle2;exact BitVec.le_trans hle2 (w5f c)
 ·have:(need op).2.2=2 /\ (need op).2.1=2:=by
   unfold need;rw [if_neg (by omega),if_neg (by omega),if_neg (by omega),if_neg (by omega),if_neg (by omega),if_neg (by omega),if_pos h];exact ⟨rfl,rfl⟩
  rw [this.1];rw [this.2] at ha hb;refine .inr ⟨rfl,?_⟩;have ha:a<=1#64:=by rcases ha with h | h;exact absurd h.1 (by omega);exact h.2
  have hb:b<=1#64:=by rcases hb with h | h;exact absurd h.1 (by omega);exact h.2
  refine BitVec.le_trans hle2 ?_;rcases h with rfl | rfl <;> rcases q5n ha with rfl | rfl <;> rcases q5n hb with rfl | rfl <;> simp [z8a]
theorem q8b {wide:Int} {a:W}:q12 wide a=true↔isW wide=true /\ a<=mk wide:=by simp [q12,mk]
theorem w3c {wide vars:Int} (hv:isV vars=true) {x:Nd} (h:q5o wide vars x=true):(x.1=1->x.2<=mk wide) /\ (x.1=20->x.2<=1#64) /\ (x.1=2->(x.2.toNat:Int)<vars):=by
 have hv':=q9j.1 hv;unfold q5o at h;refine ⟨fun h1=>?_,fun h1=>?_,fun h1=>?_⟩
 ·rw [if_pos h1] at h;exact (q8b.1 h).2
 ·rw [if_neg (by omega),if_neg (by omega),if_pos h1] at h;rw [decide_eq_true_eq] at h;exact y85.1 h
 ·rw [if_neg (by omega),if_pos h1,decide_eq_true_eq,q48 (by omega) (by omega)] at h;exact h
theorem q7l {wide vars:Int} (hw:isW wide=true) (hv:isV vars=true) {state:List W} (hs:(state.length:Int)=vars) (hg:∀ a∈state,a<=mk wide):∀ {t:List Nd} {ks ks':List Int} {vs:List W},kst wide vars t ks=some ks'->Fit wide ks vs->∃ vs',vrun wide state t vs=some vs' /\ Fit wide ks' vs'
 | [],ks,ks',vs,h,hf=>by simp only [kst] at h;injection h with h;subst h;exact ⟨vs,rfl,hf⟩
 | x::t,ks,ks',vs,h,hf=>by
  simp only [kst] at h;split at h
  ·cases h
  ·rename_i h0;split at h
   ·cases h
   ·rename_i h1;split at h
    ·cases h
    ·rename_i h2;split at h
     ·cases h
     ·rename_i h3;have hlf:=w3c hv (x:=x) (by simpa using h1);simp only [vrun];by_cases a1:x.1=1∨x.1=20
      ·rw [if_pos a1];have hn:(need x.1).1=0 /\ (x.1=1->(need x.1).2.2=1) /\ (x.1=20->(need x.1).2.2=2):=by
        rcases a1 with a | a <;> rw [a] <;> decide
       rw [hn.1,List.drop_zero] at h;refine q7l hw hv hs hg h (.cons ?_ hf);rcases a1 with a | a
       ·exact .inl ⟨hn.2.1 a,hlf.1 a⟩
       ·exact .inr ⟨hn.2.2 a,hlf.2.1 a⟩
      ·rw [if_neg a1];by_cases a2:x.1=2
       ·rw [if_pos a2];have hn:(need x.1).1=0 /\ (need x.1).2.2=1:=by rw [a2];decide
        have hlt:x.2.toNat<state.length:=by have:=hlf.2.2 a2;omega
        rw [List.getElem?_eq_getElem hlt];rw [hn.1,List.drop_zero] at h;exact q7l hw hv hs hg h (.cons (.inl ⟨hn.2,hg _ (List.getElem_mem hlt)⟩) hf)
       ·rw [if_neg a2];by_cases a3:x.1=13
        ·rw [if_pos a3];have hn:(need x.1).1=1 /\ (need x.1).2.2=1:=by rw [a3];decide
         cases hf with
         | nil=>simp [hn.1] at h2
         | cons ho hf=>
          rw [hn.1] at h;exact q7l hw hv hs hg h (.cons (.inl ⟨hn.2,q8f _ _⟩) hf)
        ·rw [if_neg a3];by_cases a4:x.1=19
         ·rw [if_pos a4];have hn:(need x.1).1=1 /\ (need x.1).2.2=2 /\ (need x.1).2.1=2:=by rw [a4];decide
          cases hf with
          | nil=>simp [hn.1] at h2
          | @cons kk v ks vs ho hf=>
           rw [hn.1] at h h3;rw [hn.2.2] at h3;have hk:kk=2:=by simpa using h3
           refine q7l hw hv hs hg h (.cons (.inr ⟨hn.2.1,?_⟩) hf);rcases ho with ho | ho
           ·omega
           ·rcases q5n ho.2 with rfl | rfl <;> decide
         ·rw [if_neg a4];have hn:(need x.1).1=2:=by
           unfold need at h0 ⊢;rw [if_neg (by omega),if_neg (by omega),if_neg a3,if_neg a4] at h0 ⊢;split
           ·rfl
           ·split
            ·rfl
            ·split
             ·rfl
             ·rename_i b1 b2 b3;rw [if_neg b1,if_neg b2,if_neg b3] at h0;exact absurd rfl h0
          rw [hn] at h h2 h3;cases hf with
          | nil=>simp at h2
          | @cons k1 v1 ks vs ho1 hf=>
           cases hf with
           | nil=>simp at h2
           | @cons k2 v2 ks vs ho2 hf=>
            have hk:k1=(need x.1).2.1 /\ k2=(need x.1).2.1:=by simpa using h3
            rw [hk.1] at ho1;rw [hk.2] at ho2;exact q7l hw hv hs hg h (.cons (v2c hw hn ho2 ho1) hf)
theorem x8m {wide vars:Int} {t:List Nd} (h:q1c wide vars t=true) {state:List W} (hs:(state.length:Int)=vars) (hg:∀ a∈state,a<=mk wide):∃ v,vrun wide state t []=some [v] /\ okV wide (kindT wide vars t) v:=by
 obtain ⟨hsz,c,hk,hc⟩:=q4k.1 h;have hw:isW wide=true:=by simp only [q42,Bool.and_eq_true] at hsz;exact hsz.1.1.1
 have hv:isV vars=true:=by simp only [q42,Bool.and_eq_true] at hsz;exact hsz.1.1.2
 obtain ⟨vs',h1,hf⟩:=q7l hw hv hs hg hk .nil;cases hf with
 | cons ho hf=>
  cases hf;refine ⟨_,h1,?_⟩
  have:kindT wide vars t=c:=by simp [kindT,hsz,hk,q29]
  rw [this];exact ho
theorem v2e {k:Nat} (hk:1<=k) (a b:List Nat):c9 k (encB a) (encB b)=r9 (decide (a.length>1048576)||decide (b.length+a.length>1048576)):=by
 obtain ⟨k,rfl⟩:=k01 (k:=k) (by omega);rw [n9,q7r,q7r];by_cases h:a.length>1048576
 ·have:decide ((a.length:Int)>1048576)=true:=by simp;omega
  simp [this,h]
 ·have:decide ((a.length:Int)>1048576)=false:=by simp;omega
  rw [this,q0g (by omega) (by omega)];simp only [cond_false]
  congr 1
  rw [Bool.eq_iff_iff];simp;omega
theorem y71 (l:List Int) (h:∀ n∈l,(Lit.int .u8 n).wf=true):ints .u8 l=encB (l.map Int.toNat) /\ ∀ b∈l.map Int.toNat,b<256:=by
 have hb:∀ n∈l,0<=n /\ n<=255:=by
  intro n hn
  have:=h n hn
  simp only [Lit.wf,Bool.and_eq_true,decide_eq_true_eq] at this;have e1:IntKind.u8.min=0:=rfl;have e2:IntKind.u8.max=255:=rfl;rw [e1,e2] at this;exact this
 constructor
 ·simp only [ints,encB,List.map_map];apply List.map_congr_left;intro n hn
  have:=hb n hn
  simp only [Function.comp]
  congr 1
  omega
 ·intro b hb2;obtain ⟨n,hn,rfl⟩:=List.mem_map.1 hb2
  have:=hb n hn
  omega
end Go.Proofs.YtgdegfijcijnoaaGreat
namespace Go.Dp
theorem y4b (x:Nat) (hx:x<9223372036854775808):(BitVec.ofInt 64 (x:Int)).toNat=x:=by
 rw [BitVec.toNat_ofInt]
 show ((x:Int) % ((2 ^ 64:Nat):Int)).toNat=x
 omega
theorem v2n {x y:Nat} (hx:x<4611686018427387904) (hy:y<4611686018427387904):q0o .or .i64 (x:Int) (y:Int)=((x ||| y:Nat):Int):=by
 show IntKind.i64.wrap (((BitVec.ofInt 64 (x:Int)) ||| (BitVec.ofInt 64 (y:Int))).toNat:Int)=_
 rw [BitVec.toNat_or,y4b x (by omega),y4b y (by omega)]
 have:x ||| y<2 ^ 62:=Nat.or_lt_two_pow (by omega) (by omega)
 exact q0g (by omega) (by omega)
theorem w5u {x y:Nat} (hx:x<4611686018427387904) (hy:y<4611686018427387904):q0o .and .i64 (x:Int) (y:Int)=((x &&& y:Nat):Int):=by
 show IntKind.i64.wrap (((BitVec.ofInt 64 (x:Int)) &&& (BitVec.ofInt 64 (y:Int))).toNat:Int)=_
 rw [BitVec.toNat_and,y4b x (by omega),y4b y (by omega)]
 have:x &&& y<=x:=Nat.and_le_left
 exact q0g (by omega) (by omega)
theorem z2v {x n:Nat} (h:x*2 ^ n<9223372036854775808) (hn:n<=64):shlI .i64 (x:Int) (n:Int)=((x*2 ^ n:Nat):Int):=by
 unfold shlI
 show IntKind.i64.wrap ((x:Int)*2 ^ (min (n:Int).toNat 64))=_
 rw [Int.toNat_natCast,Nat.min_eq_left hn];have e:(x:Int)*2 ^ n=((x*2 ^ n:Nat):Int):=by simp
 rw [e];exact q0g (by omega) (by omega)
theorem w5v {x n:Nat} (hn:n<=64):shrI .i64 (x:Int) (n:Int)=((x / 2 ^ n:Nat):Int):=by
 unfold shrI
 show Int.fdiv (x:Int) (2 ^ (min (n:Int).toNat 64))=_
 rw [Int.toNat_natCast,Nat.min_eq_left hn];have e:((2:Int) ^ n)=((2 ^ n:Nat):Int):=by simp
 rw [e,Int.fdiv_eq_ediv_of_nonneg _ (Int.natCast_nonneg _),<- Int.natCast_ediv]
theorem x4l {x:Nat} (hx:x<18446744073709551616):(BitVec.ofInt 64 (x:Int)).toNat=x:=by
 rw [BitVec.toNat_ofInt]
 show ((x:Int) % ((2 ^ 64:Nat):Int)).toNat=x
 omega
end Go.Dp
namespace Go.Proofs.YtgdegfijcijnoaaGreat
open Go.Dp
def noOf (w:Nat):List W->Nat
 | []=>0
 | a::l=>a.toNat+2 ^ w*noOf w l
def digs (w:Nat):Nat->Nat->List W
 | 0,_=>[]
 | v+1,no=>BitVec.ofNat 64 (no % 2 ^ w)::digs w v (no / 2 ^ w)
theorem z8r {w:Nat}:∀ {s:List W},(∀ a∈s,a.toNat<2 ^ w)->noOf w s<2 ^ (w*s.length)
 | [],_=>by simp [noOf]
 | a::l,h=>by
  have h1:=h a (by simp);have h2:=z8r (s:=l) fun b hb=>h b (by simp [hb])
  simp only [noOf,List.length_cons];have e:2 ^ (w*(l.length+1))=2 ^ w*2 ^ (w*l.length):=by rw [<- Nat.pow_add];congr 1;rw [Nat.mul_succ];omega
  rw [e];have h3:2 ^ w*(noOf w l+1)<=2 ^ w*2 ^ (w*l.length):=Nat.mul_le_mul_left _ h2;rw [Nat.mul_add] at h3;omega
theorem x2i {w:Nat}:∀ (s t:List W),noOf w (s++t)=noOf w s+2 ^ (w*s.length)*noOf w t
 | [],t=>by simp [noOf]
 | a::l,t=>by
  simp only [List.cons_append,noOf,x2i l t,List.length_cons];have e:2 ^ (w*(l.length+1))=2 ^ w*2 ^ (w*l.length):=by rw [<- Nat.pow_add];congr 1;rw [Nat.mul_succ];omega
  rw [e,Nat.mul_add,Nat.mul_assoc];omega
theorem q38 {w:Nat}:∀ {v no:Nat},(digs w v no).length=v
 | 0,_=>rfl
 | v+1,no=>by simp [digs,q38]
theorem x53 {w:Nat} (hw:w<=63):∀ {v no:Nat},∀ a∈digs w v no,a.toNat<2 ^ w
 | 0,no,a,h=>by simp [digs] at h
 | v+1,no,a,h=>by
  simp only [digs,List.mem_cons] at h;rcases h with rfl | h
  ·have h1:no % 2 ^ w<2 ^ w:=Nat.mod_lt _ (Nat.two_pow_pos w);have h2:2 ^ w<=2 ^ 63:=Nat.pow_le_pow_right (by omega) hw;rw [BitVec.toNat_ofNat,Nat.mod_eq_of_lt (by omega)];exact h1
  ·exact x53 hw a h
theorem y8 {w:Nat} (hw:w<=63):∀ {v no:Nat},no<2 ^ (w*v)->noOf w (digs w v no)=no
 | 0,no,h=>by simp at h;subst h;rfl
 | v+1,no,h=>by
  have h1:no % 2 ^ w<2 ^ w:=Nat.mod_lt _ (Nat.two_pow_pos w);have h2:2 ^ w<=2 ^ 63:=Nat.pow_le_pow_right (by omega) hw;have e:2 ^ (w*(v+1))=2 ^ w*2 ^ (w*v):=by rw [<- Nat.pow_add];congr 1;rw [Nat.mul_succ];omega
  rw [e] at h;simp only [digs,noOf];rw [y8 hw (Nat.div_lt_of_lt_mul h),BitVec.toNat_ofNat,Nat.mod_eq_of_lt (a:=no % 2 ^ w) (by omega)];exact Nat.mod_add_div no (2 ^ w)
theorem y7o {w:Nat}:∀ {s:List W},(∀ a∈s,a.toNat<2 ^ w)->digs w s.length (noOf w s)=s
 | [],_=>rfl
 | a::l,h=>by
  have h1:=h a (by simp);simp only [List.length_cons,digs,noOf];rw [Nat.add_mul_mod_self_left,Nat.mod_eq_of_lt h1,Nat.add_mul_div_left _ _ (Nat.two_pow_pos w),Nat.div_eq_of_lt h1,Nat.zero_add,y7o fun b hb=>h b (by simp [hb])]
  congr 1
  exact BitVec.eq_of_toNat_eq (by rw [BitVec.toNat_ofNat,Nat.mod_eq_of_lt a.isLt])
theorem x1h {w:Nat}:∀ {v no i:Nat},i<v->(digs w v no)[i]? = some (BitVec.ofNat 64 (no / 2 ^ (w*i) % 2 ^ w))
 | 0,no,i,h=>by omega
 | v+1,no,0,h=>by simp [digs]
 | v+1,no,i+1,h=>by
  simp only [digs,List.getElem?_cons_succ];rw [x1h (by omega),Nat.div_div_eq_div_mul,<- Nat.pow_add,Nat.mul_succ,Nat.add_comm (w*i) w]
theorem y7p {w v no i:Nat} (h:i<v):(digs w v no).take i++[BitVec.ofNat 64 (no / 2 ^ (w*i) % 2 ^ w)]=(digs w v no).take (i+1):=by
 have hl:i<(digs w v no).length:=by rw [q38];exact h
 have e:=x1h (w:=w) (no:=no) h;rw [List.getElem?_eq_getElem hl] at e;injection e with e
 rw [List.take_succ_eq_append_getElem hl,e]
def stOK (p:Prg) (s:List W):Bool:=decide ((s.length:Int)=p.vars)&&s.all (q12 p.wide)
def q0h (p:Prg):Bool:=q11 p&&decide (p.wide*p.vars<=5)
theorem x58 {p:Prg} (hp:FitP p):IntKind.i64.wrap (p.wide*p.vars)=p.wide*p.vars /\ 0<=p.wide*p.vars /\ p.wide*p.vars<=320:=by
 have h1:=hp.w;have h2:=hp.v;have h3:p.wide*p.vars<=64*p.vars:=Int.mul_le_mul_of_nonneg_right h1.2 (by omega);have h4:0<=p.wide*p.vars:=Int.mul_nonneg (by omega) (by omega);exact ⟨q0g (by omega) (by omega),h4,by omega⟩
theorem z3z {k:Nat} (hk:1000210<=k) (p:Prg) (hp:FitP p):c102 k p.wide p.vars (encT p.start) (q0f p.cmds)=r102 (q0h p):=by
 obtain ⟨k,rfl⟩:=k01 (k:=k) (by omega);rw [n102,y54 (by omega) p hp,(x58 hp).1];simp only [v0b];unfold q0h;cases q11 p <;> rfl
theorem z34 {k:Nat} (hk:1000210<=k) (p:Prg) (hp:FitP p):c104 k p.wide p.vars (encT p.start) (q0f p.cmds)=r104 (q0h p):=by
 obtain ⟨k,rfl⟩:=k01 (k:=k) (by omega);rw [n104,z05 (by omega) p hp,(x58 hp).1];simp only [w9o];unfold q0h;cases q11 p <;> rfl
theorem w16 {p:Prg} (h:q0h p=true):∃ w v:Nat,p.wide=w /\ p.vars=v /\ 1<=w /\ 1<=v /\ v<=4 /\ w*v<=5 /\ q11 p=true:=by
 simp only [q0h,Bool.and_eq_true,decide_eq_true_eq] at h;obtain ⟨hw,hv⟩:=q4u h.1;have hw':=q2f.1 hw;have hv':=q9j.1 hv;have h2:=h.2;refine ⟨p.wide.toNat,p.vars.toNat,by omega,by omega,by omega,by omega,by omega,?_,h.1⟩;have e1:p.wide=(p.wide.toNat:Int):=by omega
 have e2:p.vars=(p.vars.toNat:Int):=by omega
 rw [e1,e2,<- Int.natCast_mul] at h2;omega
theorem w21 {w:Nat} (hw:w<=64) {a:W} (h:q12 (w:Int) a=true):a.toNat<2 ^ w:=by
 have h1:=(q8b.1 h).2;rw [BitVec.le_def] at h1;have h2:(mk (w:Int)).toNat=2 ^ w-1:=by
  unfold mk;rw [Int.toNat_natCast];exact q4 hw
 have:=Nat.two_pow_pos w
 omega
theorem w22 {w:Nat} (h1:1<=w) (hw:w<=64) {a:W} (h:a.toNat<2 ^ w):q12 (w:Int) a=true:=by
 rw [q8b];refine ⟨q2f.2 (by omega),?_⟩;rw [BitVec.le_def];have h2:(mk (w:Int)).toNat=2 ^ w-1:=by
  unfold mk;rw [Int.toNat_natCast];exact q4 hw
 omega
theorem pow5 {n:Nat} (h:n<=5):2 ^ n<=32:=Nat.pow_le_pow_right (n:=2) (by omega) h
theorem w39 {x a n:Nat} (h:x<2 ^ n):x ||| (a*2 ^ n)=x+2 ^ n*a:=by
 rw [<- Nat.shiftLeft_eq,Nat.or_comm,<- Nat.shiftLeft_add_eq_or_of_lt h,Nat.shiftLeft_eq,Nat.mul_comm,Nat.add_comm]
theorem z7w {k:Nat} (w v:Nat) (hwv:w*v<=5) (l1 l2:List PV) (s:List W) (hs:s.length=v) (hv:v<=4) (hg:∀ a∈s,a.toNat<2 ^ w):∀ (n i:Nat),s.length-i<n->i<=s.length ->
  y2j k n (noOf w (s.take i):Int) (encW s) (s.length:Int) (i:Int) (w:Int) (v:Int) l1 l2=r145 (noOf w s:Int)
 | 0,i,h,hi=>by omega
 | n+1,i,h,hi=>by
  rw [w7a];by_cases hlt:i<s.length
  ·have hd:=k04 (i:=i) (l:=s) hlt;have hwi:w*i<=5:=Nat.le_trans (Nat.mul_le_mul_left _ (by omega)) hwv;have hwi1:w*(i+1)<=5:=Nat.le_trans (Nat.mul_le_mul_left _ (by omega)) hwv;rw [hd,q0n,q5l,List.getElem?_eq_getElem hlt];simp only [cond_true,Option.map_some,Option.bind_some,q0d];have e0:(w:Int)*(i:Int)=((w*i:Nat):Int):=(Int.natCast_mul w i).symm;rw [e0,q0g (n:=((w*i:Nat):Int)) (by omega) (by omega)];have e1:decide (((w*i:Nat):Int)<0)=false:=decide_eq_false (Int.not_lt.2 (Int.natCast_nonneg _));rw [e1];simp only [Bool.not_false,cond_true];have ha:=hg s[i] (List.getElem_mem hlt);have hw5:w<=5:=by
    have:w*1<=w*(i+1):=Nat.mul_le_mul_left _ (by omega)
    omega
   have h32:=pow5 hw5;have h32b:=pow5 hwi;have e2:IntKind.i64.wrap (wi s[i])=(s[i].toNat:Int):=q0g (by unfold wi;omega) (by unfold wi;omega);have hmul:s[i].toNat*2 ^ (w*i)<=32*32:=Nat.mul_le_mul (by omega) h32b;rw [e2,z2v (by omega) (by omega)];have hno:=z8r (w:=w) (s:=s.take i) fun a h=>hg a (List.mem_of_mem_take h)
   have hln:(s.take i).length=i:=by simp;omega
   rw [hln] at hno;rw [v2n (by omega) (by omega),w39 hno,q0g (by omega) (by omega)];have e3:noOf w (s.take i)+2 ^ (w*i)*s[i].toNat=noOf w (s.take (i+1)):=by
    rw [List.take_succ_eq_append_getElem hlt,x2i,hln];simp [noOf]
   rw [e3];exact z7w w v hwv l1 l2 s hs hv hg n (i+1) (by omega) (by omega)
  ·have hd:=k03 (i:=i) (l:=s) hlt;rw [hd,List.take_of_length_le (by omega)];rfl
theorem x87 {k:Nat} (hk:100<=k) (w v:Nat) (hwv:w*v<=5) (l1 l2:List PV) (s:List W) (hs:s.length=v) (hv:v<=4) (hg:∀ a∈s,a.toNat<2 ^ w) :
  c145 k (w:Int) (v:Int) l1 l2 (encW s)=r145 (noOf w s:Int):=by
 obtain ⟨k,rfl⟩:=k01 (k:=k) (by omega);rw [n145,q5y];exact z7w w v hwv l1 l2 s hs hv hg k 0 (by omega) (by omega)
theorem y74 {k:Nat} (w v:Nat) (hw1:1<=w) (hwv:w*v<=5) (l1 l2:List PV) (s:List W) (hs:s.length=v) (hv:v<=4) (hg:∀ a∈s,a.toNat<2 ^ w):∀ (i n:Nat),i<n->i<=s.length ->
  y20 k n (encW s) (noOf w (s.drop i):Int) ((i:Int)-1) (w:Int) (v:Int) l1 l2=r232 (noOf w s:Int)
 | i,0,h,hi=>by omega
 | 0,n+1,h,hi=>by
  rw [x60];rfl
 | i+1,n+1,h,hi=>by
  rw [x60];have e0:((i+1:Nat):Int)-1=(i:Int):=by omega
  rw [e0];have hd:decide ((i:Int)>=0)=true:=by simp
  have hlt:i<s.length:=by omega
  have hw5:w<=5:=by
   have:w*1<=w*v:=Nat.mul_le_mul_left _ (by omega)
   omega
  rw [hd,q48 (n:=(w:Int)) (by omega) (by omega)];have e1:decide ((w:Int)<0)=false:=by simp
  rw [e1,q0n,q5l,List.getElem?_eq_getElem hlt];simp only [Bool.not_false,cond_true,Option.map_some,Option.bind_some,q0d];have ha:=hg s[i] (List.getElem_mem hlt);have hno:=z8r (w:=w) (s:=s.drop (i+1)) fun a h=>hg a (List.mem_of_mem_drop h)
  have hln:(s.drop (i+1)).length=v-(i+1):=by simp;omega
  rw [hln] at hno;have h5:w*(v-(i+1))<=5:=Nat.le_trans (Nat.mul_le_mul_left _ (by omega)) hwv;have h32:=pow5 hw5;have h32b:=pow5 h5;have e2:IntKind.i64.wrap (wi s[i])=(s[i].toNat:Int):=q0g (by unfold wi;omega) (by unfold wi;omega);have hmul:noOf w (s.drop (i+1))*2 ^ w<=32*32:=Nat.mul_le_mul (by omega) h32;rw [e2,z2v (by omega) (by omega),q0g (n:=((noOf w (s.drop (i+1))*2 ^ w:Nat):Int)+(s[i].toNat:Int)) (by omega) (by omega),q0g (n:=(i:Int)-1) (by omega) (by omega)];have e3:((noOf w (s.drop (i+1))*2 ^ w:Nat):Int)+(s[i].toNat:Int)=(noOf w (s.drop i):Int):=by
   rw [q0c hlt];simp only [noOf];rw [Nat.mul_comm];omega
  rw [e3];exact y74 w v hw1 hwv l1 l2 s hs hv hg i n (by omega) (by omega)
theorem w52 {k:Nat} (hk:100<=k) (w v:Nat) (hw1:1<=w) (hwv:w*v<=5) (l1 l2:List PV) (s:List W) (hs:s.length=v) (hv:v<=4) (hg:∀ a∈s,a.toNat<2 ^ w) :
  c232 k (w:Int) (v:Int) l1 l2 (encW s)=r232 (noOf w s:Int):=by
 obtain ⟨k,rfl⟩:=k01 (k:=k) (by omega);rw [n232,q0g (by omega) (by omega)]
 have:=y74 (k:=k) w v hw1 hwv l1 l2 s hs hv hg v k (by omega) (by omega)
 rw [List.drop_eq_nil_of_le (by omega)] at this;exact this
theorem z7x {k:Nat} (hk:10<=k) (w v:Nat) (hw1:1<=w) (hwv:w*v<=5) (hv:v<=4) (l1 l2:List PV) (no:Nat) (hno:no<2 ^ (w*v)):∀ (n i:Nat),v-i<n->i<=v ->
  y9t k n (no:Int) i (v:Int) (i:Int) (w:Int) (v:Int) l1 l2 (encW ((digs w v no).take i))=r70 (encW (digs w v no))
 | 0,i,h,hi=>by omega
 | n+1,i,h,hi=>by
  rw [v3g];have hln:((digs w v no).take i).length=i:=by rw [List.length_take,q38];omega
  have e9:(encW ((digs w v no).take i)).take i=encW ((digs w v no).take i):=by rw [List.take_of_length_le (by rw [q5y,hln];omega)]
  have h32:=pow5 hwv;by_cases hlt:i<v
  ·have hd:decide ((i:Int)<(v:Int))=true:=by simpa using hlt
   have hwi:w*i<=5:=Nat.le_trans (Nat.mul_le_mul_left _ (by omega)) hwv;have hw5:w<=5:=by
    have:w*1<=w*v:=Nat.mul_le_mul_left _ (by omega)
    omega
   have e0:(w:Int)*(i:Int)=((w*i:Nat):Int):=(Int.natCast_mul w i).symm;rw [hd,e0,q0g (n:=((w*i:Nat):Int)) (by omega) (by omega)];have e1:decide (((w*i:Nat):Int)<0)=false:=decide_eq_false (Int.not_lt.2 (Int.natCast_nonneg _));rw [e1,y6a (by omega) (by omega) (by omega)];simp only [Bool.not_false,cond_true,z2f];rw [q0p (by omega) (by omega),q0g (n:=(i:Int)+1) (by omega) (by omega),e9];simp only [cond_true];rw [q4c,z24 _ (by omega),q6q,z01];have e2:(BitVec.ofInt 64 (no:Int) >>> ((w*i:Nat):Int).toNat) &&& q3u (w:Int).toNat=BitVec.ofNat 64 (no / 2 ^ (w*i) % 2 ^ w):=by
    apply BitVec.eq_of_toNat_eq;rw [BitVec.toNat_and,BitVec.toNat_ushiftRight,x4l (by omega),Int.toNat_natCast,Int.toNat_natCast,Nat.shiftRight_eq_div_pow,q4 (by omega),Nat.and_two_pow_sub_one_eq_mod];have h1:no / 2 ^ (w*i) % 2 ^ w<2 ^ w:=Nat.mod_lt _ (Nat.two_pow_pos w)
    have:=pow5 hw5
    rw [BitVec.toNat_ofNat,Nat.mod_eq_of_lt (a:=no / 2 ^ (w*i) % 2 ^ w) (by omega)]
   rw [e2,y7p hlt];exact z7x hk w v hw1 hwv hv l1 l2 no hno n (i+1) (by omega) (by omega)
  ·have hd:decide ((i:Int)<(v:Int))=false:=by simpa using hlt
   rw [hd];simp only [cond_false,e9];rw [List.take_of_length_le (by rw [q38];omega)]
theorem x88 {k:Nat} (hk:100<=k) (w v:Nat) (hw1:1<=w) (hwv:w*v<=5) (hv:v<=4) (l1 l2:List PV) (no:Nat) (hno:no<2 ^ (w*v)) :
  c70 k (w:Int) (v:Int) l1 l2 (no:Int)=r70 (encW (digs w v no)):=by
 obtain ⟨k,rfl⟩:=k01 (k:=k) (by omega);rw [n70];exact z7x (by omega) w v hw1 hwv hv l1 l2 no hno k 0 (by omega) (by omega)
theorem y75 {k:Nat} (w v:Nat) (hw1:1<=w) (hwv:w*v<=5) (hv:v<=4) (l1 l2:List PV) (no:Nat) (hno:no<2 ^ (w*v)):∀ (n i:Nat),v-i<n->i<=v ->
  y2v k n (no:Int) i (i:Int) (w:Int) (v:Int) l1 l2 (encW ((digs w v no).take i))=r195 (encW (digs w v no))
 | 0,i,h,hi=>by omega
 | n+1,i,h,hi=>by
  rw [w75];have hln:((digs w v no).take i).length=i:=by rw [List.length_take,q38];omega
  have e9:(encW ((digs w v no).take i)).take i=encW ((digs w v no).take i):=by rw [List.take_of_length_le (by rw [q5y,hln];omega)]
  have h32:=pow5 hwv;by_cases hlt:i<v
  ·have hd:decide ((i:Int)<(v:Int))=true:=by simpa using hlt
   have hwi:w*i<=5:=Nat.le_trans (Nat.mul_le_mul_left _ (by omega)) hwv;have hw5:w<=5:=by
    have:w*1<=w*v:=Nat.mul_le_mul_left _ (by omega)
    omega
   have e0:(i:Int)*(w:Int)=((w*i:Nat):Int):=by rw [Int.mul_comm];exact (Int.natCast_mul w i).symm
   rw [hd,e0,q0g (n:=((w*i:Nat):Int)) (by omega) (by omega),q48 (n:=((w*i:Nat):Int)) (by omega) (by omega),q48 (n:=(w:Int)) (by omega) (by omega)];have e1:decide (((w*i:Nat):Int)<0)=false:=decide_eq_false (Int.not_lt.2 (Int.natCast_nonneg _));have e1':decide ((w:Int)<0)=false:=by simp
   rw [e1,e1'];simp only [Bool.not_false,cond_true];rw [q0p (by omega) (by omega),q0g (n:=(i:Int)+1) (by omega) (by omega),e9];simp only [cond_true];have hp:=pow5 hw5;have hp1:=Nat.two_pow_pos w;have e2:shlI .i64 1 (w:Int)=((2 ^ w:Nat):Int):=by
    have:=z2v (x:=1) (n:=w) (by omega) (by omega)
    simpa using this
   rw [e2,q0g (n:=((2 ^ w:Nat):Int)-1) (by omega) (by omega),show ((2 ^ w:Nat):Int)-1=((2 ^ w-1:Nat):Int) by omega,w5v (by omega)];have hdv:no / 2 ^ (w*i)<=no:=Nat.div_le_self _ _;rw [w5u (by omega) (by omega),Nat.and_two_pow_sub_one_eq_mod];have h1:no / 2 ^ (w*i) % 2 ^ w<2 ^ w:=Nat.mod_lt _ hp1;have e3:IntKind.u64.wrap ((no / 2 ^ (w*i) % 2 ^ w:Nat):Int)=wi (BitVec.ofNat 64 (no / 2 ^ (w*i) % 2 ^ w)):=by
    rw [q48 (by omega) (by omega)];unfold wi;rw [BitVec.toNat_ofNat,Nat.mod_eq_of_lt (a:=no / 2 ^ (w*i) % 2 ^ w) (by omega)]
   rw [e3,z01,y7p hlt];exact y75 w v hw1 hwv hv l1 l2 no hno n (i+1) (by omega) (by omega)
  ·have hd:decide ((i:Int)<(v:Int))=false:=by simpa using hlt
   rw [hd];simp only [cond_false,e9];rw [List.take_of_length_le (by rw [q38];omega)]
theorem w53 {k:Nat} (hk:100<=k) (w v:Nat) (hw1:1<=w) (hwv:w*v<=5) (hv:v<=4) (l1 l2:List PV) (no:Nat) (hno:no<2 ^ (w*v)) :
  c195 k (w:Int) (v:Int) l1 l2 (no:Int)=r195 (encW (digs w v no)):=by
 obtain ⟨k,rfl⟩:=k01 (k:=k) (by omega);rw [n195];exact y75 w v hw1 hwv hv l1 l2 no hno k 0 (by omega) (by omega)
theorem w2d {k:Nat} (hk:1<=k) (w v:Nat) (hwv:w*v<=5) (l1 l2:List PV):c103 k (w:Int) (v:Int) l1 l2=r103 ((2 ^ (w*v):Nat):Int):=by
 obtain ⟨k,rfl⟩:=k01 (k:=k) (by omega);have e0:(w:Int)*(v:Int)=((w*v:Nat):Int):=(Int.natCast_mul w v).symm;rw [n103,e0,q0g (by omega) (by omega)];have e1:decide (((w*v:Nat):Int)<0)=false:=decide_eq_false (Int.not_lt.2 (Int.natCast_nonneg _));have h32:=pow5 hwv;have e2:=z2v (x:=1) (n:=w*v) (by omega) (by omega);rw [Nat.one_mul] at e2;rw [e1];simp only [Bool.not_false,cond_true];rw [<- e2];rfl
theorem w1d {k:Nat} (hk:1<=k) (w v:Nat) (hwv:w*v<=5) (l1 l2:List PV):c105 k (w:Int) (v:Int) l1 l2=r105 ((2 ^ (w*v):Nat):Int):=by
 obtain ⟨k,rfl⟩:=k01 (k:=k) (by omega);have e0:(w:Int)*(v:Int)=((w*v:Nat):Int):=(Int.natCast_mul w v).symm;rw [n105,e0,q0g (by omega) (by omega),q48 (by omega) (by omega)];have e1:decide (((w*v:Nat):Int)<0)=false:=decide_eq_false (Int.not_lt.2 (Int.natCast_nonneg _));have h32:=pow5 hwv;have e2:=z2v (x:=1) (n:=w*v) (by omega) (by omega);rw [Nat.one_mul] at e2;rw [e1];simp only [Bool.not_false,cond_true];rw [<- e2];rfl
end Go.Proofs.YtgdegfijcijnoaaGreat
namespace Go.Proofs.YtgdegfijcijnoaaGreat
open Go.Dp
def q9a (ls:List (List PV)):List PV:=ls.map (PV.row 2 0)
@[simp] theorem z7r (ls:List (List PV)):(q9a ls).length=ls.length:=by simp [q9a]
theorem y8p (ls:List (List PV)) (i:Nat):(q9a ls)[i]? = (ls[i]?).map (PV.row 2 0):=by simp [q9a]
theorem w5s {k:Nat} (hk:1<=k) {n:Nat} (hn:n<=1000000):c290 k [] (n:Int)=r290 []:=by
 obtain ⟨k,rfl⟩:=k01 (k:=k) (by omega);rw [n290];have h1:decide ((n:Int)<0)=false:=by simp
 have e:IntKind.i64.wrap ((n:Int)-IntKind.i64.wrap (0-(([]:List PV).length:Int)))=(n:Int):=by
  rw [q0g (n:=0-(([]:List PV).length:Int)) (by simp) (by simp),q0g (by simp;try omega) (by simp;try omega)];simp
 rw [h1,e];simp only [cond_false];by_cases h:0<n
 ·have h2:decide ((n:Int)>0)=true:=by simpa using h
  rw [h2];have h4:=q0p (n:=n) (c:=16) (by omega) (by omega);simp only [Bool.and_eq_true] at h4;simp [h4.1,h4.2]
 ·have h2:decide ((n:Int)>0)=false:=by simp;omega
  rw [h2];rfl
theorem z6t {k:Nat} (ls:List (List PV)) (hl:ls.length<=1000) (hb:∀ l∈ls,l.length<=1000):∀ (n i:Nat) (xs:List PV),ls.length-i<n->i<=ls.length->xs.length<=1000*i ->
  y26 k n xs.length (q9a ls) (ls.length:Int) (i:Int) xs=r269 (xs++(ls.drop i).flatten)
 | 0,i,xs,h,hi,hx=>by omega
 | n+1,i,xs,h,hi,hx=>by
  rw [w8z,List.take_length];by_cases hlt:i<ls.length
  ·have hd:=k04 (i:=i) (l:=ls) hlt;have hlb:=hb ls[i] (List.getElem_mem hlt);rw [hd,q0n,y8p,List.getElem?_eq_getElem hlt];simp only [cond_true,Option.map_some,Option.bind_some,q0u];rw [q0p (by omega) (by omega),q0g (by omega) (by omega),<- List.length_append];simp only [cond_true];rw [show (i:Int)+1=((i+1:Nat):Int) by omega,z6t ls hl hb n (i+1) (xs++ls[i]) (by omega) (by omega) (by simp;omega),q0c hlt,List.flatten_cons,List.append_assoc]
  ·have hd:=k03 (i:=i) (l:=ls) hlt;rw [hd,List.drop_eq_nil_of_le (by omega)];simp
theorem z6s {k:Nat} (hk:2000<=k) (ls:List (List PV)) (hl:ls.length<=1000) (hb:∀ l∈ls,l.length<=1000):∀ (n i s:Nat),ls.length-i<n->i<=ls.length->s<=1000*i ->
  y25 k n (q9a ls) (s:Int) (q9a ls) (ls.length:Int) (i:Int)=r269 ls.flatten
 | 0,i,s,h,hi,hx=>by omega
 | n+1,i,s,h,hi,hx=>by
  rw [w8y];by_cases hlt:i<ls.length
  ·have hd:=k04 (i:=i) (l:=ls) hlt;have hlb:=hb ls[i] (List.getElem_mem hlt);rw [hd,q0n,y8p,List.getElem?_eq_getElem hlt];simp only [cond_true,Option.map_some,Option.bind_some,q0u];rw [q0g (by omega) (by omega),q0g (by omega) (by omega)];have hd2:decide ((s:Int)+(ls[i].length:Int)<0)=false:=by simp;omega
   rw [hd2];simp only [cond_false]
   have:=z6s hk ls hl hb n (i+1) (s+ls[i].length) (by omega) (by omega) (by omega)
   simpa using this
  ·have hd:=k03 (i:=i) (l:=ls) hlt;rw [hd,w5s (by omega) (by omega),z7r];simp only [cond_false,v1t]
   have:=z6t (k:=k) ls hl hb k 0 [] (by omega) (by omega) (by simp)
   simpa using this
theorem w0r {k:Nat} (hk:2001<=k) (ls:List (List PV)) (hl:ls.length<=1000) (hb:∀ l∈ls,l.length<=1000):c269 k (q9a ls)=r269 ls.flatten:=by
 obtain ⟨k,rfl⟩:=k01 (k:=k) (by omega);rw [n269,z7r];exact z6s (by omega) ls hl hb k 0 0 (by omega) (by omega) (by omega)
theorem x8i (t:List Nd):(encT t).all q35=true:=by
 simp only [encT,List.all_eq_true,List.mem_map]
 rintro _ ⟨x,_,rfl⟩
 rfl
theorem x93 (t:List Nd) (K0:List PV->R):w4x (r269 (encT t)) K0=K0 (encT t):=by
 have h:([SV.c (.own 104 2 (encT t))].all q0z&&true)=true:=by simp [q0z,q1m,x8i];rfl
 show (bif ([SV.c (.own 104 2 (encT t))].all q0z&&true) then K0 (encT t) else none)=_
 rw [h];rfl
theorem x1s {wide vars:Int} {t:List Nd} (h:q1c wide vars t=true):kst wide vars t []=some [kindT wide vars t] /\ (kindT wide vars t=1∨kindT wide vars t=2):=by
 obtain ⟨hs,c,hk,hc⟩:=q4k.1 h
 have:kindT wide vars t=c:=by simp [kindT,hs,hk,q29]
 rw [this];exact ⟨hk,hc⟩
theorem q4l {wide vars:Int} {t:List Nd} (h:kindT wide vars t>0):q1c wide vars t=true:=by
 rw [<- z7a];simpa using h
def one1 (n:Int):Int:=if n<1 then 1 else n
theorem q92 {k:Nat} (hk:1<=k) (n:Int):c152 k n=r152 (one1 n):=by
 obtain ⟨k,rfl⟩:=k01 (k:=k) (by omega);rw [n152];unfold one1;by_cases h:n<1
 · simp [h]
 · simp [h]
theorem x73 {bs:List Nat} (hc:CodeOK bs) {k:Nat} (hk:150<=k) {wide vars:Int} (hw:wide<=64) (hv:vars<=100) (l1 l2:List PV) {d:Int} (hd0:0<=d) (hd:d<=2) {at':Int} (h0:0<=at') (h1:at'<=500000000) (s:W) :
  ∃ a2 s2 t,c176 k wide vars l1 l2 d (encB bs) at' (wi s)=r176 (encB bs) a2 (wi s2) (encT t) /\ at'<=a2 /\ a2<=at'+1000 /\ t.length<=31:=by
 obtain ⟨k,rfl⟩:=k01 (k:=k) (by omega);rw [n176,q92 (by omega),q92 (by omega)];simp only [x0f];have ho:∀ n:Int,1<=one1 n /\ (n<=64->one1 n<=64) /\ (n<=100->one1 n<=100):=by intro n;unfold one1;split <;> omega
 obtain ⟨a3,s3,t,h,h2,h3,h4,h5⟩:=z0y hc (wide:=one1 wide) (vars:=one1 vars) (by have:=ho wide;omega) ((ho wide).2.1 hw) (ho vars).1 ((ho vars).2.2 hv) hd0 hd (k:=k) (by omega) (at':=at') h0 (by omega) s;rw [h];simp only [q9s];obtain ⟨a4,s4,b,h,h6,h7⟩:=q3r hc (k:=k) (by omega) (at':=a3) (by omega) (by omega) s3 40;rw [h];simp only [q3n,q07];rw [q0g (n:=(t.length:Int)-1) (by omega) (by omega)];have e1:(decide ((0:Int)<=(t.length:Int)-1)&&decide ((t.length:Int)-1<=(t.length:Int)))=true:=by simp;omega
 rw [e1];cases b
 ·simp only [cond_false];have e2:(encT t).take t.length=encT t:=by rw [List.take_of_length_le (by simp)]
  rw [e2];exact ⟨_,_,t,rfl,by omega,by omega,by omega⟩
 ·simp only [cond_true];rw [w0x];exact ⟨_,_,_,rfl,by omega,by omega,by simp;omega⟩
def q2u (p:Prg) (k1:Int):Bool:=decide (0<=k1)&&decide (k1<(p.cmds.length:Int))
def q0q (p:Prg) (k1:Int):Cmd:=(p.cmds[k1.toNat]?).getD ⟨[],[]⟩
theorem q6c {p:Prg} {k1:Int} (h:q2u p k1=true):q0e (q0f p.cmds) k1=some (q4r (q0q p k1)) /\ q0q p k1∈p.cmds:=by
 simp only [q2u,Bool.and_eq_true,decide_eq_true_eq] at h;have hlt:k1.toNat<p.cmds.length:=by omega
 rw [q5p h.1,q2v];unfold q0q;rw [List.getElem?_eq_getElem hlt];exact ⟨rfl,List.getElem_mem hlt⟩
def q3v (n:Nat):List (List Nd):=(List.range n).map fun v=>[((2:Int),BitVec.ofNat 64 v)]
@[simp] theorem z72 (n:Nat):(q3v n).length=n:=by simp [q3v]
theorem y5m (n:Nat):q3v n++[[(2,BitVec.ofNat 64 n)]]=q3v (n+1):=by simp [q3v,List.range_succ]
def q5v (by1:List (List Nd)) (ch:List Chg):List (List Nd):=ch.foldl (fun b x=>b.set x.v.toNat x.by1) by1
def byOf (p:Prg) (c:Cmd):List (List Nd):=q5v (q3v p.vars.toNat) c.ch
theorem y81 (n:Nat):∀ b∈q3v n,b.length<=100:=by
 intro b hb;simp only [q3v,List.mem_map] at hb;obtain ⟨v,_,rfl⟩:=hb;simp
def q4y (p:Prg) (c:Cmd) (t:List Nd):Bool:=q61 p.wide p.vars t (byOf p c)&&q1c p.wide p.vars (putT (byOf p c) t)
def oneT (p:Prg) (c:Cmd) (t:List Nd):List Nd:=bif q4y p c t then putT (byOf p c) t else []
theorem x2o (p:Prg) (c:Cmd) (t:List Nd):(bif q4y p c t then encT (putT (byOf p c) t) else [])=encT (oneT p c t):=by
 unfold oneT;cases q4y p c t <;> rfl
theorem q7s {wide vars:Int}:∀ {l:List Chg} {pv:Int},q3l wide vars pv l=true->∀ x∈l,0<=x.v /\ x.v<vars /\ kindT wide vars x.by1=1
 | [],pv,h=>by simp
 | x::l,pv,h=>by
  simp only [q3l,Bool.and_eq_true,decide_eq_true_eq,beq_iff_eq] at h;intro y hy;rcases List.mem_cons.1 hy with rfl | hy
  ·exact ⟨h.1.1.1.1,h.1.1.1.2,h.1.2⟩
  ·exact q7s h.2 y hy
theorem y82 (v:Nat) (hv:v<=100):PV.agg [.int .i64 2,.int .u64 (IntKind.u64.wrap (v:Int))]=encN (2,BitVec.ofNat 64 v):=by
 rw [q4c]
 have:BitVec.ofInt 64 (v:Int)=BitVec.ofNat 64 v:=by simp
 rw [this];rfl
theorem y8g {k:Nat} (hk:1000300<=k) (p:Prg) (l1 l2:List PV) (t:List Nd) (ht:t.length<=100) (ch:List Chg) (hl:ch.length<=100) (hb:∀ x∈ch,x.by1.length<=100) (hx:∀ x∈ch,0<=x.v /\ x.v<p.vars):∀ (n i:Nat) (by1:List (List Nd)),ch.length-i<n->i<=ch.length->(by1.length:Int)=p.vars->by1.length<=1000->(∀ b∈by1,b.length<=100) ->
  z5y k n (encT t) by1.length (q03 ch) (ch.length:Int) (i:Int) p.wide p.vars l1 l2 (q0i by1)=r220 (bif q61 p.wide p.vars t (q5v by1 (ch.drop i))&&q1c p.wide p.vars (putT (q5v by1 (ch.drop i)) t) then encT (putT (q5v by1 (ch.drop i)) t) else []) (q61 p.wide p.vars t (q5v by1 (ch.drop i))&&q1c p.wide p.vars (putT (q5v by1 (ch.drop i)) t))
 | 0,i,by1,h,hi,hv,hv2,hb1=>by omega
 | n+1,i,by1,h,hi,hv,hv2,hb1=>by
  rw [w8b];by_cases hlt:i<ch.length
  ·have hd:=k04 (i:=i) (l:=ch) hlt;have hm:=List.getElem_mem hlt;have hxi:=hx _ hm;have hbi:=hb _ hm;rw [hd,q0n,q32,List.getElem?_eq_getElem hlt,q0c hlt];simp only [cond_true,Option.map_some,Option.bind_some,q6d,q6e,q69];have hin:(decide ((0:Int)<=ch[i].v)&&decide (ch[i].v<(by1.length:Int)))=true:=by simp;omega
   have hget:(q0i by1)[0+ch[i].v.toNat]? = some (PV.row 2 0 (encT (by1[ch[i].v.toNat]'(by omega)))):=by rw [Nat.zero_add,q1l,List.getElem?_eq_getElem (by omega)];rfl
   rw [hin,hget];simp only [cond_true,Option.bind_some,Nat.zero_add];have hset:(q0i by1).set ch[i].v.toNat (PV.row 2 0 (encT ch[i].by1))=q0i (by1.set ch[i].v.toNat ch[i].by1):=by simp [q0i,List.map_set]
   rw [hset,q0g (by omega) (by omega)]
   have:=y8g hk p l1 l2 t ht ch hl hb hx n (i+1) (by1.set ch[i].v.toNat ch[i].by1) (by omega) (by omega) (by simpa using hv) (by simpa using hv2) (fun b hb'=>by
    rcases List.mem_or_eq_of_mem_set hb' with h | h
    ·exact hb1 b h
    ·subst h;exact hbi)
   rw [List.length_set] at this;exact this
  ·have hd:=k03 (i:=i) (l:=ch) hlt;rw [hd,List.drop_eq_nil_of_le (by omega)];have e1:(q0i by1).take by1.length=q0i by1:=by rw [List.take_of_length_le (by simp)]
   simp only [cond_false,e1];rw [w1w (by omega) p.wide p.vars t ht by1 hv2 hb1];simp only [v1h,q5v,List.foldl_nil]
theorem y8f {k:Nat} (hk:1000300<=k) (p:Prg) (hp:FitP p) (k1:Int) (t:List Nd) (ht:t.length<=100) (hn:q2u p k1=true) (hx:∀ x∈(q0q p k1).ch,0<=x.v /\ x.v<p.vars):∀ (n v:Nat),(p.vars-v).toNat<n->(v:Int)<=p.vars ->
  y2y k n k1 (encT t) v p.vars (v:Int) p.wide p.vars (encT p.start) (q0f p.cmds) (q0i (q3v v))=r220 (encT (oneT p (q0q p k1) t)) (q4y p (q0q p k1) t)
 | 0,v,h,hv=>by omega
 | n+1,v,h,hv=>by
  have hpv:=hp.v;rw [w8a];by_cases hlt:(v:Int)<p.vars
  ·have hd:decide ((v:Int)<p.vars)=true:=by simpa using hlt
   rw [hd,q0p (by omega) (by omega),y82 v (by omega),q0g (by omega) (by omega)];simp only [cond_true];have e1:(q0i (q3v v)).take v=q0i (q3v v):=by rw [List.take_of_length_le (by simp)]
   have e2:PV.row 2 0 [encN (2,BitVec.ofNat 64 v)]=PV.row 2 0 (encT [(2,BitVec.ofNat 64 v)]):=rfl;rw [e1,e2,q6t,y5m];exact y8f hk p hp k1 t ht hn hx n (v+1) (by omega) (by omega)
  ·have hd:decide ((v:Int)<p.vars)=false:=by simpa using hlt
   have hvv:v=p.vars.toNat:=by omega
   obtain ⟨hget,hm⟩:=q6c hn;have hf:=hp.c _ hm;have hfl:=hf.ch;rw [hd,hget];simp only [cond_false,Option.bind_some,q39,q2l]
   have:=y8g (k:=k) hk p (encT p.start) (q0f p.cmds) t ht (q0q p k1).ch (by omega) hf.by1 hx k 0 (q3v v) (by omega) (by omega) (by simp;omega) (by simp;omega) (y81 v)
   rw [List.drop_zero,z72] at this;have h2:z5y k k (encT t) v (q03 (q0q p k1).ch) ((q0q p k1).ch.length:Int) 0 p.wide p.vars (encT p.start) (q0f p.cmds) (q0i (q3v v))=_:=this;rw [h2,<- x2o];unfold q4y byOf;rw [hvv]
theorem x0y {k:Nat} (hk:1000310<=k) (p:Prg) (hp:FitP p) (k1:Int) (t:List Nd) (ht:t.length<=100) (hn:q2u p k1=true) (hx:∀ x∈(q0q p k1).ch,0<=x.v /\ x.v<p.vars) :
  c220 k p.wide p.vars (encT p.start) (q0f p.cmds) k1 (encT t)=r220 (encT (oneT p (q0q p k1) t)) (q4y p (q0q p k1) t):=by
 obtain ⟨k,rfl⟩:=k01 (k:=k) (by omega);have hv:=hp.v;rw [n220];exact y8f (k:=k) (by omega) p hp k1 t ht hn hx k 0 (by omega) (by omega)
theorem y4w {k:Nat} (hk:1000300<=k) (p:Prg) (l1 l2:List PV) (t:List Nd) (ht:t.length<=100) (ch:List Chg) (hl:ch.length<=100) (hb:∀ x∈ch,x.by1.length<=100) (hx:∀ x∈ch,0<=x.v /\ x.v<p.vars):∀ (n i:Nat) (by1:List (List Nd)),ch.length-i<n->i<=ch.length->(by1.length:Int)=p.vars->by1.length<=1000->(∀ b∈by1,b.length<=100) ->
  z54 k n (encT t) by1.length (q03 ch) (ch.length:Int) (i:Int) p.wide p.vars l1 l2 (q0i by1)=r225 (bif q61 p.wide p.vars t (q5v by1 (ch.drop i))&&q1c p.wide p.vars (putT (q5v by1 (ch.drop i)) t) then encT (putT (q5v by1 (ch.drop i)) t) else []) (q61 p.wide p.vars t (q5v by1 (ch.drop i))&&q1c p.wide p.vars (putT (q5v by1 (ch.drop i)) t))
 | 0,i,by1,h,hi,hv,hv2,hb1=>by omega
 | n+1,i,by1,h,hi,hv,hv2,hb1=>by
  rw [w8f];by_cases hlt:i<ch.length
  ·have hd:=k04 (i:=i) (l:=ch) hlt;have hm:=List.getElem_mem hlt;have hxi:=hx _ hm;have hbi:=hb _ hm;rw [hd,q0n,q32,List.getElem?_eq_getElem hlt,q0c hlt];simp only [cond_true,Option.map_some,Option.bind_some,q6d,q6e,q69];have hin:(decide ((0:Int)<=ch[i].v)&&decide (ch[i].v<(by1.length:Int)))=true:=by simp;omega
   have hget:(q0i by1)[0+ch[i].v.toNat]? = some (PV.row 2 0 (encT (by1[ch[i].v.toNat]'(by omega)))):=by rw [Nat.zero_add,q1l,List.getElem?_eq_getElem (by omega)];rfl
   rw [hin,hget];simp only [cond_true,Option.bind_some,Nat.zero_add];have hset:(q0i by1).set ch[i].v.toNat (PV.row 2 0 (encT ch[i].by1))=q0i (by1.set ch[i].v.toNat ch[i].by1):=by simp [q0i,List.map_set]
   rw [hset,q0g (by omega) (by omega)]
   have:=y4w hk p l1 l2 t ht ch hl hb hx n (i+1) (by1.set ch[i].v.toNat ch[i].by1) (by omega) (by omega) (by simpa using hv) (by simpa using hv2) (fun b hb'=>by
    rcases List.mem_or_eq_of_mem_set hb' with h | h
    ·exact hb1 b h
    ·subst h;exact hbi)
   rw [List.length_set] at this;exact this
  ·have hd:=k03 (i:=i) (l:=ch) hlt;rw [hd,List.drop_eq_nil_of_le (by omega)];have e1:(q0i by1).take by1.length=q0i by1:=by rw [List.take_of_length_le (by simp)]
   simp only [cond_false,e1];rw [x80 (by omega) p.wide p.vars t ht by1 hv2 hb1];simp only [v1k,q5v,List.foldl_nil]
theorem y4v {k:Nat} (hk:1000300<=k) (p:Prg) (hp:FitP p) (k1:Int) (t:List Nd) (ht:t.length<=100) (hn:q2u p k1=true) (hx:∀ x∈(q0q p k1).ch,0<=x.v /\ x.v<p.vars):∀ (n v:Nat),(p.vars-v).toNat<n->(v:Int)<=p.vars ->
  y2z k n k1 (encT t) v (v:Int) p.wide p.vars (encT p.start) (q0f p.cmds) (q0i (q3v v))=r225 (encT (oneT p (q0q p k1) t)) (q4y p (q0q p k1) t)
 | 0,v,h,hv=>by omega
 | n+1,v,h,hv=>by
  have hpv:=hp.v;rw [w8e];by_cases hlt:(v:Int)<p.vars
  ·have hd:decide ((v:Int)<p.vars)=true:=by simpa using hlt
   rw [hd,q0p (by omega) (by omega),y82 v (by omega),q0g (by omega) (by omega)];simp only [cond_true];have e1:(q0i (q3v v)).take v=q0i (q3v v):=by rw [List.take_of_length_le (by simp)]
   have e2:PV.row 2 0 [encN (2,BitVec.ofNat 64 v)]=PV.row 2 0 (encT [(2,BitVec.ofNat 64 v)]):=rfl;rw [e1,e2,q6t,y5m];exact y4v hk p hp k1 t ht hn hx n (v+1) (by omega) (by omega)
  ·have hd:decide ((v:Int)<p.vars)=false:=by simpa using hlt
   have hvv:v=p.vars.toNat:=by omega
   obtain ⟨hget,hm⟩:=q6c hn;have hf:=hp.c _ hm;have hfl:=hf.ch;rw [hd,hget];simp only [cond_false,Option.bind_some,q39,q2l]
   have:=y4w (k:=k) hk p (encT p.start) (q0f p.cmds) t ht (q0q p k1).ch (by omega) hf.by1 hx k 0 (q3v v) (by omega) (by omega) (by simp;omega) (by simp;omega) (y81 v)
   rw [List.drop_zero,z72] at this;have h2:z54 k k (encT t) v (q03 (q0q p k1).ch) ((q0q p k1).ch.length:Int) 0 p.wide p.vars (encT p.start) (q0f p.cmds) (q0i (q3v v))=_:=this;rw [h2,<- x2o];unfold q4y byOf;rw [hvv]
theorem w1b {k:Nat} (hk:1000310<=k) (p:Prg) (hp:FitP p) (k1:Int) (t:List Nd) (ht:t.length<=100) (hn:q2u p k1=true) (hx:∀ x∈(q0q p k1).ch,0<=x.v /\ x.v<p.vars) :
  c225 k p.wide p.vars (encT p.start) (q0f p.cmds) k1 (encT t)=r225 (encT (oneT p (q0q p k1) t)) (q4y p (q0q p k1) t):=by
 obtain ⟨k,rfl⟩:=k01 (k:=k) (by omega);have hv:=hp.v;rw [n225];exact y4v (k:=k) (by omega) p hp k1 t ht hn hx k 0 (by omega) (by omega)
def valD (wide:Int) (s:List W) (t:List Nd):W:=match vrun wide s t [] with | some [v]=>v | _=>0#64
theorem w9d {wide:Int} {s:List W} {t:List Nd} {v:W} (h:vrun wide s t []=some [v]):valD wide s t=v:=by unfold valD;rw [h]
def q06 (wide:Int) (s:List W) (ch:List Chg) (o:List W):List W:=ch.foldl (fun o x=>o.set x.v.toNat (valD wide s x.by1)) o
theorem q58 {wide vars c:Int} {t:List Nd} (h:kindT wide vars t=c) (hc:c>0) {s:List W} (hs:(s.length:Int)=vars) (hg:∀ a∈s,a<=mk wide):vrun wide s t []=some [valD wide s t] /\ okV wide c (valD wide s t):=by
 obtain ⟨v,h1,h2⟩:=x8m (q4l (by omega:kindT wide vars t>0)) hs hg;rw [w9d h1,<- h];exact ⟨h1,h2⟩
theorem y3k {k:Nat} (hk:1000000<=k) (p:Prg) (hw:isW p.wide=true) (l1 l2:List PV) (s:List W) (hs:(s.length:Int)=p.vars) (hg:∀ a∈s,a<=mk p.wide) (ch:List Chg) (hl:ch.length<=100) (hx:∀ x∈ch,0<=x.v /\ x.v<p.vars /\ kindT p.wide p.vars x.by1=1 /\ x.by1.length<=100):∀ (n i:Nat) (o:List W),ch.length-i<n->i<=ch.length->o.length=s.length ->
  y2k k n (encW s) o.length (q03 ch) (ch.length:Int) (i:Int) p.wide p.vars l1 l2 (encW o)=r146 (encW (q06 p.wide s (ch.drop i) o))
 | 0,i,o,h,hi,ho=>by omega
 | n+1,i,o,h,hi,ho=>by
  rw [w7b];by_cases hlt:i<ch.length
  ·have hd:=k04 (i:=i) (l:=ch) hlt;have hxi:=hx _ (List.getElem_mem hlt);obtain ⟨hv,_⟩:=q58 hxi.2.2.1 (by omega) hs hg;rw [hd,q0n,q32,List.getElem?_eq_getElem hlt,q0c hlt];simp only [cond_true,Option.map_some,Option.bind_some,q6d,q6e,q69];rw [q9d (by omega) hw s _ (by omega) hv];simp only [y3d];have hin:(decide ((0:Int)<=ch[i].v)&&decide (ch[i].v<(o.length:Int)))=true:=by simp;omega
   have hget:(encW o)[0+ch[i].v.toNat]? = some (PV.int .u64 (wi (o[ch[i].v.toNat]'(by omega)))):=by rw [Nat.zero_add,q5l,List.getElem?_eq_getElem (by omega)];rfl
   rw [hin,hget];simp only [cond_true,Option.bind_some,Nat.zero_add];have hset:(encW o).set ch[i].v.toNat (PV.int .u64 (wi (valD p.wide s ch[i].by1)))=encW (o.set ch[i].v.toNat (valD p.wide s ch[i].by1)):=by simp [encW,List.map_set]
   rw [hset,q0g (by omega) (by omega)]
   have:=y3k hk p hw l1 l2 s hs hg ch hl hx n (i+1) (o.set ch[i].v.toNat (valD p.wide s ch[i].by1)) (by omega) (by omega) (by simpa using ho)
   rw [List.length_set] at this;exact this
  ·have hd:=k03 (i:=i) (l:=ch) hlt;rw [hd,List.drop_eq_nil_of_le (by omega)];have e1:(encW o).take o.length=encW o:=by rw [List.take_of_length_le (by simp)]
   simp only [cond_false,e1];rfl
theorem w2l {k:Nat} (hk:1000010<=k) (p:Prg) (hw:isW p.wide=true) (l1 l2 l3:List PV) (s:List W) (hsl:s.length<=1000) (hs:(s.length:Int)=p.vars) (hg:∀ a∈s,a<=mk p.wide) (ch:List Chg) (hl:ch.length<=100) (hx:∀ x∈ch,0<=x.v /\ x.v<p.vars /\ kindT p.wide p.vars x.by1=1 /\ x.by1.length<=100) :
  c146 k p.wide p.vars l1 l2 l3 (q03 ch) (encW s)=r146 (encW (q06 p.wide s ch s)):=by
 obtain ⟨k,rfl⟩:∃ j,k=j+2:=⟨k-2,by omega⟩;have hcl:c210 (k+1) (encW s)=r210 (encW s):=n210 k _ (by simp [LIM];omega) (by simp [LIM];omega);rw [n146,hcl];simp only [v0n,q5y,q2l];exact y3k (k:=k+1) (by omega) p hw l1 l2 s hs hg ch hl hx (k+1) 0 s (by omega) (by omega) rfl
def x8o (p:Prg) (c:Cmd) (s:List W):Bool:=valD p.wide s c.wh==1#64
theorem x6l {wide:Int} {v:W} (h:okV wide 2 v):v<=1#64:=by rcases h with h | h;exact absurd h.1 (by omega);exact h.2
end Go.Proofs.YtgdegfijcijnoaaGreat
namespace Go.Dp
theorem y4m:∀ {a b:List Int},a.Pairwise (·<·)->b.Pairwise (·<·)->(∀ x,x∈a↔x∈b)->a=b
 | [],[],_,_,_=>rfl
 | [],y::b,_,_,h=>by have:=(h y).2 (by simp);simp at this
 | x::a,[],_,_,h=>by have:=(h x).1 (by simp);simp at this
 | x::a,y::b,ha,hb,h=>by
  rw [List.pairwise_cons] at ha hb;have exy:x=y:=by
   have h1:=(h x).1 (by simp);have h2:=(h y).2 (by simp);rcases List.mem_cons.1 h1 with h1 | h1
   ·exact h1
   ·rcases List.mem_cons.1 h2 with h2 | h2
    ·exact h2.symm
    ·have:=ha.1 y h2
     have:=hb.1 x h1
     omega
  subst exy;rw [y4m ha.2 hb.2 fun z=>?_];constructor
  ·intro hz;rcases List.mem_cons.1 ((h z).1 (List.mem_cons_of_mem _ hz)) with h1 | h1
   ·have:=ha.1 z hz;omega
   ·exact h1
  ·intro hz;rcases List.mem_cons.1 ((h z).2 (List.mem_cons_of_mem _ hz)) with h1 | h1
   ·have:=hb.1 z hz;omega
   ·exact h1
theorem x5y (z:List Int) (hs:∀ i j,i<=j->j<z.length->z.toArray[i]!<=z.toArray[j]!):∀ m,m<=z.length->(Lib.compactUpTo z.toArray m).Pairwise (·<·) /\ ∀ x,x∈Lib.compactUpTo z.toArray m↔∃ j,j<m /\ z.toArray[j]! = x
 | 0,_=>by simp [Lib.compactUpTo]
 | m+1,h=>by
  obtain ⟨h1,h2⟩:=x5y z hs m (by omega);rw [Lib.compactUpTo_succ];by_cases hk:Lib.keeps z.toArray m=true
  ·rw [if_pos hk];refine ⟨List.pairwise_append.2 ⟨h1,by simp,fun a ha b hb=>?_⟩,fun x=>?_⟩
   ·rw [List.mem_singleton] at hb;subst hb;obtain ⟨j,hj,rfl⟩:=(h2 a).1 ha;have l1:=hs j (m-1) (by omega) (by omega);have l2:=hs (m-1) m (by omega) (by omega);have hne:z.toArray[m]!≠z.toArray[m-1]!:=by
     unfold Lib.keeps at hk;rw [decide_eq_true_eq] at hk;rcases hk with hk | hk
     ·omega
     ·exact hk
    omega
   ·rw [List.mem_append,h2,List.mem_singleton];constructor
    ·rintro (⟨j,hj,hx⟩ | hx)
     ·exact ⟨j,by omega,hx⟩
     ·exact ⟨m,by omega,hx.symm⟩
    ·rintro ⟨j,hj,hx⟩
     by_cases e:j=m
     ·subst e;exact .inr hx.symm
     ·exact .inl ⟨j,by omega,hx⟩
  ·rw [if_neg hk,List.append_nil];refine ⟨h1,fun x=>?_⟩;have hm:m≠0 /\ z.toArray[m]! = z.toArray[m-1]!:=by
    unfold Lib.keeps at hk;rw [decide_eq_true_eq] at hk;exact ⟨fun e=>hk (.inl e),Decidable.byContradiction fun e=>hk (.inr e)⟩
   rw [h2];constructor
   ·rintro ⟨j,hj,hx⟩;exact ⟨j,by omega,hx⟩
   ·rintro ⟨j,hj,hx⟩
    by_cases e:j=m
    ·subst e;exact ⟨j-1,by omega,by rw [<- hm.2];exact hx⟩
    ·exact ⟨j,by omega,hx⟩
def canI (l:List Int):List Int:=q3t (q2j l)
theorem w3h {z:List Int} {x:Int}:(∃ j,j<z.length /\ z.toArray[j]! = x)↔x∈z:=by
 constructor
 ·rintro ⟨j,hj,rfl⟩
  rw [getElem!_pos z.toArray j (by simpa using hj)];simp
 ·intro h;obtain ⟨j,hj,rfl⟩:=List.getElem_of_mem h;exact ⟨j,hj,by rw [getElem!_pos z.toArray j (by simpa using hj)];simp⟩
theorem z0z (l:List Int):(canI l).Pairwise (·<·) /\ ∀ x,x∈canI l↔x∈l:=by
 have hp:(q2j l).Pairwise fun a b=>decide (a<=b)=true:=List.pairwise_mergeSort (fun a b c h1 h2=>by simp at h1 h2 ⊢;omega) (fun a b=>by simp;omega) l
 have hs:∀ i j,i<=j->j<(q2j l).length->(q2j l).toArray[i]!<=(q2j l).toArray[j]!:=by
  intro i j hij hj;rw [getElem!_pos (q2j l).toArray i (by simp;omega),getElem!_pos (q2j l).toArray j (by simpa using hj)];by_cases e:i=j
  ·subst e;omega
  ·have:=List.pairwise_iff_getElem.1 hp i j (by omega) hj (by omega)
   simpa using this
 obtain ⟨h1,h2⟩:=x5y (q2j l) hs (q2j l).length (Nat.le_refl _);refine ⟨h1,fun x=>(h2 x).trans (w3h.trans ?_)⟩;unfold q2j;exact List.mem_mergeSort
theorem x07 (l:List Int):(canI l).length<=l.length:=by
 have:=z3i (q2j l)
 unfold canI
 have:(q2j l).length=l.length:=by simp [q2j]
 omega
def putI:List Int->Int->List Int
 | [],n=>[n]
 | x::l,n=>if x<n then x::putI l n else if x=n then x::l else n::x::l
theorem z7n (x:Int) (l:List Int) (n:Int):putI (x::l) n=if x<n then x::putI l n else if x=n then x::l else n::x::l:=rfl
theorem y1u:∀ (l:List Int) (n x:Int),x∈putI l n↔x=n∨x∈l
 | [],n,x=>by simp [putI]
 | y::l,n,x=>by
  unfold putI;split
  ·simp only [List.mem_cons,y1u l n x];constructor
   ·rintro (h | h | h) <;> simp [h]
   ·rintro (h | h | h) <;> simp [h]
  ·split
   ·rename_i h;subst h;simp
   ·simp
theorem x6o:∀ (l:List Int) (n:Int),l.Pairwise (·<·)->(putI l n).Pairwise (·<·)
 | [],n,h=>by simp [putI]
 | y::l,n,h=>by
  rw [List.pairwise_cons] at h;unfold putI;split
  ·rename_i h1;rw [List.pairwise_cons];refine ⟨fun x hx=>?_,x6o l n h.2⟩;rcases (y1u l n x).1 hx with hx | hx
   ·omega
   ·exact h.1 x hx
  ·split
   ·exact List.pairwise_cons.2 h
   ·rw [List.pairwise_cons];refine ⟨fun x hx=>?_,List.pairwise_cons.2 h⟩;rcases List.mem_cons.1 hx with hx | hx
    ·omega
    ·have:=h.1 x hx;omega
theorem q7f:∀ (l:List Int) (n:Int),(putI l n).length<=l.length+1
 | [],n=>by simp [putI]
 | y::l,n=>by
  have:=q7f l n
  unfold putI;split
  ·simp;omega
  ·split <;> simp
def q1h (l m:List Int):List Int:=m.foldl putI l
theorem q18:∀ (m l:List Int),l.Pairwise (·<·)->(q1h l m).Pairwise (·<·) /\ ∀ x,x∈q1h l m↔x∈l∨x∈m
 | [],l,h=>⟨h,fun x=>by simp [q1h]⟩
 | n::m,l,h=>by
  obtain ⟨h1,h2⟩:=q18 m (putI l n) (x6o l n h);refine ⟨h1,fun x=>(h2 x).trans ?_⟩;rw [y1u,List.mem_cons];constructor
  ·rintro ((h | h) | h) <;> simp [h]
  ·rintro (h | h | h) <;> simp [h]
theorem y0a:∀ (m l:List Int),(q1h l m).length<=l.length+m.length
 | [],l=>by simp [q1h]
 | n::m,l=>by
  have h1:=y0a m (putI l n);have h2:=q7f l n;simp only [q1h,List.foldl_cons,List.length_cons] at h1 ⊢;omega
theorem x4v (l m m2:List Int):q1h l (m++m2)=q1h (q1h l m) m2:=by simp [q1h]
theorem w2q {l m:List Int} (h:∀ x,x∈l↔x∈m):canI l=q1h [] m:=by
 obtain ⟨h1,h2⟩:=z0z l;obtain ⟨h3,h4⟩:=q18 m [] List.Pairwise.nil;exact y4m h1 h3 fun x=>by rw [h2,h4];simp [h]
end Go.Dp
namespace Go.Proofs.YtgdegfijcijnoaaGreat
open Go.Dp
theorem q0l {l:List Int} {i:Nat} (h:i<l.length):q0e (encZ l) (i:Int)=some (.int .i64 l[i]):=by rw [q0n,q1r,List.getElem?_eq_getElem h];rfl
theorem z3y:∀ l:List Int,intsOf (encZ l)=some l
 | []=>rfl
 | x::l=>by
  have:=z3y l
  simp only [encZ,List.map_cons] at this ⊢;simp only [intsOf,this];rfl
theorem w19 (o:List Int):((((q2j o).map (PV.int .i64))++((encZ o).drop o.length)).take o.length)=encZ (q2j o):=by
 have hl:(q2j o).length=o.length:=by simp [q2j]
 have:(encZ o).drop o.length=[]:=List.drop_eq_nil_of_le (by simp)
 rw [this,List.append_nil,List.take_of_length_le (by simp [hl])];rfl
theorem w0q (z:List Int) (r tl:List PV):(((((q3t z).map (PV.int .i64))++r)++tl).take ((q3t z).length))=encZ (q3t z):=by
 rw [List.append_assoc,List.take_append_of_le_length (by simp),List.take_of_length_le (by simp)];rfl
def z1a:List Nd->List Int
 | []=>[]
 | x::t=>(if x.1=2 then [IntKind.i64.wrap (wi x.2)] else [])++z1a t
theorem y8k {k:Nat} (l:List Int) (hl:l.length<=1000) (m:Int):∀ (n i:Nat),l.length-i<n->i<=l.length ->
   y2u k n l.length m (i:Int) (encZ l)=r192 (encZ (l.take i++putI (l.drop i) m))
 | 0,i,h,hi=>by omega
 | n+1,i,h,hi=>by
   have key:(l.drop i=[]∨∃ x r,l.drop i=x::r /\ ¬ x<m /\ x≠m)->(bif decide ((0:Int)<=(i:Int))&&decide ((i:Int)<=(l.length:Int)) then
     bif decide ((0+(((encZ l).take (i:Int).toNat).length))*8<=LIM)&&decide (0+(((encZ l).take (i:Int).toNat).length)<=LIM) then
      bif decide (((0+(((encZ l).take (i:Int).toNat).length))+1)*8<=LIM)&&decide ((0+(((encZ l).take (i:Int).toNat).length))+1<=LIM) then
       bif decide ((0:Int)<=(i:Int))&&decide ((i:Int)<=(l.length:Int))&&decide ((l.length:Int)<=(l.length:Int)) then
        bif decide ((((0+(((encZ l).take (i:Int).toNat).length))+1)+((((encZ l).drop (0+(i:Int).toNat)).take (l.length-(i:Int).toNat)).length))*8<=LIM)&&decide (((0+(((encZ l).take (i:Int).toNat).length))+1)+((((encZ l).drop (0+(i:Int).toNat)).take (l.length-(i:Int).toNat)).length)<=LIM) then
         r192 (((((([]++((encZ l).take (i:Int).toNat)).take (0+(((encZ l).take (i:Int).toNat).length)))++[PV.int .i64 m]).take ((0+(((encZ l).take (i:Int).toNat).length))+1))++(((encZ l).drop (0+(i:Int).toNat)).take (l.length-(i:Int).toNat))).take (((0+(((encZ l).take (i:Int).toNat).length))+1)+((((encZ l).drop (0+(i:Int).toNat)).take (l.length-(i:Int).toNat)).length)))
        else none
       else none
      else none
     else none
    else none)=r192 (encZ (l.take i++putI (l.drop i) m)):=by
     intro hc;have e1:(decide ((0:Int)<=(i:Int))&&decide ((i:Int)<=(l.length:Int)))=true:=by simp;omega
     have e2:(encZ l).take (i:Int).toNat=encZ (l.take i):=by rw [Int.toNat_natCast,q3h]
     have e3:((encZ l).drop (0+(i:Int).toNat)).take (l.length-(i:Int).toNat)=encZ (l.drop i):=by rw [Nat.zero_add,Int.toNat_natCast,z02,List.take_of_length_le (by simp)]
     have e4:(encZ (l.take i)).length=i:=by simp;omega
     have e5:(encZ (l.drop i)).length=l.length-i:=by simp
     rw [e2,e3,e4,e5,e1,q0p (by omega) (by omega),q0p (by omega) (by omega),q0p (by omega) (by omega)];have e6:decide ((l.length:Int)<=(l.length:Int))=true:=by simp
     rw [e6];simp only [cond_true,Bool.and_self,List.nil_append,Nat.zero_add];rw [List.take_of_length_le (l:=encZ (l.take i)) (by simp;omega),q00,List.take_of_length_le (l:=encZ (l.take i++[m])) (by (simp;try omega))];have e7:putI (l.drop i) m=m::l.drop i:=by
       rcases hc with hc | ⟨x,r,hc,h1,h2⟩
       · rw [hc];rfl
       · rw [hc,z7n,if_neg h1,if_neg h2]
     have e8:encZ (l.take i++[m])++encZ (l.drop i)=encZ (l.take i++putI (l.drop i) m):=by rw [e7];simp [encZ]
     rw [e8,List.take_of_length_le];rw [e7];simp;omega
   rw [w73];by_cases hlt:i<l.length
   · have hd:=k04 (i:=i) (l:=l) hlt;have h0:decide ((0:Int)<=(i:Int))=true:=by simp
     have hget:(encZ l)[0+(i:Int).toNat]? = some (.int .i64 l[i]):=by rw [Nat.zero_add,Int.toNat_natCast,q1r,List.getElem?_eq_getElem hlt];rfl
     rw [hd,h0,hget];simp only [Bool.and_self,cond_true,Option.bind_some,q0d];by_cases h1:l[i]<m
     · have h1':decide (l[i]<m)=true:=by simpa using h1
       rw [h1'];simp only [cond_true];rw [q0g (by omega) (by omega),show (i:Int)+1=((i+1:Nat):Int) by omega,y8k l hl m n (i+1) (by omega) (by omega)];rw [q0c hlt,List.take_succ_eq_append_getElem hlt];rw [z7n,if_pos h1,List.append_assoc];rfl
     · have h1':decide (l[i]<m)=false:=by simpa using h1
       rw [h1'];simp only [cond_false];by_cases h2:l[i]=m
       · have h2':(l[i]==m)=true:=by simpa using h2
         rw [h2'];simp only [cond_true];rw [List.take_of_length_le (by simp)]
         congr 2
         rw [q0c hlt];rw [z7n,if_neg h1,if_pos h2,<- q0c hlt,List.take_append_drop]
       · have h2':(l[i]==m)=false:=by simpa using h2
         rw [h2'];simp only [cond_false]
         have:=key (.inr ⟨_,_,q0c hlt,h1,h2⟩)
         rw [h0] at this;exact this
   · have hd:=k03 (i:=i) (l:=l) hlt;rw [hd];simp only [cond_false];exact key (.inl (List.drop_eq_nil_of_le (by omega)))
theorem z33 {k:Nat} (hk:2000<=k) (l:List Int) (hl:l.length<=1000) (m:Int):c192 k (encZ l) m=r192 (encZ (putI l m)):=by
 obtain ⟨k,rfl⟩:=k01 (k:=k) (by omega);rw [n192]
 have:=y8k (k:=k) l hl m k 0 (by omega) (by omega)
 simpa using this
end Go.Proofs.YtgdegfijcijnoaaGreat
namespace Go.Proofs.YtgdegfijcijnoaaGreat
open Go.Dp
def z23:List Chg->List Int
 | []=>[]
 | x::l=>z1a x.by1++z23 l
def q9k (c:Cmd):List Int:=q1h [] (z1a c.wh++z23 c.ch)
def z0w (c:Cmd):List Int:=c.ch.map Chg.v
def q15 (a b:List Int):Bool:=a.any fun x=>b.contains x
theorem y4c {k:Nat} (l:List Int) (hl:l.length<=100000) (v:Int):∀ (n i:Nat),l.length-i<n->i<=l.length->∃ u,z5h k n (encZ l) v (l.length:Int) (i:Int)=r144 u /\ decide (u>=0)=(l.drop i).contains v
 | 0,i,h,hi=>by omega
 | n+1,i,h,hi=>by
  rw [w7];by_cases hlt:i<l.length
  ·have hd:=k04 (i:=i) (l:=l) hlt;rw [hd,q0l hlt,q0c hlt];simp only [cond_true,Option.bind_some,q0d,List.contains_cons];cases he:(v==l[i])
   ·simp only [cond_false,Bool.false_or];rw [q0g (by omega) (by omega)];exact y4c l hl v n (i+1) (by omega) (by omega)
   ·exact ⟨_,rfl,by simp⟩
  ·have hd:=k03 (i:=i) (l:=l) hlt;rw [hd,List.drop_eq_nil_of_le (by omega)];exact ⟨_,rfl,by simp⟩
theorem q9z {k:Nat} (hk:100010<=k) (l:List Int) (hl:l.length<=100000) (v:Int):c67 k (encZ l) v=r67 (l.contains v):=by
 obtain ⟨k,rfl⟩:∃ j,k=j+2:=⟨k-2,by omega⟩;rw [n67,n144,q0b];obtain ⟨u,h,h2⟩:=y4c (k:=k) l hl v k 0 (by omega) (by omega);have h':z5h k k (encZ l) v (l.length:Int) 0=r144 u:=h;rw [h'];simp only [w9s,h2,List.drop_zero]
theorem x1u {k:Nat} (l:List Int) (hl:l.length<=100000) (v:Int):∀ (n i:Nat),l.length-i<n->i<=l.length->y2o k n v (encZ l) (l.length:Int) (i:Int)=r163 ((l.drop i).contains v)
 | 0,i,h,hi=>by omega
 | n+1,i,h,hi=>by
  rw [w7l];by_cases hlt:i<l.length
  ·have hd:=k04 (i:=i) (l:=l) hlt;rw [hd,q0l hlt,q0c hlt];simp only [cond_true,Option.bind_some,q0d,List.contains_cons];rw [show (v==l[i])=(l[i]==v) from BEq.comm];cases he:(l[i]==v)
   ·simp only [cond_false,Bool.false_or];rw [q0g (by omega) (by omega)];exact x1u l hl v n (i+1) (by omega) (by omega)
   ·simp
  ·have hd:=k03 (i:=i) (l:=l) hlt;rw [hd,List.drop_eq_nil_of_le (by omega)];simp
theorem z63 {k:Nat} (hk:100010<=k) (l:List Int) (hl:l.length<=100000) (v:Int):c163 k (encZ l) v=r163 (l.contains v):=by
 obtain ⟨k,rfl⟩:=k01 (k:=k) (by omega);rw [n163,q0b]
 have:=x1u (k:=k) l hl v k 0 (by omega) (by omega)
 simpa using this
theorem y4o {k:Nat} (hk:100020<=k) (a b:List Int) (ha:a.length<=100000) (hb:b.length<=100000):∀ (n i:Nat),a.length-i<n->i<=a.length->y2d k n (encZ b) (encZ a) (a.length:Int) (i:Int)=r127 (q15 (a.drop i) b)
 | 0,i,h,hi=>by omega
 | n+1,i,h,hi=>by
  rw [w65];by_cases hlt:i<a.length
  ·have hd:=k04 (i:=i) (l:=a) hlt;rw [hd,q0l hlt,q0c hlt];simp only [cond_true,Option.bind_some,q0d,q15,List.any_cons];rw [z63 (by omega) b hb];simp only [z6i];cases b.contains a[i]
   ·simp only [cond_false,Bool.false_or];rw [q0g (by omega) (by omega)];exact y4o hk a b ha hb n (i+1) (by omega) (by omega)
   ·rfl
  ·have hd:=k03 (i:=i) (l:=a) hlt;rw [hd,List.drop_eq_nil_of_le (by omega)];simp [q15]
theorem y1o {k:Nat} (hk:100100<=k) (a b:List Int) (ha:a.length<=100000) (hb:b.length<=100000):c127 k (encZ a) (encZ b)=r127 (q15 a b):=by
 obtain ⟨k,rfl⟩:=k01 (k:=k) (by omega);rw [n127,q0b]
 have:=y4o (k:=k) (by omega) a b ha hb k 0 (by omega) (by omega)
 simpa using this
def tOK (p:Prg) (k1:Int):Bool:=q11 p&&q2u p k1
def apart (p:Prg) (k1 m1:Int):Bool:=!q15 (z0w (q0q p k1)) (q9k (q0q p m1))&&(!q15 (z0w (q0q p k1)) (z0w (q0q p m1))&&!q15 (z0w (q0q p m1)) (q9k (q0q p k1)))
theorem q56 {p:Prg} (hp:FitP p) {k1:Int} (h:tOK p k1=true):isW p.wide=true /\ isV p.vars=true /\ q11 p=true /\ q2u p k1=true /\ FitC 6 (q0q p k1) /\ kindT p.wide p.vars (q0q p k1).wh=2 /\ ∀ x∈(q0q p k1).ch,0<=x.v /\ x.v<p.vars /\ kindT p.wide p.vars x.by1=1:=by
 simp only [tOK,Bool.and_eq_true] at h;obtain ⟨hg,hn⟩:=h;obtain ⟨h1,h2⟩:=q4u hg;have hm:=(q6c hn).2;have hg':=hg;simp only [q11,Bool.and_eq_true,List.all_eq_true] at hg;have hc:=hg.2 _ hm;simp only [q3x,Bool.and_eq_true,beq_iff_eq] at hc;exact ⟨h1,h2,hg',hn,hp.c _ hm,hc.1,q7s hc.2⟩
theorem q5a {p:Prg} (hw:isW p.wide=true) {s:List W}:stOK p s=true↔(s.length:Int)=p.vars /\ ∀ a∈s,a<=mk p.wide:=by
 simp only [stOK,Bool.and_eq_true,decide_eq_true_eq,List.all_eq_true];constructor
 · rintro ⟨h1,h2⟩;exact ⟨h1,fun a ha=>(q8b.1 (h2 a ha)).2⟩
 · rintro ⟨h1,h2⟩;exact ⟨h1,fun a ha=>q8b.2 ⟨hw,h2 a ha⟩⟩
def q3a (p:Prg) (k1:Int) (s:List W):Bool:=stOK p s&&x8o p (q0q p k1) s
def stepT (p:Prg) (k1:Int) (s:List W):List W:=bif q3a p k1 s then q06 p.wide s (q0q p k1).ch s else []
theorem y5p {wide:Int} {s s':List W}:∀ (t:List Nd) (vs:List W),(∀ x∈t,x.1=2->s[x.2.toNat]? = s'[x.2.toNat]?)->vrun wide s t vs=vrun wide s' t vs
 | [],vs,h=>rfl
 | x::t,vs,h=>by
  have ih:=fun vs=>y5p (wide:=wide) t vs fun y hy=>h y (by simp [hy])
  simp only [vrun];split
  ·exact ih _
  ·split
   ·rename_i h2;rw [h x (by simp) h2];cases s'[x.2.toNat]? with
    | none=>rfl
    | some a=>exact ih _
   ·split
    ·cases vs with
     | nil=>rfl
     | cons a r=>exact ih _
    ·split
     ·cases vs with
      | nil=>rfl
      | cons a r=>exact ih _
     ·rcases vs with _ | ⟨b,_ | ⟨a,r⟩⟩
      ·rfl
      ·rfl
      ·exact ih _
theorem y84:∀ (t:List Nd) (x:Nd),x∈t->x.1=2->IntKind.i64.wrap (wi x.2)∈z1a t
 | [],x,h,h2=>by simp at h
 | y::t,x,h,h2=>by
  simp only [z1a,List.mem_append];rcases List.mem_cons.1 h with rfl | h
  ·left;rw [if_pos h2];simp
  ·exact .inr (y84 t x h h2)
theorem z1t:∀ (l:List Chg) (x:Chg) (v:Int),x∈l->v∈z1a x.by1->v∈z23 l
 | [],x,v,h,hv=>by simp at h
 | y::l,x,v,h,hv=>by
  simp only [z23,List.mem_append];rcases List.mem_cons.1 h with rfl | h
  ·exact .inl hv
  ·exact .inr (z1t l x v h hv)
theorem q7z (c:Cmd) (v:Int):v∈q9k c↔v∈z1a c.wh∨v∈z23 c.ch:=by
 rw [q9k,(q18 _ [] List.Pairwise.nil).2];simp [List.mem_append]
theorem z9z {a b:List Int} (h:q15 a b=false):∀ x∈a,x∉b:=by
 intro x hx hb
 have:q15 a b=true:=by
  simp only [q15,List.any_eq_true];exact ⟨x,hx,by simpa using hb⟩
 rw [h] at this;cases this
theorem q8e (wide:Int) (s:List W):∀ (ch:List Chg) (o:List W),(q06 wide s ch o).length=o.length
 | [],o=>rfl
 | x::l,o=>by
  have:=q8e wide s l (o.set x.v.toNat (valD wide s x.by1))
  simpa [q06] using this
theorem y3i (wide:Int) (s:List W) (i:Nat):∀ (ch:List Chg) (o:List W),(∀ x∈ch,x.v.toNat≠i)->(q06 wide s ch o)[i]? = o[i]?
 | [],o,h=>rfl
 | x::l,o,h=>by
  have:=y3i wide s i l (o.set x.v.toNat (valD wide s x.by1)) fun y hy=>h y (by simp [hy])
  rw [List.getElem?_set_ne (h x (by simp))] at this;exact this
theorem z27 {wide vars:Int} {s:List W} (hs:(s.length:Int)=vars) (hg:∀ a∈s,a<=mk wide):∀ (ch:List Chg) (o:List W),(∀ x∈ch,kindT wide vars x.by1=1)->(∀ a∈o,a<=mk wide)->∀ a∈q06 wide s ch o,a<=mk wide
 | [],o,hx,ho=>ho
 | x::l,o,hx,ho=>by
  obtain ⟨_,h2⟩:=q58 (hx x (by simp)) (by omega) hs hg;have h3:valD wide s x.by1<=mk wide:=by rcases h2 with h | h;exact h.2;exact absurd h.1 (by omega)
  refine z27 hs hg l (o.set x.v.toNat (valD wide s x.by1)) (fun y hy=>hx y (by simp [hy])) fun a ha=>?_
  rcases List.mem_or_eq_of_mem_set ha with h4 | h4
  ·exact ho a h4
  ·rw [h4];exact h3
theorem y3j (wide:Int) (s:List W) (i:Nat) (a:W):∀ (ch:List Chg) (o:List W),(∀ x∈ch,x.v.toNat≠i)->q06 wide s ch (o.set i a)=(q06 wide s ch o).set i a
 | [],o,h=>rfl
 | x::l,o,h=>by
  have:=y3j wide s i a l (o.set x.v.toNat (valD wide s x.by1)) fun y hy=>h y (by simp [hy])
  simp only [q06,List.foldl_cons] at this ⊢;rw [List.set_comm _ _ (Ne.symm (h x (by simp)))];exact this
theorem z87 (wide:Int) (s:List W) (c2:List Chg):∀ (c1:List Chg) (o:List W),(∀ x∈c1,∀ y∈c2,y.v.toNat≠x.v.toNat)->q06 wide s c2 (q06 wide s c1 o)=q06 wide s c1 (q06 wide s c2 o)
 | [],o,h=>rfl
 | x::l,o,h=>by
  have:=z87 wide s c2 l (o.set x.v.toNat (valD wide s x.by1)) fun y hy=>h y (by simp [hy])
  rw [y3j wide s _ _ c2 o (h x (by simp))] at this;exact this
theorem z1b {wide:Int} {s s':List W}:∀ (ch:List Chg) (o:List W),(∀ x∈ch,valD wide s x.by1=valD wide s' x.by1)->q06 wide s ch o=q06 wide s' ch o
 | [],o,h=>rfl
 | x::l,o,h=>by
  have:=z1b (wide:=wide) (s:=s) (s':=s') l (o.set x.v.toNat (valD wide s x.by1)) fun y hy=>h y (by simp [hy])
  simp only [q06,List.foldl_cons] at this ⊢;rw [this,h x (by simp)]
theorem y7g {p:Prg} (hp:FitP p) {k1 m1:Int} (hk:tOK p k1=true) (hm:tOK p m1=true) (h:q15 (z0w (q0q p k1)) (q9k (q0q p m1))=false) (s:List W) {t:List Nd} (hg:q1c p.wide p.vars t=true) (hr:∀ v∈z1a t,v∈q9k (q0q p m1)) :
  valD p.wide (q06 p.wide s (q0q p k1).ch s) t=valD p.wide s t:=by
 obtain ⟨hw,hv,_,_,_,_,hx⟩:=q56 hp hk;have hv':=q9j.1 hv;unfold valD;rw [y5p (s:=q06 p.wide s (q0q p k1).ch s) (s':=s) t [] fun x hxt h2=>?_];have hlt:=z3p hg x hxt h2;refine y3i p.wide s _ _ _ fun y hy e=>?_
 have h3:=y84 t x hxt h2;have h4:IntKind.i64.wrap (wi x.2)=(x.2.toNat:Int):=by unfold wi;exact q0g (by omega) (by omega)
 rw [h4] at h3;have h5:=z9z h y.v (List.mem_map.2 ⟨y,hy,rfl⟩);have h6:y.v=(x.2.toNat:Int):=by have:=(hx y hy).1;omega
 rw [h6] at h5;exact h5 (hr _ h3)
theorem x5x {p:Prg} (hp:FitP p) {k1 m1:Int} (hk:tOK p k1=true) (hm:tOK p m1=true) (ha:apart p k1 m1=true) {s:List W} (h1:q3a p k1 s=true) (h2:q3a p m1 s=true) :
  q3a p m1 (stepT p k1 s)=true /\ q3a p k1 (stepT p m1 s)=true /\ stepT p m1 (stepT p k1 s)=stepT p k1 (stepT p m1 s):=by
 simp only [apart,Bool.and_eq_true,Bool.not_eq_true'] at ha;obtain ⟨a1,a2,a3⟩:=ha;obtain ⟨hw,hv,_,_,hfk,hkk,hxk⟩:=q56 hp hk;obtain ⟨_,_,_,_,hfm,hkm,hxm⟩:=q56 hp hm;have ek:stepT p k1 s=q06 p.wide s (q0q p k1).ch s:=by unfold stepT;rw [h1];rfl
 have em:stepT p m1 s=q06 p.wide s (q0q p m1).ch s:=by unfold stepT;rw [h2];rfl
 simp only [q3a,Bool.and_eq_true] at h1 h2;obtain ⟨hs,hg⟩:=(q5a hw).1 h1.1;have oks:∀ ch:List Chg,(∀ x∈ch,kindT p.wide p.vars x.by1=1)->stOK p (q06 p.wide s ch s)=true:=fun ch hc=>(q5a hw).2 ⟨by rw [q8e];exact hs,z27 hs hg ch s hc hg⟩
 have okk:=oks _ fun x h=>(hxk x h).2.2
 have okm:=oks _ fun x h=>(hxm x h).2.2
 have vm:=fun t hg hr=>y7g hp hk hm a1 s (t:=t) hg hr
 have vk:=fun t hg hr=>y7g hp hm hk a3 s (t:=t) hg hr
 have hwm:=vm (q0q p m1).wh (q4l (by omega)) fun v hv=>(q7z _ _).2 (.inl hv)
 have hwk:=vk (q0q p k1).wh (q4l (by omega)) fun v hv=>(q7z _ _).2 (.inl hv)
 have hbm:∀ x∈(q0q p m1).ch,valD p.wide (q06 p.wide s (q0q p k1).ch s) x.by1=valD p.wide s x.by1:=fun x hx=>vm x.by1 (q4l (by have:=(hxm x hx).2.2;omega)) fun v hv=>(q7z _ _).2 (.inr (z1t _ x v hx hv))
 have hbk:∀ x∈(q0q p k1).ch,valD p.wide (q06 p.wide s (q0q p m1).ch s) x.by1=valD p.wide s x.by1:=fun x hx=>vk x.by1 (q4l (by have:=(hxk x hx).2.2;omega)) fun v hv=>(q7z _ _).2 (.inr (z1t _ x v hx hv))
 have o1:q3a p m1 (stepT p k1 s)=true:=by
  rw [ek,q3a,okk,Bool.true_and,x8o,hwm];exact h2.2
 have o2:q3a p k1 (stepT p m1 s)=true:=by
  rw [em,q3a,okm,Bool.true_and,x8o,hwk];exact h1.2
 refine ⟨o1,o2,?_⟩;unfold stepT at o1 o2 ⊢;rw [show (bif q3a p m1 (bif q3a p k1 s then q06 p.wide s (q0q p k1).ch s else []) then _ else [])=q06 p.wide (bif q3a p k1 s then q06 p.wide s (q0q p k1).ch s else []) (q0q p m1).ch (bif q3a p k1 s then q06 p.wide s (q0q p k1).ch s else []) by rw [o1];rfl];rw [show (bif q3a p k1 (bif q3a p m1 s then q06 p.wide s (q0q p m1).ch s else []) then _ else [])=q06 p.wide (bif q3a p m1 s then q06 p.wide s (q0q p m1).ch s else []) (q0q p k1).ch (bif q3a p m1 s then q06 p.wide s (q0q p m1).ch s else []) by rw [o2];rfl];have ek':(bif q3a p k1 s then q06 p.wide s (q0q p k1).ch s else [])=q06 p.wide s (q0q p k1).ch s:=ek;have em':(bif q3a p m1 s then q06 p.wide s (q0q p m1).ch s else [])=q06 p.wide s (q0q p m1).ch s:=em;rw [ek',em',z1b _ _ hbm,z1b _ _ hbk];refine z87 p.wide s _ _ s fun x hx y hy e=>?_
 have h5:=z9z a2 x.v (List.mem_map.2 ⟨x,hx,rfl⟩);have h6:x.v=y.v:=by have:=(hxk x hx).1;have:=(hxm y hy).1;omega
 exact h5 (h6 ▸ List.mem_map.2 ⟨y,hy,rfl⟩)
theorem q47 {wide:Int} (hw:isW wide=true) {a:W} (h:a<=mk wide):a &&& mk wide=a:=by
 have h':=q2f.1 hw;exact (z3j (by omega) a).2 h
theorem w1e {wide:Int} (hw:isW wide=true) {a:W} (h:a &&& mk wide=a):a<=mk wide:=by
 have h':=q2f.1 hw;exact (z3j (by omega) a).1 h
theorem v2f {wide:Int} (hw:isW wide=true) (i:Nat):(mk wide).getLsbD i=decide (i<wide.toNat):=by
 have h':=q2f.1 hw;exact z7c (by omega) i
theorem w1s {wide:Int} (hw:isW wide=true) {a b:W} (ha:a<=mk wide) (hb:b<=mk wide):(a ||| b) &&& mk wide=a ||| b:=by
 have h1:=q47 hw ha;have h2:=q47 hw hb;rw [BitVec.and_comm,BitVec.and_or_distrib_left,BitVec.and_comm _ a,BitVec.and_comm _ b,h1,h2]
theorem w9e {wide:Int} (hw:isW wide=true) {a b:W} (ha:a<=mk wide) (hb:b<=mk wide):(a ^^^ b) &&& mk wide=a ^^^ b:=by
 have h1:=q47 hw ha;have h2:=q47 hw hb;apply BitVec.eq_of_getLsbD_eq;intro i hi;have b1:=congrArg (fun x=>x.getLsbD i) h1;have b2:=congrArg (fun x=>x.getLsbD i) h2;simp only [BitVec.getLsbD_and,BitVec.getLsbD_xor] at b1 b2 ⊢;revert b1 b2;cases a.getLsbD i <;> cases b.getLsbD i <;> cases (mk wide).getLsbD i <;> simp
theorem w4f {wide:Int} (hw:isW wide=true) (a:W) (j:Nat):(((a <<< 1) &&& mk wide) <<< j) &&& mk wide=(a <<< (j+1)) &&& mk wide:=by
 apply BitVec.eq_of_getLsbD_eq;intro i hi;simp only [BitVec.getLsbD_and,BitVec.getLsbD_shiftLeft,v2f hw];by_cases h1:i<wide.toNat
 ·by_cases h2:i<j
  ·have:i<j+1:=by omega
   simp [h2,this]
  ·by_cases h3:i=j
   ·subst h3;simp
   ·have e1:i-j-1=i-(j+1):=by omega
    have h4:¬ i<j+1:=by omega
    have h5:¬ i-j<1:=by omega
    have h6:i-j<wide.toNat:=by omega
    have h7:i-j<64:=by omega
    simp [h1,h2,h4,h5,h6,h7,hi,e1]
 ·simp [h1]
theorem w2w {wide:Int} (hw:isW wide=true) (a:W):(a &&& mk wide) &&& mk wide=a &&& mk wide:=by rw [BitVec.and_assoc,BitVec.and_self]
def sg (wide:Int) (a:W):Int:=if a.toNat<2 ^ (wide.toNat-1) then (a.toNat:Int) else (a.toNat:Int)-2 ^ wide.toNat
theorem x7d {x:Int} (h1:9223372036854775808<=x) (h2:x<18446744073709551616):IntKind.i64.wrap x=x-18446744073709551616:=by
 unfold IntKind.wrap;simp [IntKind.signed,IntKind.bits];omega
theorem y1p {wide:Int} (hw:isW wide=true):(mk wide).toNat=2 ^ wide.toNat-1:=by
 have h':=q2f.1 hw;exact q4 (by omega)
theorem z81 {wide:Int} (hw:isW wide=true) {a:W} (ha:a<=mk wide):a.toNat<2 ^ wide.toNat:=by
 have h1:=y1p hw;rw [BitVec.le_def] at ha
 have:=Nat.two_pow_pos wide.toNat
 omega
theorem z7m {wide:Int} (hw:isW wide=true):∃ w:Nat,wide=((w+1:Nat):Int) /\ w<=63 /\ wide.toNat=w+1 /\ wide.toNat-1=w:=by
 have h':=q2f.1 hw;exact ⟨wide.toNat-1,by omega,by omega,by omega,rfl⟩
theorem w12 {wide:Int} (hw:isW wide=true) {a:W} (ha:a<=mk wide):sgn wide a=sg wide a:=by
 have hlt:=z81 hw ha;obtain ⟨w,rfl,hw63,e1,e2⟩:=z7m hw;unfold sgn sg;rw [e2,e1] at *;have hd:(64-((w+1:Nat):Int)).toNat=63-w:=by omega
 have hmul:2 ^ (w+1)*2 ^ (63-w)=18446744073709551616:=by rw [<- Nat.pow_add,show w+1+(63-w)=64 by omega]
 have hmul2:2 ^ w*2 ^ (63-w)=9223372036854775808:=by rw [<- Nat.pow_add,show w+(63-w)=63 by omega]
 have hp:=Nat.two_pow_pos (63-w);have hb:a.toNat*2 ^ (63-w)<18446744073709551616:=by rw [<- hmul];exact Nat.mul_lt_mul_of_pos_right hlt hp
 have hs:(a <<< (63-w)).toNat=a.toNat*2 ^ (63-w):=by
  rw [BitVec.toNat_shiftLeft,Nat.shiftLeft_eq,Nat.mod_eq_of_lt (by simpa using hb)]
 have hy:min (64-((w+1:Nat):Int)).toNat 64=63-w:=by omega
 unfold shrI;rw [hd,show min (63-w) IntKind.i64.bits=63-w from Nat.min_eq_left (by show 63-w<=64;omega)];have hwi:wi (a <<< (63-w))=((a.toNat*2 ^ (63-w):Nat):Int):=by unfold wi;rw [hs]
 have hpc:(2:Int) ^ (63-w)=((2 ^ (63-w):Nat):Int):=by simp
 rw [hwi,hpc];by_cases h:a.toNat<2 ^ w
 ·have hc:a.toNat*2 ^ (63-w)<9223372036854775808:=by rw [<- hmul2];exact Nat.mul_lt_mul_of_pos_right h hp
  rw [if_pos h,q0g (by omega) (by omega),Int.fdiv_eq_ediv_of_nonneg _ (Int.natCast_nonneg _),<- Int.natCast_ediv,Nat.mul_div_cancel _ hp]
 ·have hc:9223372036854775808<=a.toNat*2 ^ (63-w):=by rw [<- hmul2];exact Nat.mul_le_mul_right _ (by omega)
  rw [if_neg h,x7d (by omega) (by omega)];have e3:((a.toNat*2 ^ (63-w):Nat):Int)-18446744073709551616=((a.toNat:Int)-((2 ^ (w+1):Nat):Int))*((2 ^ (63-w):Nat):Int):=by
   rw [Int.sub_mul,<- Int.natCast_mul,<- Int.natCast_mul,hmul];rfl
  rw [e3,Int.mul_fdiv_cancel _ (by omega)];simp
theorem v5e {wide:Int} (hw:isW wide=true) {a:W} (ha:a<=mk wide):(a ||| ~~~mk wide).toNat=a.toNat+(18446744073709551616-2 ^ wide.toNat):=by
 have hz:a &&& ~~~mk wide=0#64:=by
  have h1:=q47 hw ha;apply BitVec.eq_of_getLsbD_eq;intro i hi;have b1:=congrArg (fun x=>x.getLsbD i) h1;simp only [BitVec.getLsbD_and,BitVec.getLsbD_not,hi,decide_true,Bool.true_and] at b1 ⊢;revert b1;cases a.getLsbD i <;> cases (mk wide).getLsbD i <;> simp
 rw [<- BitVec.add_eq_or_of_and_eq_zero _ _ hz,BitVec.toNat_add,BitVec.toNat_not,y1p hw];have h1:=z81 hw ha;have h':=q2f.1 hw;have h2:2 ^ wide.toNat<=2 ^ 64:=Nat.pow_le_pow_right (by omega) (by omega);have h3:=Nat.two_pow_pos wide.toNat;rw [Nat.mod_eq_of_lt]
 ·omega
 ·omega
theorem w9a {wide:Int} (hw:isW wide=true) {a:W} (ha:a<=mk wide):((a >>> (wide.toNat-1)) &&& 1#64==1#64)=!decide (a.toNat<2 ^ (wide.toNat-1)):=by
 have hlt:=z81 hw ha;obtain ⟨w,rfl,hw63,e1,e2⟩:=z7m hw;rw [e2];rw [e1,Nat.pow_succ] at hlt;have hp:=Nat.two_pow_pos w;have hn:((a >>> w) &&& 1#64).toNat=a.toNat / 2 ^ w % 2:=by
  rw [BitVec.toNat_and,BitVec.toNat_ushiftRight,Nat.shiftRight_eq_div_pow];exact Nat.and_one_is_mod _
 by_cases h:a.toNat<2 ^ w
 ·rw [Nat.div_eq_of_lt h] at hn
  have:(a >>> w) &&& 1#64≠1#64:=fun e=>by rw [e] at hn;simp at hn
  simp [h,this]
 ·have hq:a.toNat / 2 ^ w=1:=by
   apply Nat.div_eq_of_lt_le <;> omega
  rw [hq] at hn
  have:(a >>> w) &&& 1#64=1#64:=BitVec.eq_of_toNat_eq hn
  simp [h,this]
theorem w5k {k:Nat} (hk:90<=k) (wide:Int) (a b:W):c301 k wide (wi a) (wi b)=r301 (q12 wide a&&q12 wide b):=by
 obtain ⟨k,rfl⟩:=k01 (k:=k) (by omega);rw [n301,q91 (by omega),q91 (by omega)];simp only [v1o];cases q12 wide a <;> rfl
theorem z2n {k:Nat} (hk:70<=k) {wide:Int} (hw:isW wide=true) (a:W):c267 k wide (wi a)=r267 (wi (a &&& mk wide)):=by
 have h':=q2f.1 hw;exact y31 hk (by omega) h'.2 a
theorem w5q {k:Nat} (hk:100<=k) {wide:Int} (hw:isW wide=true) (a b:W):c295 k wide (wi a) (wi b)=r295 (wi (divW wide a b).1) (wi (divW wide a b).2) (q12 wide a&&q12 wide b):=by
 obtain ⟨k,rfl⟩:=k01 (k:=k) (by omega);rw [n295,w5k (by omega)];simp only [v2b];unfold divW;cases h1:(q12 wide a&&q12 wide b)
 ·rfl
 ·simp only [Bool.not_true,cond_false,if_true];by_cases hb:b=0#64
  ·subst hb;have e:(wi 0#64==0)=true:=rfl;have e2:(18446744073709551615:Int)=wi (BitVec.allOnes 64):=rfl;simp only [e,cond_true,if_true];rw [e2,z2n (by omega) hw];simp only [q76];rw [BitVec.allOnes_and]
  ·have h2:(wi b==0)=false:=by
    have e:(0:Int)=wi 0#64:=rfl;rw [e,q4i];simpa using hb
   simp only [h2,cond_false,cond_true,Bool.not_false,hb,if_false];have e1:(wi a).tdiv (wi b)=wi (a / b):=by
    unfold wi;rw [Int.tdiv_eq_ediv_of_nonneg (by omega),BitVec.toNat_udiv,Int.natCast_ediv]
   have e2:(wi a).tmod (wi b)=wi (a % b):=by
    unfold wi;rw [Int.tmod_eq_emod_of_nonneg (by omega),BitVec.toNat_umod,Int.natCast_emod]
   rw [e1,e2,q9n]
theorem z1x {k:Nat} (hk:80<=k) {wide:Int} (hw:isW wide=true) (left:Bool):∀ (n j:Nat) (a:W),j<n->j<=64->a<=mk wide->z6e k n wide (wi a) (j:Int) left=r296 (wi (if left then (a <<< j) &&& mk wide else a >>> j))
 | 0,j,a,h,hj,ha=>by omega
 | n+1,j,a,h,hj,ha=>by
  rw [w83];cases j with
  | zero=>
   have hd:decide (((0:Nat):Int)>0)=false:=by simp
   rw [hd];simp only [cond_false]
   congr 2
   cases left
   ·simp
   ·simp [q47 hw ha]
  | succ j=>
   have hd:decide (((j+1:Nat):Int)>0)=true:=by (simp;try omega)
   rw [hd,q48 (by omega) (by omega),show ((j+1:Nat):Int)-1=(j:Int) by omega];simp only [cond_true];cases left
   ·simp only [cond_false,Bool.false_eq_true,if_false];rw [z24 _ (by omega)];have e1:(1:Int).toNat=1:=rfl;rw [e1];have hle:a >>> 1<=mk wide:=by
     refine BitVec.le_trans ?_ ha;rw [BitVec.le_def,BitVec.toNat_ushiftRight,Nat.shiftRight_eq_div_pow];exact Nat.div_le_self _ _
    rw [z1x hk hw false n j (a >>> 1) (by omega) (by omega) hle];simp only [Bool.false_eq_true,if_false]
    congr 2
    rw [<- BitVec.shiftRight_add,Nat.add_comm]
   ·simp only [cond_true,if_true];rw [y5 _ (by omega)];have e1:(1:Int).toNat=1:=rfl;rw [e1,z2n (by omega) hw];simp only [q76];rw [z1x hk hw true n j _ (by omega) (by omega) (q8f _ _)];simp only [if_true];rw [w4f hw]
theorem w13 {k:Nat} (hk:100<=k) {wide:Int} (hw:isW wide=true) (a b:W) (left:Bool) (ha:a<=mk wide):c296 k wide (wi a) (wi b) left=r296 (wi (shW wide a b left &&& mk wide)):=by
 obtain ⟨k,rfl⟩:=k01 (k:=k) (by omega);have h':=q2f.1 hw;rw [n296,q48 (by omega) (by omega)];unfold shW;by_cases h1:wide<=wi b
 ·have:decide (wi b>=wide)=true:=by simpa using h1
  rw [this,if_pos h1];simp only [cond_true];have e:(0#64:W) &&& mk wide=0#64:=by simp
  rw [e];rfl
 ·have h2:decide (wi b>=wide)=false:=by simpa using h1
  rw [h2,if_neg h1];simp only [cond_false];have hb:b.toNat<=64:=by unfold wi at h1;omega
  have:=z1x (k:=k) (by omega) hw left k b.toNat a (by omega) hb ha
  have e:wi b=(b.toNat:Int):=rfl;rw [e,this]
  congr 2
  cases left
  ·simp only [Bool.false_eq_true,if_false];refine (q47 hw (BitVec.le_trans ?_ ha)).symm;rw [BitVec.le_def,BitVec.toNat_ushiftRight,Nat.shiftRight_eq_div_pow];exact Nat.div_le_self _ _
  ·simp only [if_true];rw [w2w hw]
theorem y5a {k:Nat} (hk:100<=k) {wide:Int} (hw:isW wide=true) (a:W) (ha:a<=mk wide):c298 k wide (wi a)=r298 (sg wide a):=by
 obtain ⟨k,rfl⟩:=k01 (k:=k) (by omega);have h':=q2f.1 hw;have hlt:=z81 hw ha;rw [n298,q0g (n:=wide-1) (by omega) (by omega),q48 (n:=wide-1) (by omega) (by omega)];have h3:decide (wide-1<0)=false:=by simp;omega
 rw [h3];simp only [Bool.not_false,cond_true];have e1:(1:Int)=wi 1#64:=rfl;have e2:(18446744073709551615:Int)=wi (BitVec.allOnes 64):=rfl;have e3:(wide-wi 1#64).toNat=wide.toNat-1:=by
  have:wi 1#64=1:=rfl
  omega
 rw [e1,z24 _ (by rw [<- e1];omega),q6q,q4i,e3,w9a hw ha];unfold sg;by_cases h:a.toNat<2 ^ (wide.toNat-1)
 ·simp only [h,decide_true,Bool.not_true,cond_false,if_true];have hp:2 ^ (wide.toNat-1)<=2 ^ 63:=Nat.pow_le_pow_right (by omega) (by omega);have e4:wi a=(a.toNat:Int):=rfl;rw [e4,q0g (by omega) (by omega)]
 ·simp only [h,decide_false,Bool.not_false,cond_true,if_false];rw [e2,z2n (by omega) hw];simp only [q76];rw [BitVec.allOnes_and,z75,BitVec.allOnes_xor,y96];have e4:wi (a ||| ~~~mk wide)=((a.toNat+(18446744073709551616-2 ^ wide.toNat):Nat):Int):=by unfold wi;rw [v5e hw ha]
  have hp:2 ^ wide.toNat<=2 ^ 64:=Nat.pow_le_pow_right (by omega) (by omega);have hp2:2 ^ wide.toNat=2*2 ^ (wide.toNat-1):=by
   obtain ⟨w,rfl,hw63,e5,e6⟩:=z7m hw;rw [e6,e5,Nat.pow_succ,Nat.mul_comm]
  have hp3:2 ^ (wide.toNat-1)<=2 ^ 63:=Nat.pow_le_pow_right (by omega) (by omega);have hpc:(2:Int) ^ wide.toNat=((2 ^ wide.toNat:Nat):Int):=by simp
  rw [e4,x7d (by omega) (by omega),hpc]
  congr 1
  omega
theorem w2p {k:Nat} (hk:1<=k) (b:Bool):c297 k b=r297 (wi (tr b)):=by
 obtain ⟨k,rfl⟩:=k01 (k:=k) (by omega);rw [n297];cases b <;> rfl
theorem y5f {wide:Int} (hw:isW wide=true) (b:Bool):tr b &&& mk wide=tr b:=by
 refine q47 hw (BitVec.le_trans (w5f b) ?_);have h1:=y1p hw;have h':=q2f.1 hw
 have:2 ^ 1<=2 ^ wide.toNat:=Nat.pow_le_pow_right (by omega) (by omega)
 have h2:(1#64).toNat=1:=rfl;rw [BitVec.le_def];omega
theorem w5r {wide:Int} (hw:isW wide=true) {a b:W} (ha:a<=mk wide) (hb:b<=mk wide):(divW wide a b).1<=mk wide /\ (divW wide a b).2<=mk wide:=by
 unfold divW;split
 ·split
  ·exact ⟨BitVec.le_refl _,ha⟩
  ·refine ⟨BitVec.le_trans ?_ ha,BitVec.le_trans ?_ ha⟩
   ·rw [BitVec.le_def,BitVec.toNat_udiv];exact Nat.div_le_self _ _
   ·rw [BitVec.le_def,BitVec.toNat_umod];exact Nat.mod_le _ _
 ·exact ⟨by rw [BitVec.le_def];exact Nat.zero_le _,by rw [BitVec.le_def];exact Nat.zero_le _⟩
theorem w51 {k:Nat} (hk:200<=k) {wide:Int} (hw:isW wide=true) (op:Int) (a b:W) (ha:a<=mk wide) (hb:b<=mk wide):c277 k wide op (wi a) (wi b)=r277 (wi (apW wide op a b)):=by
 obtain ⟨k,rfl⟩:=k01 (k:=k) (by omega);rw [n277];have hd:=w5q (k:=k) (by omega) hw a b;have hcut:=fun x:W=>z2n (k:=k) (by omega) hw x
 have hs:=fun l=>w13 (k:=k) (by omega) hw a b l ha
 have ht:=fun x=>w2p (k:=k) (by omega) x
 have hga:=y5a (k:=k) (by omega) hw a ha;have hgb:=y5a (k:=k) (by omega) hw b hb;obtain ⟨hd1,hd2⟩:=w5r hw ha hb;simp only [hd,hs,ht,hga,hgb,v1x,v1y,v1z,v2a,x0t,y5e,x2b,q6q,y96,z75,q4i,y86,hcut,q76];unfold apW z8a;have q:∀ {c d:Int},c≠d->(c==d)=false:=fun h=>by simpa using h
 by_cases h1:op=3
 · subst h1;rfl
 by_cases h2:op=4
 · subst h2;rfl
 by_cases h3:op=5
 · subst h3;rfl
 by_cases h4:op=6
 · subst h4;show r277 _=r277 (wi ((divW wide a b).1 &&& mk wide));rw [q47 hw hd1]
 by_cases h5:op=7
 · subst h5;show r277 _=r277 (wi ((divW wide a b).2 &&& mk wide));rw [q47 hw hd2]
 by_cases h6:op=8
 · subst h6;show r277 _=r277 (wi ((a &&& b) &&& mk wide));rw [q47 hw (BitVec.le_trans (q9t a b) ha)]
 by_cases h7:op=17
 · subst h7;show r277 _=r277 (wi ((a &&& b) &&& mk wide));rw [q47 hw (BitVec.le_trans (q9t a b) ha)]
 by_cases h8:op=9
 · subst h8;show r277 _=r277 (wi ((a ||| b) &&& mk wide));rw [w1s hw ha hb]
 by_cases h9:op=18
 · subst h9;show r277 _=r277 (wi ((a ||| b) &&& mk wide));rw [w1s hw ha hb]
 by_cases h10:op=10
 · subst h10;show r277 _=r277 (wi ((a ^^^ b) &&& mk wide));rw [w9e hw ha hb]
 by_cases h11:op=11
 · subst h11;rfl
 by_cases h12:op=12
 · subst h12;rfl
 by_cases h13:op=14
 · subst h13;show r277 _=r277 (wi (tr (a==b) &&& mk wide));rw [y5f hw]
 by_cases h14:op=15
 · subst h14;show r277 _=r277 (wi (tr (decide (a<b)) &&& mk wide));rw [y5f hw]
 by_cases h15:op=16
 · subst h15;show r277 _=r277 (wi (tr (decide (sgn wide a<sgn wide b)) &&& mk wide));rw [y5f hw,w12 hw ha,w12 hw hb]
 simp only [q h1,q h2,q h3,q h4,q h5,q h6,q h7,q h8,q h9,q h10,q h11,q h12,q h13,q h14,q h15,cond_false,h1,h2,h3,h4,h5,h6,h7,h8,h9,h10,h11,h12,h13,h14,h15,if_false];have e:(0#64:W) &&& mk wide=0#64:=by simp
 rw [e];rfl
theorem x12 {wide vars:Int}:∀ {t:List Nd} {st st':List Int},kst wide vars t st=some st'->∀ x∈t,(need x.1).2.2≠0
 | [],st,st',h=>by simp
 | x::t,st,st',h=>by
  simp only [kst] at h;split at h
  ·cases h
  ·rename_i h0;split at h
   ·cases h
   ·split at h
    ·cases h
    ·split at h
     ·cases h
     ·intro y hy;rcases List.mem_cons.1 hy with rfl | hy
      ·exact h0
      ·exact x12 h y hy
theorem x8t {op:Int} (h:(need op).2.2≠0):((op=1∨op=20) /\ (need op).1=0)∨(op=2 /\ (need op).1=0)∨((op=13∨op=19) /\ (need op).1=1)∨(op≠1 /\ op≠20 /\ op≠2 /\ op≠13 /\ op≠19 /\ (need op).1=2):=by
 by_cases h1:op=1
 ·subst h1;exact .inl ⟨.inl rfl,rfl⟩
 by_cases h20:op=20
 ·subst h20;exact .inl ⟨.inr rfl,by decide⟩
 by_cases h2:op=2
 ·subst h2;exact .inr (.inl ⟨rfl,by decide⟩)
 by_cases h13:op=13
 ·subst h13;exact .inr (.inr (.inl ⟨.inl rfl,by decide⟩))
 by_cases h19:op=19
 ·subst h19;exact .inr (.inr (.inl ⟨.inr rfl,by decide⟩))
 refine .inr (.inr (.inr ⟨h1,h20,h2,h13,h19,?_⟩));unfold need at h ⊢;rw [if_neg (by omega),if_neg h20,if_neg h13,if_neg h19] at h ⊢;split
 ·rfl
 ·split
  ·rfl
  ·split
   ·rfl
   ·rename_i b1 b2 b3;rw [if_neg b1,if_neg b2,if_neg b3] at h;exact absurd rfl h
theorem Fit.le {wide:Int} (hw:isW wide=true) {ks:List Int} {vs:List W} (h:Fit wide ks vs):∀ v∈vs,v<=mk wide:=by
 induction h with
 | nil=>simp
 | cons ho _ ih=>
  intro v hv;rcases List.mem_cons.1 hv with rfl | hv
  ·rcases ho with ho | ho
   ·exact ho.2
   ·refine BitVec.le_trans ho.2 ?_;exact w1e hw (by
     have:=y5f hw true
     simpa [tr] using this)
  ·exact ih v hv
theorem x4e {wide vars:Int} {t:List Nd} (h:q1c wide vars t=true) {s:List W} (hs:(s.length:Int)=vars) (hg:∀ a∈s,a<=mk wide):(∀ x∈t,(need x.1).2.2≠0) /\ ∀ (j:Nat) (us:List W),vrun wide s (t.take j) []=some us->∀ u∈us,u<=mk wide:=by
 obtain ⟨hsz,c,hk,hc⟩:=q4k.1 h;have hw:isW wide=true:=by simp only [q42,Bool.and_eq_true] at hsz;exact hsz.1.1.1
 have hv:isV vars=true:=by simp only [q42,Bool.and_eq_true] at hsz;exact hsz.1.1.2
 refine ⟨x12 hk,fun j us hus=>?_⟩;rw [<- List.take_append_drop j t,y58] at hk;obtain ⟨ks,h1,h2⟩:=Option.bind_eq_some_iff.1 hk;obtain ⟨vs',h3,hf⟩:=q7l hw hv hs hg h1 .nil;rw [hus] at h3;injection h3 with h3
 subst h3;exact hf.le hw
theorem z8s {wide vars:Int} {t:List Nd} (hgt:q1c wide vars t=true) {s:List W} (hs:(s.length:Int)=vars) (hg:∀ a∈s,a<=mk wide) (ht:t.length<=100) (hw:isW wide=true) (hv:isV vars=true):∀ (m j:Nat),j<m->j<t.length->∀ (v:W) (vs:List W),vrun wide s (t.take (j+1)) []=some (v::vs) ->
  ∃ f,f<=j /\ vrun wide s (t.take f) []=some vs /\ (∀ k,300+j<=k->c278 k (encT t) (j:Int)=r278 (f:Int)) /\ ∀ k,300+2*j<=k->c244 k wide (encT t) (j:Int) (encW s)=r244 (wi v)
 | 0,j,h,hj,v,vs,hr=>by omega
 | m+1,j,h,hj,v,vs,hr=>by
  obtain ⟨hne,hle⟩:=x4e hgt hs hg;have hv':=q9j.1 hv;have htk:t.take (j+1)=t.take j++[t[j]]:=List.take_succ_eq_append_getElem hj;rw [htk,q6] at hr;obtain ⟨us,hu,hr⟩:=Option.bind_eq_some_iff.1 hr;have hx:=hne t[j] (List.getElem_mem hj);have from_ok:∀ k,300+j<=k->c278 k (encT t) (j:Int)=q9r (k-1) (k-1) (encT t) ((need t[j].1).1:Nat) (j:Int):=by
   intro k hk;obtain ⟨k,rfl⟩:∃ i,k=i+1:=⟨k-1,by omega⟩;rw [n278,q4x hj];simp only [Option.bind_some,q3k];rw [q7c (by omega)];simp only [z2h,Nat.add_sub_cancel]
  have from0:∀ (k n:Nat) (f:Int),1<=n->q9r k n (encT t) ((0:Nat):Int) f=r278 f:=by
   intro k n f hn;obtain ⟨n,rfl⟩:∃ i,n=i+1:=⟨n-1,by omega⟩;rw [x61];rfl
  have fromS:∀ (k n a f f2:Nat),1<=n->1<=f->f<=1000->a<=5->c278 k (encT t) ((f-1:Nat):Int)=r278 (f2:Int)->q9r k n (encT t) ((a+1:Nat):Int) (f:Int)=q9r k (n-1) (encT t) (a:Int) (f2:Int):=by
   intro k n a f f2 hn hf hf2 ha hc;obtain ⟨n,rfl⟩:∃ i,n=i+1:=⟨n-1,by omega⟩;rw [x61];have hd:decide (((a+1:Nat):Int)>0)=true:=by (simp;try omega)
   rw [hd,q0g (n:=(f:Int)-1) (by omega) (by omega),show (f:Int)-1=((f-1:Nat):Int) by omega,hc];simp only [cond_true,x95];rw [q0g (by omega) (by omega),show ((a+1:Nat):Int)-1=(a:Int) by omega];rfl
  have val_ok:∀ k,c244 (k+1) wide (encT t) (j:Int) (encW s)=_:=fun k=>n244 k wide (encT t) (j:Int) (encW s)
  rcases x8t hx with ⟨h1,hn⟩ | ⟨h1,hn⟩ | ⟨h1,hn⟩ | ⟨h1,h20,h2,h13,h19,hn⟩
  ·simp only [vrun] at hr;rw [if_pos h1] at hr;injection hr with hr
   injection hr with e1 e2
   subst e2;refine ⟨j,by omega,hu,fun k hk=>?_,fun k hk=>?_⟩
   ·rw [from_ok k hk,hn];exact from0 _ _ _ (by omega)
   ·obtain ⟨k,rfl⟩:∃ i,k=i+1:=⟨k-1,by omega⟩;have h2':(t[j].1==2)=false:=by rcases h1 with h | h <;> simp [h]
    have h0':((((need t[j].1).1:Nat):Int)==0)=true:=by simp [hn]
    rw [n244,q4x hj];simp only [Option.bind_some,q3p,q3k,q5k,cond_true];rw [q7c (by omega)];simp only [z2h,h2',h0',cond_false,cond_true,e1]
  ·simp only [vrun] at hr;rw [if_neg (by omega),if_pos h1] at hr;obtain ⟨a,ha,hr⟩:=Option.bind_eq_some_iff.1 hr;injection hr with hr
   injection hr with e1 e2
   subst e2;refine ⟨j,by omega,hu,fun k hk=>?_,fun k hk=>?_⟩
   ·rw [from_ok k hk,hn];exact from0 _ _ _ (by omega)
   ·obtain ⟨k,rfl⟩:∃ i,k=i+1:=⟨k-1,by omega⟩;have h2':(t[j].1==2)=true:=by simpa using h1
    have e4:(wi t[j].2).toNat=t[j].2.toNat:=by simp [wi]
    rw [n244,q4x hj];simp only [Option.bind_some,q3p,q3k,q5k,cond_true];rw [q7c (by omega)];simp only [z2h,h2',cond_true];rw [q5p (q4m _),q5l,e4,ha];simp only [Option.map_some,Option.bind_some,q0d,e1]
  ·have hus:∃ a,us=a::vs /\ ((t[j].1=13 /\ v=(~~~a &&& mk wide))∨(t[j].1=19 /\ v=(1#64-a))):=by
    simp only [vrun] at hr;rw [if_neg (by omega),if_neg (by omega)] at hr;rcases h1 with h1 | h1
    ·rw [if_pos h1] at hr;cases us with
     | nil=>cases hr
     | cons a r=>
      injection hr with hr
      injection hr with e1 e2
      exact ⟨a,by rw [e2],.inl ⟨h1,e1.symm⟩⟩
    ·rw [if_neg (by omega),if_pos h1] at hr;cases us with
     | nil=>cases hr
     | cons a r=>
      injection hr with hr
      injection hr with e1 e2
      exact ⟨a,by rw [e2],.inr ⟨h1,e1.symm⟩⟩
   obtain ⟨a,rfl,hva⟩:=hus;have hj0:1<=j:=by
    cases j with
    | zero=>simp [vrun] at hu
    | succ j=>omega
   have hjj:j-1+1=j:=by omega
   obtain ⟨f,hf1,hf2,hf3,hf4⟩:=z8s hgt hs hg ht hw hv m (j-1) (by omega) (by omega) a vs (by rw [hjj];exact hu);refine ⟨f,by omega,hf2,fun k hk=>?_,fun k hk=>?_⟩
   ·rw [from_ok k hk,hn,fromS (k-1) (k-1) 0 j f (by omega) hj0 (by omega) (by omega) (hf3 (k-1) (by omega))];exact from0 _ _ _ (by omega)
   ·obtain ⟨k,rfl⟩:∃ i,k=i+1:=⟨k-1,by omega⟩;have h2':(t[j].1==2)=false:=by rcases h1 with h | h <;> simp [h]
    have h0':((((need t[j].1).1:Nat):Int)==0)=false:=by simp [hn]
    rw [n244,q4x hj];simp only [Option.bind_some,q3p,q3k,q5k,cond_true];rw [q7c (by omega),q0g (n:=(j:Int)-1) (by omega) (by omega),show (j:Int)-1=((j-1:Nat):Int) by omega,hf4 k (by omega)];simp only [z2h,h2',h0',cond_false,z6k];rcases hva with ⟨h13,rfl⟩ | ⟨h19,rfl⟩
    ·have e13:(t[j].1==13)=true:=by simpa using h13
     have e2:(18446744073709551615:Int)=wi (BitVec.allOnes 64):=rfl;rw [e13,e2,z75,z2n (by omega) hw,BitVec.allOnes_xor];simp only [cond_true,q76]
    ·have e13:(t[j].1==13)=false:=by simp [h19]
     have e19:(t[j].1==19)=true:=by simpa using h19
     have e1:(1:Int)=wi 1#64:=rfl;rw [e13,e19,e1,y5e];simp only [cond_true,cond_false]
  ·have hus:∃ b a,us=b::a::vs /\ v=apW wide t[j].1 a b:=by
    simp only [vrun] at hr;rw [if_neg (by omega),if_neg h2,if_neg h13,if_neg h19] at hr;rcases us with _ | ⟨b,_ | ⟨a,r⟩⟩
    ·cases hr
    ·cases hr
    ·injection hr with hr
     injection hr with e1 e2
     exact ⟨b,a,by rw [e2],e1.symm⟩
   obtain ⟨b,a,rfl,rfl⟩:=hus;have hj0:1<=j:=by
    cases j with
    | zero=>simp [vrun] at hu
    | succ j=>omega
   have hjj:j-1+1=j:=by omega
   obtain ⟨f,hf1,hf2,hf3,hf4⟩:=z8s hgt hs hg ht hw hv m (j-1) (by omega) (by omega) b (a::vs) (by rw [hjj];exact hu);have hf0:1<=f:=by
    cases f with
    | zero=>simp [vrun] at hf2
    | succ f=>omega
   have hff:f-1+1=f:=by omega
   obtain ⟨g,hg1,hg2,hg3,hg4⟩:=z8s hgt hs hg ht hw hv m (f-1) (by omega) (by omega) a vs (by rw [hff];exact hf2);have hbm:=hle j _ hu b (by simp);have ham:=hle j _ hu a (by simp);refine ⟨g,by omega,hg2,fun k hk=>?_,fun k hk=>?_⟩
   ·rw [from_ok k hk,hn,fromS (k-1) (k-1) 1 j f (by omega) hj0 (by omega) (by omega) (hf3 (k-1) (by omega)),fromS (k-1) (k-1-1) 0 f g (by omega) hf0 (by omega) (by omega) (hg3 (k-1) (by omega))];exact from0 _ _ _ (by omega)
   ·obtain ⟨k,rfl⟩:∃ i,k=i+1:=⟨k-1,by omega⟩;have e2:(t[j].1==2)=false:=by simpa using h2
    have e13:(t[j].1==13)=false:=by simpa using h13
    have e19:(t[j].1==19)=false:=by simpa using h19
    have h0':((((need t[j].1).1:Nat):Int)==0)=false:=by simp [hn]
    rw [n244,q4x hj];simp only [Option.bind_some,q3p,q3k,q5k,cond_true];rw [q7c (by omega),q0g (n:=(j:Int)-1) (by omega) (by omega),show (j:Int)-1=((j-1:Nat):Int) by omega,hf4 k (by omega),hf3 k (by omega)];simp only [z2h,e2,h0',e13,e19,cond_false,z6k,x95];rw [q0g (n:=(f:Int)-1) (by omega) (by omega),show (f:Int)-1=((f-1:Nat):Int) by omega,hg4 k (by omega)];simp only [z6k];rw [w51 (by omega) hw _ a b ham hbm];simp only [v1n]
theorem y4g {k:Nat} (hk:600<=k) {wide vars:Int} {t:List Nd} (hgt:q1c wide vars t=true) {s:List W} (hs:(s.length:Int)=vars) (hg:∀ a∈s,a<=mk wide) (ht:t.length<=100) {v:W} (hv:vrun wide s t []=some [v]) :
  c244 k wide (encT t) (IntKind.i64.wrap ((t.length:Int)-1)) (encW s)=r244 (wi v):=by
 have hsz:=(q4k.1 hgt).1;simp only [q42,Bool.and_eq_true,decide_eq_true_eq] at hsz;have hl:=hsz.1.2;obtain ⟨f,_,_,_,h4⟩:=z8s hgt hs hg ht hsz.1.1.1 hsz.1.1.2 (t.length+1) (t.length-1) (by omega) (by omega) v [] (by rw [show t.length-1+1=t.length by omega,List.take_length];exact hv);rw [q0g (by omega) (by omega),show (t.length:Int)-1=((t.length-1:Nat):Int) by omega];exact h4 k (by omega)
def q1n (l:List Bool):List PV:=l.map PV.bool
theorem w0w (l:List Bool) (i:Nat):(q1n l)[i]? = (l[i]?).map PV.bool:=by simp [q1n]
theorem w23 {p:Prg} (hg:q11 p=true):kindT p.wide p.vars p.start=2 /\ ∀ c∈p.cmds,kindT p.wide p.vars c.wh=2:=by
 simp only [q11,Bool.and_eq_true,List.all_eq_true,beq_iff_eq] at hg;refine ⟨hg.1.1.1,fun c hc=>?_⟩
 have:=hg.2 c hc
 simp only [q3x,Bool.and_eq_true,beq_iff_eq] at this;exact this.1
theorem w2c {p:Prg} (hp:FitP p) {s:List W} (hs:stOK p s=true):s.length<=5:=by
 simp only [stOK,Bool.and_eq_true,decide_eq_true_eq] at hs
 have:=hp.v
 omega
def q6w (p:Prg) (t:List Nd) (s:List W):Bool:=valD p.wide s t==1#64
theorem z64 {k:Nat} (hk:1000010<=k) (p:Prg) (hg:q11 p=true) (l1 l2:List PV) (t:List Nd) (ht:t.length<=100) (hkt:kindT p.wide p.vars t=2) (s:List W) (hs:stOK p s=true):c69 k p.wide p.vars l1 l2 (encT t) (encW s)=r69 (q6w p t s):=by
 obtain ⟨k,rfl⟩:=k01 (k:=k) (by omega);obtain ⟨hw,hv⟩:=q4u hg;obtain ⟨h1,h2⟩:=(q5a hw).1 hs;obtain ⟨hval,_⟩:=q58 hkt (by omega) h1 h2;rw [n69,q9d (by omega) hw s _ (by omega) hval];simp only [y3d];have e:(1:Int)=wi 1#64:=rfl;rw [e,q4i];rfl
theorem y7z {k:Nat} (hk:1000010<=k) (p:Prg) (hg:q11 p=true) (l1 l2:List PV) (t:List Nd) (ht:t.length<=100) (hkt:kindT p.wide p.vars t=2) (s:List W) (hs:stOK p s=true):c194 k p.wide p.vars l1 l2 (encT t) (encW s)=r194 (q6w p t s):=by
 obtain ⟨k,rfl⟩:=k01 (k:=k) (by omega);obtain ⟨hw,hv⟩:=q4u hg;obtain ⟨h1,h2⟩:=(q5a hw).1 hs;obtain ⟨hval,_⟩:=q58 hkt (by omega) h1 h2;rw [n194,q07,y4g (by omega) (q4l (by omega)) h1 h2 ht hval];simp only [z6k];have e:(1:Int)=wi 1#64:=rfl;rw [e,q4i];rfl
def enL (p:Prg) (s:List W):Nat->List Cmd->List Int
 | _,[]=>[]
 | i,c::l=>(bif q6w p c.wh s then [(i:Int)] else [])++enL p s (i+1) l
theorem x55 (p:Prg) (s:List W):∀ (l:List Cmd) (i:Nat) (v:Int),v∈enL p s i l↔∃ j c,l[j]? = some c /\ q6w p c.wh s=true /\ v=((i+j:Nat):Int)
 | [],i,v=>by simp [enL]
 | c::l,i,v=>by
  simp only [enL,List.mem_append,x55 p s l (i+1) v];constructor
  ·rintro (h | ⟨j,c',h1,h2,h3⟩)
   ·cases hh:q6w p c.wh s
    ·rw [hh] at h;simp at h
    ·rw [hh] at h;simp at h;exact ⟨0,c,rfl,hh,by simp [h]⟩
   ·exact ⟨j+1,c',by simpa using h1,h2,by rw [h3];omega⟩
  ·rintro ⟨j,c',h1,h2,h3⟩
   cases j with
   | zero=>
    simp at h1;subst h1;left;rw [h2,h3];simp
   | succ j=>exact .inr ⟨j,c',by simpa using h1,h2,by rw [h3];omega⟩
theorem q8g {k:Nat} (hk:1000010<=k) (p:Prg) (hp:FitP p) (hg:q11 p=true) (s:List W) (hs:stOK p s=true) (l1 l2:List PV):∀ (n i:Nat) (o:List Int),p.cmds.length-i<n->i<=p.cmds.length->o.length<=i ->
  z2a k n (encW s) o.length (q0f p.cmds) (p.cmds.length:Int) (i:Int) p.wide p.vars l1 l2 (encZ o)=r231 (encZ (o++enL p s i (p.cmds.drop i)))
 | 0,i,o,h,hi,ho=>by omega
 | n+1,i,o,h,hi,ho=>by
  have hcm:=hp.cm;rw [w8o];have e1:(encZ o).take o.length=encZ o:=by rw [List.take_of_length_le (by simp)]
  rw [e1];by_cases hlt:i<p.cmds.length
  ·have hd:decide ((i:Int)<(p.cmds.length:Int))=true:=by simpa using hlt
   have hm:=List.getElem_mem hlt;rw [hd,q0n,q2v,List.getElem?_eq_getElem hlt,q0c hlt];simp only [cond_true,Option.map_some,Option.bind_some,q6f,q7,q39];rw [y7z (by omega) p hg _ _ _ (hp.c _ hm).wh ((w23 hg).2 _ hm) s hs];simp only [x9u,enL];rw [q0g (by omega) (by omega)];cases q6w p p.cmds[i].wh s
   ·simp only [cond_false,List.nil_append];exact q8g hk p hp hg s hs l1 l2 n (i+1) o (by omega) (by omega) (by omega)
   ·simp only [cond_true];rw [q0p (by omega) (by omega),q00];have e2:o.length+1=(o++[(i:Int)]).length:=by simp
    simp only [cond_true];rw [e2,<- List.append_assoc];exact q8g hk p hp hg s hs l1 l2 n (i+1) _ (by omega) (by omega) (by simp;omega)
  ·have hd:decide ((i:Int)<(p.cmds.length:Int))=false:=by simpa using hlt
   rw [hd,List.drop_eq_nil_of_le (by omega)];simp [enL]
theorem x54 {k:Nat} (hk:1000000<=k) (p:Prg) (hw:isW p.wide=true) (l1 l2:List PV) (s:List W) (hs:(s.length:Int)=p.vars) (hg:∀ a∈s,a<=mk p.wide) (ch:List Chg) (hl:ch.length<=100) (hx:∀ x∈ch,0<=x.v /\ x.v<p.vars /\ kindT p.wide p.vars x.by1=1 /\ x.by1.length<=100):∀ (n i:Nat) (o:List W),ch.length-i<n->i<=ch.length->o.length=s.length ->
  y21 k n (encW s) o.length (q03 ch) (ch.length:Int) (i:Int) p.wide p.vars l1 l2 (encW o)=r233 (encW (q06 p.wide s (ch.drop i) o))
 | 0,i,o,h,hi,ho=>by omega
 | n+1,i,o,h,hi,ho=>by
  rw [w8p];by_cases hlt:i<ch.length
  ·have hd:=k04 (i:=i) (l:=ch) hlt;have hxi:=hx _ (List.getElem_mem hlt);obtain ⟨hv,_⟩:=q58 hxi.2.2.1 (by omega) hs hg;rw [hd,q0n,q32,List.getElem?_eq_getElem hlt,q0c hlt];simp only [cond_true,Option.map_some,Option.bind_some,q6d,q6e,q69,q07];rw [y4g (by omega) (q4l (by omega)) hs hg hxi.2.2.2 hv];simp only [z6k];have hin:(decide ((0:Int)<=ch[i].v)&&decide (ch[i].v<(o.length:Int)))=true:=by simp;omega
   have hget:(encW o)[0+ch[i].v.toNat]? = some (PV.int .u64 (wi (o[ch[i].v.toNat]'(by omega)))):=by rw [Nat.zero_add,q5l,List.getElem?_eq_getElem (by omega)];rfl
   rw [hin,hget];simp only [cond_true,Option.bind_some,Nat.zero_add];have hset:(encW o).set ch[i].v.toNat (PV.int .u64 (wi (valD p.wide s ch[i].by1)))=encW (o.set ch[i].v.toNat (valD p.wide s ch[i].by1)):=by simp [encW,List.map_set]
   rw [hset,q0g (by omega) (by omega)]
   have:=x54 hk p hw l1 l2 s hs hg ch hl hx n (i+1) (o.set ch[i].v.toNat (valD p.wide s ch[i].by1)) (by omega) (by omega) (by simpa using ho)
   rw [List.length_set] at this;exact this
  ·have hd:=k03 (i:=i) (l:=ch) hlt;rw [hd,List.drop_eq_nil_of_le (by omega)];have e1:(encW o).take o.length=encW o:=by rw [List.take_of_length_le (by simp)]
   simp only [cond_false,e1];rfl
def pw (p:Prg):Nat:=p.wide.toNat
def pv (p:Prg):Nat:=p.vars.toNat
theorem q3g {p:Prg} (h:q0h p=true):p.wide=(pw p:Int) /\ p.vars=(pv p:Int) /\ 1<=pw p /\ 1<=pv p /\ pv p<=4 /\ pw p*pv p<=5 /\ pw p<=5:=by
 obtain ⟨w,v,h1,h2,h3,h4,h5,h6,h7⟩:=w16 h;have e1:pw p=w:=by unfold pw;omega
 have e2:pv p=v:=by unfold pv;omega
 rw [e1,e2];refine ⟨h1,h2,h3,h4,h5,h6,?_⟩
 have:w*1<=w*v:=Nat.mul_le_mul_left _ h4
 omega
theorem y13 {p:Prg} (h:q0h p=true) {s:List W} (hs:stOK p s=true):s.length=pv p /\ ∀ a∈s,a.toNat<2 ^ pw p:=by
 obtain ⟨h1,h2,h3,h4,h5,h6,h7⟩:=q3g h;simp only [stOK,Bool.and_eq_true,decide_eq_true_eq,List.all_eq_true] at hs;refine ⟨by omega,fun a ha=>?_⟩
 have:=hs.2 a ha
 rw [h1] at this;exact w21 (by omega) this
def noOK (p:Prg) (no:Int):Bool:=q0h p&&decide (0<=no)&&decide (no<((2 ^ (pw p*pv p):Nat):Int))
theorem w2b {p:Prg} {no:Int} (h:noOK p no=true):q0h p=true /\ stOK p (digs (pw p) (pv p) no.toNat)=true /\ (noOf (pw p) (digs (pw p) (pv p) no.toNat):Int)=no:=by
 simp only [noOK,Bool.and_eq_true,decide_eq_true_eq] at h;obtain ⟨⟨h1,h2⟩,h3⟩:=h;obtain ⟨h4,h5,h6,h7,h8,h9,h10⟩:=q3g h1;refine ⟨h1,?_,?_⟩
 ·simp only [stOK,Bool.and_eq_true,decide_eq_true_eq,List.all_eq_true];refine ⟨by rw [q38,h5],fun a ha=>?_⟩
  have:=x53 (w:=pw p) (by omega) a ha
  rw [h4];exact w22 h6 (by omega) this
 ·rw [y8 (by omega) (by omega)];omega
theorem w1o {p:Prg} {s:List W} (h1:q0h p=true) (h2:stOK p s=true):noOK p (noOf (pw p) s:Int)=true /\ digs (pw p) (pv p) (noOf (pw p) s:Int).toNat=s:=by
 obtain ⟨h3,h4⟩:=y13 h1 h2;refine ⟨?_,?_⟩
 ·simp only [noOK,h1,Bool.true_and,Bool.and_eq_true,decide_eq_true_eq]
  have:=z8r h4
  rw [h3] at this;exact ⟨Int.natCast_nonneg _,by omega⟩
 ·rw [Int.toNat_natCast,<- h3];exact y7o h4
def nS (p:Prg):Nat:=2 ^ (pw p*pv p)
def sto (p:Prg) (no:Int):List W:=digs (pw p) (pv p) no.toNat
def inS (p:Prg) (no:Int):Prop:=0<=no /\ no<(nS p:Int)
theorem q3e {p:Prg} (h:q0h p=true):2<=nS p /\ nS p<=32:=by
 obtain ⟨_,_,h3,h4,_,h6,_⟩:=q3g h;refine ⟨?_,pow5 h6⟩
 have:1<=pw p*pv p:=Nat.mul_pos h3 h4
 exact Nat.pow_le_pow_right (n:=2) (by omega) this
theorem v2o {p:Prg} (h:q0h p=true) {no:Int} (hi:inS p no):noOK p no=true:=by
 simp only [noOK,h,Bool.true_and,Bool.and_eq_true,decide_eq_true_eq];exact hi
theorem q51 {p:Prg} (h:q0h p=true) {no:Int} (hi:inS p no):stOK p (sto p no)=true:=(w2b (v2o h hi)).2.1
theorem v2v {p:Prg} (h:q0h p=true) {s:List W} (hs:stOK p s=true):inS p (noOf (pw p) s:Int) /\ sto p (noOf (pw p) s:Int)=s:=by
 obtain ⟨h1,h2⟩:=w1o h hs;simp only [noOK,Bool.and_eq_true,decide_eq_true_eq] at h1;exact ⟨⟨h1.1.2,h1.2⟩,h2⟩
theorem z80 {k:Nat} (hk:100<=k) {p:Prg} (h:q0h p=true) (l1 l2:List PV) {no:Int} (hi:inS p no):c70 k p.wide p.vars l1 l2 no=r70 (encW (sto p no)):=by
 obtain ⟨h1,h2,h3,h4,h5,h6,_⟩:=q3g h
 have:=x88 hk (pw p) (pv p) h3 h6 h5 l1 l2 no.toNat (by have:=hi.1;have:=hi.2;unfold nS at this;omega)
 rw [<- h1,<- h2,Int.toNat_of_nonneg hi.1] at this;exact this
theorem x69 {k:Nat} (hk:100<=k) {p:Prg} (h:q0h p=true) (l1 l2:List PV) {no:Int} (hi:inS p no):c195 k p.wide p.vars l1 l2 no=r195 (encW (sto p no)):=by
 obtain ⟨h1,h2,h3,h4,h5,h6,_⟩:=q3g h
 have:=w53 hk (pw p) (pv p) h3 h6 h5 l1 l2 no.toNat (by have:=hi.1;have:=hi.2;unfold nS at this;omega)
 rw [<- h1,<- h2,Int.toNat_of_nonneg hi.1] at this;exact this
theorem z2z {k:Nat} (hk:1<=k) {p:Prg} (h:q0h p=true) (l1 l2:List PV):c103 k p.wide p.vars l1 l2=r103 (nS p:Int):=by
 obtain ⟨h1,h2,h3,h4,h5,h6,_⟩:=q3g h;rw [h1,h2];exact w2d hk (pw p) (pv p) h6 l1 l2
theorem x2c {k:Nat} (hk:1<=k) {p:Prg} (h:q0h p=true) (l1 l2:List PV):c105 k p.wide p.vars l1 l2=r105 (nS p:Int):=by
 obtain ⟨h1,h2,h3,h4,h5,h6,_⟩:=q3g h;rw [h1,h2];exact w1d hk (pw p) (pv p) h6 l1 l2
theorem v2t {k:Nat} (hk:100<=k) {p:Prg} (h:q0h p=true) (l1 l2:List PV) {s:List W} (hs:stOK p s=true):c145 k p.wide p.vars l1 l2 (encW s)=r145 (noOf (pw p) s:Int):=by
 obtain ⟨h1,h2,h3,h4,h5,h6,_⟩:=q3g h;obtain ⟨h7,h8⟩:=y13 h hs;rw [h1,h2];exact x87 hk (pw p) (pv p) h6 l1 l2 s h7 h5 h8
theorem v2u {k:Nat} (hk:100<=k) {p:Prg} (h:q0h p=true) (l1 l2:List PV) {s:List W} (hs:stOK p s=true):c232 k p.wide p.vars l1 l2 (encW s)=r232 (noOf (pw p) s:Int):=by
 obtain ⟨h1,h2,h3,h4,h5,h6,_⟩:=q3g h;obtain ⟨h7,h8⟩:=y13 h hs;rw [h1,h2];exact w52 hk (pw p) (pv p) h3 h6 l1 l2 s h7 h5 h8
theorem q1t {p:Prg} (h:q0h p=true):q11 p=true:=by
 simp only [q0h,Bool.and_eq_true] at h;exact h.1
def hN (p:Prg) (t:List Nd) (no:Int):Bool:=q6w p t (sto p no)
def whN (p:Prg) (t:List Nd):Nat->Nat->List Int
 | _,0=>[]
 | i,m+1=>(bif hN p t (i:Int) then [(i:Int)] else [])++whN p t (i+1) m
def whI (p:Prg) (t:List Nd):List Int:=whN p t 0 (nS p)
theorem y6s (p:Prg) (t:List Nd):∀ (m i:Nat) (x:Int),x∈whN p t i m↔(i:Int)<=x /\ x<(i+m:Nat) /\ hN p t x=true
 | 0,i,x=>by simp [whN];omega
 | m+1,i,x=>by
  simp only [whN,List.mem_append,y6s p t m (i+1) x];by_cases hx:x=(i:Int)
  ·subst hx;cases hN p t (i:Int) <;> simp <;> omega
  ·have:x∉(bif hN p t (i:Int) then [(i:Int)] else []):=by cases hN p t (i:Int) <;> simp [hx]
   simp only [this,false_or];constructor
   ·rintro ⟨h1,h2,h3⟩;exact ⟨by omega,by omega,h3⟩
   ·rintro ⟨h1,h2,h3⟩;exact ⟨by omega,by omega,h3⟩
theorem q9m (p:Prg) (t:List Nd) (x:Int):x∈whI p t↔inS p x /\ hN p t x=true:=by
 rw [whI,y6s];simp [inS,and_assoc]
theorem y6r (p:Prg) (t:List Nd):∀ (m i:Nat),(whN p t i m).length<=m
 | 0,i=>by simp [whN]
 | m+1,i=>by
  have:=y6r p t m (i+1)
  simp only [whN,List.length_append];cases hN p t (i:Int) <;> simp <;> omega
theorem x3n (p:Prg) (t:List Nd):∀ (m i:Nat),(whN p t i m).Pairwise (·<·)
 | 0,i=>by simp [whN]
 | m+1,i=>by
  have h:=x3n p t m (i+1);simp only [whN];cases hN p t (i:Int)
  ·exact h
  ·simp only [cond_true,List.cons_append,List.nil_append,List.pairwise_cons];refine ⟨fun x hx=>?_,h⟩
   have:=(y6s p t m (i+1) x).1 hx
   omega
theorem z4p {k:Nat} (hk:1000100<=k) {p:Prg} (hs:q0h p=true) (l1 l2:List PV) (t:List Nd) (ht:t.length<=100) (hkt:kindT p.wide p.vars t=2):∀ (n i:Nat) (o:List Int),nS p-i<n->i<=nS p->o.length<=i ->
  z5c k n (encT t) o.length (nS p:Int) (i:Int) p.wide p.vars l1 l2 (encZ o)=r110 (encZ (o++whN p t i (nS p-i)))
 | 0,i,o,h,hi,ho=>by omega
 | n+1,i,o,h,hi,ho=>by
  have hle:=q3e hs;rw [w6y];have etk:(encZ o).take o.length=encZ o:=by rw [List.take_of_length_le (by simp)]
  by_cases hlt:i<nS p
  ·have hd:decide ((i:Int)<(nS p:Int))=true:=by simpa using hlt
   have hin:inS p (i:Int):=⟨by omega,by omega⟩;obtain ⟨m,hm⟩:∃ m,nS p-i=m+1:=⟨nS p-i-1,by omega⟩;have hm2:nS p-(i+1)=m:=by omega
   rw [hd,z80 (by omega) hs l1 l2 hin];simp only [cond_true,y90];rw [z64 (by omega) p (q1t hs) l1 l2 t ht hkt _ (q51 hs hin)];simp only [x7v];rw [q0g (by omega) (by omega),show (i:Int)+1=((i+1:Nat):Int) by omega,hm];simp only [whN]
   change (bif hN p t (i:Int) then _ else _)=_
   cases hh:hN p t (i:Int)
   ·simp only [cond_false,List.nil_append]
    have:=z4p hk hs l1 l2 t ht hkt n (i+1) o (by omega) (by omega) (by omega)
    rw [hm2] at this;exact this
   ·simp only [cond_true];rw [q0p (by omega) (by omega),etk,q00]
    have:=z4p hk hs l1 l2 t ht hkt n (i+1) (o++[(i:Int)]) (by omega) (by omega) (by simp;omega)
    rw [hm2,List.length_append,List.append_assoc] at this;exact this
  ·have hd:decide ((i:Int)<(nS p:Int))=false:=by simpa using hlt
   have h0:nS p-i=0:=by omega
   rw [hd,etk,h0];simp [whN]
theorem z0v {k:Nat} (hk:1000200<=k) {p:Prg} (hs:q0h p=true) (l1 l2:List PV) (t:List Nd) (ht:t.length<=100) (hkt:kindT p.wide p.vars t=2):c110 k p.wide p.vars l1 l2 (encT t)=r110 (encZ (whI p t)):=by
 obtain ⟨k,rfl⟩:=k01 (k:=k) (by omega);have hle:=q3e hs;rw [n110,z2z (by omega) hs];simp only [z2d]
 have:=z4p (k:=k) (by omega) hs l1 l2 t ht hkt k 0 [] (by omega) (by omega) (by simp)
 rw [show encZ ([]:List Int)=[] from rfl] at this;simpa [whI] using this
theorem z4l {k:Nat} (hk:1000100<=k) {p:Prg} (hs:q0h p=true) (l1 l2:List PV) (t:List Nd) (ht:t.length<=100) (hkt:kindT p.wide p.vars t=2):∀ (n i:Nat) (o:List Int),nS p-i<n->i<=nS p->o.length<=i ->
  z5d k n (encT t) o.length (i:Int) p.wide p.vars l1 l2 (encZ o)=r124 (encZ (o++whN p t i (nS p-i)))
 | 0,i,o,h,hi,ho=>by omega
 | n+1,i,o,h,hi,ho=>by
  have hle:=q3e hs;rw [w62,x2c (by omega) hs];simp only [x0d];have etk:(encZ o).take o.length=encZ o:=by rw [List.take_of_length_le (by simp)]
  by_cases hlt:i<nS p
  ·have hd:decide ((i:Int)<(nS p:Int))=true:=by simpa using hlt
   have hin:inS p (i:Int):=⟨by omega,by omega⟩;obtain ⟨m,hm⟩:∃ m,nS p-i=m+1:=⟨nS p-i-1,by omega⟩;have hm2:nS p-(i+1)=m:=by omega
   rw [hd,x69 (by omega) hs l1 l2 hin];simp only [cond_true,x9v];rw [y7z (by omega) p (q1t hs) l1 l2 t ht hkt _ (q51 hs hin)];simp only [x9u];rw [q0g (by omega) (by omega),show (i:Int)+1=((i+1:Nat):Int) by omega,hm];simp only [whN]
   change (bif hN p t (i:Int) then _ else _)=_
   cases hh:hN p t (i:Int)
   ·simp only [cond_false,List.nil_append]
    have:=z4l hk hs l1 l2 t ht hkt n (i+1) o (by omega) (by omega) (by omega)
    rw [hm2] at this;exact this
   ·simp only [cond_true];rw [q0p (by omega) (by omega),etk,q00]
    have:=z4l hk hs l1 l2 t ht hkt n (i+1) (o++[(i:Int)]) (by omega) (by omega) (by simp;omega)
    rw [hm2,List.length_append,List.append_assoc] at this;exact this
  ·have hd:decide ((i:Int)<(nS p:Int))=false:=by simpa using hlt
   have h0:nS p-i=0:=by omega
   rw [hd,etk,h0];simp [whN]
theorem z0t {k:Nat} (hk:1000200<=k) {p:Prg} (hs:q0h p=true) (l1 l2:List PV) (t:List Nd) (ht:t.length<=100) (hkt:kindT p.wide p.vars t=2):c124 k p.wide p.vars l1 l2 (encT t)=r124 (encZ (whI p t)):=by
 obtain ⟨k,rfl⟩:=k01 (k:=k) (by omega);have hle:=q3e hs;rw [n124]
 have:=z4l (k:=k) (by omega) hs l1 l2 t ht hkt k 0 [] (by omega) (by omega) (by simp)
 rw [show encZ ([]:List Int)=[] from rfl] at this;simpa [whI] using this
def incG (b:Int):Option Int->List Int->Bool
 | _,[]=>true
 | pr,n::l=>decide (0<=n)&&decide (n<b)&&(match pr with | none=>true | some q=>decide (q<n))&&incG b (some n) l
def prI (l:List Int) (i:Nat):Option Int:=if i=0 then none else l[i-1]?
theorem w50 {b:Int} {l:List Int} {i:Nat} (h:i<l.length):incG b (prI l i) (l.drop i)=(decide (0<=l[i])&&decide (l[i]<b)&&(if i=0 then true else decide (l[i-1]!<l[i]))&&incG b (prI l (i+1)) (l.drop (i+1))):=by
 rw [q0c h];simp only [incG];have e:prI l (i+1)=some l[i]:=by simp [prI,h]
 rw [e];by_cases h0:i=0
 ·subst h0;simp [prI]
 ·have e2:prI l i=some l[i-1]!:=by
   rw [prI,if_neg h0,List.getElem?_eq_getElem (by omega),getElem!_pos l (i-1) (by omega)]
  rw [e2,if_neg h0]
theorem z7q {k:Nat} (hk:1<=k) (l:List Int) (hl:l.length<=100000) (b:Int):∀ (n i:Nat),l.length-i<n->i<=l.length->z5u k n (encZ l) 0 (b-1) (encZ l) (l.length:Int) (i:Int)=r193 (incG b (prI l i) (l.drop i))
 | 0,i,h,hi=>by omega
 | n+1,i,h,hi=>by
  rw [w74];by_cases hlt:i<l.length
  ·have hd:=k04 (i:=i) (l:=l) hlt;rw [hd,q0l hlt,w50 hlt];simp only [cond_true,Option.bind_some,q0d];have hnext:=k02 (i:=i) (by omega);have eb:decide (l[i]<=b-1)=decide (l[i]<b):=by
    rw [Bool.eq_iff_iff];simp;omega
   rw [hnext,q87 hk,eb];simp only [q74];cases hc:(decide (0<=l[i])&&decide (l[i]<b))
   ·rfl
   ·simp only [Bool.not_true,cond_false,Bool.true_and];by_cases h0:i=0
    ·have e5:decide ((i:Int)>0)=false:=by simp;omega
     rw [e5,if_pos h0];simp only [cond_false,Bool.true_and];exact z7q hk l hl b n (i+1) (by omega) (by omega)
    ·have e5:decide ((i:Int)>0)=true:=by simp;omega
     have e6:IntKind.i64.wrap ((i:Int)-1)=((i-1:Nat):Int):=by rw [q0g (by omega) (by omega)];omega
     rw [e5,if_neg h0,e6,q0l (l:=l) (i:=i-1) (by omega)];simp only [cond_true,Option.bind_some,q0d];rw [<- getElem!_pos l (i-1) (by omega)];by_cases h3:l[i-1]!>=l[i]
     ·have e7:decide (l[i-1]!>=l[i])=true:=decide_eq_true h3;have e8:decide (l[i-1]!<l[i])=false:=decide_eq_false (by omega);rw [e7,e8];rfl
     ·have e7:decide (l[i-1]!>=l[i])=false:=decide_eq_false h3;have e8:decide (l[i-1]!<l[i])=true:=decide_eq_true (by omega);rw [e7,e8];simp only [cond_false,Bool.true_and];exact z7q hk l hl b n (i+1) (by omega) (by omega)
  ·have hd:=k03 (i:=i) (l:=l) hlt;rw [hd,List.drop_eq_nil_of_le (by omega)];rfl
theorem w6k {k:Nat} (hk:100010<=k) (l:List Int) (hl:l.length<=100000) (b:Int):c193 k (encZ l) 0 (b-1)=r193 (incG b none l):=by
 obtain ⟨k,rfl⟩:=k01 (k:=k) (by omega);rw [n193,q0b];exact z7q (k:=k) (by omega) l hl b k 0 (by omega) (by omega)
theorem y0o {k:Nat} (hk:100010<=k) (a b:List Int) (ha:a.length<=100000) (hb:b.length<=100000):∀ (n i:Nat),a.length-i<n->i<=a.length->y2c k n (encZ b) (encZ a) (a.length:Int) (i:Int)=r123 ((a.drop i).all fun x=>b.contains x)
 | 0,i,h,hi=>by omega
 | n+1,i,h,hi=>by
  rw [w61];by_cases hlt:i<a.length
  ·have hd:=k04 (i:=i) (l:=a) hlt;have hnext:=k02 (i:=i) (by omega);rw [hd,q0l hlt,q0c hlt,hnext];simp only [cond_true,Option.bind_some,q0d];rw [z63 hk b hb];simp only [z6i,List.all_cons];cases b.contains a[i]
   ·rfl
   ·exact y0o hk a b ha hb n (i+1) (by omega) (by omega)
  ·have hd:=k03 (i:=i) (l:=a) hlt;rw [hd,List.drop_eq_nil_of_le (by omega)];rfl
theorem y87 {k:Nat} (hk:100020<=k) (a b:List Int) (ha:a.length<=100000) (hb:b.length<=100000):c123 k (encZ a) (encZ b)=r123 (a.all fun x=>b.contains x):=by
 obtain ⟨k,rfl⟩:=k01 (k:=k) (by omega);rw [n123,q0b];exact y0o (k:=k) (by omega) a b ha hb k 0 (by omega) (by omega)
theorem w0c {p:Prg} {t:List Nd} {l:List Int} (hl:∀ x∈l,inS p x):(l.all fun x=>(whI p t).contains x)=l.all (hN p t):=by
 induction l with
 | nil=>rfl
 | cons x l ih=>
  have h1:(whI p t).contains x=hN p t x:=by
   rw [Bool.eq_iff_iff,List.contains_iff_mem,q9m];simp [hl x (by simp)]
  simp only [List.all_cons,h1,ih fun y hy=>hl y (by simp [hy])]
theorem y0g {bs:List Nat} (hc:CodeOK bs) {k:Nat} (hk:2010<=k) (n1:Int):∀ (m n:Nat) (q:Int) (o:List Int) {at':Int} (s:W),q.toNat<=m->m<n->q<=100->o.length+m<=200->0<=at'->at'+2*m<=700000000 ->
  ∃ a2 s2 l,y2b k n n1 o.length q (encB bs) at' (wi s) (encZ o)=r121 (encB bs) a2 (wi s2) (encZ l) /\ at'<=a2 /\ a2<=at'+2*m+2 /\ l.length<=o.length+m+1
 | m,0,q,o,at',s,h1,h2,_,_,_,_=>by omega
 | m,n+1,q,o,at',s,h1,h2,h3,h4,h5,h6=>by
  rw [w60];have etk:(encZ o).take o.length=encZ o:=by rw [List.take_of_length_le (by simp)]
  rw [etk];by_cases hq:q>0
  ·have e1:decide (q>0)=true:=by simpa using hq
   obtain ⟨a2,s2,v,h,h7,h8,_⟩:=q1w hc (k:=k) (by omega) h5 (by omega) s n1;have hpl:=q7f o v;rw [e1,h];simp only [cond_true,q2s];rw [z33 (by omega) o (by omega)];simp only [y3g,q0b];rw [q0g (by omega) (by omega)];cases m with
   | zero=>omega
   | succ m=>
    obtain ⟨a3,s3,l,h,h9,h10,h11⟩:=y0g hc hk n1 m n (q-1) (putI o v) (at':=a2) s2 (by omega) (by omega) (by omega) (by omega) (by omega) (by omega);exact ⟨a3,s3,l,h,by omega,by omega,by omega⟩
  ·have e1:decide (q>0)=false:=by simpa using hq
   obtain ⟨a2,s2,b,h,h7,h8⟩:=q3r hc (k:=k) (by omega) h5 (by omega) s 40;rw [e1,h];simp only [cond_false,q3n];cases b
   ·exact ⟨a2,s2,o,rfl,by omega,by omega,by omega⟩
   ·rw [q0p (by omega) (by omega),q00,List.take_of_length_le (by simp)];exact ⟨a2,s2,o++[n1],rfl,by omega,by omega,by simp⟩
theorem w18 {bs:List Nat} (hc:CodeOK bs) {k:Nat} (hk:2100<=k) (n1 m1:Int) (hm0:0<=m1) (hm:m1<=50) {at':Int} (h0:0<=at') (h1:at'<=600000000) (s:W) :
  ∃ a2 s2 l,c121 k n1 m1 (encB bs) at' (wi s)=r121 (encB bs) a2 (wi s2) (encZ l) /\ at'<=a2 /\ a2<=at'+200 /\ l.length<=60:=by
 obtain ⟨k,rfl⟩:=k01 (k:=k) (by omega);rw [n121,q0g (by omega) (by omega)];obtain ⟨a2,s2,v,h,h2,h3,h4,h5,_⟩:=q1w hc (k:=k) (by omega) h0 (by omega) s (m1+1);have h5:=h5 (by omega);rw [h];simp only [q2s];obtain ⟨a3,s3,l,h,h6,h7,h8⟩:=y0g hc (k:=k) (by omega) n1 51 k v [] (at':=a2) s2 (by omega) (by omega) (by omega) (by simp) (by omega) (by omega);exact ⟨a3,s3,l,h,by omega,by omega,by simp at h8;omega⟩
def allC (p:Prg) (ts:List (List Nd)):Bool:=ts.all fun t=>kindT p.wide p.vars t==2
theorem q65 {p:Prg} {ts:List (List Nd)} (h:allC p ts=true):∀ t∈ts,kindT p.wide p.vars t=2:=by simpa [allC] using h
theorem y8a {k:Nat} (w1 v1:Int) (l1 l2:List PV) (f:List Nd->Bool) (l:List (List Nd)) (hl:l.length<=100000) (hc:∀ x∈l,c155 k (encT x) w1 v1 l1 l2=r155 (f x)):∀ (n i:Nat),l.length-i<n->i<=l.length->q8y k n (q0i l) w1 v1 l1 l2 (l.length:Int) (i:Int)=z0k (fixI f i (l.drop i))
 | 0,i,h,hi=>by omega
 | n+1,i,h,hi=>by
  rw [x5c];by_cases hlt:i<l.length
  ·have hd:=k04 (i:=i) (l:=l) hlt;have hnext:=k02 (i:=i) (by omega);rw [hd,q0n,q1l,List.getElem?_eq_getElem hlt,q0c hlt,hnext];simp only [cond_true,Option.map_some,Option.bind_some,q0u];rw [hc _ (List.getElem_mem hlt)];simp only [w9v,fixI];cases f l[i]
   ·exact y8a w1 v1 l1 l2 f l hl hc n (i+1) (by omega) (by omega)
   ·rfl
  ·have hd:=k03 (i:=i) (l:=l) hlt;rw [hd,List.drop_eq_nil_of_le (by omega)];rfl
theorem w37 {k:Nat} (hk:100010<=k) (w1 v1:Int) (l1 l2:List PV) (f:List Nd->Bool) (l:List (List Nd)) (hl:l.length<=100000) (hc:∀ x∈l,c155 k (encT x) w1 v1 l1 l2=r155 (f x)):y06 (k+1) (q0i l) w1 v1 l1 l2=z0k (fixI f 0 l):=by
 rw [w3z,q05];exact y8a (k:=k) w1 v1 l1 l2 f l hl hc k 0 (by omega) (by omega)
theorem w6c {k:Nat} (hk:100010<=k) (w1 v1:Int) (l1 l2:List PV) (f:List Nd->Bool) (l:List (List Nd)) (hl:l.length<=100000) (hc:∀ x∈l,c155 k (encT x) w1 v1 l1 l2=r155 (f x)):y01 (k+2) (q0i l) w1 v1 l1 l2=y1w (l.any f):=by
 rw [w3s,w37 (by omega) w1 v1 l1 l2 f l hl hc];simp only [x33,q7a]
theorem z9a {α:Type} (f:α->Bool):∀ l:List α,(l.any fun x=>!f x)=!l.all f
 | []=>rfl
 | x::l=>by simp [z9a f l]
def q2r (p:Prg) (ts:List (List Nd)):Bool:=decide (ts.length<=8)&&allC p ts
theorem z9b {k:Nat} (hk:1000400<=k) (p:Prg) (l1 l2:List PV) (ts:List (List Nd)) (hl:ts.length<=1000) (ht:∀ t∈ts,t.length<=100):c74 k p.wide p.vars l1 l2 (q0i ts) 0=r74 (q2r p ts):=by
 obtain ⟨k,rfl⟩:∃ j,k=j+4:=⟨k-4,by omega⟩;have e0:decide ((ts.length:Int)>=0)=true:=by simp
 rw [n74,q05,e0];unfold q2r;by_cases h8:ts.length<=8
 ·have e1:decide ((ts.length:Int)<=8)=true:=by simp;omega
  have e2:decide (ts.length<=8)=true:=by simpa using h8
  rw [e1,e2,w6c (k:=k+1) (by omega) p.wide p.vars _ _ (fun t=>!(kindT p.wide p.vars t==2)) ts (by omega) (fun t h=>by
   rw [n155,q9h (by omega) _ _ _ _ t (by have:=ht t h;omega)];simp only [z2e])]
  simp only [x30,z9a,cond_true,Bool.not_not,Bool.true_and];rfl
 ·have e1:decide ((ts.length:Int)<=8)=false:=by simp;omega
  have e2:decide (ts.length<=8)=false:=by simpa using h8
  rw [e1,e2];rfl
theorem y44 {k:Nat} (hk:1000300<=k) (p:Prg) (l1 l2:List PV) (ts:List (List Nd)) (hl:ts.length<=1000) (ht:∀ t∈ts,t.length<=100):∀ (n i:Nat),ts.length-i<n->i<=ts.length ->
  y9v k n (q0i ts) (ts.length:Int) (i:Int) p.wide p.vars l1 l2=r76 (allC p (ts.drop i))
 | 0,i,h,hi=>by omega
 | n+1,i,h,hi=>by
  rw [v3i];by_cases hlt:i<ts.length
  ·have hd:=k04 (i:=i) (l:=ts) hlt;have hnext:=k02 (i:=i) (by omega);have hm:=List.getElem_mem hlt;rw [hd,q0n,q1l,List.getElem?_eq_getElem hlt,q0c hlt,hnext];simp only [cond_true,Option.map_some,Option.bind_some,q0u];rw [z2i (by omega) _ _ _ _ _ (by have:=ht _ hm;omega)];simp only [z6h,allC,List.all_cons];cases hk2:(kindT p.wide p.vars ts[i]==2)
   ·rfl
   ·exact y44 hk p l1 l2 ts hl ht n (i+1) (by omega) (by omega)
  ·have hd:=k03 (i:=i) (l:=ts) hlt;rw [hd,List.drop_eq_nil_of_le (by omega)];rfl
theorem z9t {k:Nat} (hk:1000400<=k) (p:Prg) (l1 l2:List PV) (ts:List (List Nd)) (hl:ts.length<=1000) (ht:∀ t∈ts,t.length<=100):c76 k p.wide p.vars l1 l2 (q0i ts)=r76 (q2r p ts):=by
 obtain ⟨k,rfl⟩:=k01 (k:=k) (by omega);rw [n76,q05];unfold q2r;by_cases h8:ts.length<=8
 ·have e1:decide ((ts.length:Int)>8)=false:=by simp;omega
  have e2:decide (ts.length<=8)=true:=by simpa using h8
  rw [e1,e2];simp only [cond_false,Bool.true_and];exact y44 (k:=k) (by omega) p l1 l2 ts hl ht k 0 (by omega) (by omega)
 ·have e1:decide ((ts.length:Int)>8)=true:=by simp;omega
  have e2:decide (ts.length<=8)=false:=by simpa using h8
  rw [e1,e2];rfl
theorem z97 {bs:List Nat} (hc:CodeOK bs) {k:Nat} (hk:2010<=k) {wide vars:Int} (hw:wide<=64) (hv:vars<=100) (l1 l2:List PV):∀ (m n:Nat) (q:Int) (o:List (List Nd)) {at':Int} (s:W),q.toNat<=m->m<n->q<=100->o.length+m<=200->(∀ t∈o,t.length<=100)->0<=at'->at'+600*m<=590000000 ->
  ∃ a2 s2 l,y9u k n o.length q (encB bs) at' (wi s) wide vars l1 l2 (q0i o)=r72 (encB bs) a2 (wi s2) (q0i l) /\ at'<=a2 /\ a2<=at'+600*m /\ l.length<=o.length+m /\ ∀ t∈l,t.length<=100
 | m,0,q,o,at',s,h1,h2,_,_,_,_,_=>by omega
 | m,n+1,q,o,at',s,h1,h2,h3,h4,ho,h5,h6=>by
  rw [v3h];have etk:(q0i o).take o.length=q0i o:=by rw [List.take_of_length_le (by simp)]
  rw [etk];by_cases hq:q>0
  ·have e1:decide (q>0)=true:=by simpa using hq
   have hon:∀ n:Int,1<=one1 n /\ (n<=64->one1 n<=64) /\ (n<=100->one1 n<=100):=by intro n;unfold one1;split <;> omega
   rw [e1,q92 (by omega),q92 (by omega)];simp only [cond_true,x0f];obtain ⟨a2,s2,v,h,h7,h8,h9,h10,_⟩:=q1w hc (k:=k) (by omega) h5 (by omega) s 2;have h10:=h10 (by omega);rw [h];simp only [q2s];cases m with
   | zero=>omega
   | succ m=>
    obtain ⟨a3,s3,t,h,h11,h12,h13,h14⟩:=z0y hc (wide:=one1 wide) (vars:=one1 vars) (by have:=hon wide;omega) ((hon wide).2.1 hw) (hon vars).1 ((hon vars).2.2 hv) (d:=v) (by omega) (by omega) (k:=k) (by omega) (at':=a2) (by omega) (by omega) s2;rw [h];simp only [q9s,q07];have e3:(encT t).take t.length=encT t:=by rw [List.take_of_length_le (by simp)]
    rw [q0p (by omega) (by omega),q0g (by omega) (by omega),e3,q6t]
    have:=z97 hc hk hw hv l1 l2 m n (q-1) (o++[t]) (at':=a3) s3 (by omega) (by omega) (by omega) (by simp;omega) (fun u hu=>by
     rcases List.mem_append.1 hu with hu | hu
     ·exact ho u hu
     ·rw [List.mem_singleton.1 hu];omega) (by omega) (by omega)
    rw [List.length_append] at this;obtain ⟨a4,s4,l,h,h15,h16,h17,h18⟩:=this;exact ⟨a4,s4,l,h,by omega,by omega,by simp at h17;omega,h18⟩
  ·have e1:decide (q>0)=false:=by simpa using hq
   rw [e1];exact ⟨at',s,o,rfl,by omega,by omega,by omega,ho⟩
theorem x2z {bs:List Nat} (hc:CodeOK bs) {k:Nat} (hk:2100<=k) {wide vars:Int} (hw:wide<=64) (hv:vars<=100) (l1 l2:List PV) (m1:Int) (hm0:0<=m1) (hm:m1<=50) {at':Int} (h0:0<=at') (h1:at'<=500000000) (s:W) :
  ∃ a2 s2 l,c72 k wide vars l1 l2 m1 (encB bs) at' (wi s)=r72 (encB bs) a2 (wi s2) (q0i l) /\ at'<=a2 /\ a2<=at'+40000 /\ l.length<=60 /\ ∀ t∈l,t.length<=100:=by
 obtain ⟨k,rfl⟩:=k01 (k:=k) (by omega);rw [n72,q0g (by omega) (by omega)];obtain ⟨a2,s2,v,h,h2,h3,h4,h5,_⟩:=q1w hc (k:=k) (by omega) h0 (by omega) s (m1+1);have h5:=h5 (by omega);rw [h];simp only [q2s];obtain ⟨a3,s3,l,h,h6,h7,h8,h9⟩:=z97 hc (k:=k) (by omega) hw hv l1 l2 51 k v [] (at':=a2) s2 (by omega) (by omega) (by omega) (by simp) (by simp) (by omega) (by omega);exact ⟨a3,s3,l,h,by omega,by omega,by simp at h8;omega,h9⟩
theorem q57 {wide vars:Int} {t:List Nd} (h:kindT wide vars t=2):t.length<=48 /\ q1c wide vars t=true:=by
 have hg:=q4l (by omega:kindT wide vars t>0);have hs:=(q4k.1 hg).1;simp only [q42,Bool.and_eq_true,decide_eq_true_eq] at hs;exact ⟨hs.2,hg⟩
end Go.Proofs.YtgdegfijcijnoaaGreat
