/- The law FnCut of the program: for all arguments it returns true,and its arguments read as they did. -/
import Derived.Test.YtgdegfijcijnoaaGreatM4
import Derived.Test.YtgdegfijcijnoaaGreatM2
import Derived.Test.YtgdegfijcijnoaaGreatM3
import Derived.Test.YtgdegfijcijnoaaGreatRows
import Derived.WalkKit
import Derived.ProofKit
import Derived.OpenShut
import Derived.ShutString
import Derived.ChangeOld
import Derived.Below
import Derived.SizedLaws
set_option linter.all false
set_option maxRecDepth 100000
/- Lists of conditions: checked and drawn. -/
namespace Go.Proofs.YtgdegfijcijnoaaGreat
open Go.Dp
def allC (p:Prg) (ts:List (List Nd)):Bool:=ts.all fun t=>kindT p.wide p.vars t == 2
theorem q5s {p:Prg} {ts:List (List Nd)} (h:allC p ts = true):∀ t ∈ ts,kindT p.wide p.vars t = 2:=by simpa [allC] using h
theorem y35 {k:Nat} (w1 v1:Int) (l1 l2:List PV) (f:List Nd->Bool) (l:List (List Nd)) (hl:l.length<=100000) (hc:∀ x ∈ l,c155 k (encT x) w1 v1 l1 l2 = r155 (f x)):∀ (n i:Nat),l.length - i < n->i<=l.length->q7y k n (q0h l) w1 v1 l1 l2 (l.length:Int) (i:Int) = q85 (fixI f i (l.drop i))
 | 0,i,h,hi=>by omega
 | n + 1,i,h,hi=>by
  rw [y9e]
  by_cases hlt:i < l.length
  ·have hd:decide ((i:Int) < (l.length:Int)) = true:=by simpa using hlt
   have hnext:IntKind.i64.wrap ((i:Int) + 1) = ((i + 1:Nat):Int):=by rw [q0b (by omega) (by omega)];omega
   rw [hd,q0o,q1o,List.getElem?_eq_getElem hlt,q0f hlt,hnext]
   simp only [cond_true,Option.map_some,Option.bind_some,q09]
   rw [hc _ (List.getElem_mem hlt)]
   simp only [w4c,fixI]
   cases f l[i]
   ·exact y35 w1 v1 l1 l2 f l hl hc n (i + 1) (by omega) (by omega)
   ·rfl
  ·have hd:decide ((i:Int) < (l.length:Int)) = false:=by simpa using hlt
   rw [hd,List.drop_eq_nil_of_le (by omega)]
   rfl
theorem x6z {k:Nat} (hk:100010<=k) (w1 v1:Int) (l1 l2:List PV) (f:List Nd->Bool) (l:List (List Nd)) (hl:l.length<=100000) (hc:∀ x ∈ l,c155 k (encT x) w1 v1 l1 l2 = r155 (f x)):z8q (k + 1) (q0h l) w1 v1 l1 l2 = q85 (fixI f 0 l):=by
 rw [x6t,q05]
 exact y35 (k:=k) w1 v1 l1 l2 f l hl hc k 0 (by omega) (by omega)
theorem w1l {k:Nat} (hk:100010<=k) (w1 v1:Int) (l1 l2:List PV) (f:List Nd->Bool) (l:List (List Nd)) (hl:l.length<=100000) (hc:∀ x ∈ l,c155 k (encT x) w1 v1 l1 l2 = r155 (f x)):z8c (k + 2) (q0h l) w1 v1 l1 l2 = z8f (l.any f):=by
 rw [x6u,x6z (by omega) w1 v1 l1 l2 f l hl hc]
 simp only [y91,q8b]
theorem z7e {α:Type} (f:α->Bool):∀ l:List α,(l.any fun x=>!f x) = !l.all f
 | []=>rfl
 | x :: l=>by simp [z7e f l]
def q2o (p:Prg) (ts:List (List Nd)):Bool:=decide (ts.length<=8) && allC p ts
theorem z66 {k:Nat} (hk:1000400<=k) (p:Prg) (l1 l2:List PV) (ts:List (List Nd)) (hl:ts.length<=1000) (ht:∀ t ∈ ts,t.length<=100):c74 k p.wide p.vars l1 l2 (q0h ts) 0 = r74 (q2o p ts):=by
 obtain ⟨k,rfl⟩:∃ j,k = j + 4:=⟨k - 4,by omega⟩
 have e0:decide ((ts.length:Int)>=0) = true:=by simp
 rw [n74,q05,e0]
 unfold q2o
 by_cases h8:ts.length<=8
 ·have e1:decide ((ts.length:Int)<=8) = true:=by simp;omega
  have e2:decide (ts.length<=8) = true:=by simpa using h8
  rw [e1,e2,w1l (k:=k + 1) (by omega) p.wide p.vars _ _ (fun t=>!(kindT p.wide p.vars t == 2)) ts (by omega) (fun t h=>by
   rw [n155,y2n (by omega) _ _ _ _ t (by have:=ht t h;omega)]
   simp only [y7n])]
  simp only [y9v,z7e,cond_true,Bool.not_not,Bool.true_and]
  rfl
 ·have e1:decide ((ts.length:Int)<=8) = false:=by simp;omega
  have e2:decide (ts.length<=8) = false:=by simpa using h8
  rw [e1,e2]
  rfl
theorem z98 {k:Nat} (hk:1000300<=k) (p:Prg) (l1 l2:List PV) (ts:List (List Nd)) (hl:ts.length<=1000) (ht:∀ t ∈ ts,t.length<=100):∀ (n i:Nat),ts.length - i < n->i<=ts.length ->
  y5h k n (q0h ts) (ts.length:Int) (i:Int) p.wide p.vars l1 l2 = r76 (allC p (ts.drop i))
 | 0,i,h,hi=>by omega
 | n + 1,i,h,hi=>by
  rw [w2l]
  by_cases hlt:i < ts.length
  ·have hd:decide ((i:Int) < (ts.length:Int)) = true:=by simpa using hlt
   have hnext:IntKind.i64.wrap ((i:Int) + 1) = ((i + 1:Nat):Int):=by rw [q0b (by omega) (by omega)];omega
   have hm:=List.getElem_mem hlt
   rw [hd,q0o,q1o,List.getElem?_eq_getElem hlt,q0f hlt,hnext]
   simp only [cond_true,Option.map_some,Option.bind_some,q09]
   rw [y1x (by omega) _ _ _ _ _ (by have:=ht _ hm;omega)]
   simp only [y53,allC,List.all_cons]
   cases hk2:(kindT p.wide p.vars ts[i] == 2)
   ·rfl
   ·exact z98 hk p l1 l2 ts hl ht n (i + 1) (by omega) (by omega)
  ·have hd:decide ((i:Int) < (ts.length:Int)) = false:=by simpa using hlt
   rw [hd,List.drop_eq_nil_of_le (by omega)]
   rfl
theorem z6n {k:Nat} (hk:1000400<=k) (p:Prg) (l1 l2:List PV) (ts:List (List Nd)) (hl:ts.length<=1000) (ht:∀ t ∈ ts,t.length<=100):c76 k p.wide p.vars l1 l2 (q0h ts) = r76 (q2o p ts):=by
 obtain ⟨k,rfl⟩:∃ j,k = j + 1:=⟨k - 1,by omega⟩
 rw [n76,q05]
 unfold q2o
 by_cases h8:ts.length<=8
 ·have e1:decide ((ts.length:Int) > 8) = false:=by simp;omega
  have e2:decide (ts.length<=8) = true:=by simpa using h8
  rw [e1,e2]
  simp only [cond_false,Bool.true_and]
  exact z98 (k:=k) (by omega) p l1 l2 ts hl ht k 0 (by omega) (by omega)
 ·have e1:decide ((ts.length:Int) > 8) = true:=by simp;omega
  have e2:decide (ts.length<=8) = false:=by simpa using h8
  rw [e1,e2]
  rfl
theorem z61 {bs:List Nat} (hc:CodeOK bs) {k:Nat} (hk:2010<=k) {wide vars:Int} (hw:wide<=64) (hv:vars<=100) (l1 l2:List PV):∀ (m n:Nat) (q:Int) (o:List (List Nd)) {at':Int} (s:W),q.toNat<=m->m < n->q<=100->o.length + m<=200->(∀ t ∈ o,t.length<=100)->0<=at'->at' + 600 * m<=590000000 ->
  ∃ a2 s2 l,y5s k n o.length q (encB bs) at' (wi s) wide vars l1 l2 (q0h o) = r72 (encB bs) a2 (wi s2) (q0h l) /\ at'<=a2 /\ a2<=at' + 600 * m /\ l.length<=o.length + m /\ ∀ t ∈ l,t.length<=100
 | m,0,q,o,at',s,h1,h2,_,_,_,_,_=>by omega
 | m,n + 1,q,o,at',s,h1,h2,h3,h4,ho,h5,h6=>by
  rw [w4]
  have etk:(q0h o).take o.length = q0h o:=by rw [List.take_of_length_le (by simp)]
  rw [etk]
  by_cases hq:q > 0
  ·have e1:decide (q > 0) = true:=by simpa using hq
   have hon:∀ n:Int,1<=one1 n /\ (n<=64->one1 n<=64) /\ (n<=100->one1 n<=100):=by intro n;unfold one1;split <;> omega
   rw [e1,y6b (by omega),y6b (by omega)]
   simp only [cond_true,w2j]
   obtain ⟨a2,s2,v,h,h7,h8,h9,h10,_⟩:=q1k hc (k:=k) (by omega) h5 (by omega) s 2
   have h10:=h10 (by omega)
   rw [h]
   simp only [q16]
   cases m with
   | zero=>omega
   | succ m =>
    obtain ⟨a3,s3,t,h,h11,h12,h13,h14⟩:=z4c hc (wide:=one1 wide) (vars:=one1 vars) (by have:=hon wide;omega) ((hon wide).2.1 hw) (hon vars).1 ((hon vars).2.2 hv) (d:=v) (by omega) (by omega) (k:=k) (by omega) (at':=a2) (by omega) (by omega) s2
    rw [h]
    simp only [z1a,q06]
    have e3:(encT t).take t.length = encT t:=by rw [List.take_of_length_le (by simp)]
    rw [q0r (by omega) (by omega),q0b (by omega) (by omega),e3,q6f]
    have:=z61 hc hk hw hv l1 l2 m n (q - 1) (o ++ [t]) (at':=a3) s3 (by omega) (by omega) (by omega) (by simp;omega) (fun u hu=>by
     rcases List.mem_append.1 hu with hu | hu
     ·exact ho u hu
     ·rw [List.mem_singleton.1 hu];omega) (by omega) (by omega)
    rw [List.length_append] at this
    obtain ⟨a4,s4,l,h,h15,h16,h17,h18⟩:=this
    exact ⟨a4,s4,l,h,by omega,by omega,by simp at h17;omega,h18⟩
  ·have e1:decide (q > 0) = false:=by simpa using hq
   rw [e1]
   exact ⟨at',s,o,rfl,by omega,by omega,by omega,ho⟩
theorem y8k {bs:List Nat} (hc:CodeOK bs) {k:Nat} (hk:2100<=k) {wide vars:Int} (hw:wide<=64) (hv:vars<=100) (l1 l2:List PV) (m1:Int) (hm0:0<=m1) (hm:m1<=50) {at':Int} (h0:0<=at') (h1:at'<=500000000) (s:W) :
  ∃ a2 s2 l,c72 k wide vars l1 l2 m1 (encB bs) at' (wi s) = r72 (encB bs) a2 (wi s2) (q0h l) /\ at'<=a2 /\ a2<=at' + 40000 /\ l.length<=60 /\ ∀ t ∈ l,t.length<=100:=by
 obtain ⟨k,rfl⟩:∃ j,k = j + 1:=⟨k - 1,by omega⟩
 rw [n72,q0b (by omega) (by omega)]
 obtain ⟨a2,s2,v,h,h2,h3,h4,h5,_⟩:=q1k hc (k:=k) (by omega) h0 (by omega) s (m1 + 1)
 have h5:=h5 (by omega)
 rw [h]
 simp only [q16]
 obtain ⟨a3,s3,l,h,h6,h7,h8,h9⟩:=z61 hc (k:=k) (by omega) hw hv l1 l2 51 k v [] (at':=a2) s2 (by omega) (by omega) (by omega) (by simp) (by simp) (by omega) (by omega)
 exact ⟨a3,s3,l,h,by omega,by omega,by simp at h8;omega,h9⟩
theorem q5o {wide vars:Int} {t:List Nd} (h:kindT wide vars t = 2):t.length<=48 /\ q1a wide vars t = true:=by
 have hg:=q34 (by omega:kindT wide vars t > 0)
 have hs:=(q37.1 hg).1
 simp only [q4j,Bool.and_eq_true,decide_eq_true_eq] at hs
 exact ⟨hs.2,hg⟩
end Go.Proofs.YtgdegfijcijnoaaGreat
/- The program's sights: walked through. -/
namespace Go.Proofs.YtgdegfijcijnoaaGreat
open Go.Dp
theorem z2x {k:Nat} (a b:List (Int)) (hl:a.length = b.length) (ha:a.length<=1000000):∀ (n i:Nat),a.length - i < n->i<=a.length->y5c k n (encZ a) (encZ b) (a.length:Int) (i:Int) = r15 (decide (a.drop i = b.drop i))
 | 0,i,h,hi=>by omega
 | n + 1,i,h,hi=>by
  rw [w4o]
  by_cases hlt:i < a.length
  ·have hd:decide ((i:Int) < (a.length:Int)) = true:=by simpa using hlt
   have hnext:IntKind.i64.wrap ((i:Int) + 1) = ((i + 1:Nat):Int):=by rw [q0b (by omega) (by omega)];omega
   rw [hd,q0l hlt,q0l (l:=b) (i:=i) (by omega),q0f hlt,q0f (l:=b) (by omega),hnext]
   simp only [cond_true,Option.bind_some,q0k,List.cons.injEq,Bool.decide_and]
   by_cases he:a[i] = b[i]
   ·have e1:(a[i] != b[i]) = false:=by simp [he]
    have e2:decide (a[i] = b[i]) = true:=by simpa using he
    rw [e1,e2]
    simp only [cond_false,Bool.true_and]
    exact z2x a b hl ha n (i + 1) (by omega) (by omega)
   ·have e1:(a[i] != b[i]) = true:=by
     simpa using he
    have e2:decide (a[i] = b[i]) = false:=by simpa using he
    rw [e1,e2];rfl
  ·have hd:decide ((i:Int) < (a.length:Int)) = false:=by simpa using hlt
   rw [hd,List.drop_eq_nil_of_le (by omega),List.drop_eq_nil_of_le (by omega)]
   rfl
theorem z6x {k:Nat} (hk:1000010<=k) (a b:List (Int)) (ha:a.length<=1000000):c15 k (encZ a) (encZ b) = r15 (decide (a = b)):=by
 obtain ⟨k,rfl⟩:∃ j,k = j + 1:=⟨k - 1,by omega⟩
 rw [n15,q0d,q0d]
 by_cases hl:a.length = b.length
 ·have e:((a.length:Int) != (b.length:Int)) = false:=by simp [hl]
  rw [e]
  exact z2x (k:=k) a b hl ha k 0 (by omega) (by omega)
 ·have e:((a.length:Int) != (b.length:Int)) = true:=by simp;omega
  have e2:decide (a = b) = false:=by simp;intro h;exact hl (by rw [h])
  rw [e,e2];rfl
structure OkV (v:List Int):Prop where
 len:v.length<=100
 rng:∀ x ∈ v,0<=x /\ x<=100
theorem y32 (l:List Int) (K0:List PV->R):x2i (r166 (encZ l)) K0 = K0 (encZ l):=by
 have h:([SV.agg [.own 3 0 (encZ l)]].all q04 && true) = true:=by simp [q04,q1u,q3n];rfl
 show (bif ([SV.agg [.own 3 0 (encZ l)]].all q04 && true) then K0 (encZ l) else none) = _
 rw [h]
 rfl
theorem z17 {k:Nat} (v:List Int) (hv:v.length<=1000) (st:Int):∀ (n i m:Nat),v.length - i < n->i<=v.length->m<=i ->
  z0f k n st (m:Int) (encZ v) (v.length:Int) (i:Int) (encZ v) = r165 (q1j (v.drop i) (m:Int) && ((v.length:Int) == st))
 | 0,i,m,h,hi,hm=>by omega
 | n + 1,i,m,h,hi,hm=>by
  rw [w15]
  by_cases hlt:i < v.length
  ·have hd:decide ((i:Int) < (v.length:Int)) = true:=by simpa using hlt
   have hnext:IntKind.i64.wrap ((i:Int) + 1) = ((i + 1:Nat):Int):=by rw [q0b (by omega) (by omega)];omega
   rw [hd,q0l hlt,q0f hlt,hnext]
   simp only [cond_true,Option.bind_some,q0k,q1j]
   by_cases h0:v[i] < 0
   ·have e1:decide (v[i] < 0) = true:=by simpa using h0
    have e2:decide (0<=v[i]) = false:=by simpa using h0
    rw [e1,e2];rfl
   ·have e1:decide (v[i] < 0) = false:=by simpa using h0
    have e2:decide (0<=v[i]) = true:=decide_eq_true (by omega)
    rw [e1,e2]
    simp only [cond_false,Bool.true_and]
    by_cases h1:v[i] > (m:Int)
    ·have e3:decide (v[i] > (m:Int)) = true:=by simpa using h1
     have e4:decide (v[i]<=(m:Int)) = false:=decide_eq_false (by omega)
     rw [e3,e4];rfl
    ·have e3:decide (v[i] > (m:Int)) = false:=by simpa using h1
     have e4:decide (v[i]<=(m:Int)) = true:=decide_eq_true (by omega)
     rw [e3,e4]
     simp only [cond_false,Bool.true_and]
     have hm2:IntKind.i64.wrap ((m:Int) + 1) = ((m + 1:Nat):Int):=by rw [q0b (by omega) (by omega)];omega
     have hm3:((m:Int) + 1) = ((m + 1:Nat):Int):=by omega
     rw [hm2,hm3]
     cases (v[i] == (m:Int))
     ·exact z17 v hv st n (i + 1) m (by omega) (by omega) (by omega)
     ·exact z17 v hv st n (i + 1) (m + 1) (by omega) (by omega) (by omega)
  ·have hd:decide ((i:Int) < (v.length:Int)) = false:=by simpa using hlt
   rw [hd,List.drop_eq_nil_of_le (by omega),q0d]
   rfl
def gsB (p:Prg) (v:List Int):Bool:=q0j p && (q1j v 0 && ((v.length:Int) == (nS p:Int)))
theorem q3f {k:Nat} (hk:1000300<=k) (p:Prg) (hp:FitP p) (v:List Int) (hv:v.length<=1000):c81 k p.wide p.vars (encT p.start) (q0c p.cmds) (encZ v) = r81 (gsB p v):=by
 obtain ⟨k,rfl⟩:∃ j,k = j + 2:=⟨k - 2,by omega⟩
 rw [n81,z9m (by omega) p hp]
 simp only [x42,gsB]
 cases hs:q0j p
 ·rfl
 ·simp only [cond_true,Bool.true_and]
  rw [z4o (by omega) hs]
  simp only [z3x]
  rw [n165,q0d]
  have:=z17 (k:=k) v hv (nS p:Int) k 0 0 (by omega) (by omega) (by omega)
  have h':z0f k k (nS p:Int) 0 (encZ v) (v.length:Int) 0 (encZ v) = _:=this
  rw [h']
  simp only [w4x]
  rfl
theorem w5z {x y:Int} (hx:0<=x /\ x<=1000) (hy:0<=y /\ y<=1000):wf2B (x,y) = true:=by
 have h:∀ z:Int,0<=z /\ z<=1000->(Lit.int .i64 z).wf = true:=by
  intro z hz
  have h1:IntKind.i64.min = -9223372036854775808:=rfl
  have h2:IntKind.i64.max = 9223372036854775807:=rfl
  simp only [Lit.wf,h1,h2,Bool.and_eq_true,decide_eq_true_eq]
  omega
 simp only [wf2B,Bool.and_eq_true]
 exact ⟨h x hx,h y hy⟩
theorem z91 {k:Nat} (hk:1<=k) (a b:List Int) (hl:a.length = b.length) (ha:a.length<=1000) (hwf:(a.zip b).all wf2B = true):∀ (n i:Nat),a.length - i < n->i<=a.length ->
  y5r k n i (encZ a) (a.length:Int) (i:Int) (encZ b) [] (((a.zip b).take i).map q1m) = r83 (encZ (cls (a.zip b) []))
 | 0,i,h,hi=>by omega
 | n + 1,i,h,hi=>by
  rw [w5j]
  have hz:(a.zip b).length = a.length:=by simp;omega
  have etk:(((a.zip b).take i).map q1m).take i = ((a.zip b).take i).map q1m:=by rw [List.take_of_length_le (by simp;omega)]
  by_cases hlt:i < a.length
  ·have hd:decide ((i:Int) < (a.length:Int)) = true:=by simpa using hlt
   have hnext:IntKind.i64.wrap ((i:Int) + 1) = ((i + 1:Nat):Int):=by rw [q0b (by omega) (by omega)];omega
   have hap:((a.zip b).take i).map q1m ++ [PV.agg [.int .i64 a[i],.int .i64 b[i]]] = ((a.zip b).take (i + 1)).map q1m:=by
    rw [List.take_succ_eq_append_getElem (by omega),List.map_append]
    simp [q1m]
   rw [hd,q0l hlt,q0l (l:=b) (i:=i) (by omega),hnext]
   simp only [cond_true,Option.bind_some,q0k]
   rw [q0r (by omega) (by omega),etk,hap]
   exact z91 hk a b hl ha hwf n (i + 1) (by omega) (by omega)
  ·have hd:decide ((i:Int) < (a.length:Int)) = false:=by simpa using hlt
   obtain ⟨k,rfl⟩:∃ j,k = j + 1:=⟨k - 1,by omega⟩
   have hfull:(a.zip b).take i = a.zip b:=List.take_of_length_le (by omega)
   rw [hd,etk,hfull,n166 k _ (by omega) hwf,y7v]
   have h':r166 ((cls (a.zip b) []).map (PV.int .i64)) = r166 (encZ (cls (a.zip b) [])):=rfl
   rw [h',y32,List.take_of_length_le (by simp)]
   rfl
theorem w5d {a b:List Int} (ha:OkV a) (hb:OkV b):(a.zip b).all wf2B = true:=by
 rw [List.all_eq_true]
 rintro ⟨x,y⟩ h
 have h1:=ha.rng x (List.of_mem_zip h).1
 have h2:=hb.rng y (List.of_mem_zip h).2
 exact w5z ⟨h1.1,by omega⟩ ⟨h2.1,by omega⟩
theorem z8i {k:Nat} (hk:1010<=k) {a b:List Int} (ha:OkV a) (hb:OkV b) (hl:a.length = b.length):c83 k (encZ a) (encZ b) = r83 (encZ (cls (a.zip b) [])):=by
 obtain ⟨k,rfl⟩:∃ j,k = j + 1:=⟨k - 1,by omega⟩
 have:=ha.len
 rw [n83,q0d]
 exact z91 (k:=k) (by omega) a b hl (by omega) (w5d ha hb) k 0 (by omega) (by omega)
def bitI (p:Prg) (t:List Nd) (no:Int):Int:=bif hN p t no then 1 else 0
def q3x (p:Prg) (t:List Nd):List Int:=(iota (nS p)).map (bitI p t)
def q3q (p:Prg) (t:List Nd):List (Int × Int):=(q3x p t).map fun b=>(b,0)
theorem z1c (p:Prg) (t:List Nd) (no:Int):bitI p t no = 0 ∨ bitI p t no = 1:=by
 unfold bitI
 cases hN p t no
 · exact .inl rfl
 · exact .inr rfl
theorem x5 {k:Nat} (hk:1000010<=k) {p:Prg} (hs:q0j p = true) (t:List Nd) (ht:t.length<=100) (hkt:kindT p.wide p.vars t = 2) {no:Int} (hin:inS p no):c149 k p.wide (encT t) (encW (sto p no)) = r149 (bitI p t no):=by
 obtain ⟨hw,hv⟩:=q4g (q1q hs)
 obtain ⟨h1,h2⟩:=(q4q hw).1 (q5h hs hin)
 obtain ⟨hval,hok⟩:=q5u hkt (by omega) h1 h2
 rw [q7o (by omega) hw _ _ (by omega) hval]
 have hc:=q4x (x1e (by rw [hkt] at *;exact hok))
 congr 1
 unfold bitI hN q6
 rcases hc with h | h <;> rw [h] <;> rfl
theorem x45 {k:Nat} (hk:1000010<=k) {p:Prg} (hs:q0j p = true) (l1 l2 u:List PV) (t:List Nd) (ht:t.length<=100) (hkt:kindT p.wide p.vars t = 2) (N n1 n i:Nat) (hn:2<=n) (hin:inS p (i:Int)) (hN:i < N) (xs:List PV) (hx:xs[0 + (i:Int).toNat]? = some (q1m (0,0))) :
  z4m k n1 n (q0h [t]) N (i:Int) (encW (sto p (i:Int))) (N:Int) (i:Int) (q0h [t]) 1 0 p.wide p.vars l1 l2 u xs = z39 k n1 (q0h [t]) N (N:Int) (IntKind.i64.wrap ((i:Int) + 1)) p.wide p.vars l1 l2 u (xs.set i (q1m (bitI p t (i:Int),0))):=by
 obtain ⟨n,rfl⟩:∃ j,n = j + 2:=⟨n - 2,by omega⟩
 have hg:(decide ((0:Int)<=(i:Int)) && decide ((i:Int) < (N:Int))) = true:=by
  rw [decide_eq_true (by omega),decide_eq_true (by omega)];rfl
 have hd:decide ((0:Int) < 1) = true:=rfl
 have hd2:decide ((0:Int) < 0) = false:=rfl
 have hl:q0i (q0h [t]) 0 = some (.row 2 0 (encT t)):=rfl
 have ha:(q1m (0,0)).atInt .i64 0 = some 0:=rfl
 have hw:IntKind.i64.wrap (0 + 1) = 1:=rfl
 rw [x0w,hd,hl,hg,hx]
 simp only [cond_true,Option.bind_some,q09,ha]
 rw [x5 hk hs t ht hkt hin]
 simp only [y08,hd2,Bool.not_false,cond_true,hw]
 have hp:putPart (q1m (0,0)) 2 0 (PV.int .i64 (q0n .or .i64 0 (shlI .i64 (IntKind.i64.wrap (bitI p t (i:Int))) 0))) 0 = some (q1m (bitI p t (i:Int),0)):=by
  rcases z1c p t (i:Int) with h | h <;> rw [h] <;> rfl
 rw [hp]
 simp only [Option.bind_some,Nat.zero_add,Int.toNat_natCast]
 rw [x0w]
 rfl
theorem y31 {k:Nat} (hk:1000010<=k) {p:Prg} (hs:q0j p = true) (l1 l2 u:List PV) (t:List Nd) (ht:t.length<=100) (hkt:kindT p.wide p.vars t = 2):∀ (n i:Nat),nS p - i < n->i<=nS p ->
  z39 k n (q0h [t]) (nS p) (nS p:Int) (i:Int) p.wide p.vars l1 l2 u (((q3q p t).take i).map q1m ++ List.replicate (nS p - i) (q1m (0,0))) = r223 (encZ (cls (q3q p t) [])) true
 | 0,i,h,hi=>by omega
 | n + 1,i,h,hi=>by
  have hle:=q2p hs
  have hlen:(q3q p t).length = nS p:=by simp [q3q,q3x,q12]
  rw [w1x]
  by_cases hlt:i < nS p
  ·have hd:decide ((i:Int) < (nS p:Int)) = true:=by simpa using hlt
   have hnext:IntKind.i64.wrap ((i:Int) + 1) = ((i + 1:Nat):Int):=by rw [q0b (by omega) (by omega)];omega
   have hin:inS p (i:Int):=⟨by omega,by omega⟩
   obtain ⟨m,hm⟩:∃ m,nS p - i = m + 1:=⟨nS p - i - 1,by omega⟩
   have hl1:(((q3q p t).take i).map q1m).length = i:=by simp;omega
   have hx:(((q3q p t).take i).map q1m ++ List.replicate (nS p - i) (q1m (0,0)))[0 + (i:Int).toNat]? = some (q1m (0,0)):=by
    rw [Nat.zero_add,Int.toNat_natCast,List.getElem?_append_right (by omega),hl1,hm]
    simp
   have hset:(((q3q p t).take i).map q1m ++ List.replicate (nS p - i) (q1m (0,0))).set i (q1m (bitI p t (i:Int),0)) = ((q3q p t).take (i + 1)).map q1m ++ List.replicate (nS p - (i + 1)) (q1m (0,0)):=by
    rw [List.set_append_right _ _ (by omega),hl1,Nat.sub_self,hm,List.replicate_succ,List.set_cons_zero,List.take_succ_eq_append_getElem (by omega),List.map_append,show nS p - (i + 1) = m by omega,List.append_assoc]
    congr 1
    simp [q3q,q3x,iota]
   rw [hd,z5m (by omega) hs l1 l2 hin]
   simp only [cond_true,y5v]
   have h2:=x45 hk hs l1 l2 u t ht hkt (nS p) n k i (by omega) hin hlt _ hx
   have h':z4m k n k (q0h [t]) (nS p) (i:Int) (encW (sto p (i:Int))) (nS p:Int) (i:Int) (q0h [t]) ((q0h [t]).length:Int) 0 p.wide p.vars l1 l2 u (((q3q p t).take i).map q1m ++ List.replicate (nS p - i) (q1m (0,0))) = _:=h2
   rw [h',hnext,hset]
   exact y31 hk hs l1 l2 u t ht hkt n (i + 1) (by omega) (by omega)
  ·have hd:decide ((i:Int) < (nS p:Int)) = false:=by simpa using hlt
   obtain ⟨k,rfl⟩:∃ j,k = j + 1:=⟨k - 1,by omega⟩
   have hi2:i = nS p:=by omega
   have hfull:(q3q p t).take i = q3q p t:=List.take_of_length_le (by omega)
   have hwf:(q3q p t).all wf2B = true:=by
    rw [List.all_eq_true]
    intro q hq
    simp only [q3q,q3x,List.mem_map] at hq
    obtain ⟨_,⟨y,_,rfl⟩,rfl⟩:=hq
    rcases z1c p t y with h | h <;> rw [h] <;> rfl
   have e1:nS p - i = 0:=by omega
   rw [hd,hfull,e1,List.replicate_zero,List.append_nil,List.take_of_length_le (by simp;omega),n166 k _ (by omega) hwf,y7v]
   have h':r166 ((cls (q3q p t) []).map (PV.int .i64)) = r166 (encZ (cls (q3q p t) [])):=rfl
   rw [h',y32,List.take_of_length_le (by simp)]
   rfl
def byV (p:Prg) (t:List Nd):List Int:=cls (q3x p t) []
theorem x7e (bs:List Int):cls (bs.map fun b=>(b,(0:Int))) [] = cls bs []:=by
 have h:Bij (bs.map fun b=>((b,(0:Int)),b)):=by
  intro x hx y hy
  obtain ⟨a,_,rfl⟩:=List.mem_map.1 hx
  obtain ⟨b,_,rfl⟩:=List.mem_map.1 hy
  simp
 have:=x4u h
 simpa [Function.comp_def] using this
def spB (p:Prg) (t:List Nd):Bool:=q0j p && (kindT p.wide p.vars t == 2)
theorem x0c {k:Nat} (hk:1000500<=k) (p:Prg) (hp:FitP p) (t:List Nd) (ht:t.length<=100):c223 k p.wide p.vars (encT p.start) (q0c p.cmds) [PV.row 2 0 (encT t)] = r223 (encZ (bif spB p t then byV p t else [])) (spB p t):=by
 obtain ⟨k,rfl⟩:∃ j,k = j + 1:=⟨k - 1,by omega⟩
 have ha:=z66 (k:=k) (by omega) p (encT p.start) (q0c p.cmds) [t] (by simp) (by simpa using ht)
 have ha':c74 k p.wide p.vars (encT p.start) (q0c p.cmds) [PV.row 2 0 (encT t)] 0 = _:=ha
 have hpr:q2o p [t] = (kindT p.wide p.vars t == 2):=by simp [q2o,allC]
 rw [n223,z9m (by omega) p hp]
 simp only [x42,spB]
 cases hs:q0j p
 ·rfl
 simp only [Bool.not_true,cond_false]
 rw [ha',hpr]
 simp only [x8q]
 cases hk2:(kindT p.wide p.vars t == 2)
 ·rfl
 have hle:=q2p hs
 simp only [Bool.not_true,cond_false,Bool.and_self,cond_true]
 rw [z4o (by omega) hs]
 simp only [z3x,Int.toNat_natCast]
 have hg:(((nS p:Int) == (nS p:Int)) && decide ((0:Int)<=(nS p:Int)) && decide (nS p * 16<=LIM) && decide (nS p<=LIM)) = true:=by
  have q1:decide (nS p * 16<=LIM) = true:=decide_eq_true (by unfold LIM;omega)
  have q2:decide (nS p<=LIM) = true:=decide_eq_true (by unfold LIM;omega)
  rw [q1,q2]
  simp
 rw [hg]
 have:=y31 (k:=k) (by omega) hs (encT p.start) (q0c p.cmds) [] t ht (by simpa using hk2) k 0 (by omega) (by omega)
 simp only [List.take_zero,List.map_nil,List.nil_append,Nat.sub_zero] at this
 rw [q3q,x7e] at this
 exact this
def mxF:List Int->Int->Int
 | [],m=>m
 | x :: l,m=>mxF l (maxI m x)
theorem y6v {k:Nat} (v:List Int) (hv:v.length<=1000):∀ (n i:Nat) (m:Int),v.length - i < n->i<=v.length->z5b k n (encZ v) m (i:Int) = r167 (mxF (v.drop i) m)
 | 0,i,m,h,hi=>by omega
 | n + 1,i,m,h,hi=>by
  rw [w0u,q0d]
  by_cases hlt:i < v.length
  ·have hd:decide ((i:Int) < (v.length:Int)) = true:=by simpa using hlt
   have hnext:IntKind.i64.wrap ((i:Int) + 1) = ((i + 1:Nat):Int):=by rw [q0b (by omega) (by omega)];omega
   rw [hd,q0l hlt,q0f hlt,hnext]
   simp only [cond_true,Option.bind_some,q0k,mxF]
   exact y6v v hv n (i + 1) _ (by omega) (by omega)
  ·have hd:decide ((i:Int) < (v.length:Int)) = false:=by simpa using hlt
   rw [hd,List.drop_eq_nil_of_le (by omega)]
   rfl
theorem y16:∀ (l:List Int) (m:Int),q1j l m = true->mxF l (m - 1) = q0u l m - 1
 | [],m,h=>rfl
 | x :: l,m,h=>by
  simp only [q1j,Bool.and_eq_true,decide_eq_true_eq] at h
  obtain ⟨h1,h2,h3⟩:=h
  rw [mxF,q0u]
  by_cases e:x = m
  ·subst e
   have he:(x == x) = true:=beq_self_eq_true _
   rw [he] at h3 ⊢
   simp only [cond_true] at h3 ⊢
   have:=y16 l (x + 1) h3
   have hx:maxI (x - 1) x = x:=by
    unfold maxI
    rw [decide_eq_true (by omega:x > x - 1)]
    rfl
   rw [hx]
   rw [show x + 1 - 1 = x by omega] at this
   exact this
  ·have he:(x == m) = false:=by simpa using e
   rw [he] at h3 ⊢
   simp only [cond_false] at h3 ⊢
   have hx:maxI (m - 1) x = m - 1:=by
    unfold maxI
    rw [decide_eq_false (by omega:¬ x > m - 1)]
    rfl
   rw [hx]
   exact y16 l m h3
theorem z1e {k:Nat} (hk:1010<=k) {v:List Int} (hv:v.length<=1000) (h0:v ≠ []) (hg:q1j v 0 = true):c84 k (encZ v) = r84 (q0u v 0):=by
 obtain ⟨k,rfl⟩:∃ j,k = j + 2:=⟨k - 2,by omega⟩
 have hlen:0 < v.length:=List.length_pos_iff.2 h0
 have hd:decide ((v.length:Int) < 1) = false:=decide_eq_false (by omega)
 have hl:q0i (encZ v) 0 = _:=q0l (l:=v) (i:=0) hlen
 have hv0:v = v[0] :: v.drop 1:=by
  have:=q0f hlen
  simpa using this
 rw [n84,n167,q0d,hd,hl]
 simp only [cond_false,Option.bind_some,q0k]
 have hm:=y6v (k:=k) v hv k 1 v[0] (by omega) (by omega)
 have hm':z5b k k (encZ v) v[0] 1 = _:=hm
 rw [hm']
 simp only [w22]
 have hg2:=hg
 rw [hv0] at hg2
 simp only [q1j,Bool.and_eq_true,decide_eq_true_eq] at hg2
 have hz:v[0] = 0:=by omega
 have hmm:=y16 (v[0] :: v.drop 1) 0 (by rw [<- hv0];exact hg)
 have hb:=z0q v 0 (by simpa using hg) 0 (by rw [hv0,hz];simp)
 have hlenm:q0u v 0<=1000:=by
  have:=(z14 hg).2
  have hs:(dis v []).length<=v.length:=q43 (q5 v [] (by simp)) (fun x hx=>by simpa using (q32 v [] x).1 hx)
  omega
 have e:mxF (v.drop 1) v[0] = q0u v 0 - 1:=by
  rw [<- hv0] at hmm
  rw [<- hmm]
  conv=>rhs;rw [hv0]
  rw [mxF,hz]
  rfl
 have hb2:(0:Int) < q0u v 0:=hb.2
 rw [e,show q0u v 0 - 1 + 1 = q0u v 0 by omega,q0b (by omega) (by omega)]
end Go.Proofs.YtgdegfijcijnoaaGreat
/- The reference's sights: walked through. -/
namespace Go.Proofs.YtgdegfijcijnoaaGreat
open Go.Dp
theorem x3z (l:List Int) (K0:List PV->R):x8y (r164 (encZ l)) K0 = K0 (encZ l):=by
 have h:([SV.agg [.own 3 0 (encZ l)]].all q04 && true) = true:=by simp [q04,q1u,q3n];rfl
 show (bif ([SV.agg [.own 3 0 (encZ l)]].all q04 && true) then K0 (encZ l) else none) = _
 rw [h]
 rfl
theorem x7w (l:List Int) (K0:List PV->R):R98p (r98 (encZ l)) K0 = K0 (encZ l):=by
 have h:([SV.agg [.own 3 0 (encZ l)]].all q04 && true) = true:=by simp [q04,q1u,q3n];rfl
 show (bif ([SV.agg [.own 3 0 (encZ l)]].all q04 && true) then K0 (encZ l) else none) = _
 rw [h]
 rfl
theorem x5d (l:List Int) (b:Bool) (K0:List PV->Bool->R):x8z (r200 (encZ l) b) K0 = K0 (encZ l) b:=by
 have h:([SV.agg [.own 3 0 (encZ l)],SV.c (.p (.bool b))].all q04 && true) = true:=by simp [q04,q1u,q3l,q3n];rfl
 show (bif ([SV.agg [.own 3 0 (encZ l)],SV.c (.p (.bool b))].all q04 && true) then K0 (encZ l) b else none) = _
 rw [h]
 rfl
theorem q1d (l:List Int):(encZ l).take l.length = encZ l:=List.take_of_length_le (by simp)
theorem z7t {k:Nat} (hk:1<=k) (v:List Int) (hv:v.length<=1000):∀ (n i m:Nat),v.length - i < n->i<=v.length->m<=i ->
  z3r k n (m:Int) (encZ v) (v.length:Int) (i:Int) = r129 (q1j (v.drop i) (m:Int))
 | 0,i,m,h,hi,hm=>by omega
 | n + 1,i,m,h,hi,hm=>by
  rw [x9m]
  by_cases hlt:i < v.length
  ·have hd:decide ((i:Int) < (v.length:Int)) = true:=by simpa using hlt
   have hnext:IntKind.i64.wrap ((i:Int) + 1) = ((i + 1:Nat):Int):=by rw [q0b (by omega) (by omega)];omega
   have hm2:IntKind.i64.wrap ((m:Int) + 1) = ((m + 1:Nat):Int):=by rw [q0b (by omega) (by omega)];omega
   have hm3:((m:Int) + 1) = ((m + 1:Nat):Int):=by omega
   rw [hd,q0l hlt,q0f hlt,hnext]
   simp only [cond_true,Option.bind_some,q0k,q1j]
   rw [q6j hk,hm2,hm3]
   simp only [q5m]
   cases decide (0<=v[i])
   ·rfl
   cases decide (v[i]<=(m:Int))
   ·rfl
   simp only [Bool.true_and,Bool.not_true,cond_false]
   cases (v[i] == (m:Int))
   ·exact z7t hk v hv n (i + 1) m (by omega) (by omega) (by omega)
   ·exact z7t hk v hv n (i + 1) (m + 1) (by omega) (by omega) (by omega)
  ·have hd:decide ((i:Int) < (v.length:Int)) = false:=by simpa using hlt
   rw [hd,List.drop_eq_nil_of_le (by omega)]
   rfl
theorem q5n {k:Nat} (hk:1000300<=k) (p:Prg) (hp:FitP p) (v:List Int) (hv:v.length<=1000):c129 k p.wide p.vars (encT p.start) (q0c p.cmds) (encZ v) = r129 (gsB p v):=by
 obtain ⟨k,rfl⟩:∃ j,k = j + 1:=⟨k - 1,by omega⟩
 rw [n129,z9y (by omega) p hp]
 simp only [x5e,gsB]
 cases hs:q0j p
 ·rfl
 ·simp only [cond_false,Bool.not_true,Bool.true_and]
  rw [y5z (by omega) hs,q0d]
  simp only [y6w]
  cases hl:((v.length:Int) == (nS p:Int))
  ·have e:((v.length:Int) != (nS p:Int)) = true:=by simp only [bne,hl];rfl
   rw [e,Bool.and_false]
   rfl
  ·have e:((v.length:Int) != (nS p:Int)) = false:=by simp only [bne,hl];rfl
   rw [e,Bool.and_true]
   exact z7t (k:=k) (by omega) v hv k 0 0 (by omega) (by omega) (by omega)
theorem y60 {k:Nat} (ks:List Int) (hlen:ks.length<=1000) (kn:List Int) (n1 i:Nat) (hi:i < ks.length) (hkn:∀ x,x ∈ kn ↔ x ∈ ks.take i) (hk1:kn.length<=1000):∀ (n j:Nat),i - j < n->j<=i->(∀ x ∈ ks.take j,x ≠ ks[i]) ->
  z30 k n1 n (encZ ks) (kn.length:Int) (i:Int) ks[i] (kn.length:Int) (j:Int) (encZ ks) (ks.length:Int) (i:Int) 0 i [] (encZ ((ks.take i).map fun x=>(kn.idxOf x:Int))) =
   bif kn.contains ks[i] then q55 k n1 (encZ ks) (kn.length:Int) (encZ ks) (ks.length:Int) ((i + 1:Nat):Int) 0 (i + 1) [] (encZ (((ks.take i).map fun x=>(kn.idxOf x:Int)) ++ [(kn.idxOf ks[i]:Int)]))
   else q55 k n1 (encZ ks) ((kn.length + 1:Nat):Int) (encZ ks) (ks.length:Int) ((i + 1:Nat):Int) 0 (i + 1) [] (encZ (((ks.take i).map fun x=>(kn.idxOf x:Int)) ++ [(kn.length:Int)]))
 | 0,j,h,hj,hno=>by omega
 | n + 1,j,h,hj,hno=>by
  rw [x9z]
  have hol:((ks.take i).map fun x=>(kn.idxOf x:Int)).length = i:=by simp;omega
  have hnext:IntKind.i64.wrap ((i:Int) + 1) = ((i + 1:Nat):Int):=by rw [q0b (by omega) (by omega)];omega
  have hm2:IntKind.i64.wrap ((kn.length:Int) + 1) = ((kn.length + 1:Nat):Int):=by rw [q0b (by omega) (by omega)];omega
  have htk:(encZ ((ks.take i).map fun x=>(kn.idxOf x:Int))).take i = encZ ((ks.take i).map fun x=>(kn.idxOf x:Int)):=by rw [List.take_of_length_le (by simp;omega)]
  have hlim:(decide ((i + 1) * 8<=LIM) && decide (i + 1<=LIM)) = true:=q0r (by omega) (by omega)
  by_cases hlt:j < i
  ·have hd:decide ((j:Int) < (i:Int)) = true:=by simpa using hlt
   have hnj:IntKind.i64.wrap ((j:Int) + 1) = ((j + 1:Nat):Int):=by rw [q0b (by omega) (by omega)];omega
   rw [hd,q0l (l:=ks) (i:=j) (by omega),hnj]
   simp only [cond_true,Option.bind_some,q0k]
   by_cases he:ks[j] = ks[i]
   ·have e1:(ks[j] == ks[i]) = true:=by simpa using he
    have hg:(decide ((0:Int)<=(j:Int)) && true) = true:=by
     rw [decide_eq_true (by omega)];rfl
    have hm:ks[i] ∈ ks.take i:=by
     rw [<- he]
     exact List.mem_take_iff_getElem.2 ⟨j,by omega,rfl⟩
    have hmk:ks[i] ∈ kn:=(hkn _).2 hm
    have hc:kn.contains ks[i] = true:=by simpa using hmk
    have hidx:=List.idxOf_lt_length_of_mem hmk
    have hget:(encZ ((ks.take i).map fun x=>(kn.idxOf x:Int)))[0 + (j:Int).toNat]? = some (.int .i64 (kn.idxOf ks[i]:Int)):=by
     rw [Nat.zero_add,Int.toNat_natCast,q2s,List.getElem?_map,List.getElem?_take_of_lt hlt,List.getElem?_eq_getElem (by omega),<- he]
     rfl
    have e2:(((kn.idxOf ks[i]:Nat):Int) == (kn.length:Int)) = false:=by
     have:((kn.idxOf ks[i]:Nat):Int) ≠ (kn.length:Int):=by omega
     simpa using this
    rw [e1,hg,hget,hc]
    simp only [cond_true,Option.bind_some,q0k]
    rw [e2,hlim,htk,hnext,q1i]
    rfl
   ·have e1:(ks[j] == ks[i]) = false:=by simpa using he
    rw [e1]
    simp only [cond_false]
    refine y60 ks hlen kn n1 i hi hkn hk1 n (j + 1) (by omega) (by omega) fun x hx=>?_
    rw [List.take_succ_eq_append_getElem (by omega),List.mem_append,List.mem_singleton] at hx
    rcases hx with hx | rfl
    ·exact hno x hx
    ·exact he
  ·have hd:decide ((j:Int) < (i:Int)) = false:=by simpa using hlt
   have hji:j = i:=by omega
   subst hji
   have hc:kn.contains ks[j] = false:=by
    rw [<- Bool.not_eq_true,List.contains_iff_mem,hkn]
    intro hm
    exact hno _ hm rfl
   have e2:((kn.length:Int) == (kn.length:Int)) = true:=beq_self_eq_true _
   rw [hd,e2,hc,hlim,htk,hnext,hm2,q1i]
   rfl
theorem z71 {k:Nat} (ks:List Int) (hlen:ks.length<=1000) (hk:1010<=k):∀ (n i:Nat) (kn:List Int),ks.length - i < n->i<=ks.length->(∀ x,x ∈ kn ↔ x ∈ ks.take i)->kn.length<=i ->
  q55 k n (encZ ks) (kn.length:Int) (encZ ks) (ks.length:Int) (i:Int) 0 i [] (encZ ((ks.take i).map fun x=>(kn.idxOf x:Int))) = r164 (encZ (((ks.take i).map fun x=>(kn.idxOf x:Int)) ++ cls (ks.drop i) kn))
 | 0,i,kn,h,hi,hkn,hk1=>by omega
 | n + 1,i,kn,h,hi,hkn,hk1=>by
  rw [w1w]
  by_cases hlt:i < ks.length
  ·have hd:decide ((i:Int) < (ks.length:Int)) = true:=by simpa using hlt
   rw [hd,q0l hlt,q0f hlt]
   simp only [cond_true,Option.bind_some,q0k,cls]
   have h2:=y60 (k:=k) ks hlen kn n i hlt hkn (by omega) k 0 (by omega) (by omega) (by simp)
   have h':z30 k n k (encZ ks) (kn.length:Int) (i:Int) ks[i] (kn.length:Int) 0 (encZ ks) (ks.length:Int) (i:Int) 0 i [] (encZ ((ks.take i).map fun x=>(kn.idxOf x:Int))) = _:=h2
   rw [h']
   cases hc:kn.contains ks[i]
   ·have hp:ks[i] ∉ kn:=by simpa using hc
    simp only [cond_false]
    have e:((ks.take i).map fun x=>(kn.idxOf x:Int)) ++ [(kn.length:Int)] = (ks.take (i + 1)).map fun x=>((kn ++ [ks[i]]).idxOf x:Int):=by
     rw [List.take_succ_eq_append_getElem hlt,List.map_append]
     congr 1
     ·apply List.map_congr_left
      intro x hx
      rw [y2h ((hkn x).2 hx)]
     ·simp [List.idxOf_append,hp]
    have:=z71 ks hlen hk n (i + 1) (kn ++ [ks[i]]) (by omega) (by omega) (fun x=>by
     rw [List.take_succ_eq_append_getElem hlt,List.mem_append,List.mem_append,hkn x]) (by simp;omega)
    rw [<- e,List.length_append] at this
    rw [show (ks.take i).map (fun x=>(kn.idxOf x:Int)) ++ (kn.length:Int) :: cls (ks.drop (i + 1)) (kn ++ [ks[i]]) = ((ks.take i).map (fun x=>(kn.idxOf x:Int)) ++ [(kn.length:Int)]) ++ cls (ks.drop (i + 1)) (kn ++ [ks[i]]) by simp]
    exact this
   ·have hp:ks[i] ∈ kn:=by simpa using hc
    simp only [cond_true]
    have e:((ks.take i).map fun x=>(kn.idxOf x:Int)) ++ [(kn.idxOf ks[i]:Int)] = (ks.take (i + 1)).map fun x=>(kn.idxOf x:Int):=by
     rw [List.take_succ_eq_append_getElem hlt,List.map_append]
     rfl
    have:=z71 ks hlen hk n (i + 1) kn (by omega) (by omega) (fun x=>by
     rw [List.take_succ_eq_append_getElem hlt,List.mem_append,hkn x]
     constructor
     ·exact .inl
     ·rintro (h | h)
      ·exact h
      ·rw [List.mem_singleton.1 h]
       exact (hkn _).1 hp) (by omega)
    rw [<- e] at this
    rw [show (ks.take i).map (fun x=>(kn.idxOf x:Int)) ++ (kn.idxOf ks[i]:Int) :: cls (ks.drop (i + 1)) kn = ((ks.take i).map (fun x=>(kn.idxOf x:Int)) ++ [(kn.idxOf ks[i]:Int)]) ++ cls (ks.drop (i + 1)) kn by simp]
    exact this
  ·have hd:decide ((i:Int) < (ks.length:Int)) = false:=by simpa using hlt
   rw [hd,List.drop_eq_nil_of_le (by omega)]
   simp only [cond_false,cls,List.append_nil]
   rw [List.take_of_length_le (by simp;omega)]
theorem w50 {k:Nat} (hk:1020<=k) (ks:List Int) (hlen:ks.length<=1000):c164 k (encZ ks) = r164 (encZ (cls ks [])):=by
 obtain ⟨k,rfl⟩:∃ j,k = j + 1:=⟨k - 1,by omega⟩
 rw [n164,q0d]
 have:=z71 (k:=k) ks hlen (by omega) k 0 [] (by omega) (by omega) (by simp) (by simp)
 simp only [List.take_zero,List.map_nil,List.nil_append,List.drop_zero,List.length_nil] at this
 exact this
def cutK (some1:List Int):List Int->Nat->List Int
 | [],_=>[]
 | x :: l,i=>(bif some1.contains (i:Int) then 2 * x + 1 else 2 * x) :: cutK some1 l (i + 1)
theorem z8g (some1:List Int):∀ (l:List Int) (i:Nat),(cutK some1 l i).length = l.length
 | [],i=>rfl
 | x :: l,i=>by simp [cutK,z8g some1 l]
def cutV (some1 v:List Int):List Int:=cls (cutK some1 v 0) []
theorem z7y {k:Nat} (hk:100010<=k) (some1 v:List Int) (hs:some1.length<=1000) (hv:OkV v):∀ (n i:Nat) (o:List Int),v.length - i < n->i<=v.length->o.length = i ->
  z9c k n (encZ some1) o.length (encZ v) (v.length:Int) (i:Int) [] (encZ o) = r80 (encZ (cls (o ++ cutK some1 (v.drop i) i) []))
 | 0,i,o,h,hi,ho=>by omega
 | n + 1,i,o,h,hi,ho=>by
  have hvl:=hv.len
  rw [w30,q1d]
  by_cases hlt:i < v.length
  ·have hd:decide ((i:Int) < (v.length:Int)) = true:=by simpa using hlt
   have hnext:IntKind.i64.wrap ((i:Int) + 1) = ((i + 1:Nat):Int):=by rw [q0b (by omega) (by omega)];omega
   have hr:=hv.rng _ (List.getElem_mem hlt)
   have e1:IntKind.i64.wrap (2 * v[i]) = 2 * v[i]:=q0b (by omega) (by omega)
   have e2:IntKind.i64.wrap (2 * v[i] + 1) = 2 * v[i] + 1:=q0b (by omega) (by omega)
   rw [hd,q0l hlt,q0f hlt,hnext]
   simp only [cond_true,Option.bind_some,q0k,cutK]
   rw [y0g hk some1 (by omega)]
   simp only [z95]
   rw [q0r (by omega) (by omega),e1,e2,q1i,q1i]
   cases some1.contains (i:Int)
   ·have:=z7y hk some1 v hs hv n (i + 1) (o ++ [2 * v[i]]) (by omega) (by omega) (by simp;omega)
    rw [List.length_append,List.append_assoc] at this
    exact this
   ·have:=z7y hk some1 v hs hv n (i + 1) (o ++ [2 * v[i] + 1]) (by omega) (by omega) (by simp;omega)
    rw [List.length_append,List.append_assoc] at this
    exact this
  ·have hd:decide ((i:Int) < (v.length:Int)) = false:=by simpa using hlt
   rw [hd,List.drop_eq_nil_of_le (by omega),w50 (by omega) o (by omega)]
   simp only [cond_false,cutK,List.append_nil]
   rw [x3z,List.take_of_length_le (by simp)]
theorem z13 {k:Nat} (hk:100020<=k) (some1 v:List Int) (hs:some1.length<=1000) (hv:OkV v):c80 k (encZ v) (encZ some1) = r80 (encZ (cutV some1 v)):=by
 obtain ⟨k,rfl⟩:∃ j,k = j + 1:=⟨k - 1,by omega⟩
 have:=hv.len
 rw [n80,q0d]
 exact z7y (k:=k) (by omega) some1 v hs hv k 0 [] (by omega) (by omega) rfl
theorem x0u {α:Type} [BEq α] [LawfulBEq α] (l:List α) (h:l.length<=100):OkV (cls l []):=by
 refine ⟨by rw [q6z];exact h,fun x hx=>?_⟩
 obtain ⟨h1,h2⟩:=q9c l []
 have h3:=z0q (cls l []) 0 h1 x hx
 have h4:(dis l []).length<=l.length:=q43 (q5 l [] (by simp)) (fun x hx=>by simpa using (q32 l [] x).1 hx)
 have h5:q0u (cls l []) 0 = ((dis l []).length:Int):=h2
 have h6:((0:Nat):Int) = 0:=rfl
 rw [h6] at h3
 omega
theorem z0u {some1 v:List Int} (hv:OkV v):OkV (cutV some1 v):=x0u _ (by rw [z8g];exact hv.len)
theorem z50 (some1 v:List Int):(cutV some1 v).length = v.length:=by rw [cutV,q6z,z8g]
theorem w6c {p:Prg} (hs:q0j p = true) (t:List Nd):(whI p t).length<=32:=by
 have:=y2j p t (nS p) 0
 have:=(q2p hs).2
 unfold whI
 omega
theorem y7a {k:Nat} (hk:1000300<=k) {p:Prg} (hs:q0j p = true) (l1 l2:List PV) (t:List Nd) (ht:t.length<=100) (hkt:kindT p.wide p.vars t = 2) {v:List Int} (hv:OkV v):c98 k p.wide p.vars l1 l2 (encZ v) (encT t) = r98 (encZ (cutV (whI p t) v)):=by
 obtain ⟨k,rfl⟩:∃ j,k = j + 1:=⟨k - 1,by omega⟩
 have:=w6c hs t
 rw [n98,z2i (by omega) hs l1 l2 t ht hkt]
 simp only [y1h]
 rw [z13 (by omega) _ _ (by omega) hv]
 simp only [y5m,q0d,q1d]
def byL (p:Prg):List (List Nd)->List Int->List Int
 | [],v=>v
 | t :: ts,v=>byL p ts (cutV (whI p t) v)
theorem x0l (p:Prg):∀ (ts:List (List Nd)) {v:List Int},OkV v->OkV (byL p ts v)
 | [],v,h=>h
 | t :: ts,v,h=>x0l p ts (z0u h)
theorem x09 (p:Prg):∀ (ts:List (List Nd)) (v:List Int),(byL p ts v).length = v.length
 | [],v=>rfl
 | t :: ts,v=>by rw [byL,x09 p ts,z50]
theorem y72 {k:Nat} (hk:1000300<=k) {p:Prg} (hs:q0j p = true) (l1 l2 u:List PV) (ts:List (List Nd)) (hl:ts.length<=1000) (ht:∀ t ∈ ts,t.length<=100) (hkt:∀ t ∈ ts,kindT p.wide p.vars t = 2):∀ (n i:Nat) (v:List Int),ts.length - i < n->i<=ts.length->OkV v ->
  y5l k n (q0h ts) (ts.length:Int) (i:Int) p.wide p.vars l1 l2 u v.length (encZ v) = r99 (encZ (byL p (ts.drop i) v))
 | 0,i,v,h,hi,hv=>by omega
 | n + 1,i,v,h,hi,hv=>by
  rw [w3f,q1d]
  by_cases hlt:i < ts.length
  ·have hd:decide ((i:Int) < (ts.length:Int)) = true:=by simpa using hlt
   have hnext:IntKind.i64.wrap ((i:Int) + 1) = ((i + 1:Nat):Int):=by rw [q0b (by omega) (by omega)];omega
   have hm:=List.getElem_mem hlt
   rw [hd,q0o,q1o,List.getElem?_eq_getElem hlt,q0f hlt,hnext]
   simp only [cond_true,Option.map_some,Option.bind_some,q09,byL]
   rw [y7a hk hs l1 l2 _ (ht _ hm) (hkt _ hm) hv,x7w,q0d]
   exact y72 hk hs l1 l2 u ts hl ht hkt n (i + 1) _ (by omega) (by omega) (z0u hv)
  ·have hd:decide ((i:Int) < (ts.length:Int)) = false:=by simpa using hlt
   rw [hd,List.drop_eq_nil_of_le (by omega)]
   rfl
def q5d (p:Prg):List Int:=List.replicate (nS p) 0
theorem y3f {p:Prg} (hs:q0j p = true):OkV (q5d p):=by
 have:=(q2p hs).2
 refine ⟨by simp [q5d];omega,fun x hx=>?_⟩
 rw [List.eq_of_mem_replicate hx]
 omega
theorem w08 {k:Nat} (hk:1000400<=k) {p:Prg} (hs:q0j p = true) (l1 l2:List PV) (ts:List (List Nd)) (hl:ts.length<=1000) (ht:∀ t ∈ ts,t.length<=100) (hkt:∀ t ∈ ts,kindT p.wide p.vars t = 2):c99 k p.wide p.vars l1 l2 (q0h ts) = r99 (encZ (byL p ts (q5d p))):=by
 obtain ⟨k,rfl⟩:∃ j,k = j + 1:=⟨k - 1,by omega⟩
 have hle:=q2p hs
 rw [n99,y5z (by omega) hs]
 simp only [y6w,Int.toNat_natCast]
 have hg:(((nS p:Int) == (nS p:Int)) && decide ((0:Int)<=(nS p:Int)) && decide (nS p * 8<=LIM) && decide (nS p<=LIM)) = true:=by
  have q1:decide (nS p * 8<=LIM) = true:=decide_eq_true (by unfold LIM;omega)
  have q2:decide (nS p<=LIM) = true:=decide_eq_true (by unfold LIM;omega)
  rw [q1,q2]
  simp
 have hz:(q5d p).length = nS p:=by simp [q5d]
 have he:List.replicate (nS p) (PV.int .i64 0) = encZ (q5d p):=by simp [q5d,encZ]
 have:=y72 (k:=k) (by omega) hs l1 l2 [] ts hl ht hkt k 0 (q5d p) (by omega) (by omega) (y3f hs)
 rw [hg,he,q05]
 rw [hz] at this
 exact this
def sbB (p:Prg) (ts:List (List Nd)):Bool:=q0j p && q2o p ts
theorem x0a {k:Nat} (hk:1000500<=k) (p:Prg) (hp:FitP p) (ts:List (List Nd)) (hl:ts.length<=1000) (ht:∀ t ∈ ts,t.length<=100):c199 k p.wide p.vars (encT p.start) (q0c p.cmds) (q0h ts) = r199 (encZ (bif sbB p ts then byL p ts (q5d p) else [])) (sbB p ts):=by
 obtain ⟨k,rfl⟩:∃ j,k = j + 1:=⟨k - 1,by omega⟩
 rw [n199,z9y (by omega) p hp]
 simp only [x5e,sbB]
 cases hs:q0j p
 · rfl
 simp only [Bool.not_true,cond_false]
 rw [z6n (by omega) p _ _ ts hl ht]
 simp only [x87]
 cases hq:q2o p ts
 · rfl
 simp only [Bool.not_true,cond_false,Bool.and_self,cond_true]
 rw [w08 (by omega) hs _ _ ts hl ht (by simp only [q2o,Bool.and_eq_true] at hq;exact q5s hq.2)]
 simp only [w6b,q0d,q1d]
def coB (p:Prg) (v some1:List Int):Bool:=gsB p v && incG (v.length:Int) none some1
theorem x3k {k:Nat} (hk:1000500<=k) (p:Prg) (hp:FitP p) {v some1:List Int} (hv:OkV v) (hs:some1.length<=1000):c200 k p.wide p.vars (encT p.start) (q0c p.cmds) (encZ v) (encZ some1) = r200 (encZ (bif coB p v some1 then cutV some1 v else [])) (coB p v some1):=by
 obtain ⟨k,rfl⟩:∃ j,k = j + 1:=⟨k - 1,by omega⟩
 have hvl:=hv.len
 rw [n200,q5n (by omega) p hp v (by omega),q0d,q0b (by omega) (by omega)]
 simp only [z80,coB]
 cases hg:gsB p v
 · rfl
 simp only [Bool.not_true,cond_false]
 rw [x98 (by omega) some1 (by omega)]
 simp only [w3l]
 cases hq:incG (v.length:Int) none some1
 · rfl
 simp only [Bool.not_true,cond_false,Bool.and_self,cond_true]
 rw [z13 (by omega) some1 v hs hv]
 simp only [y5m,q0d,q1d]
def ssB (p:Prg) (v:List Int) (t:List Nd):Bool:=gsB p v && (kindT p.wide p.vars t == 2)
theorem q02 {p:Prg} {v:List Int} (h:gsB p v = true):q0j p = true /\ q1j v 0 = true /\ v.length = nS p:=by
 simp only [gsB,Bool.and_eq_true,beq_iff_eq] at h
 exact ⟨h.1,h.2.1,by have:=h.2.2;omega⟩
def moB (p:Prg) (a b:List Int):Bool:=gsB p a && gsB p b
end Go.Proofs.YtgdegfijcijnoaaGreat
/- Sights drawn;splits and meets of the program. -/
namespace Go.Proofs.YtgdegfijcijnoaaGreat
open Go.Dp
theorem w0g {p:Prg} {ts:List (List Nd)}:OkV (bif sbB p ts then byL p ts (q5d p) else []) /\ (bif sbB p ts then byL p ts (q5d p) else []).length<=32:=by
 cases h:sbB p ts
 ·exact ⟨⟨by simp,by simp⟩,by simp⟩
 ·simp only [sbB,Bool.and_eq_true] at h
  have:=(q2p h.1).2
  refine ⟨x0l p ts (y3f h.1),?_⟩
  simp only [cond_true]
  rw [x09]
  simpa [q5d] using this
theorem x7j {v:List Int} (hv:OkV v) (h32:v.length<=32):OkV (v ++ [0]) /\ OkV (v.set (v.length - 1) (v.length:Int)):=by
 refine ⟨⟨by simp;omega,fun x hx=>?_⟩,⟨by simp;omega,fun x hx=>?_⟩⟩
 ·rcases List.mem_append.1 hx with h | h
  ·exact hv.rng x h
  ·rw [List.mem_singleton.1 h];omega
 ·rcases List.mem_or_eq_of_mem_set hx with h | rfl
  ·exact hv.rng x h
  ·omega
theorem y2t {bs:List Nat} (hc:CodeOK bs) {k:Nat} (hk:2000<=k) {v:List Int} (hv:OkV v) (h32:v.length<=32) {at':Int} (h0:0<=at') (h1:at'<=600000000) (s:W) :
   ∃ a2 s2 w,(R56 (c56 k 40 (encB bs) at' (wi s)) fun l8 v7 v8 v9 =>
  bif (v9 == 0) then
   bif decide (((encZ v).length + 1) * 8<=LIM) && decide ((encZ v).length + 1<=LIM) then
    r133 l8 v7 v8 ((((encZ v).take (encZ v).length) ++ [PV.int .i64 0]).take ((encZ v).length + 1))
   else none
  else
   bif (v9 == 1) then
    bif decide (((encZ v).length:Int) > 0) then
     bif decide ((0:Int)<=IntKind.i64.wrap (((encZ v).length:Int) - 1)) && decide (IntKind.i64.wrap (((encZ v).length:Int) - 1) < ((encZ v).length:Int)) then
      ((encZ v)[0 + ((IntKind.i64.wrap (((encZ v).length:Int) - 1)).toNat)]?).bind fun p4 =>
      r133 l8 v7 v8 (((encZ v).set (0 + ((IntKind.i64.wrap (((encZ v).length:Int) - 1)).toNat)) (PV.int .i64 ((encZ v).length:Int))).take (encZ v).length)
     else none
    else r133 l8 v7 v8 ((encZ v).take (encZ v).length)
   else r133 l8 v7 v8 ((encZ v).take (encZ v).length)) = r133 (encB bs) a2 (wi s2) (encZ w) /\ at'<=a2 /\ a2<=at' + 2 /\ OkV w:=by
 obtain ⟨a2,s2,x,h,h2,h3,_⟩:=q1k hc (k:=k) (by omega) h0 (by omega) s 40
 obtain ⟨t1,t2⟩:=x7j hv h32
 rw [h]
 simp only [q16,q0d,q1d]
 cases (x == 0)
 · simp only [cond_false]
   cases (x == 1)
   · exact ⟨a2,s2,v,rfl,by omega,by omega,hv⟩
   · simp only [cond_true]
     by_cases hl:0 < v.length
     · have e1:decide ((v.length:Int) > 0) = true:=decide_eq_true (by omega)
       have ew:IntKind.i64.wrap ((v.length:Int) - 1) = ((v.length - 1:Nat):Int):=by rw [q0b (by omega) (by omega)];omega
       have eg:(decide ((0:Int)<=((v.length - 1:Nat):Int)) && decide (((v.length - 1:Nat):Int) < (v.length:Int))) = true:=by
         rw [decide_eq_true (by omega),decide_eq_true (by omega)];rfl
       have hg:(encZ v)[0 + (((v.length - 1:Nat):Int)).toNat]? = some (.int .i64 (v[v.length - 1]'(by omega))):=by
         rw [Nat.zero_add,Int.toNat_natCast,q2s,List.getElem?_eq_getElem (by omega)]
         rfl
       rw [e1,ew,eg,hg]
       simp only [cond_true,Option.bind_some,Nat.zero_add,Int.toNat_natCast]
       rw [q8m,List.take_of_length_le (by simp)]
       exact ⟨a2,s2,_,rfl,by omega,by omega,t2⟩
     · have e1:decide ((v.length:Int) > 0) = false:=decide_eq_false (by omega)
       rw [e1]
       exact ⟨a2,s2,v,rfl,by omega,by omega,hv⟩
 · simp only [cond_true]
   rw [q0r (by omega) (by omega),q1i,List.take_of_length_le (by simp)]
   exact ⟨a2,s2,_,rfl,by omega,by omega,t1⟩
theorem x8e {bs:List Nat} (hc:CodeOK bs) {k:Nat} (hk:1001000<=k) {p:Prg} (hp:FitP p) {at':Int} (h0:0<=at') (h1:at'<=400000000) (s:W) :
  ∃ a2 s2 v,c133 k p.wide p.vars (encT p.start) (q0c p.cmds) (encB bs) at' (wi s) = r133 (encB bs) a2 (wi s2) (encZ v) /\ at'<=a2 /\ a2<=at' + 50000 /\ OkV v:=by
 obtain ⟨k,rfl⟩:∃ j,k = j + 1:=⟨k - 1,by omega⟩
 have hw:=hp.w
 have hv:=hp.v
 rw [n133]
 obtain ⟨a2,s2,ts,h,h2,h3,h4,h5⟩:=y8k hc (k:=k) (by omega) (wide:=p.wide) (vars:=p.vars) (by omega) (by omega) (encT p.start) (q0c p.cmds) 3 (by omega) (by omega) h0 (by omega) s
 rw [h]
 simp only [x86]
 rw [x0a (by omega) p hp ts (by omega) h5]
 simp only [w3w]
 obtain ⟨hk0,hl0⟩:=w0g (p:=p) (ts:=ts)
 generalize (bif sbB p ts then byL p ts (q5d p) else []) = v at hk0 hl0 ⊢
 obtain ⟨a3,s3,b,h,h6,h7⟩:=q3r hc (k:=k) (by omega) (at':=a2) (by omega) (by omega) s2 3
 rw [h]
 simp only [q3o]
 cases b
 ·simp only [cond_false]
  obtain ⟨a4,s4,w,h,h8,h9,h10⟩:=y2t hc (k:=k) (by omega) hk0 hl0 (at':=a3) (by omega) (by omega) s3
  exact ⟨a4,s4,w,h,by omega,by omega,h10⟩
 ·simp only [cond_true]
  obtain ⟨a4,s4,so,h,h8,h9,h10⟩:=x4a hc (k:=k) (by omega) 4 3 (by omega) (by omega) (at':=a3) (by omega) (by omega) s3
  rw [h]
  simp only [w3a]
  rw [q0d,q1d,x3k (by omega) p hp hk0 (by omega),x5d]
  cases hco:coB p v so
  ·simp only [cond_false]
   obtain ⟨a5,s5,w,h,h11,h12,h13⟩:=y2t hc (k:=k) (by omega) hk0 hl0 (at':=a4) (by omega) (by omega) s4
   rw [q0d,q1d] at h
   exact ⟨a5,s5,w,h,by omega,by omega,h13⟩
  ·simp only [cond_true]
   obtain ⟨a5,s5,w,h,h11,h12,h13⟩:=y2t hc (k:=k) (by omega) (z0u (some1:=so) hk0) (by rw [z50];exact hl0) (at':=a4) (by omega) (by omega) s4
   exact ⟨a5,s5,w,h,by omega,by omega,h13⟩
theorem z7 {k:Nat} (hk:1000500<=k) (p:Prg) (hp:FitP p) {a b:List Int} (ha:OkV a) (hb:OkV b):c22 k p.wide p.vars (encT p.start) (q0c p.cmds) (encZ a) (encZ b) = r22 (moB p a b && decide (cls (a.zip b) [] = a)) (moB p a b):=by
 obtain ⟨k,rfl⟩:∃ j,k = j + 1:=⟨k - 1,by omega⟩
 have hal:=ha.len
 have hbl:=hb.len
 rw [n22,q3f (by omega) p hp a (by omega)]
 simp only [z5x,moB]
 cases hg:gsB p a
 · rfl
 simp only [Bool.not_true,cond_false]
 rw [q3f (by omega) p hp b (by omega)]
 simp only [z5x]
 cases hq:gsB p b
 · rfl
 simp only [Bool.not_true,cond_false,Bool.and_self,cond_true]
 rw [z8i (by omega) ha hb (by rw [(q02 hg).2.2,(q02 hq).2.2])]
 simp only [x3c]
 rw [w4k (by omega) _ _ (by rw [q6z];simp;omega)]
 simp only [w5u,Bool.true_and]
theorem y78 {p:Prg} (hs:q0j p = true) (t:List Nd):OkV (byV p t) /\ (byV p t).length = nS p:=by
 have:=(q2p hs).2
 have hl:(q3x p t).length = nS p:=by simp [q3x,q12]
 exact ⟨x0u _ (by omega),by rw [byV,q6z,hl]⟩
theorem y94 {k:Nat} (hk:1000600<=k) (p:Prg) (hp:FitP p) {v:List Int} (hv:OkV v) (t:List Nd) (ht:t.length<=100):c159 k p.wide p.vars (encT p.start) (q0c p.cmds) (encZ v) (encT t) = r159 (encZ (bif ssB p v t then cls (v.zip (byV p t)) [] else [])) (ssB p v t):=by
 obtain ⟨k,rfl⟩:∃ j,k = j + 1:=⟨k - 1,by omega⟩
 have hvl:=hv.len
 rw [n159,x0c (by omega) p hp t ht]
 simp only [w3o,ssB,spB]
 cases hs:q0j p
 ·have:gsB p v = false:=by simp [gsB,hs]
  rw [this]
  rfl
 cases hq:(kindT p.wide p.vars t == 2)
 ·simp only [Bool.and_false]
  rfl
 simp only [Bool.and_self,Bool.not_true,cond_false,cond_true,Bool.and_true]
 rw [q3f (by omega) p hp v (by omega)]
 simp only [z5x]
 cases hg:gsB p v
 ·rfl
 simp only [Bool.not_true,cond_false,cond_true]
 rw [z8i (by omega) hv (y78 hs t).1 (by rw [(q02 hg).2.2,(y78 hs t).2])]
 simp only [x3c]
theorem q9d {k:Nat} (hk:1000500<=k) (p:Prg) (hp:FitP p) {v:List Int} (hv:OkV v) (hg:gsB p v = true):c23 k p.wide p.vars (encT p.start) (q0c p.cmds) (encZ v) = r23 (q0u v 0) true:=by
 obtain ⟨k,rfl⟩:∃ j,k = j + 1:=⟨k - 1,by omega⟩
 have hvl:=hv.len
 obtain ⟨h1,h2,h3⟩:=q02 hg
 have:=(q2p h1).1
 rw [n23,q3f (by omega) p hp v (by omega),hg]
 simp only [z5x,Bool.not_true,cond_false]
 rw [z1e (by omega) (by omega) (by rintro rfl;simp at h3;omega) h2]
 simp only [x19]
end Go.Proofs.YtgdegfijcijnoaaGreat
/- Terms as trees. -/
namespace Go.Proofs.YtgdegfijcijnoaaGreat
open Go.Dp
inductive Tr where
 | leaf (x:Nd)
 | un (x:Nd) (a:Tr)
 | bin (x:Nd) (a b:Tr)
end Go.Proofs.YtgdegfijcijnoaaGreat
/- Folding: the plain laws. -/
namespace Go.Proofs.YtgdegfijcijnoaaGreat
open Go.Dp
end Go.Proofs.YtgdegfijcijnoaaGreat
/- Folding: the functions. -/
namespace Go.Proofs.YtgdegfijcijnoaaGreat
open Go.Dp
theorem w1:IntKind.i64.wrap ((1:Int) - 1) = 0:=(q0b (by omega) (by omega)).trans (by omega)
end Go.Proofs.YtgdegfijcijnoaaGreat
/- FnFolded: folding's functions and the law. -/
namespace Go.Proofs.YtgdegfijcijnoaaGreat
open Go.Dp
end Go.Proofs.YtgdegfijcijnoaaGreat
/- FnFolded: the law. -/
namespace Go.Proofs.YtgdegfijcijnoaaGreat
open Go.Dp
end Go.Proofs.YtgdegfijcijnoaaGreat
/- Steps between numbered states. -/
namespace Go.Proofs.YtgdegfijcijnoaaGreat
open Go.Dp
def aft (p:Prg) (c:Cmd) (no:Int):List W:=q01 p.wide (sto p no) c.ch (sto p no)
def toN (p:Prg) (c:Cmd) (no:Int):Int:=(noOf (pw p) (aft p c no):Nat)
theorem y59 {p:Prg} (hp:FitP p) (hs:q0j p = true) {k1:Int} (hn:q2h p k1 = true) {no:Int} (hi:inS p no):stOK p (aft p (q0m p k1) no) = true /\ inS p (toN p (q0m p k1) no) /\ sto p (toN p (q0m p k1) no) = aft p (q0m p k1) no:=by
 obtain ⟨hw,hv,_,_,_,_,hx⟩:=q5q hp (k1:=k1) (by simp [tOK,q1q hs,hn])
 obtain ⟨h1,h2⟩:=(q4q hw).1 (q5h hs hi)
 have h3:stOK p (aft p (q0m p k1) no) = true:=(q4q hw).2 ⟨by rw [aft,q7k];exact h1,z1b h1 h2 _ _ (fun x h=>(hx x h).2.2) h2⟩
 exact ⟨h3,w3c hs h3⟩
theorem x4i {k:Nat} (hk:1000020<=k) {p:Prg} (hp:FitP p) (hs:q0j p = true) {k1:Int} (hn:q2h p k1 = true) (l1 l2 l3:List PV) {no:Int} (hi:inS p no):c146 k p.wide p.vars l1 l2 l3 (q0y (q0m p k1).ch) (encW (sto p no)) = r146 (encW (aft p (q0m p k1) no)):=by
 obtain ⟨hw,hv,_,_,hf,_,hx⟩:=q5q hp (k1:=k1) (by simp [tOK,q1q hs,hn])
 have hso:=q5h hs hi
 obtain ⟨h1,h2⟩:=(q4q hw).1 hso
 have hsl:=x5n hp hso
 have hfc:=hf.ch
 exact x6m (by omega) p hw l1 l2 l3 _ (by omega) h1 h2 _ (by omega) (fun x h=>⟨(hx x h).1,(hx x h).2.1,(hx x h).2.2,hf.by1 x h⟩)
theorem w3t {k:Nat} (hk:1000020<=k) {p:Prg} (hp:FitP p) (hs:q0j p = true) {k1:Int} (hn:q2h p k1 = true) (l1:List PV) {no:Int} (hi:inS p no):c233 k p.wide p.vars l1 (q0c p.cmds) (encW (sto p no)) k1 = r233 (encW (aft p (q0m p k1) no)):=by
 obtain ⟨k,rfl⟩:∃ j,k = j + 1:=⟨k - 1,by omega⟩
 obtain ⟨hw,hv,_,_,hf,_,hx⟩:=q5q hp (k1:=k1) (by simp [tOK,q1q hs,hn])
 have hso:=q5h hs hi
 obtain ⟨h1,h2⟩:=(q4q hw).1 hso
 have hsl:=x5n hp hso
 have hfc:=hf.ch
 obtain ⟨hget,hm⟩:=q50 hn
 rw [n233,hget,q5k,q0r (by omega) (by omega)]
 simp only [cond_true,Option.bind_some,q3v,q2c,List.nil_append,Nat.zero_add]
 have:=x1i (k:=k) (by omega) p hw l1 (q0c p.cmds) _ h1 h2 (q0m p k1).ch (by omega) (fun x h=>⟨(hx x h).1,(hx x h).2.1,(hx x h).2.2,hf.by1 x h⟩) k 0 _ (by omega) (by omega) rfl
 exact this
theorem x77 {p:Prg} (hp:FitP p) (hs:q0j p = true) {k1:Int} (hn:q2h p k1 = true):(q0m p k1).wh.length<=100 /\ kindT p.wide p.vars (q0m p k1).wh = 2:=by
 obtain ⟨hw,hv,_,_,hf,h1,hx⟩:=q5q hp (k1:=k1) (by simp [tOK,q1q hs,hn])
 exact ⟨hf.wh,h1⟩
end Go.Proofs.YtgdegfijcijnoaaGreat
/- The states that one step reaches: both sides;those of many states,the reference's reachable ones. -/
namespace Go.Proofs.YtgdegfijcijnoaaGreat
open Go.Dp
def sucL (p:Prg) (no:Int):List Cmd->List Int
 | []=>[]
 | c :: l=>(bif hN p c.wh no then [toN p c no] else []) ++ sucL p no l
theorem z8o (p:Prg) (no:Int):∀ l:List Cmd,(sucL p no l).length<=l.length
 | []=>by simp [sucL]
 | c :: l=>by
  have:=z8o p no l
  simp only [sucL,List.length_append,List.length_cons]
  cases hN p c.wh no <;> simp <;> omega
theorem z2c (p:Prg) (no:Int):∀ (l:List Cmd) (y:Int),y ∈ sucL p no l ↔ ∃ c ∈ l,hN p c.wh no = true /\ y = toN p c no
 | [],y=>by simp [sucL]
 | c :: l,y=>by
  simp only [sucL,List.mem_append,z2c p no l y]
  cases hh:hN p c.wh no <;> simp [hh]
def nxL (p:Prg) (no:Int):List Int:=bif (sucL p no p.cmds).isEmpty then [no] else canI (sucL p no p.cmds)
theorem x38 {l:List Int} (h:l ≠ []):canI l ≠ []:=by
 intro h2
 obtain ⟨x,hx⟩:=List.exists_mem_of_ne_nil _ h
 have:=((z3e l).2 x).2 hx
 rw [h2] at this
 cases this
theorem y52 {p:Prg} {i:Nat} (h:i < p.cmds.length):q0m p (i:Int) = p.cmds[i] /\ q2h p (i:Int) = true:=by
 refine ⟨?_,by simp [q2h,h]⟩
 unfold q0m
 rw [Int.toNat_natCast,List.getElem?_eq_getElem h]
 rfl
theorem y2r {p:Prg} {no y:Int}:y ∈ nxL p no ↔ (∃ c ∈ p.cmds,hN p c.wh no = true /\ y = toN p c no) ∨ ((∀ c ∈ p.cmds,hN p c.wh no = false) /\ y = no):=by
 unfold nxL
 cases he:(sucL p no p.cmds).isEmpty
 ·have hne:sucL p no p.cmds ≠ []:=by intro h;rw [h] at he;cases he
  simp only [cond_false]
  rw [(z3e _).2 y,z2c]
  constructor
  ·exact .inl
  ·rintro (h | ⟨h,_⟩)
   ·exact h
   ·obtain ⟨x,hx⟩:=List.exists_mem_of_ne_nil _ hne
    obtain ⟨c,hc,h2,_⟩:=(z2c p no p.cmds x).1 hx
    rw [h c hc] at h2
    cases h2
 ·have hnil:sucL p no p.cmds = []:=by simpa using he
  simp only [cond_true,List.mem_singleton]
  have hno:∀ c ∈ p.cmds,hN p c.wh no = false:=by
   intro c hc
   cases hh:hN p c.wh no
   ·rfl
   ·have:toN p c no ∈ sucL p no p.cmds:=(z2c p no p.cmds _).2 ⟨c,hc,hh,rfl⟩
    rw [hnil] at this
    cases this
  constructor
  ·exact fun h=>.inr ⟨hno,h⟩
  ·rintro (⟨c,hc,h2,_⟩ | ⟨_,h⟩)
   ·rw [hno c hc] at h2;cases h2
   ·exact h
theorem z5l {p:Prg} (hp:FitP p) (no:Int):(nxL p no).length<=6:=by
 have hcm:=hp.cm
 unfold nxL
 cases (sucL p no p.cmds).isEmpty
 ·have h1:=y7p (sucL p no p.cmds)
  have h2:=z8o p no p.cmds
  simp only [cond_false];omega
 ·simp
theorem q80 {p:Prg} (hp:FitP p) (hs:q0j p = true) {no:Int} (hi:inS p no):∀ y ∈ nxL p no,inS p y:=by
 intro y hy
 rcases y2r.1 hy with ⟨c,hc,_,rfl⟩ | ⟨_,rfl⟩
 ·obtain ⟨i,hil,rfl⟩:=List.getElem_of_mem hc
  obtain ⟨e,hn⟩:=y52 hil
  rw [<- e]
  exact (y59 hp hs hn hi).2.1
 ·exact hi
theorem z18 {k:Nat} (hk:1000100<=k) {p:Prg} (hp:FitP p) (hs:q0j p = true) {no:Int} (hi:inS p no) (l1:List PV):∀ (n i:Nat) (o:List Int),p.cmds.length - i < n->i<=p.cmds.length->o.length<=i ->
  y0k k n no (encW (sto p no)) o.length (q0c p.cmds) (p.cmds.length:Int) (i:Int) p.wide p.vars l1 (q0c p.cmds) (encZ o) = r68 (encZ (bif (o ++ sucL p no (p.cmds.drop i)).isEmpty then [no] else canI (o ++ sucL p no (p.cmds.drop i))))
 | 0,i,o,h,hj,ho=>by omega
 | n + 1,i,o,h,hj,ho=>by
  have hcm:=hp.cm
  have etk:(encZ o).take o.length = encZ o:=by rw [List.take_of_length_le (by simp)]
  rw [w41]
  by_cases hlt:i < p.cmds.length
  ·have hd:decide ((i:Int) < (p.cmds.length:Int)) = true:=by simpa using hlt
   have hnext:IntKind.i64.wrap ((i:Int) + 1) = ((i + 1:Nat):Int):=by rw [q0b (by omega) (by omega)];omega
   obtain ⟨e,hn⟩:=y52 hlt
   obtain ⟨hwl,hwk⟩:=x77 hp hs hn
   rw [hd,q0o,q2i,List.getElem?_eq_getElem hlt,q0f hlt,hnext,<- e]
   simp only [cond_true,Option.map_some,Option.bind_some,q5w,q6u,q3v]
   rw [z3p (by omega) p (q1q hs) _ _ _ hwl hwk _ (q5h hs hi)]
   simp only [x16,sucL]
   change (bif hN p (q0m p (i:Int)).wh no then _ else _) = _
   cases hh:hN p (q0m p (i:Int)).wh no
   ·simp only [cond_false,List.nil_append]
    exact z18 hk hp hs hi l1 n (i + 1) o (by omega) (by omega) (by omega)
   ·simp only [cond_true]
    rw [x4i (by omega) hp hs hn _ _ _ hi]
    simp only [w34]
    rw [w3p (by omega) hs _ _ (y59 hp hs hn hi).1]
    simp only [w5q]
    rw [q0r (by omega) (by omega),etk,q1i]
    simp only [cond_true]
    have:=z18 hk hp hs hi l1 n (i + 1) (o ++ [toN p (q0m p (i:Int)) no]) (by omega) (by omega) (by simp;omega)
    rw [List.length_append,List.append_assoc] at this
    exact this
  ·have hd:decide ((i:Int) < (p.cmds.length:Int)) = false:=by simpa using hlt
   have hol:decide (o.length<=LIM) = true:=decide_eq_true (by unfold LIM;omega)
   have ed:p.cmds.drop i = []:=List.drop_eq_nil_of_le (by omega)
   rw [hd,ed]
   simp only [cond_false,sucL,List.append_nil]
   cases o with
   | nil=>rfl
   | cons x o =>
    have e0:(((x :: o).length:Int) == 0) = false:=by simp;omega
    rw [e0,etk,z15,hol]
    simp only [cond_false,cond_true,Option.bind_some]
    rw [x6i,z15]
    simp only [Option.bind_some]
    rw [x39]
    rfl
theorem y8o {k:Nat} (hk:1000200<=k) {p:Prg} (hp:FitP p) (hs:q0j p = true) {no:Int} (hi:inS p no) (l1:List PV):c68 k p.wide p.vars l1 (q0c p.cmds) no = r68 (encZ (nxL p no)):=by
 obtain ⟨k,rfl⟩:∃ j,k = j + 1:=⟨k - 1,by omega⟩
 have hcm:=hp.cm
 rw [n68,z5m (by omega) hs _ _ hi]
 simp only [y5v,q1h]
 exact z18 (k:=k) (by omega) hp hs hi l1 k 0 [] (by omega) (by omega) (by simp)
theorem sucE (p:Prg) (no:Int):∀ (i:Nat),i<=p.cmds.length->(enL p (sto p no) i (p.cmds.drop i)).map (fun j=>toN p (q0m p j) no) = sucL p no (p.cmds.drop i):=by
 intro i hi
 generalize hm:p.cmds.length - i = m
 induction m generalizing i with
 | zero=>rw [List.drop_eq_nil_of_le (by omega)];rfl
 | succ m ih =>
  have hlt:i < p.cmds.length:=by omega
  rw [q0f hlt]
  simp only [enL,sucL,List.map_append,ih (i + 1) (by omega) (by omega)]
  congr 1
  obtain ⟨e,_⟩:=y52 hlt
  change (bif hN p p.cmds[i].wh no then [(i:Int)] else []).map _ = _
  cases hN p p.cmds[i].wh no
  ·rfl
  ·simp [e]
theorem y02 {k:Nat} (hk:1000100<=k) {p:Prg} (hp:FitP p) (hs:q0j p = true) {no:Int} (hi:inS p no) (l1:List PV) (en:List Int) (hen:en.length<=100) (hin:∀ j ∈ en,q2h p j = true):∀ (n i:Nat) (o:List Int),en.length - i < n->i<=en.length->o.length<=i ->
  z5c k n no (encW (sto p no)) o.length (encZ en) (en.length:Int) (i:Int) p.wide p.vars l1 (q0c p.cmds) (encZ o) = r184 (encZ (bif (q1g o ((en.drop i).map fun j=>toN p (q0m p j) no)).isEmpty then [no] else q1g o ((en.drop i).map fun j=>toN p (q0m p j) no)))
 | 0,i,o,h,hj,ho=>by omega
 | n + 1,i,o,h,hj,ho=>by
  have etk:(encZ o).take o.length = encZ o:=by rw [List.take_of_length_le (by simp)]
  rw [w0k,etk]
  by_cases hlt:i < en.length
  ·have hd:decide ((i:Int) < (en.length:Int)) = true:=by simpa using hlt
   have hnext:IntKind.i64.wrap ((i:Int) + 1) = ((i + 1:Nat):Int):=by rw [q0b (by omega) (by omega)];omega
   have hn:=hin _ (List.getElem_mem hlt)
   rw [hd,q0l hlt,q0f hlt,hnext]
   simp only [cond_true,Option.bind_some,q0k,List.map_cons]
   rw [w3t (by omega) hp hs hn _ hi]
   simp only [w2g]
   rw [w31 (by omega) hs _ _ (y59 hp hs hn hi).1]
   simp only [w3v]
   rw [z2l (by omega) o (by omega)]
   simp only [z8u,q0d]
   have hpl:=q60 o (toN p (q0m p en[i]) no)
   exact y02 hk hp hs hi l1 en hen hin n (i + 1) (putI o (toN p (q0m p en[i]) no)) (by omega) (by omega) (by omega)
  ·have hd:decide ((i:Int) < (en.length:Int)) = false:=by simpa using hlt
   have ed:en.drop i = []:=List.drop_eq_nil_of_le (by omega)
   rw [hd,ed]
   cases o with
   | nil=>rfl
   | cons x o =>
    have e0:(((x :: o).length:Int) == 0) = false:=by simp;omega
    rw [e0]
    rfl
theorem y6l {k:Nat} (hk:1000200<=k) {p:Prg} (hp:FitP p) (hs:q0j p = true) {no:Int} (hi:inS p no) (l1:List PV):c184 k p.wide p.vars l1 (q0c p.cmds) no = r184 (encZ (nxL p no)):=by
 obtain ⟨k,rfl⟩:∃ j,k = j + 2:=⟨k - 2,by omega⟩
 have hcm:=hp.cm
 rw [n184,x0k (by omega) hs _ _ hi]
 simp only [x4m]
 have hen:=q7g (k:=k) (by omega) p hp (q1q hs) (sto p no) (q5h hs hi) l1 (q0c p.cmds) k 0 [] (by omega) (by omega) (by simp)
 rw [n231,q1h]
 have hen':z0y k k (encW (sto p no)) 0 (q0c p.cmds) (p.cmds.length:Int) 0 p.wide p.vars l1 (q0c p.cmds) [] = _:=hen
 rw [hen']
 simp only [w28,List.nil_append,q0d]
 have hmem:∀ j ∈ enL p (sto p no) 0 p.cmds,q2h p j = true:=by
  intro j hj
  obtain ⟨q,c,hq,_,rfl⟩:=(x1s p (sto p no) p.cmds 0 j).1 hj
  have:=(List.getElem?_eq_some_iff.1 hq).1
  simp [q2h,this]
 have hsl:=z8o p no p.cmds
 have he:=sucE p no 0 (by omega)
 rw [List.drop_zero] at he
 have hel:(enL p (sto p no) 0 p.cmds).length<=100:=by
  have:=congrArg List.length he
  rw [List.length_map] at this
  omega
 have:=y02 (k:=k + 1) (by omega) hp hs hi l1 _ hel hmem (k + 1) 0 [] (by omega) (by omega) (by simp)
 rw [List.drop_zero,he] at this
 have h':z5c (k + 1) (k + 1) no (encW (sto p no)) 0 (encZ (enL p (sto p no) 0 (p.cmds.drop 0))) ((enL p (sto p no) 0 (p.cmds.drop 0)).length:Int) 0 p.wide p.vars l1 (q0c p.cmds) [] = _:=this
 rw [h',<- x8i (l:=sucL p no p.cmds) (m:=sucL p no p.cmds) (fun x=>Iff.rfl)]
 congr 2
 unfold nxL
 cases hq:(sucL p no p.cmds).isEmpty
 ·have hne:sucL p no p.cmds ≠ []:=by intro h;rw [h] at hq;cases hq
  have:(canI (sucL p no p.cmds)).isEmpty = false:=by
   cases hc:canI (sucL p no p.cmds) with
   | nil=>exact absurd hc (x38 hne)
   | cons=>rfl
  rw [this]
 ·have hnil:sucL p no p.cmds = []:=by simpa using hq
  rw [hnil,show canI ([]:List Int) = [] from List.eq_nil_of_length_eq_zero (Nat.le_zero.1 (y7p []))]
  rfl
end Go.Proofs.YtgdegfijcijnoaaGreat
/- The reference's reachable states. -/
namespace Go.Proofs.YtgdegfijcijnoaaGreat
open Go.Dp
theorem y2g:∀ (l:List Int) (lo hi:Int),l.Pairwise (· < ·)->(∀ x ∈ l,lo<=x /\ x < hi)->(l.length:Int)<=max 0 (hi - lo)
 | [],lo,hi,_,_=>by simp;omega
 | x :: l,lo,hi,h,hb=>by
  have hx:=hb x (by simp)
  have h1:=List.pairwise_cons.1 h
  have:=y2g l (x + 1) hi h1.2 fun y hy=>⟨by have:=h1.1 y hy;omega,(hb y (by simp [hy])).2⟩
  simp only [List.length_cons]
  omega
theorem y18 {p:Prg} (hs:q0j p = true) {l:List Int} (hl:l.Pairwise (· < ·)) (hi:∀ x ∈ l,inS p x):l.length<=32:=by
 have h1:=y2g l 0 (nS p:Int) hl fun x hx=>hi x hx
 have h2:=(q2p hs).2
 omega
def q1x (p:Prg):List Int->List Int
 | []=>[]
 | x :: l=>nxL p x ++ q1x p l
theorem q5g (p:Prg):∀ (l:List Int) (y:Int),y ∈ q1x p l ↔ ∃ x ∈ l,y ∈ nxL p x
 | [],y=>by simp [q1x]
 | x :: l,y=>by simp [q1x,q5g p l y]
theorem z6r {k:Nat} (hk:1000100<=k) (p:Prg) (l1 l2:List PV) (n1:Nat) (t10:List PV) (t11:Int) (i:Nat) (l:List Int) (hl:l.length<=100):∀ (n j:Nat) (o:List Int),l.length - j < n->j<=l.length->o.length<=700 + j ->
  z3g k n1 n o.length t10 t11 (i:Int) (encZ l) (l.length:Int) (j:Int) p.wide p.vars l1 l2 (encZ o) = z4n k n1 (q1g o (l.drop j)).length t10 t11 (IntKind.i64.wrap ((i:Int) + 1)) p.wide p.vars l1 l2 (encZ (q1g o (l.drop j)))
 | 0,j,o,hn,hj,ho=>by omega
 | n + 1,j,o,hn,hj,ho=>by
  have etk:(encZ o).take o.length = encZ o:=by rw [List.take_of_length_le (by simp)]
  rw [w2f]
  by_cases hlt:j < l.length
  ·have hd:decide ((j:Int) < (l.length:Int)) = true:=by simpa using hlt
   have hnext:IntKind.i64.wrap ((j:Int) + 1) = ((j + 1:Nat):Int):=by rw [q0b (by omega) (by omega)];omega
   rw [hd,q0l hlt,q0f hlt,hnext,etk]
   simp only [cond_true,Option.bind_some,q0k]
   rw [z2l (by omega) o (by omega)]
   simp only [z8u,q0d]
   have hpl:=q60 o l[j]
   exact z6r hk p l1 l2 n1 t10 t11 i l hl n (j + 1) (putI o l[j]) (by omega) (by omega) (by omega)
  ·have hd:decide ((j:Int) < (l.length:Int)) = false:=by simpa using hlt
   rw [hd,List.drop_eq_nil_of_le (by omega)]
   rfl
theorem z68 {k:Nat} (hk:1000300<=k) {p:Prg} (hp:FitP p) (hs:q0j p = true) (l1:List PV) (l:List Int) (hl:l.length<=100) (hin:∀ x ∈ l,inS p x):∀ (n i:Nat) (o:List Int),l.length - i < n->i<=l.length->o.length<=6 * i ->
  z4n k n o.length (encZ l) (l.length:Int) (i:Int) p.wide p.vars l1 (q0c p.cmds) (encZ o) = r125 (encZ (q1g o (q1x p (l.drop i))))
 | 0,i,o,hn,hi,ho=>by omega
 | n + 1,i,o,hn,hi,ho=>by
  have etk:(encZ o).take o.length = encZ o:=by rw [List.take_of_length_le (by simp)]
  rw [w10]
  by_cases hlt:i < l.length
  ·have hd:decide ((i:Int) < (l.length:Int)) = true:=by simpa using hlt
   have hnext:IntKind.i64.wrap ((i:Int) + 1) = ((i + 1:Nat):Int):=by rw [q0b (by omega) (by omega)];omega
   have hx:=hin _ (List.getElem_mem hlt)
   rw [hd,q0l hlt,q0f hlt]
   simp only [cond_true,Option.bind_some,q0k]
   rw [y6l (by omega) hp hs hx]
   simp only [x5u,q0d]
   have hnl:=z5l hp l[i]
   have h2:=z6r (k:=k) (by omega) p l1 (q0c p.cmds) n (encZ l) (l.length:Int) i (nxL p l[i]) (by omega) k 0 o (by omega) (by omega) (by omega)
   have h':z3g k n k o.length (encZ l) (l.length:Int) (i:Int) (encZ (nxL p l[i])) ((nxL p l[i]).length:Int) 0 p.wide p.vars l1 (q0c p.cmds) (encZ o) = _:=h2
   rw [h',hnext,List.drop_zero,q1x,y8z]
   have hpl:=z6l (nxL p l[i]) o
   exact z68 hk hp hs l1 l hl hin n (i + 1) _ (by omega) (by omega) (by omega)
  ·have hd:decide ((i:Int) < (l.length:Int)) = false:=by simpa using hlt
   rw [hd,List.drop_eq_nil_of_le (by omega),etk]
   rfl
theorem y1n {k:Nat} (hk:1000400<=k) {p:Prg} (hp:FitP p) (hs:q0j p = true) (l1:List PV) (l:List Int) (hl:l.length<=100) (hin:∀ x ∈ l,inS p x):c125 k p.wide p.vars l1 (q0c p.cmds) (encZ l) = r125 (encZ (q1g [] (q1x p l))):=by
 obtain ⟨k,rfl⟩:∃ j,k = j + 1:=⟨k - 1,by omega⟩
 rw [n125,q0d]
 exact z68 (k:=k) (by omega) hp hs l1 l hl hin k 0 [] (by omega) (by omega) (by simp)
def grow (p:Prg) (o:List Int):List Int:=q1g o (q1g [] (q1x p o))
end Go.Proofs.YtgdegfijcijnoaaGreat
/- The reference's way back. -/
namespace Go.Proofs.YtgdegfijcijnoaaGreat
open Go.Dp
end Go.Proofs.YtgdegfijcijnoaaGreat
/- What is asked of reachable states: the reference's answers,the draws. -/
namespace Go.Proofs.YtgdegfijcijnoaaGreat
open Go.Dp
theorem y75 {p:Prg} (hs:q0j p = true):kindT p.wide p.vars p.start = 2:=by
 have:=q1q hs
 simp only [q1w,Bool.and_eq_true,beq_iff_eq] at this
 exact this.1.1.1
end Go.Proofs.YtgdegfijcijnoaaGreat
/- FnPlayed: the law. -/
namespace Go.Proofs.YtgdegfijcijnoaaGreat
open Go.Dp
end Go.Proofs.YtgdegfijcijnoaaGreat
/- Sights by several conditions;cubes;cuts of the program. -/
namespace Go.Proofs.YtgdegfijcijnoaaGreat
open Go.Dp
theorem z9d (m:Nat):iota m = (List.range' 0 m).map fun (i:Nat)=>(i:Int):=by rw [iota,List.range_eq_range']
theorem x7f (v:List Int):∃ g:Int->Int,v = (iota v.length).map g /\ ∀ i (h:i < v.length),g (i:Int) = v[i]:=by
 refine ⟨fun x=>v.getD x.toNat 0,?_,?_⟩
 ·apply List.ext_getElem
  ·simp [q12]
  ·intro i h1 h2
   simp [iota,h1]
 ·intro i h
  simp [h]
def hasI (some1:List Int) (j:Int):Int:=bif some1.contains j then 1 else 0
theorem q7v (some1:List Int) (j:Int):hasI some1 j = 0 ∨ hasI some1 j = 1:=by
 unfold hasI
 cases some1.contains j
 · exact .inl rfl
 · exact .inr rfl
theorem x0p {some1:List Int} {x y:Int}:hasI some1 x = hasI some1 y ↔ some1.contains x = some1.contains y:=by
 unfold hasI
 cases some1.contains x <;> cases some1.contains y <;> simp
theorem y7h (some1:List Int) (g:Int->Int):∀ (n i:Nat),cutK some1 ((List.range' i n).map fun (j:Nat)=>g (j:Int)) i = (List.range' i n).map fun (j:Nat)=>2 * g (j:Int) + hasI some1 (j:Int)
 | 0,i=>rfl
 | n + 1,i=>by
  rw [List.range'_succ,List.map_cons,List.map_cons,cutK,y7h some1 g n (i + 1)]
  congr 1
  unfold hasI
  cases some1.contains (i:Int) <;> simp
theorem x8k (some1:List Int) (g:Int->Int) (n:Nat):cutV some1 ((iota n).map g) = cls ((iota n).map fun x=>2 * g x + hasI some1 x) []:=by
 have e1:(iota n).map g = (List.range' 0 n).map fun (j:Nat)=>g (j:Int):=by rw [z9d,List.map_map];rfl
 have e2:(iota n).map (fun x=>2 * g x + hasI some1 x) = (List.range' 0 n).map fun (j:Nat)=>2 * g (j:Int) + hasI some1 (j:Int):=by rw [z9d,List.map_map];rfl
 rw [cutV,e1,e2,y7h]
theorem w1q (some1:List Int) (g:Int->Int) (x y:Int):2 * g x + hasI some1 x = 2 * g y + hasI some1 y ↔ g x = g y /\ some1.contains x = some1.contains y:=by
 rw [<- x0p]
 rcases q7v some1 x with h1 | h1 <;> rcases q7v some1 y with h2 | h2 <;> rw [h1,h2] <;> omega
def inV (n:Nat) (some1:List Int):List Int:=(iota n).map (hasI some1)
theorem x97 (n:Nat) (l:List Int) (a:Int) (h0:0<=a) (h1:a < (n:Int)):(inV n l).set a.toNat 1 = inV n (l ++ [a]):=by
 apply List.ext_getElem
 ·simp [inV,q12]
 ·intro i h2 h3
  have hi:i < n:=by simpa [inV,q12] using h3
  rw [List.getElem_set]
  simp only [inV,iota,List.getElem_map,List.getElem_range]
  split
  ·rename_i e
   have:(i:Int) = a:=by omega
   rw [this]
   simp [hasI]
  ·rename_i e
   have hne:(i:Int) ≠ a:=by omega
   have hc:(l ++ [a]).contains (i:Int) = l.contains (i:Int):=by
    rw [Bool.eq_iff_iff,List.contains_iff_mem,List.contains_iff_mem,List.mem_append,List.mem_singleton]
    exact ⟨fun h=>h.resolve_right hne,.inl⟩
   unfold hasI
   rw [hc]
theorem q5a (n:Nat) (l:List Int):(inV n l).length = n:=by simp [inV,q12]
theorem w0r {n:Nat} (hn:n<=100) (l:List Int):OkV (inV n l):=by
 refine ⟨by rw [q5a];exact hn,fun x hx=>?_⟩
 obtain ⟨y,_,rfl⟩:=List.mem_map.1 hx
 rcases q7v l y with h | h <;> rw [h] <;> omega
theorem y3y {k:Nat} (hk:1020<=k) {v:List Int} (hv:OkV v) (u:List PV) (some1:List Int) (hin:∀ x ∈ some1,0<=x /\ x < (v.length:Int)) (hs:some1.length<=1000):∀ (n i:Nat),some1.length - i < n->i<=some1.length ->
  z85 k n (encZ some1) (some1.length:Int) (i:Int) (encZ v) u v.length (encZ (inV v.length (some1.take i))) = r79 (encZ (cls (v.zip (inV v.length some1)) []))
 | 0,i,h,hi=>by omega
 | n + 1,i,h,hi=>by
  rw [w32]
  have hvl:=hv.len
  by_cases hlt:i < some1.length
  ·have hd:decide ((i:Int) < (some1.length:Int)) = true:=by simpa using hlt
   have hnext:IntKind.i64.wrap ((i:Int) + 1) = ((i + 1:Nat):Int):=by rw [q0b (by omega) (by omega)];omega
   have hr:=hin _ (List.getElem_mem hlt)
   have hg:(decide ((0:Int)<=some1[i]) && decide (some1[i] < (v.length:Int))) = true:=by
    rw [decide_eq_true hr.1,decide_eq_true hr.2];rfl
   have hx:∃ z,(encZ (inV v.length (some1.take i)))[0 + (some1[i]).toNat]? = some z:=by
    rw [Nat.zero_add]
    exact ⟨_,List.getElem?_eq_getElem (by rw [q0d,q5a];omega)⟩
   obtain ⟨z,hz⟩:=hx
   rw [hd,q0l hlt,hnext]
   simp only [cond_true,Option.bind_some,q0k]
   rw [hg,hz]
   simp only [cond_true,Option.bind_some,Nat.zero_add]
   rw [q8m,x97 _ _ _ hr.1 hr.2,<- List.take_succ_eq_append_getElem hlt]
   exact y3y hk hv u some1 hin hs n (i + 1) (by omega) (by omega)
  ·have hd:decide ((i:Int) < (some1.length:Int)) = false:=by simpa using hlt
   have hf:some1.take i = some1:=List.take_of_length_le (by omega)
   have htk:(encZ (inV v.length some1)).take v.length = encZ (inV v.length some1):=List.take_of_length_le (by simp [q5a])
   rw [hd,hf,htk,z8i (by omega) hv (w0r (by omega) some1) (q5a _ _).symm]
   simp only [x3c,cond_false]
theorem z5p (v some1:List Int):cls (v.zip (inV v.length some1)) [] = cutV some1 v:=by
 obtain ⟨g,h1,_⟩:=x7f v
 have e:v.zip (inV v.length some1) = (iota v.length).map fun x=>(g x,hasI some1 x):=by
  conv=>lhs;arg 1;rw [h1]
  exact z19 _ _ _
 rw [e]
 conv=>rhs;rw [h1]
 rw [x8k]
 refine z2k _ _ _ fun x hx y hy=>?_
 rw [Prod.mk.injEq,w1q,x0p]
def stF (c:Int):List Int->Nat->List Int
 | [],_=>[]
 | x :: l,i=>bif x == c then (i:Int) :: stF c l (i + 1) else stF c l (i + 1)
theorem y2s (c:Int):∀ (l:List Int) (i:Nat) (x:Int),x ∈ stF c l i ↔ ∃ j,∃ h:j < l.length,x = ((i + j:Nat):Int) /\ l[j] = c
 | [],i,x=>by simp [stF]
 | y :: l,i,x=>by
  have key:(x ∈ stF c (y :: l) i) ↔ (y = c /\ x = (i:Int)) ∨ x ∈ stF c l (i + 1):=by
   rw [stF]
   by_cases h:y = c
   ·have h1:(y == c) = true:=by simpa using h
    rw [h1,cond_true,List.mem_cons]
    constructor
    ·rintro (h2 | h2)
     ·exact .inl ⟨h,h2⟩
     ·exact .inr h2
    ·rintro (⟨_,h2⟩ | h2)
     ·exact .inl h2
     ·exact .inr h2
   ·have h1:(y == c) = false:=by simpa using h
    rw [h1,cond_false]
    exact ⟨.inr,fun h2=>h2.resolve_left fun h3=>h h3.1⟩
  rw [key,y2s c l (i + 1)]
  constructor
  ·rintro (⟨h1,h2⟩ | ⟨j,hj,h1,h2⟩)
   ·exact ⟨0,by simp,by simpa using h2,h1⟩
   ·exact ⟨j + 1,by simp;omega,by rw [h1];congr 1;omega,h2⟩
  ·rintro ⟨j,hj,h1,h2⟩
   cases j with
   | zero=>exact .inl ⟨h2,by simpa using h1⟩
   | succ j=>exact .inr ⟨j,by simpa using hj,by rw [h1];congr 1;omega,h2⟩
theorem x1m (c:Int):∀ (l:List Int) (i:Nat),(stF c l i).length<=l.length
 | [],i=>by simp [stF]
 | y :: l,i=>by
  have:=x1m c l (i + 1)
  rw [stF]
  cases (y == c) <;> simp <;> omega
def stV (v:List Int) (c:Int):List Int:=stF c v 0
theorem q7l {k:Nat} (c:Int) (v:List Int) (hv:v.length<=1000):∀ (n i:Nat) (o:List Int),v.length - i < n->i<=v.length->o.length<=i ->
  z32 k n c o.length (encZ v) (v.length:Int) (i:Int) (encZ o) = r173 (encZ (o ++ stF c (v.drop i) i))
 | 0,i,o,h,hi,ho=>by omega
 | n + 1,i,o,h,hi,ho=>by
  rw [w1p,q1d]
  by_cases hlt:i < v.length
  ·have hd:decide ((i:Int) < (v.length:Int)) = true:=by simpa using hlt
   have hnext:IntKind.i64.wrap ((i:Int) + 1) = ((i + 1:Nat):Int):=by rw [q0b (by omega) (by omega)];omega
   rw [hd,q0l hlt,q0f hlt,hnext]
   simp only [cond_true,Option.bind_some,q0k,stF]
   cases (v[i] == c)
   ·exact q7l c v hv n (i + 1) o (by omega) (by omega) (by omega)
   ·rw [q0r (by omega) (by omega),q1i]
    have:=q7l (k:=k) c v hv n (i + 1) (o ++ [(i:Int)]) (by omega) (by omega) (by simp;omega)
    rw [List.length_append,List.append_assoc] at this
    exact this
  ·have hd:decide ((i:Int) < (v.length:Int)) = false:=by simpa using hlt
   rw [hd,List.drop_eq_nil_of_le (by omega)]
   simp [stF]
theorem y87 {k:Nat} (hk:1010<=k) {v:List Int} (hv:v.length<=1000) (c:Int):c173 k (encZ v) c = r173 (encZ (stV v c)):=by
 obtain ⟨k,rfl⟩:∃ j,k = j + 1:=⟨k - 1,by omega⟩
 rw [n173,q0d]
 have:=q7l (k:=k) c v hv k 0 [] (by omega) (by omega) (by simp)
 simpa [stV,encZ] using this
theorem y0i {k:Nat} (hk:1000600<=k) (p:Prg) (hp:FitP p) {v:List Int} (hv:OkV v) (c:Int):c90 k p.wide p.vars (encT p.start) (q0c p.cmds) (encZ v) c = r90 (gsB p v && (decide (0<=c) && decide (c < q0u v 0))):=by
 obtain ⟨k,rfl⟩:∃ j,k = j + 1:=⟨k - 1,by omega⟩
 have hvl:=hv.len
 rw [n90,q3f (by omega) p hp v (by omega)]
 simp only [z5x]
 cases hg:gsB p v
 · rfl
 obtain ⟨s1,s2,s3⟩:=q02 hg
 have:=(q2p s1).1
 simp only [cond_true,Bool.true_and,ge_iff_le]
 cases h0:decide (0<=c)
 · rfl
 simp only [cond_true,Bool.true_and]
 rw [z1e (by omega) (by omega) (by rintro rfl;simp at s3;omega) s2]
 simp only [x19]
end Go.Proofs.YtgdegfijcijnoaaGreat
/- Graphs of small programs. -/
namespace Go.Proofs.YtgdegfijcijnoaaGreat
open Go.Dp
def q0z (l:List (List Int)):List PV:=l.map fun z=>.row 0 0 (encZ z)
@[simp] theorem q2n (l:List (List Int)):(q0z l).length = l.length:=by simp [q0z]
theorem q5z (l:List (List Int)) (i:Nat):(q0z l)[i]? = (l[i]?).map fun z=>.row 0 0 (encZ z):=by simp [q0z]
theorem z2a (l:List (List Int)) (x:List Int):q0z l ++ [.row 0 0 (encZ x)] = q0z (l ++ [x]):=by simp [q0z]
def q53 (p:Prg):Nat->Nat->List (List Int)
 | 0,i=>[]
 | m + 1,i=>nxL p (i:Int) :: q53 p m (i + 1)
def q30 (p:Prg):List (List Int):=q53 p (nS p) 0
theorem z12 (p:Prg):∀ (m i:Nat),(q53 p m i).length = m
 | 0,i=>rfl
 | m + 1,i=>by simp [q53,z12 p m]
theorem y1d (p:Prg):∀ (m i j:Nat),j < m->(q53 p m i)[j]? = some (nxL p ((i + j:Nat):Int))
 | 0,i,j,h=>by omega
 | m + 1,i,0,h=>by simp [q53]
 | m + 1,i,j + 1,h=>by
  rw [q53,List.getElem?_cons_succ,y1d p m (i + 1) j (by omega)]
  congr 3
  omega
theorem z88 {k:Nat} (hk:1000300<=k) {p:Prg} (hp:FitP p) (hs:q0j p = true) (l1:List PV):∀ (m n i:Nat) (o:List (List Int)),m < n->i + m = nS p->o.length = i ->
  y0f k n o.length (nS p:Int) (i:Int) p.wide p.vars l1 (q0c p.cmds) (q0z o) = r109 (q0z (o ++ q53 p m i))
 | m,0,i,o,hn,hm,ho=>by omega
 | 0,n + 1,i,o,hn,hm,ho=>by
  have hd:decide ((i:Int) < (nS p:Int)) = false:=by simp;omega
  have etk:(q0z o).take o.length = q0z o:=by rw [List.take_of_length_le (by simp)]
  rw [x0o,hd,etk,q53,List.append_nil]
  rfl
 | m + 1,n + 1,i,o,hn,hm,ho=>by
  have hle:=(q2p hs).2
  have hd:decide ((i:Int) < (nS p:Int)) = true:=by simp;omega
  have hnext:IntKind.i64.wrap ((i:Int) + 1) = ((i + 1:Nat):Int):=by rw [q0b (by omega) (by omega)];omega
  have etk:(q0z o).take o.length = q0z o:=by rw [List.take_of_length_le (by simp)]
  rw [x0o,hd,y8o (by omega) hp hs ⟨by omega,by omega⟩,hnext,etk]
  simp only [cond_true,x8m]
  rw [q0r (by omega) (by omega),z2a]
  simp only [cond_true]
  have:=z88 hk hp hs l1 m n (i + 1) (o ++ [nxL p (i:Int)]) (by omega) (by omega) (by simp;omega)
  rw [List.length_append,List.append_assoc] at this
  exact this
theorem x8d {k:Nat} (hk:1000400<=k) {p:Prg} (hp:FitP p) (hs:q0j p = true) (l1:List PV):c109 k p.wide p.vars l1 (q0c p.cmds) = r109 (q0z (q30 p)):=by
 obtain ⟨k,rfl⟩:∃ j,k = j + 1:=⟨k - 1,by omega⟩
 have hle:=(q2p hs).2
 rw [n109,z4o (by omega) hs]
 simp only [z3x]
 exact z88 (k:=k) (by omega) hp hs l1 (nS p) k 0 [] (by omega) (by omega) rfl
end Go.Proofs.YtgdegfijcijnoaaGreat
/- Graphs turned around. -/
namespace Go.Proofs.YtgdegfijcijnoaaGreat
open Go.Dp
def atL (o:List (List Int)) (w:Nat):List Int:=(o[w]?).getD []
end Go.Proofs.YtgdegfijcijnoaaGreat
/- Breadth first: the least numbers of steps. -/
namespace Go.Proofs.YtgdegfijcijnoaaGreat
open Go.Dp
def dAt (d:List Int) (v:Int):Int:=(d[v.toNat]?).getD (-1)
def inG (N:Nat) (v:Int):Prop:=0<=v /\ v.toNat < N
end Go.Proofs.YtgdegfijcijnoaaGreat
/- A row made of one value,many times over. -/
namespace Go.Proofs.YtgdegfijcijnoaaGreat
open Go.Dp
end Go.Proofs.YtgdegfijcijnoaaGreat
/- The program's numbers of steps: breadth first. -/
namespace Go.Proofs.YtgdegfijcijnoaaGreat
open Go.Dp
theorem w19 {N:Nat} {v:Int} (h:inG N v):(decide ((0:Int)<=v) && decide (v < (N:Int))) = true:=by
 obtain ⟨h0,h1⟩:=h
 rw [decide_eq_true h0,decide_eq_true (by omega)]
 rfl
structure GrF (G:List PV) (g:List (List Int)):Prop where
 len:G.length = g.length
 row:∀ i,i < g.length->∃ p,G[i]? = some p /\ p.atRow 0 0 = some (encZ (atL g i))
theorem GrF.at {G:List PV} {g:List (List Int)} (h:GrF G g) {v:Int} (hv:inG g.length v):(q0i G v).bind (fun p=>p.atRow 0 0) = some (encZ (atL g v.toNat)):=by
 obtain ⟨p,h1,h2⟩:=h.row v.toNat hv.2
 have:v = ((v.toNat:Nat):Int):=by have:=hv.1;omega
 rw [this,q0o,Int.toNat_natCast,h1]
 exact h2
theorem GrF.bind {G:List PV} {g:List (List Int)} (h:GrF G g) {v:Int} (hv:inG g.length v) {α:Type} (K:List PV->Option α):((q0i G v).bind fun p=>(p.atRow 0 0).bind fun l=>K l) = K (encZ (atL g v.toNat)):=by
 have:=h.at hv
 cases hl:q0i G v with
 | none=>rw [hl] at this;cases this
 | some p =>
  rw [hl] at this
  simp only [Option.bind_some] at this ⊢
  rw [this]
  rfl
section
variable {k:Nat} {G:List PV} (h:Int)
end
end Go.Proofs.YtgdegfijcijnoaaGreat
/- What the program reaches,forth and back. -/
namespace Go.Proofs.YtgdegfijcijnoaaGreat
open Go.Dp
theorem q3s {p:Prg} {x:Int}:inG (nS p) x ↔ inS p x:=by
 unfold inG inS
 omega
theorem x27 (p:Prg):(q30 p).length = nS p:=z12 p (nS p) 0
theorem x35 (p:Prg) (i:Nat):atL (q30 p) i = if i < nS p then nxL p (i:Int) else []:=by
 unfold atL q30
 by_cases h:i < nS p
 · rw [y1d p _ _ _ h,if_pos h,Nat.zero_add];rfl
 · rw [List.getElem?_eq_none (by rw [z12];omega),if_neg h];rfl
theorem x0r {p:Prg} (hs:q0j p = true) (t:List Nd):(whI p t).length<=32:=y18 hs (y8l p t _ _) fun x hx=>((q4r p t x).1 hx).1
end Go.Proofs.YtgdegfijcijnoaaGreat
/- The classes of a program's states: their steps,their graph,what is reached. -/
namespace Go.Proofs.YtgdegfijcijnoaaGreat
open Go.Dp
theorem x4q (c:Int):∀ (l:List Int) (i:Nat),(stF c l i).Pairwise (· < ·) /\ ∀ x ∈ stF c l i,(i:Int)<=x
 | [],i=>by simp [stF]
 | y :: l,i=>by
  obtain ⟨h1,h2⟩:=x4q c l (i + 1)
  rw [stF]
  cases (y == c)
  ·exact ⟨h1,fun x hx=>by have:=h2 x hx;omega⟩
  ·refine ⟨List.pairwise_cons.2 ⟨fun x hx=>by have:=h2 x hx;omega,h1⟩,fun x hx=>?_⟩
   rcases List.mem_cons.1 hx with rfl | hx
   ·exact Int.le_refl _
   ·have:=h2 x hx
    omega
def mkB (bs:List Bool) (i:Nat):List Int:=stF 1 (bs.map fun b=>bif b then 1 else 0) i
theorem z0c {k:Nat} (bs:List Bool) (hl:bs.length<=1000):∀ (n i:Nat) (o:List Int),bs.length - i < n->i<=bs.length->o.length<=i ->
  z3t k n o.length (q2a bs) (bs.length:Int) (i:Int) (encZ o) = r170 (encZ (o ++ mkB (bs.drop i) i))
 | 0,i,o,h,hi,ho=>by omega
 | n + 1,i,o,h,hi,ho=>by
  rw [x9q,q1d]
  by_cases hlt:i < bs.length
  ·have hd:decide ((i:Int) < (bs.length:Int)) = true:=by simpa using hlt
   have hnext:IntKind.i64.wrap ((i:Int) + 1) = ((i + 1:Nat):Int):=by rw [q0b (by omega) (by omega)];omega
   have hb:(PV.bool bs[i]).atBool 0 = some bs[i]:=rfl
   have hm:mkB (bs.drop i) i = bif bs[i] then (i:Int) :: mkB (bs.drop (i + 1)) (i + 1) else mkB (bs.drop (i + 1)) (i + 1):=by
    unfold mkB
    rw [q0f hlt,List.map_cons,stF]
    cases bs[i] <;> rfl
   rw [hd,q0o,x3y,List.getElem?_eq_getElem hlt,hnext,hm]
   simp only [cond_true,Option.map_some,Option.bind_some,hb]
   cases bs[i]
   ·exact z0c bs hl n (i + 1) o (by omega) (by omega) (by omega)
   ·simp only [cond_true]
    rw [q0r (by omega) (by omega),q1i]
    have:=z0c (k:=k) bs hl n (i + 1) (o ++ [(i:Int)]) (by omega) (by omega) (by simp;omega)
    rw [List.length_append,List.append_assoc] at this
    exact this
  ·have hd:decide ((i:Int) < (bs.length:Int)) = false:=by simpa using hlt
   rw [hd,List.drop_eq_nil_of_le (by omega)]
   simp [mkB,stF]
theorem x36 {k:Nat} (hk:1010<=k) (bs:List Bool) (hl:bs.length<=1000):c170 k (q2a bs) = r170 (encZ (mkB bs 0)):=by
 obtain ⟨k,rfl⟩:∃ j,k = j + 1:=⟨k - 1,by omega⟩
 have e:(q2a bs).length = bs.length:=by simp [q2a]
 rw [n170,e]
 have:=z0c (k:=k) bs hl k 0 [] (by omega) (by omega) (by simp)
 rw [List.drop_zero,List.nil_append] at this
 exact this
theorem x5m (l:List Int) (K0:List PV->R):x8n (r170 (encZ l)) K0 = K0 (encZ l):=by
 have h:([SV.c (.own 3 0 (encZ l))].all q04 && true) = true:=by simp [q04,q1u,q3n];rfl
 show (bif ([SV.c (.own 3 0 (encZ l))].all q04 && true) then K0 (encZ l) else none) = _
 rw [h]
 rfl
def clV (v l:List Int):List Int:=q1g [] (l.map (dAt v))
theorem q6q (v l:List Int) (x:Int):x ∈ clV v l ↔ ∃ y ∈ l,dAt v y = x:=by
 unfold clV
 rw [(q11 (l.map (dAt v)) [] (by simp)).2,List.mem_map]
 simp
theorem z9s (v l:List Int):(clV v l).Pairwise (· < ·):=(q11 (l.map (dAt v)) [] (by simp)).1
theorem x7y {v l m:List Int} (h:∀ x,x ∈ l ↔ x ∈ m):clV v l = clV v m :=
 z8y (z9s v l) (z9s v m) fun x=>by
  rw [q6q,q6q]
  exact ⟨fun ⟨y,h1,h2⟩=>⟨y,(h y).1 h1,h2⟩,fun ⟨y,h1,h2⟩=>⟨y,(h y).2 h1,h2⟩⟩
theorem q79 {v:List Int} {x:Int} (h:x.toNat < v.length):dAt v x = v[x.toNat]:=by simp [dAt,h]
theorem x0v {v:List Int} (hg:q1j v 0 = true) {x:Int} (h:x.toNat < v.length):0<=dAt v x /\ dAt v x < q0u v 0:=by
 rw [q79 h]
 exact z0q v 0 hg _ (List.getElem_mem h)
theorem y5j {v:List Int} {x:Int} (h0:0<=x) (h1:x.toNat < v.length):q0i (encZ v) x = some (.int .i64 (dAt v x)):=by
 have e:x = ((x.toNat:Nat):Int):=by omega
 conv=>lhs;rw [e]
 rw [q0l h1,q79 h1]
theorem w2c {v l:List Int} (hg:q1j v 0 = true) (hl:∀ x ∈ l,inG v.length x):∀ x ∈ clV v l,0<=x /\ x < q0u v 0:=by
 intro x hx
 obtain ⟨y,h1,rfl⟩:=(q6q v l x).1 hx
 exact x0v hg (hl y h1).2
theorem z00 {v:List Int} (hg:q1j v 0 = true):0<=q0u v 0 /\ q0u v 0<=(v.length:Int):=by
 have h2:=(z14 hg).2
 have h3:(dis v []).length<=v.length:=q43 (q5 v [] (by simp)) (fun x hx=>by simpa using (q32 v [] x).1 hx)
 omega
theorem x1d {v l:List Int} (hg:q1j v 0 = true) (hl:∀ x ∈ l,inG v.length x):(clV v l).length<=v.length:=by
 have h:=y2g (clV v l) 0 (q0u v 0) (z9s v l) (w2c hg hl)
 have:=z00 hg
 omega
def inB (m:Nat) (l:List Int):List Bool:=(iota m).map fun c=>l.contains c
theorem z52 (m:Nat) (l:List Int):(inB m l).length = m:=by simp [inB,q12]
theorem w1r (n:Nat) (l:List Int) (a:Int) (h0:0<=a) (h1:a < (n:Int)):(inB n l).set a.toNat true = inB n (l ++ [a]):=by
 apply List.ext_getElem
 ·simp [inB,q12]
 ·intro i h2 h3
  have hi:i < n:=by simpa [inB,q12] using h3
  rw [List.getElem_set]
  simp only [inB,iota,List.getElem_map,List.getElem_range]
  split
  ·rename_i e
   have:(i:Int) = a:=by omega
   rw [this]
   simp
  ·rename_i e
   have hne:(i:Int) ≠ a:=by omega
   rw [Bool.eq_iff_iff,List.contains_iff_mem,List.contains_iff_mem,List.mem_append,List.mem_singleton]
   exact ⟨.inl,fun h=>h.resolve_right hne⟩
theorem x40 (l:List Bool) (i:Nat) (b:Bool):(q2a l).set i (.bool b) = q2a (l.set i b):=by simp [q2a,List.map_set]
theorem w0m {m:Nat} {l:List Int} (hl:∀ x ∈ l,0<=x /\ x < (m:Int)):mkB (inB m l) 0 = q1g [] l:=by
 refine z8y (x4q _ _ _).1 (q11 l [] (by simp)).1 fun x=>?_
 rw [(q11 l [] (by simp)).2,mkB,y2s]
 simp only [List.not_mem_nil,false_or]
 constructor
 ·rintro ⟨j,hj,rfl,h⟩
  have hj2:j < m:=by simpa [inB,q12] using hj
  simp only [inB,iota,List.getElem_map,List.getElem_range] at h
  cases hc:l.contains (j:Int)
  ·rw [hc] at h
   simp at h
  ·simpa using hc
 ·intro h
  have hx:=hl x h
  refine ⟨x.toNat,by simp [inB,q12];omega,by omega,?_⟩
  have e:((x.toNat:Nat):Int) = x:=by omega
  have hc:l.contains x = true:=by simpa using h
  simp only [inB,iota,List.getElem_map,List.getElem_range,e,hc]
  rfl
theorem w57 {p:Prg} (hs:q0j p = true) {v:List Int} (h:v.length = nS p):v ≠ []:=by
 have:=(q2p hs).1
 rintro rfl
 simp at h
 omega
theorem y3h {k:Nat} (hk:2000<=k) {v:List Int} (hv:OkV v) (so:List Int) (hin:∀ x ∈ so,inG v.length x) (hs:so.length<=500):∀ (n i:Nat) (o:List Int),so.length - i < n->i<=so.length->o.length<=i ->
  y0n k n o.length (encZ so) (so.length:Int) (i:Int) (encZ v) (encZ o) = r181 (encZ (q1g o ((so.drop i).map (dAt v))))
 | 0,i,o,h,hi,ho=>by omega
 | n + 1,i,o,h,hi,ho=>by
  rw [w0o,q1d]
  by_cases hlt:i < so.length
  ·have hd:decide ((i:Int) < (so.length:Int)) = true:=by simpa using hlt
   have hnext:IntKind.i64.wrap ((i:Int) + 1) = ((i + 1:Nat):Int):=by rw [q0b (by omega) (by omega)];omega
   have hx:=hin _ (List.getElem_mem hlt)
   have hpl:=q60 o (dAt v so[i])
   rw [hd,q0l hlt,q0f hlt,hnext]
   simp only [cond_true,Option.bind_some,q0k]
   rw [y5j hx.1 hx.2]
   simp only [Option.bind_some,q0k]
   rw [z2l hk o (by omega)]
   simp only [z8u,q0d,List.map_cons]
   exact y3h hk hv so hin hs n (i + 1) _ (by omega) (by omega) (by omega)
  ·have hd:decide ((i:Int) < (so.length:Int)) = false:=by simpa using hlt
   rw [hd,List.drop_eq_nil_of_le (by omega)]
   rfl
theorem y2f {k:Nat} (hk:2010<=k) {v:List Int} (hv:OkV v) (so:List Int) (hin:∀ x ∈ so,inG v.length x) (hs:so.length<=500):c181 k (encZ v) (encZ so) = r181 (encZ (clV v so)):=by
 obtain ⟨k,rfl⟩:∃ j,k = j + 1:=⟨k - 1,by omega⟩
 rw [n181,q0d]
 exact y3h (k:=k) (by omega) hv so hin hs k 0 [] (by omega) (by omega) (by simp)
theorem z1k {k:Nat} (c:Int) (v:List Int) (hv:v.length<=1000):∀ (n i:Nat) (o:List Int),v.length - i < n->i<=v.length->o.length<=i ->
  z4l k n c o.length (encZ v) (v.length:Int) (i:Int) (encZ o) = r227 (encZ (o ++ stF c (v.drop i) i))
 | 0,i,o,h,hi,ho=>by omega
 | n + 1,i,o,h,hi,ho=>by
  rw [w12,q1d]
  by_cases hlt:i < v.length
  ·have hd:decide ((i:Int) < (v.length:Int)) = true:=by simpa using hlt
   have hnext:IntKind.i64.wrap ((i:Int) + 1) = ((i + 1:Nat):Int):=by rw [q0b (by omega) (by omega)];omega
   rw [hd,q0l hlt,q0f hlt,hnext]
   simp only [cond_true,Option.bind_some,q0k,stF]
   cases (v[i] == c)
   ·exact z1k c v hv n (i + 1) o (by omega) (by omega) (by omega)
   ·rw [q0r (by omega) (by omega),q1i]
    have:=z1k (k:=k) c v hv n (i + 1) (o ++ [(i:Int)]) (by omega) (by omega) (by simp;omega)
    rw [List.length_append,List.append_assoc] at this
    exact this
  ·have hd:decide ((i:Int) < (v.length:Int)) = false:=by simpa using hlt
   rw [hd,List.drop_eq_nil_of_le (by omega)]
   simp [stF]
theorem y6n {k:Nat} (hk:1010<=k) {v:List Int} (hv:v.length<=1000) (c:Int):c227 k (encZ v) c = r227 (encZ (stV v c)):=by
 obtain ⟨k,rfl⟩:∃ j,k = j + 1:=⟨k - 1,by omega⟩
 rw [n227,q0d]
 have:=z1k (k:=k) c v hv k 0 [] (by omega) (by omega) (by simp)
 simpa [stV,encZ] using this
theorem q8h {v:List Int} {c x:Int}:x ∈ stV v c ↔ inG v.length x /\ dAt v x = c:=by
 rw [stV,y2s]
 constructor
 ·rintro ⟨j,hj,rfl,h⟩
  refine ⟨⟨by omega,by omega⟩,?_⟩
  rw [q79 (by omega)]
  simpa using h
 ·rintro ⟨⟨h1,h2⟩,h3⟩
  exact ⟨x.toNat,h2,by omega,by rw [<- q79 h2];exact h3⟩
theorem z01 (v:List Int) (c:Int):(stV v c).length<=v.length:=x1m c v 0
theorem z0z {p:Prg} {v:List Int} (hn:v.length = nS p) (c:Int):∀ x ∈ stV v c,inS p x:=by
 intro x hx
 have:=(q8h.1 hx).1
 rw [hn] at this
 exact q3s.1 this
theorem x4b {p:Prg} (hp:FitP p) (hs:q0j p = true) {v:List Int} (hn:v.length = nS p) {l:List Int} (hl:∀ x ∈ l,inS p x):∀ x ∈ q1x p l,inG v.length x:=by
 intro x hx
 obtain ⟨y,h1,h2⟩:=(q5g p l x).1 hx
 rw [hn]
 exact q3s.2 (q80 hp hs (hl y h1) x h2)
def stpL (p:Prg) (v:List Int) (c:Int):List Int:=clV v (q1x p (stV v c))
theorem x1z {k:Nat} (hk:1000500<=k) {p:Prg} (hp:FitP p) (hs:q0j p = true) (l1:List PV) {v:List Int} (hv:OkV v) (hn:v.length = nS p) (c:Int):c202 k p.wide p.vars l1 (q0c p.cmds) (encZ v) c = r202 (encZ (stpL p v c)):=by
 obtain ⟨k,rfl⟩:∃ j,k = j + 1:=⟨k - 1,by omega⟩
 have hvl:=hv.len
 have hsl:=z01 v c
 have hsi:=z0z hn c
 obtain ⟨q1,q2⟩:=q11 (q1x p (stV v c)) [] (by simp)
 have hmem:∀ x,x ∈ q1g [] (q1x p (stV v c)) ↔ x ∈ q1x p (stV v c):=fun x=>by rw [q2];simp
 have hin:∀ x ∈ q1g [] (q1x p (stV v c)),inG v.length x:=fun x hx=>x4b hp hs hn hsi x ((hmem x).1 hx)
 have hlen:=y18 hs q1 (fun x hx=>q3s.1 (by have:=hin x hx;rw [hn] at this;exact this))
 rw [n202,y6n (by omega) (by omega)]
 simp only [x44]
 rw [y1n (by omega) hp hs l1 (stV v c) (by omega) hsi]
 simp only [x5x]
 rw [y2f (by omega) hv _ hin (by omega),x7y hmem]
 simp only [y8b]
 rfl
theorem x7d {p:Prg} (hp:FitP p) (hs:q0j p = true) {v:List Int} (hn:v.length = nS p) (hg:q1j v 0 = true) (c:Int):(stpL p v c).length<=v.length:=x1d hg (x4b hp hs hn (z0z hn c))
theorem y5x (p:Prg) (v:List Int) (c x:Int):x ∈ stpL p v c ↔ ∃ y,inG v.length y /\ dAt v y = c /\ ∃ z ∈ nxL p y,dAt v z = x:=by
 rw [stpL,q6q]
 constructor
 ·rintro ⟨z,h1,h2⟩
  obtain ⟨y,h3,h4⟩:=(q5g p _ z).1 h1
  obtain ⟨h5,h6⟩:=q8h.1 h3
  exact ⟨y,h5,h6,z,h4,h2⟩
 ·rintro ⟨y,h5,h6,z,h4,h2⟩
  exact ⟨z,(q5g p _ z).2 ⟨y,q8h.2 ⟨h5,h6⟩,h4⟩,h2⟩
theorem w5f {p:Prg} (hp:FitP p) (hs:q0j p = true) {v:List Int} (hn:v.length = nS p) {no:Int} (hi:inS p no):∀ x ∈ nxL p no,inG v.length x:=by
 intro x hx
 rw [hn]
 exact q3s.2 (q80 hp hs hi x hx)
theorem q9s {k:Nat} (v:List Int) (hv:v.length<=1000):∀ (n i m:Nat),v.length - i < n->i<=v.length->m<=i->q1j (v.drop i) (m:Int) = true ->
  z3d k n (m:Int) (encZ v) (v.length:Int) (i:Int) = r208 (q0u (v.drop i) (m:Int))
 | 0,i,m,h,hi,hm,hg=>by omega
 | n + 1,i,m,h,hi,hm,hg=>by
  rw [x9u]
  by_cases hlt:i < v.length
  ·have hd:decide ((i:Int) < (v.length:Int)) = true:=by simpa using hlt
   have hnext:IntKind.i64.wrap ((i:Int) + 1) = ((i + 1:Nat):Int):=by rw [q0b (by omega) (by omega)];omega
   rw [q0f hlt] at hg ⊢
   simp only [q1j,Bool.and_eq_true,decide_eq_true_eq] at hg
   obtain ⟨h1,h2,h3⟩:=hg
   rw [hd,q0l hlt,hnext]
   simp only [cond_true,Option.bind_some,q0k,q0u]
   by_cases e:v[i] = (m:Int)
   ·have e1:(v[i] == (m:Int)) = true:=by simpa using e
    have e2:decide (v[i]>=(m:Int)) = true:=decide_eq_true (by omega)
    have e3:IntKind.i64.wrap (v[i] + 1) = ((m + 1:Nat):Int):=by rw [e,q0b (by omega) (by omega)];omega
    have e4:(m:Int) + 1 = ((m + 1:Nat):Int):=by omega
    rw [e1] at h3 ⊢
    rw [e2,e3]
    simp only [cond_true] at h3 ⊢
    rw [e4] at h3 ⊢
    exact q9s v hv n (i + 1) (m + 1) (by omega) (by omega) (by omega) h3
   ·have e1:(v[i] == (m:Int)) = false:=by simpa using e
    have e2:decide (v[i]>=(m:Int)) = false:=decide_eq_false (by omega)
    rw [e1] at h3 ⊢
    rw [e2]
    simp only [cond_false] at h3 ⊢
    exact q9s v hv n (i + 1) m (by omega) (by omega) (by omega) h3
  ·have hd:decide ((i:Int) < (v.length:Int)) = false:=by simpa using hlt
   rw [hd,List.drop_eq_nil_of_le (by omega)]
   rfl
theorem y3z {k:Nat} (hk:1010<=k) {v:List Int} (hv:v.length<=1000) (hg:q1j v 0 = true):c208 k (encZ v) = r208 (q0u v 0):=by
 obtain ⟨k,rfl⟩:∃ j,k = j + 1:=⟨k - 1,by omega⟩
 rw [n208,q0d]
 exact q9s (k:=k) v hv k 0 0 (by omega) (by omega) (by omega) hg
def y71 (p:Prg) (v:List Int):List Int:=clV v (whI p p.start)
theorem y8f {p:Prg} {v:List Int} (hn:v.length = nS p) (t:List Nd):∀ x ∈ whI p t,inG v.length x:=by
 intro x hx
 rw [hn]
 exact q3s.2 ((q4r p t x).1 hx).1
end Go.Proofs.YtgdegfijcijnoaaGreat
/- Least ways. -/
namespace Go.Proofs.YtgdegfijcijnoaaGreat
open Go.Dp
section
variable {k:Nat}
end
end Go.Proofs.YtgdegfijcijnoaaGreat
/- Stuck states,numbers of steps,paths. -/
namespace Go.Proofs.YtgdegfijcijnoaaGreat
open Go.Dp
end Go.Proofs.YtgdegfijcijnoaaGreat
/- The states along a path of classes,and the least path of states through them. -/
namespace Go.Proofs.YtgdegfijcijnoaaGreat
open Go.Dp
def nxS (p:Prg) (l:List Int):List Int:=q1g [] (q1x p l)
theorem x1w (p:Prg) (l:List Int) (x:Int):x ∈ nxS p l ↔ ∃ y ∈ l,x ∈ nxL p y:=by
 rw [nxS,(q11 (q1x p l) [] (by simp)).2,q5g]
 simp
structure SL (p:Prg) (l:List Int):Prop where
 lt:l.Pairwise (· < ·)
 is:∀ x ∈ l,inS p x
theorem SL.len {p:Prg} (hs:q0j p = true) {l:List Int} (h:SL p l):l.length<=32:=y18 hs h.lt h.is
theorem y0w {p:Prg} (hp:FitP p) (hs:q0j p = true) {l:List Int} (h:SL p l):SL p (nxS p l) :=
 ⟨(q11 (q1x p l) [] (by simp)).1,fun x hx=>let ⟨y,h1,h2⟩:=(x1w p l x).1 hx;q80 hp hs (h.is y h1) x h2⟩
theorem SL.filter {p:Prg} {l:List Int} (h:SL p l) (f:Int->Bool):SL p (l.filter f):=⟨h.lt.filter f,fun x hx=>h.is x (List.mem_filter.1 hx).1⟩
def sel (v:List Int) (c:Int) (l:List Int):List Int:=l.filter fun x=>dAt v x == c
theorem x1t {v:List Int} {c x:Int} {l:List Int}:x ∈ sel v c l ↔ x ∈ l /\ dAt v x = c:=by simp [sel]
def q2m (p:Prg) (v:List Int):List Int->List Int->List (List Int)
 | _,[]=>[]
 | s,c :: path=>sel v c s :: q2m p v (nxS p (sel v c s)) path
def q0t (p:Prg) (v path:List Int):List (List Int):=q2m p v (whI p p.start) path
theorem z8w (p:Prg) (v:List Int):∀ (path s:List Int),(q2m p v s path).length = path.length
 | [],s=>rfl
 | c :: path,s=>by rw [q2m,List.length_cons,z8w p v path,List.length_cons]
theorem q4k (p:Prg) (v path:List Int):(q0t p v path).length = path.length:=z8w p v path _
theorem y3c {p:Prg} (hp:FitP p) (hs:q0j p = true) (v:List Int):∀ (path s:List Int),SL p s->∀ l ∈ q2m p v s path,SL p l
 | [],s,h,l,hl=>by simp [q2m] at hl
 | c :: path,s,h,l,hl=>by
  rw [q2m] at hl
  rcases List.mem_cons.1 hl with rfl | hl
  ·exact h.filter _
  ·exact y3c hp hs v path _ (y0w hp hs (h.filter _)) l hl
theorem z8a (p:Prg):SL p (whI p p.start):=⟨y8l p p.start _ _,fun x hx=>((q4r p p.start x).1 hx).1⟩
theorem y3a {p:Prg} (hp:FitP p) (hs:q0j p = true) (v path:List Int):∀ l ∈ q0t p v path,SL p l:=y3c hp hs v path _ (z8a p)
theorem z1t (p:Prg) (v:List Int):∀ (path s:List Int) (k:Nat) (h:k < path.length),∃ s',(q2m p v s path)[k]? = some (sel v path[k] s') /\ (k = 0->s' = s) /\ ∀ j,k = j + 1->∃ g,(q2m p v s path)[j]? = some g /\ s' = nxS p g
 | [],s,k,h=>by simp at h
 | c :: path,s,0,h=>⟨s,rfl,fun _=>rfl,fun j hj=>by omega⟩
 | c :: path,s,k + 1,h=>by
  obtain ⟨s',h1,h2,h3⟩:=z1t p v path (nxS p (sel v c s)) k (by simpa using h)
  refine ⟨s',by rw [q2m,List.getElem?_cons_succ,h1];rfl,fun h=>by omega,fun j hj=>?_⟩
  obtain rfl:k = j:=by omega
  cases k with
  | zero=>exact ⟨sel v c s,rfl,h2 rfl⟩
  | succ k =>
   obtain ⟨g,h4,h5⟩:=h3 k rfl
   exact ⟨g,by rw [q2m,List.getElem?_cons_succ,h4],h5⟩
def Each:List Int->List (List Int)->Prop
 | [],[]=>True
 | y :: ys,c :: l=>y ∈ c /\ Each ys l
 | _,_=>False
def q07 (g:List (List Int)):Int:=fixI List.isEmpty 0 g
theorem z9i {g:List (List Int)} (h:0<=q07 g):∃ j,∃ hj:j < g.length,q07 g = (j:Int) /\ g[j] = [] /\ ∀ i (hi:i < j),g[i]'(by omega) ≠ []:=by
 rcases q4w List.isEmpty g 0 with ⟨h1,h2⟩ | ⟨j,hj,h1,h2,h3⟩
 ·unfold q07 at h
  rw [h1] at h
  omega
 ·refine ⟨j,hj,by unfold q07;rw [h1,Nat.zero_add],by simpa using h2,fun i hi h0=>?_⟩
  have:=h3 i hi
  rw [h0] at this
  cases this
theorem x5c (g:List (List Int)):-1<=q07 g /\ q07 g < (g.length:Int):=by
 by_cases h:0<=q07 g
 ·obtain ⟨j,hj,h1,_⟩:=z9i h
  omega
 ·rcases q4w List.isEmpty g 0 with ⟨h1,_⟩ | ⟨j,hj,h1,_⟩
  ·unfold q07;rw [h1];omega
  ·unfold q07 at h;rw [h1] at h;omega
def onL (p:Prg) (v:List Int) (c d:Int):List Int:=(stV v c).filter fun x=>(nxL p x).any fun y=>dAt v y == d
theorem x21 {p:Prg} (hp:FitP p) (hs:q0j p = true) {v:List Int} (hn:v.length = nS p) {path:List Int} {j:Nat} (hj:j + 1 < path.length) {d:List Int} (hd:(q0t p v path)[j]? = some d) (h0:(q0t p v path)[j + 1]? = some []) :
  (∀ x ∈ d,x ∈ stV v path[j]) /\ ∀ x ∈ d,x ∉ onL p v path[j] path[j + 1]:=by
 obtain ⟨s',h1,h2,h3⟩:=z1t p v path (whI p p.start) (j + 1) hj
 obtain ⟨g,h4,h5⟩:=h3 j rfl
 have e1:g = d:=by
  have:=h4.symm.trans hd
  injection this
 subst e1
 have e2:sel v path[j + 1] s' = []:=by
  have:=h1.symm.trans h0
  injection this
 obtain ⟨s2,h6,_,_⟩:=z1t p v path (whI p p.start) j (by omega)
 have e3:g = sel v path[j] s2:=by
  have:=h4.symm.trans h6
  injection this
 have hsl:=y3a hp hs v path g (List.mem_of_getElem? hd)
 refine ⟨fun x hx=>q8h.2 ⟨by rw [hn];exact q3s.2 (hsl.is x hx),?_⟩,fun x hx ho=>?_⟩
 ·rw [e3] at hx
  exact (x1t.1 hx).2
 ·obtain ⟨y,hy,hc⟩:=List.any_eq_true.1 (List.mem_filter.1 ho).2
  have:y ∈ sel v path[j + 1] s':=x1t.2 ⟨by rw [h5];exact (x1w p g y).2 ⟨x,hx,hy⟩,by simpa using hc⟩
  rw [e2] at this
  cases this
end Go.Proofs.YtgdegfijcijnoaaGreat
/- The reference's ways through a graph;its graph of classes. -/
namespace Go.Proofs.YtgdegfijcijnoaaGreat
open Go.Dp
section
variable {k:Nat} {G:List PV} (h:Int)
end
end Go.Proofs.YtgdegfijcijnoaaGreat
/- The reference's paths;the draws of paths. -/
namespace Go.Proofs.YtgdegfijcijnoaaGreat
open Go.Dp
theorem w2i (p:Prg) (x:Int):nxL p x ≠ []:=by
 intro h
 have key:∀ y,¬ y ∈ nxL p x:=by rw [h];simp
 by_cases hb:∃ c ∈ p.cmds,hN p c.wh x = true
 ·obtain ⟨c,hc,hh⟩:=hb
  exact key _ (y2r.2 (.inl ⟨c,hc,hh,rfl⟩))
 ·refine key x (y2r.2 (.inr ⟨fun c hc=>?_,rfl⟩))
  cases hh:hN p c.wh x
  ·rfl
  ·exact absurd ⟨c,hc,hh⟩ hb
end Go.Proofs.YtgdegfijcijnoaaGreat
/- FnCovered: paths of states are paths of classes. -/
namespace Go.Proofs.YtgdegfijcijnoaaGreat
open Go.Dp
def y2i (p:Prg) (v:List Int):List Int:=bif gsB p v then y71 p v else []
theorem y0c {k:Nat} (hk:1000700<=k) (p:Prg) (hp:FitP p) {v:List Int} (hv:OkV v):c134 k p.wide p.vars (encT p.start) (q0c p.cmds) (encZ v) = r134 (encZ (y2i p v)) (gsB p v):=by
 obtain ⟨k,rfl⟩:∃ j,k = j + 1:=⟨k - 1,by omega⟩
 have hvl:=hv.len
 have hst:=hp.st
 rw [n134,q5n (by omega) p hp v (by omega)]
 simp only [z80,y2i]
 cases hgs:gsB p v
 · rfl
 obtain ⟨s1,s2,s3⟩:=q02 hgs
 have hwl:=x0r s1 p.start
 simp only [Bool.not_true,cond_false,cond_true]
 rw [z2i (by omega) s1 _ _ p.start (by omega) (y75 s1)]
 simp only [y1h]
 rw [y2f (by omega) hv _ (y8f s3 p.start) (by omega)]
 simp only [y8b]
 rfl
def inN (n:Int) (x:Int):Bool:=decide (0<=x) && decide (x < n)
theorem y4b {k:Nat} (hk:1<=k) (l:List Int) (hl:l.length<=1000) (b:Int):∀ (n i:Nat),l.length - i < n->i<=l.length->z89 k n 0 (b - 1) (encZ l) (l.length:Int) (i:Int) = r207 ((l.drop i).all (inN b))
 | 0,i,h,hi=>by omega
 | n + 1,i,h,hi=>by
  rw [w0v]
  by_cases hlt:i < l.length
  ·have hd:decide ((i:Int) < (l.length:Int)) = true:=by simpa using hlt
   have hnext:IntKind.i64.wrap ((i:Int) + 1) = ((i + 1:Nat):Int):=by rw [q0b (by omega) (by omega)];omega
   have e:(decide (0<=l[i]) && decide (l[i]<=b - 1)) = inN b l[i]:=by
    unfold inN
    congr 1
    rw [decide_eq_decide]
    omega
   rw [hd,q0l hlt,q0f hlt,hnext]
   simp only [cond_true,Option.bind_some,q0k,List.all_cons]
   rw [q6j hk,e]
   simp only [q5m]
   cases inN b l[i]
   ·rfl
   ·exact y4b hk l hl b n (i + 1) (by omega) (by omega)
  ·have hd:decide ((i:Int) < (l.length:Int)) = false:=by simpa using hlt
   rw [hd,List.drop_eq_nil_of_le (by omega)]
   rfl
theorem x9d {k:Nat} (hk:1010<=k) (l:List Int) (hl:l.length<=1000) (b:Int):c207 k (encZ l) 0 (b - 1) = r207 (l.all (inN b)):=by
 obtain ⟨k,rfl⟩:∃ j,k = j + 1:=⟨k - 1,by omega⟩
 rw [n207,q0d]
 exact y4b (k:=k) (by omega) l hl b k 0 (by omega) (by omega)
end Go.Proofs.YtgdegfijcijnoaaGreat
/- Both sides' states along a path of classes,and where it fails. -/
namespace Go.Proofs.YtgdegfijcijnoaaGreat
open Go.Dp
def q3k (p:Prg) (v path:List Int) (most:Int):Bool:=gsB p v && (decide (1<=path.length) && (decide ((path.length:Int)<=most) && path.all (inN (q0u v 0))))
theorem z8z {k:Nat} (m:Int) (f:Int->Bool) (l:List (Int)) (hl:l.length<=100000) (hc:∀ x ∈ l,c153 k x m = r153 (f x)):∀ (n i:Nat),l.length - i < n->i<=l.length->q7u k n (encZ l) m (l.length:Int) (i:Int) = q8t (fixI f i (l.drop i))
 | 0,i,h,hi=>by omega
 | n + 1,i,h,hi=>by
  rw [y9s]
  by_cases hlt:i < l.length
  ·have hd:decide ((i:Int) < (l.length:Int)) = true:=by simpa using hlt
   have hnext:IntKind.i64.wrap ((i:Int) + 1) = ((i + 1:Nat):Int):=by rw [q0b (by omega) (by omega)];omega
   rw [hd,q0l hlt,q0f hlt,hnext]
   simp only [cond_true,Option.bind_some,q0k]
   rw [hc _ (List.getElem_mem hlt)]
   simp only [w2n,fixI]
   cases f l[i]
   ·exact z8z m f l hl hc n (i + 1) (by omega) (by omega)
   ·rfl
  ·have hd:decide ((i:Int) < (l.length:Int)) = false:=by simpa using hlt
   rw [hd,List.drop_eq_nil_of_le (by omega)]
   rfl
theorem x4d {k:Nat} (hk:100010<=k) (m:Int) (f:Int->Bool) (l:List (Int)) (hl:l.length<=100000) (hc:∀ x ∈ l,c153 k x m = r153 (f x)):z73 (k + 1) (encZ l) m = q8t (fixI f 0 l):=by
 rw [x7n,q0d]
 exact z8z (k:=k) m f l hl hc k 0 (by omega) (by omega)
theorem x7p {k:Nat} (hk:100010<=k) (m:Int) (f:Int->Bool) (l:List (Int)) (hl:l.length<=100000) (hc:∀ x ∈ l,c153 k x m = r153 (f x)):y2a (k + 2) (encZ l) m = y10 (l.any f):=by
 rw [x9a,x4d (by omega) m f l hl hc]
 simp only [y9a,q8b]
theorem q6n {k:Nat} (hk:1000600<=k) (p:Prg) (hp:FitP p) {v:List Int} (hv:OkV v) (path:List Int) (hl:path.length<=5000) (most:Int):c73 k p.wide p.vars (encT p.start) (q0c p.cmds) (encZ v) (encZ path) most = r73 (q3k p v path most):=by
 obtain ⟨k,rfl⟩:∃ j,k = j + 4:=⟨k - 4,by omega⟩
 have hvl:=hv.len
 rw [n73,q3f (by omega) p hp v (by omega),q0d]
 simp only [z5x,q3k]
 cases hgs:gsB p v
 ·rfl
 obtain ⟨s1,s2,s3⟩:=q02 hgs
 simp only [Bool.not_true,cond_false,Bool.true_and]
 by_cases h1:1<=path.length
 ·rw [decide_eq_true h1,decide_eq_false (show ¬ (path.length:Int) < 1 by omega)]
  by_cases h2:(path.length:Int)<=most
  ·rw [decide_eq_true h2,decide_eq_false (show ¬ (path.length:Int) > most by omega)]
   simp only [cond_false,Bool.true_and]
   rw [z1e (by omega) (by omega) (w57 s1 s3) s2]
   simp only [x19]
   rw [x7p (k:=k + 1) (by omega) (q0u v 0) (fun x=>!inN (q0u v 0) x) path (by omega) (fun x hx=>by
    rw [n153,inN]
    by_cases a:x < 0
    ·rw [decide_eq_true a,decide_eq_false (show ¬ 0<=x by omega)];rfl
    ·rw [decide_eq_false a,decide_eq_true (show 0<=x by omega)]
     simp only [cond_false,Bool.true_and]
     by_cases b:x < q0u v 0
     ·rw [decide_eq_true b,decide_eq_false (show ¬ x>=q0u v 0 by omega)];rfl
     ·rw [decide_eq_false b,decide_eq_true (show x>=q0u v 0 by omega)];rfl)]
   simp only [x15]
   have e:path.any (fun x=>!inN (q0u v 0) x) = !(path.all (inN (q0u v 0))):=by rw [List.any_eq_not_all_not];simp
   rw [e,Bool.not_not]
  ·rw [decide_eq_false h2,decide_eq_true (show (path.length:Int) > most by omega)]
   rfl
 ·rw [decide_eq_false h1,decide_eq_true (show (path.length:Int) < 1 by omega)]
  rfl
theorem y49 {k:Nat} (hk:1020<=k) {v:List Int} (hv:OkV v) (hg:q1j v 0 = true) (l:List Int) (hl:l.length<=1000):c141 k (encZ v) (encZ l) = r141 (l.all (inN (q0u v 0))):=by
 obtain ⟨k,rfl⟩:∃ j,k = j + 1:=⟨k - 1,by omega⟩
 have hvl:=hv.len
 have hm:=z00 hg
 rw [n141,y3z (by omega) (by omega) hg]
 simp only [x5o]
 rw [q0b (by omega) (by omega),x9d (by omega) l hl]
 simp only [w24]
theorem x3f {k:Nat} (hk:1000600<=k) (p:Prg) (hp:FitP p) {v:List Int} (hv:OkV v) (path:List Int) (hl:path.length<=1000):c87 k p.wide p.vars (encT p.start) (q0c p.cmds) (encZ v) (encZ path) = r87 (q3k p v path 200):=by
 obtain ⟨k,rfl⟩:∃ j,k = j + 1:=⟨k - 1,by omega⟩
 have hvl:=hv.len
 rw [n87,q5n (by omega) p hp v (by omega),q0d]
 simp only [z80,q3k]
 cases hgs:gsB p v
 ·rfl
 obtain ⟨s1,s2,s3⟩:=q02 hgs
 simp only [cond_true,Bool.true_and]
 rw [q6j (by omega)]
 simp only [q5m]
 have e:(decide ((1:Int)<=(path.length:Int)) && decide ((path.length:Int)<=200)) = (decide (1<=path.length) && decide ((path.length:Int)<=200)):=by
  congr 1;rw [decide_eq_decide];omega
 rw [e,<- Bool.and_assoc]
 cases (decide (1<=path.length) && decide ((path.length:Int)<=200))
 ·rfl
 simp only [cond_true,Bool.true_and]
 rw [y49 (by omega) hv s2 path hl]
 simp only [w3q]
theorem q17 {p:Prg} {v path:List Int} {most:Int} (h:q3k p v path most = true):gsB p v = true /\ 1<=path.length /\ (path.length:Int)<=most /\ path.all (inN (q0u v 0)) = true:=by
 simpa [q3k] using h
theorem y22 {k:Nat} (l0:List PV) (c:Int) (f:Int->Bool) (l:List (Int)) (hl:l.length<=100000) (hc:∀ x ∈ l,c172 k x l0 c = r172 (f x)):∀ (n i:Nat),l.length - i < n->i<=l.length->q75 k n (encZ l) l0 c (l.length:Int) (i:Int) = q84 (fixI f i (l.drop i))
 | 0,i,h,hi=>by omega
 | n + 1,i,h,hi=>by
  rw [y8w]
  by_cases hlt:i < l.length
  ·have hd:decide ((i:Int) < (l.length:Int)) = true:=by simpa using hlt
   have hnext:IntKind.i64.wrap ((i:Int) + 1) = ((i + 1:Nat):Int):=by rw [q0b (by omega) (by omega)];omega
   rw [hd,q0l hlt,q0f hlt,hnext]
   simp only [cond_true,Option.bind_some,q0k]
   rw [hc _ (List.getElem_mem hlt)]
   simp only [x46,fixI]
   cases f l[i]
   ·exact y22 l0 c f l hl hc n (i + 1) (by omega) (by omega)
   ·rfl
  ·have hd:decide ((i:Int) < (l.length:Int)) = false:=by simpa using hlt
   rw [hd,List.drop_eq_nil_of_le (by omega)]
   rfl
theorem x8b {k:Nat} (hk:100010<=k) (l0:List PV) (c:Int) (f:Int->Bool) (l:List (Int)) (hl:l.length<=100000) (hc:∀ x ∈ l,c172 k x l0 c = r172 (f x)):z8k (k + 1) (encZ l) l0 c = q84 (fixI f 0 l):=by
 rw [x63,q0d]
 exact y22 (k:=k) l0 c f l hl hc k 0 (by omega) (by omega)
theorem z72 {k:Nat} (l0:List PV) (c:Int) (f:Int->Bool) (s:List Int) (hl:s.length<=100000) (hc:∀ x ∈ s,c172 k x l0 c = r172 (f x)):∀ (n i j:Nat) (xs:List Int),s.length - j < n->j<=s.length->i<=j->xs.length = s.length->xs.take i = (s.take j).filter (fun x=>!f x)->xs.drop j = s.drop j ->
  q6a k n s.length l0 c (i:Int) (j:Int) (encZ xs) = q6m (encZ (s.filter fun x=>!f x))
 | 0,i,j,xs,h,hj,hi,hx,h1,h2=>by omega
 | n + 1,i,j,xs,h,hj,hi,hx,h1,h2=>by
  rw [y9n]
  by_cases hlt:j < s.length
  ·have hd:decide ((j:Int) < (s.length:Int)) = true:=by simpa using hlt
   have hg:(decide ((0:Int)<=(j:Int)) && true) = true:=by rw [decide_eq_true (by omega)];rfl
   have hg2:(decide ((0:Int)<=(i:Int)) && decide ((i:Int) < (s.length:Int))) = true:=by rw [decide_eq_true (by omega),decide_eq_true (by omega)];rfl
   have hnj:IntKind.i64.wrap ((j:Int) + 1) = ((j + 1:Nat):Int):=by rw [q0b (by omega) (by omega)];omega
   have hni:IntKind.i64.wrap ((i:Int) + 1) = ((i + 1:Nat):Int):=by rw [q0b (by omega) (by omega)];omega
   have hxj:xs[j]'(by omega) = s[j]:=by
    have e:=h2
    rw [q0f (by omega),q0f hlt] at e
    exact (List.cons.inj e).1
   have hat:∀ (m:Nat) (hm:m < xs.length),(encZ xs)[0 + (m:Int).toNat]? = some (.int .i64 xs[m]):=by
    intro m hm
    rw [Nat.zero_add,Int.toNat_natCast,q2s,List.getElem?_eq_getElem hm]
    rfl
   rw [hd,hg,hat j (by omega),hxj,hnj]
   simp only [cond_true,Option.bind_some,q0k]
   rw [hc _ (List.getElem_mem hlt)]
   simp only [x46]
   have hd2:xs.drop (j + 1) = s.drop (j + 1):=by rw [<- List.drop_drop,<- List.drop_drop,h2]
   have ht2:s.take (j + 1) = s.take j ++ [s[j]]:=List.take_succ_eq_append_getElem hlt
   cases hf:f s[j]
   ·simp only [Bool.not_false,cond_true]
    rw [hg2,hat i (by omega),hni]
    simp only [cond_true,Option.bind_some,Nat.zero_add,Int.toNat_natCast]
    rw [q8m]
    refine z72 l0 c f s hl hc n (i + 1) (j + 1) (xs.set i s[j]) (by omega) (by omega) (by omega) (by simp;omega) ?_ ?_
    ·rw [List.take_succ_eq_append_getElem (by simp;omega),List.take_set_of_le (by omega),h1,ht2,List.filter_append]
     simp [hf]
    ·rw [List.drop_set_of_lt (by omega),hd2]
   ·simp only [Bool.not_true,cond_false]
    refine z72 l0 c f s hl hc n i (j + 1) xs (by omega) (by omega) (by omega) hx ?_ hd2
    rw [h1,ht2,List.filter_append]
    simp [hf]
  ·have hd:decide ((j:Int) < (s.length:Int)) = false:=by simpa using hlt
   have hg:(decide ((0:Int)<=(i:Int)) && decide ((i:Int)<=(s.length:Int)) && decide ((s.length:Int)<=(s.length:Int))) = true:=by
    rw [decide_eq_true (by omega),decide_eq_true (by omega),decide_eq_true (by omega)];rfl
   have hg2:(decide ((0:Int)<=(i:Int)) && decide ((i:Int)<=(s.length:Int))) = true:=by rw [decide_eq_true (by omega),decide_eq_true (by omega)];rfl
   have hjs:s.take j = s:=List.take_of_length_le (by omega)
   rw [hd,hg,hg2]
   simp only [cond_true,cond_false,Nat.zero_add,Int.toNat_natCast]
   rw [List.append_assoc,List.take_left' (by simp;omega),q42,h1,hjs]
theorem w11 {k:Nat} (hk:100010<=k) (l0:List PV) (c:Int) (f:Int->Bool) (s:List Int) (hl:s.length<=100000) (hc:∀ k',k<=k'->∀ x ∈ s,c172 k' x l0 c = r172 (f x)):q9a (k + 2) (encZ s) l0 c = q6m (encZ (s.filter fun x=>!f x)):=by
 have etk:(encZ s).take s.length = encZ s:=List.take_of_length_le (by simp)
 rw [x7l,q0d,etk,x8b (k:=k) hk l0 c f s hl (hc k (Nat.le_refl k))]
 simp only [y9p]
 rcases q4w f s 0 with ⟨h1,h2⟩ | ⟨j,hj,h1,h2,h3⟩
 ·rw [h1]
  have hall:s.filter (fun x=>!f x) = s:=List.filter_eq_self.2 fun x hx=>by
   obtain ⟨i,hi,rfl⟩:=List.mem_iff_getElem.1 hx
   simp [h2 _ (List.getElem_mem hi)]
  rw [hall]
  rfl
 ·rw [h1]
  have e1:((((0 + j:Nat):Int)) == (-1)) = false:=by rw [beq_eq_false_iff_ne];omega
  have e2:IntKind.i64.wrap (((0 + j:Nat):Int) + 1) = ((j + 1:Nat):Int):=by rw [q0b (by omega) (by omega)];omega
  rw [e1,e2,Nat.zero_add]
  simp only [cond_false]
  have hpre:(s.take j).filter (fun x=>!f x) = s.take j:=List.filter_eq_self.2 fun x hx=>by
   obtain ⟨i,hi,rfl⟩:=List.mem_iff_getElem.1 hx
   rw [List.length_take] at hi
   rw [List.getElem_take]
   simp [h3 i (by omega)]
  refine z72 (k:=k + 1) l0 c f s hl (hc (k + 1) (by omega)) (k + 1) j (j + 1) s (by omega) (by omega) (by omega) rfl ?_ rfl
  rw [List.take_succ_eq_append_getElem hj,List.filter_append,hpre]
  simp [h2]
theorem z26 (l:List Int) (K0:List PV->R):z4p (q6m (encZ l)) K0 = K0 (encZ l):=by
 have h:([SV.c (.own 3 0 (encZ l))].all q04 && true) = true:=by simp [q04,q1u,q3n];rfl
 show (bif ([SV.c (.own 3 0 (encZ l))].all q04 && true) then K0 (encZ l) else none) = _
 rw [h]
 rfl
theorem y4g (l:List Int) (K0:List PV->R):z5f (r139 (encZ l)) K0 = K0 (encZ l):=by
 have h:([SV.c (.own 3 0 (encZ l))].all q04 && true) = true:=by simp [q04,q1u,q3n];rfl
 show (bif ([SV.c (.own 3 0 (encZ l))].all q04 && true) then K0 (encZ l) else none) = _
 rw [h]
 rfl
theorem x1h {k:Nat} (hk:100020<=k) {v:List Int} (l:List Int) (hl:l.length<=1000) (hin:∀ x ∈ l,inG v.length x) (c:Int):q9a k (encZ l) (encZ v) c = q6m (encZ (sel v c l)):=by
 obtain ⟨k,rfl⟩:∃ j,k = j + 2:=⟨k - 2,by omega⟩
 rw [w11 (k:=k) (by omega) (encZ v) c (fun x=>dAt v x != c) l (by omega) (fun k' hk' x hx=>by
  obtain ⟨k',rfl⟩:∃ j,k' = j + 1:=⟨k' - 1,by omega⟩
  have:=hin x hx
  rw [n172,y5j this.1 this.2]
  simp only [Option.bind_some,q0k])]
 congr 2
 apply List.filter_congr
 intro x _
 simp [bne]
theorem x6x {p:Prg} {x:Int} (hx:inS p x):atL (q30 p) x.toNat = nxL p x:=by
 have h0:=hx.1
 have h1:=hx.2
 rw [x35,if_pos (by omega)]
 congr 1
 omega
theorem x4k (p:Prg):GrF (q0z (q30 p)) (q30 p):=by
 refine ⟨q2n _,fun i hi=>⟨_,?_,q09 _ _⟩⟩
 rw [q5z,List.getElem?_eq_getElem hi]
 simp [atL,hi]
section
variable {k:Nat} {p:Prg} (v:List Int) (l1:List PV) (path:List Int)
theorem al3 (n1 n2:Nat) (G:List PV) (oL:Nat) (xs:List PV) (i:Int) (w:List Int) (j:Int) (c:Int) (wl:Int) (hn:nS p<=100) (r:List Int) (hr:r.length<=1000) (hin:∀ x ∈ r,inG (nS p) x):∀ (n q:Nat) (acc:List Int),r.length - q < n->q<=r.length ->
  y1v k n1 n2 n oL G (nS p) (encZ path) (path.length:Int) i w.length wl j (encZ r) (r.length:Int) (q:Int) p.wide p.vars l1 (q0c p.cmds) (encZ v) c xs (q2a (inB (nS p) acc)) (encZ w) =
   z5v k n1 n2 oL G (nS p) (encZ path) (path.length:Int) i w.length wl (IntKind.i64.wrap (j + 1)) p.wide p.vars l1 (q0c p.cmds) (encZ v) c xs (q2a (inB (nS p) (acc ++ r.drop q))) (encZ w)
 | 0,q,acc,h,hq=>by omega
 | n + 1,q,acc,h,hq=>by
  rw [w5]
  by_cases hlt:q < r.length
  ·have hd:decide ((q:Int) < (r.length:Int)) = true:=by simpa using hlt
   have hnext:IntKind.i64.wrap ((q:Int) + 1) = ((q + 1:Nat):Int):=by rw [q0b (by omega) (by omega)];omega
   have hx:=hin _ (List.getElem_mem hlt)
   have hbl:(q2a (inB (nS p) acc)).length = nS p:=by simp [q2a,z52]
   obtain ⟨z,hz⟩:∃ z,(q2a (inB (nS p) acc))[r[q].toNat]? = some z:=⟨_,List.getElem?_eq_getElem (by rw [hbl];exact hx.2)⟩
   rw [hd,q0l hlt,hnext]
   simp only [cond_true,Option.bind_some,q0k]
   rw [w19 hx,Nat.zero_add,hz]
   simp only [cond_true,Option.bind_some]
   rw [x40,w1r _ _ _ hx.1 (by have:=hx.2;omega),al3 n1 n2 G oL xs i w j c wl hn r hr hin n (q + 1) (acc ++ [r[q]]) (by omega) (by omega),q0f hlt,List.append_assoc]
   rfl
  ·have hd:decide ((q:Int) < (r.length:Int)) = false:=by simpa using hlt
   rw [hd,List.drop_eq_nil_of_le (by omega),List.append_nil]
   rfl
theorem al2 (hp:FitP p) (hs:q0j p = true) (hn:v.length = nS p) (hk:1000400<=k) (n1:Nat) (o:List (List Int)) (ho:o.length<=5000) (i:Int) (w:List Int) (hw:SL p w) (c:Int):∀ (n j:Nat) (acc:List Int),w.length - j < n->j<=w.length->acc = q1x p (w.take j) ->
  z5v k n1 n o.length (q0z (q30 p)) (nS p) (encZ path) (path.length:Int) i w.length (w.length:Int) (j:Int) p.wide p.vars l1 (q0c p.cmds) (encZ v) c (q0z o) (q2a (inB (nS p) acc)) (encZ w) =
   z5o k n1 (o.length + 1) (q0z (q30 p)) (sel v c (nxS p w)).length (encZ path) (path.length:Int) (IntKind.i64.wrap (i + 1)) p.wide p.vars l1 (q0c p.cmds) (encZ v) (q0z (o ++ [sel v c (nxS p w)])) (encZ (sel v c (nxS p w)))
 | 0,j,acc,h,hj,ha=>by omega
 | n + 1,j,acc,h,hj,ha=>by
  have hle:=(q2p hs).2
  have hwl:=hw.len hs
  rw [w4l]
  by_cases hlt:j < w.length
  ·have hd:decide ((j:Int) < (w.length:Int)) = true:=by simpa using hlt
   have hd2:(decide ((0:Int)<=(j:Int)) && decide ((j:Int) < (w.length:Int))) = true:=by rw [decide_eq_true (by omega),hd];rfl
   have hnext:IntKind.i64.wrap ((j:Int) + 1) = ((j + 1:Nat):Int):=by rw [q0b (by omega) (by omega)];omega
   have hx:=hw.is _ (List.getElem_mem hlt)
   have hnl:=z5l hp w[j]
   have hat:(encZ w)[0 + (j:Int).toNat]? = some (.int .i64 w[j]):=by rw [Nat.zero_add,Int.toNat_natCast,q2s,List.getElem?_eq_getElem hlt];rfl
   rw [hd2,hd,hat]
   simp only [cond_true,Option.bind_some,q0k]
   rw [(x4k p).bind (by rw [x27];exact q3s.2 hx),x6x hx,q0d]
   have h3:=al3 (k:=k) v l1 path n1 n (q0z (q30 p)) o.length (q0z o) i w (j:Int) c (w.length:Int) (by omega) (nxL p w[j]) (by omega) (fun x hx'=>q3s.2 (q80 hp hs hx x hx')) k 0 acc (by omega) (by omega)
   have h3':y1v k n1 n k o.length (q0z (q30 p)) (nS p) (encZ path) (path.length:Int) i w.length (w.length:Int) (j:Int) (encZ (nxL p w[j])) ((nxL p w[j]).length:Int) 0 p.wide p.vars l1 (q0c p.cmds) (encZ v) c (q0z o) (q2a (inB (nS p) acc)) (encZ w) = _:=h3
   rw [h3',hnext,List.drop_zero]
   exact al2 hp hs hn hk n1 o ho i w hw c n (j + 1) (acc ++ nxL p w[j]) (by omega) (by omega) (by
    rw [List.take_succ_eq_append_getElem hlt,ha]
    have:∀ (a b:List Int),q1x p (a ++ b) = q1x p a ++ q1x p b:=by
     intro a b
     induction a with
     | nil=>rfl
     | cons x a ih=>simp [q1x,ih]
    rw [this]
    simp [q1x])
  ·have hd:decide ((j:Int) < (w.length:Int)) = false:=by simpa using hlt
   have ej:w.take j = w:=List.take_of_length_le (by omega)
   rw [ej] at ha
   have hnx:=y0w hp hs hw
   have hnxl:=hnx.len hs
   have hsl:=(hnx.filter (fun x=>dAt v x == c)).len hs
   have htk:(q2a (inB (nS p) acc)).take (nS p) = q2a (inB (nS p) acc):=List.take_of_length_le (by simp [q2a,z52])
   have hmk:mkB (inB (nS p) acc) 0 = nxS p w:=by
    rw [ha]
    refine w0m fun x hx=>?_
    obtain ⟨y,h1,h2⟩:=(q5g p w x).1 hx
    exact q80 hp hs (hw.is y h1) x h2
   rw [hd,htk,x36 (by omega) _ (by rw [z52];omega),hmk]
   simp only [cond_false]
   rw [x5m,q0d,q1d,x1h (by omega) (v:=v) (nxS p w) (by omega) (fun x hx=>by rw [hn];exact q3s.2 (hnx.is x hx)),z26,q0d,q1d]
   obtain ⟨k,rfl⟩:∃ j,k = j + 1:=⟨k - 1,by omega⟩
   have hsl':(sel v c (nxS p w)).length<=32:=hsl
   rw [n139 _ _ (by rw [q0d];unfold LIM;omega) (by rw [q0d];unfold LIM;omega),y4g]
   have e1:decide ((sel v c (nxS p w)).length<=(sel v c (nxS p w)).length) = true:=decide_eq_true (Nat.le_refl _)
   have e2:(o.length == (q0z o).length) = true:=by rw [q2n,beq_self_eq_true]
   rw [q0d,e1,e2,Bool.true_and,q0r (by omega) (by omega),q1d,z2a]
   rfl
end
theorem al1 {k:Nat} {p:Prg} (v:List Int) (l1:List PV) (path:List Int) (hp:FitP p) (hs:q0j p = true) (hn:v.length = nS p) (hk:1000400<=k) (hpl:path.length<=4000):∀ (n i:Nat) (o:List (List Int)) (w:List Int),path.length - i < n->i<=path.length->1<=i->o.length = i->SL p w ->
  z5o k n o.length (q0z (q30 p)) w.length (encZ path) (path.length:Int) (i:Int) p.wide p.vars l1 (q0c p.cmds) (encZ v) (q0z o) (encZ w) = r86 (q0z (o ++ q2m p v (nxS p w) (path.drop i)))
 | 0,i,o,w,h,hi,h1,ho,hw=>by omega
 | n + 1,i,o,w,h,hi,h1,ho,hw=>by
  have hle:=q2p hs
  have hwl:=hw.len hs
  rw [x48]
  by_cases hlt:i < path.length
  ·have hd:decide ((i:Int) < (path.length:Int)) = true:=by simpa using hlt
   have hd0:decide ((i:Int) > 0) = true:=decide_eq_true (by omega)
   have hnext:IntKind.i64.wrap ((i:Int) + 1) = ((i + 1:Nat):Int):=by rw [q0b (by omega) (by omega)];omega
   have hgd:(((nS p:Int) == (nS p:Int)) && decide ((0:Int)<=(nS p:Int)) && decide ((nS p:Int).toNat * 1<=LIM) && decide ((nS p:Int).toNat<=LIM)) = true:=by
    rw [beq_self_eq_true,decide_eq_true (show (0:Int)<=(nS p:Int) by omega),decide_eq_true (by unfold LIM;omega),decide_eq_true (by unfold LIM;omega)]
    rfl
   have he:List.replicate (nS p) (PV.bool false) = q2a (inB (nS p) []):=by
    apply List.ext_getElem
    ·simp [q2a,z52]
    ·intro i h1 h2
     simp [q2a,inB]
   rw [hd,q0l hlt,hd0,q0f hlt]
   simp only [cond_true,Option.bind_some,q0k,q2m]
   rw [z4o (by omega) hs]
   simp only [z3x]
   rw [hgd,Int.toNat_natCast,he]
   have h2:=al2 (k:=k) v l1 path hp hs hn hk n o (by omega) (i:Int) w hw path[i] k 0 [] (by omega) (by omega) rfl
   have h2':z5v k n k o.length (q0z (q30 p)) (nS p) (encZ path) (path.length:Int) (i:Int) w.length (w.length:Int) 0 p.wide p.vars l1 (q0c p.cmds) (encZ v) path[i] (q0z o) (q2a (inB (nS p) [])) (encZ w) = _:=h2
   simp only [cond_true]
   rw [h2',hnext]
   have hnx:=y0w hp hs hw
   have:=al1 v l1 path hp hs hn hk hpl n (i + 1) (o ++ [sel v path[i] (nxS p w)]) (sel v path[i] (nxS p w)) (by omega) (by omega) (by omega) (by simp;omega) (hnx.filter _)
   rw [List.length_append,List.append_assoc] at this
   exact this
  ·have hd:decide ((i:Int) < (path.length:Int)) = false:=by simpa using hlt
   have e2:(o.length == (q0z o).length) = true:=by rw [q2n,beq_self_eq_true]
   have e3:(q0z o).take o.length = q0z o:=List.take_of_length_le (by simp)
   rw [hd,e2,e3,List.drop_eq_nil_of_le (by omega),q2m,List.append_nil]
   rfl
theorem q6p {k:Nat} (hk:1000500<=k) {p:Prg} (hp:FitP p) (hs:q0j p = true) {v:List Int} (hn:v.length = nS p) (path:List Int) (hpl:path.length<=4000):c86 k p.wide p.vars (encT p.start) (q0c p.cmds) (encZ v) (encZ path) = r86 (q0z (q0t p v path)):=by
 obtain ⟨k,rfl⟩:∃ j,k = j + 2:=⟨k - 2,by omega⟩
 have hst:=hp.st
 have hwl:=x0r hs p.start
 have hSL:=z8a p
 rw [n86,x8d (by omega) hp hs]
 simp only [w4h]
 rw [x7m (by omega) hs _ _ p.start (by omega) (y75 hs)]
 simp only [w5l,q0d]
 rw [x48]
 cases path with
 | nil=>rfl
 | cons c path =>
  have hd:decide ((0:Int) < ((c :: path).length:Int)) = true:=decide_eq_true (by rw [List.length_cons];omega)
  have e0:q0i (encZ (c :: path)) 0 = some (.int .i64 c):=q0l (l:=c :: path) (i:=0) (by simp)
  have hd0:decide ((0:Int) > 0) = false:=rfl
  have hsl:=(hSL.filter (fun x=>dAt v x == c)).len hs
  have hsl':(sel v c (whI p p.start)).length<=32:=hsl
  rw [hd,e0,hd0]
  simp only [cond_true,cond_false,Option.bind_some,q0k]
  rw [q1d,x1h (by omega) (v:=v) (whI p p.start) (by omega) (fun x hx=>by rw [hn];exact q3s.2 (hSL.is x hx)),z26,q0d,q1d]
  rw [n139 _ _ (by rw [q0d];unfold LIM;omega) (by rw [q0d];unfold LIM;omega),y4g]
  have e1:decide ((sel v c (whI p p.start)).length<=(sel v c (whI p p.start)).length) = true:=decide_eq_true (Nat.le_refl _)
  have e2:(decide ((0 + 1) * 24<=LIM) && decide (0 + 1<=LIM)) = true:=by decide
  rw [q0d,e1,q1d]
  have:=al1 (k:=k + 1) v (encT p.start) (c :: path) hp hs hn (by omega) hpl k 1 [sel v c (whI p p.start)] (sel v c (whI p p.start)) (by simp at hpl ⊢;omega) (by simp) (by omega) rfl (hSL.filter _)
  exact this
section
variable {k:Nat} {p:Prg} (v:List Int) (l0:List PV) (path:List Int)
theorem sl2 (hp:FitP p) (hs:q0j p = true) (hn:v.length = nS p) (hk:1000400<=k) (n1:Nat) (o:List (List Int)) (ho:o.length<=5000) (i:Int) (w:List Int) (hw:SL p w) (c:Int):∀ (n j:Nat) (acc:List Int),w.length - j < n->j<=w.length->acc = sel v c (w.take j) ->
  z5n k n1 n o.length c acc.length (encZ path) (path.length:Int) i (encZ w) (w.length:Int) (j:Int) p.wide p.vars l0 (q0c p.cmds) (encZ v) (q0z o) (encZ acc) =
   y00 k n1 (o.length + 1) (encZ (nxS p (sel v c w))) (encZ path) (path.length:Int) (IntKind.i64.wrap (i + 1)) p.wide p.vars l0 (q0c p.cmds) (encZ v) (q0z (o ++ [sel v c w]))
 | 0,j,acc,h,hj,ha=>by omega
 | n + 1,j,acc,h,hj,ha=>by
  have hwl:=hw.len hs
  have hal:acc.length<=w.length:=by rw [ha];exact Nat.le_trans (List.length_filter_le _ _) (by simp;omega)
  rw [w4u,q1d]
  by_cases hlt:j < w.length
  ·have hd:decide ((j:Int) < (w.length:Int)) = true:=by simpa using hlt
   have hnext:IntKind.i64.wrap ((j:Int) + 1) = ((j + 1:Nat):Int):=by rw [q0b (by omega) (by omega)];omega
   have hx:=hw.is _ (List.getElem_mem hlt)
   have hxg:inG v.length w[j]:=by rw [hn];exact q3s.2 hx
   have ht:w.take (j + 1) = w.take j ++ [w[j]]:=List.take_succ_eq_append_getElem hlt
   rw [hd,q0l hlt,hnext]
   simp only [cond_true,Option.bind_some,q0k]
   rw [y5j hxg.1 hxg.2]
   simp only [Option.bind_some,q0k]
   cases hc:(dAt v w[j] == c)
   ·exact sl2 hp hs hn hk n1 o ho i w hw c n (j + 1) acc (by omega) (by omega) (by rw [ht,ha,sel,sel,List.filter_append];simp [hc])
   ·simp only [cond_true]
    rw [q0r (by omega) (by omega),q1i]
    have:=sl2 hp hs hn hk n1 o ho i w hw c n (j + 1) (acc ++ [w[j]]) (by omega) (by omega) (by rw [ht,ha,sel,sel,List.filter_append];simp [hc])
    rw [List.length_append] at this
    exact this
  ·have hd:decide ((j:Int) < (w.length:Int)) = false:=by simpa using hlt
   have ej:w.take j = w:=List.take_of_length_le (by omega)
   rw [ej] at ha
   have e3:(q0z o).take o.length = q0z o:=List.take_of_length_le (by simp)
   have hsl:=hw.filter (fun x=>dAt v x == c)
   rw [hd,e3,y1n (by omega) hp hs l0 acc (by omega) (fun x hx=>by rw [ha] at hx;exact hsl.is x hx),z2a]
   simp only [cond_true,cond_false,x5x]
   rw [q0r (by omega) (by omega),ha]
   rfl
end
theorem sl1 {k:Nat} {p:Prg} (v:List Int) (l0:List PV) (path:List Int) (hp:FitP p) (hs:q0j p = true) (hn:v.length = nS p) (hk:1000400<=k) (hpl:path.length<=4000):∀ (n i:Nat) (o:List (List Int)) (w:List Int),path.length - i < n->i<=path.length->o.length = i->SL p w ->
  y00 k n o.length (encZ w) (encZ path) (path.length:Int) (i:Int) p.wide p.vars l0 (q0c p.cmds) (encZ v) (q0z o) = r89 (q0z (o ++ q2m p v w (path.drop i)))
 | 0,i,o,w,h,hi,ho,hw=>by omega
 | n + 1,i,o,w,h,hi,ho,hw=>by
  have hwl:=hw.len hs
  rw [w21]
  by_cases hlt:i < path.length
  ·have hd:decide ((i:Int) < (path.length:Int)) = true:=by simpa using hlt
   have hnext:IntKind.i64.wrap ((i:Int) + 1) = ((i + 1:Nat):Int):=by rw [q0b (by omega) (by omega)];omega
   rw [hd,q0l hlt,q0f hlt]
   simp only [cond_true,Option.bind_some,q0k,q2m]
   have h2:=sl2 (k:=k) v l0 path hp hs hn hk n o (by omega) (i:Int) w hw path[i] k 0 [] (by omega) (by omega) (by simp [sel])
   have h2':z5n k n k o.length path[i] 0 (encZ path) (path.length:Int) (i:Int) (encZ w) (w.length:Int) 0 p.wide p.vars l0 (q0c p.cmds) (encZ v) (q0z o) [] = _:=h2
   rw [q0d,h2',hnext]
   have:=sl1 v l0 path hp hs hn hk hpl n (i + 1) (o ++ [sel v path[i] w]) (nxS p (sel v path[i] w)) (by omega) (by omega) (by simp;omega) (y0w hp hs (hw.filter _))
   rw [List.length_append,List.append_assoc] at this
   exact this
  ·have hd:decide ((i:Int) < (path.length:Int)) = false:=by simpa using hlt
   have e3:(q0z o).take o.length = q0z o:=List.take_of_length_le (by simp)
   rw [hd,e3,List.drop_eq_nil_of_le (by omega),q2m,List.append_nil]
   rfl
theorem q9w {k:Nat} (hk:1000500<=k) {p:Prg} (hp:FitP p) (hs:q0j p = true) {v:List Int} (hn:v.length = nS p) (path:List Int) (hpl:path.length<=4000):c89 k p.wide p.vars (encT p.start) (q0c p.cmds) (encZ v) (encZ path) = r89 (q0z (q0t p v path)):=by
 obtain ⟨k,rfl⟩:∃ j,k = j + 1:=⟨k - 1,by omega⟩
 have hst:=hp.st
 rw [n89,z2i (by omega) hs _ _ p.start (by omega) (y75 hs)]
 simp only [y1h]
 rw [q0d]
 exact sl1 (k:=k) v (encT p.start) path hp hs hn (by omega) hpl k 0 [] (whI p p.start) (by omega) (by omega) rfl (z8a p)
theorem z9o {k:Nat}  (f:List Int->Bool) (l:List (List Int)) (hl:l.length<=100000) (hc:∀ x ∈ l,c169 k (encZ x)  = r169 (f x)):∀ (n i:Nat),l.length - i < n->i<=l.length->q78 k n (q0z l)  (l.length:Int) (i:Int) = q83 (fixI f i (l.drop i))
 | 0,i,h,hi=>by omega
 | n + 1,i,h,hi=>by
  rw [y88]
  by_cases hlt:i < l.length
  ·have hd:decide ((i:Int) < (l.length:Int)) = true:=by simpa using hlt
   have hnext:IntKind.i64.wrap ((i:Int) + 1) = ((i + 1:Nat):Int):=by rw [q0b (by omega) (by omega)];omega
   rw [hd,q0o,q5z,List.getElem?_eq_getElem hlt,q0f hlt,hnext]
   simp only [cond_true,Option.map_some,Option.bind_some,q09]
   rw [hc _ (List.getElem_mem hlt)]
   simp only [w5a,fixI]
   cases f l[i]
   ·exact z9o  f l hl hc n (i + 1) (by omega) (by omega)
   ·rfl
  ·have hd:decide ((i:Int) < (l.length:Int)) = false:=by simpa using hlt
   rw [hd,List.drop_eq_nil_of_le (by omega)]
   rfl
theorem x3x {k:Nat} (hk:100010<=k)  (f:List Int->Bool) (l:List (List Int)) (hl:l.length<=100000) (hc:∀ x ∈ l,c169 k (encZ x)  = r169 (f x)):z7q (k + 1) (q0z l)  = q83 (fixI f 0 l):=by
 rw [x70,q2n]
 exact z9o (k:=k)  f l hl hc k 0 (by omega) (by omega)
theorem z6b (x:List Int):(((encZ x).length:Int) == 0) = x.isEmpty:=by
 cases x with
 | nil=>rfl
 | cons y x=>rw [beq_eq_false_iff_ne.2 (by simp;omega)];rfl
theorem z1r {k:Nat} (hk:100020<=k) (g:List (List Int)) (hg:g.length<=5000):c85 k (q0z g) = r85 (q07 g):=by
 obtain ⟨k,rfl⟩:∃ j,k = j + 3:=⟨k - 3,by omega⟩
 rw [n85,x3x (k:=k + 1) (by omega) List.isEmpty g (by omega) (fun x hx=>by rw [n169,z6b])]
 simp only [x0g]
 rfl
theorem z20 {k:Nat} (g:List (List Int)) (hg:g.length<=5000):∀ (n i:Nat),g.length - i < n->i<=g.length->y5w k n (q0z g) (g.length:Int) (i:Int) = r88 (fixI List.isEmpty i (g.drop i))
 | 0,i,h,hi=>by omega
 | n + 1,i,h,hi=>by
  rw [w45]
  by_cases hlt:i < g.length
  ·have hd:decide ((i:Int) < (g.length:Int)) = true:=by simpa using hlt
   have hnext:IntKind.i64.wrap ((i:Int) + 1) = ((i + 1:Nat):Int):=by rw [q0b (by omega) (by omega)];omega
   rw [hd,q0o,q5z,List.getElem?_eq_getElem hlt,q0f hlt,hnext]
   simp only [cond_true,Option.map_some,Option.bind_some,q09,fixI]
   rw [z6b]
   cases g[i].isEmpty
   ·exact z20 g hg n (i + 1) (by omega) (by omega)
   ·rfl
  ·have hd:decide ((i:Int) < (g.length:Int)) = false:=by simpa using hlt
   rw [hd,List.drop_eq_nil_of_le (by omega)]
   rfl
theorem z7k {k:Nat} (hk:5010<=k) (g:List (List Int)) (hg:g.length<=5000):c88 k (q0z g) = r88 (q07 g):=by
 obtain ⟨k,rfl⟩:∃ j,k = j + 1:=⟨k - 1,by omega⟩
 rw [n88,q2n]
 exact z20 (k:=k) g hg k 0 (by omega) (by omega)
end Go.Proofs.YtgdegfijcijnoaaGreat
/- Both sides' least path of states;dead ends;steps from class to class. -/
namespace Go.Proofs.YtgdegfijcijnoaaGreat
open Go.Dp
end Go.Proofs.YtgdegfijcijnoaaGreat
/- FnSureNever: what is excluded from the reachable classes never holds;a finer sight excludes it too. -/
namespace Go.Proofs.YtgdegfijcijnoaaGreat
open Go.Dp
def clB (p:Prg) (v:List Int) (c:Int):Bool:=gsB p v && (decide (0<=c) && decide (c < q0u v 0))
theorem x2t {k:Nat} (hk:1000600<=k) (p:Prg) (hp:FitP p) {v:List Int} (hv:OkV v) (c:Int):c201 k p.wide p.vars (encT p.start) (q0c p.cmds) (encZ v) c = r201 (clB p v c):=by
 obtain ⟨k,rfl⟩:∃ j,k = j + 1:=⟨k - 1,by omega⟩
 have hvl:=hv.len
 rw [n201,q5n (by omega) p hp v (by omega)]
 simp only [z80,clB]
 cases hgs:gsB p v
 · rfl
 obtain ⟨s1,s2,s3⟩:=q02 hgs
 have hml:=z00 s2
 simp only [cond_true,Bool.true_and]
 rw [y3z (by omega) (by omega) s2]
 simp only [x5o]
 rw [q0b (by omega) (by omega),q6j (by omega)]
 simp only [q5m]
 congr 2
 rw [decide_eq_decide]
 omega
theorem y17 {k:Nat} (hk:1000800<=k) (p:Prg) (hp:FitP p) {v:List Int} (hv:OkV v) (c:Int):c135 k p.wide p.vars (encT p.start) (q0c p.cmds) (encZ v) c = r135 (encZ (bif clB p v c then stpL p v c else [])) (clB p v c):=by
 obtain ⟨k,rfl⟩:∃ j,k = j + 1:=⟨k - 1,by omega⟩
 rw [n135,x2t (by omega) p hp hv]
 simp only [w3x]
 cases hc:clB p v c
 · rfl
 have hc2:=hc
 simp only [clB,Bool.and_eq_true] at hc2
 obtain ⟨s1,s2,s3⟩:=q02 hc2.1
 simp only [Bool.not_true,cond_false,cond_true]
 rw [x1z (by omega) hp s1 _ hv s3]
 simp only [w3r]
end Go.Proofs.YtgdegfijcijnoaaGreat
/- Paths of classes: what both sides hand out,and what is drawn. -/
namespace Go.Proofs.YtgdegfijcijnoaaGreat
open Go.Dp
def q7a (p:Prg) (v path:List Int):Bool:=q3k p v path 200 && decide (0<=q07 (q0t p v path))
def z2n (p:Prg) (v path:List Int):Int:=bif q7a p v path then q07 (q0t p v path) else 0
theorem y8i {p:Prg} {v path:List Int} (h:q3k p v path 200 = true):1<=path.length /\ path.length<=200 /\ path ≠ []:=by
 obtain ⟨_,h1,h2,_⟩:=q17 h
 exact ⟨h1,by omega,by rintro rfl;simp at h1⟩
theorem y9h {k:Nat} (hk:1000700<=k) (p:Prg) (hp:FitP p) {v:List Int} (hv:OkV v) (path:List Int) (hl:path.length<=1000):c24 k p.wide p.vars (encT p.start) (q0c p.cmds) (encZ v) (encZ path) = r24 (z2n p v path) (q7a p v path):=by
 obtain ⟨k,rfl⟩:∃ j,k = j + 1:=⟨k - 1,by omega⟩
 rw [n24,q6n (by omega) p hp hv path (by omega)]
 simp only [x2p,z2n,q7a]
 cases hc:q3k p v path 200
 ·rfl
 obtain ⟨hg,_,_,_⟩:=q17 hc
 obtain ⟨s1,s2,s3⟩:=q02 hg
 have hpl:=y8i hc
 simp only [Bool.not_true,cond_false,Bool.true_and]
 rw [q6p (by omega) hp s1 s3 path (by omega)]
 simp only [x2b,q2n]
 rw [List.take_of_length_le (by simp),z1r (by omega) _ (by rw [q4k];omega)]
 simp only [x5w]
 have hr:=x5c (q0t p v path)
 by_cases h:0<=q07 (q0t p v path)
 ·have e:maxI 0 (q07 (q0t p v path)) = q07 (q0t p v path):=by
   unfold maxI
   by_cases h2:q07 (q0t p v path) > 0
   ·rw [decide_eq_true h2];rfl
   ·rw [decide_eq_false h2];show (0:Int) = _;omega
  rw [e,decide_eq_true h]
  rfl
 ·have e:maxI 0 (q07 (q0t p v path)) = 0:=by
   unfold maxI
   rw [decide_eq_false (by omega)]
   rfl
  rw [e,decide_eq_false h]
  rfl
theorem z6e {k:Nat} (hk:1000700<=k) (p:Prg) (hp:FitP p) {v:List Int} (hv:OkV v) (path:List Int) (hl:path.length<=1000):c25 k p.wide p.vars (encT p.start) (q0c p.cmds) (encZ v) (encZ path) = r25 (z2n p v path) (q7a p v path):=by
 obtain ⟨k,rfl⟩:∃ j,k = j + 1:=⟨k - 1,by omega⟩
 rw [n25,x3f (by omega) p hp hv path (by omega)]
 simp only [w6d,z2n,q7a]
 cases hc:q3k p v path 200
 ·rfl
 obtain ⟨hg,_,_,_⟩:=q17 hc
 obtain ⟨s1,s2,s3⟩:=q02 hg
 have hpl:=y8i hc
 simp only [Bool.not_true,cond_false,Bool.true_and]
 rw [q9w (by omega) hp s1 s3 path (by omega)]
 simp only [x2s]
 rw [z7k (by omega) _ (by rw [q4k];omega)]
 simp only [x8v]
 by_cases h:0<=q07 (q0t p v path)
 ·rw [decide_eq_true h,decide_eq_false (by omega)]
  rfl
 ·rw [decide_eq_false h,decide_eq_true (by omega)]
  rfl
def q1n (p:Prg) (v path:List Int):List Int:=((q0t p v path)[(q07 (q0t p v path) - 1).toNat]?).getD []
def deOK (p:Prg) (v path:List Int):Bool:=decide (1<=q07 (q0t p v path))
def q2e (p:Prg) (v path:List Int):Bool:=q3k p v path 200 && deOK p v path
def q62 (p:Prg) (v path:List Int):List Int:=bif q2e p v path then q1n p v path else []
theorem y2w {p:Prg} {v path:List Int} (h:deOK p v path = true):∃ j,j + 1 < path.length /\ q07 (q0t p v path) = ((j + 1:Nat):Int) /\ (q0t p v path)[j]? = some (q1n p v path) /\ (q0t p v path)[j + 1]? = some [] /\ q1n p v path ≠ []:=by
 have h1:1<=q07 (q0t p v path):=of_decide_eq_true h
 obtain ⟨j,hj,h2,h3,h4⟩:=z9i (show 0<=q07 (q0t p v path) by omega)
 have hl:=q4k p v path
 obtain ⟨i,rfl⟩:∃ i,j = i + 1:=⟨j - 1,by omega⟩
 have hi:i < (q0t p v path).length:=by omega
 have e:(q07 (q0t p v path) - 1).toNat = i:=by omega
 have e2:q1n p v path = (q0t p v path)[i]:=by
  unfold q1n
  rw [e,List.getElem?_eq_getElem hi]
  rfl
 refine ⟨i,by omega,h2,by rw [e2];exact List.getElem?_eq_getElem hi,by rw [List.getElem?_eq_getElem hj,h3],?_⟩
 rw [e2]
 exact h4 i (by omega)
theorem z7f {k:Nat} (hk:1000600<=k) {p:Prg} (hp:FitP p) (hs:q0j p = true) {v:List Int} (hn:v.length = nS p) (path:List Int) (hpl:path.length<=4000):c156 k p.wide p.vars (encT p.start) (q0c p.cmds) (encZ v) (encZ path) = r156 (encZ (bif deOK p v path then q1n p v path else [])) (deOK p v path):=by
 obtain ⟨k,rfl⟩:∃ j,k = j + 2:=⟨k - 2,by omega⟩
 have hl:=q4k p v path
 rw [n156,q6p (by omega) hp hs hn path hpl]
 simp only [x2b,q2n]
 rw [List.take_of_length_le (by simp),w0p,z1r (by omega) _ (by omega)]
 simp only [w5w]
 cases hd:deOK p v path
 ·have:¬ 1<=q07 (q0t p v path):=of_decide_eq_false hd
  rw [decide_eq_true (by omega)]
  rfl
 ·obtain ⟨j,h1,h2,h3,h4,h5⟩:=y2w hd
  have e:IntKind.i64.wrap (q07 (q0t p v path) - 1) = (j:Int):=by rw [q0b (by omega) (by omega)];omega
  rw [decide_eq_false (by omega),e,q0o,q5z,h3]
  rfl
theorem y54 {k:Nat} (hk:1000700<=k) (p:Prg) (hp:FitP p) {v:List Int} (hv:OkV v) (path:List Int) (hl:path.length<=1000):c78 k p.wide p.vars (encT p.start) (q0c p.cmds) (encZ v) (encZ path) = r78 (encZ (q62 p v path)) (q2e p v path):=by
 obtain ⟨k,rfl⟩:∃ j,k = j + 1:=⟨k - 1,by omega⟩
 rw [n78,q6n (by omega) p hp hv path (by omega)]
 simp only [x2p,q62,q2e]
 cases hc:q3k p v path 200
 · rfl
 obtain ⟨hg,_,_,_⟩:=q17 hc
 obtain ⟨s1,s2,s3⟩:=q02 hg
 simp only [Bool.not_true,cond_false,Bool.true_and]
 rw [z7f (by omega) hp s1 s3 path (by omega)]
 simp only [x6f]
theorem q8s {k:Nat} (hk:1000800<=k) (p:Prg) (hp:FitP p) {v:List Int} (hv:OkV v) (path:List Int) (hl:path.length<=1000):c71 k p.wide p.vars (encT p.start) (q0c p.cmds) (encZ v) (encZ path) = r71 (encZ (q62 p v path)) (q2e p v path):=by
 obtain ⟨k,rfl⟩:∃ j,k = j + 1:=⟨k - 1,by omega⟩
 rw [n71,z6e (by omega) p hp hv path (by omega)]
 simp only [x84,q62,q2e,z2n,q7a]
 cases hc:q3k p v path 200
 ·rfl
 obtain ⟨hg,_,_,_⟩:=q17 hc
 obtain ⟨s1,s2,s3⟩:=q02 hg
 simp only [Bool.true_and]
 have hgl:=q4k p v path
 cases hd:deOK p v path
 ·have h1:¬ 1<=q07 (q0t p v path):=of_decide_eq_false hd
  by_cases h0:0<=q07 (q0t p v path)
  ·have e:q07 (q0t p v path) = 0:=by omega
   rw [decide_eq_true h0,e]
   rfl
  ·rw [decide_eq_false h0]
   rfl
 ·obtain ⟨j,h1,h2,h3,h4,h5⟩:=y2w hd
  have e:IntKind.i64.wrap (q07 (q0t p v path) - 1) = (j:Int):=by rw [q0b (by omega) (by omega)];omega
  have e0:(q07 (q0t p v path) == 0) = false:=beq_eq_false_iff_ne.2 (by omega)
  rw [decide_eq_true (show 0<=q07 (q0t p v path) by omega)]
  simp only [Bool.not_true,cond_false,cond_true]
  rw [e0,q9w (by omega) hp s1 s3 path (by omega)]
  simp only [x2s,cond_false]
  rw [e,q0o,q5z,h3]
  rfl
theorem q87 {p:Prg} (hp:FitP p) (hs:q0j p = true) (v path:List Int):SL p (q1n p v path):=by
 unfold q1n
 cases h:(q0t p v path)[(q07 (q0t p v path) - 1).toNat]? with
 | none=>exact ⟨by simp,by simp⟩
 | some d=>exact y3a hp hs v path d (List.mem_of_getElem? h)
theorem x4l {p:Prg} (hp:FitP p) (v path:List Int):(q62 p v path).length<=32:=by
 unfold q62
 cases hd:q2e p v path
 ·simp
 ·simp only [q2e,Bool.and_eq_true] at hd
  obtain ⟨hg,_,_,_⟩:=q17 hd.1
  obtain ⟨s1,s2,s3⟩:=q02 hg
  exact (q87 hp s1 v path).len s1
theorem y50 {k:Nat} (l0:List PV) (to:Int) (f:Int->Bool) (l:List (Int)) (hl:l.length<=100000) (hc:∀ x ∈ l,c175 k x l0 to = r175 (f x)):∀ (n i:Nat),l.length - i < n->i<=l.length->q7w k n (encZ l) l0 to (l.length:Int) (i:Int) = q8e (fixI f i (l.drop i))
 | 0,i,h,hi=>by omega
 | n + 1,i,h,hi=>by
  rw [y9g]
  by_cases hlt:i < l.length
  ·have hd:decide ((i:Int) < (l.length:Int)) = true:=by simpa using hlt
   have hnext:IntKind.i64.wrap ((i:Int) + 1) = ((i + 1:Nat):Int):=by rw [q0b (by omega) (by omega)];omega
   rw [hd,q0l hlt,q0f hlt,hnext]
   simp only [cond_true,Option.bind_some,q0k]
   rw [hc _ (List.getElem_mem hlt)]
   simp only [w46,fixI]
   cases f l[i]
   ·exact y50 l0 to f l hl hc n (i + 1) (by omega) (by omega)
   ·rfl
  ·have hd:decide ((i:Int) < (l.length:Int)) = false:=by simpa using hlt
   rw [hd,List.drop_eq_nil_of_le (by omega)]
   rfl
theorem w0e {k:Nat} (hk:100010<=k) (l0:List PV) (to:Int) (f:Int->Bool) (l:List (Int)) (hl:l.length<=100000) (hc:∀ x ∈ l,c175 k x l0 to = r175 (f x)):z7x (k + 1) (encZ l) l0 to = q8e (fixI f 0 l):=by
 rw [x6s,q0d]
 exact y50 (k:=k) l0 to f l hl hc k 0 (by omega) (by omega)
theorem w4n {k:Nat} (hk:100010<=k) (l0:List PV) (to:Int) (f:Int->Bool) (l:List (Int)) (hl:l.length<=100000) (hc:∀ x ∈ l,c175 k x l0 to = r175 (f x)):y19 (k + 2) (encZ l) l0 to = y13 (l.any f):=by
 rw [w0q,w0e (by omega) l0 to f l hl hc]
 simp only [y89,q8b]
theorem y73 {k:Nat} (w1 v1:Int) (l1 l2 l3:List PV) (to:Int) (f:Int->Bool) (l:List (Int)) (hl:l.length<=100000) (hc:∀ x ∈ l,c174 k x w1 v1 l1 l2 l3 to = r174 (f x)):∀ (n i:Nat),l.length - i < n->i<=l.length->q7x k n (encZ l) w1 v1 l1 l2 l3 to (l.length:Int) (i:Int) = q8k (fixI f i (l.drop i))
 | 0,i,h,hi=>by omega
 | n + 1,i,h,hi=>by
  rw [y9k]
  by_cases hlt:i < l.length
  ·have hd:decide ((i:Int) < (l.length:Int)) = true:=by simpa using hlt
   have hnext:IntKind.i64.wrap ((i:Int) + 1) = ((i + 1:Nat):Int):=by rw [q0b (by omega) (by omega)];omega
   rw [hd,q0l hlt,q0f hlt,hnext]
   simp only [cond_true,Option.bind_some,q0k]
   rw [hc _ (List.getElem_mem hlt)]
   simp only [x6h,fixI]
   cases f l[i]
   ·exact y73 w1 v1 l1 l2 l3 to f l hl hc n (i + 1) (by omega) (by omega)
   ·rfl
  ·have hd:decide ((i:Int) < (l.length:Int)) = false:=by simpa using hlt
   rw [hd,List.drop_eq_nil_of_le (by omega)]
   rfl
theorem w1t {k:Nat} (hk:100010<=k) (w1 v1:Int) (l1 l2 l3:List PV) (to:Int) (f:Int->Bool) (l:List (Int)) (hl:l.length<=100000) (hc:∀ x ∈ l,c174 k x w1 v1 l1 l2 l3 to = r174 (f x)):z70 (k + 1) (encZ l) w1 v1 l1 l2 l3 to = q8k (fixI f 0 l):=by
 rw [x7z,q0d]
 exact y73 (k:=k) w1 v1 l1 l2 l3 to f l hl hc k 0 (by omega) (by omega)
theorem y1w {k:Nat} (w1 v1:Int) (l1 l2 l3:List PV) (to:Int) (f:Int->Bool) (s:List Int) (hl:s.length<=100000) (hc:∀ x ∈ s,c174 k x w1 v1 l1 l2 l3 to = r174 (f x)):∀ (n i j:Nat) (xs:List Int),s.length - j < n->j<=s.length->i<=j->xs.length = s.length->xs.take i = (s.take j).filter (fun x=>!f x)->xs.drop j = s.drop j ->
  q6e k n s.length w1 v1 l1 l2 l3 to (i:Int) (j:Int) (encZ xs) = q88 (encZ (s.filter fun x=>!f x))
 | 0,i,j,xs,h,hj,hi,hx,h1,h2=>by omega
 | n + 1,i,j,xs,h,hj,hi,hx,h1,h2=>by
  rw [y83]
  by_cases hlt:j < s.length
  ·have hd:decide ((j:Int) < (s.length:Int)) = true:=by simpa using hlt
   have hg:(decide ((0:Int)<=(j:Int)) && true) = true:=by rw [decide_eq_true (by omega)];rfl
   have hg2:(decide ((0:Int)<=(i:Int)) && decide ((i:Int) < (s.length:Int))) = true:=by rw [decide_eq_true (by omega),decide_eq_true (by omega)];rfl
   have hnj:IntKind.i64.wrap ((j:Int) + 1) = ((j + 1:Nat):Int):=by rw [q0b (by omega) (by omega)];omega
   have hni:IntKind.i64.wrap ((i:Int) + 1) = ((i + 1:Nat):Int):=by rw [q0b (by omega) (by omega)];omega
   have hxj:xs[j]'(by omega) = s[j]:=by
    have e:=h2
    rw [q0f (by omega),q0f hlt] at e
    exact (List.cons.inj e).1
   have hat:∀ (m:Nat) (hm:m < xs.length),(encZ xs)[0 + (m:Int).toNat]? = some (.int .i64 xs[m]):=by
    intro m hm
    rw [Nat.zero_add,Int.toNat_natCast,q2s,List.getElem?_eq_getElem hm]
    rfl
   rw [hd,hg,hat j (by omega),hxj,hnj]
   simp only [cond_true,Option.bind_some,q0k]
   rw [hc _ (List.getElem_mem hlt)]
   simp only [x6h]
   have hd2:xs.drop (j + 1) = s.drop (j + 1):=by rw [<- List.drop_drop,<- List.drop_drop,h2]
   have ht2:s.take (j + 1) = s.take j ++ [s[j]]:=List.take_succ_eq_append_getElem hlt
   cases hf:f s[j]
   ·simp only [Bool.not_false,cond_true]
    rw [hg2,hat i (by omega),hni]
    simp only [cond_true,Option.bind_some,Nat.zero_add,Int.toNat_natCast]
    rw [q8m]
    refine y1w w1 v1 l1 l2 l3 to f s hl hc n (i + 1) (j + 1) (xs.set i s[j]) (by omega) (by omega) (by omega) (by simp;omega) ?_ ?_
    ·rw [List.take_succ_eq_append_getElem (by simp;omega),List.take_set_of_le (by omega),h1,ht2,List.filter_append]
     simp [hf]
    ·rw [List.drop_set_of_lt (by omega),hd2]
   ·simp only [Bool.not_true,cond_false]
    refine y1w w1 v1 l1 l2 l3 to f s hl hc n i (j + 1) xs (by omega) (by omega) (by omega) hx ?_ hd2
    rw [h1,ht2,List.filter_append]
    simp [hf]
  ·have hd:decide ((j:Int) < (s.length:Int)) = false:=by simpa using hlt
   have hg:(decide ((0:Int)<=(i:Int)) && decide ((i:Int)<=(s.length:Int)) && decide ((s.length:Int)<=(s.length:Int))) = true:=by
    rw [decide_eq_true (by omega),decide_eq_true (by omega),decide_eq_true (by omega)];rfl
   have hg2:(decide ((0:Int)<=(i:Int)) && decide ((i:Int)<=(s.length:Int))) = true:=by rw [decide_eq_true (by omega),decide_eq_true (by omega)];rfl
   have hjs:s.take j = s:=List.take_of_length_le (by omega)
   rw [hd,hg,hg2]
   simp only [cond_true,cond_false,Nat.zero_add,Int.toNat_natCast]
   rw [List.append_assoc,List.take_left' (by simp;omega),q42,h1,hjs]
theorem w5m {k:Nat} (hk:100010<=k) (w1 v1:Int) (l1 l2 l3:List PV) (to:Int) (f:Int->Bool) (s:List Int) (hl:s.length<=100000) (hc:∀ k',k<=k'->∀ x ∈ s,c174 k' x w1 v1 l1 l2 l3 to = r174 (f x)):z7r (k + 2) (encZ s) w1 v1 l1 l2 l3 to = q88 (encZ (s.filter fun x=>!f x)):=by
 have etk:(encZ s).take s.length = encZ s:=List.take_of_length_le (by simp)
 rw [x6v,q0d,etk,w1t (k:=k) hk w1 v1 l1 l2 l3 to f s hl (hc k (Nat.le_refl k))]
 simp only [y9y]
 rcases q4w f s 0 with ⟨h1,h2⟩ | ⟨j,hj,h1,h2,h3⟩
 ·rw [h1]
  have hall:s.filter (fun x=>!f x) = s:=List.filter_eq_self.2 fun x hx=>by
   obtain ⟨i,hi,rfl⟩:=List.mem_iff_getElem.1 hx
   simp [h2 _ (List.getElem_mem hi)]
  rw [hall]
  rfl
 ·rw [h1]
  have e1:((((0 + j:Nat):Int)) == (-1)) = false:=by rw [beq_eq_false_iff_ne];omega
  have e2:IntKind.i64.wrap (((0 + j:Nat):Int) + 1) = ((j + 1:Nat):Int):=by rw [q0b (by omega) (by omega)];omega
  rw [e1,e2,Nat.zero_add]
  simp only [cond_false]
  have hpre:(s.take j).filter (fun x=>!f x) = s.take j:=List.filter_eq_self.2 fun x hx=>by
   obtain ⟨i,hi,rfl⟩:=List.mem_iff_getElem.1 hx
   rw [List.length_take] at hi
   rw [List.getElem_take]
   simp [h3 i (by omega)]
  refine y1w (k:=k + 1) w1 v1 l1 l2 l3 to f s hl (hc (k + 1) (by omega)) (k + 1) j (j + 1) s (by omega) (by omega) (by omega) rfl ?_ rfl
  rw [List.take_succ_eq_append_getElem hj,List.filter_append,hpre]
  simp [h2]
theorem y44 (l:List Int) (K0:List PV->R):y24 (q88 (encZ l)) K0 = K0 (encZ l):=by
 have h:([SV.c (.own 3 0 (encZ l))].all q04 && true) = true:=by simp [q04,q1u,q3n];rfl
 show (bif ([SV.c (.own 3 0 (encZ l))].all q04 && true) then K0 (encZ l) else none) = _
 rw [h]
 rfl
theorem y0e {k:Nat} (hk:1000500<=k) {p:Prg} (hp:FitP p) (hs:q0j p = true) (l1:List PV) {v:List Int} (hv:OkV v) (hn:v.length = nS p) (c d:Int):c91 k p.wide p.vars l1 (q0c p.cmds) (encZ v) c d = r91 (encZ (onL p v c d)):=by
 obtain ⟨k,rfl⟩:∃ j,k = j + 3:=⟨k - 3,by omega⟩
 have hvl:=hv.len
 have hsl:=z01 v c
 have hsi:=z0z hn c
 rw [n91,y87 (by omega) (by omega)]
 simp only [w4m,q0d]
 rw [q1d,w5m (k:=k) (by omega) p.wide p.vars l1 (q0c p.cmds) (encZ v) d (fun x=>!((nxL p x).any fun y=>dAt v y == d)) (stV v c) (by omega) (fun k' hk' x hx=>by
  obtain ⟨k',rfl⟩:∃ j,k' = j + 3:=⟨k' - 3,by omega⟩
  have hx':=hsi x hx
  have hnl:=z5l hp x
  rw [n174,y8o (by omega) hp hs hx']
  simp only [x8m]
  rw [w4n (k:=k') (by omega) (encZ v) d (fun y=>dAt v y == d) (nxL p x) (by omega) (fun y hy=>by
   obtain ⟨k',rfl⟩:∃ j,k' = j + 1:=⟨k' - 1,by omega⟩
   have hy':=q80 hp hs hx' y hy
   have hg:inG v.length y:=by rw [hn];exact q3s.2 hy'
   rw [n175,y5j hg.1 hg.2]
   simp only [Option.bind_some,q0k])]
  simp only [x2l]),y44,q0d,q1d]
 simp only [Bool.not_not]
 rfl
theorem y9f {k:Nat} (hk:1000700<=k) (p:Prg) (hp:FitP p) {v:List Int} (hv:OkV v) (c d:Int) (hc:clB p v c = true) (hd:clB p v d = true):c26 k p.wide p.vars (encT p.start) (q0c p.cmds) (encZ v) c d = r26 (encZ (onL p v c d)) true:=by
 obtain ⟨k,rfl⟩:∃ j,k = j + 1:=⟨k - 1,by omega⟩
 rw [n26,y0i (by omega) p hp hv]
 simp only [x8u]
 rw [show (gsB p v && (decide (0<=c) && decide (c < q0u v 0))) = clB p v c from rfl,hc,y0i (by omega) p hp hv]
 simp only [x8u,Bool.not_true,cond_false]
 rw [show (gsB p v && (decide (0<=d) && decide (d < q0u v 0))) = clB p v d from rfl,hd]
 have hg:gsB p v = true:=by simp only [clB,Bool.and_eq_true] at hc;exact hc.1
 obtain ⟨s1,s2,s3⟩:=q02 hg
 simp only [Bool.not_true,cond_false]
 rw [y0e (by omega) hp s1 _ hv s3]
 simp only [x81]
theorem y7w {bs:List Nat} (hc:CodeOK bs) {k:Nat} (hk:1001100<=k) {at':Int} (h0:0<=at') (h1:at'<=300000000) (s:W) :
  ∃ a2 s2 p v,c54 k (encB bs) at' (wi s) = r54 (encB bs) a2 (wi s2) p.wide p.vars (encT p.start) (q0c p.cmds) (encZ v) /\ at'<=a2 /\ a2<=at' + 70000 /\ FitP p /\ OkV v:=by
 obtain ⟨k,rfl⟩:∃ j,k = j + 1:=⟨k - 1,by omega⟩
 rw [n54]
 obtain ⟨a2,s2,p,h,h2,h3,h4⟩:=x61 hc (k:=k) (by omega) (at':=at') h0 (by omega) s
 rw [h]
 simp only [w4f,q1h]
 have ht:(q0c p.cmds).take p.cmds.length = q0c p.cmds:=List.take_of_length_le (by simp)
 rw [ht,q9p (by omega) p h4]
 simp only [w0x]
 have fin:∀ (q:Prg),FitP q->∀ (a3:Int) (s3:W),at'<=a3->a3<=at' + 11000->∃ a4 s4 q2 v,(R133 (c133 k q.wide q.vars (encT q.start) (q0c q.cmds) (encB bs) a3 (wi s3)) fun l5 v7 v8 l6=>r54 l5 v7 v8 q.wide q.vars (encT q.start) (q0c q.cmds) l6) = r54 (encB bs) a4 (wi s4) q2.wide q2.vars (encT q2.start) (q0c q2.cmds) (encZ v) /\ at'<=a4 /\ a4<=at' + 70000 /\ FitP q2 /\ OkV v:=by
  intro q hq a3 s3 b1 b2
  obtain ⟨a4,s4,v,h,h5,h6,h7⟩:=x8e hc (k:=k) (by omega) hq (at':=a3) (by omega) (by omega) s3
  rw [h]
  simp only [w5i]
  exact ⟨a4,s4,q,v,rfl,by omega,by omega,hq,h7⟩
 cases hg:q1w p
 ·simp only [cond_false]
  exact fin p h4 a2 s2 h2 (by omega)
 ·simp only [cond_true]
  obtain ⟨a3,s3,q,h,h5,h6⟩:=q3r hc (k:=k) (by omega) (at':=a2) (by omega) (by omega) s2 2
  rw [h]
  simp only [q3o]
  cases q
  ·simp only [cond_false]
   exact fin p h4 a3 s3 (by omega) (by omega)
  ·simp only [cond_true]
   have hpos:0 < p.cmds.length:=by
    simp only [q1w,Bool.and_eq_true,decide_eq_true_eq] at hg
    omega
   have hd:decide ((0:Int) < (p.cmds.length:Int)) = true:=decide_eq_true (by omega)
   have hget:(q0c p.cmds)[0]? = some (q38 p.cmds[0]):=by rw [q2i,List.getElem?_eq_getElem hpos];rfl
   have e1:(PV.row 2 0 [PV.agg [.int .i64 20,.int .u64 1]]) = .row 2 0 (encT [(20,1#64)]):=rfl
   have e2:(PV.row 2 0 [PV.agg [.int .i64 0,.row 2 0 [PV.agg [.int .i64 2,.int .u64 0],PV.agg [.int .i64 1,.int .u64 1],PV.agg [.int .i64 3,.int .u64 0]]]]) = .row 2 0 (q0y [⟨0,[(2,0#64),(1,1#64),(3,0#64)]⟩]):=rfl
   have e3:([PV.agg [.int .i64 2,.int .u64 0],PV.agg [.int .i64 1,.int .u64 0],PV.agg [.int .i64 14,.int .u64 0]]:List PV) = encT [(2,0#64),(1,0#64),(14,0#64)]:=rfl
   rw [hd,hget,e1,e2,e3]
   simp only [cond_true,Option.bind_some]
   rw [x4s]
   simp only [Option.bind_some]
   rw [q7p,q2i,List.getElem?_set_self hpos]
   simp only [Option.map_some,Option.bind_some]
   rw [x31]
   simp only [Option.bind_some]
   rw [q7p,List.set_set,List.take_of_length_le (by simp)]
   exact fin { p with start:=[(2,0#64),(1,0#64),(14,0#64)],cmds:=p.cmds.set 0 { p.cmds[0] with wh:=[(20,1#64)],ch:=[⟨0,[(2,0#64),(1,1#64),(3,0#64)]⟩] } } ⟨h4.w,h4.v,by simp,by simpa using h4.cm,fun c hc'=>by
    rcases List.mem_or_eq_of_mem_set hc' with h12 | h12
    ·exact h4.c c h12
    ·subst h12
     exact ⟨by simp,by simp,fun x hx=>by simp at hx;subst hx;simp⟩⟩ a3 s3 (by omega) (by omega)
def Inh (v:List Int) (c:Int):Prop:=∃ y,inG v.length y /\ dAt v y = c
theorem w1e {p:Prg} {v:List Int} (hg:gsB p v = true) {c:Int} (h:Inh v c):clB p v c = true:=by
 obtain ⟨s1,s2,s3⟩:=q02 hg
 obtain ⟨y,h1,rfl⟩:=h
 have:=x0v s2 h1.2
 simp only [clB,hg,Bool.true_and,Bool.and_eq_true,decide_eq_true_eq]
 exact this
theorem x7u {p:Prg} (hp:FitP p) (hs:q0j p = true) {v:List Int} (hn:v.length = nS p) {c:Int} (h:Inh v c):stpL p v c ≠ [] /\ ∀ x ∈ stpL p v c,Inh v x:=by
 obtain ⟨y,h1,h2⟩:=h
 refine ⟨fun h0=>?_,fun x hx=>?_⟩
 ·cases hn2:nxL p y with
  | nil=>exact w2i p y hn2
  | cons z zs =>
   have:dAt v z ∈ stpL p v c:=(y5x p v c _).2 ⟨y,h1,h2,z,by rw [hn2];simp,rfl⟩
   rw [h0] at this
   cases this
 ·obtain ⟨y2,h3,h4,z,h5,h6⟩:=(y5x p v c x).1 hx
  exact ⟨z,by rw [hn];exact q3s.2 (q80 hp hs (q3s.1 (by rw [<- hn];exact h3)) z h5),h6⟩
theorem z6y {bs:List Nat} (hc:CodeOK bs) {k:Nat} (hk:1000900<=k) (p:Prg) (hp:FitP p) {v:List Int} (hv:OkV v) (hg:gsB p v = true):∀ (m n:Nat) (o:List Int) (at':Int) (s:W),m < n->0<=at'->at' + 2 * m<=400000000->1<=o.length->o.length + m<=100->(∀ x ∈ o,Inh v x) ->
  ∃ a2 s2 l,y5u k n o.length (m:Int) (encB bs) at' (wi s) p.wide p.vars (encT p.start) (q0c p.cmds) (encZ v) (encZ o) = r55 (encB bs) a2 (wi s2) (encZ l) /\ at'<=a2 /\ a2<=at' + 2 * m + 10 /\ 1<=l.length /\ l.length<=100 /\ l.length = o.length + m
 | m,0,o,at',s,hm,h0,h1,ho,hl,hin=>by omega
 | 0,n + 1,o,at',s,hm,h0,h1,ho,hl,hin=>by
  have hd:decide (((0:Nat):Int) > 0) = false:=rfl
  rw [x5g,hd,q1d]
  obtain ⟨a2,s2,q,h,h2,h3⟩:=q3r hc (k:=k) (by omega) (at':=at') h0 (by omega) s 12
  simp only [cond_false]
  rw [h]
  simp only [q3o]
  cases q
  ·exact ⟨a2,s2,o,rfl,by omega,by omega,ho,by omega,rfl⟩
  ·simp only [cond_true]
   obtain ⟨a3,s3,i,h,h4,h5,h6,h7,_⟩:=q1k hc (k:=k) (by omega) (at':=a2) (by omega) (by omega) s2 (o.length:Int)
   rw [h]
   simp only [q16]
   obtain ⟨a4,s4,x,h,h8,h9,h10,h11,_⟩:=q1k hc (k:=k) (by omega) (at':=a3) (by omega) (by omega) s3 6
   rw [h]
   simp only [q16]
   have h7':=h7 (by omega)
   have hil:i.toNat < o.length:=by omega
   rw [decide_eq_true h6,decide_eq_true h7',Nat.zero_add,q2s,List.getElem?_eq_getElem hil]
   simp only [Bool.and_self,cond_true,Option.map_some,Option.bind_some]
   rw [q8m,List.take_of_length_le (by simp)]
   exact ⟨a4,s4,o.set i.toNat x,rfl,by omega,by omega,by simp;omega,by simp;omega,by simp⟩
 | m + 1,n + 1,o,at',s,hm,h0,h1,ho,hl,hin=>by
  obtain ⟨s1,s2,s3⟩:=q02 hg
  have hvl:=hv.len
  have hd:decide (((m + 1:Nat):Int) > 0) = true:=decide_eq_true (by omega)
  have hprev:IntKind.i64.wrap ((o.length:Int) - 1) = ((o.length - 1:Nat):Int):=by rw [q0b (by omega) (by omega)];omega
  have hm1:IntKind.i64.wrap (((m + 1:Nat):Int) - 1) = (m:Int):=by rw [q0b (by omega) (by omega)];omega
  have hlt:o.length - 1 < o.length:=by omega
  have hx:=hin _ (List.getElem_mem hlt)
  have hcl:=w1e hg hx
  obtain ⟨hne,hinh⟩:=x7u hp s1 s3 hx
  have hsl:=x7d hp s1 s3 s2 o[o.length - 1]
  have hd2:(decide ((0:Int)<=((o.length - 1:Nat):Int)) && decide (((o.length - 1:Nat):Int) < (o.length:Int))) = true:=by rw [decide_eq_true (by omega),decide_eq_true (by omega)];rfl
  have hat:(encZ o)[0 + (((o.length - 1:Nat):Int)).toNat]? = some (.int .i64 o[o.length - 1]):=by rw [Nat.zero_add,Int.toNat_natCast,q2s,List.getElem?_eq_getElem hlt];rfl
  rw [x5g,hd,hprev,hd2,hat,hm1,q1d]
  simp only [cond_true,Option.bind_some,q0k]
  rw [y17 (by omega) p hp hv]
  simp only [w2s]
  rw [hcl]
  simp only [cond_true,q0d]
  have hpos:0 < (stpL p v o[o.length - 1]).length:=List.length_pos_iff.2 hne
  obtain ⟨a2,s2',i,h,h2,h3,h4,h5,_⟩:=q1k hc (k:=k) (by omega) (at':=at') h0 (by omega) s ((stpL p v o[o.length - 1]).length:Int)
  have h5':=h5 (by omega)
  rw [h]
  simp only [q16]
  have ei:i = ((i.toNat:Nat):Int):=by omega
  have hil:i.toNat < (stpL p v o[o.length - 1]).length:=by omega
  rw [ei,q0l hil]
  simp only [Option.bind_some,q0k]
  rw [q0r (by omega) (by omega),q1i]
  simp only [cond_true]
  obtain ⟨a3,s3',l,h,h6,h7,h8,h9,h10⟩:=z6y hc hk p hp hv hg m n (o ++ [(stpL p v o[o.length - 1])[i.toNat]]) a2 s2' (by omega) (by omega) (by omega) (by simp) (by simp;omega) (fun x hx=>by
   rcases List.mem_append.1 hx with h | h
   ·exact hin x h
   ·simp only [List.mem_singleton] at h
    rw [h]
    exact hinh _ (List.getElem_mem hil))
  rw [List.length_append] at h h10
  exact ⟨a3,s3',l,h,by omega,by omega,h8,h9,by simp at h10;omega⟩
theorem z29 {bs:List Nat} (hc:CodeOK bs) {k:Nat} (hk:1001000<=k) (p:Prg) (hp:FitP p) {v:List Int} (hv:OkV v) {at':Int} (h0:0<=at') (h1:at'<=300000000) (s:W) :
  ∃ a2 s2 l,c55 k p.wide p.vars (encT p.start) (q0c p.cmds) (encZ v) (encB bs) at' (wi s) = r55 (encB bs) a2 (wi s2) (encZ l) /\ at'<=a2 /\ a2<=at' + 100 /\ 1<=l.length /\ l.length<=60:=by
 obtain ⟨k,rfl⟩:∃ j,k = j + 1:=⟨k - 1,by omega⟩
 rw [n55,y0c (by omega) p hp hv]
 simp only [w4r,y2i]
 cases hgs:gsB p v
 ·exact ⟨at',s,[0],rfl,by omega,by omega,by simp,by simp⟩
 obtain ⟨s1,s2,s3⟩:=q02 hgs
 have e:y71 p v = clV v (whI p p.start):=rfl
 simp only [Bool.not_true,cond_false,cond_true]
 rw [e]
 cases hne:clV v (whI p p.start) with
 | nil=>exact ⟨at',s,[0],rfl,by omega,by omega,by simp,by simp⟩
 | cons y ys =>
  have hlen:(((encZ (y :: ys)).length:Int) == 0) = false:=beq_eq_false_iff_ne.2 (by simp;omega)
  have hwl:=x1d s2 (y8f s3 p.start)
  rw [hne] at hwl
  have hvl:=hv.len
  rw [hlen]
  simp only [cond_false,q0d]
  obtain ⟨a2,s2',i,h,h2,h3,h4,h5,_⟩:=q1k hc (k:=k) (by omega) (at':=at') h0 (by omega) s ((y :: ys).length:Int)
  have h5':=h5 (by simp;omega)
  rw [h]
  simp only [q16]
  have ei:i = ((i.toNat:Nat):Int):=by omega
  have hil:i.toNat < (y :: ys).length:=by omega
  rw [ei,q0l hil]
  simp only [Option.bind_some,q0k]
  obtain ⟨a3,s3',m,h,h6,h7,h8,h9,_⟩:=q1k hc (k:=k) (by omega) (at':=a2) (by omega) (by omega) s2' 8
  have h9':=h9 (by omega)
  rw [h]
  simp only [q16]
  have em:m = ((m.toNat:Nat):Int):=by omega
  have hinh:Inh v ((y :: ys)[i.toNat]):=by
   have hm:(y :: ys)[i.toNat] ∈ clV v (whI p p.start):=by rw [hne];exact List.getElem_mem hil
   obtain ⟨z,h10,h11⟩:=(q6q v _ _).1 hm
   exact ⟨z,y8f s3 p.start z h10,h11⟩
  obtain ⟨a4,s4,l,h,h10,h11,h12,h13,h14⟩:=z6y hc (k:=k) (by omega) p hp hv hgs m.toNat k [(y :: ys)[i.toNat]] a3 s3' (by omega) (by omega) (by omega) (by simp) (by simp;omega) (by intro x hx;simp only [List.mem_singleton] at hx;rw [hx];exact hinh)
  rw [<- em] at h
  refine ⟨a4,s4,l,h,by omega,by omega,h12,?_⟩
  simp at h14
  omega
end Go.Proofs.YtgdegfijcijnoaaGreat
/- FnApart: conditions that separate. -/
namespace Go.Proofs.YtgdegfijcijnoaaGreat
open Go.Dp
theorem z49 {k:Nat} (a b:List (Nd)) (hl:a.length = b.length) (ha:a.length<=1000000):∀ (n i:Nat),a.length - i < n->i<=a.length->y06 k n (encT a) (encT b) (a.length:Int) (i:Int) = r271 (decide (a.drop i = b.drop i))
 | 0,i,h,hi=>by omega
 | n + 1,i,h,hi=>by
  rw [w05]
  by_cases hlt:i < a.length
  ·have hd:decide ((i:Int) < (a.length:Int)) = true:=by simpa using hlt
   have hnext:IntKind.i64.wrap ((i:Int) + 1) = ((i + 1:Nat):Int):=by rw [q0b (by omega) (by omega)];omega
   rw [hd,q4l hlt,q4l (t:=b) (i:=i) (by omega),q0f hlt,q0f (l:=b) (by omega),hnext]
   simp only [cond_true,Option.bind_some,q29,q2x,q4y,q3y,Bool.and_true,y61,List.cons.injEq,Bool.decide_and]
   by_cases he:a[i] = b[i]
   ·have e1:(!decide (a[i] = b[i])) = false:=by simp [he]
    have e2:decide (a[i] = b[i]) = true:=by simpa using he
    rw [e1,e2]
    simp only [cond_false,Bool.true_and]
    exact z49 a b hl ha n (i + 1) (by omega) (by omega)
   ·have e1:(!decide (a[i] = b[i])) = true:=by
     simpa using he
    have e2:decide (a[i] = b[i]) = false:=by simpa using he
    rw [e1,e2];rfl
  ·have hd:decide ((i:Int) < (a.length:Int)) = false:=by simpa using hlt
   rw [hd,List.drop_eq_nil_of_le (by omega),List.drop_eq_nil_of_le (by omega)]
   rfl
theorem x22 {k:Nat} (hk:1000010<=k) (a b:List (Nd)) (ha:a.length<=1000000):c271 k (encT a) (encT b) = r271 (decide (a = b)):=by
 obtain ⟨k,rfl⟩:∃ j,k = j + 1:=⟨k - 1,by omega⟩
 rw [n271,q06,q06]
 by_cases hl:a.length = b.length
 ·have e:((a.length:Int) != (b.length:Int)) = false:=by simp [hl]
  rw [e]
  exact z49 (k:=k) a b hl ha k 0 (by omega) (by omega)
 ·have e:((a.length:Int) != (b.length:Int)) = true:=by simp;omega
  have e2:decide (a = b) = false:=by simp;intro h;exact hl (by rw [h])
  rw [e,e2];rfl
theorem y55 {k:Nat} (a b:List (Nd)) (hl:a.length = b.length) (ha:a.length<=1000000):∀ (n i:Nat),a.length - i < n->i<=a.length->y0t k n (encT a) (encT b) (a.length:Int) (i:Int) = r218 (decide (a.drop i = b.drop i))
 | 0,i,h,hi=>by omega
 | n + 1,i,h,hi=>by
  rw [w1c]
  by_cases hlt:i < a.length
  ·have hd:decide ((i:Int) < (a.length:Int)) = true:=by simpa using hlt
   have hnext:IntKind.i64.wrap ((i:Int) + 1) = ((i + 1:Nat):Int):=by rw [q0b (by omega) (by omega)];omega
   rw [hd,q4l hlt,q4l (t:=b) (i:=i) (by omega),q0f hlt,q0f (l:=b) (by omega),hnext]
   simp only [cond_true,Option.bind_some,q29,q2x,q4y,q3y,Bool.and_true,y61,List.cons.injEq,Bool.decide_and]
   by_cases he:a[i] = b[i]
   ·have e1:(!decide (a[i] = b[i])) = false:=by simp [he]
    have e2:decide (a[i] = b[i]) = true:=by simpa using he
    rw [e1,e2]
    simp only [cond_false,Bool.true_and]
    exact y55 a b hl ha n (i + 1) (by omega) (by omega)
   ·have e1:(!decide (a[i] = b[i])) = true:=by
     simpa using he
    have e2:decide (a[i] = b[i]) = false:=by simpa using he
    rw [e1,e2];rfl
  ·have hd:decide ((i:Int) < (a.length:Int)) = false:=by simpa using hlt
   rw [hd,List.drop_eq_nil_of_le (by omega),List.drop_eq_nil_of_le (by omega)]
   rfl
theorem w33 {k:Nat} (hk:1000010<=k) (a b:List (Nd)) (ha:a.length<=1000000):c218 k (encT a) (encT b) = r218 (decide (a = b)):=by
 obtain ⟨k,rfl⟩:∃ j,k = j + 1:=⟨k - 1,by omega⟩
 rw [n218,q06,q06]
 by_cases hl:a.length = b.length
 ·have e:((a.length:Int) != (b.length:Int)) = false:=by simp [hl]
  rw [e]
  exact y55 (k:=k) a b hl ha k 0 (by omega) (by omega)
 ·have e:((a.length:Int) != (b.length:Int)) = true:=by simp;omega
  have e2:decide (a = b) = false:=by simp;intro h;exact hl (by rw [h])
  rw [e,e2];rfl
def notT (t:List Nd):List Nd:=t ++ [(19,0#64)]
theorem x9y {p:Prg} (hg:q1w p = true) {t:List Nd} (hkt:kindT p.wide p.vars t = 2) {s:List W} (hs:stOK p s = true):vrun p.wide s (notT t) [] = some [1#64 - valD p.wide s t] /\ (1#64 - valD p.wide s t == 1#64) = !q6 p t s:=by
 obtain ⟨hw,hv⟩:=q4g hg
 obtain ⟨h1,h2⟩:=(q4q hw).1 hs
 obtain ⟨h3,h4⟩:=q5u hkt (by omega) h1 h2
 refine ⟨?_,?_⟩
 ·unfold notT
  rw [q5r,h3]
  rfl
 ·unfold q6
  rcases q4x (x1e (by rw [hkt] at *;exact h4)) with h | h <;> rw [h] <;> decide
theorem x0e {k:Nat} (hk:1000010<=k) (p:Prg) (hg:q1w p = true) (l1 l2:List PV) (t:List Nd) (ht:t.length<=100) (hkt:kindT p.wide p.vars t = 2) (s:List W) (hs:stOK p s = true):c69 k p.wide p.vars l1 l2 (encT (notT t)) (encW s) = r69 (!q6 p t s):=by
 obtain ⟨k,rfl⟩:∃ j,k = j + 1:=⟨k - 1,by omega⟩
 obtain ⟨hw,hv⟩:=q4g hg
 obtain ⟨hn1,hn2⟩:=x9y hg hkt hs
 rw [n69,q7o (by omega) hw s _ (by simp [notT];omega) hn1]
 simp only [y08]
 have e:(1:Int) = wi 1#64:=rfl
 rw [e,q3y,hn2]
theorem y3w {k:Nat} (w1 v1:Int) (l1 l2 t1:List PV) (f:Int->Bool) (l:List (Int)) (hl:l.length<=100000) (hc:∀ x ∈ l,c291 k x w1 v1 l1 l2 t1 = r291 (f x)):∀ (n i:Nat),l.length - i < n->i<=l.length->q7s k n (encZ l) w1 v1 l1 l2 t1 (l.length:Int) (i:Int) = q8i (fixI f i (l.drop i))
 | 0,i,h,hi=>by omega
 | n + 1,i,h,hi=>by
  rw [y9z]
  by_cases hlt:i < l.length
  ·have hd:decide ((i:Int) < (l.length:Int)) = true:=by simpa using hlt
   have hnext:IntKind.i64.wrap ((i:Int) + 1) = ((i + 1:Nat):Int):=by rw [q0b (by omega) (by omega)];omega
   rw [hd,q0l hlt,q0f hlt,hnext]
   simp only [cond_true,Option.bind_some,q0k]
   rw [hc _ (List.getElem_mem hlt)]
   simp only [w4e,fixI]
   cases f l[i]
   ·exact y3w w1 v1 l1 l2 t1 f l hl hc n (i + 1) (by omega) (by omega)
   ·rfl
  ·have hd:decide ((i:Int) < (l.length:Int)) = false:=by simpa using hlt
   rw [hd,List.drop_eq_nil_of_le (by omega)]
   rfl
theorem x7k {k:Nat} (hk:100010<=k) (w1 v1:Int) (l1 l2 t1:List PV) (f:Int->Bool) (l:List (Int)) (hl:l.length<=100000) (hc:∀ x ∈ l,c291 k x w1 v1 l1 l2 t1 = r291 (f x)):z8l (k + 1) (encZ l) w1 v1 l1 l2 t1 = q8i (fixI f 0 l):=by
 rw [x8f,q0d]
 exact y3w (k:=k) w1 v1 l1 l2 t1 f l hl hc k 0 (by omega) (by omega)
theorem x99 {k:Nat} (hk:100010<=k) (w1 v1:Int) (l1 l2 t1:List PV) (f:Int->Bool) (l:List (Int)) (hl:l.length<=100000) (hc:∀ x ∈ l,c291 k x w1 v1 l1 l2 t1 = r291 (f x)):y2b (k + 2) (encZ l) w1 v1 l1 l2 t1 = y2o (l.any f):=by
 rw [w0t,x7k (by omega) w1 v1 l1 l2 t1 f l hl hc]
 simp only [x0f,q8b]
theorem y3o {k:Nat} (hk:1000200<=k) {p:Prg} (hs:q0j p = true) (l1 l2:List PV) (t:List Nd) (f:Int->Bool) (hf:∀ k',1000010<=k'->∀ x,inS p x->c69 k' p.wide p.vars l1 l2 (encT t) (encW (sto p x)) = r69 (f x)) (l:List Int) (hl:l.length<=1000) (hin:∀ x ∈ l,inS p x):c270 k p.wide p.vars l1 l2 (encT t) (encZ l) = r270 (l.all f):=by
 obtain ⟨k,rfl⟩:∃ j,k = j + 4:=⟨k - 4,by omega⟩
 rw [n270,x99 (k:=k + 1) (by omega) p.wide p.vars l1 l2 (encT t) (fun x=>!f x) l (by omega) (fun x hx=>by
  rw [n291,z5m (by omega) hs _ _ (hin x hx)]
  simp only [y5v]
  rw [hf k (by omega) x (hin x hx)]
  simp only [x16])]
 simp only [x2z,List.any_eq_not_all_not,Bool.not_not]
theorem z7j {k:Nat} (hk:1000200<=k) {p:Prg} (hs:q0j p = true) (l1 l2:List PV) (t:List Nd) (ht:t.length<=100) (hkt:kindT p.wide p.vars t = 2) (l:List Int) (hl:l.length<=1000) (hin:∀ x ∈ l,inS p x):c270 k p.wide p.vars l1 l2 (encT t) (encZ l) = r270 (l.all (hN p t)) :=
 y3o hk hs l1 l2 t (hN p t) (fun k' hk' x hx=>z3p hk' p (q1q hs) l1 l2 t ht hkt _ (q5h hs hx)) l hl hin
theorem z03 {k:Nat} (hk:1000200<=k) {p:Prg} (hs:q0j p = true) (l1 l2:List PV) (t:List Nd) (ht:t.length<=100) (hkt:kindT p.wide p.vars t = 2) (l:List Int) (hl:l.length<=1000) (hin:∀ x ∈ l,inS p x):c270 k p.wide p.vars l1 l2 (encT (notT t)) (encZ l) = r270 (l.all fun x=>!hN p t x) :=
 y3o hk hs l1 l2 (notT t) (fun x=>!hN p t x) (fun k' hk' x hx=>x0e hk' p (q1q hs) l1 l2 t ht hkt _ (q5h hs hx)) l hl hin
def sepB (p:Prg) (t:List Nd) (a b:List Int):Bool:=(a.all (hN p t) && b.all fun x=>!hN p t x) || ((a.all fun x=>!hN p t x) && b.all (hN p t))
theorem w0z {k:Nat} (hk:1000300<=k) {p:Prg} (hs:q0j p = true) (l1 l2:List PV) (t:List Nd) (ht:t.length<=100) (hkt:kindT p.wide p.vars t = 2) (a b:List Int) (ha:a.length<=1000) (hb:b.length<=1000) (hain:∀ x ∈ a,inS p x) (hbin:∀ x ∈ b,inS p x) :
  c222 k p.wide p.vars l1 l2 (encT t) (encZ a) (encZ b) = r222 (sepB p t a b):=by
 obtain ⟨k,rfl⟩:∃ j,k = j + 1:=⟨k - 1,by omega⟩
 have e1:[PV.row 2 0 (encT t),PV.row 2 0 [PV.agg [.int .i64 19,.int .u64 0]]] = q7q [encT t,encT [(19,0#64)]]:=rfl
 have e2:[encT t,encT [(19,0#64)]].flatten = encT (notT t):=by simp [notT,z8e]
 rw [n222,e1,x4e (by omega) _ (by simp) (by simp;omega),e2,x55]
 rw [List.take_length,z7j (by omega) hs _ _ t ht hkt a ha hain,z03 (by omega) hs _ _ t ht hkt b hb hbin,z03 (by omega) hs _ _ t ht hkt a ha hain,z7j (by omega) hs _ _ t ht hkt b hb hbin]
 simp only [w39,x9h]
 unfold sepB
 cases a.all (hN p t) <;> cases (b.all fun x=>!hN p t x) <;> cases (a.all fun x=>!hN p t x) <;> rfl
theorem y6h {p:Prg} {t:List Nd} {l:List Int} (hl:∀ x ∈ l,inS p x):(!q5c l (whI p t)) = l.all fun x=>!hN p t x:=by
 unfold q5c
 induction l with
 | nil=>rfl
 | cons x l ih =>
  have h1:(whI p t).contains x = hN p t x:=by
   rw [Bool.eq_iff_iff,List.contains_iff_mem,q4r]
   simp [hl x (by simp)]
  simp only [List.any_cons,List.all_cons,h1,Bool.not_or,ih fun y hy=>hl y (by simp [hy])]
theorem w0l {k:Nat} (hk:1000300<=k) {p:Prg} (hs:q0j p = true) (l1 l2:List PV) (t:List Nd) (ht:t.length<=100) (hkt:kindT p.wide p.vars t = 2) (a b:List Int) (ha:a.length<=1000) (hb:b.length<=1000) (hain:∀ x ∈ a,inS p x) (hbin:∀ x ∈ b,inS p x) :
  c226 k p.wide p.vars l1 l2 (encT t) (encZ a) (encZ b) = r226 (sepB p t a b):=by
 obtain ⟨k,rfl⟩:∃ j,k = j + 1:=⟨k - 1,by omega⟩
 have hwl:(whI p t).length<=32:=Nat.le_trans (y2j p t _ _) (q2p hs).2
 rw [n226,z2i (by omega) hs _ _ t ht hkt]
 simp only [y1h]
 rw [y4p (by omega) a _ (by omega) (by omega),y4p (by omega) b _ (by omega) (by omega),y7f (by omega) a _ (by omega) (by omega),y7f (by omega) b _ (by omega) (by omega)]
 simp only [w4t,w35,x4j hain,x4j hbin,y6h hain,y6h hbin]
 unfold sepB
 cases a.all (hN p t) <;> cases (b.all fun x=>!hN p t x) <;> cases (a.all fun x=>!hN p t x) <;> rfl
theorem z6q {k:Nat} (w1 v1:Int) (l1 l2 a1 b1:List PV) (f:List Nd->Bool) (l:List (List Nd)) (hl:l.length<=100000) (hc:∀ x ∈ l,c221 k (encT x) w1 v1 l1 l2 a1 b1 = r221 (f x)):∀ (n i:Nat),l.length - i < n->i<=l.length->q72 k n (q0h l) w1 v1 l1 l2 a1 b1 (l.length:Int) (i:Int) = q8y (fixI f i (l.drop i))
 | 0,i,h,hi=>by omega
 | n + 1,i,h,hi=>by
  rw [y86]
  by_cases hlt:i < l.length
  ·have hd:decide ((i:Int) < (l.length:Int)) = true:=by simpa using hlt
   have hnext:IntKind.i64.wrap ((i:Int) + 1) = ((i + 1:Nat):Int):=by rw [q0b (by omega) (by omega)];omega
   rw [hd,q0o,q1o,List.getElem?_eq_getElem hlt,q0f hlt,hnext]
   simp only [cond_true,Option.map_some,Option.bind_some,q09]
   rw [hc _ (List.getElem_mem hlt)]
   simp only [w2q,fixI]
   cases f l[i]
   ·exact z6q w1 v1 l1 l2 a1 b1 f l hl hc n (i + 1) (by omega) (by omega)
   ·rfl
  ·have hd:decide ((i:Int) < (l.length:Int)) = false:=by simpa using hlt
   rw [hd,List.drop_eq_nil_of_le (by omega)]
   rfl
theorem x10 {k:Nat} (hk:100010<=k) (w1 v1:Int) (l1 l2 a1 b1:List PV) (f:List Nd->Bool) (l:List (List Nd)) (hl:l.length<=100000) (hc:∀ x ∈ l,c221 k (encT x) w1 v1 l1 l2 a1 b1 = r221 (f x)):z8p (k + 1) (q0h l) w1 v1 l1 l2 a1 b1 = q8y (fixI f 0 l):=by
 rw [x7x,q05]
 exact z6q (k:=k) w1 v1 l1 l2 a1 b1 f l hl hc k 0 (by omega) (by omega)
def q8x (p:Prg) (ts:List (List Nd)) (a b:List Int):Int:=fixI (fun t=>sepB p t a b) 0 ts
theorem x4r {k:Nat} (hk:1000400<=k) {p:Prg} (hs:q0j p = true) (l1 l2:List PV) (ts:List (List Nd)) (hl:ts.length<=1000) (ht:∀ t ∈ ts,t.length<=100) (hc:allC p ts = true) (a b:List Int) (ha:a.length<=1000) (hb:b.length<=1000) (hain:∀ x ∈ a,inS p x) (hbin:∀ x ∈ b,inS p x) :
  c158 k p.wide p.vars l1 l2 (q0h ts) (encZ a) (encZ b) = r158 (q8x p ts a b):=by
 obtain ⟨k,rfl⟩:∃ j,k = j + 3:=⟨k - 3,by omega⟩
 rw [n158,x10 (k:=k + 1) (by omega) p.wide p.vars l1 l2 (encZ a) (encZ b) (fun t=>sepB p t a b) ts (by omega) (fun t h=>by
  rw [n221,w0z (by omega) hs _ _ t (ht t h) (q5s hc t h) a b ha hb hain hbin]
  simp only [w5n])]
 simp only [y81,q8x]
theorem z7a {k:Nat} (hk:1000400<=k) {p:Prg} (hs:q0j p = true) (l1 l2:List PV) (ts:List (List Nd)) (hl:ts.length<=1000) (ht:∀ t ∈ ts,t.length<=100) (hc:allC p ts = true) (a b:List Int) (ha:a.length<=1000) (hb:b.length<=1000) (hain:∀ x ∈ a,inS p x) (hbin:∀ x ∈ b,inS p x):∀ (n i:Nat),ts.length - i < n->i<=ts.length ->
  z9e k n (encZ a) (encZ b) (q0h ts) (ts.length:Int) (i:Int) p.wide p.vars l1 l2 = r161 (fixI (fun t=>sepB p t a b) i (ts.drop i))
 | 0,i,h,hi=>by omega
 | n + 1,i,h,hi=>by
  rw [w14]
  by_cases hlt:i < ts.length
  ·have hd:decide ((i:Int) < (ts.length:Int)) = true:=by simpa using hlt
   have hnext:IntKind.i64.wrap ((i:Int) + 1) = ((i + 1:Nat):Int):=by rw [q0b (by omega) (by omega)];omega
   have hm:=List.getElem_mem hlt
   rw [hd,q0o,q1o,List.getElem?_eq_getElem hlt,q0f hlt,hnext]
   simp only [cond_true,Option.map_some,Option.bind_some,q09]
   rw [w0l (by omega) hs _ _ _ (ht _ hm) (q5s hc _ hm) a b ha hb hain hbin]
   simp only [w43,fixI]
   cases sepB p ts[i] a b
   ·exact z7a hk hs l1 l2 ts hl ht hc a b ha hb hain hbin n (i + 1) (by omega) (by omega)
   ·rfl
  ·have hd:decide ((i:Int) < (ts.length:Int)) = false:=by simpa using hlt
   rw [hd,List.drop_eq_nil_of_le (by omega)]
   rfl
end Go.Proofs.YtgdegfijcijnoaaGreat
/- FnApart: what is tried;what is drawn;the law. -/
namespace Go.Proofs.YtgdegfijcijnoaaGreat
open Go.Dp
def addT (o:List (List Nd)) (t:List Nd):List (List Nd):=bif decide (o.length < 40) && !(o.any fun x=>decide (x = t)) then o ++ [t] else o
theorem x7c (o:List (List Nd)) (t:List Nd) (h:o.length<=40):(addT o t).length<=40:=by
 unfold addT
 by_cases h1:o.length < 40
 ·have e:decide (o.length < 40) = true:=by simpa using h1
  rw [e]
  cases (o.any fun x=>decide (x = t))
  ·simp;omega
  ·exact h
 ·have e:decide (o.length < 40) = false:=by simpa using h1
  rw [e];exact h
theorem x67 {o:List (List Nd)} {t u:List Nd} (h:u ∈ addT o t):u ∈ o ∨ u = t:=by
 unfold addT at h
 cases hb:(decide (o.length < 40) && !(o.any fun x=>decide (x = t)))
 ·rw [hb] at h;exact .inl h
 ·rw [hb] at h
  rcases List.mem_append.1 h with h | h
  ·exact .inl h
  ·exact .inr (List.mem_singleton.1 h)
structure OutT (p:Prg) (o:List (List Nd)):Prop where
 len:o.length<=40
 mem:∀ t ∈ o,kindT p.wide p.vars t = 2
theorem OutT.add {p:Prg} {o:List (List Nd)} (h:OutT p o) {t:List Nd} (ht:kindT p.wide p.vars t = 2):OutT p (addT o t) :=
 ⟨x7c o t h.len,fun u hu=>by rcases x67 hu with hu | rfl;exact h.mem u hu;exact ht⟩
theorem y4v {k:Nat} (t1:List PV) (f:List Nd->Bool) (l:List (List Nd)) (hl:l.length<=100000) (hc:∀ x ∈ l,c217 k (encT x) t1 = r217 (f x)):∀ (n i:Nat),l.length - i < n->i<=l.length->q70 k n (q0h l) t1 (l.length:Int) (i:Int) = q8q (fixI f i (l.drop i))
 | 0,i,h,hi=>by omega
 | n + 1,i,h,hi=>by
  rw [y93]
  by_cases hlt:i < l.length
  ·have hd:decide ((i:Int) < (l.length:Int)) = true:=by simpa using hlt
   have hnext:IntKind.i64.wrap ((i:Int) + 1) = ((i + 1:Nat):Int):=by rw [q0b (by omega) (by omega)];omega
   rw [hd,q0o,q1o,List.getElem?_eq_getElem hlt,q0f hlt,hnext]
   simp only [cond_true,Option.map_some,Option.bind_some,q09]
   rw [hc _ (List.getElem_mem hlt)]
   simp only [w4s,fixI]
   cases f l[i]
   ·exact y4v t1 f l hl hc n (i + 1) (by omega) (by omega)
   ·rfl
  ·have hd:decide ((i:Int) < (l.length:Int)) = false:=by simpa using hlt
   rw [hd,List.drop_eq_nil_of_le (by omega)]
   rfl
theorem x7o {k:Nat} (hk:100010<=k) (t1:List PV) (f:List Nd->Bool) (l:List (List Nd)) (hl:l.length<=100000) (hc:∀ x ∈ l,c217 k (encT x) t1 = r217 (f x)):z8d (k + 1) (q0h l) t1 = q8q (fixI f 0 l):=by
 rw [x7g,q05]
 exact y4v (k:=k) t1 f l hl hc k 0 (by omega) (by omega)
theorem x9x {k:Nat} (hk:100010<=k) (t1:List PV) (f:List Nd->Bool) (l:List (List Nd)) (hl:l.length<=100000) (hc:∀ x ∈ l,c217 k (encT x) t1 = r217 (f x)):z8r (k + 2) (q0h l) t1 = z7n (l.any f):=by
 rw [x65,x7o (by omega) t1 f l hl hc]
 simp only [y9q,q8b]
theorem x1n {k:Nat} (hk:1000100<=k) {p:Prg} {o:List (List Nd)} (ho:OutT p o) (t:List Nd) (ht:kindT p.wide p.vars t = 2):c216 k (encT t) (q0h o) = r216 (q0h (addT o t)):=by
 obtain ⟨k,rfl⟩:∃ j,k = j + 4:=⟨k - 4,by omega⟩
 have hol:=ho.len
 have htl:=(q5o ht).1
 have etk:(q0h o).take o.length = q0h o:=by rw [List.take_of_length_le (by simp)]
 rw [n216,q05,etk]
 unfold addT
 by_cases h40:o.length < 40
 ·have e1:decide ((o.length:Int) < 40) = true:=by simp;omega
  have e2:decide (o.length < 40) = true:=by simpa using h40
  rw [e1,e2,x9x (k:=k + 1) (by omega) (encT t) (fun x=>decide (x = t)) o (by omega) (fun x hx=>by
   rw [n217,w33 (by omega) x t (by have:=(q5o (ho.mem x hx)).1;omega)]
   simp only [w25])]
  simp only [y9o,cond_true,Bool.true_and]
  cases (o.any fun x=>decide (x = t))
  ·simp only [Bool.not_false,cond_true]
   rw [n219 _ _ (by simp [LIM];omega) (by simp [LIM];omega)]
   simp only [w3,q06]
   have e3:(encT t).take t.length = encT t:=by rw [List.take_of_length_le (by simp)]
   rw [q0r (by omega) (by omega),e3,q6f,y0x,List.take_of_length_le (by simp)]
   rfl
  ·rfl
 ·have e1:decide ((o.length:Int) < 40) = false:=by simp;omega
  have e2:decide (o.length < 40) = false:=by simpa using h40
  rw [e1,e2]
  rfl
theorem y4c {k:Nat} (hk:1000100<=k) {p:Prg} {o:List (List Nd)} (ho:OutT p o) (t:List Nd) (ht:kindT p.wide p.vars t = 2):∀ (n i:Nat),o.length - i < n->i<=o.length ->
  z4z k n o.length (encT t) o.length (o.length:Int) (i:Int) (q0h o) = r224 (q0h (bif (o.drop i).any (fun x=>decide (x = t)) then o else bif decide (o.length < 40) then o ++ [t] else o))
 | 0,i,h,hi=>by omega
 | n + 1,i,h,hi=>by
  have hol:=ho.len
  have htl:=(q5o ht).1
  have etk:(q0h o).take o.length = q0h o:=by rw [List.take_of_length_le (by simp)]
  rw [x90]
  by_cases hlt:i < o.length
  ·have hd:decide ((i:Int) < (o.length:Int)) = true:=by simpa using hlt
   have hd0:decide ((0:Int)<=(i:Int)) = true:=by simp
   have hnext:IntKind.i64.wrap ((i:Int) + 1) = ((i + 1:Nat):Int):=by rw [q0b (by omega) (by omega)];omega
   have hm:=List.getElem_mem hlt
   rw [hd,hd0,Int.toNat_natCast,Nat.zero_add,q1o,List.getElem?_eq_getElem hlt,q0f hlt,hnext]
   simp only [cond_true,Bool.and_self,Option.map_some,Option.bind_some,q09,List.any_cons]
   rw [x22 (by omega) _ t (by have:=(q5o (ho.mem _ hm)).1;omega)]
   simp only [w4g,etk]
   by_cases he:o[i] = t
   ·have e1:decide (o[i] = t) = true:=by simpa using he
    rw [e1];rfl
   ·have e1:decide (o[i] = t) = false:=by simpa using he
    rw [e1]
    simp only [cond_false,Bool.false_or]
    exact y4c hk ho t ht n (i + 1) (by omega) (by omega)
  ·have hd:decide ((i:Int) < (o.length:Int)) = false:=by simpa using hlt
   rw [hd,List.drop_eq_nil_of_le (by omega)]
   simp only [cond_false,List.any_nil,etk,q06,Nat.zero_add,List.nil_append]
   by_cases h40:o.length < 40
   ·have e1:((o.length:Int) == 40) = false:=by simp;omega
    have e2:decide (o.length < 40) = true:=by simpa using h40
    have e3:(encT t).take t.length = encT t:=by rw [List.take_of_length_le (by simp)]
    rw [e1,e2,q0r (by omega) (by omega),q0r (by omega) (by omega),e3,q6f,y0x,List.take_of_length_le (by simp)]
    rfl
   ·have e1:((o.length:Int) == 40) = true:=by simp;omega
    have e2:decide (o.length < 40) = false:=by simpa using h40
    rw [e1,e2]
    rfl
theorem x06 {k:Nat} (hk:1000200<=k) {p:Prg} {o:List (List Nd)} (ho:OutT p o) (t:List Nd) (ht:kindT p.wide p.vars t = 2):c224 k (q0h o) (encT t) = r224 (q0h (addT o t)):=by
 obtain ⟨k,rfl⟩:∃ j,k = j + 1:=⟨k - 1,by omega⟩
 have hol:=ho.len
 rw [n224,q05]
 have:=y4c (k:=k) (by omega) ho t ht k 0 (by omega) (by omega)
 have h':z4z k k o.length (encT t) o.length (o.length:Int) 0 (q0h o) = _:=this
 rw [h']
 unfold addT
 rw [List.drop_zero]
 cases (o.any fun x=>decide (x = t)) <;> cases (decide (o.length < 40)) <;> rfl
def addW:List Cmd->List (List Nd)->List (List Nd)
 | [],o=>o
 | c :: l,o=>addW l (addT o c.wh)
def addB (p:Prg) (t:List Nd):Nat->Nat->List (List Nd)->List (List Nd)
 | 0,i,o=>o
 | m + 1,i,o=>addB p t m (i + 1) (bif q4f p (q0m p (i:Int)) t then addT o (oneT p (q0m p (i:Int)) t) else o)
def addP (p:Prg):List (List Nd)->List (List Nd)->List (List Nd)
 | [],o=>o
 | t :: l,o=>addP p l (addB p t p.cmds.length 0 o)
def tryL (p:Prg) (ts:List (List Nd)):List (List Nd):=addP p ts (addW p.cmds [])
theorem y70 {p:Prg}:∀ {l:List Cmd} {o:List (List Nd)},OutT p o->(∀ c ∈ l,kindT p.wide p.vars c.wh = 2)->OutT p (addW l o)
 | [],o,h,_=>h
 | c :: l,o,h,hl=>y70 (l:=l) (o:=addT o c.wh) (h.add (hl c (by simp))) fun c' h'=>hl c' (by simp [h'])
theorem y8t (by1:List (List Nd)):∀ (t:List Nd) (x:Nd),x.1 ≠ 2->putT by1 (t ++ [x]) = putT by1 t ++ [x]
 | [],x,h=>by simp [putT,h]
 | y :: t,x,h=>by
  simp only [List.cons_append,putT,y8t by1 t x h,List.append_assoc]
theorem q8p {p:Prg} {c:Cmd} {t:List Nd} (hk:kindT p.wide p.vars t = 2) (ho:q4f p c t = true):kindT p.wide p.vars (oneT p c t) = 2:=by
 have e:oneT p c t = putT (byOf p c) t:=by unfold oneT;rw [ho];rfl
 have hg:q1a p.wide p.vars (putT (byOf p c) t) = true:=by simp only [q4f,Bool.and_eq_true] at ho;exact ho.2
 rw [e]
 have h1:=(y6q (q5o hk).2).1
 have h2:=(y6q hg).1
 rcases List.eq_nil_or_concat t with rfl | ⟨u,x,rfl⟩
 ·rw [hk] at h1;cases h1
 ·rw [List.concat_eq_append] at h1 h2 hk ⊢
  rw [hk] at h1
  obtain ⟨s,hs⟩:=z8s h1
  injection hs with h3 h4
  have hx:x.1 ≠ 2:=by
   intro h
   rw [h] at h3
   revert h3
   decide
  rw [y8t _ _ _ hx] at h2 ⊢
  obtain ⟨s',hs'⟩:=z8s h2
  injection hs' with h5 h6
  rw [h5,<- h3]
theorem z2f {p:Prg} {t:List Nd} (ht:kindT p.wide p.vars t = 2):∀ {m i:Nat} {o:List (List Nd)},OutT p o->OutT p (addB p t m i o)
 | 0,i,o,h=>h
 | m + 1,i,o,h=>by
  refine z2f ht (m:=m) (i:=i + 1) ?_
  cases hb:q4f p (q0m p (i:Int)) t
  ·exact h
  ·exact h.add (q8p ht hb)
theorem y6c {p:Prg}:∀ {l:List (List Nd)} {o:List (List Nd)},OutT p o->(∀ t ∈ l,kindT p.wide p.vars t = 2)->OutT p (addP p l o)
 | [],o,h,_=>h
 | t :: l,o,h,hl=>y6c (l:=l) (o:=addB p t p.cmds.length 0 o) (z2f (hl t (by simp)) h) fun c' h'=>hl c' (by simp [h'])
theorem z09 {p:Prg} (hg:q1w p = true):∀ c ∈ p.cmds,kindT p.wide p.vars c.wh = 2 /\ ∀ x ∈ c.ch,0<=x.v /\ x.v < p.vars:=by
 intro c hc
 simp only [q1w,Bool.and_eq_true,List.all_eq_true] at hg
 have:=hg.2 c hc
 simp only [q3g,Bool.and_eq_true,beq_iff_eq] at this
 exact ⟨this.1,fun x hx=>⟨(q69 this.2 x hx).1,(q69 this.2 x hx).2.1⟩⟩
theorem x62 {p:Prg} (hg:q1w p = true) {ts:List (List Nd)} (hc:∀ t ∈ ts,kindT p.wide p.vars t = 2):OutT p (tryL p ts) :=
 y6c (y70 ⟨by simp,by simp⟩ fun c h=>(z09 hg c h).1) hc
section loops
variable {k:Nat} (hk:1000400<=k) {p:Prg} (hp:FitP p) (hg:q1w p = true) (ts:List (List Nd)) (hl:ts.length<=1000) (hc:∀ t ∈ ts,kindT p.wide p.vars t = 2)
include hk hp hg hl hc
theorem z1f (n1 i:Nat) (t:List Nd) (ht:kindT p.wide p.vars t = 2):∀ (n j:Nat) (o:List (List Nd)),p.cmds.length - j < n->j<=p.cmds.length->OutT p o ->
  z06 k n1 n (encT t) (q0h ts) (ts.length:Int) (i:Int) (p.cmds.length:Int) (j:Int) p.wide p.vars (encT p.start) (q0c p.cmds) o.length (q0h o) = z4r k n1 (q0h ts) (ts.length:Int) (IntKind.i64.wrap ((i:Int) + 1)) p.wide p.vars (encT p.start) (q0c p.cmds) (addB p t (p.cmds.length - j) j o).length (q0h (addB p t (p.cmds.length - j) j o))
 | 0,j,o,h,hj,ho=>by omega
 | n + 1,j,o,h,hj,ho=>by
  have hcm:=hp.cm
  have etk:(q0h o).take o.length = q0h o:=by rw [List.take_of_length_le (by simp)]
  rw [x9e]
  by_cases hlt:j < p.cmds.length
  ·have hd:decide ((j:Int) < (p.cmds.length:Int)) = true:=by simpa using hlt
   have hnext:IntKind.i64.wrap ((j:Int) + 1) = ((j + 1:Nat):Int):=by rw [q0b (by omega) (by omega)];omega
   have hno:q2h p (j:Int) = true:=by simp [q2h,hlt]
   have hm:=(q50 hno).2
   have htl:=(q5o ht).1
   rw [hd,y66 (by omega) p hp (j:Int) t (by omega) hno (z09 hg _ hm).2,hnext,etk]
   simp only [cond_true,w4w]
   have e:p.cmds.length - j = (p.cmds.length - (j + 1)) + 1:=by omega
   rw [e]
   simp only [addB]
   cases hb:q4f p (q0m p (j:Int)) t
   ·exact z1f n1 i t ht n (j + 1) o (by omega) (by omega) ho
   ·simp only [cond_true]
    rw [x1n (by omega) ho _ (q8p ht hb)]
    simp only [x5s,q05]
    exact z1f n1 i t ht n (j + 1) _ (by omega) (by omega) (ho.add (q8p ht hb))
  ·have hd:decide ((j:Int) < (p.cmds.length:Int)) = false:=by simpa using hlt
   have e:p.cmds.length - j = 0:=by omega
   rw [hd,e]
   rfl
theorem y1o:∀ (n i:Nat) (o:List (List Nd)),ts.length - i < n->i<=ts.length->OutT p o ->
  z4r k n (q0h ts) (ts.length:Int) (i:Int) p.wide p.vars (encT p.start) (q0c p.cmds) o.length (q0h o) = r157 (q0h (addP p (ts.drop i) o))
 | 0,i,o,h,hi,ho=>by omega
 | n + 1,i,o,h,hi,ho=>by
  have hcm:=hp.cm
  rw [w0n]
  by_cases hlt:i < ts.length
  ·have hd:decide ((i:Int) < (ts.length:Int)) = true:=by simpa using hlt
   have hnext:IntKind.i64.wrap ((i:Int) + 1) = ((i + 1:Nat):Int):=by rw [q0b (by omega) (by omega)];omega
   have hm:=List.getElem_mem hlt
   rw [hd,q0o,q1o,List.getElem?_eq_getElem hlt,q0f hlt]
   simp only [cond_true,Option.map_some,Option.bind_some,q09,q1h]
   have h3:=z1f hk hp hg ts hl hc n i ts[i] (hc _ hm) k 0 o (by omega) (by omega) ho
   have h':z06 k n k (encT ts[i]) (q0h ts) (ts.length:Int) (i:Int) (p.cmds.length:Int) 0 p.wide p.vars (encT p.start) (q0c p.cmds) o.length (q0h o) = _:=h3
   rw [h',hnext,Nat.sub_zero]
   exact y1o n (i + 1) _ (by omega) (by omega) (z2f (hc _ hm) ho)
  ·have hd:decide ((i:Int) < (ts.length:Int)) = false:=by simpa using hlt
   have etk:(q0h o).take o.length = q0h o:=by rw [List.take_of_length_le (by simp)]
   rw [hd,List.drop_eq_nil_of_le (by omega),etk]
   rfl
theorem y0b:∀ (n i:Nat) (o:List (List Nd)),p.cmds.length - i < n->i<=p.cmds.length->OutT p o ->
  y1k k n (q0h ts) (q0c p.cmds) (p.cmds.length:Int) (i:Int) p.wide p.vars (encT p.start) (q0c p.cmds) o.length (q0h o) = r157 (q0h (addP p ts (addW (p.cmds.drop i) o)))
 | 0,i,o,h,hi,ho=>by omega
 | n + 1,i,o,h,hi,ho=>by
  have hcm:=hp.cm
  have etk:(q0h o).take o.length = q0h o:=by rw [List.take_of_length_le (by simp)]
  rw [w0d]
  by_cases hlt:i < p.cmds.length
  ·have hd:decide ((i:Int) < (p.cmds.length:Int)) = true:=by simpa using hlt
   have hnext:IntKind.i64.wrap ((i:Int) + 1) = ((i + 1:Nat):Int):=by rw [q0b (by omega) (by omega)];omega
   have hm:=List.getElem_mem hlt
   have hkw:=(z09 hg _ hm).1
   rw [hd,q0o,q2i,List.getElem?_eq_getElem hlt,q0f hlt,hnext,etk]
   simp only [cond_true,Option.map_some,Option.bind_some,q5w,q6u,q3v]
   rw [x1n (by omega) ho _ hkw]
   simp only [x5s,q05]
   exact y0b n (i + 1) _ (by omega) (by omega) (ho.add hkw)
  ·have hd:decide ((i:Int) < (p.cmds.length:Int)) = false:=by simpa using hlt
   rw [hd,List.drop_eq_nil_of_le (by omega),q05]
   simp only [cond_false]
   exact y1o hk hp hg ts hl hc k 0 o (by omega) (by omega) ho
theorem z1x (n1 i:Nat) (t:List Nd) (ht:kindT p.wide p.vars t = 2):∀ (n j:Nat) (o:List (List Nd)),p.cmds.length - j < n->j<=p.cmds.length->OutT p o ->
  z0t k n1 n o.length (encT t) (q0h ts) (ts.length:Int) (i:Int) (p.cmds.length:Int) (j:Int) p.wide p.vars (encT p.start) (q0c p.cmds) (q0h o) = z41 k n1 (addB p t (p.cmds.length - j) j o).length (q0h ts) (ts.length:Int) (IntKind.i64.wrap ((i:Int) + 1)) p.wide p.vars (encT p.start) (q0c p.cmds) (q0h (addB p t (p.cmds.length - j) j o))
 | 0,j,o,h,hj,ho=>by omega
 | n + 1,j,o,h,hj,ho=>by
  have hcm:=hp.cm
  have etk:(q0h o).take o.length = q0h o:=by rw [List.take_of_length_le (by simp)]
  rw [w1n]
  by_cases hlt:j < p.cmds.length
  ·have hd:decide ((j:Int) < (p.cmds.length:Int)) = true:=by simpa using hlt
   have hnext:IntKind.i64.wrap ((j:Int) + 1) = ((j + 1:Nat):Int):=by rw [q0b (by omega) (by omega)];omega
   have hno:q2h p (j:Int) = true:=by simp [q2h,hlt]
   have hm:=(q50 hno).2
   have htl:=(q5o ht).1
   rw [hd,x34 (by omega) p hp (j:Int) t (by omega) hno (z09 hg _ hm).2,hnext,etk]
   simp only [cond_true,w3g]
   have e:p.cmds.length - j = (p.cmds.length - (j + 1)) + 1:=by omega
   rw [e]
   simp only [addB]
   cases hb:q4f p (q0m p (j:Int)) t
   ·exact z1x n1 i t ht n (j + 1) o (by omega) (by omega) ho
   ·simp only [cond_true]
    rw [x06 (by omega) ho _ (q8p ht hb)]
    simp only [x33,q05]
    exact z1x n1 i t ht n (j + 1) _ (by omega) (by omega) (ho.add (q8p ht hb))
  ·have hd:decide ((j:Int) < (p.cmds.length:Int)) = false:=by simpa using hlt
   have e:p.cmds.length - j = 0:=by omega
   rw [hd,e]
   rfl
theorem z93:∀ (n i:Nat) (o:List (List Nd)),ts.length - i < n->i<=ts.length->OutT p o ->
  z41 k n o.length (q0h ts) (ts.length:Int) (i:Int) p.wide p.vars (encT p.start) (q0c p.cmds) (q0h o) = r160 (q0h (addP p (ts.drop i) o))
 | 0,i,o,h,hi,ho=>by omega
 | n + 1,i,o,h,hi,ho=>by
  have hcm:=hp.cm
  rw [x91]
  by_cases hlt:i < ts.length
  ·have hd:decide ((i:Int) < (ts.length:Int)) = true:=by simpa using hlt
   have hnext:IntKind.i64.wrap ((i:Int) + 1) = ((i + 1:Nat):Int):=by rw [q0b (by omega) (by omega)];omega
   have hm:=List.getElem_mem hlt
   rw [hd,q0o,q1o,List.getElem?_eq_getElem hlt,q0f hlt]
   simp only [cond_true,Option.map_some,Option.bind_some,q09,q1h]
   have h3:=z1x hk hp hg ts hl hc n i ts[i] (hc _ hm) k 0 o (by omega) (by omega) ho
   have h':z0t k n k o.length (encT ts[i]) (q0h ts) (ts.length:Int) (i:Int) (p.cmds.length:Int) 0 p.wide p.vars (encT p.start) (q0c p.cmds) (q0h o) = _:=h3
   rw [h',hnext,Nat.sub_zero]
   exact z93 n (i + 1) _ (by omega) (by omega) (z2f (hc _ hm) ho)
  ·have hd:decide ((i:Int) < (ts.length:Int)) = false:=by simpa using hlt
   have etk:(q0h o).take o.length = q0h o:=by rw [List.take_of_length_le (by simp)]
   rw [hd,List.drop_eq_nil_of_le (by omega),etk]
   rfl
theorem y1l:∀ (n i:Nat) (o:List (List Nd)),p.cmds.length - i < n->i<=p.cmds.length->OutT p o ->
  z90 k n (q0h ts) o.length (q0c p.cmds) (p.cmds.length:Int) (i:Int) p.wide p.vars (encT p.start) (q0c p.cmds) (q0h o) = r160 (q0h (addP p ts (addW (p.cmds.drop i) o)))
 | 0,i,o,h,hi,ho=>by omega
 | n + 1,i,o,h,hi,ho=>by
  have hcm:=hp.cm
  have etk:(q0h o).take o.length = q0h o:=by rw [List.take_of_length_le (by simp)]
  rw [w0y]
  by_cases hlt:i < p.cmds.length
  ·have hd:decide ((i:Int) < (p.cmds.length:Int)) = true:=by simpa using hlt
   have hnext:IntKind.i64.wrap ((i:Int) + 1) = ((i + 1:Nat):Int):=by rw [q0b (by omega) (by omega)];omega
   have hm:=List.getElem_mem hlt
   have hkw:=(z09 hg _ hm).1
   rw [hd,q0o,q2i,List.getElem?_eq_getElem hlt,q0f hlt,hnext,etk]
   simp only [cond_true,Option.map_some,Option.bind_some,q5w,q6u,q3v]
   rw [x06 (by omega) ho _ hkw]
   simp only [x33,q05]
   exact y1l n (i + 1) _ (by omega) (by omega) (ho.add hkw)
  ·have hd:decide ((i:Int) < (p.cmds.length:Int)) = false:=by simpa using hlt
   rw [hd,List.drop_eq_nil_of_le (by omega),q05]
   simp only [cond_false]
   exact z93 hk hp hg ts hl hc k 0 o (by omega) (by omega) ho
end loops
end Go.Proofs.YtgdegfijcijnoaaGreat
/- FnSights: splits and meets are finer. -/
namespace Go.Proofs.YtgdegfijcijnoaaGreat
open Go.Dp
theorem x1j {a b:List Int} (hl:a.length = b.length):(a.zip b).map (·.1) = a:=List.map_fst_zip (by omega)
theorem x1l {a b:List Int} (hl:a.length = b.length):(a.zip b).map (·.2) = b:=List.map_snd_zip (by omega)
theorem x20 {a b:List Int} (hl:a.length = b.length):cls ((cls (a.zip b) []).zip a) [] = cls (a.zip b) [] /\ cls ((cls (a.zip b) []).zip b) [] = cls (a.zip b) []:=by
 have hid:cls (a.zip b) [] = cls ((a.zip b).map id) []:=by rw [List.map_id]
 obtain ⟨g,h1,h2⟩:=x1k (a.zip b) id
 have ha:a = (a.zip b).map (·.1):=(x1j hl).symm
 have hb:b = (a.zip b).map (·.2):=(x1l hl).symm
 constructor
 ·have e:(cls (a.zip b) []).zip a = (a.zip b).map fun q=>(g q,q.1):=by
   conv=>lhs;rw [hid,h1];arg 2;rw [ha]
   exact z19 _ _ _
  rw [e,hid]
  refine z2k _ _ _ fun q hq r hr=>?_
  rw [Prod.mk.injEq,h2 q hq r hr]
  constructor
  ·exact fun h=>h.1
  ·intro h
   have h':q = r:=h
   exact ⟨h,by rw [h']⟩
 ·have e:(cls (a.zip b) []).zip b = (a.zip b).map fun q=>(g q,q.2):=by
   conv=>lhs;rw [hid,h1];arg 2;rw [hb]
   exact z19 _ _ _
  rw [e,hid]
  refine z2k _ _ _ fun q hq r hr=>?_
  rw [Prod.mk.injEq,h2 q hq r hr]
  constructor
  ·exact fun h=>h.1
  ·intro h
   have h':q = r:=h
   exact ⟨h,by rw [h']⟩
theorem w37 {α:Type} [BEq α] [LawfulBEq α] {p:Prg} (hs:q0j p = true) {l:List α} (hl:l.length = nS p):gsB p (cls l []) = true:=by
 have h:=(q9c l []).1
 have h':q1j (cls l []) 0 = true:=h
 simp only [gsB,hs,h',q6z,hl,Bool.true_and,beq_self_eq_true]
theorem x0j {p:Prg} (t:List Nd):∀ (l:List Int) (i:Nat),i + l.length<=nS p->cutK (whI p t) l i = (l.zip ((List.range' i l.length).map fun (j:Nat)=>bitI p t (j:Int))).map fun q=>2 * q.1 + q.2
 | [],i,h=>rfl
 | x :: l,i,h=>by
  simp only [List.length_cons] at h
  have hc:(whI p t).contains (i:Int) = hN p t (i:Int):=by
   rw [Bool.eq_iff_iff,List.contains_iff_mem,q4r]
   constructor
   ·exact fun h=>h.2
   ·exact fun h'=>⟨⟨by omega,by omega⟩,h'⟩
  rw [cutK,x0j t l (i + 1) (by omega),hc,List.length_cons,List.range'_succ,List.map_cons,List.zip_cons_cons,List.map_cons]
  congr 1
  unfold bitI
  cases hN p t (i:Int) <;> simp
theorem x2k (p:Prg) (t:List Nd):q3x p t = (List.range' 0 (nS p)).map fun (j:Nat)=>bitI p t (j:Int):=by
 rw [q3x,iota,List.map_map,List.range_eq_range']
 rfl
theorem y03 {p:Prg} {t:List Nd} {x:Int} (h:x ∈ q3x p t):x = 0 ∨ x = 1:=by
 obtain ⟨y,_,rfl⟩:=List.mem_map.1 h
 exact z1c p t y
theorem x7v (p:Prg) (t:List Nd):(q3x p t).length = nS p:=by simp [q3x,q12]
theorem x13 {p:Prg} {v:List Int} (hv:v.length = nS p) (t:List Nd):cutV (whI p t) v = cls (v.zip (byV p t)) []:=by
 have hb:=x7v p t
 have e1:cutK (whI p t) v 0 = (v.zip (q3x p t)).map fun q=>2 * q.1 + q.2:=by
  rw [x0j t v 0 (by omega),x2k,hv]
 obtain ⟨g,h1,h2⟩:=x1k (v.zip (q3x p t)) (·.2)
 rw [x1l (by omega)] at h1
 have e2:v.zip (byV p t) = (v.zip (q3x p t)).map fun q=>(q.1,g q):=by
  have hv0:v = (v.zip (q3x p t)).map (·.1):=(x1j (by omega)).symm
  conv=>lhs;rw [byV,h1];arg 1;rw [hv0]
  exact z19 _ _ _
 rw [cutV,e1,e2]
 refine z2k _ _ _ fun q hq r hr=>?_
 have hq2:=y03 (List.of_mem_zip (a:=q.1) (b:=q.2) hq).2
 have hr2:=y03 (List.of_mem_zip (a:=r.1) (b:=r.2) hr).2
 rw [Prod.mk.injEq,h2 q hq r hr]
 constructor
 ·intro e
  omega
 ·rintro ⟨e1,e2⟩
  rw [e1,e2]
end Go.Proofs.YtgdegfijcijnoaaGreat
/- FnCubes: the cube of a state holds exactly in its class. -/
namespace Go.Proofs.YtgdegfijcijnoaaGreat
open Go.Dp
end Go.Proofs.YtgdegfijcijnoaaGreat
/- Cuts of sights where a path of classes fails. -/
namespace Go.Proofs.YtgdegfijcijnoaaGreat
open Go.Dp
theorem x00 {a b:List Int} {i:Nat} (h1:i < a.length) (h2:i < b.length):(a[i],b[i]) ∈ a.zip b:=by
 refine List.mem_iff_getElem.2 ⟨i,by simp;omega,by simp⟩
theorem x0s {n:Nat} {so:List Int} {i:Nat} (h:i < n):(inV n so)[i]'(by rw [q5a];exact h) = hasI so (i:Int):=by
 simp [inV,iota]
theorem y6z {v:List Int} (hg:q1j v 0 = true) (so:List Int):q0u (cutV so v) 0 = ((dis (v.zip (inV v.length so)) []).length:Int):=by
 rw [<- z5p]
 exact (q9c (v.zip (inV v.length so)) []).2
theorem z77 {v:List Int} (hg:q1j v 0 = true) (so:List Int) {x y:Int} (hx:inG v.length x) (hy:inG v.length y) (hc:dAt v x = dAt v y) (hxs:x ∈ so) (hys:y ∉ so):q0u v 0 + 1<=q0u (cutV so v) 0:=by
 obtain ⟨P,hP⟩:∃ P,P = v.zip (inV v.length so):=⟨_,rfl⟩
 have hpair:∀ z,inG v.length z->(dAt v z,hasI so z) ∈ P:=by
  intro z hz
  have h:=x00 (a:=v) (b:=inV v.length so) (i:=z.toNat) hz.2 (by rw [q5a];exact hz.2)
  rw [x0s hz.2,<- q79 hz.2,<- hP] at h
  have e:((z.toNat:Nat):Int) = z:=by have:=hz.1;omega
  rwa [e] at h
 have h1:(dAt v x,(1:Int)) ∈ P:=by
  have:=hpair x hx
  unfold hasI at this
  rwa [List.contains_iff_mem.2 hxs] at this
 have h0:(dAt v x,(0:Int)) ∈ P:=by
  have:=hpair y hy
  unfold hasI at this
  have hn:so.contains y = false:=by
   cases h:so.contains y
   ·rfl
   ·exact absurd (List.contains_iff_mem.1 h) hys
  rw [hn,<- hc] at this
  exact this
 have hrep:∀ c ∈ v,∃ b,(c,b) ∈ P:=by
  intro c hcm
  obtain ⟨i,hi,rfl⟩:=List.mem_iff_getElem.1 hcm
  exact ⟨_,by rw [hP];exact x00 hi (by rw [q5a];exact hi)⟩
 obtain ⟨g,hgd⟩:∃ g:Int->Int × Int,g = fun c=>if c = dAt v x then (c,1) else ((P.find? fun q=>q.1 == c).getD (c,0)):=⟨_,rfl⟩
 have hg1:∀ c ∈ v,(g c).1 = c /\ g c ∈ P:=by
  intro c hcm
  rw [hgd]
  simp only
  split
  ·rename_i e
   rw [e]
   exact ⟨rfl,h1⟩
  ·obtain ⟨b,hb⟩:=hrep c hcm
   cases hf:P.find? (fun q=>q.1 == c) with
   | none =>
    have:=List.find?_eq_none.1 hf _ hb
    simp at this
   | some q =>
    exact ⟨by simpa using List.find?_some hf,List.mem_of_find?_eq_some hf⟩
 have hx0:g (dAt v x) = (dAt v x,1):=by rw [hgd];simp
 have hdm:∀ c ∈ dis v [],c ∈ v:=fun c hc=>by simpa using (q32 v [] c).1 hc
 have hnd:((dis v []).map g ++ [(dAt v x,0)]).Nodup:=by
  refine List.nodup_append.2 ⟨?_,by simp,?_⟩
  ·refine List.pairwise_map.2 ((q5 v [] (by simp)).imp_of_mem fun {a b} ha hb hab he=>hab ?_)
   rw [<- (hg1 a (hdm a ha)).1,<- (hg1 b (hdm b hb)).1,he]
  ·intro a ha b hb he
   obtain ⟨c,hc',rfl⟩:=List.mem_map.1 ha
   simp only [List.mem_singleton] at hb
   rw [hb] at he
   have h2:=(hg1 c (hdm c hc')).1
   rw [he] at h2
   have h3:c = dAt v x:=h2.symm
   rw [h3,hx0] at he
   injection he with _ he
   cases he
 have hsub:=q43 hnd (b:=dis P []) (fun q hq=>by
  refine (q32 P [] q).2 (.inr ?_)
  rcases List.mem_append.1 hq with h | h
  ·obtain ⟨c,hc',rfl⟩:=List.mem_map.1 h
   exact (hg1 c (hdm c hc')).2
  ·simp only [List.mem_singleton] at h
   rw [h]
   exact h0)
 have h5:=(z14 hg).2
 rw [y6z hg,<- hP]
 simp only [List.length_append,List.length_map,List.length_singleton] at hsub
 omega
theorem w1g {v:List Int} (hg:q1j v 0 = true) (so:List Int) {c:Int} (hin:∀ x ∈ so,dAt v x = c):q0u (cutV so v) 0<=q0u v 0 + 1:=by
 obtain ⟨P,hP⟩:∃ P,P = v.zip (inV v.length so):=⟨_,rfl⟩
 have hsub:=q43 (q5 P [] (by simp)) (b:=(dis v []).map (fun c=>(c,(0:Int))) ++ [(c,1)]) (fun q hq=>by
  have hq':q ∈ P:=by simpa using (q32 P [] q).1 hq
  rw [hP] at hq'
  obtain ⟨i,hi,rfl⟩:=List.mem_iff_getElem.1 hq'
  have hi1:i < v.length:=by simp at hi;omega
  rw [List.getElem_zip,x0s hi1]
  rw [List.mem_append]
  rcases q7v so (i:Int) with h | h
  ·left
   rw [h]
   exact List.mem_map.2 ⟨v[i],(q32 v [] _).2 (.inr (List.getElem_mem hi1)),rfl⟩
  ·right
   have hm:(i:Int) ∈ so:=by
    unfold hasI at h
    cases hc:so.contains (i:Int)
    ·rw [hc] at h;cases h
    ·exact List.contains_iff_mem.1 hc
   have:=hin _ hm
   rw [q79 (v:=v) (x:=(i:Int)) hi1] at this
   rw [h]
   simp only [Int.toNat_natCast] at this
   rw [this]
   simp)
 have h5:=(z14 hg).2
 rw [y6z hg,<- hP]
 simp only [List.length_append,List.length_map,List.length_singleton] at hsub
 omega
theorem x4 {p:Prg} {v:List Int} (hg:gsB p v = true) (so:List Int):gsB p (cutV so v) = true:=by
 obtain ⟨s1,s2,s3⟩:=q02 hg
 rw [<- z5p]
 exact w37 s1 (by rw [List.length_zip,q5a,Nat.min_self];exact s3)
theorem y4u (so v:List Int):cls ((cutV so v).zip v) [] = cutV so v:=by
 rw [<- z5p]
 exact (x20 (q5a v.length so).symm).1
theorem y23 {k:Nat} (hk:1000300<=k) {v some1:List Int} (hv:OkV v) (hs:some1.length<=1000) (hin:∀ x ∈ some1,0<=x /\ x < (v.length:Int)):c79 k (encZ v) (encZ some1) = r79 (encZ (cutV some1 v)):=by
 obtain ⟨k,rfl⟩:∃ j,k = j + 1:=⟨k - 1,by omega⟩
 have hvl:=hv.len
 have hl:=y3y (k:=k) (by omega) hv [] some1 hin hs k 0 (by omega) (by omega)
 have hgd:(((v.length:Int) == (v.length:Int)) && decide ((0:Int)<=(v.length:Int)) && decide (v.length * 8<=LIM) && decide (v.length<=LIM)) = true:=by
  have q1:decide (v.length * 8<=LIM) = true:=decide_eq_true (by unfold LIM;omega)
  have q2:decide (v.length<=LIM) = true:=decide_eq_true (by unfold LIM;omega)
  rw [q1,q2]
  simp
 have he:List.replicate v.length (PV.int .i64 0) = encZ (inV v.length (some1.take 0)):=by
  simp only [List.take_zero,inV,encZ,List.map_map]
  apply List.ext_getElem
  ·simp [q12]
  ·intro i h1 h2
   simp [hasI]
 rw [n79,q0d,q0d,hgd,he]
 have hl':z85 k k (encZ some1) (some1.length:Int) 0 (encZ v) [] v.length (encZ (inV v.length (some1.take 0))) = _:=hl
 simp only [cond_true]
 rw [hl',z5p]
theorem x9o {k:Nat} (hk:1000500<=k) {p:Prg} (hp:FitP p) (hs:q0j p = true) (ts:List (List Nd)) (hl:ts.length<=1000) (hc:∀ t ∈ ts,kindT p.wide p.vars t = 2):c157 k p.wide p.vars (encT p.start) (q0c p.cmds) (q0h ts) = r157 (q0h (tryL p ts)):=by
 obtain ⟨k,rfl⟩:∃ j,k = j + 1:=⟨k - 1,by omega⟩
 have hcm:=hp.cm
 rw [n157,q1h]
 exact y0b (k:=k) (by omega) hp (q1q hs) ts hl hc k 0 [] (by omega) (by omega) ⟨by simp,by simp⟩
theorem y85 {k:Nat} (hk:1000500<=k) {p:Prg} (hp:FitP p) (hs:q0j p = true) (ts:List (List Nd)) (hl:ts.length<=1000) (hc:∀ t ∈ ts,kindT p.wide p.vars t = 2):c160 k p.wide p.vars (encT p.start) (q0c p.cmds) (q0h ts) = r160 (q0h (tryL p ts)):=by
 obtain ⟨k,rfl⟩:∃ j,k = j + 1:=⟨k - 1,by omega⟩
 have hcm:=hp.cm
 rw [n160,q1h]
 exact y1l (k:=k) (by omega) hp (q1q hs) ts hl hc k 0 [] (by omega) (by omega) ⟨by simp,by simp⟩
theorem x4t {k:Nat} (hk:1000500<=k) {p:Prg} (hs:q0j p = true) (l1 l2:List PV) (ts:List (List Nd)) (hl:ts.length<=1000) (ht:∀ t ∈ ts,t.length<=100) (hc:allC p ts = true) (a b:List Int) (ha:a.length<=1000) (hb:b.length<=1000) (hain:∀ x ∈ a,inS p x) (hbin:∀ x ∈ b,inS p x) :
  c161 k p.wide p.vars l1 l2 (q0h ts) (encZ a) (encZ b) = r161 (q8x p ts a b):=by
 obtain ⟨k,rfl⟩:∃ j,k = j + 1:=⟨k - 1,by omega⟩
 rw [n161,q05]
 exact z7a (k:=k) (by omega) hs l1 l2 ts hl ht hc a b ha hb hain hbin k 0 (by omega) (by omega)
theorem x14 {p:Prg} {t:List Nd} (h:kindT p.wide p.vars t = 2):t.length<=100:=by
 unfold kindT at h
 split at h
 ·rename_i hs
  unfold q4j at hs
  simp at hs
  omega
 ·cases h
theorem x6o (v l:List Int):(clV v l).length<=l.length:=by
 have h:=q43 ((z9s v l).imp (fun {a b} h=>Int.ne_of_lt h)) (b:=l.map (dAt v)) (fun x hx=>by
  obtain ⟨y,h1,h2⟩:=(q6q v l x).1 hx
  exact List.mem_map.2 ⟨y,h1,h2⟩)
 rwa [List.length_map] at h
theorem x9n {v l:List Int} (d:Int):(clV v l).contains d = l.any fun y=>dAt v y == d:=by
 rw [Bool.eq_iff_iff,List.contains_iff_mem,q6q,List.any_eq_true]
 simp
theorem z7z {k:Nat} (hk:1000300<=k) {p:Prg} (hp:FitP p) (hs:q0j p = true) (l0:List PV) {v:List Int} (hv:OkV v) (hn:v.length = nS p) (d:Int) (w:List Int) (hwl:w.length<=1000) (hw:∀ x ∈ w,inS p x):∀ (n q:Nat) (acc:List Int),w.length - q < n->q<=w.length->acc.length<=q ->
  z4j k n d acc.length (encZ w) (w.length:Int) (q:Int) p.wide p.vars l0 (q0c p.cmds) (encZ v) (encZ acc) = r162 (encZ (acc ++ (w.drop q).filter fun x=>(nxL p x).any fun y=>dAt v y == d))
 | 0,q,acc,h,hq,ha=>by omega
 | n + 1,q,acc,h,hq,ha=>by
  rw [w1z,q1d]
  by_cases hlt:q < w.length
  ·have hd:decide ((q:Int) < (w.length:Int)) = true:=by simpa using hlt
   have hnext:IntKind.i64.wrap ((q:Int) + 1) = ((q + 1:Nat):Int):=by rw [q0b (by omega) (by omega)];omega
   have hx:=hw _ (List.getElem_mem hlt)
   have hnl:=z5l hp w[q]
   have hng:=w5f hp hs hn hx
   have hcl:=Nat.le_trans (x6o v (nxL p w[q])) hnl
   rw [hd,q0l hlt,hnext,q0f hlt]
   simp only [cond_true,Option.bind_some,q0k]
   rw [y6l (by omega) hp hs hx]
   simp only [x5u]
   rw [y2f (by omega) hv _ hng (by omega)]
   simp only [y8b]
   rw [y0g (by omega) _ (by omega),x9n]
   simp only [z95]
   cases hc:((nxL p w[q]).any fun y=>dAt v y == d)
   ·have:=z7z hk hp hs l0 hv hn d w hwl hw n (q + 1) acc (by omega) (by omega) (by omega)
    rw [List.filter_cons,hc]
    exact this
   ·simp only [cond_true]
    rw [q0r (by omega) (by omega),q1i]
    have:=z7z hk hp hs l0 hv hn d w hwl hw n (q + 1) (acc ++ [w[q]]) (by omega) (by omega) (by simp;omega)
    rw [List.length_append,List.append_assoc] at this
    rw [List.filter_cons,hc]
    exact this
  ·have hd:decide ((q:Int) < (w.length:Int)) = false:=by simpa using hlt
   rw [hd,List.drop_eq_nil_of_le (by omega),List.filter_nil,List.append_nil]
   rfl
theorem x7i {k:Nat} (hk:1000400<=k) {p:Prg} (hp:FitP p) (hs:q0j p = true) (l0:List PV) {v:List Int} (hv:OkV v) (hn:v.length = nS p) (c d:Int):c162 k p.wide p.vars l0 (q0c p.cmds) (encZ v) c d = r162 (encZ (onL p v c d)):=by
 obtain ⟨k,rfl⟩:∃ j,k = j + 1:=⟨k - 1,by omega⟩
 have hvl:=hv.len
 have hsl:=z01 v c
 rw [n162,y6n (by omega) (by omega)]
 simp only [x44]
 rw [q0d]
 exact z7z (k:=k) (by omega) hp hs l0 hv hn d (stV v c) (by omega) (z0z hn c) k 0 [] (by omega) (by omega) (by simp)
def cutF (p:Prg) (v:List Int) (ts:List (List Nd)) (path:List Int):Int:=q8x p (tryL p ts) (q1n p v path) (onL p v (((path)[(q07 (q0t p v path) - 1).toNat]?).getD 0) (((path)[(q07 (q0t p v path)).toNat]?).getD 0))
def cutS (p:Prg) (v:List Int) (ts:List (List Nd)) (path:List Int):List Int:=bif decide (cutF p v ts path < 0) then q1n p v path else whI p (((tryL p ts)[(cutF p v ts path).toNat]?).getD [])
def cutN (p:Prg) (v:List Int) (ts:List (List Nd)) (path:List Int):Int:=bif decide (cutF p v ts path < 0) then -1 else cutF p v ts path
theorem y8e {p:Prg} {v:List Int} (hn:v.length = nS p) (c d:Int):∀ x ∈ onL p v c d,inS p x:=fun x hx=>z0z hn c x (List.mem_filter.1 hx).1
theorem y7e {p:Prg} (hs:q0j p = true) {ts:List (List Nd)} (hc:∀ t ∈ ts,kindT p.wide p.vars t = 2):(tryL p ts).length<=40 /\ (∀ t ∈ tryL p ts,t.length<=100) /\ allC p (tryL p ts) = true:=by
 have h:=x62 (q1q hs) hc
 refine ⟨h.len,fun t ht=>?_,?_⟩
 ·exact x14 (h.mem t ht)
 ·simp only [allC,List.all_eq_true,beq_iff_eq]
  exact h.mem
end Go.Proofs.YtgdegfijcijnoaaGreat
/- FnCut: where a path of classes fails,the cut has a class more. -/
namespace Go.Proofs.YtgdegfijcijnoaaGreat
open Go.Dp
theorem x03 {p:Prg} {v:List Int} (hn:v.length = nS p) {l:List Int} (h:∀ x ∈ l,inS p x):∀ x ∈ l,0<=x /\ x < (v.length:Int):=fun x hx=>by
 have:=h x hx
 rw [hn]
 exact this
section
variable {p:Prg} {v:List Int} {ts:List (List Nd)} {path:List Int}
theorem z9r (hd:deOK p v path = true):∃ (j:Nat) (h1:j + 1 < path.length),q07 (q0t p v path) = ((j + 1:Nat):Int) /\ (q0t p v path)[j]? = some (q1n p v path) /\ (q0t p v path)[j + 1]? = some [] /\ q1n p v path ≠ [] /\
  cutF p v ts path = q8x p (tryL p ts) (q1n p v path) (onL p v path[j] path[j + 1]):=by
 obtain ⟨j,h1,h2,h3,h4,h5⟩:=y2w hd
 refine ⟨j,h1,h2,h3,h4,h5,?_⟩
 have e1:(q07 (q0t p v path) - 1).toNat = j:=by omega
 have e2:(q07 (q0t p v path)).toNat = j + 1:=by omega
 unfold cutF
 rw [e1,e2,List.getElem?_eq_getElem (show j < path.length by omega),List.getElem?_eq_getElem h1]
 rfl
theorem z2m:cutF p v ts path < 0 ∨ ∃ i,∃ hi:i < (tryL p ts).length,cutF p v ts path = (i:Int):=by
 unfold cutF q8x
 rcases q4w (fun t=>sepB p t (q1n p v path) (onL p v (((path)[(q07 (q0t p v path) - 1).toNat]?).getD 0) (((path)[(q07 (q0t p v path)).toNat]?).getD 0))) (tryL p ts) 0 with ⟨h,_⟩ | ⟨j,hj,h,_⟩
 · left;rw [h];omega
 · right;exact ⟨j,hj,by rw [h,Nat.zero_add]⟩
end
theorem x74 {k:Nat} (hk:1000700<=k) {p:Prg} (hp:FitP p) (hs:q0j p = true) {v:List Int} (hv:OkV v) (hg:gsB p v = true) (ts:List (List Nd)) (hl:ts.length<=1000) (hc:∀ t ∈ ts,kindT p.wide p.vars t = 2) (path:List Int) (hpl:path.length<=4000) :
  c75 k p.wide p.vars (encT p.start) (q0c p.cmds) (encZ v) (q0h ts) (encZ path) = r75 (encZ (bif deOK p v path then cutV (cutS p v ts path) v else [])) (bif deOK p v path then cutN p v ts path else 0) (deOK p v path):=by
 obtain ⟨k,rfl⟩:∃ j,k = j + 1:=⟨k - 1,by omega⟩
 obtain ⟨s1,s2,s3⟩:=q02 hg
 have hvl:=hv.len
 have hgl:=q4k p v path
 obtain ⟨t1,t2,t3⟩:=y7e hs hc
 rw [n75,z7f (by omega) hp hs s3 path hpl]
 simp only [x6f]
 cases hd:deOK p v path
 ·rfl
 obtain ⟨j,h1,h2,h3,h4,h5,h6⟩:=z9r (ts:=ts) hd
 have hdsl:=q87 hp hs v path
 have hdl:=hdsl.len hs
 have hj1:IntKind.i64.wrap (((j + 1:Nat):Int) - 1) = (j:Int):=by rw [q0b (by omega) (by omega)];omega
 have hon:(onL p v path[j] path[j + 1]).length<=v.length:=Nat.le_trans (List.length_filter_le _ _) (z01 v _)
 simp only [Bool.not_true,cond_false,cond_true]
 rw [q6p (by omega) hp hs s3 path hpl]
 simp only [x2b,q2n]
 rw [List.take_of_length_le (by simp),z1r (by omega) _ (by omega)]
 simp only [x5w]
 rw [x9o (by omega) hp hs ts hl hc,h2,hj1]
 simp only [w48]
 rw [q0l (show j < path.length by omega),q0l h1]
 simp only [Option.bind_some,q0k]
 rw [y0e (by omega) hp hs _ hv s3]
 simp only [x81]
 rw [x4r (by omega) hs _ _ (tryL p ts) (by omega) t2 t3 (q1n p v path) (onL p v path[j] path[j + 1]) (by omega) (by omega) hdsl.is (y8e s3 _ _),<- h6]
 simp only [w3s,cutS,cutN]
 rcases z2m (p:=p) (v:=v) (ts:=ts) (path:=path) with hF | ⟨i,hi,hF⟩
 ·rw [decide_eq_true hF,y23 (by omega) hv (by omega) (x03 s3 hdsl.is)]
  rfl
 ·have hkt:kindT p.wide p.vars (tryL p ts)[i] = 2:=q5s t3 _ (List.getElem_mem hi)
  have hss:ssB p v (tryL p ts)[i] = true:=by simp only [ssB,spB,hs,hg,hkt,beq_self_eq_true,Bool.and_self]
  rw [hF,decide_eq_false (by omega),q0o,q1o,List.getElem?_eq_getElem hi]
  simp only [cond_false,Option.map_some,Option.bind_some,q09]
  rw [y94 (by omega) p hp hv _ (t2 _ (List.getElem_mem hi)),hss]
  simp only [w3h,cond_true]
  rw [<- x13 s3,Int.toNat_natCast,List.getElem?_eq_getElem hi]
  rfl
theorem x4f {k:Nat} (hk:1000700<=k) {p:Prg} (hp:FitP p) (hs:q0j p = true) {v:List Int} (hv:OkV v) (hg:gsB p v = true) (ts:List (List Nd)) (hl:ts.length<=1000) (hc:∀ t ∈ ts,kindT p.wide p.vars t = 2) (path:List Int) (hpl:path.length<=4000) (hd:deOK p v path = true) :
  c77 k p.wide p.vars (encT p.start) (q0c p.cmds) (encZ v) (q0h ts) (encZ path) = r77 (encZ (cutV (cutS p v ts path) v)) (cutN p v ts path):=by
 obtain ⟨k,rfl⟩:∃ j,k = j + 1:=⟨k - 1,by omega⟩
 obtain ⟨s1,s2,s3⟩:=q02 hg
 have hvl:=hv.len
 have hgl:=q4k p v path
 obtain ⟨t1,t2,t3⟩:=y7e hs hc
 obtain ⟨j,h1,h2,h3,h4,h5,h6⟩:=z9r (ts:=ts) hd
 have hdsl:=q87 hp hs v path
 have hdl:=hdsl.len hs
 have hj1:IntKind.i64.wrap (((j + 1:Nat):Int) - 1) = (j:Int):=by rw [q0b (by omega) (by omega)];omega
 have hon:(onL p v path[j] path[j + 1]).length<=v.length:=Nat.le_trans (List.length_filter_le _ _) (z01 v _)
 have hlk:q0i (q0z (q0t p v path)) (j:Int) = some (.row 0 0 (encZ (q1n p v path))):=by rw [q0o,q5z,h3];rfl
 rw [n77,q9w (by omega) hp hs s3 path hpl]
 simp only [x2s]
 rw [z7k (by omega) _ (by omega)]
 simp only [x8v]
 rw [y85 (by omega) hp hs ts hl hc,h2,hj1]
 simp only [w5p]
 rw [hlk,q0l (show j < path.length by omega),q0l h1]
 simp only [Option.bind_some,q0k,q09]
 rw [x7i (by omega) hp hs _ hv s3]
 simp only [w3k]
 rw [x4t (by omega) hs _ _ (tryL p ts) (by omega) t2 t3 (q1n p v path) (onL p v path[j] path[j + 1]) (by omega) (by omega) hdsl.is (y8e s3 _ _),<- h6]
 simp only [w5r,cutS,cutN]
 rcases z2m (p:=p) (v:=v) (ts:=ts) (path:=path) with hF | ⟨i,hi,hF⟩
 ·rw [decide_eq_true hF,z13 (by omega) (q1n p v path) v (by omega) hv]
  simp only [y5m,cond_true,q0d,q1d]
 ·have hkt:kindT p.wide p.vars (tryL p ts)[i] = 2:=q5s t3 _ (List.getElem_mem hi)
  rw [hF,decide_eq_false (by omega),q0o,q1o,List.getElem?_eq_getElem hi]
  simp only [cond_false,Option.map_some,Option.bind_some,q09]
  rw [y7a (by omega) hs _ _ _ (t2 _ (List.getElem_mem hi)) hkt hv]
  simp only [w6f,q0d,q1d]
  rw [Int.toNat_natCast,List.getElem?_eq_getElem hi]
  rfl
def cbOK (p:Prg) (v:List Int) (ts:List (List Nd)) (path:List Int):Bool:=q2e p v path && q2o p ts
def cbR (p:Prg) (v:List Int) (ts:List (List Nd)) (path:List Int):List Int:=bif cbOK p v ts path then cutV (cutS p v ts path) v else []
def cbN (p:Prg) (v:List Int) (ts:List (List Nd)) (path:List Int):Int:=bif cbOK p v ts path then cutN p v ts path else 0
def caR (p:Prg) (v path:List Int):List Int:=bif q2e p v path then cutV (q1n p v path) v else []
theorem x47 {k:Nat} (hk:1000900<=k) (p:Prg) (hp:FitP p) {v:List Int} (hv:OkV v) (ts:List (List Nd)) (hl:ts.length<=1000) (ht:∀ t ∈ ts,t.length<=100) (path:List Int) (hpl:path.length<=1000) :
  c18 k p.wide p.vars (encT p.start) (q0c p.cmds) (encZ v) (q0h ts) (encZ path) = r18 (encZ (cbR p v ts path)) (cbN p v ts path) (cbOK p v ts path):=by
 obtain ⟨k,rfl⟩:∃ j,k = j + 1:=⟨k - 1,by omega⟩
 rw [n18,q6n (by omega) p hp hv path (by omega)]
 simp only [x2p,cbR,cbN,cbOK,q2e]
 cases hcp:q3k p v path 200
 ·rfl
 obtain ⟨hg,_,_,_⟩:=q17 hcp
 obtain ⟨s1,s2,s3⟩:=q02 hg
 simp only [Bool.not_true,cond_false,Bool.true_and]
 rw [z66 (by omega) p _ _ ts hl ht]
 simp only [x8q]
 cases hq:q2o p ts
 ·simp only [Bool.and_false]
  rfl
 have hc:∀ t ∈ ts,kindT p.wide p.vars t = 2:=by simp only [q2o,Bool.and_eq_true] at hq;exact q5s hq.2
 simp only [Bool.not_true,cond_false,Bool.and_true]
 rw [x74 (by omega) hp s1 hv hg ts hl hc path (by omega)]
 simp only [w51]
theorem x49 {k:Nat} (hk:1000900<=k) (p:Prg) (hp:FitP p) {v:List Int} (hv:OkV v) (ts:List (List Nd)) (hl:ts.length<=1000) (ht:∀ t ∈ ts,t.length<=100) (path:List Int) (hpl:path.length<=1000) :
  c19 k p.wide p.vars (encT p.start) (q0c p.cmds) (encZ v) (q0h ts) (encZ path) = r19 (encZ (cbR p v ts path)) (cbN p v ts path) (cbOK p v ts path):=by
 obtain ⟨k,rfl⟩:∃ j,k = j + 1:=⟨k - 1,by omega⟩
 rw [n19,q8s (by omega) p hp hv path (by omega)]
 simp only [x23,cbR,cbN,cbOK]
 cases hd:q2e p v path
 ·rfl
 have hd2:=hd
 simp only [q2e,Bool.and_eq_true] at hd2
 obtain ⟨hg,_,_,_⟩:=q17 hd2.1
 obtain ⟨s1,s2,s3⟩:=q02 hg
 simp only [Bool.not_true,cond_false,Bool.true_and]
 rw [z6n (by omega) p _ _ ts hl ht]
 simp only [x87]
 cases hq:q2o p ts
 ·rfl
 have hc:∀ t ∈ ts,kindT p.wide p.vars t = 2:=by simp only [q2o,Bool.and_eq_true] at hq;exact q5s hq.2
 simp only [Bool.not_true,cond_false,cond_true]
 rw [x4f (by omega) hp s1 hv hg ts hl hc path (by omega) hd2.2]
 simp only [w58]
theorem x3s {k:Nat} (hk:1000900<=k) (p:Prg) (hp:FitP p) {v:List Int} (hv:OkV v) (path:List Int) (hpl:path.length<=1000):c20 k p.wide p.vars (encT p.start) (q0c p.cmds) (encZ v) (encZ path) = r20 (encZ (caR p v path)) (q2e p v path):=by
 obtain ⟨k,rfl⟩:∃ j,k = j + 1:=⟨k - 1,by omega⟩
 rw [n20,y54 (by omega) p hp hv path (by omega)]
 simp only [w6h,caR,q62]
 cases hd:q2e p v path
 · rfl
 have hd2:=hd
 simp only [q2e,Bool.and_eq_true] at hd2
 obtain ⟨hg,_,_,_⟩:=q17 hd2.1
 obtain ⟨s1,s2,s3⟩:=q02 hg
 have hdsl:=q87 hp s1 v path
 have hdl:=hdsl.len s1
 simp only [Bool.not_true,cond_false,cond_true]
 rw [y23 (by omega) hv (by omega) (x03 s3 hdsl.is)]
 simp only [w6n]
theorem x4c {k:Nat} (hk:1000900<=k) (p:Prg) (hp:FitP p) {v:List Int} (hv:OkV v) (path:List Int) (hpl:path.length<=1000):c21 k p.wide p.vars (encT p.start) (q0c p.cmds) (encZ v) (encZ path) = r21 (encZ (caR p v path)) (q2e p v path):=by
 obtain ⟨k,rfl⟩:∃ j,k = j + 1:=⟨k - 1,by omega⟩
 have hdl:=x4l hp v path
 rw [n21,q8s (by omega) p hp hv path (by omega)]
 simp only [x23]
 rw [show caR p v path = bif q2e p v path then cutV (q62 p v path) v else [] from by unfold caR q62;cases q2e p v path <;> rfl]
 cases hd:q2e p v path
 · rfl
 simp only [Bool.not_true,cond_false,cond_true]
 rw [z13 (by omega) (q62 p v path) v (by omega) hv]
 simp only [y5m,q0d,q1d]
theorem y4o {bs:List Nat} (hc:CodeOK bs) {k:Nat} (hk:1001200<=k) (u1 u2:Int) (u3 u4 u5:List PV):∀ (m n:Nat) (p:Prg) (v path:List Int) (at':Int) (s:W),m < n->m<=6->FitP p->OkV v->path.length<=60->0<=at'->at' + 80000 * m<=100000000 ->
  ∃ p2 v2 ts path2,y5q k n (encZ path) ((6 - m:Nat):Int) u1 u2 u3 u4 u5 (encB bs) at' (wi s) p.wide p.vars (encT p.start) (q0c p.cmds) (encZ v) = r17 p2.wide p2.vars (encT p2.start) (q0c p2.cmds) (encZ v2) (q0h ts) (encZ path2) /\ FitP p2 /\ OkV v2 /\ path2.length<=60 /\ ts.length<=60 /\ ∀ t ∈ ts,t.length<=100
 | m,0,p,v,path,at',s,hm,h6,hp,hv,hpl,h0,h1=>by omega
 | m,n + 1,p,v,path,at',s,hm,h6,hp,hv,hpl,h0,h1=>by
  have hw:=hp.w
  have hvv:=hp.v
  have fin:∃ p2 v2 ts path2,(R72 (c72 k p.wide p.vars (encT p.start) (q0c p.cmds) 3 (encB bs) at' (wi s)) fun l8 v1 v2 l9=>r17 p.wide p.vars (encT p.start) (q0c p.cmds) (encZ v) l9 (encZ path)) = r17 p2.wide p2.vars (encT p2.start) (q0c p2.cmds) (encZ v2) (q0h ts) (encZ path2) /\ FitP p2 /\ OkV v2 /\ path2.length<=60 /\ ts.length<=60 /\ ∀ t ∈ ts,t.length<=100:=by
   obtain ⟨a2,s2,l,h,h2,h3,h4,h5⟩:=y8k hc (k:=k) (by omega) (wide:=p.wide) (vars:=p.vars) (by omega) (by omega) (encT p.start) (q0c p.cmds) 3 (by omega) (by omega) (at':=at') h0 (by omega) s
   rw [h]
   simp only [x86]
   exact ⟨p,v,l,path,rfl,hp,hv,hpl,h4,h5⟩
  rw [w2m]
  cases m with
  | zero =>
   have hd:decide (((6 - 0:Nat):Int) < 6) = false:=rfl
   rw [hd]
   exact fin
  | succ m =>
   have hd:decide (((6 - (m + 1):Nat):Int) < 6) = true:=decide_eq_true (by omega)
   have hnext:IntKind.i64.wrap (((6 - (m + 1):Nat):Int) + 1) = ((6 - m:Nat):Int):=by rw [q0b (by omega) (by omega)];omega
   rw [hd,hnext]
   simp only [cond_true]
   rw [q8s (by omega) p hp hv path (by omega)]
   simp only [x23]
   cases q2e p v path
   ·simp only [cond_false]
    obtain ⟨a2,s2,q,u,h,h2,h3,h4,h5⟩:=y7w hc (k:=k) (by omega) (at':=at') h0 (by omega) s
    rw [h]
    simp only [x8p]
    obtain ⟨a3,s3,l,h,h6',h7,h8,h9⟩:=z29 hc (k:=k) (by omega) q h4 h5 (at':=a2) (by omega) (by omega) s2
    rw [h]
    simp only [x8s]
    exact y4o hc hk u1 u2 u3 u4 u5 m n q u l a3 s3 (by omega) (by omega) h4 h5 h9 (by omega) (by omega)
   ·exact fin
theorem x3o {bs:List Nat} (hc:CodeOK bs) {k:Nat} (hk:1001300<=k) :
  ∃ p v ts path,c17 k (encB bs) = r17 p.wide p.vars (encT p.start) (q0c p.cmds) (encZ v) (q0h ts) (encZ path) /\ FitP p /\ OkV v /\ path.length<=60 /\ ts.length<=60 /\ ∀ t ∈ ts,t.length<=100:=by
 obtain ⟨k,rfl⟩:∃ j,k = j + 1:=⟨k - 1,by omega⟩
 rw [n17]
 obtain ⟨a2,s2,p,v,h,h2,h3,h4,h5⟩:=y7w hc (k:=k) (by omega) (at':=0) (by omega) (by omega) 0#64
 have h':c54 k (encB bs) 0 0 = _:=h
 rw [h']
 simp only [x8p]
 obtain ⟨a3,s3,l,h,h6,h7,h8,h9⟩:=z29 hc (k:=k) (by omega) p h4 h5 (at':=a2) (by omega) (by omega) s2
 rw [h]
 simp only [x8s]
 exact y4o hc (k:=k) (by omega) 0 0 [] [] [] 6 k p v l a3 s3 (by omega) (by omega) h4 h5 h9 (by omega) (by omega)
theorem x3u {p:Prg} {t:List Nd} {a b:List Int} (h:sepB p t a b = true) {x y:Int} (hx:x ∈ a) (hy:y ∈ b) (hxs:inS p x) (hys:inS p y):(x ∈ whI p t /\ y ∉ whI p t) ∨ (y ∈ whI p t /\ x ∉ whI p t):=by
 simp only [sepB,Bool.or_eq_true,Bool.and_eq_true,List.all_eq_true,Bool.not_eq_true'] at h
 rcases h with ⟨h1,h2⟩ | ⟨h1,h2⟩
 ·left
  refine ⟨(q4r p t x).2 ⟨hxs,h1 x hx⟩,fun h3=>?_⟩
  have:=((q4r p t y).1 h3).2
  rw [h2 y hy] at this
  cases this
 ·right
  refine ⟨(q4r p t y).2 ⟨hys,h2 y hy⟩,fun h3=>?_⟩
  have:=((q4r p t x).1 h3).2
  rw [h1 x hx] at this
  cases this
theorem x3m {p:Prg} (hp:FitP p) {v:List Int} (hg:gsB p v = true) {ts:List (List Nd)} {path:List Int} (hd:deOK p v path = true) {j:Nat} (h1:j + 1 < path.length) (hj:q07 (q0t p v path) = ((j + 1:Nat):Int)) (hne:onL p v path[j] path[j + 1] ≠ []) :
  q0u v 0 + 1<=q0u (cutV (cutS p v ts path) v) 0 /\ q0u (cutV (q1n p v path) v) 0 = q0u v 0 + 1:=by
 obtain ⟨s1,s2,s3⟩:=q02 hg
 obtain ⟨j',h1',h2,h3,h4,h5,h6⟩:=z9r (ts:=ts) hd
 obtain rfl:j' = j:=by omega
 obtain ⟨d1,d2⟩:=x21 hp s1 s3 h1 h3 h4
 have hdsl:=q87 hp s1 v path
 obtain ⟨x,xs,hx⟩:∃ x xs,q1n p v path = x :: xs:=by
  cases h:q1n p v path with
  | nil=>exact absurd h h5
  | cons x xs=>exact ⟨x,xs,rfl⟩
 obtain ⟨y,ys,hy⟩:∃ y ys,onL p v path[j'] path[j' + 1] = y :: ys:=by
  cases h:onL p v path[j'] path[j' + 1] with
  | nil=>exact absurd h hne
  | cons x xs=>exact ⟨x,xs,rfl⟩
 have hxm:x ∈ q1n p v path:=by rw [hx];simp
 have hym:y ∈ onL p v path[j'] path[j' + 1]:=by rw [hy];simp
 have hxv:=q8h.1 (d1 x hxm)
 have hyv:=q8h.1 (List.mem_filter.1 hym).1
 have hyd:y ∉ q1n p v path:=fun h=>d2 y h hym
 have hcc:dAt v x = dAt v y:=by rw [hxv.2,hyv.2]
 have m1:=z77 s2 (q1n p v path) hxv.1 hyv.1 hcc hxm hyd
 have m2:=w1g s2 (q1n p v path) (c:=path[j']) (fun z hz=>(q8h.1 (d1 z hz)).2)
 refine ⟨?_,by omega⟩
 unfold cutS
 rcases z2m (p:=p) (v:=v) (ts:=ts) (path:=path) with hF | ⟨i,hi,hF⟩
 ·rw [decide_eq_true hF]
  exact m1
 ·rw [hF,decide_eq_false (by omega),Int.toNat_natCast,List.getElem?_eq_getElem hi]
  simp only [cond_false,Option.getD_some]
  have hsep:sepB p (tryL p ts)[i] (q1n p v path) (onL p v path[j'] path[j' + 1]) = true:=by
   rw [h6] at hF
   unfold q8x at hF
   rcases q4w (fun t=>sepB p t (q1n p v path) (onL p v path[j'] path[j' + 1])) (tryL p ts) 0 with ⟨h,_⟩ | ⟨i',hi',h,hh,_⟩
   ·rw [h] at hF;omega
   ·rw [h,Nat.zero_add] at hF
    obtain rfl:i' = i:=by omega
    exact hh
  rcases x3u hsep hxm hym (hdsl.is x hxm) (y8e s3 _ _ y hym) with ⟨a1,a2⟩ | ⟨a1,a2⟩
  ·exact z77 s2 _ hxv.1 hyv.1 hcc a1 a2
  ·exact z77 s2 _ hyv.1 hxv.1 hcc.symm a1 a2
theorem x3r {k:Nat} (hk:1048700<=k) (code more:List Nat) (hc:∀ b ∈ code,b < 256) (hm:∀ b ∈ more,b < 256):c4 k (encB code) (encB more) = r4 true:=by
 obtain ⟨k,rfl⟩:∃ j,k = j + 1:=⟨k - 1,by omega⟩
 rw [n4,w2h (by omega)]
 simp only [R9_r]
 cases hbig:(decide (code.length > 1048576) || decide (more.length + code.length > 1048576))
 rotate_left
 ·rfl
 simp only [cond_false]
 rw [Bool.or_eq_false_iff] at hbig
 have hl:code.length<=1048576 /\ more.length<=1048576:=by
  have h1:=hbig.1
  have h2:=hbig.2
  simp at h1 h2
  omega
 have hcc:CodeOK code:=⟨hl.1,hc⟩
 obtain ⟨p,v,ts,path,h,hp,hv,hpl,htl,ht⟩:=x3o hcc (k:=k) (by omega)
 have hvl:=hv.len
 have hcl:(cbR p v ts path).length<=100:=by
  unfold cbR
  cases cbOK p v ts path
  ·simp
  ·simp only [cond_true,z50];omega
 have hal:(caR p v path).length<=100:=by
  unfold caR
  cases q2e p v path
  ·simp
  ·simp only [cond_true,z50];omega
 rw [h]
 simp only [w55]
 rw [x47 (by omega) p hp hv ts (by omega) ht path (by omega),x49 (by omega) p hp hv ts (by omega) ht path (by omega)]
 simp only [w6k,w6g]
 rw [x3s (by omega) p hp hv path (by omega),x4c (by omega) p hp hv path (by omega)]
 simp only [w6j,w53,beq_self_eq_true,bne_self_eq_false,Bool.not_true,cond_false]
 rw [z6x (by omega) _ _ (by omega),z6x (by omega) _ _ (by omega)]
 simp only [w6p,decide_true,Bool.not_true,cond_false]
 cases hcb:cbOK p v ts path
 ·rfl
 have hcb2:=hcb
 simp only [cbOK,Bool.and_eq_true] at hcb2
 obtain ⟨hdb,hpq⟩:=hcb2
 have hdb2:=hdb
 simp only [q2e,Bool.and_eq_true] at hdb2
 obtain ⟨hcp,hde⟩:=hdb2
 obtain ⟨hg,q1,q2,q3⟩:=q17 hcp
 obtain ⟨s1,s2,s3⟩:=q02 hg
 have e1:cbR p v ts path = cutV (cutS p v ts path) v:=by unfold cbR;rw [hcb];rfl
 have e2:caR p v path = cutV (q1n p v path) v:=by unfold caR;rw [hdb];rfl
 obtain ⟨j,h1,h2,h3,h4,h5,h6⟩:=z9r (ts:=ts) hde
 have g1:=x4 hg (cutS p v ts path)
 have g2:=x4 hg (q1n p v path)
 have o1:OkV (cutV (cutS p v ts path) v):=z0u hv
 have o2:OkV (cutV (q1n p v path) v):=z0u hv
 have m1:moB p (cutV (cutS p v ts path) v) v = true:=by unfold moB;rw [g1,hg];rfl
 have m2:moB p (cutV (q1n p v path) v) v = true:=by unfold moB;rw [g2,hg];rfl
 have hfo:q7a p v path = true:=by unfold q7a;rw [hcp,decide_eq_true (by omega)];rfl
 have hfr:z2n p v path = ((j + 1:Nat):Int):=by unfold z2n;rw [hfo];exact h2
 have hml:=z00 (q02 g1).2.1
 have hmv:=z00 s2
 have hj1:IntKind.i64.wrap (((j + 1:Nat):Int) - 1) = (j:Int):=by rw [q0b (by omega) (by omega)];omega
 rw [e1,e2,hdb]
 simp only [Bool.not_true,cond_false]
 rw [z7 (by omega) p hp o1 hv,z7 (by omega) p hp o2 hv,m1,m2,y4u,y4u]
 simp only [w6i,decide_true,Bool.and_self]
 rw [q9d (by omega) p hp hv hg]
 simp only [x3h]
 rw [q9d (by omega) p hp o1 g1]
 simp only [x3h]
 rw [q9d (by omega) p hp o2 g2]
 simp only [x3h]
 rw [y9h (by omega) p hp hv path (by omega),z6e (by omega) p hp hv path (by omega),hfo,hfr]
 simp only [w52,x84,Bool.not_true,cond_false,bne_self_eq_false,q0d]
 rw [decide_eq_false (show ¬ ((j + 1:Nat):Int) < 1 by omega),decide_eq_false (show ¬ q0u (cutV (cutS p v ts path) v) 0 > ((cutV (cutS p v ts path) v).length:Int) by omega),hj1,q0l (show j < path.length by omega),q0l h1]
 simp only [cond_false,Option.bind_some,q0k]
 have hcj:∀ (i:Nat) (hi:i < path.length),clB p v path[i] = true:=fun i hi=>by
  have:=List.all_eq_true.1 q3 _ (List.getElem_mem hi)
  simp only [inN,Bool.and_eq_true,decide_eq_true_eq] at this
  simp only [clB,hg,Bool.true_and,Bool.and_eq_true,decide_eq_true_eq]
  exact this
 rw [y9f (by omega) p hp hv _ _ (hcj j (by omega)) (hcj (j + 1) h1)]
 simp only [w6a,Bool.not_true,cond_false,q0d]
 cases hon:onL p v path[j] path[j + 1] with
 | nil=>rfl
 | cons y ys =>
  obtain ⟨c1,c2⟩:=x3m hp hg (ts:=ts) hde h1 h2 (by rw [hon];simp)
  rw [beq_eq_false_iff_ne.2 (show (((y :: ys).length:Nat):Int) ≠ 0 by rw [List.length_cons];omega),decide_eq_true (show q0u (cutV (cutS p v ts path) v) 0 > q0u v 0 by omega),c2,q0b (by omega) (by omega)]
  simp only [cond_false,cond_true,beq_self_eq_true]
theorem x75 (code more:List Int) (hc:∀ n ∈ code,(Lit.int .u8 n).wf = true) (hm:∀ n ∈ more,(Lit.int .u8 n).wf = true):Contract Tryz.prog 4 (([.row 0 0 (ints .u8 code),.row 0 0 (ints .u8 more)]:List PV).map .p) [] ([.c (.p (.bool true))],[]):=by
 obtain ⟨e1,h1⟩:=y3j code hc
 obtain ⟨e2,h2⟩:=y3j more hm
 rw [e1,e2]
 exact q35 z1o pOK (T:=T) hT 1048700 (x3r (k:=1048700) (Nat.le_refl _) _ _ h1 h2)
end Go.Proofs.YtgdegfijcijnoaaGreat
/- The law FnCut of the program: for all arguments it returns true,and its arguments read as they did. -/
namespace Go.Proofs.YtgdegfijcijnoaaGreat.fnCut
open Go.ChangeShapes Go.WideShapes Go.ChangeAt Go.RowKit Go.Dp
open Go.ChangeMaps (open_string shut_string)
theorem own:ownKnob Tryz.prog.godebug = none:=by kernel_rfl
theorem laidOut:laidOutB Tryz.prog = true:=by kernel_rfl
theorem y33 {P:Program} {w:World} {r:Reach} {base:Nat} {t e:TypeId} {x:Addr} {len cap:Nat} (ht:P.underlying t = some (.slice e)) (h:Value.okWide P w r base t (.slice (some x) len cap)):x.spot = none:=by
 simp only [Value.okWide,ht,Cell.okWide,Cell.ok] at h
 exact h.2.2.2.1
theorem lifted (os:Os) (started:os.Started) (H:Type) (enc:TypeId × Value->H) :
   ReturnsInHanded {} Tryz.checked os 4 .any (Rows.fnCutSpec.pre6 enc Tryz.prog Tryz.f4 Rows.fnCutRow.domain false) (Rows.fnCutSpec.post enc Tryz.prog Tryz.f4 false true false false):=by
 refine returnsInHanded_of_change_sized (C:=Tryz.checked) own started (by kernel_rfl) Tryz.func4
   (ChangeSpec.witness6 (enc:=enc) (C:=Tryz.checked) false ⟨#[],#[.slice none 0 0,.slice none 0 0],[]⟩ 8 (by kernel_rfl) (by kernel_rfl) (by kernel_rfl) (by kernel_rfl)) ?_
 intro W base args ds gs before hval0 hW hcnd hsz0 _
 have hval:∀ (j:Nat) t v,Tryz.f4.params[j]? = some t->args[j]? = some v->Value.okWide Tryz.prog W .any base t v:=hval0
 have hW':=hW
 obtain ⟨p,q,hA0,hV,rfl,hfz,hnd⟩:=hW
 have hA:DataW.TrodAll enc Tryz.prog W 0 (fun _=>true) true Tryz.f4.params.toList args.toList ds p:=hA0
 rw [Tryz.params4] at hA hval
 obtain ⟨v0,vs0,d0,ds0,p0,q0,hargs,rfl,rfl,h0,r0⟩:=trodAll_cons hA
 obtain ⟨v1,vs1,d1,ds1,p1,q1,rfl,rfl,rfl,h1,r1⟩:=trodAll_cons r0
 obtain ⟨rfl,rfl,rfl⟩:=trodAll_nil r1
 obtain rfl:args = #[v0,v1]:=by cases args;simp_all
 obtain ⟨rfl,rfl⟩:=trodVars_none hV
 have o0:=hval 0 22 v0 rfl rfl
 obtain ⟨a0,len0,cap0,rfl⟩:=okWide_slice Tryz.underlying22 o0
 have k0:=h0
 have lt0:∀ x ∈ p0,x.block < W.heap.size:=by obtain ⟨m,hm⟩:=k0;exact DataW.trod_lt m _ _ _ hm
 obtain ⟨z0,w0⟩:∃ zs,IsRow .u8 W a0 len0 cap0 zs:=by
   obtain ⟨fuel,hf⟩:=h0
   rcases open_ints Tryz.underlying22 Tryz.underlying5 (by kernel_rfl) hf with ⟨hcs,_⟩ | ⟨x,l,c,zs,hcs,_,hl,hm,hz,_,hcell,hwz⟩
   · simp [Value.cells] at hcs
     obtain ⟨rfl,rfl,rfl⟩:=hcs
     exact ⟨[],.inl ⟨rfl,rfl,rfl,rfl⟩⟩
   · simp [Value.cells] at hcs
     obtain ⟨rfl,rfl,rfl⟩:=hcs
     exact ⟨zs,.inr ⟨_,rfl,y33 Tryz.underlying22 o0,hl,hm,by simpa using hz,hcell,hwz⟩⟩
 have o1:=hval 1 22 v1 rfl rfl
 obtain ⟨a1,len1,cap1,rfl⟩:=okWide_slice Tryz.underlying22 o1
 have k1:=h1
 have lt1:∀ x ∈ p1,x.block < W.heap.size:=by obtain ⟨m,hm⟩:=k1;exact DataW.trod_lt m _ _ _ hm
 obtain ⟨z1,w1⟩:∃ zs,IsRow .u8 W a1 len1 cap1 zs:=by
   obtain ⟨fuel,hf⟩:=h1
   rcases open_ints Tryz.underlying22 Tryz.underlying5 (by kernel_rfl) hf with ⟨hcs,_⟩ | ⟨x,l,c,zs,hcs,_,hl,hm,hz,_,hcell,hwz⟩
   · simp [Value.cells] at hcs
     obtain ⟨rfl,rfl,rfl⟩:=hcs
     exact ⟨[],.inl ⟨rfl,rfl,rfl,rfl⟩⟩
   · simp [Value.cells] at hcs
     obtain ⟨rfl,rfl,rfl⟩:=hcs
     exact ⟨zs,.inr ⟨_,rfl,y33 Tryz.underlying22 o1,hl,hm,by simpa using hz,hcell,hwz⟩⟩
 clear hA0 hval0 hsz0
 refine (x6k (P:=Tryz.prog) (f:=4) (vs:=[.row 0 0 (ints .u8 (z0.take len0)),.row 0 0 (ints .u8 (z1.take len1))]) (ys:=[.slice a0 len0 cap0,.slice a1 len1 cap1]) rfl ?_ (x75 (z0.take len0) (z1.take len1) (fun n hn=>w0.wf n (List.mem_of_mem_take hn)) (fun n hn=>w1.wf n (List.mem_of_mem_take hn)))).mono fun e W' ⟨he,bel⟩=>?_
 · intro i a y ha hy
   cases i with
   | zero=>simp at ha hy;subst ha;subst hy;exact w0.rp
   | succ i =>
     cases i with
     | zero=>simp at ha hy;subst ha;subst hy;exact w1.rp
     | succ i =>
       simp at ha
 subst he
 exact ⟨_,rfl,_,_,_,[],_,[],hW',trodAll_mk1 (shut_bool Tryz.underlying4 _),(trodAll_cons_mk (Below.trod laidOut (by kernel_rfl) (of_decide_eq_true (by kernel_rfl)) k0 bel lt0) (trodAll_cons_mk (Below.trod laidOut (by kernel_rfl) (of_decide_eq_true (by kernel_rfl)) k1 bel lt1) trodAll_mk0)),rfl,bel.frame _,fun h=>by cases h⟩
theorem named:Tryz.pinned.checked.prog.funcNamed Rows.fnCutRow.func = some 4:=by kernel_rfl
theorem closed:joinedFacts Tryz.pinned.checked.prog 4 Tryz.f4 Rows.fnCutSpec Rows.fnCutRow = true:=by kernel_rfl
theorem inst:Tryz.f4.isInstance Tryz.pinned.checked.prog Rows.fnCutRow.origin Rows.fnCutRow.targs:=of_decide_eq_true (by kernel_rfl)
theorem wrap:Tryz.f4.isWrapper Tryz.pinned.checked.prog Rows.fnCutRow.wrapper Rows.fnCutRow.mainSum:=by unfold Func.isWrapper;first | (rw [if_pos (by decide +kernel)];kernel_rfl) | (rw [if_neg (by decide +kernel)];exact ⟨rfl,rfl⟩)
theorem over:Rows.fnCutRow.holds Tryz.pinned (OpenSpec.ofChange Rows.fnCutSpec) :=
 OpenClaim.holds_of_wide 4 Tryz.f4 rfl rfl rfl rfl rfl rfl rfl ⟨rfl,rfl,rfl,rfl,rfl⟩ rfl rfl rfl rfl rfl named Tryz.func4 closed inst wrap
  (fun os started H enc _=>lifted os started H enc)
theorem proved:Rows.FnCutSaid:=over
end Go.Proofs.YtgdegfijcijnoaaGreat.fnCut
namespace Go.Proofs.YtgdegfijcijnoaaGreat
theorem fnCut_holds:Rows.FnCutSaid:=fnCut.proved
#print axioms fnCut_holds
end Go.Proofs.YtgdegfijcijnoaaGreat
