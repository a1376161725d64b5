/- Cb; Cc; Cd; Ta; Tb; Tc; Td; Te; Hx; Ba; Bb; Bc; Bd; Px; Cf; Be; Bf; Bg; Bh; Bi; Bj; Ch; Cj; Bl; Bm; Fa; Da; Bn; Ck; Db; Dc; Cl; De; Ab: texts put together. -/
import Derived.Test.YtgdegfijcijnoaaGreatM3
import Derived.Test.YtgdegfijcijnoaaGreatM4
import Derived.Test.YtgdegfijcijnoaaGreatM2
set_option linter.all false
set_option maxRecDepth 100000
namespace Go.Proofs.YtgdegfijcijnoaaGreat
open Go.Dp
theorem z47 {k:Nat} (a b:List (Int)) (hl:a.length=b.length) (ha:a.length<=1000000):∀ (n i:Nat),a.length-i<n->i<=a.length->y9r k n (encZ a) (encZ b) (a.length:Int) (i:Int)=r15 (decide (a.drop i=b.drop i))
 | 0,i,h,hi=>by omega
 | n+1,i,h,hi=>by
  rw [v3c];by_cases hlt:i<a.length
  ·have hd:=k04 (i:=i) (l:=a) hlt;have hnext:=k02 (i:=i) (by omega);rw [hd,q0l hlt,q0l (l:=b) (i:=i) (by omega),q0c hlt,q0c (l:=b) (by omega),hnext];simp only [cond_true,Option.bind_some,q0d,List.cons.injEq,Bool.decide_and];by_cases he:a[i]=b[i]
   ·have e1:(a[i] != b[i])=false:=by simp [he]
    have e2:decide (a[i]=b[i])=true:=by simpa using he
    rw [e1,e2];simp only [cond_false,Bool.true_and];exact z47 a b hl ha n (i+1) (by omega) (by omega)
   ·have e1:(a[i] != b[i])=true:=by
     simpa using he
    have e2:decide (a[i]=b[i])=false:=by simpa using he
    rw [e1,e2];rfl
  ·have hd:=k03 (i:=i) (l:=a) hlt;rw [hd,List.drop_eq_nil_of_le (by omega),List.drop_eq_nil_of_le (by omega)];rfl
theorem z1w {k:Nat} (hk:1000010<=k) (a b:List (Int)) (ha:a.length<=1000000):c15 k (encZ a) (encZ b)=r15 (decide (a=b)):=by
 obtain ⟨k,rfl⟩:=k01 (k:=k) (by omega);rw [n15,q0b,q0b];by_cases hl:a.length=b.length
 ·have e:((a.length:Int) != (b.length:Int))=false:=by simp [hl]
  rw [e];exact z47 (k:=k) a b hl ha k 0 (by omega) (by omega)
 ·have e:((a.length:Int) != (b.length:Int))=true:=by simp;omega
  have e2:decide (a=b)=false:=by simp;intro h;exact hl (by rw [h])
  rw [e,e2];rfl
structure OkV (v:List Int):Prop where
 len:v.length<=100
 rng:∀ x∈v,0<=x /\ x<=100
theorem y66 (l:List Int) (K0:List PV->R):x7j (r166 (encZ l)) K0=K0 (encZ l):=by
 have h:([SV.agg [.own 3 0 (encZ l)]].all q0z&&true)=true:=by simp [q0z,q1m,q2h];rfl
 show (bif ([SV.agg [.own 3 0 (encZ l)]].all q0z&&true) then K0 (encZ l) else none)=_
 rw [h];rfl
theorem z3o {k:Nat} (v:List Int) (hv:v.length<=1000) (st:Int):∀ (n i m:Nat),v.length-i<n->i<=v.length->m<=i ->
  z14 k n st (m:Int) (encZ v) (v.length:Int) (i:Int) (encZ v)=r165 (q04 (v.drop i) (m:Int)&&((v.length:Int)==st))
 | 0,i,m,h,hi,hm=>by omega
 | n+1,i,m,h,hi,hm=>by
  rw [w7o];by_cases hlt:i<v.length
  ·have hd:=k04 (i:=i) (l:=v) hlt;have hnext:=k02 (i:=i) (by omega);rw [hd,q0l hlt,q0c hlt,hnext];simp only [cond_true,Option.bind_some,q0d,q04];by_cases h0:v[i]<0
   ·have e1:decide (v[i]<0)=true:=by simpa using h0
    have e2:decide (0<=v[i])=false:=by simpa using h0
    rw [e1,e2];rfl
   ·have e1:decide (v[i]<0)=false:=by simpa using h0
    have e2:decide (0<=v[i])=true:=decide_eq_true (by omega);rw [e1,e2];simp only [cond_false,Bool.true_and];by_cases h1:v[i]>(m:Int)
    ·have e3:decide (v[i]>(m:Int))=true:=by simpa using h1
     have e4:decide (v[i]<=(m:Int))=false:=decide_eq_false (by omega);rw [e3,e4];rfl
    ·have e3:decide (v[i]>(m:Int))=false:=by simpa using h1
     have e4:decide (v[i]<=(m:Int))=true:=decide_eq_true (by omega);rw [e3,e4];simp only [cond_false,Bool.true_and];have hm2:IntKind.i64.wrap ((m:Int)+1)=((m+1:Nat):Int):=by rw [q0g (by omega) (by omega)];omega
     have hm3:((m:Int)+1)=((m+1:Nat):Int):=by omega
     rw [hm2,hm3];cases (v[i]==(m:Int))
     ·exact z3o v hv st n (i+1) m (by omega) (by omega) (by omega)
     ·exact z3o v hv st n (i+1) (m+1) (by omega) (by omega) (by omega)
  ·have hd:=k03 (i:=i) (l:=v) hlt;rw [hd,List.drop_eq_nil_of_le (by omega),q0b];rfl
def gsB (p:Prg) (v:List Int):Bool:=q0h p&&(q04 v 0&&((v.length:Int)==(nS p:Int)))
theorem q8l {k:Nat} (hk:1000300<=k) (p:Prg) (hp:FitP p) (v:List Int) (hv:v.length<=1000):c81 k p.wide p.vars (encT p.start) (q0f p.cmds) (encZ v)=r81 (gsB p v):=by
 obtain ⟨k,rfl⟩:∃ j,k=j+2:=⟨k-2,by omega⟩;rw [n81,z3z (by omega) p hp];simp only [x0b,gsB];cases hs:q0h p
 ·rfl
 ·simp only [cond_true,Bool.true_and];rw [z2z (by omega) hs];simp only [z2d];rw [n165,q0b]
  have:=z3o (k:=k) v hv (nS p:Int) k 0 0 (by omega) (by omega) (by omega)
  have h':z14 k k (nS p:Int) 0 (encZ v) (v.length:Int) 0 (encZ v)=_:=this;rw [h'];simp only [w92];rfl
theorem v5f {x y:Int} (hx:0<=x /\ x<=1000) (hy:0<=y /\ y<=1000):wf2B (x,y)=true:=by
 have h:∀ z:Int,0<=z /\ z<=1000->(Lit.int .i64 z).wf=true:=by
  intro z hz;have h1:IntKind.i64.min=-9223372036854775808:=rfl;have h2:IntKind.i64.max=9223372036854775807:=rfl;simp only [Lit.wf,h1,h2,Bool.and_eq_true,decide_eq_true_eq];omega
 simp only [wf2B,Bool.and_eq_true];exact ⟨h x hx,h y hy⟩
theorem y4n {k:Nat} (hk:1<=k) (a b:List Int) (hl:a.length=b.length) (ha:a.length<=1000) (hwf:(a.zip b).all wf2B=true):∀ (n i:Nat),a.length-i<n->i<=a.length ->
  y9w k n i (encZ a) (a.length:Int) (i:Int) (encZ b) [] (((a.zip b).take i).map q1o)=r83 (encZ (cls (a.zip b) []))
 | 0,i,h,hi=>by omega
 | n+1,i,h,hi=>by
  rw [v3l];have hz:(a.zip b).length=a.length:=by simp;omega
  have etk:(((a.zip b).take i).map q1o).take i=((a.zip b).take i).map q1o:=by rw [List.take_of_length_le (by simp;omega)]
  by_cases hlt:i<a.length
  ·have hd:=k04 (i:=i) (l:=a) hlt;have hnext:=k02 (i:=i) (by omega);have hap:((a.zip b).take i).map q1o++[PV.agg [.int .i64 a[i],.int .i64 b[i]]]=((a.zip b).take (i+1)).map q1o:=by
    rw [List.take_succ_eq_append_getElem (by omega),List.map_append];simp [q1o]
   rw [hd,q0l hlt,q0l (l:=b) (i:=i) (by omega),hnext];simp only [cond_true,Option.bind_some,q0d];rw [q0p (by omega) (by omega),etk,hap];exact y4n hk a b hl ha hwf n (i+1) (by omega) (by omega)
  ·have hd:=k03 (i:=i) (l:=a) hlt;obtain ⟨k,rfl⟩:=k01 (k:=k) (by omega);have hfull:(a.zip b).take i=a.zip b:=List.take_of_length_le (by omega);rw [hd,etk,hfull,n166 k _ (by omega) hwf,x1b];have h':r166 ((cls (a.zip b) []).map (PV.int .i64))=r166 (encZ (cls (a.zip b) [])):=rfl;rw [h',y66,List.take_of_length_le (by simp)];rfl
theorem v4b {a b:List Int} (ha:OkV a) (hb:OkV b):(a.zip b).all wf2B=true:=by
 rw [List.all_eq_true]
 rintro ⟨x,y⟩ h
 have h1:=ha.rng x (List.of_mem_zip h).1;have h2:=hb.rng y (List.of_mem_zip h).2;exact v5f ⟨h1.1,by omega⟩ ⟨h2.1,by omega⟩
theorem x19 {k:Nat} (hk:1010<=k) {a b:List Int} (ha:OkV a) (hb:OkV b) (hl:a.length=b.length):c83 k (encZ a) (encZ b)=r83 (encZ (cls (a.zip b) [])):=by
 obtain ⟨k,rfl⟩:=k01 (k:=k) (by omega)
 have:=ha.len
 rw [n83,q0b];exact y4n (k:=k) (by omega) a b hl (by omega) (v4b ha hb) k 0 (by omega) (by omega)
def bitI (p:Prg) (t:List Nd) (no:Int):Int:=bif hN p t no then 1 else 0
def q4b (p:Prg) (t:List Nd):List Int:=(iota (nS p)).map (bitI p t)
def q34 (p:Prg) (t:List Nd):List (Int × Int):=(q4b p t).map fun b=>(b,0)
theorem z3c (p:Prg) (t:List Nd) (no:Int):bitI p t no=0∨bitI p t no=1:=by
 unfold bitI;cases hN p t no
 · exact .inl rfl
 · exact .inr rfl
theorem w2g {k:Nat} (hk:1000010<=k) {p:Prg} (hs:q0h p=true) (t:List Nd) (ht:t.length<=100) (hkt:kindT p.wide p.vars t=2) {no:Int} (hin:inS p no):c149 k p.wide (encT t) (encW (sto p no))=r149 (bitI p t no):=by
 obtain ⟨hw,hv⟩:=q4u (q1t hs);obtain ⟨h1,h2⟩:=(q5a hw).1 (q51 hs hin);obtain ⟨hval,hok⟩:=q58 hkt (by omega) h1 h2;rw [q9d (by omega) hw _ _ (by omega) hval];have hc:=q5n (x6l (by rw [hkt] at *;exact hok))
 congr 1
 unfold bitI hN q6w;rcases hc with h | h <;> rw [h] <;> rfl
theorem w0g {k:Nat} (hk:1000010<=k) {p:Prg} (hs:q0h p=true) (l1 l2 u:List PV) (t:List Nd) (ht:t.length<=100) (hkt:kindT p.wide p.vars t=2) (N n1 n i:Nat) (hn:2<=n) (hin:inS p (i:Int)) (hN:i<N) (xs:List PV) (hx:xs[0+(i:Int).toNat]? = some (q1o (0,0))) :
  z50 k n1 n (q0i [t]) N (i:Int) (encW (sto p (i:Int))) (N:Int) (i:Int) (q0i [t]) 1 0 p.wide p.vars l1 l2 u xs=z5z k n1 (q0i [t]) N (N:Int) (IntKind.i64.wrap ((i:Int)+1)) p.wide p.vars l1 l2 u (xs.set i (q1o (bitI p t (i:Int),0))):=by
 obtain ⟨n,rfl⟩:∃ j,n=j+2:=⟨n-2,by omega⟩;have hg:(decide ((0:Int)<=(i:Int))&&decide ((i:Int)<(N:Int)))=true:=by
  rw [decide_eq_true (by omega),decide_eq_true (by omega)];rfl
 have hd:decide ((0:Int)<1)=true:=rfl;have hd2:decide ((0:Int)<0)=false:=rfl;have hl:q0e (q0i [t]) 0=some (.row 2 0 (encT t)):=rfl;have ha:(q1o (0,0)).atInt .i64 0=some 0:=rfl;have hw:IntKind.i64.wrap (0+1)=1:=rfl;rw [x6z,hd,hl,hg,hx];simp only [cond_true,Option.bind_some,q0u,ha];rw [w2g hk hs t ht hkt hin];simp only [y3d,hd2,Bool.not_false,cond_true,hw];have hp:putPart (q1o (0,0)) 2 0 (PV.int .i64 (q0o .or .i64 0 (shlI .i64 (IntKind.i64.wrap (bitI p t (i:Int))) 0))) 0=some (q1o (bitI p t (i:Int),0)):=by
  rcases z3c p t (i:Int) with h | h <;> rw [h] <;> rfl
 rw [hp];simp only [Option.bind_some,Nat.zero_add,Int.toNat_natCast];rw [x6z];rfl
theorem y7i {k:Nat} (hk:1000010<=k) {p:Prg} (hs:q0h p=true) (l1 l2 u:List PV) (t:List Nd) (ht:t.length<=100) (hkt:kindT p.wide p.vars t=2):∀ (n i:Nat),nS p-i<n->i<=nS p ->
  z5z k n (q0i [t]) (nS p) (nS p:Int) (i:Int) p.wide p.vars l1 l2 u (((q34 p t).take i).map q1o++List.replicate (nS p-i) (q1o (0,0)))=r223 (encZ (cls (q34 p t) [])) true
 | 0,i,h,hi=>by omega
 | n+1,i,h,hi=>by
  have hle:=q3e hs;have hlen:(q34 p t).length=nS p:=by simp [q34,q4b,q2d]
  rw [w8c];by_cases hlt:i<nS p
  ·have hd:decide ((i:Int)<(nS p:Int))=true:=by simpa using hlt
   have hnext:=k02 (i:=i) (by omega);have hin:inS p (i:Int):=⟨by omega,by omega⟩;obtain ⟨m,hm⟩:∃ m,nS p-i=m+1:=⟨nS p-i-1,by omega⟩;have hl1:(((q34 p t).take i).map q1o).length=i:=by simp;omega
   have hx:(((q34 p t).take i).map q1o++List.replicate (nS p-i) (q1o (0,0)))[0+(i:Int).toNat]? = some (q1o (0,0)):=by
    rw [Nat.zero_add,Int.toNat_natCast,List.getElem?_append_right (by omega),hl1,hm];simp
   have hset:(((q34 p t).take i).map q1o++List.replicate (nS p-i) (q1o (0,0))).set i (q1o (bitI p t (i:Int),0))=((q34 p t).take (i+1)).map q1o++List.replicate (nS p-(i+1)) (q1o (0,0)):=by
    rw [List.set_append_right _ _ (by omega),hl1,Nat.sub_self,hm,List.replicate_succ,List.set_cons_zero,List.take_succ_eq_append_getElem (by omega),List.map_append,show nS p-(i+1)=m by omega,List.append_assoc]
    congr 1
    simp [q34,q4b,iota]
   rw [hd,z80 (by omega) hs l1 l2 hin];simp only [cond_true,y90];have h2:=w0g hk hs l1 l2 u t ht hkt (nS p) n k i (by omega) hin hlt _ hx;have h':z50 k n k (q0i [t]) (nS p) (i:Int) (encW (sto p (i:Int))) (nS p:Int) (i:Int) (q0i [t]) ((q0i [t]).length:Int) 0 p.wide p.vars l1 l2 u (((q34 p t).take i).map q1o++List.replicate (nS p-i) (q1o (0,0)))=_:=h2;rw [h',hnext,hset];exact y7i hk hs l1 l2 u t ht hkt n (i+1) (by omega) (by omega)
  ·have hd:decide ((i:Int)<(nS p:Int))=false:=by simpa using hlt
   obtain ⟨k,rfl⟩:=k01 (k:=k) (by omega);have hi2:i=nS p:=by omega
   have hfull:(q34 p t).take i=q34 p t:=List.take_of_length_le (by omega);have hwf:(q34 p t).all wf2B=true:=by
    rw [List.all_eq_true];intro q hq;simp only [q34,q4b,List.mem_map] at hq;obtain ⟨_,⟨y,_,rfl⟩,rfl⟩:=hq;rcases z3c p t y with h | h <;> rw [h] <;> rfl
   have e1:nS p-i=0:=by omega
   rw [hd,hfull,e1,List.replicate_zero,List.append_nil,List.take_of_length_le (by simp;omega),n166 k _ (by omega) hwf,x1b];have h':r166 ((cls (q34 p t) []).map (PV.int .i64))=r166 (encZ (cls (q34 p t) [])):=rfl;rw [h',y66,List.take_of_length_le (by simp)];rfl
def byV (p:Prg) (t:List Nd):List Int:=cls (q4b p t) []
theorem w3 (bs:List Int):cls (bs.map fun b=>(b,(0:Int))) []=cls bs []:=by
 have h:Bij (bs.map fun b=>((b,(0:Int)),b)):=by
  intro x hx y hy;obtain ⟨a,_,rfl⟩:=List.mem_map.1 hx;obtain ⟨b,_,rfl⟩:=List.mem_map.1 hy;simp
 have:=w0p h
 simpa [Function.comp_def] using this
def spB (p:Prg) (t:List Nd):Bool:=q0h p&&(kindT p.wide p.vars t==2)
theorem x5h {k:Nat} (hk:1000500<=k) (p:Prg) (hp:FitP p) (t:List Nd) (ht:t.length<=100):c223 k p.wide p.vars (encT p.start) (q0f p.cmds) [PV.row 2 0 (encT t)]=r223 (encZ (bif spB p t then byV p t else [])) (spB p t):=by
 obtain ⟨k,rfl⟩:=k01 (k:=k) (by omega);have ha:=z9b (k:=k) (by omega) p (encT p.start) (q0f p.cmds) [t] (by simp) (by simpa using ht);have ha':c74 k p.wide p.vars (encT p.start) (q0f p.cmds) [PV.row 2 0 (encT t)] 0=_:=ha;have hpr:q2r p [t]=(kindT p.wide p.vars t==2):=by simp [q2r,allC]
 rw [n223,z3z (by omega) p hp];simp only [x0b,spB];cases hs:q0h p
 ·rfl
 simp only [Bool.not_true,cond_false];rw [ha',hpr];simp only [w42];cases hk2:(kindT p.wide p.vars t==2)
 ·rfl
 have hle:=q3e hs;simp only [Bool.not_true,cond_false,Bool.and_self,cond_true];rw [z2z (by omega) hs];simp only [z2d,Int.toNat_natCast];have hg:(((nS p:Int)==(nS p:Int))&&decide ((0:Int)<=(nS p:Int))&&decide (nS p*16<=LIM)&&decide (nS p<=LIM))=true:=by
  have q1:decide (nS p*16<=LIM)=true:=decide_eq_true (by unfold LIM;omega);have q2:decide (nS p<=LIM)=true:=decide_eq_true (by unfold LIM;omega);rw [q1,q2];simp
 rw [hg]
 have:=y7i (k:=k) (by omega) hs (encT p.start) (q0f p.cmds) [] t ht (by simpa using hk2) k 0 (by omega) (by omega)
 simp only [List.take_zero,List.map_nil,List.nil_append,Nat.sub_zero] at this;rw [q34,w3] at this;exact this
def mxF:List Int->Int->Int
 | [],m=>m
 | x::l,m=>mxF l (maxI m x)
theorem x18 {k:Nat} (v:List Int) (hv:v.length<=1000):∀ (n i:Nat) (m:Int),v.length-i<n->i<=v.length->z5m k n (encZ v) m (i:Int)=r167 (mxF (v.drop i) m)
 | 0,i,m,h,hi=>by omega
 | n+1,i,m,h,hi=>by
  rw [w7p,q0b];by_cases hlt:i<v.length
  ·have hd:=k04 (i:=i) (l:=v) hlt;have hnext:=k02 (i:=i) (by omega);rw [hd,q0l hlt,q0c hlt,hnext];simp only [cond_true,Option.bind_some,q0d,mxF];exact x18 v hv n (i+1) _ (by omega) (by omega)
  ·have hd:=k03 (i:=i) (l:=v) hlt;rw [hd,List.drop_eq_nil_of_le (by omega)];rfl
theorem y6b:∀ (l:List Int) (m:Int),q04 l m=true->mxF l (m-1)=q0r l m-1
 | [],m,h=>rfl
 | x::l,m,h=>by
  simp only [q04,Bool.and_eq_true,decide_eq_true_eq] at h;obtain ⟨h1,h2,h3⟩:=h;rw [mxF,q0r];by_cases e:x=m
  ·subst e;have he:(x==x)=true:=beq_self_eq_true _;rw [he] at h3 ⊢;simp only [cond_true] at h3 ⊢
   have:=y6b l (x+1) h3
   have hx:maxI (x-1) x=x:=by
    unfold maxI;rw [decide_eq_true (by omega:x>x-1)];rfl
   rw [hx];rw [show x+1-1=x by omega] at this;exact this
  ·have he:(x==m)=false:=by simpa using e
   rw [he] at h3 ⊢;simp only [cond_false] at h3 ⊢;have hx:maxI (m-1) x=m-1:=by
    unfold maxI;rw [decide_eq_false (by omega:¬ x>m-1)];rfl
   rw [hx];exact y6b l m h3
theorem y3y {k:Nat} (hk:1010<=k) {v:List Int} (hv:v.length<=1000) (h0:v≠[]) (hg:q04 v 0=true):c84 k (encZ v)=r84 (q0r v 0):=by
 obtain ⟨k,rfl⟩:∃ j,k=j+2:=⟨k-2,by omega⟩;have hlen:0<v.length:=List.length_pos_iff.2 h0;have hd:decide ((v.length:Int)<1)=false:=decide_eq_false (by omega);have hl:q0e (encZ v) 0=_:=q0l (l:=v) (i:=0) hlen;have hv0:v=v[0]::v.drop 1:=by
  have:=q0c hlen
  simpa using this
 rw [n84,n167,q0b,hd,hl];simp only [cond_false,Option.bind_some,q0d];have hm:=x18 (k:=k) v hv k 1 v[0] (by omega) (by omega);have hm':z5m k k (encZ v) v[0] 1=_:=hm;rw [hm'];simp only [w93];have hg2:=hg;rw [hv0] at hg2;simp only [q04,Bool.and_eq_true,decide_eq_true_eq] at hg2;have hz:v[0]=0:=by omega
 have hmm:=y6b (v[0]::v.drop 1) 0 (by rw [<- hv0];exact hg);have hb:=z2s v 0 (by simpa using hg) 0 (by rw [hv0,hz];simp);have hlenm:q0r v 0<=1000:=by
  have:=(x1d hg).2
  have hs:(dis v []).length<=v.length:=q8c (q8a v [] (by simp)) (fun x hx=>by simpa using (q68 v [] x).1 hx);omega
 have e:mxF (v.drop 1) v[0]=q0r v 0-1:=by
  rw [<- hv0] at hmm;rw [<- hmm]
  conv=>rhs;rw [hv0]
  rw [mxF,hz];rfl
 have hb2:(0:Int)<q0r v 0:=hb.2;rw [e,show q0r v 0-1+1=q0r v 0 by omega,q0g (by omega) (by omega)]
theorem x9o (l:List Int) (K0:List PV->R):w4v (r164 (encZ l)) K0=K0 (encZ l):=by
 have h:([SV.agg [.own 3 0 (encZ l)]].all q0z&&true)=true:=by simp [q0z,q1m,q2h];rfl
 show (bif ([SV.agg [.own 3 0 (encZ l)]].all q0z&&true) then K0 (encZ l) else none)=_
 rw [h];rfl
theorem x0p (l:List Int) (K0:List PV->R):R98p (r98 (encZ l)) K0=K0 (encZ l):=by
 have h:([SV.agg [.own 3 0 (encZ l)]].all q0z&&true)=true:=by simp [q0z,q1m,q2h];rfl
 show (bif ([SV.agg [.own 3 0 (encZ l)]].all q0z&&true) then K0 (encZ l) else none)=_
 rw [h];rfl
theorem x9w (l:List Int) (b:Bool) (K0:List PV->Bool->R):w4w (r200 (encZ l) b) K0=K0 (encZ l) b:=by
 have h:([SV.agg [.own 3 0 (encZ l)],SV.c (.p (.bool b))].all q0z&&true)=true:=by simp [q0z,q1m,q35,q2h];rfl
 show (bif ([SV.agg [.own 3 0 (encZ l)],SV.c (.p (.bool b))].all q0z&&true) then K0 (encZ l) b else none)=_
 rw [h];rfl
theorem q0v (l:List Int):(encZ l).take l.length=encZ l:=List.take_of_length_le (by simp)
theorem y1i {k:Nat} (hk:1<=k) (v:List Int) (hv:v.length<=1000):∀ (n i m:Nat),v.length-i<n->i<=v.length->m<=i ->
  z5g k n (m:Int) (encZ v) (v.length:Int) (i:Int)=r129 (q04 (v.drop i) (m:Int))
 | 0,i,m,h,hi,hm=>by omega
 | n+1,i,m,h,hi,hm=>by
  rw [w66];by_cases hlt:i<v.length
  ·have hd:=k04 (i:=i) (l:=v) hlt;have hnext:=k02 (i:=i) (by omega);have hm2:IntKind.i64.wrap ((m:Int)+1)=((m+1:Nat):Int):=by rw [q0g (by omega) (by omega)];omega
   have hm3:((m:Int)+1)=((m+1:Nat):Int):=by omega
   rw [hd,q0l hlt,q0c hlt,hnext];simp only [cond_true,Option.bind_some,q0d,q04];rw [q87 hk,hm2,hm3];simp only [q74];cases decide (0<=v[i])
   ·rfl
   cases decide (v[i]<=(m:Int))
   ·rfl
   simp only [Bool.true_and,Bool.not_true,cond_false];cases (v[i]==(m:Int))
   ·exact y1i hk v hv n (i+1) m (by omega) (by omega) (by omega)
   ·exact y1i hk v hv n (i+1) (m+1) (by omega) (by omega) (by omega)
  ·have hd:=k03 (i:=i) (l:=v) hlt;rw [hd,List.drop_eq_nil_of_le (by omega)];rfl
theorem z4z {k:Nat} (hk:1000300<=k) (p:Prg) (hp:FitP p) (v:List Int) (hv:v.length<=1000):c129 k p.wide p.vars (encT p.start) (q0f p.cmds) (encZ v)=r129 (gsB p v):=by
 obtain ⟨k,rfl⟩:=k01 (k:=k) (by omega);rw [n129,z34 (by omega) p hp];simp only [x0c,gsB];cases hs:q0h p
 ·rfl
 ·simp only [cond_false,Bool.not_true,Bool.true_and];rw [x2c (by omega) hs,q0b];simp only [x0d];cases hl:((v.length:Int)==(nS p:Int))
  ·have e:((v.length:Int) != (nS p:Int))=true:=by simp only [bne,hl];rfl
   rw [e,Bool.and_false];rfl
  ·have e:((v.length:Int) != (nS p:Int))=false:=by simp only [bne,hl];rfl
   rw [e,Bool.and_true];exact y1i (k:=k) (by omega) v hv k 0 0 (by omega) (by omega) (by omega)
theorem x2n {k:Nat} (ks:List Int) (hlen:ks.length<=1000) (kn:List Int) (n1 i:Nat) (hi:i<ks.length) (hkn:∀ x,x∈kn↔x∈ks.take i) (hk1:kn.length<=1000):∀ (n j:Nat),i-j<n->j<=i->(∀ x∈ks.take j,x≠ks[i]) ->
  z5l k n1 n (encZ ks) (kn.length:Int) (i:Int) ks[i] (kn.length:Int) (j:Int) (encZ ks) (ks.length:Int) (i:Int) 0 i [] (encZ ((ks.take i).map fun x=>(kn.idxOf x:Int))) =
   bif kn.contains ks[i] then q6k k n1 (encZ ks) (kn.length:Int) (encZ ks) (ks.length:Int) ((i+1:Nat):Int) 0 (i+1) [] (encZ (((ks.take i).map fun x=>(kn.idxOf x:Int))++[(kn.idxOf ks[i]:Int)]))
   else q6k k n1 (encZ ks) ((kn.length+1:Nat):Int) (encZ ks) (ks.length:Int) ((i+1:Nat):Int) 0 (i+1) [] (encZ (((ks.take i).map fun x=>(kn.idxOf x:Int))++[(kn.length:Int)]))
 | 0,j,h,hj,hno=>by omega
 | n+1,j,h,hj,hno=>by
  rw [w7n];have hol:((ks.take i).map fun x=>(kn.idxOf x:Int)).length=i:=by simp;omega
  have hnext:=k02 (i:=i) (by omega);have hm2:IntKind.i64.wrap ((kn.length:Int)+1)=((kn.length+1:Nat):Int):=by rw [q0g (by omega) (by omega)];omega
  have htk:(encZ ((ks.take i).map fun x=>(kn.idxOf x:Int))).take i=encZ ((ks.take i).map fun x=>(kn.idxOf x:Int)):=by rw [List.take_of_length_le (by simp;omega)]
  have hlim:(decide ((i+1)*8<=LIM)&&decide (i+1<=LIM))=true:=q0p (by omega) (by omega);by_cases hlt:j<i
  ·have hd:decide ((j:Int)<(i:Int))=true:=by simpa using hlt
   have hnj:IntKind.i64.wrap ((j:Int)+1)=((j+1:Nat):Int):=by rw [q0g (by omega) (by omega)];omega
   rw [hd,q0l (l:=ks) (i:=j) (by omega),hnj];simp only [cond_true,Option.bind_some,q0d];by_cases he:ks[j]=ks[i]
   ·have e1:(ks[j]==ks[i])=true:=by simpa using he
    have hg:(decide ((0:Int)<=(j:Int))&&true)=true:=by
     rw [decide_eq_true (by omega)];rfl
    have hm:ks[i]∈ks.take i:=by
     rw [<- he];exact List.mem_take_iff_getElem.2 ⟨j,by omega,rfl⟩
    have hmk:ks[i]∈kn:=(hkn _).2 hm;have hc:kn.contains ks[i]=true:=by simpa using hmk
    have hidx:=List.idxOf_lt_length_of_mem hmk;have hget:(encZ ((ks.take i).map fun x=>(kn.idxOf x:Int)))[0+(j:Int).toNat]? = some (.int .i64 (kn.idxOf ks[i]:Int)):=by
     rw [Nat.zero_add,Int.toNat_natCast,q1r,List.getElem?_map,List.getElem?_take_of_lt hlt,List.getElem?_eq_getElem (by omega),<- he];rfl
    have e2:(((kn.idxOf ks[i]:Nat):Int)==(kn.length:Int))=false:=by
     have:((kn.idxOf ks[i]:Nat):Int)≠(kn.length:Int):=by omega
     simpa using this
    rw [e1,hg,hget,hc];simp only [cond_true,Option.bind_some,q0d];rw [e2,hlim,htk,hnext,q00];rfl
   ·have e1:(ks[j]==ks[i])=false:=by simpa using he
    rw [e1];simp only [cond_false];refine x2n ks hlen kn n1 i hi hkn hk1 n (j+1) (by omega) (by omega) fun x hx=>?_
    rw [List.take_succ_eq_append_getElem (by omega),List.mem_append,List.mem_singleton] at hx;rcases hx with hx | rfl
    ·exact hno x hx
    ·exact he
  ·have hd:decide ((j:Int)<(i:Int))=false:=by simpa using hlt
   have hji:j=i:=by omega
   subst hji;have hc:kn.contains ks[j]=false:=by
    rw [<- Bool.not_eq_true,List.contains_iff_mem,hkn];intro hm;exact hno _ hm rfl
   have e2:((kn.length:Int)==(kn.length:Int))=true:=beq_self_eq_true _;rw [hd,e2,hc,hlim,htk,hnext,hm2,q00];rfl
theorem y1s {k:Nat} (ks:List Int) (hlen:ks.length<=1000) (hk:1010<=k):∀ (n i:Nat) (kn:List Int),ks.length-i<n->i<=ks.length->(∀ x,x∈kn↔x∈ks.take i)->kn.length<=i ->
  q6k k n (encZ ks) (kn.length:Int) (encZ ks) (ks.length:Int) (i:Int) 0 i [] (encZ ((ks.take i).map fun x=>(kn.idxOf x:Int)))=r164 (encZ (((ks.take i).map fun x=>(kn.idxOf x:Int))++cls (ks.drop i) kn))
 | 0,i,kn,h,hi,hkn,hk1=>by omega
 | n+1,i,kn,h,hi,hkn,hk1=>by
  rw [w7m];by_cases hlt:i<ks.length
  ·have hd:=k04 (i:=i) (l:=ks) hlt;rw [hd,q0l hlt,q0c hlt];simp only [cond_true,Option.bind_some,q0d,cls];have h2:=x2n (k:=k) ks hlen kn n i hlt hkn (by omega) k 0 (by omega) (by omega) (by simp);have h':z5l k n k (encZ ks) (kn.length:Int) (i:Int) ks[i] (kn.length:Int) 0 (encZ ks) (ks.length:Int) (i:Int) 0 i [] (encZ ((ks.take i).map fun x=>(kn.idxOf x:Int)))=_:=h2;rw [h'];cases hc:kn.contains ks[i]
   ·have hp:ks[i]∉kn:=by simpa using hc
    simp only [cond_false];have e:((ks.take i).map fun x=>(kn.idxOf x:Int))++[(kn.length:Int)]=(ks.take (i+1)).map fun x=>((kn++[ks[i]]).idxOf x:Int):=by
     rw [List.take_succ_eq_append_getElem hlt,List.map_append]
     congr 1
     ·apply List.map_congr_left;intro x hx;rw [y55 ((hkn x).2 hx)]
     ·simp [List.idxOf_append,hp]
    have:=y1s ks hlen hk n (i+1) (kn++[ks[i]]) (by omega) (by omega) (fun x=>by
     rw [List.take_succ_eq_append_getElem hlt,List.mem_append,List.mem_append,hkn x]) (by simp;omega)
    rw [<- e,List.length_append] at this;rw [show (ks.take i).map (fun x=>(kn.idxOf x:Int))++(kn.length:Int)::cls (ks.drop (i+1)) (kn++[ks[i]])=((ks.take i).map (fun x=>(kn.idxOf x:Int))++[(kn.length:Int)])++cls (ks.drop (i+1)) (kn++[ks[i]]) by simp];exact this
   ·have hp:ks[i]∈kn:=by simpa using hc
    simp only [cond_true];have e:((ks.take i).map fun x=>(kn.idxOf x:Int))++[(kn.idxOf ks[i]:Int)]=(ks.take (i+1)).map fun x=>(kn.idxOf x:Int):=by
     rw [List.take_succ_eq_append_getElem hlt,List.map_append];rfl
    have:=y1s ks hlen hk n (i+1) kn (by omega) (by omega) (fun x=>by
     rw [List.take_succ_eq_append_getElem hlt,List.mem_append,hkn x];constructor
     ·exact .inl
     ·rintro (h | h)
      ·exact h
      ·rw [List.mem_singleton.1 h];exact (hkn _).1 hp) (by omega)
    rw [<- e] at this;rw [show (ks.take i).map (fun x=>(kn.idxOf x:Int))++(kn.idxOf ks[i]:Int)::cls (ks.drop (i+1)) kn=((ks.take i).map (fun x=>(kn.idxOf x:Int))++[(kn.idxOf ks[i]:Int)])++cls (ks.drop (i+1)) kn by simp];exact this
  ·have hd:=k03 (i:=i) (l:=ks) hlt;rw [hd,List.drop_eq_nil_of_le (by omega)];simp only [cond_false,cls,List.append_nil];rw [List.take_of_length_le (by simp;omega)]
theorem v5d {k:Nat} (hk:1020<=k) (ks:List Int) (hlen:ks.length<=1000):c164 k (encZ ks)=r164 (encZ (cls ks [])):=by
 obtain ⟨k,rfl⟩:=k01 (k:=k) (by omega);rw [n164,q0b]
 have:=y1s (k:=k) ks hlen (by omega) k 0 [] (by omega) (by omega) (by simp) (by simp)
 simp only [List.take_zero,List.map_nil,List.nil_append,List.drop_zero,List.length_nil] at this;exact this
def cutK (some1:List Int):List Int->Nat->List Int
 | [],_=>[]
 | x::l,i=>(bif some1.contains (i:Int) then 2*x+1 else 2*x)::cutK some1 l (i+1)
theorem y1c (some1:List Int):∀ (l:List Int) (i:Nat),(cutK some1 l i).length=l.length
 | [],i=>rfl
 | x::l,i=>by simp [cutK,y1c some1 l]
def cutV (some1 v:List Int):List Int:=cls (cutK some1 v 0) []
theorem y1d {k:Nat} (hk:100010<=k) (some1 v:List Int) (hs:some1.length<=1000) (hv:OkV v):∀ (n i:Nat) (o:List Int),v.length-i<n->i<=v.length->o.length=i ->
  y3 k n (encZ some1) o.length (encZ v) (v.length:Int) (i:Int) [] (encZ o)=r80 (encZ (cls (o++cutK some1 (v.drop i) i) []))
 | 0,i,o,h,hi,ho=>by omega
 | n+1,i,o,h,hi,ho=>by
  have hvl:=hv.len;rw [v3k,q0v];by_cases hlt:i<v.length
  ·have hd:=k04 (i:=i) (l:=v) hlt;have hnext:=k02 (i:=i) (by omega);have hr:=hv.rng _ (List.getElem_mem hlt);have e1:IntKind.i64.wrap (2*v[i])=2*v[i]:=q0g (by omega) (by omega);have e2:IntKind.i64.wrap (2*v[i]+1)=2*v[i]+1:=q0g (by omega) (by omega);rw [hd,q0l hlt,q0c hlt,hnext];simp only [cond_true,Option.bind_some,q0d,cutK];rw [z63 hk some1 (by omega)];simp only [z6i];rw [q0p (by omega) (by omega),e1,e2,q00,q00];cases some1.contains (i:Int)
   ·have:=y1d hk some1 v hs hv n (i+1) (o++[2*v[i]]) (by omega) (by omega) (by simp;omega)
    rw [List.length_append,List.append_assoc] at this;exact this
   ·have:=y1d hk some1 v hs hv n (i+1) (o++[2*v[i]+1]) (by omega) (by omega) (by simp;omega)
    rw [List.length_append,List.append_assoc] at this;exact this
  ·have hd:=k03 (i:=i) (l:=v) hlt;rw [hd,List.drop_eq_nil_of_le (by omega),v5d (by omega) o (by omega)];simp only [cond_false,cutK,List.append_nil];rw [x9o,List.take_of_length_le (by simp)]
theorem y1b {k:Nat} (hk:100020<=k) (some1 v:List Int) (hs:some1.length<=1000) (hv:OkV v):c80 k (encZ v) (encZ some1)=r80 (encZ (cutV some1 v)):=by
 obtain ⟨k,rfl⟩:=k01 (k:=k) (by omega)
 have:=hv.len
 rw [n80,q0b];exact y1d (k:=k) (by omega) some1 v hs hv k 0 [] (by omega) (by omega) rfl
theorem x5w {α:Type} [BEq α] [LawfulBEq α] (l:List α) (h:l.length<=100):OkV (cls l []):=by
 refine ⟨by rw [q9g];exact h,fun x hx=>?_⟩;obtain ⟨h1,h2⟩:=z3q l [];have h3:=z2s (cls l []) 0 h1 x hx;have h4:(dis l []).length<=l.length:=q8c (q8a l [] (by simp)) (fun x hx=>by simpa using (q68 l [] x).1 hx);have h5:q0r (cls l []) 0=((dis l []).length:Int):=h2;have h6:((0:Nat):Int)=0:=rfl;rw [h6] at h3;omega
theorem q67 {some1 v:List Int} (hv:OkV v):OkV (cutV some1 v):=x5w _ (by rw [y1c];exact hv.len)
theorem x50 (some1 v:List Int):(cutV some1 v).length=v.length:=by rw [cutV,q9g,y1c]
theorem v5l {p:Prg} (hs:q0h p=true) (t:List Nd):(whI p t).length<=32:=by
 have:=y6r p t (nS p) 0
 have:=(q3e hs).2
 unfold whI;omega
theorem y12 {k:Nat} (hk:1000300<=k) {p:Prg} (hs:q0h p=true) (l1 l2:List PV) (t:List Nd) (ht:t.length<=100) (hkt:kindT p.wide p.vars t=2) {v:List Int} (hv:OkV v):c98 k p.wide p.vars l1 l2 (encZ v) (encT t)=r98 (encZ (cutV (whI p t) v)):=by
 obtain ⟨k,rfl⟩:=k01 (k:=k) (by omega)
 have:=v5l hs t
 rw [n98,z0t (by omega) hs l1 l2 t ht hkt];simp only [z6g];rw [y1b (by omega) _ _ (by omega) hv];simp only [x7w,q0b,q0v]
def byL (p:Prg):List (List Nd)->List Int->List Int
 | [],v=>v
 | t::ts,v=>byL p ts (cutV (whI p t) v)
theorem z8d (p:Prg):∀ (ts:List (List Nd)) {v:List Int},OkV v->OkV (byL p ts v)
 | [],v,h=>h
 | t::ts,v,h=>z8d p ts (q67 h)
theorem x5q (p:Prg):∀ (ts:List (List Nd)) (v:List Int),(byL p ts v).length=v.length
 | [],v=>rfl
 | t::ts,v=>by rw [byL,x5q p ts,x50]
theorem x00 {k:Nat} (hk:1000300<=k) {p:Prg} (hs:q0h p=true) (l1 l2 u:List PV) (ts:List (List Nd)) (hl:ts.length<=1000) (ht:∀ t∈ts,t.length<=100) (hkt:∀ t∈ts,kindT p.wide p.vars t=2):∀ (n i:Nat) (v:List Int),ts.length-i<n->i<=ts.length->OkV v ->
  y9y k n (q0i ts) (ts.length:Int) (i:Int) p.wide p.vars l1 l2 u v.length (encZ v)=r99 (encZ (byL p (ts.drop i) v))
 | 0,i,v,h,hi,hv=>by omega
 | n+1,i,v,h,hi,hv=>by
  rw [v3s,q0v];by_cases hlt:i<ts.length
  ·have hd:=k04 (i:=i) (l:=ts) hlt;have hnext:=k02 (i:=i) (by omega);have hm:=List.getElem_mem hlt;rw [hd,q0n,q1l,List.getElem?_eq_getElem hlt,q0c hlt,hnext];simp only [cond_true,Option.map_some,Option.bind_some,q0u,byL];rw [y12 hk hs l1 l2 _ (ht _ hm) (hkt _ hm) hv,x0p,q0b];exact x00 hk hs l1 l2 u ts hl ht hkt n (i+1) _ (by omega) (by omega) (q67 hv)
  ·have hd:=k03 (i:=i) (l:=ts) hlt;rw [hd,List.drop_eq_nil_of_le (by omega)];rfl
def q2b (p:Prg):List Int:=List.replicate (nS p) 0
theorem q8d {p:Prg} (hs:q0h p=true):OkV (q2b p):=by
 have:=(q3e hs).2
 refine ⟨by simp [q2b];omega,fun x hx=>?_⟩;rw [List.eq_of_mem_replicate hx];omega
theorem x5s {k:Nat} (hk:1000400<=k) {p:Prg} (hs:q0h p=true) (l1 l2:List PV) (ts:List (List Nd)) (hl:ts.length<=1000) (ht:∀ t∈ts,t.length<=100) (hkt:∀ t∈ts,kindT p.wide p.vars t=2):c99 k p.wide p.vars l1 l2 (q0i ts)=r99 (encZ (byL p ts (q2b p))):=by
 obtain ⟨k,rfl⟩:=k01 (k:=k) (by omega);have hle:=q3e hs;rw [n99,x2c (by omega) hs];simp only [x0d,Int.toNat_natCast];have hg:(((nS p:Int)==(nS p:Int))&&decide ((0:Int)<=(nS p:Int))&&decide (nS p*8<=LIM)&&decide (nS p<=LIM))=true:=by
  have q1:decide (nS p*8<=LIM)=true:=decide_eq_true (by unfold LIM;omega);have q2:decide (nS p<=LIM)=true:=decide_eq_true (by unfold LIM;omega);rw [q1,q2];simp
 have hz:(q2b p).length=nS p:=by simp [q2b]
 have he:List.replicate (nS p) (PV.int .i64 0)=encZ (q2b p):=by simp [q2b,encZ]
 have:=x00 (k:=k) (by omega) hs l1 l2 [] ts hl ht hkt k 0 (q2b p) (by omega) (by omega) (q8d hs)
 rw [hg,he,q05];rw [hz] at this;exact this
def sbB (p:Prg) (ts:List (List Nd)):Bool:=q0h p&&q2r p ts
theorem x5i {k:Nat} (hk:1000500<=k) (p:Prg) (hp:FitP p) (ts:List (List Nd)) (hl:ts.length<=1000) (ht:∀ t∈ts,t.length<=100):c199 k p.wide p.vars (encT p.start) (q0f p.cmds) (q0i ts)=r199 (encZ (bif sbB p ts then byL p ts (q2b p) else [])) (sbB p ts):=by
 obtain ⟨k,rfl⟩:=k01 (k:=k) (by omega);rw [n199,z34 (by omega) p hp];simp only [x0c,sbB];cases hs:q0h p
 · rfl
 simp only [Bool.not_true,cond_false];rw [z9t (by omega) p _ _ ts hl ht];simp only [w43];cases hq:q2r p ts
 · rfl
 simp only [Bool.not_true,cond_false,Bool.and_self,cond_true];rw [x5s (by omega) hs _ _ ts hl ht (by simp only [q2r,Bool.and_eq_true] at hq;exact q65 hq.2)];simp only [w49,q0b,q0v]
def coB (p:Prg) (v some1:List Int):Bool:=gsB p v&&incG (v.length:Int) none some1
theorem x8g {k:Nat} (hk:1000500<=k) (p:Prg) (hp:FitP p) {v some1:List Int} (hv:OkV v) (hs:some1.length<=1000):c200 k p.wide p.vars (encT p.start) (q0f p.cmds) (encZ v) (encZ some1)=r200 (encZ (bif coB p v some1 then cutV some1 v else [])) (coB p v some1):=by
 obtain ⟨k,rfl⟩:=k01 (k:=k) (by omega);have hvl:=hv.len;rw [n200,z4z (by omega) p hp v (by omega),q0b,q0g (by omega) (by omega)];simp only [x9k,coB];cases hg:gsB p v
 · rfl
 simp only [Bool.not_true,cond_false];rw [w6k (by omega) some1 (by omega)];simp only [v0e];cases hq:incG (v.length:Int) none some1
 · rfl
 simp only [Bool.not_true,cond_false,Bool.and_self,cond_true];rw [y1b (by omega) some1 v hs hv];simp only [x7w,q0b,q0v]
def ssB (p:Prg) (v:List Int) (t:List Nd):Bool:=gsB p v&&(kindT p.wide p.vars t==2)
theorem q2p {p:Prg} {v:List Int} (h:gsB p v=true):q0h p=true /\ q04 v 0=true /\ v.length=nS p:=by
 simp only [gsB,Bool.and_eq_true,beq_iff_eq] at h;exact ⟨h.1,h.2.1,by have:=h.2.2;omega⟩
theorem w5l {p:Prg} {ts:List (List Nd)}:OkV (bif sbB p ts then byL p ts (q2b p) else []) /\ (bif sbB p ts then byL p ts (q2b p) else []).length<=32:=by
 cases h:sbB p ts
 ·exact ⟨⟨by simp,by simp⟩,by simp⟩
 ·simp only [sbB,Bool.and_eq_true] at h
  have:=(q3e h.1).2
  refine ⟨z8d p ts (q8d h.1),?_⟩;simp only [cond_true];rw [x5q];simpa [q2b] using this
theorem w4l {v:List Int} (hv:OkV v) (h32:v.length<=32):OkV (v++[0]) /\ OkV (v.set (v.length-1) (v.length:Int)):=by
 refine ⟨⟨by simp;omega,fun x hx=>?_⟩,⟨by simp;omega,fun x hx=>?_⟩⟩
 ·rcases List.mem_append.1 hx with h | h
  ·exact hv.rng x h
  ·rw [List.mem_singleton.1 h];omega
 ·rcases List.mem_or_eq_of_mem_set hx with h | rfl
  ·exact hv.rng x h
  ·omega
theorem y6o {bs:List Nat} (hc:CodeOK bs) {k:Nat} (hk:2000<=k) {v:List Int} (hv:OkV v) (h32:v.length<=32) {at':Int} (h0:0<=at') (h1:at'<=600000000) (s:W) :
   ∃ a2 s2 w,(R56 (c56 k 40 (encB bs) at' (wi s)) fun l8 v7 v8 v9=>
  bif (v9==0) then
   bif decide (((encZ v).length+1)*8<=LIM)&&decide ((encZ v).length+1<=LIM) then
    r133 l8 v7 v8 ((((encZ v).take (encZ v).length)++[PV.int .i64 0]).take ((encZ v).length+1))
   else none
  else
   bif (v9==1) then
    bif decide (((encZ v).length:Int)>0) then
     bif decide ((0:Int)<=IntKind.i64.wrap (((encZ v).length:Int)-1))&&decide (IntKind.i64.wrap (((encZ v).length:Int)-1)<((encZ v).length:Int)) then
      ((encZ v)[0+((IntKind.i64.wrap (((encZ v).length:Int)-1)).toNat)]?).bind fun p4=>
      r133 l8 v7 v8 (((encZ v).set (0+((IntKind.i64.wrap (((encZ v).length:Int)-1)).toNat)) (PV.int .i64 ((encZ v).length:Int))).take (encZ v).length)
     else none
    else r133 l8 v7 v8 ((encZ v).take (encZ v).length)
   else r133 l8 v7 v8 ((encZ v).take (encZ v).length))=r133 (encB bs) a2 (wi s2) (encZ w) /\ at'<=a2 /\ a2<=at'+2 /\ OkV w:=by
 obtain ⟨a2,s2,x,h,h2,h3,_⟩:=q1w hc (k:=k) (by omega) h0 (by omega) s 40;obtain ⟨t1,t2⟩:=w4l hv h32;rw [h];simp only [q2s,q0b,q0v];cases (x==0)
 · simp only [cond_false];cases (x==1)
   · exact ⟨a2,s2,v,rfl,by omega,by omega,hv⟩
   · simp only [cond_true];by_cases hl:0<v.length
     · have e1:decide ((v.length:Int)>0)=true:=decide_eq_true (by omega);have ew:IntKind.i64.wrap ((v.length:Int)-1)=((v.length-1:Nat):Int):=by rw [q0g (by omega) (by omega)];omega
       have eg:(decide ((0:Int)<=((v.length-1:Nat):Int))&&decide (((v.length-1:Nat):Int)<(v.length:Int)))=true:=by
         rw [decide_eq_true (by omega),decide_eq_true (by omega)];rfl
       have hg:(encZ v)[0+(((v.length-1:Nat):Int)).toNat]? = some (.int .i64 (v[v.length-1]'(by omega))):=by
         rw [Nat.zero_add,Int.toNat_natCast,q1r,List.getElem?_eq_getElem (by omega)];rfl
       rw [e1,ew,eg,hg];simp only [cond_true,Option.bind_some,Nat.zero_add,Int.toNat_natCast];rw [q3b,List.take_of_length_le (by simp)];exact ⟨a2,s2,_,rfl,by omega,by omega,t2⟩
     · have e1:decide ((v.length:Int)>0)=false:=decide_eq_false (by omega);rw [e1];exact ⟨a2,s2,v,rfl,by omega,by omega,hv⟩
 · simp only [cond_true];rw [q0p (by omega) (by omega),q00,List.take_of_length_le (by simp)];exact ⟨a2,s2,_,rfl,by omega,by omega,t1⟩
theorem w4g {bs:List Nat} (hc:CodeOK bs) {k:Nat} (hk:1001000<=k) {p:Prg} (hp:FitP p) {at':Int} (h0:0<=at') (h1:at'<=400000000) (s:W) :
  ∃ a2 s2 v,c133 k p.wide p.vars (encT p.start) (q0f p.cmds) (encB bs) at' (wi s)=r133 (encB bs) a2 (wi s2) (encZ v) /\ at'<=a2 /\ a2<=at'+50000 /\ OkV v:=by
 obtain ⟨k,rfl⟩:=k01 (k:=k) (by omega);have hw:=hp.w;have hv:=hp.v;rw [n133];obtain ⟨a2,s2,ts,h,h2,h3,h4,h5⟩:=x2z hc (k:=k) (by omega) (wide:=p.wide) (vars:=p.vars) (by omega) (by omega) (encT p.start) (q0f p.cmds) 3 (by omega) (by omega) h0 (by omega) s;rw [h];simp only [w41];rw [x5i (by omega) p hp ts (by omega) h5];simp only [v0h];obtain ⟨hk0,hl0⟩:=w5l (p:=p) (ts:=ts)
 generalize (bif sbB p ts then byL p ts (q2b p) else [])=v at hk0 hl0 ⊢
 obtain ⟨a3,s3,b,h,h6,h7⟩:=q3r hc (k:=k) (by omega) (at':=a2) (by omega) (by omega) s2 3;rw [h];simp only [q3n];cases b
 ·simp only [cond_false];obtain ⟨a4,s4,w,h,h8,h9,h10⟩:=y6o hc (k:=k) (by omega) hk0 hl0 (at':=a3) (by omega) (by omega) s3;exact ⟨a4,s4,w,h,by omega,by omega,h10⟩
 ·simp only [cond_true];obtain ⟨a4,s4,so,h,h8,h9,h10⟩:=w18 hc (k:=k) (by omega) 4 3 (by omega) (by omega) (at':=a3) (by omega) (by omega) s3;rw [h];simp only [w9l];rw [q0b,q0v,x8g (by omega) p hp hk0 (by omega),x9w];cases hco:coB p v so
  ·simp only [cond_false];obtain ⟨a5,s5,w,h,h11,h12,h13⟩:=y6o hc (k:=k) (by omega) hk0 hl0 (at':=a4) (by omega) (by omega) s4;rw [q0b,q0v] at h;exact ⟨a5,s5,w,h,by omega,by omega,h13⟩
  ·simp only [cond_true];obtain ⟨a5,s5,w,h,h11,h12,h13⟩:=y6o hc (k:=k) (by omega) (q67 (some1:=so) hk0) (by rw [x50];exact hl0) (at':=a4) (by omega) (by omega) s4;exact ⟨a5,s5,w,h,by omega,by omega,h13⟩
theorem x0z {p:Prg} (hs:q0h p=true) (t:List Nd):OkV (byV p t) /\ (byV p t).length=nS p:=by
 have:=(q3e hs).2
 have hl:(q4b p t).length=nS p:=by simp [q4b,q2d]
 exact ⟨x5w _ (by omega),by rw [byV,q9g,hl]⟩
theorem y0i {k:Nat} (hk:1000600<=k) (p:Prg) (hp:FitP p) {v:List Int} (hv:OkV v) (t:List Nd) (ht:t.length<=100):c159 k p.wide p.vars (encT p.start) (q0f p.cmds) (encZ v) (encT t)=r159 (encZ (bif ssB p v t then cls (v.zip (byV p t)) [] else [])) (ssB p v t):=by
 obtain ⟨k,rfl⟩:=k01 (k:=k) (by omega);have hvl:=hv.len;rw [n159,x5h (by omega) p hp t ht];simp only [v0v,ssB,spB];cases hs:q0h p
 ·have:gsB p v=false:=by simp [gsB,hs]
  rw [this];rfl
 cases hq:(kindT p.wide p.vars t==2)
 ·simp only [Bool.and_false];rfl
 simp only [Bool.and_self,Bool.not_true,cond_false,cond_true,Bool.and_true];rw [q8l (by omega) p hp v (by omega)];simp only [x7x];cases hg:gsB p v
 ·rfl
 simp only [Bool.not_true,cond_false,cond_true];rw [x19 (by omega) hv (x0z hs t).1 (by rw [(q2p hg).2.2,(x0z hs t).2])];simp only [w44]
inductive Tr where
 | leaf (x:Nd)
 | un (x:Nd) (a:Tr)
 | bin (x:Nd) (a b:Tr)
theorem w1:IntKind.i64.wrap ((1:Int)-1)=0:=(q0g (by omega) (by omega)).trans (by omega)
def aft (p:Prg) (c:Cmd) (no:Int):List W:=q06 p.wide (sto p no) c.ch (sto p no)
def toN (p:Prg) (c:Cmd) (no:Int):Int:=(noOf (pw p) (aft p c no):Nat)
theorem x3j {p:Prg} (hp:FitP p) (hs:q0h p=true) {k1:Int} (hn:q2u p k1=true) {no:Int} (hi:inS p no):stOK p (aft p (q0q p k1) no)=true /\ inS p (toN p (q0q p k1) no) /\ sto p (toN p (q0q p k1) no)=aft p (q0q p k1) no:=by
 obtain ⟨hw,hv,_,_,_,_,hx⟩:=q56 hp (k1:=k1) (by simp [tOK,q1t hs,hn]);obtain ⟨h1,h2⟩:=(q5a hw).1 (q51 hs hi);have h3:stOK p (aft p (q0q p k1) no)=true:=(q5a hw).2 ⟨by rw [aft,q8e];exact h1,z27 h1 h2 _ _ (fun x h=>(hx x h).2.2) h2⟩;exact ⟨h3,v2v hs h3⟩
theorem w0a {k:Nat} (hk:1000020<=k) {p:Prg} (hp:FitP p) (hs:q0h p=true) {k1:Int} (hn:q2u p k1=true) (l1 l2 l3:List PV) {no:Int} (hi:inS p no):c146 k p.wide p.vars l1 l2 l3 (q03 (q0q p k1).ch) (encW (sto p no))=r146 (encW (aft p (q0q p k1) no)):=by
 obtain ⟨hw,hv,_,_,hf,_,hx⟩:=q56 hp (k1:=k1) (by simp [tOK,q1t hs,hn]);have hso:=q51 hs hi;obtain ⟨h1,h2⟩:=(q5a hw).1 hso;have hsl:=w2c hp hso;have hfc:=hf.ch;exact w2l (by omega) p hw l1 l2 l3 _ (by omega) h1 h2 _ (by omega) (fun x h=>⟨(hx x h).1,(hx x h).2.1,(hx x h).2.2,hf.by1 x h⟩)
theorem v2i {k:Nat} (hk:1000020<=k) {p:Prg} (hp:FitP p) (hs:q0h p=true) {k1:Int} (hn:q2u p k1=true) (l1:List PV) {no:Int} (hi:inS p no):c233 k p.wide p.vars l1 (q0f p.cmds) (encW (sto p no)) k1=r233 (encW (aft p (q0q p k1) no)):=by
 obtain ⟨k,rfl⟩:=k01 (k:=k) (by omega);obtain ⟨hw,hv,_,_,hf,_,hx⟩:=q56 hp (k1:=k1) (by simp [tOK,q1t hs,hn]);have hso:=q51 hs hi;obtain ⟨h1,h2⟩:=(q5a hw).1 hso;have hsl:=w2c hp hso;have hfc:=hf.ch;obtain ⟨hget,hm⟩:=q6c hn;rw [n233,hget,q5y,q0p (by omega) (by omega)];simp only [cond_true,Option.bind_some,q39,q2l,List.nil_append,Nat.zero_add]
 have:=x54 (k:=k) (by omega) p hw l1 (q0f p.cmds) _ h1 h2 (q0q p k1).ch (by omega) (fun x h=>⟨(hx x h).1,(hx x h).2.1,(hx x h).2.2,hf.by1 x h⟩) k 0 _ (by omega) (by omega) rfl
 exact this
theorem w2t {p:Prg} (hp:FitP p) (hs:q0h p=true) {k1:Int} (hn:q2u p k1=true):(q0q p k1).wh.length<=100 /\ kindT p.wide p.vars (q0q p k1).wh=2:=by
 obtain ⟨hw,hv,_,_,hf,h1,hx⟩:=q56 hp (k1:=k1) (by simp [tOK,q1t hs,hn]);exact ⟨hf.wh,h1⟩
def sucL (p:Prg) (no:Int):List Cmd->List Int
 | []=>[]
 | c::l=>(bif hN p c.wh no then [toN p c no] else [])++sucL p no l
theorem y16 (p:Prg) (no:Int):∀ l:List Cmd,(sucL p no l).length<=l.length
 | []=>by simp [sucL]
 | c::l=>by
  have:=y16 p no l
  simp only [sucL,List.length_append,List.length_cons];cases hN p c.wh no <;> simp <;> omega
theorem z4k (p:Prg) (no:Int):∀ (l:List Cmd) (y:Int),y∈sucL p no l↔∃ c∈l,hN p c.wh no=true /\ y=toN p c no
 | [],y=>by simp [sucL]
 | c::l,y=>by
  simp only [sucL,List.mem_append,z4k p no l y];cases hh:hN p c.wh no <;> simp [hh]
def nxL (p:Prg) (no:Int):List Int:=bif (sucL p no p.cmds).isEmpty then [no] else canI (sucL p no p.cmds)
theorem w0j {l:List Int} (h:l≠[]):canI l≠[]:=by
 intro h2;obtain ⟨x,hx⟩:=List.exists_mem_of_ne_nil _ h
 have:=((z0z l).2 x).2 hx
 rw [h2] at this;cases this
theorem x1e {p:Prg} {i:Nat} (h:i<p.cmds.length):q0q p (i:Int)=p.cmds[i] /\ q2u p (i:Int)=true:=by
 refine ⟨?_,by simp [q2u,h]⟩;unfold q0q;rw [Int.toNat_natCast,List.getElem?_eq_getElem h];rfl
theorem w6g {p:Prg} {no y:Int}:y∈nxL p no↔(∃ c∈p.cmds,hN p c.wh no=true /\ y=toN p c no)∨((∀ c∈p.cmds,hN p c.wh no=false) /\ y=no):=by
 unfold nxL;cases he:(sucL p no p.cmds).isEmpty
 ·have hne:sucL p no p.cmds≠[]:=by intro h;rw [h] at he;cases he
  simp only [cond_false];rw [(z0z _).2 y,z4k];constructor
  ·exact .inl
  ·rintro (h | ⟨h,_⟩)
   ·exact h
   ·obtain ⟨x,hx⟩:=List.exists_mem_of_ne_nil _ hne;obtain ⟨c,hc,h2,_⟩:=(z4k p no p.cmds x).1 hx;rw [h c hc] at h2;cases h2
 ·have hnil:sucL p no p.cmds=[]:=by simpa using he
  simp only [cond_true,List.mem_singleton];have hno:∀ c∈p.cmds,hN p c.wh no=false:=by
   intro c hc;cases hh:hN p c.wh no
   ·rfl
   ·have:toN p c no∈sucL p no p.cmds:=(z4k p no p.cmds _).2 ⟨c,hc,hh,rfl⟩
    rw [hnil] at this;cases this
  constructor
  ·exact fun h=>.inr ⟨hno,h⟩
  ·rintro (⟨c,hc,h2,_⟩ | ⟨_,h⟩)
   ·rw [hno c hc] at h2;cases h2
   ·exact h
theorem v2w (p:Prg) (no:Int):(nxL p no).Pairwise (·<·):=by
 unfold nxL;cases (sucL p no p.cmds).isEmpty
 · exact (z0z _).1
 · simp
theorem q5u {p:Prg} (hp:FitP p) (no:Int):(nxL p no).length<=6:=by
 have hcm:=hp.cm;unfold nxL;cases (sucL p no p.cmds).isEmpty
 ·have h1:=x07 (sucL p no p.cmds);have h2:=y16 p no p.cmds;simp only [cond_false];omega
 ·simp
theorem q95 {p:Prg} (hp:FitP p) (hs:q0h p=true) {no:Int} (hi:inS p no):∀ y∈nxL p no,inS p y:=by
 intro y hy;rcases w6g.1 hy with ⟨c,hc,_,rfl⟩ | ⟨_,rfl⟩
 ·obtain ⟨i,hil,rfl⟩:=List.getElem_of_mem hc;obtain ⟨e,hn⟩:=x1e hil;rw [<- e];exact (x3j hp hs hn hi).2.1
 ·exact hi
theorem z4a {k:Nat} (hk:1000100<=k) {p:Prg} (hp:FitP p) (hs:q0h p=true) {no:Int} (hi:inS p no) (l1:List PV):∀ (n i:Nat) (o:List Int),p.cmds.length-i<n->i<=p.cmds.length->o.length<=i ->
  y28 k n no (encW (sto p no)) o.length (q0f p.cmds) (p.cmds.length:Int) (i:Int) p.wide p.vars l1 (q0f p.cmds) (encZ o)=r68 (encZ (bif (o++sucL p no (p.cmds.drop i)).isEmpty then [no] else canI (o++sucL p no (p.cmds.drop i))))
 | 0,i,o,h,hj,ho=>by omega
 | n+1,i,o,h,hj,ho=>by
  have hcm:=hp.cm;have etk:(encZ o).take o.length=encZ o:=by rw [List.take_of_length_le (by simp)]
  rw [v3f];by_cases hlt:i<p.cmds.length
  ·have hd:decide ((i:Int)<(p.cmds.length:Int))=true:=by simpa using hlt
   have hnext:=k02 (i:=i) (by omega);obtain ⟨e,hn⟩:=x1e hlt;obtain ⟨hwl,hwk⟩:=w2t hp hs hn;rw [hd,q0n,q2v,List.getElem?_eq_getElem hlt,q0c hlt,hnext,<- e];simp only [cond_true,Option.map_some,Option.bind_some,q6f,q7,q39];rw [z64 (by omega) p (q1t hs) _ _ _ hwl hwk _ (q51 hs hi)];simp only [x7v,sucL]
   change (bif hN p (q0q p (i:Int)).wh no then _ else _)=_
   cases hh:hN p (q0q p (i:Int)).wh no
   ·simp only [cond_false,List.nil_append];exact z4a hk hp hs hi l1 n (i+1) o (by omega) (by omega) (by omega)
   ·simp only [cond_true];rw [w0a (by omega) hp hs hn _ _ _ hi];simp only [w9u];rw [v2t (by omega) hs _ _ (x3j hp hs hn hi).1];simp only [w9t];rw [q0p (by omega) (by omega),etk,q00];simp only [cond_true]
    have:=z4a hk hp hs hi l1 n (i+1) (o++[toN p (q0q p (i:Int)) no]) (by omega) (by omega) (by simp;omega)
    rw [List.length_append,List.append_assoc] at this;exact this
  ·have hd:decide ((i:Int)<(p.cmds.length:Int))=false:=by simpa using hlt
   have hol:decide (o.length<=LIM)=true:=decide_eq_true (by unfold LIM;omega);have ed:p.cmds.drop i=[]:=List.drop_eq_nil_of_le (by omega);rw [hd,ed];simp only [cond_false,sucL,List.append_nil];cases o with
   | nil=>rfl
   | cons x o=>
    have e0:(((x::o).length:Int)==0)=false:=by simp;omega
    rw [e0,etk,z3y,hol];simp only [cond_false,cond_true,Option.bind_some];rw [w19,z3y];simp only [Option.bind_some];rw [w0q];rfl
theorem y1q {k:Nat} (hk:1000200<=k) {p:Prg} (hp:FitP p) (hs:q0h p=true) {no:Int} (hi:inS p no) (l1:List PV):c68 k p.wide p.vars l1 (q0f p.cmds) no=r68 (encZ (nxL p no)):=by
 obtain ⟨k,rfl⟩:=k01 (k:=k) (by omega);have hcm:=hp.cm;rw [n68,z80 (by omega) hs _ _ hi];simp only [y90,q1j];exact z4a (k:=k) (by omega) hp hs hi l1 k 0 [] (by omega) (by omega) (by simp)
theorem sucE (p:Prg) (no:Int):∀ (i:Nat),i<=p.cmds.length->(enL p (sto p no) i (p.cmds.drop i)).map (fun j=>toN p (q0q p j) no)=sucL p no (p.cmds.drop i):=by
 intro i hi
 generalize hm:p.cmds.length-i=m
 induction m generalizing i with
 | zero=>rw [List.drop_eq_nil_of_le (by omega)];rfl
 | succ m ih=>
  have hlt:i<p.cmds.length:=by omega
  rw [q0c hlt];simp only [enL,sucL,List.map_append,ih (i+1) (by omega) (by omega)]
  congr 1
  obtain ⟨e,_⟩:=x1e hlt
  change (bif hN p p.cmds[i].wh no then [(i:Int)] else []).map _=_
  cases hN p p.cmds[i].wh no
  ·rfl
  ·simp [e]
theorem y4s {k:Nat} (hk:1000100<=k) {p:Prg} (hp:FitP p) (hs:q0h p=true) {no:Int} (hi:inS p no) (l1:List PV) (en:List Int) (hen:en.length<=100) (hin:∀ j∈en,q2u p j=true):∀ (n i:Nat) (o:List Int),en.length-i<n->i<=en.length->o.length<=i ->
  z5r k n no (encW (sto p no)) o.length (encZ en) (en.length:Int) (i:Int) p.wide p.vars l1 (q0f p.cmds) (encZ o)=r184 (encZ (bif (q1h o ((en.drop i).map fun j=>toN p (q0q p j) no)).isEmpty then [no] else q1h o ((en.drop i).map fun j=>toN p (q0q p j) no)))
 | 0,i,o,h,hj,ho=>by omega
 | n+1,i,o,h,hj,ho=>by
  have etk:(encZ o).take o.length=encZ o:=by rw [List.take_of_length_le (by simp)]
  rw [w7z,etk];by_cases hlt:i<en.length
  ·have hd:=k04 (i:=i) (l:=en) hlt;have hnext:=k02 (i:=i) (by omega);have hn:=hin _ (List.getElem_mem hlt);rw [hd,q0l hlt,q0c hlt,hnext];simp only [cond_true,Option.bind_some,q0d,List.map_cons];rw [v2i (by omega) hp hs hn _ hi];simp only [v03];rw [v2u (by omega) hs _ _ (x3j hp hs hn hi).1];simp only [v02];rw [z33 (by omega) o (by omega)];simp only [y3g,q0b];have hpl:=q7f o (toN p (q0q p en[i]) no);exact y4s hk hp hs hi l1 en hen hin n (i+1) (putI o (toN p (q0q p en[i]) no)) (by omega) (by omega) (by omega)
  ·have hd:=k03 (i:=i) (l:=en) hlt;have ed:en.drop i=[]:=List.drop_eq_nil_of_le (by omega);rw [hd,ed];cases o with
   | nil=>rfl
   | cons x o=>
    have e0:(((x::o).length:Int)==0)=false:=by simp;omega
    rw [e0];rfl
theorem z4b {k:Nat} (hk:1000200<=k) {p:Prg} (hp:FitP p) (hs:q0h p=true) {no:Int} (hi:inS p no) (l1:List PV):c184 k p.wide p.vars l1 (q0f p.cmds) no=r184 (encZ (nxL p no)):=by
 obtain ⟨k,rfl⟩:∃ j,k=j+2:=⟨k-2,by omega⟩;have hcm:=hp.cm;rw [n184,x69 (by omega) hs _ _ hi];simp only [x9v];have hen:=q8g (k:=k) (by omega) p hp (q1t hs) (sto p no) (q51 hs hi) l1 (q0f p.cmds) k 0 [] (by omega) (by omega) (by simp);rw [n231,q1j];have hen':z2a k k (encW (sto p no)) 0 (q0f p.cmds) (p.cmds.length:Int) 0 p.wide p.vars l1 (q0f p.cmds) []=_:=hen;rw [hen'];simp only [v01,List.nil_append,q0b];have hmem:∀ j∈enL p (sto p no) 0 p.cmds,q2u p j=true:=by
  intro j hj;obtain ⟨q,c,hq,_,rfl⟩:=(x55 p (sto p no) p.cmds 0 j).1 hj
  have:=(List.getElem?_eq_some_iff.1 hq).1
  simp [q2u,this]
 have hsl:=y16 p no p.cmds;have he:=sucE p no 0 (by omega);rw [List.drop_zero] at he;have hel:(enL p (sto p no) 0 p.cmds).length<=100:=by
  have:=congrArg List.length he
  rw [List.length_map] at this;omega
 have:=y4s (k:=k+1) (by omega) hp hs hi l1 _ hel hmem (k+1) 0 [] (by omega) (by omega) (by simp)
 rw [List.drop_zero,he] at this;have h':z5r (k+1) (k+1) no (encW (sto p no)) 0 (encZ (enL p (sto p no) 0 (p.cmds.drop 0))) ((enL p (sto p no) 0 (p.cmds.drop 0)).length:Int) 0 p.wide p.vars l1 (q0f p.cmds) []=_:=this;rw [h',<- w2q (l:=sucL p no p.cmds) (m:=sucL p no p.cmds) (fun x=>Iff.rfl)]
 congr 2
 unfold nxL;cases hq:(sucL p no p.cmds).isEmpty
 ·have hne:sucL p no p.cmds≠[]:=by intro h;rw [h] at hq;cases hq
  have:(canI (sucL p no p.cmds)).isEmpty=false:=by
   cases hc:canI (sucL p no p.cmds) with
   | nil=>exact absurd hc (w0j hne)
   | cons=>rfl
  rw [this]
 ·have hnil:sucL p no p.cmds=[]:=by simpa using hq
  rw [hnil,show canI ([]:List Int)=[] from List.eq_nil_of_length_eq_zero (Nat.le_zero.1 (x07 []))];rfl
theorem y59:∀ (l:List Int) (lo hi:Int),l.Pairwise (·<·)->(∀ x∈l,lo<=x /\ x<hi)->(l.length:Int)<=max 0 (hi-lo)
 | [],lo,hi,_,_=>by simp;omega
 | x::l,lo,hi,h,hb=>by
  have hx:=hb x (by simp);have h1:=List.pairwise_cons.1 h
  have:=y59 l (x+1) hi h1.2 fun y hy=>⟨by have:=h1.1 y hy;omega,(hb y (by simp [hy])).2⟩
  simp only [List.length_cons];omega
theorem y56 {p:Prg} (hs:q0h p=true) {l:List Int} (hl:l.Pairwise (·<·)) (hi:∀ x∈l,inS p x):l.length<=32:=by
 have h1:=y59 l 0 (nS p:Int) hl fun x hx=>hi x hx
 have h2:=(q3e hs).2;omega
def q1p (p:Prg):List Int->List Int
 | []=>[]
 | x::l=>nxL p x++q1p p l
theorem q81 (p:Prg):∀ (l:List Int) (y:Int),y∈q1p p l↔∃ x∈l,y∈nxL p x
 | [],y=>by simp [q1p]
 | x::l,y=>by simp [q1p,q81 p l y]
theorem z89 {k:Nat} (hk:1000100<=k) (p:Prg) (l1 l2:List PV) (n1:Nat) (t10:List PV) (t11:Int) (i:Nat) (l:List Int) (hl:l.length<=100):∀ (n j:Nat) (o:List Int),l.length-j<n->j<=l.length->o.length<=700+j ->
  z5f k n1 n o.length t10 t11 (i:Int) (encZ l) (l.length:Int) (j:Int) p.wide p.vars l1 l2 (encZ o)=z5e k n1 (q1h o (l.drop j)).length t10 t11 (IntKind.i64.wrap ((i:Int)+1)) p.wide p.vars l1 l2 (encZ (q1h o (l.drop j)))
 | 0,j,o,hn,hj,ho=>by omega
 | n+1,j,o,hn,hj,ho=>by
  have etk:(encZ o).take o.length=encZ o:=by rw [List.take_of_length_le (by simp)]
  rw [w64];by_cases hlt:j<l.length
  ·have hd:=k04 (i:=j) (l:=l) hlt;have hnext:=k02 (i:=j) (by omega);rw [hd,q0l hlt,q0c hlt,hnext,etk];simp only [cond_true,Option.bind_some,q0d];rw [z33 (by omega) o (by omega)];simp only [y3g,q0b];have hpl:=q7f o l[j];exact z89 hk p l1 l2 n1 t10 t11 i l hl n (j+1) (putI o l[j]) (by omega) (by omega) (by omega)
  ·have hd:=k03 (i:=j) (l:=l) hlt;rw [hd,List.drop_eq_nil_of_le (by omega)];rfl
theorem z88 {k:Nat} (hk:1000300<=k) {p:Prg} (hp:FitP p) (hs:q0h p=true) (l1:List PV) (l:List Int) (hl:l.length<=100) (hin:∀ x∈l,inS p x):∀ (n i:Nat) (o:List Int),l.length-i<n->i<=l.length->o.length<=6*i ->
  z5e k n o.length (encZ l) (l.length:Int) (i:Int) p.wide p.vars l1 (q0f p.cmds) (encZ o)=r125 (encZ (q1h o (q1p p (l.drop i))))
 | 0,i,o,hn,hi,ho=>by omega
 | n+1,i,o,hn,hi,ho=>by
  have etk:(encZ o).take o.length=encZ o:=by rw [List.take_of_length_le (by simp)]
  rw [w63];by_cases hlt:i<l.length
  ·have hd:=k04 (i:=i) (l:=l) hlt;have hnext:=k02 (i:=i) (by omega);have hx:=hin _ (List.getElem_mem hlt);rw [hd,q0l hlt,q0c hlt];simp only [cond_true,Option.bind_some,q0d];rw [z4b (by omega) hp hs hx];simp only [y3f,q0b];have hnl:=q5u hp l[i];have h2:=z89 (k:=k) (by omega) p l1 (q0f p.cmds) n (encZ l) (l.length:Int) i (nxL p l[i]) (by omega) k 0 o (by omega) (by omega) (by omega);have h':z5f k n k o.length (encZ l) (l.length:Int) (i:Int) (encZ (nxL p l[i])) ((nxL p l[i]).length:Int) 0 p.wide p.vars l1 (q0f p.cmds) (encZ o)=_:=h2;rw [h',hnext,List.drop_zero,q1p,x4v];have hpl:=y0a (nxL p l[i]) o;exact z88 hk hp hs l1 l hl hin n (i+1) _ (by omega) (by omega) (by omega)
  ·have hd:=k03 (i:=i) (l:=l) hlt;rw [hd,List.drop_eq_nil_of_le (by omega),etk];rfl
theorem y4h {k:Nat} (hk:1000400<=k) {p:Prg} (hp:FitP p) (hs:q0h p=true) (l1:List PV) (l:List Int) (hl:l.length<=100) (hin:∀ x∈l,inS p x):c125 k p.wide p.vars l1 (q0f p.cmds) (encZ l)=r125 (encZ (q1h [] (q1p p l))):=by
 obtain ⟨k,rfl⟩:=k01 (k:=k) (by omega);rw [n125,q0b];exact z88 (k:=k) (by omega) hp hs l1 l hl hin k 0 [] (by omega) (by omega) (by simp)
theorem v2z {k:Nat} (hk:1<=k) (l:List Int) (hl:l.length<=1000):c57 k (encZ l)=r57 (encZ l):=by
 obtain ⟨k,rfl⟩:=k01 (k:=k) (by omega);rw [n57,q0b,Nat.zero_add,q0p (by omega) (by omega),List.nil_append,List.take_of_length_le (by simp)];rfl
def grow (p:Prg) (o:List Int):List Int:=q1h o (q1h [] (q1p p o))
theorem y79 (a b:List Int):q15 a b=true↔∃ y∈a,y∈b:=by simp [q15]
theorem z7v {p:Prg} (hs:q0h p=true):kindT p.wide p.vars p.start=2:=by
 have:=q1t hs
 simp only [q11,Bool.and_eq_true,beq_iff_eq] at this;exact this.1.1.1
theorem y4d (m:Nat):iota m=(List.range' 0 m).map fun (i:Nat)=>(i:Int):=by rw [iota,List.range_eq_range']
theorem w3e (v:List Int):∃ g:Int->Int,v=(iota v.length).map g /\ ∀ i (h:i<v.length),g (i:Int)=v[i]:=by
 refine ⟨fun x=>v.getD x.toNat 0,?_,?_⟩
 ·apply List.ext_getElem
  ·simp [q2d]
  ·intro i h1 h2;simp [iota,h1]
 ·intro i h;simp [h]
def hasI (some1:List Int) (j:Int):Int:=bif some1.contains j then 1 else 0
theorem z3t (some1:List Int) (j:Int):hasI some1 j=0∨hasI some1 j=1:=by
 unfold hasI;cases some1.contains j
 · exact .inl rfl
 · exact .inr rfl
theorem x6 {some1:List Int} {x y:Int}:hasI some1 x=hasI some1 y↔some1.contains x=some1.contains y:=by
 unfold hasI;cases some1.contains x <;> cases some1.contains y <;> simp
theorem x1f (some1:List Int) (g:Int->Int):∀ (n i:Nat),cutK some1 ((List.range' i n).map fun (j:Nat)=>g (j:Int)) i=(List.range' i n).map fun (j:Nat)=>2*g (j:Int)+hasI some1 (j:Int)
 | 0,i=>rfl
 | n+1,i=>by
  rw [List.range'_succ,List.map_cons,List.map_cons,cutK,x1f some1 g n (i+1)]
  congr 1
  unfold hasI;cases some1.contains (i:Int) <;> simp
theorem w2v (some1:List Int) (g:Int->Int) (n:Nat):cutV some1 ((iota n).map g)=cls ((iota n).map fun x=>2*g x+hasI some1 x) []:=by
 have e1:(iota n).map g=(List.range' 0 n).map fun (j:Nat)=>g (j:Int):=by rw [y4d,List.map_map];rfl
 have e2:(iota n).map (fun x=>2*g x+hasI some1 x)=(List.range' 0 n).map fun (j:Nat)=>2*g (j:Int)+hasI some1 (j:Int):=by rw [y4d,List.map_map];rfl
 rw [cutV,e1,e2,x1f]
theorem w5p (some1:List Int) (g:Int->Int) (x y:Int):2*g x+hasI some1 x=2*g y+hasI some1 y↔g x=g y /\ some1.contains x=some1.contains y:=by
 rw [<- x6];rcases z3t some1 x with h1 | h1 <;> rcases z3t some1 y with h2 | h2 <;> rw [h1,h2] <;> omega
theorem x9b:∀ n:Nat,q04 (List.replicate n 0) 0=true
 | 0=>rfl
 | n+1=>by
  have h1:∀ n:Nat,q04 (List.replicate n 0) 1=true:=by
   intro n
   induction n with
   | zero=>rfl
   | succ n ih=>
    rw [List.replicate_succ];simp only [q04];exact ih
  rw [List.replicate_succ];simp only [q04];exact h1 n
def inV (n:Nat) (some1:List Int):List Int:=(iota n).map (hasI some1)
theorem w5z (n:Nat) (l:List Int) (a:Int) (h0:0<=a) (h1:a<(n:Int)):(inV n l).set a.toNat 1=inV n (l++[a]):=by
 apply List.ext_getElem
 ·simp [inV,q2d]
 ·intro i h2 h3;have hi:i<n:=by simpa [inV,q2d] using h3
  rw [List.getElem_set];simp only [inV,iota,List.getElem_map,List.getElem_range];split
  ·rename_i e
   have:(i:Int)=a:=by omega
   rw [this];simp [hasI]
  ·rename_i e;have hne:(i:Int)≠a:=by omega
   have hc:(l++[a]).contains (i:Int)=l.contains (i:Int):=by
    rw [Bool.eq_iff_iff,List.contains_iff_mem,List.contains_iff_mem,List.mem_append,List.mem_singleton];exact ⟨fun h=>h.resolve_right hne,.inl⟩
   unfold hasI;rw [hc]
theorem z2w (n:Nat) (l:List Int):(inV n l).length=n:=by simp [inV,q2d]
theorem w5y {n:Nat} (hn:n<=100) (l:List Int):OkV (inV n l):=by
 refine ⟨by rw [z2w];exact hn,fun x hx=>?_⟩;obtain ⟨y,_,rfl⟩:=List.mem_map.1 hx;rcases z3t l y with h | h <;> rw [h] <;> omega
theorem y7n {k:Nat} (hk:1020<=k) {v:List Int} (hv:OkV v) (u:List PV) (some1:List Int) (hin:∀ x∈some1,0<=x /\ x<(v.length:Int)) (hs:some1.length<=1000):∀ (n i:Nat),some1.length-i<n->i<=some1.length ->
  y29 k n (encZ some1) (some1.length:Int) (i:Int) (encZ v) u v.length (encZ (inV v.length (some1.take i)))=r79 (encZ (cls (v.zip (inV v.length some1)) []))
 | 0,i,h,hi=>by omega
 | n+1,i,h,hi=>by
  rw [v3j];have hvl:=hv.len;by_cases hlt:i<some1.length
  ·have hd:=k04 (i:=i) (l:=some1) hlt;have hnext:=k02 (i:=i) (by omega);have hr:=hin _ (List.getElem_mem hlt);have hg:(decide ((0:Int)<=some1[i])&&decide (some1[i]<(v.length:Int)))=true:=by
    rw [decide_eq_true hr.1,decide_eq_true hr.2];rfl
   have hx:∃ z,(encZ (inV v.length (some1.take i)))[0+(some1[i]).toNat]? = some z:=by
    rw [Nat.zero_add];exact ⟨_,List.getElem?_eq_getElem (by rw [q0b,z2w];omega)⟩
   obtain ⟨z,hz⟩:=hx;rw [hd,q0l hlt,hnext];simp only [cond_true,Option.bind_some,q0d];rw [hg,hz];simp only [cond_true,Option.bind_some,Nat.zero_add];rw [q3b,w5z _ _ _ hr.1 hr.2,<- List.take_succ_eq_append_getElem hlt];exact y7n hk hv u some1 hin hs n (i+1) (by omega) (by omega)
  ·have hd:=k03 (i:=i) (l:=some1) hlt;have hf:some1.take i=some1:=List.take_of_length_le (by omega);have htk:(encZ (inV v.length some1)).take v.length=encZ (inV v.length some1):=List.take_of_length_le (by simp [z2w]);rw [hd,hf,htk,x19 (by omega) hv (w5y (by omega) some1) (z2w _ _).symm];simp only [w44,cond_false]
theorem x7e (v some1:List Int):cls (v.zip (inV v.length some1)) []=cutV some1 v:=by
 obtain ⟨g,h1,_⟩:=w3e v;have e:v.zip (inV v.length some1)=(iota v.length).map fun x=>(g x,hasI some1 x):=by
  conv=>lhs;arg 1;rw [h1]
  exact x3q _ _ _
 rw [e]
 conv=>rhs;rw [h1]
 rw [w2v];refine x1c _ _ _ fun x hx y hy=>?_
 rw [Prod.mk.injEq,w5p,x6]
def stF (c:Int):List Int->Nat->List Int
 | [],_=>[]
 | x::l,i=>bif x==c then (i:Int)::stF c l (i+1) else stF c l (i+1)
theorem y6n (c:Int):∀ (l:List Int) (i:Nat) (x:Int),x∈stF c l i↔∃ j,∃ h:j<l.length,x=((i+j:Nat):Int) /\ l[j]=c
 | [],i,x=>by simp [stF]
 | y::l,i,x=>by
  have key:(x∈stF c (y::l) i)↔(y=c /\ x=(i:Int))∨x∈stF c l (i+1):=by
   rw [stF];by_cases h:y=c
   ·have h1:(y==c)=true:=by simpa using h
    rw [h1,cond_true,List.mem_cons];constructor
    ·rintro (h2 | h2)
     ·exact .inl ⟨h,h2⟩
     ·exact .inr h2
    ·rintro (⟨_,h2⟩ | h2)
     ·exact .inl h2
     ·exact .inr h2
   ·have h1:(y==c)=false:=by simpa using h
    rw [h1,cond_false];exact ⟨.inr,fun h2=>h2.resolve_left fun h3=>h h3.1⟩
  rw [key,y6n c l (i+1)];constructor
  ·rintro (⟨h1,h2⟩ | ⟨j,hj,h1,h2⟩)
   ·exact ⟨0,by simp,by simpa using h2,h1⟩
   ·exact ⟨j+1,by simp;omega,by rw [h1];congr 1;omega,h2⟩
  ·rintro ⟨j,hj,h1,h2⟩
   cases j with
   | zero=>exact .inl ⟨h2,by simpa using h1⟩
   | succ j=>exact .inr ⟨j,by simpa using hj,by rw [h1];congr 1;omega,h2⟩
theorem x68 (c:Int):∀ (l:List Int) (i:Nat),(stF c l i).length<=l.length
 | [],i=>by simp [stF]
 | y::l,i=>by
  have:=x68 c l (i+1)
  rw [stF];cases (y==c) <;> simp <;> omega
def stV (v:List Int) (c:Int):List Int:=stF c v 0
theorem q8n {k:Nat} (c:Int) (v:List Int) (hv:v.length<=1000):∀ (n i:Nat) (o:List Int),v.length-i<n->i<=v.length->o.length<=i ->
  z5o k n c o.length (encZ v) (v.length:Int) (i:Int) (encZ o)=r173 (encZ (o++stF c (v.drop i) i))
 | 0,i,o,h,hi,ho=>by omega
 | n+1,i,o,h,hi,ho=>by
  rw [w7r,q0v];by_cases hlt:i<v.length
  ·have hd:=k04 (i:=i) (l:=v) hlt;have hnext:=k02 (i:=i) (by omega);rw [hd,q0l hlt,q0c hlt,hnext];simp only [cond_true,Option.bind_some,q0d,stF];cases (v[i]==c)
   ·exact q8n c v hv n (i+1) o (by omega) (by omega) (by omega)
   ·rw [q0p (by omega) (by omega),q00]
    have:=q8n (k:=k) c v hv n (i+1) (o++[(i:Int)]) (by omega) (by omega) (by simp;omega)
    rw [List.length_append,List.append_assoc] at this;exact this
  ·have hd:=k03 (i:=i) (l:=v) hlt;rw [hd,List.drop_eq_nil_of_le (by omega)];simp [stF]
theorem y0j {k:Nat} (hk:1010<=k) {v:List Int} (hv:v.length<=1000) (c:Int):c173 k (encZ v) c=r173 (encZ (stV v c)):=by
 obtain ⟨k,rfl⟩:=k01 (k:=k) (by omega);rw [n173,q0b]
 have:=q8n (k:=k) c v hv k 0 [] (by omega) (by omega) (by simp)
 simpa [stV,encZ] using this
def q0m (l:List (List Int)):List PV:=l.map fun z=>.row 0 0 (encZ z)
@[simp] theorem q1v (l:List (List Int)):(q0m l).length=l.length:=by simp [q0m]
theorem q13 (l:List (List Int)) (i:Nat):(q0m l)[i]? = (l[i]?).map fun z=>.row 0 0 (encZ z):=by simp [q0m]
theorem q6u (l:List (List Int)) (x:List Int):q0m l++[.row 0 0 (encZ x)]=q0m (l++[x]):=by simp [q0m]
def q6v (p:Prg):Nat->Nat->List (List Int)
 | 0,i=>[]
 | m+1,i=>nxL p (i:Int)::q6v p m (i+1)
def q2i (p:Prg):List (List Int):=q6v p (nS p) 0
theorem z3r (p:Prg):∀ (m i:Nat),(q6v p m i).length=m
 | 0,i=>rfl
 | m+1,i=>by simp [q6v,z3r p m]
theorem y4 (p:Prg):∀ (m i j:Nat),j<m->(q6v p m i)[j]? = some (nxL p ((i+j:Nat):Int))
 | 0,i,j,h=>by omega
 | m+1,i,0,h=>by simp [q6v]
 | m+1,i,j+1,h=>by
  rw [q6v,List.getElem?_cons_succ,y4 p m (i+1) j (by omega)]
  congr 3
  omega
theorem y4a {k:Nat} (hk:1000300<=k) {p:Prg} (hp:FitP p) (hs:q0h p=true) (l1:List PV):∀ (m n i:Nat) (o:List (List Int)),m<n->i+m=nS p->o.length=i ->
  y2a k n o.length (nS p:Int) (i:Int) p.wide p.vars l1 (q0f p.cmds) (q0m o)=r109 (q0m (o++q6v p m i))
 | m,0,i,o,hn,hm,ho=>by omega
 | 0,n+1,i,o,hn,hm,ho=>by
  have hd:decide ((i:Int)<(nS p:Int))=false:=by simp;omega
  have etk:(q0m o).take o.length=q0m o:=by rw [List.take_of_length_le (by simp)]
  rw [x6s,hd,etk,q6v,List.append_nil];rfl
 | m+1,n+1,i,o,hn,hm,ho=>by
  have hle:=(q3e hs).2;have hd:decide ((i:Int)<(nS p:Int))=true:=by simp;omega
  have hnext:=k02 (i:=i) (by omega);have etk:(q0m o).take o.length=q0m o:=by rw [List.take_of_length_le (by simp)]
  rw [x6s,hd,y1q (by omega) hp hs ⟨by omega,by omega⟩,hnext,etk];simp only [cond_true,x7u];rw [q0p (by omega) (by omega),q6u];simp only [cond_true]
  have:=y4a hk hp hs l1 m n (i+1) (o++[nxL p (i:Int)]) (by omega) (by omega) (by simp;omega)
  rw [List.length_append,List.append_assoc] at this;exact this
theorem x1t {k:Nat} (hk:1000400<=k) {p:Prg} (hp:FitP p) (hs:q0h p=true) (l1:List PV):c109 k p.wide p.vars l1 (q0f p.cmds)=r109 (q0m (q2i p)):=by
 obtain ⟨k,rfl⟩:=k01 (k:=k) (by omega);have hle:=(q3e hs).2;rw [n109,z2z (by omega) hs];simp only [z2d];exact y4a (k:=k) (by omega) hp hs l1 (nS p) k 0 [] (by omega) (by omega) rfl
def q6s (z:List Int):PV:=bif z.isEmpty then .row 0 2 [] else .row 0 0 (encZ z)
def encF (l:List (List Int)):List PV:=l.map q6s
@[simp] theorem v4c (l:List (List Int)):(encF l).length=l.length:=by simp [encF]
theorem y1e (l:List (List Int)) (i:Nat):(encF l)[i]? = (l[i]?).map q6s:=by simp [encF]
theorem z6w (z:List Int):(q6s z).atRow 0 0=some (encZ z):=by
 unfold q6s;cases z with
 | nil=>rfl
 | cons x z=>rfl
theorem x1k (l:List (List Int)) (i:Nat) (z:List Int) (hz:z≠[]):(encF l).set i (.row 0 0 (encZ z))=encF (l.set i z):=by
 have e:PV.row 0 0 (encZ z)=q6s z:=by
  unfold q6s;cases z with
  | nil=>exact absurd rfl hz
  | cons x z=>rfl
 rw [e,encF,encF,List.map_set]
def q10 (v:Int):List Int->List (List Int)->List (List Int)
 | [],o=>o
 | w::l,o=>q10 v l (o.set w.toNat ((o[w.toNat]?).getD []++[v]))
def q5e:Nat->List (List Int)->List (List Int)->List (List Int)
 | _,[],o=>o
 | i,z::l,o=>q5e (i+1) l (q10 (i:Int) z o)
def q1z (g:List (List Int)):List (List Int):=q5e 0 g (List.replicate g.length [])
theorem q5 (v:Int):∀ (l:List Int) (o:List (List Int)),(q10 v l o).length=o.length
 | [],o=>rfl
 | w::l,o=>by rw [q10,q5 v l,List.length_set]
theorem y8w:∀ (l:List (List Int)) (i:Nat) (o:List (List Int)),(q5e i l o).length=o.length
 | [],i,o=>rfl
 | z::l,i,o=>by rw [q5e,y8w l,q5]
def atL (o:List (List Int)) (w:Nat):List Int:=(o[w]?).getD []
theorem z99 (v:Int):∀ (l:List Int) (o:List (List Int)),(∀ x∈l,0<=x /\ x.toNat<o.length)->∀ (w:Nat) (y:Int),y∈atL (q10 v l o) w↔y∈atL o w∨(y=v /\ (w:Int)∈l)
 | [],o,hl,w,y=>by simp [q10]
 | x::l,o,hl,w,y=>by
  obtain ⟨h0,h1⟩:=hl x (by simp);rw [q10,z99 v l _ (fun z hz=>by rw [List.length_set];exact hl z (by simp [hz])) w y];have e:atL (o.set x.toNat ((o[x.toNat]?).getD []++[v])) w=if x.toNat=w then atL o w++[v] else atL o w:=by
   unfold atL;rw [List.getElem?_set];by_cases he:x.toNat=w
   ·subst he;simp [h1]
   ·simp [he]
  rw [e];have hw:(w:Int)=x↔x.toNat=w:=by omega
  by_cases he:x.toNat=w
  ·rw [if_pos he];have hwx:=hw.2 he;rw [List.mem_append,List.mem_singleton,hwx,List.mem_cons];constructor
   ·rintro ((h | h) | ⟨h,_⟩)
    ·exact .inl h
    ·exact .inr ⟨h,.inl rfl⟩
    ·exact .inr ⟨h,.inl rfl⟩
   ·rintro (h | ⟨h,_⟩)
    ·exact .inl (.inl h)
    ·exact .inl (.inr h)
  ·rw [if_neg he];have hne:¬ (w:Int)=x:=fun h=>he (hw.1 h)
   simp [hne]
theorem y8x:∀ (l:List (List Int)) (i:Nat) (o:List (List Int)),(∀ z∈l,∀ x∈z,0<=x /\ x.toNat<o.length)->∀ (w:Nat) (y:Int),y∈atL (q5e i l o) w↔y∈atL o w∨∃ j z,l[j]? = some z /\ y=((i+j:Nat):Int) /\ (w:Int)∈z
 | [],i,o,hl,w,y=>by simp [q5e]
 | z::l,i,o,hl,w,y=>by
  rw [q5e,y8x l (i+1) _ (fun u hu=>by rw [q5];exact hl u (by simp [hu])) w y,z99 (i:Int) z o (hl z (by simp)) w y];constructor
  ·rintro ((h | ⟨h1,h2⟩) | ⟨j,u,h1,h2,h3⟩)
   ·exact .inl h
   ·exact .inr ⟨0,z,rfl,by simpa using h1,h2⟩
   ·exact .inr ⟨j+1,u,by simpa using h1,by rw [h2];congr 1;omega,h3⟩
  ·rintro (h | ⟨j,u,h1,h2,h3⟩)
   ·exact .inl (.inl h)
   ·cases j with
    | zero=>
     simp at h1;subst h1;exact .inl (.inr ⟨by simpa using h2,h3⟩)
    | succ j=>exact .inr ⟨j,u,by simpa using h1,by rw [h2];congr 1;omega,h3⟩
theorem z71 {g:List (List Int)} (hg:∀ z∈g,∀ x∈z,0<=x /\ x.toNat<g.length) (w:Nat) (y:Int):y∈atL (q1z g) w↔∃ (j:Nat) (z:List Int),g[j]? = some z /\ y=(j:Int) /\ (w:Int)∈z:=by
 unfold q1z;rw [y8x g 0 _ (by simpa using hg) w y];have e:atL (List.replicate g.length ([]:List Int)) w=[]:=by
  unfold atL;rw [List.getElem?_replicate]
  split <;> rfl
 rw [e];simp
theorem q8m (v:Int) (b:Nat):∀ (l:List Int) (o:List (List Int)),(∀ z∈o,z.length<=b)->∀ z∈q10 v l o,z.length<=b+l.length
 | [],o,h=>by simpa [q10] using h
 | x::l,o,h=>by
  intro z hz;rw [q10] at hz
  have:=q8m v (b+1) l _ (fun u hu=>by
   rcases List.mem_or_eq_of_mem_set hu with hu | rfl
   ·have:=h u hu;omega
   ·cases ho:o[x.toNat]? with
    | none=>simp
    | some t=>
     have:=h t (List.mem_of_getElem? ho)
     simp;omega) z hz
  simp only [List.length_cons];omega
theorem y5l {k:Nat} (n1 i:Nat) (g:List PV) (t12:Int) (l:List Int) (hl:l.length<=1000):∀ (n j:Nat) (o:List (List Int)),l.length-j<n->j<=l.length->(∀ x∈l,0<=x /\ x.toNat<o.length)->(∀ z∈o,z.length<=100000+j) ->
  z6b k n1 n o.length (i:Int) g t12 (i:Int) (encZ l) (l.length:Int) (j:Int) (encF o)=z6a k n1 (q10 (i:Int) (l.drop j) o).length g t12 (IntKind.i64.wrap ((i:Int)+1)) (encF (q10 (i:Int) (l.drop j) o))
 | 0,j,o,hn,hj,ho,hb=>by omega
 | n+1,j,o,hn,hj,ho,hb=>by
  rw [w8v];by_cases hlt:j<l.length
  ·have hd:=k04 (i:=j) (l:=l) hlt;have hnext:=k02 (i:=j) (by omega);obtain ⟨h0,h1⟩:=ho _ (List.getElem_mem hlt);have hin:(decide ((0:Int)<=l[j])&&decide (l[j]<(o.length:Int)))=true:=by simp;omega
   have hget:(encF o)[0+l[j].toNat]? = some (q6s o[l[j].toNat]):=by rw [Nat.zero_add,y1e,List.getElem?_eq_getElem h1];rfl
   have hz:=hb _ (List.getElem_mem h1);rw [hd,q0l hlt,q0c hlt,hnext];simp only [cond_true,Option.bind_some,q0d];rw [hin,hget];simp only [cond_true,Option.bind_some,z6w,q0b];rw [q0p (by omega) (by omega),q00];have e1:((some (0+l[j].toNat):Option Nat)==some (0+l[j].toNat))=true:=by simp
   have e2:decide (o[l[j].toNat].length+1<=(encZ (o[l[j].toNat]++[(i:Int)])).length)=true:=by simp
   have e3:(encZ (o[l[j].toNat]++[(i:Int)])).take (o[l[j].toNat].length+1)=encZ (o[l[j].toNat]++[(i:Int)]):=by rw [List.take_of_length_le (by simp)]
   rw [e1,e2,e3,Nat.zero_add,x1k _ _ _ (by simp),q10,List.getElem?_eq_getElem h1];simp only [cond_true,Bool.and_self,Option.getD_some]
   have:=y5l (k:=k) n1 i g t12 l hl n (j+1) (o.set l[j].toNat (o[l[j].toNat]++[(i:Int)])) (by omega) (by omega) (fun x hx=>by rw [List.length_set];exact ho x hx) (fun z hz=>by
    rcases List.mem_or_eq_of_mem_set hz with hz | rfl
    ·have:=hb z hz;omega
    ·simp;omega)
   rw [List.length_set] at this;exact this
  ·have hd:=k03 (i:=j) (l:=l) hlt;rw [hd,List.drop_eq_nil_of_le (by omega)];rfl
theorem y5k {k:Nat} (hk:1100<=k) (g:List (List Int)) (hgl:g.length<=100) (hg:∀ z∈g,z.length<=1000 /\ ∀ x∈z,0<=x /\ x.toNat<g.length):∀ (n i:Nat) (o:List (List Int)),g.length-i<n->i<=g.length->o.length=g.length->(∀ z∈o,z.length<=1000*i) ->
  z6a k n o.length (q0m g) (g.length:Int) (i:Int) (encF o)=r248 (encF (q5e i (g.drop i) o))
 | 0,i,o,hn,hi,ho,hb=>by omega
 | n+1,i,o,hn,hi,ho,hb=>by
  rw [w8u];by_cases hlt:i<g.length
  ·have hd:=k04 (i:=i) (l:=g) hlt;have hnext:=k02 (i:=i) (by omega);obtain ⟨h1,h2⟩:=hg _ (List.getElem_mem hlt);rw [hd,q0n,q13,List.getElem?_eq_getElem hlt,q0c hlt];simp only [cond_true,Option.map_some,Option.bind_some,q0u,q0b];have h3:=y5l (k:=k) n i (q0m g) (g.length:Int) g[i] h1 k 0 o (by omega) (by omega) (fun x hx=>by rw [ho];exact h2 x hx) (fun z hz=>by have:=hb z hz;omega);have h':z6b k n k o.length (i:Int) (q0m g) (g.length:Int) (i:Int) (encZ g[i]) (g[i].length:Int) 0 (encF o)=_:=h3;rw [h',hnext,List.drop_zero,q5e];exact y5k hk g hgl hg n (i+1) _ (by omega) (by omega) (by rw [q5];exact ho) (fun z hz=>by
    have:=q8m (i:Int) (1000*i) g[i] o hb z hz
    omega)
  ·have hd:=k03 (i:=i) (l:=g) hlt;have etk:(encF o).take o.length=encF o:=by rw [List.take_of_length_le (by simp)]
   rw [hd,List.drop_eq_nil_of_le (by omega),etk];rfl
theorem w2f {k:Nat} (hk:1200<=k) (g:List (List Int)) (hgl:g.length<=100) (hg:∀ z∈g,z.length<=1000 /\ ∀ x∈z,0<=x /\ x.toNat<g.length):c248 k (q0m g)=r248 (encF (q1z g)):=by
 obtain ⟨k,rfl⟩:=k01 (k:=k) (by omega);rw [n248,q1v];have e:(((g.length:Int)==(g.length:Int))&&decide ((0:Int)<=(g.length:Int))&&decide (g.length*24<=LIM)&&decide (g.length<=LIM))=true:=by
  have h1:decide (g.length*24<=LIM)=true:=decide_eq_true (by unfold LIM;omega);have h2:decide (g.length<=LIM)=true:=decide_eq_true (by unfold LIM;omega);rw [h1,h2];simp
 have e2:List.replicate g.length (PV.row 0 2 [])=encF (List.replicate g.length []):=by simp [encF,q6s]
 rw [e,e2]
 have:=y5k (k:=k) (by omega) g hgl hg k 0 (List.replicate g.length []) (by omega) (by omega) (by simp) (fun z hz=>by rw [(List.mem_replicate.1 hz).2];simp)
 rw [List.length_replicate,List.drop_zero] at this;exact this
def dAt (d:List Int) (v:Int):Int:=(d[v.toNat]?).getD (-1)
def inG (N:Nat) (v:Int):Prop:=0<=v /\ v.toNat<N
inductive Way (g:List (List Int)) (some:List Int):Nat->Int->Prop
 | start (v:Int) (h:v∈some):Way g some 0 v
 | step (n:Nat) (v w:Int) (h:Way g some n v) (hw:w∈atL g v.toNat):Way g some (n+1) w
def bIn (h:Int):List Int->List Int->List Int->List Int × List Int
 | [],d,q=>(d,q)
 | w::l,d,q=>bif decide (dAt d w<0) then bIn h l (d.set w.toNat (dAt d h+1)) (q++[w]) else bIn h l d q
def bOut (g:List (List Int)):Nat->List Int->List Int->List Int
 | _,d,[]=>d
 | 0,d,_=>d
 | m+1,d,h::t=>bOut g m (bIn h (atL g h.toNat) d (h::t)).1 ((bIn h (atL g h.toNat) d (h::t)).2.drop 1)
def bSt:List Int->List Int->List Int
 | [],d=>d
 | v::l,d=>bSt l (d.set v.toNat 0)
def q2a (g:List (List Int)) (some:List Int):List Int:=bOut g (some.length+g.length) (bSt some (List.replicate g.length (-1))) some
theorem q9i {d:List Int} {w:Int} (hw:inG d.length w) (x:Int) {v:Int} (hv:0<=v):dAt (d.set w.toNat x) v=if v=w then x else dAt d v:=by
 obtain ⟨h0,h1⟩:=hw;unfold dAt;by_cases e:v=w
 · subst e;rw [List.getElem?_set_self h1,if_pos rfl];rfl
 · rw [List.getElem?_set_ne (by omega),if_neg e]
def negs (d:List Int):Nat:=d.countP fun x=>decide (x<0)
theorem x2d:∀ {d:List Int} {i:Nat} (x:Int),i<d.length->(d[i]?).getD (-1)<0->0<=x->negs (d.set i x)+1=negs d
 | [],i,x,h,_,_=>by simp at h
 | a::d,0,x,h,h1,h2=>by
  simp at h1;simp only [List.set_cons_zero,negs,List.countP_cons];rw [if_neg (by simp;omega),if_pos (by simpa using h1)]
 | a::d,i+1,x,h,h1,h2=>by
  have:=x2d (d:=d) (i:=i) x (by simpa using h) (by simpa using h1) h2
  simp only [List.set_cons_succ,negs,List.countP_cons] at this ⊢;omega
structure BfsI (g:List (List Int)) (some d q:List Int):Prop where
 len:d.length=g.length
 rng:∀ v∈q,inG g.length v
 snd:∀ v,inG g.length v->dAt d v=-1∨(0<=dAt d v /\ Way g some (dAt d v).toNat v)
 st:∀ v∈some,dAt d v=0
 vis:∀ v∈q,0<=dAt d v
 srt:q.Pairwise (fun a b=>dAt d a<=dAt d b)
 bnd:∀ h t,q=h::t->∀ v,inG g.length v->dAt d v<=dAt d h+1
 don:∀ v,inG g.length v->0<=dAt d v->v∉q->∀ w∈atL g v.toNat,0<=dAt d w /\ dAt d w<=dAt d v+1
theorem q53 {g:List (List Int)} {some:List Int} (hg:∀ (i:Nat) (x:Int),x∈atL g i->inG g.length x) (hs:∀ x∈some,inG g.length x) (h:Int):∀ (l d t:List Int),BfsI g some d (h::t)->(∀ w∈l,w∈atL g h.toNat) ->
  ∃ t',(bIn h l d (h::t)).2=h::t' /\ BfsI g some (bIn h l d (h::t)).1 (h::t') /\ (∀ v,inG g.length v->0<=dAt d v->dAt (bIn h l d (h::t)).1 v=dAt d v) /\ (∀ w∈l,0<=dAt (bIn h l d (h::t)).1 w) /\ negs (bIn h l d (h::t)).1+t'.length=negs d+t.length
 | [],d,t,hI,hl=>⟨t,rfl,hI,fun _ _ _=>rfl,by simp,rfl⟩
 | w::l,d,t,hI,hl=>by
  have hh:=hI.vis h (by simp);have hhr:=hI.rng h (by simp);have hwr:inG g.length w:=hg _ _ (hl w (by simp));have hwd:inG d.length w:=by rw [hI.len];exact hwr
  rw [bIn];by_cases hc:dAt d w<0
  ·have e:decide (dAt d w<0)=true:=by simpa using hc
   rw [e];simp only [cond_true];have key:∀ v,inG g.length v->dAt (d.set w.toNat (dAt d h+1)) v=if v=w then dAt d h+1 else dAt d v:=fun v hv=>q9i hwd _ hv.1
   have old:∀ v,inG g.length v->0<=dAt d v->dAt (d.set w.toNat (dAt d h+1)) v=dAt d v:=by
    intro v hv h0;rw [key v hv,if_neg (by rintro rfl;omega)]
   have hI2:BfsI g some (d.set w.toNat (dAt d h+1)) (h::(t++[w])):=by
    refine ⟨by rw [List.length_set];exact hI.len,?_,?_,?_,?_,?_,?_,?_⟩
    ·intro v hv;rcases List.mem_cons.1 hv with rfl | hv
     ·exact hhr
     ·rcases List.mem_append.1 hv with hv | hv
      ·exact hI.rng v (by simp [hv])
      ·rw [List.mem_singleton.1 hv];exact hwr
    ·intro v hv;rw [key v hv];by_cases e1:v=w
     ·subst e1;rw [if_pos rfl];right;refine ⟨by omega,?_⟩;rcases hI.snd h hhr with h1 | ⟨_,h1⟩
      ·omega
      ·have:=Way.step _ _ v h1 (hl v (by simp))
       rwa [show (dAt d h).toNat+1=(dAt d h+1).toNat by omega] at this
     ·rw [if_neg e1];exact hI.snd v hv
    ·intro v hv;rw [old v (hs v hv) (by rw [hI.st v hv];omega)];exact hI.st v hv
    ·intro v hv;rcases List.mem_cons.1 hv with rfl | hv
     ·rw [old v hhr hh];exact hh
     ·rcases List.mem_append.1 hv with hv | hv
      ·have h1:=hI.vis v (by simp [hv]);rw [old v (hI.rng v (by simp [hv])) h1];exact h1
      ·rw [List.mem_singleton.1 hv,key w hwr,if_pos rfl];omega
    ·rw [<- List.cons_append,List.pairwise_append];refine ⟨?_,by simp,?_⟩
     ·refine hI.srt.imp_of_mem ?_;intro a b ha hb hab;rw [old a (hI.rng a ha) (hI.vis a ha),old b (hI.rng b hb) (hI.vis b hb)];exact hab
     ·intro a ha b hb;rw [List.mem_singleton.1 hb,key w hwr,if_pos rfl,old a (hI.rng a ha) (hI.vis a ha)];exact hI.bnd h t rfl a (hI.rng a ha)
    ·intro h' t' he v hv;injection he with he _
     subst he;rw [old h hhr hh,key v hv];by_cases e1:v=w
     ·rw [if_pos e1];omega
     ·rw [if_neg e1];exact hI.bnd h t rfl v hv
    ·intro v hv h0 hn x hx;have hvw:v≠w:=by rintro rfl;exact hn (by simp)
     have hvq:v∉h::t:=by
      intro hm;rcases List.mem_cons.1 hm with rfl | hm
      ·exact hn (by simp)
      ·exact hn (by simp [hm])
     rw [key v hv,if_neg hvw] at h0 ⊢;obtain ⟨h1,h2⟩:=hI.don v hv h0 hvq x hx;rw [old x (hg _ _ hx) h1];exact ⟨h1,h2⟩
   obtain ⟨t',r1,r2,r3,r4,r5⟩:=q53 hg hs h l _ (t++[w]) hI2 (fun x hx=>hl x (by simp [hx]));have hq:(h::t)++[w]=h::(t++[w]):=rfl;rw [hq];refine ⟨t',r1,r2,fun v hv h0=>?_,fun x hx=>?_,?_⟩
   ·rw [r3 v hv (by rw [old v hv h0];exact h0),old v hv h0]
   ·rcases List.mem_cons.1 hx with rfl | hx
    ·rw [r3 x hwr (by rw [key x hwr,if_pos rfl];omega),key x hwr,if_pos rfl];omega
    ·exact r4 x hx
   ·have:=x2d (d:=d) (i:=w.toNat) (dAt d h+1) hwd.2 hc (by omega)
    rw [r5,List.length_append,List.length_singleton];omega
  ·have e:decide (dAt d w<0)=false:=by simpa using hc
   rw [e];simp only [cond_false];obtain ⟨t',r1,r2,r3,r4,r5⟩:=q53 hg hs h l d t hI (fun x hx=>hl x (by simp [hx]));refine ⟨t',r1,r2,r3,fun x hx=>?_,r5⟩;rcases List.mem_cons.1 hx with rfl | hx
   ·rw [r3 x hwr (by omega)];omega
   ·exact r4 x hx
theorem bPop {g:List (List Int)} {some:List Int} {h:Int} {d t:List Int} (hg:∀ (i:Nat) (x:Int),x∈atL g i->inG g.length x) (hI:BfsI g some d (h::t)) (hd:∀ w∈atL g h.toNat,0<=dAt d w):BfsI g some d t:=by
 have hs:=List.pairwise_cons.1 hI.srt;refine ⟨hI.len,fun v hv=>hI.rng v (by simp [hv]),hI.snd,hI.st,fun v hv=>hI.vis v (by simp [hv]),hs.2,?_,?_⟩
 ·rintro h' t' rfl v hv
  have h1:=hI.bnd h _ rfl v hv;have h2:=hs.1 h' (by simp);omega
 ·intro v hv h0 hn w hw;by_cases e:v=h
  ·subst e;exact ⟨hd w hw,hI.bnd v t rfl w (hg _ _ hw)⟩
  ·exact hI.don v hv h0 (by simp [e,hn]) w hw
theorem y7h {g:List (List Int)} {some:List Int} (hg:∀ (i:Nat) (x:Int),x∈atL g i->inG g.length x) (hs:∀ x∈some,inG g.length x):∀ (m:Nat) (d q:List Int),BfsI g some d q->negs d+q.length<=m->BfsI g some (bOut g m d q) []
 | m,d,[],hI,hm=>by unfold bOut;exact hI
 | 0,d,h::t,hI,hm=>by simp at hm
 | m+1,d,h::t,hI,hm=>by
  obtain ⟨t',r1,r2,r3,r4,r5⟩:=q53 hg hs h (atL g h.toNat) d t hI (fun x hx=>hx);rw [bOut,r1];simp only [List.length_cons] at hm;exact y7h hg hs m _ t' (bPop hg r2 r4) (by omega)
theorem q9v:∀ (l d:List Int),(∀ v∈l,inG d.length v)->(bSt l d).length=d.length /\ ∀ v,0<=v->dAt (bSt l d) v=if v∈l then 0 else dAt d v
 | [],d,h=>⟨rfl,fun v _=>by simp [bSt]⟩
 | x::l,d,h=>by
  have hx:=h x (by simp);obtain ⟨h1,h2⟩:=q9v l (d.set x.toNat 0) (fun v hv=>by rw [List.length_set];exact h v (by simp [hv]));rw [bSt];refine ⟨by rw [h1,List.length_set],fun v hv=>?_⟩;rw [h2 v hv,q9i hx 0 hv];by_cases e1:v∈l
  ·simp [e1]
  ·by_cases e2:v=x <;> simp [e1,e2]
theorem z8k (N:Nat) (v:Int):dAt (List.replicate N (-1)) v=-1:=by
 unfold dAt;by_cases h:v.toNat<N
 · simp [h]
 · rw [List.getElem?_eq_none (by simp;omega)];rfl
theorem y6c (d:List Int):negs d<=d.length:=List.countP_le_length
theorem q78 {g:List (List Int)} {some:List Int} (hs:∀ x∈some,inG g.length x):BfsI g some (bSt some (List.replicate g.length (-1))) some:=by
 obtain ⟨h1,h2⟩:=q9v some (List.replicate g.length (-1)) (fun v hv=>by simpa using hs v hv);have hd:∀ v,0<=v->dAt (bSt some (List.replicate g.length (-1))) v=if v∈some then 0 else -1:=fun v hv=>by rw [h2 v hv,z8k]
 refine ⟨by simpa using h1,hs,?_,?_,?_,?_,?_,?_⟩
 ·intro v hv;rw [hd v hv.1];by_cases e:v∈some
  ·rw [if_pos e];exact .inr ⟨by omega,.start v e⟩
  ·rw [if_neg e];exact .inl rfl
 ·intro v hv;rw [hd v (hs v hv).1,if_pos hv]
 ·intro v hv;rw [hd v (hs v hv).1,if_pos hv];omega
 ·refine (List.pairwise_of_forall (R:=fun _ _=>True) (fun _ _=>trivial)).imp_of_mem ?_;intro a b ha hb _;rw [hd a (hs a ha).1,hd b (hs b hb).1,if_pos ha,if_pos hb];omega
 ·rintro h t rfl v hv
  rw [hd v hv.1,hd h (hs h (by simp)).1,if_pos (show h∈h::t by simp)]
  split <;> omega
 ·intro v hv h0 hn;rw [hd v hv.1,if_neg hn] at h0;omega
theorem q70 {g:List (List Int)} {some:List Int} (hg:∀ (i:Nat) (x:Int),x∈atL g i->inG g.length x) (hs:∀ x∈some,inG g.length x):(q2a g some).length=g.length /\
  ∀ v,inG g.length v->(dAt (q2a g some) v=-1 /\ ∀ n,¬ Way g some n v)∨(0<=dAt (q2a g some) v /\ Way g some (dAt (q2a g some) v).toNat v /\ ∀ n,Way g some n v->dAt (q2a g some) v<=n):=by
 have hI:=y7h hg hs (some.length+g.length) _ some (q78 hs) (by
  have h1:=y6c (bSt some (List.replicate g.length (-1)));have h2:=(q78 hs).len
  omega)
 have hI':BfsI g some (q2a g some) []:=hI;have low:∀ n v,Way g some n v->0<=dAt (q2a g some) v /\ dAt (q2a g some) v<=n /\ inG g.length v:=by
  intro n v hw
  induction hw with
  | start v h=>rw [hI'.st v h];exact ⟨by omega,by omega,hs v h⟩
  | step n v w _ hw ih=>
   obtain ⟨h1,h2⟩:=hI'.don v ih.2.2 ih.1 (by simp) w hw;exact ⟨h1,by omega,hg _ _ hw⟩
 refine ⟨hI'.len,fun v hv=>?_⟩;rcases hI'.snd v hv with h | ⟨h1,h2⟩
 ·exact .inl ⟨h,fun n hn=>by have:=(low n v hn).1;omega⟩
 ·exact .inr ⟨h1,h2,fun n hn=>(low n v hn).2.1⟩
theorem v5c (a:W):(a &&& 4294967295#64).toNat=a.toNat % 4294967296:=by
 rw [BitVec.toNat_and];exact Nat.and_two_pow_sub_one_eq_mod a.toNat 32
theorem v5a (a:W):(a >>> (32:Int).toNat).toNat=a.toNat / 4294967296:=by
 rw [BitVec.toNat_ushiftRight,Nat.shiftRight_eq_div_pow];rfl
theorem w1m {k:Nat} (hk:1<=k) (a b:W):∃ h:W,c251 k (wi a) (wi b)=r251 (wi h) (wi (a*b)) /\ h.toNat=a.toNat*b.toNat / 18446744073709551616:=by
 obtain ⟨k,rfl⟩:=k01 (k:=k) (by omega);rw [n251];have e:(4294967295:Int)=wi 4294967295#64:=rfl;have hs:∀ x:W,shrI .u64 (wi x) 32=wi (x >>> (32:Int).toNat):=fun x=>z24 x (by omega)
 rw [e];simp only [hs,q6q,x2b,x0t];refine ⟨_,rfl,?_⟩;simp only [BitVec.toNat_add,BitVec.toNat_mul,v5c,v5a];have ha:=a.isLt;have hb:=b.isLt
 generalize a.toNat=x at *
 generalize b.toNat=y at *
 have hx:x=x / 4294967296*4294967296+x % 4294967296:=by omega
 have hy:y=y / 4294967296*4294967296+y % 4294967296:=by omega
 have b1:x / 4294967296<=4294967295:=by omega
 have b2:x % 4294967296<=4294967295:=by omega
 have b3:y / 4294967296<=4294967295:=by omega
 have b4:y % 4294967296<=4294967295:=by omega
 have e1:x*y=x / 4294967296*(y / 4294967296)*18446744073709551616+(x / 4294967296*(y % 4294967296)+x % 4294967296*(y / 4294967296))*4294967296+x % 4294967296*(y % 4294967296):=by
  generalize x / 4294967296=p at *
  generalize x % 4294967296=q at *
  generalize y / 4294967296=u at *
  generalize y % 4294967296=v at *
  subst hx hy;simp only [Nat.add_mul,Nat.mul_add];have t1:p*4294967296*(u*4294967296)=p*u*18446744073709551616:=by rw [Nat.mul_mul_mul_comm]
  have t2:p*4294967296*v=p*v*4294967296:=by rw [Nat.mul_right_comm]
  have t3:q*(u*4294967296)=q*u*4294967296:=by rw [Nat.mul_assoc]
  rw [t1,t2,t3];omega
 rw [e1];have m1:=Nat.mul_le_mul b1 b3;have m2:=Nat.mul_le_mul b1 b4;have m3:=Nat.mul_le_mul b2 b3;have m4:=Nat.mul_le_mul b2 b4
 generalize x / 4294967296*(y / 4294967296)=A at *
 generalize x / 4294967296*(y % 4294967296)=B at *
 generalize x % 4294967296*(y / 4294967296)=C at *
 generalize x % 4294967296*(y % 4294967296)=D at *
 clear e1 hx hy;omega
theorem y80 {n:Int} (h0:0<=n) (h1:n<=1000000):IntKind.u64.wrap n=n:=by
 show n % 18446744073709551616=n
 omega
theorem y0c {k:Nat} (N:Nat) (hN:N<=1000) (a:Int):∀ (n c:Nat),1<=c->c<=N->N-c<n ->
  y2i k n N (c:Int) (encZ (List.replicate c a++List.replicate (N-c) 0))=r142 (encZ (List.replicate N a))
 | 0,c,h1,h2,h=>by omega
 | n+1,c,h1,h2,h=>by
  rw [x6u];have ln:(encZ (List.replicate c a++List.replicate (N-c) 0)).length=N:=by simp;omega
  by_cases hlt:c<N
  ·have hd:decide ((c:Int)<(N:Int))=true:=by simpa using hlt
   have ht:(encZ (List.replicate c a++List.replicate (N-c) 0)).take c=encZ (List.replicate c a):=by rw [q3h,List.take_left' (by simp)]
   have hl:((encZ (List.replicate c a)).length)=c:=by simp
   have hm:min c (N-c)<=c:=Nat.min_le_left _ _;have hm2:min c (N-c)<=N-c:=Nat.min_le_right _ _;have hm3:1<=min c (N-c):=by omega
   rw [hd];simp only [Int.toNat_natCast,Nat.zero_add,ht,hl];have hg1:(decide ((0:Int)<=(c:Int))&&decide ((c:Int)<=(N:Int))&&decide ((N:Int)<=(N:Int)))=true:=by simp;omega
   have hg2:(decide ((0:Int)<=(c:Int))&&decide ((c:Int)<=(N:Int)))=true:=by simp;omega
   have ht2:(encZ (List.replicate c a)).take (min c (N-c))=encZ (List.replicate (min c (N-c)) a):=by rw [q3h,List.take_replicate,Nat.min_eq_left hm]
   have ht3:(encZ (List.replicate c a++List.replicate (N-c) 0)).drop (c+min c (N-c))=encZ (List.replicate (N-(c+min c (N-c))) 0):=by
    rw [show encZ (List.replicate c a++List.replicate (N-c) 0)=encZ (List.replicate c a)++encZ (List.replicate (N-c) 0) by simp [encZ],<- List.drop_drop,List.drop_left' (by simp)];simp only [encZ,<- List.map_drop,List.drop_replicate]
    congr 2
    omega
   have hnext:IntKind.i64.wrap ((c:Int)+((min c (N-c):Nat):Int))=((c+min c (N-c):Nat):Int):=by rw [q0g (by omega) (by omega)];omega
   have he:encZ (List.replicate c a)++encZ (List.replicate (min c (N-c)) a)++encZ (List.replicate (N-(c+min c (N-c))) 0)=encZ (List.replicate (c+min c (N-c)) a++List.replicate (N-(c+min c (N-c))) 0):=by
    simp [encZ,<- List.replicate_append_replicate]
   rw [hg1,hg2,ht2,q0b,List.length_replicate,ht3,hnext,he];simp only [cond_true];exact y0c N hN a n _ (by omega) (by omega) (by omega)
  ·have hd:decide ((c:Int)<(N:Int))=false:=by simpa using hlt
   have hc:c=N:=by omega
   subst hc;have et:(encZ (List.replicate c a)).take c=encZ (List.replicate c a):=by rw [List.take_of_length_le (by simp)]
   rw [hd,Nat.sub_self,List.replicate_zero,List.append_nil,et];rfl
theorem w10 {k:Nat} (hk:1010<=k) (N:Nat) (hN:N<=1000) (a:Int):c142 k [PV.int .i64 a] (N:Int)=r142 (encZ (List.replicate N a)):=by
 obtain ⟨k,rfl⟩:=k01 (k:=k) (by omega);rw [n142];have hd:decide ((N:Int)<0)=false:=by simp
 have hw1:IntKind.u64.wrap (([PV.int .i64 a]:List PV).length:Int)=wi 1#64:=rfl;have hw2:IntKind.u64.wrap (N:Int)=wi (BitVec.ofNat 64 N):=by
  rw [y80 (by omega) (by omega)]
  show (N:Int)=((BitVec.ofNat 64 N).toNat:Int)
  rw [BitVec.toNat_ofNat,Nat.mod_eq_of_lt (by omega)]
 obtain ⟨k,rfl⟩:=k01 (k:=k) (by omega);rw [hd,hw1,hw2,n209];obtain ⟨h,h1,h2⟩:=w1m (k:=k) (by omega) 1#64 (BitVec.ofNat 64 N);rw [h1];simp only [v1c,v0m,cond_false];have hh:h=0#64:=by
  apply BitVec.eq_of_toNat_eq;rw [h2,BitVec.toNat_ofNat,BitVec.toNat_ofNat,Nat.mod_eq_of_lt (a:=N) (by omega)];simp;omega
 have hv:wi (1#64*BitVec.ofNat 64 N)=(N:Int):=by
  rw [BitVec.one_mul,<- hw2,y80 (by omega) (by omega)]
 subst hh;have h0:decide (wi 0#64>0)=false:=rfl;have h3:decide ((N:Int)>9223372036854775807)=false:=by simp;omega
 have h4:IntKind.i64.wrap (N:Int)=(N:Int):=q0g (by omega) (by omega);have h5:(((N:Int)==(N:Int))&&decide ((0:Int)<=(N:Int))&&decide (N*8<=LIM)&&decide (N<=LIM))=true:=by
  have q1:decide (N*8<=LIM)=true:=decide_eq_true (by unfold LIM;omega);have q2:decide (N<=LIM)=true:=decide_eq_true (by unfold LIM;omega);rw [q1,q2];simp
 rw [hv,h0,h3,h4];simp only [cond_false,Int.toNat_natCast];rw [h5];simp only [cond_true,List.length_singleton];rcases Nat.eq_zero_or_pos N with hN0 | hN0
 ·subst hN0;obtain ⟨k,rfl⟩:=k01 (k:=k) (by omega);rw [x6u];rfl
 ·have e1:min 1 N=1:=by omega
  rw [e1];have e2:(List.replicate N (PV.int .i64 0)).take 0++[PV.int .i64 a].take 1++(List.replicate N (PV.int .i64 0)).drop (0+([PV.int .i64 a].take 1).length)=encZ (List.replicate 1 a++List.replicate (N-1) 0):=by
   simp [encZ]
  rw [e2];exact y0c (k:=k+1) N hN a (k+1) 1 (by omega) (by omega) (by omega)
end Go.Proofs.YtgdegfijcijnoaaGreat
namespace Go.Proofs.YtgdegfijcijnoaaGreat
open Go.Dp
theorem q4e {d:List Int} {v:Int} (h:inG d.length v):(encZ d)[0+v.toNat]? = some (.int .i64 (dAt d v)):=by
 rw [Nat.zero_add,q1r,List.getElem?_eq_getElem h.2];simp [dAt,h.2]
theorem q4f {N:Nat} {v:Int} (h:inG N v):(decide ((0:Int)<=v)&&decide (v<(N:Int)))=true:=by
 obtain ⟨h0,h1⟩:=h;rw [decide_eq_true h0,decide_eq_true (by omega)];rfl
theorem x9m (l:List Int) (K0:List PV->R):w4t (r142 (encZ l)) K0=K0 (encZ l):=by
 have h:([SV.c (.own 3 0 (encZ l))].all q0z&&true)=true:=by simp [q0z,q1m,q2h];rfl
 show (bif ([SV.c (.own 3 0 (encZ l))].all q0z&&true) then K0 (encZ l) else none)=_
 rw [h];rfl
structure GrF (G:List PV) (g:List (List Int)):Prop where
 len:G.length=g.length
 row:∀ i,i<g.length->∃ p,G[i]? = some p /\ p.atRow 0 0=some (encZ (atL g i))
theorem GrF.at {G:List PV} {g:List (List Int)} (h:GrF G g) {v:Int} (hv:inG g.length v):(q0e G v).bind (fun p=>p.atRow 0 0)=some (encZ (atL g v.toNat)):=by
 obtain ⟨p,h1,h2⟩:=h.row v.toNat hv.2
 have:v=((v.toNat:Nat):Int):=by have:=hv.1;omega
 rw [this,q0n,Int.toNat_natCast,h1];exact h2
theorem GrF.bind {G:List PV} {g:List (List Int)} (h:GrF G g) {v:Int} (hv:inG g.length v) {α:Type} (K:List PV->Option α):((q0e G v).bind fun p=>(p.atRow 0 0).bind fun l=>K l)=K (encZ (atL g v.toNat)):=by
 have:=h.at hv
 cases hl:q0e G v with
 | none=>rw [hl] at this;cases this
 | some p=>
  rw [hl] at this;simp only [Option.bind_some] at this ⊢;rw [this];rfl
section
variable {k:Nat} {G:List PV} (h:Int)
theorem in3 (n1:Nat) (N:Nat) (l:List Int) (hll:l.length<=1000) (hl:∀ w∈l,inG N w) (hN:N<=1000):∀ (n j:Nat) (d t:List Int),l.length-j<n->j<=l.length->d.length=N->inG N h->(h::t).length+(l.length-j)<=100000->0<=dAt d h->dAt d h<=100000 ->
  q9o k n1 n G N (h::t).length (encZ l) (l.length:Int) (j:Int) (encZ d) (encZ (h::t)) =
   z11 k n1 G N 1 ((bIn h (l.drop j) d (h::t)).2.length-1) (encZ (bIn h (l.drop j) d (h::t)).1) (encZ (bIn h (l.drop j) d (h::t)).2)
 | 0,j,d,t,hn,hj,hd,hh,hq,h0,h1=>by omega
 | n+1,j,d,t,hn,hj,hd,hh,hq,h0,h1=>by
  rw [w6w];by_cases hlt:j<l.length
  ·have hdj:=k04 (i:=j) (l:=l) hlt;have hnext:=k02 (i:=j) (by omega);have hw:=hl _ (List.getElem_mem hlt);rw [hdj,q0l hlt,hnext];simp only [cond_true,Option.bind_some,q0d];rw [q4f hw,q4e (d:=d) (v:=l[j]) (by rw [hd];exact hw)];simp only [cond_true,Option.bind_some,q0d];rw [q0c hlt,bIn];cases hc:decide (dAt d l[j]<0)
   ·exact in3 n1 N l hll hl hN n (j+1) d t (by omega) (by omega) hd hh (by omega) h0 h1
   ·have hp:decide ((0:Int)<(((h::t).length:Nat):Int))=true:=decide_eq_true (by rw [List.length_cons];omega);have hget:(encZ (h::t))[0]? = some (PV.int .i64 h):=rfl;have hwr:IntKind.i64.wrap (dAt d h+1)=dAt d h+1:=q0g (by omega) (by omega);have hlm:(decide (((h::t).length+1)*8<=LIM)&&decide ((h::t).length+1<=LIM))=true:=q0p (by omega) (by omega);simp only [cond_true];rw [hp,hget];simp only [cond_true,Option.bind_some,q0d];rw [q4f hh,q4e (d:=d) (v:=h) (by rw [hd];exact hh),hlm];simp only [cond_true,Option.bind_some,q0d];rw [hwr,Nat.zero_add,q3b,List.take_of_length_le (by simp),q00];have hwh:l[j]≠h:=by
     intro e
     have:=of_decide_eq_true hc
     rw [e] at this;omega
    have hdh:dAt (d.set l[j].toNat (dAt d h+1)) h=dAt d h:=by
     rw [q9i (by rw [hd];exact hw) _ hh.1,if_neg (Ne.symm hwh)]
    have:=in3 n1 N l hll hl hN n (j+1) (d.set l[j].toNat (dAt d h+1)) (t++[l[j]]) (by omega) (by omega) (by rw [List.length_set];exact hd) hh (by simp at hq ⊢;omega) (by rw [hdh];exact h0) (by rw [hdh];exact h1)
    have e1:(h::(t++[l[j]])).length=(h::t).length+1:=by simp
    rw [e1] at this;exact this
  ·have hdj:=k03 (i:=j) (l:=l) hlt;have hp:(decide ((1:Int)<=(((h::t).length:Nat):Int))&&decide ((((h::t).length:Nat):Int)<=(((h::t).length:Nat):Int)))=true:=by
    rw [decide_eq_true (by rw [List.length_cons];omega),decide_eq_true (by omega)];rfl
   have ed:l.drop j=[]:=List.drop_eq_nil_of_le (by omega);rw [hdj,ed,hp];rfl
theorem in5 (n1:Nat) (N:Nat) (l:List Int) (hll:l.length<=1000) (hl:∀ w∈l,inG N w) (hN:N<=1000):∀ (n j:Nat) (d pre t:List Int),l.length-j<n->j<=l.length->d.length=N->inG N h->(h::t).length+(l.length-j)<=100000->0<=dAt d h->dAt d h<=100000 ->
  ∃ pre':List Int,z5b k n1 n G N pre.length (h::t).length (encZ l) (l.length:Int) (j:Int) (encZ d) (encZ (pre++(h::t))) =
   z11 k n1 G N (pre'.length+1) ((bIn h (l.drop j) d (h::t)).2.length-1) (encZ (bIn h (l.drop j) d (h::t)).1) (encZ (pre'++(bIn h (l.drop j) d (h::t)).2))
 | 0,j,d,pre,t,hn,hj,hd,hh,hq,h0,h1=>by omega
 | n+1,j,d,pre,t,hn,hj,hd,hh,hq,h0,h1=>by
  rw [w6x];by_cases hlt:j<l.length
  ·have hdj:=k04 (i:=j) (l:=l) hlt;have hnext:=k02 (i:=j) (by omega);have hw:=hl _ (List.getElem_mem hlt);rw [hdj,q0l hlt,hnext];simp only [cond_true,Option.bind_some,q0d];rw [q4f hw,q4e (d:=d) (v:=l[j]) (by rw [hd];exact hw)];simp only [cond_true,Option.bind_some,q0d];rw [q0c hlt,bIn];cases hc:decide (dAt d l[j]<0)
   ·exact in5 n1 N l hll hl hN n (j+1) d pre t (by omega) (by omega) hd hh (by omega) h0 h1
   ·have hp:decide ((0:Int)<(((h::t).length:Nat):Int))=true:=decide_eq_true (by rw [List.length_cons];omega);have hget:(encZ (pre++(h::t)))[pre.length]? = some (PV.int .i64 h):=by rw [q1r];simp
    have hwr:IntKind.i64.wrap (dAt d h+1)=dAt d h+1:=q0g (by omega) (by omega);have hlm:(decide (((h::t).length+1)*8<=LIM)&&decide ((h::t).length+1<=LIM))=true:=q0p (by omega) (by omega);simp only [cond_true];rw [hp,hget];simp only [cond_true,Option.bind_some,q0d];rw [q4f hh,q4e (d:=d) (v:=h) (by rw [hd];exact hh),hlm];simp only [cond_true,Option.bind_some,q0d];rw [hwr,Nat.zero_add,q3b,z02,List.drop_left,List.take_of_length_le (by simp),q00];have hwh:l[j]≠h:=by
     intro e
     have:=of_decide_eq_true hc
     rw [e] at this;omega
    have hdh:dAt (d.set l[j].toNat (dAt d h+1)) h=dAt d h:=by
     rw [q9i (by rw [hd];exact hw) _ hh.1,if_neg (Ne.symm hwh)]
    have:=in3 (k:=k) (G:=G) h n1 N l hll hl hN n (j+1) (d.set l[j].toNat (dAt d h+1)) (t++[l[j]]) (by omega) (by omega) (by rw [List.length_set];exact hd) hh (by simp at hq ⊢;omega) (by rw [hdh];exact h0) (by rw [hdh];exact h1)
    have e1:(h::(t++[l[j]])).length=(h::t).length+1:=by simp
    rw [e1] at this;exact ⟨[],this⟩
  ·have hdj:=k03 (i:=j) (l:=l) hlt;have hp:(decide ((1:Int)<=(((h::t).length:Nat):Int))&&decide ((((h::t).length:Nat):Int)<=(((h::t).length:Nat):Int)))=true:=by
    rw [decide_eq_true (by rw [List.length_cons];omega),decide_eq_true (by omega)];rfl
   have ed:l.drop j=[]:=List.drop_eq_nil_of_le (by omega);rw [hdj,ed,hp];exact ⟨pre,rfl⟩
end
theorem out4 {k:Nat} (hk:2000<=k) {G:List PV} {g:List (List Int)} (hG:GrF G g) (hN:g.length<=1000) (hgl:∀ i,(atL g i).length<=1000) {some':List Int} (hg:∀ (i:Nat) (x:Int),x∈atL g i->inG g.length x) (hs:∀ x∈some',inG g.length x):∀ (m n:Nat) (d q pre:List Int),BfsI g some' d q->negs d+q.length<=m->m<n->(b:Int)->(∀ v,inG g.length v->dAt d v<=b)->b+m<=50000->m<=50000 ->
  z11 k n G g.length pre.length q.length (encZ d) (encZ (pre++q))=r108 (encZ (bOut g m d q))
 | m,0,d,q,pre,hI,hm,hn,b,hb,hbm,hm5=>by omega
 | m,n+1,d,[],pre,hI,hm,hn,b,hb,hbm,hm5=>by
  rw [x6r];have e:bOut g m d []=d:=by unfold bOut;rfl
  have e2:(encZ d).take g.length=encZ d:=by rw [List.take_of_length_le (by simp [hI.len])]
  rw [e2,e];rfl
 | 0,n+1,d,h::t,pre,hI,hm,hn,b,hb,hbm,hm5=>by simp at hm
 | m+1,n+1,d,h::t,pre,hI,hm,hn,b,hb,hbm,hm5=>by
  have hh:=hI.rng h (by simp);have hp:decide ((((h::t).length:Nat):Int)>0)=true:=decide_eq_true (by rw [List.length_cons];omega);have hp2:decide ((0:Int)<(((h::t).length:Nat):Int))=true:=hp;have hget:(encZ (pre++(h::t)))[pre.length]? = some (PV.int .i64 h):=by rw [q1r];simp
  obtain ⟨t',r1,r2,r3,r4,r5⟩:=q53 hg hs h (atL g h.toNat) d t hI (fun x hx=>hx);have hlen:=hgl h.toNat;have hml:(h::t).length<=m+1:=by omega
  obtain ⟨pre',h5⟩:=in5 (k:=k) (G:=G) h n g.length (atL g h.toNat) hlen (fun w hw=>hg _ w hw) hN k 0 d pre t (by omega) (by omega) hI.len hh (by omega) (hI.vis h (by simp)) (by have:=hb h hh;omega);rw [x6r,hp,hget];simp only [cond_true,Option.bind_some,q0d];rw [hG.bind hh];rw [List.drop_zero,r1] at h5;have h5':z5b k n k G g.length pre.length (h::t).length (encZ (atL g h.toNat)) ((atL g h.toNat).length:Int) 0 (encZ d) (encZ (pre++(h::t)))=_:=h5;rw [q0b,h5',bOut,r1];simp only [List.length_cons,Nat.add_sub_cancel,List.drop_succ_cons,List.drop_zero] at hm ⊢;have hbd:=hb h hh;have e1:pre'++h::t'=(pre'++[h])++t':=by simp
  have e2:pre'.length+1=(pre'++[h]).length:=by simp
  rw [e1,e2];refine out4 hk hG hN hgl hg hs m n _ t' (pre'++[h]) (bPop hg r2 r4) (by omega) (by omega) (b+1) (fun v hv=>?_) (by omega) (by omega);have h1:=r2.bnd h t' rfl v hv;rw [r3 h hh (hI.vis h (by simp))] at h1;omega
theorem out2 {k:Nat} (hk:2000<=k) {G:List PV} {g:List (List Int)} (hG:GrF G g) (hN:g.length<=1000) (hgl:∀ i,(atL g i).length<=1000) {some':List Int} (hg:∀ (i:Nat) (x:Int),x∈atL g i->inG g.length x) (hs:∀ x∈some',inG g.length x):∀ (m n:Nat) (d q:List Int),BfsI g some' d q->negs d+q.length<=m->m<n->(b:Int)->(∀ v,inG g.length v->dAt d v<=b)->b+m<=50000->m<=50000 ->
  y19 k n G g.length q.length (encZ d) (encZ q)=r108 (encZ (bOut g m d q))
 | m,0,d,q,hI,hm,hn,b,hb,hbm,hm5=>by omega
 | m,n+1,d,[],hI,hm,hn,b,hb,hbm,hm5=>by
  rw [x6q];have e:bOut g m d []=d:=by unfold bOut;rfl
  have e2:(encZ d).take g.length=encZ d:=by rw [List.take_of_length_le (by simp [hI.len])]
  rw [e2,e];rfl
 | 0,n+1,d,h::t,hI,hm,hn,b,hb,hbm,hm5=>by simp at hm
 | m+1,n+1,d,h::t,hI,hm,hn,b,hb,hbm,hm5=>by
  have hh:=hI.rng h (by simp);have hp:decide ((((h::t).length:Nat):Int)>0)=true:=decide_eq_true (by rw [List.length_cons];omega);have hp2:decide ((0:Int)<(((h::t).length:Nat):Int))=true:=hp;have hget:(encZ (h::t))[0]? = some (PV.int .i64 h):=rfl;obtain ⟨t',r1,r2,r3,r4,r5⟩:=q53 hg hs h (atL g h.toNat) d t hI (fun x hx=>hx);have hlen:=hgl h.toNat;have hml:(h::t).length<=m+1:=by omega
  have h5:=in3 (k:=k) (G:=G) h n g.length (atL g h.toNat) hlen (fun w hw=>hg _ w hw) hN k 0 d t (by omega) (by omega) hI.len hh (by omega) (hI.vis h (by simp)) (by have:=hb h hh;omega);rw [x6q,hp,hget];simp only [cond_true,Option.bind_some,q0d];rw [hG.bind hh];rw [List.drop_zero,r1] at h5;have h5':q9o k n k G g.length (h::t).length (encZ (atL g h.toNat)) ((atL g h.toNat).length:Int) 0 (encZ d) (encZ (h::t))=_:=h5;rw [q0b,h5',bOut,r1];simp only [List.length_cons,Nat.add_sub_cancel,List.drop_succ_cons,List.drop_zero] at hm ⊢;have hbd:=hb h hh;have e1:h::t'=[h]++t':=by simp
  rw [e1];refine out4 hk hG hN hgl hg hs m n _ t' [h] (bPop hg r2 r4) (by omega) (by omega) (b+1) (fun v hv=>?_) (by omega) (by omega);have h1:=r2.bnd h t' rfl v hv;rw [r3 h hh (hI.vis h (by simp))] at h1;omega
theorem st1 {k:Nat} {G:List PV} {N:Nat} (hN:N<=1000) (oL:Nat) (l:List Int) (hll:l.length<=1000) (hl:∀ w∈l,inG N w) (q:List PV):∀ (n j:Nat) (d:List Int),l.length-j<n->j<=l.length->d.length=N ->
  z5a k n G N oL (encZ l) (l.length:Int) (j:Int) (encZ d) q=y19 k k G N oL (encZ (bSt (l.drop j) d)) q
 | 0,j,d,hn,hj,hd=>by omega
 | n+1,j,d,hn,hj,hd=>by
  rw [w6v];by_cases hlt:j<l.length
  ·have hdj:=k04 (i:=j) (l:=l) hlt;have hnext:=k02 (i:=j) (by omega);have hw:=hl _ (List.getElem_mem hlt);rw [hdj,q0l hlt,hnext,q0c hlt,bSt];simp only [cond_true,Option.bind_some,q0d];rw [q4f hw,q4e (d:=d) (v:=l[j]) (by rw [hd];exact hw)];simp only [cond_true,Option.bind_some];rw [Nat.zero_add,q3b];exact st1 hN oL l hll hl q n (j+1) _ (by omega) (by omega) (by rw [List.length_set];exact hd)
  ·have hdj:=k03 (i:=j) (l:=l) hlt;rw [hdj,List.drop_eq_nil_of_le (by omega)];rfl
theorem z7z {k:Nat} (hk:3000<=k) {G:List PV} {g:List (List Int)} (hG:GrF G g) (hN:g.length<=1000) (hgl:∀ i,(atL g i).length<=1000) {l:List Int} (hll:l.length<=500) (hg:∀ (i:Nat) (x:Int),x∈atL g i->inG g.length x) (hs:∀ x∈l,inG g.length x) :
  c108 k G (encZ l)=r108 (encZ (q2a g l)):=by
 obtain ⟨k,rfl⟩:=k01 (k:=k) (by omega);obtain ⟨k',rfl⟩:∃ j,k=j+1:=⟨k-1,by omega⟩;rw [n108,hG.len,w10 (by omega) g.length hN (-1)];simp only [x9m];rw [n139 _ _ (by rw [q0b];unfold LIM;omega) (by rw [q0b];unfold LIM;omega)];simp only [w9r,q0b,List.length_replicate];have h1:=st1 (k:=k'+1) (G:=G) (N:=g.length) hN l.length l (by omega) hs (encZ l) (k'+1) 0 (List.replicate g.length (-1)) (by omega) (by omega) (by simp);have h1':z5a (k'+1) (k'+1) G g.length l.length (encZ l) (l.length:Int) 0 (encZ (List.replicate g.length (-1))) (encZ l)=_:=h1;rw [h1',List.drop_zero];have hI:=q78 (g:=g) hs;have hneg:=y6c (bSt l (List.replicate g.length (-1)));have hlen:=hI.len;refine out2 (by omega) hG hN hgl hg hs (l.length+g.length) (k'+1) _ l hI (by omega) (by omega) 0 (fun v hv=>?_) (by omega) (by omega);rw [(q9v l (List.replicate g.length (-1)) (fun v hv=>by simpa using hs v hv)).2 v hv.1,z8k]
 split <;> omega
end Go.Proofs.YtgdegfijcijnoaaGreat
namespace Go.Proofs.YtgdegfijcijnoaaGreat
open Go.Dp
def nnF:List Int->Nat->List Int
 | [],_=>[]
 | x::d,i=>bif decide (x>=0) then (i:Int)::nnF d (i+1) else nnF d (i+1)
theorem x6j:∀ (d:List Int) (i:Nat) (x:Int),x∈nnF d i↔∃ (j:Nat) (y:Int),x=((i+j:Nat):Int) /\ d[j]? = some y /\ 0<=y
 | [],i,x=>by simp [nnF]
 | z::d,i,x=>by
  have ih:=x6j d (i+1) x;have tail:(∃ (j:Nat) (y:Int),x=((i+j:Nat):Int) /\ (z::d)[j]? = some y /\ 0<=y)↔(x=(i:Int) /\ 0<=z)∨∃ (j:Nat) (y:Int),x=((i+1+j:Nat):Int) /\ d[j]? = some y /\ 0<=y:=by
   constructor
   ·rintro ⟨j,y,h1,h2,h3⟩
    cases j with
    | zero=>simp at h2;subst h2;exact .inl ⟨by simpa using h1,h3⟩
    | succ j=>exact .inr ⟨j,y,by rw [h1];omega,by simpa using h2,h3⟩
   ·rintro (⟨h1,h2⟩ | ⟨j,y,h1,h2,h3⟩)
    ·exact ⟨0,z,by simpa using h1,rfl,h2⟩
    ·exact ⟨j+1,y,by rw [h1];omega,by simpa using h2,h3⟩
  rw [tail,nnF];by_cases hz:z>=0
  ·rw [decide_eq_true hz];simp only [cond_true,List.mem_cons,ih];constructor
   ·rintro (h | h)
    ·exact .inl ⟨h,hz⟩
    ·exact .inr h
   ·rintro (h | h)
    ·exact .inl h.1
    ·exact .inr h
  ·rw [decide_eq_false hz];simp only [cond_false,ih];constructor
   ·exact .inr
   ·rintro (h | h)
    ·exact absurd h.2 hz
    ·exact h
theorem x6i:∀ (d:List Int) (i:Nat),(nnF d i).length<=d.length
 | [],i=>by simp [nnF]
 | z::d,i=>by
  have:=x6i d (i+1)
  rw [nnF];cases decide (z>=0)
  ·simp only [cond_false,List.length_cons];omega
  ·simp only [cond_true,List.length_cons];omega
theorem q7j {k:Nat} (d:List Int) (hl:d.length<=1000):∀ (n i:Nat) (o:List Int),d.length-i<n->i<=d.length->o.length<=i ->
  z5s k n o.length (encZ d) (d.length:Int) (i:Int) (encZ o)=r186 (encZ (o++nnF (d.drop i) i))
 | 0,i,o,hn,hi,ho=>by omega
 | n+1,i,o,hn,hi,ho=>by
  rw [w70];have etk:(encZ o).take o.length=encZ o:=by rw [List.take_of_length_le (by simp)]
  by_cases hlt:i<d.length
  ·have hd:=k04 (i:=i) (l:=d) hlt;have hnext:=k02 (i:=i) (by omega);rw [hd,q0l hlt,q0c hlt,hnext,etk,nnF];simp only [cond_true,Option.bind_some,q0d];cases hc:decide (d[i]>=0)
   ·exact q7j d hl n (i+1) o (by omega) (by omega) (by omega)
   ·simp only [cond_true];rw [q0p (by omega) (by omega),q00];simp only [cond_true]
    have:=q7j (k:=k) d hl n (i+1) (o++[(i:Int)]) (by omega) (by omega) (by simp;omega)
    rw [List.length_append,List.append_assoc] at this;exact this
  ·have hd:=k03 (i:=i) (l:=d) hlt;rw [hd,List.drop_eq_nil_of_le (by omega),etk];simp only [nnF,List.append_nil];rfl
def rfL (g:List (List Int)) (l:List Int):List Int:=nnF (q2a g l) 0
theorem w6j {g:List (List Int)} {l:List Int} (hg:∀ (i:Nat) (x:Int),x∈atL g i->inG g.length x) (hs:∀ x∈l,inG g.length x) (x:Int):x∈rfL g l↔∃ n,Way g l n x:=by
 obtain ⟨h1,h2⟩:=q70 hg hs;have hin:∀ n x,Way g l n x->inG g.length x:=by
  intro n x h;cases h with
  | start _ h=>exact hs _ h
  | step n v w h hw=>exact hg _ _ hw
 rw [rfL,x6j];constructor
 ·rintro ⟨j,y,h3,h4,h5⟩
  have hj:=(List.getElem?_eq_some_iff.1 h4).1;have hx:inG g.length x:=⟨by omega,by omega⟩;have hd:dAt (q2a g l) x=y:=by
   unfold dAt;rw [show x.toNat=j by omega,h4];rfl
  rcases h2 x hx with ⟨h6,_⟩ | ⟨_,h6,_⟩
  ·omega
  ·exact ⟨_,h6⟩
 ·rintro ⟨n,h⟩
  have hx:=hin n x h;have hlt:x.toNat<(q2a g l).length:=by rw [h1];exact hx.2
  refine ⟨x.toNat,dAt (q2a g l) x,by have:=hx.1;omega,by simp [dAt,hlt],?_⟩;rcases h2 x hx with ⟨_,h6⟩ | ⟨h6,_⟩
  ·exact absurd h (h6 n)
  ·exact h6
theorem y6j {k:Nat} (hk:4000<=k) {G:List PV} {g:List (List Int)} (hG:GrF G g) (hN:g.length<=1000) (hgl:∀ i,(atL g i).length<=1000) {l:List Int} (hll:l.length<=500) (hg:∀ (i:Nat) (x:Int),x∈atL g i->inG g.length x) (hs:∀ x∈l,inG g.length x) :
  c186 k G (encZ l)=r186 (encZ (rfL g l)):=by
 obtain ⟨k,rfl⟩:=k01 (k:=k) (by omega);have h1:=(q70 hg hs).1;rw [n186,z7z (by omega) hG hN hgl hll hg hs];simp only [x9f,q0b]
 have:=q7j (k:=k) (q2a g l) (by omega) k 0 [] (by omega) (by omega) (by simp)
 rw [List.drop_zero,List.nil_append] at this;exact this
theorem q33 {p:Prg} {x:Int}:inG (nS p) x↔inS p x:=by
 unfold inG inS;omega
theorem z3s (p:Prg):(q2i p).length=nS p:=z3r p (nS p) 0
theorem w07 (p:Prg) (i:Nat):atL (q2i p) i=if i<nS p then nxL p (i:Int) else []:=by
 unfold atL q2i;by_cases h:i<nS p
 · rw [y4 p _ _ _ h,if_pos h,Nat.zero_add];rfl
 · rw [List.getElem?_eq_none (by rw [z3r];omega),if_neg h];rfl
theorem q2m (g:List (List Int)):(q1z g).length=g.length:=by unfold q1z;rw [y8w];simp
theorem y8z (g:List (List Int)):GrF (encF (q1z g)) (q1z g):=by
 refine ⟨by simp,fun i hi=>⟨q6s (atL (q1z g) i),?_,z6w _⟩⟩;rw [y1e,List.getElem?_eq_getElem hi];simp [atL,hi]
theorem q7p {p:Prg} (hs:q0h p=true) (t:List Nd):(whI p t).length<=32:=y56 hs (x3n p t _ _) fun x hx=>((q9m p t x).1 hx).1
theorem w2a (c:Int):∀ (l:List Int) (i:Nat),(stF c l i).Pairwise (·<·) /\ ∀ x∈stF c l i,(i:Int)<=x
 | [],i=>by simp [stF]
 | y::l,i=>by
  obtain ⟨h1,h2⟩:=w2a c l (i+1);rw [stF];cases (y==c)
  ·exact ⟨h1,fun x hx=>by have:=h2 x hx;omega⟩
  ·refine ⟨List.pairwise_cons.2 ⟨fun x hx=>by have:=h2 x hx;omega,h1⟩,fun x hx=>?_⟩;rcases List.mem_cons.1 hx with rfl | hx
   ·exact Int.le_refl _
   ·have:=h2 x hx
    omega
def mkB (bs:List Bool) (i:Nat):List Int:=stF 1 (bs.map fun b=>bif b then 1 else 0) i
theorem z1o {k:Nat} (bs:List Bool) (hl:bs.length<=1000):∀ (n i:Nat) (o:List Int),bs.length-i<n->i<=bs.length->o.length<=i ->
  z5n k n o.length (q1n bs) (bs.length:Int) (i:Int) (encZ o)=r170 (encZ (o++mkB (bs.drop i) i))
 | 0,i,o,h,hi,ho=>by omega
 | n+1,i,o,h,hi,ho=>by
  rw [w7q,q0v];by_cases hlt:i<bs.length
  ·have hd:=k04 (i:=i) (l:=bs) hlt;have hnext:=k02 (i:=i) (by omega);have hb:(PV.bool bs[i]).atBool 0=some bs[i]:=rfl;have hm:mkB (bs.drop i) i=bif bs[i] then (i:Int)::mkB (bs.drop (i+1)) (i+1) else mkB (bs.drop (i+1)) (i+1):=by
    unfold mkB;rw [q0c hlt,List.map_cons,stF];cases bs[i] <;> rfl
   rw [hd,q0n,w0w,List.getElem?_eq_getElem hlt,hnext,hm];simp only [cond_true,Option.map_some,Option.bind_some,hb];cases bs[i]
   ·exact z1o bs hl n (i+1) o (by omega) (by omega) (by omega)
   ·simp only [cond_true];rw [q0p (by omega) (by omega),q00]
    have:=z1o (k:=k) bs hl n (i+1) (o++[(i:Int)]) (by omega) (by omega) (by simp;omega)
    rw [List.length_append,List.append_assoc] at this;exact this
  ·have hd:=k03 (i:=i) (l:=bs) hlt;rw [hd,List.drop_eq_nil_of_le (by omega)];simp [mkB,stF]
theorem y78 {k:Nat} (hk:1010<=k) (bs:List Bool) (hl:bs.length<=1000):c170 k (q1n bs)=r170 (encZ (mkB bs 0)):=by
 obtain ⟨k,rfl⟩:=k01 (k:=k) (by omega);have e:(q1n bs).length=bs.length:=by simp [q1n]
 rw [n170,e]
 have:=z1o (k:=k) bs hl k 0 [] (by omega) (by omega) (by simp)
 rw [List.drop_zero,List.nil_append] at this;exact this
theorem y68 (l:List Int) (K0:List PV->R):x7k (r170 (encZ l)) K0=K0 (encZ l):=by
 have h:([SV.c (.own 3 0 (encZ l))].all q0z&&true)=true:=by simp [q0z,q1m,q2h];rfl
 show (bif ([SV.c (.own 3 0 (encZ l))].all q0z&&true) then K0 (encZ l) else none)=_
 rw [h];rfl
theorem q73 (l:List Int) (K0:List PV->R):q52 (r130 (encZ l)) K0=K0 (encZ l):=by
 have h:([SV.c (.own 3 0 (encZ l))].all q0z&&true)=true:=by simp [q0z,q1m,q2h];rfl
 show (bif ([SV.c (.own 3 0 (encZ l))].all q0z&&true) then K0 (encZ l) else none)=_
 rw [h];rfl
def clV (v l:List Int):List Int:=q1h [] (l.map (dAt v))
theorem q49 (v l:List Int) (x:Int):x∈clV v l↔∃ y∈l,dAt v y=x:=by
 unfold clV;rw [(q18 (l.map (dAt v)) [] (by simp)).2,List.mem_map];simp
theorem z6q (v l:List Int):(clV v l).Pairwise (·<·):=(q18 (l.map (dAt v)) [] (by simp)).1
theorem w2s {v l m:List Int} (h:∀ x,x∈l↔x∈m):clV v l=clV v m :=
 y4m (z6q v l) (z6q v m) fun x=>by
  rw [q49,q49];exact ⟨fun ⟨y,h1,h2⟩=>⟨y,(h y).1 h1,h2⟩,fun ⟨y,h1,h2⟩=>⟨y,(h y).2 h1,h2⟩⟩
theorem z8j {v:List Int} {x:Int} (h:x.toNat<v.length):dAt v x=v[x.toNat]:=by simp [dAt,h]
theorem y50 {v:List Int} (hg:q04 v 0=true) {x:Int} (h:x.toNat<v.length):0<=dAt v x /\ dAt v x<q0r v 0:=by
 rw [z8j h];exact z2s v 0 hg _ (List.getElem_mem h)
theorem y4l {v:List Int} {x:Int} (h0:0<=x) (h1:x.toNat<v.length):q0e (encZ v) x=some (.int .i64 (dAt v x)):=by
 have e:x=((x.toNat:Nat):Int):=by omega
 conv=>lhs;rw [e]
 rw [q0l h1,z8j h1]
theorem z8i {v l:List Int} (hg:q04 v 0=true) (hl:∀ x∈l,inG v.length x):∀ x∈clV v l,0<=x /\ x<q0r v 0:=by
 intro x hx;obtain ⟨y,h1,rfl⟩:=(q49 v l x).1 hx;exact y50 hg (hl y h1).2
theorem q3m {v:List Int} (hg:q04 v 0=true):0<=q0r v 0 /\ q0r v 0<=(v.length:Int):=by
 have h2:=(x1d hg).2;have h3:(dis v []).length<=v.length:=q8c (q8a v [] (by simp)) (fun x hx=>by simpa using (q68 v [] x).1 hx);omega
theorem q6b {v l:List Int} (hg:q04 v 0=true) (hl:∀ x∈l,inG v.length x):(clV v l).length<=v.length:=by
 have h:=y59 (clV v l) 0 (q0r v 0) (z6q v l) (z8i hg hl)
 have:=q3m hg
 omega
def inB (m:Nat) (l:List Int):List Bool:=(iota m).map fun c=>l.contains c
theorem q6g (m:Nat) (l:List Int):(inB m l).length=m:=by simp [inB,q2d]
theorem x6b (n:Nat) (l:List Int) (a:Int) (h0:0<=a) (h1:a<(n:Int)):(inB n l).set a.toNat true=inB n (l++[a]):=by
 apply List.ext_getElem
 ·simp [inB,q2d]
 ·intro i h2 h3;have hi:i<n:=by simpa [inB,q2d] using h3
  rw [List.getElem_set];simp only [inB,iota,List.getElem_map,List.getElem_range];split
  ·rename_i e
   have:(i:Int)=a:=by omega
   rw [this];simp
  ·rename_i e;have hne:(i:Int)≠a:=by omega
   rw [Bool.eq_iff_iff,List.contains_iff_mem,List.contains_iff_mem,List.mem_append,List.mem_singleton];exact ⟨.inl,fun h=>h.resolve_right hne⟩
theorem y7s (l:List Bool) (i:Nat) (b:Bool):(q1n l).set i (.bool b)=q1n (l.set i b):=by simp [q1n,List.map_set]
theorem x6e {m:Nat} {l:List Int} (hl:∀ x∈l,0<=x /\ x<(m:Int)):mkB (inB m l) 0=q1h [] l:=by
 refine y4m (w2a _ _ _).1 (q18 l [] (by simp)).1 fun x=>?_
 rw [(q18 l [] (by simp)).2,mkB,y6n];simp only [List.not_mem_nil,false_or];constructor
 ·rintro ⟨j,hj,rfl,h⟩
  have hj2:j<m:=by simpa [inB,q2d] using hj
  simp only [inB,iota,List.getElem_map,List.getElem_range] at h;cases hc:l.contains (j:Int)
  ·rw [hc] at h;simp at h
  ·simpa using hc
 ·intro h;have hx:=hl x h;refine ⟨x.toNat,by simp [inB,q2d];omega,by omega,?_⟩;have e:((x.toNat:Nat):Int)=x:=by omega
  have hc:l.contains x=true:=by simpa using h
  simp only [inB,iota,List.getElem_map,List.getElem_range,e,hc];rfl
theorem z2m {k:Nat} (hk:1010<=k) {v:List Int} (hv:OkV v) (hg:q04 v 0=true) (so:List Int) (hin:∀ x∈so,inG v.length x) (hs:so.length<=1000):∀ (n i:Nat),so.length-i<n->i<=so.length ->
  y2e k n (q0r v 0).toNat (encZ so) (so.length:Int) (i:Int) (encZ v) (q1n (inB (q0r v 0).toNat ((so.take i).map (dAt v))))=r130 (encZ (clV v so))
 | 0,i,h,hi=>by omega
 | n+1,i,h,hi=>by
  rw [w67];have hml:=q3m hg;have hvl:=hv.len;by_cases hlt:i<so.length
  ·have hd:=k04 (i:=i) (l:=so) hlt;have hnext:=k02 (i:=i) (by omega);have hx:=hin _ (List.getElem_mem hlt);have hr:=y50 hg hx.2;have hgd:(decide ((0:Int)<=dAt v so[i])&&decide (dAt v so[i]<(((q0r v 0).toNat:Nat):Int)))=true:=by
    rw [decide_eq_true hr.1,decide_eq_true (by omega)];rfl
   have hat:∃ z,(q1n (inB (q0r v 0).toNat ((so.take i).map (dAt v))))[(dAt v so[i]).toNat]? = some z :=
    ⟨_,List.getElem?_eq_getElem (by simp only [q1n,List.length_map,q6g];omega)⟩
   obtain ⟨z,hz⟩:=hat;rw [hd,q0l hlt,hnext];simp only [cond_true,Option.bind_some,q0d];rw [y4l hx.1 hx.2];simp only [Option.bind_some,q0d];rw [hgd,Nat.zero_add,hz];simp only [cond_true,Option.bind_some];rw [y7s,x6b _ _ _ hr.1 (by omega)];have e:(so.take i).map (dAt v)++[dAt v so[i]]=(so.take (i+1)).map (dAt v):=by
    rw [List.take_succ_eq_append_getElem hlt,List.map_append];rfl
   rw [e];exact z2m hk hv hg so hin hs n (i+1) (by omega) (by omega)
  ·have hd:=k03 (i:=i) (l:=so) hlt;have hf:so.take i=so:=List.take_of_length_le (by omega);have htk:(q1n (inB (q0r v 0).toNat (so.map (dAt v)))).take (q0r v 0).toNat=q1n (inB (q0r v 0).toNat (so.map (dAt v))):=List.take_of_length_le (by simp [q1n,q6g]);have hmk:mkB (inB (q0r v 0).toNat (so.map (dAt v))) 0=clV v so:=x6e fun x hx=>by
    obtain ⟨y,hy,rfl⟩:=List.mem_map.1 hx
    have:=y50 hg (hin y hy).2
    omega
   rw [hd,hf,htk,y78 hk _ (by rw [q6g];omega),hmk];simp only [cond_false];rw [y68,List.take_of_length_le (by simp)]
theorem z8q {p:Prg} (hs:q0h p=true) {v:List Int} (h:v.length=nS p):v≠[]:=by
 have:=(q3e hs).1
 rintro rfl
 simp at h;omega
theorem q5j {k:Nat} (hk:1020<=k) {v:List Int} (hv:OkV v) (h0:v≠[]) (hg:q04 v 0=true) (so:List Int) (hin:∀ x∈so,inG v.length x) (hs:so.length<=1000):c130 k (encZ v) (encZ so)=r130 (encZ (clV v so)):=by
 obtain ⟨k,rfl⟩:=k01 (k:=k) (by omega);have hml:=q3m hg;have hvl:=hv.len;rw [n130,y3y (by omega) (by omega) h0 hg];simp only [w45,q0b];have hgd:((q0r v 0==q0r v 0)&&decide ((0:Int)<=q0r v 0)&&decide ((q0r v 0).toNat*1<=LIM)&&decide ((q0r v 0).toNat<=LIM))=true:=by
  have q1:decide ((q0r v 0).toNat*1<=LIM)=true:=decide_eq_true (by unfold LIM;omega);have q2:decide ((q0r v 0).toNat<=LIM)=true:=decide_eq_true (by unfold LIM;omega);rw [q1,q2,decide_eq_true hml.1];simp
 have he:List.replicate (q0r v 0).toNat (PV.bool false)=q1n (inB (q0r v 0).toNat ((so.take 0).map (dAt v))):=by
  apply List.ext_getElem
  ·simp [q1n,q6g]
  ·intro i h1 h2;simp [q1n,inB]
 rw [hgd,he];exact z2m (k:=k) (by omega) hv hg so hin hs k 0 (by omega) (by omega)
theorem y7l {k:Nat} (hk:2000<=k) {v:List Int} (hv:OkV v) (so:List Int) (hin:∀ x∈so,inG v.length x) (hs:so.length<=500):∀ (n i:Nat) (o:List Int),so.length-i<n->i<=so.length->o.length<=i ->
  y2r k n o.length (encZ so) (so.length:Int) (i:Int) (encZ v) (encZ o)=r181 (encZ (q1h o ((so.drop i).map (dAt v))))
 | 0,i,o,h,hi,ho=>by omega
 | n+1,i,o,h,hi,ho=>by
  rw [w7v,q0v];by_cases hlt:i<so.length
  ·have hd:=k04 (i:=i) (l:=so) hlt;have hnext:=k02 (i:=i) (by omega);have hx:=hin _ (List.getElem_mem hlt);have hpl:=q7f o (dAt v so[i]);rw [hd,q0l hlt,q0c hlt,hnext];simp only [cond_true,Option.bind_some,q0d];rw [y4l hx.1 hx.2];simp only [Option.bind_some,q0d];rw [z33 hk o (by omega)];simp only [y3g,q0b,List.map_cons];exact y7l hk hv so hin hs n (i+1) _ (by omega) (by omega) (by omega)
  ·have hd:=k03 (i:=i) (l:=so) hlt;rw [hd,List.drop_eq_nil_of_le (by omega)];rfl
theorem z8h {k:Nat} (hk:2010<=k) {v:List Int} (hv:OkV v) (so:List Int) (hin:∀ x∈so,inG v.length x) (hs:so.length<=500):c181 k (encZ v) (encZ so)=r181 (encZ (clV v so)):=by
 obtain ⟨k,rfl⟩:=k01 (k:=k) (by omega);rw [n181,q0b];exact y7l (k:=k) (by omega) hv so hin hs k 0 [] (by omega) (by omega) (by simp)
theorem z32 {k:Nat} (c:Int) (v:List Int) (hv:v.length<=1000):∀ (n i:Nat) (o:List Int),v.length-i<n->i<=v.length->o.length<=i ->
  z55 k n c o.length (encZ v) (v.length:Int) (i:Int) (encZ o)=r227 (encZ (o++stF c (v.drop i) i))
 | 0,i,o,h,hi,ho=>by omega
 | n+1,i,o,h,hi,ho=>by
  rw [w8g,q0v];by_cases hlt:i<v.length
  ·have hd:=k04 (i:=i) (l:=v) hlt;have hnext:=k02 (i:=i) (by omega);rw [hd,q0l hlt,q0c hlt,hnext];simp only [cond_true,Option.bind_some,q0d,stF];cases (v[i]==c)
   ·exact z32 c v hv n (i+1) o (by omega) (by omega) (by omega)
   ·rw [q0p (by omega) (by omega),q00]
    have:=z32 (k:=k) c v hv n (i+1) (o++[(i:Int)]) (by omega) (by omega) (by simp;omega)
    rw [List.length_append,List.append_assoc] at this;exact this
  ·have hd:=k03 (i:=i) (l:=v) hlt;rw [hd,List.drop_eq_nil_of_le (by omega)];simp [stF]
theorem x13 {k:Nat} (hk:1010<=k) {v:List Int} (hv:v.length<=1000) (c:Int):c227 k (encZ v) c=r227 (encZ (stV v c)):=by
 obtain ⟨k,rfl⟩:=k01 (k:=k) (by omega);rw [n227,q0b]
 have:=z32 (k:=k) c v hv k 0 [] (by omega) (by omega) (by simp)
 simpa [stV,encZ] using this
theorem v3w {v:List Int} {c x:Int}:x∈stV v c↔inG v.length x /\ dAt v x=c:=by
 rw [stV,y6n];constructor
 ·rintro ⟨j,hj,rfl,h⟩
  refine ⟨⟨by omega,by omega⟩,?_⟩;rw [z8j (by omega)];simpa using h
 ·rintro ⟨⟨h1,h2⟩,h3⟩
  exact ⟨x.toNat,h2,by omega,by rw [<- z8j h2];exact h3⟩
theorem q9l (v:List Int) (c:Int):(stV v c).length<=v.length:=x68 c v 0
theorem q7n {p:Prg} {v:List Int} (hn:v.length=nS p) (c:Int):∀ x∈stV v c,inS p x:=by
 intro x hx
 have:=(v3w.1 hx).1
 rw [hn] at this;exact q33.1 this
theorem x0u {p:Prg} (hp:FitP p) (hs:q0h p=true) {v:List Int} (hn:v.length=nS p) {l:List Int} (hl:∀ x∈l,inS p x):∀ x∈q1p p l,inG v.length x:=by
 intro x hx;obtain ⟨y,h1,h2⟩:=(q81 p l x).1 hx;rw [hn];exact q33.2 (q95 hp hs (hl y h1) x h2)
def stpL (p:Prg) (v:List Int) (c:Int):List Int:=clV v (q1p p (stV v c))
theorem w20 (a b:List Int):encZ a++encZ b=encZ (a++b):=by simp [encZ]
theorem y0k {k:Nat} (hk:1000300<=k) {p:Prg} (hp:FitP p) (hs:q0h p=true) (l1:List PV) {v:List Int} (hv:OkV v) (hn:v.length=nS p) (hg:q04 v 0=true) (l:List Int) (hl:l.length<=100) (hin:∀ x∈l,inS p x):∀ (n i:Nat) (o:List Int),l.length-i<n->i<=l.length->o.length<=6*i->(∀ x∈o,inG v.length x) ->
  y23 k n o.length l.length (l.length:Int) (i:Int) p.wide p.vars l1 (q0f p.cmds) (encZ v) (encZ o) (encZ l)=r241 (encZ (clV v (o++q1p p (l.drop i))))
 | 0,i,o,h,hi,ho,hoi=>by omega
 | n+1,i,o,h,hi,ho,hoi=>by
  rw [w8s,q0v];by_cases hlt:i<l.length
  ·have hd:=k04 (i:=i) (l:=l) hlt;have hnext:=k02 (i:=i) (by omega);have hx:=hin _ (List.getElem_mem hlt);have hnl:=q5u hp l[i];have hb:(decide ((0:Int)<=(i:Int))&&true)=true:=by rw [decide_eq_true (by omega)];rfl
   have hget:(encZ l)[0+(i:Int).toNat]? = some (.int .i64 l[i]):=by rw [Nat.zero_add,Int.toNat_natCast,q1r,List.getElem?_eq_getElem hlt];rfl
   rw [hd,hb,hget,q0c hlt,hnext];simp only [cond_true,Option.bind_some,q0d,q1p];rw [y1q (by omega) hp hs hx];simp only [x7u,q0b];rw [q0p (by omega) (by omega),w20]
   have:=y0k hk hp hs l1 hv hn hg l hl hin n (i+1) (o++nxL p l[i]) (by omega) (by omega) (by simp;omega) (fun x hx2=>by
    rcases List.mem_append.1 hx2 with h | h
    ·exact hoi x h
    ·rw [hn];exact q33.2 (q95 hp hs hx x h))
   rw [List.length_append,List.append_assoc] at this;exact this
  ·have hd:=k03 (i:=i) (l:=l) hlt;rw [hd,List.drop_eq_nil_of_le (by omega),q5j (by omega) hv (z8q hs hn) hg o hoi (by omega)];simp only [cond_false,q1p,List.append_nil];rw [q73,List.take_of_length_le (by simp)]
theorem y9b {k:Nat} (hk:1000400<=k) {p:Prg} (hp:FitP p) (hs:q0h p=true) (l1:List PV) {v:List Int} (hv:OkV v) (hn:v.length=nS p) (hg:q04 v 0=true) (c:Int):c241 k p.wide p.vars l1 (q0f p.cmds) (encZ v) c=r241 (encZ (stpL p v c)):=by
 obtain ⟨k,rfl⟩:=k01 (k:=k) (by omega);have hvl:=hv.len;have hsl:=q9l v c;rw [n241,y0j (by omega) (by omega)];simp only [x9q,q0b];exact y0k (k:=k) (by omega) hp hs l1 hv hn hg (stV v c) (by omega) (q7n hn c) k 0 [] (by omega) (by omega) (by simp) (by simp)
theorem x89 {k:Nat} (hk:1000500<=k) {p:Prg} (hp:FitP p) (hs:q0h p=true) (l1:List PV) {v:List Int} (hv:OkV v) (hn:v.length=nS p) (c:Int):c202 k p.wide p.vars l1 (q0f p.cmds) (encZ v) c=r202 (encZ (stpL p v c)):=by
 obtain ⟨k,rfl⟩:=k01 (k:=k) (by omega);have hvl:=hv.len;have hsl:=q9l v c;have hsi:=q7n hn c;obtain ⟨q1,q2⟩:=q18 (q1p p (stV v c)) [] (by simp);have hmem:∀ x,x∈q1h [] (q1p p (stV v c))↔x∈q1p p (stV v c):=fun x=>by rw [q2];simp
 have hin:∀ x∈q1h [] (q1p p (stV v c)),inG v.length x:=fun x hx=>x0u hp hs hn hsi x ((hmem x).1 hx)
 have hlen:=y56 hs q1 (fun x hx=>q33.1 (by have:=hin x hx;rw [hn] at this;exact this));rw [n202,x13 (by omega) (by omega)];simp only [x90];rw [y4h (by omega) hp hs l1 (stV v c) (by omega) hsi];simp only [x9h];rw [z8h (by omega) hv _ hin (by omega),w2s hmem];simp only [y3e];rfl
theorem w4k {p:Prg} (hp:FitP p) (hs:q0h p=true) {v:List Int} (hn:v.length=nS p) (hg:q04 v 0=true) (c:Int):(stpL p v c).length<=v.length:=q6b hg (x0u hp hs hn (q7n hn c))
theorem v2x {p:Prg} (hp:FitP p) (hs:q0h p=true) {v:List Int} (hn:v.length=nS p) {no:Int} (hi:inS p no):∀ x∈nxL p no,inG v.length x:=by
 intro x hx;rw [hn];exact q33.2 (q95 hp hs hi x hx)
theorem z1n {k:Nat} (v:List Int) (hv:v.length<=1000):∀ (n i m:Nat),v.length-i<n->i<=v.length->m<=i->q04 (v.drop i) (m:Int)=true ->
  z5x k n (m:Int) (encZ v) (v.length:Int) (i:Int)=r208 (q0r (v.drop i) (m:Int))
 | 0,i,m,h,hi,hm,hg=>by omega
 | n+1,i,m,h,hi,hm,hg=>by
  rw [w79];by_cases hlt:i<v.length
  ·have hd:=k04 (i:=i) (l:=v) hlt;have hnext:=k02 (i:=i) (by omega);rw [q0c hlt] at hg ⊢;simp only [q04,Bool.and_eq_true,decide_eq_true_eq] at hg;obtain ⟨h1,h2,h3⟩:=hg;rw [hd,q0l hlt,hnext];simp only [cond_true,Option.bind_some,q0d,q0r];by_cases e:v[i]=(m:Int)
   ·have e1:(v[i]==(m:Int))=true:=by simpa using e
    have e2:decide (v[i]>=(m:Int))=true:=decide_eq_true (by omega);have e3:IntKind.i64.wrap (v[i]+1)=((m+1:Nat):Int):=by rw [e,q0g (by omega) (by omega)];omega
    have e4:(m:Int)+1=((m+1:Nat):Int):=by omega
    rw [e1] at h3 ⊢;rw [e2,e3];simp only [cond_true] at h3 ⊢;rw [e4] at h3 ⊢;exact z1n v hv n (i+1) (m+1) (by omega) (by omega) (by omega) h3
   ·have e1:(v[i]==(m:Int))=false:=by simpa using e
    have e2:decide (v[i]>=(m:Int))=false:=decide_eq_false (by omega);rw [e1] at h3 ⊢;rw [e2];simp only [cond_false] at h3 ⊢;exact z1n v hv n (i+1) m (by omega) (by omega) (by omega) h3
  ·have hd:=k03 (i:=i) (l:=v) hlt;rw [hd,List.drop_eq_nil_of_le (by omega)];rfl
theorem w1j {k:Nat} (hk:1010<=k) {v:List Int} (hv:v.length<=1000) (hg:q04 v 0=true):c208 k (encZ v)=r208 (q0r v 0):=by
 obtain ⟨k,rfl⟩:=k01 (k:=k) (by omega);rw [n208,q0b];exact z1n (k:=k) v hv k 0 0 (by omega) (by omega) (by omega) hg
def clGF (p:Prg) (v:List Int):Nat->Nat->List (List Int)
 | 0,_=>[]
 | m+1,c=>stpL p v (c:Int)::clGF p v m (c+1)
def clG (p:Prg) (v:List Int):List (List Int):=clGF p v (q0r v 0).toNat 0
theorem x1a (p:Prg) (v:List Int):∀ (m c:Nat),(clGF p v m c).length=m
 | 0,c=>rfl
 | m+1,c=>by simp [clGF,x1a p v m]
theorem x5v (p:Prg) (v:List Int):∀ (m c j:Nat),atL (clGF p v m c) j=if j<m then stpL p v ((c+j:Nat):Int) else []
 | 0,c,j=>by simp [clGF,atL]
 | m+1,c,0=>by simp [clGF,atL]
 | m+1,c,j+1=>by
  have:=x5v p v m (c+1) j
  simp only [atL] at this;simp only [clGF,atL,List.getElem?_cons_succ,this,Nat.add_lt_add_iff_right];rw [show c+1+j=c+(j+1) by omega]
theorem q9f {p:Prg} {v:List Int}:(clG p v).length=(q0r v 0).toNat:=x1a p v _ 0
theorem w0n (p:Prg) (v:List Int) (j:Nat):atL (clG p v) j=if j<(q0r v 0).toNat then stpL p v (j:Int) else []:=by
 have:=x5v p v (q0r v 0).toNat 0 j
 rw [Nat.zero_add] at this;exact this
theorem w00 (g:List (List Int)):GrF (q0m g) g:=by
 refine ⟨by simp,fun i hi=>⟨.row 0 0 (encZ (atL g i)),?_,by simp⟩⟩;rw [q13,List.getElem?_eq_getElem hi];simp [atL,hi]
theorem z6p {k:Nat} (hk:1000400<=k) {p:Prg} (hp:FitP p) (hs:q0h p=true) (l1:List PV) {v:List Int} (hv:OkV v) (hn:v.length=nS p) (hg:q04 v 0=true):∀ (n i:Nat) (o:List (List Int)),(q0r v 0).toNat-i<n->i<=(q0r v 0).toNat->o.length<=i ->
  y2t k n o.length (q0r v 0) (i:Int) p.wide p.vars l1 (q0f p.cmds) (encZ v) (q0m o)=r188 (q0m (o++clGF p v ((q0r v 0).toNat-i) i))
 | 0,i,o,h,hi,ho=>by omega
 | n+1,i,o,h,hi,ho=>by
  have hml:=q3m hg;have hvl:=hv.len;have etk:(q0m o).take o.length=q0m o:=List.take_of_length_le (by simp);rw [w71,etk];by_cases hlt:i<(q0r v 0).toNat
  ·have hd:decide ((i:Int)<q0r v 0)=true:=decide_eq_true (by omega);have hnext:=k02 (i:=i) (by omega);obtain ⟨m,hm⟩:∃ m,(q0r v 0).toNat-i=m+1:=⟨(q0r v 0).toNat-i-1,by omega⟩;rw [hd,hnext,hm,y9b hk hp hs l1 hv hn hg];simp only [cond_true,v07,q0b,q0v,clGF];rw [q0p (by omega) (by omega),q6u]
   have:=z6p hk hp hs l1 hv hn hg n (i+1) (o++[stpL p v (i:Int)]) (by omega) (by omega) (by simp;omega)
   rw [List.length_append,List.append_assoc,show (q0r v 0).toNat-(i+1)=m by omega] at this;exact this
  ·have hd:decide ((i:Int)<q0r v 0)=false:=decide_eq_false (by omega);rw [hd,show (q0r v 0).toNat-i=0 by omega];simp [clGF]
theorem y3x {k:Nat} (hk:1000500<=k) {p:Prg} (hp:FitP p) (hs:q0h p=true) (l1:List PV) {v:List Int} (hv:OkV v) (hn:v.length=nS p) (hg:q04 v 0=true):c188 k p.wide p.vars l1 (q0f p.cmds) (encZ v)=r188 (q0m (clG p v)):=by
 obtain ⟨k,rfl⟩:=k01 (k:=k) (by omega);have hml:=q3m hg;have hvl:=hv.len;rw [n188,y3y (by omega) (by omega) (z8q hs hn) hg];simp only [w45];exact z6p (k:=k) (by omega) hp hs l1 hv hn hg k 0 [] (by omega) (by omega) (by simp)
theorem z3g {p:Prg} (hp:FitP p) (hs:q0h p=true) {v:List Int} (hv:OkV v) (hn:v.length=nS p) (hg:q04 v 0=true) (i:Nat):(atL (clG p v) i).length<=1000 /\ ∀ x∈atL (clG p v) i,inG (clG p v).length x:=by
 have hvl:=hv.len;rw [w0n,q9f];split
 ·have:=w4k hp hs hn hg (i:Int)
  refine ⟨by omega,fun x hx=>?_⟩;have hr:=z8i hg (x0u hp hs hn (q7n hn (i:Int))) x hx;exact ⟨hr.1,by omega⟩
 ·exact ⟨by simp,by simp⟩
def q1i (p:Prg) (v:List Int):List Int:=clV v (whI p p.start)
theorem q3s {p:Prg} {v:List Int} (hn:v.length=nS p) (t:List Nd):∀ x∈whI p t,inG v.length x:=by
 intro x hx;rw [hn];exact q33.2 ((q9m p t x).1 hx).1
theorem q37 {p:Prg} {v:List Int} (hn:v.length=nS p) (hg:q04 v 0=true):∀ x∈q1i p v,inG (clG p v).length x:=by
 intro x hx
 have:=z8i hg (q3s hn p.start) x hx
 rw [q9f];exact ⟨this.1,by omega⟩
def z0o (p:Prg) (v:List Int):List Int:=rfL (clG p v) (q1i p v)
theorem y9a {k:Nat} (hk:1000600<=k) {p:Prg} (hp:FitP p) (hs:q0h p=true) {v:List Int} (hv:OkV v) (hn:v.length=nS p) (hg:q04 v 0=true):c111 k p.wide p.vars (encT p.start) (q0f p.cmds) (encZ v)=r111 (encZ (z0o p v)):=by
 obtain ⟨k,rfl⟩:=k01 (k:=k) (by omega);have hml:=q3m hg;have hvl:=hv.len;have hst:=hp.st;have hwl:=q7p hs p.start;have hsl:(q1i p v).length<=v.length:=q6b hg (q3s hn p.start);rw [n111,y3x (by omega) hp hs _ hv hn hg];simp only [x9t];rw [z0v (by omega) hs _ _ p.start (by omega) (z7v hs)];simp only [z6f,q0b,q0v];rw [q5j (by omega) hv (z8q hs hn) hg _ (q3s hn p.start) (by omega)];simp only [q73,q0b,q0v];have hro:=z3g hp hs hv hn hg
 have:=y6j (k:=k) (by omega) (w00 (clG p v)) (by rw [q9f];omega) (fun i=>(hro i).1) (l:=q1i p v) (by omega) (fun i x hx=>(hro i).2 x hx) (q37 hn hg)
 rw [show clV v (whI p p.start)=q1i p v from rfl,this];simp only [v0c];rfl
theorem y46 {p:Prg} (hp:FitP p) (hs:q0h p=true) {v:List Int} (hv:OkV v) (hn:v.length=nS p) (hg:q04 v 0=true) (x:Int):x∈z0o p v↔∃ n,Way (clG p v) (q1i p v) n x :=
 w6j (fun i x hx=>(z3g hp hs hv hn hg i).2 x hx) (q37 hn hg) x
end Go.Proofs.YtgdegfijcijnoaaGreat
namespace Go.Proofs.YtgdegfijcijnoaaGreat
open Go.Dp
theorem y0s (h x:Int):∀ (l d q:List Int),bIn h l d (x::q)=((bIn h l d q).1,x::(bIn h l d q).2)
 | [],d,q=>rfl
 | w::l,d,q=>by
  rw [bIn,bIn];cases decide (dAt d w<0)
  ·exact y0s h x l d q
  ·have:=y0s h x l (d.set w.toNat (dAt d h+1)) (q++[w])
   simpa using this
section
variable {k:Nat} {G:List PV} (h:Int)
theorem w5a (n N L:Nat) (xs q:List PV):z17 k (n+1) G N L xs q=z19 k (n+1) G N 0 L xs q:=by
 rw [w8j,y6l]
theorem far5 (n1:Nat) (N:Nat) (l:List Int) (hll:l.length<=1000) (hl:∀ w∈l,inG N w) (hN:N<=1000):∀ (n j:Nat) (d t:List Int),l.length-j<n->j<=l.length->d.length=N->inG N h->t.length+(l.length-j)<=100000->0<=dAt d h->dAt d h<=100000 ->
  z57 k n1 n G N t.length h (encZ l) (l.length:Int) (j:Int) (encZ d) (encZ t) =
   z17 k n1 G N (bIn h (l.drop j) d t).2.length (encZ (bIn h (l.drop j) d t).1) (encZ (bIn h (l.drop j) d t).2)
 | 0,j,d,t,hn,hj,hd,hh,hq,h0,h1=>by omega
 | n+1,j,d,t,hn,hj,hd,hh,hq,h0,h1=>by
  rw [w8l];by_cases hlt:j<l.length
  ·have hdj:=k04 (i:=j) (l:=l) hlt;have hnext:=k02 (i:=j) (by omega);have hw:=hl _ (List.getElem_mem hlt);rw [hdj,q0l hlt,hnext];simp only [cond_true,Option.bind_some,q0d];rw [q4f hw,q4e (d:=d) (v:=l[j]) (by rw [hd];exact hw)];simp only [cond_true,Option.bind_some,q0d];rw [q0c hlt,bIn];cases hc:decide (dAt d l[j]<0)
   ·exact far5 n1 N l hll hl hN n (j+1) d t (by omega) (by omega) hd hh (by omega) h0 h1
   ·have hwr:IntKind.i64.wrap (dAt d h+1)=dAt d h+1:=q0g (by omega) (by omega);have hlm:(decide ((t.length+1)*8<=LIM)&&decide (t.length+1<=LIM))=true:=q0p (by omega) (by omega);simp only [cond_true];rw [q4f hh,q4e (d:=d) (v:=h) (by rw [hd];exact hh),hlm];simp only [cond_true,Option.bind_some,q0d];rw [hwr,Nat.zero_add,q3b,q0v,q00];have hwh:l[j]≠h:=by
     intro e
     have:=of_decide_eq_true hc
     rw [e] at this;omega
    have hdh:dAt (d.set l[j].toNat (dAt d h+1)) h=dAt d h:=by
     rw [q9i (by rw [hd];exact hw) _ hh.1,if_neg (Ne.symm hwh)]
    have:=far5 n1 N l hll hl hN n (j+1) (d.set l[j].toNat (dAt d h+1)) (t++[l[j]]) (by omega) (by omega) (by rw [List.length_set];exact hd) hh (by simp at hq ⊢;omega) (by rw [hdh];exact h0) (by rw [hdh];exact h1)
    rw [List.length_append] at this;exact this
  ·have hdj:=k03 (i:=j) (l:=l) hlt;have ed:l.drop j=[]:=List.drop_eq_nil_of_le (by omega);rw [hdj,ed];rfl
theorem far4 (n1:Nat) (N:Nat) (l:List Int) (hll:l.length<=1000) (hl:∀ w∈l,inG N w) (hN:N<=1000):∀ (n j:Nat) (d pre t:List Int),l.length-j<n->j<=l.length->d.length=N->inG N h->t.length+(l.length-j)<=100000->0<=dAt d h->dAt d h<=100000 ->
  ∃ pre':List Int,z18 k (n1+1) n G N pre.length t.length h (encZ l) (l.length:Int) (j:Int) (encZ d) (encZ (pre++t)) =
   z19 k (n1+1) G N pre'.length (bIn h (l.drop j) d t).2.length (encZ (bIn h (l.drop j) d t).1) (encZ (pre'++(bIn h (l.drop j) d t).2))
 | 0,j,d,pre,t,hn,hj,hd,hh,hq,h0,h1=>by omega
 | n+1,j,d,pre,t,hn,hj,hd,hh,hq,h0,h1=>by
  rw [w8k];by_cases hlt:j<l.length
  ·have hdj:=k04 (i:=j) (l:=l) hlt;have hnext:=k02 (i:=j) (by omega);have hw:=hl _ (List.getElem_mem hlt);rw [hdj,q0l hlt,hnext];simp only [cond_true,Option.bind_some,q0d];rw [q4f hw,q4e (d:=d) (v:=l[j]) (by rw [hd];exact hw)];simp only [cond_true,Option.bind_some,q0d];rw [q0c hlt,bIn];cases hc:decide (dAt d l[j]<0)
   ·exact far4 n1 N l hll hl hN n (j+1) d pre t (by omega) (by omega) hd hh (by omega) h0 h1
   ·have hwr:IntKind.i64.wrap (dAt d h+1)=dAt d h+1:=q0g (by omega) (by omega);have hlm:(decide ((t.length+1)*8<=LIM)&&decide (t.length+1<=LIM))=true:=q0p (by omega) (by omega);simp only [cond_true];rw [q4f hh,q4e (d:=d) (v:=h) (by rw [hd];exact hh),hlm];simp only [cond_true,Option.bind_some,q0d];rw [hwr,Nat.zero_add,q3b,z02,List.drop_left,q0v,q00];have hwh:l[j]≠h:=by
     intro e
     have:=of_decide_eq_true hc
     rw [e] at this;omega
    have hdh:dAt (d.set l[j].toNat (dAt d h+1)) h=dAt d h:=by
     rw [q9i (by rw [hd];exact hw) _ hh.1,if_neg (Ne.symm hwh)]
    have:=far5 (k:=k) (G:=G) h (n1+1) N l hll hl hN n (j+1) (d.set l[j].toNat (dAt d h+1)) (t++[l[j]]) (by omega) (by omega) (by rw [List.length_set];exact hd) hh (by simp at hq ⊢;omega) (by rw [hdh];exact h0) (by rw [hdh];exact h1)
    rw [List.length_append,w5a] at this;exact ⟨[],this⟩
  ·have hdj:=k03 (i:=j) (l:=l) hlt;have ed:l.drop j=[]:=List.drop_eq_nil_of_le (by omega);rw [hdj,ed];exact ⟨pre,rfl⟩
end
theorem far6 {k:Nat} (hk:2000<=k) {G:List PV} {g:List (List Int)} (hG:GrF G g) (hN:g.length<=1000) (hgl:∀ i,(atL g i).length<=1000) {some':List Int} (hg:∀ (i:Nat) (x:Int),x∈atL g i->inG g.length x) (hs:∀ x∈some',inG g.length x):∀ (m n:Nat) (d q pre:List Int),BfsI g some' d q->negs d+q.length<=m->m<n->(b:Int)->(∀ v,inG g.length v->dAt d v<=b)->b+m<=50000->m<=50000 ->
  z19 k n G g.length pre.length q.length (encZ d) (encZ (pre++q))=r229 (encZ (bOut g m d q))
 | m,0,d,q,pre,hI,hm,hn,b,hb,hbm,hm5=>by omega
 | m,n+1,d,[],pre,hI,hm,hn,b,hb,hbm,hm5=>by
  rw [y6l];have e:bOut g m d []=d:=by unfold bOut;rfl
  have e2:(encZ d).take g.length=encZ d:=by rw [List.take_of_length_le (by simp [hI.len])]
  rw [e2,e];rfl
 | 0,n+1,d,h::t,pre,hI,hm,hn,b,hb,hbm,hm5=>by simp at hm
 | m+1,n+1,d,h::t,pre,hI,hm,hn,b,hb,hbm,hm5=>by
  have hh:=hI.rng h (by simp);have hp:decide ((((h::t).length:Nat):Int)>0)=true:=decide_eq_true (by rw [List.length_cons];omega);have hp2:decide ((0:Int)<(((h::t).length:Nat):Int))=true:=hp;have hp3:(decide ((1:Int)<=(((h::t).length:Nat):Int))&&decide ((((h::t).length:Nat):Int)<=(((h::t).length:Nat):Int)))=true:=by
   rw [decide_eq_true (by rw [List.length_cons];omega),decide_eq_true (by omega)];rfl
  have hget:(encZ (pre++(h::t)))[pre.length]? = some (PV.int .i64 h):=by rw [q1r];simp
  obtain ⟨t',r1,r2,r3,r4,r5⟩:=q53 hg hs h (atL g h.toNat) d t hI (fun x hx=>hx);have hlen:=hgl h.toNat;have hml:(h::t).length<=m+1:=by omega
  have hml2:t.length<=m:=by simp at hml;omega
  obtain ⟨n,rfl⟩:=k01 (k:=n) (by omega);obtain ⟨pre',h5⟩:=far4 (k:=k) (G:=G) h n g.length (atL g h.toNat) hlen (fun w hw=>hg _ w hw) hN k 0 d (pre++[h]) t (by omega) (by omega) hI.len hh (by omega) (hI.vis h (by simp)) (by have:=hb h hh;omega);rw [y6l,hp,hget,hp3];simp only [cond_true,Option.bind_some,q0d];rw [hG.bind hh];have hcons:=y0s h h (atL g h.toNat) d t;rw [hcons] at r1;have e2':(bIn h (atL g h.toNat) d t).2=t':=(List.cons.inj r1).2;have e1':(bIn h (atL g h.toNat) d (h::t)).1=(bIn h (atL g h.toNat) d t).1:=by rw [hcons]
  rw [List.drop_zero,e2'] at h5;have e3:(pre++[h]).length=pre.length+1:=by simp
  have e4:pre++h::t=(pre++[h])++t:=by simp
  have h5':z18 k (n+1) k G g.length (pre.length+1) ((h::t).length-1) h (encZ (atL g h.toNat)) ((atL g h.toNat).length:Int) 0 (encZ d) (encZ (pre++h::t))=z19 k (n+1) G g.length pre'.length t'.length (encZ (bIn h (atL g h.toNat) d t).1) (encZ (pre'++t')):=by
   rw [e4,<- e3];exact h5
  rw [q0b,h5',bOut];have hbd:=hb h hh;have e5:(bIn h (atL g h.toNat) d (h::t)).2=h::t':=by rw [hcons,e2']
  rw [e5,e1'];simp only [List.length_cons,List.drop_succ_cons,List.drop_zero] at hm ⊢;rw [e1'] at r2 r3 r4 r5;refine far6 hk hG hN hgl hg hs m (n+1) _ t' pre' (bPop hg r2 r4) (by omega) (by omega) (b+1) (fun v hv=>?_) (by omega) (by omega);have h1:=r2.bnd h t' rfl v hv;rw [r3 h hh (hI.vis h (by simp))] at h1;omega
theorem far2 {k:Nat} (hk:1<=k) {G:List PV} {N:Nat} (hN:N<=1000) (l:List Int) (hll:l.length<=1000) (hl:∀ w∈l,inG N w):∀ (n j:Nat) (d:List Int),l.length-j<n->j<=l.length->d.length=N ->
  z16 k n G (encZ l) N (encZ l) (l.length:Int) (j:Int) (encZ d)=z17 k k G N l.length (encZ (bSt (l.drop j) d)) (encZ l)
 | 0,j,d,hn,hj,hd=>by omega
 | n+1,j,d,hn,hj,hd=>by
  rw [w8i];by_cases hlt:j<l.length
  ·have hdj:=k04 (i:=j) (l:=l) hlt;have hnext:=k02 (i:=j) (by omega);have hw:=hl _ (List.getElem_mem hlt);rw [hdj,q0l hlt,hnext,q0c hlt,bSt];simp only [cond_true,Option.bind_some,q0d];rw [q4f hw,q4e (d:=d) (v:=l[j]) (by rw [hd];exact hw)];simp only [cond_true,Option.bind_some];rw [Nat.zero_add,q3b];exact far2 hk hN l hll hl n (j+1) _ (by omega) (by omega) (by rw [List.length_set];exact hd)
  ·have hdj:=k03 (i:=j) (l:=l) hlt;rw [hdj,List.drop_eq_nil_of_le (by omega),v2z hk l hll];simp only [cond_false,v4k,q0b];rfl
theorem far1 {k:Nat} {G:List PV} {N:Nat} (hN:N<=1000) (l:List Int):∀ (n j:Nat),N-j<n->j<=N ->
  z56 k n G (encZ l) N (N:Int) (j:Int) (encZ (List.replicate j (-1)++List.replicate (N-j) 0))=z16 k k G (encZ l) N (encZ l) (l.length:Int) 0 (encZ (List.replicate N (-1)))
 | 0,j,hn,hj=>by omega
 | n+1,j,hn,hj=>by
  rw [w8h];by_cases hlt:j<N
  ·have hdj:decide ((j:Int)<(N:Int))=true:=by simpa using hlt
   have hnext:=k02 (i:=j) (by omega);have hg:(decide ((0:Int)<=(j:Int))&&true)=true:=by rw [decide_eq_true (by omega)];rfl
   obtain ⟨m,hm⟩:∃ m,N-j=m+1:=⟨N-j-1,by omega⟩;have hat:∃ z,(encZ (List.replicate j (-1)++List.replicate (N-j) 0))[0+(j:Int).toNat]? = some z :=
    ⟨_,List.getElem?_eq_getElem (by simp;omega)⟩
   obtain ⟨z,hz⟩:=hat;have hset:(List.replicate j (-1:Int)++List.replicate (N-j) 0).set j (-1)=List.replicate (j+1) (-1)++List.replicate (N-(j+1)) 0:=by
    rw [List.set_append_right _ _ (by simp),List.length_replicate,Nat.sub_self,hm,List.replicate_succ,List.set_cons_zero,List.replicate_succ',show N-(j+1)=m by omega,List.append_assoc];rfl
   rw [hdj,hg,hz,hnext];simp only [cond_true,Option.bind_some,Nat.zero_add,Int.toNat_natCast];rw [q3b,hset];exact far1 hN l n (j+1) (by omega) (by omega)
  ·have hdj:decide ((j:Int)<(N:Int))=false:=by simpa using hlt
   have e:j=N:=by omega
   subst e;rw [hdj,Nat.sub_self,List.replicate_zero,List.append_nil,q0b];rfl
theorem v2k {k:Nat} (hk:3000<=k) {G:List PV} {g:List (List Int)} (hG:GrF G g) (hN:g.length<=1000) (hgl:∀ i,(atL g i).length<=1000) {l:List Int} (hll:l.length<=500) (hg:∀ (i:Nat) (x:Int),x∈atL g i->inG g.length x) (hs:∀ x∈l,inG g.length x) :
  c229 k G (encZ l)=r229 (encZ (q2a g l)):=by
 obtain ⟨k,rfl⟩:=k01 (k:=k) (by omega);obtain ⟨k',rfl⟩:∃ j,k=j+1:=⟨k-1,by omega⟩;have hgd:(((G.length:Int)==(G.length:Int))&&decide ((0:Int)<=(G.length:Int))&&decide (G.length*8<=LIM)&&decide (G.length<=LIM))=true:=by
  have:=hG.len
  have q1:decide (G.length*8<=LIM)=true:=decide_eq_true (by unfold LIM;omega);have q2:decide (G.length<=LIM)=true:=decide_eq_true (by unfold LIM;omega);rw [q1,q2];simp
 have he:List.replicate g.length (PV.int .i64 0)=encZ (List.replicate 0 (-1)++List.replicate (g.length-0) 0):=by simp [encZ]
 have h1:=far1 (k:=k'+1) (G:=G) (N:=g.length) hN l (k'+1) 0 (by omega) (by omega);have h2:=far2 (k:=k'+1) (by omega) (G:=G) (N:=g.length) hN l (by omega) hs (k'+1) 0 (List.replicate g.length (-1)) (by omega) (by omega) (by simp);rw [n229,hgd,hG.len,he];have h1':z56 (k'+1) (k'+1) G (encZ l) g.length (g.length:Int) 0 (encZ (List.replicate 0 (-1)++List.replicate (g.length-0) 0))=_:=h1;have h2':z16 (k'+1) (k'+1) G (encZ l) g.length (encZ l) (l.length:Int) 0 (encZ (List.replicate g.length (-1)))=_:=h2;simp only [cond_true];rw [h1',h2',List.drop_zero,w5a];have hI:=q78 (g:=g) hs;have hneg:=y6c (bSt l (List.replicate g.length (-1)));have hlen:=hI.len;refine far6 (by omega) hG hN hgl hg hs (l.length+g.length) (k'+1) _ l [] hI (by omega) (by omega) 0 (fun v hv=>?_) (by omega) (by omega);rw [(q9v l (List.replicate g.length (-1)) (fun v hv=>by simpa using hs v hv)).2 v hv.1,z8k]
 split <;> omega
theorem z61 {k:Nat} (hk:1000500<=k) {p:Prg} (hp:FitP p) (hs:q0h p=true) (l1:List PV) {v:List Int} (hv:OkV v) (hn:v.length=nS p) (hg:q04 v 0=true):∀ (n i:Nat) (o:List (List Int)),(q0r v 0).toNat-i<n->i<=(q0r v 0).toNat->o.length<=i ->
  y2s k n o.length (i:Int) p.wide p.vars l1 (q0f p.cmds) (encZ v) (q0m o)=r183 (q0m (o++clGF p v ((q0r v 0).toNat-i) i))
 | 0,i,o,h,hi,ho=>by omega
 | n+1,i,o,h,hi,ho=>by
  have hml:=q3m hg;have hvl:=hv.len;have etk:(q0m o).take o.length=q0m o:=List.take_of_length_le (by simp);rw [w7y,etk,w1j (by omega) (by omega) hg];simp only [v0l];by_cases hlt:i<(q0r v 0).toNat
  ·have hd:decide ((i:Int)<q0r v 0)=true:=decide_eq_true (by omega);have hnext:=k02 (i:=i) (by omega);obtain ⟨m,hm⟩:∃ m,(q0r v 0).toNat-i=m+1:=⟨(q0r v 0).toNat-i-1,by omega⟩;rw [hd,hnext,hm,x89 hk hp hs l1 hv hn];simp only [cond_true,v0i,clGF];rw [q0p (by omega) (by omega),q6u]
   have:=z61 hk hp hs l1 hv hn hg n (i+1) (o++[stpL p v (i:Int)]) (by omega) (by omega) (by simp;omega)
   rw [List.length_append,List.append_assoc,show (q0r v 0).toNat-(i+1)=m by omega] at this;exact this
  ·have hd:decide ((i:Int)<q0r v 0)=false:=decide_eq_false (by omega);rw [hd,show (q0r v 0).toNat-i=0 by omega];simp [clGF]
theorem x8n {k:Nat} (hk:1000600<=k) {p:Prg} (hp:FitP p) (hs:q0h p=true) (l1:List PV) {v:List Int} (hv:OkV v) (hn:v.length=nS p) (hg:q04 v 0=true):c183 k p.wide p.vars l1 (q0f p.cmds) (encZ v)=r183 (q0m (clG p v)):=by
 obtain ⟨k,rfl⟩:=k01 (k:=k) (by omega);have hml:=q3m hg;have hvl:=hv.len;rw [n183];exact z61 (k:=k) (by omega) hp hs l1 hv hn hg k 0 [] (by omega) (by omega) (by simp)
theorem x81 {p:Prg} (hp:FitP p) (hs:q0h p=true) {v:List Int} (hv:OkV v) (hn:v.length=nS p) (hg:q04 v 0=true):(z0o p v).length<=100:=by
 have hml:=q3m hg;have hvl:=hv.len;have hro:=z3g hp hs hv hn hg;have h1:=(q70 (g:=clG p v) (some:=q1i p v) (fun i x hx=>(hro i).2 x hx) (q37 hn hg)).1;have h2:=x6i (q2a (clG p v) (q1i p v)) 0;rw [q9f] at h1;have h3:(z0o p v).length=(nnF (q2a (clG p v) (q1i p v)) 0).length:=rfl;omega
end Go.Proofs.YtgdegfijcijnoaaGreat
namespace Go.Proofs.YtgdegfijcijnoaaGreat
open Go.Dp
theorem v3z {g:List (List Int)} {A:List Int} (hg:∀ (i:Nat) (x:Int),x∈atL g i->inG g.length x) (hA:∀ x∈A,inG g.length x) {m:Nat} {y:Int} (h:Way g A m y):inG g.length y:=by
 cases h with
 | start _ h=>exact hA _ h
 | step n v w h hw=>exact hg _ _ hw
theorem y6q {g:List (List Int)} {A:List Int} {m:Nat} {y:Int}:Way g A m y↔∃ s∈A,Way g [s] m y:=by
 constructor
 ·intro h
  induction h with
  | start v h=>exact ⟨v,h,.start v (by simp)⟩
  | step n v w _ hw ih=>
   obtain ⟨s,h1,h2⟩:=ih;exact ⟨s,h1,.step n v w h2 hw⟩
 ·rintro ⟨s,hs,h⟩
  induction h with
  | start v h=>rw [List.mem_singleton.1 h];exact .start s hs
  | step n v w _ hw ih=>exact .step n v w ih hw
theorem x7c {g:List (List Int)} {v w:Int} (hw:w∈atL g v.toNat) {n:Nat} {y:Int} (h:Way g [w] n y):Way g [v] (n+1) y:=by
 induction h with
 | start u h=>rw [List.mem_singleton.1 h];exact .step 0 v w (.start v (by simp)) hw
 | step n u x _ hx ih=>exact .step (n+1) u x ih hx
theorem y17 {g:List (List Int)} (hr:∀ z∈g,∀ x∈z,0<=x /\ x.toNat<g.length) {v w:Int} (hv:0<=v) (hw:0<=w):v∈atL (q1z g) w.toNat↔w∈atL g v.toNat:=by
 rw [z71 hr,show ((w.toNat:Nat):Int)=w by omega];constructor
 ·rintro ⟨j,z,h1,h2,h3⟩
  have:v.toNat=j:=by omega
  unfold atL;rw [this,h1];exact h3
 ·intro h;unfold atL at h;cases hz:g[v.toNat]? with
  | none=>rw [hz] at h;simp at h
  | some z=>rw [hz] at h;exact ⟨v.toNat,z,hz,by omega,h⟩
theorem x0w {g:List (List Int)} (hr:∀ z∈g,∀ x∈z,0<=x /\ x.toNat<g.length) (i:Nat) (x:Int) (h:x∈atL g i):inG g.length x:=by
 unfold atL at h;cases hz:g[i]? with
 | none=>rw [hz] at h;simp at h
 | some z=>rw [hz] at h;exact hr z (List.mem_of_getElem? hz) x h
theorem x3m {g:List (List Int)} (hr:∀ z∈g,∀ x∈z,0<=x /\ x.toNat<g.length) {x y:Int} (hx:0<=x) (hy:0<=y) {m:Nat}:Way (q1z g) [y] m x↔Way g [x] m y:=by
 have hT:∀ (i:Nat) (x:Int),x∈atL (q1z g) i->0<=x:=by
  intro i x h;obtain ⟨j,z,_,h2,_⟩:=(z71 hr i x).1 h;omega
 have pos:∀ {g':List (List Int)} {a:Int} {m:Nat} {b:Int},(∀ (i:Nat) (x:Int),x∈atL g' i->0<=x)->0<=a->Way g' [a] m b->0<=b:=by
  intro g' a m b h1 h2 h3;cases h3 with
  | start _ h=>rw [List.mem_singleton.1 h];exact h2
  | step n v w h hw=>exact h1 _ _ hw
 constructor
 ·intro h;clear hx
  induction h with
  | start v h=>rw [List.mem_singleton.1 h];exact .start y (by simp)
  | step n v w h hw ih=>
   have h0:=pos hT hy h;have h1:=hT _ _ hw;exact x7c ((y17 hr h1 h0).1 hw) ih
 ·intro h;clear hy
  induction h with
  | start v h=>rw [List.mem_singleton.1 h];exact .start x (by simp)
  | step n v w h hw ih=>
   have h0:=pos (fun i x h=>(x0w hr i x h).1) hx h;have h1:=(x0w hr _ _ hw).1;exact x7c ((y17 hr h0 h1).2 hw) ih
def q2g (D:List Int):List Int->Int->Int
 | [],b=>b
 | v::l,b=>bif decide (dAt D v>=0) then (bif decide (b<0) then q2g D l v else bif decide (dAt D v<dAt D b) then q2g D l v else q2g D l b) else q2g D l b
theorem q30 (D:List Int):∀ (l:List Int) (b:Int),(∀ v∈l,0<=v)->(0<=b->0<=dAt D b) ->
  (q2g D l b=b /\ ∀ v∈l,0<=dAt D v->0<=b /\ dAt D b<=dAt D v)∨(q2g D l b∈l /\ 0<=dAt D (q2g D l b) /\ (∀ v∈l,0<=dAt D v->dAt D (q2g D l b)<=dAt D v) /\ (0<=b->dAt D (q2g D l b)<=dAt D b))
 | [],b,hl,hb=>.inl ⟨rfl,by simp⟩
 | v::l,b,hl,hb=>by
  have hv:=hl v (by simp);have hl2:∀ u∈l,0<=u:=fun u hu=>hl u (by simp [hu])
  rw [q2g];by_cases h0:dAt D v>=0
  ·rw [decide_eq_true h0];simp only [cond_true];have take:(b<0∨dAt D v<dAt D b)->(q2g D l v∈v::l /\ 0<=dAt D (q2g D l v) /\ (∀ u∈v::l,0<=dAt D u->dAt D (q2g D l v)<=dAt D u) /\ (0<=b->dAt D (q2g D l v)<=dAt D b)):=by
    intro hb2;rcases q30 D l v hl2 (fun _=>h0) with ⟨h1,h2⟩ | ⟨h1,h2,h3,h4⟩
    ·rw [h1];refine ⟨by simp,h0,fun u hu hu0=>?_,fun h=>by omega⟩;rcases List.mem_cons.1 hu with rfl | hu
     ·omega
     ·exact (h2 u hu hu0).2
    ·have:=h4 hv
     refine ⟨by simp [h1],h2,fun u hu hu0=>?_,fun h=>by omega⟩;rcases List.mem_cons.1 hu with rfl | hu
     ·omega
     ·exact h3 u hu hu0
   by_cases h1:b<0
   ·rw [decide_eq_true h1];exact .inr (take (.inl h1))
   ·rw [decide_eq_false h1];simp only [cond_false];by_cases h2:dAt D v<dAt D b
    ·rw [decide_eq_true h2];exact .inr (take (.inr h2))
    ·rw [decide_eq_false h2];simp only [cond_false];rcases q30 D l b hl2 hb with ⟨h3,h4⟩ | ⟨h3,h4,h5,h6⟩
     ·refine .inl ⟨h3,fun u hu hu0=>?_⟩;rcases List.mem_cons.1 hu with rfl | hu
      ·exact ⟨by omega,by omega⟩
      ·exact h4 u hu hu0
     ·have:=h6 (by omega)
      refine .inr ⟨by simp [h3],h4,fun u hu hu0=>?_,h6⟩;rcases List.mem_cons.1 hu with rfl | hu
      ·omega
      ·exact h5 u hu hu0
  ·rw [decide_eq_false h0];simp only [cond_false];rcases q30 D l b hl2 hb with ⟨h3,h4⟩ | ⟨h3,h4,h5,h6⟩
   ·refine .inl ⟨h3,fun u hu hu0=>?_⟩;rcases List.mem_cons.1 hu with rfl | hu
    ·omega
    ·exact h4 u hu hu0
   ·refine .inr ⟨by simp [h3],h4,fun u hu hu0=>?_,h6⟩;rcases List.mem_cons.1 hu with rfl | hu
    ·omega
    ·exact h5 u hu hu0
def nxtQ (D:List Int) (v:Int) (w:Int):Bool:=dAt D w==dAt D v-1
def nxtF (g:List (List Int)) (D:List Int) (v:Int):Int:=((atL g v.toNat)[(fixI (nxtQ D v) 0 (atL g v.toNat)).toNat]?).getD 0
theorem y8d {g:List (List Int)} {D:List Int} {v:Int} (h:∃ w∈atL g v.toNat,dAt D w=dAt D v-1):nxtF g D v∈atL g v.toNat /\ dAt D (nxtF g D v)=dAt D v-1 /\
  ∃ j:Nat,fixI (nxtQ D v) 0 (atL g v.toNat)=(j:Int) /\ (atL g v.toNat)[j]? = some (nxtF g D v):=by
 rcases q3i (nxtQ D v) (atL g v.toNat) 0 with ⟨_,h1⟩ | ⟨j,hj,h1,h2,_⟩
 ·obtain ⟨w,hw,hd⟩:=h
  have:=h1 w hw
  unfold nxtQ at this;rw [hd] at this;simp at this
 ·rw [Nat.zero_add] at h1;have e:nxtF g D v=(atL g v.toNat)[j]:=by
   unfold nxtF;rw [h1,Int.toNat_natCast,List.getElem?_eq_getElem hj];rfl
  rw [e];refine ⟨List.getElem_mem hj,?_,j,h1,List.getElem?_eq_getElem hj⟩;unfold nxtQ at h2;simpa using h2
def q7q (g:List (List Int)) (D:List Int):Nat->Int->List Int
 | 0,_=>[]
 | m+1,v=>nxtF g D v::q7q g D m (nxtF g D v)
theorem y7q (g:List (List Int)) (D:List Int):∀ (m:Nat) (v:Int),(q7q g D m v).length=m
 | 0,v=>rfl
 | m+1,v=>by rw [q7q,List.length_cons,y7q g D m]
def x0q (g:List (List Int)) (D:List Int):Prop:=∀ v,inG g.length v->0<dAt D v->∃ w∈atL g v.toNat,dAt D w=dAt D v-1
section
variable {k:Nat}
theorem y77 {k:Nat} (l0:List PV) (v0:Int) (f:Int->Bool) (l:List (Int)) (hl:l.length<=100000) (hc:∀ x∈l,c249 k x l0 v0=r249 (f x)):∀ (n i:Nat),l.length-i<n->i<=l.length->q8v k n (encZ l) l0 v0 (l.length:Int) (i:Int)=q7g (fixI f i (l.drop i))
 | 0,i,h,hi=>by omega
 | n+1,i,h,hi=>by
  rw [x46];by_cases hlt:i<l.length
  ·have hd:=k04 (i:=i) (l:=l) hlt;have hnext:=k02 (i:=i) (by omega);rw [hd,q0l hlt,q0c hlt,hnext];simp only [cond_true,Option.bind_some,q0d];rw [hc _ (List.getElem_mem hlt)];simp only [v1b,fixI];cases f l[i]
   ·exact y77 l0 v0 f l hl hc n (i+1) (by omega) (by omega)
   ·rfl
  ·have hd:=k03 (i:=i) (l:=l) hlt;rw [hd,List.drop_eq_nil_of_le (by omega)];rfl
theorem w3f {k:Nat} (hk:100010<=k) (l0:List PV) (v0:Int) (f:Int->Bool) (l:List (Int)) (hl:l.length<=100000) (hc:∀ x∈l,c249 k x l0 v0=r249 (f x)):z3d (k+1) (encZ l) l0 v0=q7g (fixI f 0 l):=by
 rw [w3p,q0b];exact y77 (k:=k) l0 v0 f l hl hc k 0 (by omega) (by omega)
theorem q46 {D:List Int} {v:Int} (h:inG D.length v):q0e (encZ D) v=some (.int .i64 (dAt D v)):=by
 have:=q4e h
 rw [Nat.zero_add] at this;have e:v=((v.toNat:Nat):Int):=by have:=h.1;omega
 have h2:q0e (encZ D) v=(encZ D)[v.toNat]?:=by rw [e,q0n,Int.toNat_natCast]
 rw [h2,this]
theorem q77 (G:List PV) (l D:List Int) (hl:l.length<=1000) (hin:∀ v∈l,inG D.length v):∀ (n i:Nat) (b:Int),l.length-i<n->i<=l.length->(b<0∨inG D.length b) ->
  q72 k n G b (encZ l) (l.length:Int) (i:Int) (encZ D)=(bif decide (q2g D (l.drop i) b<0) then r197 [] else z5w k k G 1 (encZ D) (q2g D (l.drop i) b) [PV.int .i64 (q2g D (l.drop i) b)])
 | 0,i,b,hn,hi,hb=>by omega
 | n+1,i,b,hn,hi,hb=>by
  rw [w77];by_cases hlt:i<l.length
  ·have hd:=k04 (i:=i) (l:=l) hlt;have hnext:=k02 (i:=i) (by omega);have hv:=hin _ (List.getElem_mem hlt);rw [hd,q0l hlt,hnext,q0c hlt,q2g];simp only [cond_true,Option.bind_some,q0d];rw [q46 hv];simp only [Option.bind_some,q0d];cases h0:decide (dAt D l[i]>=0)
   ·exact q77 G l D hl hin n (i+1) b (by omega) (by omega) hb
   ·simp only [cond_true];cases h1:decide (b<0)
    ·have hbin:inG D.length b:=by
      rcases hb with h | h
      ·have:=of_decide_eq_false h1;omega
      ·exact h
     simp only [cond_false];rw [q46 hbin];simp only [Option.bind_some,q0d];cases h2:decide (dAt D l[i]<dAt D b)
     ·exact q77 G l D hl hin n (i+1) b (by omega) (by omega) hb
     ·exact q77 G l D hl hin n (i+1) _ (by omega) (by omega) (.inr hv)
    ·exact q77 G l D hl hin n (i+1) _ (by omega) (by omega) (.inr hv)
  ·have hd:=k03 (i:=i) (l:=l) hlt;rw [hd,List.drop_eq_nil_of_le (by omega)];rfl
theorem y7r (hk:200000<=k) {G:List PV} {g:List (List Int)} (hG:GrF G g) (hgl:∀ i,(atL g i).length<=1000) (hg:∀ (i:Nat) (x:Int),x∈atL g i->inG g.length x) {D:List Int} (hD:D.length=g.length) (hst:x0q g D):∀ (m n:Nat) (v:Int) (o:List Int),m<n->inG g.length v->dAt D v=(m:Int)->m<=10000->o.length+m<=50000->o≠[] ->
  z5w k n G o.length (encZ D) v (encZ o)=r197 (encZ (o++q7q g D m v))
 | m,0,v,o,hn,hv,hd,hm,ho,hne=>by omega
 | 0,n+1,v,o,hn,hv,hd,hm,ho,hne=>by
  have etk:(encZ o).take o.length=encZ o:=by rw [List.take_of_length_le (by simp)]
  rw [x6y,q46 (by rw [hD];exact hv),etk,q7q,List.append_nil];simp only [Option.bind_some,q0d];rw [hd];cases o with
  | nil=>exact absurd rfl hne
  | cons x o=>rfl
 | m+1,n+1,v,o,hn,hv,hd,hm,ho,hne=>by
  have etk:(encZ o).take o.length=encZ o:=by rw [List.take_of_length_le (by simp)]
  obtain ⟨h1,h2,j,h3,h4⟩:=y8d (hst v hv (by omega));have hp:decide (dAt D v>0)=true:=decide_eq_true (by omega);have hlen:=hgl v.toNat;rw [x6y,q46 (by rw [hD];exact hv),etk];simp only [Option.bind_some,q0d];rw [hp,hG.bind hv];have hidx:z3d k (encZ (atL g v.toNat)) (encZ D) v=q7g (fixI (nxtQ D v) 0 (atL g v.toNat)):=by
   obtain ⟨k',rfl⟩:∃ j,k=j+2:=⟨k-2,by omega⟩;exact w3f (k:=k'+1) (by omega) (encZ D) v (nxtQ D v) (atL g v.toNat) (by omega) (fun x hx=>by
    rw [n249,q46 (by rw [hD];exact hg _ _ hx),q46 (by rw [hD];exact hv)];simp only [Option.bind_some,q0d];rw [q0g (by omega) (by omega)]
    rfl)
  rw [hidx];simp only [cond_true,x3y];rw [hG.bind hv,h3,q0n,q1r,h4];simp only [Option.map_some,Option.bind_some,q0d];rw [q0p (by omega) (by omega),q00,q7q];simp only [cond_true]
  have:=y7r hk hG hgl hg hD hst m n (nxtF g D v) (o++[nxtF g D v]) (by omega) (hg _ _ h1) (by omega) (by omega) (by simp;omega) (by simp)
  rw [List.length_append,List.append_assoc] at this;exact this
end
end Go.Proofs.YtgdegfijcijnoaaGreat
namespace Go.Proofs.YtgdegfijcijnoaaGreat
open Go.Dp
theorem y3q {g:List (List Int)} {A:List Int} (hg:∀ (i:Nat) (x:Int),x∈atL g i->inG g.length x) (hs:∀ x∈A,inG g.length x):∀ (m:Nat) (d q:List Int) (b:Int),BfsI g A d q->(∀ v,inG g.length v->dAt d v<=b)->∀ v,inG g.length v->dAt (bOut g m d q) v<=b+m
 | m,d,[],b,hI,hb=>fun v hv=>by
  have:=hb v hv
  unfold bOut;omega
 | 0,d,h::t,b,hI,hb=>fun v hv=>by
  have:=hb v hv
  unfold bOut;omega
 | m+1,d,h::t,b,hI,hb=>fun v hv=>by
  obtain ⟨t',r1,r2,r3,r4,r5⟩:=q53 hg hs h (atL g h.toNat) d t hI (fun x hx=>hx);have hh:=hI.rng h (by simp);have hbd:=hb h hh
  have:=y3q hg hs m _ t' (b+1) (bPop hg r2 r4) (fun u hu=>by
   have h1:=r2.bnd h t' rfl u hu;rw [r3 h hh (hI.vis h (by simp))] at h1
   omega) v hv
  rw [bOut,r1];simp only [List.drop_succ_cons,List.drop_zero];omega
end Go.Proofs.YtgdegfijcijnoaaGreat
namespace Go.Proofs.YtgdegfijcijnoaaGreat
open Go.Dp
theorem z98 (v:Int):∀ (l:List Int) (o:List (List Int)),(∀ x∈l,0<=x /\ x.toNat<o.length)->l.Nodup->∀ (w:Nat),(atL (q10 v l o) w).length<=(atL o w).length+(if (w:Int)∈l then 1 else 0)
 | [],o,hl,hn,w=>by simp [q10]
 | x::l,o,hl,hn,w=>by
  obtain ⟨h0,h1⟩:=hl x (by simp);obtain ⟨hx,hn⟩:=List.nodup_cons.1 hn;have ih:=z98 v l (o.set x.toNat ((o[x.toNat]?).getD []++[v])) (fun z hz=>by rw [List.length_set];exact hl z (by simp [hz])) hn w;have e:atL (o.set x.toNat ((o[x.toNat]?).getD []++[v])) w=if x.toNat=w then atL o w++[v] else atL o w:=by
   unfold atL;rw [List.getElem?_set];by_cases he:x.toNat=w
   ·subst he;simp [h1]
   ·simp [he]
  rw [e] at ih;rw [q10];by_cases he:x.toNat=w
  ·have hw:(w:Int)=x:=by omega
   rw [if_pos he,hw,if_neg hx,List.length_append,List.length_singleton] at ih;rw [hw,if_pos (by simp)];omega
  ·rw [if_neg he] at ih;by_cases hm:(w:Int)∈l
   ·rw [if_pos hm] at ih;rw [if_pos (by simp [hm])];exact ih
   ·rw [if_neg hm] at ih
    split <;> omega
theorem y8v:∀ (l:List (List Int)) (i:Nat) (o:List (List Int)),(∀ z∈l,z.Nodup /\ ∀ x∈z,0<=x /\ x.toNat<o.length)->∀ (w:Nat),(atL (q5e i l o) w).length<=(atL o w).length+l.length
 | [],i,o,hl,w=>by simp [q5e]
 | z::l,i,o,hl,w=>by
  have h1:=y8v l (i+1) (q10 (i:Int) z o) (fun u hu=>by rw [q5];exact hl u (by simp [hu])) w;have h2:=z98 (i:Int) z o (hl z (by simp)).2 (hl z (by simp)).1 w;rw [q5e,List.length_cons];split at h2 <;> omega
theorem y8y {g:List (List Int)} (hg:∀ z∈g,z.Nodup /\ ∀ x∈z,0<=x /\ x.toNat<g.length) (w:Nat):(atL (q1z g) w).length<=g.length:=by
 have:=y8v g 0 (List.replicate g.length []) (fun z hz=>by simpa using hg z hz) w
 have e:atL (List.replicate g.length ([]:List Int)) w=[]:=by
  unfold atL;rw [List.getElem?_replicate]
  split <;> rfl
 rw [e] at this;simpa [q1z] using this
structure GrOK (g:List (List Int)):Prop where
 len:g.length<=100
 row:∀ z∈g,z.Nodup /\ ∀ x∈z,0<=x /\ x.toNat<g.length
 sh:∀ z∈g,z.length<=1000
theorem GrOK.rows {g:List (List Int)} (h:GrOK g):∀ z∈g,∀ x∈z,0<=x /\ x.toNat<g.length:=fun z hz=>(h.row z hz).2
theorem GrOK.inn {g:List (List Int)} (h:GrOK g):∀ (i:Nat) (x:Int),x∈atL g i->inG g.length x:=x0w h.rows
theorem GrOK.tin {g:List (List Int)} (h:GrOK g) (i:Nat) (x:Int) (hx:x∈atL (q1z g) i):inG (q1z g).length x:=by
 rw [q2m];obtain ⟨j,z,h1,h2,_⟩:=(z71 h.rows i x).1 hx
 have:=(List.getElem?_eq_some_iff.1 h1).1
 exact ⟨by omega,by omega⟩
theorem GrOK.lens {g:List (List Int)} (h:GrOK g) (i:Nat):(atL g i).length<=1000:=by
 unfold atL;cases hz:g[i]? with
 | none=>simp
 | some z=>simpa using h.sh z (List.mem_of_getElem? hz)
theorem GrOK.fit {g:List (List Int)} (h:GrOK g):GrF (q0m g) g:=by
 refine ⟨by simp,fun i hi=>⟨.row 0 0 (encZ (atL g i)),?_,by simp⟩⟩;rw [q13,List.getElem?_eq_getElem hi];simp [atL,hi]
def farT (g:List (List Int)) (B:List Int):List Int:=q2a (q1z g) B
def q1x (g:List (List Int)) (A B:List Int):Int:=q2g (farT g B) A (-1)
def wayT (g:List (List Int)) (A B:List Int):List Int:=bif decide (q1x g A B<0) then [] else q1x g A B::q7q g (farT g B) (dAt (farT g B) (q1x g A B)).toNat (q1x g A B)
theorem z03 {g:List (List Int)} (h:GrOK g) {B:List Int} (hB:∀ x∈B,inG g.length x):(farT g B).length=g.length /\
  (∀ v,inG g.length v->(dAt (farT g B) v=-1 /\ ∀ n,¬ Way (q1z g) B n v)∨(0<=dAt (farT g B) v /\ Way (q1z g) B (dAt (farT g B) v).toNat v /\ ∀ n,Way (q1z g) B n v->dAt (farT g B) v<=n)):=by
 have:=q70 h.tin (some:=B) (fun x hx=>by rw [q2m];exact hB x hx)
 rw [q2m] at this;exact this
theorem y51 {g:List (List Int)} (h:GrOK g) {B:List Int} (hB:∀ x∈B,inG g.length x) (v:Int) (hv:inG g.length v):dAt (farT g B) v<=B.length+g.length:=by
 have hB':∀ x∈B,inG (q1z g).length x:=fun x hx=>by rw [q2m];exact hB x hx
 have:=y3q h.tin hB' (B.length+(q1z g).length) _ B 0 (q78 hB') (fun v hv=>by
  rw [(q9v B (List.replicate (q1z g).length (-1)) (fun v hv=>by simpa using hB' v hv)).2 v hv.1,z8k]
  split <;> omega) v (by rw [q2m];exact hv)
 unfold farT q2a;rw [q2m] at this ⊢;omega
theorem z9n {g:List (List Int)} (h:GrOK g) {B:List Int} (hB:∀ x∈B,inG g.length x):x0q g (farT g B):=by
 obtain ⟨l2,d2⟩:=z03 h hB;have hB':∀ x∈B,inG (q1z g).length x:=fun x hx=>by rw [q2m];exact hB x hx
 intro v hv h0;rcases d2 v hv with ⟨h,_⟩ | ⟨h1,h2,h3⟩
 ·omega
 ·generalize hm:dAt (farT g B) v=D at *
  obtain ⟨m,hm2⟩:∃ m:Nat,D=((m+1:Nat):Int):=⟨D.toNat-1,by omega⟩;have e:D.toNat=m+1:=by omega
  rw [e] at h2;cases h2 with
  | step _ u _ hu huv=>
   have huin:inG g.length u:=by rw [<- q2m g];exact v3z h.tin hB' hu
   have hmem:=(y17 h.rows hv.1 huin.1).1 huv;refine ⟨u,hmem,?_⟩;rcases d2 u huin with ⟨_,h⟩ | ⟨q1,q2,q3⟩
   ·exact absurd hu (h _)
   ·have a1:=q3 _ hu;have a2:=h3 _ (Way.step _ u v q2 huv);omega
theorem w1f {k:Nat} (hk:300000<=k) {g:List (List Int)} (h:GrOK g) {A B:List Int} (hAl:A.length<=500) (hA:∀ x∈A,inG g.length x) (hBl:B.length<=500) (hB:∀ x∈B,inG g.length x) :
  c197 k (q0m g) (encZ A) (encZ B)=r197 (encZ (wayT g A B)):=by
 obtain ⟨l2,d2⟩:=z03 h hB;have hB':∀ x∈B,inG (q1z g).length x:=fun x hx=>by rw [q2m];exact hB x hx
 have hgl:=h.len;obtain ⟨k,rfl⟩:=k01 (k:=k) (by omega);rw [n197,w2f (by omega) g hgl (fun z hz=>⟨h.sh z hz,h.rows z hz⟩)];simp only [v1a];rw [z7z (by omega) (y8z g) (by rw [q2m];omega) (fun i=>by have:=y8y h.row i;omega) (by omega) h.tin hB'];simp only [x9f,q0b];have hb:=q77 (k:=k) (q0m g) A (farT g B) (by omega) (fun v hv=>by rw [l2];exact hA v hv) k 0 (-1) (by omega) (by omega) (.inl (by omega));have hb':q72 k k (q0m g) (-1) (encZ A) (A.length:Int) 0 (encZ (q2a (q1z g) B))=_:=hb;rw [hb',List.drop_zero,wayT]
 change (bif decide (q1x g A B<0) then _ else _)=_
 cases hneg:decide (q1x g A B<0)
 ·have hn:=of_decide_eq_false hneg;have hbin:inG g.length (q1x g A B) /\ 0<=dAt (farT g B) (q1x g A B):=by
   rcases q30 (farT g B) A (-1) (fun v hv=>(hA v hv).1) (fun h=>by omega) with ⟨h1,h2⟩ | ⟨h1,h2,h3,_⟩
   ·unfold q1x at hn;omega
   ·exact ⟨hA _ h1,h2⟩
  have hle:=y51 h hB _ hbin.1;simp only [cond_false];exact y7r (k:=k) (by omega) h.fit h.lens h.inn l2 (z9n h hB) (dAt (farT g B) (q1x g A B)).toNat k (q1x g A B) [q1x g A B] (by omega) hbin.1 (by omega) (by omega) (by simp;omega) (by simp)
 ·rfl
theorem y0m {k:Nat} (n1 i:Nat) (g:List PV) (t12:Int) (l:List Int) (hl:l.length<=1000):∀ (n j:Nat) (o:List (List Int)),l.length-j<n->j<=l.length->(∀ x∈l,0<=x /\ x.toNat<o.length)->(∀ z∈o,z.length<=100000+j) ->
  z59 k n1 n o.length (i:Int) g t12 (i:Int) (encZ l) (l.length:Int) (j:Int) (encF o)=z58 k n1 (q10 (i:Int) (l.drop j) o).length g t12 (IntKind.i64.wrap ((i:Int)+1)) (encF (q10 (i:Int) (l.drop j) o))
 | 0,j,o,hn,hj,ho,hb=>by omega
 | n+1,j,o,hn,hj,ho,hb=>by
  rw [w8n];by_cases hlt:j<l.length
  ·have hd:=k04 (i:=j) (l:=l) hlt;have hnext:=k02 (i:=j) (by omega);obtain ⟨h0,h1⟩:=ho _ (List.getElem_mem hlt);have hin:(decide ((0:Int)<=l[j])&&decide (l[j]<(o.length:Int)))=true:=by simp;omega
   have hget:(encF o)[0+l[j].toNat]? = some (q6s o[l[j].toNat]):=by rw [Nat.zero_add,y1e,List.getElem?_eq_getElem h1];rfl
   have hz:=hb _ (List.getElem_mem h1);rw [hd,q0l hlt,q0c hlt,hnext];simp only [cond_true,Option.bind_some,q0d];rw [hin,hget];simp only [cond_true,Option.bind_some,z6w,q0b];rw [q0p (by omega) (by omega),q00];have e1:((some (0+l[j].toNat):Option Nat)==some (0+l[j].toNat))=true:=by simp
   have e2:decide (o[l[j].toNat].length+1<=(encZ (o[l[j].toNat]++[(i:Int)])).length)=true:=by simp
   have e3:(encZ (o[l[j].toNat]++[(i:Int)])).take (o[l[j].toNat].length+1)=encZ (o[l[j].toNat]++[(i:Int)]):=by rw [List.take_of_length_le (by simp)]
   rw [e1,e2,e3,Nat.zero_add,x1k _ _ _ (by simp),q10,List.getElem?_eq_getElem h1];simp only [cond_true,Bool.and_self,Option.getD_some]
   have:=y0m (k:=k) n1 i g t12 l hl n (j+1) (o.set l[j].toNat (o[l[j].toNat]++[(i:Int)])) (by omega) (by omega) (fun x hx=>by rw [List.length_set];exact ho x hx) (fun z hz=>by
    rcases List.mem_or_eq_of_mem_set hz with hz | rfl
    ·have:=hb z hz;omega
    ·simp;omega)
   rw [List.length_set] at this;exact this
  ·have hd:=k03 (i:=j) (l:=l) hlt;rw [hd,List.drop_eq_nil_of_le (by omega)];rfl
theorem y0l {k:Nat} (hk:1100<=k) (g:List (List Int)) (hgl:g.length<=100) (hg:∀ z∈g,z.length<=1000 /\ ∀ x∈z,0<=x /\ x.toNat<g.length):∀ (n i:Nat) (o:List (List Int)),g.length-i<n->i<=g.length->o.length=g.length->(∀ z∈o,z.length<=1000*i) ->
  z58 k n o.length (q0m g) (g.length:Int) (i:Int) (encF o)=r230 (encF (q5e i (g.drop i) o))
 | 0,i,o,hn,hi,ho,hb=>by omega
 | n+1,i,o,hn,hi,ho,hb=>by
  rw [w8m];by_cases hlt:i<g.length
  ·have hd:=k04 (i:=i) (l:=g) hlt;have hnext:=k02 (i:=i) (by omega);obtain ⟨h1,h2⟩:=hg _ (List.getElem_mem hlt);rw [hd,q0n,q13,List.getElem?_eq_getElem hlt,q0c hlt];simp only [cond_true,Option.map_some,Option.bind_some,q0u,q0b];have h3:=y0m (k:=k) n i (q0m g) (g.length:Int) g[i] h1 k 0 o (by omega) (by omega) (fun x hx=>by rw [ho];exact h2 x hx) (fun z hz=>by have:=hb z hz;omega);have h':z59 k n k o.length (i:Int) (q0m g) (g.length:Int) (i:Int) (encZ g[i]) (g[i].length:Int) 0 (encF o)=_:=h3;rw [h',hnext,List.drop_zero,q5e];exact y0l hk g hgl hg n (i+1) _ (by omega) (by omega) (by rw [q5];exact ho) (fun z hz=>by
    have:=q8m (i:Int) (1000*i) g[i] o hb z hz
    omega)
  ·have hd:=k03 (i:=i) (l:=g) hlt;have etk:(encF o).take o.length=encF o:=by rw [List.take_of_length_le (by simp)]
   rw [hd,List.drop_eq_nil_of_le (by omega),etk];rfl
theorem w4o {k:Nat} (hk:1200<=k) (g:List (List Int)) (hgl:g.length<=100) (hg:∀ z∈g,z.length<=1000 /\ ∀ x∈z,0<=x /\ x.toNat<g.length):c230 k (q0m g)=r230 (encF (q1z g)):=by
 obtain ⟨k,rfl⟩:=k01 (k:=k) (by omega);rw [n230,q1v];have e:(((g.length:Int)==(g.length:Int))&&decide ((0:Int)<=(g.length:Int))&&decide (g.length*24<=LIM)&&decide (g.length<=LIM))=true:=by
  have h1:decide (g.length*24<=LIM)=true:=decide_eq_true (by unfold LIM;omega);have h2:decide (g.length<=LIM)=true:=decide_eq_true (by unfold LIM;omega);rw [h1,h2];simp
 have e2:List.replicate g.length (PV.row 0 2 [])=encF (List.replicate g.length []):=by simp [encF,q6s]
 rw [e,e2]
 have:=y0l (k:=k) (by omega) g hgl hg k 0 (List.replicate g.length []) (by omega) (by omega) (by simp) (fun z hz=>by rw [(List.mem_replicate.1 hz).2];simp)
 rw [List.length_replicate,List.drop_zero] at this;exact this
section
variable {k:Nat}
theorem q6r (G:List PV) (l D:List Int) (hl:l.length<=1000) (hin:∀ v∈l,inG D.length v):∀ (n i:Nat) (b:Int),l.length-i<n->i<=l.length->(b<0∨inG D.length b) ->
  q71 k n G (encZ D) b (encZ l) (l.length:Int) (i:Int)=(bif decide (q2g D (l.drop i) b<0) then r182 [] false else q9q k k G (encZ D) (q2g D (l.drop i) b) 1 [PV.int .i64 (q2g D (l.drop i) b)])
 | 0,i,b,hn,hi,hb=>by omega
 | n+1,i,b,hn,hi,hb=>by
  rw [w7w];by_cases hlt:i<l.length
  ·have hd:=k04 (i:=i) (l:=l) hlt;have hnext:=k02 (i:=i) (by omega);have hv:=hin _ (List.getElem_mem hlt);rw [hd,q0l hlt,hnext,q0c hlt,q2g];simp only [cond_true,Option.bind_some,q0d];rw [q46 hv];simp only [Option.bind_some,q0d];cases h0:decide (dAt D l[i]>=0)
   ·exact q6r G l D hl hin n (i+1) b (by omega) (by omega) hb
   ·simp only [cond_true];cases h1:decide (b<0)
    ·have hbin:inG D.length b:=by
      rcases hb with h | h
      ·have:=of_decide_eq_false h1;omega
      ·exact h
     simp only [cond_false];rw [q46 hbin];simp only [Option.bind_some,q0d];cases h2:decide (dAt D l[i]<dAt D b)
     ·exact q6r G l D hl hin n (i+1) b (by omega) (by omega) hb
     ·exact q6r G l D hl hin n (i+1) _ (by omega) (by omega) (.inr hv)
    ·exact q6r G l D hl hin n (i+1) _ (by omega) (by omega) (.inr hv)
  ·have hd:=k03 (i:=i) (l:=l) hlt;rw [hd,List.drop_eq_nil_of_le (by omega)];rfl
theorem y8e (G:List PV) (D:List Int) (v:Int) (hv:inG D.length v) (hd0:0<=dAt D v) (hd1:dAt D v<=100000) (l:List Int) (hl:l.length<=1000) (hin:∀ w∈l,inG D.length w) (o:List Int) (ho:o.length<=100000) (n1:Nat) (w:Int):∀ (n i j:Nat),l.length-i<n->i<=l.length->l[i+j]? = some w->nxtQ D v w=true->(∀ u∈(l.drop i).take j,nxtQ D v u=false) ->
  z5q k n1 n G (encZ D) v o.length (encZ l) (l.length:Int) (i:Int) (encZ o)=q9q k n1 G (encZ D) w (o.length+1) (encZ (o++[w]))
 | 0,i,j,hn,hi,hw,hq,hu=>by omega
 | n+1,i,j,hn,hi,hw,hq,hu=>by
  have hlt0:=(List.getElem?_eq_some_iff.1 hw).1;have hlt:i<l.length:=by omega
  have hd:=k04 (i:=i) (l:=l) hlt;have hnext:=k02 (i:=i) (by omega);have hwr:IntKind.i64.wrap (dAt D v-1)=dAt D v-1:=q0g (by omega) (by omega);have hvi:=hin _ (List.getElem_mem hlt);have etk:(encZ o).take o.length=encZ o:=by rw [List.take_of_length_le (by simp)]
  rw [w7x,hd,q0l hlt,hnext];simp only [cond_true,Option.bind_some,q0d];rw [q46 hvi,q46 hv];simp only [Option.bind_some,q0d];rw [hwr];cases j with
  | zero=>
   rw [Nat.add_zero,List.getElem?_eq_getElem hlt] at hw;injection hw with hw
   have hq':(dAt D l[i]==dAt D v-1)=true:=by rw [hw];exact hq
   rw [hq',q0p (by omega) (by omega),etk,q00,hw];rfl
  | succ j=>
   have hq':(dAt D l[i]==dAt D v-1)=false:=hu _ (by rw [q0c hlt,List.take_succ_cons];exact List.mem_cons_self);rw [hq'];exact y8e G D v hv hd0 hd1 l hl hin o ho n1 w n (i+1) j (by omega) (by omega) (by rw [show i+1+j=i+(j+1) by omega];exact hw) hq (fun u hu2=>hu u (by rw [q0c hlt,List.take_succ_cons];exact List.mem_cons_of_mem _ hu2))
theorem y32 (hk:200000<=k) {G:List PV} {g:List (List Int)} (hG:GrF G g) (hgl:∀ i,(atL g i).length<=1000) (hg:∀ (i:Nat) (x:Int),x∈atL g i->inG g.length x) {D:List Int} (hD:D.length=g.length) (hst:x0q g D):∀ (m n:Nat) (v:Int) (o:List Int),m<n->inG g.length v->dAt D v=(m:Int)->m<=10000->o.length+m<=50000 ->
  q9q k n G (encZ D) v o.length (encZ o)=r182 (encZ (o++q7q g D m v)) true
 | m,0,v,o,hn,hv,hd,hm,ho=>by omega
 | 0,n+1,v,o,hn,hv,hd,hm,ho=>by
  have etk:(encZ o).take o.length=encZ o:=by rw [List.take_of_length_le (by simp)]
  rw [x6w,q46 (by rw [hD];exact hv),etk,q7q,List.append_nil];simp only [Option.bind_some,q0d];rw [hd];rfl
 | m+1,n+1,v,o,hn,hv,hd,hm,ho=>by
  obtain ⟨h1,h2,j,h3,h4⟩:=y8d (hst v hv (by omega));have hp:decide (dAt D v>0)=true:=decide_eq_true (by omega);have hlen:=hgl v.toNat;rw [x6w,q46 (by rw [hD];exact hv)];simp only [Option.bind_some,q0d];rw [hp,hG.bind hv];simp only [cond_true,q0b];have hj:∀ u∈(atL g v.toNat).take j,nxtQ D v u=false:=by
   rcases q3i (nxtQ D v) (atL g v.toNat) 0 with ⟨h5,_⟩ | ⟨j',hj',h5,_,h7⟩
   ·rw [h5] at h3;omega
   ·have e:j'=j:=by rw [h5] at h3;omega
    subst e;intro u hu;obtain ⟨i,hi,rfl⟩:=List.mem_iff_getElem.1 hu;rw [List.getElem_take];exact h7 i (by simp at hi;omega)
  have hs:=y8e (k:=k) G D v (by rw [hD];exact hv) (by omega) (by omega) (atL g v.toNat) hlen (fun w hw=>by rw [hD];exact hg _ _ hw) o (by omega) n (nxtF g D v) k 0 j (by omega) (by omega) (by rw [Nat.zero_add];exact h4) (by unfold nxtQ;rw [h2];simp) (by rw [List.drop_zero];exact hj);have hs':z5q k n k G (encZ D) v o.length (encZ (atL g v.toNat)) ((atL g v.toNat).length:Int) 0 (encZ o)=_:=hs;rw [hs',q7q]
  have:=y32 hk hG hgl hg hD hst m n (nxtF g D v) (o++[nxtF g D v]) (by omega) (hg _ _ h1) (by omega) (by omega) (by simp;omega)
  rw [List.length_append,List.append_assoc] at this;exact this
end
theorem y18 {g:List (List Int)} {A B:List Int}:(wayT g A B).isEmpty=decide (q1x g A B<0):=by
 unfold wayT;cases decide (q1x g A B<0) <;> rfl
theorem w4 {k:Nat} (hk:300000<=k) {g:List (List Int)} (h:GrOK g) {A B:List Int} (hAl:A.length<=500) (hA:∀ x∈A,inG g.length x) (hBl:B.length<=500) (hB:∀ x∈B,inG g.length x) :
  c182 k (q0m g) (encZ A) (encZ B)=r182 (encZ (wayT g A B)) (!(wayT g A B).isEmpty):=by
 obtain ⟨l2,d2⟩:=z03 h hB;have hB':∀ x∈B,inG (q1z g).length x:=fun x hx=>by rw [q2m];exact hB x hx
 have hgl:=h.len;obtain ⟨k,rfl⟩:=k01 (k:=k) (by omega);rw [n182,w4o (by omega) g hgl (fun z hz=>⟨h.sh z hz,h.rows z hz⟩)];simp only [v00];rw [v2k (by omega) (y8z g) (by rw [q2m];omega) (fun i=>by have:=y8y h.row i;omega) (by omega) h.tin hB'];simp only [v0z,q0b];have hb:=q6r (k:=k) (q0m g) A (farT g B) (by omega) (fun v hv=>by rw [l2];exact hA v hv) k 0 (-1) (by omega) (by omega) (.inl (by omega));have hb':q71 k k (q0m g) (encZ (q2a (q1z g) B)) (-1) (encZ A) (A.length:Int) 0=_:=hb;rw [hb',List.drop_zero,y18,wayT]
 change (bif decide (q1x g A B<0) then _ else _)=_
 cases hneg:decide (q1x g A B<0)
 ·have hn:=of_decide_eq_false hneg;have hbin:inG g.length (q1x g A B) /\ 0<=dAt (farT g B) (q1x g A B):=by
   rcases q30 (farT g B) A (-1) (fun v hv=>(hA v hv).1) (fun h=>by omega) with ⟨h1,h2⟩ | ⟨h1,h2,h3,_⟩
   ·unfold q1x at hn;omega
   ·exact ⟨hA _ h1,h2⟩
  have hle:=y51 h hB _ hbin.1;simp only [cond_false];exact y32 (k:=k) (by omega) h.fit h.lens h.inn l2 (z9n h hB) (dAt (farT g B) (q1x g A B)).toNat k (q1x g A B) [q1x g A B] (by omega) hbin.1 (by omega) (by omega) (by simp;omega)
 ·rfl
end Go.Proofs.YtgdegfijcijnoaaGreat
namespace Go.Proofs.YtgdegfijcijnoaaGreat
open Go.Dp
def nxS (p:Prg) (l:List Int):List Int:=q1h [] (q1p p l)
theorem x6k (p:Prg) (l:List Int) (x:Int):x∈nxS p l↔∃ y∈l,x∈nxL p y:=by
 rw [nxS,(q18 (q1p p l) [] (by simp)).2,q81];simp
structure SL (p:Prg) (l:List Int):Prop where
 lt:l.Pairwise (·<·)
 is:∀ x∈l,inS p x
theorem SL.len {p:Prg} (hs:q0h p=true) {l:List Int} (h:SL p l):l.length<=32:=y56 hs h.lt h.is
theorem y4u {p:Prg} (hp:FitP p) (hs:q0h p=true) {l:List Int} (h:SL p l):SL p (nxS p l) :=
 ⟨(q18 (q1p p l) [] (by simp)).1,fun x hx=>let ⟨y,h1,h2⟩:=(x6k p l x).1 hx;q95 hp hs (h.is y h1) x h2⟩
theorem SL.filter {p:Prg} {l:List Int} (h:SL p l) (f:Int->Bool):SL p (l.filter f):=⟨h.lt.filter f,fun x hx=>h.is x (List.mem_filter.1 hx).1⟩
def sel (v:List Int) (c:Int) (l:List Int):List Int:=l.filter fun x=>dAt v x==c
theorem x63 {v:List Int} {c x:Int} {l:List Int}:x∈sel v c l↔x∈l /\ dAt v x=c:=by simp [sel]
def q2o (p:Prg) (v:List Int):List Int->List Int->List (List Int)
 | _,[]=>[]
 | s,c::path=>sel v c s::q2o p v (nxS p (sel v c s)) path
def q0k (p:Prg) (v path:List Int):List (List Int):=q2o p v (whI p p.start) path
theorem y3l (p:Prg) (v:List Int):∀ (path s:List Int),(q2o p v s path).length=path.length
 | [],s=>rfl
 | c::path,s=>by rw [q2o,List.length_cons,y3l p v path,List.length_cons]
theorem q2t (p:Prg) (v path:List Int):(q0k p v path).length=path.length:=y3l p v path _
theorem y7f {p:Prg} (hp:FitP p) (hs:q0h p=true) (v:List Int):∀ (path s:List Int),SL p s->∀ l∈q2o p v s path,SL p l
 | [],s,h,l,hl=>by simp [q2o] at hl
 | c::path,s,h,l,hl=>by
  rw [q2o] at hl;rcases List.mem_cons.1 hl with rfl | hl
  ·exact h.filter _
  ·exact y7f hp hs v path _ (y4u hp hs (h.filter _)) l hl
theorem y14 (p:Prg):SL p (whI p p.start):=⟨x3n p p.start _ _,fun x hx=>((q9m p p.start x).1 hx).1⟩
theorem z6l {p:Prg} (hp:FitP p) (hs:q0h p=true) (v path:List Int):∀ l∈q0k p v path,SL p l:=y7f hp hs v path _ (y14 p)
def Lnk (p:Prg):List (List Int)->Prop
 | []=>True
 | a::l=>(∀ b,l.head? = some b->∀ y∈b,∃ x∈a,y∈nxL p x) /\ Lnk p l
theorem z29 (p:Prg) (v:List Int):∀ (path s:List Int),Lnk p (q2o p v s path)
 | [],s=>trivial
 | c::path,s=>by
  rw [q2o];refine ⟨fun b hb y hy=>?_,z29 p v path _⟩;cases path with
  | nil=>simp [q2o] at hb
  | cons d path=>
   simp only [q2o,List.head?_cons,Option.some.injEq] at hb;subst hb;exact (x6k p _ y).1 (x63.1 hy).1
def canF (p:Prg):List (List Int)->List (List Int)
 | []=>[]
 | a::l=>(match (canF p l).head? with | none=>a | some b=>a.filter fun x=>q15 (nxL p x) b)::canF p l
theorem q4p (p:Prg):∀ (g:List (List Int)),(canF p g).length=g.length
 | []=>rfl
 | a::l=>by rw [canF,List.length_cons,q4p p l,List.length_cons]
theorem z6n (p:Prg) (a:List Int) (l:List (List Int)):∃ f:Int->Bool,canF p (a::l)=a.filter f::canF p l:=by
 rw [canF];split
 · exact ⟨fun _=>true,by rw [List.filter_eq_self.2 (fun _ _=>rfl)]⟩
 · exact ⟨_,rfl⟩
theorem z2k {p:Prg}:∀ (g:List (List Int)),(∀ l∈g,SL p l)->∀ l∈canF p g,SL p l
 | [],h,l,hl=>by simp [canF] at hl
 | a::g,h,l,hl=>by
  obtain ⟨f,e⟩:=z6n p a g;rw [e] at hl;rcases List.mem_cons.1 hl with rfl | hl
  ·exact (h a (by simp)).filter f
  ·exact z2k g (fun l hl=>h l (by simp [hl])) l hl
theorem y5x (p:Prg):∀ (g:List (List Int)),Lnk p g->(∀ l∈g,l≠[])->∀ l∈canF p g,l≠[]
 | [],_,h,l,hl=>by simp [canF] at hl
 | [a],_,h,l,hl=>by
  simp [canF] at hl;subst hl;exact h _ (by simp)
 | a::b::g,hL,h,l,hl=>by
  have ih:=y5x p (b::g) hL.2 (fun l hl=>h l (by simp [hl]));have hc:canF p (a::b::g)=(match (canF p (b::g)).head? with | none=>a | some b'=>a.filter fun x=>q15 (nxL p x) b')::canF p (b::g):=by rw [canF]
  rw [hc] at hl;rcases List.mem_cons.1 hl with rfl | hl
  ·obtain ⟨f,e⟩:=z6n p b g;rw [e];simp only [List.head?_cons];have hne:=ih (b.filter f) (by rw [e];simp);cases hb:b.filter f with
   | nil=>exact absurd hb hne
   | cons y ys=>
    have hy:y∈b.filter f:=by rw [hb];simp
    obtain ⟨x,hx,hxy⟩:=hL.1 b rfl y (List.mem_filter.1 hy).1;intro h0;have hx2:x∈a.filter (fun x=>q15 (nxL p x) (y::ys)):=List.mem_filter.2 ⟨hx,(y79 _ _).2 ⟨y,hxy,by simp⟩⟩;rw [h0] at hx2;cases hx2
  ·exact ih l hl
def Cn (p:Prg):List (List Int)->Prop
 | []=>True
 | a::l=>(∀ b,l.head? = some b->∀ x∈a,∃ y∈b,y∈nxL p x) /\ Cn p l
theorem y5w (p:Prg):∀ (g:List (List Int)),Cn p (canF p g)
 | []=>trivial
 | a::g=>by
  have ih:=y5w p g;rw [canF];refine ⟨fun b hb x hx=>?_,ih⟩;rw [hb] at hx;obtain ⟨y,h1,h2⟩:=(y79 _ _).1 (List.mem_filter.1 hx).2;exact ⟨y,h2,h1⟩
def q5w (p:Prg) (x:Int) (c:List Int):Int:=(c.find? fun y=>(nxL p x).contains y).getD 0
def goP (p:Prg):Int->List (List Int)->List Int
 | _,[]=>[]
 | x,c::l=>q5w p x c::goP p (q5w p x c) l
def q40 (p:Prg) (g:List (List Int)):List Int:=match canF p g with
 | []=>[]
 | c::l=>c.headD 0::goP p (c.headD 0) l
theorem x59 (p:Prg):∀ (l:List (List Int)) (x:Int),(goP p x l).length=l.length
 | [],x=>rfl
 | c::l,x=>by rw [goP,List.length_cons,x59 p l,List.length_cons]
theorem w04 {c:List Int} {f:Int->Bool} (h:∃ y∈c,f y=true):(c.find? f).getD 0∈c /\ f ((c.find? f).getD 0)=true:=by
 cases hf:c.find? f with
 | none=>
  obtain ⟨y,h1,h2⟩:=h
  have:=List.find?_eq_none.1 hf y h1
  rw [h2] at this;exact absurd rfl this
 | some y=>exact ⟨List.mem_of_find?_eq_some hf,List.find?_some hf⟩
theorem y8u {p:Prg} {x:Int} {c:List Int} (h:∃ y∈c,y∈nxL p x):q5w p x c∈c /\ q5w p x c∈nxL p x:=by
 obtain ⟨y,h1,h2⟩:=h
 have:=w04 (c:=c) (f:=fun y=>(nxL p x).contains y) ⟨y,h1,by simpa using h2⟩
 exact ⟨this.1,List.contains_iff_mem.1 this.2⟩
def Each:List Int->List (List Int)->Prop
 | [],[]=>True
 | y::ys,c::l=>y∈c /\ Each ys l
 | _,_=>False
def q09 (g:List (List Int)):Int:=fixI List.isEmpty 0 g
theorem y35 {g:List (List Int)} (h:¬ 0<=q09 g):∀ l∈g,l≠[]:=by
 rcases q3i List.isEmpty g 0 with ⟨h1,h2⟩ | ⟨j,hj,h1,h2,h3⟩
 ·intro l hl h0
  have:=h2 l hl
  rw [h0] at this;cases this
 ·exfalso;apply h
  unfold q09;rw [h1];omega
theorem y36 {g:List (List Int)} (h:0<=q09 g):∃ j,∃ hj:j<g.length,q09 g=(j:Int) /\ g[j]=[] /\ ∀ i (hi:i<j),g[i]'(by omega)≠[]:=by
 rcases q3i List.isEmpty g 0 with ⟨h1,h2⟩ | ⟨j,hj,h1,h2,h3⟩
 ·unfold q09 at h;rw [h1] at h;omega
 ·refine ⟨j,hj,by unfold q09;rw [h1,Nat.zero_add],by simpa using h2,fun i hi h0=>?_⟩
  have:=h3 i hi
  rw [h0] at this;cases this
theorem y8m (p:Prg) (g:List (List Int)):(q40 p g).length=g.length:=by
 have:=q4p p g
 unfold q40;split
 · rename_i h;rw [h] at this;simpa using this
 · rename_i c l h;rw [h] at this;rw [List.length_cons,x59,<- this,List.length_cons]
theorem w03:∀ {a b:List Int},a.Pairwise (·<·)->b.Pairwise (·<·)->a.find? (fun x=>b.contains x)=b.find? (fun x=>a.contains x):=by
 intro a b ha hb;have least:∀ {a b:List Int} {x:Int},a.Pairwise (·<·)->a.find? (fun x=>b.contains x)=some x->x∈a /\ x∈b /\ ∀ y∈a,y∈b->x<=y:=by
  intro a b x ha h;obtain ⟨h1,l1,l2,rfl,h2⟩:=List.find?_eq_some_iff_append.1 h;refine ⟨by simp,by simpa using h1,fun y hy hyb=>?_⟩;rcases List.mem_append.1 hy with hy | hy
  ·have:=h2 y hy
   simp [hyb] at this
  ·rcases List.mem_cons.1 hy with rfl | hy
   ·exact Int.le_refl _
   ·have:=(List.pairwise_append.1 ha).2.1
    have:=(List.pairwise_cons.1 this).1 y hy
    omega
 cases h1:a.find? (fun x=>b.contains x) with
 | none=>
  symm
  rw [List.find?_eq_none] at h1 ⊢;intro x hx hxa;exact h1 x (by simpa using hxa) (by simpa using hx)
 | some x=>
  obtain ⟨h2,h3,h4⟩:=least ha h1;cases h5:b.find? (fun x=>a.contains x) with
  | none=>
   rw [List.find?_eq_none] at h5;exact absurd (by simpa using h2) (h5 x h3)
  | some y=>
   obtain ⟨h6,h7,h8⟩:=least hb h5;have a1:=h4 y h7 h6;have a2:=h8 x h3 h2;rw [show x=y by omega]
def onL (p:Prg) (v:List Int) (c d:Int):List Int:=(stV v c).filter fun x=>(nxL p x).any fun y=>dAt v y==d
end Go.Proofs.YtgdegfijcijnoaaGreat
namespace Go.Proofs.YtgdegfijcijnoaaGreat
open Go.Dp
theorem y8b {k:Nat} (l0:List PV) (c:Int) (f:Int->Bool) (l:List (Int)) (hl:l.length<=100000) (hc:∀ x∈l,c172 k x l0 c=r172 (f x)):∀ (n i:Nat),l.length-i<n->i<=l.length->q8p k n (encZ l) l0 c (l.length:Int) (i:Int)=z0a (fixI f i (l.drop i))
 | 0,i,h,hi=>by omega
 | n+1,i,h,hi=>by
  rw [x40];by_cases hlt:i<l.length
  ·have hd:=k04 (i:=i) (l:=l) hlt;have hnext:=k02 (i:=i) (by omega);rw [hd,q0l hlt,q0c hlt,hnext];simp only [cond_true,Option.bind_some,q0d];rw [hc _ (List.getElem_mem hlt)];simp only [x9p,fixI];cases f l[i]
   ·exact y8b l0 c f l hl hc n (i+1) (by omega) (by omega)
   ·rfl
  ·have hd:=k03 (i:=i) (l:=l) hlt;rw [hd,List.drop_eq_nil_of_le (by omega)];rfl
theorem w38 {k:Nat} (hk:100010<=k) (l0:List PV) (c:Int) (f:Int->Bool) (l:List (Int)) (hl:l.length<=100000) (hc:∀ x∈l,c172 k x l0 c=r172 (f x)):y0u (k+1) (encZ l) l0 c=z0a (fixI f 0 l):=by
 rw [w3j,q0b];exact y8b (k:=k) l0 c f l hl hc k 0 (by omega) (by omega)
theorem y1r {k:Nat} (l0:List PV) (c:Int) (f:Int->Bool) (s:List Int) (hl:s.length<=100000) (hc:∀ x∈s,c172 k x l0 c=r172 (f x)):∀ (n i j:Nat) (xs:List Int),s.length-j<n->j<=s.length->i<=j->xs.length=s.length->xs.take i=(s.take j).filter (fun x=>!f x)->xs.drop j=s.drop j ->
  q6l k n s.length l0 c (i:Int) (j:Int) (encZ xs)=q7h (encZ (s.filter fun x=>!f x))
 | 0,i,j,xs,h,hj,hi,hx,h1,h2=>by omega
 | n+1,i,j,xs,h,hj,hi,hx,h1,h2=>by
  rw [x5];by_cases hlt:j<s.length
  ·have hd:=k04 (i:=j) (l:=s) hlt;have hg:(decide ((0:Int)<=(j:Int))&&true)=true:=by rw [decide_eq_true (by omega)];rfl
   have hg2:(decide ((0:Int)<=(i:Int))&&decide ((i:Int)<(s.length:Int)))=true:=by rw [decide_eq_true (by omega),decide_eq_true (by omega)];rfl
   have hnj:IntKind.i64.wrap ((j:Int)+1)=((j+1:Nat):Int):=by rw [q0g (by omega) (by omega)];omega
   have hni:IntKind.i64.wrap ((i:Int)+1)=((i+1:Nat):Int):=by rw [q0g (by omega) (by omega)];omega
   have hxj:xs[j]'(by omega)=s[j]:=by
    have e:=h2;rw [q0c (by omega),q0c hlt] at e;exact (List.cons.inj e).1
   have hat:∀ (m:Nat) (hm:m<xs.length),(encZ xs)[0+(m:Int).toNat]? = some (.int .i64 xs[m]):=by
    intro m hm;rw [Nat.zero_add,Int.toNat_natCast,q1r,List.getElem?_eq_getElem hm];rfl
   rw [hd,hg,hat j (by omega),hxj,hnj];simp only [cond_true,Option.bind_some,q0d];rw [hc _ (List.getElem_mem hlt)];simp only [x9p];have hd2:xs.drop (j+1)=s.drop (j+1):=by rw [<- List.drop_drop,<- List.drop_drop,h2]
   have ht2:s.take (j+1)=s.take j++[s[j]]:=List.take_succ_eq_append_getElem hlt;cases hf:f s[j]
   ·simp only [Bool.not_false,cond_true];rw [hg2,hat i (by omega),hni];simp only [cond_true,Option.bind_some,Nat.zero_add,Int.toNat_natCast];rw [q3b];refine y1r l0 c f s hl hc n (i+1) (j+1) (xs.set i s[j]) (by omega) (by omega) (by omega) (by simp;omega) ?_ ?_
    ·rw [List.take_succ_eq_append_getElem (by simp;omega),List.take_set_of_le (by omega),h1,ht2,List.filter_append];simp [hf]
    ·rw [List.drop_set_of_lt (by omega),hd2]
   ·simp only [Bool.not_true,cond_false];refine y1r l0 c f s hl hc n i (j+1) xs (by omega) (by omega) (by omega) hx ?_ hd2;rw [h1,ht2,List.filter_append];simp [hf]
  ·have hd:=k03 (i:=j) (l:=s) hlt;have hg:(decide ((0:Int)<=(i:Int))&&decide ((i:Int)<=(s.length:Int))&&decide ((s.length:Int)<=(s.length:Int)))=true:=by
    rw [decide_eq_true (by omega),decide_eq_true (by omega),decide_eq_true (by omega)];rfl
   have hg2:(decide ((0:Int)<=(i:Int))&&decide ((i:Int)<=(s.length:Int)))=true:=by rw [decide_eq_true (by omega),decide_eq_true (by omega)];rfl
   have hjs:s.take j=s:=List.take_of_length_le (by omega);rw [hd,hg,hg2];simp only [cond_true,cond_false,Nat.zero_add,Int.toNat_natCast];rw [List.append_assoc,List.take_left' (by simp;omega),q3h,h1,hjs]
theorem w6d {k:Nat} (hk:100010<=k) (l0:List PV) (c:Int) (f:Int->Bool) (s:List Int) (hl:s.length<=100000) (hc:∀ k',k<=k'->∀ x∈s,c172 k' x l0 c=r172 (f x)):q9w (k+2) (encZ s) l0 c=q7h (encZ (s.filter fun x=>!f x)):=by
 have etk:(encZ s).take s.length=encZ s:=List.take_of_length_le (by simp);rw [w3w,q0b,etk,w38 (k:=k) hk l0 c f s hl (hc k (Nat.le_refl k))];simp only [x3s];rcases q3i f s 0 with ⟨h1,h2⟩ | ⟨j,hj,h1,h2,h3⟩
 ·rw [h1];have hall:s.filter (fun x=>!f x)=s:=List.filter_eq_self.2 fun x hx=>by
   obtain ⟨i,hi,rfl⟩:=List.mem_iff_getElem.1 hx;simp [h2 _ (List.getElem_mem hi)]
  rw [hall];rfl
 ·rw [h1];have e1:((((0+j:Nat):Int))==(-1))=false:=by rw [beq_eq_false_iff_ne];omega
  have e2:IntKind.i64.wrap (((0+j:Nat):Int)+1)=((j+1:Nat):Int):=by rw [q0g (by omega) (by omega)];omega
  rw [e1,e2,Nat.zero_add];simp only [cond_false];have hpre:(s.take j).filter (fun x=>!f x)=s.take j:=List.filter_eq_self.2 fun x hx=>by
   obtain ⟨i,hi,rfl⟩:=List.mem_iff_getElem.1 hx;rw [List.length_take] at hi;rw [List.getElem_take];simp [h3 i (by omega)]
  refine y1r (k:=k+1) l0 c f s hl (hc (k+1) (by omega)) (k+1) j (j+1) s (by omega) (by omega) (by omega) rfl ?_ rfl;rw [List.take_succ_eq_append_getElem hj,List.filter_append,hpre];simp [h2]
theorem z4q (l:List Int) (K0:List PV->R):z6j (q7h (encZ l)) K0=K0 (encZ l):=by
 have h:([SV.c (.own 3 0 (encZ l))].all q0z&&true)=true:=by simp [q0z,q1m,q2h];rfl
 show (bif ([SV.c (.own 3 0 (encZ l))].all q0z&&true) then K0 (encZ l) else none)=_
 rw [h];rfl
theorem y6u (l:List Int) (K0:List PV->R):x7g (r139 (encZ l)) K0=K0 (encZ l):=by
 have h:([SV.c (.own 3 0 (encZ l))].all q0z&&true)=true:=by simp [q0z,q1m,q2h];rfl
 show (bif ([SV.c (.own 3 0 (encZ l))].all q0z&&true) then K0 (encZ l) else none)=_
 rw [h];rfl
theorem x62 {k:Nat} (hk:100020<=k) {v:List Int} (l:List Int) (hl:l.length<=1000) (hin:∀ x∈l,inG v.length x) (c:Int):q9w k (encZ l) (encZ v) c=q7h (encZ (sel v c l)):=by
 obtain ⟨k,rfl⟩:∃ j,k=j+2:=⟨k-2,by omega⟩;rw [w6d (k:=k) (by omega) (encZ v) c (fun x=>dAt v x != c) l (by omega) (fun k' hk' x hx=>by
  obtain ⟨k',rfl⟩:=k01 (k:=k') (by omega)
  have:=hin x hx
  rw [n172,y4l this.1 this.2];simp only [Option.bind_some,q0d])]
 congr 2
 apply List.filter_congr;intro x _;simp [bne]
theorem y1h {p:Prg} {x:Int} (hx:inS p x):atL (q2i p) x.toNat=nxL p x:=by
 have h0:=hx.1;have h1:=hx.2;rw [w07,if_pos (by omega)]
 congr 1
 omega
theorem z62 (p:Prg):GrF (q0m (q2i p)) (q2i p):=by
 refine ⟨q1v _,fun i hi=>⟨_,?_,q0u _ _⟩⟩;rw [q13,List.getElem?_eq_getElem hi];simp [atL,hi]
section
variable {k:Nat} {p:Prg} (v:List Int) (l1:List PV) (path:List Int)
theorem al3 (n1 n2:Nat) (G:List PV) (oL:Nat) (xs:List PV) (i:Int) (w:List Int) (j:Int) (c:Int) (wl:Int) (hn:nS p<=100) (r:List Int) (hr:r.length<=1000) (hin:∀ x∈r,inG (nS p) x):∀ (n q:Nat) (acc:List Int),r.length-q<n->q<=r.length ->
  y3a k n1 n2 n oL G (nS p) (encZ path) (path.length:Int) i w.length wl j (encZ r) (r.length:Int) (q:Int) p.wide p.vars l1 (q0f p.cmds) (encZ v) c xs (q1n (inB (nS p) acc)) (encZ w) =
   z77 k n1 n2 oL G (nS p) (encZ path) (path.length:Int) i w.length wl (IntKind.i64.wrap (j+1)) p.wide p.vars l1 (q0f p.cmds) (encZ v) c xs (q1n (inB (nS p) (acc++r.drop q))) (encZ w)
 | 0,q,acc,h,hq=>by omega
 | n+1,q,acc,h,hq=>by
  rw [v3n];by_cases hlt:q<r.length
  ·have hd:=k04 (i:=q) (l:=r) hlt;have hnext:=k02 (i:=q) (by omega);have hx:=hin _ (List.getElem_mem hlt);have hbl:(q1n (inB (nS p) acc)).length=nS p:=by simp [q1n,q6g]
   obtain ⟨z,hz⟩:∃ z,(q1n (inB (nS p) acc))[r[q].toNat]? = some z:=⟨_,List.getElem?_eq_getElem (by rw [hbl];exact hx.2)⟩;rw [hd,q0l hlt,hnext];simp only [cond_true,Option.bind_some,q0d];rw [q4f hx,Nat.zero_add,hz];simp only [cond_true,Option.bind_some];rw [y7s,x6b _ _ _ hx.1 (by have:=hx.2;omega),al3 n1 n2 G oL xs i w j c wl hn r hr hin n (q+1) (acc++[r[q]]) (by omega) (by omega),q0c hlt,List.append_assoc];rfl
  ·have hd:=k03 (i:=q) (l:=r) hlt;rw [hd,List.drop_eq_nil_of_le (by omega),List.append_nil];rfl
theorem al2 (hp:FitP p) (hs:q0h p=true) (hn:v.length=nS p) (hk:1000400<=k) (n1:Nat) (o:List (List Int)) (ho:o.length<=5000) (i:Int) (w:List Int) (hw:SL p w) (c:Int):∀ (n j:Nat) (acc:List Int),w.length-j<n->j<=w.length->acc=q1p p (w.take j) ->
  z77 k n1 n o.length (q0m (q2i p)) (nS p) (encZ path) (path.length:Int) i w.length (w.length:Int) (j:Int) p.wide p.vars l1 (q0f p.cmds) (encZ v) c (q0m o) (q1n (inB (nS p) acc)) (encZ w) =
   z76 k n1 (o.length+1) (q0m (q2i p)) (sel v c (nxS p w)).length (encZ path) (path.length:Int) (IntKind.i64.wrap (i+1)) p.wide p.vars l1 (q0f p.cmds) (encZ v) (q0m (o++[sel v c (nxS p w)])) (encZ (sel v c (nxS p w)))
 | 0,j,acc,h,hj,ha=>by omega
 | n+1,j,acc,h,hj,ha=>by
  have hle:=(q3e hs).2;have hwl:=hw.len hs;rw [v3m];by_cases hlt:j<w.length
  ·have hd:=k04 (i:=j) (l:=w) hlt;have hd2:(decide ((0:Int)<=(j:Int))&&decide ((j:Int)<(w.length:Int)))=true:=by rw [decide_eq_true (by omega),hd];rfl
   have hnext:=k02 (i:=j) (by omega);have hx:=hw.is _ (List.getElem_mem hlt);have hnl:=q5u hp w[j];have hat:(encZ w)[0+(j:Int).toNat]? = some (.int .i64 w[j]):=by rw [Nat.zero_add,Int.toNat_natCast,q1r,List.getElem?_eq_getElem hlt];rfl
   rw [hd2,hd,hat];simp only [cond_true,Option.bind_some,q0d];rw [(z62 p).bind (by rw [z3s];exact q33.2 hx),y1h hx,q0b];have h3:=al3 (k:=k) v l1 path n1 n (q0m (q2i p)) o.length (q0m o) i w (j:Int) c (w.length:Int) (by omega) (nxL p w[j]) (by omega) (fun x hx'=>q33.2 (q95 hp hs hx x hx')) k 0 acc (by omega) (by omega);have h3':y3a k n1 n k o.length (q0m (q2i p)) (nS p) (encZ path) (path.length:Int) i w.length (w.length:Int) (j:Int) (encZ (nxL p w[j])) ((nxL p w[j]).length:Int) 0 p.wide p.vars l1 (q0f p.cmds) (encZ v) c (q0m o) (q1n (inB (nS p) acc)) (encZ w)=_:=h3;rw [h3',hnext,List.drop_zero];exact al2 hp hs hn hk n1 o ho i w hw c n (j+1) (acc++nxL p w[j]) (by omega) (by omega) (by
    rw [List.take_succ_eq_append_getElem hlt,ha]
    have:∀ (a b:List Int),q1p p (a++b)=q1p p a++q1p p b:=by
     intro a b
     induction a with
     | nil=>rfl
     | cons x a ih=>simp [q1p,ih]
    rw [this];simp [q1p])
  ·have hd:=k03 (i:=j) (l:=w) hlt;have ej:w.take j=w:=List.take_of_length_le (by omega);rw [ej] at ha;have hnx:=y4u hp hs hw;have hnxl:=hnx.len hs;have hsl:=(hnx.filter (fun x=>dAt v x==c)).len hs;have htk:(q1n (inB (nS p) acc)).take (nS p)=q1n (inB (nS p) acc):=List.take_of_length_le (by simp [q1n,q6g]);have hmk:mkB (inB (nS p) acc) 0=nxS p w:=by
    rw [ha];refine x6e fun x hx=>?_
    obtain ⟨y,h1,h2⟩:=(q81 p w x).1 hx;exact q95 hp hs (hw.is y h1) x h2
   rw [hd,htk,y78 (by omega) _ (by rw [q6g];omega),hmk];simp only [cond_false];rw [y68,q0b,q0v,x62 (by omega) (v:=v) (nxS p w) (by omega) (fun x hx=>by rw [hn];exact q33.2 (hnx.is x hx)),z4q,q0b,q0v];obtain ⟨k,rfl⟩:=k01 (k:=k) (by omega);have hsl':(sel v c (nxS p w)).length<=32:=hsl;rw [n139 _ _ (by rw [q0b];unfold LIM;omega) (by rw [q0b];unfold LIM;omega),y6u];have e1:decide ((sel v c (nxS p w)).length<=(sel v c (nxS p w)).length)=true:=decide_eq_true (Nat.le_refl _);have e2:(o.length==(q0m o).length)=true:=by rw [q1v,beq_self_eq_true]
   rw [q0b,e1,e2,Bool.true_and,q0p (by omega) (by omega),q0v,q6u];rfl
end
theorem al1 {k:Nat} {p:Prg} (v:List Int) (l1:List PV) (path:List Int) (hp:FitP p) (hs:q0h p=true) (hn:v.length=nS p) (hk:1000400<=k) (hpl:path.length<=4000):∀ (n i:Nat) (o:List (List Int)) (w:List Int),path.length-i<n->i<=path.length->1<=i->o.length=i->SL p w ->
  z76 k n o.length (q0m (q2i p)) w.length (encZ path) (path.length:Int) (i:Int) p.wide p.vars l1 (q0f p.cmds) (encZ v) (q0m o) (encZ w)=r86 (q0m (o++q2o p v (nxS p w) (path.drop i)))
 | 0,i,o,w,h,hi,h1,ho,hw=>by omega
 | n+1,i,o,w,h,hi,h1,ho,hw=>by
  have hle:=q3e hs;have hwl:=hw.len hs;rw [w11];by_cases hlt:i<path.length
  ·have hd:=k04 (i:=i) (l:=path) hlt;have hd0:decide ((i:Int)>0)=true:=decide_eq_true (by omega);have hnext:=k02 (i:=i) (by omega);have hgd:(((nS p:Int)==(nS p:Int))&&decide ((0:Int)<=(nS p:Int))&&decide ((nS p:Int).toNat*1<=LIM)&&decide ((nS p:Int).toNat<=LIM))=true:=by
    rw [beq_self_eq_true,decide_eq_true (show (0:Int)<=(nS p:Int) by omega),decide_eq_true (by unfold LIM;omega),decide_eq_true (by unfold LIM;omega)];rfl
   have he:List.replicate (nS p) (PV.bool false)=q1n (inB (nS p) []):=by
    apply List.ext_getElem
    ·simp [q1n,q6g]
    ·intro i h1 h2;simp [q1n,inB]
   rw [hd,q0l hlt,hd0,q0c hlt];simp only [cond_true,Option.bind_some,q0d,q2o];rw [z2z (by omega) hs];simp only [z2d];rw [hgd,Int.toNat_natCast,he];have h2:=al2 (k:=k) v l1 path hp hs hn hk n o (by omega) (i:Int) w hw path[i] k 0 [] (by omega) (by omega) rfl;have h2':z77 k n k o.length (q0m (q2i p)) (nS p) (encZ path) (path.length:Int) (i:Int) w.length (w.length:Int) 0 p.wide p.vars l1 (q0f p.cmds) (encZ v) path[i] (q0m o) (q1n (inB (nS p) [])) (encZ w)=_:=h2;simp only [cond_true];rw [h2',hnext];have hnx:=y4u hp hs hw
   have:=al1 v l1 path hp hs hn hk hpl n (i+1) (o++[sel v path[i] (nxS p w)]) (sel v path[i] (nxS p w)) (by omega) (by omega) (by omega) (by simp;omega) (hnx.filter _)
   rw [List.length_append,List.append_assoc] at this;exact this
  ·have hd:=k03 (i:=i) (l:=path) hlt;have e2:(o.length==(q0m o).length)=true:=by rw [q1v,beq_self_eq_true]
   have e3:(q0m o).take o.length=q0m o:=List.take_of_length_le (by simp);rw [hd,e2,e3,List.drop_eq_nil_of_le (by omega),q2o,List.append_nil];rfl
theorem q7o {k:Nat} (hk:1000500<=k) {p:Prg} (hp:FitP p) (hs:q0h p=true) {v:List Int} (hn:v.length=nS p) (path:List Int) (hpl:path.length<=4000):c86 k p.wide p.vars (encT p.start) (q0f p.cmds) (encZ v) (encZ path)=r86 (q0m (q0k p v path)):=by
 obtain ⟨k,rfl⟩:∃ j,k=j+2:=⟨k-2,by omega⟩;have hst:=hp.st;have hwl:=q7p hs p.start;have hSL:=y14 p;rw [n86,x1t (by omega) hp hs];simp only [x9g];rw [z0v (by omega) hs _ _ p.start (by omega) (z7v hs)];simp only [z6f,q0b];rw [w11];cases path with
 | nil=>rfl
 | cons c path=>
  have hd:decide ((0:Int)<((c::path).length:Int))=true:=decide_eq_true (by rw [List.length_cons];omega);have e0:q0e (encZ (c::path)) 0=some (.int .i64 c):=q0l (l:=c::path) (i:=0) (by simp);have hd0:decide ((0:Int)>0)=false:=rfl;have hsl:=(hSL.filter (fun x=>dAt v x==c)).len hs;have hsl':(sel v c (whI p p.start)).length<=32:=hsl;rw [hd,e0,hd0];simp only [cond_true,cond_false,Option.bind_some,q0d];rw [q0v,x62 (by omega) (v:=v) (whI p p.start) (by omega) (fun x hx=>by rw [hn];exact q33.2 (hSL.is x hx)),z4q,q0b,q0v];rw [n139 _ _ (by rw [q0b];unfold LIM;omega) (by rw [q0b];unfold LIM;omega),y6u];have e1:decide ((sel v c (whI p p.start)).length<=(sel v c (whI p p.start)).length)=true:=decide_eq_true (Nat.le_refl _);have e2:(decide ((0+1)*24<=LIM)&&decide (0+1<=LIM))=true:=by decide
  rw [q0b,e1,q0v]
  have:=al1 (k:=k+1) v (encT p.start) (c::path) hp hs hn (by omega) hpl k 1 [sel v c (whI p p.start)] (sel v c (whI p p.start)) (by simp at hpl ⊢;omega) (by simp) (by omega) rfl (hSL.filter _)
  exact this
section
variable {k:Nat} {p:Prg} (v:List Int) (l0:List PV) (path:List Int)
theorem sl2 (hp:FitP p) (hs:q0h p=true) (hn:v.length=nS p) (hk:1000400<=k) (n1:Nat) (o:List (List Int)) (ho:o.length<=5000) (i:Int) (w:List Int) (hw:SL p w) (c:Int):∀ (n j:Nat) (acc:List Int),w.length-j<n->j<=w.length->acc=sel v c (w.take j) ->
  z78 k n1 n o.length c acc.length (encZ path) (path.length:Int) i (encZ w) (w.length:Int) (j:Int) p.wide p.vars l0 (q0f p.cmds) (encZ v) (q0m o) (encZ acc) =
   y3b k n1 (o.length+1) (encZ (nxS p (sel v c w))) (encZ path) (path.length:Int) (IntKind.i64.wrap (i+1)) p.wide p.vars l0 (q0f p.cmds) (encZ v) (q0m (o++[sel v c w]))
 | 0,j,acc,h,hj,ha=>by omega
 | n+1,j,acc,h,hj,ha=>by
  have hwl:=hw.len hs;have hal:acc.length<=w.length:=by rw [ha];exact Nat.le_trans (List.length_filter_le _ _) (by simp;omega)
  rw [v3q,q0v];by_cases hlt:j<w.length
  ·have hd:=k04 (i:=j) (l:=w) hlt;have hnext:=k02 (i:=j) (by omega);have hx:=hw.is _ (List.getElem_mem hlt);have hxg:inG v.length w[j]:=by rw [hn];exact q33.2 hx
   have ht:w.take (j+1)=w.take j++[w[j]]:=List.take_succ_eq_append_getElem hlt;rw [hd,q0l hlt,hnext];simp only [cond_true,Option.bind_some,q0d];rw [y4l hxg.1 hxg.2];simp only [Option.bind_some,q0d];cases hc:(dAt v w[j]==c)
   ·exact sl2 hp hs hn hk n1 o ho i w hw c n (j+1) acc (by omega) (by omega) (by rw [ht,ha,sel,sel,List.filter_append];simp [hc])
   ·simp only [cond_true];rw [q0p (by omega) (by omega),q00]
    have:=sl2 hp hs hn hk n1 o ho i w hw c n (j+1) (acc++[w[j]]) (by omega) (by omega) (by rw [ht,ha,sel,sel,List.filter_append];simp [hc])
    rw [List.length_append] at this;exact this
  ·have hd:=k03 (i:=j) (l:=w) hlt;have ej:w.take j=w:=List.take_of_length_le (by omega);rw [ej] at ha;have e3:(q0m o).take o.length=q0m o:=List.take_of_length_le (by simp);have hsl:=hw.filter (fun x=>dAt v x==c);rw [hd,e3,y4h (by omega) hp hs l0 acc (by omega) (fun x hx=>by rw [ha] at hx;exact hsl.is x hx),q6u];simp only [cond_true,cond_false,x9h];rw [q0p (by omega) (by omega),ha];rfl
end
theorem sl1 {k:Nat} {p:Prg} (v:List Int) (l0:List PV) (path:List Int) (hp:FitP p) (hs:q0h p=true) (hn:v.length=nS p) (hk:1000400<=k) (hpl:path.length<=4000):∀ (n i:Nat) (o:List (List Int)) (w:List Int),path.length-i<n->i<=path.length->o.length=i->SL p w ->
  y3b k n o.length (encZ w) (encZ path) (path.length:Int) (i:Int) p.wide p.vars l0 (q0f p.cmds) (encZ v) (q0m o)=r89 (q0m (o++q2o p v w (path.drop i)))
 | 0,i,o,w,h,hi,ho,hw=>by omega
 | n+1,i,o,w,h,hi,ho,hw=>by
  have hwl:=hw.len hs;rw [v3p];by_cases hlt:i<path.length
  ·have hd:=k04 (i:=i) (l:=path) hlt;have hnext:=k02 (i:=i) (by omega);rw [hd,q0l hlt,q0c hlt];simp only [cond_true,Option.bind_some,q0d,q2o];have h2:=sl2 (k:=k) v l0 path hp hs hn hk n o (by omega) (i:Int) w hw path[i] k 0 [] (by omega) (by omega) (by simp [sel]);have h2':z78 k n k o.length path[i] 0 (encZ path) (path.length:Int) (i:Int) (encZ w) (w.length:Int) 0 p.wide p.vars l0 (q0f p.cmds) (encZ v) (q0m o) []=_:=h2;rw [q0b,h2',hnext]
   have:=sl1 v l0 path hp hs hn hk hpl n (i+1) (o++[sel v path[i] w]) (nxS p (sel v path[i] w)) (by omega) (by omega) (by simp;omega) (y4u hp hs (hw.filter _))
   rw [List.length_append,List.append_assoc] at this;exact this
  ·have hd:=k03 (i:=i) (l:=path) hlt;have e3:(q0m o).take o.length=q0m o:=List.take_of_length_le (by simp);rw [hd,e3,List.drop_eq_nil_of_le (by omega),q2o,List.append_nil];rfl
theorem z9u {k:Nat} (hk:1000500<=k) {p:Prg} (hp:FitP p) (hs:q0h p=true) {v:List Int} (hn:v.length=nS p) (path:List Int) (hpl:path.length<=4000):c89 k p.wide p.vars (encT p.start) (q0f p.cmds) (encZ v) (encZ path)=r89 (q0m (q0k p v path)):=by
 obtain ⟨k,rfl⟩:=k01 (k:=k) (by omega);have hst:=hp.st;rw [n89,z0t (by omega) hs _ _ p.start (by omega) (z7v hs)];simp only [z6g];rw [q0b];exact sl1 (k:=k) v (encT p.start) path hp hs hn (by omega) hpl k 0 [] (whI p p.start) (by omega) (by omega) rfl (y14 p)
theorem y37 {k:Nat}  (f:List Int->Bool) (l:List (List Int)) (hl:l.length<=100000) (hc:∀ x∈l,c169 k (encZ x)  = r169 (f x)):∀ (n i:Nat),l.length-i<n->i<=l.length->q8x k n (q0m l)  (l.length:Int) (i:Int)=z0i (fixI f i (l.drop i))
 | 0,i,h,hi=>by omega
 | n+1,i,h,hi=>by
  rw [x49];by_cases hlt:i<l.length
  ·have hd:=k04 (i:=i) (l:=l) hlt;have hnext:=k02 (i:=i) (by omega);rw [hd,q0n,q13,List.getElem?_eq_getElem hlt,q0c hlt,hnext];simp only [cond_true,Option.map_some,Option.bind_some,q0u];rw [hc _ (List.getElem_mem hlt)];simp only [w94,fixI];cases f l[i]
   ·exact y37  f l hl hc n (i+1) (by omega) (by omega)
   ·rfl
  ·have hd:=k03 (i:=i) (l:=l) hlt;rw [hd,List.drop_eq_nil_of_le (by omega)];rfl
theorem w02 {k:Nat} (hk:100010<=k)  (f:List Int->Bool) (l:List (List Int)) (hl:l.length<=100000) (hc:∀ x∈l,c169 k (encZ x)  = r169 (f x)):y04 (k+1) (q0m l)  = z0i (fixI f 0 l):=by
 rw [w3v,q1v];exact y37 (k:=k)  f l hl hc k 0 (by omega) (by omega)
theorem z9w (x:List Int):(((encZ x).length:Int)==0)=x.isEmpty:=by
 cases x with
 | nil=>rfl
 | cons y x=>rw [beq_eq_false_iff_ne.2 (by simp;omega)];rfl
theorem z3m {k:Nat} (hk:100020<=k) (g:List (List Int)) (hg:g.length<=5000):c85 k (q0m g)=r85 (q09 g):=by
 obtain ⟨k,rfl⟩:∃ j,k=j+3:=⟨k-3,by omega⟩;rw [n85,w02 (k:=k+1) (by omega) List.isEmpty g (by omega) (fun x hx=>by rw [n169,z9w])];simp only [x32];rfl
theorem z41 {k:Nat} (g:List (List Int)) (hg:g.length<=5000):∀ (n i:Nat),g.length-i<n->i<=g.length->y9x k n (q0m g) (g.length:Int) (i:Int)=r88 (fixI List.isEmpty i (g.drop i))
 | 0,i,h,hi=>by omega
 | n+1,i,h,hi=>by
  rw [v3o];by_cases hlt:i<g.length
  ·have hd:=k04 (i:=i) (l:=g) hlt;have hnext:=k02 (i:=i) (by omega);rw [hd,q0n,q13,List.getElem?_eq_getElem hlt,q0c hlt,hnext];simp only [cond_true,Option.map_some,Option.bind_some,q0u,fixI];rw [z9w];cases g[i].isEmpty
   ·exact z41 g hg n (i+1) (by omega) (by omega)
   ·rfl
  ·have hd:=k03 (i:=i) (l:=g) hlt;rw [hd,List.drop_eq_nil_of_le (by omega)];rfl
theorem z9v {k:Nat} (hk:5010<=k) (g:List (List Int)) (hg:g.length<=5000):c88 k (q0m g)=r88 (q09 g):=by
 obtain ⟨k,rfl⟩:=k01 (k:=k) (by omega);rw [n88,q1v];exact z41 (k:=k) g hg k 0 (by omega) (by omega)
end Go.Proofs.YtgdegfijcijnoaaGreat
namespace Go.Proofs.YtgdegfijcijnoaaGreat
open Go.Dp
theorem x27 {k:Nat} (l1:List PV) (n0:Int) (f:Int->Bool) (l:List (Int)) (hl:l.length<=100000) (hc:∀ x∈l,c205 k x l1 n0=r205 (f x)):∀ (n i:Nat),l.length-i<n->i<=l.length->q8t k n (encZ l) l1 n0 (l.length:Int) (i:Int)=z0e (fixI f i (l.drop i))
 | 0,i,h,hi=>by omega
 | n+1,i,h,hi=>by
  rw [x44];by_cases hlt:i<l.length
  ·have hd:=k04 (i:=i) (l:=l) hlt;have hnext:=k02 (i:=i) (by omega);rw [hd,q0l hlt,q0c hlt,hnext];simp only [cond_true,Option.bind_some,q0d];rw [hc _ (List.getElem_mem hlt)];simp only [v0j,fixI];cases f l[i]
   ·exact x27 l1 n0 f l hl hc n (i+1) (by omega) (by omega)
   ·rfl
  ·have hd:=k03 (i:=i) (l:=l) hlt;rw [hd,List.drop_eq_nil_of_le (by omega)];rfl
theorem w6l {k:Nat} (hk:100010<=k) (l1:List PV) (n0:Int) (f:Int->Bool) (l:List (Int)) (hl:l.length<=100000) (hc:∀ x∈l,c205 k x l1 n0=r205 (f x)):y0y (k+1) (encZ l) l1 n0=z0e (fixI f 0 l):=by
 rw [w3n,q0b];exact x27 (k:=k) l1 n0 f l hl hc k 0 (by omega) (by omega)
theorem v3a {k:Nat} (hk:100010<=k) (l1:List PV) (n0:Int) (f:Int->Bool) (l:List (Int)) (hl:l.length<=100000) (hc:∀ x∈l,c205 k x l1 n0=r205 (f x)):z8e (k+2) (encZ l) l1 n0=z8w (l.any f):=by
 rw [w59,w6l (by omega) l1 n0 f l hl hc];simp only [x3w,q7a]
theorem x28 {k:Nat} (l0 l1:List PV) (n0:Int) (f:Int->Bool) (l:List (Int)) (hl:l.length<=100000) (hc:∀ x∈l,c204 k x l0 l1 n0=r204 (f x)):∀ (n i:Nat),l.length-i<n->i<=l.length->q8s k n (encZ l) l0 l1 n0 (l.length:Int) (i:Int)=z0d (fixI f i (l.drop i))
 | 0,i,h,hi=>by omega
 | n+1,i,h,hi=>by
  rw [x43];by_cases hlt:i<l.length
  ·have hd:=k04 (i:=i) (l:=l) hlt;have hnext:=k02 (i:=i) (by omega);rw [hd,q0l hlt,q0c hlt,hnext];simp only [cond_true,Option.bind_some,q0d];rw [hc _ (List.getElem_mem hlt)];simp only [x9x,fixI];cases f l[i]
   ·exact x28 l0 l1 n0 f l hl hc n (i+1) (by omega) (by omega)
   ·rfl
  ·have hd:=k03 (i:=i) (l:=l) hlt;rw [hd,List.drop_eq_nil_of_le (by omega)];rfl
theorem w6n {k:Nat} (hk:100010<=k) (l0 l1:List PV) (n0:Int) (f:Int->Bool) (l:List (Int)) (hl:l.length<=100000) (hc:∀ x∈l,c204 k x l0 l1 n0=r204 (f x)):y0x (k+1) (encZ l) l0 l1 n0=z0d (fixI f 0 l):=by
 rw [w3m,q0b];exact x28 (k:=k) l0 l1 n0 f l hl hc k 0 (by omega) (by omega)
theorem y6k {k:Nat} (l0 l1:List PV) (n0:Int) (f:Int->Bool) (s:List Int) (hl:s.length<=100000) (hc:∀ x∈s,c204 k x l0 l1 n0=r204 (f x)):∀ (n i j:Nat) (xs:List Int),s.length-j<n->j<=s.length->i<=j->xs.length=s.length->xs.take i=(s.take j).filter (fun x=>!f x)->xs.drop j=s.drop j ->
  q6n k n s.length l0 l1 n0 (i:Int) (j:Int) (encZ xs)=q7i (encZ (s.filter fun x=>!f x))
 | 0,i,j,xs,h,hj,hi,hx,h1,h2=>by omega
 | n+1,i,j,xs,h,hj,hi,hx,h1,h2=>by
  rw [x5b];by_cases hlt:j<s.length
  ·have hd:=k04 (i:=j) (l:=s) hlt;have hg:(decide ((0:Int)<=(j:Int))&&true)=true:=by rw [decide_eq_true (by omega)];rfl
   have hg2:(decide ((0:Int)<=(i:Int))&&decide ((i:Int)<(s.length:Int)))=true:=by rw [decide_eq_true (by omega),decide_eq_true (by omega)];rfl
   have hnj:IntKind.i64.wrap ((j:Int)+1)=((j+1:Nat):Int):=by rw [q0g (by omega) (by omega)];omega
   have hni:IntKind.i64.wrap ((i:Int)+1)=((i+1:Nat):Int):=by rw [q0g (by omega) (by omega)];omega
   have hxj:xs[j]'(by omega)=s[j]:=by
    have e:=h2;rw [q0c (by omega),q0c hlt] at e;exact (List.cons.inj e).1
   have hat:∀ (m:Nat) (hm:m<xs.length),(encZ xs)[0+(m:Int).toNat]? = some (.int .i64 xs[m]):=by
    intro m hm;rw [Nat.zero_add,Int.toNat_natCast,q1r,List.getElem?_eq_getElem hm];rfl
   rw [hd,hg,hat j (by omega),hxj,hnj];simp only [cond_true,Option.bind_some,q0d];rw [hc _ (List.getElem_mem hlt)];simp only [x9x];have hd2:xs.drop (j+1)=s.drop (j+1):=by rw [<- List.drop_drop,<- List.drop_drop,h2]
   have ht2:s.take (j+1)=s.take j++[s[j]]:=List.take_succ_eq_append_getElem hlt;cases hf:f s[j]
   ·simp only [Bool.not_false,cond_true];rw [hg2,hat i (by omega),hni];simp only [cond_true,Option.bind_some,Nat.zero_add,Int.toNat_natCast];rw [q3b];refine y6k l0 l1 n0 f s hl hc n (i+1) (j+1) (xs.set i s[j]) (by omega) (by omega) (by omega) (by simp;omega) ?_ ?_
    ·rw [List.take_succ_eq_append_getElem (by simp;omega),List.take_set_of_le (by omega),h1,ht2,List.filter_append];simp [hf]
    ·rw [List.drop_set_of_lt (by omega),hd2]
   ·simp only [Bool.not_true,cond_false];refine y6k l0 l1 n0 f s hl hc n i (j+1) xs (by omega) (by omega) (by omega) hx ?_ hd2;rw [h1,ht2,List.filter_append];simp [hf]
  ·have hd:=k03 (i:=j) (l:=s) hlt;have hg:(decide ((0:Int)<=(i:Int))&&decide ((i:Int)<=(s.length:Int))&&decide ((s.length:Int)<=(s.length:Int)))=true:=by
    rw [decide_eq_true (by omega),decide_eq_true (by omega),decide_eq_true (by omega)];rfl
   have hg2:(decide ((0:Int)<=(i:Int))&&decide ((i:Int)<=(s.length:Int)))=true:=by rw [decide_eq_true (by omega),decide_eq_true (by omega)];rfl
   have hjs:s.take j=s:=List.take_of_length_le (by omega);rw [hd,hg,hg2];simp only [cond_true,cond_false,Nat.zero_add,Int.toNat_natCast];rw [List.append_assoc,List.take_left' (by simp;omega),q3h,h1,hjs]
theorem v3b {k:Nat} (hk:100010<=k) (l0 l1:List PV) (n0:Int) (f:Int->Bool) (s:List Int) (hl:s.length<=100000) (hc:∀ k',k<=k'->∀ x∈s,c204 k' x l0 l1 n0=r204 (f x)):z3e (k+2) (encZ s) l0 l1 n0=q7i (encZ (s.filter fun x=>!f x)):=by
 have etk:(encZ s).take s.length=encZ s:=List.take_of_length_le (by simp);rw [w3y,q0b,etk,w6n (k:=k) hk l0 l1 n0 f s hl (hc k (Nat.le_refl k))];simp only [x3v];rcases q3i f s 0 with ⟨h1,h2⟩ | ⟨j,hj,h1,h2,h3⟩
 ·rw [h1];have hall:s.filter (fun x=>!f x)=s:=List.filter_eq_self.2 fun x hx=>by
   obtain ⟨i,hi,rfl⟩:=List.mem_iff_getElem.1 hx;simp [h2 _ (List.getElem_mem hi)]
  rw [hall];rfl
 ·rw [h1];have e1:((((0+j:Nat):Int))==(-1))=false:=by rw [beq_eq_false_iff_ne];omega
  have e2:IntKind.i64.wrap (((0+j:Nat):Int)+1)=((j+1:Nat):Int):=by rw [q0g (by omega) (by omega)];omega
  rw [e1,e2,Nat.zero_add];simp only [cond_false];have hpre:(s.take j).filter (fun x=>!f x)=s.take j:=List.filter_eq_self.2 fun x hx=>by
   obtain ⟨i,hi,rfl⟩:=List.mem_iff_getElem.1 hx;rw [List.length_take] at hi;rw [List.getElem_take];simp [h3 i (by omega)]
  refine y6k (k:=k+1) l0 l1 n0 f s hl (hc (k+1) (by omega)) (k+1) j (j+1) s (by omega) (by omega) (by omega) rfl ?_ rfl;rw [List.take_succ_eq_append_getElem hj,List.filter_append,hpre];simp [h2]
theorem x29 {k:Nat} (l0 l1:List PV) (n0:Int) (f:Int->Bool) (l:List (Int)) (hl:l.length<=100000) (hc:∀ x∈l,c206 k x l0 l1 n0=r206 (f x)):∀ (n i:Nat),l.length-i<n->i<=l.length->q8u k n (encZ l) l0 l1 n0 (l.length:Int) (i:Int)=z0f (fixI f i (l.drop i))
 | 0,i,h,hi=>by omega
 | n+1,i,h,hi=>by
  rw [x45];by_cases hlt:i<l.length
  ·have hd:=k04 (i:=i) (l:=l) hlt;have hnext:=k02 (i:=i) (by omega);rw [hd,q0l hlt,q0c hlt,hnext];simp only [cond_true,Option.bind_some,q0d];rw [hc _ (List.getElem_mem hlt)];simp only [v0k,fixI];cases f l[i]
   ·exact x29 l0 l1 n0 f l hl hc n (i+1) (by omega) (by omega)
   ·rfl
  ·have hd:=k03 (i:=i) (l:=l) hlt;rw [hd,List.drop_eq_nil_of_le (by omega)];rfl
theorem w6p {k:Nat} (hk:100010<=k) (l0 l1:List PV) (n0:Int) (f:Int->Bool) (l:List (Int)) (hl:l.length<=100000) (hc:∀ x∈l,c206 k x l0 l1 n0=r206 (f x)):y0z (k+1) (encZ l) l0 l1 n0=z0f (fixI f 0 l):=by
 rw [w3o,q0b];exact x29 (k:=k) l0 l1 n0 f l hl hc k 0 (by omega) (by omega)
theorem y89 (l:List Int) (K0:List PV->R):y7 (q7i (encZ l)) K0=K0 (encZ l):=by
 have h:([SV.c (.own 3 0 (encZ l))].all q0z&&true)=true:=by simp [q0z,q1m,q2h];rfl
 show (bif ([SV.c (.own 3 0 (encZ l))].all q0z&&true) then K0 (encZ l) else none)=_
 rw [h];rfl
theorem w6m {k:Nat} (hk:100200<=k) (a b:List Int) (ha:a.length<=1000) (hb:b.length<=1000) (L:List PV) (i:Nat) (hi:i<=5000) (hL:q0e L ((i+1:Nat):Int)=some (.row 0 0 (encZ b))) :
  z8e k (encZ a) L (i:Int)=z8w (q15 a b):=by
 obtain ⟨k,rfl⟩:∃ j,k=j+2:=⟨k-2,by omega⟩;exact v3a (k:=k) (by omega) L (i:Int) (fun y=>b.contains y) a (by omega) (fun x hx=>by
  obtain ⟨k,rfl⟩:=k01 (k:=k) (by omega);have e:IntKind.i64.wrap ((i:Int)+1)=((i+1:Nat):Int):=by rw [q0g (by omega) (by omega)];omega
  rw [n205,e,hL];simp only [Option.bind_some,q0u];rw [q9z (by omega) b (by omega)];simp only [x7t])
theorem w6o {k:Nat} (hk:100300<=k) {p:Prg} (hp:FitP p) (a b:List Int) (ha:a.length<=1000) (hin:∀ x∈a,inS p x) (hb:b.length<=1000) (L:List PV) (i:Nat) (hi:i<=5000) (hL:q0e L ((i+1:Nat):Int)=some (.row 0 0 (encZ b))) :
  z3e k (encZ a) (q0m (q2i p)) L (i:Int)=q7i (encZ (a.filter fun x=>q15 (nxL p x) b)):=by
 obtain ⟨k,rfl⟩:∃ j,k=j+2:=⟨k-2,by omega⟩;rw [v3b (k:=k) (by omega) (q0m (q2i p)) L (i:Int) (fun x=>!q15 (nxL p x) b) a (by omega) (fun k' hk' x hx=>by
  obtain ⟨k',rfl⟩:=k01 (k:=k') (by omega);have hx':=hin x hx;have hnl:=q5u hp x;rw [n204,(z62 p).bind (by rw [z3s];exact q33.2 hx'),y1h hx',w6m (by omega) (nxL p x) b (by omega) hb L i hi hL];simp only [x7q])]
 simp only [Bool.not_not]
theorem x5t {p:Prg} {g:List (List Int)} {j:Nat} (hj:j+1<g.length):∃ b,∃ l,canF p (g.drop (j+1))=b::l /\ canF p (g.drop j)=(g[j]'(by omega)).filter (fun x=>q15 (nxL p x) b)::b::l:=by
 have e:g.drop (j+1)=g[j+1]::g.drop (j+2):=q0c hj;obtain ⟨f,e2⟩:=z6n p g[j+1] (g.drop (j+2));refine ⟨_,_,by rw [e];exact e2,?_⟩;rw [q0c (l:=g) (by omega:j<g.length),canF,e,e2];rfl
theorem rp1 {k:Nat} (hk:100400<=k) {p:Prg} (hp:FitP p) (hs:q0h p=true) (g:List (List Int)) (hg:∀ l∈g,SL p l) (hgl:g.length<=4000) (h1:1<=g.length):∀ (j n:Nat) (xs:List (List Int)),j<n->j<g.length->xs=g.take j++canF p (g.drop j) ->
  y2g k n ((g.length:Int)-1) g.length (q0m (q2i p)) ((j:Int)-1) (q0m xs)=y98 k ((g.length:Int)-1) (q0m (canF p g)) (q0m (q2i p))
 | j,0,xs,h,hj,hx=>by omega
 | 0,n+1,xs,h,hj,hx=>by
  have hd:decide (((0:Nat):Int)-1>=0)=false:=rfl;have e:xs=canF p g:=by rw [hx];simp
  have ht:(q0m (canF p g)).take g.length=q0m (canF p g):=List.take_of_length_le (by simp [q4p]);rw [x6t,hd,e,ht];rfl
 | j+1,n+1,xs,h,hj,hx=>by
  obtain ⟨b,l,e1,e2⟩:=x5t (p:=p) hj;have hd:decide (((j+1:Nat):Int)-1>=0)=true:=decide_eq_true (by omega);have hjj:((j+1:Nat):Int)-1=(j:Int):=by omega
  have hd2:(decide ((0:Int)<=(j:Int))&&decide ((j:Int)<(g.length:Int)))=true:=by rw [decide_eq_true (by omega),decide_eq_true (by omega)];rfl
  have hjl:j<g.length:=by omega
  have hxl:xs.length=g.length:=by rw [hx,List.length_append,q4p];simp;omega
  have hxj:xs[j]? = some g[j]:=by
   rw [hx,List.getElem?_append_left (by simp;omega),List.getElem?_take_of_lt (by omega),List.getElem?_eq_getElem hjl]
  have hxj1:xs[j+1]? = some b:=by
   rw [hx,List.getElem?_append_right (by simp;omega),e1]
   have:j+1-(List.take (j+1) g).length=0:=by simp;omega
   rw [this];rfl
  have hsl:=hg g[j] (List.getElem_mem hjl);have hgj:=hsl.len hs;have hbl:b.length<=32:=by
   have:=z2k (g.drop (j+1)) (fun l hl=>hg l (List.mem_of_mem_drop hl)) b (by rw [e1];simp)
   exact this.len hs
  have hat:(q0m xs)[0+(j:Int).toNat]? = some (.row 0 0 (encZ g[j])):=by rw [Nat.zero_add,Int.toNat_natCast,q13,hxj];rfl
  have hset:((q0m xs).set (0+(j:Int).toNat) PV.junk).take g.length=(q0m xs).set j PV.junk:=by rw [Nat.zero_add,Int.toNat_natCast];exact List.take_of_length_le (by simp [hxl])
  have hL:q0e ((q0m xs).set j PV.junk) ((j+1:Nat):Int)=some (.row 0 0 (encZ b)):=by
   rw [q0n,List.getElem?_set_ne (by omega),q13,hxj1];rfl
  have hw:IntKind.i64.wrap ((j:Int)-1)=(j:Int)-1:=q0g (by omega) (by omega);rw [x6t,hjj,show decide ((j:Int)>=0)=true from decide_eq_true (by omega),show (true&&decide ((j:Int)<(g.length:Int)))=true from by (rw [decide_eq_true (by omega)];rfl),hat,hset];simp only [cond_true,Option.bind_some,q0u];rw [w6o (by omega) hp g[j] b (by omega) hsl.is (by omega) _ j (by omega) hL,y89];have hs1:((some (0+(j:Int).toNat):Option Nat)==some (0+(j:Int).toNat))=true:=beq_self_eq_true _;rw [hs1,Bool.true_and,decide_eq_true (Nat.le_refl _),q0b,q0v,hw];simp only [cond_true];have e3:(q0m xs).set (0+(j:Int).toNat) (PV.row 0 0 (encZ (g[j].filter fun x=>q15 (nxL p x) b)))=q0m (xs.set j (g[j].filter fun x=>q15 (nxL p x) b)):=by
   rw [Nat.zero_add,Int.toNat_natCast];unfold q0m;rw [List.map_set]
  rw [e3];refine rp1 hk hp hs g hg hgl h1 j n _ (by omega) (by omega) ?_;rw [hx,e1,e2,List.take_succ_eq_append_getElem hjl,List.append_assoc,List.set_append_right _ _ (by simp;omega)]
  have:j-(List.take j g).length=0:=by simp;omega
  rw [this];rfl
theorem rp3 {k:Nat} (hk:100400<=k) {p:Prg} (hp:FitP p) (hs:q0h p=true) (g:List (List Int)) (hg:∀ l∈g,SL p l) (hgl:g.length<=4000):∀ (n i:Nat) (o:List Int) (c0:List Int) (x:Int),g.length-i<n->i<=g.length->1<=i->o.length=i->o[i-1]? = some x->x∈c0->inS p x->Cn p (c0::g.drop i) ->
  y2h k n ((g.length:Int)-1) (q0m g) (q0m (q2i p)) i (i:Int) (encZ o)=r138 (encZ (o++goP p x (g.drop i)))
 | 0,i,o,c0,x,h,hi,h1,ho,hx,hc,hin,hcn=>by omega
 | n+1,i,o,c0,x,h,hi,h1,ho,hx,hc,hin,hcn=>by
  have eo:(encZ o).take i=encZ o:=List.take_of_length_le (by simp [ho]);rw [w69,eo];by_cases hlt:i<g.length
  ·have hd:decide ((i:Int)<=(g.length:Int)-1)=true:=decide_eq_true (by omega);have hnext:=k02 (i:=i) (by omega);have hprev:IntKind.i64.wrap ((i:Int)-1)=((i-1:Nat):Int):=by rw [q0g (by omega) (by omega)];omega
   have hsl:=hg g[i] (List.getElem_mem hlt);have hgi:=hsl.len hs;rw [q0c hlt] at hcn;have hstep:=y8u (p:=p) (x:=x) (c:=g[i]) (hcn.1 g[i] rfl x hc);have hlk:q0e (q0m g) (i:Int)=some (.row 0 0 (encZ g[i])):=by rw [q0n,q13,List.getElem?_eq_getElem hlt];rfl
   have hlo:q0e (encZ o) ((i-1:Nat):Int)=some (.int .i64 x):=by rw [q0n,q1r,hx];rfl
   have hnl:=q5u hp x;obtain ⟨k,rfl⟩:=k01 (k:=k) (by omega);rw [hd,hlk];simp only [cond_true,Option.bind_some,q0u];rw [w6p (k:=k) (by omega) (q0m (q2i p)) (encZ o) (i:Int) (fun y=>(nxL p x).contains y) g[i] (by omega) (fun y hy=>by
    obtain ⟨k,rfl⟩:=k01 (k:=k) (by omega);rw [n206,hprev,hlo];simp only [Option.bind_some,q0d];rw [(z62 p).bind (by rw [z3s];exact q33.2 hin),y1h hin,q9z (by omega) (nxL p x) (by omega)];simp only [x7t])]
   simp only [x3x];have hfind:∃ j,∃ hj:j<g[i].length,fixI (fun y=>(nxL p x).contains y) 0 g[i]=(j:Int) /\ g[i][j]=q5w p x g[i]:=by
    rcases q3i (fun y=>(nxL p x).contains y) g[i] 0 with ⟨_,h2⟩ | ⟨j,hj,h2,h3,h4⟩
    ·have:=h2 _ hstep.1
     rw [List.contains_iff_mem.2 hstep.2] at this;cases this
    ·refine ⟨j,hj,by rw [h2,Nat.zero_add],?_⟩;unfold q5w
     have:g[i].find? (fun y=>(nxL p x).contains y)=some g[i][j]:=by
      rw [List.find?_eq_some_iff_getElem];exact ⟨h3,j,hj,rfl,fun j' hj'=>by rw [h4 j' hj'];rfl⟩
     rw [this];rfl
   obtain ⟨j,hj,hf1,hf2⟩:=hfind;rw [hf1,q0l hj,hf2];simp only [Option.bind_some,q0d];rw [q0p (by omega) (by omega),q00,hnext];simp only [cond_true]
   have:=rp3 (k:=k+1) (by omega) hp hs g hg hgl n (i+1) (o++[q5w p x g[i]]) g[i] (q5w p x g[i]) (by omega) (by omega) (by omega) (by simp;omega) (by rw [Nat.add_sub_cancel,List.getElem?_append_right (by omega)];simp [ho]) hstep.1 (hsl.is _ hstep.1) hcn.2
   rw [this,q0c hlt,goP,List.append_assoc];rfl
  ·have hd:decide ((i:Int)<=(g.length:Int)-1)=false:=decide_eq_false (by omega);have hoe:(encZ o).isEmpty=false:=by
    cases o with
    | nil=>simp at ho;omega
    | cons y o=>rfl
   rw [hd,List.drop_eq_nil_of_le (by omega),goP,List.append_nil,hoe];rfl
def z8x (p:Prg) (g:List (List Int)):List Int:=bif decide (0<=q09 g) then [] else q40 p g
theorem x08 {p:Prg} (g:List (List Int)) (h:∀ l∈canF p g,l≠[]) (h0:g≠[]):∃ x xs l,canF p g=(x::xs)::l:=by
 cases hc:canF p g with
 | nil=>
  have:=q4p p g
  rw [hc] at this;exact absurd (List.eq_nil_of_length_eq_zero this.symm) h0
 | cons c l=>
  cases hcc:c with
  | nil=>exact absurd hcc (h c (by rw [hc];simp))
  | cons x xs=>exact ⟨x,xs,l,rfl⟩
theorem x4x {k:Nat} (hk:1000600<=k) {p:Prg} (hp:FitP p) (hs:q0h p=true) {v:List Int} (hn:v.length=nS p) (path:List Int) (h0:path≠[]) (hpl:path.length<=4000):c138 k p.wide p.vars (encT p.start) (q0f p.cmds) (encZ v) (encZ path)=r138 (encZ (z8x p (q0k p v path))):=by
 obtain ⟨k,rfl⟩:∃ j,k=j+2:=⟨k-2,by omega⟩;have hgl:=q2t p v path;have hg:=z6l hp hs v path;have hpos:1<=path.length:=Nat.pos_of_ne_zero fun h=>h0 (List.eq_nil_of_length_eq_zero h)
 have hg0:q0k p v path≠[]:=by intro h;rw [h] at hgl;simp at hgl;omega
 rw [n138,q7o (by omega) hp hs hn path hpl];simp only [x7y,q1v];have ht:(q0m (q0k p v path)).take (q0k p v path).length=q0m (q0k p v path):=List.take_of_length_le (by simp);rw [x1t (by omega) hp hs];simp only [x9g];rw [ht,z3m (by omega) _ (by omega)];simp only [x97,z8x];rw [show decide (q09 (q0k p v path)>=0)=decide (0<=q09 (q0k p v path)) from rfl];cases hf:decide (0<=q09 (q0k p v path))
 rotate_left
 ·rfl
 have hf':¬ 0<=q09 (q0k p v path):=of_decide_eq_false hf;have e1:IntKind.i64.wrap (((q0k p v path).length:Int)-1)=((q0k p v path).length:Int)-1:=q0g (by omega) (by omega);have e2:IntKind.i64.wrap (((q0k p v path).length:Int)-1-1)=(((q0k p v path).length-1:Nat):Int)-1:=by rw [q0g (by omega) (by omega)];omega
 simp only [cond_false];rw [e1,e2,rp1 (k:=k+1) (by omega) hp hs (q0k p v path) hg (by omega) (by omega) ((q0k p v path).length-1) (k+1) (q0k p v path) (by omega) (by omega) (by
  have hll:(q0k p v path).length-1<(q0k p v path).length:=by omega
  have e3:(q0k p v path).drop ((q0k p v path).length-1)=[(q0k p v path)[(q0k p v path).length-1]]:=by
   rw [q0c hll,List.drop_eq_nil_of_le (by omega)]
  rw [e3];have e4:canF p [(q0k p v path)[(q0k p v path).length-1]]=[(q0k p v path)[(q0k p v path).length-1]]:=rfl;rw [e4,<- e3,List.take_append_drop])]
 have hne:=y5x p (q0k p v path) (z29 p v path _) (y35 hf');have hcn:=y5w p (q0k p v path);have hcs:=z2k (q0k p v path) hg;obtain ⟨x,xs,l,hc⟩:=x08 (p:=p) (q0k p v path) hne hg0;have hlk:q0e (q0m (canF p (q0k p v path))) 0=some (.row 0 0 (encZ (x::xs))):=by
  rw [hc];rfl
 have hlk2:q0e (encZ (x::xs)) 0=some (.int .i64 x):=rfl;rw [w6q,hlk];simp only [Option.bind_some,q0u];rw [hlk2];simp only [Option.bind_some,q0d];have hin:inS p x:=(hcs (x::xs) (by rw [hc];simp)).is x (by simp);have hcl:=q4p p (q0k p v path);have hgo:=rp3 (k:=k+1) (by omega) hp hs (canF p (q0k p v path)) hcs (by omega) (k+1) 1 [x] (x::xs) x (by omega) (by omega) (by omega) rfl rfl (by simp) hin (by rw [hc] at hcn ⊢;exact hcn);rw [hcl] at hgo;have e5:q40 p (q0k p v path)=[x]++goP p x ((canF p (q0k p v path)).drop 1):=by
  unfold q40;rw [hc];rfl
 rw [e5];exact hgo
theorem sr2 {k:Nat} (hk:1000300<=k) {p:Prg} (hp:FitP p) (hs:q0h p=true) (l0:List PV) (g cs:List (List Int)) (n1:Nat) (j:Nat) (hj:j+1<4000) (hcl:cs.length=g.length) (hjl:j+1<g.length) (b:List Int) (hb:cs[j+1]? = some b) (hbl:b.length<=32) (w:List Int) (hw:SL p w):∀ (n q:Nat) (acc:List Int),w.length-q<n->q<=w.length->acc=(w.take q).filter (fun x=>q15 (nxL p x) b) ->
  z1z k n1 n (q0m g) g.length (j:Int) acc.length (encZ w) (w.length:Int) (q:Int) p.wide p.vars l0 (q0f p.cmds) (q0m cs) (encZ acc) =
   z48 k n1 (q0m g) g.length (IntKind.i64.wrap ((j:Int)-1)) p.wide p.vars l0 (q0f p.cmds) (q0m (cs.set j (w.filter fun x=>q15 (nxL p x) b)))
 | 0,q,acc,h,hq,ha=>by omega
 | n+1,q,acc,h,hq,ha=>by
  have hwl:=hw.len hs;have hal:acc.length<=w.length:=by rw [ha];exact Nat.le_trans (List.length_filter_le _ _) (by simp;omega)
  rw [w6s,q0v];by_cases hlt:q<w.length
  ·have hd:=k04 (i:=q) (l:=w) hlt;have hnext:=k02 (i:=q) (by omega);have hj1:IntKind.i64.wrap ((j:Int)+1)=((j+1:Nat):Int):=by rw [q0g (by omega) (by omega)];omega
   have hd2:(decide ((0:Int)<=((j+1:Nat):Int))&&decide (((j+1:Nat):Int)<(g.length:Int)))=true:=by rw [decide_eq_true (by omega),decide_eq_true (by omega)];rfl
   have hx:=hw.is _ (List.getElem_mem hlt);have hnl:=q5u hp w[q];have hat:(q0m cs)[0+(((j+1:Nat):Int)).toNat]? = some (.row 0 0 (encZ b)):=by rw [Nat.zero_add,Int.toNat_natCast,q13,hb];rfl
   have ht:w.take (q+1)=w.take q++[w[q]]:=List.take_succ_eq_append_getElem hlt;rw [hd,q0l hlt,hj1,hd2,hat,hnext];simp only [cond_true,Option.bind_some,q0d,q0u];rw [z4b (by omega) hp hs hx];simp only [y3f];rw [y1o (by omega) (nxL p w[q]) b (by omega) (by omega)];simp only [x9i];cases hc:q15 (nxL p w[q]) b
   ·exact sr2 hk hp hs l0 g cs n1 j hj hcl hjl b hb hbl w hw n (q+1) acc (by omega) (by omega) (by rw [ht,ha,List.filter_append];simp [hc])
   ·simp only [cond_true];rw [q0p (by omega) (by omega),q00]
    have:=sr2 hk hp hs l0 g cs n1 j hj hcl hjl b hb hbl w hw n (q+1) (acc++[w[q]]) (by omega) (by omega) (by rw [ht,ha,List.filter_append];simp [hc])
    rw [List.length_append] at this;exact this
  ·have hd:=k03 (i:=q) (l:=w) hlt;have ej:w.take q=w:=List.take_of_length_le (by omega);rw [ej] at ha;have hd2:(decide ((0:Int)<=(j:Int))&&decide ((j:Int)<(g.length:Int)))=true:=by rw [decide_eq_true (by omega),decide_eq_true (by omega)];rfl
   obtain ⟨z,hz⟩:∃ z,(q0m cs)[0+(j:Int).toNat]? = some z:=⟨_,List.getElem?_eq_getElem (by rw [Nat.zero_add,Int.toNat_natCast,q1v];omega)⟩;have e3:(q0m cs).set (0+(j:Int).toNat) (PV.row 0 0 (encZ acc))=q0m (cs.set j acc):=by
    rw [Nat.zero_add,Int.toNat_natCast];unfold q0m;rw [List.map_set]
   rw [hd,hd2,hz];simp only [cond_true,cond_false,Option.bind_some];rw [e3,ha]
theorem sr4 {k:Nat} (hk:100100<=k) {p:Prg} (hs:q0h p=true) (l0:List PV) (cs:List (List Int)) (N:Nat) (hN:cs.length=N) (n1:Nat) (i:Nat) (hi:i<N) (hNl:N<=4000) (c:List Int) (hc:cs[i]? = some c) (hcl:c.length<=32) (o:List Int) (ho:o.length=i) (r:List Int) (hr:r.length<=100):∀ (n q:Nat),r.length-q<n->q<=r.length->∀ y,(r.drop q).find? (fun y=>c.contains y)=some y ->
  z49 k n1 n N i (i:Int) (encZ r) (r.length:Int) (q:Int) p.wide p.vars l0 (q0f p.cmds) (q0m cs) (encZ o) =
   z10 k n1 N (i+1) ((i+1:Nat):Int) p.wide p.vars l0 (q0f p.cmds) (q0m cs) (encZ (o++[y]))
 | 0,q,h,hq,y,hy=>by omega
 | n+1,q,h,hq,y,hy=>by
  rw [w6u];by_cases hlt:q<r.length
  ·have hd:=k04 (i:=q) (l:=r) hlt;have hnext:=k02 (i:=q) (by omega);have hni:IntKind.i64.wrap ((i:Int)+1)=((i+1:Nat):Int):=by rw [q0g (by omega) (by omega)];omega
   have hd2:(decide ((0:Int)<=(i:Int))&&decide ((i:Int)<(N:Int)))=true:=by rw [decide_eq_true (by omega),decide_eq_true (by omega)];rfl
   have hat:(q0m cs)[0+(i:Int).toNat]? = some (.row 0 0 (encZ c)):=by rw [Nat.zero_add,Int.toNat_natCast,q13,hc];rfl
   have eo:(encZ o).take i=encZ o:=List.take_of_length_le (by simp [ho]);rw [q0c hlt,List.find?_cons] at hy;rw [hd,q0l hlt,hd2,hat,hnext,hni,eo];simp only [cond_true,Option.bind_some,q0d,q0u];rw [z63 (by omega) c (by omega)];simp only [z6i];cases hcc:c.contains r[q]
   ·rw [hcc] at hy;exact sr4 hk hs l0 cs N hN n1 i hi hNl c hc hcl o ho r hr n (q+1) (by omega) (by omega) y hy
   ·rw [hcc] at hy;simp only [cond_true];rw [q0p (by omega) (by omega),q00];injection hy with hy
    rw [hy];rfl
  ·rw [List.drop_eq_nil_of_le (by omega)] at hy;cases hy
theorem w2e {p:Prg} {x:Int} {c:List Int} (hc:c.Pairwise (·<·)) (h:∃ y∈c,y∈nxL p x):(nxL p x).find? (fun y=>c.contains y)=some (q5w p x c):=by
 rw [w03 (v2w p x) hc];unfold q5w;cases hf:c.find? (fun y=>(nxL p x).contains y) with
 | none=>
  obtain ⟨y,h1,h2⟩:=h
  have:=List.find?_eq_none.1 hf y h1
  rw [List.contains_iff_mem.2 h2] at this;exact absurd rfl this
 | some y=>rfl
theorem sr3 {k:Nat} (hk:1000300<=k) {p:Prg} (hp:FitP p) (hs:q0h p=true) (l0:List PV) (g:List (List Int)) (hg:∀ l∈g,SL p l) (hgl:g.length<=4000):∀ (n i:Nat) (o:List Int) (c0:List Int) (x:Int),g.length-i<n->i<=g.length->1<=i->o.length=i->o[i-1]? = some x->x∈c0->inS p x->Cn p (c0::g.drop i) ->
  z10 k n g.length i (i:Int) p.wide p.vars l0 (q0f p.cmds) (q0m g) (encZ o)=r101 (encZ (o++goP p x (g.drop i)))
 | 0,i,o,c0,x,h,hi,h1,ho,hx,hc,hin,hcn=>by omega
 | n+1,i,o,c0,x,h,hi,h1,ho,hx,hc,hin,hcn=>by
  have eo:(encZ o).take i=encZ o:=List.take_of_length_le (by simp [ho]);rw [w6t,eo];by_cases hlt:i<g.length
  ·have hd:=k04 (i:=i) (l:=g) hlt;have hprev:IntKind.i64.wrap ((i:Int)-1)=((i-1:Nat):Int):=by rw [q0g (by omega) (by omega)];omega
   have hd2:(decide ((0:Int)<=((i-1:Nat):Int))&&decide (((i-1:Nat):Int)<(i:Int)))=true:=by rw [decide_eq_true (by omega),decide_eq_true (by omega)];rfl
   have hat:(encZ o)[0+(((i-1:Nat):Int)).toNat]? = some (.int .i64 x):=by rw [Nat.zero_add,Int.toNat_natCast,q1r,hx];rfl
   have hsl:=hg g[i] (List.getElem_mem hlt);have hgi:=hsl.len hs;rw [q0c hlt] at hcn;have hex:=hcn.1 g[i] rfl x hc;have hstep:=y8u (p:=p) (x:=x) (c:=g[i]) hex;have hnl:=q5u hp x;rw [hd,hprev,hd2,hat];simp only [cond_true,Option.bind_some,q0d];rw [z4b (by omega) hp hs hin];simp only [y3f];have h4:=sr4 (k:=k) (by omega) hs l0 g g.length rfl n i hlt hgl g[i] (List.getElem?_eq_getElem hlt) (by omega) o ho (nxL p x) (by omega) k 0 (by omega) (by omega) (q5w p x g[i]) (w2e hsl.lt hex);have h4':z49 k n k g.length i (i:Int) (encZ (nxL p x)) ((nxL p x).length:Int) 0 p.wide p.vars l0 (q0f p.cmds) (q0m g) (encZ o)=_:=h4;rw [q0b,h4']
   have:=sr3 hk hp hs l0 g hg hgl n (i+1) (o++[q5w p x g[i]]) g[i] (q5w p x g[i]) (by omega) (by omega) (by omega) (by simp;omega) (by rw [Nat.add_sub_cancel,List.getElem?_append_right (by omega)];simp [ho]) hstep.1 (hsl.is _ hstep.1) hcn.2
   rw [this,q0c hlt,goP,List.append_assoc];rfl
  ·have hd:=k03 (i:=i) (l:=g) hlt;rw [hd,List.drop_eq_nil_of_le (by omega),goP,List.append_nil];rfl
theorem sr1 {k:Nat} (hk:1000300<=k) {p:Prg} (hp:FitP p) (hs:q0h p=true) (l0:List PV) (g:List (List Int)) (hg:∀ l∈g,SL p l) (hgl:g.length<=3990) (h1:1<=g.length) (x:Int) (xs:List Int) (l:List (List Int)) (hc:canF p g=(x::xs)::l):∀ (j n:Nat) (cs:List (List Int)),j<n->j<g.length->cs=g.take j++canF p (g.drop j) ->
  z48 k n (q0m g) g.length ((j:Int)-1) p.wide p.vars l0 (q0f p.cmds) (q0m cs)=r101 (encZ (q40 p g))
 | j,0,cs,h,hj,hx=>by omega
 | 0,n+1,cs,h,hj,hx=>by
  have hd:decide (((0:Nat):Int)-1>=0)=false:=rfl;have e:cs=canF p g:=by rw [hx];simp
  have hcs:=z2k g hg;have hcn:=y5w p g;have hcl:=q4p p g;have hp0:decide ((0:Int)<(g.length:Int))=true:=decide_eq_true (by omega);have e0:(q0m (canF p g))[0]? = some (.row 0 0 (encZ (x::xs))):=by rw [hc];rfl
  have e1:q0e (encZ (x::xs)) 0=some (.int .i64 x):=rfl;have hin:inS p x:=(hcs (x::xs) (by rw [hc];simp)).is x (by simp);rw [x6p,hd,e,hp0,e0];simp only [cond_false,cond_true,Option.bind_some,q0u];rw [e1];simp only [Option.bind_some,q0d];have hgo:=sr3 (k:=k) hk hp hs l0 (canF p g) hcs (by omega) k 1 [x] (x::xs) x (by omega) (by omega) (by omega) rfl rfl (by simp) hin (by rw [hc] at hcn ⊢;exact hcn);rw [hcl] at hgo;have e5:q40 p g=[x]++goP p x ((canF p g).drop 1):=by
   unfold q40;rw [hc];rfl
  rw [e5];exact hgo
 | j+1,n+1,cs,h,hj,hx=>by
  obtain ⟨b,l',e1,e2⟩:=x5t (p:=p) hj;have hjl:j<g.length:=by omega
  have hd:decide (((j+1:Nat):Int)-1>=0)=true:=decide_eq_true (by omega);have hjj:((j+1:Nat):Int)-1=(j:Int):=by omega
  have hxl:cs.length=g.length:=by rw [hx,List.length_append,q4p];simp;omega
  have hxj1:cs[j+1]? = some b:=by
   rw [hx,List.getElem?_append_right (by simp;omega),e1]
   have:j+1-(List.take (j+1) g).length=0:=by simp;omega
   rw [this];rfl
  have hsl:=hg g[j] (List.getElem_mem hjl);have hgj:=hsl.len hs;have hbl:b.length<=32:=by
   have:=z2k (g.drop (j+1)) (fun l hl=>hg l (List.mem_of_mem_drop hl)) b (by rw [e1];simp)
   exact this.len hs
  have hw:IntKind.i64.wrap ((j:Int)-1)=(j:Int)-1:=q0g (by omega) (by omega);have hlk:q0e (q0m g) (j:Int)=some (.row 0 0 (encZ g[j])):=by rw [q0n,q13,List.getElem?_eq_getElem hjl];rfl
  rw [x6p,hjj,show decide ((j:Int)>=0)=true from decide_eq_true (by omega),hlk];simp only [cond_true,Option.bind_some,q0u];have h2:=sr2 (k:=k) hk hp hs l0 g cs n j (by omega) hxl hj b hxj1 hbl g[j] hsl k 0 [] (by omega) (by omega) (by simp);have h2':z1z k n k (q0m g) g.length (j:Int) 0 (encZ g[j]) ((g[j]).length:Int) 0 p.wide p.vars l0 (q0f p.cmds) (q0m cs) []=_:=h2;rw [q0b,h2',hw];refine sr1 hk hp hs l0 g hg hgl h1 x xs l hc j n _ (by omega) (by omega) ?_;rw [hx,e1,e2,List.take_succ_eq_append_getElem hjl,List.append_assoc,List.set_append_right _ _ (by simp;omega)]
  have:j-(List.take j g).length=0:=by simp;omega
  rw [this];rfl
theorem x8r {k:Nat} (hk:1000400<=k) {p:Prg} (hp:FitP p) (hs:q0h p=true) {v:List Int} (path:List Int) (h0:path≠[]) (hpl:path.length<=3900) (hf':¬ 0<=q09 (q0k p v path)):c101 k p.wide p.vars (encT p.start) (q0f p.cmds) (q0m (q0k p v path))=r101 (encZ (q40 p (q0k p v path))):=by
 obtain ⟨k,rfl⟩:=k01 (k:=k) (by omega);have hgl:=q2t p v path;have hg:=z6l hp hs v path;have hpos:1<=path.length:=Nat.pos_of_ne_zero fun h=>h0 (List.eq_nil_of_length_eq_zero h)
 have hg0:q0k p v path≠[]:=by intro h;rw [h] at hgl;simp at hgl;omega
 have hne:=y5x p (q0k p v path) (z29 p v path _) (y35 hf');obtain ⟨x,xs,l,hc⟩:=x08 (p:=p) (q0k p v path) hne hg0;rw [n101,q1v,Nat.zero_add,Int.zero_add,List.nil_append,q0p (by omega) (by omega)];simp only [cond_true];by_cases h2:2<=(q0k p v path).length
 ·have e2:IntKind.i64.wrap (((q0k p v path).length:Int)-2)=(((q0k p v path).length-1:Nat):Int)-1:=by rw [q0g (by omega) (by omega)];omega
  rw [e2];exact sr1 (k:=k) (by omega) hp hs _ (q0k p v path) hg (by omega) (by omega) x xs l hc ((q0k p v path).length-1) k _ (by omega) (by omega) (by
   have hll:(q0k p v path).length-1<(q0k p v path).length:=by omega
   have e3:(q0k p v path).drop ((q0k p v path).length-1)=[(q0k p v path)[(q0k p v path).length-1]]:=by
    rw [q0c hll,List.drop_eq_nil_of_le (by omega)]
   rw [e3];have e4:canF p [(q0k p v path)[(q0k p v path).length-1]]=[(q0k p v path)[(q0k p v path).length-1]]:=rfl;rw [e4,<- e3,List.take_append_drop])
 ·have e1:(q0k p v path).length=1:=by omega
  have e2:IntKind.i64.wrap (((q0k p v path).length:Int)-2)=((0:Nat):Int)-1:=by rw [e1];rfl
  rw [e2];exact sr1 (k:=k) (by omega) hp hs _ (q0k p v path) hg (by omega) (by omega) x xs l hc 0 k _ (by omega) (by omega) (by
   obtain ⟨a,ha⟩:∃ a,q0k p v path=[a]:=by
    cases hh:q0k p v path with
    | nil=>rw [hh] at e1;simp at e1
    | cons a rest=>
     rw [hh] at e1
     have:rest=[]:=List.eq_nil_of_length_eq_zero (by simpa using e1)
     exact ⟨a,by rw [this]⟩
   rw [ha]
   rfl)
theorem y5b {k:Nat} (l0:List PV) (f:Int->Bool) (l:List (Int)) (hl:l.length<=100000) (hc:∀ x∈l,c131 k x l0=r131 (f x)):∀ (n i:Nat),l.length-i<n->i<=l.length->q8o k n (encZ l) l0 (l.length:Int) (i:Int)=q99 (fixI f i (l.drop i))
 | 0,i,h,hi=>by omega
 | n+1,i,h,hi=>by
  rw [x4z];by_cases hlt:i<l.length
  ·have hd:=k04 (i:=i) (l:=l) hlt;have hnext:=k02 (i:=i) (by omega);rw [hd,q0l hlt,q0c hlt,hnext];simp only [cond_true,Option.bind_some,q0d];rw [hc _ (List.getElem_mem hlt)];simp only [w9n,fixI];cases f l[i]
   ·exact y5b l0 f l hl hc n (i+1) (by omega) (by omega)
   ·rfl
  ·have hd:=k03 (i:=i) (l:=l) hlt;rw [hd,List.drop_eq_nil_of_le (by omega)];rfl
theorem w17 {k:Nat} (hk:100010<=k) (l0:List PV) (f:Int->Bool) (l:List (Int)) (hl:l.length<=100000) (hc:∀ x∈l,c131 k x l0=r131 (f x)):y0t (k+1) (encZ l) l0=q99 (fixI f 0 l):=by
 rw [w3i,q0b];exact y5b (k:=k) l0 f l hl hc k 0 (by omega) (by omega)
theorem w4j {k:Nat} (hk:100010<=k) (l0:List PV) (f:Int->Bool) (l:List (Int)) (hl:l.length<=100000) (hc:∀ x∈l,c131 k x l0=r131 (f x)):y5s (k+2) (encZ l) l0=y6f (l.any f):=by
 rw [w57,w17 (by omega) l0 f l hl hc];simp only [x3r,q7a]
def badB (p:Prg) (v:List Int) (bad:List Nd):Bool:=(z0o p v).any fun c=>(clV v (whI p bad)).contains c
theorem w2n (p:Prg) (v:List Int) (bad:List Nd):badB p v bad=true↔∃ x∈whI p bad,dAt v x∈z0o p v:=by
 rw [badB,List.any_eq_true];constructor
 ·rintro ⟨c,h1,h2⟩
  rw [List.contains_iff_mem,q49] at h2;obtain ⟨y,h3,rfl⟩:=h2;exact ⟨y,h3,h1⟩
 ·rintro ⟨x,h1,h2⟩
  exact ⟨_,h2,by rw [List.contains_iff_mem,q49];exact ⟨x,h1,rfl⟩⟩
theorem y9p {k:Nat} (hk:1000900<=k) (p:Prg) (hp:FitP p) {v:List Int} (hv:OkV v) (bad:List Nd) (hb:bad.length<=100):c53 k p.wide p.vars (encT p.start) (q0f p.cmds) (encZ v) (encT bad)=r53 (ssB p v bad&&!badB p v bad) (ssB p v bad):=by
 obtain ⟨k,rfl⟩:∃ j,k=j+4:=⟨k-4,by omega⟩;have hvl:=hv.len;rw [n53,q8l (by omega) p hp v (by omega)];simp only [x7x,ssB];cases hgs:gsB p v
 ·rfl
 obtain ⟨s1,s2,s3⟩:=q2p hgs;simp only [Bool.not_true,cond_false,Bool.true_and];rw [q9h (by omega) _ _ _ _ bad (by omega)];simp only [z2e];cases hq:(kindT p.wide p.vars bad==2)
 ·rfl
 have hwl:=q7p s1 bad;have hcl:=q6b s2 (q3s s3 bad);have hrl:=x81 hp s1 hv s3 s2;simp only [Bool.not_true,cond_false,Bool.true_and];rw [z0v (by omega) s1 _ _ bad hb (by simpa using hq)];simp only [z6f,q0b,q0v];rw [q5j (by omega) hv (z8q s1 s3) s2 _ (q3s s3 bad) (by omega)];simp only [q73,q0b,q0v];rw [y9a (by omega) hp s1 hv s3 s2];simp only [w9j,q0b,q0v];rw [w4j (k:=k+1) (by omega) (encZ (clV v (whI p bad))) (fun c=>(clV v (whI p bad)).contains c) (z0o p v) (by omega) (fun x hx=>by
  rw [n131,q9z (by omega) _ (by omega)];simp only [x7t])]
 simp only [x7o];rfl
def q31 (p:Prg) (v path:List Int):List Int:=((q0k p v path)[(q09 (q0k p v path)-1).toNat]?).getD []
def deOK (p:Prg) (v path:List Int):Bool:=decide (1<=q09 (q0k p v path))
theorem x52 {p:Prg} {v path:List Int} (h:deOK p v path=true):∃ j,j+1<path.length /\ q09 (q0k p v path)=((j+1:Nat):Int) /\ (q0k p v path)[j]? = some (q31 p v path) /\ (q0k p v path)[j+1]? = some [] /\ q31 p v path≠[]:=by
 have h1:1<=q09 (q0k p v path):=of_decide_eq_true h;obtain ⟨j,hj,h2,h3,h4⟩:=y36 (show 0<=q09 (q0k p v path) by omega);have hl:=q2t p v path;obtain ⟨i,rfl⟩:∃ i,j=i+1:=⟨j-1,by omega⟩;have hi:i<(q0k p v path).length:=by omega
 have e:(q09 (q0k p v path)-1).toNat=i:=by omega
 have e2:q31 p v path=(q0k p v path)[i]:=by
  unfold q31;rw [e,List.getElem?_eq_getElem hi];rfl
 refine ⟨i,by omega,h2,by rw [e2];exact List.getElem?_eq_getElem hi,by rw [List.getElem?_eq_getElem hj,h3],?_⟩;rw [e2];exact h4 i (by omega)
theorem x4 {k:Nat} (hk:1000600<=k) {p:Prg} (hp:FitP p) (hs:q0h p=true) {v:List Int} (hn:v.length=nS p) (path:List Int) (hpl:path.length<=4000):c156 k p.wide p.vars (encT p.start) (q0f p.cmds) (encZ v) (encZ path)=r156 (encZ (bif deOK p v path then q31 p v path else [])) (deOK p v path):=by
 obtain ⟨k,rfl⟩:∃ j,k=j+2:=⟨k-2,by omega⟩;have hl:=q2t p v path;rw [n156,q7o (by omega) hp hs hn path hpl];simp only [x7y,q1v];rw [List.take_of_length_le (by simp),w6r,z3m (by omega) _ (by omega)];simp only [v4n];cases hd:deOK p v path
 ·have:¬ 1<=q09 (q0k p v path):=of_decide_eq_false hd
  rw [decide_eq_true (by omega)];rfl
 ·obtain ⟨j,h1,h2,h3,h4,h5⟩:=x52 hd;have e:IntKind.i64.wrap (q09 (q0k p v path)-1)=(j:Int):=by rw [q0g (by omega) (by omega)];omega
  rw [decide_eq_false (by omega),e,q0n,q13,h3];rfl
theorem x1g {p:Prg} (hp:FitP p) (hs:q0h p=true) (v path:List Int):SL p (q31 p v path):=by
 unfold q31;cases h:(q0k p v path)[(q09 (q0k p v path)-1).toNat]? with
 | none=>exact ⟨by simp,by simp⟩
 | some d=>exact z6l hp hs v path d (List.mem_of_getElem? h)
theorem x3d {k:Nat} (l0:List PV) (to:Int) (f:Int->Bool) (l:List (Int)) (hl:l.length<=100000) (hc:∀ x∈l,c175 k x l0 to=r175 (f x)):∀ (n i:Nat),l.length-i<n->i<=l.length->q8r k n (encZ l) l0 to (l.length:Int) (i:Int)=z0c (fixI f i (l.drop i))
 | 0,i,h,hi=>by omega
 | n+1,i,h,hi=>by
  rw [x42];by_cases hlt:i<l.length
  ·have hd:=k04 (i:=i) (l:=l) hlt;have hnext:=k02 (i:=i) (by omega);rw [hd,q0l hlt,q0c hlt,hnext];simp only [cond_true,Option.bind_some,q0d];rw [hc _ (List.getElem_mem hlt)];simp only [w95,fixI];cases f l[i]
   ·exact x3d l0 to f l hl hc n (i+1) (by omega) (by omega)
   ·rfl
  ·have hd:=k03 (i:=i) (l:=l) hlt;rw [hd,List.drop_eq_nil_of_le (by omega)];rfl
theorem w87 {k:Nat} (hk:100010<=k) (l0:List PV) (to:Int) (f:Int->Bool) (l:List (Int)) (hl:l.length<=100000) (hc:∀ x∈l,c175 k x l0 to=r175 (f x)):y0w (k+1) (encZ l) l0 to=z0c (fixI f 0 l):=by
 rw [w3l,q0b];exact x3d (k:=k) l0 to f l hl hc k 0 (by omega) (by omega)
theorem v3u {k:Nat} (hk:100010<=k) (l0:List PV) (to:Int) (f:Int->Bool) (l:List (Int)) (hl:l.length<=100000) (hc:∀ x∈l,c175 k x l0 to=r175 (f x)):y5t (k+2) (encZ l) l0 to=y6g (l.any f):=by
 rw [w58,w87 (by omega) l0 to f l hl hc];simp only [x3u,q7a]
theorem x3e {k:Nat} (w1 v1:Int) (l1 l2 l3:List PV) (to:Int) (f:Int->Bool) (l:List (Int)) (hl:l.length<=100000) (hc:∀ x∈l,c174 k x w1 v1 l1 l2 l3 to=r174 (f x)):∀ (n i:Nat),l.length-i<n->i<=l.length->q8q k n (encZ l) w1 v1 l1 l2 l3 to (l.length:Int) (i:Int)=z0b (fixI f i (l.drop i))
 | 0,i,h,hi=>by omega
 | n+1,i,h,hi=>by
  rw [x41];by_cases hlt:i<l.length
  ·have hd:=k04 (i:=i) (l:=l) hlt;have hnext:=k02 (i:=i) (by omega);rw [hd,q0l hlt,q0c hlt,hnext];simp only [cond_true,Option.bind_some,q0d];rw [hc _ (List.getElem_mem hlt)];simp only [x9r,fixI];cases f l[i]
   ·exact x3e w1 v1 l1 l2 l3 to f l hl hc n (i+1) (by omega) (by omega)
   ·rfl
  ·have hd:=k03 (i:=i) (l:=l) hlt;rw [hd,List.drop_eq_nil_of_le (by omega)];rfl
theorem w88 {k:Nat} (hk:100010<=k) (w1 v1:Int) (l1 l2 l3:List PV) (to:Int) (f:Int->Bool) (l:List (Int)) (hl:l.length<=100000) (hc:∀ x∈l,c174 k x w1 v1 l1 l2 l3 to=r174 (f x)):y0v (k+1) (encZ l) w1 v1 l1 l2 l3 to=z0b (fixI f 0 l):=by
 rw [w3k,q0b];exact x3e (k:=k) w1 v1 l1 l2 l3 to f l hl hc k 0 (by omega) (by omega)
theorem y6m {k:Nat} (w1 v1:Int) (l1 l2 l3:List PV) (to:Int) (f:Int->Bool) (s:List Int) (hl:s.length<=100000) (hc:∀ x∈s,c174 k x w1 v1 l1 l2 l3 to=r174 (f x)):∀ (n i j:Nat) (xs:List Int),s.length-j<n->j<=s.length->i<=j->xs.length=s.length->xs.take i=(s.take j).filter (fun x=>!f x)->xs.drop j=s.drop j ->
  q6m k n s.length w1 v1 l1 l2 l3 to (i:Int) (j:Int) (encZ xs)=z0j (encZ (s.filter fun x=>!f x))
 | 0,i,j,xs,h,hj,hi,hx,h1,h2=>by omega
 | n+1,i,j,xs,h,hj,hi,hx,h1,h2=>by
  rw [x5a];by_cases hlt:j<s.length
  ·have hd:=k04 (i:=j) (l:=s) hlt;have hg:(decide ((0:Int)<=(j:Int))&&true)=true:=by rw [decide_eq_true (by omega)];rfl
   have hg2:(decide ((0:Int)<=(i:Int))&&decide ((i:Int)<(s.length:Int)))=true:=by rw [decide_eq_true (by omega),decide_eq_true (by omega)];rfl
   have hnj:IntKind.i64.wrap ((j:Int)+1)=((j+1:Nat):Int):=by rw [q0g (by omega) (by omega)];omega
   have hni:IntKind.i64.wrap ((i:Int)+1)=((i+1:Nat):Int):=by rw [q0g (by omega) (by omega)];omega
   have hxj:xs[j]'(by omega)=s[j]:=by
    have e:=h2;rw [q0c (by omega),q0c hlt] at e;exact (List.cons.inj e).1
   have hat:∀ (m:Nat) (hm:m<xs.length),(encZ xs)[0+(m:Int).toNat]? = some (.int .i64 xs[m]):=by
    intro m hm;rw [Nat.zero_add,Int.toNat_natCast,q1r,List.getElem?_eq_getElem hm];rfl
   rw [hd,hg,hat j (by omega),hxj,hnj];simp only [cond_true,Option.bind_some,q0d];rw [hc _ (List.getElem_mem hlt)];simp only [x9r];have hd2:xs.drop (j+1)=s.drop (j+1):=by rw [<- List.drop_drop,<- List.drop_drop,h2]
   have ht2:s.take (j+1)=s.take j++[s[j]]:=List.take_succ_eq_append_getElem hlt;cases hf:f s[j]
   ·simp only [Bool.not_false,cond_true];rw [hg2,hat i (by omega),hni];simp only [cond_true,Option.bind_some,Nat.zero_add,Int.toNat_natCast];rw [q3b];refine y6m w1 v1 l1 l2 l3 to f s hl hc n (i+1) (j+1) (xs.set i s[j]) (by omega) (by omega) (by omega) (by simp;omega) ?_ ?_
    ·rw [List.take_succ_eq_append_getElem (by simp;omega),List.take_set_of_le (by omega),h1,ht2,List.filter_append];simp [hf]
    ·rw [List.drop_set_of_lt (by omega),hd2]
   ·simp only [Bool.not_true,cond_false];refine y6m w1 v1 l1 l2 l3 to f s hl hc n i (j+1) xs (by omega) (by omega) (by omega) hx ?_ hd2;rw [h1,ht2,List.filter_append];simp [hf]
  ·have hd:=k03 (i:=j) (l:=s) hlt;have hg:(decide ((0:Int)<=(i:Int))&&decide ((i:Int)<=(s.length:Int))&&decide ((s.length:Int)<=(s.length:Int)))=true:=by
    rw [decide_eq_true (by omega),decide_eq_true (by omega),decide_eq_true (by omega)];rfl
   have hg2:(decide ((0:Int)<=(i:Int))&&decide ((i:Int)<=(s.length:Int)))=true:=by rw [decide_eq_true (by omega),decide_eq_true (by omega)];rfl
   have hjs:s.take j=s:=List.take_of_length_le (by omega);rw [hd,hg,hg2];simp only [cond_true,cond_false,Nat.zero_add,Int.toNat_natCast];rw [List.append_assoc,List.take_left' (by simp;omega),q3h,h1,hjs]
theorem v3v {k:Nat} (hk:100010<=k) (w1 v1:Int) (l1 l2 l3:List PV) (to:Int) (f:Int->Bool) (s:List Int) (hl:s.length<=100000) (hc:∀ k',k<=k'->∀ x∈s,c174 k' x w1 v1 l1 l2 l3 to=r174 (f x)):y05 (k+2) (encZ s) w1 v1 l1 l2 l3 to=z0j (encZ (s.filter fun x=>!f x)):=by
 have etk:(encZ s).take s.length=encZ s:=List.take_of_length_le (by simp);rw [w3x,q0b,etk,w88 (k:=k) hk w1 v1 l1 l2 l3 to f s hl (hc k (Nat.le_refl k))];simp only [x3t];rcases q3i f s 0 with ⟨h1,h2⟩ | ⟨j,hj,h1,h2,h3⟩
 ·rw [h1];have hall:s.filter (fun x=>!f x)=s:=List.filter_eq_self.2 fun x hx=>by
   obtain ⟨i,hi,rfl⟩:=List.mem_iff_getElem.1 hx;simp [h2 _ (List.getElem_mem hi)]
  rw [hall];rfl
 ·rw [h1];have e1:((((0+j:Nat):Int))==(-1))=false:=by rw [beq_eq_false_iff_ne];omega
  have e2:IntKind.i64.wrap (((0+j:Nat):Int)+1)=((j+1:Nat):Int):=by rw [q0g (by omega) (by omega)];omega
  rw [e1,e2,Nat.zero_add];simp only [cond_false];have hpre:(s.take j).filter (fun x=>!f x)=s.take j:=List.filter_eq_self.2 fun x hx=>by
   obtain ⟨i,hi,rfl⟩:=List.mem_iff_getElem.1 hx;rw [List.length_take] at hi;rw [List.getElem_take];simp [h3 i (by omega)]
  refine y6m (k:=k+1) w1 v1 l1 l2 l3 to f s hl (hc (k+1) (by omega)) (k+1) j (j+1) s (by omega) (by omega) (by omega) rfl ?_ rfl;rw [List.take_succ_eq_append_getElem hj,List.filter_append,hpre];simp [h2]
theorem y88 (l:List Int) (K0:List PV->R):y69 (z0j (encZ l)) K0=K0 (encZ l):=by
 have h:([SV.c (.own 3 0 (encZ l))].all q0z&&true)=true:=by simp [q0z,q1m,q2h];rfl
 show (bif ([SV.c (.own 3 0 (encZ l))].all q0z&&true) then K0 (encZ l) else none)=_
 rw [h];rfl
theorem x9 {k:Nat} (hk:1000500<=k) {p:Prg} (hp:FitP p) (hs:q0h p=true) (l1:List PV) {v:List Int} (hv:OkV v) (hn:v.length=nS p) (c d:Int):c91 k p.wide p.vars l1 (q0f p.cmds) (encZ v) c d=r91 (encZ (onL p v c d)):=by
 obtain ⟨k,rfl⟩:∃ j,k=j+3:=⟨k-3,by omega⟩;have hvl:=hv.len;have hsl:=q9l v c;have hsi:=q7n hn c;rw [n91,y0j (by omega) (by omega)];simp only [x9q,q0b];rw [q0v,v3v (k:=k) (by omega) p.wide p.vars l1 (q0f p.cmds) (encZ v) d (fun x=>!((nxL p x).any fun y=>dAt v y==d)) (stV v c) (by omega) (fun k' hk' x hx=>by
  obtain ⟨k',rfl⟩:∃ j,k'=j+3:=⟨k'-3,by omega⟩;have hx':=hsi x hx;have hnl:=q5u hp x;rw [n174,y1q (by omega) hp hs hx'];simp only [x7u];rw [v3u (k:=k') (by omega) (encZ v) d (fun y=>dAt v y==d) (nxL p x) (by omega) (fun y hy=>by
   obtain ⟨k',rfl⟩:=k01 (k:=k') (by omega);have hy':=q95 hp hs hx' y hy;have hg:inG v.length y:=by rw [hn];exact q33.2 hy'
   rw [n175,y4l hg.1 hg.2];simp only [Option.bind_some,q0d])]
  simp only [x7p]),y88,q0b,q0v]
 simp only [Bool.not_not];rfl
theorem x3h {bs:List Nat} (hc:CodeOK bs) {k:Nat} (hk:1001100<=k) {at':Int} (h0:0<=at') (h1:at'<=300000000) (s:W) :
  ∃ a2 s2 p v,c54 k (encB bs) at' (wi s)=r54 (encB bs) a2 (wi s2) p.wide p.vars (encT p.start) (q0f p.cmds) (encZ v) /\ at'<=a2 /\ a2<=at'+70000 /\ FitP p /\ OkV v:=by
 obtain ⟨k,rfl⟩:=k01 (k:=k) (by omega);rw [n54];obtain ⟨a2,s2,p,h,h2,h3,h4⟩:=w4i hc (k:=k) (by omega) (at':=at') h0 (by omega) s;rw [h];simp only [w9k,q1j];have ht:(q0f p.cmds).take p.cmds.length=q0f p.cmds:=List.take_of_length_le (by simp);rw [ht,z05 (by omega) p h4];simp only [w5h];have fin:∀ (q:Prg),FitP q->∀ (a3:Int) (s3:W),at'<=a3->a3<=at'+11000->∃ a4 s4 q2 v,(R133 (c133 k q.wide q.vars (encT q.start) (q0f q.cmds) (encB bs) a3 (wi s3)) fun l5 v7 v8 l6=>r54 l5 v7 v8 q.wide q.vars (encT q.start) (q0f q.cmds) l6)=r54 (encB bs) a4 (wi s4) q2.wide q2.vars (encT q2.start) (q0f q2.cmds) (encZ v) /\ at'<=a4 /\ a4<=at'+70000 /\ FitP q2 /\ OkV v:=by
  intro q hq a3 s3 b1 b2;obtain ⟨a4,s4,v,h,h5,h6,h7⟩:=w4g hc (k:=k) (by omega) hq (at':=a3) (by omega) (by omega) s3;rw [h];simp only [w9p];exact ⟨a4,s4,q,v,rfl,by omega,by omega,hq,h7⟩
 cases hg:q11 p
 ·simp only [cond_false];exact fin p h4 a2 s2 h2 (by omega)
 ·simp only [cond_true];obtain ⟨a3,s3,q,h,h5,h6⟩:=q3r hc (k:=k) (by omega) (at':=a2) (by omega) (by omega) s2 2;rw [h];simp only [q3n];cases q
  ·simp only [cond_false];exact fin p h4 a3 s3 (by omega) (by omega)
  ·simp only [cond_true];have hpos:0<p.cmds.length:=by
    simp only [q11,Bool.and_eq_true,decide_eq_true_eq] at hg;omega
   have hd:decide ((0:Int)<(p.cmds.length:Int))=true:=decide_eq_true (by omega);have hget:(q0f p.cmds)[0]? = some (q4r p.cmds[0]):=by rw [q2v,List.getElem?_eq_getElem hpos];rfl
   have e1:(PV.row 2 0 [PV.agg [.int .i64 20,.int .u64 1]])=.row 2 0 (encT [(20,1#64)]):=rfl;have e2:(PV.row 2 0 [PV.agg [.int .i64 0,.row 2 0 [PV.agg [.int .i64 2,.int .u64 0],PV.agg [.int .i64 1,.int .u64 1],PV.agg [.int .i64 3,.int .u64 0]]]])=.row 2 0 (q03 [⟨0,[(2,0#64),(1,1#64),(3,0#64)]⟩]):=rfl;have e3:([PV.agg [.int .i64 2,.int .u64 0],PV.agg [.int .i64 1,.int .u64 0],PV.agg [.int .i64 14,.int .u64 0]]:List PV)=encT [(2,0#64),(1,0#64),(14,0#64)]:=rfl;rw [hd,hget,e1,e2,e3];simp only [cond_true,Option.bind_some];rw [w1z];simp only [Option.bind_some];rw [q86,q2v,List.getElem?_set_self hpos];simp only [Option.map_some,Option.bind_some];rw [w1x];simp only [Option.bind_some];rw [q86,List.set_set,List.take_of_length_le (by simp)];exact fin { p with start:=[(2,0#64),(1,0#64),(14,0#64)],cmds:=p.cmds.set 0 { p.cmds[0] with wh:=[(20,1#64)],ch:=[⟨0,[(2,0#64),(1,1#64),(3,0#64)]⟩] } } ⟨h4.w,h4.v,by simp,by simpa using h4.cm,fun c hc'=>by
    rcases List.mem_or_eq_of_mem_set hc' with h12 | h12
    ·exact h4.c c h12
    ·subst h12;exact ⟨by simp,by simp,fun x hx=>by simp at hx;subst hx;simp⟩⟩ a3 s3 (by omega) (by omega)
theorem z7b {k:Nat} (a b:List (Nd)) (hl:a.length=b.length) (ha:a.length<=1000000):∀ (n i:Nat),a.length-i<n->i<=a.length->y27 k n (encT a) (encT b) (a.length:Int) (i:Int)=r271 (decide (a.drop i=b.drop i))
 | 0,i,h,hi=>by omega
 | n+1,i,h,hi=>by
  rw [w80];by_cases hlt:i<a.length
  ·have hd:=k04 (i:=i) (l:=a) hlt;have hnext:=k02 (i:=i) (by omega);rw [hd,q4x hlt,q4x (t:=b) (i:=i) (by omega),q0c hlt,q0c (l:=b) (by omega),hnext];simp only [cond_true,Option.bind_some,q3p,q3k,q5k,q4i,Bool.and_true,x21,List.cons.injEq,Bool.decide_and];by_cases he:a[i]=b[i]
   ·have e1:(!decide (a[i]=b[i]))=false:=by simp [he]
    have e2:decide (a[i]=b[i])=true:=by simpa using he
    rw [e1,e2];simp only [cond_false,Bool.true_and];exact z7b a b hl ha n (i+1) (by omega) (by omega)
   ·have e1:(!decide (a[i]=b[i]))=true:=by
     simpa using he
    have e2:decide (a[i]=b[i])=false:=by simpa using he
    rw [e1,e2];rfl
  ·have hd:=k03 (i:=i) (l:=a) hlt;rw [hd,List.drop_eq_nil_of_le (by omega),List.drop_eq_nil_of_le (by omega)];rfl
theorem x8s {k:Nat} (hk:1000010<=k) (a b:List (Nd)) (ha:a.length<=1000000):c271 k (encT a) (encT b)=r271 (decide (a=b)):=by
 obtain ⟨k,rfl⟩:=k01 (k:=k) (by omega);rw [n271,q07,q07];by_cases hl:a.length=b.length
 ·have e:((a.length:Int) != (b.length:Int))=false:=by simp [hl]
  rw [e];exact z7b (k:=k) a b hl ha k 0 (by omega) (by omega)
 ·have e:((a.length:Int) != (b.length:Int))=true:=by simp;omega
  have e2:decide (a=b)=false:=by simp;intro h;exact hl (by rw [h])
  rw [e,e2];rfl
theorem x1m {k:Nat} (a b:List (Nd)) (hl:a.length=b.length) (ha:a.length<=1000000):∀ (n i:Nat),a.length-i<n->i<=a.length->y2x k n (encT a) (encT b) (a.length:Int) (i:Int)=r218 (decide (a.drop i=b.drop i))
 | 0,i,h,hi=>by omega
 | n+1,i,h,hi=>by
  rw [w8];by_cases hlt:i<a.length
  ·have hd:=k04 (i:=i) (l:=a) hlt;have hnext:=k02 (i:=i) (by omega);rw [hd,q4x hlt,q4x (t:=b) (i:=i) (by omega),q0c hlt,q0c (l:=b) (by omega),hnext];simp only [cond_true,Option.bind_some,q3p,q3k,q5k,q4i,Bool.and_true,x21,List.cons.injEq,Bool.decide_and];by_cases he:a[i]=b[i]
   ·have e1:(!decide (a[i]=b[i]))=false:=by simp [he]
    have e2:decide (a[i]=b[i])=true:=by simpa using he
    rw [e1,e2];simp only [cond_false,Bool.true_and];exact x1m a b hl ha n (i+1) (by omega) (by omega)
   ·have e1:(!decide (a[i]=b[i]))=true:=by
     simpa using he
    have e2:decide (a[i]=b[i])=false:=by simpa using he
    rw [e1,e2];rfl
  ·have hd:=k03 (i:=i) (l:=a) hlt;rw [hd,List.drop_eq_nil_of_le (by omega),List.drop_eq_nil_of_le (by omega)];rfl
theorem v2j {k:Nat} (hk:1000010<=k) (a b:List (Nd)) (ha:a.length<=1000000):c218 k (encT a) (encT b)=r218 (decide (a=b)):=by
 obtain ⟨k,rfl⟩:=k01 (k:=k) (by omega);rw [n218,q07,q07];by_cases hl:a.length=b.length
 ·have e:((a.length:Int) != (b.length:Int))=false:=by simp [hl]
  rw [e];exact x1m (k:=k) a b hl ha k 0 (by omega) (by omega)
 ·have e:((a.length:Int) != (b.length:Int))=true:=by simp;omega
  have e2:decide (a=b)=false:=by simp;intro h;exact hl (by rw [h])
  rw [e,e2];rfl
def notT (t:List Nd):List Nd:=t++[(19,0#64)]
theorem w6b {p:Prg} (hg:q11 p=true) {t:List Nd} (hkt:kindT p.wide p.vars t=2) {s:List W} (hs:stOK p s=true):vrun p.wide s (notT t) []=some [1#64-valD p.wide s t] /\ (1#64-valD p.wide s t==1#64)=!q6w p t s:=by
 obtain ⟨hw,hv⟩:=q4u hg;obtain ⟨h1,h2⟩:=(q5a hw).1 hs;obtain ⟨h3,h4⟩:=q58 hkt (by omega) h1 h2;refine ⟨?_,?_⟩
 ·unfold notT;rw [q6,h3];rfl
 ·unfold q6w;rcases q5n (x6l (by rw [hkt] at *;exact h4)) with h | h <;> rw [h] <;> decide
theorem x4f {k:Nat} (hk:1000010<=k) (p:Prg) (hg:q11 p=true) (l1 l2:List PV) (t:List Nd) (ht:t.length<=100) (hkt:kindT p.wide p.vars t=2) (s:List W) (hs:stOK p s=true):c69 k p.wide p.vars l1 l2 (encT (notT t)) (encW s)=r69 (!q6w p t s):=by
 obtain ⟨k,rfl⟩:=k01 (k:=k) (by omega);obtain ⟨hw,hv⟩:=q4u hg;obtain ⟨hn1,hn2⟩:=w6b hg hkt hs;rw [n69,q9d (by omega) hw s _ (by simp [notT];omega) hn1];simp only [y3d];have e:(1:Int)=wi 1#64:=rfl;rw [e,q4i,hn2]
theorem y7x {k:Nat} (w1 v1:Int) (l1 l2 t1:List PV) (f:Int->Bool) (l:List (Int)) (hl:l.length<=100000) (hc:∀ x∈l,c291 k x w1 v1 l1 l2 t1=r291 (f x)):∀ (n i:Nat),l.length-i<n->i<=l.length->q8w k n (encZ l) w1 v1 l1 l2 t1 (l.length:Int) (i:Int)=z0h (fixI f i (l.drop i))
 | 0,i,h,hi=>by omega
 | n+1,i,h,hi=>by
  rw [x48];by_cases hlt:i<l.length
  ·have hd:=k04 (i:=i) (l:=l) hlt;have hnext:=k02 (i:=i) (by omega);rw [hd,q0l hlt,q0c hlt,hnext];simp only [cond_true,Option.bind_some,q0d];rw [hc _ (List.getElem_mem hlt)];simp only [v1u,fixI];cases f l[i]
   ·exact y7x w1 v1 l1 l2 t1 f l hl hc n (i+1) (by omega) (by omega)
   ·rfl
  ·have hd:=k03 (i:=i) (l:=l) hlt;rw [hd,List.drop_eq_nil_of_le (by omega)];rfl
theorem w25 {k:Nat} (hk:100010<=k) (w1 v1:Int) (l1 l2 t1:List PV) (f:Int->Bool) (l:List (Int)) (hl:l.length<=100000) (hc:∀ x∈l,c291 k x w1 v1 l1 l2 t1=r291 (f x)):y00 (k+1) (encZ l) w1 v1 l1 l2 t1=z0h (fixI f 0 l):=by
 rw [w3r,q0b];exact y7x (k:=k) w1 v1 l1 l2 t1 f l hl hc k 0 (by omega) (by omega)
theorem w5t {k:Nat} (hk:100010<=k) (w1 v1:Int) (l1 l2 t1:List PV) (f:Int->Bool) (l:List (Int)) (hl:l.length<=100000) (hc:∀ x∈l,c291 k x w1 v1 l1 l2 t1=r291 (f x)):y5v (k+2) (encZ l) w1 v1 l1 l2 t1=y6i (l.any f):=by
 rw [w6a,w25 (by omega) w1 v1 l1 l2 t1 f l hl hc];simp only [x3z,q7a]
theorem y7y {k:Nat} (hk:1000200<=k) {p:Prg} (hs:q0h p=true) (l1 l2:List PV) (t:List Nd) (f:Int->Bool) (hf:∀ k',1000010<=k'->∀ x,inS p x->c69 k' p.wide p.vars l1 l2 (encT t) (encW (sto p x))=r69 (f x)) (l:List Int) (hl:l.length<=1000) (hin:∀ x∈l,inS p x):c270 k p.wide p.vars l1 l2 (encT t) (encZ l)=r270 (l.all f):=by
 obtain ⟨k,rfl⟩:∃ j,k=j+4:=⟨k-4,by omega⟩;rw [n270,w5t (k:=k+1) (by omega) p.wide p.vars l1 l2 (encT t) (fun x=>!f x) l (by omega) (fun x hx=>by
  rw [n291,z80 (by omega) hs _ _ (hin x hx)];simp only [y90];rw [hf k (by omega) x (hin x hx)];simp only [x7v])]
 simp only [x7s,List.any_eq_not_all_not,Bool.not_not]
theorem z9q {k:Nat} (hk:1000200<=k) {p:Prg} (hs:q0h p=true) (l1 l2:List PV) (t:List Nd) (ht:t.length<=100) (hkt:kindT p.wide p.vars t=2) (l:List Int) (hl:l.length<=1000) (hin:∀ x∈l,inS p x):c270 k p.wide p.vars l1 l2 (encT t) (encZ l)=r270 (l.all (hN p t)) :=
 y7y hk hs l1 l2 t (hN p t) (fun k' hk' x hx=>z64 hk' p (q1t hs) l1 l2 t ht hkt _ (q51 hs hx)) l hl hin
theorem z2u {k:Nat} (hk:1000200<=k) {p:Prg} (hs:q0h p=true) (l1 l2:List PV) (t:List Nd) (ht:t.length<=100) (hkt:kindT p.wide p.vars t=2) (l:List Int) (hl:l.length<=1000) (hin:∀ x∈l,inS p x):c270 k p.wide p.vars l1 l2 (encT (notT t)) (encZ l)=r270 (l.all fun x=>!hN p t x) :=
 y7y hk hs l1 l2 (notT t) (fun x=>!hN p t x) (fun k' hk' x hx=>x4f hk' p (q1t hs) l1 l2 t ht hkt _ (q51 hs hx)) l hl hin
def sepB (p:Prg) (t:List Nd) (a b:List Int):Bool:=(a.all (hN p t)&&b.all fun x=>!hN p t x)||((a.all fun x=>!hN p t x)&&b.all (hN p t))
theorem w84 {k:Nat} (hk:1000300<=k) {p:Prg} (hs:q0h p=true) (l1 l2:List PV) (t:List Nd) (ht:t.length<=100) (hkt:kindT p.wide p.vars t=2) (a b:List Int) (ha:a.length<=1000) (hb:b.length<=1000) (hain:∀ x∈a,inS p x) (hbin:∀ x∈b,inS p x) :
  c222 k p.wide p.vars l1 l2 (encT t) (encZ a) (encZ b)=r222 (sepB p t a b):=by
 obtain ⟨k,rfl⟩:=k01 (k:=k) (by omega);have e1:[PV.row 2 0 (encT t),PV.row 2 0 [PV.agg [.int .i64 19,.int .u64 0]]]=q9a [encT t,encT [(19,0#64)]]:=rfl;have e2:[encT t,encT [(19,0#64)]].flatten=encT (notT t):=by simp [notT,y1f]
 rw [n222,e1,w0r (by omega) _ (by simp) (by simp;omega),e2,x93];rw [List.take_length,z9q (by omega) hs _ _ t ht hkt a ha hain,z2u (by omega) hs _ _ t ht hkt b hb hbin,z2u (by omega) hs _ _ t ht hkt a ha hain,z9q (by omega) hs _ _ t ht hkt b hb hbin];simp only [v1i,w5i];unfold sepB;cases a.all (hN p t) <;> cases (b.all fun x=>!hN p t x) <;> cases (a.all fun x=>!hN p t x) <;> rfl
theorem x2a {p:Prg} {t:List Nd} {l:List Int} (hl:∀ x∈l,inS p x):(!q15 l (whI p t))=l.all fun x=>!hN p t x:=by
 unfold q15
 induction l with
 | nil=>rfl
 | cons x l ih=>
  have h1:(whI p t).contains x=hN p t x:=by
   rw [Bool.eq_iff_iff,List.contains_iff_mem,q9m];simp [hl x (by simp)]
  simp only [List.any_cons,List.all_cons,h1,Bool.not_or,ih fun y hy=>hl y (by simp [hy])]
theorem w85 {k:Nat} (hk:1000300<=k) {p:Prg} (hs:q0h p=true) (l1 l2:List PV) (t:List Nd) (ht:t.length<=100) (hkt:kindT p.wide p.vars t=2) (a b:List Int) (ha:a.length<=1000) (hb:b.length<=1000) (hain:∀ x∈a,inS p x) (hbin:∀ x∈b,inS p x) :
  c226 k p.wide p.vars l1 l2 (encT t) (encZ a) (encZ b)=r226 (sepB p t a b):=by
 obtain ⟨k,rfl⟩:=k01 (k:=k) (by omega);have hwl:(whI p t).length<=32:=Nat.le_trans (y6r p t _ _) (q3e hs).2;rw [n226,z0t (by omega) hs _ _ t ht hkt];simp only [z6g];rw [y87 (by omega) a _ (by omega) (by omega),y87 (by omega) b _ (by omega) (by omega),y1o (by omega) a _ (by omega) (by omega),y1o (by omega) b _ (by omega) (by omega)];simp only [w9m,x9i,w0c hain,w0c hbin,x2a hain,x2a hbin];unfold sepB;cases a.all (hN p t) <;> cases (b.all fun x=>!hN p t x) <;> cases (a.all fun x=>!hN p t x) <;> rfl
theorem z9m {k:Nat} (w1 v1:Int) (l1 l2 a1 b1:List PV) (f:List Nd->Bool) (l:List (List Nd)) (hl:l.length<=100000) (hc:∀ x∈l,c221 k (encT x) w1 v1 l1 l2 a1 b1=r221 (f x)):∀ (n i:Nat),l.length-i<n->i<=l.length->q80 k n (q0i l) w1 v1 l1 l2 a1 b1 (l.length:Int) (i:Int)=z0m (fixI f i (l.drop i))
 | 0,i,h,hi=>by omega
 | n+1,i,h,hi=>by
  rw [x5e];by_cases hlt:i<l.length
  ·have hd:=k04 (i:=i) (l:=l) hlt;have hnext:=k02 (i:=i) (by omega);rw [hd,q0n,q1l,List.getElem?_eq_getElem hlt,q0c hlt,hnext];simp only [cond_true,Option.map_some,Option.bind_some,q0u];rw [hc _ (List.getElem_mem hlt)];simp only [v0t,fixI];cases f l[i]
   ·exact z9m w1 v1 l1 l2 a1 b1 f l hl hc n (i+1) (by omega) (by omega)
   ·rfl
  ·have hd:=k03 (i:=i) (l:=l) hlt;rw [hd,List.drop_eq_nil_of_le (by omega)];rfl
theorem x8l {k:Nat} (hk:100010<=k) (w1 v1:Int) (l1 l2 a1 b1:List PV) (f:List Nd->Bool) (l:List (List Nd)) (hl:l.length<=100000) (hc:∀ x∈l,c221 k (encT x) w1 v1 l1 l2 a1 b1=r221 (f x)):y08 (k+1) (q0i l) w1 v1 l1 l2 a1 b1=z0m (fixI f 0 l):=by
 rw [w31,q05];exact z9m (k:=k) w1 v1 l1 l2 a1 b1 f l hl hc k 0 (by omega) (by omega)
def z2q (p:Prg) (ts:List (List Nd)) (a b:List Int):Int:=fixI (fun t=>sepB p t a b) 0 ts
theorem w05 {k:Nat} (hk:1000400<=k) {p:Prg} (hs:q0h p=true) (l1 l2:List PV) (ts:List (List Nd)) (hl:ts.length<=1000) (ht:∀ t∈ts,t.length<=100) (hc:allC p ts=true) (a b:List Int) (ha:a.length<=1000) (hb:b.length<=1000) (hain:∀ x∈a,inS p x) (hbin:∀ x∈b,inS p x) :
  c158 k p.wide p.vars l1 l2 (q0i ts) (encZ a) (encZ b)=r158 (z2q p ts a b):=by
 obtain ⟨k,rfl⟩:∃ j,k=j+3:=⟨k-3,by omega⟩;rw [n158,x8l (k:=k+1) (by omega) p.wide p.vars l1 l2 (encZ a) (encZ b) (fun t=>sepB p t a b) ts (by omega) (fun t h=>by
  rw [n221,w84 (by omega) hs _ _ t (ht t h) (q65 hc t h) a b ha hb hain hbin];simp only [v0u])]
 simp only [x35,z2q]
theorem z9o {k:Nat} (hk:1000400<=k) {p:Prg} (hs:q0h p=true) (l1 l2:List PV) (ts:List (List Nd)) (hl:ts.length<=1000) (ht:∀ t∈ts,t.length<=100) (hc:allC p ts=true) (a b:List Int) (ha:a.length<=1000) (hb:b.length<=1000) (hain:∀ x∈a,inS p x) (hbin:∀ x∈b,inS p x):∀ (n i:Nat),ts.length-i<n->i<=ts.length ->
  y2n k n (encZ a) (encZ b) (q0i ts) (ts.length:Int) (i:Int) p.wide p.vars l1 l2=r161 (fixI (fun t=>sepB p t a b) i (ts.drop i))
 | 0,i,h,hi=>by omega
 | n+1,i,h,hi=>by
  rw [w7j];by_cases hlt:i<ts.length
  ·have hd:=k04 (i:=i) (l:=ts) hlt;have hnext:=k02 (i:=i) (by omega);have hm:=List.getElem_mem hlt;rw [hd,q0n,q1l,List.getElem?_eq_getElem hlt,q0c hlt,hnext];simp only [cond_true,Option.map_some,Option.bind_some,q0u];rw [w85 (by omega) hs _ _ _ (ht _ hm) (q65 hc _ hm) a b ha hb hain hbin];simp only [v0x,fixI];cases sepB p ts[i] a b
   ·exact z9o hk hs l1 l2 ts hl ht hc a b ha hb hain hbin n (i+1) (by omega) (by omega)
   ·rfl
  ·have hd:=k03 (i:=i) (l:=ts) hlt;rw [hd,List.drop_eq_nil_of_le (by omega)];rfl
end Go.Proofs.YtgdegfijcijnoaaGreat
