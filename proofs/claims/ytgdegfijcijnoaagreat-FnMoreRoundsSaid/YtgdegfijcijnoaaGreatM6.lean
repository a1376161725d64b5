/- The law FnMoreRounds of the program: for all arguments it returns true,and its arguments read as they did. -/
import Derived.Test.YtgdegfijcijnoaaGreatM5
import Derived.Test.YtgdegfijcijnoaaGreatRows
import Derived.Test.YtgdegfijcijnoaaGreatM2
import Derived.WalkKit
import Derived.ProofKit
import Derived.OpenShut
import Derived.ShutString
import Derived.ChangeOld
import Derived.Below
import Derived.SizedLaws
set_option linter.all false
set_option maxRecDepth 100000
namespace Go.Proofs.YtgdegfijcijnoaaGreat
open Go.Dp
def addT (o:List (List Nd)) (t:List Nd):List (List Nd):=bif decide (o.length<40)&&!(o.any fun x=>decide (x=t)) then o++[t] else o
theorem w2i (o:List (List Nd)) (t:List Nd) (h:o.length<=40):(addT o t).length<=40:=by
 unfold addT;by_cases h1:o.length<40
 ·have e:decide (o.length<40)=true:=by simpa using h1
  rw [e];cases (o.any fun x=>decide (x=t))
  ·simp;omega
  ·exact h
 ·have e:decide (o.length<40)=false:=by simpa using h1
  rw [e];exact h
theorem w2j {o:List (List Nd)} {t u:List Nd} (h:u∈addT o t):u∈o∨u=t:=by
 unfold addT at h;cases hb:(decide (o.length<40)&&!(o.any fun x=>decide (x=t)))
 ·rw [hb] at h;exact .inl h
 ·rw [hb] at h;rcases List.mem_append.1 h with h | h
  ·exact .inl h
  ·exact .inr (List.mem_singleton.1 h)
structure OutT (p:Prg) (o:List (List Nd)):Prop where
 len:o.length<=40
 mem:∀ t∈o,kindT p.wide p.vars t=2
theorem OutT.add {p:Prg} {o:List (List Nd)} (h:OutT p o) {t:List Nd} (ht:kindT p.wide p.vars t=2):OutT p (addT o t) :=
 ⟨w2i o t h.len,fun u hu=>by rcases w2j hu with hu | rfl;exact h.mem u hu;exact ht⟩
theorem y7e {k:Nat} (t1:List PV) (f:List Nd->Bool) (l:List (List Nd)) (hl:l.length<=100000) (hc:∀ x∈l,c217 k (encT x) t1=r217 (f x)):∀ (n i:Nat),l.length-i<n->i<=l.length->q8z k n (q0i l) t1 (l.length:Int) (i:Int)=z0l (fixI f i (l.drop i))
 | 0,i,h,hi=>by omega
 | n+1,i,h,hi=>by
  rw [x5d];by_cases hlt:i<l.length
  ·have hd:=k04 (i:=i) (l:=l) hlt;have hnext:=k02 (i:=i) (by omega);rw [hd,q0n,q1l,List.getElem?_eq_getElem hlt,q0c hlt,hnext];simp only [cond_true,Option.map_some,Option.bind_some,q0u];rw [hc _ (List.getElem_mem hlt)];simp only [v0p,fixI];cases f l[i]
   ·exact y7e t1 f l hl hc n (i+1) (by omega) (by omega)
   ·rfl
  ·have hd:=k03 (i:=i) (l:=l) hlt;rw [hd,List.drop_eq_nil_of_le (by omega)];rfl
theorem w2k {k:Nat} (hk:100010<=k) (t1:List PV) (f:List Nd->Bool) (l:List (List Nd)) (hl:l.length<=100000) (hc:∀ x∈l,c217 k (encT x) t1=r217 (f x)):y07 (k+1) (q0i l) t1=z0l (fixI f 0 l):=by
 rw [w30,q05];exact y7e (k:=k) t1 f l hl hc k 0 (by omega) (by omega)
theorem w5j {k:Nat} (hk:100010<=k) (t1:List PV) (f:List Nd->Bool) (l:List (List Nd)) (hl:l.length<=100000) (hc:∀ x∈l,c217 k (encT x) t1=r217 (f x)):y02 (k+2) (q0i l) t1=y1x (l.any f):=by
 rw [w3t,w2k (by omega) t1 f l hl hc];simp only [x34,q7a]
theorem x5l {k:Nat} (hk:1000100<=k) {p:Prg} {o:List (List Nd)} (ho:OutT p o) (t:List Nd) (ht:kindT p.wide p.vars t=2):c216 k (encT t) (q0i o)=r216 (q0i (addT o t)):=by
 obtain ⟨k,rfl⟩:∃ j,k=j+4:=⟨k-4,by omega⟩;have hol:=ho.len;have htl:=(q57 ht).1;have etk:(q0i o).take o.length=q0i o:=by rw [List.take_of_length_le (by simp)]
 rw [n216,q05,etk];unfold addT;by_cases h40:o.length<40
 ·have e1:decide ((o.length:Int)<40)=true:=by simp;omega
  have e2:decide (o.length<40)=true:=by simpa using h40
  rw [e1,e2,w5j (k:=k+1) (by omega) (encT t) (fun x=>decide (x=t)) o (by omega) (fun x hx=>by
   rw [n217,v2j (by omega) x t (by have:=(q57 (ho.mem x hx)).1;omega)];simp only [v0q])]
  simp only [x31,cond_true,Bool.true_and];cases (o.any fun x=>decide (x=t))
  ·simp only [Bool.not_false,cond_true];rw [n219 _ _ (by simp [LIM];omega) (by simp [LIM];omega)];simp only [v0r,q07];have e3:(encT t).take t.length=encT t:=by rw [List.take_of_length_le (by simp)]
   rw [q0p (by omega) (by omega),e3,q6t,y33,List.take_of_length_le (by simp)];rfl
  ·rfl
 ·have e1:decide ((o.length:Int)<40)=false:=by simp;omega
  have e2:decide (o.length<40)=false:=by simpa using h40
  rw [e1,e2];rfl
theorem y7d {k:Nat} (hk:1000100<=k) {p:Prg} {o:List (List Nd)} (ho:OutT p o) (t:List Nd) (ht:kindT p.wide p.vars t=2):∀ (n i:Nat),o.length-i<n->i<=o.length ->
  z52 k n o.length (encT t) o.length (o.length:Int) (i:Int) (q0i o)=r224 (q0i (bif (o.drop i).any (fun x=>decide (x=t)) then o else bif decide (o.length<40) then o++[t] else o))
 | 0,i,h,hi=>by omega
 | n+1,i,h,hi=>by
  have hol:=ho.len;have htl:=(q57 ht).1;have etk:(q0i o).take o.length=q0i o:=by rw [List.take_of_length_le (by simp)]
  rw [w8d];by_cases hlt:i<o.length
  ·have hd:=k04 (i:=i) (l:=o) hlt;have hd0:decide ((0:Int)<=(i:Int))=true:=by simp
   have hnext:=k02 (i:=i) (by omega);have hm:=List.getElem_mem hlt;rw [hd,hd0,Int.toNat_natCast,Nat.zero_add,q1l,List.getElem?_eq_getElem hlt,q0c hlt,hnext];simp only [cond_true,Bool.and_self,Option.map_some,Option.bind_some,q0u,List.any_cons];rw [x8s (by omega) _ t (by have:=(q57 (ho.mem _ hm)).1;omega)];simp only [v1j,etk];by_cases he:o[i]=t
   ·have e1:decide (o[i]=t)=true:=by simpa using he
    rw [e1];rfl
   ·have e1:decide (o[i]=t)=false:=by simpa using he
    rw [e1];simp only [cond_false,Bool.false_or];exact y7d hk ho t ht n (i+1) (by omega) (by omega)
  ·have hd:=k03 (i:=i) (l:=o) hlt;rw [hd,List.drop_eq_nil_of_le (by omega)];simp only [cond_false,List.any_nil,etk,q07,Nat.zero_add,List.nil_append];by_cases h40:o.length<40
   ·have e1:((o.length:Int)==40)=false:=by simp;omega
    have e2:decide (o.length<40)=true:=by simpa using h40
    have e3:(encT t).take t.length=encT t:=by rw [List.take_of_length_le (by simp)]
    rw [e1,e2,q0p (by omega) (by omega),q0p (by omega) (by omega),e3,q6t,y33,List.take_of_length_le (by simp)];rfl
   ·have e1:((o.length:Int)==40)=true:=by simp;omega
    have e2:decide (o.length<40)=false:=by simpa using h40
    rw [e1,e2];rfl
theorem x5m {k:Nat} (hk:1000200<=k) {p:Prg} {o:List (List Nd)} (ho:OutT p o) (t:List Nd) (ht:kindT p.wide p.vars t=2):c224 k (q0i o) (encT t)=r224 (q0i (addT o t)):=by
 obtain ⟨k,rfl⟩:=k01 (k:=k) (by omega);have hol:=ho.len;rw [n224,q05]
 have:=y7d (k:=k) (by omega) ho t ht k 0 (by omega) (by omega)
 have h':z52 k k o.length (encT t) o.length (o.length:Int) 0 (q0i o)=_:=this;rw [h'];unfold addT;rw [List.drop_zero];cases (o.any fun x=>decide (x=t)) <;> cases (decide (o.length<40)) <;> rfl
def addW:List Cmd->List (List Nd)->List (List Nd)
 | [],o=>o
 | c::l,o=>addW l (addT o c.wh)
def addB (p:Prg) (t:List Nd):Nat->Nat->List (List Nd)->List (List Nd)
 | 0,i,o=>o
 | m+1,i,o=>addB p t m (i+1) (bif q4y p (q0q p (i:Int)) t then addT o (oneT p (q0q p (i:Int)) t) else o)
def addP (p:Prg):List (List Nd)->List (List Nd)->List (List Nd)
 | [],o=>o
 | t::l,o=>addP p l (addB p t p.cmds.length 0 o)
def tryL (p:Prg) (ts:List (List Nd)):List (List Nd):=addP p ts (addW p.cmds [])
theorem x2w {p:Prg}:∀ {l:List Cmd} {o:List (List Nd)},OutT p o->(∀ c∈l,kindT p.wide p.vars c.wh=2)->OutT p (addW l o)
 | [],o,h,_=>h
 | c::l,o,h,hl=>x2w (l:=l) (o:=addT o c.wh) (h.add (hl c (by simp))) fun c' h'=>hl c' (by simp [h'])
theorem x22 (by1:List (List Nd)):∀ (t:List Nd) (x:Nd),x.1≠2->putT by1 (t++[x])=putT by1 t++[x]
 | [],x,h=>by simp [putT,h]
 | y::t,x,h=>by
  simp only [List.cons_append,putT,x22 by1 t x h,List.append_assoc]
theorem q96 {p:Prg} {c:Cmd} {t:List Nd} (hk:kindT p.wide p.vars t=2) (ho:q4y p c t=true):kindT p.wide p.vars (oneT p c t)=2:=by
 have e:oneT p c t=putT (byOf p c) t:=by unfold oneT;rw [ho];rfl
 have hg:q1c p.wide p.vars (putT (byOf p c) t)=true:=by simp only [q4y,Bool.and_eq_true] at ho;exact ho.2
 rw [e];have h1:=(x1s (q57 hk).2).1;have h2:=(x1s hg).1;rcases List.eq_nil_or_concat t with rfl | ⟨u,x,rfl⟩
 ·rw [hk] at h1;cases h1
 ·rw [List.concat_eq_append] at h1 h2 hk ⊢;rw [hk] at h1;obtain ⟨s,hs⟩:=y1m h1;injection hs with h3 h4
  have hx:x.1≠2:=by
   intro h;rw [h] at h3;revert h3
   decide
  rw [x22 _ _ _ hx] at h2 ⊢;obtain ⟨s',hs'⟩:=y1m h2;injection hs' with h5 h6
  rw [h5,<- h3]
theorem z4e {p:Prg} {t:List Nd} (ht:kindT p.wide p.vars t=2):∀ {m i:Nat} {o:List (List Nd)},OutT p o->OutT p (addB p t m i o)
 | 0,i,o,h=>h
 | m+1,i,o,h=>by
  refine z4e ht (m:=m) (i:=i+1) ?_;cases hb:q4y p (q0q p (i:Int)) t
  ·exact h
  ·exact h.add (q96 ht hb)
theorem x2v {p:Prg}:∀ {l:List (List Nd)} {o:List (List Nd)},OutT p o->(∀ t∈l,kindT p.wide p.vars t=2)->OutT p (addP p l o)
 | [],o,h,_=>h
 | t::l,o,h,hl=>x2v (l:=l) (o:=addB p t p.cmds.length 0 o) (z4e (hl t (by simp)) h) fun c' h'=>hl c' (by simp [h'])
theorem z2t {p:Prg} (hg:q11 p=true):∀ c∈p.cmds,kindT p.wide p.vars c.wh=2 /\ ∀ x∈c.ch,0<=x.v /\ x.v<p.vars:=by
 intro c hc;simp only [q11,Bool.and_eq_true,List.all_eq_true] at hg
 have:=hg.2 c hc
 simp only [q3x,Bool.and_eq_true,beq_iff_eq] at this;exact ⟨this.1,fun x hx=>⟨(q7s this.2 x hx).1,(q7s this.2 x hx).2.1⟩⟩
theorem w4n {p:Prg} (hg:q11 p=true) {ts:List (List Nd)} (hc:∀ t∈ts,kindT p.wide p.vars t=2):OutT p (tryL p ts) :=
 x2v (x2w ⟨by simp,by simp⟩ fun c h=>(z2t hg c h).1) hc
section loops
variable {k:Nat} (hk:1000400<=k) {p:Prg} (hp:FitP p) (hg:q11 p=true) (ts:List (List Nd)) (hl:ts.length<=1000) (hc:∀ t∈ts,kindT p.wide p.vars t=2)
include hk hp hg hl hc
theorem z4m (n1 i:Nat) (t:List Nd) (ht:kindT p.wide p.vars t=2):∀ (n j:Nat) (o:List (List Nd)),p.cmds.length-j<n->j<=p.cmds.length->OutT p o ->
  z12 k n1 n (encT t) (q0i ts) (ts.length:Int) (i:Int) (p.cmds.length:Int) (j:Int) p.wide p.vars (encT p.start) (q0f p.cmds) o.length (q0i o)=z5i k n1 (q0i ts) (ts.length:Int) (IntKind.i64.wrap ((i:Int)+1)) p.wide p.vars (encT p.start) (q0f p.cmds) (addB p t (p.cmds.length-j) j o).length (q0i (addB p t (p.cmds.length-j) j o))
 | 0,j,o,h,hj,ho=>by omega
 | n+1,j,o,h,hj,ho=>by
  have hcm:=hp.cm;have etk:(q0i o).take o.length=q0i o:=by rw [List.take_of_length_le (by simp)]
  rw [w7f];by_cases hlt:j<p.cmds.length
  ·have hd:decide ((j:Int)<(p.cmds.length:Int))=true:=by simpa using hlt
   have hnext:=k02 (i:=j) (by omega);have hno:q2u p (j:Int)=true:=by simp [q2u,hlt]
   have hm:=(q6c hno).2;have htl:=(q57 ht).1;rw [hd,x0y (by omega) p hp (j:Int) t (by omega) hno (z2t hg _ hm).2,hnext,etk];simp only [cond_true,v0s];have e:p.cmds.length-j=(p.cmds.length-(j+1))+1:=by omega
   rw [e];simp only [addB];cases hb:q4y p (q0q p (j:Int)) t
   ·exact z4m n1 i t ht n (j+1) o (by omega) (by omega) ho
   ·simp only [cond_true];rw [x5l (by omega) ho _ (q96 ht hb)];simp only [x9y,q05];exact z4m n1 i t ht n (j+1) _ (by omega) (by omega) (ho.add (q96 ht hb))
  ·have hd:decide ((j:Int)<(p.cmds.length:Int))=false:=by simpa using hlt
   have e:p.cmds.length-j=0:=by omega
   rw [hd,e];rfl
theorem y5h:∀ (n i:Nat) (o:List (List Nd)),ts.length-i<n->i<=ts.length->OutT p o ->
  z5i k n (q0i ts) (ts.length:Int) (i:Int) p.wide p.vars (encT p.start) (q0f p.cmds) o.length (q0i o)=r157 (q0i (addP p (ts.drop i) o))
 | 0,i,o,h,hi,ho=>by omega
 | n+1,i,o,h,hi,ho=>by
  have hcm:=hp.cm;rw [w7e];by_cases hlt:i<ts.length
  ·have hd:=k04 (i:=i) (l:=ts) hlt;have hnext:=k02 (i:=i) (by omega);have hm:=List.getElem_mem hlt;rw [hd,q0n,q1l,List.getElem?_eq_getElem hlt,q0c hlt];simp only [cond_true,Option.map_some,Option.bind_some,q0u,q1j];have h3:=z4m hk hp hg ts hl hc n i ts[i] (hc _ hm) k 0 o (by omega) (by omega) ho;have h':z12 k n k (encT ts[i]) (q0i ts) (ts.length:Int) (i:Int) (p.cmds.length:Int) 0 p.wide p.vars (encT p.start) (q0f p.cmds) o.length (q0i o)=_:=h3;rw [h',hnext,Nat.sub_zero];exact y5h n (i+1) _ (by omega) (by omega) (z4e (hc _ hm) ho)
  ·have hd:=k03 (i:=i) (l:=ts) hlt;have etk:(q0i o).take o.length=q0i o:=by rw [List.take_of_length_le (by simp)]
   rw [hd,List.drop_eq_nil_of_le (by omega),etk];rfl
theorem y5g:∀ (n i:Nat) (o:List (List Nd)),p.cmds.length-i<n->i<=p.cmds.length->OutT p o ->
  y2l k n (q0i ts) (q0f p.cmds) (p.cmds.length:Int) (i:Int) p.wide p.vars (encT p.start) (q0f p.cmds) o.length (q0i o)=r157 (q0i (addP p ts (addW (p.cmds.drop i) o)))
 | 0,i,o,h,hi,ho=>by omega
 | n+1,i,o,h,hi,ho=>by
  have hcm:=hp.cm;have etk:(q0i o).take o.length=q0i o:=by rw [List.take_of_length_le (by simp)]
  rw [w7d];by_cases hlt:i<p.cmds.length
  ·have hd:decide ((i:Int)<(p.cmds.length:Int))=true:=by simpa using hlt
   have hnext:=k02 (i:=i) (by omega);have hm:=List.getElem_mem hlt;have hkw:=(z2t hg _ hm).1;rw [hd,q0n,q2v,List.getElem?_eq_getElem hlt,q0c hlt,hnext,etk];simp only [cond_true,Option.map_some,Option.bind_some,q6f,q7,q39];rw [x5l (by omega) ho _ hkw];simp only [x9y,q05];exact y5g n (i+1) _ (by omega) (by omega) (ho.add hkw)
  ·have hd:decide ((i:Int)<(p.cmds.length:Int))=false:=by simpa using hlt
   rw [hd,List.drop_eq_nil_of_le (by omega),q05];simp only [cond_false];exact y5h hk hp hg ts hl hc k 0 o (by omega) (by omega) ho
theorem z4n (n1 i:Nat) (t:List Nd) (ht:kindT p.wide p.vars t=2):∀ (n j:Nat) (o:List (List Nd)),p.cmds.length-j<n->j<=p.cmds.length->OutT p o ->
  z13 k n1 n o.length (encT t) (q0i ts) (ts.length:Int) (i:Int) (p.cmds.length:Int) (j:Int) p.wide p.vars (encT p.start) (q0f p.cmds) (q0i o)=z5j k n1 (addB p t (p.cmds.length-j) j o).length (q0i ts) (ts.length:Int) (IntKind.i64.wrap ((i:Int)+1)) p.wide p.vars (encT p.start) (q0f p.cmds) (q0i (addB p t (p.cmds.length-j) j o))
 | 0,j,o,h,hj,ho=>by omega
 | n+1,j,o,h,hj,ho=>by
  have hcm:=hp.cm;have etk:(q0i o).take o.length=q0i o:=by rw [List.take_of_length_le (by simp)]
  rw [w7i];by_cases hlt:j<p.cmds.length
  ·have hd:decide ((j:Int)<(p.cmds.length:Int))=true:=by simpa using hlt
   have hnext:=k02 (i:=j) (by omega);have hno:q2u p (j:Int)=true:=by simp [q2u,hlt]
   have hm:=(q6c hno).2;have htl:=(q57 ht).1;rw [hd,w1b (by omega) p hp (j:Int) t (by omega) hno (z2t hg _ hm).2,hnext,etk];simp only [cond_true,v0w];have e:p.cmds.length-j=(p.cmds.length-(j+1))+1:=by omega
   rw [e];simp only [addB];cases hb:q4y p (q0q p (j:Int)) t
   ·exact z4n n1 i t ht n (j+1) o (by omega) (by omega) ho
   ·simp only [cond_true];rw [x5m (by omega) ho _ (q96 ht hb)];simp only [x9z,q05];exact z4n n1 i t ht n (j+1) _ (by omega) (by omega) (ho.add (q96 ht hb))
  ·have hd:decide ((j:Int)<(p.cmds.length:Int))=false:=by simpa using hlt
   have e:p.cmds.length-j=0:=by omega
   rw [hd,e];rfl
theorem y5j:∀ (n i:Nat) (o:List (List Nd)),ts.length-i<n->i<=ts.length->OutT p o ->
  z5j k n o.length (q0i ts) (ts.length:Int) (i:Int) p.wide p.vars (encT p.start) (q0f p.cmds) (q0i o)=r160 (q0i (addP p (ts.drop i) o))
 | 0,i,o,h,hi,ho=>by omega
 | n+1,i,o,h,hi,ho=>by
  have hcm:=hp.cm;rw [w7h];by_cases hlt:i<ts.length
  ·have hd:=k04 (i:=i) (l:=ts) hlt;have hnext:=k02 (i:=i) (by omega);have hm:=List.getElem_mem hlt;rw [hd,q0n,q1l,List.getElem?_eq_getElem hlt,q0c hlt];simp only [cond_true,Option.map_some,Option.bind_some,q0u,q1j];have h3:=z4n hk hp hg ts hl hc n i ts[i] (hc _ hm) k 0 o (by omega) (by omega) ho;have h':z13 k n k o.length (encT ts[i]) (q0i ts) (ts.length:Int) (i:Int) (p.cmds.length:Int) 0 p.wide p.vars (encT p.start) (q0f p.cmds) (q0i o)=_:=h3;rw [h',hnext,Nat.sub_zero];exact y5j n (i+1) _ (by omega) (by omega) (z4e (hc _ hm) ho)
  ·have hd:=k03 (i:=i) (l:=ts) hlt;have etk:(q0i o).take o.length=q0i o:=by rw [List.take_of_length_le (by simp)]
   rw [hd,List.drop_eq_nil_of_le (by omega),etk];rfl
theorem y5i:∀ (n i:Nat) (o:List (List Nd)),p.cmds.length-i<n->i<=p.cmds.length->OutT p o ->
  y2m k n (q0i ts) o.length (q0f p.cmds) (p.cmds.length:Int) (i:Int) p.wide p.vars (encT p.start) (q0f p.cmds) (q0i o)=r160 (q0i (addP p ts (addW (p.cmds.drop i) o)))
 | 0,i,o,h,hi,ho=>by omega
 | n+1,i,o,h,hi,ho=>by
  have hcm:=hp.cm;have etk:(q0i o).take o.length=q0i o:=by rw [List.take_of_length_le (by simp)]
  rw [w7g];by_cases hlt:i<p.cmds.length
  ·have hd:decide ((i:Int)<(p.cmds.length:Int))=true:=by simpa using hlt
   have hnext:=k02 (i:=i) (by omega);have hm:=List.getElem_mem hlt;have hkw:=(z2t hg _ hm).1;rw [hd,q0n,q2v,List.getElem?_eq_getElem hlt,q0c hlt,hnext,etk];simp only [cond_true,Option.map_some,Option.bind_some,q6f,q7,q39];rw [x5m (by omega) ho _ hkw];simp only [x9z,q05];exact y5i n (i+1) _ (by omega) (by omega) (ho.add hkw)
  ·have hd:decide ((i:Int)<(p.cmds.length:Int))=false:=by simpa using hlt
   rw [hd,List.drop_eq_nil_of_le (by omega),q05];simp only [cond_false];exact y5j hk hp hg ts hl hc k 0 o (by omega) (by omega) ho
end loops
end Go.Proofs.YtgdegfijcijnoaaGreat
namespace Go.Proofs.YtgdegfijcijnoaaGreat
open Go.Dp
theorem w9f {a b:List Int} (hl:a.length=b.length):(a.zip b).map (·.1)=a:=List.map_fst_zip (by omega)
theorem w9g {a b:List Int} (hl:a.length=b.length):(a.zip b).map (·.2)=b:=List.map_snd_zip (by omega)
theorem v2h {α:Type} [BEq α] [LawfulBEq α] {p:Prg} (hs:q0h p=true) {l:List α} (hl:l.length=nS p):gsB p (cls l [])=true:=by
 have h:=(z3q l []).1;have h':q04 (cls l []) 0=true:=h;simp only [gsB,hs,h',q9g,hl,Bool.true_and,beq_self_eq_true]
theorem x5z {p:Prg} (t:List Nd):∀ (l:List Int) (i:Nat),i+l.length<=nS p->cutK (whI p t) l i=(l.zip ((List.range' i l.length).map fun (j:Nat)=>bitI p t (j:Int))).map fun q=>2*q.1+q.2
 | [],i,h=>rfl
 | x::l,i,h=>by
  simp only [List.length_cons] at h;have hc:(whI p t).contains (i:Int)=hN p t (i:Int):=by
   rw [Bool.eq_iff_iff,List.contains_iff_mem,q9m];constructor
   ·exact fun h=>h.2
   ·exact fun h'=>⟨⟨by omega,by omega⟩,h'⟩
  rw [cutK,x5z t l (i+1) (by omega),hc,List.length_cons,List.range'_succ,List.map_cons,List.zip_cons_cons,List.map_cons]
  congr 1
  unfold bitI;cases hN p t (i:Int) <;> simp
theorem x75 (p:Prg) (t:List Nd):q4b p t=(List.range' 0 (nS p)).map fun (j:Nat)=>bitI p t (j:Int):=by
 rw [q4b,iota,List.map_map,List.range_eq_range'];rfl
theorem y3r {p:Prg} {t:List Nd} {x:Int} (h:x∈q4b p t):x=0∨x=1:=by
 obtain ⟨y,_,rfl⟩:=List.mem_map.1 h;exact z3c p t y
theorem w2o (p:Prg) (t:List Nd):(q4b p t).length=nS p:=by simp [q4b,q2d]
theorem y5c {p:Prg} {v:List Int} (hv:v.length=nS p) (t:List Nd):cutV (whI p t) v=cls (v.zip (byV p t)) []:=by
 have hb:=w2o p t;have e1:cutK (whI p t) v 0=(v.zip (q4b p t)).map fun q=>2*q.1+q.2:=by
  rw [x5z t v 0 (by omega),x75,hv]
 obtain ⟨g,h1,h2⟩:=w5n (v.zip (q4b p t)) (·.2);rw [w9g (by omega)] at h1;have e2:v.zip (byV p t)=(v.zip (q4b p t)).map fun q=>(q.1,g q):=by
  have hv0:v=(v.zip (q4b p t)).map (·.1):=(w9f (by omega)).symm
  conv=>lhs;rw [byV,h1];arg 1;rw [hv0]
  exact x3q _ _ _
 rw [cutV,e1,e2];refine x1c _ _ _ fun q hq r hr=>?_
 have hq2:=y3r (List.of_mem_zip (a:=q.1) (b:=q.2) hq).2;have hr2:=y3r (List.of_mem_zip (a:=r.1) (b:=r.2) hr).2;rw [Prod.mk.injEq,h2 q hq r hr];constructor
 ·intro e;omega
 ·rintro ⟨e1,e2⟩
  rw [e1,e2]
theorem z6u {p:Prg} {v:List Int} (hg:gsB p v=true) (so:List Int):gsB p (cutV so v)=true:=by
 obtain ⟨s1,s2,s3⟩:=q2p hg;rw [<- x7e];exact v2h s1 (by rw [List.length_zip,z2w,Nat.min_self];exact s3)
theorem w0s {k:Nat} (hk:1000300<=k) {v some1:List Int} (hv:OkV v) (hs:some1.length<=1000) (hin:∀ x∈some1,0<=x /\ x<(v.length:Int)):c79 k (encZ v) (encZ some1)=r79 (encZ (cutV some1 v)):=by
 obtain ⟨k,rfl⟩:=k01 (k:=k) (by omega);have hvl:=hv.len;have hl:=y7n (k:=k) (by omega) hv [] some1 hin hs k 0 (by omega) (by omega);have hgd:(((v.length:Int)==(v.length:Int))&&decide ((0:Int)<=(v.length:Int))&&decide (v.length*8<=LIM)&&decide (v.length<=LIM))=true:=by
  have q1:decide (v.length*8<=LIM)=true:=decide_eq_true (by unfold LIM;omega);have q2:decide (v.length<=LIM)=true:=decide_eq_true (by unfold LIM;omega);rw [q1,q2];simp
 have he:List.replicate v.length (PV.int .i64 0)=encZ (inV v.length (some1.take 0)):=by
  simp only [List.take_zero,inV,encZ,List.map_map];apply List.ext_getElem
  ·simp [q2d]
  ·intro i h1 h2;simp [hasI]
 rw [n79,q0b,q0b,hgd,he];have hl':y29 k k (encZ some1) (some1.length:Int) 0 (encZ v) [] v.length (encZ (inV v.length (some1.take 0)))=_:=hl;simp only [cond_true];rw [hl',x7e]
theorem w9b {k:Nat} (hk:1000500<=k) {p:Prg} (hp:FitP p) (hs:q0h p=true) (ts:List (List Nd)) (hl:ts.length<=1000) (hc:∀ t∈ts,kindT p.wide p.vars t=2):c157 k p.wide p.vars (encT p.start) (q0f p.cmds) (q0i ts)=r157 (q0i (tryL p ts)):=by
 obtain ⟨k,rfl⟩:=k01 (k:=k) (by omega);have hcm:=hp.cm;rw [n157,q1j];exact y5g (k:=k) (by omega) hp (q1t hs) ts hl hc k 0 [] (by omega) (by omega) ⟨by simp,by simp⟩
theorem x4g {k:Nat} (hk:1000500<=k) {p:Prg} (hp:FitP p) (hs:q0h p=true) (ts:List (List Nd)) (hl:ts.length<=1000) (hc:∀ t∈ts,kindT p.wide p.vars t=2):c160 k p.wide p.vars (encT p.start) (q0f p.cmds) (q0i ts)=r160 (q0i (tryL p ts)):=by
 obtain ⟨k,rfl⟩:=k01 (k:=k) (by omega);have hcm:=hp.cm;rw [n160,q1j];exact y5i (k:=k) (by omega) hp (q1t hs) ts hl hc k 0 [] (by omega) (by omega) ⟨by simp,by simp⟩
theorem w06 {k:Nat} (hk:1000500<=k) {p:Prg} (hs:q0h p=true) (l1 l2:List PV) (ts:List (List Nd)) (hl:ts.length<=1000) (ht:∀ t∈ts,t.length<=100) (hc:allC p ts=true) (a b:List Int) (ha:a.length<=1000) (hb:b.length<=1000) (hain:∀ x∈a,inS p x) (hbin:∀ x∈b,inS p x) :
  c161 k p.wide p.vars l1 l2 (q0i ts) (encZ a) (encZ b)=r161 (z2q p ts a b):=by
 obtain ⟨k,rfl⟩:=k01 (k:=k) (by omega);rw [n161,q05];exact z9o (k:=k) (by omega) hs l1 l2 ts hl ht hc a b ha hb hain hbin k 0 (by omega) (by omega)
theorem z31 {p:Prg} {t:List Nd} (h:kindT p.wide p.vars t=2):t.length<=100:=by
 unfold kindT at h;split at h
 ·rename_i hs;unfold q42 at hs;simp at hs;omega
 ·cases h
theorem w2r (v l:List Int):(clV v l).length<=l.length:=by
 have h:=q8c ((z6q v l).imp (fun {a b} h=>Int.ne_of_lt h)) (b:=l.map (dAt v)) (fun x hx=>by
  obtain ⟨y,h1,h2⟩:=(q49 v l x).1 hx;exact List.mem_map.2 ⟨y,h1,h2⟩)
 rwa [List.length_map] at h
theorem w5m {v l:List Int} (d:Int):(clV v l).contains d=l.any fun y=>dAt v y==d:=by
 rw [Bool.eq_iff_iff,List.contains_iff_mem,q49,List.any_eq_true];simp
theorem y1t {k:Nat} (hk:1000300<=k) {p:Prg} (hp:FitP p) (hs:q0h p=true) (l0:List PV) {v:List Int} (hv:OkV v) (hn:v.length=nS p) (d:Int) (w:List Int) (hwl:w.length<=1000) (hw:∀ x∈w,inS p x):∀ (n q:Nat) (acc:List Int),w.length-q<n->q<=w.length->acc.length<=q ->
  z5k k n d acc.length (encZ w) (w.length:Int) (q:Int) p.wide p.vars l0 (q0f p.cmds) (encZ v) (encZ acc)=r162 (encZ (acc++(w.drop q).filter fun x=>(nxL p x).any fun y=>dAt v y==d))
 | 0,q,acc,h,hq,ha=>by omega
 | n+1,q,acc,h,hq,ha=>by
  rw [w7k,q0v];by_cases hlt:q<w.length
  ·have hd:=k04 (i:=q) (l:=w) hlt;have hnext:=k02 (i:=q) (by omega);have hx:=hw _ (List.getElem_mem hlt);have hnl:=q5u hp w[q];have hng:=v2x hp hs hn hx;have hcl:=Nat.le_trans (w2r v (nxL p w[q])) hnl;rw [hd,q0l hlt,hnext,q0c hlt];simp only [cond_true,Option.bind_some,q0d];rw [z4b (by omega) hp hs hx];simp only [y3f];rw [z8h (by omega) hv _ hng (by omega)];simp only [y3e];rw [z63 (by omega) _ (by omega),w5m];simp only [z6i];cases hc:((nxL p w[q]).any fun y=>dAt v y==d)
   ·have:=y1t hk hp hs l0 hv hn d w hwl hw n (q+1) acc (by omega) (by omega) (by omega)
    rw [List.filter_cons,hc];exact this
   ·simp only [cond_true];rw [q0p (by omega) (by omega),q00]
    have:=y1t hk hp hs l0 hv hn d w hwl hw n (q+1) (acc++[w[q]]) (by omega) (by omega) (by simp;omega)
    rw [List.length_append,List.append_assoc] at this;rw [List.filter_cons,hc];exact this
  ·have hd:=k03 (i:=q) (l:=w) hlt;rw [hd,List.drop_eq_nil_of_le (by omega),List.filter_nil,List.append_nil];rfl
theorem w3a {k:Nat} (hk:1000400<=k) {p:Prg} (hp:FitP p) (hs:q0h p=true) (l0:List PV) {v:List Int} (hv:OkV v) (hn:v.length=nS p) (c d:Int):c162 k p.wide p.vars l0 (q0f p.cmds) (encZ v) c d=r162 (encZ (onL p v c d)):=by
 obtain ⟨k,rfl⟩:=k01 (k:=k) (by omega);have hvl:=hv.len;have hsl:=q9l v c;rw [n162,x13 (by omega) (by omega)];simp only [x90];rw [q0b];exact y1t (k:=k) (by omega) hp hs l0 hv hn d (stV v c) (by omega) (q7n hn c) k 0 [] (by omega) (by omega) (by simp)
def cutF (p:Prg) (v:List Int) (ts:List (List Nd)) (path:List Int):Int:=z2q p (tryL p ts) (q31 p v path) (onL p v (((path)[(q09 (q0k p v path)-1).toNat]?).getD 0) (((path)[(q09 (q0k p v path)).toNat]?).getD 0))
def cutS (p:Prg) (v:List Int) (ts:List (List Nd)) (path:List Int):List Int:=bif decide (cutF p v ts path<0) then q31 p v path else whI p (((tryL p ts)[(cutF p v ts path).toNat]?).getD [])
def cutN (p:Prg) (v:List Int) (ts:List (List Nd)) (path:List Int):Int:=bif decide (cutF p v ts path<0) then -1 else cutF p v ts path
theorem w1p {p:Prg} {v:List Int} (hn:v.length=nS p) (c d:Int):∀ x∈onL p v c d,inS p x:=fun x hx=>q7n hn c x (List.mem_filter.1 hx).1
theorem x3k {p:Prg} (hs:q0h p=true) {ts:List (List Nd)} (hc:∀ t∈ts,kindT p.wide p.vars t=2):(tryL p ts).length<=40 /\ (∀ t∈tryL p ts,t.length<=100) /\ allC p (tryL p ts)=true:=by
 have h:=w4n (q1t hs) hc;refine ⟨h.len,fun t ht=>?_,?_⟩
 ·exact z31 (h.mem t ht)
 ·simp only [allC,List.all_eq_true,beq_iff_eq];exact h.mem
end Go.Proofs.YtgdegfijcijnoaaGreat
namespace Go.Proofs.YtgdegfijcijnoaaGreat
open Go.Dp
theorem w5x {p:Prg} {v:List Int} (hn:v.length=nS p) {l:List Int} (h:∀ x∈l,inS p x):∀ x∈l,0<=x /\ x<(v.length:Int):=fun x hx=>by
 have:=h x hx
 rw [hn];exact this
section
variable {p:Prg} {v:List Int} {ts:List (List Nd)} {path:List Int}
theorem w0t (hd:deOK p v path=true):∃ (j:Nat) (h1:j+1<path.length),q09 (q0k p v path)=((j+1:Nat):Int) /\ (q0k p v path)[j]? = some (q31 p v path) /\ (q0k p v path)[j+1]? = some [] /\ q31 p v path≠[] /\
  cutF p v ts path=z2q p (tryL p ts) (q31 p v path) (onL p v path[j] path[j+1]):=by
 obtain ⟨j,h1,h2,h3,h4,h5⟩:=x52 hd;refine ⟨j,h1,h2,h3,h4,h5,?_⟩;have e1:(q09 (q0k p v path)-1).toNat=j:=by omega
 have e2:(q09 (q0k p v path)).toNat=j+1:=by omega
 unfold cutF;rw [e1,e2,List.getElem?_eq_getElem (show j<path.length by omega),List.getElem?_eq_getElem h1];rfl
theorem y30:cutF p v ts path<0∨∃ i,∃ hi:i<(tryL p ts).length,cutF p v ts path=(i:Int):=by
 unfold cutF z2q;rcases q3i (fun t=>sepB p t (q31 p v path) (onL p v (((path)[(q09 (q0k p v path)-1).toNat]?).getD 0) (((path)[(q09 (q0k p v path)).toNat]?).getD 0))) (tryL p ts) 0 with ⟨h,_⟩ | ⟨j,hj,h,_⟩
 · left;rw [h];omega
 · right;exact ⟨j,hj,by rw [h,Nat.zero_add]⟩
end
theorem w2u {k:Nat} (hk:1000700<=k) {p:Prg} (hp:FitP p) (hs:q0h p=true) {v:List Int} (hv:OkV v) (hg:gsB p v=true) (ts:List (List Nd)) (hl:ts.length<=1000) (hc:∀ t∈ts,kindT p.wide p.vars t=2) (path:List Int) (hpl:path.length<=4000) :
  c75 k p.wide p.vars (encT p.start) (q0f p.cmds) (encZ v) (q0i ts) (encZ path)=r75 (encZ (bif deOK p v path then cutV (cutS p v ts path) v else [])) (bif deOK p v path then cutN p v ts path else 0) (deOK p v path):=by
 obtain ⟨k,rfl⟩:=k01 (k:=k) (by omega);obtain ⟨s1,s2,s3⟩:=q2p hg;have hvl:=hv.len;have hgl:=q2t p v path;obtain ⟨t1,t2,t3⟩:=x3k hs hc;rw [n75,x4 (by omega) hp hs s3 path hpl];simp only [w9w];cases hd:deOK p v path
 ·rfl
 obtain ⟨j,h1,h2,h3,h4,h5,h6⟩:=w0t (ts:=ts) hd;have hdsl:=x1g hp hs v path;have hdl:=hdsl.len hs;have hj1:IntKind.i64.wrap (((j+1:Nat):Int)-1)=(j:Int):=by rw [q0g (by omega) (by omega)];omega
 have hon:(onL p v path[j] path[j+1]).length<=v.length:=Nat.le_trans (List.length_filter_le _ _) (q9l v _);simp only [Bool.not_true,cond_false,cond_true];rw [q7o (by omega) hp hs s3 path hpl];simp only [x7y,q1v];rw [List.take_of_length_le (by simp),z3m (by omega) _ (by omega)];simp only [x97];rw [w9b (by omega) hp hs ts hl hc,h2,hj1];simp only [w9x];rw [q0l (show j<path.length by omega),q0l h1];simp only [Option.bind_some,q0d];rw [x9 (by omega) hp hs _ hv s3];simp only [v4o];rw [w05 (by omega) hs _ _ (tryL p ts) (by omega) t2 t3 (q31 p v path) (onL p v path[j] path[j+1]) (by omega) (by omega) hdsl.is (w1p s3 _ _),<- h6];simp only [w9y,cutS,cutN];rcases y30 (p:=p) (v:=v) (ts:=ts) (path:=path) with hF | ⟨i,hi,hF⟩
 ·rw [decide_eq_true hF,w0s (by omega) hv (by omega) (w5x s3 hdsl.is)];rfl
 ·have hkt:kindT p.wide p.vars (tryL p ts)[i]=2:=q65 t3 _ (List.getElem_mem hi);have hss:ssB p v (tryL p ts)[i]=true:=by simp only [ssB,spB,hs,hg,hkt,beq_self_eq_true,Bool.and_self]
  rw [hF,decide_eq_false (by omega),q0n,q1l,List.getElem?_eq_getElem hi];simp only [cond_false,Option.map_some,Option.bind_some,q0u];rw [y0i (by omega) p hp hv _ (t2 _ (List.getElem_mem hi)),hss];simp only [x9n,cond_true];rw [<- y5c s3,Int.toNat_natCast,List.getElem?_eq_getElem hi];rfl
theorem w1c {k:Nat} (hk:1000700<=k) {p:Prg} (hp:FitP p) (hs:q0h p=true) {v:List Int} (hv:OkV v) (hg:gsB p v=true) (ts:List (List Nd)) (hl:ts.length<=1000) (hc:∀ t∈ts,kindT p.wide p.vars t=2) (path:List Int) (hpl:path.length<=4000) (hd:deOK p v path=true) :
  c77 k p.wide p.vars (encT p.start) (q0f p.cmds) (encZ v) (q0i ts) (encZ path)=r77 (encZ (cutV (cutS p v ts path) v)) (cutN p v ts path):=by
 obtain ⟨k,rfl⟩:=k01 (k:=k) (by omega);obtain ⟨s1,s2,s3⟩:=q2p hg;have hvl:=hv.len;have hgl:=q2t p v path;obtain ⟨t1,t2,t3⟩:=x3k hs hc;obtain ⟨j,h1,h2,h3,h4,h5,h6⟩:=w0t (ts:=ts) hd;have hdsl:=x1g hp hs v path;have hdl:=hdsl.len hs;have hj1:IntKind.i64.wrap (((j+1:Nat):Int)-1)=(j:Int):=by rw [q0g (by omega) (by omega)];omega
 have hon:(onL p v path[j] path[j+1]).length<=v.length:=Nat.le_trans (List.length_filter_le _ _) (q9l v _);have hlk:q0e (q0m (q0k p v path)) (j:Int)=some (.row 0 0 (encZ (q31 p v path))):=by rw [q0n,q13,h3];rfl
 rw [n77,z9u (by omega) hp hs s3 path hpl];simp only [w47];rw [z9v (by omega) _ (by omega)];simp only [w46];rw [x4g (by omega) hp hs ts hl hc,h2,hj1];simp only [w9z];rw [hlk,q0l (show j<path.length by omega),q0l h1];simp only [Option.bind_some,q0d,q0u];rw [w3a (by omega) hp hs _ hv s3];simp only [w91];rw [w06 (by omega) hs _ _ (tryL p ts) (by omega) t2 t3 (q31 p v path) (onL p v path[j] path[j+1]) (by omega) (by omega) hdsl.is (w1p s3 _ _),<- h6];simp only [w90,cutS,cutN];rcases y30 (p:=p) (v:=v) (ts:=ts) (path:=path) with hF | ⟨i,hi,hF⟩
 ·rw [decide_eq_true hF,y1b (by omega) (q31 p v path) v (by omega) hv];simp only [x7w,cond_true,q0b,q0v]
 ·have hkt:kindT p.wide p.vars (tryL p ts)[i]=2:=q65 t3 _ (List.getElem_mem hi);rw [hF,decide_eq_false (by omega),q0n,q1l,List.getElem?_eq_getElem hi];simp only [cond_false,Option.map_some,Option.bind_some,q0u];rw [y12 (by omega) hs _ _ _ (t2 _ (List.getElem_mem hi)) hkt hv];simp only [v4t,q0b,q0v];rw [Int.toNat_natCast,List.getElem?_eq_getElem hi];rfl
end Go.Proofs.YtgdegfijcijnoaaGreat
namespace Go.Proofs.YtgdegfijcijnoaaGreat
open Go.Dp
def q9b (ls:List (List PV)):List PV:=ls.map (PV.row 0 0)
@[simp] theorem z7s (ls:List (List PV)):(q9b ls).length=ls.length:=by simp [q9b]
theorem y8q (ls:List (List PV)) (i:Nat):(q9b ls)[i]? = (ls[i]?).map (PV.row 0 0):=by simp [q9b]
theorem w24 {k:Nat} (hk:1<=k) {n:Nat} (hn:n<=1000000):c228 k [] (n:Int)=r228 []:=by
 obtain ⟨k,rfl⟩:=k01 (k:=k) (by omega);rw [n228];have h1:decide ((n:Int)<0)=false:=by simp
 have e:IntKind.i64.wrap ((n:Int)-IntKind.i64.wrap (0-(([]:List PV).length:Int)))=(n:Int):=by
  rw [q0g (n:=0-(([]:List PV).length:Int)) (by simp) (by simp),q0g (by simp;try omega) (by simp;try omega)];simp
 rw [h1,e];simp only [cond_false];by_cases h:0<n
 ·have h2:decide ((n:Int)>0)=true:=by simpa using h
  rw [h2];have h4:=q0p (n:=n) (c:=24) (by omega) (by omega);simp only [Bool.and_eq_true] at h4;simp [h4.1,h4.2]
 ·have h2:decide ((n:Int)>0)=false:=by simp;omega
  rw [h2];rfl
theorem z4w {k:Nat} (ls:List (List PV)) (hl:ls.length<=1000) (hb:∀ l∈ls,l.length<=1000):∀ (n i:Nat) (xs:List PV),ls.length-i<n->i<=ls.length->xs.length<=1000*i ->
  y2q k n xs.length (q9b ls) (ls.length:Int) (i:Int) xs=r180 (xs++(ls.drop i).flatten)
 | 0,i,xs,h,hi,hx=>by omega
 | n+1,i,xs,h,hi,hx=>by
  rw [w7u,List.take_length];by_cases hlt:i<ls.length
  ·have hd:=k04 (i:=i) (l:=ls) hlt;have hlb:=hb ls[i] (List.getElem_mem hlt);rw [hd,q0n,y8q,List.getElem?_eq_getElem hlt];simp only [cond_true,Option.map_some,Option.bind_some,q0u];rw [q0p (by omega) (by omega),q0g (by omega) (by omega),<- List.length_append];simp only [cond_true];rw [show (i:Int)+1=((i+1:Nat):Int) by omega,z4w ls hl hb n (i+1) (xs++ls[i]) (by omega) (by omega) (by simp;omega),q0c hlt,List.flatten_cons,List.append_assoc]
  ·have hd:=k03 (i:=i) (l:=ls) hlt;rw [hd,List.drop_eq_nil_of_le (by omega)];simp
theorem z4v {k:Nat} (hk:2000<=k) (ls:List (List PV)) (hl:ls.length<=1000) (hb:∀ l∈ls,l.length<=1000):∀ (n i s:Nat),ls.length-i<n->i<=ls.length->s<=1000*i ->
  y2p k n (q9b ls) (s:Int) (q9b ls) (ls.length:Int) (i:Int)=r180 ls.flatten
 | 0,i,s,h,hi,hx=>by omega
 | n+1,i,s,h,hi,hx=>by
  rw [w7t];by_cases hlt:i<ls.length
  ·have hd:=k04 (i:=i) (l:=ls) hlt;have hlb:=hb ls[i] (List.getElem_mem hlt);rw [hd,q0n,y8q,List.getElem?_eq_getElem hlt];simp only [cond_true,Option.map_some,Option.bind_some,q0u];rw [q0g (by omega) (by omega),q0g (by omega) (by omega)];have hd2:decide ((s:Int)+(ls[i].length:Int)<0)=false:=by simp;omega
   rw [hd2];simp only [cond_false]
   have:=z4v hk ls hl hb n (i+1) (s+ls[i].length) (by omega) (by omega) (by omega)
   simpa using this
  ·have hd:=k03 (i:=i) (l:=ls) hlt;rw [hd,w24 (by omega) (by omega),z7s];simp only [cond_false,v0y]
   have:=z4w (k:=k) ls hl hb k 0 [] (by omega) (by omega) (by simp)
   simpa using this
theorem x8f {k:Nat} (hk:2001<=k) (ls:List (List PV)) (hl:ls.length<=1000) (hb:∀ l∈ls,l.length<=1000):c180 k (q9b ls)=r180 ls.flatten:=by
 obtain ⟨k,rfl⟩:=k01 (k:=k) (by omega);rw [n180,z7s];exact z4v (by omega) ls hl hb k 0 0 (by omega) (by omega) (by omega)
def q5m (p:Prg) (ts:List (List Nd)) (bad:List Nd):List Int:=byL p (ts++[bad]) (q2b p)
theorem x3p {p:Prg} (hs:q0h p=true):gsB p (q2b p)=true:=by
 unfold gsB;rw [hs,show q04 (q2b p) 0=true from x9b (nS p)];simp [q2b]
theorem w0h {p:Prg}:∀ (ts:List (List Nd)) {v:List Int},gsB p v=true->gsB p (byL p ts v)=true
 | [],v,h=>h
 | t::ts,v,h=>w0h ts (z6u h _)
theorem x5p (p:Prg):∀ (a b:List (List Nd)) (v:List Int),byL p (a++b) v=byL p b (byL p a v)
 | [],b,v=>rfl
 | t::a,b,v=>x5p p a b _
theorem z6y {p:Prg} (hs:q0h p=true) (ts:List (List Nd)) (bad:List Nd):gsB p (q5m p ts bad)=true:=w0h _ (x3p hs)
theorem z6z {p:Prg} (hs:q0h p=true) (ts:List (List Nd)) (bad:List Nd):OkV (q5m p ts bad):=z8d p _ (q8d hs)
theorem w14 {k:Nat} (n:Nat) (t12:List PV) (t13 t14 n1 n11:Int) (l l1 l2:List PV) (v:List Int):y99 k (n+1) t12 t13 t14 n1 n11 l l1 l2 v.length (encZ v)=z5p k (n+1) t12 t13 t14 n1 n11 l l1 l2 (encZ v):=by
 rw [w7s,x6v,q0v]
theorem z7t {k:Nat} (hk:1000700<=k) {p:Prg} (hp:FitP p) (l2:List PV) (ts:List (List Nd)) (hl:ts.length<=1000) (ht:∀ t∈ts,t.length<=100) (hkt:∀ t∈ts,kindT p.wide p.vars t=2):∀ (n i:Nat) (v:List Int),ts.length-i<n->i<=ts.length->OkV v->gsB p v=true ->
  z5p k n (q0i ts) (ts.length:Int) (i:Int) p.wide p.vars (encT p.start) (q0f p.cmds) l2 (encZ v)=r179 (encZ (byL p (ts.drop i) v))
 | 0,i,v,h,hi,hv,hg=>by omega
 | n+1,i,v,h,hi,hv,hg=>by
  obtain ⟨s1,s2,s3⟩:=q2p hg;rw [x6v];by_cases hlt:i<ts.length
  ·have hd:=k04 (i:=i) (l:=ts) hlt;have hnext:=k02 (i:=i) (by omega);have hm:=List.getElem_mem hlt;have hss:ssB p v ts[i]=true:=by simp only [ssB,spB,s1,hg,hkt _ hm,beq_self_eq_true,Bool.and_self]
   rw [hd,q0n,q1l,List.getElem?_eq_getElem hlt,q0c hlt,hnext];simp only [cond_true,Option.map_some,Option.bind_some,q0u,byL];rw [y0i (by omega) p hp hv _ (ht _ hm),hss];simp only [x9n,cond_true];rw [<- y5c s3];exact z7t hk hp l2 ts hl ht hkt n (i+1) _ (by omega) (by omega) (q67 hv) (z6u hg _)
  ·have hd:=k03 (i:=i) (l:=ts) hlt;rw [hd,List.drop_eq_nil_of_le (by omega)];rfl
theorem x86 {k:Nat} (hk:1000800<=k) {p:Prg} (hp:FitP p) (hs:q0h p=true) (ts:List (List Nd)) (hl:ts.length<=1000) (ht:∀ t∈ts,t.length<=100) (hkt:∀ t∈ts,kindT p.wide p.vars t=2):c179 k p.wide p.vars (encT p.start) (q0f p.cmds) (q0i ts)=r179 (encZ (byL p ts (q2b p))):=by
 obtain ⟨k,rfl⟩:=k01 (k:=k) (by omega);have hle:=q3e hs;rw [n179,z2z (by omega) hs];simp only [z2d,Int.toNat_natCast];have hg:(((nS p:Int)==(nS p:Int))&&decide ((0:Int)<=(nS p:Int))&&decide (nS p*8<=LIM)&&decide (nS p<=LIM))=true:=by
  have q1:decide (nS p*8<=LIM)=true:=decide_eq_true (by unfold LIM;omega);have q2:decide (nS p<=LIM)=true:=decide_eq_true (by unfold LIM;omega);rw [q1,q2];simp
 have hz:(q2b p).length=nS p:=by simp [q2b]
 have he:List.replicate (nS p) (PV.int .i64 0)=encZ (q2b p):=by simp [q2b,encZ]
 obtain ⟨k',rfl⟩:∃ j,k=j+1:=⟨k-1,by omega⟩
 have:=z7t (k:=k'+1) (by omega) hp [] ts hl ht hkt (k'+1) 0 (q2b p) (by omega) (by omega) (q8d hs) (x3p hs)
 rw [hg,he,q05];rw [<- w14,hz] at this;exact this
theorem y3w {p:Prg} (hp:FitP p) (hs:q0h p=true) {v:List Int} (hv:OkV v) (hn:v.length=nS p) (hg:q04 v 0=true):GrOK (clG p v):=by
 have hml:=q3m hg;have hvl:=hv.len;have hro:=z3g hp hs hv hn hg;have key:∀ z∈clG p v,∃ i,i<(clG p v).length /\ z=atL (clG p v) i:=by
  intro z hz;obtain ⟨i,hi,rfl⟩:=List.mem_iff_getElem.1 hz;exact ⟨i,hi,by simp [atL,hi]⟩
 refine ⟨by rw [q9f];omega,fun z hz=>?_,fun z hz=>?_⟩
 ·obtain ⟨i,hi,rfl⟩:=key z hz;refine ⟨?_,fun x hx=>(hro i).2 x hx⟩;rw [w0n];split
  ·exact (z6q v _).imp (fun {a b} h=>Int.ne_of_lt h)
  ·exact List.nodup_nil
 ·obtain ⟨i,hi,rfl⟩:=key z hz;exact (hro i).1
def badC (p:Prg) (v:List Int) (bad:List Nd):List Int:=clV v (whI p bad)
def tryP (p:Prg) (v:List Int) (bad:List Nd):List Int:=wayT (clG p v) (q1i p v) (badC p v bad)
theorem z8c {p:Prg} {v:List Int} (hn:v.length=nS p) (hg:q04 v 0=true) (bad:List Nd):∀ x∈badC p v bad,inG (clG p v).length x:=by
 intro x hx
 have:=z8i hg (q3s hn bad) x hx
 rw [q9f];exact ⟨this.1,by omega⟩
theorem x7 {k:Nat} (hk:1000900<=k) {p:Prg} (hp:FitP p) {v:List Int} (hv:OkV v) (hgs:gsB p v=true) (bad:List Nd) (hb:kindT p.wide p.vars bad=2):c128 k p.wide p.vars (encT p.start) (q0f p.cmds) (encZ v) (encT bad)=r128 (encZ (tryP p v bad)):=by
 obtain ⟨k,rfl⟩:=k01 (k:=k) (by omega);obtain ⟨hs,hg,hn⟩:=q2p hgs;have hml:=q3m hg;have hvl:=hv.len;have hst:=hp.st;have hwl:=q7p hs p.start;have hwb:=q7p hs bad;have hsl:(q1i p v).length<=v.length:=q6b hg (q3s hn p.start);have hbl:(badC p v bad).length<=v.length:=q6b hg (q3s hn bad);rw [n128,y3x (by omega) hp hs _ hv hn hg];simp only [x9t];rw [z0v (by omega) hs _ _ p.start (by omega) (z7v hs)];simp only [z6f,q0b,q0v];rw [q5j (by omega) hv (z8q hs hn) hg _ (q3s hn p.start) (by omega)];simp only [q73,q0b,q0v];rw [z0v (by omega) hs _ _ bad (z31 hb) hb];simp only [z6f,q0b,q0v];rw [q5j (by omega) hv (z8q hs hn) hg _ (q3s hn bad) (by omega)];simp only [q73,q0b,q0v];have h:=w1f (k:=k) (by omega) (y3w hp hs hv hn hg) (A:=q1i p v) (by omega) (q37 hn hg) (B:=badC p v bad) (by omega) (z8c hn hg bad);have h':c197 k (q0m (clG p v)) (encZ (clV v (whI p p.start))) (encZ (clV v (whI p bad)))=_:=h;rw [h'];simp only [v0f];unfold tryP;cases wayT (clG p v) (q1i p v) (badC p v bad) with
 | nil=>rfl
 | cons x l=>rfl
theorem x7a {k:Nat} (hk:1000900<=k) {p:Prg} (hp:FitP p) {v:List Int} (hv:OkV v) (hgs:gsB p v=true) (bad:List Nd) (hb:kindT p.wide p.vars bad=2):c100 k p.wide p.vars (encT p.start) (q0f p.cmds) (encZ v) (encT bad)=r100 (encZ (tryP p v bad)) (!(tryP p v bad).isEmpty):=by
 obtain ⟨k,rfl⟩:=k01 (k:=k) (by omega);obtain ⟨hs,hg,hn⟩:=q2p hgs;have hml:=q3m hg;have hvl:=hv.len;have hst:=hp.st;have hwl:=q7p hs p.start;have hwb:=q7p hs bad;have hsl:(q1i p v).length<=v.length:=q6b hg (q3s hn p.start);have hbl:(badC p v bad).length<=v.length:=q6b hg (q3s hn bad);rw [n100,z0t (by omega) hs _ _ p.start (by omega) (z7v hs)];simp only [z6g];rw [z8h (by omega) hv _ (q3s hn p.start) (by omega)];simp only [y3e];rw [x8n (by omega) hp hs _ hv hn hg];simp only [v0a];rw [z0t (by omega) hs _ _ bad (z31 hb) hb];simp only [z6g];rw [z8h (by omega) hv _ (q3s hn bad) (by omega)];simp only [y3e];have h:=w4 (k:=k) (by omega) (y3w hp hs hv hn hg) (A:=q1i p v) (by omega) (q37 hn hg) (B:=badC p v bad) (by omega) (z8c hn hg bad);have h':c182 k (q0m (clG p v)) (encZ (clV v (whI p p.start))) (encZ (clV v (whI p bad)))=_:=h;rw [h'];simp only [w99];rfl
theorem z70 {p:Prg} {v:List Int} (hgs:gsB p v=true) {bad:List Nd} (h:(tryP p v bad).isEmpty=false):∃ x l,tryP p v bad=x::l /\ x∈q1i p v:=by
 obtain ⟨hs,hg,hn⟩:=q2p hgs;have hneg:=h;unfold tryP at hneg;rw [y18] at hneg;have hn0:=of_decide_eq_false hneg;refine ⟨q1x (clG p v) (q1i p v) (badC p v bad),_,by unfold tryP wayT;rw [hneg];rfl,?_⟩;rcases q30 (farT (clG p v) (badC p v bad)) (q1i p v) (-1) (fun x hx=>(q37 hn hg x hx).1) (fun h=>by omega) with ⟨h1,_⟩ | ⟨h1,_⟩
 · unfold q1x at hn0;omega
 · exact h1
theorem z0u {p:Prg} (hp:FitP p) {v:List Int} (hv:OkV v) (hgs:gsB p v=true) (bad:List Nd):(tryP p v bad).length<=1000:=by
 obtain ⟨hs,hg,hn⟩:=q2p hgs;have hml:=q3m hg;have hvl:=hv.len;have hbl:(badC p v bad).length<=v.length:=q6b hg (q3s hn bad);have hok:=y3w hp hs hv hn hg;have hgl:=hok.len;unfold tryP wayT;cases hneg:decide (q1x (clG p v) (q1i p v) (badC p v bad)<0)
 ·have hn0:=of_decide_eq_false hneg;have hbin:inG (clG p v).length (q1x (clG p v) (q1i p v) (badC p v bad)):=by
   rcases q30 (farT (clG p v) (badC p v bad)) (q1i p v) (-1) (fun x hx=>(q37 hn hg x hx).1) (fun h=>by omega) with ⟨h1,_⟩ | ⟨h1,_⟩
   ·unfold q1x at hn0;omega
   ·exact q37 hn hg _ h1
  have hle:=y51 hok (z8c hn hg bad) _ hbin;simp only [cond_false,List.length_cons,y7q];omega
 ·simp
theorem x57 {p:Prg} {v:List Int} (hgs:gsB p v=true) {bad:List Nd} (h:(tryP p v bad).isEmpty=false) (hf:0<=q09 (q0k p v (tryP p v bad))):deOK p v (tryP p v bad)=true:=by
 obtain ⟨x,l,e,hx⟩:=z70 hgs h;unfold deOK;apply decide_eq_true;obtain ⟨j,hj,h1,h2,_⟩:=y36 hf;have h0:j≠0:=by
  rintro rfl
  have h3:(q0k p v (tryP p v bad))[0]? = some []:=by rw [List.getElem?_eq_getElem hj,h2]
  rw [e] at h3;simp only [q0k,q2o,List.getElem?_cons_zero,Option.some.injEq] at h3;obtain ⟨y,hy,hd⟩:=(q49 v (whI p p.start) x).1 hx
  have:y∈sel v x (whI p p.start):=x63.2 ⟨hy,hd⟩
  rw [h3] at this;simp at this
 omega
abbrev Fnd:=Int × List Int × Int × List Int
def nevF (p:Prg) (ts:List (List Nd)) (bad:List Nd):Nat->Int->List Int->Fnd
 | 0,r,v=>bif (tryP p v bad).isEmpty then (1,[],r,v) else bif decide (0<=q09 (q0k p v (tryP p v bad))) then (3,[],r,v) else (2,q40 p (q0k p v (tryP p v bad)),r,v)
 | m+1,r,v=>bif (tryP p v bad).isEmpty then (1,[],r,v) else bif decide (0<=q09 (q0k p v (tryP p v bad))) then nevF p ts bad m (r+1) (cutV (cutS p v ts (tryP p v bad)) v) else (2,q40 p (q0k p v (tryP p v bad)),r,v)
theorem y34 (l:List Int):(encZ l).isEmpty=l.isEmpty:=by cases l <;> rfl
theorem w4d {p:Prg} {g:List (List Int)} (h:g≠[]):(q40 p g).isEmpty=false:=by
 have h1:=q4p p g;unfold q40;cases hc:canF p g with
 | nil=>
  rw [hc] at h1;cases g with
  | nil=>exact absurd rfl h
  | cons x g=>simp at h1
 | cons x l=>rfl
theorem y4p {k:Nat} (hk:1001000<=k) {p:Prg} (hp:FitP p) (ts:List (List Nd)) (hl:ts.length<=1000) (hc:∀ t∈ts,kindT p.wide p.vars t=2) (bad:List Nd) (hb:kindT p.wide p.vars bad=2) (n12 n13 n14:Int) (l2 l3:List PV) :
  ∀ (m n:Nat) (r:Int) (v:List Int),m<n->0<=r->r+m<=1000->OkV v->gsB p v=true ->
  y3c k n (q0i ts) (encT bad) (r+m) p.wide p.vars (encT p.start) (q0f p.cmds) n12 l2 n13 l3 n14 [] r (encZ v)=r96 (nevF p ts bad m r v).1 (encZ (nevF p ts bad m r v).2.1) (nevF p ts bad m r v).2.2.1 (encZ (nevF p ts bad m r v).2.2.2)
 | m,0,r,v,hn,hr,hm,hv,hgs=>by omega
 | m,n+1,r,v,hn,hr,hm,hv,hgs=>by
  obtain ⟨hs,hg,hnn⟩:=q2p hgs;have hpl:=z0u hp hv hgs bad;rw [v3r,x7 (by omega) hp hv hgs bad hb];simp only [x9j];rw [y34];cases he:(tryP p v bad).isEmpty
  ·obtain ⟨x,l,e,_⟩:=z70 hgs he;have h0:tryP p v bad≠[]:=by rw [e];simp
   simp only [cond_false];rw [x4x (by omega) hp hs hnn _ h0 (by omega)];simp only [w9q];rw [y34];cases hf:decide (0<=q09 (q0k p v (tryP p v bad)))
   ·have e1:z8x p (q0k p v (tryP p v bad))=q40 p (q0k p v (tryP p v bad)):=by unfold z8x;rw [hf];rfl
    have e2:(q40 p (q0k p v (tryP p v bad))).isEmpty=false:=w4d (by
     intro h
     have:=q2t p v (tryP p v bad)
     rw [h,e] at this;simp at this)
    rw [e1,e2];cases m with
    | zero=>simp only [nevF,he,hf,cond_false]
    | succ m=>simp only [nevF,he,hf,cond_false]
   ·have e1:z8x p (q0k p v (tryP p v bad))=[]:=by unfold z8x;rw [hf];rfl
    have hd:=x57 hgs he (of_decide_eq_true hf);rw [e1];simp only [List.isEmpty_nil,cond_true];cases m with
    | zero=>
     have e3:(r==r+((0:Nat):Int))=true:=by simp
     rw [e3];simp only [nevF,he,hf,cond_false,cond_true];rfl
    | succ m=>
     have e3:(r==r+((m+1:Nat):Int))=false:=by simp;omega
     rw [e3,w2u (by omega) hp hs hv hgs ts hl hc _ (by omega),hd];simp only [v4l,cond_false,cond_true];rw [q0g (by omega) (by omega),show r+((m+1:Nat):Int)=(r+1)+(m:Int) by omega];simp only [nevF,he,hf,cond_false,cond_true];exact y4p hk hp ts hl hc bad hb n12 n13 n14 l2 l3 m n (r+1) _ (by omega) (by omega) (by omega) (q67 hv) (z6u hgs _)
  ·cases m with
   | zero=>simp only [nevF,he,cond_true];rfl
   | succ m=>simp only [nevF,he,cond_true];rfl
theorem w36 {k:Nat} (n:Nat) (a b:List PV) (c d e f:Int) (g h:List PV) (i:Int) (j:List PV) (q:Int) (l:List PV) (v:List Int):x7f k (n+1) a b c d e f g h i j q l v.length (encZ v)=z26 k (n+1) a b c d e f g h i j q l (encZ v):=by
 rw [v3d,x3a,q0v]
theorem z90 {k:Nat} (hk:1001000<=k) {p:Prg} (hp:FitP p) (ts:List (List Nd)) (hl:ts.length<=1000) (hc:∀ t∈ts,kindT p.wide p.vars t=2) (bad:List Nd) (hb:kindT p.wide p.vars bad=2) (n12 n13:Int) (l2 l3:List PV) :
  ∀ (m n:Nat) (r:Int) (v:List Int),m+1<n->0<=r->r+m<=1000->OkV v->gsB p v=true ->
  z26 k n (q0i ts) (encT bad) (r+m) r p.wide p.vars (encT p.start) (q0f p.cmds) n12 l2 n13 l3 (encZ v)=r32 (nevF p ts bad m r v).1 (encZ (nevF p ts bad m r v).2.1) (nevF p ts bad m r v).2.2.1 (encZ (nevF p ts bad m r v).2.2.2) true
 | m,0,r,v,hn,hr,hm,hv,hgs=>by omega
 | m,n+1,r,v,hn,hr,hm,hv,hgs=>by
  obtain ⟨hs,hg,hnn⟩:=q2p hgs;have hpl:=z0u hp hv hgs bad;have hle:decide (r<=r+(m:Int))=true:=decide_eq_true (by omega);rw [x3a,hle,x7a (by omega) hp hv hgs bad hb];simp only [x9e,cond_true,Bool.not_not];cases he:(tryP p v bad).isEmpty
  ·obtain ⟨x,l,e,_⟩:=z70 hgs he;have h0:tryP p v bad≠[]:=by rw [e];simp
   have hal:=q2t p v (tryP p v bad);simp only [cond_false];rw [z9u (by omega) hp hs hnn _ (by omega)];simp only [w47];rw [z9v (by omega) _ (by omega)];simp only [w46];cases hf:decide (0<=q09 (q0k p v (tryP p v bad)))
   ·have hf0:=of_decide_eq_false hf;rw [decide_eq_true (show q09 (q0k p v (tryP p v bad))<0 by omega),x8r (by omega) hp hs (v:=v) _ h0 (by omega) hf0];simp only [w9i,cond_true];cases m with
    | zero=>simp only [nevF,he,hf,cond_false]
    | succ m=>simp only [nevF,he,hf,cond_false]
   ·have hf0:=of_decide_eq_true hf;have hd:=x57 hgs he hf0;rw [decide_eq_false (show ¬ q09 (q0k p v (tryP p v bad))<0 by omega)];simp only [cond_false];rw [q0g (by omega) (by omega)];cases m with
    | zero=>
     obtain ⟨n,rfl⟩:=k01 (k:=n) (by omega);rw [decide_eq_false (show ¬ r<r+((0:Nat):Int) by omega)];simp only [cond_false];rw [x3a,decide_eq_false (show ¬ r+1<=r+((0:Nat):Int) by omega)];simp only [nevF,he,hf,cond_false,cond_true];rw [show r+((0:Nat):Int)=r by omega];rfl
    | succ m=>
     rw [decide_eq_true (show r<r+((m+1:Nat):Int) by omega),w1c (by omega) hp hs hv hgs ts hl hc _ (by omega) hd];simp only [v4m,cond_true];rw [show r+((m+1:Nat):Int)=(r+1)+(m:Int) by omega];simp only [nevF,he,hf,cond_false,cond_true];exact z90 hk hp ts hl hc bad hb n12 n13 l2 l3 m n (r+1) _ (by omega) (by omega) (by omega) (q67 hv) (z6u hgs _)
  ·cases m with
   | zero=>simp only [nevF,he,cond_true];rfl
   | succ m=>simp only [nevF,he,cond_true];rfl
def nevB (p:Prg) (ts:List (List Nd)) (bad:List Nd) (b:Int):Bool:=q0h p&&(q2r p ts&&((kindT p.wide p.vars bad==2)&&(decide (0<=b)&&decide (b<=40))))
def nevR (p:Prg) (ts:List (List Nd)) (bad:List Nd) (b:Int):Fnd:=bif nevB p ts bad b then nevF p ts bad b.toNat 0 (q5m p ts bad) else (0,[],0,[])
theorem x8q {k:Nat} (hk:1000500<=k) (p:Prg) (hp:FitP p) (ts:List (List Nd)) (hl:ts.length<=1000) (ht:∀ t∈ts,t.length<=100) (bad:List Nd) (hb:bad.length<=100) (b:Int):c95 k p.wide p.vars (encT p.start) (q0f p.cmds) (q0i ts) (encT bad) b=r95 (nevB p ts bad b):=by
 obtain ⟨k,rfl⟩:=k01 (k:=k) (by omega);obtain ⟨k',rfl⟩:∃ j,k=j+1:=⟨k-1,by omega⟩;rw [n95,z3z (by omega) p hp];simp only [x0b,nevB];cases q0h p
 · rfl
 simp only [cond_true,Bool.true_and];rw [z9b (by omega) p _ _ ts hl ht];simp only [w42];cases q2r p ts
 · rfl
 simp only [cond_true,Bool.true_and];rw [q9h (by omega) _ _ _ _ bad (by omega)];simp only [z2e];cases (kindT p.wide p.vars bad==2)
 · rfl
 simp only [cond_true,Bool.true_and];rw [n178];simp only [ge_iff_le];cases decide (0<=b)
 · simp only [cond_false,x9s,Bool.false_and]
 · simp only [cond_true,x9s,Bool.true_and]
theorem x72 {k:Nat} (hk:1000500<=k) (p:Prg) (hp:FitP p) (ts:List (List Nd)) (hl:ts.length<=1000) (ht:∀ t∈ts,t.length<=100) (bad:List Nd) (hb:bad.length<=100) (b:Int):c97 k p.wide p.vars (encT p.start) (q0f p.cmds) (q0i ts) (encT bad) b=r97 (nevB p ts bad b):=by
 obtain ⟨k,rfl⟩:=k01 (k:=k) (by omega);rw [n97,z34 (by omega) p hp];simp only [x0c,nevB];cases q0h p
 · rfl
 simp only [cond_true,Bool.true_and];rw [z9t (by omega) p _ _ ts hl ht];simp only [w43];cases q2r p ts
 · rfl
 simp only [cond_true,Bool.true_and];rw [z2i (by omega) _ _ _ _ bad (by omega)];simp only [z6h];cases (kindT p.wide p.vars bad==2)
 · rfl
 simp only [cond_true,Bool.true_and];rw [q87 (by omega)];simp only [q74]
theorem z8p {p:Prg} {ts:List (List Nd)} {bad:List Nd} {b:Int} (h:nevB p ts bad b=true):q0h p=true /\ q2r p ts=true /\ kindT p.wide p.vars bad=2 /\ 0<=b /\ b<=40:=by
 simp only [nevB,Bool.and_eq_true,decide_eq_true_eq,beq_iff_eq] at h;exact ⟨h.1,h.2.1,h.2.2.1,h.2.2.2.1,h.2.2.2.2⟩
theorem x20 {p:Prg} {ts:List (List Nd)} (h:q2r p ts=true):ts.length<=8 /\ ∀ t∈ts,kindT p.wide p.vars t=2:=by
 simp only [q2r,Bool.and_eq_true,decide_eq_true_eq] at h;exact ⟨h.1,q65 h.2⟩
theorem y6t {k:Nat} (hk:1001200<=k) (p:Prg) (hp:FitP p) (ts:List (List Nd)) (hl:ts.length<=1000) (ht:∀ t∈ts,t.length<=100) (bad:List Nd) (hb:bad.length<=100) (b:Int) :
  c31 k p.wide p.vars (encT p.start) (q0f p.cmds) (q0i ts) (encT bad) b=r31 (nevR p ts bad b).1 (encZ (nevR p ts bad b).2.1) (nevR p ts bad b).2.2.1 (encZ (nevR p ts bad b).2.2.2) (nevB p ts bad b):=by
 obtain ⟨k,rfl⟩:=k01 (k:=k) (by omega);rw [n31,x8q (by omega) p hp ts hl ht bad hb b];simp only [v4q,nevR];cases hq:nevB p ts bad b
 ·rfl
 obtain ⟨hs,hpr,hkb,hb0,hb1⟩:=z8p hq;obtain ⟨hl8,hc⟩:=x20 hpr;simp only [Bool.not_true,cond_false,cond_true];obtain ⟨k,rfl⟩:=k01 (k:=k) (by omega);have e1:([PV.row 0 0 (q0i ts),PV.row 0 0 [PV.row 2 0 (encT bad)]]:List PV)=q9b [q0i ts,q0i [bad]]:=rfl;have e2:[q0i ts,q0i [bad]].flatten=q0i (ts++[bad]):=by simp [q0i]
 rw [n96,e1,x8f (by omega) _ (by simp) (by intro l h;simp at h;rcases h with rfl | rfl <;> simp <;> omega),e2];simp only [w98];rw [List.take_of_length_le (Nat.le_refl _),x86 (by omega) hp hs (ts++[bad]) (by simp;omega) (fun t h=>by
  rcases List.mem_append.1 h with h | h
  ·exact ht t h
  ·rw [List.mem_singleton.1 h];exact hb) (fun t h=>by
  rcases List.mem_append.1 h with h | h
  ·exact hc t h
  ·rw [List.mem_singleton.1 h];exact hkb)]
 simp only [w97];have h:=y4p (k:=k) (by omega) hp ts hl hc bad hkb 0 0 0 [] [] b.toNat k 0 (q5m p ts bad) (by omega) (by omega) (by omega) (z6z hs ts bad) (z6y hs ts bad);rw [show (0:Int)+(b.toNat:Int)=b by omega] at h;have h':y3c k k (q0i ts) (encT bad) b p.wide p.vars (encT p.start) (q0f p.cmds) 0 [] 0 [] 0 [] 0 (encZ (byL p (ts++[bad]) (q2b p)))=_:=h;rw [h'];simp only [v4r]
theorem x9d {k:Nat} (hk:1001200<=k) (p:Prg) (hp:FitP p) (ts:List (List Nd)) (hl:ts.length<=1000) (ht:∀ t∈ts,t.length<=100) (bad:List Nd) (hb:bad.length<=100) (b:Int) :
  c32 k p.wide p.vars (encT p.start) (q0f p.cmds) (q0i ts) (encT bad) b=r32 (nevR p ts bad b).1 (encZ (nevR p ts bad b).2.1) (nevR p ts bad b).2.2.1 (encZ (nevR p ts bad b).2.2.2) (nevB p ts bad b):=by
 obtain ⟨k,rfl⟩:=k01 (k:=k) (by omega);rw [n32,x72 (by omega) p hp ts hl ht bad hb b];simp only [v4s,nevR];cases hq:nevB p ts bad b
 ·rfl
 obtain ⟨hs,hpr,hkb,hb0,hb1⟩:=z8p hq;obtain ⟨hl8,hc⟩:=x20 hpr;simp only [Bool.not_true,cond_false,cond_true];rw [x5s (by omega) hs _ _ ts hl ht hc];simp only [w49,q0b,q0v];rw [y12 (by omega) hs _ _ bad hb hkb (z8d p ts (q8d hs)),x0p,q0b];have e1:cutV (whI p bad) (byL p ts (q2b p))=q5m p ts bad:=by unfold q5m;rw [x5p];rfl
 obtain ⟨k,rfl⟩:=k01 (k:=k) (by omega);rw [e1,w36];have h:=z90 (k:=k+1) (by omega) hp ts hl hc bad hkb 0 0 [] [] b.toNat (k+1) 0 (q5m p ts bad) (by omega) (by omega) (by omega) (z6z hs ts bad) (z6y hs ts bad);rw [show (0:Int)+(b.toNat:Int)=b by omega] at h;exact h
theorem x0x {bs:List Nat} (hc:CodeOK bs) {k:Nat} (hk:300<=k) {wide vars:Int} (hw:wide<=64) (hv:vars<=100) (l1 l2:List PV) {at':Int} (h0:0<=at') (h1:at'<=400000000) (s:W) :
  ∃ a2 s2 t,c93 k wide vars l1 l2 (encB bs) at' (wi s)=r93 (encB bs) a2 (wi s2) (encT t) /\ at'<=a2 /\ a2<=at'+2000 /\ t.length<=31:=by
 obtain ⟨k,rfl⟩:=k01 (k:=k) (by omega);rw [n93];obtain ⟨a2,s2,b,h,h2,h3⟩:=q3r hc (k:=k) (by omega) h0 (by omega) s 3;rw [h];simp only [q3n];cases b
 ·simp only [cond_false];rw [q92 (by omega)];simp only [x0f];obtain ⟨a3,s3,x,h,h4,h5,h6,_⟩:=q1w hc (k:=k) (by omega) (at':=a2) (by omega) (by omega) s2 (one1 vars);rw [h];simp only [q2s];obtain ⟨a4,s4,y,h,h7,h8,h9,_⟩:=q1w hc (k:=k) (by omega) (at':=a3) (by omega) (by omega) s3 3;rw [h];simp only [q2s];obtain ⟨a5,s5,z,h,h10,h11,_⟩:=q5f hc (k:=k) (by omega) (at':=a4) (by omega) (by omega) s4 [14,14,15] (by simp);have h':c177 k [PV.int .i64 14,PV.int .i64 14,PV.int .i64 15] (encB bs) a4 (wi s4)=_:=h;rw [h'];simp only [q75];rw [q4c,q4c];exact ⟨a5,s5,[(2,BitVec.ofInt 64 x),(1,BitVec.ofInt 64 y),(z,0#64)],rfl,by omega,by omega,by simp⟩
 ·simp only [cond_true];obtain ⟨a3,s3,t,h,h4,h5,h6⟩:=x73 hc (k:=k) (by omega) hw hv l1 l2 (d:=1) (by omega) (by omega) (at':=a2) (by omega) (by omega) s2;rw [h];simp only [w96];exact ⟨a3,s3,t,rfl,by omega,by omega,h6⟩
theorem w0f {bs:List Nat} (hc:CodeOK bs) {k:Nat} (hk:10<=k) {at':Int} (h0:0<=at') (h1:at'<=900000000) (s:W) :
  ∃ a2 s2 v,c94 k (encB bs) at' (wi s)=r94 (encB bs) a2 (wi s2) v:=by
 obtain ⟨k,rfl⟩:=k01 (k:=k) (by omega);rw [n94];obtain ⟨a5,s5,z,h,h10,h11,_⟩:=q5f hc (k:=k) (by omega) (at':=at') (by omega) (by omega) s [0,1,2,3,31,40,40,40,41] (by simp);have h':c177 k [PV.int .i64 0,PV.int .i64 1,PV.int .i64 2,PV.int .i64 3,PV.int .i64 31,PV.int .i64 40,PV.int .i64 40,PV.int .i64 40,PV.int .i64 41] (encB bs) at' (wi s)=_:=h;rw [h'];simp only [q75];exact ⟨a5,s5,z,rfl⟩
theorem x1i {bs:List Nat} (hc:CodeOK bs) {k:Nat} (hk:1001300<=k) :
  ∃ p ts bad b,c30 k (encB bs)=r30 p.wide p.vars (encT p.start) (q0f p.cmds) (q0i ts) (encT bad) b /\ FitP p /\ ts.length<=60 /\ (∀ t∈ts,t.length<=100) /\ bad.length<=31:=by
 obtain ⟨k,rfl⟩:=k01 (k:=k) (by omega);rw [n30];obtain ⟨a2,s2,p,v,h,h2,h3,hp,hv⟩:=x3h hc (k:=k) (by omega) (at':=0) (by omega) (by omega) 0#64;have h':c54 k (encB bs) 0 0=_:=h;rw [h'];simp only [w40];have hw:=hp.w;have hvv:=hp.v;obtain ⟨a3,s3,ts,h,h4,h5,h6,h7⟩:=x2z hc (k:=k) (by omega) (wide:=p.wide) (vars:=p.vars) (by omega) (by omega) (encT p.start) (q0f p.cmds) 2 (by omega) (by omega) (at':=a2) (by omega) (by omega) s2;rw [h];simp only [w41];obtain ⟨a4,s4,bad,h,h8,h9,h10⟩:=x0x hc (k:=k) (by omega) (wide:=p.wide) (vars:=p.vars) (by omega) (by omega) (encT p.start) (q0f p.cmds) (at':=a3) (by omega) (by omega) s3;rw [h];simp only [w48];obtain ⟨a5,s5,b,h⟩:=w0f hc (k:=k) (by omega) (at':=a4) (by omega) (by omega) s4;rw [h];simp only [v4p];exact ⟨p,ts,bad,b,rfl,hp,h6,h7,h10⟩
theorem w0v {bs:List Nat} (hc:CodeOK bs) {k:Nat} (hk:1001300<=k) :
  ∃ p v bad,c50 k (encB bs)=r50 p.wide p.vars (encT p.start) (q0f p.cmds) (encZ v) (encT bad) /\ FitP p /\ OkV v /\ bad.length<=31:=by
 obtain ⟨k,rfl⟩:=k01 (k:=k) (by omega);rw [n50];obtain ⟨a2,s2,p,v,h,h2,h3,hp,hv⟩:=x3h hc (k:=k) (by omega) (at':=0) (by omega) (by omega) 0#64;have h':c54 k (encB bs) 0 0=_:=h;rw [h'];simp only [w40];have hw:=hp.w;have hvv:=hp.v;obtain ⟨a4,s4,bad,h,h8,h9,h10⟩:=x0x hc (k:=k) (by omega) (wide:=p.wide) (vars:=p.vars) (by omega) (by omega) (encT p.start) (q0f p.cmds) (at':=a2) (by omega) (by omega) s2;rw [h];simp only [w48];exact ⟨p,v,bad,rfl,hp,hv,h10⟩
theorem x7b {g:List (List Int)} (h:GrOK g) {B:List Int} (hB:∀ x∈B,inG g.length x) {a:Int} (ha:inG g.length a) {m:Nat}:Way (q1z g) B m a↔∃ b∈B,Way g [a] m b:=by
 rw [y6q];constructor
 ·rintro ⟨b,hb,hw⟩
  exact ⟨b,hb,(x3m h.rows ha.1 (hB b hb).1).1 hw⟩
 ·rintro ⟨b,hb,hw⟩
  exact ⟨b,hb,(x3m h.rows ha.1 (hB b hb).1).2 hw⟩
theorem w4p {g:List (List Int)} (h:GrOK g) {A B:List Int} (hA:∀ x∈A,inG g.length x) (hB:∀ x∈B,inG g.length x):(wayT g A B).isEmpty=false↔∃ b∈B,∃ n,Way g A n b:=by
 obtain ⟨l2,d2⟩:=z03 h hB;rw [y18];have hbs:=q30 (farT g B) A (-1) (fun v hv=>(hA v hv).1) (fun h=>by omega);constructor
 ·intro h1;have hn:=of_decide_eq_false h1;rcases hbs with ⟨h2,_⟩ | ⟨h2,h3,_⟩
  ·unfold q1x at hn;omega
  ·rcases d2 _ (hA _ h2) with ⟨h4,_⟩ | ⟨_,h4,_⟩
   ·omega
   ·obtain ⟨b,hb,hw⟩:=(x7b h hB (hA _ h2)).1 h4;exact ⟨b,hb,_,y6q.2 ⟨_,h2,hw⟩⟩
 ·rintro ⟨b,hb,n,hw⟩
  obtain ⟨a,ha,hw⟩:=y6q.1 hw;have h3:=(x7b h hB (hA _ ha)).2 ⟨b,hb,hw⟩;have h4:0<=dAt (farT g B) a:=by
   rcases d2 a (hA _ ha) with ⟨_,h4⟩ | ⟨h4,_⟩
   ·exact absurd h3 (h4 n)
   ·exact h4
  apply decide_eq_false;rcases hbs with ⟨_,h5⟩ | ⟨h5,_⟩
  ·have:=(h5 a ha h4).1
   omega
  ·have:=(hA _ h5).1
   unfold q1x;omega
theorem w9c {p:Prg} (hp:FitP p) {v:List Int} (hv:OkV v) (hgs:gsB p v=true) (bad:List Nd):(tryP p v bad).isEmpty=!badB p v bad:=by
 obtain ⟨hs,hg,hn⟩:=q2p hgs;have h1:=w4p (y3w hp hs hv hn hg) (q37 hn hg) (z8c hn hg bad);have h2:=w2n p v bad;have h3:(tryP p v bad).isEmpty=false↔badB p v bad=true:=by
  rw [show (tryP p v bad)=wayT (clG p v) (q1i p v) (badC p v bad) from rfl,h1,h2];constructor
  ·rintro ⟨b,hb,n,hw⟩
   obtain ⟨x,hx,rfl⟩:=(q49 v (whI p bad) b).1 hb;exact ⟨x,hx,(y46 hp hs hv hn hg _).2 ⟨n,hw⟩⟩
  ·rintro ⟨x,hx,hr⟩
   obtain ⟨n,hw⟩:=(y46 hp hs hv hn hg _).1 hr;exact ⟨_,(q49 v (whI p bad) _).2 ⟨x,hx,rfl⟩,n,hw⟩
 cases he:(tryP p v bad).isEmpty
 ·rw [h3.1 he];rfl
 ·cases hb:badB p v bad
  ·rfl
  ·have:=h3.2 hb
   rw [he] at this;cases this
def tnR (p:Prg) (v:List Int) (bad:List Nd):List Int:=bif ssB p v bad then tryP p v bad else []
theorem x0r {k:Nat} (hk:1001000<=k) (p:Prg) (hp:FitP p) {v:List Int} (hv:OkV v) (bad:List Nd) (hb:bad.length<=100):c51 k p.wide p.vars (encT p.start) (q0f p.cmds) (encZ v) (encT bad)=r51 (encZ (tnR p v bad)) (!(tnR p v bad).isEmpty):=by
 obtain ⟨k,rfl⟩:=k01 (k:=k) (by omega);have hvl:=hv.len;rw [n51,q8l (by omega) p hp v (by omega)];simp only [x7x,tnR,ssB];cases hgs:gsB p v
 · rfl
 simp only [Bool.not_true,cond_false,Bool.true_and];rw [q9h (by omega) _ _ _ _ bad (by omega)];simp only [z2e];cases hq:(kindT p.wide p.vars bad==2)
 · rfl
 simp only [Bool.not_true,cond_false,cond_true];rw [x7 (by omega) hp hv hgs bad (by simpa using hq)];simp only [x9j];cases tryP p v bad with
 | nil=>rfl
 | cons x l=>rfl
theorem x0s {k:Nat} (hk:1001000<=k) (p:Prg) (hp:FitP p) {v:List Int} (hv:OkV v) (bad:List Nd) (hb:bad.length<=100):c52 k p.wide p.vars (encT p.start) (q0f p.cmds) (encZ v) (encT bad)=r52 (encZ (tnR p v bad)) (!(tnR p v bad).isEmpty):=by
 obtain ⟨k,rfl⟩:=k01 (k:=k) (by omega);have hvl:=hv.len;rw [n52,z4z (by omega) p hp v (by omega)];simp only [x9k,tnR,ssB];cases hgs:gsB p v
 · rfl
 simp only [Bool.not_true,cond_false,Bool.true_and];rw [z2i (by omega) _ _ _ _ bad (by omega)];simp only [z6h];cases hq:(kindT p.wide p.vars bad==2)
 · rfl
 simp only [Bool.not_true,cond_false,cond_true];rw [x7a (by omega) hp hv hgs bad (by simpa using hq)];simp only [x9e]
theorem w1n (p:Prg) (ts:List (List Nd)) (bad:List Nd):∀ (m:Nat) (r:Int) (v:List Int),r<=(nevF p ts bad m r v).2.2.1
 | 0,r,v=>by
  unfold nevF;cases (tryP p v bad).isEmpty
  ·cases decide (0<=q09 (q0k p v (tryP p v bad))) <;> exact Int.le_refl _
  ·exact Int.le_refl _
 | m+1,r,v=>by
  unfold nevF;cases (tryP p v bad).isEmpty
  ·cases decide (0<=q09 (q0k p v (tryP p v bad)))
   ·exact Int.le_refl _
   ·have:=w1n p ts bad m (r+1) (cutV (cutS p v ts (tryP p v bad)) v)
    simp only [cond_false,cond_true];omega
  ·exact Int.le_refl _
theorem x2h (p:Prg) (ts:List (List Nd)) (bad:List Nd):∀ (n m:Nat) (r:Int) (v:List Int),n<=m ->
  ((nevF p ts bad n r v).1≠3->nevF p ts bad n r v=nevF p ts bad m r v) /\ ((nevF p ts bad n r v).1=3->(nevF p ts bad n r v).2.2.1=r+n /\ ((nevF p ts bad m r v).1≠3->r+n<(nevF p ts bad m r v).2.2.1))
 | 0,0,r,v,h=>by
  refine ⟨fun _=>rfl,fun h3=>⟨?_,fun h4=>absurd h3 h4⟩⟩;revert h3;unfold nevF;cases (tryP p v bad).isEmpty
  ·cases decide (0<=q09 (q0k p v (tryP p v bad)))
   ·intro h3;simp at h3
   ·intro _;simp
  ·intro h3;simp at h3
 | 0,m+1,r,v,h=>by
  have hge:=w1n p ts bad m (r+1) (cutV (cutS p v ts (tryP p v bad)) v);unfold nevF;cases (tryP p v bad).isEmpty
  ·cases decide (0<=q09 (q0k p v (tryP p v bad)))
   ·simp
   ·simp only [cond_false,cond_true];refine ⟨fun h3=>absurd rfl h3,fun _=>⟨by simp,fun _=>by omega⟩⟩
  ·simp
 | n+1,0,r,v,h=>by omega
 | n+1,m+1,r,v,h=>by
  have ih:=x2h p ts bad n m (r+1) (cutV (cutS p v ts (tryP p v bad)) v) (by omega);unfold nevF;cases (tryP p v bad).isEmpty
  ·cases decide (0<=q09 (q0k p v (tryP p v bad)))
   ·simp
   ·simp only [cond_false,cond_true];refine ⟨ih.1,fun h3=>?_⟩;obtain ⟨i1,i2⟩:=ih.2 h3;exact ⟨by omega,fun h4=>by have:=i2 h4;omega⟩
  ·simp
theorem x6g {p:Prg} (hp:FitP p) (ts:List (List Nd)) (bad:List Nd):∀ (m:Nat) (r:Int) (v:List Int),OkV v->gsB p v=true->(nevF p ts bad m r v).2.1.length<=1000 /\ OkV (nevF p ts bad m r v).2.2.2 /\ gsB p (nevF p ts bad m r v).2.2.2=true
 | 0,r,v,hv,hg=>by
  have h1:=z0u hp hv hg bad;have h2:=y8m p (q0k p v (tryP p v bad));have h3:=q2t p v (tryP p v bad);unfold nevF;cases (tryP p v bad).isEmpty
  ·cases decide (0<=q09 (q0k p v (tryP p v bad)))
   ·exact ⟨by simp only [cond_false];omega,hv,hg⟩
   ·exact ⟨by simp,hv,hg⟩
  ·exact ⟨by simp,hv,hg⟩
 | m+1,r,v,hv,hg=>by
  have h1:=z0u hp hv hg bad;have h2:=y8m p (q0k p v (tryP p v bad));have h3:=q2t p v (tryP p v bad);unfold nevF;cases (tryP p v bad).isEmpty
  ·cases decide (0<=q09 (q0k p v (tryP p v bad)))
   ·exact ⟨by simp only [cond_false];omega,hv,hg⟩
   ·exact x6g hp ts bad m (r+1) _ (q67 hv) (z6u hg _)
  ·exact ⟨by simp,hv,hg⟩
theorem x2g {p:Prg} (hp:FitP p) (ts:List (List Nd)) (bad:List Nd) (b:Int):(nevR p ts bad b).2.1.length<=1000 /\ (nevR p ts bad b).2.2.2.length<=100:=by
 unfold nevR;cases hq:nevB p ts bad b
 ·simp
 ·obtain ⟨hs,_⟩:=z8p hq;obtain ⟨h1,h2,_⟩:=x6g hp ts bad b.toNat 0 (q5m p ts bad) (z6z hs ts bad) (z6y hs ts bad);exact ⟨h1,h2.len⟩
theorem y49 {k:Nat} (hk:1000100<=k) (q:Fnd) (h1:q.2.1.length<=1000) (h2:q.2.2.2.length<=100):c35 k q.1 (encZ q.2.1) q.2.2.1 (encZ q.2.2.2) q.1 (encZ q.2.1) q.2.2.1 (encZ q.2.2.2)=r35 true:=by
 obtain ⟨k,rfl⟩:=k01 (k:=k) (by omega);rw [n35];simp only [beq_self_eq_true,cond_true];rw [z1w (by omega) _ _ (by omega),z1w (by omega) _ _ (by omega)];simp only [w4u,decide_true,cond_true]
theorem v2s {k:Nat} (hk:1002000<=k) {more:List Nat} (hm:CodeOK more):(R50 (c50 k (encB more)) fun v11 v12 l11 l12 l13 l14=>
      R51 (c51 k v11 v12 l11 l12 l13 l14) fun l15 b7=>
      R52 (c52 k v11 v12 l11 l12 l13 l14) fun l16 b8=>
      R53 (c53 k v11 v12 l11 l12 l13 l14) fun b9 b10=>
      bif (b7==b8) then
      R15 (c15 k l15 l16) fun b11=>
      bif b11 then
      bif !b10 then
      r8 true
      else r8 (b9==!b7)
      else r8 false
      else r8 false)=r8 true:=by
 obtain ⟨p,v,bad,h,hp,hv,hb⟩:=w0v hm (k:=k) (by omega);have hlen:(tnR p v bad).length<=1000:=by
  unfold tnR;cases hss:ssB p v bad
  ·simp
  ·simp only [ssB,Bool.and_eq_true] at hss;exact z0u hp hv hss.1 bad
 rw [h];simp only [v4g];rw [x0r (by omega) p hp hv bad (by omega),x0s (by omega) p hp hv bad (by omega)];simp only [v4h,v4i];rw [y9p (by omega) p hp hv bad (by omega)];simp only [v4j,beq_self_eq_true,cond_true];rw [z1w (by omega) _ _ (by omega)];simp only [w4u,decide_true,cond_true];cases hss:ssB p v bad
 ·rfl
 ·have hs2:=hss;simp only [ssB,Bool.and_eq_true] at hs2;have e:tnR p v bad=tryP p v bad:=by unfold tnR;rw [hss];rfl
  rw [e,w9c hp hv hs2.1 bad];cases badB p v bad <;> rfl
theorem w56 {k:Nat} (hk:1048700<=k) (code more:List Nat) (hc:∀ b∈code,b<256) (hm:∀ b∈more,b<256):c8 k (encB code) (encB more)=r8 true:=by
 obtain ⟨k,rfl⟩:=k01 (k:=k) (by omega);rw [n8,v2e (by omega)];simp only [R9_r];cases hbig:(decide (code.length>1048576)||decide (more.length+code.length>1048576))
 rotate_left
 ·rfl
 simp only [cond_false];rw [Bool.or_eq_false_iff] at hbig;have hl:code.length<=1048576 /\ more.length<=1048576:=by
  have h1:=hbig.1;have h2:=hbig.2;simp at h1 h2;omega
 have hcc:CodeOK code:=⟨hl.1,hc⟩;have hmm:CodeOK more:=⟨hl.2,hm⟩;have hend:=v2s (k:=k) (by omega) hmm;obtain ⟨p,ts,bad,b,h,hp,htl,ht,hb⟩:=x1i hcc (k:=k) (by omega);obtain ⟨hl1,hl2⟩:=x2g hp ts bad b;rw [h];simp only [v4d];rw [y6t (by omega) p hp ts (by omega) ht bad (by omega) b,x9d (by omega) p hp ts (by omega) ht bad (by omega) b];simp only [w4y,v4e,beq_self_eq_true,Bool.not_true,cond_false];rw [y49 (by omega) _ hl1 hl2];simp only [w4z,Bool.not_true,cond_false];cases hq:nevB p ts bad b
 ·simp only [cond_false];exact hend
 obtain ⟨hs,hpr,hkb,hb0,hb1⟩:=z8p hq;obtain ⟨z,hz,hz0,hz1⟩:=x4j (k:=k) (by omega) hmm;simp only [cond_true];rw [hz];simp only [v4f];rw [q0g (by omega) (by omega),beq_eq_false_iff_ne.2 (show b+1≠0 by omega)];simp only [Bool.not_false,cond_true];have hm0:0<=z.tmod (b+1):=Int.tmod_nonneg _ hz0;have hm1:z.tmod (b+1)<b+1:=Int.tmod_lt_of_pos _ (by omega)
 generalize z.tmod (b+1)=less at hm0 hm1
 have hq2:nevB p ts bad less=true:=by
  simp only [nevB,hs,hpr,hkb,beq_self_eq_true,Bool.true_and,Bool.and_eq_true,decide_eq_true_eq];omega
 obtain ⟨hl3,hl4⟩:=x2g hp ts bad less;rw [y6t (by omega) p hp ts (by omega) ht bad (by omega) less,hq2];simp only [w4y,Bool.not_true,cond_false];have e1:nevR p ts bad less=nevF p ts bad less.toNat 0 (q5m p ts bad):=by unfold nevR;rw [hq2];rfl
 have e2:nevR p ts bad b=nevF p ts bad b.toNat 0 (q5m p ts bad):=by unfold nevR;rw [hq];rfl
 obtain ⟨m1,m2⟩:=x2h p ts bad less.toNat b.toNat 0 (q5m p ts bad) (by omega);rw [<- e1,<- e2] at m1 m2;by_cases h3:(nevR p ts bad less).1=3
 ·obtain ⟨m3,m4⟩:=m2 h3;have e3:(nevR p ts bad less).2.2.1=less:=by omega
  rw [h3,e3];simp only [bne_self_eq_false,beq_self_eq_true,cond_false,cond_true];by_cases h4:(nevR p ts bad b).1=3
  ·rw [h4];simp only [bne_self_eq_false,cond_false];exact hend
  ·have:=m4 h4
   rw [show ((nevR p ts bad b).1 != 3)=true by simpa using h4,decide_eq_false (show ¬ (nevR p ts bad b).2.2.1<=less by omega)];simp only [cond_true,cond_false];exact hend
 ·have e3:=m1 h3;rw [show ((nevR p ts bad less).1 != 3)=true by simpa using h3,show ((nevR p ts bad less).1==3)=false by simpa using h3];simp only [cond_true,cond_false];rw [e3,y49 (by omega) _ hl1 hl2];simp only [w4z,Bool.not_true,cond_false];exact hend
theorem y4j (code more:List Int) (hc:∀ n∈code,(Lit.int .u8 n).wf=true) (hm:∀ n∈more,(Lit.int .u8 n).wf=true):Contract Tryz.prog 8 (([.row 0 0 (ints .u8 code),.row 0 0 (ints .u8 more)]:List PV).map .p) [] ([.c (.p (.bool true))],[]):=by
 obtain ⟨e1,h1⟩:=y71 code hc;obtain ⟨e2,h2⟩:=y71 more hm;rw [e1,e2];exact q4j z3k pOK (T:=T) hT 1048700 (w56 (k:=1048700) (Nat.le_refl _) _ _ h1 h2)
end Go.Proofs.YtgdegfijcijnoaaGreat
namespace Go.Proofs.YtgdegfijcijnoaaGreat.fnMoreRounds
open Go.ChangeShapes Go.WideShapes Go.ChangeAt Go.RowKit Go.Dp
open Go.ChangeMaps (open_string shut_string)
theorem own:ownKnob Tryz.prog.godebug=none:=by kernel_rfl
theorem laidOut:laidOutB Tryz.prog=true:=by kernel_rfl
theorem y8t {P:Program} {w:World} {r:Reach} {base:Nat} {t e:TypeId} {x:Addr} {len cap:Nat} (ht:P.underlying t=some (.slice e)) (h:Value.okWide P w r base t (.slice (some x) len cap)):x.spot=none:=by
 simp only [Value.okWide,ht,Cell.okWide,Cell.ok] at h;exact h.2.2.2.1
theorem lifted (os:Os) (started:os.Started) (H:Type) (enc:TypeId × Value->H) :
   ReturnsInHanded {} Tryz.checked os 8 .any (Rows.fnMoreRoundsSpec.pre6 enc Tryz.prog Tryz.f8 Rows.fnMoreRoundsRow.domain false) (Rows.fnMoreRoundsSpec.post enc Tryz.prog Tryz.f8 false true false false):=by
 refine returnsInHanded_of_change_sized (C:=Tryz.checked) own started (by kernel_rfl) Tryz.func8
   (ChangeSpec.witness6 (enc:=enc) (C:=Tryz.checked) false ⟨#[],#[.slice none 0 0,.slice none 0 0],[]⟩ 8 (by kernel_rfl) (by kernel_rfl) (by kernel_rfl) (by kernel_rfl)) ?_
 intro W base args ds gs before hval0 hW hcnd hsz0 _;have hval:∀ (j:Nat) t v,Tryz.f8.params[j]? = some t->args[j]? = some v->Value.okWide Tryz.prog W .any base t v:=hval0;have hW':=hW;obtain ⟨p,q,hA0,hV,rfl,hfz,hnd⟩:=hW;have hA:DataW.TrodAll enc Tryz.prog W 0 (fun _=>true) true Tryz.f8.params.toList args.toList ds p:=hA0;rw [Tryz.params8] at hA hval;obtain ⟨v0,vs0,d0,ds0,p0,q0,hargs,rfl,rfl,h0,r0⟩:=trodAll_cons hA;obtain ⟨v1,vs1,d1,ds1,p1,q1,rfl,rfl,rfl,h1,r1⟩:=trodAll_cons r0;obtain ⟨rfl,rfl,rfl⟩:=trodAll_nil r1;obtain rfl:args=#[v0,v1]:=by cases args;simp_all
 obtain ⟨rfl,rfl⟩:=trodVars_none hV;have o0:=hval 0 22 v0 rfl rfl;obtain ⟨a0,len0,cap0,rfl⟩:=okWide_slice Tryz.underlying22 o0;have k0:=h0;have lt0:∀ x∈p0,x.block<W.heap.size:=by obtain ⟨m,hm⟩:=k0;exact DataW.trod_lt m _ _ _ hm
 obtain ⟨z0,w0⟩:∃ zs,IsRow .u8 W a0 len0 cap0 zs:=by
   obtain ⟨fuel,hf⟩:=h0;rcases open_ints Tryz.underlying22 Tryz.underlying5 (by kernel_rfl) hf with ⟨hcs,_⟩ | ⟨x,l,c,zs,hcs,_,hl,hm,hz,_,hcell,hwz⟩
   · simp [Value.cells] at hcs;obtain ⟨rfl,rfl,rfl⟩:=hcs;exact ⟨[],.inl ⟨rfl,rfl,rfl,rfl⟩⟩
   · simp [Value.cells] at hcs;obtain ⟨rfl,rfl,rfl⟩:=hcs;exact ⟨zs,.inr ⟨_,rfl,y8t Tryz.underlying22 o0,hl,hm,by simpa using hz,hcell,hwz⟩⟩
 have o1:=hval 1 22 v1 rfl rfl;obtain ⟨a1,len1,cap1,rfl⟩:=okWide_slice Tryz.underlying22 o1;have k1:=h1;have lt1:∀ x∈p1,x.block<W.heap.size:=by obtain ⟨m,hm⟩:=k1;exact DataW.trod_lt m _ _ _ hm
 obtain ⟨z1,w1⟩:∃ zs,IsRow .u8 W a1 len1 cap1 zs:=by
   obtain ⟨fuel,hf⟩:=h1;rcases open_ints Tryz.underlying22 Tryz.underlying5 (by kernel_rfl) hf with ⟨hcs,_⟩ | ⟨x,l,c,zs,hcs,_,hl,hm,hz,_,hcell,hwz⟩
   · simp [Value.cells] at hcs;obtain ⟨rfl,rfl,rfl⟩:=hcs;exact ⟨[],.inl ⟨rfl,rfl,rfl,rfl⟩⟩
   · simp [Value.cells] at hcs;obtain ⟨rfl,rfl,rfl⟩:=hcs;exact ⟨zs,.inr ⟨_,rfl,y8t Tryz.underlying22 o1,hl,hm,by simpa using hz,hcell,hwz⟩⟩
 clear hA0 hval0 hsz0;refine (w3b (P:=Tryz.prog) (f:=8) (vs:=[.row 0 0 (ints .u8 (z0.take len0)),.row 0 0 (ints .u8 (z1.take len1))]) (ys:=[.slice a0 len0 cap0,.slice a1 len1 cap1]) rfl ?_ (y4j (z0.take len0) (z1.take len1) (fun n hn=>w0.wf n (List.mem_of_mem_take hn)) (fun n hn=>w1.wf n (List.mem_of_mem_take hn)))).mono fun e W' ⟨he,bel⟩=>?_
 · intro i a y ha hy;cases i with
   | zero=>simp at ha hy;subst ha;subst hy;exact w0.rp
   | succ i=>
     cases i with
     | zero=>simp at ha hy;subst ha;subst hy;exact w1.rp
     | succ i=>
       simp at ha
 subst he;exact ⟨_,rfl,_,_,_,[],_,[],hW',trodAll_mk1 (shut_bool Tryz.underlying4 _),(trodAll_cons_mk (Below.trod laidOut (by kernel_rfl) (of_decide_eq_true (by kernel_rfl)) k0 bel lt0) (trodAll_cons_mk (Below.trod laidOut (by kernel_rfl) (of_decide_eq_true (by kernel_rfl)) k1 bel lt1) trodAll_mk0)),rfl,bel.frame _,fun h=>by cases h⟩
theorem named:Tryz.pinned.checked.prog.funcNamed Rows.fnMoreRoundsRow.func=some 8:=by kernel_rfl
theorem closed:joinedFacts Tryz.pinned.checked.prog 8 Tryz.f8 Rows.fnMoreRoundsSpec Rows.fnMoreRoundsRow=true:=by kernel_rfl
theorem inst:Tryz.f8.isInstance Tryz.pinned.checked.prog Rows.fnMoreRoundsRow.origin Rows.fnMoreRoundsRow.targs:=of_decide_eq_true (by kernel_rfl)
theorem wrap:Tryz.f8.isWrapper Tryz.pinned.checked.prog Rows.fnMoreRoundsRow.wrapper Rows.fnMoreRoundsRow.mainSum:=by unfold Func.isWrapper;first | (rw [if_pos (by decide +kernel)];kernel_rfl) | (rw [if_neg (by decide +kernel)];exact ⟨rfl,rfl⟩)
theorem over:Rows.fnMoreRoundsRow.holds Tryz.pinned (OpenSpec.ofChange Rows.fnMoreRoundsSpec) :=
 OpenClaim.holds_of_wide 8 Tryz.f8 rfl rfl rfl rfl rfl rfl rfl ⟨rfl,rfl,rfl,rfl,rfl⟩ rfl rfl rfl rfl rfl named Tryz.func8 closed inst wrap
  (fun os started H enc _=>lifted os started H enc)
theorem proved:Rows.FnMoreRoundsSaid:=over
end Go.Proofs.YtgdegfijcijnoaaGreat.fnMoreRounds
namespace Go.Proofs.YtgdegfijcijnoaaGreat
theorem fnMoreRounds_holds:Rows.FnMoreRoundsSaid:=fnMoreRounds.proved
#print axioms fnMoreRounds_holds
end Go.Proofs.YtgdegfijcijnoaaGreat
