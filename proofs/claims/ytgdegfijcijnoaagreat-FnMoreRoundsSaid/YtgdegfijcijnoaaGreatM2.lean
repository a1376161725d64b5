/- Dp18; Dp19; Dp20; Dp21; Dp22; Dp23; Ka; Row0; Aa: texts put together. -/
import Derived.Test.YtgdegfijcijnoaaGreatM1
import Derived.Below
import Derived.Laws.Externs
import Derived.Lib.Bytealg
import Derived.IntWalk
set_option linter.all false
set_option maxRecDepth 100000
namespace Go.Dp
section
variable {P:Program} {E:Env} {w w':World} {Im Im':Nat->Prop} {ρ ρ':Nat->Option Value} {o o':List AObj} {r:List SV × List (List CV)} {t:List AV} {a:Act} {B:Base} {C:Ctx} {L:List Nat} {ops:Array Oper} {bs:List Nat} {lz:Bool} {late:Nat->Option Nat}
def Prom (P:Program) (ops:Array Oper) (oo:Oper) (ids:List Nat) (v:AV) (t:List AV) (o:List AObj):Prop :=
 ∀ o',AgreeO ids o o'->∀ (w:World) (Im:Nat->Prop) (ρ:Nat->Option Value) (a:Act),SR w Im ρ o'->(∀ x∈looksT ops oo,RA w Im ρ o' (getT t x) (a.tmps.getD x undef)) ->
  ∃ y,RA w Im ρ o' v y /\ ((Region.wanted oo (yielded ops a.tmps)=true /\ (execOp a.eval oo).run P w=.ok (.value y) w)∨(Region.wanted oo (yielded ops a.tmps)=false /\ y=undef))
theorem z8b (x:Operand) (h:∀ i,x=.tmp i->RA w Im ρ o (getT t i) (a.tmps.getD i undef)):RA w Im ρ o (aval t x) (a.eval x):=by
 cases x with
 | tmp i=>exact h i rfl
 | const v=>
  simp only [aval,Act.eval];unfold constAV;split
  ·exact RP.int _ _
  ·exact RP.bool _
  ·exact RP.str _
  ·exact RP.nil _ _ (by decide)
  ·trivial
 | global g=>trivial
 | func f=>exact ⟨#[],rfl,rfl,fun i id h=>by simp at h⟩
theorem z36 {oo:Oper} {x:Operand} (h:x∈oo.op.operands.toList) {i:Nat} (hi:x=.tmp i):i∈looksT ops oo:=by
 subst hi;exact List.mem_append_left _ (List.mem_filterMap.2 ⟨.tmp i,h,rfl⟩)
theorem w5d (hE:EnvOK P C.E) {oo:Oper} (hq:quietO oo=true) (t:List AV) (o:List AObj):(∀ K,stepOp C oo ⟨t,o⟩ K=none)∨∃ v,(∀ K,stepOp C oo ⟨t,o⟩ K=K ⟨putD t oo.dst v,o⟩) /\
  ∀ o',AgreeO (idsQ t oo.op) o o'->∀ (w:World) (Im:Nat->Prop) (ρ:Nat->Option Value) (a:Act),SR w Im ρ o'->(∀ x∈oo.op.operands.toList,RA w Im ρ o' (aval t x) (a.eval x))->∃ y,RA w Im ρ o' v y /\ (execOp a.eval oo).run P w=.ok (.value y) w:=by
 unfold stepOp;split
 ·rename_i c x y hop;rcases q83 c t with h | ⟨b,hb,h⟩
  ·left;intro K;exact h _
  ·right;refine ⟨aval t (bif b then x else y),fun K=>h _,?_⟩
   intro o' _ w Im ρ a hs av;have hc:=av c (by rw [hop];simp [Op.operands]);rw [hb] at hc;have hc':a.eval c=.bool b:=RA.bool (a:=.p (.bool b)) rfl hc;refine ⟨if b=true then a.eval x else a.eval y,?_,by simp [execOp,hop,hc',asBool]⟩;cases b
   ·exact av y (by rw [hop];simp [Op.operands])
   ·exact av x (by rw [hop];simp [Op.operands])
 ·rename_i c hop;have hqs:q1k oo.op=true:=by unfold quietO at hq;rw [hop] at hq ⊢;exact hq
  have hnv:∀ f,c.callee≠.value f:=by intro f hf;rw [hop] at hqs;simp [q1k,hf] at hqs
  split
  ·rename_i f hf;exact absurd hf (hnv f)
  ·rcases y7u (E:=C.E.on C.self) (t:=t) (o:=o) hqs with h | ⟨v,h⟩
   ·left;intro K;exact h _
   ·right;refine ⟨v,fun K=>h o (fun _ _=>rfl) _,?_⟩
    intro o' hag w Im ρ a hs av
    classical
    obtain ⟨v2,y,hk,hr,hra⟩:=z1h (K:=fun v' _=>if v'=v then some ([],[]) else none) (r:=([],[])) (hE.on C.self) hs oo rfl av hqs ((h o' hag _).trans (by simp))
    have:v2=v:=by
     by_cases e:v2=v
     ·exact e
     ·simp [e] at hk
    subst this;exact ⟨y,hra,hr⟩
 ·rename_i hnp hnc;have hqs:q1k oo.op=true:=by
   unfold quietO at hq;split at hq
   ·rename_i c x y e;exact absurd e (hnp c x y)
   ·exact hq
  rcases y7u (E:=C.E.on C.self) (t:=t) (o:=o) hqs with h | ⟨v,h⟩
  ·left;intro K;exact h _
  ·right;refine ⟨v,fun K=>h o (fun _ _=>rfl) _,?_⟩
   intro o' hag w Im ρ a hs av
   classical
   obtain ⟨v2,y,hk,hr,hra⟩:=z1h (K:=fun v' _=>if v'=v then some ([],[]) else none) (r:=([],[])) (hE.on C.self) hs oo rfl av hqs ((h o' hag _).trans (by simp))
   have:v2=v:=by
    by_cases e:v2=v
    ·exact e
    ·simp [e] at hk
   subst this;exact ⟨y,hra,hr⟩
theorem v2m (hE:EnvOK P C.E) {oo:Oper} (hq:quietO oo=true) (t:List AV) (o:List AObj):(∀ K,guarded C ops oo ⟨t,o⟩ K=none)∨∃ v,(∀ K,guarded C ops oo ⟨t,o⟩ K=K ⟨putD t oo.dst v,o⟩) /\ Prom P ops oo (idsQ t oo.op) v t o:=by
 unfold guarded;split
 ·rename_i hg;rcases w5d hE hq t o with h | ⟨v,h,hp⟩
  ·exact .inl h
  ·right;refine ⟨v,h,fun o' hag w Im ρ a hs hra=>?_⟩
   obtain ⟨y,h1,h2⟩:=hp o' hag w Im ρ a hs (fun x hx=>z8b x fun i hi=>hra i (z36 hx hi));exact ⟨y,h1,.inl ⟨by simp [Region.wanted,hg],h2⟩⟩
 ·rename_i j want hg;split
  ·rename_i d hd;have hlk:d∈looksT ops oo:=by
    unfold looksT;rw [hg];refine List.mem_append_right _ ?_
    show d∈((ops[j]?).bind (·.dst)).toList
    rw [hd];simp
   cases hsk:skipped (getT t d) with
   | true=>
    right;exact ⟨.tup [],fun K=>by simp,fun o' hag w Im ρ a hs hra=>⟨undef,z79,.inr ⟨z25 hg hd hsk (hra d hlk),rfl⟩⟩⟩
   | false=>
   simp only [cond_false];rcases q83 (.tmp d) t with h | ⟨b,hb,h⟩
   ·left;intro K;exact h _
   ·have hb':getT t d=.p (.bool b):=hb;have want_of:∀ (w:World) (Im:Nat->Prop) (ρ:Nat->Option Value) (o':List AObj) (a:Act),RA w Im ρ o' (getT t d) (a.tmps.getD d undef)->Region.wanted oo (yielded ops a.tmps)=(b==want):=by
     intro w Im ρ o' a hgd;rw [hb'] at hgd;have hv:a.tmps.getD d undef=.bool b:=RA.bool (a:=.p (.bool b)) rfl hgd;have hy:yielded ops a.tmps j=some b:=by
      unfold yielded;rw [hd];simp only [Option.bind_some];rw [Array.getD_eq_getD_getElem?] at hv;cases hq:a.tmps[d]? with
      | none=>rw [hq] at hv;simp [undef] at hv
      | some v=>rw [hq] at hv;simp at hv;subst hv;rfl
     simp [Region.wanted,hg,hy]
    cases hw:b==want
    ·right;refine ⟨.tup [],fun K=>by rw [h];simp [hw],fun o' hag w Im ρ a hs hra=>⟨undef,z79,.inr ⟨?_,rfl⟩⟩⟩
     rw [want_of w Im ρ o' a (hra d hlk),hw]
    ·rcases w5d hE hq t o with h2 | ⟨v,h2,hp⟩
     ·left;intro K;rw [h];simp only [hw,cond_true];exact h2 K
     ·right;refine ⟨v,fun K=>by rw [h];simp only [hw,cond_true];exact h2 K,fun o' hag w Im ρ a hs hra=>?_⟩
      obtain ⟨y,h3,h4⟩:=hp o' hag w Im ρ a hs (fun x hx=>z8b x fun i hi=>hra i (z36 hx hi));exact ⟨y,h3,.inl ⟨by rw [want_of w Im ρ o' a (hra d hlk),hw],h4⟩⟩
  ·left;intro K;rfl
theorem x23 {oo:Oper} (h:y45 ops oo=true):quietO oo=true:=by
 unfold y45 at h;rw [Bool.and_eq_true] at h;exact h.1
theorem w54 {lz:Bool} {oo:Oper} (h:lazyB lz ops oo=true) (hl:q89 oo=false):quietO oo=true:=by
 unfold lazyB at h;split at h
 ·exact x23 h
 ·rw [hl] at h;simp only [Bool.false_and,Bool.or_false] at h;exact x23 h
def w4r (P:Program) (ops:Array Oper) (oo:Oper) (ids:List Nat) (n:Nat) (v:AV) (t:List AV) (o:List AObj):Prop :=
 ∀ o',AgreeO ids o o'->∀ (w:World) (Im:Nat->Prop) (ρ:Nat->Option Value) (a:Act),SR w Im ρ o'->ρ n=none->(∀ x∈looksT ops oo,RA w Im ρ o' (getT t x) (a.tmps.getD x undef)) ->
  ∃ y w' Im' ρ',Fill w Im ρ o' w' n Im' ρ' /\ RA w' Im' ρ' o' v y /\ Region.wanted oo (yielded ops a.tmps)=true /\ (execOp a.eval oo).run P w=.ok (.value y) w'
theorem v2l (hE:EnvOK P C.E) {oo:Oper} (hq:q89 oo=true) (t:List AV) (o:List AObj) (hp:z07 t oo.op=true) (hids:∀ id∈q4v t oo.op,id<o.length):(∀ K,guarded C ops oo ⟨t,o⟩ K=none)∨∃ v x,(∀ K,guarded C ops oo ⟨t,o⟩ K=K ⟨putD t oo.dst v,o++[x]⟩) /\ w4r P ops oo (o.length::q4v t oo.op) o.length v t (o++[x]):=by
 have hg:oo.guard=none:=by
  unfold q89 at hq;rw [Bool.and_eq_true] at hq;exact Option.isNone_iff_eq_none.1 hq.1
 rcases v5i (P:=P) (ops:=ops) hE hq t o hp hids with h | ⟨v,x,h,hf⟩
 ·exact .inl h
 ·right;refine ⟨v,x,h,fun o' hag w Im ρ a hs hn hra=>?_⟩
  obtain ⟨y,w',Im',ρ',h1,h2,h3⟩:=hf o' hag w Im ρ a hs hn (fun z hz=>z8b z fun i hi=>hra i (z36 hz hi));exact ⟨y,w',Im',ρ',h1,h2,by simp [Region.wanted,hg],h3⟩
def PromX (P:Program) (ops:Array Oper) (oo:Oper) (ids:List Nat) (l:Option Nat) (ρ:Nat->Option Value) (v:AV) (t:List AV) (o:List AObj):Prop :=
 match l with
 | none=>Prom P ops oo ids v t o
 | some n=>ρ n=none /\ w4r P ops oo ids n v t o
theorem PromX.mono {oo:Oper} {ids:List Nat} {l:Option Nat} {v:AV} (hm:∀ n,l=some n->ρ n=none->ρ' n=none) (h:PromX P ops oo ids l ρ v t o):PromX P ops oo ids l ρ' v t o:=by
 cases l with
 | none=>exact h
 | some n=>exact ⟨hm n rfl h.1,h.2⟩
theorem RA.compat (hi:∀ b,Im b->Im' b /\ w'.heap[b]? = w.heap[b]?) (hc:q1u ρ ρ' o o') {v:AV} {x:Value} (h:RA w Im ρ o v x):RA w' Im' ρ' o' v x:=by
 have hS:∀ (v:SV) x,RS w Im ρ o v x->RS w' Im' ρ' o' v x:=by
  intro v x hv;cases v with
  | c c=>exact RC.compat hi hc hv
  | agg cs=>obtain ⟨vs,rfl,h1,h2,h3⟩:=hv;exact ⟨vs,rfl,h1,fun i c y a b=>RC.compat hi hc (h2 i c y a b),h3⟩
 cases v with
 | s v=>exact hS v x h
 | tup ts=>obtain ⟨vs,rfl,h1,h2⟩:=h;exact ⟨vs,rfl,h1,fun i c y a b=>hS c y (h2 i c y a b)⟩
theorem z1f (x:AObj):q1u ρ ρ o (o++[x]):=by
 intro id a ha;have hlt:=(List.getElem?_eq_some_iff.1 ha).1;exact ⟨a,by rw [List.getElem?_append_left hlt];exact ha,by cases a <;> simp [q1f]⟩
theorem SR.push (hs:SR w Im ρ o) (x:AObj):SR w Im ρ (o++[x]):=by
 refine ⟨fun id a v ha hv=>?_,hs.inj,fun id v hv=>⟨by have:=(hs.lt id v hv).1;simp;omega,(hs.lt id v hv).2⟩,hs.im,fun id hd=>?_⟩
 ·have hlt:=(hs.lt id v hv).1;rw [List.getElem?_append_left hlt] at ha;exact RO.keep (fun b hb=>⟨hb,rfl⟩) (z1f x) (fun _ _=>rfl) (fun _ _ h=>h) (hs.ob id a v ha hv)
 ·cases hr:ρ id with
  | none=>rfl
  | some v=>
   have hlt:=(hs.lt id v hr).1;rw [List.getElem?_append_left hlt] at hd;rw [hs.dd id hd] at hr;cases hr
theorem SR.at_end (hs:SR w Im ρ o):ρ o.length=none:=by
 cases h:ρ o.length with
 | none=>rfl
 | some u=>have:=(hs.lt _ u h).1;omega
theorem Now.push (h:Now B w Im ρ o) (x:AObj):Now B w Im ρ (o++[x]):=⟨h.wd,h.sr.push x,h.fr,h.ow,h.im,h.imn,fun j b hj=>RB.compat (z1f x) (h.hd j b hj)⟩
theorem Now.fill (h:Now B w Im ρ o) {n:Nat} (st:Fill w Im ρ o w' n Im' ρ'):Now B w' Im' ρ' o:=by
 refine ⟨h.wd.trans st.wd,st.sr,?_,?_,?_,?_,fun j b hj=>st.keep (.bptr j 0) _ (h.hd j b hj)⟩
 ·intro b hb hd;rw [st.fr b (Nat.lt_of_lt_of_le hb h.wd.size),h.fr b hb hd]
 ·rintro b ⟨id,v,hv,hb⟩
  rcases st.ow id v b hv hb with h1 | h1
  ·exact .inl (Nat.le_trans h.wd.size h1)
  ·exact h.ow b h1
 ·intro b hb;have h1:=h.im b hb;have h2:=st.im b h1.1;exact ⟨h2.1,h2.2.trans h1.2⟩
 ·intro b hb;rcases st.imn b hb with h1 | h1
  ·exact h.imn b h1
  ·exact .inr (.inl (Nat.le_trans h.wd.size h1))
theorem z8 {p:Oper × Nat->Bool} (h:ops.toList.zipIdx.all p=true) {i:Nat} {oo:Oper} (hi:ops[i]? = some oo):p (oo,i)=true:=by
 rw [List.all_eq_true] at h;refine h (oo,i) ?_;rw [List.mem_iff_getElem?];exact ⟨i,by rw [List.getElem?_zipIdx,Array.getElem?_toList,hi];simp⟩
theorem y7v {bs:List Nat} {k:Nat}:∀ (l:List Nat) (s:Nat),(l.foldl (fun s e=>s ||| 2 ^ e ||| bitsOf bs e) s).testBit k=true->s.testBit k=true∨∃ e∈l,k=e∨(bitsOf bs e).testBit k=true
 | [],s,h=>.inl h
 | e::l,s,h=>by
  rw [List.foldl_cons] at h;rcases y7v l _ h with h1 | ⟨e',h1,h2⟩
  ·simp only [Nat.testBit_or,Bool.or_eq_true,Nat.testBit_two_pow,decide_eq_true_eq] at h1;rcases h1 with (h1 | h1) | h1
   ·exact .inl h1
   ·exact .inr ⟨e,by simp,.inl h1.symm⟩
   ·exact .inr ⟨e,by simp,.inr h1⟩
  ·exact .inr ⟨e',by simp [h1],h2⟩
theorem z9i (h:q4q ops bs=true) {i k:Nat} {oo:Oper} (hi:ops[i]? = some oo) (hk:(bitsOf bs i).testBit k=true):∃ e∈q14 oo,k=e∨(bitsOf bs e).testBit k=true:=by
 have:=z8 h hi
 simp only [beq_iff_eq] at this;rw [this] at hk;rcases y7v _ _ hk with h1 | h1
 · simp at h1
 · exact h1
structure Slots (lz:Bool) (ops:Array Oper) (bs:List Nat):Prop where
 own:∀ (i d:Nat) (oi:Oper),ops[i]? = some oi->oi.dst=some d->lazyB lz ops oi=true->d∉looksT ops oi
 two:∀ (i j d:Nat) (oi oj:Oper),ops[i]? = some oi->ops[j]? = some oj->oi.dst=some d->i≠j->oj.dst≠some d
 see:∀ (i j d:Nat) (oi oj:Oper),ops[i]? = some oi->ops[j]? = some oj->oi.dst=some d->i≠j->d∈looksT ops oj->(bitsOf bs j).testBit i=true∨(lazyB lz ops oi=false /\ (lazyB lz ops oj=false∨(bitsOf bs i).testBit j=true))
theorem w4h (h:x67 lz ops bs=true):Slots lz ops bs:=by
 have key:∀ (i d:Nat) (oi:Oper),ops[i]? = some oi->oi.dst=some d->(!lazyB lz ops oi||!(looksT ops oi).contains d)=true /\ ∀ (j:Nat) (oj:Oper),ops[j]? = some oj->i≠j ->
   (oj.dst != some d)=true /\ ((!(looksT ops oj).contains d||(bitsOf bs j).testBit i||!lazyB lz ops oi&&(!lazyB lz ops oj||(bitsOf bs i).testBit j))=true):=by
  intro i d oi hi hd;have h1:=z8 h hi;simp only [hd] at h1;rw [Bool.and_eq_true] at h1;refine ⟨h1.1,fun j oj hj hne=>?_⟩;have h2:=z8 h1.2 hj;simp only [Bool.or_eq_true,beq_iff_eq] at h2;rcases h2 with h2 | h2
  ·exact absurd h2 hne
  ·rw [Bool.and_eq_true] at h2;exact h2
 refine ⟨fun i d oi hi hd hq hm=>?_,fun i j d oi oj hi hj hd hne hd2=>?_,fun i j d oi oj hi hj hd hne hm=>?_⟩
 ·have:=(key i d oi hi hd).1
  simp [hq,hm] at this
 ·have:=((key i d oi hi hd).2 j oj hj hne).1
  simp [hd2] at this
 ·have:=((key i d oi hi hd).2 j oj hj hne).2
  simp [hm] at this;rcases this with h1 | h1
  ·exact .inl h1
  ·exact .inr h1
def Ls (listed:Array Bool) (i:Nat):Prop:=listed.getD i false=true
structure Sim (lz:Bool) (late:Nat->Option Nat) (P:Program) (C:Ctx) (B:Base) (ops:Array Oper) (bs:List Nat) (K:St->R) (r:List SV × List (List CV)) (done:Nat) (rest:List Nat) (early:List (Nat × List Nat)) (s:St) (listed:Array Bool) (a:Act) (w:World) (Im:Nat->Prop) (ρ:Nat->Option Value):Prop where
 ev:evDr lz C ops bs early rest s K=some r
 line:lineOk lz ops bs done rest=true
 sz:listed.size=ops.size
 sub:∀ i,Ls listed i->done.testBit i=true
 lsb:∀ e k,Ls listed e->(bitsOf bs e).testBit k=true->Ls listed k
 dnb:∀ e k,done.testBit e=true->(bitsOf bs e).testBit k=true->done.testBit k=true
 acts:∀ (i:Nat) (oo:Oper),done.testBit i=true->ops[i]? = some oo->lazyB lz ops oo=false->Ls listed i
 all:∀ i,i<ops.size->done.testBit i=true∨i∈rest
 now:Now B w Im ρ s.o
 tsz:a.tmps.size=s.t.length
 slots:∀ d,(∀ (p:Nat) (oo:Oper),done.testBit p=true->¬ Ls listed p->ops[p]? = some oo->oo.dst≠some d)->RA w Im ρ s.o (getT s.t d) (a.tmps.getD d undef)
 prom:∀ (p:Nat) (oo:Oper),done.testBit p=true->¬ Ls listed p->ops[p]? = some oo->∃ ids v t0 o0,(p,ids)∈early /\ AgreeT (looksT ops oo) t0 s.t /\ AgreeO ids o0 s.o /\ PromX P ops oo ids (late p) ρ v t0 o0 /\ ∀ d,oo.dst=some d->getT s.t d=v∨getT s.t d=.undef
 df:a.defers=[]
 linj:∀ p q n,late p=some n->late q=some n->p=q
 llt:∀ p n,late p=some n->n<s.o.length
theorem AgreeO.trans {ids:List Nat} {o1 o2 o3:List AObj} (h:AgreeO ids o1 o2) (k:AgreeO ids o2 o3):AgreeO ids o1 o3:=fun id hid=>(h id hid).trans (k id hid)
theorem q4s {t:List AV} {dst:Option Tmp} {v:AV} {d:Nat} (h:dst≠some d):getT (putD t dst v) d=getT t d:=by
 cases dst with
 | none=>rfl
 | some e=>
  simp only [putD];rw [q55,if_neg]
  rintro ⟨rfl,_⟩
  exact h rfl
theorem z4y {t:List AV} {d:Nat} {v:AV}:getT (putD t (some d) v) d=v∨getT (putD t (some d) v) d=.undef:=by
 simp only [putD];rw [q55];split
 ·exact .inl rfl
 ·rename_i h;right;unfold getT;rw [List.getElem?_eq_none (by omega)];rfl
theorem y1n {t:List AV} {dst:Option Tmp} {v:AV}:(putD t dst v).length=t.length:=by cases dst <;> simp [putD]
theorem size_put {dst:Option Tmp} {y:Value}:(a.put dst y).tmps.size=a.tmps.size:=by cases dst <;> simp [Act.put]
theorem x3i {dst:Option Tmp} {y:Value} {d:Nat} (h:dst≠some d):(a.put dst y).tmps.getD d undef=a.tmps.getD d undef:=by
 cases dst with
 | none=>rfl
 | some e=>
  simp only [Act.put];rw [z3n,if_neg]
  rintro ⟨rfl,_⟩
  exact h rfl
theorem q2z {listed:Array Bool} {i j:Nat}:Ls (listed.setIfInBounds i true) j↔Ls listed j∨(i=j /\ i<listed.size):=by
 unfold Ls;simp only [Array.getD_eq_getD_getElem?,Array.getElem?_setIfInBounds];by_cases h:i=j
 ·subst h;by_cases h2:i<listed.size <;> simp [h2]
 ·simp [h]
theorem q1q {x i j:Nat}:(x ||| 2 ^ i).testBit j=true↔x.testBit j=true∨i=j:=by simp [Nat.testBit_or,Nat.testBit_two_pow]
theorem x37 {oo:Oper} {listed:Array Bool} (h:∀ e∈oo.after,Region.binds .any e=true->listed.getD e.on false=true):∀ j∈q14 oo,Ls listed j:=by
 intro j hj;unfold q14 at hj;obtain ⟨e,he,h2⟩:=List.mem_filterMap.1 hj;cases hb:Region.binds .any e
 ·rw [hb] at h2;simp at h2
 ·rw [hb] at h2;simp at h2;subst h2;exact h e (by simpa using he) hb
section
variable {K:St->R} {done:Nat} {rest:List Nat} {early:List (Nat × List Nat)} {s:St} {listed:Array Bool}
theorem q4z (hcl:q4q ops bs=true) (h:Sim lz late P C B ops bs K r done rest early s listed a w Im ρ) {i:Nat} {oo:Oper} (hi:ops[i]? = some oo) (hr:∀ j∈q14 oo,Ls listed j) {k:Nat} (hk:(bitsOf bs i).testBit k=true):Ls listed k:=by
 obtain ⟨e,he,h1⟩:=z9i hcl hi hk;rcases h1 with rfl | h1
 · exact hr _ he
 · exact h.lsb e k (hr e he) h1
theorem y0b (hcl:q4q ops bs=true) (hsl:Slots lz ops bs) (h:Sim lz late P C B ops bs K r done rest early s listed a w Im ρ) {i:Nat} {oo:Oper} (hi:ops[i]? = some oo) (hr:∀ j∈q14 oo,Ls listed j) (hq:lazyB lz ops oo=true∨¬ done.testBit i=true) :
  ∀ x∈looksT ops oo,RA w Im ρ s.o (getT s.t x) (a.tmps.getD x undef):=by
 intro x hx;refine h.slots x fun p op hp hnl hop hd=>?_
 have hpq:lazyB lz ops op=true:=by
  cases hq2:lazyB lz ops op
  ·exact absurd (h.acts p op hp hop hq2) hnl
  ·rfl
 by_cases e:p=i
 ·subst e;rw [hi] at hop;injection hop with hop
  subst hop;rcases hq with hq | hq
  ·exact hsl.own p x _ hi hd hq hx
  ·exact hq hp
 ·rcases hsl.see p i x op oo hop hi hd e hx with h1 | ⟨h1,_⟩
  ·exact hnl (q4z hcl h hi hr h1)
  ·rw [hpq] at h1;cases h1
theorem y8s (hE:EnvOK P C.E) (hcl:q4q ops bs=true) (hsl:Slots lz ops bs) {k:Nat} (h:Sim lz late P C B ops bs K r done (k::rest) early s listed a w Im ρ) {ok:Oper} (hk:ops[k]? = some ok) (hq:lazyB lz ops ok=true) :
  ∃ late' early' s',Sim lz late' P C B ops bs K r (done ||| 2 ^ k) rest early' s' listed a w Im ρ:=by
 have hev:=h.ev;have hline:=h.line;simp only [lineOk,hk,Bool.and_eq_true,Bool.not_eq_true',List.all_eq_true] at hline;obtain ⟨⟨⟨hnd,hbd⟩,_⟩,hline⟩:=hline;have hnk:¬ done.testBit k=true:=by rw [hnd];simp
 have hnl:¬ Ls listed k:=fun hl=>hnk (h.sub k hl)
 have dnb':∀ e j,(done ||| 2 ^ k).testBit e=true->(bitsOf bs e).testBit j=true->(done ||| 2 ^ k).testBit j=true:=by
  intro e j he hj;rcases q1q.1 he with he | rfl
  ·exact q1q.2 (.inl (h.dnb e j he hj))
  ·obtain ⟨e',h1,h2⟩:=z9i hcl hk hj;rcases h2 with rfl | h2
   ·exact q1q.2 (.inl (hbd _ h1))
   ·exact q1q.2 (.inl (h.dnb e' j (hbd _ h1) h2))
 have acts':∀ (i:Nat) (oo:Oper),(done ||| 2 ^ k).testBit i=true->ops[i]? = some oo->lazyB lz ops oo=false->Ls listed i:=by
  intro i oo hi hoo hqq;rcases q1q.1 hi with hi | rfl
  ·exact h.acts i oo hi hoo hqq
  ·rw [hk] at hoo;injection hoo with hoo;subst hoo;rw [hq] at hqq;cases hqq
 have all':∀ i,i<ops.size->(done ||| 2 ^ k).testBit i=true∨i∈rest:=by
  intro i hi;rcases h.all i hi with h1 | h1
  ·exact .inl (q1q.2 (.inl h1))
  ·rcases List.mem_cons.1 h1 with rfl | h1
   ·exact .inl (q1q.2 (.inr rfl))
   ·exact .inr h1
 have old:∀ (p:Nat) (oo:Oper),p≠k->done.testBit p=true->ops[p]? = some oo->∀ v,(∀ x∈looksT ops oo,getT (putD s.t ok.dst v) x=getT s.t x) /\ ∀ d,oo.dst=some d->getT (putD s.t ok.dst v) d=getT s.t d:=by
  intro p oo hpk hp hoo v;refine ⟨fun x hx=>q4s fun hd=>?_,fun d hd=>q4s (hsl.two p k d oo ok hoo hk hd hpk)⟩;rcases hsl.see k p x ok oo hk hoo hd (Ne.symm hpk) hx with h6 | ⟨h6,_⟩
  ·exact hnk (h.dnb p k hp h6)
  ·rw [hq] at h6;cases h6
 cases hlo:q89 ok
 ·simp only [evDr,hk,hq,hlo] at hev;rcases v2m (P:=P) hE (w54 hq hlo) s.t s.o with h0 | ⟨v,h0,hprom⟩
  ·rw [h0] at hev;cases hev
  ·rw [h0] at hev;refine ⟨fun p=>if p=k then none else late p,_,⟨putD s.t ok.dst v,s.o⟩,hev,hline,h.sz,fun i hi=>q1q.2 (.inl (h.sub i hi)),h.lsb,dnb',acts',all',h.now,by rw [h.tsz];exact y1n.symm,?_,?_,h.df,?_,?_⟩
   ·intro d hd;have hdk:ok.dst≠some d:=hd k ok (q1q.2 (.inr rfl)) hnl hk;rw [q4s hdk];exact h.slots d fun p oo hp hl hoo=>hd p oo (q1q.2 (.inl hp)) hl hoo
   ·intro p oo hp hl hoo;by_cases hpk:p=k
    ·subst hpk;rw [hk] at hoo;injection hoo with hoo
     subst hoo;refine ⟨_,v,s.t,s.o,List.mem_cons_self,fun x hx=>?_,fun _ _=>rfl,by rw [if_pos rfl];exact hprom,fun d hd=>?_⟩
     ·rw [q4s fun hd=>hsl.own p x ok hk hd hq hx]
     ·rw [hd];exact z4y
    ·rcases q1q.1 hp with hp | hp
     ·obtain ⟨ids,u,t0,o0,h1,h2,h3,h4,h5⟩:=h.prom p oo hp hl hoo;have ho:=old p oo hpk hp hoo v;refine ⟨ids,u,t0,o0,List.mem_cons_of_mem _ h1,fun x hx=>by rw [ho.1 x hx];exact h2 x hx,h3,by rw [if_neg hpk];exact h4,fun d hd=>by rw [ho.2 d hd];exact h5 d hd⟩
     ·exact absurd hp.symm hpk
   ·intro p q n hp hq;by_cases hpk:p=k
    ·rw [if_pos hpk] at hp;cases hp
    ·by_cases hqk:q=k
     ·rw [if_pos hqk] at hq;cases hq
     ·rw [if_neg hpk] at hp;rw [if_neg hqk] at hq;exact h.linj p q n hp hq
   ·intro p n hp;by_cases hpk:p=k
    ·rw [if_pos hpk] at hp;cases hp
    ·rw [if_neg hpk] at hp;exact h.llt p n hp
 ·simp only [evDr,hk,hq,hlo] at hev;obtain ⟨hchk,hev⟩:=q0j hev;simp only [Bool.and_eq_true,List.all_eq_true,decide_eq_true_eq] at hchk;obtain ⟨⟨hpl,hids⟩,herl⟩:=hchk;rcases v2l (P:=P) (ops:=ops) hE hlo s.t s.o hpl hids with h0 | ⟨v,x,h0,hprom⟩
  ·rw [h0] at hev;cases hev
  ·rw [h0] at hev;refine ⟨fun p=>if p=k then some s.o.length else late p,_,⟨putD s.t ok.dst v,s.o++[x]⟩,hev,hline,h.sz,fun i hi=>q1q.2 (.inl (h.sub i hi)),h.lsb,dnb',acts',all',h.now.push x,by rw [h.tsz];exact y1n.symm,?_,?_,h.df,?_,?_⟩
   ·intro d hd;have hdk:ok.dst≠some d:=hd k ok (q1q.2 (.inr rfl)) hnl hk;rw [q4s hdk];exact RA.compat (fun b hb=>⟨hb,rfl⟩) (z1f x) (h.slots d fun p oo hp hl hoo=>hd p oo (q1q.2 (.inl hp)) hl hoo)
   ·intro p oo hp hl hoo;by_cases hpk:p=k
    ·subst hpk;rw [hk] at hoo;injection hoo with hoo
     subst hoo;refine ⟨_,v,s.t,_,List.mem_cons_self,fun x hx=>?_,fun _ _=>rfl,by rw [if_pos rfl];exact ⟨h.now.sr.at_end,hprom⟩,fun d hd=>?_⟩
     ·rw [q4s fun hd=>hsl.own p x ok hk hd hq hx]
     ·rw [hd];exact z4y
    ·rcases q1q.1 hp with hp | hp
     ·obtain ⟨ids,u,t0,o0,h1,h2,h3,h4,h5⟩:=h.prom p oo hp hl hoo;have ho:=old p oo hpk hp hoo v;refine ⟨ids,u,t0,o0,List.mem_cons_of_mem _ h1,fun x hx=>by rw [ho.1 x hx];exact h2 x hx,h3.trans fun id hid=>?_,by rw [if_neg hpk];exact h4,fun d hd=>by rw [ho.2 d hd];exact h5 d hd⟩
      have:=herl (p,ids) h1 id hid
      simp only [at',List.getElem?_append_left this]
     ·exact absurd hp.symm hpk
   ·intro p q n hp hq;by_cases hpk:p=k
    ·by_cases hqk:q=k
     ·rw [hpk,hqk]
     ·rw [if_pos hpk] at hp;rw [if_neg hqk] at hq;injection hp with hp
      have:=h.llt q n hq
      omega
    ·by_cases hqk:q=k
     ·rw [if_pos hqk] at hq;rw [if_neg hpk] at hp;injection hq with hq
      have:=h.llt p n hp
      omega
     ·rw [if_neg hpk] at hp;rw [if_neg hqk] at hq;exact h.linj p q n hp hq
   ·intro p n hp;by_cases hpk:p=k
    ·rw [if_pos hpk] at hp;injection hp with hp;simp;omega
    ·rw [if_neg hpk] at hp
     have:=h.llt p n hp
     simp;omega
theorem y10 {Q:Exit->Act->World->Prop} (hcl:q4q ops bs=true) (hsl:Slots lz ops bs) (h:Sim lz late P C B ops bs K r done rest early s listed a w Im ρ) {i:Nat} {oo:Oper} (hi:ops[i]? = some oo) (hr:∀ j∈q14 oo,Ls listed j) (hd:done.testBit i=true) (hl:¬ Ls listed i)
  {next:Act->World->Prop} (hn:∀ a' w' Im' ρ',Sim lz late P C B ops bs K r done rest early s (listed.setIfInBounds i true) a' w' Im' ρ'->next a' w'):wpOp P ops Q i next a w:=by
 have hq:lazyB lz ops oo=true:=by
  cases hq2:lazyB lz ops oo
  ·exact absurd (h.acts i oo hd hi hq2) hl
  ·rfl
 obtain ⟨ids,v,t0,o0,h1,h2,h3,h4,h5⟩:=h.prom i oo hd hl hi;have hlook:=y0b hcl hsl h hi hr (.inl hq);obtain ⟨y,w',Im',ρ',hnow,hkeep,hne,hy,hrun⟩:∃ y w' Im' ρ',Now B w' Im' ρ' s.o /\ (∀ v x,RA w Im ρ s.o v x->RA w' Im' ρ' s.o v x) /\ (∀ p m,p≠i->late p=some m->ρ m=none->ρ' m=none) /\ RA w' Im' ρ' s.o v y /\
   ((Region.wanted oo (yielded ops a.tmps)=true /\ (execOp a.eval oo).run P w=.ok (.value y) w')∨(Region.wanted oo (yielded ops a.tmps)=false /\ y=undef /\ w'=w)):=by
  cases hlate:late i with
  | none=>
   rw [hlate] at h4;obtain ⟨y,hy,hrun⟩:=h4 s.o h3 w Im ρ a h.now.sr fun x hx=>by rw [h2 x hx];exact hlook x hx
   exact ⟨y,w,Im,ρ,h.now,fun _ _ h=>h,fun _ _ _ _ h=>h,hy,hrun.imp (fun h=>h) fun h=>⟨h.1,h.2,rfl⟩⟩
  | some n=>
   rw [hlate] at h4;obtain ⟨y,w',Im',ρ',hf,hy,hw,hrun⟩:=h4.2 s.o h3 w Im ρ a h.now.sr h4.1 fun x hx=>by rw [h2 x hx];exact hlook x hx
   refine ⟨y,w',Im',ρ',h.now.fill hf,hf.keepA,fun p m hp hm h0=>?_,hy,.inl ⟨hw,hrun⟩⟩;rw [hf.ne m fun e=>hp (h.linj p i n (e ▸ hm) hlate)];exact h0
 have hil:i<listed.size:=by rw [h.sz];exact (Array.getElem?_eq_some_iff.1 hi).1
 have sim':Sim lz late P C B ops bs K r done rest early s (listed.setIfInBounds i true) (a.put oo.dst y) w' Im' ρ':=by
  refine ⟨h.ev,h.line,by simp [h.sz],?_,?_,h.dnb,?_,h.all,hnow,by rw [size_put];exact h.tsz,?_,?_,?_,h.linj,h.llt⟩
  ·intro j hj;rcases q2z.1 hj with hj | ⟨rfl,_⟩
   ·exact h.sub j hj
   ·exact hd
  ·intro e k he hk;rcases q2z.1 he with he | ⟨rfl,_⟩
   ·exact q2z.2 (.inl (h.lsb e k he hk))
   ·exact q2z.2 (.inl (q4z hcl h hi hr hk))
  ·intro j oj hj hoj hqj;exact q2z.2 (.inl (h.acts j oj hj hoj hqj))
  ·intro d hdd;by_cases e:oo.dst=some d
   ·have hv:=h5 d e;have hval:(a.put oo.dst y).tmps.getD d undef=if d<a.tmps.size then y else undef:=by
     rw [e];simp only [Act.put];rw [z3n];by_cases hlt:d<a.tmps.size
     ·rw [if_pos ⟨rfl,hlt⟩,if_pos hlt]
     ·rw [if_neg (fun h=>hlt h.2),if_neg hlt,Array.getD_eq_getD_getElem?,Array.getElem?_eq_none (Nat.le_of_not_lt hlt)];rfl
    by_cases hlt:d<a.tmps.size
    ·rw [hval,if_pos hlt];rcases hv with hv | hv
     ·rw [hv];exact hy
     ·rw [hv];trivial
    ·have:getT s.t d=.undef:=by
      unfold getT;rw [List.getElem?_eq_none (by rw [<- h.tsz];exact Nat.le_of_not_lt hlt)];rfl
     rw [this]
     trivial
   ·rw [x3i e];refine hkeep _ _ (h.slots d fun p op hp hnl hop hpd=>?_);refine hdd p op hp (fun hls=>?_) hop hpd;rcases q2z.1 hls with hls | ⟨rfl,_⟩
    ·exact hnl hls
    ·rw [hi] at hop;injection hop with hop;subst hop;exact e hpd
  ·intro p op hp hnl hop;obtain ⟨ids',u',t1,o1,g1,g2,g3,g4,g5⟩:=h.prom p op hp (fun hls=>hnl (q2z.2 (.inl hls))) hop;exact ⟨ids',u',t1,o1,g1,g2,g3,g4.mono fun m hm h0=>hne p m (fun e=>hnl (q2z.2 (.inr ⟨e.symm,hil⟩))) hm h0,g5⟩
  ·cases oo.dst <;> exact h.df
 unfold wpOp;simp only [hi];rcases hrun with ⟨hw,hrun⟩ | ⟨hw,rfl,rfl⟩
 ·rw [if_pos hw];left;unfold Oper.wp;rw [hrun];exact hn _ _ _ _ sim'
 ·rw [hw];simp only [Bool.false_eq_true,if_false];exact hn _ _ _ _ sim'
theorem w86 (hE:EnvOK P C.E) (hC:∀ g args bs r,C.call g args bs=some r->Contract P g args bs r) {Q:Exit->Act->World->Prop} (hcl:q4q ops bs=true) (hsl:Slots lz ops bs) {i:Nat} (h:Sim lz late P C B ops bs K r done (i::rest) early s listed a w Im ρ) {oo:Oper} (hi:ops[i]? = some oo)
  (hr:∀ j∈q14 oo,Ls listed j) (hq:lazyB lz ops oo=false)
  {next:Act->World->Prop} (hn:∀ s' a' w' Im' ρ',Sim lz late P C B ops bs K r (done ||| 2 ^ i) rest early s' (listed.setIfInBounds i true) a' w' Im' ρ'->next a' w'):wpOp P ops Q i next a w:=by
 have hev:=h.ev;simp only [evDr,hi,hq] at hev;obtain ⟨hchk,hev⟩:=q0j hev;simp only [List.all_eq_true,Bool.or_eq_true,Bool.and_eq_true,Bool.not_eq_true',decide_eq_true_eq] at hchk;have hline:=h.line;simp only [lineOk,hi,hq,Bool.and_eq_true,Bool.not_eq_true',List.all_eq_true,Bool.false_or] at hline;obtain ⟨⟨⟨hnd,hbd⟩,_⟩,hline⟩:=hline;have hnk:¬ done.testBit i=true:=by rw [hnd];simp
 have hil:i<listed.size:=by rw [h.sz];exact (Array.getElem?_eq_some_iff.1 hi).1
 have hlook:=y0b hcl hsl h hi hr (.inr hnk);rcases y9e (C:=C) (ops:=ops) oo s with h0 | ⟨v,o',h0,hkp⟩
 ·rw [h0] at hev;cases hev
 ·rw [h0] at hev
  classical
  refine z40 (K:=fun s'=>if s'.t=putD s.t oo.dst v /\ s'.o=o' then evDr lz C ops bs early rest ⟨putD s.t oo.dst v,o'⟩ K else none) hE hC hi h.now.sr (fun x hx=>z8b x fun j hj=>hlook j (z36 hx hj)) ?_ (by
   refine (h0 _).trans ?_;simp only [and_self,if_true];exact hev) ?_
  ·intro j want d hg hd;refine hlook d ?_;unfold looksT;rw [hg];refine List.mem_append_right _ ?_
   show d∈((ops[j]?).bind (·.dst)).toList
   rw [hd];simp
  ·intro v2 o2 y w' Im' ρ' hk hst hra
   simp only at hk
   split at hk
   ·rename_i he;obtain ⟨he1,he2⟩:=he;subst he2;have hpend:∀ (p:Nat),(done ||| 2 ^ i).testBit p=true->¬ Ls (listed.setIfInBounds i true) p->done.testBit p=true /\ ¬ Ls listed p /\ p≠i:=by
     intro p hp hnl;rcases q1q.1 hp with hp | rfl
     ·exact ⟨hp,fun hl=>hnl (q2z.2 (.inl hl)),fun e=>hnk (e ▸ hp)⟩
     ·exact absurd (q2z.2 (.inr ⟨rfl,hil⟩)) hnl
    refine hn ⟨putD s.t oo.dst v,o2⟩ (a.put oo.dst y) w' Im' ρ' ⟨hk,hline,by simp [h.sz],?_,?_,?_,?_,?_,h.now.step hst,by rw [size_put,h.tsz];exact y1n.symm,?_,?_,by cases oo.dst <;> exact h.df,h.linj,fun p m hm=>Nat.lt_of_lt_of_le (h.llt p m hm) hkp.1⟩
    ·intro j hj;rcases q2z.1 hj with hj | ⟨rfl,_⟩
     ·exact q1q.2 (.inl (h.sub j hj))
     ·exact q1q.2 (.inr rfl)
    ·intro e k he hk;rcases q2z.1 he with he | ⟨rfl,_⟩
     ·exact q2z.2 (.inl (h.lsb e k he hk))
     ·exact q2z.2 (.inl (q4z hcl h hi hr hk))
    ·intro e j he hj;rcases q1q.1 he with he | rfl
     ·exact q1q.2 (.inl (h.dnb e j he hj))
     ·exact q1q.2 (.inl (h.sub j (q4z hcl h hi hr hj)))
    ·intro j oj hj hoj hqj;rcases q1q.1 hj with hj | rfl
     ·exact q2z.2 (.inl (h.acts j oj hj hoj hqj))
     ·exact q2z.2 (.inr ⟨rfl,hil⟩)
    ·intro j hj;rcases h.all j hj with h1 | h1
     ·exact .inl (q1q.2 (.inl h1))
     ·rcases List.mem_cons.1 h1 with rfl | h1
      ·exact .inl (q1q.2 (.inr rfl))
      ·exact .inr h1
    ·intro d hd;rw [<- he1];by_cases e:oo.dst=some d
     ·rw [e];simp only [putD,Act.put];rw [q55,z3n,h.tsz];by_cases hlt:d<s.t.length
      ·rw [if_pos ⟨rfl,hlt⟩,if_pos ⟨rfl,hlt⟩];exact hra
      ·rw [if_neg (fun h=>hlt h.2)]
       have:getT s.t d=.undef:=by
        unfold getT;rw [List.getElem?_eq_none (Nat.le_of_not_lt hlt)];rfl
       rw [this]
       trivial
     ·rw [q4s e,x3i e];refine hst.keepA _ _ (h.slots d fun p op hp hnl hop=>hd p op (q1q.2 (.inl hp)) (fun hls=>?_) hop);rcases q2z.1 hls with hls | ⟨rfl,_⟩
      ·exact hnl hls
      ·exact hnk hp
    ·intro p op hp hnl hop;obtain ⟨hpd,hpl,hpi⟩:=hpend p hp hnl;obtain ⟨ids,u,t0,o0,h1,h2,h3,h4,h5⟩:=h.prom p op hpd hpl hop;have hpq:lazyB lz ops op=true:=by
      cases hq2:lazyB lz ops op
      ·exact absurd (h.acts p op hpd hop hq2) hpl
      ·rfl
     refine ⟨ids,u,t0,o0,h1,fun x hx=>?_,h3.trans fun id hid=>?_,h4.mono fun m hm h0=>hst.gr.2 m (h.llt p m hm) h0,fun d hd=>?_⟩
     ·have:oo.dst≠some x:=by
       intro hd;rcases hsl.see i p x oo op hi hop hd (Ne.symm hpi) hx with h6 | ⟨_,h6 | h6⟩
       ·exact hnk (h.dnb p i hpd h6)
       ·rw [hpq] at h6;cases h6
       ·exact hpl (q4z hcl h hi hr h6)
      rw [q4s this];exact h2 x hx
     ·rcases hchk (p,ids) h1 with h6 | h6
      ·exact absurd (q4z hcl h hi hr h6) hpl
      ·have h7:=h6 id hid;refine hkp.2 id h7.2 fun hm=>?_
       have:=h7.1
       rw [List.contains_eq_mem] at this;simp at this;exact this hm
     ·rw [q4s (hsl.two p i d op oo hop hi hd hpi)];exact h5 d hd
   ·cases hk
theorem v3t (hE:EnvOK P C.E) (hC:∀ g args bs r,C.call g args bs=some r->Contract P g args bs r) {Q:Exit->Act->World->Prop} (hcl:q4q ops bs=true) (hsl:Slots lz ops bs) {i:Nat} {oo:Oper} (hi:ops[i]? = some oo) (hr:∀ j∈q14 oo,Ls listed j) (hl:¬ Ls listed i) {next:Act->World->Prop}
  (hn:∀ late done rest early s' a' w' Im' ρ',Sim lz late P C B ops bs K r done rest early s' (listed.setIfInBounds i true) a' w' Im' ρ'->next a' w'):∀ {rest:List Nat} {late:Nat->Option Nat} {done:Nat} {early:List (Nat × List Nat)} {s:St},Sim lz late P C B ops bs K r done rest early s listed a w Im ρ->wpOp P ops Q i next a w:=by
 intro rest
 induction rest with
 | nil=>
  intro late done early s h;have hd:done.testBit i=true:=by
   rcases h.all i (Array.getElem?_eq_some_iff.1 hi).1 with h1 | h1
   ·exact h1
   ·simp at h1
  exact y10 hcl hsl h hi hr hd hl fun a' w' Im' ρ' h'=>hn _ _ _ _ _ _ _ _ _ h'
 | cons k rest ih=>
  intro late done early s h;cases hd:done.testBit i
  ·have hline:=h.line;simp only [lineOk] at hline;split at hline
   ·rename_i ok hk;simp only [Bool.and_eq_true,Bool.not_eq_true',List.all_eq_true,Bool.or_eq_true] at hline;obtain ⟨⟨⟨hnd,hbd⟩,hlate⟩,hline⟩:=hline;by_cases e:k=i
    ·subst e;rw [hi] at hk;injection hk with hk
     subst hk;cases hq:lazyB lz ops oo
     ·exact w86 hE hC hcl hsl h hi hr hq fun s' a' w' Im' ρ' h'=>hn _ _ _ _ _ _ _ _ _ h'
     ·obtain ⟨late',early',s',h'⟩:=y8s hE hcl hsl h hi hq;exact y10 hcl hsl h' hi hr (q1q.2 (.inr rfl)) hl fun a' w' Im' ρ' h2=>hn _ _ _ _ _ _ _ _ _ h2
    ·have him:i∈rest:=by
      rcases h.all i (Array.getElem?_eq_some_iff.1 hi).1 with h1 | h1
      ·rw [hd] at h1;cases h1
      ·rcases List.mem_cons.1 h1 with h2 | h2
       ·exact absurd h2.symm e
       ·exact h2
     have hq:lazyB lz ops ok=true:=by
      rcases hlate with h1 | h1
      ·exact h1
      ·have h2:=h.sub k (q4z hcl h hi hr (h1 i him));rw [hnd] at h2;cases h2
     obtain ⟨late',early',s',h'⟩:=y8s hE hcl hsl h hk hq;exact ih h'
   ·cases hline
  ·exact y10 hcl hsl h hi hr hd hl fun a' w' Im' ρ' h'=>hn _ _ _ _ _ _ _ _ _ h'
theorem x65 {Q:Exit->Act->World->Prop} (hQ:∀ s a w,K s=some r->Sta B s a w->Q .normal a w) (h:Sim lz late P C B ops bs K r done rest early s listed a w Im ρ) (hall:∀ i,i<ops.size->Ls listed i):Q .normal a w:=by
 cases rest with
 | nil=>
  have hev:=h.ev;simp only [evDr] at hev;refine hQ s a w hev ⟨⟨Im,ρ,h.now,⟨h.tsz,fun d=>h.slots d fun p oo hp hnl hoo=>absurd (hall p (Array.getElem?_eq_some_iff.1 hoo).1) hnl⟩⟩,h.df⟩
 | cons k rest=>
  have hline:=h.line;simp only [lineOk] at hline;split at hline
  ·rename_i ok hk;simp only [Bool.and_eq_true,Bool.not_eq_true'] at hline;have h2:=h.sub k (hall k (Array.getElem?_eq_some_iff.1 hk).1);rw [hline.1.1.1] at h2;cases h2
  ·cases hline
theorem x82 (hlt:∀ (i:Nat) (oo:Oper),ops[i]? = some oo->∀ j∈q14 oo,j<i) (hsz:listed.size=ops.size) (h0:Region.ready .any ops listed=[]):∀ i,i<ops.size->Ls listed i:=by
 intro i
 induction i using Nat.strongRecOn with
 | _ i ih=>
  intro hi;cases hc:listed.getD i false
  ·exfalso;have hm:i∈Region.ready .any ops listed:=by
    refine mem_ready.2 ⟨?_,ops[i],by simp [hi],fun e he hb=>?_⟩
    ·have hl:i<listed.size:=by omega
     simp [hl] at hc ⊢;exact hc
    ·have hj:e.on∈q14 ops[i]:=List.mem_filterMap.2 ⟨e,by simpa using he,by simp [hb]⟩;have h1:=hlt i ops[i] (by simp [hi]) e.on hj;exact ih e.on h1 (by omega)
   rw [h0] at hm;cases hm
  ·exact hc
theorem x64 (hE:EnvOK P C.E) (hC:∀ g args bs r,C.call g args bs=some r->Contract P g args bs r) {Q:Exit->Act->World->Prop} (hQ:∀ s a w,K s=some r->Sta B s a w->Q .normal a w) (hcl:q4q ops bs=true) (hsl:Slots lz ops bs) (hlt:∀ (i:Nat) (oo:Oper),ops[i]? = some oo->∀ j∈q14 oo,j<i) :
  ∀ (fuel:Nat) {late:Nat->Option Nat} {rest:List Nat} {done:Nat} {early:List (Nat × List Nat)} {s:St} {listed:Array Bool} {a:Act} {w:World} {Im:Nat->Prop} {ρ:Nat->Option Value},Sim lz late P C B ops bs K r done rest early s listed a w Im ρ->listed.toList.countP (fun b=>!b)<=fuel->wpAny P .any ops Q fuel listed a w
 | 0,late,rest,done,early,s,listed,a,w,Im,ρ,h,hc=>by
  have hall:∀ i,i<ops.size->Ls listed i:=by
   intro i hi;have h0:listed.toList.countP (fun b=>!b)=0:=by omega
   rw [List.countP_eq_zero] at h0;have hl:i<listed.size:=by rw [h.sz];exact hi
   have:=h0 listed[i] (by simp)
   unfold Ls;simp [hl];simpa using this
  refine ⟨?_,x65 hQ h hall⟩;rw [List.eq_nil_iff_forall_not_mem];intro i hm;obtain ⟨h1,oo,h2,_⟩:=mem_ready.1 hm;have hi:=(Array.getElem?_eq_some_iff.1 h2).1;have hl:i<listed.size:=by rw [h.sz];exact hi
  have h3:=hall i hi;unfold Ls at h3;simp [hl] at h1 h3;rw [h1] at h3;cases h3
 | fuel+1,late,rest,done,early,s,listed,a,w,Im,ρ,h,hc=>by
  refine ⟨fun h0=>x65 hQ h (x82 hlt h.sz h0),fun i hm=>?_⟩;obtain ⟨h1,oo,hi,h2⟩:=mem_ready.1 hm;have hsz:=(Array.getElem?_eq_some_iff.1 hi).1;have hl:i<listed.size:=by rw [h.sz];exact hsz
  have hnl:¬ Ls listed i:=by
   unfold Ls;simp [hl] at h1 ⊢;exact h1
  refine v3t hE hC hcl hsl hi (x37 h2) hnl (fun late done rest early s' a' w' Im' ρ' h'=>x64 hE hC hQ hcl hsl hlt fuel h' ?_) h;have hf:listed[i]=false:=by simpa [hl] using h1
  have hf2:listed.toList[i]'(by simpa using hl)=false:=by simpa using hf
  have hpos:0<listed.toList.countP (fun b=>!b):=List.countP_pos_iff.2 ⟨false,by rw [<- hf2];exact List.getElem_mem _,rfl⟩;rw [Array.toList_setIfInBounds,List.countP_set (by simpa using hl),hf2]
  generalize listed.toList.countP (fun b=>!b)=c at hc hpos ⊢
  simp only [Bool.not_false,if_true,Bool.not_true,Bool.false_eq_true,if_false];omega
end
theorem z2p (hE:EnvOK P C.E) (hC:∀ g args bs r,C.call g args bs=some r->Contract P g args bs r) {id:Nat} {ops:Array Oper} {Q:Exit->Act->World->Prop} {K:St->R} (hQ:∀ s a w,K s=some r->Sta B s a w->Q .normal a w)
  {s:St} {other:Unit->R} (ho:other ()=some r->(Code.region id ops true).wp P Q a w) (h:z3l lz C ops s K other=some r) (hs:Sta B s a w):(Code.region id ops true).wp P Q a w:=by
 unfold z3l at h;split at h
 ·rename_i hok;simp only [w0u,Bool.and_eq_true] at hok;obtain ⟨⟨⟨⟨hcl,hsl⟩,hline⟩,hall⟩,hlt⟩:=hok;obtain ⟨⟨Im,ρ,hn,ht⟩,hd⟩:=hs;have hstep:Step w Im ρ s.o { w with drawn:=w.drawn+1 } Im ρ s.o:=by
   have hsr:=hn.sr;have hc:q1u ρ ρ s.o s.o:=fun id a ha=>⟨a,ha,by cases a <;> simp [q1f]⟩
   have him:∀ b,Im b->Im b /\ ({ w with drawn:=w.drawn+1 }:World).heap[b]? = w.heap[b]?:=fun b hb=>⟨hb,rfl⟩
   exact ⟨⟨rfl,rfl,rfl,Nat.le_refl _⟩,⟨fun id x v hx hv=>RO.keep him hc (fun _ _=>rfl) (fun _ _ h=>h) (hsr.ob id x v hx hv),hsr.inj,hsr.lt,hsr.im,hsr.dd⟩,fun c x hx=>RC.compat him hc hx,fun _ _ _=>rfl,fun id v b h1 h2=>.inr ⟨id,v,h1,h2⟩,him,fun b hb=>.inl hb,fun h=>h,Grown.refl⟩
  have hnl:∀ i,¬ Ls (Array.replicate ops.size false) i:=by
   intro i hi;unfold Ls at hi;simp only [Array.getD_eq_getD_getElem?,Array.getElem?_replicate] at hi;split at hi <;> simp at hi
  refine wp_region_any hE.mixed (x64 hE hC hQ hcl (w4h hsl) (fun i oo hi j hj=>?_) ops.size (Im:=Im) (ρ:=ρ) (late:=fun _=>none) (done:=0) (early:=[]) ⟨h,hline,by simp,fun i hi=>absurd hi (hnl i),fun e k he _=>absurd he (hnl e),fun e k he _=>by simp at he,fun i oo hi=>by simp at hi,fun i hi=>?_,hn.step hstep,ht.size,
   fun d _=>hstep.keepA _ _ (ht.at_ d),fun p oo hp=>by simp at hp,hd,fun p q n hp=>by simp at hp,fun p n hp=>by simp at hp⟩ ?_)
  ·have:=z8 hlt hi
   simp only [List.all_eq_true,decide_eq_true_eq] at this;exact this j hj
  ·rw [List.all_eq_true] at hall
   have:=hall i (List.mem_range.2 hi)
   rw [List.contains_eq_mem] at this;exact .inr (by simpa using this)
  ·exact Nat.le_trans List.countP_le_length (by simp)
 ·exact ho h
theorem z6x (hE:EnvOK P C.E) (hC:∀ g args bs r,C.call g args bs=some r->Contract P g args bs r) {id:Nat} {ops:Array Oper} {Q:Exit->Act->World->Prop} {K:St->R} (hQ:∀ s a w,K s=some r->Sta B s a w->Q .normal a w)
  {s:St} (h:x1p C ops s K=some r) (hs:Sta B s a w):(Code.region id ops true).wp P Q a w :=
 z2p hE hC hQ (fun h=>z2p hE hC hQ (fun h=>by cases h) h hs) h hs
end
end Go.Dp
namespace Go.Dp
section
variable {P:Program} {E:Env} {w w':World} {Im Im':Nat->Prop} {ρ ρ':Nat->Option Value} {o o':List AObj} {r:List SV × List (List CV)} {t:List AV} {a:Act} {B:Base} {C:Ctx} {L:List Nat}
def AExit.ex:AExit->Exit
 | .normal=>.normal
 | .exit n=>.exit n
 | .ret=>.ret
def LoopAt (P:Program) (c:Code) (Q:Exit->Act->World->Prop) (a:Act) (w:World):Prop :=
 ∀ (b:Frame) (k:List Item) (cs:List Frame),∃ e a' w',Q e a' w' /\ Arrives P (lone (b.at a (.code c::.inLoop c::k)) cs w) b k cs e a' w'
theorem LoopAt.wp {c:Code} {Q:Exit->Act->World->Prop} (h:LoopAt P c Q a w):(Code.loop c).wp P Q a w:=by
 intro b k cs;obtain ⟨e,a',w',hq,harr⟩:=h b k cs;exact ⟨e,a',w',hq,.of_steps (.one step_loop) harr⟩
theorem LoopAt.round {c:Code} {Q:Exit->Act->World->Prop} (h:c.wp P (Exit.then (fun a w=>LoopAt P c Q a w) Q) a w):LoopAt P c Q a w:=by
 intro b k cs;obtain ⟨e,a₁,w₁,hq,harr⟩:=h b (.inLoop c::k) cs;cases e with
 | normal=>
  obtain ⟨e₂,a₂,w₂,hq₂,harr₂⟩:=hq b k cs;exact ⟨e₂,a₂,w₂,hq₂,.of_steps (Steps.trans harr (.one step_inLoop)) harr₂⟩
 | exit id=>exact ⟨_,a₁,w₁,hq,.pass (x:=.inLoop c) rfl (fun _ _=>.inl (by simp)) harr⟩
 | goto l=>exact ⟨_,a₁,w₁,hq,.pass (x:=.inLoop c) rfl (fun _ _=>.inl (by simp)) harr⟩
 | ret=>exact ⟨_,a₁,w₁,hq,.pass (x:=.inLoop c) rfl (fun _ _=>.inl (by simp)) harr⟩
 | panic ch=>exact ⟨_,a₁,w₁,hq,.pass (x:=.inLoop c) rfl (fun _ _=>.inl (by simp)) harr⟩
 | outgrown=>exact ⟨_,a₁,w₁,hq,.pass (x:=.inLoop c) rfl (fun _ _=>.inl (by simp)) harr⟩
theorem x1o (hE:EnvOK P C.E) (hC:∀ g args bs r,C.call g args bs=some r->Contract P g args bs r) (hm:C.m=B.bl.length) (c:Code):∀ {cur:Nat} {s:St} {a:Act} {w:World} {K:Kc} {Q:Exit->Act->World->Prop},
  (∀ e s a w,K e s=some r->Sta B s a w->Q e.ex a w)->evCode C c cur s K=some r->Sta B s a w->c.wp P Q a w:=by
 induction c with
 | skip=>intro cur s a w K Q hQ h hs;exact wp_skip (hQ .normal s a w h hs)
 | label l=>intro cur s a w K Q hQ h hs;exact wp_label (hQ .normal s a w h hs)
 | exit id=>intro cur s a w K Q hQ h hs;exact wp_exit (hQ (.exit id) s a w h hs)
 | goto l=>intro cur s a w K Q hQ h hs;simp [evCode] at h
 | refuse=>intro cur s a w K Q hQ h hs;simp [evCode] at h
 | scope b _=>intro cur s a w K Q hQ h hs;simp [evCode] at h
 | rangeFunc f ps x y _ _=>intro cur s a w K Q hQ h hs;simp [evCode] at h
 | region id ops draw=>
  intro cur s a w K Q hQ h hs;simp only [evCode] at h;split at h
  ·cases draw with
   | false=>exact wp_region (z1i hE hC (fun s a w hk hs=>hQ .normal s a w hk hs) h hs)
   | true=>exact z6x hE hC (fun s a w hk hs=>hQ .normal s a w hk hs) h hs
  ·rename_i live _;have hs':Sta B (head C.m live (C.E.own C.self (1000000+id)) s) a w:=by rw [hm];exact hs.head _ _
   cases hn:C.n with
   | zero=>rw [hn] at h;cases h
   | succ n=>
    rw [hn] at h;simp only [cutK] at h;cases draw with
    | false=>exact wp_region (z1i hE hC (fun s a w hk hs=>hQ .normal s a w hk hs) h hs')
    | true=>exact z6x hE hC (fun s a w hk hs=>hQ .normal s a w hk hs) h hs'
 | seq x y ihx ihy=>
  intro cur s a w K Q hQ h hs;refine wp_seq (ihx (K:=seqK (fun s=>evCode C y cur s K) K) ?_ h hs);intro e s a w hk hs;cases e with
  | normal=>exact ihy hQ hk hs
  | exit n=>exact hQ (.exit n) s a w hk hs
  | ret=>exact hQ .ret s a w hk hs
 | cond c x y ihx ihy=>
  intro cur s a w K Q hQ h hs;obtain ⟨b,hb,h⟩:=z1d h;obtain ⟨⟨Im,ρ,hn,ht⟩,hd⟩:=hs;have hc:=y3p ht c;rw [hb] at hc;have hv:a.eval c=.bool b:=RA.bool (a:=.p (.bool b)) rfl hc;refine wp_cond hv ?_;cases b
  ·exact ihy hQ h ⟨⟨Im,ρ,hn,ht⟩,hd⟩
  ·exact ihx hQ h ⟨⟨Im,ρ,hn,ht⟩,hd⟩
 | block id c ih=>
  intro cur s a w K Q hQ h hs;refine wp_block (ih (K:=y3s id K) ?_ h hs);intro e s a w hk hs;cases e with
  | normal=>exact hQ .normal s a w hk hs
  | ret=>exact hQ .ret s a w hk hs
  | exit n=>
   simp only [AExit.ex,Exit.inBlock];simp only [y3s] at hk;by_cases e:n=id
   ·subst e;rw [if_pos rfl];simp only [beq_self_eq_true,cond_true] at hk;exact hQ .normal s a w hk hs
   ·rw [if_neg e]
    have:(n==id)=false:=by simpa using e
    rw [this] at hk;exact hQ (.exit n) s a w hk hs
 | loop c ih=>
  intro cur s a w K Q hQ h hs;refine LoopAt.wp ?_;simp only [evCode] at h;have key:∀ (n:Nat) (s:St) (a:Act) (w:World),q90 C cur (fun s K=>evCode C c cur s K) K n s=some r->Sta B s a w->LoopAt P c Q a w:=by
   intro n
   induction n with
   | zero=>intro s a w h hs;simp [q90] at h
   | succ n ihn=>
    intro s a w h hs;refine LoopAt.round (ih (K:=fun e s'=>match e with | .normal=>q90 C cur (fun s K=>evCode C c cur s K) K n (head C.m (C.E.live C.self cur) (C.E.own C.self cur) s') | e=>K e s') ?_ h hs);intro e s a w hk hs;cases e with
    | normal=>exact ihn _ a w hk (by rw [hm];exact hs.head _ _)
    | exit m=>exact hQ (.exit m) s a w hk hs
    | ret=>exact hQ .ret s a w hk hs
  exact key C.n _ a w h (by rw [hm];exact hs.head _ _)
 | ret=>intro cur s a w K Q hQ h hs;exact wp_ret (hQ .ret s a w h hs)
def x25 (a:Act):ResultVar->Sem Value
 | .tmp t=>pure (a.tmps.getD t undef)
 | .cell b T=>do loadVar T (<- asAddr (a.tmps.getD b undef))
theorem x3 {α β:Type} (f:α->Sem β) (x:α) (l:List α) {y:β} {ys:List β} (h1:(f x).run P w=.ok y w) (h2:(l.mapM f).run P w=.ok ys w):((x::l).mapM f).run P w=.ok (y::ys) w:=by
 simp [List.mapM_cons,h1,h2]
theorem w1i {T:TypeId} {x y:Value} (h:(Instr.loadAt T x).run P w=.ok y w):(do loadVar T (<- asAddr x)).run P w=.ok y w:=by
 unfold Instr.loadAt at h;cases x with
 | pointer p=>
  cases p with
  | some ad=>simpa [Instr.sureAddr,asAddr] using h
  | none=>simp [Instr.sureAddr,Result.andThen] at h
 | _=>simp [Instr.sureAddr,Result.andThen] at h
theorem z1u (hE:EnvOK P E) (hs:SR w Im ρ o) (ht:TR w Im ρ o t a):∀ {rs:List ResultVar} {K:List SV->R},z8y E ⟨t,o⟩ rs K=some r ->
  ∃ vs ys,K vs=some r /\ ys.length=vs.length /\ (∀ (i:Nat) (v:SV) (y:Value),vs[i]? = some v->ys[i]? = some y->RS w Im ρ o v y) /\ (rs.mapM (x25 a)).run P w=.ok ys w
 | [],K,h=>⟨[],[],h,rfl,fun i v y h=>by simp at h,rfl⟩
 | .tmp i::rs,K,h=>by
  obtain ⟨v,hv,h⟩:=bind_some h;obtain ⟨vs,ys,hk,h1,h3,h4⟩:=z1u hE hs ht h;have hi:=ht.at_ i;have hv':getT t i=.s v:=q2k hv;rw [hv'] at hi;refine ⟨v::vs,a.tmps.getD i undef::ys,hk,by simp [h1],fun j u y hu hy=>?_,x3 _ _ _ rfl h4⟩;cases j with
  | zero=>
   rw [List.getElem?_cons_zero] at hu hy;injection hu with hu
   injection hy with hy
   subst hu;subst hy;exact hi
  | succ j=>exact h3 j u y (by simpa using hu) (by simpa using hy)
 | .cell b T::rs,K,h=>by
  simp only [z8y] at h;obtain ⟨v,y,h,hr,hra⟩:=z7h (P:=P) hE hs (ht.at_ b) h;obtain ⟨v',hv,h⟩:=bind_some h;obtain ⟨vs,ys,hk,h1,h3,h4⟩:=z1u hE hs ht h;rw [q2k hv] at hra;refine ⟨v'::vs,y::ys,hk,by simp [h1],fun j u y' hu hy=>?_,x3 _ _ _ (w1i hr) h4⟩;cases j with
  | zero=>simp at hu hy;subst hu;subst hy;exact hra
  | succ j=>exact h3 j u y' (by simpa using hu) (by simpa using hy)
theorem x4y {fn:Func} {ys:List Value} (h:(fn.results.toList.mapM (x25 a)).run P w=.ok ys w):(results fn a.tmps).run P w=.ok (z8u ys) w:=by
 have e:results fn a.tmps=(do let vs <- fn.results.mapM (x25 a);pure (if h:vs.size=1 then vs[0] else .tuple vs)):=by
  rfl
 rw [e,Array.mapM_eq_mapM_toList];rcases ys with _ | ⟨y,_ | ⟨y2,ys⟩⟩ <;> simp [h,z8u]
theorem Inn.keepA {A:Nat->Prop} (h:Inn w Im ρ o ρ' o' A) {v:AV} {x:Value} (hv:RA w Im ρ o v x):RA w Im ρ' o' v x:=by
 have hS:∀ (v:SV) (x:Value),RS w Im ρ o v x->RS w Im ρ' o' v x:=by
  intro v x hv;cases v with
  | c c=>exact h.keep c x hv
  | agg cs=>obtain ⟨vs,rfl,h1,h2,h3⟩:=hv;exact ⟨vs,rfl,h1,fun i c y hc hy=>h.keep c y (h2 i c y hc hy),h3⟩
 cases v with
 | s v=>exact hS v x hv
 | tup ts=>obtain ⟨vs,rfl,h1,h2⟩:=hv;exact ⟨vs,rfl,h1,fun i c y hc hy=>hS c y (h2 i c y hc hy)⟩
theorem q82 {n j:Nat}:(blanks n)[j]? = if j<n then some (.box []) else none:=by
 unfold blanks;rw [List.getElem?_replicate]
theorem x8p {A:Nat->Prop}:∀ {args:List AV} {ys gs:List Value} {o:List AObj} {ρ:Nat->Option Value} {K:List AV->List AObj->R},SR w Im ρ o->OwnG args ys gs->(∀ (i:Nat) (a:AV) (y:Value),args[i]? = some a->ys[i]? = some y->isOwnA a=false->RA w Im ρ o a y) ->
  Toks w Im (ownC args) gs (Ow ρ)->(∀ i b,OB (ownC args) gs i b->A b)->inAs args o K=some r ->
  ∃ as o1 ρ1,K as o1=some r /\ SR w Im ρ1 o1 /\ Inn w Im ρ o ρ1 o1 A /\ as.length=args.length /\ ∀ (i:Nat) (a:AV) (y:Value),as[i]? = some a->ys[i]? = some y->RA w Im ρ1 o1 a y:=by
 intro args ys gs o ρ K hs hg
 induction hg generalizing o ρ K with
 | nil=>
  intro hr hT hA h;exact ⟨[],o,ρ,by simpa [inAs] using h,hs,Inn.refl,rfl,fun i a y ha=>by simp at ha⟩
 | @own e sh xs g as ys gs hg ih=>
  intro hr hT hA h;simp only [inAs] at h;simp only [ownC] at hT hA;have hnew:∀ b,Blk g b->OB (.own e sh xs::ownC as) (g::gs) 0 b:=fun b hb=>⟨_,_,_,g,rfl,rfl,hb⟩
  have htok:OwnRow w Im e sh xs g:=hT.tok 0 _ g rfl rfl;obtain ⟨h1,h2,h3⟩:=x7z (hs.x fun _=>False) htok (fun b hb=>hT.out 0 b (hnew b hb));have htl:Toks w Im (ownC as) gs (Ow ρ):=Toks.right (cs:=[.own e sh xs]) (ys:=[g]) rfl hT;obtain ⟨as',o1,ρ1,hk,hs1,hin,hl,hra⟩:=ih (h1.sr fun _ h=>h) (fun i a y ha hy hn=>h2.keepA (hr (i+1) a y (by simpa using ha) (by simpa using hy) hn))
   (htl.keep q2q fun i b hob=>⟨rfl,(htl.lt hob).2,fun hO=>by
    rcases h2.own b hO with h4 | h4
    ·exact htl.out i b hob h4
    ·have:=hT.dis _ _ b (hnew b h4) (OB.right (cs:=[.own e sh xs]) (ys:=[g]) rfl hob)
     simp at this
     omega⟩)
   (fun i b hob=>hA _ b (OB.right (cs:=[.own e sh xs]) (ys:=[g]) rfl hob)) h
  refine ⟨_,o1,ρ1,hk,hs1,(h2.mono fun b hb=>hA 0 b (hnew b hb)).trans hin,by simp [hl],fun i a y ha hy=>?_⟩;cases i with
  | zero=>
   simp at ha hy;subst ha;subst hy;exact hin.keep _ _ h3
  | succ i=>exact hra i a y (by simpa using ha) (by simpa using hy)
 | @no a y as ys gs hn hg ih=>
  intro hr hT hA h;rw [q7d hn] at hT hA;have h':inAs as o (fun bs o1=>K (a::bs) o1)=some r:=by
   simp only [inAs] at h;split at h
   ·simp [isOwnA] at hn
   ·exact h
  obtain ⟨as',o1,ρ1,hk,hs1,hin,hl,hra⟩:=ih hs (fun i b z hb hz hn=>hr (i+1) b z (by simpa using hb) (by simpa using hz) hn) hT hA h';refine ⟨_,o1,ρ1,hk,hs1,hin,by simp [hl],fun i b z hb hz=>?_⟩;cases i with
  | zero=>
   simp at hb hz;subst hb;subst hz;exact hin.keepA (hr 0 _ _ rfl rfl hn)
  | succ i=>exact hra i b z (by simpa using hb) (by simpa using hz)
theorem w3d {bs:List (List CV)} {ks:List (List Kind)} (h:q0y bs ks=true):bs.map List.length=ks.map List.length:=by simpa [q0y] using h
theorem x1n (hE : EnvOK P E) {Pf : FuncId → Option Func} (hP : ∀ f fn, Pf f = some fn → P.funcs[f]? = some fn ∧ fn.name ≠ "runtime.NumGoroutine") {call : FuncId → List AV → List (List CV) → R} (hC : ∀ g args bs r, call g args bs = some r → Contract P g args bs r)
  {n:Nat} {f:FuncId} {args:List AV} {bs:List (List CV)} (h:evBody Pf E call n f args bs=some r):Contract P f args bs r:=by
 unfold evBody at h;split at h
 ·rename_i fn hfn;split at h
  ·rename_i c hc;obtain ⟨hf,hname⟩:=hP f fn hfn;refine ⟨⟨fn,hf,by simp [hc],hname⟩,?_⟩;intro w Im bl vss ys gs pre;obtain ⟨hlen,h⟩:=q0j h;have hlen:=w3d hlen;have hkl:bs.length=(q6h (E.bk (keyOf f args)) (bs.map List.length)).length:=by have:=congrArg List.length hlen;simpa using this
   have hbase:List.replicate bs.length (.box [])=blanks bl.length:=by rw [pre.l1];rfl
   rw [hbase] at h;have hOw:∀ b,Ow (Ptrs bl) b->b∈bl:=by
    rintro b ⟨j,v,hv,hb⟩
    obtain ⟨b',hj,rfl⟩:=Option.map_eq_some_iff.1 hv;simp at hb;subst hb;exact List.mem_of_getElem? hj
   have hsx:SRx w Im (Ptrs bl) (blanks bl.length) (·∈List.range bs.length):=by
    refine ⟨?_,?_,?_,pre.im,?_⟩
    ·intro id x v hid hx hv;rw [q82] at hx;split at hx
     ·rename_i hlt;exact absurd (List.mem_range.2 (by rw [<- pre.l1];exact hlt)) hid
     ·cases hx
    ·intro i j v v' b hv hv' hb hb';obtain ⟨b1,hi,rfl⟩:=Option.map_eq_some_iff.1 hv;obtain ⟨b2,hj,rfl⟩:=Option.map_eq_some_iff.1 hv';simp at hb hb';subst hb;subst hb';exact pre.nd i j _ hi hj
    ·intro i v hv;obtain ⟨b1,hi,rfl⟩:=Option.map_eq_some_iff.1 hv;have hlt:=(List.getElem?_eq_some_iff.1 hi).1;refine ⟨by simpa [blanks] using hlt,fun b hb=>?_⟩;simp at hb;subst hb;have hl2:vss.length=bs.length:=by have:=congrArg List.length pre.l2;simpa using this
     have hv2:i<vss.length:=by rw [hl2,<- pre.l1];exact hlt
     obtain ⟨⟨⟨e,he⟩,_⟩,_⟩:=pre.box i b1 vss[i] hi (by simp [hv2]);exact (Array.getElem?_eq_some_iff.1 he).1
    ·intro i hd;rw [q82] at hd;split at hd <;> simp at hd
   obtain ⟨o0,ρ0,h,hs0,hin0,hT0⟩:=z3v (A:=OBs (bs.flatten++ownC args) (vss.flatten++gs)) (bsr:=bs) (vss:=vss) (cs:=ownC args) (ys:=gs) hsx hlen (pre.l2.trans hlen) (by simpa using hkl) (fun t _=>by rw [Nat.zero_add])
    (fun t i vs hi hv=>by
     have hi':=List.getElem?_eq_some_iff.1 hi;obtain ⟨hlt,rfl⟩:=hi';simp only [List.length_range] at hlt;simp only [List.getElem_range];have hb:t<bl.length:=by rw [pre.l1];exact hlt
     exact ⟨bl[t],[],by rw [q82,if_pos hb],by simp [Ptrs,hb],pre.box t bl[t] vs (by simp [hb]) hv⟩)
    (pre.tok.mono hOw) (fun i b hob=>⟨i,hob⟩) h
   obtain ⟨args',o1,ρ1,h,hs1,hinA,hal,hargs⟩:=x8p (A:=OBs (bs.flatten++ownC args) (vss.flatten++gs)) hs0 pre.og (fun i a y ha hy hn=>hin0.keepA (pre.arg i a y ha hy hn)) hT0 (fun i b hob=>⟨_,OB.right (z1m pre.l2) hob⟩) h;have hin:=hin0.trans hinA;have hl3:ys.length=args'.length:=by rw [hal];exact pre.og.len.1
   let B:Base:=⟨w,Im,DD bl (bs.flatten++ownC args) (vss.flatten++gs),bl⟩
   have hnow:Now B w Im ρ1 o1:=by
    refine ⟨Wd.refl w,hs1,fun _ _ _=>rfl,fun b hb=>?_,fun b hb=>⟨hb,rfl⟩,fun b hb=>.inl hb,fun j b hj=>?_⟩
    ·rcases hin.own b hb with h1 | h1
     ·exact .inr (.inl (hOw b h1))
     ·exact .inr (.inr h1)
    ·refine hin.keep (.bptr j 0) _ ?_;have hlt:j<bl.length:=(List.getElem?_eq_some_iff.1 hj).1;have hb:(blanks bl.length)[j]? = some (.box []):=by rw [q82,if_pos hlt]
     simp only [RC,RB,hb];exact ⟨b,by simp only [Ptrs];rw [show bl[j]? = some b from hj];rfl,rfl⟩
   have hsta:Sta B ⟨args'++List.replicate (fn.ntmps-args'.length) .undef,o1⟩ { tmps:=ys.toArray++Array.replicate (fn.ntmps-ys.toArray.size) undef,defers:=[] } w:=by
    refine ⟨⟨Im,ρ1,hnow,⟨by simp [hl3],fun i=>?_⟩⟩,rfl⟩;rcases Nat.lt_or_ge i args'.length with hi | hi
    ·have h1:getT (args'++List.replicate (fn.ntmps-args'.length) .undef) i=args'[i]:=by simp [getT,List.getElem?_append_left hi,hi]
     have hiy:i<ys.length:=by rw [hl3];exact hi
     have h2:(ys.toArray++Array.replicate (fn.ntmps-ys.toArray.size) undef).getD i undef=ys[i]:=by
      rw [Array.getD_eq_getD_getElem?,Array.getElem?_append_left (by simpa using hiy)];simp [hiy]
     show RA w Im ρ1 o1 (getT (args'++List.replicate (fn.ntmps-args'.length) .undef) i) ((ys.toArray++Array.replicate (fn.ntmps-ys.toArray.size) undef).getD i undef)
     rw [h1,h2];exact hargs i args'[i] ys[i] (by simp [hi]) (by simp [hiy])
    ·have h1:getT (args'++List.replicate (fn.ntmps-args'.length) .undef) i=.undef:=by
      simp only [getT,List.getElem?_append_right hi,List.getElem?_replicate]
      split <;> rfl
     show RA w Im ρ1 o1 (getT (args'++List.replicate (fn.ntmps-args'.length) .undef) i) _
     rw [h1]
     trivial
   refine calls_of_wp hf hc (x1o (B:=B) hE hC pre.l1.symm c ?_ h hsta);intro e s a w' hk hs;have fin:z8y E s fn.results.toList (fun rs=>q6z (q6h (E.bk (keyOf f args)) (bs.map List.length)) (List.range bs.length) s.o fun bs' o1=>z08 (E.rk f) rs o1 fun rs' _=>some (rs',bs'))=some r ->
     a.defers=[] /\ ∃ v,(results fn a.tmps).run P w'=.ok v w' /\ ∃ v' Im' vss' zs,Ending.returned v=.returned v' /\ Post w Im bl (bs.flatten++ownC args) (vss.flatten++gs) r v' w' Im' vss' zs:=by
    intro hk;obtain ⟨⟨Im1,ρ2,hn,ht⟩,hd⟩:=hs;obtain ⟨rs,ysr,hk,hrl,hrr,hrun⟩:=z1u hE hn.sr ht hk;refine ⟨hd,z8u ysr,x4y hrun,?_⟩;have hbj:∀ j,j<bl.length->∃ b,bl[j]? = some b /\ RB ρ2 s.o j 0 (.pointer (some ⟨b,0,none⟩)):=fun j hj=>⟨bl[j],by simp [hj],hn.hd j bl[j] (by simp [B,hj])⟩
    obtain ⟨dss,o2,Im2,ρ3,vss',hk,hst2,hbx2,hl1,hl2,hl3,hT2,hO2,hbox2⟩:=z1r hn.sr Toks.nil (fun id hid c0 ho=>by
     obtain ⟨b,_,hb⟩:=hbj id (by rw [pre.l1];simpa using hid);simp only [RB,ho] at hb;obtain ⟨b',hb',_⟩:=hb;exact ⟨b',hb'⟩) hk
    obtain ⟨ds,o3,Im3,ρ4,zs,hk,hst3,hbx3,hret,hlk,hT3,hO3⟩:=z94 hst2.sr hT2 hrl (fun i c y hc hy=>hst2.keepS _ _ (hrr i c y hc hy)) hk;simp only [List.nil_append] at hT2 hO2 hT3 hO3;have hrr:r=(ds,dss):=by simpa using hk.symm
    subst hrr;have hst:=hst2.trans hst3;have hbx:=hbx2.trans hbx3;have hn3:=hn.step hst;have hdl:dss.length=bl.length:=by rw [hl1,pre.l1];simp
    have hbb:∀ (j b:Nat),bl[j]? = some b->∃ vs ds0,BoxAt w' b vs /\ vss'[j]? = some vs /\ dss[j]? = some ds0 /\ ds0.length=vs.length /\ ρ4 j=some (.pointer (some ⟨b,0,none⟩)) /\ ¬ Im3 b:=by
     intro j b hj;have hlt:j<bs.length:=by rw [<- pre.l1];exact (List.getElem?_eq_some_iff.1 hj).1
     obtain ⟨b',vs,ds0,c0,h1,h2,h3,h4,h5,h6⟩:=hbox2 j j (List.getElem?_range hlt);have h7:=hn.hd j b hj;simp only [RB,h6] at h7;obtain ⟨b2,h8,h9⟩:=h7;obtain rfl:b=b2:=by simpa using h9
     rw [h1] at h8;obtain rfl:b'=b:=by simpa using h8
     have h10:=(hbx j c0).1 h6;have h11:=h10.2.trans h1;obtain ⟨b3,_,_,h12,_,_,_,_,hI⟩:=hst.sr.ob j _ _ h10.1 h11;obtain rfl:b'=b3:=by simpa using h12
     exact ⟨vs,ds0,h2,h3,h4,h5,h11,hI⟩
    refine ⟨z8u ysr,Im3,vss',zs,rfl,⟨hn3.wd,hn3.fr,hn3.im,fun b hb=>⟨hn3.imn b hb,hst.sr.im b hb⟩,hdl,?_,?_,?_,?_,⟨ysr,hret,rfl⟩⟩⟩
    ·apply List.ext_getElem?;intro j;rw [List.getElem?_map,List.getElem?_map];rcases Nat.lt_or_ge j bl.length with hj | hj
     ·obtain ⟨vs,ds0,_,h3,h4,h5,_⟩:=hbb j bl[j] (by simp [hj]);rw [h3,h4];simp [h5]
     ·rw [List.getElem?_eq_none (by rw [hl2,List.length_range,<- pre.l1];exact hj),List.getElem?_eq_none (by show dss.length<=j;omega)];rfl
    ·intro j b vs hj hv;obtain ⟨vs2,ds0,h2,h3,_,_,_,hI⟩:=hbb j b hj;rw [hv] at h3;injection h3 with h3
     subst h3;exact ⟨h2,hI⟩
    ·refine hT3.mono fun b hb=>?_
     obtain ⟨j,hj⟩:=List.getElem?_of_mem hb;obtain ⟨_,_,_,_,_,_,h6,_⟩:=hbb j b hj;exact ⟨j,_,h6,rfl⟩
    ·intro b hb;have hob:Ow ρ2 b:=by
      rcases hO3 b hb with h1 | h1
      ·rcases hO2 b h1 with ⟨i,_,_,_,_,h2,_⟩ | h2
       ·simp at h2
       ·exact h2
      ·exact hst2.own b h1
     exact hn.ow b hob
   cases e with
   | exit m=>simp [endK] at hk
   | normal=>exact fin (by simpa [endK] using hk)
   | ret=>exact fin (by simpa [endK] using hk)
  ·cases h
 ·cases h
end
end Go.Dp
namespace Go.Dp
section
variable {P:Program} {E:Env} {w w':World} {Im Im':Nat->Prop} {ρ ρ':Nat->Option Value} {o o':List AObj} {r:List SV × List (List CV)}
def PfOK (P : Program) (Pf : FuncId → Option Func) : Prop := ∀ f fn, Pf f = some fn → P.funcs[f]? = some fn ∧ fn.name ≠ "runtime.NumGoroutine"
theorem q4j (hE:EnvOK P E) {Pf:FuncId->Option Func} (hP:PfOK P Pf) {T:FuncId->List AV->List (List CV)->R} (hT:∀ f args bs r,T f args bs=some r->Contract P f args bs r) :
  ∀ (k:Nat) {f:FuncId} {args:List AV} {bs:List (List CV)} {r:List SV × List (List CV)},evF Pf E T k f args bs=some r->Contract P f args bs r
 | 0,f,args,bs,r,h=>by simp [evF] at h
 | k+1,f,args,bs,r,h=>by
  simp only [evF] at h;split at h
  ·rename_i r' hr;injection h with h
   subst h;exact hT _ _ _ _ hr
  ·exact x1n hE hP (fun g args bs r hg=>q4j hE hP hT k hg) h
theorem Contract.calls {f:FuncId} {args:List PV} {v:PV} (h:Contract P f (args.map .p) [] ([.c (.p v)],[])) (w:World) (Im:Nat->Prop) (him:∀ b,Im b->b<w.heap.size) (ys:List Value) (hl:ys.length=args.length)
  (hr:∀ (i:Nat) (a:PV) (y:Value),args[i]? = some a->ys[i]? = some y->RP w Im a y):Calls P f ys.toArray w fun e w'=>∃ y Im',e=.returned y /\ RP w' Im' v y /\ Wd w w' /\ ∀ b,b<w.heap.size->w'.heap[b]? = w.heap[b]?:=by
 have hno:∀ a∈args.map (fun v=>(.p v:AV)),isOwnA a=false:=by
  intro a ha;obtain ⟨v,_,rfl⟩:=List.mem_map.1 ha;rfl
 obtain ⟨hog,hoc⟩:=OwnG.none (ys:=ys) (by simpa using hl) hno;refine Calls.mono (h.2 w Im [] [] ys [] ⟨him,by simp,rfl,rfl,by simp,by rw [hoc];exact Toks.nil,hog,?_⟩) ?_
 ·intro i a y ha hy _;simp only [List.getElem?_map,Option.map_eq_some_iff] at ha;obtain ⟨a',ha',rfl⟩:=ha;exact hr i a' y ha' hy
 ·rw [hoc]
  rintro e w' ⟨y,Im',vss',zs,rfl,post⟩
  obtain ⟨y0,hret,rfl⟩:=post.ret;cases hret with
  | @cons _ y1 _ _ _ _ h0 hrest=>
   cases hrest;simp only [RetS] at h0;obtain ⟨g,rfl,hg⟩:=h0;have hgr:RP w' Im' v g:=by
    have:=post.tok.tok vss'.flatten.length (.p v) g
    have hv0:vss'=[]:=by simpa using post.l2
    subst hv0;exact post.tok.tok 0 _ g rfl rfl
   rw [hgr.mainV] at hg;have hg:=hg.symm;subst hg;have hv:vss'=[]:=by simpa using post.l2
   subst hv;refine ⟨y1,Im',rfl,post.tok.tok 0 _ y1 rfl rfl,post.wd,fun b hb=>post.fr b hb ?_⟩
   rintro (hd | ⟨i,_,_,_,_,hd,_⟩) <;> simp at hd
end
end Go.Dp
namespace Go.Dp
def lk {α:Type}:List (Nat × α)->Nat->Option α
 | [],_=>none
 | (k,v)::r,T=>match k==T with
  | true=>some v
  | false=>lk r T
theorem q3q {α:Type} {T:Nat} {v:α}:∀ {l:List (Nat × α)},lk l T=some v->(T,v)∈l
 | [],h=>by simp [lk] at h
 | (k,u)::r,h=>by
  simp only [lk] at h;split at h
  ·rename_i he;simp at he;subst he;injection h with h
   subst h;simp
  ·exact List.mem_cons_of_mem _ (q3q h)
structure Tabs where
 sl:List (Nat × (TypeId × Nat × Nat))
 sh:List (Nat × Nat)
 fl:List (Nat × List (Option (Nat × Nat)))
 ik:List (Nat × IntKind)
 zr:List (Nat × List PV)
 eqs:List (Nat × List Nat)
 bl:List (Nat × Unit)
 st:List (Nat × Unit)
 flat:List (Nat × Unit)
 ar:List (Nat × Nat):=[]
def Tabs.env (t:Tabs) (live:List (Nat × List (Nat × List Nat))) (rk:List (Nat × List RK)) (bk:List (Nat × List (List Kind))) (plain:List (Nat × Unit)) (ct:List (Nat × CT)) (ak:List (Nat × List CT)) (own:List (Nat × List (Nat × List (Option Nat × Nat × Et × Nat)))) (cut:List (Nat × List (Nat × List Nat))) (nest:List (Nat × Kd):=[]) (sorts:List (Nat × Nat):=[]) (ao:List (Nat × List (Option (Et × Nat))):=[]) (ext:List (Nat × Nat):=[]) (ro:List (Nat × Unit):=[]):Env where
 ro q:=(lk ro q).isSome
 ar T:=(lk t.ar T).getD 0
 ao f:=(lk ao f).getD []
 ext g:=(lk ext g).getD 0
 sorts g:=(lk sorts g).getD 0
 nest:=lk nest
 cut f b:=match lk cut f with
  | some l=>lk l b
  | none=>none
 ct T:=(lk ct T).getD (.one .any)
 ak f:=(lk ak f).getD []
 own f b:=match lk own f with
  | some l=>(lk l b).getD []
  | none=>[]
 sl:=lk t.sl
 sh:=lk t.sh
 fl T f:=match lk t.fl T with
  | some l=>match l[f]? with
   | some x=>x
   | none=>none
  | none=>none
 ik:=lk t.ik
 zr:=lk t.zr
 eqs:=lk t.eqs
 bl T:=(lk t.bl T).isSome
 st T:=(lk t.st T).isSome
 flat T:=(lk t.flat T).isSome
 live f b:=match lk live f with
  | some l=>(lk l b).getD []
  | none=>[]
 rk f:=(lk rk f).getD []
 bk:=lk bk
 plain f:=(lk plain f).isSome
def cellOk:PV->Value->Bool
 | .int k n,.int k' n'=>decide (k=k')&&decide (n=n')
 | .bool b,.bool b'=>b==b'
 | .str s,.string s'=>decide (s=s')
 | .row _ f [],.slice none 0 0=>f != 3
 | _,_=>false
def q9e:List PV->List Value->Bool
 | [],[]=>true
 | a::as,b::bs=>cellOk a b&&a.one&&q9e as bs
 | _,_=>false
def plainField (P:Program) (n k:Nat) (f:Field):Bool :=
 f.offset == n && f.name != "_" && (match k, P.underlying f.type with | 0, some (.int _) => true | 1, some .bool => true | 2, some .string => true | _, _ => false)
def q4a (P:Program):Nat->List Nat->List Field->Bool
 | _,[],[]=>true
 | n,k::ks,f::fs=>plainField P n k f&&q4a P (n+1) ks fs
 | _,_,_=>false
def Tabs.ok (P:Program) (t:Tabs):Bool :=
 P.follows .mixedOrders &&
 (t.sl.all fun (T,e,sh,by_)=>(match P.underlying T with | some (.slice e')=>e'==e | _=>false)&&(match P.info? e with | some i=>i.size==csz sh&&i.bytes==by_&&(match i.zero with | some z=>z.cells.size==csz sh | none=>false) | none=>false)&&(match lk t.sh e with | some s=>s==sh | none=>false)&&decide (0<by_)) &&
 (t.sh.all fun (T,n)=>match n with
  | 0=>(match P.underlying T with | some (.struct _) | some (.array _ _) | none=>false | some _=>true)&&(match P.info? T with | some i=>i.size==1 | none=>false)
  | n+1=>match P.underlying T with
   | some (.struct fs)=>(match P.info? T with | some i=>i.size==n+1 | none=>false)&&fs.toList.all fun fd=>(P.info? fd.type).isSome
   | some (.array _ e)=>(match P.info? T with | some i=>i.size==n+1 | none=>false)&&(match P.info? e with | some i=>i.size==1 | none=>false)
   | _=>false) &&
 (t.fl.all fun (T,l)=>match P.underlying T with
  | some (.struct fs)=>(List.range l.length).all fun f=>match l[f]? with
   | some (some (off,sh))=>(match fs[f]? with | some fd=>fd.offset==off&&(match P.info? fd.type with | some i=>i.size==csz sh | none=>false)&&(sh != 0||(match P.underlying fd.type with | some (.struct _) | some (.array _ _) | none=>false | some _=>true)) | none=>false)
   | _=>true
  | _=>false) &&
 (t.ik.all fun (T,k)=>match P.underlying T with | some (.int k')=>decide (k'=k) | _=>false) &&
 (t.zr.all fun (T,zs)=>(match P.info? T with | some i=>(match i.zero with | some z=>q9e zs z.cells.toList | none=>false) | none=>false)&&(match lk t.sh T with | some s=>zs.length==csz s | none=>false)) &&
 (t.eqs.all fun (T,ks)=>!P.stoodInHeld T&&!P.eqGuardType P.depth T&&(match P.underlying T with | some (.struct fs)=>q4a P 0 ks fs.toList | _=>false)) &&
 (t.bl.all fun (T,_)=>match P.underlying T with | some .bool=>true | _=>false) &&
 (t.st.all fun (T,_)=>match P.underlying T with | some .string=>true | _=>false) &&
 (t.ar.all fun (T,m)=>match P.underlying T with | some (.array m' e)=>m'==m&&(match P.info? e with | some i=>i.size==1 | none=>false) | _=>false)
section
variable {P:Program} {w:World} {Im:Nat->Prop}
theorem x09 {a:PV} {y:Value} (h:cellOk a y=true) (w:World) (Im:Nat->Prop):RP w Im a y:=by
 unfold cellOk at h;split at h
 · simp only [Bool.and_eq_true,decide_eq_true_eq] at h;obtain ⟨rfl,rfl⟩:=h;exact .int _ _
 · simp at h;subst h;exact .bool _
 · simp at h;subst h;exact .str _
 · exact .nil _ _ (by simpa using h)
 · cases h
theorem z4u:∀ {as:List PV} {ys:List Value},q9e as ys=true->ys.length=as.length /\ (∀ c∈as,c.one=true) /\ ∀ (i:Nat) (c:PV) (y:Value),as[i]? = some c->ys[i]? = some y->∀ w Im,RP w Im c y
 | [],[],h=>⟨rfl,by simp,fun i c y hc=>by simp at hc⟩
 | a::as,b::bs,h=>by
  simp only [q9e,Bool.and_eq_true] at h;obtain ⟨h1,h2,h3⟩:=z4u h.2;refine ⟨by simp [h1],fun c hc=>?_,fun i c y hc hy=>?_⟩
  ·rcases List.mem_cons.1 hc with rfl | hc
   ·exact h.1.2
   ·exact h2 c hc
  ·cases i with
   | zero=>simp at hc hy;subst hc;subst hy;exact fun w Im=>x09 h.1.1 w Im
   | succ i=>exact h3 i c y (by simpa using hc) (by simpa using hy)
 | [],_::_,h=>by simp [q9e] at h
 | _::_,[],h=>by simp [q9e] at h
theorem y9d {n k d:Nat} {f:Field} (hf:plainField P n k f=true) {xs ys:Array Value} {a b:PV} {x y:Value} {r:Bool} (hx:xs[n]? = some x) (hy:ys[n]? = some y) (ha:RP w Im a x) (hb:RP w Im b y) (h:cellEq k a b=some r) :
  (part f.type xs f.offset).run P w = .ok x w ∧ (part f.type ys f.offset).run P w = .ok y w ∧ (Op.equalIn (d + 1) f.type x y).run P w = .ok r w ∧ f.name ≠ "_" := by
 simp only [plainField,Bool.and_eq_true,beq_iff_eq,bne_iff_ne] at hf;obtain ⟨⟨rfl,hn⟩,hu⟩:=hf;split at hu
 ·rename_i k2 hk;cases ha <;> cases hb <;> simp only [cellEq] at h <;> first | (cases h;done) | skip
  split at h
  ·injection h with h
   subst h;rename_i he;subst he;have hagg:(isAgg f.type).run P w=.ok false w:=by simp [isAgg,run_underlying hk]
   exact ⟨by simp [part,hagg,hx],by simp [part,hagg,hy],run_equalIn_int w d _ _ _ _ _ hk,hn⟩
  ·cases h
 ·rename_i hk;cases ha <;> cases hb <;> simp only [cellEq] at h <;> first | (cases h;done) | skip
  injection h with h
  subst h;have hagg:(isAgg f.type).run P w=.ok false w:=by simp [isAgg,run_underlying hk]
  exact ⟨by simp [part,hagg,hx],by simp [part,hagg,hy],run_equalIn_bool' w d _ _ _ hk,hn⟩
 ·rename_i hk;cases ha <;> cases hb <;> simp only [cellEq] at h <;> first | (cases h;done) | skip
  injection h with h
  subst h;have hagg:(isAgg f.type).run P w=.ok false w:=by simp [isAgg,run_underlying hk]
  exact ⟨by simp [part,hagg,hx],by simp [part,hagg,hy],run_equalIn_string w d _ _ _ hk,hn⟩
 ·cases hu
theorem z2o {d:Nat} {xs ys:Array Value}:∀ {n:Nat} {ks:List Nat} {fs:List Field} {as bs:List PV} {r:Bool},q4a P n ks fs=true->(∀ (i:Nat) (c:PV),as[i]? = some c->∃ y,xs[n+i]? = some y /\ RP w Im c y) ->
  (∀ (i:Nat) (c:PV),bs[i]? = some c->∃ y,ys[n+i]? = some y /\ RP w Im c y)->cellsEq ks as bs=some r->(Op.eqFields (d+1) xs ys fs).run P w=.ok r w
 | n,[],[],[],[],r,_,_,_,h=>by simp [cellsEq] at h;subst h;simp [Op.eqFields]
 | n,k::ks,f::fs,a::as,b::bs,r,hp,ha,hb,h=>by
  simp only [q4a,Bool.and_eq_true] at hp;simp only [cellsEq] at h;split at h
  ·rename_i u v h1 h2;injection h with h
   subst h;obtain ⟨x,hx,hax⟩:=ha 0 a rfl;obtain ⟨y,hy,hby⟩:=hb 0 b rfl;obtain ⟨g1,g2,g3,g4⟩:=y9d (d:=d) hp.1 (by simpa using hx) (by simpa using hy) hax hby h1;have ih:=z2o (d:=d) (n:=n+1) hp.2 (fun i c hc=>by
    obtain ⟨z,hz,hr⟩:=ha (i+1) c (by simpa using hc);exact ⟨z,by rw [show n+1+i=n+(i+1) by omega];exact hz,hr⟩) (fun i c hc=>by
    obtain ⟨z,hz,hr⟩:=hb (i+1) c (by simpa using hc);exact ⟨z,by rw [show n+1+i=n+(i+1) by omega];exact hz,hr⟩) h2
   simp only [Op.eqFields,if_pos g4,Sem.run_bind,g1,g2,g3,Result.andThen_ok];cases u
   ·simp
   ·simp [ih]
  ·cases h
 | _,[],_::_,_,_,_,hp,_,_,_=>by simp [q4a] at hp
 | _,_::_,[],_,_,_,hp,_,_,_=>by simp [q4a] at hp
 | _,[],[],_::_,_,_,_,_,_,h=>by simp [cellsEq] at h
 | _,[],[],[],_::_,_,_,_,_,h=>by simp [cellsEq] at h
 | _,_::_,_::_,[],_,_,_,_,_,h=>by simp [cellsEq] at h
 | _,_::_,_::_,_::_,[],_,_,_,_,h=>by simp [cellsEq] at h
theorem w01 {T:TypeId} {ks:List Nat} {fs:Array Field} (h1:P.stoodInHeld T=false) (h2:P.eqGuardType P.depth T=false) (hu:P.underlying T=some (.struct fs)) (hp:q4a P 0 ks fs.toList=true)
  (w:World) (x y:Operand) (Im:Nat->Prop) (as bs:List PV) (vs us:Array Value) (b:Bool) (ha:RP w Im (.agg as) (.agg vs)) (hb:RP w Im (.agg bs) (.agg us)) (h:cellsEq ks as bs=some b) :
  (do eqGuard .eql T x y (.agg vs) (.agg us);binOp .eql T (.agg vs) (.agg us)).run P w=.ok (.bool b) w /\ (do eqGuard .neq T x y (.agg vs) (.agg us);binOp .neq T (.agg vs) (.agg us)).run P w=.ok (.bool !b) w:=by
 have hfs:P.fieldsOf T=fs:=by simp [Program.fieldsOf,hu]
 have key:(Op.equalIn 10000 T (.agg vs) (.agg us)).run P w=.ok b w:=by
  rw [run_equalIn_agg w 9999 T vs us (by rw [hfs];exact hu) h1,hfs];refine z2o (Im:=Im) (d:=9998) hp ?_ ?_ h
  ·intro i c hc;cases ha with
   | agg _ _ hl _ hh=>
    have hi:i<vs.size:=by rw [hl];exact (List.getElem?_eq_some_iff.1 hc).1
    exact ⟨vs[i],by simp [hi],hh i c vs[i] hc (by simp [hi])⟩
  ·intro i c hc;cases hb with
   | agg _ _ hl _ hh=>
    have hi:i<us.size:=by rw [hl];exact (List.getElem?_eq_some_iff.1 hc).1
    exact ⟨us[i],by simp [hi],hh i c us[i] hc (by simp [hi])⟩
 constructor
 ·simp [run_eqGuard_agg w _ T x y vs us h2,run_eql_struct,key]
 ·simp [run_eqGuard_agg w _ T x y vs us h2,run_neq_struct,key]
theorem Tabs.sound {t:Tabs} (h:t.ok P=true) {live:List (Nat × List (Nat × List Nat))} {rk:List (Nat × List RK)} {bk:List (Nat × List (List Kind))} {plain:List (Nat × Unit)} {ct:List (Nat × CT)} {ak:List (Nat × List CT)} {own:List (Nat × List (Nat × List (Option Nat × Nat × Et × Nat)))} {cut:List (Nat × List (Nat × List Nat))} {nest:List (Nat × Kd)} {sorts:List (Nat × Nat)} (hS:∀ g n,(g,n)∈sorts->SortOK P n g) {ao:List (Nat × List (Option (Et × Nat)))} {ext:List (Nat × Nat)} (hX:∀ g n,(g,n)∈ext->ExtOK P n g) {ro:List (Nat × Unit)}:EnvOK P (t.env live rk bk plain ct ak own cut nest sorts ao ext ro):=by
 simp only [Tabs.ok,Bool.and_eq_true,List.all_eq_true] at h;obtain ⟨⟨⟨⟨⟨⟨⟨⟨⟨hmix,hsl⟩,hsh⟩,hfl⟩,hik⟩,hzr⟩,heqs⟩,hbl⟩,hst⟩,har⟩:=h;refine ⟨hmix,?_,?_,?_,?_,?_,?_,?_,?_,fun g n hg hn=>?_,fun g n hg=>?_,?_,?_⟩
 rotate_left 8
 ·have hg':(lk sorts g).getD 0=n:=hg;cases hl:lk sorts g with
  | none=>rw [hl] at hg';exact absurd hg'.symm hn
  | some m=>
   rw [hl] at hg';have e:m=n:=hg';subst e;exact hS g m (q3q hl)
 ·have hg':(lk ext g).getD 0=n+1:=hg;cases hl:lk ext g with
  | none=>rw [hl] at hg';cases hg'
  | some m=>
   rw [hl] at hg';have e:m=n+1:=hg';subst e;exact hX g _ (q3q hl)
 rotate_right 8
 ·intro T e sh by_ hT
  have:=hsl _ (q3q hT)
  simp only [Bool.and_eq_true,decide_eq_true_eq] at this;obtain ⟨⟨⟨h1,h2⟩,h3⟩,h4⟩:=this;split at h1
  ·rename_i e' he;simp at h1;subst h1;split at h2
   ·rename_i i hi;simp only [Bool.and_eq_true,beq_iff_eq] at h2;split at h3
    ·rename_i s hs;simp at h3;subst h3;obtain ⟨⟨h5,h6⟩,h7⟩:=h2;split at h7
     ·rename_i z hz;simp at h7;exact ⟨he,⟨i,z,hi,h5,h6,hz,h7⟩,hs,h4⟩
     ·cases h7
    ·cases h3
   ·cases h2
  ·cases h1
 ·intro T hT
  have:=hsh _ (q3q hT)
  simp only [Bool.and_eq_true] at this;obtain ⟨h1,h2⟩:=this;split at h2
  ·rename_i i hi;simp at h2;split at h1
   ·cases h1
   ·cases h1
   ·cases h1
   ·rename_i d hn1 hn2 hd;exact ⟨d,i,hd,fun fs e=>hn1 fs e,fun n e' e=>hn2 n e' e,hi,h2⟩
  ·cases h2
 ·intro T n hT
  have:=hsh _ (q3q hT)
  simp only at this
  split at this
  ·rename_i fs hu;simp only [Bool.and_eq_true,List.all_eq_true] at this;obtain ⟨h1,h2⟩:=this;split at h1
   ·rename_i i hi;simp at h1;exact ⟨_,i,hu,hi,h1,.inl ⟨fs,rfl,fun fd hfd=>Option.isSome_iff_exists.1 (h2 fd hfd)⟩⟩
   ·cases h1
  ·rename_i m e hu;simp only [Bool.and_eq_true] at this;obtain ⟨h1,h2⟩:=this;split at h1
   ·rename_i i hi;split at h2
    ·rename_i ie hie;exact ⟨_,i,hu,hi,by simpa using h1,.inr ⟨m,e,ie,rfl,hie,by simpa using h2⟩⟩
    ·cases h2
   ·cases h1
  ·cases this
 ·intro T m hT;have hT':(lk t.ar T).getD 0=m+1:=hT;cases hl:lk t.ar T with
  | none=>rw [hl] at hT';cases hT'
  | some m'=>
   rw [hl] at hT';have e1:m'=m+1:=hT';subst e1
   have:=har _ (q3q hl)
   simp only at this
   split at this
   ·rename_i m' e hu;simp only [Bool.and_eq_true,beq_iff_eq] at this;obtain ⟨rfl,h2⟩:=this;split at h2
    ·rename_i ie hie;exact ⟨e,ie,hu,hie,by simpa using h2⟩
    ·cases h2
   ·cases this
 ·intro T f off fsh hT;simp only [Tabs.env] at hT;split at hT
  ·rename_i l hl;split at hT
   ·rename_i x hx;subst hT
    have:=hfl _ (q3q hl)
    simp only at this
    split at this
    ·rename_i fs hu;simp only [List.all_eq_true,List.mem_range] at this
     have:=this f (List.getElem?_eq_some_iff.1 hx).1
     rw [hx] at this
     simp only at this
     split at this
     ·rename_i fd hfd;simp only [Bool.and_eq_true,beq_iff_eq] at this;obtain ⟨⟨h1,h2⟩,h3⟩:=this;split at h2
      ·rename_i i hi;simp at h2;refine ⟨fs,fd,i,hu,hfd,h1,hi,h2,fun h0=>?_⟩;subst h0;simp only [bne_self_eq_false,Bool.false_or] at h3;split at h3
       ·cases h3
       ·cases h3
       ·cases h3
       ·rename_i d hn1 hn2 hd;exact ⟨d,hd,fun fs e=>hn1 fs e,fun n e' e=>hn2 n e' e⟩
      ·cases h2
     ·cases this
    ·cases this
   ·cases hT
  ·cases hT
 ·intro T k hT
  have:=hik _ (q3q hT)
  simp only at this
  split at this
  ·rename_i k' hk;simp at this;subst this;exact hk
  ·cases this
 ·intro T zs hT
  have:=hzr _ (q3q hT)
  simp only [Bool.and_eq_true] at this;obtain ⟨h1,h2⟩:=this;split at h1
  ·rename_i i hi;split at h1
   ·rename_i z hz;split at h2
    ·rename_i s hs;simp at h2;obtain ⟨g1,g2,g3⟩:=z4u h1;exact ⟨i,z,s,hi,hz,by simpa using g1,hs,h2,g2,fun j c y hc hy=>g3 j c y hc (by simpa using hy)⟩
    ·cases h2
   ·cases h1
  ·cases h1
 ·intro T hT;obtain ⟨u,hu⟩:=Option.isSome_iff_exists.1 hT
  have:=hbl _ (q3q hu)
  simp only at this
  split at this
  ·assumption
  ·cases this
 ·intro T hT;obtain ⟨u,hu⟩:=Option.isSome_iff_exists.1 hT
  have:=hst _ (q3q hu)
  simp only at this
  split at this
  ·assumption
  ·cases this
 ·intro T ks hT w x y Im as bs vs us b ha hb hc
  have:=heqs _ (q3q hT)
  simp only [Bool.and_eq_true,Bool.not_eq_true'] at this;obtain ⟨⟨h1,h2⟩,h3⟩:=this;split at h3
  ·rename_i fs hu;exact w01 h1 h2 hu h3 w x y Im as bs vs us b ha hb hc
  ·cases h3
end
theorem w4a {P:Program}:∀ x∈([]:List (Nat × Func)),P.funcs[x.1]? = some x.2:=by simp
theorem q0a {P:Program} {n:Nat} {fn:Func} {l:List (Nat × Func)} (h:P.funcs[n]? = some fn) (hl:∀ x∈l,P.funcs[x.1]? = some x.2):∀ x∈(n,fn)::l,P.funcs[x.1]? = some x.2:=by
 intro x hx;rcases List.mem_cons.1 hx with rfl | hx
 · exact h
 · exact hl x hx
theorem w6i {P : Program} {tab : List (Nat × Func)} (h : ∀ x ∈ tab, P.funcs[x.1]? = some x.2) (hn : (tab.all fun x => x.2.name != "runtime.NumGoroutine") = true) : PfOK P (lk tab) := by
 intro f fn hf;have hm:=q3q hf;exact ⟨h _ hm,by have:=List.all_eq_true.1 hn _ hm;simpa using this⟩
end Go.Dp
namespace Go.Dp
theorem RP.noNil {w:World} {Im:Nat->Prop} {sh:Nat} {xs:List PV} {y:Value} (h:RP w Im (.row sh 0 xs) y):(xs=[] /\ RP w Im (.row sh 2 []) y)∨RP w Im (.row sh 3 xs) y:=by
 cases h with
 | nil=>exact .inl ⟨rfl,.nil _ _ (by decide)⟩
 | row _ _ _ a cap g hf hs hc hm h1 him hsh hcell hrec=>exact .inr (.row _ _ _ a cap g (by decide) hs hc hm (by simp) him hsh hcell hrec)
theorem q66 {P:Program} {f:FuncId} {e sh:Nat} {xs:List PV} (h2:Contract P f [.s (.c (.p (.row sh 2 [])))] [] ([.c (.own e sh [])],[]))
  (h3:Contract P f [.s (.c (.p (.row sh 3 xs)))] [] ([.c (.own e sh xs)],[])):Contract P f [.s (.c (.p (.row sh 0 xs)))] [] ([.c (.own e sh xs)],[]):=by
 refine ⟨h2.1,fun w Im bl vss ys gs pre=>?_⟩;have hl:=pre.og.len.1;have hgs:gs=[]:=List.eq_nil_of_length_eq_zero pre.og.len.2;subst hgs;simp only [List.length_cons,List.length_nil] at hl;obtain ⟨y,rfl⟩:∃ y,ys=[y]:=by
  match ys,hl with
  | [y],_=>exact ⟨y,rfl⟩
 have hy:RP w Im (.row sh 0 xs) y:=pre.arg 0 _ y rfl rfl rfl;have mk:∀ v:PV,RP w Im v y->Pre w Im bl [] vss [.s (.c (.p v))] [y] []:=by
  intro a ha;refine ⟨pre.im,pre.nd,pre.l1,pre.l2,pre.box,pre.tok,.no rfl .nil,fun i b z hb hz _=>?_⟩;cases i with
  | zero=>simp at hb hz;subst hb;subst hz;exact ha
  | succ i=>simp at hb
 rcases hy.noNil with ⟨rfl,h⟩ | h
 ·exact h2.2 w Im bl vss [y] [] (mk _ h)
 ·exact h3.2 w Im bl vss [y] [] (mk _ h)
theorem y91 {Pf:FuncId->Option Func} {E:Env} {T:FuncId->List AV->List (List CV)->R} {k:Nat} {f:FuncId} {args:List AV} {bs:List (List CV)} {r:List SV × List (List CV)} (h:T f args bs=some r):evF Pf E T (k+1) f args bs=some r:=by
 simp only [evF,h]
def cloneT (tab:List (Nat × (Nat × Nat × Nat))):FuncId->List AV->List (List CV)->R:=fun f args bs=>
 match lk tab f with
 | some q=>match args,bs with
  | [.s (.c (.p (.row s g xs)))],[]=>bif s==q.2.1&&g==0&&decide (xs.length*q.2.2<=LIM)&&decide (xs.length<=LIM) then some ([.c (.own q.1 q.2.1 xs)],[]) else none
  | _,_=>none
 | none=>none
theorem w0o {P:Program} {tab:List (Nat × (Nat × Nat × Nat))} (h:∀ f e sh by_,(f,(e,sh,by_))∈tab->∀ xs:List PV,xs.length*by_<=LIM->xs.length<=LIM->Contract P f [.s (.c (.p (.row sh 0 xs)))] [] ([.c (.own e sh xs)],[])) :
  ∀ f args bs r,cloneT tab f args bs=some r->Contract P f args bs r:=by
 intro f args bs r hr;unfold cloneT at hr;split at hr
 ·rename_i q hq;obtain ⟨e,sh,by_⟩:=q;split at hr
  ·rename_i s g xs;obtain ⟨hc,hr'⟩:=q0j hr;simp only [Bool.and_eq_true,beq_iff_eq,decide_eq_true_eq] at hc;obtain ⟨⟨⟨rfl,rfl⟩,h1⟩,h2⟩:=hc;injection hr' with hr'
   subst hr';exact h f e s by_ (q3q hq) xs h1 h2
  ·cases hr
 ·cases hr
def orT (a b:FuncId->List AV->List (List CV)->R):FuncId->List AV->List (List CV)->R:=fun f args bs=>match a f args bs with
 | some r=>some r
 | none=>b f args bs
theorem v2y {P:Program} {a b:FuncId->List AV->List (List CV)->R} (ha:∀ f args bs r,a f args bs=some r->Contract P f args bs r) (hb:∀ f args bs r,b f args bs=some r->Contract P f args bs r):∀ f args bs r,orT a b f args bs=some r->Contract P f args bs r:=by
 intro f args bs r h;unfold orT at h;split at h
 ·rename_i r' h';injection h with h
  subst h;exact ha _ _ _ _ h'
 ·exact hb _ _ _ _ h
end Go.Dp
namespace Go.Dp
abbrev W:=BitVec 64
def wi (a:W):Int:=(a.toNat:Int)
theorem q4m (a:W):0<=wi a:=by unfold wi;omega
@[simp] theorem q43 (a:W):BitVec.ofInt 64 (wi a)=a:=by simp [wi]
theorem q4c (n:Int):IntKind.u64.wrap n=wi (BitVec.ofInt 64 n):=by
 unfold IntKind.wrap wi;simp only [IntKind.bits,IntKind.signed,Bool.false_and];rw [BitVec.toNat_ofInt];simp;omega
@[simp] theorem q9n (a:W):IntKind.u64.wrap (wi a)=wi a:=by rw [q4c,q43]
theorem v4a {a b:W}:wi a=wi b↔a=b:=by
 constructor
 ·intro h;have:BitVec.ofInt 64 (wi a)=BitVec.ofInt 64 (wi b):=by rw [h]
  simpa using this
 ·intro h;rw [h]
@[simp] theorem q4i (a b:W):(wi a==wi b)=(a==b):=by
 rw [Bool.eq_iff_iff];simp [v4a]
theorem y86 {a b:W}:wi a<wi b↔a<b:=by unfold wi;rw [BitVec.lt_def];omega
theorem y85 {a b:W}:wi a<=wi b↔a<=b:=by unfold wi;rw [BitVec.le_def];omega
@[simp] theorem q6q (a b:W):q0o .and .u64 (wi a) (wi b)=wi (a &&& b):=by
 show IntKind.u64.wrap (((BitVec.ofInt 64 (wi a)) &&& (BitVec.ofInt 64 (wi b))).toNat:Int)=_
 rw [q43,q43];exact q9n _
@[simp] theorem y96 (a b:W):q0o .or .u64 (wi a) (wi b)=wi (a ||| b):=by
 show IntKind.u64.wrap (((BitVec.ofInt 64 (wi a)) ||| (BitVec.ofInt 64 (wi b))).toNat:Int)=_
 rw [q43,q43];exact q9n _
@[simp] theorem z75 (a b:W):q0o .xor .u64 (wi a) (wi b)=wi (a ^^^ b):=by
 show IntKind.u64.wrap (((BitVec.ofInt 64 (wi a)) ^^^ (BitVec.ofInt 64 (wi b))).toNat:Int)=_
 rw [q43,q43];exact q9n _
theorem x2k (a b:W):BitVec.ofInt 64 (wi a+wi b)=a+b:=by rw [BitVec.ofInt_add];simp
theorem x2l (a b:W):BitVec.ofInt 64 (wi a*wi b)=a*b:=by rw [BitVec.ofInt_mul];simp
theorem x2m (a b:W):BitVec.ofInt 64 (wi a-wi b)=a-b:=by
 have h:wi a=(wi a-wi b)+wi b:=by omega
 have h2:BitVec.ofInt 64 (wi a)=BitVec.ofInt 64 (wi a-wi b)+BitVec.ofInt 64 (wi b):=by rw [<- BitVec.ofInt_add,<- h]
 rw [q43,q43] at h2
 generalize BitVec.ofInt 64 (wi a-wi b)=c at h2 ⊢
 rw [h2,BitVec.add_sub_cancel]
@[simp] theorem x0t (a b:W):IntKind.u64.wrap (wi a+wi b)=wi (a+b):=by rw [q4c,x2k]
@[simp] theorem x2b (a b:W):IntKind.u64.wrap (wi a*wi b)=wi (a*b):=by rw [q4c,x2l]
@[simp] theorem y5e (a b:W):IntKind.u64.wrap (wi a-wi b)=wi (a-b):=by rw [q4c,x2m]
theorem y5 (a:W) {y:Int} (h:0<=y):shlI .u64 (wi a) y=wi (a <<< y.toNat):=by
 unfold shlI;rw [q4c]
 congr 1
 apply BitVec.eq_of_toNat_eq;rw [BitVec.toNat_ofInt,BitVec.toNat_shiftLeft,Nat.shiftLeft_eq]
 show ((wi a*2 ^ (min y.toNat 64)) % ((2 ^ 64:Nat):Int)).toNat=_
 have e:(wi a*2 ^ (min y.toNat 64))=((a.toNat*2 ^ (min y.toNat 64):Nat):Int):=by simp [wi]
 rw [e,<- Int.natCast_emod,Int.toNat_natCast];rcases Nat.le_total y.toNat 64 with h1 | h1
 ·rw [Nat.min_eq_left h1]
 ·rw [Nat.min_eq_right h1,Nat.mul_mod_left]
  have:(2:Nat) ^ y.toNat=2 ^ 64*2 ^ (y.toNat-64):=by rw [<- Nat.pow_add];congr 1;omega
  rw [this,Nat.mul_comm (2 ^ 64),<- Nat.mul_assoc,Nat.mul_mod_left]
theorem z24 (a:W) {y:Int} (h:0<=y):shrI .u64 (wi a) y=wi (a >>> y.toNat):=by
 unfold shrI wi
 show Int.fdiv (a.toNat:Int) (2 ^ (min y.toNat 64))=_
 rw [BitVec.toNat_ushiftRight,Nat.shiftRight_eq_div_pow];have e:((2:Int) ^ (min y.toNat 64))=((2 ^ (min y.toNat 64):Nat):Int):=by simp
 rw [e,Int.fdiv_eq_ediv_of_nonneg _ (Int.natCast_nonneg _),<- Int.natCast_ediv]
 congr 1
 rcases Nat.le_total y.toNat 64 with h1 | h1
 ·rw [Nat.min_eq_left h1]
 ·rw [Nat.min_eq_right h1,Nat.div_eq_of_lt a.isLt];refine (Nat.div_eq_of_lt (Nat.lt_of_lt_of_le a.isLt (Nat.pow_le_pow_right (by omega) h1))).symm
theorem q0g {n:Int} (h1:-9223372036854775808<=n) (h2:n<=9223372036854775807):IntKind.i64.wrap n=n:=Go.IntWalk.i64_in n ⟨h1,h2⟩
theorem q48 {n:Int} (h1:0<=n) (h2:n<=18446744073709551615):IntKind.u64.wrap n=n:=Go.IntWalk.u64_in n ⟨h1,h2⟩
theorem z6v {v n:Int} (hv:0<=v) (hn:0<n):v % n<=v:=by
 have h:=Int.mul_ediv_add_emod v n;have h2:0<=n*(v / n):=Int.mul_nonneg (by omega) (Int.ediv_nonneg hv (by omega));omega
theorem q0n (xs:List PV) (i:Nat):q0e xs (i:Int)=xs[i]?:=by simp [q0e]
theorem q5p {xs:List PV} {n:Int} (h:0<=n):q0e xs n=xs[n.toNat]?:=by
 have:decide (0<=n)=true:=by simpa using h
 simp [q0e,this]
theorem q0c {α:Type} {l:List α} {i:Nat} (h:i<l.length):l.drop i=l[i]::l.drop (i+1):=List.drop_eq_getElem_cons h
abbrev Nd:=Int × W
def encN (x:Nd):PV:=.agg [.int .i64 x.1,.int .u64 (wi x.2)]
def encT (t:List Nd):List PV:=t.map encN
@[simp] theorem q3p (x:Nd):(encN x).shp 2=true:=rfl
@[simp] theorem q3k (x:Nd):(encN x).atInt .i64 0=some x.1:=rfl
@[simp] theorem q5k (x:Nd):(encN x).atInt .u64 1=some (wi x.2):=rfl
@[simp] theorem q07 (t:List Nd):(encT t).length=t.length:=by simp [encT]
theorem y1f (t u:List Nd):encT t++encT u=encT (t++u):=by simp [encT]
theorem y7t (t:List Nd) (x:Nd):encT t++[encN x]=encT (t++[x]):=by simp [encT]
theorem w2z (t:List Nd) (i:Nat):(encT t)[i]? = (t[i]?).map encN:=by simp [encT]
theorem w0x (t:List Nd) (i:Nat):(encT t).take i=encT (t.take i):=by simp [encT,List.map_take]
theorem q4x {t:List Nd} {i:Nat} (h:i<t.length):q0e (encT t) (i:Int)=some (encN t[i]):=by rw [q0n,w2z];simp [h]
def q0i (l:List (List Nd)):List PV:=l.map fun t=>.row 2 0 (encT t)
@[simp] theorem q05 (l:List (List Nd)):(q0i l).length=l.length:=by simp [q0i]
theorem q1l (l:List (List Nd)) (i:Nat):(q0i l)[i]? = (l[i]?).map fun t=>.row 2 0 (encT t):=by simp [q0i]
theorem q6t (l:List (List Nd)) (x:List Nd):q0i l++[.row 2 0 (encT x)]=q0i (l++[x]):=by simp [q0i]
theorem y33 (l:List (List Nd)) (i:Nat):(q0i l).take i=q0i (l.take i):=by simp [q0i,List.map_take]
@[simp] theorem q0u (l:List PV) (sh:Nat):(PV.row sh 0 l).atRow sh 0=some l:=by simp [PV.atRow,PV.cell,PV.cells,PV.asRow]
def encW (l:List W):List PV:=l.map fun a=>.int .u64 (wi a)
@[simp] theorem q5y (l:List W):(encW l).length=l.length:=by simp [encW]
theorem q5l (l:List W) (i:Nat):(encW l)[i]? = (l[i]?).map fun a=>.int .u64 (wi a):=by simp [encW]
theorem z01 (l:List W) (x:W):encW l++[.int .u64 (wi x)]=encW (l++[x]):=by simp [encW]
theorem w0y (l:List W) (i:Nat):(encW l).take i=encW (l.take i):=by simp [encW,List.map_take]
@[simp] theorem q0d (k:IntKind) (n:Int):(PV.int k n).atInt k 0=some n:=by simp [PV.atInt,PV.cell,PV.cells,PV.asInt]
def encZ (l:List Int):List PV:=l.map (PV.int .i64)
@[simp] theorem q0b (l:List Int):(encZ l).length=l.length:=by simp [encZ]
theorem q1r (l:List Int) (i:Nat):(encZ l)[i]? = (l[i]?).map (PV.int .i64):=by simp [encZ]
theorem q00 (l:List Int) (x:Int):encZ l++[.int .i64 x]=encZ (l++[x]):=by simp [encZ]
theorem q3h (l:List Int) (i:Nat):(encZ l).take i=encZ (l.take i):=by simp [encZ,List.map_take]
theorem z02 (l:List Int) (i:Nat):(encZ l).drop i=encZ (l.drop i):=by simp [encZ,List.map_drop]
def encB (l:List Nat):List PV:=l.map fun (b:Nat)=>PV.int .u8 (b:Int)
@[simp] theorem q7r (l:List Nat):(encB l).length=l.length:=by simp [encB]
theorem x1j (l:List Nat) (i:Nat):(encB l)[i]? = (l[i]?).map fun (b:Nat)=>PV.int .u8 (b:Int):=by simp [encB]
end Go.Dp
namespace Go.Dp
theorem q0p {n c:Nat} (h:n<=100000000) (hc:c<=1000):(decide (n*c<=LIM)&&decide (n<=LIM))=true:=by
 have h1:n*c<=100000000*1000:=Nat.mul_le_mul h hc;have h2:n*c<=LIM:=Nat.le_trans h1 (by decide);have h3:n<=LIM:=Nat.le_trans h (by decide);simp [h2,h3]
theorem w5e {α:Type} (l:List α) (x:α):((l.take l.length)++[x]).take (l.length+1)=l++[x]:=by
 rw [List.take_length];exact List.take_of_length_le (by simp)
theorem y97 {α:Type} (l m:List α) (x:α):((((l.take l.length)++(m.take m.length)).take (l.length+((m.take m.length).length)))++[x]).take ((l.length+((m.take m.length).length))+1)=l++m++[x]:=by
 simp only [List.take_length];rw [List.take_of_length_le (by simp),List.take_of_length_le (by simp)]
theorem q3b (l:List Int) (i:Nat) (x:Int):(encZ l).set i (.int .i64 x)=encZ (l.set i x):=by simp [encZ,List.map_set]
theorem q2h (l:List Int):(encZ l).all q35=true:=by
 simp only [encZ,List.all_eq_true,List.mem_map]
 rintro _ ⟨x,_,rfl⟩
 rfl
theorem k01 {k:Nat} (h:1<=k):∃ j,k=j+1:=⟨k-1,by omega⟩
theorem k02 {i:Nat} (h:i<1000000000):IntKind.i64.wrap ((i:Int)+1)=((i+1:Nat):Int):=by rw [q0g (by omega) (by omega)];omega
theorem k03 {α:Type} {i:Nat} {l:List α} (h:¬i<l.length):decide ((i:Int)<(l.length:Int))=false:=by simpa using h
theorem k04 {α:Type} {i:Nat} {l:List α} (h:i<l.length):decide ((i:Int)<(l.length:Int))=true:=by simpa using h
end Go.Dp
namespace Go.Dp
open Go.RowKit
def IsRow (k:IntKind) (w:World) (a:Option Addr) (len cap:Nat) (zs:List Int):Prop :=
 (a=none /\ len=0 /\ cap=0 /\ zs=[]) ∨
 ∃ x,a=some x /\ x.spot=none /\ len<=cap /\ cap<=maxLen /\ zs.length=cap /\ (∀ i,i<zs.length->w.cell? (x.add i)=some (.int k (zs.getD i 0))) /\ ∀ n∈zs,(Lit.int k n).wf=true
def ints (k:IntKind) (l:List Int):List PV:=l.map (PV.int k)
theorem IsRow.rp {k:IntKind} {w:World} {a:Option Addr} {len cap:Nat} {zs:List Int} (h:IsRow k w a len cap zs):RP w (·<w.heap.size) (.row 0 0 (ints k (zs.take len))) (.slice a len cap):=by
 rcases h with ⟨rfl,rfl,rfl,rfl⟩ | ⟨x,rfl,hsp,hl,hm,hz,hc,_⟩
 ·exact .nil 0 0 (by decide)
 ·have hlen:(ints k (zs.take len)).length=len:=by simp [ints];omega
  have hcell:∀ i,i<len->w.cell? ⟨x.block,x.off+i,none⟩=some (.int k (zs.getD i 0)):=by
   intro i hi;have h1:=hc i (by omega);obtain ⟨b,off,sp⟩:=x
   simp only at hsp
   subst hsp;rw [q2e] at h1;exact h1
  have key:RP w (·<w.heap.size) (.row 0 0 (ints k (zs.take len))) (.slice (some x) (ints k (zs.take len)).length cap):=by
   refine .row 0 0 _ x cap (fun i=>.int k (zs.getD i 0)) (by simp) hsp (by omega) hm (by simp) ?_ ?_ ?_ ?_
   ·intro hp;have h1:=hcell 0 (by omega);simp only [World.cell?] at h1;split at h1
    ·rename_i c _ _ hh;exact (Array.getElem?_eq_some_iff.1 hh).1
    ·cases h1
   ·intro i v hv;simp only [ints,List.getElem?_map,Option.map_eq_some_iff] at hv;obtain ⟨n,_,rfl⟩:=hv;rfl
   ·intro i v j c hv hj;have hi:i<len:=by have:=(List.getElem?_eq_some_iff.1 hv).1;omega
    simp only [ints,List.getElem?_map,Option.map_eq_some_iff] at hv;obtain ⟨n,_,rfl⟩:=hv
    have:j=0:=by
     have:=(List.getElem?_eq_some_iff.1 hj).1
     simp [PV.cells] at this;omega
    subst this;have h9:=hcell i hi;revert h9;simp [csz]
   ·intro i v j c hv hj;simp only [ints,List.getElem?_map,Option.map_eq_some_iff] at hv;obtain ⟨n,hn,rfl⟩:=hv
    have:j=0:=by
     have:=(List.getElem?_eq_some_iff.1 hj).1
     simp [PV.cells] at this;omega
    subst this;simp [PV.cells] at hj;subst hj;have hn2:zs[i]? = some n:=by
     rw [List.getElem?_take] at hn;split at hn
     ·exact hn
     ·cases hn
    have hg:zs.getD i 0=n:=by simp [List.getD,hn2]
    simp only [csz];simp [hn2];exact .int k n
  rwa [hlen] at key
theorem IsRow.wf {k:IntKind} {w:World} {a:Option Addr} {len cap:Nat} {zs:List Int} (h:IsRow k w a len cap zs):∀ n∈zs,(Lit.int k n).wf=true:=by
 rcases h with ⟨_,_,_,rfl⟩ | ⟨_,_,_,_,_,_,_,h⟩
 · simp
 · exact h
theorem w3b {P:Program} {f:FuncId} {w:World} {vs:List PV} {ys:List Value} (hl:ys.length=vs.length) (hr:∀ (i:Nat) (a:PV) (y:Value),vs[i]? = some a->ys[i]? = some y->RP w (·<w.heap.size) a y)
  (h:Contract P f (vs.map .p) [] ([.c (.p (.bool true))],[])):Calls P f ys.toArray w fun e w'=>e=.returned (.bool true) /\ Below w.heap.size w w':=by
 refine Calls.mono (h.calls w (·<w.heap.size) (fun _ h=>h) ys hl hr) ?_
 rintro e w' ⟨y,Im',rfl,hy,hwd,hfr⟩
 cases hy;exact ⟨rfl,hwd.os,hwd.tape,hwd.output,hwd.size,hfr⟩
end Go.Dp
namespace Go.Dp
def fixI {α:Type} (f:α->Bool):Nat->List α->Int
 | _,[]=>-1
 | i,x::l=>bif f x then (i:Int) else fixI f (i+1) l
theorem q7a {α:Type} (f:α->Bool):∀ (l:List α) (i:Nat),decide (fixI f i l>=0)=l.any f
 | [],i=>by simp [fixI]
 | x::l,i=>by
  cases hx:f x
  ·have h1:fixI f i (x::l)=fixI f (i+1) l:=by simp only [fixI,hx,cond_false]
   have h2:(x::l).any f=l.any f:=by simp only [List.any_cons,hx,Bool.false_or]
   rw [h1,h2];exact q7a f l (i+1)
  ·have h1:fixI f i (x::l)=(i:Int):=by simp only [fixI,hx,cond_true]
   have h2:(x::l).any f=true:=by simp only [List.any_cons,hx,Bool.true_or]
   rw [h1,h2];simp
theorem q3i {α:Type} (f:α->Bool):∀ (l:List α) (i:Nat),(fixI f i l=-1 /\ ∀ x∈l,f x=false)∨∃ j,∃ h:j<l.length,fixI f i l=((i+j:Nat):Int) /\ f l[j]=true /\ ∀ j' (h':j'<j),f (l[j']'(by omega))=false
 | [],i=>.inl ⟨rfl,by simp⟩
 | x::l,i=>by
  simp only [fixI];cases hx:f x
  ·simp only [cond_false];rcases q3i f l (i+1) with ⟨h1,h2⟩ | ⟨j,hj,h1,h2,h3⟩
   ·exact .inl ⟨h1,fun y hy=>by rcases List.mem_cons.1 hy with rfl | hy;exact hx;exact h2 y hy⟩
   ·refine .inr ⟨j+1,by simp;omega,by rw [h1];omega,by simpa using h2,fun j' h'=>?_⟩;cases j' with
    | zero=>exact hx
    | succ j'=>exact h3 j' (by omega)
  ·exact .inr ⟨0,by simp,by simp,by simpa using hx,fun j' h'=>by omega⟩
theorem x21 {α β:Type} [DecidableEq α] [DecidableEq β] (a b:α × β):((a.1==b.1)&&(a.2==b.2))=decide (a=b):=by
 obtain ⟨a1,a2⟩:=a;obtain ⟨b1,b2⟩:=b;rw [Bool.eq_iff_iff];simp
end Go.Dp
namespace Go.Proofs.YtgdegfijcijnoaaGreat
open Go.Dp
end Go.Proofs.YtgdegfijcijnoaaGreat
