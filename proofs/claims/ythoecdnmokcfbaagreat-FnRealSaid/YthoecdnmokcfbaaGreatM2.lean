/- Dp17; Dp18a; Dp18b; Dp11f; Dp11g; Dp18c; Dp18; Dp19; Dp20; Dp21; Dp22; Dp23; Ka; Row0; Aa: texts put together. -/
import Derived.Test.YthoecdnmokcfbaaGreatM1
import Derived.Below
import Derived.Laws.Externs
import Derived.Lib.Bytealg
import Derived.IntWalk
/- Loops' heads: objects named anew. -/
set_option linter.unusedVariables false
set_option linter.unusedSimpArgs false
namespace Go.Dp
section
variable {P:Program} {E:Env} {w w':World} {Im Im':Nat->Prop} {ρ ρ':Nat->Option Value} {o o':List AObj} {r:List SV × List (List CV)} {t:List AV} {a:Act} {B:Base} {C:Ctx} {L:List Nat}
def named (ρ:Nat->Option Value) (L:List Nat):Nat->Option Value:=fun j=>(L[j]?).bind ρ
theorem renSt_get (j:Nat):(renSt L o)[j]? = (L[j]?).map fun id=>renO L o ((o[id]?).getD .dead):=by simp [renSt]
theorem renSt_at {j id:Nat} {x:AObj} (hj:L[j]? = some id) (hx:o[id]? = some x):(renSt L o)[j]? = some (renO L o x):=by rw [renSt_get,hj];simp [hx]
theorem RB.ren {id j off:Nat} {y:Value} (hj:L[j]? = some id) {cs:List CV} (ho:o[id]? = some (.box cs)) (h:RB ρ o id off y):RB (named ρ L) (renSt L o) j off y:=by
 simp only [RB,ho] at h
 obtain ⟨b,hb,hy⟩:=h
 simp only [RB,renSt_at hj ho,renO]
 exact ⟨b,by simp [named,hj,hb],hy⟩
theorem RC.ren (hs:SR w Im ρ o) {c:CV} {y:Value} (h:RC w Im ρ o c y):RC w Im (named ρ L) (renSt L o) (renC L o c) y:=by
 cases c with
 | undef=>trivial
 | p v=>exact h
 | own e sh xs=>exact h.elim
 | cfn f us=>exact h
 | nel=>trivial
 | aptr=>trivial
 | eptr v sh off=>exact h
 | loc id ver sh lo len =>
  simp only [renC]
  split
  ·rename_i e sh' ver' fz xs ho
   cases hc:(ver == ver' && sh == sh')
   ·trivial
   ·simp only [cond_true]
    simp only [Bool.and_eq_true,beq_iff_eq] at hc
    obtain ⟨rfl,rfl⟩:=hc
    cases fz with
    | true =>
     simp only [cond_true]
     have hkd:e.kd = none:=by
      simp only [RC,ho] at h
      obtain ⟨hle,v,hv,hsl⟩:=h.2 trivial trivial
      obtain ⟨vals,_,_,_,_,hk⟩:=hs.ob id _ _ ho hv
      cases hk0:e.kd with
      | none=>rfl
      | some k=>simp [RKids,hk0] at hk
     refine view_sound (Im2:=Im) hs (fun _ h=>h) h (by simp [viewLoc,ho,hkd]) fun u b hu hb=>?_
     obtain ⟨vals,_,_,_,hz,_⟩:=hs.ob id _ _ ho hu
     exact (hz b hb).2 rfl
    | false =>
     simp only [cond_false]
     split
     ·rename_i j hj
      have hj':=idx_some hj
      simp only [RC,ho] at h
      obtain ⟨hle,v,hv,hsl⟩:=h.2 trivial trivial
      simp only [RC,renSt_at hj' ho,renO]
      exact ⟨Nat.zero_le _,fun _ _=>⟨hle,v,by simp [named,hj',hv],hsl⟩⟩
     ·trivial
  ·trivial
 | bptr id off =>
  simp only [renC]
  split
  ·rename_i cs j ho hj
   exact RB.ren (idx_some hj) ho h
  ·trivial
 | fn f caps =>
  simp only [renC]
  split
  ·rename_i js hjs
   cases hall:caps.all (fun i=>match o[i]? with | some (.box _)=>true | _=>false)
   ·trivial
   ·simp only [cond_true]
    simp only [List.all_eq_true] at hall
    obtain ⟨hl,hr⟩:=idxs_some hjs
    obtain ⟨vs,hx,hl2,hh⟩:=h
    refine ⟨vs,hx,by omega,fun i j hij=>?_⟩
    obtain ⟨id,h1,h2⟩:=hr i j hij
    obtain ⟨z,hz,hb⟩:=hh i id h1
    have h3:=hall id (List.mem_of_getElem? h1)
    split at h3
    ·rename_i cs ho
     exact ⟨z,hz,RB.ren h2 ho hb⟩
    ·cases h3
  ·trivial
theorem RS.ren (hs:SR w Im ρ o) {v:SV} {y:Value} (h:RS w Im ρ o v y):RS w Im (named ρ L) (renSt L o) (renS L o v) y:=by
 cases v with
 | c c=>exact RC.ren hs h
 | agg cs =>
  obtain ⟨vs,rfl,hl,hr,h1⟩:=h
  refine ⟨vs,rfl,by simpa using hl,fun i c z hc hz=>?_,h1⟩
  simp only [List.getElem?_map,Option.map_eq_some_iff] at hc
  obtain ⟨c',hc',rfl⟩:=hc
  exact RC.ren hs (hr i c' z hc' hz)
theorem RA.ren (hs:SR w Im ρ o) {v:AV} {y:Value} (h:RA w Im ρ o v y):RA w Im (named ρ L) (renSt L o) (renA L o v) y:=by
 cases v with
 | s v=>exact RS.ren hs h
 | tup ts =>
  obtain ⟨vs,rfl,hl,hr⟩:=h
  refine ⟨vs,rfl,by simpa using hl,fun i c z hc hz=>?_⟩
  simp only [List.getElem?_map,Option.map_eq_some_iff] at hc
  obtain ⟨c',hc',rfl⟩:=hc
  exact RS.ren hs (hr i c' z hc' hz)
theorem RO.reset {ρ ρ':Nat->Option Value} {o o':List AObj} {v:Value} {e:Et} {sh ver ver':Nat} {fz:Bool} {xs:List PV} (h:RO w Im ρ o v (.arr e sh ver fz xs)):RO w Im ρ' o' v (.arr e.reset sh ver' fz xs):=by
 unfold Et.reset
 split
 ·exact h
 ·rename_i k hk
  obtain ⟨vals,h1,h2,h3,h4,h5⟩:=h
  simp only [RKids,hk] at h5
  obtain ⟨h6,ks,h7,h8,h9⟩:=h5
  refine ⟨vals,h1,h2,fun i x j c y a b d=>?_,h4,h6,ks,h7,⟨h8.len,h8.jlt,h8.kid,h8.out,h8.inj,h8.one⟩,h9⟩
  have:=h3 i x j c y a b d
  unfold RPk at this
  rw [hk] at this
  exact this
theorem SR.ren (hs:SR w Im ρ o) (hL:L.Nodup):SR w Im (named ρ L) (renSt L o):=by
 have nm:∀ j v,named ρ L j = some v->∃ id,L[j]? = some id /\ ρ id = some v:=by
  intro j v h
  obtain ⟨id,h1,h2⟩:=bind_some h
  exact ⟨id,h1,h2⟩
 refine ⟨?_,?_,?_,hs.im,?_⟩
 ·intro j x v hx hv
  obtain ⟨id,hj,hv⟩:=nm j v hv
  obtain ⟨x0,hx0⟩:∃ x0,o[id]? = some x0:=⟨_,List.getElem?_eq_getElem (hs.lt id v hv).1⟩
  rw [renSt_at hj hx0] at hx
  injection hx with hx
  subst hx
  have h:=hs.ob id x0 v hx0 hv
  cases x0 with
  | dead=>trivial
  | box cs =>
   obtain ⟨b,vs,e,h1,h2,h3,h4,h5,h6⟩:=h
   refine ⟨b,vs,e,h1,h2,by simpa using h3,fun i c z hc hz=>?_,h5,h6⟩
   simp only [List.getElem?_map,Option.map_eq_some_iff] at hc
   obtain ⟨c',hc',rfl⟩:=hc
   exact RC.ren hs (h4 i c' z hc' hz)
  | arr e sh ver fz xs=>exact RO.reset h
 ·intro j j' v v' b hv hv' hb hb'
  obtain ⟨id,hj,hv⟩:=nm j v hv
  obtain ⟨id',hj',hv'⟩:=nm j' v' hv'
  have:=hs.inj id id' v v' b hv hv' hb hb'
  subst this
  have h1:=List.getElem?_eq_some_iff.1 hj
  have h2:=List.getElem?_eq_some_iff.1 hj'
  exact (List.getElem_inj hL).1 (h1.2.trans h2.2.symm)
 ·intro j v hv
  obtain ⟨id,hj,hv⟩:=nm j v hv
  exact ⟨by simp [renSt];exact (List.getElem?_eq_some_iff.1 hj).1,(hs.lt id v hv).2⟩
 ·intro j hd
  rw [renSt_get] at hd
  obtain ⟨id,hj,hd⟩:=Option.map_eq_some_iff.1 hd
  simp only [named,hj,Option.bind_some]
  cases ho:o[id]? with
  | none =>
   cases hv:ρ id with
   | none=>rfl
   | some v =>
    have:=(hs.lt id v hv).1
    rw [List.getElem?_eq_none_iff] at ho
    omega
  | some x =>
   rw [ho] at hd
   simp only [Option.getD_some] at hd
   cases x <;> simp [renO] at hd
   exact hs.dd id ho
theorem keepT_get (live:List Nat):∀ (t:List AV) (k i:Nat),(keepT live k t).length = t.length /\ (getT (keepT live k t) i = getT t i ∨ getT (keepT live k t) i = .undef)
 | [],k,i=>⟨rfl,.inl rfl⟩
 | v :: t,k,i=>by
  have ih:=keepT_get live t (k + 1)
  refine ⟨by simp [keepT,(ih 0).1],?_⟩
  cases i with
  | zero =>
   simp only [keepT,getT,List.getElem?_cons_zero,Option.getD_some]
   cases live.contains k
   ·exact .inr rfl
   ·exact .inl rfl
  | succ i=>simpa [keepT,getT] using (ih i).2
theorem prefix_add1 (l:List Nat) (i:Nat):l <+: add1 l i:=by
 unfold add1
 cases l.contains i
 · exact List.prefix_append _ _
 · exact List.prefix_refl _
theorem prefix_adds:∀ (is l:List Nat),l <+: adds l is
 | [],l=>List.prefix_refl l
 | i :: is,l=>(prefix_add1 l i).trans (prefix_adds is (add1 l i))
theorem reach_ok (o:List AObj) (m:Nat) (cs:List CV):(reach o m cs).Nodup /\ List.range m <+: reach o m cs:=by
 unfold reach
 refine ⟨nodup_adds (nodup_adds (nodup_adds (nodup_adds List.nodup_range))),?_⟩
 exact (((prefix_adds _ _).trans (prefix_adds _ _)).trans (prefix_adds _ _)).trans (prefix_adds _ _)
theorem Sta.canon {s:St} (h:Sta B s a w) (live:List Nat):Sta B (canon B.bl.length live s) a w:=by
 obtain ⟨⟨Im,ρ,hn,ht⟩,hd⟩:=h
 obtain ⟨L,hL⟩:∃ L,L = reach s.o B.bl.length ((keepT live 0 s.t).flatMap cellsOfA):=⟨_,rfl⟩
 have hok:=reach_ok s.o B.bl.length ((keepT live 0 s.t).flatMap cellsOfA)
 rw [<- hL] at hok
 have hc:Dp.canon B.bl.length live s = ⟨(keepT live 0 s.t).map (renA L s.o),renSt L s.o⟩:=by rw [hL];rfl
 rw [hc]
 refine ⟨⟨Im,named ρ L,⟨hn.wd,hn.sr.ren hok.1,hn.fr,?_,hn.im,hn.imn,?_⟩,⟨?_,?_⟩⟩,hd⟩
 ·rintro b ⟨j,v,hv,hb⟩
  obtain ⟨id,_,h2⟩:=bind_some hv
  exact hn.ow b ⟨id,v,h2,hb⟩
 ·intro j b hj
  have hjl:=(List.getElem?_eq_some_iff.1 hj).1
  have hLj:L[j]? = some j:=by
   obtain ⟨l2,hl2⟩:=hok.2
   rw [<- hl2,List.getElem?_append_left (by simpa using hjl),List.getElem?_range hjl]
  have h:=hn.hd j b hj
  cases ho:s.o[j]? with
  | none=>simp [RB,ho] at h
  | some x =>
   cases x with
   | box cs=>exact RB.ren hLj ho h
   | dead=>simp [RB,renSt_at hLj ho,renO]
   | arr e sh ver fz xs=>simp [RB,renSt_at hLj ho,renO]
 ·simp only [List.length_map]
  rw [(keepT_get live s.t 0 0).1]
  exact ht.size
 ·intro i
  have h1:getT ((keepT live 0 s.t).map (renA L s.o)) i = renA L s.o (getT (keepT live 0 s.t) i):=by
   simp only [getT,List.getElem?_map]
   cases (keepT live 0 s.t)[i]? <;> rfl
  rw [h1]
  rcases (keepT_get live s.t 0 i).2 with h2 | h2
  ·rw [h2];exact RA.ren hn.sr (ht.at_ i)
  ·rw [h2];trivial
theorem rebox (hs:SR w Im ρ o) {i:Nat} {c0 ds:List CV} (ho:o[i]? = some (.box c0)) (hl:ds.length = c0.length)
  (hr:∀ (k:Nat) (c:CV) (y:Value),ds[k]? = some c->(∀ c',c0[k]? = some c'->RC w Im ρ o c' y)->RC w Im ρ o c y) :
  SR w Im ρ (o.set i (.box ds)) /\ Inn w Im ρ o ρ (o.set i (.box ds)) (fun _=>False):=by
 have hlt:=(List.getElem?_eq_some_iff.1 ho).1
 have hc:Compat ρ ρ o (o.set i (.box ds)):=by
  intro j a ha
  by_cases e1:j = i
  ·subst e1
   rw [ho] at ha
   injection ha with ha
   subst ha
   exact ⟨.box ds,by rw [List.getElem?_set_self hlt],rfl⟩
  ·exact ⟨a,by rw [List.getElem?_set_ne (Ne.symm e1)];exact ha,by cases a <;> simp [CompatO]⟩
 refine ⟨⟨?_,hs.inj,fun id v hv=>⟨by simpa using (hs.lt id v hv).1,(hs.lt id v hv).2⟩,hs.im,?_⟩,⟨fun c y hy=>RC.compat him_refl hc hy,fun b hb=>.inl hb,?_,?_,by simp,fun _ _ h=>h⟩⟩
 ·intro j a v ha hv
  by_cases e1:j = i
  ·subst e1
   rw [List.getElem?_set_self hlt] at ha
   injection ha with ha
   subst ha
   obtain ⟨b,vs,e,h1,h2,h3,h4,h5,h6⟩:=hs.ob j _ v ho hv
   exact ⟨b,vs,e,h1,h2,by omega,fun k c y hk hy=>RC.compat him_refl hc (hr k c y hk fun c' hc'=>h4 k c' y hc' hy),h5,h6⟩
  ·rw [List.getElem?_set_ne (Ne.symm e1)] at ha
   exact RO.keep him_refl hc (fun _ _=>rfl) (fun _ _ h=>h) (hs.ob j a v ha hv)
 ·intro j hd
  by_cases e1:j = i
  ·subst e1;rw [List.getElem?_set_self hlt] at hd;cases hd
  ·rw [List.getElem?_set_ne (Ne.symm e1)] at hd;exact hs.dd j hd
 ·intro j cs' hj
  by_cases e1:j = i
  ·subst e1
   rw [ho] at hj
   injection hj with hj
   exact ⟨ds,by rw [List.getElem?_set_self hlt],rfl⟩
  ·exact ⟨cs',by rw [List.getElem?_set_ne (Ne.symm e1)];exact hj,rfl⟩
 ·intro hm j a ha hd
  by_cases e1:j = i
  ·subst e1;exact hm j _ ho (by simp)
  ·rw [List.getElem?_set_ne (Ne.symm e1)] at ha;exact hm j a ha hd
theorem nil_of_RP2 {sh:Nat} {xs:List PV} {y:Value} (h:RP w Im (.row sh 2 xs) y):y = .slice none 0 0:=by
 cases h with
 | nil=>rfl
 | row _ _ _ a cap g hf2=>exact absurd rfl hf2
theorem Now.inn (h:Now B w Im ρ o) (hs:SR w Im ρ' o') (hi:Inn w Im ρ o ρ' o' (fun _=>False)):Now B w Im ρ' o':=by
 refine ⟨h.wd,hs,h.fr,fun b hb=>?_,h.im,h.imn,fun j b hj=>hi.keep (.bptr j 0) _ (h.hd j b hj)⟩
 rcases hi.own b hb with h1 | h1
 · exact h.ow b h1
 · exact h1.elim
theorem innA (hi:Inn w Im ρ o ρ' o' (fun _=>False)) {v:AV} {x:Value} (hv:RA w Im ρ o v x):RA w Im ρ' o' v x:=by
 have hS:∀ (v:SV) (x:Value),RS w Im ρ o v x->RS w Im ρ' o' v x:=by
  intro v x hv
  cases v with
  | c c=>exact hi.keep c x hv
  | agg cs=>obtain ⟨vs,rfl,h1,h2,h3⟩:=hv;exact ⟨vs,rfl,h1,fun i c y hc hy=>hi.keep c y (h2 i c y hc hy),h3⟩
 cases v with
 | s v=>exact hS v x hv
 | tup ts=>obtain ⟨vs,rfl,h1,h2⟩:=hv;exact ⟨vs,rfl,h1,fun i c y hc hy=>hS c y (h2 i c y hc hy)⟩
theorem emptyNest (hs:SR w Im ρ o) {id sh ver:Nat} {e e':Et} (ho:o[id]? = some (.arr e' sh ver false [])) (hk:e'.kd = none) (ht:e'.t = e.t) (hn:nilEt e sh = true) :
  ∃ ρ',SR w Im ρ' (o.set id (.arr e sh (ver + 1) false [])) /\ Inn w Im ρ o ρ' (o.set id (.arr e sh (ver + 1) false [])) (fun _=>False) /\ ∀ v,ρ id = some v->∃ v',ρ' id = some v' /\ mainV v' = mainV v:=by
 have hlt:=(List.getElem?_eq_some_iff.1 ho).1
 obtain ⟨nv,hnv⟩:∃ nv:Option Value,nv = (match e.kd with | none=>ρ id | some _=>(ρ id).map fun v=>.tuple [v].toArray):=⟨_,rfl⟩
 have hmv:∀ v,ρ id = some v->mainV v = v:=by
  intro v hv
  obtain ⟨_,_,_,_,_,h⟩:=hs.ob id _ v ho hv
  simp only [RKids,hk] at h
  exact h trivial
 have hnew:∀ v',nv = some v'->∃ v,ρ id = some v /\ (∀ b,Blk v' b->Blk v b) /\ mainV v' = v:=by
  intro v' hv'
  rw [hnv] at hv'
  split at hv'
  ·exact ⟨v',hv',fun b h=>h,hmv v' hv'⟩
  ·obtain ⟨v,hv,rfl⟩:=Option.map_eq_some_iff.1 hv'
   refine ⟨v,hv,fun b hb=>?_,rfl⟩
   obtain ⟨q,u,hq,hu⟩:=hb
   cases q with
   | zero=>simp at hq;subst hq;exact kid_Blk hu
   | succ q=>simp at hq
 have hsome:∀ v,ρ id = some v->∃ v',nv = some v' /\ mainV v' = mainV v:=by
  intro v hv
  rw [hnv]
  split
  ·exact ⟨v,hv,rfl⟩
  ·exact ⟨.tuple [v].toArray,by rw [hv];rfl,(hmv v hv).symm⟩
 have hold:∀ j v',upd ρ id nv j = some v'->∃ v,ρ j = some v /\ ∀ b,Blk v' b->Blk v b:=by
  intro j v' hv'
  by_cases e1:j = id
  ·subst e1
   rw [upd_same] at hv'
   obtain ⟨v,h1,h2,_⟩:=hnew v' hv'
   exact ⟨v,h1,h2⟩
  ·rw [upd_ne e1] at hv'
   exact ⟨v',hv',fun b h=>h⟩
 have hc:Compat ρ (upd ρ id nv) o (o.set id (.arr e sh (ver + 1) false [])):=by
  intro j a ha
  by_cases e1:j = id
  ·subst e1
   rw [ho] at ha
   injection ha with ha
   subst ha
   exact ⟨_,List.getElem?_set_self hlt,.inl (Nat.lt_succ_self _)⟩
  ·refine ⟨a,by rw [List.getElem?_set_ne (Ne.symm e1)];exact ha,?_⟩
   rw [upd_ne e1]
   cases a <;> simp [CompatO]
 refine ⟨upd ρ id nv,⟨?_,?_,?_,hs.im,?_⟩,⟨fun c y hy=>RC.compat him_refl hc hy,fun b hb=>?_,?_,?_,by simp,?_⟩,fun v hv=>?_⟩
 ·intro j a v ha hv
  by_cases e1:j = id
  ·subst e1
   rw [List.getElem?_set_self hlt] at ha
   injection ha with ha
   subst ha
   rw [upd_same] at hv
   obtain ⟨v0,h1,h2,h3⟩:=hnew v hv
   obtain ⟨vals,b1,_,_,b4,_⟩:=hs.ob j _ v0 ho h1
   have hvl:vals = []:=List.eq_nil_of_length_eq_zero (by have:=b1.1;simpa using this)
   refine ⟨vals,by rw [h3,<- ht,<- hmv v0 h1];exact b1,fun x hx=>by simp at hx,fun i x j c y hx=>by simp at hx,fun b hb=>b4 b (h2 b hb),?_⟩
   unfold RKids
   split
   ·rename_i hkd
    intro _
    rw [hnv,hkd] at hv
    simp only at hv
    exact hmv v hv
   ·rename_i k hkd
    simp only [nilEt,hkd,Bool.and_eq_true,decide_eq_true_eq,Option.isNone_iff_eq_none] at hn
    refine ⟨rfl,[],?_,⟨rfl,hn.1,fun i x hx=>by simp at hx,fun i u h=>(by rw [hn.2] at h;cases h),fun i i' u u' b h=>(by simp at h),fun i y h=>(by rw [hvl] at h;simp at h)⟩,fun i u b h=>by simp at h⟩
    rw [hnv,hkd] at hv
    simp only at hv
    obtain ⟨v1,_,rfl⟩:=Option.map_eq_some_iff.1 hv
    rfl
  ·rw [List.getElem?_set_ne (Ne.symm e1)] at ha
   rw [upd_ne e1] at hv
   exact RO.keep him_refl hc (fun _ _=>rfl) (fun _ _ h=>h) (hs.ob j a v ha hv)
 ·intro i j v v' b h1 h2 h3 h4
  obtain ⟨u,a1,a2⟩:=hold i v h1
  obtain ⟨u',a3,a4⟩:=hold j v' h2
  exact hs.inj i j u u' b a1 a3 (a2 b h3) (a4 b h4)
 ·intro j v hv
  obtain ⟨u,a1,a2⟩:=hold j v hv
  exact ⟨by simpa using (hs.lt j u a1).1,fun b hb=>(hs.lt j u a1).2 b (a2 b hb)⟩
 ·intro j hd
  by_cases e1:j = id
  ·subst e1;rw [List.getElem?_set_self hlt] at hd;cases hd
  ·rw [List.getElem?_set_ne (Ne.symm e1)] at hd;rw [upd_ne e1];exact hs.dd j hd
 ·obtain ⟨j,v,h1,h2⟩:=hb
  obtain ⟨u,a1,a2⟩:=hold j v h1
  exact .inl ⟨j,u,a1,a2 b h2⟩
 ·intro j cs' hj
  have e1:j ≠ id:=by rintro rfl;rw [ho] at hj;cases hj
  exact ⟨cs',by rw [List.getElem?_set_ne (Ne.symm e1)];exact hj,upd_ne e1⟩
 ·intro hm j a ha hd
  by_cases e1:j = id
  ·subst e1
   obtain ⟨v,hv⟩:=hm j _ ho (by simp)
   obtain ⟨v',hv',_⟩:=hsome v hv
   exact ⟨v',by rw [upd_same];exact hv'⟩
  ·rw [List.getElem?_set_ne (Ne.symm e1)] at ha;rw [upd_ne e1];exact hm j a ha hd
 ·intro j hj hno
  by_cases e1:j = id
  ·subst e1
   rw [upd_same]
   cases h:nv with
   | none=>rfl
   | some v' =>
    obtain ⟨v,hv,_⟩:=hnew v' h
    rw [hno] at hv
    cases hv
  ·rw [upd_ne e1];exact hno
 ·obtain ⟨v',h1,h2⟩:=hsome v hv
  exact ⟨v',by rw [upd_same];exact h1,h2⟩
theorem Sta.own1G {s:St} (h:Sta B s a w) (q:Option Nat × Nat × Et × Nat):Sta B (own1G s q) a w:=by
 obtain ⟨⟨Im,ρ,hn,ht⟩,hd⟩:=h
 have h0:Sta B s a w:=⟨⟨Im,ρ,hn,ht⟩,hd⟩
 obtain ⟨j,i,e,sh⟩:=q
 unfold Dp.own1G
 have ad:nilEt e sh = true->∃ g:Value,SR w Im (upd ρ s.o.length (some g)) (s.o ++ [.arr e sh 0 false []]) /\ Inn w Im ρ s.o (upd ρ s.o.length (some g)) (s.o ++ [.arr e sh 0 false []]) (fun _=>False) /\ RC w Im (upd ρ s.o.length (some g)) (s.o ++ [.arr e sh 0 false []]) (.loc s.o.length 0 sh 0 0) (.slice none 0 0):=by
  intro hnil
  obtain ⟨g,hg,hgo,hgb⟩:=ownNilG w Im e sh hnil
  obtain ⟨a1,a2,a3⟩:=adopt (X:=fun _=>False) (hn.sr.x _) hgo (fun b hb=>(hgb b hb).elim)
  rw [hg] at a3
  exact ⟨g,a1.sr fun _ h=>h,a2.mono fun b hb=>hgb b hb,a3⟩
 cases j with
 | none =>
  simp only
  split
  ·rename_i s' f xs hq
   have hx:=ht.at_ i
   rw [hq] at hx
   split
   ·split
    ·rename_i ys hys
     have hw:=(asRow_weak hys).2 w Im _ hx
     refine ⟨⟨Im,ρ,hn,⟨by simpa using ht.size,fun k=>?_⟩⟩,hd⟩
     show RA w Im ρ s.o (getT (s.t.set i _) k) _
     rw [getT_set]
     split
     ·rename_i hk
      obtain ⟨rfl,_⟩:=hk
      exact hw
     ·exact ht.at_ k
    ·exact h0
   ·cases hf:(f == 2 && nilEt e sh)
    ·exact h0
    ·simp only [Bool.and_eq_true,beq_iff_eq] at hf
     obtain ⟨rfl,hnil⟩:=hf
     obtain ⟨g,hs1,a2,a3⟩:=ad hnil
     have hy:=nil_of_RP2 (w:=w) (Im:=Im) hx
     refine ⟨⟨Im,_,hn.inn hs1 a2,⟨by simpa using ht.size,fun k=>?_⟩⟩,hd⟩
     show RA w Im _ _ (getT (s.t.set i _) k) _
     rw [getT_set]
     split
     ·rename_i hk
      obtain ⟨rfl,_⟩:=hk
      show RC w Im (upd ρ s.o.length (some g)) (s.o ++ [.arr e sh 0 false []]) (.loc s.o.length 0 sh 0 0) _
      rw [hy]
      exact a3
     ·exact innA a2 (ht.at_ k)
  ·rename_i id ver sh0 lo len hq
   split
   ·exact h0
   split
   ·rename_i e' sh' ver' xs0 ho
    split
    ·exact h0
    rename_i h1
    split
    rotate_left
    ·exact h0
    cases hcnd:(e'.t == e.t && sh' == sh && nilEt e sh && ver == ver' && sh0 == sh' && lo == 0 && len == 0)
    ·exact h0
    ·simp only [Bool.and_eq_true,beq_iff_eq] at hcnd
     obtain ⟨⟨⟨⟨⟨⟨h2,rfl⟩,h3⟩,rfl⟩,rfl⟩,rfl⟩,rfl⟩:=hcnd
     obtain ⟨ρ',hs1,a2,hv⟩:=emptyNest hn.sr ho h1 h2 h3
     have hx:=ht.at_ i
     rw [hq] at hx
     simp only [RA,RS,RC,ho] at hx
     obtain ⟨_,hx⟩:=hx
     obtain ⟨hle,v,hρ,hsl⟩:=hx trivial trivial
     obtain ⟨v',hρ',hmv⟩:=hv v hρ
     refine ⟨⟨Im,_,hn.inn hs1 a2,⟨by simpa using ht.size,fun k=>?_⟩⟩,hd⟩
     show RA w Im _ _ (getT (s.t.set i _) k) _
     rw [getT_set]
     split
     ·rename_i hk
      obtain ⟨rfl,_⟩:=hk
      have hlt:=(List.getElem?_eq_some_iff.1 ho).1
      show RC w Im ρ' (s.o.set id (.arr e sh0 (ver + 1) false [])) (.loc id (ver + 1) sh0 0 0) _
      simp only [RC,List.getElem?_set_self hlt]
      exact ⟨Nat.le_refl _,fun _ _=>⟨by simp,v',hρ',by rw [hmv];exact hsl⟩⟩
     ·exact innA a2 (ht.at_ k)
   ·exact h0
  ·exact h0
 | some j =>
  simp only
  split
  ·rename_i cs ho
   split
   ·rename_i s' f xs hq
    have hil:=(List.getElem?_eq_some_iff.1 hq).1
    split
    ·split
     ·rename_i ys hys
      obtain ⟨b1,b2⟩:=rebox (ds:=cs.set i (.p (.row sh 0 ys))) hn.sr ho (by simp) (fun k c y hk hc=>by
       by_cases ek:k = i
       ·subst ek
        rw [List.getElem?_set_self hil] at hk
        injection hk with hk
        subst hk
        exact (asRow_weak hys).2 w Im _ (hc _ hq)
       ·rw [List.getElem?_set_ne (Ne.symm ek)] at hk
        exact hc c hk)
      exact ⟨⟨Im,_,hn.inn b1 b2,⟨ht.size,fun k=>innA b2 (ht.at_ k)⟩⟩,hd⟩
     ·exact h0
    ·cases hf:(f == 2 && nilEt e sh)
     ·exact h0
     ·simp only [Bool.and_eq_true,beq_iff_eq] at hf
      obtain ⟨rfl,hnil⟩:=hf
      obtain ⟨g,hs1,a2,a3⟩:=ad hnil
      have hlt:=(List.getElem?_eq_some_iff.1 ho).1
      have ho1:(s.o ++ [AObj.arr e sh 0 false []])[j]? = some (.box cs):=by rw [List.getElem?_append_left hlt];exact ho
      obtain ⟨b1,b2⟩:=rebox (ds:=cs.set i (.loc s.o.length 0 sh 0 0)) hs1 ho1 (by simp) (fun k c y hk hc=>by
       by_cases ek:k = i
       ·subst ek
        rw [List.getElem?_set_self hil] at hk
        injection hk with hk
        subst hk
        have:=nil_of_RP2 (w:=w) (Im:=Im) (hc _ hq)
        rw [this]
        exact a3
       ·rw [List.getElem?_set_ne (Ne.symm ek)] at hk
        exact hc c hk)
      have a4:=a2.trans b2
      exact ⟨⟨Im,_,hn.inn b1 a4,⟨ht.size,fun k=>innA a4 (ht.at_ k)⟩⟩,hd⟩
   ·exact h0
  ·exact h0
theorem Sta.letGo {s:St} (h:Sta B s a w) (q:Option Nat × Nat × Et × Nat):Sta B (letGo s q) a w:=by
 obtain ⟨⟨Im,ρ,hn,ht⟩,hd⟩:=h
 unfold Dp.letGo
 split
 ·rename_i id ver sh lo len hq
  obtain ⟨Im',hst,_⟩:=freezeO_sound hn.sr id
  exact ⟨⟨Im',ρ,hn.step hst,ht.mono hst.keepA⟩,hd⟩
 ·exact ⟨⟨Im,ρ,hn,ht⟩,hd⟩
theorem Sta.own1 {s:St} (h:Sta B s a w) (q:Option Nat × Nat × Et × Nat):Sta B (own1 s q) a w:=by
 unfold Dp.own1
 split
 · exact h.letGo q
 · exact h.own1G q
theorem Sta.head {s:St} (h:Sta B s a w) (live:List Nat) (own:List (Option Nat × Nat × Et × Nat)):Sta B (head B.bl.length live own s) a w:=by
 have hf:∀ (l:List (Option Nat × Nat × Et × Nat)) (s:St),Sta B s a w->Sta B (l.foldl Dp.own1 s) a w:=by
  intro l
  induction l with
  | nil=>intro s h;exact h
  | cons q l ih=>intro s h;exact ih _ (h.own1 q)
 unfold Dp.head
 split
 ·exact h.canon live
 ·exact (hf _ _ (h.canon live)).canon live
end
end Go.Dp
/- Regions that draw their order: what quiet operations look at,what others change. -/
set_option linter.unusedVariables false
set_option linter.unusedSimpArgs false
namespace Go.Dp
def AObj.norm:AObj->AObj
 | .arr e sh ver _ xs=>.arr e sh ver false xs
 | x=>x
def at' (o:List AObj) (id:Nat):Option AObj:=(o[id]?).map AObj.norm
def AgreeO (ids:List Nat) (o o':List AObj):Prop:=∀ id ∈ ids,at' o id = at' o' id
def AgreeT (xs:List Tmp) (t t':List AV):Prop:=∀ x ∈ xs,getT t x = getT t' x
section
variable {E:Env} {o o':List AObj} {t t':List AV} {ids:List Nat} {C:Ctx} {ops:Array Oper}
theorem at_box {id:Nat} {cs:List CV} (h:at' o id = at' o' id) (ho:o[id]? = some (.box cs)):o'[id]? = some (.box cs):=by
 simp only [at',ho] at h
 cases h':o'[id]? with
 | none=>rw [h'] at h;simp [AObj.norm] at h
 | some x=>rw [h'] at h;cases x <;> simp [AObj.norm] at h;subst h;rfl
theorem at_arr {id sh ver:Nat} {e:Et} {fz:Bool} {xs:List PV} (h:at' o id = at' o' id) (ho:o[id]? = some (.arr e sh ver fz xs)):∃ fz',o'[id]? = some (.arr e sh ver fz' xs):=by
 simp only [at',ho] at h
 cases h':o'[id]? with
 | none=>rw [h'] at h;simp [AObj.norm] at h
 | some x =>
  rw [h'] at h
  cases x <;> simp [AObj.norm] at h
  obtain ⟨rfl,rfl,rfl,rfl⟩:=h
  exact ⟨_,rfl⟩
theorem at_isBox {id:Nat} (h:at' o id = at' o' id):isBox o id = isBox o' id:=by
 simp only [at'] at h
 unfold isBox
 cases h1:o[id]? <;> cases h2:o'[id]? <;> simp only [h1,h2,Option.map_some,Option.map_none] at h <;> first | rfl | (cases h;done) | skip
 injection h with h
 rename_i x y
 cases x <;> cases y <;> simp [AObj.norm] at h <;> rfl
theorem at_cur {id ver sh:Nat} (h:at' o id = at' o' id):cur o id ver sh = cur o' id ver sh:=by
 simp only [at'] at h
 unfold cur
 cases h1:o[id]? <;> cases h2:o'[id]? <;> simp only [h1,h2,Option.map_some,Option.map_none] at h <;> first | rfl | (cases h;done) | skip
 injection h with h
 rename_i x y
 cases x <;> cases y <;> simp [AObj.norm] at h <;> first | rfl | (obtain ⟨rfl,rfl,rfl,rfl⟩:=h;rfl)
def Par (ids:List Nat) (o:List AObj) (f:List AObj->Kt->R):Prop:=(∀ K,f o K = none) ∨ ∃ v,∀ o',AgreeO ids o o'->∀ K,f o' K = K v o'
theorem Par.none:Par ids o fun _ _=>none:=.inl fun _=>rfl
theorem Par.ret (v:AV):Par ids o fun o K=>K v o:=.inr ⟨v,fun _ _ _=>rfl⟩
theorem Par.bind {α:Type} (x:Option α) {f:α->List AObj->Kt->R} (h:∀ a,x = some a->Par ids o (f a)):Par ids o fun o K=>x.bind fun a=>f a o K:=by
 cases x with
 | none=>exact .none
 | some a=>exact h a rfl
theorem Par.bif (c:Bool) {f:List AObj->Kt->R} (h:c = true->Par ids o f):Par ids o fun o K=>bif c then f o K else .none:=by
 cases c
 · exact .none
 · exact h rfl
theorem Par.bifO {c:List AObj->Bool} (hc:∀ o',AgreeO ids o o'->c o = c o') {f:List AObj->Kt->R} (h:Par ids o f):Par ids o fun o K=>cond (c o) (f o K) Option.none:=by
 cases hb:c o
 ·left
  intro K
  simp only [hb,cond_false]
 ·rcases h with h | ⟨v,h⟩
  ·left
   intro K
   simp only [hb,cond_true]
   exact h K
  ·right
   refine ⟨v,fun o' ho K=>?_⟩
   have h1:=hc o' ho
   rw [hb] at h1
   simp only [<- h1,cond_true]
   exact h o' ho K
theorem mem_cells1 {c:CV} {id:Nat} (h:id ∈ idsC c):id ∈ idsA (.s (.c c)):=by simpa [idsA,cellsOfA,cellsOfS] using h
theorem opLoad_par (T:TypeId) (a:AV) (hi:∀ id ∈ idsA a,id ∈ ids):Par ids o fun o K=>opLoad E T a o K:=by
 cases hc:a.cv? with
 | none=>left;intro K;simp [opLoad,hc]
 | some c =>
  have ha:=cv_some hc
  subst ha
  cases hT:E.sh T with
  | none=>left;intro K;cases c <;> simp [opLoad,AV.cv?,hT]
  | some sh =>
   cases c with
   | bptr id off =>
    have hid:=hi id (mem_cells1 (by simp [idsC]))
    cases ho:o[id]? with
    | none=>left;intro K;simp [opLoad,AV.cv?,hT,ho]
    | some x =>
     cases x with
     | box cs =>
      cases hv:ofCells sh (cs.drop off) with
      | none=>left;intro K;simp [opLoad,AV.cv?,hT,ho,hv]
      | some v=>right;exact ⟨.s v,fun o' hag K=>by simp [opLoad,AV.cv?,hT,at_box (hag id hid) ho,hv]⟩
     | _=>left;intro K;simp [opLoad,AV.cv?,hT,ho]
   | aptr id ver vsh i off =>
    have hid:=hi id (mem_cells1 (by simp [idsC]))
    cases ho:o[id]? with
    | none=>left;intro K;simp [opLoad,AV.cv?,hT,ho]
    | some x =>
     cases x with
     | arr e sh' ver' fz xs =>
      cases hkd:e.kd with
      | some kd =>
       cases hcnd:(ver == ver' && vsh == sh' && sh == 0 && off == kd.j && kd.hole.isNone) with
       | false=>left;intro K;simp only [opLoad,AV.cv?,hT,ho,hkd,hcnd,cond_false]
       | true =>
        right
        refine ⟨.s (.c (.nel id ver kd.nv i)),fun o' hag K=>?_⟩
        obtain ⟨fz',ho'⟩:=at_arr (hag id hid) ho
        simp only [opLoad,AV.cv?,hT,ho',hkd,hcnd,cond_true]
      | none =>
       cases hcnd:(ver == ver' && vsh == sh') with
       | false=>left;intro K;simp only [opLoad,AV.cv?,hT,ho,hkd,hcnd,cond_false]
       | true =>
        cases hxi:xs[i]? with
        | none =>
         left
         intro K
         simp only [opLoad,AV.cv?,hT,ho,hkd,hcnd,cond_true,hxi,Option.bind_none]
        | some x =>
         rcases loadP_det (E.ct T) x vsh off sh with h | ⟨u,h⟩
         ·left
          intro K
          simp only [opLoad,AV.cv?,hT,ho,hkd,hcnd,cond_true,hxi,Option.bind_some]
          exact h _
         ·right
          refine ⟨.p u,fun o' hag K=>?_⟩
          obtain ⟨fz',ho'⟩:=at_arr (hag id hid) ho
          simp only [opLoad,AV.cv?,hT,ho',hkd,hcnd,cond_true,hxi,Option.bind_some]
          exact h _
     | _=>left;intro K;simp [opLoad,AV.cv?,hT,ho]
   | eptr v vsh off =>
    rcases loadP_det (E.ct T) v vsh off sh with h | ⟨u,h⟩
    ·left;intro K;simp only [opLoad,AV.cv?,hT];exact h _
    ·right;exact ⟨.p u,fun o' _ K=>by simp only [opLoad,AV.cv?,hT];exact h _⟩
   | _=>left;intro K;simp [opLoad,AV.cv?,hT]
theorem opFieldAddr_par (T:TypeId) (a:AV) (f:Nat) (hi:∀ id ∈ idsA a,id ∈ ids):Par ids o fun o K=>opFieldAddr E T a f o K:=by
 cases hc:a.cv? with
 | none=>left;intro K;simp [opFieldAddr,hc]
 | some c =>
  have ha:=cv_some hc
  subst ha
  cases hT:E.fl T f with
  | none=>left;intro K;cases c <;> simp [opFieldAddr,AV.cv?,hT]
  | some p =>
   obtain ⟨fo,fs⟩:=p
   cases c with
   | bptr id off =>
    have:=Par.bifO (ids:=ids) (o:=o) (c:=fun o=>isBox o id) (fun o' h=>at_isBox (h id (hi id (mem_cells1 (by simp [idsC]))))) (Par.ret (.s (.c (.bptr id (off + fo)))))
    simpa [opFieldAddr,AV.cv?,hT] using this
   | aptr id ver sh i off =>
    have:=Par.bifO (ids:=ids) (o:=o) (c:=fun o=>cur o id ver sh) (fun o' h=>at_cur (h id (hi id (mem_cells1 (by simp [idsC]))))) (Par.ret (.s (.c (.aptr id ver sh i (off + fo)))))
    simpa [opFieldAddr,AV.cv?,hT] using this
   | eptr v sh off=>right;exact ⟨.s (.c (.eptr v sh (off + fo))),fun o' _ K=>by simp [opFieldAddr,AV.cv?,hT]⟩
   | _=>left;intro K;simp [opFieldAddr,AV.cv?,hT]
theorem opIndexAddr_par (T:TypeId) (a i:AV) (hi:∀ id ∈ idsA a,id ∈ ids):Par ids o fun o K=>opIndexAddr E T a i o K:=by
 cases hc:a.cv? with
 | none=>left;intro K;simp [opIndexAddr,hc]
 | some c =>
  have ha:=cv_some hc
  subst ha
  cases hT:E.sl T with
  | none =>
   cases c with
   | bptr id off =>
    have:=Par.bind (ids:=ids) (o:=o) i.int? fun n _=>Par.bifO (ids:=ids) (o:=o) (c:=fun o=>isBox o id && decide (0<=n) && decide (n < E.ar T))
     (fun o' h=>by rw [at_isBox (h id (hi id (mem_cells1 (by simp [idsC]))))]) (Par.ret (.s (.c (.bptr id (off + n.toNat)))))
    simpa [opIndexAddr,AV.cv?,hT] using this
   | aptr id ver sh j off =>
    have:=Par.bind (ids:=ids) (o:=o) i.int? fun n _=>Par.bifO (ids:=ids) (o:=o) (c:=fun o=>cur o id ver sh && decide (0<=n) && decide (n < E.ar T))
     (fun o' h=>by rw [at_cur (h id (hi id (mem_cells1 (by simp [idsC]))))]) (Par.ret (.s (.c (.aptr id ver sh j (off + n.toNat)))))
    simpa [opIndexAddr,AV.cv?,hT] using this
   | eptr v sh off =>
    have:=Par.bind (ids:=ids) (o:=o) i.int? fun n _=>Par.bif (decide (0<=n) && decide (n < E.ar T)) fun _=>Par.ret (.s (.c (.eptr v sh (off + n.toNat))))
    simpa [opIndexAddr,AV.cv?,hT] using this
   | _=>left;intro K;simp [opIndexAddr,AV.cv?,hT]
  | some p =>
   obtain ⟨e,sh',by_⟩:=p
   cases c with
   | p v =>
    have:=Par.bind (ids:=ids) (o:=o) v.row? fun q _=>Par.bif (q.1 == sh') fun _=>Par.bind (ids:=ids) (o:=o) i.int? fun n _=>Par.bind (ids:=ids) (o:=o) (lookP q.2.2 n) fun x _=>Par.ret (.s (.c (.eptr x sh' 0)))
    simpa [opIndexAddr,AV.cv?,hT] using this
   | loc id ver sh lo len =>
    have:=Par.bind (ids:=ids) (o:=o) i.int? fun n _=>Par.bifO (ids:=ids) (o:=o) (c:=fun o=>sh == sh' && cur o id ver sh && decide (0<=n) && decide (n < len))
     (fun o' h=>by rw [at_cur (h id (hi id (mem_cells1 (by simp [idsC]))))]) (Par.ret (.s (.c (.aptr id ver sh (lo + n.toNat) 0))))
    simpa [opIndexAddr,AV.cv?,hT] using this
   | _=>left;intro K;simp [opIndexAddr,AV.cv?,hT]
theorem opIndex_par (T:TypeId) (a i:AV):Par ids o fun o K=>opIndex E T a i o K:=by
 cases hv:a.pv? with
 | none=>left;intro K;simp [opIndex,hv]
 | some v =>
  cases hst:E.st T with
  | false=>left;intro K;simp [opIndex,hv,hst]
  | true =>
   have:=Par.bind (ids:=ids) (o:=o) v.str? fun s _=>Par.bind (ids:=ids) (o:=o) i.int? fun n _=>Par.bind (ids:=ids) (o:=o) (byteAt s n) fun b _=>Par.ret (.p (.int .u8 b))
   simpa [opIndex,hv,hst] using this
theorem opConvert_par (S T:TypeId) (a:AV):Par ids o fun o K=>opConvert E S T a o K:=by
 cases h1:E.ik S <;> cases h2:E.ik T <;> first | (left;intro K;simp [opConvert,h1,h2];done) | skip
 rename_i k1 k2
 have:=Par.bind (ids:=ids) (o:=o) a.int? fun n _=>Par.ret (.p (.int k2 (k2.wrap n)))
 simpa [opConvert,h1,h2] using this
theorem opExtract_par (a:AV) (i:Nat):Par ids o fun o K=>opExtract a i o K:=by
 cases a with
 | s v=>left;intro K;rfl
 | tup vs=>exact Par.bind vs[i]? fun v _=>Par.ret (.s v)
theorem opField_par (T:TypeId) (a:AV) (f:Nat):Par ids o fun o K=>opField E T a f o K:=by
 unfold opField
 split
 ·rename_i off cs _
  exact Par.bind cs[off]? fun c _=>Par.ret (.s (.c c))
 ·rename_i off ps _
  exact Par.bind ps[off]? fun c _=>Par.ret (.p c)
 ·exact Par.none
theorem opLen_par (T:TypeId) (a:AV) (hi:∀ id ∈ idsA a,id ∈ ids):Par ids o fun o K=>opLen E T a o K:=by
 cases hc:a.cv? with
 | none=>left;intro K;simp [opLen,hc]
 | some c =>
  have ha:=cv_some hc
  subst ha
  cases c with
  | p v =>
   cases hst:E.st T with
   | true =>
    have:=Par.bind (ids:=ids) (o:=o) v.str? fun s _=>Par.ret (.p (.int .i64 s.size))
    simpa [opLen,AV.cv?,hst] using this
   | false =>
    cases hsl:E.sl T with
    | none=>left;intro K;simp [opLen,AV.cv?,hst,hsl]
    | some p =>
     have:=Par.bind (ids:=ids) (o:=o) v.row? fun q _=>Par.ret (.p (.int .i64 q.2.2.length))
     simpa [opLen,AV.cv?,hst,hsl] using this
  | loc id ver sh lo len =>
   have:=Par.bifO (ids:=ids) (o:=o) (c:=fun o=>(E.sl T).isSome && cur o id ver sh) (fun o' h=>by rw [at_cur (h id (hi id (mem_cells1 (by simp [idsC]))))]) (Par.ret (.p (.int .i64 len)))
   simpa [opLen,AV.cv?] using this
  | _=>left;intro K;simp [opLen,AV.cv?]
theorem boundK_par (a:Option AV) (d:Int) {f:Int->List AObj->Kt->R} (h:∀ n,Par ids o (f n)):Par ids o fun o K=>boundK a d fun n=>f n o K:=by
 cases a with
 | none=>exact h d
 | some a=>exact Par.bind a.int? fun n _=>h n
theorem opSlice_par (T:TypeId) (a:AV) (lo hi mx:Option AV) (hids:∀ id ∈ idsA a,id ∈ ids):Par ids o fun o K=>opSlice E T a lo hi mx o K:=by
 have row:∀ (sh f:Nat) (xs:List PV) (l h:Int),Par ids o fun o K=>sliceRow sh f xs l h o K:=fun sh f xs l h=>Par.bif _ fun _=>Par.ret _
 cases hc:a.cv? with
 | none=>left;intro K;simp [opSlice,hc]
 | some c =>
  have ha:=cv_some hc
  subst ha
  cases mx with
  | none =>
   cases c with
   | p v =>
    cases hst:E.st T with
    | true =>
     have:=Par.bind (ids:=ids) (o:=o) v.str? fun s _=>boundK_par (ids:=ids) (o:=o) lo 0 fun l=>boundK_par (ids:=ids) (o:=o) hi s.size fun h=>(Par.bif _ fun _=>Par.ret _:Par ids o fun o K=>sliceStr s l h o K)
     simpa [opSlice,AV.cv?,hst,sliceStr] using this
    | false =>
     cases hsl:E.sl T with
     | none=>left;intro K;simp [opSlice,AV.cv?,hst,hsl]
     | some p =>
      obtain ⟨e,sh',by_⟩:=p
      have:=Par.bind (ids:=ids) (o:=o) v.row? fun q _=>Par.bif (ids:=ids) (o:=o) (q.1 == sh' || q.2.1 == 2) fun _=>boundK_par (ids:=ids) (o:=o) lo 0 fun l=>boundK_par (ids:=ids) (o:=o) hi q.2.2.length fun h=>row q.1 (bif q.2.1 == 2 then 2 else 0) q.2.2 l h
      simpa [opSlice,AV.cv?,hst,hsl] using this
   | loc id ver sh l0 len =>
    cases hsl:E.sl T with
    | none=>left;intro K;simp [opSlice,AV.cv?,hsl]
    | some p =>
     obtain ⟨e,sh',by_⟩:=p
     have:=Par.bifO (ids:=ids) (o:=o) (c:=fun o=>sh == sh' && cur o id ver sh) (fun o' h=>by rw [at_cur (h id (hids id (mem_cells1 (by simp [idsC]))))])
      (boundK_par (ids:=ids) (o:=o) lo 0 fun l=>boundK_par (ids:=ids) (o:=o) hi len fun h=>(Par.bif _ fun _=>Par.ret _:Par ids o fun o K=>sliceLoc id ver sh l0 len l h o K))
     simpa [opSlice,AV.cv?,hsl,sliceLoc] using this
   | _=>left;intro K;simp [opSlice,AV.cv?]
  | some m =>
   cases c with
   | p v =>
    cases hi with
    | none=>left;intro K;simp [opSlice,AV.cv?]
    | some hv =>
     cases hsl:E.sl T with
     | none=>left;intro K;simp [opSlice,AV.cv?,hsl]
     | some p =>
      obtain ⟨e,sh',by_⟩:=p
      have:=Par.bind (ids:=ids) (o:=o) v.row? fun q _=>Par.bif (ids:=ids) (o:=o) (q.1 == sh' || q.2.1 == 2) fun _=>boundK_par (ids:=ids) (o:=o) lo 0 fun l=>Par.bind (ids:=ids) (o:=o) hv.int? fun h _=>Par.bind (ids:=ids) (o:=o) m.int? fun mm _=>Par.bif (mm == h) fun _=>row q.1 (bif q.2.1 == 2 then 2 else 1) q.2.2 l h
      simpa [opSlice,AV.cv?,hsl] using this
   | _=>left;intro K;simp [opSlice,AV.cv?]
def ParL (ids:List Nat) (o:List AObj) (f:List AObj->(List CV->R)->R):Prop:=(∀ K,f o K = none) ∨ ∃ v,∀ o',AgreeO ids o o'->∀ K,f o' K = K v
theorem cellsK_par (sh:Nat) (v:SV) (hids:∀ id ∈ (cellsOfS v).flatMap idsC,id ∈ ids):ParL ids o fun o K=>cellsK o sh v K:=by
 cases v with
 | agg cs =>
  cases hc:(sh == cs.length && sh != 0) with
  | false=>left;intro K;simp only [cellsK,hc,cond_false]
  | true=>right;exact ⟨cs,fun o' _ K=>by simp only [cellsK,hc,cond_true]⟩
 | c c =>
  have gen:(∀ v,c ≠ .p v)->(∀ o',AgreeO ids o o'->okC o c = okC o' c)->ParL ids o fun o K=>cellsK o sh (.c c) K:=by
   intro hp hk
   cases hb:(sh == 0 && okC o c) with
   | false =>
    left
    intro K
    cases c <;> first | (exact absurd rfl (hp _)) | simp only [cellsK,hb,cond_false]
   | true =>
    right
    refine ⟨[c],fun o' ho K=>?_⟩
    rw [hk o' ho] at hb
    cases c <;> first | (exact absurd rfl (hp _)) | simp only [cellsK,hb,cond_true]
  cases c with
  | p v =>
   cases hc:v.shp sh with
   | false=>left;intro K;simp only [cellsK,hc,cond_false]
   | true=>right;exact ⟨_,fun o' _ K=>by simp only [cellsK,hc,cond_true];rfl⟩
  | loc id ver sh2 lo len=>exact gen (by simp) fun o' h=>at_cur (h id (hids id (by simp [cellsOfS,idsC])))
  | bptr id off=>exact gen (by simp) fun o' h=>at_isBox (h id (hids id (by simp [cellsOfS,idsC])))
  | aptr id ver sh2 i off=>exact gen (by simp) fun o' h=>at_cur (h id (hids id (by simp [cellsOfS,idsC])))
  | undef=>exact gen (by simp) fun o' h=>rfl
  | eptr v a b=>exact gen (by simp) fun o' h=>rfl
  | fn f caps=>exact gen (by simp) fun o' h=>rfl
  | cfn f us=>exact gen (by simp) fun o' h=>rfl
  | own e sh2 xs=>exact gen (by simp) fun o' h=>rfl
  | nel id ver nv i=>exact gen (by simp) fun o' h=>rfl
theorem buildIn_par (T:TypeId) (t:List AV):∀ (ps:List (Nat × Operand)) (cs:List CV),(∀ q ∈ ps,∀ id ∈ idsA (aval t q.2),id ∈ ids)->ParL ids o fun o K=>buildIn E T t o ps cs K
 | [],cs,_=>.inr ⟨cs,fun _ _ _=>rfl⟩
 | (i,x) :: ps,cs,hids=>by
  cases hf:E.pl T i with
  | none=>left;intro K;simp [buildIn,hf]
  | some p =>
   obtain ⟨off,sh⟩:=p
   cases hv:(aval t x).sv? with
   | none=>left;intro K;simp [buildIn,hf,hv]
   | some v =>
    have h1:=hids (i,x) (by simp)
    rw [sv_some hv] at h1
    rcases cellsK_par (o:=o) sh v h1 with h2 | ⟨ns,h2⟩
    ·left;intro K;simp only [buildIn,hf,hv];exact h2 _
    ·replace h2:∀ o',AgreeO ids o o'->∀ K:List CV->R,cellsK o' sh v K = K ns:=h2
     cases hs:splice cs off ns with
     | none =>
      left
      intro K
      simp only [buildIn,hf,hv]
      rw [h2 o (fun _ _=>rfl)]
      simp [hs]
     | some cs' =>
      rcases buildIn_par T t ps cs' (fun q hq=>hids q (by simp [hq])) with h3 | ⟨v3,h3⟩
      all_goals simp only at h3
      ·left
       intro K
       simp only [buildIn,hf,hv]
       rw [h2 o (fun _ _=>rfl)]
       simp only [hs,Option.bind_some]
       exact h3 K
      ·right
       refine ⟨v3,fun o' ho K=>?_⟩
       simp only [buildIn,hf,hv]
       rw [h2 o' ho]
       simp only [hs,Option.bind_some]
       exact h3 o' ho K
theorem opBuild_par (T:TypeId) (t:List AV) (ps:List (Nat × Operand)) (hids:∀ q ∈ ps,∀ id ∈ idsA (aval t q.2),id ∈ ids):Par ids o fun o K=>opBuild E T t ps o K:=by
 cases hz:E.zr T with
 | none=>left;intro K;simp [opBuild,hz]
 | some z =>
  cases hsh:E.sh T with
  | none=>left;intro K;simp [opBuild,hz,hsh]
  | some n =>
   cases n with
   | zero=>left;intro K;simp [opBuild,hz,hsh]
   | succ n =>
    rcases buildIn_par (E:=E) (o:=o) (ids:=ids) T t ps (z.map .p) hids with h | ⟨v,h⟩
    all_goals simp only at h
    ·left;intro K;simp only [opBuild,hz,hsh];exact h _
    ·right;exact ⟨.s (mkAgg v),fun o' ho K=>by simp only [opBuild,hz,hsh];rw [h o' ho]⟩
theorem evOp_par {op:Op} (hq:silent op = true) (hids:∀ x ∈ op.operands.toList,∀ id ∈ idsA (aval t x),id ∈ ids):Par ids o fun o K=>evOp E op ⟨t,o⟩ K:=by
 cases op with
 | move x=>exact Par.ret _
 | assign x=>exact Par.ret _
 | build T ps=>exact opBuild_par T t ps.toList fun q hq=>hids q.2 (by simp only [Op.operands];exact List.mem_map.2 ⟨q,hq,rfl⟩)
 | load T x=>exact opLoad_par T _ (hids x (by simp [Op.operands]))
 | nilCheck x =>
  simp only [evOp]
  have h1:=hids x (by simp [Op.operands])
  cases hc:(aval t x).cv? with
  | none=>left;intro K;rfl
  | some c =>
   rw [cv_some hc] at h1
   cases c with
   | bptr id off=>exact Par.bifO (c:=fun o=>isBox o id) (fun o' h=>at_isBox (h id (h1 id (mem_cells1 (by simp [idsC]))))) (Par.ret _)
   | _=>left;intro K;rfl
 | binOp op T x y flag =>
  simp only [evOp]
  cases h1:(aval t x).pv? with
  | none=>left;intro K;rfl
  | some a =>
   cases h2:(aval t y).pv? with
   | none=>left;intro K;rfl
   | some b =>
    simp only
    cases nilEq op a b with
    | some c=>exact Par.bif _ fun _=>Par.ret (.p (.bool c))
    | none =>
     simp only
     cases nilRow op a b
     ·simp only [binK_eq,cond_false]
      exact Par.bind (pbinT (E.eqs T) (E.bl T) op a b) fun v _=>Par.ret (.p v)
     ·simp only [cond_true]
      exact Par.bif _ fun _=>Par.ret (.p (.bool (isNeq op)))
 | unOp op T x =>
  simp only [evOp]
  exact Par.bind (aval t x).pv? fun a _=>Par.bind (pun op a) fun v _=>Par.ret (.p v)
 | convert S T x=>exact opConvert_par S T _
 | makeFunc fn first caps =>
  simp only [evOp]
  unfold opMakeFunc
  split
  ·split
   ·exact Par.ret _
   ·exact Par.bind (capIds t caps.toList) fun v _=>Par.ret _
  ·exact Par.none
 | slice T x lo hi mx=>exact opSlice_par T _ _ _ _ (hids x (by simp [Op.operands]))
 | fieldAddr T x f=>exact opFieldAddr_par T _ f (hids x (by simp [Op.operands]))
 | indexAddr T x i=>exact opIndexAddr_par T _ _ (hids x (by simp [Op.operands]))
 | index T x i=>exact opIndex_par T _ _
 | extract x i=>exact opExtract_par _ i
 | field T x f=>exact opField_par T _ f
 | call c =>
  simp only [evOp]
  split
  ·rename_i x T hc ha hT
   exact opLen_par T _ (hids x (by simp [Op.operands,Call.operands,hc,list1 ha]))
  ·rename_i x y T T' hc ha hT
   simp [silent,hc] at hq
  ·rename_i x T hc ha hT
   unfold opCap
   split
   ·exact Par.bind _ fun q _=>Par.bif _ fun _=>Par.ret _
   ·exact Par.none
  ·rename_i x y hc ha
   unfold opMin
   split
   ·exact Par.ret _
   ·exact Par.none
  ·rename_i x y hc ha
   unfold opMin
   split
   ·exact Par.ret _
   ·exact Par.none
  ·rename_i x y T T' hc ha hT;simp [silent,hc] at hq
  ·rename_i x T hc ha hT;simp [silent,hc] at hq
  ·exact Par.none
 | _=>simp [silent] at hq
theorem evOp_parQ {op:Op} (hq:silent op = true):Par (idsQ t op) o fun o K=>evOp E op ⟨t,o⟩ K:=by
 cases op with
 | move x=>exact Par.ret _
 | assign x=>exact Par.ret _
 | binOp op T x y flag =>
  simp only [evOp]
  cases h1:(aval t x).pv? with
  | none=>left;intro K;rfl
  | some a =>
   cases h2:(aval t y).pv? with
   | none=>left;intro K;rfl
   | some b =>
    simp only
    cases nilEq op a b with
    | some c=>exact Par.bif _ fun _=>Par.ret (.p (.bool c))
    | none =>
     simp only
     cases nilRow op a b
     ·simp only [binK_eq,cond_false]
      exact Par.bind (pbinT (E.eqs T) (E.bl T) op a b) fun v _=>Par.ret (.p v)
     ·simp only [cond_true]
      exact Par.bif _ fun _=>Par.ret (.p (.bool (isNeq op)))
 | unOp op T x =>
  simp only [evOp]
  exact Par.bind (aval t x).pv? fun a _=>Par.bind (pun op a) fun v _=>Par.ret (.p v)
 | convert S T x=>exact opConvert_par S T _
 | makeFunc fn first caps =>
  simp only [evOp]
  unfold opMakeFunc
  split
  ·split
   ·exact Par.ret _
   ·exact Par.bind (capIds t caps.toList) fun v _=>Par.ret _
  ·exact Par.none
 | extract x i=>exact opExtract_par _ i
 | pick c a b=>simp [silent] at hq
 | _=>exact evOp_par hq fun x hx id hid=>List.mem_flatMap.2 ⟨x,hx,hid⟩
end
end Go.Dp
/- What operations may change. -/
set_option linter.unusedVariables false
set_option linter.unusedSimpArgs false
namespace Go.Dp
def Keeps (o:List AObj) (T:List Nat) (o':List AObj):Prop:=o.length<=o'.length /\ ∀ id,id < o.length->id ∉ T->at' o id = at' o' id
def ParG {β:Type} (T:List Nat) (o:List AObj) (f:(β->List AObj->R)->R):Prop:=(∀ K,f K = none) ∨ ∃ b o',(∀ K,f K = K b o') /\ Keeps o T o'
section
variable {E:Env} {o o' o2:List AObj} {t t':List AV} {ids T T':List Nat} {C:Ctx} {ops:Array Oper} {β γ:Type}
theorem Keeps.refl:Keeps o T o:=⟨Nat.le_refl _,fun _ _ _=>rfl⟩
theorem Keeps.trans (h:Keeps o T o') (k:Keeps o' T o2):Keeps o T o2:=⟨Nat.le_trans h.1 k.1,fun id hi ht=>(h.2 id hi ht).trans (k.2 id (Nat.lt_of_lt_of_le hi h.1) ht)⟩
theorem Keeps.app (x:List AObj):Keeps o T (o ++ x):=⟨by simp,fun id hi _=>by simp only [at',List.getElem?_append_left hi]⟩
theorem Keeps.set {id:Nat} (x:AObj) (h:id ∈ T):Keeps o T (o.set id x):=⟨by simp,fun i _ hn=>by simp only [at'];rw [List.getElem?_set_ne (by rintro rfl;exact hn h)]⟩
theorem nest_freezeO {i id:Nat} (h:isNest (freezeO o i) id = true):isNest o id = true:=by
 unfold Dp.freezeO at h
 split at h
 ·rename_i e sh ver fz xs ho
  have key:∀ (x:AObj),(∀ e sh ver fz xs,x = .arr e sh ver fz xs->e.kd = none)->isNest (o.set i x) id = true->isNest o id = true:=by
   intro x hx h
   unfold isNest at h ⊢
   by_cases e1:id = i
   ·subst e1
    rw [List.getElem?_set_self (List.getElem?_eq_some_iff.1 ho).1] at h
    split at h
    ·rename_i e2 _ _ _ _ h2
     injection h2 with h2
     rw [hx _ _ _ _ _ h2] at h
     cases h
    ·cases h
   ·rwa [List.getElem?_set_ne (Ne.symm e1)] at h
  split at h
  ·rename_i hk
   exact key _ (by rintro _ _ _ _ _ h;injection h with h;subst h;exact hk) h
  ·rename_i k hk
   cases hh:k.hole.isNone <;> rw [hh] at h
   ·exact h
   ·exact key _ (by rintro _ _ _ _ _ h;injection h with h;subst h;rfl) h
 ·exact h
theorem Keeps.freezeO (i:Nat) (hn:isNest o i = true->i ∈ T):Keeps o T (freezeO o i):=by
 unfold Dp.freezeO
 split
 ·rename_i e sh ver fz xs h
  split
  ·refine ⟨by simp,fun id hi _=>?_⟩
   simp only [at']
   by_cases e1:id = i
   ·subst e1
    rw [h,List.getElem?_set_self hi]
    rfl
   ·rw [List.getElem?_set_ne (Ne.symm e1)]
  ·rename_i k hk
   cases k.hole.isNone
   ·exact Keeps.refl
   ·exact Keeps.set _ (hn (by simp [isNest,h,hk]))
 ·exact Keeps.refl
theorem nest_freezeC {c:CV} {v:PV} {o1:List AObj} (h:freezeC o c = some (v,o1)) {id:Nat} (hn:isNest o1 id = true):isNest o id = true:=by
 cases c <;> simp [Dp.freezeC] at h
 · rw [<- h.2] at hn;exact hn
 · obtain ⟨u,_,_,rfl⟩:=h;exact nest_freezeO hn
theorem nest_freezeCs:∀ {cs:List CV} {vs:List PV} {o o1:List AObj},freezeCs o cs = some (vs,o1)->∀ {id:Nat},isNest o1 id = true->isNest o id = true
 | [],vs,o,o1,h,id,hn=>by simp [Dp.freezeCs] at h;rw [<- h.2] at hn;exact hn
 | c :: cs,vs,o,o1,h,id,hn=>by
  simp only [Dp.freezeCs] at h
  obtain ⟨⟨v,o2⟩,hv,h⟩:=bind_some h
  obtain ⟨⟨us,o3⟩,hu,h⟩:=bind_some h
  simp at h
  obtain ⟨_,rfl⟩:=h
  exact nest_freezeC hv (nest_freezeCs hu hn)
theorem nest_freezeS {x:SV} {v:PV} {o1:List AObj} (h:freezeS o x = some (v,o1)) {id:Nat} (hn:isNest o1 id = true):isNest o id = true:=by
 cases x with
 | c c=>exact nest_freezeC h hn
 | agg cs =>
  simp only [Dp.freezeS] at h
  obtain ⟨⟨vs,o2⟩,hv,he⟩:=bind_some h
  simp at he
  rw [<- he.2] at hn
  exact nest_freezeCs hv hn
theorem Keeps.freezeC {c:CV} {v:PV} {o1:List AObj} (h:freezeC o c = some (v,o1)) (hn:∀ id ∈ idsC c,isNest o id = true->id ∈ T):Keeps o T o1:=by
 cases c <;> simp [Dp.freezeC] at h
 · rw [<- h.2];exact Keeps.refl
 · obtain ⟨u,_,_,rfl⟩:=h;exact Keeps.freezeO _ (hn _ (by simp [idsC]))
theorem Keeps.freezeCs:∀ {cs:List CV} {vs:List PV} {o o1:List AObj},freezeCs o cs = some (vs,o1)->(∀ c ∈ cs,∀ id ∈ idsC c,isNest o id = true->id ∈ T)->Keeps o T o1
 | [],vs,o,o1,h,hn=>by simp [Dp.freezeCs] at h;rw [<- h.2];exact Keeps.refl
 | c :: cs,vs,o,o1,h,hn=>by
  simp only [Dp.freezeCs] at h
  obtain ⟨⟨v,o2⟩,hv,h⟩:=bind_some h
  obtain ⟨⟨us,o3⟩,hu,h⟩:=bind_some h
  simp at h
  obtain ⟨_,rfl⟩:=h
  exact (Keeps.freezeC hv (hn c (by simp))).trans (Keeps.freezeCs hu fun c' hc' id hid h2=>hn c' (by simp [hc']) id hid (nest_freezeC hv h2))
theorem Keeps.freezeS {x:SV} {v:PV} {o1:List AObj} (h:freezeS o x = some (v,o1)) (hn:∀ c ∈ cellsOfS x,∀ id ∈ idsC c,isNest o id = true->id ∈ T):Keeps o T o1:=by
 cases x with
 | c c=>exact Keeps.freezeC h (hn c (by simp [cellsOfS]))
 | agg cs =>
  simp only [Dp.freezeS] at h
  obtain ⟨⟨vs,o2⟩,hv,he⟩:=bind_some h
  simp at he
  rw [<- he.2]
  exact Keeps.freezeCs hv hn
theorem Keeps.freezeAll:∀ {is:List Nat} {o:List AObj},(∀ i ∈ is,i ∈ T)->Keeps o T (freezeAll is o)
 | [],o,_=>Keeps.refl
 | i :: is,o,hn=>(Keeps.freezeO i fun _=>hn i (by simp)).trans (Keeps.freezeAll (is:=is) fun j hj=>hn j (by simp [hj]))
theorem ParG.none':ParG T o fun (_:β->List AObj->R)=>none:=.inl fun _=>rfl
theorem ParG.ret (b:β) (h:Keeps o T o'):ParG T o fun K=>K b o':=.inr ⟨b,o',fun _=>rfl,h⟩
theorem ParG.bind {α:Type} (x:Option α) {f:α->(β->List AObj->R)->R} (h:∀ a,x = some a->ParG T o (f a)):ParG T o fun K=>x.bind fun a=>f a K:=by
 cases x with
 | none=>exact .none'
 | some a=>exact h a rfl
theorem ParG.bif (c:Bool) {f:(β->List AObj->R)->R} (h:c = true->ParG T o f):ParG T o fun K=>bif c then f K else Option.none:=by
 cases c
 · exact .none'
 · exact h rfl
theorem ParG.seq {f:(β->List AObj->R)->R} {g:β->List AObj->(γ->List AObj->R)->R} (hf:ParG T o f) (hg:∀ b o',(∀ K,f K = K b o')->Keeps o T o'->ParG T o' (g b o')):ParG T o fun K=>f fun b o'=>g b o' K:=by
 rcases hf with h | ⟨b,o',h,hk⟩
 ·left;intro K;exact h _
 ·rcases hg b o' h hk with h2 | ⟨c,o2,h2,hk2⟩
  ·left;intro K;exact (h _).trans (h2 K)
  ·right;exact ⟨c,o2,fun K=>(h _).trans (h2 K),hk.trans hk2⟩
theorem ParG.seqU {f:(List AObj->R)->R} {g:List AObj->(γ->List AObj->R)->R} (hf:ParG (β:=Unit) T o fun K=>f (K ())) (hg:∀ o',ParG T o' (g o')):ParG T o fun K=>f fun o'=>g o' K:=by
 rcases hf with h | ⟨b,o',h,hk⟩
 ·left;intro K;exact h fun _ o'=>g o' K
 ·rcases hg o' with h2 | ⟨c,o2,h2,hk2⟩
  ·left;intro K;exact (h fun _ o'=>g o' K).trans (h2 K)
  ·right;exact ⟨c,o2,fun K=>(h fun _ o'=>g o' K).trans (h2 K),hk.trans hk2⟩
theorem Par.g {f:List AObj->Kt->R} (h:Par ids o f):ParG T o (f o):=by
 rcases h with h | ⟨v,h⟩
 · exact .inl h
 · exact .inr ⟨v,o,h o fun _ _=>rfl,Keeps.refl⟩
theorem elemsIn_par (sh:Nat) (t:List AV):∀ (n:Nat) (ps:List (Nat × Operand)) (o:List AObj),(∀ q ∈ ps,∀ id ∈ idsA (aval t q.2),isNest o id = true->id ∈ T)->ParG T o fun K=>elemsIn sh t n ps o K
 | n,[],o,_=>ParG.ret [] Keeps.refl
 | n,(i,x) :: ps,o,hn=>by
  simp only [elemsIn]
  refine ParG.bif _ fun _=>ParG.bind _ fun v hv=>ParG.bind _ fun yo hyo=>?_
  obtain ⟨y,o1⟩:=yo
  refine ParG.bif _ fun _=>?_
  have h1:=hn (i,x) (by simp)
  rw [sv_some hv] at h1
  rcases elemsIn_par sh t (n + 1) ps o1 (fun q hq id hid h2=>hn q (by simp [hq]) id hid (nest_freezeS hyo h2)) with h | ⟨ys,o2,h,hk⟩
  ·left;intro K;exact h _
  ·right;exact ⟨y :: ys,o2,fun K=>h _,(Keeps.freezeS hyo fun c hc id hid=>h1 id (by simp only [idsA,cellsOfA,List.mem_flatMap];exact ⟨c,hc,hid⟩)).trans hk⟩
theorem nest_touched {s:St} {op:Op} {x:Operand} (hx:x ∈ op.operands.toList) {id:Nat} (hid:id ∈ idsA (aval s.t x)) (h:isNest s.o id = true):id ∈ touched E s op:=by
 unfold touched
 refine List.mem_append_left _ (List.mem_filter.2 ⟨?_,h⟩)
 simp only [idsOp,List.mem_flatMap]
 exact ⟨x,hx,hid⟩
theorem evOp_keeps (s:St) (op:Op):ParG (touched E s op) s.o fun K=>evOp E op s K:=by
 cases hq:silent op
 ·cases op with
  | alloc T=>exact ParG.bind _ fun z _=>ParG.ret _ (Keeps.app _)
  | box T x =>
   simp only [evOp]
   unfold opBox
   split
   ·rename_i v sh _ _
    rcases cellsK_par (o:=s.o) (ids:=(cellsOfS v).flatMap idsC) sh v (fun _ h=>h) with h | ⟨cs,h⟩
    ·left;intro K;exact h _
    ·right;exact ⟨_,_,fun K=>h s.o (fun _ _=>rfl) _,Keeps.app _⟩
   ·exact .none'
  | buildSlice T n ps =>
   obtain ⟨TT,hTT⟩:∃ TT,TT = touched E s (.buildSlice T n ps):=⟨_,rfl⟩
   have hnt:∀ q ∈ ps.toList,∀ id ∈ idsA (aval s.t q.2),isNest s.o id = true->id ∈ TT:=by
    intro q hq id hid h
    rw [hTT]
    exact nest_touched (by simp only [Op.operands];exact List.mem_map.2 ⟨q,hq,rfl⟩) hid h
   have hag:∀ q ∈ ps.toList,∀ cs,aval s.t q.2 = .s (.agg cs)->∀ c ∈ cs,∀ id ∈ idsC c,id ∈ TT:=by
    intro q hq cs hcs c hc id hid
    rw [hTT]
    refine List.mem_append_right _ (List.mem_flatMap.2 ⟨q,hq,?_⟩)
    rw [hcs]
    exact List.mem_flatMap.2 ⟨c,hc,hid⟩
   rw [<- hTT]
   have hac:∀ q ∈ ps.toList,∀ c,aval s.t q.2 = .s (.c c)->(E.nest T).isSome = true->∀ id ∈ idsC c,id ∈ TT:=by
    intro q hq c hc hn id hid
    rw [hTT]
    refine List.mem_append_right _ ?_
    show id ∈ ps.toList.flatMap _
    refine List.mem_flatMap.2 ⟨q,hq,?_⟩
    simp only [hc]
    cases hE:E.nest T with
    | none=>rw [hE] at hn;cases hn
    | some k=>exact hid
   clear hTT
   simp only [evOp]
   cases nestEl E T s.t ps.toList
   ·simp only [cond_false]
    unfold opBuildSlice
    split
    ·rename_i e sh by_ _
     exact ParG.bif _ fun _=>ParG.seq (elemsIn_par sh s.t 0 ps.toList s.o hnt) fun ys o1 _ hk=>ParG.ret _ (Keeps.app _)
    ·exact .none'
   ·simp only [cond_true]
    unfold opBuildNest
    split
    ·rename_i k e sh by_ i0 x hnest hT hps
     split
     ·rename_i cs hsv
      split
      ·rename_i id2 ver2 sh2 lo len hcj
       split
       ·have hid2:id2 ∈ TT:=by
         obtain ⟨sv,hsv2,hcs⟩:=Option.map_eq_some_iff.1 hsv
         cases sv with
         | agg cs' =>
          have e:cs' = cs:=hcs
          subst e
          exact hag (i0,x) (by rw [hps];simp) cs' (sv_some hsv2) _ (List.mem_of_getElem? hcj) id2 (by simp [idsC])
         | c c' =>
          have e:[c'] = cs:=hcs
          subst e
          have hm:=List.mem_of_getElem? hcj
          simp only [List.mem_singleton] at hm
          exact hac (i0,x) (by rw [hps];simp) c' (sv_some hsv2) (by rw [hnest];rfl) id2 (by rw [<- hm];simp [idsC])
        exact ParG.bif _ fun _=>ParG.bind _ fun vs _=>ParG.bif _ fun _=>ParG.ret _ ((Keeps.set _ hid2).trans (Keeps.app _))
       ·exact .none'
      ·exact .none'
     ·exact .none'
    ·exact .none'
  | store T x y =>
   obtain ⟨TT,hTT⟩:∃ TT,TT = touched E s (.store T x y):=⟨_,rfl⟩
   have hta:∀ id ∈ idsA (aval s.t x),id ∈ TT:=by
    intro id hid
    rw [hTT]
    exact List.mem_append_right _ (List.mem_append_left _ hid)
   have htn:∀ id ∈ idsA (aval s.t y),isNest s.o id = true->id ∈ TT:=by
    intro id hid h
    rw [hTT]
    exact nest_touched (by simp [Op.operands]) hid h
   have htg:givesTo s.o (aval s.t x) (aval s.t y) = true->∀ id ∈ idsA (aval s.t y),id ∈ TT:=by
    intro hg id hid
    rw [hTT]
    refine List.mem_append_right _ (List.mem_append_right _ ?_)
    rw [hg]
    exact hid
   rw [<- hTT]
   clear hTT
   simp only [evOp]
   cases hg:givesTo s.o (aval s.t x) (aval s.t y)
   rotate_left
   ·simp only [cond_true]
    have htg:=htg hg
    clear hg
    unfold opGive
    split
    ·rename_i id ver vsh i off id2 ver2 sh2 lo len hca hT hcb
     rw [cv_some hca] at hta
     rw [cv_some hcb] at htg
     split
     ·split
      ·exact ParG.bind _ fun y _=>ParG.bif _ fun _=>ParG.bind _ fun z _=>ParG.ret _ ((Keeps.set _ (hta _ (mem_cells1 (by simp [idsC])))).trans (Keeps.set _ (htg _ (mem_cells1 (by simp [idsC])))))
      ·exact .none'
     ·exact .none'
    ·exact .none'
   simp only [cond_false]
   unfold opStore
   split
   ·rename_i id off sh v hc hT hv
    rw [cv_some hc] at hta
    split
    ·rename_i cs ho
     rcases cellsK_par (o:=s.o) (ids:=(cellsOfS v).flatMap idsC) sh v (fun _ h=>h) with h | ⟨ns,h⟩
     ·left;intro K;exact h _
     ·have h':∀ K:List CV->R,cellsK s.o sh v K = K ns:=h s.o fun _ _=>rfl
      simp only [h']
      exact ParG.bind _ fun cs' _=>ParG.ret _ (Keeps.set _ (hta _ (mem_cells1 (by simp [idsC]))))
    ·exact .none'
   ·rename_i id ver vsh i off sh sv hc hT hv
    rw [cv_some hc] at hta
    refine ParG.bind _ fun vo hvo=>?_
    obtain ⟨v,o1⟩:=vo
    rw [sv_some hv] at htn
    have hk:=Keeps.freezeS (T:=TT) hvo fun c hc id hid=>htn id (by simp only [idsA,cellsOfA,List.mem_flatMap];exact ⟨c,hc,hid⟩)
    simp only
    split
    ·refine ParG.bif _ fun _=>ParG.bind _ fun y _=>ParG.bind _ fun z _=>ParG.ret _ (hk.trans (Keeps.set _ (hta _ (mem_cells1 (by simp [idsC])))))
    ·exact .none'
   ·exact .none'
  | makeSlice T l c =>
   simp only [evOp]
   unfold opMakeSlice
   split
   ·exact ParG.bind _ fun z _=>ParG.bind _ fun l _=>ParG.bind _ fun c _=>ParG.bif _ fun _=>ParG.bif _ fun _=>ParG.ret _ (Keeps.app _)
   ·exact .none'
  | call c =>
   obtain ⟨TT,hTT⟩:∃ T,T = touched E s (.call c):=⟨_,rfl⟩
   rw [<- hTT]
   simp only [evOp]
   split
   ·rename_i x T hc ha hT
    simp [silent,hc] at hq
   ·rename_i x y T T' hc ha hT
    have hTx:∀ id ∈ idsA (aval s.t x),id ∈ TT:=by
     intro id hid
     rw [hTT]
     refine List.mem_append_right _ ?_
     simpa [hc,ha] using hid
    have hTy:∀ id ∈ idsA (aval s.t y),isNest s.o id = true->id ∈ TT:=by
     intro id hid h
     rw [hTT]
     exact nest_touched (by simp [Op.operands,Call.operands,hc,ha]) hid h
    clear hTT
    cases T == T'
    ·simp only [cond_false]
     unfold opAppendZ
     split
     ·exact ParG.bind _ fun q _=>ParG.bind _ fun z _=>ParG.bind _ fun n _=>ParG.bif _ fun _=>ParG.ret _ (Keeps.app _)
     ·exact .none'
    simp only [cond_true]
    cases hnl:nestLoc s.o (aval s.t y)
    rotate_left
    ·simp only [cond_true]
     unfold opAppendNest
     split
     ·rename_i e sh by_ id ver sh1 lo len id2 ver2 sh2 lo2 len2 hT' hav hbv
      rw [cv_some hav] at hTx
      rw [cv_some hbv] at hTy
      have hn2:isNest s.o id2 = true:=by simpa [nestLoc,hbv] using hnl
      split
      ·split
       ·exact ParG.bif _ fun _=>ParG.ret _ ((Keeps.set _ (hTx _ (mem_cells1 (by simp [idsC])))).trans (Keeps.set _ (hTy _ (mem_cells1 (by simp [idsC])) hn2)))
       ·exact .none'
      ·exact .none'
     ·exact .none'
    simp only [cond_false]
    unfold opAppend
    split
    ·rename_i e sh by_ av bv hT' hav hbv
     rw [cv_some hav] at hTx
     refine ParG.bind _ fun rv _=>ParG.bind _ fun ys _=>?_
     split
     ·unfold appendNel
      split
      ·split
       ·exact ParG.bif _ fun _=>ParG.bind _ fun x _=>ParG.bind _ fun zs _=>ParG.bif _ fun _=>ParG.ret _ ((Keeps.set _ (hTx _ (mem_cells1 (by simp [idsC])))).trans (Keeps.app _))
       ·exact .none'
      ·exact .none'
     unfold appendTo
     split
     ·refine ParG.bind _ fun q _=>?_
      cases ys.isEmpty
      ·exact ParG.bif _ fun _=>ParG.ret _ (Keeps.app _)
      ·exact ParG.ret _ Keeps.refl
     ·rename_i id ver sh' lo len
      split
      ·exact ParG.bif _ fun _=>ParG.ret _ (Keeps.set _ (hTx _ (mem_cells1 (by simp [idsC]))))
      ·exact .none'
     ·exact .none'
    ·exact .none'
   ·rename_i x T hc ha hT;simp [silent,hc] at hq
   ·rename_i x y hc ha;simp [silent,hc] at hq
   ·rename_i x y hc ha;simp [silent,hc] at hq
   ·rename_i x y T T' hc ha hT
    have hTx:∀ id ∈ idsA (aval s.t x),id ∈ TT:=by
     intro id hid
     rw [hTT]
     refine List.mem_append_right _ ?_
     simpa [hc,ha] using hid
    clear hTT
    unfold opCopy
    split
    ·rename_i e sh by_ id ver sh1 lo len bv hT' hav hbv
     rw [cv_some hav] at hTx
     refine ParG.bind _ fun rv _=>ParG.bind _ fun ys _=>?_
     split
     ·exact ParG.bif _ fun _=>ParG.ret _ (Keeps.set _ (hTx _ (mem_cells1 (by simp [idsC]))))
     ·exact .none'
    ·exact .none'
   ·rename_i x T hc ha hT
    have hTx:∀ id ∈ idsA (aval s.t x),id ∈ TT:=by
     intro id hid
     rw [hTT]
     refine List.mem_append_right _ ?_
     simpa [hc,ha] using hid
    clear hTT
    unfold opClear
    split
    ·rename_i e sh by_ id ver sh1 lo len hT' hav
     rw [cv_some hav] at hTx
     refine ParG.bind _ fun z _=>?_
     split
     ·exact ParG.bif _ fun _=>ParG.ret _ (Keeps.set _ (hTx _ (mem_cells1 (by simp [idsC]))))
     ·exact .none'
    ·exact .none'
   ·exact .none'
  | _=>first | (simp [silent] at hq;done) | (left;intro K;simp [evOp];done)
 ·exact (evOp_par (ids:=op.operands.toList.flatMap fun x=>idsA (aval s.t x)) (o:=s.o) hq fun x hx id hid=>List.mem_flatMap.2 ⟨x,hx,hid⟩).g
def BB (o o':List AObj):Prop:=∀ (id:Nat) (cs:List CV),o'[id]? = some (.box cs)->o[id]? = some (.box cs)
def ParO {β:Type} (T:List Nat) (o:List AObj) (f:(β->List AObj->R)->R):Prop:=(∀ K,f K = none) ∨ ∃ b o',(∀ K,f K = K b o') /\ Keeps o T o' /\ BB o o'
theorem ParO.g {f:(β->List AObj->R)->R} (h:ParO T o f):ParG T o f:=h.imp (fun h=>h) fun ⟨b,o',h1,h2,_⟩=>⟨b,o',h1,h2⟩
theorem BB.refl:BB o o:=fun _ _ h=>h
theorem BB.of (h:Bx (fun _=>none) o (fun _=>none) o'):BB o o':=fun id cs=>(h id cs).2
theorem outC_par (k:Kind) (c:CV) (o:List AObj) (hT:∀ id ∈ idsC c,id ∈ T):ParO T o fun K=>outC k c o K:=by
 unfold outC
 split
 ·cases hf:freezeC o c with
  | none=>left;intro K;rfl
  | some p =>
   obtain ⟨v,o1⟩:=p
   rcases castCell_det (α:=List SV × List (List CV)) (by assumption:CellT) v with h | ⟨u,h⟩
   ·left;intro K;exact h fun v=>K (.p v) o1
   ·right;exact ⟨.p u,o1,fun K=>h fun v=>K (.p v) o1,Keeps.freezeC hf fun id hid _=>hT id hid,BB.of (bx_freezeC hf)⟩
 ·rename_i e sh
  split
  ·rename_i v
   cases hq:v.row? with
   | none=>left;intro K;rfl
   | some q =>
    cases hf:(q.2.1 == 2 && nilEt e sh)
    ·left;intro K;simp [hf]
    ·right;exact ⟨.own e sh [],o,fun K=>by simp only [Option.bind_some,hf,cond_true],Keeps.refl,BB.refl⟩
  ·rename_i id ver sh' lo len
   split
   ·rename_i e' sh'' ver' xs ho
    cases hc:(lo == 0 && ver == ver' && sh == sh' && sh == sh'' && sameEt e e' len xs.length)
    ·left;intro K;rfl
    ·right;exact ⟨_,_,fun K=>rfl,Keeps.set _ (hT _ (by simp [idsC])),BB.of (bx_set (by simp [ho]) (by simp))⟩
   ·left;intro K;rfl
  ·rename_i id ver nv i
   split
   ·rename_i e' sh' ver' xs ho
    split
    ·rename_i k hk
     cases hc:(ver == ver' && nv == k.nv && k.hole.isNone && e == (k.e:Et) && sh == k.sh)
     ·left;intro K;rfl
     ·simp only [cond_true]
      cases hx:xs[i]? with
      | none=>left;intro K;rfl
      | some x =>
       cases hz:x.atRow sh k.j with
       | none=>left;intro K;simp [hz]
       | some zs=>right;exact ⟨.own e sh zs,o.set id (.arr ⟨e'.t,some { k with nv:=k.nv + 1,hole:=some i }⟩ sh' ver' false xs),fun K=>by simp only [Option.bind_some,hz],Keeps.set _ (hT _ (by simp [idsC])),BB.of (bx_set (by simp [ho]) (by simp))⟩
    ·left;intro K;rfl
   ·left;intro K;rfl
  ·left;intro K;rfl
theorem outCs_par:∀ (ks:List Kind) (cs:List CV) (o:List AObj),(∀ c ∈ cs,∀ id ∈ idsC c,id ∈ T)->ParO T o fun K=>outCs ks cs o K
 | [],[],o,_=>.inr ⟨[],o,fun _=>rfl,Keeps.refl,BB.refl⟩
 | k :: ks,c :: cs,o,hT=>by
  simp only [outCs]
  rcases outC_par (T:=T) k c o (hT c (by simp)) with h | ⟨d,o1,h,hk,hb⟩
  ·left;intro K;exact h _
  ·rcases outCs_par ks cs o1 (fun c hc=>hT c (by simp [hc])) with h2 | ⟨ds,o2,h2,hk2,hb2⟩
   ·left;intro K;exact (h _).trans (h2 _)
   ·right;exact ⟨d :: ds,o2,fun K=>(h _).trans (h2 _),hk.trans hk2,fun id cs hh=>hb id cs (hb2 id cs hh)⟩
 | [],_ :: _,o,_=>.inl fun _=>rfl
 | _ :: _,[],o,_=>.inl fun _=>rfl
theorem outBs_par:∀ (kss:List (List Kind)) (ids:List Nat) (o:List AObj),(∀ i ∈ ids,∀ cs,o[i]? = some (.box cs)->∀ c ∈ cs,∀ id ∈ idsC c,id ∈ T)->ParO T o fun K=>outBs kss ids o K
 | [],[],o,_=>.inr ⟨[],o,fun _=>rfl,Keeps.refl,BB.refl⟩
 | ks :: kss,i :: ids,o,hT=>by
  simp only [outBs]
  cases ho:o[i]? with
  | none=>left;intro K;rfl
  | some x =>
   cases x with
   | box cs =>
    simp only
    rcases outCs_par (T:=T) ks cs o (hT i (by simp) cs ho) with h | ⟨d,o1,h,hk,hb⟩
    ·left;intro K;exact h _
    ·rcases outBs_par kss ids o1 (fun j hj cs' hc'=>hT j (by simp [hj]) cs' (hb j cs' hc')) with h2 | ⟨ds,o2,h2,hk2,hb2⟩
     ·left;intro K;exact (h _).trans (h2 _)
     ·right;exact ⟨d :: ds,o2,fun K=>(h _).trans (h2 _),hk.trans hk2,fun id cs hh=>hb id cs (hb2 id cs hh)⟩
   | _=>left;intro K;rfl
 | [],_ :: _,o,_=>.inl fun _=>rfl
 | _ :: _,[],o,_=>.inl fun _=>rfl
theorem idsRC_of {c:CV} {id:Nat} (h:id ∈ idsC c) (hn:¬ ∃ f cs,c = .fn f cs):id ∈ idsRA (.s (.c c)):=by
 cases c with
 | fn f cs=>exact absurd ⟨f,cs,rfl⟩ hn
 | _=>simpa [idsRA,cellsOfA,cellsOfS,idsRC] using h
theorem outAs_par:∀ (qs:List (Option (Et × Nat))) (as:List AV) (o:List AObj),(∀ a ∈ as,∀ id ∈ idsRA a,id ∈ T)->ParO T o fun K=>outAs qs as o K
 | [],as,o,_=>.inr ⟨as,o,fun K=>by cases as <;> simp [outAs],Keeps.refl,BB.refl⟩
 | q :: qs,[],o,_=>.inr ⟨[],o,fun K=>by cases q <;> simp [outAs],Keeps.refl,BB.refl⟩
 | none :: qs,a :: as,o,hT=>by
  simp only [outAs]
  rcases outAs_par qs as o (fun b hb=>hT b (by simp [hb])) with h | ⟨d,o1,h,hk,hb⟩
  ·left;intro K;exact h _
  ·right;exact ⟨a :: d,o1,fun K=>h _,hk,hb⟩
 | some q :: qs,a :: as,o,hT=>by
  simp only [outAs]
  have h1:ParO T o fun K=>outA q a o K:=by
   unfold outA
   split
   ·rename_i c
    by_cases hfn:∃ f cs,c = .fn f cs
    ·obtain ⟨f,cs,rfl⟩:=hfn
     left;intro K;rfl
    rcases outC_par (T:=T) (.own q.1 q.2) c o (fun id hid=>hT (.s (.c c)) (by simp) id (idsRC_of hid hfn)) with h | ⟨d,o1,h,hk,hb⟩
    ·left;intro K;exact h _
    ·right;exact ⟨_,o1,fun K=>h _,hk,hb⟩
   ·left;intro K;rfl
  rcases h1 with h | ⟨d,o1,h,hk,hb⟩
  ·left;intro K;exact h _
  ·rcases outAs_par qs as o1 (fun b hb=>hT b (by simp [hb])) with h2 | ⟨ds,o2,h2,hk2,hb2⟩
   ·left;intro K;exact (h _).trans (h2 _)
   ·right;exact ⟨d :: ds,o2,fun K=>(h _).trans (h2 _),hk.trans hk2,fun id cs hh=>hb id cs (hb2 id cs hh)⟩
theorem inC_par (k:Kind) (c:Option CV) (o:List AObj):ParG T o fun K=>inC k c o K:=by
 unfold inC
 split
 ·simp only [inP_eq]
  refine ParG.bind _ fun v _=>?_
  rcases castCell_det (α:=List SV × List (List CV)) (by assumption:CellT) v with h | ⟨u,h⟩
  ·left;intro K;exact h _
  ·right;exact ⟨.p u,o,fun K=>h _,Keeps.refl⟩
 ·exact ParG.bind _ fun xs _=>ParG.ret _ (Keeps.app _)
theorem inCs_par (get:Nat->Option CV):∀ (ks:List Kind) (i:Nat) (o:List AObj),ParG T o fun K=>inCs get ks i o K
 | [],i,o=>ParG.ret [] Keeps.refl
 | k :: ks,i,o=>by
  simp only [inCs]
  rcases inC_par (T:=T) k (get i) o with h | ⟨d,o1,h,hk⟩
  ·left;intro K;exact h _
  ·rcases inCs_par get ks (i + 1) o1 with h2 | ⟨ds,o2,h2,hk2⟩
   ·left;intro K;exact (h _).trans (h2 _)
   ·right;exact ⟨d :: ds,o2,fun K=>(h _).trans (h2 _),hk.trans hk2⟩
theorem inBs_par (bs:List (List CV)):∀ (kss:List (List Kind)) (is:List Nat) (j:Nat) (o:List AObj),(∀ i ∈ is,i ∈ T)->ParG (β:=Unit) T o fun K=>inBs bs kss is j o (K ())
 | [],[],j,o,_=>ParG.ret () Keeps.refl
 | ks :: kss,i :: is,j,o,hT=>by
  simp only [inBs]
  rcases inCs_par (T:=T) (cellAt bs j) ks 0 o with h | ⟨d,o1,h,hk⟩
  ·left;intro K;exact h _
  ·rcases inBs_par bs kss is (j + 1) (o1.set i (.box d)) (fun i hi=>hT i (by simp [hi])) with h2 | ⟨_,o2,h2,hk2⟩
   ·left;intro K;exact (h _).trans (h2 _)
   ·right;exact ⟨(),o2,fun K=>(h _).trans (h2 _),(hk.trans (Keeps.set _ (hT i (by simp)))).trans hk2⟩
 | [],_ :: _,_,o,_=>.inl fun _=>rfl
 | _ :: _,[],_,o,_=>.inl fun _=>rfl
theorem inSs_par (vs:List SV):∀ (ks:List RK) (j:Nat) (o:List AObj),ParG T o fun K=>inSs vs ks j o K
 | [],j,o=>ParG.ret [] Keeps.refl
 | .c k :: ks,j,o=>by
  simp only [inSs]
  rcases inC_par (T:=T) k (resAt vs j) o with h | ⟨d,o1,h,hk⟩
  ·left;intro K;exact h _
  ·rcases inSs_par vs ks (j + 1) o1 with h2 | ⟨ds,o2,h2,hk2⟩
   ·left;intro K;exact (h _).trans (h2 _)
   ·right;exact ⟨.c d :: ds,o2,fun K=>(h _).trans (h2 _),hk.trans hk2⟩
 | .agg ks :: kss,j,o=>by
  simp only [inSs]
  rcases inCs_par (T:=T) (partAt vs j) ks 0 o with h | ⟨d,o1,h,hk⟩
  ·left;intro K;exact h _
  ·rcases inSs_par vs kss (j + 1) o1 with h2 | ⟨ds,o2,h2,hk2⟩
   ·left;intro K;exact (h _).trans (h2 _)
   ·right;exact ⟨mkAgg d :: ds,o2,fun K=>(h _).trans (h2 _),hk.trans hk2⟩
theorem afterLend_par (ro plain:Bool) (lent:List Nat) (q:List SV × List (List CV)) (o:List AObj) (hl:ro = false->∀ i ∈ lent,i ∈ T):ParG (β:=Unit) T o fun K=>afterLend ro plain lent q o (K ()):=by
 unfold afterLend
 cases ro
 ·simp only [cond_false]
  split
  ·exact ParG.ret () Keeps.refl
  ·cases plain
   ·exact ParG.ret () (Keeps.freezeAll (hl rfl))
   ·exact ParG.bif _ fun _=>ParG.ret () Keeps.refl
 ·exact ParG.bif _ fun _=>ParG.ret () Keeps.refl
theorem ParG.bif2 {β:Type} {T:List Nat} {o:List AObj} {f g:(β->List AObj->R)->R} (b:Bool) (h1:ParG T o f) (h2:ParG T o g):ParG T o fun K=>bif b then f K else g K:=by
 cases b
 · exact h2
 · exact h1
theorem opSort_keeps (n:Nat) (args:List AV) (o:List AObj) (hT:∀ a ∈ args,∀ id ∈ idsA a,id ∈ T):ParG T o fun K=>opSort n args o K:=by
 unfold opSort
 split
 ·rename_i id ver sh lo len
  have hid:=hT (.s (.c (.loc id ver sh lo len))) (by simp) id (mem_cells1 (by simp [idsC]))
  split
  ·exact ParG.bif _ fun _=>ParG.bind _ fun zs _=>ParG.bif2 _ (ParG.ret _ (Keeps.set _ hid)) (ParG.ret _ (Keeps.set _ hid))
  ·exact .none'
 ·exact .none'
theorem opExt_par (n:Nat) (args:List AV) (o:List AObj):(∀ K,opExt n args o K = none) ∨ ∃ v,∀ K,opExt n args o K = K v o:=by
 unfold opExt
 split
 ·split
  ·rename_i x y z _ _ _
   cases (decide (0<=x) && decide (0<=y) && decide (0<=z) && decide (z<=1))
   ·left;intro K;rfl
   ·right;exact ⟨_,fun K=>rfl⟩
  ·left;intro K;rfl
 ·left;intro K;rfl
theorem callG_keeps (g:FuncId) (A:List AV) (s:St) (hA:∀ a ∈ A,∀ id ∈ idsRA a,id ∈ T) (hA2:C.E.ro (keyOf g A) = false->∀ a ∈ A,∀ id ∈ idsA a,id ∈ T) (hT2:∀ i ∈ T,∀ cs,s.o[i]? = some (.box cs)->∀ c ∈ cs,∀ id ∈ idsC c,id ∈ T') (hTT:∀ id ∈ T,id ∈ T'):ParG T' s.o fun K=>callG C g A s K:=by
 unfold callG
 simp only
 obtain ⟨ro,hro⟩:∃ ro,ro = C.E.ro (keyOf g A):=⟨_,rfl⟩
 rw [<- hro] at hA2 ⊢
 obtain ⟨roots,hrt⟩:∃ l,l = adds [] ((A.flatMap cellsOfA).flatMap (ptrsR ro)):=⟨_,rfl⟩
 rw [<- hrt]
 have hroots:∀ id ∈ roots,id ∈ T:=by
  intro id hid
  rw [hrt,mem_adds] at hid
  simp only [List.not_mem_nil,false_or,List.mem_flatMap] at hid
  obtain ⟨c,⟨a,ha,hca⟩,hid⟩:=hid
  cases hrr:ro
  ·have hid:=ptrsR_sub hid
   refine hA2 hrr a ha id ?_
   simp only [idsA,List.mem_flatMap]
   refine ⟨c,hca,?_⟩
   cases c <;> simp [ptrsC] at hid <;> simp [idsC,hid]
  ·rw [hrr] at hid
   refine hA a ha id ?_
   simp only [idsRA,List.mem_flatMap]
   refine ⟨c,hca,?_⟩
   cases c <;> simp [ptrsR,ptrsC] at hid <;> simp [idsRC,idsC,hid]
 refine ParG.seq (outBs_par (T:=T') _ _ s.o (fun i hi cs hcs=>hT2 i (hroots i hi) cs hcs)).g fun bs o0 _ _=>?_
 refine ParG.seq (outAs_par (T:=T') (C.E.ao g) _ o0 (fun a ha id hid=>hTT _ (hA a ha id hid))).g fun args' o1 _ _=>?_
 rcases castAs_det (C.E.ak g) (args'.map (lendR ro roots o1)) with hcs | ⟨as,hcs⟩
 ·left;intro K;exact hcs _
 simp only [hcs]
 refine ParG.bind _ fun q _=>?_
 refine ParG.seqU (afterLend_par (T:=T') _ _ _ q o1 fun hr i hi=>?_) fun o2=>?_
 ·rw [mem_adds] at hi
  simp only [List.not_mem_nil,false_or,List.mem_flatMap] at hi
  obtain ⟨c,⟨a,ha,hca⟩,hid⟩:=hi
  rw [hr] at hid
  simp only [locsR,cond_false] at hid
  have hid':i ∈ idsC c:=by
   cases c <;> simp only [locsC] at hid <;> first | (simp at hid;done) | skip
   split at hid
   ·cases hb:(_:Nat) == (_:Nat) <;> rw [hb] at hid <;> simp at hid
    simp [idsC,hid]
   ·simp at hid
  refine hTT _ (hA2 hr a ha i ?_)
  simp only [idsA,List.mem_flatMap]
  exact ⟨c,hca,hid'⟩
 refine ParG.bif _ fun _=>?_
 refine ParG.seqU (inBs_par (T:=T') q.2 _ _ 0 o2 fun i hi=>hTT i (hroots i hi)) fun o3=>?_
 exact ParG.seq (inSs_par (T:=T') q.1 _ 0 o3) fun vs o4 _ _=>ParG.ret _ Keeps.refl
theorem idsRA_sub {a:AV} {id:Nat} (h:id ∈ idsRA a):id ∈ idsA a:=by
 simp only [idsRA,idsA,List.mem_flatMap] at h ⊢
 obtain ⟨c,h1,h2⟩:=h
 refine ⟨c,h1,?_⟩
 cases c <;> first | exact h2 | (simp [idsRC] at h2)
theorem callOp_keeps (f:AV) (args:List AV) (s:St) (hT:∀ a ∈ args,∀ id ∈ idsRA a,id ∈ T) (hTf:roCall C.E f args = false->∀ a ∈ f :: args,∀ id ∈ idsA a,id ∈ T) (hT2:∀ i ∈ T,∀ cs,s.o[i]? = some (.box cs)->∀ c ∈ cs,∀ id ∈ idsC c,id ∈ T') (hTT:∀ id ∈ T,id ∈ T'):ParG T' s.o fun K=>callOp C f args s K:=by
 unfold callOp
 split
 ·rename_i g caps hc
  rw [cv_some hc] at hTf
  cases hro:roCall C.E (.s (.c (.fn g caps))) args with
  | false =>
   replace hTf:=hTf hro
   have hcaps:∀ id ∈ caps,id ∈ T:=fun id hid=>hTf (.s (.c (.fn g caps))) (by simp) id (mem_cells1 (by simpa [idsC] using hid))
   have hall:∀ a ∈ args ++ caps.map (fun i=>AV.s (.c (.bptr i 0))),∀ id ∈ idsA a,id ∈ T:=by
    intro a ha id hid
    rcases List.mem_append.1 ha with ha | ha
    ·exact hTf a (by simp [ha]) id hid
    ·obtain ⟨i,hi,rfl⟩:=List.mem_map.1 ha
     simp [idsA,cellsOfA,cellsOfS,idsC] at hid
     subst hid
     exact hcaps _ hi
   refine ParG.bif2 _ (ParG.bif _ fun _=>opSort_keeps _ args s.o fun a ha id hid=>hTT _ (hTf a (by simp [ha]) id hid)) (callG_keeps g _ s (fun a ha id hid=>hall a ha id (idsRA_sub hid)) (fun _=>hall) hT2 hTT)
  | true =>
   cases caps with
   | cons x xs=>simp [roCall,AV.cv?] at hro
   | nil =>
    simp only [roCall,AV.cv?,Bool.and_eq_true,beq_iff_eq] at hro
    obtain ⟨h1,h2⟩:=hro
    rw [h1]
    simp only [bne_self_eq_false,cond_false,List.map_nil,List.append_nil]
    exact callG_keeps g args s hT (fun h=>by rw [h2] at h;cases h) hT2 hTT
 ·rename_i g vs hc
  have hro:roCall C.E f args = false:=by simp [roCall,hc]
  have hall:∀ a ∈ args ++ vs.map (fun v=>AV.s (.c (.eptr v v.cells.length 0))),∀ id ∈ idsA a,id ∈ T:=by
   intro a ha id hid
   rcases List.mem_append.1 ha with ha | ha
   ·exact hTf hro a (by simp [ha]) id hid
   ·obtain ⟨i,hi,rfl⟩:=List.mem_map.1 ha
    simp [idsA,cellsOfA,cellsOfS,idsC] at hid
  exact callG_keeps g _ s (fun a ha id hid=>hall a ha id (idsRA_sub hid)) (fun _=>hall) hT2 hTT
 ·exact .none'
theorem branch_par (x:Operand) (t:List AV):(∀ K,branch t x K = none) ∨ ∃ b,aval t x = .p (.bool b) /\ ∀ K,branch t x K = K b t:=by
 unfold branch
 split
 ·rename_i i
  cases hb:(getT t i).bool? with
  | none=>left;intro K;rfl
  | some b =>
   right
   have hv:=bool_some hb
   have e:t.set i (.p (.bool b)) = t:=set_same hv (by simp)
   refine ⟨b,hv,fun K=>?_⟩
   cases b
   ·simp [e]
   ·simp [e]
 ·rename_i v
  cases hb:(constAV v).bool? with
  | none=>left;intro K;rfl
  | some b=>right;refine ⟨b,bool_some hb,fun K=>?_⟩;cases b <;> rfl
 ·left;intro K;rfl
theorem stepOp_keeps (oo:Oper) (s:St):(∀ K,stepOp C oo s K = none) ∨ ∃ v o',(∀ K,stepOp C oo s K = K ⟨putD s.t oo.dst v,o'⟩) /\ Keeps s.o (touched C.E s oo.op) o':=by
 have evs:(∀ K:St->R,(evOp (C.E.on C.self) oo.op s fun v ob=>K ⟨putD s.t oo.dst v,ob⟩) = none) ∨ ∃ v o',(∀ K:St->R,(evOp (C.E.on C.self) oo.op s fun v ob=>K ⟨putD s.t oo.dst v,ob⟩) = K ⟨putD s.t oo.dst v,o'⟩) /\ Keeps s.o (touched C.E s oo.op) o':=by
  rcases evOp_keeps (E:=C.E.on C.self) s oo.op with h | ⟨v,o',h,hk⟩
  ·left;intro K;exact h _
  ·right;exact ⟨v,o',fun K=>h _,hk⟩
 unfold stepOp
 split
 ·rename_i c x y hop
  rcases branch_par c s.t with h | ⟨b,hb,h⟩
  ·left;intro K;exact h _
  ·right;exact ⟨_,s.o,fun K=>h _,Keeps.refl⟩
 ·rename_i c hop
  split
  ·rename_i f hcal
   split
   rotate_left
   ·rename_i n _
    rcases opExt_par (n + 1) (c.args.toList.map (aval s.t)) s.o with h | ⟨v,h⟩
    ·left;intro K;exact h _
    ·right;exact ⟨v,s.o,fun K=>h _,Keeps.refl⟩
   obtain ⟨T0,hT0⟩:∃ l,l = (match roCall C.E (aval s.t f) (c.args.toList.map (aval s.t)) with | true=>(c.args.toList.map (aval s.t)).flatMap idsRA | false=>idsOp s.t oo.op):=⟨_,rfl⟩
   have htc:∀ id,id ∈ T0 ++ (T0.flatMap (cellsOfO s.o)).flatMap idsC->id ∈ touched C.E s oo.op:=by
    intro id hid
    rw [hop]
    simp only [touched,hcal]
    rw [hop] at hT0
    cases hr:roCall C.E (aval s.t f) (c.args.toList.map (aval s.t)) <;> rw [hr] at hT0 <;> rw [hT0] at hid <;> exact List.mem_append.2 (.inr hid)
   have harg:∀ a ∈ aval s.t f :: c.args.toList.map (aval s.t),∀ id ∈ idsA a,id ∈ idsOp s.t oo.op:=by
    intro a ha id hid
    simp only [idsOp,List.mem_flatMap]
    rcases List.mem_cons.1 ha with rfl | ha
    ·exact ⟨f,by rw [hop];simp [Op.operands,Call.operands,hcal],hid⟩
    ·obtain ⟨x,hx,rfl⟩:=List.mem_map.1 ha
     exact ⟨x,by rw [hop];simp only [Op.operands,Call.operands,hcal];simp at hx ⊢;exact .inr hx,hid⟩
   rcases callOp_keeps (C:=C) (T:=T0) (T':=touched C.E s oo.op) (aval s.t f) (c.args.toList.map (aval s.t)) s (by
     intro a ha id hid
     rw [hT0]
     split
     ·exact List.mem_flatMap.2 ⟨a,ha,hid⟩
     ·exact harg a (List.mem_cons_of_mem _ ha) id (idsRA_sub hid)) (by
     intro hr a ha id hid
     rw [hT0,hr]
     exact harg a ha id hid) (by
     intro i hi cs hcs c' hc' id hid
     refine htc id (List.mem_append.2 (.inr ?_))
     simp only [List.mem_flatMap]
     exact ⟨c',⟨i,hi,by simp [cellsOfO,hcs,hc']⟩,hid⟩) (fun id hid=>htc id (List.mem_append.2 (.inl hid))) with h | ⟨v,o',h,hk⟩
   ·left;intro K;exact h _
   ·right;exact ⟨v,o',fun K=>h _,hk⟩
  ·exact evs
 ·exact evs
theorem guarded_keeps (oo:Oper) (s:St):(∀ K,guarded C ops oo s K = none) ∨ ∃ v o',(∀ K,guarded C ops oo s K = K ⟨putD s.t oo.dst v,o'⟩) /\ Keeps s.o (touched C.E s oo.op) o':=by
 unfold guarded
 split
 ·exact stepOp_keeps oo s
 ·rename_i j want hg
  split
  ·rename_i d hd
   cases hsk:skipped (getT s.t d) with
   | true=>right;exact ⟨.tup [],s.o,fun K=>by simp,Keeps.refl⟩
   | false =>
   simp only [cond_false]
   rcases branch_par (.tmp d) s.t with h | ⟨b,hb,h⟩
   ·left;intro K;exact h _
   ·cases hw:b == want
    ·right;exact ⟨.tup [],s.o,fun K=>by rw [h];simp [hw],Keeps.refl⟩
    ·rcases stepOp_keeps (C:=C) oo s with h2 | ⟨v,o',h2,hk⟩
     ·left;intro K;rw [h];simp only [hw,cond_true];exact h2 K
     ·right;exact ⟨v,o',fun K=>by rw [h];simp only [hw,cond_true];exact h2 K,hk⟩
  ·left;intro K;rfl
end
end Go.Dp
/- An object that stands already gets its place: what is made behind the evaluator's back. -/
set_option linter.unusedVariables false
set_option linter.unusedSimpArgs false
namespace Go.Dp
section
variable {P:Program} {E:Env} {w w':World} {Im Im':Nat->Prop} {ρ ρ':Nat->Option Value} {o o':List AObj} {n:Nat}
theorem RB.more (hm:∀ id v,ρ id = some v->ρ' id = some v) {id off:Nat} {x:Value} (h:RB ρ o id off x):RB ρ' o id off x:=by
 unfold RB at h ⊢
 split at h
 ·obtain ⟨b,h1,h2⟩:=h
  exact ⟨b,hm _ _ h1,h2⟩
 ·trivial
 ·exact h
theorem RC.more (hi:∀ b,Im b->Im' b /\ w'.heap[b]? = w.heap[b]?) (hm:∀ id v,ρ id = some v->ρ' id = some v) {c:CV} {x:Value} (h:RC w Im ρ o c x):RC w' Im' ρ' o c x:=by
 cases c with
 | undef=>trivial
 | p v=>exact RP.mono hi h
 | loc id ver sh lo len =>
  simp only [RC] at h ⊢
  split at h
  ·refine ⟨h.1,fun a b=>?_⟩
   obtain ⟨h1,v,h2,h3⟩:=h.2 a b
   exact ⟨h1,v,hm _ _ h2,h3⟩
  ·trivial
  ·exact h
 | bptr id off=>exact RB.more hm h
 | aptr id ver sh i off =>
  simp only [RC] at h ⊢
  split at h
  ·refine ⟨h.1,fun a b=>?_⟩
   obtain ⟨h1,g,bo,m,cap,v,h2,h3⟩:=h.2 a b
   exact ⟨h1,g,bo,m,cap,v,hm _ _ h2,h3⟩
  ·trivial
  ·exact h
 | eptr v sh off =>
  obtain ⟨b,base,hx,hb,hs,hh⟩:=h
  refine ⟨b,base,hx,(hi b hb).1,hs,fun j c hj=>?_⟩
  obtain ⟨y,hy,hr⟩:=hh j c hj
  exact ⟨y,(cell_same (w:=w) (w':=w') (a:=⟨b,base + j,none⟩) (hi b hb).2).trans hy,RP.mono hi hr⟩
 | fn f caps =>
  obtain ⟨vs,hx,hl,hh⟩:=h
  exact ⟨vs,hx,hl,fun i id hid=>let ⟨y,hy,hr⟩:=hh i id hid;⟨y,hy,RB.more hm hr⟩⟩
 | cfn f us =>
  obtain ⟨vs,hx,hl,hh⟩:=h
  refine ⟨vs,hx,hl,fun i u hu=>?_⟩
  obtain ⟨b,base,h1,h2,h3,h4⟩:=hh i u hu
  refine ⟨b,base,h1,(hi b h2).1,h3,fun j c hj=>?_⟩
  obtain ⟨y,hy,hr⟩:=h4 j c hj
  exact ⟨y,(cell_same (w:=w) (w':=w') (a:=⟨b,base + j,none⟩) (hi b h2).2).trans hy,RP.mono hi hr⟩
 | own e sh xs=>exact h.elim
 | nel id ver nv i =>
  simp only [RC] at h ⊢
  split at h
  ·refine ⟨h.1,fun a k hk=>?_⟩
   obtain ⟨h1,h2⟩:=h.2 a k hk
   refine ⟨h1,fun h3 h4=>?_⟩
   obtain ⟨h5,m,ks,h6,h7⟩:=h2 h3 h4
   exact ⟨h5,m,ks,hm _ _ h6,h7⟩
  ·trivial
  ·exact h
theorem RO.more (hi:∀ b,Im b->Im' b /\ w'.heap[b]? = w.heap[b]?) (hm:∀ id v,ρ id = some v->ρ' id = some v) {v:Value} {x:AObj} (hb:∀ b,Blk v b->w'.heap[b]? = w.heap[b]?) (hn:∀ b,Blk v b->Im' b->Im b) (h:RO w Im ρ o v x):RO w' Im' ρ' o v x:=by
 cases x with
 | dead=>trivial
 | box cs =>
  obtain ⟨b,vs,e,rfl,hh,hl,hr,h1,hni⟩:=h
  exact ⟨b,vs,e,rfl,(hb b rfl).trans hh,hl,fun i c y hc' hy=>RC.more hi hm (hr i c y hc' hy),h1,fun him=>hni (hn b rfl him)⟩
 | arr e sh ver fz xs =>
  obtain ⟨vals,hown,hs,hr,hz,hk⟩:=h
  exact ⟨vals,ownsRow_main (fun b hbk=>hb b (main_Blk hbk)) hown,hs,fun i x j c y h1 h2 h3=>(hr i x j c y h1 h2 h3).keep hi,fun b hbk=>⟨fun hf him=>(hz b hbk).1 hf (hn b hbk him),fun hf=>(hi b ((hz b hbk).2 hf)).1⟩,hk.keep hi hb⟩
structure Fill (w:World) (Im:Nat->Prop) (ρ:Nat->Option Value) (o:List AObj) (w':World) (n:Nat) (Im':Nat->Prop) (ρ':Nat->Option Value):Prop where
 wd:Wd w w'
 sr:SR w' Im' ρ' o
 keep:∀ c x,RC w Im ρ o c x->RC w' Im' ρ' o c x
 fr:∀ b,b < w.heap.size->w'.heap[b]? = w.heap[b]?
 ow:∀ id v b,ρ' id = some v->Blk v b->w.heap.size<=b ∨ ∃ id' v',ρ id' = some v' /\ Blk v' b
 im:∀ b,Im b->Im' b /\ w'.heap[b]? = w.heap[b]?
 imn:∀ b,Im' b->Im b ∨ w.heap.size<=b
 ne:∀ id,id ≠ n->ρ' id = ρ id
theorem Fill.mk1 (hs:SR w Im ρ o) (hwd:Wd w w') (hh:∀ b,b < w.heap.size->w'.heap[b]? = w.heap[b]?) (hi:∀ b,Im b->Im' b) (hi2:∀ b,Im' b->Im b ∨ (w.heap.size<=b /\ b < w'.heap.size)) {v:Value} {x:AObj} (ho:o[n]? = some x) (hn:ρ n = none) (hx:x ≠ .dead) (hv:∀ b,Blk v b->w.heap.size<=b /\ b < w'.heap.size)
  (hro:RO w' Im' (upd ρ n (some v)) o v x):Fill w Im ρ o w' n Im' (upd ρ n (some v)):=by
 have him:∀ b,Im b->Im' b /\ w'.heap[b]? = w.heap[b]?:=fun b hb=>⟨hi b hb,hh b (hs.im b hb)⟩
 have hm:∀ id u,ρ id = some u->upd ρ n (some v) id = some u:=by
  intro id u h
  rw [upd_ne (by rintro rfl;rw [hn] at h;cases h)]
  exact h
 have cs:∀ id u,upd ρ n (some v) id = some u->(id = n /\ u = v) ∨ (id ≠ n /\ ρ id = some u):=by
  intro id u h
  by_cases e:id = n
  ·subst e;rw [upd_same] at h;exact .inl ⟨rfl,by injection h with h;exact h.symm⟩
  ·rw [upd_ne e] at h;exact .inr ⟨e,h⟩
 refine ⟨hwd,⟨?_,?_,?_,fun b hb=>?_,?_⟩,fun c y hy=>RC.more him hm hy,fun b hb=>hh b hb,?_,him,fun b hb=>(hi2 b hb).imp (fun h=>h) (fun h=>h.1),fun id h=>upd_ne h⟩
 ·intro id a u ha hu
  rcases cs id u hu with ⟨rfl,rfl⟩ | ⟨hne,hu⟩
  ·rw [ho] at ha
   injection ha with ha
   subst ha
   exact hro
  ·refine RO.more him hm (fun b hb=>hh b ((hs.lt id u hu).2 b hb)) (fun b hb hI=>?_) (hs.ob id a u ha hu)
   rcases hi2 b hI with h | h
   ·exact h
   ·have:=(hs.lt id u hu).2 b hb;omega
 ·intro id id' u u' b hu hu' hb hb'
  rcases cs id u hu with ⟨h1,h2⟩ | ⟨hne,h2⟩ <;> rcases cs id' u' hu' with ⟨h3,h4⟩ | ⟨hne',h4⟩
  ·exact h1.trans h3.symm
  ·rw [h2] at hb;have:=(hv b hb).1;have:=(hs.lt id' u' h4).2 b hb';omega
  ·rw [h4] at hb';have:=(hv b hb').1;have:=(hs.lt id u h2).2 b hb;omega
  ·exact hs.inj id id' u u' b h2 h4 hb hb'
 ·intro id u hu
  rcases cs id u hu with ⟨rfl,rfl⟩ | ⟨hne,hu⟩
  ·exact ⟨(List.getElem?_eq_some_iff.1 ho).1,fun b hb=>(hv b hb).2⟩
  ·have:=hs.lt id u hu
   exact ⟨this.1,fun b hb=>Nat.lt_of_lt_of_le (this.2 b hb) hwd.size⟩
 ·rcases hi2 b hb with h | h
  ·exact Nat.lt_of_lt_of_le (hs.im b h) hwd.size
  ·exact h.2
 ·intro id hd
  by_cases e:id = n
  ·subst e;rw [ho] at hd;injection hd with hd;exact absurd hd hx
  ·rw [upd_ne e];exact hs.dd id hd
 ·intro id u b hu hb
  rcases cs id u hu with ⟨rfl,rfl⟩ | ⟨hne,hu⟩
  ·exact .inl (hv b hb).1
  ·exact .inr ⟨id,u,hu,hb⟩
theorem Fill.keepS (h:Fill w Im ρ o w' n Im' ρ'):∀ v x,RS w Im ρ o v x->RS w' Im' ρ' o v x:=by
 intro v x hv
 cases v with
 | c c=>exact h.keep c x hv
 | agg cs=>obtain ⟨vs,rfl,h1,h2,h3⟩:=hv;exact ⟨vs,rfl,h1,fun i c y hc hy=>h.keep c y (h2 i c y hc hy),h3⟩
theorem Fill.keepA (h:Fill w Im ρ o w' n Im' ρ'):∀ v x,RA w Im ρ o v x->RA w' Im' ρ' o v x:=by
 intro v x hv
 cases v with
 | s v=>exact h.keepS v x hv
 | tup ts=>obtain ⟨vs,rfl,h1,h2⟩:=hv;exact ⟨vs,rfl,h1,fun i c y hc hy=>h.keepS c y (h2 i c y hc hy)⟩
def DidF (P:Program) (w:World) (Im:Nat->Prop) (ρ:Nat->Option Value) (o:List AObj) (n:Nat) (v:AV) (s:Sem Value):Prop :=
 ∃ y w' Im' ρ',s.run P w = .ok y w' /\ Fill w Im ρ o w' n Im' ρ' /\ RA w' Im' ρ' o v y
theorem newBox_fill (hs:SR w Im ρ o) {T:TypeId} {y:Value} {cs:List CV} (ho:o[n]? = some (.box cs)) (hn:ρ n = none) (hl:y.cells.size = cs.length)
  (hr:∀ (i:Nat) (c:CV) (z:Value),cs[i]? = some c->y.cells[i]? = some z->RC w Im ρ o c z) (h1:∀ (i:Nat) (z:Value),y.cells[i]? = some z->z.oneCell' = true) {s:Sem Value}
  (hrun:s.run P w = .ok (.pointer (some ⟨w.heap.size,0,none⟩)) { w with heap:=w.heap.push (.cells y.cells T) }):DidF P w Im ρ o n (.s (.c (.bptr n 0))) s:=by
 have hnb:¬ Im w.heap.size:=fun h=>by have:=hs.im _ h;omega
 have hm:∀ id u,ρ id = some u->upd ρ n (some (Value.pointer (some ⟨w.heap.size,0,none⟩))) id = some u:=by
  intro id u h
  rw [upd_ne (by rintro rfl;rw [hn] at h;cases h)]
  exact h
 have hro:RO { w with heap:=w.heap.push (.cells y.cells T) } Im (upd ρ n (some (.pointer (some ⟨w.heap.size,0,none⟩)))) o (.pointer (some ⟨w.heap.size,0,none⟩)) (.box cs) :=
  ⟨w.heap.size,y.cells,T,rfl,push_new _ _,hl,fun i c z a b=>RC.more (fun b hb=>⟨hb,push_old _ _ _ (hs.im b hb)⟩) hm (hr i c z a b),h1,hnb⟩
 have hst:=Fill.mk1 (w':={ w with heap:=w.heap.push (.cells y.cells T) }) hs ⟨rfl,rfl,rfl,by simp⟩ (fun b hb=>push_old _ _ _ hb) (fun b h=>h) (fun b h=>.inl h) ho hn (by simp) (fun b hb=>by simp at hb;subst hb;simp) hro
 refine ⟨_,_,_,_,hrun,hst,?_⟩
 simp only [RA,RS,RC,RB,ho]
 exact ⟨_,upd_same,rfl⟩
theorem newArr_fill (hs:SR w Im ρ o) {e sh:Nat} {fz:Bool} {xs:List PV} {v:Value} {vals:List Value} {s:Sem Value} (ho:o[n]? = some (.arr (e:Et) sh 0 fz xs)) (hn:ρ n = none) (hwd:Wd w w') (hh:∀ b,b < w.heap.size->w'.heap[b]? = w.heap[b]?) (hown:w'.ownsAt 0 e (csz sh) v xs.length vals)
  (hb:∀ b,Blk v b->w.heap.size<=b) (hsh:∀ x ∈ xs,x.shp sh = true) (hr:∀ (i:Nat) (x:PV) (j:Nat) (c:PV) (y:Value),xs[i]? = some x->x.cells[j]? = some c->vals[i * csz sh + j]? = some y->RP w Im c y)
  (hrun:s.run P w = .ok v w'):DidF P w Im ρ o n (.s (.c (.loc n 0 sh 0 xs.length))) s:=by
 have him:∀ b,Im b->(Im b ∨ (fz = true /\ Blk v b)) /\ w'.heap[b]? = w.heap[b]?:=fun b h=>⟨.inl h,hh b (hs.im b h)⟩
 have hno:∀ b,Blk v b->fz = false->¬ (Im b ∨ (fz = true /\ Blk v b)):=by
  rintro b h hf (hI | ⟨h1,_⟩)
  ·have:=hs.im b hI
   have:=hb b h
   omega
  ·rw [hf] at h1
   cases h1
 have hst:=Fill.mk1 (Im':=fun b=>Im b ∨ (fz = true /\ Blk v b)) (v:=v) (x:=.arr e sh 0 fz xs) hs hwd hh (fun b h=>.inl h) (fun b h=>h.imp (fun h=>h) fun h=>⟨hb b h.2,ownsRow_lt hown b h.2⟩) ho hn (by simp) (fun b h=>⟨hb b h,ownsRow_lt hown b h⟩)
  ⟨vals,by rw [(ownsRow_mainV hown).1];exact hown,hsh,fun i x j c y h1 h2 h3=>RP.mono him (hr i x j c y h1 h2 h3),fun b h=>⟨fun hf hI=>hno b h hf hI,fun hf=>.inr ⟨hf,h⟩⟩,fun _=>(ownsRow_mainV hown).1⟩
 refine ⟨_,_,_,_,hrun,hst,?_⟩
 simp only [RA,RS,RC,ho]
 refine ⟨Nat.le_refl _,fun _ _=>⟨by omega,v,upd_same,by rw [(ownsRow_mainV hown).1];exact ownsRow_self hown⟩⟩
theorem opAlloc_fill (hE:EnvOK P E) (hs:SR w Im ρ o) {T:TypeId} {zs:List PV} (hz:E.zr T = some zs) (ho:o[n]? = some (.box (zs.map CV.p))) (hn:ρ n = none):DidF P w Im ρ o n (.s (.c (.bptr n 0))) (Instr.alloc T true (.tuple #[])):=by
 obtain ⟨i,z,sh,hi,hiz,hl,_,_,hone,hrp⟩:=hE.zr T zs hz
 have hrp':∀ (i:Nat) (c:CV) (y:Value),(zs.map CV.p)[i]? = some c->z.cells[i]? = some y->RC w Im ρ o c y:=by
  intro i c y a b
  simp at a
  obtain ⟨q,hq,rfl⟩:=a
  exact hrp i q y hq b w Im
 refine newBox_fill (y:=z) (T:=T) hs ho hn (by simpa using hl) hrp' ?_ ?_
 ·intro i y b
  have hi':i < zs.length:=by rw [<- hl];exact (Array.getElem?_eq_some_iff.1 b).1
  exact ((hrp i zs[i] y (by simp [hi']) b w Im).one (hone _ (List.getElem_mem hi'))).1
 ·simp [Instr.alloc,zeroValue,typeInfo,hi,hiz,newVar,newRow]
theorem opBox_fill (hs:SR w Im ρ o) {T:TypeId} {v:SV} {sh:Nat} {x:Value} {cs:List CV} (ha:RS w Im ρ o v x) (hk:∀ K:List CV->R,cellsK o sh v K = K cs) (ho:o[n]? = some (.box cs)) (hn:ρ n = none):DidF P w Im ρ o n (.s (.c (.bptr n 0))) (Instr.box T x):=by
 classical
 obtain ⟨cs2,hk2,hl,hl2,hr,h1⟩:=cellsK_sound (K:=fun c=>if c = cs then some ([],[]) else none) (r:=([],[])) hs ((hk _).trans (by simp)) ha
 have:cs2 = cs:=by
  by_cases e:cs2 = cs
  ·exact e
  ·simp [e] at hk2
 subst this
 exact newBox_fill (y:=x) (T:=T) hs ho hn hl2 hr h1 (by simp [Instr.box,newVar,newRow])
end
end Go.Dp
/- A composite row with plain elements,made late. -/
set_option linter.unusedVariables false
set_option linter.unusedSimpArgs false
namespace Go.Dp
section
variable {P:Program} {E:Env} {w w':World} {Im Im':Nat->Prop} {ρ ρ':Nat->Option Value} {o o':List AObj} {n:Nat}
theorem elemsIn_plain {sh:Nat} {t:List AV} {ev:Operand->Value}:∀ {ps:List (Nat × Operand)} {n:Nat},(∀ q ∈ ps,(aval t q.2).pv?.isSome = true) ->
  (∀ o K,elemsIn sh t n ps o K = none) ∨ ∃ ys,(∀ o K,elemsIn sh t n ps o K = K ys o) /\ ys.length = ps.length /\ (∀ y ∈ ys,y.shp sh = true) /\ (ps.map fun q=>(q.1,ev q.2)) = ((ps.map fun q=>ev q.2).zipIdx n).map (fun x=>(x.2,x.1)) /\
   ∀ (i:Nat) (y:PV) (q:Nat × Operand),ys[i]? = some y->ps[i]? = some q->aval t q.2 = .p y:=by
 intro ps
 induction ps with
 | nil=>intro n h;exact .inr ⟨[],fun o K=>rfl,rfl,by simp,rfl,fun i y q hy=>by simp at hy⟩
 | cons q ps ih =>
  intro n h
  obtain ⟨i,x⟩:=q
  obtain ⟨v,hv⟩:=Option.isSome_iff_exists.1 (h (i,x) (by simp))
  have ha:aval t x = .p v:=pv_some hv
  by_cases hi:i = n
  ·subst hi
   cases hy:v.shp sh with
   | false=>left;intro o K;simp [elemsIn,ha,AV.sv?,freezeS,freezeC,hy]
   | true =>
    rcases ih (n:=i + 1) (fun q hq=>h q (by simp [hq])) with h1 | ⟨ys,h1,hl,hsh,hz,hr⟩
    ·left;intro o K;simp [elemsIn,ha,AV.sv?,freezeS,freezeC,hy,h1]
    ·right
     refine ⟨v :: ys,fun o K=>?_,by simp [hl],?_,?_,?_⟩
     ·simp [elemsIn,ha,AV.sv?,freezeS,freezeC,hy,h1]
     ·intro z hz
      rcases List.mem_cons.1 hz with rfl | hz
      ·exact hy
      ·exact hsh z hz
     ·simp only [List.map_cons,List.zipIdx_cons,hz]
     ·intro j z q hz hq
      cases j with
      | zero=>simp at hz hq;subst hz;subst hq;exact ha
      | succ j=>exact hr j z q (by simpa using hz) (by simpa using hq)
  ·left
   intro o K
   have:(i == n) = false:=by simpa using hi
   simp only [elemsIn,this,cond_false]
theorem opBuildSlice_fill (hE:EnvOK P E) {T:TypeId} {n:Nat} {t:List AV} {ps:Array (Nat × Operand)} (hp:∀ q ∈ ps.toList,(aval t q.2).pv?.isSome = true) :
  (∀ o K,opBuildSlice E T n t ps.toList o K = none) ∨ ∃ e sh ys,(∀ o K,opBuildSlice E T n t ps.toList o K = K (.s (.c (.loc o.length 0 sh 0 n))) (o ++ [.arr e sh 0 false ys])) /\
   ∀ {w:World} {Im:Nat->Prop} {ρ:Nat->Option Value} {o:List AObj} {m:Nat} {fz:Bool} {ev:Operand->Value},SR w Im ρ o->(∀ q ∈ ps.toList,RA w Im ρ o (aval t q.2) (ev q.2))->o[m]? = some (.arr e sh 0 fz ys)->ρ m = none ->
    DidF P w Im ρ o m (.s (.c (.loc m 0 sh 0 n))) (Instr.buildSlice T n (ps.map fun (i,x)=>(i,ev x))):=by
 cases hT:E.sl T with
 | none=>left;intro o K;simp [opBuildSlice,hT]
 | some q =>
 obtain ⟨e,sh,by_⟩:=q
 cases hcnd:(ps.toList.length == n && decide (n * csz sh<=16777216)) with
 | false=>left;intro o K;simp only [opBuildSlice,hT,hcnd,cond_false]
 | true =>
 rcases elemsIn_plain (sh:=sh) (t:=t) (ev:=fun _=>undef) (n:=0) hp with h | ⟨ys,h,hl,hsh,_,hr0⟩
 ·left;intro o K;simp only [opBuildSlice,hT,hcnd,cond_true];exact h _ _
 right
 refine ⟨e,sh,ys,fun o K=>?_,?_⟩
 ·simp only [opBuildSlice,hT,hcnd,cond_true]
  exact h _ _
 intro w Im ρ o m fz ev hs hra ho hm
 simp only [Bool.and_eq_true,beq_iff_eq,decide_eq_true_eq] at hcnd
 obtain ⟨hn,hsm⟩:=hcnd
 have hz:(ps.toList.map fun q=>(q.1,ev q.2)) = ((ps.toList.map fun q=>ev q.2).zipIdx 0).map (fun x=>(x.2,x.1)):=by
  rcases elemsIn_plain (sh:=sh) (t:=t) (ev:=ev) (n:=0) hp with h1 | ⟨_,_,_,_,h1,_⟩
  ·have:=h o fun _ _=>some ([],[])
   rw [h1] at this
   cases this
  ·exact h1
 have hr:∀ (i:Nat) (y:PV) (q:Nat × Operand),ys[i]? = some y->ps.toList[i]? = some q->RP w Im y (ev q.2):=by
  intro i y q hy hq
  have h1:=hra q (List.mem_of_getElem? hq)
  rw [hr0 i y q hy hq] at h1
  exact h1
 obtain ⟨hu,⟨inf,z,hi,hsz,hby,hiz,hzs⟩,_⟩:=hE.sl T e sh by_ hT
 have hp:=csz_pos sh
 have hcell:∀ v ∈ ps.toList.map (fun q=>ev q.2),v.cells.size = csz sh:=by
  intro v hv
  obtain ⟨i,hi',rfl⟩:=List.getElem_of_mem hv
  simp only [List.length_map] at hi'
  have hiy:i < ys.length:=by rw [hl];exact hi'
  have:=(hr i ys[i] ps.toList[i] (by simp [hiy]) (by rw [List.getElem?_eq_getElem hi'])).cells.1
  simp only [List.getElem_map]
  rw [this,PV.shp_len (hsh _ (List.getElem_mem hiy))]
 obtain ⟨zc,hzc⟩:∃ zc,zc = (Array.range (n * csz sh)).map (fun k=>(if n * csz sh = 0 then (#[]:Array Value) else z.cells)[k % (if n * csz sh = 0 then (#[]:Array Value) else z.cells).size]!):=⟨_,rfl⟩
 have hzcs:zc.size = n * csz sh:=by rw [hzc];simp
 obtain ⟨cells,hfill,hcs,hget⟩:=Great.fill_dense hp (ps.toList.map fun q=>ev q.2) 0 zc hcell (by rw [hzcs];simp [<- hn])
 rw [<- hz] at hfill
 have hfill':Instr.fill (fun i=>some (i * inf.size,inf.size)) zc (ps.map fun (i,x)=>(i,ev x)).toList = some cells:=by
  rw [hsz,<- hfill];simp
 have hrun:(Instr.buildSlice T n (ps.map fun (i,x)=>(i,ev x))).run P w = .ok (.slice (some ⟨w.heap.size,0,none⟩) n n) (w.alloc (.cells cells e)):=by
  have hsm':¬ n * csz sh > 2 ^ 24:=by omega
  by_cases h0:n * csz sh = 0
  ·rw [if_pos h0] at hzc
   subst hzc
   simp only [h0] at hfill'
   simp [Instr.buildSlice,run_underlying hu,sizeOf,typeInfo,hi,hsz,h0]
   simp [hsz] at hfill'
   simp [hfill',newRow]
  ·rw [if_neg h0] at hzc
   subst hzc
   exact run_buildSlice w T e n _ cells inf z hu hi hiz (by rw [hsz];exact hsm') (by rw [hsz];exact h0) (by rw [hsz] at hfill' ⊢;exact hfill')
 have hval:∀ (i j:Nat),i < n->j < csz sh->∃ q,ps.toList[i]? = some q /\ cells.toList[i * csz sh + j]? = (ev q.2).cells[j]?:=by
  intro i j hi' hj
  have hip:i < ps.toList.length:=by omega
  refine ⟨ps.toList[i],by rw [List.getElem?_eq_getElem hip],?_⟩
  rw [Array.getElem?_toList,hget,if_pos ⟨by simp,by simpa [hn] using get_flat hi' hj⟩]
  have h1:(i * csz sh + j) / csz sh - 0 = i:=by rw [Nat.mul_comm,Nat.mul_add_div hp,Nat.div_eq_of_lt hj];rfl
  have h2:(i * csz sh + j) % csz sh = j:=by rw [Nat.mul_comm,Nat.mul_add_mod,Nat.mod_eq_of_lt hj]
  rw [h1,h2,List.getElem?_map,List.getElem?_eq_getElem hip]
  rfl
 have hyn:ys.length = n:=by omega
 have hd:=newArr_fill (P:=P) (e:=e) (sh:=sh) (fz:=fz) (xs:=ys) (v:=.slice (some ⟨w.heap.size,0,none⟩) n n) (vals:=cells.toList) hs (w':=w.alloc (.cells cells e)) ho hm ⟨rfl,rfl,rfl,by simp⟩ (fun b hb=>push_old _ _ _ hb) ?_ (fun b hb=>by simp at hb;omega) hsh ?_ hrun
 ·rw [hyn] at hd
  exact hd
 ·refine World.ownsAt_of ⟨by simp [hcs,hzcs,hyn],.inr ⟨w.heap.size,n,cells,by rw [hyn],Nat.zero_le _,push_new _ _,by omega,?_,by rw [hcs,hzcs],?_⟩⟩
  ·have h1:n * 1<=n * csz sh:=Nat.mul_le_mul_left _ hp
   simp only [maxLen]
   omega
  ·rw [hyn,<- hzcs,<- hcs,<- Array.length_toList,List.take_length]
 ·intro i x j c y hx hj hy
  have hin:i < n:=by rw [<- hyn];exact (List.getElem?_eq_some_iff.1 hx).1
  have hjl:j < csz sh:=by rw [<- PV.shp_len (hsh x (List.mem_of_getElem? hx))];exact (List.getElem?_eq_some_iff.1 hj).1
  obtain ⟨q,hq,hqc⟩:=hval i j hin hjl
  rw [hqc] at hy
  exact (hr i x q hx hq).cells.2 j c y hj hy
end
end Go.Dp
/- Creators that the evaluator carries out ahead of the machine. -/
set_option linter.unusedVariables false
set_option linter.unusedSimpArgs false
namespace Go.Dp
section
variable {P:Program} {E:Env} {w w':World} {Im Im':Nat->Prop} {ρ ρ':Nat->Option Value} {o o':List AObj} {t:List AV} {a:Act} {C:Ctx} {ops:Array Oper}
theorem at_app_box {cs:List CV} (h:at' (o ++ [.box cs]) o.length = at' o' o.length):o'[o.length]? = some (.box cs):=by
 simp only [at',List.getElem?_append_right (Nat.le_refl _),Nat.sub_self] at h
 cases h':o'[o.length]? with
 | none=>rw [h'] at h;simp [AObj.norm] at h
 | some x=>rw [h'] at h;cases x <;> simp [AObj.norm] at h;subst h;rfl
theorem at_app_arr {sh ver:Nat} {e:Et} {fz:Bool} {xs:List PV} (h:at' (o ++ [.arr e sh ver fz xs]) o.length = at' o' o.length):∃ fz',o'[o.length]? = some (.arr e sh ver fz' xs):=by
 simp only [at',List.getElem?_append_right (Nat.le_refl _),Nat.sub_self] at h
 cases h':o'[o.length]? with
 | none=>rw [h'] at h;simp [AObj.norm] at h
 | some x =>
  rw [h'] at h
  cases x <;> simp [AObj.norm] at h
  obtain ⟨rfl,rfl,rfl,rfl⟩:=h
  exact ⟨_,rfl⟩
theorem agree_left {ids:List Nat} {x:AObj} (hi:∀ id ∈ ids,id < o.length) (h:AgreeO ids (o ++ [x]) o'):AgreeO ids o o':=by
 intro id hid
 rw [<- h id hid]
 simp only [at',List.getElem?_append_left (hi id hid)]
theorem DidF.next {v:AV} {n:Nat} {s:Sem Value} (h:DidF P w Im ρ o n v s) {m:Sem Next} (e:m = (do pure (.value (<- s)))):∃ y w' Im' ρ',Fill w Im ρ o w' n Im' ρ' /\ RA w' Im' ρ' o v y /\ m.run P w = .ok (.value y) w':=by
 obtain ⟨y,w',Im',ρ',h1,h2,h3⟩:=h
 refine ⟨y,w',Im',ρ',h2,h3,?_⟩
 subst e
 simp [h1]
theorem stepL (hE:EnvOK P C.E) {oo:Oper} (hq:lateO oo = true) (t:List AV) (o:List AObj) (hp:latePlain t oo.op = true) (hids:∀ id ∈ idsOp t oo.op,id < o.length):(∀ K,guarded C ops oo ⟨t,o⟩ K = none) ∨ ∃ v x,(∀ K,guarded C ops oo ⟨t,o⟩ K = K ⟨putD t oo.dst v,o ++ [x]⟩) /\
  ∀ o',AgreeO (o.length :: idsOp t oo.op) (o ++ [x]) o'->∀ (w:World) (Im:Nat->Prop) (ρ:Nat->Option Value) (a:Act),SR w Im ρ o'->ρ o.length = none->(∀ x ∈ oo.op.operands.toList,RA w Im ρ o' (aval t x) (a.eval x)) ->
   ∃ y w' Im' ρ',Fill w Im ρ o' w' o.length Im' ρ' /\ RA w' Im' ρ' o' v y /\ (execOp a.eval oo).run P w = .ok (.value y) w':=by
 simp only [lateO,Bool.and_eq_true,Option.isNone_iff_eq_none] at hq
 obtain ⟨hg,hq⟩:=hq
 unfold guarded
 rw [hg]
 simp only
 cases hop:oo.op with
 | alloc T =>
  simp only [stepOp,hop,evOp]
  cases hz:(C.E.on C.self).zr T with
  | none=>left;intro K;simp [opAlloc,hz]
  | some zs =>
   right
   refine ⟨.s (.c (.bptr o.length 0)),.box (zs.map CV.p),fun K=>by simp [opAlloc,hz],fun o' hag w Im ρ a hs hn av=>?_⟩
   exact (opAlloc_fill (hE.on C.self) hs hz (at_app_box (hag o.length (by simp))) hn).next (by simp [execOp,hop])
 | box T x =>
  simp only [stepOp,hop,evOp]
  rw [hop] at hids
  cases hv:(aval t x).sv? with
  | none=>left;intro K;simp [opBox,hv]
  | some v =>
   cases hT:(C.E.on C.self).sh T with
   | none=>left;intro K;simp [opBox,hv,hT]
   | some sh =>
    have ha:=sv_some hv
    rcases cellsK_par (o:=o) (ids:=(cellsOfS v).flatMap idsC) sh v (fun _ h=>h) with h | ⟨cs,h⟩
    ·left;intro K;simp only [opBox,hv,hT];exact h _
    ·replace h:∀ o',AgreeO ((cellsOfS v).flatMap idsC) o o'->∀ K:List CV->R,cellsK o' sh v K = K cs:=h
     have hsub:∀ id ∈ (cellsOfS v).flatMap idsC,id ∈ idsOp t (.box T x):=by
      intro id hid
      refine List.mem_flatMap.2 ⟨x,by simp [Op.operands],?_⟩
      rw [ha]
      exact hid
     right
     refine ⟨.s (.c (.bptr o.length 0)),.box cs,fun K=>by simp only [opBox,hv,hT];exact h o (fun _ _=>rfl) _,fun o' hag w Im ρ a hs hn av=>?_⟩
     have hx:=av x (by simp [Op.operands])
     rw [ha] at hx
     have hag2:AgreeO ((cellsOfS v).flatMap idsC) o o':=agree_left (fun id hid=>hids id (hsub id hid)) fun id hid=>hag id (List.mem_cons_of_mem _ (by rw [<- hop] at hsub ⊢;exact hsub id hid))
     exact (opBox_fill (v:=v) (sh:=sh) (x:=a.eval x) (T:=T) hs hx (h o' hag2) (at_app_box (hag o.length (by simp))) hn).next (by simp [execOp,hop])
 | buildSlice T n ps =>
  simp only [stepOp,hop,evOp]
  have hp':∀ q ∈ ps.toList,(aval t q.2).pv?.isSome = true:=by
   rw [hop] at hp
   simpa only [latePlain,List.all_eq_true] using hp
  have hnl:nestEl (C.E.on C.self) T t ps.toList = false:=by
   unfold nestEl
   split
   ·rename_i k i x _ hps
    have hpx:=hp' (i,x) (by rw [hps];simp)
    split
    ·rename_i cs hsv
     rw [sv_some hsv] at hpx
     simp [AV.pv?] at hpx
    ·rename_i hsv
     rw [sv_some hsv] at hpx
     simp [AV.pv?] at hpx
    ·rfl
   ·rfl
  simp only [hnl,cond_false]
  rcases opBuildSlice_fill (T:=T) (n:=n) (hE.on C.self) hp' with h | ⟨e,sh,ys,h,hf⟩
  ·left;intro K;exact h _ _
  ·right
   refine ⟨.s (.c (.loc o.length 0 sh 0 n)),.arr e sh 0 false ys,fun K=>h _ _,fun o' hag w Im ρ a hs hn av=>?_⟩
   obtain ⟨fz,ho⟩:=at_app_arr (hag o.length (by simp))
   exact (hf (ev:=a.eval) hs (fun q hq=>av q.2 (by simp only [Op.operands];exact List.mem_map.2 ⟨q,hq,rfl⟩)) ho hn).next (by simp [execOp,hop])
 | _=>rw [hop] at hq;simp at hq
end
end Go.Dp
/- Regions that draw their order. -/
set_option linter.unusedVariables false
set_option linter.unusedSimpArgs false
namespace Go.Dp
section
variable {P:Program} {E:Env} {w w':World} {Im Im':Nat->Prop} {ρ ρ':Nat->Option Value} {o o':List AObj} {r:List SV × List (List CV)} {t:List AV} {a:Act} {B:Base} {C:Ctx} {L:List Nat} {ops:Array Oper} {bs:List Nat} {lz:Bool} {late:Nat->Option Nat}
def Prom (P:Program) (ops:Array Oper) (oo:Oper) (ids:List Nat) (v:AV) (t:List AV) (o:List AObj):Prop :=
 ∀ o',AgreeO ids o o'->∀ (w:World) (Im:Nat->Prop) (ρ:Nat->Option Value) (a:Act),SR w Im ρ o'->(∀ x ∈ looksT ops oo,RA w Im ρ o' (getT t x) (a.tmps.getD x undef)) ->
  ∃ y,RA w Im ρ o' v y /\ ((Region.wanted oo (yielded ops a.tmps) = true /\ (execOp a.eval oo).run P w = .ok (.value y) w) ∨ (Region.wanted oo (yielded ops a.tmps) = false /\ y = undef))
theorem aval_of (x:Operand) (h:∀ i,x = .tmp i->RA w Im ρ o (getT t i) (a.tmps.getD i undef)):RA w Im ρ o (aval t x) (a.eval x):=by
 cases x with
 | tmp i=>exact h i rfl
 | const v =>
  simp only [aval,Act.eval]
  unfold constAV
  split
  ·exact RP.int _ _
  ·exact RP.bool _
  ·exact RP.str _
  ·exact RP.nil _ _ (by decide)
  ·trivial
 | global g=>trivial
 | func f=>exact ⟨#[],rfl,rfl,fun i id h=>by simp at h⟩
theorem looks_op {oo:Oper} {x:Operand} (h:x ∈ oo.op.operands.toList) {i:Nat} (hi:x = .tmp i):i ∈ looksT ops oo:=by
 subst hi
 exact List.mem_append_left _ (List.mem_filterMap.2 ⟨.tmp i,h,rfl⟩)
theorem stepQ (hE:EnvOK P C.E) {oo:Oper} (hq:quietO oo = true) (t:List AV) (o:List AObj):(∀ K,stepOp C oo ⟨t,o⟩ K = none) ∨ ∃ v,(∀ K,stepOp C oo ⟨t,o⟩ K = K ⟨putD t oo.dst v,o⟩) /\
  ∀ o',AgreeO (idsQ t oo.op) o o'->∀ (w:World) (Im:Nat->Prop) (ρ:Nat->Option Value) (a:Act),SR w Im ρ o'->(∀ x ∈ oo.op.operands.toList,RA w Im ρ o' (aval t x) (a.eval x))->∃ y,RA w Im ρ o' v y /\ (execOp a.eval oo).run P w = .ok (.value y) w:=by
 unfold stepOp
 split
 ·rename_i c x y hop
  rcases branch_par c t with h | ⟨b,hb,h⟩
  ·left;intro K;exact h _
  ·right
   refine ⟨aval t (bif b then x else y),fun K=>h _,?_⟩
   intro o' _ w Im ρ a hs av
   have hc:=av c (by rw [hop];simp [Op.operands])
   rw [hb] at hc
   have hc':a.eval c = .bool b:=RA.bool (a:=.p (.bool b)) rfl hc
   refine ⟨if b = true then a.eval x else a.eval y,?_,by simp [execOp,hop,hc',asBool]⟩
   cases b
   ·exact av y (by rw [hop];simp [Op.operands])
   ·exact av x (by rw [hop];simp [Op.operands])
 ·rename_i c hop
  have hqs:silent oo.op = true:=by unfold quietO at hq;rw [hop] at hq ⊢;exact hq
  have hnv:∀ f,c.callee ≠ .value f:=by intro f hf;rw [hop] at hqs;simp [silent,hf] at hqs
  split
  ·rename_i f hf;exact absurd hf (hnv f)
  ·rcases evOp_parQ (E:=C.E.on C.self) (t:=t) (o:=o) hqs with h | ⟨v,h⟩
   ·left;intro K;exact h _
   ·right
    refine ⟨v,fun K=>h o (fun _ _=>rfl) _,?_⟩
    intro o' hag w Im ρ a hs av
    classical
    obtain ⟨v2,y,hk,hr,hra⟩:=evOpQ_sound (K:=fun v' _=>if v' = v then some ([],[]) else none) (r:=([],[])) (hE.on C.self) hs oo rfl av hqs ((h o' hag _).trans (by simp))
    have:v2 = v:=by
     by_cases e:v2 = v
     ·exact e
     ·simp [e] at hk
    subst this
    exact ⟨y,hra,hr⟩
 ·rename_i hnp hnc
  have hqs:silent oo.op = true:=by
   unfold quietO at hq
   split at hq
   ·rename_i c x y e;exact absurd e (hnp c x y)
   ·exact hq
  rcases evOp_parQ (E:=C.E.on C.self) (t:=t) (o:=o) hqs with h | ⟨v,h⟩
  ·left;intro K;exact h _
  ·right
   refine ⟨v,fun K=>h o (fun _ _=>rfl) _,?_⟩
   intro o' hag w Im ρ a hs av
   classical
   obtain ⟨v2,y,hk,hr,hra⟩:=evOpQ_sound (K:=fun v' _=>if v' = v then some ([],[]) else none) (r:=([],[])) (hE.on C.self) hs oo rfl av hqs ((h o' hag _).trans (by simp))
   have:v2 = v:=by
    by_cases e:v2 = v
    ·exact e
    ·simp [e] at hk
   subst this
   exact ⟨y,hra,hr⟩
theorem guardQ (hE:EnvOK P C.E) {oo:Oper} (hq:quietO oo = true) (t:List AV) (o:List AObj):(∀ K,guarded C ops oo ⟨t,o⟩ K = none) ∨ ∃ v,(∀ K,guarded C ops oo ⟨t,o⟩ K = K ⟨putD t oo.dst v,o⟩) /\ Prom P ops oo (idsQ t oo.op) v t o:=by
 unfold guarded
 split
 ·rename_i hg
  rcases stepQ hE hq t o with h | ⟨v,h,hp⟩
  ·exact .inl h
  ·right
   refine ⟨v,h,fun o' hag w Im ρ a hs hra=>?_⟩
   obtain ⟨y,h1,h2⟩:=hp o' hag w Im ρ a hs (fun x hx=>aval_of x fun i hi=>hra i (looks_op hx hi))
   exact ⟨y,h1,.inl ⟨by simp [Region.wanted,hg],h2⟩⟩
 ·rename_i j want hg
  split
  ·rename_i d hd
   have hlk:d ∈ looksT ops oo:=by
    unfold looksT
    rw [hg]
    refine List.mem_append_right _ ?_
    show d ∈ ((ops[j]?).bind (·.dst)).toList
    rw [hd]
    simp
   cases hsk:skipped (getT t d) with
   | true =>
    right
    exact ⟨.tup [],fun K=>by simp,fun o' hag w Im ρ a hs hra=>⟨undef,RA_tup0,.inr ⟨skipped_wanted hg hd hsk (hra d hlk),rfl⟩⟩⟩
   | false =>
   simp only [cond_false]
   rcases branch_par (.tmp d) t with h | ⟨b,hb,h⟩
   ·left;intro K;exact h _
   ·have hb':getT t d = .p (.bool b):=hb
    have want_of:∀ (w:World) (Im:Nat->Prop) (ρ:Nat->Option Value) (o':List AObj) (a:Act),RA w Im ρ o' (getT t d) (a.tmps.getD d undef)->Region.wanted oo (yielded ops a.tmps) = (b == want):=by
     intro w Im ρ o' a hgd
     rw [hb'] at hgd
     have hv:a.tmps.getD d undef = .bool b:=RA.bool (a:=.p (.bool b)) rfl hgd
     have hy:yielded ops a.tmps j = some b:=by
      unfold yielded
      rw [hd]
      simp only [Option.bind_some]
      rw [Array.getD_eq_getD_getElem?] at hv
      cases hq:a.tmps[d]? with
      | none=>rw [hq] at hv;simp [undef] at hv
      | some v=>rw [hq] at hv;simp at hv;subst hv;rfl
     simp [Region.wanted,hg,hy]
    cases hw:b == want
    ·right
     refine ⟨.tup [],fun K=>by rw [h];simp [hw],fun o' hag w Im ρ a hs hra=>⟨undef,RA_tup0,.inr ⟨?_,rfl⟩⟩⟩
     rw [want_of w Im ρ o' a (hra d hlk),hw]
    ·rcases stepQ hE hq t o with h2 | ⟨v,h2,hp⟩
     ·left;intro K;rw [h];simp only [hw,cond_true];exact h2 K
     ·right
      refine ⟨v,fun K=>by rw [h];simp only [hw,cond_true];exact h2 K,fun o' hag w Im ρ a hs hra=>?_⟩
      obtain ⟨y,h3,h4⟩:=hp o' hag w Im ρ a hs (fun x hx=>aval_of x fun i hi=>hra i (looks_op hx hi))
      exact ⟨y,h3,.inl ⟨by rw [want_of w Im ρ o' a (hra d hlk),hw],h4⟩⟩
  ·left;intro K;rfl
theorem quietB_O {oo:Oper} (h:quietB ops oo = true):quietO oo = true:=by
 unfold quietB at h
 rw [Bool.and_eq_true] at h
 exact h.1
theorem lazyB_O {lz:Bool} {oo:Oper} (h:lazyB lz ops oo = true) (hl:lateO oo = false):quietO oo = true:=by
 unfold lazyB at h
 split at h
 ·exact quietB_O h
 ·rw [hl] at h
  simp only [Bool.false_and,Bool.or_false] at h
  exact quietB_O h
def PromL (P:Program) (ops:Array Oper) (oo:Oper) (ids:List Nat) (n:Nat) (v:AV) (t:List AV) (o:List AObj):Prop :=
 ∀ o',AgreeO ids o o'->∀ (w:World) (Im:Nat->Prop) (ρ:Nat->Option Value) (a:Act),SR w Im ρ o'->ρ n = none->(∀ x ∈ looksT ops oo,RA w Im ρ o' (getT t x) (a.tmps.getD x undef)) ->
  ∃ y w' Im' ρ',Fill w Im ρ o' w' n Im' ρ' /\ RA w' Im' ρ' o' v y /\ Region.wanted oo (yielded ops a.tmps) = true /\ (execOp a.eval oo).run P w = .ok (.value y) w'
theorem guardL (hE:EnvOK P C.E) {oo:Oper} (hq:lateO oo = true) (t:List AV) (o:List AObj) (hp:latePlain t oo.op = true) (hids:∀ id ∈ idsOp t oo.op,id < o.length):(∀ K,guarded C ops oo ⟨t,o⟩ K = none) ∨ ∃ v x,(∀ K,guarded C ops oo ⟨t,o⟩ K = K ⟨putD t oo.dst v,o ++ [x]⟩) /\ PromL P ops oo (o.length :: idsOp t oo.op) o.length v t (o ++ [x]):=by
 have hg:oo.guard = none:=by
  unfold lateO at hq
  rw [Bool.and_eq_true] at hq
  exact Option.isNone_iff_eq_none.1 hq.1
 rcases stepL (P:=P) (ops:=ops) hE hq t o hp hids with h | ⟨v,x,h,hf⟩
 ·exact .inl h
 ·right
  refine ⟨v,x,h,fun o' hag w Im ρ a hs hn hra=>?_⟩
  obtain ⟨y,w',Im',ρ',h1,h2,h3⟩:=hf o' hag w Im ρ a hs hn (fun z hz=>aval_of z fun i hi=>hra i (looks_op hz hi))
  exact ⟨y,w',Im',ρ',h1,h2,by simp [Region.wanted,hg],h3⟩
def PromX (P:Program) (ops:Array Oper) (oo:Oper) (ids:List Nat) (l:Option Nat) (ρ:Nat->Option Value) (v:AV) (t:List AV) (o:List AObj):Prop :=
 match l with
 | none=>Prom P ops oo ids v t o
 | some n=>ρ n = none /\ PromL P ops oo ids n v t o
theorem PromX.mono {oo:Oper} {ids:List Nat} {l:Option Nat} {v:AV} (hm:∀ n,l = some n->ρ n = none->ρ' n = none) (h:PromX P ops oo ids l ρ v t o):PromX P ops oo ids l ρ' v t o:=by
 cases l with
 | none=>exact h
 | some n=>exact ⟨hm n rfl h.1,h.2⟩
theorem RA.compat (hi:∀ b,Im b->Im' b /\ w'.heap[b]? = w.heap[b]?) (hc:Compat ρ ρ' o o') {v:AV} {x:Value} (h:RA w Im ρ o v x):RA w' Im' ρ' o' v x:=by
 have hS:∀ (v:SV) x,RS w Im ρ o v x->RS w' Im' ρ' o' v x:=by
  intro v x hv
  cases v with
  | c c=>exact RC.compat hi hc hv
  | agg cs=>obtain ⟨vs,rfl,h1,h2,h3⟩:=hv;exact ⟨vs,rfl,h1,fun i c y a b=>RC.compat hi hc (h2 i c y a b),h3⟩
 cases v with
 | s v=>exact hS v x h
 | tup ts=>obtain ⟨vs,rfl,h1,h2⟩:=h;exact ⟨vs,rfl,h1,fun i c y a b=>hS c y (h2 i c y a b)⟩
theorem compat_push (x:AObj):Compat ρ ρ o (o ++ [x]):=by
 intro id a ha
 have hlt:=(List.getElem?_eq_some_iff.1 ha).1
 exact ⟨a,by rw [List.getElem?_append_left hlt];exact ha,by cases a <;> simp [CompatO]⟩
theorem SR.push (hs:SR w Im ρ o) (x:AObj):SR w Im ρ (o ++ [x]):=by
 refine ⟨fun id a v ha hv=>?_,hs.inj,fun id v hv=>⟨by have:=(hs.lt id v hv).1;simp;omega,(hs.lt id v hv).2⟩,hs.im,fun id hd=>?_⟩
 ·have hlt:=(hs.lt id v hv).1
  rw [List.getElem?_append_left hlt] at ha
  exact RO.keep (fun b hb=>⟨hb,rfl⟩) (compat_push x) (fun _ _=>rfl) (fun _ _ h=>h) (hs.ob id a v ha hv)
 ·cases hr:ρ id with
  | none=>rfl
  | some v =>
   have hlt:=(hs.lt id v hr).1
   rw [List.getElem?_append_left hlt] at hd
   rw [hs.dd id hd] at hr
   cases hr
theorem SR.at_end (hs:SR w Im ρ o):ρ o.length = none:=by
 cases h:ρ o.length with
 | none=>rfl
 | some u=>have:=(hs.lt _ u h).1;omega
theorem Now.push (h:Now B w Im ρ o) (x:AObj):Now B w Im ρ (o ++ [x]):=⟨h.wd,h.sr.push x,h.fr,h.ow,h.im,h.imn,fun j b hj=>RB.compat (compat_push x) (h.hd j b hj)⟩
theorem Now.fill (h:Now B w Im ρ o) {n:Nat} (st:Fill w Im ρ o w' n Im' ρ'):Now B w' Im' ρ' o:=by
 refine ⟨h.wd.trans st.wd,st.sr,?_,?_,?_,?_,fun j b hj=>st.keep (.bptr j 0) _ (h.hd j b hj)⟩
 ·intro b hb hd
  rw [st.fr b (Nat.lt_of_lt_of_le hb h.wd.size),h.fr b hb hd]
 ·rintro b ⟨id,v,hv,hb⟩
  rcases st.ow id v b hv hb with h1 | h1
  ·exact .inl (Nat.le_trans h.wd.size h1)
  ·exact h.ow b h1
 ·intro b hb
  have h1:=h.im b hb
  have h2:=st.im b h1.1
  exact ⟨h2.1,h2.2.trans h1.2⟩
 ·intro b hb
  rcases st.imn b hb with h1 | h1
  ·exact h.imn b h1
  ·exact .inr (.inl (Nat.le_trans h.wd.size h1))
theorem all_zip {p:Oper × Nat->Bool} (h:ops.toList.zipIdx.all p = true) {i:Nat} {oo:Oper} (hi:ops[i]? = some oo):p (oo,i) = true:=by
 rw [List.all_eq_true] at h
 refine h (oo,i) ?_
 rw [List.mem_iff_getElem?]
 exact ⟨i,by rw [List.getElem?_zipIdx,Array.getElem?_toList,hi];simp⟩
theorem fold_bits {bs:List Nat} {k:Nat}:∀ (l:List Nat) (s:Nat),(l.foldl (fun s e=>s ||| 2 ^ e ||| bitsOf bs e) s).testBit k = true->s.testBit k = true ∨ ∃ e ∈ l,k = e ∨ (bitsOf bs e).testBit k = true
 | [],s,h=>.inl h
 | e :: l,s,h=>by
  rw [List.foldl_cons] at h
  rcases fold_bits l _ h with h1 | ⟨e',h1,h2⟩
  ·simp only [Nat.testBit_or,Bool.or_eq_true,Nat.testBit_two_pow,decide_eq_true_eq] at h1
   rcases h1 with (h1 | h1) | h1
   ·exact .inl h1
   ·exact .inr ⟨e,by simp,.inl h1.symm⟩
   ·exact .inr ⟨e,by simp,.inr h1⟩
  ·exact .inr ⟨e',by simp [h1],h2⟩
theorem closed_bits (h:closedOk ops bs = true) {i k:Nat} {oo:Oper} (hi:ops[i]? = some oo) (hk:(bitsOf bs i).testBit k = true):∃ e ∈ bindsOn oo,k = e ∨ (bitsOf bs e).testBit k = true:=by
 have:=all_zip h hi
 simp only [beq_iff_eq] at this
 rw [this] at hk
 rcases fold_bits _ _ hk with h1 | h1
 · simp at h1
 · exact h1
structure Slots (lz:Bool) (ops:Array Oper) (bs:List Nat):Prop where
 own:∀ (i d:Nat) (oi:Oper),ops[i]? = some oi->oi.dst = some d->lazyB lz ops oi = true->d ∉ looksT ops oi
 two:∀ (i j d:Nat) (oi oj:Oper),ops[i]? = some oi->ops[j]? = some oj->oi.dst = some d->i ≠ j->oj.dst ≠ some d
 see:∀ (i j d:Nat) (oi oj:Oper),ops[i]? = some oi->ops[j]? = some oj->oi.dst = some d->i ≠ j->d ∈ looksT ops oj->(bitsOf bs j).testBit i = true ∨ (lazyB lz ops oi = false /\ (lazyB lz ops oj = false ∨ (bitsOf bs i).testBit j = true))
theorem slots_of (h:slotsOk lz ops bs = true):Slots lz ops bs:=by
 have key:∀ (i d:Nat) (oi:Oper),ops[i]? = some oi->oi.dst = some d->(!lazyB lz ops oi || !(looksT ops oi).contains d) = true /\ ∀ (j:Nat) (oj:Oper),ops[j]? = some oj->i ≠ j ->
   (oj.dst != some d) = true /\ ((!(looksT ops oj).contains d || (bitsOf bs j).testBit i || !lazyB lz ops oi && (!lazyB lz ops oj || (bitsOf bs i).testBit j)) = true):=by
  intro i d oi hi hd
  have h1:=all_zip h hi
  simp only [hd] at h1
  rw [Bool.and_eq_true] at h1
  refine ⟨h1.1,fun j oj hj hne=>?_⟩
  have h2:=all_zip h1.2 hj
  simp only [Bool.or_eq_true,beq_iff_eq] at h2
  rcases h2 with h2 | h2
  ·exact absurd h2 hne
  ·rw [Bool.and_eq_true] at h2
   exact h2
 refine ⟨fun i d oi hi hd hq hm=>?_,fun i j d oi oj hi hj hd hne hd2=>?_,fun i j d oi oj hi hj hd hne hm=>?_⟩
 ·have:=(key i d oi hi hd).1
  simp [hq,hm] at this
 ·have:=((key i d oi hi hd).2 j oj hj hne).1
  simp [hd2] at this
 ·have:=((key i d oi hi hd).2 j oj hj hne).2
  simp [hm] at this
  rcases this with h1 | h1
  ·exact .inl h1
  ·exact .inr h1
def Ls (listed:Array Bool) (i:Nat):Prop:=listed.getD i false = true
structure Sim (lz:Bool) (late:Nat->Option Nat) (P:Program) (C:Ctx) (B:Base) (ops:Array Oper) (bs:List Nat) (K:St->R) (r:List SV × List (List CV)) (done:Nat) (rest:List Nat) (early:List (Nat × List Nat)) (s:St) (listed:Array Bool) (a:Act) (w:World) (Im:Nat->Prop) (ρ:Nat->Option Value):Prop where
 ev:evDr lz C ops bs early rest s K = some r
 line:lineOk lz ops bs done rest = true
 sz:listed.size = ops.size
 sub:∀ i,Ls listed i->done.testBit i = true
 lsb:∀ e k,Ls listed e->(bitsOf bs e).testBit k = true->Ls listed k
 dnb:∀ e k,done.testBit e = true->(bitsOf bs e).testBit k = true->done.testBit k = true
 acts:∀ (i:Nat) (oo:Oper),done.testBit i = true->ops[i]? = some oo->lazyB lz ops oo = false->Ls listed i
 all:∀ i,i < ops.size->done.testBit i = true ∨ i ∈ rest
 now:Now B w Im ρ s.o
 tsz:a.tmps.size = s.t.length
 slots:∀ d,(∀ (p:Nat) (oo:Oper),done.testBit p = true->¬ Ls listed p->ops[p]? = some oo->oo.dst ≠ some d)->RA w Im ρ s.o (getT s.t d) (a.tmps.getD d undef)
 prom:∀ (p:Nat) (oo:Oper),done.testBit p = true->¬ Ls listed p->ops[p]? = some oo->∃ ids v t0 o0,(p,ids) ∈ early /\ AgreeT (looksT ops oo) t0 s.t /\ AgreeO ids o0 s.o /\ PromX P ops oo ids (late p) ρ v t0 o0 /\ ∀ d,oo.dst = some d->getT s.t d = v ∨ getT s.t d = .undef
 df:a.defers = []
 linj:∀ p q n,late p = some n->late q = some n->p = q
 llt:∀ p n,late p = some n->n < s.o.length
theorem AgreeO.trans {ids:List Nat} {o1 o2 o3:List AObj} (h:AgreeO ids o1 o2) (k:AgreeO ids o2 o3):AgreeO ids o1 o3:=fun id hid=>(h id hid).trans (k id hid)
theorem getT_put {t:List AV} {dst:Option Tmp} {v:AV} {d:Nat} (h:dst ≠ some d):getT (putD t dst v) d = getT t d:=by
 cases dst with
 | none=>rfl
 | some e =>
  simp only [putD]
  rw [getT_set,if_neg]
  rintro ⟨rfl,_⟩
  exact h rfl
theorem getT_put_same {t:List AV} {d:Nat} {v:AV}:getT (putD t (some d) v) d = v ∨ getT (putD t (some d) v) d = .undef:=by
 simp only [putD]
 rw [getT_set]
 split
 ·exact .inl rfl
 ·rename_i h
  right
  unfold getT
  rw [List.getElem?_eq_none (by omega)]
  rfl
theorem len_putD {t:List AV} {dst:Option Tmp} {v:AV}:(putD t dst v).length = t.length:=by cases dst <;> simp [putD]
theorem size_put {dst:Option Tmp} {y:Value}:(a.put dst y).tmps.size = a.tmps.size:=by cases dst <;> simp [Act.put]
theorem tmps_put {dst:Option Tmp} {y:Value} {d:Nat} (h:dst ≠ some d):(a.put dst y).tmps.getD d undef = a.tmps.getD d undef:=by
 cases dst with
 | none=>rfl
 | some e =>
  simp only [Act.put]
  rw [getD_set,if_neg]
  rintro ⟨rfl,_⟩
  exact h rfl
theorem ls_set {listed:Array Bool} {i j:Nat}:Ls (listed.setIfInBounds i true) j ↔ Ls listed j ∨ (i = j /\ i < listed.size):=by
 unfold Ls
 simp only [Array.getD_eq_getD_getElem?,Array.getElem?_setIfInBounds]
 by_cases h:i = j
 ·subst h
  by_cases h2:i < listed.size <;> simp [h2]
 ·simp [h]
theorem bit_or {x i j:Nat}:(x ||| 2 ^ i).testBit j = true ↔ x.testBit j = true ∨ i = j:=by simp [Nat.testBit_or,Nat.testBit_two_pow]
theorem binds_ready {oo:Oper} {listed:Array Bool} (h:∀ e ∈ oo.after,Region.binds .any e = true->listed.getD e.on false = true):∀ j ∈ bindsOn oo,Ls listed j:=by
 intro j hj
 unfold bindsOn at hj
 obtain ⟨e,he,h2⟩:=List.mem_filterMap.1 hj
 cases hb:Region.binds .any e
 ·rw [hb] at h2;simp at h2
 ·rw [hb] at h2
  simp at h2
  subst h2
  exact h e (by simpa using he) hb
section
variable {K:St->R} {done:Nat} {rest:List Nat} {early:List (Nat × List Nat)} {s:St} {listed:Array Bool}
theorem ready_bits (hcl:closedOk ops bs = true) (h:Sim lz late P C B ops bs K r done rest early s listed a w Im ρ) {i:Nat} {oo:Oper} (hi:ops[i]? = some oo) (hr:∀ j ∈ bindsOn oo,Ls listed j) {k:Nat} (hk:(bitsOf bs i).testBit k = true):Ls listed k:=by
 obtain ⟨e,he,h1⟩:=closed_bits hcl hi hk
 rcases h1 with rfl | h1
 · exact hr _ he
 · exact h.lsb e k (hr e he) h1
theorem ready_slots (hcl:closedOk ops bs = true) (hsl:Slots lz ops bs) (h:Sim lz late P C B ops bs K r done rest early s listed a w Im ρ) {i:Nat} {oo:Oper} (hi:ops[i]? = some oo) (hr:∀ j ∈ bindsOn oo,Ls listed j) (hq:lazyB lz ops oo = true ∨ ¬ done.testBit i = true) :
  ∀ x ∈ looksT ops oo,RA w Im ρ s.o (getT s.t x) (a.tmps.getD x undef):=by
 intro x hx
 refine h.slots x fun p op hp hnl hop hd=>?_
 have hpq:lazyB lz ops op = true:=by
  cases hq2:lazyB lz ops op
  ·exact absurd (h.acts p op hp hop hq2) hnl
  ·rfl
 by_cases e:p = i
 ·subst e
  rw [hi] at hop
  injection hop with hop
  subst hop
  rcases hq with hq | hq
  ·exact hsl.own p x _ hi hd hq hx
  ·exact hq hp
 ·rcases hsl.see p i x op oo hop hi hd e hx with h1 | ⟨h1,_⟩
  ·exact hnl (ready_bits hcl h hi hr h1)
  ·rw [hpq] at h1;cases h1
theorem sim_quiet (hE:EnvOK P C.E) (hcl:closedOk ops bs = true) (hsl:Slots lz ops bs) {k:Nat} (h:Sim lz late P C B ops bs K r done (k :: rest) early s listed a w Im ρ) {ok:Oper} (hk:ops[k]? = some ok) (hq:lazyB lz ops ok = true) :
  ∃ late' early' s',Sim lz late' P C B ops bs K r (done ||| 2 ^ k) rest early' s' listed a w Im ρ:=by
 have hev:=h.ev
 have hline:=h.line
 simp only [lineOk,hk,Bool.and_eq_true,Bool.not_eq_true',List.all_eq_true] at hline
 obtain ⟨⟨⟨hnd,hbd⟩,_⟩,hline⟩:=hline
 have hnk:¬ done.testBit k = true:=by rw [hnd];simp
 have hnl:¬ Ls listed k:=fun hl=>hnk (h.sub k hl)
 have dnb':∀ e j,(done ||| 2 ^ k).testBit e = true->(bitsOf bs e).testBit j = true->(done ||| 2 ^ k).testBit j = true:=by
  intro e j he hj
  rcases bit_or.1 he with he | rfl
  ·exact bit_or.2 (.inl (h.dnb e j he hj))
  ·obtain ⟨e',h1,h2⟩:=closed_bits hcl hk hj
   rcases h2 with rfl | h2
   ·exact bit_or.2 (.inl (hbd _ h1))
   ·exact bit_or.2 (.inl (h.dnb e' j (hbd _ h1) h2))
 have acts':∀ (i:Nat) (oo:Oper),(done ||| 2 ^ k).testBit i = true->ops[i]? = some oo->lazyB lz ops oo = false->Ls listed i:=by
  intro i oo hi hoo hqq
  rcases bit_or.1 hi with hi | rfl
  ·exact h.acts i oo hi hoo hqq
  ·rw [hk] at hoo;injection hoo with hoo;subst hoo;rw [hq] at hqq;cases hqq
 have all':∀ i,i < ops.size->(done ||| 2 ^ k).testBit i = true ∨ i ∈ rest:=by
  intro i hi
  rcases h.all i hi with h1 | h1
  ·exact .inl (bit_or.2 (.inl h1))
  ·rcases List.mem_cons.1 h1 with rfl | h1
   ·exact .inl (bit_or.2 (.inr rfl))
   ·exact .inr h1
 have old:∀ (p:Nat) (oo:Oper),p ≠ k->done.testBit p = true->ops[p]? = some oo->∀ v,(∀ x ∈ looksT ops oo,getT (putD s.t ok.dst v) x = getT s.t x) /\ ∀ d,oo.dst = some d->getT (putD s.t ok.dst v) d = getT s.t d:=by
  intro p oo hpk hp hoo v
  refine ⟨fun x hx=>getT_put fun hd=>?_,fun d hd=>getT_put (hsl.two p k d oo ok hoo hk hd hpk)⟩
  rcases hsl.see k p x ok oo hk hoo hd (Ne.symm hpk) hx with h6 | ⟨h6,_⟩
  ·exact hnk (h.dnb p k hp h6)
  ·rw [hq] at h6;cases h6
 cases hlo:lateO ok
 ·simp only [evDr,hk,hq,hlo] at hev
  rcases guardQ (P:=P) hE (lazyB_O hq hlo) s.t s.o with h0 | ⟨v,h0,hprom⟩
  ·rw [h0] at hev;cases hev
  ·rw [h0] at hev
   refine ⟨fun p=>if p = k then none else late p,_,⟨putD s.t ok.dst v,s.o⟩,hev,hline,h.sz,fun i hi=>bit_or.2 (.inl (h.sub i hi)),h.lsb,dnb',acts',all',h.now,by rw [h.tsz];exact len_putD.symm,?_,?_,h.df,?_,?_⟩
   ·intro d hd
    have hdk:ok.dst ≠ some d:=hd k ok (bit_or.2 (.inr rfl)) hnl hk
    rw [getT_put hdk]
    exact h.slots d fun p oo hp hl hoo=>hd p oo (bit_or.2 (.inl hp)) hl hoo
   ·intro p oo hp hl hoo
    by_cases hpk:p = k
    ·subst hpk
     rw [hk] at hoo
     injection hoo with hoo
     subst hoo
     refine ⟨_,v,s.t,s.o,List.mem_cons_self,fun x hx=>?_,fun _ _=>rfl,by rw [if_pos rfl];exact hprom,fun d hd=>?_⟩
     ·rw [getT_put fun hd=>hsl.own p x ok hk hd hq hx]
     ·rw [hd];exact getT_put_same
    ·rcases bit_or.1 hp with hp | hp
     ·obtain ⟨ids,u,t0,o0,h1,h2,h3,h4,h5⟩:=h.prom p oo hp hl hoo
      have ho:=old p oo hpk hp hoo v
      refine ⟨ids,u,t0,o0,List.mem_cons_of_mem _ h1,fun x hx=>by rw [ho.1 x hx];exact h2 x hx,h3,by rw [if_neg hpk];exact h4,fun d hd=>by rw [ho.2 d hd];exact h5 d hd⟩
     ·exact absurd hp.symm hpk
   ·intro p q n hp hq
    by_cases hpk:p = k
    ·rw [if_pos hpk] at hp;cases hp
    ·by_cases hqk:q = k
     ·rw [if_pos hqk] at hq;cases hq
     ·rw [if_neg hpk] at hp;rw [if_neg hqk] at hq;exact h.linj p q n hp hq
   ·intro p n hp
    by_cases hpk:p = k
    ·rw [if_pos hpk] at hp;cases hp
    ·rw [if_neg hpk] at hp;exact h.llt p n hp
 ·simp only [evDr,hk,hq,hlo] at hev
  obtain ⟨hchk,hev⟩:=bif_some hev
  simp only [Bool.and_eq_true,List.all_eq_true,decide_eq_true_eq] at hchk
  obtain ⟨⟨hpl,hids⟩,herl⟩:=hchk
  rcases guardL (P:=P) (ops:=ops) hE hlo s.t s.o hpl hids with h0 | ⟨v,x,h0,hprom⟩
  ·rw [h0] at hev;cases hev
  ·rw [h0] at hev
   refine ⟨fun p=>if p = k then some s.o.length else late p,_,⟨putD s.t ok.dst v,s.o ++ [x]⟩,hev,hline,h.sz,fun i hi=>bit_or.2 (.inl (h.sub i hi)),h.lsb,dnb',acts',all',h.now.push x,by rw [h.tsz];exact len_putD.symm,?_,?_,h.df,?_,?_⟩
   ·intro d hd
    have hdk:ok.dst ≠ some d:=hd k ok (bit_or.2 (.inr rfl)) hnl hk
    rw [getT_put hdk]
    exact RA.compat (fun b hb=>⟨hb,rfl⟩) (compat_push x) (h.slots d fun p oo hp hl hoo=>hd p oo (bit_or.2 (.inl hp)) hl hoo)
   ·intro p oo hp hl hoo
    by_cases hpk:p = k
    ·subst hpk
     rw [hk] at hoo
     injection hoo with hoo
     subst hoo
     refine ⟨_,v,s.t,_,List.mem_cons_self,fun x hx=>?_,fun _ _=>rfl,by rw [if_pos rfl];exact ⟨h.now.sr.at_end,hprom⟩,fun d hd=>?_⟩
     ·rw [getT_put fun hd=>hsl.own p x ok hk hd hq hx]
     ·rw [hd];exact getT_put_same
    ·rcases bit_or.1 hp with hp | hp
     ·obtain ⟨ids,u,t0,o0,h1,h2,h3,h4,h5⟩:=h.prom p oo hp hl hoo
      have ho:=old p oo hpk hp hoo v
      refine ⟨ids,u,t0,o0,List.mem_cons_of_mem _ h1,fun x hx=>by rw [ho.1 x hx];exact h2 x hx,h3.trans fun id hid=>?_,by rw [if_neg hpk];exact h4,fun d hd=>by rw [ho.2 d hd];exact h5 d hd⟩
      have:=herl (p,ids) h1 id hid
      simp only [at',List.getElem?_append_left this]
     ·exact absurd hp.symm hpk
   ·intro p q n hp hq
    by_cases hpk:p = k
    ·by_cases hqk:q = k
     ·rw [hpk,hqk]
     ·rw [if_pos hpk] at hp;rw [if_neg hqk] at hq
      injection hp with hp
      have:=h.llt q n hq
      omega
    ·by_cases hqk:q = k
     ·rw [if_pos hqk] at hq;rw [if_neg hpk] at hp
      injection hq with hq
      have:=h.llt p n hp
      omega
     ·rw [if_neg hpk] at hp;rw [if_neg hqk] at hq;exact h.linj p q n hp hq
   ·intro p n hp
    by_cases hpk:p = k
    ·rw [if_pos hpk] at hp;injection hp with hp;simp;omega
    ·rw [if_neg hpk] at hp
     have:=h.llt p n hp
     simp
     omega
theorem sim_pend {Q:Exit->Act->World->Prop} (hcl:closedOk ops bs = true) (hsl:Slots lz ops bs) (h:Sim lz late P C B ops bs K r done rest early s listed a w Im ρ) {i:Nat} {oo:Oper} (hi:ops[i]? = some oo) (hr:∀ j ∈ bindsOn oo,Ls listed j) (hd:done.testBit i = true) (hl:¬ Ls listed i)
  {next:Act->World->Prop} (hn:∀ a' w' Im' ρ',Sim lz late P C B ops bs K r done rest early s (listed.setIfInBounds i true) a' w' Im' ρ'->next a' w'):wpOp P ops Q i next a w:=by
 have hq:lazyB lz ops oo = true:=by
  cases hq2:lazyB lz ops oo
  ·exact absurd (h.acts i oo hd hi hq2) hl
  ·rfl
 obtain ⟨ids,v,t0,o0,h1,h2,h3,h4,h5⟩:=h.prom i oo hd hl hi
 have hlook:=ready_slots hcl hsl h hi hr (.inl hq)
 obtain ⟨y,w',Im',ρ',hnow,hkeep,hne,hy,hrun⟩:∃ y w' Im' ρ',Now B w' Im' ρ' s.o /\ (∀ v x,RA w Im ρ s.o v x->RA w' Im' ρ' s.o v x) /\ (∀ p m,p ≠ i->late p = some m->ρ m = none->ρ' m = none) /\ RA w' Im' ρ' s.o v y /\
   ((Region.wanted oo (yielded ops a.tmps) = true /\ (execOp a.eval oo).run P w = .ok (.value y) w') ∨ (Region.wanted oo (yielded ops a.tmps) = false /\ y = undef /\ w' = w)):=by
  cases hlate:late i with
  | none =>
   rw [hlate] at h4
   obtain ⟨y,hy,hrun⟩:=h4 s.o h3 w Im ρ a h.now.sr fun x hx=>by rw [h2 x hx];exact hlook x hx
   exact ⟨y,w,Im,ρ,h.now,fun _ _ h=>h,fun _ _ _ _ h=>h,hy,hrun.imp (fun h=>h) fun h=>⟨h.1,h.2,rfl⟩⟩
  | some n =>
   rw [hlate] at h4
   obtain ⟨y,w',Im',ρ',hf,hy,hw,hrun⟩:=h4.2 s.o h3 w Im ρ a h.now.sr h4.1 fun x hx=>by rw [h2 x hx];exact hlook x hx
   refine ⟨y,w',Im',ρ',h.now.fill hf,hf.keepA,fun p m hp hm h0=>?_,hy,.inl ⟨hw,hrun⟩⟩
   rw [hf.ne m fun e=>hp (h.linj p i n (e ▸ hm) hlate)]
   exact h0
 have hil:i < listed.size:=by rw [h.sz];exact (Array.getElem?_eq_some_iff.1 hi).1
 have sim':Sim lz late P C B ops bs K r done rest early s (listed.setIfInBounds i true) (a.put oo.dst y) w' Im' ρ':=by
  refine ⟨h.ev,h.line,by simp [h.sz],?_,?_,h.dnb,?_,h.all,hnow,by rw [size_put];exact h.tsz,?_,?_,?_,h.linj,h.llt⟩
  ·intro j hj
   rcases ls_set.1 hj with hj | ⟨rfl,_⟩
   ·exact h.sub j hj
   ·exact hd
  ·intro e k he hk
   rcases ls_set.1 he with he | ⟨rfl,_⟩
   ·exact ls_set.2 (.inl (h.lsb e k he hk))
   ·exact ls_set.2 (.inl (ready_bits hcl h hi hr hk))
  ·intro j oj hj hoj hqj
   exact ls_set.2 (.inl (h.acts j oj hj hoj hqj))
  ·intro d hdd
   by_cases e:oo.dst = some d
   ·have hv:=h5 d e
    have hval:(a.put oo.dst y).tmps.getD d undef = if d < a.tmps.size then y else undef:=by
     rw [e]
     simp only [Act.put]
     rw [getD_set]
     by_cases hlt:d < a.tmps.size
     ·rw [if_pos ⟨rfl,hlt⟩,if_pos hlt]
     ·rw [if_neg (fun h=>hlt h.2),if_neg hlt,Array.getD_eq_getD_getElem?,Array.getElem?_eq_none (Nat.le_of_not_lt hlt)]
      rfl
    by_cases hlt:d < a.tmps.size
    ·rw [hval,if_pos hlt]
     rcases hv with hv | hv
     ·rw [hv];exact hy
     ·rw [hv];trivial
    ·have:getT s.t d = .undef:=by
      unfold getT
      rw [List.getElem?_eq_none (by rw [<- h.tsz];exact Nat.le_of_not_lt hlt)]
      rfl
     rw [this]
     trivial
   ·rw [tmps_put e]
    refine hkeep _ _ (h.slots d fun p op hp hnl hop hpd=>?_)
    refine hdd p op hp (fun hls=>?_) hop hpd
    rcases ls_set.1 hls with hls | ⟨rfl,_⟩
    ·exact hnl hls
    ·rw [hi] at hop;injection hop with hop;subst hop;exact e hpd
  ·intro p op hp hnl hop
   obtain ⟨ids',u',t1,o1,g1,g2,g3,g4,g5⟩:=h.prom p op hp (fun hls=>hnl (ls_set.2 (.inl hls))) hop
   exact ⟨ids',u',t1,o1,g1,g2,g3,g4.mono fun m hm h0=>hne p m (fun e=>hnl (ls_set.2 (.inr ⟨e.symm,hil⟩))) hm h0,g5⟩
  ·cases oo.dst <;> exact h.df
 unfold wpOp
 simp only [hi]
 rcases hrun with ⟨hw,hrun⟩ | ⟨hw,rfl,rfl⟩
 ·rw [if_pos hw]
  left
  unfold Oper.wp
  rw [hrun]
  exact hn _ _ _ _ sim'
 ·rw [hw]
  simp only [Bool.false_eq_true,if_false]
  exact hn _ _ _ _ sim'
theorem sim_act (hE:EnvOK P C.E) (hC:∀ g args bs r,C.call g args bs = some r->Contract P g args bs r) {Q:Exit->Act->World->Prop} (hcl:closedOk ops bs = true) (hsl:Slots lz ops bs) {i:Nat} (h:Sim lz late P C B ops bs K r done (i :: rest) early s listed a w Im ρ) {oo:Oper} (hi:ops[i]? = some oo)
  (hr:∀ j ∈ bindsOn oo,Ls listed j) (hq:lazyB lz ops oo = false)
  {next:Act->World->Prop} (hn:∀ s' a' w' Im' ρ',Sim lz late P C B ops bs K r (done ||| 2 ^ i) rest early s' (listed.setIfInBounds i true) a' w' Im' ρ'->next a' w'):wpOp P ops Q i next a w:=by
 have hev:=h.ev
 simp only [evDr,hi,hq] at hev
 obtain ⟨hchk,hev⟩:=bif_some hev
 simp only [List.all_eq_true,Bool.or_eq_true,Bool.and_eq_true,Bool.not_eq_true',decide_eq_true_eq] at hchk
 have hline:=h.line
 simp only [lineOk,hi,hq,Bool.and_eq_true,Bool.not_eq_true',List.all_eq_true,Bool.false_or] at hline
 obtain ⟨⟨⟨hnd,hbd⟩,_⟩,hline⟩:=hline
 have hnk:¬ done.testBit i = true:=by rw [hnd];simp
 have hil:i < listed.size:=by rw [h.sz];exact (Array.getElem?_eq_some_iff.1 hi).1
 have hlook:=ready_slots hcl hsl h hi hr (.inr hnk)
 rcases guarded_keeps (C:=C) (ops:=ops) oo s with h0 | ⟨v,o',h0,hkp⟩
 ·rw [h0] at hev;cases hev
 ·rw [h0] at hev
  classical
  refine guarded_sound (K:=fun s'=>if s'.t = putD s.t oo.dst v /\ s'.o = o' then evDr lz C ops bs early rest ⟨putD s.t oo.dst v,o'⟩ K else none) hE hC hi h.now.sr (fun x hx=>aval_of x fun j hj=>hlook j (looks_op hx hj)) ?_ (by
   refine (h0 _).trans ?_
   simp only [and_self,if_true]
   exact hev) ?_
  ·intro j want d hg hd
   refine hlook d ?_
   unfold looksT
   rw [hg]
   refine List.mem_append_right _ ?_
   show d ∈ ((ops[j]?).bind (·.dst)).toList
   rw [hd]
   simp
  ·intro v2 o2 y w' Im' ρ' hk hst hra
   simp only at hk
   split at hk
   ·rename_i he
    obtain ⟨he1,he2⟩:=he
    subst he2
    have hpend:∀ (p:Nat),(done ||| 2 ^ i).testBit p = true->¬ Ls (listed.setIfInBounds i true) p->done.testBit p = true /\ ¬ Ls listed p /\ p ≠ i:=by
     intro p hp hnl
     rcases bit_or.1 hp with hp | rfl
     ·exact ⟨hp,fun hl=>hnl (ls_set.2 (.inl hl)),fun e=>hnk (e ▸ hp)⟩
     ·exact absurd (ls_set.2 (.inr ⟨rfl,hil⟩)) hnl
    refine hn ⟨putD s.t oo.dst v,o2⟩ (a.put oo.dst y) w' Im' ρ' ⟨hk,hline,by simp [h.sz],?_,?_,?_,?_,?_,h.now.step hst,by rw [size_put,h.tsz];exact len_putD.symm,?_,?_,by cases oo.dst <;> exact h.df,h.linj,fun p m hm=>Nat.lt_of_lt_of_le (h.llt p m hm) hkp.1⟩
    ·intro j hj
     rcases ls_set.1 hj with hj | ⟨rfl,_⟩
     ·exact bit_or.2 (.inl (h.sub j hj))
     ·exact bit_or.2 (.inr rfl)
    ·intro e k he hk
     rcases ls_set.1 he with he | ⟨rfl,_⟩
     ·exact ls_set.2 (.inl (h.lsb e k he hk))
     ·exact ls_set.2 (.inl (ready_bits hcl h hi hr hk))
    ·intro e j he hj
     rcases bit_or.1 he with he | rfl
     ·exact bit_or.2 (.inl (h.dnb e j he hj))
     ·exact bit_or.2 (.inl (h.sub j (ready_bits hcl h hi hr hj)))
    ·intro j oj hj hoj hqj
     rcases bit_or.1 hj with hj | rfl
     ·exact ls_set.2 (.inl (h.acts j oj hj hoj hqj))
     ·exact ls_set.2 (.inr ⟨rfl,hil⟩)
    ·intro j hj
     rcases h.all j hj with h1 | h1
     ·exact .inl (bit_or.2 (.inl h1))
     ·rcases List.mem_cons.1 h1 with rfl | h1
      ·exact .inl (bit_or.2 (.inr rfl))
      ·exact .inr h1
    ·intro d hd
     rw [<- he1]
     by_cases e:oo.dst = some d
     ·rw [e]
      simp only [putD,Act.put]
      rw [getT_set,getD_set,h.tsz]
      by_cases hlt:d < s.t.length
      ·rw [if_pos ⟨rfl,hlt⟩,if_pos ⟨rfl,hlt⟩];exact hra
      ·rw [if_neg (fun h=>hlt h.2)]
       have:getT s.t d = .undef:=by
        unfold getT
        rw [List.getElem?_eq_none (Nat.le_of_not_lt hlt)]
        rfl
       rw [this]
       trivial
     ·rw [getT_put e,tmps_put e]
      refine hst.keepA _ _ (h.slots d fun p op hp hnl hop=>hd p op (bit_or.2 (.inl hp)) (fun hls=>?_) hop)
      rcases ls_set.1 hls with hls | ⟨rfl,_⟩
      ·exact hnl hls
      ·exact hnk hp
    ·intro p op hp hnl hop
     obtain ⟨hpd,hpl,hpi⟩:=hpend p hp hnl
     obtain ⟨ids,u,t0,o0,h1,h2,h3,h4,h5⟩:=h.prom p op hpd hpl hop
     have hpq:lazyB lz ops op = true:=by
      cases hq2:lazyB lz ops op
      ·exact absurd (h.acts p op hpd hop hq2) hpl
      ·rfl
     refine ⟨ids,u,t0,o0,h1,fun x hx=>?_,h3.trans fun id hid=>?_,h4.mono fun m hm h0=>hst.gr.2 m (h.llt p m hm) h0,fun d hd=>?_⟩
     ·have:oo.dst ≠ some x:=by
       intro hd
       rcases hsl.see i p x oo op hi hop hd (Ne.symm hpi) hx with h6 | ⟨_,h6 | h6⟩
       ·exact hnk (h.dnb p i hpd h6)
       ·rw [hpq] at h6;cases h6
       ·exact hpl (ready_bits hcl h hi hr h6)
      rw [getT_put this]
      exact h2 x hx
     ·rcases hchk (p,ids) h1 with h6 | h6
      ·exact absurd (ready_bits hcl h hi hr h6) hpl
      ·have h7:=h6 id hid
       refine hkp.2 id h7.2 fun hm=>?_
       have:=h7.1
       rw [List.contains_eq_mem] at this
       simp at this
       exact this hm
     ·rw [getT_put (hsl.two p i d op oo hop hi hd hpi)]
      exact h5 d hd
   ·cases hk
theorem sim_do (hE:EnvOK P C.E) (hC:∀ g args bs r,C.call g args bs = some r->Contract P g args bs r) {Q:Exit->Act->World->Prop} (hcl:closedOk ops bs = true) (hsl:Slots lz ops bs) {i:Nat} {oo:Oper} (hi:ops[i]? = some oo) (hr:∀ j ∈ bindsOn oo,Ls listed j) (hl:¬ Ls listed i) {next:Act->World->Prop}
  (hn:∀ late done rest early s' a' w' Im' ρ',Sim lz late P C B ops bs K r done rest early s' (listed.setIfInBounds i true) a' w' Im' ρ'->next a' w'):∀ {rest:List Nat} {late:Nat->Option Nat} {done:Nat} {early:List (Nat × List Nat)} {s:St},Sim lz late P C B ops bs K r done rest early s listed a w Im ρ->wpOp P ops Q i next a w:=by
 intro rest
 induction rest with
 | nil =>
  intro late done early s h
  have hd:done.testBit i = true:=by
   rcases h.all i (Array.getElem?_eq_some_iff.1 hi).1 with h1 | h1
   ·exact h1
   ·simp at h1
  exact sim_pend hcl hsl h hi hr hd hl fun a' w' Im' ρ' h'=>hn _ _ _ _ _ _ _ _ _ h'
 | cons k rest ih =>
  intro late done early s h
  cases hd:done.testBit i
  ·have hline:=h.line
   simp only [lineOk] at hline
   split at hline
   ·rename_i ok hk
    simp only [Bool.and_eq_true,Bool.not_eq_true',List.all_eq_true,Bool.or_eq_true] at hline
    obtain ⟨⟨⟨hnd,hbd⟩,hlate⟩,hline⟩:=hline
    by_cases e:k = i
    ·subst e
     rw [hi] at hk
     injection hk with hk
     subst hk
     cases hq:lazyB lz ops oo
     ·exact sim_act hE hC hcl hsl h hi hr hq fun s' a' w' Im' ρ' h'=>hn _ _ _ _ _ _ _ _ _ h'
     ·obtain ⟨late',early',s',h'⟩:=sim_quiet hE hcl hsl h hi hq
      exact sim_pend hcl hsl h' hi hr (bit_or.2 (.inr rfl)) hl fun a' w' Im' ρ' h2=>hn _ _ _ _ _ _ _ _ _ h2
    ·have him:i ∈ rest:=by
      rcases h.all i (Array.getElem?_eq_some_iff.1 hi).1 with h1 | h1
      ·rw [hd] at h1;cases h1
      ·rcases List.mem_cons.1 h1 with h2 | h2
       ·exact absurd h2.symm e
       ·exact h2
     have hq:lazyB lz ops ok = true:=by
      rcases hlate with h1 | h1
      ·exact h1
      ·have h2:=h.sub k (ready_bits hcl h hi hr (h1 i him))
       rw [hnd] at h2
       cases h2
     obtain ⟨late',early',s',h'⟩:=sim_quiet hE hcl hsl h hk hq
     exact ih h'
   ·cases hline
  ·exact sim_pend hcl hsl h hi hr hd hl fun a' w' Im' ρ' h'=>hn _ _ _ _ _ _ _ _ _ h'
theorem sim_end {Q:Exit->Act->World->Prop} (hQ:∀ s a w,K s = some r->Sta B s a w->Q .normal a w) (h:Sim lz late P C B ops bs K r done rest early s listed a w Im ρ) (hall:∀ i,i < ops.size->Ls listed i):Q .normal a w:=by
 cases rest with
 | nil =>
  have hev:=h.ev
  simp only [evDr] at hev
  refine hQ s a w hev ⟨⟨Im,ρ,h.now,⟨h.tsz,fun d=>h.slots d fun p oo hp hnl hoo=>absurd (hall p (Array.getElem?_eq_some_iff.1 hoo).1) hnl⟩⟩,h.df⟩
 | cons k rest =>
  have hline:=h.line
  simp only [lineOk] at hline
  split at hline
  ·rename_i ok hk
   simp only [Bool.and_eq_true,Bool.not_eq_true'] at hline
   have h2:=h.sub k (hall k (Array.getElem?_eq_some_iff.1 hk).1)
   rw [hline.1.1.1] at h2
   cases h2
  ·cases hline
theorem ready_none (hlt:∀ (i:Nat) (oo:Oper),ops[i]? = some oo->∀ j ∈ bindsOn oo,j < i) (hsz:listed.size = ops.size) (h0:Region.ready .any ops listed = []):∀ i,i < ops.size->Ls listed i:=by
 intro i
 induction i using Nat.strongRecOn with
 | _ i ih =>
  intro hi
  cases hc:listed.getD i false
  ·exfalso
   have hm:i ∈ Region.ready .any ops listed:=by
    refine mem_ready.2 ⟨?_,ops[i],by simp [hi],fun e he hb=>?_⟩
    ·have hl:i < listed.size:=by omega
     simp [hl] at hc ⊢
     exact hc
    ·have hj:e.on ∈ bindsOn ops[i]:=List.mem_filterMap.2 ⟨e,by simpa using he,by simp [hb]⟩
     have h1:=hlt i ops[i] (by simp [hi]) e.on hj
     exact ih e.on h1 (by omega)
   rw [h0] at hm
   cases hm
  ·exact hc
theorem sim_all (hE:EnvOK P C.E) (hC:∀ g args bs r,C.call g args bs = some r->Contract P g args bs r) {Q:Exit->Act->World->Prop} (hQ:∀ s a w,K s = some r->Sta B s a w->Q .normal a w) (hcl:closedOk ops bs = true) (hsl:Slots lz ops bs) (hlt:∀ (i:Nat) (oo:Oper),ops[i]? = some oo->∀ j ∈ bindsOn oo,j < i) :
  ∀ (fuel:Nat) {late:Nat->Option Nat} {rest:List Nat} {done:Nat} {early:List (Nat × List Nat)} {s:St} {listed:Array Bool} {a:Act} {w:World} {Im:Nat->Prop} {ρ:Nat->Option Value},Sim lz late P C B ops bs K r done rest early s listed a w Im ρ->listed.toList.countP (fun b=>!b)<=fuel->wpAny P .any ops Q fuel listed a w
 | 0,late,rest,done,early,s,listed,a,w,Im,ρ,h,hc=>by
  have hall:∀ i,i < ops.size->Ls listed i:=by
   intro i hi
   have h0:listed.toList.countP (fun b=>!b) = 0:=by omega
   rw [List.countP_eq_zero] at h0
   have hl:i < listed.size:=by rw [h.sz];exact hi
   have:=h0 listed[i] (by simp)
   unfold Ls
   simp [hl]
   simpa using this
  refine ⟨?_,sim_end hQ h hall⟩
  rw [List.eq_nil_iff_forall_not_mem]
  intro i hm
  obtain ⟨h1,oo,h2,_⟩:=mem_ready.1 hm
  have hi:=(Array.getElem?_eq_some_iff.1 h2).1
  have hl:i < listed.size:=by rw [h.sz];exact hi
  have h3:=hall i hi
  unfold Ls at h3
  simp [hl] at h1 h3
  rw [h1] at h3
  cases h3
 | fuel + 1,late,rest,done,early,s,listed,a,w,Im,ρ,h,hc=>by
  refine ⟨fun h0=>sim_end hQ h (ready_none hlt h.sz h0),fun i hm=>?_⟩
  obtain ⟨h1,oo,hi,h2⟩:=mem_ready.1 hm
  have hsz:=(Array.getElem?_eq_some_iff.1 hi).1
  have hl:i < listed.size:=by rw [h.sz];exact hsz
  have hnl:¬ Ls listed i:=by
   unfold Ls
   simp [hl] at h1 ⊢
   exact h1
  refine sim_do hE hC hcl hsl hi (binds_ready h2) hnl (fun late done rest early s' a' w' Im' ρ' h'=>sim_all hE hC hQ hcl hsl hlt fuel h' ?_) h
  have hf:listed[i] = false:=by simpa [hl] using h1
  have hf2:listed.toList[i]'(by simpa using hl) = false:=by simpa using hf
  have hpos:0 < listed.toList.countP (fun b=>!b):=List.countP_pos_iff.2 ⟨false,by rw [<- hf2];exact List.getElem_mem _,rfl⟩
  rw [Array.toList_setIfInBounds,List.countP_set (by simpa using hl),hf2]
  generalize listed.toList.countP (fun b=>!b) = c at hc hpos ⊢
  simp only [Bool.not_false,if_true,Bool.not_true,Bool.false_eq_true,if_false]
  omega
end
theorem evDrawAt_sound (hE:EnvOK P C.E) (hC:∀ g args bs r,C.call g args bs = some r->Contract P g args bs r) {id:Nat} {ops:Array Oper} {Q:Exit->Act->World->Prop} {K:St->R} (hQ:∀ s a w,K s = some r->Sta B s a w->Q .normal a w)
  {s:St} {other:Unit->R} (ho:other () = some r->(Code.region id ops true).wp P Q a w) (h:evDrawAt lz C ops s K other = some r) (hs:Sta B s a w):(Code.region id ops true).wp P Q a w:=by
 unfold evDrawAt at h
 split at h
 ·rename_i hok
  simp only [drawOk,Bool.and_eq_true] at hok
  obtain ⟨⟨⟨⟨hcl,hsl⟩,hline⟩,hall⟩,hlt⟩:=hok
  obtain ⟨⟨Im,ρ,hn,ht⟩,hd⟩:=hs
  have hstep:Step w Im ρ s.o { w with drawn:=w.drawn + 1 } Im ρ s.o:=by
   have hsr:=hn.sr
   have hc:Compat ρ ρ s.o s.o:=fun id a ha=>⟨a,ha,by cases a <;> simp [CompatO]⟩
   have him:∀ b,Im b->Im b /\ ({ w with drawn:=w.drawn + 1 }:World).heap[b]? = w.heap[b]?:=fun b hb=>⟨hb,rfl⟩
   exact ⟨⟨rfl,rfl,rfl,Nat.le_refl _⟩,⟨fun id x v hx hv=>RO.keep him hc (fun _ _=>rfl) (fun _ _ h=>h) (hsr.ob id x v hx hv),hsr.inj,hsr.lt,hsr.im,hsr.dd⟩,fun c x hx=>RC.compat him hc hx,fun _ _ _=>rfl,fun id v b h1 h2=>.inr ⟨id,v,h1,h2⟩,him,fun b hb=>.inl hb,fun h=>h,Grown.refl⟩
  have hnl:∀ i,¬ Ls (Array.replicate ops.size false) i:=by
   intro i hi
   unfold Ls at hi
   simp only [Array.getD_eq_getD_getElem?,Array.getElem?_replicate] at hi
   split at hi <;> simp at hi
  refine wp_region_any hE.mixed (sim_all hE hC hQ hcl (slots_of hsl) (fun i oo hi j hj=>?_) ops.size (Im:=Im) (ρ:=ρ) (late:=fun _=>none) (done:=0) (early:=[]) ⟨h,hline,by simp,fun i hi=>absurd hi (hnl i),fun e k he _=>absurd he (hnl e),fun e k he _=>by simp at he,fun i oo hi=>by simp at hi,fun i hi=>?_,hn.step hstep,ht.size,
   fun d _=>hstep.keepA _ _ (ht.at_ d),fun p oo hp=>by simp at hp,hd,fun p q n hp=>by simp at hp,fun p n hp=>by simp at hp⟩ ?_)
  ·have:=all_zip hlt hi
   simp only [List.all_eq_true,decide_eq_true_eq] at this
   exact this j hj
  ·rw [List.all_eq_true] at hall
   have:=hall i (List.mem_range.2 hi)
   rw [List.contains_eq_mem] at this
   exact .inr (by simpa using this)
  ·exact Nat.le_trans List.countP_le_length (by simp)
 ·exact ho h
theorem evDraw_sound (hE:EnvOK P C.E) (hC:∀ g args bs r,C.call g args bs = some r->Contract P g args bs r) {id:Nat} {ops:Array Oper} {Q:Exit->Act->World->Prop} {K:St->R} (hQ:∀ s a w,K s = some r->Sta B s a w->Q .normal a w)
  {s:St} (h:evDraw C ops s K = some r) (hs:Sta B s a w):(Code.region id ops true).wp P Q a w :=
 evDrawAt_sound hE hC hQ (fun h=>evDrawAt_sound hE hC hQ (fun h=>by cases h) h hs) h hs
end
end Go.Dp
/- Code and functions. -/
set_option linter.unusedVariables false
set_option linter.unusedSimpArgs false
namespace Go.Dp
section
variable {P:Program} {E:Env} {w w':World} {Im Im':Nat->Prop} {ρ ρ':Nat->Option Value} {o o':List AObj} {r:List SV × List (List CV)} {t:List AV} {a:Act} {B:Base} {C:Ctx} {L:List Nat}
def AExit.ex:AExit->Exit
 | .normal=>.normal
 | .exit n=>.exit n
 | .ret=>.ret
def LoopAt (P:Program) (c:Code) (Q:Exit->Act->World->Prop) (a:Act) (w:World):Prop :=
 ∀ (b:Frame) (k:List Item) (cs:List Frame),∃ e a' w',Q e a' w' /\ Arrives P (lone (b.at a (.code c :: .inLoop c :: k)) cs w) b k cs e a' w'
theorem LoopAt.wp {c:Code} {Q:Exit->Act->World->Prop} (h:LoopAt P c Q a w):(Code.loop c).wp P Q a w:=by
 intro b k cs
 obtain ⟨e,a',w',hq,harr⟩:=h b k cs
 exact ⟨e,a',w',hq,.of_steps (.one step_loop) harr⟩
theorem LoopAt.round {c:Code} {Q:Exit->Act->World->Prop} (h:c.wp P (Exit.then (fun a w=>LoopAt P c Q a w) Q) a w):LoopAt P c Q a w:=by
 intro b k cs
 obtain ⟨e,a₁,w₁,hq,harr⟩:=h b (.inLoop c :: k) cs
 cases e with
 | normal =>
  obtain ⟨e₂,a₂,w₂,hq₂,harr₂⟩:=hq b k cs
  exact ⟨e₂,a₂,w₂,hq₂,.of_steps (Steps.trans harr (.one step_inLoop)) harr₂⟩
 | exit id=>exact ⟨_,a₁,w₁,hq,.pass (x:=.inLoop c) rfl (fun _ _=>.inl (by simp)) harr⟩
 | goto l=>exact ⟨_,a₁,w₁,hq,.pass (x:=.inLoop c) rfl (fun _ _=>.inl (by simp)) harr⟩
 | ret=>exact ⟨_,a₁,w₁,hq,.pass (x:=.inLoop c) rfl (fun _ _=>.inl (by simp)) harr⟩
 | panic ch=>exact ⟨_,a₁,w₁,hq,.pass (x:=.inLoop c) rfl (fun _ _=>.inl (by simp)) harr⟩
 | outgrown=>exact ⟨_,a₁,w₁,hq,.pass (x:=.inLoop c) rfl (fun _ _=>.inl (by simp)) harr⟩
theorem evCode_sound (hE:EnvOK P C.E) (hC:∀ g args bs r,C.call g args bs = some r->Contract P g args bs r) (hm:C.m = B.bl.length) (c:Code):∀ {cur:Nat} {s:St} {a:Act} {w:World} {K:Kc} {Q:Exit->Act->World->Prop},
  (∀ e s a w,K e s = some r->Sta B s a w->Q e.ex a w)->evCode C c cur s K = some r->Sta B s a w->c.wp P Q a w:=by
 induction c with
 | skip=>intro cur s a w K Q hQ h hs;exact wp_skip (hQ .normal s a w h hs)
 | label l=>intro cur s a w K Q hQ h hs;exact wp_label (hQ .normal s a w h hs)
 | exit id=>intro cur s a w K Q hQ h hs;exact wp_exit (hQ (.exit id) s a w h hs)
 | goto l=>intro cur s a w K Q hQ h hs;simp [evCode] at h
 | refuse=>intro cur s a w K Q hQ h hs;simp [evCode] at h
 | scope b _=>intro cur s a w K Q hQ h hs;simp [evCode] at h
 | rangeFunc f ps x y _ _=>intro cur s a w K Q hQ h hs;simp [evCode] at h
 | region id ops draw =>
  intro cur s a w K Q hQ h hs
  simp only [evCode] at h
  split at h
  ·cases draw with
   | false=>exact wp_region (evOps_sound hE hC (fun s a w hk hs=>hQ .normal s a w hk hs) h hs)
   | true=>exact evDraw_sound hE hC (fun s a w hk hs=>hQ .normal s a w hk hs) h hs
  ·rename_i live _
   have hs':Sta B (head C.m live (C.E.own C.self (1000000 + id)) s) a w:=by rw [hm];exact hs.head _ _
   cases hn:C.n with
   | zero=>rw [hn] at h;cases h
   | succ n =>
    rw [hn] at h
    simp only [cutK] at h
    cases draw with
    | false=>exact wp_region (evOps_sound hE hC (fun s a w hk hs=>hQ .normal s a w hk hs) h hs')
    | true=>exact evDraw_sound hE hC (fun s a w hk hs=>hQ .normal s a w hk hs) h hs'
 | seq x y ihx ihy =>
  intro cur s a w K Q hQ h hs
  refine wp_seq (ihx (K:=seqK (fun s=>evCode C y cur s K) K) ?_ h hs)
  intro e s a w hk hs
  cases e with
  | normal=>exact ihy hQ hk hs
  | exit n=>exact hQ (.exit n) s a w hk hs
  | ret=>exact hQ .ret s a w hk hs
 | cond c x y ihx ihy =>
  intro cur s a w K Q hQ h hs
  obtain ⟨b,hb,h⟩:=branch_some h
  obtain ⟨⟨Im,ρ,hn,ht⟩,hd⟩:=hs
  have hc:=aval_sound ht c
  rw [hb] at hc
  have hv:a.eval c = .bool b:=RA.bool (a:=.p (.bool b)) rfl hc
  refine wp_cond hv ?_
  cases b
  ·exact ihy hQ h ⟨⟨Im,ρ,hn,ht⟩,hd⟩
  ·exact ihx hQ h ⟨⟨Im,ρ,hn,ht⟩,hd⟩
 | block id c ih =>
  intro cur s a w K Q hQ h hs
  refine wp_block (ih (K:=blockK id K) ?_ h hs)
  intro e s a w hk hs
  cases e with
  | normal=>exact hQ .normal s a w hk hs
  | ret=>exact hQ .ret s a w hk hs
  | exit n =>
   simp only [AExit.ex,Exit.inBlock]
   simp only [blockK] at hk
   by_cases e:n = id
   ·subst e
    rw [if_pos rfl]
    simp only [beq_self_eq_true,cond_true] at hk
    exact hQ .normal s a w hk hs
   ·rw [if_neg e]
    have:(n == id) = false:=by simpa using e
    rw [this] at hk
    exact hQ (.exit n) s a w hk hs
 | loop c ih =>
  intro cur s a w K Q hQ h hs
  refine LoopAt.wp ?_
  simp only [evCode] at h
  have key:∀ (n:Nat) (s:St) (a:Act) (w:World),evLoop C cur (fun s K=>evCode C c cur s K) K n s = some r->Sta B s a w->LoopAt P c Q a w:=by
   intro n
   induction n with
   | zero=>intro s a w h hs;simp [evLoop] at h
   | succ n ihn =>
    intro s a w h hs
    refine LoopAt.round (ih (K:=fun e s'=>match e with | .normal=>evLoop C cur (fun s K=>evCode C c cur s K) K n (head C.m (C.E.live C.self cur) (C.E.own C.self cur) s') | e=>K e s') ?_ h hs)
    intro e s a w hk hs
    cases e with
    | normal=>exact ihn _ a w hk (by rw [hm];exact hs.head _ _)
    | exit m=>exact hQ (.exit m) s a w hk hs
    | ret=>exact hQ .ret s a w hk hs
  exact key C.n _ a w h (by rw [hm];exact hs.head _ _)
 | ret=>intro cur s a w K Q hQ h hs;exact wp_ret (hQ .ret s a w h hs)
def resOne (a:Act):ResultVar->Sem Value
 | .tmp t=>pure (a.tmps.getD t undef)
 | .cell b T=>do loadVar T (<- asAddr (a.tmps.getD b undef))
theorem run_cons {α β:Type} (f:α->Sem β) (x:α) (l:List α) {y:β} {ys:List β} (h1:(f x).run P w = .ok y w) (h2:(l.mapM f).run P w = .ok ys w):((x :: l).mapM f).run P w = .ok (y :: ys) w:=by
 simp [List.mapM_cons,h1,h2]
theorem load_addr {T:TypeId} {x y:Value} (h:(Instr.loadAt T x).run P w = .ok y w):(do loadVar T (<- asAddr x)).run P w = .ok y w:=by
 unfold Instr.loadAt at h
 cases x with
 | pointer p =>
  cases p with
  | some ad=>simpa [Instr.sureAddr,asAddr] using h
  | none=>simp [Instr.sureAddr,Result.andThen] at h
 | _=>simp [Instr.sureAddr,Result.andThen] at h
theorem resIn_sound (hE:EnvOK P E) (hs:SR w Im ρ o) (ht:TR w Im ρ o t a):∀ {rs:List ResultVar} {K:List SV->R},resIn E ⟨t,o⟩ rs K = some r ->
  ∃ vs ys,K vs = some r /\ ys.length = vs.length /\ (∀ (i:Nat) (v:SV) (y:Value),vs[i]? = some v->ys[i]? = some y->RS w Im ρ o v y) /\ (rs.mapM (resOne a)).run P w = .ok ys w
 | [],K,h=>⟨[],[],h,rfl,fun i v y h=>by simp at h,rfl⟩
 | .tmp i :: rs,K,h=>by
  obtain ⟨v,hv,h⟩:=bind_some h
  obtain ⟨vs,ys,hk,h1,h3,h4⟩:=resIn_sound hE hs ht h
  have hi:=ht.at_ i
  have hv':getT t i = .s v:=sv_some hv
  rw [hv'] at hi
  refine ⟨v :: vs,a.tmps.getD i undef :: ys,hk,by simp [h1],fun j u y hu hy=>?_,run_cons _ _ _ rfl h4⟩
  cases j with
  | zero =>
   rw [List.getElem?_cons_zero] at hu hy
   injection hu with hu
   injection hy with hy
   subst hu
   subst hy
   exact hi
  | succ j=>exact h3 j u y (by simpa using hu) (by simpa using hy)
 | .cell b T :: rs,K,h=>by
  simp only [resIn] at h
  obtain ⟨v,y,h,hr,hra⟩:=opLoad_sound (P:=P) hE hs (ht.at_ b) h
  obtain ⟨v',hv,h⟩:=bind_some h
  obtain ⟨vs,ys,hk,h1,h3,h4⟩:=resIn_sound hE hs ht h
  rw [sv_some hv] at hra
  refine ⟨v' :: vs,y :: ys,hk,by simp [h1],fun j u y' hu hy=>?_,run_cons _ _ _ (load_addr hr) h4⟩
  cases j with
  | zero=>simp at hu hy;subst hu;subst hy;exact hra
  | succ j=>exact h3 j u y' (by simpa using hu) (by simpa using hy)
theorem run_results {fn:Func} {ys:List Value} (h:(fn.results.toList.mapM (resOne a)).run P w = .ok ys w):(results fn a.tmps).run P w = .ok (packV ys) w:=by
 have e:results fn a.tmps = (do let vs <- fn.results.mapM (resOne a);pure (if h:vs.size = 1 then vs[0] else .tuple vs)):=by
  rfl
 rw [e,Array.mapM_eq_mapM_toList]
 rcases ys with _ | ⟨y,_ | ⟨y2,ys⟩⟩ <;> simp [h,packV]
theorem Inn.keepA {A:Nat->Prop} (h:Inn w Im ρ o ρ' o' A) {v:AV} {x:Value} (hv:RA w Im ρ o v x):RA w Im ρ' o' v x:=by
 have hS:∀ (v:SV) (x:Value),RS w Im ρ o v x->RS w Im ρ' o' v x:=by
  intro v x hv
  cases v with
  | c c=>exact h.keep c x hv
  | agg cs=>obtain ⟨vs,rfl,h1,h2,h3⟩:=hv;exact ⟨vs,rfl,h1,fun i c y hc hy=>h.keep c y (h2 i c y hc hy),h3⟩
 cases v with
 | s v=>exact hS v x hv
 | tup ts=>obtain ⟨vs,rfl,h1,h2⟩:=hv;exact ⟨vs,rfl,h1,fun i c y hc hy=>hS c y (h2 i c y hc hy)⟩
theorem blanks_get {n j:Nat}:(blanks n)[j]? = if j < n then some (.box []) else none:=by
 unfold blanks
 rw [List.getElem?_replicate]
theorem inAs_sound {A:Nat->Prop}:∀ {args:List AV} {ys gs:List Value} {o:List AObj} {ρ:Nat->Option Value} {K:List AV->List AObj->R},SR w Im ρ o->OwnG args ys gs->(∀ (i:Nat) (a:AV) (y:Value),args[i]? = some a->ys[i]? = some y->isOwnA a = false->RA w Im ρ o a y) ->
  Toks w Im (ownC args) gs (Ow ρ)->(∀ i b,OB (ownC args) gs i b->A b)->inAs args o K = some r ->
  ∃ as o1 ρ1,K as o1 = some r /\ SR w Im ρ1 o1 /\ Inn w Im ρ o ρ1 o1 A /\ as.length = args.length /\ ∀ (i:Nat) (a:AV) (y:Value),as[i]? = some a->ys[i]? = some y->RA w Im ρ1 o1 a y:=by
 intro args ys gs o ρ K hs hg
 induction hg generalizing o ρ K with
 | nil =>
  intro hr hT hA h
  exact ⟨[],o,ρ,by simpa [inAs] using h,hs,Inn.refl,rfl,fun i a y ha=>by simp at ha⟩
 | @own e sh xs g as ys gs hg ih =>
  intro hr hT hA h
  simp only [inAs] at h
  simp only [ownC] at hT hA
  have hnew:∀ b,Blk g b->OB (.own e sh xs :: ownC as) (g :: gs) 0 b:=fun b hb=>⟨_,_,_,g,rfl,rfl,hb⟩
  have htok:OwnRow w Im e sh xs g:=hT.tok 0 _ g rfl rfl
  obtain ⟨h1,h2,h3⟩:=adopt (hs.x fun _=>False) htok (fun b hb=>hT.out 0 b (hnew b hb))
  have htl:Toks w Im (ownC as) gs (Ow ρ):=Toks.right (cs:=[.own e sh xs]) (ys:=[g]) rfl hT
  obtain ⟨as',o1,ρ1,hk,hs1,hin,hl,hra⟩:=ih (h1.sr fun _ h=>h) (fun i a y ha hy hn=>h2.keepA (hr (i + 1) a y (by simpa using ha) (by simpa using hy) hn))
   (htl.keep him_refl fun i b hob=>⟨rfl,(htl.lt hob).2,fun hO=>by
    rcases h2.own b hO with h4 | h4
    ·exact htl.out i b hob h4
    ·have:=hT.dis _ _ b (hnew b h4) (OB.right (cs:=[.own e sh xs]) (ys:=[g]) rfl hob)
     simp at this
     omega⟩)
   (fun i b hob=>hA _ b (OB.right (cs:=[.own e sh xs]) (ys:=[g]) rfl hob)) h
  refine ⟨_,o1,ρ1,hk,hs1,(h2.mono fun b hb=>hA 0 b (hnew b hb)).trans hin,by simp [hl],fun i a y ha hy=>?_⟩
  cases i with
  | zero =>
   simp at ha hy
   subst ha
   subst hy
   exact hin.keep _ _ h3
  | succ i=>exact hra i a y (by simpa using ha) (by simpa using hy)
 | @no a y as ys gs hn hg ih =>
  intro hr hT hA h
  rw [ownC_no hn] at hT hA
  have h':inAs as o (fun bs o1=>K (a :: bs) o1) = some r:=by
   simp only [inAs] at h
   split at h
   ·simp [isOwnA] at hn
   ·exact h
  obtain ⟨as',o1,ρ1,hk,hs1,hin,hl,hra⟩:=ih hs (fun i b z hb hz hn=>hr (i + 1) b z (by simpa using hb) (by simpa using hz) hn) hT hA h'
  refine ⟨_,o1,ρ1,hk,hs1,hin,by simp [hl],fun i b z hb hz=>?_⟩
  cases i with
  | zero =>
   simp at hb hz
   subst hb
   subst hz
   exact hin.keepA (hr 0 _ _ rfl rfl hn)
  | succ i=>exact hra i b z (by simpa using hb) (by simpa using hz)
theorem lensB_eq {bs:List (List CV)} {ks:List (List Kind)} (h:lensB bs ks = true):bs.map List.length = ks.map List.length:=by simpa [lensB] using h
theorem evBody_sound (hE : EnvOK P E) {Pf : FuncId → Option Func} (hP : ∀ f fn, Pf f = some fn → P.funcs[f]? = some fn ∧ fn.name ≠ "runtime.NumGoroutine") {call : FuncId → List AV → List (List CV) → R} (hC : ∀ g args bs r, call g args bs = some r → Contract P g args bs r)
  {n:Nat} {f:FuncId} {args:List AV} {bs:List (List CV)} (h:evBody Pf E call n f args bs = some r):Contract P f args bs r:=by
 unfold evBody at h
 split at h
 ·rename_i fn hfn
  split at h
  ·rename_i c hc
   obtain ⟨hf,hname⟩:=hP f fn hfn
   refine ⟨⟨fn,hf,by simp [hc],hname⟩,?_⟩
   intro w Im bl vss ys gs pre
   obtain ⟨hlen,h⟩:=bif_some h
   have hlen:=lensB_eq hlen
   have hkl:bs.length = (kindsOf (E.bk (keyOf f args)) (bs.map List.length)).length:=by have:=congrArg List.length hlen;simpa using this
   have hbase:List.replicate bs.length (.box []) = blanks bl.length:=by rw [pre.l1];rfl
   rw [hbase] at h
   have hOw:∀ b,Ow (Ptrs bl) b->b ∈ bl:=by
    rintro b ⟨j,v,hv,hb⟩
    obtain ⟨b',hj,rfl⟩:=Option.map_eq_some_iff.1 hv
    simp at hb
    subst hb
    exact List.mem_of_getElem? hj
   have hsx:SRx w Im (Ptrs bl) (blanks bl.length) (· ∈ List.range bs.length):=by
    refine ⟨?_,?_,?_,pre.im,?_⟩
    ·intro id x v hid hx hv
     rw [blanks_get] at hx
     split at hx
     ·rename_i hlt;exact absurd (List.mem_range.2 (by rw [<- pre.l1];exact hlt)) hid
     ·cases hx
    ·intro i j v v' b hv hv' hb hb'
     obtain ⟨b1,hi,rfl⟩:=Option.map_eq_some_iff.1 hv
     obtain ⟨b2,hj,rfl⟩:=Option.map_eq_some_iff.1 hv'
     simp at hb hb'
     subst hb
     subst hb'
     exact pre.nd i j _ hi hj
    ·intro i v hv
     obtain ⟨b1,hi,rfl⟩:=Option.map_eq_some_iff.1 hv
     have hlt:=(List.getElem?_eq_some_iff.1 hi).1
     refine ⟨by simpa [blanks] using hlt,fun b hb=>?_⟩
     simp at hb
     subst hb
     have hl2:vss.length = bs.length:=by have:=congrArg List.length pre.l2;simpa using this
     have hv2:i < vss.length:=by rw [hl2,<- pre.l1];exact hlt
     obtain ⟨⟨⟨e,he⟩,_⟩,_⟩:=pre.box i b1 vss[i] hi (by simp [hv2])
     exact (Array.getElem?_eq_some_iff.1 he).1
    ·intro i hd
     rw [blanks_get] at hd
     split at hd <;> simp at hd
   obtain ⟨o0,ρ0,h,hs0,hin0,hT0⟩:=inBs_sound (A:=OBs (bs.flatten ++ ownC args) (vss.flatten ++ gs)) (bsr:=bs) (vss:=vss) (cs:=ownC args) (ys:=gs) hsx hlen (pre.l2.trans hlen) (by simpa using hkl) (fun t _=>by rw [Nat.zero_add])
    (fun t i vs hi hv=>by
     have hi':=List.getElem?_eq_some_iff.1 hi
     obtain ⟨hlt,rfl⟩:=hi'
     simp only [List.length_range] at hlt
     simp only [List.getElem_range]
     have hb:t < bl.length:=by rw [pre.l1];exact hlt
     exact ⟨bl[t],[],by rw [blanks_get,if_pos hb],by simp [Ptrs,hb],pre.box t bl[t] vs (by simp [hb]) hv⟩)
    (pre.tok.mono hOw) (fun i b hob=>⟨i,hob⟩) h
   obtain ⟨args',o1,ρ1,h,hs1,hinA,hal,hargs⟩:=inAs_sound (A:=OBs (bs.flatten ++ ownC args) (vss.flatten ++ gs)) hs0 pre.og (fun i a y ha hy hn=>hin0.keepA (pre.arg i a y ha hy hn)) hT0 (fun i b hob=>⟨_,OB.right (len_flatten pre.l2) hob⟩) h
   have hin:=hin0.trans hinA
   have hl3:ys.length = args'.length:=by rw [hal];exact pre.og.len.1
   let B:Base:=⟨w,Im,DD bl (bs.flatten ++ ownC args) (vss.flatten ++ gs),bl⟩
   have hnow:Now B w Im ρ1 o1:=by
    refine ⟨Wd.refl w,hs1,fun _ _ _=>rfl,fun b hb=>?_,fun b hb=>⟨hb,rfl⟩,fun b hb=>.inl hb,fun j b hj=>?_⟩
    ·rcases hin.own b hb with h1 | h1
     ·exact .inr (.inl (hOw b h1))
     ·exact .inr (.inr h1)
    ·refine hin.keep (.bptr j 0) _ ?_
     have hlt:j < bl.length:=(List.getElem?_eq_some_iff.1 hj).1
     have hb:(blanks bl.length)[j]? = some (.box []):=by rw [blanks_get,if_pos hlt]
     simp only [RC,RB,hb]
     exact ⟨b,by simp only [Ptrs];rw [show bl[j]? = some b from hj];rfl,rfl⟩
   have hsta:Sta B ⟨args' ++ List.replicate (fn.ntmps - args'.length) .undef,o1⟩ { tmps:=ys.toArray ++ Array.replicate (fn.ntmps - ys.toArray.size) undef,defers:=[] } w:=by
    refine ⟨⟨Im,ρ1,hnow,⟨by simp [hl3],fun i=>?_⟩⟩,rfl⟩
    rcases Nat.lt_or_ge i args'.length with hi | hi
    ·have h1:getT (args' ++ List.replicate (fn.ntmps - args'.length) .undef) i = args'[i]:=by simp [getT,List.getElem?_append_left hi,hi]
     have hiy:i < ys.length:=by rw [hl3];exact hi
     have h2:(ys.toArray ++ Array.replicate (fn.ntmps - ys.toArray.size) undef).getD i undef = ys[i]:=by
      rw [Array.getD_eq_getD_getElem?,Array.getElem?_append_left (by simpa using hiy)]
      simp [hiy]
     show RA w Im ρ1 o1 (getT (args' ++ List.replicate (fn.ntmps - args'.length) .undef) i) ((ys.toArray ++ Array.replicate (fn.ntmps - ys.toArray.size) undef).getD i undef)
     rw [h1,h2]
     exact hargs i args'[i] ys[i] (by simp [hi]) (by simp [hiy])
    ·have h1:getT (args' ++ List.replicate (fn.ntmps - args'.length) .undef) i = .undef:=by
      simp only [getT,List.getElem?_append_right hi,List.getElem?_replicate]
      split <;> rfl
     show RA w Im ρ1 o1 (getT (args' ++ List.replicate (fn.ntmps - args'.length) .undef) i) _
     rw [h1]
     trivial
   refine calls_of_wp hf hc (evCode_sound (B:=B) hE hC pre.l1.symm c ?_ h hsta)
   intro e s a w' hk hs
   have fin:resIn E s fn.results.toList (fun rs=>outBs (kindsOf (E.bk (keyOf f args)) (bs.map List.length)) (List.range bs.length) s.o fun bs' o1=>outSs (E.rk f) rs o1 fun rs' _=>some (rs',bs')) = some r ->
     a.defers = [] /\ ∃ v,(results fn a.tmps).run P w' = .ok v w' /\ ∃ v' Im' vss' zs,Ending.returned v = .returned v' /\ Post w Im bl (bs.flatten ++ ownC args) (vss.flatten ++ gs) r v' w' Im' vss' zs:=by
    intro hk
    obtain ⟨⟨Im1,ρ2,hn,ht⟩,hd⟩:=hs
    obtain ⟨rs,ysr,hk,hrl,hrr,hrun⟩:=resIn_sound hE hn.sr ht hk
    refine ⟨hd,packV ysr,run_results hrun,?_⟩
    have hbj:∀ j,j < bl.length->∃ b,bl[j]? = some b /\ RB ρ2 s.o j 0 (.pointer (some ⟨b,0,none⟩)):=fun j hj=>⟨bl[j],by simp [hj],hn.hd j bl[j] (by simp [B,hj])⟩
    obtain ⟨dss,o2,Im2,ρ3,vss',hk,hst2,hbx2,hl1,hl2,hl3,hT2,hO2,hbox2⟩:=outBs_sound hn.sr Toks.nil (fun id hid c0 ho=>by
     obtain ⟨b,_,hb⟩:=hbj id (by rw [pre.l1];simpa using hid)
     simp only [RB,ho] at hb
     obtain ⟨b',hb',_⟩:=hb
     exact ⟨b',hb'⟩) hk
    obtain ⟨ds,o3,Im3,ρ4,zs,hk,hst3,hbx3,hret,hlk,hT3,hO3⟩:=outSs_sound hst2.sr hT2 hrl (fun i c y hc hy=>hst2.keepS _ _ (hrr i c y hc hy)) hk
    simp only [List.nil_append] at hT2 hO2 hT3 hO3
    have hrr:r = (ds,dss):=by simpa using hk.symm
    subst hrr
    have hst:=hst2.trans hst3
    have hbx:=hbx2.trans hbx3
    have hn3:=hn.step hst
    have hdl:dss.length = bl.length:=by rw [hl1,pre.l1];simp
    have hbb:∀ (j b:Nat),bl[j]? = some b->∃ vs ds0,BoxAt w' b vs /\ vss'[j]? = some vs /\ dss[j]? = some ds0 /\ ds0.length = vs.length /\ ρ4 j = some (.pointer (some ⟨b,0,none⟩)) /\ ¬ Im3 b:=by
     intro j b hj
     have hlt:j < bs.length:=by rw [<- pre.l1];exact (List.getElem?_eq_some_iff.1 hj).1
     obtain ⟨b',vs,ds0,c0,h1,h2,h3,h4,h5,h6⟩:=hbox2 j j (List.getElem?_range hlt)
     have h7:=hn.hd j b hj
     simp only [RB,h6] at h7
     obtain ⟨b2,h8,h9⟩:=h7
     obtain rfl:b = b2:=by simpa using h9
     rw [h1] at h8
     obtain rfl:b' = b:=by simpa using h8
     have h10:=(hbx j c0).1 h6
     have h11:=h10.2.trans h1
     obtain ⟨b3,_,_,h12,_,_,_,_,hI⟩:=hst.sr.ob j _ _ h10.1 h11
     obtain rfl:b' = b3:=by simpa using h12
     exact ⟨vs,ds0,h2,h3,h4,h5,h11,hI⟩
    refine ⟨packV ysr,Im3,vss',zs,rfl,⟨hn3.wd,hn3.fr,hn3.im,fun b hb=>⟨hn3.imn b hb,hst.sr.im b hb⟩,hdl,?_,?_,?_,?_,⟨ysr,hret,rfl⟩⟩⟩
    ·apply List.ext_getElem?
     intro j
     rw [List.getElem?_map,List.getElem?_map]
     rcases Nat.lt_or_ge j bl.length with hj | hj
     ·obtain ⟨vs,ds0,_,h3,h4,h5,_⟩:=hbb j bl[j] (by simp [hj])
      rw [h3,h4]
      simp [h5]
     ·rw [List.getElem?_eq_none (by rw [hl2,List.length_range,<- pre.l1];exact hj),List.getElem?_eq_none (by show dss.length<=j;omega)]
      rfl
    ·intro j b vs hj hv
     obtain ⟨vs2,ds0,h2,h3,_,_,_,hI⟩:=hbb j b hj
     rw [hv] at h3
     injection h3 with h3
     subst h3
     exact ⟨h2,hI⟩
    ·refine hT3.mono fun b hb=>?_
     obtain ⟨j,hj⟩:=List.getElem?_of_mem hb
     obtain ⟨_,_,_,_,_,_,h6,_⟩:=hbb j b hj
     exact ⟨j,_,h6,rfl⟩
    ·intro b hb
     have hob:Ow ρ2 b:=by
      rcases hO3 b hb with h1 | h1
      ·rcases hO2 b h1 with ⟨i,_,_,_,_,h2,_⟩ | h2
       ·simp at h2
       ·exact h2
      ·exact hst2.own b h1
     exact hn.ow b hob
   cases e with
   | exit m=>simp [endK] at hk
   | normal=>exact fin (by simpa [endK] using hk)
   | ret=>exact fin (by simpa [endK] using hk)
  ·cases h
 ·cases h
end
end Go.Dp
/- The program's functions,all together;from what the evaluator says of a law to its walk. -/
set_option linter.unusedVariables false
set_option linter.unusedSimpArgs false
namespace Go.Dp
section
variable {P:Program} {E:Env} {w w':World} {Im Im':Nat->Prop} {ρ ρ':Nat->Option Value} {o o':List AObj} {r:List SV × List (List CV)}
def PfOK (P : Program) (Pf : FuncId → Option Func) : Prop := ∀ f fn, Pf f = some fn → P.funcs[f]? = some fn ∧ fn.name ≠ "runtime.NumGoroutine"
theorem evF_sound (hE:EnvOK P E) {Pf:FuncId->Option Func} (hP:PfOK P Pf) {T:FuncId->List AV->List (List CV)->R} (hT:∀ f args bs r,T f args bs = some r->Contract P f args bs r) :
  ∀ (k:Nat) {f:FuncId} {args:List AV} {bs:List (List CV)} {r:List SV × List (List CV)},evF Pf E T k f args bs = some r->Contract P f args bs r
 | 0,f,args,bs,r,h=>by simp [evF] at h
 | k + 1,f,args,bs,r,h=>by
  simp only [evF] at h
  split at h
  ·rename_i r' hr
   injection h with h
   subst h
   exact hT _ _ _ _ hr
  ·exact evBody_sound hE hP (fun g args bs r hg=>evF_sound hE hP hT k hg) h
theorem Contract.calls {f:FuncId} {args:List PV} {v:PV} (h:Contract P f (args.map .p) [] ([.c (.p v)],[])) (w:World) (Im:Nat->Prop) (him:∀ b,Im b->b < w.heap.size) (ys:List Value) (hl:ys.length = args.length)
  (hr:∀ (i:Nat) (a:PV) (y:Value),args[i]? = some a->ys[i]? = some y->RP w Im a y):Calls P f ys.toArray w fun e w'=>∃ y Im',e = .returned y /\ RP w' Im' v y /\ Wd w w' /\ ∀ b,b < w.heap.size->w'.heap[b]? = w.heap[b]?:=by
 have hno:∀ a ∈ args.map (fun v=>(.p v:AV)),isOwnA a = false:=by
  intro a ha
  obtain ⟨v,_,rfl⟩:=List.mem_map.1 ha
  rfl
 obtain ⟨hog,hoc⟩:=OwnG.none (ys:=ys) (by simpa using hl) hno
 refine Calls.mono (h.2 w Im [] [] ys [] ⟨him,by simp,rfl,rfl,by simp,by rw [hoc];exact Toks.nil,hog,?_⟩) ?_
 ·intro i a y ha hy _
  simp only [List.getElem?_map,Option.map_eq_some_iff] at ha
  obtain ⟨a',ha',rfl⟩:=ha
  exact hr i a' y ha' hy
 ·rw [hoc]
  rintro e w' ⟨y,Im',vss',zs,rfl,post⟩
  obtain ⟨y0,hret,rfl⟩:=post.ret
  cases hret with
  | @cons _ y1 _ _ _ _ h0 hrest =>
   cases hrest
   simp only [RetS] at h0
   obtain ⟨g,rfl,hg⟩:=h0
   have hgr:RP w' Im' v g:=by
    have:=post.tok.tok vss'.flatten.length (.p v) g
    have hv0:vss' = []:=by simpa using post.l2
    subst hv0
    exact post.tok.tok 0 _ g rfl rfl
   rw [hgr.mainV] at hg
   have hg:=hg.symm
   subst hg
   have hv:vss' = []:=by simpa using post.l2
   subst hv
   refine ⟨y1,Im',rfl,post.tok.tok 0 _ y1 rfl rfl,post.wd,fun b hb=>post.fr b hb ?_⟩
   rintro (hd | ⟨i,_,_,_,_,hd,_⟩) <;> simp at hd
end
end Go.Dp
/- Tables of a program's types,and one check of them. -/
set_option linter.unusedVariables false
set_option linter.unusedSimpArgs false
namespace Go.Dp
def lk {α:Type}:List (Nat × α)->Nat->Option α
 | [],_=>none
 | (k,v) :: r,T=>match k == T with
  | true=>some v
  | false=>lk r T
theorem lk_mem {α:Type} {T:Nat} {v:α}:∀ {l:List (Nat × α)},lk l T = some v->(T,v) ∈ l
 | [],h=>by simp [lk] at h
 | (k,u) :: r,h=>by
  simp only [lk] at h
  split at h
  ·rename_i he
   simp at he
   subst he
   injection h with h
   subst h
   simp
  ·exact List.mem_cons_of_mem _ (lk_mem h)
structure Tabs where
 sl:List (Nat × (TypeId × Nat × Nat))
 sh:List (Nat × Nat)
 fl:List (Nat × List (Option (Nat × Nat)))
 ik:List (Nat × IntKind)
 zr:List (Nat × List PV)
 eqs:List (Nat × List Nat)
 bl:List (Nat × Unit)
 st:List (Nat × Unit)
 flat:List (Nat × Unit)
 ar:List (Nat × Nat):=[]
def Tabs.env (t:Tabs) (live:List (Nat × List (Nat × List Nat))) (rk:List (Nat × List RK)) (bk:List (Nat × List (List Kind))) (plain:List (Nat × Unit)) (ct:List (Nat × CT)) (ak:List (Nat × List CT)) (own:List (Nat × List (Nat × List (Option Nat × Nat × Et × Nat)))) (cut:List (Nat × List (Nat × List Nat))) (nest:List (Nat × Kd):=[]) (sorts:List (Nat × Nat):=[]) (ao:List (Nat × List (Option (Et × Nat))):=[]) (ext:List (Nat × Nat):=[]) (ro:List (Nat × Unit):=[]):Env where
 ro q:=(lk ro q).isSome
 ar T:=(lk t.ar T).getD 0
 ao f:=(lk ao f).getD []
 ext g:=(lk ext g).getD 0
 sorts g:=(lk sorts g).getD 0
 nest:=lk nest
 cut f b:=match lk cut f with
  | some l=>lk l b
  | none=>none
 ct T:=(lk ct T).getD (.one .any)
 ak f:=(lk ak f).getD []
 own f b:=match lk own f with
  | some l=>(lk l b).getD []
  | none=>[]
 sl:=lk t.sl
 sh:=lk t.sh
 fl T f:=match lk t.fl T with
  | some l=>match l[f]? with
   | some x=>x
   | none=>none
  | none=>none
 ik:=lk t.ik
 zr:=lk t.zr
 eqs:=lk t.eqs
 bl T:=(lk t.bl T).isSome
 st T:=(lk t.st T).isSome
 flat T:=(lk t.flat T).isSome
 live f b:=match lk live f with
  | some l=>(lk l b).getD []
  | none=>[]
 rk f:=(lk rk f).getD []
 bk:=lk bk
 plain f:=(lk plain f).isSome
def cellOk:PV->Value->Bool
 | .int k n,.int k' n'=>decide (k = k') && decide (n = n')
 | .bool b,.bool b'=>b == b'
 | .str s,.string s'=>decide (s = s')
 | .row _ f [],.slice none 0 0=>f != 3
 | _,_=>false
def cellsOk:List PV->List Value->Bool
 | [],[]=>true
 | a :: as,b :: bs=>cellOk a b && a.one && cellsOk as bs
 | _,_=>false
def plainField (P:Program) (n k:Nat) (f:Field):Bool :=
 f.offset == n && f.name != "_" && (match k, P.underlying f.type with | 0, some (.int _) => true | 1, some .bool => true | 2, some .string => true | _, _ => false)
def plainFields (P:Program):Nat->List Nat->List Field->Bool
 | _,[],[]=>true
 | n,k :: ks,f :: fs=>plainField P n k f && plainFields P (n + 1) ks fs
 | _,_,_=>false
def Tabs.ok (P:Program) (t:Tabs):Bool :=
 P.follows .mixedOrders &&
 (t.sl.all fun (T,e,sh,by_)=>(match P.underlying T with | some (.slice e')=>e' == e | _=>false) && (match P.info? e with | some i=>i.size == csz sh && i.bytes == by_ && (match i.zero with | some z=>z.cells.size == csz sh | none=>false) | none=>false) && (match lk t.sh e with | some s=>s == sh | none=>false) && decide (0 < by_)) &&
 (t.sh.all fun (T,n)=>match n with
  | 0=>(match P.underlying T with | some (.struct _) | some (.array _ _) | none=>false | some _=>true) && (match P.info? T with | some i=>i.size == 1 | none=>false)
  | n + 1=>match P.underlying T with
   | some (.struct fs)=>(match P.info? T with | some i=>i.size == n + 1 | none=>false) && fs.toList.all fun fd=>(P.info? fd.type).isSome
   | some (.array _ e)=>(match P.info? T with | some i=>i.size == n + 1 | none=>false) && (match P.info? e with | some i=>i.size == 1 | none=>false)
   | _=>false) &&
 (t.fl.all fun (T,l)=>match P.underlying T with
  | some (.struct fs)=>(List.range l.length).all fun f=>match l[f]? with
   | some (some (off,sh))=>(match fs[f]? with | some fd=>fd.offset == off && (match P.info? fd.type with | some i=>i.size == csz sh | none=>false) && (sh != 0 || (match P.underlying fd.type with | some (.struct _) | some (.array _ _) | none=>false | some _=>true)) | none=>false)
   | _=>true
  | _=>false) &&
 (t.ik.all fun (T,k)=>match P.underlying T with | some (.int k')=>decide (k' = k) | _=>false) &&
 (t.zr.all fun (T,zs)=>(match P.info? T with | some i=>(match i.zero with | some z=>cellsOk zs z.cells.toList | none=>false) | none=>false) && (match lk t.sh T with | some s=>zs.length == csz s | none=>false)) &&
 (t.eqs.all fun (T,ks)=>!P.stoodInHeld T && !P.eqGuardType P.depth T && (match P.underlying T with | some (.struct fs)=>plainFields P 0 ks fs.toList | _=>false)) &&
 (t.bl.all fun (T,_)=>match P.underlying T with | some .bool=>true | _=>false) &&
 (t.st.all fun (T,_)=>match P.underlying T with | some .string=>true | _=>false) &&
 (t.ar.all fun (T,m)=>match P.underlying T with | some (.array m' e)=>m' == m && (match P.info? e with | some i=>i.size == 1 | none=>false) | _=>false)
section
variable {P:Program} {w:World} {Im:Nat->Prop}
theorem cellOk_sound {a:PV} {y:Value} (h:cellOk a y = true) (w:World) (Im:Nat->Prop):RP w Im a y:=by
 unfold cellOk at h
 split at h
 · simp only [Bool.and_eq_true,decide_eq_true_eq] at h;obtain ⟨rfl,rfl⟩:=h;exact .int _ _
 · simp at h;subst h;exact .bool _
 · simp at h;subst h;exact .str _
 · exact .nil _ _ (by simpa using h)
 · cases h
theorem cellsOk_sound:∀ {as:List PV} {ys:List Value},cellsOk as ys = true->ys.length = as.length /\ (∀ c ∈ as,c.one = true) /\ ∀ (i:Nat) (c:PV) (y:Value),as[i]? = some c->ys[i]? = some y->∀ w Im,RP w Im c y
 | [],[],h=>⟨rfl,by simp,fun i c y hc=>by simp at hc⟩
 | a :: as,b :: bs,h=>by
  simp only [cellsOk,Bool.and_eq_true] at h
  obtain ⟨h1,h2,h3⟩:=cellsOk_sound h.2
  refine ⟨by simp [h1],fun c hc=>?_,fun i c y hc hy=>?_⟩
  ·rcases List.mem_cons.1 hc with rfl | hc
   ·exact h.1.2
   ·exact h2 c hc
  ·cases i with
   | zero=>simp at hc hy;subst hc;subst hy;exact fun w Im=>cellOk_sound h.1.1 w Im
   | succ i=>exact h3 i c y (by simpa using hc) (by simpa using hy)
 | [],_ :: _,h=>by simp [cellsOk] at h
 | _ :: _,[],h=>by simp [cellsOk] at h
theorem eqField_sound {n k d:Nat} {f:Field} (hf:plainField P n k f = true) {xs ys:Array Value} {a b:PV} {x y:Value} {r:Bool} (hx:xs[n]? = some x) (hy:ys[n]? = some y) (ha:RP w Im a x) (hb:RP w Im b y) (h:cellEq k a b = some r) :
  (part f.type xs f.offset).run P w = .ok x w ∧ (part f.type ys f.offset).run P w = .ok y w ∧ (Op.equalIn (d + 1) f.type x y).run P w = .ok r w ∧ f.name ≠ "_" := by
 simp only [plainField,Bool.and_eq_true,beq_iff_eq,bne_iff_ne] at hf
 obtain ⟨⟨rfl,hn⟩,hu⟩:=hf
 split at hu
 ·rename_i k2 hk
  cases ha <;> cases hb <;> simp only [cellEq] at h <;> first | (cases h;done) | skip
  split at h
  ·injection h with h
   subst h
   rename_i he
   subst he
   have hagg:(isAgg f.type).run P w = .ok false w:=by simp [isAgg,run_underlying hk]
   exact ⟨by simp [part,hagg,hx],by simp [part,hagg,hy],run_equalIn_int w d _ _ _ _ _ hk,hn⟩
  ·cases h
 ·rename_i hk
  cases ha <;> cases hb <;> simp only [cellEq] at h <;> first | (cases h;done) | skip
  injection h with h
  subst h
  have hagg:(isAgg f.type).run P w = .ok false w:=by simp [isAgg,run_underlying hk]
  exact ⟨by simp [part,hagg,hx],by simp [part,hagg,hy],run_equalIn_bool' w d _ _ _ hk,hn⟩
 ·rename_i hk
  cases ha <;> cases hb <;> simp only [cellEq] at h <;> first | (cases h;done) | skip
  injection h with h
  subst h
  have hagg:(isAgg f.type).run P w = .ok false w:=by simp [isAgg,run_underlying hk]
  exact ⟨by simp [part,hagg,hx],by simp [part,hagg,hy],run_equalIn_string w d _ _ _ hk,hn⟩
 ·cases hu
theorem eqFields_sound {d:Nat} {xs ys:Array Value}:∀ {n:Nat} {ks:List Nat} {fs:List Field} {as bs:List PV} {r:Bool},plainFields P n ks fs = true->(∀ (i:Nat) (c:PV),as[i]? = some c->∃ y,xs[n + i]? = some y /\ RP w Im c y) ->
  (∀ (i:Nat) (c:PV),bs[i]? = some c->∃ y,ys[n + i]? = some y /\ RP w Im c y)->cellsEq ks as bs = some r->(Op.eqFields (d + 1) xs ys fs).run P w = .ok r w
 | n,[],[],[],[],r,_,_,_,h=>by simp [cellsEq] at h;subst h;simp [Op.eqFields]
 | n,k :: ks,f :: fs,a :: as,b :: bs,r,hp,ha,hb,h=>by
  simp only [plainFields,Bool.and_eq_true] at hp
  simp only [cellsEq] at h
  split at h
  ·rename_i u v h1 h2
   injection h with h
   subst h
   obtain ⟨x,hx,hax⟩:=ha 0 a rfl
   obtain ⟨y,hy,hby⟩:=hb 0 b rfl
   obtain ⟨g1,g2,g3,g4⟩:=eqField_sound (d:=d) hp.1 (by simpa using hx) (by simpa using hy) hax hby h1
   have ih:=eqFields_sound (d:=d) (n:=n + 1) hp.2 (fun i c hc=>by
    obtain ⟨z,hz,hr⟩:=ha (i + 1) c (by simpa using hc)
    exact ⟨z,by rw [show n + 1 + i = n + (i + 1) by omega];exact hz,hr⟩) (fun i c hc=>by
    obtain ⟨z,hz,hr⟩:=hb (i + 1) c (by simpa using hc)
    exact ⟨z,by rw [show n + 1 + i = n + (i + 1) by omega];exact hz,hr⟩) h2
   simp only [Op.eqFields,if_pos g4,Sem.run_bind,g1,g2,g3,Result.andThen_ok]
   cases u
   ·simp
   ·simp [ih]
  ·cases h
 | _,[],_ :: _,_,_,_,hp,_,_,_=>by simp [plainFields] at hp
 | _,_ :: _,[],_,_,_,hp,_,_,_=>by simp [plainFields] at hp
 | _,[],[],_ :: _,_,_,_,_,_,h=>by simp [cellsEq] at h
 | _,[],[],[],_ :: _,_,_,_,_,h=>by simp [cellsEq] at h
 | _,_ :: _,_ :: _,[],_,_,_,_,_,h=>by simp [cellsEq] at h
 | _,_ :: _,_ :: _,_ :: _,[],_,_,_,_,h=>by simp [cellsEq] at h
theorem eqs_sound {T:TypeId} {ks:List Nat} {fs:Array Field} (h1:P.stoodInHeld T = false) (h2:P.eqGuardType P.depth T = false) (hu:P.underlying T = some (.struct fs)) (hp:plainFields P 0 ks fs.toList = true)
  (w:World) (x y:Operand) (Im:Nat->Prop) (as bs:List PV) (vs us:Array Value) (b:Bool) (ha:RP w Im (.agg as) (.agg vs)) (hb:RP w Im (.agg bs) (.agg us)) (h:cellsEq ks as bs = some b) :
  (do eqGuard .eql T x y (.agg vs) (.agg us);binOp .eql T (.agg vs) (.agg us)).run P w = .ok (.bool b) w /\ (do eqGuard .neq T x y (.agg vs) (.agg us);binOp .neq T (.agg vs) (.agg us)).run P w = .ok (.bool !b) w:=by
 have hfs:P.fieldsOf T = fs:=by simp [Program.fieldsOf,hu]
 have key:(Op.equalIn 10000 T (.agg vs) (.agg us)).run P w = .ok b w:=by
  rw [run_equalIn_agg w 9999 T vs us (by rw [hfs];exact hu) h1,hfs]
  refine eqFields_sound (Im:=Im) (d:=9998) hp ?_ ?_ h
  ·intro i c hc
   cases ha with
   | agg _ _ hl _ hh =>
    have hi:i < vs.size:=by rw [hl];exact (List.getElem?_eq_some_iff.1 hc).1
    exact ⟨vs[i],by simp [hi],hh i c vs[i] hc (by simp [hi])⟩
  ·intro i c hc
   cases hb with
   | agg _ _ hl _ hh =>
    have hi:i < us.size:=by rw [hl];exact (List.getElem?_eq_some_iff.1 hc).1
    exact ⟨us[i],by simp [hi],hh i c us[i] hc (by simp [hi])⟩
 constructor
 ·simp [run_eqGuard_agg w _ T x y vs us h2,run_eql_struct,key]
 ·simp [run_eqGuard_agg w _ T x y vs us h2,run_neq_struct,key]
theorem Tabs.sound {t:Tabs} (h:t.ok P = true) {live:List (Nat × List (Nat × List Nat))} {rk:List (Nat × List RK)} {bk:List (Nat × List (List Kind))} {plain:List (Nat × Unit)} {ct:List (Nat × CT)} {ak:List (Nat × List CT)} {own:List (Nat × List (Nat × List (Option Nat × Nat × Et × Nat)))} {cut:List (Nat × List (Nat × List Nat))} {nest:List (Nat × Kd)} {sorts:List (Nat × Nat)} (hS:∀ g n,(g,n) ∈ sorts->SortOK P n g) {ao:List (Nat × List (Option (Et × Nat)))} {ext:List (Nat × Nat)} (hX:∀ g n,(g,n) ∈ ext->ExtOK P n g) {ro:List (Nat × Unit)}:EnvOK P (t.env live rk bk plain ct ak own cut nest sorts ao ext ro):=by
 simp only [Tabs.ok,Bool.and_eq_true,List.all_eq_true] at h
 obtain ⟨⟨⟨⟨⟨⟨⟨⟨⟨hmix,hsl⟩,hsh⟩,hfl⟩,hik⟩,hzr⟩,heqs⟩,hbl⟩,hst⟩,har⟩:=h
 refine ⟨hmix,?_,?_,?_,?_,?_,?_,?_,?_,fun g n hg hn=>?_,fun g n hg=>?_,?_,?_⟩
 rotate_left 8
 ·have hg':(lk sorts g).getD 0 = n:=hg
  cases hl:lk sorts g with
  | none=>rw [hl] at hg';exact absurd hg'.symm hn
  | some m =>
   rw [hl] at hg'
   have e:m = n:=hg'
   subst e
   exact hS g m (lk_mem hl)
 ·have hg':(lk ext g).getD 0 = n + 1:=hg
  cases hl:lk ext g with
  | none=>rw [hl] at hg';cases hg'
  | some m =>
   rw [hl] at hg'
   have e:m = n + 1:=hg'
   subst e
   exact hX g _ (lk_mem hl)
 rotate_right 8
 ·intro T e sh by_ hT
  have:=hsl _ (lk_mem hT)
  simp only [Bool.and_eq_true,decide_eq_true_eq] at this
  obtain ⟨⟨⟨h1,h2⟩,h3⟩,h4⟩:=this
  split at h1
  ·rename_i e' he
   simp at h1
   subst h1
   split at h2
   ·rename_i i hi
    simp only [Bool.and_eq_true,beq_iff_eq] at h2
    split at h3
    ·rename_i s hs
     simp at h3
     subst h3
     obtain ⟨⟨h5,h6⟩,h7⟩:=h2
     split at h7
     ·rename_i z hz
      simp at h7
      exact ⟨he,⟨i,z,hi,h5,h6,hz,h7⟩,hs,h4⟩
     ·cases h7
    ·cases h3
   ·cases h2
  ·cases h1
 ·intro T hT
  have:=hsh _ (lk_mem hT)
  simp only [Bool.and_eq_true] at this
  obtain ⟨h1,h2⟩:=this
  split at h2
  ·rename_i i hi
   simp at h2
   split at h1
   ·cases h1
   ·cases h1
   ·cases h1
   ·rename_i d hn1 hn2 hd
    exact ⟨d,i,hd,fun fs e=>hn1 fs e,fun n e' e=>hn2 n e' e,hi,h2⟩
  ·cases h2
 ·intro T n hT
  have:=hsh _ (lk_mem hT)
  simp only at this
  split at this
  ·rename_i fs hu
   simp only [Bool.and_eq_true,List.all_eq_true] at this
   obtain ⟨h1,h2⟩:=this
   split at h1
   ·rename_i i hi
    simp at h1
    exact ⟨_,i,hu,hi,h1,.inl ⟨fs,rfl,fun fd hfd=>Option.isSome_iff_exists.1 (h2 fd hfd)⟩⟩
   ·cases h1
  ·rename_i m e hu
   simp only [Bool.and_eq_true] at this
   obtain ⟨h1,h2⟩:=this
   split at h1
   ·rename_i i hi
    split at h2
    ·rename_i ie hie
     exact ⟨_,i,hu,hi,by simpa using h1,.inr ⟨m,e,ie,rfl,hie,by simpa using h2⟩⟩
    ·cases h2
   ·cases h1
  ·cases this
 ·intro T m hT
  have hT':(lk t.ar T).getD 0 = m + 1:=hT
  cases hl:lk t.ar T with
  | none=>rw [hl] at hT';cases hT'
  | some m' =>
   rw [hl] at hT'
   have e1:m' = m + 1:=hT'
   subst e1
   have:=har _ (lk_mem hl)
   simp only at this
   split at this
   ·rename_i m' e hu
    simp only [Bool.and_eq_true,beq_iff_eq] at this
    obtain ⟨rfl,h2⟩:=this
    split at h2
    ·rename_i ie hie
     exact ⟨e,ie,hu,hie,by simpa using h2⟩
    ·cases h2
   ·cases this
 ·intro T f off fsh hT
  simp only [Tabs.env] at hT
  split at hT
  ·rename_i l hl
   split at hT
   ·rename_i x hx
    subst hT
    have:=hfl _ (lk_mem hl)
    simp only at this
    split at this
    ·rename_i fs hu
     simp only [List.all_eq_true,List.mem_range] at this
     have:=this f (List.getElem?_eq_some_iff.1 hx).1
     rw [hx] at this
     simp only at this
     split at this
     ·rename_i fd hfd
      simp only [Bool.and_eq_true,beq_iff_eq] at this
      obtain ⟨⟨h1,h2⟩,h3⟩:=this
      split at h2
      ·rename_i i hi
       simp at h2
       refine ⟨fs,fd,i,hu,hfd,h1,hi,h2,fun h0=>?_⟩
       subst h0
       simp only [bne_self_eq_false,Bool.false_or] at h3
       split at h3
       ·cases h3
       ·cases h3
       ·cases h3
       ·rename_i d hn1 hn2 hd
        exact ⟨d,hd,fun fs e=>hn1 fs e,fun n e' e=>hn2 n e' e⟩
      ·cases h2
     ·cases this
    ·cases this
   ·cases hT
  ·cases hT
 ·intro T k hT
  have:=hik _ (lk_mem hT)
  simp only at this
  split at this
  ·rename_i k' hk
   simp at this
   subst this
   exact hk
  ·cases this
 ·intro T zs hT
  have:=hzr _ (lk_mem hT)
  simp only [Bool.and_eq_true] at this
  obtain ⟨h1,h2⟩:=this
  split at h1
  ·rename_i i hi
   split at h1
   ·rename_i z hz
    split at h2
    ·rename_i s hs
     simp at h2
     obtain ⟨g1,g2,g3⟩:=cellsOk_sound h1
     exact ⟨i,z,s,hi,hz,by simpa using g1,hs,h2,g2,fun j c y hc hy=>g3 j c y hc (by simpa using hy)⟩
    ·cases h2
   ·cases h1
  ·cases h1
 ·intro T hT
  obtain ⟨u,hu⟩:=Option.isSome_iff_exists.1 hT
  have:=hbl _ (lk_mem hu)
  simp only at this
  split at this
  ·assumption
  ·cases this
 ·intro T hT
  obtain ⟨u,hu⟩:=Option.isSome_iff_exists.1 hT
  have:=hst _ (lk_mem hu)
  simp only at this
  split at this
  ·assumption
  ·cases this
 ·intro T ks hT w x y Im as bs vs us b ha hb hc
  have:=heqs _ (lk_mem hT)
  simp only [Bool.and_eq_true,Bool.not_eq_true'] at this
  obtain ⟨⟨h1,h2⟩,h3⟩:=this
  split at h3
  ·rename_i fs hu
   exact eqs_sound h1 h2 hu h3 w x y Im as bs vs us b ha hb hc
  ·cases h3
end
theorem pfOK_nil {P:Program}:∀ x ∈ ([]:List (Nat × Func)),P.funcs[x.1]? = some x.2:=by simp
theorem pfOK_cons {P:Program} {n:Nat} {fn:Func} {l:List (Nat × Func)} (h:P.funcs[n]? = some fn) (hl:∀ x ∈ l,P.funcs[x.1]? = some x.2):∀ x ∈ (n,fn) :: l,P.funcs[x.1]? = some x.2:=by
 intro x hx
 rcases List.mem_cons.1 hx with rfl | hx
 · exact h
 · exact hl x hx
theorem pfOK_of {P : Program} {tab : List (Nat × Func)} (h : ∀ x ∈ tab, P.funcs[x.1]? = some x.2) (hn : (tab.all fun x => x.2.name != "runtime.NumGoroutine") = true) : PfOK P (lk tab) := by
 intro f fn hf
 have hm:=lk_mem hf
 exact ⟨h _ hm,by have:=List.all_eq_true.1 hn _ hm;simpa using this⟩
end Go.Dp
/- Contracts proved beside the evaluator: a slice's copy,nil or not. -/
set_option linter.unusedVariables false
namespace Go.Dp
theorem RP.noNil {w:World} {Im:Nat->Prop} {sh:Nat} {xs:List PV} {y:Value} (h:RP w Im (.row sh 0 xs) y):(xs = [] /\ RP w Im (.row sh 2 []) y) ∨ RP w Im (.row sh 3 xs) y:=by
 cases h with
 | nil=>exact .inl ⟨rfl,.nil _ _ (by decide)⟩
 | row _ _ _ a cap g hf hs hc hm h1 him hsh hcell hrec=>exact .inr (.row _ _ _ a cap g (by decide) hs hc hm (by simp) him hsh hcell hrec)
theorem clone_contract {P:Program} {f:FuncId} {e sh:Nat} {xs:List PV} (h2:Contract P f [.s (.c (.p (.row sh 2 [])))] [] ([.c (.own e sh [])],[]))
  (h3:Contract P f [.s (.c (.p (.row sh 3 xs)))] [] ([.c (.own e sh xs)],[])):Contract P f [.s (.c (.p (.row sh 0 xs)))] [] ([.c (.own e sh xs)],[]):=by
 refine ⟨h2.1,fun w Im bl vss ys gs pre=>?_⟩
 have hl:=pre.og.len.1
 have hgs:gs = []:=List.eq_nil_of_length_eq_zero pre.og.len.2
 subst hgs
 simp only [List.length_cons,List.length_nil] at hl
 obtain ⟨y,rfl⟩:∃ y,ys = [y]:=by
  match ys,hl with
  | [y],_=>exact ⟨y,rfl⟩
 have hy:RP w Im (.row sh 0 xs) y:=pre.arg 0 _ y rfl rfl rfl
 have mk:∀ v:PV,RP w Im v y->Pre w Im bl [] vss [.s (.c (.p v))] [y] []:=by
  intro a ha
  refine ⟨pre.im,pre.nd,pre.l1,pre.l2,pre.box,pre.tok,.no rfl .nil,fun i b z hb hz _=>?_⟩
  cases i with
  | zero=>simp at hb hz;subst hb;subst hz;exact ha
  | succ i=>simp at hb
 rcases hy.noNil with ⟨rfl,h⟩ | h
 ·exact h2.2 w Im bl vss [y] [] (mk _ h)
 ·exact h3.2 w Im bl vss [y] [] (mk _ h)
theorem evF_T {Pf:FuncId->Option Func} {E:Env} {T:FuncId->List AV->List (List CV)->R} {k:Nat} {f:FuncId} {args:List AV} {bs:List (List CV)} {r:List SV × List (List CV)} (h:T f args bs = some r):evF Pf E T (k + 1) f args bs = some r:=by
 simp only [evF,h]
def cloneT (tab:List (Nat × (Nat × Nat × Nat))):FuncId->List AV->List (List CV)->R:=fun f args bs =>
 match lk tab f with
 | some q=>match args,bs with
  | [.s (.c (.p (.row s g xs)))],[]=>bif s == q.2.1 && g == 0 && decide (xs.length * q.2.2<=LIM) && decide (xs.length<=LIM) then some ([.c (.own q.1 q.2.1 xs)],[]) else none
  | _,_=>none
 | none=>none
theorem cloneT_ok {P:Program} {tab:List (Nat × (Nat × Nat × Nat))} (h:∀ f e sh by_,(f,(e,sh,by_)) ∈ tab->∀ xs:List PV,xs.length * by_<=LIM->xs.length<=LIM->Contract P f [.s (.c (.p (.row sh 0 xs)))] [] ([.c (.own e sh xs)],[])) :
  ∀ f args bs r,cloneT tab f args bs = some r->Contract P f args bs r:=by
 intro f args bs r hr
 unfold cloneT at hr
 split at hr
 ·rename_i q hq
  obtain ⟨e,sh,by_⟩:=q
  split at hr
  ·rename_i s g xs
   obtain ⟨hc,hr'⟩:=bif_some hr
   simp only [Bool.and_eq_true,beq_iff_eq,decide_eq_true_eq] at hc
   obtain ⟨⟨⟨rfl,rfl⟩,h1⟩,h2⟩:=hc
   injection hr' with hr'
   subst hr'
   exact h f e s by_ (lk_mem hq) xs h1 h2
  ·cases hr
 ·cases hr
end Go.Dp
/- Contracts of functions that return a plain value and leave the world as it was;strings.Count at one byte. -/
set_option linter.unusedVariables false
namespace Go.Dp
def orT (a b:FuncId->List AV->List (List CV)->R):FuncId->List AV->List (List CV)->R:=fun f args bs=>match a f args bs with
 | some r=>some r
 | none=>b f args bs
end Go.Dp
/- Words,rows,draws: plain facts that the functions' proofs share. -/
set_option linter.unusedVariables false
set_option linter.unusedSimpArgs false
namespace Go.Dp
abbrev W:=BitVec 64
def wi (a:W):Int:=(a.toNat:Int)
theorem wi_nonneg (a:W):0<=wi a:=by unfold wi;omega
@[simp] theorem wi_ofInt (a:W):BitVec.ofInt 64 (wi a) = a:=by simp [wi]
theorem wrapU (n:Int):IntKind.u64.wrap n = wi (BitVec.ofInt 64 n):=by
 unfold IntKind.wrap wi
 simp only [IntKind.bits,IntKind.signed,Bool.false_and]
 rw [BitVec.toNat_ofInt]
 simp
 omega
@[simp] theorem wrap_wi (a:W):IntKind.u64.wrap (wi a) = wi a:=by rw [wrapU,wi_ofInt]
theorem wi_inj {a b:W}:wi a = wi b ↔ a = b:=by
 constructor
 ·intro h;have:BitVec.ofInt 64 (wi a) = BitVec.ofInt 64 (wi b):=by rw [h]
  simpa using this
 ·intro h;rw [h]
@[simp] theorem wi_beq (a b:W):(wi a == wi b) = (a == b):=by
 rw [Bool.eq_iff_iff];simp [wi_inj]
theorem wi_lt_iff {a b:W}:wi a < wi b ↔ a < b:=by unfold wi;rw [BitVec.lt_def];omega
theorem wi_le_iff {a b:W}:wi a<=wi b ↔ a<=b:=by unfold wi;rw [BitVec.le_def];omega
@[simp] theorem and_wi (a b:W):bitsOp .and .u64 (wi a) (wi b) = wi (a &&& b):=by
 show IntKind.u64.wrap (((BitVec.ofInt 64 (wi a)) &&& (BitVec.ofInt 64 (wi b))).toNat:Int) = _
 rw [wi_ofInt,wi_ofInt]
 exact wrap_wi _
@[simp] theorem or_wi (a b:W):bitsOp .or .u64 (wi a) (wi b) = wi (a ||| b):=by
 show IntKind.u64.wrap (((BitVec.ofInt 64 (wi a)) ||| (BitVec.ofInt 64 (wi b))).toNat:Int) = _
 rw [wi_ofInt,wi_ofInt]
 exact wrap_wi _
@[simp] theorem xor_wi (a b:W):bitsOp .xor .u64 (wi a) (wi b) = wi (a ^^^ b):=by
 show IntKind.u64.wrap (((BitVec.ofInt 64 (wi a)) ^^^ (BitVec.ofInt 64 (wi b))).toNat:Int) = _
 rw [wi_ofInt,wi_ofInt]
 exact wrap_wi _
theorem ofInt_add_wi (a b:W):BitVec.ofInt 64 (wi a + wi b) = a + b:=by rw [BitVec.ofInt_add];simp
theorem ofInt_mul_wi (a b:W):BitVec.ofInt 64 (wi a * wi b) = a * b:=by rw [BitVec.ofInt_mul];simp
theorem ofInt_sub_wi (a b:W):BitVec.ofInt 64 (wi a - wi b) = a - b:=by
 have h:wi a = (wi a - wi b) + wi b:=by omega
 have h2:BitVec.ofInt 64 (wi a) = BitVec.ofInt 64 (wi a - wi b) + BitVec.ofInt 64 (wi b):=by rw [<- BitVec.ofInt_add,<- h]
 rw [wi_ofInt,wi_ofInt] at h2
 generalize BitVec.ofInt 64 (wi a - wi b) = c at h2 ⊢
 rw [h2,BitVec.add_sub_cancel]
@[simp] theorem add_wi (a b:W):IntKind.u64.wrap (wi a + wi b) = wi (a + b):=by rw [wrapU,ofInt_add_wi]
@[simp] theorem mul_wi (a b:W):IntKind.u64.wrap (wi a * wi b) = wi (a * b):=by rw [wrapU,ofInt_mul_wi]
@[simp] theorem sub_wi (a b:W):IntKind.u64.wrap (wi a - wi b) = wi (a - b):=by rw [wrapU,ofInt_sub_wi]
theorem shl_wi (a:W) {y:Int} (h:0<=y):shlI .u64 (wi a) y = wi (a <<< y.toNat):=by
 unfold shlI
 rw [wrapU]
 congr 1
 apply BitVec.eq_of_toNat_eq
 rw [BitVec.toNat_ofInt,BitVec.toNat_shiftLeft,Nat.shiftLeft_eq]
 show ((wi a * 2 ^ (min y.toNat 64)) % ((2 ^ 64:Nat):Int)).toNat = _
 have e:(wi a * 2 ^ (min y.toNat 64)) = ((a.toNat * 2 ^ (min y.toNat 64):Nat):Int):=by simp [wi]
 rw [e,<- Int.natCast_emod,Int.toNat_natCast]
 rcases Nat.le_total y.toNat 64 with h1 | h1
 ·rw [Nat.min_eq_left h1]
 ·rw [Nat.min_eq_right h1,Nat.mul_mod_left]
  have:(2:Nat) ^ y.toNat = 2 ^ 64 * 2 ^ (y.toNat - 64):=by rw [<- Nat.pow_add];congr 1;omega
  rw [this,Nat.mul_comm (2 ^ 64),<- Nat.mul_assoc,Nat.mul_mod_left]
theorem shr_wi (a:W) {y:Int} (h:0<=y):shrI .u64 (wi a) y = wi (a >>> y.toNat):=by
 unfold shrI wi
 show Int.fdiv (a.toNat:Int) (2 ^ (min y.toNat 64)) = _
 rw [BitVec.toNat_ushiftRight,Nat.shiftRight_eq_div_pow]
 have e:((2:Int) ^ (min y.toNat 64)) = ((2 ^ (min y.toNat 64):Nat):Int):=by simp
 rw [e,Int.fdiv_eq_ediv_of_nonneg _ (Int.natCast_nonneg _),<- Int.natCast_ediv]
 congr 1
 rcases Nat.le_total y.toNat 64 with h1 | h1
 ·rw [Nat.min_eq_left h1]
 ·rw [Nat.min_eq_right h1,Nat.div_eq_of_lt a.isLt]
  refine (Nat.div_eq_of_lt (Nat.lt_of_lt_of_le a.isLt (Nat.pow_le_pow_right (by omega) h1))).symm
theorem i64_id {n:Int} (h1:-9223372036854775808<=n) (h2:n<=9223372036854775807):IntKind.i64.wrap n = n:=Go.IntWalk.i64_in n ⟨h1,h2⟩
theorem u64_id {n:Int} (h1:0<=n) (h2:n<=18446744073709551615):IntKind.u64.wrap n = n:=Go.IntWalk.u64_in n ⟨h1,h2⟩
theorem emod_le_self {v n:Int} (hv:0<=v) (hn:0 < n):v % n<=v:=by
 have h:=Int.mul_ediv_add_emod v n
 have h2:0<=n * (v / n):=Int.mul_nonneg (by omega) (Int.ediv_nonneg hv (by omega))
 omega
theorem lookP_nat (xs:List PV) (i:Nat):lookP xs (i:Int) = xs[i]?:=by simp [lookP]
theorem lookP_int {xs:List PV} {n:Int} (h:0<=n):lookP xs n = xs[n.toNat]?:=by
 have:decide (0<=n) = true:=by simpa using h
 simp [lookP,this]
theorem drop_cons {α:Type} {l:List α} {i:Nat} (h:i < l.length):l.drop i = l[i] :: l.drop (i + 1):=List.drop_eq_getElem_cons h
abbrev Nd:=Int × W
def encN (x:Nd):PV:=.agg [.int .i64 x.1,.int .u64 (wi x.2)]
def encT (t:List Nd):List PV:=t.map encN
@[simp] theorem encN_shp (x:Nd):(encN x).shp 2 = true:=rfl
@[simp] theorem encN_op (x:Nd):(encN x).atInt .i64 0 = some x.1:=rfl
@[simp] theorem encN_n (x:Nd):(encN x).atInt .u64 1 = some (wi x.2):=rfl
@[simp] theorem encT_length (t:List Nd):(encT t).length = t.length:=by simp [encT]
theorem encT_get (t:List Nd) (i:Nat):(encT t)[i]? = (t[i]?).map encN:=by simp [encT]
theorem lookT {t:List Nd} {i:Nat} (h:i < t.length):lookP (encT t) (i:Int) = some (encN t[i]):=by rw [lookP_nat,encT_get];simp [h]
def encTT (l:List (List Nd)):List PV:=l.map fun t=>.row 2 0 (encT t)
@[simp] theorem encTT_length (l:List (List Nd)):(encTT l).length = l.length:=by simp [encTT]
theorem encTT_get (l:List (List Nd)) (i:Nat):(encTT l)[i]? = (l[i]?).map fun t=>.row 2 0 (encT t):=by simp [encTT]
theorem encTT_snoc (l:List (List Nd)) (x:List Nd):encTT l ++ [.row 2 0 (encT x)] = encTT (l ++ [x]):=by simp [encTT]
@[simp] theorem row_atRow (l:List PV) (sh:Nat):(PV.row sh 0 l).atRow sh 0 = some l:=by simp [PV.atRow,PV.cell,PV.cells,PV.asRow]
def encW (l:List W):List PV:=l.map fun a=>.int .u64 (wi a)
@[simp] theorem encW_length (l:List W):(encW l).length = l.length:=by simp [encW]
theorem encW_get (l:List W) (i:Nat):(encW l)[i]? = (l[i]?).map fun a=>.int .u64 (wi a):=by simp [encW]
theorem encW_snoc (l:List W) (x:W):encW l ++ [.int .u64 (wi x)] = encW (l ++ [x]):=by simp [encW]
theorem encW_take (l:List W) (i:Nat):(encW l).take i = encW (l.take i):=by simp [encW,List.map_take]
@[simp] theorem int_atInt (k:IntKind) (n:Int):(PV.int k n).atInt k 0 = some n:=by simp [PV.atInt,PV.cell,PV.cells,PV.asInt]
def encZ (l:List Int):List PV:=l.map (PV.int .i64)
@[simp] theorem encZ_length (l:List Int):(encZ l).length = l.length:=by simp [encZ]
theorem encZ_get (l:List Int) (i:Nat):(encZ l)[i]? = (l[i]?).map (PV.int .i64):=by simp [encZ]
theorem encZ_snoc (l:List Int) (x:Int):encZ l ++ [.int .i64 x] = encZ (l ++ [x]):=by simp [encZ]
theorem encZ_take (l:List Int) (i:Nat):(encZ l).take i = encZ (l.take i):=by simp [encZ,List.map_take]
theorem encZ_drop (l:List Int) (i:Nat):(encZ l).drop i = encZ (l.drop i):=by simp [encZ,List.map_drop]
def encB (l:List Nat):List PV:=l.map fun (b:Nat)=>PV.int .u8 (b:Int)
@[simp] theorem encB_length (l:List Nat):(encB l).length = l.length:=by simp [encB]
theorem encB_get (l:List Nat) (i:Nat):(encB l)[i]? = (l[i]?).map fun (b:Nat)=>PV.int .u8 (b:Int):=by simp [encB]
end Go.Dp
namespace Go.Dp
theorem lim_ok {n c:Nat} (h:n<=100000000) (hc:c<=1000):(decide (n * c<=LIM) && decide (n<=LIM)) = true:=by
 have h1:n * c<=100000000 * 1000:=Nat.mul_le_mul h hc
 have h2:n * c<=LIM:=Nat.le_trans h1 (by decide)
 have h3:n<=LIM:=Nat.le_trans h (by decide)
 simp [h2,h3]
theorem take1 {α:Type} (l:List α) (x:α):((l.take l.length) ++ [x]).take (l.length + 1) = l ++ [x]:=by
 rw [List.take_length]
 exact List.take_of_length_le (by simp)
theorem take2 {α:Type} (l m:List α) (x:α):((((l.take l.length) ++ (m.take m.length)).take (l.length + ((m.take m.length).length))) ++ [x]).take ((l.length + ((m.take m.length).length)) + 1) = l ++ m ++ [x]:=by
 simp only [List.take_length]
 rw [List.take_of_length_le (by simp),List.take_of_length_le (by simp)]
theorem encZ_set (l:List Int) (i:Nat) (x:Int):(encZ l).set i (.int .i64 x) = encZ (l.set i x):=by simp [encZ,List.map_set]
theorem encZ_plain (l:List Int):(encZ l).all plainP = true:=by
 simp only [encZ,List.all_eq_true,List.mem_map]
 rintro _ ⟨x,_,rfl⟩
 rfl
end Go.Dp
/- From what the evaluator says of a law of two rows of bytes to the walk that the law's row asks for. -/
set_option linter.unusedVariables false
set_option linter.unusedSimpArgs false
namespace Go.Dp
open Go.RowKit
def IsRow (k:IntKind) (w:World) (a:Option Addr) (len cap:Nat) (zs:List Int):Prop :=
 (a = none /\ len = 0 /\ cap = 0 /\ zs = []) ∨
 ∃ x,a = some x /\ x.spot = none /\ len<=cap /\ cap<=maxLen /\ zs.length = cap /\ (∀ i,i < zs.length->w.cell? (x.add i) = some (.int k (zs.getD i 0))) /\ ∀ n ∈ zs,(Lit.int k n).wf = true
def ints (k:IntKind) (l:List Int):List PV:=l.map (PV.int k)
theorem IsRow.rp {k:IntKind} {w:World} {a:Option Addr} {len cap:Nat} {zs:List Int} (h:IsRow k w a len cap zs):RP w (· < w.heap.size) (.row 0 0 (ints k (zs.take len))) (.slice a len cap):=by
 rcases h with ⟨rfl,rfl,rfl,rfl⟩ | ⟨x,rfl,hsp,hl,hm,hz,hc,_⟩
 ·exact .nil 0 0 (by decide)
 ·have hlen:(ints k (zs.take len)).length = len:=by simp [ints];omega
  have hcell:∀ i,i < len->w.cell? ⟨x.block,x.off + i,none⟩ = some (.int k (zs.getD i 0)):=by
   intro i hi
   have h1:=hc i (by omega)
   obtain ⟨b,off,sp⟩:=x
   simp only at hsp
   subst hsp
   rw [add_at] at h1
   exact h1
  have key:RP w (· < w.heap.size) (.row 0 0 (ints k (zs.take len))) (.slice (some x) (ints k (zs.take len)).length cap):=by
   refine .row 0 0 _ x cap (fun i=>.int k (zs.getD i 0)) (by simp) hsp (by omega) hm (by simp) ?_ ?_ ?_ ?_
   ·intro hp
    have h1:=hcell 0 (by omega)
    simp only [World.cell?] at h1
    split at h1
    ·rename_i c _ _ hh
     exact (Array.getElem?_eq_some_iff.1 hh).1
    ·cases h1
   ·intro i v hv
    simp only [ints,List.getElem?_map,Option.map_eq_some_iff] at hv
    obtain ⟨n,_,rfl⟩:=hv
    rfl
   ·intro i v j c hv hj
    have hi:i < len:=by have:=(List.getElem?_eq_some_iff.1 hv).1;omega
    simp only [ints,List.getElem?_map,Option.map_eq_some_iff] at hv
    obtain ⟨n,_,rfl⟩:=hv
    have:j = 0:=by
     have:=(List.getElem?_eq_some_iff.1 hj).1
     simp [PV.cells] at this
     omega
    subst this
    have h9:=hcell i hi
    revert h9
    simp [csz]
   ·intro i v j c hv hj
    simp only [ints,List.getElem?_map,Option.map_eq_some_iff] at hv
    obtain ⟨n,hn,rfl⟩:=hv
    have:j = 0:=by
     have:=(List.getElem?_eq_some_iff.1 hj).1
     simp [PV.cells] at this
     omega
    subst this
    simp [PV.cells] at hj
    subst hj
    have hn2:zs[i]? = some n:=by
     rw [List.getElem?_take] at hn
     split at hn
     ·exact hn
     ·cases hn
    have hg:zs.getD i 0 = n:=by simp [List.getD,hn2]
    simp only [csz]
    simp [hn2]
    exact .int k n
  rwa [hlen] at key
theorem IsRow.wf {k:IntKind} {w:World} {a:Option Addr} {len cap:Nat} {zs:List Int} (h:IsRow k w a len cap zs):∀ n ∈ zs,(Lit.int k n).wf = true:=by
 rcases h with ⟨_,_,_,rfl⟩ | ⟨_,_,_,_,_,_,_,h⟩
 · simp
 · exact h
theorem law_walk {P:Program} {f:FuncId} {w:World} {vs:List PV} {ys:List Value} (hl:ys.length = vs.length) (hr:∀ (i:Nat) (a:PV) (y:Value),vs[i]? = some a->ys[i]? = some y->RP w (· < w.heap.size) a y)
  (h:Contract P f (vs.map .p) [] ([.c (.p (.bool true))],[])):Calls P f ys.toArray w fun e w'=>e = .returned (.bool true) /\ Below w.heap.size w w':=by
 refine Calls.mono (h.calls w (· < w.heap.size) (fun _ h=>h) ys hl hr) ?_
 rintro e w' ⟨y,Im',rfl,hy,hwd,hfr⟩
 cases hy
 exact ⟨rfl,hwd.os,hwd.tape,hwd.output,hwd.size,hfr⟩
end Go.Dp
/- What the printed loops of the library's searches and comparisons want. -/
set_option linter.unusedVariables false
set_option linter.unusedSimpArgs false
namespace Go.Dp
def fixI {α:Type} (f:α->Bool):Nat->List α->Int
 | _,[]=>-1
 | i,x :: l=>bif f x then (i:Int) else fixI f (i + 1) l
theorem fixI_ge {α:Type} (f:α->Bool):∀ (l:List α) (i:Nat),decide (fixI f i l>=0) = l.any f
 | [],i=>by simp [fixI]
 | x :: l,i=>by
  cases hx:f x
  ·have h1:fixI f i (x :: l) = fixI f (i + 1) l:=by simp only [fixI,hx,cond_false]
   have h2:(x :: l).any f = l.any f:=by simp only [List.any_cons,hx,Bool.false_or]
   rw [h1,h2];exact fixI_ge f l (i + 1)
  ·have h1:fixI f i (x :: l) = (i:Int):=by simp only [fixI,hx,cond_true]
   have h2:(x :: l).any f = true:=by simp only [List.any_cons,hx,Bool.true_or]
   rw [h1,h2];simp
theorem fixI_spec {α:Type} (f:α->Bool):∀ (l:List α) (i:Nat),(fixI f i l = -1 /\ ∀ x ∈ l,f x = false) ∨ ∃ j,∃ h:j < l.length,fixI f i l = ((i + j:Nat):Int) /\ f l[j] = true /\ ∀ j' (h':j' < j),f (l[j']'(by omega)) = false
 | [],i=>.inl ⟨rfl,by simp⟩
 | x :: l,i=>by
  simp only [fixI]
  cases hx:f x
  ·simp only [cond_false]
   rcases fixI_spec f l (i + 1) with ⟨h1,h2⟩ | ⟨j,hj,h1,h2,h3⟩
   ·exact .inl ⟨h1,fun y hy=>by rcases List.mem_cons.1 hy with rfl | hy;exact hx;exact h2 y hy⟩
   ·refine .inr ⟨j + 1,by simp;omega,by rw [h1];omega,by simpa using h2,fun j' h'=>?_⟩
    cases j' with
    | zero=>exact hx
    | succ j'=>exact h3 j' (by omega)
  ·exact .inr ⟨0,by simp,by simp,by simpa using hx,fun j' h'=>by omega⟩
end Go.Dp
namespace Go.Proofs.YthoecdnmokcfbaaGreat
open Go.Dp
end Go.Proofs.YthoecdnmokcfbaaGreat
