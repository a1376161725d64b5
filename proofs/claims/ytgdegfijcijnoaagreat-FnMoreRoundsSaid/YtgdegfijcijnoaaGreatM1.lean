/- Dp10n; Dp11; Dp12; Dp13; Dp14; Dp15; Dp16; Dp17; Dp18a; Dp18b; Dp11f; Dp11g; Dp18c: texts put together. -/
import Derived.Test.YtgdegfijcijnoaaGreatM0
set_option linter.all false
set_option maxRecDepth 100000
namespace Go.Dp
section
variable {P:Program} {E:Env} {w w':World} {Im Im':Nat->Prop} {ρ ρ':Nat->Option Value} {o o':List AObj} {K:Kt} {r:List SV × List (List CV)}
theorem y6e {base:Nat} {e s n:Nat} {v:Value} {xs:List Value} (h:w.ownsAt base e s v n xs):v.cells=#[v] /\ v.oneCell'=true /\ ∀ b,kidBlk v b↔v.ownBlock=some b:=by
 rcases h.2 with ⟨rfl,rfl⟩ | ⟨g,bo,cap,cur,rfl,_⟩
 · exact ⟨rfl,rfl,fun b=>by simp [Value.ownBlock]⟩
 · exact ⟨rfl,rfl,fun b=>by simp [Value.ownBlock]⟩
theorem x2r (hE:EnvOK P E) (hs:SR w Im ρ o) {T:TypeId} {a b:AV} {x y:Value} (ha:RA w Im ρ o a x) (hb:RA w Im ρ o b y) (h:opGive E T a b o K=some r):Did P w Im ρ o K r (do Instr.storeAt T x y;pure undef):=by
 unfold opGive at h;split at h
 ·rename_i id ver vsh i off id2 ver2 sh2 lo len hca hT hcb;rw [q0s hca] at ha;rw [q0s hcb] at hb;split at h
  ·rename_i e sh' ver' xs e2 sh2' ver2' ys ho ho2;split at h
   ·rename_i k hk;obtain ⟨y0,hxi,h⟩:=bind_some h;obtain ⟨hcnd,h9⟩:=q0j h;clear h;simp only [Bool.and_eq_true,Bool.or_eq_true,Option.isNone_iff_eq_none,beq_iff_eq,bne_iff_ne,decide_eq_true_eq] at hcnd;obtain ⟨⟨⟨⟨⟨⟨⟨⟨⟨⟨rfl,rfl⟩,rfl⟩,rfl⟩,rfl⟩,rfl⟩,rfl⟩,rfl⟩,hne⟩,hhole⟩,hlen⟩:=hcnd
    replace hhole:∀ p,p≠i->k.hole≠some p:=by
     intro p hp he;rw [he] at hhole;simp at hhole;exact hp hhole
    obtain ⟨z,hz,hkk⟩:=bind_some h9;clear h9;simp only [RA,RS,RC,ho] at ha;obtain ⟨hi,g,bo,n,cap,v,hρ,hmv,rfl⟩:=ha.2 trivial trivial;simp only [RA,RS,RC,ho2] at hb;obtain ⟨_,v2,hρ2,hsl2⟩:=hb.2 trivial trivial;obtain ⟨vals,hown,hshp,hrp,hbk,hkids⟩:=hs.ob id _ _ ho hρ;obtain ⟨vals2,hown2,hshp2,hrp2,hbk2,_⟩:=hs.ob id2 _ _ ho2 hρ2
    replace hrp2:∀ (i:Nat) (x:PV) (j:Nat) (c:PV) (y:Value),ys[i]? = some x->x.cells[j]? = some c->vals2[i*csz k.sh+j]? = some y->RP w Im c y:=hrp2
    simp only [RKids,hk] at hkids;obtain ⟨_,ks,hv,hks,hdis⟩:=hkids;obtain ⟨hy,hyb⟩:=q97 hown2 hsl2 hlen;have hyc:=y6e hy;have hgm:kidBlk (mainV v) g:=by rw [hmv];rfl
    have hyB:∀ b,kidBlk y b->Blk v2 b:=fun b hb=>q1g ((hyb b).1 (q7b hb))
    have hcross:∀ b,Blk v b->Blk v2 b->False:=fun b h1 h2=>hne (hs.inj id id2 v v2 b hρ hρ2 h1 h2)
    rcases hown.2 with ⟨hbad,_⟩ | ⟨g',bo',cap',cu,heq,_,hh,hnc,hcm,hcs,htk⟩
    ·rw [hmv] at hbad;cases hbad
    rw [hmv] at heq;injection heq with e1 e2 e3
    injection e1 with e1
    injection e1 with e1 e4
    subst e1;subst e2;subst e3;subst e4;have hcp:0<cap:=by omega
    have hcs:=hcs hcp;have hy0s:=hshp y0 (List.mem_of_getElem? hxi);obtain ⟨hzs,hoff,hzc⟩:=z7o hz hy0s (by simp [PV.shp,PV.one]);have c0:csz 0=1:=rfl;rw [c0] at hoff;have hmul:(i+1)*csz vsh<=xs.length*csz vsh:=Nat.mul_le_mul_right _ hi;have hmul2:xs.length*csz vsh<=cap*csz vsh:=Nat.mul_le_mul_right _ hnc;rw [Nat.add_mul] at hmul;have hrun:=z0r (y:=y) hE hT (off:=bo+i*csz vsh+k.j) hh (by rw [hyc.1];rfl) (by omega) (by rw [hyc.1];intro p z hz;cases p <;> simp at hz;subst hz;exact hyc.2.1);have hyn:y.cells.toList=[y]:=by rw [hyc.1]
    rw [hyn] at hrun;obtain ⟨NV,hNV⟩:∃ NV,NV=(cu.toList.take (bo+i*csz vsh+k.j)++[y]++cu.toList.drop (bo+i*csz vsh+k.j+[y].length)).toArray:=⟨_,rfl⟩;rw [<- hNV] at hrun;have hcul:xs.length*csz vsh<=(cu.toList.drop bo).length:=by simp;omega
    have hspl:i*csz vsh+k.j+[y].length<=xs.length*csz vsh:=by simp;omega
    have hoth:∀ b,b≠g->(w.setRow g NV).heap[b]? = w.heap[b]?:=fun b hb=>setRow_other w g b NV hb
    have hlt:=(hs.lt id _ hρ).1;have hlt2:=(hs.lt id2 _ hρ2).1;have him:∀ b,Im b->Im b /\ (w.setRow g NV).heap[b]? = w.heap[b]?:=fun b hb=>⟨hb,hoth b fun h=>(hbk g (q1g hgm)).1 rfl (h ▸ hb)⟩
    obtain ⟨V,hVd⟩:∃ V,V=Value.tuple (mainV v::ks.set i y).toArray:=⟨_,rfl⟩;have hVm:mainV V=mainV v:=by rw [hVd];rfl
    have hVb:∀ b,Blk V b->Blk v b∨Blk v2 b:=by
     intro b hb;rw [hVd] at hb;obtain ⟨q,u,hq,hub⟩:=hb;cases q with
     | zero=>
      simp at hq;subst hq;exact .inl (q1g hub)
     | succ q=>
      replace hq:(ks.set i y)[q]? = some u:=by simpa using hq
      by_cases e1:q=i
      ·subst e1;rw [List.getElem?_set_self (by rw [hks.len];exact hi)] at hq;injection hq with hq
       subst hq;exact .inr (hyB b hub)
      ·rw [List.getElem?_set_ne (Ne.symm e1)] at hq;exact .inl (q1e hv hq hub)
    obtain ⟨X,hX⟩:∃ X,X=AObj.arr ⟨e.t,some { k with nv:=k.nv+1,hole:=none }⟩ vsh ver false (xs.set i z):=⟨_,rfl⟩;rw [<- hX] at hkk;have hoid:((o.set id X).set id2 .dead)[id]? = some X:=by rw [List.getElem?_set_ne (Ne.symm hne),List.getElem?_set_self hlt]
    have hoid2:((o.set id X).set id2 .dead)[id2]? = some .dead:=by rw [List.getElem?_set_self (by simpa using hlt2)]
    obtain ⟨R,hR⟩:∃ R,R=upd (upd ρ id (some V)) id2 none:=⟨_,rfl⟩;have hRid:R id=some V:=by rw [hR,q0t hne,q0x]
    have hRid2:R id2=none:=by rw [hR,q0x]
    have hRne:∀ q,q≠id->q≠id2->R q=ρ q:=fun q h1 h2=>by rw [hR,q0t h2,q0t h1]
    have hc:q1u ρ R o ((o.set id X).set id2 .dead):=by
     intro q a hq;by_cases e1:q=id
     ·subst e1;rw [ho] at hq;injection hq with hq
      subst hq;refine ⟨X,hoid,?_⟩;rw [hRid,hρ,hX];refine Or.inr ⟨rfl,rfl,by simp,?_,?_⟩
      ·simp [hVm]
      ·rw [hk];exact .inl (Nat.lt_succ_self _)
     ·by_cases e2:q=id2
      ·subst e2;rw [ho2] at hq;injection hq with hq
       subst hq;exact ⟨.dead,hoid2,trivial⟩
      ·refine ⟨a,by rw [List.getElem?_set_ne (Ne.symm e2),List.getElem?_set_ne (Ne.symm e1)];exact hq,?_⟩;rw [hRne q e1 e2];cases a <;> simp [q1f]
    have hst:=Step.multi (w':=w.setRow g NV) (ρ':=R) (o':=(o.set id X).set id2 .dead) hs (q64 w g NV) (fun q=>q=id∨q=id2) (by simp) ?_ ?_ hc ?_ ?_ ?_ ?_ ?_ ?_ ?_ ?_ ?_
    ·exact ⟨_,_,undef,_,Im,_,hkk,by simp [Instr.storeAt,Instr.sureAddr,hrun],hst,trivial⟩
    ·intro q hq hql;simp only [not_or] at hq;exact ⟨by rw [List.getElem?_set_ne (Ne.symm hq.2),List.getElem?_set_ne (Ne.symm hq.1)],hRne q hq.1 hq.2⟩
    ·intro q hql hq;simp only [not_or] at hq;refine ⟨List.getElem?_eq_none (by simp;omega),?_⟩;rw [hRne q hq.1 hq.2];cases h:ρ q with
     | none=>rfl
     | some u=>have:=(hs.lt q u h).1;omega
    ·intro b hb hno;exact hoth b fun h=>hno id v (.inl rfl) hρ (h ▸ q1g hgm)
    ·rintro q v' b (rfl | rfl) hv' hb
     ·rw [hρ] at hv';injection hv' with hv'
      subst hv';exact (hbk b hb).1 rfl
     ·rw [hρ2] at hv';injection hv' with hv'
      subst hv';exact (hbk2 b hb).1 rfl
    ·rintro q v' b (rfl | rfl) hv' hb
     ·rw [hRid] at hv';injection hv' with hv'
      subst hv';rcases hVb b hb with h1 | h1
      ·exact .inl ⟨q,_,.inl rfl,hρ,h1⟩
      ·exact .inl ⟨id2,_,.inr rfl,hρ2,h1⟩
     ·rw [hRid2] at hv';cases hv'
    ·rintro q v' (rfl | rfl) hv'
     ·rw [hRid] at hv';injection hv' with hv'
      subst hv';refine ⟨by simpa using hlt,fun b hb=>?_⟩;rw [setRow_size];rcases hVb b hb with h1 | h1
      ·exact (hs.lt q _ hρ).2 b h1
      ·exact (hs.lt id2 _ hρ2).2 b h1
     ·rw [hRid2] at hv';cases hv'
    ·rintro q q' v' v1 b (rfl | rfl) (rfl | rfl) h1 h2 h3 h4
     ·rfl
     ·rw [hRid2] at h2;cases h2
     ·rw [hRid2] at h1;cases h1
     ·rfl
    ·rintro q a v' (rfl | rfl) ha' hv'
     ·rw [hoid] at ha';rw [hRid] at hv';injection ha' with ha'
      injection hv' with hv'
      subst ha';subst hv';rw [hX];have hylt:(w.setRow g NV).ownsAt 0 k.e (csz k.sh) y len (vals2.take (len*csz k.sh)):=q4g (fun b hb=>hoth b fun h=>hcross g (q1g hgm) (h ▸ hyB b hb)) hy;have hxl:(ys.take len).length=len:=by simp;omega
      refine ⟨vals.take (i*csz vsh+k.j)++[y]++vals.drop (i*csz vsh+k.j+[y].length),⟨?_,.inr ⟨g,bo,cap,NV,by rw [hVm,hmv];simp,Nat.zero_le _,setRow_heap w g cu NV e.t _ hh,by simpa using hnc,hcm,fun _=>?_,?_⟩⟩,?_,?_,fun b hb=>⟨fun _ hI=>?_,fun h=>nomatch h⟩,rfl,ks.set i y,?_,⟨by simpa using hks.len,hks.jlt,?_,(fun p u h=>nomatch h),?_,?_⟩,?_⟩
      ·rw [q4w _ _ _ (by rw [hown.1];exact hspl),hown.1];simp
      ·rw [hNV,List.size_toArray,q4w _ _ _ (by simp at hcul hspl ⊢;omega)];simpa using hcs
      ·rw [hNV];simp only [List.length_set,Nat.add_assoc bo];rw [z1g _ _ _ _ _ (by simp at hcul hspl ⊢;omega)];rw [z1y _ _ _ _ hspl hcul,htk]
      ·intro q hq;rcases List.mem_or_eq_of_mem_set hq with h1 | h1
       ·exact hshp q h1
       ·rw [h1];exact hzs
      ·intro i' x' j c u hx' hj hu
       show j≠k.j->RP _ Im c u
       intro hjk;rw [q1s _ _ _ _ (by rw [hown.1];exact hspl)] at hu;have key:∃ x0,xs[i']? = some x0 /\ x0.cells[j]? = some c:=by
        by_cases e1:i'=i
        ·subst e1;rw [List.getElem?_set_self hi] at hx';injection hx' with hx'
         subst hx';rcases hzc j c hj with ⟨h1,h2,_⟩ | ⟨_,h3⟩
         ·rw [c0] at h2;omega
         ·exact ⟨y0,hxi,h3⟩
        ·rw [List.getElem?_set_ne (Ne.symm e1)] at hx';exact ⟨x',hx',hj⟩
       obtain ⟨x0,hx0,hj0⟩:=key;have hjl:j<csz vsh:=by rw [<- PV.shp_len (hshp x0 (List.mem_of_getElem? hx0))];exact (List.getElem?_eq_some_iff.1 hj0).1
       have hkj:=hks.jlt;have hne2:i'*csz vsh+j≠i*csz vsh+k.j:=by
        rcases Nat.lt_trichotomy i' i with h3 | h3 | h3
        ·have:(i'+1)*csz vsh<=i*csz vsh:=Nat.mul_le_mul_right _ h3
         rw [Nat.add_mul] at this;omega
        ·subst h3;omega
        ·have:(i+1)*csz vsh<=i'*csz vsh:=Nat.mul_le_mul_right _ h3
         rw [Nat.add_mul] at this;omega
       have hu':vals[i'*csz vsh+j]? = some u:=by
        split at hu
        ·exact hu
        ·rw [if_neg (by simp;omega)] at hu;exact hu
       have h4:=hrp i' x0 j c u hx0 hj0 hu';unfold RPk at h4;rw [hk] at h4;exact RP.mono him (h4 hjk)
      ·rcases hVb b hb with h1 | h1
       ·exact (hbk b h1).1 rfl hI
       ·exact (hbk2 b h1).1 rfl hI
      ·rw [hVm,hVd]
      ·intro p x1 hx1 _;by_cases e1:p=i
       ·subst e1;rw [List.getElem?_set_self hi] at hx1;injection hx1 with hx1
        subst hx1;have hzl:=PV.shp_len hzs;have hkj:=hks.jlt;have hc1:z.cells[k.j]? = some z.cells[k.j]:=by simp [hzl,hkj]
        have hc2:z.cells[k.j]? = some (.row k.sh 0 (ys.take len)):=by
         rcases hzc k.j _ hc1 with ⟨_,_,h3⟩ | ⟨h2,_⟩
         ·rw [hc1,<- h3];simp [PV.cells]
         ·rw [c0] at h2;omega
        refine ⟨0,_,y,hc2,.inl rfl,by rw [List.getElem?_set_self (by rw [hks.len];exact hi)],?_,_,by rw [hxl];exact hylt,fun x hx=>hshp2 x (List.mem_of_mem_take hx),?_⟩
        ·rw [q1s _ _ _ _ (by rw [hown.1];exact hspl),if_neg (Nat.lt_irrefl _),if_pos (by simp)];simp
        ·intro q x j c u hx hj hu;have hql:q<len:=by have:=(List.getElem?_eq_some_iff.1 hx).1;rwa [hxl] at this
         rw [List.getElem?_take_of_lt hql] at hx;have hu':vals2[q*csz k.sh+j]? = some u:=by
          rw [List.getElem?_take] at hu;split at hu
          ·exact hu
          ·cases hu
         exact RP.mono him (hrp2 q x j c u hx hj hu')
       ·rw [List.getElem?_set_ne (Ne.symm e1)] at hx1;obtain ⟨f2,ys2,u2,c1,c2,c3,c4,c5⟩:=hks.kid p x1 hx1 (hhole p e1);refine ⟨f2,ys2,u2,c1,c2,by rw [List.getElem?_set_ne (Ne.symm e1)];exact c3,?_,c5.keep him fun b hb=>hoth b fun h=>hdis p u2 b c3 hb (h ▸ hgm)⟩
        show (vals.take (i*csz vsh+k.j)++[y]++vals.drop (i*csz vsh+k.j+[y].length))[p*csz vsh+k.j]? = some u2
        rw [q1s _ _ _ _ (by rw [hown.1];exact hspl)];have hkj:=hks.jlt;have hne2:p*csz vsh+k.j≠i*csz vsh+k.j:=by
         intro h
         have:p*csz vsh=i*csz vsh:=by omega
         exact e1 (Nat.eq_of_mul_eq_mul_right (q3w vsh) this)
        split
        ·exact c4
        ·rename_i h5;rw [if_neg (fun h6=>by simp only [List.length_singleton] at h6;omega)];exact c4
      ·have old:∀ (p:Nat) (u:Value) (b:Nat),(ks.set i y)[p]? = some u->kidBlk u b->(p=i /\ Blk v2 b)∨(ks[p]? = some u /\ Blk v b):=by
        intro p u b hp hb;by_cases e1:p=i
        ·subst e1;rw [List.getElem?_set_self (by rw [hks.len];exact hi)] at hp;injection hp with hp
         subst hp;exact .inl ⟨rfl,hyB b hb⟩
        ·rw [List.getElem?_set_ne (Ne.symm e1)] at hp;exact .inr ⟨hp,q1e hv hp hb⟩
       intro p p' u u' b h1 h2 h3 h4;rcases old p u b h1 h3 with ⟨a1,a2⟩ | ⟨a1,a2⟩ <;> rcases old p' u' b h2 h4 with ⟨b1,b2⟩ | ⟨b1,b2⟩
       ·omega
       ·exact (hcross b b2 a2).elim
       ·exact (hcross b a2 b2).elim
       ·exact hks.inj p p' u u' b a1 b1 h3 h4
      ·intro p u hu;rw [q1s _ _ _ _ (by rw [hown.1];exact hspl)] at hu;split at hu
       ·exact hks.one p u hu
       ·split at hu
        ·have:u=y:=by
          have:=List.mem_of_getElem? hu
          simpa using this
         rw [this];exact hyc.2.1
        ·exact hks.one p u hu
      ·intro p u b hp hb;rw [hVm];by_cases e1:p=i
       ·subst e1;rw [List.getElem?_set_self (by rw [hks.len];exact hi)] at hp;injection hp with hp
        subst hp;exact fun h=>hcross b (q1g h) (hyB b hb)
       ·rw [List.getElem?_set_ne (Ne.symm e1)] at hp;exact hdis p u b hp hb
     ·rw [hRid2] at hv';cases hv'
    ·rintro q (rfl | rfl) hd
     ·rw [hoid,hX] at hd;cases hd
     ·exact hRid2
    ·rintro q a (rfl | rfl) ha' hd
     ·exact ⟨_,hRid⟩
     ·rw [hoid2] at ha';injection ha' with ha';exact absurd ha'.symm hd
    ·rintro q (rfl | rfl) hql h0
     ·rw [hρ] at h0;cases h0
     ·rw [hρ2] at h0;cases h0
   ·cases h
  ·cases h
 ·cases h
theorem x83 (hE:EnvOK P E) {T e sh by_:Nat} (hT:E.sl T=some (e,sh,by_)) (hsm:csz sh<=16777216) {u:Value} (hu:u.cells.size=csz sh) (w:World) :
  ∃ cells:Array Value,(Instr.buildSlice T 1 #[(0,u)]).run P w=.ok (.slice (some ⟨w.heap.size,0,none⟩) 1 1) (w.alloc (.cells cells e)) /\ cells.size=csz sh /\ ∀ j,j<csz sh->cells[j]? = u.cells[j]?:=by
 obtain ⟨hun,⟨inf,z,hi,hsz,hby,hiz,hzs⟩,_⟩:=hE.sl T e sh by_ hT;have hp:=q3w sh;obtain ⟨zc,hzc⟩:∃ zc,zc=(Array.range (1*csz sh)).map (fun k=>z.cells[k % z.cells.size]!):=⟨_,rfl⟩;have hzcs:zc.size=1*csz sh:=by rw [hzc];simp
 obtain ⟨cells,hfill,hcs,hget⟩:=Great.fill_dense hp [u] 0 zc (by simpa using hu) (by rw [hzcs];simp);refine ⟨cells,?_,by rw [hcs,hzcs];omega,fun j hj=>?_⟩
 ·refine run_buildSlice w T e 1 _ cells inf z hun hi hiz (by omega) (by omega) ?_;rw [hsz];subst hzc;simpa using hfill
 ·rw [hget,if_pos ⟨by simp,by simpa using hj⟩];have h1:j / csz sh=0:=Nat.div_eq_of_lt hj;simp [h1,Nat.mod_eq_of_lt hj]
theorem w0b {cs:List CV}:∀ {vs:List PV},allP cs=some vs->cs=vs.map .p:=by
 induction cs with
 | nil=>intro vs h;simp [allP] at h;subst h;rfl
 | cons c cs ih=>
  intro vs h;cases c <;> simp only [allP] at h <;> first | (cases h;done) | skip
  obtain ⟨us,hu,rfl⟩:=Option.map_eq_some_iff.1 h;rw [ih hu];rfl
theorem x98 {v x:Value} {s lo len:Nat} (h:RSl v s lo len x):x.cells=#[x] /\ x.oneCell'=true:=by
 unfold RSl at h;split at h
 · obtain ⟨off,rfl,_⟩:=h;exact ⟨rfl,rfl⟩
 · obtain ⟨_,_,rfl⟩:=h;exact ⟨rfl,rfl⟩
 · exact h.elim
theorem x4a {sh:Nat} {vs:List PV} (h:(z8m sh vs).shp sh=true) (hl:vs.length=csz sh):(z8m sh vs).cells=vs:=by
 cases sh with
 | succ n=>rfl
 | zero=>
  have c0:csz 0=1:=rfl;rw [c0] at hl
  match vs,hl with
  | [v],_=>exact PV.cells_of_one (by simpa [PV.shp,z8m] using h)
theorem z82 (hE:EnvOK P E) (hs:SR w Im ρ o) {T:TypeId} {n:Nat} {t:List AV} {ev:Operand->Value} {ps:Array (Nat × Operand)} (hra:∀ q∈ps.toList,RA w Im ρ o (aval t q.2) (ev q.2)) (h:opBuildNest E T n t ps.toList o K=some r) :
  Did P w Im ρ o K r (Instr.buildSlice T n (ps.map fun (i,x)=>(i,ev x))):=by
 unfold opBuildNest at h;split at h
 ·rename_i k e sh by_ i0 x hnest hT hps;split at h
  ·rename_i cs hsv;split at h
   ·rename_i id2 ver2 sh2 lo len hcj;split at h
    ·rename_i e2 sh2' ver2' ys ho2;obtain ⟨hcnd,h9⟩:=q0j h;clear h;simp only [Bool.and_eq_true,beq_iff_eq,decide_eq_true_eq] at hcnd;obtain ⟨⟨⟨⟨⟨⟨⟨⟨rfl,rfl⟩,hsm⟩,rfl⟩,rfl⟩,rfl⟩,rfl⟩,rfl⟩,hlen⟩:=hcnd;obtain ⟨vs,hvs,h8⟩:=bind_some h9;clear h9;obtain ⟨hshp1,hkk⟩:=q0j h8;clear h8;simp only [Bool.and_eq_true,beq_iff_eq] at hshp1;obtain ⟨hvsl,hshp1⟩:=hshp1;have hec:=x4a hshp1 hvsl;obtain ⟨sv,hsv,hcs0⟩:=Option.map_eq_some_iff.1 hsv;have hcs:=w0b hvs;have hpa:ps=#[(0,x)]:=by rw [<- Array.toArray_toList (xs:=ps),hps]
     have hx:=hra (0,x) (by rw [hps];simp);simp only [q2k hsv] at hx;obtain ⟨us,hux⟩:∃ us,us=(ev x).cells:=⟨_,rfl⟩;have hxx:us.size=cs.length /\ (∀ (i:Nat) (c:CV) (y:Value),cs[i]? = some c->us[i]? = some y->RC w Im ρ o c y) /\ ∀ (i:Nat) (y:Value),us[i]? = some y->y.oneCell'=true:=by
      cases sv with
      | agg cs'=>
       obtain ⟨us',h1,h2,h3,h4⟩:=hx;have e1:us=us':=by rw [hux,h1];rfl
       have e2:cs'=cs:=hcs0;subst e1;subst e2;exact ⟨h2,h3,h4⟩
      | c c'=>
       have e2:[c']=cs:=hcs0;subst e2;have hxr:RC w Im ρ o c' (ev x):=hx;have hk0:k.j=0:=by
        cases hkk0:k.j with
        | zero=>rfl
        | succ q=>rw [hkk0] at hcj;simp at hcj
       have hcj2:=hcj;rw [hk0] at hcj2;have hkj:=Option.some.inj (show some c'=_ from hcj2);have hxr2:=hxr;rw [hkj] at hxr2;simp only [RC,ho2] at hxr2;obtain ⟨_,v2,_,hsl⟩:=hxr2.2 trivial trivial;obtain ⟨q1,q2⟩:=x98 hsl;rw [hux,q1];refine ⟨rfl,fun i c y hc hy=>?_,fun i y hy=>?_⟩
       ·cases i with
        | zero=>simp at hc hy;subst hc;subst hy;exact hxr
        | succ i=>simp at hc
       ·cases i with
        | zero=>simp at hy;subst hy;exact q2
        | succ i=>simp at hy
     obtain ⟨hul,hur,hu1⟩:=hxx;have hjl:k.j<cs.length:=(List.getElem?_eq_some_iff.1 hcj).1;obtain ⟨y,hy⟩:∃ y,us[k.j]? = some y:=⟨us[k.j]'(by omega),by simp [hul,hjl]⟩;have hb:=hur k.j _ y hcj hy;simp only [RC,ho2] at hb;obtain ⟨_,v2,hρ2,hsl2⟩:=hb.2 trivial trivial;obtain ⟨vals2,hown2,hshp2,hrp2,hbk2,_⟩:=hs.ob id2 _ _ ho2 hρ2
     replace hrp2:∀ (i:Nat) (x:PV) (j:Nat) (c:PV) (y:Value),ys[i]? = some x->x.cells[j]? = some c->vals2[i*csz k.sh+j]? = some y->RP w Im c y:=hrp2
     obtain ⟨hyo,hyb⟩:=q97 hown2 hsl2 hlen;have hyc:=y6e hyo;have hyB:∀ b,kidBlk y b->Blk v2 b:=fun b hb=>q1g ((hyb b).1 (q7b hb))
     have hvl:vs.length=cs.length:=by rw [<- List.length_map (f:=CV.p),<- hcs];simp
     have hsh:csz sh=cs.length:=by omega
     have hucs:(ev x).cells.size=csz sh:=by rw [<- hux];omega
     obtain ⟨cells,hrun,hcsz,hcget⟩:=x83 hE hT hsm hucs w;have hcu:∀ j,j<csz sh->cells[j]? = us[j]?:=fun j hj=>by rw [hcget j hj,hux]
     have hlt2:=(hs.lt id2 _ hρ2).1;have hltb:=(hs.lt id2 _ hρ2).2;have hpush:∀ b,b<w.heap.size->(w.alloc (.cells cells e)).heap[b]? = w.heap[b]?:=fun b hb=>q59 _ _ _ hb
     have him:∀ b,Im b->Im b /\ (w.alloc (.cells cells e)).heap[b]? = w.heap[b]?:=fun b hb=>⟨hb,hpush b (hs.im b hb)⟩
     obtain ⟨V,hVd⟩:∃ V,V=Value.tuple [Value.slice (some ⟨w.heap.size,0,none⟩) 1 1,y].toArray:=⟨_,rfl⟩;have hVm:mainV V=Value.slice (some ⟨w.heap.size,0,none⟩) 1 1:=by rw [hVd];rfl
     have hVb:∀ b,Blk V b->b=w.heap.size∨Blk v2 b:=by
      intro b hb;rw [hVd] at hb;obtain ⟨q,u,hq,hub⟩:=hb
      match q,hq with
      | 0,hq=>simp at hq;subst hq;exact .inl (by simpa using hub.symm)
      | 1,hq=>simp at hq;subst hq;exact .inr (hyB b hub)
      | q+2,hq=>simp at hq
     obtain ⟨X,hX⟩:∃ X,X=AObj.arr ⟨e,some { k with nv:=0,hole:=none }⟩ sh 0 false [z8m sh vs]:=⟨_,rfl⟩;rw [<- hX] at hkk;have hoid2:(o.set id2 .dead++[X])[id2]? = some .dead:=by rw [List.getElem?_append_left (by simpa using hlt2),List.getElem?_set_self hlt2]
     have holen:(o.set id2 .dead++[X])[o.length]? = some X:=by rw [List.getElem?_append_right (by simp)];simp
     obtain ⟨R,hR⟩:∃ R,R=upd (upd ρ id2 none) o.length (some V):=⟨_,rfl⟩;have hRid2:R id2=none:=by rw [hR,q0t (by omega),q0x]
     have hRlen:R o.length=some V:=by rw [hR,q0x]
     have hRne:∀ q,q≠id2->q≠o.length->R q=ρ q:=fun q h1 h2=>by rw [hR,q0t h2,q0t h1]
     have hnone:ρ o.length=none:=by
      cases h:ρ o.length with
      | none=>rfl
      | some u=>have:=(hs.lt _ u h).1;omega
     have hc:q1u ρ R o (o.set id2 .dead++[X]):=by
      intro q a hq;have hql:=(List.getElem?_eq_some_iff.1 hq).1;by_cases e2:q=id2
      ·subst e2;rw [ho2] at hq;injection hq with hq
       subst hq;exact ⟨.dead,hoid2,trivial⟩
      ·refine ⟨a,by rw [List.getElem?_append_left (by simpa using hql),List.getElem?_set_ne (Ne.symm e2)];exact hq,?_⟩;rw [hRne q e2 (by omega)];cases a <;> simp [q1f]
     have hst:=Step.multi (w':=w.alloc (.cells cells e)) (ρ':=R) (o':=o.set id2 .dead++[X]) hs ⟨rfl,rfl,rfl,by simp⟩ (fun q=>q=id2∨q=o.length) (by simp) ?_ ?_ hc ?_ ?_ ?_ ?_ ?_ ?_ ?_ ?_ ?_
     ·refine ⟨_,_,.slice (some ⟨w.heap.size,0,none⟩) 1 1,_,Im,_,hkk,by rw [hpa];simpa using hrun,hst,?_⟩;simp only [RA,RS,RC,holen];rw [hX];refine ⟨Nat.le_refl _,fun _ _=>⟨by simp,V,hRlen,?_⟩⟩;rw [hVm];exact ⟨0,rfl,by omega,fun _=>by simp⟩
     ·intro q hq hql;simp only [not_or] at hq;exact ⟨by rw [List.getElem?_append_left (by simpa using hql),List.getElem?_set_ne (Ne.symm hq.1)],hRne q hq.1 hq.2⟩
     ·intro q hql hq;simp only [not_or] at hq;refine ⟨List.getElem?_eq_none (by simp;omega),?_⟩;rw [hRne q hq.1 hq.2];cases h:ρ q with
      | none=>rfl
      | some u=>have:=(hs.lt q u h).1;omega
     ·intro b hb _;exact hpush b hb
     ·rintro q v' b (rfl | rfl) hv' hb
      ·rw [hρ2] at hv';injection hv' with hv'
       subst hv';exact (hbk2 b hb).1 rfl
      ·rw [hnone] at hv';cases hv'
     ·rintro q v' b (rfl | rfl) hv' hb
      ·rw [hRid2] at hv';cases hv'
      ·rw [hRlen] at hv';injection hv' with hv'
       subst hv';rcases hVb b hb with h1 | h1
       ·exact .inr (by omega)
       ·exact .inl ⟨id2,_,.inl rfl,hρ2,h1⟩
     ·rintro q v' (rfl | rfl) hv'
      ·rw [hRid2] at hv';cases hv'
      ·rw [hRlen] at hv';injection hv' with hv'
       subst hv';refine ⟨by simp,fun b hb=>?_⟩;rcases hVb b hb with h1 | h1
       ·simp;omega
       ·have:=hltb b h1;simp;omega
     ·rintro q q' v' v1 b (rfl | rfl) (rfl | rfl) h1 h2 h3 h4
      ·rfl
      ·rw [hRid2] at h1;cases h1
      ·rw [hRid2] at h2;cases h2
      ·rfl
     ·rintro q a v' (rfl | rfl) ha' hv'
      ·rw [hRid2] at hv';cases hv'
      ·rw [holen] at ha';rw [hRlen] at hv';injection ha' with ha'
       injection hv' with hv'
       subst ha';subst hv';rw [hX];have hxl:(ys.take len).length=len:=by simp;omega
       have hcl:cells.toList.length=csz sh:=by simpa using hcsz
       have hylt:(w.alloc (.cells cells e)).ownsAt 0 k.e (csz k.sh) y len (vals2.take (len*csz k.sh)):=q4g (fun b hb=>hpush b (hltb b (hyB b hb))) hyo;have hown':(w.alloc (.cells cells e)).ownsAt 0 e (csz sh) (.slice (some ⟨w.heap.size,0,none⟩) 1 1) 1 cells.toList:=by
        refine World.ownsAt_of ⟨by simp [hcl],.inr ⟨w.heap.size,1,cells,rfl,Nat.zero_le _,q98 _ _,Nat.le_refl _,by simp [maxLen],by omega,?_⟩⟩;rw [Nat.one_mul,<- hcl,List.take_length]
       refine ⟨cells.toList,by rw [hVm];exact hown',by simpa using hshp1,?_,fun b hb=>⟨fun _ hI=>?_,fun h=>nomatch h⟩,rfl,[y],by rw [hVm,hVd],⟨rfl,by show k.j<csz sh;omega,?_,(fun p u h=>nomatch h),?_,?_⟩,?_⟩
       ·intro p x1 j c u hx1 hj hu
        show j≠k.j->RP _ Im c u
        intro hjk;cases p with
        | succ p=>simp at hx1
        | zero=>
         simp at hx1;subst hx1;rw [hec] at hj;have hjl2:j<csz sh:=by rw [hsh,<- hvl];exact (List.getElem?_eq_some_iff.1 hj).1
         rw [Nat.zero_mul,Nat.zero_add,Array.getElem?_toList,hcu j hjl2] at hu;have hcj2:cs[j]? = some (.p c):=by
          have h1:(cs.set k.j (.p (.row k.sh 0 (ys.take len))))[j]? = some (.p c):=by rw [hcs];simp [hj]
          rwa [List.getElem?_set_ne (Ne.symm hjk)] at h1
         exact RP.mono him (hur j _ u hcj2 hu)
       ·rcases hVb b hb with h1 | h1
        ·have:=hs.im b hI;omega
        ·exact (hbk2 b h1).1 rfl hI
       ·intro p x1 hx1 _;cases p with
        | succ p=>simp at hx1
        | zero=>
         simp at hx1;subst hx1;have hvj:vs[k.j]? = some (.row k.sh 0 (ys.take len)):=by
          have h1:(cs.set k.j (.p (.row k.sh 0 (ys.take len))))[k.j]? = some (.p (.row k.sh 0 (ys.take len))):=List.getElem?_set_self hjl;rw [hcs] at h1;simpa using h1
         refine ⟨0,_,y,by rw [hec];exact hvj,.inl rfl,rfl,?_,_,by rw [hxl];exact hylt,fun x hx=>hshp2 x (List.mem_of_mem_take hx),?_⟩
         ·rw [Nat.zero_mul,Nat.zero_add,Array.getElem?_toList,hcu k.j (by omega)];exact hy
         ·intro q x j c u hx hj hu;have hql:q<len:=by have:=(List.getElem?_eq_some_iff.1 hx).1;rwa [hxl] at this
          rw [List.getElem?_take_of_lt hql] at hx;have hu':vals2[q*csz k.sh+j]? = some u:=by
           rw [List.getElem?_take] at hu;split at hu
           ·exact hu
           ·cases hu
          exact RP.mono him (hrp2 q x j c u hx hj hu')
       ·intro p p' u u' b h1 h2 _ _;have h3:=(List.getElem?_eq_some_iff.1 h1).1;have h4:=(List.getElem?_eq_some_iff.1 h2).1;simp at h3 h4;omega
       ·intro p u hu;have hp2:p<csz sh:=by rw [<- hcl];exact (List.getElem?_eq_some_iff.1 hu).1
        rw [Array.getElem?_toList,hcu p hp2] at hu;exact hu1 p u hu
       ·intro p u b hp2 hb;rw [hVm];cases p with
        | succ p=>simp at hp2
        | zero=>
         simp at hp2;subst hp2;intro h
         have:=hltb b (hyB b hb)
         simp at h;omega
     ·rintro q (rfl | rfl) hd
      ·exact hRid2
      ·rw [holen,hX] at hd;cases hd
     ·rintro q a (rfl | rfl) ha' hd
      ·rw [hoid2] at ha';injection ha' with ha';exact absurd ha'.symm hd
      ·exact ⟨_,hRlen⟩
     ·rintro q (rfl | rfl) hql h0
      ·rw [hρ2] at h0;cases h0
      ·omega
    ·cases h
   ·cases h
  ·cases h
 ·cases h
theorem z7f (hE:EnvOK P E) (hs:SR w Im ρ o) {T ty:TypeId} {a b:AV} {x y:Value} (ha:RA w Im ρ o a x) (hb:RA w Im ρ o b y) (h:opAppendNest E T a b o K=some r):Did P w Im ρ o K r (Builtin.append_ #[T,T] ty #[x,y]):=by
 unfold opAppendNest at h;split at h
 ·rename_i e sh by_ id ver sh1 lo len id2 ver2 sh2 lo2 len2 hT hca hcb;rw [q0s hca] at ha;rw [q0s hcb] at hb;split at h
  ·rename_i e1 sh1' ver' xs e2 sh2' ver2' ys ho ho2;split at h
   ·rename_i k1 k2 hk1 hk2;obtain ⟨hcnd,hkk⟩:=q0j h;clear h;simp only [Bool.and_eq_true,beq_iff_eq,bne_iff_ne,decide_eq_true_eq,Option.isNone_iff_eq_none] at hcnd;obtain ⟨⟨⟨⟨⟨⟨⟨⟨⟨⟨⟨⟨⟨⟨⟨⟨⟨⟨⟨het,het2⟩,hj⟩,hke⟩,hksh⟩,hh1⟩,hh2⟩,rfl⟩,rfl⟩,rfl⟩,rfl⟩,rfl⟩,rfl⟩,rfl⟩,rfl⟩,hne⟩,rfl⟩,rfl⟩,hlb⟩,hll⟩:=hcnd;simp only [RA,RS,RC,ho] at ha;obtain ⟨_,v,hρ,hsl⟩:=ha.2 trivial trivial;simp only [RA,RS,RC,ho2] at hb;obtain ⟨_,v2,hρ2,hsl2⟩:=hb.2 trivial trivial;obtain ⟨vals,hown,hshp,hrp,hbk,hkids⟩:=hs.ob id _ _ ho hρ;obtain ⟨vals2,hown2,hshp2,hrp2,hbk2,hkids2⟩:=hs.ob id2 _ _ ho2 hρ2;simp only [RKids,hk1] at hkids;simp only [RKids,hk2] at hkids2;obtain ⟨_,ks,hv,hks,hdis⟩:=hkids;obtain ⟨_,ks2,hv2,hks2,hdis2⟩:=hkids2;obtain ⟨hx,hxb⟩:=q97 hown hsl (Nat.le_refl _);obtain ⟨hy,hyb⟩:=q97 hown2 hsl2 (Nat.le_refl _);have e1v:vals.take (xs.length*csz sh)=vals:=by rw [<- hown.1,List.take_length]
    have e2v:vals2.take (ys.length*csz sh)=vals2:=by rw [<- hown2.1,List.take_length]
    rw [e1v,het] at hx;rw [e2v,het2] at hy;obtain ⟨hu,⟨inf,z,hi,hsz,hby,hiz,hzs⟩,_⟩:=hE.sl T e sh by_ hT;have hp:=q3w sh;have hlim:xs.length+ys.length<=maxLen:=by simp only [maxLen];simp only [LIM] at hll;omega
    have main:∃ (v':Value) (w':World),(Builtin.append_ #[T,T] ty #[x,y]).run P w=.ok v' w' /\ w'.ownsAt 0 e (csz sh) v' (xs.length+ys.length) (vals++vals2) /\ w.grownBy w' x.ownBlock /\ (v'.ownBlock=x.ownBlock∨v'.ownBlock=some w.heap.size):=by
     rcases hy.2 with ⟨rfl,hy0⟩ | ⟨g2,bo2,cap2,cur2,rfl,_⟩
     ·have hys0:ys=[]:=List.eq_nil_of_length_eq_zero hy0;have hv20:vals2=[]:=List.eq_nil_of_length_eq_zero (by rw [hown2.1,hy0];simp);subst hys0;subst hv20;refine ⟨x,w,?_,by simpa using hx,⟨rfl,rfl,rfl,Nat.le_refl _,fun _ _ _=>rfl⟩,.inl rfl⟩;rcases hx.2 with ⟨rfl,hn⟩ | ⟨g,bo,cap,cur,rfl,_,_,hnc,_⟩
      ·exact q16 hu hi none none 0 0 0 (Nat.le_refl _) w
      ·exact q16 hu hi _ none _ cap 0 hnc w
     ·obtain ⟨v',w',hrun,hown',hgr,_,hat⟩:=run_append_at (P:=P) w T ty e inf z (csz sh) by_ hu hi hiz hsz hby hzs hp x xs.length _ hx ⟨g2,bo2,none⟩ ys.length cap2 vals2 hown2.1 (hy.cells (g:=g2) (bo:=bo2) rfl) (fun u hu=>by
       obtain ⟨p,hp⟩:=List.getElem?_of_mem hu;exact hks2.one p u hp) hlim (by simpa [LIM] using hlb)
      exact ⟨v',w',hrun,hown',hgr,hat⟩
    obtain ⟨v',w',hrun,hown',hgr,hat⟩:=main;have hxB:∀ b,x.ownBlock=some b->kidBlk (mainV v) b:=by
     intro b hb;refine (hxb b).1 ?_;rcases hx.2 with ⟨rfl,_⟩ | ⟨g,bo,cap,cur,rfl,_⟩
     ·cases hb
     ·simp [Value.ownBlock] at hb;subst hb;rfl
    have hvb:∀ b,kidBlk v' b->kidBlk (mainV v) b∨b=w.heap.size:=by
     intro b hb;have h1:=((y6e hown').2.2 b).1 hb;rcases hat with h2 | h2
     ·exact .inl (hxB b (h2 ▸ h1))
     ·rw [h2] at h1;injection h1 with h1;exact .inr h1.symm
    have hcross:∀ b,Blk v b->Blk v2 b->False:=fun b h1 h2=>hne (hs.inj id id2 v v2 b hρ hρ2 h1 h2)
    have hunch:∀ b,b<w.heap.size->¬ kidBlk (mainV v) b->w'.heap[b]? = w.heap[b]?:=fun b hb hne=>hgr.block b hb fun h=>hne (hxB b h.symm)
    have hlt:=(hs.lt id _ hρ).1;have hlt2:=(hs.lt id2 _ hρ2).1;have hltb:=(hs.lt id _ hρ).2;have hltb2:=(hs.lt id2 _ hρ2).2;have him:∀ b,Im b->Im b /\ w'.heap[b]? = w.heap[b]?:=fun b hb=>⟨hb,hunch b (hs.im b hb) fun h=>(hbk b (q1g h)).1 rfl hb⟩
    obtain ⟨V,hVd⟩:∃ V,V=Value.tuple (v'::(ks++ks2)).toArray:=⟨_,rfl⟩;have hVm:mainV V=v':=by rw [hVd];rfl
    have hkk2:∀ (q:Nat) (u:Value),(ks++ks2)[q]? = some u->(q<xs.length /\ ks[q]? = some u)∨(xs.length<=q /\ ks2[q-xs.length]? = some u):=by
     intro q u hq;rcases Nat.lt_or_ge q ks.length with h1 | h1
     ·rw [List.getElem?_append_left h1] at hq;exact .inl ⟨by rw [<- hks.len];exact h1,hq⟩
     ·rw [List.getElem?_append_right h1] at hq;exact .inr ⟨by rw [<- hks.len];exact h1,by rw [<- hks.len];exact hq⟩
    have hVb:∀ b,Blk V b->Blk v b∨Blk v2 b∨b=w.heap.size:=by
     intro b hb;rw [hVd] at hb;obtain ⟨q,u,hq,hub⟩:=hb;cases q with
     | zero=>
      simp at hq;subst hq;rcases hvb b hub with h1 | h1
      ·exact .inl (q1g h1)
      ·exact .inr (.inr h1)
     | succ q=>
      rcases hkk2 q u (by simpa using hq) with ⟨_,h1⟩ | ⟨_,h1⟩
      ·exact .inl (q1e hv h1 hub)
      ·exact .inr (.inl (q1e hv2 h1 hub))
    obtain ⟨X,hX⟩:∃ X,X=AObj.arr e1 sh (ver+1) false (xs++ys):=⟨_,rfl⟩;rw [<- hX] at hkk;have hoid:((o.set id X).set id2 .dead)[id]? = some X:=by rw [List.getElem?_set_ne (Ne.symm hne),List.getElem?_set_self hlt]
    have hoid2:((o.set id X).set id2 .dead)[id2]? = some .dead:=by rw [List.getElem?_set_self (by simpa using hlt2)]
    obtain ⟨R,hR⟩:∃ R,R=upd (upd ρ id (some V)) id2 none:=⟨_,rfl⟩;have hRid:R id=some V:=by rw [hR,q0t hne,q0x]
    have hRid2:R id2=none:=by rw [hR,q0x]
    have hRne:∀ q,q≠id->q≠id2->R q=ρ q:=fun q h1 h2=>by rw [hR,q0t h2,q0t h1]
    have hc:q1u ρ R o ((o.set id X).set id2 .dead):=by
     intro q a hq;by_cases e1:q=id
     ·subst e1;rw [ho] at hq;injection hq with hq
      subst hq;refine ⟨X,hoid,?_⟩;rw [hX];exact Or.inl (Nat.lt_succ_self _)
     ·by_cases e2:q=id2
      ·subst e2;rw [ho2] at hq;injection hq with hq
       subst hq;exact ⟨.dead,hoid2,trivial⟩
      ·refine ⟨a,by rw [List.getElem?_set_ne (Ne.symm e2),List.getElem?_set_ne (Ne.symm e1)];exact hq,?_⟩;rw [hRne q e1 e2];cases a <;> simp [q1f]
    have hst:=Step.multi (w':=w') (ρ':=R) (o':=(o.set id X).set id2 .dead) hs ⟨hgr.os,hgr.tape,hgr.output,hgr.size⟩ (fun q=>q=id∨q=id2) (by simp) ?_ ?_ hc ?_ ?_ ?_ ?_ ?_ ?_ ?_ ?_ ?_
    ·refine ⟨_,_,v',w',Im,_,hkk,hrun,hst,?_⟩;simp only [RA,RS,RC,hoid];rw [hX];refine ⟨Nat.le_refl _,fun _ _=>⟨by simp,V,hRid,?_⟩⟩;rw [hVm];exact q4h hown'
    ·intro q hq hql;simp only [not_or] at hq;exact ⟨by rw [List.getElem?_set_ne (Ne.symm hq.2),List.getElem?_set_ne (Ne.symm hq.1)],hRne q hq.1 hq.2⟩
    ·intro q hql hq;simp only [not_or] at hq;refine ⟨List.getElem?_eq_none (by simp;omega),?_⟩;rw [hRne q hq.1 hq.2];cases h:ρ q with
     | none=>rfl
     | some u=>have:=(hs.lt q u h).1;omega
    ·intro b hb hno;exact hunch b hb fun h=>hno id v (.inl rfl) hρ (q1g h)
    ·rintro q v' b (rfl | rfl) hv' hb
     ·rw [hρ] at hv';injection hv' with hv'
      subst hv';exact (hbk b hb).1 rfl
     ·rw [hρ2] at hv';injection hv' with hv'
      subst hv';exact (hbk2 b hb).1 rfl
    ·rintro q v' b (rfl | rfl) hv' hb
     ·rw [hRid] at hv';injection hv' with hv'
      subst hv';rcases hVb b hb with h1 | h1 | h1
      ·exact .inl ⟨q,_,.inl rfl,hρ,h1⟩
      ·exact .inl ⟨id2,_,.inr rfl,hρ2,h1⟩
      ·exact .inr (by omega)
     ·rw [hRid2] at hv';cases hv'
    ·rintro q v1 (rfl | rfl) hv'
     ·rw [hRid] at hv';injection hv' with hv'
      subst hv';refine ⟨by simpa using hlt,fun b hb=>?_⟩;rw [hVd] at hb;obtain ⟨p,u,hq,hub⟩:=hb;cases p with
      | zero=>
       simp at hq;subst hq;exact q2w hown' b (q7b hub)
      | succ p=>
       rcases hkk2 p u (by simpa using hq) with ⟨_,h1⟩ | ⟨_,h1⟩
       ·exact Nat.lt_of_lt_of_le (hltb b (q1e hv h1 hub)) hgr.size
       ·exact Nat.lt_of_lt_of_le (hltb2 b (q1e hv2 h1 hub)) hgr.size
     ·rw [hRid2] at hv';cases hv'
    ·rintro q q' v' v1 b (rfl | rfl) (rfl | rfl) h1 h2 h3 h4
     ·rfl
     ·rw [hRid2] at h2;cases h2
     ·rw [hRid2] at h1;cases h1
     ·rfl
    ·rintro q a v1 (rfl | rfl) ha' hv'
     ·rw [hoid] at ha';rw [hRid] at hv';injection ha' with ha'
      injection hv' with hv'
      subst ha';subst hv';rw [hX];have split:∀ (p:Nat) (x:PV),(xs++ys)[p]? = some x->(p<xs.length /\ xs[p]? = some x)∨(xs.length<=p /\ ys[p-xs.length]? = some x):=by
       intro p x hp;rcases Nat.lt_or_ge p xs.length with h1 | h1
       ·rw [List.getElem?_append_left h1] at hp;exact .inl ⟨h1,hp⟩
       ·rw [List.getElem?_append_right h1] at hp;exact .inr ⟨h1,hp⟩
      have vget:∀ (p j:Nat),j<csz sh->(p<xs.length->(vals++vals2)[p*csz sh+j]? = vals[p*csz sh+j]?) /\ (xs.length<=p->(vals++vals2)[p*csz sh+j]? = vals2[(p-xs.length)*csz sh+j]?):=by
       intro p j hj;refine ⟨fun h=>?_,fun h=>?_⟩
       ·have:=q4t h hj
        rw [List.getElem?_append_left (by rw [hown.1];exact this)]
       ·have h1:xs.length*csz sh<=p*csz sh:=Nat.mul_le_mul_right _ h;rw [List.getElem?_append_right (by rw [hown.1];omega),hown.1,Nat.sub_mul]
        congr 1
        omega
      have hnk:∀ (q:Nat) (u:Value) (b:Nat),ks[q]? = some u->kidBlk u b->w'.heap[b]? = w.heap[b]?:=fun q u b h1 h2=>hunch b (hltb b (q1e hv h1 h2)) (hdis q u b h1 h2)
      have hnk2:∀ (q:Nat) (u:Value) (b:Nat),ks2[q]? = some u->kidBlk u b->w'.heap[b]? = w.heap[b]?:=fun q u b h1 h2=>hunch b (hltb2 b (q1e hv2 h1 h2)) fun h=>hcross b (q1g h) (q1e hv2 h1 h2)
      refine ⟨vals++vals2,by rw [hVm,List.length_append,het];exact hown',?_,?_,fun b hb=>⟨fun _ hI=>?_,fun h=>nomatch h⟩,?_⟩
      ·intro x hx;rcases List.mem_append.1 hx with hx | hx
       ·exact hshp x hx
       ·exact hshp2 x hx
      ·intro p x j c u hx hjc hu;have hjl:j<csz sh:=by
        rcases split p x hx with ⟨_,h2⟩ | ⟨_,h2⟩
        ·rw [<- PV.shp_len (hshp x (List.mem_of_getElem? h2))];exact (List.getElem?_eq_some_iff.1 hjc).1
        ·rw [<- PV.shp_len (hshp2 x (List.mem_of_getElem? h2))];exact (List.getElem?_eq_some_iff.1 hjc).1
       unfold RPk;rw [hk1];intro hjk;rcases split p x hx with ⟨h1,h2⟩ | ⟨h1,h2⟩
       ·rw [(vget p j hjl).1 h1] at hu;have h4:=hrp p x j c u h2 hjc hu;unfold RPk at h4;rw [hk1] at h4;exact RP.mono him (h4 hjk)
       ·rw [(vget p j hjl).2 h1] at hu;have h4:=hrp2 _ x j c u h2 hjc hu;unfold RPk at h4;rw [hk2] at h4;exact RP.mono him (h4 (by rw [<- hj];exact hjk))
      ·rcases hVb b hb with h1 | h1 | h1
       ·exact (hbk b h1).1 rfl hI
       ·exact (hbk2 b h1).1 rfl hI
       ·have:=hs.im b hI;omega
      ·unfold RKids;rw [hk1];refine ⟨rfl,ks++ks2,by rw [hVm,hVd],⟨by simp [hks.len,hks2.len],hks.jlt,?_,?_,?_,?_⟩,?_⟩
       ·intro p x1 hx1 _;rcases split p x1 hx1 with ⟨h1,h2⟩ | ⟨h1,h2⟩
        ·obtain ⟨f2,ys2,u2,c1,c2,c3,c4,c5⟩:=hks.kid p x1 h2 (by rw [hh1];simp);exact ⟨f2,ys2,u2,c1,c2,by rw [List.getElem?_append_left (by rw [hks.len];exact h1)];exact c3,by rw [(vget p k1.j hks.jlt).1 h1];exact c4,c5.keep him fun b hb=>hnk p u2 b c3 hb⟩
        ·obtain ⟨f2,ys2,u2,c1,c2,c3,c4,c5⟩:=hks2.kid _ x1 h2 (by rw [hh2];simp);refine ⟨f2,ys2,u2,by rw [hj,hksh];exact c1,c2,by rw [List.getElem?_append_right (by rw [hks.len];exact h1),hks.len];exact c3,by rw [(vget p k1.j hks.jlt).2 h1,hj];exact c4,?_⟩;rw [hke,hksh];exact c5.keep him fun b hb=>hnk2 _ u2 b c3 hb
       ·intro p u h;rw [hh1] at h;cases h
       ·intro p p' u u' b h1 h2 h3 h4;rcases hkk2 p u h1 with ⟨a1,a2⟩ | ⟨a1,a2⟩ <;> rcases hkk2 p' u' h2 with ⟨b1,b2⟩ | ⟨b1,b2⟩
        ·exact hks.inj p p' u u' b a2 b2 h3 h4
        ·exact (hcross b (q1e hv a2 h3) (q1e hv2 b2 h4)).elim
        ·exact (hcross b (q1e hv b2 h4) (q1e hv2 a2 h3)).elim
        ·have:=hks2.inj _ _ u u' b a2 b2 h3 h4;omega
       ·intro p u hu;rcases Nat.lt_or_ge p vals.length with h1 | h1
        ·rw [List.getElem?_append_left h1] at hu;exact hks.one p u hu
        ·rw [List.getElem?_append_right h1] at hu;exact hks2.one _ u hu
       ·intro p u b hp2 hb h;rw [hVm] at h;have hlb:b<w.heap.size:=by
         rcases hkk2 p u hp2 with ⟨_,a2⟩ | ⟨_,a2⟩
         ·exact hltb b (q1e hv a2 hb)
         ·exact hltb2 b (q1e hv2 a2 hb)
        rcases hvb b h with h1 | h1
        ·rcases hkk2 p u hp2 with ⟨_,a2⟩ | ⟨_,a2⟩
         ·exact hdis p u b a2 hb h1
         ·exact hcross b (q1g h1) (q1e hv2 a2 hb)
        ·omega
     ·rw [hRid2] at hv';cases hv'
    ·rintro q (rfl | rfl) hd
     ·rw [hoid,hX] at hd;cases hd
     ·exact hRid2
    ·rintro q a (rfl | rfl) ha' hd
     ·exact ⟨_,hRid⟩
     ·rw [hoid2] at ha';injection ha' with ha';exact absurd ha'.symm hd
    ·rintro q (rfl | rfl) hql h0
     ·rw [hρ] at h0;cases h0
     ·rw [hρ2] at h0;cases h0
   ·cases h
  ·cases h
 ·cases h
end
end Go.Dp
namespace Go.Dp
section
variable {P:Program} {E:Env} {w w':World} {Im Im':Nat->Prop} {ρ ρ':Nat->Option Value} {o o':List AObj} {K:Kt} {r:List SV × List (List CV)} {t:List AV} {a:Act}
structure TR (w:World) (Im:Nat->Prop) (ρ:Nat->Option Value) (o:List AObj) (t:List AV) (a:Act):Prop where
 size:a.tmps.size=t.length
 at_:∀ i,RA w Im ρ o (getT t i) (a.tmps.getD i undef)
theorem TR.mono (h:TR w Im ρ o t a) (hk:∀ v x,RA w Im ρ o v x->RA w' Im' ρ' o' v x):TR w' Im' ρ' o' t a:=⟨h.size,fun i=>hk _ _ (h.at_ i)⟩
theorem q55 (t:List AV) (d i:Nat) (v:AV):getT (t.set d v) i=if d=i /\ d<t.length then v else getT t i:=by
 unfold getT;by_cases h:d=i
 ·subst h;by_cases h2:d<t.length
  ·rw [List.getElem?_set_self h2,if_pos ⟨rfl,h2⟩];rfl
  ·rw [if_neg (by omega),List.getElem?_eq_none (by simp;omega),List.getElem?_eq_none (by omega)]
 ·rw [List.getElem?_set_ne h,if_neg (by omega)]
theorem z3n (ts:Array Value) (d i:Nat) (v:Value):(ts.setIfInBounds d v).getD i undef=if d=i /\ d<ts.size then v else ts.getD i undef:=by
 simp only [Array.getD_eq_getD_getElem?,Array.getElem?_setIfInBounds];by_cases h:d=i
 ·subst h;by_cases h2:d<ts.size
  ·simp [h2]
  ·simp [h2]
 ·simp [h]
theorem TR.put (h:TR w Im ρ o t a) {v:AV} {x:Value} (hv:RA w Im ρ o v x) (d:Option Tmp):TR w Im ρ o (putD t d v) (a.put d x):=by
 cases d with
 | none=>exact h
 | some d=>
  refine ⟨by simp [putD,Act.put,h.size],fun i=>?_⟩;simp only [putD,Act.put];rw [q55,z3n,h.size];split
  ·exact hv
  ·exact h.at_ i
theorem y3p (h:TR w Im ρ o t a) (x:Operand):RA w Im ρ o (aval t x) (a.eval x):=by
 cases x with
 | tmp i=>exact h.at_ i
 | const v=>
  simp only [aval,Act.eval];unfold constAV;split
  ·exact RP.int _ _
  ·exact RP.bool _
  ·exact RP.str _
  ·exact RP.nil _ _ (by decide)
  ·trivial
 | global g=>trivial
 | func f=>exact ⟨#[],rfl,rfl,fun i id h=>by simp at h⟩
theorem z6o:∀ {xs:List Operand} {ids:List Nat},(∀ x∈xs,RA w Im ρ o (aval t x) (a.eval x))->capIds t xs=some ids->ids.length=xs.length /\ ∀ (i id:Nat),ids[i]? = some id->∃ y,(xs.map a.eval)[i]? = some y /\ RB ρ o id 0 y
 | [],ids,h,hc=>by simp [capIds] at hc;subst hc;exact ⟨rfl,fun i id h=>by simp at h⟩
 | x::xs,ids,h,hc=>by
  simp only [capIds] at hc;split at hc
  ·rename_i id hx;obtain ⟨is,his,rfl⟩:=Option.map_eq_some_iff.1 hc;obtain ⟨hl,hr⟩:=z6o (fun y hy=>h y (by simp [hy])) his;refine ⟨by simp [hl],fun i j hj=>?_⟩;cases i with
   | zero=>
    simp at hj;subst hj
    have:=h x (by simp)
    rw [q0s hx] at this;exact ⟨a.eval x,by simp,this⟩
   | succ i=>simpa using hr i j (by simpa using hj)
  ·cases hc
theorem z4s:∀ {xs:List Operand} {us:List PV},(∀ x∈xs,RA w Im ρ o (aval t x) (a.eval x))->capVals t xs=some us->us.length=xs.length /\ ∀ (i:Nat) (u:PV),us[i]? = some u->∃ b base,(xs.map a.eval)[i]? = some (.pointer (some ⟨b,base,none⟩)) /\ Im b /\ u.shp u.cells.length=true /\ ∀ (j:Nat) (c:PV),u.cells[j]? = some c->∃ y,w.cell? ⟨b,base+j,none⟩=some y /\ RP w Im c y
 | [],us,h,hc=>by simp [capVals] at hc;subst hc;exact ⟨rfl,fun i u h=>by simp at h⟩
 | x::xs,us,h,hc=>by
  simp only [capVals] at hc;split at hc
  ·rename_i v sh hx;obtain ⟨hsh,hc⟩:=q0j hc;simp only [beq_iff_eq] at hsh;obtain ⟨vs,hvs,rfl⟩:=Option.map_eq_some_iff.1 hc;obtain ⟨hl,hr⟩:=z4s (fun y hy=>h y (by simp [hy])) hvs;refine ⟨by simp [hl],fun i u hu=>?_⟩;cases i with
   | zero=>
    simp at hu;subst hu
    have:=h x (by simp)
    rw [q0s hx] at this;obtain ⟨b,base,h1,h2,h3,h4⟩:=this;refine ⟨b,base,?_,h2,by rw [<- hsh];exact h3,h4⟩;simp only [List.map_cons,List.getElem?_cons_zero,h1,Nat.add_zero]
   | succ i=>simpa using hr i u (by simpa using hu)
  ·cases hc
def DidN (P:Program) (w:World) (Im:Nat->Prop) (ρ:Nat->Option Value) (o:List AObj) (K:Kt) (r:List SV × List (List CV)) (s:Sem Next):Prop :=
 ∃ v o' y w' Im' ρ',K v o'=some r /\ Step w Im ρ o w' Im' ρ' o' /\ RA w' Im' ρ' o' v y /\ (s.run P w=.ok (.value y) w'∨(s.run P w=.ok .skip w' /\ y=undef))
def DidQ (P:Program) (w:World) (Im:Nat->Prop) (ρ:Nat->Option Value) (o:List AObj) (K:Kt) (r:List SV × List (List CV)) (s:Sem Next):Prop :=
 ∃ v y,K v o=some r /\ s.run P w=.ok (.value y) w /\ RA w Im ρ o v y
theorem Did.value {s:Sem Value} (h:Did P w Im ρ o K r s) {n:Sem Next} (e:n=(do pure (.value (<- s)))):DidN P w Im ρ o K r n:=by
 obtain ⟨v,o',y,w',Im',ρ',h1,h2,h3,h4⟩:=h;refine ⟨v,o',y,w',Im',ρ',h1,h3,h4,.inl ?_⟩;subst e;simp [h2]
theorem DidS.value {s:Sem Value} (h:DidS P w Im ρ o K r s) {n:Sem Next} (e:n=(do pure (.value (<- s)))):DidQ P w Im ρ o K r n:=by
 obtain ⟨v,y,h1,h2,h3⟩:=h;refine ⟨v,y,h1,?_,h3⟩;subst e;simp [h2]
theorem DidQ.did (hs:SR w Im ρ o) {n:Sem Next} (h:DidQ P w Im ρ o K r n):DidN P w Im ρ o K r n :=
 let ⟨v,y,h1,h2,h3⟩:=h;⟨v,o,y,w,Im,ρ,h1,Step.refl hs,h3,.inl h2⟩
theorem y6 {x:Option Operand} (h:∀ y,x=some y->RA w Im ρ o (aval t y) (a.eval y)):(∀ v,x.map (aval t)=some v->∃ y,x.map a.eval=some y /\ RA w Im ρ o v y) /\ (x.map (aval t)=none->x.map a.eval=none):=by
 cases x with
 | none=>exact ⟨fun v h=>by simp at h,fun _=>rfl⟩
 | some x=>exact ⟨fun v hv=>by simp at hv;subst hv;exact ⟨_,rfl,h x rfl⟩,fun h=>by simp at h⟩
theorem q7u {α:Type} {xs:Array α} {a:α} (h:xs.toList=[a]):xs=#[a]:=by rw [<- Array.toArray_toList (xs:=xs),h]
theorem q2n {α:Type} {xs:Array α} {a b:α} (h:xs.toList=[a,b]):xs=#[a,b]:=by rw [<- Array.toArray_toList (xs:=xs),h]
theorem w5b {α:Type} {xs:Array α} (h:xs.toList=[]):xs=#[]:=by rw [<- Array.toArray_toList (xs:=xs),h]
theorem x4o (hE:EnvOK P E) (hs:SR w Im ρ o) {T ty:TypeId} {a:AV} {x:Value} (ha:RA w Im ρ o a x) (h:opCap E T a o K=some r):DidS P w Im ρ o K r (Builtin.cap_ #[T] ty #[x]):=by
 unfold opCap at h;split at h
 ·rename_i v q hav hT;obtain ⟨⟨sh,f,xs⟩,hv,h⟩:=bind_some h;obtain ⟨hf,hk⟩:=q0j h;simp only [beq_iff_eq] at hf;subst hf;have hx:=ha.pv hav;rw [q41 hv] at hx;obtain ⟨e,sh',by_⟩:=q;have hu:=(hE.sl T e sh' by_ hT).1;cases hx with
  | nil=>exact DidS.same hk (by simp [Builtin.cap_,run_underlying hu,goInt]) (RP.int _ _)
  | row _ _ _ a cap g hf=>exact absurd rfl hf
 ·cases h
theorem z93 (hE:EnvOK P E) (hs:SR w Im ρ o) (mx:Bool) {ts:Array TypeId} {ty:TypeId} {a b:AV} {x y:Value} (ha:RA w Im ρ o a x) (hb:RA w Im ρ o b y) (h:opMin mx a b o K=some r):DidS P w Im ρ o K r (match mx with | true=>Builtin.max_ ts ty #[x,y] | false=>Builtin.min_ ts ty #[x,y]):=by
 unfold opMin at h;split at h
 ·rename_i k m k' n hav hbv;have hx:=ha.pv hav;have hy:=hb.pv hbv;cases hx;cases hy;cases mx
  ·refine DidS.same h ?_ (RP.int _ _);rw [run_min_int2];simp only [cond_false,minI];by_cases hlt:n<m <;> simp [hlt]
  ·refine DidS.same h ?_ (RP.int _ _);rw [run_max_int2];simp only [cond_true,maxI];by_cases hlt:n>m <;> simp [hlt]
 ·cases h
theorem z1h (hE:EnvOK P E) (hs:SR w Im ρ o) (oo:Oper) {op:Op} (hop:oo.op=op) (av:∀ x∈op.operands.toList,RA w Im ρ o (aval t x) (a.eval x)) (hq:q1k op=true) (h:evOp E op ⟨t,o⟩ K=some r):DidQ P w Im ρ o K r (execOp a.eval oo):=by
 cases op with
 | move x=>exact ⟨_,_,h,by simp [execOp,hop],av x (by simp [Op.operands])⟩
 | assign x=>exact ⟨_,_,h,by simp [execOp,hop],av x (by simp [Op.operands])⟩
 | build T ps=>exact (y9j hE hs (ev:=a.eval) (fun q hq=>av q.2 (by simp only [Op.operands];exact List.mem_map.2 ⟨q,hq,rfl⟩)) h).value (by simp [execOp,hop])
 | load T x=>exact (z7h hE hs (av x (by simp [Op.operands])) h).value (by simp [execOp,hop])
 | nilCheck x=>
  simp only [evOp] at h;split at h
  ·rename_i id off hc;obtain ⟨hb,hk⟩:=q0j h;obtain ⟨cs,ho⟩:=q88 hb;have hx:=av x (by simp [Op.operands]);rw [q0s hc] at hx;have hx':=hx;simp only [RA,RS,RC,RB,ho] at hx';obtain ⟨b,hρ,hv⟩:=hx';exact ⟨_,.pointer (some ⟨b,off,none⟩),hk,by simp [execOp,hop,hv],by rw [hv] at hx;exact hx⟩
  ·cases h
 | binOp op T x y flag=>
  simp only [evOp] at h;split at h
  ·rename_i p q hp hq;split at h
   ·rename_i c hc;obtain ⟨hT,hk⟩:=q0j h;exact (DidS.same (P:=P) hk (z1p hE x y hc hT ((av x (by simp [Op.operands])).pv hp) ((av y (by simp [Op.operands])).pv hq)) (RP.bool _)).value (by simp [execOp,hop])
   cases hn:z20 op p q
   rotate_left
   ·rw [hn] at h;simp only [cond_true] at h;obtain ⟨hT,hk⟩:=q0j h;rw [Bool.and_eq_true] at hT;exact (DidS.same (P:=P) hk (y9f hE x y hn hT.2 hT.1 ((av x (by simp [Op.operands])).pv hp) ((av y (by simp [Op.operands])).pv hq)) (RP.bool _)).value (by simp [execOp,hop])
   rw [hn] at h;simp only [cond_false] at h;rw [y5r] at h;obtain ⟨v,hv,hk⟩:=bind_some h;obtain ⟨z,hz,hr⟩:=x4t hE x y hv ((av x (by simp [Op.operands])).pv hp) ((av y (by simp [Op.operands])).pv hq);exact (DidS.same (P:=P) hk hz hr).value (by simp [execOp,hop])
  ·cases h
 | unOp op T x=>
  obtain ⟨p,hp,h⟩:=bind_some h;obtain ⟨v,hv,hk⟩:=bind_some h;obtain ⟨z,hz,hr⟩:=w1v (P:=P) hv ((av x (by simp [Op.operands])).pv hp);exact (DidS.same (P:=P) hk hz hr).value (by simp [execOp,hop])
 | convert S T x=>exact (y4y hE hs (av x (by simp [Op.operands])) h).value (by simp [execOp,hop])
 | makeFunc fn first caps=>
  simp only [evOp] at h;unfold opMakeFunc at h;split at h
  ·rename_i f hfirst;split at h
   ·rename_i u us hus;obtain ⟨hl,hr⟩:=z4s (fun x hx=>av x (by simp [Op.operands];exact .inr (by simpa using hx))) hus;have h0:=w5b hfirst;subst h0;refine ⟨_,.func (.func f) #[] (caps.map a.eval),h,by simp [execOp,hop,Instr.makeFunc],⟨_,rfl,by simpa using hl.symm,fun i v hi=>?_⟩⟩;obtain ⟨b,base,h1,h2⟩:=hr i v hi;exact ⟨b,base,by rw [<- Array.getElem?_toList];simpa using h1,h2⟩
   obtain ⟨ids,hids,hk⟩:=bind_some h;obtain ⟨hl,hr⟩:=z6o (fun x hx=>av x (by simp [Op.operands];exact .inr (by simpa using hx))) hids;have h0:=w5b hfirst;subst h0;refine ⟨_,.func (.func f) #[] (caps.map a.eval),hk,by simp [execOp,hop,Instr.makeFunc],⟨_,rfl,by simp [hl],fun i id hi=>?_⟩⟩;obtain ⟨y,hy,hb⟩:=hr i id hi;exact ⟨y,by simpa using hy,hb⟩
  ·cases h
 | slice T x lo hi mx=>
  have h1:=y6 (x:=lo) (t:=t) (a:=a) fun y hy=>av y (by simp [Op.operands,hy])
  have h2:=y6 (x:=hi) (t:=t) (a:=a) fun y hy=>av y (by simp [Op.operands,hy])
  have h3:=y6 (x:=mx) (t:=t) (a:=a) fun y hy=>av y (by simp [Op.operands,hy])
  exact (y9n hE hs (av x (by simp [Op.operands])) h1.1 h1.2 h2.1 h2.2 h3.1 h3.2 h).value (by simp [execOp,hop])
 | fieldAddr T x f=>exact (z84 hE hs (av x (by simp [Op.operands])) h).value (by simp [execOp,hop])
 | indexAddr T x i=>exact (z85 hE hs (av x (by simp [Op.operands])) (av i (by simp [Op.operands])) h).value (by simp [execOp,hop])
 | index T x i=>exact (y9m hE hs (av x (by simp [Op.operands])) (av i (by simp [Op.operands])) h).value (by simp [execOp,hop])
 | extract x i=>exact (y4z hs (av x (by simp [Op.operands])) h).value (by simp [execOp,hop])
 | field T x f=>exact (y9l hE hs (av x (by simp [Op.operands])) h).value (by simp [execOp,hop])
 | call c=>
  simp only [evOp] at h;split at h
  ·rename_i x T hc ha hT;exact (x4r hE hs (ty:=oo.type) (av x (by simp [Op.operands,Call.operands,hc,q7u ha])) h).value (by simp [execOp,hop,resolve,hc,invoke,builtin,q7u ha,q7u hT])
  ·rename_i x y T T' hc ha hT;simp [q1k,hc] at hq
  ·rename_i x T hc ha hT;exact (x4o hE hs (ty:=oo.type) (av x (by simp [Op.operands,Call.operands,hc,q7u ha])) h).value (by simp [execOp,hop,resolve,hc,invoke,builtin,q7u ha,q7u hT])
  ·rename_i x y hc ha;exact (z93 hE hs false (ts:=c.argTypes) (ty:=oo.type) (av x (by simp [Op.operands,Call.operands,hc,q2n ha])) (av y (by simp [Op.operands,Call.operands,hc,q2n ha])) h).value (by simp [execOp,hop,resolve,hc,invoke,builtin,q2n ha])
  ·rename_i x y hc ha;exact (z93 hE hs true (ts:=c.argTypes) (ty:=oo.type) (av x (by simp [Op.operands,Call.operands,hc,q2n ha])) (av y (by simp [Op.operands,Call.operands,hc,q2n ha])) h).value (by simp [execOp,hop,resolve,hc,invoke,builtin,q2n ha])
  ·rename_i x y T T' hc ha hT;simp [q1k,hc] at hq
  ·rename_i x T hc ha hT;simp [q1k,hc] at hq
  ·cases h
 | _=>simp [q1k] at hq
theorem x8k (hE:EnvOK P E) (hs:SR w Im ρ o) (oo:Oper) {op:Op} (hop:oo.op=op) (av:∀ x∈op.operands.toList,RA w Im ρ o (aval t x) (a.eval x)) (h:evOp E op ⟨t,o⟩ K=some r):DidN P w Im ρ o K r (execOp a.eval oo):=by
 cases hq:q1k op
 ·cases op with
  | alloc T=>exact (y9i hE hs h).value (by simp [execOp,hop])
  | box T x=>exact (x4m hE hs (av x (by simp [Op.operands])) h).value (by simp [execOp,hop])
  | buildSlice T n ps=>
   simp only [evOp] at h;cases hn:nestEl E T t ps.toList <;> rw [hn] at h <;> simp only [cond_true,cond_false] at h
   ·exact (z7g hE hs (ev:=a.eval) (fun q hq=>av q.2 (by simp only [Op.operands];exact List.mem_map.2 ⟨q,hq,rfl⟩)) h).value (by simp [execOp,hop])
   ·exact (z82 hE hs (ev:=a.eval) (fun q hq=>av q.2 (by simp only [Op.operands];exact List.mem_map.2 ⟨q,hq,rfl⟩)) h).value (by simp [execOp,hop])
  | store T x y=>
   have hd:Did P w Im ρ o K r (do Instr.storeAt T (a.eval x) (a.eval y);pure undef):=by
    simp only [evOp] at h;cases hn:z2r o (aval t x) (aval t y) <;> rw [hn] at h <;> simp only [cond_true,cond_false] at h
    ·exact y9o hE hs (av x (by simp [Op.operands])) (av y (by simp [Op.operands])) h
    ·exact x2r hE hs (av x (by simp [Op.operands])) (av y (by simp [Op.operands])) h
   obtain ⟨v,o',z,w',Im',ρ',h1,h2,h3,h4⟩:=hd;cases hr:(Instr.storeAt T (a.eval x) (a.eval y)).run P w with
   | ok u w2=>
    rw [Sem.run_bind,hr] at h2;simp only [Result.andThen_ok,Sem.run_pure] at h2;injection h2 with h5 h6
    subst h5;subst h6;exact ⟨v,o',_,_,Im',ρ',h1,h3,h4,.inr ⟨by simp [execOp,hop,hr],rfl⟩⟩
   | halt x w2=>
    rw [Sem.run_bind,hr] at h2;simp [Result.andThen] at h2
  | makeSlice T l c=>exact (z86 hE hs (av l (by simp [Op.operands])) (av c (by simp [Op.operands])) h).value (by simp [execOp,hop])
  | call c=>
   simp only [evOp] at h;split at h
   ·rename_i x T hc ha hT;simp [q1k,hc] at hq
   ·rename_i x y T T' hc ha hT;cases he:T==T' <;> rw [he] at h <;> simp only [cond_true,cond_false] at h
    ·exact (y4x hE hs (ty:=oo.type) (av x (by simp [Op.operands,Call.operands,hc,q2n ha])) (av y (by simp [Op.operands,Call.operands,hc,q2n ha])) h).value (by simp [execOp,hop,resolve,hc,invoke,builtin,q2n ha,q2n hT])
    ·simp at he;subst he;cases hn:z8o o (aval t y) <;> rw [hn] at h <;> simp only [cond_true,cond_false] at h
     ·exact (y6d hE hs (ty:=oo.type) (av x (by simp [Op.operands,Call.operands,hc,q2n ha])) (av y (by simp [Op.operands,Call.operands,hc,q2n ha])) h).value (by simp [execOp,hop,resolve,hc,invoke,builtin,q2n ha,q2n hT])
     ·exact (z7f hE hs (ty:=oo.type) (av x (by simp [Op.operands,Call.operands,hc,q2n ha])) (av y (by simp [Op.operands,Call.operands,hc,q2n ha])) h).value (by simp [execOp,hop,resolve,hc,invoke,builtin,q2n ha,q2n hT])
   ·rename_i x T hc ha hT;simp [q1k,hc] at hq
   ·rename_i x y hc ha;simp [q1k,hc] at hq
   ·rename_i x y hc ha;simp [q1k,hc] at hq
   ·rename_i x y T T' hc ha hT;exact (x2q hE hs (T':=T') (ty:=oo.type) (av x (by simp [Op.operands,Call.operands,hc,q2n ha])) (av y (by simp [Op.operands,Call.operands,hc,q2n ha])) h).value (by simp [execOp,hop,resolve,hc,invoke,builtin,q2n ha,q2n hT])
   ·rename_i x T hc ha hT;exact (y9k hE hs (ty:=oo.type) (av x (by simp [Op.operands,Call.operands,hc,q7u ha])) h).value (by simp [execOp,hop,resolve,hc,invoke,builtin,q7u ha,q7u hT])
   ·cases h
  | _=>first | (simp [q1k] at hq;done) | (simp [evOp] at h;done)
 ·exact (z1h hE hs oo hop av hq h).did hs
end
end Go.Dp
namespace Go.Dp
def OwnRow (w:World) (Im:Nat->Prop) (e:Et) (sh:Nat) (xs:List PV) (y:Value):Prop:=RO w Im (fun _=>none) [] y (.arr e sh 0 false xs)
theorem RP.mainV {w:World} {Im:Nat->Prop} {v:PV} {y:Value} (h:RP w Im v y):mainV y=y:=by
 cases h
 case junk h1 _=>cases y <;> first | rfl | (simp [Value.oneCell'] at h1)
 all_goals rfl
theorem RO.arr_lt {w:World} {Im:Nat->Prop} {ρ:Nat->Option Value} {o:List AObj} {v:Value} {e:Et} {sh ver:Nat} {xs:List PV} (h:RO w Im ρ o v (.arr e sh ver false xs)) {b:Nat} (hb:Blk v b):b<w.heap.size:=by
 obtain ⟨vals,hown,_,_,_,hk⟩:=h;cases hkd:e.kd with
 | none=>
  simp only [RKids,hkd] at hk;have hm:=hk trivial;rw [hm] at hown;exact q2w hown b hb
 | some k=>
  simp only [RKids,hkd] at hk;obtain ⟨_,ks,hv,hks,_⟩:=hk;rw [hv] at hb;obtain ⟨q,u,hq,hub⟩:=hb;cases q with
  | zero=>
   simp at hq;subst hq;exact q2w hown b (q7b hub)
  | succ q=>
   replace hq:ks[q]? = some u:=by simpa using hq
   have hql:q<xs.length:=by rw [<- hks.len];exact (List.getElem?_eq_some_iff.1 hq).1
   by_cases hh:k.hole=some q
   ·rw [hks.out q u hh hq] at hub;exact hub.elim
   ·obtain ⟨_,_,u2,_,_,h3,_,vals2,h5,_⟩:=hks.kid q xs[q] (by simp [hql]) hh;rw [hq] at h3;injection h3 with h3
    subst h3;exact q2w h5 b (q7b hub)
def TokC (w:World) (Im:Nat->Prop):CV->Value->Prop
 | .p v,y=>RP w Im v y
 | .own e sh xs,y=>OwnRow w Im e sh xs y
 | _,_=>False
def Ow (ρ:Nat->Option Value) (b:Nat):Prop:=∃ id v,ρ id=some v /\ Blk v b
def OB (cs:List CV) (ys:List Value) (i b:Nat):Prop:=∃ e sh xs y,cs[i]? = some (.own e sh xs) /\ ys[i]? = some y /\ Blk y b
def OBs (cs:List CV) (ys:List Value) (b:Nat):Prop:=∃ i,OB cs ys i b
structure Toks (w:World) (Im:Nat->Prop) (cs:List CV) (ys:List Value) (D:Nat->Prop):Prop where
 len:ys.length=cs.length
 tok:∀ (i:Nat) (c:CV) (y:Value),cs[i]? = some c->ys[i]? = some y->TokC w Im c y
 dis:∀ i j b,OB cs ys i b->OB cs ys j b->i=j
 out:∀ i b,OB cs ys i b->¬ D b
section
variable {P:Program} {E:Env} {w w':World} {Im Im':Nat->Prop} {ρ ρ':Nat->Option Value} {o o':List AObj} {K:Kt} {r:List SV × List (List CV)} {cs:List CV} {ys:List Value} {D D':Nat->Prop}
theorem Toks.nil:Toks w Im [] [] D:=⟨rfl,fun i c y h=>by simp at h,fun i j b ⟨_,_,_,_,h,_⟩=>by simp at h,fun i b ⟨_,_,_,_,h,_⟩=>by simp at h⟩
theorem Toks.lt (h:Toks w Im cs ys D) {i b:Nat} (hb:OB cs ys i b):b<w.heap.size /\ ¬ Im b:=by
 obtain ⟨e,sh,xs,y,h1,h2,h3⟩:=hb;have ht:OwnRow w Im e sh xs y:=h.tok i _ y h1 h2;refine ⟨RO.arr_lt ht h3,?_⟩;obtain ⟨vals,hown,_,_,hz,_⟩:=ht;exact (hz b h3).1 rfl
theorem OwnRow.keep (hi:∀ b,Im b->Im' b /\ w'.heap[b]? = w.heap[b]?) {e:Et} {sh:Nat} {xs:List PV} {y:Value} (hb:∀ b,Blk y b->w'.heap[b]? = w.heap[b]? /\ ¬ Im' b) (h:OwnRow w Im e sh xs y):OwnRow w' Im' e sh xs y:=by
 obtain ⟨vals,hown,h1,h2,h3,h4⟩:=h;exact ⟨vals,q4g (fun b hb'=>(hb b (q1g hb')).1) hown,h1,fun i x j c y a1 a2 a3=>(h2 i x j c y a1 a2 a3).keep hi,fun b hb'=>⟨fun _=>(hb b hb').2,fun h=>nomatch h⟩,h4.keep hi fun b hb'=>(hb b hb').1⟩
theorem Toks.keep (h:Toks w Im cs ys D) (hi:∀ b,Im b->Im' b /\ w'.heap[b]? = w.heap[b]?) (hb:∀ i b,OB cs ys i b->w'.heap[b]? = w.heap[b]? /\ ¬ Im' b /\ ¬ D' b):Toks w' Im' cs ys D':=by
 refine ⟨h.len,fun i c y hc hy=>?_,h.dis,fun i b hob=>(hb i b hob).2.2⟩
 have:=h.tok i c y hc hy
 cases c <;> first | exact this.elim | skip
 · exact RP.mono hi this
 · exact OwnRow.keep hi (fun b hbk=>⟨(hb i b ⟨_,_,_,y,hc,hy,hbk⟩).1,(hb i b ⟨_,_,_,y,hc,hy,hbk⟩).2.1⟩) this
theorem Toks.step (h:Toks w Im cs ys (Ow ρ)) (st:Step w Im ρ o w' Im' ρ' o'):Toks w' Im' cs ys (Ow ρ'):=by
 refine h.keep st.im fun i b hob=>?_
 have hlt:=h.lt hob;have hno:=h.out i b hob;refine ⟨st.fr b hlt.1 fun id v hv hb=>hno ⟨id,v,hv,hb⟩,fun hI=>?_,fun ⟨id,v,hv,hb⟩=>?_⟩
 ·rcases st.imn b hI with h1 | h1 | h1
  ·exact hlt.2 h1
  ·omega
  ·exact hno h1
 ·rcases st.ow id v b hv hb with h1 | h1
  ·omega
  ·exact hno h1
theorem Toks.mono (h:Toks w Im cs ys D) (hd:∀ b,D' b->D b):Toks w Im cs ys D':=⟨h.len,h.tok,h.dis,fun i b hob hD=>h.out i b hob (hd b hD)⟩
theorem OB.left {cs2:List CV} {ys2:List Value} {i b:Nat} (h:OB cs ys i b):OB (cs++cs2) (ys++ys2) i b:=by
 obtain ⟨e,sh,xs,y,h1,h2,h3⟩:=h;have a1:=(List.getElem?_eq_some_iff.1 h1).1;have a2:=(List.getElem?_eq_some_iff.1 h2).1;exact ⟨e,sh,xs,y,by rw [List.getElem?_append_left a1];exact h1,by rw [List.getElem?_append_left a2];exact h2,h3⟩
theorem OB.right {cs2:List CV} {ys2:List Value} {i b:Nat} (hl:ys.length=cs.length) (h:OB cs2 ys2 i b):OB (cs++cs2) (ys++ys2) (cs.length+i) b:=by
 obtain ⟨e,sh,xs,y,h1,h2,h3⟩:=h;exact ⟨e,sh,xs,y,by rw [List.getElem?_append_right (by omega)];simpa using h1,by rw [List.getElem?_append_right (by omega),hl];simpa using h2,h3⟩
theorem OB.split {cs2:List CV} {ys2:List Value} {i b:Nat} (hl:ys.length=cs.length) (h:OB (cs++cs2) (ys++ys2) i b):(i<cs.length /\ OB cs ys i b)∨(cs.length<=i /\ OB cs2 ys2 (i-cs.length) b):=by
 obtain ⟨e,sh,xs,y,h1,h2,h3⟩:=h;rcases Nat.lt_or_ge i cs.length with hi | hi
 ·rw [List.getElem?_append_left hi] at h1;rw [List.getElem?_append_left (by omega)] at h2;exact .inl ⟨hi,_,_,_,_,h1,h2,h3⟩
 ·rw [List.getElem?_append_right hi] at h1;rw [List.getElem?_append_right (by omega),hl] at h2;exact .inr ⟨hi,_,_,_,_,h1,h2,h3⟩
theorem Toks.left {cs2:List CV} {ys2:List Value} (hl:ys.length=cs.length) (h:Toks w Im (cs++cs2) (ys++ys2) D):Toks w Im cs ys D:=by
 refine ⟨hl,fun i c y hc hy=>?_,fun i j b h1 h2=>h.dis i j b h1.left h2.left,fun i b h1=>h.out i b h1.left⟩;have a1:=(List.getElem?_eq_some_iff.1 hc).1;exact h.tok i c y (by rw [List.getElem?_append_left a1];exact hc) (by rw [List.getElem?_append_left (by omega)];exact hy)
theorem Toks.right {cs2:List CV} {ys2:List Value} (hl:ys.length=cs.length) (h:Toks w Im (cs++cs2) (ys++ys2) D):Toks w Im cs2 ys2 D:=by
 refine ⟨by have:=h.len;simp at this;omega,fun i c y hc hy=>?_,fun i j b h1 h2=>by have:=h.dis _ _ b (h1.right hl) (h2.right hl);omega,fun i b h1=>h.out _ b (h1.right hl)⟩;exact h.tok (cs.length+i) c y (by rw [List.getElem?_append_right (by omega)];simpa using hc) (by rw [List.getElem?_append_right (by omega),hl];simpa using hy)
theorem Toks.app {cs2:List CV} {ys2:List Value} (h:Toks w Im cs ys D) (h2:Toks w Im cs2 ys2 D) (hd:∀ i j b,OB cs ys i b->OB cs2 ys2 j b->False):Toks w Im (cs++cs2) (ys++ys2) D:=by
 have hl:=h.len;refine ⟨by simp [h.len,h2.len],fun i c y hc hy=>?_,fun i j b h3 h4=>?_,fun i b h3=>?_⟩
 ·rcases Nat.lt_or_ge i cs.length with hi | hi
  ·rw [List.getElem?_append_left hi] at hc;rw [List.getElem?_append_left (by omega)] at hy;exact h.tok i c y hc hy
  ·rw [List.getElem?_append_right hi] at hc;rw [List.getElem?_append_right (by omega),hl] at hy;exact h2.tok _ c y hc hy
 ·rcases h3.split hl with ⟨a1,a2⟩ | ⟨a1,a2⟩ <;> rcases h4.split hl with ⟨b1,b2⟩ | ⟨b1,b2⟩
  ·exact h.dis i j b a2 b2
  ·exact (hd _ _ b a2 b2).elim
  ·exact (hd _ _ b b2 a2).elim
  ·have:=h2.dis _ _ b a2 b2;omega
 ·rcases h3.split hl with ⟨a1,a2⟩ | ⟨a1,a2⟩
  ·exact h.out i b a2
  ·exact h2.out _ b a2
theorem OB.single {c:CV} {y:Value} {i b:Nat} (h:OB [c] [y] i b):i=0 /\ Blk y b /\ ∃ e sh xs,c=.own e sh xs:=by
 obtain ⟨e,sh,xs,y',h1,h2,h3⟩:=h;cases i with
 | zero=>simp at h1 h2;subst h1;subst h2;exact ⟨rfl,h3,_,_,_,rfl⟩
 | succ i=>simp at h1
theorem Toks.one {c:CV} {y:Value} (h:TokC w Im c y) (hd:∀ e sh xs b,c=.own e sh xs->Blk y b->¬ D b):Toks w Im [c] [y] D:=by
 refine ⟨rfl,fun i c' y' hc hy=>?_,fun i j b h1 h2=>by rw [h1.single.1,h2.single.1],fun i b h1=>?_⟩
 ·cases i with
  | zero=>simp at hc hy;subst hc;subst hy;exact h
  | succ i=>simp at hc
 ·obtain ⟨_,h3,e,sh,xs,rfl⟩:=h1.single;exact hd _ _ _ b rfl h3
def Bx (ρ:Nat->Option Value) (o:List AObj) (ρ':Nat->Option Value) (o':List AObj):Prop :=
 ∀ id cs,(o[id]? = some (.box cs)->o'[id]? = some (.box cs) /\ ρ' id=ρ id) /\ (o'[id]? = some (.box cs)->o[id]? = some (.box cs))
theorem Bx.refl:Bx ρ o ρ o:=fun _ _=>⟨fun h=>⟨h,rfl⟩,fun h=>h⟩
theorem Bx.trans {ρ2:Nat->Option Value} {o2:List AObj} (h:Bx ρ o ρ' o') (k:Bx ρ' o' ρ2 o2):Bx ρ o ρ2 o2 :=
 fun id cs=>⟨fun hc=>let h1:=(h id cs).1 hc;let h2:=(k id cs).1 h1.1;⟨h2.1,h2.2.trans h1.2⟩,fun hc=>(h id cs).2 ((k id cs).2 hc)⟩
theorem z2j {id:Nat} {x:AObj} (h:∀ cs,o[id]?≠some (.box cs)) (hx:∀ cs,x≠.box cs):Bx ρ o ρ (o.set id x):=by
 intro i cs;by_cases e:i=id
 ·subst e;refine ⟨fun hc=>absurd hc (h cs),fun hc=>?_⟩;rw [List.getElem?_set] at hc;simp at hc;exact absurd hc.2 (hx cs)
 ·rw [List.getElem?_set_ne (Ne.symm e)];exact ⟨fun hc=>⟨hc,rfl⟩,fun hc=>hc⟩
theorem q84 {c:CV} {v:PV} {o1:List AObj} (h:freezeC o c=some (v,o1)):Bx ρ o ρ o1:=by
 cases c <;> simp [freezeC] at h
 ·rw [<- h.2];exact Bx.refl
 ·obtain ⟨u,_,_,rfl⟩:=h;unfold freezeO;split
  ·rename_i ho;split
   ·exact z2j (by simp [ho]) (by simp)
   ·cases Option.isNone _
    ·exact Bx.refl
    ·exact z2j (by simp [ho]) (by simp)
  ·exact Bx.refl
theorem z9e:∀ {cs:List CV} {vs:List PV} {o o1:List AObj},freezeCs o cs=some (vs,o1)->Bx ρ o ρ o1
 | [],vs,o,o1,h=>by simp [freezeCs] at h;rw [<- h.2];exact Bx.refl
 | c::cs,vs,o,o1,h=>by
  simp only [freezeCs] at h;obtain ⟨⟨v,o2⟩,hv,h⟩:=bind_some h;obtain ⟨⟨us,o3⟩,hu,h⟩:=bind_some h;simp at h;obtain ⟨_,rfl⟩:=h;exact (q84 hv).trans (z9e hu)
theorem Step.kill (hs:SR w Im ρ o) {id sh ver:Nat} {e:Et} {fz:Bool} {xs:List PV} (ho:o[id]? = some (.arr e sh ver fz xs)):Step w Im ρ o w Im (upd ρ id none) (o.set id .dead):=by
 have hlt:=(List.getElem?_eq_some_iff.1 ho).1;have him:∀ b,Im b->Im b /\ w.heap[b]? = w.heap[b]?:=fun b hb=>⟨hb,rfl⟩
 have hc:q1u ρ (upd ρ id none) o (o.set id .dead):=by
  intro i a ha;by_cases e1:i=id
  ·subst e1;rw [ho] at ha;injection ha with ha
   subst ha;exact ⟨.dead,by simp [hlt],trivial⟩
  ·exact ⟨a,by rw [List.getElem?_set_ne (Ne.symm e1)];exact ha,by rw [q0t e1];cases a <;> simp [q1f]⟩
 have cs:∀ i v,upd ρ id none i=some v->i≠id /\ ρ i=some v:=by
  intro i v h;by_cases e1:i=id
  ·subst e1;rw [q0x] at h;cases h
  ·rw [q0t e1] at h;exact ⟨e1,h⟩
 refine ⟨Wd.refl w,⟨?_,?_,?_,hs.im,?_⟩,fun c y hy=>RC.compat him hc hy,fun _ _ _=>rfl,?_,him,fun b hb=>.inl hb,?_,⟨by simp,fun i _ h0=>by
  by_cases e1:i=id
  ·subst e1;exact q0x
  ·rw [q0t e1];exact h0⟩⟩
 ·intro i a v ha hv;obtain ⟨e1,hv⟩:=cs i v hv;rw [List.getElem?_set_ne (Ne.symm e1)] at ha;exact RO.keep him hc (fun _ _=>rfl) (fun _ _ h=>h) (hs.ob i a v ha hv)
 ·intro i i' v v' b hv hv' hb hb';exact hs.inj i i' v v' b (cs i v hv).2 (cs i' v' hv').2 hb hb'
 ·intro i v hv;obtain ⟨e1,hv⟩:=cs i v hv;exact ⟨by simpa using (hs.lt i v hv).1,(hs.lt i v hv).2⟩
 ·intro i hd;by_cases e1:i=id
  ·subst e1;exact q0x
  ·rw [q0t e1];rw [List.getElem?_set_ne (Ne.symm e1)] at hd;exact hs.dd i hd
 ·intro i v b hv hb;exact .inr ⟨i,v,(cs i v hv).2,hb⟩
 ·intro hm i a ha hd;by_cases e1:i=id
  ·subst e1;simp [hlt] at ha;exact absurd ha.symm hd
  ·rw [List.getElem?_set_ne (Ne.symm e1)] at ha;rw [q0t e1];exact hm i a ha hd
theorem Step.own (h:Step w Im ρ o w Im' ρ' o'):∀ b,Ow ρ' b->Ow ρ b:=by
 rintro b ⟨id,v,hv,hb⟩
 rcases h.ow id v b hv hb with h1 | h1
 · have:=(h.sr.lt id v hv).2 b hb;omega
 · exact h1
theorem OBs.one {c:CV} {y:Value} {b:Nat} (hl:ys.length=cs.length) (h:OBs (cs++[c]) (ys++[y]) b):OBs cs ys b∨(Blk y b /\ ∃ e sh xs,c=.own e sh xs):=by
 obtain ⟨i,h⟩:=h;rcases h.split hl with ⟨_,h1⟩ | ⟨_,h1⟩
 · exact .inl ⟨i,h1⟩
 · exact .inr h1.single.2
theorem x6m (w:World) (Im:Nat->Prop) (e:Et) (sh:Nat) (h:q5t e sh=true):∃ g,mainV g=.slice none 0 0 /\ OwnRow w Im e sh [] g /\ ∀ b,¬ Blk g b:=by
 cases hk:e.kd with
 | none=>exact ⟨.slice none 0 0,rfl,⟨[],World.ownsAt_nil w 0 e.t (csz sh),by simp,by simp,by simp,by simp only [RKids,hk];exact fun _=>rfl⟩,by simp⟩
 | some k=>
  simp only [q5t,hk,Bool.and_eq_true,decide_eq_true_eq,Option.isNone_iff_eq_none] at h;refine ⟨.tuple #[.slice none 0 0],rfl,⟨[],World.ownsAt_nil w 0 e.t (csz sh),by simp,by simp,?_,?_⟩,?_⟩
  ·rintro b ⟨i,v,h1,h2⟩
   cases i <;> simp at h1
   subst h1;exact h2.elim
  ·simp only [RKids,hk];exact ⟨trivial,[],rfl,⟨rfl,h.1,by simp,by simp,by simp,by simp⟩,by simp⟩
  ·rintro b ⟨i,v,h1,h2⟩
   cases i <;> simp at h1
   subst h1;exact h2.elim
theorem x85 {e e':Et} {sh len ver:Nat} {xs:List PV} {v:Value} (h:sameEt e e' len xs.length=true) (hr:RO w Im ρ o v (.arr e' sh ver false xs)):(e.kd=none /\ e'.kd=none /\ e=e')∨(len=xs.length /\ OwnRow w Im e sh xs v):=by
 unfold sameEt at h;simp only [Bool.and_eq_true,beq_iff_eq] at h;obtain ⟨ht,h⟩:=h;split at h
 ·rename_i h1 h2;left;refine ⟨h1,h2,?_⟩;cases e;cases e';simp at ht h1 h2;subst ht h1 h2;rfl
 ·rename_i k k' h1 h2;right;simp only [Bool.and_eq_true,beq_iff_eq,Option.isNone_iff_eq_none] at h;obtain ⟨⟨⟨⟨⟨⟨hj,he⟩,hsh⟩,_⟩,hh⟩,hh'⟩,hl⟩:=h;refine ⟨hl,?_⟩;obtain ⟨vals,hown,hs,hrp,hz,hk⟩:=hr;simp only [RKids,h2] at hk;obtain ⟨_,ks,hv,hks,hd⟩:=hk;refine ⟨vals,by rw [ht];exact hown,hs,fun i x j c y a1 a2 a3=>?_,hz,?_⟩
  ·have:=hrp i x j c y a1 a2 a3
   unfold RPk at this ⊢;rw [h2] at this;rw [h1];exact fun hjk=>this (by rw [<- hj];exact hjk)
  ·simp only [RKids,h1];refine ⟨trivial,ks,hv,⟨hks.len,by rw [hj];exact hks.jlt,fun i x hx _=>?_,(fun i u h=>by rw [hh] at h;cases h),hks.inj,hks.one⟩,hd⟩;rw [hj,he,hsh];exact hks.kid i x hx (by rw [hh'];simp)
 ·cases h
theorem z4d {K:CV->List AObj->R} {k:Kind} {c:CV} {y:Value} (hs:SR w Im ρ o) (hT:Toks w Im cs ys (Ow ρ)) (hc:RC w Im ρ o c y) (h:outC k c o K=some r) :
  ∃ d o1 Im1 ρ1 g,mainV g=y /\ K d o1=some r /\ Step w Im ρ o w Im1 ρ1 o1 /\ Bx ρ o ρ1 o1 /\ Toks w Im1 (cs++[d]) (ys++[g]) (Ow ρ1) /\ ∀ b,OBs (cs++[d]) (ys++[g]) b->OBs cs ys b∨Ow ρ b:=by
 unfold outC at h;split at h
 ·obtain ⟨⟨v,o1⟩,hf,hk⟩:=bind_some h;obtain ⟨v2,hk,hwk⟩:=q45 hk;obtain ⟨Im1,hst,hr⟩:=q8i hs hc hf;refine ⟨_,o1,Im1,ρ,y,hr.mainV,hk,hst,q84 hf,(hT.step hst).app (Toks.one (c:=.p v2) (hwk.2 _ _ _ hr) (fun _ _ _ _ h=>nomatch h)) (fun i j b _ h2=>?_),fun b hb=>?_⟩
  ·obtain ⟨_,_,_,_,_,h3⟩:=h2.single;cases h3
  ·rcases hb.one hT.len with h1 | ⟨_,_,_,_,h1⟩
   ·exact .inl h1
   ·cases h1
 ·rename_i e sh;split at h
  ·rename_i v;obtain ⟨⟨sh',f,xs⟩,hq,h⟩:=bind_some h;obtain rfl:=q41 hq
   ·obtain ⟨hf,hk⟩:=q0j h;simp only [Bool.and_eq_true,beq_iff_eq] at hf;obtain ⟨hf,hkj⟩:=hf;have hy:y=.slice none 0 0:=by
     have hr:RP w Im (.row sh' f xs) y:=hc;subst hf;cases hr with
     | nil=>rfl
     | row _ _ _ a cap g hf2=>exact absurd rfl hf2
    subst hy;obtain ⟨g,hg,hgo,hgb⟩:=x6m w Im e sh hkj;refine ⟨_,o,Im,ρ,g,hg,hk,Step.refl hs,Bx.refl,hT.app (Toks.one hgo (fun _ _ _ b _ hb=>(hgb b hb).elim)) (fun i j b _ h2=>?_),fun b hb=>?_⟩
    ·exact hgb b h2.single.2.1
    ·rcases hb.one hT.len with h1 | ⟨h1,_⟩
     ·exact .inl h1
     ·exact (hgb b h1).elim
  ·rename_i id ver sh' lo len;split at h
   ·rename_i e' sh'' ver' xs ho;obtain ⟨hcnd,hk⟩:=q0j h;simp only [Bool.and_eq_true,beq_iff_eq] at hcnd;obtain ⟨⟨⟨⟨rfl,rfl⟩,rfl⟩,rfl⟩,hsame⟩:=hcnd;simp only [RC,ho] at hc;obtain ⟨hle,v,hρ,hsl⟩:=hc.2 trivial trivial;simp only [Nat.zero_add] at hle;obtain ⟨vals,hown,hshp,hrp,hbk,hkids⟩:=hs.ob id _ _ ho hρ;obtain ⟨hown2,hbx⟩:=q97 hown hsl hle;have hxl:(xs.take len).length=len:=by simp;omega
    have hst:=Step.kill hs ho;have hrow:∃ g,mainV g=y /\ OwnRow w Im e sh (xs.take len) g /\ ∀ b,Blk g b->Blk v b:=by
     rcases x85 hsame (hs.ob id _ _ ho hρ) with ⟨hk1,hk2,he⟩ | ⟨hl,hr⟩
     rotate_left
     ·subst hl;refine ⟨v,?_,by rw [List.take_length];exact hr,fun b hb=>hb⟩;rcases hown.2 with ⟨hm,hn⟩ | ⟨g,bo,cap,cur,hm,_⟩
      ·rw [hm] at hsl ⊢;exact hsl.2.2.symm
      ·rw [hm] at hsl ⊢;obtain ⟨off,h1,_,h2⟩:=hsl
       have:=h2 (.inl rfl)
       rw [h1,this];simp
     subst he;simp only [RPk,hk1] at hrp;refine ⟨y,(q1b hown2).1,?_,fun b hb=>q1g ((hbx b).1 hb)⟩;refine ⟨_,by rw [hxl,(q1b hown2).1];exact hown2,fun x hx=>hshp x (List.mem_of_mem_take hx),?_,fun b hb=>?_,by simp only [RKids,hk1];exact fun _=>(q1b hown2).1⟩
     ·intro i x j c u hx hj hu;have hil:i<len:=by have:=(List.getElem?_eq_some_iff.1 hx).1;rwa [hxl] at this
      rw [List.getElem?_take_of_lt hil] at hx;have hu':vals[i*csz sh+j]? = some u:=by
       rw [List.getElem?_take] at hu;split at hu
       ·exact hu
       ·cases hu
      simp only [RPk,hk1];exact hrp i x j c u hx hj hu'
     ·exact ⟨fun _=>(hbk b (q1g ((hbx b).1 hb))).1 rfl,fun h=>nomatch h⟩
    obtain ⟨g,hgm,hrow,hgv⟩:=hrow;refine ⟨_,_,Im,_,g,hgm,hk,hst,?_,(hT.step hst).app (Toks.one hrow ?_) ?_,?_⟩
    ·intro i cs';have hb:=(z2j (ρ:=ρ) (x:=.dead) (id:=id) (o:=o) (by simp [ho]) (by simp)) i cs';refine ⟨fun hc'=>⟨(hb.1 hc').1,q0t fun e1=>?_⟩,hb.2⟩;subst e1;rw [ho] at hc';cases hc'
    ·rintro _ _ _ b _ hb ⟨i,u,hu,hub⟩
     replace hb:=hgv b hb
     by_cases e1:i=id
     ·subst e1;rw [q0x] at hu;cases hu
     ·rw [q0t e1] at hu;exact e1 (hs.inj i id u v b hu hρ hub hb)
    ·intro i j b h1 h2;have h3:=hgv b h2.single.2.1;exact hT.out i b h1 ⟨id,v,hρ,h3⟩
    ·intro b hb;rcases hb.one hT.len with h1 | ⟨h1,_⟩
     ·exact .inl h1
     ·exact .inr ⟨id,v,hρ,hgv b h1⟩
   ·cases h
  ·rename_i id ver nv i;split at h
   ·rename_i e' sh' ver' xs ho;split at h
    ·rename_i k hk;obtain ⟨hcnd,h9⟩:=q0j h;clear h;simp only [Bool.and_eq_true,beq_iff_eq,Option.isNone_iff_eq_none] at hcnd;obtain ⟨⟨⟨⟨rfl,rfl⟩,hhole⟩,rfl⟩,rfl⟩:=hcnd;obtain ⟨x0,hx0,h8⟩:=bind_some h9;clear h9;obtain ⟨zs,hzs0,hkk⟩:=bind_some h8;clear h8;simp only [RC,ho] at hc;obtain ⟨_,ha2⟩:=hc.2 trivial k hk;obtain ⟨hix,m,ks,hρ,hksx⟩:=ha2 rfl hhole;obtain ⟨vals,hown,hshp,hrp,hbk,hkids⟩:=hs.ob id _ _ ho hρ;simp only [RKids,hk] at hkids;obtain ⟨_,ks',hv,hks,hdis⟩:=hkids;have hmm:mainV (.tuple (m::ks).toArray)=m:=rfl;rw [hmm] at hv hdis hown
     have:ks=ks':=by injection hv with hv;simpa using hv
     subst this;obtain ⟨f,zs',u,b1,_,b3,b4,kvals,kown,kshp,krp⟩:=hks.kid i x0 hx0 (by rw [hhole];simp);obtain rfl:y=u:=by rw [hksx] at b3;injection b3
     obtain rfl:zs'=zs:=by
      simp only [PV.atRow,PV.cell,b1,Option.bind_some,PV.asRow] at hzs0;obtain ⟨_,h⟩:=q0j hzs0;injection h
     have hV:Value.tuple (m::ks).toArray=.tuple (m::ks).toArray:=rfl;obtain ⟨hym,hyb⟩:=q1b kown;have hxB:∀ b,kidBlk y b->Blk (.tuple (m::ks).toArray) b:=fun b hb=>q1e hV b3 hb
     have hlt:=(hs.lt id _ hρ).1;have hltb:=(hs.lt id _ hρ).2;obtain ⟨V,hVd⟩:∃ V,V=Value.tuple (m::ks.set i (.slice none 0 0)).toArray:=⟨_,rfl⟩;have hVm:mainV V=m:=by rw [hVd];rfl
     have hVb:∀ b,Blk V b->Blk (.tuple (m::ks).toArray) b /\ ¬ kidBlk y b:=by
      intro b hb;rw [hVd] at hb;obtain ⟨q,u,hq,hub⟩:=hb;cases q with
      | zero=>
       simp at hq;subst hq;exact ⟨⟨0,m,by simp,hub⟩,fun h=>hdis i y b b3 h hub⟩
      | succ q=>
       replace hq:(ks.set i (Value.slice none 0 0))[q]? = some u:=by simpa using hq
       by_cases e1:q=i
       ·subst e1;rw [List.getElem?_set_self (by rw [hks.len];exact hix)] at hq;injection hq with hq
        subst hq;exact hub.elim
       ·rw [List.getElem?_set_ne (Ne.symm e1)] at hq;exact ⟨q1e hV hq hub,fun h=>e1 (hks.inj q i u y b hq b3 hub h)⟩
     obtain ⟨X,hX⟩:∃ X,X=AObj.arr ⟨e'.t,some { k with nv:=k.nv+1,hole:=some i }⟩ sh' ver false xs:=⟨_,rfl⟩;rw [<- hX] at hkk;have hoid:(o.set id X)[id]? = some X:=List.getElem?_set_self hlt;have hRid:upd ρ id (some V) id=some V:=q0x;have hCo:q1u ρ (upd ρ id (some V)) o (o.set id X):=by
      intro q a hq;by_cases e1:q=id
      ·subst e1;rw [ho] at hq;injection hq with hq
       subst hq;refine ⟨X,hoid,?_⟩;rw [hRid,hρ,hX];refine Or.inr ⟨rfl,rfl,Nat.le_refl _,?_,?_⟩
       ·simp [hVm,hmm]
       ·rw [hk];exact .inl (Nat.lt_succ_self _)
      ·refine ⟨a,by rw [List.getElem?_set_ne (Ne.symm e1)];exact hq,?_⟩;rw [q0t e1];cases a <;> simp [q1f]
     have hst:Step w Im ρ o w Im (upd ρ id (some V)) (o.set id X):=by
      refine Step.multi (w':=w) hs (Wd.refl w) (fun q=>q=id) (by simp) ?_ ?_ hCo (fun _ _ _=>rfl) ?_ ?_ ?_ ?_ ?_ ?_ ?_ ?_
      ·intro q hq hql;exact ⟨by rw [List.getElem?_set_ne (Ne.symm hq)],q0t hq⟩
      ·intro q hql hq;refine ⟨List.getElem?_eq_none (by simp;omega),?_⟩;rw [q0t hq];cases h:ρ q with
       | none=>rfl
       | some u=>have:=(hs.lt q u h).1;omega
      ·rintro q v b rfl hv hb
       rw [hρ] at hv;injection hv with hv
       subst hv;exact (hbk b hb).1 rfl
      ·rintro q v b rfl hv hb
       rw [hRid] at hv;injection hv with hv
       subst hv;exact .inl ⟨q,_,rfl,hρ,(hVb b hb).1⟩
      ·rintro q v rfl hv
       rw [hRid] at hv;injection hv with hv
       subst hv;exact ⟨by simpa using hlt,fun b hb=>hltb b (hVb b hb).1⟩
      ·rintro q q' v v1 b rfl rfl _ _ _ _
       rfl
      ·rintro q a v rfl ha hv
       rw [hoid] at ha;rw [hRid] at hv;injection ha with ha
       injection hv with hv
       subst ha;subst hv;rw [hX];refine ⟨vals,by rw [hVm];exact hown,hshp,fun p x j c y h1 h2 h3=>?_,fun b hb=>⟨fun _=>(hbk b (hVb b hb).1).1 rfl,fun h=>nomatch h⟩,rfl,ks.set i (.slice none 0 0),?_,⟨by simpa using hks.len,hks.jlt,?_,?_,?_,hks.one⟩,?_⟩
       ·have h4:=hrp p x j c y h1 h2 h3;unfold RPk at h4 ⊢;rw [hk] at h4;exact h4
       ·rw [hVm,hVd]
       ·intro p x1 hx1 hne;have hpi:p≠i:=fun h=>hne (by rw [h])
        obtain ⟨f2,ys2,u2,c1,c2,c3,c4,c5⟩:=hks.kid p x1 hx1 (by rw [hhole];simp);exact ⟨f2,ys2,u2,c1,c2,by rw [List.getElem?_set_ne (Ne.symm hpi)];exact c3,c4,c5⟩
       ·intro p u2 hp2 hu2;injection hp2 with hp2
        subst hp2;rw [List.getElem?_set_self (by rw [hks.len];exact hix)] at hu2;injection hu2 with hu2
        exact hu2.symm
       ·have old:∀ (p:Nat) (u2:Value) (b:Nat),(ks.set i (Value.slice none 0 0))[p]? = some u2->kidBlk u2 b->ks[p]? = some u2:=by
         intro p u2 b hp2 hb;by_cases e1:p=i
         ·subst e1;rw [List.getElem?_set_self (by rw [hks.len];exact hix)] at hp2;injection hp2 with hp2
          subst hp2;exact hb.elim
         ·rwa [List.getElem?_set_ne (Ne.symm e1)] at hp2
        intro p p' u2 u3 b h1 h2 h3 h4;exact hks.inj p p' u2 u3 b (old p u2 b h1 h3) (old p' u3 b h2 h4) h3 h4
       ·intro p u2 b hp2 hb;rw [hVm];by_cases e1:p=i
        ·subst e1;rw [List.getElem?_set_self (by rw [hks.len];exact hix)] at hp2;injection hp2 with hp2
         subst hp2;exact hb.elim
        ·rw [List.getElem?_set_ne (Ne.symm e1)] at hp2;exact hdis p u2 b hp2 hb
      ·rintro q rfl hd
       rw [hoid,hX] at hd;cases hd
      ·rintro q x rfl _ _
       exact ⟨V,hRid⟩
      ·rintro q rfl _ hn
       rw [hρ] at hn;cases hn
     have hrow:OwnRow w Im k.e k.sh zs' y:=by
      refine ⟨kvals,by rw [hym];exact kown,kshp,krp,fun b hb=>⟨fun _=>(hbk b (hxB b ((hyb b).1 hb))).1 rfl,fun h=>nomatch h⟩,fun _=>hym⟩
     refine ⟨_,_,Im,_,y,hym,hkk,hst,?_,(hT.step hst).app (Toks.one (c:=.own k.e k.sh zs') hrow ?_) ?_,?_⟩
     ·intro i' cs';have hb:=(z2j (ρ:=ρ) (x:=X) (id:=id) (o:=o) (by simp [ho]) (by simp [hX])) i' cs';refine ⟨fun hc'=>⟨(hb.1 hc').1,q0t fun e1=>?_⟩,hb.2⟩;subst e1;rw [ho] at hc';cases hc'
     ·rintro _ _ _ b _ hb ⟨i',u,hu,hub⟩
      replace hb:=(hyb b).1 hb
      by_cases e1:i'=id
      ·subst e1;rw [hRid] at hu;injection hu with hu
       subst hu;exact (hVb b hub).2 hb
      ·rw [q0t e1] at hu;exact e1 (hs.inj i' id u _ b hu hρ hub (hxB b hb))
     ·intro i' j b h1 h2;exact hT.out i' b h1 ⟨id,_,hρ,hxB b ((hyb b).1 h2.single.2.1)⟩
     ·intro b hb;rcases hb.one hT.len with h1 | ⟨h1,_⟩
      ·exact .inl h1
      ·exact .inr ⟨id,_,hρ,hxB b ((hyb b).1 h1)⟩
    ·cases h
   ·cases h
  ·cases h
theorem q7y:∀ {ks:List Kind} {c0:List CV} {y0:List Value} {o:List AObj} {Im:Nat->Prop} {ρ:Nat->Option Value} {cs:List CV} {ys:List Value} {K:List CV->List AObj->R},SR w Im ρ o->Toks w Im cs ys (Ow ρ)->y0.length=c0.length ->
  (∀ (i:Nat) (c:CV) (y:Value),c0[i]? = some c->y0[i]? = some y->RC w Im ρ o c y)->q7x ks c0 o K=some r ->
  ∃ ds o1 Im1 ρ1 g0,g0.map mainV=y0 /\ K ds o1=some r /\ Step w Im ρ o w Im1 ρ1 o1 /\ Bx ρ o ρ1 o1 /\ ds.length=c0.length /\ ks.length=c0.length /\ Toks w Im1 (cs++ds) (ys++g0) (Ow ρ1) /\ ∀ b,OBs (cs++ds) (ys++g0) b->OBs cs ys b∨Ow ρ b
 | [],[],y0,o,Im,ρ,cs,ys,K,hs,hT,hl,hr,h=>by
  simp only [q7x] at h
  have:y0=[]:=List.eq_nil_of_length_eq_zero hl
  subst this;exact ⟨[],o,Im,ρ,[],rfl,h,Step.refl hs,Bx.refl,rfl,rfl,by simpa using hT,fun b hb=>.inl (by simpa using hb)⟩
 | k::ks,c::c0,y0,o,Im,ρ,cs,ys,K,hs,hT,hl,hr,h=>by
  cases y0 with
  | nil=>simp at hl
  | cons y y0=>
   simp only [q7x] at h;obtain ⟨d,o1,Im1,ρ1,g,hg,h,hst,hb,hT1,hO1⟩:=z4d hs hT (hr 0 c y rfl rfl) h;obtain ⟨ds,o2,Im2,ρ2,g0,hg0,h,hst2,hb2,hl2,hk2,hT2,hO2⟩:=q7y hst.sr hT1 (by simpa using hl) (fun i c' y' hc' hy'=>hst.keep _ _ (hr (i+1) c' y' (by simpa using hc') (by simpa using hy'))) h;refine ⟨d::ds,o2,Im2,ρ2,g::g0,by simp [hg,hg0],h,hst.trans hst2,hb.trans hb2,by simp [hl2],by simp [hk2],by simpa using hT2,fun b hb=>?_⟩;rcases hO2 b (by simpa using hb) with h1 | h1
   ·exact hO1 b h1
   ·exact .inr (hst.own b h1)
 | [],_::_,_,_,_,_,_,_,_,_,_,_,_,h=>by simp [q7x] at h
 | _::_,[],_,_,_,_,_,_,_,_,_,_,_,h=>by simp [q7x] at h
def RetS:SV->Value->List Value->Prop
 | .c _,y,zs=>∃ g,zs=[g] /\ mainV g=y
 | .agg ds,y,zs=>zs.length=ds.length /\ y=.agg (zs.map mainV).toArray /\ ∀ z∈zs,(mainV z).oneCell'=true
theorem x8b {α:Type} {K:List CV->Option α} {r:α} {n:Nat} {v:SV} {y:Value} (h:cellsK o (n+1) v K=some r) (hy:RS w Im ρ o v y):∃ vs,y=.agg vs:=by
 unfold cellsK at h;split at h
 ·obtain ⟨vs,rfl,_⟩:=hy;exact ⟨vs,rfl⟩
 ·split at h
  ·rename_i v;obtain ⟨hc,_⟩:=q0j h;cases v <;> simp [PV.shp] at hc
   cases hy;exact ⟨_,rfl⟩
  ·obtain ⟨hc,_⟩:=q0j h;simp at hc
theorem x76 {x:SV} {v:PV} {o1:List AObj} (h:freezeS o x=some (v,o1)):Bx ρ o ρ o1:=by
 cases x with
 | c c=>exact q84 h
 | agg cs=>
  simp only [freezeS] at h;obtain ⟨⟨vs,o2⟩,hv,he⟩:=bind_some h;simp at he;rw [<- he.2];exact z9e hv
theorem x8y {K:SV->List AObj->R} {k:RK} {v:SV} {y:Value} (hs:SR w Im ρ o) (hT:Toks w Im cs ys (Ow ρ)) (hv:RS w Im ρ o v y) (h:outS k v o K=some r) :
  ∃ d o1 Im1 ρ1 zs,K d o1=some r /\ Step w Im ρ o w Im1 ρ1 o1 /\ Bx ρ o ρ1 o1 /\ RetS d y zs /\ lenS d=lenK k /\ Toks w Im1 (cs++cellsOfS d) (ys++zs) (Ow ρ1) /\ ∀ b,OBs (cs++cellsOfS d) (ys++zs) b->OBs cs ys b∨Ow ρ b:=by
 unfold outS at h;split at h
 ·obtain ⟨d,o1,Im1,ρ1,g,hg,h,hst,hb,hT1,hO⟩:=z4d hs hT hv h;exact ⟨_,o1,Im1,ρ1,[g],h,hst,hb,⟨g,rfl,hg⟩,rfl,hT1,hO⟩
 ·rename_i cs';obtain ⟨⟨vs,o1⟩,hf,h⟩:=bind_some h;have hf':freezeS o (.agg cs')=some (.agg vs,o1):=by simp [freezeS,hf]
  obtain ⟨Im1,hst,hr⟩:=q8k hs hv hf';refine ⟨_,o1,Im1,ρ,[y],h,hst,x76 hf',⟨y,rfl,hr.mainV⟩,rfl,(hT.step hst).app (Toks.one hr (fun _ _ _ _ h=>nomatch h)) (fun i j b _ h2=>?_),fun b hb=>?_⟩
  ·obtain ⟨_,_,_,_,_,h3⟩:=h2.single;cases h3
  ·rcases hb.one hT.len with h1 | ⟨_,_,_,_,h1⟩
   ·exact .inl h1
   ·cases h1
 ·rename_i v ks;cases hk:ks.length with
  | zero=>
   have:ks=[]:=List.eq_nil_of_length_eq_zero hk
   subst this;obtain ⟨c0,h,hcl,hyl,hr,h1⟩:=q4d hs h hv;obtain ⟨ds,o1,Im1,ρ1,g0,hg0,h,hst,hb,hl,hkl,hT1,_⟩:=q7y (y0:=y.cells.toList) hs hT (by simpa using hyl) (fun i c z a b=>hr i c z a (by simpa using b)) h;simp [csz] at hcl hkl;omega
  | succ n=>
   rw [hk] at h;obtain ⟨vs,rfl⟩:=x8b h hv;obtain ⟨c0,h,hcl,hyl,hr,h1⟩:=q4d hs h hv;have e0:(Value.agg vs).cells=vs:=rfl;rw [e0] at hyl hr h1;obtain ⟨ds,o1,Im1,ρ1,g0,hg0,h,hst,hb,hl,hkl,hT1,hO⟩:=q7y (y0:=vs.toList) hs hT (by simpa using hyl) (fun i c z a b=>hr i c z a (by simpa using b)) h;have hgl:g0.length=vs.size:=by have:=congrArg List.length hg0;simpa using this
   refine ⟨_,o1,Im1,ρ1,g0,h,hst,hb,⟨by omega,by rw [hg0],fun z hz=>?_⟩,by simp [lenS,lenK];omega,hT1,hO⟩;have hz':mainV z∈vs.toList:=by rw [<- hg0];exact List.mem_map_of_mem hz
   obtain ⟨i,hi,hzi⟩:=List.getElem_of_mem hz';rw [<- hzi];exact h1 i _ (by simp at hi;simp [hi])
 ·cases h
inductive RetSs:List SV->List Value->List Value->Prop
 | nil:RetSs [] [] []
 | cons {d y zs ds ys' zss}:RetS d y zs->RetSs ds ys' zss->RetSs (d::ds) (y::ys') (zs++zss)
theorem z94:∀ {ks:List RK} {vs:List SV} {y0:List Value} {o:List AObj} {Im:Nat->Prop} {ρ:Nat->Option Value} {cs:List CV} {ys:List Value} {K:List SV->List AObj->R},SR w Im ρ o->Toks w Im cs ys (Ow ρ)->y0.length=vs.length ->
  (∀ (i:Nat) (c:SV) (y:Value),vs[i]? = some c->y0[i]? = some y->RS w Im ρ o c y)->z08 ks vs o K=some r ->
  ∃ ds o1 Im1 ρ1 zs,K ds o1=some r /\ Step w Im ρ o w Im1 ρ1 o1 /\ Bx ρ o ρ1 o1 /\ RetSs ds y0 zs /\ ds.map lenS=ks.map lenK /\ Toks w Im1 (cs++ds.flatMap cellsOfS) (ys++zs) (Ow ρ1) /\ ∀ b,OBs (cs++ds.flatMap cellsOfS) (ys++zs) b->OBs cs ys b∨Ow ρ b
 | [],[],y0,o,Im,ρ,cs,ys,K,hs,hT,hl,hr,h=>by
  simp only [z08] at h
  have:y0=[]:=List.eq_nil_of_length_eq_zero hl
  subst this;exact ⟨[],o,Im,ρ,[],h,Step.refl hs,Bx.refl,.nil,rfl,by simpa using hT,fun b hb=>.inl (by simpa using hb)⟩
 | k::ks,v::vs,y0,o,Im,ρ,cs,ys,K,hs,hT,hl,hr,h=>by
  cases y0 with
  | nil=>simp at hl
  | cons y y0=>
   simp only [z08] at h;obtain ⟨d,o1,Im1,ρ1,zs,h,hst,hb,hret,hlk,hT1,hO1⟩:=x8y hs hT (hr 0 v y rfl rfl) h;obtain ⟨ds,o2,Im2,ρ2,zss,h,hst2,hb2,hret2,hlk2,hT2,hO2⟩:=z94 hst.sr hT1 (by simpa using hl) (fun i c' y' hc' hy'=>hst.keepS _ _ (hr (i+1) c' y' (by simpa using hc') (by simpa using hy'))) h;refine ⟨d::ds,o2,Im2,ρ2,zs++zss,h,hst.trans hst2,hb.trans hb2,.cons hret hret2,by simp [hlk,hlk2],by simpa using hT2,fun b hb=>?_⟩;rcases hO2 b (by simpa using hb) with h1 | h1
   ·exact hO1 b h1
   ·exact .inr (hst.own b h1)
 | [],_::_,_,_,_,_,_,_,_,_,_,_,_,h=>by simp [z08] at h
 | _::_,[],_,_,_,_,_,_,_,_,_,_,_,h=>by simp [z08] at h
def BoxAt (w:World) (b:Nat) (vs:List Value):Prop:=(∃ e,w.heap[b]? = some (.cells (vs.map mainV).toArray e (0,0))) /\ ∀ v∈vs,(mainV v).oneCell'=true
theorem z1r:∀ {kss:List (List Kind)} {ids:List Nat} {o:List AObj} {Im:Nat->Prop} {ρ:Nat->Option Value} {cs:List CV} {ys:List Value} {K:List (List CV)->List AObj->R},SR w Im ρ o->Toks w Im cs ys (Ow ρ) ->
  (∀ id∈ids,∀ c0,o[id]? = some (.box c0)->∃ b,ρ id=some (.pointer (some ⟨b,0,none⟩)))->q6z kss ids o K=some r ->
  ∃ (dss:List (List CV)) (o1:List AObj) (Im1:Nat->Prop) (ρ1:Nat->Option Value) (vss:List (List Value)),K dss o1=some r /\ Step w Im ρ o w Im1 ρ1 o1 /\ Bx ρ o ρ1 o1 /\ dss.length=ids.length /\ vss.length=ids.length /\ dss.map List.length=kss.map List.length /\ Toks w Im1 (cs++dss.flatten) (ys++vss.flatten) (Ow ρ1) /\ (∀ b,OBs (cs++dss.flatten) (ys++vss.flatten) b->OBs cs ys b∨Ow ρ b) /\
   ∀ (j id:Nat),ids[j]? = some id->∃ b vs ds cs0,ρ id=some (.pointer (some ⟨b,0,none⟩)) /\ BoxAt w b vs /\ vss[j]? = some vs /\ dss[j]? = some ds /\ ds.length=vs.length /\ o[id]? = some (.box cs0)
 | [],[],o,Im,ρ,cs,ys,K,hs,hT,hp,h=>by
  simp only [q6z] at h;exact ⟨[],o,Im,ρ,[],h,Step.refl hs,Bx.refl,rfl,rfl,rfl,by simpa using hT,fun b hb=>.inl (by simpa using hb),fun j id hj=>by simp at hj⟩
 | ks::kss,i::ids,o,Im,ρ,cs,ys,K,hs,hT,hp,h=>by
  simp only [q6z] at h;split at h
  ·rename_i c0 ho;obtain ⟨b,hρ⟩:=hp i (by simp) c0 ho;obtain ⟨b',vs,e,hb,hh,hl,hr,h1,_⟩:=hs.ob i _ _ ho hρ;obtain rfl:b=b':=by simpa using hb
   obtain ⟨ds,o1,Im1,ρ1,g0,hg0,h,hst,hbx,hld,hlk,hT1,hO1⟩:=q7y (y0:=vs.toList) hs hT (by simpa using hl) (fun i c y a c'=>hr i c y a (by simpa using c')) h;have hp1:∀ id∈ids,∀ c0,o1[id]? = some (.box c0)->∃ b,ρ1 id=some (.pointer (some ⟨b,0,none⟩)):=by
    intro id hid c1 hc1;have h2:=(hbx id c1).2 hc1;obtain ⟨b,hb⟩:=hp id (by simp [hid]) c1 h2;exact ⟨b,((hbx id c1).1 h2).2.trans hb⟩
   obtain ⟨dss,o2,Im2,ρ2,vss,h,hst2,hbx2,hl1,hl2,hl3,hT2,hO2,hrest⟩:=z1r hst.sr hT1 hp1 h;have hgl:g0.length=vs.size:=by have:=congrArg List.length hg0;simpa using this
   refine ⟨ds::dss,o2,Im2,ρ2,g0::vss,h,hst.trans hst2,hbx.trans hbx2,by simp [hl1],by simp [hl2],by simp [hl3,hld,hlk],by simpa using hT2,fun b hb=>?_,?_⟩
   ·rcases hO2 b (by simpa using hb) with h1 | h1
    ·exact hO1 b h1
    ·exact .inr (hst.own b h1)
   intro j id hj;cases j with
   | zero=>
    simp at hj;subst hj;refine ⟨b,g0,ds,c0,hρ,⟨⟨e,by rw [hg0];simpa using hh⟩,fun v hv=>?_⟩,rfl,rfl,by omega,ho⟩;have hz':mainV v∈vs.toList:=by rw [<- hg0];exact List.mem_map_of_mem hv
    obtain ⟨k,hk,hzk⟩:=List.getElem_of_mem hz';rw [<- hzk];exact h1 k _ (by simp at hk;simp [hk])
   | succ j=>
    obtain ⟨b2,vs2,ds2,cs2,h3,h4,h5,h6,h7,h8⟩:=hrest j id (by simpa using hj);have h9:=(hbx id cs2).2 h8;exact ⟨b2,vs2,ds2,cs2,by rw [<- ((hbx id cs2).1 h9).2];exact h3,h4,by simpa using h5,by simpa using h6,h7,h9⟩
  ·cases h
 | [],_::_,_,_,_,_,_,_,_,_,_,h=>by simp [q6z] at h
 | _::_,[],_,_,_,_,_,_,_,_,_,h=>by simp [q6z] at h
end
end Go.Dp
namespace Go.Dp
structure SRx (w:World) (Im:Nat->Prop) (ρ:Nat->Option Value) (o:List AObj) (X:Nat->Prop):Prop where
 ob:∀ id x v,¬ X id->o[id]? = some x->ρ id=some v->RO w Im ρ o v x
 inj:∀ id id' v v' b,ρ id=some v->ρ id'=some v'->Blk v b->Blk v' b->id=id'
 lt:∀ id v,ρ id=some v->id<o.length /\ ∀ b,Blk v b->b<w.heap.size
 im:∀ b,Im b->b<w.heap.size
 dd:∀ id,o[id]? = some .dead->ρ id=none
section
variable {P:Program} {E:Env} {w w':World} {Im Im':Nat->Prop} {ρ ρ':Nat->Option Value} {o o':List AObj} {K:Kt} {r:List SV × List (List CV)} {cs:List CV} {ys:List Value} {D D' X:Nat->Prop}
theorem SR.x (h:SR w Im ρ o) (X:Nat->Prop):SRx w Im ρ o X:=⟨fun id x v _=>h.ob id x v,h.inj,h.lt,h.im,h.dd⟩
theorem SRx.sr (h:SRx w Im ρ o X) (hx:∀ id,¬ X id):SR w Im ρ o:=⟨fun id x v=>h.ob id x v (hx id),h.inj,h.lt,h.im,h.dd⟩
theorem SRx.mono {X':Nat->Prop} (h:SRx w Im ρ o X) (hx:∀ id,X id->X' id):SRx w Im ρ o X':=⟨fun id x v hn=>h.ob id x v (fun h=>hn (hx id h)),h.inj,h.lt,h.im,h.dd⟩
theorem q2q:∀ b,Im b->Im b /\ w.heap[b]? = w.heap[b]?:=fun b hb=>⟨hb,rfl⟩
theorem x8e (hl:∀ id v,ρ id=some v->id<o.length) (v:Option Value) (x:AObj):q1u ρ (upd ρ o.length v) o (o++[x]):=by
 intro id a ha;have hlt:=(List.getElem?_eq_some_iff.1 ha).1;refine ⟨a,by rw [List.getElem?_append_left hlt];exact ha,?_⟩;rw [q0t (by omega)];cases a <;> simp [q1f]
structure Inn (w:World) (Im:Nat->Prop) (ρ:Nat->Option Value) (o:List AObj) (ρ':Nat->Option Value) (o':List AObj) (A:Nat->Prop):Prop where
 keep:∀ c x,RC w Im ρ o c x->RC w Im ρ' o' c x
 own:∀ b,Ow ρ' b->Ow ρ b∨A b
 box:∀ id cs,o[id]? = some (.box cs)->∃ cs',o'[id]? = some (.box cs') /\ ρ' id=ρ id
 mp:Mapped ρ o->Mapped ρ' o'
 len:o.length<=o'.length
 no:∀ id,id<o.length->ρ id=none->ρ' id=none
theorem Inn.refl {A:Nat->Prop}:Inn w Im ρ o ρ o A:=⟨fun _ _ h=>h,fun b h=>.inl h,fun id cs h=>⟨cs,h,rfl⟩,fun h=>h,Nat.le_refl _,fun _ _ h=>h⟩
theorem Inn.gr {A:Nat->Prop} (h:Inn w Im ρ o ρ' o' A):Grown ρ o ρ' o':=⟨h.len,h.no⟩
theorem Inn.trans {ρ2:Nat->Option Value} {o2:List AObj} {A:Nat->Prop} (h:Inn w Im ρ o ρ' o' A) (k:Inn w Im ρ' o' ρ2 o2 A):Inn w Im ρ o ρ2 o2 A:=by
 refine ⟨fun c x hc=>k.keep c x (h.keep c x hc),fun b hb=>?_,fun id cs hc=>?_,fun hm=>k.mp (h.mp hm),Nat.le_trans h.len k.len,(h.gr.trans k.gr).2⟩
 ·rcases k.own b hb with h1 | h1
  ·exact h.own b h1
  ·exact .inr h1
 ·obtain ⟨cs',h1,h2⟩:=h.box id cs hc;obtain ⟨cs2,h3,h4⟩:=k.box id cs' h1;exact ⟨cs2,h3,h4.trans h2⟩
theorem Inn.mono {A A':Nat->Prop} (h:Inn w Im ρ o ρ' o' A) (ha:∀ b,A b->A' b):Inn w Im ρ o ρ' o' A':=⟨h.keep,fun b hb=>(h.own b hb).imp (fun h=>h) (ha b),h.box,h.mp,h.len,h.no⟩
theorem x7z (hs:SRx w Im ρ o X) {e:Et} {sh:Nat} {xs:List PV} {v:Value} (hr:OwnRow w Im e sh xs v) (hv:∀ b,Blk v b->¬ Ow ρ b) :
  SRx w Im (upd ρ o.length (some v)) (o++[.arr e sh 0 false xs]) X /\ Inn w Im ρ o (upd ρ o.length (some v)) (o++[.arr e sh 0 false xs]) (fun b=>Blk v b) /\ RC w Im (upd ρ o.length (some v)) (o++[.arr e sh 0 false xs]) (.loc o.length 0 sh 0 xs.length) (mainV v):=by
 have hrr:=hr;have hc:=x8e (o:=o) (fun id v hv=>(hs.lt id v hv).1) (some v) (.arr e sh 0 false xs);have cs:∀ id u,upd ρ o.length (some v) id=some u->(id=o.length /\ u=v)∨(id≠o.length /\ ρ id=some u):=by
  intro id u h;by_cases e:id=o.length
  ·subst e;rw [q0x] at h;exact .inl ⟨rfl,by injection h with h;exact h.symm⟩
  ·rw [q0t e] at h;exact .inr ⟨e,h⟩
 obtain ⟨vals,hown,h1,h2,h3,h4⟩:=hr;refine ⟨⟨?_,?_,?_,hs.im,?_⟩,⟨fun c y hy=>RC.compat q2q hc hy,?_,?_,?_,by simp,fun id hl h0=>by rw [q0t (by omega)];exact h0⟩,?_⟩
 ·intro id a u hX ha hu;rcases cs id u hu with ⟨rfl,rfl⟩ | ⟨hne,hu⟩
  ·have:a=.arr e sh 0 false xs:=by simpa using ha.symm
   subst this;exact ⟨vals,hown,h1,h2,h3,h4⟩
  ·have hlt:=(hs.lt id u hu).1;rw [List.getElem?_append_left hlt] at ha;exact RO.keep q2q hc (fun _ _=>rfl) (fun b _ h=>h) (hs.ob id a u hX ha hu)
 ·intro id id' u u' b hu hu' hb hb';rcases cs id u hu with ⟨h1,h2⟩ | ⟨hne,h2⟩ <;> rcases cs id' u' hu' with ⟨h3,h4⟩ | ⟨hne',h4⟩
  ·exact h1.trans h3.symm
  ·rw [h2] at hb;exact (hv b hb ⟨id',u',h4,hb'⟩).elim
  ·rw [h4] at hb';exact (hv b hb' ⟨id,u,h2,hb⟩).elim
  ·exact hs.inj id id' u u' b h2 h4 hb hb'
 ·intro id u hu;rcases cs id u hu with ⟨rfl,rfl⟩ | ⟨hne,hu⟩
  ·exact ⟨by simp,fun b hb=>RO.arr_lt hrr hb⟩
  ·have:=hs.lt id u hu
   exact ⟨by simp;omega,this.2⟩
 ·intro id hd;by_cases e1:id=o.length
  ·subst e1;simp at hd
  ·rw [q0t e1];have hlt:id<o.length:=by have:=(List.getElem?_eq_some_iff.1 hd).1;simp at this;omega
   rw [List.getElem?_append_left hlt] at hd;exact hs.dd id hd
 ·rintro b ⟨id,u,hu,hb⟩
  rcases cs id u hu with ⟨rfl,rfl⟩ | ⟨hne,hu⟩
  ·exact .inr hb
  ·exact .inl ⟨id,u,hu,hb⟩
 ·intro id cs' hc';have hlt:=(List.getElem?_eq_some_iff.1 hc').1;exact ⟨cs',by rw [List.getElem?_append_left hlt];exact hc',q0t (by omega)⟩
 ·intro hm id a ha hd;by_cases e1:id=o.length
  ·subst e1;exact ⟨v,q0x⟩
  ·rw [q0t e1];have hlt:id<o.length:=by have:=(List.getElem?_eq_some_iff.1 ha).1;simp at this;omega
   rw [List.getElem?_append_left hlt] at ha;exact hm id a ha hd
 ·simp only [RC];simp;exact ⟨v,q0x,q4h hown⟩
theorem close (hs:SRx w Im ρ o X) {i b:Nat} {c0 ds:List CV} {vs:List Value} (ho:o[i]? = some (.box c0)) (hρ:ρ i=some (.pointer (some ⟨b,0,none⟩))) (hb:BoxAt w b vs) (hI:¬ Im b) (hl:vs.length=ds.length)
  (hr:∀ (k:Nat) (c:CV) (y:Value),ds[k]? = some c->vs[k]? = some y->RC w Im ρ o c (mainV y)) :
  SRx w Im ρ (o.set i (.box ds)) (fun j=>X j /\ j≠i) /\ Inn w Im ρ o ρ (o.set i (.box ds)) (fun _=>False):=by
 have hlt:=(List.getElem?_eq_some_iff.1 ho).1;have hc:q1u ρ ρ o (o.set i (.box ds)):=by
  intro j a ha;by_cases e1:j=i
  ·subst e1;rw [ho] at ha;injection ha with ha
   subst ha;exact ⟨.box ds,by rw [List.getElem?_set_self hlt],rfl⟩
  ·exact ⟨a,by rw [List.getElem?_set_ne (Ne.symm e1)];exact ha,by cases a <;> simp [q1f]⟩
 refine ⟨⟨?_,hs.inj,fun id v hv=>⟨by simpa using (hs.lt id v hv).1,(hs.lt id v hv).2⟩,hs.im,?_⟩,⟨fun c y hy=>RC.compat q2q hc hy,fun b hb=>.inl hb,?_,?_,by simp,fun _ _ h=>h⟩⟩
 ·intro j a v hX ha hv;by_cases e1:j=i
  ·subst e1;rw [List.getElem?_set_self hlt] at ha;injection ha with ha
   subst ha;rw [hρ] at hv;injection hv with hv
   subst hv;obtain ⟨e,he⟩:=hb.1;refine ⟨b,(vs.map mainV).toArray,e,rfl,he,by simpa using hl,fun k c y hk hy=>?_,fun k y hy=>?_,hI⟩
   ·simp only [List.getElem?_toArray,List.getElem?_map,Option.map_eq_some_iff] at hy;obtain ⟨y',hy',rfl⟩:=hy;exact RC.compat q2q hc (hr k c y' hk hy')
   ·simp only [List.getElem?_toArray,List.getElem?_map,Option.map_eq_some_iff] at hy;obtain ⟨y',hy',rfl⟩:=hy;exact hb.2 y' (List.mem_of_getElem? hy')
  ·rw [List.getElem?_set_ne (Ne.symm e1)] at ha;exact RO.keep q2q hc (fun _ _=>rfl) (fun _ _ h=>h) (hs.ob j a v (fun h=>hX ⟨h,e1⟩) ha hv)
 ·intro j hd;by_cases e1:j=i
  ·subst e1;rw [List.getElem?_set_self hlt] at hd;cases hd
  ·rw [List.getElem?_set_ne (Ne.symm e1)] at hd;exact hs.dd j hd
 ·intro j cs' hj;by_cases e1:j=i
  ·subst e1;exact ⟨ds,by rw [List.getElem?_set_self hlt],rfl⟩
  ·exact ⟨cs',by rw [List.getElem?_set_ne (Ne.symm e1)];exact hj,rfl⟩
 ·intro hm j a ha hd;by_cases e1:j=i
  ·subst e1;exact ⟨_,hρ⟩
  ·rw [List.getElem?_set_ne (Ne.symm e1)] at ha;exact hm j a ha hd
theorem w08 (ct:CellT) (c:Option CV) (K:PV->R):inP ct c K=(asP c).bind fun v=>q2c ct v K:=by
 have hN:∀ (sh:Nat) (v:PV),((v.asRowN sh).bind fun xs=>bif xs.isEmpty then K (.row sh 2 []) else K (.row sh 3 xs))=q2c (.rowN sh) v K:=by
  intro sh v;cases v <;> first | rfl | skip
  rename_i s f xs;simp only [PV.asRowN,q2c];cases (f==2)
  ·cases hc:(s==sh&&!xs.isEmpty)
   ·rfl
   ·simp only [Bool.and_eq_true,Bool.not_eq_true'] at hc;simp only [cond_false,cond_true,Option.bind_some,PV.rowN,hc.2]
  ·rfl
 cases ct with
 | rowN sh=>
  simp only [inP,x77];cases asP c with
  | none=>rfl
  | some v=>exact hN sh v
 | _=>simp only [inP,q2c,cInt,q3d,cStr,cRow] <;> cases asP c <;> rfl
theorem y70 {K:CV->List AObj->R} {k:Kind} {c:Option CV} {c1:CV} {y:Value} {A:Nat->Prop} (hs:SRx w Im ρ o X) (hc:c=some c1) (hT:Toks w Im (c1::cs) (y::ys) (Ow ρ)) (hA:∀ i b,OB (c1::cs) (y::ys) i b->A b) (h:inC k c o K=some r) :
  ∃ d o1 ρ1,K d o1=some r /\ SRx w Im ρ1 o1 X /\ Inn w Im ρ o ρ1 o1 A /\ RC w Im ρ1 o1 d (mainV y) /\ Toks w Im cs ys (Ow ρ1):=by
 subst hc;have hr:=hT.tok 0 c1 y rfl rfl;have htl:Toks w Im cs ys (Ow ρ):=Toks.right (cs:=[c1]) (ys:=[y]) rfl hT;unfold inC at h;split at h
 ·rw [w08] at h;obtain ⟨v,hv,hk⟩:=bind_some h;cases c1 <;> simp [asP] at hv
  subst hv;obtain ⟨v2,hk,hwk⟩:=q45 hk;exact ⟨.p v2,o,ρ,hk,hs,Inn.refl,by rw [RP.mainV hr];exact hwk.2 _ _ _ hr,htl⟩
 ·rename_i e sh;obtain ⟨xs,hv,hk⟩:=bind_some h;cases c1 <;> simp only [q3z] at hv <;> first | (cases hv;done) | skip
  rename_i e' sh' xs';obtain ⟨hcnd,hv2⟩:=q0j hv;simp only [Bool.and_eq_true,beq_iff_eq] at hcnd;obtain ⟨rfl,rfl⟩:=hcnd;injection hv2 with hv2
  subst hv2;have hnew:∀ b,Blk y b->OB (.own e sh xs'::cs) (y::ys) 0 b:=fun b hb=>⟨_,_,_,y,rfl,rfl,hb⟩
  obtain ⟨h1,h2,h3⟩:=x7z hs hr (fun b hb=>hT.out 0 b (hnew b hb));refine ⟨_,_,_,hk,h1,h2.mono fun b hb=>hA 0 b (hnew b hb),h3,htl.keep q2q fun i b hob=>⟨rfl,(htl.lt hob).2,fun hO=>?_⟩⟩;rcases h2.own b hO with h4 | h4
  ·exact htl.out i b hob h4
  ·have:=hT.dis _ _ b (hnew b h4) (OB.right (cs:=[.own e sh xs']) (ys:=[y]) rfl hob)
   simp at this;omega
theorem z3w {A:Nat->Prop} {get:Nat->Option CV}:∀ {ks:List Kind} {i:Nat} {c0:List CV} {y0:List Value} {o:List AObj} {ρ:Nat->Option Value} {K:List CV->List AObj->R},SRx w Im ρ o X->c0.length=ks.length->y0.length=ks.length ->
  (∀ t,t<ks.length->get (i+t)=c0[t]?)->Toks w Im (c0++cs) (y0++ys) (Ow ρ)->(∀ i b,OB (c0++cs) (y0++ys) i b->A b)->inCs get ks i o K=some r ->
  ∃ ds o1 ρ1,K ds o1=some r /\ SRx w Im ρ1 o1 X /\ Inn w Im ρ o ρ1 o1 A /\ ds.length=ks.length /\ (∀ (t:Nat) (d:CV) (y:Value),ds[t]? = some d->y0[t]? = some y->RC w Im ρ1 o1 d (mainV y)) /\ Toks w Im cs ys (Ow ρ1)
 | [],i,c0,y0,o,ρ,K,hs,hl,hl2,hg,hT,hA,h=>by
  simp only [inCs] at h;have e1:c0=[]:=List.eq_nil_of_length_eq_zero hl;have e2:y0=[]:=List.eq_nil_of_length_eq_zero hl2;subst e1;subst e2;exact ⟨[],o,ρ,h,hs,Inn.refl,rfl,fun t d y hd=>by simp at hd,by simpa using hT⟩
 | k::ks,i,c0,y0,o,ρ,K,hs,hl,hl2,hg,hT,hA,h=>by
  cases c0 with
  | nil=>simp at hl
  | cons c c0=>
   cases y0 with
   | nil=>simp at hl2
   | cons y y0=>
    simp only [inCs] at h;have hg0:=hg 0 (by simp);simp only [Nat.add_zero,List.getElem?_cons_zero] at hg0;obtain ⟨d,o1,ρ1,h,hs1,hin,hr,hT1⟩:=y70 (cs:=c0++cs) (ys:=y0++ys) (A:=A) hs hg0 (by simpa using hT) (by simpa using hA) h;obtain ⟨ds,o2,ρ2,h,hs2,hin2,hl3,hr2,hT2⟩:=z3w (c0:=c0) (y0:=y0) hs1 (by simpa using hl) (by simpa using hl2)
     (fun t ht=>by rw [show i+1+t=i+(t+1) by omega,hg (t+1) (by simpa using ht)];simp) hT1 (fun j b hob=>hA _ b (OB.right (cs:=[c]) (ys:=[y]) rfl hob)) h
    refine ⟨d::ds,o2,ρ2,h,hs2,hin.trans hin2,by simp [hl3],?_,hT2⟩;intro t d' y' hd' hy';cases t with
    | zero=>
     simp at hd' hy';subst hd';subst hy';exact hin2.keep _ _ hr
    | succ t=>exact hr2 t d' y' (by simpa using hd') (by simpa using hy')
theorem x8a {bs:List (List CV)} {j:Nat} {c0:List CV} (h:bs[j]? = some c0) (i:Nat):q0w bs j i=c0[i]?:=by simp [q0w,h]
theorem z3v {A:Nat->Prop} {bs:List (List CV)}:∀ {kss:List (List Kind)} {is:List Nat} {j:Nat} {bsr:List (List CV)} {vss:List (List Value)} {o:List AObj} {ρ:Nat->Option Value} {K:List AObj->R},SRx w Im ρ o (·∈is) ->
  bsr.map List.length=kss.map List.length->vss.map List.length=kss.map List.length->is.length=kss.length->(∀ t,t<kss.length->bs[j+t]? = bsr[t]?) ->
  (∀ (t i:Nat) (vs:List Value),is[t]? = some i->vss[t]? = some vs->∃ b c0,o[i]? = some (.box c0) /\ ρ i=some (.pointer (some ⟨b,0,none⟩)) /\ BoxAt w b vs /\ ¬ Im b) ->
  Toks w Im (bsr.flatten++cs) (vss.flatten++ys) (Ow ρ)->(∀ i b,OB (bsr.flatten++cs) (vss.flatten++ys) i b->A b)->inBs bs kss is j o K=some r ->
  ∃ o1 ρ1,K o1=some r /\ SR w Im ρ1 o1 /\ Inn w Im ρ o ρ1 o1 A /\ Toks w Im cs ys (Ow ρ1)
 | [],[],j,bsr,vss,o,ρ,K,hs,hl,hl2,hli,hg,hb,hT,hA,h=>by
  simp only [inBs] at h;have e1:bsr=[]:=by simpa using hl
  have e2:vss=[]:=by simpa using hl2
  subst e1;subst e2;exact ⟨o,ρ,h,hs.sr (by simp),Inn.refl,by simpa using hT⟩
 | ks::kss,i::is,j,bsr,vss,o,ρ,K,hs,hl,hl2,hli,hg,hb,hT,hA,h=>by
  cases bsr with
  | nil=>simp at hl
  | cons c0 bsr=>
   cases vss with
   | nil=>simp at hl2
   | cons v0 vss=>
    simp only [inBs] at h;simp only [List.map_cons,List.cons.injEq] at hl hl2;have hg0:=hg 0 (by simp);simp only [Nat.add_zero,List.getElem?_cons_zero] at hg0;have hlen:v0.length=c0.length:=by rw [hl.1,hl2.1]
    obtain ⟨ds,o1,ρ1,h,hs1,hin,hl3,hr,hT1⟩:=z3w (cs:=bsr.flatten++cs) (ys:=vss.flatten++ys) (A:=A) (c0:=c0) (y0:=v0) hs hl.1 hl2.1 (fun t ht=>by rw [Nat.zero_add];exact x8a hg0 t)
     (by simpa using hT) (by simpa using hA) h
    obtain ⟨b,c00,ho,hρ,hbx,hI⟩:=hb 0 i v0 rfl rfl;obtain ⟨c1,ho1,hρ1⟩:=hin.box i c00 ho;rw [hρ] at hρ1;obtain ⟨hs2,hin2⟩:=close hs1 ho1 hρ1 hbx hI (by rw [hl3];exact hl2.1) hr;have hin2':Inn w Im ρ1 o1 ρ1 (o1.set i (.box ds)) A:=hin2.mono fun _ h=>h.elim
    have hb2:∀ (t i':Nat) (vs:List Value),is[t]? = some i'->vss[t]? = some vs->∃ b c0,(o1.set i (.box ds))[i']? = some (.box c0) /\ ρ1 i'=some (.pointer (some ⟨b,0,none⟩)) /\ BoxAt w b vs /\ ¬ Im b:=by
     intro t i' vs hi hv;obtain ⟨b',c2,h1,h2,h3,h4⟩:=hb (t+1) i' vs (by simpa using hi) (by simpa using hv);obtain ⟨c3,h5,h6⟩:=(hin.trans hin2').box i' c2 h1;exact ⟨b',c3,h5,h6.trans h2,h3,h4⟩
    obtain ⟨o3,ρ3,hk,hs3,hin3,hT3⟩:=z3v (bsr:=bsr) (vss:=vss) (hs2.mono (X':=(·∈is)) fun id hid=>by
      rcases List.mem_cons.1 hid.1 with h1 | h1
      ·exact absurd h1 hid.2
      ·exact h1) hl.2 hl2.2 (by simpa using hli)
     (fun t ht=>by rw [show j+1+t=j+(t+1) by omega,hg (t+1) (by simpa using ht)];simp) hb2 hT1 (fun t b hob=>by
      have:=OB.right (cs:=c0) (ys:=v0) hlen hob
      exact hA _ b (by simpa using this)) h
    exact ⟨o3,ρ3,hk,hs3,(hin.trans hin2').trans hin3,hT3⟩
 | [],_::_,_,_,_,_,_,_,_,_,_,_,_,_,_,_,h=>by simp [inBs] at h
 | _::_,[],_,_,_,_,_,_,_,_,_,_,_,_,_,_,h=>by simp [inBs] at h
theorem w1h {d:SV} {k:Kind} (h:lenS d=lenK (.c k)):∃ c,d=.c c:=by cases d <;> simp_all [lenS,lenK]
theorem w1g {d:SV} {ks:List Kind} (h:lenS d=lenK (.agg ks)):∃ c,d=.agg c /\ c.length=ks.length:=by cases d <;> simp_all [lenS,lenK]
theorem z3x {A:Nat->Prop} {vs:List SV}:∀ {ks:List RK} {j:Nat} {vr:List SV} {y0 zs:List Value} {o:List AObj} {ρ:Nat->Option Value} {K:List SV->List AObj->R},SR w Im ρ o->vr.map lenS=ks.map lenK->RetSs vr y0 zs ->
  (∀ t,t<ks.length->vs[j+t]? = vr[t]?)->Toks w Im (vr.flatMap cellsOfS) zs (Ow ρ)->(∀ i b,OB (vr.flatMap cellsOfS) zs i b->A b)->inSs vs ks j o K=some r ->
  ∃ ds o1 ρ1,K ds o1=some r /\ SR w Im ρ1 o1 /\ Inn w Im ρ o ρ1 o1 A /\ ds.length=ks.length /\ y0.length=ks.length /\ ∀ (t:Nat) (d:SV) (y:Value),ds[t]? = some d->y0[t]? = some y->RS w Im ρ1 o1 d y
 | [],j,vr,y0,zs,o,ρ,K,hs,hl,hret,hg,hT,hA,h=>by
  simp only [inSs] at h;have e1:vr=[]:=by simpa using hl
  subst e1;cases hret;exact ⟨[],o,ρ,h,hs,Inn.refl,rfl,rfl,fun t d y hd=>by simp at hd⟩
 | k::ks,j,vr,y0,zs,o,ρ,K,hs,hl,hret,hg,hT,hA,h=>by
  cases hret with
  | nil=>simp at hl
  | @cons d0 y z0 vr y0 zs h0 hrest=>
   simp only [List.map_cons,List.cons.injEq] at hl;have hg0:=hg 0 (by simp);simp only [Nat.add_zero,List.getElem?_cons_zero] at hg0;have hgr:∀ t,t<ks.length->vs[j+1+t]? = vr[t]?:=fun t ht=>by rw [show j+1+t=j+(t+1) by omega,hg (t+1) (by simpa using ht)];simp
   cases k with
   | c k=>
    obtain ⟨c,rfl⟩:=w1h hl.1;simp only [RetS] at h0;obtain ⟨g,rfl,rfl⟩:=h0;simp only [inSs] at h;obtain ⟨d,o1,ρ1,h,hs1,hin,hr,hT1⟩:=y70 (cs:=vr.flatMap cellsOfS) (ys:=zs) (A:=A) (X:=fun _=>False) (c1:=c) (y:=g) (hs.x _) (by simp [q01,hg0]) (by simpa [cellsOfS] using hT) (by simpa [cellsOfS] using hA) h;obtain ⟨ds,o2,ρ2,h,hs2,hin2,hl3,hl4,hr2⟩:=z3x (hs1.sr fun _ h=>h) hl.2 hrest hgr hT1 (fun t b hob=>hA _ b (by simpa [cellsOfS] using OB.right (cs:=[c]) (ys:=[g]) rfl hob)) h;refine ⟨.c d::ds,o2,ρ2,h,hs2,hin.trans hin2,by simp [hl3],by simp [hl4],?_⟩;intro t d' y' hd' hy';cases t with
    | zero=>
     simp at hd' hy';subst hd';subst hy';exact hin2.keep _ _ hr
    | succ t=>exact hr2 t d' y' (by simpa using hd') (by simpa using hy')
   | agg kk=>
    obtain ⟨c,rfl,hcl⟩:=w1g hl.1;obtain ⟨hzl,rfl,hz1⟩:=h0;simp only [inSs] at h;obtain ⟨d,o1,ρ1,h,hs1,hin,hdl,hr,hT1⟩:=z3w (cs:=vr.flatMap cellsOfS) (ys:=zs) (A:=A) (X:=fun _=>False) (c0:=c) (y0:=z0) (hs.x _) hcl (by omega) (fun t ht=>by simp [partAt,hg0]) (by simpa [cellsOfS] using hT) (by simpa [cellsOfS] using hA) h;obtain ⟨ds,o2,ρ2,h,hs2,hin2,hl3,hl4,hr2⟩:=z3x (hs1.sr fun _ h=>h) hl.2 hrest hgr hT1 (fun t b hob=>hA _ b (by simpa [cellsOfS] using OB.right (cs:=c) (ys:=z0) hzl hob)) h;refine ⟨mkAgg d::ds,o2,ρ2,h,hs2,hin.trans hin2,by simp [hl3],by simp [hl4],?_⟩;intro t d' y' hd' hy';cases t with
    | zero=>
     simp at hd' hy';subst hd';subst hy';refine q5z (by simp;omega) (fun i c' y hc' hy=>?_) (fun i y hy=>?_)
     ·simp only [List.getElem?_toArray,List.getElem?_map,Option.map_eq_some_iff] at hy;obtain ⟨y',hy',rfl⟩:=hy;exact hin2.keep _ _ (hr i c' y' hc' hy')
     ·simp only [List.getElem?_toArray,List.getElem?_map,Option.map_eq_some_iff] at hy;obtain ⟨y',hy',rfl⟩:=hy;exact hz1 y' (List.mem_of_getElem? hy')
    | succ t=>exact hr2 t d' y' (by simpa using hd') (by simpa using hy')
end
end Go.Dp
namespace Go.Dp
def Ptrs (bl:List Nat):Nat->Option Value:=fun j=>bl[j]?.map fun b=>.pointer (some ⟨b,0,none⟩)
def blanks (n:Nat):List AObj:=List.replicate n (.box [])
def z8u:List Value->Value
 | [y]=>y
 | ys=>.tuple ys.toArray
def RetV (rs:List SV) (v:Value) (zs:List Value):Prop:=∃ y0,RetSs rs y0 zs /\ v=z8u y0
def DD (bl:List Nat) (cs:List CV) (ys:List Value) (b:Nat):Prop:=b∈bl∨OBs cs ys b
def Enters (P : Program) (f : FuncId) : Prop := ∃ fn, P.funcs[f]? = some fn ∧ fn.body.isSome = true ∧ fn.name ≠ "runtime.NumGoroutine"
def isOwnA:AV->Bool
 | .s (.c (.own ..))=>true
 | _=>false
def ownC:List AV->List CV
 | []=>[]
 | a::as=>match a with
  | .s (.c (.own e sh xs))=>.own e sh xs::ownC as
  | _=>ownC as
inductive OwnG:List AV->List Value->List Value->Prop
 | nil:OwnG [] [] []
 | own {e:Et} {sh:Nat} {xs:List PV} {g:Value} {as:List AV} {ys gs:List Value}:OwnG as ys gs->OwnG (.s (.c (.own e sh xs))::as) (mainV g::ys) (g::gs)
 | no {a:AV} {y:Value} {as:List AV} {ys gs:List Value}:isOwnA a=false->OwnG as ys gs->OwnG (a::as) (y::ys) gs
theorem q7d {a:AV} (h:isOwnA a=false) (as:List AV):ownC (a::as)=ownC as:=by
 simp only [ownC];split
 · simp [isOwnA] at h
 · rfl
theorem OwnG.len {as:List AV} {ys gs:List Value} (h:OwnG as ys gs):ys.length=as.length /\ gs.length=(ownC as).length:=by
 induction h with
 | nil=>exact ⟨rfl,rfl⟩
 | own _ ih=>exact ⟨by simp [ih.1],by simp [ownC,ih.2]⟩
 | no hn _ ih=>exact ⟨by simp [ih.1],by rw [q7d hn];exact ih.2⟩
theorem OwnG.none:∀ {as:List AV} {ys:List Value},ys.length=as.length->(∀ a∈as,isOwnA a=false)->OwnG as ys [] /\ ownC as=[]
 | [],[],_,_=>⟨.nil,rfl⟩
 | a::as,y::ys,hl,h=>by
  obtain ⟨h1,h2⟩:=OwnG.none (as:=as) (ys:=ys) (by simpa using hl) (fun a ha=>h a (by simp [ha]));exact ⟨.no (h a (by simp)) h1,by rw [q7d (h a (by simp))];exact h2⟩
 | [],_::_,hl,_=>by simp at hl
 | _::_,[],hl,_=>by simp at hl
structure Pre (w:World) (Im:Nat->Prop) (bl:List Nat) (bs:List (List CV)) (vss:List (List Value)) (args:List AV) (ys gs:List Value):Prop where
 im:∀ b,Im b->b<w.heap.size
 nd:∀ (i j b:Nat),bl[i]? = some b->bl[j]? = some b->i=j
 l1:bl.length=bs.length
 l2:vss.map List.length=bs.map List.length
 box:∀ (j b:Nat) (vs:List Value),bl[j]? = some b->vss[j]? = some vs->BoxAt w b vs /\ ¬ Im b
 tok:Toks w Im (bs.flatten++ownC args) (vss.flatten++gs) (·∈bl)
 og:OwnG args ys gs
 arg:∀ (i:Nat) (a:AV) (y:Value),args[i]? = some a->ys[i]? = some y->isOwnA a=false->RA w Im (Ptrs bl) (blanks bl.length) a y
structure Post (w:World) (Im:Nat->Prop) (bl:List Nat) (cs:List CV) (us:List Value) (r:List SV × List (List CV)) (v:Value) (w':World) (Im':Nat->Prop) (vss':List (List Value)) (zs:List Value):Prop where
 wd:Wd w w'
 fr:∀ b,b<w.heap.size->¬ DD bl cs us b->w'.heap[b]? = w.heap[b]?
 im:∀ b,Im b->Im' b /\ w'.heap[b]? = w.heap[b]?
 imn:∀ b,Im' b->(Im b∨w.heap.size<=b∨DD bl cs us b) /\ b<w'.heap.size
 l1:r.2.length=bl.length
 l2:vss'.map List.length=r.2.map List.length
 box:∀ (j b:Nat) (vs:List Value),bl[j]? = some b->vss'[j]? = some vs->BoxAt w' b vs /\ ¬ Im' b
 tok:Toks w' Im' (r.2.flatten++r.1.flatMap cellsOfS) (vss'.flatten++zs) (·∈bl)
 ow:∀ b,OBs (r.2.flatten++r.1.flatMap cellsOfS) (vss'.flatten++zs) b->w.heap.size<=b∨DD bl cs us b
 ret:RetV r.1 v zs
def Contract (P:Program) (f:FuncId) (args:List AV) (bs:List (List CV)) (r:List SV × List (List CV)):Prop :=
 Enters P f /\ ∀ w Im bl vss ys gs,Pre w Im bl bs vss args ys gs->Calls P f ys.toArray w fun e w'=>∃ v Im' vss' zs,e=.returned v /\ Post w Im bl (bs.flatten++ownC args) (vss.flatten++gs) r v w' Im' vss' zs
theorem w3g {l:List Nat} {i x:Nat}:x∈add1 l i↔x∈l∨x=i:=by
 unfold add1;cases h:l.contains i
 ·simp
 ·simp at h;simp;intro e;subst e;exact h
theorem z37 {l is:List Nat} {x:Nat}:x∈adds l is↔x∈l∨x∈is:=by
 unfold adds
 induction is generalizing l with
 | nil=>simp
 | cons i is ih=>rw [List.foldl_cons,ih,w3g];simp [or_assoc]
theorem x8u {l:List Nat} {i:Nat} (h:l.Nodup):(add1 l i).Nodup:=by
 unfold add1;cases hc:l.contains i
 ·simp at hc;simp [List.nodup_append,h];intro a ha e;subst e;exact hc ha
 ·exact h
theorem q6y {l is:List Nat} (h:l.Nodup):(adds l is).Nodup:=by
 unfold adds
 induction is generalizing l with
 | nil=>exact h
 | cons i is ih=>exact ih (x8u h)
theorem z3u {L:List Nat} {id j:Nat} (h:idx L id=some j):L[j]? = some id:=by
 unfold idx at h;rw [List.idxOf?_eq_some_iff] at h;obtain ⟨hlt,h1,_⟩:=h;simp [hlt,h1]
theorem z66 {L:List Nat}:∀ {is js:List Nat},idxs L is=some js->js.length=is.length /\ ∀ (k j:Nat),js[k]? = some j->∃ id,is[k]? = some id /\ L[j]? = some id
 | [],js,h=>by simp [idxs] at h;subst h;exact ⟨rfl,fun k j h=>by simp at h⟩
 | i::is,js,h=>by
  simp only [idxs] at h;split at h
  ·rename_i j js' h1 h2;injection h with h
   subst h;obtain ⟨hl,hr⟩:=z66 h2;refine ⟨by simp [hl],fun k j' hj=>?_⟩;cases k with
   | zero=>simp at hj;subst hj;exact ⟨i,rfl,z3u h1⟩
   | succ k=>simpa using hr k j' (by simpa using hj)
  ·cases h
section
variable {P:Program} {E:Env} {w w':World} {Im Im':Nat->Prop} {ρ ρ':Nat->Option Value} {o o':List AObj} {K:Kt} {r:List SV × List (List CV)} {cs:List CV} {ys:List Value} {D D' X:Nat->Prop}
theorem x38 {a:AV} {y:Value} (h:RA w Im ρ o a y):∀ c∈q1d a,∃ z,RC w Im ρ o c z:=by
 have hS:∀ (v:SV) (y:Value),RS w Im ρ o v y->∀ c∈cellsOfS v,∃ z,RC w Im ρ o c z:=by
  intro v y h c hc;cases v with
  | c c'=>simp [cellsOfS] at hc;subst hc;exact ⟨y,h⟩
  | agg cs=>
   obtain ⟨vs,rfl,hl,hr,_⟩:=h;obtain ⟨i,hi,rfl⟩:=List.getElem_of_mem hc;simp only [cellsOfS] at hi ⊢;have hi':i<vs.size:=by rw [hl];exact hi
   exact ⟨vs[i],hr i _ _ (by simp [hi]) (by simp [hi'])⟩
 cases a with
 | s v=>exact hS v y h
 | tup ts=>
  intro c hc;obtain ⟨vs,rfl,hl,hr⟩:=h;simp only [q1d,List.mem_flatMap] at hc;obtain ⟨s,hs,hc⟩:=hc;obtain ⟨i,hi,rfl⟩:=List.getElem_of_mem hs;have hi':i<vs.size:=by rw [hl];exact hi
  exact hS _ _ (hr i _ vs[i] (by simp [hi]) (by simp [hi'])) c hc
theorem w1u {c:CV} {y:Value} (h:RC w Im ρ o c y) {id:Nat} (hid:id∈z09 c) {c0:List CV} (ho:o[id]? = some (.box c0)):∃ b,ρ id=some (.pointer (some ⟨b,0,none⟩)):=by
 cases c <;> simp [z09] at hid
 ·subst hid;simp only [RC,RB,ho] at h;obtain ⟨b,hb,_⟩:=h;exact ⟨b,hb⟩
 ·obtain ⟨vs,_,hl,hr⟩:=h;obtain ⟨i,hi,rfl⟩:=List.getElem_of_mem hid;obtain ⟨y,_,hb⟩:=hr i _ (List.getElem?_eq_getElem hi);simp only [RB,ho] at hb;obtain ⟨b,hb,_⟩:=hb;exact ⟨b,hb⟩
theorem x4d {i id:Nat}:(∀ cs,o[id]? = some (.box cs)↔(freezeO o i)[id]? = some (.box cs)):=by
 intro cs;unfold freezeO;split
 ·rename_i e sh ver fz xs h;have key:∀ x:AObj,(∀ cs,x≠.box cs)->(o[id]? = some (.box cs)↔(o.set i x)[id]? = some (.box cs)):=by
   intro x hx;by_cases e1:id=i
   ·subst e1;have hlt:=(List.getElem?_eq_some_iff.1 h).1;rw [h,List.getElem?_set_self hlt];constructor
    ·intro h;cases h
    ·intro h;injection h with h;exact absurd h (hx cs)
   ·rw [List.getElem?_set_ne (Ne.symm e1)]
  split
  ·exact key _ (by simp)
  ·cases Option.isNone _
   ·exact Iff.rfl
   ·exact key _ (by simp)
 ·exact Iff.rfl
theorem q8h {is:List Nat} {id:Nat}:∀ {o:List AObj} (cs:List CV),o[id]? = some (.box cs)↔(freezeAll is o)[id]? = some (.box cs):=by
 unfold freezeAll
 induction is with
 | nil=>intro o cs;exact Iff.rfl
 | cons i is ih=>intro o cs;rw [List.foldl_cons,<- ih];exact x4d cs
def Whole (e:Et):Prop:=∀ k,e.kd=some k->k.hole=none
theorem x9a {e:Et} (h:e.kd=none):Whole e:=by intro k hk;rw [h] at hk;cases hk
theorem w4q {id sh ver:Nat} {e:Et} {fz:Bool} {xs:List PV} (h:z74 o id=true) (ho:o[id]? = some (.arr e sh ver fz xs)):Whole e:=by
 intro k hk;unfold z74 at h;rw [ho] at h;simp only [hk] at h;simpa using h
theorem x4c {i id sh ver:Nat} {e:Et} {fz:Bool} {xs:List PV} (h:o[id]? = some (.arr e sh ver fz xs)) (hk:Whole e):∃ e' fz',(freezeO o i)[id]? = some (.arr e' sh ver fz' xs) /\ Whole e' /\ (i=id->e'.kd=none):=by
 unfold freezeO;split
 ·rename_i e' sh' ver' fz' xs' h';by_cases e1:id=i
  ·subst e1;rw [h] at h';injection h' with h'
   injection h' with h1 h2 h3 h4 h5
   subst h1 h2 h3 h5;split
   ·rename_i hn;exact ⟨e,true,by rw [List.getElem?_set_self (List.getElem?_eq_some_iff.1 h).1],hk,fun _=>hn⟩
   ·rename_i k hs;rw [hk k hs];exact ⟨e.t,true,by simp only [Option.isNone_none,cond_true];rw [List.getElem?_set_self (List.getElem?_eq_some_iff.1 h).1],x9a rfl,fun _=>rfl⟩
  ·split
   ·exact ⟨e,fz,by rw [List.getElem?_set_ne (Ne.symm e1)];exact h,hk,fun he=>absurd he.symm e1⟩
   ·cases Option.isNone _
    ·exact ⟨e,fz,h,hk,fun he=>absurd he.symm e1⟩
    ·exact ⟨e,fz,by simp only [cond_true];rw [List.getElem?_set_ne (Ne.symm e1)];exact h,hk,fun he=>absurd he.symm e1⟩
 ·rename_i hno;exact ⟨e,fz,h,hk,fun he=>by subst he;exact (hno _ _ _ _ _ h).elim⟩
theorem z04:∀ {is:List Nat} {o:List AObj} {Im:Nat->Prop},SR w Im ρ o->∃ ImL,Step w Im ρ o w ImL ρ (freezeAll is o) /\ ∀ id∈is,∀ e sh ver fz xs,o[id]? = some (.arr e sh ver fz xs)->Whole e->∀ v b,ρ id=some v->Blk v b->ImL b
 | [],o,Im,hs=>⟨Im,Step.refl hs,by simp⟩
 | i::is,o,Im,hs=>by
  obtain ⟨Im1,hst,hb⟩:=q8j hs i;obtain ⟨ImL,hst2,hb2⟩:=z04 (is:=is) hst.sr;refine ⟨ImL,hst.trans hst2,?_⟩;intro id hid e sh ver fz xs ho hk v b hv hbk;obtain ⟨e',fz',ho',hk',hi⟩:=x4c (i:=i) ho hk;rcases List.mem_cons.1 hid with rfl | hid
  ·exact (hst2.im b (hb _ _ _ _ _ ho' (hi rfl) v b hv hbk)).1
  ·exact hb2 id hid _ _ _ _ _ ho' hk' v b hv hbk
theorem RB.name {roots bl:List Nat} {id off j:Nat} {y:Value} (hj:roots[j]? = some id) (hb:RB ρ o id off y) {c0:List CV} (ho:o[id]? = some (.box c0)) (hbl:∀ (j id:Nat),roots[j]? = some id->∃ b,bl[j]? = some b /\ ρ id=some (.pointer (some ⟨b,0,none⟩))) :
  RB (Ptrs bl) (blanks bl.length) j off y:=by
 simp only [RB,ho] at hb;obtain ⟨b,hρ,rfl⟩:=hb;obtain ⟨b',h1,h2⟩:=hbl j id hj;rw [hρ] at h2;injection h2 with h2
 injection h2 with h2
 injection h2 with h2
 injection h2 with h2
 subst h2;have hlt:=(List.getElem?_eq_some_iff.1 h1).1
 have:(blanks bl.length)[j]? = some (.box []):=by simp [blanks,hlt]
 simp only [RB,this];exact ⟨b,by simp [Ptrs,h1],rfl⟩
theorem z9y {ImL:Nat->Prop} {roots bl lent:List Nat} (hs:SR w Im ρ o) (hi:∀ b,Im b->ImL b) {c:CV} {y:Value} (hc:RC w Im ρ o c y) (hlent:∀ id∈q7v o c,∀ e sh ver fz xs,o[id]? = some (.arr e sh ver fz xs)->Whole e->∀ v b,ρ id=some v->Blk v b->ImL b)
  (hbox:∀ (j id:Nat),roots[j]? = some id->∃ c0,o[id]? = some (.box c0)) (hbl:∀ (j id:Nat),roots[j]? = some id->∃ b,bl[j]? = some b /\ ρ id=some (.pointer (some ⟨b,0,none⟩))) :
  RC w ImL (Ptrs bl) (blanks bl.length) (z38 roots (q9 o c)) y:=by
 have hm:∀ b,Im b->ImL b /\ w.heap[b]? = w.heap[b]?:=fun b h=>⟨hi b h,rfl⟩
 cases c with
 | p v=>exact RP.mono hm hc
 | undef=>trivial
 | own e sh xs=>exact hc.elim
 | cfn f us=>
  obtain ⟨vs,hx,hl,hh⟩:=hc;refine ⟨vs,hx,hl,fun i u hu=>?_⟩;obtain ⟨b,base,h1,h2,h3,h4⟩:=hh i u hu;exact ⟨b,base,h1,hi b h2,h3,fun j c hj=>let ⟨z,hz,hr⟩:=h4 j c hj;⟨z,hz,RP.mono hm hr⟩⟩
 | nel=>trivial
 | aptr=>trivial
 | eptr v sh off=>
  obtain ⟨b,base,hx,hb,hsh,hh⟩:=hc;exact ⟨b,base,hx,hi b hb,hsh,fun j c hj=>let ⟨z,hz,hr⟩:=hh j c hj;⟨z,hz,RP.mono hm hr⟩⟩
 | loc id ver sh lo len=>
  simp only [q9];cases hwo:z74 o id with
  | false=>trivial
  | true=>
  simp only [cond_true];split
  ·rename_i v hv;obtain ⟨e,fz,xs,ho⟩:=y83 hv;refine y0n hs hi hc hv fun u b hu hb=>?_
   cases fz with
   | true=>
    obtain ⟨vals,_,_,_,hz,_⟩:=hs.ob id _ _ ho hu;exact hi b ((hz b hb).2 rfl)
   | false=>exact hlent id (by simp [q7v,ho]) e sh ver false xs ho (w4q hwo ho) u b hu hb
  ·trivial
 | bptr id off=>
  simp only [q9,z38];split
  ·rename_i j hj;have hj':=z3u hj;obtain ⟨c0,ho⟩:=hbox j id hj';exact RB.name hj' hc ho hbl
  ·trivial
 | fn f caps=>
  simp only [q9,z38];split
  ·rename_i js hj;obtain ⟨hl,hr⟩:=z66 hj;obtain ⟨vs,hx,hl2,hh⟩:=hc;refine ⟨vs,hx,by omega,fun i j hij=>?_⟩;obtain ⟨id,h1,h2⟩:=hr i j hij;obtain ⟨z,hz,hb⟩:=hh i id h1;obtain ⟨c0,ho⟩:=hbox j id h2;exact ⟨z,hz,RB.name h2 hb ho hbl⟩
  ·trivial
theorem z9x {ImL:Nat->Prop} {roots bl lent:List Nat} (hs:SR w Im ρ o) (hi:∀ b,Im b->ImL b) {a:AV} {y:Value} (ha:RA w Im ρ o a y) (hlent:∀ c∈q1d a,∀ id∈q7v o c,∀ e sh ver fz xs,o[id]? = some (.arr e sh ver fz xs)->Whole e->∀ v b,ρ id=some v->Blk v b->ImL b)
  (hbox:∀ (j id:Nat),roots[j]? = some id->∃ c0,o[id]? = some (.box c0)) (hbl:∀ (j id:Nat),roots[j]? = some id->∃ b,bl[j]? = some b /\ ρ id=some (.pointer (some ⟨b,0,none⟩))) :
  RA w ImL (Ptrs bl) (blanks bl.length) (q7t roots o a) y:=by
 cases a with
 | tup ts=>trivial
 | s v=>
  cases v with
  | c c=>exact z9y (lent:=lent) hs hi ha (hlent c (by simp [q1d,cellsOfS])) hbox hbl
  | agg cs=>
   obtain ⟨vs,rfl,hl,hr,h1⟩:=ha;refine q5z (by simpa using hl) (fun i c z hc hz=>?_) h1;simp only [List.getElem?_map,Option.map_eq_some_iff] at hc;obtain ⟨c',hc',rfl⟩:=hc;exact z9y (lent:=lent) hs hi (hr i c' z hc' hz) (hlent c' (by simp [q1d,cellsOfS];exact List.mem_of_getElem? hc')) hbox hbl
theorem y5o:∀ {cs:List CV} {us:List PV},viewCs o cs=some us->us.length=cs.length /\ ∀ (j:Nat) (c:PV),us[j]? = some c->∃ d,cs[j]? = some d /\ z73 o d=some c /\ c.one=true
 | [],us,h=>by simp [viewCs] at h;subst h;exact ⟨rfl,fun j c h=>by simp at h⟩
 | d::cs,us,h=>by
  simp only [viewCs] at h;split at h
  ·rename_i v vs h1 h2;obtain ⟨h3,h⟩:=q0j h;injection h with h
   subst h;obtain ⟨h4,h5⟩:=y5o h2;refine ⟨by simp [h4],fun j c hj=>?_⟩;cases j with
   | zero=>simp at hj;subst hj;exact ⟨d,rfl,h1,h3⟩
   | succ j=>simpa using h5 j c (by simpa using hj)
  ·cases h
theorem z9c:∀ {caps:List Nat} {us:List PV},boxVals o caps=some us->us.length=caps.length /\ ∀ (i:Nat) (u:PV),us[i]? = some u->∃ id cs vs,caps[i]? = some id /\ o[id]? = some (.box cs) /\ viewCs o cs=some vs /\ vs≠[] /\ u=.agg vs
 | [],us,h=>by simp [boxVals] at h;subst h;exact ⟨rfl,fun j c h=>by simp at h⟩
 | id::caps,us,h=>by
  simp only [boxVals] at h;split at h
  ·rename_i cs ho;split at h
   ·rename_i vs us' h1 h2;obtain ⟨h3,h⟩:=q0j h;injection h with h
    subst h;obtain ⟨h4,h5⟩:=z9c h2;refine ⟨by simp [h4],fun j c hj=>?_⟩;cases j with
    | zero=>simp at hj;subst hj;exact ⟨id,cs,vs,rfl,ho,h1,by simpa using h3,rfl⟩
    | succ j=>simpa using h5 j c (by simpa using hj)
   ·cases h
  ·cases h
theorem x4h {ro:Bool} {ImX:Nat->Prop} {roots bl:List Nat} (hs:SR w Im ρ o) (hi:∀ b,Im b->ImX b) {a:AV} {y:Value} (ha:RA w Im ρ o a y)
  (hlent:∀ c∈q1d a,∀ id∈z35 ro o c,∀ e sh ver fz xs,o[id]? = some (.arr e sh ver fz xs)->(ro=true∨Whole e)->∀ v b,ρ id=some v->Blk v b->ImX b)
  (hcap:ro=true->∀ c∈q1d a,∀ id∈x78 c,id∉roots->∀ c0 b,o[id]? = some (.box c0)->ρ id=some (.pointer (some ⟨b,0,none⟩))->ImX b)
  (hbox:∀ (j id:Nat),roots[j]? = some id->∃ c0,o[id]? = some (.box c0)) (hbl:∀ (j id:Nat),roots[j]? = some id->∃ b,bl[j]? = some b /\ ρ id=some (.pointer (some ⟨b,0,none⟩))) :
  RA w ImX (Ptrs bl) (blanks bl.length) (lendR ro roots o a) y:=by
 cases ro with
 | false=>exact z9x (lent:=[]) hs hi ha (fun c hc id hid e sh ver fz xs h1 h2=>hlent c hc id (by simpa [z35] using hid) e sh ver fz xs h1 (.inr h2)) hbox hbl
 | true=>
  have base:RA w ImX (Ptrs bl) (blanks bl.length) (q7t roots o a) y:=z9x (lent:=[]) hs hi ha (fun c hc id hid e sh ver fz xs h1 h2=>hlent c hc id (by simp [z35,hid]) e sh ver fz xs h1 (.inr h2)) hbox hbl;unfold lendR
  simp only
  split
  ·rename_i f caps;cases hcond:caps.all (fun i=>!roots.contains i)
   ·trivial
   ·simp only [cond_true];split
    ·rename_i us hus;obtain ⟨hl,hr⟩:=z9c hus;obtain ⟨vs,rfl,hvl,hvr⟩:=ha;refine ⟨vs,rfl,by omega,fun i u hu=>?_⟩;obtain ⟨id,cs,ws,h1,h2,h3,h4,rfl⟩:=hr i u hu;obtain ⟨z,hz,hb⟩:=hvr i id h1;simp only [RB,h2] at hb;obtain ⟨b,hρ,rfl⟩:=hb;obtain ⟨b',vals,e,hp,hh,hcl,hrc,hone,hni⟩:=hs.ob id _ _ h2 hρ;obtain rfl:b=b':=by simpa using hp
     obtain ⟨hwl,hwr⟩:=y5o h3;have hidr:id∉roots:=by
      simp only [List.all_eq_true] at hcond
      have:=hcond id (List.mem_of_getElem? h1)
      simpa using this
     refine ⟨b,0,hz,hcap rfl (.fn f caps) (by simp [q1d,cellsOfS]) id (List.mem_of_getElem? h1) hidr cs b h2 hρ,?_,fun j c hj=>?_⟩
     ·cases ws with
      | nil=>exact absurd rfl h4
      | cons x ws=>
       simp only [PV.cells,List.length_cons,PV.shp,beq_self_eq_true,Bool.true_and,List.all_eq_true];intro q hq;obtain ⟨k,hk,rfl⟩:=List.getElem_of_mem hq;obtain ⟨_,_,_,h5⟩:=hwr k _ (List.getElem?_eq_getElem hk);exact h5
     ·simp only [PV.cells] at hj;obtain ⟨d,hd,hv,hc1⟩:=hwr j c hj;have hjl:j<vals.size:=by rw [hcl];exact (List.getElem?_eq_some_iff.1 hd).1
      refine ⟨vals[j],by simp [World.cell?,hh,hjl],?_⟩;have hrd:=hrc j d vals[j] hd (by simp [hjl]);cases d with
      | p v=>simp [z73,viewC] at hv;subst hv;exact RP.mono (fun b h=>⟨hi b h,rfl⟩) hrd
      | loc id2 ver sh lo len=>
       simp only [z73] at hv;obtain ⟨e2,fz,xs,ho2⟩:=y83 hv;refine y0n hs hi hrd hv fun u b hu hb=>?_
       cases fz with
       | true=>
        obtain ⟨vals,_,_,_,hz,_⟩:=hs.ob id2 _ _ ho2 hu;exact hi b ((hz b hb).2 rfl)
       | false=>
        refine hlent (.fn f caps) (by simp [q1d,cellsOfS]) id2 ?_ e2 sh ver false xs ho2 (.inl rfl) u b hu hb;simp only [z35,cond_true,List.mem_append,List.mem_flatMap,x78];exact .inr ⟨id,List.mem_of_getElem? h1,_,by simp only [q3o,h2];exact List.mem_of_getElem? hd,by simp [q7v,ho2]⟩
      | _=>simp [z73,viewC] at hv
    ·trivial
  ·exact base
theorem z1m {α β:Type}:∀ {a:List (List α)} {b:List (List β)},a.map List.length=b.map List.length->a.flatten.length=b.flatten.length
 | [],[],_=>rfl
 | x::a,y::b,h=>by
  simp only [List.map_cons,List.cons.injEq] at h;simp only [List.flatten_cons,List.length_append,h.1,z1m h.2]
 | [],_::_,h=>by simp at h
 | _::_,[],h=>by simp at h
theorem x8z {ds:List SV} {y0:List Value} (hl:ds.length=y0.length) (h:∀ (t:Nat) (d:SV) (y:Value),ds[t]? = some d->y0[t]? = some y->RS w Im ρ o d y) :
  RA w Im ρ o (y42 ds) (z8u y0):=by
 match ds,y0,hl with
 | [],[],_=>exact ⟨#[],rfl,rfl,fun i c y h=>by simp at h⟩
 | [x],[y],_=>exact h 0 x y rfl rfl
 | x::x2::xs,y::y2::ys,hl=>exact ⟨_,rfl,by simpa using hl.symm,fun i c z hc hz=>h i c z hc (by simpa using hz)⟩
theorem x99 {ImA ImR:Nat->Prop} {ρ1:Nat->Option Value} {oA:List AObj} {roots bl:List Nat} {cs:List CV} {us:List Value} {vss':List (List Value)} {ks:List (List Kind)} {rk:List RK} {v:Value} {zs:List Value} {q:List SV × List (List CV)}
  (hst:Step w Im ρ o w ImA ρ1 oA)
  (hown:∀ b,DD bl cs us b->Ow ρ b) (hnow:∀ b,OBs cs us b->¬ Ow ρ1 b)
  (hbl:∀ (j id:Nat),roots[j]? = some id->∃ b c0,bl[j]? = some b /\ ρ1 id=some (.pointer (some ⟨b,0,none⟩)) /\ oA[id]? = some (.box c0)) (hbr:∀ b∈bl,∃ (j id:Nat),bl[j]? = some b /\ roots[j]? = some id)
  (hwd:Wd w w') (hfr:∀ b,b<w.heap.size->¬ DD bl cs us b->w'.heap[b]? = w.heap[b]?) (him:∀ b,ImA b->ImR b /\ w'.heap[b]? = w.heap[b]?)
  (himn:∀ b,ImR b->(ImA b∨w.heap.size<=b∨DD bl cs us b) /\ b<w'.heap.size) (hl2:vss'.map List.length=q.2.map List.length)
  (hbox:∀ (j b:Nat) (vs:List Value),bl[j]? = some b->vss'[j]? = some vs->BoxAt w' b vs /\ ¬ ImR b)
  (htok:Toks w' ImR (q.2.flatten++q.1.flatMap cellsOfS) (vss'.flatten++zs) (·∈bl))
  (how:∀ b,OBs (q.2.flatten++q.1.flatMap cellsOfS) (vss'.flatten++zs) b->w.heap.size<=b∨DD bl cs us b) (hret:RetV q.1 v zs)
  (hk1:q.2.map List.length=ks.map List.length) (hk2:roots.length=ks.length) (hk3:q.1.map lenS=rk.map lenK)
  (h:(inBs q.2 ks roots 0 oA fun o3=>inSs q.1 rk 0 o3 fun vs o4=>K (y42 vs) o4)=some r) :
  ∃ v' o' ρ',K v' o'=some r /\ Step w Im ρ o w' ImR ρ' o' /\ RA w' ImR ρ' o' v' v:=by
 have hsA:=hst.sr;have ptr:∀ b∈bl,∃ id,id∈roots /\ ρ1 id=some (.pointer (some ⟨b,0,none⟩)):=by
  intro b hb;obtain ⟨j,id,h1,h2⟩:=hbr b hb;obtain ⟨b',c0,h3,h4,_⟩:=hbl j id h2;rw [h1] at h3;injection h3 with h3
  subst h3;exact ⟨id,List.mem_of_getElem? h2,h4⟩
 have ndd:∀ id u b,id∉roots->ρ1 id=some u->Blk u b->¬ DD bl cs us b:=by
  rintro id u b hid hu hb (hd | hd)
  ·obtain ⟨id',h1,h2⟩:=ptr b hd;exact hid (hsA.inj id' id _ u b h2 hu rfl hb ▸ h1)
  ·exact hnow b hd ⟨id,u,hu,hb⟩
 have hc:q1u ρ1 ρ1 oA oA:=fun id a ha=>⟨a,ha,by cases a <;> simp [q1f]⟩
 have hsx:SRx w' ImR ρ1 oA (·∈roots):=by
  refine ⟨?_,hsA.inj,fun id v hv=>⟨(hsA.lt id v hv).1,fun b hb=>Nat.lt_of_lt_of_le ((hsA.lt id v hv).2 b hb) hwd.size⟩,fun b hb=>(himn b hb).2,hsA.dd⟩;intro id x u hid hx hu;refine RO.keep him hc (fun b hb=>hfr b ((hsA.lt id u hu).2 b hb) (ndd id u b hid hu hb)) (fun b hb hI=>?_) (hsA.ob id x u hx hu);rcases (himn b hI).1 with h1 | h1 | h1
  ·exact h1
  ·have:=(hsA.lt id u hu).2 b hb;omega
  ·exact (ndd id u b hid hu hb h1).elim
 have htok':Toks w' ImR (q.2.flatten++q.1.flatMap cellsOfS) (vss'.flatten++zs) (Ow ρ1):=by
  refine htok.keep q2q fun i b hob=>⟨rfl,(htok.lt hob).2,?_⟩
  rintro ⟨id,u,hu,hb⟩
  rcases how b ⟨i,hob⟩ with h1 | h1 | h1
  ·have:=(hsA.lt id u hu).2 b hb;omega
  ·exact htok.out i b hob h1
  ·exact hnow b h1 ⟨id,u,hu,hb⟩
 have hlf:=z1m hl2;obtain ⟨o3,ρ3,h,hs3,hin3,ht3⟩:=z3v (A:=OBs (q.2.flatten++q.1.flatMap cellsOfS) (vss'.flatten++zs)) (bsr:=q.2) (vss:=vss') hsx hk1 (hl2.trans hk1) hk2 (fun t _=>by rw [Nat.zero_add])
  (fun t i vs hi hv=>by
   obtain ⟨b,c0,h1,h2,h3⟩:=hbl t i hi;exact ⟨b,c0,h3,h2,hbox t b vs h1 hv⟩) htok' (fun i b hob=>⟨i,hob⟩) h
 obtain ⟨y0,hret,rfl⟩:=hret;obtain ⟨ds,o4,ρ4,h,hs4,hin4,hl4,hl5,hr4⟩:=z3x (A:=OBs (q.2.flatten++q.1.flatMap cellsOfS) (vss'.flatten++zs)) hs3 hk3 hret (fun t _=>by rw [Nat.zero_add]) ht3 (fun i b hob=>⟨_,OB.right hlf hob⟩) h;have hin:=hin3.trans hin4;have hownS:∀ b,Ow ρ1 b->Ow ρ b:=hst.own;refine ⟨_,o4,ρ4,h,⟨hwd,hs4,?_,?_,?_,?_,?_,fun hm=>hin.mp (hst.mp hm),hst.gr.trans hin.gr⟩,x8z (by omega) hr4⟩
 ·intro c x hc';exact hin.keep c x (RC.compat him hc (hst.keep c x hc'))
 ·intro b hb hno;exact hfr b hb fun hd=>let ⟨id,u,hu,hub⟩:=hown b hd;hno id u hu hub
 ·intro id u b hu hb;rcases hin.own b ⟨id,u,hu,hb⟩ with h1 | h1
  ·exact .inr (hownS b h1)
  ·rcases how b h1 with h2 | h2
   ·exact .inl h2
   ·exact .inr (hown b h2)
 ·intro b hb;have h1:=hst.im b hb;have h2:=him b h1.1;exact h2
 ·intro b hb;rcases (himn b hb).1 with h1 | h1 | h1
  ·exact hst.imn b h1
  ·exact .inr (.inl h1)
  ·exact .inr (.inr (hown b h1))
theorem RP.plain {ImR:Nat->Prop} {v:PV} {y:Value} (hp:q35 v=true) (h:RP w Im v y):RP w ImR v y:=by
 cases h with
 | int k n=>exact .int k n
 | bool b=>exact .bool b
 | str s=>exact .str s
 | agg cs vs hl h1 hh=>
  refine .agg cs vs hl h1 fun i c y hc hy=>?_
  have:=hh i c y hc hy
  simp only [q35,List.all_eq_true] at hp;have hp':=hp c (List.mem_of_getElem? hc);cases this <;> first | (exact .int _ _) | (exact .bool _) | (exact .str _) | (simp at hp')
 | nil=>simp [q35] at hp
 | row=>simp [q35] at hp
 | junk=>simp [q35] at hp
theorem x2x {v:PV} (h:q35 v=true):∀ c∈v.cells,q35 c=true:=by
 intro c hc;cases v with
 | agg cs=>
  simp only [q35,List.all_eq_true] at h
  have:=h c hc
  cases c <;> simp_all [q35]
 | _=>simp [PV.cells] at hc;subst hc;exact h
theorem TokC.plain {ImR:Nat->Prop} (hi:∀ b,ImR b->Im b) {c:CV} {y:Value} (hp:q1m c=true) (h:TokC w Im c y):TokC w ImR c y:=by
 cases c <;> first | exact h.elim | skip
 ·exact RP.plain hp h
 ·rename_i e sh xs;obtain ⟨vals,hown,h1,h2,h3,h4⟩:=h;simp only [q1m,Bool.and_eq_true,List.all_eq_true,Option.isNone_iff_eq_none] at hp;obtain ⟨hk,hp⟩:=hp;simp only [RPk,hk] at h2;refine ⟨vals,hown,h1,fun i x j c y a1 a2 a3=>?_,fun b hb=>⟨fun _ hI=>(h3 b hb).1 rfl (hi b hI),fun h=>nomatch h⟩,?_⟩
  ·simp only [RPk,hk];exact RP.plain (x2x (hp x (List.mem_of_getElem? a1)) c (List.mem_of_getElem? a2)) (h2 i x j c y a1 a2 a3)
  ·simp only [RKids,hk] at h4 ⊢;exact h4
theorem Toks.plain {ImR:Nat->Prop} (hi:∀ b,ImR b->Im b) (hp:∀ c∈cs,q1m c=true) (h:Toks w Im cs ys D):Toks w ImR cs ys D :=
 ⟨h.len,fun i c y hc hy=>TokC.plain hi (hp c (List.mem_of_getElem? hc)) (h.tok i c y hc hy),h.dis,h.out⟩
end
end Go.Dp
namespace Go.Dp
section
variable {P:Program} {E:Env} {w w':World} {Im Im':Nat->Prop} {ρ ρ':Nat->Option Value} {o o':List AObj} {K:Kt} {r:List SV × List (List CV)} {t:List AV}
theorem x8 {ct:CellT} {c:CV} {K:CV->R} (h:z8g ct c K=some r):∃ d,K d=some r /\ (isOwnA (.s (.c d))=isOwnA (.s (.c c)) /\ (isOwnA (.s (.c c))=true->d=c)) /\ ∀ (w:World) (Im:Nat->Prop) (ρ:Nat->Option Value) (o:List AObj) (y:Value),RC w Im ρ o c y->RC w Im ρ o d y:=by
 unfold z8g at h;split at h
 ·obtain ⟨u,h,hw⟩:=q45 h;exact ⟨_,h,⟨rfl,fun h=>nomatch h⟩,fun w Im ρ o y hy=>hw.2 w Im y hy⟩
 ·exact ⟨_,h,⟨rfl,fun _=>rfl⟩,fun w Im ρ o y hy=>hy⟩
theorem x79 {ct:CT} {a:AV} {K:AV->R} (h:castA ct a K=some r):∃ b,K b=some r /\ (isOwnA b=isOwnA a /\ (isOwnA a=true->b=a)) /\ ∀ (w:World) (Im:Nat->Prop) (ρ:Nat->Option Value) (o:List AObj) (y:Value),RA w Im ρ o a y->RA w Im ρ o b y:=by
 unfold castA at h;split at h
 ·obtain ⟨d,h,ho,hw⟩:=x8 h;exact ⟨_,h,⟨ho.1,fun h=>by rw [ho.2 h]⟩,fun w Im ρ o y hy=>hw w Im ρ o y hy⟩
 ·obtain ⟨u,h,hw⟩:=y3v h;exact ⟨_,h,⟨rfl,fun h=>nomatch h⟩,fun w Im ρ o y hy=>hw.2 w Im y hy⟩
 ·exact ⟨_,h,⟨rfl,fun _=>rfl⟩,fun w Im ρ o y hy=>hy⟩
theorem z9g:∀ {cts:List CT} {as:List AV} {K:List AV->R},q5g cts as K=some r->∃ bs,K bs=some r /\ bs.length=as.length /\ (∀ (i:Nat) (b a:AV),bs[i]? = some b->as[i]? = some a->isOwnA b=isOwnA a /\ (isOwnA a=true->b=a)) /\ ∀ (w:World) (Im:Nat->Prop) (ρ:Nat->Option Value) (o:List AObj) (i:Nat) (b:AV),bs[i]? = some b->∃ a,as[i]? = some a /\ ∀ y,RA w Im ρ o a y->RA w Im ρ o b y
 | [],as,K,h=>⟨as,by simpa [q5g] using h,rfl,fun i b a hb ha=>by rw [hb] at ha;injection ha with ha;subst ha;exact ⟨rfl,fun _=>rfl⟩,fun w Im ρ o i b hb=>⟨b,hb,fun y hy=>hy⟩⟩
 | _::_,[],K,h=>⟨[],by simpa [q5g] using h,rfl,fun i b a hb ha=>by simp at hb,fun w Im ρ o i b hb=>⟨b,hb,fun y hy=>hy⟩⟩
 | ct::cts,a::as,K,h=>by
  simp only [q5g] at h;obtain ⟨b,h,hb,hw⟩:=x79 h;obtain ⟨bs,h,hl,hbs,hr⟩:=z9g h;refine ⟨b::bs,h,by simp [hl],fun i b' a' hb' ha'=>?_,fun w Im ρ o i b' hb'=>?_⟩
  ·cases i with
   | zero=>simp at hb' ha';subst hb';subst ha';exact hb
   | succ i=>exact hbs i b' a' (by simpa using hb') (by simpa using ha')
  cases i with
  | zero=>simp at hb';subst hb';exact ⟨a,rfl,hw w Im ρ o⟩
  | succ i=>simpa using hr w Im ρ o i b' (by simpa using hb')
theorem z9s (roots:List Nat) (o:List AObj) (a:AV):isOwnA (q7t roots o a)=isOwnA a /\ (isOwnA a=true->q7t roots o a=a):=by
 cases a with
 | tup ts=>exact ⟨rfl,fun h=>nomatch h⟩
 | s v=>
  cases v with
  | agg cs=>
   refine ⟨?_,fun h=>nomatch h⟩;simp only [q7t,mkAgg]
   split <;> rfl
  | c c=>
   cases c with
   | loc id ver sh lo len=>
    refine ⟨?_,fun h=>nomatch h⟩;simp only [q7t,q9];cases z74 o id
    ·rfl
    ·simp only [cond_true]
     split <;> rfl
   | bptr id off=>
    refine ⟨?_,fun h=>nomatch h⟩;simp only [q7t,q9,z38]
    split <;> rfl
   | fn f caps=>
    refine ⟨?_,fun h=>nomatch h⟩;simp only [q7t,q9,z38]
    split <;> rfl
   | own e sh xs=>exact ⟨rfl,fun _=>rfl⟩
   | _=>exact ⟨rfl,fun h=>nomatch h⟩
theorem z68 (ro:Bool) (roots:List Nat) (o:List AObj) (a:AV):isOwnA (lendR ro roots o a)=isOwnA a /\ (isOwnA a=true->lendR ro roots o a=a):=by
 cases ro with
 | false=>exact z9s roots o a
 | true=>
  unfold lendR
  simp only
  split
  ·rename_i f caps;refine ⟨?_,fun h=>nomatch h⟩;cases caps.all (fun i=>!roots.contains i)
   ·rfl
   ·simp only [cond_true]
    split <;> rfl
  ·exact z9s roots o a
theorem OwnG.like {as ys gs} (h:OwnG as ys gs):∀ {bs:List AV},bs.length=as.length->(∀ (i:Nat) (b a:AV),bs[i]? = some b->as[i]? = some a->isOwnA b=isOwnA a /\ (isOwnA a=true->b=a))->OwnG bs ys gs /\ ownC bs=ownC as:=by
 induction h with
 | nil=>intro bs hl _;have:bs=[]:=List.eq_nil_of_length_eq_zero hl;subst this;exact ⟨.nil,rfl⟩
 | own _ ih=>
  intro bs hl hb;cases bs with
  | nil=>simp at hl
  | cons b bs=>
   obtain ⟨h1,h2⟩:=ih (bs:=bs) (by simpa using hl) (fun i b' a' hb' ha'=>hb (i+1) b' a' (by simpa using hb') (by simpa using ha'));have h3:=(hb 0 b _ rfl rfl).2 rfl;subst h3;exact ⟨.own h1,by simp only [ownC,h2]⟩
 | no hn _ ih=>
  intro bs hl hb;cases bs with
  | nil=>simp at hl
  | cons b bs=>
   obtain ⟨h1,h2⟩:=ih (bs:=bs) (by simpa using hl) (fun i b' a' hb' ha'=>hb (i+1) b' a' (by simpa using hb') (by simpa using ha'));have h3:=(hb 0 b _ rfl rfl).1;exact ⟨.no (h3.trans hn) h1,by rw [q7d (h3.trans hn),q7d hn,h2]⟩
theorem z7e {a:AV} {y:Value} (h:RA w Im ρ o a y):isOwnA a=false:=by
 cases a with
 | tup=>rfl
 | s v=>cases v with
  | agg=>rfl
  | c c=>cases c <;> first | rfl | exact h.elim
theorem x8x {q:Et × Nat} {a:AV} {y:Value} {cs:List CV} {us:List Value} {K:AV->List AObj->R} (hs:SR w Im ρ o) (hT:Toks w Im cs us (Ow ρ)) (ha:RA w Im ρ o a y) (h:outA q a o K=some r) :
  ∃ e sh xs o1 Im1 ρ1 g,mainV g=y /\ K (.s (.c (.own e sh xs))) o1=some r /\ Step w Im ρ o w Im1 ρ1 o1 /\ Bx ρ o ρ1 o1 /\ Toks w Im1 (cs++[.own e sh xs]) (us++[g]) (Ow ρ1) /\ ∀ b,OBs (cs++[.own e sh xs]) (us++[g]) b->OBs cs us b∨Ow ρ b:=by
 unfold outA at h;split at h
 ·rename_i c;have key:∀ K':CV->List AObj->R,outC (.own q.1 q.2) c o K'=outC (.own q.1 q.2) c o fun d o1=>bif isOwnA (.s (.c d)) then K' d o1 else none:=by
   intro K';unfold outC
   simp only
   split
   ·rfl
   ·split
    ·rfl
    ·rfl
   ·split
    ·split
     ·rfl
     ·rfl
    ·rfl
   ·rfl
  rw [key] at h;obtain ⟨d,o1,Im1,ρ1,g,hg,hk,hst,hb,hT1,hO⟩:=z4d hs hT ha h;obtain ⟨hown,hk⟩:=q0j hk;have hd:∃ e sh xs,d=.own e sh xs:=by
   cases d <;> first | (simp [isOwnA] at hown;done) | exact ⟨_,_,_,rfl⟩
  obtain ⟨e,sh,xs,rfl⟩:=hd;exact ⟨e,sh,xs,o1,Im1,ρ1,g,hg,hk,hst,hb,hT1,hO⟩
 ·cases h
theorem z1q:∀ {qs:List (Option (Et × Nat))} {args:List AV} {ys:List Value} {o:List AObj} {Im:Nat->Prop} {ρ:Nat->Option Value} {cs:List CV} {us:List Value} {K:List AV->List AObj->R},SR w Im ρ o->Toks w Im cs us (Ow ρ)->ys.length=args.length ->
  (∀ (i:Nat) (a:AV) (y:Value),args[i]? = some a->ys[i]? = some y->RA w Im ρ o a y)->q5c qs args o K=some r ->
  ∃ as o1 Im1 ρ1 gs,K as o1=some r /\ Step w Im ρ o w Im1 ρ1 o1 /\ Bx ρ o ρ1 o1 /\ OwnG as ys gs /\ Toks w Im1 (cs++ownC as) (us++gs) (Ow ρ1) /\ (∀ b,OBs (cs++ownC as) (us++gs) b->OBs cs us b∨Ow ρ b) /\ ∀ (i:Nat) (a:AV),as[i]? = some a->isOwnA a=false->args[i]? = some a
 | qs,[],ys,o,Im,ρ,cs,us,K,hs,hT,hl,hr,h=>by
  have:ys=[]:=List.eq_nil_of_length_eq_zero hl
  subst this;have h':K [] o=some r:=by cases qs with
   | nil=>simpa [q5c] using h
   | cons q qs=>cases q <;> simpa [q5c] using h
  exact ⟨[],o,Im,ρ,[],h',Step.refl hs,Bx.refl,.nil,by simpa [ownC] using hT,fun b hb=>.inl (by simpa [ownC] using hb),fun i a ha=>by simp at ha⟩
 | [],a::args,ys,o,Im,ρ,cs,us,K,hs,hT,hl,hr,h=>by
  have h':K (a::args) o=some r:=by simpa [q5c] using h
  obtain ⟨h1,h2⟩:=OwnG.none (as:=a::args) (ys:=ys) hl (fun b hb=>by
   obtain ⟨i,hi,rfl⟩:=List.getElem_of_mem hb;exact z7e (hr i _ (ys[i]'(by omega)) (List.getElem?_eq_getElem hi) (List.getElem?_eq_getElem (by omega))))
  exact ⟨a::args,o,Im,ρ,[],h',Step.refl hs,Bx.refl,h1,by rw [h2];simpa using hT,fun b hb=>.inl (by rw [h2] at hb;simpa using hb),fun i a ha _=>ha⟩
 | q::qs,a::args,ys,o,Im,ρ,cs,us,K,hs,hT,hl,hr,h=>by
  cases ys with
  | nil=>simp at hl
  | cons y ys=>
   have ha:=hr 0 a y rfl rfl;have hr':∀ (i:Nat) (a:AV) (y:Value),args[i]? = some a->ys[i]? = some y->RA w Im ρ o a y:=fun i a' y' h1 h2=>hr (i+1) a' y' (by simpa using h1) (by simpa using h2)
   cases q with
   | none=>
    simp only [q5c] at h;obtain ⟨as,o1,Im1,ρ1,gs,hk,hst,hb,hg,hT1,hO,hu⟩:=z1q hs hT (by simpa using hl) hr' h;have hn:=z7e ha;refine ⟨a::as,o1,Im1,ρ1,gs,hk,hst,hb,.no hn hg,by rw [q7d hn];exact hT1,fun b hb=>hO b (by rw [q7d hn] at hb;exact hb),fun i a' h1 h2=>?_⟩;cases i with
    | zero=>simpa using h1
    | succ i=>simpa using hu i a' (by simpa using h1) h2
   | some q=>
    simp only [q5c] at h;obtain ⟨e,sh,xs,o1,Im1,ρ1,g,hg,hk,hst,hb,hT1,hO⟩:=x8x hs hT ha h;obtain ⟨as,o2,Im2,ρ2,gs,hk,hst2,hb2,hg2,hT2,hO2,hu⟩:=z1q hst.sr hT1 (by simpa using hl) (fun i a' y' h1 h2=>hst.keepA _ _ (hr' i a' y' h1 h2)) hk;refine ⟨.s (.c (.own e sh xs))::as,o2,Im2,ρ2,g::gs,hk,hst.trans hst2,hb.trans hb2,by rw [<- hg];exact .own hg2,by simpa [ownC] using hT2,fun b hb=>?_,fun i a' h1 h2=>?_⟩
    ·rcases hO2 b (by simpa [ownC] using hb) with h1 | h1
     ·exact hO b h1
     ·exact .inr (hst.own b h1)
    ·cases i with
     | zero=>simp at h1;subst h1;simp [isOwnA] at h2
     | succ i=>simpa using hu i a' (by simpa using h1) h2
theorem w0l (ct:CellT) (c:CV):(∀ K:CV->R,z8g ct c K=none)∨∃ d,∀ K:CV->R,z8g ct c K=K d:=by
 unfold z8g;split
 ·rename_i v;rcases q5h (α:=List SV × List (List CV)) ct v with h | ⟨u,h⟩
  ·exact .inl fun K=>h _
  ·exact .inr ⟨_,fun K=>h _⟩
 ·exact .inr ⟨_,fun K=>rfl⟩
theorem w0k (ct:CT) (a:AV):(∀ K:AV->R,castA ct a K=none)∨∃ d,∀ K:AV->R,castA ct a K=K d:=by
 unfold castA;split
 ·rename_i ct c;rcases w0l ct c with h | ⟨u,h⟩
  ·exact .inl fun K=>h _
  ·exact .inr ⟨_,fun K=>h _⟩
 ·rename_i cts v;rcases y7k (α:=List SV × List (List CV)) (.agg cts) v with h | ⟨u,h⟩
  ·exact .inl fun K=>h _
  ·exact .inr ⟨_,fun K=>h _⟩
 ·exact .inr ⟨_,fun K=>rfl⟩
theorem y3t:∀ (cts:List CT) (as:List AV),(∀ K:List AV->R,q5g cts as K=none)∨∃ d,∀ K:List AV->R,q5g cts as K=K d
 | [],as=>.inr ⟨as,fun K=>by simp [q5g]⟩
 | _::_,[]=>.inr ⟨[],fun K=>by simp [q5g]⟩
 | ct::cts,a::as=>by
  simp only [q5g];rcases w0k ct a with h | ⟨b,h⟩
  ·exact .inl fun K=>h _
  ·rcases y3t cts as with h2 | ⟨bs,h2⟩
   ·exact .inl fun K=>(h _).trans (h2 _)
   ·exact .inr ⟨b::bs,fun K=>(h _).trans (h2 _)⟩
theorem z9r:∀ {l:List PV} {zs:List Int},intsOf l=some zs->l=zs.map (PV.int .i64)
 | [],zs,h=>by simp only [intsOf] at h;injection h with h;subst h;rfl
 | x::l,zs,h=>by
  unfold intsOf at h;split at h
  ·rename_i hl;cases hl
  ·rename_i n l' hl;injection hl with h1 h2
   subst h1;subst h2;obtain ⟨zs',h3,rfl⟩:=Option.map_eq_some_iff.1 h;rw [z9r h3];rfl
  ·cases h
theorem z3i (zs:List Int):(q3t zs).length<=zs.length:=by
 simp only [q3t,Lib.compact,Lib.compactUpTo,List.length_map];exact Nat.le_trans (List.length_filter_le _ _) (by simp)
theorem x5j (n:Nat) (zs:List Int):(sortRes n zs).length=zs.length:=by
 unfold sortRes;split
 ·simp [q2j]
 ·have:=z3i zs
  simp;omega
theorem y5q {k:IntKind} {n:Int} {y:Value} (h:RP w Im (.int k n) y):y=.int k n:=by cases h;rfl
theorem x2t {n:Nat} {g:FuncId} (hS:SortOK P n g) (hs:SR w Im ρ o) {args:List AV} {ys:List Value} (hl:ys.length=args.length)
  (hargs:∀ (i:Nat) (a:AV) (y:Value),args[i]? = some a->ys[i]? = some y->RA w Im ρ o a y) (h:opSort n args o K=some r) :
  Calls P g ys.toArray w fun e w'=>∃ v v' o' Im' ρ',e=.returned v /\ K v' o'=some r /\ Step w Im ρ o w' Im' ρ' o' /\ RA w' Im' ρ' o' v' v:=by
 unfold opSort at h;split at h
 ·rename_i id ver sh lo len;obtain ⟨y,rfl⟩:∃ y,ys=[y]:=by
   match ys,hl with
   | [y],_=>exact ⟨y,rfl⟩
  have hy:=hargs 0 _ y rfl rfl;split at h
  ·rename_i e sh' ver' xs ho;obtain ⟨hcnd,h1⟩:=q0j h;clear h;obtain ⟨zs,hz,h⟩:=bind_some h1;clear h1;simp only [Bool.and_eq_true,beq_iff_eq,decide_eq_true_eq,Option.isNone_iff_eq_none] at hcnd;obtain ⟨⟨⟨⟨⟨hkd,rfl⟩,rfl⟩,rfl⟩,rfl⟩,hlim⟩:=hcnd;simp only [RA,RS,RC,ho] at hy;obtain ⟨_,hy⟩:=hy;obtain ⟨hle,v,hρ,hsl⟩:=hy trivial trivial;have hid:=(List.getElem?_eq_some_iff.1 ho).1;have hz1:=z9r hz;have hzl:zs.length=len:=by
    have:=congrArg List.length hz1
    simp at this;omega
   subst hzl;have hfin:∃ v' x',K v' (o.set id x')=some r /\ x'=.arr e 0 ver false ((sortRes n zs).map (PV.int .i64)++xs.drop zs.length) /\ ((n=1 /\ v'=.tup [])∨(n≠1 /\ v'=.s (.c (.loc id ver 0 0 (q3t zs).length)))):=by
    cases hn:n==1
    ·have hn':n≠1:=by simpa using hn
     rw [hn] at h;simp only [cond_false] at h;refine ⟨_,_,h,?_,.inr ⟨hn',rfl⟩⟩;simp [sortRes,hn']
    ·have hn':n=1:=by simpa using hn
     rw [hn] at h;simp only [cond_true] at h;exact ⟨_,_,h,by simp [sortRes,hn'],.inl ⟨hn',rfl⟩⟩
   obtain ⟨v',x',hk,hx',hv'⟩:=hfin;obtain ⟨vals,hown,hshp,hrp,hbk,hkids⟩:=hs.ob id _ _ ho hρ;have same:zs=[]->o.set id x'=o:=by
    intro h0
    have:x'=.arr e 0 ver false xs:=by rw [hx',h0];unfold sortRes;split <;> simp [q2j,q3t,Lib.compact,Lib.compactUpTo]
    rw [this];apply List.ext_getElem?;intro i;by_cases e1:i=id
    ·subst e1;rw [List.getElem?_set_self hid,ho]
    ·rw [List.getElem?_set_ne (Ne.symm e1)]
   by_cases h0:zs=[]
   ·have hy0:∃ p cap,y=.slice p 0 cap:=by
     subst h0;unfold RSl at hsl;split at hsl
     ·obtain ⟨off,h1,_⟩:=hsl;exact ⟨_,_,h1⟩
     ·exact ⟨_,_,hsl.2.2⟩
     ·exact hsl.elim
    obtain ⟨p,cap,rfl⟩:=hy0;refine Calls.mono (hS.empty w p cap) ?_
    rintro e' w' ⟨rfl,rfl⟩
    rw [same h0] at hk;refine ⟨_,v',o,Im,ρ,rfl,hk,Step.refl hs,?_⟩;rcases hv' with ⟨hn,rfl⟩ | ⟨hn,rfl⟩
    ·rw [sortRet,if_pos hn];exact ⟨#[],rfl,rfl,fun i c y h=>by simp at h⟩
    ·rw [sortRet,if_neg hn];subst h0;have e0:(q3t []).length=0:=rfl;simp only [RA,RS,RC,ho,e0];exact ⟨Nat.le_refl _,fun _ _=>⟨by omega,v,hρ,hsl⟩⟩
   ·have hpos:0<zs.length:=Nat.pos_of_ne_zero fun h=>h0 (List.eq_nil_of_length_eq_zero h)
    rcases hown.2 with ⟨hbad,_⟩ | ⟨b,bo,cap,cu,hmv,_,hh,hnc,hcm,hcs,htk⟩
    ·rw [hbad] at hsl;simp only [RSl] at hsl;omega
    rw [hmv] at hsl;simp only [RSl] at hsl;obtain ⟨off,rfl,_,hoff⟩:=hsl;have hoff:off=bo:=by have:=hoff (.inl trivial);omega
    subst hoff;have c0:csz 0=1:=rfl;rw [c0,Nat.mul_one] at htk;have hcs:cu.size=off+cap:=by have:=hcs (by omega);rw [c0] at this;omega
    have hbv:Blk v b:=q1g (by rw [hmv];rfl);have hniv:∀ b,Blk v b->¬ Im b:=fun b hb=>(hbk b hb).1 rfl
    have hvl:vals.length=xs.length:=by have:=hown.1;rw [c0] at this;omega
    have hvt:vals.take zs.length=zs.map (Value.int .i64):=by
     apply List.ext_getElem?;intro i;by_cases hi:i<zs.length
     ·rw [List.getElem?_take_of_lt hi,List.getElem?_map,List.getElem?_eq_getElem hi,List.getElem?_eq_getElem (by omega)];have hx:xs[i]? = some (.int .i64 zs[i]):=by
       have:=congrArg (fun l:List PV=>l[i]?) hz1
       simp only [List.getElem?_take_of_lt hi,List.getElem?_map,List.getElem?_eq_getElem hi] at this;exact this
      have h2:=hrp i _ 0 (.int .i64 zs[i]) vals[i] hx rfl (by rw [c0];simp);simp only [RPk,hkd] at h2;rw [y5q h2];simp
     ·rw [List.getElem?_take_eq_none (by omega),List.getElem?_eq_none (by simp;omega)]
    have hct:(cu.toList.drop off).take zs.length=zs.map (Value.int .i64):=by
     rw [<- hvt,<- htk,List.take_take,Nat.min_eq_left (by omega)]
    refine Calls.mono (hS.row w b off cap zs cu _ hh hct (by omega) hlim) ?_
    rintro e' w' ⟨rfl,hwd,hoth,cu',hh',hcs',hcl'⟩
    have hrl:=x5j n zs;have hidρ:upd ρ id (some v)=ρ:=by
     funext i
     by_cases e1:i=id
     ·rw [e1,q0x,hρ]
     ·rw [q0t e1]
    have hxl:((sortRes n zs).map (PV.int .i64)++xs.drop zs.length).length=xs.length:=by simp [hrl];omega
    have hcomp:q1u ρ (upd ρ id (some v)) o (o.set id x'):=by
     intro q a hq;by_cases e1:q=id
     ·subst e1;rw [ho] at hq;injection hq with hq
      subst hq;exact ⟨_,by rw [List.getElem?_set_self hid],by rw [hidρ,hx'];exact Or.inr ⟨rfl,rfl,Nat.le_of_eq hxl.symm,rfl,q6a _ rfl⟩⟩
     ·exact ⟨a,by rw [List.getElem?_set_ne (Ne.symm e1)];exact hq,by rw [hidρ];cases a <;> simp [q1f]⟩
    have him:∀ k,Im k->Im k /\ w'.heap[k]? = w.heap[k]?:=fun k hk=>⟨hk,hoth k (hs.im k hk) (fun e=>hniv b hbv (e ▸ hk))⟩
    have hst:=Step.turn (w':=w') (x':=x') (v':=v) hs hwd ho hρ (by rw [hx'];simp) (by rw [hx'];exact Or.inr ⟨rfl,rfl,Nat.le_of_eq hxl.symm,rfl,q6a _ rfl⟩)
     (fun k hk hne=>hoth k hk (fun e=>hne (by rw [e];exact hbv))) hniv (fun b hb=>.inl hb) (fun k hk=>Nat.lt_of_lt_of_le ((hs.lt id v hρ).2 k hk) hwd.size) ?_
    ·refine ⟨_,v',o.set id x',Im,_,rfl,hk,hst,?_⟩;rcases hv' with ⟨hn,rfl⟩ | ⟨hn,rfl⟩
     ·rw [sortRet,if_pos hn];exact ⟨#[],rfl,rfl,fun i c y h=>by simp at h⟩
     ·rw [sortRet,if_neg hn];have hcl:=z3i zs;simp only [RA,RS,RC,List.getElem?_set_self hid,hx'];refine ⟨Nat.le_refl _,fun _ _=>⟨by rw [hxl];omega,v,q0x,?_⟩⟩;rw [hmv];exact ⟨off,rfl,Nat.zero_le _,fun _=>by simp⟩
    ·rw [hx'];refine ⟨(sortRes n zs).map (Value.int .i64)++vals.drop zs.length,⟨?_,.inr ⟨b,off,cap,cu',by rw [hmv,hxl],Nat.zero_le _,hh',by rw [hxl];exact hnc,hcm,fun _=>?_,?_⟩⟩,?_,?_,?_,?_⟩
     ·rw [hxl,c0];simp [hrl];omega
     ·rw [hcs',hcs,c0];omega
     ·rw [hxl,c0,Nat.mul_one,hcl',List.drop_left' (by simp;omega),<- List.drop_drop,<- htk,List.take_append,List.drop_take];simp only [List.length_map,hrl];rw [List.take_of_length_le (by simp [hrl];omega)]
     ·intro q hq;rcases List.mem_append.1 hq with h1 | h1
      ·obtain ⟨z,_,rfl⟩:=List.mem_map.1 h1;rfl
      ·exact hshp q (List.mem_of_mem_drop h1)
     ·intro i x j c u hx hj hu;rw [c0,Nat.mul_one] at hu;by_cases hi:i<zs.length
      ·rw [List.getElem?_append_left (by simp [hrl];omega)] at hx;obtain ⟨z,hz2,rfl⟩:=by simpa only [List.getElem?_map,Option.map_eq_some_iff] using hx
       have hj0:j=0 /\ c=.int .i64 z:=by
        cases j with
        | zero=>simp [PV.cells] at hj;exact ⟨rfl,hj.symm⟩
        | succ j=>simp [PV.cells] at hj
       obtain ⟨rfl,rfl⟩:=hj0;rw [Nat.add_zero,List.getElem?_append_left (by simp [hrl];omega),List.getElem?_map,hz2] at hu;injection hu with hu
       subst hu;simp only [RPk,hkd];exact .int _ _
      ·rw [List.getElem?_append_right (by simp [hrl];omega),List.length_map,hrl,List.getElem?_drop,Nat.add_sub_cancel' (by omega)] at hx;have hjl:j<csz 0:=by rw [<- PV.shp_len (hshp x (List.mem_of_getElem? hx))];exact (List.getElem?_eq_some_iff.1 hj).1
       have hj0:j=0:=by omega
       subst hj0;rw [Nat.add_zero,List.getElem?_append_right (by simp [hrl];omega),List.length_map,hrl,List.getElem?_drop,Nat.add_sub_cancel' (by omega)] at hu;exact (hrp i x 0 c u hx hj (by rw [c0,Nat.mul_one];exact hu)).keep him
     ·intro k hk;exact ⟨fun _=>hniv k hk,fun hf=>nomatch hf⟩
     ·simp only [RKids,hkd] at hkids ⊢;exact fun _=>hkids trivial
  ·cases h
 ·cases h
theorem y8j {ro:Bool} {c:CV} {id:Nat} (h:id∈ptrsR ro c):id∈z09 c:=by
 unfold ptrsR at h;split at h
 · simp at h
 · exact h
theorem z9f {C:Ctx} (hE:EnvOK P C.E) (hC:∀ g args bs r,C.call g args bs=some r->Contract P g args bs r) (hs:SR w Im ρ o) {g:FuncId} {A:List AV} {Y:List Value} (hYl:Y.length=A.length)
 (hAY:∀ (i:Nat) (a:AV) (y:Value),A[i]? = some a->Y[i]? = some y->RA w Im ρ o a y) (h:z8f C g A ⟨t,o⟩ K=some r) :
 Enters P g /\ Calls P g Y.toArray w fun e w'=>∃ v v' o' Im' ρ',e=.returned v /\ K v' o'=some r /\ Step w Im ρ o w' Im' ρ' o' /\ RA w' Im' ρ' o' v' v:=by
 unfold z8f at h
 simp only at h
 obtain ⟨ro,hro⟩:∃ ro,ro=C.E.ro (keyOf g A):=⟨_,rfl⟩;rw [<- hro] at h;have hmemc:∀ a∈A,∃ y,RA w Im ρ o a y:=by
  intro a ha;obtain ⟨i,hi,rfl⟩:=List.getElem_of_mem ha;have hi':i<Y.length:=by omega
  exact ⟨Y[i],hAY i _ _ (by simp [hi]) (by simp [hi'])⟩
 obtain ⟨roots,hroots⟩:∃ l,l=adds [] ((A.flatMap q1d).flatMap (ptrsR ro)):=⟨_,rfl⟩;rw [<- hroots] at h;have hptr:∀ id∈roots,∀ c0,o[id]? = some (.box c0)->∃ b,ρ id=some (.pointer (some ⟨b,0,none⟩)):=by
  intro id hid c0 ho;rw [hroots,z37] at hid;simp only [List.not_mem_nil,false_or,List.mem_flatMap] at hid;obtain ⟨c,⟨a,ha,hca⟩,hid⟩:=hid;obtain ⟨y,hy⟩:=hmemc a ha;obtain ⟨z,hz⟩:=x38 hy c hca;exact w1u hz (y8j hid) ho
 have hnd:roots.Nodup:=by rw [hroots];exact q6y List.nodup_nil
 obtain ⟨dss,o0,Im0,ρ0,vss,h,hst0,hbx0,hl1,hl2,hl3,hT0,hO0,hbox⟩:=z1r hs Toks.nil hptr h;simp only [List.nil_append] at hT0 hO0;obtain ⟨A',o1,Im1,ρ1,gs,h,hstA,hbxA,hog,hT,hOA,hAu⟩:=z1q hst0.sr hT0 hYl (fun i a y ha hy=>hst0.keepA _ _ (hAY i a y ha hy)) h;have hst1:=hst0.trans hstA;have hbx:=hbx0.trans hbxA;have hO:∀ b,OBs (dss.flatten++ownC A') (vss.flatten++gs) b->OBs [] [] b∨Ow ρ b:=by
  intro b hb;rcases hOA b hb with h1 | h1
  ·exact hO0 b h1
  ·exact .inr (hst0.own b h1)
 obtain ⟨lent,hlent⟩:∃ l,l=adds [] ((A.flatMap q1d).flatMap (z35 ro o1)):=⟨_,rfl⟩;rw [<- hlent] at h;obtain ⟨as,h,hal,hao,har⟩:=z9g h;obtain ⟨hog',hoc⟩:=hog.like (bs:=as) (by rw [hal];simp) fun i b a hb ha=>by
  have hl':i<(A'.map (lendR ro roots o1)).length:=by rw [<- hal];exact (List.getElem?_eq_some_iff.1 hb).1
  have h1:=hao i b (lendR ro roots o1 a) hb (by rw [List.getElem?_map,ha];rfl);have h2:=z68 ro roots o1 a;exact ⟨h1.1.trans h2.1,fun h=>(h1.2 (h2.1.trans h)).trans (h2.2 h)⟩
 have hAl:A'.length=A.length:=by rw [<- hog.len.1];exact hYl
 obtain ⟨q,hq,h⟩:=bind_some h;have hcon:=hC _ _ _ _ hq;refine ⟨hcon.1,?_⟩;obtain ⟨ImL,hstL,hbL⟩:=z04 (is:=lent) hst1.sr;obtain ⟨bl,hbl⟩:∃ bl,bl=roots.map fun id=>(match ρ id with | some (.pointer (some a))=>a.block | _=>0):=⟨_,rfl⟩
 have hblr:∀ (j id:Nat),roots[j]? = some id->∃ b c0,bl[j]? = some b /\ ρ1 id=some (.pointer (some ⟨b,0,none⟩)) /\ o1[id]? = some (.box c0) /\ ρ id=some (.pointer (some ⟨b,0,none⟩)):=by
  intro j id hj;obtain ⟨b,vs',ds,c0,h1,h2,h3,h4,h5,h6⟩:=hbox j id hj;have h7:=(hbx id c0).1 h6;exact ⟨b,c0,by rw [hbl];simp [hj,h1],h7.2.trans h1,h7.1,h1⟩
 have hbll:bl.length=roots.length:=by rw [hbl];simp
 have hbr:∀ b∈bl,∃ (j id:Nat),bl[j]? = some b /\ roots[j]? = some id:=by
  intro b hb;obtain ⟨j,hj,rfl⟩:=List.getElem_of_mem hb;have hj':j<roots.length:=by omega
  exact ⟨j,roots[j],by simp [hj],by simp [hj']⟩
 have hptr1:∀ (j b:Nat),bl[j]? = some b->∃ id c0,roots[j]? = some id /\ ρ1 id=some (.pointer (some ⟨b,0,none⟩)) /\ o1[id]? = some (.box c0) /\ ρ id=some (.pointer (some ⟨b,0,none⟩)):=by
  intro j b hj;have hjl:j<roots.length:=by rw [<- hbll];exact (List.getElem?_eq_some_iff.1 hj).1
  obtain ⟨b',c0,h1,h2,h3,h4⟩:=hblr j roots[j] (by simp [hjl]);rw [hj] at h1;injection h1 with h1
  subst h1;exact ⟨roots[j],c0,by simp [hjl],h2,h3,h4⟩
 have hTL:=hT.step hstL;have hOw1:∀ b∈bl,Ow ρ1 b:=by
  intro b hb;obtain ⟨j,hj⟩:=List.getElem?_of_mem hb;obtain ⟨id,c0,_,h2,_⟩:=hptr1 j b hj;exact ⟨id,_,h2,rfl⟩
 obtain ⟨ImX,hImX⟩:∃ X:Nat->Prop,X=fun b=>ImL b∨(ro=true /\ ((∃ id c0,id∉roots /\ o1[id]? = some (AObj.box c0) /\ ρ1 id=some (.pointer (some ⟨b,0,none⟩)))∨∃ id v e sh ver fz xs,o1[id]? = some (AObj.arr e sh ver fz xs) /\ ρ1 id=some v /\ Blk v b)):=⟨_,rfl⟩
 have hLX:∀ b,ImL b->ImX b:=fun b hb=>by rw [hImX];exact .inl hb
 have hXL:ro=false->∀ b,ImX b->ImL b:=by
  intro hr b hb;rw [hImX] at hb;rcases hb with hb | ⟨h1,_⟩
  ·exact hb
  ·rw [hr] at h1;cases h1
 have hTX:Toks w ImX (dss.flatten++ownC A') (vss.flatten++gs) (Ow ρ1):=hTL.keep (fun b hb=>⟨hLX b hb,rfl⟩) fun i b hob=>by
  refine ⟨rfl,fun hX=>?_,hTL.out i b hob⟩;rw [hImX] at hX;rcases hX with hX | ⟨_,⟨id,c0,_,_,h3⟩ | ⟨id,v,_,_,_,_,_,_,h3,h4⟩⟩
  ·exact (hTL.lt hob).2 hX
  ·exact hTL.out i b hob ⟨id,_,h3,rfl⟩
  ·exact hTL.out i b hob ⟨id,v,h3,h4⟩
 have pre:Pre w ImX bl dss vss as Y gs:=by
  refine ⟨fun b hb=>?_,?_,by omega,?_,?_,by rw [hoc];exact hTX.mono hOw1,hog',?_⟩
  ·rw [hImX] at hb;rcases hb with hb | ⟨_,⟨id,c0,_,_,h3⟩ | ⟨id,v,_,_,_,_,_,_,h3,h4⟩⟩
   ·exact hstL.sr.im b hb
   ·exact (hst1.sr.lt id _ h3).2 b rfl
   ·exact (hst1.sr.lt id _ h3).2 b h4
  ·intro i j b hi hj;obtain ⟨id,_,h1,h2,_⟩:=hptr1 i b hi;obtain ⟨id',_,h3,h4,_⟩:=hptr1 j b hj
   have:=hst1.sr.inj id id' _ _ b h2 h4 rfl rfl
   subst this;have hi':=(List.getElem?_eq_some_iff.1 h1);have hj':=(List.getElem?_eq_some_iff.1 h3);exact (List.getElem_inj hnd).1 (hi'.2.trans hj'.2.symm)
  ·apply List.ext_getElem?;intro j;rw [List.getElem?_map,List.getElem?_map];rcases Nat.lt_or_ge j roots.length with hj | hj
   ·obtain ⟨b,vs',ds,c0,h1,h2,h3,h4,h5,h6⟩:=hbox j roots[j] (by simp [hj]);rw [h3,h4];simp [h5]
   ·rw [List.getElem?_eq_none (by omega),List.getElem?_eq_none (by omega)];rfl
  ·intro j b vs' hj hv;obtain ⟨id,c0,h1,h2,h3,h4⟩:=hptr1 j b hj;obtain ⟨b2,vs2,ds,c2,h5,h6,h7,_⟩:=hbox j id h1;rw [h4] at h5;injection h5 with h5
   injection h5 with h5
   injection h5 with h5
   injection h5 with h5
   subst h5;rw [hv] at h7;injection h7 with h7
   subst h7;obtain ⟨b3,_,_,hb3,_,_,_,_,hI⟩:=hstL.sr.ob id _ _ ((q8h c0).1 h3) h2;obtain rfl:b=b3:=by simpa using hb3
   refine ⟨h6,fun hX=>?_⟩;rw [hImX] at hX;rcases hX with hX | ⟨_,⟨id2,c2,h8,_,h9⟩ | ⟨id2,v2,_,_,_,_,_,h8,h9,h10⟩⟩
   ·exact hI hX
   ·have:=hst1.sr.inj id2 id _ _ b h9 h2 rfl rfl
    subst this;exact h8 (List.mem_of_getElem? h1)
   ·have:=hst1.sr.inj id2 id _ _ b h9 h2 h10 rfl
    subst this;rw [h3] at h8;cases h8
  ·intro i a0 y ha0 hy hno;obtain ⟨a,ha,hweak⟩:=har w ImX (Ptrs bl) (blanks bl.length) i a0 ha0;refine hweak y ?_;have hno2:=((hao i a0 a ha0 ha).1).symm.trans hno;simp only [List.getElem?_map,Option.map_eq_some_iff] at ha;obtain ⟨a',ha',rfl⟩:=ha
   replace ha':=hAu i a' ha' ((z68 ro roots o1 a').1.symm.trans hno2)
   refine x4h hst1.sr (fun b h=>hLX b (hstL.im b h).1) (hst1.keepA _ _ (hAY i a' y ha' hy)) ?_ (fun hr c hc id hid hnr c0 b h1 h2=>by rw [hImX];exact .inr ⟨hr,.inl ⟨id,c0,hnr,h1,h2⟩⟩) (fun j id hj=>?_) (fun j id hj=>?_)
   ·intro c hc id hid e sh ver fz xs ho hk v b hv hb;rcases hk with hk | hk
    ·rw [hImX];exact .inr ⟨hk,.inr ⟨id,v,e,sh,ver,fz,xs,ho,hv,hb⟩⟩
    refine hLX b (hbL id ?_ e sh ver fz xs ho hk v b hv hb);rw [hlent,z37];right;simp only [List.mem_flatMap];exact ⟨c,⟨a',List.mem_of_getElem? ha',hc⟩,hid⟩
   ·obtain ⟨b,c0,_,_,h3,_⟩:=hblr j id hj;exact ⟨c0,h3⟩
   ·obtain ⟨b,c0,h1,h2,_,_⟩:=hblr j id hj;exact ⟨b,h1,h2⟩
 refine Calls.mono (hcon.2 w ImX bl vss Y gs pre) ?_;rw [hoc]
 rintro e w' ⟨v,Im',vss',zs,rfl,post⟩
 have hown:∀ b,DD bl (dss.flatten++ownC A') (vss.flatten++gs) b->Ow ρ b:=by
  rintro b (hb | hb)
  ·obtain ⟨j,hj⟩:=List.getElem?_of_mem hb;obtain ⟨id,c0,_,_,_,h4⟩:=hptr1 j b hj;exact ⟨id,_,h4,rfl⟩
  ·rcases hO b hb with ⟨i,_,_,_,_,h1,_⟩ | h1
   ·simp at h1
   ·exact h1
 have hnow:∀ b,OBs (dss.flatten++ownC A') (vss.flatten++gs) b->¬ Ow ρ1 b:=fun b ⟨i,hb⟩=>hT.out i b hb
 have fin:∀ {ImA ImR:Nat->Prop} {oA:List AObj} {ks:List (List Kind)},Step w Im ρ o w ImA ρ1 oA->(∀ (id:Nat) (c0:List CV),o1[id]? = some (AObj.box c0)->oA[id]? = some (AObj.box c0))->dss.map List.length=ks.map List.length->(∀ b,ImA b->ImR b /\ w'.heap[b]? = w.heap[b]?) ->
   (∀ b,ImR b->(ImA b∨w.heap.size<=b∨DD bl (dss.flatten++ownC A') (vss.flatten++gs) b) /\ b<w'.heap.size)->(∀ (j b:Nat) (vs:List Value),bl[j]? = some b->vss'[j]? = some vs->BoxAt w' b vs /\ ¬ ImR b) ->
   Toks w' ImR (q.2.flatten++q.1.flatMap cellsOfS) (vss'.flatten++zs) (·∈bl) ->
   (bif q0y q.2 ks&&q02 q.1 (C.E.rk g) then inBs q.2 ks roots 0 oA fun o3=>inSs q.1 (C.E.rk g) 0 o3 fun vs o4=>K (y42 vs) o4 else none)=some r ->
   ∃ v1 v' o' Im' ρ',Ending.returned v=.returned v1 /\ K v' o'=some r /\ Step w Im ρ o w' Im' ρ' o' /\ RA w' Im' ρ' o' v' v1:=by
  intro ImA ImR oA ks hst hbo hks him himn hbox' htok h;obtain ⟨hcnd,h⟩:=q0j h;simp only [q0y,q02,Bool.and_eq_true,beq_iff_eq] at hcnd;have hkl:roots.length=ks.length:=by have:=congrArg List.length hks;simp at this;omega
  obtain ⟨v',o',ρ',hk,hst',hra⟩:=x99 hst hown hnow (fun j id hj=>by
    obtain ⟨b,c0,h1,h2,h3,_⟩:=hblr j id hj;exact ⟨b,c0,h1,h2,hbo id c0 h3⟩) hbr post.wd post.fr him himn post.l2 hbox' htok post.ow post.ret hcnd.1 hkl hcnd.2 h
  exact ⟨v,v',o',ImR,ρ',rfl,hk,hst',hra⟩
 have fin2:(q.1.all q0z&&q.2.all (fun cs=>cs.all q1m))=true ->
   (bif q0y q.2 (q6h (C.E.bk (keyOf g A)) (roots.map fun i=>(q3o o i).length))&&q02 q.1 (C.E.rk g) then inBs q.2 (q6h (C.E.bk (keyOf g A)) (roots.map fun i=>(q3o o i).length)) roots 0 o1 fun o3=>inSs q.1 (C.E.rk g) 0 o3 fun vs o4=>K (y42 vs) o4 else none)=some r ->
   ∃ v1 v' o' Im' ρ',Ending.returned v=.returned v1 /\ K v' o'=some r /\ Step w Im ρ o w' Im' ρ' o' /\ RA w' Im' ρ' o' v' v1:=by
  intro hpp h;simp only [Bool.and_eq_true,List.all_eq_true] at hpp;have hi:∀ b,Im1 b->Im' b:=fun b hb=>(post.im b (hLX b (hstL.im b hb).1)).1
  refine fin hst1 (fun id c0 hh=>hh) hl3 (fun b hb=>⟨hb,(post.im b (hLX b (hstL.im b hb).1)).2⟩) (fun b hb=>⟨.inl hb,(post.imn b (hi b hb)).2⟩) (fun j b vs h1 h2=>⟨(post.box j b vs h1 h2).1,fun hb=>(post.box j b vs h1 h2).2 (hi b hb)⟩) (post.tok.plain hi ?_) h;intro c hc;rcases List.mem_append.1 hc with hc | hc
  ·obtain ⟨cs,h1,h2⟩:=List.mem_flatten.1 hc;exact hpp.2 cs h1 c h2
  ·obtain ⟨s,h1,h2⟩:=List.mem_flatMap.1 hc
   have:=hpp.1 s h1
   cases s with
   | c v=>simp [cellsOfS] at h2;subst h2;exact this
   | agg cs=>exact List.all_eq_true.1 this c h2
 unfold afterLend at h;cases hr2:ro
 ·rw [hr2] at h;simp only [cond_false] at h;have hIm:∀ b,ImL b->Im' b /\ w'.heap[b]? = w.heap[b]?:=fun b hb=>post.im b (hLX b hb)
  have hImn:∀ b,Im' b->(ImL b∨w.heap.size<=b∨DD bl (dss.flatten++ownC A') (vss.flatten++gs) b) /\ b<w'.heap.size:=fun b hb=>by
   obtain ⟨h1,h2⟩:=post.imn b hb;refine ⟨?_,h2⟩;rcases h1 with h1 | h1
   ·exact .inl (hXL hr2 b h1)
   ·exact .inr h1
  split at h
  ·exact fin (hst1.trans hstL) (fun id c0 hh=>(q8h c0).1 hh) hl3 hIm hImn post.box post.tok h
  ·cases hpl:C.E.plain (keyOf g A) <;> rw [hpl] at h <;> simp only [cond_true,cond_false] at h
   ·exact fin (hst1.trans hstL) (fun id c0 hh=>(q8h c0).1 hh) hl3 hIm hImn post.box post.tok h
   ·obtain ⟨hpp,h⟩:=q0j h;exact fin2 hpp h
 ·rw [hr2] at h;simp only [cond_true] at h;obtain ⟨hpp,h⟩:=q0j h;exact fin2 hpp h
theorem x06 {C:Ctx} (hE:EnvOK P C.E) (hC:∀ g args bs r,C.call g args bs=some r->Contract P g args bs r) (hs:SR w Im ρ o) {f:AV} {x:Value} {args:List AV} {ys:List Value} (hf:RA w Im ρ o f x) (hl:ys.length=args.length)
  (hargs:∀ (i:Nat) (a:AV) (y:Value),args[i]? = some a->ys[i]? = some y->RA w Im ρ o a y) (h:callOp C f args ⟨t,o⟩ K=some r) :
  ∃ g vs,x=.func (.func g) #[] vs /\ Enters P g /\ Calls P g (ys++vs.toList).toArray w fun e w'=>∃ v v' o' Im' ρ',e=.returned v /\ K v' o'=some r /\ Step w Im ρ o w' Im' ρ' o' /\ RA w' Im' ρ' o' v' v:=by
 unfold callOp at h;split at h
 ·rename_i g caps hc;rw [q0s hc] at hf;obtain ⟨vs,rfl,hvl,hvr⟩:=hf;refine ⟨g,vs,rfl,?_⟩;cases hsr:(C.E.sorts g != 0)
  rotate_left
  ·rw [hsr] at h;simp only [cond_true] at h;obtain ⟨hcp,h⟩:=q0j h;have hS:=hE.srt g _ rfl (by simpa using hsr);have hv0:vs.toList=[]:=by
    have:caps=[]:=by simpa using hcp
    rw [this] at hvl;simpa using hvl
   rw [hv0,List.append_nil];exact ⟨hS.enters,x2t hS hs hl hargs h⟩
  rw [hsr] at h;simp only [cond_false] at h;refine z9f hE hC hs (by simp [hl,hvl]) ?_ h;intro i a y ha hy;rcases Nat.lt_or_ge i args.length with hi | hi
  ·rw [List.getElem?_append_left hi] at ha;rw [List.getElem?_append_left (by omega)] at hy;exact hargs i a y ha hy
  ·rw [List.getElem?_append_right hi] at ha;rw [List.getElem?_append_right (by omega),hl] at hy;simp only [List.getElem?_map,Option.map_eq_some_iff] at ha;obtain ⟨id,hid,rfl⟩:=ha;obtain ⟨y',hy',hb⟩:=hvr _ id hid;rw [Array.getElem?_toList,hy'] at hy;injection hy with hy
   subst hy;exact hb
 ·rename_i g us hc;rw [q0s hc] at hf;obtain ⟨vs,rfl,hvl,hvr⟩:=hf;refine ⟨g,vs,rfl,?_⟩;refine z9f hE hC hs (by simp [hl,hvl]) ?_ h;intro i a y ha hy;rcases Nat.lt_or_ge i args.length with hi | hi
  ·rw [List.getElem?_append_left hi] at ha;rw [List.getElem?_append_left (by omega)] at hy;exact hargs i a y ha hy
  ·rw [List.getElem?_append_right hi] at ha;rw [List.getElem?_append_right (by omega),hl] at hy;simp only [List.getElem?_map,Option.map_eq_some_iff] at ha;obtain ⟨u,hu,rfl⟩:=ha;obtain ⟨b,base,hb1,hb2,hb3,hb4⟩:=hvr _ u hu;rw [Array.getElem?_toList,hb1] at hy;injection hy with hy
   subst hy;exact ⟨b,base,rfl,hb2,hb3,hb4⟩
 ·cases h
end
end Go.Dp
namespace Go.Dp
structure Base where
 w:World
 Im:Nat->Prop
 D:Nat->Prop
 bl:List Nat
structure Now (B:Base) (w:World) (Im:Nat->Prop) (ρ:Nat->Option Value) (o:List AObj):Prop where
 wd:Wd B.w w
 sr:SR w Im ρ o
 fr:∀ b,b<B.w.heap.size->¬ B.D b->w.heap[b]? = B.w.heap[b]?
 ow:∀ b,Ow ρ b->B.w.heap.size<=b∨B.D b
 im:∀ b,B.Im b->Im b /\ w.heap[b]? = B.w.heap[b]?
 imn:∀ b,Im b->B.Im b∨B.w.heap.size<=b∨B.D b
 hd:∀ (j b:Nat),B.bl[j]? = some b->RB ρ o j 0 (.pointer (some ⟨b,0,none⟩))
structure Sta (B:Base) (s:St) (a:Act) (w:World):Prop where
 ex:∃ Im ρ,Now B w Im ρ s.o /\ TR w Im ρ s.o s.t a
 df:a.defers=[]
section
variable {P:Program} {E:Env} {w w':World} {Im Im':Nat->Prop} {ρ ρ':Nat->Option Value} {o o':List AObj} {r:List SV × List (List CV)} {t:List AV} {a:Act} {B:Base} {C:Ctx}
theorem Now.step (h:Now B w Im ρ o) (st:Step w Im ρ o w' Im' ρ' o'):Now B w' Im' ρ' o':=by
 refine ⟨h.wd.trans st.wd,st.sr,?_,?_,?_,?_,fun j b hj=>st.keep (.bptr j 0) _ (h.hd j b hj)⟩
 ·intro b hb hd;rw [st.fr b (Nat.lt_of_lt_of_le hb h.wd.size) (fun id v hv hbk=>?_),h.fr b hb hd];rcases h.ow b ⟨id,v,hv,hbk⟩ with h1 | h1
  ·omega
  ·exact hd h1
 ·rintro b ⟨id,v,hv,hb⟩
  rcases st.ow id v b hv hb with h1 | h1
  ·exact .inl (Nat.le_trans h.wd.size h1)
  ·exact h.ow b h1
 ·intro b hb;have h1:=h.im b hb;have h2:=st.im b h1.1;exact ⟨h2.1,h2.2.trans h1.2⟩
 ·intro b hb;rcases st.imn b hb with h1 | h1 | h1
  ·exact h.imn b h1
  ·exact .inr (.inl (Nat.le_trans h.wd.size h1))
  ·exact .inr (h.ow b h1)
theorem x3b {l:List AV} {i:Nat} {v:AV} (h:getT l i=v) (hv:v≠.undef):l.set i v=l:=by
 apply List.ext_getElem?;intro j;by_cases e:i=j
 ·subst e;unfold getT at h;rcases Nat.lt_or_ge i l.length with hi | hi
  ·rw [List.getElem?_set_self hi];simp [hi] at h;simp [hi,h]
  ·rw [List.getElem?_eq_none (by omega)] at h;exact absurd h.symm hv
 ·rw [List.getElem?_set_ne e]
theorem z1d {x:Operand} {K:Bool->List AV->R} (h:branch t x K=some r):∃ b,aval t x=.p (.bool b) /\ K b t=some r:=by
 unfold branch at h;split at h
 ·rename_i i;obtain ⟨b,hb,h⟩:=bind_some h;have hv:=q79 hb;refine ⟨b,hv,?_⟩;have e:t.set i (.p (.bool b))=t:=x3b hv (by simp);cases b
  ·simpa [e] using h
  ·simpa [e] using h
 ·rename_i v;obtain ⟨b,hb,h⟩:=bind_some h;refine ⟨b,q79 hb,?_⟩;cases b
  ·exact h
  ·exact h
 ·cases h
theorem z7y (hE:EnvOK P C.E) (hC:∀ g args bs r,C.call g args bs=some r->Contract P g args bs r) (oo:Oper) {K:St->R} (hs:SR w Im ρ o) (av:∀ x∈oo.op.operands.toList,RA w Im ρ o (aval t x) (a.eval x)) (h:stepOp C oo ⟨t,o⟩ K=some r)
  {next:Act->World->Prop} {Q:Exit->Act->World->Prop} (hn:∀ v o' y w' Im' ρ',K ⟨putD t oo.dst v,o'⟩=some r->Step w Im ρ o w' Im' ρ' o'->RA w' Im' ρ' o' v y->next (a.put oo.dst y) w'):oo.wp P a w next Q:=by
 unfold Oper.wp;have evs:∀ {op},oo.op=op->evOp (C.E.on C.self) op ⟨t,o⟩ (fun v ob=>K ⟨putD t oo.dst v,ob⟩)=some r->oo.upon P a next Q ((execOp a.eval oo).run P w):=by
  intro op hop h;obtain ⟨v,o',y,w',Im',ρ',h1,h2,h3,h4⟩:=x8k (hE.on C.self) hs oo hop (by rw [<- hop];exact av) h;rcases h4 with h4 | ⟨h4,rfl⟩
  ·rw [h4];exact hn v o' y w' Im' ρ' h1 h2 h3
  ·rw [h4];exact hn v o' _ w' Im' ρ' h1 h2 h3
 unfold stepOp at h;split at h
 ·rename_i c x y hop;obtain ⟨b,hb,h⟩:=z1d h;have hc:=av c (by rw [hop];simp [Op.operands]);rw [hb] at hc;have hc':a.eval c=.bool b:=RA.bool (a:=.p (.bool b)) rfl hc;have hrun:(execOp a.eval oo).run P w=.ok (.value (if b=true then a.eval x else a.eval y)) w:=by simp [execOp,hop,hc',asBool]
  rw [hrun];refine hn _ o _ w Im ρ h (Step.refl hs) ?_;cases b
  ·exact av y (by rw [hop];simp [Op.operands])
  ·exact av x (by rw [hop];simp [Op.operands])
 ·rename_i c hop;split at h
  ·rename_i f hcal;have hf:=av f (by rw [hop];simp [Op.operands,Call.operands,hcal]);have hargs:∀ (i:Nat) (x:AV) (y:Value),(c.args.toList.map (aval t))[i]? = some x->(c.args.toList.map a.eval)[i]? = some y->RA w Im ρ o x y:=fun i x y hx hy=>by
    simp only [List.getElem?_map,Option.map_eq_some_iff] at hx hy;obtain ⟨z,hz,rfl⟩:=hx;obtain ⟨z',hz',rfl⟩:=hy;rw [hz] at hz';injection hz' with hz'
    subst hz';have hz:=List.mem_of_getElem? hz;exact av z (by rw [hop];simp only [Op.operands,Call.operands,hcal];simp at hz ⊢;exact .inr hz)
   split at h
   rotate_left
   ·rename_i n hx;unfold extOf at hx;split at hx
    rotate_left
    ·cases hx
    rename_i g hfc;obtain ⟨h1,hE'⟩:=hE.ext g n hx;rw [q0s hfc] at hf;obtain ⟨vs,hv,hvl,_⟩:=hf;have hvs:vs=#[]:=by simpa using hvl
    subst hvs;unfold opExt at h;split at h
    ·rename_i a1 a2 a3 hal;split at h
     ·rename_i x y z hx hy hz;obtain ⟨hcnd,h⟩:=q0j h;simp only [Bool.and_eq_true,decide_eq_true_eq] at hcnd;obtain ⟨⟨⟨c1,c2⟩,c3⟩,c4⟩:=hcnd;have hlen:c.args.toList.length=3:=by have:=congrArg List.length hal;simpa using this
      obtain ⟨u1,u2,u3,hu⟩:∃ u1 u2 u3,c.args.toList=[u1,u2,u3]:=by
       match c.args.toList,hlen with
       | [u1,u2,u3],_=>exact ⟨u1,u2,u3,rfl⟩
      rw [hu] at hal hargs;simp only [List.map_cons,List.map_nil,List.cons.injEq,and_true] at hal;obtain ⟨rfl,rfl,rfl⟩:=hal;have e1:a.eval u1=.int .u64 x:=by have h0:=(hargs 0 _ _ rfl rfl).pv hx;generalize a.eval u1=q at h0 ⊢;cases h0;rfl
      have e2:a.eval u2=.int .u64 y:=by have h0:=(hargs 1 _ _ rfl rfl).pv hy;generalize a.eval u2=q at h0 ⊢;cases h0;rfl
      have e3:a.eval u3=.int .u64 z:=by have h0:=(hargs 2 _ _ rfl rfl).pv hz;generalize a.eval u3=q at h0 ⊢;cases h0;rfl
      have hca:c.args.map a.eval=#[.int .u64 x,.int .u64 y,.int .u64 z]:=by
       apply Array.ext';simp [hu,e1,e2,e3]
      have hrun:(execOp a.eval oo).run P w=.ok (.value (.tuple #[.int .u64 ((x+y+z) % 18446744073709551616),.int .u64 ((x+y+z) / 18446744073709551616)])) w:=by
       simp [execOp,hop,resolve,hcal,hv,Deferred.ofValue,invoke,hca,hE' x y z w c1 c2 c3 c4]
      rw [hrun];refine hn _ o _ w Im ρ h (Step.refl hs) ⟨_,rfl,rfl,fun i d y' hd hy'=>?_⟩
      match i with
      | 0=>simp at hd hy';subst hd;subst hy';exact .int _ _
      | 1=>simp at hd hy';subst hd;subst hy';exact .int _ _
      | i+2=>simp at hd
     ·cases h
    ·cases h
   obtain ⟨g,vs,hv,hent,hcalls⟩:=x06 hE hC hs (ys:=c.args.toList.map a.eval) hf (by simp) hargs h;obtain ⟨fn,hfn,hbody,hname⟩:=hent;have hrun:(execOp a.eval oo).run P w=.ok (.enter g (c.args.toList.map a.eval++vs.toList).toArray) w:=by
    have hb:¬ fn.body=none:=by cases h:fn.body <;> simp_all
    have he:(c.args.toList.map a.eval++vs.toList).toArray=c.args.map a.eval++vs:=by apply Array.ext';simp
    rw [he];simp [execOp,hop,resolve,hcal,hv,Deferred.ofValue,invoke,callFunc,hfn,hname,hb]
   rw [hrun];refine Calls.mono hcalls ?_
   rintro e w' ⟨v,v',o',Im',ρ',rfl,h1,h2,h3⟩
   exact hn v' o' v w' Im' ρ' h1 h2 h3
  ·exact evs rfl h
 ·exact evs rfl h
theorem z79:RA w Im ρ o (.tup []) undef:=⟨#[],rfl,rfl,fun i c y h=>by simp at h⟩
theorem x3c {v:AV} (h:skipped v=true):v=.tup []:=by
 unfold skipped at h;split at h
 · rfl
 · cases h
theorem z25 {ops:Array Oper} {oo:Oper} {j:Nat} {want:Bool} {d:Tmp} (hg:oo.guard=some (j,want)) (hd:(ops[j]?).bind (·.dst)=some d) {v:AV} (h:skipped v=true) (hra:RA w Im ρ o v (a.tmps.getD d undef)):Region.wanted oo (yielded ops a.tmps)=false:=by
 rw [x3c h] at hra;obtain ⟨vs,hv,_,_⟩:=hra;have hy:yielded ops a.tmps j=none:=by
  unfold yielded;rw [hd];simp only [Option.bind_some];rw [Array.getD_eq_getD_getElem?] at hv;cases hq:a.tmps[d]? with
  | none=>rfl
  | some u=>rw [hq] at hv;simp at hv;subst hv;rfl
 simp [Region.wanted,hg,hy]
theorem z40 (hE:EnvOK P C.E) (hC:∀ g args bs r,C.call g args bs=some r->Contract P g args bs r) {ops:Array Oper} {i:Nat} {oo:Oper} (hi:ops[i]? = some oo) {K:St->R} (hs:SR w Im ρ o)
  (av:∀ x∈oo.op.operands.toList,RA w Im ρ o (aval t x) (a.eval x)) (ag:∀ j want d,oo.guard=some (j,want)->(ops[j]?).bind (·.dst)=some d->RA w Im ρ o (getT t d) (a.tmps.getD d undef)) (h:guarded C ops oo ⟨t,o⟩ K=some r)
  {next:Act->World->Prop} {Q:Exit->Act->World->Prop} (hn:∀ v o' y w' Im' ρ',K ⟨putD t oo.dst v,o'⟩=some r->Step w Im ρ o w' Im' ρ' o'->RA w' Im' ρ' o' v y->next (a.put oo.dst y) w'):wpOp P ops Q i next a w:=by
 unfold wpOp;simp only [hi];unfold guarded at h;split at h
 ·rename_i hg;have hw:Region.wanted oo (yielded ops a.tmps)=true:=by simp [Region.wanted,hg]
  rw [if_pos hw];exact .inl (z7y hE hC oo hs av h hn)
 ·rename_i j want hg;split at h
  ·rename_i d hd;have hgd:=ag j want d hg hd;cases hsk:skipped (getT t d) with
   | true=>
    rw [hsk] at h;simp only [cond_true] at h;rw [z25 hg hd hsk hgd];simp only [Bool.false_eq_true,if_false];exact hn (.tup []) o undef w Im ρ h (Step.refl hs) z79
   | false=>
   rw [hsk] at h;simp only [cond_false] at h;obtain ⟨b,hb,h⟩:=z1d h;have hb':getT t d=.p (.bool b):=hb;rw [hb'] at hgd;have hv:a.tmps.getD d undef=.bool b:=RA.bool (a:=.p (.bool b)) rfl hgd;have hy:yielded ops a.tmps j=some b:=by
    unfold yielded;rw [hd];simp only [Option.bind_some];rw [Array.getD_eq_getD_getElem?] at hv;cases hq:a.tmps[d]? with
    | none=>rw [hq] at hv;simp [undef] at hv
    | some v=>rw [hq] at hv;simp at hv;subst hv;rfl
   have hw:Region.wanted oo (yielded ops a.tmps)=(b==want):=by simp [Region.wanted,hg,hy]
   rw [hw];cases hbw:b==want <;> rw [hbw] at h <;> simp only [cond_true,cond_false] at h
   ·simp only [Bool.false_eq_true,if_false];exact hn (.tup []) o undef w Im ρ h (Step.refl hs) z79
   ·simp only [if_true];exact .inl (z7y hE hC oo hs av h hn)
  ·cases h
theorem z1i (hE:EnvOK P C.E) (hC:∀ g args bs r,C.call g args bs=some r->Contract P g args bs r) {ops:Array Oper} {Q:Exit->Act->World->Prop} {K:St->R} (hQ:∀ s a w,K s=some r->Sta B s a w->Q .normal a w) :
  ∀ {l:List Nat} {s:St} {a:Act} {w:World},evOps C ops l s K=some r->Sta B s a w->wpOps P ops Q l a w
 | [],s,a,w,h,hs=>hQ s a w h hs
 | i::l,s,a,w,h,hs=>by
  rw [wpOps_cons];simp only [evOps] at h;split at h
  ·rename_i oo hi;obtain ⟨⟨Im,ρ,hnow,ht⟩,hdf⟩:=hs;refine z40 hE hC hi hnow.sr (fun x _=>y3p ht x) (fun j want d _ _=>ht.at_ d) h ?_;intro v o' y w' Im' ρ' hk hst hra;refine z1i hE hC hQ hk ⟨⟨Im',ρ',hnow.step hst,(ht.mono hst.keepA).put hra oo.dst⟩,?_⟩;cases oo.dst <;> exact hdf
  ·cases h
end
end Go.Dp
namespace Go.Dp
section
variable {P:Program} {E:Env} {w w':World} {Im Im':Nat->Prop} {ρ ρ':Nat->Option Value} {o o':List AObj} {r:List SV × List (List CV)} {t:List AV} {a:Act} {B:Base} {C:Ctx} {L:List Nat}
def named (ρ:Nat->Option Value) (L:List Nat):Nat->Option Value:=fun j=>(L[j]?).bind ρ
theorem y8n (j:Nat):(q62 L o)[j]? = (L[j]?).map fun id=>renO L o ((o[id]?).getD .dead):=by simp [q62]
theorem z0p {j id:Nat} {x:AObj} (hj:L[j]? = some id) (hx:o[id]? = some x):(q62 L o)[j]? = some (renO L o x):=by rw [y8n,hj];simp [hx]
theorem RB.ren {id j off:Nat} {y:Value} (hj:L[j]? = some id) {cs:List CV} (ho:o[id]? = some (.box cs)) (h:RB ρ o id off y):RB (named ρ L) (q62 L o) j off y:=by
 simp only [RB,ho] at h;obtain ⟨b,hb,hy⟩:=h;simp only [RB,z0p hj ho,renO];exact ⟨b,by simp [named,hj,hb],hy⟩
theorem RC.ren (hs:SR w Im ρ o) {c:CV} {y:Value} (h:RC w Im ρ o c y):RC w Im (named ρ L) (q62 L o) (renC L o c) y:=by
 cases c with
 | undef=>trivial
 | p v=>exact h
 | own e sh xs=>exact h.elim
 | cfn f us=>exact h
 | nel=>trivial
 | aptr=>trivial
 | eptr v sh off=>exact h
 | loc id ver sh lo len=>
  simp only [renC];split
  ·rename_i e sh' ver' fz xs ho;cases hc:(ver==ver'&&sh==sh')
   ·trivial
   ·simp only [cond_true];simp only [Bool.and_eq_true,beq_iff_eq] at hc;obtain ⟨rfl,rfl⟩:=hc;cases fz with
    | true=>
     simp only [cond_true];have hkd:e.kd=none:=by
      simp only [RC,ho] at h;obtain ⟨hle,v,hv,hsl⟩:=h.2 trivial trivial;obtain ⟨vals,_,_,_,_,hk⟩:=hs.ob id _ _ ho hv;cases hk0:e.kd with
      | none=>rfl
      | some k=>simp [RKids,hk0] at hk
     refine z4o (Im2:=Im) hs (fun _ h=>h) h (by simp [viewLoc,ho,hkd]) fun u b hu hb=>?_
     obtain ⟨vals,_,_,_,hz,_⟩:=hs.ob id _ _ ho hu;exact (hz b hb).2 rfl
    | false=>
     simp only [cond_false];split
     ·rename_i j hj;have hj':=z3u hj;simp only [RC,ho] at h;obtain ⟨hle,v,hv,hsl⟩:=h.2 trivial trivial;simp only [RC,z0p hj' ho,renO];exact ⟨Nat.zero_le _,fun _ _=>⟨hle,v,by simp [named,hj',hv],hsl⟩⟩
     ·trivial
  ·trivial
 | bptr id off=>
  simp only [renC];split
  ·rename_i cs j ho hj;exact RB.ren (z3u hj) ho h
  ·trivial
 | fn f caps=>
  simp only [renC];split
  ·rename_i js hjs;cases hall:caps.all (fun i=>match o[i]? with | some (.box _)=>true | _=>false)
   ·trivial
   ·simp only [cond_true];simp only [List.all_eq_true] at hall;obtain ⟨hl,hr⟩:=z66 hjs;obtain ⟨vs,hx,hl2,hh⟩:=h;refine ⟨vs,hx,by omega,fun i j hij=>?_⟩;obtain ⟨id,h1,h2⟩:=hr i j hij;obtain ⟨z,hz,hb⟩:=hh i id h1;have h3:=hall id (List.mem_of_getElem? h1);split at h3
    ·rename_i cs ho;exact ⟨z,hz,RB.ren h2 ho hb⟩
    ·cases h3
  ·trivial
theorem RS.ren (hs:SR w Im ρ o) {v:SV} {y:Value} (h:RS w Im ρ o v y):RS w Im (named ρ L) (q62 L o) (renS L o v) y:=by
 cases v with
 | c c=>exact RC.ren hs h
 | agg cs=>
  obtain ⟨vs,rfl,hl,hr,h1⟩:=h;refine ⟨vs,rfl,by simpa using hl,fun i c z hc hz=>?_,h1⟩;simp only [List.getElem?_map,Option.map_eq_some_iff] at hc;obtain ⟨c',hc',rfl⟩:=hc;exact RC.ren hs (hr i c' z hc' hz)
theorem RA.ren (hs:SR w Im ρ o) {v:AV} {y:Value} (h:RA w Im ρ o v y):RA w Im (named ρ L) (q62 L o) (renA L o v) y:=by
 cases v with
 | s v=>exact RS.ren hs h
 | tup ts=>
  obtain ⟨vs,rfl,hl,hr⟩:=h;refine ⟨vs,rfl,by simpa using hl,fun i c z hc hz=>?_⟩;simp only [List.getElem?_map,Option.map_eq_some_iff] at hc;obtain ⟨c',hc',rfl⟩:=hc;exact RS.ren hs (hr i c' z hc' hz)
theorem RO.reset {ρ ρ':Nat->Option Value} {o o':List AObj} {v:Value} {e:Et} {sh ver ver':Nat} {fz:Bool} {xs:List PV} (h:RO w Im ρ o v (.arr e sh ver fz xs)):RO w Im ρ' o' v (.arr e.reset sh ver' fz xs):=by
 unfold Et.reset;split
 ·exact h
 ·rename_i k hk;obtain ⟨vals,h1,h2,h3,h4,h5⟩:=h;simp only [RKids,hk] at h5;obtain ⟨h6,ks,h7,h8,h9⟩:=h5;refine ⟨vals,h1,h2,fun i x j c y a b d=>?_,h4,h6,ks,h7,⟨h8.len,h8.jlt,h8.kid,h8.out,h8.inj,h8.one⟩,h9⟩
  have:=h3 i x j c y a b d
  unfold RPk at this;rw [hk] at this;exact this
theorem SR.ren (hs:SR w Im ρ o) (hL:L.Nodup):SR w Im (named ρ L) (q62 L o):=by
 have nm:∀ j v,named ρ L j=some v->∃ id,L[j]? = some id /\ ρ id=some v:=by
  intro j v h;obtain ⟨id,h1,h2⟩:=bind_some h;exact ⟨id,h1,h2⟩
 refine ⟨?_,?_,?_,hs.im,?_⟩
 ·intro j x v hx hv;obtain ⟨id,hj,hv⟩:=nm j v hv;obtain ⟨x0,hx0⟩:∃ x0,o[id]? = some x0:=⟨_,List.getElem?_eq_getElem (hs.lt id v hv).1⟩;rw [z0p hj hx0] at hx;injection hx with hx
  subst hx;have h:=hs.ob id x0 v hx0 hv;cases x0 with
  | dead=>trivial
  | box cs=>
   obtain ⟨b,vs,e,h1,h2,h3,h4,h5,h6⟩:=h;refine ⟨b,vs,e,h1,h2,by simpa using h3,fun i c z hc hz=>?_,h5,h6⟩;simp only [List.getElem?_map,Option.map_eq_some_iff] at hc;obtain ⟨c',hc',rfl⟩:=hc;exact RC.ren hs (h4 i c' z hc' hz)
  | arr e sh ver fz xs=>exact RO.reset h
 ·intro j j' v v' b hv hv' hb hb';obtain ⟨id,hj,hv⟩:=nm j v hv;obtain ⟨id',hj',hv'⟩:=nm j' v' hv'
  have:=hs.inj id id' v v' b hv hv' hb hb'
  subst this;have h1:=List.getElem?_eq_some_iff.1 hj;have h2:=List.getElem?_eq_some_iff.1 hj';exact (List.getElem_inj hL).1 (h1.2.trans h2.2.symm)
 ·intro j v hv;obtain ⟨id,hj,hv⟩:=nm j v hv;exact ⟨by simp [q62];exact (List.getElem?_eq_some_iff.1 hj).1,(hs.lt id v hv).2⟩
 ·intro j hd;rw [y8n] at hd;obtain ⟨id,hj,hd⟩:=Option.map_eq_some_iff.1 hd;simp only [named,hj,Option.bind_some];cases ho:o[id]? with
  | none=>
   cases hv:ρ id with
   | none=>rfl
   | some v=>
    have:=(hs.lt id v hv).1
    rw [List.getElem?_eq_none_iff] at ho;omega
  | some x=>
   rw [ho] at hd;simp only [Option.getD_some] at hd;cases x <;> simp [renO] at hd
   exact hs.dd id ho
theorem z7 (live:List Nat):∀ (t:List AV) (k i:Nat),(q5b live k t).length=t.length /\ (getT (q5b live k t) i=getT t i∨getT (q5b live k t) i=.undef)
 | [],k,i=>⟨rfl,.inl rfl⟩
 | v::t,k,i=>by
  have ih:=z7 live t (k+1);refine ⟨by simp [q5b,(ih 0).1],?_⟩;cases i with
  | zero=>
   simp only [q5b,getT,List.getElem?_cons_zero,Option.getD_some];cases live.contains k
   ·exact .inr rfl
   ·exact .inl rfl
  | succ i=>simpa [q5b,getT] using (ih i).2
theorem x4u (l:List Nat) (i:Nat):l <+: add1 l i:=by
 unfold add1;cases l.contains i
 · exact List.prefix_append _ _
 · exact List.prefix_refl _
theorem q50:∀ (is l:List Nat),l <+: adds l is
 | [],l=>List.prefix_refl l
 | i::is,l=>(x4u l i).trans (q50 is (add1 l i))
theorem w4c (o:List AObj) (m:Nat) (cs:List CV):(reach o m cs).Nodup /\ List.range m <+: reach o m cs:=by
 unfold reach;refine ⟨q6y (q6y (q6y (q6y List.nodup_range))),?_⟩;exact (((q50 _ _).trans (q50 _ _)).trans (q50 _ _)).trans (q50 _ _)
theorem Sta.canon {s:St} (h:Sta B s a w) (live:List Nat):Sta B (canon B.bl.length live s) a w:=by
 obtain ⟨⟨Im,ρ,hn,ht⟩,hd⟩:=h;obtain ⟨L,hL⟩:∃ L,L=reach s.o B.bl.length ((q5b live 0 s.t).flatMap q1d):=⟨_,rfl⟩;have hok:=w4c s.o B.bl.length ((q5b live 0 s.t).flatMap q1d);rw [<- hL] at hok;have hc:Dp.canon B.bl.length live s=⟨(q5b live 0 s.t).map (renA L s.o),q62 L s.o⟩:=by rw [hL];rfl
 rw [hc];refine ⟨⟨Im,named ρ L,⟨hn.wd,hn.sr.ren hok.1,hn.fr,?_,hn.im,hn.imn,?_⟩,⟨?_,?_⟩⟩,hd⟩
 ·rintro b ⟨j,v,hv,hb⟩
  obtain ⟨id,_,h2⟩:=bind_some hv;exact hn.ow b ⟨id,v,h2,hb⟩
 ·intro j b hj;have hjl:=(List.getElem?_eq_some_iff.1 hj).1;have hLj:L[j]? = some j:=by
   obtain ⟨l2,hl2⟩:=hok.2;rw [<- hl2,List.getElem?_append_left (by simpa using hjl),List.getElem?_range hjl]
  have h:=hn.hd j b hj;cases ho:s.o[j]? with
  | none=>simp [RB,ho] at h
  | some x=>
   cases x with
   | box cs=>exact RB.ren hLj ho h
   | dead=>simp [RB,z0p hLj ho,renO]
   | arr e sh ver fz xs=>simp [RB,z0p hLj ho,renO]
 ·simp only [List.length_map];rw [(z7 live s.t 0 0).1];exact ht.size
 ·intro i;have h1:getT ((q5b live 0 s.t).map (renA L s.o)) i=renA L s.o (getT (q5b live 0 s.t) i):=by
   simp only [getT,List.getElem?_map];cases (q5b live 0 s.t)[i]? <;> rfl
  rw [h1];rcases (z7 live s.t 0 i).2 with h2 | h2
  ·rw [h2];exact RA.ren hn.sr (ht.at_ i)
  ·rw [h2];trivial
theorem w5c (hs:SR w Im ρ o) {i:Nat} {c0 ds:List CV} (ho:o[i]? = some (.box c0)) (hl:ds.length=c0.length)
  (hr:∀ (k:Nat) (c:CV) (y:Value),ds[k]? = some c->(∀ c',c0[k]? = some c'->RC w Im ρ o c' y)->RC w Im ρ o c y) :
  SR w Im ρ (o.set i (.box ds)) /\ Inn w Im ρ o ρ (o.set i (.box ds)) (fun _=>False):=by
 have hlt:=(List.getElem?_eq_some_iff.1 ho).1;have hc:q1u ρ ρ o (o.set i (.box ds)):=by
  intro j a ha;by_cases e1:j=i
  ·subst e1;rw [ho] at ha;injection ha with ha
   subst ha;exact ⟨.box ds,by rw [List.getElem?_set_self hlt],rfl⟩
  ·exact ⟨a,by rw [List.getElem?_set_ne (Ne.symm e1)];exact ha,by cases a <;> simp [q1f]⟩
 refine ⟨⟨?_,hs.inj,fun id v hv=>⟨by simpa using (hs.lt id v hv).1,(hs.lt id v hv).2⟩,hs.im,?_⟩,⟨fun c y hy=>RC.compat q2q hc hy,fun b hb=>.inl hb,?_,?_,by simp,fun _ _ h=>h⟩⟩
 ·intro j a v ha hv;by_cases e1:j=i
  ·subst e1;rw [List.getElem?_set_self hlt] at ha;injection ha with ha
   subst ha;obtain ⟨b,vs,e,h1,h2,h3,h4,h5,h6⟩:=hs.ob j _ v ho hv;exact ⟨b,vs,e,h1,h2,by omega,fun k c y hk hy=>RC.compat q2q hc (hr k c y hk fun c' hc'=>h4 k c' y hc' hy),h5,h6⟩
  ·rw [List.getElem?_set_ne (Ne.symm e1)] at ha;exact RO.keep q2q hc (fun _ _=>rfl) (fun _ _ h=>h) (hs.ob j a v ha hv)
 ·intro j hd;by_cases e1:j=i
  ·subst e1;rw [List.getElem?_set_self hlt] at hd;cases hd
  ·rw [List.getElem?_set_ne (Ne.symm e1)] at hd;exact hs.dd j hd
 ·intro j cs' hj;by_cases e1:j=i
  ·subst e1;rw [ho] at hj;injection hj with hj
   exact ⟨ds,by rw [List.getElem?_set_self hlt],rfl⟩
  ·exact ⟨cs',by rw [List.getElem?_set_ne (Ne.symm e1)];exact hj,rfl⟩
 ·intro hm j a ha hd;by_cases e1:j=i
  ·subst e1;exact hm j _ ho (by simp)
  ·rw [List.getElem?_set_ne (Ne.symm e1)] at ha;exact hm j a ha hd
theorem y4t {sh:Nat} {xs:List PV} {y:Value} (h:RP w Im (.row sh 2 xs) y):y=.slice none 0 0:=by
 cases h with
 | nil=>rfl
 | row _ _ _ a cap g hf2=>exact absurd rfl hf2
theorem Now.inn (h:Now B w Im ρ o) (hs:SR w Im ρ' o') (hi:Inn w Im ρ o ρ' o' (fun _=>False)):Now B w Im ρ' o':=by
 refine ⟨h.wd,hs,h.fr,fun b hb=>?_,h.im,h.imn,fun j b hj=>hi.keep (.bptr j 0) _ (h.hd j b hj)⟩;rcases hi.own b hb with h1 | h1
 · exact h.ow b h1
 · exact h1.elim
theorem innA (hi:Inn w Im ρ o ρ' o' (fun _=>False)) {v:AV} {x:Value} (hv:RA w Im ρ o v x):RA w Im ρ' o' v x:=by
 have hS:∀ (v:SV) (x:Value),RS w Im ρ o v x->RS w Im ρ' o' v x:=by
  intro v x hv;cases v with
  | c c=>exact hi.keep c x hv
  | agg cs=>obtain ⟨vs,rfl,h1,h2,h3⟩:=hv;exact ⟨vs,rfl,h1,fun i c y hc hy=>hi.keep c y (h2 i c y hc hy),h3⟩
 cases v with
 | s v=>exact hS v x hv
 | tup ts=>obtain ⟨vs,rfl,h1,h2⟩:=hv;exact ⟨vs,rfl,h1,fun i c y hc hy=>hS c y (h2 i c y hc hy)⟩
theorem emptyNest (hs:SR w Im ρ o) {id sh ver:Nat} {e e':Et} (ho:o[id]? = some (.arr e' sh ver false [])) (hk:e'.kd=none) (ht:e'.t=e.t) (hn:q5t e sh=true) :
  ∃ ρ',SR w Im ρ' (o.set id (.arr e sh (ver+1) false [])) /\ Inn w Im ρ o ρ' (o.set id (.arr e sh (ver+1) false [])) (fun _=>False) /\ ∀ v,ρ id=some v->∃ v',ρ' id=some v' /\ mainV v'=mainV v:=by
 have hlt:=(List.getElem?_eq_some_iff.1 ho).1;obtain ⟨nv,hnv⟩:∃ nv:Option Value,nv=(match e.kd with | none=>ρ id | some _=>(ρ id).map fun v=>.tuple [v].toArray):=⟨_,rfl⟩;have hmv:∀ v,ρ id=some v->mainV v=v:=by
  intro v hv;obtain ⟨_,_,_,_,_,h⟩:=hs.ob id _ v ho hv;simp only [RKids,hk] at h;exact h trivial
 have hnew:∀ v',nv=some v'->∃ v,ρ id=some v /\ (∀ b,Blk v' b->Blk v b) /\ mainV v'=v:=by
  intro v' hv';rw [hnv] at hv';split at hv'
  ·exact ⟨v',hv',fun b h=>h,hmv v' hv'⟩
  ·obtain ⟨v,hv,rfl⟩:=Option.map_eq_some_iff.1 hv';refine ⟨v,hv,fun b hb=>?_,rfl⟩;obtain ⟨q,u,hq,hu⟩:=hb;cases q with
   | zero=>simp at hq;subst hq;exact q7b hu
   | succ q=>simp at hq
 have hsome:∀ v,ρ id=some v->∃ v',nv=some v' /\ mainV v'=mainV v:=by
  intro v hv;rw [hnv];split
  ·exact ⟨v,hv,rfl⟩
  ·exact ⟨.tuple [v].toArray,by rw [hv];rfl,(hmv v hv).symm⟩
 have hold:∀ j v',upd ρ id nv j=some v'->∃ v,ρ j=some v /\ ∀ b,Blk v' b->Blk v b:=by
  intro j v' hv';by_cases e1:j=id
  ·subst e1;rw [q0x] at hv';obtain ⟨v,h1,h2,_⟩:=hnew v' hv';exact ⟨v,h1,h2⟩
  ·rw [q0t e1] at hv';exact ⟨v',hv',fun b h=>h⟩
 have hc:q1u ρ (upd ρ id nv) o (o.set id (.arr e sh (ver+1) false [])):=by
  intro j a ha;by_cases e1:j=id
  ·subst e1;rw [ho] at ha;injection ha with ha
   subst ha;exact ⟨_,List.getElem?_set_self hlt,.inl (Nat.lt_succ_self _)⟩
  ·refine ⟨a,by rw [List.getElem?_set_ne (Ne.symm e1)];exact ha,?_⟩;rw [q0t e1];cases a <;> simp [q1f]
 refine ⟨upd ρ id nv,⟨?_,?_,?_,hs.im,?_⟩,⟨fun c y hy=>RC.compat q2q hc hy,fun b hb=>?_,?_,?_,by simp,?_⟩,fun v hv=>?_⟩
 ·intro j a v ha hv;by_cases e1:j=id
  ·subst e1;rw [List.getElem?_set_self hlt] at ha;injection ha with ha
   subst ha;rw [q0x] at hv;obtain ⟨v0,h1,h2,h3⟩:=hnew v hv;obtain ⟨vals,b1,_,_,b4,_⟩:=hs.ob j _ v0 ho h1;have hvl:vals=[]:=List.eq_nil_of_length_eq_zero (by have:=b1.1;simpa using this);refine ⟨vals,by rw [h3,<- ht,<- hmv v0 h1];exact b1,fun x hx=>by simp at hx,fun i x j c y hx=>by simp at hx,fun b hb=>b4 b (h2 b hb),?_⟩;unfold RKids;split
   ·rename_i hkd;intro _;rw [hnv,hkd] at hv
    simp only at hv
    exact hmv v hv
   ·rename_i k hkd;simp only [q5t,hkd,Bool.and_eq_true,decide_eq_true_eq,Option.isNone_iff_eq_none] at hn;refine ⟨rfl,[],?_,⟨rfl,hn.1,fun i x hx=>by simp at hx,fun i u h=>(by rw [hn.2] at h;cases h),fun i i' u u' b h=>(by simp at h),fun i y h=>(by rw [hvl] at h;simp at h)⟩,fun i u b h=>by simp at h⟩;rw [hnv,hkd] at hv
    simp only at hv
    obtain ⟨v1,_,rfl⟩:=Option.map_eq_some_iff.1 hv;rfl
  ·rw [List.getElem?_set_ne (Ne.symm e1)] at ha;rw [q0t e1] at hv;exact RO.keep q2q hc (fun _ _=>rfl) (fun _ _ h=>h) (hs.ob j a v ha hv)
 ·intro i j v v' b h1 h2 h3 h4;obtain ⟨u,a1,a2⟩:=hold i v h1;obtain ⟨u',a3,a4⟩:=hold j v' h2;exact hs.inj i j u u' b a1 a3 (a2 b h3) (a4 b h4)
 ·intro j v hv;obtain ⟨u,a1,a2⟩:=hold j v hv;exact ⟨by simpa using (hs.lt j u a1).1,fun b hb=>(hs.lt j u a1).2 b (a2 b hb)⟩
 ·intro j hd;by_cases e1:j=id
  ·subst e1;rw [List.getElem?_set_self hlt] at hd;cases hd
  ·rw [List.getElem?_set_ne (Ne.symm e1)] at hd;rw [q0t e1];exact hs.dd j hd
 ·obtain ⟨j,v,h1,h2⟩:=hb;obtain ⟨u,a1,a2⟩:=hold j v h1;exact .inl ⟨j,u,a1,a2 b h2⟩
 ·intro j cs' hj;have e1:j≠id:=by rintro rfl;rw [ho] at hj;cases hj
  exact ⟨cs',by rw [List.getElem?_set_ne (Ne.symm e1)];exact hj,q0t e1⟩
 ·intro hm j a ha hd;by_cases e1:j=id
  ·subst e1;obtain ⟨v,hv⟩:=hm j _ ho (by simp);obtain ⟨v',hv',_⟩:=hsome v hv;exact ⟨v',by rw [q0x];exact hv'⟩
  ·rw [List.getElem?_set_ne (Ne.symm e1)] at ha;rw [q0t e1];exact hm j a ha hd
 ·intro j hj hno;by_cases e1:j=id
  ·subst e1;rw [q0x];cases h:nv with
   | none=>rfl
   | some v'=>
    obtain ⟨v,hv,_⟩:=hnew v' h;rw [hno] at hv;cases hv
  ·rw [q0t e1];exact hno
 ·obtain ⟨v',h1,h2⟩:=hsome v hv;exact ⟨v',by rw [q0x];exact h1,h2⟩
theorem Sta.own1G {s:St} (h:Sta B s a w) (q:Option Nat × Nat × Et × Nat):Sta B (own1G s q) a w:=by
 obtain ⟨⟨Im,ρ,hn,ht⟩,hd⟩:=h;have h0:Sta B s a w:=⟨⟨Im,ρ,hn,ht⟩,hd⟩;obtain ⟨j,i,e,sh⟩:=q;unfold Dp.own1G;have ad:q5t e sh=true->∃ g:Value,SR w Im (upd ρ s.o.length (some g)) (s.o++[.arr e sh 0 false []]) /\ Inn w Im ρ s.o (upd ρ s.o.length (some g)) (s.o++[.arr e sh 0 false []]) (fun _=>False) /\ RC w Im (upd ρ s.o.length (some g)) (s.o++[.arr e sh 0 false []]) (.loc s.o.length 0 sh 0 0) (.slice none 0 0):=by
  intro hnil;obtain ⟨g,hg,hgo,hgb⟩:=x6m w Im e sh hnil;obtain ⟨a1,a2,a3⟩:=x7z (X:=fun _=>False) (hn.sr.x _) hgo (fun b hb=>(hgb b hb).elim);rw [hg] at a3;exact ⟨g,a1.sr fun _ h=>h,a2.mono fun b hb=>hgb b hb,a3⟩
 cases j with
 | none=>
  simp only
  split
  ·rename_i s' f xs hq;have hx:=ht.at_ i;rw [hq] at hx;split
   ·split
    ·rename_i ys hys;have hw:=(z3a hys).2 w Im _ hx;refine ⟨⟨Im,ρ,hn,⟨by simpa using ht.size,fun k=>?_⟩⟩,hd⟩
     show RA w Im ρ s.o (getT (s.t.set i _) k) _
     rw [q55];split
     ·rename_i hk;obtain ⟨rfl,_⟩:=hk;exact hw
     ·exact ht.at_ k
    ·exact h0
   ·cases hf:(f==2&&q5t e sh)
    ·exact h0
    ·simp only [Bool.and_eq_true,beq_iff_eq] at hf;obtain ⟨rfl,hnil⟩:=hf;obtain ⟨g,hs1,a2,a3⟩:=ad hnil;have hy:=y4t (w:=w) (Im:=Im) hx;refine ⟨⟨Im,_,hn.inn hs1 a2,⟨by simpa using ht.size,fun k=>?_⟩⟩,hd⟩
     show RA w Im _ _ (getT (s.t.set i _) k) _
     rw [q55];split
     ·rename_i hk;obtain ⟨rfl,_⟩:=hk
      show RC w Im (upd ρ s.o.length (some g)) (s.o++[.arr e sh 0 false []]) (.loc s.o.length 0 sh 0 0) _
      rw [hy];exact a3
     ·exact innA a2 (ht.at_ k)
  ·rename_i id ver sh0 lo len hq;split
   ·exact h0
   split
   ·rename_i e' sh' ver' xs0 ho;split
    ·exact h0
    rename_i h1;split
    rotate_left
    ·exact h0
    cases hcnd:(e'.t==e.t&&sh'==sh&&q5t e sh&&ver==ver'&&sh0==sh'&&lo==0&&len==0)
    ·exact h0
    ·simp only [Bool.and_eq_true,beq_iff_eq] at hcnd;obtain ⟨⟨⟨⟨⟨⟨h2,rfl⟩,h3⟩,rfl⟩,rfl⟩,rfl⟩,rfl⟩:=hcnd;obtain ⟨ρ',hs1,a2,hv⟩:=emptyNest hn.sr ho h1 h2 h3;have hx:=ht.at_ i;rw [hq] at hx;simp only [RA,RS,RC,ho] at hx;obtain ⟨_,hx⟩:=hx;obtain ⟨hle,v,hρ,hsl⟩:=hx trivial trivial;obtain ⟨v',hρ',hmv⟩:=hv v hρ;refine ⟨⟨Im,_,hn.inn hs1 a2,⟨by simpa using ht.size,fun k=>?_⟩⟩,hd⟩
     show RA w Im _ _ (getT (s.t.set i _) k) _
     rw [q55];split
     ·rename_i hk;obtain ⟨rfl,_⟩:=hk;have hlt:=(List.getElem?_eq_some_iff.1 ho).1
      show RC w Im ρ' (s.o.set id (.arr e sh0 (ver+1) false [])) (.loc id (ver+1) sh0 0 0) _
      simp only [RC,List.getElem?_set_self hlt];exact ⟨Nat.le_refl _,fun _ _=>⟨by simp,v',hρ',by rw [hmv];exact hsl⟩⟩
     ·exact innA a2 (ht.at_ k)
   ·exact h0
  ·exact h0
 | some j=>
  simp only
  split
  ·rename_i cs ho;split
   ·rename_i s' f xs hq;have hil:=(List.getElem?_eq_some_iff.1 hq).1;split
    ·split
     ·rename_i ys hys;obtain ⟨b1,b2⟩:=w5c (ds:=cs.set i (.p (.row sh 0 ys))) hn.sr ho (by simp) (fun k c y hk hc=>by
       by_cases ek:k=i
       ·subst ek;rw [List.getElem?_set_self hil] at hk;injection hk with hk
        subst hk;exact (z3a hys).2 w Im _ (hc _ hq)
       ·rw [List.getElem?_set_ne (Ne.symm ek)] at hk;exact hc c hk)
      exact ⟨⟨Im,_,hn.inn b1 b2,⟨ht.size,fun k=>innA b2 (ht.at_ k)⟩⟩,hd⟩
     ·exact h0
    ·cases hf:(f==2&&q5t e sh)
     ·exact h0
     ·simp only [Bool.and_eq_true,beq_iff_eq] at hf;obtain ⟨rfl,hnil⟩:=hf;obtain ⟨g,hs1,a2,a3⟩:=ad hnil;have hlt:=(List.getElem?_eq_some_iff.1 ho).1;have ho1:(s.o++[AObj.arr e sh 0 false []])[j]? = some (.box cs):=by rw [List.getElem?_append_left hlt];exact ho
      obtain ⟨b1,b2⟩:=w5c (ds:=cs.set i (.loc s.o.length 0 sh 0 0)) hs1 ho1 (by simp) (fun k c y hk hc=>by
       by_cases ek:k=i
       ·subst ek;rw [List.getElem?_set_self hil] at hk;injection hk with hk
        subst hk
        have:=y4t (w:=w) (Im:=Im) (hc _ hq)
        rw [this];exact a3
       ·rw [List.getElem?_set_ne (Ne.symm ek)] at hk;exact hc c hk)
      have a4:=a2.trans b2;exact ⟨⟨Im,_,hn.inn b1 a4,⟨ht.size,fun k=>innA a4 (ht.at_ k)⟩⟩,hd⟩
   ·exact h0
  ·exact h0
theorem Sta.letGo {s:St} (h:Sta B s a w) (q:Option Nat × Nat × Et × Nat):Sta B (letGo s q) a w:=by
 obtain ⟨⟨Im,ρ,hn,ht⟩,hd⟩:=h;unfold Dp.letGo;split
 ·rename_i id ver sh lo len hq;obtain ⟨Im',hst,_⟩:=q8j hn.sr id;exact ⟨⟨Im',ρ,hn.step hst,ht.mono hst.keepA⟩,hd⟩
 ·exact ⟨⟨Im,ρ,hn,ht⟩,hd⟩
theorem Sta.own1 {s:St} (h:Sta B s a w) (q:Option Nat × Nat × Et × Nat):Sta B (own1 s q) a w:=by
 unfold Dp.own1;split
 · exact h.letGo q
 · exact h.own1G q
theorem Sta.head {s:St} (h:Sta B s a w) (live:List Nat) (own:List (Option Nat × Nat × Et × Nat)):Sta B (head B.bl.length live own s) a w:=by
 have hf:∀ (l:List (Option Nat × Nat × Et × Nat)) (s:St),Sta B s a w->Sta B (l.foldl Dp.own1 s) a w:=by
  intro l
  induction l with
  | nil=>intro s h;exact h
  | cons q l ih=>intro s h;exact ih _ (h.own1 q)
 unfold Dp.head;split
 ·exact h.canon live
 ·exact (hf _ _ (h.canon live)).canon live
end
end Go.Dp
namespace Go.Dp
def AObj.norm:AObj->AObj
 | .arr e sh ver _ xs=>.arr e sh ver false xs
 | x=>x
def at' (o:List AObj) (id:Nat):Option AObj:=(o[id]?).map AObj.norm
def AgreeO (ids:List Nat) (o o':List AObj):Prop:=∀ id∈ids,at' o id=at' o' id
def AgreeT (xs:List Tmp) (t t':List AV):Prop:=∀ x∈xs,getT t x=getT t' x
section
variable {E:Env} {o o':List AObj} {t t':List AV} {ids:List Nat} {C:Ctx} {ops:Array Oper}
theorem v2d {id:Nat} {cs:List CV} (h:at' o id=at' o' id) (ho:o[id]? = some (.box cs)):o'[id]? = some (.box cs):=by
 simp only [at',ho] at h;cases h':o'[id]? with
 | none=>rw [h'] at h;simp [AObj.norm] at h
 | some x=>rw [h'] at h;cases x <;> simp [AObj.norm] at h;subst h;rfl
theorem w0e {id sh ver:Nat} {e:Et} {fz:Bool} {xs:List PV} (h:at' o id=at' o' id) (ho:o[id]? = some (.arr e sh ver fz xs)):∃ fz',o'[id]? = some (.arr e sh ver fz' xs):=by
 simp only [at',ho] at h;cases h':o'[id]? with
 | none=>rw [h'] at h;simp [AObj.norm] at h
 | some x=>
  rw [h'] at h;cases x <;> simp [AObj.norm] at h
  obtain ⟨rfl,rfl,rfl,rfl⟩:=h;exact ⟨_,rfl⟩
theorem z3b {id:Nat} (h:at' o id=at' o' id):isBox o id=isBox o' id:=by
 simp only [at'] at h;unfold isBox;cases h1:o[id]? <;> cases h2:o'[id]? <;> simp only [h1,h2,Option.map_some,Option.map_none] at h <;> first | rfl | (cases h;done) | skip
 injection h with h
 rename_i x y;cases x <;> cases y <;> simp [AObj.norm] at h <;> rfl
theorem q9u {id ver sh:Nat} (h:at' o id=at' o' id):cur o id ver sh=cur o' id ver sh:=by
 simp only [at'] at h;unfold cur;cases h1:o[id]? <;> cases h2:o'[id]? <;> simp only [h1,h2,Option.map_some,Option.map_none] at h <;> first | rfl | (cases h;done) | skip
 injection h with h
 rename_i x y;cases x <;> cases y <;> simp [AObj.norm] at h <;> first | rfl | (obtain ⟨rfl,rfl,rfl,rfl⟩:=h;rfl)
def Par (ids:List Nat) (o:List AObj) (f:List AObj->Kt->R):Prop:=(∀ K,f o K=none)∨∃ v,∀ o',AgreeO ids o o'->∀ K,f o' K=K v o'
theorem Par.none:Par ids o fun _ _=>none:=.inl fun _=>rfl
theorem Par.ret (v:AV):Par ids o fun o K=>K v o:=.inr ⟨v,fun _ _ _=>rfl⟩
theorem Par.bind {α:Type} (x:Option α) {f:α->List AObj->Kt->R} (h:∀ a,x=some a->Par ids o (f a)):Par ids o fun o K=>x.bind fun a=>f a o K:=by
 cases x with
 | none=>exact .none
 | some a=>exact h a rfl
theorem Par.bif (c:Bool) {f:List AObj->Kt->R} (h:c=true->Par ids o f):Par ids o fun o K=>bif c then f o K else .none:=by
 cases c
 · exact .none
 · exact h rfl
theorem Par.bifO {c:List AObj->Bool} (hc:∀ o',AgreeO ids o o'->c o=c o') {f:List AObj->Kt->R} (h:Par ids o f):Par ids o fun o K=>cond (c o) (f o K) Option.none:=by
 cases hb:c o
 ·left;intro K
  simp only [hb,cond_false]
 ·rcases h with h | ⟨v,h⟩
  ·left;intro K
   simp only [hb,cond_true];exact h K
  ·right;refine ⟨v,fun o' ho K=>?_⟩
   have h1:=hc o' ho;rw [hb] at h1;simp only [<- h1,cond_true];exact h o' ho K
theorem q08 {c:CV} {id:Nat} (h:id∈idsC c):id∈idsA (.s (.c c)):=by simpa [idsA,q1d,cellsOfS] using h
theorem x8w (T:TypeId) (a:AV) (hi:∀ id∈idsA a,id∈ids):Par ids o fun o K=>opLoad E T a o K:=by
 cases hc:a.cv? with
 | none=>left;intro K;simp [opLoad,hc]
 | some c=>
  have ha:=q0s hc;subst ha;cases hT:E.sh T with
  | none=>left;intro K;cases c <;> simp [opLoad,AV.cv?,hT]
  | some sh=>
   cases c with
   | bptr id off=>
    have hid:=hi id (q08 (by simp [idsC]));cases ho:o[id]? with
    | none=>left;intro K;simp [opLoad,AV.cv?,hT,ho]
    | some x=>
     cases x with
     | box cs=>
      cases hv:z21 sh (cs.drop off) with
      | none=>left;intro K;simp [opLoad,AV.cv?,hT,ho,hv]
      | some v=>right;exact ⟨.s v,fun o' hag K=>by simp [opLoad,AV.cv?,hT,v2d (hag id hid) ho,hv]⟩
     | _=>left;intro K;simp [opLoad,AV.cv?,hT,ho]
   | aptr id ver vsh i off=>
    have hid:=hi id (q08 (by simp [idsC]));cases ho:o[id]? with
    | none=>left;intro K;simp [opLoad,AV.cv?,hT,ho]
    | some x=>
     cases x with
     | arr e sh' ver' fz xs=>
      cases hkd:e.kd with
      | some kd=>
       cases hcnd:(ver==ver'&&vsh==sh'&&sh==0&&off==kd.j&&kd.hole.isNone) with
       | false=>left;intro K;simp only [opLoad,AV.cv?,hT,ho,hkd,hcnd,cond_false]
       | true=>
        right;refine ⟨.s (.c (.nel id ver kd.nv i)),fun o' hag K=>?_⟩
        obtain ⟨fz',ho'⟩:=w0e (hag id hid) ho;simp only [opLoad,AV.cv?,hT,ho',hkd,hcnd,cond_true]
      | none=>
       cases hcnd:(ver==ver'&&vsh==sh') with
       | false=>left;intro K;simp only [opLoad,AV.cv?,hT,ho,hkd,hcnd,cond_false]
       | true=>
        cases hxi:xs[i]? with
        | none=>
         left;intro K
         simp only [opLoad,AV.cv?,hT,ho,hkd,hcnd,cond_true,hxi,Option.bind_none]
        | some x=>
         rcases y76 (E.ct T) x vsh off sh with h | ⟨u,h⟩
         ·left;intro K
          simp only [opLoad,AV.cv?,hT,ho,hkd,hcnd,cond_true,hxi,Option.bind_some];exact h _
         ·right;refine ⟨.p u,fun o' hag K=>?_⟩
          obtain ⟨fz',ho'⟩:=w0e (hag id hid) ho;simp only [opLoad,AV.cv?,hT,ho',hkd,hcnd,cond_true,hxi,Option.bind_some];exact h _
     | _=>left;intro K;simp [opLoad,AV.cv?,hT,ho]
   | eptr v vsh off=>
    rcases y76 (E.ct T) v vsh off sh with h | ⟨u,h⟩
    ·left;intro K;simp only [opLoad,AV.cv?,hT];exact h _
    ·right;exact ⟨.p u,fun o' _ K=>by simp only [opLoad,AV.cv?,hT];exact h _⟩
   | _=>left;intro K;simp [opLoad,AV.cv?,hT]
theorem y40 (T:TypeId) (a:AV) (f:Nat) (hi:∀ id∈idsA a,id∈ids):Par ids o fun o K=>opFieldAddr E T a f o K:=by
 cases hc:a.cv? with
 | none=>left;intro K;simp [opFieldAddr,hc]
 | some c=>
  have ha:=q0s hc;subst ha;cases hT:E.fl T f with
  | none=>left;intro K;cases c <;> simp [opFieldAddr,AV.cv?,hT]
  | some p=>
   obtain ⟨fo,fs⟩:=p;cases c with
   | bptr id off=>
    have:=Par.bifO (ids:=ids) (o:=o) (c:=fun o=>isBox o id) (fun o' h=>z3b (h id (hi id (q08 (by simp [idsC]))))) (Par.ret (.s (.c (.bptr id (off+fo)))))
    simpa [opFieldAddr,AV.cv?,hT] using this
   | aptr id ver sh i off=>
    have:=Par.bifO (ids:=ids) (o:=o) (c:=fun o=>cur o id ver sh) (fun o' h=>q9u (h id (hi id (q08 (by simp [idsC]))))) (Par.ret (.s (.c (.aptr id ver sh i (off+fo)))))
    simpa [opFieldAddr,AV.cv?,hT] using this
   | eptr v sh off=>right;exact ⟨.s (.c (.eptr v sh (off+fo))),fun o' _ K=>by simp [opFieldAddr,AV.cv?,hT]⟩
   | _=>left;intro K;simp [opFieldAddr,AV.cv?,hT]
theorem y41 (T:TypeId) (a i:AV) (hi:∀ id∈idsA a,id∈ids):Par ids o fun o K=>opIndexAddr E T a i o K:=by
 cases hc:a.cv? with
 | none=>left;intro K;simp [opIndexAddr,hc]
 | some c=>
  have ha:=q0s hc;subst ha;cases hT:E.sl T with
  | none=>
   cases c with
   | bptr id off=>
    have:=Par.bind (ids:=ids) (o:=o) i.int? fun n _=>Par.bifO (ids:=ids) (o:=o) (c:=fun o=>isBox o id&&decide (0<=n)&&decide (n<E.ar T))
     (fun o' h=>by rw [z3b (h id (hi id (q08 (by simp [idsC]))))]) (Par.ret (.s (.c (.bptr id (off+n.toNat)))))
    simpa [opIndexAddr,AV.cv?,hT] using this
   | aptr id ver sh j off=>
    have:=Par.bind (ids:=ids) (o:=o) i.int? fun n _=>Par.bifO (ids:=ids) (o:=o) (c:=fun o=>cur o id ver sh&&decide (0<=n)&&decide (n<E.ar T))
     (fun o' h=>by rw [q9u (h id (hi id (q08 (by simp [idsC]))))]) (Par.ret (.s (.c (.aptr id ver sh j (off+n.toNat)))))
    simpa [opIndexAddr,AV.cv?,hT] using this
   | eptr v sh off=>
    have:=Par.bind (ids:=ids) (o:=o) i.int? fun n _=>Par.bif (decide (0<=n)&&decide (n<E.ar T)) fun _=>Par.ret (.s (.c (.eptr v sh (off+n.toNat))))
    simpa [opIndexAddr,AV.cv?,hT] using this
   | _=>left;intro K;simp [opIndexAddr,AV.cv?,hT]
  | some p=>
   obtain ⟨e,sh',by_⟩:=p;cases c with
   | p v=>
    have:=Par.bind (ids:=ids) (o:=o) v.row? fun q _=>Par.bif (q.1==sh') fun _=>Par.bind (ids:=ids) (o:=o) i.int? fun n _=>Par.bind (ids:=ids) (o:=o) (q0e q.2.2 n) fun x _=>Par.ret (.s (.c (.eptr x sh' 0)))
    simpa [opIndexAddr,AV.cv?,hT] using this
   | loc id ver sh lo len=>
    have:=Par.bind (ids:=ids) (o:=o) i.int? fun n _=>Par.bifO (ids:=ids) (o:=o) (c:=fun o=>sh==sh'&&cur o id ver sh&&decide (0<=n)&&decide (n<len))
     (fun o' h=>by rw [q9u (h id (hi id (q08 (by simp [idsC]))))]) (Par.ret (.s (.c (.aptr id ver sh (lo+n.toNat) 0))))
    simpa [opIndexAddr,AV.cv?,hT] using this
   | _=>left;intro K;simp [opIndexAddr,AV.cv?,hT]
theorem x4q (T:TypeId) (a i:AV):Par ids o fun o K=>opIndex E T a i o K:=by
 cases hv:a.pv? with
 | none=>left;intro K;simp [opIndex,hv]
 | some v=>
  cases hst:E.st T with
  | false=>left;intro K;simp [opIndex,hv,hst]
  | true=>
   have:=Par.bind (ids:=ids) (o:=o) v.str? fun s _=>Par.bind (ids:=ids) (o:=o) i.int? fun n _=>Par.bind (ids:=ids) (o:=o) (w0i s n) fun b _=>Par.ret (.p (.int .u8 b))
   simpa [opIndex,hv,hst] using this
theorem z43 (S T:TypeId) (a:AV):Par ids o fun o K=>opConvert E S T a o K:=by
 cases h1:E.ik S <;> cases h2:E.ik T <;> first | (left;intro K;simp [opConvert,h1,h2];done) | skip
 rename_i k1 k2
 have:=Par.bind (ids:=ids) (o:=o) a.int? fun n _=>Par.ret (.p (.int k2 (k2.wrap n)))
 simpa [opConvert,h1,h2] using this
theorem z44 (a:AV) (i:Nat):Par ids o fun o K=>opExtract a i o K:=by
 cases a with
 | s v=>left;intro K;rfl
 | tup vs=>exact Par.bind vs[i]? fun v _=>Par.ret (.s v)
theorem x4p (T:TypeId) (a:AV) (f:Nat):Par ids o fun o K=>opField E T a f o K:=by
 unfold opField;split
 ·rename_i off cs _;exact Par.bind cs[off]? fun c _=>Par.ret (.s (.c c))
 ·rename_i off ps _;exact Par.bind ps[off]? fun c _=>Par.ret (.p c)
 ·exact Par.none
theorem w1r (T:TypeId) (a:AV) (hi:∀ id∈idsA a,id∈ids):Par ids o fun o K=>opLen E T a o K:=by
 cases hc:a.cv? with
 | none=>left;intro K;simp [opLen,hc]
 | some c=>
  have ha:=q0s hc;subst ha;cases c with
  | p v=>
   cases hst:E.st T with
   | true=>
    have:=Par.bind (ids:=ids) (o:=o) v.str? fun s _=>Par.ret (.p (.int .i64 s.size))
    simpa [opLen,AV.cv?,hst] using this
   | false=>
    cases hsl:E.sl T with
    | none=>left;intro K;simp [opLen,AV.cv?,hst,hsl]
    | some p=>
     have:=Par.bind (ids:=ids) (o:=o) v.row? fun q _=>Par.ret (.p (.int .i64 q.2.2.length))
     simpa [opLen,AV.cv?,hst,hsl] using this
  | loc id ver sh lo len=>
   have:=Par.bifO (ids:=ids) (o:=o) (c:=fun o=>(E.sl T).isSome&&cur o id ver sh) (fun o' h=>by rw [q9u (h id (hi id (q08 (by simp [idsC]))))]) (Par.ret (.p (.int .i64 len)))
   simpa [opLen,AV.cv?] using this
  | _=>left;intro K;simp [opLen,AV.cv?]
theorem q4o (a:Option AV) (d:Int) {f:Int->List AObj->Kt->R} (h:∀ n,Par ids o (f n)):Par ids o fun o K=>q44 a d fun n=>f n o K:=by
 cases a with
 | none=>exact h d
 | some a=>exact Par.bind a.int? fun n _=>h n
theorem x4s (T:TypeId) (a:AV) (lo hi mx:Option AV) (hids:∀ id∈idsA a,id∈ids):Par ids o fun o K=>opSlice E T a lo hi mx o K:=by
 have row:∀ (sh f:Nat) (xs:List PV) (l h:Int),Par ids o fun o K=>z0s sh f xs l h o K:=fun sh f xs l h=>Par.bif _ fun _=>Par.ret _
 cases hc:a.cv? with
 | none=>left;intro K;simp [opSlice,hc]
 | some c=>
  have ha:=q0s hc;subst ha;cases mx with
  | none=>
   cases c with
   | p v=>
    cases hst:E.st T with
    | true=>
     have:=Par.bind (ids:=ids) (o:=o) v.str? fun s _=>q4o (ids:=ids) (o:=o) lo 0 fun l=>q4o (ids:=ids) (o:=o) hi s.size fun h=>(Par.bif _ fun _=>Par.ret _:Par ids o fun o K=>z4i s l h o K)
     simpa [opSlice,AV.cv?,hst,z4i] using this
    | false=>
     cases hsl:E.sl T with
     | none=>left;intro K;simp [opSlice,AV.cv?,hst,hsl]
     | some p=>
      obtain ⟨e,sh',by_⟩:=p
      have:=Par.bind (ids:=ids) (o:=o) v.row? fun q _=>Par.bif (ids:=ids) (o:=o) (q.1==sh'||q.2.1==2) fun _=>q4o (ids:=ids) (o:=o) lo 0 fun l=>q4o (ids:=ids) (o:=o) hi q.2.2.length fun h=>row q.1 (bif q.2.1==2 then 2 else 0) q.2.2 l h
      simpa [opSlice,AV.cv?,hst,hsl] using this
   | loc id ver sh l0 len=>
    cases hsl:E.sl T with
    | none=>left;intro K;simp [opSlice,AV.cv?,hsl]
    | some p=>
     obtain ⟨e,sh',by_⟩:=p
     have:=Par.bifO (ids:=ids) (o:=o) (c:=fun o=>sh==sh'&&cur o id ver sh) (fun o' h=>by rw [q9u (h id (hids id (q08 (by simp [idsC]))))])
      (q4o (ids:=ids) (o:=o) lo 0 fun l=>q4o (ids:=ids) (o:=o) hi len fun h=>(Par.bif _ fun _=>Par.ret _:Par ids o fun o K=>z4h id ver sh l0 len l h o K))
     simpa [opSlice,AV.cv?,hsl,z4h] using this
   | _=>left;intro K;simp [opSlice,AV.cv?]
  | some m=>
   cases c with
   | p v=>
    cases hi with
    | none=>left;intro K;simp [opSlice,AV.cv?]
    | some hv=>
     cases hsl:E.sl T with
     | none=>left;intro K;simp [opSlice,AV.cv?,hsl]
     | some p=>
      obtain ⟨e,sh',by_⟩:=p
      have:=Par.bind (ids:=ids) (o:=o) v.row? fun q _=>Par.bif (ids:=ids) (o:=o) (q.1==sh'||q.2.1==2) fun _=>q4o (ids:=ids) (o:=o) lo 0 fun l=>Par.bind (ids:=ids) (o:=o) hv.int? fun h _=>Par.bind (ids:=ids) (o:=o) m.int? fun mm _=>Par.bif (mm==h) fun _=>row q.1 (bif q.2.1==2 then 2 else 1) q.2.2 l h
      simpa [opSlice,AV.cv?,hsl] using this
   | _=>left;intro K;simp [opSlice,AV.cv?]
def ParL (ids:List Nat) (o:List AObj) (f:List AObj->(List CV->R)->R):Prop:=(∀ K,f o K=none)∨∃ v,∀ o',AgreeO ids o o'->∀ K,f o' K=K v
theorem q85 (sh:Nat) (v:SV) (hids:∀ id∈(cellsOfS v).flatMap idsC,id∈ids):ParL ids o fun o K=>cellsK o sh v K:=by
 cases v with
 | agg cs=>
  cases hc:(sh==cs.length&&sh != 0) with
  | false=>left;intro K;simp only [cellsK,hc,cond_false]
  | true=>right;exact ⟨cs,fun o' _ K=>by simp only [cellsK,hc,cond_true]⟩
 | c c=>
  have gen:(∀ v,c≠.p v)->(∀ o',AgreeO ids o o'->okC o c=okC o' c)->ParL ids o fun o K=>cellsK o sh (.c c) K:=by
   intro hp hk;cases hb:(sh==0&&okC o c) with
   | false=>
    left;intro K
    cases c <;> first | (exact absurd rfl (hp _)) | simp only [cellsK,hb,cond_false]
   | true=>
    right;refine ⟨[c],fun o' ho K=>?_⟩
    rw [hk o' ho] at hb;cases c <;> first | (exact absurd rfl (hp _)) | simp only [cellsK,hb,cond_true]
  cases c with
  | p v=>
   cases hc:v.shp sh with
   | false=>left;intro K;simp only [cellsK,hc,cond_false]
   | true=>right;exact ⟨_,fun o' _ K=>by simp only [cellsK,hc,cond_true];rfl⟩
  | loc id ver sh2 lo len=>exact gen (by simp) fun o' h=>q9u (h id (hids id (by simp [cellsOfS,idsC])))
  | bptr id off=>exact gen (by simp) fun o' h=>z3b (h id (hids id (by simp [cellsOfS,idsC])))
  | aptr id ver sh2 i off=>exact gen (by simp) fun o' h=>q9u (h id (hids id (by simp [cellsOfS,idsC])))
  | undef=>exact gen (by simp) fun o' h=>rfl
  | eptr v a b=>exact gen (by simp) fun o' h=>rfl
  | fn f caps=>exact gen (by simp) fun o' h=>rfl
  | cfn f us=>exact gen (by simp) fun o' h=>rfl
  | own e sh2 xs=>exact gen (by simp) fun o' h=>rfl
  | nel id ver nv i=>exact gen (by simp) fun o' h=>rfl
theorem z9d (T:TypeId) (t:List AV):∀ (ps:List (Nat × Operand)) (cs:List CV),(∀ q∈ps,∀ id∈idsA (aval t q.2),id∈ids)->ParL ids o fun o K=>buildIn E T t o ps cs K
 | [],cs,_=>.inr ⟨cs,fun _ _ _=>rfl⟩
 | (i,x)::ps,cs,hids=>by
  cases hf:E.pl T i with
  | none=>left;intro K;simp [buildIn,hf]
  | some p=>
   obtain ⟨off,sh⟩:=p;cases hv:(aval t x).sv? with
   | none=>left;intro K;simp [buildIn,hf,hv]
   | some v=>
    have h1:=hids (i,x) (by simp);rw [q2k hv] at h1;rcases q85 (o:=o) sh v h1 with h2 | ⟨ns,h2⟩
    ·left;intro K;simp only [buildIn,hf,hv];exact h2 _
    ·replace h2:∀ o',AgreeO ids o o'->∀ K:List CV->R,cellsK o' sh v K=K ns:=h2
     cases hs:z7u cs off ns with
     | none=>
      left;intro K
      simp only [buildIn,hf,hv];rw [h2 o (fun _ _=>rfl)];simp [hs]
     | some cs'=>
      rcases z9d T t ps cs' (fun q hq=>hids q (by simp [hq])) with h3 | ⟨v3,h3⟩
      all_goals simp only at h3
      ·left;intro K
       simp only [buildIn,hf,hv];rw [h2 o (fun _ _=>rfl)];simp only [hs,Option.bind_some];exact h3 K
      ·right;refine ⟨v3,fun o' ho K=>?_⟩
       simp only [buildIn,hf,hv];rw [h2 o' ho];simp only [hs,Option.bind_some];exact h3 o' ho K
theorem x4n (T:TypeId) (t:List AV) (ps:List (Nat × Operand)) (hids:∀ q∈ps,∀ id∈idsA (aval t q.2),id∈ids):Par ids o fun o K=>opBuild E T t ps o K:=by
 cases hz:E.zr T with
 | none=>left;intro K;simp [opBuild,hz]
 | some z=>
  cases hsh:E.sh T with
  | none=>left;intro K;simp [opBuild,hz,hsh]
  | some n=>
   cases n with
   | zero=>left;intro K;simp [opBuild,hz,hsh]
   | succ n=>
    rcases z9d (E:=E) (o:=o) (ids:=ids) T t ps (z.map .p) hids with h | ⟨v,h⟩
    all_goals simp only at h
    ·left;intro K;simp only [opBuild,hz,hsh];exact h _
    ·right;exact ⟨.s (mkAgg v),fun o' ho K=>by simp only [opBuild,hz,hsh];rw [h o' ho]⟩
theorem x1q {op:Op} (hq:q1k op=true) (hids:∀ x∈op.operands.toList,∀ id∈idsA (aval t x),id∈ids):Par ids o fun o K=>evOp E op ⟨t,o⟩ K:=by
 cases op with
 | move x=>exact Par.ret _
 | assign x=>exact Par.ret _
 | build T ps=>exact x4n T t ps.toList fun q hq=>hids q.2 (by simp only [Op.operands];exact List.mem_map.2 ⟨q,hq,rfl⟩)
 | load T x=>exact x8w T _ (hids x (by simp [Op.operands]))
 | nilCheck x=>
  simp only [evOp];have h1:=hids x (by simp [Op.operands]);cases hc:(aval t x).cv? with
  | none=>left;intro K;rfl
  | some c=>
   rw [q0s hc] at h1;cases c with
   | bptr id off=>exact Par.bifO (c:=fun o=>isBox o id) (fun o' h=>z3b (h id (h1 id (q08 (by simp [idsC]))))) (Par.ret _)
   | _=>left;intro K;rfl
 | binOp op T x y flag=>
  simp only [evOp];cases h1:(aval t x).pv? with
  | none=>left;intro K;rfl
  | some a=>
   cases h2:(aval t y).pv? with
   | none=>left;intro K;rfl
   | some b=>
    simp only
    cases nilEq op a b with
    | some c=>exact Par.bif _ fun _=>Par.ret (.p (.bool c))
    | none=>
     simp only
     cases z20 op a b
     ·simp only [y5r,cond_false];exact Par.bind (q2x (E.eqs T) (E.bl T) op a b) fun v _=>Par.ret (.p v)
     ·simp only [cond_true];exact Par.bif _ fun _=>Par.ret (.p (.bool (y93 op)))
 | unOp op T x=>
  simp only [evOp];exact Par.bind (aval t x).pv? fun a _=>Par.bind (pun op a) fun v _=>Par.ret (.p v)
 | convert S T x=>exact z43 S T _
 | makeFunc fn first caps=>
  simp only [evOp];unfold opMakeFunc;split
  ·split
   ·exact Par.ret _
   ·exact Par.bind (capIds t caps.toList) fun v _=>Par.ret _
  ·exact Par.none
 | slice T x lo hi mx=>exact x4s T _ _ _ _ (hids x (by simp [Op.operands]))
 | fieldAddr T x f=>exact y40 T _ f (hids x (by simp [Op.operands]))
 | indexAddr T x i=>exact y41 T _ _ (hids x (by simp [Op.operands]))
 | index T x i=>exact x4q T _ _
 | extract x i=>exact z44 _ i
 | field T x f=>exact x4p T _ f
 | call c=>
  simp only [evOp];split
  ·rename_i x T hc ha hT;exact w1r T _ (hids x (by simp [Op.operands,Call.operands,hc,q7u ha]))
  ·rename_i x y T T' hc ha hT;simp [q1k,hc] at hq
  ·rename_i x T hc ha hT;unfold opCap;split
   ·exact Par.bind _ fun q _=>Par.bif _ fun _=>Par.ret _
   ·exact Par.none
  ·rename_i x y hc ha;unfold opMin;split
   ·exact Par.ret _
   ·exact Par.none
  ·rename_i x y hc ha;unfold opMin;split
   ·exact Par.ret _
   ·exact Par.none
  ·rename_i x y T T' hc ha hT;simp [q1k,hc] at hq
  ·rename_i x T hc ha hT;simp [q1k,hc] at hq
  ·exact Par.none
 | _=>simp [q1k] at hq
theorem y7u {op:Op} (hq:q1k op=true):Par (idsQ t op) o fun o K=>evOp E op ⟨t,o⟩ K:=by
 cases op with
 | move x=>exact Par.ret _
 | assign x=>exact Par.ret _
 | binOp op T x y flag=>
  simp only [evOp];cases h1:(aval t x).pv? with
  | none=>left;intro K;rfl
  | some a=>
   cases h2:(aval t y).pv? with
   | none=>left;intro K;rfl
   | some b=>
    simp only
    cases nilEq op a b with
    | some c=>exact Par.bif _ fun _=>Par.ret (.p (.bool c))
    | none=>
     simp only
     cases z20 op a b
     ·simp only [y5r,cond_false];exact Par.bind (q2x (E.eqs T) (E.bl T) op a b) fun v _=>Par.ret (.p v)
     ·simp only [cond_true];exact Par.bif _ fun _=>Par.ret (.p (.bool (y93 op)))
 | unOp op T x=>
  simp only [evOp];exact Par.bind (aval t x).pv? fun a _=>Par.bind (pun op a) fun v _=>Par.ret (.p v)
 | convert S T x=>exact z43 S T _
 | makeFunc fn first caps=>
  simp only [evOp];unfold opMakeFunc;split
  ·split
   ·exact Par.ret _
   ·exact Par.bind (capIds t caps.toList) fun v _=>Par.ret _
  ·exact Par.none
 | extract x i=>exact z44 _ i
 | pick c a b=>simp [q1k] at hq
 | _=>exact x1q hq fun x hx id hid=>List.mem_flatMap.2 ⟨x,hx,hid⟩
end
end Go.Dp
namespace Go.Dp
def Keeps (o:List AObj) (T:List Nat) (o':List AObj):Prop:=o.length<=o'.length /\ ∀ id,id<o.length->id∉T->at' o id=at' o' id
def ParG {β:Type} (T:List Nat) (o:List AObj) (f:(β->List AObj->R)->R):Prop:=(∀ K,f K=none)∨∃ b o',(∀ K,f K=K b o') /\ Keeps o T o'
section
variable {E:Env} {o o' o2:List AObj} {t t':List AV} {ids T T':List Nat} {C:Ctx} {ops:Array Oper} {β γ:Type}
theorem Keeps.refl:Keeps o T o:=⟨Nat.le_refl _,fun _ _ _=>rfl⟩
theorem Keeps.trans (h:Keeps o T o') (k:Keeps o' T o2):Keeps o T o2:=⟨Nat.le_trans h.1 k.1,fun id hi ht=>(h.2 id hi ht).trans (k.2 id (Nat.lt_of_lt_of_le hi h.1) ht)⟩
theorem Keeps.app (x:List AObj):Keeps o T (o++x):=⟨by simp,fun id hi _=>by simp only [at',List.getElem?_append_left hi]⟩
theorem Keeps.set {id:Nat} (x:AObj) (h:id∈T):Keeps o T (o.set id x):=⟨by simp,fun i _ hn=>by simp only [at'];rw [List.getElem?_set_ne (by rintro rfl;exact hn h)]⟩
theorem x2e {i id:Nat} (h:q1y (freezeO o i) id=true):q1y o id=true:=by
 unfold Dp.freezeO at h;split at h
 ·rename_i e sh ver fz xs ho;have key:∀ (x:AObj),(∀ e sh ver fz xs,x=.arr e sh ver fz xs->e.kd=none)->q1y (o.set i x) id=true->q1y o id=true:=by
   intro x hx h;unfold q1y at h ⊢;by_cases e1:id=i
   ·subst e1;rw [List.getElem?_set_self (List.getElem?_eq_some_iff.1 ho).1] at h;split at h
    ·rename_i e2 _ _ _ _ h2;injection h2 with h2
     rw [hx _ _ _ _ _ h2] at h;cases h
    ·cases h
   ·rwa [List.getElem?_set_ne (Ne.symm e1)] at h
  split at h
  ·rename_i hk;exact key _ (by rintro _ _ _ _ _ h;injection h with h;subst h;exact hk) h
  ·rename_i k hk;cases hh:k.hole.isNone <;> rw [hh] at h
   ·exact h
   ·exact key _ (by rintro _ _ _ _ _ h;injection h with h;subst h;rfl) h
 ·exact h
theorem Keeps.freezeO (i:Nat) (hn:q1y o i=true->i∈T):Keeps o T (freezeO o i):=by
 unfold Dp.freezeO;split
 ·rename_i e sh ver fz xs h;split
  ·refine ⟨by simp,fun id hi _=>?_⟩;simp only [at'];by_cases e1:id=i
   ·subst e1;rw [h,List.getElem?_set_self hi];rfl
   ·rw [List.getElem?_set_ne (Ne.symm e1)]
  ·rename_i k hk;cases k.hole.isNone
   ·exact Keeps.refl
   ·exact Keeps.set _ (hn (by simp [q1y,h,hk]))
 ·exact Keeps.refl
theorem q93 {c:CV} {v:PV} {o1:List AObj} (h:freezeC o c=some (v,o1)) {id:Nat} (hn:q1y o1 id=true):q1y o id=true:=by
 cases c <;> simp [Dp.freezeC] at h
 · rw [<- h.2] at hn;exact hn
 · obtain ⟨u,_,_,rfl⟩:=h;exact x2e hn
theorem z42:∀ {cs:List CV} {vs:List PV} {o o1:List AObj},freezeCs o cs=some (vs,o1)->∀ {id:Nat},q1y o1 id=true->q1y o id=true
 | [],vs,o,o1,h,id,hn=>by simp [Dp.freezeCs] at h;rw [<- h.2] at hn;exact hn
 | c::cs,vs,o,o1,h,id,hn=>by
  simp only [Dp.freezeCs] at h;obtain ⟨⟨v,o2⟩,hv,h⟩:=bind_some h;obtain ⟨⟨us,o3⟩,hu,h⟩:=bind_some h;simp at h;obtain ⟨_,rfl⟩:=h;exact q93 hv (z42 hu hn)
theorem x2f {x:SV} {v:PV} {o1:List AObj} (h:freezeS o x=some (v,o1)) {id:Nat} (hn:q1y o1 id=true):q1y o id=true:=by
 cases x with
 | c c=>exact q93 h hn
 | agg cs=>
  simp only [Dp.freezeS] at h;obtain ⟨⟨vs,o2⟩,hv,he⟩:=bind_some h;simp at he;rw [<- he.2] at hn;exact z42 hv hn
theorem Keeps.freezeC {c:CV} {v:PV} {o1:List AObj} (h:freezeC o c=some (v,o1)) (hn:∀ id∈idsC c,q1y o id=true->id∈T):Keeps o T o1:=by
 cases c <;> simp [Dp.freezeC] at h
 · rw [<- h.2];exact Keeps.refl
 · obtain ⟨u,_,_,rfl⟩:=h;exact Keeps.freezeO _ (hn _ (by simp [idsC]))
theorem Keeps.freezeCs:∀ {cs:List CV} {vs:List PV} {o o1:List AObj},freezeCs o cs=some (vs,o1)->(∀ c∈cs,∀ id∈idsC c,q1y o id=true->id∈T)->Keeps o T o1
 | [],vs,o,o1,h,hn=>by simp [Dp.freezeCs] at h;rw [<- h.2];exact Keeps.refl
 | c::cs,vs,o,o1,h,hn=>by
  simp only [Dp.freezeCs] at h;obtain ⟨⟨v,o2⟩,hv,h⟩:=bind_some h;obtain ⟨⟨us,o3⟩,hu,h⟩:=bind_some h;simp at h;obtain ⟨_,rfl⟩:=h;exact (Keeps.freezeC hv (hn c (by simp))).trans (Keeps.freezeCs hu fun c' hc' id hid h2=>hn c' (by simp [hc']) id hid (q93 hv h2))
theorem Keeps.freezeS {x:SV} {v:PV} {o1:List AObj} (h:freezeS o x=some (v,o1)) (hn:∀ c∈cellsOfS x,∀ id∈idsC c,q1y o id=true->id∈T):Keeps o T o1:=by
 cases x with
 | c c=>exact Keeps.freezeC h (hn c (by simp [cellsOfS]))
 | agg cs=>
  simp only [Dp.freezeS] at h;obtain ⟨⟨vs,o2⟩,hv,he⟩:=bind_some h;simp at he;rw [<- he.2];exact Keeps.freezeCs hv hn
theorem Keeps.freezeAll:∀ {is:List Nat} {o:List AObj},(∀ i∈is,i∈T)->Keeps o T (freezeAll is o)
 | [],o,_=>Keeps.refl
 | i::is,o,hn=>(Keeps.freezeO i fun _=>hn i (by simp)).trans (Keeps.freezeAll (is:=is) fun j hj=>hn j (by simp [hj]))
theorem ParG.none':ParG T o fun (_:β->List AObj->R)=>none:=.inl fun _=>rfl
theorem ParG.ret (b:β) (h:Keeps o T o'):ParG T o fun K=>K b o':=.inr ⟨b,o',fun _=>rfl,h⟩
theorem ParG.bind {α:Type} (x:Option α) {f:α->(β->List AObj->R)->R} (h:∀ a,x=some a->ParG T o (f a)):ParG T o fun K=>x.bind fun a=>f a K:=by
 cases x with
 | none=>exact .none'
 | some a=>exact h a rfl
theorem ParG.bif (c:Bool) {f:(β->List AObj->R)->R} (h:c=true->ParG T o f):ParG T o fun K=>bif c then f K else Option.none:=by
 cases c
 · exact .none'
 · exact h rfl
theorem ParG.seq {f:(β->List AObj->R)->R} {g:β->List AObj->(γ->List AObj->R)->R} (hf:ParG T o f) (hg:∀ b o',(∀ K,f K=K b o')->Keeps o T o'->ParG T o' (g b o')):ParG T o fun K=>f fun b o'=>g b o' K:=by
 rcases hf with h | ⟨b,o',h,hk⟩
 ·left;intro K;exact h _
 ·rcases hg b o' h hk with h2 | ⟨c,o2,h2,hk2⟩
  ·left;intro K;exact (h _).trans (h2 K)
  ·right;exact ⟨c,o2,fun K=>(h _).trans (h2 K),hk.trans hk2⟩
theorem ParG.seqU {f:(List AObj->R)->R} {g:List AObj->(γ->List AObj->R)->R} (hf:ParG (β:=Unit) T o fun K=>f (K ())) (hg:∀ o',ParG T o' (g o')):ParG T o fun K=>f fun o'=>g o' K:=by
 rcases hf with h | ⟨b,o',h,hk⟩
 ·left;intro K;exact h fun _ o'=>g o' K
 ·rcases hg o' with h2 | ⟨c,o2,h2,hk2⟩
  ·left;intro K;exact (h fun _ o'=>g o' K).trans (h2 K)
  ·right;exact ⟨c,o2,fun K=>(h fun _ o'=>g o' K).trans (h2 K),hk.trans hk2⟩
theorem Par.g {f:List AObj->Kt->R} (h:Par ids o f):ParG T o (f o):=by
 rcases h with h | ⟨v,h⟩
 · exact .inl h
 · exact .inr ⟨v,o,h o fun _ _=>rfl,Keeps.refl⟩
theorem z9j (sh:Nat) (t:List AV):∀ (n:Nat) (ps:List (Nat × Operand)) (o:List AObj),(∀ q∈ps,∀ id∈idsA (aval t q.2),q1y o id=true->id∈T)->ParG T o fun K=>q3j sh t n ps o K
 | n,[],o,_=>ParG.ret [] Keeps.refl
 | n,(i,x)::ps,o,hn=>by
  simp only [q3j];refine ParG.bif _ fun _=>ParG.bind _ fun v hv=>ParG.bind _ fun yo hyo=>?_
  obtain ⟨y,o1⟩:=yo;refine ParG.bif _ fun _=>?_
  have h1:=hn (i,x) (by simp);rw [q2k hv] at h1;rcases z9j sh t (n+1) ps o1 (fun q hq id hid h2=>hn q (by simp [hq]) id hid (x2f hyo h2)) with h | ⟨ys,o2,h,hk⟩
  ·left;intro K;exact h _
  ·right;exact ⟨y::ys,o2,fun K=>h _,(Keeps.freezeS hyo fun c hc id hid=>h1 id (by simp only [idsA,q1d,List.mem_flatMap];exact ⟨c,hc,hid⟩)).trans hk⟩
theorem q94 {s:St} {op:Op} {x:Operand} (hx:x∈op.operands.toList) {id:Nat} (hid:id∈idsA (aval s.t x)) (h:q1y s.o id=true):id∈touched E s op:=by
 unfold touched;refine List.mem_append_left _ (List.mem_filter.2 ⟨?_,h⟩);simp only [q4v,List.mem_flatMap];exact ⟨x,hx,hid⟩
theorem x8j (s:St) (op:Op):ParG (touched E s op) s.o fun K=>evOp E op s K:=by
 cases hq:q1k op
 ·cases op with
  | alloc T=>exact ParG.bind _ fun z _=>ParG.ret _ (Keeps.app _)
  | box T x=>
   simp only [evOp];unfold opBox;split
   ·rename_i v sh _ _;rcases q85 (o:=s.o) (ids:=(cellsOfS v).flatMap idsC) sh v (fun _ h=>h) with h | ⟨cs,h⟩
    ·left;intro K;exact h _
    ·right;exact ⟨_,_,fun K=>h s.o (fun _ _=>rfl) _,Keeps.app _⟩
   ·exact .none'
  | buildSlice T n ps=>
   obtain ⟨TT,hTT⟩:∃ TT,TT=touched E s (.buildSlice T n ps):=⟨_,rfl⟩;have hnt:∀ q∈ps.toList,∀ id∈idsA (aval s.t q.2),q1y s.o id=true->id∈TT:=by
    intro q hq id hid h;rw [hTT];exact q94 (by simp only [Op.operands];exact List.mem_map.2 ⟨q,hq,rfl⟩) hid h
   have hag:∀ q∈ps.toList,∀ cs,aval s.t q.2=.s (.agg cs)->∀ c∈cs,∀ id∈idsC c,id∈TT:=by
    intro q hq cs hcs c hc id hid;rw [hTT];refine List.mem_append_right _ (List.mem_flatMap.2 ⟨q,hq,?_⟩);rw [hcs];exact List.mem_flatMap.2 ⟨c,hc,hid⟩
   rw [<- hTT];have hac:∀ q∈ps.toList,∀ c,aval s.t q.2=.s (.c c)->(E.nest T).isSome=true->∀ id∈idsC c,id∈TT:=by
    intro q hq c hc hn id hid;rw [hTT];refine List.mem_append_right _ ?_
    show id∈ps.toList.flatMap _
    refine List.mem_flatMap.2 ⟨q,hq,?_⟩;simp only [hc];cases hE:E.nest T with
    | none=>rw [hE] at hn;cases hn
    | some k=>exact hid
   clear hTT;simp only [evOp];cases nestEl E T s.t ps.toList
   ·simp only [cond_false];unfold q17;split
    ·rename_i e sh by_ _;exact ParG.bif _ fun _=>ParG.seq (z9j sh s.t 0 ps.toList s.o hnt) fun ys o1 _ hk=>ParG.ret _ (Keeps.app _)
    ·exact .none'
   ·simp only [cond_true];unfold opBuildNest;split
    ·rename_i k e sh by_ i0 x hnest hT hps;split
     ·rename_i cs hsv;split
      ·rename_i id2 ver2 sh2 lo len hcj;split
       ·have hid2:id2∈TT:=by
         obtain ⟨sv,hsv2,hcs⟩:=Option.map_eq_some_iff.1 hsv;cases sv with
         | agg cs'=>
          have e:cs'=cs:=hcs;subst e;exact hag (i0,x) (by rw [hps];simp) cs' (q2k hsv2) _ (List.mem_of_getElem? hcj) id2 (by simp [idsC])
         | c c'=>
          have e:[c']=cs:=hcs;subst e;have hm:=List.mem_of_getElem? hcj;simp only [List.mem_singleton] at hm;exact hac (i0,x) (by rw [hps];simp) c' (q2k hsv2) (by rw [hnest];rfl) id2 (by rw [<- hm];simp [idsC])
        exact ParG.bif _ fun _=>ParG.bind _ fun vs _=>ParG.bif _ fun _=>ParG.ret _ ((Keeps.set _ hid2).trans (Keeps.app _))
       ·exact .none'
      ·exact .none'
     ·exact .none'
    ·exact .none'
  | store T x y=>
   obtain ⟨TT,hTT⟩:∃ TT,TT=touched E s (.store T x y):=⟨_,rfl⟩;have hta:∀ id∈idsA (aval s.t x),id∈TT:=by
    intro id hid;rw [hTT];exact List.mem_append_right _ (List.mem_append_left _ hid)
   have htn:∀ id∈idsA (aval s.t y),q1y s.o id=true->id∈TT:=by
    intro id hid h;rw [hTT];exact q94 (by simp [Op.operands]) hid h
   have htg:z2r s.o (aval s.t x) (aval s.t y)=true->∀ id∈idsA (aval s.t y),id∈TT:=by
    intro hg id hid;rw [hTT];refine List.mem_append_right _ (List.mem_append_right _ ?_);rw [hg];exact hid
   rw [<- hTT];clear hTT;simp only [evOp];cases hg:z2r s.o (aval s.t x) (aval s.t y)
   rotate_left
   ·simp only [cond_true];have htg:=htg hg;clear hg;unfold opGive;split
    ·rename_i id ver vsh i off id2 ver2 sh2 lo len hca hT hcb;rw [q0s hca] at hta;rw [q0s hcb] at htg;split
     ·split
      ·exact ParG.bind _ fun y _=>ParG.bif _ fun _=>ParG.bind _ fun z _=>ParG.ret _ ((Keeps.set _ (hta _ (q08 (by simp [idsC])))).trans (Keeps.set _ (htg _ (q08 (by simp [idsC])))))
      ·exact .none'
     ·exact .none'
    ·exact .none'
   simp only [cond_false];unfold opStore;split
   ·rename_i id off sh v hc hT hv;rw [q0s hc] at hta;split
    ·rename_i cs ho;rcases q85 (o:=s.o) (ids:=(cellsOfS v).flatMap idsC) sh v (fun _ h=>h) with h | ⟨ns,h⟩
     ·left;intro K;exact h _
     ·have h':∀ K:List CV->R,cellsK s.o sh v K=K ns:=h s.o fun _ _=>rfl
      simp only [h'];exact ParG.bind _ fun cs' _=>ParG.ret _ (Keeps.set _ (hta _ (q08 (by simp [idsC]))))
    ·exact .none'
   ·rename_i id ver vsh i off sh sv hc hT hv;rw [q0s hc] at hta;refine ParG.bind _ fun vo hvo=>?_
    obtain ⟨v,o1⟩:=vo;rw [q2k hv] at htn;have hk:=Keeps.freezeS (T:=TT) hvo fun c hc id hid=>htn id (by simp only [idsA,q1d,List.mem_flatMap];exact ⟨c,hc,hid⟩)
    simp only
    split
    ·refine ParG.bif _ fun _=>ParG.bind _ fun y _=>ParG.bind _ fun z _=>ParG.ret _ (hk.trans (Keeps.set _ (hta _ (q08 (by simp [idsC])))))
    ·exact .none'
   ·exact .none'
  | makeSlice T l c=>
   simp only [evOp];unfold q7w;split
   ·exact ParG.bind _ fun z _=>ParG.bind _ fun l _=>ParG.bind _ fun c _=>ParG.bif _ fun _=>ParG.bif _ fun _=>ParG.ret _ (Keeps.app _)
   ·exact .none'
  | call c=>
   obtain ⟨TT,hTT⟩:∃ T,T=touched E s (.call c):=⟨_,rfl⟩;rw [<- hTT];simp only [evOp];split
   ·rename_i x T hc ha hT;simp [q1k,hc] at hq
   ·rename_i x y T T' hc ha hT;have hTx:∀ id∈idsA (aval s.t x),id∈TT:=by
     intro id hid;rw [hTT];refine List.mem_append_right _ ?_;simpa [hc,ha] using hid
    have hTy:∀ id∈idsA (aval s.t y),q1y s.o id=true->id∈TT:=by
     intro id hid h;rw [hTT];exact q94 (by simp [Op.operands,Call.operands,hc,ha]) hid h
    clear hTT;cases T==T'
    ·simp only [cond_false];unfold opAppendZ;split
     ·exact ParG.bind _ fun q _=>ParG.bind _ fun z _=>ParG.bind _ fun n _=>ParG.bif _ fun _=>ParG.ret _ (Keeps.app _)
     ·exact .none'
    simp only [cond_true];cases hnl:z8o s.o (aval s.t y)
    rotate_left
    ·simp only [cond_true];unfold opAppendNest;split
     ·rename_i e sh by_ id ver sh1 lo len id2 ver2 sh2 lo2 len2 hT' hav hbv;rw [q0s hav] at hTx;rw [q0s hbv] at hTy;have hn2:q1y s.o id2=true:=by simpa [z8o,hbv] using hnl
      split
      ·split
       ·exact ParG.bif _ fun _=>ParG.ret _ ((Keeps.set _ (hTx _ (q08 (by simp [idsC])))).trans (Keeps.set _ (hTy _ (q08 (by simp [idsC])) hn2)))
       ·exact .none'
      ·exact .none'
     ·exact .none'
    simp only [cond_false];unfold opAppend;split
    ·rename_i e sh by_ av bv hT' hav hbv;rw [q0s hav] at hTx;refine ParG.bind _ fun rv _=>ParG.bind _ fun ys _=>?_
     split
     ·unfold z0x;split
      ·split
       ·exact ParG.bif _ fun _=>ParG.bind _ fun x _=>ParG.bind _ fun zs _=>ParG.bif _ fun _=>ParG.ret _ ((Keeps.set _ (hTx _ (q08 (by simp [idsC])))).trans (Keeps.app _))
       ·exact .none'
      ·exact .none'
     unfold y0r;split
     ·refine ParG.bind _ fun q _=>?_
      cases ys.isEmpty
      ·exact ParG.bif _ fun _=>ParG.ret _ (Keeps.app _)
      ·exact ParG.ret _ Keeps.refl
     ·rename_i id ver sh' lo len;split
      ·exact ParG.bif _ fun _=>ParG.ret _ (Keeps.set _ (hTx _ (q08 (by simp [idsC]))))
      ·exact .none'
     ·exact .none'
    ·exact .none'
   ·rename_i x T hc ha hT;simp [q1k,hc] at hq
   ·rename_i x y hc ha;simp [q1k,hc] at hq
   ·rename_i x y hc ha;simp [q1k,hc] at hq
   ·rename_i x y T T' hc ha hT;have hTx:∀ id∈idsA (aval s.t x),id∈TT:=by
     intro id hid;rw [hTT];refine List.mem_append_right _ ?_;simpa [hc,ha] using hid
    clear hTT;unfold opCopy;split
    ·rename_i e sh by_ id ver sh1 lo len bv hT' hav hbv;rw [q0s hav] at hTx;refine ParG.bind _ fun rv _=>ParG.bind _ fun ys _=>?_
     split
     ·exact ParG.bif _ fun _=>ParG.ret _ (Keeps.set _ (hTx _ (q08 (by simp [idsC]))))
     ·exact .none'
    ·exact .none'
   ·rename_i x T hc ha hT;have hTx:∀ id∈idsA (aval s.t x),id∈TT:=by
     intro id hid;rw [hTT];refine List.mem_append_right _ ?_;simpa [hc,ha] using hid
    clear hTT;unfold opClear;split
    ·rename_i e sh by_ id ver sh1 lo len hT' hav;rw [q0s hav] at hTx;refine ParG.bind _ fun z _=>?_
     split
     ·exact ParG.bif _ fun _=>ParG.ret _ (Keeps.set _ (hTx _ (q08 (by simp [idsC]))))
     ·exact .none'
    ·exact .none'
   ·exact .none'
  | _=>first | (simp [q1k] at hq;done) | (left;intro K;simp [evOp];done)
 ·exact (x1q (ids:=op.operands.toList.flatMap fun x=>idsA (aval s.t x)) (o:=s.o) hq fun x hx id hid=>List.mem_flatMap.2 ⟨x,hx,hid⟩).g
def BB (o o':List AObj):Prop:=∀ (id:Nat) (cs:List CV),o'[id]? = some (.box cs)->o[id]? = some (.box cs)
def ParO {β:Type} (T:List Nat) (o:List AObj) (f:(β->List AObj->R)->R):Prop:=(∀ K,f K=none)∨∃ b o',(∀ K,f K=K b o') /\ Keeps o T o' /\ BB o o'
theorem ParO.g {f:(β->List AObj->R)->R} (h:ParO T o f):ParG T o f:=h.imp (fun h=>h) fun ⟨b,o',h1,h2,_⟩=>⟨b,o',h1,h2⟩
theorem BB.refl:BB o o:=fun _ _ h=>h
theorem BB.of (h:Bx (fun _=>none) o (fun _=>none) o'):BB o o':=fun id cs=>(h id cs).2
theorem x2u (k:Kind) (c:CV) (o:List AObj) (hT:∀ id∈idsC c,id∈T):ParO T o fun K=>outC k c o K:=by
 unfold outC;split
 ·cases hf:freezeC o c with
  | none=>left;intro K;rfl
  | some p=>
   obtain ⟨v,o1⟩:=p;rcases q5h (α:=List SV × List (List CV)) (by assumption:CellT) v with h | ⟨u,h⟩
   ·left;intro K;exact h fun v=>K (.p v) o1
   ·right;exact ⟨.p u,o1,fun K=>h fun v=>K (.p v) o1,Keeps.freezeC hf fun id hid _=>hT id hid,BB.of (q84 hf)⟩
 ·rename_i e sh;split
  ·rename_i v;cases hq:v.row? with
   | none=>left;intro K;rfl
   | some q=>
    cases hf:(q.2.1==2&&q5t e sh)
    ·left;intro K;simp [hf]
    ·right;exact ⟨.own e sh [],o,fun K=>by simp only [Option.bind_some,hf,cond_true],Keeps.refl,BB.refl⟩
  ·rename_i id ver sh' lo len;split
   ·rename_i e' sh'' ver' xs ho;cases hc:(lo==0&&ver==ver'&&sh==sh'&&sh==sh''&&sameEt e e' len xs.length)
    ·left;intro K;rfl
    ·right;exact ⟨_,_,fun K=>rfl,Keeps.set _ (hT _ (by simp [idsC])),BB.of (z2j (by simp [ho]) (by simp))⟩
   ·left;intro K;rfl
  ·rename_i id ver nv i;split
   ·rename_i e' sh' ver' xs ho;split
    ·rename_i k hk;cases hc:(ver==ver'&&nv==k.nv&&k.hole.isNone&&e==(k.e:Et)&&sh==k.sh)
     ·left;intro K;rfl
     ·simp only [cond_true];cases hx:xs[i]? with
      | none=>left;intro K;rfl
      | some x=>
       cases hz:x.atRow sh k.j with
       | none=>left;intro K;simp [hz]
       | some zs=>right;exact ⟨.own e sh zs,o.set id (.arr ⟨e'.t,some { k with nv:=k.nv+1,hole:=some i }⟩ sh' ver' false xs),fun K=>by simp only [Option.bind_some,hz],Keeps.set _ (hT _ (by simp [idsC])),BB.of (z2j (by simp [ho]) (by simp))⟩
    ·left;intro K;rfl
   ·left;intro K;rfl
  ·left;intro K;rfl
theorem y8i:∀ (ks:List Kind) (cs:List CV) (o:List AObj),(∀ c∈cs,∀ id∈idsC c,id∈T)->ParO T o fun K=>q7x ks cs o K
 | [],[],o,_=>.inr ⟨[],o,fun _=>rfl,Keeps.refl,BB.refl⟩
 | k::ks,c::cs,o,hT=>by
  simp only [q7x];rcases x2u (T:=T) k c o (hT c (by simp)) with h | ⟨d,o1,h,hk,hb⟩
  ·left;intro K;exact h _
  ·rcases y8i ks cs o1 (fun c hc=>hT c (by simp [hc])) with h2 | ⟨ds,o2,h2,hk2,hb2⟩
   ·left;intro K;exact (h _).trans (h2 _)
   ·right;exact ⟨d::ds,o2,fun K=>(h _).trans (h2 _),hk.trans hk2,fun id cs hh=>hb id cs (hb2 id cs hh)⟩
 | [],_::_,o,_=>.inl fun _=>rfl
 | _::_,[],o,_=>.inl fun _=>rfl
theorem y8h:∀ (kss:List (List Kind)) (ids:List Nat) (o:List AObj),(∀ i∈ids,∀ cs,o[i]? = some (.box cs)->∀ c∈cs,∀ id∈idsC c,id∈T)->ParO T o fun K=>q6z kss ids o K
 | [],[],o,_=>.inr ⟨[],o,fun _=>rfl,Keeps.refl,BB.refl⟩
 | ks::kss,i::ids,o,hT=>by
  simp only [q6z];cases ho:o[i]? with
  | none=>left;intro K;rfl
  | some x=>
   cases x with
   | box cs=>
    simp only
    rcases y8i (T:=T) ks cs o (hT i (by simp) cs ho) with h | ⟨d,o1,h,hk,hb⟩
    ·left;intro K;exact h _
    ·rcases y8h kss ids o1 (fun j hj cs' hc'=>hT j (by simp [hj]) cs' (hb j cs' hc')) with h2 | ⟨ds,o2,h2,hk2,hb2⟩
     ·left;intro K;exact (h _).trans (h2 _)
     ·right;exact ⟨d::ds,o2,fun K=>(h _).trans (h2 _),hk.trans hk2,fun id cs hh=>hb id cs (hb2 id cs hh)⟩
   | _=>left;intro K;rfl
 | [],_::_,o,_=>.inl fun _=>rfl
 | _::_,[],o,_=>.inl fun _=>rfl
theorem w26 {c:CV} {id:Nat} (h:id∈idsC c) (hn:¬ ∃ f cs,c=.fn f cs):id∈q6x (.s (.c c)):=by
 cases c with
 | fn f cs=>exact absurd ⟨f,cs,rfl⟩ hn
 | _=>simpa [q6x,q1d,cellsOfS,y92] using h
theorem z7j:∀ (qs:List (Option (Et × Nat))) (as:List AV) (o:List AObj),(∀ a∈as,∀ id∈q6x a,id∈T)->ParO T o fun K=>q5c qs as o K
 | [],as,o,_=>.inr ⟨as,o,fun K=>by cases as <;> simp [q5c],Keeps.refl,BB.refl⟩
 | q::qs,[],o,_=>.inr ⟨[],o,fun K=>by cases q <;> simp [q5c],Keeps.refl,BB.refl⟩
 | none::qs,a::as,o,hT=>by
  simp only [q5c];rcases z7j qs as o (fun b hb=>hT b (by simp [hb])) with h | ⟨d,o1,h,hk,hb⟩
  ·left;intro K;exact h _
  ·right;exact ⟨a::d,o1,fun K=>h _,hk,hb⟩
 | some q::qs,a::as,o,hT=>by
  simp only [q5c];have h1:ParO T o fun K=>outA q a o K:=by
   unfold outA;split
   ·rename_i c;by_cases hfn:∃ f cs,c=.fn f cs
    ·obtain ⟨f,cs,rfl⟩:=hfn
     left;intro K;rfl
    rcases x2u (T:=T) (.own q.1 q.2) c o (fun id hid=>hT (.s (.c c)) (by simp) id (w26 hid hfn)) with h | ⟨d,o1,h,hk,hb⟩
    ·left;intro K;exact h _
    ·right;exact ⟨_,o1,fun K=>h _,hk,hb⟩
   ·left;intro K;rfl
  rcases h1 with h | ⟨d,o1,h,hk,hb⟩
  ·left;intro K;exact h _
  ·rcases z7j qs as o1 (fun b hb=>hT b (by simp [hb])) with h2 | ⟨ds,o2,h2,hk2,hb2⟩
   ·left;intro K;exact (h _).trans (h2 _)
   ·right;exact ⟨d::ds,o2,fun K=>(h _).trans (h2 _),hk.trans hk2,fun id cs hh=>hb id cs (hb2 id cs hh)⟩
theorem x6c (k:Kind) (c:Option CV) (o:List AObj):ParG T o fun K=>inC k c o K:=by
 unfold inC;split
 ·simp only [w08];refine ParG.bind _ fun v _=>?_
  rcases q5h (α:=List SV × List (List CV)) (by assumption:CellT) v with h | ⟨u,h⟩
  ·left;intro K;exact h _
  ·right;exact ⟨.p u,o,fun K=>h _,Keeps.refl⟩
 ·exact ParG.bind _ fun xs _=>ParG.ret _ (Keeps.app _)
theorem y1j (get:Nat->Option CV):∀ (ks:List Kind) (i:Nat) (o:List AObj),ParG T o fun K=>inCs get ks i o K
 | [],i,o=>ParG.ret [] Keeps.refl
 | k::ks,i,o=>by
  simp only [inCs];rcases x6c (T:=T) k (get i) o with h | ⟨d,o1,h,hk⟩
  ·left;intro K;exact h _
  ·rcases y1j get ks (i+1) o1 with h2 | ⟨ds,o2,h2,hk2⟩
   ·left;intro K;exact (h _).trans (h2 _)
   ·right;exact ⟨d::ds,o2,fun K=>(h _).trans (h2 _),hk.trans hk2⟩
theorem x1x (bs:List (List CV)):∀ (kss:List (List Kind)) (is:List Nat) (j:Nat) (o:List AObj),(∀ i∈is,i∈T)->ParG (β:=Unit) T o fun K=>inBs bs kss is j o (K ())
 | [],[],j,o,_=>ParG.ret () Keeps.refl
 | ks::kss,i::is,j,o,hT=>by
  simp only [inBs];rcases y1j (T:=T) (q0w bs j) ks 0 o with h | ⟨d,o1,h,hk⟩
  ·left;intro K;exact h _
  ·rcases x1x bs kss is (j+1) (o1.set i (.box d)) (fun i hi=>hT i (by simp [hi])) with h2 | ⟨_,o2,h2,hk2⟩
   ·left;intro K;exact (h _).trans (h2 _)
   ·right;exact ⟨(),o2,fun K=>(h _).trans (h2 _),(hk.trans (Keeps.set _ (hT i (by simp)))).trans hk2⟩
 | [],_::_,_,o,_=>.inl fun _=>rfl
 | _::_,[],_,o,_=>.inl fun _=>rfl
theorem y1k (vs:List SV):∀ (ks:List RK) (j:Nat) (o:List AObj),ParG T o fun K=>inSs vs ks j o K
 | [],j,o=>ParG.ret [] Keeps.refl
 | .c k::ks,j,o=>by
  simp only [inSs];rcases x6c (T:=T) k (q01 vs j) o with h | ⟨d,o1,h,hk⟩
  ·left;intro K;exact h _
  ·rcases y1k vs ks (j+1) o1 with h2 | ⟨ds,o2,h2,hk2⟩
   ·left;intro K;exact (h _).trans (h2 _)
   ·right;exact ⟨.c d::ds,o2,fun K=>(h _).trans (h2 _),hk.trans hk2⟩
 | .agg ks::kss,j,o=>by
  simp only [inSs];rcases y1j (T:=T) (partAt vs j) ks 0 o with h | ⟨d,o1,h,hk⟩
  ·left;intro K;exact h _
  ·rcases y1k vs kss (j+1) o1 with h2 | ⟨ds,o2,h2,hk2⟩
   ·left;intro K;exact (h _).trans (h2 _)
   ·right;exact ⟨mkAgg d::ds,o2,fun K=>(h _).trans (h2 _),hk.trans hk2⟩
theorem y9 (ro plain:Bool) (lent:List Nat) (q:List SV × List (List CV)) (o:List AObj) (hl:ro=false->∀ i∈lent,i∈T):ParG (β:=Unit) T o fun K=>afterLend ro plain lent q o (K ()):=by
 unfold afterLend;cases ro
 ·simp only [cond_false];split
  ·exact ParG.ret () Keeps.refl
  ·cases plain
   ·exact ParG.ret () (Keeps.freezeAll (hl rfl))
   ·exact ParG.bif _ fun _=>ParG.ret () Keeps.refl
 ·exact ParG.bif _ fun _=>ParG.ret () Keeps.refl
theorem ParG.bif2 {β:Type} {T:List Nat} {o:List AObj} {f g:(β->List AObj->R)->R} (b:Bool) (h1:ParG T o f) (h2:ParG T o g):ParG T o fun K=>bif b then f K else g K:=by
 cases b
 · exact h2
 · exact h1
theorem x2s (n:Nat) (args:List AV) (o:List AObj) (hT:∀ a∈args,∀ id∈idsA a,id∈T):ParG T o fun K=>opSort n args o K:=by
 unfold opSort;split
 ·rename_i id ver sh lo len;have hid:=hT (.s (.c (.loc id ver sh lo len))) (by simp) id (q08 (by simp [idsC]));split
  ·exact ParG.bif _ fun _=>ParG.bind _ fun zs _=>ParG.bif2 _ (ParG.ret _ (Keeps.set _ hid)) (ParG.ret _ (Keeps.set _ hid))
  ·exact .none'
 ·exact .none'
theorem w1q (n:Nat) (args:List AV) (o:List AObj):(∀ K,opExt n args o K=none)∨∃ v,∀ K,opExt n args o K=K v o:=by
 unfold opExt;split
 ·split
  ·rename_i x y z _ _ _;cases (decide (0<=x)&&decide (0<=y)&&decide (0<=z)&&decide (z<=1))
   ·left;intro K;rfl
   ·right;exact ⟨_,fun K=>rfl⟩
  ·left;intro K;rfl
 ·left;intro K;rfl
theorem z1e (g:FuncId) (A:List AV) (s:St) (hA:∀ a∈A,∀ id∈q6x a,id∈T) (hA2:C.E.ro (keyOf g A)=false->∀ a∈A,∀ id∈idsA a,id∈T) (hT2:∀ i∈T,∀ cs,s.o[i]? = some (.box cs)->∀ c∈cs,∀ id∈idsC c,id∈T') (hTT:∀ id∈T,id∈T'):ParG T' s.o fun K=>z8f C g A s K:=by
 unfold z8f
 simp only
 obtain ⟨ro,hro⟩:∃ ro,ro=C.E.ro (keyOf g A):=⟨_,rfl⟩;rw [<- hro] at hA2 ⊢;obtain ⟨roots,hrt⟩:∃ l,l=adds [] ((A.flatMap q1d).flatMap (ptrsR ro)):=⟨_,rfl⟩;rw [<- hrt];have hroots:∀ id∈roots,id∈T:=by
  intro id hid;rw [hrt,z37] at hid;simp only [List.not_mem_nil,false_or,List.mem_flatMap] at hid;obtain ⟨c,⟨a,ha,hca⟩,hid⟩:=hid;cases hrr:ro
  ·have hid:=y8j hid;refine hA2 hrr a ha id ?_;simp only [idsA,List.mem_flatMap];refine ⟨c,hca,?_⟩;cases c <;> simp [z09] at hid <;> simp [idsC,hid]
  ·rw [hrr] at hid;refine hA a ha id ?_;simp only [q6x,List.mem_flatMap];refine ⟨c,hca,?_⟩;cases c <;> simp [ptrsR,z09] at hid <;> simp [y92,idsC,hid]
 refine ParG.seq (y8h (T:=T') _ _ s.o (fun i hi cs hcs=>hT2 i (hroots i hi) cs hcs)).g fun bs o0 _ _=>?_
 refine ParG.seq (z7j (T:=T') (C.E.ao g) _ o0 (fun a ha id hid=>hTT _ (hA a ha id hid))).g fun args' o1 _ _=>?_
 rcases y3t (C.E.ak g) (args'.map (lendR ro roots o1)) with hcs | ⟨as,hcs⟩
 ·left;intro K;exact hcs _
 simp only [hcs];refine ParG.bind _ fun q _=>?_
 refine ParG.seqU (y9 (T:=T') _ _ _ q o1 fun hr i hi=>?_) fun o2=>?_
 ·rw [z37] at hi;simp only [List.not_mem_nil,false_or,List.mem_flatMap] at hi;obtain ⟨c,⟨a,ha,hca⟩,hid⟩:=hi;rw [hr] at hid;simp only [z35,cond_false] at hid;have hid':i∈idsC c:=by
   cases c <;> simp only [q7v] at hid <;> first | (simp at hid;done) | skip
   split at hid
   ·cases hb:(_:Nat)==(_:Nat) <;> rw [hb] at hid <;> simp at hid
    simp [idsC,hid]
   ·simp at hid
  refine hTT _ (hA2 hr a ha i ?_);simp only [idsA,List.mem_flatMap];exact ⟨c,hca,hid'⟩
 refine ParG.bif _ fun _=>?_
 refine ParG.seqU (x1x (T:=T') q.2 _ _ 0 o2 fun i hi=>hTT i (hroots i hi)) fun o3=>?_
 exact ParG.seq (y1k (T:=T') q.1 _ 0 o3) fun vs o4 _ _=>ParG.ret _ Keeps.refl
theorem z65 {a:AV} {id:Nat} (h:id∈q6x a):id∈idsA a:=by
 simp only [q6x,idsA,List.mem_flatMap] at h ⊢;obtain ⟨c,h1,h2⟩:=h;refine ⟨c,h1,?_⟩;cases c <;> first | exact h2 | (simp [y92] at h2)
theorem x05 (f:AV) (args:List AV) (s:St) (hT:∀ a∈args,∀ id∈q6x a,id∈T) (hTf:q63 C.E f args=false->∀ a∈f::args,∀ id∈idsA a,id∈T) (hT2:∀ i∈T,∀ cs,s.o[i]? = some (.box cs)->∀ c∈cs,∀ id∈idsC c,id∈T') (hTT:∀ id∈T,id∈T'):ParG T' s.o fun K=>callOp C f args s K:=by
 unfold callOp;split
 ·rename_i g caps hc;rw [q0s hc] at hTf;cases hro:q63 C.E (.s (.c (.fn g caps))) args with
  | false=>
   replace hTf:=hTf hro
   have hcaps:∀ id∈caps,id∈T:=fun id hid=>hTf (.s (.c (.fn g caps))) (by simp) id (q08 (by simpa [idsC] using hid))
   have hall:∀ a∈args++caps.map (fun i=>AV.s (.c (.bptr i 0))),∀ id∈idsA a,id∈T:=by
    intro a ha id hid;rcases List.mem_append.1 ha with ha | ha
    ·exact hTf a (by simp [ha]) id hid
    ·obtain ⟨i,hi,rfl⟩:=List.mem_map.1 ha;simp [idsA,q1d,cellsOfS,idsC] at hid;subst hid;exact hcaps _ hi
   refine ParG.bif2 _ (ParG.bif _ fun _=>x2s _ args s.o fun a ha id hid=>hTT _ (hTf a (by simp [ha]) id hid)) (z1e g _ s (fun a ha id hid=>hall a ha id (z65 hid)) (fun _=>hall) hT2 hTT)
  | true=>
   cases caps with
   | cons x xs=>simp [q63,AV.cv?] at hro
   | nil=>
    simp only [q63,AV.cv?,Bool.and_eq_true,beq_iff_eq] at hro;obtain ⟨h1,h2⟩:=hro;rw [h1];simp only [bne_self_eq_false,cond_false,List.map_nil,List.append_nil];exact z1e g args s hT (fun h=>by rw [h2] at h;cases h) hT2 hTT
 ·rename_i g vs hc;have hro:q63 C.E f args=false:=by simp [q63,hc]
  have hall:∀ a∈args++vs.map (fun v=>AV.s (.c (.eptr v v.cells.length 0))),∀ id∈idsA a,id∈T:=by
   intro a ha id hid;rcases List.mem_append.1 ha with ha | ha
   ·exact hTf hro a (by simp [ha]) id hid
   ·obtain ⟨i,hi,rfl⟩:=List.mem_map.1 ha;simp [idsA,q1d,cellsOfS,idsC] at hid
  exact z1e g _ s (fun a ha id hid=>hall a ha id (z65 hid)) (fun _=>hall) hT2 hTT
 ·exact .none'
theorem q83 (x:Operand) (t:List AV):(∀ K,branch t x K=none)∨∃ b,aval t x=.p (.bool b) /\ ∀ K,branch t x K=K b t:=by
 unfold branch;split
 ·rename_i i;cases hb:(getT t i).bool? with
  | none=>left;intro K;rfl
  | some b=>
   right;have hv:=q79 hb
   have e:t.set i (.p (.bool b))=t:=x3b hv (by simp);refine ⟨b,hv,fun K=>?_⟩;cases b
   ·simp [e]
   ·simp [e]
 ·rename_i v;cases hb:(constAV v).bool? with
  | none=>left;intro K;rfl
  | some b=>right;refine ⟨b,q79 hb,fun K=>?_⟩;cases b <;> rfl
 ·left;intro K;rfl
theorem stepOp_keeps (oo:Oper) (s:St):(∀ K,stepOp C oo s K=none)∨∃ v o',(∀ K,stepOp C oo s K=K ⟨putD s.t oo.dst v,o'⟩) /\ Keeps s.o (touched C.E s oo.op) o':=by
 have evs:(∀ K:St->R,(evOp (C.E.on C.self) oo.op s fun v ob=>K ⟨putD s.t oo.dst v,ob⟩)=none)∨∃ v o',(∀ K:St->R,(evOp (C.E.on C.self) oo.op s fun v ob=>K ⟨putD s.t oo.dst v,ob⟩)=K ⟨putD s.t oo.dst v,o'⟩) /\ Keeps s.o (touched C.E s oo.op) o':=by
  rcases x8j (E:=C.E.on C.self) s oo.op with h | ⟨v,o',h,hk⟩
  ·left;intro K;exact h _
  ·right;exact ⟨v,o',fun K=>h _,hk⟩
 unfold stepOp;split
 ·rename_i c x y hop;rcases q83 c s.t with h | ⟨b,hb,h⟩
  ·left;intro K;exact h _
  ·right;exact ⟨_,s.o,fun K=>h _,Keeps.refl⟩
 ·rename_i c hop;split
  ·rename_i f hcal;split
   rotate_left
   ·rename_i n _;rcases w1q (n+1) (c.args.toList.map (aval s.t)) s.o with h | ⟨v,h⟩
    ·left;intro K;exact h _
    ·right;exact ⟨v,s.o,fun K=>h _,Keeps.refl⟩
   obtain ⟨T0,hT0⟩:∃ l,l=(match q63 C.E (aval s.t f) (c.args.toList.map (aval s.t)) with | true=>(c.args.toList.map (aval s.t)).flatMap q6x | false=>q4v s.t oo.op):=⟨_,rfl⟩;have htc:∀ id,id∈T0++(T0.flatMap (q3o s.o)).flatMap idsC->id∈touched C.E s oo.op:=by
    intro id hid;rw [hop];simp only [touched,hcal];rw [hop] at hT0;cases hr:q63 C.E (aval s.t f) (c.args.toList.map (aval s.t)) <;> rw [hr] at hT0 <;> rw [hT0] at hid <;> exact List.mem_append.2 (.inr hid)
   have harg:∀ a∈aval s.t f::c.args.toList.map (aval s.t),∀ id∈idsA a,id∈q4v s.t oo.op:=by
    intro a ha id hid;simp only [q4v,List.mem_flatMap];rcases List.mem_cons.1 ha with rfl | ha
    ·exact ⟨f,by rw [hop];simp [Op.operands,Call.operands,hcal],hid⟩
    ·obtain ⟨x,hx,rfl⟩:=List.mem_map.1 ha;exact ⟨x,by rw [hop];simp only [Op.operands,Call.operands,hcal];simp at hx ⊢;exact .inr hx,hid⟩
   rcases x05 (C:=C) (T:=T0) (T':=touched C.E s oo.op) (aval s.t f) (c.args.toList.map (aval s.t)) s (by
     intro a ha id hid;rw [hT0];split
     ·exact List.mem_flatMap.2 ⟨a,ha,hid⟩
     ·exact harg a (List.mem_cons_of_mem _ ha) id (z65 hid)) (by
     intro hr a ha id hid;rw [hT0,hr];exact harg a ha id hid) (by
     intro i hi cs hcs c' hc' id hid;refine htc id (List.mem_append.2 (.inr ?_));simp only [List.mem_flatMap];exact ⟨c',⟨i,hi,by simp [q3o,hcs,hc']⟩,hid⟩) (fun id hid=>htc id (List.mem_append.2 (.inl hid))) with h | ⟨v,o',h,hk⟩
   ·left;intro K;exact h _
   ·right;exact ⟨v,o',fun K=>h _,hk⟩
  ·exact evs
 ·exact evs
theorem y9e (oo:Oper) (s:St):(∀ K,guarded C ops oo s K=none)∨∃ v o',(∀ K,guarded C ops oo s K=K ⟨putD s.t oo.dst v,o'⟩) /\ Keeps s.o (touched C.E s oo.op) o':=by
 unfold guarded;split
 ·exact stepOp_keeps oo s
 ·rename_i j want hg;split
  ·rename_i d hd;cases hsk:skipped (getT s.t d) with
   | true=>right;exact ⟨.tup [],s.o,fun K=>by simp,Keeps.refl⟩
   | false=>
   simp only [cond_false];rcases q83 (.tmp d) s.t with h | ⟨b,hb,h⟩
   ·left;intro K;exact h _
   ·cases hw:b==want
    ·right;exact ⟨.tup [],s.o,fun K=>by rw [h];simp [hw],Keeps.refl⟩
    ·rcases stepOp_keeps (C:=C) oo s with h2 | ⟨v,o',h2,hk⟩
     ·left;intro K;rw [h];simp only [hw,cond_true];exact h2 K
     ·right;exact ⟨v,o',fun K=>by rw [h];simp only [hw,cond_true];exact h2 K,hk⟩
  ·left;intro K;rfl
end
end Go.Dp
namespace Go.Dp
section
variable {P:Program} {E:Env} {w w':World} {Im Im':Nat->Prop} {ρ ρ':Nat->Option Value} {o o':List AObj} {n:Nat}
theorem RB.more (hm:∀ id v,ρ id=some v->ρ' id=some v) {id off:Nat} {x:Value} (h:RB ρ o id off x):RB ρ' o id off x:=by
 unfold RB at h ⊢;split at h
 ·obtain ⟨b,h1,h2⟩:=h;exact ⟨b,hm _ _ h1,h2⟩
 ·trivial
 ·exact h
theorem RC.more (hi:∀ b,Im b->Im' b /\ w'.heap[b]? = w.heap[b]?) (hm:∀ id v,ρ id=some v->ρ' id=some v) {c:CV} {x:Value} (h:RC w Im ρ o c x):RC w' Im' ρ' o c x:=by
 cases c with
 | undef=>trivial
 | p v=>exact RP.mono hi h
 | loc id ver sh lo len=>
  simp only [RC] at h ⊢;split at h
  ·refine ⟨h.1,fun a b=>?_⟩;obtain ⟨h1,v,h2,h3⟩:=h.2 a b;exact ⟨h1,v,hm _ _ h2,h3⟩
  ·trivial
  ·exact h
 | bptr id off=>exact RB.more hm h
 | aptr id ver sh i off=>
  simp only [RC] at h ⊢;split at h
  ·refine ⟨h.1,fun a b=>?_⟩;obtain ⟨h1,g,bo,m,cap,v,h2,h3⟩:=h.2 a b;exact ⟨h1,g,bo,m,cap,v,hm _ _ h2,h3⟩
  ·trivial
  ·exact h
 | eptr v sh off=>
  obtain ⟨b,base,hx,hb,hs,hh⟩:=h;refine ⟨b,base,hx,(hi b hb).1,hs,fun j c hj=>?_⟩;obtain ⟨y,hy,hr⟩:=hh j c hj;exact ⟨y,(q8 (w:=w) (w':=w') (a:=⟨b,base+j,none⟩) (hi b hb).2).trans hy,RP.mono hi hr⟩
 | fn f caps=>
  obtain ⟨vs,hx,hl,hh⟩:=h;exact ⟨vs,hx,hl,fun i id hid=>let ⟨y,hy,hr⟩:=hh i id hid;⟨y,hy,RB.more hm hr⟩⟩
 | cfn f us=>
  obtain ⟨vs,hx,hl,hh⟩:=h;refine ⟨vs,hx,hl,fun i u hu=>?_⟩;obtain ⟨b,base,h1,h2,h3,h4⟩:=hh i u hu;refine ⟨b,base,h1,(hi b h2).1,h3,fun j c hj=>?_⟩;obtain ⟨y,hy,hr⟩:=h4 j c hj;exact ⟨y,(q8 (w:=w) (w':=w') (a:=⟨b,base+j,none⟩) (hi b h2).2).trans hy,RP.mono hi hr⟩
 | own e sh xs=>exact h.elim
 | nel id ver nv i=>
  simp only [RC] at h ⊢;split at h
  ·refine ⟨h.1,fun a k hk=>?_⟩;obtain ⟨h1,h2⟩:=h.2 a k hk;refine ⟨h1,fun h3 h4=>?_⟩;obtain ⟨h5,m,ks,h6,h7⟩:=h2 h3 h4;exact ⟨h5,m,ks,hm _ _ h6,h7⟩
  ·trivial
  ·exact h
theorem RO.more (hi:∀ b,Im b->Im' b /\ w'.heap[b]? = w.heap[b]?) (hm:∀ id v,ρ id=some v->ρ' id=some v) {v:Value} {x:AObj} (hb:∀ b,Blk v b->w'.heap[b]? = w.heap[b]?) (hn:∀ b,Blk v b->Im' b->Im b) (h:RO w Im ρ o v x):RO w' Im' ρ' o v x:=by
 cases x with
 | dead=>trivial
 | box cs=>
  obtain ⟨b,vs,e,rfl,hh,hl,hr,h1,hni⟩:=h;exact ⟨b,vs,e,rfl,(hb b rfl).trans hh,hl,fun i c y hc' hy=>RC.more hi hm (hr i c y hc' hy),h1,fun him=>hni (hn b rfl him)⟩
 | arr e sh ver fz xs=>
  obtain ⟨vals,hown,hs,hr,hz,hk⟩:=h;exact ⟨vals,q4g (fun b hbk=>hb b (q1g hbk)) hown,hs,fun i x j c y h1 h2 h3=>(hr i x j c y h1 h2 h3).keep hi,fun b hbk=>⟨fun hf him=>(hz b hbk).1 hf (hn b hbk him),fun hf=>(hi b ((hz b hbk).2 hf)).1⟩,hk.keep hi hb⟩
structure Fill (w:World) (Im:Nat->Prop) (ρ:Nat->Option Value) (o:List AObj) (w':World) (n:Nat) (Im':Nat->Prop) (ρ':Nat->Option Value):Prop where
 wd:Wd w w'
 sr:SR w' Im' ρ' o
 keep:∀ c x,RC w Im ρ o c x->RC w' Im' ρ' o c x
 fr:∀ b,b<w.heap.size->w'.heap[b]? = w.heap[b]?
 ow:∀ id v b,ρ' id=some v->Blk v b->w.heap.size<=b∨∃ id' v',ρ id'=some v' /\ Blk v' b
 im:∀ b,Im b->Im' b /\ w'.heap[b]? = w.heap[b]?
 imn:∀ b,Im' b->Im b∨w.heap.size<=b
 ne:∀ id,id≠n->ρ' id=ρ id
theorem Fill.mk1 (hs:SR w Im ρ o) (hwd:Wd w w') (hh:∀ b,b<w.heap.size->w'.heap[b]? = w.heap[b]?) (hi:∀ b,Im b->Im' b) (hi2:∀ b,Im' b->Im b∨(w.heap.size<=b /\ b<w'.heap.size)) {v:Value} {x:AObj} (ho:o[n]? = some x) (hn:ρ n=none) (hx:x≠.dead) (hv:∀ b,Blk v b->w.heap.size<=b /\ b<w'.heap.size)
  (hro:RO w' Im' (upd ρ n (some v)) o v x):Fill w Im ρ o w' n Im' (upd ρ n (some v)):=by
 have him:∀ b,Im b->Im' b /\ w'.heap[b]? = w.heap[b]?:=fun b hb=>⟨hi b hb,hh b (hs.im b hb)⟩
 have hm:∀ id u,ρ id=some u->upd ρ n (some v) id=some u:=by
  intro id u h;rw [q0t (by rintro rfl;rw [hn] at h;cases h)];exact h
 have cs:∀ id u,upd ρ n (some v) id=some u->(id=n /\ u=v)∨(id≠n /\ ρ id=some u):=by
  intro id u h;by_cases e:id=n
  ·subst e;rw [q0x] at h;exact .inl ⟨rfl,by injection h with h;exact h.symm⟩
  ·rw [q0t e] at h;exact .inr ⟨e,h⟩
 refine ⟨hwd,⟨?_,?_,?_,fun b hb=>?_,?_⟩,fun c y hy=>RC.more him hm hy,fun b hb=>hh b hb,?_,him,fun b hb=>(hi2 b hb).imp (fun h=>h) (fun h=>h.1),fun id h=>q0t h⟩
 ·intro id a u ha hu;rcases cs id u hu with ⟨rfl,rfl⟩ | ⟨hne,hu⟩
  ·rw [ho] at ha;injection ha with ha
   subst ha;exact hro
  ·refine RO.more him hm (fun b hb=>hh b ((hs.lt id u hu).2 b hb)) (fun b hb hI=>?_) (hs.ob id a u ha hu);rcases hi2 b hI with h | h
   ·exact h
   ·have:=(hs.lt id u hu).2 b hb;omega
 ·intro id id' u u' b hu hu' hb hb';rcases cs id u hu with ⟨h1,h2⟩ | ⟨hne,h2⟩ <;> rcases cs id' u' hu' with ⟨h3,h4⟩ | ⟨hne',h4⟩
  ·exact h1.trans h3.symm
  ·rw [h2] at hb;have:=(hv b hb).1;have:=(hs.lt id' u' h4).2 b hb';omega
  ·rw [h4] at hb';have:=(hv b hb').1;have:=(hs.lt id u h2).2 b hb;omega
  ·exact hs.inj id id' u u' b h2 h4 hb hb'
 ·intro id u hu;rcases cs id u hu with ⟨rfl,rfl⟩ | ⟨hne,hu⟩
  ·exact ⟨(List.getElem?_eq_some_iff.1 ho).1,fun b hb=>(hv b hb).2⟩
  ·have:=hs.lt id u hu
   exact ⟨this.1,fun b hb=>Nat.lt_of_lt_of_le (this.2 b hb) hwd.size⟩
 ·rcases hi2 b hb with h | h
  ·exact Nat.lt_of_lt_of_le (hs.im b h) hwd.size
  ·exact h.2
 ·intro id hd;by_cases e:id=n
  ·subst e;rw [ho] at hd;injection hd with hd;exact absurd hd hx
  ·rw [q0t e];exact hs.dd id hd
 ·intro id u b hu hb;rcases cs id u hu with ⟨rfl,rfl⟩ | ⟨hne,hu⟩
  ·exact .inl (hv b hb).1
  ·exact .inr ⟨id,u,hu,hb⟩
theorem Fill.keepS (h:Fill w Im ρ o w' n Im' ρ'):∀ v x,RS w Im ρ o v x->RS w' Im' ρ' o v x:=by
 intro v x hv;cases v with
 | c c=>exact h.keep c x hv
 | agg cs=>obtain ⟨vs,rfl,h1,h2,h3⟩:=hv;exact ⟨vs,rfl,h1,fun i c y hc hy=>h.keep c y (h2 i c y hc hy),h3⟩
theorem Fill.keepA (h:Fill w Im ρ o w' n Im' ρ'):∀ v x,RA w Im ρ o v x->RA w' Im' ρ' o v x:=by
 intro v x hv;cases v with
 | s v=>exact h.keepS v x hv
 | tup ts=>obtain ⟨vs,rfl,h1,h2⟩:=hv;exact ⟨vs,rfl,h1,fun i c y hc hy=>h.keepS c y (h2 i c y hc hy)⟩
def DidF (P:Program) (w:World) (Im:Nat->Prop) (ρ:Nat->Option Value) (o:List AObj) (n:Nat) (v:AV) (s:Sem Value):Prop :=
 ∃ y w' Im' ρ',s.run P w=.ok y w' /\ Fill w Im ρ o w' n Im' ρ' /\ RA w' Im' ρ' o v y
theorem z91 (hs:SR w Im ρ o) {T:TypeId} {y:Value} {cs:List CV} (ho:o[n]? = some (.box cs)) (hn:ρ n=none) (hl:y.cells.size=cs.length)
  (hr:∀ (i:Nat) (c:CV) (z:Value),cs[i]? = some c->y.cells[i]? = some z->RC w Im ρ o c z) (h1:∀ (i:Nat) (z:Value),y.cells[i]? = some z->z.oneCell'=true) {s:Sem Value}
  (hrun:s.run P w=.ok (.pointer (some ⟨w.heap.size,0,none⟩)) { w with heap:=w.heap.push (.cells y.cells T) }):DidF P w Im ρ o n (.s (.c (.bptr n 0))) s:=by
 have hnb:¬ Im w.heap.size:=fun h=>by have:=hs.im _ h;omega
 have hm:∀ id u,ρ id=some u->upd ρ n (some (Value.pointer (some ⟨w.heap.size,0,none⟩))) id=some u:=by
  intro id u h;rw [q0t (by rintro rfl;rw [hn] at h;cases h)];exact h
 have hro:RO { w with heap:=w.heap.push (.cells y.cells T) } Im (upd ρ n (some (.pointer (some ⟨w.heap.size,0,none⟩)))) o (.pointer (some ⟨w.heap.size,0,none⟩)) (.box cs) :=
  ⟨w.heap.size,y.cells,T,rfl,q98 _ _,hl,fun i c z a b=>RC.more (fun b hb=>⟨hb,q59 _ _ _ (hs.im b hb)⟩) hm (hr i c z a b),h1,hnb⟩
 have hst:=Fill.mk1 (w':={ w with heap:=w.heap.push (.cells y.cells T) }) hs ⟨rfl,rfl,rfl,by simp⟩ (fun b hb=>q59 _ _ _ hb) (fun b h=>h) (fun b h=>.inl h) ho hn (by simp) (fun b hb=>by simp at hb;subst hb;simp) hro;refine ⟨_,_,_,_,hrun,hst,?_⟩;simp only [RA,RS,RC,RB,ho];exact ⟨_,q0x,rfl⟩
theorem x4i (hs:SR w Im ρ o) {e sh:Nat} {fz:Bool} {xs:List PV} {v:Value} {vals:List Value} {s:Sem Value} (ho:o[n]? = some (.arr (e:Et) sh 0 fz xs)) (hn:ρ n=none) (hwd:Wd w w') (hh:∀ b,b<w.heap.size->w'.heap[b]? = w.heap[b]?) (hown:w'.ownsAt 0 e (csz sh) v xs.length vals)
  (hb:∀ b,Blk v b->w.heap.size<=b) (hsh:∀ x∈xs,x.shp sh=true) (hr:∀ (i:Nat) (x:PV) (j:Nat) (c:PV) (y:Value),xs[i]? = some x->x.cells[j]? = some c->vals[i*csz sh+j]? = some y->RP w Im c y)
  (hrun:s.run P w=.ok v w'):DidF P w Im ρ o n (.s (.c (.loc n 0 sh 0 xs.length))) s:=by
 have him:∀ b,Im b->(Im b∨(fz=true /\ Blk v b)) /\ w'.heap[b]? = w.heap[b]?:=fun b h=>⟨.inl h,hh b (hs.im b h)⟩
 have hno:∀ b,Blk v b->fz=false->¬ (Im b∨(fz=true /\ Blk v b)):=by
  rintro b h hf (hI | ⟨h1,_⟩)
  ·have:=hs.im b hI
   have:=hb b h
   omega
  ·rw [hf] at h1;cases h1
 have hst:=Fill.mk1 (Im':=fun b=>Im b∨(fz=true /\ Blk v b)) (v:=v) (x:=.arr e sh 0 fz xs) hs hwd hh (fun b h=>.inl h) (fun b h=>h.imp (fun h=>h) fun h=>⟨hb b h.2,q2w hown b h.2⟩) ho hn (by simp) (fun b h=>⟨hb b h,q2w hown b h⟩)
  ⟨vals,by rw [(q1b hown).1];exact hown,hsh,fun i x j c y h1 h2 h3=>RP.mono him (hr i x j c y h1 h2 h3),fun b h=>⟨fun hf hI=>hno b h hf hI,fun hf=>.inr ⟨hf,h⟩⟩,fun _=>(q1b hown).1⟩
 refine ⟨_,_,_,_,hrun,hst,?_⟩;simp only [RA,RS,RC,ho];refine ⟨Nat.le_refl _,fun _ _=>⟨by omega,v,q0x,by rw [(q1b hown).1];exact q4h hown⟩⟩
theorem x2p (hE:EnvOK P E) (hs:SR w Im ρ o) {T:TypeId} {zs:List PV} (hz:E.zr T=some zs) (ho:o[n]? = some (.box (zs.map CV.p))) (hn:ρ n=none):DidF P w Im ρ o n (.s (.c (.bptr n 0))) (Instr.alloc T true (.tuple #[])):=by
 obtain ⟨i,z,sh,hi,hiz,hl,_,_,hone,hrp⟩:=hE.zr T zs hz;have hrp':∀ (i:Nat) (c:CV) (y:Value),(zs.map CV.p)[i]? = some c->z.cells[i]? = some y->RC w Im ρ o c y:=by
  intro i c y a b;simp at a;obtain ⟨q,hq,rfl⟩:=a;exact hrp i q y hq b w Im
 refine z91 (y:=z) (T:=T) hs ho hn (by simpa using hl) hrp' ?_ ?_
 ·intro i y b;have hi':i<zs.length:=by rw [<- hl];exact (Array.getElem?_eq_some_iff.1 b).1
  exact ((hrp i zs[i] y (by simp [hi']) b w Im).one (hone _ (List.getElem_mem hi'))).1
 ·simp [Instr.alloc,zeroValue,typeInfo,hi,hiz,newVar,newRow]
theorem x8v (hs:SR w Im ρ o) {T:TypeId} {v:SV} {sh:Nat} {x:Value} {cs:List CV} (ha:RS w Im ρ o v x) (hk:∀ K:List CV->R,cellsK o sh v K=K cs) (ho:o[n]? = some (.box cs)) (hn:ρ n=none):DidF P w Im ρ o n (.s (.c (.bptr n 0))) (Instr.box T x):=by
 classical
 obtain ⟨cs2,hk2,hl,hl2,hr,h1⟩:=q4d (K:=fun c=>if c=cs then some ([],[]) else none) (r:=([],[])) hs ((hk _).trans (by simp)) ha
 have:cs2=cs:=by
  by_cases e:cs2=cs
  ·exact e
  ·simp [e] at hk2
 subst this;exact z91 (y:=x) (T:=T) hs ho hn hl2 hr h1 (by simp [Instr.box,newVar,newRow])
end
end Go.Dp
namespace Go.Dp
section
variable {P:Program} {E:Env} {w w':World} {Im Im':Nat->Prop} {ρ ρ':Nat->Option Value} {o o':List AObj} {n:Nat}
theorem z4x {sh:Nat} {t:List AV} {ev:Operand->Value}:∀ {ps:List (Nat × Operand)} {n:Nat},(∀ q∈ps,(aval t q.2).pv?.isSome=true) ->
  (∀ o K,q3j sh t n ps o K=none)∨∃ ys,(∀ o K,q3j sh t n ps o K=K ys o) /\ ys.length=ps.length /\ (∀ y∈ys,y.shp sh=true) /\ (ps.map fun q=>(q.1,ev q.2))=((ps.map fun q=>ev q.2).zipIdx n).map (fun x=>(x.2,x.1)) /\
   ∀ (i:Nat) (y:PV) (q:Nat × Operand),ys[i]? = some y->ps[i]? = some q->aval t q.2=.p y:=by
 intro ps
 induction ps with
 | nil=>intro n h;exact .inr ⟨[],fun o K=>rfl,rfl,by simp,rfl,fun i y q hy=>by simp at hy⟩
 | cons q ps ih=>
  intro n h;obtain ⟨i,x⟩:=q;obtain ⟨v,hv⟩:=Option.isSome_iff_exists.1 (h (i,x) (by simp));have ha:aval t x=.p v:=z8v hv;by_cases hi:i=n
  ·subst hi;cases hy:v.shp sh with
   | false=>left;intro o K;simp [q3j,ha,AV.sv?,freezeS,freezeC,hy]
   | true=>
    rcases ih (n:=i+1) (fun q hq=>h q (by simp [hq])) with h1 | ⟨ys,h1,hl,hsh,hz,hr⟩
    ·left;intro o K;simp [q3j,ha,AV.sv?,freezeS,freezeC,hy,h1]
    ·right;refine ⟨v::ys,fun o K=>?_,by simp [hl],?_,?_,?_⟩
     ·simp [q3j,ha,AV.sv?,freezeS,freezeC,hy,h1]
     ·intro z hz;rcases List.mem_cons.1 hz with rfl | hz
      ·exact hy
      ·exact hsh z hz
     ·simp only [List.map_cons,List.zipIdx_cons,hz]
     ·intro j z q hz hq;cases j with
      | zero=>simp at hz hq;subst hz;subst hq;exact ha
      | succ j=>exact hr j z q (by simpa using hz) (by simpa using hq)
  ·left;intro o K
   have:(i==n)=false:=by simpa using hi
   simp only [q3j,this,cond_false]
theorem z83 (hE:EnvOK P E) {T:TypeId} {n:Nat} {t:List AV} {ps:Array (Nat × Operand)} (hp:∀ q∈ps.toList,(aval t q.2).pv?.isSome=true) :
  (∀ o K,q17 E T n t ps.toList o K=none)∨∃ e sh ys,(∀ o K,q17 E T n t ps.toList o K=K (.s (.c (.loc o.length 0 sh 0 n))) (o++[.arr e sh 0 false ys])) /\
   ∀ {w:World} {Im:Nat->Prop} {ρ:Nat->Option Value} {o:List AObj} {m:Nat} {fz:Bool} {ev:Operand->Value},SR w Im ρ o->(∀ q∈ps.toList,RA w Im ρ o (aval t q.2) (ev q.2))->o[m]? = some (.arr e sh 0 fz ys)->ρ m=none ->
    DidF P w Im ρ o m (.s (.c (.loc m 0 sh 0 n))) (Instr.buildSlice T n (ps.map fun (i,x)=>(i,ev x))):=by
 cases hT:E.sl T with
 | none=>left;intro o K;simp [q17,hT]
 | some q=>
 obtain ⟨e,sh,by_⟩:=q;cases hcnd:(ps.toList.length==n&&decide (n*csz sh<=16777216)) with
 | false=>left;intro o K;simp only [q17,hT,hcnd,cond_false]
 | true=>
 rcases z4x (sh:=sh) (t:=t) (ev:=fun _=>undef) (n:=0) hp with h | ⟨ys,h,hl,hsh,_,hr0⟩
 ·left;intro o K;simp only [q17,hT,hcnd,cond_true];exact h _ _
 right;refine ⟨e,sh,ys,fun o K=>?_,?_⟩
 ·simp only [q17,hT,hcnd,cond_true];exact h _ _
 intro w Im ρ o m fz ev hs hra ho hm;simp only [Bool.and_eq_true,beq_iff_eq,decide_eq_true_eq] at hcnd;obtain ⟨hn,hsm⟩:=hcnd;have hz:(ps.toList.map fun q=>(q.1,ev q.2))=((ps.toList.map fun q=>ev q.2).zipIdx 0).map (fun x=>(x.2,x.1)):=by
  rcases z4x (sh:=sh) (t:=t) (ev:=ev) (n:=0) hp with h1 | ⟨_,_,_,_,h1,_⟩
  ·have:=h o fun _ _=>some ([],[])
   rw [h1] at this;cases this
  ·exact h1
 have hr:∀ (i:Nat) (y:PV) (q:Nat × Operand),ys[i]? = some y->ps.toList[i]? = some q->RP w Im y (ev q.2):=by
  intro i y q hy hq;have h1:=hra q (List.mem_of_getElem? hq);rw [hr0 i y q hy hq] at h1;exact h1
 obtain ⟨hu,⟨inf,z,hi,hsz,hby,hiz,hzs⟩,_⟩:=hE.sl T e sh by_ hT;have hp:=q3w sh;have hcell:∀ v∈ps.toList.map (fun q=>ev q.2),v.cells.size=csz sh:=by
  intro v hv;obtain ⟨i,hi',rfl⟩:=List.getElem_of_mem hv;simp only [List.length_map] at hi';have hiy:i<ys.length:=by rw [hl];exact hi'
  have:=(hr i ys[i] ps.toList[i] (by simp [hiy]) (by rw [List.getElem?_eq_getElem hi'])).cells.1
  simp only [List.getElem_map];rw [this,PV.shp_len (hsh _ (List.getElem_mem hiy))]
 obtain ⟨zc,hzc⟩:∃ zc,zc=(Array.range (n*csz sh)).map (fun k=>(if n*csz sh=0 then (#[]:Array Value) else z.cells)[k % (if n*csz sh=0 then (#[]:Array Value) else z.cells).size]!):=⟨_,rfl⟩;have hzcs:zc.size=n*csz sh:=by rw [hzc];simp
 obtain ⟨cells,hfill,hcs,hget⟩:=Great.fill_dense hp (ps.toList.map fun q=>ev q.2) 0 zc hcell (by rw [hzcs];simp [<- hn]);rw [<- hz] at hfill;have hfill':Instr.fill (fun i=>some (i*inf.size,inf.size)) zc (ps.map fun (i,x)=>(i,ev x)).toList=some cells:=by
  rw [hsz,<- hfill];simp
 have hrun:(Instr.buildSlice T n (ps.map fun (i,x)=>(i,ev x))).run P w=.ok (.slice (some ⟨w.heap.size,0,none⟩) n n) (w.alloc (.cells cells e)):=by
  have hsm':¬ n*csz sh>2 ^ 24:=by omega
  by_cases h0:n*csz sh=0
  ·rw [if_pos h0] at hzc;subst hzc;simp only [h0] at hfill';simp [Instr.buildSlice,run_underlying hu,sizeOf,typeInfo,hi,hsz,h0];simp [hsz] at hfill';simp [hfill',newRow]
  ·rw [if_neg h0] at hzc;subst hzc;exact run_buildSlice w T e n _ cells inf z hu hi hiz (by rw [hsz];exact hsm') (by rw [hsz];exact h0) (by rw [hsz] at hfill' ⊢;exact hfill')
 have hval:∀ (i j:Nat),i<n->j<csz sh->∃ q,ps.toList[i]? = some q /\ cells.toList[i*csz sh+j]? = (ev q.2).cells[j]?:=by
  intro i j hi' hj;have hip:i<ps.toList.length:=by omega
  refine ⟨ps.toList[i],by rw [List.getElem?_eq_getElem hip],?_⟩;rw [Array.getElem?_toList,hget,if_pos ⟨by simp,by simpa [hn] using q4t hi' hj⟩];have h1:(i*csz sh+j) / csz sh-0=i:=by rw [Nat.mul_comm,Nat.mul_add_div hp,Nat.div_eq_of_lt hj];rfl
  have h2:(i*csz sh+j) % csz sh=j:=by rw [Nat.mul_comm,Nat.mul_add_mod,Nat.mod_eq_of_lt hj]
  rw [h1,h2,List.getElem?_map,List.getElem?_eq_getElem hip];rfl
 have hyn:ys.length=n:=by omega
 have hd:=x4i (P:=P) (e:=e) (sh:=sh) (fz:=fz) (xs:=ys) (v:=.slice (some ⟨w.heap.size,0,none⟩) n n) (vals:=cells.toList) hs (w':=w.alloc (.cells cells e)) ho hm ⟨rfl,rfl,rfl,by simp⟩ (fun b hb=>q59 _ _ _ hb) ?_ (fun b hb=>by simp at hb;omega) hsh ?_ hrun
 ·rw [hyn] at hd;exact hd
 ·refine World.ownsAt_of ⟨by simp [hcs,hzcs,hyn],.inr ⟨w.heap.size,n,cells,by rw [hyn],Nat.zero_le _,q98 _ _,by omega,?_,by rw [hcs,hzcs],?_⟩⟩
  ·have h1:n*1<=n*csz sh:=Nat.mul_le_mul_left _ hp;simp only [maxLen];omega
  ·rw [hyn,<- hzcs,<- hcs,<- Array.length_toList,List.take_length]
 ·intro i x j c y hx hj hy;have hin:i<n:=by rw [<- hyn];exact (List.getElem?_eq_some_iff.1 hx).1
  have hjl:j<csz sh:=by rw [<- PV.shp_len (hsh x (List.mem_of_getElem? hx))];exact (List.getElem?_eq_some_iff.1 hj).1
  obtain ⟨q,hq,hqc⟩:=hval i j hin hjl;rw [hqc] at hy;exact (hr i x q hx hq).cells.2 j c y hj hy
end
end Go.Dp
namespace Go.Dp
section
variable {P:Program} {E:Env} {w w':World} {Im Im':Nat->Prop} {ρ ρ':Nat->Option Value} {o o':List AObj} {t:List AV} {a:Act} {C:Ctx} {ops:Array Oper}
theorem y3o {cs:List CV} (h:at' (o++[.box cs]) o.length=at' o' o.length):o'[o.length]? = some (.box cs):=by
 simp only [at',List.getElem?_append_right (Nat.le_refl _),Nat.sub_self] at h;cases h':o'[o.length]? with
 | none=>rw [h'] at h;simp [AObj.norm] at h
 | some x=>rw [h'] at h;cases x <;> simp [AObj.norm] at h;subst h;rfl
theorem x74 {sh ver:Nat} {e:Et} {fz:Bool} {xs:List PV} (h:at' (o++[.arr e sh ver fz xs]) o.length=at' o' o.length):∃ fz',o'[o.length]? = some (.arr e sh ver fz' xs):=by
 simp only [at',List.getElem?_append_right (Nat.le_refl _),Nat.sub_self] at h;cases h':o'[o.length]? with
 | none=>rw [h'] at h;simp [AObj.norm] at h
 | some x=>
  rw [h'] at h;cases x <;> simp [AObj.norm] at h
  obtain ⟨rfl,rfl,rfl,rfl⟩:=h;exact ⟨_,rfl⟩
theorem x70 {ids:List Nat} {x:AObj} (hi:∀ id∈ids,id<o.length) (h:AgreeO ids (o++[x]) o'):AgreeO ids o o':=by
 intro id hid;rw [<- h id hid];simp only [at',List.getElem?_append_left (hi id hid)]
theorem DidF.next {v:AV} {n:Nat} {s:Sem Value} (h:DidF P w Im ρ o n v s) {m:Sem Next} (e:m=(do pure (.value (<- s)))):∃ y w' Im' ρ',Fill w Im ρ o w' n Im' ρ' /\ RA w' Im' ρ' o v y /\ m.run P w=.ok (.value y) w':=by
 obtain ⟨y,w',Im',ρ',h1,h2,h3⟩:=h;refine ⟨y,w',Im',ρ',h2,h3,?_⟩;subst e;simp [h1]
theorem v5i (hE:EnvOK P C.E) {oo:Oper} (hq:q89 oo=true) (t:List AV) (o:List AObj) (hp:z07 t oo.op=true) (hids:∀ id∈q4v t oo.op,id<o.length):(∀ K,guarded C ops oo ⟨t,o⟩ K=none)∨∃ v x,(∀ K,guarded C ops oo ⟨t,o⟩ K=K ⟨putD t oo.dst v,o++[x]⟩) /\
  ∀ o',AgreeO (o.length::q4v t oo.op) (o++[x]) o'->∀ (w:World) (Im:Nat->Prop) (ρ:Nat->Option Value) (a:Act),SR w Im ρ o'->ρ o.length=none->(∀ x∈oo.op.operands.toList,RA w Im ρ o' (aval t x) (a.eval x)) ->
   ∃ y w' Im' ρ',Fill w Im ρ o' w' o.length Im' ρ' /\ RA w' Im' ρ' o' v y /\ (execOp a.eval oo).run P w=.ok (.value y) w':=by
 simp only [q89,Bool.and_eq_true,Option.isNone_iff_eq_none] at hq;obtain ⟨hg,hq⟩:=hq;unfold guarded;rw [hg]
 simp only
 cases hop:oo.op with
 | alloc T=>
  simp only [stepOp,hop,evOp];cases hz:(C.E.on C.self).zr T with
  | none=>left;intro K;simp [z8t,hz]
  | some zs=>
   right;refine ⟨.s (.c (.bptr o.length 0)),.box (zs.map CV.p),fun K=>by simp [z8t,hz],fun o' hag w Im ρ a hs hn av=>?_⟩
   exact (x2p (hE.on C.self) hs hz (y3o (hag o.length (by simp))) hn).next (by simp [execOp,hop])
 | box T x=>
  simp only [stepOp,hop,evOp];rw [hop] at hids;cases hv:(aval t x).sv? with
  | none=>left;intro K;simp [opBox,hv]
  | some v=>
   cases hT:(C.E.on C.self).sh T with
   | none=>left;intro K;simp [opBox,hv,hT]
   | some sh=>
    have ha:=q2k hv;rcases q85 (o:=o) (ids:=(cellsOfS v).flatMap idsC) sh v (fun _ h=>h) with h | ⟨cs,h⟩
    ·left;intro K;simp only [opBox,hv,hT];exact h _
    ·replace h:∀ o',AgreeO ((cellsOfS v).flatMap idsC) o o'->∀ K:List CV->R,cellsK o' sh v K=K cs:=h
     have hsub:∀ id∈(cellsOfS v).flatMap idsC,id∈q4v t (.box T x):=by
      intro id hid;refine List.mem_flatMap.2 ⟨x,by simp [Op.operands],?_⟩;rw [ha];exact hid
     right;refine ⟨.s (.c (.bptr o.length 0)),.box cs,fun K=>by simp only [opBox,hv,hT];exact h o (fun _ _=>rfl) _,fun o' hag w Im ρ a hs hn av=>?_⟩
     have hx:=av x (by simp [Op.operands]);rw [ha] at hx;have hag2:AgreeO ((cellsOfS v).flatMap idsC) o o':=x70 (fun id hid=>hids id (hsub id hid)) fun id hid=>hag id (List.mem_cons_of_mem _ (by rw [<- hop] at hsub ⊢;exact hsub id hid))
     exact (x8v (v:=v) (sh:=sh) (x:=a.eval x) (T:=T) hs hx (h o' hag2) (y3o (hag o.length (by simp))) hn).next (by simp [execOp,hop])
 | buildSlice T n ps=>
  simp only [stepOp,hop,evOp];have hp':∀ q∈ps.toList,(aval t q.2).pv?.isSome=true:=by
   rw [hop] at hp;simpa only [z07,List.all_eq_true] using hp
  have hnl:nestEl (C.E.on C.self) T t ps.toList=false:=by
   unfold nestEl;split
   ·rename_i k i x _ hps;have hpx:=hp' (i,x) (by rw [hps];simp);split
    ·rename_i cs hsv;rw [q2k hsv] at hpx;simp [AV.pv?] at hpx
    ·rename_i hsv;rw [q2k hsv] at hpx;simp [AV.pv?] at hpx
    ·rfl
   ·rfl
  simp only [hnl,cond_false];rcases z83 (T:=T) (n:=n) (hE.on C.self) hp' with h | ⟨e,sh,ys,h,hf⟩
  ·left;intro K;exact h _ _
  ·right;refine ⟨.s (.c (.loc o.length 0 sh 0 n)),.arr e sh 0 false ys,fun K=>h _ _,fun o' hag w Im ρ a hs hn av=>?_⟩
   obtain ⟨fz,ho⟩:=x74 (hag o.length (by simp));exact (hf (ev:=a.eval) hs (fun q hq=>av q.2 (by simp only [Op.operands];exact List.mem_map.2 ⟨q,hq,rfl⟩)) ho hn).next (by simp [execOp,hop])
 | _=>rw [hop] at hq;simp at hq
end
end Go.Dp
