/- Dp10; Dp10n; Dp11; Dp12; Dp13; Dp14; Dp15; Dp16: texts put together. -/
import Derived.Test.YthoecdnmokcfbaaGreatM0
import Derived.Lib.AppendZeros
import Derived.Laws.CopyRow
/- Slices that are built,made and grown. -/
set_option linter.unusedVariables false
set_option linter.unusedSimpArgs false
namespace Go.Dp
section
variable {P:Program} {E:Env} {w w':World} {Im Im':Nat->Prop} {ρ ρ':Nat->Option Value} {o o':List AObj} {K:Kt} {r:List SV × List (List CV)}
theorem ownsRow_lt {base:Nat} {e s n:Nat} {v:Value} {xs:List Value} (h:w.ownsAt base e s v n xs):∀ b,Blk v b->b < w.heap.size:=by
 intro b hb
 rcases h.2 with ⟨rfl,_⟩ | ⟨g,bo,cap,cur,rfl,_,hh,_⟩
 ·exact hb.elim
 ·simp at hb
  subst hb
  exact (Array.getElem?_eq_some_iff.1 hh).1
theorem ownsRow_self {base:Nat} {e s n:Nat} {v:Value} {xs:List Value} (h:w.ownsAt base e s v n xs):RSl v s 0 n v:=by
 rcases h.2 with ⟨rfl,rfl⟩ | ⟨g,bo,cap,cur,rfl,_⟩
 · exact ⟨rfl,rfl,rfl⟩
 · exact ⟨bo,rfl,Nat.zero_le _,fun _=>by simp⟩
theorem ownsRow_mainV {base:Nat} {e s n:Nat} {v:Value} {xs:List Value} (h:w.ownsAt base e s v n xs):mainV v = v /\ ∀ b,Blk v b ↔ kidBlk v b:=by
 rcases h.2 with ⟨rfl,rfl⟩ | ⟨g,bo,cap,cur,rfl,_⟩
 · exact ⟨rfl,fun b=>Iff.rfl⟩
 · exact ⟨rfl,fun b=>Iff.rfl⟩
theorem newArr_gen (hs:SR w Im ρ o) {e:Et} {sh:Nat} {xs:List PV} {v V:Value} {vals:List Value} {s:Sem Value} (hwd:Wd w w') (hh:∀ b,b < w.heap.size->w'.heap[b]? = w.heap[b]?) (hV:mainV V = v) (hown:w'.ownsAt 0 e.t (csz sh) v xs.length vals)
  (hb:∀ b,Blk V b->w.heap.size<=b /\ b < w'.heap.size) (hsh:∀ x ∈ xs,x.shp sh = true) (hr:∀ (i:Nat) (x:PV) (j:Nat) (c:PV) (y:Value),xs[i]? = some x->x.cells[j]? = some c->vals[i * csz sh + j]? = some y->RPk w Im e j c y)
  (hkids:RKids w' Im e sh false xs vals V)
  (hrun:s.run P w = .ok v w') (hk:K (.s (.c (.loc o.length 0 sh 0 xs.length))) (o ++ [.arr e sh 0 false xs]) = some r):Did P w Im ρ o K r s:=by
 have him:∀ b,Im b->Im b /\ w'.heap[b]? = w.heap[b]?:=fun b h=>⟨h,hh b (hs.im b h)⟩
 have hst:=Step.new (x:=.arr e sh 0 false xs) (v:=V) hs hwd hh (by simp) hb ⟨vals,by rw [hV];exact hown,hsh,fun i x j c y h1 h2 h3=>(hr i x j c y h1 h2 h3).keep him,fun b h=>⟨fun _ hI=>by have:=hs.im b hI;have:=(hb b h).1;omega,fun h=>nomatch h⟩,hkids⟩
 refine ⟨_,_,_,_,Im,_,hk,hrun,hst,?_⟩
 simp only [RA,RS,RC]
 simp
 exact ⟨V,upd_same,by rw [hV];exact ownsRow_self hown⟩
theorem newArr_sound (hs:SR w Im ρ o) {e sh:Nat} {xs:List PV} {v:Value} {vals:List Value} {s:Sem Value} (hwd:Wd w w') (hh:∀ b,b < w.heap.size->w'.heap[b]? = w.heap[b]?) (hown:w'.ownsAt 0 e (csz sh) v xs.length vals)
  (hb:∀ b,Blk v b->w.heap.size<=b) (hsh:∀ x ∈ xs,x.shp sh = true) (hr:∀ (i:Nat) (x:PV) (j:Nat) (c:PV) (y:Value),xs[i]? = some x->x.cells[j]? = some c->vals[i * csz sh + j]? = some y->RP w Im c y)
  (hrun:s.run P w = .ok v w') (hk:K (.s (.c (.loc o.length 0 sh 0 xs.length))) (o ++ [.arr e sh 0 false xs]) = some r):Did P w Im ρ o K r s :=
 newArr_gen (e:=(e:Et)) hs hwd hh (ownsRow_mainV hown).1 hown (fun b h=>⟨hb b h,ownsRow_lt hown b h⟩) hsh hr (fun _=>(ownsRow_mainV hown).1) hrun hk
theorem elemsIn_sound {sh:Nat} {t:List AV} {ev:Operand->Value}:∀ {ps:List (Nat × Operand)} {n:Nat} {o:List AObj} {Im:Nat->Prop} {K:List PV->List AObj->R},SR w Im ρ o->(∀ q ∈ ps,RA w Im ρ o (aval t q.2) (ev q.2))->elemsIn sh t n ps o K = some r ->
  ∃ ys o1 Im1,K ys o1 = some r /\ Step w Im ρ o w Im1 ρ o1 /\ ys.length = ps.length /\ (∀ y ∈ ys,y.shp sh = true) /\ (ps.map fun q=>(q.1,ev q.2)) = ((ps.map fun q=>ev q.2).zipIdx n).map (fun x=>(x.2,x.1)) /\
   ∀ (i:Nat) (y:PV) (q:Nat × Operand),ys[i]? = some y->ps[i]? = some q->RP w Im1 y (ev q.2):=by
 intro ps
 induction ps with
 | nil =>
  intro n o Im K hs hra h
  simp only [elemsIn] at h
  exact ⟨[],o,Im,h,Step.refl hs,rfl,by simp,rfl,fun i y q hy=>by simp at hy⟩
 | cons q ps ih =>
  intro n o Im K hs hra h
  obtain ⟨i,x⟩:=q
  simp only [elemsIn] at h
  obtain ⟨hi,h⟩:=bif_some h
  obtain ⟨v,hv,h⟩:=bind_some h
  obtain ⟨⟨y,o1⟩,hf,h⟩:=bind_some h
  simp only at h
  obtain ⟨hy,h⟩:=bif_some h
  have hx:=hra (i,x) (by simp)
  simp only [sv_some hv] at hx
  obtain ⟨Im1,hst1,hr1⟩:=freezeS_sound hs hx hf
  obtain ⟨ys,o2,Im2,hk,hst2,hl,hsh,hz,hr2⟩:=ih hst1.sr (fun q hq=>hst1.keepA _ _ (hra q (by simp [hq]))) h
  simp at hi
  subst hi
  refine ⟨y :: ys,o2,Im2,hk,hst1.trans hst2,by simp [hl],?_,?_,?_⟩
  ·intro z hz
   rcases List.mem_cons.1 hz with rfl | hz
   ·exact hy
   ·exact hsh z hz
  ·simp only [List.map_cons,List.zipIdx_cons,hz]
  ·intro j z q hz hq
   cases j with
   | zero =>
    simp at hz hq
    subst hz
    subst hq
    exact RP.mono (fun b hb=>hst2.im b hb) hr1
   | succ j=>exact hr2 j z q (by simpa using hz) (by simpa using hq)
theorem opBuildSlice_sound (hE:EnvOK P E) (hs:SR w Im ρ o) {T:TypeId} {n:Nat} {t:List AV} {ev:Operand->Value} {ps:Array (Nat × Operand)} (hra:∀ q ∈ ps.toList,RA w Im ρ o (aval t q.2) (ev q.2)) (h:opBuildSlice E T n t ps.toList o K = some r) :
  Did P w Im ρ o K r (Instr.buildSlice T n (ps.map fun (i,x)=>(i,ev x))):=by
 unfold opBuildSlice at h
 split at h
 ·rename_i e sh by_ hT
  obtain ⟨hcnd,h⟩:=bif_some h
  simp only [Bool.and_eq_true,beq_iff_eq,decide_eq_true_eq] at hcnd
  obtain ⟨hn,hsm⟩:=hcnd
  obtain ⟨ys,o1,Im1,hk,hst,hl,hsh,hz,hr⟩:=elemsIn_sound hs hra h
  obtain ⟨hu,⟨inf,z,hi,hsz,hby,hiz,hzs⟩,_⟩:=hE.sl T e sh by_ hT
  have hp:=csz_pos sh
  have hcell:∀ v ∈ ps.toList.map (fun q=>ev q.2),v.cells.size = csz sh:=by
   intro v hv
   obtain ⟨i,hi',rfl⟩:=List.getElem_of_mem hv
   simp only [List.length_map] at hi'
   have hiy:i < ys.length:=by rw [hl];exact hi'
   have:=(hr i ys[i] ps.toList[i] (by simp [hiy]) (by rw [List.getElem?_eq_getElem hi'])).cells.1
   simp only [List.getElem_map]
   rw [this,PV.shp_len (hsh _ (List.getElem_mem hiy))]
  obtain ⟨zc,hzc⟩:∃ zc,zc = (Array.range (n * csz sh)).map (fun k=>(if n * csz sh = 0 then (#[]:Array Value) else z.cells)[k % (if n * csz sh = 0 then (#[]:Array Value) else z.cells).size]!):=⟨_,rfl⟩
  have hzcs:zc.size = n * csz sh:=by rw [hzc];simp
  obtain ⟨cells,hfill,hcs,hget⟩:=Great.fill_dense hp (ps.toList.map fun q=>ev q.2) 0 zc hcell (by rw [hzcs];simp [<- hn])
  rw [<- hz] at hfill
  have hfill':Instr.fill (fun i=>some (i * inf.size,inf.size)) zc (ps.map fun (i,x)=>(i,ev x)).toList = some cells:=by
   rw [hsz,<- hfill];simp
  have hrun:(Instr.buildSlice T n (ps.map fun (i,x)=>(i,ev x))).run P w = .ok (.slice (some ⟨w.heap.size,0,none⟩) n n) (w.alloc (.cells cells e)):=by
   have hsm':¬ n * csz sh > 2 ^ 24:=by omega
   by_cases h0:n * csz sh = 0
   ·rw [if_pos h0] at hzc
    subst hzc
    simp only [h0] at hfill'
    simp [Instr.buildSlice,run_underlying hu,sizeOf,typeInfo,hi,hsz,h0]
    simp [hsz] at hfill'
    simp [hfill',newRow]
   ·rw [if_neg h0] at hzc
    subst hzc
    exact run_buildSlice w T e n _ cells inf z hu hi hiz (by rw [hsz];exact hsm') (by rw [hsz];exact h0) (by rw [hsz] at hfill' ⊢;exact hfill')
  have hval:∀ (i j:Nat),i < n->j < csz sh->∃ q,ps.toList[i]? = some q /\ cells.toList[i * csz sh + j]? = (ev q.2).cells[j]?:=by
   intro i j hi' hj
   have hip:i < ps.toList.length:=by omega
   refine ⟨ps.toList[i],by rw [List.getElem?_eq_getElem hip],?_⟩
   rw [Array.getElem?_toList,hget,if_pos ⟨by simp,by simpa [hn] using get_flat hi' hj⟩]
   have h1:(i * csz sh + j) / csz sh - 0 = i:=by rw [Nat.mul_comm,Nat.mul_add_div hp,Nat.div_eq_of_lt hj];rfl
   have h2:(i * csz sh + j) % csz sh = j:=by rw [Nat.mul_comm,Nat.mul_add_mod,Nat.mod_eq_of_lt hj]
   rw [h1,h2,List.getElem?_map,List.getElem?_eq_getElem hip]
   rfl
  have hyn:ys.length = n:=by omega
  have hd:=newArr_sound (P:=P) (K:=K) (r:=r) (e:=e) (sh:=sh) (xs:=ys) (v:=.slice (some ⟨w.heap.size,0,none⟩) n n) (vals:=cells.toList) hst.sr (w':=w.alloc (.cells cells e)) ⟨rfl,rfl,rfl,by simp⟩ (fun b hb=>push_old _ _ _ hb) ?_ (fun b hb=>by simp at hb;omega) hsh ?_ hrun
   (by rw [hyn];exact hk)
  ·obtain ⟨v',o',y',w'',Im2,ρ2,h1,h2,h3,h4⟩:=hd
   exact ⟨v',o',y',w'',Im2,ρ2,h1,h2,hst.trans h3,h4⟩
  ·refine World.ownsAt_of ⟨by simp [hcs,hzcs,hyn],.inr ⟨w.heap.size,n,cells,by rw [hyn],Nat.zero_le _,push_new _ _,by omega,?_,by rw [hcs,hzcs],?_⟩⟩
   ·have h1:n * 1<=n * csz sh:=Nat.mul_le_mul_left _ hp
    simp only [maxLen]
    omega
   ·rw [hyn,<- hzcs,<- hcs,<- Array.length_toList,List.take_length]
  ·intro i x j c y hx hj hy
   have hin:i < n:=by rw [<- hyn];exact (List.getElem?_eq_some_iff.1 hx).1
   have hjl:j < csz sh:=by rw [<- PV.shp_len (hsh x (List.mem_of_getElem? hx))];exact (List.getElem?_eq_some_iff.1 hj).1
   obtain ⟨q,hq,hqc⟩:=hval i j hin hjl
   rw [hqc] at hy
   exact (hr i x q hx hq).cells.2 j c y hj hy
 ·cases h
theorem opMakeSlice_sound (hE:EnvOK P E) (hs:SR w Im ρ o) {T:TypeId} {l c:AV} {xl xc:Value} (hl:RA w Im ρ o l xl) (hc:RA w Im ρ o c xc) (h:opMakeSlice E T l c o K = some r):Did P w Im ρ o K r (Instr.makeSlice T xl xc):=by
 unfold opMakeSlice at h
 split at h
 ·rename_i e sh by_ hT
  obtain ⟨zs,hz,h1⟩:=bind_some h
  obtain ⟨n,hn,h2⟩:=bind_some h1
  obtain ⟨m,hm,h3⟩:=bind_some h2
  obtain ⟨hcnd,h4⟩:=bif_some h3
  simp only [Bool.and_eq_true,beq_iff_eq,decide_eq_true_eq] at hcnd
  obtain ⟨⟨⟨rfl,h0⟩,hby⟩,hlim⟩:=hcnd
  obtain ⟨kl,rfl⟩:=hl.int hn
  obtain ⟨kc,rfl⟩:=hc.int hm
  obtain ⟨hu,⟨inf,z,hi,hsz,hbe,hiz,hzs⟩,hsh,_⟩:=hE.sl T e sh by_ hT
  obtain ⟨i2,z2,sh2,hi2,hz2,hl2,hsh2,hl3,hone,hrp⟩:=hE.zr e zs hz
  rw [hi] at hi2
  injection hi2 with hi2
  subst hi2
  rw [hiz] at hz2
  injection hz2 with hz2
  subst hz2
  rw [hsh] at hsh2
  injection hsh2 with hsh2
  subst hsh2
  obtain ⟨x,hx⟩:∃ x,x = zeroEl sh zs:=⟨_,rfl⟩
  simp only [<- hx] at h4
  obtain ⟨hxs,hk⟩:=bif_some h4
  have hp:=csz_pos sh
  have hxc:x.cells = zs:=by
   cases sh with
   | zero =>
    have hlz:zs.length = 1:=hl3
    match zs,hlz with
    | [a],_ =>
     simp [zeroEl] at hx
     subst hx
     exact PV.cells_of_one (hone _ (by simp))
   | succ k=>subst hx;rfl
  obtain ⟨N,rfl⟩:∃ N:Nat,n = N:=⟨n.toNat,by omega⟩
  simp only [Int.toNat_natCast] at hk hby hlim
  have hbytes:inf.bytes * N<=281474976710656:=by rw [hbe,Nat.mul_comm];simp only [LIM] at hby;omega
  obtain ⟨w',hrun,hown,hgr⟩:=run_make_full (P:=P) w 0 T e inf z (csz sh) hu hi hiz hsz kl kc N hbytes (by simp only [LIM] at hlim;simp only [maxLen];omega) (Nat.zero_le _)
  have hget:∀ (i j:Nat) (u:Value),i < N->j < csz sh->(madeCells z.cells (N * csz sh)).toList[i * csz sh + j]? = some u->z.cells[j]? = some u:=by
   intro i j u hiN hjl hu
   have hfl:=get_flat hiN hjl
   have h2:(i * csz sh + j) % csz sh = j:=by rw [Nat.mul_comm,Nat.mul_add_mod,Nat.mod_eq_of_lt hjl]
   have hzj:j < z.cells.size:=by omega
   have:u = z.cells[j]:=by
    rw [Array.getElem?_toList] at hu
    simp [madeCells,hfl,hzs,h2,hzj] at hu
    rw [<- hu,getElem!_pos z.cells j hzj]
   subst this
   simp [hzj]
  have hcr:∀ (i:Nat) (y:PV) (j:Nat) (c:PV) (u:Value),(List.replicate N x)[i]? = some y->y.cells[j]? = some c->(madeCells z.cells (N * csz sh)).toList[i * csz sh + j]? = some u->RP w Im c u:=by
   intro i y j c u hy hj hu
   have hiN:i < N:=by simpa using (List.getElem?_eq_some_iff.1 hy).1
   obtain rfl:y = x:=by
    have:=(List.getElem?_eq_some_iff.1 hy).2
    simpa using this.symm
   rw [hxc] at hj
   have hjl:j < csz sh:=by rw [<- hl3];exact (List.getElem?_eq_some_iff.1 hj).1
   exact hrp j c u hj (hget i j u hiN hjl hu) w Im
  have hk':K (.s (.c (.loc o.length 0 sh 0 (List.replicate N x).length))) (o ++ [.arr (newEt E T e zs) sh 0 false (List.replicate N x)]) = some r:=by simpa using hk
  obtain ⟨et,het⟩:∃ et,et = newEt E T e zs:=⟨_,rfl⟩
  rw [<- het] at hk'
  have hcase:et = (e:Et) ∨ ∃ k,et = ⟨e,some k⟩ /\ k.hole = none /\ zs[k.j]? = some (.row k.sh 2 []):=by
   unfold newEt at het
   split at het
   ·exact .inl het
   ·rename_i k _
    split at het
    ·rename_i s f hz
     cases hcf:(f == 2 && s == k.sh) <;> rw [hcf] at het
     ·exact .inl het
     ·simp only [Bool.and_eq_true,beq_iff_eq] at hcf
      obtain ⟨rfl,rfl⟩:=hcf
      exact .inr ⟨_,het,rfl,hz⟩
    ·exact .inl het
  rcases hcase with he | ⟨k,he,hhole,hzk⟩
  ·subst he
   exact newArr_sound (e:=e) (sh:=sh) (xs:=List.replicate N x) (vals:=(madeCells z.cells (N * csz sh)).toList) hs ⟨hgr.os,hgr.tape,hgr.output,hgr.size⟩ (fun b hb=>hgr.block b hb (by simp)) (World.ownsAt_of (by simpa using hown)) (fun b hb=>by simp at hb;omega) (fun y hy=>by rw [List.eq_of_mem_replicate hy];exact hxs) hcr hrun hk'
  ·subst he
   have hjl:k.j < csz sh:=by rw [<- hl3];exact (List.getElem?_eq_some_iff.1 hzk).1
   have hown':w'.ownsAt 0 e (csz sh) (.slice (some ⟨w.heap.size,0,none⟩) N N) (List.replicate N x).length (madeCells z.cells (N * csz sh)).toList:=World.ownsAt_of (by simpa using hown)
   have hlt:=ownsRow_lt hown'
   have hnils:∀ (i:Nat) (u:Value),(List.replicate N (Value.slice none 0 0))[i]? = some u->u = .slice none 0 0:=by
    intro i u hu
    have:=(List.getElem?_eq_some_iff.1 hu).2
    simpa using this.symm
   refine newArr_gen (e:=⟨e,some k⟩) (V:=.tuple (Value.slice (some ⟨w.heap.size,0,none⟩) N N :: List.replicate N (.slice none 0 0)).toArray) hs ⟨hgr.os,hgr.tape,hgr.output,hgr.size⟩ (fun b hb=>hgr.block b hb (by simp)) rfl hown' ?_ (fun y hy=>by rw [List.eq_of_mem_replicate hy];exact hxs) ?_ ?_ hrun hk'
   ·rintro b ⟨i,u,hu,hb⟩
    cases i with
    | zero =>
     simp at hu
     subst hu
     exact ⟨by simp at hb;omega,hlt b hb⟩
    | succ i =>
     rw [hnils i u (by simpa using hu)] at hb
     exact hb.elim
   ·intro i y j c u hy hj hu
    exact fun _=>hcr i y j c u hy hj hu
   ·refine ⟨rfl,_,rfl,⟨by simp,hjl,fun i y hy _=>?_,fun i u _ hu=>hnils i u hu,fun i i' u u' b hu _ hb=>?_,?_⟩,fun i u b hu hb=>?_⟩
    ·have hiN:i < N:=by simpa using (List.getElem?_eq_some_iff.1 hy).1
     obtain rfl:y = x:=by
      have:=(List.getElem?_eq_some_iff.1 hy).2
      simpa using this.symm
     have hfl:=get_flat hiN hjl
     have hlen:(madeCells z.cells (N * csz sh)).toList.length = N * csz sh:=by rw [hown'.1];simp
     have hu:(madeCells z.cells (N * csz sh)).toList[i * csz sh + k.j]? = some (madeCells z.cells (N * csz sh)).toList[i * csz sh + k.j]:=List.getElem?_eq_getElem (by omega)
     have hnil:(madeCells z.cells (N * csz sh)).toList[i * csz sh + k.j] = .slice none 0 0:=by
      have key:∀ u,RP w Im (.row k.sh 2 []) u->u = .slice none 0 0:=by
       intro u h
       cases h with
       | nil=>rfl
       | row _ _ _ a cap g hf2=>exact absurd rfl hf2
      exact key _ (hrp k.j _ _ hzk (hget i k.j _ hiN hjl hu) w Im)
     rw [hnil] at hu
     exact ⟨2,[],.slice none 0 0,by rw [hxc];exact hzk,.inr ⟨rfl,rfl⟩,by simp [hiN],hu,[],World.ownsAt_nil w' 0 k.e (csz k.sh),by simp,by simp⟩
    ·rw [hnils i u hu] at hb
     exact hb.elim
    ·intro p u hu
     have hp':p < N * csz sh:=by have:=(List.getElem?_eq_some_iff.1 hu).1;rw [hown'.1] at this;simpa using this
     have h2:p % csz sh < csz sh:=Nat.mod_lt _ hp
     have hi:p / csz sh < N:=(Nat.div_lt_iff_lt_mul hp).2 hp'
     have e1:p = p / csz sh * csz sh + p % csz sh:=by rw [Nat.mul_comm,Nat.div_add_mod]
     rw [e1] at hu
     have h3:=hget _ _ u hi h2 hu
     have h4:zs[p % csz sh]? = some zs[p % csz sh]!:=by
      have:p % csz sh < zs.length:=by rw [hl3];exact h2
      simp [this]
     exact ((hrp _ _ u h4 h3 w Im).one (hone _ (List.mem_of_getElem? h4))).1
    ·rw [hnils i u hu] at hb
     exact hb.elim
 ·cases h
theorem run_append_none {T e:TypeId} (hu:P.underlying T = some (.slice e)) {inf:TypeInfo} (hi:P.info? e = some inf) {ty:TypeId} (a b:Option Addr) (n c c':Nat) (hn:n<=c) (w:World) :
  (Builtin.append_ #[T,T] ty #[.slice a n c,.slice b 0 c']).run P w = .ok (.slice a n c) w:=by
 cases a <;> cases b <;> simp [Builtin.append_,run_underlying hu,sizeOf,typeInfo,hi,Builtin.lenOf,Builtin.firstCells,loadCells,loadCellsFrom,storeCells,hn]
def News (w:World) (Im:Nat->Prop) (sh:Nat) (ys:List PV) (y:Value):Prop :=
 (ys = [] /\ ∃ b c,y = .slice b 0 c) ∨ ∃ (a:Addr) (c:Nat) (news:List Value),y = .slice (some a) ys.length c /\ news.length = ys.length * csz sh /\ (∀ (j:Nat) (u:Value),news[j]? = some u->w.cell? (a.add j) = some u) /\ (∀ u ∈ news,u.oneCell' = true) /\ (∀ x ∈ ys,x.shp sh = true) /\
  ∀ (i:Nat) (x:PV) (j:Nat) (c:PV) (u:Value),ys[i]? = some x->x.cells[j]? = some c->news[i * csz sh + j]? = some u->RP w Im c u
theorem News.of_row {Im2:Nat->Prop} {sh f:Nat} {xs:List PV} {y:Value} (h:RP w Im2 (.row sh f xs) y) (hi:∀ (i:Nat) (x:PV) (j:Nat) (c:PV) (u:Value),xs[i]? = some x->x.cells[j]? = some c->RP w Im2 c u->RP w Im c u):News w Im sh xs y:=by
 cases h with
 | nil=>exact .inl ⟨rfl,_,_,rfl⟩
 | row _ _ _ a cap g hf hsp hcap hm h1 him hshp hcell hrp =>
  obtain ⟨b,off,sp⟩:=a
  simp only at hsp hcell
  subst hsp
  have hp:=csz_pos sh
  have pos:∀ k,k < xs.length * csz sh->∃ (i:Nat) (x:PV) (j:Nat) (c:PV),xs[i]? = some x /\ x.cells[j]? = some c /\ k = i * csz sh + j:=by
   intro k hk
   have hi:k / csz sh < xs.length:=(Nat.div_lt_iff_lt_mul hp).2 hk
   have hj:k % csz sh < (xs[k / csz sh]).cells.length:=by rw [PV.shp_len (hshp (k / csz sh) _ (by simp [hi]))];exact Nat.mod_lt _ hp
   exact ⟨_,xs[k / csz sh],_,(xs[k / csz sh]).cells[k % csz sh],List.getElem?_eq_getElem hi,List.getElem?_eq_getElem hj,by rw [Nat.mul_comm,Nat.div_add_mod]⟩
  have nget:∀ (k:Nat) (u:Value),((List.range (xs.length * csz sh)).map g)[k]? = some u->k < xs.length * csz sh /\ u = g k:=by
   intro k u hu
   simp only [List.getElem?_map] at hu
   rcases Nat.lt_or_ge k (xs.length * csz sh) with hk | hk
   ·rw [List.getElem?_range hk] at hu
    simp at hu
    exact ⟨hk,hu.symm⟩
   ·rw [List.getElem?_eq_none (by simpa using hk)] at hu
    simp at hu
  refine .inr ⟨_,cap,(List.range (xs.length * csz sh)).map g,rfl,by simp,?_,?_,fun x hx=>?_,?_⟩
  ·intro k u hu
   obtain ⟨hk,rfl⟩:=nget k u hu
   obtain ⟨i,x,j,c,hx,hj,rfl⟩:=pos k hk
   rw [add_at]
   exact hcell i x j c hx hj
  ·intro u hu
   obtain ⟨k,hk,rfl⟩:=List.mem_map.1 hu
   obtain ⟨i,x,j,c,hx,hj,rfl⟩:=pos k (by simpa using hk)
   exact ((hrp i x j c hx hj).one (PV.shp_one (hshp i x hx) j c hj)).1
  ·obtain ⟨i,hi,rfl⟩:=List.getElem_of_mem hx
   exact hshp i _ (by simp [hi])
  ·intro i x j c u hx hj hu
   obtain ⟨hk,rfl⟩:=nget _ u hu
   exact hi i x j c _ hx hj (hrp i x j c hx hj)
theorem viewC_news (hs:SR w Im ρ o) {b:CV} {y:Value} {v:PV} {sh:Nat} {ys:List PV} (hb:RC w Im ρ o b y) (hv:viewC o b = some v) (hn:newsOf sh v = some ys):News w Im sh ys y:=by
 unfold newsOf at hn
 obtain ⟨⟨sh',f,zs⟩,hq,hn⟩:=bind_some hn
 obtain rfl:=row_some hq
 ·simp only at hn hv
  obtain ⟨hc,hn⟩:=bif_some hn
  injection hn with hn
  subst hn
  have fin:News w Im sh' zs y->News w Im sh zs y:=by
   intro h
   by_cases e:sh = sh'
   ·subst e;exact h
   ·have:zs = []:=by simpa [e] using hc
    subst this
    rcases h with ⟨_,h⟩ | ⟨a,c,news,rfl,_⟩
    ·exact .inl ⟨rfl,h⟩
    ·exact .inl ⟨rfl,_,_,rfl⟩
  apply fin
  cases b with
  | p u =>
   simp [viewC] at hv
   subst hv
   exact News.of_row hb (fun i x j c u _ _ h=>h)
  | loc id ver sh2 lo len =>
   simp only [viewC,viewLoc] at hv
   split at hv
   ·rename_i e sh3 ver' fz xs ho
    obtain ⟨hcnd,hv'⟩:=bif_some hv
    simp only [Bool.and_eq_true,beq_iff_eq,Option.isNone_iff_eq_none] at hcnd
    obtain ⟨⟨rfl,rfl⟩,hkd⟩:=hcnd
    injection hv' with hv'
    injection hv' with e1 e2 e3
    subst e1
    subst e3
    simp only [RC,ho] at hb
    obtain ⟨hle,u,hρ,hsl⟩:=hb.2 trivial trivial
    obtain ⟨vals,hown,hshp,hrp,_⟩:=hs.ob id _ _ ho hρ
    simp only [RPk,hkd] at hrp
    have hp:=csz_pos sh2
    have hlen:((xs.drop lo).take len).length = len:=by simp;omega
    have get:∀ i x,((xs.drop lo).take len)[i]? = some x->i < len /\ xs[lo + i]? = some x:=by
     intro i x hx
     have h1:i < len:=by have:=(List.getElem?_eq_some_iff.1 hx).1;rwa [hlen] at this
     rw [List.getElem?_take_of_lt h1,List.getElem?_drop] at hx
     exact ⟨h1,hx⟩
    have hmul:lo * csz sh2 + len * csz sh2<=vals.length:=by rw [hown.1,<- Nat.add_mul];exact Nat.mul_le_mul_right _ hle
    have nlen:((vals.drop (lo * csz sh2)).take (len * csz sh2)).length = len * csz sh2:=by simp;omega
    have nget:∀ (k:Nat) (u:Value),((vals.drop (lo * csz sh2)).take (len * csz sh2))[k]? = some u->k < len * csz sh2 /\ vals[lo * csz sh2 + k]? = some u:=by
     intro k u hu
     have h1:k < len * csz sh2:=by have:=(List.getElem?_eq_some_iff.1 hu).1;rwa [nlen] at this
     rw [List.getElem?_take_of_lt h1,List.getElem?_drop] at hu
     exact ⟨h1,hu⟩
    rcases hown.2 with ⟨hm,hx0⟩ | ⟨g,bo,cap,cu,hm,_,hh,hnc,hcm,hcs,htk⟩ <;> rw [hm] at hsl
    ·obtain ⟨rfl,rfl,rfl⟩:=hsl
     exact .inl ⟨by simp,none,0,rfl⟩
    ·obtain ⟨off,rfl,hlc,hoff⟩:=hsl
     refine .inr ⟨⟨g,off,none⟩,cap - lo,(vals.drop (lo * csz sh2)).take (len * csz sh2),by rw [hlen],by rw [nlen,hlen],?_,?_,fun x hx=>hshp x (List.mem_of_mem_drop (List.mem_of_mem_take hx)),?_⟩
     ·intro k u hu
      obtain ⟨hk,hu⟩:=nget k u hu
      have hl0:0 < len:=Nat.pos_of_ne_zero fun h=>by subst h;simp at hk
      have:=hown.cells (g:=g) (bo:=bo) hm _ u hu
      rw [add_at,<- Nat.add_assoc] at this
      rw [add_at,hoff (.inr (by omega))]
      exact this
     ·intro u hu
      obtain ⟨k,hk⟩:=List.getElem?_of_mem hu
      obtain ⟨hk,hu⟩:=nget k u hk
      have hi:k / csz sh2 < len:=(Nat.div_lt_iff_lt_mul hp).2 hk
      have hix:lo + k / csz sh2 < xs.length:=by omega
      have hxs:=hshp _ (List.getElem_mem hix)
      have hj:k % csz sh2 < (xs[lo + k / csz sh2]).cells.length:=by rw [PV.shp_len hxs];exact Nat.mod_lt _ hp
      have e1:lo * csz sh2 + k = (lo + k / csz sh2) * csz sh2 + k % csz sh2:=by
       have:=Nat.div_add_mod k (csz sh2)
       rw [Nat.mul_comm] at this
       rw [Nat.add_mul]
       omega
      rw [e1] at hu
      have hjg:(xs[lo + k / csz sh2]).cells[k % csz sh2]? = some (xs[lo + k / csz sh2]).cells[k % csz sh2]:=List.getElem?_eq_getElem hj
      exact ((hrp _ _ _ _ u (List.getElem?_eq_getElem hix) hjg hu).one (PV.shp_one hxs _ _ hjg)).1
     ·intro i x j c u hx hj hu
      obtain ⟨hi,hx⟩:=get i x hx
      obtain ⟨hk,hu⟩:=nget _ u hu
      exact hrp (lo + i) x j c u hx hj (by rw [Nat.add_mul,Nat.add_assoc];exact hu)
   ·cases hv
  | _=>simp [viewC] at hv
theorem own_cut {e s n lo len:Nat} {v x:Value} {vals:List Value} (h:w.ownsAt 0 e s v n vals) (hx:RSl v s lo len x) (hl:lo + len<=n):w.ownsAt 0 e s x len ((vals.drop (lo * s)).take (len * s)) /\ ∀ b,Blk x b ↔ kidBlk v b:=by
 have hm:(lo + len) * s<=n * s:=Nat.mul_le_mul_right _ hl
 rw [Nat.add_mul] at hm
 rcases h.2 with ⟨rfl,rfl⟩ | ⟨g,bo,cap,cur,rfl,_,hh,hnc,hcm,hcs,htk⟩
 ·obtain ⟨_,rfl,rfl⟩:=hx
  exact ⟨⟨by simp,.inl ⟨rfl,rfl⟩⟩,fun _=>Iff.rfl⟩
 ·obtain ⟨off,rfl,hlc,hoff⟩:=hx
  refine ⟨⟨by rw [List.length_take,List.length_drop,h.1];omega,.inr ⟨g,off,cap - lo,cur,rfl,Nat.zero_le _,hh,by omega,by omega,fun hc=>?_,?_⟩⟩,fun _=>Iff.rfl⟩
  ·have h1:=hcs (by omega)
   rw [hoff (.inr hc),h1]
   have:(lo + (cap - lo)) * s = cap * s:=by congr 1;omega
   rw [Nat.add_mul] at this
   omega
  ·rcases Nat.eq_zero_or_pos len with h0 | h0
   ·subst h0;simp
   ·rw [hoff (.inr (by omega)),<- htk,List.drop_take,List.take_take,List.drop_drop,Nat.min_eq_left (by omega)]
theorem own_take {e s n len:Nat} {v x:Value} {vals:List Value} (h:w.ownsAt 0 e s v n vals) (hx:RSl v s 0 len x) (hl:len<=n):w.ownsAt 0 e s x len (vals.take (len * s)) /\ ∀ b,Blk x b ↔ kidBlk v b:=by
 have:=own_cut h hx (by omega)
 rwa [Nat.zero_mul,List.drop_zero] at this
theorem get_app {s n:Nat} {vals news:List Value} {xs ys:List PV} (hv:vals.length = xs.length * s) (hsx:∀ x ∈ xs,x.cells.length = s) (hsy:∀ y ∈ ys,y.cells.length = s)
  (hr:∀ (i:Nat) (x:PV) (j:Nat) (c:PV) (u:Value),xs[i]? = some x->x.cells[j]? = some c->vals[i * s + j]? = some u->RP w Im c u)
  (hn:∀ (i:Nat) (x:PV) (j:Nat) (c:PV) (u:Value),ys[i]? = some x->x.cells[j]? = some c->news[i * s + j]? = some u->RP w Im c u) :
  ∀ (i:Nat) (x:PV) (j:Nat) (c:PV) (u:Value),(xs ++ ys)[i]? = some x->x.cells[j]? = some c->(vals ++ news)[i * s + j]? = some u->RP w Im c u:=by
 intro i x j c u hx hj hu
 rcases Nat.lt_or_ge i xs.length with hi | hi
 ·rw [List.getElem?_append_left hi] at hx
  have hjl:j < s:=by rw [<- hsx x (List.mem_of_getElem? hx)];exact (List.getElem?_eq_some_iff.1 hj).1
  rw [List.getElem?_append_left (by rw [hv];exact get_flat hi hjl)] at hu
  exact hr i x j c u hx hj hu
 ·rw [List.getElem?_append_right hi] at hx
  have h1:xs.length * s<=i * s:=Nat.mul_le_mul_right _ hi
  rw [List.getElem?_append_right (by omega)] at hu
  refine hn (i - xs.length) x j c u hx hj ?_
  rw [Nat.sub_mul,<- hv]
  rwa [show i * s - vals.length + j = i * s + j - vals.length by omega]
theorem appendNel_sound (hE:EnvOK P E) (hs:SR w Im ρ o) {T ty:TypeId} {e sh by_ id ver nv i:Nat} {x y:Value} {ys:List PV} (hT:E.sl T = some (e,sh,by_)) (ha:RC w Im ρ o (.nel id ver nv i) x) (hnews:News w Im sh ys y) (h:appendNel e sh by_ id ver nv i ys o K = some r) :
  Did P w Im ρ o K r (Builtin.append_ #[T,T] ty #[x,y]):=by
 unfold appendNel at h
 split at h
 ·rename_i e' sh' ver' xs ho
  split at h
  ·rename_i k hk
   obtain ⟨hcnd,h9⟩:=bif_some h
   clear h
   simp only [Bool.and_eq_true,beq_iff_eq,Option.isNone_iff_eq_none] at hcnd
   obtain ⟨⟨⟨⟨rfl,rfl⟩,hhole⟩,rfl⟩,rfl⟩:=hcnd
   obtain ⟨x0,hx0,h8⟩:=bind_some h9
   clear h9
   obtain ⟨zs,hzs0,h7⟩:=bind_some h8
   clear h8
   obtain ⟨hlim0,hkk⟩:=bif_some h7
   clear h7
   simp only [Bool.and_eq_true,decide_eq_true_eq] at hlim0
   obtain ⟨hlb,hll⟩:=hlim0
   simp only [RC,ho] at ha
   obtain ⟨_,ha2⟩:=ha.2 trivial k hk
   obtain ⟨hix,m,ks,hρ,hksx⟩:=ha2 rfl hhole
   obtain ⟨vals,hown,hshp,hrp,hbk,hkids⟩:=hs.ob id _ _ ho hρ
   have hkids':=hkids
   simp only [RKids,hk] at hkids
   obtain ⟨_,ks',hv,hks,hdis⟩:=hkids
   have hmm:mainV (.tuple (m :: ks).toArray) = m:=rfl
   rw [hmm] at hv hdis hown
   have:ks = ks':=by injection hv with hv;simpa using hv
   subst this
   obtain ⟨f,zs',u,b1,_,b3,b4,kvals,kown,kshp,krp⟩:=hks.kid i x0 hx0 (by rw [hhole];simp)
   obtain rfl:x = u:=by rw [hksx] at b3;injection b3
   obtain rfl:zs' = zs:=by
    simp only [PV.atRow,PV.cell,b1,Option.bind_some,PV.asRow] at hzs0
    obtain ⟨_,h⟩:=bif_some hzs0
    injection h
   obtain ⟨hu,⟨inf,z,hi,hsz,hby,hiz,hzs⟩,_⟩:=hE.sl T _ _ by_ hT
   have hp:=csz_pos k.sh
   have hlim:zs'.length + ys.length<=maxLen:=by simp only [maxLen];simp only [LIM] at hll;omega
   have main:∃ (v':Value) (w':World) (news:List Value),(Builtin.append_ #[T,T] ty #[x,y]).run P w = .ok v' w' /\ w'.ownsAt 0 k.e (csz k.sh) v' (zs'.length + ys.length) (kvals ++ news) /\ w.grownBy w' x.ownBlock /\
      (v'.ownBlock = x.ownBlock ∨ v'.ownBlock = some w.heap.size) /\ (∀ x ∈ ys,x.shp k.sh = true) /\ ∀ (i:Nat) (x:PV) (j:Nat) (c:PV) (u:Value),ys[i]? = some x->x.cells[j]? = some c->news[i * csz k.sh + j]? = some u->RP w Im c u:=by
    rcases hnews with ⟨rfl,b0,c0,rfl⟩ | ⟨ad,c,news,rfl,hnl,hnc,hn1,hnsh,hnr⟩
    ·refine ⟨x,w,[],?_,by simpa using kown,⟨rfl,rfl,rfl,Nat.le_refl _,fun _ _ _=>rfl⟩,.inl rfl,by simp,by simp⟩
     rcases kown.2 with ⟨rfl,hn⟩ | ⟨g,bo,cap,cur,rfl,_,_,hnc,_⟩
     ·exact run_append_none hu hi none b0 0 0 c0 (Nat.le_refl _) w
     ·exact run_append_none hu hi _ b0 _ cap c0 hnc w
    ·obtain ⟨v',w',hrun,hown',hgr,_,hat⟩:=run_append_at (P:=P) w T ty k.e inf z (csz k.sh) by_ hu hi hiz hsz hby hzs hp x zs'.length _ kown ad ys.length c news hnl hnc hn1 hlim (by simpa [LIM] using hlb)
     exact ⟨v',w',news,hrun,hown',hgr,hat,hnsh,hnr⟩
   obtain ⟨v',w',news,hrun,hown',hgr,hat,hnsh,hnr⟩:=main
   have hV:Value.tuple (m :: ks).toArray = .tuple (m :: ks).toArray:=rfl
   have hxb:∀ b,x.ownBlock = some b->kidBlk x b:=by
    intro b hb
    rcases kown.2 with ⟨rfl,_⟩ | ⟨g,bo,cap,cur,rfl,_⟩
    ·cases hb
    ·simp [Value.ownBlock] at hb;subst hb;rfl
   have hxB:∀ b,x.ownBlock = some b->Blk (.tuple (m :: ks).toArray) b:=fun b hb=>kids_Blk hV b3 (hxb b hb)
   have hvb:∀ b,Blk v' b->v'.ownBlock = some b:=by
    intro b hb
    rcases hown'.2 with ⟨rfl,_⟩ | ⟨g,bo,cap,cur,rfl,_⟩
    ·exact hb.elim
    ·simp at hb;subst hb;rfl
   have hvc:∀ b,Blk v' b->x.ownBlock = some b ∨ b = w.heap.size:=by
    intro b hb
    have h1:=hvb b hb
    rcases hat with h2 | h2
    ·exact .inl (h2 ▸ h1)
    ·rw [h2] at h1;injection h1 with h1;exact .inr h1.symm
   have hlt:=(hs.lt id _ hρ).1
   have hltb:=(hs.lt id _ hρ).2
   obtain ⟨V,hVd⟩:∃ V,V = Value.tuple (m :: ks.set i (.slice none 0 0)).toArray:=⟨_,rfl⟩
   have hVm:mainV V = m:=by rw [hVd];rfl
   have hVb:∀ b,Blk V b->Blk (.tuple (m :: ks).toArray) b /\ x.ownBlock ≠ some b:=by
    intro b hb
    rw [hVd] at hb
    obtain ⟨q,u,hq,hub⟩:=hb
    cases q with
    | zero =>
     simp at hq
     subst hq
     exact ⟨⟨0,m,by simp,hub⟩,fun h=>hdis i x b b3 (hxb b h) hub⟩
    | succ q =>
     replace hq:(ks.set i (Value.slice none 0 0))[q]? = some u:=by simpa using hq
     by_cases e1:q = i
     ·subst e1
      rw [List.getElem?_set_self (by rw [hks.len];exact hix)] at hq
      injection hq with hq
      subst hq
      exact hub.elim
     ·rw [List.getElem?_set_ne (Ne.symm e1)] at hq
      exact ⟨kids_Blk hV hq hub,fun h=>e1 (hks.inj q i u x b hq b3 hub (hxb b h))⟩
   have hunch:∀ b,b < w.heap.size->x.ownBlock ≠ some b->w'.heap[b]? = w.heap[b]?:=fun b hb hne=>hgr.block b hb fun h=>hne h.symm
   have him:∀ b,Im b->Im b /\ w'.heap[b]? = w.heap[b]?:=fun b hb=>⟨hb,hunch b (hs.im b hb) fun h=>(hbk b (hxB b h)).1 rfl hb⟩
   obtain ⟨X,hX⟩:∃ X,X = AObj.arr ⟨e'.t,some { k with nv:=k.nv + 1,hole:=some i }⟩ sh' ver false xs:=⟨_,rfl⟩
   obtain ⟨A,hA⟩:∃ A,A = AObj.arr k.e k.sh 0 false (zs' ++ ys):=⟨_,rfl⟩
   rw [<- hX,<- hA] at hkk
   have hoid:(o.set id X ++ [A])[id]? = some X:=by rw [List.getElem?_append_left (by simpa using hlt),List.getElem?_set_self hlt]
   have holen:(o.set id X ++ [A])[o.length]? = some A:=by rw [List.getElem?_append_right (by simp)];simp
   obtain ⟨R,hR⟩:∃ R,R = upd (upd ρ id (some V)) o.length (some v'):=⟨_,rfl⟩
   have hRid:R id = some V:=by rw [hR,upd_ne (by omega),upd_same]
   have hRlen:R o.length = some v':=by rw [hR,upd_same]
   have hRne:∀ q,q ≠ id->q ≠ o.length->R q = ρ q:=fun q h1 h2=>by rw [hR,upd_ne h2,upd_ne h1]
   have hnone:ρ o.length = none:=by
    cases h:ρ o.length with
    | none=>rfl
    | some u=>have:=(hs.lt _ u h).1;omega
   have hc:Compat ρ R o (o.set id X ++ [A]):=by
    intro q a hq
    have hql:=(List.getElem?_eq_some_iff.1 hq).1
    by_cases e1:q = id
    ·subst e1
     rw [ho] at hq
     injection hq with hq
     subst hq
     refine ⟨X,hoid,?_⟩
     rw [hRid,hρ,hX]
     refine Or.inr ⟨rfl,rfl,Nat.le_refl _,?_,?_⟩
     ·simp [hVm,hmm]
     ·rw [hk];exact .inl (Nat.lt_succ_self _)
    ·refine ⟨a,by rw [List.getElem?_append_left (by simpa using hql),List.getElem?_set_ne (Ne.symm e1)];exact hq,?_⟩
     rw [hRne q e1 (by omega)]
     cases a <;> simp [CompatO]
   have hst:=Step.multi (w':=w') (ρ':=R) (o':=o.set id X ++ [A]) hs ⟨hgr.os,hgr.tape,hgr.output,hgr.size⟩ (fun q=>q = id ∨ q = o.length) (by simp) ?_ ?_ hc ?_ ?_ ?_ ?_ ?_ ?_ ?_ ?_ ?_
   ·refine ⟨_,_,v',w',Im,_,hkk,hrun,hst,?_⟩
    simp only [RA,RS,RC,holen]
    rw [hA]
    exact ⟨Nat.le_refl _,fun _ _=>⟨by simp,v',hRlen,by rw [(ownsRow_mainV hown').1];exact ownsRow_self hown'⟩⟩
   ·intro q hq hql
    simp only [not_or] at hq
    exact ⟨by rw [List.getElem?_append_left (by simpa using hql),List.getElem?_set_ne (Ne.symm hq.1)],hRne q hq.1 hq.2⟩
   ·intro q hql hq
    simp only [not_or] at hq
    refine ⟨List.getElem?_eq_none (by simp;omega),?_⟩
    rw [hRne q hq.1 hq.2]
    cases h:ρ q with
    | none=>rfl
    | some u=>have:=(hs.lt q u h).1;omega
   ·intro b hb hno
    exact hunch b hb fun h=>hno id _ (.inl rfl) hρ (hxB b h)
   ·rintro q v b (rfl | rfl) hv hb
    ·rw [hρ] at hv
     injection hv with hv
     subst hv
     exact (hbk b hb).1 rfl
    ·rw [hnone] at hv;cases hv
   ·rintro q v b (rfl | rfl) hv hb
    ·rw [hRid] at hv
     injection hv with hv
     subst hv
     exact .inl ⟨q,_,.inl rfl,hρ,(hVb b hb).1⟩
    ·rw [hRlen] at hv
     injection hv with hv
     subst hv
     rcases hvc b hb with h1 | h1
     ·exact .inl ⟨id,_,.inl rfl,hρ,hxB b h1⟩
     ·exact .inr (by omega)
   ·rintro q v (rfl | rfl) hv
    ·rw [hRid] at hv
     injection hv with hv
     subst hv
     exact ⟨by simp;omega,fun b hb=>Nat.lt_of_lt_of_le (hltb b (hVb b hb).1) hgr.size⟩
    ·rw [hRlen] at hv
     injection hv with hv
     subst hv
     exact ⟨by simp,fun b hb=>ownsRow_lt hown' b hb⟩
   ·have cross:∀ b,Blk V b->Blk v' b->False:=by
     intro b h1 h2
     rcases hvc b h2 with h3 | h3
     ·exact (hVb b h1).2 h3
     ·have:=hltb b (hVb b h1).1;omega
    rintro q q' v v1 b (rfl | rfl) (rfl | rfl) h1 h2 h3 h4
    ·rfl
    ·rw [hRid] at h1;rw [hRlen] at h2
     injection h1 with h1;injection h2 with h2
     subst h1;subst h2
     exact (cross b h3 h4).elim
    ·rw [hRid] at h2;rw [hRlen] at h1
     injection h1 with h1;injection h2 with h2
     subst h1;subst h2
     exact (cross b h4 h3).elim
    ·rfl
   ·rintro q a v (rfl | rfl) ha hv
    ·rw [hoid] at ha
     rw [hRid] at hv
     injection ha with ha
     injection hv with hv
     subst ha
     subst hv
     rw [hX]
     refine ⟨vals,?_,hshp,fun p x j c y h1 h2 h3=>?_,fun b hb=>⟨fun _=>(hbk b (hVb b hb).1).1 rfl,fun h=>nomatch h⟩,rfl,ks.set i (.slice none 0 0),?_,⟨by simpa using hks.len,hks.jlt,?_,?_,?_,hks.one⟩,?_⟩
     ·rw [hVm]
      exact ownsRow_main (fun b hb=>hunch b (hltb b ⟨0,m,by simp,hb⟩) fun h=>hdis i x b b3 (hxb b h) hb) hown
     ·have h4:=hrp p x j c y h1 h2 h3
      unfold RPk at h4 ⊢
      rw [hk] at h4
      exact fun hj=>RP.mono him (h4 hj)
     ·rw [hVm,hVd]
     ·intro p x1 hx1 hne
      have hpi:p ≠ i:=fun h=>hne (by rw [h])
      obtain ⟨f2,ys2,u2,c1,c2,c3,c4,c5⟩:=hks.kid p x1 hx1 (by rw [hhole];simp)
      refine ⟨f2,ys2,u2,c1,c2,by rw [List.getElem?_set_ne (Ne.symm hpi)];exact c3,c4,c5.keep him fun b hb=>hunch b (hltb b (kids_Blk hV c3 hb)) fun h=>hpi (hks.inj p i u2 x b c3 b3 hb (hxb b h))⟩
     ·intro p u2 hp2 hu2
      injection hp2 with hp2
      subst hp2
      rw [List.getElem?_set_self (by rw [hks.len];exact hix)] at hu2
      injection hu2 with hu2
      exact hu2.symm
     ·have old:∀ (p:Nat) (u2:Value) (b:Nat),(ks.set i (Value.slice none 0 0))[p]? = some u2->kidBlk u2 b->ks[p]? = some u2:=by
       intro p u2 b hp2 hb
       by_cases e1:p = i
       ·subst e1
        rw [List.getElem?_set_self (by rw [hks.len];exact hix)] at hp2
        injection hp2 with hp2
        subst hp2
        exact hb.elim
       ·rwa [List.getElem?_set_ne (Ne.symm e1)] at hp2
      intro p p' u2 u3 b h1 h2 h3 h4
      exact hks.inj p p' u2 u3 b (old p u2 b h1 h3) (old p' u3 b h2 h4) h3 h4
     ·intro p u2 b hp2 hb
      rw [hVm]
      by_cases e1:p = i
      ·subst e1
       rw [List.getElem?_set_self (by rw [hks.len];exact hix)] at hp2
       injection hp2 with hp2
       subst hp2
       exact hb.elim
      ·rw [List.getElem?_set_ne (Ne.symm e1)] at hp2
       exact hdis p u2 b hp2 hb
    ·rw [holen] at ha
     rw [hRlen] at hv
     injection ha with ha
     injection hv with hv
     subst ha
     subst hv
     rw [hA]
     refine ⟨kvals ++ news,by rw [(ownsRow_mainV hown').1,List.length_append];exact hown',?_,?_,fun b hb=>⟨fun _ hI=>?_,fun h=>nomatch h⟩,fun _=>(ownsRow_mainV hown').1⟩
     ·intro x hx
      rcases List.mem_append.1 hx with hx | hx
      ·exact kshp x hx
      ·exact hnsh x hx
     ·intro p x j c u hx hj hu
      exact RP.mono him (get_app (n:=0) kown.1 (fun x hx=>PV.shp_len (kshp x hx)) (fun y hy=>PV.shp_len (hnsh y hy)) krp hnr p x j c u hx hj hu)
     ·rcases hvc b hb with h1 | h1
      ·exact (hbk b (hxB b h1)).1 rfl hI
      ·have:=hs.im b hI;omega
   ·rintro q (rfl | rfl) hd
    ·rw [hoid,hX] at hd;cases hd
    ·rw [holen,hA] at hd;cases hd
   ·rintro q a (rfl | rfl) _ _
    ·exact ⟨_,hRid⟩
    ·exact ⟨_,hRlen⟩
   ·rintro q (rfl | rfl) hql h0
    ·rw [hρ] at h0;cases h0
    ·omega
  ·cases h
 ·cases h
theorem opAppend_sound (hE:EnvOK P E) (hs:SR w Im ρ o) {T ty:TypeId} {a b:AV} {x y:Value} (ha:RA w Im ρ o a x) (hb:RA w Im ρ o b y) (h:opAppend E T a b o K = some r):Did P w Im ρ o K r (Builtin.append_ #[T,T] ty #[x,y]):=by
 unfold opAppend at h
 split at h
 ·rename_i e sh by_ av bv hT hav hbv
  rw [cv_some hav] at ha
  rw [cv_some hbv] at hb
  obtain ⟨rv,hrv,h1⟩:=bind_some h
  clear h
  obtain ⟨ys,hys,h⟩:=bind_some h1
  clear h1
  have hnews:=viewC_news hs hb hrv hys
  obtain ⟨hu,⟨inf,z,hi,hsz,hby,hiz,hzs⟩,_⟩:=hE.sl T e sh by_ hT
  have hp:=csz_pos sh
  split at h
  ·exact appendNel_sound hE hs hT ha hnews h
  rename_i hnel
  unfold appendTo at h
  split at h
  ·rename_i v
   obtain ⟨⟨sh',f,xs⟩,hq,h⟩:=bind_some h
   obtain rfl:=row_some hq
   ·simp only at h ha
    have hx:RP w Im (.row sh' f xs) x:=ha
    cases hye:ys.isEmpty
    ·rw [hye] at h
     simp only [cond_false] at h
     obtain ⟨hcnd,hk⟩:=bif_some h
     simp only [Bool.and_eq_true,Bool.or_eq_true,beq_iff_eq,decide_eq_true_eq] at hcnd
     obtain ⟨⟨hf,hlb⟩,hll⟩:=hcnd
     have hyne:ys ≠ []:=fun h=>by simp [h] at hye
     rcases hnews with ⟨h0,_⟩ | ⟨ad,c,news,rfl,hnl,hnc,hn1,hnsh,hnr⟩
     ·exact absurd h0 hyne
     have hyp:0 < ys.length:=List.length_pos_iff.2 hyne
     have hsmall:ys.length<=maxLen:=by simp only [maxLen];simp only [LIM] at hll;omega
     cases hx with
     | nil =>
      obtain ⟨v',w',hrun,hown,hgr,_,hat⟩:=run_append_at (P:=P) w T ty e inf z (csz sh) by_ hu hi hiz hsz hby hzs hp (.slice none 0 0) 0 [] (World.ownsAt_nil w 0 e (csz sh)) ad ys.length c news hnl hnc hn1
       (by simpa using hsmall) (by simpa [LIM] using hlb)
      simp only [Nat.zero_add,List.nil_append] at hown
      refine newArr_sound (e:=e) (sh:=sh) (xs:=ys) (vals:=news) hs ⟨hgr.os,hgr.tape,hgr.output,hgr.size⟩ (fun b hb=>hgr.block b hb (by simp [Value.ownBlock])) hown ?_ hnsh hnr hrun (by simpa using hk)
      intro b hb
      have hbo:v'.ownBlock = some b:=by
       rcases hown.2 with ⟨rfl,_⟩ | ⟨g,bo,cap,cur,rfl,_⟩
       ·exact hb.elim
       ·simp at hb;subst hb;rfl
      rcases hat with h1 | h1
      ·rw [h1] at hbo;cases hbo
      ·rw [h1] at hbo;injection hbo with hbo;omega
     | row _ _ _ ad0 cap g hf2 hsp hcap hm h1 him hshp hcell hrp =>
      have hf1:f = 1 /\ sh = sh':=by
       rcases hf with hf | hf
       ·exact absurd hf hf2
       ·exact hf
      obtain ⟨rfl,rfl⟩:=hf1
      have hcl:=h1 rfl
      subst hcl
      have hxr:RP w Im (.row sh 1 xs) (.slice (some ad0) xs.length xs.length):=.row sh 1 xs ad0 xs.length g hf2 hsp hcap hm h1 him hshp hcell hrp
      have hshx:∀ x ∈ xs,x.shp sh = true:=fun x hx=>by
       obtain ⟨i,hi,rfl⟩:=List.getElem_of_mem hx
       exact hshp i _ (by simp [hi])
      have holds:∃ olds:List Value,olds.length = xs.length * csz sh /\ (∀ (j:Nat) (v:Value),olds[j]? = some v->w.cell? (ad0.add j) = some v) /\
        ∀ (i:Nat) (x:PV) (j:Nat) (c:PV) (u:Value),xs[i]? = some x->x.cells[j]? = some c->olds[i * csz sh + j]? = some u->RP w Im c u:=by
       rcases News.of_row (Im:=Im) hxr (fun i x j c u _ _ h=>h) with ⟨h0,_⟩ | ⟨a1,c1,olds,he,h2,h3,h4,h5,h6⟩
       ·exact ⟨[],by simp [h0],by simp,by simp⟩
       ·injection he with he1 he2 he3
        injection he1 with he1
        subst he1
        exact ⟨olds,h2,h3,h6⟩
      obtain ⟨olds,hol,hoc,hor⟩:=holds
      have hlim:xs.length + ys.length<=maxLen:=by simp only [maxLen];simp only [LIM] at hll;omega
      have hrun:=run_append_grow (P:=P) w T ty e inf z hu hi hiz ad0 xs.length xs.length olds (by rw [hsz];exact hol) hoc ad ys.length c news (by rw [hsz];exact hnl) hnc (by omega) (by simp only [maxLen] at hlim;omega)
       (by rw [hby];exact growslice_fits (by omega) hlb)
      have hge:=grownCap_ge w (xs.length + ys.length) xs.length e
      have hcm:=grownCap_le_maxLen w (xs.length + ys.length) xs.length e hlim
      refine newArr_sound (w':=w.drew.alloc _) (e:=e) (sh:=sh) (xs:=xs ++ ys) (vals:=olds ++ news) hs ⟨rfl,rfl,rfl,by simp⟩ (fun b hb=>(heap_alloc_old w.drew _ hb)) ?_ (fun b hb=>by simp at hb;omega) ?_ ?_ hrun (by simpa using hk)
      ·refine World.ownsAt_of ⟨by rw [List.length_append,List.length_append,hol,hnl,Nat.add_mul],.inr ⟨w.heap.size,_,_,by simp,Nat.zero_le _,heap_alloc_new w.drew _,by simpa using hge,hcm,?_,?_⟩⟩
       ·simp only [Array.size_append,List.size_toArray,size_zeroCells,hzs,hol,hnl,<- Nat.add_mul]
        congr 1
        omega
       ·have:(xs ++ ys).length * csz sh = (olds ++ news).length:=by simp [hol,hnl,Nat.add_mul]
        rw [this]
        simp only [Array.toList_append,List.append_assoc]
        rw [<- List.append_assoc]
        exact List.take_left
      ·intro x hx
       rcases List.mem_append.1 hx with hx | hx
       ·exact hshx x hx
       ·exact hnsh x hx
      ·exact get_app (s:=csz sh) (n:=0) hol (fun x hx=>PV.shp_len (hshx x hx)) (fun y hy=>PV.shp_len (hnsh y hy)) hor hnr
    ·rw [hye] at h
     simp only [cond_true] at h
     have hye':ys = []:=by simpa using hye
     subst hye'
     have hy0:∃ b c,y = .slice b 0 c:=by
      rcases hnews with ⟨_,h⟩ | ⟨a1,c,news,rfl,_⟩
      ·exact h
      ·exact ⟨_,_,rfl⟩
     obtain ⟨b0,c0,rfl⟩:=hy0
     cases hx with
     | nil=>exact Did.same hs h (run_append_none hu hi none b0 0 0 c0 (Nat.le_refl _) w) (by cases (f == 2) <;> exact RP.nil _ _ (by decide))
     | row _ _ _ ad0 cap g hf2 hsp hcap hm h1 him hshp hcell hrp =>
      refine Did.same hs h (run_append_none hu hi (some ad0) b0 xs.length cap c0 hcap w) ?_
      have:(f == 2) = false:=by simpa using hf2
      rw [this]
      exact RP.row sh' 0 xs ad0 cap g (by decide) hsp hcap hm (fun h=>by cases h) him hshp hcell hrp
  ·rename_i id ver sh' lo len
   split at h
   ·rename_i e' sh'' ver' xs ho
    obtain ⟨hcnd,hk⟩:=bif_some h
    simp only [Bool.and_eq_true,beq_iff_eq,decide_eq_true_eq] at hcnd
    obtain ⟨⟨⟨⟨⟨rfl,rfl⟩,rfl⟩,rfl⟩,hlb⟩,hll⟩:=hcnd
    simp only [RA,RS,RC,ho] at ha
    obtain ⟨hle,v,hρ,hsl⟩:=ha.2 trivial trivial
    obtain ⟨vals0,hown0,hshp0,hrp0,hbk,_⟩:=hs.ob id _ _ ho hρ
    replace hrp0:∀ (i:Nat) (x:PV) (j:Nat) (c:PV) (y:Value),xs[i]? = some x->x.cells[j]? = some c->vals0[i * csz sh + j]? = some y->RP w Im c y:=hrp0
    obtain ⟨hown2,hbx⟩:=own_cut hown0 hsl hle
    have hxno:∀ b,x.ownBlock = some b->Blk v b:=by
     intro b hb
     refine main_Blk ((hbx b).1 ?_)
     rcases hown2.2 with ⟨rfl,_⟩ | ⟨g,bo,cap,cur,rfl,_⟩
     ·cases hb
     ·simp [Value.ownBlock] at hb;subst hb;rfl
    have hni:∀ b,Blk v b->¬ Im b:=fun b hb=>(hbk b hb).1 rfl
    have hlim:len + ys.length<=maxLen:=by simp only [maxLen];simp only [LIM] at hll;omega
    obtain ⟨xt,hxt⟩:∃ xt,xt = (xs.drop lo).take len:=⟨_,rfl⟩
    obtain ⟨vt,hvt⟩:∃ vt,vt = (vals0.drop (lo * csz sh)).take (len * csz sh):=⟨_,rfl⟩
    rw [<- hxt] at hk
    rw [<- hvt] at hown2
    have hxs:∀ x ∈ xt,x.shp sh = true:=fun x hx=>hshp0 x (List.mem_of_mem_drop (List.mem_of_mem_take (hxt ▸ hx)))
    have hxl:xt.length = len:=by rw [hxt];simp;omega
    have hrp2:∀ (i:Nat) (x:PV) (j:Nat) (c:PV) (u:Value),xt[i]? = some x->x.cells[j]? = some c->vt[i * csz sh + j]? = some u->RP w Im c u:=by
     intro i x j c u hx hj hu
     have hil:i < len:=by have:=(List.getElem?_eq_some_iff.1 hx).1;rwa [hxl] at this
     rw [hxt,List.getElem?_take_of_lt hil,List.getElem?_drop] at hx
     refine hrp0 (lo + i) x j c u hx hj ?_
     rw [hvt,List.getElem?_take] at hu
     split at hu
     ·rw [List.getElem?_drop] at hu
      rw [Nat.add_mul,Nat.add_assoc]
      exact hu
     ·cases hu
    have main:∃ (v':Value) (w':World) (news:List Value),(Builtin.append_ #[T,T] ty #[x,y]).run P w = .ok v' w' /\ w'.ownsAt 0 e (csz sh) v' (len + ys.length) (vt ++ news) /\ w.grownBy w' x.ownBlock /\
      (v'.ownBlock = x.ownBlock ∨ v'.ownBlock = some w.heap.size) /\ (∀ x ∈ ys,x.shp sh = true) /\ ∀ (i:Nat) (x:PV) (j:Nat) (c:PV) (u:Value),ys[i]? = some x->x.cells[j]? = some c->news[i * csz sh + j]? = some u->RP w Im c u:=by
     rcases hnews with ⟨rfl,b0,c0,rfl⟩ | ⟨ad,c,news,rfl,hnl,hnc,hn1,hnsh,hnr⟩
     ·refine ⟨x,w,[],?_,by simpa using hown2,⟨rfl,rfl,rfl,Nat.le_refl _,fun _ _ _=>rfl⟩,.inl rfl,by simp,by simp⟩
      rcases hown2.2 with ⟨rfl,rfl⟩ | ⟨g,bo,cap,cur,rfl,_,_,hnc,_⟩
      ·exact run_append_none hu hi none b0 0 0 c0 (Nat.le_refl _) w
      ·exact run_append_none hu hi _ b0 len cap c0 hnc w
     ·obtain ⟨v',w',hrun,hown',hgr,_,hat⟩:=run_append_at (P:=P) w T ty e inf z (csz sh) by_ hu hi hiz hsz hby hzs hp x len _ hown2 ad ys.length c news hnl hnc hn1 hlim (by simpa [LIM] using hlb)
      exact ⟨v',w',news,hrun,hown',hgr,hat,hnsh,hnr⟩
    obtain ⟨v',w',news,hrun,hown',hgr,hat,hnsh,hnr⟩:=main
    have hbv':∀ b,Blk v' b->v'.ownBlock = some b:=by
     intro b hb
     rcases hown'.2 with ⟨rfl,_⟩ | ⟨g,bo,cap,cur,rfl,_⟩
     ·exact hb.elim
     ·simp at hb;subst hb;rfl
    have hbv:∀ b,Blk v' b->Blk v b ∨ w.heap.size = b:=by
     intro b hb
     have hb:=hbv' b hb
     rcases hat with h1 | h1
     ·rw [h1] at hb;exact .inl (hxno b hb)
     ·rw [h1] at hb;injection hb with hb;exact .inr hb
    have hblock:∀ b,b < w.heap.size->¬ Blk v b->w'.heap[b]? = w.heap[b]?:=fun b hb hne=>hgr.block b hb (fun h=>hne (hxno b h.symm))
    have him:∀ b,Im b->Im b /\ w'.heap[b]? = w.heap[b]?:=fun b hb=>⟨hb,hblock b (hs.im b hb) (fun h=>hni b h hb)⟩
    have hlx:(xt ++ ys).length = len + ys.length:=by rw [List.length_append,hxl]
    have hst:=Step.turn (w':=w') (x':=.arr e sh (ver + 1) false (xt ++ ys)) (v':=v') hs ⟨hgr.os,hgr.tape,hgr.output,hgr.size⟩ ho hρ (by simp) (Or.inl (Nat.lt_succ_self _)) hblock hni
     (fun b hb=>(hbv b hb).imp (fun h=>h) (fun h=>by omega)) (fun b hb=>ownsRow_lt hown' b hb) ?_
    ·refine ⟨_,_,v',w',Im,_,hk,hrun,hst,?_⟩
     simp only [RA,RS,RC]
     rw [List.getElem?_set_self (List.getElem?_eq_some_iff.1 ho).1]
     exact ⟨Nat.le_refl _,fun _ _=>⟨by rw [hlx];omega,v',upd_same,by rw [(ownsRow_mainV hown').1];exact ownsRow_self hown'⟩⟩
    ·refine ⟨vt ++ news,by rw [hlx,(ownsRow_mainV hown').1];exact hown',?_,?_,fun b hb=>⟨fun _ hI=>?_,fun h=>nomatch h⟩,fun _=>(ownsRow_mainV hown').1⟩
     ·intro x hx
      rcases List.mem_append.1 hx with hx | hx
      ·exact hxs x hx
      ·exact hnsh x hx
     ·intro i x j c u hx hj hu
      exact RP.mono him (get_app (n:=0) (by rw [hown2.1,hxl]) (fun x hx=>PV.shp_len (hxs x hx)) (fun y hy=>PV.shp_len (hnsh y hy)) hrp2 hnr i x j c u hx hj hu)
     ·rcases hbv b hb with h1 | h1
      ·exact hni b h1 hI
      ·have:=hs.im b hI;omega
   ·cases h
  ·cases h
 ·cases h
theorem opAppendZ_sound (hE:EnvOK P E) (hs:SR w Im ρ o) {T T' ty:TypeId} {a b:AV} {x y:Value} (ha:RA w Im ρ o a x) (hb:RA w Im ρ o b y) (h:opAppendZ E T T' a b o K = some r):Did P w Im ρ o K r (Builtin.append_ #[T,T'] ty #[x,y]):=by
 unfold opAppendZ at h
 split at h
 ·rename_i e sh by_ kn v hT hT' hav
  obtain ⟨⟨sh',f,xs⟩,hq,h⟩:=bind_some h
  obtain ⟨zs,hz,h⟩:=bind_some h
  obtain ⟨n,hn,h⟩:=bind_some h
  obtain ⟨hcnd,hk⟩:=bif_some h
  simp only [Bool.and_eq_true,beq_iff_eq,decide_eq_true_eq] at hcnd
  obtain ⟨⟨⟨⟨hxs,rfl⟩,h0⟩,hby⟩,hlim⟩:=hcnd
  have hx:=ha.pv hav
  rw [row_some hq] at hx
  obtain rfl:x = .slice none 0 0:=by
   cases hx with
   | nil=>rfl
   | row _ _ _ a cap g hf2=>exact absurd rfl hf2
  obtain ⟨kb,rfl⟩:=hb.int hn
  obtain ⟨hu,⟨inf,z,hi,hsz,hbe,hiz,hzs⟩,hsh,_⟩:=hE.sl T e sh by_ hT
  obtain ⟨i2,z2,sh2,hi2,hz2,hl2,hsh2,hl3,hone,hrp⟩:=hE.zr e zs hz
  rw [hi] at hi2
  injection hi2 with hi2
  subst hi2
  rw [hiz] at hz2
  injection hz2 with hz2
  subst hz2
  rw [hsh] at hsh2
  injection hsh2 with hsh2
  subst hsh2
  obtain ⟨x,hx⟩:∃ x,x = zeroEl sh zs:=⟨_,rfl⟩
  simp only [<- hx] at hk hxs
  have hp:=csz_pos sh
  have hxc:x.cells = zs:=by
   cases sh with
   | zero =>
    have hlz:zs.length = 1:=hl3
    match zs,hlz with
    | [a],_ =>
     simp [zeroEl] at hx
     subst hx
     exact PV.cells_of_one (hone _ (by simp))
   | succ k=>subst hx;rfl
  obtain ⟨N,rfl⟩:∃ N:Nat,n = N:=⟨n.toNat,by omega⟩
  simp only [Int.toNat_natCast] at hk hby hlim
  have hN:N<=maxLen:=by simp only [LIM] at hlim;simp only [maxLen];omega
  have hrun:=Go.Lib.run_append_nil_zeros (P:=P) w T T' ty e inf z kb kn hu (hE.ik T' kn hT') hi hiz N (by omega) (by omega) (by simp only [LIM] at hlim;omega) (by rw [hbe];simp only [LIM] at hby;omega)
  have hge:=grownCap_ge w N 0 e
  have hcm:=grownCap_le_maxLen w N 0 e hN
  refine newArr_sound (w':=w.drew.alloc _) (e:=e) (sh:=sh) (xs:=List.replicate N x) (vals:=(Builtin.zeroCells z.cells N).toList) hs ⟨rfl,rfl,rfl,by simp⟩ (fun b hb=>(heap_alloc_old w.drew _ hb)) ?_ (fun b hb=>by simp at hb;omega) (fun y hy=>by rw [List.eq_of_mem_replicate hy];exact hxs) ?_ hrun (by simpa using hk)
  ·refine World.ownsAt_of ⟨by simp [size_zeroCells,hzs],.inr ⟨w.heap.size,_,_,by simp,Nat.zero_le _,heap_alloc_new w.drew _,by simpa using hge,hcm,?_,?_⟩⟩
   ·rw [Array.size_append,size_zeroCells,size_zeroCells,hzs,<- Nat.add_mul]
    congr 1
    omega
   ·have:(List.replicate N x).length * csz sh = (Builtin.zeroCells z.cells N).toList.length:=by simp [size_zeroCells,hzs]
    rw [this]
    simp only [Array.toList_append]
    exact List.take_left
  ·intro i y j c u hy hj hu
   have hiN:i < N:=by simpa using (List.getElem?_eq_some_iff.1 hy).1
   obtain rfl:y = x:=by
    have:=(List.getElem?_eq_some_iff.1 hy).2
    simpa using this.symm
   rw [hxc] at hj
   have hjl:j < csz sh:=by rw [<- hl3];exact (List.getElem?_eq_some_iff.1 hj).1
   have hfl:=get_flat hiN hjl
   have h2:(i * csz sh + j) % csz sh = j:=by rw [Nat.mul_comm,Nat.mul_add_mod,Nat.mod_eq_of_lt hjl]
   have hzj:j < z.cells.size:=by omega
   have:u = z.cells[j]:=by
    rw [Array.getElem?_toList] at hu
    simp [Builtin.zeroCells,hzs,hfl,h2,hzj] at hu
    rw [<- hu,getElem!_pos z.cells j hzj]
   subst this
   exact hrp j c _ hj (by simp [hzj]) w Im
 ·cases h
theorem row_over (hs:SR w Im ρ o) {id ver lo:Nat} {e:Et} {xs ys:List PV} {news:List Value} {v:Value} {g bo n0 cap:Nat}
  (ho:o[id]? = some (.arr e 0 ver false xs)) (hρ:ρ id = some v) (hkd:e.kd = none) (hpos:0 < xs.length) (hm:mainV v = .slice (some ⟨g,bo,none⟩) n0 cap) (hl:news.length = ys.length) (hle:lo + ys.length<=xs.length)
  (hsh:∀ x ∈ ys,x.shp 0 = true) (hr:∀ (i:Nat) (x:PV) (j:Nat) (c:PV) (u:Value),ys[i]? = some x->x.cells[j]? = some c->news[i * csz 0 + j]? = some u->RP w Im c u) :
  ∃ cur,w.heap[g]? = some (.cells cur e.t (0,0)) /\ bo + xs.length<=cur.size /\
   Step w Im ρ o (w.setRow g (cur.toList.take (bo + lo) ++ news ++ cur.toList.drop (bo + lo + news.length)).toArray) Im ρ (o.set id (.arr e 0 ver false (xs.take lo ++ ys ++ xs.drop (lo + ys.length)))):=by
 have c0:csz 0 = 1:=rfl
 have hid:=(List.getElem?_eq_some_iff.1 ho).1
 obtain ⟨vals,hown,hshp,hrp,hbk,hkids⟩:=hs.ob id _ _ ho hρ
 have hvl:=hown.1
 rw [c0,Nat.mul_one] at hvl
 obtain ⟨hnc,hcm,cur,hg,hcs,htk,hn0⟩:xs.length<=cap /\ cap<=maxLen /\ ∃ cur:Array Value,w.heap[g]? = some (.cells cur e.t (0,0)) /\ cur.size = bo + cap /\ (cur.toList.drop bo).take xs.length = vals /\ n0 = xs.length:=by
  rcases hown.2 with ⟨h1,_⟩ | ⟨g',bo',cap',cur,h1,_,h3,h4,h5,h6,h7⟩
  ·rw [hm] at h1;cases h1
  ·rw [hm] at h1
   injection h1 with h1 h2 h8
   injection h1 with h1
   injection h1 with h1 h9
   subst h1
   subst h8
   subst h9
   exact ⟨h4,h5,cur,h3,by rw [h6 (by omega),c0,Nat.mul_one],by rw [c0,Nat.mul_one] at h7;exact h7,h2⟩
 have hgb:kidBlk (mainV v) g:=by rw [hm];rfl
 have hbv:Blk v g:=main_Blk hgb
 have hv1:mainV v = v:=by simp only [RKids,hkd] at hkids;exact hkids trivial
 have hbo:∀ b,Blk v b->b = g:=by
  intro b hb
  rw [<- hv1,hm] at hb
  simpa using hb.symm
 have hni:∀ b,Blk v b->¬ Im b:=fun b hb=>(hbk b hb).1 rfl
 obtain ⟨NC,hNC⟩:∃ NC,NC = (cur.toList.take (bo + lo) ++ news ++ cur.toList.drop (bo + lo + news.length)).toArray:=⟨_,rfl⟩
 refine ⟨cur,hg,by omega,?_⟩
 rw [<- hNC]
 have hcl:cur.toList.length = bo + cap:=by rw [Array.length_toList];exact hcs
 have hNl:NC.toList = cur.toList.take (bo + lo) ++ news ++ cur.toList.drop (bo + lo + news.length):=by rw [hNC]
 have hidρ:upd ρ id (some v) = ρ:=by
  funext i
  by_cases e1:i = id
  ·rw [e1,upd_same,hρ]
  ·rw [upd_ne e1]
 obtain ⟨x',hx'⟩:∃ x',x' = AObj.arr e 0 ver false (xs.take lo ++ ys ++ xs.drop (lo + ys.length)):=⟨_,rfl⟩
 rw [<- hx']
 have hxl:(xs.take lo ++ ys ++ xs.drop (lo + ys.length)).length = xs.length:=by simp;omega
 have hcomp:Compat ρ (upd ρ id (some v)) o (o.set id x'):=by
  intro q a hq
  by_cases e1:q = id
  ·subst e1
   rw [ho] at hq
   injection hq with hq
   subst hq
   exact ⟨_,by rw [List.getElem?_set_self hid],by rw [hidρ,hx'];exact Or.inr ⟨rfl,rfl,Nat.le_of_eq hxl.symm,rfl,KdC_refl' _ rfl⟩⟩
  ·exact ⟨a,by rw [List.getElem?_set_ne (Ne.symm e1)];exact hq,by rw [hidρ];cases a <;> simp [CompatO]⟩
 have him:∀ k,Im k->Im k /\ (w.setRow g NC).heap[k]? = w.heap[k]?:=fun k hk=>⟨hk,setRow_other w g k NC (fun e=>hni g hbv (e ▸ hk))⟩
 have hst:=Step.turn (w':=w.setRow g NC) (x':=x') (v':=v) hs (setRow_world w g NC) ho hρ (by rw [hx'];simp) (by rw [hx'];exact Or.inr ⟨rfl,rfl,Nat.le_of_eq hxl.symm,rfl,KdC_refl' _ rfl⟩)
  (fun k hk hne=>setRow_other w g k NC (fun e=>hne (by rw [e];exact hbv))) hni (fun b hb=>.inl hb) (fun k hk=>by rw [setRow_size];exact (hs.lt id v hρ).2 k hk) ?_
 ·rw [hidρ] at hst;exact hst
 ·rw [hx']
  refine ⟨vals.take lo ++ news ++ vals.drop (lo + news.length),⟨?_,.inr ⟨g,bo,cap,NC,by rw [hm,hxl,hn0],Nat.zero_le _,setRow_heap w g cur NC e.t _ hg,by rw [hxl];exact hnc,hcm,fun _=>?_,?_⟩⟩,?_,?_,?_,?_⟩
  ·rw [hxl,c0,Nat.mul_one];simp;omega
  ·rw [c0,Nat.mul_one,<- Array.length_toList,hNl];simp [hcs];omega
  ·rw [hxl,c0,Nat.mul_one,hNl,<- htk,Nat.add_assoc,drop_splice _ _ _ _ _ (by omega),take_splice _ _ _ _ (by omega) (by simp;omega)]
  ·intro x hx
   rcases List.mem_append.1 hx with hx | hx
   ·rcases List.mem_append.1 hx with hx | hx
    ·exact hshp x (List.mem_of_mem_take hx)
    ·exact hsh x hx
   ·exact hshp x (List.mem_of_mem_drop hx)
  ·intro i x j c u hx hj hu
   have hjl:j < csz 0:=by
    have hxs:x.shp 0 = true:=by
     rcases List.mem_append.1 (List.mem_of_getElem? hx) with hx | hx
     ·rcases List.mem_append.1 hx with hx | hx
      ·exact hshp x (List.mem_of_mem_take hx)
      ·exact hsh x hx
     ·exact hshp x (List.mem_of_mem_drop hx)
    rw [<- PV.shp_len hxs];exact (List.getElem?_eq_some_iff.1 hj).1
   have hj0:j = 0:=by omega
   subst hj0
   rw [c0,Nat.mul_one,Nat.add_zero] at hu
   rw [get_splice _ _ _ _ hle] at hx
   rw [get_splice _ _ _ _ (by omega),hl] at hu
   by_cases h1:i < lo
   ·rw [if_pos h1] at hx hu
    exact (hrp i x 0 c u hx hj (by rw [c0,Nat.mul_one];exact hu)).keep him
   ·rw [if_neg h1] at hx hu
    by_cases h2:i < lo + ys.length
    ·rw [if_pos h2] at hx hu
     simp only [RPk,hkd]
     exact RP.mono him (hr _ x 0 c u hx hj (by rw [c0,Nat.mul_one];exact hu))
    ·rw [if_neg h2] at hx hu
     exact (hrp i x 0 c u hx hj (by rw [c0,Nat.mul_one];exact hu)).keep him
  ·intro b hb
   exact ⟨fun _=>hni b hb,fun hf=>nomatch hf⟩
  ·simp only [RKids,hkd]
   exact fun _=>hv1
theorem set_same' {id:Nat} {x:AObj} (h:o[id]? = some x):o.set id x = o:=by
 apply List.ext_getElem?
 intro i
 by_cases e1:i = id
 · subst e1;rw [List.getElem?_set_self (List.getElem?_eq_some_iff.1 h).1,h]
 · rw [List.getElem?_set_ne (Ne.symm e1)]
theorem opCopy_sound (hE:EnvOK P E) (hs:SR w Im ρ o) {T T' ty:TypeId} {a b:AV} {x y:Value} (ha:RA w Im ρ o a x) (hb:RA w Im ρ o b y) (h:opCopy E T a b o K = some r):Did P w Im ρ o K r (Builtin.copy_ #[T,T'] ty #[x,y]):=by
 unfold opCopy at h
 split at h
 ·rename_i e sh by_ id ver sh1 lo len bv hT hav hbv
  rw [cv_some hav] at ha
  rw [cv_some hbv] at hb
  obtain ⟨rv,hrv,h1⟩:=bind_some h
  clear h
  obtain ⟨ys,hys,h⟩:=bind_some h1
  clear h1
  have hnews:=viewC_news hs hb hrv hys
  obtain ⟨hu,⟨inf,z,hi,hsz,hby,hiz,hzs⟩,_⟩:=hE.sl T e sh by_ hT
  split at h
  ·rename_i e' sh' ver' xs ho
   obtain ⟨hcnd,hk⟩:=bif_some h
   simp only [Bool.and_eq_true,beq_iff_eq,Option.isNone_iff_eq_none] at hcnd
   obtain ⟨⟨⟨⟨⟨rfl,rfl⟩,rfl⟩,hkd⟩,rfl⟩,he⟩:=hcnd
   simp only [RA,RS,RC,ho] at ha
   obtain ⟨_,ha⟩:=ha
   obtain ⟨hle,v,hρ,hsl⟩:=ha trivial trivial
   have c0:csz 0 = 1:=rfl
   have hs1:inf.size = 1:=hsz
   obtain ⟨vals,hown,_⟩:=hs.ob id _ _ ho hρ
   by_cases hn:min ys.length len = 0
   ·rw [hn] at hk
    simp only [List.take_zero,List.append_nil,List.length_nil,Nat.add_zero,List.take_append_drop] at hk
    rw [set_same' ho] at hk
    have hrun:(Builtin.copy_ #[T,T'] ty #[x,y]).run P w = .ok (goInt (0:Nat)) w:=by
     have hx:∃ p cap,x = .slice p len cap:=by
      unfold RSl at hsl
      split at hsl
      ·obtain ⟨off,h1,_⟩:=hsl;exact ⟨_,_,h1⟩
      ·obtain ⟨_,rfl,h1⟩:=hsl;exact ⟨_,_,h1⟩
      ·exact hsl.elim
     obtain ⟨p,cap,rfl⟩:=hx
     have hy:∃ p2 cap2,y = .slice p2 ys.length cap2:=by
      rcases hnews with ⟨rfl,b,c,h1⟩ | ⟨ad,c,news,h1,_⟩
      ·exact ⟨_,_,h1⟩
      ·exact ⟨_,_,h1⟩
     obtain ⟨p2,cap2,rfl⟩:=hy
     have hn2:Nat.min ys.length len = 0:=hn
     cases p <;> cases p2 <;> simp [Builtin.copy_,run_underlying hu,Builtin.lenOf,Builtin.firstCells,sizeOf,typeInfo,hi,hs1,hn2,loadCells,loadCellsFrom,storeCells]
    exact ⟨_,_,_,_,Im,ρ,hk,hrun,Step.refl hs,RP.int _ _⟩
   ·rcases hnews with ⟨rfl,_⟩ | ⟨ad,c,news,rfl,hnl,hnc,hn1,hnsh,hnr⟩
    ·simp at hn
    have hlen:0 < len:=by omega
    obtain ⟨g,bo,n0,cap,hm,off,hx,hlo,hoff⟩:∃ g bo n0 cap,mainV v = .slice (some ⟨g,bo,none⟩) n0 cap /\ ∃ off,x = .slice (some ⟨g,off,none⟩) len (cap - lo) /\ lo<=cap /\ (lo = 0 ∨ 0 < cap - lo->off = bo + lo * csz 0):=by
     rcases hown.2 with ⟨h1,h2⟩ | ⟨g,bo,cap,cur,h1,_⟩
     ·rw [h1] at hsl
      have:=hsl.2.1
      omega
     ·rw [h1] at hsl ⊢
      obtain ⟨off,h2,h3,h4⟩:=hsl
      exact ⟨g,bo,_,cap,rfl,off,h2,h3,h4⟩
    have hcapn:xs.length<=cap:=by
     rcases hown.2 with ⟨h1,h2⟩ | ⟨g',bo',cap',cur,h1,_,_,h4,_⟩
     ·rw [hm] at h1;cases h1
     ·rw [hm] at h1;injection h1 with h1 h2 h3;rw [h3];exact h4
    have hoff:off = bo + lo:=by rw [hoff (.inr (by omega)),c0,Nat.mul_one]
    subst hoff
    subst hx
    rw [c0,Nat.mul_one] at hnl
    have htl:(ys.take (min ys.length len)).length = min ys.length len:=by simp
    obtain ⟨cur,hg,hcsz,hst⟩:=row_over (ys:=ys.take (min ys.length len)) (news:=news.take (min ys.length len)) (lo:=lo) hs ho hρ hkd (by omega) hm (by simp [hnl]) (by rw [htl];omega) (fun q hq=>hnsh q (List.mem_of_mem_take hq)) (by
     intro i q j cc u hq hj hu
     rw [List.getElem?_take] at hq hu
     split at hq
     ·split at hu
      ·exact hnr i q j cc u hq hj hu
      ·cases hu
     ·cases hq)
    have hnt:(news.take (min ys.length len)).length = min ys.length len:=by simp [hnl]
    have hrun:=run_copy_row (P:=P) w T T' ty e g (bo + lo) len (cap - lo) ad ys.length c cur e'.t (news.take (min ys.length len)) hu (by rw [hi];simp [hs1]) hg hnt
     (fun j u hj=>hnc j u (by rw [List.getElem?_take] at hj;split at hj;exact hj;cases hj)) (by rw [hnt];omega) (fun u hu=>hn1 u (List.mem_of_mem_take hu))
    refine ⟨_,_,_,_,Im,ρ,hk,hrun,hst,?_⟩
    rw [hnt]
    exact RP.int _ _
  ·cases h
 ·cases h
theorem opClear_sound (hE:EnvOK P E) (hs:SR w Im ρ o) {T ty:TypeId} {a:AV} {x:Value} (ha:RA w Im ρ o a x) (h:opClear E T a o K = some r):Did P w Im ρ o K r (Builtin.clear_ #[T] ty #[x]):=by
 unfold opClear at h
 split at h
 ·rename_i e sh by_ id ver sh1 lo len hT hav
  rw [cv_some hav] at ha
  obtain ⟨zs,hz,h1⟩:=bind_some h
  clear h
  obtain ⟨hu,⟨inf,z,hi,hsz,hby,hiz,hzs⟩,hsh,_⟩:=hE.sl T e sh by_ hT
  obtain ⟨i2,z2,sh2,hi2,hz2,hl2,hsh2,hl3,hone,hrp⟩:=hE.zr e zs hz
  rw [hi] at hi2
  injection hi2 with hi2
  subst hi2
  rw [hiz] at hz2
  injection hz2 with hz2
  subst hz2
  rw [hsh] at hsh2
  injection hsh2 with hsh2
  subst hsh2
  split at h1
  ·rename_i e' sh' ver' xs ho
   obtain ⟨hcnd,hk⟩:=bif_some h1
   simp only [Bool.and_eq_true,beq_iff_eq,Option.isNone_iff_eq_none] at hcnd
   obtain ⟨⟨⟨⟨⟨⟨rfl,rfl⟩,rfl⟩,hkd⟩,rfl⟩,he⟩,hzsh⟩:=hcnd
   simp only [RA,RS,RC,ho] at ha
   obtain ⟨_,ha⟩:=ha
   obtain ⟨hle,v,hρ,hsl⟩:=ha trivial trivial
   have c0:csz 0 = 1:=rfl
   obtain ⟨vals,hown,_⟩:=hs.ob id _ _ ho hρ
   have hzl:zs.length = 1:=hl3
   obtain ⟨zp,rfl⟩:∃ zp,zs = [zp]:=by
    match zs,hzl with
    | [zp],_=>exact ⟨zp,rfl⟩
   have hzv:∃ u,z.cells = #[u]:=by
    have:z.cells.size = 1:=hl2
    refine ⟨z.cells[0],?_⟩
    apply Array.ext
    ·simp [this]
    ·intro i h1 h2
     have:i = 0:=by simp at h2;exact h2
     subst this
     rfl
   obtain ⟨u,hzu⟩:=hzv
   have hzr:∀ (w:World) (Im:Nat->Prop),RP w Im zp u:=fun w Im=>hrp 0 zp u rfl (by rw [hzu];rfl) w Im
   have hu1:=(hzr w Im).one (hone zp (by simp))
   have hrv:∀ w,(zeroValue e).run P w = .ok z w:=fun w=>by simp [zeroValue,typeInfo,hi,hiz]
   have hzel:zeroEl 0 [zp] = zp:=rfl
   rw [hzel] at hk
   have hzc:(Builtin.zeroCells z.cells len).toList = List.replicate len u:=by
    rw [hzu]
    apply List.ext_getElem?
    intro i
    by_cases hi':i < len
    ·simp [Builtin.zeroCells,hi',Nat.mod_one]
    ·simp [Builtin.zeroCells,hi']
   by_cases hn:len = 0
   ·subst hn
    simp only [List.replicate_zero,List.append_nil,Nat.add_zero,List.take_append_drop] at hk
    rw [set_same' ho] at hk
    have hrun:(Builtin.clear_ #[T] ty #[x]).run P w = .ok (.tuple #[]) w:=by
     have hx:∃ p cap,x = .slice p 0 cap:=by
      unfold RSl at hsl
      split at hsl
      ·obtain ⟨off,h1,_⟩:=hsl;exact ⟨_,_,h1⟩
      ·obtain ⟨_,_,h1⟩:=hsl;exact ⟨_,_,h1⟩
      ·exact hsl.elim
     obtain ⟨p,cap,rfl⟩:=hx
     cases p <;> simp [Builtin.clear_,run_underlying hu]
    exact ⟨_,_,_,_,Im,ρ,hk,hrun,Step.refl hs,⟨#[],rfl,rfl,fun i c y h=>by simp at h⟩⟩
   ·obtain ⟨g,bo,n0,cap,hm,off,hx,hlo,hoff⟩:∃ g bo n0 cap,mainV v = .slice (some ⟨g,bo,none⟩) n0 cap /\ ∃ off,x = .slice (some ⟨g,off,none⟩) len (cap - lo) /\ lo<=cap /\ (lo = 0 ∨ 0 < cap - lo->off = bo + lo * csz 0):=by
     rcases hown.2 with ⟨h1,h2⟩ | ⟨g,bo,cap,cur,h1,_⟩
     ·rw [h1] at hsl
      have:=hsl.2.1
      omega
     ·rw [h1] at hsl ⊢
      obtain ⟨off,h2,h3,h4⟩:=hsl
      exact ⟨g,bo,_,cap,rfl,off,h2,h3,h4⟩
    have hcapn:xs.length<=cap:=by
     rcases hown.2 with ⟨h1,h2⟩ | ⟨g',bo',cap',cur,h1,_,_,h4,_⟩
     ·rw [hm] at h1;cases h1
     ·rw [hm] at h1;injection h1 with h1 h2 h3;rw [h3];exact h4
    have hoff:off = bo + lo:=by rw [hoff (.inr (by omega)),c0,Nat.mul_one]
    subst hoff
    subst hx
    obtain ⟨cur,hg,hcsz,hst⟩:=row_over (ys:=List.replicate len zp) (news:=List.replicate len u) (lo:=lo) hs ho hρ hkd (by omega) hm (by simp) (by simpa using hle) (fun q hq=>by rw [List.eq_of_mem_replicate hq];exact hone zp (by simp)) (by
     intro i q j cc y hq hj hy
     have hq':q = zp:=by have:=(List.getElem?_eq_some_iff.1 hq).2;simpa using this.symm
     subst hq'
     have hj0:cc = q:=by
      rw [PV.cells_of_one (hone q (by simp))] at hj
      cases j with
      | zero=>simpa using hj.symm
      | succ j=>simp at hj
     subst hj0
     have hy':y = u:=by have:=(List.getElem?_eq_some_iff.1 hy).2;simpa using this.symm
     subst hy'
     exact hzr w Im)
    have hst2:=run_storeCells_at P g (bo + lo) e'.t (List.replicate len u) 0 cur w hg (by simp;omega) (fun q hq=>by rw [List.eq_of_mem_replicate hq];exact hu1.1)
    have hrun:(Builtin.clear_ #[T] ty #[.slice (some ⟨g,bo + lo,none⟩) len (cap - lo)]).run P w = .ok (.tuple #[]) (w.setRow g (cur.toList.take (bo + lo) ++ List.replicate len u ++ cur.toList.drop (bo + lo + (List.replicate len u).length)).toArray):=by
     obtain ⟨m,rfl⟩:∃ m,len = m + 1:=⟨len - 1,by omega⟩
     simp only [Nat.add_zero] at hst2
     simp [Builtin.clear_,run_underlying hu,hrv,hzc,hst2]
    refine ⟨_,_,_,_,Im,ρ,hk,hrun,?_,⟨#[],rfl,rfl,fun i c y h=>by simp at h⟩⟩
    simp only [List.length_replicate] at hst ⊢
    exact hst
  ·cases h1
 ·cases h
end
end Go.Dp
/- Rows with a column of rows of one's own: what is given back,built and grown. -/
set_option linter.unusedVariables false
set_option linter.unusedSimpArgs false
namespace Go.Dp
section
variable {P:Program} {E:Env} {w w':World} {Im Im':Nat->Prop} {ρ ρ':Nat->Option Value} {o o':List AObj} {K:Kt} {r:List SV × List (List CV)}
theorem own_kid {base:Nat} {e s n:Nat} {v:Value} {xs:List Value} (h:w.ownsAt base e s v n xs):v.cells = #[v] /\ v.oneCell' = true /\ ∀ b,kidBlk v b ↔ v.ownBlock = some b:=by
 rcases h.2 with ⟨rfl,rfl⟩ | ⟨g,bo,cap,cur,rfl,_⟩
 · exact ⟨rfl,rfl,fun b=>by simp [Value.ownBlock]⟩
 · exact ⟨rfl,rfl,fun b=>by simp [Value.ownBlock]⟩
theorem opGive_sound (hE:EnvOK P E) (hs:SR w Im ρ o) {T:TypeId} {a b:AV} {x y:Value} (ha:RA w Im ρ o a x) (hb:RA w Im ρ o b y) (h:opGive E T a b o K = some r):Did P w Im ρ o K r (do Instr.storeAt T x y;pure undef):=by
 unfold opGive at h
 split at h
 ·rename_i id ver vsh i off id2 ver2 sh2 lo len hca hT hcb
  rw [cv_some hca] at ha
  rw [cv_some hcb] at hb
  split at h
  ·rename_i e sh' ver' xs e2 sh2' ver2' ys ho ho2
   split at h
   ·rename_i k hk
    obtain ⟨y0,hxi,h⟩:=bind_some h
    obtain ⟨hcnd,h9⟩:=bif_some h
    clear h
    simp only [Bool.and_eq_true,Bool.or_eq_true,Option.isNone_iff_eq_none,beq_iff_eq,bne_iff_ne,decide_eq_true_eq] at hcnd
    obtain ⟨⟨⟨⟨⟨⟨⟨⟨⟨⟨rfl,rfl⟩,rfl⟩,rfl⟩,rfl⟩,rfl⟩,rfl⟩,rfl⟩,hne⟩,hhole⟩,hlen⟩:=hcnd
    replace hhole:∀ p,p ≠ i->k.hole ≠ some p:=by
     intro p hp he
     rw [he] at hhole
     simp at hhole
     exact hp hhole
    obtain ⟨z,hz,hkk⟩:=bind_some h9
    clear h9
    simp only [RA,RS,RC,ho] at ha
    obtain ⟨hi,g,bo,n,cap,v,hρ,hmv,rfl⟩:=ha.2 trivial trivial
    simp only [RA,RS,RC,ho2] at hb
    obtain ⟨_,v2,hρ2,hsl2⟩:=hb.2 trivial trivial
    obtain ⟨vals,hown,hshp,hrp,hbk,hkids⟩:=hs.ob id _ _ ho hρ
    obtain ⟨vals2,hown2,hshp2,hrp2,hbk2,_⟩:=hs.ob id2 _ _ ho2 hρ2
    replace hrp2:∀ (i:Nat) (x:PV) (j:Nat) (c:PV) (y:Value),ys[i]? = some x->x.cells[j]? = some c->vals2[i * csz k.sh + j]? = some y->RP w Im c y:=hrp2
    simp only [RKids,hk] at hkids
    obtain ⟨_,ks,hv,hks,hdis⟩:=hkids
    obtain ⟨hy,hyb⟩:=own_take hown2 hsl2 hlen
    have hyc:=own_kid hy
    have hgm:kidBlk (mainV v) g:=by rw [hmv];rfl
    have hyB:∀ b,kidBlk y b->Blk v2 b:=fun b hb=>main_Blk ((hyb b).1 (kid_Blk hb))
    have hcross:∀ b,Blk v b->Blk v2 b->False:=fun b h1 h2=>hne (hs.inj id id2 v v2 b hρ hρ2 h1 h2)
    rcases hown.2 with ⟨hbad,_⟩ | ⟨g',bo',cap',cu,heq,_,hh,hnc,hcm,hcs,htk⟩
    ·rw [hmv] at hbad;cases hbad
    rw [hmv] at heq
    injection heq with e1 e2 e3
    injection e1 with e1
    injection e1 with e1 e4
    subst e1
    subst e2
    subst e3
    subst e4
    have hcp:0 < cap:=by omega
    have hcs:=hcs hcp
    have hy0s:=hshp y0 (List.mem_of_getElem? hxi)
    obtain ⟨hzs,hoff,hzc⟩:=putPart_some hz hy0s (by simp [PV.shp,PV.one])
    have c0:csz 0 = 1:=rfl
    rw [c0] at hoff
    have hmul:(i + 1) * csz vsh<=xs.length * csz vsh:=Nat.mul_le_mul_right _ hi
    have hmul2:xs.length * csz vsh<=cap * csz vsh:=Nat.mul_le_mul_right _ hnc
    rw [Nat.add_mul] at hmul
    have hrun:=run_storeVar (y:=y) hE hT (off:=bo + i * csz vsh + k.j) hh (by rw [hyc.1];rfl) (by omega) (by rw [hyc.1];intro p z hz;cases p <;> simp at hz;subst hz;exact hyc.2.1)
    have hyn:y.cells.toList = [y]:=by rw [hyc.1]
    rw [hyn] at hrun
    obtain ⟨NV,hNV⟩:∃ NV,NV = (cu.toList.take (bo + i * csz vsh + k.j) ++ [y] ++ cu.toList.drop (bo + i * csz vsh + k.j + [y].length)).toArray:=⟨_,rfl⟩
    rw [<- hNV] at hrun
    have hcul:xs.length * csz vsh<=(cu.toList.drop bo).length:=by simp;omega
    have hspl:i * csz vsh + k.j + [y].length<=xs.length * csz vsh:=by simp;omega
    have hoth:∀ b,b ≠ g->(w.setRow g NV).heap[b]? = w.heap[b]?:=fun b hb=>setRow_other w g b NV hb
    have hlt:=(hs.lt id _ hρ).1
    have hlt2:=(hs.lt id2 _ hρ2).1
    have him:∀ b,Im b->Im b /\ (w.setRow g NV).heap[b]? = w.heap[b]?:=fun b hb=>⟨hb,hoth b fun h=>(hbk g (main_Blk hgm)).1 rfl (h ▸ hb)⟩
    obtain ⟨V,hVd⟩:∃ V,V = Value.tuple (mainV v :: ks.set i y).toArray:=⟨_,rfl⟩
    have hVm:mainV V = mainV v:=by rw [hVd];rfl
    have hVb:∀ b,Blk V b->Blk v b ∨ Blk v2 b:=by
     intro b hb
     rw [hVd] at hb
     obtain ⟨q,u,hq,hub⟩:=hb
     cases q with
     | zero =>
      simp at hq
      subst hq
      exact .inl (main_Blk hub)
     | succ q =>
      replace hq:(ks.set i y)[q]? = some u:=by simpa using hq
      by_cases e1:q = i
      ·subst e1
       rw [List.getElem?_set_self (by rw [hks.len];exact hi)] at hq
       injection hq with hq
       subst hq
       exact .inr (hyB b hub)
      ·rw [List.getElem?_set_ne (Ne.symm e1)] at hq
       exact .inl (kids_Blk hv hq hub)
    obtain ⟨X,hX⟩:∃ X,X = AObj.arr ⟨e.t,some { k with nv:=k.nv + 1,hole:=none }⟩ vsh ver false (xs.set i z):=⟨_,rfl⟩
    rw [<- hX] at hkk
    have hoid:((o.set id X).set id2 .dead)[id]? = some X:=by rw [List.getElem?_set_ne (Ne.symm hne),List.getElem?_set_self hlt]
    have hoid2:((o.set id X).set id2 .dead)[id2]? = some .dead:=by rw [List.getElem?_set_self (by simpa using hlt2)]
    obtain ⟨R,hR⟩:∃ R,R = upd (upd ρ id (some V)) id2 none:=⟨_,rfl⟩
    have hRid:R id = some V:=by rw [hR,upd_ne hne,upd_same]
    have hRid2:R id2 = none:=by rw [hR,upd_same]
    have hRne:∀ q,q ≠ id->q ≠ id2->R q = ρ q:=fun q h1 h2=>by rw [hR,upd_ne h2,upd_ne h1]
    have hc:Compat ρ R o ((o.set id X).set id2 .dead):=by
     intro q a hq
     by_cases e1:q = id
     ·subst e1
      rw [ho] at hq
      injection hq with hq
      subst hq
      refine ⟨X,hoid,?_⟩
      rw [hRid,hρ,hX]
      refine Or.inr ⟨rfl,rfl,by simp,?_,?_⟩
      ·simp [hVm]
      ·rw [hk];exact .inl (Nat.lt_succ_self _)
     ·by_cases e2:q = id2
      ·subst e2
       rw [ho2] at hq
       injection hq with hq
       subst hq
       exact ⟨.dead,hoid2,trivial⟩
      ·refine ⟨a,by rw [List.getElem?_set_ne (Ne.symm e2),List.getElem?_set_ne (Ne.symm e1)];exact hq,?_⟩
       rw [hRne q e1 e2]
       cases a <;> simp [CompatO]
    have hst:=Step.multi (w':=w.setRow g NV) (ρ':=R) (o':=(o.set id X).set id2 .dead) hs (setRow_world w g NV) (fun q=>q = id ∨ q = id2) (by simp) ?_ ?_ hc ?_ ?_ ?_ ?_ ?_ ?_ ?_ ?_ ?_
    ·exact ⟨_,_,undef,_,Im,_,hkk,by simp [Instr.storeAt,Instr.sureAddr,hrun],hst,trivial⟩
    ·intro q hq hql
     simp only [not_or] at hq
     exact ⟨by rw [List.getElem?_set_ne (Ne.symm hq.2),List.getElem?_set_ne (Ne.symm hq.1)],hRne q hq.1 hq.2⟩
    ·intro q hql hq
     simp only [not_or] at hq
     refine ⟨List.getElem?_eq_none (by simp;omega),?_⟩
     rw [hRne q hq.1 hq.2]
     cases h:ρ q with
     | none=>rfl
     | some u=>have:=(hs.lt q u h).1;omega
    ·intro b hb hno
     exact hoth b fun h=>hno id v (.inl rfl) hρ (h ▸ main_Blk hgm)
    ·rintro q v' b (rfl | rfl) hv' hb
     ·rw [hρ] at hv'
      injection hv' with hv'
      subst hv'
      exact (hbk b hb).1 rfl
     ·rw [hρ2] at hv'
      injection hv' with hv'
      subst hv'
      exact (hbk2 b hb).1 rfl
    ·rintro q v' b (rfl | rfl) hv' hb
     ·rw [hRid] at hv'
      injection hv' with hv'
      subst hv'
      rcases hVb b hb with h1 | h1
      ·exact .inl ⟨q,_,.inl rfl,hρ,h1⟩
      ·exact .inl ⟨id2,_,.inr rfl,hρ2,h1⟩
     ·rw [hRid2] at hv';cases hv'
    ·rintro q v' (rfl | rfl) hv'
     ·rw [hRid] at hv'
      injection hv' with hv'
      subst hv'
      refine ⟨by simpa using hlt,fun b hb=>?_⟩
      rw [setRow_size]
      rcases hVb b hb with h1 | h1
      ·exact (hs.lt q _ hρ).2 b h1
      ·exact (hs.lt id2 _ hρ2).2 b h1
     ·rw [hRid2] at hv';cases hv'
    ·rintro q q' v' v1 b (rfl | rfl) (rfl | rfl) h1 h2 h3 h4
     ·rfl
     ·rw [hRid2] at h2;cases h2
     ·rw [hRid2] at h1;cases h1
     ·rfl
    ·rintro q a v' (rfl | rfl) ha' hv'
     ·rw [hoid] at ha'
      rw [hRid] at hv'
      injection ha' with ha'
      injection hv' with hv'
      subst ha'
      subst hv'
      rw [hX]
      have hylt:(w.setRow g NV).ownsAt 0 k.e (csz k.sh) y len (vals2.take (len * csz k.sh)):=ownsRow_main (fun b hb=>hoth b fun h=>hcross g (main_Blk hgm) (h ▸ hyB b hb)) hy
      have hxl:(ys.take len).length = len:=by simp;omega
      refine ⟨vals.take (i * csz vsh + k.j) ++ [y] ++ vals.drop (i * csz vsh + k.j + [y].length),⟨?_,.inr ⟨g,bo,cap,NV,by rw [hVm,hmv];simp,Nat.zero_le _,setRow_heap w g cu NV e.t _ hh,by simpa using hnc,hcm,fun _=>?_,?_⟩⟩,?_,?_,fun b hb=>⟨fun _ hI=>?_,fun h=>nomatch h⟩,rfl,ks.set i y,?_,⟨by simpa using hks.len,hks.jlt,?_,(fun p u h=>nomatch h),?_,?_⟩,?_⟩
      ·rw [len_splice _ _ _ (by rw [hown.1];exact hspl),hown.1];simp
      ·rw [hNV,List.size_toArray,len_splice _ _ _ (by simp at hcul hspl ⊢;omega)];simpa using hcs
      ·rw [hNV]
       simp only [List.length_set,Nat.add_assoc bo]
       rw [drop_splice _ _ _ _ _ (by simp at hcul hspl ⊢;omega)]
       rw [take_splice _ _ _ _ hspl hcul,htk]
      ·intro q hq
       rcases List.mem_or_eq_of_mem_set hq with h1 | h1
       ·exact hshp q h1
       ·rw [h1];exact hzs
      ·intro i' x' j c u hx' hj hu
       show j ≠ k.j->RP _ Im c u
       intro hjk
       rw [get_splice _ _ _ _ (by rw [hown.1];exact hspl)] at hu
       have key:∃ x0,xs[i']? = some x0 /\ x0.cells[j]? = some c:=by
        by_cases e1:i' = i
        ·subst e1
         rw [List.getElem?_set_self hi] at hx'
         injection hx' with hx'
         subst hx'
         rcases hzc j c hj with ⟨h1,h2,_⟩ | ⟨_,h3⟩
         ·rw [c0] at h2;omega
         ·exact ⟨y0,hxi,h3⟩
        ·rw [List.getElem?_set_ne (Ne.symm e1)] at hx'
         exact ⟨x',hx',hj⟩
       obtain ⟨x0,hx0,hj0⟩:=key
       have hjl:j < csz vsh:=by rw [<- PV.shp_len (hshp x0 (List.mem_of_getElem? hx0))];exact (List.getElem?_eq_some_iff.1 hj0).1
       have hkj:=hks.jlt
       have hne2:i' * csz vsh + j ≠ i * csz vsh + k.j:=by
        rcases Nat.lt_trichotomy i' i with h3 | h3 | h3
        ·have:(i' + 1) * csz vsh<=i * csz vsh:=Nat.mul_le_mul_right _ h3
         rw [Nat.add_mul] at this
         omega
        ·subst h3;omega
        ·have:(i + 1) * csz vsh<=i' * csz vsh:=Nat.mul_le_mul_right _ h3
         rw [Nat.add_mul] at this
         omega
       have hu':vals[i' * csz vsh + j]? = some u:=by
        split at hu
        ·exact hu
        ·rw [if_neg (by simp;omega)] at hu;exact hu
       have h4:=hrp i' x0 j c u hx0 hj0 hu'
       unfold RPk at h4
       rw [hk] at h4
       exact RP.mono him (h4 hjk)
      ·rcases hVb b hb with h1 | h1
       ·exact (hbk b h1).1 rfl hI
       ·exact (hbk2 b h1).1 rfl hI
      ·rw [hVm,hVd]
      ·intro p x1 hx1 _
       by_cases e1:p = i
       ·subst e1
        rw [List.getElem?_set_self hi] at hx1
        injection hx1 with hx1
        subst hx1
        have hzl:=PV.shp_len hzs
        have hkj:=hks.jlt
        have hc1:z.cells[k.j]? = some z.cells[k.j]:=by simp [hzl,hkj]
        have hc2:z.cells[k.j]? = some (.row k.sh 0 (ys.take len)):=by
         rcases hzc k.j _ hc1 with ⟨_,_,h3⟩ | ⟨h2,_⟩
         ·rw [hc1,<- h3];simp [PV.cells]
         ·rw [c0] at h2;omega
        refine ⟨0,_,y,hc2,.inl rfl,by rw [List.getElem?_set_self (by rw [hks.len];exact hi)],?_,_,by rw [hxl];exact hylt,fun x hx=>hshp2 x (List.mem_of_mem_take hx),?_⟩
        ·rw [get_splice _ _ _ _ (by rw [hown.1];exact hspl),if_neg (Nat.lt_irrefl _),if_pos (by simp)]
         simp
        ·intro q x j c u hx hj hu
         have hql:q < len:=by have:=(List.getElem?_eq_some_iff.1 hx).1;rwa [hxl] at this
         rw [List.getElem?_take_of_lt hql] at hx
         have hu':vals2[q * csz k.sh + j]? = some u:=by
          rw [List.getElem?_take] at hu
          split at hu
          ·exact hu
          ·cases hu
         exact RP.mono him (hrp2 q x j c u hx hj hu')
       ·rw [List.getElem?_set_ne (Ne.symm e1)] at hx1
        obtain ⟨f2,ys2,u2,c1,c2,c3,c4,c5⟩:=hks.kid p x1 hx1 (hhole p e1)
        refine ⟨f2,ys2,u2,c1,c2,by rw [List.getElem?_set_ne (Ne.symm e1)];exact c3,?_,c5.keep him fun b hb=>hoth b fun h=>hdis p u2 b c3 hb (h ▸ hgm)⟩
        show (vals.take (i * csz vsh + k.j) ++ [y] ++ vals.drop (i * csz vsh + k.j + [y].length))[p * csz vsh + k.j]? = some u2
        rw [get_splice _ _ _ _ (by rw [hown.1];exact hspl)]
        have hkj:=hks.jlt
        have hne2:p * csz vsh + k.j ≠ i * csz vsh + k.j:=by
         intro h
         have:p * csz vsh = i * csz vsh:=by omega
         exact e1 (Nat.eq_of_mul_eq_mul_right (csz_pos vsh) this)
        split
        ·exact c4
        ·rename_i h5
         rw [if_neg (fun h6=>by simp only [List.length_singleton] at h6;omega)];exact c4
      ·have old:∀ (p:Nat) (u:Value) (b:Nat),(ks.set i y)[p]? = some u->kidBlk u b->(p = i /\ Blk v2 b) ∨ (ks[p]? = some u /\ Blk v b):=by
        intro p u b hp hb
        by_cases e1:p = i
        ·subst e1
         rw [List.getElem?_set_self (by rw [hks.len];exact hi)] at hp
         injection hp with hp
         subst hp
         exact .inl ⟨rfl,hyB b hb⟩
        ·rw [List.getElem?_set_ne (Ne.symm e1)] at hp
         exact .inr ⟨hp,kids_Blk hv hp hb⟩
       intro p p' u u' b h1 h2 h3 h4
       rcases old p u b h1 h3 with ⟨a1,a2⟩ | ⟨a1,a2⟩ <;> rcases old p' u' b h2 h4 with ⟨b1,b2⟩ | ⟨b1,b2⟩
       ·omega
       ·exact (hcross b b2 a2).elim
       ·exact (hcross b a2 b2).elim
       ·exact hks.inj p p' u u' b a1 b1 h3 h4
      ·intro p u hu
       rw [get_splice _ _ _ _ (by rw [hown.1];exact hspl)] at hu
       split at hu
       ·exact hks.one p u hu
       ·split at hu
        ·have:u = y:=by
          have:=List.mem_of_getElem? hu
          simpa using this
         rw [this];exact hyc.2.1
        ·exact hks.one p u hu
      ·intro p u b hp hb
       rw [hVm]
       by_cases e1:p = i
       ·subst e1
        rw [List.getElem?_set_self (by rw [hks.len];exact hi)] at hp
        injection hp with hp
        subst hp
        exact fun h=>hcross b (main_Blk h) (hyB b hb)
       ·rw [List.getElem?_set_ne (Ne.symm e1)] at hp
        exact hdis p u b hp hb
     ·rw [hRid2] at hv';cases hv'
    ·rintro q (rfl | rfl) hd
     ·rw [hoid,hX] at hd;cases hd
     ·exact hRid2
    ·rintro q a (rfl | rfl) ha' hd
     ·exact ⟨_,hRid⟩
     ·rw [hoid2] at ha';injection ha' with ha';exact absurd ha'.symm hd
    ·rintro q (rfl | rfl) hql h0
     ·rw [hρ] at h0;cases h0
     ·rw [hρ2] at h0;cases h0
   ·cases h
  ·cases h
 ·cases h
theorem run_build1 (hE:EnvOK P E) {T e sh by_:Nat} (hT:E.sl T = some (e,sh,by_)) (hsm:csz sh<=16777216) {u:Value} (hu:u.cells.size = csz sh) (w:World) :
  ∃ cells:Array Value,(Instr.buildSlice T 1 #[(0,u)]).run P w = .ok (.slice (some ⟨w.heap.size,0,none⟩) 1 1) (w.alloc (.cells cells e)) /\ cells.size = csz sh /\ ∀ j,j < csz sh->cells[j]? = u.cells[j]?:=by
 obtain ⟨hun,⟨inf,z,hi,hsz,hby,hiz,hzs⟩,_⟩:=hE.sl T e sh by_ hT
 have hp:=csz_pos sh
 obtain ⟨zc,hzc⟩:∃ zc,zc = (Array.range (1 * csz sh)).map (fun k=>z.cells[k % z.cells.size]!):=⟨_,rfl⟩
 have hzcs:zc.size = 1 * csz sh:=by rw [hzc];simp
 obtain ⟨cells,hfill,hcs,hget⟩:=Great.fill_dense hp [u] 0 zc (by simpa using hu) (by rw [hzcs];simp)
 refine ⟨cells,?_,by rw [hcs,hzcs];omega,fun j hj=>?_⟩
 ·refine run_buildSlice w T e 1 _ cells inf z hun hi hiz (by omega) (by omega) ?_
  rw [hsz]
  subst hzc
  simpa using hfill
 ·rw [hget,if_pos ⟨by simp,by simpa using hj⟩]
  have h1:j / csz sh = 0:=Nat.div_eq_of_lt hj
  simp [h1,Nat.mod_eq_of_lt hj]
theorem allP_some {cs:List CV}:∀ {vs:List PV},allP cs = some vs->cs = vs.map .p:=by
 induction cs with
 | nil=>intro vs h;simp [allP] at h;subst h;rfl
 | cons c cs ih =>
  intro vs h
  cases c <;> simp only [allP] at h <;> first | (cases h;done) | skip
  obtain ⟨us,hu,rfl⟩:=Option.map_eq_some_iff.1 h
  rw [ih hu]
  rfl
theorem RSl_cells {v x:Value} {s lo len:Nat} (h:RSl v s lo len x):x.cells = #[x] /\ x.oneCell' = true:=by
 unfold RSl at h
 split at h
 · obtain ⟨off,rfl,_⟩:=h;exact ⟨rfl,rfl⟩
 · obtain ⟨_,_,rfl⟩:=h;exact ⟨rfl,rfl⟩
 · exact h.elim
theorem elemP_cells {sh:Nat} {vs:List PV} (h:(elemP sh vs).shp sh = true) (hl:vs.length = csz sh):(elemP sh vs).cells = vs:=by
 cases sh with
 | succ n=>rfl
 | zero =>
  have c0:csz 0 = 1:=rfl
  rw [c0] at hl
  match vs,hl with
  | [v],_=>exact PV.cells_of_one (by simpa [PV.shp,elemP] using h)
theorem opBuildNest_sound (hE:EnvOK P E) (hs:SR w Im ρ o) {T:TypeId} {n:Nat} {t:List AV} {ev:Operand->Value} {ps:Array (Nat × Operand)} (hra:∀ q ∈ ps.toList,RA w Im ρ o (aval t q.2) (ev q.2)) (h:opBuildNest E T n t ps.toList o K = some r) :
  Did P w Im ρ o K r (Instr.buildSlice T n (ps.map fun (i,x)=>(i,ev x))):=by
 unfold opBuildNest at h
 split at h
 ·rename_i k e sh by_ i0 x hnest hT hps
  split at h
  ·rename_i cs hsv
   split at h
   ·rename_i id2 ver2 sh2 lo len hcj
    split at h
    ·rename_i e2 sh2' ver2' ys ho2
     obtain ⟨hcnd,h9⟩:=bif_some h
     clear h
     simp only [Bool.and_eq_true,beq_iff_eq,decide_eq_true_eq] at hcnd
     obtain ⟨⟨⟨⟨⟨⟨⟨⟨rfl,rfl⟩,hsm⟩,rfl⟩,rfl⟩,rfl⟩,rfl⟩,rfl⟩,hlen⟩:=hcnd
     obtain ⟨vs,hvs,h8⟩:=bind_some h9
     clear h9
     obtain ⟨hshp1,hkk⟩:=bif_some h8
     clear h8
     simp only [Bool.and_eq_true,beq_iff_eq] at hshp1
     obtain ⟨hvsl,hshp1⟩:=hshp1
     have hec:=elemP_cells hshp1 hvsl
     obtain ⟨sv,hsv,hcs0⟩:=Option.map_eq_some_iff.1 hsv
     have hcs:=allP_some hvs
     have hpa:ps = #[(0,x)]:=by rw [<- Array.toArray_toList (xs:=ps),hps]
     have hx:=hra (0,x) (by rw [hps];simp)
     simp only [sv_some hsv] at hx
     obtain ⟨us,hux⟩:∃ us,us = (ev x).cells:=⟨_,rfl⟩
     have hxx:us.size = cs.length /\ (∀ (i:Nat) (c:CV) (y:Value),cs[i]? = some c->us[i]? = some y->RC w Im ρ o c y) /\ ∀ (i:Nat) (y:Value),us[i]? = some y->y.oneCell' = true:=by
      cases sv with
      | agg cs' =>
       obtain ⟨us',h1,h2,h3,h4⟩:=hx
       have e1:us = us':=by rw [hux,h1];rfl
       have e2:cs' = cs:=hcs0
       subst e1
       subst e2
       exact ⟨h2,h3,h4⟩
      | c c' =>
       have e2:[c'] = cs:=hcs0
       subst e2
       have hxr:RC w Im ρ o c' (ev x):=hx
       have hk0:k.j = 0:=by
        cases hkk0:k.j with
        | zero=>rfl
        | succ q=>rw [hkk0] at hcj;simp at hcj
       have hcj2:=hcj
       rw [hk0] at hcj2
       have hkj:=Option.some.inj (show some c' = _ from hcj2)
       have hxr2:=hxr
       rw [hkj] at hxr2
       simp only [RC,ho2] at hxr2
       obtain ⟨_,v2,_,hsl⟩:=hxr2.2 trivial trivial
       obtain ⟨q1,q2⟩:=RSl_cells hsl
       rw [hux,q1]
       refine ⟨rfl,fun i c y hc hy=>?_,fun i y hy=>?_⟩
       ·cases i with
        | zero=>simp at hc hy;subst hc;subst hy;exact hxr
        | succ i=>simp at hc
       ·cases i with
        | zero=>simp at hy;subst hy;exact q2
        | succ i=>simp at hy
     obtain ⟨hul,hur,hu1⟩:=hxx
     have hjl:k.j < cs.length:=(List.getElem?_eq_some_iff.1 hcj).1
     obtain ⟨y,hy⟩:∃ y,us[k.j]? = some y:=⟨us[k.j]'(by omega),by simp [hul,hjl]⟩
     have hb:=hur k.j _ y hcj hy
     simp only [RC,ho2] at hb
     obtain ⟨_,v2,hρ2,hsl2⟩:=hb.2 trivial trivial
     obtain ⟨vals2,hown2,hshp2,hrp2,hbk2,_⟩:=hs.ob id2 _ _ ho2 hρ2
     replace hrp2:∀ (i:Nat) (x:PV) (j:Nat) (c:PV) (y:Value),ys[i]? = some x->x.cells[j]? = some c->vals2[i * csz k.sh + j]? = some y->RP w Im c y:=hrp2
     obtain ⟨hyo,hyb⟩:=own_take hown2 hsl2 hlen
     have hyc:=own_kid hyo
     have hyB:∀ b,kidBlk y b->Blk v2 b:=fun b hb=>main_Blk ((hyb b).1 (kid_Blk hb))
     have hvl:vs.length = cs.length:=by rw [<- List.length_map (f:=CV.p),<- hcs];simp
     have hsh:csz sh = cs.length:=by omega
     have hucs:(ev x).cells.size = csz sh:=by rw [<- hux];omega
     obtain ⟨cells,hrun,hcsz,hcget⟩:=run_build1 hE hT hsm hucs w
     have hcu:∀ j,j < csz sh->cells[j]? = us[j]?:=fun j hj=>by rw [hcget j hj,hux]
     have hlt2:=(hs.lt id2 _ hρ2).1
     have hltb:=(hs.lt id2 _ hρ2).2
     have hpush:∀ b,b < w.heap.size->(w.alloc (.cells cells e)).heap[b]? = w.heap[b]?:=fun b hb=>push_old _ _ _ hb
     have him:∀ b,Im b->Im b /\ (w.alloc (.cells cells e)).heap[b]? = w.heap[b]?:=fun b hb=>⟨hb,hpush b (hs.im b hb)⟩
     obtain ⟨V,hVd⟩:∃ V,V = Value.tuple [Value.slice (some ⟨w.heap.size,0,none⟩) 1 1,y].toArray:=⟨_,rfl⟩
     have hVm:mainV V = Value.slice (some ⟨w.heap.size,0,none⟩) 1 1:=by rw [hVd];rfl
     have hVb:∀ b,Blk V b->b = w.heap.size ∨ Blk v2 b:=by
      intro b hb
      rw [hVd] at hb
      obtain ⟨q,u,hq,hub⟩:=hb
      match q,hq with
      | 0,hq=>simp at hq;subst hq;exact .inl (by simpa using hub.symm)
      | 1,hq=>simp at hq;subst hq;exact .inr (hyB b hub)
      | q + 2,hq=>simp at hq
     obtain ⟨X,hX⟩:∃ X,X = AObj.arr ⟨e,some { k with nv:=0,hole:=none }⟩ sh 0 false [elemP sh vs]:=⟨_,rfl⟩
     rw [<- hX] at hkk
     have hoid2:(o.set id2 .dead ++ [X])[id2]? = some .dead:=by rw [List.getElem?_append_left (by simpa using hlt2),List.getElem?_set_self hlt2]
     have holen:(o.set id2 .dead ++ [X])[o.length]? = some X:=by rw [List.getElem?_append_right (by simp)];simp
     obtain ⟨R,hR⟩:∃ R,R = upd (upd ρ id2 none) o.length (some V):=⟨_,rfl⟩
     have hRid2:R id2 = none:=by rw [hR,upd_ne (by omega),upd_same]
     have hRlen:R o.length = some V:=by rw [hR,upd_same]
     have hRne:∀ q,q ≠ id2->q ≠ o.length->R q = ρ q:=fun q h1 h2=>by rw [hR,upd_ne h2,upd_ne h1]
     have hnone:ρ o.length = none:=by
      cases h:ρ o.length with
      | none=>rfl
      | some u=>have:=(hs.lt _ u h).1;omega
     have hc:Compat ρ R o (o.set id2 .dead ++ [X]):=by
      intro q a hq
      have hql:=(List.getElem?_eq_some_iff.1 hq).1
      by_cases e2:q = id2
      ·subst e2
       rw [ho2] at hq
       injection hq with hq
       subst hq
       exact ⟨.dead,hoid2,trivial⟩
      ·refine ⟨a,by rw [List.getElem?_append_left (by simpa using hql),List.getElem?_set_ne (Ne.symm e2)];exact hq,?_⟩
       rw [hRne q e2 (by omega)]
       cases a <;> simp [CompatO]
     have hst:=Step.multi (w':=w.alloc (.cells cells e)) (ρ':=R) (o':=o.set id2 .dead ++ [X]) hs ⟨rfl,rfl,rfl,by simp⟩ (fun q=>q = id2 ∨ q = o.length) (by simp) ?_ ?_ hc ?_ ?_ ?_ ?_ ?_ ?_ ?_ ?_ ?_
     ·refine ⟨_,_,.slice (some ⟨w.heap.size,0,none⟩) 1 1,_,Im,_,hkk,by rw [hpa];simpa using hrun,hst,?_⟩
      simp only [RA,RS,RC,holen]
      rw [hX]
      refine ⟨Nat.le_refl _,fun _ _=>⟨by simp,V,hRlen,?_⟩⟩
      rw [hVm]
      exact ⟨0,rfl,by omega,fun _=>by simp⟩
     ·intro q hq hql
      simp only [not_or] at hq
      exact ⟨by rw [List.getElem?_append_left (by simpa using hql),List.getElem?_set_ne (Ne.symm hq.1)],hRne q hq.1 hq.2⟩
     ·intro q hql hq
      simp only [not_or] at hq
      refine ⟨List.getElem?_eq_none (by simp;omega),?_⟩
      rw [hRne q hq.1 hq.2]
      cases h:ρ q with
      | none=>rfl
      | some u=>have:=(hs.lt q u h).1;omega
     ·intro b hb _
      exact hpush b hb
     ·rintro q v' b (rfl | rfl) hv' hb
      ·rw [hρ2] at hv'
       injection hv' with hv'
       subst hv'
       exact (hbk2 b hb).1 rfl
      ·rw [hnone] at hv';cases hv'
     ·rintro q v' b (rfl | rfl) hv' hb
      ·rw [hRid2] at hv';cases hv'
      ·rw [hRlen] at hv'
       injection hv' with hv'
       subst hv'
       rcases hVb b hb with h1 | h1
       ·exact .inr (by omega)
       ·exact .inl ⟨id2,_,.inl rfl,hρ2,h1⟩
     ·rintro q v' (rfl | rfl) hv'
      ·rw [hRid2] at hv';cases hv'
      ·rw [hRlen] at hv'
       injection hv' with hv'
       subst hv'
       refine ⟨by simp,fun b hb=>?_⟩
       rcases hVb b hb with h1 | h1
       ·simp;omega
       ·have:=hltb b h1;simp;omega
     ·rintro q q' v' v1 b (rfl | rfl) (rfl | rfl) h1 h2 h3 h4
      ·rfl
      ·rw [hRid2] at h1;cases h1
      ·rw [hRid2] at h2;cases h2
      ·rfl
     ·rintro q a v' (rfl | rfl) ha' hv'
      ·rw [hRid2] at hv';cases hv'
      ·rw [holen] at ha'
       rw [hRlen] at hv'
       injection ha' with ha'
       injection hv' with hv'
       subst ha'
       subst hv'
       rw [hX]
       have hxl:(ys.take len).length = len:=by simp;omega
       have hcl:cells.toList.length = csz sh:=by simpa using hcsz
       have hylt:(w.alloc (.cells cells e)).ownsAt 0 k.e (csz k.sh) y len (vals2.take (len * csz k.sh)):=ownsRow_main (fun b hb=>hpush b (hltb b (hyB b hb))) hyo
       have hown':(w.alloc (.cells cells e)).ownsAt 0 e (csz sh) (.slice (some ⟨w.heap.size,0,none⟩) 1 1) 1 cells.toList:=by
        refine World.ownsAt_of ⟨by simp [hcl],.inr ⟨w.heap.size,1,cells,rfl,Nat.zero_le _,push_new _ _,Nat.le_refl _,by simp [maxLen],by omega,?_⟩⟩
        rw [Nat.one_mul,<- hcl,List.take_length]
       refine ⟨cells.toList,by rw [hVm];exact hown',by simpa using hshp1,?_,fun b hb=>⟨fun _ hI=>?_,fun h=>nomatch h⟩,rfl,[y],by rw [hVm,hVd],⟨rfl,by show k.j < csz sh;omega,?_,(fun p u h=>nomatch h),?_,?_⟩,?_⟩
       ·intro p x1 j c u hx1 hj hu
        show j ≠ k.j->RP _ Im c u
        intro hjk
        cases p with
        | succ p=>simp at hx1
        | zero =>
         simp at hx1
         subst hx1
         rw [hec] at hj
         have hjl2:j < csz sh:=by rw [hsh,<- hvl];exact (List.getElem?_eq_some_iff.1 hj).1
         rw [Nat.zero_mul,Nat.zero_add,Array.getElem?_toList,hcu j hjl2] at hu
         have hcj2:cs[j]? = some (.p c):=by
          have h1:(cs.set k.j (.p (.row k.sh 0 (ys.take len))))[j]? = some (.p c):=by rw [hcs];simp [hj]
          rwa [List.getElem?_set_ne (Ne.symm hjk)] at h1
         exact RP.mono him (hur j _ u hcj2 hu)
       ·rcases hVb b hb with h1 | h1
        ·have:=hs.im b hI;omega
        ·exact (hbk2 b h1).1 rfl hI
       ·intro p x1 hx1 _
        cases p with
        | succ p=>simp at hx1
        | zero =>
         simp at hx1
         subst hx1
         have hvj:vs[k.j]? = some (.row k.sh 0 (ys.take len)):=by
          have h1:(cs.set k.j (.p (.row k.sh 0 (ys.take len))))[k.j]? = some (.p (.row k.sh 0 (ys.take len))):=List.getElem?_set_self hjl
          rw [hcs] at h1
          simpa using h1
         refine ⟨0,_,y,by rw [hec];exact hvj,.inl rfl,rfl,?_,_,by rw [hxl];exact hylt,fun x hx=>hshp2 x (List.mem_of_mem_take hx),?_⟩
         ·rw [Nat.zero_mul,Nat.zero_add,Array.getElem?_toList,hcu k.j (by omega)]
          exact hy
         ·intro q x j c u hx hj hu
          have hql:q < len:=by have:=(List.getElem?_eq_some_iff.1 hx).1;rwa [hxl] at this
          rw [List.getElem?_take_of_lt hql] at hx
          have hu':vals2[q * csz k.sh + j]? = some u:=by
           rw [List.getElem?_take] at hu
           split at hu
           ·exact hu
           ·cases hu
          exact RP.mono him (hrp2 q x j c u hx hj hu')
       ·intro p p' u u' b h1 h2 _ _
        have h3:=(List.getElem?_eq_some_iff.1 h1).1
        have h4:=(List.getElem?_eq_some_iff.1 h2).1
        simp at h3 h4
        omega
       ·intro p u hu
        have hp2:p < csz sh:=by rw [<- hcl];exact (List.getElem?_eq_some_iff.1 hu).1
        rw [Array.getElem?_toList,hcu p hp2] at hu
        exact hu1 p u hu
       ·intro p u b hp2 hb
        rw [hVm]
        cases p with
        | succ p=>simp at hp2
        | zero =>
         simp at hp2
         subst hp2
         intro h
         have:=hltb b (hyB b hb)
         simp at h
         omega
     ·rintro q (rfl | rfl) hd
      ·exact hRid2
      ·rw [holen,hX] at hd;cases hd
     ·rintro q a (rfl | rfl) ha' hd
      ·rw [hoid2] at ha';injection ha' with ha';exact absurd ha'.symm hd
      ·exact ⟨_,hRlen⟩
     ·rintro q (rfl | rfl) hql h0
      ·rw [hρ2] at h0;cases h0
      ·omega
    ·cases h
   ·cases h
  ·cases h
 ·cases h
theorem opAppendNest_sound (hE:EnvOK P E) (hs:SR w Im ρ o) {T ty:TypeId} {a b:AV} {x y:Value} (ha:RA w Im ρ o a x) (hb:RA w Im ρ o b y) (h:opAppendNest E T a b o K = some r):Did P w Im ρ o K r (Builtin.append_ #[T,T] ty #[x,y]):=by
 unfold opAppendNest at h
 split at h
 ·rename_i e sh by_ id ver sh1 lo len id2 ver2 sh2 lo2 len2 hT hca hcb
  rw [cv_some hca] at ha
  rw [cv_some hcb] at hb
  split at h
  ·rename_i e1 sh1' ver' xs e2 sh2' ver2' ys ho ho2
   split at h
   ·rename_i k1 k2 hk1 hk2
    obtain ⟨hcnd,hkk⟩:=bif_some h
    clear h
    simp only [Bool.and_eq_true,beq_iff_eq,bne_iff_ne,decide_eq_true_eq,Option.isNone_iff_eq_none] at hcnd
    obtain ⟨⟨⟨⟨⟨⟨⟨⟨⟨⟨⟨⟨⟨⟨⟨⟨⟨⟨⟨het,het2⟩,hj⟩,hke⟩,hksh⟩,hh1⟩,hh2⟩,rfl⟩,rfl⟩,rfl⟩,rfl⟩,rfl⟩,rfl⟩,rfl⟩,rfl⟩,hne⟩,rfl⟩,rfl⟩,hlb⟩,hll⟩:=hcnd
    simp only [RA,RS,RC,ho] at ha
    obtain ⟨_,v,hρ,hsl⟩:=ha.2 trivial trivial
    simp only [RA,RS,RC,ho2] at hb
    obtain ⟨_,v2,hρ2,hsl2⟩:=hb.2 trivial trivial
    obtain ⟨vals,hown,hshp,hrp,hbk,hkids⟩:=hs.ob id _ _ ho hρ
    obtain ⟨vals2,hown2,hshp2,hrp2,hbk2,hkids2⟩:=hs.ob id2 _ _ ho2 hρ2
    simp only [RKids,hk1] at hkids
    simp only [RKids,hk2] at hkids2
    obtain ⟨_,ks,hv,hks,hdis⟩:=hkids
    obtain ⟨_,ks2,hv2,hks2,hdis2⟩:=hkids2
    obtain ⟨hx,hxb⟩:=own_take hown hsl (Nat.le_refl _)
    obtain ⟨hy,hyb⟩:=own_take hown2 hsl2 (Nat.le_refl _)
    have e1v:vals.take (xs.length * csz sh) = vals:=by rw [<- hown.1,List.take_length]
    have e2v:vals2.take (ys.length * csz sh) = vals2:=by rw [<- hown2.1,List.take_length]
    rw [e1v,het] at hx
    rw [e2v,het2] at hy
    obtain ⟨hu,⟨inf,z,hi,hsz,hby,hiz,hzs⟩,_⟩:=hE.sl T e sh by_ hT
    have hp:=csz_pos sh
    have hlim:xs.length + ys.length<=maxLen:=by simp only [maxLen];simp only [LIM] at hll;omega
    have main:∃ (v':Value) (w':World),(Builtin.append_ #[T,T] ty #[x,y]).run P w = .ok v' w' /\ w'.ownsAt 0 e (csz sh) v' (xs.length + ys.length) (vals ++ vals2) /\ w.grownBy w' x.ownBlock /\ (v'.ownBlock = x.ownBlock ∨ v'.ownBlock = some w.heap.size):=by
     rcases hy.2 with ⟨rfl,hy0⟩ | ⟨g2,bo2,cap2,cur2,rfl,_⟩
     ·have hys0:ys = []:=List.eq_nil_of_length_eq_zero hy0
      have hv20:vals2 = []:=List.eq_nil_of_length_eq_zero (by rw [hown2.1,hy0];simp)
      subst hys0
      subst hv20
      refine ⟨x,w,?_,by simpa using hx,⟨rfl,rfl,rfl,Nat.le_refl _,fun _ _ _=>rfl⟩,.inl rfl⟩
      rcases hx.2 with ⟨rfl,hn⟩ | ⟨g,bo,cap,cur,rfl,_,_,hnc,_⟩
      ·exact run_append_none hu hi none none 0 0 0 (Nat.le_refl _) w
      ·exact run_append_none hu hi _ none _ cap 0 hnc w
     ·obtain ⟨v',w',hrun,hown',hgr,_,hat⟩:=run_append_at (P:=P) w T ty e inf z (csz sh) by_ hu hi hiz hsz hby hzs hp x xs.length _ hx ⟨g2,bo2,none⟩ ys.length cap2 vals2 hown2.1 (hy.cells (g:=g2) (bo:=bo2) rfl) (fun u hu=>by
       obtain ⟨p,hp⟩:=List.getElem?_of_mem hu
       exact hks2.one p u hp) hlim (by simpa [LIM] using hlb)
      exact ⟨v',w',hrun,hown',hgr,hat⟩
    obtain ⟨v',w',hrun,hown',hgr,hat⟩:=main
    have hxB:∀ b,x.ownBlock = some b->kidBlk (mainV v) b:=by
     intro b hb
     refine (hxb b).1 ?_
     rcases hx.2 with ⟨rfl,_⟩ | ⟨g,bo,cap,cur,rfl,_⟩
     ·cases hb
     ·simp [Value.ownBlock] at hb;subst hb;rfl
    have hvb:∀ b,kidBlk v' b->kidBlk (mainV v) b ∨ b = w.heap.size:=by
     intro b hb
     have h1:=((own_kid hown').2.2 b).1 hb
     rcases hat with h2 | h2
     ·exact .inl (hxB b (h2 ▸ h1))
     ·rw [h2] at h1;injection h1 with h1;exact .inr h1.symm
    have hcross:∀ b,Blk v b->Blk v2 b->False:=fun b h1 h2=>hne (hs.inj id id2 v v2 b hρ hρ2 h1 h2)
    have hunch:∀ b,b < w.heap.size->¬ kidBlk (mainV v) b->w'.heap[b]? = w.heap[b]?:=fun b hb hne=>hgr.block b hb fun h=>hne (hxB b h.symm)
    have hlt:=(hs.lt id _ hρ).1
    have hlt2:=(hs.lt id2 _ hρ2).1
    have hltb:=(hs.lt id _ hρ).2
    have hltb2:=(hs.lt id2 _ hρ2).2
    have him:∀ b,Im b->Im b /\ w'.heap[b]? = w.heap[b]?:=fun b hb=>⟨hb,hunch b (hs.im b hb) fun h=>(hbk b (main_Blk h)).1 rfl hb⟩
    obtain ⟨V,hVd⟩:∃ V,V = Value.tuple (v' :: (ks ++ ks2)).toArray:=⟨_,rfl⟩
    have hVm:mainV V = v':=by rw [hVd];rfl
    have hkk2:∀ (q:Nat) (u:Value),(ks ++ ks2)[q]? = some u->(q < xs.length /\ ks[q]? = some u) ∨ (xs.length<=q /\ ks2[q - xs.length]? = some u):=by
     intro q u hq
     rcases Nat.lt_or_ge q ks.length with h1 | h1
     ·rw [List.getElem?_append_left h1] at hq
      exact .inl ⟨by rw [<- hks.len];exact h1,hq⟩
     ·rw [List.getElem?_append_right h1] at hq
      exact .inr ⟨by rw [<- hks.len];exact h1,by rw [<- hks.len];exact hq⟩
    have hVb:∀ b,Blk V b->Blk v b ∨ Blk v2 b ∨ b = w.heap.size:=by
     intro b hb
     rw [hVd] at hb
     obtain ⟨q,u,hq,hub⟩:=hb
     cases q with
     | zero =>
      simp at hq
      subst hq
      rcases hvb b hub with h1 | h1
      ·exact .inl (main_Blk h1)
      ·exact .inr (.inr h1)
     | succ q =>
      rcases hkk2 q u (by simpa using hq) with ⟨_,h1⟩ | ⟨_,h1⟩
      ·exact .inl (kids_Blk hv h1 hub)
      ·exact .inr (.inl (kids_Blk hv2 h1 hub))
    obtain ⟨X,hX⟩:∃ X,X = AObj.arr e1 sh (ver + 1) false (xs ++ ys):=⟨_,rfl⟩
    rw [<- hX] at hkk
    have hoid:((o.set id X).set id2 .dead)[id]? = some X:=by rw [List.getElem?_set_ne (Ne.symm hne),List.getElem?_set_self hlt]
    have hoid2:((o.set id X).set id2 .dead)[id2]? = some .dead:=by rw [List.getElem?_set_self (by simpa using hlt2)]
    obtain ⟨R,hR⟩:∃ R,R = upd (upd ρ id (some V)) id2 none:=⟨_,rfl⟩
    have hRid:R id = some V:=by rw [hR,upd_ne hne,upd_same]
    have hRid2:R id2 = none:=by rw [hR,upd_same]
    have hRne:∀ q,q ≠ id->q ≠ id2->R q = ρ q:=fun q h1 h2=>by rw [hR,upd_ne h2,upd_ne h1]
    have hc:Compat ρ R o ((o.set id X).set id2 .dead):=by
     intro q a hq
     by_cases e1:q = id
     ·subst e1
      rw [ho] at hq
      injection hq with hq
      subst hq
      refine ⟨X,hoid,?_⟩
      rw [hX]
      exact Or.inl (Nat.lt_succ_self _)
     ·by_cases e2:q = id2
      ·subst e2
       rw [ho2] at hq
       injection hq with hq
       subst hq
       exact ⟨.dead,hoid2,trivial⟩
      ·refine ⟨a,by rw [List.getElem?_set_ne (Ne.symm e2),List.getElem?_set_ne (Ne.symm e1)];exact hq,?_⟩
       rw [hRne q e1 e2]
       cases a <;> simp [CompatO]
    have hst:=Step.multi (w':=w') (ρ':=R) (o':=(o.set id X).set id2 .dead) hs ⟨hgr.os,hgr.tape,hgr.output,hgr.size⟩ (fun q=>q = id ∨ q = id2) (by simp) ?_ ?_ hc ?_ ?_ ?_ ?_ ?_ ?_ ?_ ?_ ?_
    ·refine ⟨_,_,v',w',Im,_,hkk,hrun,hst,?_⟩
     simp only [RA,RS,RC,hoid]
     rw [hX]
     refine ⟨Nat.le_refl _,fun _ _=>⟨by simp,V,hRid,?_⟩⟩
     rw [hVm]
     exact ownsRow_self hown'
    ·intro q hq hql
     simp only [not_or] at hq
     exact ⟨by rw [List.getElem?_set_ne (Ne.symm hq.2),List.getElem?_set_ne (Ne.symm hq.1)],hRne q hq.1 hq.2⟩
    ·intro q hql hq
     simp only [not_or] at hq
     refine ⟨List.getElem?_eq_none (by simp;omega),?_⟩
     rw [hRne q hq.1 hq.2]
     cases h:ρ q with
     | none=>rfl
     | some u=>have:=(hs.lt q u h).1;omega
    ·intro b hb hno
     exact hunch b hb fun h=>hno id v (.inl rfl) hρ (main_Blk h)
    ·rintro q v' b (rfl | rfl) hv' hb
     ·rw [hρ] at hv'
      injection hv' with hv'
      subst hv'
      exact (hbk b hb).1 rfl
     ·rw [hρ2] at hv'
      injection hv' with hv'
      subst hv'
      exact (hbk2 b hb).1 rfl
    ·rintro q v' b (rfl | rfl) hv' hb
     ·rw [hRid] at hv'
      injection hv' with hv'
      subst hv'
      rcases hVb b hb with h1 | h1 | h1
      ·exact .inl ⟨q,_,.inl rfl,hρ,h1⟩
      ·exact .inl ⟨id2,_,.inr rfl,hρ2,h1⟩
      ·exact .inr (by omega)
     ·rw [hRid2] at hv';cases hv'
    ·rintro q v1 (rfl | rfl) hv'
     ·rw [hRid] at hv'
      injection hv' with hv'
      subst hv'
      refine ⟨by simpa using hlt,fun b hb=>?_⟩
      rw [hVd] at hb
      obtain ⟨p,u,hq,hub⟩:=hb
      cases p with
      | zero =>
       simp at hq
       subst hq
       exact ownsRow_lt hown' b (kid_Blk hub)
      | succ p =>
       rcases hkk2 p u (by simpa using hq) with ⟨_,h1⟩ | ⟨_,h1⟩
       ·exact Nat.lt_of_lt_of_le (hltb b (kids_Blk hv h1 hub)) hgr.size
       ·exact Nat.lt_of_lt_of_le (hltb2 b (kids_Blk hv2 h1 hub)) hgr.size
     ·rw [hRid2] at hv';cases hv'
    ·rintro q q' v' v1 b (rfl | rfl) (rfl | rfl) h1 h2 h3 h4
     ·rfl
     ·rw [hRid2] at h2;cases h2
     ·rw [hRid2] at h1;cases h1
     ·rfl
    ·rintro q a v1 (rfl | rfl) ha' hv'
     ·rw [hoid] at ha'
      rw [hRid] at hv'
      injection ha' with ha'
      injection hv' with hv'
      subst ha'
      subst hv'
      rw [hX]
      have split:∀ (p:Nat) (x:PV),(xs ++ ys)[p]? = some x->(p < xs.length /\ xs[p]? = some x) ∨ (xs.length<=p /\ ys[p - xs.length]? = some x):=by
       intro p x hp
       rcases Nat.lt_or_ge p xs.length with h1 | h1
       ·rw [List.getElem?_append_left h1] at hp;exact .inl ⟨h1,hp⟩
       ·rw [List.getElem?_append_right h1] at hp;exact .inr ⟨h1,hp⟩
      have vget:∀ (p j:Nat),j < csz sh->(p < xs.length->(vals ++ vals2)[p * csz sh + j]? = vals[p * csz sh + j]?) /\ (xs.length<=p->(vals ++ vals2)[p * csz sh + j]? = vals2[(p - xs.length) * csz sh + j]?):=by
       intro p j hj
       refine ⟨fun h=>?_,fun h=>?_⟩
       ·have:=get_flat h hj
        rw [List.getElem?_append_left (by rw [hown.1];exact this)]
       ·have h1:xs.length * csz sh<=p * csz sh:=Nat.mul_le_mul_right _ h
        rw [List.getElem?_append_right (by rw [hown.1];omega),hown.1,Nat.sub_mul]
        congr 1
        omega
      have hnk:∀ (q:Nat) (u:Value) (b:Nat),ks[q]? = some u->kidBlk u b->w'.heap[b]? = w.heap[b]?:=fun q u b h1 h2=>hunch b (hltb b (kids_Blk hv h1 h2)) (hdis q u b h1 h2)
      have hnk2:∀ (q:Nat) (u:Value) (b:Nat),ks2[q]? = some u->kidBlk u b->w'.heap[b]? = w.heap[b]?:=fun q u b h1 h2=>hunch b (hltb2 b (kids_Blk hv2 h1 h2)) fun h=>hcross b (main_Blk h) (kids_Blk hv2 h1 h2)
      refine ⟨vals ++ vals2,by rw [hVm,List.length_append,het];exact hown',?_,?_,fun b hb=>⟨fun _ hI=>?_,fun h=>nomatch h⟩,?_⟩
      ·intro x hx
       rcases List.mem_append.1 hx with hx | hx
       ·exact hshp x hx
       ·exact hshp2 x hx
      ·intro p x j c u hx hjc hu
       have hjl:j < csz sh:=by
        rcases split p x hx with ⟨_,h2⟩ | ⟨_,h2⟩
        ·rw [<- PV.shp_len (hshp x (List.mem_of_getElem? h2))];exact (List.getElem?_eq_some_iff.1 hjc).1
        ·rw [<- PV.shp_len (hshp2 x (List.mem_of_getElem? h2))];exact (List.getElem?_eq_some_iff.1 hjc).1
       unfold RPk
       rw [hk1]
       intro hjk
       rcases split p x hx with ⟨h1,h2⟩ | ⟨h1,h2⟩
       ·rw [(vget p j hjl).1 h1] at hu
        have h4:=hrp p x j c u h2 hjc hu
        unfold RPk at h4
        rw [hk1] at h4
        exact RP.mono him (h4 hjk)
       ·rw [(vget p j hjl).2 h1] at hu
        have h4:=hrp2 _ x j c u h2 hjc hu
        unfold RPk at h4
        rw [hk2] at h4
        exact RP.mono him (h4 (by rw [<- hj];exact hjk))
      ·rcases hVb b hb with h1 | h1 | h1
       ·exact (hbk b h1).1 rfl hI
       ·exact (hbk2 b h1).1 rfl hI
       ·have:=hs.im b hI;omega
      ·unfold RKids
       rw [hk1]
       refine ⟨rfl,ks ++ ks2,by rw [hVm,hVd],⟨by simp [hks.len,hks2.len],hks.jlt,?_,?_,?_,?_⟩,?_⟩
       ·intro p x1 hx1 _
        rcases split p x1 hx1 with ⟨h1,h2⟩ | ⟨h1,h2⟩
        ·obtain ⟨f2,ys2,u2,c1,c2,c3,c4,c5⟩:=hks.kid p x1 h2 (by rw [hh1];simp)
         exact ⟨f2,ys2,u2,c1,c2,by rw [List.getElem?_append_left (by rw [hks.len];exact h1)];exact c3,by rw [(vget p k1.j hks.jlt).1 h1];exact c4,c5.keep him fun b hb=>hnk p u2 b c3 hb⟩
        ·obtain ⟨f2,ys2,u2,c1,c2,c3,c4,c5⟩:=hks2.kid _ x1 h2 (by rw [hh2];simp)
         refine ⟨f2,ys2,u2,by rw [hj,hksh];exact c1,c2,by rw [List.getElem?_append_right (by rw [hks.len];exact h1),hks.len];exact c3,by rw [(vget p k1.j hks.jlt).2 h1,hj];exact c4,?_⟩
         rw [hke,hksh]
         exact c5.keep him fun b hb=>hnk2 _ u2 b c3 hb
       ·intro p u h;rw [hh1] at h;cases h
       ·intro p p' u u' b h1 h2 h3 h4
        rcases hkk2 p u h1 with ⟨a1,a2⟩ | ⟨a1,a2⟩ <;> rcases hkk2 p' u' h2 with ⟨b1,b2⟩ | ⟨b1,b2⟩
        ·exact hks.inj p p' u u' b a2 b2 h3 h4
        ·exact (hcross b (kids_Blk hv a2 h3) (kids_Blk hv2 b2 h4)).elim
        ·exact (hcross b (kids_Blk hv b2 h4) (kids_Blk hv2 a2 h3)).elim
        ·have:=hks2.inj _ _ u u' b a2 b2 h3 h4;omega
       ·intro p u hu
        rcases Nat.lt_or_ge p vals.length with h1 | h1
        ·rw [List.getElem?_append_left h1] at hu;exact hks.one p u hu
        ·rw [List.getElem?_append_right h1] at hu;exact hks2.one _ u hu
       ·intro p u b hp2 hb h
        rw [hVm] at h
        have hlb:b < w.heap.size:=by
         rcases hkk2 p u hp2 with ⟨_,a2⟩ | ⟨_,a2⟩
         ·exact hltb b (kids_Blk hv a2 hb)
         ·exact hltb2 b (kids_Blk hv2 a2 hb)
        rcases hvb b h with h1 | h1
        ·rcases hkk2 p u hp2 with ⟨_,a2⟩ | ⟨_,a2⟩
         ·exact hdis p u b a2 hb h1
         ·exact hcross b (main_Blk h1) (kids_Blk hv2 a2 hb)
        ·omega
     ·rw [hRid2] at hv';cases hv'
    ·rintro q (rfl | rfl) hd
     ·rw [hoid,hX] at hd;cases hd
     ·exact hRid2
    ·rintro q a (rfl | rfl) ha' hd
     ·exact ⟨_,hRid⟩
     ·rw [hoid2] at ha';injection ha' with ha';exact absurd ha'.symm hd
    ·rintro q (rfl | rfl) hql h0
     ·rw [hρ] at h0;cases h0
     ·rw [hρ2] at h0;cases h0
   ·cases h
  ·cases h
 ·cases h
end
end Go.Dp
/- All operations that neither part the ways nor call. -/
set_option linter.unusedVariables false
set_option linter.unusedSimpArgs false
namespace Go.Dp
section
variable {P:Program} {E:Env} {w w':World} {Im Im':Nat->Prop} {ρ ρ':Nat->Option Value} {o o':List AObj} {K:Kt} {r:List SV × List (List CV)} {t:List AV} {a:Act}
structure TR (w:World) (Im:Nat->Prop) (ρ:Nat->Option Value) (o:List AObj) (t:List AV) (a:Act):Prop where
 size:a.tmps.size = t.length
 at_:∀ i,RA w Im ρ o (getT t i) (a.tmps.getD i undef)
theorem TR.mono (h:TR w Im ρ o t a) (hk:∀ v x,RA w Im ρ o v x->RA w' Im' ρ' o' v x):TR w' Im' ρ' o' t a:=⟨h.size,fun i=>hk _ _ (h.at_ i)⟩
theorem getT_set (t:List AV) (d i:Nat) (v:AV):getT (t.set d v) i = if d = i /\ d < t.length then v else getT t i:=by
 unfold getT
 by_cases h:d = i
 ·subst h
  by_cases h2:d < t.length
  ·rw [List.getElem?_set_self h2,if_pos ⟨rfl,h2⟩];rfl
  ·rw [if_neg (by omega),List.getElem?_eq_none (by simp;omega),List.getElem?_eq_none (by omega)]
 ·rw [List.getElem?_set_ne h,if_neg (by omega)]
theorem getD_set (ts:Array Value) (d i:Nat) (v:Value):(ts.setIfInBounds d v).getD i undef = if d = i /\ d < ts.size then v else ts.getD i undef:=by
 simp only [Array.getD_eq_getD_getElem?,Array.getElem?_setIfInBounds]
 by_cases h:d = i
 ·subst h
  by_cases h2:d < ts.size
  ·simp [h2]
  ·simp [h2]
 ·simp [h]
theorem TR.put (h:TR w Im ρ o t a) {v:AV} {x:Value} (hv:RA w Im ρ o v x) (d:Option Tmp):TR w Im ρ o (putD t d v) (a.put d x):=by
 cases d with
 | none=>exact h
 | some d =>
  refine ⟨by simp [putD,Act.put,h.size],fun i=>?_⟩
  simp only [putD,Act.put]
  rw [getT_set,getD_set,h.size]
  split
  ·exact hv
  ·exact h.at_ i
theorem aval_sound (h:TR w Im ρ o t a) (x:Operand):RA w Im ρ o (aval t x) (a.eval x):=by
 cases x with
 | tmp i=>exact h.at_ i
 | const v =>
  simp only [aval,Act.eval]
  unfold constAV
  split
  ·exact RP.int _ _
  ·exact RP.bool _
  ·exact RP.str _
  ·exact RP.nil _ _ (by decide)
  ·trivial
 | global g=>trivial
 | func f=>exact ⟨#[],rfl,rfl,fun i id h=>by simp at h⟩
theorem capIds_sound:∀ {xs:List Operand} {ids:List Nat},(∀ x ∈ xs,RA w Im ρ o (aval t x) (a.eval x))->capIds t xs = some ids->ids.length = xs.length /\ ∀ (i id:Nat),ids[i]? = some id->∃ y,(xs.map a.eval)[i]? = some y /\ RB ρ o id 0 y
 | [],ids,h,hc=>by simp [capIds] at hc;subst hc;exact ⟨rfl,fun i id h=>by simp at h⟩
 | x :: xs,ids,h,hc=>by
  simp only [capIds] at hc
  split at hc
  ·rename_i id hx
   obtain ⟨is,his,rfl⟩:=Option.map_eq_some_iff.1 hc
   obtain ⟨hl,hr⟩:=capIds_sound (fun y hy=>h y (by simp [hy])) his
   refine ⟨by simp [hl],fun i j hj=>?_⟩
   cases i with
   | zero =>
    simp at hj
    subst hj
    have:=h x (by simp)
    rw [cv_some hx] at this
    exact ⟨a.eval x,by simp,this⟩
   | succ i=>simpa using hr i j (by simpa using hj)
  ·cases hc
theorem capVals_sound:∀ {xs:List Operand} {us:List PV},(∀ x ∈ xs,RA w Im ρ o (aval t x) (a.eval x))->capVals t xs = some us->us.length = xs.length /\ ∀ (i:Nat) (u:PV),us[i]? = some u->∃ b base,(xs.map a.eval)[i]? = some (.pointer (some ⟨b,base,none⟩)) /\ Im b /\ u.shp u.cells.length = true /\ ∀ (j:Nat) (c:PV),u.cells[j]? = some c->∃ y,w.cell? ⟨b,base + j,none⟩ = some y /\ RP w Im c y
 | [],us,h,hc=>by simp [capVals] at hc;subst hc;exact ⟨rfl,fun i u h=>by simp at h⟩
 | x :: xs,us,h,hc=>by
  simp only [capVals] at hc
  split at hc
  ·rename_i v sh hx
   obtain ⟨hsh,hc⟩:=bif_some hc
   simp only [beq_iff_eq] at hsh
   obtain ⟨vs,hvs,rfl⟩:=Option.map_eq_some_iff.1 hc
   obtain ⟨hl,hr⟩:=capVals_sound (fun y hy=>h y (by simp [hy])) hvs
   refine ⟨by simp [hl],fun i u hu=>?_⟩
   cases i with
   | zero =>
    simp at hu
    subst hu
    have:=h x (by simp)
    rw [cv_some hx] at this
    obtain ⟨b,base,h1,h2,h3,h4⟩:=this
    refine ⟨b,base,?_,h2,by rw [<- hsh];exact h3,h4⟩
    simp only [List.map_cons,List.getElem?_cons_zero,h1,Nat.add_zero]
   | succ i=>simpa using hr i u (by simpa using hu)
  ·cases hc
def DidN (P:Program) (w:World) (Im:Nat->Prop) (ρ:Nat->Option Value) (o:List AObj) (K:Kt) (r:List SV × List (List CV)) (s:Sem Next):Prop :=
 ∃ v o' y w' Im' ρ',K v o' = some r /\ Step w Im ρ o w' Im' ρ' o' /\ RA w' Im' ρ' o' v y /\ (s.run P w = .ok (.value y) w' ∨ (s.run P w = .ok .skip w' /\ y = undef))
def DidQ (P:Program) (w:World) (Im:Nat->Prop) (ρ:Nat->Option Value) (o:List AObj) (K:Kt) (r:List SV × List (List CV)) (s:Sem Next):Prop :=
 ∃ v y,K v o = some r /\ s.run P w = .ok (.value y) w /\ RA w Im ρ o v y
theorem Did.value {s:Sem Value} (h:Did P w Im ρ o K r s) {n:Sem Next} (e:n = (do pure (.value (<- s)))):DidN P w Im ρ o K r n:=by
 obtain ⟨v,o',y,w',Im',ρ',h1,h2,h3,h4⟩:=h
 refine ⟨v,o',y,w',Im',ρ',h1,h3,h4,.inl ?_⟩
 subst e
 simp [h2]
theorem DidS.value {s:Sem Value} (h:DidS P w Im ρ o K r s) {n:Sem Next} (e:n = (do pure (.value (<- s)))):DidQ P w Im ρ o K r n:=by
 obtain ⟨v,y,h1,h2,h3⟩:=h
 refine ⟨v,y,h1,?_,h3⟩
 subst e
 simp [h2]
theorem DidQ.did (hs:SR w Im ρ o) {n:Sem Next} (h:DidQ P w Im ρ o K r n):DidN P w Im ρ o K r n :=
 let ⟨v,y,h1,h2,h3⟩:=h;⟨v,o,y,w,Im,ρ,h1,Step.refl hs,h3,.inl h2⟩
theorem map_opt {x:Option Operand} (h:∀ y,x = some y->RA w Im ρ o (aval t y) (a.eval y)):(∀ v,x.map (aval t) = some v->∃ y,x.map a.eval = some y /\ RA w Im ρ o v y) /\ (x.map (aval t) = none->x.map a.eval = none):=by
 cases x with
 | none=>exact ⟨fun v h=>by simp at h,fun _=>rfl⟩
 | some x=>exact ⟨fun v hv=>by simp at hv;subst hv;exact ⟨_,rfl,h x rfl⟩,fun h=>by simp at h⟩
theorem list1 {α:Type} {xs:Array α} {a:α} (h:xs.toList = [a]):xs = #[a]:=by rw [<- Array.toArray_toList (xs:=xs),h]
theorem list2 {α:Type} {xs:Array α} {a b:α} (h:xs.toList = [a,b]):xs = #[a,b]:=by rw [<- Array.toArray_toList (xs:=xs),h]
theorem list0 {α:Type} {xs:Array α} (h:xs.toList = []):xs = #[]:=by rw [<- Array.toArray_toList (xs:=xs),h]
theorem opCap_sound (hE:EnvOK P E) (hs:SR w Im ρ o) {T ty:TypeId} {a:AV} {x:Value} (ha:RA w Im ρ o a x) (h:opCap E T a o K = some r):DidS P w Im ρ o K r (Builtin.cap_ #[T] ty #[x]):=by
 unfold opCap at h
 split at h
 ·rename_i v q hav hT
  obtain ⟨⟨sh,f,xs⟩,hv,h⟩:=bind_some h
  obtain ⟨hf,hk⟩:=bif_some h
  simp only [beq_iff_eq] at hf
  subst hf
  have hx:=ha.pv hav
  rw [row_some hv] at hx
  obtain ⟨e,sh',by_⟩:=q
  have hu:=(hE.sl T e sh' by_ hT).1
  cases hx with
  | nil=>exact DidS.same hk (by simp [Builtin.cap_,run_underlying hu,goInt]) (RP.int _ _)
  | row _ _ _ a cap g hf=>exact absurd rfl hf
 ·cases h
theorem opMin_sound (hE:EnvOK P E) (hs:SR w Im ρ o) (mx:Bool) {ts:Array TypeId} {ty:TypeId} {a b:AV} {x y:Value} (ha:RA w Im ρ o a x) (hb:RA w Im ρ o b y) (h:opMin mx a b o K = some r):DidS P w Im ρ o K r (match mx with | true=>Builtin.max_ ts ty #[x,y] | false=>Builtin.min_ ts ty #[x,y]):=by
 unfold opMin at h
 split at h
 ·rename_i k m k' n hav hbv
  have hx:=ha.pv hav
  have hy:=hb.pv hbv
  cases hx
  cases hy
  cases mx
  ·refine DidS.same h ?_ (RP.int _ _)
   rw [run_min_int2]
   simp only [cond_false,minI]
   by_cases hlt:n < m <;> simp [hlt]
  ·refine DidS.same h ?_ (RP.int _ _)
   rw [run_max_int2]
   simp only [cond_true,maxI]
   by_cases hlt:n > m <;> simp [hlt]
 ·cases h
theorem evOpQ_sound (hE:EnvOK P E) (hs:SR w Im ρ o) (oo:Oper) {op:Op} (hop:oo.op = op) (av:∀ x ∈ op.operands.toList,RA w Im ρ o (aval t x) (a.eval x)) (hq:silent op = true) (h:evOp E op ⟨t,o⟩ K = some r):DidQ P w Im ρ o K r (execOp a.eval oo):=by
 cases op with
 | move x=>exact ⟨_,_,h,by simp [execOp,hop],av x (by simp [Op.operands])⟩
 | assign x=>exact ⟨_,_,h,by simp [execOp,hop],av x (by simp [Op.operands])⟩
 | build T ps=>exact (opBuild_sound hE hs (ev:=a.eval) (fun q hq=>av q.2 (by simp only [Op.operands];exact List.mem_map.2 ⟨q,hq,rfl⟩)) h).value (by simp [execOp,hop])
 | load T x=>exact (opLoad_sound hE hs (av x (by simp [Op.operands])) h).value (by simp [execOp,hop])
 | nilCheck x =>
  simp only [evOp] at h
  split at h
  ·rename_i id off hc
   obtain ⟨hb,hk⟩:=bif_some h
   obtain ⟨cs,ho⟩:=isBox_some hb
   have hx:=av x (by simp [Op.operands])
   rw [cv_some hc] at hx
   have hx':=hx
   simp only [RA,RS,RC,RB,ho] at hx'
   obtain ⟨b,hρ,hv⟩:=hx'
   exact ⟨_,.pointer (some ⟨b,off,none⟩),hk,by simp [execOp,hop,hv],by rw [hv] at hx;exact hx⟩
  ·cases h
 | binOp op T x y flag =>
  simp only [evOp] at h
  split at h
  ·rename_i p q hp hq
   split at h
   ·rename_i c hc
    obtain ⟨hT,hk⟩:=bif_some h
    exact (DidS.same (P:=P) hk (nilEq_sound hE x y hc hT ((av x (by simp [Op.operands])).pv hp) ((av y (by simp [Op.operands])).pv hq)) (RP.bool _)).value (by simp [execOp,hop])
   cases hn:nilRow op p q
   rotate_left
   ·rw [hn] at h
    simp only [cond_true] at h
    obtain ⟨hT,hk⟩:=bif_some h
    rw [Bool.and_eq_true] at hT
    exact (DidS.same (P:=P) hk (nilFull_sound hE x y hn hT.2 hT.1 ((av x (by simp [Op.operands])).pv hp) ((av y (by simp [Op.operands])).pv hq)) (RP.bool _)).value (by simp [execOp,hop])
   rw [hn] at h
   simp only [cond_false] at h
   rw [binK_eq] at h
   obtain ⟨v,hv,hk⟩:=bind_some h
   obtain ⟨z,hz,hr⟩:=pbinT_sound hE x y hv ((av x (by simp [Op.operands])).pv hp) ((av y (by simp [Op.operands])).pv hq)
   exact (DidS.same (P:=P) hk hz hr).value (by simp [execOp,hop])
  ·cases h
 | unOp op T x =>
  obtain ⟨p,hp,h⟩:=bind_some h
  obtain ⟨v,hv,hk⟩:=bind_some h
  obtain ⟨z,hz,hr⟩:=pun_sound (P:=P) hv ((av x (by simp [Op.operands])).pv hp)
  exact (DidS.same (P:=P) hk hz hr).value (by simp [execOp,hop])
 | convert S T x=>exact (opConvert_sound hE hs (av x (by simp [Op.operands])) h).value (by simp [execOp,hop])
 | makeFunc fn first caps =>
  simp only [evOp] at h
  unfold opMakeFunc at h
  split at h
  ·rename_i f hfirst
   split at h
   ·rename_i u us hus
    obtain ⟨hl,hr⟩:=capVals_sound (fun x hx=>av x (by simp [Op.operands];exact .inr (by simpa using hx))) hus
    have h0:=list0 hfirst
    subst h0
    refine ⟨_,.func (.func f) #[] (caps.map a.eval),h,by simp [execOp,hop,Instr.makeFunc],⟨_,rfl,by simpa using hl.symm,fun i v hi=>?_⟩⟩
    obtain ⟨b,base,h1,h2⟩:=hr i v hi
    exact ⟨b,base,by rw [<- Array.getElem?_toList];simpa using h1,h2⟩
   obtain ⟨ids,hids,hk⟩:=bind_some h
   obtain ⟨hl,hr⟩:=capIds_sound (fun x hx=>av x (by simp [Op.operands];exact .inr (by simpa using hx))) hids
   have h0:=list0 hfirst
   subst h0
   refine ⟨_,.func (.func f) #[] (caps.map a.eval),hk,by simp [execOp,hop,Instr.makeFunc],⟨_,rfl,by simp [hl],fun i id hi=>?_⟩⟩
   obtain ⟨y,hy,hb⟩:=hr i id hi
   exact ⟨y,by simpa using hy,hb⟩
  ·cases h
 | slice T x lo hi mx =>
  have h1:=map_opt (x:=lo) (t:=t) (a:=a) fun y hy=>av y (by simp [Op.operands,hy])
  have h2:=map_opt (x:=hi) (t:=t) (a:=a) fun y hy=>av y (by simp [Op.operands,hy])
  have h3:=map_opt (x:=mx) (t:=t) (a:=a) fun y hy=>av y (by simp [Op.operands,hy])
  exact (opSlice_sound hE hs (av x (by simp [Op.operands])) h1.1 h1.2 h2.1 h2.2 h3.1 h3.2 h).value (by simp [execOp,hop])
 | fieldAddr T x f=>exact (opFieldAddr_sound hE hs (av x (by simp [Op.operands])) h).value (by simp [execOp,hop])
 | indexAddr T x i=>exact (opIndexAddr_sound hE hs (av x (by simp [Op.operands])) (av i (by simp [Op.operands])) h).value (by simp [execOp,hop])
 | index T x i=>exact (opIndex_sound hE hs (av x (by simp [Op.operands])) (av i (by simp [Op.operands])) h).value (by simp [execOp,hop])
 | extract x i=>exact (opExtract_sound hs (av x (by simp [Op.operands])) h).value (by simp [execOp,hop])
 | field T x f=>exact (opField_sound hE hs (av x (by simp [Op.operands])) h).value (by simp [execOp,hop])
 | call c =>
  simp only [evOp] at h
  split at h
  ·rename_i x T hc ha hT
   exact (opLen_sound hE hs (ty:=oo.type) (av x (by simp [Op.operands,Call.operands,hc,list1 ha])) h).value (by simp [execOp,hop,resolve,hc,invoke,builtin,list1 ha,list1 hT])
  ·rename_i x y T T' hc ha hT
   simp [silent,hc] at hq
  ·rename_i x T hc ha hT
   exact (opCap_sound hE hs (ty:=oo.type) (av x (by simp [Op.operands,Call.operands,hc,list1 ha])) h).value (by simp [execOp,hop,resolve,hc,invoke,builtin,list1 ha,list1 hT])
  ·rename_i x y hc ha
   exact (opMin_sound hE hs false (ts:=c.argTypes) (ty:=oo.type) (av x (by simp [Op.operands,Call.operands,hc,list2 ha])) (av y (by simp [Op.operands,Call.operands,hc,list2 ha])) h).value (by simp [execOp,hop,resolve,hc,invoke,builtin,list2 ha])
  ·rename_i x y hc ha
   exact (opMin_sound hE hs true (ts:=c.argTypes) (ty:=oo.type) (av x (by simp [Op.operands,Call.operands,hc,list2 ha])) (av y (by simp [Op.operands,Call.operands,hc,list2 ha])) h).value (by simp [execOp,hop,resolve,hc,invoke,builtin,list2 ha])
  ·rename_i x y T T' hc ha hT
   simp [silent,hc] at hq
  ·rename_i x T hc ha hT
   simp [silent,hc] at hq
  ·cases h
 | _=>simp [silent] at hq
theorem evOp_sound (hE:EnvOK P E) (hs:SR w Im ρ o) (oo:Oper) {op:Op} (hop:oo.op = op) (av:∀ x ∈ op.operands.toList,RA w Im ρ o (aval t x) (a.eval x)) (h:evOp E op ⟨t,o⟩ K = some r):DidN P w Im ρ o K r (execOp a.eval oo):=by
 cases hq:silent op
 ·cases op with
  | alloc T=>exact (opAlloc_sound hE hs h).value (by simp [execOp,hop])
  | box T x=>exact (opBox_sound hE hs (av x (by simp [Op.operands])) h).value (by simp [execOp,hop])
  | buildSlice T n ps =>
   simp only [evOp] at h
   cases hn:nestEl E T t ps.toList <;> rw [hn] at h <;> simp only [cond_true,cond_false] at h
   ·exact (opBuildSlice_sound hE hs (ev:=a.eval) (fun q hq=>av q.2 (by simp only [Op.operands];exact List.mem_map.2 ⟨q,hq,rfl⟩)) h).value (by simp [execOp,hop])
   ·exact (opBuildNest_sound hE hs (ev:=a.eval) (fun q hq=>av q.2 (by simp only [Op.operands];exact List.mem_map.2 ⟨q,hq,rfl⟩)) h).value (by simp [execOp,hop])
  | store T x y =>
   have hd:Did P w Im ρ o K r (do Instr.storeAt T (a.eval x) (a.eval y);pure undef):=by
    simp only [evOp] at h
    cases hn:givesTo o (aval t x) (aval t y) <;> rw [hn] at h <;> simp only [cond_true,cond_false] at h
    ·exact opStore_sound hE hs (av x (by simp [Op.operands])) (av y (by simp [Op.operands])) h
    ·exact opGive_sound hE hs (av x (by simp [Op.operands])) (av y (by simp [Op.operands])) h
   obtain ⟨v,o',z,w',Im',ρ',h1,h2,h3,h4⟩:=hd
   cases hr:(Instr.storeAt T (a.eval x) (a.eval y)).run P w with
   | ok u w2 =>
    rw [Sem.run_bind,hr] at h2
    simp only [Result.andThen_ok,Sem.run_pure] at h2
    injection h2 with h5 h6
    subst h5
    subst h6
    exact ⟨v,o',_,_,Im',ρ',h1,h3,h4,.inr ⟨by simp [execOp,hop,hr],rfl⟩⟩
   | halt x w2 =>
    rw [Sem.run_bind,hr] at h2
    simp [Result.andThen] at h2
  | makeSlice T l c=>exact (opMakeSlice_sound hE hs (av l (by simp [Op.operands])) (av c (by simp [Op.operands])) h).value (by simp [execOp,hop])
  | call c =>
   simp only [evOp] at h
   split at h
   ·rename_i x T hc ha hT
    simp [silent,hc] at hq
   ·rename_i x y T T' hc ha hT
    cases he:T == T' <;> rw [he] at h <;> simp only [cond_true,cond_false] at h
    ·exact (opAppendZ_sound hE hs (ty:=oo.type) (av x (by simp [Op.operands,Call.operands,hc,list2 ha])) (av y (by simp [Op.operands,Call.operands,hc,list2 ha])) h).value (by simp [execOp,hop,resolve,hc,invoke,builtin,list2 ha,list2 hT])
    ·simp at he
     subst he
     cases hn:nestLoc o (aval t y) <;> rw [hn] at h <;> simp only [cond_true,cond_false] at h
     ·exact (opAppend_sound hE hs (ty:=oo.type) (av x (by simp [Op.operands,Call.operands,hc,list2 ha])) (av y (by simp [Op.operands,Call.operands,hc,list2 ha])) h).value (by simp [execOp,hop,resolve,hc,invoke,builtin,list2 ha,list2 hT])
     ·exact (opAppendNest_sound hE hs (ty:=oo.type) (av x (by simp [Op.operands,Call.operands,hc,list2 ha])) (av y (by simp [Op.operands,Call.operands,hc,list2 ha])) h).value (by simp [execOp,hop,resolve,hc,invoke,builtin,list2 ha,list2 hT])
   ·rename_i x T hc ha hT
    simp [silent,hc] at hq
   ·rename_i x y hc ha
    simp [silent,hc] at hq
   ·rename_i x y hc ha
    simp [silent,hc] at hq
   ·rename_i x y T T' hc ha hT
    exact (opCopy_sound hE hs (T':=T') (ty:=oo.type) (av x (by simp [Op.operands,Call.operands,hc,list2 ha])) (av y (by simp [Op.operands,Call.operands,hc,list2 ha])) h).value (by simp [execOp,hop,resolve,hc,invoke,builtin,list2 ha,list2 hT])
   ·rename_i x T hc ha hT
    exact (opClear_sound hE hs (ty:=oo.type) (av x (by simp [Op.operands,Call.operands,hc,list1 ha])) h).value (by simp [execOp,hop,resolve,hc,invoke,builtin,list1 ha,list1 hT])
   ·cases h
  | _=>first | (simp [silent] at hq;done) | (simp [evOp] at h;done)
 ·exact (evOpQ_sound hE hs oo hop av hq h).did hs
end
end Go.Dp
/- Handing over: rows of one's own go out and come in. -/
set_option linter.unusedVariables false
set_option linter.unusedSimpArgs false
namespace Go.Dp
def OwnRow (w:World) (Im:Nat->Prop) (e:Et) (sh:Nat) (xs:List PV) (y:Value):Prop:=RO w Im (fun _=>none) [] y (.arr e sh 0 false xs)
theorem RP.mainV {w:World} {Im:Nat->Prop} {v:PV} {y:Value} (h:RP w Im v y):mainV y = y:=by
 cases h
 case junk h1 _=>cases y <;> first | rfl | (simp [Value.oneCell'] at h1)
 all_goals rfl
theorem RO.arr_lt {w:World} {Im:Nat->Prop} {ρ:Nat->Option Value} {o:List AObj} {v:Value} {e:Et} {sh ver:Nat} {xs:List PV} (h:RO w Im ρ o v (.arr e sh ver false xs)) {b:Nat} (hb:Blk v b):b < w.heap.size:=by
 obtain ⟨vals,hown,_,_,_,hk⟩:=h
 cases hkd:e.kd with
 | none =>
  simp only [RKids,hkd] at hk
  have hm:=hk trivial
  rw [hm] at hown
  exact ownsRow_lt hown b hb
 | some k =>
  simp only [RKids,hkd] at hk
  obtain ⟨_,ks,hv,hks,_⟩:=hk
  rw [hv] at hb
  obtain ⟨q,u,hq,hub⟩:=hb
  cases q with
  | zero =>
   simp at hq
   subst hq
   exact ownsRow_lt hown b (kid_Blk hub)
  | succ q =>
   replace hq:ks[q]? = some u:=by simpa using hq
   have hql:q < xs.length:=by rw [<- hks.len];exact (List.getElem?_eq_some_iff.1 hq).1
   by_cases hh:k.hole = some q
   ·rw [hks.out q u hh hq] at hub;exact hub.elim
   ·obtain ⟨_,_,u2,_,_,h3,_,vals2,h5,_⟩:=hks.kid q xs[q] (by simp [hql]) hh
    rw [hq] at h3
    injection h3 with h3
    subst h3
    exact ownsRow_lt h5 b (kid_Blk hub)
def TokC (w:World) (Im:Nat->Prop):CV->Value->Prop
 | .p v,y=>RP w Im v y
 | .own e sh xs,y=>OwnRow w Im e sh xs y
 | _,_=>False
def Ow (ρ:Nat->Option Value) (b:Nat):Prop:=∃ id v,ρ id = some v /\ Blk v b
def OB (cs:List CV) (ys:List Value) (i b:Nat):Prop:=∃ e sh xs y,cs[i]? = some (.own e sh xs) /\ ys[i]? = some y /\ Blk y b
def OBs (cs:List CV) (ys:List Value) (b:Nat):Prop:=∃ i,OB cs ys i b
structure Toks (w:World) (Im:Nat->Prop) (cs:List CV) (ys:List Value) (D:Nat->Prop):Prop where
 len:ys.length = cs.length
 tok:∀ (i:Nat) (c:CV) (y:Value),cs[i]? = some c->ys[i]? = some y->TokC w Im c y
 dis:∀ i j b,OB cs ys i b->OB cs ys j b->i = j
 out:∀ i b,OB cs ys i b->¬ D b
section
variable {P:Program} {E:Env} {w w':World} {Im Im':Nat->Prop} {ρ ρ':Nat->Option Value} {o o':List AObj} {K:Kt} {r:List SV × List (List CV)} {cs:List CV} {ys:List Value} {D D':Nat->Prop}
theorem Toks.nil:Toks w Im [] [] D:=⟨rfl,fun i c y h=>by simp at h,fun i j b ⟨_,_,_,_,h,_⟩=>by simp at h,fun i b ⟨_,_,_,_,h,_⟩=>by simp at h⟩
theorem Toks.lt (h:Toks w Im cs ys D) {i b:Nat} (hb:OB cs ys i b):b < w.heap.size /\ ¬ Im b:=by
 obtain ⟨e,sh,xs,y,h1,h2,h3⟩:=hb
 have ht:OwnRow w Im e sh xs y:=h.tok i _ y h1 h2
 refine ⟨RO.arr_lt ht h3,?_⟩
 obtain ⟨vals,hown,_,_,hz,_⟩:=ht
 exact (hz b h3).1 rfl
theorem OwnRow.keep (hi:∀ b,Im b->Im' b /\ w'.heap[b]? = w.heap[b]?) {e:Et} {sh:Nat} {xs:List PV} {y:Value} (hb:∀ b,Blk y b->w'.heap[b]? = w.heap[b]? /\ ¬ Im' b) (h:OwnRow w Im e sh xs y):OwnRow w' Im' e sh xs y:=by
 obtain ⟨vals,hown,h1,h2,h3,h4⟩:=h
 exact ⟨vals,ownsRow_main (fun b hb'=>(hb b (main_Blk hb')).1) hown,h1,fun i x j c y a1 a2 a3=>(h2 i x j c y a1 a2 a3).keep hi,fun b hb'=>⟨fun _=>(hb b hb').2,fun h=>nomatch h⟩,h4.keep hi fun b hb'=>(hb b hb').1⟩
theorem Toks.keep (h:Toks w Im cs ys D) (hi:∀ b,Im b->Im' b /\ w'.heap[b]? = w.heap[b]?) (hb:∀ i b,OB cs ys i b->w'.heap[b]? = w.heap[b]? /\ ¬ Im' b /\ ¬ D' b):Toks w' Im' cs ys D':=by
 refine ⟨h.len,fun i c y hc hy=>?_,h.dis,fun i b hob=>(hb i b hob).2.2⟩
 have:=h.tok i c y hc hy
 cases c <;> first | exact this.elim | skip
 · exact RP.mono hi this
 · exact OwnRow.keep hi (fun b hbk=>⟨(hb i b ⟨_,_,_,y,hc,hy,hbk⟩).1,(hb i b ⟨_,_,_,y,hc,hy,hbk⟩).2.1⟩) this
theorem Toks.step (h:Toks w Im cs ys (Ow ρ)) (st:Step w Im ρ o w' Im' ρ' o'):Toks w' Im' cs ys (Ow ρ'):=by
 refine h.keep st.im fun i b hob=>?_
 have hlt:=h.lt hob
 have hno:=h.out i b hob
 refine ⟨st.fr b hlt.1 fun id v hv hb=>hno ⟨id,v,hv,hb⟩,fun hI=>?_,fun ⟨id,v,hv,hb⟩=>?_⟩
 ·rcases st.imn b hI with h1 | h1 | h1
  ·exact hlt.2 h1
  ·omega
  ·exact hno h1
 ·rcases st.ow id v b hv hb with h1 | h1
  ·omega
  ·exact hno h1
theorem Toks.mono (h:Toks w Im cs ys D) (hd:∀ b,D' b->D b):Toks w Im cs ys D':=⟨h.len,h.tok,h.dis,fun i b hob hD=>h.out i b hob (hd b hD)⟩
theorem OB.left {cs2:List CV} {ys2:List Value} {i b:Nat} (h:OB cs ys i b):OB (cs ++ cs2) (ys ++ ys2) i b:=by
 obtain ⟨e,sh,xs,y,h1,h2,h3⟩:=h
 have a1:=(List.getElem?_eq_some_iff.1 h1).1
 have a2:=(List.getElem?_eq_some_iff.1 h2).1
 exact ⟨e,sh,xs,y,by rw [List.getElem?_append_left a1];exact h1,by rw [List.getElem?_append_left a2];exact h2,h3⟩
theorem OB.right {cs2:List CV} {ys2:List Value} {i b:Nat} (hl:ys.length = cs.length) (h:OB cs2 ys2 i b):OB (cs ++ cs2) (ys ++ ys2) (cs.length + i) b:=by
 obtain ⟨e,sh,xs,y,h1,h2,h3⟩:=h
 exact ⟨e,sh,xs,y,by rw [List.getElem?_append_right (by omega)];simpa using h1,by rw [List.getElem?_append_right (by omega),hl];simpa using h2,h3⟩
theorem OB.split {cs2:List CV} {ys2:List Value} {i b:Nat} (hl:ys.length = cs.length) (h:OB (cs ++ cs2) (ys ++ ys2) i b):(i < cs.length /\ OB cs ys i b) ∨ (cs.length<=i /\ OB cs2 ys2 (i - cs.length) b):=by
 obtain ⟨e,sh,xs,y,h1,h2,h3⟩:=h
 rcases Nat.lt_or_ge i cs.length with hi | hi
 ·rw [List.getElem?_append_left hi] at h1
  rw [List.getElem?_append_left (by omega)] at h2
  exact .inl ⟨hi,_,_,_,_,h1,h2,h3⟩
 ·rw [List.getElem?_append_right hi] at h1
  rw [List.getElem?_append_right (by omega),hl] at h2
  exact .inr ⟨hi,_,_,_,_,h1,h2,h3⟩
theorem Toks.left {cs2:List CV} {ys2:List Value} (hl:ys.length = cs.length) (h:Toks w Im (cs ++ cs2) (ys ++ ys2) D):Toks w Im cs ys D:=by
 refine ⟨hl,fun i c y hc hy=>?_,fun i j b h1 h2=>h.dis i j b h1.left h2.left,fun i b h1=>h.out i b h1.left⟩
 have a1:=(List.getElem?_eq_some_iff.1 hc).1
 exact h.tok i c y (by rw [List.getElem?_append_left a1];exact hc) (by rw [List.getElem?_append_left (by omega)];exact hy)
theorem Toks.right {cs2:List CV} {ys2:List Value} (hl:ys.length = cs.length) (h:Toks w Im (cs ++ cs2) (ys ++ ys2) D):Toks w Im cs2 ys2 D:=by
 refine ⟨by have:=h.len;simp at this;omega,fun i c y hc hy=>?_,fun i j b h1 h2=>by have:=h.dis _ _ b (h1.right hl) (h2.right hl);omega,fun i b h1=>h.out _ b (h1.right hl)⟩
 exact h.tok (cs.length + i) c y (by rw [List.getElem?_append_right (by omega)];simpa using hc) (by rw [List.getElem?_append_right (by omega),hl];simpa using hy)
theorem Toks.app {cs2:List CV} {ys2:List Value} (h:Toks w Im cs ys D) (h2:Toks w Im cs2 ys2 D) (hd:∀ i j b,OB cs ys i b->OB cs2 ys2 j b->False):Toks w Im (cs ++ cs2) (ys ++ ys2) D:=by
 have hl:=h.len
 refine ⟨by simp [h.len,h2.len],fun i c y hc hy=>?_,fun i j b h3 h4=>?_,fun i b h3=>?_⟩
 ·rcases Nat.lt_or_ge i cs.length with hi | hi
  ·rw [List.getElem?_append_left hi] at hc
   rw [List.getElem?_append_left (by omega)] at hy
   exact h.tok i c y hc hy
  ·rw [List.getElem?_append_right hi] at hc
   rw [List.getElem?_append_right (by omega),hl] at hy
   exact h2.tok _ c y hc hy
 ·rcases h3.split hl with ⟨a1,a2⟩ | ⟨a1,a2⟩ <;> rcases h4.split hl with ⟨b1,b2⟩ | ⟨b1,b2⟩
  ·exact h.dis i j b a2 b2
  ·exact (hd _ _ b a2 b2).elim
  ·exact (hd _ _ b b2 a2).elim
  ·have:=h2.dis _ _ b a2 b2;omega
 ·rcases h3.split hl with ⟨a1,a2⟩ | ⟨a1,a2⟩
  ·exact h.out i b a2
  ·exact h2.out _ b a2
theorem OB.single {c:CV} {y:Value} {i b:Nat} (h:OB [c] [y] i b):i = 0 /\ Blk y b /\ ∃ e sh xs,c = .own e sh xs:=by
 obtain ⟨e,sh,xs,y',h1,h2,h3⟩:=h
 cases i with
 | zero=>simp at h1 h2;subst h1;subst h2;exact ⟨rfl,h3,_,_,_,rfl⟩
 | succ i=>simp at h1
theorem Toks.one {c:CV} {y:Value} (h:TokC w Im c y) (hd:∀ e sh xs b,c = .own e sh xs->Blk y b->¬ D b):Toks w Im [c] [y] D:=by
 refine ⟨rfl,fun i c' y' hc hy=>?_,fun i j b h1 h2=>by rw [h1.single.1,h2.single.1],fun i b h1=>?_⟩
 ·cases i with
  | zero=>simp at hc hy;subst hc;subst hy;exact h
  | succ i=>simp at hc
 ·obtain ⟨_,h3,e,sh,xs,rfl⟩:=h1.single
  exact hd _ _ _ b rfl h3
def Bx (ρ:Nat->Option Value) (o:List AObj) (ρ':Nat->Option Value) (o':List AObj):Prop :=
 ∀ id cs,(o[id]? = some (.box cs)->o'[id]? = some (.box cs) /\ ρ' id = ρ id) /\ (o'[id]? = some (.box cs)->o[id]? = some (.box cs))
theorem Bx.refl:Bx ρ o ρ o:=fun _ _=>⟨fun h=>⟨h,rfl⟩,fun h=>h⟩
theorem Bx.trans {ρ2:Nat->Option Value} {o2:List AObj} (h:Bx ρ o ρ' o') (k:Bx ρ' o' ρ2 o2):Bx ρ o ρ2 o2 :=
 fun id cs=>⟨fun hc=>let h1:=(h id cs).1 hc;let h2:=(k id cs).1 h1.1;⟨h2.1,h2.2.trans h1.2⟩,fun hc=>(h id cs).2 ((k id cs).2 hc)⟩
theorem bx_set {id:Nat} {x:AObj} (h:∀ cs,o[id]? ≠ some (.box cs)) (hx:∀ cs,x ≠ .box cs):Bx ρ o ρ (o.set id x):=by
 intro i cs
 by_cases e:i = id
 ·subst e
  refine ⟨fun hc=>absurd hc (h cs),fun hc=>?_⟩
  rw [List.getElem?_set] at hc
  simp at hc
  exact absurd hc.2 (hx cs)
 ·rw [List.getElem?_set_ne (Ne.symm e)]
  exact ⟨fun hc=>⟨hc,rfl⟩,fun hc=>hc⟩
theorem bx_freezeC {c:CV} {v:PV} {o1:List AObj} (h:freezeC o c = some (v,o1)):Bx ρ o ρ o1:=by
 cases c <;> simp [freezeC] at h
 ·rw [<- h.2];exact Bx.refl
 ·obtain ⟨u,_,_,rfl⟩:=h
  unfold freezeO
  split
  ·rename_i ho
   split
   ·exact bx_set (by simp [ho]) (by simp)
   ·cases Option.isNone _
    ·exact Bx.refl
    ·exact bx_set (by simp [ho]) (by simp)
  ·exact Bx.refl
theorem bx_freezeCs:∀ {cs:List CV} {vs:List PV} {o o1:List AObj},freezeCs o cs = some (vs,o1)->Bx ρ o ρ o1
 | [],vs,o,o1,h=>by simp [freezeCs] at h;rw [<- h.2];exact Bx.refl
 | c :: cs,vs,o,o1,h=>by
  simp only [freezeCs] at h
  obtain ⟨⟨v,o2⟩,hv,h⟩:=bind_some h
  obtain ⟨⟨us,o3⟩,hu,h⟩:=bind_some h
  simp at h
  obtain ⟨_,rfl⟩:=h
  exact (bx_freezeC hv).trans (bx_freezeCs hu)
theorem Step.kill (hs:SR w Im ρ o) {id sh ver:Nat} {e:Et} {fz:Bool} {xs:List PV} (ho:o[id]? = some (.arr e sh ver fz xs)):Step w Im ρ o w Im (upd ρ id none) (o.set id .dead):=by
 have hlt:=(List.getElem?_eq_some_iff.1 ho).1
 have him:∀ b,Im b->Im b /\ w.heap[b]? = w.heap[b]?:=fun b hb=>⟨hb,rfl⟩
 have hc:Compat ρ (upd ρ id none) o (o.set id .dead):=by
  intro i a ha
  by_cases e1:i = id
  ·subst e1
   rw [ho] at ha
   injection ha with ha
   subst ha
   exact ⟨.dead,by simp [hlt],trivial⟩
  ·exact ⟨a,by rw [List.getElem?_set_ne (Ne.symm e1)];exact ha,by rw [upd_ne e1];cases a <;> simp [CompatO]⟩
 have cs:∀ i v,upd ρ id none i = some v->i ≠ id /\ ρ i = some v:=by
  intro i v h
  by_cases e1:i = id
  ·subst e1;rw [upd_same] at h;cases h
  ·rw [upd_ne e1] at h;exact ⟨e1,h⟩
 refine ⟨Wd.refl w,⟨?_,?_,?_,hs.im,?_⟩,fun c y hy=>RC.compat him hc hy,fun _ _ _=>rfl,?_,him,fun b hb=>.inl hb,?_,⟨by simp,fun i _ h0=>by
  by_cases e1:i = id
  ·subst e1;exact upd_same
  ·rw [upd_ne e1];exact h0⟩⟩
 ·intro i a v ha hv
  obtain ⟨e1,hv⟩:=cs i v hv
  rw [List.getElem?_set_ne (Ne.symm e1)] at ha
  exact RO.keep him hc (fun _ _=>rfl) (fun _ _ h=>h) (hs.ob i a v ha hv)
 ·intro i i' v v' b hv hv' hb hb'
  exact hs.inj i i' v v' b (cs i v hv).2 (cs i' v' hv').2 hb hb'
 ·intro i v hv
  obtain ⟨e1,hv⟩:=cs i v hv
  exact ⟨by simpa using (hs.lt i v hv).1,(hs.lt i v hv).2⟩
 ·intro i hd
  by_cases e1:i = id
  ·subst e1;exact upd_same
  ·rw [upd_ne e1]
   rw [List.getElem?_set_ne (Ne.symm e1)] at hd
   exact hs.dd i hd
 ·intro i v b hv hb
  exact .inr ⟨i,v,(cs i v hv).2,hb⟩
 ·intro hm i a ha hd
  by_cases e1:i = id
  ·subst e1;simp [hlt] at ha;exact absurd ha.symm hd
  ·rw [List.getElem?_set_ne (Ne.symm e1)] at ha
   rw [upd_ne e1]
   exact hm i a ha hd
theorem Step.own (h:Step w Im ρ o w Im' ρ' o'):∀ b,Ow ρ' b->Ow ρ b:=by
 rintro b ⟨id,v,hv,hb⟩
 rcases h.ow id v b hv hb with h1 | h1
 · have:=(h.sr.lt id v hv).2 b hb;omega
 · exact h1
theorem OBs.one {c:CV} {y:Value} {b:Nat} (hl:ys.length = cs.length) (h:OBs (cs ++ [c]) (ys ++ [y]) b):OBs cs ys b ∨ (Blk y b /\ ∃ e sh xs,c = .own e sh xs):=by
 obtain ⟨i,h⟩:=h
 rcases h.split hl with ⟨_,h1⟩ | ⟨_,h1⟩
 · exact .inl ⟨i,h1⟩
 · exact .inr h1.single.2
theorem ownNilG (w:World) (Im:Nat->Prop) (e:Et) (sh:Nat) (h:nilEt e sh = true):∃ g,mainV g = .slice none 0 0 /\ OwnRow w Im e sh [] g /\ ∀ b,¬ Blk g b:=by
 cases hk:e.kd with
 | none=>exact ⟨.slice none 0 0,rfl,⟨[],World.ownsAt_nil w 0 e.t (csz sh),by simp,by simp,by simp,by simp only [RKids,hk];exact fun _=>rfl⟩,by simp⟩
 | some k =>
  simp only [nilEt,hk,Bool.and_eq_true,decide_eq_true_eq,Option.isNone_iff_eq_none] at h
  refine ⟨.tuple #[.slice none 0 0],rfl,⟨[],World.ownsAt_nil w 0 e.t (csz sh),by simp,by simp,?_,?_⟩,?_⟩
  ·rintro b ⟨i,v,h1,h2⟩
   cases i <;> simp at h1
   subst h1
   exact h2.elim
  ·simp only [RKids,hk]
   exact ⟨trivial,[],rfl,⟨rfl,h.1,by simp,by simp,by simp,by simp⟩,by simp⟩
  ·rintro b ⟨i,v,h1,h2⟩
   cases i <;> simp at h1
   subst h1
   exact h2.elim
theorem sameEt_own {e e':Et} {sh len ver:Nat} {xs:List PV} {v:Value} (h:sameEt e e' len xs.length = true) (hr:RO w Im ρ o v (.arr e' sh ver false xs)):(e.kd = none /\ e'.kd = none /\ e = e') ∨ (len = xs.length /\ OwnRow w Im e sh xs v):=by
 unfold sameEt at h
 simp only [Bool.and_eq_true,beq_iff_eq] at h
 obtain ⟨ht,h⟩:=h
 split at h
 ·rename_i h1 h2
  left
  refine ⟨h1,h2,?_⟩
  cases e
  cases e'
  simp at ht h1 h2
  subst ht h1 h2
  rfl
 ·rename_i k k' h1 h2
  right
  simp only [Bool.and_eq_true,beq_iff_eq,Option.isNone_iff_eq_none] at h
  obtain ⟨⟨⟨⟨⟨⟨hj,he⟩,hsh⟩,_⟩,hh⟩,hh'⟩,hl⟩:=h
  refine ⟨hl,?_⟩
  obtain ⟨vals,hown,hs,hrp,hz,hk⟩:=hr
  simp only [RKids,h2] at hk
  obtain ⟨_,ks,hv,hks,hd⟩:=hk
  refine ⟨vals,by rw [ht];exact hown,hs,fun i x j c y a1 a2 a3=>?_,hz,?_⟩
  ·have:=hrp i x j c y a1 a2 a3
   unfold RPk at this ⊢
   rw [h2] at this
   rw [h1]
   exact fun hjk=>this (by rw [<- hj];exact hjk)
  ·simp only [RKids,h1]
   refine ⟨trivial,ks,hv,⟨hks.len,by rw [hj];exact hks.jlt,fun i x hx _=>?_,(fun i u h=>by rw [hh] at h;cases h),hks.inj,hks.one⟩,hd⟩
   rw [hj,he,hsh]
   exact hks.kid i x hx (by rw [hh'];simp)
 ·cases h
theorem outC_sound {K:CV->List AObj->R} {k:Kind} {c:CV} {y:Value} (hs:SR w Im ρ o) (hT:Toks w Im cs ys (Ow ρ)) (hc:RC w Im ρ o c y) (h:outC k c o K = some r) :
  ∃ d o1 Im1 ρ1 g,mainV g = y /\ K d o1 = some r /\ Step w Im ρ o w Im1 ρ1 o1 /\ Bx ρ o ρ1 o1 /\ Toks w Im1 (cs ++ [d]) (ys ++ [g]) (Ow ρ1) /\ ∀ b,OBs (cs ++ [d]) (ys ++ [g]) b->OBs cs ys b ∨ Ow ρ b:=by
 unfold outC at h
 split at h
 ·obtain ⟨⟨v,o1⟩,hf,hk⟩:=bind_some h
  obtain ⟨v2,hk,hwk⟩:=castCell_some hk
  obtain ⟨Im1,hst,hr⟩:=freezeC_sound hs hc hf
  refine ⟨_,o1,Im1,ρ,y,hr.mainV,hk,hst,bx_freezeC hf,(hT.step hst).app (Toks.one (c:=.p v2) (hwk.2 _ _ _ hr) (fun _ _ _ _ h=>nomatch h)) (fun i j b _ h2=>?_),fun b hb=>?_⟩
  ·obtain ⟨_,_,_,_,_,h3⟩:=h2.single
   cases h3
  ·rcases hb.one hT.len with h1 | ⟨_,_,_,_,h1⟩
   ·exact .inl h1
   ·cases h1
 ·rename_i e sh
  split at h
  ·rename_i v
   obtain ⟨⟨sh',f,xs⟩,hq,h⟩:=bind_some h
   obtain rfl:=row_some hq
   ·obtain ⟨hf,hk⟩:=bif_some h
    simp only [Bool.and_eq_true,beq_iff_eq] at hf
    obtain ⟨hf,hkj⟩:=hf
    have hy:y = .slice none 0 0:=by
     have hr:RP w Im (.row sh' f xs) y:=hc
     subst hf
     cases hr with
     | nil=>rfl
     | row _ _ _ a cap g hf2=>exact absurd rfl hf2
    subst hy
    obtain ⟨g,hg,hgo,hgb⟩:=ownNilG w Im e sh hkj
    refine ⟨_,o,Im,ρ,g,hg,hk,Step.refl hs,Bx.refl,hT.app (Toks.one hgo (fun _ _ _ b _ hb=>(hgb b hb).elim)) (fun i j b _ h2=>?_),fun b hb=>?_⟩
    ·exact hgb b h2.single.2.1
    ·rcases hb.one hT.len with h1 | ⟨h1,_⟩
     ·exact .inl h1
     ·exact (hgb b h1).elim
  ·rename_i id ver sh' lo len
   split at h
   ·rename_i e' sh'' ver' xs ho
    obtain ⟨hcnd,hk⟩:=bif_some h
    simp only [Bool.and_eq_true,beq_iff_eq] at hcnd
    obtain ⟨⟨⟨⟨rfl,rfl⟩,rfl⟩,rfl⟩,hsame⟩:=hcnd
    simp only [RC,ho] at hc
    obtain ⟨hle,v,hρ,hsl⟩:=hc.2 trivial trivial
    simp only [Nat.zero_add] at hle
    obtain ⟨vals,hown,hshp,hrp,hbk,hkids⟩:=hs.ob id _ _ ho hρ
    obtain ⟨hown2,hbx⟩:=own_take hown hsl hle
    have hxl:(xs.take len).length = len:=by simp;omega
    have hst:=Step.kill hs ho
    have hrow:∃ g,mainV g = y /\ OwnRow w Im e sh (xs.take len) g /\ ∀ b,Blk g b->Blk v b:=by
     rcases sameEt_own hsame (hs.ob id _ _ ho hρ) with ⟨hk1,hk2,he⟩ | ⟨hl,hr⟩
     rotate_left
     ·subst hl
      refine ⟨v,?_,by rw [List.take_length];exact hr,fun b hb=>hb⟩
      rcases hown.2 with ⟨hm,hn⟩ | ⟨g,bo,cap,cur,hm,_⟩
      ·rw [hm] at hsl ⊢
       exact hsl.2.2.symm
      ·rw [hm] at hsl ⊢
       obtain ⟨off,h1,_,h2⟩:=hsl
       have:=h2 (.inl rfl)
       rw [h1,this]
       simp
     subst he
     simp only [RPk,hk1] at hrp
     refine ⟨y,(ownsRow_mainV hown2).1,?_,fun b hb=>main_Blk ((hbx b).1 hb)⟩
     refine ⟨_,by rw [hxl,(ownsRow_mainV hown2).1];exact hown2,fun x hx=>hshp x (List.mem_of_mem_take hx),?_,fun b hb=>?_,by simp only [RKids,hk1];exact fun _=>(ownsRow_mainV hown2).1⟩
     ·intro i x j c u hx hj hu
      have hil:i < len:=by have:=(List.getElem?_eq_some_iff.1 hx).1;rwa [hxl] at this
      rw [List.getElem?_take_of_lt hil] at hx
      have hu':vals[i * csz sh + j]? = some u:=by
       rw [List.getElem?_take] at hu
       split at hu
       ·exact hu
       ·cases hu
      simp only [RPk,hk1]
      exact hrp i x j c u hx hj hu'
     ·exact ⟨fun _=>(hbk b (main_Blk ((hbx b).1 hb))).1 rfl,fun h=>nomatch h⟩
    obtain ⟨g,hgm,hrow,hgv⟩:=hrow
    refine ⟨_,_,Im,_,g,hgm,hk,hst,?_,(hT.step hst).app (Toks.one hrow ?_) ?_,?_⟩
    ·intro i cs'
     have hb:=(bx_set (ρ:=ρ) (x:=.dead) (id:=id) (o:=o) (by simp [ho]) (by simp)) i cs'
     refine ⟨fun hc'=>⟨(hb.1 hc').1,upd_ne fun e1=>?_⟩,hb.2⟩
     subst e1
     rw [ho] at hc'
     cases hc'
    ·rintro _ _ _ b _ hb ⟨i,u,hu,hub⟩
     replace hb:=hgv b hb
     by_cases e1:i = id
     ·subst e1;rw [upd_same] at hu;cases hu
     ·rw [upd_ne e1] at hu
      exact e1 (hs.inj i id u v b hu hρ hub hb)
    ·intro i j b h1 h2
     have h3:=hgv b h2.single.2.1
     exact hT.out i b h1 ⟨id,v,hρ,h3⟩
    ·intro b hb
     rcases hb.one hT.len with h1 | ⟨h1,_⟩
     ·exact .inl h1
     ·exact .inr ⟨id,v,hρ,hgv b h1⟩
   ·cases h
  ·rename_i id ver nv i
   split at h
   ·rename_i e' sh' ver' xs ho
    split at h
    ·rename_i k hk
     obtain ⟨hcnd,h9⟩:=bif_some h
     clear h
     simp only [Bool.and_eq_true,beq_iff_eq,Option.isNone_iff_eq_none] at hcnd
     obtain ⟨⟨⟨⟨rfl,rfl⟩,hhole⟩,rfl⟩,rfl⟩:=hcnd
     obtain ⟨x0,hx0,h8⟩:=bind_some h9
     clear h9
     obtain ⟨zs,hzs0,hkk⟩:=bind_some h8
     clear h8
     simp only [RC,ho] at hc
     obtain ⟨_,ha2⟩:=hc.2 trivial k hk
     obtain ⟨hix,m,ks,hρ,hksx⟩:=ha2 rfl hhole
     obtain ⟨vals,hown,hshp,hrp,hbk,hkids⟩:=hs.ob id _ _ ho hρ
     simp only [RKids,hk] at hkids
     obtain ⟨_,ks',hv,hks,hdis⟩:=hkids
     have hmm:mainV (.tuple (m :: ks).toArray) = m:=rfl
     rw [hmm] at hv hdis hown
     have:ks = ks':=by injection hv with hv;simpa using hv
     subst this
     obtain ⟨f,zs',u,b1,_,b3,b4,kvals,kown,kshp,krp⟩:=hks.kid i x0 hx0 (by rw [hhole];simp)
     obtain rfl:y = u:=by rw [hksx] at b3;injection b3
     obtain rfl:zs' = zs:=by
      simp only [PV.atRow,PV.cell,b1,Option.bind_some,PV.asRow] at hzs0
      obtain ⟨_,h⟩:=bif_some hzs0
      injection h
     have hV:Value.tuple (m :: ks).toArray = .tuple (m :: ks).toArray:=rfl
     obtain ⟨hym,hyb⟩:=ownsRow_mainV kown
     have hxB:∀ b,kidBlk y b->Blk (.tuple (m :: ks).toArray) b:=fun b hb=>kids_Blk hV b3 hb
     have hlt:=(hs.lt id _ hρ).1
     have hltb:=(hs.lt id _ hρ).2
     obtain ⟨V,hVd⟩:∃ V,V = Value.tuple (m :: ks.set i (.slice none 0 0)).toArray:=⟨_,rfl⟩
     have hVm:mainV V = m:=by rw [hVd];rfl
     have hVb:∀ b,Blk V b->Blk (.tuple (m :: ks).toArray) b /\ ¬ kidBlk y b:=by
      intro b hb
      rw [hVd] at hb
      obtain ⟨q,u,hq,hub⟩:=hb
      cases q with
      | zero =>
       simp at hq
       subst hq
       exact ⟨⟨0,m,by simp,hub⟩,fun h=>hdis i y b b3 h hub⟩
      | succ q =>
       replace hq:(ks.set i (Value.slice none 0 0))[q]? = some u:=by simpa using hq
       by_cases e1:q = i
       ·subst e1
        rw [List.getElem?_set_self (by rw [hks.len];exact hix)] at hq
        injection hq with hq
        subst hq
        exact hub.elim
       ·rw [List.getElem?_set_ne (Ne.symm e1)] at hq
        exact ⟨kids_Blk hV hq hub,fun h=>e1 (hks.inj q i u y b hq b3 hub h)⟩
     obtain ⟨X,hX⟩:∃ X,X = AObj.arr ⟨e'.t,some { k with nv:=k.nv + 1,hole:=some i }⟩ sh' ver false xs:=⟨_,rfl⟩
     rw [<- hX] at hkk
     have hoid:(o.set id X)[id]? = some X:=List.getElem?_set_self hlt
     have hRid:upd ρ id (some V) id = some V:=upd_same
     have hCo:Compat ρ (upd ρ id (some V)) o (o.set id X):=by
      intro q a hq
      by_cases e1:q = id
      ·subst e1
       rw [ho] at hq
       injection hq with hq
       subst hq
       refine ⟨X,hoid,?_⟩
       rw [hRid,hρ,hX]
       refine Or.inr ⟨rfl,rfl,Nat.le_refl _,?_,?_⟩
       ·simp [hVm,hmm]
       ·rw [hk];exact .inl (Nat.lt_succ_self _)
      ·refine ⟨a,by rw [List.getElem?_set_ne (Ne.symm e1)];exact hq,?_⟩
       rw [upd_ne e1]
       cases a <;> simp [CompatO]
     have hst:Step w Im ρ o w Im (upd ρ id (some V)) (o.set id X):=by
      refine Step.multi (w':=w) hs (Wd.refl w) (fun q=>q = id) (by simp) ?_ ?_ hCo (fun _ _ _=>rfl) ?_ ?_ ?_ ?_ ?_ ?_ ?_ ?_
      ·intro q hq hql
       exact ⟨by rw [List.getElem?_set_ne (Ne.symm hq)],upd_ne hq⟩
      ·intro q hql hq
       refine ⟨List.getElem?_eq_none (by simp;omega),?_⟩
       rw [upd_ne hq]
       cases h:ρ q with
       | none=>rfl
       | some u=>have:=(hs.lt q u h).1;omega
      ·rintro q v b rfl hv hb
       rw [hρ] at hv
       injection hv with hv
       subst hv
       exact (hbk b hb).1 rfl
      ·rintro q v b rfl hv hb
       rw [hRid] at hv
       injection hv with hv
       subst hv
       exact .inl ⟨q,_,rfl,hρ,(hVb b hb).1⟩
      ·rintro q v rfl hv
       rw [hRid] at hv
       injection hv with hv
       subst hv
       exact ⟨by simpa using hlt,fun b hb=>hltb b (hVb b hb).1⟩
      ·rintro q q' v v1 b rfl rfl _ _ _ _
       rfl
      ·rintro q a v rfl ha hv
       rw [hoid] at ha
       rw [hRid] at hv
       injection ha with ha
       injection hv with hv
       subst ha
       subst hv
       rw [hX]
       refine ⟨vals,by rw [hVm];exact hown,hshp,fun p x j c y h1 h2 h3=>?_,fun b hb=>⟨fun _=>(hbk b (hVb b hb).1).1 rfl,fun h=>nomatch h⟩,rfl,ks.set i (.slice none 0 0),?_,⟨by simpa using hks.len,hks.jlt,?_,?_,?_,hks.one⟩,?_⟩
       ·have h4:=hrp p x j c y h1 h2 h3
        unfold RPk at h4 ⊢
        rw [hk] at h4
        exact h4
       ·rw [hVm,hVd]
       ·intro p x1 hx1 hne
        have hpi:p ≠ i:=fun h=>hne (by rw [h])
        obtain ⟨f2,ys2,u2,c1,c2,c3,c4,c5⟩:=hks.kid p x1 hx1 (by rw [hhole];simp)
        exact ⟨f2,ys2,u2,c1,c2,by rw [List.getElem?_set_ne (Ne.symm hpi)];exact c3,c4,c5⟩
       ·intro p u2 hp2 hu2
        injection hp2 with hp2
        subst hp2
        rw [List.getElem?_set_self (by rw [hks.len];exact hix)] at hu2
        injection hu2 with hu2
        exact hu2.symm
       ·have old:∀ (p:Nat) (u2:Value) (b:Nat),(ks.set i (Value.slice none 0 0))[p]? = some u2->kidBlk u2 b->ks[p]? = some u2:=by
         intro p u2 b hp2 hb
         by_cases e1:p = i
         ·subst e1
          rw [List.getElem?_set_self (by rw [hks.len];exact hix)] at hp2
          injection hp2 with hp2
          subst hp2
          exact hb.elim
         ·rwa [List.getElem?_set_ne (Ne.symm e1)] at hp2
        intro p p' u2 u3 b h1 h2 h3 h4
        exact hks.inj p p' u2 u3 b (old p u2 b h1 h3) (old p' u3 b h2 h4) h3 h4
       ·intro p u2 b hp2 hb
        rw [hVm]
        by_cases e1:p = i
        ·subst e1
         rw [List.getElem?_set_self (by rw [hks.len];exact hix)] at hp2
         injection hp2 with hp2
         subst hp2
         exact hb.elim
        ·rw [List.getElem?_set_ne (Ne.symm e1)] at hp2
         exact hdis p u2 b hp2 hb
      ·rintro q rfl hd
       rw [hoid,hX] at hd
       cases hd
      ·rintro q x rfl _ _
       exact ⟨V,hRid⟩
      ·rintro q rfl _ hn
       rw [hρ] at hn
       cases hn
     have hrow:OwnRow w Im k.e k.sh zs' y:=by
      refine ⟨kvals,by rw [hym];exact kown,kshp,krp,fun b hb=>⟨fun _=>(hbk b (hxB b ((hyb b).1 hb))).1 rfl,fun h=>nomatch h⟩,fun _=>hym⟩
     refine ⟨_,_,Im,_,y,hym,hkk,hst,?_,(hT.step hst).app (Toks.one (c:=.own k.e k.sh zs') hrow ?_) ?_,?_⟩
     ·intro i' cs'
      have hb:=(bx_set (ρ:=ρ) (x:=X) (id:=id) (o:=o) (by simp [ho]) (by simp [hX])) i' cs'
      refine ⟨fun hc'=>⟨(hb.1 hc').1,upd_ne fun e1=>?_⟩,hb.2⟩
      subst e1
      rw [ho] at hc'
      cases hc'
     ·rintro _ _ _ b _ hb ⟨i',u,hu,hub⟩
      replace hb:=(hyb b).1 hb
      by_cases e1:i' = id
      ·subst e1
       rw [hRid] at hu
       injection hu with hu
       subst hu
       exact (hVb b hub).2 hb
      ·rw [upd_ne e1] at hu
       exact e1 (hs.inj i' id u _ b hu hρ hub (hxB b hb))
     ·intro i' j b h1 h2
      exact hT.out i' b h1 ⟨id,_,hρ,hxB b ((hyb b).1 h2.single.2.1)⟩
     ·intro b hb
      rcases hb.one hT.len with h1 | ⟨h1,_⟩
      ·exact .inl h1
      ·exact .inr ⟨id,_,hρ,hxB b ((hyb b).1 h1)⟩
    ·cases h
   ·cases h
  ·cases h
theorem outCs_sound:∀ {ks:List Kind} {c0:List CV} {y0:List Value} {o:List AObj} {Im:Nat->Prop} {ρ:Nat->Option Value} {cs:List CV} {ys:List Value} {K:List CV->List AObj->R},SR w Im ρ o->Toks w Im cs ys (Ow ρ)->y0.length = c0.length ->
  (∀ (i:Nat) (c:CV) (y:Value),c0[i]? = some c->y0[i]? = some y->RC w Im ρ o c y)->outCs ks c0 o K = some r ->
  ∃ ds o1 Im1 ρ1 g0,g0.map mainV = y0 /\ K ds o1 = some r /\ Step w Im ρ o w Im1 ρ1 o1 /\ Bx ρ o ρ1 o1 /\ ds.length = c0.length /\ ks.length = c0.length /\ Toks w Im1 (cs ++ ds) (ys ++ g0) (Ow ρ1) /\ ∀ b,OBs (cs ++ ds) (ys ++ g0) b->OBs cs ys b ∨ Ow ρ b
 | [],[],y0,o,Im,ρ,cs,ys,K,hs,hT,hl,hr,h=>by
  simp only [outCs] at h
  have:y0 = []:=List.eq_nil_of_length_eq_zero hl
  subst this
  exact ⟨[],o,Im,ρ,[],rfl,h,Step.refl hs,Bx.refl,rfl,rfl,by simpa using hT,fun b hb=>.inl (by simpa using hb)⟩
 | k :: ks,c :: c0,y0,o,Im,ρ,cs,ys,K,hs,hT,hl,hr,h=>by
  cases y0 with
  | nil=>simp at hl
  | cons y y0 =>
   simp only [outCs] at h
   obtain ⟨d,o1,Im1,ρ1,g,hg,h,hst,hb,hT1,hO1⟩:=outC_sound hs hT (hr 0 c y rfl rfl) h
   obtain ⟨ds,o2,Im2,ρ2,g0,hg0,h,hst2,hb2,hl2,hk2,hT2,hO2⟩:=outCs_sound hst.sr hT1 (by simpa using hl) (fun i c' y' hc' hy'=>hst.keep _ _ (hr (i + 1) c' y' (by simpa using hc') (by simpa using hy'))) h
   refine ⟨d :: ds,o2,Im2,ρ2,g :: g0,by simp [hg,hg0],h,hst.trans hst2,hb.trans hb2,by simp [hl2],by simp [hk2],by simpa using hT2,fun b hb=>?_⟩
   rcases hO2 b (by simpa using hb) with h1 | h1
   ·exact hO1 b h1
   ·exact .inr (hst.own b h1)
 | [],_ :: _,_,_,_,_,_,_,_,_,_,_,_,h=>by simp [outCs] at h
 | _ :: _,[],_,_,_,_,_,_,_,_,_,_,_,h=>by simp [outCs] at h
def RetS:SV->Value->List Value->Prop
 | .c _,y,zs=>∃ g,zs = [g] /\ mainV g = y
 | .agg ds,y,zs=>zs.length = ds.length /\ y = .agg (zs.map mainV).toArray /\ ∀ z ∈ zs,(mainV z).oneCell' = true
theorem cellsK_agg {α:Type} {K:List CV->Option α} {r:α} {n:Nat} {v:SV} {y:Value} (h:cellsK o (n + 1) v K = some r) (hy:RS w Im ρ o v y):∃ vs,y = .agg vs:=by
 unfold cellsK at h
 split at h
 ·obtain ⟨vs,rfl,_⟩:=hy;exact ⟨vs,rfl⟩
 ·split at h
  ·rename_i v
   obtain ⟨hc,_⟩:=bif_some h
   cases v <;> simp [PV.shp] at hc
   cases hy
   exact ⟨_,rfl⟩
  ·obtain ⟨hc,_⟩:=bif_some h
   simp at hc
theorem bx_freezeS {x:SV} {v:PV} {o1:List AObj} (h:freezeS o x = some (v,o1)):Bx ρ o ρ o1:=by
 cases x with
 | c c=>exact bx_freezeC h
 | agg cs =>
  simp only [freezeS] at h
  obtain ⟨⟨vs,o2⟩,hv,he⟩:=bind_some h
  simp at he
  rw [<- he.2]
  exact bx_freezeCs hv
theorem outS_sound {K:SV->List AObj->R} {k:RK} {v:SV} {y:Value} (hs:SR w Im ρ o) (hT:Toks w Im cs ys (Ow ρ)) (hv:RS w Im ρ o v y) (h:outS k v o K = some r) :
  ∃ d o1 Im1 ρ1 zs,K d o1 = some r /\ Step w Im ρ o w Im1 ρ1 o1 /\ Bx ρ o ρ1 o1 /\ RetS d y zs /\ lenS d = lenK k /\ Toks w Im1 (cs ++ cellsOfS d) (ys ++ zs) (Ow ρ1) /\ ∀ b,OBs (cs ++ cellsOfS d) (ys ++ zs) b->OBs cs ys b ∨ Ow ρ b:=by
 unfold outS at h
 split at h
 ·obtain ⟨d,o1,Im1,ρ1,g,hg,h,hst,hb,hT1,hO⟩:=outC_sound hs hT hv h
  exact ⟨_,o1,Im1,ρ1,[g],h,hst,hb,⟨g,rfl,hg⟩,rfl,hT1,hO⟩
 ·rename_i cs'
  obtain ⟨⟨vs,o1⟩,hf,h⟩:=bind_some h
  have hf':freezeS o (.agg cs') = some (.agg vs,o1):=by simp [freezeS,hf]
  obtain ⟨Im1,hst,hr⟩:=freezeS_sound hs hv hf'
  refine ⟨_,o1,Im1,ρ,[y],h,hst,bx_freezeS hf',⟨y,rfl,hr.mainV⟩,rfl,(hT.step hst).app (Toks.one hr (fun _ _ _ _ h=>nomatch h)) (fun i j b _ h2=>?_),fun b hb=>?_⟩
  ·obtain ⟨_,_,_,_,_,h3⟩:=h2.single
   cases h3
  ·rcases hb.one hT.len with h1 | ⟨_,_,_,_,h1⟩
   ·exact .inl h1
   ·cases h1
 ·rename_i v ks
  cases hk:ks.length with
  | zero =>
   have:ks = []:=List.eq_nil_of_length_eq_zero hk
   subst this
   obtain ⟨c0,h,hcl,hyl,hr,h1⟩:=cellsK_sound hs h hv
   obtain ⟨ds,o1,Im1,ρ1,g0,hg0,h,hst,hb,hl,hkl,hT1,_⟩:=outCs_sound (y0:=y.cells.toList) hs hT (by simpa using hyl) (fun i c z a b=>hr i c z a (by simpa using b)) h
   simp [csz] at hcl hkl
   omega
  | succ n =>
   rw [hk] at h
   obtain ⟨vs,rfl⟩:=cellsK_agg h hv
   obtain ⟨c0,h,hcl,hyl,hr,h1⟩:=cellsK_sound hs h hv
   have e0:(Value.agg vs).cells = vs:=rfl
   rw [e0] at hyl hr h1
   obtain ⟨ds,o1,Im1,ρ1,g0,hg0,h,hst,hb,hl,hkl,hT1,hO⟩:=outCs_sound (y0:=vs.toList) hs hT (by simpa using hyl) (fun i c z a b=>hr i c z a (by simpa using b)) h
   have hgl:g0.length = vs.size:=by have:=congrArg List.length hg0;simpa using this
   refine ⟨_,o1,Im1,ρ1,g0,h,hst,hb,⟨by omega,by rw [hg0],fun z hz=>?_⟩,by simp [lenS,lenK];omega,hT1,hO⟩
   have hz':mainV z ∈ vs.toList:=by rw [<- hg0];exact List.mem_map_of_mem hz
   obtain ⟨i,hi,hzi⟩:=List.getElem_of_mem hz'
   rw [<- hzi]
   exact h1 i _ (by simp at hi;simp [hi])
 ·cases h
inductive RetSs:List SV->List Value->List Value->Prop
 | nil:RetSs [] [] []
 | cons {d y zs ds ys' zss}:RetS d y zs->RetSs ds ys' zss->RetSs (d :: ds) (y :: ys') (zs ++ zss)
theorem outSs_sound:∀ {ks:List RK} {vs:List SV} {y0:List Value} {o:List AObj} {Im:Nat->Prop} {ρ:Nat->Option Value} {cs:List CV} {ys:List Value} {K:List SV->List AObj->R},SR w Im ρ o->Toks w Im cs ys (Ow ρ)->y0.length = vs.length ->
  (∀ (i:Nat) (c:SV) (y:Value),vs[i]? = some c->y0[i]? = some y->RS w Im ρ o c y)->outSs ks vs o K = some r ->
  ∃ ds o1 Im1 ρ1 zs,K ds o1 = some r /\ Step w Im ρ o w Im1 ρ1 o1 /\ Bx ρ o ρ1 o1 /\ RetSs ds y0 zs /\ ds.map lenS = ks.map lenK /\ Toks w Im1 (cs ++ ds.flatMap cellsOfS) (ys ++ zs) (Ow ρ1) /\ ∀ b,OBs (cs ++ ds.flatMap cellsOfS) (ys ++ zs) b->OBs cs ys b ∨ Ow ρ b
 | [],[],y0,o,Im,ρ,cs,ys,K,hs,hT,hl,hr,h=>by
  simp only [outSs] at h
  have:y0 = []:=List.eq_nil_of_length_eq_zero hl
  subst this
  exact ⟨[],o,Im,ρ,[],h,Step.refl hs,Bx.refl,.nil,rfl,by simpa using hT,fun b hb=>.inl (by simpa using hb)⟩
 | k :: ks,v :: vs,y0,o,Im,ρ,cs,ys,K,hs,hT,hl,hr,h=>by
  cases y0 with
  | nil=>simp at hl
  | cons y y0 =>
   simp only [outSs] at h
   obtain ⟨d,o1,Im1,ρ1,zs,h,hst,hb,hret,hlk,hT1,hO1⟩:=outS_sound hs hT (hr 0 v y rfl rfl) h
   obtain ⟨ds,o2,Im2,ρ2,zss,h,hst2,hb2,hret2,hlk2,hT2,hO2⟩:=outSs_sound hst.sr hT1 (by simpa using hl) (fun i c' y' hc' hy'=>hst.keepS _ _ (hr (i + 1) c' y' (by simpa using hc') (by simpa using hy'))) h
   refine ⟨d :: ds,o2,Im2,ρ2,zs ++ zss,h,hst.trans hst2,hb.trans hb2,.cons hret hret2,by simp [hlk,hlk2],by simpa using hT2,fun b hb=>?_⟩
   rcases hO2 b (by simpa using hb) with h1 | h1
   ·exact hO1 b h1
   ·exact .inr (hst.own b h1)
 | [],_ :: _,_,_,_,_,_,_,_,_,_,_,_,h=>by simp [outSs] at h
 | _ :: _,[],_,_,_,_,_,_,_,_,_,_,_,h=>by simp [outSs] at h
def BoxAt (w:World) (b:Nat) (vs:List Value):Prop:=(∃ e,w.heap[b]? = some (.cells (vs.map mainV).toArray e (0,0))) /\ ∀ v ∈ vs,(mainV v).oneCell' = true
theorem outBs_sound:∀ {kss:List (List Kind)} {ids:List Nat} {o:List AObj} {Im:Nat->Prop} {ρ:Nat->Option Value} {cs:List CV} {ys:List Value} {K:List (List CV)->List AObj->R},SR w Im ρ o->Toks w Im cs ys (Ow ρ) ->
  (∀ id ∈ ids,∀ c0,o[id]? = some (.box c0)->∃ b,ρ id = some (.pointer (some ⟨b,0,none⟩)))->outBs kss ids o K = some r ->
  ∃ (dss:List (List CV)) (o1:List AObj) (Im1:Nat->Prop) (ρ1:Nat->Option Value) (vss:List (List Value)),K dss o1 = some r /\ Step w Im ρ o w Im1 ρ1 o1 /\ Bx ρ o ρ1 o1 /\ dss.length = ids.length /\ vss.length = ids.length /\ dss.map List.length = kss.map List.length /\ Toks w Im1 (cs ++ dss.flatten) (ys ++ vss.flatten) (Ow ρ1) /\ (∀ b,OBs (cs ++ dss.flatten) (ys ++ vss.flatten) b->OBs cs ys b ∨ Ow ρ b) /\
   ∀ (j id:Nat),ids[j]? = some id->∃ b vs ds cs0,ρ id = some (.pointer (some ⟨b,0,none⟩)) /\ BoxAt w b vs /\ vss[j]? = some vs /\ dss[j]? = some ds /\ ds.length = vs.length /\ o[id]? = some (.box cs0)
 | [],[],o,Im,ρ,cs,ys,K,hs,hT,hp,h=>by
  simp only [outBs] at h
  exact ⟨[],o,Im,ρ,[],h,Step.refl hs,Bx.refl,rfl,rfl,rfl,by simpa using hT,fun b hb=>.inl (by simpa using hb),fun j id hj=>by simp at hj⟩
 | ks :: kss,i :: ids,o,Im,ρ,cs,ys,K,hs,hT,hp,h=>by
  simp only [outBs] at h
  split at h
  ·rename_i c0 ho
   obtain ⟨b,hρ⟩:=hp i (by simp) c0 ho
   obtain ⟨b',vs,e,hb,hh,hl,hr,h1,_⟩:=hs.ob i _ _ ho hρ
   obtain rfl:b = b':=by simpa using hb
   obtain ⟨ds,o1,Im1,ρ1,g0,hg0,h,hst,hbx,hld,hlk,hT1,hO1⟩:=outCs_sound (y0:=vs.toList) hs hT (by simpa using hl) (fun i c y a c'=>hr i c y a (by simpa using c')) h
   have hp1:∀ id ∈ ids,∀ c0,o1[id]? = some (.box c0)->∃ b,ρ1 id = some (.pointer (some ⟨b,0,none⟩)):=by
    intro id hid c1 hc1
    have h2:=(hbx id c1).2 hc1
    obtain ⟨b,hb⟩:=hp id (by simp [hid]) c1 h2
    exact ⟨b,((hbx id c1).1 h2).2.trans hb⟩
   obtain ⟨dss,o2,Im2,ρ2,vss,h,hst2,hbx2,hl1,hl2,hl3,hT2,hO2,hrest⟩:=outBs_sound hst.sr hT1 hp1 h
   have hgl:g0.length = vs.size:=by have:=congrArg List.length hg0;simpa using this
   refine ⟨ds :: dss,o2,Im2,ρ2,g0 :: vss,h,hst.trans hst2,hbx.trans hbx2,by simp [hl1],by simp [hl2],by simp [hl3,hld,hlk],by simpa using hT2,fun b hb=>?_,?_⟩
   ·rcases hO2 b (by simpa using hb) with h1 | h1
    ·exact hO1 b h1
    ·exact .inr (hst.own b h1)
   intro j id hj
   cases j with
   | zero =>
    simp at hj
    subst hj
    refine ⟨b,g0,ds,c0,hρ,⟨⟨e,by rw [hg0];simpa using hh⟩,fun v hv=>?_⟩,rfl,rfl,by omega,ho⟩
    have hz':mainV v ∈ vs.toList:=by rw [<- hg0];exact List.mem_map_of_mem hv
    obtain ⟨k,hk,hzk⟩:=List.getElem_of_mem hz'
    rw [<- hzk]
    exact h1 k _ (by simp at hk;simp [hk])
   | succ j =>
    obtain ⟨b2,vs2,ds2,cs2,h3,h4,h5,h6,h7,h8⟩:=hrest j id (by simpa using hj)
    have h9:=(hbx id cs2).2 h8
    exact ⟨b2,vs2,ds2,cs2,by rw [<- ((hbx id cs2).1 h9).2];exact h3,h4,by simpa using h5,by simpa using h6,h7,h9⟩
  ·cases h
 | [],_ :: _,_,_,_,_,_,_,_,_,_,h=>by simp [outBs] at h
 | _ :: _,[],_,_,_,_,_,_,_,_,_,h=>by simp [outBs] at h
end
end Go.Dp
/- Handing over: what comes in. -/
set_option linter.unusedVariables false
set_option linter.unusedSimpArgs false
namespace Go.Dp
structure SRx (w:World) (Im:Nat->Prop) (ρ:Nat->Option Value) (o:List AObj) (X:Nat->Prop):Prop where
 ob:∀ id x v,¬ X id->o[id]? = some x->ρ id = some v->RO w Im ρ o v x
 inj:∀ id id' v v' b,ρ id = some v->ρ id' = some v'->Blk v b->Blk v' b->id = id'
 lt:∀ id v,ρ id = some v->id < o.length /\ ∀ b,Blk v b->b < w.heap.size
 im:∀ b,Im b->b < w.heap.size
 dd:∀ id,o[id]? = some .dead->ρ id = none
section
variable {P:Program} {E:Env} {w w':World} {Im Im':Nat->Prop} {ρ ρ':Nat->Option Value} {o o':List AObj} {K:Kt} {r:List SV × List (List CV)} {cs:List CV} {ys:List Value} {D D' X:Nat->Prop}
theorem SR.x (h:SR w Im ρ o) (X:Nat->Prop):SRx w Im ρ o X:=⟨fun id x v _=>h.ob id x v,h.inj,h.lt,h.im,h.dd⟩
theorem SRx.sr (h:SRx w Im ρ o X) (hx:∀ id,¬ X id):SR w Im ρ o:=⟨fun id x v=>h.ob id x v (hx id),h.inj,h.lt,h.im,h.dd⟩
theorem SRx.mono {X':Nat->Prop} (h:SRx w Im ρ o X) (hx:∀ id,X id->X' id):SRx w Im ρ o X':=⟨fun id x v hn=>h.ob id x v (fun h=>hn (hx id h)),h.inj,h.lt,h.im,h.dd⟩
theorem him_refl:∀ b,Im b->Im b /\ w.heap[b]? = w.heap[b]?:=fun b hb=>⟨hb,rfl⟩
theorem compat_app (hl:∀ id v,ρ id = some v->id < o.length) (v:Option Value) (x:AObj):Compat ρ (upd ρ o.length v) o (o ++ [x]):=by
 intro id a ha
 have hlt:=(List.getElem?_eq_some_iff.1 ha).1
 refine ⟨a,by rw [List.getElem?_append_left hlt];exact ha,?_⟩
 rw [upd_ne (by omega)]
 cases a <;> simp [CompatO]
structure Inn (w:World) (Im:Nat->Prop) (ρ:Nat->Option Value) (o:List AObj) (ρ':Nat->Option Value) (o':List AObj) (A:Nat->Prop):Prop where
 keep:∀ c x,RC w Im ρ o c x->RC w Im ρ' o' c x
 own:∀ b,Ow ρ' b->Ow ρ b ∨ A b
 box:∀ id cs,o[id]? = some (.box cs)->∃ cs',o'[id]? = some (.box cs') /\ ρ' id = ρ id
 mp:Mapped ρ o->Mapped ρ' o'
 len:o.length<=o'.length
 no:∀ id,id < o.length->ρ id = none->ρ' id = none
theorem Inn.refl {A:Nat->Prop}:Inn w Im ρ o ρ o A:=⟨fun _ _ h=>h,fun b h=>.inl h,fun id cs h=>⟨cs,h,rfl⟩,fun h=>h,Nat.le_refl _,fun _ _ h=>h⟩
theorem Inn.gr {A:Nat->Prop} (h:Inn w Im ρ o ρ' o' A):Grown ρ o ρ' o':=⟨h.len,h.no⟩
theorem Inn.trans {ρ2:Nat->Option Value} {o2:List AObj} {A:Nat->Prop} (h:Inn w Im ρ o ρ' o' A) (k:Inn w Im ρ' o' ρ2 o2 A):Inn w Im ρ o ρ2 o2 A:=by
 refine ⟨fun c x hc=>k.keep c x (h.keep c x hc),fun b hb=>?_,fun id cs hc=>?_,fun hm=>k.mp (h.mp hm),Nat.le_trans h.len k.len,(h.gr.trans k.gr).2⟩
 ·rcases k.own b hb with h1 | h1
  ·exact h.own b h1
  ·exact .inr h1
 ·obtain ⟨cs',h1,h2⟩:=h.box id cs hc
  obtain ⟨cs2,h3,h4⟩:=k.box id cs' h1
  exact ⟨cs2,h3,h4.trans h2⟩
theorem Inn.mono {A A':Nat->Prop} (h:Inn w Im ρ o ρ' o' A) (ha:∀ b,A b->A' b):Inn w Im ρ o ρ' o' A':=⟨h.keep,fun b hb=>(h.own b hb).imp (fun h=>h) (ha b),h.box,h.mp,h.len,h.no⟩
theorem adopt (hs:SRx w Im ρ o X) {e:Et} {sh:Nat} {xs:List PV} {v:Value} (hr:OwnRow w Im e sh xs v) (hv:∀ b,Blk v b->¬ Ow ρ b) :
  SRx w Im (upd ρ o.length (some v)) (o ++ [.arr e sh 0 false xs]) X /\ Inn w Im ρ o (upd ρ o.length (some v)) (o ++ [.arr e sh 0 false xs]) (fun b=>Blk v b) /\ RC w Im (upd ρ o.length (some v)) (o ++ [.arr e sh 0 false xs]) (.loc o.length 0 sh 0 xs.length) (mainV v):=by
 have hrr:=hr
 have hc:=compat_app (o:=o) (fun id v hv=>(hs.lt id v hv).1) (some v) (.arr e sh 0 false xs)
 have cs:∀ id u,upd ρ o.length (some v) id = some u->(id = o.length /\ u = v) ∨ (id ≠ o.length /\ ρ id = some u):=by
  intro id u h
  by_cases e:id = o.length
  ·subst e;rw [upd_same] at h;exact .inl ⟨rfl,by injection h with h;exact h.symm⟩
  ·rw [upd_ne e] at h;exact .inr ⟨e,h⟩
 obtain ⟨vals,hown,h1,h2,h3,h4⟩:=hr
 refine ⟨⟨?_,?_,?_,hs.im,?_⟩,⟨fun c y hy=>RC.compat him_refl hc hy,?_,?_,?_,by simp,fun id hl h0=>by rw [upd_ne (by omega)];exact h0⟩,?_⟩
 ·intro id a u hX ha hu
  rcases cs id u hu with ⟨rfl,rfl⟩ | ⟨hne,hu⟩
  ·have:a = .arr e sh 0 false xs:=by simpa using ha.symm
   subst this
   exact ⟨vals,hown,h1,h2,h3,h4⟩
  ·have hlt:=(hs.lt id u hu).1
   rw [List.getElem?_append_left hlt] at ha
   exact RO.keep him_refl hc (fun _ _=>rfl) (fun b _ h=>h) (hs.ob id a u hX ha hu)
 ·intro id id' u u' b hu hu' hb hb'
  rcases cs id u hu with ⟨h1,h2⟩ | ⟨hne,h2⟩ <;> rcases cs id' u' hu' with ⟨h3,h4⟩ | ⟨hne',h4⟩
  ·exact h1.trans h3.symm
  ·rw [h2] at hb;exact (hv b hb ⟨id',u',h4,hb'⟩).elim
  ·rw [h4] at hb';exact (hv b hb' ⟨id,u,h2,hb⟩).elim
  ·exact hs.inj id id' u u' b h2 h4 hb hb'
 ·intro id u hu
  rcases cs id u hu with ⟨rfl,rfl⟩ | ⟨hne,hu⟩
  ·exact ⟨by simp,fun b hb=>RO.arr_lt hrr hb⟩
  ·have:=hs.lt id u hu
   exact ⟨by simp;omega,this.2⟩
 ·intro id hd
  by_cases e1:id = o.length
  ·subst e1;simp at hd
  ·rw [upd_ne e1]
   have hlt:id < o.length:=by have:=(List.getElem?_eq_some_iff.1 hd).1;simp at this;omega
   rw [List.getElem?_append_left hlt] at hd
   exact hs.dd id hd
 ·rintro b ⟨id,u,hu,hb⟩
  rcases cs id u hu with ⟨rfl,rfl⟩ | ⟨hne,hu⟩
  ·exact .inr hb
  ·exact .inl ⟨id,u,hu,hb⟩
 ·intro id cs' hc'
  have hlt:=(List.getElem?_eq_some_iff.1 hc').1
  exact ⟨cs',by rw [List.getElem?_append_left hlt];exact hc',upd_ne (by omega)⟩
 ·intro hm id a ha hd
  by_cases e1:id = o.length
  ·subst e1;exact ⟨v,upd_same⟩
  ·rw [upd_ne e1]
   have hlt:id < o.length:=by have:=(List.getElem?_eq_some_iff.1 ha).1;simp at this;omega
   rw [List.getElem?_append_left hlt] at ha
   exact hm id a ha hd
 ·simp only [RC]
  simp
  exact ⟨v,upd_same,ownsRow_self hown⟩
theorem close (hs:SRx w Im ρ o X) {i b:Nat} {c0 ds:List CV} {vs:List Value} (ho:o[i]? = some (.box c0)) (hρ:ρ i = some (.pointer (some ⟨b,0,none⟩))) (hb:BoxAt w b vs) (hI:¬ Im b) (hl:vs.length = ds.length)
  (hr:∀ (k:Nat) (c:CV) (y:Value),ds[k]? = some c->vs[k]? = some y->RC w Im ρ o c (mainV y)) :
  SRx w Im ρ (o.set i (.box ds)) (fun j=>X j /\ j ≠ i) /\ Inn w Im ρ o ρ (o.set i (.box ds)) (fun _=>False):=by
 have hlt:=(List.getElem?_eq_some_iff.1 ho).1
 have hc:Compat ρ ρ o (o.set i (.box ds)):=by
  intro j a ha
  by_cases e1:j = i
  ·subst e1
   rw [ho] at ha
   injection ha with ha
   subst ha
   exact ⟨.box ds,by rw [List.getElem?_set_self hlt],rfl⟩
  ·exact ⟨a,by rw [List.getElem?_set_ne (Ne.symm e1)];exact ha,by cases a <;> simp [CompatO]⟩
 refine ⟨⟨?_,hs.inj,fun id v hv=>⟨by simpa using (hs.lt id v hv).1,(hs.lt id v hv).2⟩,hs.im,?_⟩,⟨fun c y hy=>RC.compat him_refl hc hy,fun b hb=>.inl hb,?_,?_,by simp,fun _ _ h=>h⟩⟩
 ·intro j a v hX ha hv
  by_cases e1:j = i
  ·subst e1
   rw [List.getElem?_set_self hlt] at ha
   injection ha with ha
   subst ha
   rw [hρ] at hv
   injection hv with hv
   subst hv
   obtain ⟨e,he⟩:=hb.1
   refine ⟨b,(vs.map mainV).toArray,e,rfl,he,by simpa using hl,fun k c y hk hy=>?_,fun k y hy=>?_,hI⟩
   ·simp only [List.getElem?_toArray,List.getElem?_map,Option.map_eq_some_iff] at hy
    obtain ⟨y',hy',rfl⟩:=hy
    exact RC.compat him_refl hc (hr k c y' hk hy')
   ·simp only [List.getElem?_toArray,List.getElem?_map,Option.map_eq_some_iff] at hy
    obtain ⟨y',hy',rfl⟩:=hy
    exact hb.2 y' (List.mem_of_getElem? hy')
  ·rw [List.getElem?_set_ne (Ne.symm e1)] at ha
   exact RO.keep him_refl hc (fun _ _=>rfl) (fun _ _ h=>h) (hs.ob j a v (fun h=>hX ⟨h,e1⟩) ha hv)
 ·intro j hd
  by_cases e1:j = i
  ·subst e1;rw [List.getElem?_set_self hlt] at hd;cases hd
  ·rw [List.getElem?_set_ne (Ne.symm e1)] at hd;exact hs.dd j hd
 ·intro j cs' hj
  by_cases e1:j = i
  ·subst e1;exact ⟨ds,by rw [List.getElem?_set_self hlt],rfl⟩
  ·exact ⟨cs',by rw [List.getElem?_set_ne (Ne.symm e1)];exact hj,rfl⟩
 ·intro hm j a ha hd
  by_cases e1:j = i
  ·subst e1;exact ⟨_,hρ⟩
  ·rw [List.getElem?_set_ne (Ne.symm e1)] at ha;exact hm j a ha hd
theorem inP_eq (ct:CellT) (c:Option CV) (K:PV->R):inP ct c K = (asP c).bind fun v=>castCell ct v K:=by
 have hN:∀ (sh:Nat) (v:PV),((v.asRowN sh).bind fun xs=>bif xs.isEmpty then K (.row sh 2 []) else K (.row sh 3 xs)) = castCell (.rowN sh) v K:=by
  intro sh v
  cases v <;> first | rfl | skip
  rename_i s f xs
  simp only [PV.asRowN,castCell]
  cases (f == 2)
  ·cases hc:(s == sh && !xs.isEmpty)
   ·rfl
   ·simp only [Bool.and_eq_true,Bool.not_eq_true'] at hc
    simp only [cond_false,cond_true,Option.bind_some,PV.rowN,hc.2]
  ·rfl
 cases ct with
 | rowN sh =>
  simp only [inP,cRowN]
  cases asP c with
  | none=>rfl
  | some v=>exact hN sh v
 | _=>simp only [inP,castCell,cInt,cBool,cStr,cRow] <;> cases asP c <;> rfl
theorem inC_sound {K:CV->List AObj->R} {k:Kind} {c:Option CV} {c1:CV} {y:Value} {A:Nat->Prop} (hs:SRx w Im ρ o X) (hc:c = some c1) (hT:Toks w Im (c1 :: cs) (y :: ys) (Ow ρ)) (hA:∀ i b,OB (c1 :: cs) (y :: ys) i b->A b) (h:inC k c o K = some r) :
  ∃ d o1 ρ1,K d o1 = some r /\ SRx w Im ρ1 o1 X /\ Inn w Im ρ o ρ1 o1 A /\ RC w Im ρ1 o1 d (mainV y) /\ Toks w Im cs ys (Ow ρ1):=by
 subst hc
 have hr:=hT.tok 0 c1 y rfl rfl
 have htl:Toks w Im cs ys (Ow ρ):=Toks.right (cs:=[c1]) (ys:=[y]) rfl hT
 unfold inC at h
 split at h
 ·rw [inP_eq] at h
  obtain ⟨v,hv,hk⟩:=bind_some h
  cases c1 <;> simp [asP] at hv
  subst hv
  obtain ⟨v2,hk,hwk⟩:=castCell_some hk
  exact ⟨.p v2,o,ρ,hk,hs,Inn.refl,by rw [RP.mainV hr];exact hwk.2 _ _ _ hr,htl⟩
 ·rename_i e sh
  obtain ⟨xs,hv,hk⟩:=bind_some h
  cases c1 <;> simp only [asOwn] at hv <;> first | (cases hv;done) | skip
  rename_i e' sh' xs'
  obtain ⟨hcnd,hv2⟩:=bif_some hv
  simp only [Bool.and_eq_true,beq_iff_eq] at hcnd
  obtain ⟨rfl,rfl⟩:=hcnd
  injection hv2 with hv2
  subst hv2
  have hnew:∀ b,Blk y b->OB (.own e sh xs' :: cs) (y :: ys) 0 b:=fun b hb=>⟨_,_,_,y,rfl,rfl,hb⟩
  obtain ⟨h1,h2,h3⟩:=adopt hs hr (fun b hb=>hT.out 0 b (hnew b hb))
  refine ⟨_,_,_,hk,h1,h2.mono fun b hb=>hA 0 b (hnew b hb),h3,htl.keep him_refl fun i b hob=>⟨rfl,(htl.lt hob).2,fun hO=>?_⟩⟩
  rcases h2.own b hO with h4 | h4
  ·exact htl.out i b hob h4
  ·have:=hT.dis _ _ b (hnew b h4) (OB.right (cs:=[.own e sh xs']) (ys:=[y]) rfl hob)
   simp at this
   omega
theorem inCs_sound {A:Nat->Prop} {get:Nat->Option CV}:∀ {ks:List Kind} {i:Nat} {c0:List CV} {y0:List Value} {o:List AObj} {ρ:Nat->Option Value} {K:List CV->List AObj->R},SRx w Im ρ o X->c0.length = ks.length->y0.length = ks.length ->
  (∀ t,t < ks.length->get (i + t) = c0[t]?)->Toks w Im (c0 ++ cs) (y0 ++ ys) (Ow ρ)->(∀ i b,OB (c0 ++ cs) (y0 ++ ys) i b->A b)->inCs get ks i o K = some r ->
  ∃ ds o1 ρ1,K ds o1 = some r /\ SRx w Im ρ1 o1 X /\ Inn w Im ρ o ρ1 o1 A /\ ds.length = ks.length /\ (∀ (t:Nat) (d:CV) (y:Value),ds[t]? = some d->y0[t]? = some y->RC w Im ρ1 o1 d (mainV y)) /\ Toks w Im cs ys (Ow ρ1)
 | [],i,c0,y0,o,ρ,K,hs,hl,hl2,hg,hT,hA,h=>by
  simp only [inCs] at h
  have e1:c0 = []:=List.eq_nil_of_length_eq_zero hl
  have e2:y0 = []:=List.eq_nil_of_length_eq_zero hl2
  subst e1
  subst e2
  exact ⟨[],o,ρ,h,hs,Inn.refl,rfl,fun t d y hd=>by simp at hd,by simpa using hT⟩
 | k :: ks,i,c0,y0,o,ρ,K,hs,hl,hl2,hg,hT,hA,h=>by
  cases c0 with
  | nil=>simp at hl
  | cons c c0 =>
   cases y0 with
   | nil=>simp at hl2
   | cons y y0 =>
    simp only [inCs] at h
    have hg0:=hg 0 (by simp)
    simp only [Nat.add_zero,List.getElem?_cons_zero] at hg0
    obtain ⟨d,o1,ρ1,h,hs1,hin,hr,hT1⟩:=inC_sound (cs:=c0 ++ cs) (ys:=y0 ++ ys) (A:=A) hs hg0 (by simpa using hT) (by simpa using hA) h
    obtain ⟨ds,o2,ρ2,h,hs2,hin2,hl3,hr2,hT2⟩:=inCs_sound (c0:=c0) (y0:=y0) hs1 (by simpa using hl) (by simpa using hl2)
     (fun t ht=>by rw [show i + 1 + t = i + (t + 1) by omega,hg (t + 1) (by simpa using ht)];simp) hT1 (fun j b hob=>hA _ b (OB.right (cs:=[c]) (ys:=[y]) rfl hob)) h
    refine ⟨d :: ds,o2,ρ2,h,hs2,hin.trans hin2,by simp [hl3],?_,hT2⟩
    intro t d' y' hd' hy'
    cases t with
    | zero =>
     simp at hd' hy'
     subst hd'
     subst hy'
     exact hin2.keep _ _ hr
    | succ t=>exact hr2 t d' y' (by simpa using hd') (by simpa using hy')
theorem cellAt_get {bs:List (List CV)} {j:Nat} {c0:List CV} (h:bs[j]? = some c0) (i:Nat):cellAt bs j i = c0[i]?:=by simp [cellAt,h]
theorem inBs_sound {A:Nat->Prop} {bs:List (List CV)}:∀ {kss:List (List Kind)} {is:List Nat} {j:Nat} {bsr:List (List CV)} {vss:List (List Value)} {o:List AObj} {ρ:Nat->Option Value} {K:List AObj->R},SRx w Im ρ o (· ∈ is) ->
  bsr.map List.length = kss.map List.length->vss.map List.length = kss.map List.length->is.length = kss.length->(∀ t,t < kss.length->bs[j + t]? = bsr[t]?) ->
  (∀ (t i:Nat) (vs:List Value),is[t]? = some i->vss[t]? = some vs->∃ b c0,o[i]? = some (.box c0) /\ ρ i = some (.pointer (some ⟨b,0,none⟩)) /\ BoxAt w b vs /\ ¬ Im b) ->
  Toks w Im (bsr.flatten ++ cs) (vss.flatten ++ ys) (Ow ρ)->(∀ i b,OB (bsr.flatten ++ cs) (vss.flatten ++ ys) i b->A b)->inBs bs kss is j o K = some r ->
  ∃ o1 ρ1,K o1 = some r /\ SR w Im ρ1 o1 /\ Inn w Im ρ o ρ1 o1 A /\ Toks w Im cs ys (Ow ρ1)
 | [],[],j,bsr,vss,o,ρ,K,hs,hl,hl2,hli,hg,hb,hT,hA,h=>by
  simp only [inBs] at h
  have e1:bsr = []:=by simpa using hl
  have e2:vss = []:=by simpa using hl2
  subst e1
  subst e2
  exact ⟨o,ρ,h,hs.sr (by simp),Inn.refl,by simpa using hT⟩
 | ks :: kss,i :: is,j,bsr,vss,o,ρ,K,hs,hl,hl2,hli,hg,hb,hT,hA,h=>by
  cases bsr with
  | nil=>simp at hl
  | cons c0 bsr =>
   cases vss with
   | nil=>simp at hl2
   | cons v0 vss =>
    simp only [inBs] at h
    simp only [List.map_cons,List.cons.injEq] at hl hl2
    have hg0:=hg 0 (by simp)
    simp only [Nat.add_zero,List.getElem?_cons_zero] at hg0
    have hlen:v0.length = c0.length:=by rw [hl.1,hl2.1]
    obtain ⟨ds,o1,ρ1,h,hs1,hin,hl3,hr,hT1⟩:=inCs_sound (cs:=bsr.flatten ++ cs) (ys:=vss.flatten ++ ys) (A:=A) (c0:=c0) (y0:=v0) hs hl.1 hl2.1 (fun t ht=>by rw [Nat.zero_add];exact cellAt_get hg0 t)
     (by simpa using hT) (by simpa using hA) h
    obtain ⟨b,c00,ho,hρ,hbx,hI⟩:=hb 0 i v0 rfl rfl
    obtain ⟨c1,ho1,hρ1⟩:=hin.box i c00 ho
    rw [hρ] at hρ1
    obtain ⟨hs2,hin2⟩:=close hs1 ho1 hρ1 hbx hI (by rw [hl3];exact hl2.1) hr
    have hin2':Inn w Im ρ1 o1 ρ1 (o1.set i (.box ds)) A:=hin2.mono fun _ h=>h.elim
    have hb2:∀ (t i':Nat) (vs:List Value),is[t]? = some i'->vss[t]? = some vs->∃ b c0,(o1.set i (.box ds))[i']? = some (.box c0) /\ ρ1 i' = some (.pointer (some ⟨b,0,none⟩)) /\ BoxAt w b vs /\ ¬ Im b:=by
     intro t i' vs hi hv
     obtain ⟨b',c2,h1,h2,h3,h4⟩:=hb (t + 1) i' vs (by simpa using hi) (by simpa using hv)
     obtain ⟨c3,h5,h6⟩:=(hin.trans hin2').box i' c2 h1
     exact ⟨b',c3,h5,h6.trans h2,h3,h4⟩
    obtain ⟨o3,ρ3,hk,hs3,hin3,hT3⟩:=inBs_sound (bsr:=bsr) (vss:=vss) (hs2.mono (X':=(· ∈ is)) fun id hid=>by
      rcases List.mem_cons.1 hid.1 with h1 | h1
      ·exact absurd h1 hid.2
      ·exact h1) hl.2 hl2.2 (by simpa using hli)
     (fun t ht=>by rw [show j + 1 + t = j + (t + 1) by omega,hg (t + 1) (by simpa using ht)];simp) hb2 hT1 (fun t b hob=>by
      have:=OB.right (cs:=c0) (ys:=v0) hlen hob
      exact hA _ b (by simpa using this)) h
    exact ⟨o3,ρ3,hk,hs3,(hin.trans hin2').trans hin3,hT3⟩
 | [],_ :: _,_,_,_,_,_,_,_,_,_,_,_,_,_,_,h=>by simp [inBs] at h
 | _ :: _,[],_,_,_,_,_,_,_,_,_,_,_,_,_,_,h=>by simp [inBs] at h
theorem lenS_zero {d:SV} {k:Kind} (h:lenS d = lenK (.c k)):∃ c,d = .c c:=by cases d <;> simp_all [lenS,lenK]
theorem lenS_succ {d:SV} {ks:List Kind} (h:lenS d = lenK (.agg ks)):∃ c,d = .agg c /\ c.length = ks.length:=by cases d <;> simp_all [lenS,lenK]
theorem inSs_sound {A:Nat->Prop} {vs:List SV}:∀ {ks:List RK} {j:Nat} {vr:List SV} {y0 zs:List Value} {o:List AObj} {ρ:Nat->Option Value} {K:List SV->List AObj->R},SR w Im ρ o->vr.map lenS = ks.map lenK->RetSs vr y0 zs ->
  (∀ t,t < ks.length->vs[j + t]? = vr[t]?)->Toks w Im (vr.flatMap cellsOfS) zs (Ow ρ)->(∀ i b,OB (vr.flatMap cellsOfS) zs i b->A b)->inSs vs ks j o K = some r ->
  ∃ ds o1 ρ1,K ds o1 = some r /\ SR w Im ρ1 o1 /\ Inn w Im ρ o ρ1 o1 A /\ ds.length = ks.length /\ y0.length = ks.length /\ ∀ (t:Nat) (d:SV) (y:Value),ds[t]? = some d->y0[t]? = some y->RS w Im ρ1 o1 d y
 | [],j,vr,y0,zs,o,ρ,K,hs,hl,hret,hg,hT,hA,h=>by
  simp only [inSs] at h
  have e1:vr = []:=by simpa using hl
  subst e1
  cases hret
  exact ⟨[],o,ρ,h,hs,Inn.refl,rfl,rfl,fun t d y hd=>by simp at hd⟩
 | k :: ks,j,vr,y0,zs,o,ρ,K,hs,hl,hret,hg,hT,hA,h=>by
  cases hret with
  | nil=>simp at hl
  | @cons d0 y z0 vr y0 zs h0 hrest =>
   simp only [List.map_cons,List.cons.injEq] at hl
   have hg0:=hg 0 (by simp)
   simp only [Nat.add_zero,List.getElem?_cons_zero] at hg0
   have hgr:∀ t,t < ks.length->vs[j + 1 + t]? = vr[t]?:=fun t ht=>by rw [show j + 1 + t = j + (t + 1) by omega,hg (t + 1) (by simpa using ht)];simp
   cases k with
   | c k =>
    obtain ⟨c,rfl⟩:=lenS_zero hl.1
    simp only [RetS] at h0
    obtain ⟨g,rfl,rfl⟩:=h0
    simp only [inSs] at h
    obtain ⟨d,o1,ρ1,h,hs1,hin,hr,hT1⟩:=inC_sound (cs:=vr.flatMap cellsOfS) (ys:=zs) (A:=A) (X:=fun _=>False) (c1:=c) (y:=g) (hs.x _) (by simp [resAt,hg0]) (by simpa [cellsOfS] using hT) (by simpa [cellsOfS] using hA) h
    obtain ⟨ds,o2,ρ2,h,hs2,hin2,hl3,hl4,hr2⟩:=inSs_sound (hs1.sr fun _ h=>h) hl.2 hrest hgr hT1 (fun t b hob=>hA _ b (by simpa [cellsOfS] using OB.right (cs:=[c]) (ys:=[g]) rfl hob)) h
    refine ⟨.c d :: ds,o2,ρ2,h,hs2,hin.trans hin2,by simp [hl3],by simp [hl4],?_⟩
    intro t d' y' hd' hy'
    cases t with
    | zero =>
     simp at hd' hy'
     subst hd'
     subst hy'
     exact hin2.keep _ _ hr
    | succ t=>exact hr2 t d' y' (by simpa using hd') (by simpa using hy')
   | agg kk =>
    obtain ⟨c,rfl,hcl⟩:=lenS_succ hl.1
    obtain ⟨hzl,rfl,hz1⟩:=h0
    simp only [inSs] at h
    obtain ⟨d,o1,ρ1,h,hs1,hin,hdl,hr,hT1⟩:=inCs_sound (cs:=vr.flatMap cellsOfS) (ys:=zs) (A:=A) (X:=fun _=>False) (c0:=c) (y0:=z0) (hs.x _) hcl (by omega) (fun t ht=>by simp [partAt,hg0]) (by simpa [cellsOfS] using hT) (by simpa [cellsOfS] using hA) h
    obtain ⟨ds,o2,ρ2,h,hs2,hin2,hl3,hl4,hr2⟩:=inSs_sound (hs1.sr fun _ h=>h) hl.2 hrest hgr hT1 (fun t b hob=>hA _ b (by simpa [cellsOfS] using OB.right (cs:=c) (ys:=z0) hzl hob)) h
    refine ⟨mkAgg d :: ds,o2,ρ2,h,hs2,hin.trans hin2,by simp [hl3],by simp [hl4],?_⟩
    intro t d' y' hd' hy'
    cases t with
    | zero =>
     simp at hd' hy'
     subst hd'
     subst hy'
     refine mkAgg_sound (by simp;omega) (fun i c' y hc' hy=>?_) (fun i y hy=>?_)
     ·simp only [List.getElem?_toArray,List.getElem?_map,Option.map_eq_some_iff] at hy
      obtain ⟨y',hy',rfl⟩:=hy
      exact hin2.keep _ _ (hr i c' y' hc' hy')
     ·simp only [List.getElem?_toArray,List.getElem?_map,Option.map_eq_some_iff] at hy
      obtain ⟨y',hy',rfl⟩:=hy
      exact hz1 y' (List.mem_of_getElem? hy')
    | succ t=>exact hr2 t d' y' (by simpa using hd') (by simpa using hy')
end
end Go.Dp
/- Calls: what is known of a function,and what the caller makes of it. -/
set_option linter.unusedVariables false
set_option linter.unusedSimpArgs false
namespace Go.Dp
def Ptrs (bl:List Nat):Nat->Option Value:=fun j=>bl[j]?.map fun b=>.pointer (some ⟨b,0,none⟩)
def blanks (n:Nat):List AObj:=List.replicate n (.box [])
def packV:List Value->Value
 | [y]=>y
 | ys=>.tuple ys.toArray
def RetV (rs:List SV) (v:Value) (zs:List Value):Prop:=∃ y0,RetSs rs y0 zs /\ v = packV y0
def DD (bl:List Nat) (cs:List CV) (ys:List Value) (b:Nat):Prop:=b ∈ bl ∨ OBs cs ys b
def Enters (P : Program) (f : FuncId) : Prop := ∃ fn, P.funcs[f]? = some fn ∧ fn.body.isSome = true ∧ fn.name ≠ "runtime.NumGoroutine"
def isOwnA:AV->Bool
 | .s (.c (.own ..))=>true
 | _=>false
def ownC:List AV->List CV
 | []=>[]
 | a :: as=>match a with
  | .s (.c (.own e sh xs))=>.own e sh xs :: ownC as
  | _=>ownC as
inductive OwnG:List AV->List Value->List Value->Prop
 | nil:OwnG [] [] []
 | own {e:Et} {sh:Nat} {xs:List PV} {g:Value} {as:List AV} {ys gs:List Value}:OwnG as ys gs->OwnG (.s (.c (.own e sh xs)) :: as) (mainV g :: ys) (g :: gs)
 | no {a:AV} {y:Value} {as:List AV} {ys gs:List Value}:isOwnA a = false->OwnG as ys gs->OwnG (a :: as) (y :: ys) gs
theorem ownC_no {a:AV} (h:isOwnA a = false) (as:List AV):ownC (a :: as) = ownC as:=by
 simp only [ownC]
 split
 · simp [isOwnA] at h
 · rfl
theorem OwnG.len {as:List AV} {ys gs:List Value} (h:OwnG as ys gs):ys.length = as.length /\ gs.length = (ownC as).length:=by
 induction h with
 | nil=>exact ⟨rfl,rfl⟩
 | own _ ih=>exact ⟨by simp [ih.1],by simp [ownC,ih.2]⟩
 | no hn _ ih=>exact ⟨by simp [ih.1],by rw [ownC_no hn];exact ih.2⟩
theorem OwnG.none:∀ {as:List AV} {ys:List Value},ys.length = as.length->(∀ a ∈ as,isOwnA a = false)->OwnG as ys [] /\ ownC as = []
 | [],[],_,_=>⟨.nil,rfl⟩
 | a :: as,y :: ys,hl,h=>by
  obtain ⟨h1,h2⟩:=OwnG.none (as:=as) (ys:=ys) (by simpa using hl) (fun a ha=>h a (by simp [ha]))
  exact ⟨.no (h a (by simp)) h1,by rw [ownC_no (h a (by simp))];exact h2⟩
 | [],_ :: _,hl,_=>by simp at hl
 | _ :: _,[],hl,_=>by simp at hl
structure Pre (w:World) (Im:Nat->Prop) (bl:List Nat) (bs:List (List CV)) (vss:List (List Value)) (args:List AV) (ys gs:List Value):Prop where
 im:∀ b,Im b->b < w.heap.size
 nd:∀ (i j b:Nat),bl[i]? = some b->bl[j]? = some b->i = j
 l1:bl.length = bs.length
 l2:vss.map List.length = bs.map List.length
 box:∀ (j b:Nat) (vs:List Value),bl[j]? = some b->vss[j]? = some vs->BoxAt w b vs /\ ¬ Im b
 tok:Toks w Im (bs.flatten ++ ownC args) (vss.flatten ++ gs) (· ∈ bl)
 og:OwnG args ys gs
 arg:∀ (i:Nat) (a:AV) (y:Value),args[i]? = some a->ys[i]? = some y->isOwnA a = false->RA w Im (Ptrs bl) (blanks bl.length) a y
structure Post (w:World) (Im:Nat->Prop) (bl:List Nat) (cs:List CV) (us:List Value) (r:List SV × List (List CV)) (v:Value) (w':World) (Im':Nat->Prop) (vss':List (List Value)) (zs:List Value):Prop where
 wd:Wd w w'
 fr:∀ b,b < w.heap.size->¬ DD bl cs us b->w'.heap[b]? = w.heap[b]?
 im:∀ b,Im b->Im' b /\ w'.heap[b]? = w.heap[b]?
 imn:∀ b,Im' b->(Im b ∨ w.heap.size<=b ∨ DD bl cs us b) /\ b < w'.heap.size
 l1:r.2.length = bl.length
 l2:vss'.map List.length = r.2.map List.length
 box:∀ (j b:Nat) (vs:List Value),bl[j]? = some b->vss'[j]? = some vs->BoxAt w' b vs /\ ¬ Im' b
 tok:Toks w' Im' (r.2.flatten ++ r.1.flatMap cellsOfS) (vss'.flatten ++ zs) (· ∈ bl)
 ow:∀ b,OBs (r.2.flatten ++ r.1.flatMap cellsOfS) (vss'.flatten ++ zs) b->w.heap.size<=b ∨ DD bl cs us b
 ret:RetV r.1 v zs
def Contract (P:Program) (f:FuncId) (args:List AV) (bs:List (List CV)) (r:List SV × List (List CV)):Prop :=
 Enters P f /\ ∀ w Im bl vss ys gs,Pre w Im bl bs vss args ys gs->Calls P f ys.toArray w fun e w'=>∃ v Im' vss' zs,e = .returned v /\ Post w Im bl (bs.flatten ++ ownC args) (vss.flatten ++ gs) r v w' Im' vss' zs
theorem mem_add1 {l:List Nat} {i x:Nat}:x ∈ add1 l i ↔ x ∈ l ∨ x = i:=by
 unfold add1
 cases h:l.contains i
 ·simp
 ·simp at h
  simp
  intro e;subst e;exact h
theorem mem_adds {l is:List Nat} {x:Nat}:x ∈ adds l is ↔ x ∈ l ∨ x ∈ is:=by
 unfold adds
 induction is generalizing l with
 | nil=>simp
 | cons i is ih=>rw [List.foldl_cons,ih,mem_add1];simp [or_assoc]
theorem nodup_add1 {l:List Nat} {i:Nat} (h:l.Nodup):(add1 l i).Nodup:=by
 unfold add1
 cases hc:l.contains i
 ·simp at hc
  simp [List.nodup_append,h]
  intro a ha e
  subst e
  exact hc ha
 ·exact h
theorem nodup_adds {l is:List Nat} (h:l.Nodup):(adds l is).Nodup:=by
 unfold adds
 induction is generalizing l with
 | nil=>exact h
 | cons i is ih=>exact ih (nodup_add1 h)
theorem idx_some {L:List Nat} {id j:Nat} (h:idx L id = some j):L[j]? = some id:=by
 unfold idx at h
 rw [List.idxOf?_eq_some_iff] at h
 obtain ⟨hlt,h1,_⟩:=h
 simp [hlt,h1]
theorem idxs_some {L:List Nat}:∀ {is js:List Nat},idxs L is = some js->js.length = is.length /\ ∀ (k j:Nat),js[k]? = some j->∃ id,is[k]? = some id /\ L[j]? = some id
 | [],js,h=>by simp [idxs] at h;subst h;exact ⟨rfl,fun k j h=>by simp at h⟩
 | i :: is,js,h=>by
  simp only [idxs] at h
  split at h
  ·rename_i j js' h1 h2
   injection h with h
   subst h
   obtain ⟨hl,hr⟩:=idxs_some h2
   refine ⟨by simp [hl],fun k j' hj=>?_⟩
   cases k with
   | zero=>simp at hj;subst hj;exact ⟨i,rfl,idx_some h1⟩
   | succ k=>simpa using hr k j' (by simpa using hj)
  ·cases h
section
variable {P:Program} {E:Env} {w w':World} {Im Im':Nat->Prop} {ρ ρ':Nat->Option Value} {o o':List AObj} {K:Kt} {r:List SV × List (List CV)} {cs:List CV} {ys:List Value} {D D' X:Nat->Prop}
theorem cells_of_RA {a:AV} {y:Value} (h:RA w Im ρ o a y):∀ c ∈ cellsOfA a,∃ z,RC w Im ρ o c z:=by
 have hS:∀ (v:SV) (y:Value),RS w Im ρ o v y->∀ c ∈ cellsOfS v,∃ z,RC w Im ρ o c z:=by
  intro v y h c hc
  cases v with
  | c c'=>simp [cellsOfS] at hc;subst hc;exact ⟨y,h⟩
  | agg cs =>
   obtain ⟨vs,rfl,hl,hr,_⟩:=h
   obtain ⟨i,hi,rfl⟩:=List.getElem_of_mem hc
   simp only [cellsOfS] at hi ⊢
   have hi':i < vs.size:=by rw [hl];exact hi
   exact ⟨vs[i],hr i _ _ (by simp [hi]) (by simp [hi'])⟩
 cases a with
 | s v=>exact hS v y h
 | tup ts =>
  intro c hc
  obtain ⟨vs,rfl,hl,hr⟩:=h
  simp only [cellsOfA,List.mem_flatMap] at hc
  obtain ⟨s,hs,hc⟩:=hc
  obtain ⟨i,hi,rfl⟩:=List.getElem_of_mem hs
  have hi':i < vs.size:=by rw [hl];exact hi
  exact hS _ _ (hr i _ vs[i] (by simp [hi]) (by simp [hi'])) c hc
theorem ptr_of_RC {c:CV} {y:Value} (h:RC w Im ρ o c y) {id:Nat} (hid:id ∈ ptrsC c) {c0:List CV} (ho:o[id]? = some (.box c0)):∃ b,ρ id = some (.pointer (some ⟨b,0,none⟩)):=by
 cases c <;> simp [ptrsC] at hid
 ·subst hid
  simp only [RC,RB,ho] at h
  obtain ⟨b,hb,_⟩:=h
  exact ⟨b,hb⟩
 ·obtain ⟨vs,_,hl,hr⟩:=h
  obtain ⟨i,hi,rfl⟩:=List.getElem_of_mem hid
  obtain ⟨y,_,hb⟩:=hr i _ (List.getElem?_eq_getElem hi)
  simp only [RB,ho] at hb
  obtain ⟨b,hb,_⟩:=hb
  exact ⟨b,hb⟩
theorem freezeO_box {i id:Nat}:(∀ cs,o[id]? = some (.box cs) ↔ (freezeO o i)[id]? = some (.box cs)):=by
 intro cs
 unfold freezeO
 split
 ·rename_i e sh ver fz xs h
  have key:∀ x:AObj,(∀ cs,x ≠ .box cs)->(o[id]? = some (.box cs) ↔ (o.set i x)[id]? = some (.box cs)):=by
   intro x hx
   by_cases e1:id = i
   ·subst e1
    have hlt:=(List.getElem?_eq_some_iff.1 h).1
    rw [h,List.getElem?_set_self hlt]
    constructor
    ·intro h;cases h
    ·intro h;injection h with h;exact absurd h (hx cs)
   ·rw [List.getElem?_set_ne (Ne.symm e1)]
  split
  ·exact key _ (by simp)
  ·cases Option.isNone _
   ·exact Iff.rfl
   ·exact key _ (by simp)
 ·exact Iff.rfl
theorem freezeAll_box {is:List Nat} {id:Nat}:∀ {o:List AObj} (cs:List CV),o[id]? = some (.box cs) ↔ (freezeAll is o)[id]? = some (.box cs):=by
 unfold freezeAll
 induction is with
 | nil=>intro o cs;exact Iff.rfl
 | cons i is ih=>intro o cs;rw [List.foldl_cons,<- ih];exact freezeO_box cs
def Whole (e:Et):Prop:=∀ k,e.kd = some k->k.hole = none
theorem whole_none {e:Et} (h:e.kd = none):Whole e:=by intro k hk;rw [h] at hk;cases hk
theorem whole_of {id sh ver:Nat} {e:Et} {fz:Bool} {xs:List PV} (h:wholeO o id = true) (ho:o[id]? = some (.arr e sh ver fz xs)):Whole e:=by
 intro k hk
 unfold wholeO at h
 rw [ho] at h
 simp only [hk] at h
 simpa using h
theorem freezeO_arr {i id sh ver:Nat} {e:Et} {fz:Bool} {xs:List PV} (h:o[id]? = some (.arr e sh ver fz xs)) (hk:Whole e):∃ e' fz',(freezeO o i)[id]? = some (.arr e' sh ver fz' xs) /\ Whole e' /\ (i = id->e'.kd = none):=by
 unfold freezeO
 split
 ·rename_i e' sh' ver' fz' xs' h'
  by_cases e1:id = i
  ·subst e1
   rw [h] at h'
   injection h' with h'
   injection h' with h1 h2 h3 h4 h5
   subst h1 h2 h3 h5
   split
   ·rename_i hn
    exact ⟨e,true,by rw [List.getElem?_set_self (List.getElem?_eq_some_iff.1 h).1],hk,fun _=>hn⟩
   ·rename_i k hs
    rw [hk k hs]
    exact ⟨e.t,true,by simp only [Option.isNone_none,cond_true];rw [List.getElem?_set_self (List.getElem?_eq_some_iff.1 h).1],whole_none rfl,fun _=>rfl⟩
  ·split
   ·exact ⟨e,fz,by rw [List.getElem?_set_ne (Ne.symm e1)];exact h,hk,fun he=>absurd he.symm e1⟩
   ·cases Option.isNone _
    ·exact ⟨e,fz,h,hk,fun he=>absurd he.symm e1⟩
    ·exact ⟨e,fz,by simp only [cond_true];rw [List.getElem?_set_ne (Ne.symm e1)];exact h,hk,fun he=>absurd he.symm e1⟩
 ·rename_i hno
  exact ⟨e,fz,h,hk,fun he=>by subst he;exact (hno _ _ _ _ _ h).elim⟩
theorem freezeAll_sound:∀ {is:List Nat} {o:List AObj} {Im:Nat->Prop},SR w Im ρ o->∃ ImL,Step w Im ρ o w ImL ρ (freezeAll is o) /\ ∀ id ∈ is,∀ e sh ver fz xs,o[id]? = some (.arr e sh ver fz xs)->Whole e->∀ v b,ρ id = some v->Blk v b->ImL b
 | [],o,Im,hs=>⟨Im,Step.refl hs,by simp⟩
 | i :: is,o,Im,hs=>by
  obtain ⟨Im1,hst,hb⟩:=freezeO_sound hs i
  obtain ⟨ImL,hst2,hb2⟩:=freezeAll_sound (is:=is) hst.sr
  refine ⟨ImL,hst.trans hst2,?_⟩
  intro id hid e sh ver fz xs ho hk v b hv hbk
  obtain ⟨e',fz',ho',hk',hi⟩:=freezeO_arr (i:=i) ho hk
  rcases List.mem_cons.1 hid with rfl | hid
  ·exact (hst2.im b (hb _ _ _ _ _ ho' (hi rfl) v b hv hbk)).1
  ·exact hb2 id hid _ _ _ _ _ ho' hk' v b hv hbk
theorem RB.name {roots bl:List Nat} {id off j:Nat} {y:Value} (hj:roots[j]? = some id) (hb:RB ρ o id off y) {c0:List CV} (ho:o[id]? = some (.box c0)) (hbl:∀ (j id:Nat),roots[j]? = some id->∃ b,bl[j]? = some b /\ ρ id = some (.pointer (some ⟨b,0,none⟩))) :
  RB (Ptrs bl) (blanks bl.length) j off y:=by
 simp only [RB,ho] at hb
 obtain ⟨b,hρ,rfl⟩:=hb
 obtain ⟨b',h1,h2⟩:=hbl j id hj
 rw [hρ] at h2
 injection h2 with h2
 injection h2 with h2
 injection h2 with h2
 injection h2 with h2
 subst h2
 have hlt:=(List.getElem?_eq_some_iff.1 h1).1
 have:(blanks bl.length)[j]? = some (.box []):=by simp [blanks,hlt]
 simp only [RB,this]
 exact ⟨b,by simp [Ptrs,h1],rfl⟩
theorem lendC_sound {ImL:Nat->Prop} {roots bl lent:List Nat} (hs:SR w Im ρ o) (hi:∀ b,Im b->ImL b) {c:CV} {y:Value} (hc:RC w Im ρ o c y) (hlent:∀ id ∈ locsC o c,∀ e sh ver fz xs,o[id]? = some (.arr e sh ver fz xs)->Whole e->∀ v b,ρ id = some v->Blk v b->ImL b)
  (hbox:∀ (j id:Nat),roots[j]? = some id->∃ c0,o[id]? = some (.box c0)) (hbl:∀ (j id:Nat),roots[j]? = some id->∃ b,bl[j]? = some b /\ ρ id = some (.pointer (some ⟨b,0,none⟩))) :
  RC w ImL (Ptrs bl) (blanks bl.length) (nameC roots (lendC o c)) y:=by
 have hm:∀ b,Im b->ImL b /\ w.heap[b]? = w.heap[b]?:=fun b h=>⟨hi b h,rfl⟩
 cases c with
 | p v=>exact RP.mono hm hc
 | undef=>trivial
 | own e sh xs=>exact hc.elim
 | cfn f us =>
  obtain ⟨vs,hx,hl,hh⟩:=hc
  refine ⟨vs,hx,hl,fun i u hu=>?_⟩
  obtain ⟨b,base,h1,h2,h3,h4⟩:=hh i u hu
  exact ⟨b,base,h1,hi b h2,h3,fun j c hj=>let ⟨z,hz,hr⟩:=h4 j c hj;⟨z,hz,RP.mono hm hr⟩⟩
 | nel=>trivial
 | aptr=>trivial
 | eptr v sh off =>
  obtain ⟨b,base,hx,hb,hsh,hh⟩:=hc
  exact ⟨b,base,hx,hi b hb,hsh,fun j c hj=>let ⟨z,hz,hr⟩:=hh j c hj;⟨z,hz,RP.mono hm hr⟩⟩
 | loc id ver sh lo len =>
  simp only [lendC]
  cases hwo:wholeO o id with
  | false=>trivial
  | true =>
  simp only [cond_true]
  split
  ·rename_i v hv
   obtain ⟨e,fz,xs,ho⟩:=viewL_arr hv
   refine viewL_sound hs hi hc hv fun u b hu hb=>?_
   cases fz with
   | true =>
    obtain ⟨vals,_,_,_,hz,_⟩:=hs.ob id _ _ ho hu
    exact hi b ((hz b hb).2 rfl)
   | false=>exact hlent id (by simp [locsC,ho]) e sh ver false xs ho (whole_of hwo ho) u b hu hb
  ·trivial
 | bptr id off =>
  simp only [lendC,nameC]
  split
  ·rename_i j hj
   have hj':=idx_some hj
   obtain ⟨c0,ho⟩:=hbox j id hj'
   exact RB.name hj' hc ho hbl
  ·trivial
 | fn f caps =>
  simp only [lendC,nameC]
  split
  ·rename_i js hj
   obtain ⟨hl,hr⟩:=idxs_some hj
   obtain ⟨vs,hx,hl2,hh⟩:=hc
   refine ⟨vs,hx,by omega,fun i j hij=>?_⟩
   obtain ⟨id,h1,h2⟩:=hr i j hij
   obtain ⟨z,hz,hb⟩:=hh i id h1
   obtain ⟨c0,ho⟩:=hbox j id h2
   exact ⟨z,hz,RB.name h2 hb ho hbl⟩
  ·trivial
theorem lendA_sound {ImL:Nat->Prop} {roots bl lent:List Nat} (hs:SR w Im ρ o) (hi:∀ b,Im b->ImL b) {a:AV} {y:Value} (ha:RA w Im ρ o a y) (hlent:∀ c ∈ cellsOfA a,∀ id ∈ locsC o c,∀ e sh ver fz xs,o[id]? = some (.arr e sh ver fz xs)->Whole e->∀ v b,ρ id = some v->Blk v b->ImL b)
  (hbox:∀ (j id:Nat),roots[j]? = some id->∃ c0,o[id]? = some (.box c0)) (hbl:∀ (j id:Nat),roots[j]? = some id->∃ b,bl[j]? = some b /\ ρ id = some (.pointer (some ⟨b,0,none⟩))) :
  RA w ImL (Ptrs bl) (blanks bl.length) (lendA roots o a) y:=by
 cases a with
 | tup ts=>trivial
 | s v =>
  cases v with
  | c c=>exact lendC_sound (lent:=lent) hs hi ha (hlent c (by simp [cellsOfA,cellsOfS])) hbox hbl
  | agg cs =>
   obtain ⟨vs,rfl,hl,hr,h1⟩:=ha
   refine mkAgg_sound (by simpa using hl) (fun i c z hc hz=>?_) h1
   simp only [List.getElem?_map,Option.map_eq_some_iff] at hc
   obtain ⟨c',hc',rfl⟩:=hc
   exact lendC_sound (lent:=lent) hs hi (hr i c' z hc' hz) (hlent c' (by simp [cellsOfA,cellsOfS];exact List.mem_of_getElem? hc')) hbox hbl
theorem viewCs_get:∀ {cs:List CV} {us:List PV},viewCs o cs = some us->us.length = cs.length /\ ∀ (j:Nat) (c:PV),us[j]? = some c->∃ d,cs[j]? = some d /\ viewCL o d = some c /\ c.one = true
 | [],us,h=>by simp [viewCs] at h;subst h;exact ⟨rfl,fun j c h=>by simp at h⟩
 | d :: cs,us,h=>by
  simp only [viewCs] at h
  split at h
  ·rename_i v vs h1 h2
   obtain ⟨h3,h⟩:=bif_some h
   injection h with h
   subst h
   obtain ⟨h4,h5⟩:=viewCs_get h2
   refine ⟨by simp [h4],fun j c hj=>?_⟩
   cases j with
   | zero=>simp at hj;subst hj;exact ⟨d,rfl,h1,h3⟩
   | succ j=>simpa using h5 j c (by simpa using hj)
  ·cases h
theorem boxVals_get:∀ {caps:List Nat} {us:List PV},boxVals o caps = some us->us.length = caps.length /\ ∀ (i:Nat) (u:PV),us[i]? = some u->∃ id cs vs,caps[i]? = some id /\ o[id]? = some (.box cs) /\ viewCs o cs = some vs /\ vs ≠ [] /\ u = .agg vs
 | [],us,h=>by simp [boxVals] at h;subst h;exact ⟨rfl,fun j c h=>by simp at h⟩
 | id :: caps,us,h=>by
  simp only [boxVals] at h
  split at h
  ·rename_i cs ho
   split at h
   ·rename_i vs us' h1 h2
    obtain ⟨h3,h⟩:=bif_some h
    injection h with h
    subst h
    obtain ⟨h4,h5⟩:=boxVals_get h2
    refine ⟨by simp [h4],fun j c hj=>?_⟩
    cases j with
    | zero=>simp at hj;subst hj;exact ⟨id,cs,vs,rfl,ho,h1,by simpa using h3,rfl⟩
    | succ j=>simpa using h5 j c (by simpa using hj)
   ·cases h
  ·cases h
theorem lendR_sound {ro:Bool} {ImX:Nat->Prop} {roots bl:List Nat} (hs:SR w Im ρ o) (hi:∀ b,Im b->ImX b) {a:AV} {y:Value} (ha:RA w Im ρ o a y)
  (hlent:∀ c ∈ cellsOfA a,∀ id ∈ locsR ro o c,∀ e sh ver fz xs,o[id]? = some (.arr e sh ver fz xs)->(ro = true ∨ Whole e)->∀ v b,ρ id = some v->Blk v b->ImX b)
  (hcap:ro = true->∀ c ∈ cellsOfA a,∀ id ∈ capsC c,id ∉ roots->∀ c0 b,o[id]? = some (.box c0)->ρ id = some (.pointer (some ⟨b,0,none⟩))->ImX b)
  (hbox:∀ (j id:Nat),roots[j]? = some id->∃ c0,o[id]? = some (.box c0)) (hbl:∀ (j id:Nat),roots[j]? = some id->∃ b,bl[j]? = some b /\ ρ id = some (.pointer (some ⟨b,0,none⟩))) :
  RA w ImX (Ptrs bl) (blanks bl.length) (lendR ro roots o a) y:=by
 cases ro with
 | false=>exact lendA_sound (lent:=[]) hs hi ha (fun c hc id hid e sh ver fz xs h1 h2=>hlent c hc id (by simpa [locsR] using hid) e sh ver fz xs h1 (.inr h2)) hbox hbl
 | true =>
  have base:RA w ImX (Ptrs bl) (blanks bl.length) (lendA roots o a) y:=lendA_sound (lent:=[]) hs hi ha (fun c hc id hid e sh ver fz xs h1 h2=>hlent c hc id (by simp [locsR,hid]) e sh ver fz xs h1 (.inr h2)) hbox hbl
  unfold lendR
  simp only
  split
  ·rename_i f caps
   cases hcond:caps.all (fun i=>!roots.contains i)
   ·trivial
   ·simp only [cond_true]
    split
    ·rename_i us hus
     obtain ⟨hl,hr⟩:=boxVals_get hus
     obtain ⟨vs,rfl,hvl,hvr⟩:=ha
     refine ⟨vs,rfl,by omega,fun i u hu=>?_⟩
     obtain ⟨id,cs,ws,h1,h2,h3,h4,rfl⟩:=hr i u hu
     obtain ⟨z,hz,hb⟩:=hvr i id h1
     simp only [RB,h2] at hb
     obtain ⟨b,hρ,rfl⟩:=hb
     obtain ⟨b',vals,e,hp,hh,hcl,hrc,hone,hni⟩:=hs.ob id _ _ h2 hρ
     obtain rfl:b = b':=by simpa using hp
     obtain ⟨hwl,hwr⟩:=viewCs_get h3
     have hidr:id ∉ roots:=by
      simp only [List.all_eq_true] at hcond
      have:=hcond id (List.mem_of_getElem? h1)
      simpa using this
     refine ⟨b,0,hz,hcap rfl (.fn f caps) (by simp [cellsOfA,cellsOfS]) id (List.mem_of_getElem? h1) hidr cs b h2 hρ,?_,fun j c hj=>?_⟩
     ·cases ws with
      | nil=>exact absurd rfl h4
      | cons x ws =>
       simp only [PV.cells,List.length_cons,PV.shp,beq_self_eq_true,Bool.true_and,List.all_eq_true]
       intro q hq
       obtain ⟨k,hk,rfl⟩:=List.getElem_of_mem hq
       obtain ⟨_,_,_,h5⟩:=hwr k _ (List.getElem?_eq_getElem hk)
       exact h5
     ·simp only [PV.cells] at hj
      obtain ⟨d,hd,hv,hc1⟩:=hwr j c hj
      have hjl:j < vals.size:=by rw [hcl];exact (List.getElem?_eq_some_iff.1 hd).1
      refine ⟨vals[j],by simp [World.cell?,hh,hjl],?_⟩
      have hrd:=hrc j d vals[j] hd (by simp [hjl])
      cases d with
      | p v=>simp [viewCL,viewC] at hv;subst hv;exact RP.mono (fun b h=>⟨hi b h,rfl⟩) hrd
      | loc id2 ver sh lo len =>
       simp only [viewCL] at hv
       obtain ⟨e2,fz,xs,ho2⟩:=viewL_arr hv
       refine viewL_sound hs hi hrd hv fun u b hu hb=>?_
       cases fz with
       | true =>
        obtain ⟨vals,_,_,_,hz,_⟩:=hs.ob id2 _ _ ho2 hu
        exact hi b ((hz b hb).2 rfl)
       | false =>
        refine hlent (.fn f caps) (by simp [cellsOfA,cellsOfS]) id2 ?_ e2 sh ver false xs ho2 (.inl rfl) u b hu hb
        simp only [locsR,cond_true,List.mem_append,List.mem_flatMap,capsC]
        exact .inr ⟨id,List.mem_of_getElem? h1,_,by simp only [cellsOfO,h2];exact List.mem_of_getElem? hd,by simp [locsC,ho2]⟩
      | _=>simp [viewCL,viewC] at hv
    ·trivial
  ·exact base
theorem len_flatten {α β:Type}:∀ {a:List (List α)} {b:List (List β)},a.map List.length = b.map List.length->a.flatten.length = b.flatten.length
 | [],[],_=>rfl
 | x :: a,y :: b,h=>by
  simp only [List.map_cons,List.cons.injEq] at h
  simp only [List.flatten_cons,List.length_append,h.1,len_flatten h.2]
 | [],_ :: _,h=>by simp at h
 | _ :: _,[],h=>by simp at h
theorem pack_sound {ds:List SV} {y0:List Value} (hl:ds.length = y0.length) (h:∀ (t:Nat) (d:SV) (y:Value),ds[t]? = some d->y0[t]? = some y->RS w Im ρ o d y) :
  RA w Im ρ o (packS ds) (packV y0):=by
 match ds,y0,hl with
 | [],[],_=>exact ⟨#[],rfl,rfl,fun i c y h=>by simp at h⟩
 | [x],[y],_=>exact h 0 x y rfl rfl
 | x :: x2 :: xs,y :: y2 :: ys,hl=>exact ⟨_,rfl,by simpa using hl.symm,fun i c z hc hz=>h i c z hc (by simpa using hz)⟩
theorem afterCall {ImA ImR:Nat->Prop} {ρ1:Nat->Option Value} {oA:List AObj} {roots bl:List Nat} {cs:List CV} {us:List Value} {vss':List (List Value)} {ks:List (List Kind)} {rk:List RK} {v:Value} {zs:List Value} {q:List SV × List (List CV)}
  (hst:Step w Im ρ o w ImA ρ1 oA)
  (hown:∀ b,DD bl cs us b->Ow ρ b) (hnow:∀ b,OBs cs us b->¬ Ow ρ1 b)
  (hbl:∀ (j id:Nat),roots[j]? = some id->∃ b c0,bl[j]? = some b /\ ρ1 id = some (.pointer (some ⟨b,0,none⟩)) /\ oA[id]? = some (.box c0)) (hbr:∀ b ∈ bl,∃ (j id:Nat),bl[j]? = some b /\ roots[j]? = some id)
  (hwd:Wd w w') (hfr:∀ b,b < w.heap.size->¬ DD bl cs us b->w'.heap[b]? = w.heap[b]?) (him:∀ b,ImA b->ImR b /\ w'.heap[b]? = w.heap[b]?)
  (himn:∀ b,ImR b->(ImA b ∨ w.heap.size<=b ∨ DD bl cs us b) /\ b < w'.heap.size) (hl2:vss'.map List.length = q.2.map List.length)
  (hbox:∀ (j b:Nat) (vs:List Value),bl[j]? = some b->vss'[j]? = some vs->BoxAt w' b vs /\ ¬ ImR b)
  (htok:Toks w' ImR (q.2.flatten ++ q.1.flatMap cellsOfS) (vss'.flatten ++ zs) (· ∈ bl))
  (how:∀ b,OBs (q.2.flatten ++ q.1.flatMap cellsOfS) (vss'.flatten ++ zs) b->w.heap.size<=b ∨ DD bl cs us b) (hret:RetV q.1 v zs)
  (hk1:q.2.map List.length = ks.map List.length) (hk2:roots.length = ks.length) (hk3:q.1.map lenS = rk.map lenK)
  (h:(inBs q.2 ks roots 0 oA fun o3=>inSs q.1 rk 0 o3 fun vs o4=>K (packS vs) o4) = some r) :
  ∃ v' o' ρ',K v' o' = some r /\ Step w Im ρ o w' ImR ρ' o' /\ RA w' ImR ρ' o' v' v:=by
 have hsA:=hst.sr
 have ptr:∀ b ∈ bl,∃ id,id ∈ roots /\ ρ1 id = some (.pointer (some ⟨b,0,none⟩)):=by
  intro b hb
  obtain ⟨j,id,h1,h2⟩:=hbr b hb
  obtain ⟨b',c0,h3,h4,_⟩:=hbl j id h2
  rw [h1] at h3
  injection h3 with h3
  subst h3
  exact ⟨id,List.mem_of_getElem? h2,h4⟩
 have ndd:∀ id u b,id ∉ roots->ρ1 id = some u->Blk u b->¬ DD bl cs us b:=by
  rintro id u b hid hu hb (hd | hd)
  ·obtain ⟨id',h1,h2⟩:=ptr b hd
   exact hid (hsA.inj id' id _ u b h2 hu rfl hb ▸ h1)
  ·exact hnow b hd ⟨id,u,hu,hb⟩
 have hc:Compat ρ1 ρ1 oA oA:=fun id a ha=>⟨a,ha,by cases a <;> simp [CompatO]⟩
 have hsx:SRx w' ImR ρ1 oA (· ∈ roots):=by
  refine ⟨?_,hsA.inj,fun id v hv=>⟨(hsA.lt id v hv).1,fun b hb=>Nat.lt_of_lt_of_le ((hsA.lt id v hv).2 b hb) hwd.size⟩,fun b hb=>(himn b hb).2,hsA.dd⟩
  intro id x u hid hx hu
  refine RO.keep him hc (fun b hb=>hfr b ((hsA.lt id u hu).2 b hb) (ndd id u b hid hu hb)) (fun b hb hI=>?_) (hsA.ob id x u hx hu)
  rcases (himn b hI).1 with h1 | h1 | h1
  ·exact h1
  ·have:=(hsA.lt id u hu).2 b hb;omega
  ·exact (ndd id u b hid hu hb h1).elim
 have htok':Toks w' ImR (q.2.flatten ++ q.1.flatMap cellsOfS) (vss'.flatten ++ zs) (Ow ρ1):=by
  refine htok.keep him_refl fun i b hob=>⟨rfl,(htok.lt hob).2,?_⟩
  rintro ⟨id,u,hu,hb⟩
  rcases how b ⟨i,hob⟩ with h1 | h1 | h1
  ·have:=(hsA.lt id u hu).2 b hb;omega
  ·exact htok.out i b hob h1
  ·exact hnow b h1 ⟨id,u,hu,hb⟩
 have hlf:=len_flatten hl2
 obtain ⟨o3,ρ3,h,hs3,hin3,ht3⟩:=inBs_sound (A:=OBs (q.2.flatten ++ q.1.flatMap cellsOfS) (vss'.flatten ++ zs)) (bsr:=q.2) (vss:=vss') hsx hk1 (hl2.trans hk1) hk2 (fun t _=>by rw [Nat.zero_add])
  (fun t i vs hi hv=>by
   obtain ⟨b,c0,h1,h2,h3⟩:=hbl t i hi
   exact ⟨b,c0,h3,h2,hbox t b vs h1 hv⟩) htok' (fun i b hob=>⟨i,hob⟩) h
 obtain ⟨y0,hret,rfl⟩:=hret
 obtain ⟨ds,o4,ρ4,h,hs4,hin4,hl4,hl5,hr4⟩:=inSs_sound (A:=OBs (q.2.flatten ++ q.1.flatMap cellsOfS) (vss'.flatten ++ zs)) hs3 hk3 hret (fun t _=>by rw [Nat.zero_add]) ht3 (fun i b hob=>⟨_,OB.right hlf hob⟩) h
 have hin:=hin3.trans hin4
 have hownS:∀ b,Ow ρ1 b->Ow ρ b:=hst.own
 refine ⟨_,o4,ρ4,h,⟨hwd,hs4,?_,?_,?_,?_,?_,fun hm=>hin.mp (hst.mp hm),hst.gr.trans hin.gr⟩,pack_sound (by omega) hr4⟩
 ·intro c x hc'
  exact hin.keep c x (RC.compat him hc (hst.keep c x hc'))
 ·intro b hb hno
  exact hfr b hb fun hd=>let ⟨id,u,hu,hub⟩:=hown b hd;hno id u hu hub
 ·intro id u b hu hb
  rcases hin.own b ⟨id,u,hu,hb⟩ with h1 | h1
  ·exact .inr (hownS b h1)
  ·rcases how b h1 with h2 | h2
   ·exact .inl h2
   ·exact .inr (hown b h2)
 ·intro b hb
  have h1:=hst.im b hb
  have h2:=him b h1.1
  exact h2
 ·intro b hb
  rcases (himn b hb).1 with h1 | h1 | h1
  ·exact hst.imn b h1
  ·exact .inr (.inl h1)
  ·exact .inr (.inr (hown b h1))
theorem RP.plain {ImR:Nat->Prop} {v:PV} {y:Value} (hp:plainP v = true) (h:RP w Im v y):RP w ImR v y:=by
 cases h with
 | int k n=>exact .int k n
 | bool b=>exact .bool b
 | str s=>exact .str s
 | agg cs vs hl h1 hh =>
  refine .agg cs vs hl h1 fun i c y hc hy=>?_
  have:=hh i c y hc hy
  simp only [plainP,List.all_eq_true] at hp
  have hp':=hp c (List.mem_of_getElem? hc)
  cases this <;> first | (exact .int _ _) | (exact .bool _) | (exact .str _) | (simp at hp')
 | nil=>simp [plainP] at hp
 | row=>simp [plainP] at hp
 | junk=>simp [plainP] at hp
theorem plainP_cells {v:PV} (h:plainP v = true):∀ c ∈ v.cells,plainP c = true:=by
 intro c hc
 cases v with
 | agg cs =>
  simp only [plainP,List.all_eq_true] at h
  have:=h c hc
  cases c <;> simp_all [plainP]
 | _=>simp [PV.cells] at hc;subst hc;exact h
theorem TokC.plain {ImR:Nat->Prop} (hi:∀ b,ImR b->Im b) {c:CV} {y:Value} (hp:plainC c = true) (h:TokC w Im c y):TokC w ImR c y:=by
 cases c <;> first | exact h.elim | skip
 ·exact RP.plain hp h
 ·rename_i e sh xs
  obtain ⟨vals,hown,h1,h2,h3,h4⟩:=h
  simp only [plainC,Bool.and_eq_true,List.all_eq_true,Option.isNone_iff_eq_none] at hp
  obtain ⟨hk,hp⟩:=hp
  simp only [RPk,hk] at h2
  refine ⟨vals,hown,h1,fun i x j c y a1 a2 a3=>?_,fun b hb=>⟨fun _ hI=>(h3 b hb).1 rfl (hi b hI),fun h=>nomatch h⟩,?_⟩
  ·simp only [RPk,hk]
   exact RP.plain (plainP_cells (hp x (List.mem_of_getElem? a1)) c (List.mem_of_getElem? a2)) (h2 i x j c y a1 a2 a3)
  ·simp only [RKids,hk] at h4 ⊢
   exact h4
theorem Toks.plain {ImR:Nat->Prop} (hi:∀ b,ImR b->Im b) (hp:∀ c ∈ cs,plainC c = true) (h:Toks w Im cs ys D):Toks w ImR cs ys D :=
 ⟨h.len,fun i c y hc hy=>TokC.plain hi (hp c (List.mem_of_getElem? hc)) (h.tok i c y hc hy),h.dis,h.out⟩
end
end Go.Dp
/- A call in the code. -/
set_option linter.unusedVariables false
set_option linter.unusedSimpArgs false
namespace Go.Dp
section
variable {P:Program} {E:Env} {w w':World} {Im Im':Nat->Prop} {ρ ρ':Nat->Option Value} {o o':List AObj} {K:Kt} {r:List SV × List (List CV)} {t:List AV}
theorem castC_some {ct:CellT} {c:CV} {K:CV->R} (h:castC ct c K = some r):∃ d,K d = some r /\ (isOwnA (.s (.c d)) = isOwnA (.s (.c c)) /\ (isOwnA (.s (.c c)) = true->d = c)) /\ ∀ (w:World) (Im:Nat->Prop) (ρ:Nat->Option Value) (o:List AObj) (y:Value),RC w Im ρ o c y->RC w Im ρ o d y:=by
 unfold castC at h
 split at h
 ·obtain ⟨u,h,hw⟩:=castCell_some h
  exact ⟨_,h,⟨rfl,fun h=>nomatch h⟩,fun w Im ρ o y hy=>hw.2 w Im y hy⟩
 ·exact ⟨_,h,⟨rfl,fun _=>rfl⟩,fun w Im ρ o y hy=>hy⟩
theorem castA_some {ct:CT} {a:AV} {K:AV->R} (h:castA ct a K = some r):∃ b,K b = some r /\ (isOwnA b = isOwnA a /\ (isOwnA a = true->b = a)) /\ ∀ (w:World) (Im:Nat->Prop) (ρ:Nat->Option Value) (o:List AObj) (y:Value),RA w Im ρ o a y->RA w Im ρ o b y:=by
 unfold castA at h
 split at h
 ·obtain ⟨d,h,ho,hw⟩:=castC_some h
  exact ⟨_,h,⟨ho.1,fun h=>by rw [ho.2 h]⟩,fun w Im ρ o y hy=>hw w Im ρ o y hy⟩
 ·obtain ⟨u,h,hw⟩:=castK_some h
  exact ⟨_,h,⟨rfl,fun h=>nomatch h⟩,fun w Im ρ o y hy=>hw.2 w Im y hy⟩
 ·exact ⟨_,h,⟨rfl,fun _=>rfl⟩,fun w Im ρ o y hy=>hy⟩
theorem castAs_some:∀ {cts:List CT} {as:List AV} {K:List AV->R},castAs cts as K = some r->∃ bs,K bs = some r /\ bs.length = as.length /\ (∀ (i:Nat) (b a:AV),bs[i]? = some b->as[i]? = some a->isOwnA b = isOwnA a /\ (isOwnA a = true->b = a)) /\ ∀ (w:World) (Im:Nat->Prop) (ρ:Nat->Option Value) (o:List AObj) (i:Nat) (b:AV),bs[i]? = some b->∃ a,as[i]? = some a /\ ∀ y,RA w Im ρ o a y->RA w Im ρ o b y
 | [],as,K,h=>⟨as,by simpa [castAs] using h,rfl,fun i b a hb ha=>by rw [hb] at ha;injection ha with ha;subst ha;exact ⟨rfl,fun _=>rfl⟩,fun w Im ρ o i b hb=>⟨b,hb,fun y hy=>hy⟩⟩
 | _ :: _,[],K,h=>⟨[],by simpa [castAs] using h,rfl,fun i b a hb ha=>by simp at hb,fun w Im ρ o i b hb=>⟨b,hb,fun y hy=>hy⟩⟩
 | ct :: cts,a :: as,K,h=>by
  simp only [castAs] at h
  obtain ⟨b,h,hb,hw⟩:=castA_some h
  obtain ⟨bs,h,hl,hbs,hr⟩:=castAs_some h
  refine ⟨b :: bs,h,by simp [hl],fun i b' a' hb' ha'=>?_,fun w Im ρ o i b' hb'=>?_⟩
  ·cases i with
   | zero=>simp at hb' ha';subst hb';subst ha';exact hb
   | succ i=>exact hbs i b' a' (by simpa using hb') (by simpa using ha')
  cases i with
  | zero=>simp at hb';subst hb';exact ⟨a,rfl,hw w Im ρ o⟩
  | succ i=>simpa using hr w Im ρ o i b' (by simpa using hb')
theorem isOwnA_lend (roots:List Nat) (o:List AObj) (a:AV):isOwnA (lendA roots o a) = isOwnA a /\ (isOwnA a = true->lendA roots o a = a):=by
 cases a with
 | tup ts=>exact ⟨rfl,fun h=>nomatch h⟩
 | s v =>
  cases v with
  | agg cs =>
   refine ⟨?_,fun h=>nomatch h⟩
   simp only [lendA,mkAgg]
   split <;> rfl
  | c c =>
   cases c with
   | loc id ver sh lo len =>
    refine ⟨?_,fun h=>nomatch h⟩
    simp only [lendA,lendC]
    cases wholeO o id
    ·rfl
    ·simp only [cond_true]
     split <;> rfl
   | bptr id off =>
    refine ⟨?_,fun h=>nomatch h⟩
    simp only [lendA,lendC,nameC]
    split <;> rfl
   | fn f caps =>
    refine ⟨?_,fun h=>nomatch h⟩
    simp only [lendA,lendC,nameC]
    split <;> rfl
   | own e sh xs=>exact ⟨rfl,fun _=>rfl⟩
   | _=>exact ⟨rfl,fun h=>nomatch h⟩
theorem isOwnA_lendR (ro:Bool) (roots:List Nat) (o:List AObj) (a:AV):isOwnA (lendR ro roots o a) = isOwnA a /\ (isOwnA a = true->lendR ro roots o a = a):=by
 cases ro with
 | false=>exact isOwnA_lend roots o a
 | true =>
  unfold lendR
  simp only
  split
  ·rename_i f caps
   refine ⟨?_,fun h=>nomatch h⟩
   cases caps.all (fun i=>!roots.contains i)
   ·rfl
   ·simp only [cond_true]
    split <;> rfl
  ·exact isOwnA_lend roots o a
theorem OwnG.like {as ys gs} (h:OwnG as ys gs):∀ {bs:List AV},bs.length = as.length->(∀ (i:Nat) (b a:AV),bs[i]? = some b->as[i]? = some a->isOwnA b = isOwnA a /\ (isOwnA a = true->b = a))->OwnG bs ys gs /\ ownC bs = ownC as:=by
 induction h with
 | nil=>intro bs hl _;have:bs = []:=List.eq_nil_of_length_eq_zero hl;subst this;exact ⟨.nil,rfl⟩
 | own _ ih =>
  intro bs hl hb
  cases bs with
  | nil=>simp at hl
  | cons b bs =>
   obtain ⟨h1,h2⟩:=ih (bs:=bs) (by simpa using hl) (fun i b' a' hb' ha'=>hb (i + 1) b' a' (by simpa using hb') (by simpa using ha'))
   have h3:=(hb 0 b _ rfl rfl).2 rfl
   subst h3
   exact ⟨.own h1,by simp only [ownC,h2]⟩
 | no hn _ ih =>
  intro bs hl hb
  cases bs with
  | nil=>simp at hl
  | cons b bs =>
   obtain ⟨h1,h2⟩:=ih (bs:=bs) (by simpa using hl) (fun i b' a' hb' ha'=>hb (i + 1) b' a' (by simpa using hb') (by simpa using ha'))
   have h3:=(hb 0 b _ rfl rfl).1
   exact ⟨.no (h3.trans hn) h1,by rw [ownC_no (h3.trans hn),ownC_no hn,h2]⟩
theorem notOwn_of_RA {a:AV} {y:Value} (h:RA w Im ρ o a y):isOwnA a = false:=by
 cases a with
 | tup=>rfl
 | s v=>cases v with
  | agg=>rfl
  | c c=>cases c <;> first | rfl | exact h.elim
theorem outA_sound {q:Et × Nat} {a:AV} {y:Value} {cs:List CV} {us:List Value} {K:AV->List AObj->R} (hs:SR w Im ρ o) (hT:Toks w Im cs us (Ow ρ)) (ha:RA w Im ρ o a y) (h:outA q a o K = some r) :
  ∃ e sh xs o1 Im1 ρ1 g,mainV g = y /\ K (.s (.c (.own e sh xs))) o1 = some r /\ Step w Im ρ o w Im1 ρ1 o1 /\ Bx ρ o ρ1 o1 /\ Toks w Im1 (cs ++ [.own e sh xs]) (us ++ [g]) (Ow ρ1) /\ ∀ b,OBs (cs ++ [.own e sh xs]) (us ++ [g]) b->OBs cs us b ∨ Ow ρ b:=by
 unfold outA at h
 split at h
 ·rename_i c
  have key:∀ K':CV->List AObj->R,outC (.own q.1 q.2) c o K' = outC (.own q.1 q.2) c o fun d o1=>bif isOwnA (.s (.c d)) then K' d o1 else none:=by
   intro K'
   unfold outC
   simp only
   split
   ·rfl
   ·split
    ·rfl
    ·rfl
   ·split
    ·split
     ·rfl
     ·rfl
    ·rfl
   ·rfl
  rw [key] at h
  obtain ⟨d,o1,Im1,ρ1,g,hg,hk,hst,hb,hT1,hO⟩:=outC_sound hs hT ha h
  obtain ⟨hown,hk⟩:=bif_some hk
  have hd:∃ e sh xs,d = .own e sh xs:=by
   cases d <;> first | (simp [isOwnA] at hown;done) | exact ⟨_,_,_,rfl⟩
  obtain ⟨e,sh,xs,rfl⟩:=hd
  exact ⟨e,sh,xs,o1,Im1,ρ1,g,hg,hk,hst,hb,hT1,hO⟩
 ·cases h
theorem outAs_sound:∀ {qs:List (Option (Et × Nat))} {args:List AV} {ys:List Value} {o:List AObj} {Im:Nat->Prop} {ρ:Nat->Option Value} {cs:List CV} {us:List Value} {K:List AV->List AObj->R},SR w Im ρ o->Toks w Im cs us (Ow ρ)->ys.length = args.length ->
  (∀ (i:Nat) (a:AV) (y:Value),args[i]? = some a->ys[i]? = some y->RA w Im ρ o a y)->outAs qs args o K = some r ->
  ∃ as o1 Im1 ρ1 gs,K as o1 = some r /\ Step w Im ρ o w Im1 ρ1 o1 /\ Bx ρ o ρ1 o1 /\ OwnG as ys gs /\ Toks w Im1 (cs ++ ownC as) (us ++ gs) (Ow ρ1) /\ (∀ b,OBs (cs ++ ownC as) (us ++ gs) b->OBs cs us b ∨ Ow ρ b) /\ ∀ (i:Nat) (a:AV),as[i]? = some a->isOwnA a = false->args[i]? = some a
 | qs,[],ys,o,Im,ρ,cs,us,K,hs,hT,hl,hr,h=>by
  have:ys = []:=List.eq_nil_of_length_eq_zero hl
  subst this
  have h':K [] o = some r:=by cases qs with
   | nil=>simpa [outAs] using h
   | cons q qs=>cases q <;> simpa [outAs] using h
  exact ⟨[],o,Im,ρ,[],h',Step.refl hs,Bx.refl,.nil,by simpa [ownC] using hT,fun b hb=>.inl (by simpa [ownC] using hb),fun i a ha=>by simp at ha⟩
 | [],a :: args,ys,o,Im,ρ,cs,us,K,hs,hT,hl,hr,h=>by
  have h':K (a :: args) o = some r:=by simpa [outAs] using h
  obtain ⟨h1,h2⟩:=OwnG.none (as:=a :: args) (ys:=ys) hl (fun b hb=>by
   obtain ⟨i,hi,rfl⟩:=List.getElem_of_mem hb
   exact notOwn_of_RA (hr i _ (ys[i]'(by omega)) (List.getElem?_eq_getElem hi) (List.getElem?_eq_getElem (by omega))))
  exact ⟨a :: args,o,Im,ρ,[],h',Step.refl hs,Bx.refl,h1,by rw [h2];simpa using hT,fun b hb=>.inl (by rw [h2] at hb;simpa using hb),fun i a ha _=>ha⟩
 | q :: qs,a :: args,ys,o,Im,ρ,cs,us,K,hs,hT,hl,hr,h=>by
  cases ys with
  | nil=>simp at hl
  | cons y ys =>
   have ha:=hr 0 a y rfl rfl
   have hr':∀ (i:Nat) (a:AV) (y:Value),args[i]? = some a->ys[i]? = some y->RA w Im ρ o a y:=fun i a' y' h1 h2=>hr (i + 1) a' y' (by simpa using h1) (by simpa using h2)
   cases q with
   | none =>
    simp only [outAs] at h
    obtain ⟨as,o1,Im1,ρ1,gs,hk,hst,hb,hg,hT1,hO,hu⟩:=outAs_sound hs hT (by simpa using hl) hr' h
    have hn:=notOwn_of_RA ha
    refine ⟨a :: as,o1,Im1,ρ1,gs,hk,hst,hb,.no hn hg,by rw [ownC_no hn];exact hT1,fun b hb=>hO b (by rw [ownC_no hn] at hb;exact hb),fun i a' h1 h2=>?_⟩
    cases i with
    | zero=>simpa using h1
    | succ i=>simpa using hu i a' (by simpa using h1) h2
   | some q =>
    simp only [outAs] at h
    obtain ⟨e,sh,xs,o1,Im1,ρ1,g,hg,hk,hst,hb,hT1,hO⟩:=outA_sound hs hT ha h
    obtain ⟨as,o2,Im2,ρ2,gs,hk,hst2,hb2,hg2,hT2,hO2,hu⟩:=outAs_sound hst.sr hT1 (by simpa using hl) (fun i a' y' h1 h2=>hst.keepA _ _ (hr' i a' y' h1 h2)) hk
    refine ⟨.s (.c (.own e sh xs)) :: as,o2,Im2,ρ2,g :: gs,hk,hst.trans hst2,hb.trans hb2,by rw [<- hg];exact .own hg2,by simpa [ownC] using hT2,fun b hb=>?_,fun i a' h1 h2=>?_⟩
    ·rcases hO2 b (by simpa [ownC] using hb) with h1 | h1
     ·exact hO b h1
     ·exact .inr (hst.own b h1)
    ·cases i with
     | zero=>simp at h1;subst h1;simp [isOwnA] at h2
     | succ i=>simpa using hu i a' (by simpa using h1) h2
theorem castC_det (ct:CellT) (c:CV):(∀ K:CV->R,castC ct c K = none) ∨ ∃ d,∀ K:CV->R,castC ct c K = K d:=by
 unfold castC
 split
 ·rename_i v
  rcases castCell_det (α:=List SV × List (List CV)) ct v with h | ⟨u,h⟩
  ·exact .inl fun K=>h _
  ·exact .inr ⟨_,fun K=>h _⟩
 ·exact .inr ⟨_,fun K=>rfl⟩
theorem castA_det (ct:CT) (a:AV):(∀ K:AV->R,castA ct a K = none) ∨ ∃ d,∀ K:AV->R,castA ct a K = K d:=by
 unfold castA
 split
 ·rename_i ct c
  rcases castC_det ct c with h | ⟨u,h⟩
  ·exact .inl fun K=>h _
  ·exact .inr ⟨_,fun K=>h _⟩
 ·rename_i cts v
  rcases castK_det (α:=List SV × List (List CV)) (.agg cts) v with h | ⟨u,h⟩
  ·exact .inl fun K=>h _
  ·exact .inr ⟨_,fun K=>h _⟩
 ·exact .inr ⟨_,fun K=>rfl⟩
theorem castAs_det:∀ (cts:List CT) (as:List AV),(∀ K:List AV->R,castAs cts as K = none) ∨ ∃ d,∀ K:List AV->R,castAs cts as K = K d
 | [],as=>.inr ⟨as,fun K=>by simp [castAs]⟩
 | _ :: _,[]=>.inr ⟨[],fun K=>by simp [castAs]⟩
 | ct :: cts,a :: as=>by
  simp only [castAs]
  rcases castA_det ct a with h | ⟨b,h⟩
  ·exact .inl fun K=>h _
  ·rcases castAs_det cts as with h2 | ⟨bs,h2⟩
   ·exact .inl fun K=>(h _).trans (h2 _)
   ·exact .inr ⟨b :: bs,fun K=>(h _).trans (h2 _)⟩
theorem intsOf_some:∀ {l:List PV} {zs:List Int},intsOf l = some zs->l = zs.map (PV.int .i64)
 | [],zs,h=>by simp only [intsOf] at h;injection h with h;subst h;rfl
 | x :: l,zs,h=>by
  unfold intsOf at h
  split at h
  ·rename_i hl;cases hl
  ·rename_i n l' hl
   injection hl with h1 h2
   subst h1
   subst h2
   obtain ⟨zs',h3,rfl⟩:=Option.map_eq_some_iff.1 h
   rw [intsOf_some h3]
   rfl
  ·cases h
theorem compI_le (zs:List Int):(compI zs).length<=zs.length:=by
 simp only [compI,Lib.compact,Lib.compactUpTo,List.length_map]
 exact Nat.le_trans (List.length_filter_le _ _) (by simp)
theorem sortRes_len (n:Nat) (zs:List Int):(sortRes n zs).length = zs.length:=by
 unfold sortRes
 split
 ·simp [sortI]
 ·have:=compI_le zs
  simp
  omega
theorem RP_intv {k:IntKind} {n:Int} {y:Value} (h:RP w Im (.int k n) y):y = .int k n:=by cases h;rfl
theorem opSort_sound {n:Nat} {g:FuncId} (hS:SortOK P n g) (hs:SR w Im ρ o) {args:List AV} {ys:List Value} (hl:ys.length = args.length)
  (hargs:∀ (i:Nat) (a:AV) (y:Value),args[i]? = some a->ys[i]? = some y->RA w Im ρ o a y) (h:opSort n args o K = some r) :
  Calls P g ys.toArray w fun e w'=>∃ v v' o' Im' ρ',e = .returned v /\ K v' o' = some r /\ Step w Im ρ o w' Im' ρ' o' /\ RA w' Im' ρ' o' v' v:=by
 unfold opSort at h
 split at h
 ·rename_i id ver sh lo len
  obtain ⟨y,rfl⟩:∃ y,ys = [y]:=by
   match ys,hl with
   | [y],_=>exact ⟨y,rfl⟩
  have hy:=hargs 0 _ y rfl rfl
  split at h
  ·rename_i e sh' ver' xs ho
   obtain ⟨hcnd,h1⟩:=bif_some h
   clear h
   obtain ⟨zs,hz,h⟩:=bind_some h1
   clear h1
   simp only [Bool.and_eq_true,beq_iff_eq,decide_eq_true_eq,Option.isNone_iff_eq_none] at hcnd
   obtain ⟨⟨⟨⟨⟨hkd,rfl⟩,rfl⟩,rfl⟩,rfl⟩,hlim⟩:=hcnd
   simp only [RA,RS,RC,ho] at hy
   obtain ⟨_,hy⟩:=hy
   obtain ⟨hle,v,hρ,hsl⟩:=hy trivial trivial
   have hid:=(List.getElem?_eq_some_iff.1 ho).1
   have hz1:=intsOf_some hz
   have hzl:zs.length = len:=by
    have:=congrArg List.length hz1
    simp at this
    omega
   subst hzl
   have hfin:∃ v' x',K v' (o.set id x') = some r /\ x' = .arr e 0 ver false ((sortRes n zs).map (PV.int .i64) ++ xs.drop zs.length) /\ ((n = 1 /\ v' = .tup []) ∨ (n ≠ 1 /\ v' = .s (.c (.loc id ver 0 0 (compI zs).length)))):=by
    cases hn:n == 1
    ·have hn':n ≠ 1:=by simpa using hn
     rw [hn] at h
     simp only [cond_false] at h
     refine ⟨_,_,h,?_,.inr ⟨hn',rfl⟩⟩
     simp [sortRes,hn']
    ·have hn':n = 1:=by simpa using hn
     rw [hn] at h
     simp only [cond_true] at h
     exact ⟨_,_,h,by simp [sortRes,hn'],.inl ⟨hn',rfl⟩⟩
   obtain ⟨v',x',hk,hx',hv'⟩:=hfin
   obtain ⟨vals,hown,hshp,hrp,hbk,hkids⟩:=hs.ob id _ _ ho hρ
   have same:zs = []->o.set id x' = o:=by
    intro h0
    have:x' = .arr e 0 ver false xs:=by rw [hx',h0];unfold sortRes;split <;> simp [sortI,compI,Lib.compact,Lib.compactUpTo]
    rw [this]
    apply List.ext_getElem?
    intro i
    by_cases e1:i = id
    ·subst e1;rw [List.getElem?_set_self hid,ho]
    ·rw [List.getElem?_set_ne (Ne.symm e1)]
   by_cases h0:zs = []
   ·have hy0:∃ p cap,y = .slice p 0 cap:=by
     subst h0
     unfold RSl at hsl
     split at hsl
     ·obtain ⟨off,h1,_⟩:=hsl;exact ⟨_,_,h1⟩
     ·exact ⟨_,_,hsl.2.2⟩
     ·exact hsl.elim
    obtain ⟨p,cap,rfl⟩:=hy0
    refine Calls.mono (hS.empty w p cap) ?_
    rintro e' w' ⟨rfl,rfl⟩
    rw [same h0] at hk
    refine ⟨_,v',o,Im,ρ,rfl,hk,Step.refl hs,?_⟩
    rcases hv' with ⟨hn,rfl⟩ | ⟨hn,rfl⟩
    ·rw [sortRet,if_pos hn]
     exact ⟨#[],rfl,rfl,fun i c y h=>by simp at h⟩
    ·rw [sortRet,if_neg hn]
     subst h0
     have e0:(compI []).length = 0:=rfl
     simp only [RA,RS,RC,ho,e0]
     exact ⟨Nat.le_refl _,fun _ _=>⟨by omega,v,hρ,hsl⟩⟩
   ·have hpos:0 < zs.length:=Nat.pos_of_ne_zero fun h=>h0 (List.eq_nil_of_length_eq_zero h)
    rcases hown.2 with ⟨hbad,_⟩ | ⟨b,bo,cap,cu,hmv,_,hh,hnc,hcm,hcs,htk⟩
    ·rw [hbad] at hsl
     simp only [RSl] at hsl
     omega
    rw [hmv] at hsl
    simp only [RSl] at hsl
    obtain ⟨off,rfl,_,hoff⟩:=hsl
    have hoff:off = bo:=by have:=hoff (.inl trivial);omega
    subst hoff
    have c0:csz 0 = 1:=rfl
    rw [c0,Nat.mul_one] at htk
    have hcs:cu.size = off + cap:=by have:=hcs (by omega);rw [c0] at this;omega
    have hbv:Blk v b:=main_Blk (by rw [hmv];rfl)
    have hniv:∀ b,Blk v b->¬ Im b:=fun b hb=>(hbk b hb).1 rfl
    have hvl:vals.length = xs.length:=by have:=hown.1;rw [c0] at this;omega
    have hvt:vals.take zs.length = zs.map (Value.int .i64):=by
     apply List.ext_getElem?
     intro i
     by_cases hi:i < zs.length
     ·rw [List.getElem?_take_of_lt hi,List.getElem?_map,List.getElem?_eq_getElem hi,List.getElem?_eq_getElem (by omega)]
      have hx:xs[i]? = some (.int .i64 zs[i]):=by
       have:=congrArg (fun l:List PV=>l[i]?) hz1
       simp only [List.getElem?_take_of_lt hi,List.getElem?_map,List.getElem?_eq_getElem hi] at this
       exact this
      have h2:=hrp i _ 0 (.int .i64 zs[i]) vals[i] hx rfl (by rw [c0];simp)
      simp only [RPk,hkd] at h2
      rw [RP_intv h2]
      simp
     ·rw [List.getElem?_take_eq_none (by omega),List.getElem?_eq_none (by simp;omega)]
    have hct:(cu.toList.drop off).take zs.length = zs.map (Value.int .i64):=by
     rw [<- hvt,<- htk,List.take_take,Nat.min_eq_left (by omega)]
    refine Calls.mono (hS.row w b off cap zs cu _ hh hct (by omega) hlim) ?_
    rintro e' w' ⟨rfl,hwd,hoth,cu',hh',hcs',hcl'⟩
    have hrl:=sortRes_len n zs
    have hidρ:upd ρ id (some v) = ρ:=by
     funext i
     by_cases e1:i = id
     ·rw [e1,upd_same,hρ]
     ·rw [upd_ne e1]
    have hxl:((sortRes n zs).map (PV.int .i64) ++ xs.drop zs.length).length = xs.length:=by simp [hrl];omega
    have hcomp:Compat ρ (upd ρ id (some v)) o (o.set id x'):=by
     intro q a hq
     by_cases e1:q = id
     ·subst e1
      rw [ho] at hq
      injection hq with hq
      subst hq
      exact ⟨_,by rw [List.getElem?_set_self hid],by rw [hidρ,hx'];exact Or.inr ⟨rfl,rfl,Nat.le_of_eq hxl.symm,rfl,KdC_refl' _ rfl⟩⟩
     ·exact ⟨a,by rw [List.getElem?_set_ne (Ne.symm e1)];exact hq,by rw [hidρ];cases a <;> simp [CompatO]⟩
    have him:∀ k,Im k->Im k /\ w'.heap[k]? = w.heap[k]?:=fun k hk=>⟨hk,hoth k (hs.im k hk) (fun e=>hniv b hbv (e ▸ hk))⟩
    have hst:=Step.turn (w':=w') (x':=x') (v':=v) hs hwd ho hρ (by rw [hx'];simp) (by rw [hx'];exact Or.inr ⟨rfl,rfl,Nat.le_of_eq hxl.symm,rfl,KdC_refl' _ rfl⟩)
     (fun k hk hne=>hoth k hk (fun e=>hne (by rw [e];exact hbv))) hniv (fun b hb=>.inl hb) (fun k hk=>Nat.lt_of_lt_of_le ((hs.lt id v hρ).2 k hk) hwd.size) ?_
    ·refine ⟨_,v',o.set id x',Im,_,rfl,hk,hst,?_⟩
     rcases hv' with ⟨hn,rfl⟩ | ⟨hn,rfl⟩
     ·rw [sortRet,if_pos hn]
      exact ⟨#[],rfl,rfl,fun i c y h=>by simp at h⟩
     ·rw [sortRet,if_neg hn]
      have hcl:=compI_le zs
      simp only [RA,RS,RC,List.getElem?_set_self hid,hx']
      refine ⟨Nat.le_refl _,fun _ _=>⟨by rw [hxl];omega,v,upd_same,?_⟩⟩
      rw [hmv]
      exact ⟨off,rfl,Nat.zero_le _,fun _=>by simp⟩
    ·rw [hx']
     refine ⟨(sortRes n zs).map (Value.int .i64) ++ vals.drop zs.length,⟨?_,.inr ⟨b,off,cap,cu',by rw [hmv,hxl],Nat.zero_le _,hh',by rw [hxl];exact hnc,hcm,fun _=>?_,?_⟩⟩,?_,?_,?_,?_⟩
     ·rw [hxl,c0];simp [hrl];omega
     ·rw [hcs',hcs,c0];omega
     ·rw [hxl,c0,Nat.mul_one,hcl',List.drop_left' (by simp;omega),<- List.drop_drop,<- htk,List.take_append,List.drop_take]
      simp only [List.length_map,hrl]
      rw [List.take_of_length_le (by simp [hrl];omega)]
     ·intro q hq
      rcases List.mem_append.1 hq with h1 | h1
      ·obtain ⟨z,_,rfl⟩:=List.mem_map.1 h1;rfl
      ·exact hshp q (List.mem_of_mem_drop h1)
     ·intro i x j c u hx hj hu
      rw [c0,Nat.mul_one] at hu
      by_cases hi:i < zs.length
      ·rw [List.getElem?_append_left (by simp [hrl];omega)] at hx
       obtain ⟨z,hz2,rfl⟩:=by simpa only [List.getElem?_map,Option.map_eq_some_iff] using hx
       have hj0:j = 0 /\ c = .int .i64 z:=by
        cases j with
        | zero=>simp [PV.cells] at hj;exact ⟨rfl,hj.symm⟩
        | succ j=>simp [PV.cells] at hj
       obtain ⟨rfl,rfl⟩:=hj0
       rw [Nat.add_zero,List.getElem?_append_left (by simp [hrl];omega),List.getElem?_map,hz2] at hu
       injection hu with hu
       subst hu
       simp only [RPk,hkd]
       exact .int _ _
      ·rw [List.getElem?_append_right (by simp [hrl];omega),List.length_map,hrl,List.getElem?_drop,Nat.add_sub_cancel' (by omega)] at hx
       have hjl:j < csz 0:=by rw [<- PV.shp_len (hshp x (List.mem_of_getElem? hx))];exact (List.getElem?_eq_some_iff.1 hj).1
       have hj0:j = 0:=by omega
       subst hj0
       rw [Nat.add_zero,List.getElem?_append_right (by simp [hrl];omega),List.length_map,hrl,List.getElem?_drop,Nat.add_sub_cancel' (by omega)] at hu
       exact (hrp i x 0 c u hx hj (by rw [c0,Nat.mul_one];exact hu)).keep him
     ·intro k hk
      exact ⟨fun _=>hniv k hk,fun hf=>nomatch hf⟩
     ·simp only [RKids,hkd] at hkids ⊢
      exact fun _=>hkids trivial
  ·cases h
 ·cases h
theorem ptrsR_sub {ro:Bool} {c:CV} {id:Nat} (h:id ∈ ptrsR ro c):id ∈ ptrsC c:=by
 unfold ptrsR at h
 split at h
 · simp at h
 · exact h
theorem callG_sound {C:Ctx} (hE:EnvOK P C.E) (hC:∀ g args bs r,C.call g args bs = some r->Contract P g args bs r) (hs:SR w Im ρ o) {g:FuncId} {A:List AV} {Y:List Value} (hYl:Y.length = A.length)
 (hAY:∀ (i:Nat) (a:AV) (y:Value),A[i]? = some a->Y[i]? = some y->RA w Im ρ o a y) (h:callG C g A ⟨t,o⟩ K = some r) :
 Enters P g /\ Calls P g Y.toArray w fun e w'=>∃ v v' o' Im' ρ',e = .returned v /\ K v' o' = some r /\ Step w Im ρ o w' Im' ρ' o' /\ RA w' Im' ρ' o' v' v:=by
 unfold callG at h
 simp only at h
 obtain ⟨ro,hro⟩:∃ ro,ro = C.E.ro (keyOf g A):=⟨_,rfl⟩
 rw [<- hro] at h
 have hmemc:∀ a ∈ A,∃ y,RA w Im ρ o a y:=by
  intro a ha
  obtain ⟨i,hi,rfl⟩:=List.getElem_of_mem ha
  have hi':i < Y.length:=by omega
  exact ⟨Y[i],hAY i _ _ (by simp [hi]) (by simp [hi'])⟩
 obtain ⟨roots,hroots⟩:∃ l,l = adds [] ((A.flatMap cellsOfA).flatMap (ptrsR ro)):=⟨_,rfl⟩
 rw [<- hroots] at h
 have hptr:∀ id ∈ roots,∀ c0,o[id]? = some (.box c0)->∃ b,ρ id = some (.pointer (some ⟨b,0,none⟩)):=by
  intro id hid c0 ho
  rw [hroots,mem_adds] at hid
  simp only [List.not_mem_nil,false_or,List.mem_flatMap] at hid
  obtain ⟨c,⟨a,ha,hca⟩,hid⟩:=hid
  obtain ⟨y,hy⟩:=hmemc a ha
  obtain ⟨z,hz⟩:=cells_of_RA hy c hca
  exact ptr_of_RC hz (ptrsR_sub hid) ho
 have hnd:roots.Nodup:=by rw [hroots];exact nodup_adds List.nodup_nil
 obtain ⟨dss,o0,Im0,ρ0,vss,h,hst0,hbx0,hl1,hl2,hl3,hT0,hO0,hbox⟩:=outBs_sound hs Toks.nil hptr h
 simp only [List.nil_append] at hT0 hO0
 obtain ⟨A',o1,Im1,ρ1,gs,h,hstA,hbxA,hog,hT,hOA,hAu⟩:=outAs_sound hst0.sr hT0 hYl (fun i a y ha hy=>hst0.keepA _ _ (hAY i a y ha hy)) h
 have hst1:=hst0.trans hstA
 have hbx:=hbx0.trans hbxA
 have hO:∀ b,OBs (dss.flatten ++ ownC A') (vss.flatten ++ gs) b->OBs [] [] b ∨ Ow ρ b:=by
  intro b hb
  rcases hOA b hb with h1 | h1
  ·exact hO0 b h1
  ·exact .inr (hst0.own b h1)
 obtain ⟨lent,hlent⟩:∃ l,l = adds [] ((A.flatMap cellsOfA).flatMap (locsR ro o1)):=⟨_,rfl⟩
 rw [<- hlent] at h
 obtain ⟨as,h,hal,hao,har⟩:=castAs_some h
 obtain ⟨hog',hoc⟩:=hog.like (bs:=as) (by rw [hal];simp) fun i b a hb ha=>by
  have hl':i < (A'.map (lendR ro roots o1)).length:=by rw [<- hal];exact (List.getElem?_eq_some_iff.1 hb).1
  have h1:=hao i b (lendR ro roots o1 a) hb (by rw [List.getElem?_map,ha];rfl)
  have h2:=isOwnA_lendR ro roots o1 a
  exact ⟨h1.1.trans h2.1,fun h=>(h1.2 (h2.1.trans h)).trans (h2.2 h)⟩
 have hAl:A'.length = A.length:=by rw [<- hog.len.1];exact hYl
 obtain ⟨q,hq,h⟩:=bind_some h
 have hcon:=hC _ _ _ _ hq
 refine ⟨hcon.1,?_⟩
 obtain ⟨ImL,hstL,hbL⟩:=freezeAll_sound (is:=lent) hst1.sr
 obtain ⟨bl,hbl⟩:∃ bl,bl = roots.map fun id=>(match ρ id with | some (.pointer (some a))=>a.block | _=>0):=⟨_,rfl⟩
 have hblr:∀ (j id:Nat),roots[j]? = some id->∃ b c0,bl[j]? = some b /\ ρ1 id = some (.pointer (some ⟨b,0,none⟩)) /\ o1[id]? = some (.box c0) /\ ρ id = some (.pointer (some ⟨b,0,none⟩)):=by
  intro j id hj
  obtain ⟨b,vs',ds,c0,h1,h2,h3,h4,h5,h6⟩:=hbox j id hj
  have h7:=(hbx id c0).1 h6
  exact ⟨b,c0,by rw [hbl];simp [hj,h1],h7.2.trans h1,h7.1,h1⟩
 have hbll:bl.length = roots.length:=by rw [hbl];simp
 have hbr:∀ b ∈ bl,∃ (j id:Nat),bl[j]? = some b /\ roots[j]? = some id:=by
  intro b hb
  obtain ⟨j,hj,rfl⟩:=List.getElem_of_mem hb
  have hj':j < roots.length:=by omega
  exact ⟨j,roots[j],by simp [hj],by simp [hj']⟩
 have hptr1:∀ (j b:Nat),bl[j]? = some b->∃ id c0,roots[j]? = some id /\ ρ1 id = some (.pointer (some ⟨b,0,none⟩)) /\ o1[id]? = some (.box c0) /\ ρ id = some (.pointer (some ⟨b,0,none⟩)):=by
  intro j b hj
  have hjl:j < roots.length:=by rw [<- hbll];exact (List.getElem?_eq_some_iff.1 hj).1
  obtain ⟨b',c0,h1,h2,h3,h4⟩:=hblr j roots[j] (by simp [hjl])
  rw [hj] at h1
  injection h1 with h1
  subst h1
  exact ⟨roots[j],c0,by simp [hjl],h2,h3,h4⟩
 have hTL:=hT.step hstL
 have hOw1:∀ b ∈ bl,Ow ρ1 b:=by
  intro b hb
  obtain ⟨j,hj⟩:=List.getElem?_of_mem hb
  obtain ⟨id,c0,_,h2,_⟩:=hptr1 j b hj
  exact ⟨id,_,h2,rfl⟩
 obtain ⟨ImX,hImX⟩:∃ X:Nat->Prop,X = fun b=>ImL b ∨ (ro = true /\ ((∃ id c0,id ∉ roots /\ o1[id]? = some (AObj.box c0) /\ ρ1 id = some (.pointer (some ⟨b,0,none⟩))) ∨ ∃ id v e sh ver fz xs,o1[id]? = some (AObj.arr e sh ver fz xs) /\ ρ1 id = some v /\ Blk v b)):=⟨_,rfl⟩
 have hLX:∀ b,ImL b->ImX b:=fun b hb=>by rw [hImX];exact .inl hb
 have hXL:ro = false->∀ b,ImX b->ImL b:=by
  intro hr b hb
  rw [hImX] at hb
  rcases hb with hb | ⟨h1,_⟩
  ·exact hb
  ·rw [hr] at h1;cases h1
 have hTX:Toks w ImX (dss.flatten ++ ownC A') (vss.flatten ++ gs) (Ow ρ1):=hTL.keep (fun b hb=>⟨hLX b hb,rfl⟩) fun i b hob=>by
  refine ⟨rfl,fun hX=>?_,hTL.out i b hob⟩
  rw [hImX] at hX
  rcases hX with hX | ⟨_,⟨id,c0,_,_,h3⟩ | ⟨id,v,_,_,_,_,_,_,h3,h4⟩⟩
  ·exact (hTL.lt hob).2 hX
  ·exact hTL.out i b hob ⟨id,_,h3,rfl⟩
  ·exact hTL.out i b hob ⟨id,v,h3,h4⟩
 have pre:Pre w ImX bl dss vss as Y gs:=by
  refine ⟨fun b hb=>?_,?_,by omega,?_,?_,by rw [hoc];exact hTX.mono hOw1,hog',?_⟩
  ·rw [hImX] at hb
   rcases hb with hb | ⟨_,⟨id,c0,_,_,h3⟩ | ⟨id,v,_,_,_,_,_,_,h3,h4⟩⟩
   ·exact hstL.sr.im b hb
   ·exact (hst1.sr.lt id _ h3).2 b rfl
   ·exact (hst1.sr.lt id _ h3).2 b h4
  ·intro i j b hi hj
   obtain ⟨id,_,h1,h2,_⟩:=hptr1 i b hi
   obtain ⟨id',_,h3,h4,_⟩:=hptr1 j b hj
   have:=hst1.sr.inj id id' _ _ b h2 h4 rfl rfl
   subst this
   have hi':=(List.getElem?_eq_some_iff.1 h1)
   have hj':=(List.getElem?_eq_some_iff.1 h3)
   exact (List.getElem_inj hnd).1 (hi'.2.trans hj'.2.symm)
  ·apply List.ext_getElem?
   intro j
   rw [List.getElem?_map,List.getElem?_map]
   rcases Nat.lt_or_ge j roots.length with hj | hj
   ·obtain ⟨b,vs',ds,c0,h1,h2,h3,h4,h5,h6⟩:=hbox j roots[j] (by simp [hj])
    rw [h3,h4]
    simp [h5]
   ·rw [List.getElem?_eq_none (by omega),List.getElem?_eq_none (by omega)]
    rfl
  ·intro j b vs' hj hv
   obtain ⟨id,c0,h1,h2,h3,h4⟩:=hptr1 j b hj
   obtain ⟨b2,vs2,ds,c2,h5,h6,h7,_⟩:=hbox j id h1
   rw [h4] at h5
   injection h5 with h5
   injection h5 with h5
   injection h5 with h5
   injection h5 with h5
   subst h5
   rw [hv] at h7
   injection h7 with h7
   subst h7
   obtain ⟨b3,_,_,hb3,_,_,_,_,hI⟩:=hstL.sr.ob id _ _ ((freezeAll_box c0).1 h3) h2
   obtain rfl:b = b3:=by simpa using hb3
   refine ⟨h6,fun hX=>?_⟩
   rw [hImX] at hX
   rcases hX with hX | ⟨_,⟨id2,c2,h8,_,h9⟩ | ⟨id2,v2,_,_,_,_,_,h8,h9,h10⟩⟩
   ·exact hI hX
   ·have:=hst1.sr.inj id2 id _ _ b h9 h2 rfl rfl
    subst this
    exact h8 (List.mem_of_getElem? h1)
   ·have:=hst1.sr.inj id2 id _ _ b h9 h2 h10 rfl
    subst this
    rw [h3] at h8
    cases h8
  ·intro i a0 y ha0 hy hno
   obtain ⟨a,ha,hweak⟩:=har w ImX (Ptrs bl) (blanks bl.length) i a0 ha0
   refine hweak y ?_
   have hno2:=((hao i a0 a ha0 ha).1).symm.trans hno
   simp only [List.getElem?_map,Option.map_eq_some_iff] at ha
   obtain ⟨a',ha',rfl⟩:=ha
   replace ha':=hAu i a' ha' ((isOwnA_lendR ro roots o1 a').1.symm.trans hno2)
   refine lendR_sound hst1.sr (fun b h=>hLX b (hstL.im b h).1) (hst1.keepA _ _ (hAY i a' y ha' hy)) ?_ (fun hr c hc id hid hnr c0 b h1 h2=>by rw [hImX];exact .inr ⟨hr,.inl ⟨id,c0,hnr,h1,h2⟩⟩) (fun j id hj=>?_) (fun j id hj=>?_)
   ·intro c hc id hid e sh ver fz xs ho hk v b hv hb
    rcases hk with hk | hk
    ·rw [hImX]
     exact .inr ⟨hk,.inr ⟨id,v,e,sh,ver,fz,xs,ho,hv,hb⟩⟩
    refine hLX b (hbL id ?_ e sh ver fz xs ho hk v b hv hb)
    rw [hlent,mem_adds]
    right
    simp only [List.mem_flatMap]
    exact ⟨c,⟨a',List.mem_of_getElem? ha',hc⟩,hid⟩
   ·obtain ⟨b,c0,_,_,h3,_⟩:=hblr j id hj
    exact ⟨c0,h3⟩
   ·obtain ⟨b,c0,h1,h2,_,_⟩:=hblr j id hj
    exact ⟨b,h1,h2⟩
 refine Calls.mono (hcon.2 w ImX bl vss Y gs pre) ?_
 rw [hoc]
 rintro e w' ⟨v,Im',vss',zs,rfl,post⟩
 have hown:∀ b,DD bl (dss.flatten ++ ownC A') (vss.flatten ++ gs) b->Ow ρ b:=by
  rintro b (hb | hb)
  ·obtain ⟨j,hj⟩:=List.getElem?_of_mem hb
   obtain ⟨id,c0,_,_,_,h4⟩:=hptr1 j b hj
   exact ⟨id,_,h4,rfl⟩
  ·rcases hO b hb with ⟨i,_,_,_,_,h1,_⟩ | h1
   ·simp at h1
   ·exact h1
 have hnow:∀ b,OBs (dss.flatten ++ ownC A') (vss.flatten ++ gs) b->¬ Ow ρ1 b:=fun b ⟨i,hb⟩=>hT.out i b hb
 have fin:∀ {ImA ImR:Nat->Prop} {oA:List AObj} {ks:List (List Kind)},Step w Im ρ o w ImA ρ1 oA->(∀ (id:Nat) (c0:List CV),o1[id]? = some (AObj.box c0)->oA[id]? = some (AObj.box c0))->dss.map List.length = ks.map List.length->(∀ b,ImA b->ImR b /\ w'.heap[b]? = w.heap[b]?) ->
   (∀ b,ImR b->(ImA b ∨ w.heap.size<=b ∨ DD bl (dss.flatten ++ ownC A') (vss.flatten ++ gs) b) /\ b < w'.heap.size)->(∀ (j b:Nat) (vs:List Value),bl[j]? = some b->vss'[j]? = some vs->BoxAt w' b vs /\ ¬ ImR b) ->
   Toks w' ImR (q.2.flatten ++ q.1.flatMap cellsOfS) (vss'.flatten ++ zs) (· ∈ bl) ->
   (bif lensB q.2 ks && lensS q.1 (C.E.rk g) then inBs q.2 ks roots 0 oA fun o3=>inSs q.1 (C.E.rk g) 0 o3 fun vs o4=>K (packS vs) o4 else none) = some r ->
   ∃ v1 v' o' Im' ρ',Ending.returned v = .returned v1 /\ K v' o' = some r /\ Step w Im ρ o w' Im' ρ' o' /\ RA w' Im' ρ' o' v' v1:=by
  intro ImA ImR oA ks hst hbo hks him himn hbox' htok h
  obtain ⟨hcnd,h⟩:=bif_some h
  simp only [lensB,lensS,Bool.and_eq_true,beq_iff_eq] at hcnd
  have hkl:roots.length = ks.length:=by have:=congrArg List.length hks;simp at this;omega
  obtain ⟨v',o',ρ',hk,hst',hra⟩:=afterCall hst hown hnow (fun j id hj=>by
    obtain ⟨b,c0,h1,h2,h3,_⟩:=hblr j id hj
    exact ⟨b,c0,h1,h2,hbo id c0 h3⟩) hbr post.wd post.fr him himn post.l2 hbox' htok post.ow post.ret hcnd.1 hkl hcnd.2 h
  exact ⟨v,v',o',ImR,ρ',rfl,hk,hst',hra⟩
 have fin2:(q.1.all plainS && q.2.all (fun cs=>cs.all plainC)) = true ->
   (bif lensB q.2 (kindsOf (C.E.bk (keyOf g A)) (roots.map fun i=>(cellsOfO o i).length)) && lensS q.1 (C.E.rk g) then inBs q.2 (kindsOf (C.E.bk (keyOf g A)) (roots.map fun i=>(cellsOfO o i).length)) roots 0 o1 fun o3=>inSs q.1 (C.E.rk g) 0 o3 fun vs o4=>K (packS vs) o4 else none) = some r ->
   ∃ v1 v' o' Im' ρ',Ending.returned v = .returned v1 /\ K v' o' = some r /\ Step w Im ρ o w' Im' ρ' o' /\ RA w' Im' ρ' o' v' v1:=by
  intro hpp h
  simp only [Bool.and_eq_true,List.all_eq_true] at hpp
  have hi:∀ b,Im1 b->Im' b:=fun b hb=>(post.im b (hLX b (hstL.im b hb).1)).1
  refine fin hst1 (fun id c0 hh=>hh) hl3 (fun b hb=>⟨hb,(post.im b (hLX b (hstL.im b hb).1)).2⟩) (fun b hb=>⟨.inl hb,(post.imn b (hi b hb)).2⟩) (fun j b vs h1 h2=>⟨(post.box j b vs h1 h2).1,fun hb=>(post.box j b vs h1 h2).2 (hi b hb)⟩) (post.tok.plain hi ?_) h
  intro c hc
  rcases List.mem_append.1 hc with hc | hc
  ·obtain ⟨cs,h1,h2⟩:=List.mem_flatten.1 hc
   exact hpp.2 cs h1 c h2
  ·obtain ⟨s,h1,h2⟩:=List.mem_flatMap.1 hc
   have:=hpp.1 s h1
   cases s with
   | c v=>simp [cellsOfS] at h2;subst h2;exact this
   | agg cs=>exact List.all_eq_true.1 this c h2
 unfold afterLend at h
 cases hr2:ro
 ·rw [hr2] at h
  simp only [cond_false] at h
  have hIm:∀ b,ImL b->Im' b /\ w'.heap[b]? = w.heap[b]?:=fun b hb=>post.im b (hLX b hb)
  have hImn:∀ b,Im' b->(ImL b ∨ w.heap.size<=b ∨ DD bl (dss.flatten ++ ownC A') (vss.flatten ++ gs) b) /\ b < w'.heap.size:=fun b hb=>by
   obtain ⟨h1,h2⟩:=post.imn b hb
   refine ⟨?_,h2⟩
   rcases h1 with h1 | h1
   ·exact .inl (hXL hr2 b h1)
   ·exact .inr h1
  split at h
  ·exact fin (hst1.trans hstL) (fun id c0 hh=>(freezeAll_box c0).1 hh) hl3 hIm hImn post.box post.tok h
  ·cases hpl:C.E.plain (keyOf g A) <;> rw [hpl] at h <;> simp only [cond_true,cond_false] at h
   ·exact fin (hst1.trans hstL) (fun id c0 hh=>(freezeAll_box c0).1 hh) hl3 hIm hImn post.box post.tok h
   ·obtain ⟨hpp,h⟩:=bif_some h
    exact fin2 hpp h
 ·rw [hr2] at h
  simp only [cond_true] at h
  obtain ⟨hpp,h⟩:=bif_some h
  exact fin2 hpp h
theorem callOp_sound {C:Ctx} (hE:EnvOK P C.E) (hC:∀ g args bs r,C.call g args bs = some r->Contract P g args bs r) (hs:SR w Im ρ o) {f:AV} {x:Value} {args:List AV} {ys:List Value} (hf:RA w Im ρ o f x) (hl:ys.length = args.length)
  (hargs:∀ (i:Nat) (a:AV) (y:Value),args[i]? = some a->ys[i]? = some y->RA w Im ρ o a y) (h:callOp C f args ⟨t,o⟩ K = some r) :
  ∃ g vs,x = .func (.func g) #[] vs /\ Enters P g /\ Calls P g (ys ++ vs.toList).toArray w fun e w'=>∃ v v' o' Im' ρ',e = .returned v /\ K v' o' = some r /\ Step w Im ρ o w' Im' ρ' o' /\ RA w' Im' ρ' o' v' v:=by
 unfold callOp at h
 split at h
 ·rename_i g caps hc
  rw [cv_some hc] at hf
  obtain ⟨vs,rfl,hvl,hvr⟩:=hf
  refine ⟨g,vs,rfl,?_⟩
  cases hsr:(C.E.sorts g != 0)
  rotate_left
  ·rw [hsr] at h
   simp only [cond_true] at h
   obtain ⟨hcp,h⟩:=bif_some h
   have hS:=hE.srt g _ rfl (by simpa using hsr)
   have hv0:vs.toList = []:=by
    have:caps = []:=by simpa using hcp
    rw [this] at hvl
    simpa using hvl
   rw [hv0,List.append_nil]
   exact ⟨hS.enters,opSort_sound hS hs hl hargs h⟩
  rw [hsr] at h
  simp only [cond_false] at h
  refine callG_sound hE hC hs (by simp [hl,hvl]) ?_ h
  intro i a y ha hy
  rcases Nat.lt_or_ge i args.length with hi | hi
  ·rw [List.getElem?_append_left hi] at ha
   rw [List.getElem?_append_left (by omega)] at hy
   exact hargs i a y ha hy
  ·rw [List.getElem?_append_right hi] at ha
   rw [List.getElem?_append_right (by omega),hl] at hy
   simp only [List.getElem?_map,Option.map_eq_some_iff] at ha
   obtain ⟨id,hid,rfl⟩:=ha
   obtain ⟨y',hy',hb⟩:=hvr _ id hid
   rw [Array.getElem?_toList,hy'] at hy
   injection hy with hy
   subst hy
   exact hb
 ·rename_i g us hc
  rw [cv_some hc] at hf
  obtain ⟨vs,rfl,hvl,hvr⟩:=hf
  refine ⟨g,vs,rfl,?_⟩
  refine callG_sound hE hC hs (by simp [hl,hvl]) ?_ h
  intro i a y ha hy
  rcases Nat.lt_or_ge i args.length with hi | hi
  ·rw [List.getElem?_append_left hi] at ha
   rw [List.getElem?_append_left (by omega)] at hy
   exact hargs i a y ha hy
  ·rw [List.getElem?_append_right hi] at ha
   rw [List.getElem?_append_right (by omega),hl] at hy
   simp only [List.getElem?_map,Option.map_eq_some_iff] at ha
   obtain ⟨u,hu,rfl⟩:=ha
   obtain ⟨b,base,hb1,hb2,hb3,hb4⟩:=hvr _ u hu
   rw [Array.getElem?_toList,hb1] at hy
   injection hy with hy
   subst hy
   exact ⟨b,base,rfl,hb2,hb3,hb4⟩
 ·cases h
end
end Go.Dp
/- Operations in their place in the code. -/
set_option linter.unusedVariables false
set_option linter.unusedSimpArgs false
namespace Go.Dp
structure Base where
 w:World
 Im:Nat->Prop
 D:Nat->Prop
 bl:List Nat
structure Now (B:Base) (w:World) (Im:Nat->Prop) (ρ:Nat->Option Value) (o:List AObj):Prop where
 wd:Wd B.w w
 sr:SR w Im ρ o
 fr:∀ b,b < B.w.heap.size->¬ B.D b->w.heap[b]? = B.w.heap[b]?
 ow:∀ b,Ow ρ b->B.w.heap.size<=b ∨ B.D b
 im:∀ b,B.Im b->Im b /\ w.heap[b]? = B.w.heap[b]?
 imn:∀ b,Im b->B.Im b ∨ B.w.heap.size<=b ∨ B.D b
 hd:∀ (j b:Nat),B.bl[j]? = some b->RB ρ o j 0 (.pointer (some ⟨b,0,none⟩))
structure Sta (B:Base) (s:St) (a:Act) (w:World):Prop where
 ex:∃ Im ρ,Now B w Im ρ s.o /\ TR w Im ρ s.o s.t a
 df:a.defers = []
section
variable {P:Program} {E:Env} {w w':World} {Im Im':Nat->Prop} {ρ ρ':Nat->Option Value} {o o':List AObj} {r:List SV × List (List CV)} {t:List AV} {a:Act} {B:Base} {C:Ctx}
theorem Now.step (h:Now B w Im ρ o) (st:Step w Im ρ o w' Im' ρ' o'):Now B w' Im' ρ' o':=by
 refine ⟨h.wd.trans st.wd,st.sr,?_,?_,?_,?_,fun j b hj=>st.keep (.bptr j 0) _ (h.hd j b hj)⟩
 ·intro b hb hd
  rw [st.fr b (Nat.lt_of_lt_of_le hb h.wd.size) (fun id v hv hbk=>?_),h.fr b hb hd]
  rcases h.ow b ⟨id,v,hv,hbk⟩ with h1 | h1
  ·omega
  ·exact hd h1
 ·rintro b ⟨id,v,hv,hb⟩
  rcases st.ow id v b hv hb with h1 | h1
  ·exact .inl (Nat.le_trans h.wd.size h1)
  ·exact h.ow b h1
 ·intro b hb
  have h1:=h.im b hb
  have h2:=st.im b h1.1
  exact ⟨h2.1,h2.2.trans h1.2⟩
 ·intro b hb
  rcases st.imn b hb with h1 | h1 | h1
  ·exact h.imn b h1
  ·exact .inr (.inl (Nat.le_trans h.wd.size h1))
  ·exact .inr (h.ow b h1)
theorem set_same {l:List AV} {i:Nat} {v:AV} (h:getT l i = v) (hv:v ≠ .undef):l.set i v = l:=by
 apply List.ext_getElem?
 intro j
 by_cases e:i = j
 ·subst e
  unfold getT at h
  rcases Nat.lt_or_ge i l.length with hi | hi
  ·rw [List.getElem?_set_self hi]
   simp [hi] at h
   simp [hi,h]
  ·rw [List.getElem?_eq_none (by omega)] at h
   exact absurd h.symm hv
 ·rw [List.getElem?_set_ne e]
theorem branch_some {x:Operand} {K:Bool->List AV->R} (h:branch t x K = some r):∃ b,aval t x = .p (.bool b) /\ K b t = some r:=by
 unfold branch at h
 split at h
 ·rename_i i
  obtain ⟨b,hb,h⟩:=bind_some h
  have hv:=bool_some hb
  refine ⟨b,hv,?_⟩
  have e:t.set i (.p (.bool b)) = t:=set_same hv (by simp)
  cases b
  ·simpa [e] using h
  ·simpa [e] using h
 ·rename_i v
  obtain ⟨b,hb,h⟩:=bind_some h
  refine ⟨b,bool_some hb,?_⟩
  cases b
  ·exact h
  ·exact h
 ·cases h
theorem stepOp_sound (hE:EnvOK P C.E) (hC:∀ g args bs r,C.call g args bs = some r->Contract P g args bs r) (oo:Oper) {K:St->R} (hs:SR w Im ρ o) (av:∀ x ∈ oo.op.operands.toList,RA w Im ρ o (aval t x) (a.eval x)) (h:stepOp C oo ⟨t,o⟩ K = some r)
  {next:Act->World->Prop} {Q:Exit->Act->World->Prop} (hn:∀ v o' y w' Im' ρ',K ⟨putD t oo.dst v,o'⟩ = some r->Step w Im ρ o w' Im' ρ' o'->RA w' Im' ρ' o' v y->next (a.put oo.dst y) w'):oo.wp P a w next Q:=by
 unfold Oper.wp
 have evs:∀ {op},oo.op = op->evOp (C.E.on C.self) op ⟨t,o⟩ (fun v ob=>K ⟨putD t oo.dst v,ob⟩) = some r->oo.upon P a next Q ((execOp a.eval oo).run P w):=by
  intro op hop h
  obtain ⟨v,o',y,w',Im',ρ',h1,h2,h3,h4⟩:=evOp_sound (hE.on C.self) hs oo hop (by rw [<- hop];exact av) h
  rcases h4 with h4 | ⟨h4,rfl⟩
  ·rw [h4];exact hn v o' y w' Im' ρ' h1 h2 h3
  ·rw [h4];exact hn v o' _ w' Im' ρ' h1 h2 h3
 unfold stepOp at h
 split at h
 ·rename_i c x y hop
  obtain ⟨b,hb,h⟩:=branch_some h
  have hc:=av c (by rw [hop];simp [Op.operands])
  rw [hb] at hc
  have hc':a.eval c = .bool b:=RA.bool (a:=.p (.bool b)) rfl hc
  have hrun:(execOp a.eval oo).run P w = .ok (.value (if b = true then a.eval x else a.eval y)) w:=by simp [execOp,hop,hc',asBool]
  rw [hrun]
  refine hn _ o _ w Im ρ h (Step.refl hs) ?_
  cases b
  ·exact av y (by rw [hop];simp [Op.operands])
  ·exact av x (by rw [hop];simp [Op.operands])
 ·rename_i c hop
  split at h
  ·rename_i f hcal
   have hf:=av f (by rw [hop];simp [Op.operands,Call.operands,hcal])
   have hargs:∀ (i:Nat) (x:AV) (y:Value),(c.args.toList.map (aval t))[i]? = some x->(c.args.toList.map a.eval)[i]? = some y->RA w Im ρ o x y:=fun i x y hx hy=>by
    simp only [List.getElem?_map,Option.map_eq_some_iff] at hx hy
    obtain ⟨z,hz,rfl⟩:=hx
    obtain ⟨z',hz',rfl⟩:=hy
    rw [hz] at hz'
    injection hz' with hz'
    subst hz'
    have hz:=List.mem_of_getElem? hz
    exact av z (by rw [hop];simp only [Op.operands,Call.operands,hcal];simp at hz ⊢;exact .inr hz)
   split at h
   rotate_left
   ·rename_i n hx
    unfold extOf at hx
    split at hx
    rotate_left
    ·cases hx
    rename_i g hfc
    obtain ⟨h1,hE'⟩:=hE.ext g n hx
    rw [cv_some hfc] at hf
    obtain ⟨vs,hv,hvl,_⟩:=hf
    have hvs:vs = #[]:=by simpa using hvl
    subst hvs
    unfold opExt at h
    split at h
    ·rename_i a1 a2 a3 hal
     split at h
     ·rename_i x y z hx hy hz
      obtain ⟨hcnd,h⟩:=bif_some h
      simp only [Bool.and_eq_true,decide_eq_true_eq] at hcnd
      obtain ⟨⟨⟨c1,c2⟩,c3⟩,c4⟩:=hcnd
      have hlen:c.args.toList.length = 3:=by have:=congrArg List.length hal;simpa using this
      obtain ⟨u1,u2,u3,hu⟩:∃ u1 u2 u3,c.args.toList = [u1,u2,u3]:=by
       match c.args.toList,hlen with
       | [u1,u2,u3],_=>exact ⟨u1,u2,u3,rfl⟩
      rw [hu] at hal hargs
      simp only [List.map_cons,List.map_nil,List.cons.injEq,and_true] at hal
      obtain ⟨rfl,rfl,rfl⟩:=hal
      have e1:a.eval u1 = .int .u64 x:=by have h0:=(hargs 0 _ _ rfl rfl).pv hx;generalize a.eval u1 = q at h0 ⊢;cases h0;rfl
      have e2:a.eval u2 = .int .u64 y:=by have h0:=(hargs 1 _ _ rfl rfl).pv hy;generalize a.eval u2 = q at h0 ⊢;cases h0;rfl
      have e3:a.eval u3 = .int .u64 z:=by have h0:=(hargs 2 _ _ rfl rfl).pv hz;generalize a.eval u3 = q at h0 ⊢;cases h0;rfl
      have hca:c.args.map a.eval = #[.int .u64 x,.int .u64 y,.int .u64 z]:=by
       apply Array.ext'
       simp [hu,e1,e2,e3]
      have hrun:(execOp a.eval oo).run P w = .ok (.value (.tuple #[.int .u64 ((x + y + z) % 18446744073709551616),.int .u64 ((x + y + z) / 18446744073709551616)])) w:=by
       simp [execOp,hop,resolve,hcal,hv,Deferred.ofValue,invoke,hca,hE' x y z w c1 c2 c3 c4]
      rw [hrun]
      refine hn _ o _ w Im ρ h (Step.refl hs) ⟨_,rfl,rfl,fun i d y' hd hy'=>?_⟩
      match i with
      | 0=>simp at hd hy';subst hd;subst hy';exact .int _ _
      | 1=>simp at hd hy';subst hd;subst hy';exact .int _ _
      | i + 2=>simp at hd
     ·cases h
    ·cases h
   obtain ⟨g,vs,hv,hent,hcalls⟩:=callOp_sound hE hC hs (ys:=c.args.toList.map a.eval) hf (by simp) hargs h
   obtain ⟨fn,hfn,hbody,hname⟩:=hent
   have hrun:(execOp a.eval oo).run P w = .ok (.enter g (c.args.toList.map a.eval ++ vs.toList).toArray) w:=by
    have hb:¬ fn.body = none:=by cases h:fn.body <;> simp_all
    have he:(c.args.toList.map a.eval ++ vs.toList).toArray = c.args.map a.eval ++ vs:=by apply Array.ext';simp
    rw [he]
    simp [execOp,hop,resolve,hcal,hv,Deferred.ofValue,invoke,callFunc,hfn,hname,hb]
   rw [hrun]
   refine Calls.mono hcalls ?_
   rintro e w' ⟨v,v',o',Im',ρ',rfl,h1,h2,h3⟩
   exact hn v' o' v w' Im' ρ' h1 h2 h3
  ·exact evs rfl h
 ·exact evs rfl h
theorem RA_tup0:RA w Im ρ o (.tup []) undef:=⟨#[],rfl,rfl,fun i c y h=>by simp at h⟩
theorem skipped_some {v:AV} (h:skipped v = true):v = .tup []:=by
 unfold skipped at h
 split at h
 · rfl
 · cases h
theorem skipped_wanted {ops:Array Oper} {oo:Oper} {j:Nat} {want:Bool} {d:Tmp} (hg:oo.guard = some (j,want)) (hd:(ops[j]?).bind (·.dst) = some d) {v:AV} (h:skipped v = true) (hra:RA w Im ρ o v (a.tmps.getD d undef)):Region.wanted oo (yielded ops a.tmps) = false:=by
 rw [skipped_some h] at hra
 obtain ⟨vs,hv,_,_⟩:=hra
 have hy:yielded ops a.tmps j = none:=by
  unfold yielded
  rw [hd]
  simp only [Option.bind_some]
  rw [Array.getD_eq_getD_getElem?] at hv
  cases hq:a.tmps[d]? with
  | none=>rfl
  | some u=>rw [hq] at hv;simp at hv;subst hv;rfl
 simp [Region.wanted,hg,hy]
theorem guarded_sound (hE:EnvOK P C.E) (hC:∀ g args bs r,C.call g args bs = some r->Contract P g args bs r) {ops:Array Oper} {i:Nat} {oo:Oper} (hi:ops[i]? = some oo) {K:St->R} (hs:SR w Im ρ o)
  (av:∀ x ∈ oo.op.operands.toList,RA w Im ρ o (aval t x) (a.eval x)) (ag:∀ j want d,oo.guard = some (j,want)->(ops[j]?).bind (·.dst) = some d->RA w Im ρ o (getT t d) (a.tmps.getD d undef)) (h:guarded C ops oo ⟨t,o⟩ K = some r)
  {next:Act->World->Prop} {Q:Exit->Act->World->Prop} (hn:∀ v o' y w' Im' ρ',K ⟨putD t oo.dst v,o'⟩ = some r->Step w Im ρ o w' Im' ρ' o'->RA w' Im' ρ' o' v y->next (a.put oo.dst y) w'):wpOp P ops Q i next a w:=by
 unfold wpOp
 simp only [hi]
 unfold guarded at h
 split at h
 ·rename_i hg
  have hw:Region.wanted oo (yielded ops a.tmps) = true:=by simp [Region.wanted,hg]
  rw [if_pos hw]
  exact .inl (stepOp_sound hE hC oo hs av h hn)
 ·rename_i j want hg
  split at h
  ·rename_i d hd
   have hgd:=ag j want d hg hd
   cases hsk:skipped (getT t d) with
   | true =>
    rw [hsk] at h
    simp only [cond_true] at h
    rw [skipped_wanted hg hd hsk hgd]
    simp only [Bool.false_eq_true,if_false]
    exact hn (.tup []) o undef w Im ρ h (Step.refl hs) RA_tup0
   | false =>
   rw [hsk] at h
   simp only [cond_false] at h
   obtain ⟨b,hb,h⟩:=branch_some h
   have hb':getT t d = .p (.bool b):=hb
   rw [hb'] at hgd
   have hv:a.tmps.getD d undef = .bool b:=RA.bool (a:=.p (.bool b)) rfl hgd
   have hy:yielded ops a.tmps j = some b:=by
    unfold yielded
    rw [hd]
    simp only [Option.bind_some]
    rw [Array.getD_eq_getD_getElem?] at hv
    cases hq:a.tmps[d]? with
    | none=>rw [hq] at hv;simp [undef] at hv
    | some v=>rw [hq] at hv;simp at hv;subst hv;rfl
   have hw:Region.wanted oo (yielded ops a.tmps) = (b == want):=by simp [Region.wanted,hg,hy]
   rw [hw]
   cases hbw:b == want <;> rw [hbw] at h <;> simp only [cond_true,cond_false] at h
   ·simp only [Bool.false_eq_true,if_false]
    exact hn (.tup []) o undef w Im ρ h (Step.refl hs) RA_tup0
   ·simp only [if_true]
    exact .inl (stepOp_sound hE hC oo hs av h hn)
  ·cases h
theorem evOps_sound (hE:EnvOK P C.E) (hC:∀ g args bs r,C.call g args bs = some r->Contract P g args bs r) {ops:Array Oper} {Q:Exit->Act->World->Prop} {K:St->R} (hQ:∀ s a w,K s = some r->Sta B s a w->Q .normal a w) :
  ∀ {l:List Nat} {s:St} {a:Act} {w:World},evOps C ops l s K = some r->Sta B s a w->wpOps P ops Q l a w
 | [],s,a,w,h,hs=>hQ s a w h hs
 | i :: l,s,a,w,h,hs=>by
  rw [wpOps_cons]
  simp only [evOps] at h
  split at h
  ·rename_i oo hi
   obtain ⟨⟨Im,ρ,hnow,ht⟩,hdf⟩:=hs
   refine guarded_sound hE hC hi hnow.sr (fun x _=>aval_sound ht x) (fun j want d _ _=>ht.at_ d) h ?_
   intro v o' y w' Im' ρ' hk hst hra
   refine evOps_sound hE hC hQ hk ⟨⟨Im',ρ',hnow.step hst,(ht.mono hst.keepA).put hra oo.dst⟩,?_⟩
   cases oo.dst <;> exact hdf
  ·cases h
end
end Go.Dp
