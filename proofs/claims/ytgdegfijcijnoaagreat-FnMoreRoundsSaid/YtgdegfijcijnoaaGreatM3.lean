/- Nu; Ca; Srt0; Srt; Env; Cs; Nf0; Nf1; Nf2; Nf3; Nf4: texts put together. -/
import Derived.Test.YtgdegfijcijnoaaGreatProg
import Derived.Test.YtgdegfijcijnoaaGreatM2
import Derived.Maps.OwnSet
import Derived.Maps.AppendAt
import Derived.WideKeyPair
import Derived.DeepKeys4
import Derived.OwnWalk
import Derived.WalkKit
import Derived.Shelf.Sort.Plain
import Derived.Shelf.Slices.CompactI
import Derived.Shelf.Slices.In.SortNone
import Derived.Ground.NamesProg
import Derived.Ground.Names2Prog
import Derived.Sort.OwnSortedInts
set_option linter.all false
set_option maxRecDepth 100000
namespace Go.Proofs.YtgdegfijcijnoaaGreat
open Go.Maps Go.RowKit Go.WideMaps
def clsF:List (Int × Int)->List (Int × Int)->List Int
 | [],_=>[]
 | p::l,kn=>if p∈kn then (kn.idxOf p:Int)::clsF l kn else (kn.length:Int)::clsF l (kn++[p])
def clsL (ps:List (Int × Int)):List Int:=clsF ps []
def wf2 (p:Int × Int):Prop:=(Lit.int .i64 p.1).wf=true /\ (Lit.int .i64 p.2).wf=true
def keyL (p:Int × Int):Lit:=.string (keyBytes [.int .i64 p.1,.int .i64 p.2])
def valP (p:Int × Int):Value:=.agg #[.int .i64 p.1,.int .i64 p.2]
theorem v4u:ArrKey Tryz.prog 164 3 2:=⟨Tryz.underlying164,by kernel_rfl,by kernel_rfl,by kernel_rfl⟩
theorem v3y:∃ m,Tryz.prog.types.size=m+1:=⟨Tryz.prog.types.size-1,by decide +kernel⟩
theorem y4e {p:Int × Int} (h:wf2 p):keyOf Tryz.prog 164 (valP p)=some (keyL p):=keyOf_pair v4u Tryz.underlying3 v3y h.1 h.2
theorem laid:laidOutB Tryz.prog=true:=by kernel_rfl
theorem y4i:Keyed Tryz.prog 164:=Keyed.of_law (deep_law_laid (m:=2) laid (by decide) (by decide +kernel) (by kernel_rfl) (by kernel_rfl))
theorem x6d {p q:Int × Int} (hp:wf2 p) (hq:wf2 q) (h:keyL p=keyL q):p=q:=by
 have:=y4i.inj (y4e hp) (h ▸ y4e hq)
 unfold valP at this;injection this with this
 have h1:=congrArg (fun a=>a[0]?) this;have h2:=congrArg (fun a=>a[1]?) this;simp at h1 h2;exact Prod.ext h1 h2
structure MapIs {H:Type} (D:DataW H) (kn:List (Int × Int)):Prop where
 tidy:Tidy D
 wf:∀ p∈kn,wf2 p
 has:∀ p,wf2 p->Maps.has D (keyL p)=decide (p∈kn)
 get:∀ p,wf2 p->p∈kn->D.atKey (keyL p) (.lit (.int .i64 0))=.lit (.int .i64 (kn.idxOf p))
 size:Maps.size D=kn.length
theorem w1k {H:Type}:MapIs (H:=H) (.map []) []:=⟨tidy_empty,by simp,fun p _=>by simp [has_eq],by simp,rfl⟩
theorem w1l {H:Type} {D:DataW H} {kn:List (Int × Int)} (h:MapIs D kn) {p:Int × Int} (hp:wf2 p) (hn:¬ p∈kn):MapIs (D.put (keyL p) (.lit (.int .i64 kn.length))) (kn++[p]):=by
 have hk:WideAt.IsKeyLit (keyL p):=y4i.key (y4e hp);refine ⟨h.tidy.put hk _,?_,?_,?_,?_⟩
 ·intro q hq;rcases List.mem_append.1 hq with hq | hq
  ·exact h.wf q hq
  ·rw [List.mem_singleton.1 hq];exact hp
 ·intro q hq;by_cases e:q=p
  ·subst e;rw [has_put_same h.tidy.isMap hk];simp
  ·rw [has_put_other (fun he=>e (x6d hq hp he)),h.has q hq];simp [e]
 ·intro q hq hm;by_cases e:q=p
  ·subst e;rw [atKey_put_same h.tidy.isMap hk,List.idxOf_append,if_neg hn];simp
  ·rw [atKey_put_other (fun he=>e (x6d hq hp he))];have hq2:q∈kn:=by
    rcases List.mem_append.1 hm with h | h
    ·exact h
    ·exact absurd (List.mem_singleton.1 h) e
   rw [h.get q hq hq2,List.idxOf_append,if_pos hq2]
 ·rw [size_put h.tidy,h.has p hp,h.size];simp [hn]
theorem w5g (w:World):(zeroValue 3).run Tryz.prog w=.ok (.int .i64 0) w:=by kernel_rfl
theorem v2p:(Tryz.prog.info? 3).map (fun i=>(i.zero,i.size,i.bytes))=some (some (.int .i64 0),1,8):=by kernel_rfl
theorem v5h:Tryz.f166.results=#[.cell 2 30]:=rfl
def knF:List (Int × Int)->List (Int × Int)->List (Int × Int)
 | [],kn=>kn
 | p::l,kn=>if p∈kn then knF l kn else knF l (kn++[p])
def z3h (kn:List (Int × Int)) (p:Int × Int):Int:=if p∈kn then (kn.idxOf p:Int) else (kn.length:Int)
theorem z6r (p:Int × Int):∀ (l kn:List (Int × Int)),clsF (l++[p]) kn=clsF l kn++[z3h (knF l kn) p]
 | [],kn=>by simp only [List.nil_append,clsF,knF,z3h];by_cases h:p∈kn <;> simp [h]
 | q::l,kn=>by
  simp only [List.cons_append,clsF,knF];split
  ·rw [z6r p l kn,List.cons_append]
  ·rw [z6r p l _,List.cons_append]
theorem y1l (p:Int × Int):∀ (l kn:List (Int × Int)),knF (l++[p]) kn=if p∈knF l kn then knF l kn else knF l kn++[p]
 | [],kn=>by simp only [List.nil_append,knF];by_cases h:p∈kn <;> simp [h]
 | q::l,kn=>by
  simp only [List.cons_append,knF];split
  ·exact y1l p l kn
  ·exact y1l p l _
def Kn (ps:List (Int × Int)) (k:Nat):List (Int × Int):=knF (ps.take k) []
def Out (ps:List (Int × Int)) (k:Nat):List Int:=clsF (ps.take k) []
theorem x5k {ps:List (Int × Int)} {k:Nat} (h:k<ps.length):Kn ps (k+1)=if ps[k]∈Kn ps k then Kn ps k else Kn ps k++[ps[k]]:=by
 unfold Kn;rw [List.take_add_one,List.getElem?_eq_getElem h];exact y1l _ _ _
theorem x0a {ps:List (Int × Int)} {k:Nat} (h:k<ps.length):Out ps (k+1)=Out ps k++[z3h (Kn ps k) ps[k]]:=by
 unfold Out Kn;rw [List.take_add_one,List.getElem?_eq_getElem h];exact z6r _ _ _
theorem y11 {w:World} {base e size n:Nat} {v:Value} {xs:List Value} (h:w.ownsRow base e size v n xs):∃ ad m c,v=.slice ad m c:=by
 rcases h.2 with ⟨rfl,_⟩ | ⟨g,c,cu,rfl,_⟩
 · exact ⟨_,_,_,rfl⟩
 · exact ⟨_,_,_,rfl⟩
theorem q60 {w:World} {base e size n:Nat} {v:Value} {xs:List Value} (h:w.ownsRow base e size v n xs) {a:Addr} (ha:a.block<base) (u:Value):(w.setCell a u).ownsRow base e size v n xs:=by
 refine ⟨h.1,?_⟩;rcases h.2 with hn | ⟨g,c,cu,rfl,hb,hg,rest⟩
 · exact .inl hn
 · exact .inr ⟨g,c,cu,rfl,hb,by rw [heap_setCell_other w a g u (by omega)];exact hg,rest⟩
theorem q7k {w:World} {base e size n:Nat} {v:Value} {xs:List Value} (h:w.ownsRow base e size v n xs) {k:Nat} (hk:k<base):some k≠v.ownBlock:=by
 intro e
 have:=(h.lt k e.symm).1
 omega
theorem q3y {w:World} {a:Addr} {v:Value} (h:w.cell? a=some v) (o:Obj):(w.alloc o).cell? a=some v :=
 (World.cell?_of_block (heap_alloc_old w o (block_lt_of_cell h))).trans h
theorem q2y {w:World} {a:Addr} (hl:a.block<w.heap.size) (h:w.frozen? a=false) (o:Obj):(w.alloc o).frozen? a=false :=
 (World.frozen?_of_block (heap_alloc_old w o hl)).trans h
theorem q5s {w0 w2:World} {row:Option Nat} (hg:w0.grownBy w2 row) {a:Addr} {v:Value} (h:w0.cell? a=some v) (hf:w0.frozen? a=false) (hne:some a.block≠row):w2.cell? a=some v /\ w2.frozen? a=false :=
 ⟨hg.cell h hne,(World.frozen?_of_block (hg.block _ (block_lt_of_cell h) hne)).trans hf⟩
theorem z39 (w:World) (v:Value) (t:TypeId):(w.alloc (.cells #[v] t)).cell? ⟨w.heap.size,0,none⟩=some v /\ (w.alloc (.cells #[v] t)).frozen? ⟨w.heap.size,0,none⟩=false:=by
 have h:=heap_alloc_new w (.cells #[v] t);exact ⟨by rw [cell_of_row _ _ 0 #[v] t (0,0) h];rfl,frozen_of_row _ _ 0 #[v] t h⟩
theorem y9g (a:Option Addr) (cap:Nat) (w:World):Calls Tryz.prog 166 #[.slice a 0 cap] w fun e w'=>e=.returned (.agg #[.slice none 0 0]) /\ Below w.heap.size w w':=by
 have hmm:=@run_makeMap Tryz.prog
 go_enter Tryz.func166,Tryz.ntmps166
 go_wp2
 refine wp_loop_rounds 1 ?_;rw [rounds_succ]
 go_wp2
 refine bodyPost_ret (v:=.agg #[.slice none 0 0]) (by simp [results,v5h,go_sem];try rfl) rfl ?_;exact ⟨rfl,(((Below.refl _ _).alloc (Nat.le_refl _) _).alloc (by simp) _).alloc (by simp;omega) _⟩
set_option maxHeartbeats 1600000 in
theorem x2j (b off cap:Nat) (ps:List (Int × Int)) (w:World) (hlen:ps.length<=1000000) (hb:b<w.heap.size)
   (hc:∀ j,j<ps.length->w.cell? ⟨b,off+j*2,none⟩=some (.int .i64 (ps.getD j (0,0)).1) /\ w.cell? ⟨b,off+j*2+1,none⟩=some (.int .i64 (ps.getD j (0,0)).2)) (hwf:∀ p∈ps,wf2 p) :
   Calls Tryz.prog 166 #[.slice (some ⟨b,off,none⟩) ps.length cap] w fun e w'=>∃ v,e=.returned (.agg #[v]) /\ w'.ownsRow w.heap.size 3 1 v ps.length ((clsL ps).map (Value.int .i64)) /\ Below w.heap.size w w':=by
 have hmm:=@run_makeMap Tryz.prog;obtain ⟨i0,hi,hz0,hz1,hz2⟩:=info_parts v2p
 go_enter Tryz.func166,Tryz.ntmps166
 go_wp2
 go_loopw [13] (fun i wr=>∃ (k:Nat) (v:Value) (D:DataW Unit),k<=ps.length /\ i=.int .i64 k /\ wr.ownsMap Tryz.prog 164 (plainElem Tryz.prog 3) (w.heap.size+1) k D /\ MapIs D (Kn ps k) /\
     wr.cell? ⟨w.heap.size+1+1,0,none⟩=some v /\ wr.frozen? ⟨w.heap.size+1+1,0,none⟩=false /\ wr.cell? ⟨w.heap.size,0,none⟩=some (.slice none 0 0) /\ wr.frozen? ⟨w.heap.size,0,none⟩=false /\
     wr.ownsRow (w.heap.size+3) 3 1 v k ((Out ps k).map (Value.int .i64)) /\ Below w.heap.size w wr /\ w.heap.size+3<=wr.heap.size)
   (fun i _=>ps.length-(intOf i).toNat)
 case atStart=>
   refine ⟨0,.slice none 0 0,.map [],Nat.zero_le _,rfl,?_,w1k,?_,?_,?_,?_,World.ownsRow_nil _ _ _ _,(((Below.refl _ _).alloc (Nat.le_refl _) _).alloc (by simp) _).alloc (by simp;omega) _,by simp⟩
   · have:=World.ownsMap_made (H:=Unit) (w.alloc (Obj.cells #[Value.slice none 0 0] 30)) Tryz.prog 164 (plainElem Tryz.prog 3)
     simp at this;exact this.alloc _
   · have:=(z39 ((w.alloc (Obj.cells #[Value.slice none 0 0] 30)).alloc (Obj.map #[] 0)) (.slice none 0 0) 30).1
     rwa [show ((w.alloc (Obj.cells #[Value.slice none 0 0] 30)).alloc (Obj.map #[] 0)).heap.size=w.heap.size+1+1 by simp] at this
   · have:=(z39 ((w.alloc (Obj.cells #[Value.slice none 0 0] 30)).alloc (Obj.map #[] 0)) (.slice none 0 0) 30).2
     rwa [show ((w.alloc (Obj.cells #[Value.slice none 0 0] 30)).alloc (Obj.map #[] 0)).heap.size=w.heap.size+1+1 by simp] at this
   · exact q3y (q3y (z39 w (.slice none 0 0) 30).1 _) _
   · exact q2y (by simp;omega) (q2y (by simp) (z39 w (.slice none 0 0) 30).2 _) _
 case round=>
   obtain ⟨k,v,D,hk,rfl,hown,hmi,hv,hvf,hr,hrf,hrow,hnx,hws⟩:=hrel;have hc1:k<ps.length->wr.cell? ⟨b,off+k*2,none⟩=some (.int .i64 (ps.getD k (0,0)).1):=fun h=>(hnx.cell (by exact hb)).trans (hc k h).1
   have hc2:k<ps.length->wr.cell? ⟨b,off+k*2+1,none⟩=some (.int .i64 (ps.getD k (0,0)).2):=fun h=>(hnx.cell (by exact hb)).trans (hc k h).2
   obtain ⟨ad,sn,sc,rfl⟩:=y11 hrow;by_cases hlt:k<ps.length
   · have hp:=hwf _ (List.getElem_mem hlt);have hkey:keyOf Tryz.prog 164 (.agg #[.int .i64 ps[k].1,.int .i64 ps[k].2])=some (keyL ps[k]):=y4e hp;have hsz:=hown.size_le;have hhas:=hmi.has ps[k] hp;have hva:=fun o=>q3y hv o
     have hvfa:=fun o=>q2y (w:=wr) (a:=⟨w.heap.size+1+1,0,none⟩) (block_lt_of_cell hv) hvf o
     have hra:=fun o=>q3y hr o
     have hrfa:=fun o=>q2y (w:=wr) (a:=⟨w.heap.size,0,none⟩) (block_lt_of_cell hr) hrf o
     by_cases hm:ps[k]∈Kn ps k
     · rw [decide_eq_true hm] at hhas;have hgt:=hmi.get ps[k] hp hm;have hcl:z3h (Kn ps k) ps[k]=((Kn ps k).idxOf ps[k]:Int):=by unfold z3h;rw [if_pos hm]
       go_wp2_with (first
         | (at_lookup;refine wpList_lookup_own_ok_int _ rfl _ _ 207 rfl 164 3 .i64 y4i Tryz.underlying207 Tryz.underlying3 (w5g _) (w.heap.size+1) k D rfl (hown.alloc _) _ _ rfl hkey ?_;intro c hat hwc;rw [hhas];obtain rfl:c=((Kn ps k).idxOf ps[k]:Int):=by rw [hgt] at hat;injection hat with hat;injection hat with _ hat;exact hat.symm)
         | (at_builtin;refine wpList_append_own_at _ rfl _ _ 28 rfl (w.heap.size+3) 3 i0 (.int .i64 0) 1 8 Tryz.underlying28 hi hz0 hz1 hz2 rfl (by decide) _ _ _ rfl ((hrow.alloc _).alloc _) ⟨wr.heap.size+1,0,none⟩ 1 1 [.int .i64 ((Kn ps k).idxOf ps[k]:Int)] rfl rfl (by simpa using cell_one_new (wr.alloc _) _ _) (ints_oneCell .i64 [((Kn ps k).idxOf ps[k]:Int)]) (by unfold maxLen;omega) (by omega) (by simp;omega) ?_;intro v' w2 hown' hgrow2 hnil2 hloc;
             (obtain ⟨ad2,sn2,sc2,rfl⟩:=y11 hown');
             (obtain ⟨hv2,hvf2⟩:=q5s hgrow2 (q3y (hva _) _) (q2y (block_lt_of_cell (hva _)) (hvfa _) _) (q7k hrow (show w.heap.size+1+1<w.heap.size+3 by omega)));
             (obtain ⟨hr2,hrf2⟩:=q5s hgrow2 (q3y (hra _) _) (q2y (block_lt_of_cell (hra _)) (hrfa _) _) (q7k hrow (show w.heap.size<w.heap.size+3 by omega))))
         | go_in)
       have hne:=q7k hrow (show w.heap.size+1<w.heap.size+3 by omega);have hs2:=hgrow2.size;simp at hs2;refine ⟨⟨k+1,.slice ad2 sn2 sc2,D,by omega,by simp,((((hown.alloc _).alloc _).kept hgrow2 hne).setCell (by simp) _).mono (Nat.le_succ _),by rw [x5k hlt,if_pos hm];exact hmi,World.cell?_setCell_same _ _ _ hv2,by rw [World.frozen?_setCell];exact hvf2,
         (World.cell?_setCell_other _ _ _ _ (by simp)).trans hr2,by rw [World.frozen?_setCell];exact hrf2,?_,?_,by simp [World.setCell];omega⟩,?_⟩
       · refine q60 ?_ (by simp) _;rw [x0a hlt,hcl];simpa using hown'
       · refine Below.setCell ?_ (by simp;omega) _;exact ((hnx.alloc (by omega) _).alloc (by simp;omega) _).grown hgrow2 (by simp;omega) (fun j hj=>by have:=(hrow.lt j hj).1;omega)
       · simp [intOf];omega
     · rw [decide_eq_false hm] at hhas;have hcl:z3h (Kn ps k) ps[k]=((Kn ps k).length:Int):=by unfold z3h;rw [if_neg hm]
       have hsize:=hmi.size;have hkl:(Kn ps k).length<=k:=by omega
       have hwf2:(Lit.int .i64 ((Kn ps k).length:Int)).wf=true:=WalkArith.wf_i64 (by omega)
       go_wp2_with (first
         | (at_lookup;refine wpList_lookup_own_ok_int _ rfl _ _ 207 rfl 164 3 .i64 y4i Tryz.underlying207 Tryz.underlying3 (w5g _) (w.heap.size+1) k D rfl (hown.alloc _) _ _ rfl hkey ?_;intro c hat hwc;rw [hhas])
         | (at_len;refine wpList_len_own _ rfl _ _ rfl 164 3 Tryz.underlying207 (plainElem Tryz.prog 3) (w.heap.size+1) k D rfl (hown.alloc _) ?_;rw [hsize])
         | (at_mapUpdate;refine wpList_mapUpdate_own _ rfl _ _ _ 207 rfl 164 3 y4i Tryz.underlying207 (plainElem Tryz.prog 3) (w.heap.size+1) k D rfl (hown.alloc _) (by unfold maxLen;omega) _ _ _ rfl rfl hkey _ [] (plainElem_int Tryz.underlying3 hwf2) ?_;intro w1 hown1 hgrow1;
             (obtain ⟨hv1,hvf1⟩:=q5s hgrow1 (hva _) (hvfa _) (by simp));
             (obtain ⟨hr1,hrf1⟩:=q5s hgrow1 (hra _) (hrfa _) (by simp));
             (have hrow1:=(hrow.alloc _).kept hgrow1 (Or.inr (q7k hrow (show w.heap.size+1<w.heap.size+3 by omega)).symm));
             (have hw1:=hgrow1.size);(have hva1:=fun o=>q3y hv1 o);(have hvfa1:=fun o=>q2y (block_lt_of_cell hv1) hvf1 o);
             (have hra1:=fun o=>q3y hr1 o);(have hrfa1:=fun o=>q2y (block_lt_of_cell hr1) hrf1 o))
         | (at_builtin;refine wpList_append_own_at _ rfl _ _ 28 rfl (w.heap.size+3) 3 i0 (.int .i64 0) 1 8 Tryz.underlying28 hi hz0 hz1 hz2 rfl (by decide) _ _ _ rfl (hrow1.alloc _) ⟨w1.heap.size,0,none⟩ 1 1 [.int .i64 ((Kn ps k).length:Int)] rfl rfl (cell_one_new _ _ _) (ints_oneCell .i64 [((Kn ps k).length:Int)]) (by unfold maxLen;omega) (by omega) (by simp at hw1 ⊢;omega) ?_;intro v' w2 hown' hgrow2 hnil2 hloc;
             (obtain ⟨ad2,sn2,sc2,rfl⟩:=y11 hown');
             (obtain ⟨hv2,hvf2⟩:=q5s hgrow2 (hva1 _) (hvfa1 _) (q7k hrow1 (show w.heap.size+1+1<w.heap.size+3 by omega)));
             (obtain ⟨hr2,hrf2⟩:=q5s hgrow2 (hra1 _) (hrfa1 _) (q7k hrow1 (show w.heap.size<w.heap.size+3 by omega))))
         | go_in)
       have hne:=q7k hrow1 (show w.heap.size+1<w.heap.size+3 by omega);have hs2:=hgrow2.size;simp at hs2 hw1;refine ⟨⟨k+1,.slice ad2 sn2 sc2,_,by omega,by simp,((hown1.alloc _).kept hgrow2 hne).setCell (by simp) _,by rw [x5k hlt,if_neg hm];exact w1l hmi hp hm,World.cell?_setCell_same _ _ _ hv2,by rw [World.frozen?_setCell];exact hvf2,
         (World.cell?_setCell_other _ _ _ _ (by simp)).trans hr2,by rw [World.frozen?_setCell];exact hrf2,?_,?_,by simp [World.setCell];omega⟩,?_⟩
       · refine q60 ?_ (by simp) _;rw [x0a hlt,hcl];simpa using hown'
       · refine Below.setCell ?_ (by simp;omega) _;exact (((hnx.alloc (by omega) _).grown hgrow1 (by simp;omega) (fun j hj=>by cases hj;omega)).alloc (by omega) _).grown hgrow2 (by simp;omega) (fun j hj=>by have:=(hrow1.lt j hj).1;omega)
       · simp [intOf];omega
   · have hkn:k=ps.length:=by omega
     subst hkn
     go_wp2
     have hret:=World.cell?_setCell_same (w:=wr) (a:=⟨w.heap.size,0,none⟩) (v:=.slice ad sn sc) (u:=_) hr;refine bodyPost_ret (v:=.agg #[.slice ad sn sc]) (by simp [results,go_sem,hret];try rfl) rfl ?_;refine ⟨_,rfl,?_,hnx.setCell (by simp) _⟩;have h1:=q60 hrow (a:=⟨w.heap.size,0,none⟩) (by simp) (.slice ad sn sc);have e:Out ps ps.length=clsL ps:=by unfold Out clsL;rw [List.take_length]
     rw [e] at h1;refine ⟨h1.1,?_⟩;rcases h1.2 with hn | ⟨g,c,cu,q1,q2,q3⟩
     · exact .inl hn
     · exact .inr ⟨g,c,cu,q1,by omega,q3⟩
open Go.Dp
theorem z7k {P:Program} {f:FuncId} {arg:PV} {e:TypeId} {zs:List Int} (he:Go.Dp.Enters P f)
   (h:∀ (w:World) (Im:Nat->Prop) (y:Value),(∀ b,Im b->b<w.heap.size)->RP w Im arg y->Calls P f #[y] w fun ev w'=>∃ v,ev=.returned (.agg #[v]) /\ w'.ownsRow w.heap.size e 1 v zs.length (zs.map (Value.int .i64)) /\ Below w.heap.size w w') :
   Contract P f [.s (.c (.p arg))] [] ([.agg [.own e 0 (zs.map (PV.int .i64))]],[]):=by
 refine ⟨he,fun w Im bl vss ys gs pre=>?_⟩;have hb:bl=[]:=List.eq_nil_of_length_eq_zero (by simpa using pre.l1);have hv:vss=[]:=by simpa using pre.l2
 subst hb;subst hv;have hl:=pre.og.len.1;have hgs:gs=[]:=List.eq_nil_of_length_eq_zero pre.og.len.2;subst hgs;simp only [List.length_cons,List.length_nil] at hl;obtain ⟨y,rfl⟩:∃ y,ys=[y]:=by
   match ys,hl with
   | [y],_=>exact ⟨y,rfl⟩
 have hy:RP w Im arg y:=pre.arg 0 _ y rfl rfl rfl;refine (h w Im y pre.im hy).mono ?_
 rintro ev w' ⟨v,rfl,hown,hbel⟩
 have hmv:mainV v=v /\ v.oneCell'=true /\ ∀ b,Blk v b->w.heap.size<=b:=by
   rcases hown.2 with ⟨rfl,_⟩ | ⟨g,c,cu,rfl,hb,_⟩
   · exact ⟨rfl,rfl,fun b hb=>hb.elim⟩
   · exact ⟨rfl,rfl,fun b hb'=>by simp at hb';omega⟩
 have c0:csz 0=1:=rfl;have hrow:OwnRow w' Im (e:Et) 0 (zs.map (PV.int .i64)) v:=by
   refine ⟨zs.map (Value.int .i64),?_,?_,?_,?_,?_⟩
   · rw [hmv.1,List.length_map]
     have:=World.ownsAt_of hown
     refine ⟨this.1,?_⟩;rcases this.2 with hn | ⟨g,bo,c,cu,q1,q2,q3⟩
     · exact .inl hn
     · exact .inr ⟨g,bo,c,cu,q1,Nat.zero_le _,q3⟩
   · intro x hx;obtain ⟨z,_,rfl⟩:=List.mem_map.1 hx;rfl
   · intro i x j c u hx hj hu;rw [List.getElem?_map] at hx;cases hz:zs[i]? with
     | none=>rw [hz] at hx;cases hx
     | some z=>
       rw [hz] at hx;simp only [Option.map_some,Option.some.injEq] at hx;subst hx;cases j with
       | zero=>
         simp [PV.cells] at hj;subst hj;rw [c0,Nat.mul_one,Nat.add_zero,List.getElem?_map,hz] at hu;simp only [Option.map_some,Option.some.injEq] at hu;subst hu;exact RP.int _ _
       | succ j=>simp [PV.cells] at hj
   · intro b hb;exact ⟨fun _ hI=>by have:=hmv.2.2 b hb;have:=pre.im b hI;omega,fun h=>nomatch h⟩
   · exact fun _=>hmv.1
 refine ⟨.agg #[v],Im,[],[v],rfl,?_⟩
 exact { wd:=⟨hbel.os,hbel.tape,hbel.output,hbel.size⟩,fr:=fun b hb _=>hbel.block b hb,im:=fun b hb=>⟨hb,hbel.block b (pre.im b hb)⟩,imn:=fun b hb=>⟨.inl hb,Nat.lt_of_lt_of_le (pre.im b hb) hbel.size⟩,l1:=rfl,l2:=rfl,
         box:=fun j b vs h1=>by simp at h1
         tok:=by
           refine ⟨rfl,fun i c y h1 h2=>?_,fun i j b h1 h2=>?_,fun i b h1=>by simp⟩
           · cases i with
             | zero=>
               simp [cellsOfS] at h1 h2;subst h1;subst h2;exact hrow
             | succ i=>simp [cellsOfS] at h1
           · obtain ⟨_,_,_,_,h3,_⟩:=h1;obtain ⟨_,_,_,_,h4,_⟩:=h2;cases i <;> cases j <;> simp [cellsOfS] at h3 h4
             rfl
         ow:=by
           rintro b ⟨i,_,_,_,y',h3,h4,h5⟩
           cases i with
           | zero=>
             simp [cellsOfS] at h4;subst h4;exact .inl (hmv.2.2 b h5)
           | succ i=>simp [cellsOfS] at h3
         ret:=⟨[.agg #[v]],RetSs.cons (d:=.agg [.own e 0 (zs.map (PV.int .i64))]) (y:=.agg #[v]) (zs:=[v]) ⟨rfl,by simp [hmv.1],by simp [hmv.1,hmv.2.1]⟩ .nil,rfl⟩ }
def q1o (p:Int × Int):PV:=.agg [.int .i64 p.1,.int .i64 p.2]
theorem x4k (ps:List (Int × Int)) (hlen:ps.length<=1000000) (hwf:∀ p∈ps,wf2 p):Contract Tryz.prog 166 [.s (.c (.p (.row 2 0 (ps.map q1o))))] [] ([.agg [.own 3 0 ((clsL ps).map (PV.int .i64))]],[]):=by
 have hcl:(clsL ps).length=ps.length:=by
  have key:∀ l kn,(clsF l kn).length=l.length:=by
   intro l
   induction l with
   | nil=>intro kn;rfl
   | cons p l ih=>
    intro kn;unfold clsF
    split <;> simp [ih]
  exact key ps []
 refine z7k ⟨_,Tryz.func166,by kernel_rfl,by decide +kernel⟩ fun w Im y him hy=>?_
 cases hps:ps with
 | nil=>
  subst hps;have hnone:∃ a cap,y=.slice a 0 cap:=by
   cases hy with
   | nil=>exact ⟨_,_,rfl⟩
   | row=>exact ⟨_,_,rfl⟩
  obtain ⟨a,cap,rfl⟩:=hnone;refine (y9g a cap w).mono ?_
  rintro ev w' ⟨rfl,hb⟩
  exact ⟨_,rfl,World.ownsRow_nil _ _ _ _,hb⟩
 | cons p0 l0=>
  rw [<- hps];have hpos:0<ps.length:=by rw [hps];simp
  generalize hxs:ps.map q1o=xs at hy
  have hxl:xs.length=ps.length:=by rw [<- hxs];simp
  cases hy with
  | nil=>simp at hxl;omega
  | row _ _ _ a cap g hf hs hc hm h1 him' hsh hcell hr=>
   obtain ⟨blk,off,sp⟩:=a
   simp only at hs
   subst hs;rw [hxl];have hb:=him blk (him' (by omega));have c2:csz 2=2:=rfl;have hat:∀ j,j<ps.length->xs[j]? = some (q1o (ps.getD j (0,0))):=by
    intro j hj;rw [<- hxs,List.getElem?_map,List.getElem?_eq_getElem hj];simp [hj]
   have hc2:∀ j,j<ps.length->w.cell? ⟨blk,off+j*2,none⟩=some (.int .i64 (ps.getD j (0,0)).1) /\ w.cell? ⟨blk,off+j*2+1,none⟩=some (.int .i64 (ps.getD j (0,0)).2):=by
    intro j hj;have a1:=hcell j _ 0 _ (hat j hj) rfl;have a2:=hcell j _ 1 _ (hat j hj) rfl;have b1:=hr j _ 0 _ (hat j hj) rfl;have b2:=hr j _ 1 _ (hat j hj) rfl;rw [c2] at a1 a2 b1 b2;simp only [Nat.add_zero] at a1 b1;rw [a1,Nat.add_assoc,a2,y5q b1,y5q b2];exact ⟨rfl,rfl⟩
   refine (x2j blk off cap ps w hlen hb hc2 hwf).mono ?_
   rintro ev w' ⟨v,rfl,hown,hbel⟩
   exact ⟨v,rfl,by rw [hcl];exact hown,hbel⟩
def pairOf:PV->Option (Int × Int)
 | .agg [.int .i64 a,.int .i64 b]=>some (a,b)
 | _=>none
def q7e:List PV->Option (List (Int × Int))
 | []=>some []
 | x::l=>(pairOf x).bind fun p=>(q7e l).bind fun q=>some (p::q)
theorem z95:∀ ps:List (Int × Int),q7e (ps.map q1o)=some ps
 | []=>rfl
 | p::l=>by rw [List.map_cons,q7e,z95 l];rfl
theorem z7l:∀ {xs:List PV} {ps:List (Int × Int)},q7e xs=some ps->xs=ps.map q1o
 | [],ps,h=>by injection h with h;subst h;rfl
 | x::l,ps,h=>by
  rw [q7e] at h;obtain ⟨p,hp,h⟩:=bind_some h;obtain ⟨q,hq,h⟩:=bind_some h;injection h with h
  subst h;rw [List.map_cons,<- z7l hq]
  congr 1
  unfold pairOf at hp;split at hp
  ·injection hp with hp;subst hp;rfl
  ·cases hp
def wf2B (p:Int × Int):Bool:=(Lit.int .i64 p.1).wf&&(Lit.int .i64 p.2).wf
def numT:FuncId->List AV->List (List CV)->R:=fun f args bs=>
 bif f==166 then match args,bs with
  | [.s (.c (.p (.row 2 0 xs)))],[]=>(q7e xs).bind fun ps=>bif decide (ps.length<=1000000)&&ps.all wf2B then some ([.agg [.own 3 0 ((clsL ps).map (PV.int .i64))]],[]) else none
  | _,_=>none
 else none
theorem w6f:∀ f args bs r,numT f args bs=some r->Contract Tryz.prog f args bs r:=by
 intro f args bs r h;unfold numT at h;obtain ⟨hf,h⟩:=q0j h;have hf:f=166:=by simpa using hf
 subst hf;split at h
 ·rename_i xs;obtain ⟨ps,hp,h⟩:=bind_some h;obtain ⟨hc,h⟩:=q0j h;injection h with h
  subst h;rw [z7l hp];rw [Bool.and_eq_true,List.all_eq_true] at hc;refine x4k ps (of_decide_eq_true hc.1) fun p hp=>?_
  have:=hc.2 p hp
  simpa [wf2B,wf2] using this
 ·cases h
theorem w6e (ps:List (Int × Int)) (h1:ps.length<=1000000) (h2:ps.all wf2B=true):numT 166 [.s (.c (.p (.row 2 0 (ps.map q1o))))] []=some ([.agg [.own 3 0 ((clsL ps).map (PV.int .i64))]],[]):=by
 have e:(decide (ps.length<=1000000)&&ps.all wf2B)=true:=by rw [decide_eq_true h1,h2];rfl
 show ((q7e (ps.map q1o)).bind fun ps=>bif decide (ps.length<=1000000)&&ps.all wf2B then some ([SV.agg [.own 3 0 ((clsL ps).map (PV.int .i64))]],[]) else none)=_
 rw [z95]
 show (bif decide (ps.length<=1000000)&&ps.all wf2B then some ([SV.agg [.own 3 0 ((clsL ps).map (PV.int .i64))]],[]) else none)=_
 rw [e];rfl
end Go.Proofs.YtgdegfijcijnoaaGreat
namespace Go.Proofs.YtgdegfijcijnoaaGreat
open Go.Dp
section
variable {α β:Type} [BEq α] [LawfulBEq α] [BEq β] [LawfulBEq β]
def cls:List α->List α->List Int
 | [],_=>[]
 | p::l,kn=>bif kn.contains p then (kn.idxOf p:Int)::cls l kn else (kn.length:Int)::cls l (kn++[p])
def dis:List α->List α->List α
 | [],kn=>kn
 | p::l,kn=>bif kn.contains p then dis l kn else dis l (kn++[p])
theorem q9g:∀ (l kn:List α),(cls l kn).length=l.length
 | [],kn=>rfl
 | p::l,kn=>by
  rw [cls];cases kn.contains p
  ·simp [q9g l]
  ·simp [q9g l]
def Bij (zs:List (α × β)):Prop:=∀ x∈zs,∀ y∈zs,x.1=y.1↔x.2=y.2
theorem x6a (z:α × β):∀ (kn:List (α × β)),(∀ x∈kn,x.1=z.1↔x.2=z.2)->(kn.map (·.1)).idxOf z.1=(kn.map (·.2)).idxOf z.2 /\ (kn.map (·.1)).contains z.1=(kn.map (·.2)).contains z.2
 | [],_=>⟨rfl,rfl⟩
 | x::kn,h=>by
  obtain ⟨h1,h2⟩:=x6a z kn (fun y hy=>h y (by simp [hy]));have hx:=h x (by simp);simp only [List.map_cons,List.idxOf_cons,List.contains_cons,h2];by_cases e:x.1=z.1
  ·have e2:=hx.1 e;have a1:(x.1==z.1)=true:=by simpa using e
   have a2:(x.2==z.2)=true:=by simpa using e2
   have a3:(z.1==x.1)=true:=by simpa using e.symm
   have a4:(z.2==x.2)=true:=by simpa using e2.symm
   rw [a1,a2,a3,a4];exact ⟨rfl,rfl⟩
  ·have e2:¬ x.2=z.2:=fun h=>e (hx.2 h)
   have a1:(x.1==z.1)=false:=by simpa using e
   have a2:(x.2==z.2)=false:=by simpa using e2
   have a3:(z.1==x.1)=false:=by simpa using fun h:z.1=x.1=>e h.symm
   have a4:(z.2==x.2)=false:=by simpa using fun h:z.2=x.2=>e2 h.symm
   rw [a1,a2,a3,a4,h1];exact ⟨rfl,rfl⟩
theorem y5y:∀ (l kn:List (α × β)),Bij (kn++l)->cls (l.map (·.1)) (kn.map (·.1))=cls (l.map (·.2)) (kn.map (·.2))
 | [],kn,h=>rfl
 | z::l,kn,h=>by
  obtain ⟨h1,h2⟩:=x6a z kn (fun x hx=>h x (by simp [hx]) z (by simp));simp only [List.map_cons,cls,h1,h2,List.length_map];have hsub:Bij (kn++l):=fun x hx y hy=>h x (by rcases List.mem_append.1 hx with h | h <;> simp [h]) y (by rcases List.mem_append.1 hy with h | h <;> simp [h])
  have hsub2:Bij ((kn++[z])++l):=fun x hx y hy=>h x (by simpa using hx) y (by simpa using hy)
  have e1:=y5y l kn hsub;have e2:=y5y l (kn++[z]) hsub2;simp only [List.map_append,List.map_cons,List.map_nil] at e2;rw [e1,e2]
theorem w0p {zs:List (α × β)} (h:Bij zs):cls (zs.map (·.1)) []=cls (zs.map (·.2)) []:=by
 have:=y5y zs [] (by simpa using h)
 simpa using this
theorem q68:∀ (l kn:List α) (x:α),x∈dis l kn↔x∈kn∨x∈l
 | [],kn,x=>by simp [dis]
 | p::l,kn,x=>by
  rw [dis];cases hc:kn.contains p
  ·rw [cond_false,q68 l,List.mem_append,List.mem_singleton,List.mem_cons];constructor
   ·rintro ((h | h) | h)
    ·exact .inl h
    ·exact .inr (.inl h)
    ·exact .inr (.inr h)
   ·rintro (h | h | h)
    ·exact .inl (.inl h)
    ·exact .inl (.inr h)
    ·exact .inr h
  ·have hp:p∈kn:=by simpa using hc
   rw [cond_true,q68 l,List.mem_cons];constructor
   ·rintro (h | h)
    ·exact .inl h
    ·exact .inr (.inr h)
   ·rintro (h | h | h)
    ·exact .inl h
    ·exact .inl (h ▸ hp)
    ·exact .inr h
theorem q8a:∀ (l kn:List α),kn.Nodup->(dis l kn).Nodup
 | [],kn,h=>h
 | p::l,kn,h=>by
  rw [dis];cases hc:kn.contains p
  ·have hp:p∉kn:=by simpa using hc
   refine q8a l _ ?_;rw [List.nodup_append];exact ⟨h,by simp,fun a ha b hb=>by rw [List.mem_singleton.1 hb];rintro rfl;exact hp ha⟩
  ·exact q8a l kn h
theorem z8l:∀ (l kn:List α),∃ t,dis l kn=kn++t
 | [],kn=>⟨[],by simp [dis]⟩
 | p::l,kn=>by
  rw [dis];cases kn.contains p
  ·obtain ⟨t,h⟩:=z8l l (kn++[p]);exact ⟨p::t,by simp only [cond_false];rw [h];simp⟩
  ·exact z8l l kn
theorem y55 {kn t:List α} {p:α} (h:p∈kn):(kn++t).idxOf p=kn.idxOf p:=by
 rw [List.idxOf_append,if_pos h]
theorem y5z:∀ (l kn:List α),kn.Nodup->cls l kn=l.map fun p=>((dis l kn).idxOf p:Int)
 | [],kn,h=>rfl
 | p::l,kn,h=>by
  rw [cls,dis,List.map_cons];cases hc:kn.contains p
  ·have hp:p∉kn:=by simpa using hc
   have hn:(kn++[p]).Nodup:=by
    rw [List.nodup_append];exact ⟨h,by simp,fun a ha b hb=>by rw [List.mem_singleton.1 hb];rintro rfl;exact hp ha⟩
   obtain ⟨t,ht⟩:=z8l l (kn++[p]);simp only [cond_false];rw [y5z l _ hn,ht,y55 (by simp),List.idxOf_append,if_neg hp];simp
  ·have hp:p∈kn:=by simpa using hc
   obtain ⟨t,ht⟩:=z8l l kn;simp only [cond_true];rw [y5z l _ h,ht,y55 hp]
theorem w5w {K:List α} {p q:α} (hp:p∈K) (hq:q∈K) (h:K.idxOf p=K.idxOf q):p=q:=by
 have h1:=List.idxOf_lt_length_of_mem hp;have h2:=List.idxOf_lt_length_of_mem hq;have e1:=List.getElem_idxOf h1;have e2:=List.getElem_idxOf h2;rw [<- e1,<- e2]
 congr 1
end
def q04:List Int->Int->Bool
 | [],_=>true
 | x::l,m=>decide (0<=x)&&(decide (x<=m)&&q04 l (bif x==m then m+1 else m))
def q0r:List Int->Int->Int
 | [],m=>m
 | x::l,m=>q0r l (bif x==m then m+1 else m)
def iota (m:Nat):List Int:=(List.range m).map fun (i:Nat)=>(i:Int)
theorem x1z (m:Nat) (x:Int):x∈iota m↔0<=x /\ x<m:=by
 unfold iota;rw [List.mem_map];constructor
 ·rintro ⟨i,hi,rfl⟩
  rw [List.mem_range] at hi;omega
 ·rintro ⟨h1,h2⟩
  exact ⟨x.toNat,by rw [List.mem_range];omega,by omega⟩
theorem w09 (m:Nat):iota m++[(m:Int)]=iota (m+1):=by simp [iota,List.range_succ]
theorem q2d (m:Nat):(iota m).length=m:=by simp [iota]
theorem w28 (m i:Nat) (h:i<(iota m).length):(iota m)[i]=(i:Int):=by
 simp [iota]
theorem w29 (m:Nat) {x:Int} (h:x∈iota m):((iota m).idxOf x:Int)=x:=by
 have h1:=List.idxOf_lt_length_of_mem h;have e:=List.getElem_idxOf h1;rw [w28] at e;exact e
theorem y1a:∀ (l:List Int) (m:Nat),q04 l m=true->cls l (iota m)=l /\ ((dis l (iota m)).length:Int)=q0r l m
 | [],m,h=>⟨rfl,by simp [dis,q0r,q2d]⟩
 | x::l,m,h=>by
  simp only [q04,Bool.and_eq_true,decide_eq_true_eq] at h;obtain ⟨h1,h2,h3⟩:=h;rw [cls,dis,q0r];by_cases e:x=(m:Int)
  ·subst e;have hn:(iota m).contains (m:Int)=false:=by
    rw [<- Bool.not_eq_true,List.contains_iff_mem,x1z];omega
   have he:(((m:Int))==(m:Int))=true:=beq_self_eq_true _;rw [he] at h3 ⊢;simp only [cond_true] at h3 ⊢;have h3':q04 l ((m+1:Nat):Int)=true:=by simpa using h3
   obtain ⟨q1,q2⟩:=y1a l (m+1) h3';rw [hn];simp only [cond_false];rw [w09,q1,q2d];exact ⟨rfl,by rw [q2];simp⟩
  ·have hm:x∈iota m:=(x1z m x).2 ⟨h1,by omega⟩;have hc:(iota m).contains x=true:=by simpa using hm
   have he:(x==(m:Int))=false:=by simpa using e
   rw [he] at h3 ⊢;simp only [cond_false] at h3 ⊢;obtain ⟨q1,q2⟩:=y1a l m h3;rw [hc];simp only [cond_true];rw [q1,w29 m hm];exact ⟨rfl,q2⟩
section
variable {α:Type} [BEq α] [LawfulBEq α]
theorem z3q:∀ (l kn:List α),q04 (cls l kn) kn.length=true /\ q0r (cls l kn) kn.length=((dis l kn).length:Int)
 | [],kn=>⟨rfl,rfl⟩
 | p::l,kn=>by
  rw [cls,dis];cases hc:kn.contains p
  ·obtain ⟨q1,q2⟩:=z3q l (kn++[p]);simp only [cond_false,q04,q0r,beq_self_eq_true,cond_true];have e:((kn++[p]).length:Int)=(kn.length:Int)+1:=by simp
   rw [e] at q1 q2;rw [q1,q2,decide_eq_true (by omega),decide_eq_true (by omega)];simp
  ·have hp:p∈kn:=by simpa using hc
   have hlt:=List.idxOf_lt_length_of_mem hp;obtain ⟨q1,q2⟩:=z3q l kn;have he:(((kn.idxOf p:Nat):Int)==(kn.length:Int))=false:=by
    have:((kn.idxOf p:Nat):Int)≠(kn.length:Int):=by omega
    simpa using this
   simp only [cond_true,q04,q0r,he,cond_false,q1,q2];rw [decide_eq_true (by omega),decide_eq_true (by omega)];simp
theorem q8c:∀ {a b:List α},a.Nodup->(∀ x∈a,x∈b)->a.length<=b.length
 | [],b,_,_=>by simp
 | x::a,b,hn,h=>by
  rw [List.nodup_cons] at hn;have hx:=h x (by simp)
  have:=q8c (b:=b.erase x) hn.2 (fun y hy=>by
   have hne:y≠x:=by rintro rfl;exact hn.1 hy
   exact (List.mem_erase_of_ne hne).2 (h y (by simp [hy])))
  rw [List.length_erase_of_mem hx] at this;have hpos:0<b.length:=List.length_pos_of_mem hx;simp only [List.length_cons];omega
end
theorem x1d {v:List Int} (h:q04 v 0=true):cls v []=v /\ ((dis v []).length:Int)=q0r v 0:=y1a v 0 h
theorem y09:∀ (l kn:List (Int × Int)),clsF l kn=cls l kn
 | [],kn=>rfl
 | p::l,kn=>by
  rw [clsF,cls];by_cases h:p∈kn
  ·have hc:kn.contains p=true:=by simpa using h
   rw [if_pos h,hc,y09 l kn];rfl
  ·have hc:kn.contains p=false:=by
    rw [<- Bool.not_eq_true,List.contains_iff_mem];exact h
   rw [if_neg h,hc,y09 l (kn++[p])];rfl
theorem x1b (ps:List (Int × Int)):clsL ps=cls ps []:=y09 ps []
theorem z2s:∀ (l:List Int) (m:Nat),q04 l m=true->∀ x∈l,0<=x /\ x<q0r l m
 | [],m,h,x,hx=>by simp at hx
 | y::l,m,h,x,hx=>by
  have hmono:∀ (l:List Int) (m:Int),m<=q0r l m:=by
   intro l
   induction l with
   | nil=>intro m;exact Int.le_refl m
   | cons z l ih=>
    intro m;rw [q0r]
    have:=ih (bif z==m then m+1 else m)
    refine Int.le_trans ?_ this;cases (z==m)
    ·exact Int.le_refl m
    ·exact Int.le_of_lt (Int.lt_succ m)
  simp only [q04,Bool.and_eq_true,decide_eq_true_eq] at h;obtain ⟨h1,h2,h3⟩:=h;rw [q0r];by_cases e:y=(m:Int)
  ·have he:(y==(m:Int))=true:=by simpa using e
   rw [he] at h3 ⊢;simp only [cond_true] at h3 ⊢;have h3':q04 l ((m+1:Nat):Int)=true:=by simpa using h3
   rcases List.mem_cons.1 hx with rfl | hx
   ·have:=hmono l ((m:Int)+1)
    omega
   ·have:=z2s l (m+1) h3' x hx
    simpa using this
  ·have he:(y==(m:Int))=false:=by simpa using e
   rw [he] at h3 ⊢;simp only [cond_false] at h3 ⊢;rcases List.mem_cons.1 hx with rfl | hx
   ·have:=hmono l (m:Int)
    omega
   ·exact z2s l m h3 x hx
section
variable {α β γ:Type} [BEq β] [LawfulBEq β] [BEq γ] [LawfulBEq γ]
theorem x1c (z:List α) (f:α->β) (g:α->γ) (h:∀ q∈z,∀ r∈z,f q=f r↔g q=g r):cls (z.map f) []=cls (z.map g) []:=by
 have hb:Bij (z.map fun q=>(f q,g q)):=by
  intro x hx y hy;obtain ⟨q,hq,rfl⟩:=List.mem_map.1 hx;obtain ⟨r,hr,rfl⟩:=List.mem_map.1 hy;exact h q hq r hr
 have:=w0p hb
 simpa [Function.comp_def] using this
theorem w5n (z:List α) (f:α->β):∃ g:α->Int,cls (z.map f) []=z.map g /\ ∀ q∈z,∀ r∈z,g q=g r↔f q=f r:=by
 refine ⟨fun q=>((dis (z.map f) []).idxOf (f q):Int),?_,?_⟩
 ·rw [y5z _ _ (by simp),List.map_map];rfl
 ·intro q hq r hr;constructor
  ·intro h;have h':(dis (z.map f) []).idxOf (f q)=(dis (z.map f) []).idxOf (f r):=by
    have h2:(((dis (z.map f) []).idxOf (f q):Nat):Int)=(((dis (z.map f) []).idxOf (f r):Nat):Int):=h;omega
   exact w5w ((q68 _ [] _).2 (.inr (List.mem_map_of_mem hq))) ((q68 _ [] _).2 (.inr (List.mem_map_of_mem hr))) h'
  ·intro h;simp only [h]
end
theorem x3q {α β γ:Type} (z:List α) (f:α->β) (g:α->γ):(z.map f).zip (z.map g)=z.map fun q=>(f q,g q):=List.zip_map'
end Go.Proofs.YtgdegfijcijnoaaGreat
/-
  DERIVED: THE SHELF's CONTRACTS AT THIS DUMP,IN PLAIN WORDS (tools/lay-plain.mjs out of 'YtgdegfijcijnoaaGreatSrt0.lean',which tools/lay-shelf.mjs wrote): THE SAME DECLARATIONS UNDER THE SAME NAMES: 'import','namespace','open','def','theorem' AND NOTHING ELSE: no command of the shelf's: FOR A HAND-IN. Each laying: the table of numbers ('.._ren') and one theorem,a field a fact of the dump's own or the kernel's comparison;each contract: ONE APPLICATION.
-/
namespace Go.Proofs
open Go.Shelf
def YtgdegfijcijnoaaGreat.lays189_ren:Go.Shelf.Ren:=⟨fun | 189=>147 | 125=>212 | 257=>211 | 128=>261 | 129=>262 | 294=>252 | 295=>253 | 296=>254 | 297=>255 | 298=>256 | 299=>257 | 216=>258 | 300=>259 | 301=>260 | 328=>280 | 329=>281 | 330=>282 | 331=>283 | 332=>284 | 215=>285 | 343=>299 | n=>n,fun | 28=>28 | 3=>3 | 46=>177 | 0=>0 | 51=>224 | 53=>76 | 4=>4 | 183=>231 | 182=>230 | 131=>48 | 5=>5 | 9=>9 | 218=>250 | 222=>254 | 228=>260 | 229=>261 | n=>n,fun | n=>n⟩
theorem YtgdegfijcijnoaaGreat.lays189:Go.Proofs.Lays.n189 Tryz.prog YtgdegfijcijnoaaGreat.lays189_ren:={
 mixed:=by kernel_rfl
 f125:=Tryz.func212.trans (congrArg some (by kernel_rfl))
 f128:=Tryz.func261.trans (congrArg some (by kernel_rfl))
 f129:=Tryz.func262.trans (congrArg some (by kernel_rfl))
 f189:=Tryz.func147.trans (congrArg some (by kernel_rfl))
 f215:=Tryz.func285.trans (congrArg some (by kernel_rfl))
 f216:=Tryz.func258.trans (congrArg some (by kernel_rfl))
 f257:=Tryz.func211.trans (congrArg some (by kernel_rfl))
 f294:=Tryz.func252.trans (congrArg some (by kernel_rfl))
 f295:=Tryz.func253.trans (congrArg some (by kernel_rfl))
 f296:=Tryz.func254.trans (congrArg some (by kernel_rfl))
 f297:=Tryz.func255.trans (congrArg some (by kernel_rfl))
 f298:=Tryz.func256.trans (congrArg some (by kernel_rfl))
 f299:=Tryz.func257.trans (congrArg some (by kernel_rfl))
 f300:=Tryz.func259.trans (congrArg some (by kernel_rfl))
 f301:=Tryz.func260.trans (congrArg some (by kernel_rfl))
 f328:=Tryz.func280.trans (congrArg some (by kernel_rfl))
 f329:=Tryz.func281.trans (congrArg some (by kernel_rfl))
 f330:=Tryz.func282.trans (congrArg some (by kernel_rfl))
 f331:=Tryz.func283.trans (congrArg some (by kernel_rfl))
 f332:=Tryz.func284.trans (congrArg some (by kernel_rfl))
 f343:=Tryz.func299.trans (congrArg some (by kernel_rfl))
 t0:=Tryz.underlying0
 a0:=Tryz.isAgg0
 z0:=Tryz.sizeOf0
 v0:=Tryz.zeroValue0
 t3:=Tryz.underlying3
 a3:=Tryz.isAgg3
 z3:=Tryz.sizeOf3
 v3:=Tryz.zeroValue3
 t4:=Tryz.underlying4
 a4:=Tryz.isAgg4
 z4:=Tryz.sizeOf4
 v4:=Tryz.zeroValue4
 t5:=Tryz.underlying5
 a5:=Tryz.isAgg5
 z5:=Tryz.sizeOf5
 v5:=Tryz.zeroValue5
 t9:=Tryz.underlying9
 a9:=Tryz.isAgg9
 z9:=Tryz.sizeOf9
 v9:=Tryz.zeroValue9
 t28:=Tryz.underlying28
 a28:=Tryz.isAgg28
 z28:=Tryz.sizeOf28
 v28:=Tryz.zeroValue28
 t46:=Tryz.underlying177
 a46:=Tryz.isAgg177
 z46:=Tryz.sizeOf177
 v46:=Tryz.zeroValue177
 t51:=Tryz.underlying224
 a51:=Tryz.isAgg224
 z51:=Tryz.sizeOf224
 v51:=Tryz.zeroValue224
 t53:=Tryz.underlying76
 a53:=Tryz.isAgg76
 z53:=Tryz.sizeOf76
 v53:=Tryz.zeroValue76
 t131:=Tryz.underlying48
 a131:=Tryz.isAgg48
 z131:=Tryz.sizeOf48
 v131:=Tryz.zeroValue48
 t182:=Tryz.underlying230
 a182:=Tryz.isAgg230
 z182:=Tryz.sizeOf230
 v182:=Tryz.zeroValue230
 t183:=Tryz.underlying231
 a183:=Tryz.isAgg231
 z183:=Tryz.sizeOf231
 v183:=Tryz.zeroValue231
 t218:=Tryz.underlying250
 a218:=Tryz.isAgg250
 z218:=Tryz.sizeOf250
 v218:=Tryz.zeroValue250
 t222:=Tryz.underlying254
 a222:=Tryz.isAgg254
 z222:=Tryz.sizeOf254
 v222:=Tryz.zeroValue254
 t228:=Tryz.underlying260
 a228:=Tryz.isAgg260
 z228:=Tryz.sizeOf260
 v228:=Tryz.zeroValue260
 t229:=Tryz.underlying261
 a229:=Tryz.isAgg261
 z229:=Tryz.sizeOf261
 v229:=Tryz.zeroValue261 }
def YtgdegfijcijnoaaGreat.lays20_ren:Go.Shelf.Ren:=⟨fun | 20=>148 | n=>n,fun | 22=>28 | 3=>3 | 4=>4 | 0=>0 | n=>n,fun | n=>n⟩
theorem YtgdegfijcijnoaaGreat.lays20:Go.Proofs.Lays2.n20 Tryz.prog YtgdegfijcijnoaaGreat.lays20_ren:={
 mixed:=by kernel_rfl
 f20:=Tryz.func148.trans (congrArg some (by kernel_rfl))
 t0:=Tryz.underlying0
 a0:=Tryz.isAgg0
 z0:=Tryz.sizeOf0
 v0:=Tryz.zeroValue0
 t3:=Tryz.underlying3
 a3:=Tryz.isAgg3
 z3:=Tryz.sizeOf3
 v3:=Tryz.zeroValue3
 t4:=Tryz.underlying4
 a4:=Tryz.isAgg4
 z4:=Tryz.sizeOf4
 v4:=Tryz.zeroValue4
 t22:=Tryz.underlying28
 a22:=Tryz.isAgg28
 z22:=Tryz.sizeOf28
 v22:=Tryz.zeroValue28
 i3:=by kernel_rfl }
end Go.Proofs
namespace Go.Proofs.YtgdegfijcijnoaaGreat
open Go.Dp Go.Sort Go.RowKit
theorem x4w (cur:Array Value) (bo:Nat) (ts:List Int) (h:ts=[]∨bo+ts.length<=cur.size):(putCells (Value.int .i64) bo ts.toArray cur).toList=cur.toList.take bo++(ts.map (Value.int .i64)++cur.toList.drop (bo+ts.length)):=by
 rcases h with rfl | h
 ·rw [show (putCells (Value.int .i64) bo ([]:List Int).toArray cur)=cur from by
   apply Array.ext_getElem?;intro j;by_cases hj:j<cur.size <;> simp [putCells,hj] <;> omega]
  simp
 apply List.ext_getElem?;intro j;rw [Array.getElem?_toList];by_cases hj:j<bo
 ·rw [List.getElem?_append_left (by (simp;try omega)),List.getElem?_take_of_lt hj];simp [putCells,show ¬ (bo<=j) by omega,show j<cur.size by omega]
 ·have hlt:cur.toList.length=cur.size:=Array.length_toList;rw [List.getElem?_append_right (by rw [List.length_take];omega),List.length_take,hlt,Nat.min_eq_left (by omega)];by_cases hj2:j<bo+ts.length
  ·rw [List.getElem?_append_left (by (simp;try omega))];simp [putCells,hj2,show bo<=j by omega,show j<cur.size by omega,show j-bo<ts.length by omega]
  ·rw [List.getElem?_append_right (by (simp;try omega)),List.length_map,List.getElem?_drop];have ej:bo+ts.length+(j-bo-ts.length)=j:=by omega
   rw [ej];by_cases hc:j<cur.size
   ·simp [putCells,hj2,hc]
   ·rw [Array.getElem?_eq_none (by (simp [putCells];try omega)),List.getElem?_eq_none (by (simp;try omega))]
theorem x1v {w:World} {g bo:Nat} {cur:Array Value} {e:TypeId} {ss:List Int} (hb:w.heap[g]? = some (.cells cur e (0,0))) (ht:(cur.toList.drop bo).take ss.length=ss.map (Value.int .i64)):Holds (Value.int .i64) w g bo ss.toArray:=by
 intro j hj;have hj':j<ss.length:=by simpa using hj
 refine ⟨?_,by simp [World.frozen?,hb]⟩;have h1:((cur.toList.drop bo).take ss.length)[j]? = (ss.map (Value.int .i64))[j]?:=by rw [ht]
 rw [List.getElem?_take_of_lt hj',List.getElem?_drop] at h1;simp only [World.cell?,hb];simp only [Option.isSome_none,Bool.false_eq_true,if_false];rw [<- Array.getElem?_toList,h1];simp [hj']
theorem w1y {w:World} {b bo n:Nat} {os:Array Obj} {cu:Array Value} {e:TypeId} {d:List Int} (hb:w.heap[b]? = some (.cells cu e (0,0))) (hd:d=[]∨bo+d.length<=cu.size) :
  Wd w (grow (putRow (Value.int .i64) (Sort.ahead w n) b bo d.toArray) os) /\ (∀ k,k<w.heap.size->k≠b->(grow (putRow (Value.int .i64) (Sort.ahead w n) b bo d.toArray) os).heap[k]? = w.heap[k]?) /\
   ∃ cu',(grow (putRow (Value.int .i64) (Sort.ahead w n) b bo d.toArray) os).heap[b]? = some (.cells cu' e (0,0)) /\ cu'.size=cu.size /\ cu'.toList=cu.toList.take bo++(d.map (Value.int .i64)++cu.toList.drop (bo+d.length)):=by
 have hg:b<w.heap.size:=(Array.getElem?_eq_some_iff.1 hb).1;refine ⟨⟨rfl,rfl,rfl,by simp⟩,fun k hk hne=>?_,putCells (Value.int .i64) bo d.toArray cu,?_,by simp [putCells],x4w cu bo d hd⟩
 ·rw [heap_grow_old _ _ (by simpa using hk)];simp [putRow,mapBlock,Sort.ahead,Array.getElem?_modify,Ne.symm hne]
 ·rw [heap_grow_old _ _ (by simpa using hg)];simp [putRow,mapBlock,Sort.ahead,Array.getElem?_modify,hb,onCells]
theorem x66 {cu:Array Value} {bo:Nat} {zs:List Int} (h:(cu.toList.drop bo).take zs.length=zs.map (Value.int .i64)):zs=[]∨bo+zs.length<=cu.size:=by
 cases hz:zs with
 | nil=>exact .inl rfl
 | cons z t=>
  right
  have:=congrArg List.length h
  simp [hz] at this;simp;omega
theorem w89:SortOK Tryz.prog 1 147 where
 enters:=⟨Tryz.f147,Tryz.func147,by kernel_rfl,by decide⟩
 empty w p cap:=Any.slices_Sort_int_none YtgdegfijcijnoaaGreat.lays189 p cap w
 row w b bo cap zs cu e hb ht hc hl:=by
  have hH:Holds (Value.int .i64) w b bo zs.toArray:=x1v hb ht;have hlt:=(Array.getElem?_eq_some_iff.1 hb).1;refine Calls.mono (Any.slices_Sort_int YtgdegfijcijnoaaGreat.lays189 b bo cap zs w hH hlt (by unfold LIM at hl;omega)) ?_
  rintro e' w' ⟨rfl,n,os,rfl⟩
  have hsz:=x66 ht;have hl2:(zs.mergeSort fun x y=>decide (x<=y)).length=zs.length:=List.length_mergeSort zs
  have:=w1y (n:=n) (os:=os) (d:=zs.mergeSort fun x y=>decide (x<=y)) hb (hsz.imp (fun h=>List.eq_nil_of_length_eq_zero (by rw [hl2,h];rfl)) (fun h=>by rw [hl2];exact h))
  rw [hl2] at this;exact ⟨rfl,this⟩
theorem w5o:SortOK Tryz.prog 2 148 where
 enters:=⟨Tryz.f148,Tryz.func148,by kernel_rfl,by decide⟩
 empty w p cap:=Any.slices_Compact_int_empty YtgdegfijcijnoaaGreat.lays20 p cap w
 row w b bo cap zs cu e hb ht hc hl:=by
  have hH:Holds (Value.int .i64) w b bo zs.toArray:=x1v hb ht;refine Calls.mono (Any.slices_Compact_int YtgdegfijcijnoaaGreat.lays20 b bo cap zs w hH (by unfold LIM at hl;omega) hc) ?_
  rintro e' w' ⟨rfl,n,rfl⟩
  have hsz:=x66 ht;have hcl:=z3i zs;have hl2:(Lib.compact zs++List.replicate (zs.length-(Lib.compact zs).length) 0).length=zs.length:=by
   have:(Lib.compact zs).length<=zs.length:=hcl
   simp;omega
  have:=w1y (n:=n) (os:=#[]) (d:=Lib.compact zs++List.replicate (zs.length-(Lib.compact zs).length) 0) hb (hsz.imp (fun h=>List.eq_nil_of_length_eq_zero (by rw [hl2,h];rfl)) (fun h=>by rw [hl2];exact h))
  rw [hl2,grow_empty] at this;exact ⟨rfl,this⟩
open Go.Dp
def tabs:Tabs where
 sl:=[(22,(5,0,1)),(24,(133,2,16)),(25,(136,2,48)),(28,(3,0,8)),(40,(24,0,24)),(92,(76,0,8)),
 (106,(28,0,24)),(134,(138,2,32)),(163,(164,2,16)),(169,(4,0,1)),(208,(40,0,24))]
 sh:=[(2,0),(3,0),(4,0),(5,0),(9,0),(22,0),(24,0),(25,0),(27,4),(28,0),(30,1),(40,0),(56,4),(75,0),(76,0),(78,3),(88,0),(92,0),(106,0),(120,0),
 (133,2),(134,0),(136,2),(138,2),(163,0),(164,2),(168,0),(169,0),(177,0),(208,0),(215,0),(224,0)]
 fl:=[(27,[some (0,0),some (1,0),some (2,0),some (3,0)]),(30,[some (0,0)]),(56,[some (0,0),some (1,0),some (2,0),some (3,1)]),(78,[some (0,0),some (1,0),some (2,0)]),(133,[some (0,0),some (1,0)]),(136,[some (0,0),some (1,0)]),
 (138,[some (0,0),some (1,0)])]
 ik:=[(2,.i64),(3,.i64),(5,.u8),(76,.u64),(177,.u64),(224,.u32)]
 zr:=[(2,[.int .i64 0]),(3,[.int .i64 0]),(4,[.bool false]),(5,[.int .u8 0]),(9,[.str ⟨#[]⟩]),(22,[.row 0 2 []]),
 (24,[.row 0 2 []]),(25,[.row 0 2 []]),(27,[.int .i64 0,.int .i64 0,.row 0 2 [],.row 0 2 []]),(28,[.row 0 2 []]),(30,[.row 0 2 []]),(40,[.row 0 2 []]),
 (56,[.int .i64 0,.row 0 2 [],.int .i64 0,.row 0 2 []]),(76,[.int .u64 0]),(78,[.row 0 2 [],.int .i64 0,.int .u64 0]),(92,[.row 0 2 []]),(106,[.row 0 2 []]),(133,[.int .i64 0,.int .u64 0]),
 (134,[.row 0 2 []]),(136,[.row 0 2 [],.row 0 2 []]),(138,[.int .i64 0,.row 0 2 []]),(163,[.row 0 2 []]),(164,[.int .i64 0,.int .i64 0]),(169,[.row 0 2 []]),
 (177,[.int .u64 0]),(208,[.row 0 2 []]),(224,[.int .u32 0])]
 eqs:=[(133,[0,0])]
 bl:=[(4,())]
 st:=[(9,())]
 flat:=[(2,()),(3,()),(4,()),(5,()),(9,()),(76,()),(133,()),(164,()),(177,()),(224,())]
 ar:=[(164,2)]
def v5j:List (Nat × List (Nat × List Nat)):=[(15,[(0,[0,1,12,13])]),(32,[(0,[1,2,3,4,8,10,11])]),(49,[(0,[3,6,7,8])]),
 (68,[(0,[1,2,5,6,14,15,16])]),(70,[(0,[1,2,5,9,10])]),(72,[(0,[0,4,7,8])]),
 (76,[(0,[2,10,11,12])]),(79,[(0,[2,4,5,13,14,15])]),(80,[(0,[1,4,5,9,10,11])]),
 (83,[(0,[3,4,5,10,11,12])]),(86,[(0,[3,4,7,8,9,24,25,26]),(2,[3,4,7,8,11,12,24,25,26,36,37,38]),(4,[3,4,7,8,11,12,24,25,26,36,37,38,45,46,47])]),(88,[(0,[5,6,7])]),
 (89,[(0,[3,4,7,8,18,19,20]),(2,[3,4,7,10,11,18,19,20,24,25,26])]),(96,[(0,[1,2,3,4,8,9])]),(99,[(0,[2,4,5,12,13,14])]),
 (101,[(0,[1,2,5,6]),(2,[1,2,5,6,7,27,28,29]),(4,[2,5,10,11]),(6,[2,5,10,11,69,70,71])]),(108,[(0,[0,5,6,17,18,19]),(2,[0,5,6]),(4,[0,5,6,37,38,39])]),(109,[(0,[1,3,7,8])]),
 (110,[(0,[1,2,5,9,10])]),(118,[(0,[0,2,3,4])]),(121,[(0,[0,1,7,8])]),
 (123,[(0,[1,7,8,9])]),(124,[(0,[1,2,5,6])]),(125,[(0,[2,5,10,11,12]),(2,[2,5,10,11,12,18,19,20])]),
 (127,[(0,[1,7,8,9])]),(129,[(0,[5,20,21,22])]),(130,[(0,[2,5,11,12,13])]),
 (132,[(0,[1,18,19,20])]),(138,[(0,[7,8,9,10]),(2,[7,8,9,11,12])]),(142,[(0,[7,8])]),
 (143,[(0,[0,1,7,8])]),(144,[(0,[0,1,7,8])]),(145,[(0,[2,5,8,9,10])]),
 (146,[(0,[2,3,7,13,14,15])]),(149,[(0,[0,2,7,12,13,14])]),(157,[(0,[1,2,5,6,17,18,19]),(2,[2,5,6,28,29,30]),(4,[2,5,6,10,28,29,30,36,37])]),
 (160,[(0,[1,2,5,14,15,16]),(2,[2,5,25,26,27]),(4,[2,5,9,25,26,27,33,34])]),(161,[(0,[2,3,4,11,12,13])]),(162,[(0,[3,4,5,9,14,15,16])]),
 (163,[(0,[1,7,8,9])]),(164,[(0,[0,2,3,4,9,10,11]),(2,[0,2,3,4,5,6,7,8,9,10,11])]),(165,[(0,[1,2,5,9,10,11])]),
 (166,[(0,[2,3,4,11,12,13])]),(167,[(0,[0,3,4])]),(168,[(0,[0,1,7,8])]),
 (170,[(0,[3,7,8,9])]),(171,[(0,[0,1,5,6])]),(173,[(0,[1,5,10,11,12])]),
 (179,[(0,[2,4,5,12,13,14])]),(180,[(0,[0,3,9,10,11]),(2,[6,25,26,27])]),(181,[(0,[2,5,8,9,10])]),
 (182,[(0,[0,8,9,19,20,21]),(2,[0,8,9,12]),(4,[0,8,9,12,59,60,61])]),(183,[(0,[2,3,5,6])]),(184,[(0,[1,2,5,6,14,15,16])]),
 (186,[(0,[5,11,12,13])]),(188,[(0,[2,3,5,9,10])]),(190,[(0,[0,1,2,6,7,8])]),
 (192,[(0,[0,1,5])]),(193,[(0,[0,1,2,9,10,11])]),(195,[(0,[1,2,5,6])]),
 (196,[(0,[0,1,7,27,28,29]),(2,[0,1,7,10,11,12,27,28,29])]),(197,[(0,[0,7,8,18,19,20]),(2,[0,7,11,12])]),(198,[(0,[2,3,21,22,23])]),
 (208,[(0,[3,7,8,9])]),(215,[(0,[0,1,7,8])]),(218,[(0,[0,1,12,13])]),
 (220,[(0,[1,2,3,8,14,15]),(2,[2,3,8,31,32,33])]),(223,[(0,[1,2,4,6,25,26]),(2,[1,2,4,6,7,8,25,26,32,33,34])]),(224,[(0,[0,1,7,8,9])]),
 (225,[(0,[1,2,3,8,9]),(2,[2,3,8,30,31,32])]),(227,[(0,[1,5,9,10,11])]),(229,[(0,[0,1,5,17,18]),(2,[0,1,5,25,26,27]),(4,[0,5,9]),(6,[0,5,9,10,48,49,50])]),
 (230,[(0,[3,11,12,13]),(2,[3,4,11,12,13,18,19,20])]),(231,[(0,[1,2,5,9,10,11])]),(232,[(0,[1,2,5,6])]),
 (233,[(0,[1,3,7,18,19,20])]),(238,[(0,[2,3,13,14,15])]),(239,[(0,[0,1,7,33,34,35])]),
 (241,[(0,[3,4,7,13,14,15])]),(242,[(0,[0,1,2,6,7,8])]),(248,[(0,[3,11,12,13]),(2,[3,4,11,12,13,18,19,20])]),
 (267,[(0,[0,1,5,6])]),(268,[(0,[3,4,5,10,30,31,32])]),(269,[(0,[0,3,9,10,11]),(2,[6,25,26,27])]),
 (271,[(0,[0,1,12,13])]),(272,[(0,[0,1,2,3,26,27,28]),(2,[0,1,3,12,38,39,40])]),(273,[(0,[0,1,7,8])]),
 (278,[(0,[0,5,8])]),(287,[(0,[2,8,9,10,11,13,14,15,16]),(2,[2,8,9,10,14,15,16,17,18])]),(296,[(0,[0,1,2,3])])]
def tRk:List (Nat × List RK):=[(8,[.c (.p (.bool))]),(9,[.c (.p (.bool))]),(15,[.c (.p (.bool))]),(30,[.agg [.p (.int .i64),.p (.int .i64),.p (.row 2),.p (.row 2)],.c (.p (.row 0)),.c (.p (.row 2)),.c (.p (.int .i64))]),(31,[.agg [.p (.int .i64),.p (.row 0),.p (.int .i64),.p (.row 0)],.c (.p (.bool))]),(32,[.agg [.p (.int .i64),.p (.row 0),.p (.int .i64),.p (.row 0)],.c (.p (.bool))]),
 (35,[.c (.p (.bool))]),(49,[.c (.p (.int .i64))]),(50,[.agg [.p (.int .i64),.p (.int .i64),.p (.row 2),.p (.row 2)],.agg [.p (.row 0)],.c (.p (.row 2))]),(51,[.c (.p (.row 0)),.c (.p (.bool))]),(52,[.c (.p (.row 0)),.c (.p (.bool))]),(53,[.c (.p (.bool)),.c (.p (.bool))]),
 (54,[.agg [.p (.int .i64),.p (.int .i64),.p (.row 2),.p (.row 2)],.agg [.p (.row 0)]]),(56,[.c (.p (.int .i64))]),(57,[.c (.own 3 0)]),(64,[.c (.p (.bool))]),(67,[.c (.p (.bool))]),(68,[.c (.p (.row 0))]),
 (69,[.c (.p (.bool))]),(70,[.c (.p (.row 0))]),(72,[.c (.p (.row 0))]),(74,[.c (.p (.bool))]),(75,[.agg [.p (.row 0)],.c (.p (.int .i64)),.c (.p (.bool))]),(76,[.c (.p (.bool))]),
 (77,[.agg [.p (.row 0)],.c (.p (.int .i64))]),(79,[.agg [.p (.row 0)]]),(80,[.agg [.own 3 0]]),(81,[.c (.p (.bool))]),(83,[.agg [.p (.row 0)]]),(84,[.c (.p (.int .i64))]),
 (85,[.c (.p (.int .i64))]),(86,[.c (.own ⟨28,some ⟨0,3,0,0,none⟩⟩ 0)]),(88,[.c (.p (.int .i64))]),(89,[.c (.p (.row 0))]),(91,[.c (.p (.row 0))]),(93,[.c (.p (.row 2))]),
 (94,[.c (.p (.int .i64))]),(95,[.c (.p (.bool))]),(96,[.agg [.p (.int .i64),.p (.row 0),.p (.int .i64),.p (.row 0)]]),(97,[.c (.p (.bool))]),(98,[.agg [.own 3 0]]),(99,[.agg [.own 3 0]]),
 (100,[.c (.p (.row 0)),.c (.p (.bool))]),(101,[.c (.p (.row 0))]),(102,[.c (.p (.bool))]),(103,[.c (.p (.int .i64))]),(104,[.c (.p (.bool))]),(105,[.c (.p (.int .i64))]),
 (107,[.c (.p (.bool))]),(108,[.c (.p (.row 0))]),(109,[.c (.p (.row 0))]),(110,[.c (.own 3 0)]),(111,[.c (.p (.row 0))]),(118,[.agg [.p (.int .i64),.p (.int .i64),.p (.row 2),.own ⟨136,some ⟨1,138,2,0,none⟩⟩ 2]]),
 (120,[.c (.p (.bool))]),(121,[.c (.p (.row 0))]),(123,[.c (.p (.bool))]),(124,[.c (.p (.row 0))]),(125,[.c (.p (.row 0))]),(126,[.c (.p (.bool))]),
 (127,[.c (.p (.bool))]),(128,[.c (.p (.rowN 0))]),(129,[.c (.p (.bool))]),(130,[.c (.own 3 0)]),(131,[.c (.p (.bool))]),(132,[.c (.p (.bool))]),
 (133,[.agg [.p (.row 0)]]),(136,[.c (.p (.int .i64))]),(138,[.c (.p (.rowN 0))]),(139,[.c (.own 3 0)]),(140,[.c (.p (.bool))]),(142,[.c (.own 3 0)]),
 (143,[.c (.p (.int .i64))]),(144,[.c (.p (.int .i64))]),(145,[.c (.p (.int .i64))]),(146,[.c (.p (.row 0))]),(149,[.c (.p (.int .u64))]),(150,[.c (.p (.int .u64))]),
 (151,[.c (.own 133 2)]),(152,[.c (.p (.int .i64))]),(154,[.c (.p (.bool))]),(155,[.c (.p (.bool))]),(156,[.c (.p (.row 0)),.c (.p (.bool))]),(157,[.c (.p (.row 0))]),
 (158,[.c (.p (.int .i64))]),(159,[.agg [.p (.row 0)],.c (.p (.bool))]),(160,[.c (.p (.row 0))]),(161,[.c (.p (.int .i64))]),(162,[.c (.p (.row 0))]),(163,[.c (.p (.bool))]),
 (164,[.agg [.own 3 0]]),(165,[.c (.p (.bool))]),(166,[.agg [.own 3 0]]),(167,[.c (.p (.int .i64))]),(168,[.c (.p (.int .i64))]),(169,[.c (.p (.bool))]),
 (170,[.c (.own 3 0)]),(171,[.c (.own 3 0)]),(172,[.c (.p (.bool))]),(173,[.c (.own 3 0)]),(174,[.c (.p (.bool))]),(175,[.c (.p (.bool))]),
 (176,[.c (.p (.row 2))]),(177,[.c (.p (.int .i64))]),(178,[.c (.p (.bool))]),(179,[.agg [.p (.row 0)]]),(180,[.c (.own 24 0)]),(181,[.c (.p (.row 0))]),
 (182,[.c (.p (.row 0)),.c (.p (.bool))]),(183,[.c (.p (.row 0))]),(184,[.c (.p (.row 0))]),(185,[.c (.p (.bool))]),(186,[.c (.p (.row 0))]),(187,[.c (.p (.bool))]),
 (188,[.c (.p (.row 0))]),(190,[.agg [.p (.int .i64),.p (.int .i64),.p (.row 2),.own ⟨136,some ⟨1,138,2,0,none⟩⟩ 2]]),(192,[.c (.own 3 0)]),(193,[.c (.p (.bool))]),(194,[.c (.p (.bool))]),(195,[.c (.p (.row 0))]),
 (196,[.c (.p (.int .i64))]),(197,[.c (.p (.rowN 0))]),(198,[.c (.p (.bool))]),(199,[.agg [.own 3 0],.c (.p (.bool))]),(200,[.agg [.own 3 0],.c (.p (.bool))]),(202,[.c (.p (.row 0))]),
 (204,[.c (.p (.bool))]),(205,[.c (.p (.bool))]),(206,[.c (.p (.bool))]),(208,[.c (.p (.int .i64))]),(209,[.c (.p (.int .u64)),.c (.p (.int .u64))]),(210,[.c (.own 76 0)]),
 (213,[.c (.p (.int .u64))]),(214,[.c (.own 133 2)]),(215,[.c (.p (.int .i64))]),(217,[.c (.p (.bool))]),(218,[.c (.p (.bool))]),(219,[.c (.own 133 2)]),
 (220,[.c (.p (.row 2)),.c (.p (.bool))]),(221,[.c (.p (.bool))]),(222,[.c (.p (.bool))]),(223,[.agg [.p (.row 0)],.c (.p (.bool))]),(224,[.c (.own 24 0)]),(225,[.c (.p (.row 2)),.c (.p (.bool))]),
 (226,[.c (.p (.bool))]),(227,[.c (.p (.row 0))]),(228,[.c (.own 24 0)]),(229,[.c (.p (.row 0))]),(230,[.c (.p (.row 0))]),(231,[.c (.p (.row 0))]),
 (232,[.c (.p (.int .i64))]),(233,[.c (.p (.row 0))]),(234,[.c (.p (.bool))]),(235,[.c (.p (.bool))]),(236,[.c (.p (.bool))]),(237,[.c (.p (.bool))]),
 (238,[.c (.p (.bool))]),(239,[.c (.p (.bool))]),(240,[.c (.p (.int .i64))]),(241,[.c (.own 3 0)]),(242,[.agg [.p (.row 2),.own 138 2]]),(244,[.c (.p (.int .u64))]),
 (245,[.c (.p (.bool))]),(246,[.c (.p (.int .i64)),.c (.p (.int .i64)),.c (.p (.int .i64))]),(247,[.c (.p (.bool))]),(248,[.c (.p (.row 0))]),(249,[.c (.p (.bool))]),(251,[.c (.p (.int .u64)),.c (.p (.int .u64))]),
 (262,[.c (.p (.int .i64))]),(263,[.c (.p (.int .u64)),.c (.p (.int .u64)),.c (.p (.bool))]),(264,[.c (.p (.int .u64))]),(265,[.c (.p (.int .u64))]),(266,[.c (.p (.int .i64))]),(267,[.c (.p (.int .u64))]),
 (268,[.c (.p (.row 2)),.c (.p (.bool))]),(269,[.c (.own 133 2)]),(270,[.c (.p (.bool))]),(271,[.c (.p (.bool))]),(272,[.c (.p (.row 2)),.c (.p (.bool))]),(273,[.c (.p (.int .i64))]),
 (274,[.c (.p (.int .i64)),.c (.p (.int .i64)),.c (.p (.int .i64))]),(275,[.c (.p (.bool))]),(276,[.c (.p (.bool))]),(277,[.c (.p (.int .u64))]),(278,[.c (.p (.int .i64))]),(279,[.c (.p (.bool))]),
 (286,[.c (.p (.bool))]),(287,[.c (.p (.int .u64)),.c (.p (.int .u64))]),(288,[.c (.p (.bool))]),(289,[.c (.p (.row 2)),.c (.p (.bool))]),(290,[.c (.own 133 2)]),(291,[.c (.p (.bool))]),
 (292,[.c (.p (.bool))]),(293,[.c (.p (.row 2)),.c (.p (.bool))]),(294,[.c (.p (.bool))]),(295,[.c (.p (.int .u64)),.c (.p (.int .u64)),.c (.p (.bool))]),(296,[.c (.p (.int .u64))]),(297,[.c (.p (.int .u64))]),
 (298,[.c (.p (.int .i64))]),(300,[.c (.p (.int .i64))]),(301,[.c (.p (.bool))])]
def tBk:List (Nat × List (List Kind)):=[(54,[[.p (.row 0),.p (.int .i64),.p (.int .u64)]]),(56,[[.p (.row 0),.p (.int .i64),.p (.int .u64)]]),(72,[[.p (.row 0),.p (.int .i64),.p (.int .u64)]]),(93,[[.p (.row 0),.p (.int .i64),.p (.int .u64)]]),(94,[[.p (.row 0),.p (.int .i64),.p (.int .u64)]]),(118,[[.p (.row 0),.p (.int .i64),.p (.int .u64)]]),
 (120,[[.p (.row 0),.p (.int .i64),.p (.int .u64)]]),(121,[[.p (.row 0),.p (.int .i64),.p (.int .u64)]]),(133,[[.p (.row 0),.p (.int .i64),.p (.int .u64)]]),(136,[[.p (.row 0),.p (.int .i64),.p (.int .u64)]]),(151,[[.p (.row 0),.p (.int .i64),.p (.int .u64)]]),(176,[[.p (.row 0),.p (.int .i64),.p (.int .u64)]]),
 (177,[[.p (.row 0),.p (.int .i64),.p (.int .u64)]]),(190,[[.p (.row 0),.p (.int .i64),.p (.int .u64)]]),(214,[[.p (.row 0),.p (.int .i64),.p (.int .u64)]]),(216,[[.own 24 0]]),(237,[[.p (.int .i64),.p (.int .i64),.p (.row 2),.p (.row 2)]]),(242,[[.p (.row 0),.p (.int .i64),.p (.int .u64)]]),
 (276,[[.p (.int .i64)]]),(288,[[.p (.int .i64)],[.p (.int .i64)]]),(238236,[[.p (.int .i64),.p (.int .i64),.p (.row 2),.p (.row 2)]]),(238273,[[.p (.int .i64),.p (.int .i64),.p (.row 2),.p (.row 2)]]),(277064,[[.p (.int .i64)]]),(277143,[[.p (.int .i64)]]),
 (289154,[[.p (.int .i64)],[.p (.int .i64)]]),(289215,[[.p (.int .i64)],[.p (.int .i64)]])]
def v3x:List (Nat × Unit):=[(8,()),(9,()),(15,()),(35,()),(49,()),(53,()),(57,()),(67,()),(69,()),(74,()),(76,()),(80,()),
 (81,()),(84,()),(85,()),(88,()),(95,()),(97,()),(98,()),(99,()),(102,()),(103,()),(104,()),(105,()),
 (107,()),(110,()),(123,()),(126,()),(127,()),(129,()),(130,()),(131,()),(132,()),(139,()),(140,()),(142,()),
 (144,()),(145,()),(149,()),(150,()),(152,()),(155,()),(158,()),(161,()),(163,()),(164,()),(165,()),(166,()),
 (167,()),(169,()),(170,()),(172,()),(173,()),(174,()),(175,()),(178,()),(185,()),(187,()),(192,()),(193,()),
 (194,()),(196,()),(198,()),(199,()),(200,()),(204,()),(205,()),(206,()),(208,()),(209,()),(210,()),(213,()),
 (217,()),(218,()),(219,()),(221,()),(222,()),(226,()),(232,()),(234,()),(235,()),(238,()),(239,()),(240,()),
 (241,()),(244,()),(245,()),(246,()),(247,()),(249,()),(251,()),(262,()),(263,()),(264,()),(265,()),(266,()),
 (267,()),(269,()),(270,()),(271,()),(274,()),(275,()),(276,()),(277,()),(278,()),(279,()),(286,()),(287,()),
 (288,()),(290,()),(291,()),(292,()),(294,()),(295,()),(296,()),(297,()),(298,()),(300,()),(301,()),(132064,()),
 (176064,()),(206064,()),(277064,()),(277143,()),(289154,()),(289215,()),(292064,())]
def tCt:List (Nat × CT):=[(2,.one (.int .i64)),(3,.one (.int .i64)),(4,.one (.bool)),(5,.one (.int .u8)),(9,.one (.str)),(22,.one (.row 0)),
 (24,.one (.row 2)),(25,.one (.row 2)),(27,.agg [.int .i64,.int .i64,.row 2,.row 2]),(28,.one (.row 0)),(30,.agg [.row 0]),(40,.one (.row 0)),
 (56,.agg [.int .i64,.row 0,.int .i64,.row 0]),(76,.one (.int .u64)),(78,.agg [.row 0,.int .i64,.int .u64]),(92,.one (.row 0)),(106,.one (.row 0)),(133,.agg [.int .i64,.int .u64]),
 (134,.one (.row 2)),(136,.agg [.row 2,.row 2]),(138,.agg [.int .i64,.row 2]),(163,.one (.row 2)),(164,.agg [.int .i64,.int .i64]),(169,.one (.row 0)),
 (177,.one (.int .u64)),(208,.one (.row 0)),(224,.one (.int .u32))]
def tAk:List (Nat × List CT):=[(8,[.one (.row 0),.one (.row 0)]),(9,[.one (.row 0),.one (.row 0)]),(15,[.one (.row 0),.one (.row 0)]),(30,[.one (.row 0)]),(31,[.agg [.int .i64,.int .i64,.row 2,.row 2],.one (.row 0),.one (.row 2),.one (.int .i64)]),(32,[.agg [.int .i64,.int .i64,.row 2,.row 2],.one (.row 0),.one (.row 2),.one (.int .i64)]),
 (35,[.agg [.int .i64,.row 0,.int .i64,.row 0],.agg [.int .i64,.row 0,.int .i64,.row 0]]),(49,[.one (.row 0)]),(50,[.one (.row 0)]),(51,[.agg [.int .i64,.int .i64,.row 2,.row 2],.agg [.row 0],.one (.row 2)]),(52,[.agg [.int .i64,.int .i64,.row 2,.row 2],.agg [.row 0],.one (.row 2)]),(53,[.agg [.int .i64,.int .i64,.row 2,.row 2],.agg [.row 0],.one (.row 2)]),
 (54,[.one (.any)]),(56,[.one (.any),.one (.int .i64)]),(57,[.one (.row 0)]),(64,[.one (.row 0),.one (.any)]),(67,[.one (.row 0),.one (.int .i64)]),(68,[.agg [.int .i64,.int .i64,.row 2,.row 2],.one (.int .i64)]),
 (69,[.agg [.int .i64,.int .i64,.row 2,.row 2],.one (.row 2),.one (.row 0)]),(70,[.agg [.int .i64,.int .i64,.row 2,.row 2],.one (.int .i64)]),(72,[.one (.any),.agg [.int .i64,.int .i64,.row 2,.row 2],.one (.int .i64)]),(74,[.agg [.int .i64,.int .i64,.row 2,.row 2],.one (.row 0),.one (.int .i64)]),(75,[.agg [.int .i64,.int .i64,.row 2,.row 2],.agg [.row 0],.one (.row 0),.one (.row 0)]),(76,[.agg [.int .i64,.int .i64,.row 2,.row 2],.one (.row 0)]),
 (77,[.agg [.int .i64,.int .i64,.row 2,.row 2],.agg [.row 0],.one (.row 0),.one (.row 0)]),(79,[.agg [.row 0],.one (.row 0)]),(80,[.agg [.row 0],.one (.row 0)]),(81,[.agg [.int .i64,.int .i64,.row 2,.row 2],.agg [.row 0]]),(83,[.agg [.row 0],.agg [.row 0]]),(84,[.agg [.row 0]]),
 (85,[.one (.row 0)]),(86,[.agg [.int .i64,.int .i64,.row 2,.row 2],.agg [.row 0],.one (.row 0)]),(88,[.one (.row 0)]),(89,[.agg [.int .i64,.int .i64,.row 2,.row 2],.agg [.row 0],.one (.row 0)]),(91,[.agg [.int .i64,.int .i64,.row 2,.row 2],.agg [.row 0],.one (.int .i64),.one (.int .i64)]),(93,[.one (.any),.agg [.int .i64,.int .i64,.row 2,.row 2]]),
 (94,[.one (.any)]),(95,[.agg [.int .i64,.int .i64,.row 2,.row 2],.one (.row 0),.one (.row 2),.one (.int .i64)]),(96,[.agg [.int .i64,.int .i64,.row 2,.row 2],.one (.row 0),.one (.row 2),.one (.int .i64)]),(97,[.agg [.int .i64,.int .i64,.row 2,.row 2],.one (.row 0),.one (.row 2),.one (.int .i64)]),(98,[.agg [.int .i64,.int .i64,.row 2,.row 2],.agg [.row 0],.one (.row 2)]),(99,[.agg [.int .i64,.int .i64,.row 2,.row 2],.one (.row 0)]),
 (100,[.agg [.int .i64,.int .i64,.row 2,.row 2],.agg [.row 0],.one (.row 2)]),(101,[.agg [.int .i64,.int .i64,.row 2,.row 2],.one (.row 0)]),(102,[.agg [.int .i64,.int .i64,.row 2,.row 2]]),(103,[.agg [.int .i64,.int .i64,.row 2,.row 2]]),(104,[.agg [.int .i64,.int .i64,.row 2,.row 2]]),(105,[.agg [.int .i64,.int .i64,.row 2,.row 2]]),
 (107,[.agg [.int .i64,.int .i64,.row 2,.row 2],.one (.row 2)]),(108,[.one (.row 0),.one (.row 0)]),(109,[.agg [.int .i64,.int .i64,.row 2,.row 2]]),(110,[.agg [.int .i64,.int .i64,.row 2,.row 2],.one (.row 2)]),(111,[.agg [.int .i64,.int .i64,.row 2,.row 2],.agg [.row 0]]),(118,[.one (.any)]),
 (120,[.one (.any),.one (.int .i64)]),(121,[.one (.any),.one (.int .i64),.one (.int .i64)]),(123,[.one (.row 0),.one (.row 0)]),(124,[.agg [.int .i64,.int .i64,.row 2,.row 2],.one (.row 2)]),(125,[.agg [.int .i64,.int .i64,.row 2,.row 2],.one (.row 0)]),(126,[.agg [.int .i64,.int .i64,.row 2,.row 2],.one (.row 2)]),
 (127,[.one (.row 0),.one (.row 0)]),(128,[.agg [.int .i64,.int .i64,.row 2,.row 2],.agg [.row 0],.one (.row 2)]),(129,[.agg [.int .i64,.int .i64,.row 2,.row 2],.agg [.row 0]]),(130,[.agg [.row 0],.one (.row 0)]),(131,[.one (.int .i64)]),(132,[.agg [.int .i64,.int .i64,.row 2,.row 2]]),
 (133,[.one (.any),.agg [.int .i64,.int .i64,.row 2,.row 2]]),(136,[.one (.any)]),(138,[.agg [.int .i64,.int .i64,.row 2,.row 2],.agg [.row 0],.one (.row 0)]),(139,[.one (.row 0)]),(140,[.one (.int .i64),.one (.int .i64),.one (.int .i64)]),(142,[.one (.row 0),.one (.int .i64)]),
 (143,[.one (.row 0),.one (.any)]),(144,[.one (.row 0),.one (.int .i64)]),(145,[.agg [.int .i64,.int .i64,.row 2,.row 2],.one (.row 0)]),(146,[.agg [.int .i64,.int .i64,.row 2,.row 2],.agg [.row 2,.row 2],.one (.row 0)]),(149,[.one (.int .i64),.one (.row 2),.one (.row 0)]),(150,[.one (.int .i64)]),
 (151,[.one (.any),.one (.int .i64),.one (.int .i64),.one (.int .i64)]),(152,[.one (.int .i64)]),(154,[.one (.row 0),.one (.any)]),(155,[.one (.row 2)]),(156,[.agg [.int .i64,.int .i64,.row 2,.row 2],.agg [.row 0],.one (.row 0)]),(157,[.agg [.int .i64,.int .i64,.row 2,.row 2],.one (.row 0)]),
 (158,[.agg [.int .i64,.int .i64,.row 2,.row 2],.one (.row 0),.one (.row 0),.one (.row 0)]),(159,[.agg [.int .i64,.int .i64,.row 2,.row 2],.agg [.row 0],.one (.row 2)]),(160,[.agg [.int .i64,.int .i64,.row 2,.row 2],.one (.row 0)]),(161,[.agg [.int .i64,.int .i64,.row 2,.row 2],.one (.row 0),.one (.row 0),.one (.row 0)]),(162,[.agg [.int .i64,.int .i64,.row 2,.row 2],.agg [.row 0],.one (.int .i64),.one (.int .i64)]),(163,[.one (.row 0),.one (.int .i64)]),
 (164,[.one (.row 0)]),(165,[.agg [.row 0],.one (.int .i64)]),(166,[.one (.row 2)]),(167,[.one (.row 0)]),(168,[.one (.row 0),.one (.any)]),(169,[.one (.row 0)]),
 (170,[.one (.row 0)]),(171,[.one (.row 0),.one (.any)]),(172,[.one (.int .i64)]),(173,[.agg [.row 0],.one (.int .i64)]),(174,[.one (.int .i64)]),(175,[.one (.int .i64)]),
 (176,[.one (.any),.agg [.int .i64,.int .i64,.row 2,.row 2],.one (.int .i64)]),(177,[.one (.any),.one (.row 0)]),(178,[.one (.int .i64)]),(179,[.agg [.int .i64,.int .i64,.row 2,.row 2],.one (.row 0)]),(180,[.one (.row 0)]),(181,[.agg [.row 0],.one (.row 0)]),
 (182,[.one (.row 0),.one (.row 0),.one (.row 0)]),(183,[.agg [.int .i64,.int .i64,.row 2,.row 2],.agg [.row 0]]),(184,[.agg [.int .i64,.int .i64,.row 2,.row 2],.one (.int .i64)]),(185,[.agg [.int .i64,.int .i64,.row 2,.row 2]]),(186,[.one (.row 0),.one (.row 0)]),(187,[.one (.int .i64),.one (.int .i64),.one (.row 2),.one (.int .i64)]),
 (188,[.agg [.int .i64,.int .i64,.row 2,.row 2],.agg [.row 0]]),(190,[.one (.any),.one (.int .i64),.one (.int .i64)]),(192,[.one (.row 0),.one (.int .i64)]),(193,[.one (.row 0),.one (.int .i64),.one (.int .i64)]),(194,[.agg [.int .i64,.int .i64,.row 2,.row 2],.one (.row 2),.one (.row 0)]),(195,[.agg [.int .i64,.int .i64,.row 2,.row 2],.one (.int .i64)]),
 (196,[.one (.int .i64),.one (.int .i64),.one (.row 2)]),(197,[.one (.row 0),.one (.row 0),.one (.row 0)]),(198,[.agg [.int .i64,.int .i64,.row 2,.row 2],.agg [.row 2,.row 2]]),(199,[.agg [.int .i64,.int .i64,.row 2,.row 2],.one (.row 0)]),(200,[.agg [.int .i64,.int .i64,.row 2,.row 2],.agg [.row 0],.one (.row 0)]),(202,[.agg [.int .i64,.int .i64,.row 2,.row 2],.agg [.row 0],.one (.int .i64)]),
 (204,[.one (.int .i64)]),(205,[.one (.int .i64)]),(206,[.one (.int .i64)]),(208,[.agg [.row 0]]),(209,[.one (.int .u64),.one (.int .u64)]),(210,[.one (.row 0)]),
 (213,[.one (.int .i64),.one (.int .i64),.one (.int .u64),.one (.int .u64)]),(214,[.one (.any),.one (.int .i64),.one (.int .i64),.one (.int .i64)]),(215,[.one (.row 0),.one (.any)]),(216,[.one (.row 2)]),(217,[.one (.row 2)]),(218,[.one (.row 2),.one (.row 2)]),
 (219,[.one (.row 2)]),(220,[.agg [.int .i64,.int .i64,.row 2,.row 2],.one (.int .i64),.one (.row 2)]),(221,[.one (.row 2)]),(222,[.agg [.int .i64,.int .i64,.row 2,.row 2],.one (.row 2),.one (.row 0),.one (.row 0)]),(223,[.agg [.int .i64,.int .i64,.row 2,.row 2],.one (.row 0)]),(224,[.one (.row 0),.one (.row 2)]),
 (225,[.agg [.int .i64,.int .i64,.row 2,.row 2],.one (.int .i64),.one (.row 2)]),(226,[.agg [.int .i64,.int .i64,.row 2,.row 2],.one (.row 2),.one (.row 0),.one (.row 0)]),(227,[.agg [.row 0],.one (.int .i64)]),(228,[.one (.any),.one (.int .i64)]),(229,[.one (.row 0),.one (.row 0)]),(230,[.one (.row 0)]),
 (231,[.agg [.int .i64,.int .i64,.row 2,.row 2],.one (.row 0)]),(232,[.agg [.int .i64,.int .i64,.row 2,.row 2],.one (.row 0)]),(233,[.agg [.int .i64,.int .i64,.row 2,.row 2],.one (.row 0),.one (.int .i64)]),(234,[.one (.int .i64)]),(235,[.one (.int .i64)]),(236,[.one (.row 2),.one (.any)]),
 (237,[.agg [.row 2,.row 2]]),(238,[.agg [.int .i64,.int .i64,.row 2,.row 2],.agg [.row 2,.row 2]]),(239,[.one (.int .i64),.one (.int .i64),.one (.row 2)]),(240,[.one (.row 2)]),(241,[.agg [.int .i64,.int .i64,.row 2,.row 2],.agg [.row 0],.one (.int .i64)]),(242,[.one (.any),.one (.int .i64),.one (.int .i64)]),
 (244,[.one (.int .i64),.one (.row 2),.one (.int .i64),.one (.row 0)]),(245,[.one (.int .i64)]),(246,[.one (.int .i64)]),(247,[.one (.int .i64),.one (.int .i64),.agg [.int .i64,.int .u64]]),(248,[.one (.row 0)]),(249,[.one (.int .i64)]),
 (251,[.one (.int .u64),.one (.int .u64)]),(262,[.one (.int .u64)]),(263,[.one (.int .i64),.one (.int .u64),.one (.int .u64)]),(264,[.one (.int .i64),.one (.int .u64),.one (.int .u64),.one (.bool)]),(265,[.one (.bool)]),(266,[.one (.int .i64),.one (.int .u64)]),
 (267,[.one (.int .i64),.one (.int .u64)]),(268,[.one (.int .i64),.one (.int .i64),.one (.row 2),.one (.row 0)]),(269,[.one (.row 0)]),(270,[.agg [.int .i64,.int .i64,.row 2,.row 2],.one (.row 2),.one (.row 0)]),(271,[.one (.row 2),.one (.row 2)]),(272,[.one (.int .i64),.one (.int .i64),.one (.row 2),.one (.row 0)]),
 (273,[.one (.row 2),.one (.any)]),(274,[.one (.int .i64)]),(275,[.one (.int .i64),.one (.int .i64),.agg [.int .i64,.int .u64]]),(276,[.one (.int .i64)]),(277,[.one (.int .i64),.one (.int .i64),.one (.int .u64),.one (.int .u64)]),(278,[.one (.row 2),.one (.int .i64)]),
 (279,[.one (.int .i64),.one (.int .u64)]),(286,[.one (.int .i64),.one (.int .u64),.one (.int .u64)]),(287,[.one (.int .u64),.one (.int .u64),.one (.int .u64)]),(288,[.one (.row 2)]),(289,[.one (.int .i64),.one (.int .i64),.one (.row 2)]),(290,[.one (.any),.one (.int .i64)]),
 (291,[.one (.int .i64)]),(292,[.one (.int .i64),.one (.int .i64),.one (.row 2)]),(293,[.one (.int .i64),.one (.int .i64),.one (.row 2)]),(294,[.one (.int .i64),.one (.int .u64)]),(295,[.one (.int .i64),.one (.int .u64),.one (.int .u64)]),(296,[.one (.int .i64),.one (.int .u64),.one (.int .u64),.one (.bool)]),
 (297,[.one (.bool)]),(298,[.one (.int .i64),.one (.int .u64)]),(300,[.one (.int .u64)]),(301,[.one (.int .i64),.one (.int .u64),.one (.int .u64)])]
def tOwn:List (Nat × List (Nat × List (Option Nat × Nat × Et × Nat))):=[(32,[(0,[(some 1,1,0,0),(some 1,3,0,0)])]),(72,[(0,[(none,7,24,0)])]),(79,[(0,[(some 1,0,0,0)])]),
 (80,[(0,[(none,5,3,0),(some 0,0,0,0)])]),(83,[(0,[(some 1,0,0,0)])]),(86,[(0,[(none,7,⟨28,some ⟨0,3,0,0,none⟩⟩,0)])]),
 (89,[(0,[(none,7,28,0)]),(2,[(none,11,3,0)])]),(96,[(0,[(some 1,1,0,0),(some 1,3,0,0),(some 2,1,0,0)])]),(99,[(0,[(some 1,0,0,0)])]),
 (101,[(2,[(none,7,3,0)])]),(118,[(0,[(some 1,2,0,2),(some 1,3,0,2)])]),(121,[(0,[(none,7,3,0)])]),
 (124,[(0,[(none,5,3,0)])]),(125,[(0,[(none,5,3,0)])]),(138,[(1000011,[(some 0,0,⟨0,some ⟨0,0,0,0,none⟩⟩,0)])]),
 (156,[(1000002,[(none,8,⟨0,some ⟨0,0,0,0,none⟩⟩,0)])]),(160,[(0,[(none,5,24,0)])]),(162,[(0,[(none,9,3,0)])]),
 (164,[(0,[(some 0,0,3,0),(some 1,0,3,0)])]),(179,[(0,[(some 1,0,0,0)])]),(181,[(0,[(none,5,3,0)])]),
 (183,[(0,[(none,5,28,0)])]),(184,[(0,[(none,6,3,0)])]),(190,[(0,[(some 1,2,0,2),(some 1,3,0,2),(some 2,3,⟨136,some ⟨1,138,2,0,none⟩⟩,2)])]),
 (195,[(0,[(none,5,76,0)])]),(196,[(0,[(none,7,3,0)])]),(223,[(0,[(some 1,0,0,0)])]),
 (225,[(0,[(none,8,24,0)])]),(227,[(0,[(none,5,3,0)])]),(231,[(0,[(none,5,3,0)])]),
 (242,[(0,[(some 1,0,0,2),(some 1,1,0,2),(some 2,1,138,2)])]),(272,[(2,[(none,12,133,2)])])]
def tCut:List (Nat × List (Nat × List Nat)):=[(138,[(11,[7,8,9])]),(156,[(2,[8])])]
def v5k:List (Nat × Kd):=[(25,⟨1,138,2,0,none⟩),(106,⟨0,3,0,0,none⟩)]
def x3g:List (Nat × Nat):=[(147,1),(148,2)]
theorem w9:∀ g n,(g,n)∈x3g->SortOK Tryz.prog n g:=by
 intro g n h;simp only [x3g,List.mem_cons,Prod.mk.injEq,List.not_mem_nil,or_false] at h;rcases h with ⟨rfl,rfl⟩ | ⟨rfl,rfl⟩
 · exact w89
 · exact w5o
def tAo:List (Nat × List (Option (Et × Nat))):=[(171,[some (3,0),none]),(192,[some (3,0),none]),(224,[some (24,0),none])]
def tRo:List (Nat × Unit):=[(132064,()),(132143,()),(156154,()),(156215,()),(170168,()),(173143,()),(173171,()),(175143,()),(175171,()),(176064,()),(176143,()),(205143,()),
 (205171,()),(206064,()),(206143,()),(207143,()),(218154,()),(218215,()),(222215,()),(250143,()),(292064,()),(292143,())]
def tExt:List (Nat × Nat):=[]
theorem v4z:∀ g n,(g,n)∈tExt->ExtOK Tryz.prog n g:=by
 intro g n h;simp [tExt] at h
def tN1:List (Nat × Unit):=[(86,())]
noncomputable def E:Env:={ tabs.env v5j tRk tBk v3x tCt tAk tOwn tCut v5k x3g tAo tExt tRo with n1s:=fun f=>(lk tN1 f).isSome }
theorem z3k:EnvOK Tryz.prog E:=(Tabs.sound (by kernel_rfl) w9 v4z).ones _
noncomputable def pTab:List (Nat × Func):=[(8,Tryz.f8),(9,Tryz.f9),(15,Tryz.f15),(30,Tryz.f30),(31,Tryz.f31),(32,Tryz.f32),(35,Tryz.f35),(49,Tryz.f49),(50,Tryz.f50),(51,Tryz.f51),(52,Tryz.f52),(53,Tryz.f53),
 (54,Tryz.f54),(56,Tryz.f56),(57,Tryz.f57),(64,Tryz.f64),(67,Tryz.f67),(68,Tryz.f68),(69,Tryz.f69),(70,Tryz.f70),(72,Tryz.f72),(74,Tryz.f74),(75,Tryz.f75),(76,Tryz.f76),
 (77,Tryz.f77),(79,Tryz.f79),(80,Tryz.f80),(81,Tryz.f81),(83,Tryz.f83),(84,Tryz.f84),(85,Tryz.f85),(86,Tryz.f86),(88,Tryz.f88),(89,Tryz.f89),(91,Tryz.f91),(93,Tryz.f93),
 (94,Tryz.f94),(95,Tryz.f95),(96,Tryz.f96),(97,Tryz.f97),(98,Tryz.f98),(99,Tryz.f99),(100,Tryz.f100),(101,Tryz.f101),(102,Tryz.f102),(103,Tryz.f103),(104,Tryz.f104),(105,Tryz.f105),
 (107,Tryz.f107),(108,Tryz.f108),(109,Tryz.f109),(110,Tryz.f110),(111,Tryz.f111),(118,Tryz.f118),(120,Tryz.f120),(121,Tryz.f121),(123,Tryz.f123),(124,Tryz.f124),(125,Tryz.f125),(126,Tryz.f126),
 (127,Tryz.f127),(128,Tryz.f128),(129,Tryz.f129),(130,Tryz.f130),(131,Tryz.f131),(132,Tryz.f132),(133,Tryz.f133),(136,Tryz.f136),(138,Tryz.f138),(139,Tryz.f139),(140,Tryz.f140),(142,Tryz.f142),
 (143,Tryz.f143),(144,Tryz.f144),(145,Tryz.f145),(146,Tryz.f146),(149,Tryz.f149),(150,Tryz.f150),(151,Tryz.f151),(152,Tryz.f152),(154,Tryz.f154),(155,Tryz.f155),(156,Tryz.f156),(157,Tryz.f157),
 (158,Tryz.f158),(159,Tryz.f159),(160,Tryz.f160),(161,Tryz.f161),(162,Tryz.f162),(163,Tryz.f163),(164,Tryz.f164),(165,Tryz.f165),(166,Tryz.f166),(167,Tryz.f167),(168,Tryz.f168),(169,Tryz.f169),
 (170,Tryz.f170),(171,Tryz.f171),(172,Tryz.f172),(173,Tryz.f173),(174,Tryz.f174),(175,Tryz.f175),(176,Tryz.f176),(177,Tryz.f177),(178,Tryz.f178),(179,Tryz.f179),(180,Tryz.f180),(181,Tryz.f181),
 (182,Tryz.f182),(183,Tryz.f183),(184,Tryz.f184),(185,Tryz.f185),(186,Tryz.f186),(187,Tryz.f187),(188,Tryz.f188),(190,Tryz.f190),(192,Tryz.f192),(193,Tryz.f193),(194,Tryz.f194),(195,Tryz.f195),
 (196,Tryz.f196),(197,Tryz.f197),(198,Tryz.f198),(199,Tryz.f199),(200,Tryz.f200),(202,Tryz.f202),(204,Tryz.f204),(205,Tryz.f205),(206,Tryz.f206),(208,Tryz.f208),(209,Tryz.f209),(210,Tryz.f210),
 (213,Tryz.f213),(214,Tryz.f214),(215,Tryz.f215),(216,Tryz.f216),(217,Tryz.f217),(218,Tryz.f218),(219,Tryz.f219),(220,Tryz.f220),(221,Tryz.f221),(222,Tryz.f222),(223,Tryz.f223),(224,Tryz.f224),
 (225,Tryz.f225),(226,Tryz.f226),(227,Tryz.f227),(228,Tryz.f228),(229,Tryz.f229),(230,Tryz.f230),(231,Tryz.f231),(232,Tryz.f232),(233,Tryz.f233),(234,Tryz.f234),(235,Tryz.f235),(236,Tryz.f236),
 (237,Tryz.f237),(238,Tryz.f238),(239,Tryz.f239),(240,Tryz.f240),(241,Tryz.f241),(242,Tryz.f242),(244,Tryz.f244),(245,Tryz.f245),(246,Tryz.f246),(247,Tryz.f247),(248,Tryz.f248),(249,Tryz.f249),
 (251,Tryz.f251),(262,Tryz.f262),(263,Tryz.f263),(264,Tryz.f264),(265,Tryz.f265),(266,Tryz.f266),(267,Tryz.f267),(268,Tryz.f268),(269,Tryz.f269),(270,Tryz.f270),(271,Tryz.f271),(272,Tryz.f272),
 (273,Tryz.f273),(274,Tryz.f274),(275,Tryz.f275),(276,Tryz.f276),(277,Tryz.f277),(278,Tryz.f278),(279,Tryz.f279),(286,Tryz.f286),(287,Tryz.f287),(288,Tryz.f288),(289,Tryz.f289),(290,Tryz.f290),
 (291,Tryz.f291),(292,Tryz.f292),(293,Tryz.f293),(294,Tryz.f294),(295,Tryz.f295),(296,Tryz.f296),(297,Tryz.f297),(298,Tryz.f298),(300,Tryz.f300),(301,Tryz.f301)]
noncomputable def P:FuncId->Option Func:=lk pTab
theorem pOK:PfOK Tryz.prog P:=w6i (tab:=pTab)
 (q0a Tryz.func8 (q0a Tryz.func9 (q0a Tryz.func15 (q0a Tryz.func30 (q0a Tryz.func31 (q0a Tryz.func32 (q0a Tryz.func35 (q0a Tryz.func49 
 (q0a Tryz.func50 (q0a Tryz.func51 (q0a Tryz.func52 (q0a Tryz.func53 (q0a Tryz.func54 (q0a Tryz.func56 (q0a Tryz.func57 (q0a Tryz.func64 
 (q0a Tryz.func67 (q0a Tryz.func68 (q0a Tryz.func69 (q0a Tryz.func70 (q0a Tryz.func72 (q0a Tryz.func74 (q0a Tryz.func75 (q0a Tryz.func76 
 (q0a Tryz.func77 (q0a Tryz.func79 (q0a Tryz.func80 (q0a Tryz.func81 (q0a Tryz.func83 (q0a Tryz.func84 (q0a Tryz.func85 (q0a Tryz.func86 
 (q0a Tryz.func88 (q0a Tryz.func89 (q0a Tryz.func91 (q0a Tryz.func93 (q0a Tryz.func94 (q0a Tryz.func95 (q0a Tryz.func96 (q0a Tryz.func97 
 (q0a Tryz.func98 (q0a Tryz.func99 (q0a Tryz.func100 (q0a Tryz.func101 (q0a Tryz.func102 (q0a Tryz.func103 (q0a Tryz.func104 (q0a Tryz.func105 
 (q0a Tryz.func107 (q0a Tryz.func108 (q0a Tryz.func109 (q0a Tryz.func110 (q0a Tryz.func111 (q0a Tryz.func118 (q0a Tryz.func120 (q0a Tryz.func121 
 (q0a Tryz.func123 (q0a Tryz.func124 (q0a Tryz.func125 (q0a Tryz.func126 (q0a Tryz.func127 (q0a Tryz.func128 (q0a Tryz.func129 (q0a Tryz.func130 
 (q0a Tryz.func131 (q0a Tryz.func132 (q0a Tryz.func133 (q0a Tryz.func136 (q0a Tryz.func138 (q0a Tryz.func139 (q0a Tryz.func140 (q0a Tryz.func142 
 (q0a Tryz.func143 (q0a Tryz.func144 (q0a Tryz.func145 (q0a Tryz.func146 (q0a Tryz.func149 (q0a Tryz.func150 (q0a Tryz.func151 (q0a Tryz.func152 
 (q0a Tryz.func154 (q0a Tryz.func155 (q0a Tryz.func156 (q0a Tryz.func157 (q0a Tryz.func158 (q0a Tryz.func159 (q0a Tryz.func160 (q0a Tryz.func161 
 (q0a Tryz.func162 (q0a Tryz.func163 (q0a Tryz.func164 (q0a Tryz.func165 (q0a Tryz.func166 (q0a Tryz.func167 (q0a Tryz.func168 (q0a Tryz.func169 
 (q0a Tryz.func170 (q0a Tryz.func171 (q0a Tryz.func172 (q0a Tryz.func173 (q0a Tryz.func174 (q0a Tryz.func175 (q0a Tryz.func176 (q0a Tryz.func177 
 (q0a Tryz.func178 (q0a Tryz.func179 (q0a Tryz.func180 (q0a Tryz.func181 (q0a Tryz.func182 (q0a Tryz.func183 (q0a Tryz.func184 (q0a Tryz.func185 
 (q0a Tryz.func186 (q0a Tryz.func187 (q0a Tryz.func188 (q0a Tryz.func190 (q0a Tryz.func192 (q0a Tryz.func193 (q0a Tryz.func194 (q0a Tryz.func195 
 (q0a Tryz.func196 (q0a Tryz.func197 (q0a Tryz.func198 (q0a Tryz.func199 (q0a Tryz.func200 (q0a Tryz.func202 (q0a Tryz.func204 (q0a Tryz.func205 
 (q0a Tryz.func206 (q0a Tryz.func208 (q0a Tryz.func209 (q0a Tryz.func210 (q0a Tryz.func213 (q0a Tryz.func214 (q0a Tryz.func215 (q0a Tryz.func216 
 (q0a Tryz.func217 (q0a Tryz.func218 (q0a Tryz.func219 (q0a Tryz.func220 (q0a Tryz.func221 (q0a Tryz.func222 (q0a Tryz.func223 (q0a Tryz.func224 
 (q0a Tryz.func225 (q0a Tryz.func226 (q0a Tryz.func227 (q0a Tryz.func228 (q0a Tryz.func229 (q0a Tryz.func230 (q0a Tryz.func231 (q0a Tryz.func232 
 (q0a Tryz.func233 (q0a Tryz.func234 (q0a Tryz.func235 (q0a Tryz.func236 (q0a Tryz.func237 (q0a Tryz.func238 (q0a Tryz.func239 (q0a Tryz.func240 
 (q0a Tryz.func241 (q0a Tryz.func242 (q0a Tryz.func244 (q0a Tryz.func245 (q0a Tryz.func246 (q0a Tryz.func247 (q0a Tryz.func248 (q0a Tryz.func249 
 (q0a Tryz.func251 (q0a Tryz.func262 (q0a Tryz.func263 (q0a Tryz.func264 (q0a Tryz.func265 (q0a Tryz.func266 (q0a Tryz.func267 (q0a Tryz.func268 
 (q0a Tryz.func269 (q0a Tryz.func270 (q0a Tryz.func271 (q0a Tryz.func272 (q0a Tryz.func273 (q0a Tryz.func274 (q0a Tryz.func275 (q0a Tryz.func276 
 (q0a Tryz.func277 (q0a Tryz.func278 (q0a Tryz.func279 (q0a Tryz.func286 (q0a Tryz.func287 (q0a Tryz.func288 (q0a Tryz.func289 (q0a Tryz.func290 
 (q0a Tryz.func291 (q0a Tryz.func292 (q0a Tryz.func293 (q0a Tryz.func294 (q0a Tryz.func295 (q0a Tryz.func296 (q0a Tryz.func297 (q0a Tryz.func298 
 (q0a Tryz.func300 (q0a Tryz.func301 w4a))))))))))))))))))))))))))))))))))))))))))))))))))))))))))))))))))))))))))))))))))))))))))))))))))))))))))))))))))))))))))))))))))))))))))))))))))))))))))))))))))))))))))))))))))))))))))))))))))))))))))
 (by kernel_rfl)
theorem v4w (xs:List PV) (h1:xs.length*8<=LIM) (h2:xs.length<=LIM):evF P E (fun _ _ _=>none) 2 139 [.s (.c (.p (.row 0 3 xs)))] []=some ([.c (.own 3 0 xs)],[]):=by
 have e:evF P E (fun _ _ _=>none) 2 139 [.s (.c (.p (.row 0 3 xs)))] []=bif decide ((0+xs.length)*8<=LIM)&&decide (0+xs.length<=LIM) then some ([.c (.own 3 0 (([]++xs).take (0+xs.length)))],[]) else none:=by kernel_rfl
 rw [e];simp [h1,h2]
theorem v4x (xs:List PV) (h1:xs.length*8<=LIM) (h2:xs.length<=LIM):evF P E (fun _ _ _=>none) 2 210 [.s (.c (.p (.row 0 3 xs)))] []=some ([.c (.own 76 0 xs)],[]):=by
 have e:evF P E (fun _ _ _=>none) 2 210 [.s (.c (.p (.row 0 3 xs)))] []=bif decide ((0+xs.length)*8<=LIM)&&decide (0+xs.length<=LIM) then some ([.c (.own 76 0 (([]++xs).take (0+xs.length)))],[]) else none:=by kernel_rfl
 rw [e];simp [h1,h2]
theorem v4y (xs:List PV) (h1:xs.length*16<=LIM) (h2:xs.length<=LIM):evF P E (fun _ _ _=>none) 2 219 [.s (.c (.p (.row 2 3 xs)))] []=some ([.c (.own 133 2 xs)],[]):=by
 have e:evF P E (fun _ _ _=>none) 2 219 [.s (.c (.p (.row 2 3 xs)))] []=bif decide ((0+xs.length)*16<=LIM)&&decide (0+xs.length<=LIM) then some ([.c (.own 133 2 (([]++xs).take (0+xs.length)))],[]) else none:=by kernel_rfl
 rw [e];simp [h1,h2]
def q5x:List (Nat × (Nat × Nat × Nat)):=[(139,(3,0,8)),(210,(76,0,8)),(219,(133,2,16))]
theorem hT0:∀ f args bs r,cloneT q5x f args bs=some r->Contract Tryz.prog f args bs r:=by
 refine w0o fun f e sh by_ hm xs h1 h2=>?_
 have h0:∀ f args bs r,(fun (_:FuncId) (_:List AV) (_:List (List CV))=>(none:R)) f args bs=some r->Contract Tryz.prog f args bs r:=fun _ _ _ _ h=>by cases h
 simp only [q5x,List.mem_cons,List.not_mem_nil,or_false,Prod.mk.injEq] at hm;rcases hm with ⟨rfl,rfl,rfl,rfl⟩ | ⟨rfl,rfl,rfl,rfl⟩ | ⟨rfl,rfl,rfl,rfl⟩
 · exact q66 (q4j z3k pOK h0 2 (by kernel_rfl)) (q4j z3k pOK h0 2 (v4w xs h1 h2))
 · exact q66 (q4j z3k pOK h0 2 (by kernel_rfl)) (q4j z3k pOK h0 2 (v4x xs h1 h2))
 · exact q66 (q4j z3k pOK h0 2 (by kernel_rfl)) (q4j z3k pOK h0 2 (v4y xs h1 h2))
def T:FuncId->List AV->List (List CV)->R:=orT numT (cloneT q5x)
theorem hT:∀ f args bs r,T f args bs=some r->Contract Tryz.prog f args bs r:=v2y w6f hT0
noncomputable section
abbrev s0r (l:List PV):AV:=.s (.c (.p (PV.row 0 0 l)))
abbrev s0m (l:List PV):AV:=.s (.c (.p (PV.row 2 0 l)))
abbrev s0i (i:Int):AV:=.s (.c (.p (PV.int .i64 i)))
abbrev s0b (b:Bool):AV:=.s (.c (.p (PV.bool b)))
abbrev s0g (p p1:Int) (p2 p3:List PV):AV:=.s (.c (.p (PV.agg [.int .i64 p,.int .i64 p1,.row 2 0 p2,.row 2 0 p3])))
abbrev s0a (l:List PV):AV:=.s (.c (.p (PV.agg [.row 0 0 l])))
abbrev s0z (i n:Nat):AV:=.s (.c (.loc i 0 0 0 n))
abbrev s0p (n:Nat):AV:=.s (.c (.bptr n 0))
abbrev e0F (k f:Nat) (a:List AV):R:=evF P E T k f a []
abbrev e0L (k f:Nat) (p fs:List Nat) (n:Nat) (s:St):R:=q1a P E T k f f [] p fs n s
abbrev p0n (i:Int):CV:=.p (PV.int .i64 i)
abbrev p0r (l:List PV):CV:=.p (PV.row 0 0 l)
abbrev p0m (l:List PV):CV:=.p (PV.row 2 0 l)
abbrev b0g (p p1:Int) (p2 p3:List PV):AObj:=.box [.p (PV.int .i64 p),.p (PV.int .i64 p1),.p (PV.row 2 0 p2),.p (PV.row 2 0 p3)]
def c8 (k:Nat) (a b:List PV):R:=e0F k 8 [s0r a,s0r b]
def r8 (b:Bool):R:=some ([.c (.p (PV.bool b))],[])
def c9 (k:Nat) (a b:List PV):R:=e0F k 9 [s0r a,s0r b]
def r9 (b:Bool):R:=some ([.c (.p (PV.bool b))],[])
def R9 (x0:R) (K0:Bool->R):R:=x0.bind fun q0=>bif q0y q0.2 []&&q02 q0.1 [.c (.p (.bool))] then (q3d (q01 q0.1 0)).bind fun b=>K0 b else none
@[simp] theorem R9_r b K0:R9 (r9 b) K0=K0 b:=by kernel_rfl
def c15 (k:Nat) (a b:List PV):R:=e0F k 15 [s0r a,s0r b]
def r15 (b:Bool):R:=some ([.c (.p (PV.bool b))],[])
def R15:=R9
@[simp] theorem w4u b K0:R15 (r15 b) K0=K0 b:=by kernel_rfl
def y9r (k n:Nat) (a b:List PV) (c d:Int):R:=e0L k 15 [1,1,0,1,0] [] n ⟨mkT 26 [(0,s0r a),(1,s0r b),(12,s0i c),(13,s0i d)],[]⟩
def c30 (k:Nat) (a:List PV):R:=e0F k 30 [s0r a]
def r30 (qr qr1:Int) (l l1 l2 l3:List PV) (qr2:Int):R:=some ([.agg [.p (PV.int .i64 qr),.p (PV.int .i64 qr1),.p (PV.row 2 0 l),.p (PV.row 2 0 l1)],.c (.p (PV.row 0 0 l2)),.c (.p (PV.row 2 0 l3)),.c (.p (PV.int .i64 qr2))],[])
def R30 (x0:R) (K0:Int->Int->List PV->List PV->List PV->List PV->Int->R):R:=x0.bind fun q0=>bif q0y q0.2 []&&q02 q0.1 [.agg [.p (.int .i64),.p (.int .i64),.p (.row 2),.p (.row 2)],.c (.p (.row 0)),.c (.p (.row 2)),.c (.p (.int .i64))] then (cInt (Dp.partAt q0.1 0 0) .i64).bind fun qr=>(cInt (Dp.partAt q0.1 0 1) .i64).bind fun qr1=>(cRow (Dp.partAt q0.1 0 2) 2).bind fun l=>(cRow (Dp.partAt q0.1 0 3) 2).bind fun l1=>(cRow (q01 q0.1 1) 0).bind fun l2=>(cRow (q01 q0.1 2) 2).bind fun l3=>(cInt (q01 q0.1 3) .i64).bind fun qr2=>K0 qr qr1 l l1 l2 l3 qr2 else none
@[simp] theorem v4d qr qr1 l l1 l2 l3 qr2 K0:R30 (r30 qr qr1 l l1 l2 l3 qr2) K0=K0 qr qr1 l l1 l2 l3 qr2:=by kernel_rfl
def c31 (k:Nat) (p d:Int) (e f b c:List PV) (a:Int):R:=e0F k 31 [s0g p d e f,s0r b,s0m c,s0i a]
def r31 (qr:Int) (l:List PV) (qr1:Int) (l1:List PV) (b:Bool):R:=some ([.agg [.p (PV.int .i64 qr),.p (PV.row 0 0 l),.p (PV.int .i64 qr1),.p (PV.row 0 0 l1)],.c (.p (PV.bool b))],[])
def R31 (x0:R) (K0:Int->List PV->Int->List PV->Bool->R):R:=x0.bind fun q0=>bif q0y q0.2 []&&q02 q0.1 [.agg [.p (.int .i64),.p (.row 0),.p (.int .i64),.p (.row 0)],.c (.p (.bool))] then (cInt (Dp.partAt q0.1 0 0) .i64).bind fun qr=>(cRow (Dp.partAt q0.1 0 1) 0).bind fun l=>(cInt (Dp.partAt q0.1 0 2) .i64).bind fun qr1=>(cRow (Dp.partAt q0.1 0 3) 0).bind fun l1=>(q3d (q01 q0.1 1)).bind fun b=>K0 qr l qr1 l1 b else none
@[simp] theorem w4y qr l qr1 l1 b K0:R31 (r31 qr l qr1 l1 b) K0=K0 qr l qr1 l1 b:=by kernel_rfl
def c32 (k:Nat) (p d:Int) (e f b c:List PV) (a:Int):R:=e0F k 32 [s0g p d e f,s0r b,s0m c,s0i a]
def r32 (qr:Int) (l:List PV) (qr1:Int) (l1:List PV) (b:Bool):R:=some ([.agg [.p (PV.int .i64 qr),.p (PV.row 0 0 l),.p (PV.int .i64 qr1),.p (PV.row 0 0 l1)],.c (.p (PV.bool b))],[])
def R32:=R31
@[simp] theorem v4e qr l qr1 l1 b K0:R32 (r32 qr l qr1 l1 b) K0=K0 qr l qr1 l1 b:=by kernel_rfl
def x7f (k n:Nat) (c e:List PV) (a b o f:Int) (l i:List PV) (g:Int) (j:List PV) (h:Int) (m:List PV) (d:Nat) (p:List PV):R:=e0L k 32 [1,1,1,0,1,0] [] n ⟨mkT 72 [(1,s0r c),(2,s0m e),(3,s0i a),(4,s0p 0),(8,s0p 1),(10,s0p 2),(11,s0i b)],[b0g o f l i,.box [p0n g,p0r j,p0n h,p0r m],.box [.loc 3 0 0 0 d],.arr 3 0 0 false p]⟩
def z26 (k n:Nat) (c d:List PV) (a b o e:Int) (l h:List PV) (f:Int) (i:List PV) (g:Int) (j m:List PV):R:=e0L k 32 [1,1,1,0,1,0] [] n ⟨mkT 72 [(1,s0r c),(2,s0m d),(3,s0i a),(4,s0p 0),(8,s0p 1),(10,s0p 2),(11,s0i b)],[b0g o e l h,.box [p0n f,p0r i,p0n g,p0r j],.box [p0r m]]⟩
def c35 (k:Nat) (a:Int) (d:List PV) (e:Int) (f:List PV) (b:Int) (g:List PV) (h:Int) (i:List PV):R:=e0F k 35 [.s (.c (.p (PV.agg [.int .i64 a,.row 0 0 d,.int .i64 e,.row 0 0 f]))),.s (.c (.p (PV.agg [.int .i64 b,.row 0 0 g,.int .i64 h,.row 0 0 i])))]
def r35 (b:Bool):R:=some ([.c (.p (PV.bool b))],[])
def R35:=R9
@[simp] theorem w4z b K0:R35 (r35 b) K0=K0 b:=by kernel_rfl
def c49 (k:Nat) (b:List PV):R:=e0F k 49 [s0r b]
def r49 (qr:Int):R:=some ([.c (.p (PV.int .i64 qr))],[])
def R49 (x0:R) (K0:Int->R):R:=x0.bind fun q0=>bif q0y q0.2 []&&q02 q0.1 [.c (.p (.int .i64))] then (cInt (q01 q0.1 0) .i64).bind fun qr=>K0 qr else none
@[simp] theorem v4f qr K0:R49 (r49 qr) K0=K0 qr:=by kernel_rfl
def y9s (k n:Nat) (a:Int) (b:List PV) (c d:Int):R:=e0L k 49 [1,1,0,1,0] [] n ⟨mkT 20 [(3,s0i a),(6,s0r b),(7,s0i c),(8,s0i d)],[]⟩
def c50 (k:Nat) (a:List PV):R:=e0F k 50 [s0r a]
def r50 (qr qr1:Int) (l l1 l2 l3:List PV):R:=some ([.agg [.p (PV.int .i64 qr),.p (PV.int .i64 qr1),.p (PV.row 2 0 l),.p (PV.row 2 0 l1)],.agg [.p (PV.row 0 0 l2)],.c (.p (PV.row 2 0 l3))],[])
def R50 (x0:R) (K0:Int->Int->List PV->List PV->List PV->List PV->R):R:=x0.bind fun q0=>bif q0y q0.2 []&&q02 q0.1 [.agg [.p (.int .i64),.p (.int .i64),.p (.row 2),.p (.row 2)],.agg [.p (.row 0)],.c (.p (.row 2))] then (cInt (Dp.partAt q0.1 0 0) .i64).bind fun qr=>(cInt (Dp.partAt q0.1 0 1) .i64).bind fun qr1=>(cRow (Dp.partAt q0.1 0 2) 2).bind fun l=>(cRow (Dp.partAt q0.1 0 3) 2).bind fun l1=>(cRow (Dp.partAt q0.1 1 0) 0).bind fun l2=>(cRow (q01 q0.1 2) 2).bind fun l3=>K0 qr qr1 l l1 l2 l3 else none
@[simp] theorem v4g qr qr1 l l1 l2 l3 K0:R50 (r50 qr qr1 l l1 l2 l3) K0=K0 qr qr1 l l1 l2 l3:=by kernel_rfl
def c51 (k:Nat) (p b:Int) (c d v a:List PV):R:=e0F k 51 [s0g p b c d,s0a v,s0m a]
def r51 (l:List PV) (b:Bool):R:=some ([.c (.p (PV.row 0 0 l)),.c (.p (PV.bool b))],[])
def R51 (x0:R) (K0:List PV->Bool->R):R:=x0.bind fun q0=>bif q0y q0.2 []&&q02 q0.1 [.c (.p (.row 0)),.c (.p (.bool))] then (cRow (q01 q0.1 0) 0).bind fun l=>(q3d (q01 q0.1 1)).bind fun b=>K0 l b else none
@[simp] theorem v4h l b K0:R51 (r51 l b) K0=K0 l b:=by kernel_rfl
def c52 (k:Nat) (p b:Int) (c d v a:List PV):R:=e0F k 52 [s0g p b c d,s0a v,s0m a]
def r52 (l:List PV) (b:Bool):R:=some ([.c (.p (PV.row 0 0 l)),.c (.p (PV.bool b))],[])
def R52:=R51
@[simp] theorem v4i l b K0:R52 (r52 l b) K0=K0 l b:=by kernel_rfl
def c53 (k:Nat) (p b:Int) (c d v a:List PV):R:=e0F k 53 [s0g p b c d,s0a v,s0m a]
def r53 (b b1:Bool):R:=some ([.c (.p (PV.bool b)),.c (.p (PV.bool b1))],[])
def R53 (x0:R) (K0:Bool->Bool->R):R:=x0.bind fun q0=>bif q0y q0.2 []&&q02 q0.1 [.c (.p (.bool)),.c (.p (.bool))] then (q3d (q01 q0.1 0)).bind fun b=>(q3d (q01 q0.1 1)).bind fun b1=>K0 b b1 else none
@[simp] theorem v4j b b1 K0:R53 (r53 b b1) K0=K0 b b1:=by kernel_rfl
def c54 (k:Nat) (l:List PV) (b a:Int):R:=evF P E T k 54 [s0p 0] [[p0r l,p0n b,.p (PV.int .u64 a)]]
def r54 (l:List PV) (qr qr1 qr2 qr3:Int) (l1 l2 l3:List PV):R:=some ([.agg [.p (PV.int .i64 qr2),.p (PV.int .i64 qr3),.p (PV.row 2 0 l1),.p (PV.row 2 0 l2)],.agg [.p (PV.row 0 0 l3)]],[[.p (PV.row 0 0 l),.p (PV.int .i64 qr),.p (PV.int .u64 qr1)]])
def R54 (x0:R) (K0:List PV->Int->Int->Int->Int->List PV->List PV->List PV->R):R:=x0.bind fun q0=>bif q0y q0.2 [[.p (.row 0),.p (.int .i64),.p (.int .u64)]]&&q02 q0.1 [.agg [.p (.int .i64),.p (.int .i64),.p (.row 2),.p (.row 2)],.agg [.p (.row 0)]] then (cRow (q0w q0.2 0 0) 0).bind fun l=>(cInt (q0w q0.2 0 1) .i64).bind fun qr=>(cInt (q0w q0.2 0 2) .u64).bind fun qr1=>(cInt (Dp.partAt q0.1 0 0) .i64).bind fun qr2=>(cInt (Dp.partAt q0.1 0 1) .i64).bind fun qr3=>(cRow (Dp.partAt q0.1 0 2) 2).bind fun l1=>(cRow (Dp.partAt q0.1 0 3) 2).bind fun l2=>(cRow (Dp.partAt q0.1 1 0) 0).bind fun l3=>K0 l qr qr1 qr2 qr3 l1 l2 l3 else none
@[simp] theorem w40 l qr qr1 qr2 qr3 l1 l2 l3 K0:R54 (r54 l qr qr1 qr2 qr3 l1 l2 l3) K0=K0 l qr qr1 qr2 qr3 l1 l2 l3:=by kernel_rfl
def c56 (k:Nat) (c:Int) (l:List PV) (a b:Int):R:=evF P E T k 56 [s0p 0,s0i c] [[p0r l,p0n a,.p (PV.int .u64 b)]]
def r56 (l:List PV) (qr qr1 qr2:Int):R:=some ([.c (.p (PV.int .i64 qr2))],[[.p (PV.row 0 0 l),.p (PV.int .i64 qr),.p (PV.int .u64 qr1)]])
def R56 (x0:R) (K0:List PV->Int->Int->Int->R):R:=x0.bind fun q0=>bif q0y q0.2 [[.p (.row 0),.p (.int .i64),.p (.int .u64)]]&&q02 q0.1 [.c (.p (.int .i64))] then (cRow (q0w q0.2 0 0) 0).bind fun l=>(cInt (q0w q0.2 0 1) .i64).bind fun qr=>(cInt (q0w q0.2 0 2) .u64).bind fun qr1=>(cInt (q01 q0.1 0) .i64).bind fun qr2=>K0 l qr qr1 qr2 else none
@[simp] theorem q2s l qr qr1 qr2 K0:R56 (r56 l qr qr1 qr2) K0=K0 l qr qr1 qr2:=by kernel_rfl
def c57 (k:Nat) (l:List PV):R:=e0F k 57 [s0r l]
def r57 (l:List PV):R:=some ([.c (.own 3 0 l)],[])
def R57 (x0:R) (K0:List PV->R):R:=x0.bind fun q0=>bif q0y q0.2 []&&q02 q0.1 [.c (.own 3 0)] then (q3z 3 0 (q01 q0.1 0)).bind fun l=>K0 l else none
@[simp] theorem v4k l K0:R57 (r57 l) K0=K0 l:=by kernel_rfl
def y5s (k:Nat) (a l:List PV):R:=e0F k 64 [s0r a,.s (.c (.cfn 131 [PV.agg [.row 0 0 l]]))]
def y6f (b:Bool):R:=some ([.c (.p (PV.bool b))],[])
def q4n (x0:R) (K0:Bool->R):R:=x0.bind fun q0=>bif q0.1.all q0z&&q0.2.all (fun cs=>cs.all q1m) then (bif q0y q0.2 []&&q02 q0.1 [.c (.p (.bool))] then (q3d (q01 q0.1 0)).bind fun b=>K0 b else none) else none
@[simp] theorem x7o b K0:q4n (y6f b) K0=K0 b:=by kernel_rfl
def y5u (k:Nat) (b:List PV) (a:Int):R:=evF P E T k 64 [s0r b,.s (.c (.fn 276 [0]))] [[p0n a]]
def y6h (qr:Int) (b:Bool):R:=some ([.c (.p (PV.bool b))],[[.p (PV.int .i64 qr)]])
def x0n (x0:R) (K0:Int->Bool->R):R:=x0.bind fun q0=>bif q0.1.all q0z&&q0.2.all (fun cs=>cs.all q1m) then (bif q0y q0.2 [[.p (.int .i64)]]&&q02 q0.1 [.c (.p (.bool))] then (cInt (q0w q0.2 0 0) .i64).bind fun qr=>(q3d (q01 q0.1 0)).bind fun b=>K0 qr b else none) else none
@[simp] theorem x7r qr b K0:x0n (y6h qr b) K0=K0 qr b:=by kernel_rfl
def z8e (k:Nat) (b l:List PV) (a:Int):R:=e0F k 64 [s0r b,.s (.c (.cfn 205 [PV.agg [.row 0 0 l],PV.agg [.int .i64 a]]))]
def z8w (b:Bool):R:=some ([.c (.p (PV.bool b))],[])
def x0m:=q4n
@[simp] theorem x7q b K0:x0m (z8w b) K0=K0 b:=by kernel_rfl
def y5t (k:Nat) (b l:List PV) (a:Int):R:=e0F k 64 [s0r b,.s (.c (.cfn 175 [PV.agg [.row 0 0 l],PV.agg [.int .i64 a]]))]
def y6g (b:Bool):R:=some ([.c (.p (PV.bool b))],[])
def x0l:=q4n
@[simp] theorem x7p b K0:x0l (y6g b) K0=K0 b:=by kernel_rfl
def y5v (k:Nat) (f:List PV) (e a:Int) (l b d:List PV):R:=e0F k 64 [s0r f,.s (.c (.cfn 291 [PV.agg [.int .i64 e,.int .i64 a,.row 2 0 l,.row 2 0 b],PV.agg [.row 2 0 d]]))]
def y6i (b:Bool):R:=some ([.c (.p (PV.bool b))],[])
def x0o:=q4n
@[simp] theorem x7s b K0:x0o (y6i b) K0=K0 b:=by kernel_rfl
def c67 (k:Nat) (a:List PV) (v:Int):R:=e0F k 67 [s0r a,s0i v]
def r67 (b:Bool):R:=some ([.c (.p (PV.bool b))],[])
def R67:=R9
@[simp] theorem x7t b K0:R67 (r67 b) K0=K0 b:=by kernel_rfl
def c68 (k:Nat) (p b:Int) (c d:List PV) (a:Int):R:=e0F k 68 [s0g p b c d,s0i a]
def r68 (l:List PV):R:=some ([.c (.p (PV.row 0 0 l))],[])
def R68 (x0:R) (K0:List PV->R):R:=x0.bind fun q0=>bif q0y q0.2 []&&q02 q0.1 [.c (.p (.row 0))] then (cRow (q01 q0.1 0) 0).bind fun l=>K0 l else none
@[simp] theorem x7u l K0:R68 (r68 l) K0=K0 l:=by kernel_rfl
def y28 (k n:Nat) (h:Int) (i:List PV) (a:Nat) (c:List PV) (d e g b:Int) (l f j:List PV):R:=e0L k 68 [1,1,0,1,0] [] n ⟨mkT 44 [(1,s0i h),(2,s0p 0),(5,s0r i),(6,s0z 1 a),(14,s0m c),(15,s0i d),(16,s0i e)],[b0g g b l f,.arr 3 0 0 false j]⟩
def c69 (k:Nat) (p a:Int) (b c t d:List PV):R:=e0F k 69 [s0g p a b c,s0m t,s0r d]
def r69 (b:Bool):R:=some ([.c (.p (PV.bool b))],[])
def R69:=R9
@[simp] theorem x7v b K0:R69 (r69 b) K0=K0 b:=by kernel_rfl
def c70 (k:Nat) (p b:Int) (c d:List PV) (a:Int):R:=e0F k 70 [s0g p b c d,s0i a]
def r70 (l:List PV):R:=some ([.c (.p (PV.row 0 0 l))],[])
def R70:=R68
@[simp] theorem y90 l K0:R70 (r70 l) K0=K0 l:=by kernel_rfl
def y9t (k n:Nat) (f:Int) (a:Nat) (g c e b:Int) (l d h:List PV):R:=e0L k 70 [1,1,0,1,0] [] n ⟨mkT 29 [(1,s0i f),(2,s0p 0),(5,s0z 1 a),(9,s0i g),(10,s0i c)],[b0g e b l d,.arr 76 0 0 false h]⟩
def c72 (k:Nat) (p d:Int) (e f:List PV) (a:Int) (l:List PV) (c b:Int):R:=evF P E T k 72 [s0p 0,s0g p d e f,s0i a] [[p0r l,p0n c,.p (PV.int .u64 b)]]
def r72 (l:List PV) (qr qr1:Int) (l1:List PV):R:=some ([.c (.p (PV.row 0 0 l1))],[[.p (PV.row 0 0 l),.p (PV.int .i64 qr),.p (PV.int .u64 qr1)]])
def R72 (x0:R) (K0:List PV->Int->Int->List PV->R):R:=x0.bind fun q0=>bif q0y q0.2 [[.p (.row 0),.p (.int .i64),.p (.int .u64)]]&&q02 q0.1 [.c (.p (.row 0))] then (cRow (q0w q0.2 0 0) 0).bind fun l=>(cInt (q0w q0.2 0 1) .i64).bind fun qr=>(cInt (q0w q0.2 0 2) .u64).bind fun qr1=>(cRow (q01 q0.1 0) 0).bind fun l1=>K0 l qr qr1 l1 else none
@[simp] theorem w41 l qr qr1 l1 K0:R72 (r72 l qr qr1 l1) K0=K0 l qr qr1 l1:=by kernel_rfl
def y9u (k n:Nat) (a:Nat) (h:Int) (l:List PV) (b c d e:Int) (f g i:List PV):R:=q1a P E T k 72 72 [3] [1,1,0,1,0] [] n ⟨mkT 31 [(0,s0p 0),(4,s0p 1),(7,s0z 2 a),(8,s0i h)],[.box [p0r l,p0n b,.p (PV.int .u64 c)],b0g d e f g,.arr 24 0 0 false i]⟩
def c74 (k:Nat) (p c:Int) (d e b:List PV) (a:Int):R:=e0F k 74 [s0g p c d e,s0r b,s0i a]
def r74 (b:Bool):R:=some ([.c (.p (PV.bool b))],[])
def R74:=R9
@[simp] theorem w42 b K0:R74 (r74 b) K0=K0 b:=by kernel_rfl
def c75 (k:Nat) (p c:Int) (d e v a b:List PV):R:=e0F k 75 [s0g p c d e,s0a v,s0r a,s0r b]
def r75 (l:List PV) (qr:Int) (b:Bool):R:=some ([.agg [.p (PV.row 0 0 l)],.c (.p (PV.int .i64 qr)),.c (.p (PV.bool b))],[])
def R75 (x0:R) (K0:List PV->Int->Bool->R):R:=x0.bind fun q0=>bif q0y q0.2 []&&q02 q0.1 [.agg [.p (.row 0)],.c (.p (.int .i64)),.c (.p (.bool))] then (cRow (Dp.partAt q0.1 0 0) 0).bind fun l=>(cInt (q01 q0.1 1) .i64).bind fun qr=>(q3d (q01 q0.1 2)).bind fun b=>K0 l qr b else none
@[simp] theorem v4l l qr b K0:R75 (r75 l qr b) K0=K0 l qr b:=by kernel_rfl
def c76 (k:Nat) (p b:Int) (c d a:List PV):R:=e0F k 76 [s0g p b c d,s0r a]
def r76 (b:Bool):R:=some ([.c (.p (PV.bool b))],[])
def R76:=R9
@[simp] theorem w43 b K0:R76 (r76 b) K0=K0 b:=by kernel_rfl
def y9v (k n:Nat) (b:List PV) (c d f a:Int) (l e:List PV):R:=e0L k 76 [1,1,0,1,0] [] n ⟨mkT 21 [(2,s0p 0),(10,s0r b),(11,s0i c),(12,s0i d)],[b0g f a l e]⟩
def c77 (k:Nat) (p c:Int) (d e v a b:List PV):R:=e0F k 77 [s0g p c d e,s0a v,s0r a,s0r b]
def r77 (l:List PV) (qr:Int):R:=some ([.agg [.p (PV.row 0 0 l)],.c (.p (PV.int .i64 qr))],[])
def R77 (x0:R) (K0:List PV->Int->R):R:=x0.bind fun q0=>bif q0y q0.2 []&&q02 q0.1 [.agg [.p (.row 0)],.c (.p (.int .i64))] then (cRow (Dp.partAt q0.1 0 0) 0).bind fun l=>(cInt (q01 q0.1 1) .i64).bind fun qr=>K0 l qr else none
@[simp] theorem v4m l qr K0:R77 (r77 l qr) K0=K0 l qr:=by kernel_rfl
def c79 (k:Nat) (v a:List PV):R:=e0F k 79 [s0a v,s0r a]
def r79 (l:List PV):R:=some ([.agg [.p (PV.row 0 0 l)]],[])
def R79 (x0:R) (K0:List PV->R):R:=x0.bind fun q0=>bif q0y q0.2 []&&q02 q0.1 [.agg [.p (.row 0)]] then (cRow (Dp.partAt q0.1 0 0) 0).bind fun l=>K0 l else none
def y29 (k n:Nat) (b:List PV) (c d:Int) (l e:List PV) (a:Nat) (f:List PV):R:=e0L k 79 [1,1,0,1,0] [] n ⟨mkT 27 [(2,s0p 0),(4,s0p 1),(5,s0p 2),(13,s0r b),(14,s0i c),(15,s0i d)],[.box [p0r l],.box [p0r e],.box [.loc 3 0 0 0 a],.arr 3 0 0 false f]⟩
def c80 (k:Nat) (v a:List PV):R:=e0F k 80 [s0a v,s0r a]
def r80 (l:List PV):R:=some ([.agg [.own 3 0 l]],[])
def R80 (x0:R) (K0:List PV->R):R:=x0.bind fun q0=>bif q0y q0.2 []&&q02 q0.1 [.agg [.own 3 0]] then (q3z 3 0 (Dp.partAt q0.1 0 0)).bind fun l=>K0 l else none
@[simp] theorem x7w l K0:R80 (r80 l) K0=K0 l:=by kernel_rfl
def y3 (k n:Nat) (b:List PV) (a:Nat) (e:List PV) (c d:Int) (l f:List PV):R:=e0L k 80 [1,1,0,1,0] [] n ⟨mkT 33 [(1,s0r b),(4,s0p 0),(5,s0z 1 a),(9,s0r e),(10,s0i c),(11,s0i d)],[.box [p0r l],.arr 3 0 0 false f]⟩
def c81 (k:Nat) (p a:Int) (b c v:List PV):R:=e0F k 81 [s0g p a b c,s0a v]
def r81 (b:Bool):R:=some ([.c (.p (PV.bool b))],[])
def R81:=R9
@[simp] theorem x7x b K0:R81 (r81 b) K0=K0 b:=by kernel_rfl
def c83 (k:Nat) (a b:List PV):R:=e0F k 83 [s0a a,s0a b]
def r83 (l:List PV):R:=some ([.agg [.p (PV.row 0 0 l)]],[])
def R83:=R79
@[simp] theorem w44 l K0:R83 (r83 l) K0=K0 l:=by kernel_rfl
def y9w (k n:Nat) (a:Nat) (b:List PV) (d e:Int) (l f g:List PV):R:=e0L k 83 [1,1,0,1,0] [] n ⟨mkT 30 [(3,s0p 0),(4,s0p 1),(5,.s (.c (.loc 2 0 2 0 a))),(10,s0r b),(11,s0i d),(12,s0i e)],[.box [p0r l],.box [p0r f],.arr 164 2 0 false g]⟩
def c84 (k:Nat) (v:List PV):R:=e0F k 84 [s0a v]
def r84 (qr:Int):R:=some ([.c (.p (PV.int .i64 qr))],[])
def R84:=R49
@[simp] theorem w45 qr K0:R84 (r84 qr) K0=K0 qr:=by kernel_rfl
def c85 (k:Nat) (a:List PV):R:=e0F k 85 [s0r a]
def r85 (qr:Int):R:=some ([.c (.p (PV.int .i64 qr))],[])
def R85:=R49
@[simp] theorem v4n qr K0:R85 (r85 qr) K0=K0 qr:=by kernel_rfl
def R85p (x0:R) (K0:Int->R):R:=x0.bind fun q0=>bif q0.1.all q0z&&q0.2.all (fun cs=>cs.all q1m) then (bif q0y q0.2 []&&q02 q0.1 [.c (.p (.int .i64))] then (cInt (q01 q0.1 0) .i64).bind fun qr=>K0 qr else none) else none
@[simp] theorem x97 qr K0:R85p (r85 qr) K0=K0 qr:=by kernel_rfl
def c86 (k:Nat) (p b:Int) (c d v a:List PV):R:=e0F k 86 [s0g p b c d,s0a v,s0r a]
def r86 (l:List PV):R:=some ([.c (.own ⟨28,some ⟨0,3,0,0,none⟩⟩ 0 l)],[])
def R86 (x0:R) (K0:List PV->R):R:=x0.bind fun q0=>bif q0y q0.2 []&&q02 q0.1 [.c (.own ⟨28,some ⟨0,3,0,0,none⟩⟩ 0)] then (q3z ⟨28,some ⟨0,3,0,0,none⟩⟩ 0 (q01 q0.1 0)).bind fun l=>K0 l else none
@[simp] theorem x7y l K0:R86 (r86 l) K0=K0 l:=by kernel_rfl
def z76 (k n:Nat) (b:Nat) (c:List PV) (a:Nat) (e:List PV) (f g m d:Int) (l i j o h:List PV):R:=e0L k 86 [1,1,0,1,0] [] n ⟨mkT 68 [(3,s0p 0),(4,s0p 1),(7,s0z 2 b),(8,s0r c),(9,s0z 3 a),(24,s0r e),(25,s0i f),(26,s0i g)],[b0g m d l i,.box [p0r j],.arr ⟨28,some ⟨0,3,0,0,none⟩⟩ 0 0 false o,.arr 3 0 0 false h]⟩
def z77 (k t n:Nat) (a:Nat) (d:List PV) (c:Nat) (h:List PV) (i j:Int) (b:Nat) (m o e f:Int) (l r s:List PV) (g:Int) (u p q:List PV):R:=e0L k 86 [1,1,0,1,0,0,1,1,0,0,1,0,1,0,1,0,1,0] [t] n ⟨mkT 68 [(3,s0p 0),(4,s0p 1),(7,s0z 3 a),(8,s0r d),(11,s0p 2),(12,s0z 4 c),(24,s0r h),(25,s0i i),(26,s0i j),(36,s0z 5 b),(37,s0i m),(38,s0i o)],[b0g e f l r,.box [p0r s],.box [p0n g],.arr ⟨28,some ⟨0,3,0,0,none⟩⟩ 0 0 false u,.arr 4 0 0 false p,.arr 3 0 0 false q]⟩
def y3a (k w x n:Nat) (a:Nat) (d:List PV) (c:Nat) (h:List PV) (i j:Int) (b:Nat) (m o:Int) (p:List PV) (q r e f:Int) (l u v:List PV) (g:Int) (y s t:List PV):R:=e0L k 86 [1,1,0,1,0,0,1,1,0,0,1,0,1,0,1,0,1,0,0,1,1,0,0,1,1,0] [w,x] n ⟨mkT 68 [(3,s0p 0),(4,s0p 1),(7,s0z 3 a),(8,s0r d),(11,s0p 2),(12,s0z 4 c),(24,s0r h),(25,s0i i),(26,s0i j),(36,s0z 5 b),(37,s0i m),(38,s0i o),(45,s0r p),(46,s0i q),(47,s0i r)],[b0g e f l u,.box [p0r v],.box [p0n g],.arr ⟨28,some ⟨0,3,0,0,none⟩⟩ 0 0 false y,.arr 4 0 0 false s,.arr 3 0 0 false t]⟩
def c88 (k:Nat) (a:List PV):R:=e0F k 88 [s0r a]
def r88 (qr:Int):R:=some ([.c (.p (PV.int .i64 qr))],[])
def R88:=R49
@[simp] theorem w46 qr K0:R88 (r88 qr) K0=K0 qr:=by kernel_rfl
def y9x (k n:Nat) (a:List PV) (b c:Int):R:=e0L k 88 [1,0,1,0] [] n ⟨mkT 17 [(5,s0r a),(6,s0i b),(7,s0i c)],[]⟩
def c89 (k:Nat) (p b:Int) (c d v a:List PV):R:=e0F k 89 [s0g p b c d,s0a v,s0r a]
def r89 (l:List PV):R:=some ([.c (.p (PV.row 0 0 l))],[])
def R89:=R68
@[simp] theorem w47 l K0:R89 (r89 l) K0=K0 l:=by kernel_rfl
def y3b (k n:Nat) (a:Nat) (b d:List PV) (e f i c:Int) (l g h j:List PV):R:=e0L k 89 [1,1,1,0,1,0] [] n ⟨mkT 51 [(3,s0p 0),(4,s0p 1),(7,s0z 2 a),(8,s0r b),(18,s0r d),(19,s0i e),(20,s0i f)],[b0g i c l g,.box [p0r h],.arr 28 0 0 false j]⟩
def z78 (k r n:Nat) (b:Nat) (a:Int) (c:Nat) (f:List PV) (g h:Int) (i:List PV) (j m d e:Int) (l p q s o:List PV):R:=e0L k 89 [1,1,1,0,1,0,0,1,1,0,0,1,1,0,1,0] [r] n ⟨mkT 51 [(3,s0p 0),(4,s0p 1),(7,s0z 2 b),(10,s0i a),(11,s0z 3 c),(18,s0r f),(19,s0i g),(20,s0i h),(24,s0r i),(25,s0i j),(26,s0i m)],[b0g d e l p,.box [p0r q],.arr 28 0 0 false s,.arr 3 0 0 false o]⟩
def c91 (k:Nat) (p b:Int) (c d v:List PV) (a e:Int):R:=e0F k 91 [s0g p b c d,s0a v,s0i a,s0i e]
def r91 (l:List PV):R:=some ([.c (.p (PV.row 0 0 l))],[])
def R91:=R68
@[simp] theorem v4o l K0:R91 (r91 l) K0=K0 l:=by kernel_rfl
def c93 (k:Nat) (p c:Int) (d e l:List PV) (b a:Int):R:=evF P E T k 93 [s0p 0,s0g p c d e] [[p0r l,p0n b,.p (PV.int .u64 a)]]
def r93 (l:List PV) (qr qr1:Int) (l1:List PV):R:=some ([.c (.p (PV.row 2 0 l1))],[[.p (PV.row 0 0 l),.p (PV.int .i64 qr),.p (PV.int .u64 qr1)]])
def R93 (x0:R) (K0:List PV->Int->Int->List PV->R):R:=x0.bind fun q0=>bif q0y q0.2 [[.p (.row 0),.p (.int .i64),.p (.int .u64)]]&&q02 q0.1 [.c (.p (.row 2))] then (cRow (q0w q0.2 0 0) 0).bind fun l=>(cInt (q0w q0.2 0 1) .i64).bind fun qr=>(cInt (q0w q0.2 0 2) .u64).bind fun qr1=>(cRow (q01 q0.1 0) 2).bind fun l1=>K0 l qr qr1 l1 else none
@[simp] theorem w48 l qr qr1 l1 K0:R93 (r93 l qr qr1 l1) K0=K0 l qr qr1 l1:=by kernel_rfl
def c94 (k:Nat) (l:List PV) (b a:Int):R:=evF P E T k 94 [s0p 0] [[p0r l,p0n b,.p (PV.int .u64 a)]]
def r94 (l:List PV) (qr qr1 qr2:Int):R:=some ([.c (.p (PV.int .i64 qr2))],[[.p (PV.row 0 0 l),.p (PV.int .i64 qr),.p (PV.int .u64 qr1)]])
def R94:=R56
@[simp] theorem v4p l qr qr1 qr2 K0:R94 (r94 l qr qr1 qr2) K0=K0 l qr qr1 qr2:=by kernel_rfl
def c95 (k:Nat) (p d:Int) (e f b c:List PV) (a:Int):R:=e0F k 95 [s0g p d e f,s0r b,s0m c,s0i a]
def r95 (b:Bool):R:=some ([.c (.p (PV.bool b))],[])
def R95:=R9
@[simp] theorem v4q b K0:R95 (r95 b) K0=K0 b:=by kernel_rfl
def c96 (k:Nat) (p d:Int) (e f b c:List PV) (a:Int):R:=e0F k 96 [s0g p d e f,s0r b,s0m c,s0i a]
def r96 (qr:Int) (l:List PV) (qr1:Int) (l1:List PV):R:=some ([.agg [.p (PV.int .i64 qr),.p (PV.row 0 0 l),.p (PV.int .i64 qr1),.p (PV.row 0 0 l1)]],[])
def R96 (x0:R) (K0:Int->List PV->Int->List PV->R):R:=x0.bind fun q0=>bif q0y q0.2 []&&q02 q0.1 [.agg [.p (.int .i64),.p (.row 0),.p (.int .i64),.p (.row 0)]] then (cInt (Dp.partAt q0.1 0 0) .i64).bind fun qr=>(cRow (Dp.partAt q0.1 0 1) 0).bind fun l=>(cInt (Dp.partAt q0.1 0 2) .i64).bind fun qr1=>(cRow (Dp.partAt q0.1 0 3) 0).bind fun l1=>K0 qr l qr1 l1 else none
@[simp] theorem v4r qr l qr1 l1 K0:R96 (r96 qr l qr1 l1) K0=K0 qr l qr1 l1:=by kernel_rfl
def y3c (k n:Nat) (b c:List PV) (a q d:Int) (l i:List PV) (e:Int) (j:List PV) (f:Int) (m:List PV) (g:Int) (o:List PV) (h:Int) (p:List PV):R:=e0L k 96 [1,1,0] [] n ⟨mkT 61 [(1,s0r b),(2,s0m c),(3,s0i a),(4,s0p 0),(8,s0p 1),(9,s0p 2)],[b0g q d l i,.box [p0n e,p0r j,p0n f,p0r m],.box [p0n g,p0r o,p0n h,p0r p]]⟩
def c97 (k:Nat) (p d:Int) (e f b c:List PV) (a:Int):R:=e0F k 97 [s0g p d e f,s0r b,s0m c,s0i a]
def r97 (b:Bool):R:=some ([.c (.p (PV.bool b))],[])
def R97:=R9
@[simp] theorem v4s b K0:R97 (r97 b) K0=K0 b:=by kernel_rfl
def c98 (k:Nat) (p a:Int) (b c v t:List PV):R:=e0F k 98 [s0g p a b c,s0a v,s0m t]
def r98 (l:List PV):R:=some ([.agg [.own 3 0 l]],[])
def R98:=R80
@[simp] theorem v4t l K0:R98 (r98 l) K0=K0 l:=by kernel_rfl
def R98p (x0:R) (K0:List PV->R):R:=x0.bind fun q0=>bif q0.1.all q0z&&q0.2.all (fun cs=>cs.all q1m) then (bif q0y q0.2 []&&q02 q0.1 [.agg [.own 3 0]] then (q3z 3 0 (Dp.partAt q0.1 0 0)).bind fun l=>K0 l else none) else none
def c99 (k:Nat) (p b:Int) (c d a:List PV):R:=e0F k 99 [s0g p b c d,s0r a]
def r99 (l:List PV):R:=some ([.agg [.own 3 0 l]],[])
def R99:=R80
@[simp] theorem w49 l K0:R99 (r99 l) K0=K0 l:=by kernel_rfl
def y9y (k n:Nat) (c:List PV) (d e h b:Int) (l f g:List PV) (a:Nat) (i:List PV):R:=e0L k 99 [1,1,0,1,0] [] n ⟨mkT 24 [(2,s0p 0),(4,s0p 1),(5,s0p 2),(12,s0r c),(13,s0i d),(14,s0i e)],[b0g h b l f,.box [p0r g],.box [.loc 3 0 0 0 a],.arr 3 0 0 false i]⟩
def c100 (k:Nat) (p b:Int) (c d v a:List PV):R:=e0F k 100 [s0g p b c d,s0a v,s0m a]
def r100 (l:List PV) (b:Bool):R:=some ([.c (.p (PV.row 0 0 l)),.c (.p (PV.bool b))],[])
def R100:=R51
@[simp] theorem x9e l b K0:R100 (r100 l b) K0=K0 l b:=by kernel_rfl
def c101 (k:Nat) (p b:Int) (c d a:List PV):R:=e0F k 101 [s0g p b c d,s0r a]
def r101 (l:List PV):R:=some ([.c (.p (PV.row 0 0 l))],[])
def R101:=R68
@[simp] theorem w9i l K0:R101 (r101 l) K0=K0 l:=by kernel_rfl
def z48 (k n:Nat) (b:List PV) (a:Nat) (d f c:Int) (l e g:List PV):R:=e0L k 101 [1,1,0,1,0] [] n ⟨mkT 87 [(1,s0r b),(2,s0p 0),(5,s0z 1 a),(6,s0i d)],[b0g f c l e,.arr 28 0 0 false g]⟩
def z1z (k o n:Nat) (b:List PV) (a:Nat) (j:Int) (c:Nat) (f:List PV) (g h d e:Int) (l m p i:List PV):R:=e0L k 101 [1,1,0,1,0,0,1,0,0,1,0,1,0] [o] n ⟨mkT 87 [(1,s0r b),(2,s0p 0),(5,s0z 1 a),(6,s0i j),(7,s0z 2 c),(27,s0r f),(28,s0i g),(29,s0i h)],[b0g d e l m,.arr 28 0 0 false p,.arr 3 0 0 false i]⟩
def z10 (k n:Nat) (a b:Nat) (e g c:Int) (l f h d:List PV):R:=e0L k 101 [1,1,1,1,0,1,0] [] n ⟨mkT 87 [(2,s0p 0),(5,s0z 1 a),(10,s0z 2 b),(11,s0i e)],[b0g g c l f,.arr 28 0 0 false h,.arr 3 0 0 false d]⟩
def z49 (k m n:Nat) (a b:Nat) (i:Int) (e:List PV) (f g c d:Int) (l j o h:List PV):R:=e0L k 101 [1,1,1,1,0,1,0,0,1,0,0,1,0] [m] n ⟨mkT 87 [(2,s0p 0),(5,s0z 1 a),(10,s0z 2 b),(11,s0i i),(69,s0r e),(70,s0i f),(71,s0i g)],[b0g c d l j,.arr 28 0 0 false o,.arr 3 0 0 false h]⟩
def c102 (k:Nat) (p a:Int) (b c:List PV):R:=e0F k 102 [s0g p a b c]
def r102 (b:Bool):R:=some ([.c (.p (PV.bool b))],[])
def R102:=R9
@[simp] theorem x0b b K0:R102 (r102 b) K0=K0 b:=by kernel_rfl
def c103 (k:Nat) (p a:Int) (b c:List PV):R:=e0F k 103 [s0g p a b c]
def r103 (qr:Int):R:=some ([.c (.p (PV.int .i64 qr))],[])
def R103:=R49
@[simp] theorem z2d qr K0:R103 (r103 qr) K0=K0 qr:=by kernel_rfl
def c104 (k:Nat) (p a:Int) (b c:List PV):R:=e0F k 104 [s0g p a b c]
def r104 (b:Bool):R:=some ([.c (.p (PV.bool b))],[])
def R104:=R9
@[simp] theorem x0c b K0:R104 (r104 b) K0=K0 b:=by kernel_rfl
def c105 (k:Nat) (p a:Int) (b c:List PV):R:=e0F k 105 [s0g p a b c]
def r105 (qr:Int):R:=some ([.c (.p (PV.int .i64 qr))],[])
def R105:=R49
@[simp] theorem x0d qr K0:R105 (r105 qr) K0=K0 qr:=by kernel_rfl
def c107 (k:Nat) (p a:Int) (b c t:List PV):R:=e0F k 107 [s0g p a b c,s0m t]
def r107 (b:Bool):R:=some ([.c (.p (PV.bool b))],[])
def R107:=R9
@[simp] theorem z2e b K0:R107 (r107 b) K0=K0 b:=by kernel_rfl
def c108 (k:Nat) (g a:List PV):R:=e0F k 108 [s0r g,s0r a]
def r108 (l:List PV):R:=some ([.c (.p (PV.row 0 0 l))],[])
def R108:=R68
@[simp] theorem x9f l K0:R108 (r108 l) K0=K0 l:=by kernel_rfl
def z5a (k n:Nat) (g:List PV) (a b:Nat) (c:List PV) (d e:Int) (h f:List PV):R:=e0L k 108 [1,1,1,0,1,0] [] n ⟨mkT 64 [(0,s0r g),(5,s0z 0 a),(6,s0z 1 b),(17,s0r c),(18,s0i d),(19,s0i e)],[.arr 3 0 0 false h,.arr 3 0 0 false f]⟩
def y19 (k n:Nat) (g:List PV) (a b:Nat) (d c:List PV):R:=e0L k 108 [1,1,1,1,0,0] [] n ⟨mkT 64 [(0,s0r g),(5,s0z 0 a),(6,s0z 1 b)],[.arr 3 0 0 false d,.arr 3 0 0 false c]⟩
def q9o (k h n:Nat) (g:List PV) (a b:Nat) (c:List PV) (d e:Int) (i f:List PV):R:=e0L k 108 [1,1,1,1,0,0,0,1,0,0,1,0] [h] n ⟨mkT 64 [(0,s0r g),(5,s0z 0 a),(6,s0z 1 b),(37,s0r c),(38,s0i d),(39,s0i e)],[.arr 3 0 0 false i,.arr 3 0 0 false f]⟩
def z11 (k n:Nat) (g:List PV) (a d b:Nat) (f e:List PV):R:=e0L k 108 [1,1,1,1,0,0] [] n ⟨mkT 64 [(0,s0r g),(5,s0z 0 a),(6,.s (.c (.loc 1 0 0 d b)))],[.arr 3 0 0 false f,.arr 3 0 0 false e]⟩
def z5b (k j n:Nat) (g:List PV) (a d b:Nat) (e:List PV) (f h:Int) (l i:List PV):R:=e0L k 108 [1,1,1,1,0,0,0,1,0,0,1,0] [j] n ⟨mkT 64 [(0,s0r g),(5,s0z 0 a),(6,.s (.c (.loc 1 0 0 d b))),(37,s0r e),(38,s0i f),(39,s0i h)],[.arr 3 0 0 false l,.arr 3 0 0 false i]⟩
def c109 (k:Nat) (p a:Int) (b c:List PV):R:=e0F k 109 [s0g p a b c]
def r109 (l:List PV):R:=some ([.c (.p (PV.row 0 0 l))],[])
def R109:=R68
@[simp] theorem x9g l K0:R109 (r109 l) K0=K0 l:=by kernel_rfl
def y2a (k n:Nat) (a:Nat) (e f d b:Int) (l c g:List PV):R:=e0L k 109 [1,1,0,1,0] [] n ⟨mkT 19 [(1,s0p 0),(3,s0z 1 a),(7,s0i e),(8,s0i f)],[b0g d b l c,.arr 28 0 0 false g]⟩
def c110 (k:Nat) (p a:Int) (b c t:List PV):R:=e0F k 110 [s0g p a b c,s0m t]
def r110 (l:List PV):R:=some ([.c (.own 3 0 l)],[])
def R110:=R57
@[simp] theorem z6f l K0:R110 (r110 l) K0=K0 l:=by kernel_rfl
def z5c (k n:Nat) (t:List PV) (a:Nat) (f c e b:Int) (l d g:List PV):R:=e0L k 110 [1,1,0,1,0] [] n ⟨mkT 25 [(1,s0m t),(2,s0p 0),(5,s0z 1 a),(9,s0i f),(10,s0i c)],[b0g e b l d,.arr 3 0 0 false g]⟩
def c111 (k:Nat) (p a:Int) (b c v:List PV):R:=e0F k 111 [s0g p a b c,s0a v]
def r111 (l:List PV):R:=some ([.c (.p (PV.row 0 0 l))],[])
def R111:=R68
@[simp] theorem w9j l K0:R111 (r111 l) K0=K0 l:=by kernel_rfl
def c118 (k:Nat) (l:List PV) (b a:Int):R:=evF P E T k 118 [s0p 0] [[p0r l,p0n b,.p (PV.int .u64 a)]]
def r118 (l:List PV) (qr qr1 qr2 qr3:Int) (l1 l2:List PV):R:=some ([.agg [.p (PV.int .i64 qr2),.p (PV.int .i64 qr3),.p (PV.row 2 0 l1),.own ⟨136,some ⟨1,138,2,0,none⟩⟩ 2 l2]],[[.p (PV.row 0 0 l),.p (PV.int .i64 qr),.p (PV.int .u64 qr1)]])
def R118 (x0:R) (K0:List PV->Int->Int->Int->Int->List PV->List PV->R):R:=x0.bind fun q0=>bif q0y q0.2 [[.p (.row 0),.p (.int .i64),.p (.int .u64)]]&&q02 q0.1 [.agg [.p (.int .i64),.p (.int .i64),.p (.row 2),.own ⟨136,some ⟨1,138,2,0,none⟩⟩ 2]] then (cRow (q0w q0.2 0 0) 0).bind fun l=>(cInt (q0w q0.2 0 1) .i64).bind fun qr=>(cInt (q0w q0.2 0 2) .u64).bind fun qr1=>(cInt (Dp.partAt q0.1 0 0) .i64).bind fun qr2=>(cInt (Dp.partAt q0.1 0 1) .i64).bind fun qr3=>(cRow (Dp.partAt q0.1 0 2) 2).bind fun l1=>(q3z ⟨136,some ⟨1,138,2,0,none⟩⟩ 2 (Dp.partAt q0.1 0 3)).bind fun l2=>K0 l qr qr1 qr2 qr3 l1 l2 else none
@[simp] theorem w9k l qr qr1 qr2 qr3 l1 l2 K0:R118 (r118 l qr qr1 qr2 qr3 l1 l2) K0=K0 l qr qr1 qr2 qr3 l1 l2:=by kernel_rfl
def q9p (k n:Nat) (b a:Int) (l:List PV) (h c d e:Int) (f g:List PV):R:=q1a P E T k 118 118 [3] [1,1,1,1,0,0] [] n ⟨mkT 67 [(0,s0p 0),(2,s0p 1),(3,s0i b),(4,s0i a)],[.box [p0r l,p0n h,.p (PV.int .u64 c)],b0g d e f g]⟩
def c120 (k:Nat) (c:Int) (l:List PV) (a b:Int):R:=evF P E T k 120 [s0p 0,s0i c] [[p0r l,p0n a,.p (PV.int .u64 b)]]
def r120 (l:List PV) (qr qr1:Int) (b:Bool):R:=some ([.c (.p (PV.bool b))],[[.p (PV.row 0 0 l),.p (PV.int .i64 qr),.p (PV.int .u64 qr1)]])
def R120 (x0:R) (K0:List PV->Int->Int->Bool->R):R:=x0.bind fun q0=>bif q0y q0.2 [[.p (.row 0),.p (.int .i64),.p (.int .u64)]]&&q02 q0.1 [.c (.p (.bool))] then (cRow (q0w q0.2 0 0) 0).bind fun l=>(cInt (q0w q0.2 0 1) .i64).bind fun qr=>(cInt (q0w q0.2 0 2) .u64).bind fun qr1=>(q3d (q01 q0.1 0)).bind fun b=>K0 l qr qr1 b else none
@[simp] theorem q3n l qr qr1 b K0:R120 (r120 l qr qr1 b) K0=K0 l qr qr1 b:=by kernel_rfl
def c121 (k:Nat) (d a:Int) (l:List PV) (b c:Int):R:=evF P E T k 121 [s0p 0,s0i d,s0i a] [[p0r l,p0n b,.p (PV.int .u64 c)]]
def r121 (l:List PV) (qr qr1:Int) (l1:List PV):R:=some ([.c (.p (PV.row 0 0 l1))],[[.p (PV.row 0 0 l),.p (PV.int .i64 qr),.p (PV.int .u64 qr1)]])
def R121:=R72
@[simp] theorem w9l l qr qr1 l1 K0:R121 (r121 l qr qr1 l1) K0=K0 l qr qr1 l1:=by kernel_rfl
def y2b (k n:Nat) (e:Int) (a:Nat) (d:Int) (l:List PV) (b c:Int) (f:List PV):R:=q1a P E T k 121 121 [3] [1,1,0,1,0] [] n ⟨mkT 29 [(0,s0p 0),(1,s0i e),(7,s0z 1 a),(8,s0i d)],[.box [p0r l,p0n b,.p (PV.int .u64 c)],.arr 3 0 0 false f]⟩
def c123 (k:Nat) (a b:List PV):R:=e0F k 123 [s0r a,s0r b]
def r123 (b:Bool):R:=some ([.c (.p (PV.bool b))],[])
def R123:=R9
@[simp] theorem w9m b K0:R123 (r123 b) K0=K0 b:=by kernel_rfl
def y2c (k n:Nat) (a b:List PV) (c d:Int):R:=e0L k 123 [1,0,1,0] [] n ⟨mkT 18 [(1,s0r a),(7,s0r b),(8,s0i c),(9,s0i d)],[]⟩
def c124 (k:Nat) (p a:Int) (b c t:List PV):R:=e0F k 124 [s0g p a b c,s0m t]
def r124 (l:List PV):R:=some ([.c (.p (PV.row 0 0 l))],[])
def R124:=R68
@[simp] theorem z6g l K0:R124 (r124 l) K0=K0 l:=by kernel_rfl
def z5d (k n:Nat) (t:List PV) (a:Nat) (e d b:Int) (l c f:List PV):R:=e0L k 124 [1,1,0,1,0] [] n ⟨mkT 24 [(1,s0m t),(2,s0p 0),(5,s0z 1 a),(6,s0i e)],[b0g d b l c,.arr 3 0 0 false f]⟩
def c125 (k:Nat) (p b:Int) (c d a:List PV):R:=e0F k 125 [s0g p b c d,s0r a]
def r125 (l:List PV):R:=some ([.c (.p (PV.row 0 0 l))],[])
def R125:=R68
@[simp] theorem x9h l K0:R125 (r125 l) K0=K0 l:=by kernel_rfl
def z5e (k n:Nat) (a:Nat) (c:List PV) (d e g b:Int) (l f h:List PV):R:=e0L k 125 [1,1,0,1,0] [] n ⟨mkT 30 [(2,s0p 0),(5,s0z 1 a),(10,s0r c),(11,s0i d),(12,s0i e)],[b0g g b l f,.arr 3 0 0 false h]⟩
def z5f (k m n:Nat) (a:Nat) (d:List PV) (e f:Int) (g:List PV) (h i b c:Int) (l j o:List PV):R:=e0L k 125 [1,1,0,1,0,0,1,1,0,0,1,1,0] [m] n ⟨mkT 30 [(2,s0p 0),(5,s0z 1 a),(10,s0r d),(11,s0i e),(12,s0i f),(18,s0r g),(19,s0i h),(20,s0i i)],[b0g b c l j,.arr 3 0 0 false o]⟩
def c126 (k:Nat) (p a:Int) (b c t:List PV):R:=e0F k 126 [s0g p a b c,s0m t]
def r126 (b:Bool):R:=some ([.c (.p (PV.bool b))],[])
def R126:=R9
@[simp] theorem z6h b K0:R126 (r126 b) K0=K0 b:=by kernel_rfl
def c127 (k:Nat) (a b:List PV):R:=e0F k 127 [s0r a,s0r b]
def r127 (b:Bool):R:=some ([.c (.p (PV.bool b))],[])
def R127:=R9
@[simp] theorem x9i b K0:R127 (r127 b) K0=K0 b:=by kernel_rfl
def y2d (k n:Nat) (b a:List PV) (c d:Int):R:=e0L k 127 [1,0,1,0] [] n ⟨mkT 17 [(1,s0r b),(7,s0r a),(8,s0i c),(9,s0i d)],[]⟩
def c128 (k:Nat) (p b:Int) (c d v a:List PV):R:=e0F k 128 [s0g p b c d,s0a v,s0m a]
def r128 (l:List PV):R:=some ([.c (.p (PV.rowN 0 l))],[])
def R128 (x0:R) (K0:List PV->R):R:=x0.bind fun q0=>bif q0y q0.2 []&&q02 q0.1 [.c (.p (.rowN 0))] then (x77 (q01 q0.1 0) 0).bind fun l=>K0 l else none
@[simp] theorem x9j (l:List PV) (K0:List PV->R):R128 (r128 l) K0=K0 l:=by cases l <;> kernel_rfl
def c129 (k:Nat) (p a:Int) (b c v:List PV):R:=e0F k 129 [s0g p a b c,s0a v]
def r129 (b:Bool):R:=some ([.c (.p (PV.bool b))],[])
def R129:=R9
@[simp] theorem x9k b K0:R129 (r129 b) K0=K0 b:=by kernel_rfl
def z5g (k n:Nat) (a:Int) (b:List PV) (c d:Int):R:=e0L k 129 [1,1,1,0,1,0] [] n ⟨mkT 36 [(5,s0i a),(20,s0r b),(21,s0i c),(22,s0i d)],[]⟩
def c130 (k:Nat) (v a:List PV):R:=e0F k 130 [s0a v,s0r a]
def r130 (l:List PV):R:=some ([.c (.own 3 0 l)],[])
def q52 (x0:R) (K0:List PV->R):R:=x0.bind fun q0=>bif q0.1.all q0z&&q0.2.all (fun cs=>cs.all q1m) then (bif q0y q0.2 []&&q02 q0.1 [.c (.own 3 0)] then (q3z 3 0 (q01 q0.1 0)).bind fun l=>K0 l else none) else none
def y2e (k n:Nat) (a:Nat) (b:List PV) (c d:Int) (l e:List PV):R:=e0L k 130 [1,1,0,1,0] [] n ⟨mkT 27 [(2,s0p 0),(5,s0z 1 a),(11,s0r b),(12,s0i c),(13,s0i d)],[.box [p0r l],.arr 4 0 0 false e]⟩
def c131 (k:Nat) (a:Int) (l:List PV):R:=e0F k 131 [s0i a,.s (.c (.eptr (PV.agg [.row 0 0 l]) 1 0))]
def r131 (b:Bool):R:=some ([.c (.p (PV.bool b))],[])
def R131:=R9
@[simp] theorem w9n b K0:R131 (r131 b) K0=K0 b:=by kernel_rfl
def c132 (k:Nat) (p a:Int) (b c:List PV):R:=e0F k 132 [s0g p a b c]
def r132 (b:Bool):R:=some ([.c (.p (PV.bool b))],[])
def R132:=R9
@[simp] theorem w9o b K0:R132 (r132 b) K0=K0 b:=by kernel_rfl
def w4s:=q4n
@[simp] theorem w5h b K0:w4s (r132 b) K0=K0 b:=by kernel_rfl
def y2f (k n:Nat) (b:List PV) (c d f a:Int) (l e:List PV):R:=e0L k 132 [1,1,0,1,0] [] n ⟨mkT 29 [(1,s0p 0),(18,s0m b),(19,s0i c),(20,s0i d)],[b0g f a l e]⟩
def c133 (k:Nat) (p c:Int) (d e l:List PV) (b a:Int):R:=evF P E T k 133 [s0p 0,s0g p c d e] [[p0r l,p0n b,.p (PV.int .u64 a)]]
def r133 (l:List PV) (qr qr1:Int) (l1:List PV):R:=some ([.agg [.p (PV.row 0 0 l1)]],[[.p (PV.row 0 0 l),.p (PV.int .i64 qr),.p (PV.int .u64 qr1)]])
def R133 (x0:R) (K0:List PV->Int->Int->List PV->R):R:=x0.bind fun q0=>bif q0y q0.2 [[.p (.row 0),.p (.int .i64),.p (.int .u64)]]&&q02 q0.1 [.agg [.p (.row 0)]] then (cRow (q0w q0.2 0 0) 0).bind fun l=>(cInt (q0w q0.2 0 1) .i64).bind fun qr=>(cInt (q0w q0.2 0 2) .u64).bind fun qr1=>(cRow (Dp.partAt q0.1 0 0) 0).bind fun l1=>K0 l qr qr1 l1 else none
@[simp] theorem w9p l qr qr1 l1 K0:R133 (r133 l qr qr1 l1) K0=K0 l qr qr1 l1:=by kernel_rfl
def c136 (k:Nat) (l:List PV) (b a:Int):R:=evF P E T k 136 [s0p 0] [[p0r l,p0n b,.p (PV.int .u64 a)]]
def r136 (l:List PV) (qr qr1 qr2:Int):R:=some ([.c (.p (PV.int .i64 qr2))],[[.p (PV.row 0 0 l),.p (PV.int .i64 qr),.p (PV.int .u64 qr1)]])
def R136:=R56
@[simp] theorem x9l l qr qr1 qr2 K0:R136 (r136 l qr qr1 qr2) K0=K0 l qr qr1 qr2:=by kernel_rfl
def c138 (k:Nat) (p b:Int) (c d v a:List PV):R:=e0F k 138 [s0g p b c d,s0a v,s0r a]
def r138 (l:List PV):R:=some ([.c (.p (PV.rowN 0 l))],[])
def R138:=R128
@[simp] theorem w9q (l:List PV) (K0:List PV->R):R138 (r138 l) K0=K0 l:=by cases l <;> kernel_rfl
def y2g (k n:Nat) (a:Int) (b:Nat) (l:List PV) (c:Int) (d:List PV):R:=e0L k 138 [1,1,1,1,0,1,0] [] n ⟨mkT 71 [(7,s0p 0),(8,s0p 1),(9,s0i a),(10,s0p 2)],[.box [.loc 3 0 0 0 b],.box [p0r l],.box [p0n c],.arr ⟨28,some ⟨0,3,0,0,none⟩⟩ 0 0 false d]⟩
def y98 (k:Nat) (a:Int) (l b:List PV):R:=x56 P E T k 138 138 [] [1,1,1,1,1,0] [] ⟨mkT 71 [(7,.s (.c (.bptr 0 0))),(8,.s (.c (.bptr 1 0))),(9,.s (.c (.p (PV.int .i64 a))))],[.box [.p (PV.row 0 0 l)],.box [.p (PV.row 0 0 b)]]⟩
def y2h (k n:Nat) (a:Int) (l c:List PV) (b:Nat) (d:Int) (e:List PV):R:=e0L k 138 [1,1,1,1,1,1,0,1,0] [] n ⟨mkT 71 [(7,s0p 0),(8,s0p 1),(9,s0i a),(11,s0p 2),(12,s0p 3)],[.box [p0r l],.box [p0r c],.box [.loc 4 0 0 0 b],.box [p0n d],.arr 3 0 0 false e]⟩
def c139 (k:Nat) (a:List PV):R:=e0F k 139 [s0r a]
def r139 (l:List PV):R:=some ([.c (.own 3 0 l)],[])
def R139:=R57
@[simp] theorem w9r l K0:R139 (r139 l) K0=K0 l:=by kernel_rfl
def x7g:=q52
def c140 (k:Nat) (c b a:Int):R:=e0F k 140 [s0i c,s0i b,s0i a]
def r140 (b:Bool):R:=some ([.c (.p (PV.bool b))],[])
def R140:=R9
@[simp] theorem q74 b K0:R140 (r140 b) K0=K0 b:=by kernel_rfl
def c142 (k:Nat) (x:List PV) (a:Int):R:=e0F k 142 [s0r x,s0i a]
def r142 (l:List PV):R:=some ([.c (.own 3 0 l)],[])
def w4t:=q52
def y2i (k n:Nat) (a:Nat) (b:Int) (c:List PV):R:=e0L k 142 [1,1,1,1,1,1,0,0] [] n ⟨mkT 48 [(7,s0z 0 a),(8,s0i b)],[.arr 3 0 0 false c]⟩
def y0t (k:Nat) (a l:List PV):R:=e0F k 143 [s0r a,.s (.c (.cfn 131 [PV.agg [.row 0 0 l]]))]
def q99 (qr:Int):R:=some ([.c (.p (PV.int .i64 qr))],[])
def y6v:=R85p
@[simp] theorem x3r qr K0:y6v (q99 qr) K0=K0 qr:=by kernel_rfl
def q8o (k n:Nat) (a l:List PV) (b d:Int):R:=q1a P E T k 143 132143 [] [1,0,1,0] [] n ⟨mkT 19 [(0,s0r a),(1,.s (.c (.cfn 131 [PV.agg [.row 0 0 l]]))),(7,s0i b),(8,s0i d)],[]⟩
def z3d (k:Nat) (b l:List PV) (a:Int):R:=e0F k 143 [s0r b,.s (.c (.cfn 249 [PV.agg [.row 0 0 l],PV.agg [.int .i64 a]]))]
def q7g (qr:Int):R:=some ([.c (.p (PV.int .i64 qr))],[])
def y62:=R85p
@[simp] theorem x3y qr K0:y62 (q7g qr) K0=K0 qr:=by kernel_rfl
def q8v (k n:Nat) (b l:List PV) (a d e:Int):R:=q1a P E T k 143 250143 [] [1,0,1,0] [] n ⟨mkT 19 [(0,s0r b),(1,.s (.c (.cfn 249 [PV.agg [.row 0 0 l],PV.agg [.int .i64 a]]))),(7,s0i d),(8,s0i e)],[]⟩
def y0x (k:Nat) (d l a:List PV) (b:Int):R:=e0F k 143 [s0r d,.s (.c (.cfn 204 [PV.agg [.row 0 0 l],PV.agg [.row 0 0 a],PV.agg [.int .i64 b]]))]
def z0d (qr:Int):R:=some ([.c (.p (PV.int .i64 qr))],[])
def y6z:=R85p
@[simp] theorem x3v qr K0:y6z (z0d qr) K0=K0 qr:=by kernel_rfl
def q8s (k n:Nat) (d l a:List PV) (b e f:Int):R:=q1a P E T k 143 205143 [] [1,0,1,0] [] n ⟨mkT 19 [(0,s0r d),(1,.s (.c (.cfn 204 [PV.agg [.row 0 0 l],PV.agg [.row 0 0 a],PV.agg [.int .i64 b]]))),(7,s0i e),(8,s0i f)],[]⟩
def y0v (k:Nat) (g:List PV) (f a:Int) (l d e:List PV) (b:Int):R:=e0F k 143 [s0r g,.s (.c (.cfn 174 [PV.agg [.int .i64 f,.int .i64 a,.row 2 0 l,.row 2 0 d],PV.agg [.row 0 0 e],PV.agg [.int .i64 b]]))]
def z0b (qr:Int):R:=some ([.c (.p (PV.int .i64 qr))],[])
def y6x:=R85p
@[simp] theorem x3t qr K0:y6x (z0b qr) K0=K0 qr:=by kernel_rfl
def q8q (k n:Nat) (g:List PV) (f a:Int) (l d e:List PV) (b h i:Int):R:=q1a P E T k 143 175143 [] [1,0,1,0] [] n ⟨mkT 19 [(0,s0r g),(1,.s (.c (.cfn 174 [PV.agg [.int .i64 f,.int .i64 a,.row 2 0 l,.row 2 0 d],PV.agg [.row 0 0 e],PV.agg [.int .i64 b]]))),(7,s0i h),(8,s0i i)],[]⟩
def x01 (k:Nat) (b:List PV) (a:Int):R:=evF P E T k 143 [s0r b,.s (.c (.fn 276 [0]))] [[p0n a]]
def z0g (qr qr1:Int):R:=some ([.c (.p (PV.int .i64 qr1))],[[.p (PV.int .i64 qr)]])
def x0e (x0:R) (K0:Int->Int->R):R:=x0.bind fun q0=>bif q0y q0.2 [[.p (.int .i64)]]&&q02 q0.1 [.c (.p (.int .i64))] then (cInt (q0w q0.2 0 0) .i64).bind fun qr=>(cInt (q01 q0.1 0) .i64).bind fun qr1=>K0 qr qr1 else none
@[simp] theorem x7h qr qr1 K0:x0e (z0g qr qr1) K0=K0 qr qr1:=by kernel_rfl
def q6i (k n:Nat) (b:List PV) (d e a:Int):R:=q1a P E T k 143 277143 [1] [1,0,1,0] [] n ⟨mkT 19 [(0,s0r b),(1,.s (.c (.fn 276 [0]))),(7,s0i d),(8,s0i e)],[.box [p0n a]]⟩
def y0u (k:Nat) (b l:List PV) (a:Int):R:=e0F k 143 [s0r b,.s (.c (.cfn 172 [PV.agg [.row 0 0 l],PV.agg [.int .i64 a]]))]
def z0a (qr:Int):R:=some ([.c (.p (PV.int .i64 qr))],[])
def y6w:=R85p
@[simp] theorem x3s qr K0:y6w (z0a qr) K0=K0 qr:=by kernel_rfl
def q8p (k n:Nat) (b l:List PV) (a d e:Int):R:=q1a P E T k 143 173143 [] [1,0,1,0] [] n ⟨mkT 19 [(0,s0r b),(1,.s (.c (.cfn 172 [PV.agg [.row 0 0 l],PV.agg [.int .i64 a]]))),(7,s0i d),(8,s0i e)],[]⟩
def y0z (k:Nat) (d l a:List PV) (b:Int):R:=e0F k 143 [s0r d,.s (.c (.cfn 206 [PV.agg [.row 0 0 l],PV.agg [.row 0 0 a],PV.agg [.int .i64 b]]))]
def z0f (qr:Int):R:=some ([.c (.p (PV.int .i64 qr))],[])
def y61:=R85p
@[simp] theorem x3x qr K0:y61 (z0f qr) K0=K0 qr:=by kernel_rfl
def q8u (k n:Nat) (d l a:List PV) (b e f:Int):R:=q1a P E T k 143 207143 [] [1,0,1,0] [] n ⟨mkT 19 [(0,s0r d),(1,.s (.c (.cfn 206 [PV.agg [.row 0 0 l],PV.agg [.row 0 0 a],PV.agg [.int .i64 b]]))),(7,s0i e),(8,s0i f)],[]⟩
def y0y (k:Nat) (b l:List PV) (a:Int):R:=e0F k 143 [s0r b,.s (.c (.cfn 205 [PV.agg [.row 0 0 l],PV.agg [.int .i64 a]]))]
def z0e (qr:Int):R:=some ([.c (.p (PV.int .i64 qr))],[])
def y60:=R85p
@[simp] theorem x3w qr K0:y60 (z0e qr) K0=K0 qr:=by kernel_rfl
def q8t (k n:Nat) (b l:List PV) (a d e:Int):R:=q1a P E T k 143 206143 [] [1,0,1,0] [] n ⟨mkT 19 [(0,s0r b),(1,.s (.c (.cfn 205 [PV.agg [.row 0 0 l],PV.agg [.int .i64 a]]))),(7,s0i d),(8,s0i e)],[]⟩
def y0w (k:Nat) (b l:List PV) (a:Int):R:=e0F k 143 [s0r b,.s (.c (.cfn 175 [PV.agg [.row 0 0 l],PV.agg [.int .i64 a]]))]
def z0c (qr:Int):R:=some ([.c (.p (PV.int .i64 qr))],[])
def y6y:=R85p
@[simp] theorem x3u qr K0:y6y (z0c qr) K0=K0 qr:=by kernel_rfl
def q8r (k n:Nat) (b l:List PV) (a d e:Int):R:=q1a P E T k 143 176143 [] [1,0,1,0] [] n ⟨mkT 19 [(0,s0r b),(1,.s (.c (.cfn 175 [PV.agg [.row 0 0 l],PV.agg [.int .i64 a]]))),(7,s0i d),(8,s0i e)],[]⟩
def y00 (k:Nat) (f:List PV) (e a:Int) (l b d:List PV):R:=e0F k 143 [s0r f,.s (.c (.cfn 291 [PV.agg [.int .i64 e,.int .i64 a,.row 2 0 l,.row 2 0 b],PV.agg [.row 2 0 d]]))]
def z0h (qr:Int):R:=some ([.c (.p (PV.int .i64 qr))],[])
def y63:=R85p
@[simp] theorem x3z qr K0:y63 (z0h qr) K0=K0 qr:=by kernel_rfl
def q8w (k n:Nat) (f:List PV) (e a:Int) (l b d:List PV) (g h:Int):R:=q1a P E T k 143 292143 [] [1,0,1,0] [] n ⟨mkT 19 [(0,s0r f),(1,.s (.c (.cfn 291 [PV.agg [.int .i64 e,.int .i64 a,.row 2 0 l,.row 2 0 b],PV.agg [.row 2 0 d]]))),(7,s0i g),(8,s0i h)],[]⟩
def c144 (k:Nat) (a:List PV) (v:Int):R:=e0F k 144 [s0r a,s0i v]
def r144 (qr:Int):R:=some ([.c (.p (PV.int .i64 qr))],[])
def R144:=R49
@[simp] theorem w9s qr K0:R144 (r144 qr) K0=K0 qr:=by kernel_rfl
def z5h (k n:Nat) (a:List PV) (v b c:Int):R:=e0L k 144 [1,0,1,0] [] n ⟨mkT 19 [(0,s0r a),(1,s0i v),(7,s0i b),(8,s0i c)],[]⟩
def c145 (k:Nat) (p a:Int) (b c d:List PV):R:=e0F k 145 [s0g p a b c,s0r d]
def r145 (qr:Int):R:=some ([.c (.p (PV.int .i64 qr))],[])
def R145:=R49
@[simp] theorem w9t qr K0:R145 (r145 qr) K0=K0 qr:=by kernel_rfl
def y2j (k n:Nat) (e:Int) (f:List PV) (g b d a:Int) (l c:List PV):R:=e0L k 145 [1,1,0,1,0] [] n ⟨mkT 26 [(2,s0p 0),(5,s0i e),(8,s0r f),(9,s0i g),(10,s0i b)],[b0g d a l c]⟩
def c146 (k:Nat) (p b:Int) (d e f a g:List PV):R:=e0F k 146 [s0g p b d e,.s (.c (.p (PV.agg [.row 2 0 f,.row 2 0 a]))),s0r g]
def r146 (l:List PV):R:=some ([.c (.p (PV.row 0 0 l))],[])
def R146:=R68
@[simp] theorem w9u l K0:R146 (r146 l) K0=K0 l:=by kernel_rfl
def y2k (k n:Nat) (h:List PV) (a:Nat) (c:List PV) (d e g b:Int) (l f i:List PV):R:=e0L k 146 [1,1,0,1,0] [] n ⟨mkT 31 [(2,s0r h),(3,s0p 0),(7,s0z 1 a),(13,s0m c),(14,s0i d),(15,s0i e)],[b0g g b l f,.arr 76 0 0 false i]⟩
def c149 (k:Nat) (b:Int) (t a:List PV):R:=e0F k 149 [s0i b,s0m t,s0r a]
def r149 (qr:Int):R:=some ([.c (.p (PV.int .u64 qr))],[])
def R149 (x0:R) (K0:Int->R):R:=x0.bind fun q0=>bif q0y q0.2 []&&q02 q0.1 [.c (.p (.int .u64))] then (cInt (q01 q0.1 0) .u64).bind fun qr=>K0 qr else none
@[simp] theorem y3d qr K0:R149 (r149 qr) K0=K0 qr:=by kernel_rfl
def q6j (k n:Nat) (c:Int) (b:List PV) (a:Nat) (d:List PV) (e f:Int) (g:List PV):R:=e0L k 149 [1,1,0,1,0] [] n ⟨mkT 87 [(0,s0i c),(2,s0r b),(7,s0z 0 a),(12,s0m d),(13,s0i e),(14,s0i f)],[.arr 76 0 0 false g]⟩
def c150 (k:Nat) (a:Int):R:=e0F k 150 [s0i a]
def r150 (qr:Int):R:=some ([.c (.p (PV.int .u64 qr))],[])
def R150:=R149
@[simp] theorem z2f qr K0:R150 (r150 qr) K0=K0 qr:=by kernel_rfl
def c151 (k:Nat) (c b a:Int) (l:List PV) (e d:Int):R:=evF P E T k 151 [s0p 0,s0i c,s0i b,s0i a] [[p0r l,p0n e,.p (PV.int .u64 d)]]
def r151 (l:List PV) (qr qr1:Int) (l1:List PV):R:=some ([.c (.own 133 2 l1)],[[.p (PV.row 0 0 l),.p (PV.int .i64 qr),.p (PV.int .u64 qr1)]])
def R151 (x0:R) (K0:List PV->Int->Int->List PV->R):R:=x0.bind fun q0=>bif q0y q0.2 [[.p (.row 0),.p (.int .i64),.p (.int .u64)]]&&q02 q0.1 [.c (.own 133 2)] then (cRow (q0w q0.2 0 0) 0).bind fun l=>(cInt (q0w q0.2 0 1) .i64).bind fun qr=>(cInt (q0w q0.2 0 2) .u64).bind fun qr1=>(q3z 133 2 (q01 q0.1 0)).bind fun l1=>K0 l qr qr1 l1 else none
@[simp] theorem q9s l qr qr1 l1 K0:R151 (r151 l qr qr1 l1) K0=K0 l qr qr1 l1:=by kernel_rfl
def c152 (k:Nat) (a:Int):R:=e0F k 152 [s0i a]
def r152 (qr:Int):R:=some ([.c (.p (PV.int .i64 qr))],[])
def R152:=R49
@[simp] theorem x0f qr K0:R152 (r152 qr) K0=K0 qr:=by kernel_rfl
def y01 (k:Nat) (e:List PV) (d a:Int) (l b:List PV):R:=e0F k 154 [s0r e,.s (.c (.cfn 155 [PV.agg [.int .i64 d,.int .i64 a,.row 2 0 l,.row 2 0 b]]))]
def y1w (b:Bool):R:=some ([.c (.p (PV.bool b))],[])
def y64:=q4n
@[simp] theorem x30 b K0:y64 (y1w b) K0=K0 b:=by kernel_rfl
def y02 (k:Nat) (a l:List PV):R:=e0F k 154 [s0r a,.s (.c (.cfn 217 [PV.agg [.row 2 0 l]]))]
def y1x (b:Bool):R:=some ([.c (.p (PV.bool b))],[])
def y65:=q4n
@[simp] theorem x31 b K0:y65 (y1x b) K0=K0 b:=by kernel_rfl
def y03 (k:Nat) (d:List PV) (b a:Int):R:=evF P E T k 154 [s0r d,.s (.c (.fn 288 [0,1]))] [[p0n b],[p0n a]]
def y1y (qr qr1:Int) (b:Bool):R:=some ([.c (.p (PV.bool b))],[[.p (PV.int .i64 qr)],[.p (PV.int .i64 qr1)]])
def y0p (x0:R) (K0:Int->Int->Bool->R):R:=x0.bind fun q0=>bif q0y q0.2 [[.p (.int .i64)],[.p (.int .i64)]]&&q02 q0.1 [.c (.p (.bool))] then (cInt (q0w q0.2 0 0) .i64).bind fun qr=>(cInt (q0w q0.2 1 0) .i64).bind fun qr1=>(q3d (q01 q0.1 0)).bind fun b=>K0 qr qr1 b else none
@[simp] theorem x7i qr qr1 b K0:y0p (y1y qr qr1 b) K0=K0 qr qr1 b:=by kernel_rfl
def c155 (k:Nat) (t:List PV) (d a:Int) (l b:List PV):R:=e0F k 155 [s0m t,.s (.c (.eptr (PV.agg [.int .i64 d,.int .i64 a,.row 2 0 l,.row 2 0 b]) 4 0))]
def r155 (b:Bool):R:=some ([.c (.p (PV.bool b))],[])
def R155:=R9
@[simp] theorem w9v b K0:R155 (r155 b) K0=K0 b:=by kernel_rfl
def c156 (k:Nat) (p b:Int) (c d v a:List PV):R:=e0F k 156 [s0g p b c d,s0a v,s0r a]
def r156 (l:List PV) (b:Bool):R:=some ([.c (.p (PV.row 0 0 l)),.c (.p (PV.bool b))],[])
def R156:=R51
@[simp] theorem w9w l b K0:R156 (r156 l b) K0=K0 l b:=by kernel_rfl
def x9c (k:Nat) (a:List PV):R:=x56 P E T k 156 156 [] [1,1,0] [] ⟨mkT 23 [(8,.s (.c (.p (PV.row 0 0 a))))],[]⟩
def c157 (k:Nat) (p b:Int) (c d a:List PV):R:=e0F k 157 [s0g p b c d,s0r a]
def r157 (l:List PV):R:=some ([.c (.p (PV.row 0 0 l))],[])
def R157:=R68
@[simp] theorem w9x l K0:R157 (r157 l) K0=K0 l:=by kernel_rfl
def y2l (k n:Nat) (a e:List PV) (f g i d:Int) (l h:List PV) (b:Nat) (j:List PV):R:=e0L k 157 [1,1,1,0,1,0] [] n ⟨mkT 54 [(1,s0r a),(2,s0p 0),(5,s0p 1),(6,.s (.c (.fn 216 [1]))),(17,s0m e),(18,s0i f),(19,s0i g)],[b0g i d l h,.box [.loc 2 0 0 0 b],.arr 24 0 0 false j]⟩
def z5i (k n:Nat) (d:List PV) (e f h b:Int) (l g:List PV) (a:Nat) (i:List PV):R:=e0L k 157 [1,1,1,1,0,1,0] [] n ⟨mkT 54 [(2,s0p 0),(5,s0p 1),(6,.s (.c (.fn 216 [1]))),(28,s0r d),(29,s0i e),(30,s0i f)],[b0g h b l g,.box [.loc 2 0 0 0 a],.arr 24 0 0 false i]⟩
def z12 (k m n:Nat) (t e:List PV) (f g h i b d:Int) (l j:List PV) (a:Nat) (o:List PV):R:=e0L k 157 [1,1,1,1,0,1,0,0,1,1,0,0,1,1,0] [m] n ⟨mkT 54 [(2,s0p 0),(5,s0p 1),(6,.s (.c (.fn 216 [1]))),(10,s0m t),(28,s0r e),(29,s0i f),(30,s0i g),(36,s0i h),(37,s0i i)],[b0g b d l j,.box [.loc 2 0 0 0 a],.arr 24 0 0 false o]⟩
def c158 (k:Nat) (p d:Int) (e f c a b:List PV):R:=e0F k 158 [s0g p d e f,s0r c,s0r a,s0r b]
def r158 (qr:Int):R:=some ([.c (.p (PV.int .i64 qr))],[])
def R158:=R49
@[simp] theorem w9y qr K0:R158 (r158 qr) K0=K0 qr:=by kernel_rfl
def c159 (k:Nat) (p a:Int) (b c v t:List PV):R:=e0F k 159 [s0g p a b c,s0a v,s0m t]
def r159 (l:List PV) (b:Bool):R:=some ([.agg [.p (PV.row 0 0 l)],.c (.p (PV.bool b))],[])
def R159 (x0:R) (K0:List PV->Bool->R):R:=x0.bind fun q0=>bif q0y q0.2 []&&q02 q0.1 [.agg [.p (.row 0)],.c (.p (.bool))] then (cRow (Dp.partAt q0.1 0 0) 0).bind fun l=>(q3d (q01 q0.1 1)).bind fun b=>K0 l b else none
@[simp] theorem x9n l b K0:R159 (r159 l b) K0=K0 l b:=by kernel_rfl
def c160 (k:Nat) (p b:Int) (c d a:List PV):R:=e0F k 160 [s0g p b c d,s0r a]
def r160 (l:List PV):R:=some ([.c (.p (PV.row 0 0 l))],[])
def R160:=R68
@[simp] theorem w9z l K0:R160 (r160 l) K0=K0 l:=by kernel_rfl
def y2m (k n:Nat) (b:List PV) (a:Nat) (d:List PV) (e f h c:Int) (l g i:List PV):R:=e0L k 160 [1,1,0,1,0] [] n ⟨mkT 51 [(1,s0r b),(2,s0p 0),(5,s0z 1 a),(14,s0m d),(15,s0i e),(16,s0i f)],[b0g h c l g,.arr 24 0 0 false i]⟩
def z5j (k n:Nat) (a:Nat) (c:List PV) (d e g b:Int) (l f h:List PV):R:=e0L k 160 [1,1,1,0,1,0] [] n ⟨mkT 51 [(2,s0p 0),(5,s0z 1 a),(25,s0r c),(26,s0i d),(27,s0i e)],[b0g g b l f,.arr 24 0 0 false h]⟩
def z13 (k j n:Nat) (a:Nat) (t d:List PV) (e f g h b c:Int) (l i m:List PV):R:=e0L k 160 [1,1,1,0,1,0,0,1,1,0,0,1,1,0] [j] n ⟨mkT 51 [(2,s0p 0),(5,s0z 1 a),(9,s0m t),(25,s0r d),(26,s0i e),(27,s0i f),(33,s0i g),(34,s0i h)],[b0g b c l i,.arr 24 0 0 false m]⟩
def c161 (k:Nat) (p d:Int) (e f c a b:List PV):R:=e0F k 161 [s0g p d e f,s0r c,s0r a,s0r b]
def r161 (qr:Int):R:=some ([.c (.p (PV.int .i64 qr))],[])
def R161:=R49
@[simp] theorem w90 qr K0:R161 (r161 qr) K0=K0 qr:=by kernel_rfl
def y2n (k n:Nat) (a b d:List PV) (e f h c:Int) (l g:List PV):R:=e0L k 161 [1,0,1,0] [] n ⟨mkT 25 [(2,s0r a),(3,s0r b),(4,s0p 0),(11,s0r d),(12,s0i e),(13,s0i f)],[b0g h c l g]⟩
def c162 (k:Nat) (p b:Int) (c d v:List PV) (a e:Int):R:=e0F k 162 [s0g p b c d,s0a v,s0i a,s0i e]
def r162 (l:List PV):R:=some ([.c (.p (PV.row 0 0 l))],[])
def R162:=R68
@[simp] theorem w91 l K0:R162 (r162 l) K0=K0 l:=by kernel_rfl
def z5k (k n:Nat) (i:Int) (a:Nat) (c:List PV) (d e h b:Int) (l f g j:List PV):R:=e0L k 162 [1,1,0,1,0] [] n ⟨mkT 33 [(3,s0i i),(4,s0p 0),(5,s0p 1),(9,s0z 2 a),(14,s0r c),(15,s0i d),(16,s0i e)],[b0g h b l f,.box [p0r g],.arr 3 0 0 false j]⟩
def c163 (k:Nat) (l:List PV) (a:Int):R:=e0F k 163 [s0r l,s0i a]
def r163 (b:Bool):R:=some ([.c (.p (PV.bool b))],[])
def R163:=R9
@[simp] theorem z6i b K0:R163 (r163 b) K0=K0 b:=by kernel_rfl
def y2o (k n:Nat) (a:Int) (b:List PV) (c d:Int):R:=e0L k 163 [1,0,1,0] [] n ⟨mkT 17 [(1,s0i a),(7,s0r b),(8,s0i c),(9,s0i d)],[]⟩
def c164 (k:Nat) (a:List PV):R:=e0F k 164 [s0r a]
def r164 (l:List PV):R:=some ([.agg [.own 3 0 l]],[])
def w4v:=R98p
def q6k (k n:Nat) (b:List PV) (c:Int) (h:List PV) (e f:Int) (d a:Nat) (i g:List PV):R:=e0L k 164 [1,1,1,0,1,0] [] n ⟨mkT 46 [(0,s0r b),(2,s0p 0),(3,s0p 1),(4,s0i c),(9,s0r h),(10,s0i e),(11,s0i f)],[.box [.loc 2 0 0 0 d],.box [.loc 3 0 0 0 a],.arr 3 0 0 false i,.arr 3 0 0 false g]⟩
def z5l (k m n:Nat) (c:List PV) (d i f a j:Int) (o:List PV) (g h:Int) (e b:Nat) (p l:List PV):R:=e0L k 164 [1,1,1,0,1,0,0,1,1,0,0,1,1,0,1,0] [m] n ⟨mkT 46 [(0,s0r c),(2,s0p 0),(3,s0p 1),(4,s0i d),(5,s0i i),(6,s0i f),(7,s0i a),(8,s0i j),(9,s0r o),(10,s0i g),(11,s0i h)],[.box [.loc 2 0 0 0 e],.box [.loc 3 0 0 0 b],.arr 3 0 0 false p,.arr 3 0 0 false l]⟩
def c165 (k:Nat) (v:List PV) (a:Int):R:=e0F k 165 [s0a v,s0i a]
def r165 (b:Bool):R:=some ([.c (.p (PV.bool b))],[])
def R165:=R9
@[simp] theorem w92 b K0:R165 (r165 b) K0=K0 b:=by kernel_rfl
def z14 (k n:Nat) (b a:Int) (e:List PV) (c d:Int) (l:List PV):R:=e0L k 165 [1,1,0,1,0] [] n ⟨mkT 33 [(1,s0i b),(2,s0p 0),(5,s0i a),(9,s0r e),(10,s0i c),(11,s0i d)],[.box [p0r l]]⟩
def c166 (k:Nat) (a:List PV):R:=e0F k 166 [s0m a]
def r166 (l:List PV):R:=some ([.agg [.own 3 0 l]],[])
def x7j:=R98p
def c167 (k:Nat) (x:List PV):R:=e0F k 167 [s0r x]
def r167 (qr:Int):R:=some ([.c (.p (PV.int .i64 qr))],[])
def R167:=R49
@[simp] theorem w93 qr K0:R167 (r167 qr) K0=K0 qr:=by kernel_rfl
def z5m (k n:Nat) (x:List PV) (m i:Int):R:=e0L k 167 [1,1,1,0,1,0] [] n ⟨mkT 25 [(0,s0r x),(3,s0i m),(4,s0i i)],[]⟩
def y04 (k:Nat) (a:List PV):R:=e0F k 168 [s0r a,.s (.c (.cfn 169 []))]
def z0i (qr:Int):R:=some ([.c (.p (PV.int .i64 qr))],[])
def y67:=R85p
@[simp] theorem x32 qr K0:y67 (z0i qr) K0=K0 qr:=by kernel_rfl
def q8x (k n:Nat) (a:List PV) (b d:Int):R:=q1a P E T k 168 170168 [] [1,0,1,0] [] n ⟨mkT 19 [(0,s0r a),(1,.s (.c (.cfn 169 []))),(7,s0i b),(8,s0i d)],[]⟩
def c169 (k:Nat) (a:List PV):R:=e0F k 169 [s0r a]
def r169 (b:Bool):R:=some ([.c (.p (PV.bool b))],[])
def R169:=R9
@[simp] theorem w94 b K0:R169 (r169 b) K0=K0 b:=by kernel_rfl
def c170 (k:Nat) (a:List PV):R:=e0F k 170 [s0r a]
def r170 (l:List PV):R:=some ([.c (.own 3 0 l)],[])
def x7k:=q52
def z5n (k n:Nat) (a:Nat) (b:List PV) (c d:Int) (e:List PV):R:=e0L k 170 [1,1,0,1,0] [] n ⟨mkT 21 [(3,s0z 0 a),(7,s0r b),(8,s0i c),(9,s0i d)],[.arr 3 0 0 false e]⟩
def z3e (k:Nat) (d l a:List PV) (b:Int):R:=e0F k 171 [.s (.c (.own 3 0 d)),.s (.c (.cfn 204 [PV.agg [.row 0 0 l],PV.agg [.row 0 0 a],PV.agg [.int .i64 b]]))]
def q7i (l:List PV):R:=some ([.c (.own 3 0 l)],[])
def y7:=q52
def q6n (k n:Nat) (a:Nat) (l b:List PV) (d i j:Int) (e:List PV):R:=q1a P E T k 171 205171 [] [1,1,1,0,1,0] [] n ⟨mkT 42 [(0,s0z 0 a),(1,.s (.c (.cfn 204 [PV.agg [.row 0 0 l],PV.agg [.row 0 0 b],PV.agg [.int .i64 d]]))),(5,s0i i),(6,s0i j)],[.arr 3 0 0 false e]⟩
def y05 (k:Nat) (g:List PV) (f a:Int) (l d e:List PV) (b:Int):R:=e0F k 171 [.s (.c (.own 3 0 g)),.s (.c (.cfn 174 [PV.agg [.int .i64 f,.int .i64 a,.row 2 0 l,.row 2 0 d],PV.agg [.row 0 0 e],PV.agg [.int .i64 b]]))]
def z0j (l:List PV):R:=some ([.c (.own 3 0 l)],[])
def y69:=q52
def q6m (k n:Nat) (a:Nat) (g b:Int) (l e f:List PV) (d i j:Int) (h:List PV):R:=q1a P E T k 171 175171 [] [1,1,1,0,1,0] [] n ⟨mkT 42 [(0,s0z 0 a),(1,.s (.c (.cfn 174 [PV.agg [.int .i64 g,.int .i64 b,.row 2 0 l,.row 2 0 e],PV.agg [.row 0 0 f],PV.agg [.int .i64 d]]))),(5,s0i i),(6,s0i j)],[.arr 3 0 0 false h]⟩
def q9w (k:Nat) (b l:List PV) (a:Int):R:=e0F k 171 [.s (.c (.own 3 0 b)),.s (.c (.cfn 172 [PV.agg [.row 0 0 l],PV.agg [.int .i64 a]]))]
def q7h (l:List PV):R:=some ([.c (.own 3 0 l)],[])
def z6j:=q52
def q6l (k n:Nat) (a:Nat) (l:List PV) (b i j:Int) (d:List PV):R:=q1a P E T k 171 173171 [] [1,1,1,0,1,0] [] n ⟨mkT 42 [(0,s0z 0 a),(1,.s (.c (.cfn 172 [PV.agg [.row 0 0 l],PV.agg [.int .i64 b]]))),(5,s0i i),(6,s0i j)],[.arr 3 0 0 false d]⟩
def c172 (k:Nat) (b:Int) (l:List PV) (a:Int):R:=e0F k 172 [s0i b,.s (.c (.eptr (PV.agg [.row 0 0 l]) 1 0)),.s (.c (.eptr (PV.agg [.int .i64 a]) 1 0))]
def r172 (b:Bool):R:=some ([.c (.p (PV.bool b))],[])
def R172:=R9
@[simp] theorem x9p b K0:R172 (r172 b) K0=K0 b:=by kernel_rfl
def c173 (k:Nat) (v:List PV) (a:Int):R:=e0F k 173 [s0a v,s0i a]
def r173 (l:List PV):R:=some ([.c (.own 3 0 l)],[])
def R173:=R57
@[simp] theorem x9q l K0:R173 (r173 l) K0=K0 l:=by kernel_rfl
def z5o (k n:Nat) (a:Int) (b:Nat) (c:List PV) (d e:Int) (f:List PV):R:=e0L k 173 [1,1,0,1,0] [] n ⟨mkT 26 [(1,s0i a),(5,s0z 0 b),(10,s0r c),(11,s0i d),(12,s0i e)],[.arr 3 0 0 false f]⟩
def c174 (k:Nat) (g f a:Int) (l d e:List PV) (b:Int):R:=e0F k 174 [s0i g,.s (.c (.eptr (PV.agg [.int .i64 f,.int .i64 a,.row 2 0 l,.row 2 0 d]) 4 0)),.s (.c (.eptr (PV.agg [.row 0 0 e]) 1 0)),.s (.c (.eptr (PV.agg [.int .i64 b]) 1 0))]
def r174 (b:Bool):R:=some ([.c (.p (PV.bool b))],[])
def R174:=R9
@[simp] theorem x9r b K0:R174 (r174 b) K0=K0 b:=by kernel_rfl
def c175 (k:Nat) (a:Int) (l:List PV) (b:Int):R:=e0F k 175 [s0i a,.s (.c (.eptr (PV.agg [.row 0 0 l]) 1 0)),.s (.c (.eptr (PV.agg [.int .i64 b]) 1 0))]
def r175 (b:Bool):R:=some ([.c (.p (PV.bool b))],[])
def R175:=R9
@[simp] theorem w95 b K0:R175 (r175 b) K0=K0 b:=by kernel_rfl
def c176 (k:Nat) (p d:Int) (e f:List PV) (a:Int) (l:List PV) (c b:Int):R:=evF P E T k 176 [s0p 0,s0g p d e f,s0i a] [[p0r l,p0n c,.p (PV.int .u64 b)]]
def r176 (l:List PV) (qr qr1:Int) (l1:List PV):R:=some ([.c (.p (PV.row 2 0 l1))],[[.p (PV.row 0 0 l),.p (PV.int .i64 qr),.p (PV.int .u64 qr1)]])
def R176:=R93
@[simp] theorem w96 l qr qr1 l1 K0:R176 (r176 l qr qr1 l1) K0=K0 l qr qr1 l1:=by kernel_rfl
def c177 (k:Nat) (a l:List PV) (c b:Int):R:=evF P E T k 177 [s0p 0,s0r a] [[p0r l,p0n c,.p (PV.int .u64 b)]]
def r177 (l:List PV) (qr qr1 qr2:Int):R:=some ([.c (.p (PV.int .i64 qr2))],[[.p (PV.row 0 0 l),.p (PV.int .i64 qr),.p (PV.int .u64 qr1)]])
def R177:=R56
@[simp] theorem q75 l qr qr1 qr2 K0:R177 (r177 l qr qr1 qr2) K0=K0 l qr qr1 qr2:=by kernel_rfl
def c178 (k:Nat) (a:Int):R:=e0F k 178 [s0i a]
def r178 (b:Bool):R:=some ([.c (.p (PV.bool b))],[])
def R178:=R9
@[simp] theorem x9s b K0:R178 (r178 b) K0=K0 b:=by kernel_rfl
def c179 (k:Nat) (p b:Int) (c d a:List PV):R:=e0F k 179 [s0g p b c d,s0r a]
def r179 (l:List PV):R:=some ([.agg [.p (PV.row 0 0 l)]],[])
def R179:=R79
@[simp] theorem w97 l K0:R179 (r179 l) K0=K0 l:=by kernel_rfl
def y99 (k n:Nat) (c:List PV) (d e h b:Int) (l f g:List PV) (a:Nat) (i:List PV):R:=e0L k 179 [1,1,0,1,0] [] n ⟨mkT 27 [(2,s0p 0),(4,s0p 1),(5,s0p 2),(12,s0r c),(13,s0i d),(14,s0i e)],[b0g h b l f,.box [p0r g],.box [.loc 3 0 0 0 a],.arr 3 0 0 false i]⟩
def z5p (k n:Nat) (b:List PV) (c d h a:Int) (l e f g:List PV):R:=e0L k 179 [1,1,0,1,0] [] n ⟨mkT 27 [(2,s0p 0),(4,s0p 1),(5,s0p 2),(12,s0r b),(13,s0i c),(14,s0i d)],[b0g h a l e,.box [p0r f],.box [p0r g]]⟩
def c180 (k:Nat) (a:List PV):R:=e0F k 180 [s0r a]
def r180 (l:List PV):R:=some ([.c (.own 24 0 l)],[])
def R180 (x0:R) (K0:List PV->R):R:=x0.bind fun q0=>bif q0y q0.2 []&&q02 q0.1 [.c (.own 24 0)] then (q3z 24 0 (q01 q0.1 0)).bind fun l=>K0 l else none
@[simp] theorem w98 l K0:R180 (r180 l) K0=K0 l:=by kernel_rfl
def y2p (k n:Nat) (a:List PV) (b:Int) (e:List PV) (c d:Int):R:=e0L k 180 [1,1,0,1,0] [] n ⟨mkT 36 [(0,s0r a),(3,s0i b),(9,s0r e),(10,s0i c),(11,s0i d)],[]⟩
def y2q (k n:Nat) (a:Nat) (b:List PV) (c d:Int) (e:List PV):R:=e0L k 180 [1,1,1,1,0,1,0] [] n ⟨mkT 36 [(6,s0z 0 a),(25,s0r b),(26,s0i c),(27,s0i d)],[.arr 24 0 0 false e]⟩
def c181 (k:Nat) (v a:List PV):R:=e0F k 181 [s0a v,s0r a]
def r181 (l:List PV):R:=some ([.c (.p (PV.row 0 0 l))],[])
def R181:=R68
@[simp] theorem y3e l K0:R181 (r181 l) K0=K0 l:=by kernel_rfl
def y2r (k n:Nat) (a:Nat) (c:List PV) (d b:Int) (l e:List PV):R:=e0L k 181 [1,1,0,1,0] [] n ⟨mkT 23 [(2,s0p 0),(5,s0z 1 a),(8,s0r c),(9,s0i d),(10,s0i b)],[.box [p0r l],.arr 3 0 0 false e]⟩
def c182 (k:Nat) (b a c:List PV):R:=e0F k 182 [s0r b,s0r a,s0r c]
def r182 (l:List PV) (b:Bool):R:=some ([.c (.p (PV.row 0 0 l)),.c (.p (PV.bool b))],[])
def R182:=R51
@[simp] theorem w99 l b K0:R182 (r182 l b) K0=K0 l b:=by kernel_rfl
def q71 (k n:Nat) (b c:List PV) (a:Int) (d:List PV) (e f:Int):R:=e0L k 182 [1,1,1,0,1,0] [] n ⟨mkT 82 [(0,s0r b),(8,s0r c),(9,s0i a),(19,s0r d),(20,s0i e),(21,s0i f)],[]⟩
def q9q (k n:Nat) (c d:List PV) (b:Int) (a:Nat) (e:List PV):R:=e0L k 182 [1,1,1,1,1,1,0,0] [] n ⟨mkT 82 [(0,s0r c),(8,s0r d),(9,s0i b),(12,s0z 0 a)],[.arr 3 0 0 false e]⟩
def z5q (k h n:Nat) (c d:List PV) (b:Int) (a:Nat) (e:List PV) (f g:Int) (i:List PV):R:=e0L k 182 [1,1,1,1,1,1,0,0,0,1,0,0,1,0] [h] n ⟨mkT 82 [(0,s0r c),(8,s0r d),(9,s0i b),(12,s0z 0 a),(59,s0r e),(60,s0i f),(61,s0i g)],[.arr 3 0 0 false i]⟩
def c183 (k:Nat) (p a:Int) (b c v:List PV):R:=e0F k 183 [s0g p a b c,s0a v]
def r183 (l:List PV):R:=some ([.c (.p (PV.row 0 0 l))],[])
def R183:=R68
@[simp] theorem v0a l K0:R183 (r183 l) K0=K0 l:=by kernel_rfl
def y2s (k n:Nat) (b:Nat) (a f c:Int) (l d e g:List PV):R:=e0L k 183 [1,1,0,1,0] [] n ⟨mkT 21 [(2,s0p 0),(3,s0p 1),(5,s0z 2 b),(6,s0i a)],[b0g f c l d,.box [p0r e],.arr 28 0 0 false g]⟩
def c184 (k:Nat) (p b:Int) (c d:List PV) (a:Int):R:=e0F k 184 [s0g p b c d,s0i a]
def r184 (l:List PV):R:=some ([.c (.p (PV.row 0 0 l))],[])
def R184:=R68
@[simp] theorem y3f l K0:R184 (r184 l) K0=K0 l:=by kernel_rfl
def z5r (k n:Nat) (h:Int) (i:List PV) (a:Nat) (c:List PV) (d e g b:Int) (l f j:List PV):R:=e0L k 184 [1,1,1,0,1,0] [] n ⟨mkT 35 [(1,s0i h),(2,s0p 0),(5,s0r i),(6,s0z 1 a),(14,s0r c),(15,s0i d),(16,s0i e)],[b0g g b l f,.arr 3 0 0 false j]⟩
def c185 (k:Nat) (p a:Int) (b c:List PV):R:=e0F k 185 [s0g p a b c]
def r185 (b:Bool):R:=some ([.c (.p (PV.bool b))],[])
def R185:=R9
@[simp] theorem v0b b K0:R185 (r185 b) K0=K0 b:=by kernel_rfl
def c186 (k:Nat) (g a:List PV):R:=e0F k 186 [s0r g,s0r a]
def r186 (l:List PV):R:=some ([.c (.p (PV.row 0 0 l))],[])
def R186:=R68
@[simp] theorem v0c l K0:R186 (r186 l) K0=K0 l:=by kernel_rfl
def z5s (k n:Nat) (a:Nat) (b:List PV) (c d:Int) (e:List PV):R:=e0L k 186 [1,1,0,1,0] [] n ⟨mkT 26 [(5,s0z 0 a),(11,s0r b),(12,s0i c),(13,s0i d)],[.arr 3 0 0 false e]⟩
def c187 (k:Nat) (c b:Int) (t:List PV) (a:Int):R:=e0F k 187 [s0i c,s0i b,s0m t,s0i a]
def r187 (b:Bool):R:=some ([.c (.p (PV.bool b))],[])
def R187:=R9
@[simp] theorem x0g b K0:R187 (r187 b) K0=K0 b:=by kernel_rfl
def c188 (k:Nat) (p a:Int) (b c v:List PV):R:=e0F k 188 [s0g p a b c,s0a v]
def r188 (l:List PV):R:=some ([.c (.p (PV.row 0 0 l))],[])
def R188:=R68
@[simp] theorem x9t l K0:R188 (r188 l) K0=K0 l:=by kernel_rfl
def y2t (k n:Nat) (a:Nat) (g c f b:Int) (l d e h:List PV):R:=e0L k 188 [1,1,0,1,0] [] n ⟨mkT 22 [(2,s0p 0),(3,s0p 1),(5,s0z 2 a),(9,s0i g),(10,s0i c)],[b0g f b l d,.box [p0r e],.arr 28 0 0 false h]⟩
def c190 (k:Nat) (b a:Int) (l:List PV) (d c:Int):R:=evF P E T k 190 [s0p 0,s0i b,s0i a] [[p0r l,p0n d,.p (PV.int .u64 c)]]
def r190 (l:List PV) (qr qr1 qr2 qr3:Int) (l1 l2:List PV):R:=some ([.agg [.p (PV.int .i64 qr2),.p (PV.int .i64 qr3),.p (PV.row 2 0 l1),.own ⟨136,some ⟨1,138,2,0,none⟩⟩ 2 l2]],[[.p (PV.row 0 0 l),.p (PV.int .i64 qr),.p (PV.int .u64 qr1)]])
def R190:=R118
@[simp] theorem v0d l qr qr1 qr2 qr3 l1 l2 K0:R190 (r190 l qr qr1 qr2 qr3 l1 l2) K0=K0 l qr qr1 qr2 qr3 l1 l2:=by kernel_rfl
def z5t (k n:Nat) (c b r:Int) (l:List PV) (e f g h:Int) (o q:List PV) (i j:Int) (d a:Nat) (s m:List PV):R:=q1a P E T k 190 190 [3] [1,1,1,1,0,1,0] [] n ⟨mkT 44 [(0,s0p 0),(1,s0i c),(2,s0i b),(6,s0p 1),(7,s0p 2),(8,s0i r)],[.box [p0r l,p0n e,.p (PV.int .u64 f)],b0g g h o q,.box [p0n i,p0n j,.loc 3 0 2 0 d,.loc 4 0 2 0 a],.arr 133 2 0 false s,.arr ⟨136,some ⟨1,138,2,0,none⟩⟩ 2 0 false m]⟩
def c192 (k:Nat) (l:List PV) (a:Int):R:=e0F k 192 [.s (.c (.own 3 0 l)),s0i a]
def r192 (l:List PV):R:=some ([.c (.own 3 0 l)],[])
def R192:=R57
@[simp] theorem y3g l K0:R192 (r192 l) K0=K0 l:=by kernel_rfl
def y2u (k n:Nat) (a:Nat) (c b:Int) (d:List PV):R:=e0L k 192 [1,1,0,0] [] n ⟨mkT 48 [(0,s0z 0 a),(1,s0i c),(5,s0i b)],[.arr 3 0 0 false d]⟩
def c193 (k:Nat) (l:List PV) (b a:Int):R:=e0F k 193 [s0r l,s0i b,s0i a]
def r193 (b:Bool):R:=some ([.c (.p (PV.bool b))],[])
def R193:=R9
@[simp] theorem v0e b K0:R193 (r193 b) K0=K0 b:=by kernel_rfl
def z5u (k n:Nat) (l:List PV) (d c:Int) (e:List PV) (a b:Int):R:=e0L k 193 [1,0,1,0] [] n ⟨mkT 35 [(0,s0r l),(1,s0i d),(2,s0i c),(9,s0r e),(10,s0i a),(11,s0i b)],[]⟩
def c194 (k:Nat) (p a:Int) (b c t d:List PV):R:=e0F k 194 [s0g p a b c,s0m t,s0r d]
def r194 (b:Bool):R:=some ([.c (.p (PV.bool b))],[])
def R194:=R9
@[simp] theorem x9u b K0:R194 (r194 b) K0=K0 b:=by kernel_rfl
def c195 (k:Nat) (p b:Int) (c d:List PV) (a:Int):R:=e0F k 195 [s0g p b c d,s0i a]
def r195 (l:List PV):R:=some ([.c (.p (PV.row 0 0 l))],[])
def R195:=R68
@[simp] theorem x9v l K0:R195 (r195 l) K0=K0 l:=by kernel_rfl
def y2v (k n:Nat) (e:Int) (a:Nat) (v d b:Int) (l c f:List PV):R:=e0L k 195 [1,1,0,1,0] [] n ⟨mkT 31 [(1,s0i e),(2,s0p 0),(5,s0z 1 a),(6,s0i v)],[b0g d b l c,.arr 76 0 0 false f]⟩
def c196 (k:Nat) (b a:Int) (t:List PV):R:=e0F k 196 [s0i b,s0i a,s0m t]
def r196 (qr:Int):R:=some ([.c (.p (PV.int .i64 qr))],[])
def R196:=R49
@[simp] theorem y3h qr K0:R196 (r196 qr) K0=K0 qr:=by kernel_rfl
def z5v (k n:Nat) (c b:Int) (a:Nat) (d:List PV) (e f:Int) (g:List PV):R:=e0L k 196 [1,1,1,0,1,0] [] n ⟨mkT 83 [(0,s0i c),(1,s0i b),(7,s0z 0 a),(27,s0m d),(28,s0i e),(29,s0i f)],[.arr 3 0 0 false g]⟩
def y2w (k j n:Nat) (e d:Int) (a:Nat) (b c f:Int) (g:List PV) (h i:Int) (l:List PV):R:=e0L k 196 [1,1,1,0,1,0,0,1,1,0,0,1,1,1,0,0] [j] n ⟨mkT 83 [(0,s0i e),(1,s0i d),(7,s0z 0 a),(10,s0i b),(11,s0i c),(12,s0i f),(27,s0m g),(28,s0i h),(29,s0i i)],[.arr 3 0 0 false l]⟩
def c197 (k:Nat) (g a b:List PV):R:=e0F k 197 [s0r g,s0r a,s0r b]
def r197 (l:List PV):R:=some ([.c (.p (PV.rowN 0 l))],[])
def R197:=R128
@[simp] theorem v0f (l:List PV) (K0:List PV->R):R197 (r197 l) K0=K0 l:=by cases l <;> kernel_rfl
def q72 (k n:Nat) (g:List PV) (a:Int) (b:List PV) (c d:Int) (l:List PV):R:=e0L k 197 [1,1,0,1,0] [] n ⟨mkT 75 [(0,s0r g),(7,s0p 0),(8,s0i a),(18,s0r b),(19,s0i c),(20,s0i d)],[.box [p0r l]]⟩
def z5w (k n:Nat) (g:List PV) (a:Nat) (l:List PV) (b:Int) (c:List PV):R:=e0L k 197 [1,1,1,1,1,0,1,0] [] n ⟨mkT 75 [(0,s0r g),(7,s0p 0),(11,s0z 2 a),(12,s0p 1)],[.box [p0r l],.box [p0n b],.arr 3 0 0 false c]⟩
def c198 (k:Nat) (p b:Int) (d e f a:List PV):R:=e0F k 198 [s0g p b d e,.s (.c (.p (PV.agg [.row 2 0 f,.row 2 0 a])))]
def r198 (b:Bool):R:=some ([.c (.p (PV.bool b))],[])
def R198:=R9
@[simp] theorem v0g b K0:R198 (r198 b) K0=K0 b:=by kernel_rfl
def z15 (k n:Nat) (b:List PV) (c d h a:Int) (l e f g:List PV):R:=e0L k 198 [1,1,0,1,0] [] n ⟨mkT 62 [(2,s0p 0),(3,s0p 1),(21,s0m b),(22,s0i c),(23,s0i d)],[b0g h a l e,.box [p0m f,p0m g]]⟩
def c199 (k:Nat) (p b:Int) (c d a:List PV):R:=e0F k 199 [s0g p b c d,s0r a]
def r199 (l:List PV) (b:Bool):R:=some ([.agg [.own 3 0 l],.c (.p (PV.bool b))],[])
def R199 (x0:R) (K0:List PV->Bool->R):R:=x0.bind fun q0=>bif q0y q0.2 []&&q02 q0.1 [.agg [.own 3 0],.c (.p (.bool))] then (q3z 3 0 (Dp.partAt q0.1 0 0)).bind fun l=>(q3d (q01 q0.1 1)).bind fun b=>K0 l b else none
@[simp] theorem v0h l b K0:R199 (r199 l b) K0=K0 l b:=by kernel_rfl
def c200 (k:Nat) (p b:Int) (c d v a:List PV):R:=e0F k 200 [s0g p b c d,s0a v,s0r a]
def r200 (l:List PV) (b:Bool):R:=some ([.agg [.own 3 0 l],.c (.p (PV.bool b))],[])
def w4w (x0:R) (K0:List PV->Bool->R):R:=x0.bind fun q0=>bif q0.1.all q0z&&q0.2.all (fun cs=>cs.all q1m) then (bif q0y q0.2 []&&q02 q0.1 [.agg [.own 3 0],.c (.p (.bool))] then (q3z 3 0 (Dp.partAt q0.1 0 0)).bind fun l=>(q3d (q01 q0.1 1)).bind fun b=>K0 l b else none) else none
def c202 (k:Nat) (p b:Int) (c d v:List PV) (a:Int):R:=e0F k 202 [s0g p b c d,s0a v,s0i a]
def r202 (l:List PV):R:=some ([.c (.p (PV.row 0 0 l))],[])
def R202:=R68
@[simp] theorem v0i l K0:R202 (r202 l) K0=K0 l:=by kernel_rfl
def c204 (k:Nat) (d:Int) (l a:List PV) (b:Int):R:=e0F k 204 [s0i d,.s (.c (.eptr (PV.agg [.row 0 0 l]) 1 0)),.s (.c (.eptr (PV.agg [.row 0 0 a]) 1 0)),.s (.c (.eptr (PV.agg [.int .i64 b]) 1 0))]
def r204 (b:Bool):R:=some ([.c (.p (PV.bool b))],[])
def R204:=R9
@[simp] theorem x9x b K0:R204 (r204 b) K0=K0 b:=by kernel_rfl
def c205 (k:Nat) (b:Int) (l:List PV) (a:Int):R:=e0F k 205 [s0i b,.s (.c (.eptr (PV.agg [.row 0 0 l]) 1 0)),.s (.c (.eptr (PV.agg [.int .i64 a]) 1 0))]
def r205 (b:Bool):R:=some ([.c (.p (PV.bool b))],[])
def R205:=R9
@[simp] theorem v0j b K0:R205 (r205 b) K0=K0 b:=by kernel_rfl
def c206 (k:Nat) (d:Int) (l a:List PV) (b:Int):R:=e0F k 206 [s0i d,.s (.c (.eptr (PV.agg [.row 0 0 l]) 1 0)),.s (.c (.eptr (PV.agg [.row 0 0 a]) 1 0)),.s (.c (.eptr (PV.agg [.int .i64 b]) 1 0))]
def r206 (b:Bool):R:=some ([.c (.p (PV.bool b))],[])
def R206:=R9
@[simp] theorem v0k b K0:R206 (r206 b) K0=K0 b:=by kernel_rfl
def c208 (k:Nat) (v:List PV):R:=e0F k 208 [s0a v]
def r208 (qr:Int):R:=some ([.c (.p (PV.int .i64 qr))],[])
def R208:=R49
@[simp] theorem v0l qr K0:R208 (r208 qr) K0=K0 qr:=by kernel_rfl
def z5x (k n:Nat) (a:Int) (b:List PV) (c d:Int):R:=e0L k 208 [1,1,0,1,0] [] n ⟨mkT 20 [(3,s0i a),(7,s0r b),(8,s0i c),(9,s0i d)],[]⟩
def c209 (k:Nat) (x y:Int):R:=e0F k 209 [.s (.c (.p (PV.int .u64 x))),.s (.c (.p (PV.int .u64 y)))]
def r209 (qr qr1:Int):R:=some ([.c (.p (PV.int .u64 qr)),.c (.p (PV.int .u64 qr1))],[])
def R209 (x0:R) (K0:Int->Int->R):R:=x0.bind fun q0=>bif q0y q0.2 []&&q02 q0.1 [.c (.p (.int .u64)),.c (.p (.int .u64))] then (cInt (q01 q0.1 0) .u64).bind fun qr=>(cInt (q01 q0.1 1) .u64).bind fun qr1=>K0 qr qr1 else none
@[simp] theorem v0m qr qr1 K0:R209 (r209 qr qr1) K0=K0 qr qr1:=by kernel_rfl
def c210 (k:Nat) (a:List PV):R:=e0F k 210 [s0r a]
def r210 (l:List PV):R:=some ([.c (.own 76 0 l)],[])
def R210 (x0:R) (K0:List PV->R):R:=x0.bind fun q0=>bif q0y q0.2 []&&q02 q0.1 [.c (.own 76 0)] then (q3z 76 0 (q01 q0.1 0)).bind fun l=>K0 l else none
@[simp] theorem v0n l K0:R210 (r210 l) K0=K0 l:=by kernel_rfl
def c213 (k:Nat) (d e a b:Int):R:=e0F k 213 [s0i d,s0i e,.s (.c (.p (PV.int .u64 a))),.s (.c (.p (PV.int .u64 b)))]
def r213 (qr:Int):R:=some ([.c (.p (PV.int .u64 qr))],[])
def R213:=R149
@[simp] theorem v0o qr K0:R213 (r213 qr) K0=K0 qr:=by kernel_rfl
def c214 (k:Nat) (c b a:Int) (l:List PV) (e d:Int):R:=evF P E T k 214 [s0p 0,s0i c,s0i b,s0i a] [[p0r l,p0n e,.p (PV.int .u64 d)]]
def r214 (l:List PV) (qr qr1:Int) (l1:List PV):R:=some ([.c (.own 133 2 l1)],[[.p (PV.row 0 0 l),.p (PV.int .i64 qr),.p (PV.int .u64 qr1)]])
def R214:=R151
@[simp] theorem z2g l qr qr1 l1 K0:R214 (r214 l qr qr1 l1) K0=K0 l qr qr1 l1:=by kernel_rfl
def y06 (k:Nat) (e:List PV) (d a:Int) (l b:List PV):R:=e0F k 215 [s0r e,.s (.c (.cfn 155 [PV.agg [.int .i64 d,.int .i64 a,.row 2 0 l,.row 2 0 b]]))]
def z0k (qr:Int):R:=some ([.c (.p (PV.int .i64 qr))],[])
def y7a:=R85p
@[simp] theorem x33 qr K0:y7a (z0k qr) K0=K0 qr:=by kernel_rfl
def q8y (k n:Nat) (e:List PV) (d a:Int) (l b:List PV) (f g:Int):R:=q1a P E T k 215 156215 [] [1,0,1,0] [] n ⟨mkT 19 [(0,s0r e),(1,.s (.c (.cfn 155 [PV.agg [.int .i64 d,.int .i64 a,.row 2 0 l,.row 2 0 b]]))),(7,s0i f),(8,s0i g)],[]⟩
def y08 (k:Nat) (g:List PV) (f a:Int) (l b d e:List PV):R:=e0F k 215 [s0r g,.s (.c (.cfn 221 [PV.agg [.int .i64 f,.int .i64 a,.row 2 0 l,.row 2 0 b],PV.agg [.row 0 0 d],PV.agg [.row 0 0 e]]))]
def z0m (qr:Int):R:=some ([.c (.p (PV.int .i64 qr))],[])
def y7c:=R85p
@[simp] theorem x35 qr K0:y7c (z0m qr) K0=K0 qr:=by kernel_rfl
def q80 (k n:Nat) (g:List PV) (f a:Int) (l b d e:List PV) (h i:Int):R:=q1a P E T k 215 222215 [] [1,0,1,0] [] n ⟨mkT 19 [(0,s0r g),(1,.s (.c (.cfn 221 [PV.agg [.int .i64 f,.int .i64 a,.row 2 0 l,.row 2 0 b],PV.agg [.row 0 0 d],PV.agg [.row 0 0 e]]))),(7,s0i h),(8,s0i i)],[]⟩
def y07 (k:Nat) (a l:List PV):R:=e0F k 215 [s0r a,.s (.c (.cfn 217 [PV.agg [.row 2 0 l]]))]
def z0l (qr:Int):R:=some ([.c (.p (PV.int .i64 qr))],[])
def y7b:=R85p
@[simp] theorem x34 qr K0:y7b (z0l qr) K0=K0 qr:=by kernel_rfl
def q8z (k n:Nat) (a l:List PV) (b d:Int):R:=q1a P E T k 215 218215 [] [1,0,1,0] [] n ⟨mkT 19 [(0,s0r a),(1,.s (.c (.cfn 217 [PV.agg [.row 2 0 l]]))),(7,s0i b),(8,s0i d)],[]⟩
def x02 (k:Nat) (d:List PV) (b a:Int):R:=evF P E T k 215 [s0r d,.s (.c (.fn 288 [0,1]))] [[p0n b],[p0n a]]
def z0n (qr qr1 qr2:Int):R:=some ([.c (.p (PV.int .i64 qr2))],[[.p (PV.int .i64 qr)],[.p (PV.int .i64 qr1)]])
def x0h (x0:R) (K0:Int->Int->Int->R):R:=x0.bind fun q0=>bif q0y q0.2 [[.p (.int .i64)],[.p (.int .i64)]]&&q02 q0.1 [.c (.p (.int .i64))] then (cInt (q0w q0.2 0 0) .i64).bind fun qr=>(cInt (q0w q0.2 1 0) .i64).bind fun qr1=>(cInt (q01 q0.1 0) .i64).bind fun qr2=>K0 qr qr1 qr2 else none
@[simp] theorem x7l qr qr1 qr2 K0:x0h (z0n qr qr1 qr2) K0=K0 qr qr1 qr2:=by kernel_rfl
def q6o (k n:Nat) (d:List PV) (e f b a:Int):R:=q1a P E T k 215 289215 [1,1] [1,0,1,0] [] n ⟨mkT 19 [(0,s0r d),(1,.s (.c (.fn 288 [0,1]))),(7,s0i e),(8,s0i f)],[.box [p0n b],.box [p0n a]]⟩
def c216 (k:Nat) (t l:List PV):R:=evF P E T k 216 [s0m t,s0p 0] [[.own 24 0 l]]
def r216 (l:List PV):R:=some ([],[[.own 24 0 l]])
def R216 (x0:R) (K0:List PV->R):R:=x0.bind fun q0=>bif q0y q0.2 [[.own 24 0]]&&q02 q0.1 [] then (q3z 24 0 (q0w q0.2 0 0)).bind fun l=>K0 l else none
@[simp] theorem x9y l K0:R216 (r216 l) K0=K0 l:=by kernel_rfl
def c217 (k:Nat) (a l:List PV):R:=e0F k 217 [s0m a,.s (.c (.eptr (PV.agg [.row 2 0 l]) 1 0))]
def r217 (b:Bool):R:=some ([.c (.p (PV.bool b))],[])
def R217:=R9
@[simp] theorem v0p b K0:R217 (r217 b) K0=K0 b:=by kernel_rfl
def c218 (k:Nat) (a b:List PV):R:=e0F k 218 [s0m a,s0m b]
def r218 (b:Bool):R:=some ([.c (.p (PV.bool b))],[])
def R218:=R9
@[simp] theorem v0q b K0:R218 (r218 b) K0=K0 b:=by kernel_rfl
def y2x (k n:Nat) (a b:List PV) (c d:Int):R:=e0L k 218 [1,1,0,1,0] [] n ⟨mkT 26 [(0,s0m a),(1,s0m b),(12,s0i c),(13,s0i d)],[]⟩
def c219 (k:Nat) (a:List PV):R:=e0F k 219 [s0m a]
def r219 (l:List PV):R:=some ([.c (.own 133 2 l)],[])
def R219 (x0:R) (K0:List PV->R):R:=x0.bind fun q0=>bif q0y q0.2 []&&q02 q0.1 [.c (.own 133 2)] then (q3z 133 2 (q01 q0.1 0)).bind fun l=>K0 l else none
@[simp] theorem v0r l K0:R219 (r219 l) K0=K0 l:=by kernel_rfl
def c220 (k:Nat) (p b:Int) (c d:List PV) (a:Int) (t:List PV):R:=e0F k 220 [s0g p b c d,s0i a,s0m t]
def r220 (l:List PV) (b:Bool):R:=some ([.c (.p (PV.row 2 0 l)),.c (.p (PV.bool b))],[])
def R220 (x0:R) (K0:List PV->Bool->R):R:=x0.bind fun q0=>bif q0y q0.2 []&&q02 q0.1 [.c (.p (.row 2)),.c (.p (.bool))] then (cRow (q01 q0.1 0) 2).bind fun l=>(q3d (q01 q0.1 1)).bind fun b=>K0 l b else none
@[simp] theorem v0s l b K0:R220 (r220 l b) K0=K0 l b:=by kernel_rfl
def y2y (k n:Nat) (e:Int) (t:List PV) (a:Nat) (c d g b:Int) (l f h:List PV):R:=e0L k 220 [1,1,0,1,0] [] n ⟨mkT 53 [(1,s0i e),(2,s0m t),(3,s0p 0),(8,s0z 1 a),(14,s0i c),(15,s0i d)],[b0g g b l f,.arr 24 0 0 false h]⟩
def z5y (k n:Nat) (t:List PV) (a:Nat) (c:List PV) (d e g b:Int) (l f h:List PV):R:=e0L k 220 [1,1,1,0,1,0] [] n ⟨mkT 53 [(2,s0m t),(3,s0p 0),(8,s0z 1 a),(31,s0m c),(32,s0i d),(33,s0i e)],[b0g g b l f,.arr 24 0 0 false h]⟩
def c221 (k:Nat) (t:List PV) (f a:Int) (l b d e:List PV):R:=e0F k 221 [s0m t,.s (.c (.eptr (PV.agg [.int .i64 f,.int .i64 a,.row 2 0 l,.row 2 0 b]) 4 0)),.s (.c (.eptr (PV.agg [.row 0 0 d]) 1 0)),.s (.c (.eptr (PV.agg [.row 0 0 e]) 1 0))]
def r221 (b:Bool):R:=some ([.c (.p (PV.bool b))],[])
def R221:=R9
@[simp] theorem v0t b K0:R221 (r221 b) K0=K0 b:=by kernel_rfl
def c222 (k:Nat) (p c:Int) (d e t a b:List PV):R:=e0F k 222 [s0g p c d e,s0m t,s0r a,s0r b]
def r222 (b:Bool):R:=some ([.c (.p (PV.bool b))],[])
def R222:=R9
@[simp] theorem v0u b K0:R222 (r222 b) K0=K0 b:=by kernel_rfl
def c223 (k:Nat) (p b:Int) (c d a:List PV):R:=e0F k 223 [s0g p b c d,s0r a]
def r223 (l:List PV) (b:Bool):R:=some ([.agg [.p (PV.row 0 0 l)],.c (.p (PV.bool b))],[])
def R223:=R159
@[simp] theorem v0v l b K0:R223 (r223 l b) K0=K0 l b:=by kernel_rfl
def z5z (k n:Nat) (b:List PV) (a:Nat) (e f i d:Int) (l g h j:List PV):R:=e0L k 223 [1,1,1,0,1,0] [] n ⟨mkT 59 [(1,s0r b),(2,s0p 0),(4,s0p 1),(6,.s (.c (.loc 2 0 2 0 a))),(25,s0i e),(26,s0i f)],[b0g i d l g,.box [p0r h],.arr 164 2 0 false j]⟩
def z50 (k p n:Nat) (b:List PV) (a:Nat) (q:Int) (r:List PV) (f g:Int) (h:List PV) (i j d e:Int) (l m o t:List PV):R:=e0L k 223 [1,1,1,0,1,0,0,1,1,0,0,1,1,1,0] [p] n ⟨mkT 59 [(1,s0r b),(2,s0p 0),(4,s0p 1),(6,.s (.c (.loc 2 0 2 0 a))),(7,s0i q),(8,s0r r),(25,s0i f),(26,s0i g),(32,s0r h),(33,s0i i),(34,s0i j)],[b0g d e l m,.box [p0r o],.arr 164 2 0 false t]⟩
def c224 (k:Nat) (l t:List PV):R:=e0F k 224 [.s (.c (.own 24 0 l)),s0m t]
def r224 (l:List PV):R:=some ([.c (.own 24 0 l)],[])
def R224:=R180
@[simp] theorem x9z l K0:R224 (r224 l) K0=K0 l:=by kernel_rfl
def z52 (k n:Nat) (b:Nat) (t:List PV) (a:Nat) (c d:Int) (e:List PV):R:=e0L k 224 [1,0,1,0] [] n ⟨mkT 28 [(0,s0z 0 b),(1,s0m t),(7,s0z 0 a),(8,s0i c),(9,s0i d)],[.arr 24 0 0 false e]⟩
def c225 (k:Nat) (p b:Int) (c d:List PV) (a:Int) (t:List PV):R:=e0F k 225 [s0g p b c d,s0i a,s0m t]
def r225 (l:List PV) (b:Bool):R:=some ([.c (.p (PV.row 2 0 l)),.c (.p (PV.bool b))],[])
def R225:=R220
@[simp] theorem v0w l b K0:R225 (r225 l b) K0=K0 l b:=by kernel_rfl
def y2z (k n:Nat) (c:Int) (t:List PV) (a:Nat) (v e b:Int) (l d f:List PV):R:=e0L k 225 [1,1,0,1,0] [] n ⟨mkT 52 [(1,s0i c),(2,s0m t),(3,s0p 0),(8,s0z 1 a),(9,s0i v)],[b0g e b l d,.arr 24 0 0 false f]⟩
def z54 (k n:Nat) (t:List PV) (a:Nat) (c:List PV) (d e g b:Int) (l f h:List PV):R:=e0L k 225 [1,1,1,0,1,0] [] n ⟨mkT 52 [(2,s0m t),(3,s0p 0),(8,s0z 1 a),(30,s0m c),(31,s0i d),(32,s0i e)],[b0g g b l f,.arr 24 0 0 false h]⟩
def c226 (k:Nat) (p c:Int) (d e t a b:List PV):R:=e0F k 226 [s0g p c d e,s0m t,s0r a,s0r b]
def r226 (b:Bool):R:=some ([.c (.p (PV.bool b))],[])
def R226:=R9
@[simp] theorem v0x b K0:R226 (r226 b) K0=K0 b:=by kernel_rfl
def c227 (k:Nat) (v:List PV) (a:Int):R:=e0F k 227 [s0a v,s0i a]
def r227 (l:List PV):R:=some ([.c (.p (PV.row 0 0 l))],[])
def R227:=R68
@[simp] theorem x90 l K0:R227 (r227 l) K0=K0 l:=by kernel_rfl
def z55 (k n:Nat) (a:Int) (b:Nat) (e:List PV) (c d:Int) (f:List PV):R:=e0L k 227 [1,1,0,1,0] [] n ⟨mkT 25 [(1,s0i a),(5,s0z 0 b),(9,s0r e),(10,s0i c),(11,s0i d)],[.arr 3 0 0 false f]⟩
def c228 (k:Nat) (b:List PV) (a:Int):R:=e0F k 228 [.s (.c (.p (PV.row 0 2 b))),s0i a]
def r228 (l:List PV):R:=some ([.c (.own 24 0 l)],[])
def R228:=R180
@[simp] theorem v0y l K0:R228 (r228 l) K0=K0 l:=by kernel_rfl
def c229 (k:Nat) (b a:List PV):R:=e0F k 229 [s0r b,s0r a]
def r229 (l:List PV):R:=some ([.c (.p (PV.row 0 0 l))],[])
def R229:=R68
@[simp] theorem v0z l K0:R229 (r229 l) K0=K0 l:=by kernel_rfl
def z56 (k n:Nat) (c b:List PV) (a:Nat) (d e:Int) (f:List PV):R:=e0L k 229 [1,1,0,1,0] [] n ⟨mkT 73 [(0,s0r c),(1,s0r b),(5,s0z 0 a),(17,s0i d),(18,s0i e)],[.arr 3 0 0 false f]⟩
def z16 (k n:Nat) (c b:List PV) (a:Nat) (d:List PV) (e f:Int) (g:List PV):R:=e0L k 229 [1,1,1,0,1,0] [] n ⟨mkT 73 [(0,s0r c),(1,s0r b),(5,s0z 0 a),(25,s0r d),(26,s0i e),(27,s0i f)],[.arr 3 0 0 false g]⟩
def z17 (k n:Nat) (c:List PV) (a b:Nat) (e d:List PV):R:=e0L k 229 [1,1,1,1,1,0,0] [] n ⟨mkT 73 [(0,s0r c),(5,s0z 0 a),(9,s0z 1 b)],[.arr 3 0 0 false e,.arr 3 0 0 false d]⟩
def z18 (k l n:Nat) (e:List PV) (a d b:Nat) (j:Int) (f:List PV) (g h:Int) (m i:List PV):R:=e0L k 229 [1,1,1,1,1,0,0,0,1,0,1,1,1,0] [l] n ⟨mkT 73 [(0,s0r e),(5,s0z 0 a),(9,.s (.c (.loc 1 0 0 d b))),(10,s0i j),(48,s0r f),(49,s0i g),(50,s0i h)],[.arr 3 0 0 false m,.arr 3 0 0 false i]⟩
def z57 (k i n:Nat) (c:List PV) (a b:Nat) (h:Int) (d:List PV) (e f:Int) (j g:List PV):R:=e0L k 229 [1,1,1,1,1,0,0,0,1,0,1,1,1,0] [i] n ⟨mkT 73 [(0,s0r c),(5,s0z 0 a),(9,s0z 1 b),(10,s0i h),(48,s0r d),(49,s0i e),(50,s0i f)],[.arr 3 0 0 false j,.arr 3 0 0 false g]⟩
def z19 (k n:Nat) (e:List PV) (a d b:Nat) (g f:List PV):R:=e0L k 229 [1,1,1,1,1,0,0] [] n ⟨mkT 73 [(0,s0r e),(5,s0z 0 a),(9,.s (.c (.loc 1 0 0 d b)))],[.arr 3 0 0 false g,.arr 3 0 0 false f]⟩
def c230 (k:Nat) (a:List PV):R:=e0F k 230 [s0r a]
def r230 (l:List PV):R:=some ([.c (.p (PV.row 0 0 l))],[])
def R230:=R68
@[simp] theorem v00 l K0:R230 (r230 l) K0=K0 l:=by kernel_rfl
def z58 (k n:Nat) (a:Nat) (b:List PV) (c d:Int) (e:List PV):R:=e0L k 230 [1,1,0,1,0] [] n ⟨mkT 37 [(3,s0z 0 a),(11,s0r b),(12,s0i c),(13,s0i d)],[.arr ⟨28,some ⟨0,3,0,0,none⟩⟩ 0 0 false e]⟩
def z59 (k i n:Nat) (a:Nat) (h:Int) (b:List PV) (c d:Int) (e:List PV) (f g:Int) (j:List PV):R:=e0L k 230 [1,1,0,1,0,0,1,1,0,0,1,1,0] [i] n ⟨mkT 37 [(3,s0z 0 a),(4,s0i h),(11,s0r b),(12,s0i c),(13,s0i d),(18,s0r e),(19,s0i f),(20,s0i g)],[.arr ⟨28,some ⟨0,3,0,0,none⟩⟩ 0 0 false j]⟩
def c231 (k:Nat) (p a:Int) (b c d:List PV):R:=e0F k 231 [s0g p a b c,s0r d]
def r231 (l:List PV):R:=some ([.c (.p (PV.row 0 0 l))],[])
def R231:=R68
@[simp] theorem v01 l K0:R231 (r231 l) K0=K0 l:=by kernel_rfl
def z2a (k n:Nat) (g:List PV) (a:Nat) (h:List PV) (c d f b:Int) (l e i:List PV):R:=e0L k 231 [1,1,0,1,0] [] n ⟨mkT 27 [(1,s0r g),(2,s0p 0),(5,s0z 1 a),(9,s0m h),(10,s0i c),(11,s0i d)],[b0g f b l e,.arr 3 0 0 false i]⟩
def c232 (k:Nat) (p a:Int) (b c d:List PV):R:=e0F k 232 [s0g p a b c,s0r d]
def r232 (qr:Int):R:=some ([.c (.p (PV.int .i64 qr))],[])
def R232:=R49
@[simp] theorem v02 qr K0:R232 (r232 qr) K0=K0 qr:=by kernel_rfl
def y20 (k n:Nat) (e:List PV) (d v a b:Int) (l c:List PV):R:=e0L k 232 [1,1,0,1,0] [] n ⟨mkT 26 [(1,s0r e),(2,s0p 0),(5,s0i d),(6,s0i v)],[b0g a b l c]⟩
def c233 (k:Nat) (p b:Int) (c d e:List PV) (a:Int):R:=e0F k 233 [s0g p b c d,s0r e,s0i a]
def r233 (l:List PV):R:=some ([.c (.p (PV.row 0 0 l))],[])
def R233:=R68
@[simp] theorem v03 l K0:R233 (r233 l) K0=K0 l:=by kernel_rfl
def y21 (k n:Nat) (h:List PV) (a:Nat) (c:List PV) (d e g b:Int) (l f i:List PV):R:=e0L k 233 [1,1,0,1,0] [] n ⟨mkT 40 [(1,s0r h),(3,s0p 0),(7,s0z 1 a),(18,s0m c),(19,s0i d),(20,s0i e)],[b0g g b l f,.arr 76 0 0 false i]⟩
def c234 (k:Nat) (a:Int):R:=e0F k 234 [s0i a]
def r234 (b:Bool):R:=some ([.c (.p (PV.bool b))],[])
def R234:=R9
@[simp] theorem x0i b K0:R234 (r234 b) K0=K0 b:=by kernel_rfl
def c235 (k:Nat) (a:Int):R:=e0F k 235 [s0i a]
def r235 (b:Bool):R:=some ([.c (.p (PV.bool b))],[])
def R235:=R9
@[simp] theorem x91 b K0:R235 (r235 b) K0=K0 b:=by kernel_rfl
def x03 (k:Nat) (e:List PV) (d a:Int) (l b:List PV):R:=evF P E T k 236 [s0m e,.s (.c (.fn 237 [0]))] [[p0n d,p0n a,p0m l,p0m b]]
def x24 (qr qr1:Int) (l l1:List PV) (b:Bool):R:=some ([.c (.p (PV.bool b))],[[.p (PV.int .i64 qr),.p (PV.int .i64 qr1),.p (PV.row 2 0 l),.p (PV.row 2 0 l1)]])
def y0q (x0:R) (K0:Int->Int->List PV->List PV->Bool->R):R:=x0.bind fun q0=>bif q0y q0.2 [[.p (.int .i64),.p (.int .i64),.p (.row 2),.p (.row 2)]]&&q02 q0.1 [.c (.p (.bool))] then (cInt (q0w q0.2 0 0) .i64).bind fun qr=>(cInt (q0w q0.2 0 1) .i64).bind fun qr1=>(cRow (q0w q0.2 0 2) 2).bind fun l=>(cRow (q0w q0.2 0 3) 2).bind fun l1=>(q3d (q01 q0.1 0)).bind fun b=>K0 qr qr1 l l1 b else none
@[simp] theorem x7m qr qr1 l l1 b K0:y0q (x24 qr qr1 l l1 b) K0=K0 qr qr1 l l1 b:=by kernel_rfl
def c237 (k:Nat) (f b:List PV) (e a:Int) (l d:List PV):R:=evF P E T k 237 [.s (.c (.p (PV.agg [.row 2 0 f,.row 2 0 b]))),s0p 0] [[p0n e,p0n a,p0m l,p0m d]]
def r237 (qr qr1:Int) (l l1:List PV) (b:Bool):R:=some ([.c (.p (PV.bool b))],[[.p (PV.int .i64 qr),.p (PV.int .i64 qr1),.p (PV.row 2 0 l),.p (PV.row 2 0 l1)]])
def R237:=y0q
@[simp] theorem v04 qr qr1 l l1 b K0:R237 (r237 qr qr1 l l1 b) K0=K0 qr qr1 l l1 b:=by kernel_rfl
def c238 (k:Nat) (p b:Int) (d e f a:List PV):R:=e0F k 238 [s0g p b d e,.s (.c (.p (PV.agg [.row 2 0 f,.row 2 0 a])))]
def r238 (b:Bool):R:=some ([.c (.p (PV.bool b))],[])
def R238:=R9
@[simp] theorem v05 b K0:R238 (r238 b) K0=K0 b:=by kernel_rfl
def z2b (k n:Nat) (b:List PV) (c d h a:Int) (l e f g:List PV):R:=e0L k 238 [1,1,0,1,0] [] n ⟨mkT 57 [(2,s0p 0),(3,s0p 1),(13,s0m b),(14,s0i c),(15,s0i d)],[b0g h a l e,.box [p0m f,p0m g]]⟩
def c239 (k:Nat) (b a:Int) (t:List PV):R:=e0F k 239 [s0i b,s0i a,s0m t]
def r239 (b:Bool):R:=some ([.c (.p (PV.bool b))],[])
def R239:=R9
@[simp] theorem x0j b K0:R239 (r239 b) K0=K0 b:=by kernel_rfl
def y22 (k n:Nat) (c b:Int) (a:Nat) (d:List PV) (e f:Int) (g:List PV):R:=e0L k 239 [1,1,1,0,1,0] [] n ⟨mkT 80 [(0,s0i c),(1,s0i b),(7,s0z 0 a),(33,s0m d),(34,s0i e),(35,s0i f)],[.arr 3 0 0 false g]⟩
def c240 (k:Nat) (t:List PV):R:=e0F k 240 [s0m t]
def r240 (qr:Int):R:=some ([.c (.p (PV.int .i64 qr))],[])
def R240:=R49
@[simp] theorem v06 qr K0:R240 (r240 qr) K0=K0 qr:=by kernel_rfl
def c241 (k:Nat) (p b:Int) (c d v:List PV) (a:Int):R:=e0F k 241 [s0g p b c d,s0a v,s0i a]
def r241 (l:List PV):R:=some ([.c (.own 3 0 l)],[])
def R241:=R57
@[simp] theorem v07 l K0:R241 (r241 l) K0=K0 l:=by kernel_rfl
def y23 (k n:Nat) (a b:Nat) (d e i c:Int) (l g h j f:List PV):R:=e0L k 241 [1,1,0,1,0] [] n ⟨mkT 28 [(3,s0p 0),(4,s0p 1),(7,s0z 2 a),(13,s0z 3 b),(14,s0i d),(15,s0i e)],[b0g i c l g,.box [p0r h],.arr 3 0 0 false j,.arr 3 0 0 false f]⟩
def c242 (k:Nat) (b a:Int) (l:List PV) (d c:Int):R:=evF P E T k 242 [s0p 0,s0i b,s0i a] [[p0r l,p0n d,.p (PV.int .u64 c)]]
def r242 (l:List PV) (qr qr1:Int) (l1 l2:List PV):R:=some ([.agg [.p (PV.row 2 0 l1),.own 138 2 l2]],[[.p (PV.row 0 0 l),.p (PV.int .i64 qr),.p (PV.int .u64 qr1)]])
def R242 (x0:R) (K0:List PV->Int->Int->List PV->List PV->R):R:=x0.bind fun q0=>bif q0y q0.2 [[.p (.row 0),.p (.int .i64),.p (.int .u64)]]&&q02 q0.1 [.agg [.p (.row 2),.own 138 2]] then (cRow (q0w q0.2 0 0) 0).bind fun l=>(cInt (q0w q0.2 0 1) .i64).bind fun qr=>(cInt (q0w q0.2 0 2) .u64).bind fun qr1=>(cRow (Dp.partAt q0.1 0 0) 2).bind fun l1=>(q3z 138 2 (Dp.partAt q0.1 0 1)).bind fun l2=>K0 l qr qr1 l1 l2 else none
@[simp] theorem v08 l qr qr1 l1 l2 K0:R242 (r242 l qr qr1 l1 l2) K0=K0 l qr qr1 l1 l2:=by kernel_rfl
def z6 (k n:Nat) (c b v:Int) (l:List PV) (i e:Int) (g h:List PV) (d a:Nat) (j f:List PV):R:=q1a P E T k 242 242 [3] [1,1,0,1,0] [] n ⟨mkT 35 [(0,s0p 0),(1,s0i c),(2,s0i b),(6,s0p 1),(7,s0p 2),(8,s0i v)],[.box [p0r l,p0n i,.p (PV.int .u64 e)],.box [p0m g,p0m h],.box [.loc 3 0 2 0 d,.loc 4 0 2 0 a],.arr 133 2 0 false j,.arr 138 2 0 false f]⟩
def c244 (k:Nat) (b:Int) (t:List PV) (c:Int) (a:List PV):R:=e0F k 244 [s0i b,s0m t,s0i c,s0r a]
def r244 (qr:Int):R:=some ([.c (.p (PV.int .u64 qr))],[])
def R244:=R149
@[simp] theorem z6k qr K0:R244 (r244 qr) K0=K0 qr:=by kernel_rfl
def c245 (k:Nat) (a:Int):R:=e0F k 245 [s0i a]
def r245 (b:Bool):R:=some ([.c (.p (PV.bool b))],[])
def R245:=R9
@[simp] theorem x92 b K0:R245 (r245 b) K0=K0 b:=by kernel_rfl
def c246 (k:Nat) (a:Int):R:=e0F k 246 [s0i a]
def r246 (qr qr1 qr2:Int):R:=some ([.c (.p (PV.int .i64 qr)),.c (.p (PV.int .i64 qr1)),.c (.p (PV.int .i64 qr2))],[])
def R246 (x0:R) (K0:Int->Int->Int->R):R:=x0.bind fun q0=>bif q0y q0.2 []&&q02 q0.1 [.c (.p (.int .i64)),.c (.p (.int .i64)),.c (.p (.int .i64))] then (cInt (q01 q0.1 0) .i64).bind fun qr=>(cInt (q01 q0.1 1) .i64).bind fun qr1=>(cInt (q01 q0.1 2) .i64).bind fun qr2=>K0 qr qr1 qr2 else none
@[simp] theorem z2h qr qr1 qr2 K0:R246 (r246 qr qr1 qr2) K0=K0 qr qr1 qr2:=by kernel_rfl
def c247 (k:Nat) (b a e d:Int):R:=e0F k 247 [s0i b,s0i a,.s (.c (.p (PV.agg [.int .i64 e,.int .u64 d])))]
def r247 (b:Bool):R:=some ([.c (.p (PV.bool b))],[])
def R247:=R9
@[simp] theorem v09 b K0:R247 (r247 b) K0=K0 b:=by kernel_rfl
def c248 (k:Nat) (g:List PV):R:=e0F k 248 [s0r g]
def r248 (l:List PV):R:=some ([.c (.p (PV.row 0 0 l))],[])
def R248:=R68
@[simp] theorem v1a l K0:R248 (r248 l) K0=K0 l:=by kernel_rfl
def z6a (k n:Nat) (a:Nat) (b:List PV) (c d:Int) (e:List PV):R:=e0L k 248 [1,1,0,1,0] [] n ⟨mkT 37 [(3,s0z 0 a),(11,s0r b),(12,s0i c),(13,s0i d)],[.arr ⟨28,some ⟨0,3,0,0,none⟩⟩ 0 0 false e]⟩
def z6b (k h n:Nat) (a:Nat) (v:Int) (b:List PV) (c d:Int) (e:List PV) (f g:Int) (i:List PV):R:=e0L k 248 [1,1,0,1,0,0,1,1,0,0,1,1,0] [h] n ⟨mkT 37 [(3,s0z 0 a),(4,s0i v),(11,s0r b),(12,s0i c),(13,s0i d),(18,s0r e),(19,s0i f),(20,s0i g)],[.arr ⟨28,some ⟨0,3,0,0,none⟩⟩ 0 0 false i]⟩
def c249 (k:Nat) (b:Int) (l:List PV) (a:Int):R:=e0F k 249 [s0i b,.s (.c (.eptr (PV.agg [.row 0 0 l]) 1 0)),.s (.c (.eptr (PV.agg [.int .i64 a]) 1 0))]
def r249 (b:Bool):R:=some ([.c (.p (PV.bool b))],[])
def R249:=R9
@[simp] theorem v1b b K0:R249 (r249 b) K0=K0 b:=by kernel_rfl
def c251 (k:Nat) (x y:Int):R:=e0F k 251 [.s (.c (.p (PV.int .u64 x))),.s (.c (.p (PV.int .u64 y)))]
def r251 (qr qr1:Int):R:=some ([.c (.p (PV.int .u64 qr)),.c (.p (PV.int .u64 qr1))],[])
def R251:=R209
@[simp] theorem v1c qr qr1 K0:R251 (r251 qr qr1) K0=K0 qr qr1:=by kernel_rfl
def c263 (k:Nat) (d a b:Int):R:=e0F k 263 [s0i d,.s (.c (.p (PV.int .u64 a))),.s (.c (.p (PV.int .u64 b)))]
def r263 (qr qr1:Int) (b:Bool):R:=some ([.c (.p (PV.int .u64 qr)),.c (.p (PV.int .u64 qr1)),.c (.p (PV.bool b))],[])
def R263 (x0:R) (K0:Int->Int->Bool->R):R:=x0.bind fun q0=>bif q0y q0.2 []&&q02 q0.1 [.c (.p (.int .u64)),.c (.p (.int .u64)),.c (.p (.bool))] then (cInt (q01 q0.1 0) .u64).bind fun qr=>(cInt (q01 q0.1 1) .u64).bind fun qr1=>(q3d (q01 q0.1 2)).bind fun b=>K0 qr qr1 b else none
@[simp] theorem v1d qr qr1 b K0:R263 (r263 qr qr1 b) K0=K0 qr qr1 b:=by kernel_rfl
def c264 (k:Nat) (d a e:Int) (b:Bool):R:=e0F k 264 [s0i d,.s (.c (.p (PV.int .u64 a))),.s (.c (.p (PV.int .u64 e))),s0b b]
def r264 (qr:Int):R:=some ([.c (.p (PV.int .u64 qr))],[])
def R264:=R149
@[simp] theorem v1e qr K0:R264 (r264 qr) K0=K0 qr:=by kernel_rfl
def c265 (k:Nat) (a:Bool):R:=e0F k 265 [s0b a]
def r265 (qr:Int):R:=some ([.c (.p (PV.int .u64 qr))],[])
def R265:=R149
@[simp] theorem v1f qr K0:R265 (r265 qr) K0=K0 qr:=by kernel_rfl
def c266 (k:Nat) (b a:Int):R:=e0F k 266 [s0i b,.s (.c (.p (PV.int .u64 a)))]
def r266 (qr:Int):R:=some ([.c (.p (PV.int .i64 qr))],[])
def R266:=R49
@[simp] theorem v1g qr K0:R266 (r266 qr) K0=K0 qr:=by kernel_rfl
def c267 (k:Nat) (b a:Int):R:=e0F k 267 [s0i b,.s (.c (.p (PV.int .u64 a)))]
def r267 (qr:Int):R:=some ([.c (.p (PV.int .u64 qr))],[])
def R267:=R149
@[simp] theorem q76 qr K0:R267 (r267 qr) K0=K0 qr:=by kernel_rfl
def y24 (k n:Nat) (b a d e:Int):R:=e0L k 267 [1,1,0,1,0] [] n ⟨mkT 20 [(0,s0i b),(1,.s (.c (.p (PV.int .u64 a)))),(5,.s (.c (.p (PV.int .u64 d)))),(6,s0i e)],[]⟩
def c268 (k:Nat) (b a:Int) (t c:List PV):R:=e0F k 268 [s0i b,s0i a,s0m t,s0r c]
def r268 (l:List PV) (b:Bool):R:=some ([.c (.p (PV.row 2 0 l)),.c (.p (PV.bool b))],[])
def R268:=R220
@[simp] theorem v1h l b K0:R268 (r268 l b) K0=K0 l b:=by kernel_rfl
def z6c (k n:Nat) (b:List PV) (a:Nat) (e:List PV) (f g h d:Int) (i:List PV):R:=e0L k 268 [1,1,1,0,1,0] [] n ⟨mkT 57 [(3,s0r b),(4,s0p 0),(5,s0p 1),(10,.s (.c (.loc 2 0 2 0 a))),(30,s0m e),(31,s0i f),(32,s0i g)],[.box [p0n h],.box [p0n d],.arr 133 2 0 false i]⟩
def c269 (k:Nat) (a:List PV):R:=e0F k 269 [s0r a]
def r269 (l:List PV):R:=some ([.c (.own 133 2 l)],[])
def w4x (x0:R) (K0:List PV->R):R:=x0.bind fun q0=>bif q0.1.all q0z&&q0.2.all (fun cs=>cs.all q1m) then (bif q0y q0.2 []&&q02 q0.1 [.c (.own 133 2)] then (q3z 133 2 (q01 q0.1 0)).bind fun l=>K0 l else none) else none
def y25 (k n:Nat) (a:List PV) (b:Int) (e:List PV) (c d:Int):R:=e0L k 269 [1,1,0,1,0] [] n ⟨mkT 36 [(0,s0r a),(3,s0i b),(9,s0r e),(10,s0i c),(11,s0i d)],[]⟩
def y26 (k n:Nat) (a:Nat) (b:List PV) (d e:Int) (f:List PV):R:=e0L k 269 [1,1,1,1,0,1,0] [] n ⟨mkT 36 [(6,.s (.c (.loc 0 0 2 0 a))),(25,s0r b),(26,s0i d),(27,s0i e)],[.arr 133 2 0 false f]⟩
def c270 (k:Nat) (p b:Int) (c d t a:List PV):R:=e0F k 270 [s0g p b c d,s0m t,s0r a]
def r270 (b:Bool):R:=some ([.c (.p (PV.bool b))],[])
def R270:=R9
@[simp] theorem v1i b K0:R270 (r270 b) K0=K0 b:=by kernel_rfl
def y9z:=q4n
@[simp] theorem w5i b K0:y9z (r270 b) K0=K0 b:=by kernel_rfl
def c271 (k:Nat) (a b:List PV):R:=e0F k 271 [s0m a,s0m b]
def r271 (b:Bool):R:=some ([.c (.p (PV.bool b))],[])
def R271:=R9
@[simp] theorem v1j b K0:R271 (r271 b) K0=K0 b:=by kernel_rfl
def y27 (k n:Nat) (a b:List PV) (c d:Int):R:=e0L k 271 [1,1,0,1,0] [] n ⟨mkT 26 [(0,s0m a),(1,s0m b),(12,s0i c),(13,s0i d)],[]⟩
def c272 (k:Nat) (b a:Int) (t c:List PV):R:=e0F k 272 [s0i b,s0i a,s0m t,s0r c]
def r272 (l:List PV) (b:Bool):R:=some ([.c (.p (PV.row 2 0 l)),.c (.p (PV.bool b))],[])
def R272:=R220
@[simp] theorem v1k l b K0:R272 (r272 l b) K0=K0 l b:=by kernel_rfl
def z6d (k n:Nat) (b a:Int) (t c d:List PV) (e f:Int):R:=e0L k 272 [1,1,0,1,0] [] n ⟨mkT 65 [(0,s0i b),(1,s0i a),(2,s0m t),(3,s0r c),(26,s0r d),(27,s0i e),(28,s0i f)],[]⟩
def z2c (k n:Nat) (d b:Int) (e:List PV) (a:Nat) (f:List PV) (g h:Int) (i:List PV):R:=e0L k 272 [1,1,1,1,0,1,0] [] n ⟨mkT 65 [(0,s0i d),(1,s0i b),(3,s0r e),(12,.s (.c (.loc 0 0 2 0 a))),(38,s0m f),(39,s0i g),(40,s0i h)],[.arr 133 2 0 false i]⟩
def x04 (k:Nat) (e:List PV) (d a:Int) (l b:List PV):R:=evF P E T k 273 [s0m e,.s (.c (.fn 237 [0]))] [[p0n d,p0n a,p0m l,p0m b]]
def z4f (qr qr1:Int) (l l1:List PV) (qr2:Int):R:=some ([.c (.p (PV.int .i64 qr2))],[[.p (PV.int .i64 qr),.p (PV.int .i64 qr1),.p (PV.row 2 0 l),.p (PV.row 2 0 l1)]])
def x0k (x0:R) (K0:Int->Int->List PV->List PV->Int->R):R:=x0.bind fun q0=>bif q0y q0.2 [[.p (.int .i64),.p (.int .i64),.p (.row 2),.p (.row 2)]]&&q02 q0.1 [.c (.p (.int .i64))] then (cInt (q0w q0.2 0 0) .i64).bind fun qr=>(cInt (q0w q0.2 0 1) .i64).bind fun qr1=>(cRow (q0w q0.2 0 2) 2).bind fun l=>(cRow (q0w q0.2 0 3) 2).bind fun l1=>(cInt (q01 q0.1 0) .i64).bind fun qr2=>K0 qr qr1 l l1 qr2 else none
@[simp] theorem x7n qr qr1 l l1 qr2 K0:x0k (z4f qr qr1 l l1 qr2) K0=K0 qr qr1 l l1 qr2:=by kernel_rfl
def q6p (k n:Nat) (e:List PV) (f g d a:Int) (l b:List PV):R:=q1a P E T k 273 238273 [4] [1,0,1,0] [] n ⟨mkT 19 [(0,s0m e),(1,.s (.c (.fn 237 [0]))),(7,s0i f),(8,s0i g)],[b0g d a l b]⟩
def c274 (k:Nat) (a:Int):R:=e0F k 274 [s0i a]
def r274 (qr qr1 qr2:Int):R:=some ([.c (.p (PV.int .i64 qr)),.c (.p (PV.int .i64 qr1)),.c (.p (PV.int .i64 qr2))],[])
def R274:=R246
@[simp] theorem x94 qr qr1 qr2 K0:R274 (r274 qr qr1 qr2) K0=K0 qr qr1 qr2:=by kernel_rfl
def c275 (k:Nat) (b a x d:Int):R:=e0F k 275 [s0i b,s0i a,.s (.c (.p (PV.agg [.int .i64 x,.int .u64 d])))]
def r275 (b:Bool):R:=some ([.c (.p (PV.bool b))],[])
def R275:=R9
@[simp] theorem v1l b K0:R275 (r275 b) K0=K0 b:=by kernel_rfl
def c276 (k:Nat) (a b:Int):R:=evF P E T k 276 [s0i a,s0p 0] [[p0n b]]
def r276 (qr:Int) (b:Bool):R:=some ([.c (.p (PV.bool b))],[[.p (PV.int .i64 qr)]])
def R276 (x0:R) (K0:Int->Bool->R):R:=x0.bind fun q0=>bif q0y q0.2 [[.p (.int .i64)]]&&q02 q0.1 [.c (.p (.bool))] then (cInt (q0w q0.2 0 0) .i64).bind fun qr=>(q3d (q01 q0.1 0)).bind fun b=>K0 qr b else none
@[simp] theorem v1m qr b K0:R276 (r276 qr b) K0=K0 qr b:=by kernel_rfl
def c277 (k:Nat) (d e a b:Int):R:=e0F k 277 [s0i d,s0i e,.s (.c (.p (PV.int .u64 a))),.s (.c (.p (PV.int .u64 b)))]
def r277 (qr:Int):R:=some ([.c (.p (PV.int .u64 qr))],[])
def R277:=R149
@[simp] theorem v1n qr K0:R277 (r277 qr) K0=K0 qr:=by kernel_rfl
def c278 (k:Nat) (t:List PV) (a:Int):R:=e0F k 278 [s0m t,s0i a]
def r278 (qr:Int):R:=some ([.c (.p (PV.int .i64 qr))],[])
def R278:=R49
@[simp] theorem x95 qr K0:R278 (r278 qr) K0=K0 qr:=by kernel_rfl
def q9r (k n:Nat) (t:List PV) (b a:Int):R:=e0L k 278 [1,1,1,0,0] [] n ⟨mkT 29 [(0,s0m t),(5,s0i b),(8,s0i a)],[]⟩
def c279 (k:Nat) (b a:Int):R:=e0F k 279 [s0i b,.s (.c (.p (PV.int .u64 a)))]
def r279 (b:Bool):R:=some ([.c (.p (PV.bool b))],[])
def R279:=R9
@[simp] theorem v1o b K0:R279 (r279 b) K0=K0 b:=by kernel_rfl
def c286 (k:Nat) (d a b:Int):R:=e0F k 286 [s0i d,.s (.c (.p (PV.int .u64 a))),.s (.c (.p (PV.int .u64 b)))]
def r286 (b:Bool):R:=some ([.c (.p (PV.bool b))],[])
def R286:=R9
@[simp] theorem v1p b K0:R286 (r286 b) K0=K0 b:=by kernel_rfl
def c287 (k:Nat) (a b y:Int):R:=e0F k 287 [.s (.c (.p (PV.int .u64 a))),.s (.c (.p (PV.int .u64 b))),.s (.c (.p (PV.int .u64 y)))]
def r287 (qr qr1:Int):R:=some ([.c (.p (PV.int .u64 qr)),.c (.p (PV.int .u64 qr1))],[])
def R287:=R209
@[simp] theorem v1q qr qr1 K0:R287 (r287 qr qr1) K0=K0 qr qr1:=by kernel_rfl
def w9h (k n:Nat) (y i g f b e d h a:Int):R:=e0L k 287 [1,1,1,1,1,1,1,1,1,1,1,1,1,1,0,0] [] n ⟨mkT 135 [(2,.s (.c (.p (PV.int .u64 y)))),(8,.s (.c (.p (PV.int .u64 i)))),(9,.s (.c (.p (PV.int .u64 g)))),(10,.s (.c (.p (PV.int .u64 f)))),(11,.s (.c (.p (PV.int .u64 b)))),(13,.s (.c (.p (PV.int .u64 e)))),(14,.s (.c (.p (PV.int .u64 d)))),(15,.s (.c (.p (PV.int .u64 h)))),(16,.s (.c (.p (PV.int .u64 a))))],[]⟩
def c288 (k:Nat) (b:List PV) (c a:Int):R:=evF P E T k 288 [s0m b,s0p 0,s0p 1] [[p0n c],[p0n a]]
def r288 (qr qr1:Int) (b:Bool):R:=some ([.c (.p (PV.bool b))],[[.p (PV.int .i64 qr)],[.p (PV.int .i64 qr1)]])
def R288:=y0p
@[simp] theorem v1r qr qr1 b K0:R288 (r288 qr qr1 b) K0=K0 qr qr1 b:=by kernel_rfl
def c289 (k:Nat) (b a:Int) (t:List PV):R:=e0F k 289 [s0i b,s0i a,s0m t]
def r289 (l:List PV) (b:Bool):R:=some ([.c (.p (PV.row 2 0 l)),.c (.p (PV.bool b))],[])
def R289:=R220
@[simp] theorem v1s l b K0:R289 (r289 l b) K0=K0 l b:=by kernel_rfl
def c290 (k:Nat) (b:List PV) (a:Int):R:=e0F k 290 [.s (.c (.p (PV.row 0 2 b))),s0i a]
def r290 (l:List PV):R:=some ([.c (.own 133 2 l)],[])
def R290:=R219
@[simp] theorem v1t l K0:R290 (r290 l) K0=K0 l:=by kernel_rfl
def c291 (k:Nat) (f e a:Int) (l b d:List PV):R:=e0F k 291 [s0i f,.s (.c (.eptr (PV.agg [.int .i64 e,.int .i64 a,.row 2 0 l,.row 2 0 b]) 4 0)),.s (.c (.eptr (PV.agg [.row 2 0 d]) 1 0))]
def r291 (b:Bool):R:=some ([.c (.p (PV.bool b))],[])
def R291:=R9
@[simp] theorem v1u b K0:R291 (r291 b) K0=K0 b:=by kernel_rfl
def c292 (k:Nat) (b a:Int) (t:List PV):R:=e0F k 292 [s0i b,s0i a,s0m t]
def r292 (b:Bool):R:=some ([.c (.p (PV.bool b))],[])
def R292:=R9
@[simp] theorem x96 b K0:R292 (r292 b) K0=K0 b:=by kernel_rfl
def c293 (k:Nat) (b a:Int) (t:List PV):R:=e0F k 293 [s0i b,s0i a,s0m t]
def r293 (l:List PV) (b:Bool):R:=some ([.c (.p (PV.row 2 0 l)),.c (.p (PV.bool b))],[])
def R293:=R220
@[simp] theorem v1v l b K0:R293 (r293 l b) K0=K0 l b:=by kernel_rfl
def c294 (k:Nat) (b a:Int):R:=e0F k 294 [s0i b,.s (.c (.p (PV.int .u64 a)))]
def r294 (b:Bool):R:=some ([.c (.p (PV.bool b))],[])
def R294:=R9
@[simp] theorem v1w b K0:R294 (r294 b) K0=K0 b:=by kernel_rfl
def c295 (k:Nat) (d a b:Int):R:=e0F k 295 [s0i d,.s (.c (.p (PV.int .u64 a))),.s (.c (.p (PV.int .u64 b)))]
def r295 (qr qr1:Int) (b:Bool):R:=some ([.c (.p (PV.int .u64 qr)),.c (.p (PV.int .u64 qr1)),.c (.p (PV.bool b))],[])
def R295:=R263
@[simp] theorem v1x qr qr1 b K0:R295 (r295 qr qr1 b) K0=K0 qr qr1 b:=by kernel_rfl
def c296 (k:Nat) (d a e:Int) (b:Bool):R:=e0F k 296 [s0i d,.s (.c (.p (PV.int .u64 a))),.s (.c (.p (PV.int .u64 e))),s0b b]
def r296 (qr:Int):R:=some ([.c (.p (PV.int .u64 qr))],[])
def R296:=R149
@[simp] theorem v1y qr K0:R296 (r296 qr) K0=K0 qr:=by kernel_rfl
def z6e (k n:Nat) (d a e:Int) (b:Bool):R:=e0L k 296 [1,1,0,0] [] n ⟨mkT 25 [(0,s0i d),(1,.s (.c (.p (PV.int .u64 a)))),(2,.s (.c (.p (PV.int .u64 e)))),(3,s0b b)],[]⟩
def c297 (k:Nat) (a:Bool):R:=e0F k 297 [s0b a]
def r297 (qr:Int):R:=some ([.c (.p (PV.int .u64 qr))],[])
def R297:=R149
@[simp] theorem v1z qr K0:R297 (r297 qr) K0=K0 qr:=by kernel_rfl
def c298 (k:Nat) (b a:Int):R:=e0F k 298 [s0i b,.s (.c (.p (PV.int .u64 a)))]
def r298 (qr:Int):R:=some ([.c (.p (PV.int .i64 qr))],[])
def R298:=R49
@[simp] theorem v2a qr K0:R298 (r298 qr) K0=K0 qr:=by kernel_rfl
def c300 (k:Nat) (x:Int):R:=e0F k 300 [.s (.c (.p (PV.int .u64 x)))]
def R300:=R49
def c301 (k:Nat) (d a b:Int):R:=e0F k 301 [s0i d,.s (.c (.p (PV.int .u64 a))),.s (.c (.p (PV.int .u64 b)))]
def r301 (b:Bool):R:=some ([.c (.p (PV.bool b))],[])
def R301:=R9
@[simp] theorem v2b b K0:R301 (r301 b) K0=K0 b:=by kernel_rfl
end
theorem n8 (k:Nat) b a:c8 (k+1) b a=R9 (c9 k b a) fun l=>bif l then r8 true else R30 (c30 k b) fun v1 v2 l1 l2 l3 l4 v3=>R31 (c31 k v1 v2 l1 l2 l3 l4 v3) fun v4 l5 v5 l6 b2=>R32 (c32 k v1 v2 l1 l2 l3 l4 v3) fun v6 l7 v7 l8 b3=>bif (!(b2==b3)) then r8 false else R35 (c35 k v4 l5 v5 l6 v6 l7 v7 l8) fun m=>bif !m then r8 false else bif b2 then R49 (c49 k a) fun c=>bif !(IntKind.i64.wrap (v3+1)==0) then R31 (c31 k v1 v2 l1 l2 l3 l4 (c.tmod (IntKind.i64.wrap (v3+1)))) fun v9 l9 v10 l10 b5=>bif !b5 then r8 false else bif (v9 != 3) then R35 (c35 k v9 l9 v10 l10 v4 l5 v5 l6) fun o=>bif !o then r8 false else bif (v9==3) then bif (v10 != c.tmod (IntKind.i64.wrap (v3+1))) then r8 false else bif (v4 != 3) then bif decide (v5<=c.tmod (IntKind.i64.wrap (v3+1))) then r8 false else R50 (c50 k a) fun v11 v12 l11 l12 l13 l14=>R51 (c51 k v11 v12 l11 l12 l13 l14) fun l15 b7=>R52 (c52 k v11 v12 l11 l12 l13 l14) fun l16 b8=>R53 (c53 k v11 v12 l11 l12 l13 l14) fun b9 b10=>bif (b7==b8) then R15 (c15 k l15 l16) fun d=>bif d then bif !b10 then r8 true else r8 (b9==!b7) else r8 false else r8 false else R50 (c50 k a) fun v13 v14 l17 l18 l19 l20=>R51 (c51 k v13 v14 l17 l18 l19 l20) fun l21 b12=>R52 (c52 k v13 v14 l17 l18 l19 l20) fun l22 b13=>R53 (c53 k v13 v14 l17 l18 l19 l20) fun b14 b15=>bif (b12==b13) then R15 (c15 k l21 l22) fun e=>bif e then bif !b15 then r8 true else r8 (b14==!b12) else r8 false else r8 false else R50 (c50 k a) fun v15 v16 l23 l24 l25 l26=>R51 (c51 k v15 v16 l23 l24 l25 l26) fun l27 b17=>R52 (c52 k v15 v16 l23 l24 l25 l26) fun l28 b18=>R53 (c53 k v15 v16 l23 l24 l25 l26) fun b19 b20=>bif (b17==b18) then R15 (c15 k l27 l28) fun f=>bif f then bif !b20 then r8 true else r8 (b19==!b17) else r8 false else r8 false else bif (v9==3) then bif (v10 != c.tmod (IntKind.i64.wrap (v3+1))) then r8 false else bif (v4 != 3) then bif decide (v5<=c.tmod (IntKind.i64.wrap (v3+1))) then r8 false else R50 (c50 k a) fun v17 v18 l29 l30 l31 l32=>R51 (c51 k v17 v18 l29 l30 l31 l32) fun l33 b22=>R52 (c52 k v17 v18 l29 l30 l31 l32) fun l34 b23=>R53 (c53 k v17 v18 l29 l30 l31 l32) fun b24 b25=>bif (b22==b23) then R15 (c15 k l33 l34) fun g=>bif g then bif !b25 then r8 true else r8 (b24==!b22) else r8 false else r8 false else R50 (c50 k a) fun v19 v20 l35 l36 l37 l38=>R51 (c51 k v19 v20 l35 l36 l37 l38) fun l39 b27=>R52 (c52 k v19 v20 l35 l36 l37 l38) fun l40 b28=>R53 (c53 k v19 v20 l35 l36 l37 l38) fun b29 b30=>bif (b27==b28) then R15 (c15 k l39 l40) fun h=>bif h then bif !b30 then r8 true else r8 (b29==!b27) else r8 false else r8 false else R50 (c50 k a) fun v21 v22 l41 l42 l43 l44=>R51 (c51 k v21 v22 l41 l42 l43 l44) fun l45 b32=>R52 (c52 k v21 v22 l41 l42 l43 l44) fun l46 b33=>R53 (c53 k v21 v22 l41 l42 l43 l44) fun b34 b35=>bif (b32==b33) then R15 (c15 k l45 l46) fun i=>bif i then bif !b35 then r8 true else r8 (b34==!b32) else r8 false else r8 false else none else R50 (c50 k a) fun v23 v24 l47 l48 l49 l50=>R51 (c51 k v23 v24 l47 l48 l49 l50) fun l51 b37=>R52 (c52 k v23 v24 l47 l48 l49 l50) fun l52 b38=>R53 (c53 k v23 v24 l47 l48 l49 l50) fun b39 b40=>bif (b37==b38) then R15 (c15 k l51 l52) fun j=>bif j then bif !b40 then r8 true else r8 (b39==!b37) else r8 false else r8 false:=by kernel_rfl
theorem n9 (k:Nat) a b:c9 (k+1) a b=bif decide ((a.length:Int)>1048576) then r9 true else r9 (decide ((b.length:Int)>IntKind.i64.wrap (1048576-(a.length:Int)))):=by kernel_rfl
theorem n15 (k:Nat) a b:c15 (k+1) a b=bif ((a.length:Int) != (b.length:Int)) then r15 false else y9r k k a b (a.length:Int) 0:=by kernel_rfl
theorem v3c (k n:Nat) a b d c:y9r k (n+1) a b d c=bif decide (c<d) then (q0e a c).bind fun g=>(g.atInt .i64 0).bind fun e=>(q0e b c).bind fun h=>(h.atInt .i64 0).bind fun f=>bif (e != f) then r15 false else y9r k n a b d (IntKind.i64.wrap (c+1)) else r15 true:=by kernel_rfl
theorem n30 (k:Nat) a:c30 (k+1) a=R54 (c54 k a 0 0) fun l1 v1 v2 v3 v4 l2 l3 l4=>R72 (c72 k v3 v4 l2 l3 2 l1 v1 v2) fun l5 v5 v6 l6=>R93 (c93 k v3 v4 l2 l3 l5 v5 v6) fun l7 v7 v8 l8=>R94 (c94 k l7 v7 v8) fun l9 v9 v10 v11=>r30 v3 v4 l2 l3 l6 l8 v11:=by kernel_rfl
theorem n31 (k:Nat) p d e f b c a:c31 (k+1) p d e f b c a=R95 (c95 k p d e f b c a) fun g=>bif !g then r31 0 [] 0 [] false else R96 (c96 k p d e f b c a) fun v1 l1 v2 l2=>r31 v1 l1 v2 l2 true:=by kernel_rfl
theorem n32 (k:Nat) p d e f b c a:c32 (k+1) p d e f b c a=R97 (c97 k p d e f b c a) fun i=>bif !i then r32 0 [] 0 [] false else R99 (c99 k p d e f b) fun g=>R98p (c98 k p d e f (g.take g.length) c) fun h=>x7f k k b c a 0 p d e f 0 [] 0 [] h.length h:=by kernel_rfl
theorem v3d (k n:Nat) c f b a i e l h j o m p d g:x7f k (n+1) c f b a i e l h j o m p d g=bif decide (a<=b) then R100 (c100 k i e l h (g.take d) f) fun l4 b1=>bif !b1 then r32 1 [] a (g.take d) true else R89 (c89 k i e l h (g.take d) l4) fun q=>R88 (c88 k q) fun s=>bif decide (s<0) then R101 (c101 k i e l h q) fun r=>r32 2 r a (g.take d) true else bif decide (a<b) then R77 (c77 k i e l h (g.take d) c l4) fun l7 v2=>z26 k n c f b (IntKind.i64.wrap (a+1)) i e l h j o m p l7 else z26 k n c f b (IntKind.i64.wrap (a+1)) i e l h j o m p (g.take d) else r32 3 [] b (g.take d) true:=by kernel_rfl
theorem x3a (k n:Nat) c e b a h d l g i m j o f:z26 k (n+1) c e b a h d l g i m j o f=bif decide (a<=b) then R100 (c100 k h d l g f e) fun l5 b1=>bif !b1 then r32 1 [] a f true else R89 (c89 k h d l g f l5) fun p=>R88 (c88 k p) fun r=>bif decide (r<0) then R101 (c101 k h d l g p) fun q=>r32 2 q a f true else bif decide (a<b) then R77 (c77 k h d l g f c l5) fun l8 v2=>z26 k n c e b (IntKind.i64.wrap (a+1)) h d l g i m j o l8 else z26 k n c e b (IntKind.i64.wrap (a+1)) h d l g i m j o f else r32 3 [] b f true:=by kernel_rfl
theorem n35 (k:Nat) a c d e b f g h:c35 (k+1) a c d e b f g h=bif (a==b) then R15 (c15 k c f) fun i=>bif i then bif (d==g) then R15 (c15 k e h) fun j=>r35 j else r35 false else r35 false else r35 false:=by kernel_rfl
theorem n49 (k:Nat) b:c49 (k+1) b=y9s k k 0 b (b.length:Int) 0:=by kernel_rfl
theorem v3e (k n:Nat) b c d a:y9s k (n+1) b c d a=bif decide (a<d) then (q0e c a).bind fun f=>(f.atInt .u8 0).bind fun e=>y9s k n ((IntKind.i64.wrap ((IntKind.i64.wrap (31*b))+(IntKind.i64.wrap e))).tmod 1000003) c d (IntKind.i64.wrap (a+1)) else r49 b:=by kernel_rfl
theorem n50 (k:Nat) a:c50 (k+1) a=R54 (c54 k a 0 0) fun l1 v1 v2 v3 v4 l2 l3 l4=>R93 (c93 k v3 v4 l2 l3 l1 v1 v2) fun l5 v5 v6 l6=>r50 v3 v4 l2 l3 l4 l6:=by kernel_rfl
theorem n51 (k:Nat) p b c d v a:c51 (k+1) p b c d v a=R81 (c81 k p b c d v) fun f=>bif !f then r51 [] false else R107 (c107 k p b c d a) fun g=>bif !g then r51 [] false else R128 (c128 k p b c d v a) fun e=>bif e.isEmpty then r51 [] false else r51 e true:=by kernel_rfl
theorem n52 (k:Nat) p b c d v a:c52 (k+1) p b c d v a=R129 (c129 k p b c d v) fun e=>bif !e then r52 [] false else R126 (c126 k p b c d a) fun f=>bif !f then r52 [] false else R100 (c100 k p b c d v a) fun l1 b3=>r52 l1 b3:=by kernel_rfl
theorem n53 (k:Nat) p b c d v a:c53 (k+1) p b c d v a=R81 (c81 k p b c d v) fun g=>bif !g then r53 false false else R107 (c107 k p b c d a) fun h=>bif !h then r53 false false else R110 (c110 k p b c d a) fun e=>q52 (c130 k v (e.take e.length)) fun f=>R111 (c111 k p b c d v) fun j=>q4n (y5s k j (f.take f.length)) fun i=>r53 (!i) true:=by kernel_rfl
theorem n54 (k:Nat) l c a:c54 (k+1) l c a=R118 (c118 k l c a) fun l1 v1 v2 v3 v4 l2 l3=>w4s (c132 k v3 v4 l2 (l3.take l3.length)) fun e=>bif e then R120 (c120 k 2 l1 v1 v2) fun l4 v5 v6 b2=>bif b2 then bif decide ((0:Int)<(l3.length:Int)) then (l3[0]?).bind fun f=>(putPart f 2 0 (PV.row 2 0 [PV.agg [.int .i64 20,.int .u64 1]]) 0).bind fun b=>bif decide ((0:Int)<(l3.length:Int)) then ((l3.set 0 b)[0]?).bind fun g=>(putPart g 2 1 (PV.row 2 0 [PV.agg [.int .i64 0,.row 2 0 [PV.agg [.int .i64 2,.int .u64 0],PV.agg [.int .i64 1,.int .u64 1],PV.agg [.int .i64 3,.int .u64 0]]]]) 0).bind fun d=>R133 (c133 k v3 v4 [PV.agg [.int .i64 2,.int .u64 0],PV.agg [.int .i64 1,.int .u64 0],PV.agg [.int .i64 14,.int .u64 0]] (((l3.set 0 b).set 0 d).take l3.length) l4 v5 v6) fun l5 v7 v8 l6=>r54 l5 v7 v8 v3 v4 [PV.agg [.int .i64 2,.int .u64 0],PV.agg [.int .i64 1,.int .u64 0],PV.agg [.int .i64 14,.int .u64 0]] (((l3.set 0 b).set 0 d).take l3.length) l6 else none else none else R133 (c133 k v3 v4 l2 (l3.take l3.length) l4 v5 v6) fun l7 v9 v10 l8=>r54 l7 v9 v10 v3 v4 l2 (l3.take l3.length) l8 else R133 (c133 k v3 v4 l2 (l3.take l3.length) l1 v1 v2) fun l9 v11 v12 l10=>r54 l9 v11 v12 v3 v4 l2 (l3.take l3.length) l10:=by kernel_rfl
theorem n56 (k:Nat) a l b c:c56 (k+1) a l b c=bif decide (a<=1) then r56 l b c 0 else R136 (c136 k l b c) fun l1 v1 v2 v3=>bif decide (a>200) then R136 (c136 k l1 v1 v2) fun l2 v4 v5 v6=>bif !(a==0) then r56 l2 v4 v5 ((IntKind.i64.wrap ((IntKind.i64.wrap (v3*256))+v6)).tmod a) else none else bif !(a==0) then r56 l1 v1 v2 (v3.tmod a) else none:=by kernel_rfl
theorem n57 (k:Nat) l:c57 (k+1) l=bif decide ((0+l.length)*8<=LIM)&&decide (0+l.length<=LIM) then r57 (([]++l).take (0+l.length)) else none:=by kernel_rfl
theorem w57 (k:Nat) a l:y5s (k+1) a l=y6v (y0t k a l) fun b=>y6f (decide (b>=0)):=by kernel_rfl
theorem w6 (k:Nat) b a:y5u (k+1) b a=x0e (x01 k b a) fun v1 v2=>y6h v1 (decide (v2>=0)):=by kernel_rfl
theorem w59 (k:Nat) b l a:z8e (k+1) b l a=y60 (y0y k b l a) fun c=>z8w (decide (c>=0)):=by kernel_rfl
theorem w58 (k:Nat) b l a:y5t (k+1) b l a=y6y (y0w k b l a) fun c=>y6g (decide (c>=0)):=by kernel_rfl
theorem w6a (k:Nat) e d a l b c:y5v (k+1) e d a l b c=y63 (y00 k e d a l b c) fun f=>y6i (decide (f>=0)):=by kernel_rfl
theorem n67 (k:Nat) a v:c67 (k+1) a v=R144 (c144 k a v) fun b=>r67 (decide (b>=0)):=by kernel_rfl
theorem n68 (k:Nat) p c d a b:c68 (k+1) p c d a b=R70 (c70 k p c d a b) fun e=>y28 k k b e 0 a (a.length:Int) 0 p c d a []:=by kernel_rfl
theorem v3f (k n:Nat) o j a d e c h b l g i:y28 k (n+1) o j a d e c h b l g i=bif decide (c<e) then (q0e d c).bind fun p=>bif p.shp 2 then (p.atRow 2 0).bind fun q=>(p.atRow 2 1).bind fun s=>R69 (c69 k h b l g q j) fun r=>bif r then R146 (c146 k h b l g q s j) fun t=>R145 (c145 k h b l g t) fun u=>bif decide ((a+1)*8<=LIM)&&decide (a+1<=LIM) then y28 k n o j (a+1) d e (IntKind.i64.wrap (c+1)) h b l g ((i.take a)++[PV.int .i64 u]) else none else y28 k n o j a d e (IntKind.i64.wrap (c+1)) h b l g i else none else bif ((a:Int)==0) then r68 [PV.int .i64 o] else bif decide (a<=LIM) then (intsOf (i.take a)).bind fun m=>bif decide (a<=LIM) then (intsOf ((((q2j m).map (PV.int .i64))++(i.drop a)).take a)).bind fun f=>r68 (((((q3t f).map (PV.int .i64))++(List.replicate (a-(q3t f).length) (PV.int .i64 0)))++((((q2j m).map (PV.int .i64))++(i.drop a)).drop a)).take ((q3t f).length)) else none else none:=by kernel_rfl
theorem n69 (k:Nat) p b c d t a:c69 (k+1) p b c d t a=R149 (c149 k p t a) fun e=>r69 (e==1):=by kernel_rfl
theorem n70 (k:Nat) p a c d b:c70 (k+1) p a c d b=y9t k k b 0 a 0 p a c d []:=by kernel_rfl
theorem v3g (k n:Nat) e a f b c d l h g:y9t k (n+1) e a f b c d l h g=bif decide (b<f) then bif !decide (IntKind.i64.wrap (c*b)<0) then R150 (c150 k c) fun i=>bif decide ((a+1)*8<=LIM)&&decide (a+1<=LIM) then y9t k n e (a+1) f (IntKind.i64.wrap (b+1)) c d l h ((g.take a)++[PV.int .u64 (q0o .and .u64 (shrI .u64 (IntKind.u64.wrap e) (IntKind.i64.wrap (c*b))) i)]) else none else none else r70 (g.take a):=by kernel_rfl
theorem n72 (k:Nat) p d e f a l c b:c72 (k+1) p d e f a l c b=R56 (c56 k (IntKind.i64.wrap (a+1)) l c b) fun l1 v1 v2 v3=>y9u k k 0 v3 l1 v1 v2 p d e f []:=by kernel_rfl
theorem v3h (k n:Nat) a f l b c d e h i g:y9u k (n+1) a f l b c d e h i g=bif decide (f>0) then R152 (c152 k d) fun j=>R152 (c152 k e) fun m=>R56 (c56 k 2 l b c) fun l3 v3 v4 v5=>R151 (c151 k j m v5 l3 v3 v4) fun l4 v6 v7 l5=>bif decide ((a+1)*24<=LIM)&&decide (a+1<=LIM) then y9u k n (a+1) (IntKind.i64.wrap (f-1)) l4 v6 v7 d e h i ((g.take a)++[PV.row 2 0 (l5.take l5.length)]) else none else r72 l b c (g.take a):=by kernel_rfl
theorem n74 (k:Nat) p c d e a b:c74 (k+1) p c d e a b=bif decide ((a.length:Int)>=b) then bif decide ((a.length:Int)<=8) then y64 (y01 k a p c d e) fun f=>r74 (!f) else r74 false else r74 false:=by kernel_rfl
theorem n75 (k:Nat) p c d e v b a:c75 (k+1) p c d e v b a=R156 (c156 k p c d e v a) fun l1 b1=>bif !b1 then r75 [] 0 false else R86 (c86 k p c d e v a) fun g=>R85p (c85 k (g.take g.length)) fun i=>R157 (c157 k p c d e b) fun h=>(q0e a (IntKind.i64.wrap (i-1))).bind fun r=>(r.atInt .i64 0).bind fun o=>(q0e a i).bind fun s=>(s.atInt .i64 0).bind fun q=>R91 (c91 k p c d e v o q) fun j=>R158 (c158 k p c d e h l1 j) fun f=>bif decide (f<0) then R79 (c79 k v l1) fun l=>r75 l (-1) true else (q0e h f).bind fun t=>(t.atRow 2 0).bind fun m=>R159 (c159 k p c d e v m) fun l7 b2=>r75 l7 f true:=by kernel_rfl
theorem n76 (k:Nat) p b c d a:c76 (k+1) p b c d a=bif decide ((a.length:Int)>8) then r76 false else y9v k k a (a.length:Int) 0 p b c d:=by kernel_rfl
theorem v3i (k n:Nat) c d a f b l e:y9v k (n+1) c d a f b l e=bif decide (a<d) then (q0e c a).bind fun i=>(i.atRow 2 0).bind fun h=>R126 (c126 k f b l e h) fun g=>bif !g then r76 false else y9v k n c d (IntKind.i64.wrap (a+1)) f b l e else r76 true:=by kernel_rfl
theorem n77 (k:Nat) p c d e v b a:c77 (k+1) p c d e v b a=R89 (c89 k p c d e v a) fun g=>R88 (c88 k g) fun f=>R160 (c160 k p c d e b) fun i=>(q0e g (IntKind.i64.wrap (f-1))).bind fun u=>(u.atRow 0 0).bind fun m=>(q0e a (IntKind.i64.wrap (f-1))).bind fun w=>(w.atInt .i64 0).bind fun s=>(q0e a f).bind fun x=>(x.atInt .i64 0).bind fun t=>R162 (c162 k p c d e v s t) fun o=>R161 (c161 k p c d e i m o) fun h=>bif decide (h<0) then (q0e g (IntKind.i64.wrap (f-1))).bind fun y=>(y.atRow 0 0).bind fun q=>R80 (c80 k v q) fun j=>r77 (j.take j.length) (-1) else (q0e i h).bind fun z=>(z.atRow 2 0).bind fun r=>R98 (c98 k p c d e v r) fun l=>r77 (l.take l.length) h:=by kernel_rfl
theorem n79 (k:Nat) v a:c79 (k+1) v a=bif ((v.length:Int)==(v.length:Int))&&decide ((0:Int)<=(v.length:Int))&&decide (v.length*8<=LIM)&&decide (v.length<=LIM) then y29 k k a (a.length:Int) 0 v [] v.length (List.replicate v.length (PV.int .i64 0)) else none:=by kernel_rfl
theorem v3j (k n:Nat) c d b l g a f:y29 k (n+1) c d b l g a f=bif decide (b<d) then (q0e c b).bind fun i=>(i.atInt .i64 0).bind fun e=>bif decide ((0:Int)<=e)&&decide (e<(a:Int)) then (f[0+e.toNat]?).bind fun j=>y29 k n c d (IntKind.i64.wrap (b+1)) l g a (f.set (0+e.toNat) (PV.int .i64 1)) else none else R83 (c83 k l (f.take a)) fun h=>r79 h:=by kernel_rfl
theorem n80 (k:Nat) v a:c80 (k+1) v a=y3 k k a 0 v (v.length:Int) 0 [] []:=by kernel_rfl
theorem v3k (k n:Nat) b a e d c l f:y3 k (n+1) b a e d c l f=bif decide (c<d) then (q0e e c).bind fun j=>(j.atInt .i64 0).bind fun h=>R163 (c163 k b c) fun i=>bif i then bif decide ((a+1)*8<=LIM)&&decide (a+1<=LIM) then y3 k n b (a+1) e d (IntKind.i64.wrap (c+1)) l ((f.take a)++[PV.int .i64 (IntKind.i64.wrap ((IntKind.i64.wrap (2*h))+1))]) else none else bif decide ((a+1)*8<=LIM)&&decide (a+1<=LIM) then y3 k n b (a+1) e d (IntKind.i64.wrap (c+1)) l ((f.take a)++[PV.int .i64 (IntKind.i64.wrap (2*h))]) else none else w4v (c164 k (f.take a)) fun g=>r80 (g.take g.length):=by kernel_rfl
theorem n81 (k:Nat) p a b c v:c81 (k+1) p a b c v=R102 (c102 k p a b c) fun d=>bif d then R103 (c103 k p a b c) fun f=>R165 (c165 k v f) fun e=>r81 e else r81 false:=by kernel_rfl
theorem n83 (k:Nat) a b:c83 (k+1) a b=y9w k k 0 a (a.length:Int) 0 b [] []:=by kernel_rfl
theorem v3l (k n:Nat) a c d b l f e:y9w k (n+1) a c d b l f e=bif decide (b<d) then (q0e c b).bind fun j=>(j.atInt .i64 0).bind fun h=>(q0e l b).bind fun m=>(m.atInt .i64 0).bind fun i=>bif decide ((a+1)*16<=LIM)&&decide (a+1<=LIM) then y9w k n (a+1) c d (IntKind.i64.wrap (b+1)) l f ((e.take a)++[PV.agg [.int .i64 h,.int .i64 i]]) else none else x7j (c166 k (e.take a)) fun g=>r83 (g.take g.length):=by kernel_rfl
theorem n84 (k:Nat) v:c84 (k+1) v=R167 (c167 k v) fun a=>r84 (IntKind.i64.wrap (a+1)):=by kernel_rfl
theorem n85 (k:Nat) a:c85 (k+1) a=y67 (y04 k a) fun b=>r85 b:=by kernel_rfl
theorem n86 (k:Nat) p c b d v a:c86 (k+1) p c b d v a=R109 (c109 k p c b d) fun f=>R110 (c110 k p c b d b) fun e=>z76 k k 0 f e.length a (a.length:Int) 0 p c b d v [] e:=by kernel_rfl
theorem w11 (k n:Nat) a d b f g c r e l m o j i:z76 k (n+1) a d b f g c r e l m o j i=bif decide (c<g) then (q0e f c).bind fun t=>(t.atInt .i64 0).bind fun s=>bif decide (c>0) then R103 (c103 k r e l m) fun h=>bif (h==h)&&decide ((0:Int)<=h)&&decide (h.toNat*1<=LIM)&&decide (h.toNat<=LIM) then z77 k n k a d h.toNat f g c b (b:Int) 0 r e l m o s j (List.replicate h.toNat (PV.bool false)) i else none else z6j (q9w k (i.take b) o s) fun p=>x7g (c139 k (p.take p.length)) fun q=>bif decide (q.length<=q.length) then bif (a==j.length)&&decide ((a+1)*24<=LIM)&&decide (a+1<=LIM) then z76 k n (a+1) d p.length f g (IntKind.i64.wrap (c+1)) r e l m o (j++[PV.row 0 0 (q.take q.length)]) p else none else none else bif (a==j.length) then r86 (j.take a) else none:=by kernel_rfl
theorem v3m (k w n:Nat) a d c i j m b o e f g l v r h u p q:z77 k w (n+1) a d c i j m b o e f g l v r h u p q=bif decide (e<o) then bif decide ((0:Int)<=e)&&decide (e<(b:Int)) then (q[0+e.toNat]?).bind fun A=>(A.atInt .i64 0).bind fun z=>(q0e d z).bind fun B=>(B.atRow 0 0).bind fun x=>y3a k w n k a d c i j m b o e x (x.length:Int) 0 f g l v r h u p q else none else x7k (c170 k (p.take c)) fun y=>z6j (q9w k (y.take y.length) r h) fun s=>x7g (c139 k (s.take s.length)) fun t=>bif decide (t.length<=t.length) then bif (a==u.length)&&decide ((a+1)*24<=LIM)&&decide (a+1<=LIM) then z76 k w (a+1) d s.length i j (IntKind.i64.wrap (m+1)) f g l v r (u++[PV.row 0 0 (t.take t.length)]) s else none else none:=by kernel_rfl
theorem v3n (k x y n:Nat) b d a j m o c p q r s e g h l v w i z f t:y3a k x y (n+1) b d a j m o c p q r s e g h l v w i z f t=bif decide (e<s) then (q0e r e).bind fun A=>(A.atInt .i64 0).bind fun u=>bif decide ((0:Int)<=u)&&decide (u<(a:Int)) then (f[0+u.toNat]?).bind fun B=>y3a k x y n b d a j m o c p q r s (IntKind.i64.wrap (e+1)) g h l v w i z (f.set (0+u.toNat) (PV.bool true)) t else none else z77 k x y b d a j m o c p (IntKind.i64.wrap (q+1)) g h l v w i z f t:=by kernel_rfl
theorem n88 (k:Nat) a:c88 (k+1) a=y9x k k a (a.length:Int) 0:=by kernel_rfl
theorem v3o (k n:Nat) b c a:y9x k (n+1) b c a=bif decide (a<c) then (q0e b a).bind fun e=>(e.atRow 0 0).bind fun d=>bif ((d.length:Int)==0) then r88 a else y9x k n b c (IntKind.i64.wrap (a+1)) else r88 (-1):=by kernel_rfl
theorem n89 (k:Nat) p c b d v a:c89 (k+1) p c b d v a=R124 (c124 k p c b d b) fun e=>y3b k k 0 e a (a.length:Int) 0 p c b d v []:=by kernel_rfl
theorem v3p (k n:Nat) a b d e c j f l h i g:y3b k (n+1) a b d e c j f l h i g=bif decide (c<e) then (q0e d c).bind fun o=>(o.atInt .i64 0).bind fun m=>z78 k n k a m 0 d e c b (b.length:Int) 0 j f l h i g [] else r89 (g.take a):=by kernel_rfl
theorem v3q (k r n:Nat) a c b h i j m o f d e l p q s g:z78 k r (n+1) a c b h i j m o f d e l p q s g=bif decide (f<o) then (q0e m f).bind fun w=>(w.atInt .i64 0).bind fun t=>(q0e q t).bind fun x=>(x.atInt .i64 0).bind fun v=>bif (v==c) then bif decide ((b+1)*8<=LIM)&&decide (b+1<=LIM) then z78 k r n a c (b+1) h i j m o (IntKind.i64.wrap (f+1)) d e l p q s ((g.take b)++[PV.int .i64 t]) else none else z78 k r n a c b h i j m o (IntKind.i64.wrap (f+1)) d e l p q s g else bif decide ((a+1)*24<=LIM)&&decide (a+1<=LIM) then R125 (c125 k d e l p (g.take b)) fun u=>y3b k r (a+1) u h i (IntKind.i64.wrap (j+1)) d e l p q ((s.take a)++[PV.row 0 0 (g.take b)]) else none:=by kernel_rfl
theorem n91 (k:Nat) p d e f v a g:c91 (k+1) p d e f v a g=R173 (c173 k v a) fun b=>y69 (y05 k (b.take b.length) p d e f v g) fun c=>r91 (c.take c.length):=by kernel_rfl
theorem n93 (k:Nat) p b d e l c a:c93 (k+1) p b d e l c a=R120 (c120 k 3 l c a) fun l1 v1 v2 b1=>bif b1 then R176 (c176 k p b d e 1 l1 v1 v2) fun l2 v3 v4 l3=>r93 l2 v3 v4 l3 else R152 (c152 k b) fun f=>R56 (c56 k f l1 v1 v2) fun l4 v6 v7 v8=>R56 (c56 k 3 l4 v6 v7) fun l5 v9 v10 v11=>R177 (c177 k [PV.int .i64 14,PV.int .i64 14,PV.int .i64 15] l5 v9 v10) fun l6 v12 v13 v14=>r93 l6 v12 v13 [PV.agg [.int .i64 2,.int .u64 (IntKind.u64.wrap v8)],PV.agg [.int .i64 1,.int .u64 (IntKind.u64.wrap v11)],PV.agg [.int .i64 v14,.int .u64 0]]:=by kernel_rfl
theorem n94 (k:Nat) l b a:c94 (k+1) l b a=R177 (c177 k [PV.int .i64 0,PV.int .i64 1,PV.int .i64 2,PV.int .i64 3,PV.int .i64 31,PV.int .i64 40,PV.int .i64 40,PV.int .i64 40,PV.int .i64 41] l b a) fun l1 v1 v2 v3=>r94 l1 v1 v2 v3:=by kernel_rfl
theorem n95 (k:Nat) p d e f b c a:c95 (k+1) p d e f b c a=R102 (c102 k p d e f) fun g=>bif g then R74 (c74 k p d e f b 0) fun h=>bif h then R107 (c107 k p d e f c) fun i=>bif i then R178 (c178 k a) fun j=>r95 j else r95 false else r95 false else r95 false:=by kernel_rfl
theorem n96 (k:Nat) p d e f a c b:c96 (k+1) p d e f a c b=R180 (c180 k [PV.row 0 0 a,PV.row 0 0 [PV.row 2 0 c]]) fun g=>R179 (c179 k p d e f (g.take g.length)) fun h=>y3c k k a c b p d e f 0 [] 0 [] 0 [] 0 h:=by kernel_rfl
theorem v3r (k n:Nat) b e a h d l g i q j r m o c f:y3c k (n+1) b e a h d l g i q j r m o c f=R128 (c128 k h d l g f e) fun p=>bif p.isEmpty then r96 1 o c f else R138 (c138 k h d l g f p) fun s=>bif s.isEmpty then bif (c==a) then r96 3 o c f else R75 (c75 k h d l g f b p) fun l8 v1 b1=>y3c k n b e a h d l g i q j r m o (IntKind.i64.wrap (c+1)) l8 else r96 2 s c f:=by kernel_rfl
theorem n97 (k:Nat) p d e f b c a:c97 (k+1) p d e f b c a=R104 (c104 k p d e f) fun g=>bif g then R76 (c76 k p d e f b) fun h=>bif h then R126 (c126 k p d e f c) fun i=>bif i then R140 (c140 k a 0 40) fun j=>r97 j else r97 false else r97 false else r97 false:=by kernel_rfl
theorem n98 (k:Nat) p b c d v t:c98 (k+1) p b c d v t=R124 (c124 k p b c d t) fun e=>R80 (c80 k v e) fun a=>r98 (a.take a.length):=by kernel_rfl
theorem n99 (k:Nat) p c d e a:c99 (k+1) p c d e a=R105 (c105 k p c d e) fun b=>bif (b==b)&&decide ((0:Int)<=b)&&decide (b.toNat*8<=LIM)&&decide (b.toNat<=LIM) then y9y k k a (a.length:Int) 0 p c d e [] b.toNat (List.replicate b.toNat (PV.int .i64 0)) else none:=by kernel_rfl
theorem v3s (k n:Nat) d e a g c l f i b h:y9y k (n+1) d e a g c l f i b h=bif decide (a<e) then (q0e d a).bind fun o=>(o.atRow 2 0).bind fun m=>R98p (c98 k g c l f (h.take b) m) fun j=>y9y k n d e (IntKind.i64.wrap (a+1)) g c l f i j.length j else r99 (h.take b):=by kernel_rfl
theorem n100 (k:Nat) p c b d v a:c100 (k+1) p c b d v a=R124 (c124 k p c b d b) fun e=>R181 (c181 k v e) fun f=>R183 (c183 k p c b d v) fun g=>R124 (c124 k p c b d a) fun h=>R181 (c181 k v h) fun i=>R182 (c182 k g f i) fun l6 b1=>r100 l6 b1:=by kernel_rfl
theorem n101 (k:Nat) p b c d a:c101 (k+1) p b c d a=bif decide ((0+a.length)*24<=LIM)&&decide (0+a.length<=LIM) then z48 k k a (0+a.length) (IntKind.i64.wrap ((0+a.length:Int)-2)) p b c d ([]++a) else none:=by kernel_rfl
theorem x6p (k n:Nat) b a d g c l f e:z48 k (n+1) b a d g c l f e=bif decide (d>=0) then (q0e b d).bind fun m=>(m.atRow 0 0).bind fun h=>z1z k n k b a d 0 h (h.length:Int) 0 g c l f e [] else bif decide ((0:Int)<(a:Int)) then (e[0]?).bind fun o=>(o.atRow 0 0).bind fun i=>(q0e i 0).bind fun p=>(p.atInt .i64 0).bind fun j=>z10 k k a 1 1 g c l f e [PV.int .i64 j] else none:=by kernel_rfl
theorem w6s (k p n:Nat) c a d b h i g e f l o m j:z1z k p (n+1) c a d b h i g e f l o m j=bif decide (g<i) then (q0e h g).bind fun u=>(u.atInt .i64 0).bind fun q=>bif decide ((0:Int)<=IntKind.i64.wrap (d+1))&&decide (IntKind.i64.wrap (d+1)<(a:Int)) then (m[0+((IntKind.i64.wrap (d+1)).toNat)]?).bind fun v=>(v.atRow 0 0).bind fun s=>R184 (c184 k e f l o q) fun t=>R127 (c127 k t s) fun r=>bif r then bif decide ((b+1)*8<=LIM)&&decide (b+1<=LIM) then z1z k p n c a d (b+1) h i (IntKind.i64.wrap (g+1)) e f l o m ((j.take b)++[PV.int .i64 q]) else none else z1z k p n c a d b h i (IntKind.i64.wrap (g+1)) e f l o m j else none else bif decide ((0:Int)<=d)&&decide (d<(a:Int)) then (m[0+d.toNat]?).bind fun w=>z48 k p c a (IntKind.i64.wrap (d-1)) e f l o (m.set (0+d.toNat) (PV.row 0 0 (j.take b))) else none:=by kernel_rfl
theorem w6t (k n:Nat) b a e g d l f i c:z10 k (n+1) b a e g d l f i c=bif decide (e<(b:Int)) then bif decide ((0:Int)<=IntKind.i64.wrap (e-1))&&decide (IntKind.i64.wrap (e-1)<(a:Int)) then (c[0+((IntKind.i64.wrap (e-1)).toNat)]?).bind fun m=>(m.atInt .i64 0).bind fun j=>R184 (c184 k g d l f j) fun h=>z49 k n k b a e h (h.length:Int) 0 g d l f i c else none else r101 (c.take a):=by kernel_rfl
theorem w6u (k o n:Nat) b a g h i e c d l m j f:z49 k o (n+1) b a g h i e c d l m j f=bif decide (e<i) then (q0e h e).bind fun s=>(s.atInt .i64 0).bind fun p=>bif decide ((0:Int)<=g)&&decide (g<(b:Int)) then (j[0+g.toNat]?).bind fun t=>(t.atRow 0 0).bind fun r=>R163 (c163 k r p) fun q=>bif q then bif decide ((a+1)*8<=LIM)&&decide (a+1<=LIM) then z10 k o b (a+1) (IntKind.i64.wrap (g+1)) c d l m j ((f.take a)++[PV.int .i64 p]) else none else z49 k o n b a g h i (IntKind.i64.wrap (e+1)) c d l m j f else none else z10 k o b a (IntKind.i64.wrap (g+1)) c d l m j f:=by kernel_rfl
theorem n102 (k:Nat) p a b c:c102 (k+1) p a b c=R185 (c185 k p a b c) fun d=>bif d then r102 (decide (IntKind.i64.wrap (p*a)<=5)) else r102 false:=by kernel_rfl
theorem n103 (k:Nat) p a b c:c103 (k+1) p a b c=bif !decide (IntKind.i64.wrap (p*a)<0) then r103 (shlI .i64 1 (IntKind.i64.wrap (p*a))) else none:=by kernel_rfl
theorem n104 (k:Nat) p a b c:c104 (k+1) p a b c=R132 (c132 k p a b c) fun d=>bif d then r104 (decide (IntKind.i64.wrap (p*a)<=5)) else r104 false:=by kernel_rfl
theorem n105 (k:Nat) p a b c:c105 (k+1) p a b c=bif !decide (IntKind.u64.wrap (IntKind.i64.wrap (p*a))<0) then r105 (shlI .i64 1 (IntKind.u64.wrap (IntKind.i64.wrap (p*a)))) else none:=by kernel_rfl
theorem n107 (k:Nat) p a c d t:c107 (k+1) p a c d t=R187 (c187 k p a t 2) fun b=>r107 b:=by kernel_rfl
theorem n108 (k:Nat) g a:c108 (k+1) g a=w4t (c142 k [PV.int .i64 (-1)] (g.length:Int)) fun b=>R139 (c139 k a) fun c=>z5a k k g b.length c.length a (a.length:Int) 0 b c:=by kernel_rfl
theorem w6v (k n:Nat) g a b d e c i f:z5a k (n+1) g a b d e c i f=bif decide (c<e) then (q0e d c).bind fun j=>(j.atInt .i64 0).bind fun h=>bif decide ((0:Int)<=h)&&decide (h<(a:Int)) then (i[0+h.toNat]?).bind fun l=>z5a k n g a b d e (IntKind.i64.wrap (c+1)) (i.set (0+h.toNat) (PV.int .i64 0)) f else none else y19 k k g a b i f:=by kernel_rfl
theorem x6q (k n:Nat) g b a d c:y19 k (n+1) g b a d c=bif decide ((a:Int)>0) then bif decide ((0:Int)<(a:Int)) then (c[0]?).bind fun h=>(h.atInt .i64 0).bind fun f=>(q0e g f).bind fun i=>(i.atRow 0 0).bind fun e=>q9o k n k g b a e (e.length:Int) 0 d c else none else r108 (d.take b):=by kernel_rfl
theorem w6w (k j n:Nat) g b a e f c i d:q9o k j (n+1) g b a e f c i d=bif decide (c<f) then (q0e e c).bind fun p=>(p.atInt .i64 0).bind fun h=>bif decide ((0:Int)<=h)&&decide (h<(b:Int)) then (i[0+h.toNat]?).bind fun q=>(q.atInt .i64 0).bind fun m=>bif decide (m<0) then bif decide ((0:Int)<(a:Int)) then (d[0]?).bind fun r=>(r.atInt .i64 0).bind fun l=>bif decide ((0:Int)<=l)&&decide (l<(b:Int)) then (i[0+l.toNat]?).bind fun s=>(s.atInt .i64 0).bind fun o=>bif decide ((0:Int)<=h)&&decide (h<(b:Int)) then (i[0+h.toNat]?).bind fun t=>bif decide ((a+1)*8<=LIM)&&decide (a+1<=LIM) then q9o k j n g b (a+1) e f (IntKind.i64.wrap (c+1)) (i.set (0+h.toNat) (PV.int .i64 (IntKind.i64.wrap (o+1)))) ((d.take a)++[PV.int .i64 h]) else none else none else none else none else q9o k j n g b a e f (IntKind.i64.wrap (c+1)) i d else none else bif decide ((1:Int)<=(a:Int))&&decide ((a:Int)<=(a:Int)) then z11 k j g b 1 (a-1) i d else none:=by kernel_rfl
theorem x6r (k n:Nat) g b c a e d:z11 k (n+1) g b c a e d=bif decide ((a:Int)>0) then bif decide ((0:Int)<(a:Int)) then (d[c]?).bind fun i=>(i.atInt .i64 0).bind fun h=>(q0e g h).bind fun j=>(j.atRow 0 0).bind fun f=>z5b k n k g b c a f (f.length:Int) 0 e d else none else r108 (e.take b):=by kernel_rfl
theorem w6x (k l n:Nat) g b c a f h d j e:z5b k l (n+1) g b c a f h d j e=bif decide (d<h) then (q0e f d).bind fun q=>(q.atInt .i64 0).bind fun i=>bif decide ((0:Int)<=i)&&decide (i<(b:Int)) then (j[0+i.toNat]?).bind fun r=>(r.atInt .i64 0).bind fun o=>bif decide (o<0) then bif decide ((0:Int)<(a:Int)) then (e[c]?).bind fun s=>(s.atInt .i64 0).bind fun m=>bif decide ((0:Int)<=m)&&decide (m<(b:Int)) then (j[0+m.toNat]?).bind fun t=>(t.atInt .i64 0).bind fun p=>bif decide ((0:Int)<=i)&&decide (i<(b:Int)) then (j[0+i.toNat]?).bind fun u=>bif decide ((a+1)*8<=LIM)&&decide (a+1<=LIM) then q9o k l n g b (a+1) f h (IntKind.i64.wrap (d+1)) (j.set (0+i.toNat) (PV.int .i64 (IntKind.i64.wrap (p+1)))) ((((e).drop c).take a)++[PV.int .i64 i]) else none else none else none else none else z5b k l n g b c a f h (IntKind.i64.wrap (d+1)) j e else none else bif decide ((1:Int)<=(a:Int))&&decide ((a:Int)<=(a:Int)) then z11 k l g b (c+1) (a-1) j e else none:=by kernel_rfl
theorem n109 (k:Nat) p a b c:c109 (k+1) p a b c=R103 (c103 k p a b c) fun d=>y2a k k 0 d 0 p a b c []:=by kernel_rfl
theorem x6s (k n:Nat) a f c e b l d g:y2a k (n+1) a f c e b l d g=bif decide (c<f) then R68 (c68 k e b l d c) fun h=>bif decide ((a+1)*24<=LIM)&&decide (a+1<=LIM) then y2a k n (a+1) f (IntKind.i64.wrap (c+1)) e b l d ((g.take a)++[PV.row 0 0 h]) else none else r109 (g.take a):=by kernel_rfl
theorem n110 (k:Nat) p a b c t:c110 (k+1) p a b c t=R103 (c103 k p a b c) fun d=>z5c k k t 0 d 0 p a b c []:=by kernel_rfl
theorem w6y (k n:Nat) t a f b e c l d g:z5c k (n+1) t a f b e c l d g=bif decide (b<f) then R70 (c70 k e c l d b) fun i=>R69 (c69 k e c l d t i) fun h=>bif h then bif decide ((a+1)*8<=LIM)&&decide (a+1<=LIM) then z5c k n t (a+1) f (IntKind.i64.wrap (b+1)) e c l d ((g.take a)++[PV.int .i64 b]) else none else z5c k n t a f (IntKind.i64.wrap (b+1)) e c l d g else r110 (g.take a):=by kernel_rfl
theorem n111 (k:Nat) p b a c v:c111 (k+1) p b a c v=R188 (c188 k p b a c v) fun f=>R110 (c110 k p b a c a) fun d=>q52 (c130 k v (d.take d.length)) fun e=>R186 (c186 k f (e.take e.length)) fun g=>r111 g:=by kernel_rfl
theorem n118 (k:Nat) l b a:c118 (k+1) l b a=R177 (c177 k [PV.int .i64 1,PV.int .i64 2,PV.int .i64 2,PV.int .i64 2,PV.int .i64 3,PV.int .i64 4] l b a) fun l1 v1 v2 v3=>bif decide (v3<3) then bif !(v3==0) then R56 (c56 k (IntKind.i64.wrap ((6:Int).tdiv v3)) l1 v1 v2) fun l2 v4 v5 v6=>q9p k k v3 (IntKind.i64.wrap (1+v6)) l2 v4 v5 0 0 [] [] else none else q9p k k v3 1 l1 v1 v2 0 0 [] []:=by kernel_rfl
theorem w6z (k n:Nat) b a l g c d e h i:q9p k (n+1) b a l g c d e h i=bif decide (IntKind.i64.wrap (b*a)>5) then q9p k n b (IntKind.i64.wrap (a-1)) l g c d e h i else bif decide (a>4) then q9p k n b (IntKind.i64.wrap (a-1)) l g c d e h i else R190 (c190 k b a l g c) fun l3 v1 v2 v3 v4 l4 l5=>R56 (c56 k 40 l3 v1 v2) fun l6 v5 v6 v7=>bif (v7==0) then R177 (c177 k [PV.int .i64 0,PV.int .i64 4,PV.int .i64 5] l6 v5 v6) fun l7 v8 v9 v10=>bif (l5.length==l5.length) then r118 l7 v8 v9 v3 v10 l4 (l5.take l5.length) else none else bif (v7==1) then r118 l6 v5 v6 v3 v4 l4 [] else bif (v7==2) then bif decide ((0:Int)<(l5.length:Int)) then (l5[0]?).bind fun o=>(putPart o 2 0 (PV.row 2 0 [PV.agg [.int .i64 1,.int .u64 0]]) 0).bind fun j=>bif (l5.length==(l5.set 0 j).length) then r118 l6 v5 v6 v3 v4 l4 ((l5.set 0 j).take l5.length) else none else none else bif (v7==3) then bif decide ((0:Int)<(l5.length:Int)) then (l5[0]?).bind fun p=>(p.atRow 2 1).bind fun f=>bif decide ((f.length+1)*32<=LIM)&&decide (f.length+1<=LIM) then bif decide ((0:Int)<(l5.length:Int)) then (l5[0]?).bind fun q=>bif decide (f.length+1<=(f++[PV.agg [.int .i64 0,.row 2 0 [PV.agg [.int .i64 1,.int .u64 0]]]]).length) then (putPart q 2 1 (PV.row 2 0 ((f++[PV.agg [.int .i64 0,.row 2 0 [PV.agg [.int .i64 1,.int .u64 0]]]]).take (f.length+1))) 0).bind fun m=>bif (l5.length==(l5.set 0 m).length) then r118 l6 v5 v6 v3 v4 l4 ((l5.set 0 m).take l5.length) else none else none else none else none else none else bif (l5.length==l5.length) then r118 l6 v5 v6 v3 v4 l4 (l5.take l5.length) else none:=by kernel_rfl
theorem n120 (k:Nat) c l a b:c120 (k+1) c l a b=R56 (c56 k c l a b) fun l1 v1 v2 v3=>r120 l1 v1 v2 (v3==0):=by kernel_rfl
theorem n121 (k:Nat) d a l b c:c121 (k+1) d a l b c=R56 (c56 k (IntKind.i64.wrap (a+1)) l b c) fun l1 v1 v2 v3=>y2b k k d 0 v3 l1 v1 v2 []:=by kernel_rfl
theorem w60 (k n:Nat) d a f l b c e:y2b k (n+1) d a f l b c e=bif decide (f>0) then R56 (c56 k d l b c) fun l1 v1 v2 v3=>R192 (c192 k (e.take a) v3) fun g=>y2b k n d g.length (IntKind.i64.wrap (f-1)) l1 v1 v2 g else R120 (c120 k 40 l b c) fun l3 v4 v5 b1=>bif b1 then bif decide ((a+1)*8<=LIM)&&decide (a+1<=LIM) then r121 l3 v4 v5 (((e.take a)++[PV.int .i64 d]).take (a+1)) else none else r121 l3 v4 v5 (e.take a):=by kernel_rfl
theorem n123 (k:Nat) a b:c123 (k+1) a b=y2c k k b a (a.length:Int) 0:=by kernel_rfl
theorem w61 (k n:Nat) a c d b:y2c k (n+1) a c d b=bif decide (b<d) then (q0e c b).bind fun g=>(g.atInt .i64 0).bind fun f=>R163 (c163 k a f) fun e=>bif !e then r123 false else y2c k n a c d (IntKind.i64.wrap (b+1)) else r123 true:=by kernel_rfl
theorem n124 (k:Nat) p a b c t:c124 (k+1) p a b c t=z5d k k t 0 0 p a b c []:=by kernel_rfl
theorem w62 (k n:Nat) t a e d b l c f:z5d k (n+1) t a e d b l c f=R105 (c105 k d b l c) fun i=>bif decide (e<i) then R195 (c195 k d b l c e) fun h=>R194 (c194 k d b l c t h) fun g=>bif g then bif decide ((a+1)*8<=LIM)&&decide (a+1<=LIM) then z5d k n t (a+1) (IntKind.i64.wrap (e+1)) d b l c ((f.take a)++[PV.int .i64 e]) else none else z5d k n t a (IntKind.i64.wrap (e+1)) d b l c f else r124 (f.take a):=by kernel_rfl
theorem n125 (k:Nat) p b c d a:c125 (k+1) p b c d a=z5e k k 0 a (a.length:Int) 0 p b c d []:=by kernel_rfl
theorem w63 (k n:Nat) a d e b g c l f h:z5e k (n+1) a d e b g c l f h=bif decide (b<e) then (q0e d b).bind fun m=>(m.atInt .i64 0).bind fun j=>R184 (c184 k g c l f j) fun i=>z5f k n k a d e b i (i.length:Int) 0 g c l f h else r125 (h.take a):=by kernel_rfl
theorem w64 (k m n:Nat) a e f g h i b c d l j o:z5f k m (n+1) a e f g h i b c d l j o=bif decide (b<i) then (q0e h b).bind fun r=>(r.atInt .i64 0).bind fun q=>R192 (c192 k (o.take a) q) fun p=>z5f k m n p.length e f g h i (IntKind.i64.wrap (b+1)) c d l j p else z5e k m a e f (IntKind.i64.wrap (g+1)) c d l j o:=by kernel_rfl
theorem n126 (k:Nat) p a b c t:c126 (k+1) p a b c t=R196 (c196 k p a t) fun d=>r126 (d==2):=by kernel_rfl
theorem n127 (k:Nat) a b:c127 (k+1) a b=y2d k k b a (a.length:Int) 0:=by kernel_rfl
theorem w65 (k n:Nat) b c d a:y2d k (n+1) b c d a=bif decide (a<d) then (q0e c a).bind fun g=>(g.atInt .i64 0).bind fun f=>R163 (c163 k b f) fun e=>bif e then r127 true else y2d k n b c d (IntKind.i64.wrap (a+1)) else r127 false:=by kernel_rfl
theorem n128 (k:Nat) p c b d v a:c128 (k+1) p c b d v a=R188 (c188 k p c b d v) fun j=>R110 (c110 k p c b d b) fun f=>q52 (c130 k v (f.take f.length)) fun g=>R110 (c110 k p c b d a) fun h=>q52 (c130 k v (h.take h.length)) fun i=>R197 (c197 k j (g.take g.length) (i.take i.length)) fun e=>bif e.isEmpty then r128 [] else bif !((e).isEmpty) then r128 e else none:=by kernel_rfl
theorem n129 (k:Nat) p a b c v:c129 (k+1) p a b c v=R104 (c104 k p a b c) fun d=>bif !d then r129 false else R105 (c105 k p a b c) fun e=>bif ((v.length:Int) != e) then r129 false else z5g k k 0 v (v.length:Int) 0:=by kernel_rfl
theorem w66 (k n:Nat) a c d b:z5g k (n+1) a c d b=bif decide (b<d) then (q0e c b).bind fun g=>(g.atInt .i64 0).bind fun e=>R140 (c140 k e 0 a) fun f=>bif !f then r129 false else bif (e==a) then z5g k n (IntKind.i64.wrap (a+1)) c d (IntKind.i64.wrap (b+1)) else z5g k n a c d (IntKind.i64.wrap (b+1)) else r129 true:=by kernel_rfl
theorem n130 (k:Nat) v a:c130 (k+1) v a=R84 (c84 k v) fun b=>bif (b==b)&&decide ((0:Int)<=b)&&decide (b.toNat*1<=LIM)&&decide (b.toNat<=LIM) then y2e k k b.toNat a (a.length:Int) 0 v (List.replicate b.toNat (PV.bool false)) else none:=by kernel_rfl
theorem w67 (k n:Nat) a c d b l f:y2e k (n+1) a c d b l f=bif decide (b<d) then (q0e c b).bind fun i=>(i.atInt .i64 0).bind fun h=>(q0e l h).bind fun j=>(j.atInt .i64 0).bind fun e=>bif decide ((0:Int)<=e)&&decide (e<(a:Int)) then (f[0+e.toNat]?).bind fun m=>y2e k n a c d (IntKind.i64.wrap (b+1)) l (f.set (0+e.toNat) (PV.bool true)) else none else x7k (c170 k (f.take a)) fun g=>r130 (g.take g.length):=by kernel_rfl
theorem n131 (k:Nat) a l:c131 (k+1) a l=R67 (c67 k l a) fun b=>r131 b:=by kernel_rfl
theorem n132 (k:Nat) p c b a:c132 (k+1) p c b a=R126 (c126 k p c b a b) fun d=>bif !d then r132 false else R140 (c140 k (a.length:Int) 1 6) fun e=>bif !e then r132 false else y2f k k a (a.length:Int) 0 p c b a:=by kernel_rfl
theorem w68 (k n:Nat) c d a f b l e:y2f k (n+1) c d a f b l e=bif decide (a<d) then (q0e c a).bind fun g=>bif g.shp 2 then (g.atRow 2 0).bind fun i=>(g.atRow 2 1).bind fun j=>R198 (c198 k f b l e i j) fun h=>bif !h then r132 false else y2f k n c d (IntKind.i64.wrap (a+1)) f b l e else none else r132 true:=by kernel_rfl
theorem n133 (k:Nat) p b c d l e a:c133 (k+1) p b c d l e a=R72 (c72 k p b c d 3 l e a) fun l1 v1 v2 l2=>R199 (c199 k p b c d l2) fun l3 b1=>R120 (c120 k 3 l1 v1 v2) fun l4 v3 v4 b2=>bif b2 then R121 (c121 k 4 3 l4 v3 v4) fun l5 v5 v6 l6=>w4w (c200 k p b c d (l3.take l3.length) l6) fun l7 b3=>bif b3 then R56 (c56 k 40 l5 v5 v6) fun l8 v7 v8 v9=>bif (v9==0) then bif decide ((l7.length+1)*8<=LIM)&&decide (l7.length+1<=LIM) then r133 l8 v7 v8 (((l7.take l7.length)++[PV.int .i64 0]).take (l7.length+1)) else none else bif (v9==1) then bif decide ((l7.length:Int)>0) then bif decide ((0:Int)<=IntKind.i64.wrap ((l7.length:Int)-1))&&decide (IntKind.i64.wrap ((l7.length:Int)-1)<(l7.length:Int)) then (l7[0+((IntKind.i64.wrap ((l7.length:Int)-1)).toNat)]?).bind fun f=>r133 l8 v7 v8 ((l7.set (0+((IntKind.i64.wrap ((l7.length:Int)-1)).toNat)) (PV.int .i64 (l7.length:Int))).take l7.length) else none else r133 l8 v7 v8 (l7.take l7.length) else r133 l8 v7 v8 (l7.take l7.length) else R56 (c56 k 40 l5 v5 v6) fun l9 v10 v11 v12=>bif (v12==0) then bif decide ((l3.length+1)*8<=LIM)&&decide (l3.length+1<=LIM) then r133 l9 v10 v11 (((l3.take l3.length)++[PV.int .i64 0]).take (l3.length+1)) else none else bif (v12==1) then bif decide ((l3.length:Int)>0) then bif decide ((0:Int)<=IntKind.i64.wrap ((l3.length:Int)-1))&&decide (IntKind.i64.wrap ((l3.length:Int)-1)<(l3.length:Int)) then (l3[0+((IntKind.i64.wrap ((l3.length:Int)-1)).toNat)]?).bind fun g=>r133 l9 v10 v11 ((l3.set (0+((IntKind.i64.wrap ((l3.length:Int)-1)).toNat)) (PV.int .i64 (l3.length:Int))).take l3.length) else none else r133 l9 v10 v11 (l3.take l3.length) else r133 l9 v10 v11 (l3.take l3.length) else R56 (c56 k 40 l4 v3 v4) fun l10 v13 v14 v15=>bif (v15==0) then bif decide ((l3.length+1)*8<=LIM)&&decide (l3.length+1<=LIM) then r133 l10 v13 v14 (((l3.take l3.length)++[PV.int .i64 0]).take (l3.length+1)) else none else bif (v15==1) then bif decide ((l3.length:Int)>0) then bif decide ((0:Int)<=IntKind.i64.wrap ((l3.length:Int)-1))&&decide (IntKind.i64.wrap ((l3.length:Int)-1)<(l3.length:Int)) then (l3[0+((IntKind.i64.wrap ((l3.length:Int)-1)).toNat)]?).bind fun h=>r133 l10 v13 v14 ((l3.set (0+((IntKind.i64.wrap ((l3.length:Int)-1)).toNat)) (PV.int .i64 (l3.length:Int))).take l3.length) else none else r133 l10 v13 v14 (l3.take l3.length) else r133 l10 v13 v14 (l3.take l3.length):=by kernel_rfl
theorem n136 (k:Nat) l b a:c136 (k+1) l b a=bif decide (b<(l.length:Int)) then (q0e l b).bind fun d=>(d.atInt .u8 0).bind fun c=>bif decide (IntKind.i64.wrap (b+1)<=(l.length:Int)) then r136 l (IntKind.i64.wrap (b+1)) (IntKind.u64.wrap ((IntKind.u64.wrap ((IntKind.u64.wrap (a*6364136223846793005))+(IntKind.u64.wrap (IntKind.i64.wrap c))))+1442695040888963407)) (IntKind.i64.wrap c) else r136 l (IntKind.i64.wrap (b+1)) (IntKind.u64.wrap ((IntKind.u64.wrap ((IntKind.u64.wrap (a*6364136223846793005))+(IntKind.u64.wrap (IntKind.i64.wrap c))))+1442695040888963407)) (IntKind.i64.wrap (q0o .and .u64 (shrI .u64 (IntKind.u64.wrap ((IntKind.u64.wrap ((IntKind.u64.wrap (a*6364136223846793005))+(IntKind.u64.wrap (IntKind.i64.wrap c))))+1442695040888963407)) 40) 255)) else bif decide (IntKind.i64.wrap (b+1)<=(l.length:Int)) then r136 l (IntKind.i64.wrap (b+1)) (IntKind.u64.wrap ((IntKind.u64.wrap ((IntKind.u64.wrap (a*6364136223846793005))+0))+1442695040888963407)) 0 else r136 l (IntKind.i64.wrap (b+1)) (IntKind.u64.wrap ((IntKind.u64.wrap ((IntKind.u64.wrap (a*6364136223846793005))+0))+1442695040888963407)) (IntKind.i64.wrap (q0o .and .u64 (shrI .u64 (IntKind.u64.wrap ((IntKind.u64.wrap ((IntKind.u64.wrap (a*6364136223846793005))+0))+1442695040888963407)) 40) 255)):=by kernel_rfl
theorem n138 (k:Nat) p c d e v a:c138 (k+1) p c d e v a=R86 (c86 k p c d e v a) fun b=>R109 (c109 k p c d e) fun f=>R85p (c85 k (b.take b.length)) fun g=>bif decide (g>=0) then r138 [] else y2g k k (IntKind.i64.wrap ((b.length:Int)-1)) b.length f (IntKind.i64.wrap ((IntKind.i64.wrap ((b.length:Int)-1))-1)) b:=by kernel_rfl
theorem x6t (k n:Nat) c b l a d:y2g k (n+1) c b l a d=bif decide (a>=0) then bif decide ((0:Int)<=a)&&decide (a<(b:Int)) then (d[0+a.toNat]?).bind fun g=>(g.atRow 0 0).bind fun f=>y7 (z3e k f l ((d.set (0+a.toNat) PV.junk).take b) a) fun e=>bif decide ((0:Int)<=a)&&decide (a<(b:Int)) then (d[0+a.toNat]?).bind fun h=>bif ((some (0+a.toNat):Option Nat)==some (0+a.toNat))&&decide (e.length<=e.length) then y2g k n c b l (IntKind.i64.wrap (a-1)) (d.set (0+a.toNat) (PV.row 0 0 (e.take e.length))) else none else none else none else y98 k c (d.take b) l:=by kernel_rfl
theorem w6q (k:Nat) a l b:y98 (k+1) a l b=(q0e l 0).bind fun e=>(e.atRow 0 0).bind fun c=>(q0e c 0).bind fun f=>(f.atInt .i64 0).bind fun d=>y2h (k+1) (k+1) a l b 1 1 [PV.int .i64 d]:=by kernel_rfl
theorem w69 (k n:Nat) b l e a c d:y2h k (n+1) b l e a c d=bif decide (c<=b) then (q0e l c).bind fun i=>(i.atRow 0 0).bind fun f=>y61 (y0z k f e (d.take a) c) fun o=>(q0e l c).bind fun j=>(j.atRow 0 0).bind fun g=>(q0e g o).bind fun m=>(m.atInt .i64 0).bind fun h=>bif decide ((a+1)*8<=LIM)&&decide (a+1<=LIM) then y2h k n b l e (a+1) (IntKind.i64.wrap (c+1)) ((d.take a)++[PV.int .i64 h]) else none else bif !((d.take a).isEmpty) then r138 (d.take a) else none:=by kernel_rfl
theorem n139 (k:Nat) qs (h1:qs.length*8<=LIM) (h2:qs.length<=LIM):c139 (k+1) qs=r139 qs:=y91 (by first | (simp [T,orT,numT,cloneT,q5x,lk,h1,h2] <;> rfl) | (simp [T,cloneT,q5x,lk,h1,h2] <;> rfl))
theorem n140 (k:Nat) a c b:c140 (k+1) a c b=bif decide (a>=c) then r140 (decide (a<=b)) else r140 false:=by kernel_rfl
theorem n142 (k:Nat) x a:c142 (k+1) x a=bif decide (a<0) then none else R209 (c209 k (IntKind.u64.wrap (x.length:Int)) (IntKind.u64.wrap a)) fun v1 v2=>bif decide (v1>0) then none else bif decide (v2>9223372036854775807) then none else bif (IntKind.i64.wrap v2==IntKind.i64.wrap v2)&&decide ((0:Int)<=IntKind.i64.wrap v2)&&decide (((IntKind.i64.wrap v2).toNat)*8<=LIM)&&decide ((IntKind.i64.wrap v2).toNat<=LIM) then y2i k k ((IntKind.i64.wrap v2).toNat) ((min x.length ((IntKind.i64.wrap v2).toNat):Nat):Int) ((((List.replicate ((IntKind.i64.wrap v2).toNat) (PV.int .i64 0)).take 0)++(x.take (min x.length ((IntKind.i64.wrap v2).toNat))))++((List.replicate ((IntKind.i64.wrap v2).toNat) (PV.int .i64 0)).drop (0+(x.take (min x.length ((IntKind.i64.wrap v2).toNat))).length))) else none:=by kernel_rfl
theorem x6u (k n:Nat) a b c:y2i k (n+1) a b c=bif decide (b<(a:Int)) then bif decide ((0:Int)<=b)&&decide (b<=(a:Int))&&decide ((a:Int)<=(a:Int)) then bif decide ((0:Int)<=b)&&decide (b<=(a:Int)) then y2i k n a (IntKind.i64.wrap (b+((min ((c.take b.toNat).length) (a-b.toNat):Nat):Int))) (((c.take (0+b.toNat))++((c.take b.toNat).take (min ((c.take b.toNat).length) (a-b.toNat))))++((c).drop (0+b.toNat+((c.take b.toNat).take (min ((c.take b.toNat).length) (a-b.toNat))).length))) else none else none else r142 (c.take a):=by kernel_rfl
theorem w3i (k:Nat) a l:y0t (k+1) a l=q8o k k a l (a.length:Int) 0:=by kernel_rfl
theorem x4z (k n:Nat) b l c a:q8o k (n+1) b l c a=bif decide (a<c) then (q0e b a).bind fun f=>(f.atInt .i64 0).bind fun e=>R131 (c131 k e l) fun d=>bif d then q99 a else q8o k n b l c (IntKind.i64.wrap (a+1)) else q99 (-1):=by kernel_rfl
theorem w3p (k:Nat) a l b:z3d (k+1) a l b=q8v k k a l b (a.length:Int) 0:=by kernel_rfl
theorem w3m (k:Nat) a l b c:y0x (k+1) a l b c=q8s k k a l b c (a.length:Int) 0:=by kernel_rfl
theorem w3k (k:Nat) c f a l d e b:y0v (k+1) c f a l d e b=q8q k k c f a l d e b (c.length:Int) 0:=by kernel_rfl
theorem w3q (k:Nat) a b:x01 (k+1) a b=q6i k k a (a.length:Int) 0 b:=by kernel_rfl
theorem x46 (k n:Nat) c l b d a:q8v k (n+1) c l b d a=bif decide (a<d) then (q0e c a).bind fun g=>(g.atInt .i64 0).bind fun f=>R249 (c249 k f l b) fun e=>bif e then q7g a else q8v k n c l b d (IntKind.i64.wrap (a+1)) else q7g (-1):=by kernel_rfl
theorem w3j (k:Nat) a l b:y0u (k+1) a l b=q8p k k a l b (a.length:Int) 0:=by kernel_rfl
theorem x43 (k n:Nat) d l b c e a:q8s k (n+1) d l b c e a=bif decide (a<e) then (q0e d a).bind fun h=>(h.atInt .i64 0).bind fun g=>R204 (c204 k g l b c) fun f=>bif f then z0d a else q8s k n d l b c e (IntKind.i64.wrap (a+1)) else z0d (-1):=by kernel_rfl
theorem w3o (k:Nat) a l b c:y0z (k+1) a l b c=q8u k k a l b c (a.length:Int) 0:=by kernel_rfl
theorem x41 (k n:Nat) g f a l d e b h c:q8q k (n+1) g f a l d e b h c=bif decide (c<h) then (q0e g c).bind fun m=>(m.atInt .i64 0).bind fun j=>R174 (c174 k j f a l d e b) fun i=>bif i then z0b c else q8q k n g f a l d e b h (IntKind.i64.wrap (c+1)) else z0b (-1):=by kernel_rfl
theorem x47 (k n:Nat) c d a b:q6i k (n+1) c d a b=bif decide (a<d) then (q0e c a).bind fun f=>(f.atInt .i64 0).bind fun e=>R276 (c276 k e b) fun v1 b1=>bif b1 then z0g v1 a else q6i k n c d (IntKind.i64.wrap (a+1)) v1 else z0g b (-1):=by kernel_rfl
theorem x40 (k n:Nat) c l b d a:q8p k (n+1) c l b d a=bif decide (a<d) then (q0e c a).bind fun g=>(g.atInt .i64 0).bind fun f=>R172 (c172 k f l b) fun e=>bif e then z0a a else q8p k n c l b d (IntKind.i64.wrap (a+1)) else z0a (-1):=by kernel_rfl
theorem x45 (k n:Nat) d l b c e a:q8u k (n+1) d l b c e a=bif decide (a<e) then (q0e d a).bind fun h=>(h.atInt .i64 0).bind fun g=>R206 (c206 k g l b c) fun f=>bif f then z0f a else q8u k n d l b c e (IntKind.i64.wrap (a+1)) else z0f (-1):=by kernel_rfl
theorem w3n (k:Nat) a l b:y0y (k+1) a l b=q8t k k a l b (a.length:Int) 0:=by kernel_rfl
theorem w3l (k:Nat) a l b:y0w (k+1) a l b=q8r k k a l b (a.length:Int) 0:=by kernel_rfl
theorem x44 (k n:Nat) c l b d a:q8t k (n+1) c l b d a=bif decide (a<d) then (q0e c a).bind fun g=>(g.atInt .i64 0).bind fun f=>R205 (c205 k f l b) fun e=>bif e then z0e a else q8t k n c l b d (IntKind.i64.wrap (a+1)) else z0e (-1):=by kernel_rfl
theorem x42 (k n:Nat) c l b d a:q8r k (n+1) c l b d a=bif decide (a<d) then (q0e c a).bind fun g=>(g.atInt .i64 0).bind fun f=>R175 (c175 k f l b) fun e=>bif e then z0c a else q8r k n c l b d (IntKind.i64.wrap (a+1)) else z0c (-1):=by kernel_rfl
theorem w3r (k:Nat) b e a l c d:y00 (k+1) b e a l c d=q8w k k b e a l c d (b.length:Int) 0:=by kernel_rfl
theorem x48 (k n:Nat) f e a l c d g b:q8w k (n+1) f e a l c d g b=bif decide (b<g) then (q0e f b).bind fun j=>(j.atInt .i64 0).bind fun i=>R291 (c291 k i e a l c d) fun h=>bif h then z0h b else q8w k n f e a l c d g (IntKind.i64.wrap (b+1)) else z0h (-1):=by kernel_rfl
theorem n144 (k:Nat) a v:c144 (k+1) a v=z5h k k a v (a.length:Int) 0:=by kernel_rfl
theorem w7 (k n:Nat) b v c a:z5h k (n+1) b v c a=bif decide (a<c) then (q0e b a).bind fun e=>(e.atInt .i64 0).bind fun d=>bif (v==d) then r144 a else z5h k n b v c (IntKind.i64.wrap (a+1)) else r144 (-1):=by kernel_rfl
theorem n145 (k:Nat) p b c d a:c145 (k+1) p b c d a=y2j k k 0 a (a.length:Int) 0 p b c d:=by kernel_rfl
theorem w7a (k n:Nat) d e f a c b l g:y2j k (n+1) d e f a c b l g=bif decide (a<f) then (q0e e a).bind fun i=>(i.atInt .u64 0).bind fun h=>bif !decide (IntKind.i64.wrap (c*a)<0) then y2j k n (q0o .or .i64 d (shlI .i64 (IntKind.i64.wrap h) (IntKind.i64.wrap (c*a)))) e f (IntKind.i64.wrap (a+1)) c b l g else none else r145 d:=by kernel_rfl
theorem n146 (k:Nat) p d e f g a b:c146 (k+1) p d e f g a b=R210 (c210 k b) fun c=>y2k k k b c.length a (a.length:Int) 0 p d e f c:=by kernel_rfl
theorem w7b (k n:Nat) j a c d b h e l m g:y2k k (n+1) j a c d b h e l m g=bif decide (b<d) then (q0e c b).bind fun i=>bif i.shp 2 then (i.atInt .i64 0).bind fun f=>(i.atRow 2 1).bind fun o=>R149 (c149 k h o j) fun p=>bif decide ((0:Int)<=f)&&decide (f<(a:Int)) then (g[0+f.toNat]?).bind fun q=>y2k k n j a c d (IntKind.i64.wrap (b+1)) h e l m (g.set (0+f.toNat) (PV.int .u64 p)) else none else none else r146 (g.take a):=by kernel_rfl
theorem n149 (k:Nat) b t a:c149 (k+1) b t a=q6j k k b a 0 t (t.length:Int) 0 []:=by kernel_rfl
theorem w7c (k n:Nat) c b a e f d g:q6j k (n+1) c b a e f d g=bif decide (d<f) then (q0e e d).bind fun j=>bif j.shp 2 then (j.atInt .i64 0).bind fun h=>(j.atInt .u64 1).bind fun i=>bif (h==1) then bif decide ((a+1)*8<=LIM)&&decide (a+1<=LIM) then q6j k n c b (a+1) e f (IntKind.i64.wrap (d+1)) ((g.take a)++[PV.int .u64 i]) else none else bif (h==20) then bif decide ((a+1)*8<=LIM)&&decide (a+1<=LIM) then q6j k n c b (a+1) e f (IntKind.i64.wrap (d+1)) ((g.take a)++[PV.int .u64 i]) else none else bif (h==2) then (q0e b i).bind fun s=>(s.atInt .u64 0).bind fun l=>bif decide ((a+1)*8<=LIM)&&decide (a+1<=LIM) then q6j k n c b (a+1) e f (IntKind.i64.wrap (d+1)) ((g.take a)++[PV.int .u64 l]) else none else bif (h==13) then bif decide ((0:Int)<=IntKind.i64.wrap ((a:Int)-1))&&decide (IntKind.i64.wrap ((a:Int)-1)<(a:Int)) then (g[0+((IntKind.i64.wrap ((a:Int)-1)).toNat)]?).bind fun t=>(t.atInt .u64 0).bind fun m=>R150 (c150 k c) fun y=>bif decide ((0:Int)<=IntKind.i64.wrap ((a:Int)-1))&&decide (IntKind.i64.wrap ((a:Int)-1)<(a:Int)) then (g[0+((IntKind.i64.wrap ((a:Int)-1)).toNat)]?).bind fun A=>q6j k n c b a e f (IntKind.i64.wrap (d+1)) (g.set (0+((IntKind.i64.wrap ((a:Int)-1)).toNat)) (PV.int .u64 (q0o .and .u64 (q0o .xor .u64 18446744073709551615 m) y))) else none else none else bif (h==19) then bif decide ((0:Int)<=IntKind.i64.wrap ((a:Int)-1))&&decide (IntKind.i64.wrap ((a:Int)-1)<(a:Int)) then (g[0+((IntKind.i64.wrap ((a:Int)-1)).toNat)]?).bind fun u=>(u.atInt .u64 0).bind fun o=>bif decide ((0:Int)<=IntKind.i64.wrap ((a:Int)-1))&&decide (IntKind.i64.wrap ((a:Int)-1)<(a:Int)) then (g[0+((IntKind.i64.wrap ((a:Int)-1)).toNat)]?).bind fun B=>q6j k n c b a e f (IntKind.i64.wrap (d+1)) (g.set (0+((IntKind.i64.wrap ((a:Int)-1)).toNat)) (PV.int .u64 (IntKind.u64.wrap (1-o)))) else none else none else bif decide ((0:Int)<=IntKind.i64.wrap ((IntKind.i64.wrap ((a:Int)-1))-1))&&decide (IntKind.i64.wrap ((IntKind.i64.wrap ((a:Int)-1))-1)<=(a:Int)) then bif decide ((0:Int)<=IntKind.i64.wrap ((IntKind.i64.wrap ((a:Int)-1))-1))&&decide (IntKind.i64.wrap ((IntKind.i64.wrap ((a:Int)-1))-1)<(a:Int)) then (g[0+((IntKind.i64.wrap ((IntKind.i64.wrap ((a:Int)-1))-1)).toNat)]?).bind fun v=>(v.atInt .u64 0).bind fun p=>bif decide ((0:Int)<=IntKind.i64.wrap ((a:Int)-1))&&decide (IntKind.i64.wrap ((a:Int)-1)<(a:Int)) then (g[0+((IntKind.i64.wrap ((a:Int)-1)).toNat)]?).bind fun w=>(w.atInt .u64 0).bind fun q=>R213 (c213 k c h p q) fun z=>bif decide ((((IntKind.i64.wrap ((IntKind.i64.wrap ((a:Int)-1))-1)).toNat)+1)*8<=LIM)&&decide (((IntKind.i64.wrap ((IntKind.i64.wrap ((a:Int)-1))-1)).toNat)+1<=LIM) then q6j k n c b (((IntKind.i64.wrap ((IntKind.i64.wrap ((a:Int)-1))-1)).toNat)+1) e f (IntKind.i64.wrap (d+1)) ((g.take ((IntKind.i64.wrap ((IntKind.i64.wrap ((a:Int)-1))-1)).toNat))++[PV.int .u64 z]) else none else none else none else none else none else bif decide ((0:Int)<(a:Int)) then (g[0]?).bind fun x=>(x.atInt .u64 0).bind fun r=>r149 r else none:=by kernel_rfl
theorem n150 (k:Nat) a:c150 (k+1) a=bif !decide (IntKind.i64.wrap (64-a)<0) then r150 (shrI .u64 18446744073709551615 (IntKind.i64.wrap (64-a))) else none:=by kernel_rfl
theorem n151 (k:Nat) b a c l e d:c151 (k+1) b a c l e d=R120 (c120 k 20 l e d) fun l1 v1 v2 b1=>bif b1 then R56 (c56 k 2 l1 v1 v2) fun l2 v3 v4 v5=>r151 l2 v3 v4 [PV.agg [.int .i64 20,.int .u64 (IntKind.u64.wrap v5)]] else bif decide (c>0) then R120 (c120 k 4 l1 v1 v2) fun l3 v6 v7 b2=>bif b2 then R151 (c151 k b a (IntKind.i64.wrap (c-1)) l3 v6 v7) fun l4 v8 v9 l5=>bif decide ((l5.length+1)*16<=LIM)&&decide (l5.length+1<=LIM) then r151 l4 v8 v9 (((l5.take l5.length)++[PV.agg [.int .i64 19,.int .u64 0]]).take (l5.length+1)) else none else bif decide (c>0) then R120 (c120 k 2 l3 v6 v7) fun l6 v10 v11 b3=>bif b3 then R151 (c151 k b a (IntKind.i64.wrap (c-1)) l6 v10 v11) fun l7 v12 v13 l8=>R151 (c151 k b a (IntKind.i64.wrap (c-1)) l7 v12 v13) fun l9 v14 v15 l10=>bif decide ((l8.length+((l10.take l10.length).length))*16<=LIM)&&decide (l8.length+((l10.take l10.length).length)<=LIM) then R177 (c177 k [PV.int .i64 17,PV.int .i64 18] l9 v14 v15) fun l11 v16 v17 v18=>bif decide (((l8.length+((l10.take l10.length).length))+1)*16<=LIM)&&decide ((l8.length+((l10.take l10.length).length))+1<=LIM) then r151 l11 v16 v17 (((((l8.take l8.length)++(l10.take l10.length)).take (l8.length+((l10.take l10.length).length)))++[PV.agg [.int .i64 v18,.int .u64 0]]).take ((l8.length+((l10.take l10.length).length))+1)) else none else none else R214 (c214 k b a 1 l6 v10 v11) fun l12 v19 v20 l13=>R56 (c56 k 2 l12 v19 v20) fun l14 v21 v22 v23=>R214 (c214 k b a v23 l14 v21 v22) fun l15 v24 v25 l16=>bif decide ((l13.length+((l16.take l16.length).length))*16<=LIM)&&decide (l13.length+((l16.take l16.length).length)<=LIM) then R177 (c177 k [PV.int .i64 14,PV.int .i64 15,PV.int .i64 15,PV.int .i64 16] l15 v24 v25) fun l17 v26 v27 v28=>bif decide (((l13.length+((l16.take l16.length).length))+1)*16<=LIM)&&decide ((l13.length+((l16.take l16.length).length))+1<=LIM) then r151 l17 v26 v27 (((((l13.take l13.length)++(l16.take l16.length)).take (l13.length+((l16.take l16.length).length)))++[PV.agg [.int .i64 v28,.int .u64 0]]).take ((l13.length+((l16.take l16.length).length))+1)) else none else none else R214 (c214 k b a 1 l3 v6 v7) fun l18 v29 v30 l19=>R56 (c56 k 2 l18 v29 v30) fun l20 v31 v32 v33=>R214 (c214 k b a v33 l20 v31 v32) fun l21 v34 v35 l22=>bif decide ((l19.length+((l22.take l22.length).length))*16<=LIM)&&decide (l19.length+((l22.take l22.length).length)<=LIM) then R177 (c177 k [PV.int .i64 14,PV.int .i64 15,PV.int .i64 15,PV.int .i64 16] l21 v34 v35) fun l23 v36 v37 v38=>bif decide (((l19.length+((l22.take l22.length).length))+1)*16<=LIM)&&decide ((l19.length+((l22.take l22.length).length))+1<=LIM) then r151 l23 v36 v37 (((((l19.take l19.length)++(l22.take l22.length)).take (l19.length+((l22.take l22.length).length)))++[PV.agg [.int .i64 v38,.int .u64 0]]).take ((l19.length+((l22.take l22.length).length))+1)) else none else none else bif decide (c>0) then R120 (c120 k 2 l1 v1 v2) fun l24 v39 v40 b4=>bif b4 then R151 (c151 k b a (IntKind.i64.wrap (c-1)) l24 v39 v40) fun l25 v41 v42 l26=>R151 (c151 k b a (IntKind.i64.wrap (c-1)) l25 v41 v42) fun l27 v43 v44 l28=>bif decide ((l26.length+((l28.take l28.length).length))*16<=LIM)&&decide (l26.length+((l28.take l28.length).length)<=LIM) then R177 (c177 k [PV.int .i64 17,PV.int .i64 18] l27 v43 v44) fun l29 v45 v46 v47=>bif decide (((l26.length+((l28.take l28.length).length))+1)*16<=LIM)&&decide ((l26.length+((l28.take l28.length).length))+1<=LIM) then r151 l29 v45 v46 (((((l26.take l26.length)++(l28.take l28.length)).take (l26.length+((l28.take l28.length).length)))++[PV.agg [.int .i64 v47,.int .u64 0]]).take ((l26.length+((l28.take l28.length).length))+1)) else none else none else R214 (c214 k b a 1 l24 v39 v40) fun l30 v48 v49 l31=>R56 (c56 k 2 l30 v48 v49) fun l32 v50 v51 v52=>R214 (c214 k b a v52 l32 v50 v51) fun l33 v53 v54 l34=>bif decide ((l31.length+((l34.take l34.length).length))*16<=LIM)&&decide (l31.length+((l34.take l34.length).length)<=LIM) then R177 (c177 k [PV.int .i64 14,PV.int .i64 15,PV.int .i64 15,PV.int .i64 16] l33 v53 v54) fun l35 v55 v56 v57=>bif decide (((l31.length+((l34.take l34.length).length))+1)*16<=LIM)&&decide ((l31.length+((l34.take l34.length).length))+1<=LIM) then r151 l35 v55 v56 (((((l31.take l31.length)++(l34.take l34.length)).take (l31.length+((l34.take l34.length).length)))++[PV.agg [.int .i64 v57,.int .u64 0]]).take ((l31.length+((l34.take l34.length).length))+1)) else none else none else R214 (c214 k b a 1 l1 v1 v2) fun l36 v58 v59 l37=>R56 (c56 k 2 l36 v58 v59) fun l38 v60 v61 v62=>R214 (c214 k b a v62 l38 v60 v61) fun l39 v63 v64 l40=>bif decide ((l37.length+((l40.take l40.length).length))*16<=LIM)&&decide (l37.length+((l40.take l40.length).length)<=LIM) then R177 (c177 k [PV.int .i64 14,PV.int .i64 15,PV.int .i64 15,PV.int .i64 16] l39 v63 v64) fun l41 v65 v66 v67=>bif decide (((l37.length+((l40.take l40.length).length))+1)*16<=LIM)&&decide ((l37.length+((l40.take l40.length).length))+1<=LIM) then r151 l41 v65 v66 (((((l37.take l37.length)++(l40.take l40.length)).take (l37.length+((l40.take l40.length).length)))++[PV.agg [.int .i64 v67,.int .u64 0]]).take ((l37.length+((l40.take l40.length).length))+1)) else none else none:=by kernel_rfl
theorem n152 (k:Nat) a:c152 (k+1) a=bif decide (a<1) then r152 1 else r152 a:=by kernel_rfl
theorem w3s (k:Nat) d c a l b:y01 (k+1) d c a l b=y7a (y06 k d c a l b) fun e=>y1w (decide (e>=0)):=by kernel_rfl
theorem w3t (k:Nat) a l:y02 (k+1) a l=y7b (y07 k a l) fun b=>y1x (decide (b>=0)):=by kernel_rfl
theorem w3u (k:Nat) c b a:y03 (k+1) c b a=x0h (x02 k c b a) fun v1 v2 v3=>y1y v1 v2 (decide (v3>=0)):=by kernel_rfl
theorem n155 (k:Nat) t c a l b:c155 (k+1) t c a l b=R107 (c107 k c a l b t) fun d=>r155 (!d):=by kernel_rfl
theorem n156 (k:Nat) p c d e v a:c156 (k+1) p c d e v a=R86 (c86 k p c d e v a) fun b=>x9c k (b.take b.length):=by kernel_rfl
theorem w6r (k:Nat) a:x9c (k+1) a=R85 (c85 (k+1) a) fun b=>bif decide (b<1) then r156 [] false else (q0e a (IntKind.i64.wrap (b-1))).bind fun d=>(d.atRow 0 0).bind fun c=>r156 c true:=by kernel_rfl
theorem n157 (k:Nat) p c d b a:c157 (k+1) p c d b a=y2l k k a b (b.length:Int) 0 p c d b 0 []:=by kernel_rfl
theorem w7d (k n:Nat) a e f b h d l g c j:y2l k (n+1) a e f b h d l g c j=bif decide (b<f) then (q0e e b).bind fun i=>bif i.shp 2 then (i.atRow 2 0).bind fun o=>(i.atRow 2 1).bind fun p=>R216 (c216 k o (j.take c)) fun m=>y2l k n a e f (IntKind.i64.wrap (b+1)) h d l g m.length m else none else z5i k k a (a.length:Int) 0 h d l g c j:=by kernel_rfl
theorem w7e (k n:Nat) c d a h e l f b g:z5i k (n+1) c d a h e l f b g=bif decide (a<d) then (q0e c a).bind fun j=>(j.atRow 2 0).bind fun i=>z12 k n k i c d a (f.length:Int) 0 h e l f b g else r157 (g.take b):=by kernel_rfl
theorem w7f (k j n:Nat) t e f g h c a b l i d m:z12 k j (n+1) t e f g h c a b l i d m=bif decide (c<h) then R220 (c220 k a b l i c t) fun l2 b1=>bif b1 then R216 (c216 k l2 (m.take d)) fun o=>z12 k j n t e f g h (IntKind.i64.wrap (c+1)) a b l i o.length o else z12 k j n t e f g h (IntKind.i64.wrap (c+1)) a b l i d m else z5i k j e f (IntKind.i64.wrap (g+1)) a b l i d m:=by kernel_rfl
theorem n158 (k:Nat) p d e f c a b:c158 (k+1) p d e f c a b=y7c (y08 k c p d e f a b) fun g=>r158 g:=by kernel_rfl
theorem n159 (k:Nat) p a b c v t:c159 (k+1) p a b c v t=R223 (c223 k p a b c [PV.row 2 0 t]) fun l1 b1=>bif !b1 then r159 [] false else R81 (c81 k p a b c v) fun d=>bif !d then r159 [] false else R83 (c83 k v l1) fun e=>r159 e true:=by kernel_rfl
theorem n160 (k:Nat) p c d b a:c160 (k+1) p c d b a=y2m k k a 0 b (b.length:Int) 0 p c d b []:=by kernel_rfl
theorem w7g (k n:Nat) b a e f c h d l g j:y2m k (n+1) b a e f c h d l g j=bif decide (c<f) then (q0e e c).bind fun i=>bif i.shp 2 then (i.atRow 2 0).bind fun o=>(i.atRow 2 1).bind fun p=>R224 (c224 k (j.take a) o) fun m=>y2m k n b m.length e f (IntKind.i64.wrap (c+1)) h d l g m else none else z5j k k a b (b.length:Int) 0 h d l g j:=by kernel_rfl
theorem w7h (k n:Nat) a c d b h e l f g:z5j k (n+1) a c d b h e l f g=bif decide (b<d) then (q0e c b).bind fun j=>(j.atRow 2 0).bind fun i=>z13 k n k a i c d b (f.length:Int) 0 h e l f g else r160 (g.take a):=by kernel_rfl
theorem w7i (k j n:Nat) a t e f g h d b c l i m:z13 k j (n+1) a t e f g h d b c l i m=bif decide (d<h) then R225 (c225 k b c l i d t) fun l2 b1=>bif b1 then R224 (c224 k (m.take a) l2) fun o=>z13 k j n o.length t e f g h (IntKind.i64.wrap (d+1)) b c l i o else z13 k j n a t e f g h (IntKind.i64.wrap (d+1)) b c l i m else z5j k j a e f (IntKind.i64.wrap (g+1)) b c l i m:=by kernel_rfl
theorem n161 (k:Nat) p d e f c a b:c161 (k+1) p d e f c a b=y2n k k a b c (c.length:Int) 0 p d e f:=by kernel_rfl
theorem w7j (k n:Nat) a b e f c h d l g:y2n k (n+1) a b e f c h d l g=bif decide (c<f) then (q0e e c).bind fun m=>(m.atRow 2 0).bind fun j=>R226 (c226 k h d l g j a b) fun i=>bif i then r161 c else y2n k n a b e f (IntKind.i64.wrap (c+1)) h d l g else r161 (-1):=by kernel_rfl
theorem n162 (k:Nat) p c d e v a f:c162 (k+1) p c d e v a f=R227 (c227 k v a) fun b=>z5k k k f 0 b (b.length:Int) 0 p c d e v []:=by kernel_rfl
theorem w7k (k n:Nat) i a d e b h c l f g j:z5k k (n+1) i a d e b h c l f g j=bif decide (b<e) then (q0e d b).bind fun r=>(r.atInt .i64 0).bind fun m=>R184 (c184 k h c l f m) fun p=>R181 (c181 k g p) fun q=>R163 (c163 k q i) fun o=>bif o then bif decide ((a+1)*8<=LIM)&&decide (a+1<=LIM) then z5k k n i (a+1) d e (IntKind.i64.wrap (b+1)) h c l f g ((j.take a)++[PV.int .i64 m]) else none else z5k k n i a d e (IntKind.i64.wrap (b+1)) h c l f g j else r162 (j.take a):=by kernel_rfl
theorem n163 (k:Nat) l a:c163 (k+1) l a=y2o k k a l (l.length:Int) 0:=by kernel_rfl
theorem w7l (k n:Nat) b c d a:y2o k (n+1) b c d a=bif decide (a<d) then (q0e c a).bind fun f=>(f.atInt .i64 0).bind fun e=>bif (e==b) then r163 true else y2o k n b c d (IntKind.i64.wrap (a+1)) else r163 false:=by kernel_rfl
theorem n164 (k:Nat) a:c164 (k+1) a=q6k k k a 0 a (a.length:Int) 0 0 0 [] []:=by kernel_rfl
theorem w7m (k n:Nat) d b h e c g a i f:q6k k (n+1) d b h e c g a i f=bif decide (c<e) then (q0e h c).bind fun l=>(l.atInt .i64 0).bind fun j=>z5l k n k d b c j b 0 h e c g a i f else r164 (f.take a):=by kernel_rfl
theorem w7n (k m n:Nat) d c i l b j o g h f a p e:z5l k m (n+1) d c i l b j o g h f a p e=bif decide (j<i) then (q0e d j).bind fun s=>(s.atInt .i64 0).bind fun r=>bif (r==l) then bif decide ((0:Int)<=j)&&decide (j<(a:Int)) then (e[0+j.toNat]?).bind fun t=>(t.atInt .i64 0).bind fun q=>bif (q==c) then bif decide ((a+1)*8<=LIM)&&decide (a+1<=LIM) then q6k k m d (IntKind.i64.wrap (c+1)) o g (IntKind.i64.wrap (h+1)) f (a+1) p ((e.take a)++[PV.int .i64 q]) else none else bif decide ((a+1)*8<=LIM)&&decide (a+1<=LIM) then q6k k m d c o g (IntKind.i64.wrap (h+1)) f (a+1) p ((e.take a)++[PV.int .i64 q]) else none else none else z5l k m n d c i l b (IntKind.i64.wrap (j+1)) o g h f a p e else bif (b==c) then bif decide ((a+1)*8<=LIM)&&decide (a+1<=LIM) then q6k k m d (IntKind.i64.wrap (c+1)) o g (IntKind.i64.wrap (h+1)) f (a+1) p ((e.take a)++[PV.int .i64 b]) else none else bif decide ((a+1)*8<=LIM)&&decide (a+1<=LIM) then q6k k m d c o g (IntKind.i64.wrap (h+1)) f (a+1) p ((e.take a)++[PV.int .i64 b]) else none:=by kernel_rfl
theorem n165 (k:Nat) v a:c165 (k+1) v a=z14 k k a 0 v (v.length:Int) 0 v:=by kernel_rfl
theorem w7o (k n:Nat) b a e d c l:z14 k (n+1) b a e d c l=bif decide (c<d) then (q0e e c).bind fun g=>(g.atInt .i64 0).bind fun f=>bif decide (f<0) then r165 false else bif decide (f>a) then r165 false else bif (f==a) then z14 k n b (IntKind.i64.wrap (a+1)) e d (IntKind.i64.wrap (c+1)) l else z14 k n b a e d (IntKind.i64.wrap (c+1)) l else r165 ((l.length:Int)==b):=by kernel_rfl
theorem n166 (k:Nat) (ps:List (Int × Int)) (h1:ps.length<=1000000) (h2:ps.all wf2B=true):c166 (k+1) (ps.map q1o)=r166 ((clsL ps).map (PV.int .i64)):=y91 (by show orT numT (cloneT q5x) _ _ _=_;unfold orT;rw [w6e ps h1 h2] <;> rfl)
theorem n167 (k:Nat) x:c167 (k+1) x=bif decide ((x.length:Int)<1) then none else (q0e x 0).bind fun b=>(b.atInt .i64 0).bind fun a=>z5m k k x a 1:=by kernel_rfl
theorem w7p (k n:Nat) x m i:z5m k (n+1) x m i=bif decide (i<(x.length:Int)) then (q0e x i).bind fun b=>(b.atInt .i64 0).bind fun a=>z5m k n x (maxI m a) (IntKind.i64.wrap (i+1)) else r167 m:=by kernel_rfl
theorem w3v (k:Nat) a:y04 (k+1) a=q8x k k a (a.length:Int) 0:=by kernel_rfl
theorem x49 (k n:Nat) b c a:q8x k (n+1) b c a=bif decide (a<c) then (q0e b a).bind fun f=>(f.atRow 0 0).bind fun e=>R169 (c169 k e) fun d=>bif d then z0i a else q8x k n b c (IntKind.i64.wrap (a+1)) else z0i (-1):=by kernel_rfl
theorem n169 (k:Nat) a:c169 (k+1) a=r169 ((a.length:Int)==0):=by kernel_rfl
theorem n170 (k:Nat) a:c170 (k+1) a=z5n k k 0 a (a.length:Int) 0 []:=by kernel_rfl
theorem w7q (k n:Nat) a c d b e:z5n k (n+1) a c d b e=bif decide (b<d) then (q0e c b).bind fun g=>(g.atBool 0).bind fun f=>bif f then bif decide ((a+1)*8<=LIM)&&decide (a+1<=LIM) then z5n k n (a+1) c d (IntKind.i64.wrap (b+1)) ((e.take a)++[PV.int .i64 b]) else none else z5n k n a c d (IntKind.i64.wrap (b+1)) e else r170 (e.take a):=by kernel_rfl
theorem w3y (k:Nat) a l b c:z3e (k+1) a l b c=y6z (y0x k (a.take a.length) l b c) fun d=>bif (d==(-1)) then q7i (a.take a.length) else q6n k k a.length l b c d (IntKind.i64.wrap (d+1)) a:=by kernel_rfl
theorem w3x (k:Nat) c f a l d e b:y05 (k+1) c f a l d e b=y6x (y0v k (c.take c.length) f a l d e b) fun g=>bif (g==(-1)) then z0j (c.take c.length) else q6m k k c.length f a l d e b g (IntKind.i64.wrap (g+1)) c:=by kernel_rfl
theorem w3w (k:Nat) a l b:q9w (k+1) a l b=y6w (y0u k (a.take a.length) l b) fun c=>bif (c==(-1)) then q7h (a.take a.length) else q6l k k a.length l b c (IntKind.i64.wrap (c+1)) a:=by kernel_rfl
theorem x5b (k n:Nat) a l c d i j b:q6n k (n+1) a l c d i j b=bif decide (j<(a:Int)) then bif decide ((0:Int)<=j)&&decide (j<(a:Int)) then (b[0+j.toNat]?).bind fun g=>(g.atInt .i64 0).bind fun e=>R204 (c204 k e l c d) fun f=>bif !f then bif decide ((0:Int)<=i)&&decide (i<(a:Int)) then (b[0+i.toNat]?).bind fun h=>q6n k n a l c d (IntKind.i64.wrap (i+1)) (IntKind.i64.wrap (j+1)) (b.set (0+i.toNat) (PV.int .i64 e)) else none else q6n k n a l c d i (IntKind.i64.wrap (j+1)) b else none else bif decide ((0:Int)<=i)&&decide (i<=(a:Int))&&decide ((a:Int)<=(a:Int)) then bif decide ((0:Int)<=i)&&decide (i<=(a:Int)) then q7i ((((b).take (0+i.toNat))++(List.replicate (a-i.toNat) (PV.int .i64 0))++((b).drop (0+i.toNat+(a-i.toNat)))).take i.toNat) else none else none:=by kernel_rfl
theorem x5a (k n:Nat) a g b l e f c i j d:q6m k (n+1) a g b l e f c i j d=bif decide (j<(a:Int)) then bif decide ((0:Int)<=j)&&decide (j<(a:Int)) then (d[0+j.toNat]?).bind fun o=>(o.atInt .i64 0).bind fun h=>R174 (c174 k h g b l e f c) fun m=>bif !m then bif decide ((0:Int)<=i)&&decide (i<(a:Int)) then (d[0+i.toNat]?).bind fun p=>q6m k n a g b l e f c (IntKind.i64.wrap (i+1)) (IntKind.i64.wrap (j+1)) (d.set (0+i.toNat) (PV.int .i64 h)) else none else q6m k n a g b l e f c i (IntKind.i64.wrap (j+1)) d else none else bif decide ((0:Int)<=i)&&decide (i<=(a:Int))&&decide ((a:Int)<=(a:Int)) then bif decide ((0:Int)<=i)&&decide (i<=(a:Int)) then z0j ((((d).take (0+i.toNat))++(List.replicate (a-i.toNat) (PV.int .i64 0))++((d).drop (0+i.toNat+(a-i.toNat)))).take i.toNat) else none else none:=by kernel_rfl
theorem x5 (k n:Nat) a l c i j b:q6l k (n+1) a l c i j b=bif decide (j<(a:Int)) then bif decide ((0:Int)<=j)&&decide (j<(a:Int)) then (b[0+j.toNat]?).bind fun f=>(f.atInt .i64 0).bind fun d=>R172 (c172 k d l c) fun e=>bif !e then bif decide ((0:Int)<=i)&&decide (i<(a:Int)) then (b[0+i.toNat]?).bind fun g=>q6l k n a l c (IntKind.i64.wrap (i+1)) (IntKind.i64.wrap (j+1)) (b.set (0+i.toNat) (PV.int .i64 d)) else none else q6l k n a l c i (IntKind.i64.wrap (j+1)) b else none else bif decide ((0:Int)<=i)&&decide (i<=(a:Int))&&decide ((a:Int)<=(a:Int)) then bif decide ((0:Int)<=i)&&decide (i<=(a:Int)) then q7h ((((b).take (0+i.toNat))++(List.replicate (a-i.toNat) (PV.int .i64 0))++((b).drop (0+i.toNat+(a-i.toNat)))).take i.toNat) else none else none:=by kernel_rfl
theorem n172 (k:Nat) b l a:c172 (k+1) b l a=(q0e l b).bind fun d=>(d.atInt .i64 0).bind fun c=>r172 (c != a):=by kernel_rfl
theorem n173 (k:Nat) v a:c173 (k+1) v a=z5o k k a 0 v (v.length:Int) 0 []:=by kernel_rfl
theorem w7r (k n:Nat) b a d e c f:z5o k (n+1) b a d e c f=bif decide (c<e) then (q0e d c).bind fun h=>(h.atInt .i64 0).bind fun g=>bif (g==b) then bif decide ((a+1)*8<=LIM)&&decide (a+1<=LIM) then z5o k n b (a+1) d e (IntKind.i64.wrap (c+1)) ((f.take a)++[PV.int .i64 c]) else none else z5o k n b a d e (IntKind.i64.wrap (c+1)) f else r173 (f.take a):=by kernel_rfl
theorem n174 (k:Nat) f e a l c d b:c174 (k+1) f e a l c d b=R68 (c68 k e a l c f) fun h=>x0l (y5t k h d b) fun g=>r174 (!g):=by kernel_rfl
theorem n175 (k:Nat) a l b:c175 (k+1) a l b=(q0e l a).bind fun d=>(d.atInt .i64 0).bind fun c=>r175 (c==b):=by kernel_rfl
theorem n176 (k:Nat) p d e f a l c b:c176 (k+1) p d e f a l c b=R152 (c152 k p) fun g=>R152 (c152 k d) fun h=>R151 (c151 k g h a l c b) fun l1 v3 v4 l2=>R120 (c120 k 40 l1 v3 v4) fun l3 v5 v6 b1=>bif b1 then bif decide ((0:Int)<=IntKind.i64.wrap ((l2.length:Int)-1))&&decide (IntKind.i64.wrap ((l2.length:Int)-1)<=(l2.length:Int)) then r176 l3 v5 v6 (l2.take ((IntKind.i64.wrap ((l2.length:Int)-1)).toNat)) else none else r176 l3 v5 v6 (l2.take l2.length):=by kernel_rfl
theorem n177 (k:Nat) a l c b:c177 (k+1) a l c b=R56 (c56 k (a.length:Int) l c b) fun l1 v1 v2 v3=>(q0e a v3).bind fun e=>(e.atInt .i64 0).bind fun d=>r177 l1 v1 v2 d:=by kernel_rfl
theorem n178 (k:Nat) a:c178 (k+1) a=bif decide (a>=0) then r178 (decide (a<=40)) else r178 false:=by kernel_rfl
theorem n179 (k:Nat) p c d e a:c179 (k+1) p c d e a=R103 (c103 k p c d e) fun b=>bif (b==b)&&decide ((0:Int)<=b)&&decide (b.toNat*8<=LIM)&&decide (b.toNat<=LIM) then y99 k k a (a.length:Int) 0 p c d e [] b.toNat (List.replicate b.toNat (PV.int .i64 0)) else none:=by kernel_rfl
theorem w7s (k n:Nat) d e a g c l f i b h:y99 k (n+1) d e a g c l f i b h=bif decide (a<e) then (q0e d a).bind fun m=>(m.atRow 2 0).bind fun j=>R159 (c159 k g c l f (h.take b) j) fun l4 b1=>z5p k n d e (IntKind.i64.wrap (a+1)) g c l f i l4 else r179 (h.take b):=by kernel_rfl
theorem x6v (k n:Nat) c d a g b l e h f:z5p k (n+1) c d a g b l e h f=bif decide (a<d) then (q0e c a).bind fun j=>(j.atRow 2 0).bind fun i=>R159 (c159 k g b l e f i) fun l5 b1=>z5p k n c d (IntKind.i64.wrap (a+1)) g b l e h l5 else r179 f:=by kernel_rfl
theorem n180 (k:Nat) a:c180 (k+1) a=y2p k k a 0 a (a.length:Int) 0:=by kernel_rfl
theorem w7t (k n:Nat) a b e d c:y2p k (n+1) a b e d c=bif decide (c<d) then (q0e e c).bind fun h=>(h.atRow 0 0).bind fun f=>bif decide (IntKind.i64.wrap (b+(f.length:Int))<0) then none else y2p k n a (IntKind.i64.wrap (b+(f.length:Int))) e d (IntKind.i64.wrap (c+1)) else R228 (c228 k [] b) fun g=>y2q k k g.length a (a.length:Int) 0 g:=by kernel_rfl
theorem w7u (k n:Nat) a c d b f:y2q k (n+1) a c d b f=bif decide (b<d) then (q0e c b).bind fun g=>(g.atRow 0 0).bind fun e=>bif decide ((a+e.length)*24<=LIM)&&decide (a+e.length<=LIM) then y2q k n (a+e.length) c d (IntKind.i64.wrap (b+1)) ((f.take a)++e) else none else r180 (f.take a):=by kernel_rfl
theorem n181 (k:Nat) v a:c181 (k+1) v a=y2r k k 0 a (a.length:Int) 0 v []:=by kernel_rfl
theorem w7v (k n:Nat) a c d b l e:y2r k (n+1) a c d b l e=bif decide (b<d) then (q0e c b).bind fun i=>(i.atInt .i64 0).bind fun g=>(q0e l g).bind fun j=>(j.atInt .i64 0).bind fun h=>R192 (c192 k (e.take a) h) fun f=>y2r k n f.length c d (IntKind.i64.wrap (b+1)) l f else r181 (e.take a):=by kernel_rfl
theorem n182 (k:Nat) b a c:c182 (k+1) b a c=R230 (c230 k b) fun d=>R229 (c229 k d c) fun e=>q71 k k b e (-1) a (a.length:Int) 0:=by kernel_rfl
theorem w7w (k n:Nat) b c a e f d:q71 k (n+1) b c a e f d=bif decide (d<f) then (q0e e d).bind fun l=>(l.atInt .i64 0).bind fun g=>(q0e c g).bind fun m=>(m.atInt .i64 0).bind fun h=>bif decide (h>=0) then bif decide (a<0) then q71 k n b c g e f (IntKind.i64.wrap (d+1)) else (q0e c g).bind fun o=>(o.atInt .i64 0).bind fun i=>(q0e c a).bind fun p=>(p.atInt .i64 0).bind fun j=>bif decide (i<j) then q71 k n b c g e f (IntKind.i64.wrap (d+1)) else q71 k n b c a e f (IntKind.i64.wrap (d+1)) else q71 k n b c a e f (IntKind.i64.wrap (d+1)) else bif decide (a<0) then r182 [] false else q9q k k b c a 1 [PV.int .i64 a]:=by kernel_rfl
theorem x6w (k n:Nat) c d b a e:q9q k (n+1) c d b a e=(q0e d b).bind fun h=>(h.atInt .i64 0).bind fun g=>bif decide (g>0) then (q0e c b).bind fun i=>(i.atRow 0 0).bind fun f=>z5q k n k c d b a f (f.length:Int) 0 e else r182 (e.take a) true:=by kernel_rfl
theorem w7x (k h n:Nat) c d b a f g e i:z5q k h (n+1) c d b a f g e i=bif decide (e<g) then (q0e f e).bind fun o=>(o.atInt .i64 0).bind fun j=>(q0e d j).bind fun p=>(p.atInt .i64 0).bind fun l=>(q0e d b).bind fun q=>(q.atInt .i64 0).bind fun m=>bif (l==IntKind.i64.wrap (m-1)) then bif decide ((a+1)*8<=LIM)&&decide (a+1<=LIM) then q9q k h c d j (a+1) ((i.take a)++[PV.int .i64 j]) else none else z5q k h n c d b a f g (IntKind.i64.wrap (e+1)) i else bif decide ((a+1)*8<=LIM)&&decide (a+1<=LIM) then q9q k h c d b (a+1) ((i.take a)++[PV.int .i64 b]) else none:=by kernel_rfl
theorem n183 (k:Nat) p a b c v:c183 (k+1) p a b c v=y2s k k 0 0 p a b c v []:=by kernel_rfl
theorem w7y (k n:Nat) a b f c l e d g:y2s k (n+1) a b f c l e d g=R208 (c208 k d) fun i=>bif decide (b<i) then R202 (c202 k f c l e d b) fun h=>bif decide ((a+1)*24<=LIM)&&decide (a+1<=LIM) then y2s k n (a+1) (IntKind.i64.wrap (b+1)) f c l e d ((g.take a)++[PV.row 0 0 h]) else none else r183 (g.take a):=by kernel_rfl
theorem n184 (k:Nat) p a b c d:c184 (k+1) p a b c d=R195 (c195 k p a b c d) fun e=>R231 (c231 k p a b c e) fun f=>z5r k k d e 0 f (f.length:Int) 0 p a b c []:=by kernel_rfl
theorem w7z (k n:Nat) h i a d e c g b l f j:z5r k (n+1) h i a d e c g b l f j=bif decide (c<e) then (q0e d c).bind fun q=>(q.atInt .i64 0).bind fun p=>R233 (c233 k g b l f i p) fun o=>R232 (c232 k g b l f o) fun r=>R192 (c192 k (j.take a) r) fun m=>z5r k n h i m.length d e (IntKind.i64.wrap (c+1)) g b l f m else bif ((a:Int)==0) then r184 [PV.int .i64 h] else r184 (j.take a):=by kernel_rfl
theorem n185 (k:Nat) p b c a:c185 (k+1) p b c a=R234 (c234 k p) fun d=>bif !d then r185 false else R235 (c235 k b) fun e=>bif !e then r185 false else R107 (c107 k p b c a c) fun f=>bif !f then r185 false else bif decide ((a.length:Int)<1) then r185 false else bif decide ((a.length:Int)>6) then r185 false else y0q (x03 k a p b c a) fun v1 v2 l1 l2 b4=>r185 (!b4):=by kernel_rfl
theorem n186 (k:Nat) g a:c186 (k+1) g a=R108 (c108 k g a) fun b=>z5s k k 0 b (b.length:Int) 0 []:=by kernel_rfl
theorem w70 (k n:Nat) a c d b e:z5s k (n+1) a c d b e=bif decide (b<d) then (q0e c b).bind fun g=>(g.atInt .i64 0).bind fun f=>bif decide (f>=0) then bif decide ((a+1)*8<=LIM)&&decide (a+1<=LIM) then z5s k n (a+1) c d (IntKind.i64.wrap (b+1)) ((e.take a)++[PV.int .i64 b]) else none else z5s k n a c d (IntKind.i64.wrap (b+1)) e else r186 (e.take a):=by kernel_rfl
theorem n187 (k:Nat) c b t a:c187 (k+1) c b t a=R239 (c239 k c b t) fun d=>bif d then R240 (c240 k t) fun e=>r187 (e==a) else r187 false:=by kernel_rfl
theorem n188 (k:Nat) p a b c v:c188 (k+1) p a b c v=R84 (c84 k v) fun d=>y2t k k 0 d 0 p a b c v []:=by kernel_rfl
theorem w71 (k n:Nat) a g b f c l d e h:y2t k (n+1) a g b f c l d e h=bif decide (b<g) then R241 (c241 k f c l d e b) fun i=>bif decide ((a+1)*24<=LIM)&&decide (a+1<=LIM) then y2t k n (a+1) g (IntKind.i64.wrap (b+1)) f c l d e ((h.take a)++[PV.row 0 0 (i.take i.length)]) else none else r188 (h.take a):=by kernel_rfl
theorem n190 (k:Nat) b a l d c:c190 (k+1) b a l d c=R56 (c56 k 2 l d c) fun l1 v1 v2 v3=>R120 (c120 k 3 l1 v1 v2) fun l2 v4 v5 b1=>bif b1 then R151 (c151 k b a 1 l2 v4 v5) fun l3 v6 v7 l4=>R56 (c56 k 3 l3 v6 v7) fun l5 v8 v9 v10=>z5t k k b a (IntKind.i64.wrap (1+v10)) l5 v8 v9 0 0 [] [] b a l4.length 0 l4 [] else R56 (c56 k 3 l2 v4 v5) fun l6 v11 v12 v13=>z5t k k b a (IntKind.i64.wrap (1+v13)) l6 v11 v12 0 0 [] [] b a 3 0 [PV.agg [.int .i64 2,.int .u64 0],PV.agg [.int .i64 1,.int .u64 (IntKind.u64.wrap v3)],PV.agg [.int .i64 14,.int .u64 0]] []:=by kernel_rfl
theorem w72 (k n:Nat) c b o l f g j m q r h i e a p d:z5t k (n+1) c b o l f g j m q r h i e a p d=bif decide (o>0) then R242 (c242 k c b l f g) fun l3 v1 v2 l4 l5=>bif decide (l5.length<=l5.length) then bif (a==d.length)&&decide ((a+1)*48<=LIM)&&decide (a+1<=LIM) then z5t k n c b (IntKind.i64.wrap (o-1)) l3 v1 v2 j m q r h i e (a+1) p (d++[PV.agg [.row 2 0 l4,.row 2 0 (l5.take l5.length)]]) else none else none else bif (a==d.length) then r190 l f g h i (p.take e) (d.take a) else none:=by kernel_rfl
theorem n192 (k:Nat) l a:c192 (k+1) l a=y2u k k l.length a 0 l:=by kernel_rfl
theorem w73 (k n:Nat) a d b c:y2u k (n+1) a d b c=bif decide (b<(a:Int)) then bif decide ((0:Int)<=b)&&decide (b<(a:Int)) then (c[0+b.toNat]?).bind fun h=>(h.atInt .i64 0).bind fun e=>bif decide (e<d) then y2u k n a d (IntKind.i64.wrap (b+1)) c else bif decide (b<(a:Int)) then bif decide ((0:Int)<=b)&&decide (b<(a:Int)) then (c[0+b.toNat]?).bind fun i=>(i.atInt .i64 0).bind fun f=>bif (f==d) then r192 (c.take a) else bif decide ((0:Int)<=b)&&decide (b<=(a:Int)) then bif decide ((0+((c.take b.toNat).length))*8<=LIM)&&decide (0+((c.take b.toNat).length)<=LIM) then bif decide (((0+((c.take b.toNat).length))+1)*8<=LIM)&&decide ((0+((c.take b.toNat).length))+1<=LIM) then bif decide ((0:Int)<=b)&&decide (b<=(a:Int))&&decide ((a:Int)<=(a:Int)) then bif decide ((((0+((c.take b.toNat).length))+1)+(((c.drop (0+b.toNat)).take (a-b.toNat)).length))*8<=LIM)&&decide (((0+((c.take b.toNat).length))+1)+(((c.drop (0+b.toNat)).take (a-b.toNat)).length)<=LIM) then r192 (((((([]++(c.take b.toNat)).take (0+((c.take b.toNat).length)))++[PV.int .i64 d]).take ((0+((c.take b.toNat).length))+1))++((c.drop (0+b.toNat)).take (a-b.toNat))).take (((0+((c.take b.toNat).length))+1)+(((c.drop (0+b.toNat)).take (a-b.toNat)).length))) else none else none else none else none else none else none else bif decide ((0:Int)<=b)&&decide (b<=(a:Int)) then bif decide ((0+((c.take b.toNat).length))*8<=LIM)&&decide (0+((c.take b.toNat).length)<=LIM) then bif decide (((0+((c.take b.toNat).length))+1)*8<=LIM)&&decide ((0+((c.take b.toNat).length))+1<=LIM) then bif decide ((0:Int)<=b)&&decide (b<=(a:Int))&&decide ((a:Int)<=(a:Int)) then bif decide ((((0+((c.take b.toNat).length))+1)+(((c.drop (0+b.toNat)).take (a-b.toNat)).length))*8<=LIM)&&decide (((0+((c.take b.toNat).length))+1)+(((c.drop (0+b.toNat)).take (a-b.toNat)).length)<=LIM) then r192 (((((([]++(c.take b.toNat)).take (0+((c.take b.toNat).length)))++[PV.int .i64 d]).take ((0+((c.take b.toNat).length))+1))++((c.drop (0+b.toNat)).take (a-b.toNat))).take (((0+((c.take b.toNat).length))+1)+(((c.drop (0+b.toNat)).take (a-b.toNat)).length))) else none else none else none else none else none else none else bif decide (b<(a:Int)) then bif decide ((0:Int)<=b)&&decide (b<(a:Int)) then (c[0+b.toNat]?).bind fun j=>(j.atInt .i64 0).bind fun g=>bif (g==d) then r192 (c.take a) else bif decide ((0:Int)<=b)&&decide (b<=(a:Int)) then bif decide ((0+((c.take b.toNat).length))*8<=LIM)&&decide (0+((c.take b.toNat).length)<=LIM) then bif decide (((0+((c.take b.toNat).length))+1)*8<=LIM)&&decide ((0+((c.take b.toNat).length))+1<=LIM) then bif decide ((0:Int)<=b)&&decide (b<=(a:Int))&&decide ((a:Int)<=(a:Int)) then bif decide ((((0+((c.take b.toNat).length))+1)+(((c.drop (0+b.toNat)).take (a-b.toNat)).length))*8<=LIM)&&decide (((0+((c.take b.toNat).length))+1)+(((c.drop (0+b.toNat)).take (a-b.toNat)).length)<=LIM) then r192 (((((([]++(c.take b.toNat)).take (0+((c.take b.toNat).length)))++[PV.int .i64 d]).take ((0+((c.take b.toNat).length))+1))++((c.drop (0+b.toNat)).take (a-b.toNat))).take (((0+((c.take b.toNat).length))+1)+(((c.drop (0+b.toNat)).take (a-b.toNat)).length))) else none else none else none else none else none else none else bif decide ((0:Int)<=b)&&decide (b<=(a:Int)) then bif decide ((0+((c.take b.toNat).length))*8<=LIM)&&decide (0+((c.take b.toNat).length)<=LIM) then bif decide (((0+((c.take b.toNat).length))+1)*8<=LIM)&&decide ((0+((c.take b.toNat).length))+1<=LIM) then bif decide ((0:Int)<=b)&&decide (b<=(a:Int))&&decide ((a:Int)<=(a:Int)) then bif decide ((((0+((c.take b.toNat).length))+1)+(((c.drop (0+b.toNat)).take (a-b.toNat)).length))*8<=LIM)&&decide (((0+((c.take b.toNat).length))+1)+(((c.drop (0+b.toNat)).take (a-b.toNat)).length)<=LIM) then r192 (((((([]++(c.take b.toNat)).take (0+((c.take b.toNat).length)))++[PV.int .i64 d]).take ((0+((c.take b.toNat).length))+1))++((c.drop (0+b.toNat)).take (a-b.toNat))).take (((0+((c.take b.toNat).length))+1)+(((c.drop (0+b.toNat)).take (a-b.toNat)).length))) else none else none else none else none else none:=by kernel_rfl
theorem n193 (k:Nat) l b a:c193 (k+1) l b a=z5u k k l b a l (l.length:Int) 0:=by kernel_rfl
theorem w74 (k n:Nat) l d c e b a:z5u k (n+1) l d c e b a=bif decide (a<b) then (q0e e a).bind fun i=>(i.atInt .i64 0).bind fun f=>R140 (c140 k f d c) fun g=>bif !g then r193 false else bif decide (a>0) then (q0e l (IntKind.i64.wrap (a-1))).bind fun j=>(j.atInt .i64 0).bind fun h=>bif decide (h>=f) then r193 false else z5u k n l d c e b (IntKind.i64.wrap (a+1)) else z5u k n l d c e b (IntKind.i64.wrap (a+1)) else r193 true:=by kernel_rfl
theorem n194 (k:Nat) p b c d t a:c194 (k+1) p b c d t a=R244 (c244 k p t (IntKind.i64.wrap ((t.length:Int)-1)) a) fun e=>r194 (e==1):=by kernel_rfl
theorem n195 (k:Nat) p b c d a:c195 (k+1) p b c d a=y2v k k a 0 0 p b c d []:=by kernel_rfl
theorem w75 (k n:Nat) d a v c b l f e:y2v k (n+1) d a v c b l f e=bif decide (v<b) then bif !decide (IntKind.u64.wrap (IntKind.i64.wrap (v*c))<0) then bif !decide (IntKind.u64.wrap c<0) then bif decide ((a+1)*8<=LIM)&&decide (a+1<=LIM) then y2v k n d (a+1) (IntKind.i64.wrap (v+1)) c b l f ((e.take a)++[PV.int .u64 (IntKind.u64.wrap (q0o .and .i64 (shrI .i64 d (IntKind.u64.wrap (IntKind.i64.wrap (v*c)))) (IntKind.i64.wrap ((shlI .i64 1 (IntKind.u64.wrap c))-1))))]) else none else none else none else r195 (e.take a):=by kernel_rfl
end Go.Proofs.YtgdegfijcijnoaaGreat
