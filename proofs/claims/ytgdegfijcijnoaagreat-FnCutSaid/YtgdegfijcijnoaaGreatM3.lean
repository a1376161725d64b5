/- Nu; Ca; Srt0; Srt; Env; Cs; Nf0; Nf1; Nf2; Nf3: texts put together. -/
import Derived.Test.YtgdegfijcijnoaaGreatProg
import Derived.Test.YtgdegfijcijnoaaGreatM2
import Derived.Maps.OwnSet
import Derived.Maps.AppendAt
import Derived.WideKeyPair
import Derived.DeepKeys4
import Derived.OwnWalk
import Derived.WalkKit
import Derived.Shelf.Sort.Plain
import Derived.Shelf.Slices.CompactI
import Derived.Shelf.Slices.In.SortNone
import Derived.Ground.NamesProg
import Derived.Ground.Names2Prog
import Derived.Sort.OwnSortedInts
set_option linter.all false
set_option maxRecDepth 100000
/- The numbers of classes: the program's map of pairs,walked through by hand. -/
namespace Go.Proofs.YtgdegfijcijnoaaGreat
open Go.Maps Go.RowKit Go.WideMaps
def clsF:List (Int × Int)->List (Int × Int)->List Int
 | [],_=>[]
 | p :: l,kn=>if p ∈ kn then (kn.idxOf p:Int) :: clsF l kn else (kn.length:Int) :: clsF l (kn ++ [p])
def clsL (ps:List (Int × Int)):List Int:=clsF ps []
def wf2 (p:Int × Int):Prop:=(Lit.int .i64 p.1).wf = true /\ (Lit.int .i64 p.2).wf = true
def keyL (p:Int × Int):Lit:=.string (keyBytes [.int .i64 p.1,.int .i64 p.2])
def valP (p:Int × Int):Value:=.agg #[.int .i64 p.1,.int .i64 p.2]
theorem w5v:ArrKey Tryz.prog 164 3 2:=⟨Tryz.underlying164,by kernel_rfl,by kernel_rfl,by kernel_rfl⟩
theorem w4z:∃ m,Tryz.prog.types.size = m + 1:=⟨Tryz.prog.types.size - 1,by decide +kernel⟩
theorem y0u {p:Int × Int} (h:wf2 p):keyOf Tryz.prog 164 (valP p) = some (keyL p):=keyOf_pair w5v Tryz.underlying3 w4z h.1 h.2
theorem laid:laidOutB Tryz.prog = true:=by kernel_rfl
theorem y0j:Keyed Tryz.prog 164:=Keyed.of_law (deep_law_laid (m:=2) laid (by decide) (by decide +kernel) (by kernel_rfl) (by kernel_rfl))
theorem x07 {p q:Int × Int} (hp:wf2 p) (hq:wf2 q) (h:keyL p = keyL q):p = q:=by
 have:=y0j.inj (y0u hp) (h ▸ y0u hq)
 unfold valP at this
 injection this with this
 have h1:=congrArg (fun a=>a[0]?) this
 have h2:=congrArg (fun a=>a[1]?) this
 simp at h1 h2
 exact Prod.ext h1 h2
structure MapIs {H:Type} (D:DataW H) (kn:List (Int × Int)):Prop where
 tidy:Tidy D
 wf:∀ p ∈ kn,wf2 p
 has:∀ p,wf2 p->Maps.has D (keyL p) = decide (p ∈ kn)
 get:∀ p,wf2 p->p ∈ kn->D.atKey (keyL p) (.lit (.int .i64 0)) = .lit (.int .i64 (kn.idxOf p))
 size:Maps.size D = kn.length
theorem x4z {H:Type}:MapIs (H:=H) (.map []) []:=⟨tidy_empty,by simp,fun p _=>by simp [has_eq],by simp,rfl⟩
theorem x5b {H:Type} {D:DataW H} {kn:List (Int × Int)} (h:MapIs D kn) {p:Int × Int} (hp:wf2 p) (hn:¬ p ∈ kn):MapIs (D.put (keyL p) (.lit (.int .i64 kn.length))) (kn ++ [p]):=by
 have hk:WideAt.IsKeyLit (keyL p):=y0j.key (y0u hp)
 refine ⟨h.tidy.put hk _,?_,?_,?_,?_⟩
 ·intro q hq
  rcases List.mem_append.1 hq with hq | hq
  ·exact h.wf q hq
  ·rw [List.mem_singleton.1 hq];exact hp
 ·intro q hq
  by_cases e:q = p
  ·subst e
   rw [has_put_same h.tidy.isMap hk]
   simp
  ·rw [has_put_other (fun he=>e (x07 hq hp he)),h.has q hq]
   simp [e]
 ·intro q hq hm
  by_cases e:q = p
  ·subst e
   rw [atKey_put_same h.tidy.isMap hk,List.idxOf_append,if_neg hn]
   simp
  ·rw [atKey_put_other (fun he=>e (x07 hq hp he))]
   have hq2:q ∈ kn:=by
    rcases List.mem_append.1 hm with h | h
    ·exact h
    ·exact absurd (List.mem_singleton.1 h) e
   rw [h.get q hq hq2,List.idxOf_append,if_pos hq2]
 ·rw [size_put h.tidy,h.has p hp,h.size]
  simp [hn]
theorem x8w (w:World):(zeroValue 3).run Tryz.prog w = .ok (.int .i64 0) w:=by kernel_rfl
theorem w2r:(Tryz.prog.info? 3).map (fun i=>(i.zero,i.size,i.bytes)) = some (some (.int .i64 0),1,8):=by kernel_rfl
theorem w6q:Tryz.f166.results = #[.cell 2 30]:=rfl
def knF:List (Int × Int)->List (Int × Int)->List (Int × Int)
 | [],kn=>kn
 | p :: l,kn=>if p ∈ kn then knF l kn else knF l (kn ++ [p])
def z2e (kn:List (Int × Int)) (p:Int × Int):Int:=if p ∈ kn then (kn.idxOf p:Int) else (kn.length:Int)
theorem z4u (p:Int × Int):∀ (l kn:List (Int × Int)),clsF (l ++ [p]) kn = clsF l kn ++ [z2e (knF l kn) p]
 | [],kn=>by simp only [List.nil_append,clsF,knF,z2e];by_cases h:p ∈ kn <;> simp [h]
 | q :: l,kn=>by
  simp only [List.cons_append,clsF,knF]
  split
  ·rw [z4u p l kn,List.cons_append]
  ·rw [z4u p l _,List.cons_append]
theorem z7l (p:Int × Int):∀ (l kn:List (Int × Int)),knF (l ++ [p]) kn = if p ∈ knF l kn then knF l kn else knF l kn ++ [p]
 | [],kn=>by simp only [List.nil_append,knF];by_cases h:p ∈ kn <;> simp [h]
 | q :: l,kn=>by
  simp only [List.cons_append,knF]
  split
  ·exact z7l p l kn
  ·exact z7l p l _
def Kn (ps:List (Int × Int)) (k:Nat):List (Int × Int):=knF (ps.take k) []
def Out (ps:List (Int × Int)) (k:Nat):List Int:=clsF (ps.take k) []
theorem x1p {ps:List (Int × Int)} {k:Nat} (h:k < ps.length):Kn ps (k + 1) = if ps[k] ∈ Kn ps k then Kn ps k else Kn ps k ++ [ps[k]]:=by
 unfold Kn
 rw [List.take_add_one,List.getElem?_eq_getElem h]
 exact z7l _ _ _
theorem y6d {ps:List (Int × Int)} {k:Nat} (h:k < ps.length):Out ps (k + 1) = Out ps k ++ [z2e (Kn ps k) ps[k]]:=by
 unfold Out Kn
 rw [List.take_add_one,List.getElem?_eq_getElem h]
 exact z4u _ _ _
theorem z8b {w:World} {base e size n:Nat} {v:Value} {xs:List Value} (h:w.ownsRow base e size v n xs):∃ ad m c,v = .slice ad m c:=by
 rcases h.2 with ⟨rfl,_⟩ | ⟨g,c,cu,rfl,_⟩
 · exact ⟨_,_,_,rfl⟩
 · exact ⟨_,_,_,rfl⟩
theorem q6c {w:World} {base e size n:Nat} {v:Value} {xs:List Value} (h:w.ownsRow base e size v n xs) {a:Addr} (ha:a.block < base) (u:Value):(w.setCell a u).ownsRow base e size v n xs:=by
 refine ⟨h.1,?_⟩
 rcases h.2 with hn | ⟨g,c,cu,rfl,hb,hg,rest⟩
 · exact .inl hn
 · exact .inr ⟨g,c,cu,rfl,hb,by rw [heap_setCell_other w a g u (by omega)];exact hg,rest⟩
theorem q6x {w:World} {base e size n:Nat} {v:Value} {xs:List Value} (h:w.ownsRow base e size v n xs) {k:Nat} (hk:k < base):some k ≠ v.ownBlock:=by
 intro e
 have:=(h.lt k e.symm).1
 omega
theorem q3i {w:World} {a:Addr} {v:Value} (h:w.cell? a = some v) (o:Obj):(w.alloc o).cell? a = some v :=
 (World.cell?_of_block (heap_alloc_old w o (block_lt_of_cell h))).trans h
theorem q2l {w:World} {a:Addr} (hl:a.block < w.heap.size) (h:w.frozen? a = false) (o:Obj):(w.alloc o).frozen? a = false :=
 (World.frozen?_of_block (heap_alloc_old w o hl)).trans h
theorem q5e {w0 w2:World} {row:Option Nat} (hg:w0.grownBy w2 row) {a:Addr} {v:Value} (h:w0.cell? a = some v) (hf:w0.frozen? a = false) (hne:some a.block ≠ row):w2.cell? a = some v /\ w2.frozen? a = false :=
 ⟨hg.cell h hne,(World.frozen?_of_block (hg.block _ (block_lt_of_cell h) hne)).trans hf⟩
theorem z2q (w:World) (v:Value) (t:TypeId):(w.alloc (.cells #[v] t)).cell? ⟨w.heap.size,0,none⟩ = some v /\ (w.alloc (.cells #[v] t)).frozen? ⟨w.heap.size,0,none⟩ = false:=by
 have h:=heap_alloc_new w (.cells #[v] t)
 exact ⟨by rw [cell_of_row _ _ 0 #[v] t (0,0) h];rfl,frozen_of_row _ _ 0 #[v] t h⟩
theorem y48 (a:Option Addr) (cap:Nat) (w:World):Calls Tryz.prog 166 #[.slice a 0 cap] w fun e w'=>e = .returned (.agg #[.slice none 0 0]) /\ Below w.heap.size w w':=by
 have hmm:=@run_makeMap Tryz.prog
 go_enter Tryz.func166,Tryz.ntmps166
 go_wp2
 refine wp_loop_rounds 1 ?_
 rw [rounds_succ]
 go_wp2
 refine bodyPost_ret (v:=.agg #[.slice none 0 0]) (by simp [results,w6q,go_sem];try rfl) rfl ?_
 exact ⟨rfl,(((Below.refl _ _).alloc (Nat.le_refl _) _).alloc (by simp) _).alloc (by simp;omega) _⟩
set_option maxHeartbeats 1600000 in
theorem y8u (b off cap:Nat) (ps:List (Int × Int)) (w:World) (hlen:ps.length<=1000000) (hb:b < w.heap.size)
   (hc:∀ j,j < ps.length->w.cell? ⟨b,off + j * 2,none⟩ = some (.int .i64 (ps.getD j (0,0)).1) /\ w.cell? ⟨b,off + j * 2 + 1,none⟩ = some (.int .i64 (ps.getD j (0,0)).2)) (hwf:∀ p ∈ ps,wf2 p) :
   Calls Tryz.prog 166 #[.slice (some ⟨b,off,none⟩) ps.length cap] w fun e w'=>∃ v,e = .returned (.agg #[v]) /\ w'.ownsRow w.heap.size 3 1 v ps.length ((clsL ps).map (Value.int .i64)) /\ Below w.heap.size w w':=by
 have hmm:=@run_makeMap Tryz.prog
 obtain ⟨i0,hi,hz0,hz1,hz2⟩:=info_parts w2r
 go_enter Tryz.func166,Tryz.ntmps166
 go_wp2
 go_loopw [13] (fun i wr=>∃ (k:Nat) (v:Value) (D:DataW Unit),k<=ps.length /\ i = .int .i64 k /\ wr.ownsMap Tryz.prog 164 (plainElem Tryz.prog 3) (w.heap.size + 1) k D /\ MapIs D (Kn ps k) /\
     wr.cell? ⟨w.heap.size + 1 + 1,0,none⟩ = some v /\ wr.frozen? ⟨w.heap.size + 1 + 1,0,none⟩ = false /\ wr.cell? ⟨w.heap.size,0,none⟩ = some (.slice none 0 0) /\ wr.frozen? ⟨w.heap.size,0,none⟩ = false /\
     wr.ownsRow (w.heap.size + 3) 3 1 v k ((Out ps k).map (Value.int .i64)) /\ Below w.heap.size w wr /\ w.heap.size + 3<=wr.heap.size)
   (fun i _=>ps.length - (intOf i).toNat)
 case atStart =>
   refine ⟨0,.slice none 0 0,.map [],Nat.zero_le _,rfl,?_,x4z,?_,?_,?_,?_,World.ownsRow_nil _ _ _ _,(((Below.refl _ _).alloc (Nat.le_refl _) _).alloc (by simp) _).alloc (by simp;omega) _,by simp⟩
   · have:=World.ownsMap_made (H:=Unit) (w.alloc (Obj.cells #[Value.slice none 0 0] 30)) Tryz.prog 164 (plainElem Tryz.prog 3)
     simp at this
     exact this.alloc _
   · have:=(z2q ((w.alloc (Obj.cells #[Value.slice none 0 0] 30)).alloc (Obj.map #[] 0)) (.slice none 0 0) 30).1
     rwa [show ((w.alloc (Obj.cells #[Value.slice none 0 0] 30)).alloc (Obj.map #[] 0)).heap.size = w.heap.size + 1 + 1 by simp] at this
   · have:=(z2q ((w.alloc (Obj.cells #[Value.slice none 0 0] 30)).alloc (Obj.map #[] 0)) (.slice none 0 0) 30).2
     rwa [show ((w.alloc (Obj.cells #[Value.slice none 0 0] 30)).alloc (Obj.map #[] 0)).heap.size = w.heap.size + 1 + 1 by simp] at this
   · exact q3i (q3i (z2q w (.slice none 0 0) 30).1 _) _
   · exact q2l (by simp;omega) (q2l (by simp) (z2q w (.slice none 0 0) 30).2 _) _
 case round =>
   obtain ⟨k,v,D,hk,rfl,hown,hmi,hv,hvf,hr,hrf,hrow,hnx,hws⟩:=hrel
   have hc1:k < ps.length->wr.cell? ⟨b,off + k * 2,none⟩ = some (.int .i64 (ps.getD k (0,0)).1):=fun h=>(hnx.cell (by exact hb)).trans (hc k h).1
   have hc2:k < ps.length->wr.cell? ⟨b,off + k * 2 + 1,none⟩ = some (.int .i64 (ps.getD k (0,0)).2):=fun h=>(hnx.cell (by exact hb)).trans (hc k h).2
   obtain ⟨ad,sn,sc,rfl⟩:=z8b hrow
   by_cases hlt:k < ps.length
   · have hp:=hwf _ (List.getElem_mem hlt)
     have hkey:keyOf Tryz.prog 164 (.agg #[.int .i64 ps[k].1,.int .i64 ps[k].2]) = some (keyL ps[k]):=y0u hp
     have hsz:=hown.size_le
     have hhas:=hmi.has ps[k] hp
     have hva:=fun o=>q3i hv o
     have hvfa:=fun o=>q2l (w:=wr) (a:=⟨w.heap.size + 1 + 1,0,none⟩) (block_lt_of_cell hv) hvf o
     have hra:=fun o=>q3i hr o
     have hrfa:=fun o=>q2l (w:=wr) (a:=⟨w.heap.size,0,none⟩) (block_lt_of_cell hr) hrf o
     by_cases hm:ps[k] ∈ Kn ps k
     · rw [decide_eq_true hm] at hhas
       have hgt:=hmi.get ps[k] hp hm
       have hcl:z2e (Kn ps k) ps[k] = ((Kn ps k).idxOf ps[k]:Int):=by unfold z2e;rw [if_pos hm]
       go_wp2_with (first
         | (at_lookup;refine wpList_lookup_own_ok_int _ rfl _ _ 207 rfl 164 3 .i64 y0j Tryz.underlying207 Tryz.underlying3 (x8w _) (w.heap.size + 1) k D rfl (hown.alloc _) _ _ rfl hkey ?_;intro c hat hwc;rw [hhas];obtain rfl:c = ((Kn ps k).idxOf ps[k]:Int):=by rw [hgt] at hat;injection hat with hat;injection hat with _ hat;exact hat.symm)
         | (at_builtin;refine wpList_append_own_at _ rfl _ _ 28 rfl (w.heap.size + 3) 3 i0 (.int .i64 0) 1 8 Tryz.underlying28 hi hz0 hz1 hz2 rfl (by decide) _ _ _ rfl ((hrow.alloc _).alloc _) ⟨wr.heap.size + 1,0,none⟩ 1 1 [.int .i64 ((Kn ps k).idxOf ps[k]:Int)] rfl rfl (by simpa using cell_one_new (wr.alloc _) _ _) (ints_oneCell .i64 [((Kn ps k).idxOf ps[k]:Int)]) (by unfold maxLen;omega) (by omega) (by simp;omega) ?_;intro v' w2 hown' hgrow2 hnil2 hloc;
             (obtain ⟨ad2,sn2,sc2,rfl⟩:=z8b hown');
             (obtain ⟨hv2,hvf2⟩:=q5e hgrow2 (q3i (hva _) _) (q2l (block_lt_of_cell (hva _)) (hvfa _) _) (q6x hrow (show w.heap.size + 1 + 1 < w.heap.size + 3 by omega)));
             (obtain ⟨hr2,hrf2⟩:=q5e hgrow2 (q3i (hra _) _) (q2l (block_lt_of_cell (hra _)) (hrfa _) _) (q6x hrow (show w.heap.size < w.heap.size + 3 by omega))))
         | go_in)
       have hne:=q6x hrow (show w.heap.size + 1 < w.heap.size + 3 by omega)
       have hs2:=hgrow2.size
       simp at hs2
       refine ⟨⟨k + 1,.slice ad2 sn2 sc2,D,by omega,by simp,((((hown.alloc _).alloc _).kept hgrow2 hne).setCell (by simp) _).mono (Nat.le_succ _),by rw [x1p hlt,if_pos hm];exact hmi,World.cell?_setCell_same _ _ _ hv2,by rw [World.frozen?_setCell];exact hvf2,
         (World.cell?_setCell_other _ _ _ _ (by simp)).trans hr2,by rw [World.frozen?_setCell];exact hrf2,?_,?_,by simp [World.setCell];omega⟩,?_⟩
       · refine q6c ?_ (by simp) _
         rw [y6d hlt,hcl]
         simpa using hown'
       · refine Below.setCell ?_ (by simp;omega) _
         exact ((hnx.alloc (by omega) _).alloc (by simp;omega) _).grown hgrow2 (by simp;omega) (fun j hj=>by have:=(hrow.lt j hj).1;omega)
       · simp [intOf];omega
     · rw [decide_eq_false hm] at hhas
       have hcl:z2e (Kn ps k) ps[k] = ((Kn ps k).length:Int):=by unfold z2e;rw [if_neg hm]
       have hsize:=hmi.size
       have hkl:(Kn ps k).length<=k:=by omega
       have hwf2:(Lit.int .i64 ((Kn ps k).length:Int)).wf = true:=WalkArith.wf_i64 (by omega)
       go_wp2_with (first
         | (at_lookup;refine wpList_lookup_own_ok_int _ rfl _ _ 207 rfl 164 3 .i64 y0j Tryz.underlying207 Tryz.underlying3 (x8w _) (w.heap.size + 1) k D rfl (hown.alloc _) _ _ rfl hkey ?_;intro c hat hwc;rw [hhas])
         | (at_len;refine wpList_len_own _ rfl _ _ rfl 164 3 Tryz.underlying207 (plainElem Tryz.prog 3) (w.heap.size + 1) k D rfl (hown.alloc _) ?_;rw [hsize])
         | (at_mapUpdate;refine wpList_mapUpdate_own _ rfl _ _ _ 207 rfl 164 3 y0j Tryz.underlying207 (plainElem Tryz.prog 3) (w.heap.size + 1) k D rfl (hown.alloc _) (by unfold maxLen;omega) _ _ _ rfl rfl hkey _ [] (plainElem_int Tryz.underlying3 hwf2) ?_;intro w1 hown1 hgrow1;
             (obtain ⟨hv1,hvf1⟩:=q5e hgrow1 (hva _) (hvfa _) (by simp));
             (obtain ⟨hr1,hrf1⟩:=q5e hgrow1 (hra _) (hrfa _) (by simp));
             (have hrow1:=(hrow.alloc _).kept hgrow1 (Or.inr (q6x hrow (show w.heap.size + 1 < w.heap.size + 3 by omega)).symm));
             (have hw1:=hgrow1.size);(have hva1:=fun o=>q3i hv1 o);(have hvfa1:=fun o=>q2l (block_lt_of_cell hv1) hvf1 o);
             (have hra1:=fun o=>q3i hr1 o);(have hrfa1:=fun o=>q2l (block_lt_of_cell hr1) hrf1 o))
         | (at_builtin;refine wpList_append_own_at _ rfl _ _ 28 rfl (w.heap.size + 3) 3 i0 (.int .i64 0) 1 8 Tryz.underlying28 hi hz0 hz1 hz2 rfl (by decide) _ _ _ rfl (hrow1.alloc _) ⟨w1.heap.size,0,none⟩ 1 1 [.int .i64 ((Kn ps k).length:Int)] rfl rfl (cell_one_new _ _ _) (ints_oneCell .i64 [((Kn ps k).length:Int)]) (by unfold maxLen;omega) (by omega) (by simp at hw1 ⊢;omega) ?_;intro v' w2 hown' hgrow2 hnil2 hloc;
             (obtain ⟨ad2,sn2,sc2,rfl⟩:=z8b hown');
             (obtain ⟨hv2,hvf2⟩:=q5e hgrow2 (hva1 _) (hvfa1 _) (q6x hrow1 (show w.heap.size + 1 + 1 < w.heap.size + 3 by omega)));
             (obtain ⟨hr2,hrf2⟩:=q5e hgrow2 (hra1 _) (hrfa1 _) (q6x hrow1 (show w.heap.size < w.heap.size + 3 by omega))))
         | go_in)
       have hne:=q6x hrow1 (show w.heap.size + 1 < w.heap.size + 3 by omega)
       have hs2:=hgrow2.size
       simp at hs2 hw1
       refine ⟨⟨k + 1,.slice ad2 sn2 sc2,_,by omega,by simp,((hown1.alloc _).kept hgrow2 hne).setCell (by simp) _,by rw [x1p hlt,if_neg hm];exact x5b hmi hp hm,World.cell?_setCell_same _ _ _ hv2,by rw [World.frozen?_setCell];exact hvf2,
         (World.cell?_setCell_other _ _ _ _ (by simp)).trans hr2,by rw [World.frozen?_setCell];exact hrf2,?_,?_,by simp [World.setCell];omega⟩,?_⟩
       · refine q6c ?_ (by simp) _
         rw [y6d hlt,hcl]
         simpa using hown'
       · refine Below.setCell ?_ (by simp;omega) _
         exact (((hnx.alloc (by omega) _).grown hgrow1 (by simp;omega) (fun j hj=>by cases hj;omega)).alloc (by omega) _).grown hgrow2 (by simp;omega) (fun j hj=>by have:=(hrow1.lt j hj).1;omega)
       · simp [intOf];omega
   · have hkn:k = ps.length:=by omega
     subst hkn
     go_wp2
     have hret:=World.cell?_setCell_same (w:=wr) (a:=⟨w.heap.size,0,none⟩) (v:=.slice ad sn sc) (u:=_) hr
     refine bodyPost_ret (v:=.agg #[.slice ad sn sc]) (by simp [results,go_sem,hret];try rfl) rfl ?_
     refine ⟨_,rfl,?_,hnx.setCell (by simp) _⟩
     have h1:=q6c hrow (a:=⟨w.heap.size,0,none⟩) (by simp) (.slice ad sn sc)
     have e:Out ps ps.length = clsL ps:=by unfold Out clsL;rw [List.take_length]
     rw [e] at h1
     refine ⟨h1.1,?_⟩
     rcases h1.2 with hn | ⟨g,c,cu,q1,q2,q3⟩
     · exact .inl hn
     · exact .inr ⟨g,c,cu,q1,by omega,q3⟩
open Go.Dp
theorem z4h {P:Program} {f:FuncId} {arg:PV} {e:TypeId} {zs:List Int} (he:Go.Dp.Enters P f)
   (h:∀ (w:World) (Im:Nat->Prop) (y:Value),(∀ b,Im b->b < w.heap.size)->RP w Im arg y->Calls P f #[y] w fun ev w'=>∃ v,ev = .returned (.agg #[v]) /\ w'.ownsRow w.heap.size e 1 v zs.length (zs.map (Value.int .i64)) /\ Below w.heap.size w w') :
   Contract P f [.s (.c (.p arg))] [] ([.agg [.own e 0 (zs.map (PV.int .i64))]],[]):=by
 refine ⟨he,fun w Im bl vss ys gs pre=>?_⟩
 have hb:bl = []:=List.eq_nil_of_length_eq_zero (by simpa using pre.l1)
 have hv:vss = []:=by simpa using pre.l2
 subst hb
 subst hv
 have hl:=pre.og.len.1
 have hgs:gs = []:=List.eq_nil_of_length_eq_zero pre.og.len.2
 subst hgs
 simp only [List.length_cons,List.length_nil] at hl
 obtain ⟨y,rfl⟩:∃ y,ys = [y]:=by
   match ys,hl with
   | [y],_=>exact ⟨y,rfl⟩
 have hy:RP w Im arg y:=pre.arg 0 _ y rfl rfl rfl
 refine (h w Im y pre.im hy).mono ?_
 rintro ev w' ⟨v,rfl,hown,hbel⟩
 have hmv:mainV v = v /\ v.oneCell' = true /\ ∀ b,Blk v b->w.heap.size<=b:=by
   rcases hown.2 with ⟨rfl,_⟩ | ⟨g,c,cu,rfl,hb,_⟩
   · exact ⟨rfl,rfl,fun b hb=>hb.elim⟩
   · exact ⟨rfl,rfl,fun b hb'=>by simp at hb';omega⟩
 have c0:csz 0 = 1:=rfl
 have hrow:OwnRow w' Im (e:Et) 0 (zs.map (PV.int .i64)) v:=by
   refine ⟨zs.map (Value.int .i64),?_,?_,?_,?_,?_⟩
   · rw [hmv.1,List.length_map]
     have:=World.ownsAt_of hown
     refine ⟨this.1,?_⟩
     rcases this.2 with hn | ⟨g,bo,c,cu,q1,q2,q3⟩
     · exact .inl hn
     · exact .inr ⟨g,bo,c,cu,q1,Nat.zero_le _,q3⟩
   · intro x hx
     obtain ⟨z,_,rfl⟩:=List.mem_map.1 hx
     rfl
   · intro i x j c u hx hj hu
     rw [List.getElem?_map] at hx
     cases hz:zs[i]? with
     | none=>rw [hz] at hx;cases hx
     | some z =>
       rw [hz] at hx
       simp only [Option.map_some,Option.some.injEq] at hx
       subst hx
       cases j with
       | zero =>
         simp [PV.cells] at hj
         subst hj
         rw [c0,Nat.mul_one,Nat.add_zero,List.getElem?_map,hz] at hu
         simp only [Option.map_some,Option.some.injEq] at hu
         subst hu
         exact RP.int _ _
       | succ j=>simp [PV.cells] at hj
   · intro b hb
     exact ⟨fun _ hI=>by have:=hmv.2.2 b hb;have:=pre.im b hI;omega,fun h=>nomatch h⟩
   · exact fun _=>hmv.1
 refine ⟨.agg #[v],Im,[],[v],rfl,?_⟩
 exact { wd:=⟨hbel.os,hbel.tape,hbel.output,hbel.size⟩,fr:=fun b hb _=>hbel.block b hb,im:=fun b hb=>⟨hb,hbel.block b (pre.im b hb)⟩,imn:=fun b hb=>⟨.inl hb,Nat.lt_of_lt_of_le (pre.im b hb) hbel.size⟩,l1:=rfl,l2:=rfl,
         box:=fun j b vs h1=>by simp at h1
         tok:=by
           refine ⟨rfl,fun i c y h1 h2=>?_,fun i j b h1 h2=>?_,fun i b h1=>by simp⟩
           · cases i with
             | zero =>
               simp [cellsOfS] at h1 h2
               subst h1
               subst h2
               exact hrow
             | succ i=>simp [cellsOfS] at h1
           · obtain ⟨_,_,_,_,h3,_⟩:=h1
             obtain ⟨_,_,_,_,h4,_⟩:=h2
             cases i <;> cases j <;> simp [cellsOfS] at h3 h4
             rfl
         ow:=by
           rintro b ⟨i,_,_,_,y',h3,h4,h5⟩
           cases i with
           | zero =>
             simp [cellsOfS] at h4
             subst h4
             exact .inl (hmv.2.2 b h5)
           | succ i=>simp [cellsOfS] at h3
         ret:=⟨[.agg #[v]],RetSs.cons (d:=.agg [.own e 0 (zs.map (PV.int .i64))]) (y:=.agg #[v]) (zs:=[v]) ⟨rfl,by simp [hmv.1],by simp [hmv.1,hmv.2.1]⟩ .nil,rfl⟩ }
def q1m (p:Int × Int):PV:=.agg [.int .i64 p.1,.int .i64 p.2]
theorem y9c (ps:List (Int × Int)) (hlen:ps.length<=1000000) (hwf:∀ p ∈ ps,wf2 p):Contract Tryz.prog 166 [.s (.c (.p (.row 2 0 (ps.map q1m))))] [] ([.agg [.own 3 0 ((clsL ps).map (PV.int .i64))]],[]):=by
 have hcl:(clsL ps).length = ps.length:=by
  have key:∀ l kn,(clsF l kn).length = l.length:=by
   intro l
   induction l with
   | nil=>intro kn;rfl
   | cons p l ih =>
    intro kn
    unfold clsF
    split <;> simp [ih]
  exact key ps []
 refine z4h ⟨_,Tryz.func166,by kernel_rfl,by decide +kernel⟩ fun w Im y him hy=>?_
 cases hps:ps with
 | nil =>
  subst hps
  have hnone:∃ a cap,y = .slice a 0 cap:=by
   cases hy with
   | nil=>exact ⟨_,_,rfl⟩
   | row=>exact ⟨_,_,rfl⟩
  obtain ⟨a,cap,rfl⟩:=hnone
  refine (y48 a cap w).mono ?_
  rintro ev w' ⟨rfl,hb⟩
  exact ⟨_,rfl,World.ownsRow_nil _ _ _ _,hb⟩
 | cons p0 l0 =>
  rw [<- hps]
  have hpos:0 < ps.length:=by rw [hps];simp
  generalize hxs:ps.map q1m = xs at hy
  have hxl:xs.length = ps.length:=by rw [<- hxs];simp
  cases hy with
  | nil=>simp at hxl;omega
  | row _ _ _ a cap g hf hs hc hm h1 him' hsh hcell hr =>
   obtain ⟨blk,off,sp⟩:=a
   simp only at hs
   subst hs
   rw [hxl]
   have hb:=him blk (him' (by omega))
   have c2:csz 2 = 2:=rfl
   have hat:∀ j,j < ps.length->xs[j]? = some (q1m (ps.getD j (0,0))):=by
    intro j hj
    rw [<- hxs,List.getElem?_map,List.getElem?_eq_getElem hj]
    simp [hj]
   have hc2:∀ j,j < ps.length->w.cell? ⟨blk,off + j * 2,none⟩ = some (.int .i64 (ps.getD j (0,0)).1) /\ w.cell? ⟨blk,off + j * 2 + 1,none⟩ = some (.int .i64 (ps.getD j (0,0)).2):=by
    intro j hj
    have a1:=hcell j _ 0 _ (hat j hj) rfl
    have a2:=hcell j _ 1 _ (hat j hj) rfl
    have b1:=hr j _ 0 _ (hat j hj) rfl
    have b2:=hr j _ 1 _ (hat j hj) rfl
    rw [c2] at a1 a2 b1 b2
    simp only [Nat.add_zero] at a1 b1
    rw [a1,Nat.add_assoc,a2,y15 b1,y15 b2]
    exact ⟨rfl,rfl⟩
   refine (y8u blk off cap ps w hlen hb hc2 hwf).mono ?_
   rintro ev w' ⟨v,rfl,hown,hbel⟩
   exact ⟨v,rfl,by rw [hcl];exact hown,hbel⟩
def pairOf:PV->Option (Int × Int)
 | .agg [.int .i64 a,.int .i64 b]=>some (a,b)
 | _=>none
def q61:List PV->Option (List (Int × Int))
 | []=>some []
 | x :: l=>(pairOf x).bind fun p=>(q61 l).bind fun q=>some (p :: q)
theorem z6u:∀ ps:List (Int × Int),q61 (ps.map q1m) = some ps
 | []=>rfl
 | p :: l=>by rw [List.map_cons,q61,z6u l];rfl
theorem z31:∀ {xs:List PV} {ps:List (Int × Int)},q61 xs = some ps->xs = ps.map q1m
 | [],ps,h=>by injection h with h;subst h;rfl
 | x :: l,ps,h=>by
  rw [q61] at h
  obtain ⟨p,hp,h⟩:=bind_some h
  obtain ⟨q,hq,h⟩:=bind_some h
  injection h with h
  subst h
  rw [List.map_cons,<- z31 hq]
  congr 1
  unfold pairOf at hp
  split at hp
  ·injection hp with hp;subst hp;rfl
  ·cases hp
def wf2B (p:Int × Int):Bool:=(Lit.int .i64 p.1).wf && (Lit.int .i64 p.2).wf
def numT:FuncId->List AV->List (List CV)->R:=fun f args bs =>
 bif f == 166 then match args,bs with
  | [.s (.c (.p (.row 2 0 xs)))],[]=>(q61 xs).bind fun ps=>bif decide (ps.length<=1000000) && ps.all wf2B then some ([.agg [.own 3 0 ((clsL ps).map (PV.int .i64))]],[]) else none
  | _,_=>none
 else none
theorem x96:∀ f args bs r,numT f args bs = some r->Contract Tryz.prog f args bs r:=by
 intro f args bs r h
 unfold numT at h
 obtain ⟨hf,h⟩:=q0g h
 have hf:f = 166:=by simpa using hf
 subst hf
 split at h
 ·rename_i xs
  obtain ⟨ps,hp,h⟩:=bind_some h
  obtain ⟨hc,h⟩:=q0g h
  injection h with h
  subst h
  rw [z31 hp]
  rw [Bool.and_eq_true,List.all_eq_true] at hc
  refine y9c ps (of_decide_eq_true hc.1) fun p hp=>?_
  have:=hc.2 p hp
  simpa [wf2B,wf2] using this
 ·cases h
theorem w1a (ps:List (Int × Int)) (h1:ps.length<=1000000) (h2:ps.all wf2B = true):numT 166 [.s (.c (.p (.row 2 0 (ps.map q1m))))] [] = some ([.agg [.own 3 0 ((clsL ps).map (PV.int .i64))]],[]):=by
 have e:(decide (ps.length<=1000000) && ps.all wf2B) = true:=by rw [decide_eq_true h1,h2];rfl
 show ((q61 (ps.map q1m)).bind fun ps=>bif decide (ps.length<=1000000) && ps.all wf2B then some ([SV.agg [.own 3 0 ((clsL ps).map (PV.int .i64))]],[]) else none) = _
 rw [z6u]
 show (bif decide (ps.length<=1000000) && ps.all wf2B then some ([SV.agg [.own 3 0 ((clsL ps).map (PV.int .i64))]],[]) else none) = _
 rw [e]
 rfl
end Go.Proofs.YtgdegfijcijnoaaGreat
/- Classes numbered by their first members. -/
namespace Go.Proofs.YtgdegfijcijnoaaGreat
open Go.Dp
section
variable {α β:Type} [BEq α] [LawfulBEq α] [BEq β] [LawfulBEq β]
def cls:List α->List α->List Int
 | [],_=>[]
 | p :: l,kn=>bif kn.contains p then (kn.idxOf p:Int) :: cls l kn else (kn.length:Int) :: cls l (kn ++ [p])
def dis:List α->List α->List α
 | [],kn=>kn
 | p :: l,kn=>bif kn.contains p then dis l kn else dis l (kn ++ [p])
theorem q6z:∀ (l kn:List α),(cls l kn).length = l.length
 | [],kn=>rfl
 | p :: l,kn=>by
  rw [cls]
  cases kn.contains p
  ·simp [q6z l]
  ·simp [q6z l]
def Bij (zs:List (α × β)):Prop:=∀ x ∈ zs,∀ y ∈ zs,x.1 = y.1 ↔ x.2 = y.2
theorem x1r (z:α × β):∀ (kn:List (α × β)),(∀ x ∈ kn,x.1 = z.1 ↔ x.2 = z.2)->(kn.map (·.1)).idxOf z.1 = (kn.map (·.2)).idxOf z.2 /\ (kn.map (·.1)).contains z.1 = (kn.map (·.2)).contains z.2
 | [],_=>⟨rfl,rfl⟩
 | x :: kn,h=>by
  obtain ⟨h1,h2⟩:=x1r z kn (fun y hy=>h y (by simp [hy]))
  have hx:=h x (by simp)
  simp only [List.map_cons,List.idxOf_cons,List.contains_cons,h2]
  by_cases e:x.1 = z.1
  ·have e2:=hx.1 e
   have a1:(x.1 == z.1) = true:=by simpa using e
   have a2:(x.2 == z.2) = true:=by simpa using e2
   have a3:(z.1 == x.1) = true:=by simpa using e.symm
   have a4:(z.2 == x.2) = true:=by simpa using e2.symm
   rw [a1,a2,a3,a4]
   exact ⟨rfl,rfl⟩
  ·have e2:¬ x.2 = z.2:=fun h=>e (hx.2 h)
   have a1:(x.1 == z.1) = false:=by simpa using e
   have a2:(x.2 == z.2) = false:=by simpa using e2
   have a3:(z.1 == x.1) = false:=by simpa using fun h:z.1 = x.1=>e h.symm
   have a4:(z.2 == x.2) = false:=by simpa using fun h:z.2 = x.2=>e2 h.symm
   rw [a1,a2,a3,a4,h1]
   exact ⟨rfl,rfl⟩
theorem y2c:∀ (l kn:List (α × β)),Bij (kn ++ l)->cls (l.map (·.1)) (kn.map (·.1)) = cls (l.map (·.2)) (kn.map (·.2))
 | [],kn,h=>rfl
 | z :: l,kn,h=>by
  obtain ⟨h1,h2⟩:=x1r z kn (fun x hx=>h x (by simp [hx]) z (by simp))
  simp only [List.map_cons,cls,h1,h2,List.length_map]
  have hsub:Bij (kn ++ l):=fun x hx y hy=>h x (by rcases List.mem_append.1 hx with h | h <;> simp [h]) y (by rcases List.mem_append.1 hy with h | h <;> simp [h])
  have hsub2:Bij ((kn ++ [z]) ++ l):=fun x hx y hy=>h x (by simpa using hx) y (by simpa using hy)
  have e1:=y2c l kn hsub
  have e2:=y2c l (kn ++ [z]) hsub2
  simp only [List.map_append,List.map_cons,List.map_nil] at e2
  rw [e1,e2]
theorem x4u {zs:List (α × β)} (h:Bij zs):cls (zs.map (·.1)) [] = cls (zs.map (·.2)) []:=by
 have:=y2c zs [] (by simpa using h)
 simpa using this
theorem q32:∀ (l kn:List α) (x:α),x ∈ dis l kn ↔ x ∈ kn ∨ x ∈ l
 | [],kn,x=>by simp [dis]
 | p :: l,kn,x=>by
  rw [dis]
  cases hc:kn.contains p
  ·rw [cond_false,q32 l,List.mem_append,List.mem_singleton,List.mem_cons]
   constructor
   ·rintro ((h | h) | h)
    ·exact .inl h
    ·exact .inr (.inl h)
    ·exact .inr (.inr h)
   ·rintro (h | h | h)
    ·exact .inl (.inl h)
    ·exact .inl (.inr h)
    ·exact .inr h
  ·have hp:p ∈ kn:=by simpa using hc
   rw [cond_true,q32 l,List.mem_cons]
   constructor
   ·rintro (h | h)
    ·exact .inl h
    ·exact .inr (.inr h)
   ·rintro (h | h | h)
    ·exact .inl h
    ·exact .inl (h ▸ hp)
    ·exact .inr h
theorem q5:∀ (l kn:List α),kn.Nodup->(dis l kn).Nodup
 | [],kn,h=>h
 | p :: l,kn,h=>by
  rw [dis]
  cases hc:kn.contains p
  ·have hp:p ∉ kn:=by simpa using hc
   refine q5 l _ ?_
   rw [List.nodup_append]
   exact ⟨h,by simp,fun a ha b hb=>by rw [List.mem_singleton.1 hb];rintro rfl;exact hp ha⟩
  ·exact q5 l kn h
theorem z5z:∀ (l kn:List α),∃ t,dis l kn = kn ++ t
 | [],kn=>⟨[],by simp [dis]⟩
 | p :: l,kn=>by
  rw [dis]
  cases kn.contains p
  ·obtain ⟨t,h⟩:=z5z l (kn ++ [p])
   exact ⟨p :: t,by simp only [cond_false];rw [h];simp⟩
  ·exact z5z l kn
theorem y2h {kn t:List α} {p:α} (h:p ∈ kn):(kn ++ t).idxOf p = kn.idxOf p:=by
 rw [List.idxOf_append,if_pos h]
theorem y2q:∀ (l kn:List α),kn.Nodup->cls l kn = l.map fun p=>((dis l kn).idxOf p:Int)
 | [],kn,h=>rfl
 | p :: l,kn,h=>by
  rw [cls,dis,List.map_cons]
  cases hc:kn.contains p
  ·have hp:p ∉ kn:=by simpa using hc
   have hn:(kn ++ [p]).Nodup:=by
    rw [List.nodup_append]
    exact ⟨h,by simp,fun a ha b hb=>by rw [List.mem_singleton.1 hb];rintro rfl;exact hp ha⟩
   obtain ⟨t,ht⟩:=z5z l (kn ++ [p])
   simp only [cond_false]
   rw [y2q l _ hn,ht,y2h (by simp),List.idxOf_append,if_neg hp]
   simp
  ·have hp:p ∈ kn:=by simpa using hc
   obtain ⟨t,ht⟩:=z5z l kn
   simp only [cond_true]
   rw [y2q l _ h,ht,y2h hp]
theorem w1s {K:List α} {p q:α} (hp:p ∈ K) (hq:q ∈ K) (h:K.idxOf p = K.idxOf q):p = q:=by
 have h1:=List.idxOf_lt_length_of_mem hp
 have h2:=List.idxOf_lt_length_of_mem hq
 have e1:=List.getElem_idxOf h1
 have e2:=List.getElem_idxOf h2
 rw [<- e1,<- e2]
 congr 1
end
def q1j:List Int->Int->Bool
 | [],_=>true
 | x :: l,m=>decide (0<=x) && (decide (x<=m) && q1j l (bif x == m then m + 1 else m))
def q0u:List Int->Int->Int
 | [],m=>m
 | x :: l,m=>q0u l (bif x == m then m + 1 else m)
def iota (m:Nat):List Int:=(List.range m).map fun (i:Nat)=>(i:Int)
theorem y6u (m:Nat) (x:Int):x ∈ iota m ↔ 0<=x /\ x < m:=by
 unfold iota
 rw [List.mem_map]
 constructor
 ·rintro ⟨i,hi,rfl⟩
  rw [List.mem_range] at hi
  omega
 ·rintro ⟨h1,h2⟩
  exact ⟨x.toNat,by rw [List.mem_range];omega,by omega⟩
theorem x52 (m:Nat):iota m ++ [(m:Int)] = iota (m + 1):=by simp [iota,List.range_succ]
theorem q12 (m:Nat):(iota m).length = m:=by simp [iota]
theorem x71 (m i:Nat) (h:i < (iota m).length):(iota m)[i] = (i:Int):=by
 simp [iota]
theorem x8g (m:Nat) {x:Int} (h:x ∈ iota m):((iota m).idxOf x:Int) = x:=by
 have h1:=List.idxOf_lt_length_of_mem h
 have e:=List.getElem_idxOf h1
 rw [x71] at e
 exact e
theorem z7u:∀ (l:List Int) (m:Nat),q1j l m = true->cls l (iota m) = l /\ ((dis l (iota m)).length:Int) = q0u l m
 | [],m,h=>⟨rfl,by simp [dis,q0u,q12]⟩
 | x :: l,m,h=>by
  simp only [q1j,Bool.and_eq_true,decide_eq_true_eq] at h
  obtain ⟨h1,h2,h3⟩:=h
  rw [cls,dis,q0u]
  by_cases e:x = (m:Int)
  ·subst e
   have hn:(iota m).contains (m:Int) = false:=by
    rw [<- Bool.not_eq_true,List.contains_iff_mem,y6u]
    omega
   have he:(((m:Int)) == (m:Int)) = true:=beq_self_eq_true _
   rw [he] at h3 ⊢
   simp only [cond_true] at h3 ⊢
   have h3':q1j l ((m + 1:Nat):Int) = true:=by simpa using h3
   obtain ⟨q1,q2⟩:=z7u l (m + 1) h3'
   rw [hn]
   simp only [cond_false]
   rw [x52,q1,q12]
   exact ⟨rfl,by rw [q2];simp⟩
  ·have hm:x ∈ iota m:=(y6u m x).2 ⟨h1,by omega⟩
   have hc:(iota m).contains x = true:=by simpa using hm
   have he:(x == (m:Int)) = false:=by simpa using e
   rw [he] at h3 ⊢
   simp only [cond_false] at h3 ⊢
   obtain ⟨q1,q2⟩:=z7u l m h3
   rw [hc]
   simp only [cond_true]
   rw [q1,x8g m hm]
   exact ⟨rfl,q2⟩
section
variable {α:Type} [BEq α] [LawfulBEq α]
theorem q9c:∀ (l kn:List α),q1j (cls l kn) kn.length = true /\ q0u (cls l kn) kn.length = ((dis l kn).length:Int)
 | [],kn=>⟨rfl,rfl⟩
 | p :: l,kn=>by
  rw [cls,dis]
  cases hc:kn.contains p
  ·obtain ⟨q1,q2⟩:=q9c l (kn ++ [p])
   simp only [cond_false,q1j,q0u,beq_self_eq_true,cond_true]
   have e:((kn ++ [p]).length:Int) = (kn.length:Int) + 1:=by simp
   rw [e] at q1 q2
   rw [q1,q2,decide_eq_true (by omega),decide_eq_true (by omega)]
   simp
  ·have hp:p ∈ kn:=by simpa using hc
   have hlt:=List.idxOf_lt_length_of_mem hp
   obtain ⟨q1,q2⟩:=q9c l kn
   have he:(((kn.idxOf p:Nat):Int) == (kn.length:Int)) = false:=by
    have:((kn.idxOf p:Nat):Int) ≠ (kn.length:Int):=by omega
    simpa using this
   simp only [cond_true,q1j,q0u,he,cond_false,q1,q2]
   rw [decide_eq_true (by omega),decide_eq_true (by omega)]
   simp
theorem q43:∀ {a b:List α},a.Nodup->(∀ x ∈ a,x ∈ b)->a.length<=b.length
 | [],b,_,_=>by simp
 | x :: a,b,hn,h=>by
  rw [List.nodup_cons] at hn
  have hx:=h x (by simp)
  have:=q43 (b:=b.erase x) hn.2 (fun y hy=>by
   have hne:y ≠ x:=by rintro rfl;exact hn.1 hy
   exact (List.mem_erase_of_ne hne).2 (h y (by simp [hy])))
  rw [List.length_erase_of_mem hx] at this
  have hpos:0 < b.length:=List.length_pos_of_mem hx
  simp only [List.length_cons]
  omega
end
theorem z14 {v:List Int} (h:q1j v 0 = true):cls v [] = v /\ ((dis v []).length:Int) = q0u v 0:=z7u v 0 h
theorem z78:∀ (l kn:List (Int × Int)),clsF l kn = cls l kn
 | [],kn=>rfl
 | p :: l,kn=>by
  rw [clsF,cls]
  by_cases h:p ∈ kn
  ·have hc:kn.contains p = true:=by simpa using h
   rw [if_pos h,hc,z78 l kn]
   rfl
  ·have hc:kn.contains p = false:=by
    rw [<- Bool.not_eq_true,List.contains_iff_mem]
    exact h
   rw [if_neg h,hc,z78 l (kn ++ [p])]
   rfl
theorem y7v (ps:List (Int × Int)):clsL ps = cls ps []:=z78 ps []
theorem z0q:∀ (l:List Int) (m:Nat),q1j l m = true->∀ x ∈ l,0<=x /\ x < q0u l m
 | [],m,h,x,hx=>by simp at hx
 | y :: l,m,h,x,hx=>by
  have hmono:∀ (l:List Int) (m:Int),m<=q0u l m:=by
   intro l
   induction l with
   | nil=>intro m;exact Int.le_refl m
   | cons z l ih =>
    intro m
    rw [q0u]
    have:=ih (bif z == m then m + 1 else m)
    refine Int.le_trans ?_ this
    cases (z == m)
    ·exact Int.le_refl m
    ·exact Int.le_of_lt (Int.lt_succ m)
  simp only [q1j,Bool.and_eq_true,decide_eq_true_eq] at h
  obtain ⟨h1,h2,h3⟩:=h
  rw [q0u]
  by_cases e:y = (m:Int)
  ·have he:(y == (m:Int)) = true:=by simpa using e
   rw [he] at h3 ⊢
   simp only [cond_true] at h3 ⊢
   have h3':q1j l ((m + 1:Nat):Int) = true:=by simpa using h3
   rcases List.mem_cons.1 hx with rfl | hx
   ·have:=hmono l ((m:Int) + 1)
    omega
   ·have:=z0q l (m + 1) h3' x hx
    simpa using this
  ·have he:(y == (m:Int)) = false:=by simpa using e
   rw [he] at h3 ⊢
   simp only [cond_false] at h3 ⊢
   rcases List.mem_cons.1 hx with rfl | hx
   ·have:=hmono l (m:Int)
    omega
   ·exact z0q l m h3 x hx
section
variable {α β γ:Type} [BEq β] [LawfulBEq β] [BEq γ] [LawfulBEq γ]
theorem z2k (z:List α) (f:α->β) (g:α->γ) (h:∀ q ∈ z,∀ r ∈ z,f q = f r ↔ g q = g r):cls (z.map f) [] = cls (z.map g) []:=by
 have hb:Bij (z.map fun q=>(f q,g q)):=by
  intro x hx y hy
  obtain ⟨q,hq,rfl⟩:=List.mem_map.1 hx
  obtain ⟨r,hr,rfl⟩:=List.mem_map.1 hy
  exact h q hq r hr
 have:=x4u hb
 simpa [Function.comp_def] using this
theorem x1k (z:List α) (f:α->β):∃ g:α->Int,cls (z.map f) [] = z.map g /\ ∀ q ∈ z,∀ r ∈ z,g q = g r ↔ f q = f r:=by
 refine ⟨fun q=>((dis (z.map f) []).idxOf (f q):Int),?_,?_⟩
 ·rw [y2q _ _ (by simp),List.map_map]
  rfl
 ·intro q hq r hr
  constructor
  ·intro h
   have h':(dis (z.map f) []).idxOf (f q) = (dis (z.map f) []).idxOf (f r):=by
    have h2:(((dis (z.map f) []).idxOf (f q):Nat):Int) = (((dis (z.map f) []).idxOf (f r):Nat):Int):=h
    omega
   exact w1s ((q32 _ [] _).2 (.inr (List.mem_map_of_mem hq))) ((q32 _ [] _).2 (.inr (List.mem_map_of_mem hr))) h'
  ·intro h
   simp only [h]
end
theorem z19 {α β γ:Type} (z:List α) (f:α->β) (g:α->γ):(z.map f).zip (z.map g) = z.map fun q=>(f q,g q):=List.zip_map'
end Go.Proofs.YtgdegfijcijnoaaGreat
/-
  DERIVED: THE SHELF's CONTRACTS AT THIS DUMP,IN PLAIN WORDS (tools/lay-plain.mjs out of 'YtgdegfijcijnoaaGreatSrt0.lean',which tools/lay-shelf.mjs wrote): THE SAME DECLARATIONS UNDER THE SAME NAMES: 'import','namespace','open','def','theorem' AND NOTHING ELSE: no command of the shelf's: FOR A HAND-IN. Each laying: the table of numbers ('.._ren') and one theorem,a field a fact of the dump's own or the kernel's comparison;each contract: ONE APPLICATION.
-/
namespace Go.Proofs
open Go.Shelf
def YtgdegfijcijnoaaGreat.lays189_ren:Go.Shelf.Ren:=⟨fun | 189=>147 | 125=>212 | 257=>211 | 128=>261 | 129=>262 | 294=>252 | 295=>253 | 296=>254 | 297=>255 | 298=>256 | 299=>257 | 216=>258 | 300=>259 | 301=>260 | 328=>280 | 329=>281 | 330=>282 | 331=>283 | 332=>284 | 215=>285 | 343=>299 | n=>n,fun | 28=>28 | 3=>3 | 46=>177 | 0=>0 | 51=>224 | 53=>76 | 4=>4 | 183=>231 | 182=>230 | 131=>48 | 5=>5 | 9=>9 | 218=>250 | 222=>254 | 228=>260 | 229=>261 | n=>n,fun | n=>n⟩
theorem YtgdegfijcijnoaaGreat.lays189:Go.Proofs.Lays.n189 Tryz.prog YtgdegfijcijnoaaGreat.lays189_ren:={
 mixed:=by kernel_rfl
 f125:=Tryz.func212.trans (congrArg some (by kernel_rfl))
 f128:=Tryz.func261.trans (congrArg some (by kernel_rfl))
 f129:=Tryz.func262.trans (congrArg some (by kernel_rfl))
 f189:=Tryz.func147.trans (congrArg some (by kernel_rfl))
 f215:=Tryz.func285.trans (congrArg some (by kernel_rfl))
 f216:=Tryz.func258.trans (congrArg some (by kernel_rfl))
 f257:=Tryz.func211.trans (congrArg some (by kernel_rfl))
 f294:=Tryz.func252.trans (congrArg some (by kernel_rfl))
 f295:=Tryz.func253.trans (congrArg some (by kernel_rfl))
 f296:=Tryz.func254.trans (congrArg some (by kernel_rfl))
 f297:=Tryz.func255.trans (congrArg some (by kernel_rfl))
 f298:=Tryz.func256.trans (congrArg some (by kernel_rfl))
 f299:=Tryz.func257.trans (congrArg some (by kernel_rfl))
 f300:=Tryz.func259.trans (congrArg some (by kernel_rfl))
 f301:=Tryz.func260.trans (congrArg some (by kernel_rfl))
 f328:=Tryz.func280.trans (congrArg some (by kernel_rfl))
 f329:=Tryz.func281.trans (congrArg some (by kernel_rfl))
 f330:=Tryz.func282.trans (congrArg some (by kernel_rfl))
 f331:=Tryz.func283.trans (congrArg some (by kernel_rfl))
 f332:=Tryz.func284.trans (congrArg some (by kernel_rfl))
 f343:=Tryz.func299.trans (congrArg some (by kernel_rfl))
 t0:=Tryz.underlying0
 a0:=Tryz.isAgg0
 z0:=Tryz.sizeOf0
 v0:=Tryz.zeroValue0
 t3:=Tryz.underlying3
 a3:=Tryz.isAgg3
 z3:=Tryz.sizeOf3
 v3:=Tryz.zeroValue3
 t4:=Tryz.underlying4
 a4:=Tryz.isAgg4
 z4:=Tryz.sizeOf4
 v4:=Tryz.zeroValue4
 t5:=Tryz.underlying5
 a5:=Tryz.isAgg5
 z5:=Tryz.sizeOf5
 v5:=Tryz.zeroValue5
 t9:=Tryz.underlying9
 a9:=Tryz.isAgg9
 z9:=Tryz.sizeOf9
 v9:=Tryz.zeroValue9
 t28:=Tryz.underlying28
 a28:=Tryz.isAgg28
 z28:=Tryz.sizeOf28
 v28:=Tryz.zeroValue28
 t46:=Tryz.underlying177
 a46:=Tryz.isAgg177
 z46:=Tryz.sizeOf177
 v46:=Tryz.zeroValue177
 t51:=Tryz.underlying224
 a51:=Tryz.isAgg224
 z51:=Tryz.sizeOf224
 v51:=Tryz.zeroValue224
 t53:=Tryz.underlying76
 a53:=Tryz.isAgg76
 z53:=Tryz.sizeOf76
 v53:=Tryz.zeroValue76
 t131:=Tryz.underlying48
 a131:=Tryz.isAgg48
 z131:=Tryz.sizeOf48
 v131:=Tryz.zeroValue48
 t182:=Tryz.underlying230
 a182:=Tryz.isAgg230
 z182:=Tryz.sizeOf230
 v182:=Tryz.zeroValue230
 t183:=Tryz.underlying231
 a183:=Tryz.isAgg231
 z183:=Tryz.sizeOf231
 v183:=Tryz.zeroValue231
 t218:=Tryz.underlying250
 a218:=Tryz.isAgg250
 z218:=Tryz.sizeOf250
 v218:=Tryz.zeroValue250
 t222:=Tryz.underlying254
 a222:=Tryz.isAgg254
 z222:=Tryz.sizeOf254
 v222:=Tryz.zeroValue254
 t228:=Tryz.underlying260
 a228:=Tryz.isAgg260
 z228:=Tryz.sizeOf260
 v228:=Tryz.zeroValue260
 t229:=Tryz.underlying261
 a229:=Tryz.isAgg261
 z229:=Tryz.sizeOf261
 v229:=Tryz.zeroValue261 }
def YtgdegfijcijnoaaGreat.lays20_ren:Go.Shelf.Ren:=⟨fun | 20=>148 | n=>n,fun | 22=>28 | 3=>3 | 4=>4 | 0=>0 | n=>n,fun | n=>n⟩
theorem YtgdegfijcijnoaaGreat.lays20:Go.Proofs.Lays2.n20 Tryz.prog YtgdegfijcijnoaaGreat.lays20_ren:={
 mixed:=by kernel_rfl
 f20:=Tryz.func148.trans (congrArg some (by kernel_rfl))
 t0:=Tryz.underlying0
 a0:=Tryz.isAgg0
 z0:=Tryz.sizeOf0
 v0:=Tryz.zeroValue0
 t3:=Tryz.underlying3
 a3:=Tryz.isAgg3
 z3:=Tryz.sizeOf3
 v3:=Tryz.zeroValue3
 t4:=Tryz.underlying4
 a4:=Tryz.isAgg4
 z4:=Tryz.sizeOf4
 v4:=Tryz.zeroValue4
 t22:=Tryz.underlying28
 a22:=Tryz.isAgg28
 z22:=Tryz.sizeOf28
 v22:=Tryz.zeroValue28
 i3:=by kernel_rfl }
end Go.Proofs
/- The library's sort and its compacting,at rows of integers of one's own: the shelf's contracts,at this program. -/
namespace Go.Proofs.YtgdegfijcijnoaaGreat
open Go.Dp Go.Sort Go.RowKit
theorem x0d (cur:Array Value) (bo:Nat) (ts:List Int) (h:ts = [] ∨ bo + ts.length<=cur.size):(putCells (Value.int .i64) bo ts.toArray cur).toList = cur.toList.take bo ++ (ts.map (Value.int .i64) ++ cur.toList.drop (bo + ts.length)):=by
 rcases h with rfl | h
 ·rw [show (putCells (Value.int .i64) bo ([]:List Int).toArray cur) = cur from by
   apply Array.ext_getElem?
   intro j
   by_cases hj:j < cur.size <;> simp [putCells,hj] <;> omega]
  simp
 apply List.ext_getElem?
 intro j
 rw [Array.getElem?_toList]
 by_cases hj:j < bo
 ·rw [List.getElem?_append_left (by (simp;try omega)),List.getElem?_take_of_lt hj]
  simp [putCells,show ¬ (bo<=j) by omega,show j < cur.size by omega]
 ·have hlt:cur.toList.length = cur.size:=Array.length_toList
  rw [List.getElem?_append_right (by rw [List.length_take];omega),List.length_take,hlt,Nat.min_eq_left (by omega)]
  by_cases hj2:j < bo + ts.length
  ·rw [List.getElem?_append_left (by (simp;try omega))]
   simp [putCells,hj2,show bo<=j by omega,show j < cur.size by omega,show j - bo < ts.length by omega]
  ·rw [List.getElem?_append_right (by (simp;try omega)),List.length_map,List.getElem?_drop]
   have ej:bo + ts.length + (j - bo - ts.length) = j:=by omega
   rw [ej]
   by_cases hc:j < cur.size
   ·simp [putCells,hj2,hc]
   ·rw [Array.getElem?_eq_none (by (simp [putCells];try omega)),List.getElem?_eq_none (by (simp;try omega))]
theorem y67 {w:World} {g bo:Nat} {cur:Array Value} {e:TypeId} {ss:List Int} (hb:w.heap[g]? = some (.cells cur e (0,0))) (ht:(cur.toList.drop bo).take ss.length = ss.map (Value.int .i64)):Holds (Value.int .i64) w g bo ss.toArray:=by
 intro j hj
 have hj':j < ss.length:=by simpa using hj
 refine ⟨?_,by simp [World.frozen?,hb]⟩
 have h1:((cur.toList.drop bo).take ss.length)[j]? = (ss.map (Value.int .i64))[j]?:=by rw [ht]
 rw [List.getElem?_take_of_lt hj',List.getElem?_drop] at h1
 simp only [World.cell?,hb]
 simp only [Option.isSome_none,Bool.false_eq_true,if_false]
 rw [<- Array.getElem?_toList,h1]
 simp [hj']
theorem x5t {w:World} {b bo n:Nat} {os:Array Obj} {cu:Array Value} {e:TypeId} {d:List Int} (hb:w.heap[b]? = some (.cells cu e (0,0))) (hd:d = [] ∨ bo + d.length<=cu.size) :
  Wd w (grow (putRow (Value.int .i64) (Sort.ahead w n) b bo d.toArray) os) /\ (∀ k,k < w.heap.size->k ≠ b->(grow (putRow (Value.int .i64) (Sort.ahead w n) b bo d.toArray) os).heap[k]? = w.heap[k]?) /\
   ∃ cu',(grow (putRow (Value.int .i64) (Sort.ahead w n) b bo d.toArray) os).heap[b]? = some (.cells cu' e (0,0)) /\ cu'.size = cu.size /\ cu'.toList = cu.toList.take bo ++ (d.map (Value.int .i64) ++ cu.toList.drop (bo + d.length)):=by
 have hg:b < w.heap.size:=(Array.getElem?_eq_some_iff.1 hb).1
 refine ⟨⟨rfl,rfl,rfl,by simp⟩,fun k hk hne=>?_,putCells (Value.int .i64) bo d.toArray cu,?_,by simp [putCells],x0d cu bo d hd⟩
 ·rw [heap_grow_old _ _ (by simpa using hk)]
  simp [putRow,mapBlock,Sort.ahead,Array.getElem?_modify,Ne.symm hne]
 ·rw [heap_grow_old _ _ (by simpa using hg)]
  simp [putRow,mapBlock,Sort.ahead,Array.getElem?_modify,hb,onCells]
theorem x1a {cu:Array Value} {bo:Nat} {zs:List Int} (h:(cu.toList.drop bo).take zs.length = zs.map (Value.int .i64)):zs = [] ∨ bo + zs.length<=cu.size:=by
 cases hz:zs with
 | nil=>exact .inl rfl
 | cons z t =>
  right
  have:=congrArg List.length h
  simp [hz] at this
  simp
  omega
theorem w0w:SortOK Tryz.prog 1 147 where
 enters:=⟨Tryz.f147,Tryz.func147,by kernel_rfl,by decide⟩
 empty w p cap:=Any.slices_Sort_int_none YtgdegfijcijnoaaGreat.lays189 p cap w
 row w b bo cap zs cu e hb ht hc hl:=by
  have hH:Holds (Value.int .i64) w b bo zs.toArray:=y67 hb ht
  have hlt:=(Array.getElem?_eq_some_iff.1 hb).1
  refine Calls.mono (Any.slices_Sort_int YtgdegfijcijnoaaGreat.lays189 b bo cap zs w hH hlt (by unfold LIM at hl;omega)) ?_
  rintro e' w' ⟨rfl,n,os,rfl⟩
  have hsz:=x1a ht
  have hl2:(zs.mergeSort fun x y=>decide (x<=y)).length = zs.length:=List.length_mergeSort zs
  have:=x5t (n:=n) (os:=os) (d:=zs.mergeSort fun x y=>decide (x<=y)) hb (hsz.imp (fun h=>List.eq_nil_of_length_eq_zero (by rw [hl2,h];rfl)) (fun h=>by rw [hl2];exact h))
  rw [hl2] at this
  exact ⟨rfl,this⟩
theorem x9j:SortOK Tryz.prog 2 148 where
 enters:=⟨Tryz.f148,Tryz.func148,by kernel_rfl,by decide⟩
 empty w p cap:=Any.slices_Compact_int_empty YtgdegfijcijnoaaGreat.lays20 p cap w
 row w b bo cap zs cu e hb ht hc hl:=by
  have hH:Holds (Value.int .i64) w b bo zs.toArray:=y67 hb ht
  refine Calls.mono (Any.slices_Compact_int YtgdegfijcijnoaaGreat.lays20 b bo cap zs w hH (by unfold LIM at hl;omega) hc) ?_
  rintro e' w' ⟨rfl,n,rfl⟩
  have hsz:=x1a ht
  have hcl:=z1g zs
  have hl2:(Lib.compact zs ++ List.replicate (zs.length - (Lib.compact zs).length) 0).length = zs.length:=by
   have:(Lib.compact zs).length<=zs.length:=hcl
   simp
   omega
  have:=x5t (n:=n) (os:=#[]) (d:=Lib.compact zs ++ List.replicate (zs.length - (Lib.compact zs).length) 0) hb (hsz.imp (fun h=>List.eq_nil_of_length_eq_zero (by rw [hl2,h];rfl)) (fun h=>by rw [hl2];exact h))
  rw [hl2,grow_empty] at this
  exact ⟨rfl,this⟩
end Go.Proofs.YtgdegfijcijnoaaGreat
/- What the evaluator is told of the program's types,loops and functions: printed by nf.py. -/
namespace Go.Proofs.YtgdegfijcijnoaaGreat
open Go.Dp
def tabs:Tabs where
 sl:=[(22,(5,0,1)),(24,(133,2,16)),(25,(136,2,48)),(28,(3,0,8)),(40,(24,0,24)),(92,(76,0,8)),
 (106,(28,0,24)),(134,(138,2,32)),(163,(164,2,16)),(169,(4,0,1))]
 sh:=[(2,0),(3,0),(4,0),(5,0),(9,0),(22,0),(24,0),(25,0),(27,4),(28,0),(30,1),(40,0),(75,0),(76,0),(78,3),(88,0),(92,0),(106,0),(120,0),(133,2),
 (134,0),(136,2),(138,2),(163,0),(164,2),(168,0),(169,0),(177,0),(215,0)]
 fl:=[(27,[some (0,0),some (1,0),some (2,0),some (3,0)]),(30,[some (0,0)]),(78,[some (0,0),some (1,0),some (2,0)]),(133,[some (0,0),some (1,0)]),(136,[some (0,0),some (1,0)]),(138,[some (0,0),some (1,0)])]
 ik:=[(2,.i64),(3,.i64),(5,.u8),(76,.u64),(177,.u64)]
 zr:=[(2,[.int .i64 0]),(3,[.int .i64 0]),(4,[.bool false]),(5,[.int .u8 0]),(9,[.str ⟨#[]⟩]),(22,[.row 0 2 []]),
 (24,[.row 0 2 []]),(25,[.row 0 2 []]),(27,[.int .i64 0,.int .i64 0,.row 0 2 [],.row 0 2 []]),(28,[.row 0 2 []]),(30,[.row 0 2 []]),(40,[.row 0 2 []]),
 (76,[.int .u64 0]),(78,[.row 0 2 [],.int .i64 0,.int .u64 0]),(92,[.row 0 2 []]),(106,[.row 0 2 []]),(133,[.int .i64 0,.int .u64 0]),(134,[.row 0 2 []]),
 (136,[.row 0 2 [],.row 0 2 []]),(138,[.int .i64 0,.row 0 2 []]),(163,[.row 0 2 []]),(164,[.int .i64 0,.int .i64 0]),(169,[.row 0 2 []]),(177,[.int .u64 0])]
 eqs:=[(133,[0,0])]
 bl:=[(4,())]
 st:=[(9,())]
 flat:=[(2,()),(3,()),(4,()),(5,()),(9,()),(76,()),(133,()),(164,()),(177,())]
 ar:=[(164,2)]
def w54:List (Nat × List (Nat × List Nat)):=[(15,[(0,[0,1,12,13])]),(17,[(0,[2,3,6,7,8,9,10])]),(55,[(0,[0,4,5,9,10])]),
 (68,[(0,[1,2,5,6,14,15,16])]),(70,[(0,[1,2,5,9,10])]),(72,[(0,[0,4,7,8])]),
 (76,[(0,[2,10,11,12])]),(79,[(0,[2,4,5,13,14,15])]),(80,[(0,[1,4,5,9,10,11])]),
 (82,[(0,[0,1,12,13])]),(83,[(0,[3,4,5,10,11,12])]),(86,[(0,[3,4,7,8,9,24,25,26]),(2,[3,4,7,8,11,12,24,25,26,36,37,38]),(4,[3,4,7,8,11,12,24,25,26,36,37,38,45,46,47])]),
 (88,[(0,[5,6,7])]),(89,[(0,[3,4,7,8,18,19,20]),(2,[3,4,7,10,11,18,19,20,24,25,26])]),(99,[(0,[2,4,5,12,13,14])]),
 (109,[(0,[1,3,7,8])]),(110,[(0,[1,2,5,9,10])]),(118,[(0,[0,2,3,4])]),
 (121,[(0,[0,1,7,8])]),(123,[(0,[1,7,8,9])]),(124,[(0,[1,2,5,6])]),
 (125,[(0,[2,5,10,11,12]),(2,[2,5,10,11,12,18,19,20])]),(127,[(0,[1,7,8,9])]),(129,[(0,[5,20,21,22])]),
 (132,[(0,[1,18,19,20])]),(143,[(0,[0,1,7,8])]),(145,[(0,[2,5,8,9,10])]),
 (146,[(0,[2,3,7,13,14,15])]),(149,[(0,[0,2,7,12,13,14])]),(157,[(0,[1,2,5,6,17,18,19]),(2,[2,5,6,28,29,30]),(4,[2,5,6,10,28,29,30,36,37])]),
 (160,[(0,[1,2,5,14,15,16]),(2,[2,5,25,26,27]),(4,[2,5,9,25,26,27,33,34])]),(161,[(0,[2,3,4,11,12,13])]),(162,[(0,[3,4,5,9,14,15,16])]),
 (163,[(0,[1,7,8,9])]),(164,[(0,[0,2,3,4,9,10,11]),(2,[0,2,3,4,5,6,7,8,9,10,11])]),(165,[(0,[1,2,5,9,10,11])]),
 (166,[(0,[2,3,4,11,12,13])]),(167,[(0,[0,3,4])]),(168,[(0,[0,1,7,8])]),
 (170,[(0,[3,7,8,9])]),(171,[(0,[0,1,5,6])]),(173,[(0,[1,5,10,11,12])]),
 (181,[(0,[2,5,8,9,10])]),(184,[(0,[1,2,5,6,14,15,16])]),(190,[(0,[0,1,2,6,7,8])]),
 (192,[(0,[0,1,5])]),(193,[(0,[0,1,2,9,10,11])]),(195,[(0,[1,2,5,6])]),
 (196,[(0,[0,1,7,27,28,29]),(2,[0,1,7,10,11,12,27,28,29])]),(198,[(0,[2,3,21,22,23])]),(207,[(0,[1,2,9,10,11])]),
 (208,[(0,[3,7,8,9])]),(215,[(0,[0,1,7,8])]),(218,[(0,[0,1,12,13])]),
 (220,[(0,[1,2,3,8,14,15]),(2,[2,3,8,31,32,33])]),(223,[(0,[1,2,4,6,25,26]),(2,[1,2,4,6,7,8,25,26,32,33,34])]),(224,[(0,[0,1,7,8,9])]),
 (225,[(0,[1,2,3,8,9]),(2,[2,3,8,30,31,32])]),(227,[(0,[1,5,9,10,11])]),(231,[(0,[1,2,5,9,10,11])]),
 (232,[(0,[1,2,5,6])]),(233,[(0,[1,3,7,18,19,20])]),(238,[(0,[2,3,13,14,15])]),
 (239,[(0,[0,1,7,33,34,35])]),(242,[(0,[0,1,2,6,7,8])]),(267,[(0,[0,1,5,6])]),
 (268,[(0,[3,4,5,10,30,31,32])]),(269,[(0,[0,3,9,10,11]),(2,[6,25,26,27])]),(271,[(0,[0,1,12,13])]),
 (272,[(0,[0,1,2,3,26,27,28]),(2,[0,1,3,12,38,39,40])]),(273,[(0,[0,1,7,8])]),(278,[(0,[0,5,8])]),
 (287,[(0,[2,8,9,10,11,13,14,15,16]),(2,[2,8,9,10,14,15,16,17,18])]),(296,[(0,[0,1,2,3])])]
def tRk:List (Nat × List RK):=[(4,[.c (.p (.bool))]),(9,[.c (.p (.bool))]),(15,[.c (.p (.bool))]),(17,[.agg [.p (.int .i64),.p (.int .i64),.p (.row 2),.p (.row 2)],.agg [.p (.row 0)],.c (.p (.row 0)),.c (.p (.row 0))]),(18,[.agg [.p (.row 0)],.c (.p (.int .i64)),.c (.p (.bool))]),(19,[.agg [.p (.row 0)],.c (.p (.int .i64)),.c (.p (.bool))]),
 (20,[.agg [.p (.row 0)],.c (.p (.bool))]),(21,[.agg [.p (.row 0)],.c (.p (.bool))]),(22,[.c (.p (.bool)),.c (.p (.bool))]),(23,[.c (.p (.int .i64)),.c (.p (.bool))]),(24,[.c (.p (.int .i64)),.c (.p (.bool))]),(25,[.c (.p (.int .i64)),.c (.p (.bool))]),
 (26,[.c (.p (.row 0)),.c (.p (.bool))]),(54,[.agg [.p (.int .i64),.p (.int .i64),.p (.row 2),.p (.row 2)],.agg [.p (.row 0)]]),(55,[.c (.p (.row 0))]),(56,[.c (.p (.int .i64))]),(64,[.c (.p (.bool))]),(68,[.c (.p (.row 0))]),
 (69,[.c (.p (.bool))]),(70,[.c (.p (.row 0))]),(71,[.c (.p (.row 0)),.c (.p (.bool))]),(72,[.c (.p (.row 0))]),(73,[.c (.p (.bool))]),(74,[.c (.p (.bool))]),
 (75,[.agg [.p (.row 0)],.c (.p (.int .i64)),.c (.p (.bool))]),(76,[.c (.p (.bool))]),(77,[.agg [.p (.row 0)],.c (.p (.int .i64))]),(78,[.c (.p (.row 0)),.c (.p (.bool))]),(79,[.agg [.p (.row 0)]]),(80,[.agg [.own 3 0]]),
 (81,[.c (.p (.bool))]),(82,[.c (.p (.bool))]),(83,[.agg [.p (.row 0)]]),(84,[.c (.p (.int .i64))]),(85,[.c (.p (.int .i64))]),(86,[.c (.own ⟨28,some ⟨0,3,0,0,none⟩⟩ 0)]),
 (87,[.c (.p (.bool))]),(88,[.c (.p (.int .i64))]),(89,[.c (.p (.row 0))]),(90,[.c (.p (.bool))]),(91,[.c (.p (.row 0))]),(98,[.agg [.own 3 0]]),
 (99,[.agg [.own 3 0]]),(102,[.c (.p (.bool))]),(103,[.c (.p (.int .i64))]),(104,[.c (.p (.bool))]),(105,[.c (.p (.int .i64))]),(107,[.c (.p (.bool))]),
 (109,[.c (.p (.row 0))]),(110,[.c (.own 3 0)]),(118,[.agg [.p (.int .i64),.p (.int .i64),.p (.row 2),.own ⟨136,some ⟨1,138,2,0,none⟩⟩ 2]]),(120,[.c (.p (.bool))]),(121,[.c (.p (.row 0))]),(123,[.c (.p (.bool))]),
 (124,[.c (.p (.row 0))]),(125,[.c (.p (.row 0))]),(126,[.c (.p (.bool))]),(127,[.c (.p (.bool))]),(129,[.c (.p (.bool))]),(132,[.c (.p (.bool))]),
 (133,[.agg [.p (.row 0)]]),(134,[.c (.p (.row 0)),.c (.p (.bool))]),(135,[.c (.p (.row 0)),.c (.p (.bool))]),(136,[.c (.p (.int .i64))]),(139,[.c (.own 3 0)]),(140,[.c (.p (.bool))]),
 (141,[.c (.p (.bool))]),(143,[.c (.p (.int .i64))]),(145,[.c (.p (.int .i64))]),(146,[.c (.p (.row 0))]),(149,[.c (.p (.int .u64))]),(150,[.c (.p (.int .u64))]),
 (151,[.c (.own 133 2)]),(152,[.c (.p (.int .i64))]),(153,[.c (.p (.bool))]),(154,[.c (.p (.bool))]),(155,[.c (.p (.bool))]),(156,[.c (.p (.row 0)),.c (.p (.bool))]),
 (157,[.c (.p (.row 0))]),(158,[.c (.p (.int .i64))]),(159,[.agg [.p (.row 0)],.c (.p (.bool))]),(160,[.c (.p (.row 0))]),(161,[.c (.p (.int .i64))]),(162,[.c (.p (.row 0))]),
 (163,[.c (.p (.bool))]),(164,[.agg [.own 3 0]]),(165,[.c (.p (.bool))]),(166,[.agg [.own 3 0]]),(167,[.c (.p (.int .i64))]),(168,[.c (.p (.int .i64))]),
 (169,[.c (.p (.bool))]),(170,[.c (.own 3 0)]),(171,[.c (.own 3 0)]),(172,[.c (.p (.bool))]),(173,[.c (.own 3 0)]),(174,[.c (.p (.bool))]),
 (175,[.c (.p (.bool))]),(177,[.c (.p (.int .i64))]),(181,[.c (.p (.row 0))]),(184,[.c (.p (.row 0))]),(185,[.c (.p (.bool))]),(187,[.c (.p (.bool))]),
 (190,[.agg [.p (.int .i64),.p (.int .i64),.p (.row 2),.own ⟨136,some ⟨1,138,2,0,none⟩⟩ 2]]),(192,[.c (.own 3 0)]),(193,[.c (.p (.bool))]),(194,[.c (.p (.bool))]),(195,[.c (.p (.row 0))]),(196,[.c (.p (.int .i64))]),
 (198,[.c (.p (.bool))]),(199,[.agg [.own 3 0],.c (.p (.bool))]),(200,[.agg [.own 3 0],.c (.p (.bool))]),(201,[.c (.p (.bool))]),(202,[.c (.p (.row 0))]),(207,[.c (.p (.bool))]),
 (208,[.c (.p (.int .i64))]),(210,[.c (.own 76 0)]),(213,[.c (.p (.int .u64))]),(214,[.c (.own 133 2)]),(215,[.c (.p (.int .i64))]),(217,[.c (.p (.bool))]),
 (218,[.c (.p (.bool))]),(219,[.c (.own 133 2)]),(220,[.c (.p (.row 2)),.c (.p (.bool))]),(221,[.c (.p (.bool))]),(222,[.c (.p (.bool))]),(223,[.agg [.p (.row 0)],.c (.p (.bool))]),
 (224,[.c (.own 24 0)]),(225,[.c (.p (.row 2)),.c (.p (.bool))]),(226,[.c (.p (.bool))]),(227,[.c (.p (.row 0))]),(231,[.c (.p (.row 0))]),(232,[.c (.p (.int .i64))]),
 (233,[.c (.p (.row 0))]),(234,[.c (.p (.bool))]),(235,[.c (.p (.bool))]),(236,[.c (.p (.bool))]),(237,[.c (.p (.bool))]),(238,[.c (.p (.bool))]),
 (239,[.c (.p (.bool))]),(240,[.c (.p (.int .i64))]),(242,[.agg [.p (.row 2),.own 138 2]]),(244,[.c (.p (.int .u64))]),(245,[.c (.p (.bool))]),(246,[.c (.p (.int .i64)),.c (.p (.int .i64)),.c (.p (.int .i64))]),
 (247,[.c (.p (.bool))]),(262,[.c (.p (.int .i64))]),(263,[.c (.p (.int .u64)),.c (.p (.int .u64)),.c (.p (.bool))]),(264,[.c (.p (.int .u64))]),(265,[.c (.p (.int .u64))]),(266,[.c (.p (.int .i64))]),
 (267,[.c (.p (.int .u64))]),(268,[.c (.p (.row 2)),.c (.p (.bool))]),(269,[.c (.own 133 2)]),(270,[.c (.p (.bool))]),(271,[.c (.p (.bool))]),(272,[.c (.p (.row 2)),.c (.p (.bool))]),
 (273,[.c (.p (.int .i64))]),(274,[.c (.p (.int .i64)),.c (.p (.int .i64)),.c (.p (.int .i64))]),(275,[.c (.p (.bool))]),(276,[.c (.p (.bool))]),(277,[.c (.p (.int .u64))]),(278,[.c (.p (.int .i64))]),
 (279,[.c (.p (.bool))]),(286,[.c (.p (.bool))]),(287,[.c (.p (.int .u64)),.c (.p (.int .u64))]),(288,[.c (.p (.bool))]),(289,[.c (.p (.row 2)),.c (.p (.bool))]),(290,[.c (.own 133 2)]),
 (291,[.c (.p (.bool))]),(292,[.c (.p (.bool))]),(293,[.c (.p (.row 2)),.c (.p (.bool))]),(294,[.c (.p (.bool))]),(295,[.c (.p (.int .u64)),.c (.p (.int .u64)),.c (.p (.bool))]),(296,[.c (.p (.int .u64))]),
 (297,[.c (.p (.int .u64))]),(298,[.c (.p (.int .i64))]),(300,[.c (.p (.int .i64))]),(301,[.c (.p (.bool))])]
def tBk:List (Nat × List (List Kind)):=[(54,[[.p (.row 0),.p (.int .i64),.p (.int .u64)]]),(55,[[.p (.row 0),.p (.int .i64),.p (.int .u64)]]),(56,[[.p (.row 0),.p (.int .i64),.p (.int .u64)]]),(72,[[.p (.row 0),.p (.int .i64),.p (.int .u64)]]),(118,[[.p (.row 0),.p (.int .i64),.p (.int .u64)]]),(120,[[.p (.row 0),.p (.int .i64),.p (.int .u64)]]),
 (121,[[.p (.row 0),.p (.int .i64),.p (.int .u64)]]),(133,[[.p (.row 0),.p (.int .i64),.p (.int .u64)]]),(136,[[.p (.row 0),.p (.int .i64),.p (.int .u64)]]),(151,[[.p (.row 0),.p (.int .i64),.p (.int .u64)]]),(177,[[.p (.row 0),.p (.int .i64),.p (.int .u64)]]),(190,[[.p (.row 0),.p (.int .i64),.p (.int .u64)]]),
 (214,[[.p (.row 0),.p (.int .i64),.p (.int .u64)]]),(216,[[.own 24 0]]),(237,[[.p (.int .i64),.p (.int .i64),.p (.row 2),.p (.row 2)]]),(242,[[.p (.row 0),.p (.int .i64),.p (.int .u64)]]),(276,[[.p (.int .i64)]]),(288,[[.p (.int .i64)],[.p (.int .i64)]]),
 (238236,[[.p (.int .i64),.p (.int .i64),.p (.row 2),.p (.row 2)]]),(238273,[[.p (.int .i64),.p (.int .i64),.p (.row 2),.p (.row 2)]]),(277064,[[.p (.int .i64)]]),(277143,[[.p (.int .i64)]]),(289154,[[.p (.int .i64)],[.p (.int .i64)]]),(289215,[[.p (.int .i64)],[.p (.int .i64)]])]
def w47:List (Nat × Unit):=[(4,()),(9,()),(15,()),(22,()),(23,()),(24,()),(25,()),(69,()),(73,()),(74,()),(76,()),(80,()),
 (81,()),(82,()),(84,()),(85,()),(87,()),(88,()),(90,()),(98,()),(99,()),(102,()),(103,()),(104,()),
 (105,()),(107,()),(110,()),(123,()),(126,()),(127,()),(129,()),(132,()),(139,()),(140,()),(141,()),(145,()),
 (149,()),(150,()),(152,()),(153,()),(155,()),(158,()),(161,()),(163,()),(164,()),(165,()),(166,()),(167,()),
 (169,()),(170,()),(172,()),(173,()),(174,()),(175,()),(185,()),(187,()),(192,()),(193,()),(194,()),(196,()),
 (198,()),(199,()),(200,()),(201,()),(207,()),(208,()),(210,()),(213,()),(217,()),(218,()),(219,()),(221,()),
 (222,()),(226,()),(232,()),(234,()),(235,()),(238,()),(239,()),(240,()),(244,()),(245,()),(246,()),(247,()),
 (262,()),(263,()),(264,()),(265,()),(266,()),(267,()),(269,()),(270,()),(271,()),(274,()),(275,()),(276,()),
 (277,()),(278,()),(279,()),(286,()),(287,()),(288,()),(290,()),(291,()),(292,()),(294,()),(295,()),(296,()),
 (297,()),(298,()),(300,()),(301,()),(154064,()),(176064,()),(277064,()),(277143,()),(289154,()),(289215,()),(292064,())]
def tCt:List (Nat × CT):=[(2,.one (.int .i64)),(3,.one (.int .i64)),(4,.one (.bool)),(5,.one (.int .u8)),(9,.one (.str)),(22,.one (.row 0)),
 (24,.one (.row 2)),(25,.one (.row 2)),(27,.agg [.int .i64,.int .i64,.row 2,.row 2]),(28,.one (.row 0)),(30,.agg [.row 0]),(40,.one (.row 0)),
 (76,.one (.int .u64)),(78,.agg [.row 0,.int .i64,.int .u64]),(92,.one (.row 0)),(106,.one (.row 0)),(133,.agg [.int .i64,.int .u64]),(134,.one (.row 2)),
 (136,.agg [.row 2,.row 2]),(138,.agg [.int .i64,.row 2]),(163,.one (.row 2)),(164,.agg [.int .i64,.int .i64]),(169,.one (.row 0)),(177,.one (.int .u64))]
def tAk:List (Nat × List CT):=[(4,[.one (.row 0),.one (.row 0)]),(9,[.one (.row 0),.one (.row 0)]),(15,[.one (.row 0),.one (.row 0)]),(17,[.one (.row 0)]),(18,[.agg [.int .i64,.int .i64,.row 2,.row 2],.agg [.row 0],.one (.row 0),.one (.row 0)]),(19,[.agg [.int .i64,.int .i64,.row 2,.row 2],.agg [.row 0],.one (.row 0),.one (.row 0)]),
 (20,[.agg [.int .i64,.int .i64,.row 2,.row 2],.agg [.row 0],.one (.row 0)]),(21,[.agg [.int .i64,.int .i64,.row 2,.row 2],.agg [.row 0],.one (.row 0)]),(22,[.agg [.int .i64,.int .i64,.row 2,.row 2],.agg [.row 0],.agg [.row 0]]),(23,[.agg [.int .i64,.int .i64,.row 2,.row 2],.agg [.row 0]]),(24,[.agg [.int .i64,.int .i64,.row 2,.row 2],.agg [.row 0],.one (.row 0)]),(25,[.agg [.int .i64,.int .i64,.row 2,.row 2],.agg [.row 0],.one (.row 0)]),
 (26,[.agg [.int .i64,.int .i64,.row 2,.row 2],.agg [.row 0],.one (.int .i64),.one (.int .i64)]),(54,[.one (.any)]),(55,[.one (.any),.agg [.int .i64,.int .i64,.row 2,.row 2],.agg [.row 0]]),(56,[.one (.any),.one (.int .i64)]),(64,[.one (.row 0),.one (.any)]),(68,[.agg [.int .i64,.int .i64,.row 2,.row 2],.one (.int .i64)]),
 (69,[.agg [.int .i64,.int .i64,.row 2,.row 2],.one (.row 2),.one (.row 0)]),(70,[.agg [.int .i64,.int .i64,.row 2,.row 2],.one (.int .i64)]),(71,[.agg [.int .i64,.int .i64,.row 2,.row 2],.agg [.row 0],.one (.row 0)]),(72,[.one (.any),.agg [.int .i64,.int .i64,.row 2,.row 2],.one (.int .i64)]),(73,[.agg [.int .i64,.int .i64,.row 2,.row 2],.agg [.row 0],.one (.row 0),.one (.int .i64)]),(74,[.agg [.int .i64,.int .i64,.row 2,.row 2],.one (.row 0),.one (.int .i64)]),
 (75,[.agg [.int .i64,.int .i64,.row 2,.row 2],.agg [.row 0],.one (.row 0),.one (.row 0)]),(76,[.agg [.int .i64,.int .i64,.row 2,.row 2],.one (.row 0)]),(77,[.agg [.int .i64,.int .i64,.row 2,.row 2],.agg [.row 0],.one (.row 0),.one (.row 0)]),(78,[.agg [.int .i64,.int .i64,.row 2,.row 2],.agg [.row 0],.one (.row 0)]),(79,[.agg [.row 0],.one (.row 0)]),(80,[.agg [.row 0],.one (.row 0)]),
 (81,[.agg [.int .i64,.int .i64,.row 2,.row 2],.agg [.row 0]]),(82,[.one (.row 0),.one (.row 0)]),(83,[.agg [.row 0],.agg [.row 0]]),(84,[.agg [.row 0]]),(85,[.one (.row 0)]),(86,[.agg [.int .i64,.int .i64,.row 2,.row 2],.agg [.row 0],.one (.row 0)]),
 (87,[.agg [.int .i64,.int .i64,.row 2,.row 2],.agg [.row 0],.one (.row 0)]),(88,[.one (.row 0)]),(89,[.agg [.int .i64,.int .i64,.row 2,.row 2],.agg [.row 0],.one (.row 0)]),(90,[.agg [.int .i64,.int .i64,.row 2,.row 2],.agg [.row 0],.one (.int .i64)]),(91,[.agg [.int .i64,.int .i64,.row 2,.row 2],.agg [.row 0],.one (.int .i64),.one (.int .i64)]),(98,[.agg [.int .i64,.int .i64,.row 2,.row 2],.agg [.row 0],.one (.row 2)]),
 (99,[.agg [.int .i64,.int .i64,.row 2,.row 2],.one (.row 0)]),(102,[.agg [.int .i64,.int .i64,.row 2,.row 2]]),(103,[.agg [.int .i64,.int .i64,.row 2,.row 2]]),(104,[.agg [.int .i64,.int .i64,.row 2,.row 2]]),(105,[.agg [.int .i64,.int .i64,.row 2,.row 2]]),(107,[.agg [.int .i64,.int .i64,.row 2,.row 2],.one (.row 2)]),
 (109,[.agg [.int .i64,.int .i64,.row 2,.row 2]]),(110,[.agg [.int .i64,.int .i64,.row 2,.row 2],.one (.row 2)]),(118,[.one (.any)]),(120,[.one (.any),.one (.int .i64)]),(121,[.one (.any),.one (.int .i64),.one (.int .i64)]),(123,[.one (.row 0),.one (.row 0)]),
 (124,[.agg [.int .i64,.int .i64,.row 2,.row 2],.one (.row 2)]),(125,[.agg [.int .i64,.int .i64,.row 2,.row 2],.one (.row 0)]),(126,[.agg [.int .i64,.int .i64,.row 2,.row 2],.one (.row 2)]),(127,[.one (.row 0),.one (.row 0)]),(129,[.agg [.int .i64,.int .i64,.row 2,.row 2],.agg [.row 0]]),(132,[.agg [.int .i64,.int .i64,.row 2,.row 2]]),
 (133,[.one (.any),.agg [.int .i64,.int .i64,.row 2,.row 2]]),(134,[.agg [.int .i64,.int .i64,.row 2,.row 2],.agg [.row 0]]),(135,[.agg [.int .i64,.int .i64,.row 2,.row 2],.agg [.row 0],.one (.int .i64)]),(136,[.one (.any)]),(139,[.one (.row 0)]),(140,[.one (.int .i64),.one (.int .i64),.one (.int .i64)]),
 (141,[.agg [.row 0],.one (.row 0)]),(143,[.one (.row 0),.one (.any)]),(145,[.agg [.int .i64,.int .i64,.row 2,.row 2],.one (.row 0)]),(146,[.agg [.int .i64,.int .i64,.row 2,.row 2],.agg [.row 2,.row 2],.one (.row 0)]),(149,[.one (.int .i64),.one (.row 2),.one (.row 0)]),(150,[.one (.int .i64)]),
 (151,[.one (.any),.one (.int .i64),.one (.int .i64),.one (.int .i64)]),(152,[.one (.int .i64)]),(153,[.one (.int .i64)]),(154,[.one (.row 0),.one (.any)]),(155,[.one (.row 2)]),(156,[.agg [.int .i64,.int .i64,.row 2,.row 2],.agg [.row 0],.one (.row 0)]),
 (157,[.agg [.int .i64,.int .i64,.row 2,.row 2],.one (.row 0)]),(158,[.agg [.int .i64,.int .i64,.row 2,.row 2],.one (.row 0),.one (.row 0),.one (.row 0)]),(159,[.agg [.int .i64,.int .i64,.row 2,.row 2],.agg [.row 0],.one (.row 2)]),(160,[.agg [.int .i64,.int .i64,.row 2,.row 2],.one (.row 0)]),(161,[.agg [.int .i64,.int .i64,.row 2,.row 2],.one (.row 0),.one (.row 0),.one (.row 0)]),(162,[.agg [.int .i64,.int .i64,.row 2,.row 2],.agg [.row 0],.one (.int .i64),.one (.int .i64)]),
 (163,[.one (.row 0),.one (.int .i64)]),(164,[.one (.row 0)]),(165,[.agg [.row 0],.one (.int .i64)]),(166,[.one (.row 2)]),(167,[.one (.row 0)]),(168,[.one (.row 0),.one (.any)]),
 (169,[.one (.row 0)]),(170,[.one (.row 0)]),(171,[.one (.row 0),.one (.any)]),(172,[.one (.int .i64)]),(173,[.agg [.row 0],.one (.int .i64)]),(174,[.one (.int .i64)]),
 (175,[.one (.int .i64)]),(177,[.one (.any),.one (.row 0)]),(181,[.agg [.row 0],.one (.row 0)]),(184,[.agg [.int .i64,.int .i64,.row 2,.row 2],.one (.int .i64)]),(185,[.agg [.int .i64,.int .i64,.row 2,.row 2]]),(187,[.one (.int .i64),.one (.int .i64),.one (.row 2),.one (.int .i64)]),
 (190,[.one (.any),.one (.int .i64),.one (.int .i64)]),(192,[.one (.row 0),.one (.int .i64)]),(193,[.one (.row 0),.one (.int .i64),.one (.int .i64)]),(194,[.agg [.int .i64,.int .i64,.row 2,.row 2],.one (.row 2),.one (.row 0)]),(195,[.agg [.int .i64,.int .i64,.row 2,.row 2],.one (.int .i64)]),(196,[.one (.int .i64),.one (.int .i64),.one (.row 2)]),
 (198,[.agg [.int .i64,.int .i64,.row 2,.row 2],.agg [.row 2,.row 2]]),(199,[.agg [.int .i64,.int .i64,.row 2,.row 2],.one (.row 0)]),(200,[.agg [.int .i64,.int .i64,.row 2,.row 2],.agg [.row 0],.one (.row 0)]),(201,[.agg [.int .i64,.int .i64,.row 2,.row 2],.agg [.row 0],.one (.int .i64)]),(202,[.agg [.int .i64,.int .i64,.row 2,.row 2],.agg [.row 0],.one (.int .i64)]),(207,[.one (.row 0),.one (.int .i64),.one (.int .i64)]),
 (208,[.agg [.row 0]]),(210,[.one (.row 0)]),(213,[.one (.int .i64),.one (.int .i64),.one (.int .u64),.one (.int .u64)]),(214,[.one (.any),.one (.int .i64),.one (.int .i64),.one (.int .i64)]),(215,[.one (.row 0),.one (.any)]),(216,[.one (.row 2)]),
 (217,[.one (.row 2)]),(218,[.one (.row 2),.one (.row 2)]),(219,[.one (.row 2)]),(220,[.agg [.int .i64,.int .i64,.row 2,.row 2],.one (.int .i64),.one (.row 2)]),(221,[.one (.row 2)]),(222,[.agg [.int .i64,.int .i64,.row 2,.row 2],.one (.row 2),.one (.row 0),.one (.row 0)]),
 (223,[.agg [.int .i64,.int .i64,.row 2,.row 2],.one (.row 0)]),(224,[.one (.row 0),.one (.row 2)]),(225,[.agg [.int .i64,.int .i64,.row 2,.row 2],.one (.int .i64),.one (.row 2)]),(226,[.agg [.int .i64,.int .i64,.row 2,.row 2],.one (.row 2),.one (.row 0),.one (.row 0)]),(227,[.agg [.row 0],.one (.int .i64)]),(231,[.agg [.int .i64,.int .i64,.row 2,.row 2],.one (.row 0)]),
 (232,[.agg [.int .i64,.int .i64,.row 2,.row 2],.one (.row 0)]),(233,[.agg [.int .i64,.int .i64,.row 2,.row 2],.one (.row 0),.one (.int .i64)]),(234,[.one (.int .i64)]),(235,[.one (.int .i64)]),(236,[.one (.row 2),.one (.any)]),(237,[.agg [.row 2,.row 2]]),
 (238,[.agg [.int .i64,.int .i64,.row 2,.row 2],.agg [.row 2,.row 2]]),(239,[.one (.int .i64),.one (.int .i64),.one (.row 2)]),(240,[.one (.row 2)]),(242,[.one (.any),.one (.int .i64),.one (.int .i64)]),(244,[.one (.int .i64),.one (.row 2),.one (.int .i64),.one (.row 0)]),(245,[.one (.int .i64)]),
 (246,[.one (.int .i64)]),(247,[.one (.int .i64),.one (.int .i64),.agg [.int .i64,.int .u64]]),(262,[.one (.int .u64)]),(263,[.one (.int .i64),.one (.int .u64),.one (.int .u64)]),(264,[.one (.int .i64),.one (.int .u64),.one (.int .u64),.one (.bool)]),(265,[.one (.bool)]),
 (266,[.one (.int .i64),.one (.int .u64)]),(267,[.one (.int .i64),.one (.int .u64)]),(268,[.one (.int .i64),.one (.int .i64),.one (.row 2),.one (.row 0)]),(269,[.one (.row 0)]),(270,[.agg [.int .i64,.int .i64,.row 2,.row 2],.one (.row 2),.one (.row 0)]),(271,[.one (.row 2),.one (.row 2)]),
 (272,[.one (.int .i64),.one (.int .i64),.one (.row 2),.one (.row 0)]),(273,[.one (.row 2),.one (.any)]),(274,[.one (.int .i64)]),(275,[.one (.int .i64),.one (.int .i64),.agg [.int .i64,.int .u64]]),(276,[.one (.int .i64)]),(277,[.one (.int .i64),.one (.int .i64),.one (.int .u64),.one (.int .u64)]),
 (278,[.one (.row 2),.one (.int .i64)]),(279,[.one (.int .i64),.one (.int .u64)]),(286,[.one (.int .i64),.one (.int .u64),.one (.int .u64)]),(287,[.one (.int .u64),.one (.int .u64),.one (.int .u64)]),(288,[.one (.row 2)]),(289,[.one (.int .i64),.one (.int .i64),.one (.row 2)]),
 (290,[.one (.any),.one (.int .i64)]),(291,[.one (.int .i64)]),(292,[.one (.int .i64),.one (.int .i64),.one (.row 2)]),(293,[.one (.int .i64),.one (.int .i64),.one (.row 2)]),(294,[.one (.int .i64),.one (.int .u64)]),(295,[.one (.int .i64),.one (.int .u64),.one (.int .u64)]),
 (296,[.one (.int .i64),.one (.int .u64),.one (.int .u64),.one (.bool)]),(297,[.one (.bool)]),(298,[.one (.int .i64),.one (.int .u64)]),(300,[.one (.int .u64)]),(301,[.one (.int .i64),.one (.int .u64),.one (.int .u64)])]
def tOwn:List (Nat × List (Nat × List (Option Nat × Nat × Et × Nat))):=[(17,[(0,[(some 0,2,0,2),(some 0,3,0,2),(some 1,0,0,0)])]),(72,[(0,[(none,7,24,0)])]),(79,[(0,[(some 1,0,0,0)])]),
 (80,[(0,[(none,5,3,0),(some 0,0,0,0)])]),(83,[(0,[(some 1,0,0,0)])]),(86,[(0,[(none,7,⟨28,some ⟨0,3,0,0,none⟩⟩,0)])]),
 (89,[(0,[(none,7,28,0)]),(2,[(none,11,3,0)])]),(99,[(0,[(some 1,0,0,0)])]),(118,[(0,[(some 1,2,0,2),(some 1,3,0,2)])]),
 (121,[(0,[(none,7,3,0)])]),(124,[(0,[(none,5,3,0)])]),(125,[(0,[(none,5,3,0)])]),
 (156,[(1000002,[(none,8,⟨0,some ⟨0,0,0,0,none⟩⟩,0)])]),(160,[(0,[(none,5,24,0)])]),(162,[(0,[(none,9,3,0)])]),
 (164,[(0,[(some 0,0,3,0),(some 1,0,3,0)])]),(181,[(0,[(none,5,3,0)])]),(184,[(0,[(none,6,3,0)])]),
 (190,[(0,[(some 1,2,0,2),(some 1,3,0,2),(some 2,3,⟨136,some ⟨1,138,2,0,none⟩⟩,2)])]),(195,[(0,[(none,5,76,0)])]),(196,[(0,[(none,7,3,0)])]),
 (223,[(0,[(some 1,0,0,0)])]),(225,[(0,[(none,8,24,0)])]),(227,[(0,[(none,5,3,0)])]),
 (231,[(0,[(none,5,3,0)])]),(242,[(0,[(some 1,0,0,2),(some 1,1,0,2),(some 2,1,138,2)])]),(272,[(2,[(none,12,133,2)])])]
def tCut:List (Nat × List (Nat × List Nat)):=[(156,[(2,[8])])]
def w6l:List (Nat × Kd):=[(25,⟨1,138,2,0,none⟩),(106,⟨0,3,0,0,none⟩)]
def y6k:List (Nat × Nat):=[(147,1),(148,2)]
theorem w2e:∀ g n,(g,n) ∈ y6k->SortOK Tryz.prog n g:=by
 intro g n h
 simp only [y6k,List.mem_cons,Prod.mk.injEq,List.not_mem_nil,or_false] at h
 rcases h with ⟨rfl,rfl⟩ | ⟨rfl,rfl⟩
 · exact w0w
 · exact x9j
def tAo:List (Nat × List (Option (Et × Nat))):=[(171,[some (3,0),none]),(192,[some (3,0),none]),(224,[some (24,0),none])]
def tRo:List (Nat × Unit):=[(154064,()),(154143,()),(156154,()),(156215,()),(170168,()),(173143,()),(173171,()),(175143,()),(175171,()),(176064,()),(176143,()),(218154,()),
 (218215,()),(222215,()),(292064,()),(292143,())]
def tExt:List (Nat × Nat):=[]
theorem w56:∀ g n,(g,n) ∈ tExt->ExtOK Tryz.prog n g:=by
 intro g n h
 simp [tExt] at h
def tN1:List (Nat × Unit):=[(86,())]
noncomputable def E:Env:={ tabs.env w54 tRk tBk w47 tCt tAk tOwn tCut w6l y6k tAo tExt tRo with n1s:=fun f=>(lk tN1 f).isSome }
theorem z1o:EnvOK Tryz.prog E:=(Tabs.sound (by kernel_rfl) w2e w56).ones _
noncomputable def pTab:List (Nat × Func):=[(4,Tryz.f4),(9,Tryz.f9),(15,Tryz.f15),(17,Tryz.f17),(18,Tryz.f18),(19,Tryz.f19),(20,Tryz.f20),(21,Tryz.f21),(22,Tryz.f22),(23,Tryz.f23),(24,Tryz.f24),(25,Tryz.f25),
 (26,Tryz.f26),(54,Tryz.f54),(55,Tryz.f55),(56,Tryz.f56),(64,Tryz.f64),(68,Tryz.f68),(69,Tryz.f69),(70,Tryz.f70),(71,Tryz.f71),(72,Tryz.f72),(73,Tryz.f73),(74,Tryz.f74),
 (75,Tryz.f75),(76,Tryz.f76),(77,Tryz.f77),(78,Tryz.f78),(79,Tryz.f79),(80,Tryz.f80),(81,Tryz.f81),(82,Tryz.f82),(83,Tryz.f83),(84,Tryz.f84),(85,Tryz.f85),(86,Tryz.f86),
 (87,Tryz.f87),(88,Tryz.f88),(89,Tryz.f89),(90,Tryz.f90),(91,Tryz.f91),(98,Tryz.f98),(99,Tryz.f99),(102,Tryz.f102),(103,Tryz.f103),(104,Tryz.f104),(105,Tryz.f105),(107,Tryz.f107),
 (109,Tryz.f109),(110,Tryz.f110),(118,Tryz.f118),(120,Tryz.f120),(121,Tryz.f121),(123,Tryz.f123),(124,Tryz.f124),(125,Tryz.f125),(126,Tryz.f126),(127,Tryz.f127),(129,Tryz.f129),(132,Tryz.f132),
 (133,Tryz.f133),(134,Tryz.f134),(135,Tryz.f135),(136,Tryz.f136),(139,Tryz.f139),(140,Tryz.f140),(141,Tryz.f141),(143,Tryz.f143),(145,Tryz.f145),(146,Tryz.f146),(149,Tryz.f149),(150,Tryz.f150),
 (151,Tryz.f151),(152,Tryz.f152),(153,Tryz.f153),(154,Tryz.f154),(155,Tryz.f155),(156,Tryz.f156),(157,Tryz.f157),(158,Tryz.f158),(159,Tryz.f159),(160,Tryz.f160),(161,Tryz.f161),(162,Tryz.f162),
 (163,Tryz.f163),(164,Tryz.f164),(165,Tryz.f165),(166,Tryz.f166),(167,Tryz.f167),(168,Tryz.f168),(169,Tryz.f169),(170,Tryz.f170),(171,Tryz.f171),(172,Tryz.f172),(173,Tryz.f173),(174,Tryz.f174),
 (175,Tryz.f175),(177,Tryz.f177),(181,Tryz.f181),(184,Tryz.f184),(185,Tryz.f185),(187,Tryz.f187),(190,Tryz.f190),(192,Tryz.f192),(193,Tryz.f193),(194,Tryz.f194),(195,Tryz.f195),(196,Tryz.f196),
 (198,Tryz.f198),(199,Tryz.f199),(200,Tryz.f200),(201,Tryz.f201),(202,Tryz.f202),(207,Tryz.f207),(208,Tryz.f208),(210,Tryz.f210),(213,Tryz.f213),(214,Tryz.f214),(215,Tryz.f215),(216,Tryz.f216),
 (217,Tryz.f217),(218,Tryz.f218),(219,Tryz.f219),(220,Tryz.f220),(221,Tryz.f221),(222,Tryz.f222),(223,Tryz.f223),(224,Tryz.f224),(225,Tryz.f225),(226,Tryz.f226),(227,Tryz.f227),(231,Tryz.f231),
 (232,Tryz.f232),(233,Tryz.f233),(234,Tryz.f234),(235,Tryz.f235),(236,Tryz.f236),(237,Tryz.f237),(238,Tryz.f238),(239,Tryz.f239),(240,Tryz.f240),(242,Tryz.f242),(244,Tryz.f244),(245,Tryz.f245),
 (246,Tryz.f246),(247,Tryz.f247),(262,Tryz.f262),(263,Tryz.f263),(264,Tryz.f264),(265,Tryz.f265),(266,Tryz.f266),(267,Tryz.f267),(268,Tryz.f268),(269,Tryz.f269),(270,Tryz.f270),(271,Tryz.f271),
 (272,Tryz.f272),(273,Tryz.f273),(274,Tryz.f274),(275,Tryz.f275),(276,Tryz.f276),(277,Tryz.f277),(278,Tryz.f278),(279,Tryz.f279),(286,Tryz.f286),(287,Tryz.f287),(288,Tryz.f288),(289,Tryz.f289),
 (290,Tryz.f290),(291,Tryz.f291),(292,Tryz.f292),(293,Tryz.f293),(294,Tryz.f294),(295,Tryz.f295),(296,Tryz.f296),(297,Tryz.f297),(298,Tryz.f298),(300,Tryz.f300),(301,Tryz.f301)]
noncomputable def P:FuncId->Option Func:=lk pTab
theorem pOK:PfOK Tryz.prog P:=w1k (tab:=pTab)
 (q0a Tryz.func4 (q0a Tryz.func9 (q0a Tryz.func15 (q0a Tryz.func17 (q0a Tryz.func18 (q0a Tryz.func19 (q0a Tryz.func20 (q0a Tryz.func21 
 (q0a Tryz.func22 (q0a Tryz.func23 (q0a Tryz.func24 (q0a Tryz.func25 (q0a Tryz.func26 (q0a Tryz.func54 (q0a Tryz.func55 (q0a Tryz.func56 
 (q0a Tryz.func64 (q0a Tryz.func68 (q0a Tryz.func69 (q0a Tryz.func70 (q0a Tryz.func71 (q0a Tryz.func72 (q0a Tryz.func73 (q0a Tryz.func74 
 (q0a Tryz.func75 (q0a Tryz.func76 (q0a Tryz.func77 (q0a Tryz.func78 (q0a Tryz.func79 (q0a Tryz.func80 (q0a Tryz.func81 (q0a Tryz.func82 
 (q0a Tryz.func83 (q0a Tryz.func84 (q0a Tryz.func85 (q0a Tryz.func86 (q0a Tryz.func87 (q0a Tryz.func88 (q0a Tryz.func89 (q0a Tryz.func90 
 (q0a Tryz.func91 (q0a Tryz.func98 (q0a Tryz.func99 (q0a Tryz.func102 (q0a Tryz.func103 (q0a Tryz.func104 (q0a Tryz.func105 (q0a Tryz.func107 
 (q0a Tryz.func109 (q0a Tryz.func110 (q0a Tryz.func118 (q0a Tryz.func120 (q0a Tryz.func121 (q0a Tryz.func123 (q0a Tryz.func124 (q0a Tryz.func125 
 (q0a Tryz.func126 (q0a Tryz.func127 (q0a Tryz.func129 (q0a Tryz.func132 (q0a Tryz.func133 (q0a Tryz.func134 (q0a Tryz.func135 (q0a Tryz.func136 
 (q0a Tryz.func139 (q0a Tryz.func140 (q0a Tryz.func141 (q0a Tryz.func143 (q0a Tryz.func145 (q0a Tryz.func146 (q0a Tryz.func149 (q0a Tryz.func150 
 (q0a Tryz.func151 (q0a Tryz.func152 (q0a Tryz.func153 (q0a Tryz.func154 (q0a Tryz.func155 (q0a Tryz.func156 (q0a Tryz.func157 (q0a Tryz.func158 
 (q0a Tryz.func159 (q0a Tryz.func160 (q0a Tryz.func161 (q0a Tryz.func162 (q0a Tryz.func163 (q0a Tryz.func164 (q0a Tryz.func165 (q0a Tryz.func166 
 (q0a Tryz.func167 (q0a Tryz.func168 (q0a Tryz.func169 (q0a Tryz.func170 (q0a Tryz.func171 (q0a Tryz.func172 (q0a Tryz.func173 (q0a Tryz.func174 
 (q0a Tryz.func175 (q0a Tryz.func177 (q0a Tryz.func181 (q0a Tryz.func184 (q0a Tryz.func185 (q0a Tryz.func187 (q0a Tryz.func190 (q0a Tryz.func192 
 (q0a Tryz.func193 (q0a Tryz.func194 (q0a Tryz.func195 (q0a Tryz.func196 (q0a Tryz.func198 (q0a Tryz.func199 (q0a Tryz.func200 (q0a Tryz.func201 
 (q0a Tryz.func202 (q0a Tryz.func207 (q0a Tryz.func208 (q0a Tryz.func210 (q0a Tryz.func213 (q0a Tryz.func214 (q0a Tryz.func215 (q0a Tryz.func216 
 (q0a Tryz.func217 (q0a Tryz.func218 (q0a Tryz.func219 (q0a Tryz.func220 (q0a Tryz.func221 (q0a Tryz.func222 (q0a Tryz.func223 (q0a Tryz.func224 
 (q0a Tryz.func225 (q0a Tryz.func226 (q0a Tryz.func227 (q0a Tryz.func231 (q0a Tryz.func232 (q0a Tryz.func233 (q0a Tryz.func234 (q0a Tryz.func235 
 (q0a Tryz.func236 (q0a Tryz.func237 (q0a Tryz.func238 (q0a Tryz.func239 (q0a Tryz.func240 (q0a Tryz.func242 (q0a Tryz.func244 (q0a Tryz.func245 
 (q0a Tryz.func246 (q0a Tryz.func247 (q0a Tryz.func262 (q0a Tryz.func263 (q0a Tryz.func264 (q0a Tryz.func265 (q0a Tryz.func266 (q0a Tryz.func267 
 (q0a Tryz.func268 (q0a Tryz.func269 (q0a Tryz.func270 (q0a Tryz.func271 (q0a Tryz.func272 (q0a Tryz.func273 (q0a Tryz.func274 (q0a Tryz.func275 
 (q0a Tryz.func276 (q0a Tryz.func277 (q0a Tryz.func278 (q0a Tryz.func279 (q0a Tryz.func286 (q0a Tryz.func287 (q0a Tryz.func288 (q0a Tryz.func289 
 (q0a Tryz.func290 (q0a Tryz.func291 (q0a Tryz.func292 (q0a Tryz.func293 (q0a Tryz.func294 (q0a Tryz.func295 (q0a Tryz.func296 (q0a Tryz.func297 
 (q0a Tryz.func298 (q0a Tryz.func300 (q0a Tryz.func301 x66)))))))))))))))))))))))))))))))))))))))))))))))))))))))))))))))))))))))))))))))))))))))))))))))))))))))))))))))))))))))))))))))))))))))))))))))))))))))))))))))))))))))))))))))))))
 (by kernel_rfl)
theorem w6r (xs:List PV) (h1:xs.length * 8<=LIM) (h2:xs.length<=LIM):evF P E (fun _ _ _=>none) 2 139 [.s (.c (.p (.row 0 3 xs)))] [] = some ([.c (.own 3 0 xs)],[]):=by
 have e:evF P E (fun _ _ _=>none) 2 139 [.s (.c (.p (.row 0 3 xs)))] [] = bif decide ((0 + xs.length) * 8<=LIM) && decide (0 + xs.length<=LIM) then some ([.c (.own 3 0 (([] ++ xs).take (0 + xs.length)))],[]) else none:=by kernel_rfl
 rw [e]
 simp [h1,h2]
theorem w6 (xs:List PV) (h1:xs.length * 8<=LIM) (h2:xs.length<=LIM):evF P E (fun _ _ _=>none) 2 210 [.s (.c (.p (.row 0 3 xs)))] [] = some ([.c (.own 76 0 xs)],[]):=by
 have e:evF P E (fun _ _ _=>none) 2 210 [.s (.c (.p (.row 0 3 xs)))] [] = bif decide ((0 + xs.length) * 8<=LIM) && decide (0 + xs.length<=LIM) then some ([.c (.own 76 0 (([] ++ xs).take (0 + xs.length)))],[]) else none:=by kernel_rfl
 rw [e]
 simp [h1,h2]
theorem w5y (xs:List PV) (h1:xs.length * 16<=LIM) (h2:xs.length<=LIM):evF P E (fun _ _ _=>none) 2 219 [.s (.c (.p (.row 2 3 xs)))] [] = some ([.c (.own 133 2 xs)],[]):=by
 have e:evF P E (fun _ _ _=>none) 2 219 [.s (.c (.p (.row 2 3 xs)))] [] = bif decide ((0 + xs.length) * 16<=LIM) && decide (0 + xs.length<=LIM) then some ([.c (.own 133 2 (([] ++ xs).take (0 + xs.length)))],[]) else none:=by kernel_rfl
 rw [e]
 simp [h1,h2]
def q5l:List (Nat × (Nat × Nat × Nat)):=[(139,(3,0,8)),(210,(76,0,8)),(219,(133,2,16))]
theorem hT0:∀ f args bs r,cloneT q5l f args bs = some r->Contract Tryz.prog f args bs r:=by
 refine x5k fun f e sh by_ hm xs h1 h2=>?_
 have h0:∀ f args bs r,(fun (_:FuncId) (_:List AV) (_:List (List CV))=>(none:R)) f args bs = some r->Contract Tryz.prog f args bs r:=fun _ _ _ _ h=>by cases h
 simp only [q5l,List.mem_cons,List.not_mem_nil,or_false,Prod.mk.injEq] at hm
 rcases hm with ⟨rfl,rfl,rfl,rfl⟩ | ⟨rfl,rfl,rfl,rfl⟩ | ⟨rfl,rfl,rfl,rfl⟩
 · exact q6o (q35 z1o pOK h0 2 (by kernel_rfl)) (q35 z1o pOK h0 2 (w6r xs h1 h2))
 · exact q6o (q35 z1o pOK h0 2 (by kernel_rfl)) (q35 z1o pOK h0 2 (w6 xs h1 h2))
 · exact q6o (q35 z1o pOK h0 2 (by kernel_rfl)) (q35 z1o pOK h0 2 (w5y xs h1 h2))
def T:FuncId->List AV->List (List CV)->R:=orT numT (cloneT q5l)
theorem hT:∀ f args bs r,T f args bs = some r->Contract Tryz.prog f args bs r:=w2w x96 hT0
end Go.Proofs.YtgdegfijcijnoaaGreat
/- Calls and loops of the program,by shape: printed by nf.py. -/
namespace Go.Proofs.YtgdegfijcijnoaaGreat
open Go.Dp
noncomputable section
abbrev s0r (l:List PV):AV:=.s (.c (.p (PV.row 0 0 l)))
abbrev s0m (l:List PV):AV:=.s (.c (.p (PV.row 2 0 l)))
abbrev s0i (i:Int):AV:=.s (.c (.p (PV.int .i64 i)))
abbrev s0b (b:Bool):AV:=.s (.c (.p (PV.bool b)))
abbrev s0g (p p1:Int) (p2 p3:List PV):AV:=.s (.c (.p (PV.agg [.int .i64 p,.int .i64 p1,.row 2 0 p2,.row 2 0 p3])))
abbrev s0a (l:List PV):AV:=.s (.c (.p (PV.agg [.row 0 0 l])))
abbrev s0z (i n:Nat):AV:=.s (.c (.loc i 0 0 0 n))
abbrev p0n (i:Int):CV:=.p (PV.int .i64 i)
abbrev p0r (l:List PV):CV:=.p (PV.row 0 0 l)
abbrev p0m (l:List PV):CV:=.p (PV.row 2 0 l)
abbrev b0g (p p1:Int) (p2 p3:List PV):AObj:=.box [.p (PV.int .i64 p),.p (PV.int .i64 p1),.p (PV.row 2 0 p2),.p (PV.row 2 0 p3)]
def c4 (k:Nat) (code more:List PV):R:=evF P E T k 4 [s0r code,s0r more] []
def r4 (b:Bool):R:=some ([.c (.p (PV.bool b))],[])
def c9 (k:Nat) (code more:List PV):R:=evF P E T k 9 [s0r code,s0r more] []
def r9 (b:Bool):R:=some ([.c (.p (PV.bool b))],[])
def R9 (x0:R) (K0:Bool->R):R:=x0.bind fun q0=>bif q0w q0.2 [] && q00 q0.1 [.c (.p (.bool))] then (q2u (q0x q0.1 0)).bind fun b=>K0 b else none
@[simp] theorem R9_r b K0:R9 (r9 b) K0 = K0 b:=by kernel_rfl
def c15 (k:Nat) (a b:List PV):R:=evF P E T k 15 [s0r a,s0r b] []
def r15 (b:Bool):R:=some ([.c (.p (PV.bool b))],[])
def R15:=R9
@[simp] theorem w6p b K0:R15 (r15 b) K0 = K0 b:=by kernel_rfl
def y5c (k n:Nat) (a b:List PV) (t12 t13:Int):R:=q0e P E T k 15 15 [] [1,1,0,1,0] [] n ⟨mkT 26 [(0,s0r a),(1,s0r b),(12,s0i t12),(13,s0i t13)],[]⟩
def c17 (k:Nat) (code:List PV):R:=evF P E T k 17 [s0r code] []
def r17 (qr qr1:Int) (l l1 l2 l3 l4:List PV):R:=some ([.agg [.p (PV.int .i64 qr),.p (PV.int .i64 qr1),.p (PV.row 2 0 l),.p (PV.row 2 0 l1)],.agg [.p (PV.row 0 0 l2)],.c (.p (PV.row 0 0 l3)),.c (.p (PV.row 0 0 l4))],[])
def R17 (x0:R) (K0:Int->Int->List PV->List PV->List PV->List PV->List PV->R):R:=x0.bind fun q0=>bif q0w q0.2 [] && q00 q0.1 [.agg [.p (.int .i64),.p (.int .i64),.p (.row 2),.p (.row 2)],.agg [.p (.row 0)],.c (.p (.row 0)),.c (.p (.row 0))] then (cInt (Dp.partAt q0.1 0 0) .i64).bind fun qr=>(cInt (Dp.partAt q0.1 0 1) .i64).bind fun qr1=>(cRow (Dp.partAt q0.1 0 2) 2).bind fun l=>(cRow (Dp.partAt q0.1 0 3) 2).bind fun l1=>(cRow (Dp.partAt q0.1 1 0) 0).bind fun l2=>(cRow (q0x q0.1 2) 0).bind fun l3=>(cRow (q0x q0.1 3) 0).bind fun l4=>K0 qr qr1 l l1 l2 l3 l4 else none
@[simp] theorem w55 qr qr1 l l1 l2 l3 l4 K0:R17 (r17 qr qr1 l l1 l2 l3 l4) K0 = K0 qr qr1 l l1 l2 l3 l4:=by kernel_rfl
def y5q (k n:Nat) (path:List PV) (n1 n11 n12:Int) (l l1 l2 l3:List PV) (n13 n14 n15 n16:Int) (l4 l5 l6:List PV):R:=q0e P E T k 17 17 [] [1,1,1,1,0,1,0] [] n ⟨mkT 56 [(2,.s (.c (.bptr 0 0))),(3,.s (.c (.bptr 1 0))),(6,.s (.c (.bptr 2 0))),(7,.s (.c (.bptr 3 0))),(8,.s (.c (.bptr 4 0))),(9,s0r path),(10,s0i n1)],[b0g n11 n12 l l1,.box [p0r l2],.box [p0r l3,p0n n13,.p (PV.int .u64 n14)],b0g n15 n16 l4 l5,.box [p0r l6]]⟩
def c18 (k:Nat) (p p1:Int) (p2 p3 v preds path:List PV):R:=evF P E T k 18 [s0g p p1 p2 p3,s0a v,s0r preds,s0r path] []
def r18 (l:List PV) (qr:Int) (b:Bool):R:=some ([.agg [.p (PV.row 0 0 l)],.c (.p (PV.int .i64 qr)),.c (.p (PV.bool b))],[])
def R18 (x0:R) (K0:List PV->Int->Bool->R):R:=x0.bind fun q0=>bif q0w q0.2 [] && q00 q0.1 [.agg [.p (.row 0)],.c (.p (.int .i64)),.c (.p (.bool))] then (cRow (Dp.partAt q0.1 0 0) 0).bind fun l=>(cInt (q0x q0.1 1) .i64).bind fun qr=>(q2u (q0x q0.1 2)).bind fun b=>K0 l qr b else none
@[simp] theorem w6k l qr b K0:R18 (r18 l qr b) K0 = K0 l qr b:=by kernel_rfl
def c19 (k:Nat) (p p1:Int) (p2 p3 v preds path:List PV):R:=evF P E T k 19 [s0g p p1 p2 p3,s0a v,s0r preds,s0r path] []
def r19 (l:List PV) (qr:Int) (b:Bool):R:=some ([.agg [.p (PV.row 0 0 l)],.c (.p (PV.int .i64 qr)),.c (.p (PV.bool b))],[])
def R19:=R18
@[simp] theorem w6g l qr b K0:R19 (r19 l qr b) K0 = K0 l qr b:=by kernel_rfl
def c20 (k:Nat) (p p1:Int) (p2 p3 v path:List PV):R:=evF P E T k 20 [s0g p p1 p2 p3,s0a v,s0r path] []
def r20 (l:List PV) (b:Bool):R:=some ([.agg [.p (PV.row 0 0 l)],.c (.p (PV.bool b))],[])
def R20 (x0:R) (K0:List PV->Bool->R):R:=x0.bind fun q0=>bif q0w q0.2 [] && q00 q0.1 [.agg [.p (.row 0)],.c (.p (.bool))] then (cRow (Dp.partAt q0.1 0 0) 0).bind fun l=>(q2u (q0x q0.1 1)).bind fun b=>K0 l b else none
@[simp] theorem w6j l b K0:R20 (r20 l b) K0 = K0 l b:=by kernel_rfl
def c21 (k:Nat) (p p1:Int) (p2 p3 v path:List PV):R:=evF P E T k 21 [s0g p p1 p2 p3,s0a v,s0r path] []
def r21 (l:List PV) (b:Bool):R:=some ([.agg [.p (PV.row 0 0 l)],.c (.p (PV.bool b))],[])
def R21:=R20
@[simp] theorem w53 l b K0:R21 (r21 l b) K0 = K0 l b:=by kernel_rfl
def c22 (k:Nat) (p p1:Int) (p2 p3 a b:List PV):R:=evF P E T k 22 [s0g p p1 p2 p3,s0a a,s0a b] []
def r22 (b b1:Bool):R:=some ([.c (.p (PV.bool b)),.c (.p (PV.bool b1))],[])
def R22 (x0:R) (K0:Bool->Bool->R):R:=x0.bind fun q0=>bif q0w q0.2 [] && q00 q0.1 [.c (.p (.bool)),.c (.p (.bool))] then (q2u (q0x q0.1 0)).bind fun b=>(q2u (q0x q0.1 1)).bind fun b1=>K0 b b1 else none
@[simp] theorem w6i b b1 K0:R22 (r22 b b1) K0 = K0 b b1:=by kernel_rfl
def c23 (k:Nat) (p p1:Int) (p2 p3 v:List PV):R:=evF P E T k 23 [s0g p p1 p2 p3,s0a v] []
def r23 (qr:Int) (b:Bool):R:=some ([.c (.p (PV.int .i64 qr)),.c (.p (PV.bool b))],[])
def R23 (x0:R) (K0:Int->Bool->R):R:=x0.bind fun q0=>bif q0w q0.2 [] && q00 q0.1 [.c (.p (.int .i64)),.c (.p (.bool))] then (cInt (q0x q0.1 0) .i64).bind fun qr=>(q2u (q0x q0.1 1)).bind fun b=>K0 qr b else none
@[simp] theorem x3h qr b K0:R23 (r23 qr b) K0 = K0 qr b:=by kernel_rfl
def c24 (k:Nat) (p p1:Int) (p2 p3 v path:List PV):R:=evF P E T k 24 [s0g p p1 p2 p3,s0a v,s0r path] []
def r24 (qr:Int) (b:Bool):R:=some ([.c (.p (PV.int .i64 qr)),.c (.p (PV.bool b))],[])
def R24:=R23
@[simp] theorem w52 qr b K0:R24 (r24 qr b) K0 = K0 qr b:=by kernel_rfl
def c25 (k:Nat) (p p1:Int) (p2 p3 v path:List PV):R:=evF P E T k 25 [s0g p p1 p2 p3,s0a v,s0r path] []
def r25 (qr:Int) (b:Bool):R:=some ([.c (.p (PV.int .i64 qr)),.c (.p (PV.bool b))],[])
def R25:=R23
@[simp] theorem x84 qr b K0:R25 (r25 qr b) K0 = K0 qr b:=by kernel_rfl
def c26 (k:Nat) (p p1:Int) (p2 p3 v:List PV) (class1 to:Int):R:=evF P E T k 26 [s0g p p1 p2 p3,s0a v,s0i class1,s0i to] []
def r26 (l:List PV) (b:Bool):R:=some ([.c (.p (PV.row 0 0 l)),.c (.p (PV.bool b))],[])
def R26 (x0:R) (K0:List PV->Bool->R):R:=x0.bind fun q0=>bif q0w q0.2 [] && q00 q0.1 [.c (.p (.row 0)),.c (.p (.bool))] then (cRow (q0x q0.1 0) 0).bind fun l=>(q2u (q0x q0.1 1)).bind fun b=>K0 l b else none
@[simp] theorem w6a l b K0:R26 (r26 l b) K0 = K0 l b:=by kernel_rfl
def c54 (k:Nat) (l:List PV) (n1 n11:Int):R:=evF P E T k 54 [.s (.c (.bptr 0 0))] [[p0r l,p0n n1,.p (PV.int .u64 n11)]]
def r54 (l:List PV) (qr qr1 qr2 qr3:Int) (l1 l2 l3:List PV):R:=some ([.agg [.p (PV.int .i64 qr2),.p (PV.int .i64 qr3),.p (PV.row 2 0 l1),.p (PV.row 2 0 l2)],.agg [.p (PV.row 0 0 l3)]],[[.p (PV.row 0 0 l),.p (PV.int .i64 qr),.p (PV.int .u64 qr1)]])
def R54 (x0:R) (K0:List PV->Int->Int->Int->Int->List PV->List PV->List PV->R):R:=x0.bind fun q0=>bif q0w q0.2 [[.p (.row 0),.p (.int .i64),.p (.int .u64)]] && q00 q0.1 [.agg [.p (.int .i64),.p (.int .i64),.p (.row 2),.p (.row 2)],.agg [.p (.row 0)]] then (cRow (q0v q0.2 0 0) 0).bind fun l=>(cInt (q0v q0.2 0 1) .i64).bind fun qr=>(cInt (q0v q0.2 0 2) .u64).bind fun qr1=>(cInt (Dp.partAt q0.1 0 0) .i64).bind fun qr2=>(cInt (Dp.partAt q0.1 0 1) .i64).bind fun qr3=>(cRow (Dp.partAt q0.1 0 2) 2).bind fun l1=>(cRow (Dp.partAt q0.1 0 3) 2).bind fun l2=>(cRow (Dp.partAt q0.1 1 0) 0).bind fun l3=>K0 l qr qr1 qr2 qr3 l1 l2 l3 else none
@[simp] theorem x8p l qr qr1 qr2 qr3 l1 l2 l3 K0:R54 (r54 l qr qr1 qr2 qr3 l1 l2 l3) K0 = K0 l qr qr1 qr2 qr3 l1 l2 l3:=by kernel_rfl
def c55 (k:Nat) (p p1:Int) (p2 p3 v l:List PV) (n1 n11:Int):R:=evF P E T k 55 [.s (.c (.bptr 0 0)),s0g p p1 p2 p3,s0a v] [[p0r l,p0n n1,.p (PV.int .u64 n11)]]
def r55 (l:List PV) (qr qr1:Int) (l1:List PV):R:=some ([.c (.p (PV.row 0 0 l1))],[[.p (PV.row 0 0 l),.p (PV.int .i64 qr),.p (PV.int .u64 qr1)]])
def R55 (x0:R) (K0:List PV->Int->Int->List PV->R):R:=x0.bind fun q0=>bif q0w q0.2 [[.p (.row 0),.p (.int .i64),.p (.int .u64)]] && q00 q0.1 [.c (.p (.row 0))] then (cRow (q0v q0.2 0 0) 0).bind fun l=>(cInt (q0v q0.2 0 1) .i64).bind fun qr=>(cInt (q0v q0.2 0 2) .u64).bind fun qr1=>(cRow (q0x q0.1 0) 0).bind fun l1=>K0 l qr qr1 l1 else none
@[simp] theorem x8s l qr qr1 l1 K0:R55 (r55 l qr qr1 l1) K0 = K0 l qr qr1 l1:=by kernel_rfl
def y5u (k n:Nat) (outLen:Nat) (n1:Int) (l:List PV) (n11 n12 n13 n14:Int) (l1 l2 l3 xs:List PV):R:=q0e P E T k 55 55 [3] [1,1,1,1,0,1,0] [] n ⟨mkT 74 [(0,.s (.c (.bptr 0 0))),(4,.s (.c (.bptr 1 0))),(5,.s (.c (.bptr 2 0))),(9,s0z 3 outLen),(10,s0i n1)],[.box [p0r l,p0n n11,.p (PV.int .u64 n12)],b0g n13 n14 l1 l2,.box [p0r l3],.arr 3 0 0 false xs]⟩
def c56 (k:Nat) (n1:Int) (l:List PV) (n11 n12:Int):R:=evF P E T k 56 [.s (.c (.bptr 0 0)),s0i n1] [[p0r l,p0n n11,.p (PV.int .u64 n12)]]
def r56 (l:List PV) (qr qr1 qr2:Int):R:=some ([.c (.p (PV.int .i64 qr2))],[[.p (PV.row 0 0 l),.p (PV.int .i64 qr),.p (PV.int .u64 qr1)]])
def R56 (x0:R) (K0:List PV->Int->Int->Int->R):R:=x0.bind fun q0=>bif q0w q0.2 [[.p (.row 0),.p (.int .i64),.p (.int .u64)]] && q00 q0.1 [.c (.p (.int .i64))] then (cRow (q0v q0.2 0 0) 0).bind fun l=>(cInt (q0v q0.2 0 1) .i64).bind fun qr=>(cInt (q0v q0.2 0 2) .u64).bind fun qr1=>(cInt (q0x q0.1 0) .i64).bind fun qr2=>K0 l qr qr1 qr2 else none
@[simp] theorem q16 l qr qr1 qr2 K0:R56 (r56 l qr qr1 qr2) K0 = K0 l qr qr1 qr2:=by kernel_rfl
def y2a (k:Nat) (qs:List PV) (n1:Int):R:=evF P E T k 64 [s0r qs,.s (.c (.cfn 153 [PV.agg [.int .i64 n1]]))] []
def y10 (b:Bool):R:=some ([.c (.p (PV.bool b))],[])
def q46 (x0:R) (K0:Bool->R):R:=x0.bind fun q0=>bif q0.1.all q04 && q0.2.all (fun cs=>cs.all q1u) then (bif q0w q0.2 [] && q00 q0.1 [.c (.p (.bool))] then (q2u (q0x q0.1 0)).bind fun b=>K0 b else none) else none
@[simp] theorem x15 b K0:q46 (y10 b) K0 = K0 b:=by kernel_rfl
def y19 (k:Nat) (qs l:List PV) (n1:Int):R:=evF P E T k 64 [s0r qs,.s (.c (.cfn 175 [PV.agg [.row 0 0 l],PV.agg [.int .i64 n1]]))] []
def y13 (b:Bool):R:=some ([.c (.p (PV.bool b))],[])
def y79:=q46
@[simp] theorem x2l b K0:y79 (y13 b) K0 = K0 b:=by kernel_rfl
def y2b (k:Nat) (qs:List PV) (n1 n11:Int) (l l1 l2:List PV):R:=evF P E T k 64 [s0r qs,.s (.c (.cfn 291 [PV.agg [.int .i64 n1,.int .i64 n11,.row 2 0 l,.row 2 0 l1],PV.agg [.row 2 0 l2]]))] []
def y2o (b:Bool):R:=some ([.c (.p (PV.bool b))],[])
def y6m:=q46
@[simp] theorem x2z b K0:y6m (y2o b) K0 = K0 b:=by kernel_rfl
def y12 (k:Nat) (qs:List PV) (n1:Int):R:=evF P E T k 64 [s0r qs,.s (.c (.fn 276 [0]))] [[p0n n1]]
def y1z (qr:Int) (b:Bool):R:=some ([.c (.p (PV.bool b))],[[.p (PV.int .i64 qr)]])
def y58 (x0:R) (K0:Int->Bool->R):R:=x0.bind fun q0=>bif q0.1.all q04 && q0.2.all (fun cs=>cs.all q1u) then (bif q0w q0.2 [[.p (.int .i64)]] && q00 q0.1 [.c (.p (.bool))] then (cInt (q0v q0.2 0 0) .i64).bind fun qr=>(q2u (q0x q0.1 0)).bind fun b=>K0 qr b else none) else none
@[simp] theorem x3g qr b K0:y58 (y1z qr b) K0 = K0 qr b:=by kernel_rfl
def c68 (k:Nat) (p p1:Int) (p2 p3:List PV) (no:Int):R:=evF P E T k 68 [s0g p p1 p2 p3,s0i no] []
def r68 (l:List PV):R:=some ([.c (.p (PV.row 0 0 l))],[])
def R68 (x0:R) (K0:List PV->R):R:=x0.bind fun q0=>bif q0w q0.2 [] && q00 q0.1 [.c (.p (.row 0))] then (cRow (q0x q0.1 0) 0).bind fun l=>K0 l else none
@[simp] theorem x8m l K0:R68 (r68 l) K0 = K0 l:=by kernel_rfl
def y0k (k n:Nat) (no:Int) (qs:List PV) (outLen:Nat) (t14:List PV) (t15 t16 n1 n11:Int) (l l1 xs:List PV):R:=q0e P E T k 68 68 [] [1,1,0,1,0] [] n ⟨mkT 44 [(1,s0i no),(2,.s (.c (.bptr 0 0))),(5,s0r qs),(6,s0z 1 outLen),(14,s0m t14),(15,s0i t15),(16,s0i t16)],[b0g n1 n11 l l1,.arr 3 0 0 false xs]⟩
def c69 (k:Nat) (p p1:Int) (p2 p3 t qs:List PV):R:=evF P E T k 69 [s0g p p1 p2 p3,s0m t,s0r qs] []
def r69 (b:Bool):R:=some ([.c (.p (PV.bool b))],[])
def R69:=R9
@[simp] theorem x16 b K0:R69 (r69 b) K0 = K0 b:=by kernel_rfl
def c70 (k:Nat) (p p1:Int) (p2 p3:List PV) (no:Int):R:=evF P E T k 70 [s0g p p1 p2 p3,s0i no] []
def r70 (l:List PV):R:=some ([.c (.p (PV.row 0 0 l))],[])
def R70:=R68
@[simp] theorem y5v l K0:R70 (r70 l) K0 = K0 l:=by kernel_rfl
def y5t (k n:Nat) (no:Int) (outLen:Nat) (t9 t10 n1 n11:Int) (l l1 xs:List PV):R:=q0e P E T k 70 70 [] [1,1,0,1,0] [] n ⟨mkT 29 [(1,s0i no),(2,.s (.c (.bptr 0 0))),(5,s0z 1 outLen),(9,s0i t9),(10,s0i t10)],[b0g n1 n11 l l1,.arr 76 0 0 false xs]⟩
def c71 (k:Nat) (p p1:Int) (p2 p3 v path:List PV):R:=evF P E T k 71 [s0g p p1 p2 p3,s0a v,s0r path] []
def r71 (l:List PV) (b:Bool):R:=some ([.c (.p (PV.row 0 0 l)),.c (.p (PV.bool b))],[])
def R71:=R26
@[simp] theorem x23 l b K0:R71 (r71 l b) K0 = K0 l b:=by kernel_rfl
def c72 (k:Nat) (p p1:Int) (p2 p3:List PV) (most:Int) (l:List PV) (n1 n11:Int):R:=evF P E T k 72 [.s (.c (.bptr 0 0)),s0g p p1 p2 p3,s0i most] [[p0r l,p0n n1,.p (PV.int .u64 n11)]]
def r72 (l:List PV) (qr qr1:Int) (l1:List PV):R:=some ([.c (.p (PV.row 0 0 l1))],[[.p (PV.row 0 0 l),.p (PV.int .i64 qr),.p (PV.int .u64 qr1)]])
def R72:=R55
@[simp] theorem x86 l qr qr1 l1 K0:R72 (r72 l qr qr1 l1) K0 = K0 l qr qr1 l1:=by kernel_rfl
def y5s (k n:Nat) (lLen:Nat) (n1:Int) (l:List PV) (n11 n12 n13 n14:Int) (l1 l2 xs:List PV):R:=q0e P E T k 72 72 [3] [1,1,0,1,0] [] n ⟨mkT 31 [(0,.s (.c (.bptr 0 0))),(4,.s (.c (.bptr 1 0))),(7,s0z 2 lLen),(8,s0i n1)],[.box [p0r l,p0n n11,.p (PV.int .u64 n12)],b0g n13 n14 l1 l2,.arr 24 0 0 false xs]⟩
def c73 (k:Nat) (p p1:Int) (p2 p3 v path:List PV) (most:Int):R:=evF P E T k 73 [s0g p p1 p2 p3,s0a v,s0r path,s0i most] []
def r73 (b:Bool):R:=some ([.c (.p (PV.bool b))],[])
def R73:=R9
@[simp] theorem x2p b K0:R73 (r73 b) K0 = K0 b:=by kernel_rfl
def c74 (k:Nat) (p p1:Int) (p2 p3 preds:List PV) (least:Int):R:=evF P E T k 74 [s0g p p1 p2 p3,s0r preds,s0i least] []
def r74 (b:Bool):R:=some ([.c (.p (PV.bool b))],[])
def R74:=R9
@[simp] theorem x8q b K0:R74 (r74 b) K0 = K0 b:=by kernel_rfl
def c75 (k:Nat) (p p1:Int) (p2 p3 v preds path:List PV):R:=evF P E T k 75 [s0g p p1 p2 p3,s0a v,s0r preds,s0r path] []
def r75 (l:List PV) (qr:Int) (b:Bool):R:=some ([.agg [.p (PV.row 0 0 l)],.c (.p (PV.int .i64 qr)),.c (.p (PV.bool b))],[])
def R75:=R18
@[simp] theorem w51 l qr b K0:R75 (r75 l qr b) K0 = K0 l qr b:=by kernel_rfl
def c76 (k:Nat) (p p1:Int) (p2 p3 preds:List PV):R:=evF P E T k 76 [s0g p p1 p2 p3,s0r preds] []
def r76 (b:Bool):R:=some ([.c (.p (PV.bool b))],[])
def R76:=R9
@[simp] theorem x87 b K0:R76 (r76 b) K0 = K0 b:=by kernel_rfl
def y5h (k n:Nat) (t10:List PV) (t11 t12 n1 n11:Int) (l l1:List PV):R:=q0e P E T k 76 76 [] [1,1,0,1,0] [] n ⟨mkT 21 [(2,.s (.c (.bptr 0 0))),(10,s0r t10),(11,s0i t11),(12,s0i t12)],[b0g n1 n11 l l1]⟩
def c77 (k:Nat) (p p1:Int) (p2 p3 v preds path:List PV):R:=evF P E T k 77 [s0g p p1 p2 p3,s0a v,s0r preds,s0r path] []
def r77 (l:List PV) (qr:Int):R:=some ([.agg [.p (PV.row 0 0 l)],.c (.p (PV.int .i64 qr))],[])
def R77 (x0:R) (K0:List PV->Int->R):R:=x0.bind fun q0=>bif q0w q0.2 [] && q00 q0.1 [.agg [.p (.row 0)],.c (.p (.int .i64))] then (cRow (Dp.partAt q0.1 0 0) 0).bind fun l=>(cInt (q0x q0.1 1) .i64).bind fun qr=>K0 l qr else none
@[simp] theorem w58 l qr K0:R77 (r77 l qr) K0 = K0 l qr:=by kernel_rfl
def c78 (k:Nat) (p p1:Int) (p2 p3 v path:List PV):R:=evF P E T k 78 [s0g p p1 p2 p3,s0a v,s0r path] []
def r78 (l:List PV) (b:Bool):R:=some ([.c (.p (PV.row 0 0 l)),.c (.p (PV.bool b))],[])
def R78:=R26
@[simp] theorem w6h l b K0:R78 (r78 l b) K0 = K0 l b:=by kernel_rfl
def c79 (k:Nat) (v some1:List PV):R:=evF P E T k 79 [s0a v,s0r some1] []
def r79 (l:List PV):R:=some ([.agg [.p (PV.row 0 0 l)]],[])
def R79 (x0:R) (K0:List PV->R):R:=x0.bind fun q0=>bif q0w q0.2 [] && q00 q0.1 [.agg [.p (.row 0)]] then (cRow (Dp.partAt q0.1 0 0) 0).bind fun l=>K0 l else none
@[simp] theorem w6n l K0:R79 (r79 l) K0 = K0 l:=by kernel_rfl
def z85 (k n:Nat) (t13:List PV) (t14 t15:Int) (l l1:List PV) (Len:Nat) (xs:List PV):R:=q0e P E T k 79 79 [] [1,1,0,1,0] [] n ⟨mkT 27 [(2,.s (.c (.bptr 0 0))),(4,.s (.c (.bptr 1 0))),(5,.s (.c (.bptr 2 0))),(13,s0r t13),(14,s0i t14),(15,s0i t15)],[.box [p0r l],.box [p0r l1],.box [.loc 3 0 0 0 Len],.arr 3 0 0 false xs]⟩
def c80 (k:Nat) (v some1:List PV):R:=evF P E T k 80 [s0a v,s0r some1] []
def r80 (l:List PV):R:=some ([.agg [.own 3 0 l]],[])
def R80 (x0:R) (K0:List PV->R):R:=x0.bind fun q0=>bif q0w q0.2 [] && q00 q0.1 [.agg [.own 3 0]] then (q3j 3 0 (Dp.partAt q0.1 0 0)).bind fun l=>K0 l else none
@[simp] theorem y5m l K0:R80 (r80 l) K0 = K0 l:=by kernel_rfl
def z9c (k n:Nat) (some1:List PV) (keysLen:Nat) (t9:List PV) (t10 t11:Int) (l xs:List PV):R:=q0e P E T k 80 80 [] [1,1,0,1,0] [] n ⟨mkT 33 [(1,s0r some1),(4,.s (.c (.bptr 0 0))),(5,s0z 1 keysLen),(9,s0r t9),(10,s0i t10),(11,s0i t11)],[.box [p0r l],.arr 3 0 0 false xs]⟩
def c81 (k:Nat) (p p1:Int) (p2 p3 v:List PV):R:=evF P E T k 81 [s0g p p1 p2 p3,s0a v] []
def r81 (b:Bool):R:=some ([.c (.p (PV.bool b))],[])
def R81:=R9
@[simp] theorem z5x b K0:R81 (r81 b) K0 = K0 b:=by kernel_rfl
def c82 (k:Nat) (qs1 qs2:List PV):R:=evF P E T k 82 [s0r qs1,s0r qs2] []
def r82 (b:Bool):R:=some ([.c (.p (PV.bool b))],[])
def R82:=R9
@[simp] theorem w5u b K0:R82 (r82 b) K0 = K0 b:=by kernel_rfl
def y5p (k n:Nat) (qs1 qs2:List PV) (t12 t13:Int):R:=q0e P E T k 82 82 [] [1,1,0,1,0] [] n ⟨mkT 26 [(0,s0r qs1),(1,s0r qs2),(12,s0i t12),(13,s0i t13)],[]⟩
def c83 (k:Nat) (a b:List PV):R:=evF P E T k 83 [s0a a,s0a b] []
def r83 (l:List PV):R:=some ([.agg [.p (PV.row 0 0 l)]],[])
def R83:=R79
@[simp] theorem x3c l K0:R83 (r83 l) K0 = K0 l:=by kernel_rfl
def y5r (k n:Nat) (keysLen:Nat) (t10:List PV) (t11 t12:Int) (l l1 xs:List PV):R:=q0e P E T k 83 83 [] [1,1,0,1,0] [] n ⟨mkT 30 [(3,.s (.c (.bptr 0 0))),(4,.s (.c (.bptr 1 0))),(5,.s (.c (.loc 2 0 2 0 keysLen))),(10,s0r t10),(11,s0i t11),(12,s0i t12)],[.box [p0r l],.box [p0r l1],.arr 164 2 0 false xs]⟩
def c84 (k:Nat) (v:List PV):R:=evF P E T k 84 [s0a v] []
def r84 (qr:Int):R:=some ([.c (.p (PV.int .i64 qr))],[])
def R84 (x0:R) (K0:Int->R):R:=x0.bind fun q0=>bif q0w q0.2 [] && q00 q0.1 [.c (.p (.int .i64))] then (cInt (q0x q0.1 0) .i64).bind fun qr=>K0 qr else none
@[simp] theorem x19 qr K0:R84 (r84 qr) K0 = K0 qr:=by kernel_rfl
def c85 (k:Nat) (along:List PV):R:=evF P E T k 85 [s0r along] []
def r85 (qr:Int):R:=some ([.c (.p (PV.int .i64 qr))],[])
def R85:=R84
@[simp] theorem w5w qr K0:R85 (r85 qr) K0 = K0 qr:=by kernel_rfl
def R85p (x0:R) (K0:Int->R):R:=x0.bind fun q0=>bif q0.1.all q04 && q0.2.all (fun cs=>cs.all q1u) then (bif q0w q0.2 [] && q00 q0.1 [.c (.p (.int .i64))] then (cInt (q0x q0.1 0) .i64).bind fun qr=>K0 qr else none) else none
@[simp] theorem x5w qr K0:R85p (r85 qr) K0 = K0 qr:=by kernel_rfl
def c86 (k:Nat) (p p1:Int) (p2 p3 v path:List PV):R:=evF P E T k 86 [s0g p p1 p2 p3,s0a v,s0r path] []
def r86 (l:List PV):R:=some ([.c (.own ⟨28,some ⟨0,3,0,0,none⟩⟩ 0 l)],[])
def R86 (x0:R) (K0:List PV->R):R:=x0.bind fun q0=>bif q0w q0.2 [] && q00 q0.1 [.c (.own ⟨28,some ⟨0,3,0,0,none⟩⟩ 0)] then (q3j ⟨28,some ⟨0,3,0,0,none⟩⟩ 0 (q0x q0.1 0)).bind fun l=>K0 l else none
@[simp] theorem x2b l K0:R86 (r86 l) K0 = K0 l:=by kernel_rfl
def z5o (k n:Nat) (outLen:Nat) (next:List PV) (nowLen:Nat) (t24:List PV) (t25 t26 n1 n11:Int) (l l1 l2 xs xs1:List PV):R:=q0e P E T k 86 86 [] [1,1,0,1,0] [] n ⟨mkT 68 [(3,.s (.c (.bptr 0 0))),(4,.s (.c (.bptr 1 0))),(7,s0z 2 outLen),(8,s0r next),(9,s0z 3 nowLen),(24,s0r t24),(25,s0i t25),(26,s0i t26)],[b0g n1 n11 l l1,.box [p0r l2],.arr ⟨28,some ⟨0,3,0,0,none⟩⟩ 0 0 false xs,.arr 3 0 0 false xs1]⟩
def z5v (k n1 n:Nat) (outLen:Nat) (next:List PV) (inLen:Nat) (t24:List PV) (t25 t26:Int) (t36Len:Nat) (t37 t38 n11 n12:Int) (l l1 l2:List PV) (n13:Int) (xs xs1 xs2:List PV):R:=q0e P E T k 86 86 [] [1,1,0,1,0,0,1,1,0,0,1,0,1,0,1,0,1,0] [n1] n ⟨mkT 68 [(3,.s (.c (.bptr 0 0))),(4,.s (.c (.bptr 1 0))),(7,s0z 3 outLen),(8,s0r next),(11,.s (.c (.bptr 2 0))),(12,s0z 4 inLen),(24,s0r t24),(25,s0i t25),(26,s0i t26),(36,s0z 5 t36Len),(37,s0i t37),(38,s0i t38)],[b0g n11 n12 l l1,.box [p0r l2],.box [p0n n13],.arr ⟨28,some ⟨0,3,0,0,none⟩⟩ 0 0 false xs,.arr 4 0 0 false xs1,.arr 3 0 0 false xs2]⟩
def y1v (k n1 n2 n:Nat) (outLen:Nat) (next:List PV) (inLen:Nat) (t24:List PV) (t25 t26:Int) (t36Len:Nat) (t37 t38:Int) (t45:List PV) (t46 t47 n11 n12:Int) (l l1 l2:List PV) (n13:Int) (xs xs1 xs2:List PV):R:=q0e P E T k 86 86 [] [1,1,0,1,0,0,1,1,0,0,1,0,1,0,1,0,1,0,0,1,1,0,0,1,1,0] [n1,n2] n ⟨mkT 68 [(3,.s (.c (.bptr 0 0))),(4,.s (.c (.bptr 1 0))),(7,s0z 3 outLen),(8,s0r next),(11,.s (.c (.bptr 2 0))),(12,s0z 4 inLen),(24,s0r t24),(25,s0i t25),(26,s0i t26),(36,s0z 5 t36Len),(37,s0i t37),(38,s0i t38),(45,s0r t45),(46,s0i t46),(47,s0i t47)],[b0g n11 n12 l l1,.box [p0r l2],.box [p0n n13],.arr ⟨28,some ⟨0,3,0,0,none⟩⟩ 0 0 false xs,.arr 4 0 0 false xs1,.arr 3 0 0 false xs2]⟩
def c87 (k:Nat) (p p1:Int) (p2 p3 v path:List PV):R:=evF P E T k 87 [s0g p p1 p2 p3,s0a v,s0r path] []
def r87 (b:Bool):R:=some ([.c (.p (PV.bool b))],[])
def R87:=R9
@[simp] theorem w6d b K0:R87 (r87 b) K0 = K0 b:=by kernel_rfl
def c88 (k:Nat) (along:List PV):R:=evF P E T k 88 [s0r along] []
def r88 (qr:Int):R:=some ([.c (.p (PV.int .i64 qr))],[])
def R88:=R84
@[simp] theorem x8v qr K0:R88 (r88 qr) K0 = K0 qr:=by kernel_rfl
def y5w (k n:Nat) (t5:List PV) (t6 t7:Int):R:=q0e P E T k 88 88 [] [1,0,1,0] [] n ⟨mkT 17 [(5,s0r t5),(6,s0i t6),(7,s0i t7)],[]⟩
def c89 (k:Nat) (p p1:Int) (p2 p3 v path:List PV):R:=evF P E T k 89 [s0g p p1 p2 p3,s0a v,s0r path] []
def r89 (l:List PV):R:=some ([.c (.p (PV.row 0 0 l))],[])
def R89:=R68
@[simp] theorem x2s l K0:R89 (r89 l) K0 = K0 l:=by kernel_rfl
def y00 (k n:Nat) (outLen:Nat) (some1 t18:List PV) (t19 t20 n1 n11:Int) (l l1 l2 xs:List PV):R:=q0e P E T k 89 89 [] [1,1,1,0,1,0] [] n ⟨mkT 51 [(3,.s (.c (.bptr 0 0))),(4,.s (.c (.bptr 1 0))),(7,s0z 2 outLen),(8,s0r some1),(18,s0r t18),(19,s0i t19),(20,s0i t20)],[b0g n1 n11 l l1,.box [p0r l2],.arr 28 0 0 false xs]⟩
def z5n (k n1 n:Nat) (outLen:Nat) (class1:Int) (inLen:Nat) (t18:List PV) (t19 t20:Int) (t24:List PV) (t25 t26 n11 n12:Int) (l l1 l2 xs xs1:List PV):R:=q0e P E T k 89 89 [] [1,1,1,0,1,0,0,1,1,0,0,1,1,0,1,0] [n1] n ⟨mkT 51 [(3,.s (.c (.bptr 0 0))),(4,.s (.c (.bptr 1 0))),(7,s0z 2 outLen),(10,s0i class1),(11,s0z 3 inLen),(18,s0r t18),(19,s0i t19),(20,s0i t20),(24,s0r t24),(25,s0i t25),(26,s0i t26)],[b0g n11 n12 l l1,.box [p0r l2],.arr 28 0 0 false xs,.arr 3 0 0 false xs1]⟩
def c90 (k:Nat) (p p1:Int) (p2 p3 v:List PV) (class1:Int):R:=evF P E T k 90 [s0g p p1 p2 p3,s0a v,s0i class1] []
def r90 (b:Bool):R:=some ([.c (.p (PV.bool b))],[])
def R90:=R9
@[simp] theorem x8u b K0:R90 (r90 b) K0 = K0 b:=by kernel_rfl
def c91 (k:Nat) (p p1:Int) (p2 p3 v:List PV) (class1 to:Int):R:=evF P E T k 91 [s0g p p1 p2 p3,s0a v,s0i class1,s0i to] []
def r91 (l:List PV):R:=some ([.c (.p (PV.row 0 0 l))],[])
def R91:=R68
@[simp] theorem x81 l K0:R91 (r91 l) K0 = K0 l:=by kernel_rfl
def c98 (k:Nat) (p p1:Int) (p2 p3 v t:List PV):R:=evF P E T k 98 [s0g p p1 p2 p3,s0a v,s0m t] []
def r98 (l:List PV):R:=some ([.agg [.own 3 0 l]],[])
def R98:=R80
@[simp] theorem w6f l K0:R98 (r98 l) K0 = K0 l:=by kernel_rfl
def R98p (x0:R) (K0:List PV->R):R:=x0.bind fun q0=>bif q0.1.all q04 && q0.2.all (fun cs=>cs.all q1u) then (bif q0w q0.2 [] && q00 q0.1 [.agg [.own 3 0]] then (q3j 3 0 (Dp.partAt q0.1 0 0)).bind fun l=>K0 l else none) else none
def c99 (k:Nat) (p p1:Int) (p2 p3 preds:List PV):R:=evF P E T k 99 [s0g p p1 p2 p3,s0r preds] []
def r99 (l:List PV):R:=some ([.agg [.own 3 0 l]],[])
def R99:=R80
@[simp] theorem w6b l K0:R99 (r99 l) K0 = K0 l:=by kernel_rfl
def y5l (k n:Nat) (t12:List PV) (t13 t14 n1 n11:Int) (l l1 l2:List PV) (Len:Nat) (xs:List PV):R:=q0e P E T k 99 99 [] [1,1,0,1,0] [] n ⟨mkT 24 [(2,.s (.c (.bptr 0 0))),(4,.s (.c (.bptr 1 0))),(5,.s (.c (.bptr 2 0))),(12,s0r t12),(13,s0i t13),(14,s0i t14)],[b0g n1 n11 l l1,.box [p0r l2],.box [.loc 3 0 0 0 Len],.arr 3 0 0 false xs]⟩
def c102 (k:Nat) (p p1:Int) (p2 p3:List PV):R:=evF P E T k 102 [s0g p p1 p2 p3] []
def r102 (b:Bool):R:=some ([.c (.p (PV.bool b))],[])
def R102:=R9
@[simp] theorem x42 b K0:R102 (r102 b) K0 = K0 b:=by kernel_rfl
def c103 (k:Nat) (p p1:Int) (p2 p3:List PV):R:=evF P E T k 103 [s0g p p1 p2 p3] []
def r103 (qr:Int):R:=some ([.c (.p (PV.int .i64 qr))],[])
def R103:=R84
@[simp] theorem z3x qr K0:R103 (r103 qr) K0 = K0 qr:=by kernel_rfl
def c104 (k:Nat) (p p1:Int) (p2 p3:List PV):R:=evF P E T k 104 [s0g p p1 p2 p3] []
def r104 (b:Bool):R:=some ([.c (.p (PV.bool b))],[])
def R104:=R9
@[simp] theorem x5e b K0:R104 (r104 b) K0 = K0 b:=by kernel_rfl
def c105 (k:Nat) (p p1:Int) (p2 p3:List PV):R:=evF P E T k 105 [s0g p p1 p2 p3] []
def r105 (qr:Int):R:=some ([.c (.p (PV.int .i64 qr))],[])
def R105:=R84
@[simp] theorem y6w qr K0:R105 (r105 qr) K0 = K0 qr:=by kernel_rfl
def c107 (k:Nat) (p p1:Int) (p2 p3 t:List PV):R:=evF P E T k 107 [s0g p p1 p2 p3,s0m t] []
def r107 (b:Bool):R:=some ([.c (.p (PV.bool b))],[])
def R107:=R9
@[simp] theorem y7n b K0:R107 (r107 b) K0 = K0 b:=by kernel_rfl
def c109 (k:Nat) (p p1:Int) (p2 p3:List PV):R:=evF P E T k 109 [s0g p p1 p2 p3] []
def r109 (l:List PV):R:=some ([.c (.p (PV.row 0 0 l))],[])
def R109:=R68
@[simp] theorem w4h l K0:R109 (r109 l) K0 = K0 l:=by kernel_rfl
def y0f (k n:Nat) (outLen:Nat) (t7 t8 n1 n11:Int) (l l1 xs:List PV):R:=q0e P E T k 109 109 [] [1,1,0,1,0] [] n ⟨mkT 19 [(1,.s (.c (.bptr 0 0))),(3,s0z 1 outLen),(7,s0i t7),(8,s0i t8)],[b0g n1 n11 l l1,.arr 28 0 0 false xs]⟩
def c110 (k:Nat) (p p1:Int) (p2 p3 t:List PV):R:=evF P E T k 110 [s0g p p1 p2 p3,s0m t] []
def r110 (l:List PV):R:=some ([.c (.own 3 0 l)],[])
def R110 (x0:R) (K0:List PV->R):R:=x0.bind fun q0=>bif q0w q0.2 [] && q00 q0.1 [.c (.own 3 0)] then (q3j 3 0 (q0x q0.1 0)).bind fun l=>K0 l else none
@[simp] theorem w5l l K0:R110 (r110 l) K0 = K0 l:=by kernel_rfl
def z3w (k n:Nat) (t:List PV) (outLen:Nat) (t9 t10 n1 n11:Int) (l l1 xs:List PV):R:=q0e P E T k 110 110 [] [1,1,0,1,0] [] n ⟨mkT 25 [(1,s0m t),(2,.s (.c (.bptr 0 0))),(5,s0z 1 outLen),(9,s0i t9),(10,s0i t10)],[b0g n1 n11 l l1,.arr 3 0 0 false xs]⟩
def c118 (k:Nat) (l:List PV) (n1 n11:Int):R:=evF P E T k 118 [.s (.c (.bptr 0 0))] [[p0r l,p0n n1,.p (PV.int .u64 n11)]]
def r118 (l:List PV) (qr qr1 qr2 qr3:Int) (l1 l2:List PV):R:=some ([.agg [.p (PV.int .i64 qr2),.p (PV.int .i64 qr3),.p (PV.row 2 0 l1),.own ⟨136,some ⟨1,138,2,0,none⟩⟩ 2 l2]],[[.p (PV.row 0 0 l),.p (PV.int .i64 qr),.p (PV.int .u64 qr1)]])
def R118 (x0:R) (K0:List PV->Int->Int->Int->Int->List PV->List PV->R):R:=x0.bind fun q0=>bif q0w q0.2 [[.p (.row 0),.p (.int .i64),.p (.int .u64)]] && q00 q0.1 [.agg [.p (.int .i64),.p (.int .i64),.p (.row 2),.own ⟨136,some ⟨1,138,2,0,none⟩⟩ 2]] then (cRow (q0v q0.2 0 0) 0).bind fun l=>(cInt (q0v q0.2 0 1) .i64).bind fun qr=>(cInt (q0v q0.2 0 2) .u64).bind fun qr1=>(cInt (Dp.partAt q0.1 0 0) .i64).bind fun qr2=>(cInt (Dp.partAt q0.1 0 1) .i64).bind fun qr3=>(cRow (Dp.partAt q0.1 0 2) 2).bind fun l1=>(q3j ⟨136,some ⟨1,138,2,0,none⟩⟩ 2 (Dp.partAt q0.1 0 3)).bind fun l2=>K0 l qr qr1 qr2 qr3 l1 l2 else none
@[simp] theorem w4f l qr qr1 qr2 qr3 l1 l2 K0:R118 (r118 l qr qr1 qr2 qr3 l1 l2) K0 = K0 l qr qr1 qr2 qr3 l1 l2:=by kernel_rfl
def q9e (k n:Nat) (wide vars:Int) (l:List PV) (n1 n11 n12 n13:Int) (l1 l2:List PV):R:=q0e P E T k 118 118 [3] [1,1,1,1,0,0] [] n ⟨mkT 67 [(0,.s (.c (.bptr 0 0))),(2,.s (.c (.bptr 1 0))),(3,s0i wide),(4,s0i vars)],[.box [p0r l,p0n n1,.p (PV.int .u64 n11)],b0g n12 n13 l1 l2]⟩
def c120 (k:Nat) (n1:Int) (l:List PV) (n11 n12:Int):R:=evF P E T k 120 [.s (.c (.bptr 0 0)),s0i n1] [[p0r l,p0n n11,.p (PV.int .u64 n12)]]
def r120 (l:List PV) (qr qr1:Int) (b:Bool):R:=some ([.c (.p (PV.bool b))],[[.p (PV.row 0 0 l),.p (PV.int .i64 qr),.p (PV.int .u64 qr1)]])
def R120 (x0:R) (K0:List PV->Int->Int->Bool->R):R:=x0.bind fun q0=>bif q0w q0.2 [[.p (.row 0),.p (.int .i64),.p (.int .u64)]] && q00 q0.1 [.c (.p (.bool))] then (cRow (q0v q0.2 0 0) 0).bind fun l=>(cInt (q0v q0.2 0 1) .i64).bind fun qr=>(cInt (q0v q0.2 0 2) .u64).bind fun qr1=>(q2u (q0x q0.1 0)).bind fun b=>K0 l qr qr1 b else none
@[simp] theorem q3o l qr qr1 b K0:R120 (r120 l qr qr1 b) K0 = K0 l qr qr1 b:=by kernel_rfl
def c121 (k:Nat) (n1 most:Int) (l:List PV) (n11 n12:Int):R:=evF P E T k 121 [.s (.c (.bptr 0 0)),s0i n1,s0i most] [[p0r l,p0n n11,.p (PV.int .u64 n12)]]
def r121 (l:List PV) (qr qr1:Int) (l1:List PV):R:=some ([.c (.p (PV.row 0 0 l1))],[[.p (PV.row 0 0 l),.p (PV.int .i64 qr),.p (PV.int .u64 qr1)]])
def R121:=R55
@[simp] theorem w3a l qr qr1 l1 K0:R121 (r121 l qr qr1 l1) K0 = K0 l qr qr1 l1:=by kernel_rfl
def z9h (k n:Nat) (n1:Int) (lLen:Nat) (k1:Int) (l:List PV) (n11 n12:Int) (xs:List PV):R:=q0e P E T k 121 121 [3] [1,1,0,1,0] [] n ⟨mkT 29 [(0,.s (.c (.bptr 0 0))),(1,s0i n1),(7,s0z 1 lLen),(8,s0i k1)],[.box [p0r l,p0n n11,.p (PV.int .u64 n12)],.arr 3 0 0 false xs]⟩
def c123 (k:Nat) (some1 in1:List PV):R:=evF P E T k 123 [s0r some1,s0r in1] []
def r123 (b:Bool):R:=some ([.c (.p (PV.bool b))],[])
def R123:=R9
@[simp] theorem w4t b K0:R123 (r123 b) K0 = K0 b:=by kernel_rfl
def y1e (k n:Nat) (in1 t7:List PV) (t8 t9:Int):R:=q0e P E T k 123 123 [] [1,0,1,0] [] n ⟨mkT 18 [(1,s0r in1),(7,s0r t7),(8,s0i t8),(9,s0i t9)],[]⟩
def c124 (k:Nat) (p p1:Int) (p2 p3 t:List PV):R:=evF P E T k 124 [s0g p p1 p2 p3,s0m t] []
def r124 (l:List PV):R:=some ([.c (.p (PV.row 0 0 l))],[])
def R124:=R68
@[simp] theorem y1h l K0:R124 (r124 l) K0 = K0 l:=by kernel_rfl
def z27 (k n:Nat) (t:List PV) (outLen:Nat) (no n1 n11:Int) (l l1 xs:List PV):R:=q0e P E T k 124 124 [] [1,1,0,1,0] [] n ⟨mkT 24 [(1,s0m t),(2,.s (.c (.bptr 0 0))),(5,s0z 1 outLen),(6,s0i no)],[b0g n1 n11 l l1,.arr 3 0 0 false xs]⟩
def c125 (k:Nat) (p p1:Int) (p2 p3 some1:List PV):R:=evF P E T k 125 [s0g p p1 p2 p3,s0r some1] []
def r125 (l:List PV):R:=some ([.c (.p (PV.row 0 0 l))],[])
def R125:=R68
@[simp] theorem x5x l K0:R125 (r125 l) K0 = K0 l:=by kernel_rfl
def z4n (k n:Nat) (outLen:Nat) (t10:List PV) (t11 t12 n1 n11:Int) (l l1 xs:List PV):R:=q0e P E T k 125 125 [] [1,1,0,1,0] [] n ⟨mkT 30 [(2,.s (.c (.bptr 0 0))),(5,s0z 1 outLen),(10,s0r t10),(11,s0i t11),(12,s0i t12)],[b0g n1 n11 l l1,.arr 3 0 0 false xs]⟩
def z3g (k n1 n:Nat) (outLen:Nat) (t10:List PV) (t11 t12:Int) (t18:List PV) (t19 t20 n11 n12:Int) (l l1 xs:List PV):R:=q0e P E T k 125 125 [] [1,1,0,1,0,0,1,1,0,0,1,1,0] [n1] n ⟨mkT 30 [(2,.s (.c (.bptr 0 0))),(5,s0z 1 outLen),(10,s0r t10),(11,s0i t11),(12,s0i t12),(18,s0r t18),(19,s0i t19),(20,s0i t20)],[b0g n11 n12 l l1,.arr 3 0 0 false xs]⟩
def c126 (k:Nat) (p p1:Int) (p2 p3 t:List PV):R:=evF P E T k 126 [s0g p p1 p2 p3,s0m t] []
def r126 (b:Bool):R:=some ([.c (.p (PV.bool b))],[])
def R126:=R9
@[simp] theorem y53 b K0:R126 (r126 b) K0 = K0 b:=by kernel_rfl
def c127 (k:Nat) (a b:List PV):R:=evF P E T k 127 [s0r a,s0r b] []
def r127 (b:Bool):R:=some ([.c (.p (PV.bool b))],[])
def R127:=R9
@[simp] theorem w35 b K0:R127 (r127 b) K0 = K0 b:=by kernel_rfl
def z82 (k n:Nat) (b t7:List PV) (t8 t9:Int):R:=q0e P E T k 127 127 [] [1,0,1,0] [] n ⟨mkT 17 [(1,s0r b),(7,s0r t7),(8,s0i t8),(9,s0i t9)],[]⟩
def c129 (k:Nat) (p p1:Int) (p2 p3 v:List PV):R:=evF P E T k 129 [s0g p p1 p2 p3,s0a v] []
def r129 (b:Bool):R:=some ([.c (.p (PV.bool b))],[])
def R129:=R9
@[simp] theorem z80 b K0:R129 (r129 b) K0 = K0 b:=by kernel_rfl
def z3r (k n:Nat) (many:Int) (t20:List PV) (t21 t22:Int):R:=q0e P E T k 129 129 [] [1,1,1,0,1,0] [] n ⟨mkT 36 [(5,s0i many),(20,s0r t20),(21,s0i t21),(22,s0i t22)],[]⟩
def c132 (k:Nat) (p p1:Int) (p2 p3:List PV):R:=evF P E T k 132 [s0g p p1 p2 p3] []
def r132 (b:Bool):R:=some ([.c (.p (PV.bool b))],[])
def R132:=R9
@[simp] theorem w5e b K0:R132 (r132 b) K0 = K0 b:=by kernel_rfl
def x8r:=q46
@[simp] theorem w0x b K0:x8r (r132 b) K0 = K0 b:=by kernel_rfl
def y0q (k n:Nat) (t18:List PV) (t19 t20 n1 n11:Int) (l l1:List PV):R:=q0e P E T k 132 132 [] [1,1,0,1,0] [] n ⟨mkT 29 [(1,.s (.c (.bptr 0 0))),(18,s0m t18),(19,s0i t19),(20,s0i t20)],[b0g n1 n11 l l1]⟩
def c133 (k:Nat) (p p1:Int) (p2 p3 l:List PV) (n1 n11:Int):R:=evF P E T k 133 [.s (.c (.bptr 0 0)),s0g p p1 p2 p3] [[p0r l,p0n n1,.p (PV.int .u64 n11)]]
def r133 (l:List PV) (qr qr1:Int) (l1:List PV):R:=some ([.agg [.p (PV.row 0 0 l1)]],[[.p (PV.row 0 0 l),.p (PV.int .i64 qr),.p (PV.int .u64 qr1)]])
def R133 (x0:R) (K0:List PV->Int->Int->List PV->R):R:=x0.bind fun q0=>bif q0w q0.2 [[.p (.row 0),.p (.int .i64),.p (.int .u64)]] && q00 q0.1 [.agg [.p (.row 0)]] then (cRow (q0v q0.2 0 0) 0).bind fun l=>(cInt (q0v q0.2 0 1) .i64).bind fun qr=>(cInt (q0v q0.2 0 2) .u64).bind fun qr1=>(cRow (Dp.partAt q0.1 0 0) 0).bind fun l1=>K0 l qr qr1 l1 else none
@[simp] theorem w5i l qr qr1 l1 K0:R133 (r133 l qr qr1 l1) K0 = K0 l qr qr1 l1:=by kernel_rfl
def c134 (k:Nat) (p p1:Int) (p2 p3 v:List PV):R:=evF P E T k 134 [s0g p p1 p2 p3,s0a v] []
def r134 (l:List PV) (b:Bool):R:=some ([.c (.p (PV.row 0 0 l)),.c (.p (PV.bool b))],[])
def R134:=R26
@[simp] theorem w4r l b K0:R134 (r134 l b) K0 = K0 l b:=by kernel_rfl
def c135 (k:Nat) (p p1:Int) (p2 p3 v:List PV) (class1:Int):R:=evF P E T k 135 [s0g p p1 p2 p3,s0a v,s0i class1] []
def r135 (l:List PV) (b:Bool):R:=some ([.c (.p (PV.row 0 0 l)),.c (.p (PV.bool b))],[])
def R135:=R26
@[simp] theorem w2s l b K0:R135 (r135 l b) K0 = K0 l b:=by kernel_rfl
def c136 (k:Nat) (l:List PV) (n1 n11:Int):R:=evF P E T k 136 [.s (.c (.bptr 0 0))] [[p0r l,p0n n1,.p (PV.int .u64 n11)]]
def r136 (l:List PV) (qr qr1 qr2:Int):R:=some ([.c (.p (PV.int .i64 qr2))],[[.p (PV.row 0 0 l),.p (PV.int .i64 qr),.p (PV.int .u64 qr1)]])
def R136:=R56
@[simp] theorem x5j l qr qr1 qr2 K0:R136 (r136 l qr qr1 qr2) K0 = K0 l qr qr1 qr2:=by kernel_rfl
def c139 (k:Nat) (qs:List PV):R:=evF P E T k 139 [s0r qs] []
def r139 (l:List PV):R:=some ([.c (.own 3 0 l)],[])
def z5f (x0:R) (K0:List PV->R):R:=x0.bind fun q0=>bif q0.1.all q04 && q0.2.all (fun cs=>cs.all q1u) then (bif q0w q0.2 [] && q00 q0.1 [.c (.own 3 0)] then (q3j 3 0 (q0x q0.1 0)).bind fun l=>K0 l else none) else none
def c140 (k:Nat) (n1 lo hi:Int):R:=evF P E T k 140 [s0i n1,s0i lo,s0i hi] []
def r140 (b:Bool):R:=some ([.c (.p (PV.bool b))],[])
def R140:=R9
@[simp] theorem q5m b K0:R140 (r140 b) K0 = K0 b:=by kernel_rfl
def c141 (k:Nat) (v l:List PV):R:=evF P E T k 141 [s0a v,s0r l] []
def r141 (b:Bool):R:=some ([.c (.p (PV.bool b))],[])
def R141:=R9
@[simp] theorem w3q b K0:R141 (r141 b) K0 = K0 b:=by kernel_rfl
def z73 (k:Nat) (qs:List PV) (n1:Int):R:=evF P E T k 143 [s0r qs,.s (.c (.cfn 153 [PV.agg [.int .i64 n1]]))] []
def q8t (qr:Int):R:=some ([.c (.p (PV.int .i64 qr))],[])
def y30:=R85p
@[simp] theorem y9a qr K0:y30 (q8t qr) K0 = K0 qr:=by kernel_rfl
def q7u (k n:Nat) (qs:List PV) (n1 t7 t8:Int):R:=q0e P E T k 143 154143 [] [1,0,1,0] [] n ⟨mkT 19 [(0,s0r qs),(1,.s (.c (.cfn 153 [PV.agg [.int .i64 n1]]))),(7,s0i t7),(8,s0i t8)],[]⟩
def z70 (k:Nat) (qs:List PV) (n1 n11:Int) (l l1 l2:List PV) (n12:Int):R:=evF P E T k 143 [s0r qs,.s (.c (.cfn 174 [PV.agg [.int .i64 n1,.int .i64 n11,.row 2 0 l,.row 2 0 l1],PV.agg [.row 0 0 l2],PV.agg [.int .i64 n12]]))] []
def q8k (qr:Int):R:=some ([.c (.p (PV.int .i64 qr))],[])
def y4k:=R85p
@[simp] theorem y9y qr K0:y4k (q8k qr) K0 = K0 qr:=by kernel_rfl
def q7x (k n:Nat) (qs:List PV) (n1 n11:Int) (l l1 l2:List PV) (n12 t7 t8:Int):R:=q0e P E T k 143 175143 [] [1,0,1,0] [] n ⟨mkT 19 [(0,s0r qs),(1,.s (.c (.cfn 174 [PV.agg [.int .i64 n1,.int .i64 n11,.row 2 0 l,.row 2 0 l1],PV.agg [.row 0 0 l2],PV.agg [.int .i64 n12]]))),(7,s0i t7),(8,s0i t8)],[]⟩
def z8k (k:Nat) (qs l:List PV) (n1:Int):R:=evF P E T k 143 [s0r qs,.s (.c (.cfn 172 [PV.agg [.row 0 0 l],PV.agg [.int .i64 n1]]))] []
def q84 (qr:Int):R:=some ([.c (.p (PV.int .i64 qr))],[])
def y28:=R85p
@[simp] theorem y9p qr K0:y28 (q84 qr) K0 = K0 qr:=by kernel_rfl
def q75 (k n:Nat) (qs l:List PV) (n1 t7 t8:Int):R:=q0e P E T k 143 173143 [] [1,0,1,0] [] n ⟨mkT 19 [(0,s0r qs),(1,.s (.c (.cfn 172 [PV.agg [.row 0 0 l],PV.agg [.int .i64 n1]]))),(7,s0i t7),(8,s0i t8)],[]⟩
def z7x (k:Nat) (qs l:List PV) (n1:Int):R:=evF P E T k 143 [s0r qs,.s (.c (.cfn 175 [PV.agg [.row 0 0 l],PV.agg [.int .i64 n1]]))] []
def q8e (qr:Int):R:=some ([.c (.p (PV.int .i64 qr))],[])
def y4m:=R85p
@[simp] theorem y89 qr K0:y4m (q8e qr) K0 = K0 qr:=by kernel_rfl
def q7w (k n:Nat) (qs l:List PV) (n1 t7 t8:Int):R:=q0e P E T k 143 176143 [] [1,0,1,0] [] n ⟨mkT 19 [(0,s0r qs),(1,.s (.c (.cfn 175 [PV.agg [.row 0 0 l],PV.agg [.int .i64 n1]]))),(7,s0i t7),(8,s0i t8)],[]⟩
def z8l (k:Nat) (qs:List PV) (n1 n11:Int) (l l1 l2:List PV):R:=evF P E T k 143 [s0r qs,.s (.c (.cfn 291 [PV.agg [.int .i64 n1,.int .i64 n11,.row 2 0 l,.row 2 0 l1],PV.agg [.row 2 0 l2]]))] []
def q8i (qr:Int):R:=some ([.c (.p (PV.int .i64 qr))],[])
def y4d:=R85p
@[simp] theorem x0f qr K0:y4d (q8i qr) K0 = K0 qr:=by kernel_rfl
def q7s (k n:Nat) (qs:List PV) (n1 n11:Int) (l l1 l2:List PV) (t7 t8:Int):R:=q0e P E T k 143 292143 [] [1,0,1,0] [] n ⟨mkT 19 [(0,s0r qs),(1,.s (.c (.cfn 291 [PV.agg [.int .i64 n1,.int .i64 n11,.row 2 0 l,.row 2 0 l1],PV.agg [.row 2 0 l2]]))),(7,s0i t7),(8,s0i t8)],[]⟩
def y8a (k:Nat) (qs:List PV) (n1:Int):R:=evF P E T k 143 [s0r qs,.s (.c (.fn 276 [0]))] [[p0n n1]]
def q8o (qr qr1:Int):R:=some ([.c (.p (PV.int .i64 qr1))],[[.p (PV.int .i64 qr)]])
def y6p (x0:R) (K0:Int->Int->R):R:=x0.bind fun q0=>bif q0w q0.2 [[.p (.int .i64)]] && q00 q0.1 [.c (.p (.int .i64))] then (cInt (q0v q0.2 0 0) .i64).bind fun qr=>(cInt (q0x q0.1 0) .i64).bind fun qr1=>K0 qr qr1 else none
@[simp] theorem x3l qr qr1 K0:y6p (q8o qr qr1) K0 = K0 qr qr1:=by kernel_rfl
def q6h (k n:Nat) (qs:List PV) (t7 t8 n1:Int):R:=q0e P E T k 143 277143 [1] [1,0,1,0] [] n ⟨mkT 19 [(0,s0r qs),(1,.s (.c (.fn 276 [0]))),(7,s0i t7),(8,s0i t8)],[.box [p0n n1]]⟩
def c145 (k:Nat) (p p1:Int) (p2 p3 qs:List PV):R:=evF P E T k 145 [s0g p p1 p2 p3,s0r qs] []
def r145 (qr:Int):R:=some ([.c (.p (PV.int .i64 qr))],[])
def R145:=R84
@[simp] theorem w5q qr K0:R145 (r145 qr) K0 = K0 qr:=by kernel_rfl
def z97 (k n:Nat) (no:Int) (t8:List PV) (t9 t10 n1 n11:Int) (l l1:List PV):R:=q0e P E T k 145 145 [] [1,1,0,1,0] [] n ⟨mkT 26 [(2,.s (.c (.bptr 0 0))),(5,s0i no),(8,s0r t8),(9,s0i t9),(10,s0i t10)],[b0g n1 n11 l l1]⟩
def c146 (k:Nat) (p p1:Int) (p2 p3 qc qc1 qs:List PV):R:=evF P E T k 146 [s0g p p1 p2 p3,.s (.c (.p (PV.agg [.row 2 0 qc,.row 2 0 qc1]))),s0r qs] []
def r146 (l:List PV):R:=some ([.c (.p (PV.row 0 0 l))],[])
def R146:=R68
@[simp] theorem w34 l K0:R146 (r146 l) K0 = K0 l:=by kernel_rfl
def y0h (k n:Nat) (qs:List PV) (outLen:Nat) (t13:List PV) (t14 t15 n1 n11:Int) (l l1 xs:List PV):R:=q0e P E T k 146 146 [] [1,1,0,1,0] [] n ⟨mkT 31 [(2,s0r qs),(3,.s (.c (.bptr 0 0))),(7,s0z 1 outLen),(13,s0m t13),(14,s0i t14),(15,s0i t15)],[b0g n1 n11 l l1,.arr 76 0 0 false xs]⟩
def c149 (k:Nat) (wide:Int) (t state:List PV):R:=evF P E T k 149 [s0i wide,s0m t,s0r state] []
def r149 (qr:Int):R:=some ([.c (.p (PV.int .u64 qr))],[])
def R149 (x0:R) (K0:Int->R):R:=x0.bind fun q0=>bif q0w q0.2 [] && q00 q0.1 [.c (.p (.int .u64))] then (cInt (q0x q0.1 0) .u64).bind fun qr=>K0 qr else none
@[simp] theorem y08 qr K0:R149 (r149 qr) K0 = K0 qr:=by kernel_rfl
def q6d (k n:Nat) (wide:Int) (state:List PV) (stackLen:Nat) (t12:List PV) (t13 t14:Int) (xs:List PV):R:=q0e P E T k 149 149 [] [1,1,0,1,0] [] n ⟨mkT 87 [(0,s0i wide),(2,s0r state),(7,s0z 0 stackLen),(12,s0m t12),(13,s0i t13),(14,s0i t14)],[.arr 76 0 0 false xs]⟩
def c150 (k:Nat) (wide:Int):R:=evF P E T k 150 [s0i wide] []
def r150 (qr:Int):R:=some ([.c (.p (PV.int .u64 qr))],[])
def R150:=R149
@[simp] theorem z02 qr K0:R150 (r150 qr) K0 = K0 qr:=by kernel_rfl
def c151 (k:Nat) (wide vars deep:Int) (l:List PV) (n1 n11:Int):R:=evF P E T k 151 [.s (.c (.bptr 0 0)),s0i wide,s0i vars,s0i deep] [[p0r l,p0n n1,.p (PV.int .u64 n11)]]
def r151 (l:List PV) (qr qr1:Int) (l1:List PV):R:=some ([.c (.own 133 2 l1)],[[.p (PV.row 0 0 l),.p (PV.int .i64 qr),.p (PV.int .u64 qr1)]])
def R151 (x0:R) (K0:List PV->Int->Int->List PV->R):R:=x0.bind fun q0=>bif q0w q0.2 [[.p (.row 0),.p (.int .i64),.p (.int .u64)]] && q00 q0.1 [.c (.own 133 2)] then (cRow (q0v q0.2 0 0) 0).bind fun l=>(cInt (q0v q0.2 0 1) .i64).bind fun qr=>(cInt (q0v q0.2 0 2) .u64).bind fun qr1=>(q3j 133 2 (q0x q0.1 0)).bind fun l1=>K0 l qr qr1 l1 else none
@[simp] theorem z1a l qr qr1 l1 K0:R151 (r151 l qr qr1 l1) K0 = K0 l qr qr1 l1:=by kernel_rfl
def c152 (k:Nat) (n1:Int):R:=evF P E T k 152 [s0i n1] []
def r152 (qr:Int):R:=some ([.c (.p (PV.int .i64 qr))],[])
def R152:=R84
@[simp] theorem w2j qr K0:R152 (r152 qr) K0 = K0 qr:=by kernel_rfl
def c153 (k:Nat) (class1 n1:Int):R:=evF P E T k 153 [s0i class1,.s (.c (.eptr (PV.agg [.int .i64 n1]) 1 0))] []
def r153 (b:Bool):R:=some ([.c (.p (PV.bool b))],[])
def R153:=R9
@[simp] theorem w2n b K0:R153 (r153 b) K0 = K0 b:=by kernel_rfl
def z8c (k:Nat) (qs:List PV) (n1 n11:Int) (l l1:List PV):R:=evF P E T k 154 [s0r qs,.s (.c (.cfn 155 [PV.agg [.int .i64 n1,.int .i64 n11,.row 2 0 l,.row 2 0 l1]]))] []
def z8f (b:Bool):R:=some ([.c (.p (PV.bool b))],[])
def y4q:=q46
@[simp] theorem y9v b K0:y4q (z8f b) K0 = K0 b:=by kernel_rfl
def z8r (k:Nat) (qs l:List PV):R:=evF P E T k 154 [s0r qs,.s (.c (.cfn 217 [PV.agg [.row 2 0 l]]))] []
def z7n (b:Bool):R:=some ([.c (.p (PV.bool b))],[])
def y4j:=q46
@[simp] theorem y9o b K0:y4j (z7n b) K0 = K0 b:=by kernel_rfl
def z8h (k:Nat) (qs:List PV) (n1 n11:Int):R:=evF P E T k 154 [s0r qs,.s (.c (.fn 288 [0,1]))] [[p0n n1],[p0n n11]]
def z8j (qr qr1:Int) (b:Bool):R:=some ([.c (.p (PV.bool b))],[[.p (PV.int .i64 qr)],[.p (PV.int .i64 qr1)]])
def z7o (x0:R) (K0:Int->Int->Bool->R):R:=x0.bind fun q0=>bif q0w q0.2 [[.p (.int .i64)],[.p (.int .i64)]] && q00 q0.1 [.c (.p (.bool))] then (cInt (q0v q0.2 0 0) .i64).bind fun qr=>(cInt (q0v q0.2 1 0) .i64).bind fun qr1=>(q2u (q0x q0.1 0)).bind fun b=>K0 qr qr1 b else none
@[simp] theorem x2u qr qr1 b K0:z7o (z8j qr qr1 b) K0 = K0 qr qr1 b:=by kernel_rfl
def c155 (k:Nat) (t:List PV) (n1 n11:Int) (l l1:List PV):R:=evF P E T k 155 [s0m t,.s (.c (.eptr (PV.agg [.int .i64 n1,.int .i64 n11,.row 2 0 l,.row 2 0 l1]) 4 0))] []
def r155 (b:Bool):R:=some ([.c (.p (PV.bool b))],[])
def R155:=R9
@[simp] theorem w4c b K0:R155 (r155 b) K0 = K0 b:=by kernel_rfl
def c156 (k:Nat) (p p1:Int) (p2 p3 v path:List PV):R:=evF P E T k 156 [s0g p p1 p2 p3,s0a v,s0r path] []
def r156 (l:List PV) (b:Bool):R:=some ([.c (.p (PV.row 0 0 l)),.c (.p (PV.bool b))],[])
def R156:=R26
@[simp] theorem x6f l b K0:R156 (r156 l b) K0 = K0 l b:=by kernel_rfl
def x5h (k:Nat) (along:List PV):R:=w0s P E T k 156 156 [] [1,1,0] [] ⟨mkT 23 [(8,.s (.c (.p (PV.row 0 0 along))))],[]⟩
def c157 (k:Nat) (p p1:Int) (p2 p3 preds:List PV):R:=evF P E T k 157 [s0g p p1 p2 p3,s0r preds] []
def r157 (l:List PV):R:=some ([.c (.p (PV.row 0 0 l))],[])
def R157:=R68
@[simp] theorem w48 l K0:R157 (r157 l) K0 = K0 l:=by kernel_rfl
def y1k (k n:Nat) (preds t17:List PV) (t18 t19 n1 n11:Int) (l l1:List PV) (Len:Nat) (xs:List PV):R:=q0e P E T k 157 157 [] [1,1,1,0,1,0] [] n ⟨mkT 54 [(1,s0r preds),(2,.s (.c (.bptr 0 0))),(5,.s (.c (.bptr 1 0))),(6,.s (.c (.fn 216 [1]))),(17,s0m t17),(18,s0i t18),(19,s0i t19)],[b0g n1 n11 l l1,.box [.loc 2 0 0 0 Len],.arr 24 0 0 false xs]⟩
def z4r (k n:Nat) (t28:List PV) (t29 t30 n1 n11:Int) (l l1:List PV) (Len:Nat) (xs:List PV):R:=q0e P E T k 157 157 [] [1,1,1,1,0,1,0] [] n ⟨mkT 54 [(2,.s (.c (.bptr 0 0))),(5,.s (.c (.bptr 1 0))),(6,.s (.c (.fn 216 [1]))),(28,s0r t28),(29,s0i t29),(30,s0i t30)],[b0g n1 n11 l l1,.box [.loc 2 0 0 0 Len],.arr 24 0 0 false xs]⟩
def z06 (k n1 n:Nat) (t t28:List PV) (t29 t30 t36 t37 n11 n12:Int) (l l1:List PV) (Len:Nat) (xs:List PV):R:=q0e P E T k 157 157 [] [1,1,1,1,0,1,0,0,1,1,0,0,1,1,0] [n1] n ⟨mkT 54 [(2,.s (.c (.bptr 0 0))),(5,.s (.c (.bptr 1 0))),(6,.s (.c (.fn 216 [1]))),(10,s0m t),(28,s0r t28),(29,s0i t29),(30,s0i t30),(36,s0i t36),(37,s0i t37)],[b0g n11 n12 l l1,.box [.loc 2 0 0 0 Len],.arr 24 0 0 false xs]⟩
def c158 (k:Nat) (p p1:Int) (p2 p3 terms a b:List PV):R:=evF P E T k 158 [s0g p p1 p2 p3,s0r terms,s0r a,s0r b] []
def r158 (qr:Int):R:=some ([.c (.p (PV.int .i64 qr))],[])
def R158:=R84
@[simp] theorem w3s qr K0:R158 (r158 qr) K0 = K0 qr:=by kernel_rfl
def c159 (k:Nat) (p p1:Int) (p2 p3 v t:List PV):R:=evF P E T k 159 [s0g p p1 p2 p3,s0a v,s0m t] []
def r159 (l:List PV) (b:Bool):R:=some ([.agg [.p (PV.row 0 0 l)],.c (.p (PV.bool b))],[])
def R159:=R20
@[simp] theorem w3h l b K0:R159 (r159 l b) K0 = K0 l b:=by kernel_rfl
def c160 (k:Nat) (p p1:Int) (p2 p3 preds:List PV):R:=evF P E T k 160 [s0g p p1 p2 p3,s0r preds] []
def r160 (l:List PV):R:=some ([.c (.p (PV.row 0 0 l))],[])
def R160:=R68
@[simp] theorem w5p l K0:R160 (r160 l) K0 = K0 l:=by kernel_rfl
def z90 (k n:Nat) (preds:List PV) (outLen:Nat) (t14:List PV) (t15 t16 n1 n11:Int) (l l1 xs:List PV):R:=q0e P E T k 160 160 [] [1,1,0,1,0] [] n ⟨mkT 51 [(1,s0r preds),(2,.s (.c (.bptr 0 0))),(5,s0z 1 outLen),(14,s0m t14),(15,s0i t15),(16,s0i t16)],[b0g n1 n11 l l1,.arr 24 0 0 false xs]⟩
def z41 (k n:Nat) (outLen:Nat) (t25:List PV) (t26 t27 n1 n11:Int) (l l1 xs:List PV):R:=q0e P E T k 160 160 [] [1,1,1,0,1,0] [] n ⟨mkT 51 [(2,.s (.c (.bptr 0 0))),(5,s0z 1 outLen),(25,s0r t25),(26,s0i t26),(27,s0i t27)],[b0g n1 n11 l l1,.arr 24 0 0 false xs]⟩
def z0t (k n1 n:Nat) (outLen:Nat) (t t25:List PV) (t26 t27 t33 t34 n11 n12:Int) (l l1 xs:List PV):R:=q0e P E T k 160 160 [] [1,1,1,0,1,0,0,1,1,0,0,1,1,0] [n1] n ⟨mkT 51 [(2,.s (.c (.bptr 0 0))),(5,s0z 1 outLen),(9,s0m t),(25,s0r t25),(26,s0i t26),(27,s0i t27),(33,s0i t33),(34,s0i t34)],[b0g n11 n12 l l1,.arr 24 0 0 false xs]⟩
def c161 (k:Nat) (p p1:Int) (p2 p3 terms a b:List PV):R:=evF P E T k 161 [s0g p p1 p2 p3,s0r terms,s0r a,s0r b] []
def r161 (qr:Int):R:=some ([.c (.p (PV.int .i64 qr))],[])
def R161:=R84
@[simp] theorem w5r qr K0:R161 (r161 qr) K0 = K0 qr:=by kernel_rfl
def z9e (k n:Nat) (a b t11:List PV) (t12 t13 n1 n11:Int) (l l1:List PV):R:=q0e P E T k 161 161 [] [1,0,1,0] [] n ⟨mkT 25 [(2,s0r a),(3,s0r b),(4,.s (.c (.bptr 0 0))),(11,s0r t11),(12,s0i t12),(13,s0i t13)],[b0g n1 n11 l l1]⟩
def c162 (k:Nat) (p p1:Int) (p2 p3 v:List PV) (class1 to:Int):R:=evF P E T k 162 [s0g p p1 p2 p3,s0a v,s0i class1,s0i to] []
def r162 (l:List PV):R:=some ([.c (.p (PV.row 0 0 l))],[])
def R162:=R68
@[simp] theorem w3k l K0:R162 (r162 l) K0 = K0 l:=by kernel_rfl
def z4j (k n:Nat) (to:Int) (outLen:Nat) (t14:List PV) (t15 t16 n1 n11:Int) (l l1 l2 xs:List PV):R:=q0e P E T k 162 162 [] [1,1,0,1,0] [] n ⟨mkT 33 [(3,s0i to),(4,.s (.c (.bptr 0 0))),(5,.s (.c (.bptr 1 0))),(9,s0z 2 outLen),(14,s0r t14),(15,s0i t15),(16,s0i t16)],[b0g n1 n11 l l1,.box [p0r l2],.arr 3 0 0 false xs]⟩
def c163 (k:Nat) (l:List PV) (n1:Int):R:=evF P E T k 163 [s0r l,s0i n1] []
def r163 (b:Bool):R:=some ([.c (.p (PV.bool b))],[])
def R163:=R9
@[simp] theorem z95 b K0:R163 (r163 b) K0 = K0 b:=by kernel_rfl
def z84 (k n:Nat) (n1:Int) (t7:List PV) (t8 t9:Int):R:=q0e P E T k 163 163 [] [1,0,1,0] [] n ⟨mkT 17 [(1,s0i n1),(7,s0r t7),(8,s0i t8),(9,s0i t9)],[]⟩
def c164 (k:Nat) (keys:List PV):R:=evF P E T k 164 [s0r keys] []
def r164 (l:List PV):R:=some ([.agg [.own 3 0 l]],[])
def x8y:=R98p
def q55 (k n:Nat) (keys:List PV) (many:Int) (t9:List PV) (t10 t11:Int) (Len Len1:Nat) (xs xs1:List PV):R:=q0e P E T k 164 164 [] [1,1,1,0,1,0] [] n ⟨mkT 46 [(0,s0r keys),(2,.s (.c (.bptr 0 0))),(3,.s (.c (.bptr 1 0))),(4,s0i many),(9,s0r t9),(10,s0i t10),(11,s0i t11)],[.box [.loc 2 0 0 0 Len],.box [.loc 3 0 0 0 Len1],.arr 3 0 0 false xs,.arr 3 0 0 false xs1]⟩
def z30 (k n1 n:Nat) (keys:List PV) (many i key class1 j:Int) (t9:List PV) (t10 t11:Int) (Len Len1:Nat) (xs xs1:List PV):R:=q0e P E T k 164 164 [] [1,1,1,0,1,0,0,1,1,0,0,1,1,0,1,0] [n1] n ⟨mkT 46 [(0,s0r keys),(2,.s (.c (.bptr 0 0))),(3,.s (.c (.bptr 1 0))),(4,s0i many),(5,s0i i),(6,s0i key),(7,s0i class1),(8,s0i j),(9,s0r t9),(10,s0i t10),(11,s0i t11)],[.box [.loc 2 0 0 0 Len],.box [.loc 3 0 0 0 Len1],.arr 3 0 0 false xs,.arr 3 0 0 false xs1]⟩
def c165 (k:Nat) (v:List PV) (states:Int):R:=evF P E T k 165 [s0a v,s0i states] []
def r165 (b:Bool):R:=some ([.c (.p (PV.bool b))],[])
def R165:=R9
@[simp] theorem w4x b K0:R165 (r165 b) K0 = K0 b:=by kernel_rfl
def z0f (k n:Nat) (states classes:Int) (t9:List PV) (t10 t11:Int) (l:List PV):R:=q0e P E T k 165 165 [] [1,1,0,1,0] [] n ⟨mkT 33 [(1,s0i states),(2,.s (.c (.bptr 0 0))),(5,s0i classes),(9,s0r t9),(10,s0i t10),(11,s0i t11)],[.box [p0r l]]⟩
def c166 (k:Nat) (keys:List PV):R:=evF P E T k 166 [s0m keys] []
def r166 (l:List PV):R:=some ([.agg [.own 3 0 l]],[])
def x2i:=R98p
def c167 (k:Nat) (x:List PV):R:=evF P E T k 167 [s0r x] []
def r167 (qr:Int):R:=some ([.c (.p (PV.int .i64 qr))],[])
def R167:=R84
@[simp] theorem w22 qr K0:R167 (r167 qr) K0 = K0 qr:=by kernel_rfl
def z5b (k n:Nat) (x:List PV) (m i:Int):R:=q0e P E T k 167 167 [] [1,1,1,0,1,0] [] n ⟨mkT 25 [(0,s0r x),(3,s0i m),(4,s0i i)],[]⟩
def z7q (k:Nat) (qs:List PV):R:=evF P E T k 168 [s0r qs,.s (.c (.cfn 169 []))] []
def q83 (qr:Int):R:=some ([.c (.p (PV.int .i64 qr))],[])
def y4f:=R85p
@[simp] theorem x0g qr K0:y4f (q83 qr) K0 = K0 qr:=by kernel_rfl
def q78 (k n:Nat) (qs:List PV) (t7 t8:Int):R:=q0e P E T k 168 170168 [] [1,0,1,0] [] n ⟨mkT 19 [(0,s0r qs),(1,.s (.c (.cfn 169 []))),(7,s0i t7),(8,s0i t8)],[]⟩
def c169 (k:Nat) (list:List PV):R:=evF P E T k 169 [s0r list] []
def r169 (b:Bool):R:=some ([.c (.p (PV.bool b))],[])
def R169:=R9
@[simp] theorem w5a b K0:R169 (r169 b) K0 = K0 b:=by kernel_rfl
def c170 (k:Nat) (list:List PV):R:=evF P E T k 170 [s0r list] []
def r170 (l:List PV):R:=some ([.c (.own 3 0 l)],[])
def x8n:=z5f
def z3t (k n:Nat) (outLen:Nat) (t7:List PV) (t8 t9:Int) (xs:List PV):R:=q0e P E T k 170 170 [] [1,1,0,1,0] [] n ⟨mkT 21 [(3,s0z 0 outLen),(7,s0r t7),(8,s0i t8),(9,s0i t9)],[.arr 3 0 0 false xs]⟩
def z7r (k:Nat) (qs:List PV) (n1 n11:Int) (l l1 l2:List PV) (n12:Int):R:=evF P E T k 171 [.s (.c (.own 3 0 qs)),.s (.c (.cfn 174 [PV.agg [.int .i64 n1,.int .i64 n11,.row 2 0 l,.row 2 0 l1],PV.agg [.row 0 0 l2],PV.agg [.int .i64 n12]]))] []
def q88 (l:List PV):R:=some ([.c (.own 3 0 l)],[])
def y24:=z5f
def q6e (k n:Nat) (sLen:Nat) (n1 n11:Int) (l l1 l2:List PV) (n12 i j:Int) (xs:List PV):R:=q0e P E T k 171 175171 [] [1,1,1,0,1,0] [] n ⟨mkT 42 [(0,s0z 0 sLen),(1,.s (.c (.cfn 174 [PV.agg [.int .i64 n1,.int .i64 n11,.row 2 0 l,.row 2 0 l1],PV.agg [.row 0 0 l2],PV.agg [.int .i64 n12]]))),(5,s0i i),(6,s0i j)],[.arr 3 0 0 false xs]⟩
def q9a (k:Nat) (qs l:List PV) (n1:Int):R:=evF P E T k 171 [.s (.c (.own 3 0 qs)),.s (.c (.cfn 172 [PV.agg [.row 0 0 l],PV.agg [.int .i64 n1]]))] []
def q6m (l:List PV):R:=some ([.c (.own 3 0 l)],[])
def z4p:=z5f
def q6a (k n:Nat) (sLen:Nat) (l:List PV) (n1 i j:Int) (xs:List PV):R:=q0e P E T k 171 173171 [] [1,1,1,0,1,0] [] n ⟨mkT 42 [(0,s0z 0 sLen),(1,.s (.c (.cfn 172 [PV.agg [.row 0 0 l],PV.agg [.int .i64 n1]]))),(5,s0i i),(6,s0i j)],[.arr 3 0 0 false xs]⟩
def c172 (k:Nat) (no:Int) (l:List PV) (n1:Int):R:=evF P E T k 172 [s0i no,.s (.c (.eptr (PV.agg [.row 0 0 l]) 1 0)),.s (.c (.eptr (PV.agg [.int .i64 n1]) 1 0))] []
def r172 (b:Bool):R:=some ([.c (.p (PV.bool b))],[])
def R172:=R9
@[simp] theorem x46 b K0:R172 (r172 b) K0 = K0 b:=by kernel_rfl
def c173 (k:Nat) (v:List PV) (class1:Int):R:=evF P E T k 173 [s0a v,s0i class1] []
def r173 (l:List PV):R:=some ([.c (.own 3 0 l)],[])
def R173:=R110
@[simp] theorem w4m l K0:R173 (r173 l) K0 = K0 l:=by kernel_rfl
def z32 (k n:Nat) (class1:Int) (outLen:Nat) (t10:List PV) (t11 t12:Int) (xs:List PV):R:=q0e P E T k 173 173 [] [1,1,0,1,0] [] n ⟨mkT 26 [(1,s0i class1),(5,s0z 0 outLen),(10,s0r t10),(11,s0i t11),(12,s0i t12)],[.arr 3 0 0 false xs]⟩
def c174 (k:Nat) (no n1 n11:Int) (l l1 l2:List PV) (n12:Int):R:=evF P E T k 174 [s0i no,.s (.c (.eptr (PV.agg [.int .i64 n1,.int .i64 n11,.row 2 0 l,.row 2 0 l1]) 4 0)),.s (.c (.eptr (PV.agg [.row 0 0 l2]) 1 0)),.s (.c (.eptr (PV.agg [.int .i64 n12]) 1 0))] []
def r174 (b:Bool):R:=some ([.c (.p (PV.bool b))],[])
def R174:=R9
@[simp] theorem x6h b K0:R174 (r174 b) K0 = K0 b:=by kernel_rfl
def c175 (k:Nat) (next:Int) (l:List PV) (n1:Int):R:=evF P E T k 175 [s0i next,.s (.c (.eptr (PV.agg [.row 0 0 l]) 1 0)),.s (.c (.eptr (PV.agg [.int .i64 n1]) 1 0))] []
def r175 (b:Bool):R:=some ([.c (.p (PV.bool b))],[])
def R175:=R9
@[simp] theorem w46 b K0:R175 (r175 b) K0 = K0 b:=by kernel_rfl
def c177 (k:Nat) (list l:List PV) (n1 n11:Int):R:=evF P E T k 177 [.s (.c (.bptr 0 0)),s0r list] [[p0r l,p0n n1,.p (PV.int .u64 n11)]]
def r177 (l:List PV) (qr qr1 qr2:Int):R:=some ([.c (.p (PV.int .i64 qr2))],[[.p (PV.row 0 0 l),.p (PV.int .i64 qr),.p (PV.int .u64 qr1)]])
def R177:=R56
@[simp] theorem z0x l qr qr1 qr2 K0:R177 (r177 l qr qr1 qr2) K0 = K0 l qr qr1 qr2:=by kernel_rfl
def c181 (k:Nat) (v states:List PV):R:=evF P E T k 181 [s0a v,s0r states] []
def r181 (l:List PV):R:=some ([.c (.p (PV.row 0 0 l))],[])
def R181:=R68
@[simp] theorem y8b l K0:R181 (r181 l) K0 = K0 l:=by kernel_rfl
def y0n (k n:Nat) (outLen:Nat) (t8:List PV) (t9 t10:Int) (l xs:List PV):R:=q0e P E T k 181 181 [] [1,1,0,1,0] [] n ⟨mkT 23 [(2,.s (.c (.bptr 0 0))),(5,s0z 1 outLen),(8,s0r t8),(9,s0i t9),(10,s0i t10)],[.box [p0r l],.arr 3 0 0 false xs]⟩
def c184 (k:Nat) (p p1:Int) (p2 p3:List PV) (no:Int):R:=evF P E T k 184 [s0g p p1 p2 p3,s0i no] []
def r184 (l:List PV):R:=some ([.c (.p (PV.row 0 0 l))],[])
def R184:=R68
@[simp] theorem x5u l K0:R184 (r184 l) K0 = K0 l:=by kernel_rfl
def z5c (k n:Nat) (no:Int) (qs:List PV) (outLen:Nat) (t14:List PV) (t15 t16 n1 n11:Int) (l l1 xs:List PV):R:=q0e P E T k 184 184 [] [1,1,1,0,1,0] [] n ⟨mkT 35 [(1,s0i no),(2,.s (.c (.bptr 0 0))),(5,s0r qs),(6,s0z 1 outLen),(14,s0r t14),(15,s0i t15),(16,s0i t16)],[b0g n1 n11 l l1,.arr 3 0 0 false xs]⟩
def c185 (k:Nat) (p p1:Int) (p2 p3:List PV):R:=evF P E T k 185 [s0g p p1 p2 p3] []
def r185 (b:Bool):R:=some ([.c (.p (PV.bool b))],[])
def R185:=R9
@[simp] theorem w3b b K0:R185 (r185 b) K0 = K0 b:=by kernel_rfl
def c187 (k:Nat) (wide vars:Int) (t:List PV) (kind:Int):R:=evF P E T k 187 [s0i wide,s0i vars,s0m t,s0i kind] []
def r187 (b:Bool):R:=some ([.c (.p (PV.bool b))],[])
def R187:=R9
@[simp] theorem y8p b K0:R187 (r187 b) K0 = K0 b:=by kernel_rfl
def c190 (k:Nat) (wide vars:Int) (l:List PV) (n1 n11:Int):R:=evF P E T k 190 [.s (.c (.bptr 0 0)),s0i wide,s0i vars] [[p0r l,p0n n1,.p (PV.int .u64 n11)]]
def r190 (l:List PV) (qr qr1 qr2 qr3:Int) (l1 l2:List PV):R:=some ([.agg [.p (PV.int .i64 qr2),.p (PV.int .i64 qr3),.p (PV.row 2 0 l1),.own ⟨136,some ⟨1,138,2,0,none⟩⟩ 2 l2]],[[.p (PV.row 0 0 l),.p (PV.int .i64 qr),.p (PV.int .u64 qr1)]])
def R190:=R118
@[simp] theorem w2k l qr qr1 qr2 qr3 l1 l2 K0:R190 (r190 l qr qr1 qr2 qr3 l1 l2) K0 = K0 l qr qr1 qr2 qr3 l1 l2:=by kernel_rfl
def z4s (k n:Nat) (wide vars n1:Int) (l:List PV) (n11 n12 n13 n14:Int) (l1 l2:List PV) (n15 n16:Int) (Len Len1:Nat) (xs xs1:List PV):R:=q0e P E T k 190 190 [3] [1,1,1,1,0,1,0] [] n ⟨mkT 44 [(0,.s (.c (.bptr 0 0))),(1,s0i wide),(2,s0i vars),(6,.s (.c (.bptr 1 0))),(7,.s (.c (.bptr 2 0))),(8,s0i n1)],[.box [p0r l,p0n n11,.p (PV.int .u64 n12)],b0g n13 n14 l1 l2,.box [p0n n15,p0n n16,.loc 3 0 2 0 Len,.loc 4 0 2 0 Len1],.arr 133 2 0 false xs,.arr ⟨136,some ⟨1,138,2,0,none⟩⟩ 2 0 false xs1]⟩
def c192 (k:Nat) (l:List PV) (n1:Int):R:=evF P E T k 192 [.s (.c (.own 3 0 l)),s0i n1] []
def r192 (l:List PV):R:=some ([.c (.own 3 0 l)],[])
def R192:=R110
@[simp] theorem z8u l K0:R192 (r192 l) K0 = K0 l:=by kernel_rfl
def z9f (k n:Nat) (lLen:Nat) (n1 k1:Int) (xs:List PV):R:=q0e P E T k 192 192 [] [1,1,0,0] [] n ⟨mkT 48 [(0,s0z 0 lLen),(1,s0i n1),(5,s0i k1)],[.arr 3 0 0 false xs]⟩
def c193 (k:Nat) (l:List PV) (lo hi:Int):R:=evF P E T k 193 [s0r l,s0i lo,s0i hi] []
def r193 (b:Bool):R:=some ([.c (.p (PV.bool b))],[])
def R193:=R9
@[simp] theorem w3l b K0:R193 (r193 b) K0 = K0 b:=by kernel_rfl
def z5a (k n:Nat) (l:List PV) (lo hi:Int) (t9:List PV) (t10 t11:Int):R:=q0e P E T k 193 193 [] [1,0,1,0] [] n ⟨mkT 35 [(0,s0r l),(1,s0i lo),(2,s0i hi),(9,s0r t9),(10,s0i t10),(11,s0i t11)],[]⟩
def c194 (k:Nat) (p p1:Int) (p2 p3 t qs:List PV):R:=evF P E T k 194 [s0g p p1 p2 p3,s0m t,s0r qs] []
def r194 (b:Bool):R:=some ([.c (.p (PV.bool b))],[])
def R194:=R9
@[simp] theorem x5y b K0:R194 (r194 b) K0 = K0 b:=by kernel_rfl
def c195 (k:Nat) (p p1:Int) (p2 p3:List PV) (no:Int):R:=evF P E T k 195 [s0g p p1 p2 p3,s0i no] []
def r195 (l:List PV):R:=some ([.c (.p (PV.row 0 0 l))],[])
def R195:=R68
@[simp] theorem x4m l K0:R195 (r195 l) K0 = K0 l:=by kernel_rfl
def z9b (k n:Nat) (no:Int) (outLen:Nat) (v n1 n11:Int) (l l1 xs:List PV):R:=q0e P E T k 195 195 [] [1,1,0,1,0] [] n ⟨mkT 31 [(1,s0i no),(2,.s (.c (.bptr 0 0))),(5,s0z 1 outLen),(6,s0i v)],[b0g n1 n11 l l1,.arr 76 0 0 false xs]⟩
def c196 (k:Nat) (wide vars:Int) (t:List PV):R:=evF P E T k 196 [s0i wide,s0i vars,s0m t] []
def r196 (qr:Int):R:=some ([.c (.p (PV.int .i64 qr))],[])
def R196:=R84
@[simp] theorem z9k qr K0:R196 (r196 qr) K0 = K0 qr:=by kernel_rfl
def z3u (k n:Nat) (wide vars:Int) (pileLen:Nat) (t27:List PV) (t28 t29:Int) (xs:List PV):R:=q0e P E T k 196 196 [] [1,1,1,0,1,0] [] n ⟨mkT 83 [(0,s0i wide),(1,s0i vars),(7,s0z 0 pileLen),(27,s0m t27),(28,s0i t28),(29,s0i t29)],[.arr 3 0 0 false xs]⟩
def y0y (k n1 n:Nat) (wide vars:Int) (pileLen:Nat) (many part own:Int) (t27:List PV) (t28 t29:Int) (xs:List PV):R:=q0e P E T k 196 196 [] [1,1,1,0,1,0,0,1,1,0,0,1,1,1,0,0] [n1] n ⟨mkT 83 [(0,s0i wide),(1,s0i vars),(7,s0z 0 pileLen),(10,s0i many),(11,s0i part),(12,s0i own),(27,s0m t27),(28,s0i t28),(29,s0i t29)],[.arr 3 0 0 false xs]⟩
def c198 (k:Nat) (p p1:Int) (p2 p3 qc qc1:List PV):R:=evF P E T k 198 [s0g p p1 p2 p3,.s (.c (.p (PV.agg [.row 2 0 qc,.row 2 0 qc1])))] []
def r198 (b:Bool):R:=some ([.c (.p (PV.bool b))],[])
def R198:=R9
@[simp] theorem w3j b K0:R198 (r198 b) K0 = K0 b:=by kernel_rfl
def z0l (k n:Nat) (t21:List PV) (t22 t23 n1 n11:Int) (l l1 l2 l3:List PV):R:=q0e P E T k 198 198 [] [1,1,0,1,0] [] n ⟨mkT 62 [(2,.s (.c (.bptr 0 0))),(3,.s (.c (.bptr 1 0))),(21,s0m t21),(22,s0i t22),(23,s0i t23)],[b0g n1 n11 l l1,.box [p0m l2,p0m l3]]⟩
def c199 (k:Nat) (p p1:Int) (p2 p3 preds:List PV):R:=evF P E T k 199 [s0g p p1 p2 p3,s0r preds] []
def r199 (l:List PV) (b:Bool):R:=some ([.agg [.own 3 0 l],.c (.p (PV.bool b))],[])
def R199 (x0:R) (K0:List PV->Bool->R):R:=x0.bind fun q0=>bif q0w q0.2 [] && q00 q0.1 [.agg [.own 3 0],.c (.p (.bool))] then (q3j 3 0 (Dp.partAt q0.1 0 0)).bind fun l=>(q2u (q0x q0.1 1)).bind fun b=>K0 l b else none
@[simp] theorem w3w l b K0:R199 (r199 l b) K0 = K0 l b:=by kernel_rfl
def c200 (k:Nat) (p p1:Int) (p2 p3 v some1:List PV):R:=evF P E T k 200 [s0g p p1 p2 p3,s0a v,s0r some1] []
def r200 (l:List PV) (b:Bool):R:=some ([.agg [.own 3 0 l],.c (.p (PV.bool b))],[])
def x8z (x0:R) (K0:List PV->Bool->R):R:=x0.bind fun q0=>bif q0.1.all q04 && q0.2.all (fun cs=>cs.all q1u) then (bif q0w q0.2 [] && q00 q0.1 [.agg [.own 3 0],.c (.p (.bool))] then (q3j 3 0 (Dp.partAt q0.1 0 0)).bind fun l=>(q2u (q0x q0.1 1)).bind fun b=>K0 l b else none) else none
def c201 (k:Nat) (p p1:Int) (p2 p3 v:List PV) (class1:Int):R:=evF P E T k 201 [s0g p p1 p2 p3,s0a v,s0i class1] []
def r201 (b:Bool):R:=some ([.c (.p (PV.bool b))],[])
def R201:=R9
@[simp] theorem w3x b K0:R201 (r201 b) K0 = K0 b:=by kernel_rfl
def c202 (k:Nat) (p p1:Int) (p2 p3 v:List PV) (class1:Int):R:=evF P E T k 202 [s0g p p1 p2 p3,s0a v,s0i class1] []
def r202 (l:List PV):R:=some ([.c (.p (PV.row 0 0 l))],[])
def R202:=R68
@[simp] theorem w3r l K0:R202 (r202 l) K0 = K0 l:=by kernel_rfl
def c207 (k:Nat) (l:List PV) (lo hi:Int):R:=evF P E T k 207 [s0r l,s0i lo,s0i hi] []
def r207 (b:Bool):R:=some ([.c (.p (PV.bool b))],[])
def R207:=R9
@[simp] theorem w24 b K0:R207 (r207 b) K0 = K0 b:=by kernel_rfl
def z89 (k n:Nat) (lo hi:Int) (t9:List PV) (t10 t11:Int):R:=q0e P E T k 207 207 [] [1,0,1,0] [] n ⟨mkT 21 [(1,s0i lo),(2,s0i hi),(9,s0r t9),(10,s0i t10),(11,s0i t11)],[]⟩
def c208 (k:Nat) (v:List PV):R:=evF P E T k 208 [s0a v] []
def r208 (qr:Int):R:=some ([.c (.p (PV.int .i64 qr))],[])
def R208:=R84
@[simp] theorem x5o qr K0:R208 (r208 qr) K0 = K0 qr:=by kernel_rfl
def z3d (k n:Nat) (many:Int) (t7:List PV) (t8 t9:Int):R:=q0e P E T k 208 208 [] [1,1,0,1,0] [] n ⟨mkT 20 [(3,s0i many),(7,s0r t7),(8,s0i t8),(9,s0i t9)],[]⟩
def c210 (k:Nat) (qs:List PV):R:=evF P E T k 210 [s0r qs] []
def r210 (l:List PV):R:=some ([.c (.own 76 0 l)],[])
def R210 (x0:R) (K0:List PV->R):R:=x0.bind fun q0=>bif q0w q0.2 [] && q00 q0.1 [.c (.own 76 0)] then (q3j 76 0 (q0x q0.1 0)).bind fun l=>K0 l else none
@[simp] theorem w4d l K0:R210 (r210 l) K0 = K0 l:=by kernel_rfl
def c213 (k:Nat) (wide op a b:Int):R:=evF P E T k 213 [s0i wide,s0i op,.s (.c (.p (PV.int .u64 a))),.s (.c (.p (PV.int .u64 b)))] []
def r213 (qr:Int):R:=some ([.c (.p (PV.int .u64 qr))],[])
def R213:=R149
@[simp] theorem w5c qr K0:R213 (r213 qr) K0 = K0 qr:=by kernel_rfl
def c214 (k:Nat) (wide vars deep:Int) (l:List PV) (n1 n11:Int):R:=evF P E T k 214 [.s (.c (.bptr 0 0)),s0i wide,s0i vars,s0i deep] [[p0r l,p0n n1,.p (PV.int .u64 n11)]]
def r214 (l:List PV) (qr qr1:Int) (l1:List PV):R:=some ([.c (.own 133 2 l1)],[[.p (PV.row 0 0 l),.p (PV.int .i64 qr),.p (PV.int .u64 qr1)]])
def R214:=R151
@[simp] theorem z0k l qr qr1 l1 K0:R214 (r214 l qr qr1 l1) K0 = K0 l qr qr1 l1:=by kernel_rfl
def z8q (k:Nat) (qs:List PV) (n1 n11:Int) (l l1:List PV):R:=evF P E T k 215 [s0r qs,.s (.c (.cfn 155 [PV.agg [.int .i64 n1,.int .i64 n11,.row 2 0 l,.row 2 0 l1]]))] []
def q85 (qr:Int):R:=some ([.c (.p (PV.int .i64 qr))],[])
def y3k:=R85p
@[simp] theorem y91 qr K0:y3k (q85 qr) K0 = K0 qr:=by kernel_rfl
def q7y (k n:Nat) (qs:List PV) (n1 n11:Int) (l l1:List PV) (t7 t8:Int):R:=q0e P E T k 215 156215 [] [1,0,1,0] [] n ⟨mkT 19 [(0,s0r qs),(1,.s (.c (.cfn 155 [PV.agg [.int .i64 n1,.int .i64 n11,.row 2 0 l,.row 2 0 l1]]))),(7,s0i t7),(8,s0i t8)],[]⟩
def z8p (k:Nat) (qs:List PV) (n1 n11:Int) (l l1 l2 l3:List PV):R:=evF P E T k 215 [s0r qs,.s (.c (.cfn 221 [PV.agg [.int .i64 n1,.int .i64 n11,.row 2 0 l,.row 2 0 l1],PV.agg [.row 0 0 l2],PV.agg [.row 0 0 l3]]))] []
def q8y (qr:Int):R:=some ([.c (.p (PV.int .i64 qr))],[])
def y37:=R85p
@[simp] theorem y81 qr K0:y37 (q8y qr) K0 = K0 qr:=by kernel_rfl
def q72 (k n:Nat) (qs:List PV) (n1 n11:Int) (l l1 l2 l3:List PV) (t7 t8:Int):R:=q0e P E T k 215 222215 [] [1,0,1,0] [] n ⟨mkT 19 [(0,s0r qs),(1,.s (.c (.cfn 221 [PV.agg [.int .i64 n1,.int .i64 n11,.row 2 0 l,.row 2 0 l1],PV.agg [.row 0 0 l2],PV.agg [.row 0 0 l3]]))),(7,s0i t7),(8,s0i t8)],[]⟩
def z8d (k:Nat) (qs l:List PV):R:=evF P E T k 215 [s0r qs,.s (.c (.cfn 217 [PV.agg [.row 2 0 l]]))] []
def q8q (qr:Int):R:=some ([.c (.p (PV.int .i64 qr))],[])
def y3b:=R85p
@[simp] theorem y9q qr K0:y3b (q8q qr) K0 = K0 qr:=by kernel_rfl
def q70 (k n:Nat) (qs l:List PV) (t7 t8:Int):R:=q0e P E T k 215 218215 [] [1,0,1,0] [] n ⟨mkT 19 [(0,s0r qs),(1,.s (.c (.cfn 217 [PV.agg [.row 2 0 l]]))),(7,s0i t7),(8,s0i t8)],[]⟩
def y8n (k:Nat) (qs:List PV) (n1 n11:Int):R:=evF P E T k 215 [s0r qs,.s (.c (.fn 288 [0,1]))] [[p0n n1],[p0n n11]]
def q8u (qr qr1 qr2:Int):R:=some ([.c (.p (PV.int .i64 qr2))],[[.p (PV.int .i64 qr)],[.p (PV.int .i64 qr1)]])
def y8g (x0:R) (K0:Int->Int->Int->R):R:=x0.bind fun q0=>bif q0w q0.2 [[.p (.int .i64)],[.p (.int .i64)]] && q00 q0.1 [.c (.p (.int .i64))] then (cInt (q0v q0.2 0 0) .i64).bind fun qr=>(cInt (q0v q0.2 1 0) .i64).bind fun qr1=>(cInt (q0x q0.1 0) .i64).bind fun qr2=>K0 qr qr1 qr2 else none
@[simp] theorem x2o qr qr1 qr2 K0:y8g (q8u qr qr1 qr2) K0 = K0 qr qr1 qr2:=by kernel_rfl
def q56 (k n:Nat) (qs:List PV) (t7 t8 n1 n11:Int):R:=q0e P E T k 215 289215 [1,1] [1,0,1,0] [] n ⟨mkT 19 [(0,s0r qs),(1,.s (.c (.fn 288 [0,1]))),(7,s0i t7),(8,s0i t8)],[.box [p0n n1],.box [p0n n11]]⟩
def c216 (k:Nat) (t l:List PV):R:=evF P E T k 216 [s0m t,.s (.c (.bptr 0 0))] [[.own 24 0 l]]
def r216 (l:List PV):R:=some ([],[[.own 24 0 l]])
def R216 (x0:R) (K0:List PV->R):R:=x0.bind fun q0=>bif q0w q0.2 [[.own 24 0]] && q00 q0.1 [] then (q3j 24 0 (q0v q0.2 0 0)).bind fun l=>K0 l else none
@[simp] theorem x5s l K0:R216 (r216 l) K0 = K0 l:=by kernel_rfl
def c217 (k:Nat) (own l:List PV):R:=evF P E T k 217 [s0m own,.s (.c (.eptr (PV.agg [.row 2 0 l]) 1 0))] []
def r217 (b:Bool):R:=some ([.c (.p (PV.bool b))],[])
def R217:=R9
@[simp] theorem w4s b K0:R217 (r217 b) K0 = K0 b:=by kernel_rfl
def c218 (k:Nat) (qs1 qs2:List PV):R:=evF P E T k 218 [s0m qs1,s0m qs2] []
def r218 (b:Bool):R:=some ([.c (.p (PV.bool b))],[])
def R218:=R9
@[simp] theorem w25 b K0:R218 (r218 b) K0 = K0 b:=by kernel_rfl
def y0t (k n:Nat) (qs1 qs2:List PV) (t12 t13:Int):R:=q0e P E T k 218 218 [] [1,1,0,1,0] [] n ⟨mkT 26 [(0,s0m qs1),(1,s0m qs2),(12,s0i t12),(13,s0i t13)],[]⟩
def c219 (k:Nat) (qs:List PV):R:=evF P E T k 219 [s0m qs] []
def r219 (l:List PV):R:=some ([.c (.own 133 2 l)],[])
def R219 (x0:R) (K0:List PV->R):R:=x0.bind fun q0=>bif q0w q0.2 [] && q00 q0.1 [.c (.own 133 2)] then (q3j 133 2 (q0x q0.1 0)).bind fun l=>K0 l else none
@[simp] theorem w3 l K0:R219 (r219 l) K0 = K0 l:=by kernel_rfl
def c220 (k:Nat) (p p1:Int) (p2 p3:List PV) (k1:Int) (t:List PV):R:=evF P E T k 220 [s0g p p1 p2 p3,s0i k1,s0m t] []
def r220 (l:List PV) (b:Bool):R:=some ([.c (.p (PV.row 2 0 l)),.c (.p (PV.bool b))],[])
def R220 (x0:R) (K0:List PV->Bool->R):R:=x0.bind fun q0=>bif q0w q0.2 [] && q00 q0.1 [.c (.p (.row 2)),.c (.p (.bool))] then (cRow (q0x q0.1 0) 2).bind fun l=>(q2u (q0x q0.1 1)).bind fun b=>K0 l b else none
@[simp] theorem w4w l b K0:R220 (r220 l b) K0 = K0 l b:=by kernel_rfl
def y0a (k n:Nat) (k1:Int) (t:List PV) (byLen:Nat) (t14 t15 n1 n11:Int) (l l1 xs:List PV):R:=q0e P E T k 220 220 [] [1,1,0,1,0] [] n ⟨mkT 53 [(1,s0i k1),(2,s0m t),(3,.s (.c (.bptr 0 0))),(8,s0z 1 byLen),(14,s0i t14),(15,s0i t15)],[b0g n1 n11 l l1,.arr 24 0 0 false xs]⟩
def z48 (k n:Nat) (t:List PV) (byLen:Nat) (t31:List PV) (t32 t33 n1 n11:Int) (l l1 xs:List PV):R:=q0e P E T k 220 220 [] [1,1,1,0,1,0] [] n ⟨mkT 53 [(2,s0m t),(3,.s (.c (.bptr 0 0))),(8,s0z 1 byLen),(31,s0m t31),(32,s0i t32),(33,s0i t33)],[b0g n1 n11 l l1,.arr 24 0 0 false xs]⟩
def c221 (k:Nat) (t:List PV) (n1 n11:Int) (l l1 l2 l3:List PV):R:=evF P E T k 221 [s0m t,.s (.c (.eptr (PV.agg [.int .i64 n1,.int .i64 n11,.row 2 0 l,.row 2 0 l1]) 4 0)),.s (.c (.eptr (PV.agg [.row 0 0 l2]) 1 0)),.s (.c (.eptr (PV.agg [.row 0 0 l3]) 1 0))] []
def r221 (b:Bool):R:=some ([.c (.p (PV.bool b))],[])
def R221:=R9
@[simp] theorem w2q b K0:R221 (r221 b) K0 = K0 b:=by kernel_rfl
def c222 (k:Nat) (p p1:Int) (p2 p3 t a b:List PV):R:=evF P E T k 222 [s0g p p1 p2 p3,s0m t,s0r a,s0r b] []
def r222 (b:Bool):R:=some ([.c (.p (PV.bool b))],[])
def R222:=R9
@[simp] theorem w5n b K0:R222 (r222 b) K0 = K0 b:=by kernel_rfl
def c223 (k:Nat) (p p1:Int) (p2 p3 preds:List PV):R:=evF P E T k 223 [s0g p p1 p2 p3,s0r preds] []
def r223 (l:List PV) (b:Bool):R:=some ([.agg [.p (PV.row 0 0 l)],.c (.p (PV.bool b))],[])
def R223:=R20
@[simp] theorem w3o l b K0:R223 (r223 l b) K0 = K0 l b:=by kernel_rfl
def z39 (k n:Nat) (preds:List PV) (keysLen:Nat) (t25 t26 n1 n11:Int) (l l1 l2 xs:List PV):R:=q0e P E T k 223 223 [] [1,1,1,0,1,0] [] n ⟨mkT 59 [(1,s0r preds),(2,.s (.c (.bptr 0 0))),(4,.s (.c (.bptr 1 0))),(6,.s (.c (.loc 2 0 2 0 keysLen))),(25,s0i t25),(26,s0i t26)],[b0g n1 n11 l l1,.box [p0r l2],.arr 164 2 0 false xs]⟩
def z4m (k n1 n:Nat) (preds:List PV) (keysLen:Nat) (no:Int) (qs:List PV) (t25 t26:Int) (t32:List PV) (t33 t34 n11 n12:Int) (l l1 l2 xs:List PV):R:=q0e P E T k 223 223 [] [1,1,1,0,1,0,0,1,1,0,0,1,1,1,0] [n1] n ⟨mkT 59 [(1,s0r preds),(2,.s (.c (.bptr 0 0))),(4,.s (.c (.bptr 1 0))),(6,.s (.c (.loc 2 0 2 0 keysLen))),(7,s0i no),(8,s0r qs),(25,s0i t25),(26,s0i t26),(32,s0r t32),(33,s0i t33),(34,s0i t34)],[b0g n11 n12 l l1,.box [p0r l2],.arr 164 2 0 false xs]⟩
def c224 (k:Nat) (l t:List PV):R:=evF P E T k 224 [.s (.c (.own 24 0 l)),s0m t] []
def r224 (l:List PV):R:=some ([.c (.own 24 0 l)],[])
def R224 (x0:R) (K0:List PV->R):R:=x0.bind fun q0=>bif q0w q0.2 [] && q00 q0.1 [.c (.own 24 0)] then (q3j 24 0 (q0x q0.1 0)).bind fun l=>K0 l else none
@[simp] theorem x33 l K0:R224 (r224 l) K0 = K0 l:=by kernel_rfl
def z4z (k n:Nat) (lLen:Nat) (t:List PV) (t7Len:Nat) (t8 t9:Int) (xs:List PV):R:=q0e P E T k 224 224 [] [1,0,1,0] [] n ⟨mkT 28 [(0,s0z 0 lLen),(1,s0m t),(7,s0z 0 t7Len),(8,s0i t8),(9,s0i t9)],[.arr 24 0 0 false xs]⟩
def c225 (k:Nat) (p p1:Int) (p2 p3:List PV) (k1:Int) (t:List PV):R:=evF P E T k 225 [s0g p p1 p2 p3,s0i k1,s0m t] []
def r225 (l:List PV) (b:Bool):R:=some ([.c (.p (PV.row 2 0 l)),.c (.p (PV.bool b))],[])
def R225:=R220
@[simp] theorem w3g l b K0:R225 (r225 l b) K0 = K0 l b:=by kernel_rfl
def z9l (k n:Nat) (k1:Int) (t:List PV) (byLen:Nat) (v n1 n11:Int) (l l1 xs:List PV):R:=q0e P E T k 225 225 [] [1,1,0,1,0] [] n ⟨mkT 52 [(1,s0i k1),(2,s0m t),(3,.s (.c (.bptr 0 0))),(8,s0z 1 byLen),(9,s0i v)],[b0g n1 n11 l l1,.arr 24 0 0 false xs]⟩
def z3m (k n:Nat) (t:List PV) (byLen:Nat) (t30:List PV) (t31 t32 n1 n11:Int) (l l1 xs:List PV):R:=q0e P E T k 225 225 [] [1,1,1,0,1,0] [] n ⟨mkT 52 [(2,s0m t),(3,.s (.c (.bptr 0 0))),(8,s0z 1 byLen),(30,s0m t30),(31,s0i t31),(32,s0i t32)],[b0g n1 n11 l l1,.arr 24 0 0 false xs]⟩
def c226 (k:Nat) (p p1:Int) (p2 p3 t a b:List PV):R:=evF P E T k 226 [s0g p p1 p2 p3,s0m t,s0r a,s0r b] []
def r226 (b:Bool):R:=some ([.c (.p (PV.bool b))],[])
def R226:=R9
@[simp] theorem w43 b K0:R226 (r226 b) K0 = K0 b:=by kernel_rfl
def c227 (k:Nat) (v:List PV) (class1:Int):R:=evF P E T k 227 [s0a v,s0i class1] []
def r227 (l:List PV):R:=some ([.c (.p (PV.row 0 0 l))],[])
def R227:=R68
@[simp] theorem x44 l K0:R227 (r227 l) K0 = K0 l:=by kernel_rfl
def z4l (k n:Nat) (class1:Int) (outLen:Nat) (t9:List PV) (t10 t11:Int) (xs:List PV):R:=q0e P E T k 227 227 [] [1,1,0,1,0] [] n ⟨mkT 25 [(1,s0i class1),(5,s0z 0 outLen),(9,s0r t9),(10,s0i t10),(11,s0i t11)],[.arr 3 0 0 false xs]⟩
def c231 (k:Nat) (p p1:Int) (p2 p3 qs:List PV):R:=evF P E T k 231 [s0g p p1 p2 p3,s0r qs] []
def r231 (l:List PV):R:=some ([.c (.p (PV.row 0 0 l))],[])
def R231:=R68
@[simp] theorem w28 l K0:R231 (r231 l) K0 = K0 l:=by kernel_rfl
def z0y (k n:Nat) (qs:List PV) (outLen:Nat) (t9:List PV) (t10 t11 n1 n11:Int) (l l1 xs:List PV):R:=q0e P E T k 231 231 [] [1,1,0,1,0] [] n ⟨mkT 27 [(1,s0r qs),(2,.s (.c (.bptr 0 0))),(5,s0z 1 outLen),(9,s0m t9),(10,s0i t10),(11,s0i t11)],[b0g n1 n11 l l1,.arr 3 0 0 false xs]⟩
def c232 (k:Nat) (p p1:Int) (p2 p3 qs:List PV):R:=evF P E T k 232 [s0g p p1 p2 p3,s0r qs] []
def r232 (qr:Int):R:=some ([.c (.p (PV.int .i64 qr))],[])
def R232:=R84
@[simp] theorem w3v qr K0:R232 (r232 qr) K0 = K0 qr:=by kernel_rfl
def z9x (k n:Nat) (qs:List PV) (n1 v n11 n12:Int) (l l1:List PV):R:=q0e P E T k 232 232 [] [1,1,0,1,0] [] n ⟨mkT 26 [(1,s0r qs),(2,.s (.c (.bptr 0 0))),(5,s0i n1),(6,s0i v)],[b0g n11 n12 l l1]⟩
def c233 (k:Nat) (p p1:Int) (p2 p3 qs:List PV) (k1:Int):R:=evF P E T k 233 [s0g p p1 p2 p3,s0r qs,s0i k1] []
def r233 (l:List PV):R:=some ([.c (.p (PV.row 0 0 l))],[])
def R233:=R68
@[simp] theorem w2g l K0:R233 (r233 l) K0 = K0 l:=by kernel_rfl
def y1t (k n:Nat) (qs:List PV) (outLen:Nat) (t18:List PV) (t19 t20 n1 n11:Int) (l l1 xs:List PV):R:=q0e P E T k 233 233 [] [1,1,0,1,0] [] n ⟨mkT 40 [(1,s0r qs),(3,.s (.c (.bptr 0 0))),(7,s0z 1 outLen),(18,s0m t18),(19,s0i t19),(20,s0i t20)],[b0g n1 n11 l l1,.arr 76 0 0 false xs]⟩
def c234 (k:Nat) (n1:Int):R:=evF P E T k 234 [s0i n1] []
def r234 (b:Bool):R:=some ([.c (.p (PV.bool b))],[])
def R234:=R9
@[simp] theorem y7r b K0:R234 (r234 b) K0 = K0 b:=by kernel_rfl
def c235 (k:Nat) (n1:Int):R:=evF P E T k 235 [s0i n1] []
def r235 (b:Bool):R:=some ([.c (.p (PV.bool b))],[])
def R235:=R9
@[simp] theorem x4g b K0:R235 (r235 b) K0 = K0 b:=by kernel_rfl
def y6f (k:Nat) (qs:List PV) (n1 n11:Int) (l l1:List PV):R:=evF P E T k 236 [s0m qs,.s (.c (.fn 237 [0]))] [[p0n n1,p0n n11,p0m l,p0m l1]]
def y7c (qr qr1:Int) (l l1:List PV) (b:Bool):R:=some ([.c (.p (PV.bool b))],[[.p (PV.int .i64 qr),.p (PV.int .i64 qr1),.p (PV.row 2 0 l),.p (PV.row 2 0 l1)]])
def z76 (x0:R) (K0:Int->Int->List PV->List PV->Bool->R):R:=x0.bind fun q0=>bif q0w q0.2 [[.p (.int .i64),.p (.int .i64),.p (.row 2),.p (.row 2)]] && q00 q0.1 [.c (.p (.bool))] then (cInt (q0v q0.2 0 0) .i64).bind fun qr=>(cInt (q0v q0.2 0 1) .i64).bind fun qr1=>(cRow (q0v q0.2 0 2) 2).bind fun l=>(cRow (q0v q0.2 0 3) 2).bind fun l1=>(q2u (q0x q0.1 0)).bind fun b=>K0 qr qr1 l l1 b else none
@[simp] theorem x1x qr qr1 l l1 b K0:z76 (y7c qr qr1 l l1 b) K0 = K0 qr qr1 l l1 b:=by kernel_rfl
def c237 (k:Nat) (qc qc1:List PV) (n1 n11:Int) (l l1:List PV):R:=evF P E T k 237 [.s (.c (.p (PV.agg [.row 2 0 qc,.row 2 0 qc1]))),.s (.c (.bptr 0 0))] [[p0n n1,p0n n11,p0m l,p0m l1]]
def r237 (qr qr1:Int) (l l1:List PV) (b:Bool):R:=some ([.c (.p (PV.bool b))],[[.p (PV.int .i64 qr),.p (PV.int .i64 qr1),.p (PV.row 2 0 l),.p (PV.row 2 0 l1)]])
def R237:=z76
@[simp] theorem w4j qr qr1 l l1 b K0:R237 (r237 qr qr1 l l1 b) K0 = K0 qr qr1 l l1 b:=by kernel_rfl
def c238 (k:Nat) (p p1:Int) (p2 p3 qc qc1:List PV):R:=evF P E T k 238 [s0g p p1 p2 p3,.s (.c (.p (PV.agg [.row 2 0 qc,.row 2 0 qc1])))] []
def r238 (b:Bool):R:=some ([.c (.p (PV.bool b))],[])
def R238:=R9
@[simp] theorem w4i b K0:R238 (r238 b) K0 = K0 b:=by kernel_rfl
def z08 (k n:Nat) (t13:List PV) (t14 t15 n1 n11:Int) (l l1 l2 l3:List PV):R:=q0e P E T k 238 238 [] [1,1,0,1,0] [] n ⟨mkT 57 [(2,.s (.c (.bptr 0 0))),(3,.s (.c (.bptr 1 0))),(13,s0m t13),(14,s0i t14),(15,s0i t15)],[b0g n1 n11 l l1,.box [p0m l2,p0m l3]]⟩
def c239 (k:Nat) (wide vars:Int) (t:List PV):R:=evF P E T k 239 [s0i wide,s0i vars,s0m t] []
def r239 (b:Bool):R:=some ([.c (.p (PV.bool b))],[])
def R239:=R9
@[simp] theorem y7j b K0:R239 (r239 b) K0 = K0 b:=by kernel_rfl
def y1c (k n:Nat) (wide vars:Int) (stackLen:Nat) (t33:List PV) (t34 t35:Int) (xs:List PV):R:=q0e P E T k 239 239 [] [1,1,1,0,1,0] [] n ⟨mkT 80 [(0,s0i wide),(1,s0i vars),(7,s0z 0 stackLen),(33,s0m t33),(34,s0i t34),(35,s0i t35)],[.arr 3 0 0 false xs]⟩
def c240 (k:Nat) (t:List PV):R:=evF P E T k 240 [s0m t] []
def r240 (qr:Int):R:=some ([.c (.p (PV.int .i64 qr))],[])
def R240:=R84
@[simp] theorem w38 qr K0:R240 (r240 qr) K0 = K0 qr:=by kernel_rfl
def c242 (k:Nat) (wide vars:Int) (l:List PV) (n1 n11:Int):R:=evF P E T k 242 [.s (.c (.bptr 0 0)),s0i wide,s0i vars] [[p0r l,p0n n1,.p (PV.int .u64 n11)]]
def r242 (l:List PV) (qr qr1:Int) (l1 l2:List PV):R:=some ([.agg [.p (PV.row 2 0 l1),.own 138 2 l2]],[[.p (PV.row 0 0 l),.p (PV.int .i64 qr),.p (PV.int .u64 qr1)]])
def R242 (x0:R) (K0:List PV->Int->Int->List PV->List PV->R):R:=x0.bind fun q0=>bif q0w q0.2 [[.p (.row 0),.p (.int .i64),.p (.int .u64)]] && q00 q0.1 [.agg [.p (.row 2),.own 138 2]] then (cRow (q0v q0.2 0 0) 0).bind fun l=>(cInt (q0v q0.2 0 1) .i64).bind fun qr=>(cInt (q0v q0.2 0 2) .u64).bind fun qr1=>(cRow (Dp.partAt q0.1 0 0) 2).bind fun l1=>(q3j 138 2 (Dp.partAt q0.1 0 1)).bind fun l2=>K0 l qr qr1 l1 l2 else none
@[simp] theorem w3i l qr qr1 l1 l2 K0:R242 (r242 l qr qr1 l1 l2) K0 = K0 l qr qr1 l1 l2:=by kernel_rfl
def z3y (k n:Nat) (wide vars v:Int) (l:List PV) (n1 n11:Int) (l1 l2:List PV) (Len Len1:Nat) (xs xs1:List PV):R:=q0e P E T k 242 242 [3] [1,1,0,1,0] [] n ⟨mkT 35 [(0,.s (.c (.bptr 0 0))),(1,s0i wide),(2,s0i vars),(6,.s (.c (.bptr 1 0))),(7,.s (.c (.bptr 2 0))),(8,s0i v)],[.box [p0r l,p0n n1,.p (PV.int .u64 n11)],.box [p0m l1,p0m l2],.box [.loc 3 0 2 0 Len,.loc 4 0 2 0 Len1],.arr 133 2 0 false xs,.arr 138 2 0 false xs1]⟩
def c244 (k:Nat) (wide:Int) (t:List PV) (k1:Int) (state:List PV):R:=evF P E T k 244 [s0i wide,s0m t,s0i k1,s0r state] []
def r244 (qr:Int):R:=some ([.c (.p (PV.int .u64 qr))],[])
def R244:=R149
@[simp] theorem z37 qr K0:R244 (r244 qr) K0 = K0 qr:=by kernel_rfl
def c245 (k:Nat) (wide:Int):R:=evF P E T k 245 [s0i wide] []
def r245 (b:Bool):R:=some ([.c (.p (PV.bool b))],[])
def R245:=R9
@[simp] theorem x50 b K0:R245 (r245 b) K0 = K0 b:=by kernel_rfl
def c246 (k:Nat) (op:Int):R:=evF P E T k 246 [s0i op] []
def r246 (qr qr1 qr2:Int):R:=some ([.c (.p (PV.int .i64 qr)),.c (.p (PV.int .i64 qr1)),.c (.p (PV.int .i64 qr2))],[])
def R246 (x0:R) (K0:Int->Int->Int->R):R:=x0.bind fun q0=>bif q0w q0.2 [] && q00 q0.1 [.c (.p (.int .i64)),.c (.p (.int .i64)),.c (.p (.int .i64))] then (cInt (q0x q0.1 0) .i64).bind fun qr=>(cInt (q0x q0.1 1) .i64).bind fun qr1=>(cInt (q0x q0.1 2) .i64).bind fun qr2=>K0 qr qr1 qr2 else none
@[simp] theorem z0g qr qr1 qr2 K0:R246 (r246 qr qr1 qr2) K0 = K0 qr qr1 qr2:=by kernel_rfl
def c247 (k:Nat) (wide vars n1 n11:Int):R:=evF P E T k 247 [s0i wide,s0i vars,.s (.c (.p (PV.agg [.int .i64 n1,.int .u64 n11])))] []
def r247 (b:Bool):R:=some ([.c (.p (PV.bool b))],[])
def R247:=R9
@[simp] theorem w5k b K0:R247 (r247 b) K0 = K0 b:=by kernel_rfl
def c263 (k:Nat) (wide a b:Int):R:=evF P E T k 263 [s0i wide,.s (.c (.p (PV.int .u64 a))),.s (.c (.p (PV.int .u64 b)))] []
def r263 (qr qr1:Int) (b:Bool):R:=some ([.c (.p (PV.int .u64 qr)),.c (.p (PV.int .u64 qr1)),.c (.p (PV.bool b))],[])
def R263 (x0:R) (K0:Int->Int->Bool->R):R:=x0.bind fun q0=>bif q0w q0.2 [] && q00 q0.1 [.c (.p (.int .u64)),.c (.p (.int .u64)),.c (.p (.bool))] then (cInt (q0x q0.1 0) .u64).bind fun qr=>(cInt (q0x q0.1 1) .u64).bind fun qr1=>(q2u (q0x q0.1 2)).bind fun b=>K0 qr qr1 b else none
@[simp] theorem w26 qr qr1 b K0:R263 (r263 qr qr1 b) K0 = K0 qr qr1 b:=by kernel_rfl
def c264 (k:Nat) (wide a by1:Int) (left:Bool):R:=evF P E T k 264 [s0i wide,.s (.c (.p (PV.int .u64 a))),.s (.c (.p (PV.int .u64 by1))),s0b left] []
def r264 (qr:Int):R:=some ([.c (.p (PV.int .u64 qr))],[])
def R264:=R149
@[simp] theorem w3d qr K0:R264 (r264 qr) K0 = K0 qr:=by kernel_rfl
def c265 (k:Nat) (holds:Bool):R:=evF P E T k 265 [s0b holds] []
def r265 (qr:Int):R:=some ([.c (.p (PV.int .u64 qr))],[])
def R265:=R149
@[simp] theorem w20 qr K0:R265 (r265 qr) K0 = K0 qr:=by kernel_rfl
def c266 (k:Nat) (wide a:Int):R:=evF P E T k 266 [s0i wide,.s (.c (.p (PV.int .u64 a)))] []
def r266 (qr:Int):R:=some ([.c (.p (PV.int .i64 qr))],[])
def R266:=R84
@[simp] theorem w5g qr K0:R266 (r266 qr) K0 = K0 qr:=by kernel_rfl
def c267 (k:Nat) (wide a:Int):R:=evF P E T k 267 [s0i wide,.s (.c (.p (PV.int .u64 a)))] []
def r267 (qr:Int):R:=some ([.c (.p (PV.int .u64 qr))],[])
def R267:=R149
@[simp] theorem q7e qr K0:R267 (r267 qr) K0 = K0 qr:=by kernel_rfl
def y0s (k n:Nat) (wide a out k1:Int):R:=q0e P E T k 267 267 [] [1,1,0,1,0] [] n ⟨mkT 20 [(0,s0i wide),(1,.s (.c (.p (PV.int .u64 a)))),(5,.s (.c (.p (PV.int .u64 out)))),(6,s0i k1)],[]⟩
def c268 (k:Nat) (wide vars:Int) (t by1:List PV):R:=evF P E T k 268 [s0i wide,s0i vars,s0m t,s0r by1] []
def r268 (l:List PV) (b:Bool):R:=some ([.c (.p (PV.row 2 0 l)),.c (.p (PV.bool b))],[])
def R268:=R220
@[simp] theorem w3m l b K0:R268 (r268 l b) K0 = K0 l b:=by kernel_rfl
def z4a (k n:Nat) (by1:List PV) (outLen:Nat) (t30:List PV) (t31 t32 n1 n11:Int) (xs:List PV):R:=q0e P E T k 268 268 [] [1,1,1,0,1,0] [] n ⟨mkT 57 [(3,s0r by1),(4,.s (.c (.bptr 0 0))),(5,.s (.c (.bptr 1 0))),(10,.s (.c (.loc 2 0 2 0 outLen))),(30,s0m t30),(31,s0i t31),(32,s0i t32)],[.box [p0n n1],.box [p0n n11],.arr 133 2 0 false xs]⟩
def c269 (k:Nat) (slices:List PV):R:=evF P E T k 269 [s0r slices] []
def r269 (l:List PV):R:=some ([.c (.own 133 2 l)],[])
def x8t (x0:R) (K0:List PV->R):R:=x0.bind fun q0=>bif q0.1.all q04 && q0.2.all (fun cs=>cs.all q1u) then (bif q0w q0.2 [] && q00 q0.1 [.c (.own 133 2)] then (q3j 133 2 (q0x q0.1 0)).bind fun l=>K0 l else none) else none
def y1g (k n:Nat) (slices:List PV) (size:Int) (t9:List PV) (t10 t11:Int):R:=q0e P E T k 269 269 [] [1,1,0,1,0] [] n ⟨mkT 36 [(0,s0r slices),(3,s0i size),(9,s0r t9),(10,s0i t10),(11,s0i t11)],[]⟩
def y0l (k n:Nat) (newsliceLen:Nat) (t25:List PV) (t26 t27:Int) (xs:List PV):R:=q0e P E T k 269 269 [] [1,1,1,1,0,1,0] [] n ⟨mkT 36 [(6,.s (.c (.loc 0 0 2 0 newsliceLen))),(25,s0r t25),(26,s0i t26),(27,s0i t27)],[.arr 133 2 0 false xs]⟩
def c270 (k:Nat) (p p1:Int) (p2 p3 t some1:List PV):R:=evF P E T k 270 [s0g p p1 p2 p3,s0m t,s0r some1] []
def r270 (b:Bool):R:=some ([.c (.p (PV.bool b))],[])
def R270:=R9
@[simp] theorem w39 b K0:R270 (r270 b) K0 = K0 b:=by kernel_rfl
def y5e:=q46
@[simp] theorem x9h b K0:y5e (r270 b) K0 = K0 b:=by kernel_rfl
def c271 (k:Nat) (a b:List PV):R:=evF P E T k 271 [s0m a,s0m b] []
def r271 (b:Bool):R:=some ([.c (.p (PV.bool b))],[])
def R271:=R9
@[simp] theorem w4g b K0:R271 (r271 b) K0 = K0 b:=by kernel_rfl
def y06 (k n:Nat) (a b:List PV) (t12 t13:Int):R:=q0e P E T k 271 271 [] [1,1,0,1,0] [] n ⟨mkT 26 [(0,s0m a),(1,s0m b),(12,s0i t12),(13,s0i t13)],[]⟩
def c272 (k:Nat) (wide vars:Int) (t by1:List PV):R:=evF P E T k 272 [s0i wide,s0i vars,s0m t,s0r by1] []
def r272 (l:List PV) (b:Bool):R:=some ([.c (.p (PV.row 2 0 l)),.c (.p (PV.bool b))],[])
def R272:=R220
@[simp] theorem w5b l b K0:R272 (r272 l b) K0 = K0 l b:=by kernel_rfl
def z40 (k n:Nat) (wide vars:Int) (t by1 t26:List PV) (t27 t28:Int):R:=q0e P E T k 272 272 [] [1,1,0,1,0] [] n ⟨mkT 65 [(0,s0i wide),(1,s0i vars),(2,s0m t),(3,s0r by1),(26,s0r t26),(27,s0i t27),(28,s0i t28)],[]⟩
def z0r (k n:Nat) (wide vars:Int) (by1:List PV) (outLen:Nat) (t38:List PV) (t39 t40:Int) (xs:List PV):R:=q0e P E T k 272 272 [] [1,1,1,1,0,1,0] [] n ⟨mkT 65 [(0,s0i wide),(1,s0i vars),(3,s0r by1),(12,.s (.c (.loc 0 0 2 0 outLen))),(38,s0m t38),(39,s0i t39),(40,s0i t40)],[.arr 133 2 0 false xs]⟩
def y7 (k:Nat) (qs:List PV) (n1 n11:Int) (l l1:List PV):R:=evF P E T k 273 [s0m qs,.s (.c (.fn 237 [0]))] [[p0n n1,p0n n11,p0m l,p0m l1]]
def z1j (qr qr1:Int) (l l1:List PV) (qr2:Int):R:=some ([.c (.p (PV.int .i64 qr2))],[[.p (PV.int .i64 qr),.p (PV.int .i64 qr1),.p (PV.row 2 0 l),.p (PV.row 2 0 l1)]])
def y8m (x0:R) (K0:Int->Int->List PV->List PV->Int->R):R:=x0.bind fun q0=>bif q0w q0.2 [[.p (.int .i64),.p (.int .i64),.p (.row 2),.p (.row 2)]] && q00 q0.1 [.c (.p (.int .i64))] then (cInt (q0v q0.2 0 0) .i64).bind fun qr=>(cInt (q0v q0.2 0 1) .i64).bind fun qr1=>(cRow (q0v q0.2 0 2) 2).bind fun l=>(cRow (q0v q0.2 0 3) 2).bind fun l1=>(cInt (q0x q0.1 0) .i64).bind fun qr2=>K0 qr qr1 l l1 qr2 else none
@[simp] theorem x3d qr qr1 l l1 qr2 K0:y8m (z1j qr qr1 l l1 qr2) K0 = K0 qr qr1 l l1 qr2:=by kernel_rfl
def q6k (k n:Nat) (qs:List PV) (t7 t8 n1 n11:Int) (l l1:List PV):R:=q0e P E T k 273 238273 [4] [1,0,1,0] [] n ⟨mkT 19 [(0,s0m qs),(1,.s (.c (.fn 237 [0]))),(7,s0i t7),(8,s0i t8)],[b0g n1 n11 l l1]⟩
def c274 (k:Nat) (op:Int):R:=evF P E T k 274 [s0i op] []
def r274 (qr qr1 qr2:Int):R:=some ([.c (.p (PV.int .i64 qr)),.c (.p (PV.int .i64 qr1)),.c (.p (PV.int .i64 qr2))],[])
def R274:=R246
@[simp] theorem x30 qr qr1 qr2 K0:R274 (r274 qr qr1 qr2) K0 = K0 qr qr1 qr2:=by kernel_rfl
def c275 (k:Nat) (wide vars x x1:Int):R:=evF P E T k 275 [s0i wide,s0i vars,.s (.c (.p (PV.agg [.int .i64 x,.int .u64 x1])))] []
def r275 (b:Bool):R:=some ([.c (.p (PV.bool b))],[])
def R275:=R9
@[simp] theorem w4y b K0:R275 (r275 b) K0 = K0 b:=by kernel_rfl
def c276 (k:Nat) (own n1:Int):R:=evF P E T k 276 [s0i own,.s (.c (.bptr 0 0))] [[p0n n1]]
def r276 (qr:Int) (b:Bool):R:=some ([.c (.p (PV.bool b))],[[.p (PV.int .i64 qr)]])
def R276 (x0:R) (K0:Int->Bool->R):R:=x0.bind fun q0=>bif q0w q0.2 [[.p (.int .i64)]] && q00 q0.1 [.c (.p (.bool))] then (cInt (q0v q0.2 0 0) .i64).bind fun qr=>(q2u (q0x q0.1 0)).bind fun b=>K0 qr b else none
@[simp] theorem w2o qr b K0:R276 (r276 qr b) K0 = K0 qr b:=by kernel_rfl
def c277 (k:Nat) (wide op a b:Int):R:=evF P E T k 277 [s0i wide,s0i op,.s (.c (.p (PV.int .u64 a))),.s (.c (.p (PV.int .u64 b)))] []
def r277 (qr:Int):R:=some ([.c (.p (PV.int .u64 qr))],[])
def R277:=R149
@[simp] theorem w49 qr K0:R277 (r277 qr) K0 = K0 qr:=by kernel_rfl
def c278 (k:Nat) (t:List PV) (k1:Int):R:=evF P E T k 278 [s0m t,s0i k1] []
def r278 (qr:Int):R:=some ([.c (.p (PV.int .i64 qr))],[])
def R278:=R84
@[simp] theorem x5p qr K0:R278 (r278 qr) K0 = K0 qr:=by kernel_rfl
def q9b (k n:Nat) (t:List PV) (many from1:Int):R:=q0e P E T k 278 278 [] [1,1,1,0,0] [] n ⟨mkT 29 [(0,s0m t),(5,s0i many),(8,s0i from1)],[]⟩
def c279 (k:Nat) (wide a:Int):R:=evF P E T k 279 [s0i wide,.s (.c (.p (PV.int .u64 a)))] []
def r279 (b:Bool):R:=some ([.c (.p (PV.bool b))],[])
def R279:=R9
@[simp] theorem w4v b K0:R279 (r279 b) K0 = K0 b:=by kernel_rfl
def c286 (k:Nat) (wide a b:Int):R:=evF P E T k 286 [s0i wide,.s (.c (.p (PV.int .u64 a))),.s (.c (.p (PV.int .u64 b)))] []
def r286 (b:Bool):R:=some ([.c (.p (PV.bool b))],[])
def R286:=R9
@[simp] theorem w36 b K0:R286 (r286 b) K0 = K0 b:=by kernel_rfl
def c287 (k:Nat) (hi lo y:Int):R:=evF P E T k 287 [.s (.c (.p (PV.int .u64 hi))),.s (.c (.p (PV.int .u64 lo))),.s (.c (.p (PV.int .u64 y)))] []
def r287 (qr qr1:Int):R:=some ([.c (.p (PV.int .u64 qr)),.c (.p (PV.int .u64 qr1))],[])
def R287 (x0:R) (K0:Int->Int->R):R:=x0.bind fun q0=>bif q0w q0.2 [] && q00 q0.1 [.c (.p (.int .u64)),.c (.p (.int .u64))] then (cInt (q0x q0.1 0) .u64).bind fun qr=>(cInt (q0x q0.1 1) .u64).bind fun qr1=>K0 qr qr1 else none
@[simp] theorem w3z qr qr1 K0:R287 (r287 qr qr1) K0 = K0 qr qr1:=by kernel_rfl
def w2y (k n:Nat) (y qs yn1 yn0 un32 un1 un0 q1 rhat:Int):R:=q0e P E T k 287 287 [] [1,1,1,1,1,1,1,1,1,1,1,1,1,1,0,0] [] n ⟨mkT 135 [(2,.s (.c (.p (PV.int .u64 y)))),(8,.s (.c (.p (PV.int .u64 qs)))),(9,.s (.c (.p (PV.int .u64 yn1)))),(10,.s (.c (.p (PV.int .u64 yn0)))),(11,.s (.c (.p (PV.int .u64 un32)))),(13,.s (.c (.p (PV.int .u64 un1)))),(14,.s (.c (.p (PV.int .u64 un0)))),(15,.s (.c (.p (PV.int .u64 q1)))),(16,.s (.c (.p (PV.int .u64 rhat))))],[]⟩
def c288 (k:Nat) (own:List PV) (n1 n11:Int):R:=evF P E T k 288 [s0m own,.s (.c (.bptr 0 0)),.s (.c (.bptr 1 0))] [[p0n n1],[p0n n11]]
def r288 (qr qr1:Int) (b:Bool):R:=some ([.c (.p (PV.bool b))],[[.p (PV.int .i64 qr)],[.p (PV.int .i64 qr1)]])
def R288:=z7o
@[simp] theorem w27 qr qr1 b K0:R288 (r288 qr qr1 b) K0 = K0 qr qr1 b:=by kernel_rfl
def c289 (k:Nat) (wide vars:Int) (t:List PV):R:=evF P E T k 289 [s0i wide,s0i vars,s0m t] []
def r289 (l:List PV) (b:Bool):R:=some ([.c (.p (PV.row 2 0 l)),.c (.p (PV.bool b))],[])
def R289:=R220
@[simp] theorem w42 l b K0:R289 (r289 l b) K0 = K0 l b:=by kernel_rfl
def c290 (k:Nat) (qs:List PV) (n1:Int):R:=evF P E T k 290 [.s (.c (.p (PV.row 0 2 qs))),s0i n1] []
def r290 (l:List PV):R:=some ([.c (.own 133 2 l)],[])
def R290:=R219
@[simp] theorem w5h l K0:R290 (r290 l) K0 = K0 l:=by kernel_rfl
def c291 (k:Nat) (no n1 n11:Int) (l l1 l2:List PV):R:=evF P E T k 291 [s0i no,.s (.c (.eptr (PV.agg [.int .i64 n1,.int .i64 n11,.row 2 0 l,.row 2 0 l1]) 4 0)),.s (.c (.eptr (PV.agg [.row 2 0 l2]) 1 0))] []
def r291 (b:Bool):R:=some ([.c (.p (PV.bool b))],[])
def R291:=R9
@[simp] theorem w4e b K0:R291 (r291 b) K0 = K0 b:=by kernel_rfl
def c292 (k:Nat) (wide vars:Int) (t:List PV):R:=evF P E T k 292 [s0i wide,s0i vars,s0m t] []
def r292 (b:Bool):R:=some ([.c (.p (PV.bool b))],[])
def R292:=R9
@[simp] theorem x6a b K0:R292 (r292 b) K0 = K0 b:=by kernel_rfl
def c293 (k:Nat) (wide vars:Int) (t:List PV):R:=evF P E T k 293 [s0i wide,s0i vars,s0m t] []
def r293 (l:List PV) (b:Bool):R:=some ([.c (.p (PV.row 2 0 l)),.c (.p (PV.bool b))],[])
def R293:=R220
@[simp] theorem w3n l b K0:R293 (r293 l b) K0 = K0 l b:=by kernel_rfl
def c294 (k:Nat) (wide a:Int):R:=evF P E T k 294 [s0i wide,.s (.c (.p (PV.int .u64 a)))] []
def r294 (b:Bool):R:=some ([.c (.p (PV.bool b))],[])
def R294:=R9
@[simp] theorem w2z b K0:R294 (r294 b) K0 = K0 b:=by kernel_rfl
def c295 (k:Nat) (wide a b:Int):R:=evF P E T k 295 [s0i wide,.s (.c (.p (PV.int .u64 a))),.s (.c (.p (PV.int .u64 b)))] []
def r295 (qr qr1:Int) (b:Bool):R:=some ([.c (.p (PV.int .u64 qr)),.c (.p (PV.int .u64 qr1)),.c (.p (PV.bool b))],[])
def R295:=R263
@[simp] theorem w2u qr qr1 b K0:R295 (r295 qr qr1 b) K0 = K0 qr qr1 b:=by kernel_rfl
def c296 (k:Nat) (wide a by1:Int) (left:Bool):R:=evF P E T k 296 [s0i wide,.s (.c (.p (PV.int .u64 a))),.s (.c (.p (PV.int .u64 by1))),s0b left] []
def r296 (qr:Int):R:=some ([.c (.p (PV.int .u64 qr))],[])
def R296:=R149
@[simp] theorem w5o qr K0:R296 (r296 qr) K0 = K0 qr:=by kernel_rfl
def z33 (k n:Nat) (wide a by1:Int) (left:Bool):R:=q0e P E T k 296 296 [] [1,1,0,0] [] n ⟨mkT 25 [(0,s0i wide),(1,.s (.c (.p (PV.int .u64 a)))),(2,.s (.c (.p (PV.int .u64 by1)))),(3,s0b left)],[]⟩
def c297 (k:Nat) (is1:Bool):R:=evF P E T k 297 [s0b is1] []
def r297 (qr:Int):R:=some ([.c (.p (PV.int .u64 qr))],[])
def R297:=R149
@[simp] theorem w4p qr K0:R297 (r297 qr) K0 = K0 qr:=by kernel_rfl
def c298 (k:Nat) (wide a:Int):R:=evF P E T k 298 [s0i wide,.s (.c (.p (PV.int .u64 a)))] []
def r298 (qr:Int):R:=some ([.c (.p (PV.int .i64 qr))],[])
def R298:=R84
@[simp] theorem w5t qr K0:R298 (r298 qr) K0 = K0 qr:=by kernel_rfl
def c300 (k:Nat) (x:Int):R:=evF P E T k 300 [.s (.c (.p (PV.int .u64 x)))] []
def R300:=R84
def c301 (k:Nat) (wide a b:Int):R:=evF P E T k 301 [s0i wide,.s (.c (.p (PV.int .u64 a))),.s (.c (.p (PV.int .u64 b)))] []
def r301 (b:Bool):R:=some ([.c (.p (PV.bool b))],[])
def R301:=R9
@[simp] theorem w29 b K0:R301 (r301 b) K0 = K0 b:=by kernel_rfl
end
end Go.Proofs.YtgdegfijcijnoaaGreat
/- Normal forms: printed by nf.py. -/
namespace Go.Proofs.YtgdegfijcijnoaaGreat
open Go.Dp
theorem n4 (k:Nat) code more:c4 (k + 1) code more =
 R9 (c9 k code more) fun b1 =>
 bif b1 then
  r4 true
 else
  R17 (c17 k code) fun v1 v2 l1 l2 l3 l4 l5 =>
  R18 (c18 k v1 v2 l1 l2 l3 l4 l5) fun l6 v3 b2 =>
  R19 (c19 k v1 v2 l1 l2 l3 l4 l5) fun l7 v4 b3 =>
  R20 (c20 k v1 v2 l1 l2 l3 l5) fun l8 b4 =>
  R21 (c21 k v1 v2 l1 l2 l3 l5) fun l9 b5 =>
  bif (!(b2 == b3)) then
   r4 false
  else
   R15 (c15 k l6 l7) fun b6 =>
   bif !b6 then
    r4 false
   else
    bif (v3 != v4) then
     r4 false
    else
     bif (!(b4 == b5)) then
      r4 false
     else
      R15 (c15 k l8 l9) fun b7 =>
      bif !b7 then
       r4 false
      else
       bif !b2 then
        r4 true
       else
        R22 (c22 k v1 v2 l1 l2 l6 l3) fun b8 b9 =>
        R22 (c22 k v1 v2 l1 l2 l8 l3) fun b10 b11 =>
        R23 (c23 k v1 v2 l1 l2 l3) fun v5 b12 =>
        R23 (c23 k v1 v2 l1 l2 l6) fun v6 b13 =>
        R23 (c23 k v1 v2 l1 l2 l8) fun v7 b14 =>
        R24 (c24 k v1 v2 l1 l2 l3 l5) fun v8 b15 =>
        R25 (c25 k v1 v2 l1 l2 l3 l5) fun v9 b16 =>
        bif !b4 then
         r4 false
        else
         bif !b9 then
          r4 false
         else
          bif !b11 then
           r4 false
          else
           bif !b8 then
            r4 false
           else
            bif !b10 then
            r4 false
            else
            bif !b12 then
            r4 false
            else
            bif !b13 then
            r4 false
            else
            bif !b14 then
            r4 false
            else
            bif !b15 then
            r4 false
            else
            bif !b16 then
            r4 false
            else
            bif (v8 != v9) then
            r4 false
            else
            bif decide (v8 < 1) then
            r4 false
            else
            bif decide (v6 > (l6.length:Int)) then
            r4 false
            else
            (q0i l5 (IntKind.i64.wrap (v8 - 1))).bind fun p1 =>
            (p1.atInt .i64 0).bind fun n1 =>
            (q0i l5 v8).bind fun p2 =>
            (p2.atInt .i64 0).bind fun n2 =>
            R26 (c26 k v1 v2 l1 l2 l3 n1 n2) fun l10 b17 =>
            bif !b17 then
            r4 false
            else
            bif ((l10.length:Int) == 0) then
            r4 true
            else
            bif decide (v6 > v5) then
            r4 (v7 == IntKind.i64.wrap (v5 + 1))
            else r4 false:=by kernel_rfl
theorem n9 (k:Nat) code more:c9 (k + 1) code more =
 bif decide ((code.length:Int) > 1048576) then
  r9 true
 else r9 (decide ((more.length:Int) > IntKind.i64.wrap (1048576 - (code.length:Int)))):=by kernel_rfl
theorem n15 (k:Nat) a b:c15 (k + 1) a b =
 bif ((a.length:Int) != (b.length:Int)) then
  r15 false
 else y5c k k a b (a.length:Int) 0:=by kernel_rfl
theorem w4o (k n:Nat) a b t12 t13:y5c k (n + 1) a b t12 t13 =
 bif decide (t13 < t12) then
  (q0i a t13).bind fun p1 =>
  (p1.atInt .i64 0).bind fun n1 =>
  (q0i b t13).bind fun p2 =>
  (p2.atInt .i64 0).bind fun n2 =>
  bif (n1 != n2) then
   r15 false
  else y5c k n a b t12 (IntKind.i64.wrap (t13 + 1))
 else r15 true:=by kernel_rfl
theorem n17 (k:Nat) code:c17 (k + 1) code =
 R54 (c54 k code 0 0) fun l1 v1 v2 v3 v4 l2 l3 l4 =>
 R55 (c55 k v3 v4 l2 l3 l4 l1 v1 v2) fun l5 v5 v6 l6 =>
 y5q k k l6 0 0 0 [] [] [] l5 v5 v6 v3 v4 l2 l3 l4:=by kernel_rfl
theorem w2m (k n:Nat) path n1 n11 n12 l l1 l2 l3 n13 n14 n15 n16 l4 l5 l6:y5q k (n + 1) path n1 n11 n12 l l1 l2 l3 n13 n14 n15 n16 l4 l5 l6 =
 bif decide (n1 < 6) then
  R71 (c71 k n15 n16 l4 l5 l6 path) fun l7 b1 =>
  bif b1 then
   R72 (c72 k n15 n16 l4 l5 3 l3 n13 n14) fun l8 v1 v2 l9 =>
   r17 n15 n16 l4 l5 l6 l9 path
  else
   R54 (c54 k l3 n13 n14) fun l10 v3 v4 v5 v6 l11 l12 l13 =>
   R55 (c55 k v5 v6 l11 l12 l13 l10 v3 v4) fun l14 v7 v8 l15 =>
   y5q k n l15 (IntKind.i64.wrap (n1 + 1)) n11 n12 l l1 l2 l14 v7 v8 v5 v6 l11 l12 l13
 else
  R72 (c72 k n15 n16 l4 l5 3 l3 n13 n14) fun l16 v9 v10 l17 =>
  r17 n15 n16 l4 l5 l6 l17 path:=by kernel_rfl
theorem n18 (k:Nat) p p1 p2 p3 v preds path:c18 (k + 1) p p1 p2 p3 v preds path =
 R73 (c73 k p p1 p2 p3 v path 200) fun b1 =>
 bif !b1 then
  r18 [] 0 false
 else
  R74 (c74 k p p1 p2 p3 preds 0) fun b2 =>
  bif !b2 then
   r18 [] 0 false
  else
   R75 (c75 k p p1 p2 p3 v preds path) fun l1 v1 b3 =>
   r18 l1 v1 b3:=by kernel_rfl
theorem n19 (k:Nat) p p1 p2 p3 v preds path:c19 (k + 1) p p1 p2 p3 v preds path =
 R71 (c71 k p p1 p2 p3 v path) fun l1 b1 =>
 bif !b1 then
  r19 [] 0 false
 else
  R76 (c76 k p p1 p2 p3 preds) fun b2 =>
  bif !b2 then
   r19 [] 0 false
  else
   R77 (c77 k p p1 p2 p3 v preds path) fun l2 v1 =>
   r19 l2 v1 true:=by kernel_rfl
theorem n20 (k:Nat) p p1 p2 p3 v path:c20 (k + 1) p p1 p2 p3 v path =
 R78 (c78 k p p1 p2 p3 v path) fun l1 b1 =>
 bif !b1 then
  r20 [] false
 else
  R79 (c79 k v l1) fun l2 =>
  r20 l2 true:=by kernel_rfl
theorem n21 (k:Nat) p p1 p2 p3 v path:c21 (k + 1) p p1 p2 p3 v path =
 R71 (c71 k p p1 p2 p3 v path) fun l1 b1 =>
 bif !b1 then
  r21 [] false
 else
  R80 (c80 k v l1) fun l2 =>
  r21 (l2.take l2.length) true:=by kernel_rfl
theorem n22 (k:Nat) p p1 p2 p3 a b:c22 (k + 1) p p1 p2 p3 a b =
 R81 (c81 k p p1 p2 p3 a) fun b1 =>
 bif !b1 then
  r22 false false
 else
  R81 (c81 k p p1 p2 p3 b) fun b2 =>
  bif !b2 then
   r22 false false
  else
   R83 (c83 k a b) fun l1 =>
   R82 (c82 k l1 a) fun b3 =>
   r22 b3 true:=by kernel_rfl
theorem n23 (k:Nat) p p1 p2 p3 v:c23 (k + 1) p p1 p2 p3 v =
 R81 (c81 k p p1 p2 p3 v) fun b1 =>
 bif !b1 then
  r23 0 false
 else
  R84 (c84 k v) fun v1 =>
  r23 v1 true:=by kernel_rfl
theorem n24 (k:Nat) p p1 p2 p3 v path:c24 (k + 1) p p1 p2 p3 v path =
 R73 (c73 k p p1 p2 p3 v path 200) fun b1 =>
 bif !b1 then
  r24 0 false
 else
  R86 (c86 k p p1 p2 p3 v path) fun l1 =>
  R85p (c85 k (l1.take l1.length)) fun v1 =>
  r24 (maxI 0 v1) (decide (v1>=0)):=by kernel_rfl
theorem n25 (k:Nat) p p1 p2 p3 v path:c25 (k + 1) p p1 p2 p3 v path =
 R87 (c87 k p p1 p2 p3 v path) fun b1 =>
 bif !b1 then
  r25 0 false
 else
  R89 (c89 k p p1 p2 p3 v path) fun l1 =>
  R88 (c88 k l1) fun v1 =>
  bif decide (v1 < 0) then
   r25 0 false
  else r25 v1 true:=by kernel_rfl
theorem n26 (k:Nat) p p1 p2 p3 v class1 to:c26 (k + 1) p p1 p2 p3 v class1 to =
 R90 (c90 k p p1 p2 p3 v class1) fun b1 =>
 bif !b1 then
  r26 [] false
 else
  R90 (c90 k p p1 p2 p3 v to) fun b2 =>
  bif !b2 then
   r26 [] false
  else
   R91 (c91 k p p1 p2 p3 v class1 to) fun l1 =>
   r26 l1 true:=by kernel_rfl
theorem n54 (k:Nat) l n1 n11:c54 (k + 1) l n1 n11 =
 R118 (c118 k l n1 n11) fun l1 v1 v2 v3 v4 l2 l3 =>
 x8r (c132 k v3 v4 l2 (l3.take l3.length)) fun b1 =>
 bif b1 then
  R120 (c120 k 2 l1 v1 v2) fun l4 v5 v6 b2 =>
  bif b2 then
   bif decide ((0:Int) < (l3.length:Int)) then
    (l3[0]?).bind fun p1 =>
    (putPart p1 2 0 (PV.row 2 0 [PV.agg [.int .i64 20,.int .u64 1]]) 0).bind fun p2 =>
    bif decide ((0:Int) < (l3.length:Int)) then
     ((l3.set 0 p2)[0]?).bind fun p3 =>
     (putPart p3 2 1 (PV.row 2 0 [PV.agg [.int .i64 0,.row 2 0 [PV.agg [.int .i64 2,.int .u64 0],PV.agg [.int .i64 1,.int .u64 1],PV.agg [.int .i64 3,.int .u64 0]]]]) 0).bind fun p4 =>
     R133 (c133 k v3 v4 [PV.agg [.int .i64 2,.int .u64 0],PV.agg [.int .i64 1,.int .u64 0],PV.agg [.int .i64 14,.int .u64 0]] (((l3.set 0 p2).set 0 p4).take l3.length) l4 v5 v6) fun l5 v7 v8 l6 =>
     r54 l5 v7 v8 v3 v4 [PV.agg [.int .i64 2,.int .u64 0],PV.agg [.int .i64 1,.int .u64 0],PV.agg [.int .i64 14,.int .u64 0]] (((l3.set 0 p2).set 0 p4).take l3.length) l6
    else none
   else none
  else
   R133 (c133 k v3 v4 l2 (l3.take l3.length) l4 v5 v6) fun l7 v9 v10 l8 =>
   r54 l7 v9 v10 v3 v4 l2 (l3.take l3.length) l8
 else
  R133 (c133 k v3 v4 l2 (l3.take l3.length) l1 v1 v2) fun l9 v11 v12 l10 =>
  r54 l9 v11 v12 v3 v4 l2 (l3.take l3.length) l10:=by kernel_rfl
theorem n55 (k:Nat) p p1 p2 p3 v l n1 n11:c55 (k + 1) p p1 p2 p3 v l n1 n11 =
 R134 (c134 k p p1 p2 p3 v) fun l1 b1 =>
 bif !b1 then
  r55 l n1 n11 [PV.int .i64 0]
 else
  bif ((l1.length:Int) == 0) then
   r55 l n1 n11 [PV.int .i64 0]
  else
   R56 (c56 k (l1.length:Int) l n1 n11) fun l2 v1 v2 v3 =>
   (q0i l1 v3).bind fun p4 =>
   (p4.atInt .i64 0).bind fun n2 =>
   R56 (c56 k 8 l2 v1 v2) fun l3 v4 v5 v6 =>
   y5u k k 1 v6 l3 v4 v5 p p1 p2 p3 v [PV.int .i64 n2]:=by kernel_rfl
theorem x5g (k n:Nat) outLen n1 l n11 n12 n13 n14 l1 l2 l3 xs:y5u k (n + 1) outLen n1 l n11 n12 n13 n14 l1 l2 l3 xs =
 bif decide (n1 > 0) then
  bif decide ((0:Int)<=IntKind.i64.wrap ((outLen:Int) - 1)) && decide (IntKind.i64.wrap ((outLen:Int) - 1) < (outLen:Int)) then
   (xs[0 + ((IntKind.i64.wrap ((outLen:Int) - 1)).toNat)]?).bind fun p1 =>
   (p1.atInt .i64 0).bind fun n2 =>
   R135 (c135 k n13 n14 l1 l2 l3 n2) fun l4 b1 =>
   R56 (c56 k (l4.length:Int) l n11 n12) fun l5 v1 v2 v3 =>
   (q0i l4 v3).bind fun p2 =>
   (p2.atInt .i64 0).bind fun n3 =>
   bif decide ((outLen + 1) * 8<=LIM) && decide (outLen + 1<=LIM) then
    y5u k n (outLen + 1) (IntKind.i64.wrap (n1 - 1)) l5 v1 v2 n13 n14 l1 l2 l3 ((xs.take outLen) ++ [PV.int .i64 n3])
   else none
  else none
 else
  R120 (c120 k 12 l n11 n12) fun l6 v4 v5 b2 =>
  bif b2 then
   R56 (c56 k (outLen:Int) l6 v4 v5) fun l7 v6 v7 v8 =>
   R56 (c56 k 6 l7 v6 v7) fun l8 v9 v10 v11 =>
   bif decide ((0:Int)<=v8) && decide (v8 < (outLen:Int)) then
    (xs[0 + v8.toNat]?).bind fun p3 =>
    r55 l8 v9 v10 ((xs.set (0 + v8.toNat) (PV.int .i64 v11)).take outLen)
   else none
  else r55 l6 v4 v5 (xs.take outLen):=by kernel_rfl
theorem n56 (k:Nat) n1 l n11 n12:c56 (k + 1) n1 l n11 n12 =
 bif decide (n1<=1) then
  r56 l n11 n12 0
 else
  R136 (c136 k l n11 n12) fun l1 v1 v2 v3 =>
  bif decide (n1 > 200) then
   R136 (c136 k l1 v1 v2) fun l2 v4 v5 v6 =>
   bif !(n1 == 0) then
    r56 l2 v4 v5 ((IntKind.i64.wrap ((IntKind.i64.wrap (v3 * 256)) + v6)).tmod n1)
   else none
  else
   bif !(n1 == 0) then
    r56 l1 v1 v2 (v3.tmod n1)
   else none:=by kernel_rfl
theorem x9a (k:Nat) qs n1:y2a (k + 1) qs n1 =
 y30 (z73 k qs n1) fun v1 =>
 y10 (decide (v1>=0)):=by kernel_rfl
theorem w0q (k:Nat) qs l n1:y19 (k + 1) qs l n1 =
 y4m (z7x k qs l n1) fun v1 =>
 y13 (decide (v1>=0)):=by kernel_rfl
theorem w0t (k:Nat) qs n1 n11 l l1 l2:y2b (k + 1) qs n1 n11 l l1 l2 =
 y4d (z8l k qs n1 n11 l l1 l2) fun v1 =>
 y2o (decide (v1>=0)):=by kernel_rfl
theorem x95 (k:Nat) qs n1:y12 (k + 1) qs n1 =
 y6p (y8a k qs n1) fun v1 v2 =>
 y1z v1 (decide (v2>=0)):=by kernel_rfl
theorem n68 (k:Nat) p p1 p2 p3 no:c68 (k + 1) p p1 p2 p3 no =
 R70 (c70 k p p1 p2 p3 no) fun l1 =>
 y0k k k no l1 0 p3 (p3.length:Int) 0 p p1 p2 p3 []:=by kernel_rfl
theorem w41 (k n:Nat) no qs outLen t14 t15 t16 n1 n11 l l1 xs:y0k k (n + 1) no qs outLen t14 t15 t16 n1 n11 l l1 xs =
 bif decide (t16 < t15) then
  (q0i t14 t16).bind fun p1 =>
  bif p1.shp 2 then
   (p1.atRow 2 0).bind fun l2 =>
   (p1.atRow 2 1).bind fun l3 =>
   R69 (c69 k n1 n11 l l1 l2 qs) fun b1 =>
   bif b1 then
    R146 (c146 k n1 n11 l l1 l2 l3 qs) fun l4 =>
    R145 (c145 k n1 n11 l l1 l4) fun v1 =>
    bif decide ((outLen + 1) * 8<=LIM) && decide (outLen + 1<=LIM) then
     y0k k n no qs (outLen + 1) t14 t15 (IntKind.i64.wrap (t16 + 1)) n1 n11 l l1 ((xs.take outLen) ++ [PV.int .i64 v1])
    else none
   else y0k k n no qs outLen t14 t15 (IntKind.i64.wrap (t16 + 1)) n1 n11 l l1 xs
  else none
 else
  bif ((outLen:Int) == 0) then
   r68 [PV.int .i64 no]
  else
   bif decide (outLen<=LIM) then
    (intsOf (xs.take outLen)).bind fun zs1 =>
    bif decide (outLen<=LIM) then
     (intsOf ((((q18 zs1).map (PV.int .i64)) ++ (xs.drop outLen)).take outLen)).bind fun zs2 =>
     r68 (((((q3e zs2).map (PV.int .i64)) ++ (List.replicate (outLen - (q3e zs2).length) (PV.int .i64 0))) ++ ((((q18 zs1).map (PV.int .i64)) ++ (xs.drop outLen)).drop outLen)).take ((q3e zs2).length))
    else none
   else none:=by kernel_rfl
theorem n69 (k:Nat) p p1 p2 p3 t qs:c69 (k + 1) p p1 p2 p3 t qs =
 R149 (c149 k p t qs) fun v1 =>
 r69 (v1 == 1):=by kernel_rfl
theorem n70 (k:Nat) p p1 p2 p3 no:c70 (k + 1) p p1 p2 p3 no =
 y5t k k no 0 p1 0 p p1 p2 p3 []:=by kernel_rfl
theorem w2t (k n:Nat) no outLen t9 t10 n1 n11 l l1 xs:y5t k (n + 1) no outLen t9 t10 n1 n11 l l1 xs =
 bif decide (t10 < t9) then
  bif !decide (IntKind.i64.wrap (n1 * t10) < 0) then
   R150 (c150 k n1) fun v1 =>
   bif decide ((outLen + 1) * 8<=LIM) && decide (outLen + 1<=LIM) then
    y5t k n no (outLen + 1) t9 (IntKind.i64.wrap (t10 + 1)) n1 n11 l l1 ((xs.take outLen) ++ [PV.int .u64 (q0n .and .u64 (shrI .u64 (IntKind.u64.wrap no) (IntKind.i64.wrap (n1 * t10))) v1)])
   else none
  else none
 else r70 (xs.take outLen):=by kernel_rfl
theorem n71 (k:Nat) p p1 p2 p3 v path:c71 (k + 1) p p1 p2 p3 v path =
 R25 (c25 k p p1 p2 p3 v path) fun v1 b1 =>
 bif !b1 then
  r71 [] false
 else
  bif (v1 == 0) then
   r71 [] false
  else
   R89 (c89 k p p1 p2 p3 v path) fun l1 =>
   (q0i l1 (IntKind.i64.wrap (v1 - 1))).bind fun p4 =>
   (p4.atRow 0 0).bind fun l2 =>
   r71 l2 true:=by kernel_rfl
theorem n72 (k:Nat) p p1 p2 p3 most l n1 n11:c72 (k + 1) p p1 p2 p3 most l n1 n11 =
 R56 (c56 k (IntKind.i64.wrap (most + 1)) l n1 n11) fun l1 v1 v2 v3 =>
 y5s k k 0 v3 l1 v1 v2 p p1 p2 p3 []:=by kernel_rfl
theorem w4 (k n:Nat) lLen n1 l n11 n12 n13 n14 l1 l2 xs:y5s k (n + 1) lLen n1 l n11 n12 n13 n14 l1 l2 xs =
 bif decide (n1 > 0) then
  R152 (c152 k n13) fun v1 =>
  R152 (c152 k n14) fun v2 =>
  R56 (c56 k 2 l n11 n12) fun l3 v3 v4 v5 =>
  R151 (c151 k v1 v2 v5 l3 v3 v4) fun l4 v6 v7 l5 =>
  bif decide ((lLen + 1) * 24<=LIM) && decide (lLen + 1<=LIM) then
   y5s k n (lLen + 1) (IntKind.i64.wrap (n1 - 1)) l4 v6 v7 n13 n14 l1 l2 ((xs.take lLen) ++ [PV.row 2 0 (l5.take l5.length)])
  else none
 else r72 l n11 n12 (xs.take lLen):=by kernel_rfl
theorem n73 (k:Nat) p p1 p2 p3 v path most:c73 (k + 1) p p1 p2 p3 v path most =
 R81 (c81 k p p1 p2 p3 v) fun b1 =>
 bif !b1 then
  r73 false
 else
  bif decide ((path.length:Int) < 1) then
   r73 false
  else
   bif decide ((path.length:Int) > most) then
    r73 false
   else
    R84 (c84 k v) fun v1 =>
    q46 (y2a k path v1) fun b2 =>
    r73 (!b2):=by kernel_rfl
theorem n74 (k:Nat) p p1 p2 p3 preds least:c74 (k + 1) p p1 p2 p3 preds least =
 bif decide ((preds.length:Int)>=least) then
  bif decide ((preds.length:Int)<=8) then
   y4q (z8c k preds p p1 p2 p3) fun b1 =>
   r74 (!b1)
  else r74 false
 else r74 false:=by kernel_rfl
theorem n75 (k:Nat) p p1 p2 p3 v preds path:c75 (k + 1) p p1 p2 p3 v preds path =
 R156 (c156 k p p1 p2 p3 v path) fun l1 b1 =>
 bif !b1 then
  r75 [] 0 false
 else
  R86 (c86 k p p1 p2 p3 v path) fun l2 =>
  R85p (c85 k (l2.take l2.length)) fun v1 =>
  R157 (c157 k p p1 p2 p3 preds) fun l3 =>
  (q0i path (IntKind.i64.wrap (v1 - 1))).bind fun p4 =>
  (p4.atInt .i64 0).bind fun n1 =>
  (q0i path v1).bind fun p5 =>
  (p5.atInt .i64 0).bind fun n2 =>
  R91 (c91 k p p1 p2 p3 v n1 n2) fun l4 =>
  R158 (c158 k p p1 p2 p3 l3 l1 l4) fun v2 =>
  bif decide (v2 < 0) then
   R79 (c79 k v l1) fun l5 =>
   r75 l5 (-1) true
  else
   (q0i l3 v2).bind fun p6 =>
   (p6.atRow 2 0).bind fun l6 =>
   R159 (c159 k p p1 p2 p3 v l6) fun l7 b2 =>
   r75 l7 v2 true:=by kernel_rfl
theorem n76 (k:Nat) p p1 p2 p3 preds:c76 (k + 1) p p1 p2 p3 preds =
 bif decide ((preds.length:Int) > 8) then
  r76 false
 else y5h k k preds (preds.length:Int) 0 p p1 p2 p3:=by kernel_rfl
theorem w2l (k n:Nat) t10 t11 t12 n1 n11 l l1:y5h k (n + 1) t10 t11 t12 n1 n11 l l1 =
 bif decide (t12 < t11) then
  (q0i t10 t12).bind fun p1 =>
  (p1.atRow 2 0).bind fun l2 =>
  R126 (c126 k n1 n11 l l1 l2) fun b1 =>
  bif !b1 then
   r76 false
  else y5h k n t10 t11 (IntKind.i64.wrap (t12 + 1)) n1 n11 l l1
 else r76 true:=by kernel_rfl
theorem n77 (k:Nat) p p1 p2 p3 v preds path:c77 (k + 1) p p1 p2 p3 v preds path =
 R89 (c89 k p p1 p2 p3 v path) fun l1 =>
 R88 (c88 k l1) fun v1 =>
 R160 (c160 k p p1 p2 p3 preds) fun l2 =>
 (q0i l1 (IntKind.i64.wrap (v1 - 1))).bind fun p4 =>
 (p4.atRow 0 0).bind fun l3 =>
 (q0i path (IntKind.i64.wrap (v1 - 1))).bind fun p5 =>
 (p5.atInt .i64 0).bind fun n1 =>
 (q0i path v1).bind fun p6 =>
 (p6.atInt .i64 0).bind fun n2 =>
 R162 (c162 k p p1 p2 p3 v n1 n2) fun l4 =>
 R161 (c161 k p p1 p2 p3 l2 l3 l4) fun v2 =>
 bif decide (v2 < 0) then
  (q0i l1 (IntKind.i64.wrap (v1 - 1))).bind fun p7 =>
  (p7.atRow 0 0).bind fun l5 =>
  R80 (c80 k v l5) fun l6 =>
  r77 (l6.take l6.length) (-1)
 else
  (q0i l2 v2).bind fun p8 =>
  (p8.atRow 2 0).bind fun l7 =>
  R98 (c98 k p p1 p2 p3 v l7) fun l8 =>
  r77 (l8.take l8.length) v2:=by kernel_rfl
theorem n78 (k:Nat) p p1 p2 p3 v path:c78 (k + 1) p p1 p2 p3 v path =
 R73 (c73 k p p1 p2 p3 v path 200) fun b1 =>
 bif !b1 then
  r78 [] false
 else
  R156 (c156 k p p1 p2 p3 v path) fun l1 b2 =>
  r78 l1 b2:=by kernel_rfl
theorem n79 (k:Nat) v some1:c79 (k + 1) v some1 =
 bif ((v.length:Int) == (v.length:Int)) && decide ((0:Int)<=(v.length:Int)) && decide (v.length * 8<=LIM) && decide (v.length<=LIM) then
  z85 k k some1 (some1.length:Int) 0 v [] v.length (List.replicate v.length (PV.int .i64 0))
 else none:=by kernel_rfl
theorem w32 (k n:Nat) t13 t14 t15 l l1 Len xs:z85 k (n + 1) t13 t14 t15 l l1 Len xs =
 bif decide (t15 < t14) then
  (q0i t13 t15).bind fun p1 =>
  (p1.atInt .i64 0).bind fun n1 =>
  bif decide ((0:Int)<=n1) && decide (n1 < (Len:Int)) then
   (xs[0 + n1.toNat]?).bind fun p2 =>
   z85 k n t13 t14 (IntKind.i64.wrap (t15 + 1)) l l1 Len (xs.set (0 + n1.toNat) (PV.int .i64 1))
  else none
 else
  R83 (c83 k l (xs.take Len)) fun l2 =>
  r79 l2:=by kernel_rfl
theorem n80 (k:Nat) v some1:c80 (k + 1) v some1 =
 z9c k k some1 0 v (v.length:Int) 0 [] []:=by kernel_rfl
theorem w30 (k n:Nat) some1 keysLen t9 t10 t11 l xs:z9c k (n + 1) some1 keysLen t9 t10 t11 l xs =
 bif decide (t11 < t10) then
  (q0i t9 t11).bind fun p1 =>
  (p1.atInt .i64 0).bind fun n1 =>
  R163 (c163 k some1 t11) fun b1 =>
  bif b1 then
   bif decide ((keysLen + 1) * 8<=LIM) && decide (keysLen + 1<=LIM) then
    z9c k n some1 (keysLen + 1) t9 t10 (IntKind.i64.wrap (t11 + 1)) l ((xs.take keysLen) ++ [PV.int .i64 (IntKind.i64.wrap ((IntKind.i64.wrap (2 * n1)) + 1))])
   else none
  else
   bif decide ((keysLen + 1) * 8<=LIM) && decide (keysLen + 1<=LIM) then
    z9c k n some1 (keysLen + 1) t9 t10 (IntKind.i64.wrap (t11 + 1)) l ((xs.take keysLen) ++ [PV.int .i64 (IntKind.i64.wrap (2 * n1))])
   else none
 else
  x8y (c164 k (xs.take keysLen)) fun l1 =>
  r80 (l1.take l1.length):=by kernel_rfl
theorem n81 (k:Nat) p p1 p2 p3 v:c81 (k + 1) p p1 p2 p3 v =
 R102 (c102 k p p1 p2 p3) fun b1 =>
 bif b1 then
  R103 (c103 k p p1 p2 p3) fun v1 =>
  R165 (c165 k v v1) fun b2 =>
  r81 b2
 else r81 false:=by kernel_rfl
theorem n82 (k:Nat) qs1 qs2:c82 (k + 1) qs1 qs2 =
 bif ((qs1.length:Int) != (qs2.length:Int)) then
  r82 false
 else y5p k k qs1 qs2 (qs1.length:Int) 0:=by kernel_rfl
theorem w44 (k n:Nat) qs1 qs2 t12 t13:y5p k (n + 1) qs1 qs2 t12 t13 =
 bif decide (t13 < t12) then
  (q0i qs1 t13).bind fun p1 =>
  (p1.atInt .i64 0).bind fun n1 =>
  (q0i qs2 t13).bind fun p2 =>
  (p2.atInt .i64 0).bind fun n2 =>
  bif (n1 != n2) then
   r82 false
  else y5p k n qs1 qs2 t12 (IntKind.i64.wrap (t13 + 1))
 else r82 true:=by kernel_rfl
theorem n83 (k:Nat) a b:c83 (k + 1) a b =
 y5r k k 0 a (a.length:Int) 0 b [] []:=by kernel_rfl
theorem w5j (k n:Nat) keysLen t10 t11 t12 l l1 xs:y5r k (n + 1) keysLen t10 t11 t12 l l1 xs =
 bif decide (t12 < t11) then
  (q0i t10 t12).bind fun p1 =>
  (p1.atInt .i64 0).bind fun n1 =>
  (q0i l t12).bind fun p2 =>
  (p2.atInt .i64 0).bind fun n2 =>
  bif decide ((keysLen + 1) * 16<=LIM) && decide (keysLen + 1<=LIM) then
   y5r k n (keysLen + 1) t10 t11 (IntKind.i64.wrap (t12 + 1)) l l1 ((xs.take keysLen) ++ [PV.agg [.int .i64 n1,.int .i64 n2]])
  else none
 else
  x2i (c166 k (xs.take keysLen)) fun l2 =>
  r83 (l2.take l2.length):=by kernel_rfl
theorem n84 (k:Nat) v:c84 (k + 1) v =
 R167 (c167 k v) fun v1 =>
 r84 (IntKind.i64.wrap (v1 + 1)):=by kernel_rfl
theorem n85 (k:Nat) along:c85 (k + 1) along =
 y4f (z7q k along) fun v1 =>
 r85 v1:=by kernel_rfl
end Go.Proofs.YtgdegfijcijnoaaGreat
/- Normal forms: printed by nf.py. -/
namespace Go.Proofs.YtgdegfijcijnoaaGreat
open Go.Dp
theorem n86 (k:Nat) p p1 p2 p3 v path:c86 (k + 1) p p1 p2 p3 v path =
 R109 (c109 k p p1 p2 p3) fun l1 =>
 R110 (c110 k p p1 p2 p3 p2) fun l2 =>
 z5o k k 0 l1 l2.length path (path.length:Int) 0 p p1 p2 p3 v [] l2:=by kernel_rfl
theorem x48 (k n:Nat) outLen next nowLen t24 t25 t26 n1 n11 l l1 l2 xs xs1:z5o k (n + 1) outLen next nowLen t24 t25 t26 n1 n11 l l1 l2 xs xs1 =
 bif decide (t26 < t25) then
  (q0i t24 t26).bind fun p1 =>
  (p1.atInt .i64 0).bind fun n2 =>
  bif decide (t26 > 0) then
   R103 (c103 k n1 n11 l l1) fun v1 =>
   bif (v1 == v1) && decide ((0:Int)<=v1) && decide (v1.toNat * 1<=LIM) && decide (v1.toNat<=LIM) then
    z5v k n k outLen next v1.toNat t24 t25 t26 nowLen (nowLen:Int) 0 n1 n11 l l1 l2 n2 xs (List.replicate v1.toNat (PV.bool false)) xs1
   else none
  else
   z4p (q9a k (xs1.take nowLen) l2 n2) fun l3 =>
   z5f (c139 k (l3.take l3.length)) fun l4 =>
   bif decide (l4.length<=l4.length) then
    bif (outLen == xs.length) && decide ((outLen + 1) * 24<=LIM) && decide (outLen + 1<=LIM) then
     z5o k n (outLen + 1) next l3.length t24 t25 (IntKind.i64.wrap (t26 + 1)) n1 n11 l l1 l2 (xs ++ [PV.row 0 0 (l4.take l4.length)]) l3
    else none
   else none
 else
  bif (outLen == xs.length) then
   r86 (xs.take outLen)
  else none:=by kernel_rfl
theorem w4l (k n1 n:Nat) outLen next inLen t24 t25 t26 t36Len t37 t38 n11 n12 l l1 l2 n13 xs xs1 xs2:z5v k n1 (n + 1) outLen next inLen t24 t25 t26 t36Len t37 t38 n11 n12 l l1 l2 n13 xs xs1 xs2 =
 bif decide (t38 < t37) then
  bif decide ((0:Int)<=t38) && decide (t38 < (t36Len:Int)) then
   (xs2[0 + t38.toNat]?).bind fun p1 =>
   (p1.atInt .i64 0).bind fun n2 =>
   (q0i next n2).bind fun p2 =>
   (p2.atRow 0 0).bind fun l3 =>
   y1v k n1 n k outLen next inLen t24 t25 t26 t36Len t37 t38 l3 (l3.length:Int) 0 n11 n12 l l1 l2 n13 xs xs1 xs2
  else none
 else
  x8n (c170 k (xs1.take inLen)) fun l4 =>
  z4p (q9a k (l4.take l4.length) l2 n13) fun l5 =>
  z5f (c139 k (l5.take l5.length)) fun l6 =>
  bif decide (l6.length<=l6.length) then
   bif (outLen == xs.length) && decide ((outLen + 1) * 24<=LIM) && decide (outLen + 1<=LIM) then
    z5o k n1 (outLen + 1) next l5.length t24 t25 (IntKind.i64.wrap (t26 + 1)) n11 n12 l l1 l2 (xs ++ [PV.row 0 0 (l6.take l6.length)]) l5
   else none
  else none:=by kernel_rfl
theorem w5 (k n1 n2 n:Nat) outLen next inLen t24 t25 t26 t36Len t37 t38 t45 t46 t47 n11 n12 l l1 l2 n13 xs xs1 xs2:y1v k n1 n2 (n + 1) outLen next inLen t24 t25 t26 t36Len t37 t38 t45 t46 t47 n11 n12 l l1 l2 n13 xs xs1 xs2 =
 bif decide (t47 < t46) then
  (q0i t45 t47).bind fun p1 =>
  (p1.atInt .i64 0).bind fun n3 =>
  bif decide ((0:Int)<=n3) && decide (n3 < (inLen:Int)) then
   (xs1[0 + n3.toNat]?).bind fun p2 =>
   y1v k n1 n2 n outLen next inLen t24 t25 t26 t36Len t37 t38 t45 t46 (IntKind.i64.wrap (t47 + 1)) n11 n12 l l1 l2 n13 xs (xs1.set (0 + n3.toNat) (PV.bool true)) xs2
  else none
 else z5v k n1 n2 outLen next inLen t24 t25 t26 t36Len t37 (IntKind.i64.wrap (t38 + 1)) n11 n12 l l1 l2 n13 xs xs1 xs2:=by kernel_rfl
theorem n87 (k:Nat) p p1 p2 p3 v path:c87 (k + 1) p p1 p2 p3 v path =
 R129 (c129 k p p1 p2 p3 v) fun b1 =>
 bif b1 then
  R140 (c140 k (path.length:Int) 1 200) fun b2 =>
  bif b2 then
   R141 (c141 k v path) fun b3 =>
   r87 b3
  else r87 false
 else r87 false:=by kernel_rfl
theorem n88 (k:Nat) along:c88 (k + 1) along =
 y5w k k along (along.length:Int) 0:=by kernel_rfl
theorem w45 (k n:Nat) t5 t6 t7:y5w k (n + 1) t5 t6 t7 =
 bif decide (t7 < t6) then
  (q0i t5 t7).bind fun p1 =>
  (p1.atRow 0 0).bind fun l1 =>
  bif ((l1.length:Int) == 0) then
   r88 t7
  else y5w k n t5 t6 (IntKind.i64.wrap (t7 + 1))
 else r88 (-1):=by kernel_rfl
theorem n89 (k:Nat) p p1 p2 p3 v path:c89 (k + 1) p p1 p2 p3 v path =
 R124 (c124 k p p1 p2 p3 p2) fun l1 =>
 y00 k k 0 l1 path (path.length:Int) 0 p p1 p2 p3 v []:=by kernel_rfl
theorem w21 (k n:Nat) outLen some1 t18 t19 t20 n1 n11 l l1 l2 xs:y00 k (n + 1) outLen some1 t18 t19 t20 n1 n11 l l1 l2 xs =
 bif decide (t20 < t19) then
  (q0i t18 t20).bind fun p1 =>
  (p1.atInt .i64 0).bind fun n2 =>
  z5n k n k outLen n2 0 t18 t19 t20 some1 (some1.length:Int) 0 n1 n11 l l1 l2 xs []
 else r89 (xs.take outLen):=by kernel_rfl
theorem w4u (k n1 n:Nat) outLen class1 inLen t18 t19 t20 t24 t25 t26 n11 n12 l l1 l2 xs xs1:z5n k n1 (n + 1) outLen class1 inLen t18 t19 t20 t24 t25 t26 n11 n12 l l1 l2 xs xs1 =
 bif decide (t26 < t25) then
  (q0i t24 t26).bind fun p1 =>
  (p1.atInt .i64 0).bind fun n2 =>
  (q0i l2 n2).bind fun p2 =>
  (p2.atInt .i64 0).bind fun n3 =>
  bif (n3 == class1) then
   bif decide ((inLen + 1) * 8<=LIM) && decide (inLen + 1<=LIM) then
    z5n k n1 n outLen class1 (inLen + 1) t18 t19 t20 t24 t25 (IntKind.i64.wrap (t26 + 1)) n11 n12 l l1 l2 xs ((xs1.take inLen) ++ [PV.int .i64 n2])
   else none
  else z5n k n1 n outLen class1 inLen t18 t19 t20 t24 t25 (IntKind.i64.wrap (t26 + 1)) n11 n12 l l1 l2 xs xs1
 else
  bif decide ((outLen + 1) * 24<=LIM) && decide (outLen + 1<=LIM) then
   R125 (c125 k n11 n12 l l1 (xs1.take inLen)) fun l3 =>
   y00 k n1 (outLen + 1) l3 t18 t19 (IntKind.i64.wrap (t20 + 1)) n11 n12 l l1 l2 ((xs.take outLen) ++ [PV.row 0 0 (xs1.take inLen)])
  else none:=by kernel_rfl
theorem n90 (k:Nat) p p1 p2 p3 v class1:c90 (k + 1) p p1 p2 p3 v class1 =
 R81 (c81 k p p1 p2 p3 v) fun b1 =>
 bif b1 then
  bif decide (class1>=0) then
   R84 (c84 k v) fun v1 =>
   r90 (decide (class1 < v1))
  else r90 false
 else r90 false:=by kernel_rfl
theorem n91 (k:Nat) p p1 p2 p3 v class1 to:c91 (k + 1) p p1 p2 p3 v class1 to =
 R173 (c173 k v class1) fun l1 =>
 y24 (z7r k (l1.take l1.length) p p1 p2 p3 v to) fun l2 =>
 r91 (l2.take l2.length):=by kernel_rfl
theorem n98 (k:Nat) p p1 p2 p3 v t:c98 (k + 1) p p1 p2 p3 v t =
 R124 (c124 k p p1 p2 p3 t) fun l1 =>
 R80 (c80 k v l1) fun l2 =>
 r98 (l2.take l2.length):=by kernel_rfl
theorem n99 (k:Nat) p p1 p2 p3 preds:c99 (k + 1) p p1 p2 p3 preds =
 R105 (c105 k p p1 p2 p3) fun v1 =>
 bif (v1 == v1) && decide ((0:Int)<=v1) && decide (v1.toNat * 8<=LIM) && decide (v1.toNat<=LIM) then
  y5l k k preds (preds.length:Int) 0 p p1 p2 p3 [] v1.toNat (List.replicate v1.toNat (PV.int .i64 0))
 else none:=by kernel_rfl
theorem w3f (k n:Nat) t12 t13 t14 n1 n11 l l1 l2 Len xs:y5l k (n + 1) t12 t13 t14 n1 n11 l l1 l2 Len xs =
 bif decide (t14 < t13) then
  (q0i t12 t14).bind fun p1 =>
  (p1.atRow 2 0).bind fun l3 =>
  R98p (c98 k n1 n11 l l1 (xs.take Len) l3) fun l4 =>
  y5l k n t12 t13 (IntKind.i64.wrap (t14 + 1)) n1 n11 l l1 l2 l4.length l4
 else r99 (xs.take Len):=by kernel_rfl
theorem n102 (k:Nat) p p1 p2 p3:c102 (k + 1) p p1 p2 p3 =
 R185 (c185 k p p1 p2 p3) fun b1 =>
 bif b1 then
  r102 (decide (IntKind.i64.wrap (p * p1)<=5))
 else r102 false:=by kernel_rfl
theorem n103 (k:Nat) p p1 p2 p3:c103 (k + 1) p p1 p2 p3 =
 bif !decide (IntKind.i64.wrap (p * p1) < 0) then
  r103 (shlI .i64 1 (IntKind.i64.wrap (p * p1)))
 else none:=by kernel_rfl
theorem n104 (k:Nat) p p1 p2 p3:c104 (k + 1) p p1 p2 p3 =
 R132 (c132 k p p1 p2 p3) fun b1 =>
 bif b1 then
  r104 (decide (IntKind.i64.wrap (p * p1)<=5))
 else r104 false:=by kernel_rfl
theorem n105 (k:Nat) p p1 p2 p3:c105 (k + 1) p p1 p2 p3 =
 bif !decide (IntKind.u64.wrap (IntKind.i64.wrap (p * p1)) < 0) then
  r105 (shlI .i64 1 (IntKind.u64.wrap (IntKind.i64.wrap (p * p1))))
 else none:=by kernel_rfl
theorem n107 (k:Nat) p p1 p2 p3 t:c107 (k + 1) p p1 p2 p3 t =
 R187 (c187 k p p1 t 2) fun b1 =>
 r107 b1:=by kernel_rfl
theorem n109 (k:Nat) p p1 p2 p3:c109 (k + 1) p p1 p2 p3 =
 R103 (c103 k p p1 p2 p3) fun v1 =>
 y0f k k 0 v1 0 p p1 p2 p3 []:=by kernel_rfl
theorem x0o (k n:Nat) outLen t7 t8 n1 n11 l l1 xs:y0f k (n + 1) outLen t7 t8 n1 n11 l l1 xs =
 bif decide (t8 < t7) then
  R68 (c68 k n1 n11 l l1 t8) fun l2 =>
  bif decide ((outLen + 1) * 24<=LIM) && decide (outLen + 1<=LIM) then
   y0f k n (outLen + 1) t7 (IntKind.i64.wrap (t8 + 1)) n1 n11 l l1 ((xs.take outLen) ++ [PV.row 0 0 l2])
  else none
 else r109 (xs.take outLen):=by kernel_rfl
theorem n110 (k:Nat) p p1 p2 p3 t:c110 (k + 1) p p1 p2 p3 t =
 R103 (c103 k p p1 p2 p3) fun v1 =>
 z3w k k t 0 v1 0 p p1 p2 p3 []:=by kernel_rfl
theorem x9v (k n:Nat) t outLen t9 t10 n1 n11 l l1 xs:z3w k (n + 1) t outLen t9 t10 n1 n11 l l1 xs =
 bif decide (t10 < t9) then
  R70 (c70 k n1 n11 l l1 t10) fun l2 =>
  R69 (c69 k n1 n11 l l1 t l2) fun b1 =>
  bif b1 then
   bif decide ((outLen + 1) * 8<=LIM) && decide (outLen + 1<=LIM) then
    z3w k n t (outLen + 1) t9 (IntKind.i64.wrap (t10 + 1)) n1 n11 l l1 ((xs.take outLen) ++ [PV.int .i64 t10])
   else none
  else z3w k n t outLen t9 (IntKind.i64.wrap (t10 + 1)) n1 n11 l l1 xs
 else r110 (xs.take outLen):=by kernel_rfl
theorem n118 (k:Nat) l n1 n11:c118 (k + 1) l n1 n11 =
 R177 (c177 k [PV.int .i64 1,PV.int .i64 2,PV.int .i64 2,PV.int .i64 2,PV.int .i64 3,PV.int .i64 4] l n1 n11) fun l1 v1 v2 v3 =>
 bif decide (v3 < 3) then
  bif !(v3 == 0) then
   R56 (c56 k (IntKind.i64.wrap ((6:Int).tdiv v3)) l1 v1 v2) fun l2 v4 v5 v6 =>
   q9e k k v3 (IntKind.i64.wrap (1 + v6)) l2 v4 v5 0 0 [] []
  else none
 else q9e k k v3 1 l1 v1 v2 0 0 [] []:=by kernel_rfl
theorem x9r (k n:Nat) wide vars l n1 n11 n12 n13 l1 l2:q9e k (n + 1) wide vars l n1 n11 n12 n13 l1 l2 =
 bif decide (IntKind.i64.wrap (wide * vars) > 5) then
  q9e k n wide (IntKind.i64.wrap (vars - 1)) l n1 n11 n12 n13 l1 l2
 else
  bif decide (vars > 4) then
   q9e k n wide (IntKind.i64.wrap (vars - 1)) l n1 n11 n12 n13 l1 l2
  else
   R190 (c190 k wide vars l n1 n11) fun l3 v1 v2 v3 v4 l4 l5 =>
   R56 (c56 k 40 l3 v1 v2) fun l6 v5 v6 v7 =>
   bif (v7 == 0) then
    R177 (c177 k [PV.int .i64 0,PV.int .i64 4,PV.int .i64 5] l6 v5 v6) fun l7 v8 v9 v10 =>
    bif (l5.length == l5.length) then
     r118 l7 v8 v9 v3 v10 l4 (l5.take l5.length)
    else none
   else
    bif (v7 == 1) then
     r118 l6 v5 v6 v3 v4 l4 []
    else
     bif (v7 == 2) then
      bif decide ((0:Int) < (l5.length:Int)) then
       (l5[0]?).bind fun p1 =>
       (putPart p1 2 0 (PV.row 2 0 [PV.agg [.int .i64 1,.int .u64 0]]) 0).bind fun p2 =>
       bif (l5.length == (l5.set 0 p2).length) then
        r118 l6 v5 v6 v3 v4 l4 ((l5.set 0 p2).take l5.length)
       else none
      else none
     else
      bif (v7 == 3) then
       bif decide ((0:Int) < (l5.length:Int)) then
        (l5[0]?).bind fun p3 =>
        (p3.atRow 2 1).bind fun l8 =>
        bif decide ((l8.length + 1) * 32<=LIM) && decide (l8.length + 1<=LIM) then
         bif decide ((0:Int) < (l5.length:Int)) then
          (l5[0]?).bind fun p4 =>
          bif decide (l8.length + 1<=(l8 ++ [PV.agg [.int .i64 0,.row 2 0 [PV.agg [.int .i64 1,.int .u64 0]]]]).length) then
           (putPart p4 2 1 (PV.row 2 0 ((l8 ++ [PV.agg [.int .i64 0,.row 2 0 [PV.agg [.int .i64 1,.int .u64 0]]]]).take (l8.length + 1))) 0).bind fun p5 =>
           bif (l5.length == (l5.set 0 p5).length) then
            r118 l6 v5 v6 v3 v4 l4 ((l5.set 0 p5).take l5.length)
           else none
          else none
         else none
        else none
       else none
      else
       bif (l5.length == l5.length) then
        r118 l6 v5 v6 v3 v4 l4 (l5.take l5.length)
       else none:=by kernel_rfl
theorem n120 (k:Nat) n1 l n11 n12:c120 (k + 1) n1 l n11 n12 =
 R56 (c56 k n1 l n11 n12) fun l1 v1 v2 v3 =>
 r120 l1 v1 v2 (v3 == 0):=by kernel_rfl
theorem n121 (k:Nat) n1 most l n11 n12:c121 (k + 1) n1 most l n11 n12 =
 R56 (c56 k (IntKind.i64.wrap (most + 1)) l n11 n12) fun l1 v1 v2 v3 =>
 z9h k k n1 0 v3 l1 v1 v2 []:=by kernel_rfl
theorem w0i (k n:Nat) n1 lLen k1 l n11 n12 xs:z9h k (n + 1) n1 lLen k1 l n11 n12 xs =
 bif decide (k1 > 0) then
  R56 (c56 k n1 l n11 n12) fun l1 v1 v2 v3 =>
  R192 (c192 k (xs.take lLen) v3) fun l2 =>
  z9h k n n1 l2.length (IntKind.i64.wrap (k1 - 1)) l1 v1 v2 l2
 else
  R120 (c120 k 40 l n11 n12) fun l3 v4 v5 b1 =>
  bif b1 then
   bif decide ((lLen + 1) * 8<=LIM) && decide (lLen + 1<=LIM) then
    r121 l3 v4 v5 (((xs.take lLen) ++ [PV.int .i64 n1]).take (lLen + 1))
   else none
  else r121 l3 v4 v5 (xs.take lLen):=by kernel_rfl
theorem n123 (k:Nat) some1 in1:c123 (k + 1) some1 in1 =
 y1e k k in1 some1 (some1.length:Int) 0:=by kernel_rfl
theorem x92 (k n:Nat) in1 t7 t8 t9:y1e k (n + 1) in1 t7 t8 t9 =
 bif decide (t9 < t8) then
  (q0i t7 t9).bind fun p1 =>
  (p1.atInt .i64 0).bind fun n1 =>
  R163 (c163 k in1 n1) fun b1 =>
  bif !b1 then
   r123 false
  else y1e k n in1 t7 t8 (IntKind.i64.wrap (t9 + 1))
 else r123 true:=by kernel_rfl
theorem n124 (k:Nat) p p1 p2 p3 t:c124 (k + 1) p p1 p2 p3 t =
 z27 k k t 0 0 p p1 p2 p3 []:=by kernel_rfl
theorem w1i (k n:Nat) t outLen no n1 n11 l l1 xs:z27 k (n + 1) t outLen no n1 n11 l l1 xs =
 R105 (c105 k n1 n11 l l1) fun v1 =>
 bif decide (no < v1) then
  R195 (c195 k n1 n11 l l1 no) fun l2 =>
  R194 (c194 k n1 n11 l l1 t l2) fun b1 =>
  bif b1 then
   bif decide ((outLen + 1) * 8<=LIM) && decide (outLen + 1<=LIM) then
    z27 k n t (outLen + 1) (IntKind.i64.wrap (no + 1)) n1 n11 l l1 ((xs.take outLen) ++ [PV.int .i64 no])
   else none
  else z27 k n t outLen (IntKind.i64.wrap (no + 1)) n1 n11 l l1 xs
 else r124 (xs.take outLen):=by kernel_rfl
theorem n125 (k:Nat) p p1 p2 p3 some1:c125 (k + 1) p p1 p2 p3 some1 =
 z4n k k 0 some1 (some1.length:Int) 0 p p1 p2 p3 []:=by kernel_rfl
theorem w10 (k n:Nat) outLen t10 t11 t12 n1 n11 l l1 xs:z4n k (n + 1) outLen t10 t11 t12 n1 n11 l l1 xs =
 bif decide (t12 < t11) then
  (q0i t10 t12).bind fun p1 =>
  (p1.atInt .i64 0).bind fun n2 =>
  R184 (c184 k n1 n11 l l1 n2) fun l2 =>
  z3g k n k outLen t10 t11 t12 l2 (l2.length:Int) 0 n1 n11 l l1 xs
 else r125 (xs.take outLen):=by kernel_rfl
theorem w2f (k n1 n:Nat) outLen t10 t11 t12 t18 t19 t20 n11 n12 l l1 xs:z3g k n1 (n + 1) outLen t10 t11 t12 t18 t19 t20 n11 n12 l l1 xs =
 bif decide (t20 < t19) then
  (q0i t18 t20).bind fun p1 =>
  (p1.atInt .i64 0).bind fun n2 =>
  R192 (c192 k (xs.take outLen) n2) fun l2 =>
  z3g k n1 n l2.length t10 t11 t12 t18 t19 (IntKind.i64.wrap (t20 + 1)) n11 n12 l l1 l2
 else z4n k n1 outLen t10 t11 (IntKind.i64.wrap (t12 + 1)) n11 n12 l l1 xs:=by kernel_rfl
theorem n126 (k:Nat) p p1 p2 p3 t:c126 (k + 1) p p1 p2 p3 t =
 R196 (c196 k p p1 t) fun v1 =>
 r126 (v1 == 2):=by kernel_rfl
theorem n127 (k:Nat) a b:c127 (k + 1) a b =
 z82 k k b a (a.length:Int) 0:=by kernel_rfl
theorem w1y (k n:Nat) b t7 t8 t9:z82 k (n + 1) b t7 t8 t9 =
 bif decide (t9 < t8) then
  (q0i t7 t9).bind fun p1 =>
  (p1.atInt .i64 0).bind fun n1 =>
  R163 (c163 k b n1) fun b1 =>
  bif b1 then
   r127 true
  else z82 k n b t7 t8 (IntKind.i64.wrap (t9 + 1))
 else r127 false:=by kernel_rfl
theorem n129 (k:Nat) p p1 p2 p3 v:c129 (k + 1) p p1 p2 p3 v =
 R104 (c104 k p p1 p2 p3) fun b1 =>
 bif !b1 then
  r129 false
 else
  R105 (c105 k p p1 p2 p3) fun v1 =>
  bif ((v.length:Int) != v1) then
   r129 false
  else z3r k k 0 v (v.length:Int) 0:=by kernel_rfl
theorem x9m (k n:Nat) many t20 t21 t22:z3r k (n + 1) many t20 t21 t22 =
 bif decide (t22 < t21) then
  (q0i t20 t22).bind fun p1 =>
  (p1.atInt .i64 0).bind fun n1 =>
  R140 (c140 k n1 0 many) fun b1 =>
  bif !b1 then
   r129 false
  else
   bif (n1 == many) then
    z3r k n (IntKind.i64.wrap (many + 1)) t20 t21 (IntKind.i64.wrap (t22 + 1))
   else z3r k n many t20 t21 (IntKind.i64.wrap (t22 + 1))
 else r129 true:=by kernel_rfl
theorem n132 (k:Nat) p p1 p2 p3:c132 (k + 1) p p1 p2 p3 =
 R126 (c126 k p p1 p2 p3 p2) fun b1 =>
 bif !b1 then
  r132 false
 else
  R140 (c140 k (p3.length:Int) 1 6) fun b2 =>
  bif !b2 then
   r132 false
  else y0q k k p3 (p3.length:Int) 0 p p1 p2 p3:=by kernel_rfl
theorem w0j (k n:Nat) t18 t19 t20 n1 n11 l l1:y0q k (n + 1) t18 t19 t20 n1 n11 l l1 =
 bif decide (t20 < t19) then
  (q0i t18 t20).bind fun p1 =>
  bif p1.shp 2 then
   (p1.atRow 2 0).bind fun l2 =>
   (p1.atRow 2 1).bind fun l3 =>
   R198 (c198 k n1 n11 l l1 l2 l3) fun b1 =>
   bif !b1 then
    r132 false
   else y0q k n t18 t19 (IntKind.i64.wrap (t20 + 1)) n1 n11 l l1
  else none
 else r132 true:=by kernel_rfl
theorem n133 (k:Nat) p p1 p2 p3 l n1 n11:c133 (k + 1) p p1 p2 p3 l n1 n11 =
 R72 (c72 k p p1 p2 p3 3 l n1 n11) fun l1 v1 v2 l2 =>
 R199 (c199 k p p1 p2 p3 l2) fun l3 b1 =>
 R120 (c120 k 3 l1 v1 v2) fun l4 v3 v4 b2 =>
 bif b2 then
  R121 (c121 k 4 3 l4 v3 v4) fun l5 v5 v6 l6 =>
  x8z (c200 k p p1 p2 p3 (l3.take l3.length) l6) fun l7 b3 =>
  bif b3 then
   R56 (c56 k 40 l5 v5 v6) fun l8 v7 v8 v9 =>
   bif (v9 == 0) then
    bif decide ((l7.length + 1) * 8<=LIM) && decide (l7.length + 1<=LIM) then
     r133 l8 v7 v8 (((l7.take l7.length) ++ [PV.int .i64 0]).take (l7.length + 1))
    else none
   else
    bif (v9 == 1) then
     bif decide ((l7.length:Int) > 0) then
      bif decide ((0:Int)<=IntKind.i64.wrap ((l7.length:Int) - 1)) && decide (IntKind.i64.wrap ((l7.length:Int) - 1) < (l7.length:Int)) then
       (l7[0 + ((IntKind.i64.wrap ((l7.length:Int) - 1)).toNat)]?).bind fun p4 =>
       r133 l8 v7 v8 ((l7.set (0 + ((IntKind.i64.wrap ((l7.length:Int) - 1)).toNat)) (PV.int .i64 (l7.length:Int))).take l7.length)
      else none
     else r133 l8 v7 v8 (l7.take l7.length)
    else r133 l8 v7 v8 (l7.take l7.length)
  else
   R56 (c56 k 40 l5 v5 v6) fun l9 v10 v11 v12 =>
   bif (v12 == 0) then
    bif decide ((l3.length + 1) * 8<=LIM) && decide (l3.length + 1<=LIM) then
     r133 l9 v10 v11 (((l3.take l3.length) ++ [PV.int .i64 0]).take (l3.length + 1))
    else none
   else
    bif (v12 == 1) then
     bif decide ((l3.length:Int) > 0) then
      bif decide ((0:Int)<=IntKind.i64.wrap ((l3.length:Int) - 1)) && decide (IntKind.i64.wrap ((l3.length:Int) - 1) < (l3.length:Int)) then
       (l3[0 + ((IntKind.i64.wrap ((l3.length:Int) - 1)).toNat)]?).bind fun p5 =>
       r133 l9 v10 v11 ((l3.set (0 + ((IntKind.i64.wrap ((l3.length:Int) - 1)).toNat)) (PV.int .i64 (l3.length:Int))).take l3.length)
      else none
     else r133 l9 v10 v11 (l3.take l3.length)
    else r133 l9 v10 v11 (l3.take l3.length)
 else
  R56 (c56 k 40 l4 v3 v4) fun l10 v13 v14 v15 =>
  bif (v15 == 0) then
   bif decide ((l3.length + 1) * 8<=LIM) && decide (l3.length + 1<=LIM) then
    r133 l10 v13 v14 (((l3.take l3.length) ++ [PV.int .i64 0]).take (l3.length + 1))
   else none
  else
   bif (v15 == 1) then
    bif decide ((l3.length:Int) > 0) then
     bif decide ((0:Int)<=IntKind.i64.wrap ((l3.length:Int) - 1)) && decide (IntKind.i64.wrap ((l3.length:Int) - 1) < (l3.length:Int)) then
      (l3[0 + ((IntKind.i64.wrap ((l3.length:Int) - 1)).toNat)]?).bind fun p6 =>
      r133 l10 v13 v14 ((l3.set (0 + ((IntKind.i64.wrap ((l3.length:Int) - 1)).toNat)) (PV.int .i64 (l3.length:Int))).take l3.length)
     else none
    else r133 l10 v13 v14 (l3.take l3.length)
   else r133 l10 v13 v14 (l3.take l3.length):=by kernel_rfl
theorem n134 (k:Nat) p p1 p2 p3 v:c134 (k + 1) p p1 p2 p3 v =
 R129 (c129 k p p1 p2 p3 v) fun b1 =>
 bif !b1 then
  r134 [] false
 else
  R124 (c124 k p p1 p2 p3 p2) fun l1 =>
  R181 (c181 k v l1) fun l2 =>
  r134 l2 true:=by kernel_rfl
theorem n135 (k:Nat) p p1 p2 p3 v class1:c135 (k + 1) p p1 p2 p3 v class1 =
 R201 (c201 k p p1 p2 p3 v class1) fun b1 =>
 bif !b1 then
  r135 [] false
 else
  R202 (c202 k p p1 p2 p3 v class1) fun l1 =>
  r135 l1 true:=by kernel_rfl
theorem n136 (k:Nat) l n1 n11:c136 (k + 1) l n1 n11 =
 bif decide (n1 < (l.length:Int)) then
  (q0i l n1).bind fun p1 =>
  (p1.atInt .u8 0).bind fun n2 =>
  bif decide (IntKind.i64.wrap (n1 + 1)<=(l.length:Int)) then
   r136 l (IntKind.i64.wrap (n1 + 1)) (IntKind.u64.wrap ((IntKind.u64.wrap ((IntKind.u64.wrap (n11 * 6364136223846793005)) + (IntKind.u64.wrap (IntKind.i64.wrap n2)))) + 1442695040888963407)) (IntKind.i64.wrap n2)
  else r136 l (IntKind.i64.wrap (n1 + 1)) (IntKind.u64.wrap ((IntKind.u64.wrap ((IntKind.u64.wrap (n11 * 6364136223846793005)) + (IntKind.u64.wrap (IntKind.i64.wrap n2)))) + 1442695040888963407)) (IntKind.i64.wrap (q0n .and .u64 (shrI .u64 (IntKind.u64.wrap ((IntKind.u64.wrap ((IntKind.u64.wrap (n11 * 6364136223846793005)) + (IntKind.u64.wrap (IntKind.i64.wrap n2)))) + 1442695040888963407)) 40) 255))
 else
  bif decide (IntKind.i64.wrap (n1 + 1)<=(l.length:Int)) then
   r136 l (IntKind.i64.wrap (n1 + 1)) (IntKind.u64.wrap ((IntKind.u64.wrap ((IntKind.u64.wrap (n11 * 6364136223846793005)) + 0)) + 1442695040888963407)) 0
  else r136 l (IntKind.i64.wrap (n1 + 1)) (IntKind.u64.wrap ((IntKind.u64.wrap ((IntKind.u64.wrap (n11 * 6364136223846793005)) + 0)) + 1442695040888963407)) (IntKind.i64.wrap (q0n .and .u64 (shrI .u64 (IntKind.u64.wrap ((IntKind.u64.wrap ((IntKind.u64.wrap (n11 * 6364136223846793005)) + 0)) + 1442695040888963407)) 40) 255)):=by kernel_rfl
theorem n139 (k:Nat) qs (h1:qs.length * 8<=LIM) (h2:qs.length<=LIM):c139 (k + 1) qs = r139 qs:=y5n (by first | (simp [T,orT,numT,cloneT,q5l,lk,h1,h2] <;> rfl) | (simp [T,cloneT,q5l,lk,h1,h2] <;> rfl))
theorem n140 (k:Nat) n1 lo hi:c140 (k + 1) n1 lo hi =
 bif decide (n1>=lo) then
  r140 (decide (n1<=hi))
 else r140 false:=by kernel_rfl
theorem n141 (k:Nat) v l:c141 (k + 1) v l =
 R208 (c208 k v) fun v1 =>
 R207 (c207 k l 0 (IntKind.i64.wrap (v1 - 1))) fun b1 =>
 r141 b1:=by kernel_rfl
end Go.Proofs.YtgdegfijcijnoaaGreat
/- Normal forms: printed by nf.py. -/
namespace Go.Proofs.YtgdegfijcijnoaaGreat
open Go.Dp
theorem x7n (k:Nat) qs n1:z73 (k + 1) qs n1 =
 q7u k k qs n1 (qs.length:Int) 0:=by kernel_rfl
theorem x7z (k:Nat) qs n1 n11 l l1 l2 n12:z70 (k + 1) qs n1 n11 l l1 l2 n12 =
 q7x k k qs n1 n11 l l1 l2 n12 (qs.length:Int) 0:=by kernel_rfl
theorem y9s (k n:Nat) qs n1 t7 t8:q7u k (n + 1) qs n1 t7 t8 =
 bif decide (t8 < t7) then
  (q0i qs t8).bind fun p1 =>
  (p1.atInt .i64 0).bind fun n2 =>
  R153 (c153 k n2 n1) fun b1 =>
  bif b1 then
   q8t t8
  else q7u k n qs n1 t7 (IntKind.i64.wrap (t8 + 1))
 else q8t (-1):=by kernel_rfl
theorem x63 (k:Nat) qs l n1:z8k (k + 1) qs l n1 =
 q75 k k qs l n1 (qs.length:Int) 0:=by kernel_rfl
theorem y9k (k n:Nat) qs n1 n11 l l1 l2 n12 t7 t8:q7x k (n + 1) qs n1 n11 l l1 l2 n12 t7 t8 =
 bif decide (t8 < t7) then
  (q0i qs t8).bind fun p1 =>
  (p1.atInt .i64 0).bind fun n2 =>
  R174 (c174 k n2 n1 n11 l l1 l2 n12) fun b1 =>
  bif b1 then
   q8k t8
  else q7x k n qs n1 n11 l l1 l2 n12 t7 (IntKind.i64.wrap (t8 + 1))
 else q8k (-1):=by kernel_rfl
theorem y8w (k n:Nat) qs l n1 t7 t8:q75 k (n + 1) qs l n1 t7 t8 =
 bif decide (t8 < t7) then
  (q0i qs t8).bind fun p1 =>
  (p1.atInt .i64 0).bind fun n2 =>
  R172 (c172 k n2 l n1) fun b1 =>
  bif b1 then
   q84 t8
  else q75 k n qs l n1 t7 (IntKind.i64.wrap (t8 + 1))
 else q84 (-1):=by kernel_rfl
theorem x6s (k:Nat) qs l n1:z7x (k + 1) qs l n1 =
 q7w k k qs l n1 (qs.length:Int) 0:=by kernel_rfl
theorem y9g (k n:Nat) qs l n1 t7 t8:q7w k (n + 1) qs l n1 t7 t8 =
 bif decide (t8 < t7) then
  (q0i qs t8).bind fun p1 =>
  (p1.atInt .i64 0).bind fun n2 =>
  R175 (c175 k n2 l n1) fun b1 =>
  bif b1 then
   q8e t8
  else q7w k n qs l n1 t7 (IntKind.i64.wrap (t8 + 1))
 else q8e (-1):=by kernel_rfl
theorem x8f (k:Nat) qs n1 n11 l l1 l2:z8l (k + 1) qs n1 n11 l l1 l2 =
 q7s k k qs n1 n11 l l1 l2 (qs.length:Int) 0:=by kernel_rfl
theorem x76 (k:Nat) qs n1:y8a (k + 1) qs n1 =
 q6h k k qs (qs.length:Int) 0 n1:=by kernel_rfl
theorem y9z (k n:Nat) qs n1 n11 l l1 l2 t7 t8:q7s k (n + 1) qs n1 n11 l l1 l2 t7 t8 =
 bif decide (t8 < t7) then
  (q0i qs t8).bind fun p1 =>
  (p1.atInt .i64 0).bind fun n2 =>
  R291 (c291 k n2 n1 n11 l l1 l2) fun b1 =>
  bif b1 then
   q8i t8
  else q7s k n qs n1 n11 l l1 l2 t7 (IntKind.i64.wrap (t8 + 1))
 else q8i (-1):=by kernel_rfl
theorem y9m (k n:Nat) qs t7 t8 n1:q6h k (n + 1) qs t7 t8 n1 =
 bif decide (t8 < t7) then
  (q0i qs t8).bind fun p1 =>
  (p1.atInt .i64 0).bind fun n2 =>
  R276 (c276 k n2 n1) fun v1 b1 =>
  bif b1 then
   q8o v1 t8
  else q6h k n qs t7 (IntKind.i64.wrap (t8 + 1)) v1
 else q8o n1 (-1):=by kernel_rfl
theorem n145 (k:Nat) p p1 p2 p3 qs:c145 (k + 1) p p1 p2 p3 qs =
 z97 k k 0 qs (qs.length:Int) 0 p p1 p2 p3:=by kernel_rfl
theorem w06 (k n:Nat) no t8 t9 t10 n1 n11 l l1:z97 k (n + 1) no t8 t9 t10 n1 n11 l l1 =
 bif decide (t10 < t9) then
  (q0i t8 t10).bind fun p1 =>
  (p1.atInt .u64 0).bind fun n2 =>
  bif !decide (IntKind.i64.wrap (n1 * t10) < 0) then
   z97 k n (q0n .or .i64 no (shlI .i64 (IntKind.i64.wrap n2) (IntKind.i64.wrap (n1 * t10)))) t8 t9 (IntKind.i64.wrap (t10 + 1)) n1 n11 l l1
  else none
 else r145 no:=by kernel_rfl
theorem n146 (k:Nat) p p1 p2 p3 qc qc1 qs:c146 (k + 1) p p1 p2 p3 qc qc1 qs =
 R210 (c210 k qs) fun l1 =>
 y0h k k qs l1.length qc1 (qc1.length:Int) 0 p p1 p2 p3 l1:=by kernel_rfl
theorem x9t (k n:Nat) qs outLen t13 t14 t15 n1 n11 l l1 xs:y0h k (n + 1) qs outLen t13 t14 t15 n1 n11 l l1 xs =
 bif decide (t15 < t14) then
  (q0i t13 t15).bind fun p1 =>
  bif p1.shp 2 then
   (p1.atInt .i64 0).bind fun n2 =>
   (p1.atRow 2 1).bind fun l2 =>
   R149 (c149 k n1 l2 qs) fun v1 =>
   bif decide ((0:Int)<=n2) && decide (n2 < (outLen:Int)) then
    (xs[0 + n2.toNat]?).bind fun p2 =>
    y0h k n qs outLen t13 t14 (IntKind.i64.wrap (t15 + 1)) n1 n11 l l1 (xs.set (0 + n2.toNat) (PV.int .u64 v1))
   else none
  else none
 else r146 (xs.take outLen):=by kernel_rfl
theorem n149 (k:Nat) wide t state:c149 (k + 1) wide t state =
 q6d k k wide state 0 t (t.length:Int) 0 []:=by kernel_rfl
theorem w03 (k n:Nat) wide state stackLen t12 t13 t14 xs:q6d k (n + 1) wide state stackLen t12 t13 t14 xs =
 bif decide (t14 < t13) then
  (q0i t12 t14).bind fun p1 =>
  bif p1.shp 2 then
   (p1.atInt .i64 0).bind fun n1 =>
   (p1.atInt .u64 1).bind fun n2 =>
   bif (n1 == 1) then
    bif decide ((stackLen + 1) * 8<=LIM) && decide (stackLen + 1<=LIM) then
     q6d k n wide state (stackLen + 1) t12 t13 (IntKind.i64.wrap (t14 + 1)) ((xs.take stackLen) ++ [PV.int .u64 n2])
    else none
   else
    bif (n1 == 20) then
     bif decide ((stackLen + 1) * 8<=LIM) && decide (stackLen + 1<=LIM) then
      q6d k n wide state (stackLen + 1) t12 t13 (IntKind.i64.wrap (t14 + 1)) ((xs.take stackLen) ++ [PV.int .u64 n2])
     else none
    else
     bif (n1 == 2) then
      (q0i state n2).bind fun p2 =>
      (p2.atInt .u64 0).bind fun n3 =>
      bif decide ((stackLen + 1) * 8<=LIM) && decide (stackLen + 1<=LIM) then
       q6d k n wide state (stackLen + 1) t12 t13 (IntKind.i64.wrap (t14 + 1)) ((xs.take stackLen) ++ [PV.int .u64 n3])
      else none
     else
      bif (n1 == 13) then
       bif decide ((0:Int)<=IntKind.i64.wrap ((stackLen:Int) - 1)) && decide (IntKind.i64.wrap ((stackLen:Int) - 1) < (stackLen:Int)) then
        (xs[0 + ((IntKind.i64.wrap ((stackLen:Int) - 1)).toNat)]?).bind fun p3 =>
        (p3.atInt .u64 0).bind fun n4 =>
        R150 (c150 k wide) fun v1 =>
        bif decide ((0:Int)<=IntKind.i64.wrap ((stackLen:Int) - 1)) && decide (IntKind.i64.wrap ((stackLen:Int) - 1) < (stackLen:Int)) then
         (xs[0 + ((IntKind.i64.wrap ((stackLen:Int) - 1)).toNat)]?).bind fun p4 =>
         q6d k n wide state stackLen t12 t13 (IntKind.i64.wrap (t14 + 1)) (xs.set (0 + ((IntKind.i64.wrap ((stackLen:Int) - 1)).toNat)) (PV.int .u64 (q0n .and .u64 (q0n .xor .u64 18446744073709551615 n4) v1)))
        else none
       else none
      else
       bif (n1 == 19) then
        bif decide ((0:Int)<=IntKind.i64.wrap ((stackLen:Int) - 1)) && decide (IntKind.i64.wrap ((stackLen:Int) - 1) < (stackLen:Int)) then
         (xs[0 + ((IntKind.i64.wrap ((stackLen:Int) - 1)).toNat)]?).bind fun p5 =>
         (p5.atInt .u64 0).bind fun n5 =>
         bif decide ((0:Int)<=IntKind.i64.wrap ((stackLen:Int) - 1)) && decide (IntKind.i64.wrap ((stackLen:Int) - 1) < (stackLen:Int)) then
          (xs[0 + ((IntKind.i64.wrap ((stackLen:Int) - 1)).toNat)]?).bind fun p6 =>
          q6d k n wide state stackLen t12 t13 (IntKind.i64.wrap (t14 + 1)) (xs.set (0 + ((IntKind.i64.wrap ((stackLen:Int) - 1)).toNat)) (PV.int .u64 (IntKind.u64.wrap (1 - n5))))
         else none
        else none
       else
        bif decide ((0:Int)<=IntKind.i64.wrap ((IntKind.i64.wrap ((stackLen:Int) - 1)) - 1)) && decide (IntKind.i64.wrap ((IntKind.i64.wrap ((stackLen:Int) - 1)) - 1)<=(stackLen:Int)) then
         bif decide ((0:Int)<=IntKind.i64.wrap ((IntKind.i64.wrap ((stackLen:Int) - 1)) - 1)) && decide (IntKind.i64.wrap ((IntKind.i64.wrap ((stackLen:Int) - 1)) - 1) < (stackLen:Int)) then
          (xs[0 + ((IntKind.i64.wrap ((IntKind.i64.wrap ((stackLen:Int) - 1)) - 1)).toNat)]?).bind fun p7 =>
          (p7.atInt .u64 0).bind fun n6 =>
          bif decide ((0:Int)<=IntKind.i64.wrap ((stackLen:Int) - 1)) && decide (IntKind.i64.wrap ((stackLen:Int) - 1) < (stackLen:Int)) then
           (xs[0 + ((IntKind.i64.wrap ((stackLen:Int) - 1)).toNat)]?).bind fun p8 =>
           (p8.atInt .u64 0).bind fun n7 =>
           R213 (c213 k wide n1 n6 n7) fun v2 =>
           bif decide ((((IntKind.i64.wrap ((IntKind.i64.wrap ((stackLen:Int) - 1)) - 1)).toNat) + 1) * 8<=LIM) && decide (((IntKind.i64.wrap ((IntKind.i64.wrap ((stackLen:Int) - 1)) - 1)).toNat) + 1<=LIM) then
            q6d k n wide state (((IntKind.i64.wrap ((IntKind.i64.wrap ((stackLen:Int) - 1)) - 1)).toNat) + 1) t12 t13 (IntKind.i64.wrap (t14 + 1)) ((xs.take ((IntKind.i64.wrap ((IntKind.i64.wrap ((stackLen:Int) - 1)) - 1)).toNat)) ++ [PV.int .u64 v2])
           else none
          else none
         else none
        else none
  else none
 else
  bif decide ((0:Int) < (stackLen:Int)) then
   (xs[0]?).bind fun p9 =>
   (p9.atInt .u64 0).bind fun n8 =>
   r149 n8
  else none:=by kernel_rfl
theorem n150 (k:Nat) wide:c150 (k + 1) wide =
 bif !decide (IntKind.i64.wrap (64 - wide) < 0) then
  r150 (shrI .u64 18446744073709551615 (IntKind.i64.wrap (64 - wide)))
 else none:=by kernel_rfl
theorem n151 (k:Nat) wide vars deep l n1 n11:c151 (k + 1) wide vars deep l n1 n11 =
 R120 (c120 k 20 l n1 n11) fun l1 v1 v2 b1 =>
 bif b1 then
  R56 (c56 k 2 l1 v1 v2) fun l2 v3 v4 v5 =>
  r151 l2 v3 v4 [PV.agg [.int .i64 20,.int .u64 (IntKind.u64.wrap v5)]]
 else
  bif decide (deep > 0) then
   R120 (c120 k 4 l1 v1 v2) fun l3 v6 v7 b2 =>
   bif b2 then
    R151 (c151 k wide vars (IntKind.i64.wrap (deep - 1)) l3 v6 v7) fun l4 v8 v9 l5 =>
    bif decide ((l5.length + 1) * 16<=LIM) && decide (l5.length + 1<=LIM) then
     r151 l4 v8 v9 (((l5.take l5.length) ++ [PV.agg [.int .i64 19,.int .u64 0]]).take (l5.length + 1))
    else none
   else
    bif decide (deep > 0) then
     R120 (c120 k 2 l3 v6 v7) fun l6 v10 v11 b3 =>
     bif b3 then
      R151 (c151 k wide vars (IntKind.i64.wrap (deep - 1)) l6 v10 v11) fun l7 v12 v13 l8 =>
      R151 (c151 k wide vars (IntKind.i64.wrap (deep - 1)) l7 v12 v13) fun l9 v14 v15 l10 =>
      bif decide ((l8.length + ((l10.take l10.length).length)) * 16<=LIM) && decide (l8.length + ((l10.take l10.length).length)<=LIM) then
       R177 (c177 k [PV.int .i64 17,PV.int .i64 18] l9 v14 v15) fun l11 v16 v17 v18 =>
       bif decide (((l8.length + ((l10.take l10.length).length)) + 1) * 16<=LIM) && decide ((l8.length + ((l10.take l10.length).length)) + 1<=LIM) then
        r151 l11 v16 v17 (((((l8.take l8.length) ++ (l10.take l10.length)).take (l8.length + ((l10.take l10.length).length))) ++ [PV.agg [.int .i64 v18,.int .u64 0]]).take ((l8.length + ((l10.take l10.length).length)) + 1))
       else none
      else none
     else
      R214 (c214 k wide vars 1 l6 v10 v11) fun l12 v19 v20 l13 =>
      R56 (c56 k 2 l12 v19 v20) fun l14 v21 v22 v23 =>
      R214 (c214 k wide vars v23 l14 v21 v22) fun l15 v24 v25 l16 =>
      bif decide ((l13.length + ((l16.take l16.length).length)) * 16<=LIM) && decide (l13.length + ((l16.take l16.length).length)<=LIM) then
       R177 (c177 k [PV.int .i64 14,PV.int .i64 15,PV.int .i64 15,PV.int .i64 16] l15 v24 v25) fun l17 v26 v27 v28 =>
       bif decide (((l13.length + ((l16.take l16.length).length)) + 1) * 16<=LIM) && decide ((l13.length + ((l16.take l16.length).length)) + 1<=LIM) then
        r151 l17 v26 v27 (((((l13.take l13.length) ++ (l16.take l16.length)).take (l13.length + ((l16.take l16.length).length))) ++ [PV.agg [.int .i64 v28,.int .u64 0]]).take ((l13.length + ((l16.take l16.length).length)) + 1))
       else none
      else none
    else
     R214 (c214 k wide vars 1 l3 v6 v7) fun l18 v29 v30 l19 =>
     R56 (c56 k 2 l18 v29 v30) fun l20 v31 v32 v33 =>
     R214 (c214 k wide vars v33 l20 v31 v32) fun l21 v34 v35 l22 =>
     bif decide ((l19.length + ((l22.take l22.length).length)) * 16<=LIM) && decide (l19.length + ((l22.take l22.length).length)<=LIM) then
      R177 (c177 k [PV.int .i64 14,PV.int .i64 15,PV.int .i64 15,PV.int .i64 16] l21 v34 v35) fun l23 v36 v37 v38 =>
      bif decide (((l19.length + ((l22.take l22.length).length)) + 1) * 16<=LIM) && decide ((l19.length + ((l22.take l22.length).length)) + 1<=LIM) then
       r151 l23 v36 v37 (((((l19.take l19.length) ++ (l22.take l22.length)).take (l19.length + ((l22.take l22.length).length))) ++ [PV.agg [.int .i64 v38,.int .u64 0]]).take ((l19.length + ((l22.take l22.length).length)) + 1))
      else none
     else none
  else
   bif decide (deep > 0) then
    R120 (c120 k 2 l1 v1 v2) fun l24 v39 v40 b4 =>
    bif b4 then
     R151 (c151 k wide vars (IntKind.i64.wrap (deep - 1)) l24 v39 v40) fun l25 v41 v42 l26 =>
     R151 (c151 k wide vars (IntKind.i64.wrap (deep - 1)) l25 v41 v42) fun l27 v43 v44 l28 =>
     bif decide ((l26.length + ((l28.take l28.length).length)) * 16<=LIM) && decide (l26.length + ((l28.take l28.length).length)<=LIM) then
      R177 (c177 k [PV.int .i64 17,PV.int .i64 18] l27 v43 v44) fun l29 v45 v46 v47 =>
      bif decide (((l26.length + ((l28.take l28.length).length)) + 1) * 16<=LIM) && decide ((l26.length + ((l28.take l28.length).length)) + 1<=LIM) then
       r151 l29 v45 v46 (((((l26.take l26.length) ++ (l28.take l28.length)).take (l26.length + ((l28.take l28.length).length))) ++ [PV.agg [.int .i64 v47,.int .u64 0]]).take ((l26.length + ((l28.take l28.length).length)) + 1))
      else none
     else none
    else
     R214 (c214 k wide vars 1 l24 v39 v40) fun l30 v48 v49 l31 =>
     R56 (c56 k 2 l30 v48 v49) fun l32 v50 v51 v52 =>
     R214 (c214 k wide vars v52 l32 v50 v51) fun l33 v53 v54 l34 =>
     bif decide ((l31.length + ((l34.take l34.length).length)) * 16<=LIM) && decide (l31.length + ((l34.take l34.length).length)<=LIM) then
      R177 (c177 k [PV.int .i64 14,PV.int .i64 15,PV.int .i64 15,PV.int .i64 16] l33 v53 v54) fun l35 v55 v56 v57 =>
      bif decide (((l31.length + ((l34.take l34.length).length)) + 1) * 16<=LIM) && decide ((l31.length + ((l34.take l34.length).length)) + 1<=LIM) then
       r151 l35 v55 v56 (((((l31.take l31.length) ++ (l34.take l34.length)).take (l31.length + ((l34.take l34.length).length))) ++ [PV.agg [.int .i64 v57,.int .u64 0]]).take ((l31.length + ((l34.take l34.length).length)) + 1))
      else none
     else none
   else
    R214 (c214 k wide vars 1 l1 v1 v2) fun l36 v58 v59 l37 =>
    R56 (c56 k 2 l36 v58 v59) fun l38 v60 v61 v62 =>
    R214 (c214 k wide vars v62 l38 v60 v61) fun l39 v63 v64 l40 =>
    bif decide ((l37.length + ((l40.take l40.length).length)) * 16<=LIM) && decide (l37.length + ((l40.take l40.length).length)<=LIM) then
     R177 (c177 k [PV.int .i64 14,PV.int .i64 15,PV.int .i64 15,PV.int .i64 16] l39 v63 v64) fun l41 v65 v66 v67 =>
     bif decide (((l37.length + ((l40.take l40.length).length)) + 1) * 16<=LIM) && decide ((l37.length + ((l40.take l40.length).length)) + 1<=LIM) then
      r151 l41 v65 v66 (((((l37.take l37.length) ++ (l40.take l40.length)).take (l37.length + ((l40.take l40.length).length))) ++ [PV.agg [.int .i64 v67,.int .u64 0]]).take ((l37.length + ((l40.take l40.length).length)) + 1))
     else none
    else none:=by kernel_rfl
theorem n152 (k:Nat) n1:c152 (k + 1) n1 =
 bif decide (n1 < 1) then
  r152 1
 else r152 n1:=by kernel_rfl
theorem n153 (k:Nat) class1 n1:c153 (k + 1) class1 n1 =
 bif decide (class1 < 0) then
  r153 true
 else r153 (decide (class1>=n1)):=by kernel_rfl
theorem x6u (k:Nat) qs n1 n11 l l1:z8c (k + 1) qs n1 n11 l l1 =
 y3k (z8q k qs n1 n11 l l1) fun v1 =>
 z8f (decide (v1>=0)):=by kernel_rfl
theorem x65 (k:Nat) qs l:z8r (k + 1) qs l =
 y3b (z8d k qs l) fun v1 =>
 z7n (decide (v1>=0)):=by kernel_rfl
theorem x79 (k:Nat) qs n1 n11:z8h (k + 1) qs n1 n11 =
 y8g (y8n k qs n1 n11) fun v1 v2 v3 =>
 z8j v1 v2 (decide (v3>=0)):=by kernel_rfl
theorem n155 (k:Nat) t n1 n11 l l1:c155 (k + 1) t n1 n11 l l1 =
 R107 (c107 k n1 n11 l l1 t) fun b1 =>
 r155 (!b1):=by kernel_rfl
theorem n156 (k:Nat) p p1 p2 p3 v path:c156 (k + 1) p p1 p2 p3 v path =
 R86 (c86 k p p1 p2 p3 v path) fun l1 =>
 x5h k (l1.take l1.length):=by kernel_rfl
theorem w0p (k:Nat) along:x5h (k + 1) along =
 R85 (c85 (k + 1) along) fun v1 =>
 bif decide (v1 < 1) then
  r156 [] false
 else
  (q0i along (IntKind.i64.wrap (v1 - 1))).bind fun p1 =>
  (p1.atRow 0 0).bind fun l1 =>
  r156 l1 true:=by kernel_rfl
theorem n157 (k:Nat) p p1 p2 p3 preds:c157 (k + 1) p p1 p2 p3 preds =
 y1k k k preds p3 (p3.length:Int) 0 p p1 p2 p3 0 []:=by kernel_rfl
theorem w0d (k n:Nat) preds t17 t18 t19 n1 n11 l l1 Len xs:y1k k (n + 1) preds t17 t18 t19 n1 n11 l l1 Len xs =
 bif decide (t19 < t18) then
  (q0i t17 t19).bind fun p1 =>
  bif p1.shp 2 then
   (p1.atRow 2 0).bind fun l2 =>
   (p1.atRow 2 1).bind fun l3 =>
   R216 (c216 k l2 (xs.take Len)) fun l4 =>
   y1k k n preds t17 t18 (IntKind.i64.wrap (t19 + 1)) n1 n11 l l1 l4.length l4
  else none
 else z4r k k preds (preds.length:Int) 0 n1 n11 l l1 Len xs:=by kernel_rfl
theorem w0n (k n:Nat) t28 t29 t30 n1 n11 l l1 Len xs:z4r k (n + 1) t28 t29 t30 n1 n11 l l1 Len xs =
 bif decide (t30 < t29) then
  (q0i t28 t30).bind fun p1 =>
  (p1.atRow 2 0).bind fun l2 =>
  z06 k n k l2 t28 t29 t30 (l1.length:Int) 0 n1 n11 l l1 Len xs
 else r157 (xs.take Len):=by kernel_rfl
theorem x9e (k n1 n:Nat) t t28 t29 t30 t36 t37 n11 n12 l l1 Len xs:z06 k n1 (n + 1) t t28 t29 t30 t36 t37 n11 n12 l l1 Len xs =
 bif decide (t37 < t36) then
  R220 (c220 k n11 n12 l l1 t37 t) fun l2 b1 =>
  bif b1 then
   R216 (c216 k l2 (xs.take Len)) fun l3 =>
   z06 k n1 n t t28 t29 t30 t36 (IntKind.i64.wrap (t37 + 1)) n11 n12 l l1 l3.length l3
  else z06 k n1 n t t28 t29 t30 t36 (IntKind.i64.wrap (t37 + 1)) n11 n12 l l1 Len xs
 else z4r k n1 t28 t29 (IntKind.i64.wrap (t30 + 1)) n11 n12 l l1 Len xs:=by kernel_rfl
theorem n158 (k:Nat) p p1 p2 p3 terms a b:c158 (k + 1) p p1 p2 p3 terms a b =
 y37 (z8p k terms p p1 p2 p3 a b) fun v1 =>
 r158 v1:=by kernel_rfl
theorem n159 (k:Nat) p p1 p2 p3 v t:c159 (k + 1) p p1 p2 p3 v t =
 R223 (c223 k p p1 p2 p3 [PV.row 2 0 t]) fun l1 b1 =>
 bif !b1 then
  r159 [] false
 else
  R81 (c81 k p p1 p2 p3 v) fun b2 =>
  bif !b2 then
   r159 [] false
  else
   R83 (c83 k v l1) fun l2 =>
   r159 l2 true:=by kernel_rfl
theorem n160 (k:Nat) p p1 p2 p3 preds:c160 (k + 1) p p1 p2 p3 preds =
 z90 k k preds 0 p3 (p3.length:Int) 0 p p1 p2 p3 []:=by kernel_rfl
theorem w0y (k n:Nat) preds outLen t14 t15 t16 n1 n11 l l1 xs:z90 k (n + 1) preds outLen t14 t15 t16 n1 n11 l l1 xs =
 bif decide (t16 < t15) then
  (q0i t14 t16).bind fun p1 =>
  bif p1.shp 2 then
   (p1.atRow 2 0).bind fun l2 =>
   (p1.atRow 2 1).bind fun l3 =>
   R224 (c224 k (xs.take outLen) l2) fun l4 =>
   z90 k n preds l4.length t14 t15 (IntKind.i64.wrap (t16 + 1)) n1 n11 l l1 l4
  else none
 else z41 k k outLen preds (preds.length:Int) 0 n1 n11 l l1 xs:=by kernel_rfl
theorem x91 (k n:Nat) outLen t25 t26 t27 n1 n11 l l1 xs:z41 k (n + 1) outLen t25 t26 t27 n1 n11 l l1 xs =
 bif decide (t27 < t26) then
  (q0i t25 t27).bind fun p1 =>
  (p1.atRow 2 0).bind fun l2 =>
  z0t k n k outLen l2 t25 t26 t27 (l1.length:Int) 0 n1 n11 l l1 xs
 else r160 (xs.take outLen):=by kernel_rfl
theorem w1n (k n1 n:Nat) outLen t t25 t26 t27 t33 t34 n11 n12 l l1 xs:z0t k n1 (n + 1) outLen t t25 t26 t27 t33 t34 n11 n12 l l1 xs =
 bif decide (t34 < t33) then
  R225 (c225 k n11 n12 l l1 t34 t) fun l2 b1 =>
  bif b1 then
   R224 (c224 k (xs.take outLen) l2) fun l3 =>
   z0t k n1 n l3.length t t25 t26 t27 t33 (IntKind.i64.wrap (t34 + 1)) n11 n12 l l1 l3
  else z0t k n1 n outLen t t25 t26 t27 t33 (IntKind.i64.wrap (t34 + 1)) n11 n12 l l1 xs
 else z41 k n1 outLen t25 t26 (IntKind.i64.wrap (t27 + 1)) n11 n12 l l1 xs:=by kernel_rfl
theorem n161 (k:Nat) p p1 p2 p3 terms a b:c161 (k + 1) p p1 p2 p3 terms a b =
 z9e k k a b terms (terms.length:Int) 0 p p1 p2 p3:=by kernel_rfl
theorem w14 (k n:Nat) a b t11 t12 t13 n1 n11 l l1:z9e k (n + 1) a b t11 t12 t13 n1 n11 l l1 =
 bif decide (t13 < t12) then
  (q0i t11 t13).bind fun p1 =>
  (p1.atRow 2 0).bind fun l2 =>
  R226 (c226 k n1 n11 l l1 l2 a b) fun b1 =>
  bif b1 then
   r161 t13
  else z9e k n a b t11 t12 (IntKind.i64.wrap (t13 + 1)) n1 n11 l l1
 else r161 (-1):=by kernel_rfl
theorem n162 (k:Nat) p p1 p2 p3 v class1 to:c162 (k + 1) p p1 p2 p3 v class1 to =
 R227 (c227 k v class1) fun l1 =>
 z4j k k to 0 l1 (l1.length:Int) 0 p p1 p2 p3 v []:=by kernel_rfl
theorem w1z (k n:Nat) to outLen t14 t15 t16 n1 n11 l l1 l2 xs:z4j k (n + 1) to outLen t14 t15 t16 n1 n11 l l1 l2 xs =
 bif decide (t16 < t15) then
  (q0i t14 t16).bind fun p1 =>
  (p1.atInt .i64 0).bind fun n2 =>
  R184 (c184 k n1 n11 l l1 n2) fun l3 =>
  R181 (c181 k l2 l3) fun l4 =>
  R163 (c163 k l4 to) fun b1 =>
  bif b1 then
   bif decide ((outLen + 1) * 8<=LIM) && decide (outLen + 1<=LIM) then
    z4j k n to (outLen + 1) t14 t15 (IntKind.i64.wrap (t16 + 1)) n1 n11 l l1 l2 ((xs.take outLen) ++ [PV.int .i64 n2])
   else none
  else z4j k n to outLen t14 t15 (IntKind.i64.wrap (t16 + 1)) n1 n11 l l1 l2 xs
 else r162 (xs.take outLen):=by kernel_rfl
theorem n163 (k:Nat) l n1:c163 (k + 1) l n1 =
 z84 k k n1 l (l.length:Int) 0:=by kernel_rfl
theorem w0c (k n:Nat) n1 t7 t8 t9:z84 k (n + 1) n1 t7 t8 t9 =
 bif decide (t9 < t8) then
  (q0i t7 t9).bind fun p1 =>
  (p1.atInt .i64 0).bind fun n2 =>
  bif (n2 == n1) then
   r163 true
  else z84 k n n1 t7 t8 (IntKind.i64.wrap (t9 + 1))
 else r163 false:=by kernel_rfl
end Go.Proofs.YtgdegfijcijnoaaGreat
/- Normal forms: printed by nf.py. -/
namespace Go.Proofs.YtgdegfijcijnoaaGreat
open Go.Dp
theorem n164 (k:Nat) keys:c164 (k + 1) keys =
 q55 k k keys 0 keys (keys.length:Int) 0 0 0 [] []:=by kernel_rfl
theorem w1w (k n:Nat) keys many t9 t10 t11 Len Len1 xs xs1:q55 k (n + 1) keys many t9 t10 t11 Len Len1 xs xs1 =
 bif decide (t11 < t10) then
  (q0i t9 t11).bind fun p1 =>
  (p1.atInt .i64 0).bind fun n1 =>
  z30 k n k keys many t11 n1 many 0 t9 t10 t11 Len Len1 xs xs1
 else r164 (xs1.take Len1):=by kernel_rfl
theorem x9z (k n1 n:Nat) keys many i key class1 j t9 t10 t11 Len Len1 xs xs1:z30 k n1 (n + 1) keys many i key class1 j t9 t10 t11 Len Len1 xs xs1 =
 bif decide (j < i) then
  (q0i keys j).bind fun p1 =>
  (p1.atInt .i64 0).bind fun n2 =>
  bif (n2 == key) then
   bif decide ((0:Int)<=j) && decide (j < (Len1:Int)) then
    (xs1[0 + j.toNat]?).bind fun p2 =>
    (p2.atInt .i64 0).bind fun n3 =>
    bif (n3 == many) then
     bif decide ((Len1 + 1) * 8<=LIM) && decide (Len1 + 1<=LIM) then
      q55 k n1 keys (IntKind.i64.wrap (many + 1)) t9 t10 (IntKind.i64.wrap (t11 + 1)) Len (Len1 + 1) xs ((xs1.take Len1) ++ [PV.int .i64 n3])
     else none
    else
     bif decide ((Len1 + 1) * 8<=LIM) && decide (Len1 + 1<=LIM) then
      q55 k n1 keys many t9 t10 (IntKind.i64.wrap (t11 + 1)) Len (Len1 + 1) xs ((xs1.take Len1) ++ [PV.int .i64 n3])
     else none
   else none
  else z30 k n1 n keys many i key class1 (IntKind.i64.wrap (j + 1)) t9 t10 t11 Len Len1 xs xs1
 else
  bif (class1 == many) then
   bif decide ((Len1 + 1) * 8<=LIM) && decide (Len1 + 1<=LIM) then
    q55 k n1 keys (IntKind.i64.wrap (many + 1)) t9 t10 (IntKind.i64.wrap (t11 + 1)) Len (Len1 + 1) xs ((xs1.take Len1) ++ [PV.int .i64 class1])
   else none
  else
   bif decide ((Len1 + 1) * 8<=LIM) && decide (Len1 + 1<=LIM) then
    q55 k n1 keys many t9 t10 (IntKind.i64.wrap (t11 + 1)) Len (Len1 + 1) xs ((xs1.take Len1) ++ [PV.int .i64 class1])
   else none:=by kernel_rfl
theorem n165 (k:Nat) v states:c165 (k + 1) v states =
 z0f k k states 0 v (v.length:Int) 0 v:=by kernel_rfl
theorem w15 (k n:Nat) states classes t9 t10 t11 l:z0f k (n + 1) states classes t9 t10 t11 l =
 bif decide (t11 < t10) then
  (q0i t9 t11).bind fun p1 =>
  (p1.atInt .i64 0).bind fun n1 =>
  bif decide (n1 < 0) then
   r165 false
  else
   bif decide (n1 > classes) then
    r165 false
   else
    bif (n1 == classes) then
     z0f k n states (IntKind.i64.wrap (classes + 1)) t9 t10 (IntKind.i64.wrap (t11 + 1)) l
    else z0f k n states classes t9 t10 (IntKind.i64.wrap (t11 + 1)) l
 else r165 ((l.length:Int) == states):=by kernel_rfl
theorem n166 (k:Nat) (ps:List (Int × Int)) (h1:ps.length<=1000000) (h2:ps.all wf2B = true):c166 (k + 1) (ps.map q1m) = r166 ((clsL ps).map (PV.int .i64)):=y5n (by show orT numT (cloneT q5l) _ _ _ = _;unfold orT;rw [w1a ps h1 h2] <;> rfl)
theorem n167 (k:Nat) x:c167 (k + 1) x =
 bif decide ((x.length:Int) < 1) then
  none
 else
  (q0i x 0).bind fun p1 =>
  (p1.atInt .i64 0).bind fun n1 =>
  z5b k k x n1 1:=by kernel_rfl
theorem w0u (k n:Nat) x m i:z5b k (n + 1) x m i =
 bif decide (i < (x.length:Int)) then
  (q0i x i).bind fun p1 =>
  (p1.atInt .i64 0).bind fun n1 =>
  z5b k n x (maxI m n1) (IntKind.i64.wrap (i + 1))
 else r167 m:=by kernel_rfl
theorem x70 (k:Nat) qs:z7q (k + 1) qs =
 q78 k k qs (qs.length:Int) 0:=by kernel_rfl
theorem y88 (k n:Nat) qs t7 t8:q78 k (n + 1) qs t7 t8 =
 bif decide (t8 < t7) then
  (q0i qs t8).bind fun p1 =>
  (p1.atRow 0 0).bind fun l1 =>
  R169 (c169 k l1) fun b1 =>
  bif b1 then
   q83 t8
  else q78 k n qs t7 (IntKind.i64.wrap (t8 + 1))
 else q83 (-1):=by kernel_rfl
theorem n169 (k:Nat) list:c169 (k + 1) list =
 r169 ((list.length:Int) == 0):=by kernel_rfl
theorem n170 (k:Nat) list:c170 (k + 1) list =
 z3t k k 0 list (list.length:Int) 0 []:=by kernel_rfl
theorem x9q (k n:Nat) outLen t7 t8 t9 xs:z3t k (n + 1) outLen t7 t8 t9 xs =
 bif decide (t9 < t8) then
  (q0i t7 t9).bind fun p1 =>
  (p1.atBool 0).bind fun b1 =>
  bif b1 then
   bif decide ((outLen + 1) * 8<=LIM) && decide (outLen + 1<=LIM) then
    z3t k n (outLen + 1) t7 t8 (IntKind.i64.wrap (t9 + 1)) ((xs.take outLen) ++ [PV.int .i64 t9])
   else none
  else z3t k n outLen t7 t8 (IntKind.i64.wrap (t9 + 1)) xs
 else r170 (xs.take outLen):=by kernel_rfl
theorem x6v (k:Nat) qs n1 n11 l l1 l2 n12:z7r (k + 1) qs n1 n11 l l1 l2 n12 =
 y4k (z70 k (qs.take qs.length) n1 n11 l l1 l2 n12) fun v1 =>
 bif (v1 == (-1)) then
  q88 (qs.take qs.length)
 else q6e k k qs.length n1 n11 l l1 l2 n12 v1 (IntKind.i64.wrap (v1 + 1)) qs:=by kernel_rfl
theorem x7l (k:Nat) qs l n1:q9a (k + 1) qs l n1 =
 y28 (z8k k (qs.take qs.length) l n1) fun v1 =>
 bif (v1 == (-1)) then
  q6m (qs.take qs.length)
 else q6a k k qs.length l n1 v1 (IntKind.i64.wrap (v1 + 1)) qs:=by kernel_rfl
theorem y83 (k n:Nat) sLen n1 n11 l l1 l2 n12 i j xs:q6e k (n + 1) sLen n1 n11 l l1 l2 n12 i j xs =
 bif decide (j < (sLen:Int)) then
  bif decide ((0:Int)<=j) && decide (j < (sLen:Int)) then
   (xs[0 + j.toNat]?).bind fun p1 =>
   (p1.atInt .i64 0).bind fun n2 =>
   R174 (c174 k n2 n1 n11 l l1 l2 n12) fun b1 =>
   bif !b1 then
    bif decide ((0:Int)<=i) && decide (i < (sLen:Int)) then
     (xs[0 + i.toNat]?).bind fun p2 =>
     q6e k n sLen n1 n11 l l1 l2 n12 (IntKind.i64.wrap (i + 1)) (IntKind.i64.wrap (j + 1)) (xs.set (0 + i.toNat) (PV.int .i64 n2))
    else none
   else q6e k n sLen n1 n11 l l1 l2 n12 i (IntKind.i64.wrap (j + 1)) xs
  else none
 else
  bif decide ((0:Int)<=i) && decide (i<=(sLen:Int)) && decide ((sLen:Int)<=(sLen:Int)) then
   bif decide ((0:Int)<=i) && decide (i<=(sLen:Int)) then
    q88 ((((xs).take (0 + i.toNat)) ++ (List.replicate (sLen - i.toNat) (PV.int .i64 0)) ++ ((xs).drop (0 + i.toNat + (sLen - i.toNat)))).take i.toNat)
   else none
  else none:=by kernel_rfl
theorem y9n (k n:Nat) sLen l n1 i j xs:q6a k (n + 1) sLen l n1 i j xs =
 bif decide (j < (sLen:Int)) then
  bif decide ((0:Int)<=j) && decide (j < (sLen:Int)) then
   (xs[0 + j.toNat]?).bind fun p1 =>
   (p1.atInt .i64 0).bind fun n2 =>
   R172 (c172 k n2 l n1) fun b1 =>
   bif !b1 then
    bif decide ((0:Int)<=i) && decide (i < (sLen:Int)) then
     (xs[0 + i.toNat]?).bind fun p2 =>
     q6a k n sLen l n1 (IntKind.i64.wrap (i + 1)) (IntKind.i64.wrap (j + 1)) (xs.set (0 + i.toNat) (PV.int .i64 n2))
    else none
   else q6a k n sLen l n1 i (IntKind.i64.wrap (j + 1)) xs
  else none
 else
  bif decide ((0:Int)<=i) && decide (i<=(sLen:Int)) && decide ((sLen:Int)<=(sLen:Int)) then
   bif decide ((0:Int)<=i) && decide (i<=(sLen:Int)) then
    q6m ((((xs).take (0 + i.toNat)) ++ (List.replicate (sLen - i.toNat) (PV.int .i64 0)) ++ ((xs).drop (0 + i.toNat + (sLen - i.toNat)))).take i.toNat)
   else none
  else none:=by kernel_rfl
theorem n172 (k:Nat) no l n1:c172 (k + 1) no l n1 =
 (q0i l no).bind fun p1 =>
 (p1.atInt .i64 0).bind fun n2 =>
 r172 (n2 != n1):=by kernel_rfl
theorem n173 (k:Nat) v class1:c173 (k + 1) v class1 =
 z32 k k class1 0 v (v.length:Int) 0 []:=by kernel_rfl
theorem w1p (k n:Nat) class1 outLen t10 t11 t12 xs:z32 k (n + 1) class1 outLen t10 t11 t12 xs =
 bif decide (t12 < t11) then
  (q0i t10 t12).bind fun p1 =>
  (p1.atInt .i64 0).bind fun n1 =>
  bif (n1 == class1) then
   bif decide ((outLen + 1) * 8<=LIM) && decide (outLen + 1<=LIM) then
    z32 k n class1 (outLen + 1) t10 t11 (IntKind.i64.wrap (t12 + 1)) ((xs.take outLen) ++ [PV.int .i64 t12])
   else none
  else z32 k n class1 outLen t10 t11 (IntKind.i64.wrap (t12 + 1)) xs
 else r173 (xs.take outLen):=by kernel_rfl
theorem n174 (k:Nat) no n1 n11 l l1 l2 n12:c174 (k + 1) no n1 n11 l l1 l2 n12 =
 R68 (c68 k n1 n11 l l1 no) fun l3 =>
 y79 (y19 k l3 l2 n12) fun b1 =>
 r174 (!b1):=by kernel_rfl
theorem n175 (k:Nat) next l n1:c175 (k + 1) next l n1 =
 (q0i l next).bind fun p1 =>
 (p1.atInt .i64 0).bind fun n2 =>
 r175 (n2 == n1):=by kernel_rfl
theorem n177 (k:Nat) list l n1 n11:c177 (k + 1) list l n1 n11 =
 R56 (c56 k (list.length:Int) l n1 n11) fun l1 v1 v2 v3 =>
 (q0i list v3).bind fun p1 =>
 (p1.atInt .i64 0).bind fun n2 =>
 r177 l1 v1 v2 n2:=by kernel_rfl
theorem n181 (k:Nat) v states:c181 (k + 1) v states =
 y0n k k 0 states (states.length:Int) 0 v []:=by kernel_rfl
theorem w0o (k n:Nat) outLen t8 t9 t10 l xs:y0n k (n + 1) outLen t8 t9 t10 l xs =
 bif decide (t10 < t9) then
  (q0i t8 t10).bind fun p1 =>
  (p1.atInt .i64 0).bind fun n1 =>
  (q0i l n1).bind fun p2 =>
  (p2.atInt .i64 0).bind fun n2 =>
  R192 (c192 k (xs.take outLen) n2) fun l1 =>
  y0n k n l1.length t8 t9 (IntKind.i64.wrap (t10 + 1)) l l1
 else r181 (xs.take outLen):=by kernel_rfl
theorem n184 (k:Nat) p p1 p2 p3 no:c184 (k + 1) p p1 p2 p3 no =
 R195 (c195 k p p1 p2 p3 no) fun l1 =>
 R231 (c231 k p p1 p2 p3 l1) fun l2 =>
 z5c k k no l1 0 l2 (l2.length:Int) 0 p p1 p2 p3 []:=by kernel_rfl
theorem w0k (k n:Nat) no qs outLen t14 t15 t16 n1 n11 l l1 xs:z5c k (n + 1) no qs outLen t14 t15 t16 n1 n11 l l1 xs =
 bif decide (t16 < t15) then
  (q0i t14 t16).bind fun p1 =>
  (p1.atInt .i64 0).bind fun n2 =>
  R233 (c233 k n1 n11 l l1 qs n2) fun l2 =>
  R232 (c232 k n1 n11 l l1 l2) fun v1 =>
  R192 (c192 k (xs.take outLen) v1) fun l3 =>
  z5c k n no qs l3.length t14 t15 (IntKind.i64.wrap (t16 + 1)) n1 n11 l l1 l3
 else
  bif ((outLen:Int) == 0) then
   r184 [PV.int .i64 no]
  else r184 (xs.take outLen):=by kernel_rfl
theorem n185 (k:Nat) p p1 p2 p3:c185 (k + 1) p p1 p2 p3 =
 R234 (c234 k p) fun b1 =>
 bif !b1 then
  r185 false
 else
  R235 (c235 k p1) fun b2 =>
  bif !b2 then
   r185 false
  else
   R107 (c107 k p p1 p2 p3 p2) fun b3 =>
   bif !b3 then
    r185 false
   else
    bif decide ((p3.length:Int) < 1) then
     r185 false
    else
     bif decide ((p3.length:Int) > 6) then
      r185 false
     else
      z76 (y6f k p3 p p1 p2 p3) fun v1 v2 l1 l2 b4 =>
      r185 (!b4):=by kernel_rfl
theorem n187 (k:Nat) wide vars t kind:c187 (k + 1) wide vars t kind =
 R239 (c239 k wide vars t) fun b1 =>
 bif b1 then
  R240 (c240 k t) fun v1 =>
  r187 (v1 == kind)
 else r187 false:=by kernel_rfl
theorem n190 (k:Nat) wide vars l n1 n11:c190 (k + 1) wide vars l n1 n11 =
 R56 (c56 k 2 l n1 n11) fun l1 v1 v2 v3 =>
 R120 (c120 k 3 l1 v1 v2) fun l2 v4 v5 b1 =>
 bif b1 then
  R151 (c151 k wide vars 1 l2 v4 v5) fun l3 v6 v7 l4 =>
  R56 (c56 k 3 l3 v6 v7) fun l5 v8 v9 v10 =>
  z4s k k wide vars (IntKind.i64.wrap (1 + v10)) l5 v8 v9 0 0 [] [] wide vars l4.length 0 l4 []
 else
  R56 (c56 k 3 l2 v4 v5) fun l6 v11 v12 v13 =>
  z4s k k wide vars (IntKind.i64.wrap (1 + v13)) l6 v11 v12 0 0 [] [] wide vars 3 0 [PV.agg [.int .i64 2,.int .u64 0],PV.agg [.int .i64 1,.int .u64 (IntKind.u64.wrap v3)],PV.agg [.int .i64 14,.int .u64 0]] []:=by kernel_rfl
theorem x9 (k n:Nat) wide vars n1 l n11 n12 n13 n14 l1 l2 n15 n16 Len Len1 xs xs1:z4s k (n + 1) wide vars n1 l n11 n12 n13 n14 l1 l2 n15 n16 Len Len1 xs xs1 =
 bif decide (n1 > 0) then
  R242 (c242 k wide vars l n11 n12) fun l3 v1 v2 l4 l5 =>
  bif decide (l5.length<=l5.length) then
   bif (Len1 == xs1.length) && decide ((Len1 + 1) * 48<=LIM) && decide (Len1 + 1<=LIM) then
    z4s k n wide vars (IntKind.i64.wrap (n1 - 1)) l3 v1 v2 n13 n14 l1 l2 n15 n16 Len (Len1 + 1) xs (xs1 ++ [PV.agg [.row 2 0 l4,.row 2 0 (l5.take l5.length)]])
   else none
  else none
 else
  bif (Len1 == xs1.length) then
   r190 l n11 n12 n15 n16 (xs.take Len) (xs1.take Len1)
  else none:=by kernel_rfl
theorem n192 (k:Nat) l n1:c192 (k + 1) l n1 =
 z9f k k l.length n1 0 l:=by kernel_rfl
theorem w2b (k n:Nat) lLen n1 k1 xs:z9f k (n + 1) lLen n1 k1 xs =
 bif decide (k1 < (lLen:Int)) then
  bif decide ((0:Int)<=k1) && decide (k1 < (lLen:Int)) then
   (xs[0 + k1.toNat]?).bind fun p1 =>
   (p1.atInt .i64 0).bind fun n2 =>
   bif decide (n2 < n1) then
    z9f k n lLen n1 (IntKind.i64.wrap (k1 + 1)) xs
   else
    bif decide (k1 < (lLen:Int)) then
     bif decide ((0:Int)<=k1) && decide (k1 < (lLen:Int)) then
      (xs[0 + k1.toNat]?).bind fun p2 =>
      (p2.atInt .i64 0).bind fun n3 =>
      bif (n3 == n1) then
       r192 (xs.take lLen)
      else
       bif decide ((0:Int)<=k1) && decide (k1<=(lLen:Int)) then
        bif decide ((0 + ((xs.take k1.toNat).length)) * 8<=LIM) && decide (0 + ((xs.take k1.toNat).length)<=LIM) then
         bif decide (((0 + ((xs.take k1.toNat).length)) + 1) * 8<=LIM) && decide ((0 + ((xs.take k1.toNat).length)) + 1<=LIM) then
          bif decide ((0:Int)<=k1) && decide (k1<=(lLen:Int)) && decide ((lLen:Int)<=(lLen:Int)) then
           bif decide ((((0 + ((xs.take k1.toNat).length)) + 1) + (((xs.drop (0 + k1.toNat)).take (lLen - k1.toNat)).length)) * 8<=LIM) && decide (((0 + ((xs.take k1.toNat).length)) + 1) + (((xs.drop (0 + k1.toNat)).take (lLen - k1.toNat)).length)<=LIM) then
            r192 (((((([] ++ (xs.take k1.toNat)).take (0 + ((xs.take k1.toNat).length))) ++ [PV.int .i64 n1]).take ((0 + ((xs.take k1.toNat).length)) + 1)) ++ ((xs.drop (0 + k1.toNat)).take (lLen - k1.toNat))).take (((0 + ((xs.take k1.toNat).length)) + 1) + (((xs.drop (0 + k1.toNat)).take (lLen - k1.toNat)).length)))
           else none
          else none
         else none
        else none
       else none
     else none
    else
     bif decide ((0:Int)<=k1) && decide (k1<=(lLen:Int)) then
      bif decide ((0 + ((xs.take k1.toNat).length)) * 8<=LIM) && decide (0 + ((xs.take k1.toNat).length)<=LIM) then
       bif decide (((0 + ((xs.take k1.toNat).length)) + 1) * 8<=LIM) && decide ((0 + ((xs.take k1.toNat).length)) + 1<=LIM) then
        bif decide ((0:Int)<=k1) && decide (k1<=(lLen:Int)) && decide ((lLen:Int)<=(lLen:Int)) then
         bif decide ((((0 + ((xs.take k1.toNat).length)) + 1) + (((xs.drop (0 + k1.toNat)).take (lLen - k1.toNat)).length)) * 8<=LIM) && decide (((0 + ((xs.take k1.toNat).length)) + 1) + (((xs.drop (0 + k1.toNat)).take (lLen - k1.toNat)).length)<=LIM) then
          r192 (((((([] ++ (xs.take k1.toNat)).take (0 + ((xs.take k1.toNat).length))) ++ [PV.int .i64 n1]).take ((0 + ((xs.take k1.toNat).length)) + 1)) ++ ((xs.drop (0 + k1.toNat)).take (lLen - k1.toNat))).take (((0 + ((xs.take k1.toNat).length)) + 1) + (((xs.drop (0 + k1.toNat)).take (lLen - k1.toNat)).length)))
         else none
        else none
       else none
      else none
     else none
  else none
 else
  bif decide (k1 < (lLen:Int)) then
   bif decide ((0:Int)<=k1) && decide (k1 < (lLen:Int)) then
    (xs[0 + k1.toNat]?).bind fun p3 =>
    (p3.atInt .i64 0).bind fun n4 =>
    bif (n4 == n1) then
     r192 (xs.take lLen)
    else
     bif decide ((0:Int)<=k1) && decide (k1<=(lLen:Int)) then
      bif decide ((0 + ((xs.take k1.toNat).length)) * 8<=LIM) && decide (0 + ((xs.take k1.toNat).length)<=LIM) then
       bif decide (((0 + ((xs.take k1.toNat).length)) + 1) * 8<=LIM) && decide ((0 + ((xs.take k1.toNat).length)) + 1<=LIM) then
        bif decide ((0:Int)<=k1) && decide (k1<=(lLen:Int)) && decide ((lLen:Int)<=(lLen:Int)) then
         bif decide ((((0 + ((xs.take k1.toNat).length)) + 1) + (((xs.drop (0 + k1.toNat)).take (lLen - k1.toNat)).length)) * 8<=LIM) && decide (((0 + ((xs.take k1.toNat).length)) + 1) + (((xs.drop (0 + k1.toNat)).take (lLen - k1.toNat)).length)<=LIM) then
          r192 (((((([] ++ (xs.take k1.toNat)).take (0 + ((xs.take k1.toNat).length))) ++ [PV.int .i64 n1]).take ((0 + ((xs.take k1.toNat).length)) + 1)) ++ ((xs.drop (0 + k1.toNat)).take (lLen - k1.toNat))).take (((0 + ((xs.take k1.toNat).length)) + 1) + (((xs.drop (0 + k1.toNat)).take (lLen - k1.toNat)).length)))
         else none
        else none
       else none
      else none
     else none
   else none
  else
   bif decide ((0:Int)<=k1) && decide (k1<=(lLen:Int)) then
    bif decide ((0 + ((xs.take k1.toNat).length)) * 8<=LIM) && decide (0 + ((xs.take k1.toNat).length)<=LIM) then
     bif decide (((0 + ((xs.take k1.toNat).length)) + 1) * 8<=LIM) && decide ((0 + ((xs.take k1.toNat).length)) + 1<=LIM) then
      bif decide ((0:Int)<=k1) && decide (k1<=(lLen:Int)) && decide ((lLen:Int)<=(lLen:Int)) then
       bif decide ((((0 + ((xs.take k1.toNat).length)) + 1) + (((xs.drop (0 + k1.toNat)).take (lLen - k1.toNat)).length)) * 8<=LIM) && decide (((0 + ((xs.take k1.toNat).length)) + 1) + (((xs.drop (0 + k1.toNat)).take (lLen - k1.toNat)).length)<=LIM) then
        r192 (((((([] ++ (xs.take k1.toNat)).take (0 + ((xs.take k1.toNat).length))) ++ [PV.int .i64 n1]).take ((0 + ((xs.take k1.toNat).length)) + 1)) ++ ((xs.drop (0 + k1.toNat)).take (lLen - k1.toNat))).take (((0 + ((xs.take k1.toNat).length)) + 1) + (((xs.drop (0 + k1.toNat)).take (lLen - k1.toNat)).length)))
       else none
      else none
     else none
    else none
   else none:=by kernel_rfl
theorem n193 (k:Nat) l lo hi:c193 (k + 1) l lo hi =
 z5a k k l lo hi l (l.length:Int) 0:=by kernel_rfl
theorem w1u (k n:Nat) l lo hi t9 t10 t11:z5a k (n + 1) l lo hi t9 t10 t11 =
 bif decide (t11 < t10) then
  (q0i t9 t11).bind fun p1 =>
  (p1.atInt .i64 0).bind fun n1 =>
  R140 (c140 k n1 lo hi) fun b1 =>
  bif !b1 then
   r193 false
  else
   bif decide (t11 > 0) then
    (q0i l (IntKind.i64.wrap (t11 - 1))).bind fun p2 =>
    (p2.atInt .i64 0).bind fun n2 =>
    bif decide (n2>=n1) then
     r193 false
    else z5a k n l lo hi t9 t10 (IntKind.i64.wrap (t11 + 1))
   else z5a k n l lo hi t9 t10 (IntKind.i64.wrap (t11 + 1))
 else r193 true:=by kernel_rfl
theorem n194 (k:Nat) p p1 p2 p3 t qs:c194 (k + 1) p p1 p2 p3 t qs =
 R244 (c244 k p t (IntKind.i64.wrap ((t.length:Int) - 1)) qs) fun v1 =>
 r194 (v1 == 1):=by kernel_rfl
theorem n195 (k:Nat) p p1 p2 p3 no:c195 (k + 1) p p1 p2 p3 no =
 z9b k k no 0 0 p p1 p2 p3 []:=by kernel_rfl
theorem w1j (k n:Nat) no outLen v n1 n11 l l1 xs:z9b k (n + 1) no outLen v n1 n11 l l1 xs =
 bif decide (v < n11) then
  bif !decide (IntKind.u64.wrap (IntKind.i64.wrap (v * n1)) < 0) then
   bif !decide (IntKind.u64.wrap n1 < 0) then
    bif decide ((outLen + 1) * 8<=LIM) && decide (outLen + 1<=LIM) then
     z9b k n no (outLen + 1) (IntKind.i64.wrap (v + 1)) n1 n11 l l1 ((xs.take outLen) ++ [PV.int .u64 (IntKind.u64.wrap (q0n .and .i64 (shrI .i64 no (IntKind.u64.wrap (IntKind.i64.wrap (v * n1)))) (IntKind.i64.wrap ((shlI .i64 1 (IntKind.u64.wrap n1)) - 1))))])
    else none
   else none
  else none
 else r195 (xs.take outLen):=by kernel_rfl
theorem n196 (k:Nat) wide vars t:c196 (k + 1) wide vars t =
 R245 (c245 k wide) fun b1 =>
 bif !b1 then
  r196 0
 else
  R140 (c140 k vars 1 4) fun b2 =>
  bif !b2 then
   r196 0
  else
   R140 (c140 k (t.length:Int) 1 48) fun b3 =>
   bif !b3 then
    r196 0
   else z3u k k wide vars 0 t (t.length:Int) 0 []:=by kernel_rfl
theorem w16 (k n:Nat) wide vars pileLen t27 t28 t29 xs:z3u k (n + 1) wide vars pileLen t27 t28 t29 xs =
 bif decide (t29 < t28) then
  (q0i t27 t29).bind fun p1 =>
  bif p1.shp 2 then
   (p1.atInt .i64 0).bind fun n1 =>
   (p1.atInt .u64 1).bind fun n2 =>
   R246 (c246 k n1) fun v1 v2 v3 =>
   bif (v3 == 0) then
    r196 0
   else
    R247 (c247 k wide vars n1 n2) fun b1 =>
    bif !b1 then
     r196 0
    else
     bif decide ((pileLen:Int) < v1) then
      r196 0
     else y0y k n k wide vars pileLen v1 v2 v3 t27 t28 t29 xs
  else none
 else
  bif ((pileLen:Int) != 1) then
   r196 0
  else
   bif decide ((0:Int) < (pileLen:Int)) then
    (xs[0]?).bind fun p2 =>
    (p2.atInt .i64 0).bind fun n3 =>
    r196 n3
   else none:=by kernel_rfl
theorem x08 (k n1 n:Nat) wide vars pileLen many part own t27 t28 t29 xs:y0y k n1 (n + 1) wide vars pileLen many part own t27 t28 t29 xs =
 bif decide (many > 0) then
  bif decide ((0:Int)<=IntKind.i64.wrap ((pileLen:Int) - 1)) && decide (IntKind.i64.wrap ((pileLen:Int) - 1) < (pileLen:Int)) then
   (xs[0 + ((IntKind.i64.wrap ((pileLen:Int) - 1)).toNat)]?).bind fun p1 =>
   (p1.atInt .i64 0).bind fun n2 =>
   bif (n2 != part) then
    r196 0
   else
    bif decide ((0:Int)<=IntKind.i64.wrap ((pileLen:Int) - 1)) && decide (IntKind.i64.wrap ((pileLen:Int) - 1)<=(pileLen:Int)) then
     y0y k n1 n wide vars ((IntKind.i64.wrap ((pileLen:Int) - 1)).toNat) (IntKind.i64.wrap (many - 1)) part own t27 t28 t29 xs
    else none
  else none
 else
  bif decide ((pileLen + 1) * 8<=LIM) && decide (pileLen + 1<=LIM) then
   z3u k n1 wide vars (pileLen + 1) t27 t28 (IntKind.i64.wrap (t29 + 1)) ((xs.take pileLen) ++ [PV.int .i64 own])
  else none:=by kernel_rfl
theorem n198 (k:Nat) p p1 p2 p3 qc qc1:c198 (k + 1) p p1 p2 p3 qc qc1 =
 R126 (c126 k p p1 p2 p3 qc) fun b1 =>
 bif !b1 then
  r198 false
 else
  bif decide ((qc1.length:Int) > p1) then
   r198 false
  else z0l k k qc1 (qc1.length:Int) 0 p p1 p2 p3 qc qc1:=by kernel_rfl
theorem x9f (k n:Nat) t21 t22 t23 n1 n11 l l1 l2 l3:z0l k (n + 1) t21 t22 t23 n1 n11 l l1 l2 l3 =
 bif decide (t23 < t22) then
  (q0i t21 t23).bind fun p1 =>
  bif p1.shp 2 then
   (p1.atInt .i64 0).bind fun n2 =>
   (p1.atRow 2 1).bind fun l4 =>
   R140 (c140 k n2 0 (IntKind.i64.wrap (n11 - 1))) fun b1 =>
   bif !b1 then
    r198 false
   else
    bif decide (t23 > 0) then
     (q0i l3 (IntKind.i64.wrap (t23 - 1))).bind fun p2 =>
     (p2.atInt .i64 0).bind fun n3 =>
     bif decide (n3>=n2) then
      r198 false
     else
      R196 (c196 k n1 n11 l4) fun v1 =>
      bif (v1 != 1) then
       r198 false
      else z0l k n t21 t22 (IntKind.i64.wrap (t23 + 1)) n1 n11 l l1 l2 l3
    else
     R196 (c196 k n1 n11 l4) fun v2 =>
     bif (v2 != 1) then
      r198 false
     else z0l k n t21 t22 (IntKind.i64.wrap (t23 + 1)) n1 n11 l l1 l2 l3
  else none
 else r198 true:=by kernel_rfl
theorem n199 (k:Nat) p p1 p2 p3 preds:c199 (k + 1) p p1 p2 p3 preds =
 R104 (c104 k p p1 p2 p3) fun b1 =>
 bif !b1 then
  r199 [] false
 else
  R76 (c76 k p p1 p2 p3 preds) fun b2 =>
  bif !b2 then
   r199 [] false
  else
   R99 (c99 k p p1 p2 p3 preds) fun l1 =>
   r199 (l1.take l1.length) true:=by kernel_rfl
theorem n200 (k:Nat) p p1 p2 p3 v some1:c200 (k + 1) p p1 p2 p3 v some1 =
 R129 (c129 k p p1 p2 p3 v) fun b1 =>
 bif !b1 then
  r200 [] false
 else
  R193 (c193 k some1 0 (IntKind.i64.wrap ((v.length:Int) - 1))) fun b2 =>
  bif !b2 then
   r200 [] false
  else
   R80 (c80 k v some1) fun l1 =>
   r200 (l1.take l1.length) true:=by kernel_rfl
end Go.Proofs.YtgdegfijcijnoaaGreat
