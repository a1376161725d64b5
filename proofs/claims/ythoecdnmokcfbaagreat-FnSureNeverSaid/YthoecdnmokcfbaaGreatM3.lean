/- Nu; Ca; Srt0; Srt; Env; Cs; Nf0; Nf1: texts put together. -/
import Derived.Test.YthoecdnmokcfbaaGreatProg
import Derived.Test.YthoecdnmokcfbaaGreatM2
import Derived.Maps.OwnSet
import Derived.Maps.AppendAt
import Derived.WideKeyPair
import Derived.DeepKeys4
import Derived.OwnWalk
import Derived.WalkKit
import Derived.Shelf.Sort.Plain
import Derived.Shelf.Slices.CompactI
import Derived.Shelf.Slices.In.SortNone
import Derived.Ground.NamesProg
import Derived.Ground.Names2Prog
import Derived.Sort.OwnSortedInts
/- The numbers of classes: the program's map of pairs, walked through by hand. -/
set_option linter.unusedVariables false
set_option linter.unusedSimpArgs false
namespace Go.Proofs.YthoecdnmokcfbaaGreat
open Go.Maps Go.RowKit Go.WideMaps
def clsF : List (Int × Int) -> List (Int × Int) -> List Int
 | [], _ => []
 | p :: l, kn => if p ∈ kn then (kn.idxOf p : Int) :: clsF l kn else (kn.length : Int) :: clsF l (kn ++ [p])
def clsL (ps : List (Int × Int)) : List Int := clsF ps []
def wf2 (p : Int × Int) : Prop := (Lit.int .i64 p.1).wf = true /\ (Lit.int .i64 p.2).wf = true
def keyL (p : Int × Int) : Lit := .string (keyBytes [.int .i64 p.1, .int .i64 p.2])
def valP (p : Int × Int) : Value := .agg #[.int .i64 p.1, .int .i64 p.2]
theorem arr84 : ArrKey Tryz.prog 147 3 2 := ⟨Tryz.underlying147, by kernel_rfl, by kernel_rfl, by kernel_rfl⟩
theorem typesS : ∃ m, Tryz.prog.types.size = m + 1 := ⟨Tryz.prog.types.size - 1, by decide +kernel⟩
theorem key_of {p : Int × Int} (h : wf2 p) : keyOf Tryz.prog 147 (valP p) = some (keyL p) := keyOf_pair arr84 Tryz.underlying3 typesS h.1 h.2
theorem laid : laidOutB Tryz.prog = true := by kernel_rfl
theorem law84 : Keyed Tryz.prog 147 := Keyed.of_law (deep_law_laid (m := 2) laid (by decide) (by decide +kernel) (by kernel_rfl) (by kernel_rfl))
theorem key_inj {p q : Int × Int} (hp : wf2 p) (hq : wf2 q) (h : keyL p = keyL q) : p = q := by
 have := law84.inj (key_of hp) (h ▸ key_of hq)
 unfold valP at this
 injection this with this
 have h1 := congrArg (fun a => a[0]?) this
 have h2 := congrArg (fun a => a[1]?) this
 simp at h1 h2
 exact Prod.ext h1 h2
structure MapIs {H : Type} (D : DataW H) (kn : List (Int × Int)) : Prop where
 tidy : Tidy D
 wf : ∀ p ∈ kn, wf2 p
 has : ∀ p, wf2 p -> Maps.has D (keyL p) = decide (p ∈ kn)
 get : ∀ p, wf2 p -> p ∈ kn -> D.atKey (keyL p) (.lit (.int .i64 0)) = .lit (.int .i64 (kn.idxOf p))
 size : Maps.size D = kn.length
theorem mapIs_nil {H : Type} : MapIs (H := H) (.map []) [] := ⟨tidy_empty, by simp, fun p _ => by simp [has_eq], by simp, rfl⟩
theorem mapIs_put {H : Type} {D : DataW H} {kn : List (Int × Int)} (h : MapIs D kn) {p : Int × Int} (hp : wf2 p) (hn : ¬ p ∈ kn) : MapIs (D.put (keyL p) (.lit (.int .i64 kn.length))) (kn ++ [p]) := by
 have hk : WideAt.IsKeyLit (keyL p) := law84.key (key_of hp)
 refine ⟨h.tidy.put hk _, ?_, ?_, ?_, ?_⟩
 · intro q hq
   rcases List.mem_append.1 hq with hq | hq
   · exact h.wf q hq
   · rw [List.mem_singleton.1 hq]; exact hp
 · intro q hq
   by_cases e : q = p
   · subst e
     rw [has_put_same h.tidy.isMap hk]
     simp
   · rw [has_put_other (fun he => e (key_inj hq hp he)), h.has q hq]
     simp [e]
 · intro q hq hm
   by_cases e : q = p
   · subst e
     rw [atKey_put_same h.tidy.isMap hk, List.idxOf_append, if_neg hn]
     simp
   · rw [atKey_put_other (fun he => e (key_inj hq hp he))]
     have hq2 : q ∈ kn := by
       rcases List.mem_append.1 hm with h | h
       · exact h
       · exact absurd (List.mem_singleton.1 h) e
     rw [h.get q hq hq2, List.idxOf_append, if_pos hq2]
 · rw [size_put h.tidy, h.has p hp, h.size]
   simp [hn]
theorem zero3 (w : World) : (zeroValue 3).run Tryz.prog w = .ok (.int .i64 0) w := by kernel_rfl
theorem info3' : (Tryz.prog.info? 3).map (fun i => (i.zero, i.size, i.bytes)) = some (some (.int .i64 0), 1, 8) := by kernel_rfl
theorem res56 : Tryz.f145.results = #[.cell 2 30] := rfl
def knF : List (Int × Int) -> List (Int × Int) -> List (Int × Int)
 | [], kn => kn
 | p :: l, kn => if p ∈ kn then knF l kn else knF l (kn ++ [p])
def clsOf (kn : List (Int × Int)) (p : Int × Int) : Int := if p ∈ kn then (kn.idxOf p : Int) else (kn.length : Int)
theorem clsF_snoc (p : Int × Int) : ∀ (l kn : List (Int × Int)), clsF (l ++ [p]) kn = clsF l kn ++ [clsOf (knF l kn) p]
 | [], kn => by simp only [List.nil_append, clsF, knF, clsOf]; by_cases h : p ∈ kn <;> simp [h]
 | q :: l, kn => by
   simp only [List.cons_append, clsF, knF]
   split
   · rw [clsF_snoc p l kn, List.cons_append]
   · rw [clsF_snoc p l _, List.cons_append]
theorem knF_snoc (p : Int × Int) : ∀ (l kn : List (Int × Int)), knF (l ++ [p]) kn = if p ∈ knF l kn then knF l kn else knF l kn ++ [p]
 | [], kn => by simp only [List.nil_append, knF]; by_cases h : p ∈ kn <;> simp [h]
 | q :: l, kn => by
   simp only [List.cons_append, knF]
   split
   · exact knF_snoc p l kn
   · exact knF_snoc p l _
def Kn (ps : List (Int × Int)) (k : Nat) : List (Int × Int) := knF (ps.take k) []
def Out (ps : List (Int × Int)) (k : Nat) : List Int := clsF (ps.take k) []
theorem Kn_succ {ps : List (Int × Int)} {k : Nat} (h : k < ps.length) : Kn ps (k + 1) = if ps[k] ∈ Kn ps k then Kn ps k else Kn ps k ++ [ps[k]] := by
 unfold Kn
 rw [List.take_add_one, List.getElem?_eq_getElem h]
 exact knF_snoc _ _ _
theorem Out_succ {ps : List (Int × Int)} {k : Nat} (h : k < ps.length) : Out ps (k + 1) = Out ps k ++ [clsOf (Kn ps k) ps[k]] := by
 unfold Out Kn
 rw [List.take_add_one, List.getElem?_eq_getElem h]
 exact clsF_snoc _ _ _
theorem slice_of {w : World} {base e size n : Nat} {v : Value} {xs : List Value} (h : w.ownsRow base e size v n xs) : ∃ ad m c, v = .slice ad m c := by
 rcases h.2 with ⟨rfl, _⟩ | ⟨g, c, cu, rfl, _⟩
 · exact ⟨_, _, _, rfl⟩
 · exact ⟨_, _, _, rfl⟩
theorem ownsRow_setCell {w : World} {base e size n : Nat} {v : Value} {xs : List Value} (h : w.ownsRow base e size v n xs) {a : Addr} (ha : a.block < base) (u : Value) : (w.setCell a u).ownsRow base e size v n xs := by
 refine ⟨h.1, ?_⟩
 rcases h.2 with hn | ⟨g, c, cu, rfl, hb, hg, rest⟩
 · exact .inl hn
 · exact .inr ⟨g, c, cu, rfl, hb, by rw [heap_setCell_other w a g u (by omega)]; exact hg, rest⟩
theorem row_ne' {w : World} {base e size n : Nat} {v : Value} {xs : List Value} (h : w.ownsRow base e size v n xs) {k : Nat} (hk : k < base) : some k ≠ v.ownBlock := by
 intro e
 have := (h.lt k e.symm).1
 omega
theorem alloc_cell {w : World} {a : Addr} {v : Value} (h : w.cell? a = some v) (o : Obj) : (w.alloc o).cell? a = some v :=
 (World.cell?_of_block (heap_alloc_old w o (block_lt_of_cell h))).trans h
theorem alloc_frozen {w : World} {a : Addr} (hl : a.block < w.heap.size) (h : w.frozen? a = false) (o : Obj) : (w.alloc o).frozen? a = false :=
 (World.frozen?_of_block (heap_alloc_old w o hl)).trans h
theorem cells_kept {w0 w2 : World} {row : Option Nat} (hg : w0.grownBy w2 row) {a : Addr} {v : Value} (h : w0.cell? a = some v) (hf : w0.frozen? a = false) (hne : some a.block ≠ row) : w2.cell? a = some v /\ w2.frozen? a = false :=
 ⟨hg.cell h hne, (World.frozen?_of_block (hg.block _ (block_lt_of_cell h) hne)).trans hf⟩
theorem new_cell (w : World) (v : Value) (t : TypeId) : (w.alloc (.cells #[v] t)).cell? ⟨w.heap.size, 0, none⟩ = some v /\ (w.alloc (.cells #[v] t)).frozen? ⟨w.heap.size, 0, none⟩ = false := by
 have h := heap_alloc_new w (.cells #[v] t)
 exact ⟨by rw [cell_of_row _ _ 0 #[v] t (0, 0) h]; rfl, frozen_of_row _ _ 0 #[v] t h⟩
set_option maxRecDepth 100000 in
theorem numbered_none (a : Option Addr) (cap : Nat) (w : World) : Calls Tryz.prog 145 #[.slice a 0 cap] w fun e w' => e = .returned (.agg #[.slice none 0 0]) /\ Below w.heap.size w w' := by
 have hmm := @run_makeMap Tryz.prog
 go_enter Tryz.func145, Tryz.ntmps145
 go_wp2
 refine wp_loop_rounds 1 ?_
 rw [rounds_succ]
 go_wp2
 refine bodyPost_ret (v := .agg #[.slice none 0 0]) (by simp [results, res56, go_sem]; try rfl) rfl ?_
 exact ⟨rfl, (((Below.refl _ _).alloc (Nat.le_refl _) _).alloc (by simp) _).alloc (by simp; omega) _⟩
set_option maxHeartbeats 1600000 in
set_option maxRecDepth 100000 in
theorem numbered_any (b off cap : Nat) (ps : List (Int × Int)) (w : World) (hlen : ps.length <= 1000000) (hb : b < w.heap.size)
   (hc : ∀ j, j < ps.length -> w.cell? ⟨b, off + j * 2, none⟩ = some (.int .i64 (ps.getD j (0, 0)).1) /\ w.cell? ⟨b, off + j * 2 + 1, none⟩ = some (.int .i64 (ps.getD j (0, 0)).2)) (hwf : ∀ p ∈ ps, wf2 p) :
   Calls Tryz.prog 145 #[.slice (some ⟨b, off, none⟩) ps.length cap] w fun e w' => ∃ v, e = .returned (.agg #[v]) /\ w'.ownsRow w.heap.size 3 1 v ps.length ((clsL ps).map (Value.int .i64)) /\ Below w.heap.size w w' := by
 have hmm := @run_makeMap Tryz.prog
 obtain ⟨i0, hi, hz0, hz1, hz2⟩ := info_parts info3'
 go_enter Tryz.func145, Tryz.ntmps145
 go_wp2
 go_loopw [13] (fun i wr => ∃ (k : Nat) (v : Value) (D : DataW Unit), k <= ps.length /\ i = .int .i64 k /\ wr.ownsMap Tryz.prog 147 (plainElem Tryz.prog 3) (w.heap.size + 1) k D /\ MapIs D (Kn ps k) /\
     wr.cell? ⟨w.heap.size + 1 + 1, 0, none⟩ = some v /\ wr.frozen? ⟨w.heap.size + 1 + 1, 0, none⟩ = false /\ wr.cell? ⟨w.heap.size, 0, none⟩ = some (.slice none 0 0) /\ wr.frozen? ⟨w.heap.size, 0, none⟩ = false /\
     wr.ownsRow (w.heap.size + 3) 3 1 v k ((Out ps k).map (Value.int .i64)) /\ Below w.heap.size w wr /\ w.heap.size + 3 <= wr.heap.size)
   (fun i _ => ps.length - (intOf i).toNat)
 case atStart =>
   refine ⟨0, .slice none 0 0, .map [], Nat.zero_le _, rfl, ?_, mapIs_nil, ?_, ?_, ?_, ?_, World.ownsRow_nil _ _ _ _, (((Below.refl _ _).alloc (Nat.le_refl _) _).alloc (by simp) _).alloc (by simp; omega) _, by simp⟩
   · have := World.ownsMap_made (H := Unit) (w.alloc (Obj.cells #[Value.slice none 0 0] 30)) Tryz.prog 147 (plainElem Tryz.prog 3)
     simp at this
     exact this.alloc _
   · have := (new_cell ((w.alloc (Obj.cells #[Value.slice none 0 0] 30)).alloc (Obj.map #[] 0)) (.slice none 0 0) 30).1
     rwa [show ((w.alloc (Obj.cells #[Value.slice none 0 0] 30)).alloc (Obj.map #[] 0)).heap.size = w.heap.size + 1 + 1 by simp] at this
   · have := (new_cell ((w.alloc (Obj.cells #[Value.slice none 0 0] 30)).alloc (Obj.map #[] 0)) (.slice none 0 0) 30).2
     rwa [show ((w.alloc (Obj.cells #[Value.slice none 0 0] 30)).alloc (Obj.map #[] 0)).heap.size = w.heap.size + 1 + 1 by simp] at this
   · exact alloc_cell (alloc_cell (new_cell w (.slice none 0 0) 30).1 _) _
   · exact alloc_frozen (by simp; omega) (alloc_frozen (by simp) (new_cell w (.slice none 0 0) 30).2 _) _
 case round =>
   obtain ⟨k, v, D, hk, rfl, hown, hmi, hv, hvf, hr, hrf, hrow, hnx, hws⟩ := hrel
   have hc1 : k < ps.length -> wr.cell? ⟨b, off + k * 2, none⟩ = some (.int .i64 (ps.getD k (0, 0)).1) := fun h => (hnx.cell (by exact hb)).trans (hc k h).1
   have hc2 : k < ps.length -> wr.cell? ⟨b, off + k * 2 + 1, none⟩ = some (.int .i64 (ps.getD k (0, 0)).2) := fun h => (hnx.cell (by exact hb)).trans (hc k h).2
   obtain ⟨ad, sn, sc, rfl⟩ := slice_of hrow
   by_cases hlt : k < ps.length
   · have hp := hwf _ (List.getElem_mem hlt)
     have hkey : keyOf Tryz.prog 147 (.agg #[.int .i64 ps[k].1, .int .i64 ps[k].2]) = some (keyL ps[k]) := key_of hp
     have hsz := hown.size_le
     have hhas := hmi.has ps[k] hp
     have hva := fun o => alloc_cell hv o
     have hvfa := fun o => alloc_frozen (w := wr) (a := ⟨w.heap.size + 1 + 1, 0, none⟩) (block_lt_of_cell hv) hvf o
     have hra := fun o => alloc_cell hr o
     have hrfa := fun o => alloc_frozen (w := wr) (a := ⟨w.heap.size, 0, none⟩) (block_lt_of_cell hr) hrf o
     by_cases hm : ps[k] ∈ Kn ps k
     · rw [decide_eq_true hm] at hhas
       have hgt := hmi.get ps[k] hp hm
       have hcl : clsOf (Kn ps k) ps[k] = ((Kn ps k).idxOf ps[k] : Int) := by unfold clsOf; rw [if_pos hm]
       go_wp2_with (first
         | (at_lookup; refine wpList_lookup_own_ok_int _ rfl _ _ 177 rfl 147 3 .i64 law84 Tryz.underlying177 Tryz.underlying3 (zero3 _) (w.heap.size + 1) k D rfl (hown.alloc _) _ _ rfl hkey ?_; intro c hat hwc; rw [hhas]; obtain rfl : c = ((Kn ps k).idxOf ps[k] : Int) := by rw [hgt] at hat; injection hat with hat; injection hat with _ hat; exact hat.symm)
         | (at_builtin; refine wpList_append_own_at _ rfl _ _ 28 rfl (w.heap.size + 3) 3 i0 (.int .i64 0) 1 8 Tryz.underlying28 hi hz0 hz1 hz2 rfl (by decide) _ _ _ rfl ((hrow.alloc _).alloc _) ⟨wr.heap.size + 1, 0, none⟩ 1 1 [.int .i64 ((Kn ps k).idxOf ps[k] : Int)] rfl rfl (by simpa using cell_one_new (wr.alloc _) _ _) (ints_oneCell .i64 [((Kn ps k).idxOf ps[k] : Int)]) (by unfold maxLen; omega) (by omega) (by simp; omega) ?_; intro v' w2 hown' hgrow2 hnil2 hloc;
             (obtain ⟨ad2, sn2, sc2, rfl⟩ := slice_of hown');
             (obtain ⟨hv2, hvf2⟩ := cells_kept hgrow2 (alloc_cell (hva _) _) (alloc_frozen (block_lt_of_cell (hva _)) (hvfa _) _) (row_ne' hrow (show w.heap.size + 1 + 1 < w.heap.size + 3 by omega)));
             (obtain ⟨hr2, hrf2⟩ := cells_kept hgrow2 (alloc_cell (hra _) _) (alloc_frozen (block_lt_of_cell (hra _)) (hrfa _) _) (row_ne' hrow (show w.heap.size < w.heap.size + 3 by omega))))
         | go_in)
       have hne := row_ne' hrow (show w.heap.size + 1 < w.heap.size + 3 by omega)
       have hs2 := hgrow2.size
       simp at hs2
       refine ⟨⟨k + 1, .slice ad2 sn2 sc2, D, by omega, by simp, ((((hown.alloc _).alloc _).kept hgrow2 hne).setCell (by simp) _).mono (Nat.le_succ _), by rw [Kn_succ hlt, if_pos hm]; exact hmi, World.cell?_setCell_same _ _ _ hv2, by rw [World.frozen?_setCell]; exact hvf2,
         (World.cell?_setCell_other _ _ _ _ (by simp)).trans hr2, by rw [World.frozen?_setCell]; exact hrf2, ?_, ?_, by simp [World.setCell]; omega⟩, ?_⟩
       · refine ownsRow_setCell ?_ (by simp) _
         rw [Out_succ hlt, hcl]
         simpa using hown'
       · refine Below.setCell ?_ (by simp; omega) _
         exact ((hnx.alloc (by omega) _).alloc (by simp; omega) _).grown hgrow2 (by simp; omega) (fun j hj => by have := (hrow.lt j hj).1; omega)
       · simp [intOf]; omega
     · rw [decide_eq_false hm] at hhas
       have hcl : clsOf (Kn ps k) ps[k] = ((Kn ps k).length : Int) := by unfold clsOf; rw [if_neg hm]
       have hsize := hmi.size
       have hkl : (Kn ps k).length <= k := by omega
       have hwf2 : (Lit.int .i64 ((Kn ps k).length : Int)).wf = true := WalkArith.wf_i64 (by omega)
       go_wp2_with (first
         | (at_lookup; refine wpList_lookup_own_ok_int _ rfl _ _ 177 rfl 147 3 .i64 law84 Tryz.underlying177 Tryz.underlying3 (zero3 _) (w.heap.size + 1) k D rfl (hown.alloc _) _ _ rfl hkey ?_; intro c hat hwc; rw [hhas])
         | (at_len; refine wpList_len_own _ rfl _ _ rfl 147 3 Tryz.underlying177 (plainElem Tryz.prog 3) (w.heap.size + 1) k D rfl (hown.alloc _) ?_; rw [hsize])
         | (at_mapUpdate; refine wpList_mapUpdate_own _ rfl _ _ _ 177 rfl 147 3 law84 Tryz.underlying177 (plainElem Tryz.prog 3) (w.heap.size + 1) k D rfl (hown.alloc _) (by unfold maxLen; omega) _ _ _ rfl rfl hkey _ [] (plainElem_int Tryz.underlying3 hwf2) ?_; intro w1 hown1 hgrow1;
             (obtain ⟨hv1, hvf1⟩ := cells_kept hgrow1 (hva _) (hvfa _) (by simp));
             (obtain ⟨hr1, hrf1⟩ := cells_kept hgrow1 (hra _) (hrfa _) (by simp));
             (have hrow1 := (hrow.alloc _).kept hgrow1 (Or.inr (row_ne' hrow (show w.heap.size + 1 < w.heap.size + 3 by omega)).symm));
             (have hw1 := hgrow1.size); (have hva1 := fun o => alloc_cell hv1 o); (have hvfa1 := fun o => alloc_frozen (block_lt_of_cell hv1) hvf1 o);
             (have hra1 := fun o => alloc_cell hr1 o); (have hrfa1 := fun o => alloc_frozen (block_lt_of_cell hr1) hrf1 o))
         | (at_builtin; refine wpList_append_own_at _ rfl _ _ 28 rfl (w.heap.size + 3) 3 i0 (.int .i64 0) 1 8 Tryz.underlying28 hi hz0 hz1 hz2 rfl (by decide) _ _ _ rfl (hrow1.alloc _) ⟨w1.heap.size, 0, none⟩ 1 1 [.int .i64 ((Kn ps k).length : Int)] rfl rfl (cell_one_new _ _ _) (ints_oneCell .i64 [((Kn ps k).length : Int)]) (by unfold maxLen; omega) (by omega) (by simp at hw1 ⊢; omega) ?_; intro v' w2 hown' hgrow2 hnil2 hloc;
             (obtain ⟨ad2, sn2, sc2, rfl⟩ := slice_of hown');
             (obtain ⟨hv2, hvf2⟩ := cells_kept hgrow2 (hva1 _) (hvfa1 _) (row_ne' hrow1 (show w.heap.size + 1 + 1 < w.heap.size + 3 by omega)));
             (obtain ⟨hr2, hrf2⟩ := cells_kept hgrow2 (hra1 _) (hrfa1 _) (row_ne' hrow1 (show w.heap.size < w.heap.size + 3 by omega))))
         | go_in)
       have hne := row_ne' hrow1 (show w.heap.size + 1 < w.heap.size + 3 by omega)
       have hs2 := hgrow2.size
       simp at hs2 hw1
       refine ⟨⟨k + 1, .slice ad2 sn2 sc2, _, by omega, by simp, ((hown1.alloc _).kept hgrow2 hne).setCell (by simp) _, by rw [Kn_succ hlt, if_neg hm]; exact mapIs_put hmi hp hm, World.cell?_setCell_same _ _ _ hv2, by rw [World.frozen?_setCell]; exact hvf2,
         (World.cell?_setCell_other _ _ _ _ (by simp)).trans hr2, by rw [World.frozen?_setCell]; exact hrf2, ?_, ?_, by simp [World.setCell]; omega⟩, ?_⟩
       · refine ownsRow_setCell ?_ (by simp) _
         rw [Out_succ hlt, hcl]
         simpa using hown'
       · refine Below.setCell ?_ (by simp; omega) _
         exact (((hnx.alloc (by omega) _).grown hgrow1 (by simp; omega) (fun j hj => by cases hj; omega)).alloc (by omega) _).grown hgrow2 (by simp; omega) (fun j hj => by have := (hrow1.lt j hj).1; omega)
       · simp [intOf]; omega
   · have hkn : k = ps.length := by omega
     subst hkn
     go_wp2
     have hret := World.cell?_setCell_same (w := wr) (a := ⟨w.heap.size, 0, none⟩) (v := .slice ad sn sc) (u := _) hr
     refine bodyPost_ret (v := .agg #[.slice ad sn sc]) (by simp [results, go_sem, hret]; try rfl) rfl ?_
     refine ⟨_, rfl, ?_, hnx.setCell (by simp) _⟩
     have h1 := ownsRow_setCell hrow (a := ⟨w.heap.size, 0, none⟩) (by simp) (.slice ad sn sc)
     have e : Out ps ps.length = clsL ps := by unfold Out clsL; rw [List.take_length]
     rw [e] at h1
     refine ⟨h1.1, ?_⟩
     rcases h1.2 with hn | ⟨g, c, cu, q1, q2, q3⟩
     · exact .inl hn
     · exact .inr ⟨g, c, cu, q1, by omega, q3⟩
open Go.Dp
theorem ownStruct_contract {P : Program} {f : FuncId} {arg : PV} {e : TypeId} {zs : List Int} (he : Go.Dp.Enters P f)
   (h : ∀ (w : World) (Im : Nat -> Prop) (y : Value), (∀ b, Im b -> b < w.heap.size) -> RP w Im arg y -> Calls P f #[y] w fun ev w' => ∃ v, ev = .returned (.agg #[v]) /\ w'.ownsRow w.heap.size e 1 v zs.length (zs.map (Value.int .i64)) /\ Below w.heap.size w w') :
   Contract P f [.s (.c (.p arg))] [] ([.agg [.own e 0 (zs.map (PV.int .i64))]], []) := by
 refine ⟨he, fun w Im bl vss ys gs pre => ?_⟩
 have hb : bl = [] := List.eq_nil_of_length_eq_zero (by simpa using pre.l1)
 have hv : vss = [] := by simpa using pre.l2
 subst hb
 subst hv
 have hl := pre.og.len.1
 have hgs : gs = [] := List.eq_nil_of_length_eq_zero pre.og.len.2
 subst hgs
 simp only [List.length_cons, List.length_nil] at hl
 obtain ⟨y, rfl⟩ : ∃ y, ys = [y] := by
   match ys, hl with
   | [y], _ => exact ⟨y, rfl⟩
 have hy : RP w Im arg y := pre.arg 0 _ y rfl rfl rfl
 refine (h w Im y pre.im hy).mono ?_
 rintro ev w' ⟨v, rfl, hown, hbel⟩
 have hmv : mainV v = v /\ v.oneCell' = true /\ ∀ b, Blk v b -> w.heap.size <= b := by
   rcases hown.2 with ⟨rfl, _⟩ | ⟨g, c, cu, rfl, hb, _⟩
   · exact ⟨rfl, rfl, fun b hb => hb.elim⟩
   · exact ⟨rfl, rfl, fun b hb' => by simp at hb'; omega⟩
 have c0 : csz 0 = 1 := rfl
 have hrow : OwnRow w' Im (e : Et) 0 (zs.map (PV.int .i64)) v := by
   refine ⟨zs.map (Value.int .i64), ?_, ?_, ?_, ?_, ?_⟩
   · rw [hmv.1, List.length_map]
     have := World.ownsAt_of hown
     refine ⟨this.1, ?_⟩
     rcases this.2 with hn | ⟨g, bo, c, cu, q1, q2, q3⟩
     · exact .inl hn
     · exact .inr ⟨g, bo, c, cu, q1, Nat.zero_le _, q3⟩
   · intro x hx
     obtain ⟨z, _, rfl⟩ := List.mem_map.1 hx
     rfl
   · intro i x j c u hx hj hu
     rw [List.getElem?_map] at hx
     cases hz : zs[i]? with
     | none => rw [hz] at hx; cases hx
     | some z =>
       rw [hz] at hx
       simp only [Option.map_some, Option.some.injEq] at hx
       subst hx
       cases j with
       | zero =>
         simp [PV.cells] at hj
         subst hj
         rw [c0, Nat.mul_one, Nat.add_zero, List.getElem?_map, hz] at hu
         simp only [Option.map_some, Option.some.injEq] at hu
         subst hu
         exact RP.int _ _
       | succ j => simp [PV.cells] at hj
   · intro b hb
     exact ⟨fun _ hI => by have := hmv.2.2 b hb; have := pre.im b hI; omega, fun h => nomatch h⟩
   · exact fun _ => hmv.1
 refine ⟨.agg #[v], Im, [], [v], rfl, ?_⟩
 exact { wd := ⟨hbel.os, hbel.tape, hbel.output, hbel.size⟩, fr := fun b hb _ => hbel.block b hb, im := fun b hb => ⟨hb, hbel.block b (pre.im b hb)⟩, imn := fun b hb => ⟨.inl hb, Nat.lt_of_lt_of_le (pre.im b hb) hbel.size⟩, l1 := rfl, l2 := rfl,
         box := fun j b vs h1 => by simp at h1
         tok := by
           refine ⟨rfl, fun i c y h1 h2 => ?_, fun i j b h1 h2 => ?_, fun i b h1 => by simp⟩
           · cases i with
             | zero =>
               simp [cellsOfS] at h1 h2
               subst h1
               subst h2
               exact hrow
             | succ i => simp [cellsOfS] at h1
           · obtain ⟨_, _, _, _, h3, _⟩ := h1
             obtain ⟨_, _, _, _, h4, _⟩ := h2
             cases i <;> cases j <;> simp [cellsOfS] at h3 h4
             rfl
         ow := by
           rintro b ⟨i, _, _, _, y', h3, h4, h5⟩
           cases i with
           | zero =>
             simp [cellsOfS] at h4
             subst h4
             exact .inl (hmv.2.2 b h5)
           | succ i => simp [cellsOfS] at h3
         ret := ⟨[.agg #[v]], RetSs.cons (d := .agg [.own e 0 (zs.map (PV.int .i64))]) (y := .agg #[v]) (zs := [v]) ⟨rfl, by simp [hmv.1], by simp [hmv.1, hmv.2.1]⟩ .nil, rfl⟩ }
def encPr (p : Int × Int) : PV := .agg [.int .i64 p.1, .int .i64 p.2]
theorem numbered_ok (ps : List (Int × Int)) (hlen : ps.length <= 1000000) (hwf : ∀ p ∈ ps, wf2 p) : Contract Tryz.prog 145 [.s (.c (.p (.row 2 0 (ps.map encPr))))] [] ([.agg [.own 3 0 ((clsL ps).map (PV.int .i64))]], []) := by
 have hcl : (clsL ps).length = ps.length := by
   have key : ∀ l kn, (clsF l kn).length = l.length := by
     intro l
     induction l with
     | nil => intro kn; rfl
     | cons p l ih =>
       intro kn
       unfold clsF
       split <;> simp [ih]
   exact key ps []
 refine ownStruct_contract ⟨_, Tryz.func145, by kernel_rfl, by decide +kernel⟩ fun w Im y him hy => ?_
 cases hps : ps with
 | nil =>
   subst hps
   have hnone : ∃ a cap, y = .slice a 0 cap := by
     cases hy with
     | nil => exact ⟨_, _, rfl⟩
     | row => exact ⟨_, _, rfl⟩
   obtain ⟨a, cap, rfl⟩ := hnone
   refine (numbered_none a cap w).mono ?_
   rintro ev w' ⟨rfl, hb⟩
   exact ⟨_, rfl, World.ownsRow_nil _ _ _ _, hb⟩
 | cons p0 l0 =>
   rw [<- hps]
   have hpos : 0 < ps.length := by rw [hps]; simp
   generalize hxs : ps.map encPr = xs at hy
   have hxl : xs.length = ps.length := by rw [<- hxs]; simp
   cases hy with
   | nil => simp at hxl; omega
   | row _ _ _ a cap g hf hs hc hm h1 him' hsh hcell hr =>
     obtain ⟨blk, off, sp⟩ := a
     simp only at hs
     subst hs
     rw [hxl]
     have hb := him blk (him' (by omega))
     have c2 : csz 2 = 2 := rfl
     have hat : ∀ j, j < ps.length -> xs[j]? = some (encPr (ps.getD j (0, 0))) := by
       intro j hj
       rw [<- hxs, List.getElem?_map, List.getElem?_eq_getElem hj]
       simp [hj]
     have hc2 : ∀ j, j < ps.length -> w.cell? ⟨blk, off + j * 2, none⟩ = some (.int .i64 (ps.getD j (0, 0)).1) /\ w.cell? ⟨blk, off + j * 2 + 1, none⟩ = some (.int .i64 (ps.getD j (0, 0)).2) := by
       intro j hj
       have a1 := hcell j _ 0 _ (hat j hj) rfl
       have a2 := hcell j _ 1 _ (hat j hj) rfl
       have b1 := hr j _ 0 _ (hat j hj) rfl
       have b2 := hr j _ 1 _ (hat j hj) rfl
       rw [c2] at a1 a2 b1 b2
       simp only [Nat.add_zero] at a1 b1
       rw [a1, Nat.add_assoc, a2, RP_intv b1, RP_intv b2]
       exact ⟨rfl, rfl⟩
     refine (numbered_any blk off cap ps w hlen hb hc2 hwf).mono ?_
     rintro ev w' ⟨v, rfl, hown, hbel⟩
     exact ⟨v, rfl, by rw [hcl]; exact hown, hbel⟩
def pairOf : PV -> Option (Int × Int)
 | .agg [.int .i64 a, .int .i64 b] => some (a, b)
 | _ => none
def pairsOf : List PV -> Option (List (Int × Int))
 | [] => some []
 | x :: l => (pairOf x).bind fun p => (pairsOf l).bind fun q => some (p :: q)
theorem pairsOf_enc : ∀ ps : List (Int × Int), pairsOf (ps.map encPr) = some ps
 | [] => rfl
 | p :: l => by rw [List.map_cons, pairsOf, pairsOf_enc l]; rfl
theorem pairsOf_some : ∀ {xs : List PV} {ps : List (Int × Int)}, pairsOf xs = some ps -> xs = ps.map encPr
 | [], ps, h => by injection h with h; subst h; rfl
 | x :: l, ps, h => by
   rw [pairsOf] at h
   obtain ⟨p, hp, h⟩ := bind_some h
   obtain ⟨q, hq, h⟩ := bind_some h
   injection h with h
   subst h
   rw [List.map_cons, <- pairsOf_some hq]
   congr 1
   unfold pairOf at hp
   split at hp
   · injection hp with hp; subst hp; rfl
   · cases hp
def wf2B (p : Int × Int) : Bool := (Lit.int .i64 p.1).wf && (Lit.int .i64 p.2).wf
def numT : FuncId -> List AV -> List (List CV) -> R := fun f args bs =>
 bif f == 145 then match args, bs with
   | [.s (.c (.p (.row 2 0 xs)))], [] => (pairsOf xs).bind fun ps => bif decide (ps.length <= 1000000) && ps.all wf2B then some ([.agg [.own 3 0 ((clsL ps).map (PV.int .i64))]], []) else none
   | _, _ => none
 else none
theorem numT_ok : ∀ f args bs r, numT f args bs = some r -> Contract Tryz.prog f args bs r := by
 intro f args bs r h
 unfold numT at h
 obtain ⟨hf, h⟩ := bif_some h
 have hf : f = 145 := by simpa using hf
 subst hf
 split at h
 · rename_i xs
   obtain ⟨ps, hp, h⟩ := bind_some h
   obtain ⟨hc, h⟩ := bif_some h
   injection h with h
   subst h
   rw [pairsOf_some hp]
   rw [Bool.and_eq_true, List.all_eq_true] at hc
   refine numbered_ok ps (of_decide_eq_true hc.1) fun p hp => ?_
   have := hc.2 p hp
   simpa [wf2B, wf2] using this
 · cases h
theorem numT_at (ps : List (Int × Int)) (h1 : ps.length <= 1000000) (h2 : ps.all wf2B = true) : numT 145 [.s (.c (.p (.row 2 0 (ps.map encPr))))] [] = some ([.agg [.own 3 0 ((clsL ps).map (PV.int .i64))]], []) := by
 have e : (decide (ps.length <= 1000000) && ps.all wf2B) = true := by rw [decide_eq_true h1, h2]; rfl
 show ((pairsOf (ps.map encPr)).bind fun ps => bif decide (ps.length <= 1000000) && ps.all wf2B then some ([SV.agg [.own 3 0 ((clsL ps).map (PV.int .i64))]], []) else none) = _
 rw [pairsOf_enc]
 show (bif decide (ps.length <= 1000000) && ps.all wf2B then some ([SV.agg [.own 3 0 ((clsL ps).map (PV.int .i64))]], []) else none) = _
 rw [e]
 rfl
end Go.Proofs.YthoecdnmokcfbaaGreat
/- Classes numbered by their first members. -/
set_option linter.unusedVariables false
set_option linter.unusedSimpArgs false
set_option linter.unusedSectionVars false
namespace Go.Proofs.YthoecdnmokcfbaaGreat
open Go.Dp
section
variable {α β : Type} [BEq α] [LawfulBEq α] [BEq β] [LawfulBEq β]
def cls : List α -> List α -> List Int
 | [], _ => []
 | p :: l, kn => bif kn.contains p then (kn.idxOf p : Int) :: cls l kn else (kn.length : Int) :: cls l (kn ++ [p])
def dis : List α -> List α -> List α
 | [], kn => kn
 | p :: l, kn => bif kn.contains p then dis l kn else dis l (kn ++ [p])
theorem cls_len : ∀ (l kn : List α), (cls l kn).length = l.length
 | [], kn => rfl
 | p :: l, kn => by
   rw [cls]
   cases kn.contains p
   · simp [cls_len l]
   · simp [cls_len l]
def Bij (zs : List (α × β)) : Prop := ∀ x ∈ zs, ∀ y ∈ zs, x.1 = y.1 ↔ x.2 = y.2
theorem idx_bij (z : α × β) : ∀ (kn : List (α × β)), (∀ x ∈ kn, x.1 = z.1 ↔ x.2 = z.2) -> (kn.map (·.1)).idxOf z.1 = (kn.map (·.2)).idxOf z.2 /\ (kn.map (·.1)).contains z.1 = (kn.map (·.2)).contains z.2
 | [], _ => ⟨rfl, rfl⟩
 | x :: kn, h => by
   obtain ⟨h1, h2⟩ := idx_bij z kn (fun y hy => h y (by simp [hy]))
   have hx := h x (by simp)
   simp only [List.map_cons, List.idxOf_cons, List.contains_cons, h2]
   by_cases e : x.1 = z.1
   · have e2 := hx.1 e
     have a1 : (x.1 == z.1) = true := by simpa using e
     have a2 : (x.2 == z.2) = true := by simpa using e2
     have a3 : (z.1 == x.1) = true := by simpa using e.symm
     have a4 : (z.2 == x.2) = true := by simpa using e2.symm
     rw [a1, a2, a3, a4]
     exact ⟨rfl, rfl⟩
   · have e2 : ¬ x.2 = z.2 := fun h => e (hx.2 h)
     have a1 : (x.1 == z.1) = false := by simpa using e
     have a2 : (x.2 == z.2) = false := by simpa using e2
     have a3 : (z.1 == x.1) = false := by simpa using fun h : z.1 = x.1 => e h.symm
     have a4 : (z.2 == x.2) = false := by simpa using fun h : z.2 = x.2 => e2 h.symm
     rw [a1, a2, a3, a4, h1]
     exact ⟨rfl, rfl⟩
theorem cls_bij : ∀ (l kn : List (α × β)), Bij (kn ++ l) -> cls (l.map (·.1)) (kn.map (·.1)) = cls (l.map (·.2)) (kn.map (·.2))
 | [], kn, h => rfl
 | z :: l, kn, h => by
   obtain ⟨h1, h2⟩ := idx_bij z kn (fun x hx => h x (by simp [hx]) z (by simp))
   simp only [List.map_cons, cls, h1, h2, List.length_map]
   have hsub : Bij (kn ++ l) := fun x hx y hy => h x (by rcases List.mem_append.1 hx with h | h <;> simp [h]) y (by rcases List.mem_append.1 hy with h | h <;> simp [h])
   have hsub2 : Bij ((kn ++ [z]) ++ l) := fun x hx y hy => h x (by simpa using hx) y (by simpa using hy)
   have e1 := cls_bij l kn hsub
   have e2 := cls_bij l (kn ++ [z]) hsub2
   simp only [List.map_append, List.map_cons, List.map_nil] at e2
   rw [e1, e2]
theorem cls_eq {zs : List (α × β)} (h : Bij zs) : cls (zs.map (·.1)) [] = cls (zs.map (·.2)) [] := by
 have := cls_bij zs [] (by simpa using h)
 simpa using this
theorem dis_sub : ∀ (l kn : List α) (x : α), x ∈ dis l kn ↔ x ∈ kn ∨ x ∈ l
 | [], kn, x => by simp [dis]
 | p :: l, kn, x => by
   rw [dis]
   cases hc : kn.contains p
   · rw [cond_false, dis_sub l, List.mem_append, List.mem_singleton, List.mem_cons]
     constructor
     · rintro ((h | h) | h)
       · exact .inl h
       · exact .inr (.inl h)
       · exact .inr (.inr h)
     · rintro (h | h | h)
       · exact .inl (.inl h)
       · exact .inl (.inr h)
       · exact .inr h
   · have hp : p ∈ kn := by simpa using hc
     rw [cond_true, dis_sub l, List.mem_cons]
     constructor
     · rintro (h | h)
       · exact .inl h
       · exact .inr (.inr h)
     · rintro (h | h | h)
       · exact .inl h
       · exact .inl (h ▸ hp)
       · exact .inr h
theorem dis_nodup : ∀ (l kn : List α), kn.Nodup -> (dis l kn).Nodup
 | [], kn, h => h
 | p :: l, kn, h => by
   rw [dis]
   cases hc : kn.contains p
   · have hp : p ∉ kn := by simpa using hc
     refine dis_nodup l _ ?_
     rw [List.nodup_append]
     exact ⟨h, by simp, fun a ha b hb => by rw [List.mem_singleton.1 hb]; rintro rfl; exact hp ha⟩
   · exact dis_nodup l kn h
theorem dis_pre : ∀ (l kn : List α), ∃ t, dis l kn = kn ++ t
 | [], kn => ⟨[], by simp [dis]⟩
 | p :: l, kn => by
   rw [dis]
   cases kn.contains p
   · obtain ⟨t, h⟩ := dis_pre l (kn ++ [p])
     exact ⟨p :: t, by simp only [cond_false]; rw [h]; simp⟩
   · exact dis_pre l kn
theorem idx_app {kn t : List α} {p : α} (h : p ∈ kn) : (kn ++ t).idxOf p = kn.idxOf p := by
 rw [List.idxOf_append, if_pos h]
theorem cls_map : ∀ (l kn : List α), kn.Nodup -> cls l kn = l.map fun p => ((dis l kn).idxOf p : Int)
 | [], kn, h => rfl
 | p :: l, kn, h => by
   rw [cls, dis, List.map_cons]
   cases hc : kn.contains p
   · have hp : p ∉ kn := by simpa using hc
     have hn : (kn ++ [p]).Nodup := by
       rw [List.nodup_append]
       exact ⟨h, by simp, fun a ha b hb => by rw [List.mem_singleton.1 hb]; rintro rfl; exact hp ha⟩
     obtain ⟨t, ht⟩ := dis_pre l (kn ++ [p])
     simp only [cond_false]
     rw [cls_map l _ hn, ht, idx_app (by simp), List.idxOf_append, if_neg hp]
     simp
   · have hp : p ∈ kn := by simpa using hc
     obtain ⟨t, ht⟩ := dis_pre l kn
     simp only [cond_true]
     rw [cls_map l _ h, ht, idx_app hp]
theorem idx_inj {K : List α} {p q : α} (hp : p ∈ K) (hq : q ∈ K) (h : K.idxOf p = K.idxOf q) : p = q := by
 have h1 := List.idxOf_lt_length_of_mem hp
 have h2 := List.idxOf_lt_length_of_mem hq
 have e1 := List.getElem_idxOf h1
 have e2 := List.getElem_idxOf h2
 rw [<- e1, <- e2]
 congr 1
end
def goodF : List Int -> Int -> Bool
 | [], _ => true
 | x :: l, m => decide (0 <= x) && (decide (x <= m) && goodF l (bif x == m then m + 1 else m))
def manyF : List Int -> Int -> Int
 | [], m => m
 | x :: l, m => manyF l (bif x == m then m + 1 else m)
def iota (m : Nat) : List Int := (List.range m).map fun (i : Nat) => (i : Int)
theorem iota_mem (m : Nat) (x : Int) : x ∈ iota m ↔ 0 <= x /\ x < m := by
 unfold iota
 rw [List.mem_map]
 constructor
 · rintro ⟨i, hi, rfl⟩
   rw [List.mem_range] at hi
   omega
 · rintro ⟨h1, h2⟩
   exact ⟨x.toNat, by rw [List.mem_range]; omega, by omega⟩
theorem iota_succ (m : Nat) : iota m ++ [(m : Int)] = iota (m + 1) := by simp [iota, List.range_succ]
theorem iota_len (m : Nat) : (iota m).length = m := by simp [iota]
theorem iota_get (m i : Nat) (h : i < (iota m).length) : (iota m)[i] = (i : Int) := by
 simp [iota]
theorem iota_idx (m : Nat) {x : Int} (h : x ∈ iota m) : ((iota m).idxOf x : Int) = x := by
 have h1 := List.idxOf_lt_length_of_mem h
 have e := List.getElem_idxOf h1
 rw [iota_get] at e
 exact e
theorem cls_good : ∀ (l : List Int) (m : Nat), goodF l m = true -> cls l (iota m) = l /\ ((dis l (iota m)).length : Int) = manyF l m
 | [], m, h => ⟨rfl, by simp [dis, manyF, iota_len]⟩
 | x :: l, m, h => by
   simp only [goodF, Bool.and_eq_true, decide_eq_true_eq] at h
   obtain ⟨h1, h2, h3⟩ := h
   rw [cls, dis, manyF]
   by_cases e : x = (m : Int)
   · subst e
     have hn : (iota m).contains (m : Int) = false := by
       rw [<- Bool.not_eq_true, List.contains_iff_mem, iota_mem]
       omega
     have he : (((m : Int)) == (m : Int)) = true := beq_self_eq_true _
     rw [he] at h3 ⊢
     simp only [cond_true] at h3 ⊢
     have h3' : goodF l ((m + 1 : Nat) : Int) = true := by simpa using h3
     obtain ⟨q1, q2⟩ := cls_good l (m + 1) h3'
     rw [hn]
     simp only [cond_false]
     rw [iota_succ, q1, iota_len]
     exact ⟨rfl, by rw [q2]; simp⟩
   · have hm : x ∈ iota m := (iota_mem m x).2 ⟨h1, by omega⟩
     have hc : (iota m).contains x = true := by simpa using hm
     have he : (x == (m : Int)) = false := by simpa using e
     rw [he] at h3 ⊢
     simp only [cond_false] at h3 ⊢
     obtain ⟨q1, q2⟩ := cls_good l m h3
     rw [hc]
     simp only [cond_true]
     rw [q1, iota_idx m hm]
     exact ⟨rfl, q2⟩
section
variable {α : Type} [BEq α] [LawfulBEq α]
theorem good_cls : ∀ (l kn : List α), goodF (cls l kn) kn.length = true /\ manyF (cls l kn) kn.length = ((dis l kn).length : Int)
 | [], kn => ⟨rfl, rfl⟩
 | p :: l, kn => by
   rw [cls, dis]
   cases hc : kn.contains p
   · obtain ⟨q1, q2⟩ := good_cls l (kn ++ [p])
     simp only [cond_false, goodF, manyF, beq_self_eq_true, cond_true]
     have e : ((kn ++ [p]).length : Int) = (kn.length : Int) + 1 := by simp
     rw [e] at q1 q2
     rw [q1, q2, decide_eq_true (by omega), decide_eq_true (by omega)]
     simp
   · have hp : p ∈ kn := by simpa using hc
     have hlt := List.idxOf_lt_length_of_mem hp
     obtain ⟨q1, q2⟩ := good_cls l kn
     have he : (((kn.idxOf p : Nat) : Int) == (kn.length : Int)) = false := by
       have : ((kn.idxOf p : Nat) : Int) ≠ (kn.length : Int) := by omega
       simpa using this
     simp only [cond_true, goodF, manyF, he, cond_false, q1, q2]
     rw [decide_eq_true (by omega), decide_eq_true (by omega)]
     simp
theorem nodup_sub : ∀ {a b : List α}, a.Nodup -> (∀ x ∈ a, x ∈ b) -> a.length <= b.length
 | [], b, _, _ => by simp
 | x :: a, b, hn, h => by
   rw [List.nodup_cons] at hn
   have hx := h x (by simp)
   have := nodup_sub (b := b.erase x) hn.2 (fun y hy => by
     have hne : y ≠ x := by rintro rfl; exact hn.1 hy
     exact (List.mem_erase_of_ne hne).2 (h y (by simp [hy])))
   rw [List.length_erase_of_mem hx] at this
   have hpos : 0 < b.length := List.length_pos_of_mem hx
   simp only [List.length_cons]
   omega
end
theorem cls_self {v : List Int} (h : goodF v 0 = true) : cls v [] = v /\ ((dis v []).length : Int) = manyF v 0 := cls_good v 0 h
theorem clsF_cls : ∀ (l kn : List (Int × Int)), clsF l kn = cls l kn
 | [], kn => rfl
 | p :: l, kn => by
   rw [clsF, cls]
   by_cases h : p ∈ kn
   · have hc : kn.contains p = true := by simpa using h
     rw [if_pos h, hc, clsF_cls l kn]
     rfl
   · have hc : kn.contains p = false := by
       rw [<- Bool.not_eq_true, List.contains_iff_mem]
       exact h
     rw [if_neg h, hc, clsF_cls l (kn ++ [p])]
     rfl
theorem clsL_cls (ps : List (Int × Int)) : clsL ps = cls ps [] := clsF_cls ps []
theorem good_lt : ∀ (l : List Int) (m : Nat), goodF l m = true -> ∀ x ∈ l, 0 <= x /\ x < manyF l m
 | [], m, h, x, hx => by simp at hx
 | y :: l, m, h, x, hx => by
   have hmono : ∀ (l : List Int) (m : Int), m <= manyF l m := by
     intro l
     induction l with
     | nil => intro m; exact Int.le_refl m
     | cons z l ih =>
       intro m
       rw [manyF]
       have := ih (bif z == m then m + 1 else m)
       refine Int.le_trans ?_ this
       cases (z == m)
       · exact Int.le_refl m
       · exact Int.le_of_lt (Int.lt_succ m)
   simp only [goodF, Bool.and_eq_true, decide_eq_true_eq] at h
   obtain ⟨h1, h2, h3⟩ := h
   rw [manyF]
   by_cases e : y = (m : Int)
   · have he : (y == (m : Int)) = true := by simpa using e
     rw [he] at h3 ⊢
     simp only [cond_true] at h3 ⊢
     have h3' : goodF l ((m + 1 : Nat) : Int) = true := by simpa using h3
     rcases List.mem_cons.1 hx with rfl | hx
     · have := hmono l ((m : Int) + 1)
       omega
     · have := good_lt l (m + 1) h3' x hx
       simpa using this
   · have he : (y == (m : Int)) = false := by simpa using e
     rw [he] at h3 ⊢
     simp only [cond_false] at h3 ⊢
     rcases List.mem_cons.1 hx with rfl | hx
     · have := hmono l (m : Int)
       omega
     · exact good_lt l m h3 x hx
section
variable {α β γ : Type} [BEq β] [LawfulBEq β] [BEq γ] [LawfulBEq γ]
theorem cls_rep (z : List α) (f : α -> β) : ∃ g : α -> Int, cls (z.map f) [] = z.map g /\ ∀ q ∈ z, ∀ r ∈ z, g q = g r ↔ f q = f r := by
 refine ⟨fun q => ((dis (z.map f) []).idxOf (f q) : Int), ?_, ?_⟩
 · rw [cls_map _ _ (by simp), List.map_map]
   rfl
 · intro q hq r hr
   constructor
   · intro h
     have h' : (dis (z.map f) []).idxOf (f q) = (dis (z.map f) []).idxOf (f r) := by
       have h2 : (((dis (z.map f) []).idxOf (f q) : Nat) : Int) = (((dis (z.map f) []).idxOf (f r) : Nat) : Int) := h
       omega
     exact idx_inj ((dis_sub _ [] _).2 (.inr (List.mem_map_of_mem hq))) ((dis_sub _ [] _).2 (.inr (List.mem_map_of_mem hr))) h'
   · intro h
     simp only [h]
end
end Go.Proofs.YthoecdnmokcfbaaGreat
/-
  DERIVED: THE SHELF's CONTRACTS AT THIS DUMP, IN PLAIN WORDS (tools/lay-plain.mjs out of 'YthoecdnmokcfbaaGreatSrt0.lean', which tools/lay-shelf.mjs wrote): THE SAME DECLARATIONS UNDER THE SAME NAMES: 'import', 'namespace', 'open', 'def', 'theorem' AND NOTHING ELSE: no command of the shelf's: FOR A HAND-IN. Each laying: the table of numbers ('.._ren') and one theorem, a field a fact of the dump's own or the kernel's comparison; each contract: ONE APPLICATION.
-/
namespace Go.Proofs
open Go.Shelf
def YthoecdnmokcfbaaGreat.lays189_ren : Go.Shelf.Ren := ⟨fun | 189 => 128 | 125 => 181 | 257 => 180 | 128 => 211 | 129 => 212 | 294 => 202 | 295 => 203 | 296 => 204 | 297 => 205 | 298 => 206 | 299 => 207 | 216 => 208 | 300 => 209 | 301 => 210 | 328 => 225 | 329 => 226 | 330 => 227 | 331 => 228 | 332 => 229 | 215 => 230 | 343 => 236 | n => n, fun | 28 => 28 | 3 => 3 | 46 => 166 | 0 => 0 | 51 => 191 | 53 => 64 | 4 => 4 | 183 => 185 | 182 => 184 | 131 => 58 | 5 => 5 | 9 => 9 | 218 => 202 | 222 => 206 | 228 => 214 | 229 => 215 | n => n, fun | n => n⟩
theorem YthoecdnmokcfbaaGreat.lays189 : Go.Proofs.Lays.n189 Tryz.prog YthoecdnmokcfbaaGreat.lays189_ren := {
 mixed := by kernel_rfl
 f125 := Tryz.func181.trans (congrArg some (by kernel_rfl))
 f128 := Tryz.func211.trans (congrArg some (by kernel_rfl))
 f129 := Tryz.func212.trans (congrArg some (by kernel_rfl))
 f189 := Tryz.func128.trans (congrArg some (by kernel_rfl))
 f215 := Tryz.func230.trans (congrArg some (by kernel_rfl))
 f216 := Tryz.func208.trans (congrArg some (by kernel_rfl))
 f257 := Tryz.func180.trans (congrArg some (by kernel_rfl))
 f294 := Tryz.func202.trans (congrArg some (by kernel_rfl))
 f295 := Tryz.func203.trans (congrArg some (by kernel_rfl))
 f296 := Tryz.func204.trans (congrArg some (by kernel_rfl))
 f297 := Tryz.func205.trans (congrArg some (by kernel_rfl))
 f298 := Tryz.func206.trans (congrArg some (by kernel_rfl))
 f299 := Tryz.func207.trans (congrArg some (by kernel_rfl))
 f300 := Tryz.func209.trans (congrArg some (by kernel_rfl))
 f301 := Tryz.func210.trans (congrArg some (by kernel_rfl))
 f328 := Tryz.func225.trans (congrArg some (by kernel_rfl))
 f329 := Tryz.func226.trans (congrArg some (by kernel_rfl))
 f330 := Tryz.func227.trans (congrArg some (by kernel_rfl))
 f331 := Tryz.func228.trans (congrArg some (by kernel_rfl))
 f332 := Tryz.func229.trans (congrArg some (by kernel_rfl))
 f343 := Tryz.func236.trans (congrArg some (by kernel_rfl))
 t0 := Tryz.underlying0
 a0 := Tryz.isAgg0
 z0 := Tryz.sizeOf0
 v0 := Tryz.zeroValue0
 t3 := Tryz.underlying3
 a3 := Tryz.isAgg3
 z3 := Tryz.sizeOf3
 v3 := Tryz.zeroValue3
 t4 := Tryz.underlying4
 a4 := Tryz.isAgg4
 z4 := Tryz.sizeOf4
 v4 := Tryz.zeroValue4
 t5 := Tryz.underlying5
 a5 := Tryz.isAgg5
 z5 := Tryz.sizeOf5
 v5 := Tryz.zeroValue5
 t9 := Tryz.underlying9
 a9 := Tryz.isAgg9
 z9 := Tryz.sizeOf9
 v9 := Tryz.zeroValue9
 t28 := Tryz.underlying28
 a28 := Tryz.isAgg28
 z28 := Tryz.sizeOf28
 v28 := Tryz.zeroValue28
 t46 := Tryz.underlying166
 a46 := Tryz.isAgg166
 z46 := Tryz.sizeOf166
 v46 := Tryz.zeroValue166
 t51 := Tryz.underlying191
 a51 := Tryz.isAgg191
 z51 := Tryz.sizeOf191
 v51 := Tryz.zeroValue191
 t53 := Tryz.underlying64
 a53 := Tryz.isAgg64
 z53 := Tryz.sizeOf64
 v53 := Tryz.zeroValue64
 t131 := Tryz.underlying58
 a131 := Tryz.isAgg58
 z131 := Tryz.sizeOf58
 v131 := Tryz.zeroValue58
 t182 := Tryz.underlying184
 a182 := Tryz.isAgg184
 z182 := Tryz.sizeOf184
 v182 := Tryz.zeroValue184
 t183 := Tryz.underlying185
 a183 := Tryz.isAgg185
 z183 := Tryz.sizeOf185
 v183 := Tryz.zeroValue185
 t218 := Tryz.underlying202
 a218 := Tryz.isAgg202
 z218 := Tryz.sizeOf202
 v218 := Tryz.zeroValue202
 t222 := Tryz.underlying206
 a222 := Tryz.isAgg206
 z222 := Tryz.sizeOf206
 v222 := Tryz.zeroValue206
 t228 := Tryz.underlying214
 a228 := Tryz.isAgg214
 z228 := Tryz.sizeOf214
 v228 := Tryz.zeroValue214
 t229 := Tryz.underlying215
 a229 := Tryz.isAgg215
 z229 := Tryz.sizeOf215
 v229 := Tryz.zeroValue215 }
def YthoecdnmokcfbaaGreat.lays20_ren : Go.Shelf.Ren := ⟨fun | 20 => 129 | n => n, fun | 22 => 28 | 3 => 3 | 4 => 4 | 0 => 0 | n => n, fun | n => n⟩
theorem YthoecdnmokcfbaaGreat.lays20 : Go.Proofs.Lays2.n20 Tryz.prog YthoecdnmokcfbaaGreat.lays20_ren := {
 mixed := by kernel_rfl
 f20 := Tryz.func129.trans (congrArg some (by kernel_rfl))
 t0 := Tryz.underlying0
 a0 := Tryz.isAgg0
 z0 := Tryz.sizeOf0
 v0 := Tryz.zeroValue0
 t3 := Tryz.underlying3
 a3 := Tryz.isAgg3
 z3 := Tryz.sizeOf3
 v3 := Tryz.zeroValue3
 t4 := Tryz.underlying4
 a4 := Tryz.isAgg4
 z4 := Tryz.sizeOf4
 v4 := Tryz.zeroValue4
 t22 := Tryz.underlying28
 a22 := Tryz.isAgg28
 z22 := Tryz.sizeOf28
 v22 := Tryz.zeroValue28
 i3 := by kernel_rfl }
end Go.Proofs
/- The library's sort and its compacting, at rows of integers of one's own: the shelf's contracts, at this program. -/
set_option linter.unusedVariables false
namespace Go.Proofs.YthoecdnmokcfbaaGreat
open Go.Dp Go.Sort Go.RowKit
theorem putCells_at (cur : Array Value) (bo : Nat) (ts : List Int) (h : ts = [] ∨ bo + ts.length <= cur.size) : (putCells (Value.int .i64) bo ts.toArray cur).toList = cur.toList.take bo ++ (ts.map (Value.int .i64) ++ cur.toList.drop (bo + ts.length)) := by
 rcases h with rfl | h
 · rw [show (putCells (Value.int .i64) bo ([] : List Int).toArray cur) = cur from by
     apply Array.ext_getElem?
     intro j
     by_cases hj : j < cur.size <;> simp [putCells, hj] <;> omega]
   simp
 apply List.ext_getElem?
 intro j
 rw [Array.getElem?_toList]
 by_cases hj : j < bo
 · rw [List.getElem?_append_left (by (simp; try omega)), List.getElem?_take_of_lt hj]
   simp [putCells, show ¬ (bo <= j) by omega, show j < cur.size by omega]
 · have hlt : cur.toList.length = cur.size := Array.length_toList
   rw [List.getElem?_append_right (by rw [List.length_take]; omega), List.length_take, hlt, Nat.min_eq_left (by omega)]
   by_cases hj2 : j < bo + ts.length
   · rw [List.getElem?_append_left (by (simp; try omega))]
     simp [putCells, hj2, show bo <= j by omega, show j < cur.size by omega, show j - bo < ts.length by omega]
   · rw [List.getElem?_append_right (by (simp; try omega)), List.length_map, List.getElem?_drop]
     have ej : bo + ts.length + (j - bo - ts.length) = j := by omega
     rw [ej]
     by_cases hc : j < cur.size
     · simp [putCells, hj2, hc]
     · rw [Array.getElem?_eq_none (by (simp [putCells]; try omega)), List.getElem?_eq_none (by (simp; try omega))]
theorem holds_at {w : World} {g bo : Nat} {cur : Array Value} {e : TypeId} {ss : List Int} (hb : w.heap[g]? = some (.cells cur e (0, 0))) (ht : (cur.toList.drop bo).take ss.length = ss.map (Value.int .i64)) : Holds (Value.int .i64) w g bo ss.toArray := by
 intro j hj
 have hj' : j < ss.length := by simpa using hj
 refine ⟨?_, by simp [World.frozen?, hb]⟩
 have h1 : ((cur.toList.drop bo).take ss.length)[j]? = (ss.map (Value.int .i64))[j]? := by rw [ht]
 rw [List.getElem?_take_of_lt hj', List.getElem?_drop] at h1
 simp only [World.cell?, hb]
 simp only [Option.isSome_none, Bool.false_eq_true, if_false]
 rw [<- Array.getElem?_toList, h1]
 simp [hj']
theorem put_wd {w : World} {b bo n : Nat} {os : Array Obj} {cu : Array Value} {e : TypeId} {d : List Int} (hb : w.heap[b]? = some (.cells cu e (0, 0))) (hd : d = [] ∨ bo + d.length <= cu.size) :
   Wd w (grow (putRow (Value.int .i64) (Sort.ahead w n) b bo d.toArray) os) /\ (∀ k, k < w.heap.size -> k ≠ b -> (grow (putRow (Value.int .i64) (Sort.ahead w n) b bo d.toArray) os).heap[k]? = w.heap[k]?) /\
     ∃ cu', (grow (putRow (Value.int .i64) (Sort.ahead w n) b bo d.toArray) os).heap[b]? = some (.cells cu' e (0, 0)) /\ cu'.size = cu.size /\ cu'.toList = cu.toList.take bo ++ (d.map (Value.int .i64) ++ cu.toList.drop (bo + d.length)) := by
 have hg : b < w.heap.size := (Array.getElem?_eq_some_iff.1 hb).1
 refine ⟨⟨rfl, rfl, rfl, by simp⟩, fun k hk hne => ?_, putCells (Value.int .i64) bo d.toArray cu, ?_, by simp [putCells], putCells_at cu bo d hd⟩
 · rw [heap_grow_old _ _ (by simpa using hk)]
   simp [putRow, mapBlock, Sort.ahead, Array.getElem?_modify, Ne.symm hne]
 · rw [heap_grow_old _ _ (by simpa using hg)]
   simp [putRow, mapBlock, Sort.ahead, Array.getElem?_modify, hb, onCells]
theorem size_at {cu : Array Value} {bo : Nat} {zs : List Int} (h : (cu.toList.drop bo).take zs.length = zs.map (Value.int .i64)) : zs = [] ∨ bo + zs.length <= cu.size := by
 cases hz : zs with
 | nil => exact .inl rfl
 | cons z t =>
   right
   have := congrArg List.length h
   simp [hz] at this
   simp
   omega
theorem sort_ok : SortOK Tryz.prog 1 128 where
 enters := ⟨Tryz.f128, Tryz.func128, by kernel_rfl, by decide⟩
 empty w p cap := Any.slices_Sort_int_none YthoecdnmokcfbaaGreat.lays189 p cap w
 row w b bo cap zs cu e hb ht hc hl := by
   have hH : Holds (Value.int .i64) w b bo zs.toArray := holds_at hb ht
   have hlt := (Array.getElem?_eq_some_iff.1 hb).1
   refine Calls.mono (Any.slices_Sort_int YthoecdnmokcfbaaGreat.lays189 b bo cap zs w hH hlt (by unfold LIM at hl; omega)) ?_
   rintro e' w' ⟨rfl, n, os, rfl⟩
   have hsz := size_at ht
   have hl2 : (zs.mergeSort fun x y => decide (x <= y)).length = zs.length := List.length_mergeSort zs
   have := put_wd (n := n) (os := os) (d := zs.mergeSort fun x y => decide (x <= y)) hb (hsz.imp (fun h => List.eq_nil_of_length_eq_zero (by rw [hl2, h]; rfl)) (fun h => by rw [hl2]; exact h))
   rw [hl2] at this
   exact ⟨rfl, this⟩
theorem comp_ok : SortOK Tryz.prog 2 129 where
 enters := ⟨Tryz.f129, Tryz.func129, by kernel_rfl, by decide⟩
 empty w p cap := Any.slices_Compact_int_empty YthoecdnmokcfbaaGreat.lays20 p cap w
 row w b bo cap zs cu e hb ht hc hl := by
   have hH : Holds (Value.int .i64) w b bo zs.toArray := holds_at hb ht
   refine Calls.mono (Any.slices_Compact_int YthoecdnmokcfbaaGreat.lays20 b bo cap zs w hH (by unfold LIM at hl; omega) hc) ?_
   rintro e' w' ⟨rfl, n, rfl⟩
   have hsz := size_at ht
   have hcl := compI_le zs
   have hl2 : (Lib.compact zs ++ List.replicate (zs.length - (Lib.compact zs).length) 0).length = zs.length := by
     have : (Lib.compact zs).length <= zs.length := hcl
     simp
     omega
   have := put_wd (n := n) (os := #[]) (d := Lib.compact zs ++ List.replicate (zs.length - (Lib.compact zs).length) 0) hb (hsz.imp (fun h => List.eq_nil_of_length_eq_zero (by rw [hl2, h]; rfl)) (fun h => by rw [hl2]; exact h))
   rw [hl2, grow_empty] at this
   exact ⟨rfl, this⟩
end Go.Proofs.YthoecdnmokcfbaaGreat
/- What the evaluator is told of the program's types, loops and functions: printed by nf.py. -/
namespace Go.Proofs.YthoecdnmokcfbaaGreat
open Go.Dp
def tabs : Tabs where
 sl := [(22, (5, 0, 1)), (24, (96, 2, 16)), (25, (114, 2, 48)), (28, (3, 0, 8)), (35, (28, 0, 24)), (86, (64, 0, 8)),
 (98, (24, 0, 24)), (112, (116, 2, 32)), (125, (4, 0, 1)), (146, (147, 2, 16))]
 sh := [(2, 0), (3, 0), (4, 0), (5, 0), (9, 0), (22, 0), (24, 0), (25, 0), (27, 4), (28, 0), (30, 1), (35, 0), (63, 0), (64, 0), (66, 3), (71, 0), (86, 0), (90, 0), (96, 2), (98, 0),
 (112, 0), (114, 2), (116, 2), (125, 0), (146, 0), (147, 2), (166, 0), (173, 0), (191, 0)]
 fl := [(27, [some (0, 0), some (1, 0), some (2, 0), some (3, 0)]), (30, [some (0, 0)]), (66, [some (0, 0), some (1, 0), some (2, 0)]), (96, [some (0, 0), some (1, 0)]), (114, [some (0, 0), some (1, 0)]), (116, [some (0, 0), some (1, 0)])]
 ik := [(2, .i64), (3, .i64), (5, .u8), (64, .u64), (166, .u64), (191, .u32)]
 zr := [(2, [.int .i64 0]), (3, [.int .i64 0]), (4, [.bool false]), (5, [.int .u8 0]), (9, [.str ⟨#[]⟩]), (22, [.row 0 2 []]),
 (24, [.row 0 2 []]), (25, [.row 0 2 []]), (27, [.int .i64 0, .int .i64 0, .row 0 2 [], .row 0 2 []]), (28, [.row 0 2 []]), (30, [.row 0 2 []]), (35, [.row 0 2 []]),
 (64, [.int .u64 0]), (66, [.row 0 2 [], .int .i64 0, .int .u64 0]), (86, [.row 0 2 []]), (96, [.int .i64 0, .int .u64 0]), (98, [.row 0 2 []]), (112, [.row 0 2 []]),
 (114, [.row 0 2 [], .row 0 2 []]), (116, [.int .i64 0, .row 0 2 []]), (125, [.row 0 2 []]), (146, [.row 0 2 []]), (147, [.int .i64 0, .int .i64 0]), (166, [.int .u64 0]),
 (191, [.int .u32 0])]
 eqs := [(96, [0, 0])]
 bl := [(4, ())]
 st := [(9, ())]
 flat := [(2, ()), (3, ()), (4, ()), (5, ()), (9, ()), (64, ()), (96, ()), (147, ()), (166, ()), (191, ())]
 ar := [(147, 2)]
def tLive : List (Nat × List (Nat × List Nat)) := [(16, [(0, [0, 1, 12, 13])]), (19, [(0, [1, 7, 8, 9])]), (32, [(0, [1, 7, 8, 9])]),
 (44, [(0, [0, 2, 3, 4])]), (51, [(0, [5, 20, 21, 22])]), (54, [(0, [2, 3, 5, 9, 10])]),
 (55, [(0, [2, 3, 5, 6])]), (56, [(0, [2, 5, 11, 12, 13])]), (57, [(0, [1, 2, 5, 9, 10])]),
 (58, [(0, [2, 5, 8, 9, 10])]), (59, [(0, [1, 2, 5, 6])]), (66, [(0, [1, 2, 5, 6, 14, 15, 16])]),
 (68, [(0, [1, 2, 5, 9, 10])]), (75, [(0, [1, 7, 8, 9])]), (76, [(0, [1, 5, 9, 10, 11])]),
 (77, [(0, [0, 1, 7, 33, 34, 35])]), (81, [(0, [1, 2, 4, 6, 25, 26]), (2, [1, 2, 4, 6, 7, 8, 25, 26, 32, 33, 34])]), (82, [(0, [3, 4, 5, 10, 11, 12])]),
 (85, [(0, [3, 4, 7, 17, 18, 19])]), (87, [(0, [2, 3, 4, 7, 16, 17, 18]), (2, [2, 3, 4, 7, 9, 10, 16, 17, 18, 24, 25, 26])]), (88, [(0, [3, 4, 7, 13, 14, 15])]),
 (101, [(0, [1, 5, 10, 11, 12])]), (104, [(0, [0, 1, 2, 6, 7, 8])]), (106, [(0, [0, 4, 7, 8])]),
 (108, [(0, [0, 1, 7, 8])]), (111, [(0, [1, 2, 5, 6, 14, 15, 16])]), (113, [(0, [1, 2, 5, 9, 10, 11])]),
 (117, [(0, [3, 7, 8, 9])]), (118, [(0, [3, 7, 8, 9])]), (119, [(0, [0, 1, 5])]),
 (121, [(0, [1, 2, 5, 6])]), (122, [(0, [5, 11, 12, 13])]), (123, [(0, [5, 10, 11, 12])]),
 (124, [(0, [0, 1, 7, 8])]), (125, [(0, [0, 1, 7, 8])]), (126, [(0, [2, 5, 8, 9, 10])]),
 (127, [(0, [2, 3, 7, 13, 14, 15])]), (130, [(0, [0, 2, 7, 12, 13, 14])]), (133, [(0, [1, 3, 7, 8])]),
 (137, [(0, [0, 1, 7, 27, 28, 29]), (2, [0, 1, 7, 10, 11, 12, 27, 28, 29])]), (138, [(0, [1, 7, 8, 9])]), (145, [(0, [2, 3, 4, 11, 12, 13])]),
 (146, [(0, [0, 1, 5, 6])]), (148, [(0, [1, 5, 9, 10, 11])]), (149, [(0, [2, 5, 10, 11, 12]), (2, [2, 5, 10, 11, 12, 18, 19, 20])]),
 (164, [(0, [0, 1, 2, 6, 7, 8])]), (165, [(0, [2, 10, 11, 12])]), (166, [(0, [2, 4, 5, 12, 13, 14])]),
 (167, [(0, [0, 1, 2, 9, 10, 11])]), (168, [(0, [1, 4, 5, 9, 10, 11])]), (171, [(0, [1, 2, 5, 9, 10, 11])]),
 (172, [(0, [1, 2, 5, 6])]), (173, [(0, [1, 3, 7, 18, 19, 20])]), (174, [(0, [1, 18, 19, 20])]),
 (175, [(0, [0, 3, 4])]), (177, [(0, [0, 5, 6, 17, 18, 19]), (2, [0, 5, 6]), (4, [0, 5, 6, 37, 38, 39])]), (178, [(0, [0, 1, 5, 17, 18]), (2, [0, 1, 5, 25, 26, 27]), (4, [0, 5, 9]), (6, [0, 5, 9, 10, 48, 49, 50])]),
 (185, [(0, [2, 3, 13, 14, 15])]), (195, [(0, [0, 2, 3, 4, 9, 10, 11]), (2, [0, 2, 3, 4, 5, 6, 7, 8, 9, 10, 11])]), (197, [(0, [2, 3, 21, 22, 23])]),
 (198, [(0, [0, 1, 5, 6])]), (200, [(0, [0, 5, 8])]), (201, [(0, [7, 8])]),
 (217, [(0, [0, 1, 7, 8])]), (219, [(0, [0, 1, 7, 8])]), (221, [(0, [0, 1, 2, 3])]),
 (232, [(0, [2, 8, 9, 10, 11, 13, 14, 15, 16]), (2, [2, 8, 9, 10, 14, 15, 16, 17, 18])])]
def tRk : List (Nat × List RK) := [(4, [.c (.p (.bool))]), (6, [.c (.p (.bool))]), (16, [.c (.p (.bool))]), (19, [.c (.p (.bool))]), (21, [.agg [.p (.int .i64), .p (.int .i64), .p (.row 2), .p (.row 2)], .agg [.p (.row 0)], .c (.p (.row 2))]), (22, [.c (.p (.bool)), .c (.p (.bool))]),
 (23, [.c (.p (.bool)), .c (.p (.bool))]), (24, [.c (.p (.row 2)), .c (.p (.bool))]), (25, [.c (.p (.bool)), .c (.p (.bool))]), (26, [.agg [.p (.row 0)], .c (.p (.bool))]), (27, [.agg [.p (.int .i64), .p (.int .i64), .p (.row 2), .p (.row 2)], .agg [.p (.row 0)], .c (.p (.int .i64))]), (28, [.c (.p (.row 0)), .c (.p (.bool))]),
 (29, [.c (.p (.row 0)), .c (.p (.bool))]), (30, [.c (.p (.row 0)), .c (.p (.bool))]), (31, [.c (.p (.row 0)), .c (.p (.bool))]), (32, [.c (.p (.bool))]), (44, [.agg [.p (.int .i64), .p (.int .i64), .p (.row 2), .p (.row 2)]]), (45, [.agg [.p (.row 0)]]),
 (48, [.c (.p (.bool))]), (49, [.c (.p (.bool))]), (50, [.c (.p (.int .i64))]), (51, [.c (.p (.bool))]), (52, [.c (.p (.bool))]), (54, [.c (.p (.row 0))]),
 (55, [.c (.p (.row 0))]), (56, [.c (.own 3 0)]), (57, [.c (.p (.row 0))]), (58, [.c (.p (.row 0))]), (59, [.c (.p (.row 0))]), (60, [.c (.p (.row 0))]),
 (61, [.c (.p (.row 0))]), (62, [.c (.p (.bool))]), (65, [.c (.p (.bool))]), (66, [.c (.p (.row 0))]), (67, [.c (.p (.bool))]), (68, [.c (.p (.row 0))]),
 (69, [.c (.p (.bool))]), (70, [.c (.p (.row 0))]), (71, [.agg [.p (.int .i64), .p (.int .i64), .p (.row 2), .p (.row 2)], .agg [.p (.row 0)], .c (.p (.row 2))]), (72, [.c (.p (.bool))]), (73, [.c (.p (.bool))]), (74, [.c (.p (.bool))]),
 (75, [.c (.p (.bool))]), (76, [.c (.p (.row 0))]), (77, [.c (.p (.bool))]), (78, [.c (.p (.row 2)), .c (.p (.bool))]), (79, [.c (.own 96 2)]), (80, [.c (.p (.bool))]),
 (81, [.agg [.p (.row 0)], .c (.p (.bool))]), (82, [.agg [.p (.row 0)]]), (83, [.agg [.p (.int .i64), .p (.int .i64), .p (.row 2), .p (.row 2)], .agg [.p (.row 0)], .c (.p (.int .i64))]), (84, [.c (.p (.bool))]), (85, [.c (.p (.row 0))]), (86, [.c (.p (.bool))]),
 (87, [.c (.p (.row 0))]), (88, [.c (.own 3 0)]), (89, [.c (.p (.row 0))]), (101, [.c (.p (.row 0))]), (102, [.c (.p (.int .i64))]), (103, [.c (.p (.int .i64))]),
 (104, [.agg [.p (.int .i64), .p (.int .i64), .p (.row 2), .own ⟨114, some ⟨1, 116, 2, 0, none⟩⟩ 2]]), (105, [.agg [.own 3 0], .c (.p (.bool))]), (106, [.c (.p (.row 0))]), (107, [.agg [.own 3 0], .c (.p (.bool))]), (108, [.c (.p (.row 0))]), (111, [.c (.p (.row 0))]),
 (113, [.c (.p (.bool))]), (114, [.c (.p (.bool))]), (115, [.c (.p (.int .i64))]), (116, [.c (.p (.int .i64))]), (117, [.c (.p (.int .i64))]), (118, [.c (.own 3 0)]),
 (119, [.c (.own 3 0)]), (120, [.c (.p (.bool))]), (121, [.c (.p (.row 0))]), (122, [.c (.p (.row 0))]), (123, [.c (.p (.row 0))]), (124, [.c (.p (.int .i64))]),
 (125, [.c (.p (.int .i64))]), (126, [.c (.p (.int .i64))]), (127, [.c (.p (.row 0))]), (130, [.c (.p (.int .u64))]), (131, [.c (.p (.int .u64))]), (132, [.c (.p (.bool))]),
 (133, [.c (.p (.row 0))]), (134, [.c (.own 96 2)]), (135, [.c (.p (.int .i64))]), (136, [.c (.p (.bool))]), (137, [.c (.p (.int .i64))]), (138, [.c (.p (.bool))]),
 (139, [.c (.p (.bool))]), (140, [.c (.p (.bool))]), (141, [.c (.p (.int .i64)), .c (.p (.int .i64)), .c (.p (.int .i64))]), (142, [.c (.p (.bool))]), (143, [.c (.p (.bool))]), (144, [.c (.p (.bool))]),
 (145, [.agg [.own 3 0]]), (146, [.c (.own 3 0)]), (147, [.c (.p (.bool))]), (148, [.c (.p (.row 0))]), (149, [.c (.p (.row 0))]), (160, [.c (.own 3 0)]),
 (163, [.c (.p (.int .i64))]), (164, [.agg [.p (.row 2), .own 116 2]]), (165, [.c (.p (.bool))]), (166, [.agg [.own 3 0]]), (167, [.c (.p (.bool))]), (168, [.agg [.own 3 0]]),
 (171, [.c (.p (.row 0))]), (172, [.c (.p (.int .i64))]), (173, [.c (.p (.row 0))]), (174, [.c (.p (.bool))]), (175, [.c (.p (.int .i64))]), (176, [.c (.p (.int .u64))]),
 (177, [.c (.p (.row 0))]), (178, [.c (.p (.row 0))]), (179, [.c (.own 64 0)]), (182, [.c (.p (.int .u64))]), (183, [.c (.p (.bool))]), (184, [.c (.p (.bool))]),
 (185, [.c (.p (.bool))]), (186, [.c (.own 96 2)]), (187, [.c (.p (.int .i64))]), (188, [.c (.p (.bool))]), (189, [.c (.p (.int .i64)), .c (.p (.int .i64)), .c (.p (.int .i64))]), (190, [.c (.p (.bool))]),
 (191, [.c (.p (.bool))]), (192, [.c (.p (.bool))]), (193, [.c (.p (.bool))]), (194, [.agg [.own 3 0]]), (195, [.agg [.own 3 0]]), (196, [.c (.own 3 0)]),
 (197, [.c (.p (.bool))]), (198, [.c (.p (.int .u64))]), (199, [.c (.p (.int .u64))]), (200, [.c (.p (.int .i64))]), (201, [.c (.own 3 0)]), (212, [.c (.p (.int .i64))]),
 (213, [.c (.p (.int .u64)), .c (.p (.int .u64)), .c (.p (.bool))]), (214, [.c (.p (.int .u64))]), (215, [.c (.p (.int .u64))]), (216, [.c (.p (.int .i64))]), (217, [.c (.p (.int .i64))]), (218, [.c (.p (.bool))]),
 (219, [.c (.p (.int .i64))]), (220, [.c (.p (.int .u64)), .c (.p (.int .u64)), .c (.p (.bool))]), (221, [.c (.p (.int .u64))]), (222, [.c (.p (.int .u64))]), (223, [.c (.p (.int .i64))]), (224, [.c (.p (.int .u64)), .c (.p (.int .u64))]),
 (231, [.c (.p (.bool))]), (232, [.c (.p (.int .u64)), .c (.p (.int .u64))]), (233, [.c (.p (.bool))]), (235, [.c (.p (.int .u64)), .c (.p (.int .u64))]), (237, [.c (.p (.int .i64))])]
def tBk : List (Nat × List (List Kind)) := [(44, [[.p (.row 0), .p (.int .i64), .p (.int .u64)]]), (45, [[.p (.row 0), .p (.int .i64), .p (.int .u64)]]), (48, [[.p (.row 0), .p (.int .i64), .p (.int .u64)]]), (102, [[.p (.row 0), .p (.int .i64), .p (.int .u64)]]), (103, [[.p (.row 0), .p (.int .i64), .p (.int .u64)]]), (104, [[.p (.row 0), .p (.int .i64), .p (.int .u64)]]),
 (106, [[.p (.row 0), .p (.int .i64), .p (.int .u64)]]), (108, [[.p (.row 0), .p (.int .i64), .p (.int .u64)]]), (134, [[.p (.row 0), .p (.int .i64), .p (.int .u64)]]), (143, [[.p (.int .i64)]]), (163, [[.p (.row 0), .p (.int .i64), .p (.int .u64)]]), (164, [[.p (.row 0), .p (.int .i64), .p (.int .u64)]]),
 (184, [[.p (.int .i64), .p (.int .i64), .p (.row 2), .p (.row 2)]]), (186, [[.p (.row 0), .p (.int .i64), .p (.int .u64)]]), (144062, [[.p (.int .i64)]]), (144124, [[.p (.int .i64)]]), (185183, [[.p (.int .i64), .p (.int .i64), .p (.row 2), .p (.row 2)]]), (185217, [[.p (.int .i64), .p (.int .i64), .p (.row 2), .p (.row 2)]])]
def tPlain : List (Nat × Unit) := [(4, ()), (6, ()), (16, ()), (19, ()), (22, ()), (23, ()), (25, ()), (32, ()), (49, ()), (50, ()), (51, ()), (52, ()),
 (56, ()), (65, ()), (67, ()), (69, ()), (72, ()), (73, ()), (74, ()), (75, ()), (77, ()), (79, ()), (80, ()), (84, ()),
 (86, ()), (88, ()), (105, ()), (107, ()), (113, ()), (114, ()), (115, ()), (116, ()), (117, ()), (118, ()), (119, ()), (120, ()),
 (125, ()), (126, ()), (130, ()), (131, ()), (132, ()), (135, ()), (136, ()), (137, ()), (138, ()), (139, ()), (140, ()), (141, ()),
 (142, ()), (143, ()), (144, ()), (145, ()), (147, ()), (160, ()), (165, ()), (166, ()), (167, ()), (168, ()), (172, ()), (174, ()),
 (175, ()), (176, ()), (179, ()), (182, ()), (185, ()), (187, ()), (188, ()), (189, ()), (190, ()), (191, ()), (193, ()), (194, ()),
 (195, ()), (196, ()), (197, ()), (198, ()), (199, ()), (200, ()), (201, ()), (212, ()), (213, ()), (214, ()), (215, ()), (216, ()),
 (218, ()), (220, ()), (221, ()), (222, ()), (223, ()), (224, ()), (231, ()), (232, ()), (233, ()), (235, ()), (237, ()), (74062, ()),
 (81062, ()), (144062, ()), (144124, ())]
def tCt : List (Nat × CT) := [(2, .one (.int .i64)), (3, .one (.int .i64)), (4, .one (.bool)), (5, .one (.int .u8)), (9, .one (.str)), (22, .one (.row 0)),
 (24, .one (.row 2)), (25, .one (.row 2)), (27, .agg [.int .i64, .int .i64, .row 2, .row 2]), (28, .one (.row 0)), (30, .agg [.row 0]), (35, .one (.row 0)),
 (64, .one (.int .u64)), (66, .agg [.row 0, .int .i64, .int .u64]), (86, .one (.row 0)), (96, .agg [.int .i64, .int .u64]), (98, .one (.row 0)), (112, .one (.row 2)),
 (114, .agg [.row 2, .row 2]), (116, .agg [.int .i64, .row 2]), (125, .one (.row 0)), (146, .one (.row 2)), (147, .agg [.int .i64, .int .i64]), (166, .one (.int .u64)),
 (191, .one (.int .u32))]
def tAk : List (Nat × List CT) := [(4, [.one (.row 0), .one (.row 0)]), (6, [.one (.row 0), .one (.row 0)]), (16, [.one (.row 0), .one (.row 0)]), (19, [.one (.row 0), .one (.int .i64)]), (21, [.one (.row 0)]), (22, [.agg [.int .i64, .int .i64, .row 2, .row 2], .agg [.row 0], .one (.row 2)]),
 (23, [.agg [.int .i64, .int .i64, .row 2, .row 2], .agg [.row 0], .one (.row 2)]), (24, [.one (.int .i64), .one (.int .i64), .one (.int .i64), .one (.row 2)]), (25, [.agg [.int .i64, .int .i64, .row 2, .row 2], .one (.row 2)]), (26, [.agg [.int .i64, .int .i64, .row 2, .row 2], .agg [.row 0], .one (.row 2)]), (27, [.one (.row 0)]), (28, [.agg [.int .i64, .int .i64, .row 2, .row 2], .agg [.row 0], .one (.int .i64)]),
 (29, [.agg [.int .i64, .int .i64, .row 2, .row 2], .agg [.row 0], .one (.int .i64)]), (30, [.agg [.int .i64, .int .i64, .row 2, .row 2], .agg [.row 0], .one (.int .i64)]), (31, [.agg [.int .i64, .int .i64, .row 2, .row 2], .agg [.row 0], .one (.int .i64)]), (32, [.one (.row 0), .one (.row 0)]), (44, [.one (.any)]), (45, [.one (.any), .agg [.int .i64, .int .i64, .row 2, .row 2]]),
 (48, [.one (.any), .one (.int .i64)]), (49, [.agg [.int .i64, .int .i64, .row 2, .row 2], .agg [.row 0]]), (50, [.agg [.int .i64, .int .i64, .row 2, .row 2]]), (51, [.agg [.int .i64, .int .i64, .row 2, .row 2], .agg [.row 0]]), (52, [.one (.int .i64), .one (.int .i64), .one (.int .i64)]), (54, [.agg [.int .i64, .int .i64, .row 2, .row 2], .agg [.row 0]]),
 (55, [.agg [.int .i64, .int .i64, .row 2, .row 2], .agg [.row 0]]), (56, [.agg [.row 0], .one (.row 0)]), (57, [.agg [.int .i64, .int .i64, .row 2, .row 2], .one (.row 2)]), (58, [.agg [.row 0], .one (.row 0)]), (59, [.agg [.int .i64, .int .i64, .row 2, .row 2], .one (.row 2)]), (60, [.agg [.int .i64, .int .i64, .row 2, .row 2], .agg [.row 0]]),
 (61, [.agg [.int .i64, .int .i64, .row 2, .row 2], .agg [.row 0]]), (62, [.one (.row 0), .one (.any)]), (65, [.one (.row 0), .one (.int .i64)]), (66, [.agg [.int .i64, .int .i64, .row 2, .row 2], .one (.int .i64)]), (67, [.agg [.int .i64, .int .i64, .row 2, .row 2], .one (.row 2), .one (.row 0)]), (68, [.agg [.int .i64, .int .i64, .row 2, .row 2], .one (.int .i64)]),
 (69, [.agg [.int .i64, .int .i64, .row 2, .row 2]]), (70, [.agg [.int .i64, .int .i64, .row 2, .row 2]]), (71, [.one (.row 0)]), (72, [.agg [.int .i64, .int .i64, .row 2, .row 2], .one (.row 2)]), (73, [.one (.int .i64)]), (74, [.agg [.int .i64, .int .i64, .row 2, .row 2], .one (.row 2)]),
 (75, [.one (.row 0), .one (.row 0)]), (76, [.agg [.row 0], .one (.row 0)]), (77, [.one (.int .i64), .one (.int .i64), .one (.row 2)]), (78, [.one (.int .i64), .one (.int .i64), .one (.row 2)]), (79, [.one (.row 2)]), (80, [.one (.int .i64)]),
 (81, [.agg [.int .i64, .int .i64, .row 2, .row 2], .one (.row 0)]), (82, [.agg [.row 0], .agg [.row 0]]), (83, [.one (.row 0)]), (84, [.agg [.int .i64, .int .i64, .row 2, .row 2], .agg [.row 0], .one (.int .i64)]), (85, [.agg [.int .i64, .int .i64, .row 2, .row 2], .agg [.row 0], .one (.int .i64)]), (86, [.agg [.int .i64, .int .i64, .row 2, .row 2], .agg [.row 0], .one (.int .i64)]),
 (87, [.agg [.int .i64, .int .i64, .row 2, .row 2], .agg [.row 0], .one (.int .i64)]), (88, [.agg [.int .i64, .int .i64, .row 2, .row 2], .agg [.row 0], .one (.int .i64)]), (89, [.agg [.int .i64, .int .i64, .row 2, .row 2], .agg [.row 0], .one (.int .i64)]), (101, [.agg [.row 0], .one (.int .i64)]), (102, [.one (.any), .one (.row 0)]), (103, [.one (.any), .one (.int .i64)]),
 (104, [.one (.any), .one (.int .i64), .one (.int .i64)]), (105, [.agg [.int .i64, .int .i64, .row 2, .row 2], .one (.row 0)]), (106, [.one (.any), .agg [.int .i64, .int .i64, .row 2, .row 2], .one (.int .i64)]), (107, [.agg [.int .i64, .int .i64, .row 2, .row 2], .agg [.row 0], .one (.row 0)]), (108, [.one (.any), .one (.int .i64), .one (.int .i64)]), (111, [.agg [.int .i64, .int .i64, .row 2, .row 2], .one (.int .i64)]),
 (113, [.agg [.row 0], .one (.int .i64)]), (114, [.agg [.int .i64, .int .i64, .row 2, .row 2]]), (115, [.agg [.int .i64, .int .i64, .row 2, .row 2]]), (116, [.agg [.row 0]]), (117, [.agg [.row 0]]), (118, [.one (.row 0)]),
 (119, [.one (.row 0), .one (.int .i64)]), (120, [.agg [.int .i64, .int .i64, .row 2, .row 2], .one (.row 2), .one (.row 0)]), (121, [.agg [.int .i64, .int .i64, .row 2, .row 2], .one (.int .i64)]), (122, [.one (.row 0), .one (.row 0)]), (123, [.one (.row 0), .one (.row 0)]), (124, [.one (.row 0), .one (.any)]),
 (125, [.one (.row 0), .one (.int .i64)]), (126, [.agg [.int .i64, .int .i64, .row 2, .row 2], .one (.row 0)]), (127, [.agg [.int .i64, .int .i64, .row 2, .row 2], .agg [.row 2, .row 2], .one (.row 0)]), (130, [.one (.int .i64), .one (.row 2), .one (.row 0)]), (131, [.one (.int .i64)]), (132, [.agg [.int .i64, .int .i64, .row 2, .row 2]]),
 (133, [.agg [.int .i64, .int .i64, .row 2, .row 2]]), (134, [.one (.any), .one (.int .i64), .one (.int .i64), .one (.int .i64)]), (135, [.one (.int .i64)]), (136, [.one (.int .i64), .one (.int .i64), .one (.row 2), .one (.int .i64)]), (137, [.one (.int .i64), .one (.int .i64), .one (.row 2)]), (138, [.one (.row 0), .one (.int .i64)]),
 (139, [.one (.int .i64)]), (140, [.one (.int .i64)]), (141, [.one (.int .i64)]), (142, [.one (.int .i64), .one (.int .i64), .agg [.int .i64, .int .u64]]), (143, [.one (.int .i64)]), (144, [.agg [.int .i64, .int .i64, .row 2, .row 2], .one (.row 0), .one (.int .i64)]),
 (145, [.one (.row 2)]), (146, [.one (.row 0), .one (.any)]), (147, [.one (.int .i64)]), (148, [.agg [.row 0], .one (.int .i64)]), (149, [.agg [.int .i64, .int .i64, .row 2, .row 2], .one (.row 0)]), (160, [.one (.row 0)]),
 (163, [.one (.any)]), (164, [.one (.any), .one (.int .i64), .one (.int .i64)]), (165, [.agg [.int .i64, .int .i64, .row 2, .row 2], .one (.row 0)]), (166, [.agg [.int .i64, .int .i64, .row 2, .row 2], .one (.row 0)]), (167, [.one (.row 0), .one (.int .i64), .one (.int .i64)]), (168, [.agg [.row 0], .one (.row 0)]),
 (171, [.agg [.int .i64, .int .i64, .row 2, .row 2], .one (.row 0)]), (172, [.agg [.int .i64, .int .i64, .row 2, .row 2], .one (.row 0)]), (173, [.agg [.int .i64, .int .i64, .row 2, .row 2], .one (.row 0), .one (.int .i64)]), (174, [.agg [.int .i64, .int .i64, .row 2, .row 2]]), (175, [.one (.row 0)]), (176, [.one (.int .i64), .one (.row 2), .one (.int .i64), .one (.row 0)]),
 (177, [.one (.row 0), .one (.row 0)]), (178, [.one (.row 0), .one (.row 0)]), (179, [.one (.row 0)]), (182, [.one (.int .i64), .one (.int .i64), .one (.int .u64), .one (.int .u64)]), (183, [.one (.row 2), .one (.any)]), (184, [.agg [.row 2, .row 2]]),
 (185, [.agg [.int .i64, .int .i64, .row 2, .row 2], .agg [.row 2, .row 2]]), (186, [.one (.any), .one (.int .i64), .one (.int .i64), .one (.int .i64)]), (187, [.one (.row 2)]), (188, [.one (.int .i64)]), (189, [.one (.int .i64)]), (190, [.one (.int .i64), .one (.int .i64), .agg [.int .i64, .int .u64]]),
 (191, [.one (.int .i64), .one (.int .u64)]), (192, [.one (.row 0), .one (.any)]), (193, [.one (.row 2)]), (194, [.agg [.int .i64, .int .i64, .row 2, .row 2], .agg [.row 0], .one (.row 2)]), (195, [.one (.row 0)]), (196, [.one (.row 0)]),
 (197, [.agg [.int .i64, .int .i64, .row 2, .row 2], .agg [.row 2, .row 2]]), (198, [.one (.int .i64), .one (.int .u64)]), (199, [.one (.int .i64), .one (.int .i64), .one (.int .u64), .one (.int .u64)]), (200, [.one (.row 2), .one (.int .i64)]), (201, [.one (.row 0), .one (.int .i64)]), (212, [.one (.int .u64)]),
 (213, [.one (.int .i64), .one (.int .u64), .one (.int .u64)]), (214, [.one (.int .i64), .one (.int .u64), .one (.int .u64), .one (.bool)]), (215, [.one (.bool)]), (216, [.one (.int .i64), .one (.int .u64)]), (217, [.one (.row 2), .one (.any)]), (218, [.one (.int .i64), .one (.int .u64)]),
 (219, [.one (.row 0), .one (.any)]), (220, [.one (.int .i64), .one (.int .u64), .one (.int .u64)]), (221, [.one (.int .i64), .one (.int .u64), .one (.int .u64), .one (.bool)]), (222, [.one (.bool)]), (223, [.one (.int .i64), .one (.int .u64)]), (224, [.one (.int .u64), .one (.int .u64)]),
 (231, [.one (.int .i64), .one (.int .u64), .one (.int .u64)]), (232, [.one (.int .u64), .one (.int .u64), .one (.int .u64)]), (233, [.one (.int .i64), .one (.int .u64), .one (.int .u64)]), (235, [.one (.int .u64), .one (.int .u64)]), (237, [.one (.int .u64)])]
def tOwn : List (Nat × List (Nat × List (Option Nat × Nat × Et × Nat))) := [(44, [(0, [(some 1, 2, 0, 2), (some 1, 3, 0, 2)])]), (55, [(0, [(none, 5, 28, 0)])]), (58, [(0, [(none, 5, 3, 0)])]),
 (59, [(0, [(none, 5, 3, 0)])]), (76, [(0, [(none, 5, 3, 0)])]), (81, [(0, [(some 1, 0, 0, 0)])]),
 (82, [(0, [(some 1, 0, 0, 0)])]), (87, [(0, [(none, 7, 3, 0)])]), (104, [(0, [(some 1, 2, 0, 2), (some 1, 3, 0, 2), (some 2, 3, ⟨114, some ⟨1, 116, 2, 0, none⟩⟩, 2)])]),
 (106, [(0, [(none, 7, 24, 0)])]), (108, [(0, [(none, 7, 3, 0)])]), (111, [(0, [(none, 6, 3, 0)])]),
 (121, [(0, [(none, 5, 64, 0)])]), (123, [(0, [(none, 5, 3, 0)])]), (137, [(0, [(none, 7, 3, 0)])]),
 (148, [(0, [(none, 5, 3, 0)])]), (149, [(0, [(none, 5, 3, 0)])]), (164, [(0, [(some 1, 0, 0, 2), (some 1, 1, 0, 2), (some 2, 1, 116, 2)])]),
 (166, [(0, [(some 1, 0, 0, 0)])]), (168, [(0, [(none, 5, 3, 0), (some 0, 0, 0, 0)])]), (171, [(0, [(none, 5, 3, 0)])]),
 (195, [(0, [(some 0, 0, 3, 0), (some 1, 0, 3, 0)])])]
def tCut : List (Nat × List (Nat × List Nat)) := []
def tNest : List (Nat × Kd) := [(25, ⟨1, 116, 2, 0, none⟩)]
def tSorts : List (Nat × Nat) := [(128, 1), (129, 2)]
theorem sortsOK : ∀ g n, (g, n) ∈ tSorts -> SortOK Tryz.prog n g := by
 intro g n h
 simp only [tSorts, List.mem_cons, Prod.mk.injEq, List.not_mem_nil, or_false] at h
 rcases h with ⟨rfl, rfl⟩ | ⟨rfl, rfl⟩
 · exact sort_ok
 · exact comp_ok
def tAo : List (Nat × List (Option (Et × Nat))) := [(119, [some (3, 0), none]), (146, [some (3, 0), none])]
def tRo : List (Nat × Unit) := [(74062, ()), (74124, ()), (81062, ()), (81124, ()), (148124, ()), (148146, ()), (194192, ()), (194219, ())]
def tExt : List (Nat × Nat) := []
theorem extOK : ∀ g n, (g, n) ∈ tExt -> ExtOK Tryz.prog n g := by
 intro g n h
 simp [tExt] at h
noncomputable def E : Env := tabs.env tLive tRk tBk tPlain tCt tAk tOwn tCut tNest tSorts tAo tExt tRo
theorem envOK : EnvOK Tryz.prog E := Tabs.sound (by kernel_rfl) sortsOK extOK
noncomputable def pTab : List (Nat × Func) := [(4, Tryz.f4), (6, Tryz.f6), (16, Tryz.f16), (19, Tryz.f19), (21, Tryz.f21), (22, Tryz.f22), (23, Tryz.f23), (24, Tryz.f24), (25, Tryz.f25), (26, Tryz.f26), (27, Tryz.f27), (28, Tryz.f28),
 (29, Tryz.f29), (30, Tryz.f30), (31, Tryz.f31), (32, Tryz.f32), (44, Tryz.f44), (45, Tryz.f45), (48, Tryz.f48), (49, Tryz.f49), (50, Tryz.f50), (51, Tryz.f51), (52, Tryz.f52), (54, Tryz.f54),
 (55, Tryz.f55), (56, Tryz.f56), (57, Tryz.f57), (58, Tryz.f58), (59, Tryz.f59), (60, Tryz.f60), (61, Tryz.f61), (62, Tryz.f62), (65, Tryz.f65), (66, Tryz.f66), (67, Tryz.f67), (68, Tryz.f68),
 (69, Tryz.f69), (70, Tryz.f70), (71, Tryz.f71), (72, Tryz.f72), (73, Tryz.f73), (74, Tryz.f74), (75, Tryz.f75), (76, Tryz.f76), (77, Tryz.f77), (78, Tryz.f78), (79, Tryz.f79), (80, Tryz.f80),
 (81, Tryz.f81), (82, Tryz.f82), (83, Tryz.f83), (84, Tryz.f84), (85, Tryz.f85), (86, Tryz.f86), (87, Tryz.f87), (88, Tryz.f88), (89, Tryz.f89), (101, Tryz.f101), (102, Tryz.f102), (103, Tryz.f103),
 (104, Tryz.f104), (105, Tryz.f105), (106, Tryz.f106), (107, Tryz.f107), (108, Tryz.f108), (111, Tryz.f111), (113, Tryz.f113), (114, Tryz.f114), (115, Tryz.f115), (116, Tryz.f116), (117, Tryz.f117), (118, Tryz.f118),
 (119, Tryz.f119), (120, Tryz.f120), (121, Tryz.f121), (122, Tryz.f122), (123, Tryz.f123), (124, Tryz.f124), (125, Tryz.f125), (126, Tryz.f126), (127, Tryz.f127), (130, Tryz.f130), (131, Tryz.f131), (132, Tryz.f132),
 (133, Tryz.f133), (134, Tryz.f134), (135, Tryz.f135), (136, Tryz.f136), (137, Tryz.f137), (138, Tryz.f138), (139, Tryz.f139), (140, Tryz.f140), (141, Tryz.f141), (142, Tryz.f142), (143, Tryz.f143), (144, Tryz.f144),
 (145, Tryz.f145), (146, Tryz.f146), (147, Tryz.f147), (148, Tryz.f148), (149, Tryz.f149), (160, Tryz.f160), (163, Tryz.f163), (164, Tryz.f164), (165, Tryz.f165), (166, Tryz.f166), (167, Tryz.f167), (168, Tryz.f168),
 (171, Tryz.f171), (172, Tryz.f172), (173, Tryz.f173), (174, Tryz.f174), (175, Tryz.f175), (176, Tryz.f176), (177, Tryz.f177), (178, Tryz.f178), (179, Tryz.f179), (182, Tryz.f182), (183, Tryz.f183), (184, Tryz.f184),
 (185, Tryz.f185), (186, Tryz.f186), (187, Tryz.f187), (188, Tryz.f188), (189, Tryz.f189), (190, Tryz.f190), (191, Tryz.f191), (192, Tryz.f192), (193, Tryz.f193), (194, Tryz.f194), (195, Tryz.f195), (196, Tryz.f196),
 (197, Tryz.f197), (198, Tryz.f198), (199, Tryz.f199), (200, Tryz.f200), (201, Tryz.f201), (212, Tryz.f212), (213, Tryz.f213), (214, Tryz.f214), (215, Tryz.f215), (216, Tryz.f216), (217, Tryz.f217), (218, Tryz.f218),
 (219, Tryz.f219), (220, Tryz.f220), (221, Tryz.f221), (222, Tryz.f222), (223, Tryz.f223), (224, Tryz.f224), (231, Tryz.f231), (232, Tryz.f232), (233, Tryz.f233), (235, Tryz.f235), (237, Tryz.f237)]
noncomputable def P : FuncId -> Option Func := lk pTab
theorem pOK : PfOK Tryz.prog P := pfOK_of (tab := pTab)
 (pfOK_cons Tryz.func4 (pfOK_cons Tryz.func6 (pfOK_cons Tryz.func16 (pfOK_cons Tryz.func19 (pfOK_cons Tryz.func21 (pfOK_cons Tryz.func22 (pfOK_cons Tryz.func23 (pfOK_cons Tryz.func24 
 (pfOK_cons Tryz.func25 (pfOK_cons Tryz.func26 (pfOK_cons Tryz.func27 (pfOK_cons Tryz.func28 (pfOK_cons Tryz.func29 (pfOK_cons Tryz.func30 (pfOK_cons Tryz.func31 (pfOK_cons Tryz.func32 
 (pfOK_cons Tryz.func44 (pfOK_cons Tryz.func45 (pfOK_cons Tryz.func48 (pfOK_cons Tryz.func49 (pfOK_cons Tryz.func50 (pfOK_cons Tryz.func51 (pfOK_cons Tryz.func52 (pfOK_cons Tryz.func54 
 (pfOK_cons Tryz.func55 (pfOK_cons Tryz.func56 (pfOK_cons Tryz.func57 (pfOK_cons Tryz.func58 (pfOK_cons Tryz.func59 (pfOK_cons Tryz.func60 (pfOK_cons Tryz.func61 (pfOK_cons Tryz.func62 
 (pfOK_cons Tryz.func65 (pfOK_cons Tryz.func66 (pfOK_cons Tryz.func67 (pfOK_cons Tryz.func68 (pfOK_cons Tryz.func69 (pfOK_cons Tryz.func70 (pfOK_cons Tryz.func71 (pfOK_cons Tryz.func72 
 (pfOK_cons Tryz.func73 (pfOK_cons Tryz.func74 (pfOK_cons Tryz.func75 (pfOK_cons Tryz.func76 (pfOK_cons Tryz.func77 (pfOK_cons Tryz.func78 (pfOK_cons Tryz.func79 (pfOK_cons Tryz.func80 
 (pfOK_cons Tryz.func81 (pfOK_cons Tryz.func82 (pfOK_cons Tryz.func83 (pfOK_cons Tryz.func84 (pfOK_cons Tryz.func85 (pfOK_cons Tryz.func86 (pfOK_cons Tryz.func87 (pfOK_cons Tryz.func88 
 (pfOK_cons Tryz.func89 (pfOK_cons Tryz.func101 (pfOK_cons Tryz.func102 (pfOK_cons Tryz.func103 (pfOK_cons Tryz.func104 (pfOK_cons Tryz.func105 (pfOK_cons Tryz.func106 (pfOK_cons Tryz.func107 
 (pfOK_cons Tryz.func108 (pfOK_cons Tryz.func111 (pfOK_cons Tryz.func113 (pfOK_cons Tryz.func114 (pfOK_cons Tryz.func115 (pfOK_cons Tryz.func116 (pfOK_cons Tryz.func117 (pfOK_cons Tryz.func118 
 (pfOK_cons Tryz.func119 (pfOK_cons Tryz.func120 (pfOK_cons Tryz.func121 (pfOK_cons Tryz.func122 (pfOK_cons Tryz.func123 (pfOK_cons Tryz.func124 (pfOK_cons Tryz.func125 (pfOK_cons Tryz.func126 
 (pfOK_cons Tryz.func127 (pfOK_cons Tryz.func130 (pfOK_cons Tryz.func131 (pfOK_cons Tryz.func132 (pfOK_cons Tryz.func133 (pfOK_cons Tryz.func134 (pfOK_cons Tryz.func135 (pfOK_cons Tryz.func136 
 (pfOK_cons Tryz.func137 (pfOK_cons Tryz.func138 (pfOK_cons Tryz.func139 (pfOK_cons Tryz.func140 (pfOK_cons Tryz.func141 (pfOK_cons Tryz.func142 (pfOK_cons Tryz.func143 (pfOK_cons Tryz.func144 
 (pfOK_cons Tryz.func145 (pfOK_cons Tryz.func146 (pfOK_cons Tryz.func147 (pfOK_cons Tryz.func148 (pfOK_cons Tryz.func149 (pfOK_cons Tryz.func160 (pfOK_cons Tryz.func163 (pfOK_cons Tryz.func164 
 (pfOK_cons Tryz.func165 (pfOK_cons Tryz.func166 (pfOK_cons Tryz.func167 (pfOK_cons Tryz.func168 (pfOK_cons Tryz.func171 (pfOK_cons Tryz.func172 (pfOK_cons Tryz.func173 (pfOK_cons Tryz.func174 
 (pfOK_cons Tryz.func175 (pfOK_cons Tryz.func176 (pfOK_cons Tryz.func177 (pfOK_cons Tryz.func178 (pfOK_cons Tryz.func179 (pfOK_cons Tryz.func182 (pfOK_cons Tryz.func183 (pfOK_cons Tryz.func184 
 (pfOK_cons Tryz.func185 (pfOK_cons Tryz.func186 (pfOK_cons Tryz.func187 (pfOK_cons Tryz.func188 (pfOK_cons Tryz.func189 (pfOK_cons Tryz.func190 (pfOK_cons Tryz.func191 (pfOK_cons Tryz.func192 
 (pfOK_cons Tryz.func193 (pfOK_cons Tryz.func194 (pfOK_cons Tryz.func195 (pfOK_cons Tryz.func196 (pfOK_cons Tryz.func197 (pfOK_cons Tryz.func198 (pfOK_cons Tryz.func199 (pfOK_cons Tryz.func200 
 (pfOK_cons Tryz.func201 (pfOK_cons Tryz.func212 (pfOK_cons Tryz.func213 (pfOK_cons Tryz.func214 (pfOK_cons Tryz.func215 (pfOK_cons Tryz.func216 (pfOK_cons Tryz.func217 (pfOK_cons Tryz.func218 
 (pfOK_cons Tryz.func219 (pfOK_cons Tryz.func220 (pfOK_cons Tryz.func221 (pfOK_cons Tryz.func222 (pfOK_cons Tryz.func223 (pfOK_cons Tryz.func224 (pfOK_cons Tryz.func231 (pfOK_cons Tryz.func232 
 (pfOK_cons Tryz.func233 (pfOK_cons Tryz.func235 (pfOK_cons Tryz.func237 pfOK_nil)))))))))))))))))))))))))))))))))))))))))))))))))))))))))))))))))))))))))))))))))))))))))))))))))))))))))))))))))))))))))))))))))))))))))))))))))))))))))))
 (by kernel_rfl)
theorem cl79 (xs : List PV) (h1 : xs.length * 16 <= LIM) (h2 : xs.length <= LIM) : evF P E (fun _ _ _ => none) 2 79 [.s (.c (.p (.row 2 3 xs)))] [] = some ([.c (.own 96 2 xs)], []) := by
 have e : evF P E (fun _ _ _ => none) 2 79 [.s (.c (.p (.row 2 3 xs)))] [] = bif decide ((0 + xs.length) * 16 <= LIM) && decide (0 + xs.length <= LIM) then some ([.c (.own 96 2 (([] ++ xs).take (0 + xs.length)))], []) else none := by kernel_rfl
 rw [e]
 simp [h1, h2]
theorem cl160 (xs : List PV) (h1 : xs.length * 8 <= LIM) (h2 : xs.length <= LIM) : evF P E (fun _ _ _ => none) 2 160 [.s (.c (.p (.row 0 3 xs)))] [] = some ([.c (.own 3 0 xs)], []) := by
 have e : evF P E (fun _ _ _ => none) 2 160 [.s (.c (.p (.row 0 3 xs)))] [] = bif decide ((0 + xs.length) * 8 <= LIM) && decide (0 + xs.length <= LIM) then some ([.c (.own 3 0 (([] ++ xs).take (0 + xs.length)))], []) else none := by kernel_rfl
 rw [e]
 simp [h1, h2]
theorem cl179 (xs : List PV) (h1 : xs.length * 8 <= LIM) (h2 : xs.length <= LIM) : evF P E (fun _ _ _ => none) 2 179 [.s (.c (.p (.row 0 3 xs)))] [] = some ([.c (.own 64 0 xs)], []) := by
 have e : evF P E (fun _ _ _ => none) 2 179 [.s (.c (.p (.row 0 3 xs)))] [] = bif decide ((0 + xs.length) * 8 <= LIM) && decide (0 + xs.length <= LIM) then some ([.c (.own 64 0 (([] ++ xs).take (0 + xs.length)))], []) else none := by kernel_rfl
 rw [e]
 simp [h1, h2]
def clones : List (Nat × (Nat × Nat × Nat)) := [(79, (96, 2, 16)), (160, (3, 0, 8)), (179, (64, 0, 8))]
theorem hT0 : ∀ f args bs r, cloneT clones f args bs = some r -> Contract Tryz.prog f args bs r := by
 refine cloneT_ok fun f e sh by_ hm xs h1 h2 => ?_
 have h0 : ∀ f args bs r, (fun (_ : FuncId) (_ : List AV) (_ : List (List CV)) => (none : R)) f args bs = some r -> Contract Tryz.prog f args bs r := fun _ _ _ _ h => by cases h
 simp only [clones, List.mem_cons, List.not_mem_nil, or_false, Prod.mk.injEq] at hm
 rcases hm with ⟨rfl, rfl, rfl, rfl⟩ | ⟨rfl, rfl, rfl, rfl⟩ | ⟨rfl, rfl, rfl, rfl⟩
 · exact clone_contract (evF_sound envOK pOK h0 2 (by kernel_rfl)) (evF_sound envOK pOK h0 2 (cl79 xs h1 h2))
 · exact clone_contract (evF_sound envOK pOK h0 2 (by kernel_rfl)) (evF_sound envOK pOK h0 2 (cl160 xs h1 h2))
 · exact clone_contract (evF_sound envOK pOK h0 2 (by kernel_rfl)) (evF_sound envOK pOK h0 2 (cl179 xs h1 h2))
def T : FuncId -> List AV -> List (List CV) -> R := orT numT (cloneT clones)
theorem hT : ∀ f args bs r, T f args bs = some r -> Contract Tryz.prog f args bs r := orT_ok numT_ok hT0
end Go.Proofs.YthoecdnmokcfbaaGreat
/- Calls and loops of the program, by shape: printed by nf.py. -/
set_option linter.unusedVariables false
namespace Go.Proofs.YthoecdnmokcfbaaGreat
open Go.Dp
noncomputable section
def c4 (k : Nat) (code more : List PV) : R := evF P E T k 4 [.s (.c (.p (PV.row 0 0 code))), .s (.c (.p (PV.row 0 0 more)))] []
def r4 (b : Bool) : R := some ([.c (.p (PV.bool b))], [])
def c6 (k : Nat) (code more : List PV) : R := evF P E T k 6 [.s (.c (.p (PV.row 0 0 code))), .s (.c (.p (PV.row 0 0 more)))] []
def r6 (b : Bool) : R := some ([.c (.p (PV.bool b))], [])
def R6 (x0 : R) (K0 : Bool -> R) : R := x0.bind fun q0 => bif lensB q0.2 [] && lensS q0.1 [.c (.p (.bool))] then (cBool (resAt q0.1 0)).bind fun b => K0 b else none
@[simp] theorem R6_r (b : Bool) (K0 : Bool -> R) : R6 (r6 b) K0 = K0 b := by kernel_rfl
def c16 (k : Nat) (a b : List PV) : R := evF P E T k 16 [.s (.c (.p (PV.row 0 0 a))), .s (.c (.p (PV.row 0 0 b)))] []
def r16 (b : Bool) : R := some ([.c (.p (PV.bool b))], [])
def R16 (x0 : R) (K0 : Bool -> R) : R := x0.bind fun q0 => bif lensB q0.2 [] && lensS q0.1 [.c (.p (.bool))] then (cBool (resAt q0.1 0)).bind fun b => K0 b else none
@[simp] theorem R16_r (b : Bool) (K0 : Bool -> R) : R16 (r16 b) K0 = K0 b := by kernel_rfl
def L16_1 (k n : Nat) (a b : List PV) (t12 t13 : Int) : R := evLoopAt P E T k 16 16 [] [1, 1, 0, 1, 0] [] n ⟨mkT 26 [(0, .s (.c (.p (PV.row 0 0 a)))), (1, .s (.c (.p (PV.row 0 0 b)))), (12, .s (.c (.p (PV.int .i64 t12)))), (13, .s (.c (.p (PV.int .i64 t13))))], []⟩
def c19 (k : Nat) (l : List PV) (n1 : Int) : R := evF P E T k 19 [.s (.c (.p (PV.row 0 0 l))), .s (.c (.p (PV.int .i64 n1)))] []
def r19 (b : Bool) : R := some ([.c (.p (PV.bool b))], [])
def R19 (x0 : R) (K0 : Bool -> R) : R := x0.bind fun q0 => bif lensB q0.2 [] && lensS q0.1 [.c (.p (.bool))] then (cBool (resAt q0.1 0)).bind fun b => K0 b else none
@[simp] theorem R19_r (b : Bool) (K0 : Bool -> R) : R19 (r19 b) K0 = K0 b := by kernel_rfl
def L19_1 (k n : Nat) (n1 : Int) (t7 : List PV) (t8 t9 : Int) : R := evLoopAt P E T k 19 19 [] [1, 0, 1, 0] [] n ⟨mkT 17 [(1, .s (.c (.p (PV.int .i64 n1)))), (7, .s (.c (.p (PV.row 0 0 t7)))), (8, .s (.c (.p (PV.int .i64 t8)))), (9, .s (.c (.p (PV.int .i64 t9))))], []⟩
def c21 (k : Nat) (code : List PV) : R := evF P E T k 21 [.s (.c (.p (PV.row 0 0 code)))] []
def r21 (qr qr1 : Int) (l l1 l2 l3 : List PV) : R := some ([.agg [.p (PV.int .i64 qr), .p (PV.int .i64 qr1), .p (PV.row 2 0 l), .p (PV.row 2 0 l1)], .agg [.p (PV.row 0 0 l2)], .c (.p (PV.row 2 0 l3))], [])
def R21 (x0 : R) (K0 : Int -> Int -> List PV -> List PV -> List PV -> List PV -> R) : R := x0.bind fun q0 => bif lensB q0.2 [] && lensS q0.1 [.agg [.p (.int .i64), .p (.int .i64), .p (.row 2), .p (.row 2)], .agg [.p (.row 0)], .c (.p (.row 2))] then (cInt (Dp.partAt q0.1 0 0) .i64).bind fun qr => (cInt (Dp.partAt q0.1 0 1) .i64).bind fun qr1 => (cRow (Dp.partAt q0.1 0 2) 2).bind fun l => (cRow (Dp.partAt q0.1 0 3) 2).bind fun l1 => (cRow (Dp.partAt q0.1 1 0) 0).bind fun l2 => (cRow (resAt q0.1 2) 2).bind fun l3 => K0 qr qr1 l l1 l2 l3 else none
@[simp] theorem R21_r (qr qr1 : Int) (l l1 l2 l3 : List PV) (K0 : Int -> Int -> List PV -> List PV -> List PV -> List PV -> R) : R21 (r21 qr qr1 l l1 l2 l3) K0 = K0 qr qr1 l l1 l2 l3 := by kernel_rfl
def c22 (k : Nat) (p p1 : Int) (p2 p3 v bad : List PV) : R := evF P E T k 22 [.s (.c (.p (PV.agg [.int .i64 p, .int .i64 p1, .row 2 0 p2, .row 2 0 p3]))), .s (.c (.p (PV.agg [.row 0 0 v]))), .s (.c (.p (PV.row 2 0 bad)))] []
def r22 (b b1 : Bool) : R := some ([.c (.p (PV.bool b)), .c (.p (PV.bool b1))], [])
def R22 (x0 : R) (K0 : Bool -> Bool -> R) : R := x0.bind fun q0 => bif lensB q0.2 [] && lensS q0.1 [.c (.p (.bool)), .c (.p (.bool))] then (cBool (resAt q0.1 0)).bind fun b => (cBool (resAt q0.1 1)).bind fun b1 => K0 b b1 else none
@[simp] theorem R22_r (b b1 : Bool) (K0 : Bool -> Bool -> R) : R22 (r22 b b1) K0 = K0 b b1 := by kernel_rfl
def c23 (k : Nat) (p p1 : Int) (p2 p3 v bad : List PV) : R := evF P E T k 23 [.s (.c (.p (PV.agg [.int .i64 p, .int .i64 p1, .row 2 0 p2, .row 2 0 p3]))), .s (.c (.p (PV.agg [.row 0 0 v]))), .s (.c (.p (PV.row 2 0 bad)))] []
def r23 (b b1 : Bool) : R := some ([.c (.p (PV.bool b)), .c (.p (PV.bool b1))], [])
def R23 (x0 : R) (K0 : Bool -> Bool -> R) : R := x0.bind fun q0 => bif lensB q0.2 [] && lensS q0.1 [.c (.p (.bool)), .c (.p (.bool))] then (cBool (resAt q0.1 0)).bind fun b => (cBool (resAt q0.1 1)).bind fun b1 => K0 b b1 else none
@[simp] theorem R23_r (b b1 : Bool) (K0 : Bool -> Bool -> R) : R23 (r23 b b1) K0 = K0 b b1 := by kernel_rfl
def c24 (k : Nat) (wide vars op : Int) (a : List PV) : R := evF P E T k 24 [.s (.c (.p (PV.int .i64 wide))), .s (.c (.p (PV.int .i64 vars))), .s (.c (.p (PV.int .i64 op))), .s (.c (.p (PV.row 2 0 a)))] []
def r24 (l : List PV) (b : Bool) : R := some ([.c (.p (PV.row 2 0 l)), .c (.p (PV.bool b))], [])
def R24 (x0 : R) (K0 : List PV -> Bool -> R) : R := x0.bind fun q0 => bif lensB q0.2 [] && lensS q0.1 [.c (.p (.row 2)), .c (.p (.bool))] then (cRow (resAt q0.1 0) 2).bind fun l => (cBool (resAt q0.1 1)).bind fun b => K0 l b else none
@[simp] theorem R24_r (l : List PV) (b : Bool) (K0 : List PV -> Bool -> R) : R24 (r24 l b) K0 = K0 l b := by kernel_rfl
def c25 (k : Nat) (p p1 : Int) (p2 p3 t : List PV) : R := evF P E T k 25 [.s (.c (.p (PV.agg [.int .i64 p, .int .i64 p1, .row 2 0 p2, .row 2 0 p3]))), .s (.c (.p (PV.row 2 0 t)))] []
def r25 (b b1 : Bool) : R := some ([.c (.p (PV.bool b)), .c (.p (PV.bool b1))], [])
def R25 (x0 : R) (K0 : Bool -> Bool -> R) : R := x0.bind fun q0 => bif lensB q0.2 [] && lensS q0.1 [.c (.p (.bool)), .c (.p (.bool))] then (cBool (resAt q0.1 0)).bind fun b => (cBool (resAt q0.1 1)).bind fun b1 => K0 b b1 else none
@[simp] theorem R25_r (b b1 : Bool) (K0 : Bool -> Bool -> R) : R25 (r25 b b1) K0 = K0 b b1 := by kernel_rfl
def c26 (k : Nat) (p p1 : Int) (p2 p3 v t : List PV) : R := evF P E T k 26 [.s (.c (.p (PV.agg [.int .i64 p, .int .i64 p1, .row 2 0 p2, .row 2 0 p3]))), .s (.c (.p (PV.agg [.row 0 0 v]))), .s (.c (.p (PV.row 2 0 t)))] []
def r26 (l : List PV) (b : Bool) : R := some ([.agg [.p (PV.row 0 0 l)], .c (.p (PV.bool b))], [])
def R26 (x0 : R) (K0 : List PV -> Bool -> R) : R := x0.bind fun q0 => bif lensB q0.2 [] && lensS q0.1 [.agg [.p (.row 0)], .c (.p (.bool))] then (cRow (Dp.partAt q0.1 0 0) 0).bind fun l => (cBool (resAt q0.1 1)).bind fun b => K0 l b else none
@[simp] theorem R26_r (l : List PV) (b : Bool) (K0 : List PV -> Bool -> R) : R26 (r26 l b) K0 = K0 l b := by kernel_rfl
def c27 (k : Nat) (code : List PV) : R := evF P E T k 27 [.s (.c (.p (PV.row 0 0 code)))] []
def r27 (qr qr1 : Int) (l l1 l2 : List PV) (qr2 : Int) : R := some ([.agg [.p (PV.int .i64 qr), .p (PV.int .i64 qr1), .p (PV.row 2 0 l), .p (PV.row 2 0 l1)], .agg [.p (PV.row 0 0 l2)], .c (.p (PV.int .i64 qr2))], [])
def R27 (x0 : R) (K0 : Int -> Int -> List PV -> List PV -> List PV -> Int -> R) : R := x0.bind fun q0 => bif lensB q0.2 [] && lensS q0.1 [.agg [.p (.int .i64), .p (.int .i64), .p (.row 2), .p (.row 2)], .agg [.p (.row 0)], .c (.p (.int .i64))] then (cInt (Dp.partAt q0.1 0 0) .i64).bind fun qr => (cInt (Dp.partAt q0.1 0 1) .i64).bind fun qr1 => (cRow (Dp.partAt q0.1 0 2) 2).bind fun l => (cRow (Dp.partAt q0.1 0 3) 2).bind fun l1 => (cRow (Dp.partAt q0.1 1 0) 0).bind fun l2 => (cInt (resAt q0.1 2) .i64).bind fun qr2 => K0 qr qr1 l l1 l2 qr2 else none
@[simp] theorem R27_r (qr qr1 : Int) (l l1 l2 : List PV) (qr2 : Int) (K0 : Int -> Int -> List PV -> List PV -> List PV -> Int -> R) : R27 (r27 qr qr1 l l1 l2 qr2) K0 = K0 qr qr1 l l1 l2 qr2 := by kernel_rfl
def c28 (k : Nat) (p p1 : Int) (p2 p3 v : List PV) (class1 : Int) : R := evF P E T k 28 [.s (.c (.p (PV.agg [.int .i64 p, .int .i64 p1, .row 2 0 p2, .row 2 0 p3]))), .s (.c (.p (PV.agg [.row 0 0 v]))), .s (.c (.p (PV.int .i64 class1)))] []
def r28 (l : List PV) (b : Bool) : R := some ([.c (.p (PV.row 0 0 l)), .c (.p (PV.bool b))], [])
def R28 (x0 : R) (K0 : List PV -> Bool -> R) : R := x0.bind fun q0 => bif lensB q0.2 [] && lensS q0.1 [.c (.p (.row 0)), .c (.p (.bool))] then (cRow (resAt q0.1 0) 0).bind fun l => (cBool (resAt q0.1 1)).bind fun b => K0 l b else none
@[simp] theorem R28_r (l : List PV) (b : Bool) (K0 : List PV -> Bool -> R) : R28 (r28 l b) K0 = K0 l b := by kernel_rfl
def c29 (k : Nat) (p p1 : Int) (p2 p3 v : List PV) (class1 : Int) : R := evF P E T k 29 [.s (.c (.p (PV.agg [.int .i64 p, .int .i64 p1, .row 2 0 p2, .row 2 0 p3]))), .s (.c (.p (PV.agg [.row 0 0 v]))), .s (.c (.p (PV.int .i64 class1)))] []
def r29 (l : List PV) (b : Bool) : R := some ([.c (.p (PV.row 0 0 l)), .c (.p (PV.bool b))], [])
def R29 (x0 : R) (K0 : List PV -> Bool -> R) : R := x0.bind fun q0 => bif lensB q0.2 [] && lensS q0.1 [.c (.p (.row 0)), .c (.p (.bool))] then (cRow (resAt q0.1 0) 0).bind fun l => (cBool (resAt q0.1 1)).bind fun b => K0 l b else none
@[simp] theorem R29_r (l : List PV) (b : Bool) (K0 : List PV -> Bool -> R) : R29 (r29 l b) K0 = K0 l b := by kernel_rfl
def c30 (k : Nat) (p p1 : Int) (p2 p3 v : List PV) (class1 : Int) : R := evF P E T k 30 [.s (.c (.p (PV.agg [.int .i64 p, .int .i64 p1, .row 2 0 p2, .row 2 0 p3]))), .s (.c (.p (PV.agg [.row 0 0 v]))), .s (.c (.p (PV.int .i64 class1)))] []
def r30 (l : List PV) (b : Bool) : R := some ([.c (.p (PV.row 0 0 l)), .c (.p (PV.bool b))], [])
def R30 (x0 : R) (K0 : List PV -> Bool -> R) : R := x0.bind fun q0 => bif lensB q0.2 [] && lensS q0.1 [.c (.p (.row 0)), .c (.p (.bool))] then (cRow (resAt q0.1 0) 0).bind fun l => (cBool (resAt q0.1 1)).bind fun b => K0 l b else none
@[simp] theorem R30_r (l : List PV) (b : Bool) (K0 : List PV -> Bool -> R) : R30 (r30 l b) K0 = K0 l b := by kernel_rfl
def c31 (k : Nat) (p p1 : Int) (p2 p3 v : List PV) (class1 : Int) : R := evF P E T k 31 [.s (.c (.p (PV.agg [.int .i64 p, .int .i64 p1, .row 2 0 p2, .row 2 0 p3]))), .s (.c (.p (PV.agg [.row 0 0 v]))), .s (.c (.p (PV.int .i64 class1)))] []
def r31 (l : List PV) (b : Bool) : R := some ([.c (.p (PV.row 0 0 l)), .c (.p (PV.bool b))], [])
def R31 (x0 : R) (K0 : List PV -> Bool -> R) : R := x0.bind fun q0 => bif lensB q0.2 [] && lensS q0.1 [.c (.p (.row 0)), .c (.p (.bool))] then (cRow (resAt q0.1 0) 0).bind fun l => (cBool (resAt q0.1 1)).bind fun b => K0 l b else none
@[simp] theorem R31_r (l : List PV) (b : Bool) (K0 : List PV -> Bool -> R) : R31 (r31 l b) K0 = K0 l b := by kernel_rfl
def c32 (k : Nat) (some1 in1 : List PV) : R := evF P E T k 32 [.s (.c (.p (PV.row 0 0 some1))), .s (.c (.p (PV.row 0 0 in1)))] []
def r32 (b : Bool) : R := some ([.c (.p (PV.bool b))], [])
def R32 (x0 : R) (K0 : Bool -> R) : R := x0.bind fun q0 => bif lensB q0.2 [] && lensS q0.1 [.c (.p (.bool))] then (cBool (resAt q0.1 0)).bind fun b => K0 b else none
@[simp] theorem R32_r (b : Bool) (K0 : Bool -> R) : R32 (r32 b) K0 = K0 b := by kernel_rfl
def L32_1 (k n : Nat) (in1 t7 : List PV) (t8 t9 : Int) : R := evLoopAt P E T k 32 32 [] [1, 0, 1, 0] [] n ⟨mkT 18 [(1, .s (.c (.p (PV.row 0 0 in1)))), (7, .s (.c (.p (PV.row 0 0 t7)))), (8, .s (.c (.p (PV.int .i64 t8)))), (9, .s (.c (.p (PV.int .i64 t9))))], []⟩
def c44 (k : Nat) (l : List PV) (n1 n11 : Int) : R := evF P E T k 44 [.s (.c (.bptr 0 0))] [[.p (PV.row 0 0 l), .p (PV.int .i64 n1), .p (PV.int .u64 n11)]]
def r44 (l : List PV) (qr qr1 qr2 qr3 : Int) (l1 l2 : List PV) : R := some ([.agg [.p (PV.int .i64 qr2), .p (PV.int .i64 qr3), .p (PV.row 2 0 l1), .p (PV.row 2 0 l2)]], [[.p (PV.row 0 0 l), .p (PV.int .i64 qr), .p (PV.int .u64 qr1)]])
def R44 (x0 : R) (K0 : List PV -> Int -> Int -> Int -> Int -> List PV -> List PV -> R) : R := x0.bind fun q0 => bif lensB q0.2 [[.p (.row 0), .p (.int .i64), .p (.int .u64)]] && lensS q0.1 [.agg [.p (.int .i64), .p (.int .i64), .p (.row 2), .p (.row 2)]] then (cRow (cellAt q0.2 0 0) 0).bind fun l => (cInt (cellAt q0.2 0 1) .i64).bind fun qr => (cInt (cellAt q0.2 0 2) .u64).bind fun qr1 => (cInt (Dp.partAt q0.1 0 0) .i64).bind fun qr2 => (cInt (Dp.partAt q0.1 0 1) .i64).bind fun qr3 => (cRow (Dp.partAt q0.1 0 2) 2).bind fun l1 => (cRow (Dp.partAt q0.1 0 3) 2).bind fun l2 => K0 l qr qr1 qr2 qr3 l1 l2 else none
@[simp] theorem R44_r (l : List PV) (qr qr1 qr2 qr3 : Int) (l1 l2 : List PV) (K0 : List PV -> Int -> Int -> Int -> Int -> List PV -> List PV -> R) : R44 (r44 l qr qr1 qr2 qr3 l1 l2) K0 = K0 l qr qr1 qr2 qr3 l1 l2 := by kernel_rfl
def L44_1 (k n : Nat) (wide vars : Int) (l : List PV) (n1 n11 n12 n13 : Int) (l1 l2 : List PV) : R := evLoopAt P E T k 44 44 [3] [1, 1, 1, 1, 0, 0] [] n ⟨mkT 67 [(0, .s (.c (.bptr 0 0))), (2, .s (.c (.bptr 1 0))), (3, .s (.c (.p (PV.int .i64 wide)))), (4, .s (.c (.p (PV.int .i64 vars))))], [.box [.p (PV.row 0 0 l), .p (PV.int .i64 n1), .p (PV.int .u64 n11)], .box [.p (PV.int .i64 n12), .p (PV.int .i64 n13), .p (PV.row 2 0 l1), .p (PV.row 2 0 l2)]]⟩
def c45 (k : Nat) (p p1 : Int) (p2 p3 l : List PV) (n1 n11 : Int) : R := evF P E T k 45 [.s (.c (.bptr 0 0)), .s (.c (.p (PV.agg [.int .i64 p, .int .i64 p1, .row 2 0 p2, .row 2 0 p3])))] [[.p (PV.row 0 0 l), .p (PV.int .i64 n1), .p (PV.int .u64 n11)]]
def r45 (l : List PV) (qr qr1 : Int) (l1 : List PV) : R := some ([.agg [.p (PV.row 0 0 l1)]], [[.p (PV.row 0 0 l), .p (PV.int .i64 qr), .p (PV.int .u64 qr1)]])
def R45 (x0 : R) (K0 : List PV -> Int -> Int -> List PV -> R) : R := x0.bind fun q0 => bif lensB q0.2 [[.p (.row 0), .p (.int .i64), .p (.int .u64)]] && lensS q0.1 [.agg [.p (.row 0)]] then (cRow (cellAt q0.2 0 0) 0).bind fun l => (cInt (cellAt q0.2 0 1) .i64).bind fun qr => (cInt (cellAt q0.2 0 2) .u64).bind fun qr1 => (cRow (Dp.partAt q0.1 0 0) 0).bind fun l1 => K0 l qr qr1 l1 else none
@[simp] theorem R45_r (l : List PV) (qr qr1 : Int) (l1 : List PV) (K0 : List PV -> Int -> Int -> List PV -> R) : R45 (r45 l qr qr1 l1) K0 = K0 l qr qr1 l1 := by kernel_rfl
def c48 (k : Nat) (n1 : Int) (l : List PV) (n11 n12 : Int) : R := evF P E T k 48 [.s (.c (.bptr 0 0)), .s (.c (.p (PV.int .i64 n1)))] [[.p (PV.row 0 0 l), .p (PV.int .i64 n11), .p (PV.int .u64 n12)]]
def r48 (l : List PV) (qr qr1 : Int) (b : Bool) : R := some ([.c (.p (PV.bool b))], [[.p (PV.row 0 0 l), .p (PV.int .i64 qr), .p (PV.int .u64 qr1)]])
def R48 (x0 : R) (K0 : List PV -> Int -> Int -> Bool -> R) : R := x0.bind fun q0 => bif lensB q0.2 [[.p (.row 0), .p (.int .i64), .p (.int .u64)]] && lensS q0.1 [.c (.p (.bool))] then (cRow (cellAt q0.2 0 0) 0).bind fun l => (cInt (cellAt q0.2 0 1) .i64).bind fun qr => (cInt (cellAt q0.2 0 2) .u64).bind fun qr1 => (cBool (resAt q0.1 0)).bind fun b => K0 l qr qr1 b else none
@[simp] theorem R48_r (l : List PV) (qr qr1 : Int) (b : Bool) (K0 : List PV -> Int -> Int -> Bool -> R) : R48 (r48 l qr qr1 b) K0 = K0 l qr qr1 b := by kernel_rfl
def c49 (k : Nat) (p p1 : Int) (p2 p3 v : List PV) : R := evF P E T k 49 [.s (.c (.p (PV.agg [.int .i64 p, .int .i64 p1, .row 2 0 p2, .row 2 0 p3]))), .s (.c (.p (PV.agg [.row 0 0 v])))] []
def r49 (b : Bool) : R := some ([.c (.p (PV.bool b))], [])
def R49 (x0 : R) (K0 : Bool -> R) : R := x0.bind fun q0 => bif lensB q0.2 [] && lensS q0.1 [.c (.p (.bool))] then (cBool (resAt q0.1 0)).bind fun b => K0 b else none
@[simp] theorem R49_r (b : Bool) (K0 : Bool -> R) : R49 (r49 b) K0 = K0 b := by kernel_rfl
def c50 (k : Nat) (p p1 : Int) (p2 p3 : List PV) : R := evF P E T k 50 [.s (.c (.p (PV.agg [.int .i64 p, .int .i64 p1, .row 2 0 p2, .row 2 0 p3])))] []
def r50 (qr : Int) : R := some ([.c (.p (PV.int .i64 qr))], [])
def R50 (x0 : R) (K0 : Int -> R) : R := x0.bind fun q0 => bif lensB q0.2 [] && lensS q0.1 [.c (.p (.int .i64))] then (cInt (resAt q0.1 0) .i64).bind fun qr => K0 qr else none
@[simp] theorem R50_r (qr : Int) (K0 : Int -> R) : R50 (r50 qr) K0 = K0 qr := by kernel_rfl
def c51 (k : Nat) (p p1 : Int) (p2 p3 v : List PV) : R := evF P E T k 51 [.s (.c (.p (PV.agg [.int .i64 p, .int .i64 p1, .row 2 0 p2, .row 2 0 p3]))), .s (.c (.p (PV.agg [.row 0 0 v])))] []
def r51 (b : Bool) : R := some ([.c (.p (PV.bool b))], [])
def R51 (x0 : R) (K0 : Bool -> R) : R := x0.bind fun q0 => bif lensB q0.2 [] && lensS q0.1 [.c (.p (.bool))] then (cBool (resAt q0.1 0)).bind fun b => K0 b else none
@[simp] theorem R51_r (b : Bool) (K0 : Bool -> R) : R51 (r51 b) K0 = K0 b := by kernel_rfl
def L51_1 (k n : Nat) (many : Int) (t20 : List PV) (t21 t22 : Int) : R := evLoopAt P E T k 51 51 [] [1, 1, 1, 0, 1, 0] [] n ⟨mkT 36 [(5, .s (.c (.p (PV.int .i64 many)))), (20, .s (.c (.p (PV.row 0 0 t20)))), (21, .s (.c (.p (PV.int .i64 t21)))), (22, .s (.c (.p (PV.int .i64 t22))))], []⟩
def c52 (k : Nat) (n1 lo hi : Int) : R := evF P E T k 52 [.s (.c (.p (PV.int .i64 n1))), .s (.c (.p (PV.int .i64 lo))), .s (.c (.p (PV.int .i64 hi)))] []
def r52 (b : Bool) : R := some ([.c (.p (PV.bool b))], [])
def R52 (x0 : R) (K0 : Bool -> R) : R := x0.bind fun q0 => bif lensB q0.2 [] && lensS q0.1 [.c (.p (.bool))] then (cBool (resAt q0.1 0)).bind fun b => K0 b else none
@[simp] theorem R52_r (b : Bool) (K0 : Bool -> R) : R52 (r52 b) K0 = K0 b := by kernel_rfl
def c54 (k : Nat) (p p1 : Int) (p2 p3 v : List PV) : R := evF P E T k 54 [.s (.c (.p (PV.agg [.int .i64 p, .int .i64 p1, .row 2 0 p2, .row 2 0 p3]))), .s (.c (.p (PV.agg [.row 0 0 v])))] []
def r54 (l : List PV) : R := some ([.c (.p (PV.row 0 0 l))], [])
def R54 (x0 : R) (K0 : List PV -> R) : R := x0.bind fun q0 => bif lensB q0.2 [] && lensS q0.1 [.c (.p (.row 0))] then (cRow (resAt q0.1 0) 0).bind fun l => K0 l else none
@[simp] theorem R54_r (l : List PV) (K0 : List PV -> R) : R54 (r54 l) K0 = K0 l := by kernel_rfl
def L54_1 (k n : Nat) (outLen : Nat) (t9 t10 n1 n11 : Int) (l l1 l2 xs : List PV) : R := evLoopAt P E T k 54 54 [] [1, 1, 0, 1, 0] [] n ⟨mkT 22 [(2, .s (.c (.bptr 0 0))), (3, .s (.c (.bptr 1 0))), (5, .s (.c (.loc 2 0 0 0 outLen))), (9, .s (.c (.p (PV.int .i64 t9)))), (10, .s (.c (.p (PV.int .i64 t10))))], [.box [.p (PV.int .i64 n1), .p (PV.int .i64 n11), .p (PV.row 2 0 l), .p (PV.row 2 0 l1)], .box [.p (PV.row 0 0 l2)], .arr 28 0 0 false xs]⟩
def c55 (k : Nat) (p p1 : Int) (p2 p3 v : List PV) : R := evF P E T k 55 [.s (.c (.p (PV.agg [.int .i64 p, .int .i64 p1, .row 2 0 p2, .row 2 0 p3]))), .s (.c (.p (PV.agg [.row 0 0 v])))] []
def r55 (l : List PV) : R := some ([.c (.p (PV.row 0 0 l))], [])
def R55 (x0 : R) (K0 : List PV -> R) : R := x0.bind fun q0 => bif lensB q0.2 [] && lensS q0.1 [.c (.p (.row 0))] then (cRow (resAt q0.1 0) 0).bind fun l => K0 l else none
@[simp] theorem R55_r (l : List PV) (K0 : List PV -> R) : R55 (r55 l) K0 = K0 l := by kernel_rfl
def L55_1 (k n : Nat) (outLen : Nat) (class1 n1 n11 : Int) (l l1 l2 xs : List PV) : R := evLoopAt P E T k 55 55 [] [1, 1, 0, 1, 0] [] n ⟨mkT 21 [(2, .s (.c (.bptr 0 0))), (3, .s (.c (.bptr 1 0))), (5, .s (.c (.loc 2 0 0 0 outLen))), (6, .s (.c (.p (PV.int .i64 class1))))], [.box [.p (PV.int .i64 n1), .p (PV.int .i64 n11), .p (PV.row 2 0 l), .p (PV.row 2 0 l1)], .box [.p (PV.row 0 0 l2)], .arr 28 0 0 false xs]⟩
def c56 (k : Nat) (v some1 : List PV) : R := evF P E T k 56 [.s (.c (.p (PV.agg [.row 0 0 v]))), .s (.c (.p (PV.row 0 0 some1)))] []
def r56 (l : List PV) : R := some ([.c (.own 3 0 l)], [])
def R56 (x0 : R) (K0 : List PV -> R) : R := x0.bind fun q0 => bif lensB q0.2 [] && lensS q0.1 [.c (.own 3 0)] then (asOwn 3 0 (resAt q0.1 0)).bind fun l => K0 l else none
@[simp] theorem R56_r (l : List PV) (K0 : List PV -> R) : R56 (r56 l) K0 = K0 l := by kernel_rfl
def R56p (x0 : R) (K0 : List PV -> R) : R := x0.bind fun q0 => bif q0.1.all plainS && q0.2.all (fun cs => cs.all plainC) then (bif lensB q0.2 [] && lensS q0.1 [.c (.own 3 0)] then (asOwn 3 0 (resAt q0.1 0)).bind fun l => K0 l else none) else none
def L56_1 (k n : Nat) (inLen : Nat) (t11 : List PV) (t12 t13 : Int) (l xs : List PV) : R := evLoopAt P E T k 56 56 [] [1, 1, 0, 1, 0] [] n ⟨mkT 27 [(2, .s (.c (.bptr 0 0))), (5, .s (.c (.loc 1 0 0 0 inLen))), (11, .s (.c (.p (PV.row 0 0 t11)))), (12, .s (.c (.p (PV.int .i64 t12)))), (13, .s (.c (.p (PV.int .i64 t13))))], [.box [.p (PV.row 0 0 l)], .arr 4 0 0 false xs]⟩
def c57 (k : Nat) (p p1 : Int) (p2 p3 t : List PV) : R := evF P E T k 57 [.s (.c (.p (PV.agg [.int .i64 p, .int .i64 p1, .row 2 0 p2, .row 2 0 p3]))), .s (.c (.p (PV.row 2 0 t)))] []
def r57 (l : List PV) : R := some ([.c (.p (PV.row 0 0 l))], [])
def R57 (x0 : R) (K0 : List PV -> R) : R := x0.bind fun q0 => bif lensB q0.2 [] && lensS q0.1 [.c (.p (.row 0))] then (cRow (resAt q0.1 0) 0).bind fun l => K0 l else none
@[simp] theorem R57_r (l : List PV) (K0 : List PV -> R) : R57 (r57 l) K0 = K0 l := by kernel_rfl
def L57_1 (k n : Nat) (t : List PV) (outLen : Nat) (t9 t10 n1 n11 : Int) (l l1 xs : List PV) : R := evLoopAt P E T k 57 57 [] [1, 1, 0, 1, 0] [] n ⟨mkT 25 [(1, .s (.c (.p (PV.row 2 0 t)))), (2, .s (.c (.bptr 0 0))), (5, .s (.c (.loc 1 0 0 0 outLen))), (9, .s (.c (.p (PV.int .i64 t9)))), (10, .s (.c (.p (PV.int .i64 t10))))], [.box [.p (PV.int .i64 n1), .p (PV.int .i64 n11), .p (PV.row 2 0 l), .p (PV.row 2 0 l1)], .arr 3 0 0 false xs]⟩
def c58 (k : Nat) (v states : List PV) : R := evF P E T k 58 [.s (.c (.p (PV.agg [.row 0 0 v]))), .s (.c (.p (PV.row 0 0 states)))] []
def r58 (l : List PV) : R := some ([.c (.p (PV.row 0 0 l))], [])
def R58 (x0 : R) (K0 : List PV -> R) : R := x0.bind fun q0 => bif lensB q0.2 [] && lensS q0.1 [.c (.p (.row 0))] then (cRow (resAt q0.1 0) 0).bind fun l => K0 l else none
@[simp] theorem R58_r (l : List PV) (K0 : List PV -> R) : R58 (r58 l) K0 = K0 l := by kernel_rfl
def L58_1 (k n : Nat) (outLen : Nat) (t8 : List PV) (t9 t10 : Int) (l xs : List PV) : R := evLoopAt P E T k 58 58 [] [1, 1, 0, 1, 0] [] n ⟨mkT 23 [(2, .s (.c (.bptr 0 0))), (5, .s (.c (.loc 1 0 0 0 outLen))), (8, .s (.c (.p (PV.row 0 0 t8)))), (9, .s (.c (.p (PV.int .i64 t9)))), (10, .s (.c (.p (PV.int .i64 t10))))], [.box [.p (PV.row 0 0 l)], .arr 3 0 0 false xs]⟩
def c59 (k : Nat) (p p1 : Int) (p2 p3 t : List PV) : R := evF P E T k 59 [.s (.c (.p (PV.agg [.int .i64 p, .int .i64 p1, .row 2 0 p2, .row 2 0 p3]))), .s (.c (.p (PV.row 2 0 t)))] []
def r59 (l : List PV) : R := some ([.c (.p (PV.row 0 0 l))], [])
def R59 (x0 : R) (K0 : List PV -> R) : R := x0.bind fun q0 => bif lensB q0.2 [] && lensS q0.1 [.c (.p (.row 0))] then (cRow (resAt q0.1 0) 0).bind fun l => K0 l else none
@[simp] theorem R59_r (l : List PV) (K0 : List PV -> R) : R59 (r59 l) K0 = K0 l := by kernel_rfl
def L59_1 (k n : Nat) (t : List PV) (outLen : Nat) (no n1 n11 : Int) (l l1 xs : List PV) : R := evLoopAt P E T k 59 59 [] [1, 1, 0, 1, 0] [] n ⟨mkT 24 [(1, .s (.c (.p (PV.row 2 0 t)))), (2, .s (.c (.bptr 0 0))), (5, .s (.c (.loc 1 0 0 0 outLen))), (6, .s (.c (.p (PV.int .i64 no))))], [.box [.p (PV.int .i64 n1), .p (PV.int .i64 n11), .p (PV.row 2 0 l), .p (PV.row 2 0 l1)], .arr 3 0 0 false xs]⟩
def c60 (k : Nat) (p p1 : Int) (p2 p3 v : List PV) : R := evF P E T k 60 [.s (.c (.p (PV.agg [.int .i64 p, .int .i64 p1, .row 2 0 p2, .row 2 0 p3]))), .s (.c (.p (PV.agg [.row 0 0 v])))] []
def r60 (l : List PV) : R := some ([.c (.p (PV.row 0 0 l))], [])
def R60 (x0 : R) (K0 : List PV -> R) : R := x0.bind fun q0 => bif lensB q0.2 [] && lensS q0.1 [.c (.p (.row 0))] then (cRow (resAt q0.1 0) 0).bind fun l => K0 l else none
@[simp] theorem R60_r (l : List PV) (K0 : List PV -> R) : R60 (r60 l) K0 = K0 l := by kernel_rfl
def c61 (k : Nat) (p p1 : Int) (p2 p3 v : List PV) : R := evF P E T k 61 [.s (.c (.p (PV.agg [.int .i64 p, .int .i64 p1, .row 2 0 p2, .row 2 0 p3]))), .s (.c (.p (PV.agg [.row 0 0 v])))] []
def r61 (l : List PV) : R := some ([.c (.p (PV.row 0 0 l))], [])
def R61 (x0 : R) (K0 : List PV -> R) : R := x0.bind fun q0 => bif lensB q0.2 [] && lensS q0.1 [.c (.p (.row 0))] then (cRow (resAt q0.1 0) 0).bind fun l => K0 l else none
@[simp] theorem R61_r (l : List PV) (K0 : List PV -> R) : R61 (r61 l) K0 = K0 l := by kernel_rfl
def c62f73 (k : Nat) (qs l : List PV) : R := evF P E T k 62 [.s (.c (.p (PV.row 0 0 qs))), .s (.c (.cfn 73 [PV.agg [.row 0 0 l]]))] []
def r62f73 (b : Bool) : R := some ([.c (.p (PV.bool b))], [])
def R62f73p (x0 : R) (K0 : Bool -> R) : R := x0.bind fun q0 => bif q0.1.all plainS && q0.2.all (fun cs => cs.all plainC) then (bif lensB q0.2 [] && lensS q0.1 [.c (.p (.bool))] then (cBool (resAt q0.1 0)).bind fun b => K0 b else none) else none
@[simp] theorem R62f73p_r (b : Bool) (K0 : Bool -> R) : R62f73p (r62f73 b) K0 = K0 b := by kernel_rfl
def c62f80 (k : Nat) (qs : List PV) (n1 n11 : Int) (l l1 l2 : List PV) : R := evF P E T k 62 [.s (.c (.p (PV.row 0 0 qs))), .s (.c (.cfn 80 [PV.agg [.int .i64 n1, .int .i64 n11, .row 2 0 l, .row 2 0 l1], PV.agg [.row 2 0 l2]]))] []
def r62f80 (b : Bool) : R := some ([.c (.p (PV.bool b))], [])
def R62f80p (x0 : R) (K0 : Bool -> R) : R := x0.bind fun q0 => bif q0.1.all plainS && q0.2.all (fun cs => cs.all plainC) then (bif lensB q0.2 [] && lensS q0.1 [.c (.p (.bool))] then (cBool (resAt q0.1 0)).bind fun b => K0 b else none) else none
@[simp] theorem R62f80p_r (b : Bool) (K0 : Bool -> R) : R62f80p (r62f80 b) K0 = K0 b := by kernel_rfl
def c62f143 (k : Nat) (qs : List PV) (n1 : Int) : R := evF P E T k 62 [.s (.c (.p (PV.row 0 0 qs))), .s (.c (.fn 143 [0]))] [[.p (PV.int .i64 n1)]]
def r62f143 (qr : Int) (b : Bool) : R := some ([.c (.p (PV.bool b))], [[.p (PV.int .i64 qr)]])
def R62f143p (x0 : R) (K0 : Int -> Bool -> R) : R := x0.bind fun q0 => bif q0.1.all plainS && q0.2.all (fun cs => cs.all plainC) then (bif lensB q0.2 [[.p (.int .i64)]] && lensS q0.1 [.c (.p (.bool))] then (cInt (cellAt q0.2 0 0) .i64).bind fun qr => (cBool (resAt q0.1 0)).bind fun b => K0 qr b else none) else none
@[simp] theorem R62f143p_r (qr : Int) (b : Bool) (K0 : Int -> Bool -> R) : R62f143p (r62f143 qr b) K0 = K0 qr b := by kernel_rfl
def c65 (k : Nat) (qs : List PV) (v : Int) : R := evF P E T k 65 [.s (.c (.p (PV.row 0 0 qs))), .s (.c (.p (PV.int .i64 v)))] []
def r65 (b : Bool) : R := some ([.c (.p (PV.bool b))], [])
def R65 (x0 : R) (K0 : Bool -> R) : R := x0.bind fun q0 => bif lensB q0.2 [] && lensS q0.1 [.c (.p (.bool))] then (cBool (resAt q0.1 0)).bind fun b => K0 b else none
@[simp] theorem R65_r (b : Bool) (K0 : Bool -> R) : R65 (r65 b) K0 = K0 b := by kernel_rfl
def c66 (k : Nat) (p p1 : Int) (p2 p3 : List PV) (no : Int) : R := evF P E T k 66 [.s (.c (.p (PV.agg [.int .i64 p, .int .i64 p1, .row 2 0 p2, .row 2 0 p3]))), .s (.c (.p (PV.int .i64 no)))] []
def r66 (l : List PV) : R := some ([.c (.p (PV.row 0 0 l))], [])
def R66 (x0 : R) (K0 : List PV -> R) : R := x0.bind fun q0 => bif lensB q0.2 [] && lensS q0.1 [.c (.p (.row 0))] then (cRow (resAt q0.1 0) 0).bind fun l => K0 l else none
@[simp] theorem R66_r (l : List PV) (K0 : List PV -> R) : R66 (r66 l) K0 = K0 l := by kernel_rfl
def L66_1 (k n : Nat) (no : Int) (qs : List PV) (outLen : Nat) (t14 : List PV) (t15 t16 n1 n11 : Int) (l l1 xs : List PV) : R := evLoopAt P E T k 66 66 [] [1, 1, 0, 1, 0] [] n ⟨mkT 44 [(1, .s (.c (.p (PV.int .i64 no)))), (2, .s (.c (.bptr 0 0))), (5, .s (.c (.p (PV.row 0 0 qs)))), (6, .s (.c (.loc 1 0 0 0 outLen))), (14, .s (.c (.p (PV.row 2 0 t14)))), (15, .s (.c (.p (PV.int .i64 t15)))), (16, .s (.c (.p (PV.int .i64 t16))))], [.box [.p (PV.int .i64 n1), .p (PV.int .i64 n11), .p (PV.row 2 0 l), .p (PV.row 2 0 l1)], .arr 3 0 0 false xs]⟩
def c67 (k : Nat) (p p1 : Int) (p2 p3 t qs : List PV) : R := evF P E T k 67 [.s (.c (.p (PV.agg [.int .i64 p, .int .i64 p1, .row 2 0 p2, .row 2 0 p3]))), .s (.c (.p (PV.row 2 0 t))), .s (.c (.p (PV.row 0 0 qs)))] []
def r67 (b : Bool) : R := some ([.c (.p (PV.bool b))], [])
def R67 (x0 : R) (K0 : Bool -> R) : R := x0.bind fun q0 => bif lensB q0.2 [] && lensS q0.1 [.c (.p (.bool))] then (cBool (resAt q0.1 0)).bind fun b => K0 b else none
@[simp] theorem R67_r (b : Bool) (K0 : Bool -> R) : R67 (r67 b) K0 = K0 b := by kernel_rfl
def c68 (k : Nat) (p p1 : Int) (p2 p3 : List PV) (no : Int) : R := evF P E T k 68 [.s (.c (.p (PV.agg [.int .i64 p, .int .i64 p1, .row 2 0 p2, .row 2 0 p3]))), .s (.c (.p (PV.int .i64 no)))] []
def r68 (l : List PV) : R := some ([.c (.p (PV.row 0 0 l))], [])
def R68 (x0 : R) (K0 : List PV -> R) : R := x0.bind fun q0 => bif lensB q0.2 [] && lensS q0.1 [.c (.p (.row 0))] then (cRow (resAt q0.1 0) 0).bind fun l => K0 l else none
@[simp] theorem R68_r (l : List PV) (K0 : List PV -> R) : R68 (r68 l) K0 = K0 l := by kernel_rfl
def L68_1 (k n : Nat) (no : Int) (outLen : Nat) (t9 t10 n1 n11 : Int) (l l1 xs : List PV) : R := evLoopAt P E T k 68 68 [] [1, 1, 0, 1, 0] [] n ⟨mkT 29 [(1, .s (.c (.p (PV.int .i64 no)))), (2, .s (.c (.bptr 0 0))), (5, .s (.c (.loc 1 0 0 0 outLen))), (9, .s (.c (.p (PV.int .i64 t9)))), (10, .s (.c (.p (PV.int .i64 t10))))], [.box [.p (PV.int .i64 n1), .p (PV.int .i64 n11), .p (PV.row 2 0 l), .p (PV.row 2 0 l1)], .arr 64 0 0 false xs]⟩
def c69 (k : Nat) (p p1 : Int) (p2 p3 : List PV) : R := evF P E T k 69 [.s (.c (.p (PV.agg [.int .i64 p, .int .i64 p1, .row 2 0 p2, .row 2 0 p3])))] []
def r69 (b : Bool) : R := some ([.c (.p (PV.bool b))], [])
def R69 (x0 : R) (K0 : Bool -> R) : R := x0.bind fun q0 => bif lensB q0.2 [] && lensS q0.1 [.c (.p (.bool))] then (cBool (resAt q0.1 0)).bind fun b => K0 b else none
@[simp] theorem R69_r (b : Bool) (K0 : Bool -> R) : R69 (r69 b) K0 = K0 b := by kernel_rfl
def c70 (k : Nat) (p p1 : Int) (p2 p3 : List PV) : R := evF P E T k 70 [.s (.c (.p (PV.agg [.int .i64 p, .int .i64 p1, .row 2 0 p2, .row 2 0 p3])))] []
def r70 (l : List PV) : R := some ([.c (.p (PV.row 0 0 l))], [])
def R70 (x0 : R) (K0 : List PV -> R) : R := x0.bind fun q0 => bif lensB q0.2 [] && lensS q0.1 [.c (.p (.row 0))] then (cRow (resAt q0.1 0) 0).bind fun l => K0 l else none
@[simp] theorem R70_r (l : List PV) (K0 : List PV -> R) : R70 (r70 l) K0 = K0 l := by kernel_rfl
def c71 (k : Nat) (code : List PV) : R := evF P E T k 71 [.s (.c (.p (PV.row 0 0 code)))] []
def r71 (qr qr1 : Int) (l l1 l2 l3 : List PV) : R := some ([.agg [.p (PV.int .i64 qr), .p (PV.int .i64 qr1), .p (PV.row 2 0 l), .p (PV.row 2 0 l1)], .agg [.p (PV.row 0 0 l2)], .c (.p (PV.row 2 0 l3))], [])
def R71 (x0 : R) (K0 : Int -> Int -> List PV -> List PV -> List PV -> List PV -> R) : R := x0.bind fun q0 => bif lensB q0.2 [] && lensS q0.1 [.agg [.p (.int .i64), .p (.int .i64), .p (.row 2), .p (.row 2)], .agg [.p (.row 0)], .c (.p (.row 2))] then (cInt (Dp.partAt q0.1 0 0) .i64).bind fun qr => (cInt (Dp.partAt q0.1 0 1) .i64).bind fun qr1 => (cRow (Dp.partAt q0.1 0 2) 2).bind fun l => (cRow (Dp.partAt q0.1 0 3) 2).bind fun l1 => (cRow (Dp.partAt q0.1 1 0) 0).bind fun l2 => (cRow (resAt q0.1 2) 2).bind fun l3 => K0 qr qr1 l l1 l2 l3 else none
@[simp] theorem R71_r (qr qr1 : Int) (l l1 l2 l3 : List PV) (K0 : Int -> Int -> List PV -> List PV -> List PV -> List PV -> R) : R71 (r71 qr qr1 l l1 l2 l3) K0 = K0 qr qr1 l l1 l2 l3 := by kernel_rfl
def c72 (k : Nat) (p p1 : Int) (p2 p3 t : List PV) : R := evF P E T k 72 [.s (.c (.p (PV.agg [.int .i64 p, .int .i64 p1, .row 2 0 p2, .row 2 0 p3]))), .s (.c (.p (PV.row 2 0 t)))] []
def r72 (b : Bool) : R := some ([.c (.p (PV.bool b))], [])
def R72 (x0 : R) (K0 : Bool -> R) : R := x0.bind fun q0 => bif lensB q0.2 [] && lensS q0.1 [.c (.p (.bool))] then (cBool (resAt q0.1 0)).bind fun b => K0 b else none
@[simp] theorem R72_r (b : Bool) (K0 : Bool -> R) : R72 (r72 b) K0 = K0 b := by kernel_rfl
def c73 (k : Nat) (class1 : Int) (l : List PV) : R := evF P E T k 73 [.s (.c (.p (PV.int .i64 class1))), .s (.c (.eptr (PV.agg [.row 0 0 l]) 1 0))] []
def r73 (b : Bool) : R := some ([.c (.p (PV.bool b))], [])
def R73 (x0 : R) (K0 : Bool -> R) : R := x0.bind fun q0 => bif lensB q0.2 [] && lensS q0.1 [.c (.p (.bool))] then (cBool (resAt q0.1 0)).bind fun b => K0 b else none
@[simp] theorem R73_r (b : Bool) (K0 : Bool -> R) : R73 (r73 b) K0 = K0 b := by kernel_rfl
def c74 (k : Nat) (p p1 : Int) (p2 p3 t : List PV) : R := evF P E T k 74 [.s (.c (.p (PV.agg [.int .i64 p, .int .i64 p1, .row 2 0 p2, .row 2 0 p3]))), .s (.c (.p (PV.row 2 0 t)))] []
def r74 (b : Bool) : R := some ([.c (.p (PV.bool b))], [])
def R74 (x0 : R) (K0 : Bool -> R) : R := x0.bind fun q0 => bif lensB q0.2 [] && lensS q0.1 [.c (.p (.bool))] then (cBool (resAt q0.1 0)).bind fun b => K0 b else none
@[simp] theorem R74_r (b : Bool) (K0 : Bool -> R) : R74 (r74 b) K0 = K0 b := by kernel_rfl
def c75 (k : Nat) (a b : List PV) : R := evF P E T k 75 [.s (.c (.p (PV.row 0 0 a))), .s (.c (.p (PV.row 0 0 b)))] []
def r75 (b : Bool) : R := some ([.c (.p (PV.bool b))], [])
def R75 (x0 : R) (K0 : Bool -> R) : R := x0.bind fun q0 => bif lensB q0.2 [] && lensS q0.1 [.c (.p (.bool))] then (cBool (resAt q0.1 0)).bind fun b => K0 b else none
@[simp] theorem R75_r (b : Bool) (K0 : Bool -> R) : R75 (r75 b) K0 = K0 b := by kernel_rfl
def L75_1 (k n : Nat) (b t7 : List PV) (t8 t9 : Int) : R := evLoopAt P E T k 75 75 [] [1, 0, 1, 0] [] n ⟨mkT 17 [(1, .s (.c (.p (PV.row 0 0 b)))), (7, .s (.c (.p (PV.row 0 0 t7)))), (8, .s (.c (.p (PV.int .i64 t8)))), (9, .s (.c (.p (PV.int .i64 t9))))], []⟩
def c76 (k : Nat) (v classes : List PV) : R := evF P E T k 76 [.s (.c (.p (PV.agg [.row 0 0 v]))), .s (.c (.p (PV.row 0 0 classes)))] []
def r76 (l : List PV) : R := some ([.c (.p (PV.row 0 0 l))], [])
def R76 (x0 : R) (K0 : List PV -> R) : R := x0.bind fun q0 => bif lensB q0.2 [] && lensS q0.1 [.c (.p (.row 0))] then (cRow (resAt q0.1 0) 0).bind fun l => K0 l else none
@[simp] theorem R76_r (l : List PV) (K0 : List PV -> R) : R76 (r76 l) K0 = K0 l := by kernel_rfl
def L76_1 (k n : Nat) (classes : List PV) (outLen : Nat) (t9 : List PV) (t10 t11 : Int) (xs : List PV) : R := evLoopAt P E T k 76 76 [] [1, 1, 0, 1, 0] [] n ⟨mkT 25 [(1, .s (.c (.p (PV.row 0 0 classes)))), (5, .s (.c (.loc 0 0 0 0 outLen))), (9, .s (.c (.p (PV.row 0 0 t9)))), (10, .s (.c (.p (PV.int .i64 t10)))), (11, .s (.c (.p (PV.int .i64 t11))))], [.arr 3 0 0 false xs]⟩
def c77 (k : Nat) (wide vars : Int) (t : List PV) : R := evF P E T k 77 [.s (.c (.p (PV.int .i64 wide))), .s (.c (.p (PV.int .i64 vars))), .s (.c (.p (PV.row 2 0 t)))] []
def r77 (b : Bool) : R := some ([.c (.p (PV.bool b))], [])
def R77 (x0 : R) (K0 : Bool -> R) : R := x0.bind fun q0 => bif lensB q0.2 [] && lensS q0.1 [.c (.p (.bool))] then (cBool (resAt q0.1 0)).bind fun b => K0 b else none
@[simp] theorem R77_r (b : Bool) (K0 : Bool -> R) : R77 (r77 b) K0 = K0 b := by kernel_rfl
def L77_1 (k n : Nat) (wide vars : Int) (stackLen : Nat) (t33 : List PV) (t34 t35 : Int) (xs : List PV) : R := evLoopAt P E T k 77 77 [] [1, 1, 1, 0, 1, 0] [] n ⟨mkT 80 [(0, .s (.c (.p (PV.int .i64 wide)))), (1, .s (.c (.p (PV.int .i64 vars)))), (7, .s (.c (.loc 0 0 0 0 stackLen))), (33, .s (.c (.p (PV.row 2 0 t33)))), (34, .s (.c (.p (PV.int .i64 t34)))), (35, .s (.c (.p (PV.int .i64 t35))))], [.arr 3 0 0 false xs]⟩
def c78 (k : Nat) (wide vars : Int) (t : List PV) : R := evF P E T k 78 [.s (.c (.p (PV.int .i64 wide))), .s (.c (.p (PV.int .i64 vars))), .s (.c (.p (PV.row 2 0 t)))] []
def r78 (l : List PV) (b : Bool) : R := some ([.c (.p (PV.row 2 0 l)), .c (.p (PV.bool b))], [])
def R78 (x0 : R) (K0 : List PV -> Bool -> R) : R := x0.bind fun q0 => bif lensB q0.2 [] && lensS q0.1 [.c (.p (.row 2)), .c (.p (.bool))] then (cRow (resAt q0.1 0) 2).bind fun l => (cBool (resAt q0.1 1)).bind fun b => K0 l b else none
@[simp] theorem R78_r (l : List PV) (b : Bool) (K0 : List PV -> Bool -> R) : R78 (r78 l b) K0 = K0 l b := by kernel_rfl
def c79 (k : Nat) (qs : List PV) : R := evF P E T k 79 [.s (.c (.p (PV.row 2 0 qs)))] []
def r79 (l : List PV) : R := some ([.c (.own 96 2 l)], [])
def R79 (x0 : R) (K0 : List PV -> R) : R := x0.bind fun q0 => bif lensB q0.2 [] && lensS q0.1 [.c (.own 96 2)] then (asOwn 96 2 (resAt q0.1 0)).bind fun l => K0 l else none
@[simp] theorem R79_r (l : List PV) (K0 : List PV -> R) : R79 (r79 l) K0 = K0 l := by kernel_rfl
def c80 (k : Nat) (no n1 n11 : Int) (l l1 l2 : List PV) : R := evF P E T k 80 [.s (.c (.p (PV.int .i64 no))), .s (.c (.eptr (PV.agg [.int .i64 n1, .int .i64 n11, .row 2 0 l, .row 2 0 l1]) 4 0)), .s (.c (.eptr (PV.agg [.row 2 0 l2]) 1 0))] []
def r80 (b : Bool) : R := some ([.c (.p (PV.bool b))], [])
def R80 (x0 : R) (K0 : Bool -> R) : R := x0.bind fun q0 => bif lensB q0.2 [] && lensS q0.1 [.c (.p (.bool))] then (cBool (resAt q0.1 0)).bind fun b => K0 b else none
@[simp] theorem R80_r (b : Bool) (K0 : Bool -> R) : R80 (r80 b) K0 = K0 b := by kernel_rfl
def c81 (k : Nat) (p p1 : Int) (p2 p3 preds : List PV) : R := evF P E T k 81 [.s (.c (.p (PV.agg [.int .i64 p, .int .i64 p1, .row 2 0 p2, .row 2 0 p3]))), .s (.c (.p (PV.row 0 0 preds)))] []
def r81 (l : List PV) (b : Bool) : R := some ([.agg [.p (PV.row 0 0 l)], .c (.p (PV.bool b))], [])
def R81 (x0 : R) (K0 : List PV -> Bool -> R) : R := x0.bind fun q0 => bif lensB q0.2 [] && lensS q0.1 [.agg [.p (.row 0)], .c (.p (.bool))] then (cRow (Dp.partAt q0.1 0 0) 0).bind fun l => (cBool (resAt q0.1 1)).bind fun b => K0 l b else none
@[simp] theorem R81_r (l : List PV) (b : Bool) (K0 : List PV -> Bool -> R) : R81 (r81 l b) K0 = K0 l b := by kernel_rfl
def L81_1 (k n : Nat) (preds : List PV) (keysLen : Nat) (t25 t26 n1 n11 : Int) (l l1 l2 xs : List PV) : R := evLoopAt P E T k 81 81 [] [1, 1, 1, 0, 1, 0] [] n ⟨mkT 59 [(1, .s (.c (.p (PV.row 0 0 preds)))), (2, .s (.c (.bptr 0 0))), (4, .s (.c (.bptr 1 0))), (6, .s (.c (.loc 2 0 2 0 keysLen))), (25, .s (.c (.p (PV.int .i64 t25)))), (26, .s (.c (.p (PV.int .i64 t26))))], [.box [.p (PV.int .i64 n1), .p (PV.int .i64 n11), .p (PV.row 2 0 l), .p (PV.row 2 0 l1)], .box [.p (PV.row 0 0 l2)], .arr 147 2 0 false xs]⟩
def L81_2 (k n1 n : Nat) (preds : List PV) (keysLen : Nat) (no : Int) (qs : List PV) (t25 t26 : Int) (t32 : List PV) (t33 t34 n11 n12 : Int) (l l1 l2 xs : List PV) : R := evLoopAt P E T k 81 81 [] [1, 1, 1, 0, 1, 0, 0, 1, 1, 0, 0, 1, 1, 1, 0] [n1] n ⟨mkT 59 [(1, .s (.c (.p (PV.row 0 0 preds)))), (2, .s (.c (.bptr 0 0))), (4, .s (.c (.bptr 1 0))), (6, .s (.c (.loc 2 0 2 0 keysLen))), (7, .s (.c (.p (PV.int .i64 no)))), (8, .s (.c (.p (PV.row 0 0 qs)))), (25, .s (.c (.p (PV.int .i64 t25)))), (26, .s (.c (.p (PV.int .i64 t26)))), (32, .s (.c (.p (PV.row 0 0 t32)))), (33, .s (.c (.p (PV.int .i64 t33)))), (34, .s (.c (.p (PV.int .i64 t34))))], [.box [.p (PV.int .i64 n11), .p (PV.int .i64 n12), .p (PV.row 2 0 l), .p (PV.row 2 0 l1)], .box [.p (PV.row 0 0 l2)], .arr 147 2 0 false xs]⟩
def c82 (k : Nat) (a b : List PV) : R := evF P E T k 82 [.s (.c (.p (PV.agg [.row 0 0 a]))), .s (.c (.p (PV.agg [.row 0 0 b])))] []
def r82 (l : List PV) : R := some ([.agg [.p (PV.row 0 0 l)]], [])
def R82 (x0 : R) (K0 : List PV -> R) : R := x0.bind fun q0 => bif lensB q0.2 [] && lensS q0.1 [.agg [.p (.row 0)]] then (cRow (Dp.partAt q0.1 0 0) 0).bind fun l => K0 l else none
@[simp] theorem R82_r (l : List PV) (K0 : List PV -> R) : R82 (r82 l) K0 = K0 l := by kernel_rfl
def L82_1 (k n : Nat) (keysLen : Nat) (t10 : List PV) (t11 t12 : Int) (l l1 xs : List PV) : R := evLoopAt P E T k 82 82 [] [1, 1, 0, 1, 0] [] n ⟨mkT 30 [(3, .s (.c (.bptr 0 0))), (4, .s (.c (.bptr 1 0))), (5, .s (.c (.loc 2 0 2 0 keysLen))), (10, .s (.c (.p (PV.row 0 0 t10)))), (11, .s (.c (.p (PV.int .i64 t11)))), (12, .s (.c (.p (PV.int .i64 t12))))], [.box [.p (PV.row 0 0 l)], .box [.p (PV.row 0 0 l1)], .arr 147 2 0 false xs]⟩
def c83 (k : Nat) (code : List PV) : R := evF P E T k 83 [.s (.c (.p (PV.row 0 0 code)))] []
def r83 (qr qr1 : Int) (l l1 l2 : List PV) (qr2 : Int) : R := some ([.agg [.p (PV.int .i64 qr), .p (PV.int .i64 qr1), .p (PV.row 2 0 l), .p (PV.row 2 0 l1)], .agg [.p (PV.row 0 0 l2)], .c (.p (PV.int .i64 qr2))], [])
def R83 (x0 : R) (K0 : Int -> Int -> List PV -> List PV -> List PV -> Int -> R) : R := x0.bind fun q0 => bif lensB q0.2 [] && lensS q0.1 [.agg [.p (.int .i64), .p (.int .i64), .p (.row 2), .p (.row 2)], .agg [.p (.row 0)], .c (.p (.int .i64))] then (cInt (Dp.partAt q0.1 0 0) .i64).bind fun qr => (cInt (Dp.partAt q0.1 0 1) .i64).bind fun qr1 => (cRow (Dp.partAt q0.1 0 2) 2).bind fun l => (cRow (Dp.partAt q0.1 0 3) 2).bind fun l1 => (cRow (Dp.partAt q0.1 1 0) 0).bind fun l2 => (cInt (resAt q0.1 2) .i64).bind fun qr2 => K0 qr qr1 l l1 l2 qr2 else none
@[simp] theorem R83_r (qr qr1 : Int) (l l1 l2 : List PV) (qr2 : Int) (K0 : Int -> Int -> List PV -> List PV -> List PV -> Int -> R) : R83 (r83 qr qr1 l l1 l2 qr2) K0 = K0 qr qr1 l l1 l2 qr2 := by kernel_rfl
def c84 (k : Nat) (p p1 : Int) (p2 p3 v : List PV) (class1 : Int) : R := evF P E T k 84 [.s (.c (.p (PV.agg [.int .i64 p, .int .i64 p1, .row 2 0 p2, .row 2 0 p3]))), .s (.c (.p (PV.agg [.row 0 0 v]))), .s (.c (.p (PV.int .i64 class1)))] []
def r84 (b : Bool) : R := some ([.c (.p (PV.bool b))], [])
def R84 (x0 : R) (K0 : Bool -> R) : R := x0.bind fun q0 => bif lensB q0.2 [] && lensS q0.1 [.c (.p (.bool))] then (cBool (resAt q0.1 0)).bind fun b => K0 b else none
@[simp] theorem R84_r (b : Bool) (K0 : Bool -> R) : R84 (r84 b) K0 = K0 b := by kernel_rfl
def c85 (k : Nat) (p p1 : Int) (p2 p3 v : List PV) (class1 : Int) : R := evF P E T k 85 [.s (.c (.p (PV.agg [.int .i64 p, .int .i64 p1, .row 2 0 p2, .row 2 0 p3]))), .s (.c (.p (PV.agg [.row 0 0 v]))), .s (.c (.p (PV.int .i64 class1)))] []
def r85 (l : List PV) : R := some ([.c (.p (PV.row 0 0 l))], [])
def R85 (x0 : R) (K0 : List PV -> R) : R := x0.bind fun q0 => bif lensB q0.2 [] && lensS q0.1 [.c (.p (.row 0))] then (cRow (resAt q0.1 0) 0).bind fun l => K0 l else none
@[simp] theorem R85_r (l : List PV) (K0 : List PV -> R) : R85 (r85 l) K0 = K0 l := by kernel_rfl
def L85_1 (k n : Nat) (outLen : Nat) (t17 : List PV) (t18 t19 n1 n11 : Int) (l l1 l2 xs : List PV) : R := evLoopAt P E T k 85 85 [] [1, 1, 0, 1, 0] [] n ⟨mkT 33 [(3, .s (.c (.bptr 0 0))), (4, .s (.c (.bptr 1 0))), (7, .s (.c (.loc 2 0 0 0 outLen))), (17, .s (.c (.p (PV.row 0 0 t17)))), (18, .s (.c (.p (PV.int .i64 t18)))), (19, .s (.c (.p (PV.int .i64 t19))))], [.box [.p (PV.int .i64 n1), .p (PV.int .i64 n11), .p (PV.row 2 0 l), .p (PV.row 2 0 l1)], .box [.p (PV.row 0 0 l2)], .arr 3 0 0 false xs]⟩
def c86 (k : Nat) (p p1 : Int) (p2 p3 v : List PV) (class1 : Int) : R := evF P E T k 86 [.s (.c (.p (PV.agg [.int .i64 p, .int .i64 p1, .row 2 0 p2, .row 2 0 p3]))), .s (.c (.p (PV.agg [.row 0 0 v]))), .s (.c (.p (PV.int .i64 class1)))] []
def r86 (b : Bool) : R := some ([.c (.p (PV.bool b))], [])
def R86 (x0 : R) (K0 : Bool -> R) : R := x0.bind fun q0 => bif lensB q0.2 [] && lensS q0.1 [.c (.p (.bool))] then (cBool (resAt q0.1 0)).bind fun b => K0 b else none
@[simp] theorem R86_r (b : Bool) (K0 : Bool -> R) : R86 (r86 b) K0 = K0 b := by kernel_rfl
def c87 (k : Nat) (p p1 : Int) (p2 p3 v : List PV) (class1 : Int) : R := evF P E T k 87 [.s (.c (.p (PV.agg [.int .i64 p, .int .i64 p1, .row 2 0 p2, .row 2 0 p3]))), .s (.c (.p (PV.agg [.row 0 0 v]))), .s (.c (.p (PV.int .i64 class1)))] []
def r87 (l : List PV) : R := some ([.c (.p (PV.row 0 0 l))], [])
def R87 (x0 : R) (K0 : List PV -> R) : R := x0.bind fun q0 => bif lensB q0.2 [] && lensS q0.1 [.c (.p (.row 0))] then (cRow (resAt q0.1 0) 0).bind fun l => K0 l else none
@[simp] theorem R87_r (l : List PV) (K0 : List PV -> R) : R87 (r87 l) K0 = K0 l := by kernel_rfl
def L87_1 (k n : Nat) (class1 : Int) (outLen : Nat) (t16 : List PV) (t17 t18 n1 n11 : Int) (l l1 l2 xs : List PV) : R := evLoopAt P E T k 87 87 [] [1, 1, 0, 1, 0] [] n ⟨mkT 48 [(2, .s (.c (.p (PV.int .i64 class1)))), (3, .s (.c (.bptr 0 0))), (4, .s (.c (.bptr 1 0))), (7, .s (.c (.loc 2 0 0 0 outLen))), (16, .s (.c (.p (PV.row 0 0 t16)))), (17, .s (.c (.p (PV.int .i64 t17)))), (18, .s (.c (.p (PV.int .i64 t18))))], [.box [.p (PV.int .i64 n1), .p (PV.int .i64 n11), .p (PV.row 2 0 l), .p (PV.row 2 0 l1)], .box [.p (PV.row 0 0 l2)], .arr 3 0 0 false xs]⟩
def L87_2 (k n1 n : Nat) (class1 : Int) (outLen : Nat) (to : Int) (all : Bool) (t16 : List PV) (t17 t18 : Int) (t24 : List PV) (t25 t26 n11 n12 : Int) (l l1 l2 xs : List PV) : R := evLoopAt P E T k 87 87 [] [1, 1, 0, 1, 0, 0, 1, 1, 0, 0, 1, 1, 0, 1, 0] [n1] n ⟨mkT 48 [(2, .s (.c (.p (PV.int .i64 class1)))), (3, .s (.c (.bptr 0 0))), (4, .s (.c (.bptr 1 0))), (7, .s (.c (.loc 2 0 0 0 outLen))), (9, .s (.c (.p (PV.int .i64 to)))), (10, .s (.c (.p (PV.bool all)))), (16, .s (.c (.p (PV.row 0 0 t16)))), (17, .s (.c (.p (PV.int .i64 t17)))), (18, .s (.c (.p (PV.int .i64 t18)))), (24, .s (.c (.p (PV.row 0 0 t24)))), (25, .s (.c (.p (PV.int .i64 t25)))), (26, .s (.c (.p (PV.int .i64 t26))))], [.box [.p (PV.int .i64 n11), .p (PV.int .i64 n12), .p (PV.row 2 0 l), .p (PV.row 2 0 l1)], .box [.p (PV.row 0 0 l2)], .arr 3 0 0 false xs]⟩
def c88 (k : Nat) (p p1 : Int) (p2 p3 v : List PV) (class1 : Int) : R := evF P E T k 88 [.s (.c (.p (PV.agg [.int .i64 p, .int .i64 p1, .row 2 0 p2, .row 2 0 p3]))), .s (.c (.p (PV.agg [.row 0 0 v]))), .s (.c (.p (PV.int .i64 class1)))] []
def r88 (l : List PV) : R := some ([.c (.own 3 0 l)], [])
def R88 (x0 : R) (K0 : List PV -> R) : R := x0.bind fun q0 => bif lensB q0.2 [] && lensS q0.1 [.c (.own 3 0)] then (asOwn 3 0 (resAt q0.1 0)).bind fun l => K0 l else none
@[simp] theorem R88_r (l : List PV) (K0 : List PV -> R) : R88 (r88 l) K0 = K0 l := by kernel_rfl
def L88_1 (k n : Nat) (nextLen : Nat) (t13 : List PV) (t14 t15 n1 n11 : Int) (l l1 l2 xs : List PV) : R := evLoopAt P E T k 88 88 [] [1, 1, 0, 1, 0] [] n ⟨mkT 28 [(3, .s (.c (.bptr 0 0))), (4, .s (.c (.bptr 1 0))), (7, .s (.c (.loc 2 0 0 0 nextLen))), (13, .s (.c (.p (PV.row 0 0 t13)))), (14, .s (.c (.p (PV.int .i64 t14)))), (15, .s (.c (.p (PV.int .i64 t15))))], [.box [.p (PV.int .i64 n1), .p (PV.int .i64 n11), .p (PV.row 2 0 l), .p (PV.row 2 0 l1)], .box [.p (PV.row 0 0 l2)], .arr 3 0 0 false xs]⟩
def c89 (k : Nat) (p p1 : Int) (p2 p3 v : List PV) (class1 : Int) : R := evF P E T k 89 [.s (.c (.p (PV.agg [.int .i64 p, .int .i64 p1, .row 2 0 p2, .row 2 0 p3]))), .s (.c (.p (PV.agg [.row 0 0 v]))), .s (.c (.p (PV.int .i64 class1)))] []
def r89 (l : List PV) : R := some ([.c (.p (PV.row 0 0 l))], [])
def R89 (x0 : R) (K0 : List PV -> R) : R := x0.bind fun q0 => bif lensB q0.2 [] && lensS q0.1 [.c (.p (.row 0))] then (cRow (resAt q0.1 0) 0).bind fun l => K0 l else none
@[simp] theorem R89_r (l : List PV) (K0 : List PV -> R) : R89 (r89 l) K0 = K0 l := by kernel_rfl
def c101 (k : Nat) (v : List PV) (class1 : Int) : R := evF P E T k 101 [.s (.c (.p (PV.agg [.row 0 0 v]))), .s (.c (.p (PV.int .i64 class1)))] []
def r101 (l : List PV) : R := some ([.c (.p (PV.row 0 0 l))], [])
def R101 (x0 : R) (K0 : List PV -> R) : R := x0.bind fun q0 => bif lensB q0.2 [] && lensS q0.1 [.c (.p (.row 0))] then (cRow (resAt q0.1 0) 0).bind fun l => K0 l else none
@[simp] theorem R101_r (l : List PV) (K0 : List PV -> R) : R101 (r101 l) K0 = K0 l := by kernel_rfl
def L101_1 (k n : Nat) (class1 : Int) (outLen : Nat) (t10 : List PV) (t11 t12 : Int) (xs : List PV) : R := evLoopAt P E T k 101 101 [] [1, 1, 0, 1, 0] [] n ⟨mkT 26 [(1, .s (.c (.p (PV.int .i64 class1)))), (5, .s (.c (.loc 0 0 0 0 outLen))), (10, .s (.c (.p (PV.row 0 0 t10)))), (11, .s (.c (.p (PV.int .i64 t11)))), (12, .s (.c (.p (PV.int .i64 t12))))], [.arr 3 0 0 false xs]⟩
def c102 (k : Nat) (list l : List PV) (n1 n11 : Int) : R := evF P E T k 102 [.s (.c (.bptr 0 0)), .s (.c (.p (PV.row 0 0 list)))] [[.p (PV.row 0 0 l), .p (PV.int .i64 n1), .p (PV.int .u64 n11)]]
def r102 (l : List PV) (qr qr1 qr2 : Int) : R := some ([.c (.p (PV.int .i64 qr2))], [[.p (PV.row 0 0 l), .p (PV.int .i64 qr), .p (PV.int .u64 qr1)]])
def R102 (x0 : R) (K0 : List PV -> Int -> Int -> Int -> R) : R := x0.bind fun q0 => bif lensB q0.2 [[.p (.row 0), .p (.int .i64), .p (.int .u64)]] && lensS q0.1 [.c (.p (.int .i64))] then (cRow (cellAt q0.2 0 0) 0).bind fun l => (cInt (cellAt q0.2 0 1) .i64).bind fun qr => (cInt (cellAt q0.2 0 2) .u64).bind fun qr1 => (cInt (resAt q0.1 0) .i64).bind fun qr2 => K0 l qr qr1 qr2 else none
@[simp] theorem R102_r (l : List PV) (qr qr1 qr2 : Int) (K0 : List PV -> Int -> Int -> Int -> R) : R102 (r102 l qr qr1 qr2) K0 = K0 l qr qr1 qr2 := by kernel_rfl
def c103 (k : Nat) (n1 : Int) (l : List PV) (n11 n12 : Int) : R := evF P E T k 103 [.s (.c (.bptr 0 0)), .s (.c (.p (PV.int .i64 n1)))] [[.p (PV.row 0 0 l), .p (PV.int .i64 n11), .p (PV.int .u64 n12)]]
def r103 (l : List PV) (qr qr1 qr2 : Int) : R := some ([.c (.p (PV.int .i64 qr2))], [[.p (PV.row 0 0 l), .p (PV.int .i64 qr), .p (PV.int .u64 qr1)]])
def R103 (x0 : R) (K0 : List PV -> Int -> Int -> Int -> R) : R := x0.bind fun q0 => bif lensB q0.2 [[.p (.row 0), .p (.int .i64), .p (.int .u64)]] && lensS q0.1 [.c (.p (.int .i64))] then (cRow (cellAt q0.2 0 0) 0).bind fun l => (cInt (cellAt q0.2 0 1) .i64).bind fun qr => (cInt (cellAt q0.2 0 2) .u64).bind fun qr1 => (cInt (resAt q0.1 0) .i64).bind fun qr2 => K0 l qr qr1 qr2 else none
@[simp] theorem R103_r (l : List PV) (qr qr1 qr2 : Int) (K0 : List PV -> Int -> Int -> Int -> R) : R103 (r103 l qr qr1 qr2) K0 = K0 l qr qr1 qr2 := by kernel_rfl
def c104 (k : Nat) (wide vars : Int) (l : List PV) (n1 n11 : Int) : R := evF P E T k 104 [.s (.c (.bptr 0 0)), .s (.c (.p (PV.int .i64 wide))), .s (.c (.p (PV.int .i64 vars)))] [[.p (PV.row 0 0 l), .p (PV.int .i64 n1), .p (PV.int .u64 n11)]]
def r104 (l : List PV) (qr qr1 qr2 qr3 : Int) (l1 l2 : List PV) : R := some ([.agg [.p (PV.int .i64 qr2), .p (PV.int .i64 qr3), .p (PV.row 2 0 l1), .own ⟨114, some ⟨1, 116, 2, 0, none⟩⟩ 2 l2]], [[.p (PV.row 0 0 l), .p (PV.int .i64 qr), .p (PV.int .u64 qr1)]])
def R104 (x0 : R) (K0 : List PV -> Int -> Int -> Int -> Int -> List PV -> List PV -> R) : R := x0.bind fun q0 => bif lensB q0.2 [[.p (.row 0), .p (.int .i64), .p (.int .u64)]] && lensS q0.1 [.agg [.p (.int .i64), .p (.int .i64), .p (.row 2), .own ⟨114, some ⟨1, 116, 2, 0, none⟩⟩ 2]] then (cRow (cellAt q0.2 0 0) 0).bind fun l => (cInt (cellAt q0.2 0 1) .i64).bind fun qr => (cInt (cellAt q0.2 0 2) .u64).bind fun qr1 => (cInt (Dp.partAt q0.1 0 0) .i64).bind fun qr2 => (cInt (Dp.partAt q0.1 0 1) .i64).bind fun qr3 => (cRow (Dp.partAt q0.1 0 2) 2).bind fun l1 => (asOwn ⟨114, some ⟨1, 116, 2, 0, none⟩⟩ 2 (Dp.partAt q0.1 0 3)).bind fun l2 => K0 l qr qr1 qr2 qr3 l1 l2 else none
@[simp] theorem R104_r (l : List PV) (qr qr1 qr2 qr3 : Int) (l1 l2 : List PV) (K0 : List PV -> Int -> Int -> Int -> Int -> List PV -> List PV -> R) : R104 (r104 l qr qr1 qr2 qr3 l1 l2) K0 = K0 l qr qr1 qr2 qr3 l1 l2 := by kernel_rfl
def L104_1 (k n : Nat) (wide vars n1 : Int) (l : List PV) (n11 n12 n13 n14 : Int) (l1 l2 : List PV) (n15 n16 : Int) (Len Len1 : Nat) (xs xs1 : List PV) : R := evLoopAt P E T k 104 104 [3] [1, 1, 1, 1, 0, 1, 0] [] n ⟨mkT 44 [(0, .s (.c (.bptr 0 0))), (1, .s (.c (.p (PV.int .i64 wide)))), (2, .s (.c (.p (PV.int .i64 vars)))), (6, .s (.c (.bptr 1 0))), (7, .s (.c (.bptr 2 0))), (8, .s (.c (.p (PV.int .i64 n1))))], [.box [.p (PV.row 0 0 l), .p (PV.int .i64 n11), .p (PV.int .u64 n12)], .box [.p (PV.int .i64 n13), .p (PV.int .i64 n14), .p (PV.row 2 0 l1), .p (PV.row 2 0 l2)], .box [.p (PV.int .i64 n15), .p (PV.int .i64 n16), .loc 3 0 2 0 Len, .loc 4 0 2 0 Len1], .arr 96 2 0 false xs, .arr ⟨114, some ⟨1, 116, 2, 0, none⟩⟩ 2 0 false xs1]⟩
def c105 (k : Nat) (p p1 : Int) (p2 p3 preds : List PV) : R := evF P E T k 105 [.s (.c (.p (PV.agg [.int .i64 p, .int .i64 p1, .row 2 0 p2, .row 2 0 p3]))), .s (.c (.p (PV.row 0 0 preds)))] []
def r105 (l : List PV) (b : Bool) : R := some ([.agg [.own 3 0 l], .c (.p (PV.bool b))], [])
def R105 (x0 : R) (K0 : List PV -> Bool -> R) : R := x0.bind fun q0 => bif lensB q0.2 [] && lensS q0.1 [.agg [.own 3 0], .c (.p (.bool))] then (asOwn 3 0 (Dp.partAt q0.1 0 0)).bind fun l => (cBool (resAt q0.1 1)).bind fun b => K0 l b else none
@[simp] theorem R105_r (l : List PV) (b : Bool) (K0 : List PV -> Bool -> R) : R105 (r105 l b) K0 = K0 l b := by kernel_rfl
def c106 (k : Nat) (p p1 : Int) (p2 p3 : List PV) (most : Int) (l : List PV) (n1 n11 : Int) : R := evF P E T k 106 [.s (.c (.bptr 0 0)), .s (.c (.p (PV.agg [.int .i64 p, .int .i64 p1, .row 2 0 p2, .row 2 0 p3]))), .s (.c (.p (PV.int .i64 most)))] [[.p (PV.row 0 0 l), .p (PV.int .i64 n1), .p (PV.int .u64 n11)]]
def r106 (l : List PV) (qr qr1 : Int) (l1 : List PV) : R := some ([.c (.p (PV.row 0 0 l1))], [[.p (PV.row 0 0 l), .p (PV.int .i64 qr), .p (PV.int .u64 qr1)]])
def R106 (x0 : R) (K0 : List PV -> Int -> Int -> List PV -> R) : R := x0.bind fun q0 => bif lensB q0.2 [[.p (.row 0), .p (.int .i64), .p (.int .u64)]] && lensS q0.1 [.c (.p (.row 0))] then (cRow (cellAt q0.2 0 0) 0).bind fun l => (cInt (cellAt q0.2 0 1) .i64).bind fun qr => (cInt (cellAt q0.2 0 2) .u64).bind fun qr1 => (cRow (resAt q0.1 0) 0).bind fun l1 => K0 l qr qr1 l1 else none
@[simp] theorem R106_r (l : List PV) (qr qr1 : Int) (l1 : List PV) (K0 : List PV -> Int -> Int -> List PV -> R) : R106 (r106 l qr qr1 l1) K0 = K0 l qr qr1 l1 := by kernel_rfl
def L106_1 (k n : Nat) (lLen : Nat) (n1 : Int) (l : List PV) (n11 n12 n13 n14 : Int) (l1 l2 xs : List PV) : R := evLoopAt P E T k 106 106 [3] [1, 1, 0, 1, 0] [] n ⟨mkT 31 [(0, .s (.c (.bptr 0 0))), (4, .s (.c (.bptr 1 0))), (7, .s (.c (.loc 2 0 0 0 lLen))), (8, .s (.c (.p (PV.int .i64 n1))))], [.box [.p (PV.row 0 0 l), .p (PV.int .i64 n11), .p (PV.int .u64 n12)], .box [.p (PV.int .i64 n13), .p (PV.int .i64 n14), .p (PV.row 2 0 l1), .p (PV.row 2 0 l2)], .arr 24 0 0 false xs]⟩
def c107 (k : Nat) (p p1 : Int) (p2 p3 v some1 : List PV) : R := evF P E T k 107 [.s (.c (.p (PV.agg [.int .i64 p, .int .i64 p1, .row 2 0 p2, .row 2 0 p3]))), .s (.c (.p (PV.agg [.row 0 0 v]))), .s (.c (.p (PV.row 0 0 some1)))] []
def r107 (l : List PV) (b : Bool) : R := some ([.agg [.own 3 0 l], .c (.p (PV.bool b))], [])
def R107p (x0 : R) (K0 : List PV -> Bool -> R) : R := x0.bind fun q0 => bif q0.1.all plainS && q0.2.all (fun cs => cs.all plainC) then (bif lensB q0.2 [] && lensS q0.1 [.agg [.own 3 0], .c (.p (.bool))] then (asOwn 3 0 (Dp.partAt q0.1 0 0)).bind fun l => (cBool (resAt q0.1 1)).bind fun b => K0 l b else none) else none
def c108 (k : Nat) (n1 most : Int) (l : List PV) (n11 n12 : Int) : R := evF P E T k 108 [.s (.c (.bptr 0 0)), .s (.c (.p (PV.int .i64 n1))), .s (.c (.p (PV.int .i64 most)))] [[.p (PV.row 0 0 l), .p (PV.int .i64 n11), .p (PV.int .u64 n12)]]
def r108 (l : List PV) (qr qr1 : Int) (l1 : List PV) : R := some ([.c (.p (PV.row 0 0 l1))], [[.p (PV.row 0 0 l), .p (PV.int .i64 qr), .p (PV.int .u64 qr1)]])
def R108 (x0 : R) (K0 : List PV -> Int -> Int -> List PV -> R) : R := x0.bind fun q0 => bif lensB q0.2 [[.p (.row 0), .p (.int .i64), .p (.int .u64)]] && lensS q0.1 [.c (.p (.row 0))] then (cRow (cellAt q0.2 0 0) 0).bind fun l => (cInt (cellAt q0.2 0 1) .i64).bind fun qr => (cInt (cellAt q0.2 0 2) .u64).bind fun qr1 => (cRow (resAt q0.1 0) 0).bind fun l1 => K0 l qr qr1 l1 else none
@[simp] theorem R108_r (l : List PV) (qr qr1 : Int) (l1 : List PV) (K0 : List PV -> Int -> Int -> List PV -> R) : R108 (r108 l qr qr1 l1) K0 = K0 l qr qr1 l1 := by kernel_rfl
def L108_1 (k n : Nat) (n1 : Int) (lLen : Nat) (k1 : Int) (l : List PV) (n11 n12 : Int) (xs : List PV) : R := evLoopAt P E T k 108 108 [3] [1, 1, 0, 1, 0] [] n ⟨mkT 29 [(0, .s (.c (.bptr 0 0))), (1, .s (.c (.p (PV.int .i64 n1)))), (7, .s (.c (.loc 1 0 0 0 lLen))), (8, .s (.c (.p (PV.int .i64 k1))))], [.box [.p (PV.row 0 0 l), .p (PV.int .i64 n11), .p (PV.int .u64 n12)], .arr 3 0 0 false xs]⟩
def c111 (k : Nat) (p p1 : Int) (p2 p3 : List PV) (no : Int) : R := evF P E T k 111 [.s (.c (.p (PV.agg [.int .i64 p, .int .i64 p1, .row 2 0 p2, .row 2 0 p3]))), .s (.c (.p (PV.int .i64 no)))] []
def r111 (l : List PV) : R := some ([.c (.p (PV.row 0 0 l))], [])
def R111 (x0 : R) (K0 : List PV -> R) : R := x0.bind fun q0 => bif lensB q0.2 [] && lensS q0.1 [.c (.p (.row 0))] then (cRow (resAt q0.1 0) 0).bind fun l => K0 l else none
@[simp] theorem R111_r (l : List PV) (K0 : List PV -> R) : R111 (r111 l) K0 = K0 l := by kernel_rfl
def L111_1 (k n : Nat) (no : Int) (qs : List PV) (outLen : Nat) (t14 : List PV) (t15 t16 n1 n11 : Int) (l l1 xs : List PV) : R := evLoopAt P E T k 111 111 [] [1, 1, 1, 0, 1, 0] [] n ⟨mkT 35 [(1, .s (.c (.p (PV.int .i64 no)))), (2, .s (.c (.bptr 0 0))), (5, .s (.c (.p (PV.row 0 0 qs)))), (6, .s (.c (.loc 1 0 0 0 outLen))), (14, .s (.c (.p (PV.row 0 0 t14)))), (15, .s (.c (.p (PV.int .i64 t15)))), (16, .s (.c (.p (PV.int .i64 t16))))], [.box [.p (PV.int .i64 n1), .p (PV.int .i64 n11), .p (PV.row 2 0 l), .p (PV.row 2 0 l1)], .arr 3 0 0 false xs]⟩
def c113 (k : Nat) (v : List PV) (states : Int) : R := evF P E T k 113 [.s (.c (.p (PV.agg [.row 0 0 v]))), .s (.c (.p (PV.int .i64 states)))] []
def r113 (b : Bool) : R := some ([.c (.p (PV.bool b))], [])
def R113 (x0 : R) (K0 : Bool -> R) : R := x0.bind fun q0 => bif lensB q0.2 [] && lensS q0.1 [.c (.p (.bool))] then (cBool (resAt q0.1 0)).bind fun b => K0 b else none
@[simp] theorem R113_r (b : Bool) (K0 : Bool -> R) : R113 (r113 b) K0 = K0 b := by kernel_rfl
def L113_1 (k n : Nat) (states classes : Int) (t9 : List PV) (t10 t11 : Int) (l : List PV) : R := evLoopAt P E T k 113 113 [] [1, 1, 0, 1, 0] [] n ⟨mkT 33 [(1, .s (.c (.p (PV.int .i64 states)))), (2, .s (.c (.bptr 0 0))), (5, .s (.c (.p (PV.int .i64 classes)))), (9, .s (.c (.p (PV.row 0 0 t9)))), (10, .s (.c (.p (PV.int .i64 t10)))), (11, .s (.c (.p (PV.int .i64 t11))))], [.box [.p (PV.row 0 0 l)]]⟩
def c114 (k : Nat) (p p1 : Int) (p2 p3 : List PV) : R := evF P E T k 114 [.s (.c (.p (PV.agg [.int .i64 p, .int .i64 p1, .row 2 0 p2, .row 2 0 p3])))] []
def r114 (b : Bool) : R := some ([.c (.p (PV.bool b))], [])
def R114 (x0 : R) (K0 : Bool -> R) : R := x0.bind fun q0 => bif lensB q0.2 [] && lensS q0.1 [.c (.p (.bool))] then (cBool (resAt q0.1 0)).bind fun b => K0 b else none
@[simp] theorem R114_r (b : Bool) (K0 : Bool -> R) : R114 (r114 b) K0 = K0 b := by kernel_rfl
def c115 (k : Nat) (p p1 : Int) (p2 p3 : List PV) : R := evF P E T k 115 [.s (.c (.p (PV.agg [.int .i64 p, .int .i64 p1, .row 2 0 p2, .row 2 0 p3])))] []
def r115 (qr : Int) : R := some ([.c (.p (PV.int .i64 qr))], [])
def R115 (x0 : R) (K0 : Int -> R) : R := x0.bind fun q0 => bif lensB q0.2 [] && lensS q0.1 [.c (.p (.int .i64))] then (cInt (resAt q0.1 0) .i64).bind fun qr => K0 qr else none
@[simp] theorem R115_r (qr : Int) (K0 : Int -> R) : R115 (r115 qr) K0 = K0 qr := by kernel_rfl
def c116 (k : Nat) (v : List PV) : R := evF P E T k 116 [.s (.c (.p (PV.agg [.row 0 0 v])))] []
def r116 (qr : Int) : R := some ([.c (.p (PV.int .i64 qr))], [])
def R116 (x0 : R) (K0 : Int -> R) : R := x0.bind fun q0 => bif lensB q0.2 [] && lensS q0.1 [.c (.p (.int .i64))] then (cInt (resAt q0.1 0) .i64).bind fun qr => K0 qr else none
@[simp] theorem R116_r (qr : Int) (K0 : Int -> R) : R116 (r116 qr) K0 = K0 qr := by kernel_rfl
def c117 (k : Nat) (v : List PV) : R := evF P E T k 117 [.s (.c (.p (PV.agg [.row 0 0 v])))] []
def r117 (qr : Int) : R := some ([.c (.p (PV.int .i64 qr))], [])
def R117 (x0 : R) (K0 : Int -> R) : R := x0.bind fun q0 => bif lensB q0.2 [] && lensS q0.1 [.c (.p (.int .i64))] then (cInt (resAt q0.1 0) .i64).bind fun qr => K0 qr else none
@[simp] theorem R117_r (qr : Int) (K0 : Int -> R) : R117 (r117 qr) K0 = K0 qr := by kernel_rfl
def L117_1 (k n : Nat) (many : Int) (t7 : List PV) (t8 t9 : Int) : R := evLoopAt P E T k 117 117 [] [1, 1, 0, 1, 0] [] n ⟨mkT 20 [(3, .s (.c (.p (PV.int .i64 many)))), (7, .s (.c (.p (PV.row 0 0 t7)))), (8, .s (.c (.p (PV.int .i64 t8)))), (9, .s (.c (.p (PV.int .i64 t9))))], []⟩
def c118 (k : Nat) (list : List PV) : R := evF P E T k 118 [.s (.c (.p (PV.row 0 0 list)))] []
def r118 (l : List PV) : R := some ([.c (.own 3 0 l)], [])
def R118p (x0 : R) (K0 : List PV -> R) : R := x0.bind fun q0 => bif q0.1.all plainS && q0.2.all (fun cs => cs.all plainC) then (bif lensB q0.2 [] && lensS q0.1 [.c (.own 3 0)] then (asOwn 3 0 (resAt q0.1 0)).bind fun l => K0 l else none) else none
def L118_1 (k n : Nat) (outLen : Nat) (t7 : List PV) (t8 t9 : Int) (xs : List PV) : R := evLoopAt P E T k 118 118 [] [1, 1, 0, 1, 0] [] n ⟨mkT 21 [(3, .s (.c (.loc 0 0 0 0 outLen))), (7, .s (.c (.p (PV.row 0 0 t7)))), (8, .s (.c (.p (PV.int .i64 t8)))), (9, .s (.c (.p (PV.int .i64 t9))))], [.arr 3 0 0 false xs]⟩
def c119 (k : Nat) (l : List PV) (n1 : Int) : R := evF P E T k 119 [.s (.c (.own 3 0 l)), .s (.c (.p (PV.int .i64 n1)))] []
def r119 (l : List PV) : R := some ([.c (.own 3 0 l)], [])
def R119 (x0 : R) (K0 : List PV -> R) : R := x0.bind fun q0 => bif lensB q0.2 [] && lensS q0.1 [.c (.own 3 0)] then (asOwn 3 0 (resAt q0.1 0)).bind fun l => K0 l else none
@[simp] theorem R119_r (l : List PV) (K0 : List PV -> R) : R119 (r119 l) K0 = K0 l := by kernel_rfl
def L119_1 (k n : Nat) (lLen : Nat) (n1 k1 : Int) (xs : List PV) : R := evLoopAt P E T k 119 119 [] [1, 1, 0, 0] [] n ⟨mkT 48 [(0, .s (.c (.loc 0 0 0 0 lLen))), (1, .s (.c (.p (PV.int .i64 n1)))), (5, .s (.c (.p (PV.int .i64 k1))))], [.arr 3 0 0 false xs]⟩
def c120 (k : Nat) (p p1 : Int) (p2 p3 t qs : List PV) : R := evF P E T k 120 [.s (.c (.p (PV.agg [.int .i64 p, .int .i64 p1, .row 2 0 p2, .row 2 0 p3]))), .s (.c (.p (PV.row 2 0 t))), .s (.c (.p (PV.row 0 0 qs)))] []
def r120 (b : Bool) : R := some ([.c (.p (PV.bool b))], [])
def R120 (x0 : R) (K0 : Bool -> R) : R := x0.bind fun q0 => bif lensB q0.2 [] && lensS q0.1 [.c (.p (.bool))] then (cBool (resAt q0.1 0)).bind fun b => K0 b else none
@[simp] theorem R120_r (b : Bool) (K0 : Bool -> R) : R120 (r120 b) K0 = K0 b := by kernel_rfl
def c121 (k : Nat) (p p1 : Int) (p2 p3 : List PV) (no : Int) : R := evF P E T k 121 [.s (.c (.p (PV.agg [.int .i64 p, .int .i64 p1, .row 2 0 p2, .row 2 0 p3]))), .s (.c (.p (PV.int .i64 no)))] []
def r121 (l : List PV) : R := some ([.c (.p (PV.row 0 0 l))], [])
def R121 (x0 : R) (K0 : List PV -> R) : R := x0.bind fun q0 => bif lensB q0.2 [] && lensS q0.1 [.c (.p (.row 0))] then (cRow (resAt q0.1 0) 0).bind fun l => K0 l else none
@[simp] theorem R121_r (l : List PV) (K0 : List PV -> R) : R121 (r121 l) K0 = K0 l := by kernel_rfl
def L121_1 (k n : Nat) (no : Int) (outLen : Nat) (v n1 n11 : Int) (l l1 xs : List PV) : R := evLoopAt P E T k 121 121 [] [1, 1, 0, 1, 0] [] n ⟨mkT 31 [(1, .s (.c (.p (PV.int .i64 no)))), (2, .s (.c (.bptr 0 0))), (5, .s (.c (.loc 1 0 0 0 outLen))), (6, .s (.c (.p (PV.int .i64 v))))], [.box [.p (PV.int .i64 n1), .p (PV.int .i64 n11), .p (PV.row 2 0 l), .p (PV.row 2 0 l1)], .arr 64 0 0 false xs]⟩
def c122 (k : Nat) (g some1 : List PV) : R := evF P E T k 122 [.s (.c (.p (PV.row 0 0 g))), .s (.c (.p (PV.row 0 0 some1)))] []
def r122 (l : List PV) : R := some ([.c (.p (PV.row 0 0 l))], [])
def R122 (x0 : R) (K0 : List PV -> R) : R := x0.bind fun q0 => bif lensB q0.2 [] && lensS q0.1 [.c (.p (.row 0))] then (cRow (resAt q0.1 0) 0).bind fun l => K0 l else none
@[simp] theorem R122_r (l : List PV) (K0 : List PV -> R) : R122 (r122 l) K0 = K0 l := by kernel_rfl
def L122_1 (k n : Nat) (outLen : Nat) (t11 : List PV) (t12 t13 : Int) (xs : List PV) : R := evLoopAt P E T k 122 122 [] [1, 1, 0, 1, 0] [] n ⟨mkT 26 [(5, .s (.c (.loc 0 0 0 0 outLen))), (11, .s (.c (.p (PV.row 0 0 t11)))), (12, .s (.c (.p (PV.int .i64 t12)))), (13, .s (.c (.p (PV.int .i64 t13))))], [.arr 3 0 0 false xs]⟩
def c123 (k : Nat) (next from1 : List PV) : R := evF P E T k 123 [.s (.c (.p (PV.row 0 0 next))), .s (.c (.p (PV.row 0 0 from1)))] []
def r123 (l : List PV) : R := some ([.c (.p (PV.row 0 0 l))], [])
def R123 (x0 : R) (K0 : List PV -> R) : R := x0.bind fun q0 => bif lensB q0.2 [] && lensS q0.1 [.c (.p (.row 0))] then (cRow (resAt q0.1 0) 0).bind fun l => K0 l else none
@[simp] theorem R123_r (l : List PV) (K0 : List PV -> R) : R123 (r123 l) K0 = K0 l := by kernel_rfl
def L123_1 (k n : Nat) (outLen : Nat) (t10 : List PV) (t11 t12 : Int) (xs : List PV) : R := evLoopAt P E T k 123 123 [] [1, 1, 0, 1, 0] [] n ⟨mkT 25 [(5, .s (.c (.loc 0 0 0 0 outLen))), (10, .s (.c (.p (PV.row 0 0 t10)))), (11, .s (.c (.p (PV.int .i64 t11)))), (12, .s (.c (.p (PV.int .i64 t12))))], [.arr 3 0 0 false xs]⟩
def c124f73 (k : Nat) (qs l : List PV) : R := evF P E T k 124 [.s (.c (.p (PV.row 0 0 qs))), .s (.c (.cfn 73 [PV.agg [.row 0 0 l]]))] []
def r124f73 (qr : Int) : R := some ([.c (.p (PV.int .i64 qr))], [])
def R124f73p (x0 : R) (K0 : Int -> R) : R := x0.bind fun q0 => bif q0.1.all plainS && q0.2.all (fun cs => cs.all plainC) then (bif lensB q0.2 [] && lensS q0.1 [.c (.p (.int .i64))] then (cInt (resAt q0.1 0) .i64).bind fun qr => K0 qr else none) else none
@[simp] theorem R124f73p_r (qr : Int) (K0 : Int -> R) : R124f73p (r124f73 qr) K0 = K0 qr := by kernel_rfl
def L124f73_1 (k n : Nat) (qs l : List PV) (t7 t8 : Int) : R := evLoopAt P E T k 124 74124 [] [1, 0, 1, 0] [] n ⟨mkT 19 [(0, .s (.c (.p (PV.row 0 0 qs)))), (1, .s (.c (.cfn 73 [PV.agg [.row 0 0 l]]))), (7, .s (.c (.p (PV.int .i64 t7)))), (8, .s (.c (.p (PV.int .i64 t8))))], []⟩
def c124f80 (k : Nat) (qs : List PV) (n1 n11 : Int) (l l1 l2 : List PV) : R := evF P E T k 124 [.s (.c (.p (PV.row 0 0 qs))), .s (.c (.cfn 80 [PV.agg [.int .i64 n1, .int .i64 n11, .row 2 0 l, .row 2 0 l1], PV.agg [.row 2 0 l2]]))] []
def r124f80 (qr : Int) : R := some ([.c (.p (PV.int .i64 qr))], [])
def R124f80p (x0 : R) (K0 : Int -> R) : R := x0.bind fun q0 => bif q0.1.all plainS && q0.2.all (fun cs => cs.all plainC) then (bif lensB q0.2 [] && lensS q0.1 [.c (.p (.int .i64))] then (cInt (resAt q0.1 0) .i64).bind fun qr => K0 qr else none) else none
@[simp] theorem R124f80p_r (qr : Int) (K0 : Int -> R) : R124f80p (r124f80 qr) K0 = K0 qr := by kernel_rfl
def L124f80_1 (k n : Nat) (qs : List PV) (n1 n11 : Int) (l l1 l2 : List PV) (t7 t8 : Int) : R := evLoopAt P E T k 124 81124 [] [1, 0, 1, 0] [] n ⟨mkT 19 [(0, .s (.c (.p (PV.row 0 0 qs)))), (1, .s (.c (.cfn 80 [PV.agg [.int .i64 n1, .int .i64 n11, .row 2 0 l, .row 2 0 l1], PV.agg [.row 2 0 l2]]))), (7, .s (.c (.p (PV.int .i64 t7)))), (8, .s (.c (.p (PV.int .i64 t8))))], []⟩
def c124f143 (k : Nat) (qs : List PV) (n1 : Int) : R := evF P E T k 124 [.s (.c (.p (PV.row 0 0 qs))), .s (.c (.fn 143 [0]))] [[.p (PV.int .i64 n1)]]
def r124f143 (qr qr1 : Int) : R := some ([.c (.p (PV.int .i64 qr1))], [[.p (PV.int .i64 qr)]])
def R124f143 (x0 : R) (K0 : Int -> Int -> R) : R := x0.bind fun q0 => bif lensB q0.2 [[.p (.int .i64)]] && lensS q0.1 [.c (.p (.int .i64))] then (cInt (cellAt q0.2 0 0) .i64).bind fun qr => (cInt (resAt q0.1 0) .i64).bind fun qr1 => K0 qr qr1 else none
@[simp] theorem R124f143_r (qr qr1 : Int) (K0 : Int -> Int -> R) : R124f143 (r124f143 qr qr1) K0 = K0 qr qr1 := by kernel_rfl
def L124f143_1 (k n : Nat) (qs : List PV) (t7 t8 n1 : Int) : R := evLoopAt P E T k 124 144124 [1] [1, 0, 1, 0] [] n ⟨mkT 19 [(0, .s (.c (.p (PV.row 0 0 qs)))), (1, .s (.c (.fn 143 [0]))), (7, .s (.c (.p (PV.int .i64 t7)))), (8, .s (.c (.p (PV.int .i64 t8))))], [.box [.p (PV.int .i64 n1)]]⟩
def c124f147 (k : Nat) (qs l : List PV) : R := evF P E T k 124 [.s (.c (.p (PV.row 0 0 qs))), .s (.c (.cfn 147 [PV.agg [.row 0 0 l]]))] []
def r124f147 (qr : Int) : R := some ([.c (.p (PV.int .i64 qr))], [])
def R124f147p (x0 : R) (K0 : Int -> R) : R := x0.bind fun q0 => bif q0.1.all plainS && q0.2.all (fun cs => cs.all plainC) then (bif lensB q0.2 [] && lensS q0.1 [.c (.p (.int .i64))] then (cInt (resAt q0.1 0) .i64).bind fun qr => K0 qr else none) else none
@[simp] theorem R124f147p_r (qr : Int) (K0 : Int -> R) : R124f147p (r124f147 qr) K0 = K0 qr := by kernel_rfl
def L124f147_1 (k n : Nat) (qs l : List PV) (t7 t8 : Int) : R := evLoopAt P E T k 124 148124 [] [1, 0, 1, 0] [] n ⟨mkT 19 [(0, .s (.c (.p (PV.row 0 0 qs)))), (1, .s (.c (.cfn 147 [PV.agg [.row 0 0 l]]))), (7, .s (.c (.p (PV.int .i64 t7)))), (8, .s (.c (.p (PV.int .i64 t8))))], []⟩
def c125 (k : Nat) (qs : List PV) (v : Int) : R := evF P E T k 125 [.s (.c (.p (PV.row 0 0 qs))), .s (.c (.p (PV.int .i64 v)))] []
def r125 (qr : Int) : R := some ([.c (.p (PV.int .i64 qr))], [])
def R125 (x0 : R) (K0 : Int -> R) : R := x0.bind fun q0 => bif lensB q0.2 [] && lensS q0.1 [.c (.p (.int .i64))] then (cInt (resAt q0.1 0) .i64).bind fun qr => K0 qr else none
@[simp] theorem R125_r (qr : Int) (K0 : Int -> R) : R125 (r125 qr) K0 = K0 qr := by kernel_rfl
def L125_1 (k n : Nat) (qs : List PV) (v t7 t8 : Int) : R := evLoopAt P E T k 125 125 [] [1, 0, 1, 0] [] n ⟨mkT 19 [(0, .s (.c (.p (PV.row 0 0 qs)))), (1, .s (.c (.p (PV.int .i64 v)))), (7, .s (.c (.p (PV.int .i64 t7)))), (8, .s (.c (.p (PV.int .i64 t8))))], []⟩
def c126 (k : Nat) (p p1 : Int) (p2 p3 qs : List PV) : R := evF P E T k 126 [.s (.c (.p (PV.agg [.int .i64 p, .int .i64 p1, .row 2 0 p2, .row 2 0 p3]))), .s (.c (.p (PV.row 0 0 qs)))] []
def r126 (qr : Int) : R := some ([.c (.p (PV.int .i64 qr))], [])
def R126 (x0 : R) (K0 : Int -> R) : R := x0.bind fun q0 => bif lensB q0.2 [] && lensS q0.1 [.c (.p (.int .i64))] then (cInt (resAt q0.1 0) .i64).bind fun qr => K0 qr else none
@[simp] theorem R126_r (qr : Int) (K0 : Int -> R) : R126 (r126 qr) K0 = K0 qr := by kernel_rfl
def L126_1 (k n : Nat) (no : Int) (t8 : List PV) (t9 t10 n1 n11 : Int) (l l1 : List PV) : R := evLoopAt P E T k 126 126 [] [1, 1, 0, 1, 0] [] n ⟨mkT 26 [(2, .s (.c (.bptr 0 0))), (5, .s (.c (.p (PV.int .i64 no)))), (8, .s (.c (.p (PV.row 0 0 t8)))), (9, .s (.c (.p (PV.int .i64 t9)))), (10, .s (.c (.p (PV.int .i64 t10))))], [.box [.p (PV.int .i64 n1), .p (PV.int .i64 n11), .p (PV.row 2 0 l), .p (PV.row 2 0 l1)]]⟩
def c127 (k : Nat) (p p1 : Int) (p2 p3 qc qc1 qs : List PV) : R := evF P E T k 127 [.s (.c (.p (PV.agg [.int .i64 p, .int .i64 p1, .row 2 0 p2, .row 2 0 p3]))), .s (.c (.p (PV.agg [.row 2 0 qc, .row 2 0 qc1]))), .s (.c (.p (PV.row 0 0 qs)))] []
def r127 (l : List PV) : R := some ([.c (.p (PV.row 0 0 l))], [])
def R127 (x0 : R) (K0 : List PV -> R) : R := x0.bind fun q0 => bif lensB q0.2 [] && lensS q0.1 [.c (.p (.row 0))] then (cRow (resAt q0.1 0) 0).bind fun l => K0 l else none
@[simp] theorem R127_r (l : List PV) (K0 : List PV -> R) : R127 (r127 l) K0 = K0 l := by kernel_rfl
def L127_1 (k n : Nat) (qs : List PV) (outLen : Nat) (t13 : List PV) (t14 t15 n1 n11 : Int) (l l1 xs : List PV) : R := evLoopAt P E T k 127 127 [] [1, 1, 0, 1, 0] [] n ⟨mkT 31 [(2, .s (.c (.p (PV.row 0 0 qs)))), (3, .s (.c (.bptr 0 0))), (7, .s (.c (.loc 1 0 0 0 outLen))), (13, .s (.c (.p (PV.row 2 0 t13)))), (14, .s (.c (.p (PV.int .i64 t14)))), (15, .s (.c (.p (PV.int .i64 t15))))], [.box [.p (PV.int .i64 n1), .p (PV.int .i64 n11), .p (PV.row 2 0 l), .p (PV.row 2 0 l1)], .arr 64 0 0 false xs]⟩
def c130 (k : Nat) (wide : Int) (t state : List PV) : R := evF P E T k 130 [.s (.c (.p (PV.int .i64 wide))), .s (.c (.p (PV.row 2 0 t))), .s (.c (.p (PV.row 0 0 state)))] []
def r130 (qr : Int) : R := some ([.c (.p (PV.int .u64 qr))], [])
def R130 (x0 : R) (K0 : Int -> R) : R := x0.bind fun q0 => bif lensB q0.2 [] && lensS q0.1 [.c (.p (.int .u64))] then (cInt (resAt q0.1 0) .u64).bind fun qr => K0 qr else none
@[simp] theorem R130_r (qr : Int) (K0 : Int -> R) : R130 (r130 qr) K0 = K0 qr := by kernel_rfl
def L130_1 (k n : Nat) (wide : Int) (state : List PV) (stackLen : Nat) (t12 : List PV) (t13 t14 : Int) (xs : List PV) : R := evLoopAt P E T k 130 130 [] [1, 1, 0, 1, 0] [] n ⟨mkT 87 [(0, .s (.c (.p (PV.int .i64 wide)))), (2, .s (.c (.p (PV.row 0 0 state)))), (7, .s (.c (.loc 0 0 0 0 stackLen))), (12, .s (.c (.p (PV.row 2 0 t12)))), (13, .s (.c (.p (PV.int .i64 t13)))), (14, .s (.c (.p (PV.int .i64 t14))))], [.arr 64 0 0 false xs]⟩
def c131 (k : Nat) (wide : Int) : R := evF P E T k 131 [.s (.c (.p (PV.int .i64 wide)))] []
def r131 (qr : Int) : R := some ([.c (.p (PV.int .u64 qr))], [])
def R131 (x0 : R) (K0 : Int -> R) : R := x0.bind fun q0 => bif lensB q0.2 [] && lensS q0.1 [.c (.p (.int .u64))] then (cInt (resAt q0.1 0) .u64).bind fun qr => K0 qr else none
@[simp] theorem R131_r (qr : Int) (K0 : Int -> R) : R131 (r131 qr) K0 = K0 qr := by kernel_rfl
def c132 (k : Nat) (p p1 : Int) (p2 p3 : List PV) : R := evF P E T k 132 [.s (.c (.p (PV.agg [.int .i64 p, .int .i64 p1, .row 2 0 p2, .row 2 0 p3])))] []
def r132 (b : Bool) : R := some ([.c (.p (PV.bool b))], [])
def R132 (x0 : R) (K0 : Bool -> R) : R := x0.bind fun q0 => bif lensB q0.2 [] && lensS q0.1 [.c (.p (.bool))] then (cBool (resAt q0.1 0)).bind fun b => K0 b else none
@[simp] theorem R132_r (b : Bool) (K0 : Bool -> R) : R132 (r132 b) K0 = K0 b := by kernel_rfl
def c133 (k : Nat) (p p1 : Int) (p2 p3 : List PV) : R := evF P E T k 133 [.s (.c (.p (PV.agg [.int .i64 p, .int .i64 p1, .row 2 0 p2, .row 2 0 p3])))] []
def r133 (l : List PV) : R := some ([.c (.p (PV.row 0 0 l))], [])
def R133 (x0 : R) (K0 : List PV -> R) : R := x0.bind fun q0 => bif lensB q0.2 [] && lensS q0.1 [.c (.p (.row 0))] then (cRow (resAt q0.1 0) 0).bind fun l => K0 l else none
@[simp] theorem R133_r (l : List PV) (K0 : List PV -> R) : R133 (r133 l) K0 = K0 l := by kernel_rfl
def L133_1 (k n : Nat) (outLen : Nat) (t7 t8 n1 n11 : Int) (l l1 xs : List PV) : R := evLoopAt P E T k 133 133 [] [1, 1, 0, 1, 0] [] n ⟨mkT 19 [(1, .s (.c (.bptr 0 0))), (3, .s (.c (.loc 1 0 0 0 outLen))), (7, .s (.c (.p (PV.int .i64 t7)))), (8, .s (.c (.p (PV.int .i64 t8))))], [.box [.p (PV.int .i64 n1), .p (PV.int .i64 n11), .p (PV.row 2 0 l), .p (PV.row 2 0 l1)], .arr 28 0 0 false xs]⟩
def c134 (k : Nat) (wide vars deep : Int) (l : List PV) (n1 n11 : Int) : R := evF P E T k 134 [.s (.c (.bptr 0 0)), .s (.c (.p (PV.int .i64 wide))), .s (.c (.p (PV.int .i64 vars))), .s (.c (.p (PV.int .i64 deep)))] [[.p (PV.row 0 0 l), .p (PV.int .i64 n1), .p (PV.int .u64 n11)]]
def r134 (l : List PV) (qr qr1 : Int) (l1 : List PV) : R := some ([.c (.own 96 2 l1)], [[.p (PV.row 0 0 l), .p (PV.int .i64 qr), .p (PV.int .u64 qr1)]])
def R134 (x0 : R) (K0 : List PV -> Int -> Int -> List PV -> R) : R := x0.bind fun q0 => bif lensB q0.2 [[.p (.row 0), .p (.int .i64), .p (.int .u64)]] && lensS q0.1 [.c (.own 96 2)] then (cRow (cellAt q0.2 0 0) 0).bind fun l => (cInt (cellAt q0.2 0 1) .i64).bind fun qr => (cInt (cellAt q0.2 0 2) .u64).bind fun qr1 => (asOwn 96 2 (resAt q0.1 0)).bind fun l1 => K0 l qr qr1 l1 else none
@[simp] theorem R134_r (l : List PV) (qr qr1 : Int) (l1 : List PV) (K0 : List PV -> Int -> Int -> List PV -> R) : R134 (r134 l qr qr1 l1) K0 = K0 l qr qr1 l1 := by kernel_rfl
def c135 (k : Nat) (n1 : Int) : R := evF P E T k 135 [.s (.c (.p (PV.int .i64 n1)))] []
def r135 (qr : Int) : R := some ([.c (.p (PV.int .i64 qr))], [])
def R135 (x0 : R) (K0 : Int -> R) : R := x0.bind fun q0 => bif lensB q0.2 [] && lensS q0.1 [.c (.p (.int .i64))] then (cInt (resAt q0.1 0) .i64).bind fun qr => K0 qr else none
@[simp] theorem R135_r (qr : Int) (K0 : Int -> R) : R135 (r135 qr) K0 = K0 qr := by kernel_rfl
def c136 (k : Nat) (wide vars : Int) (t : List PV) (kind : Int) : R := evF P E T k 136 [.s (.c (.p (PV.int .i64 wide))), .s (.c (.p (PV.int .i64 vars))), .s (.c (.p (PV.row 2 0 t))), .s (.c (.p (PV.int .i64 kind)))] []
def r136 (b : Bool) : R := some ([.c (.p (PV.bool b))], [])
def R136 (x0 : R) (K0 : Bool -> R) : R := x0.bind fun q0 => bif lensB q0.2 [] && lensS q0.1 [.c (.p (.bool))] then (cBool (resAt q0.1 0)).bind fun b => K0 b else none
@[simp] theorem R136_r (b : Bool) (K0 : Bool -> R) : R136 (r136 b) K0 = K0 b := by kernel_rfl
def c137 (k : Nat) (wide vars : Int) (t : List PV) : R := evF P E T k 137 [.s (.c (.p (PV.int .i64 wide))), .s (.c (.p (PV.int .i64 vars))), .s (.c (.p (PV.row 2 0 t)))] []
def r137 (qr : Int) : R := some ([.c (.p (PV.int .i64 qr))], [])
def R137 (x0 : R) (K0 : Int -> R) : R := x0.bind fun q0 => bif lensB q0.2 [] && lensS q0.1 [.c (.p (.int .i64))] then (cInt (resAt q0.1 0) .i64).bind fun qr => K0 qr else none
@[simp] theorem R137_r (qr : Int) (K0 : Int -> R) : R137 (r137 qr) K0 = K0 qr := by kernel_rfl
def L137_1 (k n : Nat) (wide vars : Int) (pileLen : Nat) (t27 : List PV) (t28 t29 : Int) (xs : List PV) : R := evLoopAt P E T k 137 137 [] [1, 1, 1, 0, 1, 0] [] n ⟨mkT 83 [(0, .s (.c (.p (PV.int .i64 wide)))), (1, .s (.c (.p (PV.int .i64 vars)))), (7, .s (.c (.loc 0 0 0 0 pileLen))), (27, .s (.c (.p (PV.row 2 0 t27)))), (28, .s (.c (.p (PV.int .i64 t28)))), (29, .s (.c (.p (PV.int .i64 t29))))], [.arr 3 0 0 false xs]⟩
def L137_2 (k n1 n : Nat) (wide vars : Int) (pileLen : Nat) (many part own : Int) (t27 : List PV) (t28 t29 : Int) (xs : List PV) : R := evLoopAt P E T k 137 137 [] [1, 1, 1, 0, 1, 0, 0, 1, 1, 0, 0, 1, 1, 1, 0, 0] [n1] n ⟨mkT 83 [(0, .s (.c (.p (PV.int .i64 wide)))), (1, .s (.c (.p (PV.int .i64 vars)))), (7, .s (.c (.loc 0 0 0 0 pileLen))), (10, .s (.c (.p (PV.int .i64 many)))), (11, .s (.c (.p (PV.int .i64 part)))), (12, .s (.c (.p (PV.int .i64 own)))), (27, .s (.c (.p (PV.row 2 0 t27)))), (28, .s (.c (.p (PV.int .i64 t28)))), (29, .s (.c (.p (PV.int .i64 t29))))], [.arr 3 0 0 false xs]⟩
def c138 (k : Nat) (l : List PV) (n1 : Int) : R := evF P E T k 138 [.s (.c (.p (PV.row 0 0 l))), .s (.c (.p (PV.int .i64 n1)))] []
def r138 (b : Bool) : R := some ([.c (.p (PV.bool b))], [])
def R138 (x0 : R) (K0 : Bool -> R) : R := x0.bind fun q0 => bif lensB q0.2 [] && lensS q0.1 [.c (.p (.bool))] then (cBool (resAt q0.1 0)).bind fun b => K0 b else none
@[simp] theorem R138_r (b : Bool) (K0 : Bool -> R) : R138 (r138 b) K0 = K0 b := by kernel_rfl
def L138_1 (k n : Nat) (n1 : Int) (t7 : List PV) (t8 t9 : Int) : R := evLoopAt P E T k 138 138 [] [1, 0, 1, 0] [] n ⟨mkT 17 [(1, .s (.c (.p (PV.int .i64 n1)))), (7, .s (.c (.p (PV.row 0 0 t7)))), (8, .s (.c (.p (PV.int .i64 t8)))), (9, .s (.c (.p (PV.int .i64 t9))))], []⟩
def c139 (k : Nat) (n1 : Int) : R := evF P E T k 139 [.s (.c (.p (PV.int .i64 n1)))] []
def r139 (b : Bool) : R := some ([.c (.p (PV.bool b))], [])
def R139 (x0 : R) (K0 : Bool -> R) : R := x0.bind fun q0 => bif lensB q0.2 [] && lensS q0.1 [.c (.p (.bool))] then (cBool (resAt q0.1 0)).bind fun b => K0 b else none
@[simp] theorem R139_r (b : Bool) (K0 : Bool -> R) : R139 (r139 b) K0 = K0 b := by kernel_rfl
def c140 (k : Nat) (n1 : Int) : R := evF P E T k 140 [.s (.c (.p (PV.int .i64 n1)))] []
def r140 (b : Bool) : R := some ([.c (.p (PV.bool b))], [])
def R140 (x0 : R) (K0 : Bool -> R) : R := x0.bind fun q0 => bif lensB q0.2 [] && lensS q0.1 [.c (.p (.bool))] then (cBool (resAt q0.1 0)).bind fun b => K0 b else none
@[simp] theorem R140_r (b : Bool) (K0 : Bool -> R) : R140 (r140 b) K0 = K0 b := by kernel_rfl
def c141 (k : Nat) (op : Int) : R := evF P E T k 141 [.s (.c (.p (PV.int .i64 op)))] []
def r141 (qr qr1 qr2 : Int) : R := some ([.c (.p (PV.int .i64 qr)), .c (.p (PV.int .i64 qr1)), .c (.p (PV.int .i64 qr2))], [])
def R141 (x0 : R) (K0 : Int -> Int -> Int -> R) : R := x0.bind fun q0 => bif lensB q0.2 [] && lensS q0.1 [.c (.p (.int .i64)), .c (.p (.int .i64)), .c (.p (.int .i64))] then (cInt (resAt q0.1 0) .i64).bind fun qr => (cInt (resAt q0.1 1) .i64).bind fun qr1 => (cInt (resAt q0.1 2) .i64).bind fun qr2 => K0 qr qr1 qr2 else none
@[simp] theorem R141_r (qr qr1 qr2 : Int) (K0 : Int -> Int -> Int -> R) : R141 (r141 qr qr1 qr2) K0 = K0 qr qr1 qr2 := by kernel_rfl
def c142 (k : Nat) (wide vars x x1 : Int) : R := evF P E T k 142 [.s (.c (.p (PV.int .i64 wide))), .s (.c (.p (PV.int .i64 vars))), .s (.c (.p (PV.agg [.int .i64 x, .int .u64 x1])))] []
def r142 (b : Bool) : R := some ([.c (.p (PV.bool b))], [])
def R142 (x0 : R) (K0 : Bool -> R) : R := x0.bind fun q0 => bif lensB q0.2 [] && lensS q0.1 [.c (.p (.bool))] then (cBool (resAt q0.1 0)).bind fun b => K0 b else none
@[simp] theorem R142_r (b : Bool) (K0 : Bool -> R) : R142 (r142 b) K0 = K0 b := by kernel_rfl
def c143 (k : Nat) (own n1 : Int) : R := evF P E T k 143 [.s (.c (.p (PV.int .i64 own))), .s (.c (.bptr 0 0))] [[.p (PV.int .i64 n1)]]
def r143 (qr : Int) (b : Bool) : R := some ([.c (.p (PV.bool b))], [[.p (PV.int .i64 qr)]])
def R143 (x0 : R) (K0 : Int -> Bool -> R) : R := x0.bind fun q0 => bif lensB q0.2 [[.p (.int .i64)]] && lensS q0.1 [.c (.p (.bool))] then (cInt (cellAt q0.2 0 0) .i64).bind fun qr => (cBool (resAt q0.1 0)).bind fun b => K0 qr b else none
@[simp] theorem R143_r (qr : Int) (b : Bool) (K0 : Int -> Bool -> R) : R143 (r143 qr b) K0 = K0 qr b := by kernel_rfl
def c144 (k : Nat) (p p1 : Int) (p2 p3 preds : List PV) (least : Int) : R := evF P E T k 144 [.s (.c (.p (PV.agg [.int .i64 p, .int .i64 p1, .row 2 0 p2, .row 2 0 p3]))), .s (.c (.p (PV.row 0 0 preds))), .s (.c (.p (PV.int .i64 least)))] []
def r144 (b : Bool) : R := some ([.c (.p (PV.bool b))], [])
def R144 (x0 : R) (K0 : Bool -> R) : R := x0.bind fun q0 => bif lensB q0.2 [] && lensS q0.1 [.c (.p (.bool))] then (cBool (resAt q0.1 0)).bind fun b => K0 b else none
@[simp] theorem R144_r (b : Bool) (K0 : Bool -> R) : R144 (r144 b) K0 = K0 b := by kernel_rfl
def c145 (k : Nat) (keys : List PV) : R := evF P E T k 145 [.s (.c (.p (PV.row 2 0 keys)))] []
def r145 (l : List PV) : R := some ([.agg [.own 3 0 l]], [])
def R145p (x0 : R) (K0 : List PV -> R) : R := x0.bind fun q0 => bif q0.1.all plainS && q0.2.all (fun cs => cs.all plainC) then (bif lensB q0.2 [] && lensS q0.1 [.agg [.own 3 0]] then (asOwn 3 0 (Dp.partAt q0.1 0 0)).bind fun l => K0 l else none) else none
def c146f147 (k : Nat) (qs l : List PV) : R := evF P E T k 146 [.s (.c (.own 3 0 qs)), .s (.c (.cfn 147 [PV.agg [.row 0 0 l]]))] []
def r146f147 (l : List PV) : R := some ([.c (.own 3 0 l)], [])
def R146f147p (x0 : R) (K0 : List PV -> R) : R := x0.bind fun q0 => bif q0.1.all plainS && q0.2.all (fun cs => cs.all plainC) then (bif lensB q0.2 [] && lensS q0.1 [.c (.own 3 0)] then (asOwn 3 0 (resAt q0.1 0)).bind fun l => K0 l else none) else none
def L146f147_1 (k n : Nat) (sLen : Nat) (l : List PV) (i j : Int) (xs : List PV) : R := evLoopAt P E T k 146 148146 [] [1, 1, 1, 0, 1, 0] [] n ⟨mkT 42 [(0, .s (.c (.loc 0 0 0 0 sLen))), (1, .s (.c (.cfn 147 [PV.agg [.row 0 0 l]]))), (5, .s (.c (.p (PV.int .i64 i)))), (6, .s (.c (.p (PV.int .i64 j))))], [.arr 3 0 0 false xs]⟩
def c147 (k : Nat) (to : Int) (l : List PV) : R := evF P E T k 147 [.s (.c (.p (PV.int .i64 to))), .s (.c (.eptr (PV.agg [.row 0 0 l]) 1 0))] []
def r147 (b : Bool) : R := some ([.c (.p (PV.bool b))], [])
def R147 (x0 : R) (K0 : Bool -> R) : R := x0.bind fun q0 => bif lensB q0.2 [] && lensS q0.1 [.c (.p (.bool))] then (cBool (resAt q0.1 0)).bind fun b => K0 b else none
@[simp] theorem R147_r (b : Bool) (K0 : Bool -> R) : R147 (r147 b) K0 = K0 b := by kernel_rfl
def c148 (k : Nat) (v : List PV) (class1 : Int) : R := evF P E T k 148 [.s (.c (.p (PV.agg [.row 0 0 v]))), .s (.c (.p (PV.int .i64 class1)))] []
def r148 (l : List PV) : R := some ([.c (.p (PV.row 0 0 l))], [])
def R148 (x0 : R) (K0 : List PV -> R) : R := x0.bind fun q0 => bif lensB q0.2 [] && lensS q0.1 [.c (.p (.row 0))] then (cRow (resAt q0.1 0) 0).bind fun l => K0 l else none
@[simp] theorem R148_r (l : List PV) (K0 : List PV -> R) : R148 (r148 l) K0 = K0 l := by kernel_rfl
def L148_1 (k n : Nat) (class1 : Int) (outLen : Nat) (t9 : List PV) (t10 t11 : Int) (xs : List PV) : R := evLoopAt P E T k 148 148 [] [1, 1, 0, 1, 0] [] n ⟨mkT 25 [(1, .s (.c (.p (PV.int .i64 class1)))), (5, .s (.c (.loc 0 0 0 0 outLen))), (9, .s (.c (.p (PV.row 0 0 t9)))), (10, .s (.c (.p (PV.int .i64 t10)))), (11, .s (.c (.p (PV.int .i64 t11))))], [.arr 3 0 0 false xs]⟩
def c149 (k : Nat) (p p1 : Int) (p2 p3 some1 : List PV) : R := evF P E T k 149 [.s (.c (.p (PV.agg [.int .i64 p, .int .i64 p1, .row 2 0 p2, .row 2 0 p3]))), .s (.c (.p (PV.row 0 0 some1)))] []
def r149 (l : List PV) : R := some ([.c (.p (PV.row 0 0 l))], [])
def R149 (x0 : R) (K0 : List PV -> R) : R := x0.bind fun q0 => bif lensB q0.2 [] && lensS q0.1 [.c (.p (.row 0))] then (cRow (resAt q0.1 0) 0).bind fun l => K0 l else none
@[simp] theorem R149_r (l : List PV) (K0 : List PV -> R) : R149 (r149 l) K0 = K0 l := by kernel_rfl
def L149_1 (k n : Nat) (outLen : Nat) (t10 : List PV) (t11 t12 n1 n11 : Int) (l l1 xs : List PV) : R := evLoopAt P E T k 149 149 [] [1, 1, 0, 1, 0] [] n ⟨mkT 30 [(2, .s (.c (.bptr 0 0))), (5, .s (.c (.loc 1 0 0 0 outLen))), (10, .s (.c (.p (PV.row 0 0 t10)))), (11, .s (.c (.p (PV.int .i64 t11)))), (12, .s (.c (.p (PV.int .i64 t12))))], [.box [.p (PV.int .i64 n1), .p (PV.int .i64 n11), .p (PV.row 2 0 l), .p (PV.row 2 0 l1)], .arr 3 0 0 false xs]⟩
def L149_2 (k n1 n : Nat) (outLen : Nat) (t10 : List PV) (t11 t12 : Int) (t18 : List PV) (t19 t20 n11 n12 : Int) (l l1 xs : List PV) : R := evLoopAt P E T k 149 149 [] [1, 1, 0, 1, 0, 0, 1, 1, 0, 0, 1, 1, 0] [n1] n ⟨mkT 30 [(2, .s (.c (.bptr 0 0))), (5, .s (.c (.loc 1 0 0 0 outLen))), (10, .s (.c (.p (PV.row 0 0 t10)))), (11, .s (.c (.p (PV.int .i64 t11)))), (12, .s (.c (.p (PV.int .i64 t12)))), (18, .s (.c (.p (PV.row 0 0 t18)))), (19, .s (.c (.p (PV.int .i64 t19)))), (20, .s (.c (.p (PV.int .i64 t20))))], [.box [.p (PV.int .i64 n11), .p (PV.int .i64 n12), .p (PV.row 2 0 l), .p (PV.row 2 0 l1)], .arr 3 0 0 false xs]⟩
def c160 (k : Nat) (qs : List PV) : R := evF P E T k 160 [.s (.c (.p (PV.row 0 0 qs)))] []
def r160 (l : List PV) : R := some ([.c (.own 3 0 l)], [])
def R160 (x0 : R) (K0 : List PV -> R) : R := x0.bind fun q0 => bif lensB q0.2 [] && lensS q0.1 [.c (.own 3 0)] then (asOwn 3 0 (resAt q0.1 0)).bind fun l => K0 l else none
@[simp] theorem R160_r (l : List PV) (K0 : List PV -> R) : R160 (r160 l) K0 = K0 l := by kernel_rfl
def c163 (k : Nat) (l : List PV) (n1 n11 : Int) : R := evF P E T k 163 [.s (.c (.bptr 0 0))] [[.p (PV.row 0 0 l), .p (PV.int .i64 n1), .p (PV.int .u64 n11)]]
def r163 (l : List PV) (qr qr1 qr2 : Int) : R := some ([.c (.p (PV.int .i64 qr2))], [[.p (PV.row 0 0 l), .p (PV.int .i64 qr), .p (PV.int .u64 qr1)]])
def R163 (x0 : R) (K0 : List PV -> Int -> Int -> Int -> R) : R := x0.bind fun q0 => bif lensB q0.2 [[.p (.row 0), .p (.int .i64), .p (.int .u64)]] && lensS q0.1 [.c (.p (.int .i64))] then (cRow (cellAt q0.2 0 0) 0).bind fun l => (cInt (cellAt q0.2 0 1) .i64).bind fun qr => (cInt (cellAt q0.2 0 2) .u64).bind fun qr1 => (cInt (resAt q0.1 0) .i64).bind fun qr2 => K0 l qr qr1 qr2 else none
@[simp] theorem R163_r (l : List PV) (qr qr1 qr2 : Int) (K0 : List PV -> Int -> Int -> Int -> R) : R163 (r163 l qr qr1 qr2) K0 = K0 l qr qr1 qr2 := by kernel_rfl
def c164 (k : Nat) (wide vars : Int) (l : List PV) (n1 n11 : Int) : R := evF P E T k 164 [.s (.c (.bptr 0 0)), .s (.c (.p (PV.int .i64 wide))), .s (.c (.p (PV.int .i64 vars)))] [[.p (PV.row 0 0 l), .p (PV.int .i64 n1), .p (PV.int .u64 n11)]]
def r164 (l : List PV) (qr qr1 : Int) (l1 l2 : List PV) : R := some ([.agg [.p (PV.row 2 0 l1), .own 116 2 l2]], [[.p (PV.row 0 0 l), .p (PV.int .i64 qr), .p (PV.int .u64 qr1)]])
def R164 (x0 : R) (K0 : List PV -> Int -> Int -> List PV -> List PV -> R) : R := x0.bind fun q0 => bif lensB q0.2 [[.p (.row 0), .p (.int .i64), .p (.int .u64)]] && lensS q0.1 [.agg [.p (.row 2), .own 116 2]] then (cRow (cellAt q0.2 0 0) 0).bind fun l => (cInt (cellAt q0.2 0 1) .i64).bind fun qr => (cInt (cellAt q0.2 0 2) .u64).bind fun qr1 => (cRow (Dp.partAt q0.1 0 0) 2).bind fun l1 => (asOwn 116 2 (Dp.partAt q0.1 0 1)).bind fun l2 => K0 l qr qr1 l1 l2 else none
@[simp] theorem R164_r (l : List PV) (qr qr1 : Int) (l1 l2 : List PV) (K0 : List PV -> Int -> Int -> List PV -> List PV -> R) : R164 (r164 l qr qr1 l1 l2) K0 = K0 l qr qr1 l1 l2 := by kernel_rfl
def L164_1 (k n : Nat) (wide vars v : Int) (l : List PV) (n1 n11 : Int) (l1 l2 : List PV) (Len Len1 : Nat) (xs xs1 : List PV) : R := evLoopAt P E T k 164 164 [3] [1, 1, 0, 1, 0] [] n ⟨mkT 35 [(0, .s (.c (.bptr 0 0))), (1, .s (.c (.p (PV.int .i64 wide)))), (2, .s (.c (.p (PV.int .i64 vars)))), (6, .s (.c (.bptr 1 0))), (7, .s (.c (.bptr 2 0))), (8, .s (.c (.p (PV.int .i64 v))))], [.box [.p (PV.row 0 0 l), .p (PV.int .i64 n1), .p (PV.int .u64 n11)], .box [.p (PV.row 2 0 l1), .p (PV.row 2 0 l2)], .box [.loc 3 0 2 0 Len, .loc 4 0 2 0 Len1], .arr 96 2 0 false xs, .arr 116 2 0 false xs1]⟩
def c165 (k : Nat) (p p1 : Int) (p2 p3 preds : List PV) : R := evF P E T k 165 [.s (.c (.p (PV.agg [.int .i64 p, .int .i64 p1, .row 2 0 p2, .row 2 0 p3]))), .s (.c (.p (PV.row 0 0 preds)))] []
def r165 (b : Bool) : R := some ([.c (.p (PV.bool b))], [])
def R165 (x0 : R) (K0 : Bool -> R) : R := x0.bind fun q0 => bif lensB q0.2 [] && lensS q0.1 [.c (.p (.bool))] then (cBool (resAt q0.1 0)).bind fun b => K0 b else none
@[simp] theorem R165_r (b : Bool) (K0 : Bool -> R) : R165 (r165 b) K0 = K0 b := by kernel_rfl
def L165_1 (k n : Nat) (t10 : List PV) (t11 t12 n1 n11 : Int) (l l1 : List PV) : R := evLoopAt P E T k 165 165 [] [1, 1, 0, 1, 0] [] n ⟨mkT 21 [(2, .s (.c (.bptr 0 0))), (10, .s (.c (.p (PV.row 0 0 t10)))), (11, .s (.c (.p (PV.int .i64 t11)))), (12, .s (.c (.p (PV.int .i64 t12))))], [.box [.p (PV.int .i64 n1), .p (PV.int .i64 n11), .p (PV.row 2 0 l), .p (PV.row 2 0 l1)]]⟩
def c166 (k : Nat) (p p1 : Int) (p2 p3 preds : List PV) : R := evF P E T k 166 [.s (.c (.p (PV.agg [.int .i64 p, .int .i64 p1, .row 2 0 p2, .row 2 0 p3]))), .s (.c (.p (PV.row 0 0 preds)))] []
def r166 (l : List PV) : R := some ([.agg [.own 3 0 l]], [])
def R166 (x0 : R) (K0 : List PV -> R) : R := x0.bind fun q0 => bif lensB q0.2 [] && lensS q0.1 [.agg [.own 3 0]] then (asOwn 3 0 (Dp.partAt q0.1 0 0)).bind fun l => K0 l else none
@[simp] theorem R166_r (l : List PV) (K0 : List PV -> R) : R166 (r166 l) K0 = K0 l := by kernel_rfl
def L166_1 (k n : Nat) (t12 : List PV) (t13 t14 n1 n11 : Int) (l l1 l2 : List PV) (Len : Nat) (xs : List PV) : R := evLoopAt P E T k 166 166 [] [1, 1, 0, 1, 0] [] n ⟨mkT 24 [(2, .s (.c (.bptr 0 0))), (4, .s (.c (.bptr 1 0))), (5, .s (.c (.bptr 2 0))), (12, .s (.c (.p (PV.row 0 0 t12)))), (13, .s (.c (.p (PV.int .i64 t13)))), (14, .s (.c (.p (PV.int .i64 t14))))], [.box [.p (PV.int .i64 n1), .p (PV.int .i64 n11), .p (PV.row 2 0 l), .p (PV.row 2 0 l1)], .box [.p (PV.row 0 0 l2)], .box [.loc 3 0 0 0 Len], .arr 3 0 0 false xs]⟩
def c167 (k : Nat) (l : List PV) (lo hi : Int) : R := evF P E T k 167 [.s (.c (.p (PV.row 0 0 l))), .s (.c (.p (PV.int .i64 lo))), .s (.c (.p (PV.int .i64 hi)))] []
def r167 (b : Bool) : R := some ([.c (.p (PV.bool b))], [])
def R167 (x0 : R) (K0 : Bool -> R) : R := x0.bind fun q0 => bif lensB q0.2 [] && lensS q0.1 [.c (.p (.bool))] then (cBool (resAt q0.1 0)).bind fun b => K0 b else none
@[simp] theorem R167_r (b : Bool) (K0 : Bool -> R) : R167 (r167 b) K0 = K0 b := by kernel_rfl
def L167_1 (k n : Nat) (l : List PV) (lo hi : Int) (t9 : List PV) (t10 t11 : Int) : R := evLoopAt P E T k 167 167 [] [1, 0, 1, 0] [] n ⟨mkT 35 [(0, .s (.c (.p (PV.row 0 0 l)))), (1, .s (.c (.p (PV.int .i64 lo)))), (2, .s (.c (.p (PV.int .i64 hi)))), (9, .s (.c (.p (PV.row 0 0 t9)))), (10, .s (.c (.p (PV.int .i64 t10)))), (11, .s (.c (.p (PV.int .i64 t11))))], []⟩
def c168 (k : Nat) (v some1 : List PV) : R := evF P E T k 168 [.s (.c (.p (PV.agg [.row 0 0 v]))), .s (.c (.p (PV.row 0 0 some1)))] []
def r168 (l : List PV) : R := some ([.agg [.own 3 0 l]], [])
def R168 (x0 : R) (K0 : List PV -> R) : R := x0.bind fun q0 => bif lensB q0.2 [] && lensS q0.1 [.agg [.own 3 0]] then (asOwn 3 0 (Dp.partAt q0.1 0 0)).bind fun l => K0 l else none
@[simp] theorem R168_r (l : List PV) (K0 : List PV -> R) : R168 (r168 l) K0 = K0 l := by kernel_rfl
def L168_1 (k n : Nat) (some1 : List PV) (keysLen : Nat) (t9 : List PV) (t10 t11 : Int) (l xs : List PV) : R := evLoopAt P E T k 168 168 [] [1, 1, 0, 1, 0] [] n ⟨mkT 33 [(1, .s (.c (.p (PV.row 0 0 some1)))), (4, .s (.c (.bptr 0 0))), (5, .s (.c (.loc 1 0 0 0 keysLen))), (9, .s (.c (.p (PV.row 0 0 t9)))), (10, .s (.c (.p (PV.int .i64 t10)))), (11, .s (.c (.p (PV.int .i64 t11))))], [.box [.p (PV.row 0 0 l)], .arr 3 0 0 false xs]⟩
def c171 (k : Nat) (p p1 : Int) (p2 p3 qs : List PV) : R := evF P E T k 171 [.s (.c (.p (PV.agg [.int .i64 p, .int .i64 p1, .row 2 0 p2, .row 2 0 p3]))), .s (.c (.p (PV.row 0 0 qs)))] []
def r171 (l : List PV) : R := some ([.c (.p (PV.row 0 0 l))], [])
def R171 (x0 : R) (K0 : List PV -> R) : R := x0.bind fun q0 => bif lensB q0.2 [] && lensS q0.1 [.c (.p (.row 0))] then (cRow (resAt q0.1 0) 0).bind fun l => K0 l else none
@[simp] theorem R171_r (l : List PV) (K0 : List PV -> R) : R171 (r171 l) K0 = K0 l := by kernel_rfl
def L171_1 (k n : Nat) (qs : List PV) (outLen : Nat) (t9 : List PV) (t10 t11 n1 n11 : Int) (l l1 xs : List PV) : R := evLoopAt P E T k 171 171 [] [1, 1, 0, 1, 0] [] n ⟨mkT 27 [(1, .s (.c (.p (PV.row 0 0 qs)))), (2, .s (.c (.bptr 0 0))), (5, .s (.c (.loc 1 0 0 0 outLen))), (9, .s (.c (.p (PV.row 2 0 t9)))), (10, .s (.c (.p (PV.int .i64 t10)))), (11, .s (.c (.p (PV.int .i64 t11))))], [.box [.p (PV.int .i64 n1), .p (PV.int .i64 n11), .p (PV.row 2 0 l), .p (PV.row 2 0 l1)], .arr 3 0 0 false xs]⟩
def c172 (k : Nat) (p p1 : Int) (p2 p3 qs : List PV) : R := evF P E T k 172 [.s (.c (.p (PV.agg [.int .i64 p, .int .i64 p1, .row 2 0 p2, .row 2 0 p3]))), .s (.c (.p (PV.row 0 0 qs)))] []
def r172 (qr : Int) : R := some ([.c (.p (PV.int .i64 qr))], [])
def R172 (x0 : R) (K0 : Int -> R) : R := x0.bind fun q0 => bif lensB q0.2 [] && lensS q0.1 [.c (.p (.int .i64))] then (cInt (resAt q0.1 0) .i64).bind fun qr => K0 qr else none
@[simp] theorem R172_r (qr : Int) (K0 : Int -> R) : R172 (r172 qr) K0 = K0 qr := by kernel_rfl
def L172_1 (k n : Nat) (qs : List PV) (n1 v n11 n12 : Int) (l l1 : List PV) : R := evLoopAt P E T k 172 172 [] [1, 1, 0, 1, 0] [] n ⟨mkT 26 [(1, .s (.c (.p (PV.row 0 0 qs)))), (2, .s (.c (.bptr 0 0))), (5, .s (.c (.p (PV.int .i64 n1)))), (6, .s (.c (.p (PV.int .i64 v))))], [.box [.p (PV.int .i64 n11), .p (PV.int .i64 n12), .p (PV.row 2 0 l), .p (PV.row 2 0 l1)]]⟩
def c173 (k : Nat) (p p1 : Int) (p2 p3 qs : List PV) (k1 : Int) : R := evF P E T k 173 [.s (.c (.p (PV.agg [.int .i64 p, .int .i64 p1, .row 2 0 p2, .row 2 0 p3]))), .s (.c (.p (PV.row 0 0 qs))), .s (.c (.p (PV.int .i64 k1)))] []
def r173 (l : List PV) : R := some ([.c (.p (PV.row 0 0 l))], [])
def R173 (x0 : R) (K0 : List PV -> R) : R := x0.bind fun q0 => bif lensB q0.2 [] && lensS q0.1 [.c (.p (.row 0))] then (cRow (resAt q0.1 0) 0).bind fun l => K0 l else none
@[simp] theorem R173_r (l : List PV) (K0 : List PV -> R) : R173 (r173 l) K0 = K0 l := by kernel_rfl
def L173_1 (k n : Nat) (qs : List PV) (outLen : Nat) (t18 : List PV) (t19 t20 n1 n11 : Int) (l l1 xs : List PV) : R := evLoopAt P E T k 173 173 [] [1, 1, 0, 1, 0] [] n ⟨mkT 40 [(1, .s (.c (.p (PV.row 0 0 qs)))), (3, .s (.c (.bptr 0 0))), (7, .s (.c (.loc 1 0 0 0 outLen))), (18, .s (.c (.p (PV.row 2 0 t18)))), (19, .s (.c (.p (PV.int .i64 t19)))), (20, .s (.c (.p (PV.int .i64 t20))))], [.box [.p (PV.int .i64 n1), .p (PV.int .i64 n11), .p (PV.row 2 0 l), .p (PV.row 2 0 l1)], .arr 64 0 0 false xs]⟩
def c174 (k : Nat) (p p1 : Int) (p2 p3 : List PV) : R := evF P E T k 174 [.s (.c (.p (PV.agg [.int .i64 p, .int .i64 p1, .row 2 0 p2, .row 2 0 p3])))] []
def r174 (b : Bool) : R := some ([.c (.p (PV.bool b))], [])
def R174 (x0 : R) (K0 : Bool -> R) : R := x0.bind fun q0 => bif lensB q0.2 [] && lensS q0.1 [.c (.p (.bool))] then (cBool (resAt q0.1 0)).bind fun b => K0 b else none
@[simp] theorem R174_r (b : Bool) (K0 : Bool -> R) : R174 (r174 b) K0 = K0 b := by kernel_rfl
def L174_1 (k n : Nat) (t18 : List PV) (t19 t20 n1 n11 : Int) (l l1 : List PV) : R := evLoopAt P E T k 174 174 [] [1, 1, 0, 1, 0] [] n ⟨mkT 29 [(1, .s (.c (.bptr 0 0))), (18, .s (.c (.p (PV.row 2 0 t18)))), (19, .s (.c (.p (PV.int .i64 t19)))), (20, .s (.c (.p (PV.int .i64 t20))))], [.box [.p (PV.int .i64 n1), .p (PV.int .i64 n11), .p (PV.row 2 0 l), .p (PV.row 2 0 l1)]]⟩
def c175 (k : Nat) (x : List PV) : R := evF P E T k 175 [.s (.c (.p (PV.row 0 0 x)))] []
def r175 (qr : Int) : R := some ([.c (.p (PV.int .i64 qr))], [])
def R175 (x0 : R) (K0 : Int -> R) : R := x0.bind fun q0 => bif lensB q0.2 [] && lensS q0.1 [.c (.p (.int .i64))] then (cInt (resAt q0.1 0) .i64).bind fun qr => K0 qr else none
@[simp] theorem R175_r (qr : Int) (K0 : Int -> R) : R175 (r175 qr) K0 = K0 qr := by kernel_rfl
def L175_1 (k n : Nat) (x : List PV) (m i : Int) : R := evLoopAt P E T k 175 175 [] [1, 1, 1, 0, 1, 0] [] n ⟨mkT 25 [(0, .s (.c (.p (PV.row 0 0 x)))), (3, .s (.c (.p (PV.int .i64 m)))), (4, .s (.c (.p (PV.int .i64 i))))], []⟩
def c176 (k : Nat) (wide : Int) (t : List PV) (k1 : Int) (state : List PV) : R := evF P E T k 176 [.s (.c (.p (PV.int .i64 wide))), .s (.c (.p (PV.row 2 0 t))), .s (.c (.p (PV.int .i64 k1))), .s (.c (.p (PV.row 0 0 state)))] []
def r176 (qr : Int) : R := some ([.c (.p (PV.int .u64 qr))], [])
def R176 (x0 : R) (K0 : Int -> R) : R := x0.bind fun q0 => bif lensB q0.2 [] && lensS q0.1 [.c (.p (.int .u64))] then (cInt (resAt q0.1 0) .u64).bind fun qr => K0 qr else none
@[simp] theorem R176_r (qr : Int) (K0 : Int -> R) : R176 (r176 qr) K0 = K0 qr := by kernel_rfl
def c177 (k : Nat) (g some1 : List PV) : R := evF P E T k 177 [.s (.c (.p (PV.row 0 0 g))), .s (.c (.p (PV.row 0 0 some1)))] []
def r177 (l : List PV) : R := some ([.c (.p (PV.row 0 0 l))], [])
def R177 (x0 : R) (K0 : List PV -> R) : R := x0.bind fun q0 => bif lensB q0.2 [] && lensS q0.1 [.c (.p (.row 0))] then (cRow (resAt q0.1 0) 0).bind fun l => K0 l else none
@[simp] theorem R177_r (l : List PV) (K0 : List PV -> R) : R177 (r177 l) K0 = K0 l := by kernel_rfl
def L177_1 (k n : Nat) (g : List PV) (stepsLen openLen : Nat) (t17 : List PV) (t18 t19 : Int) (xs xs1 : List PV) : R := evLoopAt P E T k 177 177 [] [1, 1, 1, 0, 1, 0] [] n ⟨mkT 64 [(0, .s (.c (.p (PV.row 0 0 g)))), (5, .s (.c (.loc 0 0 0 0 stepsLen))), (6, .s (.c (.loc 1 0 0 0 openLen))), (17, .s (.c (.p (PV.row 0 0 t17)))), (18, .s (.c (.p (PV.int .i64 t18)))), (19, .s (.c (.p (PV.int .i64 t19))))], [.arr 3 0 0 false xs, .arr 3 0 0 false xs1]⟩
def L177_2 (k n : Nat) (g : List PV) (stepsLen openLen : Nat) (xs xs1 : List PV) : R := evLoopAt P E T k 177 177 [] [1, 1, 1, 1, 0, 0] [] n ⟨mkT 64 [(0, .s (.c (.p (PV.row 0 0 g)))), (5, .s (.c (.loc 0 0 0 0 stepsLen))), (6, .s (.c (.loc 1 0 0 0 openLen)))], [.arr 3 0 0 false xs, .arr 3 0 0 false xs1]⟩
def L177_3 (k n1 n : Nat) (g : List PV) (stepsLen openLen : Nat) (t37 : List PV) (t38 t39 : Int) (xs xs1 : List PV) : R := evLoopAt P E T k 177 177 [] [1, 1, 1, 1, 0, 0, 0, 1, 0, 0, 1, 0] [n1] n ⟨mkT 64 [(0, .s (.c (.p (PV.row 0 0 g)))), (5, .s (.c (.loc 0 0 0 0 stepsLen))), (6, .s (.c (.loc 1 0 0 0 openLen))), (37, .s (.c (.p (PV.row 0 0 t37)))), (38, .s (.c (.p (PV.int .i64 t38)))), (39, .s (.c (.p (PV.int .i64 t39))))], [.arr 3 0 0 false xs, .arr 3 0 0 false xs1]⟩
def L177_4 (k n : Nat) (g : List PV) (stepsLen openLo openLen : Nat) (xs xs1 : List PV) : R := evLoopAt P E T k 177 177 [] [1, 1, 1, 1, 0, 0] [] n ⟨mkT 64 [(0, .s (.c (.p (PV.row 0 0 g)))), (5, .s (.c (.loc 0 0 0 0 stepsLen))), (6, .s (.c (.loc 1 0 0 openLo openLen)))], [.arr 3 0 0 false xs, .arr 3 0 0 false xs1]⟩
def L177_5 (k n1 n : Nat) (g : List PV) (stepsLen openLo openLen : Nat) (t37 : List PV) (t38 t39 : Int) (xs xs1 : List PV) : R := evLoopAt P E T k 177 177 [] [1, 1, 1, 1, 0, 0, 0, 1, 0, 0, 1, 0] [n1] n ⟨mkT 64 [(0, .s (.c (.p (PV.row 0 0 g)))), (5, .s (.c (.loc 0 0 0 0 stepsLen))), (6, .s (.c (.loc 1 0 0 openLo openLen))), (37, .s (.c (.p (PV.row 0 0 t37)))), (38, .s (.c (.p (PV.int .i64 t38)))), (39, .s (.c (.p (PV.int .i64 t39))))], [.arr 3 0 0 false xs, .arr 3 0 0 false xs1]⟩
def c178 (k : Nat) (next from1 : List PV) : R := evF P E T k 178 [.s (.c (.p (PV.row 0 0 next))), .s (.c (.p (PV.row 0 0 from1)))] []
def r178 (l : List PV) : R := some ([.c (.p (PV.row 0 0 l))], [])
def R178 (x0 : R) (K0 : List PV -> R) : R := x0.bind fun q0 => bif lensB q0.2 [] && lensS q0.1 [.c (.p (.row 0))] then (cRow (resAt q0.1 0) 0).bind fun l => K0 l else none
@[simp] theorem R178_r (l : List PV) (K0 : List PV -> R) : R178 (r178 l) K0 = K0 l := by kernel_rfl
def L178_1 (k n : Nat) (next from1 : List PV) (outLen : Nat) (t17 t18 : Int) (xs : List PV) : R := evLoopAt P E T k 178 178 [] [1, 1, 0, 1, 0] [] n ⟨mkT 73 [(0, .s (.c (.p (PV.row 0 0 next)))), (1, .s (.c (.p (PV.row 0 0 from1)))), (5, .s (.c (.loc 0 0 0 0 outLen))), (17, .s (.c (.p (PV.int .i64 t17)))), (18, .s (.c (.p (PV.int .i64 t18))))], [.arr 3 0 0 false xs]⟩
def L178_2 (k n : Nat) (next from1 : List PV) (outLen : Nat) (t25 : List PV) (t26 t27 : Int) (xs : List PV) : R := evLoopAt P E T k 178 178 [] [1, 1, 1, 0, 1, 0] [] n ⟨mkT 73 [(0, .s (.c (.p (PV.row 0 0 next)))), (1, .s (.c (.p (PV.row 0 0 from1)))), (5, .s (.c (.loc 0 0 0 0 outLen))), (25, .s (.c (.p (PV.row 0 0 t25)))), (26, .s (.c (.p (PV.int .i64 t26)))), (27, .s (.c (.p (PV.int .i64 t27))))], [.arr 3 0 0 false xs]⟩
def L178_3 (k n : Nat) (next : List PV) (outLen rowLen : Nat) (xs xs1 : List PV) : R := evLoopAt P E T k 178 178 [] [1, 1, 1, 1, 1, 0, 0] [] n ⟨mkT 73 [(0, .s (.c (.p (PV.row 0 0 next)))), (5, .s (.c (.loc 0 0 0 0 outLen))), (9, .s (.c (.loc 1 0 0 0 rowLen)))], [.arr 3 0 0 false xs, .arr 3 0 0 false xs1]⟩
def L178_4 (k n1 n : Nat) (next : List PV) (outLen rowLo rowLen : Nat) (k1 : Int) (t48 : List PV) (t49 t50 : Int) (xs xs1 : List PV) : R := evLoopAt P E T k 178 178 [] [1, 1, 1, 1, 1, 0, 0, 0, 1, 0, 1, 1, 1, 0] [n1] n ⟨mkT 73 [(0, .s (.c (.p (PV.row 0 0 next)))), (5, .s (.c (.loc 0 0 0 0 outLen))), (9, .s (.c (.loc 1 0 0 rowLo rowLen))), (10, .s (.c (.p (PV.int .i64 k1)))), (48, .s (.c (.p (PV.row 0 0 t48)))), (49, .s (.c (.p (PV.int .i64 t49)))), (50, .s (.c (.p (PV.int .i64 t50))))], [.arr 3 0 0 false xs, .arr 3 0 0 false xs1]⟩
def L178_5 (k n1 n : Nat) (next : List PV) (outLen rowLen : Nat) (k1 : Int) (t48 : List PV) (t49 t50 : Int) (xs xs1 : List PV) : R := evLoopAt P E T k 178 178 [] [1, 1, 1, 1, 1, 0, 0, 0, 1, 0, 1, 1, 1, 0] [n1] n ⟨mkT 73 [(0, .s (.c (.p (PV.row 0 0 next)))), (5, .s (.c (.loc 0 0 0 0 outLen))), (9, .s (.c (.loc 1 0 0 0 rowLen))), (10, .s (.c (.p (PV.int .i64 k1)))), (48, .s (.c (.p (PV.row 0 0 t48)))), (49, .s (.c (.p (PV.int .i64 t49)))), (50, .s (.c (.p (PV.int .i64 t50))))], [.arr 3 0 0 false xs, .arr 3 0 0 false xs1]⟩
def L178_6 (k n : Nat) (next : List PV) (outLen rowLo rowLen : Nat) (xs xs1 : List PV) : R := evLoopAt P E T k 178 178 [] [1, 1, 1, 1, 1, 0, 0] [] n ⟨mkT 73 [(0, .s (.c (.p (PV.row 0 0 next)))), (5, .s (.c (.loc 0 0 0 0 outLen))), (9, .s (.c (.loc 1 0 0 rowLo rowLen)))], [.arr 3 0 0 false xs, .arr 3 0 0 false xs1]⟩
def c179 (k : Nat) (qs : List PV) : R := evF P E T k 179 [.s (.c (.p (PV.row 0 0 qs)))] []
def r179 (l : List PV) : R := some ([.c (.own 64 0 l)], [])
def R179 (x0 : R) (K0 : List PV -> R) : R := x0.bind fun q0 => bif lensB q0.2 [] && lensS q0.1 [.c (.own 64 0)] then (asOwn 64 0 (resAt q0.1 0)).bind fun l => K0 l else none
@[simp] theorem R179_r (l : List PV) (K0 : List PV -> R) : R179 (r179 l) K0 = K0 l := by kernel_rfl
def c182 (k : Nat) (wide op a b : Int) : R := evF P E T k 182 [.s (.c (.p (PV.int .i64 wide))), .s (.c (.p (PV.int .i64 op))), .s (.c (.p (PV.int .u64 a))), .s (.c (.p (PV.int .u64 b)))] []
def r182 (qr : Int) : R := some ([.c (.p (PV.int .u64 qr))], [])
def R182 (x0 : R) (K0 : Int -> R) : R := x0.bind fun q0 => bif lensB q0.2 [] && lensS q0.1 [.c (.p (.int .u64))] then (cInt (resAt q0.1 0) .u64).bind fun qr => K0 qr else none
@[simp] theorem R182_r (qr : Int) (K0 : Int -> R) : R182 (r182 qr) K0 = K0 qr := by kernel_rfl
def c183f184 (k : Nat) (qs : List PV) (n1 n11 : Int) (l l1 : List PV) : R := evF P E T k 183 [.s (.c (.p (PV.row 2 0 qs))), .s (.c (.fn 184 [0]))] [[.p (PV.int .i64 n1), .p (PV.int .i64 n11), .p (PV.row 2 0 l), .p (PV.row 2 0 l1)]]
def r183f184 (qr qr1 : Int) (l l1 : List PV) (b : Bool) : R := some ([.c (.p (PV.bool b))], [[.p (PV.int .i64 qr), .p (PV.int .i64 qr1), .p (PV.row 2 0 l), .p (PV.row 2 0 l1)]])
def R183f184 (x0 : R) (K0 : Int -> Int -> List PV -> List PV -> Bool -> R) : R := x0.bind fun q0 => bif lensB q0.2 [[.p (.int .i64), .p (.int .i64), .p (.row 2), .p (.row 2)]] && lensS q0.1 [.c (.p (.bool))] then (cInt (cellAt q0.2 0 0) .i64).bind fun qr => (cInt (cellAt q0.2 0 1) .i64).bind fun qr1 => (cRow (cellAt q0.2 0 2) 2).bind fun l => (cRow (cellAt q0.2 0 3) 2).bind fun l1 => (cBool (resAt q0.1 0)).bind fun b => K0 qr qr1 l l1 b else none
@[simp] theorem R183f184_r (qr qr1 : Int) (l l1 : List PV) (b : Bool) (K0 : Int -> Int -> List PV -> List PV -> Bool -> R) : R183f184 (r183f184 qr qr1 l l1 b) K0 = K0 qr qr1 l l1 b := by kernel_rfl
def c184 (k : Nat) (qc qc1 : List PV) (n1 n11 : Int) (l l1 : List PV) : R := evF P E T k 184 [.s (.c (.p (PV.agg [.row 2 0 qc, .row 2 0 qc1]))), .s (.c (.bptr 0 0))] [[.p (PV.int .i64 n1), .p (PV.int .i64 n11), .p (PV.row 2 0 l), .p (PV.row 2 0 l1)]]
def r184 (qr qr1 : Int) (l l1 : List PV) (b : Bool) : R := some ([.c (.p (PV.bool b))], [[.p (PV.int .i64 qr), .p (PV.int .i64 qr1), .p (PV.row 2 0 l), .p (PV.row 2 0 l1)]])
def R184 (x0 : R) (K0 : Int -> Int -> List PV -> List PV -> Bool -> R) : R := x0.bind fun q0 => bif lensB q0.2 [[.p (.int .i64), .p (.int .i64), .p (.row 2), .p (.row 2)]] && lensS q0.1 [.c (.p (.bool))] then (cInt (cellAt q0.2 0 0) .i64).bind fun qr => (cInt (cellAt q0.2 0 1) .i64).bind fun qr1 => (cRow (cellAt q0.2 0 2) 2).bind fun l => (cRow (cellAt q0.2 0 3) 2).bind fun l1 => (cBool (resAt q0.1 0)).bind fun b => K0 qr qr1 l l1 b else none
@[simp] theorem R184_r (qr qr1 : Int) (l l1 : List PV) (b : Bool) (K0 : Int -> Int -> List PV -> List PV -> Bool -> R) : R184 (r184 qr qr1 l l1 b) K0 = K0 qr qr1 l l1 b := by kernel_rfl
def c185 (k : Nat) (p p1 : Int) (p2 p3 qc qc1 : List PV) : R := evF P E T k 185 [.s (.c (.p (PV.agg [.int .i64 p, .int .i64 p1, .row 2 0 p2, .row 2 0 p3]))), .s (.c (.p (PV.agg [.row 2 0 qc, .row 2 0 qc1])))] []
def r185 (b : Bool) : R := some ([.c (.p (PV.bool b))], [])
def R185 (x0 : R) (K0 : Bool -> R) : R := x0.bind fun q0 => bif lensB q0.2 [] && lensS q0.1 [.c (.p (.bool))] then (cBool (resAt q0.1 0)).bind fun b => K0 b else none
@[simp] theorem R185_r (b : Bool) (K0 : Bool -> R) : R185 (r185 b) K0 = K0 b := by kernel_rfl
def L185_1 (k n : Nat) (t13 : List PV) (t14 t15 n1 n11 : Int) (l l1 l2 l3 : List PV) : R := evLoopAt P E T k 185 185 [] [1, 1, 0, 1, 0] [] n ⟨mkT 57 [(2, .s (.c (.bptr 0 0))), (3, .s (.c (.bptr 1 0))), (13, .s (.c (.p (PV.row 2 0 t13)))), (14, .s (.c (.p (PV.int .i64 t14)))), (15, .s (.c (.p (PV.int .i64 t15))))], [.box [.p (PV.int .i64 n1), .p (PV.int .i64 n11), .p (PV.row 2 0 l), .p (PV.row 2 0 l1)], .box [.p (PV.row 2 0 l2), .p (PV.row 2 0 l3)]]⟩
def c186 (k : Nat) (wide vars deep : Int) (l : List PV) (n1 n11 : Int) : R := evF P E T k 186 [.s (.c (.bptr 0 0)), .s (.c (.p (PV.int .i64 wide))), .s (.c (.p (PV.int .i64 vars))), .s (.c (.p (PV.int .i64 deep)))] [[.p (PV.row 0 0 l), .p (PV.int .i64 n1), .p (PV.int .u64 n11)]]
def r186 (l : List PV) (qr qr1 : Int) (l1 : List PV) : R := some ([.c (.own 96 2 l1)], [[.p (PV.row 0 0 l), .p (PV.int .i64 qr), .p (PV.int .u64 qr1)]])
def R186 (x0 : R) (K0 : List PV -> Int -> Int -> List PV -> R) : R := x0.bind fun q0 => bif lensB q0.2 [[.p (.row 0), .p (.int .i64), .p (.int .u64)]] && lensS q0.1 [.c (.own 96 2)] then (cRow (cellAt q0.2 0 0) 0).bind fun l => (cInt (cellAt q0.2 0 1) .i64).bind fun qr => (cInt (cellAt q0.2 0 2) .u64).bind fun qr1 => (asOwn 96 2 (resAt q0.1 0)).bind fun l1 => K0 l qr qr1 l1 else none
@[simp] theorem R186_r (l : List PV) (qr qr1 : Int) (l1 : List PV) (K0 : List PV -> Int -> Int -> List PV -> R) : R186 (r186 l qr qr1 l1) K0 = K0 l qr qr1 l1 := by kernel_rfl
def c187 (k : Nat) (t : List PV) : R := evF P E T k 187 [.s (.c (.p (PV.row 2 0 t)))] []
def r187 (qr : Int) : R := some ([.c (.p (PV.int .i64 qr))], [])
def R187 (x0 : R) (K0 : Int -> R) : R := x0.bind fun q0 => bif lensB q0.2 [] && lensS q0.1 [.c (.p (.int .i64))] then (cInt (resAt q0.1 0) .i64).bind fun qr => K0 qr else none
@[simp] theorem R187_r (qr : Int) (K0 : Int -> R) : R187 (r187 qr) K0 = K0 qr := by kernel_rfl
def c188 (k : Nat) (wide : Int) : R := evF P E T k 188 [.s (.c (.p (PV.int .i64 wide)))] []
def r188 (b : Bool) : R := some ([.c (.p (PV.bool b))], [])
def R188 (x0 : R) (K0 : Bool -> R) : R := x0.bind fun q0 => bif lensB q0.2 [] && lensS q0.1 [.c (.p (.bool))] then (cBool (resAt q0.1 0)).bind fun b => K0 b else none
@[simp] theorem R188_r (b : Bool) (K0 : Bool -> R) : R188 (r188 b) K0 = K0 b := by kernel_rfl
def c189 (k : Nat) (op : Int) : R := evF P E T k 189 [.s (.c (.p (PV.int .i64 op)))] []
def r189 (qr qr1 qr2 : Int) : R := some ([.c (.p (PV.int .i64 qr)), .c (.p (PV.int .i64 qr1)), .c (.p (PV.int .i64 qr2))], [])
def R189 (x0 : R) (K0 : Int -> Int -> Int -> R) : R := x0.bind fun q0 => bif lensB q0.2 [] && lensS q0.1 [.c (.p (.int .i64)), .c (.p (.int .i64)), .c (.p (.int .i64))] then (cInt (resAt q0.1 0) .i64).bind fun qr => (cInt (resAt q0.1 1) .i64).bind fun qr1 => (cInt (resAt q0.1 2) .i64).bind fun qr2 => K0 qr qr1 qr2 else none
@[simp] theorem R189_r (qr qr1 qr2 : Int) (K0 : Int -> Int -> Int -> R) : R189 (r189 qr qr1 qr2) K0 = K0 qr qr1 qr2 := by kernel_rfl
def c190 (k : Nat) (wide vars n1 n11 : Int) : R := evF P E T k 190 [.s (.c (.p (PV.int .i64 wide))), .s (.c (.p (PV.int .i64 vars))), .s (.c (.p (PV.agg [.int .i64 n1, .int .u64 n11])))] []
def r190 (b : Bool) : R := some ([.c (.p (PV.bool b))], [])
def R190 (x0 : R) (K0 : Bool -> R) : R := x0.bind fun q0 => bif lensB q0.2 [] && lensS q0.1 [.c (.p (.bool))] then (cBool (resAt q0.1 0)).bind fun b => K0 b else none
@[simp] theorem R190_r (b : Bool) (K0 : Bool -> R) : R190 (r190 b) K0 = K0 b := by kernel_rfl
def c191 (k : Nat) (wide a : Int) : R := evF P E T k 191 [.s (.c (.p (PV.int .i64 wide))), .s (.c (.p (PV.int .u64 a)))] []
def r191 (b : Bool) : R := some ([.c (.p (PV.bool b))], [])
def R191 (x0 : R) (K0 : Bool -> R) : R := x0.bind fun q0 => bif lensB q0.2 [] && lensS q0.1 [.c (.p (.bool))] then (cBool (resAt q0.1 0)).bind fun b => K0 b else none
@[simp] theorem R191_r (b : Bool) (K0 : Bool -> R) : R191 (r191 b) K0 = K0 b := by kernel_rfl
def c192f193 (k : Nat) (qs : List PV) (n1 n11 : Int) (l l1 : List PV) : R := evF P E T k 192 [.s (.c (.p (PV.row 0 0 qs))), .s (.c (.cfn 193 [PV.agg [.int .i64 n1, .int .i64 n11, .row 2 0 l, .row 2 0 l1]]))] []
def r192f193 (b : Bool) : R := some ([.c (.p (PV.bool b))], [])
def R192f193p (x0 : R) (K0 : Bool -> R) : R := x0.bind fun q0 => bif q0.1.all plainS && q0.2.all (fun cs => cs.all plainC) then (bif lensB q0.2 [] && lensS q0.1 [.c (.p (.bool))] then (cBool (resAt q0.1 0)).bind fun b => K0 b else none) else none
@[simp] theorem R192f193p_r (b : Bool) (K0 : Bool -> R) : R192f193p (r192f193 b) K0 = K0 b := by kernel_rfl
def c193 (k : Nat) (t : List PV) (n1 n11 : Int) (l l1 : List PV) : R := evF P E T k 193 [.s (.c (.p (PV.row 2 0 t))), .s (.c (.eptr (PV.agg [.int .i64 n1, .int .i64 n11, .row 2 0 l, .row 2 0 l1]) 4 0))] []
def r193 (b : Bool) : R := some ([.c (.p (PV.bool b))], [])
def R193 (x0 : R) (K0 : Bool -> R) : R := x0.bind fun q0 => bif lensB q0.2 [] && lensS q0.1 [.c (.p (.bool))] then (cBool (resAt q0.1 0)).bind fun b => K0 b else none
@[simp] theorem R193_r (b : Bool) (K0 : Bool -> R) : R193 (r193 b) K0 = K0 b := by kernel_rfl
def c194 (k : Nat) (p p1 : Int) (p2 p3 v t : List PV) : R := evF P E T k 194 [.s (.c (.p (PV.agg [.int .i64 p, .int .i64 p1, .row 2 0 p2, .row 2 0 p3]))), .s (.c (.p (PV.agg [.row 0 0 v]))), .s (.c (.p (PV.row 2 0 t)))] []
def r194 (l : List PV) : R := some ([.agg [.own 3 0 l]], [])
def R194p (x0 : R) (K0 : List PV -> R) : R := x0.bind fun q0 => bif q0.1.all plainS && q0.2.all (fun cs => cs.all plainC) then (bif lensB q0.2 [] && lensS q0.1 [.agg [.own 3 0]] then (asOwn 3 0 (Dp.partAt q0.1 0 0)).bind fun l => K0 l else none) else none
def c195 (k : Nat) (keys : List PV) : R := evF P E T k 195 [.s (.c (.p (PV.row 0 0 keys)))] []
def r195 (l : List PV) : R := some ([.agg [.own 3 0 l]], [])
def R195p (x0 : R) (K0 : List PV -> R) : R := x0.bind fun q0 => bif q0.1.all plainS && q0.2.all (fun cs => cs.all plainC) then (bif lensB q0.2 [] && lensS q0.1 [.agg [.own 3 0]] then (asOwn 3 0 (Dp.partAt q0.1 0 0)).bind fun l => K0 l else none) else none
def L195_1 (k n : Nat) (keys : List PV) (many : Int) (t9 : List PV) (t10 t11 : Int) (Len Len1 : Nat) (xs xs1 : List PV) : R := evLoopAt P E T k 195 195 [] [1, 1, 1, 0, 1, 0] [] n ⟨mkT 46 [(0, .s (.c (.p (PV.row 0 0 keys)))), (2, .s (.c (.bptr 0 0))), (3, .s (.c (.bptr 1 0))), (4, .s (.c (.p (PV.int .i64 many)))), (9, .s (.c (.p (PV.row 0 0 t9)))), (10, .s (.c (.p (PV.int .i64 t10)))), (11, .s (.c (.p (PV.int .i64 t11))))], [.box [.loc 2 0 0 0 Len], .box [.loc 3 0 0 0 Len1], .arr 3 0 0 false xs, .arr 3 0 0 false xs1]⟩
def L195_2 (k n1 n : Nat) (keys : List PV) (many i key class1 j : Int) (t9 : List PV) (t10 t11 : Int) (Len Len1 : Nat) (xs xs1 : List PV) : R := evLoopAt P E T k 195 195 [] [1, 1, 1, 0, 1, 0, 0, 1, 1, 0, 0, 1, 1, 0, 1, 0] [n1] n ⟨mkT 46 [(0, .s (.c (.p (PV.row 0 0 keys)))), (2, .s (.c (.bptr 0 0))), (3, .s (.c (.bptr 1 0))), (4, .s (.c (.p (PV.int .i64 many)))), (5, .s (.c (.p (PV.int .i64 i)))), (6, .s (.c (.p (PV.int .i64 key)))), (7, .s (.c (.p (PV.int .i64 class1)))), (8, .s (.c (.p (PV.int .i64 j)))), (9, .s (.c (.p (PV.row 0 0 t9)))), (10, .s (.c (.p (PV.int .i64 t10)))), (11, .s (.c (.p (PV.int .i64 t11))))], [.box [.loc 2 0 0 0 Len], .box [.loc 3 0 0 0 Len1], .arr 3 0 0 false xs, .arr 3 0 0 false xs1]⟩
def c196 (k : Nat) (l : List PV) : R := evF P E T k 196 [.s (.c (.p (PV.row 0 0 l)))] []
def r196 (l : List PV) : R := some ([.c (.own 3 0 l)], [])
def R196 (x0 : R) (K0 : List PV -> R) : R := x0.bind fun q0 => bif lensB q0.2 [] && lensS q0.1 [.c (.own 3 0)] then (asOwn 3 0 (resAt q0.1 0)).bind fun l => K0 l else none
@[simp] theorem R196_r (l : List PV) (K0 : List PV -> R) : R196 (r196 l) K0 = K0 l := by kernel_rfl
def c197 (k : Nat) (p p1 : Int) (p2 p3 qc qc1 : List PV) : R := evF P E T k 197 [.s (.c (.p (PV.agg [.int .i64 p, .int .i64 p1, .row 2 0 p2, .row 2 0 p3]))), .s (.c (.p (PV.agg [.row 2 0 qc, .row 2 0 qc1])))] []
def r197 (b : Bool) : R := some ([.c (.p (PV.bool b))], [])
def R197 (x0 : R) (K0 : Bool -> R) : R := x0.bind fun q0 => bif lensB q0.2 [] && lensS q0.1 [.c (.p (.bool))] then (cBool (resAt q0.1 0)).bind fun b => K0 b else none
@[simp] theorem R197_r (b : Bool) (K0 : Bool -> R) : R197 (r197 b) K0 = K0 b := by kernel_rfl
def L197_1 (k n : Nat) (t21 : List PV) (t22 t23 n1 n11 : Int) (l l1 l2 l3 : List PV) : R := evLoopAt P E T k 197 197 [] [1, 1, 0, 1, 0] [] n ⟨mkT 62 [(2, .s (.c (.bptr 0 0))), (3, .s (.c (.bptr 1 0))), (21, .s (.c (.p (PV.row 2 0 t21)))), (22, .s (.c (.p (PV.int .i64 t22)))), (23, .s (.c (.p (PV.int .i64 t23))))], [.box [.p (PV.int .i64 n1), .p (PV.int .i64 n11), .p (PV.row 2 0 l), .p (PV.row 2 0 l1)], .box [.p (PV.row 2 0 l2), .p (PV.row 2 0 l3)]]⟩
def c198 (k : Nat) (wide a : Int) : R := evF P E T k 198 [.s (.c (.p (PV.int .i64 wide))), .s (.c (.p (PV.int .u64 a)))] []
def r198 (qr : Int) : R := some ([.c (.p (PV.int .u64 qr))], [])
def R198 (x0 : R) (K0 : Int -> R) : R := x0.bind fun q0 => bif lensB q0.2 [] && lensS q0.1 [.c (.p (.int .u64))] then (cInt (resAt q0.1 0) .u64).bind fun qr => K0 qr else none
@[simp] theorem R198_r (qr : Int) (K0 : Int -> R) : R198 (r198 qr) K0 = K0 qr := by kernel_rfl
def L198_1 (k n : Nat) (wide a out k1 : Int) : R := evLoopAt P E T k 198 198 [] [1, 1, 0, 1, 0] [] n ⟨mkT 20 [(0, .s (.c (.p (PV.int .i64 wide)))), (1, .s (.c (.p (PV.int .u64 a)))), (5, .s (.c (.p (PV.int .u64 out)))), (6, .s (.c (.p (PV.int .i64 k1))))], []⟩
def c199 (k : Nat) (wide op a b : Int) : R := evF P E T k 199 [.s (.c (.p (PV.int .i64 wide))), .s (.c (.p (PV.int .i64 op))), .s (.c (.p (PV.int .u64 a))), .s (.c (.p (PV.int .u64 b)))] []
def r199 (qr : Int) : R := some ([.c (.p (PV.int .u64 qr))], [])
def R199 (x0 : R) (K0 : Int -> R) : R := x0.bind fun q0 => bif lensB q0.2 [] && lensS q0.1 [.c (.p (.int .u64))] then (cInt (resAt q0.1 0) .u64).bind fun qr => K0 qr else none
@[simp] theorem R199_r (qr : Int) (K0 : Int -> R) : R199 (r199 qr) K0 = K0 qr := by kernel_rfl
def c200 (k : Nat) (t : List PV) (k1 : Int) : R := evF P E T k 200 [.s (.c (.p (PV.row 2 0 t))), .s (.c (.p (PV.int .i64 k1)))] []
def r200 (qr : Int) : R := some ([.c (.p (PV.int .i64 qr))], [])
def R200 (x0 : R) (K0 : Int -> R) : R := x0.bind fun q0 => bif lensB q0.2 [] && lensS q0.1 [.c (.p (.int .i64))] then (cInt (resAt q0.1 0) .i64).bind fun qr => K0 qr else none
@[simp] theorem R200_r (qr : Int) (K0 : Int -> R) : R200 (r200 qr) K0 = K0 qr := by kernel_rfl
def L200_1 (k n : Nat) (t : List PV) (many from1 : Int) : R := evLoopAt P E T k 200 200 [] [1, 1, 1, 0, 0] [] n ⟨mkT 29 [(0, .s (.c (.p (PV.row 2 0 t)))), (5, .s (.c (.p (PV.int .i64 many)))), (8, .s (.c (.p (PV.int .i64 from1))))], []⟩
def c201 (k : Nat) (x : List PV) (count : Int) : R := evF P E T k 201 [.s (.c (.p (PV.row 0 0 x))), .s (.c (.p (PV.int .i64 count)))] []
def r201 (l : List PV) : R := some ([.c (.own 3 0 l)], [])
def R201p (x0 : R) (K0 : List PV -> R) : R := x0.bind fun q0 => bif q0.1.all plainS && q0.2.all (fun cs => cs.all plainC) then (bif lensB q0.2 [] && lensS q0.1 [.c (.own 3 0)] then (asOwn 3 0 (resAt q0.1 0)).bind fun l => K0 l else none) else none
def L201_1 (k n : Nat) (newsliceLen : Nat) (n1 : Int) (xs : List PV) : R := evLoopAt P E T k 201 201 [] [1, 1, 1, 1, 1, 1, 0, 0] [] n ⟨mkT 48 [(7, .s (.c (.loc 0 0 0 0 newsliceLen))), (8, .s (.c (.p (PV.int .i64 n1))))], [.arr 3 0 0 false xs]⟩
def c213 (k : Nat) (wide a b : Int) : R := evF P E T k 213 [.s (.c (.p (PV.int .i64 wide))), .s (.c (.p (PV.int .u64 a))), .s (.c (.p (PV.int .u64 b)))] []
def r213 (qr qr1 : Int) (b : Bool) : R := some ([.c (.p (PV.int .u64 qr)), .c (.p (PV.int .u64 qr1)), .c (.p (PV.bool b))], [])
def R213 (x0 : R) (K0 : Int -> Int -> Bool -> R) : R := x0.bind fun q0 => bif lensB q0.2 [] && lensS q0.1 [.c (.p (.int .u64)), .c (.p (.int .u64)), .c (.p (.bool))] then (cInt (resAt q0.1 0) .u64).bind fun qr => (cInt (resAt q0.1 1) .u64).bind fun qr1 => (cBool (resAt q0.1 2)).bind fun b => K0 qr qr1 b else none
@[simp] theorem R213_r (qr qr1 : Int) (b : Bool) (K0 : Int -> Int -> Bool -> R) : R213 (r213 qr qr1 b) K0 = K0 qr qr1 b := by kernel_rfl
def c214 (k : Nat) (wide a by1 : Int) (left : Bool) : R := evF P E T k 214 [.s (.c (.p (PV.int .i64 wide))), .s (.c (.p (PV.int .u64 a))), .s (.c (.p (PV.int .u64 by1))), .s (.c (.p (PV.bool left)))] []
def r214 (qr : Int) : R := some ([.c (.p (PV.int .u64 qr))], [])
def R214 (x0 : R) (K0 : Int -> R) : R := x0.bind fun q0 => bif lensB q0.2 [] && lensS q0.1 [.c (.p (.int .u64))] then (cInt (resAt q0.1 0) .u64).bind fun qr => K0 qr else none
@[simp] theorem R214_r (qr : Int) (K0 : Int -> R) : R214 (r214 qr) K0 = K0 qr := by kernel_rfl
def c215 (k : Nat) (holds : Bool) : R := evF P E T k 215 [.s (.c (.p (PV.bool holds)))] []
def r215 (qr : Int) : R := some ([.c (.p (PV.int .u64 qr))], [])
def R215 (x0 : R) (K0 : Int -> R) : R := x0.bind fun q0 => bif lensB q0.2 [] && lensS q0.1 [.c (.p (.int .u64))] then (cInt (resAt q0.1 0) .u64).bind fun qr => K0 qr else none
@[simp] theorem R215_r (qr : Int) (K0 : Int -> R) : R215 (r215 qr) K0 = K0 qr := by kernel_rfl
def c216 (k : Nat) (wide a : Int) : R := evF P E T k 216 [.s (.c (.p (PV.int .i64 wide))), .s (.c (.p (PV.int .u64 a)))] []
def r216 (qr : Int) : R := some ([.c (.p (PV.int .i64 qr))], [])
def R216 (x0 : R) (K0 : Int -> R) : R := x0.bind fun q0 => bif lensB q0.2 [] && lensS q0.1 [.c (.p (.int .i64))] then (cInt (resAt q0.1 0) .i64).bind fun qr => K0 qr else none
@[simp] theorem R216_r (qr : Int) (K0 : Int -> R) : R216 (r216 qr) K0 = K0 qr := by kernel_rfl
def c217f184 (k : Nat) (qs : List PV) (n1 n11 : Int) (l l1 : List PV) : R := evF P E T k 217 [.s (.c (.p (PV.row 2 0 qs))), .s (.c (.fn 184 [0]))] [[.p (PV.int .i64 n1), .p (PV.int .i64 n11), .p (PV.row 2 0 l), .p (PV.row 2 0 l1)]]
def r217f184 (qr qr1 : Int) (l l1 : List PV) (qr2 : Int) : R := some ([.c (.p (PV.int .i64 qr2))], [[.p (PV.int .i64 qr), .p (PV.int .i64 qr1), .p (PV.row 2 0 l), .p (PV.row 2 0 l1)]])
def R217f184 (x0 : R) (K0 : Int -> Int -> List PV -> List PV -> Int -> R) : R := x0.bind fun q0 => bif lensB q0.2 [[.p (.int .i64), .p (.int .i64), .p (.row 2), .p (.row 2)]] && lensS q0.1 [.c (.p (.int .i64))] then (cInt (cellAt q0.2 0 0) .i64).bind fun qr => (cInt (cellAt q0.2 0 1) .i64).bind fun qr1 => (cRow (cellAt q0.2 0 2) 2).bind fun l => (cRow (cellAt q0.2 0 3) 2).bind fun l1 => (cInt (resAt q0.1 0) .i64).bind fun qr2 => K0 qr qr1 l l1 qr2 else none
@[simp] theorem R217f184_r (qr qr1 : Int) (l l1 : List PV) (qr2 : Int) (K0 : Int -> Int -> List PV -> List PV -> Int -> R) : R217f184 (r217f184 qr qr1 l l1 qr2) K0 = K0 qr qr1 l l1 qr2 := by kernel_rfl
def L217f184_1 (k n : Nat) (qs : List PV) (t7 t8 n1 n11 : Int) (l l1 : List PV) : R := evLoopAt P E T k 217 185217 [4] [1, 0, 1, 0] [] n ⟨mkT 19 [(0, .s (.c (.p (PV.row 2 0 qs)))), (1, .s (.c (.fn 184 [0]))), (7, .s (.c (.p (PV.int .i64 t7)))), (8, .s (.c (.p (PV.int .i64 t8))))], [.box [.p (PV.int .i64 n1), .p (PV.int .i64 n11), .p (PV.row 2 0 l), .p (PV.row 2 0 l1)]]⟩
def c218 (k : Nat) (wide a : Int) : R := evF P E T k 218 [.s (.c (.p (PV.int .i64 wide))), .s (.c (.p (PV.int .u64 a)))] []
def r218 (b : Bool) : R := some ([.c (.p (PV.bool b))], [])
def R218 (x0 : R) (K0 : Bool -> R) : R := x0.bind fun q0 => bif lensB q0.2 [] && lensS q0.1 [.c (.p (.bool))] then (cBool (resAt q0.1 0)).bind fun b => K0 b else none
@[simp] theorem R218_r (b : Bool) (K0 : Bool -> R) : R218 (r218 b) K0 = K0 b := by kernel_rfl
def c219f193 (k : Nat) (qs : List PV) (n1 n11 : Int) (l l1 : List PV) : R := evF P E T k 219 [.s (.c (.p (PV.row 0 0 qs))), .s (.c (.cfn 193 [PV.agg [.int .i64 n1, .int .i64 n11, .row 2 0 l, .row 2 0 l1]]))] []
def r219f193 (qr : Int) : R := some ([.c (.p (PV.int .i64 qr))], [])
def R219f193p (x0 : R) (K0 : Int -> R) : R := x0.bind fun q0 => bif q0.1.all plainS && q0.2.all (fun cs => cs.all plainC) then (bif lensB q0.2 [] && lensS q0.1 [.c (.p (.int .i64))] then (cInt (resAt q0.1 0) .i64).bind fun qr => K0 qr else none) else none
@[simp] theorem R219f193p_r (qr : Int) (K0 : Int -> R) : R219f193p (r219f193 qr) K0 = K0 qr := by kernel_rfl
def L219f193_1 (k n : Nat) (qs : List PV) (n1 n11 : Int) (l l1 : List PV) (t7 t8 : Int) : R := evLoopAt P E T k 219 194219 [] [1, 0, 1, 0] [] n ⟨mkT 19 [(0, .s (.c (.p (PV.row 0 0 qs)))), (1, .s (.c (.cfn 193 [PV.agg [.int .i64 n1, .int .i64 n11, .row 2 0 l, .row 2 0 l1]]))), (7, .s (.c (.p (PV.int .i64 t7)))), (8, .s (.c (.p (PV.int .i64 t8))))], []⟩
def c220 (k : Nat) (wide a b : Int) : R := evF P E T k 220 [.s (.c (.p (PV.int .i64 wide))), .s (.c (.p (PV.int .u64 a))), .s (.c (.p (PV.int .u64 b)))] []
def r220 (qr qr1 : Int) (b : Bool) : R := some ([.c (.p (PV.int .u64 qr)), .c (.p (PV.int .u64 qr1)), .c (.p (PV.bool b))], [])
def R220 (x0 : R) (K0 : Int -> Int -> Bool -> R) : R := x0.bind fun q0 => bif lensB q0.2 [] && lensS q0.1 [.c (.p (.int .u64)), .c (.p (.int .u64)), .c (.p (.bool))] then (cInt (resAt q0.1 0) .u64).bind fun qr => (cInt (resAt q0.1 1) .u64).bind fun qr1 => (cBool (resAt q0.1 2)).bind fun b => K0 qr qr1 b else none
@[simp] theorem R220_r (qr qr1 : Int) (b : Bool) (K0 : Int -> Int -> Bool -> R) : R220 (r220 qr qr1 b) K0 = K0 qr qr1 b := by kernel_rfl
def c221 (k : Nat) (wide a by1 : Int) (left : Bool) : R := evF P E T k 221 [.s (.c (.p (PV.int .i64 wide))), .s (.c (.p (PV.int .u64 a))), .s (.c (.p (PV.int .u64 by1))), .s (.c (.p (PV.bool left)))] []
def r221 (qr : Int) : R := some ([.c (.p (PV.int .u64 qr))], [])
def R221 (x0 : R) (K0 : Int -> R) : R := x0.bind fun q0 => bif lensB q0.2 [] && lensS q0.1 [.c (.p (.int .u64))] then (cInt (resAt q0.1 0) .u64).bind fun qr => K0 qr else none
@[simp] theorem R221_r (qr : Int) (K0 : Int -> R) : R221 (r221 qr) K0 = K0 qr := by kernel_rfl
def L221_1 (k n : Nat) (wide a by1 : Int) (left : Bool) : R := evLoopAt P E T k 221 221 [] [1, 1, 0, 0] [] n ⟨mkT 25 [(0, .s (.c (.p (PV.int .i64 wide)))), (1, .s (.c (.p (PV.int .u64 a)))), (2, .s (.c (.p (PV.int .u64 by1)))), (3, .s (.c (.p (PV.bool left))))], []⟩
def c222 (k : Nat) (is1 : Bool) : R := evF P E T k 222 [.s (.c (.p (PV.bool is1)))] []
def r222 (qr : Int) : R := some ([.c (.p (PV.int .u64 qr))], [])
def R222 (x0 : R) (K0 : Int -> R) : R := x0.bind fun q0 => bif lensB q0.2 [] && lensS q0.1 [.c (.p (.int .u64))] then (cInt (resAt q0.1 0) .u64).bind fun qr => K0 qr else none
@[simp] theorem R222_r (qr : Int) (K0 : Int -> R) : R222 (r222 qr) K0 = K0 qr := by kernel_rfl
def c223 (k : Nat) (wide a : Int) : R := evF P E T k 223 [.s (.c (.p (PV.int .i64 wide))), .s (.c (.p (PV.int .u64 a)))] []
def r223 (qr : Int) : R := some ([.c (.p (PV.int .i64 qr))], [])
def R223 (x0 : R) (K0 : Int -> R) : R := x0.bind fun q0 => bif lensB q0.2 [] && lensS q0.1 [.c (.p (.int .i64))] then (cInt (resAt q0.1 0) .i64).bind fun qr => K0 qr else none
@[simp] theorem R223_r (qr : Int) (K0 : Int -> R) : R223 (r223 qr) K0 = K0 qr := by kernel_rfl
def c224 (k : Nat) (x y : Int) : R := evF P E T k 224 [.s (.c (.p (PV.int .u64 x))), .s (.c (.p (PV.int .u64 y)))] []
def r224 (qr qr1 : Int) : R := some ([.c (.p (PV.int .u64 qr)), .c (.p (PV.int .u64 qr1))], [])
def R224 (x0 : R) (K0 : Int -> Int -> R) : R := x0.bind fun q0 => bif lensB q0.2 [] && lensS q0.1 [.c (.p (.int .u64)), .c (.p (.int .u64))] then (cInt (resAt q0.1 0) .u64).bind fun qr => (cInt (resAt q0.1 1) .u64).bind fun qr1 => K0 qr qr1 else none
@[simp] theorem R224_r (qr qr1 : Int) (K0 : Int -> Int -> R) : R224 (r224 qr qr1) K0 = K0 qr qr1 := by kernel_rfl
def c231 (k : Nat) (wide a b : Int) : R := evF P E T k 231 [.s (.c (.p (PV.int .i64 wide))), .s (.c (.p (PV.int .u64 a))), .s (.c (.p (PV.int .u64 b)))] []
def r231 (b : Bool) : R := some ([.c (.p (PV.bool b))], [])
def R231 (x0 : R) (K0 : Bool -> R) : R := x0.bind fun q0 => bif lensB q0.2 [] && lensS q0.1 [.c (.p (.bool))] then (cBool (resAt q0.1 0)).bind fun b => K0 b else none
@[simp] theorem R231_r (b : Bool) (K0 : Bool -> R) : R231 (r231 b) K0 = K0 b := by kernel_rfl
def c232 (k : Nat) (hi lo y : Int) : R := evF P E T k 232 [.s (.c (.p (PV.int .u64 hi))), .s (.c (.p (PV.int .u64 lo))), .s (.c (.p (PV.int .u64 y)))] []
def r232 (qr qr1 : Int) : R := some ([.c (.p (PV.int .u64 qr)), .c (.p (PV.int .u64 qr1))], [])
def R232 (x0 : R) (K0 : Int -> Int -> R) : R := x0.bind fun q0 => bif lensB q0.2 [] && lensS q0.1 [.c (.p (.int .u64)), .c (.p (.int .u64))] then (cInt (resAt q0.1 0) .u64).bind fun qr => (cInt (resAt q0.1 1) .u64).bind fun qr1 => K0 qr qr1 else none
@[simp] theorem R232_r (qr qr1 : Int) (K0 : Int -> Int -> R) : R232 (r232 qr qr1) K0 = K0 qr qr1 := by kernel_rfl
def L232_1 (k n : Nat) (y qs yn1 yn0 un32 un1 un0 q1 rhat : Int) : R := evLoopAt P E T k 232 232 [] [1, 1, 1, 1, 1, 1, 1, 1, 1, 1, 1, 1, 1, 1, 0, 0] [] n ⟨mkT 135 [(2, .s (.c (.p (PV.int .u64 y)))), (8, .s (.c (.p (PV.int .u64 qs)))), (9, .s (.c (.p (PV.int .u64 yn1)))), (10, .s (.c (.p (PV.int .u64 yn0)))), (11, .s (.c (.p (PV.int .u64 un32)))), (13, .s (.c (.p (PV.int .u64 un1)))), (14, .s (.c (.p (PV.int .u64 un0)))), (15, .s (.c (.p (PV.int .u64 q1)))), (16, .s (.c (.p (PV.int .u64 rhat))))], []⟩
def c233 (k : Nat) (wide a b : Int) : R := evF P E T k 233 [.s (.c (.p (PV.int .i64 wide))), .s (.c (.p (PV.int .u64 a))), .s (.c (.p (PV.int .u64 b)))] []
def r233 (b : Bool) : R := some ([.c (.p (PV.bool b))], [])
def R233 (x0 : R) (K0 : Bool -> R) : R := x0.bind fun q0 => bif lensB q0.2 [] && lensS q0.1 [.c (.p (.bool))] then (cBool (resAt q0.1 0)).bind fun b => K0 b else none
@[simp] theorem R233_r (b : Bool) (K0 : Bool -> R) : R233 (r233 b) K0 = K0 b := by kernel_rfl
def c235 (k : Nat) (x y : Int) : R := evF P E T k 235 [.s (.c (.p (PV.int .u64 x))), .s (.c (.p (PV.int .u64 y)))] []
def r235 (qr qr1 : Int) : R := some ([.c (.p (PV.int .u64 qr)), .c (.p (PV.int .u64 qr1))], [])
def R235 (x0 : R) (K0 : Int -> Int -> R) : R := x0.bind fun q0 => bif lensB q0.2 [] && lensS q0.1 [.c (.p (.int .u64)), .c (.p (.int .u64))] then (cInt (resAt q0.1 0) .u64).bind fun qr => (cInt (resAt q0.1 1) .u64).bind fun qr1 => K0 qr qr1 else none
@[simp] theorem R235_r (qr qr1 : Int) (K0 : Int -> Int -> R) : R235 (r235 qr qr1) K0 = K0 qr qr1 := by kernel_rfl
def c237 (k : Nat) (x : Int) : R := evF P E T k 237 [.s (.c (.p (PV.int .u64 x)))] []
def R237 (x0 : R) (K0 : Int -> R) : R := x0.bind fun q0 => bif lensB q0.2 [] && lensS q0.1 [.c (.p (.int .i64))] then (cInt (resAt q0.1 0) .i64).bind fun qr => K0 qr else none
end
end Go.Proofs.YthoecdnmokcfbaaGreat
/- Normal forms: printed by nf.py. -/
set_option linter.unusedVariables false
set_option maxRecDepth 100000
namespace Go.Proofs.YthoecdnmokcfbaaGreat
open Go.Dp
theorem n4 (k : Nat) (code more : List PV) : c4 (k + 1) code more =
 R6 (c6 k code more) fun b1 =>
 bif b1 then
  r4 true
 else
  R21 (c21 k code) fun v1 v2 l1 l2 l3 l4 =>
  R22 (c22 k v1 v2 l1 l2 l3 l4) fun b2 b3 =>
  R23 (c23 k v1 v2 l1 l2 l3 l4) fun b4 b5 =>
  bif (!(b3 == b5)) then
   r4 false
  else
   bif (!(b2 == b4)) then
    r4 false
   else
    bif b3 then
     R24 (c24 k v1 v2 19 l4) fun l5 b6 =>
     R25 (c25 k v1 v2 l1 l2 l5) fun b7 b8 =>
     R26 (c26 k v1 v2 l1 l2 l3 l4) fun l6 b9 =>
     R22 (c22 k v1 v2 l1 l2 l6 l4) fun b10 b11 =>
     bif b6 then
      bif !b8 then
       r4 false
      else
       bif b2 then
        bif !b7 then
         r4 false
        else
         bif !b9 then
          r4 false
         else
          bif !b11 then
           r4 false
          else
           bif b2 then
            bif !b10 then
            r4 false
            else
            R27 (c27 k more) fun v3 v4 l7 l8 l9 v5 =>
            R28 (c28 k v3 v4 l7 l8 l9 v5) fun l10 b12 =>
            R29 (c29 k v3 v4 l7 l8 l9 v5) fun l11 b13 =>
            R30 (c30 k v3 v4 l7 l8 l9 v5) fun l12 b14 =>
            R31 (c31 k v3 v4 l7 l8 l9 v5) fun l13 b15 =>
            bif (b12 == b13) then
            R16 (c16 k l10 l11) fun b16 =>
            bif b16 then
            bif (b14 == b15) then
            R16 (c16 k l12 l13) fun b17 =>
            bif b17 then
            R32 (c32 k l10 l12) fun b18 =>
            r4 b18
            else r4 false
            else r4 false
            else r4 false
            else r4 false
           else
            R27 (c27 k more) fun v6 v7 l14 l15 l16 v8 =>
            R28 (c28 k v6 v7 l14 l15 l16 v8) fun l17 b19 =>
            R29 (c29 k v6 v7 l14 l15 l16 v8) fun l18 b20 =>
            R30 (c30 k v6 v7 l14 l15 l16 v8) fun l19 b21 =>
            R31 (c31 k v6 v7 l14 l15 l16 v8) fun l20 b22 =>
            bif (b19 == b20) then
            R16 (c16 k l17 l18) fun b23 =>
            bif b23 then
            bif (b21 == b22) then
            R16 (c16 k l19 l20) fun b24 =>
            bif b24 then
            R32 (c32 k l17 l19) fun b25 =>
            r4 b25
            else r4 false
            else r4 false
            else r4 false
            else r4 false
       else
        bif !b9 then
         r4 false
        else
         bif !b11 then
          r4 false
         else
          bif b2 then
           bif !b10 then
            r4 false
           else
            R27 (c27 k more) fun v9 v10 l21 l22 l23 v11 =>
            R28 (c28 k v9 v10 l21 l22 l23 v11) fun l24 b26 =>
            R29 (c29 k v9 v10 l21 l22 l23 v11) fun l25 b27 =>
            R30 (c30 k v9 v10 l21 l22 l23 v11) fun l26 b28 =>
            R31 (c31 k v9 v10 l21 l22 l23 v11) fun l27 b29 =>
            bif (b26 == b27) then
            R16 (c16 k l24 l25) fun b30 =>
            bif b30 then
            bif (b28 == b29) then
            R16 (c16 k l26 l27) fun b31 =>
            bif b31 then
            R32 (c32 k l24 l26) fun b32 =>
            r4 b32
            else r4 false
            else r4 false
            else r4 false
            else r4 false
          else
           R27 (c27 k more) fun v12 v13 l28 l29 l30 v14 =>
           R28 (c28 k v12 v13 l28 l29 l30 v14) fun l31 b33 =>
           R29 (c29 k v12 v13 l28 l29 l30 v14) fun l32 b34 =>
           R30 (c30 k v12 v13 l28 l29 l30 v14) fun l33 b35 =>
           R31 (c31 k v12 v13 l28 l29 l30 v14) fun l34 b36 =>
           bif (b33 == b34) then
            R16 (c16 k l31 l32) fun b37 =>
            bif b37 then
            bif (b35 == b36) then
            R16 (c16 k l33 l34) fun b38 =>
            bif b38 then
            R32 (c32 k l31 l33) fun b39 =>
            r4 b39
            else r4 false
            else r4 false
            else r4 false
           else r4 false
     else
      bif !b9 then
       r4 false
      else
       bif !b11 then
        r4 false
       else
        bif b2 then
         bif !b10 then
          r4 false
         else
          R27 (c27 k more) fun v15 v16 l35 l36 l37 v17 =>
          R28 (c28 k v15 v16 l35 l36 l37 v17) fun l38 b40 =>
          R29 (c29 k v15 v16 l35 l36 l37 v17) fun l39 b41 =>
          R30 (c30 k v15 v16 l35 l36 l37 v17) fun l40 b42 =>
          R31 (c31 k v15 v16 l35 l36 l37 v17) fun l41 b43 =>
          bif (b40 == b41) then
           R16 (c16 k l38 l39) fun b44 =>
           bif b44 then
            bif (b42 == b43) then
            R16 (c16 k l40 l41) fun b45 =>
            bif b45 then
            R32 (c32 k l38 l40) fun b46 =>
            r4 b46
            else r4 false
            else r4 false
           else r4 false
          else r4 false
        else
         R27 (c27 k more) fun v18 v19 l42 l43 l44 v20 =>
         R28 (c28 k v18 v19 l42 l43 l44 v20) fun l45 b47 =>
         R29 (c29 k v18 v19 l42 l43 l44 v20) fun l46 b48 =>
         R30 (c30 k v18 v19 l42 l43 l44 v20) fun l47 b49 =>
         R31 (c31 k v18 v19 l42 l43 l44 v20) fun l48 b50 =>
         bif (b47 == b48) then
          R16 (c16 k l45 l46) fun b51 =>
          bif b51 then
           bif (b49 == b50) then
            R16 (c16 k l47 l48) fun b52 =>
            bif b52 then
            R32 (c32 k l45 l47) fun b53 =>
            r4 b53
            else r4 false
           else r4 false
          else r4 false
         else r4 false
    else
     R27 (c27 k more) fun v21 v22 l49 l50 l51 v23 =>
     R28 (c28 k v21 v22 l49 l50 l51 v23) fun l52 b54 =>
     R29 (c29 k v21 v22 l49 l50 l51 v23) fun l53 b55 =>
     R30 (c30 k v21 v22 l49 l50 l51 v23) fun l54 b56 =>
     R31 (c31 k v21 v22 l49 l50 l51 v23) fun l55 b57 =>
     bif (b54 == b55) then
      R16 (c16 k l52 l53) fun b58 =>
      bif b58 then
       bif (b56 == b57) then
        R16 (c16 k l54 l55) fun b59 =>
        bif b59 then
         R32 (c32 k l52 l54) fun b60 =>
         r4 b60
        else r4 false
       else r4 false
      else r4 false
     else r4 false := by kernel_rfl
theorem n6 (k : Nat) (code more : List PV) : c6 (k + 1) code more =
 bif decide ((code.length : Int) > 1048576) then
  r6 true
 else r6 (decide ((more.length : Int) > IntKind.i64.wrap (1048576 - (code.length : Int)))) := by kernel_rfl
theorem n16 (k : Nat) (a b : List PV) : c16 (k + 1) a b =
 bif ((a.length : Int) != (b.length : Int)) then
  r16 false
 else L16_1 k k a b (a.length : Int) 0 := by kernel_rfl
theorem sL16_1 (k n : Nat) (a b : List PV) (t12 t13 : Int) : L16_1 k (n + 1) a b t12 t13 =
 bif decide (t13 < t12) then
  (lookP a t13).bind fun p1 =>
  (p1.atInt .i64 0).bind fun n1 =>
  (lookP b t13).bind fun p2 =>
  (p2.atInt .i64 0).bind fun n2 =>
  bif (n1 != n2) then
   r16 false
  else L16_1 k n a b t12 (IntKind.i64.wrap (t13 + 1))
 else r16 true := by kernel_rfl
theorem n19 (k : Nat) (l : List PV) (n1 : Int) : c19 (k + 1) l n1 =
 L19_1 k k n1 l (l.length : Int) 0 := by kernel_rfl
theorem sL19_1 (k n : Nat) (n1 : Int) (t7 : List PV) (t8 t9 : Int) : L19_1 k (n + 1) n1 t7 t8 t9 =
 bif decide (t9 < t8) then
  (lookP t7 t9).bind fun p1 =>
  (p1.atInt .i64 0).bind fun n2 =>
  bif (n2 == n1) then
   r19 true
  else L19_1 k n n1 t7 t8 (IntKind.i64.wrap (t9 + 1))
 else r19 false := by kernel_rfl
theorem n21 (k : Nat) (code : List PV) : c21 (k + 1) code =
 R71 (c71 k code) fun v1 v2 l1 l2 l3 l4 =>
 r21 v1 v2 l1 l2 l3 l4 := by kernel_rfl
theorem n22 (k : Nat) (p p1 : Int) (p2 p3 v bad : List PV) : c22 (k + 1) p p1 p2 p3 v bad =
 R49 (c49 k p p1 p2 p3 v) fun b1 =>
 bif !b1 then
  r22 false false
 else
  R72 (c72 k p p1 p2 p3 bad) fun b2 =>
  bif !b2 then
   r22 false false
  else
   R57 (c57 k p p1 p2 p3 bad) fun l1 =>
   R56 (c56 k v l1) fun l2 =>
   R60 (c60 k p p1 p2 p3 v) fun l3 =>
   R62f73p (c62f73 k l3 (l2.take l2.length)) fun b3 =>
   r22 (!b3) true := by kernel_rfl
theorem n23 (k : Nat) (p p1 : Int) (p2 p3 v bad : List PV) : c23 (k + 1) p p1 p2 p3 v bad =
 R51 (c51 k p p1 p2 p3 v) fun b1 =>
 bif !b1 then
  r23 false false
 else
  R74 (c74 k p p1 p2 p3 bad) fun b2 =>
  bif !b2 then
   r23 false false
  else
   R61 (c61 k p p1 p2 p3 v) fun l1 =>
   R76 (c76 k v l1) fun l2 =>
   R59 (c59 k p p1 p2 p3 bad) fun l3 =>
   R75 (c75 k l2 l3) fun b3 =>
   r23 (!b3) true := by kernel_rfl
theorem n24 (k : Nat) (wide vars op : Int) (a : List PV) : c24 (k + 1) wide vars op a =
 bif (op != 13) then
  bif (op != 19) then
   r24 [] false
  else
   R77 (c77 k wide vars a) fun b1 =>
   bif !b1 then
    r24 [] false
   else
    R79 (c79 k a) fun l1 =>
    bif decide ((l1.length + 1) * 16 <= LIM) && decide (l1.length + 1 <= LIM) then
     R78 (c78 k wide vars (((l1.take l1.length) ++ [PV.agg [.int .i64 op, .int .u64 0]]).take (l1.length + 1))) fun l2 b2 =>
     r24 l2 b2
    else none
 else
  R77 (c77 k wide vars a) fun b3 =>
  bif !b3 then
   r24 [] false
  else
   R79 (c79 k a) fun l3 =>
   bif decide ((l3.length + 1) * 16 <= LIM) && decide (l3.length + 1 <= LIM) then
    R78 (c78 k wide vars (((l3.take l3.length) ++ [PV.agg [.int .i64 op, .int .u64 0]]).take (l3.length + 1))) fun l4 b4 =>
    r24 l4 b4
   else none := by kernel_rfl
theorem n25 (k : Nat) (p p1 : Int) (p2 p3 t : List PV) : c25 (k + 1) p p1 p2 p3 t =
 R69 (c69 k p p1 p2 p3) fun b1 =>
 bif !b1 then
  r25 false false
 else
  R72 (c72 k p p1 p2 p3 t) fun b2 =>
  bif !b2 then
   r25 false false
  else
   R70 (c70 k p p1 p2 p3) fun l1 =>
   R62f80p (c62f80 k l1 p p1 p2 p3 t) fun b3 =>
   r25 (!b3) true := by kernel_rfl
theorem n26 (k : Nat) (p p1 : Int) (p2 p3 v t : List PV) : c26 (k + 1) p p1 p2 p3 v t =
 R81 (c81 k p p1 p2 p3 [PV.row 2 0 t]) fun l1 b1 =>
 bif !b1 then
  r26 [] false
 else
  R49 (c49 k p p1 p2 p3 v) fun b2 =>
  bif !b2 then
   r26 [] false
  else
   R82 (c82 k v l1) fun l2 =>
   r26 l2 true := by kernel_rfl
theorem n27 (k : Nat) (code : List PV) : c27 (k + 1) code =
 R83 (c83 k code) fun v1 v2 l1 l2 l3 v3 =>
 r27 v1 v2 l1 l2 l3 v3 := by kernel_rfl
theorem n28 (k : Nat) (p p1 : Int) (p2 p3 v : List PV) (class1 : Int) : c28 (k + 1) p p1 p2 p3 v class1 =
 R84 (c84 k p p1 p2 p3 v class1) fun b1 =>
 bif !b1 then
  r28 [] false
 else
  R85 (c85 k p p1 p2 p3 v class1) fun l1 =>
  r28 l1 true := by kernel_rfl
theorem n29 (k : Nat) (p p1 : Int) (p2 p3 v : List PV) (class1 : Int) : c29 (k + 1) p p1 p2 p3 v class1 =
 R86 (c86 k p p1 p2 p3 v class1) fun b1 =>
 bif !b1 then
  r29 [] false
 else
  R87 (c87 k p p1 p2 p3 v class1) fun l1 =>
  r29 l1 true := by kernel_rfl
theorem n30 (k : Nat) (p p1 : Int) (p2 p3 v : List PV) (class1 : Int) : c30 (k + 1) p p1 p2 p3 v class1 =
 R84 (c84 k p p1 p2 p3 v class1) fun b1 =>
 bif !b1 then
  r30 [] false
 else
  R88 (c88 k p p1 p2 p3 v class1) fun l1 =>
  r30 (l1.take l1.length) true := by kernel_rfl
theorem n31 (k : Nat) (p p1 : Int) (p2 p3 v : List PV) (class1 : Int) : c31 (k + 1) p p1 p2 p3 v class1 =
 R86 (c86 k p p1 p2 p3 v class1) fun b1 =>
 bif !b1 then
  r31 [] false
 else
  R89 (c89 k p p1 p2 p3 v class1) fun l1 =>
  r31 l1 true := by kernel_rfl
theorem n32 (k : Nat) (some1 in1 : List PV) : c32 (k + 1) some1 in1 =
 L32_1 k k in1 some1 (some1.length : Int) 0 := by kernel_rfl
theorem sL32_1 (k n : Nat) (in1 t7 : List PV) (t8 t9 : Int) : L32_1 k (n + 1) in1 t7 t8 t9 =
 bif decide (t9 < t8) then
  (lookP t7 t9).bind fun p1 =>
  (p1.atInt .i64 0).bind fun n1 =>
  R19 (c19 k in1 n1) fun b1 =>
  bif !b1 then
   r32 false
  else L32_1 k n in1 t7 t8 (IntKind.i64.wrap (t9 + 1))
 else r32 true := by kernel_rfl
theorem n44 (k : Nat) (l : List PV) (n1 n11 : Int) : c44 (k + 1) l n1 n11 =
 R102 (c102 k [PV.int .i64 1, PV.int .i64 2, PV.int .i64 2, PV.int .i64 2, PV.int .i64 3, PV.int .i64 4] l n1 n11) fun l1 v1 v2 v3 =>
 bif decide (v3 < 3) then
  bif !(v3 == 0) then
   R103 (c103 k (IntKind.i64.wrap ((6 : Int).tdiv v3)) l1 v1 v2) fun l2 v4 v5 v6 =>
   L44_1 k k v3 (IntKind.i64.wrap (1 + v6)) l2 v4 v5 0 0 [] []
  else none
 else L44_1 k k v3 1 l1 v1 v2 0 0 [] [] := by kernel_rfl
theorem sL44_1 (k n : Nat) (wide vars : Int) (l : List PV) (n1 n11 n12 n13 : Int) (l1 l2 : List PV) : L44_1 k (n + 1) wide vars l n1 n11 n12 n13 l1 l2 =
 bif decide (IntKind.i64.wrap (wide * vars) > 5) then
  L44_1 k n wide (IntKind.i64.wrap (vars - 1)) l n1 n11 n12 n13 l1 l2
 else
  bif decide (vars > 4) then
   L44_1 k n wide (IntKind.i64.wrap (vars - 1)) l n1 n11 n12 n13 l1 l2
  else
   R104 (c104 k wide vars l n1 n11) fun l3 v1 v2 v3 v4 l4 l5 =>
   R103 (c103 k 40 l3 v1 v2) fun l6 v5 v6 v7 =>
   bif (v7 == 0) then
    R102 (c102 k [PV.int .i64 0, PV.int .i64 4, PV.int .i64 5] l6 v5 v6) fun l7 v8 v9 v10 =>
    r44 l7 v8 v9 v3 v10 l4 (l5.take l5.length)
   else
    bif (v7 == 1) then
     r44 l6 v5 v6 v3 v4 l4 []
    else
     bif (v7 == 2) then
      bif decide ((0 : Int) < (l5.length : Int)) then
       (l5[0]?).bind fun p1 =>
       (putPart p1 2 0 (PV.row 2 0 [PV.agg [.int .i64 1, .int .u64 0]]) 0).bind fun p2 =>
       r44 l6 v5 v6 v3 v4 l4 ((l5.set 0 p2).take l5.length)
      else none
     else
      bif (v7 == 3) then
       bif decide ((0 : Int) < (l5.length : Int)) then
        (l5[0]?).bind fun p3 =>
        (p3.atRow 2 1).bind fun l8 =>
        bif decide ((l8.length + 1) * 32 <= LIM) && decide (l8.length + 1 <= LIM) then
         bif decide ((0 : Int) < (l5.length : Int)) then
          (l5[0]?).bind fun p4 =>
          bif decide (l8.length + 1 <= (l8 ++ [PV.agg [.int .i64 0, .row 2 0 [PV.agg [.int .i64 1, .int .u64 0]]]]).length) then
           (putPart p4 2 1 (PV.row 2 0 ((l8 ++ [PV.agg [.int .i64 0, .row 2 0 [PV.agg [.int .i64 1, .int .u64 0]]]]).take (l8.length + 1))) 0).bind fun p5 =>
           r44 l6 v5 v6 v3 v4 l4 ((l5.set 0 p5).take l5.length)
          else none
         else none
        else none
       else none
      else r44 l6 v5 v6 v3 v4 l4 (l5.take l5.length) := by kernel_rfl
theorem n45 (k : Nat) (p p1 : Int) (p2 p3 l : List PV) (n1 n11 : Int) : c45 (k + 1) p p1 p2 p3 l n1 n11 =
 R106 (c106 k p p1 p2 p3 3 l n1 n11) fun l1 v1 v2 l2 =>
 R105 (c105 k p p1 p2 p3 l2) fun l3 b1 =>
 R48 (c48 k 3 l1 v1 v2) fun l4 v3 v4 b2 =>
 bif b2 then
  R108 (c108 k 4 3 l4 v3 v4) fun l5 v5 v6 l6 =>
  R107p (c107 k p p1 p2 p3 (l3.take l3.length) l6) fun l7 b3 =>
  bif b3 then
   R103 (c103 k 40 l5 v5 v6) fun l8 v7 v8 v9 =>
   bif (v9 == 0) then
    bif decide ((l7.length + 1) * 8 <= LIM) && decide (l7.length + 1 <= LIM) then
     r45 l8 v7 v8 (((l7.take l7.length) ++ [PV.int .i64 0]).take (l7.length + 1))
    else none
   else
    bif (v9 == 1) then
     bif decide ((l7.length : Int) > 0) then
      bif decide ((0 : Int) <= IntKind.i64.wrap ((l7.length : Int) - 1)) && decide (IntKind.i64.wrap ((l7.length : Int) - 1) < (l7.length : Int)) then
       (l7[0 + ((IntKind.i64.wrap ((l7.length : Int) - 1)).toNat)]?).bind fun p4 =>
       r45 l8 v7 v8 ((l7.set (0 + ((IntKind.i64.wrap ((l7.length : Int) - 1)).toNat)) (PV.int .i64 (l7.length : Int))).take l7.length)
      else none
     else r45 l8 v7 v8 (l7.take l7.length)
    else r45 l8 v7 v8 (l7.take l7.length)
  else
   R103 (c103 k 40 l5 v5 v6) fun l9 v10 v11 v12 =>
   bif (v12 == 0) then
    bif decide ((l3.length + 1) * 8 <= LIM) && decide (l3.length + 1 <= LIM) then
     r45 l9 v10 v11 (((l3.take l3.length) ++ [PV.int .i64 0]).take (l3.length + 1))
    else none
   else
    bif (v12 == 1) then
     bif decide ((l3.length : Int) > 0) then
      bif decide ((0 : Int) <= IntKind.i64.wrap ((l3.length : Int) - 1)) && decide (IntKind.i64.wrap ((l3.length : Int) - 1) < (l3.length : Int)) then
       (l3[0 + ((IntKind.i64.wrap ((l3.length : Int) - 1)).toNat)]?).bind fun p5 =>
       r45 l9 v10 v11 ((l3.set (0 + ((IntKind.i64.wrap ((l3.length : Int) - 1)).toNat)) (PV.int .i64 (l3.length : Int))).take l3.length)
      else none
     else r45 l9 v10 v11 (l3.take l3.length)
    else r45 l9 v10 v11 (l3.take l3.length)
 else
  R103 (c103 k 40 l4 v3 v4) fun l10 v13 v14 v15 =>
  bif (v15 == 0) then
   bif decide ((l3.length + 1) * 8 <= LIM) && decide (l3.length + 1 <= LIM) then
    r45 l10 v13 v14 (((l3.take l3.length) ++ [PV.int .i64 0]).take (l3.length + 1))
   else none
  else
   bif (v15 == 1) then
    bif decide ((l3.length : Int) > 0) then
     bif decide ((0 : Int) <= IntKind.i64.wrap ((l3.length : Int) - 1)) && decide (IntKind.i64.wrap ((l3.length : Int) - 1) < (l3.length : Int)) then
      (l3[0 + ((IntKind.i64.wrap ((l3.length : Int) - 1)).toNat)]?).bind fun p6 =>
      r45 l10 v13 v14 ((l3.set (0 + ((IntKind.i64.wrap ((l3.length : Int) - 1)).toNat)) (PV.int .i64 (l3.length : Int))).take l3.length)
     else none
    else r45 l10 v13 v14 (l3.take l3.length)
   else r45 l10 v13 v14 (l3.take l3.length) := by kernel_rfl
theorem n48 (k : Nat) (n1 : Int) (l : List PV) (n11 n12 : Int) : c48 (k + 1) n1 l n11 n12 =
 R103 (c103 k n1 l n11 n12) fun l1 v1 v2 v3 =>
 r48 l1 v1 v2 (v3 == 0) := by kernel_rfl
theorem n49 (k : Nat) (p p1 : Int) (p2 p3 v : List PV) : c49 (k + 1) p p1 p2 p3 v =
 R69 (c69 k p p1 p2 p3) fun b1 =>
 bif b1 then
  R50 (c50 k p p1 p2 p3) fun v1 =>
  R113 (c113 k v v1) fun b2 =>
  r49 b2
 else r49 false := by kernel_rfl
theorem n50 (k : Nat) (p p1 : Int) (p2 p3 : List PV) : c50 (k + 1) p p1 p2 p3 =
 bif !decide (IntKind.i64.wrap (p * p1) < 0) then
  r50 (shlI .i64 1 (IntKind.i64.wrap (p * p1)))
 else none := by kernel_rfl
theorem n51 (k : Nat) (p p1 : Int) (p2 p3 v : List PV) : c51 (k + 1) p p1 p2 p3 v =
 R114 (c114 k p p1 p2 p3) fun b1 =>
 bif !b1 then
  r51 false
 else
  R115 (c115 k p p1 p2 p3) fun v1 =>
  bif ((v.length : Int) != v1) then
   r51 false
  else L51_1 k k 0 v (v.length : Int) 0 := by kernel_rfl
theorem sL51_1 (k n : Nat) (many : Int) (t20 : List PV) (t21 t22 : Int) : L51_1 k (n + 1) many t20 t21 t22 =
 bif decide (t22 < t21) then
  (lookP t20 t22).bind fun p1 =>
  (p1.atInt .i64 0).bind fun n1 =>
  R52 (c52 k n1 0 many) fun b1 =>
  bif !b1 then
   r51 false
  else
   bif (n1 == many) then
    L51_1 k n (IntKind.i64.wrap (many + 1)) t20 t21 (IntKind.i64.wrap (t22 + 1))
   else L51_1 k n many t20 t21 (IntKind.i64.wrap (t22 + 1))
 else r51 true := by kernel_rfl
theorem n52 (k : Nat) (n1 lo hi : Int) : c52 (k + 1) n1 lo hi =
 bif decide (n1 ≥ lo) then
  r52 (decide (n1 <= hi))
 else r52 false := by kernel_rfl
theorem n54 (k : Nat) (p p1 : Int) (p2 p3 v : List PV) : c54 (k + 1) p p1 p2 p3 v =
 R116 (c116 k v) fun v1 =>
 L54_1 k k 0 v1 0 p p1 p2 p3 v [] := by kernel_rfl
theorem sL54_1 (k n : Nat) (outLen : Nat) (t9 t10 n1 n11 : Int) (l l1 l2 xs : List PV) : L54_1 k (n + 1) outLen t9 t10 n1 n11 l l1 l2 xs =
 bif decide (t10 < t9) then
  R88 (c88 k n1 n11 l l1 l2 t10) fun l3 =>
  bif decide ((outLen + 1) * 24 <= LIM) && decide (outLen + 1 <= LIM) then
   L54_1 k n (outLen + 1) t9 (IntKind.i64.wrap (t10 + 1)) n1 n11 l l1 l2 ((xs.take outLen) ++ [PV.row 0 0 (l3.take l3.length)])
  else none
 else r54 (xs.take outLen) := by kernel_rfl
theorem n55 (k : Nat) (p p1 : Int) (p2 p3 v : List PV) : c55 (k + 1) p p1 p2 p3 v =
 L55_1 k k 0 0 p p1 p2 p3 v [] := by kernel_rfl
theorem sL55_1 (k n : Nat) (outLen : Nat) (class1 n1 n11 : Int) (l l1 l2 xs : List PV) : L55_1 k (n + 1) outLen class1 n1 n11 l l1 l2 xs =
 R117 (c117 k l2) fun v1 =>
 bif decide (class1 < v1) then
  R89 (c89 k n1 n11 l l1 l2 class1) fun l3 =>
  bif decide ((outLen + 1) * 24 <= LIM) && decide (outLen + 1 <= LIM) then
   L55_1 k n (outLen + 1) (IntKind.i64.wrap (class1 + 1)) n1 n11 l l1 l2 ((xs.take outLen) ++ [PV.row 0 0 l3])
  else none
 else r55 (xs.take outLen) := by kernel_rfl
theorem n56 (k : Nat) (v some1 : List PV) : c56 (k + 1) v some1 =
 R116 (c116 k v) fun v1 =>
 bif (v1 == v1) && decide ((0 : Int) <= v1) && decide (v1.toNat * 1 <= LIM) && decide (v1.toNat <= LIM) then
  L56_1 k k v1.toNat some1 (some1.length : Int) 0 v (List.replicate v1.toNat (PV.bool false))
 else none := by kernel_rfl
theorem sL56_1 (k n : Nat) (inLen : Nat) (t11 : List PV) (t12 t13 : Int) (l xs : List PV) : L56_1 k (n + 1) inLen t11 t12 t13 l xs =
 bif decide (t13 < t12) then
  (lookP t11 t13).bind fun p1 =>
  (p1.atInt .i64 0).bind fun n1 =>
  (lookP l n1).bind fun p2 =>
  (p2.atInt .i64 0).bind fun n2 =>
  bif decide ((0 : Int) <= n2) && decide (n2 < (inLen : Int)) then
   (xs[0 + n2.toNat]?).bind fun p3 =>
   L56_1 k n inLen t11 t12 (IntKind.i64.wrap (t13 + 1)) l (xs.set (0 + n2.toNat) (PV.bool true))
  else none
 else
  R118p (c118 k (xs.take inLen)) fun l1 =>
  r56 (l1.take l1.length) := by kernel_rfl
theorem n57 (k : Nat) (p p1 : Int) (p2 p3 t : List PV) : c57 (k + 1) p p1 p2 p3 t =
 R50 (c50 k p p1 p2 p3) fun v1 =>
 L57_1 k k t 0 v1 0 p p1 p2 p3 [] := by kernel_rfl
theorem sL57_1 (k n : Nat) (t : List PV) (outLen : Nat) (t9 t10 n1 n11 : Int) (l l1 xs : List PV) : L57_1 k (n + 1) t outLen t9 t10 n1 n11 l l1 xs =
 bif decide (t10 < t9) then
  R68 (c68 k n1 n11 l l1 t10) fun l2 =>
  R67 (c67 k n1 n11 l l1 t l2) fun b1 =>
  bif b1 then
   bif decide ((outLen + 1) * 8 <= LIM) && decide (outLen + 1 <= LIM) then
    L57_1 k n t (outLen + 1) t9 (IntKind.i64.wrap (t10 + 1)) n1 n11 l l1 ((xs.take outLen) ++ [PV.int .i64 t10])
   else none
  else L57_1 k n t outLen t9 (IntKind.i64.wrap (t10 + 1)) n1 n11 l l1 xs
 else r57 (xs.take outLen) := by kernel_rfl
theorem n58 (k : Nat) (v states : List PV) : c58 (k + 1) v states =
 L58_1 k k 0 states (states.length : Int) 0 v [] := by kernel_rfl
theorem sL58_1 (k n : Nat) (outLen : Nat) (t8 : List PV) (t9 t10 : Int) (l xs : List PV) : L58_1 k (n + 1) outLen t8 t9 t10 l xs =
 bif decide (t10 < t9) then
  (lookP t8 t10).bind fun p1 =>
  (p1.atInt .i64 0).bind fun n1 =>
  (lookP l n1).bind fun p2 =>
  (p2.atInt .i64 0).bind fun n2 =>
  R119 (c119 k (xs.take outLen) n2) fun l1 =>
  L58_1 k n l1.length t8 t9 (IntKind.i64.wrap (t10 + 1)) l l1
 else r58 (xs.take outLen) := by kernel_rfl
theorem n59 (k : Nat) (p p1 : Int) (p2 p3 t : List PV) : c59 (k + 1) p p1 p2 p3 t =
 L59_1 k k t 0 0 p p1 p2 p3 [] := by kernel_rfl
theorem sL59_1 (k n : Nat) (t : List PV) (outLen : Nat) (no n1 n11 : Int) (l l1 xs : List PV) : L59_1 k (n + 1) t outLen no n1 n11 l l1 xs =
 R115 (c115 k n1 n11 l l1) fun v1 =>
 bif decide (no < v1) then
  R121 (c121 k n1 n11 l l1 no) fun l2 =>
  R120 (c120 k n1 n11 l l1 t l2) fun b1 =>
  bif b1 then
   bif decide ((outLen + 1) * 8 <= LIM) && decide (outLen + 1 <= LIM) then
    L59_1 k n t (outLen + 1) (IntKind.i64.wrap (no + 1)) n1 n11 l l1 ((xs.take outLen) ++ [PV.int .i64 no])
   else none
  else L59_1 k n t outLen (IntKind.i64.wrap (no + 1)) n1 n11 l l1 xs
 else r59 (xs.take outLen) := by kernel_rfl
theorem n60 (k : Nat) (p p1 : Int) (p2 p3 v : List PV) : c60 (k + 1) p p1 p2 p3 v =
 R54 (c54 k p p1 p2 p3 v) fun l1 =>
 R57 (c57 k p p1 p2 p3 p2) fun l2 =>
 R56 (c56 k v l2) fun l3 =>
 R122 (c122 k l1 (l3.take l3.length)) fun l4 =>
 r60 l4 := by kernel_rfl
theorem n61 (k : Nat) (p p1 : Int) (p2 p3 v : List PV) : c61 (k + 1) p p1 p2 p3 v =
 R55 (c55 k p p1 p2 p3 v) fun l1 =>
 R59 (c59 k p p1 p2 p3 p2) fun l2 =>
 R58 (c58 k v l2) fun l3 =>
 R123 (c123 k l1 l3) fun l4 =>
 r61 l4 := by kernel_rfl
theorem n62f73 (k : Nat) (qs l : List PV) : c62f73 (k + 1) qs l =
 R124f73p (c124f73 k qs l) fun v1 =>
 r62f73 (decide (v1 ≥ 0)) := by kernel_rfl
theorem n62f80 (k : Nat) (qs : List PV) (n1 n11 : Int) (l l1 l2 : List PV) : c62f80 (k + 1) qs n1 n11 l l1 l2 =
 R124f80p (c124f80 k qs n1 n11 l l1 l2) fun v1 =>
 r62f80 (decide (v1 ≥ 0)) := by kernel_rfl
theorem n62f143 (k : Nat) (qs : List PV) (n1 : Int) : c62f143 (k + 1) qs n1 =
 R124f143 (c124f143 k qs n1) fun v1 v2 =>
 r62f143 v1 (decide (v2 ≥ 0)) := by kernel_rfl
theorem n65 (k : Nat) (qs : List PV) (v : Int) : c65 (k + 1) qs v =
 R125 (c125 k qs v) fun v1 =>
 r65 (decide (v1 ≥ 0)) := by kernel_rfl
end Go.Proofs.YthoecdnmokcfbaaGreat
/- Normal forms: printed by nf.py. -/
set_option linter.unusedVariables false
set_option maxRecDepth 100000
namespace Go.Proofs.YthoecdnmokcfbaaGreat
open Go.Dp
theorem n66 (k : Nat) (p p1 : Int) (p2 p3 : List PV) (no : Int) : c66 (k + 1) p p1 p2 p3 no =
 R68 (c68 k p p1 p2 p3 no) fun l1 =>
 L66_1 k k no l1 0 p3 (p3.length : Int) 0 p p1 p2 p3 [] := by kernel_rfl
theorem sL66_1 (k n : Nat) (no : Int) (qs : List PV) (outLen : Nat) (t14 : List PV) (t15 t16 n1 n11 : Int) (l l1 xs : List PV) : L66_1 k (n + 1) no qs outLen t14 t15 t16 n1 n11 l l1 xs =
 bif decide (t16 < t15) then
  (lookP t14 t16).bind fun p1 =>
  bif p1.shp 2 then
   (p1.atRow 2 0).bind fun l2 =>
   (p1.atRow 2 1).bind fun l3 =>
   R67 (c67 k n1 n11 l l1 l2 qs) fun b1 =>
   bif b1 then
    R127 (c127 k n1 n11 l l1 l2 l3 qs) fun l4 =>
    R126 (c126 k n1 n11 l l1 l4) fun v1 =>
    bif decide ((outLen + 1) * 8 <= LIM) && decide (outLen + 1 <= LIM) then
     L66_1 k n no qs (outLen + 1) t14 t15 (IntKind.i64.wrap (t16 + 1)) n1 n11 l l1 ((xs.take outLen) ++ [PV.int .i64 v1])
    else none
   else L66_1 k n no qs outLen t14 t15 (IntKind.i64.wrap (t16 + 1)) n1 n11 l l1 xs
  else none
 else
  bif ((outLen : Int) == 0) then
   r66 [PV.int .i64 no]
  else
   bif decide (outLen <= LIM) then
    (intsOf (xs.take outLen)).bind fun zs1 =>
    bif decide (outLen <= LIM) then
     (intsOf ((((sortI zs1).map (PV.int .i64)) ++ (xs.drop outLen)).take outLen)).bind fun zs2 =>
     r66 (((((compI zs2).map (PV.int .i64)) ++ (List.replicate (outLen - (compI zs2).length) (PV.int .i64 0))) ++ ((((sortI zs1).map (PV.int .i64)) ++ (xs.drop outLen)).drop outLen)).take ((compI zs2).length))
    else none
   else none := by kernel_rfl
theorem n67 (k : Nat) (p p1 : Int) (p2 p3 t qs : List PV) : c67 (k + 1) p p1 p2 p3 t qs =
 R130 (c130 k p t qs) fun v1 =>
 r67 (v1 == 1) := by kernel_rfl
theorem n68 (k : Nat) (p p1 : Int) (p2 p3 : List PV) (no : Int) : c68 (k + 1) p p1 p2 p3 no =
 L68_1 k k no 0 p1 0 p p1 p2 p3 [] := by kernel_rfl
theorem sL68_1 (k n : Nat) (no : Int) (outLen : Nat) (t9 t10 n1 n11 : Int) (l l1 xs : List PV) : L68_1 k (n + 1) no outLen t9 t10 n1 n11 l l1 xs =
 bif decide (t10 < t9) then
  bif !decide (IntKind.i64.wrap (n1 * t10) < 0) then
   R131 (c131 k n1) fun v1 =>
   bif decide ((outLen + 1) * 8 <= LIM) && decide (outLen + 1 <= LIM) then
    L68_1 k n no (outLen + 1) t9 (IntKind.i64.wrap (t10 + 1)) n1 n11 l l1 ((xs.take outLen) ++ [PV.int .u64 (bitsOp .and .u64 (shrI .u64 (IntKind.u64.wrap no) (IntKind.i64.wrap (n1 * t10))) v1)])
   else none
  else none
 else r68 (xs.take outLen) := by kernel_rfl
theorem n69 (k : Nat) (p p1 : Int) (p2 p3 : List PV) : c69 (k + 1) p p1 p2 p3 =
 R132 (c132 k p p1 p2 p3) fun b1 =>
 bif b1 then
  r69 (decide (IntKind.i64.wrap (p * p1) <= 5))
 else r69 false := by kernel_rfl
theorem n70 (k : Nat) (p p1 : Int) (p2 p3 : List PV) : c70 (k + 1) p p1 p2 p3 =
 R133 (c133 k p p1 p2 p3) fun l1 =>
 R57 (c57 k p p1 p2 p3 p2) fun l2 =>
 R122 (c122 k l1 l2) fun l3 =>
 r70 l3 := by kernel_rfl
theorem n71 (k : Nat) (code : List PV) : c71 (k + 1) code =
 R44 (c44 k code 0 0) fun l1 v1 v2 v3 v4 l2 l3 =>
 R45 (c45 k v3 v4 l2 l3 l1 v1 v2) fun l4 v5 v6 l5 =>
 R135 (c135 k v3) fun v7 =>
 R135 (c135 k v4) fun v8 =>
 R134 (c134 k v7 v8 1 l4 v5 v6) fun l6 v9 v10 l7 =>
 r71 v3 v4 l2 l3 l5 (l7.take l7.length) := by kernel_rfl
theorem n72 (k : Nat) (p p1 : Int) (p2 p3 t : List PV) : c72 (k + 1) p p1 p2 p3 t =
 R136 (c136 k p p1 t 2) fun b1 =>
 r72 b1 := by kernel_rfl
theorem n73 (k : Nat) (class1 : Int) (l : List PV) : c73 (k + 1) class1 l =
 R65 (c65 k l class1) fun b1 =>
 r73 b1 := by kernel_rfl
theorem n74 (k : Nat) (p p1 : Int) (p2 p3 t : List PV) : c74 (k + 1) p p1 p2 p3 t =
 R137 (c137 k p p1 t) fun v1 =>
 r74 (v1 == 2) := by kernel_rfl
theorem n75 (k : Nat) (a b : List PV) : c75 (k + 1) a b =
 L75_1 k k b a (a.length : Int) 0 := by kernel_rfl
theorem sL75_1 (k n : Nat) (b t7 : List PV) (t8 t9 : Int) : L75_1 k (n + 1) b t7 t8 t9 =
 bif decide (t9 < t8) then
  (lookP t7 t9).bind fun p1 =>
  (p1.atInt .i64 0).bind fun n1 =>
  R138 (c138 k b n1) fun b1 =>
  bif b1 then
   r75 true
  else L75_1 k n b t7 t8 (IntKind.i64.wrap (t9 + 1))
 else r75 false := by kernel_rfl
theorem n76 (k : Nat) (v classes : List PV) : c76 (k + 1) v classes =
 L76_1 k k classes 0 v (v.length : Int) 0 [] := by kernel_rfl
theorem sL76_1 (k n : Nat) (classes : List PV) (outLen : Nat) (t9 : List PV) (t10 t11 : Int) (xs : List PV) : L76_1 k (n + 1) classes outLen t9 t10 t11 xs =
 bif decide (t11 < t10) then
  (lookP t9 t11).bind fun p1 =>
  (p1.atInt .i64 0).bind fun n1 =>
  R138 (c138 k classes n1) fun b1 =>
  bif b1 then
   bif decide ((outLen + 1) * 8 <= LIM) && decide (outLen + 1 <= LIM) then
    L76_1 k n classes (outLen + 1) t9 t10 (IntKind.i64.wrap (t11 + 1)) ((xs.take outLen) ++ [PV.int .i64 t11])
   else none
  else L76_1 k n classes outLen t9 t10 (IntKind.i64.wrap (t11 + 1)) xs
 else r76 (xs.take outLen) := by kernel_rfl
theorem n77 (k : Nat) (wide vars : Int) (t : List PV) : c77 (k + 1) wide vars t =
 R139 (c139 k wide) fun b1 =>
 bif !b1 then
  r77 false
 else
  R140 (c140 k vars) fun b2 =>
  bif !b2 then
   r77 false
  else
   bif decide ((t.length : Int) < 1) then
    r77 false
   else
    bif decide ((t.length : Int) > 48) then
     r77 false
    else L77_1 k k wide vars 0 t (t.length : Int) 0 [] := by kernel_rfl
theorem sL77_1 (k n : Nat) (wide vars : Int) (stackLen : Nat) (t33 : List PV) (t34 t35 : Int) (xs : List PV) : L77_1 k (n + 1) wide vars stackLen t33 t34 t35 xs =
 bif decide (t35 < t34) then
  (lookP t33 t35).bind fun p1 =>
  bif p1.shp 2 then
   (p1.atInt .i64 0).bind fun n1 =>
   (p1.atInt .u64 1).bind fun n2 =>
   R141 (c141 k n1) fun v1 v2 v3 =>
   bif (v3 == 0) then
    r77 false
   else
    R142 (c142 k wide vars n1 n2) fun b1 =>
    bif !b1 then
     r77 false
    else
     bif decide (IntKind.i64.wrap ((stackLen : Int) - v1) < 0) then
      r77 false
     else
      bif decide ((0 : Int) <= IntKind.i64.wrap ((stackLen : Int) - v1)) && decide (IntKind.i64.wrap ((stackLen : Int) - v1) <= (stackLen : Int)) && decide ((stackLen : Int) <= (stackLen : Int)) then
       R62f143p (c62f143 k ((xs.drop (0 + ((IntKind.i64.wrap ((stackLen : Int) - v1)).toNat))).take (stackLen - ((IntKind.i64.wrap ((stackLen : Int) - v1)).toNat))) v2) fun v4 b2 =>
       bif b2 then
        r77 false
       else
        bif decide ((0 : Int) <= IntKind.i64.wrap ((stackLen : Int) - v1)) && decide (IntKind.i64.wrap ((stackLen : Int) - v1) <= (stackLen : Int)) then
         bif decide ((((IntKind.i64.wrap ((stackLen : Int) - v1)).toNat) + 1) * 8 <= LIM) && decide (((IntKind.i64.wrap ((stackLen : Int) - v1)).toNat) + 1 <= LIM) then
          L77_1 k n wide vars (((IntKind.i64.wrap ((stackLen : Int) - v1)).toNat) + 1) t33 t34 (IntKind.i64.wrap (t35 + 1)) ((xs.take ((IntKind.i64.wrap ((stackLen : Int) - v1)).toNat)) ++ [PV.int .i64 v3])
         else none
        else none
      else none
  else none
 else r77 ((stackLen : Int) == 1) := by kernel_rfl
theorem n78 (k : Nat) (wide vars : Int) (t : List PV) : c78 (k + 1) wide vars t =
 R77 (c77 k wide vars t) fun b1 =>
 bif !b1 then
  r78 [] false
 else r78 t true := by kernel_rfl
theorem n79 (k : Nat) (qs : List PV) (h1 : qs.length * 16 <= LIM) (h2 : qs.length <= LIM) : c79 (k + 1) qs = r79 qs := evF_T (by first | (simp [T, orT, numT, cloneT, clones, lk, h1, h2] <;> rfl) | (simp [T, cloneT, clones, lk, h1, h2] <;> rfl))
theorem n80 (k : Nat) (no n1 n11 : Int) (l l1 l2 : List PV) : c80 (k + 1) no n1 n11 l l1 l2 =
 R68 (c68 k n1 n11 l l1 no) fun l3 =>
 R67 (c67 k n1 n11 l l1 l2 l3) fun b1 =>
 r80 (!b1) := by kernel_rfl
theorem n81 (k : Nat) (p p1 : Int) (p2 p3 preds : List PV) : c81 (k + 1) p p1 p2 p3 preds =
 R69 (c69 k p p1 p2 p3) fun b1 =>
 bif !b1 then
  r81 [] false
 else
  R144 (c144 k p p1 p2 p3 preds 0) fun b2 =>
  bif !b2 then
   r81 [] false
  else
   R50 (c50 k p p1 p2 p3) fun v1 =>
   bif (v1 == v1) && decide ((0 : Int) <= v1) && decide (v1.toNat * 16 <= LIM) && decide (v1.toNat <= LIM) then
    L81_1 k k preds v1.toNat (v1.toNat : Int) 0 p p1 p2 p3 [] (List.replicate v1.toNat (PV.agg [.int .i64 0, .int .i64 0]))
   else none := by kernel_rfl
theorem sL81_1 (k n : Nat) (preds : List PV) (keysLen : Nat) (t25 t26 n1 n11 : Int) (l l1 l2 xs : List PV) : L81_1 k (n + 1) preds keysLen t25 t26 n1 n11 l l1 l2 xs =
 bif decide (t26 < t25) then
  R68 (c68 k n1 n11 l l1 t26) fun l3 =>
  L81_2 k n k preds keysLen t26 l3 t25 t26 preds (preds.length : Int) 0 n1 n11 l l1 l2 xs
 else
  R145p (c145 k (xs.take keysLen)) fun l4 =>
  r81 (l4.take l4.length) true := by kernel_rfl
theorem sL81_2 (k n1 n : Nat) (preds : List PV) (keysLen : Nat) (no : Int) (qs : List PV) (t25 t26 : Int) (t32 : List PV) (t33 t34 n11 n12 : Int) (l l1 l2 xs : List PV) : L81_2 k n1 (n + 1) preds keysLen no qs t25 t26 t32 t33 t34 n11 n12 l l1 l2 xs =
 bif decide (t34 < t33) then
  (lookP t32 t34).bind fun p1 =>
  (p1.atRow 2 0).bind fun l3 =>
  bif decide ((0 : Int) <= no) && decide (no < (keysLen : Int)) then
   (xs[0 + no.toNat]?).bind fun p2 =>
   (p2.atInt .i64 0).bind fun n2 =>
   bif decide ((0 : Int) <= no) && decide (no < (keysLen : Int)) then
    R130 (c130 k n11 l3 qs) fun v1 =>
    bif !decide (t34 < 0) then
     (xs[0 + no.toNat]?).bind fun p3 =>
     (putPart p3 2 0 (PV.int .i64 (bitsOp .or .i64 n2 (shlI .i64 (IntKind.i64.wrap v1) t34))) 0).bind fun p4 =>
     L81_2 k n1 n preds keysLen no qs t25 t26 t32 t33 (IntKind.i64.wrap (t34 + 1)) n11 n12 l l1 l2 (xs.set (0 + no.toNat) p4)
    else none
   else none
  else none
 else L81_1 k n1 preds keysLen t25 (IntKind.i64.wrap (t26 + 1)) n11 n12 l l1 l2 xs := by kernel_rfl
theorem n82 (k : Nat) (a b : List PV) : c82 (k + 1) a b =
 L82_1 k k 0 a (a.length : Int) 0 b [] [] := by kernel_rfl
theorem sL82_1 (k n : Nat) (keysLen : Nat) (t10 : List PV) (t11 t12 : Int) (l l1 xs : List PV) : L82_1 k (n + 1) keysLen t10 t11 t12 l l1 xs =
 bif decide (t12 < t11) then
  (lookP t10 t12).bind fun p1 =>
  (p1.atInt .i64 0).bind fun n1 =>
  (lookP l t12).bind fun p2 =>
  (p2.atInt .i64 0).bind fun n2 =>
  bif decide ((keysLen + 1) * 16 <= LIM) && decide (keysLen + 1 <= LIM) then
   L82_1 k n (keysLen + 1) t10 t11 (IntKind.i64.wrap (t12 + 1)) l l1 ((xs.take keysLen) ++ [PV.agg [.int .i64 n1, .int .i64 n2]])
  else none
 else
  R145p (c145 k (xs.take keysLen)) fun l2 =>
  r82 (l2.take l2.length) := by kernel_rfl
theorem n83 (k : Nat) (code : List PV) : c83 (k + 1) code =
 R44 (c44 k code 0 0) fun l1 v1 v2 v3 v4 l2 l3 =>
 R45 (c45 k v3 v4 l2 l3 l1 v1 v2) fun l4 v5 v6 l5 =>
 R103 (c103 k 6 l4 v5 v6) fun l6 v7 v8 v9 =>
 R103 (c103 k 9 l6 v7 v8) fun l7 v10 v11 v12 =>
 r83 v3 v4 l2 l3 l5 (IntKind.i64.wrap (v9 - (IntKind.i64.wrap (v12.tdiv 8)))) := by kernel_rfl
theorem n84 (k : Nat) (p p1 : Int) (p2 p3 v : List PV) (class1 : Int) : c84 (k + 1) p p1 p2 p3 v class1 =
 R49 (c49 k p p1 p2 p3 v) fun b1 =>
 bif b1 then
  bif decide (class1 ≥ 0) then
   R116 (c116 k v) fun v1 =>
   r84 (decide (class1 < v1))
  else r84 false
 else r84 false := by kernel_rfl
theorem n85 (k : Nat) (p p1 : Int) (p2 p3 v : List PV) (class1 : Int) : c85 (k + 1) p p1 p2 p3 v class1 =
 R88 (c88 k p p1 p2 p3 v class1) fun l1 =>
 R101 (c101 k v class1) fun l2 =>
 L85_1 k k l1.length l2 (l2.length : Int) 0 p p1 p2 p3 v l1 := by kernel_rfl
theorem sL85_1 (k n : Nat) (outLen : Nat) (t17 : List PV) (t18 t19 n1 n11 : Int) (l l1 l2 xs : List PV) : L85_1 k (n + 1) outLen t17 t18 t19 n1 n11 l l1 l2 xs =
 bif decide (t19 < t18) then
  (lookP t17 t19).bind fun p1 =>
  (p1.atInt .i64 0).bind fun n2 =>
  R66 (c66 k n1 n11 l l1 n2) fun l3 =>
  R56 (c56 k l2 l3) fun l4 =>
  R146f147p (c146f147 k (xs.take outLen) (l4.take l4.length)) fun l5 =>
  L85_1 k n l5.length t17 t18 (IntKind.i64.wrap (t19 + 1)) n1 n11 l l1 l2 l5
 else r85 (xs.take outLen) := by kernel_rfl
theorem n86 (k : Nat) (p p1 : Int) (p2 p3 v : List PV) (class1 : Int) : c86 (k + 1) p p1 p2 p3 v class1 =
 R51 (c51 k p p1 p2 p3 v) fun b1 =>
 bif b1 then
  R117 (c117 k v) fun v1 =>
  R52 (c52 k class1 0 (IntKind.i64.wrap (v1 - 1))) fun b2 =>
  r86 b2
 else r86 false := by kernel_rfl
theorem n87 (k : Nat) (p p1 : Int) (p2 p3 v : List PV) (class1 : Int) : c87 (k + 1) p p1 p2 p3 v class1 =
 R89 (c89 k p p1 p2 p3 v class1) fun l1 =>
 L87_1 k k class1 0 l1 (l1.length : Int) 0 p p1 p2 p3 v [] := by kernel_rfl
theorem sL87_1 (k n : Nat) (class1 : Int) (outLen : Nat) (t16 : List PV) (t17 t18 n1 n11 : Int) (l l1 l2 xs : List PV) : L87_1 k (n + 1) class1 outLen t16 t17 t18 n1 n11 l l1 l2 xs =
 bif decide (t18 < t17) then
  (lookP t16 t18).bind fun p1 =>
  (p1.atInt .i64 0).bind fun n2 =>
  R148 (c148 k l2 class1) fun l3 =>
  L87_2 k n k class1 outLen n2 true t16 t17 t18 l3 (l3.length : Int) 0 n1 n11 l l1 l2 xs
 else r87 (xs.take outLen) := by kernel_rfl
theorem sL87_2 (k n1 n : Nat) (class1 : Int) (outLen : Nat) (to : Int) (all : Bool) (t16 : List PV) (t17 t18 : Int) (t24 : List PV) (t25 t26 n11 n12 : Int) (l l1 l2 xs : List PV) : L87_2 k n1 (n + 1) class1 outLen to all t16 t17 t18 t24 t25 t26 n11 n12 l l1 l2 xs =
 bif decide (t26 < t25) then
  (lookP t24 t26).bind fun p1 =>
  (p1.atInt .i64 0).bind fun n2 =>
  bif all then
   R111 (c111 k n11 n12 l l1 n2) fun l3 =>
   R58 (c58 k l2 l3) fun l4 =>
   R138 (c138 k l4 to) fun b1 =>
   L87_2 k n1 n class1 outLen to b1 t16 t17 t18 t24 t25 (IntKind.i64.wrap (t26 + 1)) n11 n12 l l1 l2 xs
  else L87_2 k n1 n class1 outLen to false t16 t17 t18 t24 t25 (IntKind.i64.wrap (t26 + 1)) n11 n12 l l1 l2 xs
 else
  bif all then
   bif decide ((outLen + 1) * 8 <= LIM) && decide (outLen + 1 <= LIM) then
    L87_1 k n1 class1 (outLen + 1) t16 t17 (IntKind.i64.wrap (t18 + 1)) n11 n12 l l1 l2 ((xs.take outLen) ++ [PV.int .i64 to])
   else none
  else L87_1 k n1 class1 outLen t16 t17 (IntKind.i64.wrap (t18 + 1)) n11 n12 l l1 l2 xs := by kernel_rfl
theorem n88 (k : Nat) (p p1 : Int) (p2 p3 v : List PV) (class1 : Int) : c88 (k + 1) p p1 p2 p3 v class1 =
 R101 (c101 k v class1) fun l1 =>
 L88_1 k k 0 l1 (l1.length : Int) 0 p p1 p2 p3 v [] := by kernel_rfl
theorem sL88_1 (k n : Nat) (nextLen : Nat) (t13 : List PV) (t14 t15 n1 n11 : Int) (l l1 l2 xs : List PV) : L88_1 k (n + 1) nextLen t13 t14 t15 n1 n11 l l1 l2 xs =
 bif decide (t15 < t14) then
  (lookP t13 t15).bind fun p1 =>
  (p1.atInt .i64 0).bind fun n2 =>
  R66 (c66 k n1 n11 l l1 n2) fun l3 =>
  bif decide ((nextLen + l3.length) * 8 <= LIM) && decide (nextLen + l3.length <= LIM) then
   L88_1 k n (nextLen + l3.length) t13 t14 (IntKind.i64.wrap (t15 + 1)) n1 n11 l l1 l2 ((xs.take nextLen) ++ l3)
  else none
 else
  R56p (c56 k l2 (xs.take nextLen)) fun l4 =>
  r88 (l4.take l4.length) := by kernel_rfl
theorem n89 (k : Nat) (p p1 : Int) (p2 p3 v : List PV) (class1 : Int) : c89 (k + 1) p p1 p2 p3 v class1 =
 R148 (c148 k v class1) fun l1 =>
 R149 (c149 k p p1 p2 p3 l1) fun l2 =>
 R58 (c58 k v l2) fun l3 =>
 r89 l3 := by kernel_rfl
theorem n101 (k : Nat) (v : List PV) (class1 : Int) : c101 (k + 1) v class1 =
 L101_1 k k class1 0 v (v.length : Int) 0 [] := by kernel_rfl
theorem sL101_1 (k n : Nat) (class1 : Int) (outLen : Nat) (t10 : List PV) (t11 t12 : Int) (xs : List PV) : L101_1 k (n + 1) class1 outLen t10 t11 t12 xs =
 bif decide (t12 < t11) then
  (lookP t10 t12).bind fun p1 =>
  (p1.atInt .i64 0).bind fun n1 =>
  bif (n1 == class1) then
   bif decide ((outLen + 1) * 8 <= LIM) && decide (outLen + 1 <= LIM) then
    L101_1 k n class1 (outLen + 1) t10 t11 (IntKind.i64.wrap (t12 + 1)) ((xs.take outLen) ++ [PV.int .i64 t12])
   else none
  else L101_1 k n class1 outLen t10 t11 (IntKind.i64.wrap (t12 + 1)) xs
 else r101 (xs.take outLen) := by kernel_rfl
theorem n102 (k : Nat) (list l : List PV) (n1 n11 : Int) : c102 (k + 1) list l n1 n11 =
 R103 (c103 k (list.length : Int) l n1 n11) fun l1 v1 v2 v3 =>
 (lookP list v3).bind fun p1 =>
 (p1.atInt .i64 0).bind fun n2 =>
 r102 l1 v1 v2 n2 := by kernel_rfl
theorem n103 (k : Nat) (n1 : Int) (l : List PV) (n11 n12 : Int) : c103 (k + 1) n1 l n11 n12 =
 bif decide (n1 <= 1) then
  r103 l n11 n12 0
 else
  R163 (c163 k l n11 n12) fun l1 v1 v2 v3 =>
  bif decide (n1 > 200) then
   R163 (c163 k l1 v1 v2) fun l2 v4 v5 v6 =>
   bif !(n1 == 0) then
    r103 l2 v4 v5 ((IntKind.i64.wrap ((IntKind.i64.wrap (v3 * 256)) + v6)).tmod n1)
   else none
  else
   bif !(n1 == 0) then
    r103 l1 v1 v2 (v3.tmod n1)
   else none := by kernel_rfl
theorem n104 (k : Nat) (wide vars : Int) (l : List PV) (n1 n11 : Int) : c104 (k + 1) wide vars l n1 n11 =
 R103 (c103 k 2 l n1 n11) fun l1 v1 v2 v3 =>
 R48 (c48 k 3 l1 v1 v2) fun l2 v4 v5 b1 =>
 bif b1 then
  R134 (c134 k wide vars 1 l2 v4 v5) fun l3 v6 v7 l4 =>
  R103 (c103 k 3 l3 v6 v7) fun l5 v8 v9 v10 =>
  L104_1 k k wide vars (IntKind.i64.wrap (1 + v10)) l5 v8 v9 0 0 [] [] wide vars l4.length 0 l4 []
 else
  R103 (c103 k 3 l2 v4 v5) fun l6 v11 v12 v13 =>
  L104_1 k k wide vars (IntKind.i64.wrap (1 + v13)) l6 v11 v12 0 0 [] [] wide vars 3 0 [PV.agg [.int .i64 2, .int .u64 0], PV.agg [.int .i64 1, .int .u64 (IntKind.u64.wrap v3)], PV.agg [.int .i64 14, .int .u64 0]] [] := by kernel_rfl
theorem sL104_1 (k n : Nat) (wide vars n1 : Int) (l : List PV) (n11 n12 n13 n14 : Int) (l1 l2 : List PV) (n15 n16 : Int) (Len Len1 : Nat) (xs xs1 : List PV) : L104_1 k (n + 1) wide vars n1 l n11 n12 n13 n14 l1 l2 n15 n16 Len Len1 xs xs1 =
 bif decide (n1 > 0) then
  R164 (c164 k wide vars l n11 n12) fun l3 v1 v2 l4 l5 =>
  bif decide (l5.length <= l5.length) then
   bif (Len1 == xs1.length) && decide ((Len1 + 1) * 48 <= LIM) && decide (Len1 + 1 <= LIM) then
    L104_1 k n wide vars (IntKind.i64.wrap (n1 - 1)) l3 v1 v2 n13 n14 l1 l2 n15 n16 Len (Len1 + 1) xs (xs1 ++ [PV.agg [.row 2 0 l4, .row 2 0 (l5.take l5.length)]])
   else none
  else none
 else
  bif (Len1 == xs1.length) then
   r104 l n11 n12 n15 n16 (xs.take Len) (xs1.take Len1)
  else none := by kernel_rfl
theorem n105 (k : Nat) (p p1 : Int) (p2 p3 preds : List PV) : c105 (k + 1) p p1 p2 p3 preds =
 R114 (c114 k p p1 p2 p3) fun b1 =>
 bif !b1 then
  r105 [] false
 else
  R165 (c165 k p p1 p2 p3 preds) fun b2 =>
  bif !b2 then
   r105 [] false
  else
   R166 (c166 k p p1 p2 p3 preds) fun l1 =>
   r105 (l1.take l1.length) true := by kernel_rfl
theorem n106 (k : Nat) (p p1 : Int) (p2 p3 : List PV) (most : Int) (l : List PV) (n1 n11 : Int) : c106 (k + 1) p p1 p2 p3 most l n1 n11 =
 R103 (c103 k (IntKind.i64.wrap (most + 1)) l n1 n11) fun l1 v1 v2 v3 =>
 L106_1 k k 0 v3 l1 v1 v2 p p1 p2 p3 [] := by kernel_rfl
theorem sL106_1 (k n : Nat) (lLen : Nat) (n1 : Int) (l : List PV) (n11 n12 n13 n14 : Int) (l1 l2 xs : List PV) : L106_1 k (n + 1) lLen n1 l n11 n12 n13 n14 l1 l2 xs =
 bif decide (n1 > 0) then
  R135 (c135 k n13) fun v1 =>
  R135 (c135 k n14) fun v2 =>
  R103 (c103 k 2 l n11 n12) fun l3 v3 v4 v5 =>
  R134 (c134 k v1 v2 v5 l3 v3 v4) fun l4 v6 v7 l5 =>
  bif decide ((lLen + 1) * 24 <= LIM) && decide (lLen + 1 <= LIM) then
   L106_1 k n (lLen + 1) (IntKind.i64.wrap (n1 - 1)) l4 v6 v7 n13 n14 l1 l2 ((xs.take lLen) ++ [PV.row 2 0 (l5.take l5.length)])
  else none
 else r106 l n11 n12 (xs.take lLen) := by kernel_rfl
theorem n107 (k : Nat) (p p1 : Int) (p2 p3 v some1 : List PV) : c107 (k + 1) p p1 p2 p3 v some1 =
 R51 (c51 k p p1 p2 p3 v) fun b1 =>
 bif !b1 then
  r107 [] false
 else
  R167 (c167 k some1 0 (IntKind.i64.wrap ((v.length : Int) - 1))) fun b2 =>
  bif !b2 then
   r107 [] false
  else
   R168 (c168 k v some1) fun l1 =>
   r107 (l1.take l1.length) true := by kernel_rfl
theorem n108 (k : Nat) (n1 most : Int) (l : List PV) (n11 n12 : Int) : c108 (k + 1) n1 most l n11 n12 =
 R103 (c103 k (IntKind.i64.wrap (most + 1)) l n11 n12) fun l1 v1 v2 v3 =>
 L108_1 k k n1 0 v3 l1 v1 v2 [] := by kernel_rfl
theorem sL108_1 (k n : Nat) (n1 : Int) (lLen : Nat) (k1 : Int) (l : List PV) (n11 n12 : Int) (xs : List PV) : L108_1 k (n + 1) n1 lLen k1 l n11 n12 xs =
 bif decide (k1 > 0) then
  R103 (c103 k n1 l n11 n12) fun l1 v1 v2 v3 =>
  R119 (c119 k (xs.take lLen) v3) fun l2 =>
  L108_1 k n n1 l2.length (IntKind.i64.wrap (k1 - 1)) l1 v1 v2 l2
 else
  R48 (c48 k 40 l n11 n12) fun l3 v4 v5 b1 =>
  bif b1 then
   bif decide ((lLen + 1) * 8 <= LIM) && decide (lLen + 1 <= LIM) then
    r108 l3 v4 v5 (((xs.take lLen) ++ [PV.int .i64 n1]).take (lLen + 1))
   else none
  else r108 l3 v4 v5 (xs.take lLen) := by kernel_rfl
theorem n111 (k : Nat) (p p1 : Int) (p2 p3 : List PV) (no : Int) : c111 (k + 1) p p1 p2 p3 no =
 R121 (c121 k p p1 p2 p3 no) fun l1 =>
 R171 (c171 k p p1 p2 p3 l1) fun l2 =>
 L111_1 k k no l1 0 l2 (l2.length : Int) 0 p p1 p2 p3 [] := by kernel_rfl
theorem sL111_1 (k n : Nat) (no : Int) (qs : List PV) (outLen : Nat) (t14 : List PV) (t15 t16 n1 n11 : Int) (l l1 xs : List PV) : L111_1 k (n + 1) no qs outLen t14 t15 t16 n1 n11 l l1 xs =
 bif decide (t16 < t15) then
  (lookP t14 t16).bind fun p1 =>
  (p1.atInt .i64 0).bind fun n2 =>
  R173 (c173 k n1 n11 l l1 qs n2) fun l2 =>
  R172 (c172 k n1 n11 l l1 l2) fun v1 =>
  R119 (c119 k (xs.take outLen) v1) fun l3 =>
  L111_1 k n no qs l3.length t14 t15 (IntKind.i64.wrap (t16 + 1)) n1 n11 l l1 l3
 else
  bif ((outLen : Int) == 0) then
   r111 [PV.int .i64 no]
  else r111 (xs.take outLen) := by kernel_rfl
theorem n113 (k : Nat) (v : List PV) (states : Int) : c113 (k + 1) v states =
 L113_1 k k states 0 v (v.length : Int) 0 v := by kernel_rfl
theorem sL113_1 (k n : Nat) (states classes : Int) (t9 : List PV) (t10 t11 : Int) (l : List PV) : L113_1 k (n + 1) states classes t9 t10 t11 l =
 bif decide (t11 < t10) then
  (lookP t9 t11).bind fun p1 =>
  (p1.atInt .i64 0).bind fun n1 =>
  bif decide (n1 < 0) then
   r113 false
  else
   bif decide (n1 > classes) then
    r113 false
   else
    bif (n1 == classes) then
     L113_1 k n states (IntKind.i64.wrap (classes + 1)) t9 t10 (IntKind.i64.wrap (t11 + 1)) l
    else L113_1 k n states classes t9 t10 (IntKind.i64.wrap (t11 + 1)) l
 else r113 ((l.length : Int) == states) := by kernel_rfl
theorem n114 (k : Nat) (p p1 : Int) (p2 p3 : List PV) : c114 (k + 1) p p1 p2 p3 =
 R174 (c174 k p p1 p2 p3) fun b1 =>
 bif b1 then
  r114 (decide (IntKind.i64.wrap (p * p1) <= 5))
 else r114 false := by kernel_rfl
theorem n115 (k : Nat) (p p1 : Int) (p2 p3 : List PV) : c115 (k + 1) p p1 p2 p3 =
 bif !decide (IntKind.u64.wrap (IntKind.i64.wrap (p * p1)) < 0) then
  r115 (shlI .i64 1 (IntKind.u64.wrap (IntKind.i64.wrap (p * p1))))
 else none := by kernel_rfl
theorem n116 (k : Nat) (v : List PV) : c116 (k + 1) v =
 R175 (c175 k v) fun v1 =>
 r116 (IntKind.i64.wrap (v1 + 1)) := by kernel_rfl
theorem n117 (k : Nat) (v : List PV) : c117 (k + 1) v =
 L117_1 k k 0 v (v.length : Int) 0 := by kernel_rfl
theorem sL117_1 (k n : Nat) (many : Int) (t7 : List PV) (t8 t9 : Int) : L117_1 k (n + 1) many t7 t8 t9 =
 bif decide (t9 < t8) then
  (lookP t7 t9).bind fun p1 =>
  (p1.atInt .i64 0).bind fun n1 =>
  bif decide (n1 ≥ many) then
   L117_1 k n (IntKind.i64.wrap (n1 + 1)) t7 t8 (IntKind.i64.wrap (t9 + 1))
  else L117_1 k n many t7 t8 (IntKind.i64.wrap (t9 + 1))
 else r117 many := by kernel_rfl
theorem n118 (k : Nat) (list : List PV) : c118 (k + 1) list =
 L118_1 k k 0 list (list.length : Int) 0 [] := by kernel_rfl
theorem sL118_1 (k n : Nat) (outLen : Nat) (t7 : List PV) (t8 t9 : Int) (xs : List PV) : L118_1 k (n + 1) outLen t7 t8 t9 xs =
 bif decide (t9 < t8) then
  (lookP t7 t9).bind fun p1 =>
  (p1.atBool 0).bind fun b1 =>
  bif b1 then
   bif decide ((outLen + 1) * 8 <= LIM) && decide (outLen + 1 <= LIM) then
    L118_1 k n (outLen + 1) t7 t8 (IntKind.i64.wrap (t9 + 1)) ((xs.take outLen) ++ [PV.int .i64 t9])
   else none
  else L118_1 k n outLen t7 t8 (IntKind.i64.wrap (t9 + 1)) xs
 else r118 (xs.take outLen) := by kernel_rfl
end Go.Proofs.YthoecdnmokcfbaaGreat
