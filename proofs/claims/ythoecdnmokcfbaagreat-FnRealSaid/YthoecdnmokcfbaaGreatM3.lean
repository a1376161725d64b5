/- Nu; Ca; Srt0; Srt; Env; Cs; Nf0; Nf1; Nf2; Nf3: texts put together. -/
import Derived.Test.YthoecdnmokcfbaaGreatProg
import Derived.Test.YthoecdnmokcfbaaGreatM2
import Derived.Maps.OwnSet
import Derived.Maps.AppendAt
import Derived.WideKeyPair
import Derived.DeepKeys4
import Derived.OwnWalk
import Derived.WalkKit
import Derived.Shelf.Sort.Plain
import Derived.Shelf.Slices.CompactI
import Derived.Shelf.Slices.In.SortNone
import Derived.Ground.NamesProg
import Derived.Ground.Names2Prog
import Derived.Sort.OwnSortedInts
/- The numbers of classes: the program's map of pairs,walked through by hand. -/
set_option linter.unusedVariables false
namespace Go.Proofs.YthoecdnmokcfbaaGreat
open Go.Maps Go.RowKit Go.WideMaps
def clsF:List (Int × Int)->List (Int × Int)->List Int
 | [],_=>[]
 | p :: l,kn=>if p ∈ kn then (kn.idxOf p:Int) :: clsF l kn else (kn.length:Int) :: clsF l (kn ++ [p])
def clsL (ps:List (Int × Int)):List Int:=clsF ps []
def Out (ps:List (Int × Int)) (k:Nat):List Int:=clsF (ps.take k) []
open Go.Dp
def pairOf:PV->Option (Int × Int)
 | .agg [.int .i64 a,.int .i64 b]=>some (a,b)
 | _=>none
def pairsOf:List PV->Option (List (Int × Int))
 | []=>some []
 | x :: l=>(pairOf x).bind fun p=>(pairsOf l).bind fun q=>some (p :: q)
def wf2B (p:Int × Int):Bool:=(Lit.int .i64 p.1).wf && (Lit.int .i64 p.2).wf
def numT:FuncId->List AV->List (List CV)->R:=fun f args bs =>
 bif f == 145 then match args,bs with
  | [.s (.c (.p (.row 2 0 xs)))],[]=>(pairsOf xs).bind fun ps=>bif decide (ps.length<=1000000) && ps.all wf2B then some ([.agg [.own 3 0 ((clsL ps).map (PV.int .i64))]],[]) else none
  | _,_=>none
 else none
end Go.Proofs.YthoecdnmokcfbaaGreat
/- Classes numbered by their first members. -/
set_option linter.unusedVariables false
set_option linter.unusedSimpArgs false
set_option linter.unusedSectionVars false
namespace Go.Proofs.YthoecdnmokcfbaaGreat
open Go.Dp
section
variable {α β:Type} [BEq α] [LawfulBEq α] [BEq β] [LawfulBEq β]
def cls:List α->List α->List Int
 | [],_=>[]
 | p :: l,kn=>bif kn.contains p then (kn.idxOf p:Int) :: cls l kn else (kn.length:Int) :: cls l (kn ++ [p])
def dis:List α->List α->List α
 | [],kn=>kn
 | p :: l,kn=>bif kn.contains p then dis l kn else dis l (kn ++ [p])
theorem cls_len:∀ (l kn:List α),(cls l kn).length = l.length
 | [],kn=>rfl
 | p :: l,kn=>by
  rw [cls]
  cases kn.contains p
  ·simp [cls_len l]
  ·simp [cls_len l]
theorem dis_sub:∀ (l kn:List α) (x:α),x ∈ dis l kn ↔ x ∈ kn ∨ x ∈ l
 | [],kn,x=>by simp [dis]
 | p :: l,kn,x=>by
  rw [dis]
  cases hc:kn.contains p
  ·rw [cond_false,dis_sub l,List.mem_append,List.mem_singleton,List.mem_cons]
   constructor
   ·rintro ((h | h) | h)
    ·exact .inl h
    ·exact .inr (.inl h)
    ·exact .inr (.inr h)
   ·rintro (h | h | h)
    ·exact .inl (.inl h)
    ·exact .inl (.inr h)
    ·exact .inr h
  ·have hp:p ∈ kn:=by simpa using hc
   rw [cond_true,dis_sub l,List.mem_cons]
   constructor
   ·rintro (h | h)
    ·exact .inl h
    ·exact .inr (.inr h)
   ·rintro (h | h | h)
    ·exact .inl h
    ·exact .inl (h ▸ hp)
    ·exact .inr h
theorem dis_nodup:∀ (l kn:List α),kn.Nodup->(dis l kn).Nodup
 | [],kn,h=>h
 | p :: l,kn,h=>by
  rw [dis]
  cases hc:kn.contains p
  ·have hp:p ∉ kn:=by simpa using hc
   refine dis_nodup l _ ?_
   rw [List.nodup_append]
   exact ⟨h,by simp,fun a ha b hb=>by rw [List.mem_singleton.1 hb];rintro rfl;exact hp ha⟩
  ·exact dis_nodup l kn h
theorem idx_app {kn t:List α} {p:α} (h:p ∈ kn):(kn ++ t).idxOf p = kn.idxOf p:=by
 rw [List.idxOf_append,if_pos h]
end
def goodF:List Int->Int->Bool
 | [],_=>true
 | x :: l,m=>decide (0<=x) && (decide (x<=m) && goodF l (bif x == m then m + 1 else m))
def manyF:List Int->Int->Int
 | [],m=>m
 | x :: l,m=>manyF l (bif x == m then m + 1 else m)
def iota (m:Nat):List Int:=(List.range m).map fun (i:Nat)=>(i:Int)
theorem iota_mem (m:Nat) (x:Int):x ∈ iota m ↔ 0<=x /\ x < m:=by
 unfold iota
 rw [List.mem_map]
 constructor
 ·rintro ⟨i,hi,rfl⟩
  rw [List.mem_range] at hi
  omega
 ·rintro ⟨h1,h2⟩
  exact ⟨x.toNat,by rw [List.mem_range];omega,by omega⟩
theorem iota_succ (m:Nat):iota m ++ [(m:Int)] = iota (m + 1):=by simp [iota,List.range_succ]
theorem iota_len (m:Nat):(iota m).length = m:=by simp [iota]
theorem iota_get (m i:Nat) (h:i < (iota m).length):(iota m)[i] = (i:Int):=by
 simp [iota]
theorem iota_idx (m:Nat) {x:Int} (h:x ∈ iota m):((iota m).idxOf x:Int) = x:=by
 have h1:=List.idxOf_lt_length_of_mem h
 have e:=List.getElem_idxOf h1
 rw [iota_get] at e
 exact e
theorem cls_good:∀ (l:List Int) (m:Nat),goodF l m = true->cls l (iota m) = l /\ ((dis l (iota m)).length:Int) = manyF l m
 | [],m,h=>⟨rfl,by simp [dis,manyF,iota_len]⟩
 | x :: l,m,h=>by
  simp only [goodF,Bool.and_eq_true,decide_eq_true_eq] at h
  obtain ⟨h1,h2,h3⟩:=h
  rw [cls,dis,manyF]
  by_cases e:x = (m:Int)
  ·subst e
   have hn:(iota m).contains (m:Int) = false:=by
    rw [<- Bool.not_eq_true,List.contains_iff_mem,iota_mem]
    omega
   have he:(((m:Int)) == (m:Int)) = true:=beq_self_eq_true _
   rw [he] at h3 ⊢
   simp only [cond_true] at h3 ⊢
   have h3':goodF l ((m + 1:Nat):Int) = true:=by simpa using h3
   obtain ⟨q1,q2⟩:=cls_good l (m + 1) h3'
   rw [hn]
   simp only [cond_false]
   rw [iota_succ,q1,iota_len]
   exact ⟨rfl,by rw [q2];simp⟩
  ·have hm:x ∈ iota m:=(iota_mem m x).2 ⟨h1,by omega⟩
   have hc:(iota m).contains x = true:=by simpa using hm
   have he:(x == (m:Int)) = false:=by simpa using e
   rw [he] at h3 ⊢
   simp only [cond_false] at h3 ⊢
   obtain ⟨q1,q2⟩:=cls_good l m h3
   rw [hc]
   simp only [cond_true]
   rw [q1,iota_idx m hm]
   exact ⟨rfl,q2⟩
section
variable {α:Type} [BEq α] [LawfulBEq α]
theorem good_cls:∀ (l kn:List α),goodF (cls l kn) kn.length = true /\ manyF (cls l kn) kn.length = ((dis l kn).length:Int)
 | [],kn=>⟨rfl,rfl⟩
 | p :: l,kn=>by
  rw [cls,dis]
  cases hc:kn.contains p
  ·obtain ⟨q1,q2⟩:=good_cls l (kn ++ [p])
   simp only [cond_false,goodF,manyF,beq_self_eq_true,cond_true]
   have e:((kn ++ [p]).length:Int) = (kn.length:Int) + 1:=by simp
   rw [e] at q1 q2
   rw [q1,q2,decide_eq_true (by omega),decide_eq_true (by omega)]
   simp
  ·have hp:p ∈ kn:=by simpa using hc
   have hlt:=List.idxOf_lt_length_of_mem hp
   obtain ⟨q1,q2⟩:=good_cls l kn
   have he:(((kn.idxOf p:Nat):Int) == (kn.length:Int)) = false:=by
    have:((kn.idxOf p:Nat):Int) ≠ (kn.length:Int):=by omega
    simpa using this
   simp only [cond_true,goodF,manyF,he,cond_false,q1,q2]
   rw [decide_eq_true (by omega),decide_eq_true (by omega)]
   simp
theorem nodup_sub:∀ {a b:List α},a.Nodup->(∀ x ∈ a,x ∈ b)->a.length<=b.length
 | [],b,_,_=>by simp
 | x :: a,b,hn,h=>by
  rw [List.nodup_cons] at hn
  have hx:=h x (by simp)
  have:=nodup_sub (b:=b.erase x) hn.2 (fun y hy=>by
   have hne:y ≠ x:=by rintro rfl;exact hn.1 hy
   exact (List.mem_erase_of_ne hne).2 (h y (by simp [hy])))
  rw [List.length_erase_of_mem hx] at this
  have hpos:0 < b.length:=List.length_pos_of_mem hx
  simp only [List.length_cons]
  omega
end
theorem cls_self {v:List Int} (h:goodF v 0 = true):cls v [] = v /\ ((dis v []).length:Int) = manyF v 0:=cls_good v 0 h
theorem good_lt:∀ (l:List Int) (m:Nat),goodF l m = true->∀ x ∈ l,0<=x /\ x < manyF l m
 | [],m,h,x,hx=>by simp at hx
 | y :: l,m,h,x,hx=>by
  have hmono:∀ (l:List Int) (m:Int),m<=manyF l m:=by
   intro l
   induction l with
   | nil=>intro m;exact Int.le_refl m
   | cons z l ih =>
    intro m
    rw [manyF]
    have:=ih (bif z == m then m + 1 else m)
    refine Int.le_trans ?_ this
    cases (z == m)
    ·exact Int.le_refl m
    ·exact Int.le_of_lt (Int.lt_succ m)
  simp only [goodF,Bool.and_eq_true,decide_eq_true_eq] at h
  obtain ⟨h1,h2,h3⟩:=h
  rw [manyF]
  by_cases e:y = (m:Int)
  ·have he:(y == (m:Int)) = true:=by simpa using e
   rw [he] at h3 ⊢
   simp only [cond_true] at h3 ⊢
   have h3':goodF l ((m + 1:Nat):Int) = true:=by simpa using h3
   rcases List.mem_cons.1 hx with rfl | hx
   ·have:=hmono l ((m:Int) + 1)
    omega
   ·have:=good_lt l (m + 1) h3' x hx
    simpa using this
  ·have he:(y == (m:Int)) = false:=by simpa using e
   rw [he] at h3 ⊢
   simp only [cond_false] at h3 ⊢
   rcases List.mem_cons.1 hx with rfl | hx
   ·have:=hmono l (m:Int)
    omega
   ·exact good_lt l m h3 x hx
section
variable {α β γ:Type} [BEq β] [LawfulBEq β] [BEq γ] [LawfulBEq γ]
end
end Go.Proofs.YthoecdnmokcfbaaGreat
/-
  DERIVED: THE SHELF's CONTRACTS AT THIS DUMP,IN PLAIN WORDS (tools/lay-plain.mjs out of 'YthoecdnmokcfbaaGreatSrt0.lean',which tools/lay-shelf.mjs wrote): THE SAME DECLARATIONS UNDER THE SAME NAMES: 'import','namespace','open','def','theorem' AND NOTHING ELSE: no command of the shelf's: FOR A HAND-IN. Each laying: the table of numbers ('.._ren') and one theorem,a field a fact of the dump's own or the kernel's comparison;each contract: ONE APPLICATION.
-/
namespace Go.Proofs
open Go.Shelf
def YthoecdnmokcfbaaGreat.lays189_ren:Go.Shelf.Ren:=⟨fun | 189=>128 | 125=>181 | 257=>180 | 128=>211 | 129=>212 | 294=>202 | 295=>203 | 296=>204 | 297=>205 | 298=>206 | 299=>207 | 216=>208 | 300=>209 | 301=>210 | 328=>225 | 329=>226 | 330=>227 | 331=>228 | 332=>229 | 215=>230 | 343=>236 | n=>n,fun | 28=>28 | 3=>3 | 46=>166 | 0=>0 | 51=>191 | 53=>64 | 4=>4 | 183=>185 | 182=>184 | 131=>58 | 5=>5 | 9=>9 | 218=>202 | 222=>206 | 228=>214 | 229=>215 | n=>n,fun | n=>n⟩
theorem YthoecdnmokcfbaaGreat.lays189:Go.Proofs.Lays.n189 Tryz.prog YthoecdnmokcfbaaGreat.lays189_ren:={
 mixed:=by kernel_rfl
 f125:=Tryz.func181.trans (congrArg some (by kernel_rfl))
 f128:=Tryz.func211.trans (congrArg some (by kernel_rfl))
 f129:=Tryz.func212.trans (congrArg some (by kernel_rfl))
 f189:=Tryz.func128.trans (congrArg some (by kernel_rfl))
 f215:=Tryz.func230.trans (congrArg some (by kernel_rfl))
 f216:=Tryz.func208.trans (congrArg some (by kernel_rfl))
 f257:=Tryz.func180.trans (congrArg some (by kernel_rfl))
 f294:=Tryz.func202.trans (congrArg some (by kernel_rfl))
 f295:=Tryz.func203.trans (congrArg some (by kernel_rfl))
 f296:=Tryz.func204.trans (congrArg some (by kernel_rfl))
 f297:=Tryz.func205.trans (congrArg some (by kernel_rfl))
 f298:=Tryz.func206.trans (congrArg some (by kernel_rfl))
 f299:=Tryz.func207.trans (congrArg some (by kernel_rfl))
 f300:=Tryz.func209.trans (congrArg some (by kernel_rfl))
 f301:=Tryz.func210.trans (congrArg some (by kernel_rfl))
 f328:=Tryz.func225.trans (congrArg some (by kernel_rfl))
 f329:=Tryz.func226.trans (congrArg some (by kernel_rfl))
 f330:=Tryz.func227.trans (congrArg some (by kernel_rfl))
 f331:=Tryz.func228.trans (congrArg some (by kernel_rfl))
 f332:=Tryz.func229.trans (congrArg some (by kernel_rfl))
 f343:=Tryz.func236.trans (congrArg some (by kernel_rfl))
 t0:=Tryz.underlying0
 a0:=Tryz.isAgg0
 z0:=Tryz.sizeOf0
 v0:=Tryz.zeroValue0
 t3:=Tryz.underlying3
 a3:=Tryz.isAgg3
 z3:=Tryz.sizeOf3
 v3:=Tryz.zeroValue3
 t4:=Tryz.underlying4
 a4:=Tryz.isAgg4
 z4:=Tryz.sizeOf4
 v4:=Tryz.zeroValue4
 t5:=Tryz.underlying5
 a5:=Tryz.isAgg5
 z5:=Tryz.sizeOf5
 v5:=Tryz.zeroValue5
 t9:=Tryz.underlying9
 a9:=Tryz.isAgg9
 z9:=Tryz.sizeOf9
 v9:=Tryz.zeroValue9
 t28:=Tryz.underlying28
 a28:=Tryz.isAgg28
 z28:=Tryz.sizeOf28
 v28:=Tryz.zeroValue28
 t46:=Tryz.underlying166
 a46:=Tryz.isAgg166
 z46:=Tryz.sizeOf166
 v46:=Tryz.zeroValue166
 t51:=Tryz.underlying191
 a51:=Tryz.isAgg191
 z51:=Tryz.sizeOf191
 v51:=Tryz.zeroValue191
 t53:=Tryz.underlying64
 a53:=Tryz.isAgg64
 z53:=Tryz.sizeOf64
 v53:=Tryz.zeroValue64
 t131:=Tryz.underlying58
 a131:=Tryz.isAgg58
 z131:=Tryz.sizeOf58
 v131:=Tryz.zeroValue58
 t182:=Tryz.underlying184
 a182:=Tryz.isAgg184
 z182:=Tryz.sizeOf184
 v182:=Tryz.zeroValue184
 t183:=Tryz.underlying185
 a183:=Tryz.isAgg185
 z183:=Tryz.sizeOf185
 v183:=Tryz.zeroValue185
 t218:=Tryz.underlying202
 a218:=Tryz.isAgg202
 z218:=Tryz.sizeOf202
 v218:=Tryz.zeroValue202
 t222:=Tryz.underlying206
 a222:=Tryz.isAgg206
 z222:=Tryz.sizeOf206
 v222:=Tryz.zeroValue206
 t228:=Tryz.underlying214
 a228:=Tryz.isAgg214
 z228:=Tryz.sizeOf214
 v228:=Tryz.zeroValue214
 t229:=Tryz.underlying215
 a229:=Tryz.isAgg215
 z229:=Tryz.sizeOf215
 v229:=Tryz.zeroValue215 }
def YthoecdnmokcfbaaGreat.lays20_ren:Go.Shelf.Ren:=⟨fun | 20=>129 | n=>n,fun | 22=>28 | 3=>3 | 4=>4 | 0=>0 | n=>n,fun | n=>n⟩
theorem YthoecdnmokcfbaaGreat.lays20:Go.Proofs.Lays2.n20 Tryz.prog YthoecdnmokcfbaaGreat.lays20_ren:={
 mixed:=by kernel_rfl
 f20:=Tryz.func129.trans (congrArg some (by kernel_rfl))
 t0:=Tryz.underlying0
 a0:=Tryz.isAgg0
 z0:=Tryz.sizeOf0
 v0:=Tryz.zeroValue0
 t3:=Tryz.underlying3
 a3:=Tryz.isAgg3
 z3:=Tryz.sizeOf3
 v3:=Tryz.zeroValue3
 t4:=Tryz.underlying4
 a4:=Tryz.isAgg4
 z4:=Tryz.sizeOf4
 v4:=Tryz.zeroValue4
 t22:=Tryz.underlying28
 a22:=Tryz.isAgg28
 z22:=Tryz.sizeOf28
 v22:=Tryz.zeroValue28
 i3:=by kernel_rfl }
end Go.Proofs
/- The library's sort and its compacting,at rows of integers of one's own: the shelf's contracts,at this program. -/
set_option linter.unusedVariables false
namespace Go.Proofs.YthoecdnmokcfbaaGreat
open Go.Dp Go.Sort Go.RowKit
theorem putCells_at (cur:Array Value) (bo:Nat) (ts:List Int) (h:ts = [] ∨ bo + ts.length<=cur.size):(putCells (Value.int .i64) bo ts.toArray cur).toList = cur.toList.take bo ++ (ts.map (Value.int .i64) ++ cur.toList.drop (bo + ts.length)):=by
 rcases h with rfl | h
 ·rw [show (putCells (Value.int .i64) bo ([]:List Int).toArray cur) = cur from by
   apply Array.ext_getElem?
   intro j
   by_cases hj:j < cur.size <;> simp [putCells,hj] <;> omega]
  simp
 apply List.ext_getElem?
 intro j
 rw [Array.getElem?_toList]
 by_cases hj:j < bo
 ·rw [List.getElem?_append_left (by (simp;try omega)),List.getElem?_take_of_lt hj]
  simp [putCells,show ¬ (bo<=j) by omega,show j < cur.size by omega]
 ·have hlt:cur.toList.length = cur.size:=Array.length_toList
  rw [List.getElem?_append_right (by rw [List.length_take];omega),List.length_take,hlt,Nat.min_eq_left (by omega)]
  by_cases hj2:j < bo + ts.length
  ·rw [List.getElem?_append_left (by (simp;try omega))]
   simp [putCells,hj2,show bo<=j by omega,show j < cur.size by omega,show j - bo < ts.length by omega]
  ·rw [List.getElem?_append_right (by (simp;try omega)),List.length_map,List.getElem?_drop]
   have ej:bo + ts.length + (j - bo - ts.length) = j:=by omega
   rw [ej]
   by_cases hc:j < cur.size
   ·simp [putCells,hj2,hc]
   ·rw [Array.getElem?_eq_none (by (simp [putCells];try omega)),List.getElem?_eq_none (by (simp;try omega))]
theorem holds_at {w:World} {g bo:Nat} {cur:Array Value} {e:TypeId} {ss:List Int} (hb:w.heap[g]? = some (.cells cur e (0,0))) (ht:(cur.toList.drop bo).take ss.length = ss.map (Value.int .i64)):Holds (Value.int .i64) w g bo ss.toArray:=by
 intro j hj
 have hj':j < ss.length:=by simpa using hj
 refine ⟨?_,by simp [World.frozen?,hb]⟩
 have h1:((cur.toList.drop bo).take ss.length)[j]? = (ss.map (Value.int .i64))[j]?:=by rw [ht]
 rw [List.getElem?_take_of_lt hj',List.getElem?_drop] at h1
 simp only [World.cell?,hb]
 simp only [Option.isSome_none,Bool.false_eq_true,if_false]
 rw [<- Array.getElem?_toList,h1]
 simp [hj']
theorem put_wd {w:World} {b bo n:Nat} {os:Array Obj} {cu:Array Value} {e:TypeId} {d:List Int} (hb:w.heap[b]? = some (.cells cu e (0,0))) (hd:d = [] ∨ bo + d.length<=cu.size) :
  Wd w (grow (putRow (Value.int .i64) (Sort.ahead w n) b bo d.toArray) os) /\ (∀ k,k < w.heap.size->k ≠ b->(grow (putRow (Value.int .i64) (Sort.ahead w n) b bo d.toArray) os).heap[k]? = w.heap[k]?) /\
   ∃ cu',(grow (putRow (Value.int .i64) (Sort.ahead w n) b bo d.toArray) os).heap[b]? = some (.cells cu' e (0,0)) /\ cu'.size = cu.size /\ cu'.toList = cu.toList.take bo ++ (d.map (Value.int .i64) ++ cu.toList.drop (bo + d.length)):=by
 have hg:b < w.heap.size:=(Array.getElem?_eq_some_iff.1 hb).1
 refine ⟨⟨rfl,rfl,rfl,by simp⟩,fun k hk hne=>?_,putCells (Value.int .i64) bo d.toArray cu,?_,by simp [putCells],putCells_at cu bo d hd⟩
 ·rw [heap_grow_old _ _ (by simpa using hk)]
  simp [putRow,mapBlock,Sort.ahead,Array.getElem?_modify,Ne.symm hne]
 ·rw [heap_grow_old _ _ (by simpa using hg)]
  simp [putRow,mapBlock,Sort.ahead,Array.getElem?_modify,hb,onCells]
theorem size_at {cu:Array Value} {bo:Nat} {zs:List Int} (h:(cu.toList.drop bo).take zs.length = zs.map (Value.int .i64)):zs = [] ∨ bo + zs.length<=cu.size:=by
 cases hz:zs with
 | nil=>exact .inl rfl
 | cons z t =>
  right
  have:=congrArg List.length h
  simp [hz] at this
  simp
  omega
theorem sort_ok:SortOK Tryz.prog 1 128 where
 enters:=⟨Tryz.f128,Tryz.func128,by kernel_rfl,by decide⟩
 empty w p cap:=Any.slices_Sort_int_none YthoecdnmokcfbaaGreat.lays189 p cap w
 row w b bo cap zs cu e hb ht hc hl:=by
  have hH:Holds (Value.int .i64) w b bo zs.toArray:=holds_at hb ht
  have hlt:=(Array.getElem?_eq_some_iff.1 hb).1
  refine Calls.mono (Any.slices_Sort_int YthoecdnmokcfbaaGreat.lays189 b bo cap zs w hH hlt (by unfold LIM at hl;omega)) ?_
  rintro e' w' ⟨rfl,n,os,rfl⟩
  have hsz:=size_at ht
  have hl2:(zs.mergeSort fun x y=>decide (x<=y)).length = zs.length:=List.length_mergeSort zs
  have:=put_wd (n:=n) (os:=os) (d:=zs.mergeSort fun x y=>decide (x<=y)) hb (hsz.imp (fun h=>List.eq_nil_of_length_eq_zero (by rw [hl2,h];rfl)) (fun h=>by rw [hl2];exact h))
  rw [hl2] at this
  exact ⟨rfl,this⟩
theorem comp_ok:SortOK Tryz.prog 2 129 where
 enters:=⟨Tryz.f129,Tryz.func129,by kernel_rfl,by decide⟩
 empty w p cap:=Any.slices_Compact_int_empty YthoecdnmokcfbaaGreat.lays20 p cap w
 row w b bo cap zs cu e hb ht hc hl:=by
  have hH:Holds (Value.int .i64) w b bo zs.toArray:=holds_at hb ht
  refine Calls.mono (Any.slices_Compact_int YthoecdnmokcfbaaGreat.lays20 b bo cap zs w hH (by unfold LIM at hl;omega) hc) ?_
  rintro e' w' ⟨rfl,n,rfl⟩
  have hsz:=size_at ht
  have hcl:=compI_le zs
  have hl2:(Lib.compact zs ++ List.replicate (zs.length - (Lib.compact zs).length) 0).length = zs.length:=by
   have:(Lib.compact zs).length<=zs.length:=hcl
   simp
   omega
  have:=put_wd (n:=n) (os:=#[]) (d:=Lib.compact zs ++ List.replicate (zs.length - (Lib.compact zs).length) 0) hb (hsz.imp (fun h=>List.eq_nil_of_length_eq_zero (by rw [hl2,h];rfl)) (fun h=>by rw [hl2];exact h))
  rw [hl2,grow_empty] at this
  exact ⟨rfl,this⟩
end Go.Proofs.YthoecdnmokcfbaaGreat
/- What the evaluator is told of the program's types,loops and functions: printed by nf.py. -/
namespace Go.Proofs.YthoecdnmokcfbaaGreat
open Go.Dp
def tabs:Tabs where
 sl:=[(22,(5,0,1)),(24,(96,2,16)),(25,(114,2,48)),(28,(3,0,8)),(35,(28,0,24)),(86,(64,0,8)),
 (98,(24,0,24)),(112,(116,2,32)),(125,(4,0,1))]
 sh:=[(2,0),(3,0),(4,0),(5,0),(9,0),(22,0),(24,0),(25,0),(27,4),(28,0),(30,1),(35,0),(63,0),(64,0),(66,3),(71,0),(86,0),(96,2),(98,0),(112,0),
 (114,2),(116,2),(125,0),(156,0),(166,0),(173,0)]
 fl:=[(27,[some (0,0),some (1,0),some (2,0),some (3,0)]),(30,[some (0,0)]),(66,[some (0,0),some (1,0),some (2,0)]),(96,[some (0,0),some (1,0)]),(114,[some (0,0),some (1,0)]),(116,[some (0,0),some (1,0)])]
 ik:=[(2,.i64),(3,.i64),(5,.u8),(64,.u64),(166,.u64)]
 zr:=[(2,[.int .i64 0]),(3,[.int .i64 0]),(4,[.bool false]),(5,[.int .u8 0]),(9,[.str ⟨#[]⟩]),(22,[.row 0 2 []]),
 (24,[.row 0 2 []]),(25,[.row 0 2 []]),(27,[.int .i64 0,.int .i64 0,.row 0 2 [],.row 0 2 []]),(28,[.row 0 2 []]),(30,[.row 0 2 []]),(35,[.row 0 2 []]),
 (64,[.int .u64 0]),(66,[.row 0 2 [],.int .i64 0,.int .u64 0]),(86,[.row 0 2 []]),(96,[.int .i64 0,.int .u64 0]),(98,[.row 0 2 []]),(112,[.row 0 2 []]),
 (114,[.row 0 2 [],.row 0 2 []]),(116,[.int .i64 0,.row 0 2 []]),(125,[.row 0 2 []]),(166,[.int .u64 0])]
 eqs:=[(96,[0,0])]
 bl:=[(4,())]
 st:=[(9,())]
 flat:=[(2,()),(3,()),(4,()),(5,()),(9,()),(64,()),(96,()),(166,())]
 ar:=[]
def tLive:List (Nat × List (Nat × List Nat)):=[(5,[(0,[28,222,223,224])]),(8,[(0,[3,4,8,26,27,28])]),(16,[(0,[0,1,12,13])]),
 (17,[(0,[0,1,12,13])]),(18,[(0,[1,2,6])]),(19,[(0,[1,7,8,9])]),
 (32,[(0,[1,7,8,9])]),(44,[(0,[0,2,3,4])]),(51,[(0,[5,20,21,22])]),
 (53,[(0,[1,2,9,10,11])]),(57,[(0,[1,2,5,9,10])]),(58,[(0,[2,5,8,9,10])]),
 (59,[(0,[1,2,5,6])]),(66,[(0,[1,2,5,6,14,15,16])]),(68,[(0,[1,2,5,9,10])]),
 (75,[(0,[1,7,8,9])]),(77,[(0,[0,1,7,33,34,35])]),(92,[(0,[7,8,9,10]),(2,[7,8,9,11,12])]),
 (94,[(0,[3,4,7,8,18,19,20]),(2,[3,4,7,10,11,18,19,20,24,25,26])]),(95,[(0,[5,6,7])]),(96,[(0,[1,2,5,6]),(2,[1,2,5,6,7,27,28,29]),(4,[2,5,10,11]),(6,[2,5,10,11,69,70,71])]),
 (98,[(0,[3,4,7,8,9,24,25,26]),(2,[3,4,7,8,11,12,24,25,26,36,37,38]),(4,[3,4,7,8,11,12,24,25,26,36,37,38,45,46,47])]),(101,[(0,[1,5,10,11,12])]),(104,[(0,[0,1,2,6,7,8])]),
 (106,[(0,[0,4,7,8])]),(108,[(0,[0,1,7,8])]),(111,[(0,[1,2,5,6,14,15,16])]),
 (113,[(0,[1,2,5,9,10,11])]),(117,[(0,[3,7,8,9])]),(118,[(0,[3,7,8,9])]),
 (119,[(0,[0,1,5])]),(121,[(0,[1,2,5,6])]),(124,[(0,[0,1,7,8])]),
 (125,[(0,[0,1,7,8])]),(126,[(0,[2,5,8,9,10])]),(127,[(0,[2,3,7,13,14,15])]),
 (130,[(0,[0,2,7,12,13,14])]),(133,[(0,[1,3,7,8])]),(137,[(0,[0,1,7,27,28,29]),(2,[0,1,7,10,11,12,27,28,29])]),
 (138,[(0,[1,7,8,9])]),(146,[(0,[0,1,5,6])]),(148,[(0,[1,5,9,10,11])]),
 (149,[(0,[2,5,10,11,12]),(2,[2,5,10,11,12,18,19,20])]),(151,[(0,[0,4,5,9,10])]),(157,[(0,[0,1,7,8])]),
 (164,[(0,[0,1,2,6,7,8])]),(165,[(0,[2,10,11,12])]),(166,[(0,[2,4,5,12,13,14])]),
 (167,[(0,[0,1,2,9,10,11])]),(168,[(0,[1,4,5,9,10,11])]),(171,[(0,[1,2,5,9,10,11])]),
 (172,[(0,[1,2,5,6])]),(173,[(0,[1,3,7,18,19,20])]),(174,[(0,[1,18,19,20])]),
 (175,[(0,[0,3,4])]),(185,[(0,[2,3,13,14,15])]),(195,[(0,[0,2,3,4,9,10,11]),(2,[0,2,3,4,5,6,7,8,9,10,11])]),
 (197,[(0,[2,3,21,22,23])]),(198,[(0,[0,1,5,6])]),(200,[(0,[0,5,8])]),
 (217,[(0,[0,1,7,8])]),(221,[(0,[0,1,2,3])]),(232,[(0,[2,8,9,10,11,13,14,15,16]),(2,[2,8,9,10,14,15,16,17,18])])]
def tRk:List (Nat × List RK):=[(5,[.c (.p (.bool))]),(6,[.c (.p (.bool))]),(8,[.c (.p (.row 0)),.c (.p (.bool))]),(13,[.c (.p (.row 0)),.c (.p (.bool))]),(16,[.c (.p (.bool))]),(17,[.c (.p (.bool))]),
 (18,[.c (.p (.bool)),.c (.p (.bool))]),(19,[.c (.p (.bool))]),(31,[.c (.p (.row 0)),.c (.p (.bool))]),(32,[.c (.p (.bool))]),(33,[.agg [.p (.int .i64),.p (.int .i64),.p (.row 2),.p (.row 2)],.agg [.p (.row 0)],.c (.p (.row 0))]),(34,[.c (.p (.row 0)),.c (.p (.bool))]),
 (35,[.c (.p (.row 0)),.c (.p (.bool))]),(36,[.c (.p (.int .i64)),.c (.p (.bool))]),(37,[.c (.p (.int .i64)),.c (.p (.bool))]),(38,[.c (.p (.row 0)),.c (.p (.bool))]),(39,[.c (.p (.row 0)),.c (.p (.bool))]),(40,[.c (.p (.row 0)),.c (.p (.bool))]),
 (41,[.c (.p (.row 0)),.c (.p (.bool))]),(42,[.c (.p (.row 0)),.c (.p (.bool))]),(43,[.c (.p (.row 0)),.c (.p (.bool))]),(44,[.agg [.p (.int .i64),.p (.int .i64),.p (.row 2),.own ⟨114,some ⟨1,116,2,0,none⟩⟩ 2]]),(45,[.agg [.p (.row 0)]]),(48,[.c (.p (.bool))]),
 (49,[.c (.p (.bool))]),(50,[.c (.p (.int .i64))]),(51,[.c (.p (.bool))]),(52,[.c (.p (.bool))]),(53,[.c (.p (.bool))]),(57,[.c (.own 3 0)]),
 (58,[.c (.p (.row 0))]),(59,[.c (.p (.row 0))]),(62,[.c (.p (.bool))]),(63,[.c (.p (.bool))]),(64,[.c (.p (.bool))]),(65,[.c (.p (.bool))]),
 (66,[.c (.p (.row 0))]),(67,[.c (.p (.bool))]),(68,[.c (.p (.row 0))]),(69,[.c (.p (.bool))]),(72,[.c (.p (.bool))]),(74,[.c (.p (.bool))]),
 (75,[.c (.p (.bool))]),(77,[.c (.p (.bool))]),(84,[.c (.p (.bool))]),(86,[.c (.p (.bool))]),(89,[.c (.p (.row 0))]),(90,[.agg [.p (.int .i64),.p (.int .i64),.p (.row 2),.p (.row 2)],.agg [.p (.row 0)],.c (.p (.row 0))]),
 (91,[.c (.p (.bool))]),(92,[.c (.p (.rowN 0))]),(93,[.c (.p (.bool))]),(94,[.c (.p (.row 0))]),(95,[.c (.p (.int .i64))]),(96,[.c (.p (.row 0))]),
 (97,[.c (.p (.int .i64))]),(98,[.c (.own ⟨28,some ⟨0,3,0,0,none⟩⟩ 0)]),(99,[.c (.p (.row 0)),.c (.p (.bool))]),(100,[.c (.p (.row 0))]),(101,[.c (.own 3 0)]),(102,[.c (.p (.int .i64))]),
 (103,[.c (.p (.int .i64))]),(104,[.agg [.p (.int .i64),.p (.int .i64),.p (.row 2),.own ⟨114,some ⟨1,116,2,0,none⟩⟩ 2]]),(105,[.agg [.own 3 0],.c (.p (.bool))]),(106,[.c (.p (.row 0))]),(107,[.agg [.own 3 0],.c (.p (.bool))]),(108,[.c (.p (.row 0))]),
 (111,[.c (.p (.row 0))]),(113,[.c (.p (.bool))]),(114,[.c (.p (.bool))]),(115,[.c (.p (.int .i64))]),(116,[.c (.p (.int .i64))]),(117,[.c (.p (.int .i64))]),
 (118,[.c (.own 3 0)]),(119,[.c (.own 3 0)]),(120,[.c (.p (.bool))]),(121,[.c (.p (.row 0))]),(124,[.c (.p (.int .i64))]),(125,[.c (.p (.int .i64))]),
 (126,[.c (.p (.int .i64))]),(127,[.c (.p (.row 0))]),(130,[.c (.p (.int .u64))]),(131,[.c (.p (.int .u64))]),(132,[.c (.p (.bool))]),(133,[.c (.p (.row 0))]),
 (134,[.c (.own 96 2)]),(135,[.c (.p (.int .i64))]),(136,[.c (.p (.bool))]),(137,[.c (.p (.int .i64))]),(138,[.c (.p (.bool))]),(139,[.c (.p (.bool))]),
 (140,[.c (.p (.bool))]),(141,[.c (.p (.int .i64)),.c (.p (.int .i64)),.c (.p (.int .i64))]),(142,[.c (.p (.bool))]),(143,[.c (.p (.bool))]),(146,[.c (.own 3 0)]),(148,[.c (.p (.row 0))]),
 (149,[.c (.p (.row 0))]),(150,[.agg [.p (.int .i64),.p (.int .i64),.p (.row 2),.p (.row 2)],.agg [.p (.row 0)]]),(151,[.c (.p (.row 0))]),(152,[.c (.p (.bool))]),(153,[.c (.p (.bool))]),(154,[.c (.p (.bool))]),
 (155,[.c (.p (.bool))]),(156,[.c (.p (.bool))]),(157,[.c (.p (.int .i64))]),(158,[.c (.p (.bool))]),(159,[.c (.p (.bool))]),(160,[.c (.own 3 0)]),
 (161,[.c (.p (.bool))]),(162,[.c (.p (.bool))]),(163,[.c (.p (.int .i64))]),(164,[.agg [.p (.row 2),.own 116 2]]),(165,[.c (.p (.bool))]),(166,[.agg [.own 3 0]]),
 (167,[.c (.p (.bool))]),(168,[.agg [.own 3 0]]),(171,[.c (.p (.row 0))]),(172,[.c (.p (.int .i64))]),(173,[.c (.p (.row 0))]),(174,[.c (.p (.bool))]),
 (175,[.c (.p (.int .i64))]),(176,[.c (.p (.int .u64))]),(179,[.c (.own 64 0)]),(182,[.c (.p (.int .u64))]),(183,[.c (.p (.bool))]),(184,[.c (.p (.bool))]),
 (185,[.c (.p (.bool))]),(186,[.c (.own 96 2)]),(187,[.c (.p (.int .i64))]),(188,[.c (.p (.bool))]),(189,[.c (.p (.int .i64)),.c (.p (.int .i64)),.c (.p (.int .i64))]),(190,[.c (.p (.bool))]),
 (191,[.c (.p (.bool))]),(194,[.agg [.own 3 0]]),(195,[.agg [.own 3 0]]),(197,[.c (.p (.bool))]),(198,[.c (.p (.int .u64))]),(199,[.c (.p (.int .u64))]),
 (200,[.c (.p (.int .i64))]),(212,[.c (.p (.int .i64))]),(213,[.c (.p (.int .u64)),.c (.p (.int .u64)),.c (.p (.bool))]),(214,[.c (.p (.int .u64))]),(215,[.c (.p (.int .u64))]),(216,[.c (.p (.int .i64))]),
 (217,[.c (.p (.int .i64))]),(218,[.c (.p (.bool))]),(220,[.c (.p (.int .u64)),.c (.p (.int .u64)),.c (.p (.bool))]),(221,[.c (.p (.int .u64))]),(222,[.c (.p (.int .u64))]),(223,[.c (.p (.int .i64))]),
 (231,[.c (.p (.bool))]),(232,[.c (.p (.int .u64)),.c (.p (.int .u64))]),(233,[.c (.p (.bool))]),(237,[.c (.p (.int .i64))])]
def tBk:List (Nat × List (List Kind)):=[(44,[[.p (.row 0),.p (.int .i64),.p (.int .u64)]]),(45,[[.p (.row 0),.p (.int .i64),.p (.int .u64)]]),(48,[[.p (.row 0),.p (.int .i64),.p (.int .u64)]]),(102,[[.p (.row 0),.p (.int .i64),.p (.int .u64)]]),(103,[[.p (.row 0),.p (.int .i64),.p (.int .u64)]]),(104,[[.p (.row 0),.p (.int .i64),.p (.int .u64)]]),
 (106,[[.p (.row 0),.p (.int .i64),.p (.int .u64)]]),(108,[[.p (.row 0),.p (.int .i64),.p (.int .u64)]]),(134,[[.p (.row 0),.p (.int .i64),.p (.int .u64)]]),(143,[[.p (.int .i64)]]),(150,[[.p (.row 0),.p (.int .i64),.p (.int .u64)]]),(151,[[.p (.row 0),.p (.int .i64),.p (.int .u64)]]),
 (163,[[.p (.row 0),.p (.int .i64),.p (.int .u64)]]),(164,[[.p (.row 0),.p (.int .i64),.p (.int .u64)]]),(184,[[.p (.int .i64),.p (.int .i64),.p (.row 2),.p (.row 2)]]),(186,[[.p (.row 0),.p (.int .i64),.p (.int .u64)]]),(144062,[[.p (.int .i64)]]),(144124,[[.p (.int .i64)]]),
 (185183,[[.p (.int .i64),.p (.int .i64),.p (.row 2),.p (.row 2)]]),(185217,[[.p (.int .i64),.p (.int .i64),.p (.row 2),.p (.row 2)]])]
def tPlain:List (Nat × Unit):=[(5,()),(6,()),(16,()),(17,()),(18,()),(19,()),(32,()),(36,()),(37,()),(49,()),(50,()),(51,()),
 (52,()),(53,()),(57,()),(63,()),(64,()),(65,()),(67,()),(69,()),(72,()),(74,()),(75,()),(77,()),
 (84,()),(86,()),(91,()),(93,()),(95,()),(97,()),(101,()),(105,()),(107,()),(113,()),(114,()),(115,()),
 (116,()),(117,()),(118,()),(119,()),(120,()),(125,()),(126,()),(130,()),(131,()),(132,()),(135,()),(136,()),
 (137,()),(138,()),(139,()),(140,()),(141,()),(142,()),(143,()),(152,()),(153,()),(154,()),(155,()),(156,()),
 (158,()),(159,()),(160,()),(161,()),(162,()),(165,()),(166,()),(167,()),(168,()),(172,()),(174,()),(175,()),
 (176,()),(179,()),(182,()),(185,()),(187,()),(188,()),(189,()),(190,()),(191,()),(194,()),(195,()),(197,()),
 (198,()),(199,()),(200,()),(212,()),(213,()),(214,()),(215,()),(216,()),(218,()),(220,()),(221,()),(222,()),
 (223,()),(231,()),(232,()),(233,()),(237,()),(64062,()),(144062,()),(144124,()),(153062,()),(155062,()),(163062,())]
def tCt:List (Nat × CT):=[(2,.one (.int .i64)),(3,.one (.int .i64)),(4,.one (.bool)),(5,.one (.int .u8)),(9,.one (.str)),(22,.one (.row 0)),
 (24,.one (.row 2)),(25,.one (.row 2)),(27,.agg [.int .i64,.int .i64,.row 2,.row 2]),(28,.one (.row 0)),(30,.agg [.row 0]),(35,.one (.row 0)),
 (64,.one (.int .u64)),(66,.agg [.row 0,.int .i64,.int .u64]),(86,.one (.row 0)),(96,.agg [.int .i64,.int .u64]),(98,.one (.row 0)),(112,.one (.row 2)),
 (114,.agg [.row 2,.row 2]),(116,.agg [.int .i64,.row 2]),(125,.one (.row 0)),(166,.one (.int .u64))]
def tAk:List (Nat × List CT):=[(5,[.one (.row 0),.one (.row 0)]),(6,[.one (.row 0),.one (.row 0)]),(8,[.agg [.int .i64,.int .i64,.row 2,.row 2],.agg [.row 0],.one (.row 0)]),(13,[.agg [.int .i64,.int .i64,.row 2,.row 2],.agg [.row 0]]),(16,[.one (.row 0),.one (.row 0)]),(17,[.one (.row 0),.one (.row 0)]),
 (18,[.agg [.int .i64,.int .i64,.row 2,.row 2],.one (.row 0)]),(19,[.one (.row 0),.one (.int .i64)]),(31,[.agg [.int .i64,.int .i64,.row 2,.row 2],.agg [.row 0],.one (.int .i64)]),(32,[.one (.row 0),.one (.row 0)]),(33,[.one (.row 0)]),(34,[.agg [.int .i64,.int .i64,.row 2,.row 2],.agg [.row 0],.one (.row 0)]),
 (35,[.agg [.int .i64,.int .i64,.row 2,.row 2],.agg [.row 0],.one (.row 0)]),(36,[.agg [.int .i64,.int .i64,.row 2,.row 2],.agg [.row 0],.one (.row 0)]),(37,[.agg [.int .i64,.int .i64,.row 2,.row 2],.agg [.row 0],.one (.row 0)]),(38,[.agg [.int .i64,.int .i64,.row 2,.row 2],.agg [.row 0],.one (.row 0)]),(39,[.agg [.int .i64,.int .i64,.row 2,.row 2],.agg [.row 0],.one (.row 0)]),(40,[.agg [.int .i64,.int .i64,.row 2,.row 2],.agg [.row 0],.one (.row 0)]),
 (41,[.agg [.int .i64,.int .i64,.row 2,.row 2],.agg [.row 0],.one (.row 0)]),(42,[.agg [.int .i64,.int .i64,.row 2,.row 2],.agg [.row 0],.one (.int .i64),.one (.int .i64)]),(43,[.agg [.int .i64,.int .i64,.row 2,.row 2],.agg [.row 0],.one (.int .i64)]),(44,[.one (.any)]),(45,[.one (.any),.agg [.int .i64,.int .i64,.row 2,.row 2]]),(48,[.one (.any),.one (.int .i64)]),
 (49,[.agg [.int .i64,.int .i64,.row 2,.row 2],.agg [.row 0]]),(50,[.agg [.int .i64,.int .i64,.row 2,.row 2]]),(51,[.agg [.int .i64,.int .i64,.row 2,.row 2],.agg [.row 0]]),(52,[.one (.int .i64),.one (.int .i64),.one (.int .i64)]),(53,[.one (.row 0),.one (.int .i64),.one (.int .i64)]),(57,[.agg [.int .i64,.int .i64,.row 2,.row 2],.one (.row 2)]),
 (58,[.agg [.row 0],.one (.row 0)]),(59,[.agg [.int .i64,.int .i64,.row 2,.row 2],.one (.row 2)]),(62,[.one (.row 0),.one (.any)]),(63,[.one (.int .i64)]),(64,[.agg [.int .i64,.int .i64,.row 2,.row 2],.one (.int .i64)]),(65,[.one (.row 0),.one (.int .i64)]),
 (66,[.agg [.int .i64,.int .i64,.row 2,.row 2],.one (.int .i64)]),(67,[.agg [.int .i64,.int .i64,.row 2,.row 2],.one (.row 2),.one (.row 0)]),(68,[.agg [.int .i64,.int .i64,.row 2,.row 2],.one (.int .i64)]),(69,[.agg [.int .i64,.int .i64,.row 2,.row 2]]),(72,[.agg [.int .i64,.int .i64,.row 2,.row 2],.one (.row 2)]),(74,[.agg [.int .i64,.int .i64,.row 2,.row 2],.one (.row 2)]),
 (75,[.one (.row 0),.one (.row 0)]),(77,[.one (.int .i64),.one (.int .i64),.one (.row 2)]),(84,[.agg [.int .i64,.int .i64,.row 2,.row 2],.agg [.row 0],.one (.int .i64)]),(86,[.agg [.int .i64,.int .i64,.row 2,.row 2],.agg [.row 0],.one (.int .i64)]),(89,[.agg [.int .i64,.int .i64,.row 2,.row 2],.agg [.row 0],.one (.int .i64)]),(90,[.one (.row 0)]),
 (91,[.agg [.int .i64,.int .i64,.row 2,.row 2],.agg [.row 0],.one (.row 0),.one (.int .i64)]),(92,[.agg [.int .i64,.int .i64,.row 2,.row 2],.agg [.row 0],.one (.row 0)]),(93,[.agg [.int .i64,.int .i64,.row 2,.row 2],.agg [.row 0],.one (.row 0)]),(94,[.agg [.int .i64,.int .i64,.row 2,.row 2],.agg [.row 0],.one (.row 0)]),(95,[.one (.row 0)]),(96,[.agg [.int .i64,.int .i64,.row 2,.row 2],.one (.row 0)]),
 (97,[.one (.row 0)]),(98,[.agg [.int .i64,.int .i64,.row 2,.row 2],.agg [.row 0],.one (.row 0)]),(99,[.agg [.int .i64,.int .i64,.row 2,.row 2],.agg [.row 0],.one (.row 0)]),(100,[.agg [.int .i64,.int .i64,.row 2,.row 2],.agg [.row 0],.one (.int .i64),.one (.int .i64)]),(101,[.agg [.row 0],.one (.int .i64)]),(102,[.one (.any),.one (.row 0)]),
 (103,[.one (.any),.one (.int .i64)]),(104,[.one (.any),.one (.int .i64),.one (.int .i64)]),(105,[.agg [.int .i64,.int .i64,.row 2,.row 2],.one (.row 0)]),(106,[.one (.any),.agg [.int .i64,.int .i64,.row 2,.row 2],.one (.int .i64)]),(107,[.agg [.int .i64,.int .i64,.row 2,.row 2],.agg [.row 0],.one (.row 0)]),(108,[.one (.any),.one (.int .i64),.one (.int .i64)]),
 (111,[.agg [.int .i64,.int .i64,.row 2,.row 2],.one (.int .i64)]),(113,[.agg [.row 0],.one (.int .i64)]),(114,[.agg [.int .i64,.int .i64,.row 2,.row 2]]),(115,[.agg [.int .i64,.int .i64,.row 2,.row 2]]),(116,[.agg [.row 0]]),(117,[.agg [.row 0]]),
 (118,[.one (.row 0)]),(119,[.one (.row 0),.one (.int .i64)]),(120,[.agg [.int .i64,.int .i64,.row 2,.row 2],.one (.row 2),.one (.row 0)]),(121,[.agg [.int .i64,.int .i64,.row 2,.row 2],.one (.int .i64)]),(124,[.one (.row 0),.one (.any)]),(125,[.one (.row 0),.one (.int .i64)]),
 (126,[.agg [.int .i64,.int .i64,.row 2,.row 2],.one (.row 0)]),(127,[.agg [.int .i64,.int .i64,.row 2,.row 2],.agg [.row 2,.row 2],.one (.row 0)]),(130,[.one (.int .i64),.one (.row 2),.one (.row 0)]),(131,[.one (.int .i64)]),(132,[.agg [.int .i64,.int .i64,.row 2,.row 2]]),(133,[.agg [.int .i64,.int .i64,.row 2,.row 2]]),
 (134,[.one (.any),.one (.int .i64),.one (.int .i64),.one (.int .i64)]),(135,[.one (.int .i64)]),(136,[.one (.int .i64),.one (.int .i64),.one (.row 2),.one (.int .i64)]),(137,[.one (.int .i64),.one (.int .i64),.one (.row 2)]),(138,[.one (.row 0),.one (.int .i64)]),(139,[.one (.int .i64)]),
 (140,[.one (.int .i64)]),(141,[.one (.int .i64)]),(142,[.one (.int .i64),.one (.int .i64),.agg [.int .i64,.int .u64]]),(143,[.one (.int .i64)]),(146,[.one (.row 0),.one (.any)]),(148,[.agg [.row 0],.one (.int .i64)]),
 (149,[.agg [.int .i64,.int .i64,.row 2,.row 2],.one (.row 0)]),(150,[.one (.any)]),(151,[.one (.any),.agg [.int .i64,.int .i64,.row 2,.row 2],.agg [.row 0]]),(152,[.one (.int .i64)]),(153,[.one (.int .i64)]),(154,[.one (.int .i64)]),
 (155,[.one (.int .i64)]),(156,[.agg [.row 0],.one (.row 0)]),(157,[.one (.row 0),.one (.any)]),(158,[.one (.row 0)]),(159,[.one (.int .i64)]),(160,[.one (.row 0)]),
 (161,[.one (.int .i64)]),(162,[.one (.int .i64)]),(163,[.one (.any)]),(164,[.one (.any),.one (.int .i64),.one (.int .i64)]),(165,[.agg [.int .i64,.int .i64,.row 2,.row 2],.one (.row 0)]),(166,[.agg [.int .i64,.int .i64,.row 2,.row 2],.one (.row 0)]),
 (167,[.one (.row 0),.one (.int .i64),.one (.int .i64)]),(168,[.agg [.row 0],.one (.row 0)]),(171,[.agg [.int .i64,.int .i64,.row 2,.row 2],.one (.row 0)]),(172,[.agg [.int .i64,.int .i64,.row 2,.row 2],.one (.row 0)]),(173,[.agg [.int .i64,.int .i64,.row 2,.row 2],.one (.row 0),.one (.int .i64)]),(174,[.agg [.int .i64,.int .i64,.row 2,.row 2]]),
 (175,[.one (.row 0)]),(176,[.one (.int .i64),.one (.row 2),.one (.int .i64),.one (.row 0)]),(179,[.one (.row 0)]),(182,[.one (.int .i64),.one (.int .i64),.one (.int .u64),.one (.int .u64)]),(183,[.one (.row 2),.one (.any)]),(184,[.agg [.row 2,.row 2]]),
 (185,[.agg [.int .i64,.int .i64,.row 2,.row 2],.agg [.row 2,.row 2]]),(186,[.one (.any),.one (.int .i64),.one (.int .i64),.one (.int .i64)]),(187,[.one (.row 2)]),(188,[.one (.int .i64)]),(189,[.one (.int .i64)]),(190,[.one (.int .i64),.one (.int .i64),.agg [.int .i64,.int .u64]]),
 (191,[.one (.int .i64),.one (.int .u64)]),(194,[.agg [.int .i64,.int .i64,.row 2,.row 2],.agg [.row 0],.one (.row 2)]),(195,[.one (.row 0)]),(197,[.agg [.int .i64,.int .i64,.row 2,.row 2],.agg [.row 2,.row 2]]),(198,[.one (.int .i64),.one (.int .u64)]),(199,[.one (.int .i64),.one (.int .i64),.one (.int .u64),.one (.int .u64)]),
 (200,[.one (.row 2),.one (.int .i64)]),(212,[.one (.int .u64)]),(213,[.one (.int .i64),.one (.int .u64),.one (.int .u64)]),(214,[.one (.int .i64),.one (.int .u64),.one (.int .u64),.one (.bool)]),(215,[.one (.bool)]),(216,[.one (.int .i64),.one (.int .u64)]),
 (217,[.one (.row 2),.one (.any)]),(218,[.one (.int .i64),.one (.int .u64)]),(220,[.one (.int .i64),.one (.int .u64),.one (.int .u64)]),(221,[.one (.int .i64),.one (.int .u64),.one (.int .u64),.one (.bool)]),(222,[.one (.bool)]),(223,[.one (.int .i64),.one (.int .u64)]),
 (231,[.one (.int .i64),.one (.int .u64),.one (.int .u64)]),(232,[.one (.int .u64),.one (.int .u64),.one (.int .u64)]),(233,[.one (.int .i64),.one (.int .u64),.one (.int .u64)]),(237,[.one (.int .u64)])]
def tOwn:List (Nat × List (Nat × List (Option Nat × Nat × Et × Nat))):=[(44,[(0,[(some 1,2,0,2),(some 1,3,0,2)])]),(58,[(0,[(none,5,3,0)])]),(59,[(0,[(none,5,3,0)])]),
 (92,[(1000011,[(some 0,0,⟨0,some ⟨0,0,0,0,none⟩⟩,0)])]),(94,[(0,[(none,7,28,0)]),(2,[(none,11,3,0)])]),(96,[(2,[(none,7,3,0)])]),
 (98,[(0,[(none,7,⟨28,some ⟨0,3,0,0,none⟩⟩,0)])]),(99,[(1000002,[(none,8,⟨0,some ⟨0,0,0,0,none⟩⟩,0)])]),(104,[(0,[(some 1,2,0,2),(some 1,3,0,2),(some 2,3,⟨114,some ⟨1,116,2,0,none⟩⟩,2)])]),
 (106,[(0,[(none,7,24,0)])]),(108,[(0,[(none,7,3,0)])]),(111,[(0,[(none,6,3,0)])]),
 (121,[(0,[(none,5,64,0)])]),(137,[(0,[(none,7,3,0)])]),(148,[(0,[(none,5,3,0)])]),
 (149,[(0,[(none,5,3,0)])]),(164,[(0,[(some 1,0,0,2),(some 1,1,0,2),(some 2,1,116,2)])]),(166,[(0,[(some 1,0,0,0)])]),
 (168,[(0,[(none,5,3,0),(some 0,0,0,0)])]),(171,[(0,[(none,5,3,0)])]),(195,[(0,[(some 0,0,3,0),(some 1,0,3,0)])])]
def tCut:List (Nat × List (Nat × List Nat)):=[(92,[(11,[7,8,9])]),(99,[(2,[8])])]
def tNest:List (Nat × Kd):=[(25,⟨1,116,2,0,none⟩),(35,⟨0,3,0,0,none⟩)]
def tSorts:List (Nat × Nat):=[(128,1),(129,2)]
theorem sortsOK:∀ g n,(g,n) ∈ tSorts->SortOK Tryz.prog n g:=by
 intro g n h
 simp only [tSorts,List.mem_cons,Prod.mk.injEq,List.not_mem_nil,or_false] at h
 rcases h with ⟨rfl,rfl⟩ | ⟨rfl,rfl⟩
 · exact sort_ok
 · exact comp_ok
def tAo:List (Nat × List (Option (Et × Nat))):=[(119,[some (3,0),none]),(146,[some (3,0),none])]
def tRo:List (Nat × Unit):=[(64062,()),(64124,()),(153062,()),(153124,()),(154124,()),(154146,()),(155062,()),(155124,()),(156124,()),(159157,()),(160124,()),(160146,()),
 (162124,()),(162146,()),(163062,()),(163124,())]
def tExt:List (Nat × Nat):=[]
theorem extOK:∀ g n,(g,n) ∈ tExt->ExtOK Tryz.prog n g:=by
 intro g n h
 simp [tExt] at h
def tN1:List (Nat × Unit):=[(98,())]
noncomputable def E:Env:={ tabs.env tLive tRk tBk tPlain tCt tAk tOwn tCut tNest tSorts tAo tExt tRo with n1s:=fun f=>(lk tN1 f).isSome }
theorem envOK:EnvOK Tryz.prog E:=(Tabs.sound (by kernel_rfl) sortsOK extOK).ones _
noncomputable def pTab:List (Nat × Func):=[(5,Tryz.f5),(6,Tryz.f6),(8,Tryz.f8),(13,Tryz.f13),(16,Tryz.f16),(17,Tryz.f17),(18,Tryz.f18),(19,Tryz.f19),(31,Tryz.f31),(32,Tryz.f32),(33,Tryz.f33),(34,Tryz.f34),
 (35,Tryz.f35),(36,Tryz.f36),(37,Tryz.f37),(38,Tryz.f38),(39,Tryz.f39),(40,Tryz.f40),(41,Tryz.f41),(42,Tryz.f42),(43,Tryz.f43),(44,Tryz.f44),(45,Tryz.f45),(48,Tryz.f48),
 (49,Tryz.f49),(50,Tryz.f50),(51,Tryz.f51),(52,Tryz.f52),(53,Tryz.f53),(57,Tryz.f57),(58,Tryz.f58),(59,Tryz.f59),(62,Tryz.f62),(63,Tryz.f63),(64,Tryz.f64),(65,Tryz.f65),
 (66,Tryz.f66),(67,Tryz.f67),(68,Tryz.f68),(69,Tryz.f69),(72,Tryz.f72),(74,Tryz.f74),(75,Tryz.f75),(77,Tryz.f77),(84,Tryz.f84),(86,Tryz.f86),(89,Tryz.f89),(90,Tryz.f90),
 (91,Tryz.f91),(92,Tryz.f92),(93,Tryz.f93),(94,Tryz.f94),(95,Tryz.f95),(96,Tryz.f96),(97,Tryz.f97),(98,Tryz.f98),(99,Tryz.f99),(100,Tryz.f100),(101,Tryz.f101),(102,Tryz.f102),
 (103,Tryz.f103),(104,Tryz.f104),(105,Tryz.f105),(106,Tryz.f106),(107,Tryz.f107),(108,Tryz.f108),(111,Tryz.f111),(113,Tryz.f113),(114,Tryz.f114),(115,Tryz.f115),(116,Tryz.f116),(117,Tryz.f117),
 (118,Tryz.f118),(119,Tryz.f119),(120,Tryz.f120),(121,Tryz.f121),(124,Tryz.f124),(125,Tryz.f125),(126,Tryz.f126),(127,Tryz.f127),(130,Tryz.f130),(131,Tryz.f131),(132,Tryz.f132),(133,Tryz.f133),
 (134,Tryz.f134),(135,Tryz.f135),(136,Tryz.f136),(137,Tryz.f137),(138,Tryz.f138),(139,Tryz.f139),(140,Tryz.f140),(141,Tryz.f141),(142,Tryz.f142),(143,Tryz.f143),(146,Tryz.f146),(148,Tryz.f148),
 (149,Tryz.f149),(150,Tryz.f150),(151,Tryz.f151),(152,Tryz.f152),(153,Tryz.f153),(154,Tryz.f154),(155,Tryz.f155),(156,Tryz.f156),(157,Tryz.f157),(158,Tryz.f158),(159,Tryz.f159),(160,Tryz.f160),
 (161,Tryz.f161),(162,Tryz.f162),(163,Tryz.f163),(164,Tryz.f164),(165,Tryz.f165),(166,Tryz.f166),(167,Tryz.f167),(168,Tryz.f168),(171,Tryz.f171),(172,Tryz.f172),(173,Tryz.f173),(174,Tryz.f174),
 (175,Tryz.f175),(176,Tryz.f176),(179,Tryz.f179),(182,Tryz.f182),(183,Tryz.f183),(184,Tryz.f184),(185,Tryz.f185),(186,Tryz.f186),(187,Tryz.f187),(188,Tryz.f188),(189,Tryz.f189),(190,Tryz.f190),
 (191,Tryz.f191),(194,Tryz.f194),(195,Tryz.f195),(197,Tryz.f197),(198,Tryz.f198),(199,Tryz.f199),(200,Tryz.f200),(212,Tryz.f212),(213,Tryz.f213),(214,Tryz.f214),(215,Tryz.f215),(216,Tryz.f216),
 (217,Tryz.f217),(218,Tryz.f218),(220,Tryz.f220),(221,Tryz.f221),(222,Tryz.f222),(223,Tryz.f223),(231,Tryz.f231),(232,Tryz.f232),(233,Tryz.f233),(237,Tryz.f237)]
noncomputable def P:FuncId->Option Func:=lk pTab
theorem pOK:PfOK Tryz.prog P:=pfOK_of (tab:=pTab)
 (pfOK_cons Tryz.func5 (pfOK_cons Tryz.func6 (pfOK_cons Tryz.func8 (pfOK_cons Tryz.func13 (pfOK_cons Tryz.func16 (pfOK_cons Tryz.func17 (pfOK_cons Tryz.func18 (pfOK_cons Tryz.func19 
 (pfOK_cons Tryz.func31 (pfOK_cons Tryz.func32 (pfOK_cons Tryz.func33 (pfOK_cons Tryz.func34 (pfOK_cons Tryz.func35 (pfOK_cons Tryz.func36 (pfOK_cons Tryz.func37 (pfOK_cons Tryz.func38 
 (pfOK_cons Tryz.func39 (pfOK_cons Tryz.func40 (pfOK_cons Tryz.func41 (pfOK_cons Tryz.func42 (pfOK_cons Tryz.func43 (pfOK_cons Tryz.func44 (pfOK_cons Tryz.func45 (pfOK_cons Tryz.func48 
 (pfOK_cons Tryz.func49 (pfOK_cons Tryz.func50 (pfOK_cons Tryz.func51 (pfOK_cons Tryz.func52 (pfOK_cons Tryz.func53 (pfOK_cons Tryz.func57 (pfOK_cons Tryz.func58 (pfOK_cons Tryz.func59 
 (pfOK_cons Tryz.func62 (pfOK_cons Tryz.func63 (pfOK_cons Tryz.func64 (pfOK_cons Tryz.func65 (pfOK_cons Tryz.func66 (pfOK_cons Tryz.func67 (pfOK_cons Tryz.func68 (pfOK_cons Tryz.func69 
 (pfOK_cons Tryz.func72 (pfOK_cons Tryz.func74 (pfOK_cons Tryz.func75 (pfOK_cons Tryz.func77 (pfOK_cons Tryz.func84 (pfOK_cons Tryz.func86 (pfOK_cons Tryz.func89 (pfOK_cons Tryz.func90 
 (pfOK_cons Tryz.func91 (pfOK_cons Tryz.func92 (pfOK_cons Tryz.func93 (pfOK_cons Tryz.func94 (pfOK_cons Tryz.func95 (pfOK_cons Tryz.func96 (pfOK_cons Tryz.func97 (pfOK_cons Tryz.func98 
 (pfOK_cons Tryz.func99 (pfOK_cons Tryz.func100 (pfOK_cons Tryz.func101 (pfOK_cons Tryz.func102 (pfOK_cons Tryz.func103 (pfOK_cons Tryz.func104 (pfOK_cons Tryz.func105 (pfOK_cons Tryz.func106 
 (pfOK_cons Tryz.func107 (pfOK_cons Tryz.func108 (pfOK_cons Tryz.func111 (pfOK_cons Tryz.func113 (pfOK_cons Tryz.func114 (pfOK_cons Tryz.func115 (pfOK_cons Tryz.func116 (pfOK_cons Tryz.func117 
 (pfOK_cons Tryz.func118 (pfOK_cons Tryz.func119 (pfOK_cons Tryz.func120 (pfOK_cons Tryz.func121 (pfOK_cons Tryz.func124 (pfOK_cons Tryz.func125 (pfOK_cons Tryz.func126 (pfOK_cons Tryz.func127 
 (pfOK_cons Tryz.func130 (pfOK_cons Tryz.func131 (pfOK_cons Tryz.func132 (pfOK_cons Tryz.func133 (pfOK_cons Tryz.func134 (pfOK_cons Tryz.func135 (pfOK_cons Tryz.func136 (pfOK_cons Tryz.func137 
 (pfOK_cons Tryz.func138 (pfOK_cons Tryz.func139 (pfOK_cons Tryz.func140 (pfOK_cons Tryz.func141 (pfOK_cons Tryz.func142 (pfOK_cons Tryz.func143 (pfOK_cons Tryz.func146 (pfOK_cons Tryz.func148 
 (pfOK_cons Tryz.func149 (pfOK_cons Tryz.func150 (pfOK_cons Tryz.func151 (pfOK_cons Tryz.func152 (pfOK_cons Tryz.func153 (pfOK_cons Tryz.func154 (pfOK_cons Tryz.func155 (pfOK_cons Tryz.func156 
 (pfOK_cons Tryz.func157 (pfOK_cons Tryz.func158 (pfOK_cons Tryz.func159 (pfOK_cons Tryz.func160 (pfOK_cons Tryz.func161 (pfOK_cons Tryz.func162 (pfOK_cons Tryz.func163 (pfOK_cons Tryz.func164 
 (pfOK_cons Tryz.func165 (pfOK_cons Tryz.func166 (pfOK_cons Tryz.func167 (pfOK_cons Tryz.func168 (pfOK_cons Tryz.func171 (pfOK_cons Tryz.func172 (pfOK_cons Tryz.func173 (pfOK_cons Tryz.func174 
 (pfOK_cons Tryz.func175 (pfOK_cons Tryz.func176 (pfOK_cons Tryz.func179 (pfOK_cons Tryz.func182 (pfOK_cons Tryz.func183 (pfOK_cons Tryz.func184 (pfOK_cons Tryz.func185 (pfOK_cons Tryz.func186 
 (pfOK_cons Tryz.func187 (pfOK_cons Tryz.func188 (pfOK_cons Tryz.func189 (pfOK_cons Tryz.func190 (pfOK_cons Tryz.func191 (pfOK_cons Tryz.func194 (pfOK_cons Tryz.func195 (pfOK_cons Tryz.func197 
 (pfOK_cons Tryz.func198 (pfOK_cons Tryz.func199 (pfOK_cons Tryz.func200 (pfOK_cons Tryz.func212 (pfOK_cons Tryz.func213 (pfOK_cons Tryz.func214 (pfOK_cons Tryz.func215 (pfOK_cons Tryz.func216 
 (pfOK_cons Tryz.func217 (pfOK_cons Tryz.func218 (pfOK_cons Tryz.func220 (pfOK_cons Tryz.func221 (pfOK_cons Tryz.func222 (pfOK_cons Tryz.func223 (pfOK_cons Tryz.func231 (pfOK_cons Tryz.func232 
 (pfOK_cons Tryz.func233 (pfOK_cons Tryz.func237 pfOK_nil))))))))))))))))))))))))))))))))))))))))))))))))))))))))))))))))))))))))))))))))))))))))))))))))))))))))))))))))))))))))))))))))))))))))))))))))))))))))))
 (by kernel_rfl)
theorem cl160 (xs:List PV) (h1:xs.length * 8<=LIM) (h2:xs.length<=LIM):evF P E (fun _ _ _=>none) 2 160 [.s (.c (.p (.row 0 3 xs)))] [] = some ([.c (.own 3 0 xs)],[]):=by
 have e:evF P E (fun _ _ _=>none) 2 160 [.s (.c (.p (.row 0 3 xs)))] [] = bif decide ((0 + xs.length) * 8<=LIM) && decide (0 + xs.length<=LIM) then some ([.c (.own 3 0 (([] ++ xs).take (0 + xs.length)))],[]) else none:=by kernel_rfl
 rw [e]
 simp [h1,h2]
theorem cl179 (xs:List PV) (h1:xs.length * 8<=LIM) (h2:xs.length<=LIM):evF P E (fun _ _ _=>none) 2 179 [.s (.c (.p (.row 0 3 xs)))] [] = some ([.c (.own 64 0 xs)],[]):=by
 have e:evF P E (fun _ _ _=>none) 2 179 [.s (.c (.p (.row 0 3 xs)))] [] = bif decide ((0 + xs.length) * 8<=LIM) && decide (0 + xs.length<=LIM) then some ([.c (.own 64 0 (([] ++ xs).take (0 + xs.length)))],[]) else none:=by kernel_rfl
 rw [e]
 simp [h1,h2]
def clones:List (Nat × (Nat × Nat × Nat)):=[(160,(3,0,8)),(179,(64,0,8))]
theorem hT0:∀ f args bs r,cloneT clones f args bs = some r->Contract Tryz.prog f args bs r:=by
 refine cloneT_ok fun f e sh by_ hm xs h1 h2=>?_
 have h0:∀ f args bs r,(fun (_:FuncId) (_:List AV) (_:List (List CV))=>(none:R)) f args bs = some r->Contract Tryz.prog f args bs r:=fun _ _ _ _ h=>by cases h
 simp only [clones,List.mem_cons,List.not_mem_nil,or_false,Prod.mk.injEq] at hm
 rcases hm with ⟨rfl,rfl,rfl,rfl⟩ | ⟨rfl,rfl,rfl,rfl⟩
 · exact clone_contract (evF_sound envOK pOK h0 2 (by kernel_rfl)) (evF_sound envOK pOK h0 2 (cl160 xs h1 h2))
 · exact clone_contract (evF_sound envOK pOK h0 2 (by kernel_rfl)) (evF_sound envOK pOK h0 2 (cl179 xs h1 h2))
def T:FuncId->List AV->List (List CV)->R:=cloneT clones
theorem hT:∀ f args bs r,T f args bs = some r->Contract Tryz.prog f args bs r:=hT0
end Go.Proofs.YthoecdnmokcfbaaGreat
/- Calls and loops of the program,by shape: printed by nf.py. -/
set_option linter.unusedVariables false
namespace Go.Proofs.YthoecdnmokcfbaaGreat
open Go.Dp
noncomputable section
def c5 (k:Nat) (code more:List PV):R:=evF P E T k 5 [.s (.c (.p (PV.row 0 0 code))),.s (.c (.p (PV.row 0 0 more)))] []
def r5 (b:Bool):R:=some ([.c (.p (PV.bool b))],[])
def L5_1 (k n:Nat) (on1 t222:List PV) (t223 t224:Int):R:=evLoopAt P E T k 5 5 [] [1,1,1,1,1,1,1,1,1,1,1,1,1,1,0,1,0,1,1,1,1,0] [] n ⟨mkT 232 [(28,.s (.c (.p (PV.row 0 0 on1)))),(222,.s (.c (.p (PV.row 0 0 t222)))),(223,.s (.c (.p (PV.int .i64 t223)))),(224,.s (.c (.p (PV.int .i64 t224))))],[]⟩
def c6 (k:Nat) (code more:List PV):R:=evF P E T k 6 [.s (.c (.p (PV.row 0 0 code))),.s (.c (.p (PV.row 0 0 more)))] []
def r6 (b:Bool):R:=some ([.c (.p (PV.bool b))],[])
def R6 (x0:R) (K0:Bool->R):R:=x0.bind fun q0=>bif lensB q0.2 [] && lensS q0.1 [.c (.p (.bool))] then (cBool (resAt q0.1 0)).bind fun b=>K0 b else none
@[simp] theorem R6_r (b:Bool) (K0:Bool->R):R6 (r6 b) K0 = K0 b:=by kernel_rfl
def c8 (k:Nat) (p p1:Int) (p2 p3 v path:List PV):R:=evF P E T k 8 [.s (.c (.p (PV.agg [.int .i64 p,.int .i64 p1,.row 2 0 p2,.row 2 0 p3]))),.s (.c (.p (PV.agg [.row 0 0 v]))),.s (.c (.p (PV.row 0 0 path)))] []
def r8 (l:List PV) (b:Bool):R:=some ([.c (.p (PV.row 0 0 l)),.c (.p (PV.bool b))],[])
def R8 (x0:R) (K0:List PV->Bool->R):R:=x0.bind fun q0=>bif lensB q0.2 [] && lensS q0.1 [.c (.p (.row 0)),.c (.p (.bool))] then (cRow (resAt q0.1 0) 0).bind fun l=>(cBool (resAt q0.1 1)).bind fun b=>K0 l b else none
@[simp] theorem R8_r (l:List PV) (b:Bool) (K0:List PV->Bool->R):R8 (r8 l b) K0 = K0 l b:=by kernel_rfl
def L8_1 (k n:Nat) (outLen:Nat) (t26:List PV) (t27 t28 n1 n11:Int) (l l1 l2 xs:List PV):R:=evLoopAt P E T k 8 8 [] [1,1,1,0,1,0] [] n ⟨mkT 50 [(3,.s (.c (.bptr 0 0))),(4,.s (.c (.bptr 1 0))),(8,.s (.c (.loc 2 0 0 0 outLen))),(26,.s (.c (.p (PV.row 0 0 t26)))),(27,.s (.c (.p (PV.int .i64 t27)))),(28,.s (.c (.p (PV.int .i64 t28))))],[.box [.p (PV.int .i64 n1),.p (PV.int .i64 n11),.p (PV.row 2 0 l),.p (PV.row 2 0 l1)],.box [.p (PV.row 0 0 l2)],.arr 3 0 0 false xs]⟩
def c13 (k:Nat) (p p1:Int) (p2 p3 v:List PV):R:=evF P E T k 13 [.s (.c (.p (PV.agg [.int .i64 p,.int .i64 p1,.row 2 0 p2,.row 2 0 p3]))),.s (.c (.p (PV.agg [.row 0 0 v])))] []
def r13 (l:List PV) (b:Bool):R:=some ([.c (.p (PV.row 0 0 l)),.c (.p (PV.bool b))],[])
def R13 (x0:R) (K0:List PV->Bool->R):R:=x0.bind fun q0=>bif lensB q0.2 [] && lensS q0.1 [.c (.p (.row 0)),.c (.p (.bool))] then (cRow (resAt q0.1 0) 0).bind fun l=>(cBool (resAt q0.1 1)).bind fun b=>K0 l b else none
@[simp] theorem R13_r (l:List PV) (b:Bool) (K0:List PV->Bool->R):R13 (r13 l b) K0 = K0 l b:=by kernel_rfl
def c16 (k:Nat) (a b:List PV):R:=evF P E T k 16 [.s (.c (.p (PV.row 0 0 a))),.s (.c (.p (PV.row 0 0 b)))] []
def r16 (b:Bool):R:=some ([.c (.p (PV.bool b))],[])
def R16 (x0:R) (K0:Bool->R):R:=x0.bind fun q0=>bif lensB q0.2 [] && lensS q0.1 [.c (.p (.bool))] then (cBool (resAt q0.1 0)).bind fun b=>K0 b else none
@[simp] theorem R16_r (b:Bool) (K0:Bool->R):R16 (r16 b) K0 = K0 b:=by kernel_rfl
def L16_1 (k n:Nat) (a b:List PV) (t12 t13:Int):R:=evLoopAt P E T k 16 16 [] [1,1,0,1,0] [] n ⟨mkT 26 [(0,.s (.c (.p (PV.row 0 0 a)))),(1,.s (.c (.p (PV.row 0 0 b)))),(12,.s (.c (.p (PV.int .i64 t12)))),(13,.s (.c (.p (PV.int .i64 t13))))],[]⟩
def c17 (k:Nat) (a b:List PV):R:=evF P E T k 17 [.s (.c (.p (PV.row 0 0 a))),.s (.c (.p (PV.row 0 0 b)))] []
def r17 (b:Bool):R:=some ([.c (.p (PV.bool b))],[])
def R17 (x0:R) (K0:Bool->R):R:=x0.bind fun q0=>bif lensB q0.2 [] && lensS q0.1 [.c (.p (.bool))] then (cBool (resAt q0.1 0)).bind fun b=>K0 b else none
@[simp] theorem R17_r (b:Bool) (K0:Bool->R):R17 (r17 b) K0 = K0 b:=by kernel_rfl
def L17_1 (k n:Nat) (a b:List PV) (t12 t13:Int):R:=evLoopAt P E T k 17 17 [] [1,1,0,1,0] [] n ⟨mkT 27 [(0,.s (.c (.p (PV.row 0 0 a)))),(1,.s (.c (.p (PV.row 0 0 b)))),(12,.s (.c (.p (PV.int .i64 t12)))),(13,.s (.c (.p (PV.int .i64 t13))))],[]⟩
def c18 (k:Nat) (p p1:Int) (p2 p3 path:List PV):R:=evF P E T k 18 [.s (.c (.p (PV.agg [.int .i64 p,.int .i64 p1,.row 2 0 p2,.row 2 0 p3]))),.s (.c (.p (PV.row 0 0 path)))] []
def r18 (b b1:Bool):R:=some ([.c (.p (PV.bool b)),.c (.p (PV.bool b1))],[])
def R18 (x0:R) (K0:Bool->Bool->R):R:=x0.bind fun q0=>bif lensB q0.2 [] && lensS q0.1 [.c (.p (.bool)),.c (.p (.bool))] then (cBool (resAt q0.1 0)).bind fun b=>(cBool (resAt q0.1 1)).bind fun b1=>K0 b b1 else none
@[simp] theorem R18_r (b b1:Bool) (K0:Bool->Bool->R):R18 (r18 b b1) K0 = K0 b b1:=by kernel_rfl
def L18_1 (k n:Nat) (path:List PV) (i n1 n11:Int) (l l1:List PV):R:=evLoopAt P E T k 18 18 [] [1,1,0,1,0] [] n ⟨mkT 48 [(1,.s (.c (.p (PV.row 0 0 path)))),(2,.s (.c (.bptr 0 0))),(6,.s (.c (.p (PV.int .i64 i))))],[.box [.p (PV.int .i64 n1),.p (PV.int .i64 n11),.p (PV.row 2 0 l),.p (PV.row 2 0 l1)]]⟩
def c19 (k:Nat) (l:List PV) (n1:Int):R:=evF P E T k 19 [.s (.c (.p (PV.row 0 0 l))),.s (.c (.p (PV.int .i64 n1)))] []
def r19 (b:Bool):R:=some ([.c (.p (PV.bool b))],[])
def R19 (x0:R) (K0:Bool->R):R:=x0.bind fun q0=>bif lensB q0.2 [] && lensS q0.1 [.c (.p (.bool))] then (cBool (resAt q0.1 0)).bind fun b=>K0 b else none
@[simp] theorem R19_r (b:Bool) (K0:Bool->R):R19 (r19 b) K0 = K0 b:=by kernel_rfl
def L19_1 (k n:Nat) (n1:Int) (t7:List PV) (t8 t9:Int):R:=evLoopAt P E T k 19 19 [] [1,0,1,0] [] n ⟨mkT 17 [(1,.s (.c (.p (PV.int .i64 n1)))),(7,.s (.c (.p (PV.row 0 0 t7)))),(8,.s (.c (.p (PV.int .i64 t8)))),(9,.s (.c (.p (PV.int .i64 t9))))],[]⟩
def c31 (k:Nat) (p p1:Int) (p2 p3 v:List PV) (class1:Int):R:=evF P E T k 31 [.s (.c (.p (PV.agg [.int .i64 p,.int .i64 p1,.row 2 0 p2,.row 2 0 p3]))),.s (.c (.p (PV.agg [.row 0 0 v]))),.s (.c (.p (PV.int .i64 class1)))] []
def r31 (l:List PV) (b:Bool):R:=some ([.c (.p (PV.row 0 0 l)),.c (.p (PV.bool b))],[])
def R31 (x0:R) (K0:List PV->Bool->R):R:=x0.bind fun q0=>bif lensB q0.2 [] && lensS q0.1 [.c (.p (.row 0)),.c (.p (.bool))] then (cRow (resAt q0.1 0) 0).bind fun l=>(cBool (resAt q0.1 1)).bind fun b=>K0 l b else none
@[simp] theorem R31_r (l:List PV) (b:Bool) (K0:List PV->Bool->R):R31 (r31 l b) K0 = K0 l b:=by kernel_rfl
def c32 (k:Nat) (some1 in1:List PV):R:=evF P E T k 32 [.s (.c (.p (PV.row 0 0 some1))),.s (.c (.p (PV.row 0 0 in1)))] []
def r32 (b:Bool):R:=some ([.c (.p (PV.bool b))],[])
def R32 (x0:R) (K0:Bool->R):R:=x0.bind fun q0=>bif lensB q0.2 [] && lensS q0.1 [.c (.p (.bool))] then (cBool (resAt q0.1 0)).bind fun b=>K0 b else none
@[simp] theorem R32_r (b:Bool) (K0:Bool->R):R32 (r32 b) K0 = K0 b:=by kernel_rfl
def L32_1 (k n:Nat) (in1 t7:List PV) (t8 t9:Int):R:=evLoopAt P E T k 32 32 [] [1,0,1,0] [] n ⟨mkT 18 [(1,.s (.c (.p (PV.row 0 0 in1)))),(7,.s (.c (.p (PV.row 0 0 t7)))),(8,.s (.c (.p (PV.int .i64 t8)))),(9,.s (.c (.p (PV.int .i64 t9))))],[]⟩
def c33 (k:Nat) (code:List PV):R:=evF P E T k 33 [.s (.c (.p (PV.row 0 0 code)))] []
def r33 (qr qr1:Int) (l l1 l2 l3:List PV):R:=some ([.agg [.p (PV.int .i64 qr),.p (PV.int .i64 qr1),.p (PV.row 2 0 l),.p (PV.row 2 0 l1)],.agg [.p (PV.row 0 0 l2)],.c (.p (PV.row 0 0 l3))],[])
def R33 (x0:R) (K0:Int->Int->List PV->List PV->List PV->List PV->R):R:=x0.bind fun q0=>bif lensB q0.2 [] && lensS q0.1 [.agg [.p (.int .i64),.p (.int .i64),.p (.row 2),.p (.row 2)],.agg [.p (.row 0)],.c (.p (.row 0))] then (cInt (Dp.partAt q0.1 0 0) .i64).bind fun qr=>(cInt (Dp.partAt q0.1 0 1) .i64).bind fun qr1=>(cRow (Dp.partAt q0.1 0 2) 2).bind fun l=>(cRow (Dp.partAt q0.1 0 3) 2).bind fun l1=>(cRow (Dp.partAt q0.1 1 0) 0).bind fun l2=>(cRow (resAt q0.1 2) 0).bind fun l3=>K0 qr qr1 l l1 l2 l3 else none
@[simp] theorem R33_r (qr qr1:Int) (l l1 l2 l3:List PV) (K0:Int->Int->List PV->List PV->List PV->List PV->R):R33 (r33 qr qr1 l l1 l2 l3) K0 = K0 qr qr1 l l1 l2 l3:=by kernel_rfl
def c34 (k:Nat) (p p1:Int) (p2 p3 v path:List PV):R:=evF P E T k 34 [.s (.c (.p (PV.agg [.int .i64 p,.int .i64 p1,.row 2 0 p2,.row 2 0 p3]))),.s (.c (.p (PV.agg [.row 0 0 v]))),.s (.c (.p (PV.row 0 0 path)))] []
def r34 (l:List PV) (b:Bool):R:=some ([.c (.p (PV.row 0 0 l)),.c (.p (PV.bool b))],[])
def R34 (x0:R) (K0:List PV->Bool->R):R:=x0.bind fun q0=>bif lensB q0.2 [] && lensS q0.1 [.c (.p (.row 0)),.c (.p (.bool))] then (cRow (resAt q0.1 0) 0).bind fun l=>(cBool (resAt q0.1 1)).bind fun b=>K0 l b else none
@[simp] theorem R34_r (l:List PV) (b:Bool) (K0:List PV->Bool->R):R34 (r34 l b) K0 = K0 l b:=by kernel_rfl
def c35 (k:Nat) (p p1:Int) (p2 p3 v path:List PV):R:=evF P E T k 35 [.s (.c (.p (PV.agg [.int .i64 p,.int .i64 p1,.row 2 0 p2,.row 2 0 p3]))),.s (.c (.p (PV.agg [.row 0 0 v]))),.s (.c (.p (PV.row 0 0 path)))] []
def r35 (l:List PV) (b:Bool):R:=some ([.c (.p (PV.row 0 0 l)),.c (.p (PV.bool b))],[])
def R35 (x0:R) (K0:List PV->Bool->R):R:=x0.bind fun q0=>bif lensB q0.2 [] && lensS q0.1 [.c (.p (.row 0)),.c (.p (.bool))] then (cRow (resAt q0.1 0) 0).bind fun l=>(cBool (resAt q0.1 1)).bind fun b=>K0 l b else none
@[simp] theorem R35_r (l:List PV) (b:Bool) (K0:List PV->Bool->R):R35 (r35 l b) K0 = K0 l b:=by kernel_rfl
def c36 (k:Nat) (p p1:Int) (p2 p3 v path:List PV):R:=evF P E T k 36 [.s (.c (.p (PV.agg [.int .i64 p,.int .i64 p1,.row 2 0 p2,.row 2 0 p3]))),.s (.c (.p (PV.agg [.row 0 0 v]))),.s (.c (.p (PV.row 0 0 path)))] []
def r36 (qr:Int) (b:Bool):R:=some ([.c (.p (PV.int .i64 qr)),.c (.p (PV.bool b))],[])
def R36 (x0:R) (K0:Int->Bool->R):R:=x0.bind fun q0=>bif lensB q0.2 [] && lensS q0.1 [.c (.p (.int .i64)),.c (.p (.bool))] then (cInt (resAt q0.1 0) .i64).bind fun qr=>(cBool (resAt q0.1 1)).bind fun b=>K0 qr b else none
@[simp] theorem R36_r (qr:Int) (b:Bool) (K0:Int->Bool->R):R36 (r36 qr b) K0 = K0 qr b:=by kernel_rfl
def c37 (k:Nat) (p p1:Int) (p2 p3 v path:List PV):R:=evF P E T k 37 [.s (.c (.p (PV.agg [.int .i64 p,.int .i64 p1,.row 2 0 p2,.row 2 0 p3]))),.s (.c (.p (PV.agg [.row 0 0 v]))),.s (.c (.p (PV.row 0 0 path)))] []
def r37 (qr:Int) (b:Bool):R:=some ([.c (.p (PV.int .i64 qr)),.c (.p (PV.bool b))],[])
def R37 (x0:R) (K0:Int->Bool->R):R:=x0.bind fun q0=>bif lensB q0.2 [] && lensS q0.1 [.c (.p (.int .i64)),.c (.p (.bool))] then (cInt (resAt q0.1 0) .i64).bind fun qr=>(cBool (resAt q0.1 1)).bind fun b=>K0 qr b else none
@[simp] theorem R37_r (qr:Int) (b:Bool) (K0:Int->Bool->R):R37 (r37 qr b) K0 = K0 qr b:=by kernel_rfl
def c38 (k:Nat) (p p1:Int) (p2 p3 v path:List PV):R:=evF P E T k 38 [.s (.c (.p (PV.agg [.int .i64 p,.int .i64 p1,.row 2 0 p2,.row 2 0 p3]))),.s (.c (.p (PV.agg [.row 0 0 v]))),.s (.c (.p (PV.row 0 0 path)))] []
def r38 (l:List PV) (b:Bool):R:=some ([.c (.p (PV.row 0 0 l)),.c (.p (PV.bool b))],[])
def R38 (x0:R) (K0:List PV->Bool->R):R:=x0.bind fun q0=>bif lensB q0.2 [] && lensS q0.1 [.c (.p (.row 0)),.c (.p (.bool))] then (cRow (resAt q0.1 0) 0).bind fun l=>(cBool (resAt q0.1 1)).bind fun b=>K0 l b else none
@[simp] theorem R38_r (l:List PV) (b:Bool) (K0:List PV->Bool->R):R38 (r38 l b) K0 = K0 l b:=by kernel_rfl
def c39 (k:Nat) (p p1:Int) (p2 p3 v path:List PV):R:=evF P E T k 39 [.s (.c (.p (PV.agg [.int .i64 p,.int .i64 p1,.row 2 0 p2,.row 2 0 p3]))),.s (.c (.p (PV.agg [.row 0 0 v]))),.s (.c (.p (PV.row 0 0 path)))] []
def r39 (l:List PV) (b:Bool):R:=some ([.c (.p (PV.row 0 0 l)),.c (.p (PV.bool b))],[])
def R39 (x0:R) (K0:List PV->Bool->R):R:=x0.bind fun q0=>bif lensB q0.2 [] && lensS q0.1 [.c (.p (.row 0)),.c (.p (.bool))] then (cRow (resAt q0.1 0) 0).bind fun l=>(cBool (resAt q0.1 1)).bind fun b=>K0 l b else none
@[simp] theorem R39_r (l:List PV) (b:Bool) (K0:List PV->Bool->R):R39 (r39 l b) K0 = K0 l b:=by kernel_rfl
def c40 (k:Nat) (p p1:Int) (p2 p3 v path:List PV):R:=evF P E T k 40 [.s (.c (.p (PV.agg [.int .i64 p,.int .i64 p1,.row 2 0 p2,.row 2 0 p3]))),.s (.c (.p (PV.agg [.row 0 0 v]))),.s (.c (.p (PV.row 0 0 path)))] []
def r40 (l:List PV) (b:Bool):R:=some ([.c (.p (PV.row 0 0 l)),.c (.p (PV.bool b))],[])
def R40 (x0:R) (K0:List PV->Bool->R):R:=x0.bind fun q0=>bif lensB q0.2 [] && lensS q0.1 [.c (.p (.row 0)),.c (.p (.bool))] then (cRow (resAt q0.1 0) 0).bind fun l=>(cBool (resAt q0.1 1)).bind fun b=>K0 l b else none
@[simp] theorem R40_r (l:List PV) (b:Bool) (K0:List PV->Bool->R):R40 (r40 l b) K0 = K0 l b:=by kernel_rfl
def c41 (k:Nat) (p p1:Int) (p2 p3 v path:List PV):R:=evF P E T k 41 [.s (.c (.p (PV.agg [.int .i64 p,.int .i64 p1,.row 2 0 p2,.row 2 0 p3]))),.s (.c (.p (PV.agg [.row 0 0 v]))),.s (.c (.p (PV.row 0 0 path)))] []
def r41 (l:List PV) (b:Bool):R:=some ([.c (.p (PV.row 0 0 l)),.c (.p (PV.bool b))],[])
def R41 (x0:R) (K0:List PV->Bool->R):R:=x0.bind fun q0=>bif lensB q0.2 [] && lensS q0.1 [.c (.p (.row 0)),.c (.p (.bool))] then (cRow (resAt q0.1 0) 0).bind fun l=>(cBool (resAt q0.1 1)).bind fun b=>K0 l b else none
@[simp] theorem R41_r (l:List PV) (b:Bool) (K0:List PV->Bool->R):R41 (r41 l b) K0 = K0 l b:=by kernel_rfl
def c42 (k:Nat) (p p1:Int) (p2 p3 v:List PV) (class1 to:Int):R:=evF P E T k 42 [.s (.c (.p (PV.agg [.int .i64 p,.int .i64 p1,.row 2 0 p2,.row 2 0 p3]))),.s (.c (.p (PV.agg [.row 0 0 v]))),.s (.c (.p (PV.int .i64 class1))),.s (.c (.p (PV.int .i64 to)))] []
def r42 (l:List PV) (b:Bool):R:=some ([.c (.p (PV.row 0 0 l)),.c (.p (PV.bool b))],[])
def R42 (x0:R) (K0:List PV->Bool->R):R:=x0.bind fun q0=>bif lensB q0.2 [] && lensS q0.1 [.c (.p (.row 0)),.c (.p (.bool))] then (cRow (resAt q0.1 0) 0).bind fun l=>(cBool (resAt q0.1 1)).bind fun b=>K0 l b else none
@[simp] theorem R42_r (l:List PV) (b:Bool) (K0:List PV->Bool->R):R42 (r42 l b) K0 = K0 l b:=by kernel_rfl
def c43 (k:Nat) (p p1:Int) (p2 p3 v:List PV) (class1:Int):R:=evF P E T k 43 [.s (.c (.p (PV.agg [.int .i64 p,.int .i64 p1,.row 2 0 p2,.row 2 0 p3]))),.s (.c (.p (PV.agg [.row 0 0 v]))),.s (.c (.p (PV.int .i64 class1)))] []
def r43 (l:List PV) (b:Bool):R:=some ([.c (.p (PV.row 0 0 l)),.c (.p (PV.bool b))],[])
def R43 (x0:R) (K0:List PV->Bool->R):R:=x0.bind fun q0=>bif lensB q0.2 [] && lensS q0.1 [.c (.p (.row 0)),.c (.p (.bool))] then (cRow (resAt q0.1 0) 0).bind fun l=>(cBool (resAt q0.1 1)).bind fun b=>K0 l b else none
@[simp] theorem R43_r (l:List PV) (b:Bool) (K0:List PV->Bool->R):R43 (r43 l b) K0 = K0 l b:=by kernel_rfl
def c44 (k:Nat) (l:List PV) (n1 n11:Int):R:=evF P E T k 44 [.s (.c (.bptr 0 0))] [[.p (PV.row 0 0 l),.p (PV.int .i64 n1),.p (PV.int .u64 n11)]]
def r44 (l:List PV) (qr qr1 qr2 qr3:Int) (l1 l2:List PV):R:=some ([.agg [.p (PV.int .i64 qr2),.p (PV.int .i64 qr3),.p (PV.row 2 0 l1),.own ⟨114,some ⟨1,116,2,0,none⟩⟩ 2 l2]],[[.p (PV.row 0 0 l),.p (PV.int .i64 qr),.p (PV.int .u64 qr1)]])
def R44 (x0:R) (K0:List PV->Int->Int->Int->Int->List PV->List PV->R):R:=x0.bind fun q0=>bif lensB q0.2 [[.p (.row 0),.p (.int .i64),.p (.int .u64)]] && lensS q0.1 [.agg [.p (.int .i64),.p (.int .i64),.p (.row 2),.own ⟨114,some ⟨1,116,2,0,none⟩⟩ 2]] then (cRow (cellAt q0.2 0 0) 0).bind fun l=>(cInt (cellAt q0.2 0 1) .i64).bind fun qr=>(cInt (cellAt q0.2 0 2) .u64).bind fun qr1=>(cInt (Dp.partAt q0.1 0 0) .i64).bind fun qr2=>(cInt (Dp.partAt q0.1 0 1) .i64).bind fun qr3=>(cRow (Dp.partAt q0.1 0 2) 2).bind fun l1=>(asOwn ⟨114,some ⟨1,116,2,0,none⟩⟩ 2 (Dp.partAt q0.1 0 3)).bind fun l2=>K0 l qr qr1 qr2 qr3 l1 l2 else none
@[simp] theorem R44_r (l:List PV) (qr qr1 qr2 qr3:Int) (l1 l2:List PV) (K0:List PV->Int->Int->Int->Int->List PV->List PV->R):R44 (r44 l qr qr1 qr2 qr3 l1 l2) K0 = K0 l qr qr1 qr2 qr3 l1 l2:=by kernel_rfl
def L44_1 (k n:Nat) (wide vars:Int) (l:List PV) (n1 n11 n12 n13:Int) (l1 l2:List PV):R:=evLoopAt P E T k 44 44 [3] [1,1,1,1,0,0] [] n ⟨mkT 67 [(0,.s (.c (.bptr 0 0))),(2,.s (.c (.bptr 1 0))),(3,.s (.c (.p (PV.int .i64 wide)))),(4,.s (.c (.p (PV.int .i64 vars))))],[.box [.p (PV.row 0 0 l),.p (PV.int .i64 n1),.p (PV.int .u64 n11)],.box [.p (PV.int .i64 n12),.p (PV.int .i64 n13),.p (PV.row 2 0 l1),.p (PV.row 2 0 l2)]]⟩
def c45 (k:Nat) (p p1:Int) (p2 p3 l:List PV) (n1 n11:Int):R:=evF P E T k 45 [.s (.c (.bptr 0 0)),.s (.c (.p (PV.agg [.int .i64 p,.int .i64 p1,.row 2 0 p2,.row 2 0 p3])))] [[.p (PV.row 0 0 l),.p (PV.int .i64 n1),.p (PV.int .u64 n11)]]
def r45 (l:List PV) (qr qr1:Int) (l1:List PV):R:=some ([.agg [.p (PV.row 0 0 l1)]],[[.p (PV.row 0 0 l),.p (PV.int .i64 qr),.p (PV.int .u64 qr1)]])
def R45 (x0:R) (K0:List PV->Int->Int->List PV->R):R:=x0.bind fun q0=>bif lensB q0.2 [[.p (.row 0),.p (.int .i64),.p (.int .u64)]] && lensS q0.1 [.agg [.p (.row 0)]] then (cRow (cellAt q0.2 0 0) 0).bind fun l=>(cInt (cellAt q0.2 0 1) .i64).bind fun qr=>(cInt (cellAt q0.2 0 2) .u64).bind fun qr1=>(cRow (Dp.partAt q0.1 0 0) 0).bind fun l1=>K0 l qr qr1 l1 else none
@[simp] theorem R45_r (l:List PV) (qr qr1:Int) (l1:List PV) (K0:List PV->Int->Int->List PV->R):R45 (r45 l qr qr1 l1) K0 = K0 l qr qr1 l1:=by kernel_rfl
def c48 (k:Nat) (n1:Int) (l:List PV) (n11 n12:Int):R:=evF P E T k 48 [.s (.c (.bptr 0 0)),.s (.c (.p (PV.int .i64 n1)))] [[.p (PV.row 0 0 l),.p (PV.int .i64 n11),.p (PV.int .u64 n12)]]
def r48 (l:List PV) (qr qr1:Int) (b:Bool):R:=some ([.c (.p (PV.bool b))],[[.p (PV.row 0 0 l),.p (PV.int .i64 qr),.p (PV.int .u64 qr1)]])
def R48 (x0:R) (K0:List PV->Int->Int->Bool->R):R:=x0.bind fun q0=>bif lensB q0.2 [[.p (.row 0),.p (.int .i64),.p (.int .u64)]] && lensS q0.1 [.c (.p (.bool))] then (cRow (cellAt q0.2 0 0) 0).bind fun l=>(cInt (cellAt q0.2 0 1) .i64).bind fun qr=>(cInt (cellAt q0.2 0 2) .u64).bind fun qr1=>(cBool (resAt q0.1 0)).bind fun b=>K0 l qr qr1 b else none
@[simp] theorem R48_r (l:List PV) (qr qr1:Int) (b:Bool) (K0:List PV->Int->Int->Bool->R):R48 (r48 l qr qr1 b) K0 = K0 l qr qr1 b:=by kernel_rfl
def c49 (k:Nat) (p p1:Int) (p2 p3 v:List PV):R:=evF P E T k 49 [.s (.c (.p (PV.agg [.int .i64 p,.int .i64 p1,.row 2 0 p2,.row 2 0 p3]))),.s (.c (.p (PV.agg [.row 0 0 v])))] []
def r49 (b:Bool):R:=some ([.c (.p (PV.bool b))],[])
def R49 (x0:R) (K0:Bool->R):R:=x0.bind fun q0=>bif lensB q0.2 [] && lensS q0.1 [.c (.p (.bool))] then (cBool (resAt q0.1 0)).bind fun b=>K0 b else none
@[simp] theorem R49_r (b:Bool) (K0:Bool->R):R49 (r49 b) K0 = K0 b:=by kernel_rfl
def c50 (k:Nat) (p p1:Int) (p2 p3:List PV):R:=evF P E T k 50 [.s (.c (.p (PV.agg [.int .i64 p,.int .i64 p1,.row 2 0 p2,.row 2 0 p3])))] []
def r50 (qr:Int):R:=some ([.c (.p (PV.int .i64 qr))],[])
def R50 (x0:R) (K0:Int->R):R:=x0.bind fun q0=>bif lensB q0.2 [] && lensS q0.1 [.c (.p (.int .i64))] then (cInt (resAt q0.1 0) .i64).bind fun qr=>K0 qr else none
@[simp] theorem R50_r (qr:Int) (K0:Int->R):R50 (r50 qr) K0 = K0 qr:=by kernel_rfl
def c51 (k:Nat) (p p1:Int) (p2 p3 v:List PV):R:=evF P E T k 51 [.s (.c (.p (PV.agg [.int .i64 p,.int .i64 p1,.row 2 0 p2,.row 2 0 p3]))),.s (.c (.p (PV.agg [.row 0 0 v])))] []
def r51 (b:Bool):R:=some ([.c (.p (PV.bool b))],[])
def R51 (x0:R) (K0:Bool->R):R:=x0.bind fun q0=>bif lensB q0.2 [] && lensS q0.1 [.c (.p (.bool))] then (cBool (resAt q0.1 0)).bind fun b=>K0 b else none
@[simp] theorem R51_r (b:Bool) (K0:Bool->R):R51 (r51 b) K0 = K0 b:=by kernel_rfl
def L51_1 (k n:Nat) (many:Int) (t20:List PV) (t21 t22:Int):R:=evLoopAt P E T k 51 51 [] [1,1,1,0,1,0] [] n ⟨mkT 36 [(5,.s (.c (.p (PV.int .i64 many)))),(20,.s (.c (.p (PV.row 0 0 t20)))),(21,.s (.c (.p (PV.int .i64 t21)))),(22,.s (.c (.p (PV.int .i64 t22))))],[]⟩
def c52 (k:Nat) (n1 lo hi:Int):R:=evF P E T k 52 [.s (.c (.p (PV.int .i64 n1))),.s (.c (.p (PV.int .i64 lo))),.s (.c (.p (PV.int .i64 hi)))] []
def r52 (b:Bool):R:=some ([.c (.p (PV.bool b))],[])
def R52 (x0:R) (K0:Bool->R):R:=x0.bind fun q0=>bif lensB q0.2 [] && lensS q0.1 [.c (.p (.bool))] then (cBool (resAt q0.1 0)).bind fun b=>K0 b else none
@[simp] theorem R52_r (b:Bool) (K0:Bool->R):R52 (r52 b) K0 = K0 b:=by kernel_rfl
def c53 (k:Nat) (l:List PV) (lo hi:Int):R:=evF P E T k 53 [.s (.c (.p (PV.row 0 0 l))),.s (.c (.p (PV.int .i64 lo))),.s (.c (.p (PV.int .i64 hi)))] []
def r53 (b:Bool):R:=some ([.c (.p (PV.bool b))],[])
def R53 (x0:R) (K0:Bool->R):R:=x0.bind fun q0=>bif lensB q0.2 [] && lensS q0.1 [.c (.p (.bool))] then (cBool (resAt q0.1 0)).bind fun b=>K0 b else none
@[simp] theorem R53_r (b:Bool) (K0:Bool->R):R53 (r53 b) K0 = K0 b:=by kernel_rfl
def L53_1 (k n:Nat) (lo hi:Int) (t9:List PV) (t10 t11:Int):R:=evLoopAt P E T k 53 53 [] [1,0,1,0] [] n ⟨mkT 21 [(1,.s (.c (.p (PV.int .i64 lo)))),(2,.s (.c (.p (PV.int .i64 hi)))),(9,.s (.c (.p (PV.row 0 0 t9)))),(10,.s (.c (.p (PV.int .i64 t10)))),(11,.s (.c (.p (PV.int .i64 t11))))],[]⟩
def c57 (k:Nat) (p p1:Int) (p2 p3 t:List PV):R:=evF P E T k 57 [.s (.c (.p (PV.agg [.int .i64 p,.int .i64 p1,.row 2 0 p2,.row 2 0 p3]))),.s (.c (.p (PV.row 2 0 t)))] []
def r57 (l:List PV):R:=some ([.c (.own 3 0 l)],[])
def R57 (x0:R) (K0:List PV->R):R:=x0.bind fun q0=>bif lensB q0.2 [] && lensS q0.1 [.c (.own 3 0)] then (asOwn 3 0 (resAt q0.1 0)).bind fun l=>K0 l else none
@[simp] theorem R57_r (l:List PV) (K0:List PV->R):R57 (r57 l) K0 = K0 l:=by kernel_rfl
def L57_1 (k n:Nat) (t:List PV) (outLen:Nat) (t9 t10 n1 n11:Int) (l l1 xs:List PV):R:=evLoopAt P E T k 57 57 [] [1,1,0,1,0] [] n ⟨mkT 25 [(1,.s (.c (.p (PV.row 2 0 t)))),(2,.s (.c (.bptr 0 0))),(5,.s (.c (.loc 1 0 0 0 outLen))),(9,.s (.c (.p (PV.int .i64 t9)))),(10,.s (.c (.p (PV.int .i64 t10))))],[.box [.p (PV.int .i64 n1),.p (PV.int .i64 n11),.p (PV.row 2 0 l),.p (PV.row 2 0 l1)],.arr 3 0 0 false xs]⟩
def c58 (k:Nat) (v states:List PV):R:=evF P E T k 58 [.s (.c (.p (PV.agg [.row 0 0 v]))),.s (.c (.p (PV.row 0 0 states)))] []
def r58 (l:List PV):R:=some ([.c (.p (PV.row 0 0 l))],[])
def R58 (x0:R) (K0:List PV->R):R:=x0.bind fun q0=>bif lensB q0.2 [] && lensS q0.1 [.c (.p (.row 0))] then (cRow (resAt q0.1 0) 0).bind fun l=>K0 l else none
@[simp] theorem R58_r (l:List PV) (K0:List PV->R):R58 (r58 l) K0 = K0 l:=by kernel_rfl
def L58_1 (k n:Nat) (outLen:Nat) (t8:List PV) (t9 t10:Int) (l xs:List PV):R:=evLoopAt P E T k 58 58 [] [1,1,0,1,0] [] n ⟨mkT 23 [(2,.s (.c (.bptr 0 0))),(5,.s (.c (.loc 1 0 0 0 outLen))),(8,.s (.c (.p (PV.row 0 0 t8)))),(9,.s (.c (.p (PV.int .i64 t9)))),(10,.s (.c (.p (PV.int .i64 t10))))],[.box [.p (PV.row 0 0 l)],.arr 3 0 0 false xs]⟩
def c59 (k:Nat) (p p1:Int) (p2 p3 t:List PV):R:=evF P E T k 59 [.s (.c (.p (PV.agg [.int .i64 p,.int .i64 p1,.row 2 0 p2,.row 2 0 p3]))),.s (.c (.p (PV.row 2 0 t)))] []
def r59 (l:List PV):R:=some ([.c (.p (PV.row 0 0 l))],[])
def R59 (x0:R) (K0:List PV->R):R:=x0.bind fun q0=>bif lensB q0.2 [] && lensS q0.1 [.c (.p (.row 0))] then (cRow (resAt q0.1 0) 0).bind fun l=>K0 l else none
@[simp] theorem R59_r (l:List PV) (K0:List PV->R):R59 (r59 l) K0 = K0 l:=by kernel_rfl
def L59_1 (k n:Nat) (t:List PV) (outLen:Nat) (no n1 n11:Int) (l l1 xs:List PV):R:=evLoopAt P E T k 59 59 [] [1,1,0,1,0] [] n ⟨mkT 24 [(1,.s (.c (.p (PV.row 2 0 t)))),(2,.s (.c (.bptr 0 0))),(5,.s (.c (.loc 1 0 0 0 outLen))),(6,.s (.c (.p (PV.int .i64 no))))],[.box [.p (PV.int .i64 n1),.p (PV.int .i64 n11),.p (PV.row 2 0 l),.p (PV.row 2 0 l1)],.arr 3 0 0 false xs]⟩
def c62f63 (k:Nat) (qs:List PV) (n1 n11:Int) (l l1:List PV):R:=evF P E T k 62 [.s (.c (.p (PV.row 0 0 qs))),.s (.c (.cfn 63 [PV.agg [.int .i64 n1,.int .i64 n11,.row 2 0 l,.row 2 0 l1]]))] []
def r62f63 (b:Bool):R:=some ([.c (.p (PV.bool b))],[])
def R62f63p (x0:R) (K0:Bool->R):R:=x0.bind fun q0=>bif q0.1.all plainS && q0.2.all (fun cs=>cs.all plainC) then (bif lensB q0.2 [] && lensS q0.1 [.c (.p (.bool))] then (cBool (resAt q0.1 0)).bind fun b=>K0 b else none) else none
@[simp] theorem R62f63p_r (b:Bool) (K0:Bool->R):R62f63p (r62f63 b) K0 = K0 b:=by kernel_rfl
def c62f152 (k:Nat) (qs:List PV) (n1:Int):R:=evF P E T k 62 [.s (.c (.p (PV.row 0 0 qs))),.s (.c (.cfn 152 [PV.agg [.int .i64 n1]]))] []
def r62f152 (b:Bool):R:=some ([.c (.p (PV.bool b))],[])
def R62f152p (x0:R) (K0:Bool->R):R:=x0.bind fun q0=>bif q0.1.all plainS && q0.2.all (fun cs=>cs.all plainC) then (bif lensB q0.2 [] && lensS q0.1 [.c (.p (.bool))] then (cBool (resAt q0.1 0)).bind fun b=>K0 b else none) else none
@[simp] theorem R62f152p_r (b:Bool) (K0:Bool->R):R62f152p (r62f152 b) K0 = K0 b:=by kernel_rfl
def c62f162 (k:Nat) (qs l:List PV) (n1:Int):R:=evF P E T k 62 [.s (.c (.p (PV.row 0 0 qs))),.s (.c (.cfn 162 [PV.agg [.row 0 0 l],PV.agg [.int .i64 n1]]))] []
def r62f162 (b:Bool):R:=some ([.c (.p (PV.bool b))],[])
def R62f162p (x0:R) (K0:Bool->R):R:=x0.bind fun q0=>bif q0.1.all plainS && q0.2.all (fun cs=>cs.all plainC) then (bif lensB q0.2 [] && lensS q0.1 [.c (.p (.bool))] then (cBool (resAt q0.1 0)).bind fun b=>K0 b else none) else none
@[simp] theorem R62f162p_r (b:Bool) (K0:Bool->R):R62f162p (r62f162 b) K0 = K0 b:=by kernel_rfl
def c62f154 (k:Nat) (qs l:List PV) (n1:Int):R:=evF P E T k 62 [.s (.c (.p (PV.row 0 0 qs))),.s (.c (.cfn 154 [PV.agg [.row 0 0 l],PV.agg [.int .i64 n1]]))] []
def r62f154 (b:Bool):R:=some ([.c (.p (PV.bool b))],[])
def R62f154p (x0:R) (K0:Bool->R):R:=x0.bind fun q0=>bif q0.1.all plainS && q0.2.all (fun cs=>cs.all plainC) then (bif lensB q0.2 [] && lensS q0.1 [.c (.p (.bool))] then (cBool (resAt q0.1 0)).bind fun b=>K0 b else none) else none
@[simp] theorem R62f154p_r (b:Bool) (K0:Bool->R):R62f154p (r62f154 b) K0 = K0 b:=by kernel_rfl
def c62f143 (k:Nat) (qs:List PV) (n1:Int):R:=evF P E T k 62 [.s (.c (.p (PV.row 0 0 qs))),.s (.c (.fn 143 [0]))] [[.p (PV.int .i64 n1)]]
def r62f143 (qr:Int) (b:Bool):R:=some ([.c (.p (PV.bool b))],[[.p (PV.int .i64 qr)]])
def R62f143p (x0:R) (K0:Int->Bool->R):R:=x0.bind fun q0=>bif q0.1.all plainS && q0.2.all (fun cs=>cs.all plainC) then (bif lensB q0.2 [[.p (.int .i64)]] && lensS q0.1 [.c (.p (.bool))] then (cInt (cellAt q0.2 0 0) .i64).bind fun qr=>(cBool (resAt q0.1 0)).bind fun b=>K0 qr b else none) else none
@[simp] theorem R62f143p_r (qr:Int) (b:Bool) (K0:Int->Bool->R):R62f143p (r62f143 qr b) K0 = K0 qr b:=by kernel_rfl
def c63 (k:Nat) (no n1 n11:Int) (l l1:List PV):R:=evF P E T k 63 [.s (.c (.p (PV.int .i64 no))),.s (.c (.eptr (PV.agg [.int .i64 n1,.int .i64 n11,.row 2 0 l,.row 2 0 l1]) 4 0))] []
def r63 (b:Bool):R:=some ([.c (.p (PV.bool b))],[])
def R63 (x0:R) (K0:Bool->R):R:=x0.bind fun q0=>bif lensB q0.2 [] && lensS q0.1 [.c (.p (.bool))] then (cBool (resAt q0.1 0)).bind fun b=>K0 b else none
@[simp] theorem R63_r (b:Bool) (K0:Bool->R):R63 (r63 b) K0 = K0 b:=by kernel_rfl
def c64 (k:Nat) (p p1:Int) (p2 p3:List PV) (no:Int):R:=evF P E T k 64 [.s (.c (.p (PV.agg [.int .i64 p,.int .i64 p1,.row 2 0 p2,.row 2 0 p3]))),.s (.c (.p (PV.int .i64 no)))] []
def r64 (b:Bool):R:=some ([.c (.p (PV.bool b))],[])
def R64 (x0:R) (K0:Bool->R):R:=x0.bind fun q0=>bif lensB q0.2 [] && lensS q0.1 [.c (.p (.bool))] then (cBool (resAt q0.1 0)).bind fun b=>K0 b else none
@[simp] theorem R64_r (b:Bool) (K0:Bool->R):R64 (r64 b) K0 = K0 b:=by kernel_rfl
def c65 (k:Nat) (qs:List PV) (v:Int):R:=evF P E T k 65 [.s (.c (.p (PV.row 0 0 qs))),.s (.c (.p (PV.int .i64 v)))] []
def r65 (b:Bool):R:=some ([.c (.p (PV.bool b))],[])
def R65 (x0:R) (K0:Bool->R):R:=x0.bind fun q0=>bif lensB q0.2 [] && lensS q0.1 [.c (.p (.bool))] then (cBool (resAt q0.1 0)).bind fun b=>K0 b else none
@[simp] theorem R65_r (b:Bool) (K0:Bool->R):R65 (r65 b) K0 = K0 b:=by kernel_rfl
def c66 (k:Nat) (p p1:Int) (p2 p3:List PV) (no:Int):R:=evF P E T k 66 [.s (.c (.p (PV.agg [.int .i64 p,.int .i64 p1,.row 2 0 p2,.row 2 0 p3]))),.s (.c (.p (PV.int .i64 no)))] []
def r66 (l:List PV):R:=some ([.c (.p (PV.row 0 0 l))],[])
def R66 (x0:R) (K0:List PV->R):R:=x0.bind fun q0=>bif lensB q0.2 [] && lensS q0.1 [.c (.p (.row 0))] then (cRow (resAt q0.1 0) 0).bind fun l=>K0 l else none
@[simp] theorem R66_r (l:List PV) (K0:List PV->R):R66 (r66 l) K0 = K0 l:=by kernel_rfl
def L66_1 (k n:Nat) (no:Int) (qs:List PV) (outLen:Nat) (t14:List PV) (t15 t16 n1 n11:Int) (l l1 xs:List PV):R:=evLoopAt P E T k 66 66 [] [1,1,0,1,0] [] n ⟨mkT 44 [(1,.s (.c (.p (PV.int .i64 no)))),(2,.s (.c (.bptr 0 0))),(5,.s (.c (.p (PV.row 0 0 qs)))),(6,.s (.c (.loc 1 0 0 0 outLen))),(14,.s (.c (.p (PV.row 2 0 t14)))),(15,.s (.c (.p (PV.int .i64 t15)))),(16,.s (.c (.p (PV.int .i64 t16))))],[.box [.p (PV.int .i64 n1),.p (PV.int .i64 n11),.p (PV.row 2 0 l),.p (PV.row 2 0 l1)],.arr 3 0 0 false xs]⟩
def c67 (k:Nat) (p p1:Int) (p2 p3 t qs:List PV):R:=evF P E T k 67 [.s (.c (.p (PV.agg [.int .i64 p,.int .i64 p1,.row 2 0 p2,.row 2 0 p3]))),.s (.c (.p (PV.row 2 0 t))),.s (.c (.p (PV.row 0 0 qs)))] []
def r67 (b:Bool):R:=some ([.c (.p (PV.bool b))],[])
def R67 (x0:R) (K0:Bool->R):R:=x0.bind fun q0=>bif lensB q0.2 [] && lensS q0.1 [.c (.p (.bool))] then (cBool (resAt q0.1 0)).bind fun b=>K0 b else none
@[simp] theorem R67_r (b:Bool) (K0:Bool->R):R67 (r67 b) K0 = K0 b:=by kernel_rfl
def c68 (k:Nat) (p p1:Int) (p2 p3:List PV) (no:Int):R:=evF P E T k 68 [.s (.c (.p (PV.agg [.int .i64 p,.int .i64 p1,.row 2 0 p2,.row 2 0 p3]))),.s (.c (.p (PV.int .i64 no)))] []
def r68 (l:List PV):R:=some ([.c (.p (PV.row 0 0 l))],[])
def R68 (x0:R) (K0:List PV->R):R:=x0.bind fun q0=>bif lensB q0.2 [] && lensS q0.1 [.c (.p (.row 0))] then (cRow (resAt q0.1 0) 0).bind fun l=>K0 l else none
@[simp] theorem R68_r (l:List PV) (K0:List PV->R):R68 (r68 l) K0 = K0 l:=by kernel_rfl
def L68_1 (k n:Nat) (no:Int) (outLen:Nat) (t9 t10 n1 n11:Int) (l l1 xs:List PV):R:=evLoopAt P E T k 68 68 [] [1,1,0,1,0] [] n ⟨mkT 29 [(1,.s (.c (.p (PV.int .i64 no)))),(2,.s (.c (.bptr 0 0))),(5,.s (.c (.loc 1 0 0 0 outLen))),(9,.s (.c (.p (PV.int .i64 t9)))),(10,.s (.c (.p (PV.int .i64 t10))))],[.box [.p (PV.int .i64 n1),.p (PV.int .i64 n11),.p (PV.row 2 0 l),.p (PV.row 2 0 l1)],.arr 64 0 0 false xs]⟩
def c69 (k:Nat) (p p1:Int) (p2 p3:List PV):R:=evF P E T k 69 [.s (.c (.p (PV.agg [.int .i64 p,.int .i64 p1,.row 2 0 p2,.row 2 0 p3])))] []
def r69 (b:Bool):R:=some ([.c (.p (PV.bool b))],[])
def R69 (x0:R) (K0:Bool->R):R:=x0.bind fun q0=>bif lensB q0.2 [] && lensS q0.1 [.c (.p (.bool))] then (cBool (resAt q0.1 0)).bind fun b=>K0 b else none
@[simp] theorem R69_r (b:Bool) (K0:Bool->R):R69 (r69 b) K0 = K0 b:=by kernel_rfl
def c72 (k:Nat) (p p1:Int) (p2 p3 t:List PV):R:=evF P E T k 72 [.s (.c (.p (PV.agg [.int .i64 p,.int .i64 p1,.row 2 0 p2,.row 2 0 p3]))),.s (.c (.p (PV.row 2 0 t)))] []
def r72 (b:Bool):R:=some ([.c (.p (PV.bool b))],[])
def R72 (x0:R) (K0:Bool->R):R:=x0.bind fun q0=>bif lensB q0.2 [] && lensS q0.1 [.c (.p (.bool))] then (cBool (resAt q0.1 0)).bind fun b=>K0 b else none
@[simp] theorem R72_r (b:Bool) (K0:Bool->R):R72 (r72 b) K0 = K0 b:=by kernel_rfl
def c74 (k:Nat) (p p1:Int) (p2 p3 t:List PV):R:=evF P E T k 74 [.s (.c (.p (PV.agg [.int .i64 p,.int .i64 p1,.row 2 0 p2,.row 2 0 p3]))),.s (.c (.p (PV.row 2 0 t)))] []
def r74 (b:Bool):R:=some ([.c (.p (PV.bool b))],[])
def R74 (x0:R) (K0:Bool->R):R:=x0.bind fun q0=>bif lensB q0.2 [] && lensS q0.1 [.c (.p (.bool))] then (cBool (resAt q0.1 0)).bind fun b=>K0 b else none
@[simp] theorem R74_r (b:Bool) (K0:Bool->R):R74 (r74 b) K0 = K0 b:=by kernel_rfl
def c75 (k:Nat) (a b:List PV):R:=evF P E T k 75 [.s (.c (.p (PV.row 0 0 a))),.s (.c (.p (PV.row 0 0 b)))] []
def r75 (b:Bool):R:=some ([.c (.p (PV.bool b))],[])
def R75 (x0:R) (K0:Bool->R):R:=x0.bind fun q0=>bif lensB q0.2 [] && lensS q0.1 [.c (.p (.bool))] then (cBool (resAt q0.1 0)).bind fun b=>K0 b else none
@[simp] theorem R75_r (b:Bool) (K0:Bool->R):R75 (r75 b) K0 = K0 b:=by kernel_rfl
def L75_1 (k n:Nat) (b t7:List PV) (t8 t9:Int):R:=evLoopAt P E T k 75 75 [] [1,0,1,0] [] n ⟨mkT 17 [(1,.s (.c (.p (PV.row 0 0 b)))),(7,.s (.c (.p (PV.row 0 0 t7)))),(8,.s (.c (.p (PV.int .i64 t8)))),(9,.s (.c (.p (PV.int .i64 t9))))],[]⟩
def c77 (k:Nat) (wide vars:Int) (t:List PV):R:=evF P E T k 77 [.s (.c (.p (PV.int .i64 wide))),.s (.c (.p (PV.int .i64 vars))),.s (.c (.p (PV.row 2 0 t)))] []
def r77 (b:Bool):R:=some ([.c (.p (PV.bool b))],[])
def R77 (x0:R) (K0:Bool->R):R:=x0.bind fun q0=>bif lensB q0.2 [] && lensS q0.1 [.c (.p (.bool))] then (cBool (resAt q0.1 0)).bind fun b=>K0 b else none
@[simp] theorem R77_r (b:Bool) (K0:Bool->R):R77 (r77 b) K0 = K0 b:=by kernel_rfl
def L77_1 (k n:Nat) (wide vars:Int) (stackLen:Nat) (t33:List PV) (t34 t35:Int) (xs:List PV):R:=evLoopAt P E T k 77 77 [] [1,1,1,0,1,0] [] n ⟨mkT 80 [(0,.s (.c (.p (PV.int .i64 wide)))),(1,.s (.c (.p (PV.int .i64 vars)))),(7,.s (.c (.loc 0 0 0 0 stackLen))),(33,.s (.c (.p (PV.row 2 0 t33)))),(34,.s (.c (.p (PV.int .i64 t34)))),(35,.s (.c (.p (PV.int .i64 t35))))],[.arr 3 0 0 false xs]⟩
def c84 (k:Nat) (p p1:Int) (p2 p3 v:List PV) (class1:Int):R:=evF P E T k 84 [.s (.c (.p (PV.agg [.int .i64 p,.int .i64 p1,.row 2 0 p2,.row 2 0 p3]))),.s (.c (.p (PV.agg [.row 0 0 v]))),.s (.c (.p (PV.int .i64 class1)))] []
def r84 (b:Bool):R:=some ([.c (.p (PV.bool b))],[])
def R84 (x0:R) (K0:Bool->R):R:=x0.bind fun q0=>bif lensB q0.2 [] && lensS q0.1 [.c (.p (.bool))] then (cBool (resAt q0.1 0)).bind fun b=>K0 b else none
@[simp] theorem R84_r (b:Bool) (K0:Bool->R):R84 (r84 b) K0 = K0 b:=by kernel_rfl
def c86 (k:Nat) (p p1:Int) (p2 p3 v:List PV) (class1:Int):R:=evF P E T k 86 [.s (.c (.p (PV.agg [.int .i64 p,.int .i64 p1,.row 2 0 p2,.row 2 0 p3]))),.s (.c (.p (PV.agg [.row 0 0 v]))),.s (.c (.p (PV.int .i64 class1)))] []
def r86 (b:Bool):R:=some ([.c (.p (PV.bool b))],[])
def R86 (x0:R) (K0:Bool->R):R:=x0.bind fun q0=>bif lensB q0.2 [] && lensS q0.1 [.c (.p (.bool))] then (cBool (resAt q0.1 0)).bind fun b=>K0 b else none
@[simp] theorem R86_r (b:Bool) (K0:Bool->R):R86 (r86 b) K0 = K0 b:=by kernel_rfl
def c89 (k:Nat) (p p1:Int) (p2 p3 v:List PV) (class1:Int):R:=evF P E T k 89 [.s (.c (.p (PV.agg [.int .i64 p,.int .i64 p1,.row 2 0 p2,.row 2 0 p3]))),.s (.c (.p (PV.agg [.row 0 0 v]))),.s (.c (.p (PV.int .i64 class1)))] []
def r89 (l:List PV):R:=some ([.c (.p (PV.row 0 0 l))],[])
def R89 (x0:R) (K0:List PV->R):R:=x0.bind fun q0=>bif lensB q0.2 [] && lensS q0.1 [.c (.p (.row 0))] then (cRow (resAt q0.1 0) 0).bind fun l=>K0 l else none
@[simp] theorem R89_r (l:List PV) (K0:List PV->R):R89 (r89 l) K0 = K0 l:=by kernel_rfl
def c90 (k:Nat) (code:List PV):R:=evF P E T k 90 [.s (.c (.p (PV.row 0 0 code)))] []
def r90 (qr qr1:Int) (l l1 l2 l3:List PV):R:=some ([.agg [.p (PV.int .i64 qr),.p (PV.int .i64 qr1),.p (PV.row 2 0 l),.p (PV.row 2 0 l1)],.agg [.p (PV.row 0 0 l2)],.c (.p (PV.row 0 0 l3))],[])
def R90 (x0:R) (K0:Int->Int->List PV->List PV->List PV->List PV->R):R:=x0.bind fun q0=>bif lensB q0.2 [] && lensS q0.1 [.agg [.p (.int .i64),.p (.int .i64),.p (.row 2),.p (.row 2)],.agg [.p (.row 0)],.c (.p (.row 0))] then (cInt (Dp.partAt q0.1 0 0) .i64).bind fun qr=>(cInt (Dp.partAt q0.1 0 1) .i64).bind fun qr1=>(cRow (Dp.partAt q0.1 0 2) 2).bind fun l=>(cRow (Dp.partAt q0.1 0 3) 2).bind fun l1=>(cRow (Dp.partAt q0.1 1 0) 0).bind fun l2=>(cRow (resAt q0.1 2) 0).bind fun l3=>K0 qr qr1 l l1 l2 l3 else none
@[simp] theorem R90_r (qr qr1:Int) (l l1 l2 l3:List PV) (K0:Int->Int->List PV->List PV->List PV->List PV->R):R90 (r90 qr qr1 l l1 l2 l3) K0 = K0 qr qr1 l l1 l2 l3:=by kernel_rfl
def c91 (k:Nat) (p p1:Int) (p2 p3 v path:List PV) (most:Int):R:=evF P E T k 91 [.s (.c (.p (PV.agg [.int .i64 p,.int .i64 p1,.row 2 0 p2,.row 2 0 p3]))),.s (.c (.p (PV.agg [.row 0 0 v]))),.s (.c (.p (PV.row 0 0 path))),.s (.c (.p (PV.int .i64 most)))] []
def r91 (b:Bool):R:=some ([.c (.p (PV.bool b))],[])
def R91 (x0:R) (K0:Bool->R):R:=x0.bind fun q0=>bif lensB q0.2 [] && lensS q0.1 [.c (.p (.bool))] then (cBool (resAt q0.1 0)).bind fun b=>K0 b else none
@[simp] theorem R91_r (b:Bool) (K0:Bool->R):R91 (r91 b) K0 = K0 b:=by kernel_rfl
def c92 (k:Nat) (p p1:Int) (p2 p3 v path:List PV):R:=evF P E T k 92 [.s (.c (.p (PV.agg [.int .i64 p,.int .i64 p1,.row 2 0 p2,.row 2 0 p3]))),.s (.c (.p (PV.agg [.row 0 0 v]))),.s (.c (.p (PV.row 0 0 path)))] []
def r92 (l:List PV):R:=some ([.c (.p (PV.rowN 0 l))],[])
def R92 (x0:R) (K0:List PV->R):R:=x0.bind fun q0=>bif lensB q0.2 [] && lensS q0.1 [.c (.p (.rowN 0))] then (cRowN (resAt q0.1 0) 0).bind fun l=>K0 l else none
@[simp] theorem R92_r (l:List PV) (K0:List PV->R):R92 (r92 l) K0 = K0 l:=by cases l <;> kernel_rfl
def L92_1 (k n:Nat) (last:Int) (Len:Nat) (l:List PV) (n1:Int) (xs:List PV):R:=evLoopAt P E T k 92 92 [] [1,1,1,1,0,1,0] [] n ⟨mkT 71 [(7,.s (.c (.bptr 0 0))),(8,.s (.c (.bptr 1 0))),(9,.s (.c (.p (PV.int .i64 last)))),(10,.s (.c (.bptr 2 0)))],[.box [.loc 3 0 0 0 Len],.box [.p (PV.row 0 0 l)],.box [.p (PV.int .i64 n1)],.arr ⟨28,some ⟨0,3,0,0,none⟩⟩ 0 0 false xs]⟩
def J92_2 (k:Nat) (last:Int) (l l1:List PV):R:=evCutAt P E T k 92 92 [] [1,1,1,1,1,0] [] ⟨mkT 71 [(7,.s (.c (.bptr 0 0))),(8,.s (.c (.bptr 1 0))),(9,.s (.c (.p (PV.int .i64 last))))],[.box [.p (PV.row 0 0 l)],.box [.p (PV.row 0 0 l1)]]⟩
def L92_3 (k n:Nat) (last:Int) (l l1:List PV) (Len:Nat) (n1:Int) (xs:List PV):R:=evLoopAt P E T k 92 92 [] [1,1,1,1,1,1,0,1,0] [] n ⟨mkT 71 [(7,.s (.c (.bptr 0 0))),(8,.s (.c (.bptr 1 0))),(9,.s (.c (.p (PV.int .i64 last)))),(11,.s (.c (.bptr 2 0))),(12,.s (.c (.bptr 3 0)))],[.box [.p (PV.row 0 0 l)],.box [.p (PV.row 0 0 l1)],.box [.loc 4 0 0 0 Len],.box [.p (PV.int .i64 n1)],.arr 3 0 0 false xs]⟩
def c93 (k:Nat) (p p1:Int) (p2 p3 v path:List PV):R:=evF P E T k 93 [.s (.c (.p (PV.agg [.int .i64 p,.int .i64 p1,.row 2 0 p2,.row 2 0 p3]))),.s (.c (.p (PV.agg [.row 0 0 v]))),.s (.c (.p (PV.row 0 0 path)))] []
def r93 (b:Bool):R:=some ([.c (.p (PV.bool b))],[])
def R93 (x0:R) (K0:Bool->R):R:=x0.bind fun q0=>bif lensB q0.2 [] && lensS q0.1 [.c (.p (.bool))] then (cBool (resAt q0.1 0)).bind fun b=>K0 b else none
@[simp] theorem R93_r (b:Bool) (K0:Bool->R):R93 (r93 b) K0 = K0 b:=by kernel_rfl
def c94 (k:Nat) (p p1:Int) (p2 p3 v path:List PV):R:=evF P E T k 94 [.s (.c (.p (PV.agg [.int .i64 p,.int .i64 p1,.row 2 0 p2,.row 2 0 p3]))),.s (.c (.p (PV.agg [.row 0 0 v]))),.s (.c (.p (PV.row 0 0 path)))] []
def r94 (l:List PV):R:=some ([.c (.p (PV.row 0 0 l))],[])
def R94 (x0:R) (K0:List PV->R):R:=x0.bind fun q0=>bif lensB q0.2 [] && lensS q0.1 [.c (.p (.row 0))] then (cRow (resAt q0.1 0) 0).bind fun l=>K0 l else none
@[simp] theorem R94_r (l:List PV) (K0:List PV->R):R94 (r94 l) K0 = K0 l:=by kernel_rfl
def L94_1 (k n:Nat) (outLen:Nat) (some1 t18:List PV) (t19 t20 n1 n11:Int) (l l1 l2 xs:List PV):R:=evLoopAt P E T k 94 94 [] [1,1,1,0,1,0] [] n ⟨mkT 51 [(3,.s (.c (.bptr 0 0))),(4,.s (.c (.bptr 1 0))),(7,.s (.c (.loc 2 0 0 0 outLen))),(8,.s (.c (.p (PV.row 0 0 some1)))),(18,.s (.c (.p (PV.row 0 0 t18)))),(19,.s (.c (.p (PV.int .i64 t19)))),(20,.s (.c (.p (PV.int .i64 t20))))],[.box [.p (PV.int .i64 n1),.p (PV.int .i64 n11),.p (PV.row 2 0 l),.p (PV.row 2 0 l1)],.box [.p (PV.row 0 0 l2)],.arr 28 0 0 false xs]⟩
def L94_2 (k n1 n:Nat) (outLen:Nat) (class1:Int) (inLen:Nat) (t18:List PV) (t19 t20:Int) (t24:List PV) (t25 t26 n11 n12:Int) (l l1 l2 xs xs1:List PV):R:=evLoopAt P E T k 94 94 [] [1,1,1,0,1,0,0,1,1,0,0,1,1,0,1,0] [n1] n ⟨mkT 51 [(3,.s (.c (.bptr 0 0))),(4,.s (.c (.bptr 1 0))),(7,.s (.c (.loc 2 0 0 0 outLen))),(10,.s (.c (.p (PV.int .i64 class1)))),(11,.s (.c (.loc 3 0 0 0 inLen))),(18,.s (.c (.p (PV.row 0 0 t18)))),(19,.s (.c (.p (PV.int .i64 t19)))),(20,.s (.c (.p (PV.int .i64 t20)))),(24,.s (.c (.p (PV.row 0 0 t24)))),(25,.s (.c (.p (PV.int .i64 t25)))),(26,.s (.c (.p (PV.int .i64 t26))))],[.box [.p (PV.int .i64 n11),.p (PV.int .i64 n12),.p (PV.row 2 0 l),.p (PV.row 2 0 l1)],.box [.p (PV.row 0 0 l2)],.arr 28 0 0 false xs,.arr 3 0 0 false xs1]⟩
def c95 (k:Nat) (along:List PV):R:=evF P E T k 95 [.s (.c (.p (PV.row 0 0 along)))] []
def r95 (qr:Int):R:=some ([.c (.p (PV.int .i64 qr))],[])
def R95 (x0:R) (K0:Int->R):R:=x0.bind fun q0=>bif lensB q0.2 [] && lensS q0.1 [.c (.p (.int .i64))] then (cInt (resAt q0.1 0) .i64).bind fun qr=>K0 qr else none
@[simp] theorem R95_r (qr:Int) (K0:Int->R):R95 (r95 qr) K0 = K0 qr:=by kernel_rfl
def L95_1 (k n:Nat) (t5:List PV) (t6 t7:Int):R:=evLoopAt P E T k 95 95 [] [1,0,1,0] [] n ⟨mkT 17 [(5,.s (.c (.p (PV.row 0 0 t5)))),(6,.s (.c (.p (PV.int .i64 t6)))),(7,.s (.c (.p (PV.int .i64 t7))))],[]⟩
def c96 (k:Nat) (p p1:Int) (p2 p3 along:List PV):R:=evF P E T k 96 [.s (.c (.p (PV.agg [.int .i64 p,.int .i64 p1,.row 2 0 p2,.row 2 0 p3]))),.s (.c (.p (PV.row 0 0 along)))] []
def r96 (l:List PV):R:=some ([.c (.p (PV.row 0 0 l))],[])
def R96 (x0:R) (K0:List PV->R):R:=x0.bind fun q0=>bif lensB q0.2 [] && lensS q0.1 [.c (.p (.row 0))] then (cRow (resAt q0.1 0) 0).bind fun l=>K0 l else none
@[simp] theorem R96_r (l:List PV) (K0:List PV->R):R96 (r96 l) K0 = K0 l:=by kernel_rfl
def L96_1 (k n:Nat) (along:List PV) (canLen:Nat) (k1 n1 n11:Int) (l l1 xs:List PV):R:=evLoopAt P E T k 96 96 [] [1,1,0,1,0] [] n ⟨mkT 87 [(1,.s (.c (.p (PV.row 0 0 along)))),(2,.s (.c (.bptr 0 0))),(5,.s (.c (.loc 1 0 0 0 canLen))),(6,.s (.c (.p (PV.int .i64 k1))))],[.box [.p (PV.int .i64 n1),.p (PV.int .i64 n11),.p (PV.row 2 0 l),.p (PV.row 2 0 l1)],.arr 28 0 0 false xs]⟩
def L96_2 (k n1 n:Nat) (along:List PV) (canLen:Nat) (k1:Int) (inLen:Nat) (t27:List PV) (t28 t29 n11 n12:Int) (l l1 xs xs1:List PV):R:=evLoopAt P E T k 96 96 [] [1,1,0,1,0,0,1,0,0,1,0,1,0] [n1] n ⟨mkT 87 [(1,.s (.c (.p (PV.row 0 0 along)))),(2,.s (.c (.bptr 0 0))),(5,.s (.c (.loc 1 0 0 0 canLen))),(6,.s (.c (.p (PV.int .i64 k1)))),(7,.s (.c (.loc 2 0 0 0 inLen))),(27,.s (.c (.p (PV.row 0 0 t27)))),(28,.s (.c (.p (PV.int .i64 t28)))),(29,.s (.c (.p (PV.int .i64 t29))))],[.box [.p (PV.int .i64 n11),.p (PV.int .i64 n12),.p (PV.row 2 0 l),.p (PV.row 2 0 l1)],.arr 28 0 0 false xs,.arr 3 0 0 false xs1]⟩
def L96_3 (k n:Nat) (canLen outLen:Nat) (k1 n1 n11:Int) (l l1 xs xs1:List PV):R:=evLoopAt P E T k 96 96 [] [1,1,1,1,0,1,0] [] n ⟨mkT 87 [(2,.s (.c (.bptr 0 0))),(5,.s (.c (.loc 1 0 0 0 canLen))),(10,.s (.c (.loc 2 0 0 0 outLen))),(11,.s (.c (.p (PV.int .i64 k1))))],[.box [.p (PV.int .i64 n1),.p (PV.int .i64 n11),.p (PV.row 2 0 l),.p (PV.row 2 0 l1)],.arr 28 0 0 false xs,.arr 3 0 0 false xs1]⟩
def L96_4 (k n1 n:Nat) (canLen outLen:Nat) (k1:Int) (t69:List PV) (t70 t71 n11 n12:Int) (l l1 xs xs1:List PV):R:=evLoopAt P E T k 96 96 [] [1,1,1,1,0,1,0,0,1,0,0,1,0] [n1] n ⟨mkT 87 [(2,.s (.c (.bptr 0 0))),(5,.s (.c (.loc 1 0 0 0 canLen))),(10,.s (.c (.loc 2 0 0 0 outLen))),(11,.s (.c (.p (PV.int .i64 k1)))),(69,.s (.c (.p (PV.row 0 0 t69)))),(70,.s (.c (.p (PV.int .i64 t70)))),(71,.s (.c (.p (PV.int .i64 t71))))],[.box [.p (PV.int .i64 n11),.p (PV.int .i64 n12),.p (PV.row 2 0 l),.p (PV.row 2 0 l1)],.arr 28 0 0 false xs,.arr 3 0 0 false xs1]⟩
def c97 (k:Nat) (along:List PV):R:=evF P E T k 97 [.s (.c (.p (PV.row 0 0 along)))] []
def r97 (qr:Int):R:=some ([.c (.p (PV.int .i64 qr))],[])
def R97 (x0:R) (K0:Int->R):R:=x0.bind fun q0=>bif lensB q0.2 [] && lensS q0.1 [.c (.p (.int .i64))] then (cInt (resAt q0.1 0) .i64).bind fun qr=>K0 qr else none
@[simp] theorem R97_r (qr:Int) (K0:Int->R):R97 (r97 qr) K0 = K0 qr:=by kernel_rfl
def R97p (x0:R) (K0:Int->R):R:=x0.bind fun q0=>bif q0.1.all plainS && q0.2.all (fun cs=>cs.all plainC) then (bif lensB q0.2 [] && lensS q0.1 [.c (.p (.int .i64))] then (cInt (resAt q0.1 0) .i64).bind fun qr=>K0 qr else none) else none
@[simp] theorem R97p_r (qr:Int) (K0:Int->R):R97p (r97 qr) K0 = K0 qr:=by kernel_rfl
def c98 (k:Nat) (p p1:Int) (p2 p3 v path:List PV):R:=evF P E T k 98 [.s (.c (.p (PV.agg [.int .i64 p,.int .i64 p1,.row 2 0 p2,.row 2 0 p3]))),.s (.c (.p (PV.agg [.row 0 0 v]))),.s (.c (.p (PV.row 0 0 path)))] []
def r98 (l:List PV):R:=some ([.c (.own ⟨28,some ⟨0,3,0,0,none⟩⟩ 0 l)],[])
def R98 (x0:R) (K0:List PV->R):R:=x0.bind fun q0=>bif lensB q0.2 [] && lensS q0.1 [.c (.own ⟨28,some ⟨0,3,0,0,none⟩⟩ 0)] then (asOwn ⟨28,some ⟨0,3,0,0,none⟩⟩ 0 (resAt q0.1 0)).bind fun l=>K0 l else none
@[simp] theorem R98_r (l:List PV) (K0:List PV->R):R98 (r98 l) K0 = K0 l:=by kernel_rfl
def L98_1 (k n:Nat) (outLen:Nat) (next:List PV) (nowLen:Nat) (t24:List PV) (t25 t26 n1 n11:Int) (l l1 l2 xs xs1:List PV):R:=evLoopAt P E T k 98 98 [] [1,1,0,1,0] [] n ⟨mkT 68 [(3,.s (.c (.bptr 0 0))),(4,.s (.c (.bptr 1 0))),(7,.s (.c (.loc 2 0 0 0 outLen))),(8,.s (.c (.p (PV.row 0 0 next)))),(9,.s (.c (.loc 3 0 0 0 nowLen))),(24,.s (.c (.p (PV.row 0 0 t24)))),(25,.s (.c (.p (PV.int .i64 t25)))),(26,.s (.c (.p (PV.int .i64 t26))))],[.box [.p (PV.int .i64 n1),.p (PV.int .i64 n11),.p (PV.row 2 0 l),.p (PV.row 2 0 l1)],.box [.p (PV.row 0 0 l2)],.arr ⟨28,some ⟨0,3,0,0,none⟩⟩ 0 0 false xs,.arr 3 0 0 false xs1]⟩
def L98_2 (k n1 n:Nat) (outLen:Nat) (next:List PV) (inLen:Nat) (t24:List PV) (t25 t26:Int) (t36Len:Nat) (t37 t38 n11 n12:Int) (l l1 l2:List PV) (n13:Int) (xs xs1 xs2:List PV):R:=evLoopAt P E T k 98 98 [] [1,1,0,1,0,0,1,1,0,0,1,0,1,0,1,0,1,0] [n1] n ⟨mkT 68 [(3,.s (.c (.bptr 0 0))),(4,.s (.c (.bptr 1 0))),(7,.s (.c (.loc 3 0 0 0 outLen))),(8,.s (.c (.p (PV.row 0 0 next)))),(11,.s (.c (.bptr 2 0))),(12,.s (.c (.loc 4 0 0 0 inLen))),(24,.s (.c (.p (PV.row 0 0 t24)))),(25,.s (.c (.p (PV.int .i64 t25)))),(26,.s (.c (.p (PV.int .i64 t26)))),(36,.s (.c (.loc 5 0 0 0 t36Len))),(37,.s (.c (.p (PV.int .i64 t37)))),(38,.s (.c (.p (PV.int .i64 t38))))],[.box [.p (PV.int .i64 n11),.p (PV.int .i64 n12),.p (PV.row 2 0 l),.p (PV.row 2 0 l1)],.box [.p (PV.row 0 0 l2)],.box [.p (PV.int .i64 n13)],.arr ⟨28,some ⟨0,3,0,0,none⟩⟩ 0 0 false xs,.arr 4 0 0 false xs1,.arr 3 0 0 false xs2]⟩
def L98_3 (k n1 n2 n:Nat) (outLen:Nat) (next:List PV) (inLen:Nat) (t24:List PV) (t25 t26:Int) (t36Len:Nat) (t37 t38:Int) (t45:List PV) (t46 t47 n11 n12:Int) (l l1 l2:List PV) (n13:Int) (xs xs1 xs2:List PV):R:=evLoopAt P E T k 98 98 [] [1,1,0,1,0,0,1,1,0,0,1,0,1,0,1,0,1,0,0,1,1,0,0,1,1,0] [n1,n2] n ⟨mkT 68 [(3,.s (.c (.bptr 0 0))),(4,.s (.c (.bptr 1 0))),(7,.s (.c (.loc 3 0 0 0 outLen))),(8,.s (.c (.p (PV.row 0 0 next)))),(11,.s (.c (.bptr 2 0))),(12,.s (.c (.loc 4 0 0 0 inLen))),(24,.s (.c (.p (PV.row 0 0 t24)))),(25,.s (.c (.p (PV.int .i64 t25)))),(26,.s (.c (.p (PV.int .i64 t26)))),(36,.s (.c (.loc 5 0 0 0 t36Len))),(37,.s (.c (.p (PV.int .i64 t37)))),(38,.s (.c (.p (PV.int .i64 t38)))),(45,.s (.c (.p (PV.row 0 0 t45)))),(46,.s (.c (.p (PV.int .i64 t46)))),(47,.s (.c (.p (PV.int .i64 t47))))],[.box [.p (PV.int .i64 n11),.p (PV.int .i64 n12),.p (PV.row 2 0 l),.p (PV.row 2 0 l1)],.box [.p (PV.row 0 0 l2)],.box [.p (PV.int .i64 n13)],.arr ⟨28,some ⟨0,3,0,0,none⟩⟩ 0 0 false xs,.arr 4 0 0 false xs1,.arr 3 0 0 false xs2]⟩
def c99 (k:Nat) (p p1:Int) (p2 p3 v path:List PV):R:=evF P E T k 99 [.s (.c (.p (PV.agg [.int .i64 p,.int .i64 p1,.row 2 0 p2,.row 2 0 p3]))),.s (.c (.p (PV.agg [.row 0 0 v]))),.s (.c (.p (PV.row 0 0 path)))] []
def r99 (l:List PV) (b:Bool):R:=some ([.c (.p (PV.row 0 0 l)),.c (.p (PV.bool b))],[])
def R99 (x0:R) (K0:List PV->Bool->R):R:=x0.bind fun q0=>bif lensB q0.2 [] && lensS q0.1 [.c (.p (.row 0)),.c (.p (.bool))] then (cRow (resAt q0.1 0) 0).bind fun l=>(cBool (resAt q0.1 1)).bind fun b=>K0 l b else none
@[simp] theorem R99_r (l:List PV) (b:Bool) (K0:List PV->Bool->R):R99 (r99 l b) K0 = K0 l b:=by kernel_rfl
def J99_1 (k:Nat) (along:List PV):R:=evCutAt P E T k 99 99 [] [1,1,0] [] ⟨mkT 23 [(8,.s (.c (.p (PV.row 0 0 along))))],[]⟩
def c100 (k:Nat) (p p1:Int) (p2 p3 v:List PV) (class1 to:Int):R:=evF P E T k 100 [.s (.c (.p (PV.agg [.int .i64 p,.int .i64 p1,.row 2 0 p2,.row 2 0 p3]))),.s (.c (.p (PV.agg [.row 0 0 v]))),.s (.c (.p (PV.int .i64 class1))),.s (.c (.p (PV.int .i64 to)))] []
def r100 (l:List PV):R:=some ([.c (.p (PV.row 0 0 l))],[])
def R100 (x0:R) (K0:List PV->R):R:=x0.bind fun q0=>bif lensB q0.2 [] && lensS q0.1 [.c (.p (.row 0))] then (cRow (resAt q0.1 0) 0).bind fun l=>K0 l else none
@[simp] theorem R100_r (l:List PV) (K0:List PV->R):R100 (r100 l) K0 = K0 l:=by kernel_rfl
def c101 (k:Nat) (v:List PV) (class1:Int):R:=evF P E T k 101 [.s (.c (.p (PV.agg [.row 0 0 v]))),.s (.c (.p (PV.int .i64 class1)))] []
def r101 (l:List PV):R:=some ([.c (.own 3 0 l)],[])
def R101 (x0:R) (K0:List PV->R):R:=x0.bind fun q0=>bif lensB q0.2 [] && lensS q0.1 [.c (.own 3 0)] then (asOwn 3 0 (resAt q0.1 0)).bind fun l=>K0 l else none
@[simp] theorem R101_r (l:List PV) (K0:List PV->R):R101 (r101 l) K0 = K0 l:=by kernel_rfl
def L101_1 (k n:Nat) (class1:Int) (outLen:Nat) (t10:List PV) (t11 t12:Int) (xs:List PV):R:=evLoopAt P E T k 101 101 [] [1,1,0,1,0] [] n ⟨mkT 26 [(1,.s (.c (.p (PV.int .i64 class1)))),(5,.s (.c (.loc 0 0 0 0 outLen))),(10,.s (.c (.p (PV.row 0 0 t10)))),(11,.s (.c (.p (PV.int .i64 t11)))),(12,.s (.c (.p (PV.int .i64 t12))))],[.arr 3 0 0 false xs]⟩
def c102 (k:Nat) (list l:List PV) (n1 n11:Int):R:=evF P E T k 102 [.s (.c (.bptr 0 0)),.s (.c (.p (PV.row 0 0 list)))] [[.p (PV.row 0 0 l),.p (PV.int .i64 n1),.p (PV.int .u64 n11)]]
def r102 (l:List PV) (qr qr1 qr2:Int):R:=some ([.c (.p (PV.int .i64 qr2))],[[.p (PV.row 0 0 l),.p (PV.int .i64 qr),.p (PV.int .u64 qr1)]])
def R102 (x0:R) (K0:List PV->Int->Int->Int->R):R:=x0.bind fun q0=>bif lensB q0.2 [[.p (.row 0),.p (.int .i64),.p (.int .u64)]] && lensS q0.1 [.c (.p (.int .i64))] then (cRow (cellAt q0.2 0 0) 0).bind fun l=>(cInt (cellAt q0.2 0 1) .i64).bind fun qr=>(cInt (cellAt q0.2 0 2) .u64).bind fun qr1=>(cInt (resAt q0.1 0) .i64).bind fun qr2=>K0 l qr qr1 qr2 else none
@[simp] theorem R102_r (l:List PV) (qr qr1 qr2:Int) (K0:List PV->Int->Int->Int->R):R102 (r102 l qr qr1 qr2) K0 = K0 l qr qr1 qr2:=by kernel_rfl
def c103 (k:Nat) (n1:Int) (l:List PV) (n11 n12:Int):R:=evF P E T k 103 [.s (.c (.bptr 0 0)),.s (.c (.p (PV.int .i64 n1)))] [[.p (PV.row 0 0 l),.p (PV.int .i64 n11),.p (PV.int .u64 n12)]]
def r103 (l:List PV) (qr qr1 qr2:Int):R:=some ([.c (.p (PV.int .i64 qr2))],[[.p (PV.row 0 0 l),.p (PV.int .i64 qr),.p (PV.int .u64 qr1)]])
def R103 (x0:R) (K0:List PV->Int->Int->Int->R):R:=x0.bind fun q0=>bif lensB q0.2 [[.p (.row 0),.p (.int .i64),.p (.int .u64)]] && lensS q0.1 [.c (.p (.int .i64))] then (cRow (cellAt q0.2 0 0) 0).bind fun l=>(cInt (cellAt q0.2 0 1) .i64).bind fun qr=>(cInt (cellAt q0.2 0 2) .u64).bind fun qr1=>(cInt (resAt q0.1 0) .i64).bind fun qr2=>K0 l qr qr1 qr2 else none
@[simp] theorem R103_r (l:List PV) (qr qr1 qr2:Int) (K0:List PV->Int->Int->Int->R):R103 (r103 l qr qr1 qr2) K0 = K0 l qr qr1 qr2:=by kernel_rfl
def c104 (k:Nat) (wide vars:Int) (l:List PV) (n1 n11:Int):R:=evF P E T k 104 [.s (.c (.bptr 0 0)),.s (.c (.p (PV.int .i64 wide))),.s (.c (.p (PV.int .i64 vars)))] [[.p (PV.row 0 0 l),.p (PV.int .i64 n1),.p (PV.int .u64 n11)]]
def r104 (l:List PV) (qr qr1 qr2 qr3:Int) (l1 l2:List PV):R:=some ([.agg [.p (PV.int .i64 qr2),.p (PV.int .i64 qr3),.p (PV.row 2 0 l1),.own ⟨114,some ⟨1,116,2,0,none⟩⟩ 2 l2]],[[.p (PV.row 0 0 l),.p (PV.int .i64 qr),.p (PV.int .u64 qr1)]])
def R104 (x0:R) (K0:List PV->Int->Int->Int->Int->List PV->List PV->R):R:=x0.bind fun q0=>bif lensB q0.2 [[.p (.row 0),.p (.int .i64),.p (.int .u64)]] && lensS q0.1 [.agg [.p (.int .i64),.p (.int .i64),.p (.row 2),.own ⟨114,some ⟨1,116,2,0,none⟩⟩ 2]] then (cRow (cellAt q0.2 0 0) 0).bind fun l=>(cInt (cellAt q0.2 0 1) .i64).bind fun qr=>(cInt (cellAt q0.2 0 2) .u64).bind fun qr1=>(cInt (Dp.partAt q0.1 0 0) .i64).bind fun qr2=>(cInt (Dp.partAt q0.1 0 1) .i64).bind fun qr3=>(cRow (Dp.partAt q0.1 0 2) 2).bind fun l1=>(asOwn ⟨114,some ⟨1,116,2,0,none⟩⟩ 2 (Dp.partAt q0.1 0 3)).bind fun l2=>K0 l qr qr1 qr2 qr3 l1 l2 else none
@[simp] theorem R104_r (l:List PV) (qr qr1 qr2 qr3:Int) (l1 l2:List PV) (K0:List PV->Int->Int->Int->Int->List PV->List PV->R):R104 (r104 l qr qr1 qr2 qr3 l1 l2) K0 = K0 l qr qr1 qr2 qr3 l1 l2:=by kernel_rfl
def L104_1 (k n:Nat) (wide vars n1:Int) (l:List PV) (n11 n12 n13 n14:Int) (l1 l2:List PV) (n15 n16:Int) (Len Len1:Nat) (xs xs1:List PV):R:=evLoopAt P E T k 104 104 [3] [1,1,1,1,0,1,0] [] n ⟨mkT 44 [(0,.s (.c (.bptr 0 0))),(1,.s (.c (.p (PV.int .i64 wide)))),(2,.s (.c (.p (PV.int .i64 vars)))),(6,.s (.c (.bptr 1 0))),(7,.s (.c (.bptr 2 0))),(8,.s (.c (.p (PV.int .i64 n1))))],[.box [.p (PV.row 0 0 l),.p (PV.int .i64 n11),.p (PV.int .u64 n12)],.box [.p (PV.int .i64 n13),.p (PV.int .i64 n14),.p (PV.row 2 0 l1),.p (PV.row 2 0 l2)],.box [.p (PV.int .i64 n15),.p (PV.int .i64 n16),.loc 3 0 2 0 Len,.loc 4 0 2 0 Len1],.arr 96 2 0 false xs,.arr ⟨114,some ⟨1,116,2,0,none⟩⟩ 2 0 false xs1]⟩
def c105 (k:Nat) (p p1:Int) (p2 p3 preds:List PV):R:=evF P E T k 105 [.s (.c (.p (PV.agg [.int .i64 p,.int .i64 p1,.row 2 0 p2,.row 2 0 p3]))),.s (.c (.p (PV.row 0 0 preds)))] []
def r105 (l:List PV) (b:Bool):R:=some ([.agg [.own 3 0 l],.c (.p (PV.bool b))],[])
def R105 (x0:R) (K0:List PV->Bool->R):R:=x0.bind fun q0=>bif lensB q0.2 [] && lensS q0.1 [.agg [.own 3 0],.c (.p (.bool))] then (asOwn 3 0 (Dp.partAt q0.1 0 0)).bind fun l=>(cBool (resAt q0.1 1)).bind fun b=>K0 l b else none
@[simp] theorem R105_r (l:List PV) (b:Bool) (K0:List PV->Bool->R):R105 (r105 l b) K0 = K0 l b:=by kernel_rfl
def c106 (k:Nat) (p p1:Int) (p2 p3:List PV) (most:Int) (l:List PV) (n1 n11:Int):R:=evF P E T k 106 [.s (.c (.bptr 0 0)),.s (.c (.p (PV.agg [.int .i64 p,.int .i64 p1,.row 2 0 p2,.row 2 0 p3]))),.s (.c (.p (PV.int .i64 most)))] [[.p (PV.row 0 0 l),.p (PV.int .i64 n1),.p (PV.int .u64 n11)]]
def r106 (l:List PV) (qr qr1:Int) (l1:List PV):R:=some ([.c (.p (PV.row 0 0 l1))],[[.p (PV.row 0 0 l),.p (PV.int .i64 qr),.p (PV.int .u64 qr1)]])
def R106 (x0:R) (K0:List PV->Int->Int->List PV->R):R:=x0.bind fun q0=>bif lensB q0.2 [[.p (.row 0),.p (.int .i64),.p (.int .u64)]] && lensS q0.1 [.c (.p (.row 0))] then (cRow (cellAt q0.2 0 0) 0).bind fun l=>(cInt (cellAt q0.2 0 1) .i64).bind fun qr=>(cInt (cellAt q0.2 0 2) .u64).bind fun qr1=>(cRow (resAt q0.1 0) 0).bind fun l1=>K0 l qr qr1 l1 else none
@[simp] theorem R106_r (l:List PV) (qr qr1:Int) (l1:List PV) (K0:List PV->Int->Int->List PV->R):R106 (r106 l qr qr1 l1) K0 = K0 l qr qr1 l1:=by kernel_rfl
def L106_1 (k n:Nat) (lLen:Nat) (n1:Int) (l:List PV) (n11 n12 n13 n14:Int) (l1 l2 xs:List PV):R:=evLoopAt P E T k 106 106 [3] [1,1,0,1,0] [] n ⟨mkT 31 [(0,.s (.c (.bptr 0 0))),(4,.s (.c (.bptr 1 0))),(7,.s (.c (.loc 2 0 0 0 lLen))),(8,.s (.c (.p (PV.int .i64 n1))))],[.box [.p (PV.row 0 0 l),.p (PV.int .i64 n11),.p (PV.int .u64 n12)],.box [.p (PV.int .i64 n13),.p (PV.int .i64 n14),.p (PV.row 2 0 l1),.p (PV.row 2 0 l2)],.arr 24 0 0 false xs]⟩
def c107 (k:Nat) (p p1:Int) (p2 p3 v some1:List PV):R:=evF P E T k 107 [.s (.c (.p (PV.agg [.int .i64 p,.int .i64 p1,.row 2 0 p2,.row 2 0 p3]))),.s (.c (.p (PV.agg [.row 0 0 v]))),.s (.c (.p (PV.row 0 0 some1)))] []
def r107 (l:List PV) (b:Bool):R:=some ([.agg [.own 3 0 l],.c (.p (PV.bool b))],[])
def R107p (x0:R) (K0:List PV->Bool->R):R:=x0.bind fun q0=>bif q0.1.all plainS && q0.2.all (fun cs=>cs.all plainC) then (bif lensB q0.2 [] && lensS q0.1 [.agg [.own 3 0],.c (.p (.bool))] then (asOwn 3 0 (Dp.partAt q0.1 0 0)).bind fun l=>(cBool (resAt q0.1 1)).bind fun b=>K0 l b else none) else none
def c108 (k:Nat) (n1 most:Int) (l:List PV) (n11 n12:Int):R:=evF P E T k 108 [.s (.c (.bptr 0 0)),.s (.c (.p (PV.int .i64 n1))),.s (.c (.p (PV.int .i64 most)))] [[.p (PV.row 0 0 l),.p (PV.int .i64 n11),.p (PV.int .u64 n12)]]
def r108 (l:List PV) (qr qr1:Int) (l1:List PV):R:=some ([.c (.p (PV.row 0 0 l1))],[[.p (PV.row 0 0 l),.p (PV.int .i64 qr),.p (PV.int .u64 qr1)]])
def R108 (x0:R) (K0:List PV->Int->Int->List PV->R):R:=x0.bind fun q0=>bif lensB q0.2 [[.p (.row 0),.p (.int .i64),.p (.int .u64)]] && lensS q0.1 [.c (.p (.row 0))] then (cRow (cellAt q0.2 0 0) 0).bind fun l=>(cInt (cellAt q0.2 0 1) .i64).bind fun qr=>(cInt (cellAt q0.2 0 2) .u64).bind fun qr1=>(cRow (resAt q0.1 0) 0).bind fun l1=>K0 l qr qr1 l1 else none
@[simp] theorem R108_r (l:List PV) (qr qr1:Int) (l1:List PV) (K0:List PV->Int->Int->List PV->R):R108 (r108 l qr qr1 l1) K0 = K0 l qr qr1 l1:=by kernel_rfl
def L108_1 (k n:Nat) (n1:Int) (lLen:Nat) (k1:Int) (l:List PV) (n11 n12:Int) (xs:List PV):R:=evLoopAt P E T k 108 108 [3] [1,1,0,1,0] [] n ⟨mkT 29 [(0,.s (.c (.bptr 0 0))),(1,.s (.c (.p (PV.int .i64 n1)))),(7,.s (.c (.loc 1 0 0 0 lLen))),(8,.s (.c (.p (PV.int .i64 k1))))],[.box [.p (PV.row 0 0 l),.p (PV.int .i64 n11),.p (PV.int .u64 n12)],.arr 3 0 0 false xs]⟩
def c111 (k:Nat) (p p1:Int) (p2 p3:List PV) (no:Int):R:=evF P E T k 111 [.s (.c (.p (PV.agg [.int .i64 p,.int .i64 p1,.row 2 0 p2,.row 2 0 p3]))),.s (.c (.p (PV.int .i64 no)))] []
def r111 (l:List PV):R:=some ([.c (.p (PV.row 0 0 l))],[])
def R111 (x0:R) (K0:List PV->R):R:=x0.bind fun q0=>bif lensB q0.2 [] && lensS q0.1 [.c (.p (.row 0))] then (cRow (resAt q0.1 0) 0).bind fun l=>K0 l else none
@[simp] theorem R111_r (l:List PV) (K0:List PV->R):R111 (r111 l) K0 = K0 l:=by kernel_rfl
def L111_1 (k n:Nat) (no:Int) (qs:List PV) (outLen:Nat) (t14:List PV) (t15 t16 n1 n11:Int) (l l1 xs:List PV):R:=evLoopAt P E T k 111 111 [] [1,1,1,0,1,0] [] n ⟨mkT 35 [(1,.s (.c (.p (PV.int .i64 no)))),(2,.s (.c (.bptr 0 0))),(5,.s (.c (.p (PV.row 0 0 qs)))),(6,.s (.c (.loc 1 0 0 0 outLen))),(14,.s (.c (.p (PV.row 0 0 t14)))),(15,.s (.c (.p (PV.int .i64 t15)))),(16,.s (.c (.p (PV.int .i64 t16))))],[.box [.p (PV.int .i64 n1),.p (PV.int .i64 n11),.p (PV.row 2 0 l),.p (PV.row 2 0 l1)],.arr 3 0 0 false xs]⟩
def c113 (k:Nat) (v:List PV) (states:Int):R:=evF P E T k 113 [.s (.c (.p (PV.agg [.row 0 0 v]))),.s (.c (.p (PV.int .i64 states)))] []
def r113 (b:Bool):R:=some ([.c (.p (PV.bool b))],[])
def R113 (x0:R) (K0:Bool->R):R:=x0.bind fun q0=>bif lensB q0.2 [] && lensS q0.1 [.c (.p (.bool))] then (cBool (resAt q0.1 0)).bind fun b=>K0 b else none
@[simp] theorem R113_r (b:Bool) (K0:Bool->R):R113 (r113 b) K0 = K0 b:=by kernel_rfl
def L113_1 (k n:Nat) (states classes:Int) (t9:List PV) (t10 t11:Int) (l:List PV):R:=evLoopAt P E T k 113 113 [] [1,1,0,1,0] [] n ⟨mkT 33 [(1,.s (.c (.p (PV.int .i64 states)))),(2,.s (.c (.bptr 0 0))),(5,.s (.c (.p (PV.int .i64 classes)))),(9,.s (.c (.p (PV.row 0 0 t9)))),(10,.s (.c (.p (PV.int .i64 t10)))),(11,.s (.c (.p (PV.int .i64 t11))))],[.box [.p (PV.row 0 0 l)]]⟩
def c114 (k:Nat) (p p1:Int) (p2 p3:List PV):R:=evF P E T k 114 [.s (.c (.p (PV.agg [.int .i64 p,.int .i64 p1,.row 2 0 p2,.row 2 0 p3])))] []
def r114 (b:Bool):R:=some ([.c (.p (PV.bool b))],[])
def R114 (x0:R) (K0:Bool->R):R:=x0.bind fun q0=>bif lensB q0.2 [] && lensS q0.1 [.c (.p (.bool))] then (cBool (resAt q0.1 0)).bind fun b=>K0 b else none
@[simp] theorem R114_r (b:Bool) (K0:Bool->R):R114 (r114 b) K0 = K0 b:=by kernel_rfl
def c115 (k:Nat) (p p1:Int) (p2 p3:List PV):R:=evF P E T k 115 [.s (.c (.p (PV.agg [.int .i64 p,.int .i64 p1,.row 2 0 p2,.row 2 0 p3])))] []
def r115 (qr:Int):R:=some ([.c (.p (PV.int .i64 qr))],[])
def R115 (x0:R) (K0:Int->R):R:=x0.bind fun q0=>bif lensB q0.2 [] && lensS q0.1 [.c (.p (.int .i64))] then (cInt (resAt q0.1 0) .i64).bind fun qr=>K0 qr else none
@[simp] theorem R115_r (qr:Int) (K0:Int->R):R115 (r115 qr) K0 = K0 qr:=by kernel_rfl
def c116 (k:Nat) (v:List PV):R:=evF P E T k 116 [.s (.c (.p (PV.agg [.row 0 0 v])))] []
def r116 (qr:Int):R:=some ([.c (.p (PV.int .i64 qr))],[])
def R116 (x0:R) (K0:Int->R):R:=x0.bind fun q0=>bif lensB q0.2 [] && lensS q0.1 [.c (.p (.int .i64))] then (cInt (resAt q0.1 0) .i64).bind fun qr=>K0 qr else none
@[simp] theorem R116_r (qr:Int) (K0:Int->R):R116 (r116 qr) K0 = K0 qr:=by kernel_rfl
def c117 (k:Nat) (v:List PV):R:=evF P E T k 117 [.s (.c (.p (PV.agg [.row 0 0 v])))] []
def r117 (qr:Int):R:=some ([.c (.p (PV.int .i64 qr))],[])
def R117 (x0:R) (K0:Int->R):R:=x0.bind fun q0=>bif lensB q0.2 [] && lensS q0.1 [.c (.p (.int .i64))] then (cInt (resAt q0.1 0) .i64).bind fun qr=>K0 qr else none
@[simp] theorem R117_r (qr:Int) (K0:Int->R):R117 (r117 qr) K0 = K0 qr:=by kernel_rfl
def L117_1 (k n:Nat) (many:Int) (t7:List PV) (t8 t9:Int):R:=evLoopAt P E T k 117 117 [] [1,1,0,1,0] [] n ⟨mkT 20 [(3,.s (.c (.p (PV.int .i64 many)))),(7,.s (.c (.p (PV.row 0 0 t7)))),(8,.s (.c (.p (PV.int .i64 t8)))),(9,.s (.c (.p (PV.int .i64 t9))))],[]⟩
def c118 (k:Nat) (list:List PV):R:=evF P E T k 118 [.s (.c (.p (PV.row 0 0 list)))] []
def r118 (l:List PV):R:=some ([.c (.own 3 0 l)],[])
def R118p (x0:R) (K0:List PV->R):R:=x0.bind fun q0=>bif q0.1.all plainS && q0.2.all (fun cs=>cs.all plainC) then (bif lensB q0.2 [] && lensS q0.1 [.c (.own 3 0)] then (asOwn 3 0 (resAt q0.1 0)).bind fun l=>K0 l else none) else none
def L118_1 (k n:Nat) (outLen:Nat) (t7:List PV) (t8 t9:Int) (xs:List PV):R:=evLoopAt P E T k 118 118 [] [1,1,0,1,0] [] n ⟨mkT 21 [(3,.s (.c (.loc 0 0 0 0 outLen))),(7,.s (.c (.p (PV.row 0 0 t7)))),(8,.s (.c (.p (PV.int .i64 t8)))),(9,.s (.c (.p (PV.int .i64 t9))))],[.arr 3 0 0 false xs]⟩
def c119 (k:Nat) (l:List PV) (n1:Int):R:=evF P E T k 119 [.s (.c (.own 3 0 l)),.s (.c (.p (PV.int .i64 n1)))] []
def r119 (l:List PV):R:=some ([.c (.own 3 0 l)],[])
def R119 (x0:R) (K0:List PV->R):R:=x0.bind fun q0=>bif lensB q0.2 [] && lensS q0.1 [.c (.own 3 0)] then (asOwn 3 0 (resAt q0.1 0)).bind fun l=>K0 l else none
@[simp] theorem R119_r (l:List PV) (K0:List PV->R):R119 (r119 l) K0 = K0 l:=by kernel_rfl
def L119_1 (k n:Nat) (lLen:Nat) (n1 k1:Int) (xs:List PV):R:=evLoopAt P E T k 119 119 [] [1,1,0,0] [] n ⟨mkT 48 [(0,.s (.c (.loc 0 0 0 0 lLen))),(1,.s (.c (.p (PV.int .i64 n1)))),(5,.s (.c (.p (PV.int .i64 k1))))],[.arr 3 0 0 false xs]⟩
def c120 (k:Nat) (p p1:Int) (p2 p3 t qs:List PV):R:=evF P E T k 120 [.s (.c (.p (PV.agg [.int .i64 p,.int .i64 p1,.row 2 0 p2,.row 2 0 p3]))),.s (.c (.p (PV.row 2 0 t))),.s (.c (.p (PV.row 0 0 qs)))] []
def r120 (b:Bool):R:=some ([.c (.p (PV.bool b))],[])
def R120 (x0:R) (K0:Bool->R):R:=x0.bind fun q0=>bif lensB q0.2 [] && lensS q0.1 [.c (.p (.bool))] then (cBool (resAt q0.1 0)).bind fun b=>K0 b else none
@[simp] theorem R120_r (b:Bool) (K0:Bool->R):R120 (r120 b) K0 = K0 b:=by kernel_rfl
def c121 (k:Nat) (p p1:Int) (p2 p3:List PV) (no:Int):R:=evF P E T k 121 [.s (.c (.p (PV.agg [.int .i64 p,.int .i64 p1,.row 2 0 p2,.row 2 0 p3]))),.s (.c (.p (PV.int .i64 no)))] []
def r121 (l:List PV):R:=some ([.c (.p (PV.row 0 0 l))],[])
def R121 (x0:R) (K0:List PV->R):R:=x0.bind fun q0=>bif lensB q0.2 [] && lensS q0.1 [.c (.p (.row 0))] then (cRow (resAt q0.1 0) 0).bind fun l=>K0 l else none
@[simp] theorem R121_r (l:List PV) (K0:List PV->R):R121 (r121 l) K0 = K0 l:=by kernel_rfl
def L121_1 (k n:Nat) (no:Int) (outLen:Nat) (v n1 n11:Int) (l l1 xs:List PV):R:=evLoopAt P E T k 121 121 [] [1,1,0,1,0] [] n ⟨mkT 31 [(1,.s (.c (.p (PV.int .i64 no)))),(2,.s (.c (.bptr 0 0))),(5,.s (.c (.loc 1 0 0 0 outLen))),(6,.s (.c (.p (PV.int .i64 v))))],[.box [.p (PV.int .i64 n1),.p (PV.int .i64 n11),.p (PV.row 2 0 l),.p (PV.row 2 0 l1)],.arr 64 0 0 false xs]⟩
def c124f63 (k:Nat) (qs:List PV) (n1 n11:Int) (l l1:List PV):R:=evF P E T k 124 [.s (.c (.p (PV.row 0 0 qs))),.s (.c (.cfn 63 [PV.agg [.int .i64 n1,.int .i64 n11,.row 2 0 l,.row 2 0 l1]]))] []
def r124f63 (qr:Int):R:=some ([.c (.p (PV.int .i64 qr))],[])
def R124f63p (x0:R) (K0:Int->R):R:=x0.bind fun q0=>bif q0.1.all plainS && q0.2.all (fun cs=>cs.all plainC) then (bif lensB q0.2 [] && lensS q0.1 [.c (.p (.int .i64))] then (cInt (resAt q0.1 0) .i64).bind fun qr=>K0 qr else none) else none
@[simp] theorem R124f63p_r (qr:Int) (K0:Int->R):R124f63p (r124f63 qr) K0 = K0 qr:=by kernel_rfl
def L124f63_1 (k n:Nat) (qs:List PV) (n1 n11:Int) (l l1:List PV) (t7 t8:Int):R:=evLoopAt P E T k 124 64124 [] [1,0,1,0] [] n ⟨mkT 19 [(0,.s (.c (.p (PV.row 0 0 qs)))),(1,.s (.c (.cfn 63 [PV.agg [.int .i64 n1,.int .i64 n11,.row 2 0 l,.row 2 0 l1]]))),(7,.s (.c (.p (PV.int .i64 t7)))),(8,.s (.c (.p (PV.int .i64 t8))))],[]⟩
def c124f152 (k:Nat) (qs:List PV) (n1:Int):R:=evF P E T k 124 [.s (.c (.p (PV.row 0 0 qs))),.s (.c (.cfn 152 [PV.agg [.int .i64 n1]]))] []
def r124f152 (qr:Int):R:=some ([.c (.p (PV.int .i64 qr))],[])
def R124f152p (x0:R) (K0:Int->R):R:=x0.bind fun q0=>bif q0.1.all plainS && q0.2.all (fun cs=>cs.all plainC) then (bif lensB q0.2 [] && lensS q0.1 [.c (.p (.int .i64))] then (cInt (resAt q0.1 0) .i64).bind fun qr=>K0 qr else none) else none
@[simp] theorem R124f152p_r (qr:Int) (K0:Int->R):R124f152p (r124f152 qr) K0 = K0 qr:=by kernel_rfl
def L124f152_1 (k n:Nat) (qs:List PV) (n1 t7 t8:Int):R:=evLoopAt P E T k 124 153124 [] [1,0,1,0] [] n ⟨mkT 19 [(0,.s (.c (.p (PV.row 0 0 qs)))),(1,.s (.c (.cfn 152 [PV.agg [.int .i64 n1]]))),(7,.s (.c (.p (PV.int .i64 t7)))),(8,.s (.c (.p (PV.int .i64 t8))))],[]⟩
def c124f161 (k:Nat) (qs:List PV) (n1 n11:Int) (l l1 l2:List PV) (n12:Int):R:=evF P E T k 124 [.s (.c (.p (PV.row 0 0 qs))),.s (.c (.cfn 161 [PV.agg [.int .i64 n1,.int .i64 n11,.row 2 0 l,.row 2 0 l1],PV.agg [.row 0 0 l2],PV.agg [.int .i64 n12]]))] []
def r124f161 (qr:Int):R:=some ([.c (.p (PV.int .i64 qr))],[])
def R124f161p (x0:R) (K0:Int->R):R:=x0.bind fun q0=>bif q0.1.all plainS && q0.2.all (fun cs=>cs.all plainC) then (bif lensB q0.2 [] && lensS q0.1 [.c (.p (.int .i64))] then (cInt (resAt q0.1 0) .i64).bind fun qr=>K0 qr else none) else none
@[simp] theorem R124f161p_r (qr:Int) (K0:Int->R):R124f161p (r124f161 qr) K0 = K0 qr:=by kernel_rfl
def L124f161_1 (k n:Nat) (qs:List PV) (n1 n11:Int) (l l1 l2:List PV) (n12 t7 t8:Int):R:=evLoopAt P E T k 124 162124 [] [1,0,1,0] [] n ⟨mkT 19 [(0,.s (.c (.p (PV.row 0 0 qs)))),(1,.s (.c (.cfn 161 [PV.agg [.int .i64 n1,.int .i64 n11,.row 2 0 l,.row 2 0 l1],PV.agg [.row 0 0 l2],PV.agg [.int .i64 n12]]))),(7,.s (.c (.p (PV.int .i64 t7)))),(8,.s (.c (.p (PV.int .i64 t8))))],[]⟩
def c124f153 (k:Nat) (qs l l1:List PV) (n1:Int):R:=evF P E T k 124 [.s (.c (.p (PV.row 0 0 qs))),.s (.c (.cfn 153 [PV.agg [.row 0 0 l],PV.agg [.row 0 0 l1],PV.agg [.int .i64 n1]]))] []
def r124f153 (qr:Int):R:=some ([.c (.p (PV.int .i64 qr))],[])
def R124f153p (x0:R) (K0:Int->R):R:=x0.bind fun q0=>bif q0.1.all plainS && q0.2.all (fun cs=>cs.all plainC) then (bif lensB q0.2 [] && lensS q0.1 [.c (.p (.int .i64))] then (cInt (resAt q0.1 0) .i64).bind fun qr=>K0 qr else none) else none
@[simp] theorem R124f153p_r (qr:Int) (K0:Int->R):R124f153p (r124f153 qr) K0 = K0 qr:=by kernel_rfl
def L124f153_1 (k n:Nat) (qs l l1:List PV) (n1 t7 t8:Int):R:=evLoopAt P E T k 124 154124 [] [1,0,1,0] [] n ⟨mkT 19 [(0,.s (.c (.p (PV.row 0 0 qs)))),(1,.s (.c (.cfn 153 [PV.agg [.row 0 0 l],PV.agg [.row 0 0 l1],PV.agg [.int .i64 n1]]))),(7,.s (.c (.p (PV.int .i64 t7)))),(8,.s (.c (.p (PV.int .i64 t8))))],[]⟩
def c124f159 (k:Nat) (qs l:List PV) (n1:Int):R:=evF P E T k 124 [.s (.c (.p (PV.row 0 0 qs))),.s (.c (.cfn 159 [PV.agg [.row 0 0 l],PV.agg [.int .i64 n1]]))] []
def r124f159 (qr:Int):R:=some ([.c (.p (PV.int .i64 qr))],[])
def R124f159p (x0:R) (K0:Int->R):R:=x0.bind fun q0=>bif q0.1.all plainS && q0.2.all (fun cs=>cs.all plainC) then (bif lensB q0.2 [] && lensS q0.1 [.c (.p (.int .i64))] then (cInt (resAt q0.1 0) .i64).bind fun qr=>K0 qr else none) else none
@[simp] theorem R124f159p_r (qr:Int) (K0:Int->R):R124f159p (r124f159 qr) K0 = K0 qr:=by kernel_rfl
def L124f159_1 (k n:Nat) (qs l:List PV) (n1 t7 t8:Int):R:=evLoopAt P E T k 124 160124 [] [1,0,1,0] [] n ⟨mkT 19 [(0,.s (.c (.p (PV.row 0 0 qs)))),(1,.s (.c (.cfn 159 [PV.agg [.row 0 0 l],PV.agg [.int .i64 n1]]))),(7,.s (.c (.p (PV.int .i64 t7)))),(8,.s (.c (.p (PV.int .i64 t8))))],[]⟩
def c124f155 (k:Nat) (qs l l1:List PV) (n1:Int):R:=evF P E T k 124 [.s (.c (.p (PV.row 0 0 qs))),.s (.c (.cfn 155 [PV.agg [.row 0 0 l],PV.agg [.row 0 0 l1],PV.agg [.int .i64 n1]]))] []
def r124f155 (qr:Int):R:=some ([.c (.p (PV.int .i64 qr))],[])
def R124f155p (x0:R) (K0:Int->R):R:=x0.bind fun q0=>bif q0.1.all plainS && q0.2.all (fun cs=>cs.all plainC) then (bif lensB q0.2 [] && lensS q0.1 [.c (.p (.int .i64))] then (cInt (resAt q0.1 0) .i64).bind fun qr=>K0 qr else none) else none
@[simp] theorem R124f155p_r (qr:Int) (K0:Int->R):R124f155p (r124f155 qr) K0 = K0 qr:=by kernel_rfl
def L124f155_1 (k n:Nat) (qs l l1:List PV) (n1 t7 t8:Int):R:=evLoopAt P E T k 124 156124 [] [1,0,1,0] [] n ⟨mkT 19 [(0,.s (.c (.p (PV.row 0 0 qs)))),(1,.s (.c (.cfn 155 [PV.agg [.row 0 0 l],PV.agg [.row 0 0 l1],PV.agg [.int .i64 n1]]))),(7,.s (.c (.p (PV.int .i64 t7)))),(8,.s (.c (.p (PV.int .i64 t8))))],[]⟩
def c124f162 (k:Nat) (qs l:List PV) (n1:Int):R:=evF P E T k 124 [.s (.c (.p (PV.row 0 0 qs))),.s (.c (.cfn 162 [PV.agg [.row 0 0 l],PV.agg [.int .i64 n1]]))] []
def r124f162 (qr:Int):R:=some ([.c (.p (PV.int .i64 qr))],[])
def R124f162p (x0:R) (K0:Int->R):R:=x0.bind fun q0=>bif q0.1.all plainS && q0.2.all (fun cs=>cs.all plainC) then (bif lensB q0.2 [] && lensS q0.1 [.c (.p (.int .i64))] then (cInt (resAt q0.1 0) .i64).bind fun qr=>K0 qr else none) else none
@[simp] theorem R124f162p_r (qr:Int) (K0:Int->R):R124f162p (r124f162 qr) K0 = K0 qr:=by kernel_rfl
def L124f162_1 (k n:Nat) (qs l:List PV) (n1 t7 t8:Int):R:=evLoopAt P E T k 124 163124 [] [1,0,1,0] [] n ⟨mkT 19 [(0,.s (.c (.p (PV.row 0 0 qs)))),(1,.s (.c (.cfn 162 [PV.agg [.row 0 0 l],PV.agg [.int .i64 n1]]))),(7,.s (.c (.p (PV.int .i64 t7)))),(8,.s (.c (.p (PV.int .i64 t8))))],[]⟩
def c124f154 (k:Nat) (qs l:List PV) (n1:Int):R:=evF P E T k 124 [.s (.c (.p (PV.row 0 0 qs))),.s (.c (.cfn 154 [PV.agg [.row 0 0 l],PV.agg [.int .i64 n1]]))] []
def r124f154 (qr:Int):R:=some ([.c (.p (PV.int .i64 qr))],[])
def R124f154p (x0:R) (K0:Int->R):R:=x0.bind fun q0=>bif q0.1.all plainS && q0.2.all (fun cs=>cs.all plainC) then (bif lensB q0.2 [] && lensS q0.1 [.c (.p (.int .i64))] then (cInt (resAt q0.1 0) .i64).bind fun qr=>K0 qr else none) else none
@[simp] theorem R124f154p_r (qr:Int) (K0:Int->R):R124f154p (r124f154 qr) K0 = K0 qr:=by kernel_rfl
def L124f154_1 (k n:Nat) (qs l:List PV) (n1 t7 t8:Int):R:=evLoopAt P E T k 124 155124 [] [1,0,1,0] [] n ⟨mkT 19 [(0,.s (.c (.p (PV.row 0 0 qs)))),(1,.s (.c (.cfn 154 [PV.agg [.row 0 0 l],PV.agg [.int .i64 n1]]))),(7,.s (.c (.p (PV.int .i64 t7)))),(8,.s (.c (.p (PV.int .i64 t8))))],[]⟩
def c124f143 (k:Nat) (qs:List PV) (n1:Int):R:=evF P E T k 124 [.s (.c (.p (PV.row 0 0 qs))),.s (.c (.fn 143 [0]))] [[.p (PV.int .i64 n1)]]
def r124f143 (qr qr1:Int):R:=some ([.c (.p (PV.int .i64 qr1))],[[.p (PV.int .i64 qr)]])
def R124f143 (x0:R) (K0:Int->Int->R):R:=x0.bind fun q0=>bif lensB q0.2 [[.p (.int .i64)]] && lensS q0.1 [.c (.p (.int .i64))] then (cInt (cellAt q0.2 0 0) .i64).bind fun qr=>(cInt (resAt q0.1 0) .i64).bind fun qr1=>K0 qr qr1 else none
@[simp] theorem R124f143_r (qr qr1:Int) (K0:Int->Int->R):R124f143 (r124f143 qr qr1) K0 = K0 qr qr1:=by kernel_rfl
def L124f143_1 (k n:Nat) (qs:List PV) (t7 t8 n1:Int):R:=evLoopAt P E T k 124 144124 [1] [1,0,1,0] [] n ⟨mkT 19 [(0,.s (.c (.p (PV.row 0 0 qs)))),(1,.s (.c (.fn 143 [0]))),(7,.s (.c (.p (PV.int .i64 t7)))),(8,.s (.c (.p (PV.int .i64 t8))))],[.box [.p (PV.int .i64 n1)]]⟩
def c125 (k:Nat) (qs:List PV) (v:Int):R:=evF P E T k 125 [.s (.c (.p (PV.row 0 0 qs))),.s (.c (.p (PV.int .i64 v)))] []
def r125 (qr:Int):R:=some ([.c (.p (PV.int .i64 qr))],[])
def R125 (x0:R) (K0:Int->R):R:=x0.bind fun q0=>bif lensB q0.2 [] && lensS q0.1 [.c (.p (.int .i64))] then (cInt (resAt q0.1 0) .i64).bind fun qr=>K0 qr else none
@[simp] theorem R125_r (qr:Int) (K0:Int->R):R125 (r125 qr) K0 = K0 qr:=by kernel_rfl
def L125_1 (k n:Nat) (qs:List PV) (v t7 t8:Int):R:=evLoopAt P E T k 125 125 [] [1,0,1,0] [] n ⟨mkT 19 [(0,.s (.c (.p (PV.row 0 0 qs)))),(1,.s (.c (.p (PV.int .i64 v)))),(7,.s (.c (.p (PV.int .i64 t7)))),(8,.s (.c (.p (PV.int .i64 t8))))],[]⟩
def c126 (k:Nat) (p p1:Int) (p2 p3 qs:List PV):R:=evF P E T k 126 [.s (.c (.p (PV.agg [.int .i64 p,.int .i64 p1,.row 2 0 p2,.row 2 0 p3]))),.s (.c (.p (PV.row 0 0 qs)))] []
def r126 (qr:Int):R:=some ([.c (.p (PV.int .i64 qr))],[])
def R126 (x0:R) (K0:Int->R):R:=x0.bind fun q0=>bif lensB q0.2 [] && lensS q0.1 [.c (.p (.int .i64))] then (cInt (resAt q0.1 0) .i64).bind fun qr=>K0 qr else none
@[simp] theorem R126_r (qr:Int) (K0:Int->R):R126 (r126 qr) K0 = K0 qr:=by kernel_rfl
def L126_1 (k n:Nat) (no:Int) (t8:List PV) (t9 t10 n1 n11:Int) (l l1:List PV):R:=evLoopAt P E T k 126 126 [] [1,1,0,1,0] [] n ⟨mkT 26 [(2,.s (.c (.bptr 0 0))),(5,.s (.c (.p (PV.int .i64 no)))),(8,.s (.c (.p (PV.row 0 0 t8)))),(9,.s (.c (.p (PV.int .i64 t9)))),(10,.s (.c (.p (PV.int .i64 t10))))],[.box [.p (PV.int .i64 n1),.p (PV.int .i64 n11),.p (PV.row 2 0 l),.p (PV.row 2 0 l1)]]⟩
def c127 (k:Nat) (p p1:Int) (p2 p3 qc qc1 qs:List PV):R:=evF P E T k 127 [.s (.c (.p (PV.agg [.int .i64 p,.int .i64 p1,.row 2 0 p2,.row 2 0 p3]))),.s (.c (.p (PV.agg [.row 2 0 qc,.row 2 0 qc1]))),.s (.c (.p (PV.row 0 0 qs)))] []
def r127 (l:List PV):R:=some ([.c (.p (PV.row 0 0 l))],[])
def R127 (x0:R) (K0:List PV->R):R:=x0.bind fun q0=>bif lensB q0.2 [] && lensS q0.1 [.c (.p (.row 0))] then (cRow (resAt q0.1 0) 0).bind fun l=>K0 l else none
@[simp] theorem R127_r (l:List PV) (K0:List PV->R):R127 (r127 l) K0 = K0 l:=by kernel_rfl
def L127_1 (k n:Nat) (qs:List PV) (outLen:Nat) (t13:List PV) (t14 t15 n1 n11:Int) (l l1 xs:List PV):R:=evLoopAt P E T k 127 127 [] [1,1,0,1,0] [] n ⟨mkT 31 [(2,.s (.c (.p (PV.row 0 0 qs)))),(3,.s (.c (.bptr 0 0))),(7,.s (.c (.loc 1 0 0 0 outLen))),(13,.s (.c (.p (PV.row 2 0 t13)))),(14,.s (.c (.p (PV.int .i64 t14)))),(15,.s (.c (.p (PV.int .i64 t15))))],[.box [.p (PV.int .i64 n1),.p (PV.int .i64 n11),.p (PV.row 2 0 l),.p (PV.row 2 0 l1)],.arr 64 0 0 false xs]⟩
def c130 (k:Nat) (wide:Int) (t state:List PV):R:=evF P E T k 130 [.s (.c (.p (PV.int .i64 wide))),.s (.c (.p (PV.row 2 0 t))),.s (.c (.p (PV.row 0 0 state)))] []
def r130 (qr:Int):R:=some ([.c (.p (PV.int .u64 qr))],[])
def R130 (x0:R) (K0:Int->R):R:=x0.bind fun q0=>bif lensB q0.2 [] && lensS q0.1 [.c (.p (.int .u64))] then (cInt (resAt q0.1 0) .u64).bind fun qr=>K0 qr else none
@[simp] theorem R130_r (qr:Int) (K0:Int->R):R130 (r130 qr) K0 = K0 qr:=by kernel_rfl
def L130_1 (k n:Nat) (wide:Int) (state:List PV) (stackLen:Nat) (t12:List PV) (t13 t14:Int) (xs:List PV):R:=evLoopAt P E T k 130 130 [] [1,1,0,1,0] [] n ⟨mkT 87 [(0,.s (.c (.p (PV.int .i64 wide)))),(2,.s (.c (.p (PV.row 0 0 state)))),(7,.s (.c (.loc 0 0 0 0 stackLen))),(12,.s (.c (.p (PV.row 2 0 t12)))),(13,.s (.c (.p (PV.int .i64 t13)))),(14,.s (.c (.p (PV.int .i64 t14))))],[.arr 64 0 0 false xs]⟩
def c131 (k:Nat) (wide:Int):R:=evF P E T k 131 [.s (.c (.p (PV.int .i64 wide)))] []
def r131 (qr:Int):R:=some ([.c (.p (PV.int .u64 qr))],[])
def R131 (x0:R) (K0:Int->R):R:=x0.bind fun q0=>bif lensB q0.2 [] && lensS q0.1 [.c (.p (.int .u64))] then (cInt (resAt q0.1 0) .u64).bind fun qr=>K0 qr else none
@[simp] theorem R131_r (qr:Int) (K0:Int->R):R131 (r131 qr) K0 = K0 qr:=by kernel_rfl
def c132 (k:Nat) (p p1:Int) (p2 p3:List PV):R:=evF P E T k 132 [.s (.c (.p (PV.agg [.int .i64 p,.int .i64 p1,.row 2 0 p2,.row 2 0 p3])))] []
def r132 (b:Bool):R:=some ([.c (.p (PV.bool b))],[])
def R132 (x0:R) (K0:Bool->R):R:=x0.bind fun q0=>bif lensB q0.2 [] && lensS q0.1 [.c (.p (.bool))] then (cBool (resAt q0.1 0)).bind fun b=>K0 b else none
@[simp] theorem R132_r (b:Bool) (K0:Bool->R):R132 (r132 b) K0 = K0 b:=by kernel_rfl
def c133 (k:Nat) (p p1:Int) (p2 p3:List PV):R:=evF P E T k 133 [.s (.c (.p (PV.agg [.int .i64 p,.int .i64 p1,.row 2 0 p2,.row 2 0 p3])))] []
def r133 (l:List PV):R:=some ([.c (.p (PV.row 0 0 l))],[])
def R133 (x0:R) (K0:List PV->R):R:=x0.bind fun q0=>bif lensB q0.2 [] && lensS q0.1 [.c (.p (.row 0))] then (cRow (resAt q0.1 0) 0).bind fun l=>K0 l else none
@[simp] theorem R133_r (l:List PV) (K0:List PV->R):R133 (r133 l) K0 = K0 l:=by kernel_rfl
def L133_1 (k n:Nat) (outLen:Nat) (t7 t8 n1 n11:Int) (l l1 xs:List PV):R:=evLoopAt P E T k 133 133 [] [1,1,0,1,0] [] n ⟨mkT 19 [(1,.s (.c (.bptr 0 0))),(3,.s (.c (.loc 1 0 0 0 outLen))),(7,.s (.c (.p (PV.int .i64 t7)))),(8,.s (.c (.p (PV.int .i64 t8))))],[.box [.p (PV.int .i64 n1),.p (PV.int .i64 n11),.p (PV.row 2 0 l),.p (PV.row 2 0 l1)],.arr 28 0 0 false xs]⟩
def c134 (k:Nat) (wide vars deep:Int) (l:List PV) (n1 n11:Int):R:=evF P E T k 134 [.s (.c (.bptr 0 0)),.s (.c (.p (PV.int .i64 wide))),.s (.c (.p (PV.int .i64 vars))),.s (.c (.p (PV.int .i64 deep)))] [[.p (PV.row 0 0 l),.p (PV.int .i64 n1),.p (PV.int .u64 n11)]]
def r134 (l:List PV) (qr qr1:Int) (l1:List PV):R:=some ([.c (.own 96 2 l1)],[[.p (PV.row 0 0 l),.p (PV.int .i64 qr),.p (PV.int .u64 qr1)]])
def R134 (x0:R) (K0:List PV->Int->Int->List PV->R):R:=x0.bind fun q0=>bif lensB q0.2 [[.p (.row 0),.p (.int .i64),.p (.int .u64)]] && lensS q0.1 [.c (.own 96 2)] then (cRow (cellAt q0.2 0 0) 0).bind fun l=>(cInt (cellAt q0.2 0 1) .i64).bind fun qr=>(cInt (cellAt q0.2 0 2) .u64).bind fun qr1=>(asOwn 96 2 (resAt q0.1 0)).bind fun l1=>K0 l qr qr1 l1 else none
@[simp] theorem R134_r (l:List PV) (qr qr1:Int) (l1:List PV) (K0:List PV->Int->Int->List PV->R):R134 (r134 l qr qr1 l1) K0 = K0 l qr qr1 l1:=by kernel_rfl
def c135 (k:Nat) (n1:Int):R:=evF P E T k 135 [.s (.c (.p (PV.int .i64 n1)))] []
def r135 (qr:Int):R:=some ([.c (.p (PV.int .i64 qr))],[])
def R135 (x0:R) (K0:Int->R):R:=x0.bind fun q0=>bif lensB q0.2 [] && lensS q0.1 [.c (.p (.int .i64))] then (cInt (resAt q0.1 0) .i64).bind fun qr=>K0 qr else none
@[simp] theorem R135_r (qr:Int) (K0:Int->R):R135 (r135 qr) K0 = K0 qr:=by kernel_rfl
def c136 (k:Nat) (wide vars:Int) (t:List PV) (kind:Int):R:=evF P E T k 136 [.s (.c (.p (PV.int .i64 wide))),.s (.c (.p (PV.int .i64 vars))),.s (.c (.p (PV.row 2 0 t))),.s (.c (.p (PV.int .i64 kind)))] []
def r136 (b:Bool):R:=some ([.c (.p (PV.bool b))],[])
def R136 (x0:R) (K0:Bool->R):R:=x0.bind fun q0=>bif lensB q0.2 [] && lensS q0.1 [.c (.p (.bool))] then (cBool (resAt q0.1 0)).bind fun b=>K0 b else none
@[simp] theorem R136_r (b:Bool) (K0:Bool->R):R136 (r136 b) K0 = K0 b:=by kernel_rfl
def c137 (k:Nat) (wide vars:Int) (t:List PV):R:=evF P E T k 137 [.s (.c (.p (PV.int .i64 wide))),.s (.c (.p (PV.int .i64 vars))),.s (.c (.p (PV.row 2 0 t)))] []
def r137 (qr:Int):R:=some ([.c (.p (PV.int .i64 qr))],[])
def R137 (x0:R) (K0:Int->R):R:=x0.bind fun q0=>bif lensB q0.2 [] && lensS q0.1 [.c (.p (.int .i64))] then (cInt (resAt q0.1 0) .i64).bind fun qr=>K0 qr else none
@[simp] theorem R137_r (qr:Int) (K0:Int->R):R137 (r137 qr) K0 = K0 qr:=by kernel_rfl
def L137_1 (k n:Nat) (wide vars:Int) (pileLen:Nat) (t27:List PV) (t28 t29:Int) (xs:List PV):R:=evLoopAt P E T k 137 137 [] [1,1,1,0,1,0] [] n ⟨mkT 83 [(0,.s (.c (.p (PV.int .i64 wide)))),(1,.s (.c (.p (PV.int .i64 vars)))),(7,.s (.c (.loc 0 0 0 0 pileLen))),(27,.s (.c (.p (PV.row 2 0 t27)))),(28,.s (.c (.p (PV.int .i64 t28)))),(29,.s (.c (.p (PV.int .i64 t29))))],[.arr 3 0 0 false xs]⟩
def L137_2 (k n1 n:Nat) (wide vars:Int) (pileLen:Nat) (many part own:Int) (t27:List PV) (t28 t29:Int) (xs:List PV):R:=evLoopAt P E T k 137 137 [] [1,1,1,0,1,0,0,1,1,0,0,1,1,1,0,0] [n1] n ⟨mkT 83 [(0,.s (.c (.p (PV.int .i64 wide)))),(1,.s (.c (.p (PV.int .i64 vars)))),(7,.s (.c (.loc 0 0 0 0 pileLen))),(10,.s (.c (.p (PV.int .i64 many)))),(11,.s (.c (.p (PV.int .i64 part)))),(12,.s (.c (.p (PV.int .i64 own)))),(27,.s (.c (.p (PV.row 2 0 t27)))),(28,.s (.c (.p (PV.int .i64 t28)))),(29,.s (.c (.p (PV.int .i64 t29))))],[.arr 3 0 0 false xs]⟩
def c138 (k:Nat) (l:List PV) (n1:Int):R:=evF P E T k 138 [.s (.c (.p (PV.row 0 0 l))),.s (.c (.p (PV.int .i64 n1)))] []
def r138 (b:Bool):R:=some ([.c (.p (PV.bool b))],[])
def R138 (x0:R) (K0:Bool->R):R:=x0.bind fun q0=>bif lensB q0.2 [] && lensS q0.1 [.c (.p (.bool))] then (cBool (resAt q0.1 0)).bind fun b=>K0 b else none
@[simp] theorem R138_r (b:Bool) (K0:Bool->R):R138 (r138 b) K0 = K0 b:=by kernel_rfl
def L138_1 (k n:Nat) (n1:Int) (t7:List PV) (t8 t9:Int):R:=evLoopAt P E T k 138 138 [] [1,0,1,0] [] n ⟨mkT 17 [(1,.s (.c (.p (PV.int .i64 n1)))),(7,.s (.c (.p (PV.row 0 0 t7)))),(8,.s (.c (.p (PV.int .i64 t8)))),(9,.s (.c (.p (PV.int .i64 t9))))],[]⟩
def c139 (k:Nat) (n1:Int):R:=evF P E T k 139 [.s (.c (.p (PV.int .i64 n1)))] []
def r139 (b:Bool):R:=some ([.c (.p (PV.bool b))],[])
def R139 (x0:R) (K0:Bool->R):R:=x0.bind fun q0=>bif lensB q0.2 [] && lensS q0.1 [.c (.p (.bool))] then (cBool (resAt q0.1 0)).bind fun b=>K0 b else none
@[simp] theorem R139_r (b:Bool) (K0:Bool->R):R139 (r139 b) K0 = K0 b:=by kernel_rfl
def c140 (k:Nat) (n1:Int):R:=evF P E T k 140 [.s (.c (.p (PV.int .i64 n1)))] []
def r140 (b:Bool):R:=some ([.c (.p (PV.bool b))],[])
def R140 (x0:R) (K0:Bool->R):R:=x0.bind fun q0=>bif lensB q0.2 [] && lensS q0.1 [.c (.p (.bool))] then (cBool (resAt q0.1 0)).bind fun b=>K0 b else none
@[simp] theorem R140_r (b:Bool) (K0:Bool->R):R140 (r140 b) K0 = K0 b:=by kernel_rfl
def c141 (k:Nat) (op:Int):R:=evF P E T k 141 [.s (.c (.p (PV.int .i64 op)))] []
def r141 (qr qr1 qr2:Int):R:=some ([.c (.p (PV.int .i64 qr)),.c (.p (PV.int .i64 qr1)),.c (.p (PV.int .i64 qr2))],[])
def R141 (x0:R) (K0:Int->Int->Int->R):R:=x0.bind fun q0=>bif lensB q0.2 [] && lensS q0.1 [.c (.p (.int .i64)),.c (.p (.int .i64)),.c (.p (.int .i64))] then (cInt (resAt q0.1 0) .i64).bind fun qr=>(cInt (resAt q0.1 1) .i64).bind fun qr1=>(cInt (resAt q0.1 2) .i64).bind fun qr2=>K0 qr qr1 qr2 else none
@[simp] theorem R141_r (qr qr1 qr2:Int) (K0:Int->Int->Int->R):R141 (r141 qr qr1 qr2) K0 = K0 qr qr1 qr2:=by kernel_rfl
def c142 (k:Nat) (wide vars x x1:Int):R:=evF P E T k 142 [.s (.c (.p (PV.int .i64 wide))),.s (.c (.p (PV.int .i64 vars))),.s (.c (.p (PV.agg [.int .i64 x,.int .u64 x1])))] []
def r142 (b:Bool):R:=some ([.c (.p (PV.bool b))],[])
def R142 (x0:R) (K0:Bool->R):R:=x0.bind fun q0=>bif lensB q0.2 [] && lensS q0.1 [.c (.p (.bool))] then (cBool (resAt q0.1 0)).bind fun b=>K0 b else none
@[simp] theorem R142_r (b:Bool) (K0:Bool->R):R142 (r142 b) K0 = K0 b:=by kernel_rfl
def c143 (k:Nat) (own n1:Int):R:=evF P E T k 143 [.s (.c (.p (PV.int .i64 own))),.s (.c (.bptr 0 0))] [[.p (PV.int .i64 n1)]]
def r143 (qr:Int) (b:Bool):R:=some ([.c (.p (PV.bool b))],[[.p (PV.int .i64 qr)]])
def R143 (x0:R) (K0:Int->Bool->R):R:=x0.bind fun q0=>bif lensB q0.2 [[.p (.int .i64)]] && lensS q0.1 [.c (.p (.bool))] then (cInt (cellAt q0.2 0 0) .i64).bind fun qr=>(cBool (resAt q0.1 0)).bind fun b=>K0 qr b else none
@[simp] theorem R143_r (qr:Int) (b:Bool) (K0:Int->Bool->R):R143 (r143 qr b) K0 = K0 qr b:=by kernel_rfl
def c146f161 (k:Nat) (qs:List PV) (n1 n11:Int) (l l1 l2:List PV) (n12:Int):R:=evF P E T k 146 [.s (.c (.own 3 0 qs)),.s (.c (.cfn 161 [PV.agg [.int .i64 n1,.int .i64 n11,.row 2 0 l,.row 2 0 l1],PV.agg [.row 0 0 l2],PV.agg [.int .i64 n12]]))] []
def r146f161 (l:List PV):R:=some ([.c (.own 3 0 l)],[])
def R146f161p (x0:R) (K0:List PV->R):R:=x0.bind fun q0=>bif q0.1.all plainS && q0.2.all (fun cs=>cs.all plainC) then (bif lensB q0.2 [] && lensS q0.1 [.c (.own 3 0)] then (asOwn 3 0 (resAt q0.1 0)).bind fun l=>K0 l else none) else none
def L146f161_1 (k n:Nat) (sLen:Nat) (n1 n11:Int) (l l1 l2:List PV) (n12 i j:Int) (xs:List PV):R:=evLoopAt P E T k 146 162146 [] [1,1,1,0,1,0] [] n ⟨mkT 42 [(0,.s (.c (.loc 0 0 0 0 sLen))),(1,.s (.c (.cfn 161 [PV.agg [.int .i64 n1,.int .i64 n11,.row 2 0 l,.row 2 0 l1],PV.agg [.row 0 0 l2],PV.agg [.int .i64 n12]]))),(5,.s (.c (.p (PV.int .i64 i)))),(6,.s (.c (.p (PV.int .i64 j))))],[.arr 3 0 0 false xs]⟩
def c146f153 (k:Nat) (qs l l1:List PV) (n1:Int):R:=evF P E T k 146 [.s (.c (.own 3 0 qs)),.s (.c (.cfn 153 [PV.agg [.row 0 0 l],PV.agg [.row 0 0 l1],PV.agg [.int .i64 n1]]))] []
def r146f153 (l:List PV):R:=some ([.c (.own 3 0 l)],[])
def R146f153p (x0:R) (K0:List PV->R):R:=x0.bind fun q0=>bif q0.1.all plainS && q0.2.all (fun cs=>cs.all plainC) then (bif lensB q0.2 [] && lensS q0.1 [.c (.own 3 0)] then (asOwn 3 0 (resAt q0.1 0)).bind fun l=>K0 l else none) else none
def L146f153_1 (k n:Nat) (sLen:Nat) (l l1:List PV) (n1 i j:Int) (xs:List PV):R:=evLoopAt P E T k 146 154146 [] [1,1,1,0,1,0] [] n ⟨mkT 42 [(0,.s (.c (.loc 0 0 0 0 sLen))),(1,.s (.c (.cfn 153 [PV.agg [.row 0 0 l],PV.agg [.row 0 0 l1],PV.agg [.int .i64 n1]]))),(5,.s (.c (.p (PV.int .i64 i)))),(6,.s (.c (.p (PV.int .i64 j))))],[.arr 3 0 0 false xs]⟩
def c146f159 (k:Nat) (qs l:List PV) (n1:Int):R:=evF P E T k 146 [.s (.c (.own 3 0 qs)),.s (.c (.cfn 159 [PV.agg [.row 0 0 l],PV.agg [.int .i64 n1]]))] []
def r146f159 (l:List PV):R:=some ([.c (.own 3 0 l)],[])
def R146f159p (x0:R) (K0:List PV->R):R:=x0.bind fun q0=>bif q0.1.all plainS && q0.2.all (fun cs=>cs.all plainC) then (bif lensB q0.2 [] && lensS q0.1 [.c (.own 3 0)] then (asOwn 3 0 (resAt q0.1 0)).bind fun l=>K0 l else none) else none
def L146f159_1 (k n:Nat) (sLen:Nat) (l:List PV) (n1 i j:Int) (xs:List PV):R:=evLoopAt P E T k 146 160146 [] [1,1,1,0,1,0] [] n ⟨mkT 42 [(0,.s (.c (.loc 0 0 0 0 sLen))),(1,.s (.c (.cfn 159 [PV.agg [.row 0 0 l],PV.agg [.int .i64 n1]]))),(5,.s (.c (.p (PV.int .i64 i)))),(6,.s (.c (.p (PV.int .i64 j))))],[.arr 3 0 0 false xs]⟩
def c148 (k:Nat) (v:List PV) (class1:Int):R:=evF P E T k 148 [.s (.c (.p (PV.agg [.row 0 0 v]))),.s (.c (.p (PV.int .i64 class1)))] []
def r148 (l:List PV):R:=some ([.c (.p (PV.row 0 0 l))],[])
def R148 (x0:R) (K0:List PV->R):R:=x0.bind fun q0=>bif lensB q0.2 [] && lensS q0.1 [.c (.p (.row 0))] then (cRow (resAt q0.1 0) 0).bind fun l=>K0 l else none
@[simp] theorem R148_r (l:List PV) (K0:List PV->R):R148 (r148 l) K0 = K0 l:=by kernel_rfl
def L148_1 (k n:Nat) (class1:Int) (outLen:Nat) (t9:List PV) (t10 t11:Int) (xs:List PV):R:=evLoopAt P E T k 148 148 [] [1,1,0,1,0] [] n ⟨mkT 25 [(1,.s (.c (.p (PV.int .i64 class1)))),(5,.s (.c (.loc 0 0 0 0 outLen))),(9,.s (.c (.p (PV.row 0 0 t9)))),(10,.s (.c (.p (PV.int .i64 t10)))),(11,.s (.c (.p (PV.int .i64 t11))))],[.arr 3 0 0 false xs]⟩
def c149 (k:Nat) (p p1:Int) (p2 p3 some1:List PV):R:=evF P E T k 149 [.s (.c (.p (PV.agg [.int .i64 p,.int .i64 p1,.row 2 0 p2,.row 2 0 p3]))),.s (.c (.p (PV.row 0 0 some1)))] []
def r149 (l:List PV):R:=some ([.c (.p (PV.row 0 0 l))],[])
def R149 (x0:R) (K0:List PV->R):R:=x0.bind fun q0=>bif lensB q0.2 [] && lensS q0.1 [.c (.p (.row 0))] then (cRow (resAt q0.1 0) 0).bind fun l=>K0 l else none
@[simp] theorem R149_r (l:List PV) (K0:List PV->R):R149 (r149 l) K0 = K0 l:=by kernel_rfl
def L149_1 (k n:Nat) (outLen:Nat) (t10:List PV) (t11 t12 n1 n11:Int) (l l1 xs:List PV):R:=evLoopAt P E T k 149 149 [] [1,1,0,1,0] [] n ⟨mkT 30 [(2,.s (.c (.bptr 0 0))),(5,.s (.c (.loc 1 0 0 0 outLen))),(10,.s (.c (.p (PV.row 0 0 t10)))),(11,.s (.c (.p (PV.int .i64 t11)))),(12,.s (.c (.p (PV.int .i64 t12))))],[.box [.p (PV.int .i64 n1),.p (PV.int .i64 n11),.p (PV.row 2 0 l),.p (PV.row 2 0 l1)],.arr 3 0 0 false xs]⟩
def L149_2 (k n1 n:Nat) (outLen:Nat) (t10:List PV) (t11 t12:Int) (t18:List PV) (t19 t20 n11 n12:Int) (l l1 xs:List PV):R:=evLoopAt P E T k 149 149 [] [1,1,0,1,0,0,1,1,0,0,1,1,0] [n1] n ⟨mkT 30 [(2,.s (.c (.bptr 0 0))),(5,.s (.c (.loc 1 0 0 0 outLen))),(10,.s (.c (.p (PV.row 0 0 t10)))),(11,.s (.c (.p (PV.int .i64 t11)))),(12,.s (.c (.p (PV.int .i64 t12)))),(18,.s (.c (.p (PV.row 0 0 t18)))),(19,.s (.c (.p (PV.int .i64 t19)))),(20,.s (.c (.p (PV.int .i64 t20))))],[.box [.p (PV.int .i64 n11),.p (PV.int .i64 n12),.p (PV.row 2 0 l),.p (PV.row 2 0 l1)],.arr 3 0 0 false xs]⟩
def c150 (k:Nat) (l:List PV) (n1 n11:Int):R:=evF P E T k 150 [.s (.c (.bptr 0 0))] [[.p (PV.row 0 0 l),.p (PV.int .i64 n1),.p (PV.int .u64 n11)]]
def r150 (l:List PV) (qr qr1 qr2 qr3:Int) (l1 l2 l3:List PV):R:=some ([.agg [.p (PV.int .i64 qr2),.p (PV.int .i64 qr3),.p (PV.row 2 0 l1),.p (PV.row 2 0 l2)],.agg [.p (PV.row 0 0 l3)]],[[.p (PV.row 0 0 l),.p (PV.int .i64 qr),.p (PV.int .u64 qr1)]])
def R150 (x0:R) (K0:List PV->Int->Int->Int->Int->List PV->List PV->List PV->R):R:=x0.bind fun q0=>bif lensB q0.2 [[.p (.row 0),.p (.int .i64),.p (.int .u64)]] && lensS q0.1 [.agg [.p (.int .i64),.p (.int .i64),.p (.row 2),.p (.row 2)],.agg [.p (.row 0)]] then (cRow (cellAt q0.2 0 0) 0).bind fun l=>(cInt (cellAt q0.2 0 1) .i64).bind fun qr=>(cInt (cellAt q0.2 0 2) .u64).bind fun qr1=>(cInt (Dp.partAt q0.1 0 0) .i64).bind fun qr2=>(cInt (Dp.partAt q0.1 0 1) .i64).bind fun qr3=>(cRow (Dp.partAt q0.1 0 2) 2).bind fun l1=>(cRow (Dp.partAt q0.1 0 3) 2).bind fun l2=>(cRow (Dp.partAt q0.1 1 0) 0).bind fun l3=>K0 l qr qr1 qr2 qr3 l1 l2 l3 else none
@[simp] theorem R150_r (l:List PV) (qr qr1 qr2 qr3:Int) (l1 l2 l3:List PV) (K0:List PV->Int->Int->Int->Int->List PV->List PV->List PV->R):R150 (r150 l qr qr1 qr2 qr3 l1 l2 l3) K0 = K0 l qr qr1 qr2 qr3 l1 l2 l3:=by kernel_rfl
def c151 (k:Nat) (p p1:Int) (p2 p3 v l:List PV) (n1 n11:Int):R:=evF P E T k 151 [.s (.c (.bptr 0 0)),.s (.c (.p (PV.agg [.int .i64 p,.int .i64 p1,.row 2 0 p2,.row 2 0 p3]))),.s (.c (.p (PV.agg [.row 0 0 v])))] [[.p (PV.row 0 0 l),.p (PV.int .i64 n1),.p (PV.int .u64 n11)]]
def r151 (l:List PV) (qr qr1:Int) (l1:List PV):R:=some ([.c (.p (PV.row 0 0 l1))],[[.p (PV.row 0 0 l),.p (PV.int .i64 qr),.p (PV.int .u64 qr1)]])
def R151 (x0:R) (K0:List PV->Int->Int->List PV->R):R:=x0.bind fun q0=>bif lensB q0.2 [[.p (.row 0),.p (.int .i64),.p (.int .u64)]] && lensS q0.1 [.c (.p (.row 0))] then (cRow (cellAt q0.2 0 0) 0).bind fun l=>(cInt (cellAt q0.2 0 1) .i64).bind fun qr=>(cInt (cellAt q0.2 0 2) .u64).bind fun qr1=>(cRow (resAt q0.1 0) 0).bind fun l1=>K0 l qr qr1 l1 else none
@[simp] theorem R151_r (l:List PV) (qr qr1:Int) (l1:List PV) (K0:List PV->Int->Int->List PV->R):R151 (r151 l qr qr1 l1) K0 = K0 l qr qr1 l1:=by kernel_rfl
def L151_1 (k n:Nat) (outLen:Nat) (n1:Int) (l:List PV) (n11 n12 n13 n14:Int) (l1 l2 l3 xs:List PV):R:=evLoopAt P E T k 151 151 [3] [1,1,1,1,0,1,0] [] n ⟨mkT 74 [(0,.s (.c (.bptr 0 0))),(4,.s (.c (.bptr 1 0))),(5,.s (.c (.bptr 2 0))),(9,.s (.c (.loc 3 0 0 0 outLen))),(10,.s (.c (.p (PV.int .i64 n1))))],[.box [.p (PV.row 0 0 l),.p (PV.int .i64 n11),.p (PV.int .u64 n12)],.box [.p (PV.int .i64 n13),.p (PV.int .i64 n14),.p (PV.row 2 0 l1),.p (PV.row 2 0 l2)],.box [.p (PV.row 0 0 l3)],.arr 3 0 0 false xs]⟩
def c152 (k:Nat) (class1 n1:Int):R:=evF P E T k 152 [.s (.c (.p (PV.int .i64 class1))),.s (.c (.eptr (PV.agg [.int .i64 n1]) 1 0))] []
def r152 (b:Bool):R:=some ([.c (.p (PV.bool b))],[])
def R152 (x0:R) (K0:Bool->R):R:=x0.bind fun q0=>bif lensB q0.2 [] && lensS q0.1 [.c (.p (.bool))] then (cBool (resAt q0.1 0)).bind fun b=>K0 b else none
@[simp] theorem R152_r (b:Bool) (K0:Bool->R):R152 (r152 b) K0 = K0 b:=by kernel_rfl
def c153 (k:Nat) (no:Int) (l l1:List PV) (n1:Int):R:=evF P E T k 153 [.s (.c (.p (PV.int .i64 no))),.s (.c (.eptr (PV.agg [.row 0 0 l]) 1 0)),.s (.c (.eptr (PV.agg [.row 0 0 l1]) 1 0)),.s (.c (.eptr (PV.agg [.int .i64 n1]) 1 0))] []
def r153 (b:Bool):R:=some ([.c (.p (PV.bool b))],[])
def R153 (x0:R) (K0:Bool->R):R:=x0.bind fun q0=>bif lensB q0.2 [] && lensS q0.1 [.c (.p (.bool))] then (cBool (resAt q0.1 0)).bind fun b=>K0 b else none
@[simp] theorem R153_r (b:Bool) (K0:Bool->R):R153 (r153 b) K0 = K0 b:=by kernel_rfl
def c154 (k:Nat) (to:Int) (l:List PV) (n1:Int):R:=evF P E T k 154 [.s (.c (.p (PV.int .i64 to))),.s (.c (.eptr (PV.agg [.row 0 0 l]) 1 0)),.s (.c (.eptr (PV.agg [.int .i64 n1]) 1 0))] []
def r154 (b:Bool):R:=some ([.c (.p (PV.bool b))],[])
def R154 (x0:R) (K0:Bool->R):R:=x0.bind fun q0=>bif lensB q0.2 [] && lensS q0.1 [.c (.p (.bool))] then (cBool (resAt q0.1 0)).bind fun b=>K0 b else none
@[simp] theorem R154_r (b:Bool) (K0:Bool->R):R154 (r154 b) K0 = K0 b:=by kernel_rfl
def c155 (k:Nat) (to:Int) (l l1:List PV) (n1:Int):R:=evF P E T k 155 [.s (.c (.p (PV.int .i64 to))),.s (.c (.eptr (PV.agg [.row 0 0 l]) 1 0)),.s (.c (.eptr (PV.agg [.row 0 0 l1]) 1 0)),.s (.c (.eptr (PV.agg [.int .i64 n1]) 1 0))] []
def r155 (b:Bool):R:=some ([.c (.p (PV.bool b))],[])
def R155 (x0:R) (K0:Bool->R):R:=x0.bind fun q0=>bif lensB q0.2 [] && lensS q0.1 [.c (.p (.bool))] then (cBool (resAt q0.1 0)).bind fun b=>K0 b else none
@[simp] theorem R155_r (b:Bool) (K0:Bool->R):R155 (r155 b) K0 = K0 b:=by kernel_rfl
def c156 (k:Nat) (v l:List PV):R:=evF P E T k 156 [.s (.c (.p (PV.agg [.row 0 0 v]))),.s (.c (.p (PV.row 0 0 l)))] []
def r156 (b:Bool):R:=some ([.c (.p (PV.bool b))],[])
def R156 (x0:R) (K0:Bool->R):R:=x0.bind fun q0=>bif lensB q0.2 [] && lensS q0.1 [.c (.p (.bool))] then (cBool (resAt q0.1 0)).bind fun b=>K0 b else none
@[simp] theorem R156_r (b:Bool) (K0:Bool->R):R156 (r156 b) K0 = K0 b:=by kernel_rfl
def c157f158 (k:Nat) (qs:List PV):R:=evF P E T k 157 [.s (.c (.p (PV.row 0 0 qs))),.s (.c (.cfn 158 []))] []
def r157f158 (qr:Int):R:=some ([.c (.p (PV.int .i64 qr))],[])
def R157f158p (x0:R) (K0:Int->R):R:=x0.bind fun q0=>bif q0.1.all plainS && q0.2.all (fun cs=>cs.all plainC) then (bif lensB q0.2 [] && lensS q0.1 [.c (.p (.int .i64))] then (cInt (resAt q0.1 0) .i64).bind fun qr=>K0 qr else none) else none
@[simp] theorem R157f158p_r (qr:Int) (K0:Int->R):R157f158p (r157f158 qr) K0 = K0 qr:=by kernel_rfl
def L157f158_1 (k n:Nat) (qs:List PV) (t7 t8:Int):R:=evLoopAt P E T k 157 159157 [] [1,0,1,0] [] n ⟨mkT 19 [(0,.s (.c (.p (PV.row 0 0 qs)))),(1,.s (.c (.cfn 158 []))),(7,.s (.c (.p (PV.int .i64 t7)))),(8,.s (.c (.p (PV.int .i64 t8))))],[]⟩
def c158 (k:Nat) (list:List PV):R:=evF P E T k 158 [.s (.c (.p (PV.row 0 0 list)))] []
def r158 (b:Bool):R:=some ([.c (.p (PV.bool b))],[])
def R158 (x0:R) (K0:Bool->R):R:=x0.bind fun q0=>bif lensB q0.2 [] && lensS q0.1 [.c (.p (.bool))] then (cBool (resAt q0.1 0)).bind fun b=>K0 b else none
@[simp] theorem R158_r (b:Bool) (K0:Bool->R):R158 (r158 b) K0 = K0 b:=by kernel_rfl
def c159 (k:Nat) (no:Int) (l:List PV) (n1:Int):R:=evF P E T k 159 [.s (.c (.p (PV.int .i64 no))),.s (.c (.eptr (PV.agg [.row 0 0 l]) 1 0)),.s (.c (.eptr (PV.agg [.int .i64 n1]) 1 0))] []
def r159 (b:Bool):R:=some ([.c (.p (PV.bool b))],[])
def R159 (x0:R) (K0:Bool->R):R:=x0.bind fun q0=>bif lensB q0.2 [] && lensS q0.1 [.c (.p (.bool))] then (cBool (resAt q0.1 0)).bind fun b=>K0 b else none
@[simp] theorem R159_r (b:Bool) (K0:Bool->R):R159 (r159 b) K0 = K0 b:=by kernel_rfl
def c160 (k:Nat) (qs:List PV):R:=evF P E T k 160 [.s (.c (.p (PV.row 0 0 qs)))] []
def r160 (l:List PV):R:=some ([.c (.own 3 0 l)],[])
def R160p (x0:R) (K0:List PV->R):R:=x0.bind fun q0=>bif q0.1.all plainS && q0.2.all (fun cs=>cs.all plainC) then (bif lensB q0.2 [] && lensS q0.1 [.c (.own 3 0)] then (asOwn 3 0 (resAt q0.1 0)).bind fun l=>K0 l else none) else none
def c161 (k:Nat) (no n1 n11:Int) (l l1 l2:List PV) (n12:Int):R:=evF P E T k 161 [.s (.c (.p (PV.int .i64 no))),.s (.c (.eptr (PV.agg [.int .i64 n1,.int .i64 n11,.row 2 0 l,.row 2 0 l1]) 4 0)),.s (.c (.eptr (PV.agg [.row 0 0 l2]) 1 0)),.s (.c (.eptr (PV.agg [.int .i64 n12]) 1 0))] []
def r161 (b:Bool):R:=some ([.c (.p (PV.bool b))],[])
def R161 (x0:R) (K0:Bool->R):R:=x0.bind fun q0=>bif lensB q0.2 [] && lensS q0.1 [.c (.p (.bool))] then (cBool (resAt q0.1 0)).bind fun b=>K0 b else none
@[simp] theorem R161_r (b:Bool) (K0:Bool->R):R161 (r161 b) K0 = K0 b:=by kernel_rfl
def c162 (k:Nat) (next:Int) (l:List PV) (n1:Int):R:=evF P E T k 162 [.s (.c (.p (PV.int .i64 next))),.s (.c (.eptr (PV.agg [.row 0 0 l]) 1 0)),.s (.c (.eptr (PV.agg [.int .i64 n1]) 1 0))] []
def r162 (b:Bool):R:=some ([.c (.p (PV.bool b))],[])
def R162 (x0:R) (K0:Bool->R):R:=x0.bind fun q0=>bif lensB q0.2 [] && lensS q0.1 [.c (.p (.bool))] then (cBool (resAt q0.1 0)).bind fun b=>K0 b else none
@[simp] theorem R162_r (b:Bool) (K0:Bool->R):R162 (r162 b) K0 = K0 b:=by kernel_rfl
def c163 (k:Nat) (l:List PV) (n1 n11:Int):R:=evF P E T k 163 [.s (.c (.bptr 0 0))] [[.p (PV.row 0 0 l),.p (PV.int .i64 n1),.p (PV.int .u64 n11)]]
def r163 (l:List PV) (qr qr1 qr2:Int):R:=some ([.c (.p (PV.int .i64 qr2))],[[.p (PV.row 0 0 l),.p (PV.int .i64 qr),.p (PV.int .u64 qr1)]])
def R163 (x0:R) (K0:List PV->Int->Int->Int->R):R:=x0.bind fun q0=>bif lensB q0.2 [[.p (.row 0),.p (.int .i64),.p (.int .u64)]] && lensS q0.1 [.c (.p (.int .i64))] then (cRow (cellAt q0.2 0 0) 0).bind fun l=>(cInt (cellAt q0.2 0 1) .i64).bind fun qr=>(cInt (cellAt q0.2 0 2) .u64).bind fun qr1=>(cInt (resAt q0.1 0) .i64).bind fun qr2=>K0 l qr qr1 qr2 else none
@[simp] theorem R163_r (l:List PV) (qr qr1 qr2:Int) (K0:List PV->Int->Int->Int->R):R163 (r163 l qr qr1 qr2) K0 = K0 l qr qr1 qr2:=by kernel_rfl
def c164 (k:Nat) (wide vars:Int) (l:List PV) (n1 n11:Int):R:=evF P E T k 164 [.s (.c (.bptr 0 0)),.s (.c (.p (PV.int .i64 wide))),.s (.c (.p (PV.int .i64 vars)))] [[.p (PV.row 0 0 l),.p (PV.int .i64 n1),.p (PV.int .u64 n11)]]
def r164 (l:List PV) (qr qr1:Int) (l1 l2:List PV):R:=some ([.agg [.p (PV.row 2 0 l1),.own 116 2 l2]],[[.p (PV.row 0 0 l),.p (PV.int .i64 qr),.p (PV.int .u64 qr1)]])
def R164 (x0:R) (K0:List PV->Int->Int->List PV->List PV->R):R:=x0.bind fun q0=>bif lensB q0.2 [[.p (.row 0),.p (.int .i64),.p (.int .u64)]] && lensS q0.1 [.agg [.p (.row 2),.own 116 2]] then (cRow (cellAt q0.2 0 0) 0).bind fun l=>(cInt (cellAt q0.2 0 1) .i64).bind fun qr=>(cInt (cellAt q0.2 0 2) .u64).bind fun qr1=>(cRow (Dp.partAt q0.1 0 0) 2).bind fun l1=>(asOwn 116 2 (Dp.partAt q0.1 0 1)).bind fun l2=>K0 l qr qr1 l1 l2 else none
@[simp] theorem R164_r (l:List PV) (qr qr1:Int) (l1 l2:List PV) (K0:List PV->Int->Int->List PV->List PV->R):R164 (r164 l qr qr1 l1 l2) K0 = K0 l qr qr1 l1 l2:=by kernel_rfl
def L164_1 (k n:Nat) (wide vars v:Int) (l:List PV) (n1 n11:Int) (l1 l2:List PV) (Len Len1:Nat) (xs xs1:List PV):R:=evLoopAt P E T k 164 164 [3] [1,1,0,1,0] [] n ⟨mkT 35 [(0,.s (.c (.bptr 0 0))),(1,.s (.c (.p (PV.int .i64 wide)))),(2,.s (.c (.p (PV.int .i64 vars)))),(6,.s (.c (.bptr 1 0))),(7,.s (.c (.bptr 2 0))),(8,.s (.c (.p (PV.int .i64 v))))],[.box [.p (PV.row 0 0 l),.p (PV.int .i64 n1),.p (PV.int .u64 n11)],.box [.p (PV.row 2 0 l1),.p (PV.row 2 0 l2)],.box [.loc 3 0 2 0 Len,.loc 4 0 2 0 Len1],.arr 96 2 0 false xs,.arr 116 2 0 false xs1]⟩
def c165 (k:Nat) (p p1:Int) (p2 p3 preds:List PV):R:=evF P E T k 165 [.s (.c (.p (PV.agg [.int .i64 p,.int .i64 p1,.row 2 0 p2,.row 2 0 p3]))),.s (.c (.p (PV.row 0 0 preds)))] []
def r165 (b:Bool):R:=some ([.c (.p (PV.bool b))],[])
def R165 (x0:R) (K0:Bool->R):R:=x0.bind fun q0=>bif lensB q0.2 [] && lensS q0.1 [.c (.p (.bool))] then (cBool (resAt q0.1 0)).bind fun b=>K0 b else none
@[simp] theorem R165_r (b:Bool) (K0:Bool->R):R165 (r165 b) K0 = K0 b:=by kernel_rfl
def L165_1 (k n:Nat) (t10:List PV) (t11 t12 n1 n11:Int) (l l1:List PV):R:=evLoopAt P E T k 165 165 [] [1,1,0,1,0] [] n ⟨mkT 21 [(2,.s (.c (.bptr 0 0))),(10,.s (.c (.p (PV.row 0 0 t10)))),(11,.s (.c (.p (PV.int .i64 t11)))),(12,.s (.c (.p (PV.int .i64 t12))))],[.box [.p (PV.int .i64 n1),.p (PV.int .i64 n11),.p (PV.row 2 0 l),.p (PV.row 2 0 l1)]]⟩
def c166 (k:Nat) (p p1:Int) (p2 p3 preds:List PV):R:=evF P E T k 166 [.s (.c (.p (PV.agg [.int .i64 p,.int .i64 p1,.row 2 0 p2,.row 2 0 p3]))),.s (.c (.p (PV.row 0 0 preds)))] []
def r166 (l:List PV):R:=some ([.agg [.own 3 0 l]],[])
def R166 (x0:R) (K0:List PV->R):R:=x0.bind fun q0=>bif lensB q0.2 [] && lensS q0.1 [.agg [.own 3 0]] then (asOwn 3 0 (Dp.partAt q0.1 0 0)).bind fun l=>K0 l else none
@[simp] theorem R166_r (l:List PV) (K0:List PV->R):R166 (r166 l) K0 = K0 l:=by kernel_rfl
def L166_1 (k n:Nat) (t12:List PV) (t13 t14 n1 n11:Int) (l l1 l2:List PV) (Len:Nat) (xs:List PV):R:=evLoopAt P E T k 166 166 [] [1,1,0,1,0] [] n ⟨mkT 24 [(2,.s (.c (.bptr 0 0))),(4,.s (.c (.bptr 1 0))),(5,.s (.c (.bptr 2 0))),(12,.s (.c (.p (PV.row 0 0 t12)))),(13,.s (.c (.p (PV.int .i64 t13)))),(14,.s (.c (.p (PV.int .i64 t14))))],[.box [.p (PV.int .i64 n1),.p (PV.int .i64 n11),.p (PV.row 2 0 l),.p (PV.row 2 0 l1)],.box [.p (PV.row 0 0 l2)],.box [.loc 3 0 0 0 Len],.arr 3 0 0 false xs]⟩
def c167 (k:Nat) (l:List PV) (lo hi:Int):R:=evF P E T k 167 [.s (.c (.p (PV.row 0 0 l))),.s (.c (.p (PV.int .i64 lo))),.s (.c (.p (PV.int .i64 hi)))] []
def r167 (b:Bool):R:=some ([.c (.p (PV.bool b))],[])
def R167 (x0:R) (K0:Bool->R):R:=x0.bind fun q0=>bif lensB q0.2 [] && lensS q0.1 [.c (.p (.bool))] then (cBool (resAt q0.1 0)).bind fun b=>K0 b else none
@[simp] theorem R167_r (b:Bool) (K0:Bool->R):R167 (r167 b) K0 = K0 b:=by kernel_rfl
def L167_1 (k n:Nat) (l:List PV) (lo hi:Int) (t9:List PV) (t10 t11:Int):R:=evLoopAt P E T k 167 167 [] [1,0,1,0] [] n ⟨mkT 35 [(0,.s (.c (.p (PV.row 0 0 l)))),(1,.s (.c (.p (PV.int .i64 lo)))),(2,.s (.c (.p (PV.int .i64 hi)))),(9,.s (.c (.p (PV.row 0 0 t9)))),(10,.s (.c (.p (PV.int .i64 t10)))),(11,.s (.c (.p (PV.int .i64 t11))))],[]⟩
def c168 (k:Nat) (v some1:List PV):R:=evF P E T k 168 [.s (.c (.p (PV.agg [.row 0 0 v]))),.s (.c (.p (PV.row 0 0 some1)))] []
def r168 (l:List PV):R:=some ([.agg [.own 3 0 l]],[])
def R168 (x0:R) (K0:List PV->R):R:=x0.bind fun q0=>bif lensB q0.2 [] && lensS q0.1 [.agg [.own 3 0]] then (asOwn 3 0 (Dp.partAt q0.1 0 0)).bind fun l=>K0 l else none
@[simp] theorem R168_r (l:List PV) (K0:List PV->R):R168 (r168 l) K0 = K0 l:=by kernel_rfl
def L168_1 (k n:Nat) (some1:List PV) (keysLen:Nat) (t9:List PV) (t10 t11:Int) (l xs:List PV):R:=evLoopAt P E T k 168 168 [] [1,1,0,1,0] [] n ⟨mkT 33 [(1,.s (.c (.p (PV.row 0 0 some1)))),(4,.s (.c (.bptr 0 0))),(5,.s (.c (.loc 1 0 0 0 keysLen))),(9,.s (.c (.p (PV.row 0 0 t9)))),(10,.s (.c (.p (PV.int .i64 t10)))),(11,.s (.c (.p (PV.int .i64 t11))))],[.box [.p (PV.row 0 0 l)],.arr 3 0 0 false xs]⟩
def c171 (k:Nat) (p p1:Int) (p2 p3 qs:List PV):R:=evF P E T k 171 [.s (.c (.p (PV.agg [.int .i64 p,.int .i64 p1,.row 2 0 p2,.row 2 0 p3]))),.s (.c (.p (PV.row 0 0 qs)))] []
def r171 (l:List PV):R:=some ([.c (.p (PV.row 0 0 l))],[])
def R171 (x0:R) (K0:List PV->R):R:=x0.bind fun q0=>bif lensB q0.2 [] && lensS q0.1 [.c (.p (.row 0))] then (cRow (resAt q0.1 0) 0).bind fun l=>K0 l else none
@[simp] theorem R171_r (l:List PV) (K0:List PV->R):R171 (r171 l) K0 = K0 l:=by kernel_rfl
def L171_1 (k n:Nat) (qs:List PV) (outLen:Nat) (t9:List PV) (t10 t11 n1 n11:Int) (l l1 xs:List PV):R:=evLoopAt P E T k 171 171 [] [1,1,0,1,0] [] n ⟨mkT 27 [(1,.s (.c (.p (PV.row 0 0 qs)))),(2,.s (.c (.bptr 0 0))),(5,.s (.c (.loc 1 0 0 0 outLen))),(9,.s (.c (.p (PV.row 2 0 t9)))),(10,.s (.c (.p (PV.int .i64 t10)))),(11,.s (.c (.p (PV.int .i64 t11))))],[.box [.p (PV.int .i64 n1),.p (PV.int .i64 n11),.p (PV.row 2 0 l),.p (PV.row 2 0 l1)],.arr 3 0 0 false xs]⟩
def c172 (k:Nat) (p p1:Int) (p2 p3 qs:List PV):R:=evF P E T k 172 [.s (.c (.p (PV.agg [.int .i64 p,.int .i64 p1,.row 2 0 p2,.row 2 0 p3]))),.s (.c (.p (PV.row 0 0 qs)))] []
def r172 (qr:Int):R:=some ([.c (.p (PV.int .i64 qr))],[])
def R172 (x0:R) (K0:Int->R):R:=x0.bind fun q0=>bif lensB q0.2 [] && lensS q0.1 [.c (.p (.int .i64))] then (cInt (resAt q0.1 0) .i64).bind fun qr=>K0 qr else none
@[simp] theorem R172_r (qr:Int) (K0:Int->R):R172 (r172 qr) K0 = K0 qr:=by kernel_rfl
def L172_1 (k n:Nat) (qs:List PV) (n1 v n11 n12:Int) (l l1:List PV):R:=evLoopAt P E T k 172 172 [] [1,1,0,1,0] [] n ⟨mkT 26 [(1,.s (.c (.p (PV.row 0 0 qs)))),(2,.s (.c (.bptr 0 0))),(5,.s (.c (.p (PV.int .i64 n1)))),(6,.s (.c (.p (PV.int .i64 v))))],[.box [.p (PV.int .i64 n11),.p (PV.int .i64 n12),.p (PV.row 2 0 l),.p (PV.row 2 0 l1)]]⟩
def c173 (k:Nat) (p p1:Int) (p2 p3 qs:List PV) (k1:Int):R:=evF P E T k 173 [.s (.c (.p (PV.agg [.int .i64 p,.int .i64 p1,.row 2 0 p2,.row 2 0 p3]))),.s (.c (.p (PV.row 0 0 qs))),.s (.c (.p (PV.int .i64 k1)))] []
def r173 (l:List PV):R:=some ([.c (.p (PV.row 0 0 l))],[])
def R173 (x0:R) (K0:List PV->R):R:=x0.bind fun q0=>bif lensB q0.2 [] && lensS q0.1 [.c (.p (.row 0))] then (cRow (resAt q0.1 0) 0).bind fun l=>K0 l else none
@[simp] theorem R173_r (l:List PV) (K0:List PV->R):R173 (r173 l) K0 = K0 l:=by kernel_rfl
def L173_1 (k n:Nat) (qs:List PV) (outLen:Nat) (t18:List PV) (t19 t20 n1 n11:Int) (l l1 xs:List PV):R:=evLoopAt P E T k 173 173 [] [1,1,0,1,0] [] n ⟨mkT 40 [(1,.s (.c (.p (PV.row 0 0 qs)))),(3,.s (.c (.bptr 0 0))),(7,.s (.c (.loc 1 0 0 0 outLen))),(18,.s (.c (.p (PV.row 2 0 t18)))),(19,.s (.c (.p (PV.int .i64 t19)))),(20,.s (.c (.p (PV.int .i64 t20))))],[.box [.p (PV.int .i64 n1),.p (PV.int .i64 n11),.p (PV.row 2 0 l),.p (PV.row 2 0 l1)],.arr 64 0 0 false xs]⟩
def c174 (k:Nat) (p p1:Int) (p2 p3:List PV):R:=evF P E T k 174 [.s (.c (.p (PV.agg [.int .i64 p,.int .i64 p1,.row 2 0 p2,.row 2 0 p3])))] []
def r174 (b:Bool):R:=some ([.c (.p (PV.bool b))],[])
def R174 (x0:R) (K0:Bool->R):R:=x0.bind fun q0=>bif lensB q0.2 [] && lensS q0.1 [.c (.p (.bool))] then (cBool (resAt q0.1 0)).bind fun b=>K0 b else none
@[simp] theorem R174_r (b:Bool) (K0:Bool->R):R174 (r174 b) K0 = K0 b:=by kernel_rfl
def R174p (x0:R) (K0:Bool->R):R:=x0.bind fun q0=>bif q0.1.all plainS && q0.2.all (fun cs=>cs.all plainC) then (bif lensB q0.2 [] && lensS q0.1 [.c (.p (.bool))] then (cBool (resAt q0.1 0)).bind fun b=>K0 b else none) else none
@[simp] theorem R174p_r (b:Bool) (K0:Bool->R):R174p (r174 b) K0 = K0 b:=by kernel_rfl
def L174_1 (k n:Nat) (t18:List PV) (t19 t20 n1 n11:Int) (l l1:List PV):R:=evLoopAt P E T k 174 174 [] [1,1,0,1,0] [] n ⟨mkT 29 [(1,.s (.c (.bptr 0 0))),(18,.s (.c (.p (PV.row 2 0 t18)))),(19,.s (.c (.p (PV.int .i64 t19)))),(20,.s (.c (.p (PV.int .i64 t20))))],[.box [.p (PV.int .i64 n1),.p (PV.int .i64 n11),.p (PV.row 2 0 l),.p (PV.row 2 0 l1)]]⟩
def c175 (k:Nat) (x:List PV):R:=evF P E T k 175 [.s (.c (.p (PV.row 0 0 x)))] []
def r175 (qr:Int):R:=some ([.c (.p (PV.int .i64 qr))],[])
def R175 (x0:R) (K0:Int->R):R:=x0.bind fun q0=>bif lensB q0.2 [] && lensS q0.1 [.c (.p (.int .i64))] then (cInt (resAt q0.1 0) .i64).bind fun qr=>K0 qr else none
@[simp] theorem R175_r (qr:Int) (K0:Int->R):R175 (r175 qr) K0 = K0 qr:=by kernel_rfl
def L175_1 (k n:Nat) (x:List PV) (m i:Int):R:=evLoopAt P E T k 175 175 [] [1,1,1,0,1,0] [] n ⟨mkT 25 [(0,.s (.c (.p (PV.row 0 0 x)))),(3,.s (.c (.p (PV.int .i64 m)))),(4,.s (.c (.p (PV.int .i64 i))))],[]⟩
def c176 (k:Nat) (wide:Int) (t:List PV) (k1:Int) (state:List PV):R:=evF P E T k 176 [.s (.c (.p (PV.int .i64 wide))),.s (.c (.p (PV.row 2 0 t))),.s (.c (.p (PV.int .i64 k1))),.s (.c (.p (PV.row 0 0 state)))] []
def r176 (qr:Int):R:=some ([.c (.p (PV.int .u64 qr))],[])
def R176 (x0:R) (K0:Int->R):R:=x0.bind fun q0=>bif lensB q0.2 [] && lensS q0.1 [.c (.p (.int .u64))] then (cInt (resAt q0.1 0) .u64).bind fun qr=>K0 qr else none
@[simp] theorem R176_r (qr:Int) (K0:Int->R):R176 (r176 qr) K0 = K0 qr:=by kernel_rfl
def c179 (k:Nat) (qs:List PV):R:=evF P E T k 179 [.s (.c (.p (PV.row 0 0 qs)))] []
def r179 (l:List PV):R:=some ([.c (.own 64 0 l)],[])
def R179 (x0:R) (K0:List PV->R):R:=x0.bind fun q0=>bif lensB q0.2 [] && lensS q0.1 [.c (.own 64 0)] then (asOwn 64 0 (resAt q0.1 0)).bind fun l=>K0 l else none
@[simp] theorem R179_r (l:List PV) (K0:List PV->R):R179 (r179 l) K0 = K0 l:=by kernel_rfl
def c182 (k:Nat) (wide op a b:Int):R:=evF P E T k 182 [.s (.c (.p (PV.int .i64 wide))),.s (.c (.p (PV.int .i64 op))),.s (.c (.p (PV.int .u64 a))),.s (.c (.p (PV.int .u64 b)))] []
def r182 (qr:Int):R:=some ([.c (.p (PV.int .u64 qr))],[])
def R182 (x0:R) (K0:Int->R):R:=x0.bind fun q0=>bif lensB q0.2 [] && lensS q0.1 [.c (.p (.int .u64))] then (cInt (resAt q0.1 0) .u64).bind fun qr=>K0 qr else none
@[simp] theorem R182_r (qr:Int) (K0:Int->R):R182 (r182 qr) K0 = K0 qr:=by kernel_rfl
def c183f184 (k:Nat) (qs:List PV) (n1 n11:Int) (l l1:List PV):R:=evF P E T k 183 [.s (.c (.p (PV.row 2 0 qs))),.s (.c (.fn 184 [0]))] [[.p (PV.int .i64 n1),.p (PV.int .i64 n11),.p (PV.row 2 0 l),.p (PV.row 2 0 l1)]]
def r183f184 (qr qr1:Int) (l l1:List PV) (b:Bool):R:=some ([.c (.p (PV.bool b))],[[.p (PV.int .i64 qr),.p (PV.int .i64 qr1),.p (PV.row 2 0 l),.p (PV.row 2 0 l1)]])
def R183f184 (x0:R) (K0:Int->Int->List PV->List PV->Bool->R):R:=x0.bind fun q0=>bif lensB q0.2 [[.p (.int .i64),.p (.int .i64),.p (.row 2),.p (.row 2)]] && lensS q0.1 [.c (.p (.bool))] then (cInt (cellAt q0.2 0 0) .i64).bind fun qr=>(cInt (cellAt q0.2 0 1) .i64).bind fun qr1=>(cRow (cellAt q0.2 0 2) 2).bind fun l=>(cRow (cellAt q0.2 0 3) 2).bind fun l1=>(cBool (resAt q0.1 0)).bind fun b=>K0 qr qr1 l l1 b else none
@[simp] theorem R183f184_r (qr qr1:Int) (l l1:List PV) (b:Bool) (K0:Int->Int->List PV->List PV->Bool->R):R183f184 (r183f184 qr qr1 l l1 b) K0 = K0 qr qr1 l l1 b:=by kernel_rfl
def c184 (k:Nat) (qc qc1:List PV) (n1 n11:Int) (l l1:List PV):R:=evF P E T k 184 [.s (.c (.p (PV.agg [.row 2 0 qc,.row 2 0 qc1]))),.s (.c (.bptr 0 0))] [[.p (PV.int .i64 n1),.p (PV.int .i64 n11),.p (PV.row 2 0 l),.p (PV.row 2 0 l1)]]
def r184 (qr qr1:Int) (l l1:List PV) (b:Bool):R:=some ([.c (.p (PV.bool b))],[[.p (PV.int .i64 qr),.p (PV.int .i64 qr1),.p (PV.row 2 0 l),.p (PV.row 2 0 l1)]])
def R184 (x0:R) (K0:Int->Int->List PV->List PV->Bool->R):R:=x0.bind fun q0=>bif lensB q0.2 [[.p (.int .i64),.p (.int .i64),.p (.row 2),.p (.row 2)]] && lensS q0.1 [.c (.p (.bool))] then (cInt (cellAt q0.2 0 0) .i64).bind fun qr=>(cInt (cellAt q0.2 0 1) .i64).bind fun qr1=>(cRow (cellAt q0.2 0 2) 2).bind fun l=>(cRow (cellAt q0.2 0 3) 2).bind fun l1=>(cBool (resAt q0.1 0)).bind fun b=>K0 qr qr1 l l1 b else none
@[simp] theorem R184_r (qr qr1:Int) (l l1:List PV) (b:Bool) (K0:Int->Int->List PV->List PV->Bool->R):R184 (r184 qr qr1 l l1 b) K0 = K0 qr qr1 l l1 b:=by kernel_rfl
def c185 (k:Nat) (p p1:Int) (p2 p3 qc qc1:List PV):R:=evF P E T k 185 [.s (.c (.p (PV.agg [.int .i64 p,.int .i64 p1,.row 2 0 p2,.row 2 0 p3]))),.s (.c (.p (PV.agg [.row 2 0 qc,.row 2 0 qc1])))] []
def r185 (b:Bool):R:=some ([.c (.p (PV.bool b))],[])
def R185 (x0:R) (K0:Bool->R):R:=x0.bind fun q0=>bif lensB q0.2 [] && lensS q0.1 [.c (.p (.bool))] then (cBool (resAt q0.1 0)).bind fun b=>K0 b else none
@[simp] theorem R185_r (b:Bool) (K0:Bool->R):R185 (r185 b) K0 = K0 b:=by kernel_rfl
def L185_1 (k n:Nat) (t13:List PV) (t14 t15 n1 n11:Int) (l l1 l2 l3:List PV):R:=evLoopAt P E T k 185 185 [] [1,1,0,1,0] [] n ⟨mkT 57 [(2,.s (.c (.bptr 0 0))),(3,.s (.c (.bptr 1 0))),(13,.s (.c (.p (PV.row 2 0 t13)))),(14,.s (.c (.p (PV.int .i64 t14)))),(15,.s (.c (.p (PV.int .i64 t15))))],[.box [.p (PV.int .i64 n1),.p (PV.int .i64 n11),.p (PV.row 2 0 l),.p (PV.row 2 0 l1)],.box [.p (PV.row 2 0 l2),.p (PV.row 2 0 l3)]]⟩
def c186 (k:Nat) (wide vars deep:Int) (l:List PV) (n1 n11:Int):R:=evF P E T k 186 [.s (.c (.bptr 0 0)),.s (.c (.p (PV.int .i64 wide))),.s (.c (.p (PV.int .i64 vars))),.s (.c (.p (PV.int .i64 deep)))] [[.p (PV.row 0 0 l),.p (PV.int .i64 n1),.p (PV.int .u64 n11)]]
def r186 (l:List PV) (qr qr1:Int) (l1:List PV):R:=some ([.c (.own 96 2 l1)],[[.p (PV.row 0 0 l),.p (PV.int .i64 qr),.p (PV.int .u64 qr1)]])
def R186 (x0:R) (K0:List PV->Int->Int->List PV->R):R:=x0.bind fun q0=>bif lensB q0.2 [[.p (.row 0),.p (.int .i64),.p (.int .u64)]] && lensS q0.1 [.c (.own 96 2)] then (cRow (cellAt q0.2 0 0) 0).bind fun l=>(cInt (cellAt q0.2 0 1) .i64).bind fun qr=>(cInt (cellAt q0.2 0 2) .u64).bind fun qr1=>(asOwn 96 2 (resAt q0.1 0)).bind fun l1=>K0 l qr qr1 l1 else none
@[simp] theorem R186_r (l:List PV) (qr qr1:Int) (l1:List PV) (K0:List PV->Int->Int->List PV->R):R186 (r186 l qr qr1 l1) K0 = K0 l qr qr1 l1:=by kernel_rfl
def c187 (k:Nat) (t:List PV):R:=evF P E T k 187 [.s (.c (.p (PV.row 2 0 t)))] []
def r187 (qr:Int):R:=some ([.c (.p (PV.int .i64 qr))],[])
def R187 (x0:R) (K0:Int->R):R:=x0.bind fun q0=>bif lensB q0.2 [] && lensS q0.1 [.c (.p (.int .i64))] then (cInt (resAt q0.1 0) .i64).bind fun qr=>K0 qr else none
@[simp] theorem R187_r (qr:Int) (K0:Int->R):R187 (r187 qr) K0 = K0 qr:=by kernel_rfl
def c188 (k:Nat) (wide:Int):R:=evF P E T k 188 [.s (.c (.p (PV.int .i64 wide)))] []
def r188 (b:Bool):R:=some ([.c (.p (PV.bool b))],[])
def R188 (x0:R) (K0:Bool->R):R:=x0.bind fun q0=>bif lensB q0.2 [] && lensS q0.1 [.c (.p (.bool))] then (cBool (resAt q0.1 0)).bind fun b=>K0 b else none
@[simp] theorem R188_r (b:Bool) (K0:Bool->R):R188 (r188 b) K0 = K0 b:=by kernel_rfl
def c189 (k:Nat) (op:Int):R:=evF P E T k 189 [.s (.c (.p (PV.int .i64 op)))] []
def r189 (qr qr1 qr2:Int):R:=some ([.c (.p (PV.int .i64 qr)),.c (.p (PV.int .i64 qr1)),.c (.p (PV.int .i64 qr2))],[])
def R189 (x0:R) (K0:Int->Int->Int->R):R:=x0.bind fun q0=>bif lensB q0.2 [] && lensS q0.1 [.c (.p (.int .i64)),.c (.p (.int .i64)),.c (.p (.int .i64))] then (cInt (resAt q0.1 0) .i64).bind fun qr=>(cInt (resAt q0.1 1) .i64).bind fun qr1=>(cInt (resAt q0.1 2) .i64).bind fun qr2=>K0 qr qr1 qr2 else none
@[simp] theorem R189_r (qr qr1 qr2:Int) (K0:Int->Int->Int->R):R189 (r189 qr qr1 qr2) K0 = K0 qr qr1 qr2:=by kernel_rfl
def c190 (k:Nat) (wide vars n1 n11:Int):R:=evF P E T k 190 [.s (.c (.p (PV.int .i64 wide))),.s (.c (.p (PV.int .i64 vars))),.s (.c (.p (PV.agg [.int .i64 n1,.int .u64 n11])))] []
def r190 (b:Bool):R:=some ([.c (.p (PV.bool b))],[])
def R190 (x0:R) (K0:Bool->R):R:=x0.bind fun q0=>bif lensB q0.2 [] && lensS q0.1 [.c (.p (.bool))] then (cBool (resAt q0.1 0)).bind fun b=>K0 b else none
@[simp] theorem R190_r (b:Bool) (K0:Bool->R):R190 (r190 b) K0 = K0 b:=by kernel_rfl
def c191 (k:Nat) (wide a:Int):R:=evF P E T k 191 [.s (.c (.p (PV.int .i64 wide))),.s (.c (.p (PV.int .u64 a)))] []
def r191 (b:Bool):R:=some ([.c (.p (PV.bool b))],[])
def R191 (x0:R) (K0:Bool->R):R:=x0.bind fun q0=>bif lensB q0.2 [] && lensS q0.1 [.c (.p (.bool))] then (cBool (resAt q0.1 0)).bind fun b=>K0 b else none
@[simp] theorem R191_r (b:Bool) (K0:Bool->R):R191 (r191 b) K0 = K0 b:=by kernel_rfl
def c194 (k:Nat) (p p1:Int) (p2 p3 v t:List PV):R:=evF P E T k 194 [.s (.c (.p (PV.agg [.int .i64 p,.int .i64 p1,.row 2 0 p2,.row 2 0 p3]))),.s (.c (.p (PV.agg [.row 0 0 v]))),.s (.c (.p (PV.row 2 0 t)))] []
def r194 (l:List PV):R:=some ([.agg [.own 3 0 l]],[])
def R194p (x0:R) (K0:List PV->R):R:=x0.bind fun q0=>bif q0.1.all plainS && q0.2.all (fun cs=>cs.all plainC) then (bif lensB q0.2 [] && lensS q0.1 [.agg [.own 3 0]] then (asOwn 3 0 (Dp.partAt q0.1 0 0)).bind fun l=>K0 l else none) else none
def c195 (k:Nat) (keys:List PV):R:=evF P E T k 195 [.s (.c (.p (PV.row 0 0 keys)))] []
def r195 (l:List PV):R:=some ([.agg [.own 3 0 l]],[])
def R195p (x0:R) (K0:List PV->R):R:=x0.bind fun q0=>bif q0.1.all plainS && q0.2.all (fun cs=>cs.all plainC) then (bif lensB q0.2 [] && lensS q0.1 [.agg [.own 3 0]] then (asOwn 3 0 (Dp.partAt q0.1 0 0)).bind fun l=>K0 l else none) else none
def L195_1 (k n:Nat) (keys:List PV) (many:Int) (t9:List PV) (t10 t11:Int) (Len Len1:Nat) (xs xs1:List PV):R:=evLoopAt P E T k 195 195 [] [1,1,1,0,1,0] [] n ⟨mkT 46 [(0,.s (.c (.p (PV.row 0 0 keys)))),(2,.s (.c (.bptr 0 0))),(3,.s (.c (.bptr 1 0))),(4,.s (.c (.p (PV.int .i64 many)))),(9,.s (.c (.p (PV.row 0 0 t9)))),(10,.s (.c (.p (PV.int .i64 t10)))),(11,.s (.c (.p (PV.int .i64 t11))))],[.box [.loc 2 0 0 0 Len],.box [.loc 3 0 0 0 Len1],.arr 3 0 0 false xs,.arr 3 0 0 false xs1]⟩
def L195_2 (k n1 n:Nat) (keys:List PV) (many i key class1 j:Int) (t9:List PV) (t10 t11:Int) (Len Len1:Nat) (xs xs1:List PV):R:=evLoopAt P E T k 195 195 [] [1,1,1,0,1,0,0,1,1,0,0,1,1,0,1,0] [n1] n ⟨mkT 46 [(0,.s (.c (.p (PV.row 0 0 keys)))),(2,.s (.c (.bptr 0 0))),(3,.s (.c (.bptr 1 0))),(4,.s (.c (.p (PV.int .i64 many)))),(5,.s (.c (.p (PV.int .i64 i)))),(6,.s (.c (.p (PV.int .i64 key)))),(7,.s (.c (.p (PV.int .i64 class1)))),(8,.s (.c (.p (PV.int .i64 j)))),(9,.s (.c (.p (PV.row 0 0 t9)))),(10,.s (.c (.p (PV.int .i64 t10)))),(11,.s (.c (.p (PV.int .i64 t11))))],[.box [.loc 2 0 0 0 Len],.box [.loc 3 0 0 0 Len1],.arr 3 0 0 false xs,.arr 3 0 0 false xs1]⟩
def c197 (k:Nat) (p p1:Int) (p2 p3 qc qc1:List PV):R:=evF P E T k 197 [.s (.c (.p (PV.agg [.int .i64 p,.int .i64 p1,.row 2 0 p2,.row 2 0 p3]))),.s (.c (.p (PV.agg [.row 2 0 qc,.row 2 0 qc1])))] []
def r197 (b:Bool):R:=some ([.c (.p (PV.bool b))],[])
def R197 (x0:R) (K0:Bool->R):R:=x0.bind fun q0=>bif lensB q0.2 [] && lensS q0.1 [.c (.p (.bool))] then (cBool (resAt q0.1 0)).bind fun b=>K0 b else none
@[simp] theorem R197_r (b:Bool) (K0:Bool->R):R197 (r197 b) K0 = K0 b:=by kernel_rfl
def L197_1 (k n:Nat) (t21:List PV) (t22 t23 n1 n11:Int) (l l1 l2 l3:List PV):R:=evLoopAt P E T k 197 197 [] [1,1,0,1,0] [] n ⟨mkT 62 [(2,.s (.c (.bptr 0 0))),(3,.s (.c (.bptr 1 0))),(21,.s (.c (.p (PV.row 2 0 t21)))),(22,.s (.c (.p (PV.int .i64 t22)))),(23,.s (.c (.p (PV.int .i64 t23))))],[.box [.p (PV.int .i64 n1),.p (PV.int .i64 n11),.p (PV.row 2 0 l),.p (PV.row 2 0 l1)],.box [.p (PV.row 2 0 l2),.p (PV.row 2 0 l3)]]⟩
def c198 (k:Nat) (wide a:Int):R:=evF P E T k 198 [.s (.c (.p (PV.int .i64 wide))),.s (.c (.p (PV.int .u64 a)))] []
def r198 (qr:Int):R:=some ([.c (.p (PV.int .u64 qr))],[])
def R198 (x0:R) (K0:Int->R):R:=x0.bind fun q0=>bif lensB q0.2 [] && lensS q0.1 [.c (.p (.int .u64))] then (cInt (resAt q0.1 0) .u64).bind fun qr=>K0 qr else none
@[simp] theorem R198_r (qr:Int) (K0:Int->R):R198 (r198 qr) K0 = K0 qr:=by kernel_rfl
def L198_1 (k n:Nat) (wide a out k1:Int):R:=evLoopAt P E T k 198 198 [] [1,1,0,1,0] [] n ⟨mkT 20 [(0,.s (.c (.p (PV.int .i64 wide)))),(1,.s (.c (.p (PV.int .u64 a)))),(5,.s (.c (.p (PV.int .u64 out)))),(6,.s (.c (.p (PV.int .i64 k1))))],[]⟩
def c199 (k:Nat) (wide op a b:Int):R:=evF P E T k 199 [.s (.c (.p (PV.int .i64 wide))),.s (.c (.p (PV.int .i64 op))),.s (.c (.p (PV.int .u64 a))),.s (.c (.p (PV.int .u64 b)))] []
def r199 (qr:Int):R:=some ([.c (.p (PV.int .u64 qr))],[])
def R199 (x0:R) (K0:Int->R):R:=x0.bind fun q0=>bif lensB q0.2 [] && lensS q0.1 [.c (.p (.int .u64))] then (cInt (resAt q0.1 0) .u64).bind fun qr=>K0 qr else none
@[simp] theorem R199_r (qr:Int) (K0:Int->R):R199 (r199 qr) K0 = K0 qr:=by kernel_rfl
def c200 (k:Nat) (t:List PV) (k1:Int):R:=evF P E T k 200 [.s (.c (.p (PV.row 2 0 t))),.s (.c (.p (PV.int .i64 k1)))] []
def r200 (qr:Int):R:=some ([.c (.p (PV.int .i64 qr))],[])
def R200 (x0:R) (K0:Int->R):R:=x0.bind fun q0=>bif lensB q0.2 [] && lensS q0.1 [.c (.p (.int .i64))] then (cInt (resAt q0.1 0) .i64).bind fun qr=>K0 qr else none
@[simp] theorem R200_r (qr:Int) (K0:Int->R):R200 (r200 qr) K0 = K0 qr:=by kernel_rfl
def L200_1 (k n:Nat) (t:List PV) (many from1:Int):R:=evLoopAt P E T k 200 200 [] [1,1,1,0,0] [] n ⟨mkT 29 [(0,.s (.c (.p (PV.row 2 0 t)))),(5,.s (.c (.p (PV.int .i64 many)))),(8,.s (.c (.p (PV.int .i64 from1))))],[]⟩
def c213 (k:Nat) (wide a b:Int):R:=evF P E T k 213 [.s (.c (.p (PV.int .i64 wide))),.s (.c (.p (PV.int .u64 a))),.s (.c (.p (PV.int .u64 b)))] []
def r213 (qr qr1:Int) (b:Bool):R:=some ([.c (.p (PV.int .u64 qr)),.c (.p (PV.int .u64 qr1)),.c (.p (PV.bool b))],[])
def R213 (x0:R) (K0:Int->Int->Bool->R):R:=x0.bind fun q0=>bif lensB q0.2 [] && lensS q0.1 [.c (.p (.int .u64)),.c (.p (.int .u64)),.c (.p (.bool))] then (cInt (resAt q0.1 0) .u64).bind fun qr=>(cInt (resAt q0.1 1) .u64).bind fun qr1=>(cBool (resAt q0.1 2)).bind fun b=>K0 qr qr1 b else none
@[simp] theorem R213_r (qr qr1:Int) (b:Bool) (K0:Int->Int->Bool->R):R213 (r213 qr qr1 b) K0 = K0 qr qr1 b:=by kernel_rfl
def c214 (k:Nat) (wide a by1:Int) (left:Bool):R:=evF P E T k 214 [.s (.c (.p (PV.int .i64 wide))),.s (.c (.p (PV.int .u64 a))),.s (.c (.p (PV.int .u64 by1))),.s (.c (.p (PV.bool left)))] []
def r214 (qr:Int):R:=some ([.c (.p (PV.int .u64 qr))],[])
def R214 (x0:R) (K0:Int->R):R:=x0.bind fun q0=>bif lensB q0.2 [] && lensS q0.1 [.c (.p (.int .u64))] then (cInt (resAt q0.1 0) .u64).bind fun qr=>K0 qr else none
@[simp] theorem R214_r (qr:Int) (K0:Int->R):R214 (r214 qr) K0 = K0 qr:=by kernel_rfl
def c215 (k:Nat) (holds:Bool):R:=evF P E T k 215 [.s (.c (.p (PV.bool holds)))] []
def r215 (qr:Int):R:=some ([.c (.p (PV.int .u64 qr))],[])
def R215 (x0:R) (K0:Int->R):R:=x0.bind fun q0=>bif lensB q0.2 [] && lensS q0.1 [.c (.p (.int .u64))] then (cInt (resAt q0.1 0) .u64).bind fun qr=>K0 qr else none
@[simp] theorem R215_r (qr:Int) (K0:Int->R):R215 (r215 qr) K0 = K0 qr:=by kernel_rfl
def c216 (k:Nat) (wide a:Int):R:=evF P E T k 216 [.s (.c (.p (PV.int .i64 wide))),.s (.c (.p (PV.int .u64 a)))] []
def r216 (qr:Int):R:=some ([.c (.p (PV.int .i64 qr))],[])
def R216 (x0:R) (K0:Int->R):R:=x0.bind fun q0=>bif lensB q0.2 [] && lensS q0.1 [.c (.p (.int .i64))] then (cInt (resAt q0.1 0) .i64).bind fun qr=>K0 qr else none
@[simp] theorem R216_r (qr:Int) (K0:Int->R):R216 (r216 qr) K0 = K0 qr:=by kernel_rfl
def c217f184 (k:Nat) (qs:List PV) (n1 n11:Int) (l l1:List PV):R:=evF P E T k 217 [.s (.c (.p (PV.row 2 0 qs))),.s (.c (.fn 184 [0]))] [[.p (PV.int .i64 n1),.p (PV.int .i64 n11),.p (PV.row 2 0 l),.p (PV.row 2 0 l1)]]
def r217f184 (qr qr1:Int) (l l1:List PV) (qr2:Int):R:=some ([.c (.p (PV.int .i64 qr2))],[[.p (PV.int .i64 qr),.p (PV.int .i64 qr1),.p (PV.row 2 0 l),.p (PV.row 2 0 l1)]])
def R217f184 (x0:R) (K0:Int->Int->List PV->List PV->Int->R):R:=x0.bind fun q0=>bif lensB q0.2 [[.p (.int .i64),.p (.int .i64),.p (.row 2),.p (.row 2)]] && lensS q0.1 [.c (.p (.int .i64))] then (cInt (cellAt q0.2 0 0) .i64).bind fun qr=>(cInt (cellAt q0.2 0 1) .i64).bind fun qr1=>(cRow (cellAt q0.2 0 2) 2).bind fun l=>(cRow (cellAt q0.2 0 3) 2).bind fun l1=>(cInt (resAt q0.1 0) .i64).bind fun qr2=>K0 qr qr1 l l1 qr2 else none
@[simp] theorem R217f184_r (qr qr1:Int) (l l1:List PV) (qr2:Int) (K0:Int->Int->List PV->List PV->Int->R):R217f184 (r217f184 qr qr1 l l1 qr2) K0 = K0 qr qr1 l l1 qr2:=by kernel_rfl
def L217f184_1 (k n:Nat) (qs:List PV) (t7 t8 n1 n11:Int) (l l1:List PV):R:=evLoopAt P E T k 217 185217 [4] [1,0,1,0] [] n ⟨mkT 19 [(0,.s (.c (.p (PV.row 2 0 qs)))),(1,.s (.c (.fn 184 [0]))),(7,.s (.c (.p (PV.int .i64 t7)))),(8,.s (.c (.p (PV.int .i64 t8))))],[.box [.p (PV.int .i64 n1),.p (PV.int .i64 n11),.p (PV.row 2 0 l),.p (PV.row 2 0 l1)]]⟩
def c218 (k:Nat) (wide a:Int):R:=evF P E T k 218 [.s (.c (.p (PV.int .i64 wide))),.s (.c (.p (PV.int .u64 a)))] []
def r218 (b:Bool):R:=some ([.c (.p (PV.bool b))],[])
def R218 (x0:R) (K0:Bool->R):R:=x0.bind fun q0=>bif lensB q0.2 [] && lensS q0.1 [.c (.p (.bool))] then (cBool (resAt q0.1 0)).bind fun b=>K0 b else none
@[simp] theorem R218_r (b:Bool) (K0:Bool->R):R218 (r218 b) K0 = K0 b:=by kernel_rfl
def c220 (k:Nat) (wide a b:Int):R:=evF P E T k 220 [.s (.c (.p (PV.int .i64 wide))),.s (.c (.p (PV.int .u64 a))),.s (.c (.p (PV.int .u64 b)))] []
def r220 (qr qr1:Int) (b:Bool):R:=some ([.c (.p (PV.int .u64 qr)),.c (.p (PV.int .u64 qr1)),.c (.p (PV.bool b))],[])
def R220 (x0:R) (K0:Int->Int->Bool->R):R:=x0.bind fun q0=>bif lensB q0.2 [] && lensS q0.1 [.c (.p (.int .u64)),.c (.p (.int .u64)),.c (.p (.bool))] then (cInt (resAt q0.1 0) .u64).bind fun qr=>(cInt (resAt q0.1 1) .u64).bind fun qr1=>(cBool (resAt q0.1 2)).bind fun b=>K0 qr qr1 b else none
@[simp] theorem R220_r (qr qr1:Int) (b:Bool) (K0:Int->Int->Bool->R):R220 (r220 qr qr1 b) K0 = K0 qr qr1 b:=by kernel_rfl
def c221 (k:Nat) (wide a by1:Int) (left:Bool):R:=evF P E T k 221 [.s (.c (.p (PV.int .i64 wide))),.s (.c (.p (PV.int .u64 a))),.s (.c (.p (PV.int .u64 by1))),.s (.c (.p (PV.bool left)))] []
def r221 (qr:Int):R:=some ([.c (.p (PV.int .u64 qr))],[])
def R221 (x0:R) (K0:Int->R):R:=x0.bind fun q0=>bif lensB q0.2 [] && lensS q0.1 [.c (.p (.int .u64))] then (cInt (resAt q0.1 0) .u64).bind fun qr=>K0 qr else none
@[simp] theorem R221_r (qr:Int) (K0:Int->R):R221 (r221 qr) K0 = K0 qr:=by kernel_rfl
def L221_1 (k n:Nat) (wide a by1:Int) (left:Bool):R:=evLoopAt P E T k 221 221 [] [1,1,0,0] [] n ⟨mkT 25 [(0,.s (.c (.p (PV.int .i64 wide)))),(1,.s (.c (.p (PV.int .u64 a)))),(2,.s (.c (.p (PV.int .u64 by1)))),(3,.s (.c (.p (PV.bool left))))],[]⟩
def c222 (k:Nat) (is1:Bool):R:=evF P E T k 222 [.s (.c (.p (PV.bool is1)))] []
def r222 (qr:Int):R:=some ([.c (.p (PV.int .u64 qr))],[])
def R222 (x0:R) (K0:Int->R):R:=x0.bind fun q0=>bif lensB q0.2 [] && lensS q0.1 [.c (.p (.int .u64))] then (cInt (resAt q0.1 0) .u64).bind fun qr=>K0 qr else none
@[simp] theorem R222_r (qr:Int) (K0:Int->R):R222 (r222 qr) K0 = K0 qr:=by kernel_rfl
def c223 (k:Nat) (wide a:Int):R:=evF P E T k 223 [.s (.c (.p (PV.int .i64 wide))),.s (.c (.p (PV.int .u64 a)))] []
def r223 (qr:Int):R:=some ([.c (.p (PV.int .i64 qr))],[])
def R223 (x0:R) (K0:Int->R):R:=x0.bind fun q0=>bif lensB q0.2 [] && lensS q0.1 [.c (.p (.int .i64))] then (cInt (resAt q0.1 0) .i64).bind fun qr=>K0 qr else none
@[simp] theorem R223_r (qr:Int) (K0:Int->R):R223 (r223 qr) K0 = K0 qr:=by kernel_rfl
def c231 (k:Nat) (wide a b:Int):R:=evF P E T k 231 [.s (.c (.p (PV.int .i64 wide))),.s (.c (.p (PV.int .u64 a))),.s (.c (.p (PV.int .u64 b)))] []
def r231 (b:Bool):R:=some ([.c (.p (PV.bool b))],[])
def R231 (x0:R) (K0:Bool->R):R:=x0.bind fun q0=>bif lensB q0.2 [] && lensS q0.1 [.c (.p (.bool))] then (cBool (resAt q0.1 0)).bind fun b=>K0 b else none
@[simp] theorem R231_r (b:Bool) (K0:Bool->R):R231 (r231 b) K0 = K0 b:=by kernel_rfl
def c232 (k:Nat) (hi lo y:Int):R:=evF P E T k 232 [.s (.c (.p (PV.int .u64 hi))),.s (.c (.p (PV.int .u64 lo))),.s (.c (.p (PV.int .u64 y)))] []
def r232 (qr qr1:Int):R:=some ([.c (.p (PV.int .u64 qr)),.c (.p (PV.int .u64 qr1))],[])
def R232 (x0:R) (K0:Int->Int->R):R:=x0.bind fun q0=>bif lensB q0.2 [] && lensS q0.1 [.c (.p (.int .u64)),.c (.p (.int .u64))] then (cInt (resAt q0.1 0) .u64).bind fun qr=>(cInt (resAt q0.1 1) .u64).bind fun qr1=>K0 qr qr1 else none
@[simp] theorem R232_r (qr qr1:Int) (K0:Int->Int->R):R232 (r232 qr qr1) K0 = K0 qr qr1:=by kernel_rfl
def L232_1 (k n:Nat) (y qs yn1 yn0 un32 un1 un0 q1 rhat:Int):R:=evLoopAt P E T k 232 232 [] [1,1,1,1,1,1,1,1,1,1,1,1,1,1,0,0] [] n ⟨mkT 135 [(2,.s (.c (.p (PV.int .u64 y)))),(8,.s (.c (.p (PV.int .u64 qs)))),(9,.s (.c (.p (PV.int .u64 yn1)))),(10,.s (.c (.p (PV.int .u64 yn0)))),(11,.s (.c (.p (PV.int .u64 un32)))),(13,.s (.c (.p (PV.int .u64 un1)))),(14,.s (.c (.p (PV.int .u64 un0)))),(15,.s (.c (.p (PV.int .u64 q1)))),(16,.s (.c (.p (PV.int .u64 rhat))))],[]⟩
def c233 (k:Nat) (wide a b:Int):R:=evF P E T k 233 [.s (.c (.p (PV.int .i64 wide))),.s (.c (.p (PV.int .u64 a))),.s (.c (.p (PV.int .u64 b)))] []
def r233 (b:Bool):R:=some ([.c (.p (PV.bool b))],[])
def R233 (x0:R) (K0:Bool->R):R:=x0.bind fun q0=>bif lensB q0.2 [] && lensS q0.1 [.c (.p (.bool))] then (cBool (resAt q0.1 0)).bind fun b=>K0 b else none
@[simp] theorem R233_r (b:Bool) (K0:Bool->R):R233 (r233 b) K0 = K0 b:=by kernel_rfl
def c237 (k:Nat) (x:Int):R:=evF P E T k 237 [.s (.c (.p (PV.int .u64 x)))] []
def R237 (x0:R) (K0:Int->R):R:=x0.bind fun q0=>bif lensB q0.2 [] && lensS q0.1 [.c (.p (.int .i64))] then (cInt (resAt q0.1 0) .i64).bind fun qr=>K0 qr else none
end
end Go.Proofs.YthoecdnmokcfbaaGreat
/- Normal forms: printed by nf.py. -/
set_option linter.unusedVariables false
set_option maxRecDepth 100000
namespace Go.Proofs.YthoecdnmokcfbaaGreat
open Go.Dp
theorem n5 (k:Nat) (code more:List PV):c5 (k + 1) code more =
 R6 (c6 k code more) fun b1 =>
 bif b1 then
  r5 true
 else
  R33 (c33 k code) fun v1 v2 l1 l2 l3 l4 =>
  R34 (c34 k v1 v2 l1 l2 l3 l4) fun l5 b2 =>
  R35 (c35 k v1 v2 l1 l2 l3 l4) fun l6 b3 =>
  R36 (c36 k v1 v2 l1 l2 l3 l4) fun v3 b4 =>
  R37 (c37 k v1 v2 l1 l2 l3 l4) fun v4 b5 =>
  R38 (c38 k v1 v2 l1 l2 l3 l4) fun l7 b6 =>
  R39 (c39 k v1 v2 l1 l2 l3 l4) fun l8 b7 =>
  bif (!(b2 == b3)) then
   r5 false
  else
   R16 (c16 k l5 l6) fun b8 =>
   bif !b8 then
    r5 false
   else
    bif (!(b4 == b5)) then
     r5 false
    else
     bif (v3 != v4) then
      r5 false
     else
      bif (!(b6 == b7)) then
       r5 false
      else
       R17 (c17 k l7 l8) fun b9 =>
       bif !b9 then
        r5 false
       else
        bif b6 then
         bif (b2 == b4) then
          r5 false
         else
          bif b2 then
           R18 (c18 k v1 v2 l1 l2 l5) fun b10 b11 =>
           R8 (c8 k v1 v2 l1 l2 l3 l5) fun l9 b12 =>
           bif b11 then
            bif b10 then
            bif b12 then
            R16 (c16 k l9 l4) fun b13 =>
            r5 b13
            else r5 false
            else r5 false
           else r5 false
          else
           R40 (c40 k v1 v2 l1 l2 l3 l4) fun l10 b14 =>
           R41 (c41 k v1 v2 l1 l2 l3 l4) fun l11 b15 =>
           bif (!(b14 == b15)) then
            r5 false
           else
            R16 (c16 k l10 l11) fun b16 =>
            bif !b16 then
            r5 false
            else
            bif b14 then
            (lookP l4 (IntKind.i64.wrap (v3 - 1))).bind fun p1 =>
            (p1.atInt .i64 0).bind fun n1 =>
            (lookP l4 v3).bind fun p2 =>
            (p2.atInt .i64 0).bind fun n2 =>
            R42 (c42 k v1 v2 l1 l2 l3 n1 n2) fun l12 b17 =>
            (lookP l4 (IntKind.i64.wrap (v3 - 1))).bind fun p3 =>
            (p3.atInt .i64 0).bind fun n3 =>
            R43 (c43 k v1 v2 l1 l2 l3 n3) fun l13 b18 =>
            bif !b17 then
            r5 false
            else
            bif !b18 then
            r5 false
            else
            R32 (c32 k l12 l13) fun b19 =>
            bif !b19 then
            r5 false
            else
            R32 (c32 k l10 l13) fun b20 =>
            bif !b20 then
            r5 false
            else
            bif ((l10.length:Int) == 0) then
            r5 false
            else L5_1 k k l12 l10 (l10.length:Int) 0
            else r5 true
        else
         bif b2 then
          R18 (c18 k v1 v2 l1 l2 l5) fun b21 b22 =>
          R8 (c8 k v1 v2 l1 l2 l3 l5) fun l14 b23 =>
          bif b22 then
           bif b21 then
            bif b23 then
            R16 (c16 k l14 l4) fun b24 =>
            r5 b24
            else r5 false
           else r5 false
          else r5 false
         else
          R40 (c40 k v1 v2 l1 l2 l3 l4) fun l15 b25 =>
          R41 (c41 k v1 v2 l1 l2 l3 l4) fun l16 b26 =>
          bif (!(b25 == b26)) then
           r5 false
          else
           R16 (c16 k l15 l16) fun b27 =>
           bif !b27 then
            r5 false
           else
            bif b25 then
            (lookP l4 (IntKind.i64.wrap (v3 - 1))).bind fun p4 =>
            (p4.atInt .i64 0).bind fun n4 =>
            (lookP l4 v3).bind fun p5 =>
            (p5.atInt .i64 0).bind fun n5 =>
            R42 (c42 k v1 v2 l1 l2 l3 n4 n5) fun l17 b28 =>
            (lookP l4 (IntKind.i64.wrap (v3 - 1))).bind fun p6 =>
            (p6.atInt .i64 0).bind fun n6 =>
            R43 (c43 k v1 v2 l1 l2 l3 n6) fun l18 b29 =>
            bif !b28 then
            r5 false
            else
            bif !b29 then
            r5 false
            else
            R32 (c32 k l17 l18) fun b30 =>
            bif !b30 then
            r5 false
            else
            R32 (c32 k l15 l18) fun b31 =>
            bif !b31 then
            r5 false
            else
            bif ((l15.length:Int) == 0) then
            r5 false
            else L5_1 k k l17 l15 (l15.length:Int) 0
            else r5 true:=by kernel_rfl
theorem sL5_1 (k n:Nat) (on1 t222:List PV) (t223 t224:Int):L5_1 k (n + 1) on1 t222 t223 t224 =
 bif decide (t224 < t223) then
  (lookP t222 t224).bind fun p1 =>
  (p1.atInt .i64 0).bind fun n1 =>
  R19 (c19 k on1 n1) fun b1 =>
  bif b1 then
   r5 false
  else L5_1 k n on1 t222 t223 (IntKind.i64.wrap (t224 + 1))
 else r5 true:=by kernel_rfl
theorem n6 (k:Nat) (code more:List PV):c6 (k + 1) code more =
 bif decide ((code.length:Int) > 1048576) then
  r6 true
 else r6 (decide ((more.length:Int) > IntKind.i64.wrap (1048576 - (code.length:Int)))):=by kernel_rfl
theorem n8 (k:Nat) (p p1:Int) (p2 p3 v path:List PV):c8 (k + 1) p p1 p2 p3 v path =
 R49 (c49 k p p1 p2 p3 v) fun b1 =>
 bif !b1 then
  r8 [] false
 else
  bif decide ((path.length:Int) < 1) then
   r8 [] false
  else
   bif decide ((path.length:Int) > 200) then
    r8 [] false
   else L8_1 k k 0 path (path.length:Int) 0 p p1 p2 p3 v []:=by kernel_rfl
theorem sL8_1 (k n:Nat) (outLen:Nat) (t26:List PV) (t27 t28 n1 n11:Int) (l l1 l2 xs:List PV):L8_1 k (n + 1) outLen t26 t27 t28 n1 n11 l l1 l2 xs =
 bif decide (t28 < t27) then
  (lookP t26 t28).bind fun p1 =>
  (p1.atInt .i64 0).bind fun n2 =>
  bif decide (n2 < 0) then
   r8 [] false
  else
   R50 (c50 k n1 n11 l l1) fun v1 =>
   bif decide (n2>=v1) then
    r8 [] false
   else
    (lookP l2 n2).bind fun p2 =>
    (p2.atInt .i64 0).bind fun n3 =>
    bif decide ((outLen + 1) * 8<=LIM) && decide (outLen + 1<=LIM) then
     L8_1 k n (outLen + 1) t26 t27 (IntKind.i64.wrap (t28 + 1)) n1 n11 l l1 l2 ((xs.take outLen) ++ [PV.int .i64 n3])
    else none
 else r8 (xs.take outLen) true:=by kernel_rfl
theorem n13 (k:Nat) (p p1:Int) (p2 p3 v:List PV):c13 (k + 1) p p1 p2 p3 v =
 R51 (c51 k p p1 p2 p3 v) fun b1 =>
 bif !b1 then
  r13 [] false
 else
  R59 (c59 k p p1 p2 p3 p2) fun l1 =>
  R58 (c58 k v l1) fun l2 =>
  r13 l2 true:=by kernel_rfl
theorem n16 (k:Nat) (a b:List PV):c16 (k + 1) a b =
 bif ((a.length:Int) != (b.length:Int)) then
  r16 false
 else L16_1 k k a b (a.length:Int) 0:=by kernel_rfl
theorem sL16_1 (k n:Nat) (a b:List PV) (t12 t13:Int):L16_1 k (n + 1) a b t12 t13 =
 bif decide (t13 < t12) then
  (lookP a t13).bind fun p1 =>
  (p1.atInt .i64 0).bind fun n1 =>
  (lookP b t13).bind fun p2 =>
  (p2.atInt .i64 0).bind fun n2 =>
  bif (n1 != n2) then
   r16 false
  else L16_1 k n a b t12 (IntKind.i64.wrap (t13 + 1))
 else r16 true:=by kernel_rfl
theorem n17 (k:Nat) (a b:List PV):c17 (k + 1) a b =
 bif ((a.length:Int) != (b.length:Int)) then
  r17 false
 else L17_1 k k a b (a.length:Int) 0:=by kernel_rfl
theorem sL17_1 (k n:Nat) (a b:List PV) (t12 t13:Int):L17_1 k (n + 1) a b t12 t13 =
 bif decide (t13 < t12) then
  (lookP a t13).bind fun p1 =>
  (p1.atRow 0 0).bind fun l1 =>
  (lookP b t13).bind fun p2 =>
  (p2.atRow 0 0).bind fun l2 =>
  R16 (c16 k l1 l2) fun b1 =>
  bif !b1 then
   r17 false
  else L17_1 k n a b t12 (IntKind.i64.wrap (t13 + 1))
 else r17 true:=by kernel_rfl
theorem n18 (k:Nat) (p p1:Int) (p2 p3 path:List PV):c18 (k + 1) p p1 p2 p3 path =
 bif decide ((path.length:Int) < 1) then
  r18 false false
 else
  bif decide ((path.length:Int) > 200) then
   r18 false false
  else
   R62f63p (c62f63 k path p p1 p2 p3) fun b1 =>
   bif b1 then
    r18 false false
   else L18_1 k k path 1 p p1 p2 p3:=by kernel_rfl
theorem sL18_1 (k n:Nat) (path:List PV) (i n1 n11:Int) (l l1:List PV):L18_1 k (n + 1) path i n1 n11 l l1 =
 bif decide (i < (path.length:Int)) then
  (lookP path (IntKind.i64.wrap (i - 1))).bind fun p1 =>
  (p1.atInt .i64 0).bind fun n2 =>
  (lookP path i).bind fun p2 =>
  (p2.atInt .i64 0).bind fun n3 =>
  R66 (c66 k n1 n11 l l1 n2) fun l2 =>
  R65 (c65 k l2 n3) fun b1 =>
  bif !b1 then
   r18 false true
  else L18_1 k n path (IntKind.i64.wrap (i + 1)) n1 n11 l l1
 else
  (lookP path 0).bind fun p3 =>
  (p3.atInt .i64 0).bind fun n4 =>
  R68 (c68 k n1 n11 l l1 n4) fun l3 =>
  R67 (c67 k n1 n11 l l1 l l3) fun b2 =>
  r18 b2 true:=by kernel_rfl
theorem n19 (k:Nat) (l:List PV) (n1:Int):c19 (k + 1) l n1 =
 L19_1 k k n1 l (l.length:Int) 0:=by kernel_rfl
theorem sL19_1 (k n:Nat) (n1:Int) (t7:List PV) (t8 t9:Int):L19_1 k (n + 1) n1 t7 t8 t9 =
 bif decide (t9 < t8) then
  (lookP t7 t9).bind fun p1 =>
  (p1.atInt .i64 0).bind fun n2 =>
  bif (n2 == n1) then
   r19 true
  else L19_1 k n n1 t7 t8 (IntKind.i64.wrap (t9 + 1))
 else r19 false:=by kernel_rfl
theorem n31 (k:Nat) (p p1:Int) (p2 p3 v:List PV) (class1:Int):c31 (k + 1) p p1 p2 p3 v class1 =
 R86 (c86 k p p1 p2 p3 v class1) fun b1 =>
 bif !b1 then
  r31 [] false
 else
  R89 (c89 k p p1 p2 p3 v class1) fun l1 =>
  r31 l1 true:=by kernel_rfl
theorem n32 (k:Nat) (some1 in1:List PV):c32 (k + 1) some1 in1 =
 L32_1 k k in1 some1 (some1.length:Int) 0:=by kernel_rfl
theorem sL32_1 (k n:Nat) (in1 t7:List PV) (t8 t9:Int):L32_1 k (n + 1) in1 t7 t8 t9 =
 bif decide (t9 < t8) then
  (lookP t7 t9).bind fun p1 =>
  (p1.atInt .i64 0).bind fun n1 =>
  R19 (c19 k in1 n1) fun b1 =>
  bif !b1 then
   r32 false
  else L32_1 k n in1 t7 t8 (IntKind.i64.wrap (t9 + 1))
 else r32 true:=by kernel_rfl
theorem n33 (k:Nat) (code:List PV):c33 (k + 1) code =
 R90 (c90 k code) fun v1 v2 l1 l2 l3 l4 =>
 r33 v1 v2 l1 l2 l3 l4:=by kernel_rfl
theorem n34 (k:Nat) (p p1:Int) (p2 p3 v path:List PV):c34 (k + 1) p p1 p2 p3 v path =
 R91 (c91 k p p1 p2 p3 v path 200) fun b1 =>
 bif !b1 then
  r34 [] false
 else
  R92 (c92 k p p1 p2 p3 v path) fun l1 =>
  bif l1.isEmpty then
   r34 [] false
  else r34 l1 true:=by kernel_rfl
theorem n35 (k:Nat) (p p1:Int) (p2 p3 v path:List PV):c35 (k + 1) p p1 p2 p3 v path =
 R93 (c93 k p p1 p2 p3 v path) fun b1 =>
 bif !b1 then
  r35 [] false
 else
  R94 (c94 k p p1 p2 p3 v path) fun l1 =>
  R95 (c95 k l1) fun v1 =>
  bif decide (v1>=0) then
   r35 [] false
  else
   R96 (c96 k p p1 p2 p3 l1) fun l2 =>
   r35 l2 true:=by kernel_rfl
theorem n36 (k:Nat) (p p1:Int) (p2 p3 v path:List PV):c36 (k + 1) p p1 p2 p3 v path =
 R91 (c91 k p p1 p2 p3 v path 200) fun b1 =>
 bif !b1 then
  r36 0 false
 else
  R98 (c98 k p p1 p2 p3 v path) fun l1 =>
  R97p (c97 k (l1.take l1.length)) fun v1 =>
  r36 (maxI 0 v1) (decide (v1>=0)):=by kernel_rfl
theorem n37 (k:Nat) (p p1:Int) (p2 p3 v path:List PV):c37 (k + 1) p p1 p2 p3 v path =
 R93 (c93 k p p1 p2 p3 v path) fun b1 =>
 bif !b1 then
  r37 0 false
 else
  R94 (c94 k p p1 p2 p3 v path) fun l1 =>
  R95 (c95 k l1) fun v1 =>
  bif decide (v1 < 0) then
   r37 0 false
  else r37 v1 true:=by kernel_rfl
theorem n38 (k:Nat) (p p1:Int) (p2 p3 v path:List PV):c38 (k + 1) p p1 p2 p3 v path =
 R91 (c91 k p p1 p2 p3 v path 200) fun b1 =>
 bif !b1 then
  r38 [] false
 else
  R98 (c98 k p p1 p2 p3 v path) fun l1 =>
  r38 (l1.take l1.length) true:=by kernel_rfl
theorem n39 (k:Nat) (p p1:Int) (p2 p3 v path:List PV):c39 (k + 1) p p1 p2 p3 v path =
 R93 (c93 k p p1 p2 p3 v path) fun b1 =>
 bif !b1 then
  r39 [] false
 else
  R94 (c94 k p p1 p2 p3 v path) fun l1 =>
  r39 l1 true:=by kernel_rfl
theorem n40 (k:Nat) (p p1:Int) (p2 p3 v path:List PV):c40 (k + 1) p p1 p2 p3 v path =
 R91 (c91 k p p1 p2 p3 v path 200) fun b1 =>
 bif !b1 then
  r40 [] false
 else
  R99 (c99 k p p1 p2 p3 v path) fun l1 b2 =>
  r40 l1 b2:=by kernel_rfl
theorem n41 (k:Nat) (p p1:Int) (p2 p3 v path:List PV):c41 (k + 1) p p1 p2 p3 v path =
 R37 (c37 k p p1 p2 p3 v path) fun v1 b1 =>
 bif !b1 then
  r41 [] false
 else
  bif (v1 == 0) then
   r41 [] false
  else
   R94 (c94 k p p1 p2 p3 v path) fun l1 =>
   (lookP l1 (IntKind.i64.wrap (v1 - 1))).bind fun p4 =>
   (p4.atRow 0 0).bind fun l2 =>
   r41 l2 true:=by kernel_rfl
theorem n42 (k:Nat) (p p1:Int) (p2 p3 v:List PV) (class1 to:Int):c42 (k + 1) p p1 p2 p3 v class1 to =
 R84 (c84 k p p1 p2 p3 v class1) fun b1 =>
 bif !b1 then
  r42 [] false
 else
  R84 (c84 k p p1 p2 p3 v to) fun b2 =>
  bif !b2 then
   r42 [] false
  else
   R100 (c100 k p p1 p2 p3 v class1 to) fun l1 =>
   r42 l1 true:=by kernel_rfl
theorem n43 (k:Nat) (p p1:Int) (p2 p3 v:List PV) (class1:Int):c43 (k + 1) p p1 p2 p3 v class1 =
 R84 (c84 k p p1 p2 p3 v class1) fun b1 =>
 bif !b1 then
  r43 [] false
 else
  R101 (c101 k v class1) fun l1 =>
  r43 (l1.take l1.length) true:=by kernel_rfl
theorem n44 (k:Nat) (l:List PV) (n1 n11:Int):c44 (k + 1) l n1 n11 =
 R102 (c102 k [PV.int .i64 1,PV.int .i64 2,PV.int .i64 2,PV.int .i64 2,PV.int .i64 3,PV.int .i64 4] l n1 n11) fun l1 v1 v2 v3 =>
 bif decide (v3 < 3) then
  bif !(v3 == 0) then
   R103 (c103 k (IntKind.i64.wrap ((6:Int).tdiv v3)) l1 v1 v2) fun l2 v4 v5 v6 =>
   L44_1 k k v3 (IntKind.i64.wrap (1 + v6)) l2 v4 v5 0 0 [] []
  else none
 else L44_1 k k v3 1 l1 v1 v2 0 0 [] []:=by kernel_rfl
theorem sL44_1 (k n:Nat) (wide vars:Int) (l:List PV) (n1 n11 n12 n13:Int) (l1 l2:List PV):L44_1 k (n + 1) wide vars l n1 n11 n12 n13 l1 l2 =
 bif decide (IntKind.i64.wrap (wide * vars) > 5) then
  L44_1 k n wide (IntKind.i64.wrap (vars - 1)) l n1 n11 n12 n13 l1 l2
 else
  bif decide (vars > 4) then
   L44_1 k n wide (IntKind.i64.wrap (vars - 1)) l n1 n11 n12 n13 l1 l2
  else
   R104 (c104 k wide vars l n1 n11) fun l3 v1 v2 v3 v4 l4 l5 =>
   R103 (c103 k 40 l3 v1 v2) fun l6 v5 v6 v7 =>
   bif (v7 == 0) then
    R102 (c102 k [PV.int .i64 0,PV.int .i64 4,PV.int .i64 5] l6 v5 v6) fun l7 v8 v9 v10 =>
    bif (l5.length == l5.length) then
     r44 l7 v8 v9 v3 v10 l4 (l5.take l5.length)
    else none
   else
    bif (v7 == 1) then
     r44 l6 v5 v6 v3 v4 l4 []
    else
     bif (v7 == 2) then
      bif decide ((0:Int) < (l5.length:Int)) then
       (l5[0]?).bind fun p1 =>
       (putPart p1 2 0 (PV.row 2 0 [PV.agg [.int .i64 1,.int .u64 0]]) 0).bind fun p2 =>
       bif (l5.length == (l5.set 0 p2).length) then
        r44 l6 v5 v6 v3 v4 l4 ((l5.set 0 p2).take l5.length)
       else none
      else none
     else
      bif (v7 == 3) then
       bif decide ((0:Int) < (l5.length:Int)) then
        (l5[0]?).bind fun p3 =>
        (p3.atRow 2 1).bind fun l8 =>
        bif decide ((l8.length + 1) * 32<=LIM) && decide (l8.length + 1<=LIM) then
         bif decide ((0:Int) < (l5.length:Int)) then
          (l5[0]?).bind fun p4 =>
          bif decide (l8.length + 1<=(l8 ++ [PV.agg [.int .i64 0,.row 2 0 [PV.agg [.int .i64 1,.int .u64 0]]]]).length) then
           (putPart p4 2 1 (PV.row 2 0 ((l8 ++ [PV.agg [.int .i64 0,.row 2 0 [PV.agg [.int .i64 1,.int .u64 0]]]]).take (l8.length + 1))) 0).bind fun p5 =>
           bif (l5.length == (l5.set 0 p5).length) then
            r44 l6 v5 v6 v3 v4 l4 ((l5.set 0 p5).take l5.length)
           else none
          else none
         else none
        else none
       else none
      else
       bif (l5.length == l5.length) then
        r44 l6 v5 v6 v3 v4 l4 (l5.take l5.length)
       else none:=by kernel_rfl
theorem n45 (k:Nat) (p p1:Int) (p2 p3 l:List PV) (n1 n11:Int):c45 (k + 1) p p1 p2 p3 l n1 n11 =
 R106 (c106 k p p1 p2 p3 3 l n1 n11) fun l1 v1 v2 l2 =>
 R105 (c105 k p p1 p2 p3 l2) fun l3 b1 =>
 R48 (c48 k 3 l1 v1 v2) fun l4 v3 v4 b2 =>
 bif b2 then
  R108 (c108 k 4 3 l4 v3 v4) fun l5 v5 v6 l6 =>
  R107p (c107 k p p1 p2 p3 (l3.take l3.length) l6) fun l7 b3 =>
  bif b3 then
   R103 (c103 k 40 l5 v5 v6) fun l8 v7 v8 v9 =>
   bif (v9 == 0) then
    bif decide ((l7.length + 1) * 8<=LIM) && decide (l7.length + 1<=LIM) then
     r45 l8 v7 v8 (((l7.take l7.length) ++ [PV.int .i64 0]).take (l7.length + 1))
    else none
   else
    bif (v9 == 1) then
     bif decide ((l7.length:Int) > 0) then
      bif decide ((0:Int)<=IntKind.i64.wrap ((l7.length:Int) - 1)) && decide (IntKind.i64.wrap ((l7.length:Int) - 1) < (l7.length:Int)) then
       (l7[0 + ((IntKind.i64.wrap ((l7.length:Int) - 1)).toNat)]?).bind fun p4 =>
       r45 l8 v7 v8 ((l7.set (0 + ((IntKind.i64.wrap ((l7.length:Int) - 1)).toNat)) (PV.int .i64 (l7.length:Int))).take l7.length)
      else none
     else r45 l8 v7 v8 (l7.take l7.length)
    else r45 l8 v7 v8 (l7.take l7.length)
  else
   R103 (c103 k 40 l5 v5 v6) fun l9 v10 v11 v12 =>
   bif (v12 == 0) then
    bif decide ((l3.length + 1) * 8<=LIM) && decide (l3.length + 1<=LIM) then
     r45 l9 v10 v11 (((l3.take l3.length) ++ [PV.int .i64 0]).take (l3.length + 1))
    else none
   else
    bif (v12 == 1) then
     bif decide ((l3.length:Int) > 0) then
      bif decide ((0:Int)<=IntKind.i64.wrap ((l3.length:Int) - 1)) && decide (IntKind.i64.wrap ((l3.length:Int) - 1) < (l3.length:Int)) then
       (l3[0 + ((IntKind.i64.wrap ((l3.length:Int) - 1)).toNat)]?).bind fun p5 =>
       r45 l9 v10 v11 ((l3.set (0 + ((IntKind.i64.wrap ((l3.length:Int) - 1)).toNat)) (PV.int .i64 (l3.length:Int))).take l3.length)
      else none
     else r45 l9 v10 v11 (l3.take l3.length)
    else r45 l9 v10 v11 (l3.take l3.length)
 else
  R103 (c103 k 40 l4 v3 v4) fun l10 v13 v14 v15 =>
  bif (v15 == 0) then
   bif decide ((l3.length + 1) * 8<=LIM) && decide (l3.length + 1<=LIM) then
    r45 l10 v13 v14 (((l3.take l3.length) ++ [PV.int .i64 0]).take (l3.length + 1))
   else none
  else
   bif (v15 == 1) then
    bif decide ((l3.length:Int) > 0) then
     bif decide ((0:Int)<=IntKind.i64.wrap ((l3.length:Int) - 1)) && decide (IntKind.i64.wrap ((l3.length:Int) - 1) < (l3.length:Int)) then
      (l3[0 + ((IntKind.i64.wrap ((l3.length:Int) - 1)).toNat)]?).bind fun p6 =>
      r45 l10 v13 v14 ((l3.set (0 + ((IntKind.i64.wrap ((l3.length:Int) - 1)).toNat)) (PV.int .i64 (l3.length:Int))).take l3.length)
     else none
    else r45 l10 v13 v14 (l3.take l3.length)
   else r45 l10 v13 v14 (l3.take l3.length):=by kernel_rfl
theorem n48 (k:Nat) (n1:Int) (l:List PV) (n11 n12:Int):c48 (k + 1) n1 l n11 n12 =
 R103 (c103 k n1 l n11 n12) fun l1 v1 v2 v3 =>
 r48 l1 v1 v2 (v3 == 0):=by kernel_rfl
theorem n49 (k:Nat) (p p1:Int) (p2 p3 v:List PV):c49 (k + 1) p p1 p2 p3 v =
 R69 (c69 k p p1 p2 p3) fun b1 =>
 bif b1 then
  R50 (c50 k p p1 p2 p3) fun v1 =>
  R113 (c113 k v v1) fun b2 =>
  r49 b2
 else r49 false:=by kernel_rfl
theorem n50 (k:Nat) (p p1:Int) (p2 p3:List PV):c50 (k + 1) p p1 p2 p3 =
 bif !decide (IntKind.i64.wrap (p * p1) < 0) then
  r50 (shlI .i64 1 (IntKind.i64.wrap (p * p1)))
 else none:=by kernel_rfl
theorem n51 (k:Nat) (p p1:Int) (p2 p3 v:List PV):c51 (k + 1) p p1 p2 p3 v =
 R114 (c114 k p p1 p2 p3) fun b1 =>
 bif !b1 then
  r51 false
 else
  R115 (c115 k p p1 p2 p3) fun v1 =>
  bif ((v.length:Int) != v1) then
   r51 false
  else L51_1 k k 0 v (v.length:Int) 0:=by kernel_rfl
theorem sL51_1 (k n:Nat) (many:Int) (t20:List PV) (t21 t22:Int):L51_1 k (n + 1) many t20 t21 t22 =
 bif decide (t22 < t21) then
  (lookP t20 t22).bind fun p1 =>
  (p1.atInt .i64 0).bind fun n1 =>
  R52 (c52 k n1 0 many) fun b1 =>
  bif !b1 then
   r51 false
  else
   bif (n1 == many) then
    L51_1 k n (IntKind.i64.wrap (many + 1)) t20 t21 (IntKind.i64.wrap (t22 + 1))
   else L51_1 k n many t20 t21 (IntKind.i64.wrap (t22 + 1))
 else r51 true:=by kernel_rfl
theorem n52 (k:Nat) (n1 lo hi:Int):c52 (k + 1) n1 lo hi =
 bif decide (n1>=lo) then
  r52 (decide (n1<=hi))
 else r52 false:=by kernel_rfl
theorem n53 (k:Nat) (l:List PV) (lo hi:Int):c53 (k + 1) l lo hi =
 L53_1 k k lo hi l (l.length:Int) 0:=by kernel_rfl
theorem sL53_1 (k n:Nat) (lo hi:Int) (t9:List PV) (t10 t11:Int):L53_1 k (n + 1) lo hi t9 t10 t11 =
 bif decide (t11 < t10) then
  (lookP t9 t11).bind fun p1 =>
  (p1.atInt .i64 0).bind fun n1 =>
  R52 (c52 k n1 lo hi) fun b1 =>
  bif !b1 then
   r53 false
  else L53_1 k n lo hi t9 t10 (IntKind.i64.wrap (t11 + 1))
 else r53 true:=by kernel_rfl
theorem n57 (k:Nat) (p p1:Int) (p2 p3 t:List PV):c57 (k + 1) p p1 p2 p3 t =
 R50 (c50 k p p1 p2 p3) fun v1 =>
 L57_1 k k t 0 v1 0 p p1 p2 p3 []:=by kernel_rfl
theorem sL57_1 (k n:Nat) (t:List PV) (outLen:Nat) (t9 t10 n1 n11:Int) (l l1 xs:List PV):L57_1 k (n + 1) t outLen t9 t10 n1 n11 l l1 xs =
 bif decide (t10 < t9) then
  R68 (c68 k n1 n11 l l1 t10) fun l2 =>
  R67 (c67 k n1 n11 l l1 t l2) fun b1 =>
  bif b1 then
   bif decide ((outLen + 1) * 8<=LIM) && decide (outLen + 1<=LIM) then
    L57_1 k n t (outLen + 1) t9 (IntKind.i64.wrap (t10 + 1)) n1 n11 l l1 ((xs.take outLen) ++ [PV.int .i64 t10])
   else none
  else L57_1 k n t outLen t9 (IntKind.i64.wrap (t10 + 1)) n1 n11 l l1 xs
 else r57 (xs.take outLen):=by kernel_rfl
theorem n58 (k:Nat) (v states:List PV):c58 (k + 1) v states =
 L58_1 k k 0 states (states.length:Int) 0 v []:=by kernel_rfl
theorem sL58_1 (k n:Nat) (outLen:Nat) (t8:List PV) (t9 t10:Int) (l xs:List PV):L58_1 k (n + 1) outLen t8 t9 t10 l xs =
 bif decide (t10 < t9) then
  (lookP t8 t10).bind fun p1 =>
  (p1.atInt .i64 0).bind fun n1 =>
  (lookP l n1).bind fun p2 =>
  (p2.atInt .i64 0).bind fun n2 =>
  R119 (c119 k (xs.take outLen) n2) fun l1 =>
  L58_1 k n l1.length t8 t9 (IntKind.i64.wrap (t10 + 1)) l l1
 else r58 (xs.take outLen):=by kernel_rfl
theorem n59 (k:Nat) (p p1:Int) (p2 p3 t:List PV):c59 (k + 1) p p1 p2 p3 t =
 L59_1 k k t 0 0 p p1 p2 p3 []:=by kernel_rfl
theorem sL59_1 (k n:Nat) (t:List PV) (outLen:Nat) (no n1 n11:Int) (l l1 xs:List PV):L59_1 k (n + 1) t outLen no n1 n11 l l1 xs =
 R115 (c115 k n1 n11 l l1) fun v1 =>
 bif decide (no < v1) then
  R121 (c121 k n1 n11 l l1 no) fun l2 =>
  R120 (c120 k n1 n11 l l1 t l2) fun b1 =>
  bif b1 then
   bif decide ((outLen + 1) * 8<=LIM) && decide (outLen + 1<=LIM) then
    L59_1 k n t (outLen + 1) (IntKind.i64.wrap (no + 1)) n1 n11 l l1 ((xs.take outLen) ++ [PV.int .i64 no])
   else none
  else L59_1 k n t outLen (IntKind.i64.wrap (no + 1)) n1 n11 l l1 xs
 else r59 (xs.take outLen):=by kernel_rfl
theorem n62f63 (k:Nat) (qs:List PV) (n1 n11:Int) (l l1:List PV):c62f63 (k + 1) qs n1 n11 l l1 =
 R124f63p (c124f63 k qs n1 n11 l l1) fun v1 =>
 r62f63 (decide (v1>=0)):=by kernel_rfl
theorem n62f152 (k:Nat) (qs:List PV) (n1:Int):c62f152 (k + 1) qs n1 =
 R124f152p (c124f152 k qs n1) fun v1 =>
 r62f152 (decide (v1>=0)):=by kernel_rfl
theorem n62f162 (k:Nat) (qs l:List PV) (n1:Int):c62f162 (k + 1) qs l n1 =
 R124f162p (c124f162 k qs l n1) fun v1 =>
 r62f162 (decide (v1>=0)):=by kernel_rfl
theorem n62f154 (k:Nat) (qs l:List PV) (n1:Int):c62f154 (k + 1) qs l n1 =
 R124f154p (c124f154 k qs l n1) fun v1 =>
 r62f154 (decide (v1>=0)):=by kernel_rfl
theorem n62f143 (k:Nat) (qs:List PV) (n1:Int):c62f143 (k + 1) qs n1 =
 R124f143 (c124f143 k qs n1) fun v1 v2 =>
 r62f143 v1 (decide (v2>=0)):=by kernel_rfl
theorem n63 (k:Nat) (no n1 n11:Int) (l l1:List PV):c63 (k + 1) no n1 n11 l l1 =
 R64 (c64 k n1 n11 l l1 no) fun b1 =>
 r63 (!b1):=by kernel_rfl
theorem n64 (k:Nat) (p p1:Int) (p2 p3:List PV) (no:Int):c64 (k + 1) p p1 p2 p3 no =
 R69 (c69 k p p1 p2 p3) fun b1 =>
 bif b1 then
  bif decide (no>=0) then
   R50 (c50 k p p1 p2 p3) fun v1 =>
   r64 (decide (no < v1))
  else r64 false
 else r64 false:=by kernel_rfl
theorem n65 (k:Nat) (qs:List PV) (v:Int):c65 (k + 1) qs v =
 R125 (c125 k qs v) fun v1 =>
 r65 (decide (v1>=0)):=by kernel_rfl
end Go.Proofs.YthoecdnmokcfbaaGreat
/- Normal forms: printed by nf.py. -/
set_option linter.unusedVariables false
set_option maxRecDepth 100000
namespace Go.Proofs.YthoecdnmokcfbaaGreat
open Go.Dp
theorem n66 (k:Nat) (p p1:Int) (p2 p3:List PV) (no:Int):c66 (k + 1) p p1 p2 p3 no =
 R68 (c68 k p p1 p2 p3 no) fun l1 =>
 L66_1 k k no l1 0 p3 (p3.length:Int) 0 p p1 p2 p3 []:=by kernel_rfl
theorem sL66_1 (k n:Nat) (no:Int) (qs:List PV) (outLen:Nat) (t14:List PV) (t15 t16 n1 n11:Int) (l l1 xs:List PV):L66_1 k (n + 1) no qs outLen t14 t15 t16 n1 n11 l l1 xs =
 bif decide (t16 < t15) then
  (lookP t14 t16).bind fun p1 =>
  bif p1.shp 2 then
   (p1.atRow 2 0).bind fun l2 =>
   (p1.atRow 2 1).bind fun l3 =>
   R67 (c67 k n1 n11 l l1 l2 qs) fun b1 =>
   bif b1 then
    R127 (c127 k n1 n11 l l1 l2 l3 qs) fun l4 =>
    R126 (c126 k n1 n11 l l1 l4) fun v1 =>
    bif decide ((outLen + 1) * 8<=LIM) && decide (outLen + 1<=LIM) then
     L66_1 k n no qs (outLen + 1) t14 t15 (IntKind.i64.wrap (t16 + 1)) n1 n11 l l1 ((xs.take outLen) ++ [PV.int .i64 v1])
    else none
   else L66_1 k n no qs outLen t14 t15 (IntKind.i64.wrap (t16 + 1)) n1 n11 l l1 xs
  else none
 else
  bif ((outLen:Int) == 0) then
   r66 [PV.int .i64 no]
  else
   bif decide (outLen<=LIM) then
    (intsOf (xs.take outLen)).bind fun zs1 =>
    bif decide (outLen<=LIM) then
     (intsOf ((((sortI zs1).map (PV.int .i64)) ++ (xs.drop outLen)).take outLen)).bind fun zs2 =>
     r66 (((((compI zs2).map (PV.int .i64)) ++ (List.replicate (outLen - (compI zs2).length) (PV.int .i64 0))) ++ ((((sortI zs1).map (PV.int .i64)) ++ (xs.drop outLen)).drop outLen)).take ((compI zs2).length))
    else none
   else none:=by kernel_rfl
theorem n67 (k:Nat) (p p1:Int) (p2 p3 t qs:List PV):c67 (k + 1) p p1 p2 p3 t qs =
 R130 (c130 k p t qs) fun v1 =>
 r67 (v1 == 1):=by kernel_rfl
theorem n68 (k:Nat) (p p1:Int) (p2 p3:List PV) (no:Int):c68 (k + 1) p p1 p2 p3 no =
 L68_1 k k no 0 p1 0 p p1 p2 p3 []:=by kernel_rfl
theorem sL68_1 (k n:Nat) (no:Int) (outLen:Nat) (t9 t10 n1 n11:Int) (l l1 xs:List PV):L68_1 k (n + 1) no outLen t9 t10 n1 n11 l l1 xs =
 bif decide (t10 < t9) then
  bif !decide (IntKind.i64.wrap (n1 * t10) < 0) then
   R131 (c131 k n1) fun v1 =>
   bif decide ((outLen + 1) * 8<=LIM) && decide (outLen + 1<=LIM) then
    L68_1 k n no (outLen + 1) t9 (IntKind.i64.wrap (t10 + 1)) n1 n11 l l1 ((xs.take outLen) ++ [PV.int .u64 (bitsOp .and .u64 (shrI .u64 (IntKind.u64.wrap no) (IntKind.i64.wrap (n1 * t10))) v1)])
   else none
  else none
 else r68 (xs.take outLen):=by kernel_rfl
theorem n69 (k:Nat) (p p1:Int) (p2 p3:List PV):c69 (k + 1) p p1 p2 p3 =
 R132 (c132 k p p1 p2 p3) fun b1 =>
 bif b1 then
  r69 (decide (IntKind.i64.wrap (p * p1)<=5))
 else r69 false:=by kernel_rfl
theorem n72 (k:Nat) (p p1:Int) (p2 p3 t:List PV):c72 (k + 1) p p1 p2 p3 t =
 R136 (c136 k p p1 t 2) fun b1 =>
 r72 b1:=by kernel_rfl
theorem n74 (k:Nat) (p p1:Int) (p2 p3 t:List PV):c74 (k + 1) p p1 p2 p3 t =
 R137 (c137 k p p1 t) fun v1 =>
 r74 (v1 == 2):=by kernel_rfl
theorem n75 (k:Nat) (a b:List PV):c75 (k + 1) a b =
 L75_1 k k b a (a.length:Int) 0:=by kernel_rfl
theorem sL75_1 (k n:Nat) (b t7:List PV) (t8 t9:Int):L75_1 k (n + 1) b t7 t8 t9 =
 bif decide (t9 < t8) then
  (lookP t7 t9).bind fun p1 =>
  (p1.atInt .i64 0).bind fun n1 =>
  R138 (c138 k b n1) fun b1 =>
  bif b1 then
   r75 true
  else L75_1 k n b t7 t8 (IntKind.i64.wrap (t9 + 1))
 else r75 false:=by kernel_rfl
theorem n77 (k:Nat) (wide vars:Int) (t:List PV):c77 (k + 1) wide vars t =
 R139 (c139 k wide) fun b1 =>
 bif !b1 then
  r77 false
 else
  R140 (c140 k vars) fun b2 =>
  bif !b2 then
   r77 false
  else
   bif decide ((t.length:Int) < 1) then
    r77 false
   else
    bif decide ((t.length:Int) > 48) then
     r77 false
    else L77_1 k k wide vars 0 t (t.length:Int) 0 []:=by kernel_rfl
theorem sL77_1 (k n:Nat) (wide vars:Int) (stackLen:Nat) (t33:List PV) (t34 t35:Int) (xs:List PV):L77_1 k (n + 1) wide vars stackLen t33 t34 t35 xs =
 bif decide (t35 < t34) then
  (lookP t33 t35).bind fun p1 =>
  bif p1.shp 2 then
   (p1.atInt .i64 0).bind fun n1 =>
   (p1.atInt .u64 1).bind fun n2 =>
   R141 (c141 k n1) fun v1 v2 v3 =>
   bif (v3 == 0) then
    r77 false
   else
    R142 (c142 k wide vars n1 n2) fun b1 =>
    bif !b1 then
     r77 false
    else
     bif decide (IntKind.i64.wrap ((stackLen:Int) - v1) < 0) then
      r77 false
     else
      bif decide ((0:Int)<=IntKind.i64.wrap ((stackLen:Int) - v1)) && decide (IntKind.i64.wrap ((stackLen:Int) - v1)<=(stackLen:Int)) && decide ((stackLen:Int)<=(stackLen:Int)) then
       R62f143p (c62f143 k ((xs.drop (0 + ((IntKind.i64.wrap ((stackLen:Int) - v1)).toNat))).take (stackLen - ((IntKind.i64.wrap ((stackLen:Int) - v1)).toNat))) v2) fun v4 b2 =>
       bif b2 then
        r77 false
       else
        bif decide ((0:Int)<=IntKind.i64.wrap ((stackLen:Int) - v1)) && decide (IntKind.i64.wrap ((stackLen:Int) - v1)<=(stackLen:Int)) then
         bif decide ((((IntKind.i64.wrap ((stackLen:Int) - v1)).toNat) + 1) * 8<=LIM) && decide (((IntKind.i64.wrap ((stackLen:Int) - v1)).toNat) + 1<=LIM) then
          L77_1 k n wide vars (((IntKind.i64.wrap ((stackLen:Int) - v1)).toNat) + 1) t33 t34 (IntKind.i64.wrap (t35 + 1)) ((xs.take ((IntKind.i64.wrap ((stackLen:Int) - v1)).toNat)) ++ [PV.int .i64 v3])
         else none
        else none
      else none
  else none
 else r77 ((stackLen:Int) == 1):=by kernel_rfl
theorem n84 (k:Nat) (p p1:Int) (p2 p3 v:List PV) (class1:Int):c84 (k + 1) p p1 p2 p3 v class1 =
 R49 (c49 k p p1 p2 p3 v) fun b1 =>
 bif b1 then
  bif decide (class1>=0) then
   R116 (c116 k v) fun v1 =>
   r84 (decide (class1 < v1))
  else r84 false
 else r84 false:=by kernel_rfl
theorem n86 (k:Nat) (p p1:Int) (p2 p3 v:List PV) (class1:Int):c86 (k + 1) p p1 p2 p3 v class1 =
 R51 (c51 k p p1 p2 p3 v) fun b1 =>
 bif b1 then
  R117 (c117 k v) fun v1 =>
  R52 (c52 k class1 0 (IntKind.i64.wrap (v1 - 1))) fun b2 =>
  r86 b2
 else r86 false:=by kernel_rfl
theorem n89 (k:Nat) (p p1:Int) (p2 p3 v:List PV) (class1:Int):c89 (k + 1) p p1 p2 p3 v class1 =
 R148 (c148 k v class1) fun l1 =>
 R149 (c149 k p p1 p2 p3 l1) fun l2 =>
 R58 (c58 k v l2) fun l3 =>
 r89 l3:=by kernel_rfl
theorem n90 (k:Nat) (code:List PV):c90 (k + 1) code =
 R150 (c150 k code 0 0) fun l1 v1 v2 v3 v4 l2 l3 l4 =>
 R151 (c151 k v3 v4 l2 l3 l4 l1 v1 v2) fun l5 v5 v6 l6 =>
 r90 v3 v4 l2 l3 l4 l6:=by kernel_rfl
theorem n91 (k:Nat) (p p1:Int) (p2 p3 v path:List PV) (most:Int):c91 (k + 1) p p1 p2 p3 v path most =
 R49 (c49 k p p1 p2 p3 v) fun b1 =>
 bif !b1 then
  r91 false
 else
  bif decide ((path.length:Int) < 1) then
   r91 false
  else
   bif decide ((path.length:Int) > most) then
    r91 false
   else
    R116 (c116 k v) fun v1 =>
    R62f152p (c62f152 k path v1) fun b2 =>
    r91 (!b2):=by kernel_rfl
theorem n92 (k:Nat) (p p1:Int) (p2 p3 v path:List PV):c92 (k + 1) p p1 p2 p3 v path =
 R98 (c98 k p p1 p2 p3 v path) fun l1 =>
 R133 (c133 k p p1 p2 p3) fun l2 =>
 R97p (c97 k (l1.take l1.length)) fun v1 =>
 bif decide (v1>=0) then
  r92 []
 else L92_1 k k (IntKind.i64.wrap ((l1.length:Int) - 1)) l1.length l2 (IntKind.i64.wrap ((IntKind.i64.wrap ((l1.length:Int) - 1)) - 1)) l1:=by kernel_rfl
theorem sL92_1 (k n:Nat) (last:Int) (Len:Nat) (l:List PV) (n1:Int) (xs:List PV):L92_1 k (n + 1) last Len l n1 xs =
 bif decide (n1>=0) then
  bif decide ((0:Int)<=n1) && decide (n1 < (Len:Int)) then
   (xs[0 + n1.toNat]?).bind fun p1 =>
   (p1.atRow 0 0).bind fun l1 =>
   R146f153p (c146f153 k l1 l ((xs.set (0 + n1.toNat) PV.junk).take Len) n1) fun l2 =>
   bif decide ((0:Int)<=n1) && decide (n1 < (Len:Int)) then
    (xs[0 + n1.toNat]?).bind fun p2 =>
    bif ((some (0 + n1.toNat):Option Nat) == some (0 + n1.toNat)) && decide (l2.length<=l2.length) then
     L92_1 k n last Len l (IntKind.i64.wrap (n1 - 1)) (xs.set (0 + n1.toNat) (PV.row 0 0 (l2.take l2.length)))
    else none
   else none
  else none
 else J92_2 k last (xs.take Len) l:=by kernel_rfl
theorem sJ92_2 (k:Nat) (last:Int) (l l1:List PV):J92_2 (k + 1) last l l1 =
 (lookP l 0).bind fun p1 =>
 (p1.atRow 0 0).bind fun l2 =>
 (lookP l2 0).bind fun p2 =>
 (p2.atInt .i64 0).bind fun n1 =>
 L92_3 (k + 1) (k + 1) last l l1 1 1 [PV.int .i64 n1]:=by kernel_rfl
theorem sL92_3 (k n:Nat) (last:Int) (l l1:List PV) (Len:Nat) (n1:Int) (xs:List PV):L92_3 k (n + 1) last l l1 Len n1 xs =
 bif decide (n1<=last) then
  (lookP l n1).bind fun p1 =>
  (p1.atRow 0 0).bind fun l2 =>
  R124f155p (c124f155 k l2 l1 (xs.take Len) n1) fun v1 =>
  (lookP l n1).bind fun p2 =>
  (p2.atRow 0 0).bind fun l3 =>
  (lookP l3 v1).bind fun p3 =>
  (p3.atInt .i64 0).bind fun n2 =>
  bif decide ((Len + 1) * 8<=LIM) && decide (Len + 1<=LIM) then
   L92_3 k n last l l1 (Len + 1) (IntKind.i64.wrap (n1 + 1)) ((xs.take Len) ++ [PV.int .i64 n2])
  else none
 else
  bif !((xs.take Len).isEmpty) then
   r92 (xs.take Len)
  else none:=by kernel_rfl
theorem n93 (k:Nat) (p p1:Int) (p2 p3 v path:List PV):c93 (k + 1) p p1 p2 p3 v path =
 R51 (c51 k p p1 p2 p3 v) fun b1 =>
 bif b1 then
  R52 (c52 k (path.length:Int) 1 200) fun b2 =>
  bif b2 then
   R156 (c156 k v path) fun b3 =>
   r93 b3
  else r93 false
 else r93 false:=by kernel_rfl
theorem n94 (k:Nat) (p p1:Int) (p2 p3 v path:List PV):c94 (k + 1) p p1 p2 p3 v path =
 R59 (c59 k p p1 p2 p3 p2) fun l1 =>
 L94_1 k k 0 l1 path (path.length:Int) 0 p p1 p2 p3 v []:=by kernel_rfl
theorem sL94_1 (k n:Nat) (outLen:Nat) (some1 t18:List PV) (t19 t20 n1 n11:Int) (l l1 l2 xs:List PV):L94_1 k (n + 1) outLen some1 t18 t19 t20 n1 n11 l l1 l2 xs =
 bif decide (t20 < t19) then
  (lookP t18 t20).bind fun p1 =>
  (p1.atInt .i64 0).bind fun n2 =>
  L94_2 k n k outLen n2 0 t18 t19 t20 some1 (some1.length:Int) 0 n1 n11 l l1 l2 xs []
 else r94 (xs.take outLen):=by kernel_rfl
theorem sL94_2 (k n1 n:Nat) (outLen:Nat) (class1:Int) (inLen:Nat) (t18:List PV) (t19 t20:Int) (t24:List PV) (t25 t26 n11 n12:Int) (l l1 l2 xs xs1:List PV):L94_2 k n1 (n + 1) outLen class1 inLen t18 t19 t20 t24 t25 t26 n11 n12 l l1 l2 xs xs1 =
 bif decide (t26 < t25) then
  (lookP t24 t26).bind fun p1 =>
  (p1.atInt .i64 0).bind fun n2 =>
  (lookP l2 n2).bind fun p2 =>
  (p2.atInt .i64 0).bind fun n3 =>
  bif (n3 == class1) then
   bif decide ((inLen + 1) * 8<=LIM) && decide (inLen + 1<=LIM) then
    L94_2 k n1 n outLen class1 (inLen + 1) t18 t19 t20 t24 t25 (IntKind.i64.wrap (t26 + 1)) n11 n12 l l1 l2 xs ((xs1.take inLen) ++ [PV.int .i64 n2])
   else none
  else L94_2 k n1 n outLen class1 inLen t18 t19 t20 t24 t25 (IntKind.i64.wrap (t26 + 1)) n11 n12 l l1 l2 xs xs1
 else
  bif decide ((outLen + 1) * 24<=LIM) && decide (outLen + 1<=LIM) then
   R149 (c149 k n11 n12 l l1 (xs1.take inLen)) fun l3 =>
   L94_1 k n1 (outLen + 1) l3 t18 t19 (IntKind.i64.wrap (t20 + 1)) n11 n12 l l1 l2 ((xs.take outLen) ++ [PV.row 0 0 (xs1.take inLen)])
  else none:=by kernel_rfl
theorem n95 (k:Nat) (along:List PV):c95 (k + 1) along =
 L95_1 k k along (along.length:Int) 0:=by kernel_rfl
theorem sL95_1 (k n:Nat) (t5:List PV) (t6 t7:Int):L95_1 k (n + 1) t5 t6 t7 =
 bif decide (t7 < t6) then
  (lookP t5 t7).bind fun p1 =>
  (p1.atRow 0 0).bind fun l1 =>
  bif ((l1.length:Int) == 0) then
   r95 t7
  else L95_1 k n t5 t6 (IntKind.i64.wrap (t7 + 1))
 else r95 (-1):=by kernel_rfl
theorem n96 (k:Nat) (p p1:Int) (p2 p3 along:List PV):c96 (k + 1) p p1 p2 p3 along =
 bif decide ((0 + along.length) * 24<=LIM) && decide (0 + along.length<=LIM) then
  L96_1 k k along (0 + along.length) (IntKind.i64.wrap ((0 + along.length:Int) - 2)) p p1 p2 p3 ([] ++ along)
 else none:=by kernel_rfl
theorem sL96_1 (k n:Nat) (along:List PV) (canLen:Nat) (k1 n1 n11:Int) (l l1 xs:List PV):L96_1 k (n + 1) along canLen k1 n1 n11 l l1 xs =
 bif decide (k1>=0) then
  (lookP along k1).bind fun p1 =>
  (p1.atRow 0 0).bind fun l2 =>
  L96_2 k n k along canLen k1 0 l2 (l2.length:Int) 0 n1 n11 l l1 xs []
 else
  bif decide ((0:Int) < (canLen:Int)) then
   (xs[0]?).bind fun p2 =>
   (p2.atRow 0 0).bind fun l3 =>
   (lookP l3 0).bind fun p3 =>
   (p3.atInt .i64 0).bind fun n2 =>
   L96_3 k k canLen 1 1 n1 n11 l l1 xs [PV.int .i64 n2]
  else none:=by kernel_rfl
theorem sL96_2 (k n1 n:Nat) (along:List PV) (canLen:Nat) (k1:Int) (inLen:Nat) (t27:List PV) (t28 t29 n11 n12:Int) (l l1 xs xs1:List PV):L96_2 k n1 (n + 1) along canLen k1 inLen t27 t28 t29 n11 n12 l l1 xs xs1 =
 bif decide (t29 < t28) then
  (lookP t27 t29).bind fun p1 =>
  (p1.atInt .i64 0).bind fun n2 =>
  bif decide ((0:Int)<=IntKind.i64.wrap (k1 + 1)) && decide (IntKind.i64.wrap (k1 + 1) < (canLen:Int)) then
   (xs[0 + ((IntKind.i64.wrap (k1 + 1)).toNat)]?).bind fun p2 =>
   (p2.atRow 0 0).bind fun l2 =>
   R111 (c111 k n11 n12 l l1 n2) fun l3 =>
   R75 (c75 k l3 l2) fun b1 =>
   bif b1 then
    bif decide ((inLen + 1) * 8<=LIM) && decide (inLen + 1<=LIM) then
     L96_2 k n1 n along canLen k1 (inLen + 1) t27 t28 (IntKind.i64.wrap (t29 + 1)) n11 n12 l l1 xs ((xs1.take inLen) ++ [PV.int .i64 n2])
    else none
   else L96_2 k n1 n along canLen k1 inLen t27 t28 (IntKind.i64.wrap (t29 + 1)) n11 n12 l l1 xs xs1
  else none
 else
  bif decide ((0:Int)<=k1) && decide (k1 < (canLen:Int)) then
   (xs[0 + k1.toNat]?).bind fun p3 =>
   L96_1 k n1 along canLen (IntKind.i64.wrap (k1 - 1)) n11 n12 l l1 (xs.set (0 + k1.toNat) (PV.row 0 0 (xs1.take inLen)))
  else none:=by kernel_rfl
theorem sL96_3 (k n:Nat) (canLen outLen:Nat) (k1 n1 n11:Int) (l l1 xs xs1:List PV):L96_3 k (n + 1) canLen outLen k1 n1 n11 l l1 xs xs1 =
 bif decide (k1 < (canLen:Int)) then
  bif decide ((0:Int)<=IntKind.i64.wrap (k1 - 1)) && decide (IntKind.i64.wrap (k1 - 1) < (outLen:Int)) then
   (xs1[0 + ((IntKind.i64.wrap (k1 - 1)).toNat)]?).bind fun p1 =>
   (p1.atInt .i64 0).bind fun n2 =>
   R111 (c111 k n1 n11 l l1 n2) fun l2 =>
   L96_4 k n k canLen outLen k1 l2 (l2.length:Int) 0 n1 n11 l l1 xs xs1
  else none
 else r96 (xs1.take outLen):=by kernel_rfl
theorem sL96_4 (k n1 n:Nat) (canLen outLen:Nat) (k1:Int) (t69:List PV) (t70 t71 n11 n12:Int) (l l1 xs xs1:List PV):L96_4 k n1 (n + 1) canLen outLen k1 t69 t70 t71 n11 n12 l l1 xs xs1 =
 bif decide (t71 < t70) then
  (lookP t69 t71).bind fun p1 =>
  (p1.atInt .i64 0).bind fun n2 =>
  bif decide ((0:Int)<=k1) && decide (k1 < (canLen:Int)) then
   (xs[0 + k1.toNat]?).bind fun p2 =>
   (p2.atRow 0 0).bind fun l2 =>
   R138 (c138 k l2 n2) fun b1 =>
   bif b1 then
    bif decide ((outLen + 1) * 8<=LIM) && decide (outLen + 1<=LIM) then
     L96_3 k n1 canLen (outLen + 1) (IntKind.i64.wrap (k1 + 1)) n11 n12 l l1 xs ((xs1.take outLen) ++ [PV.int .i64 n2])
    else none
   else L96_4 k n1 n canLen outLen k1 t69 t70 (IntKind.i64.wrap (t71 + 1)) n11 n12 l l1 xs xs1
  else none
 else L96_3 k n1 canLen outLen (IntKind.i64.wrap (k1 + 1)) n11 n12 l l1 xs xs1:=by kernel_rfl
theorem n97 (k:Nat) (along:List PV):c97 (k + 1) along =
 R157f158p (c157f158 k along) fun v1 =>
 r97 v1:=by kernel_rfl
theorem n98 (k:Nat) (p p1:Int) (p2 p3 v path:List PV):c98 (k + 1) p p1 p2 p3 v path =
 R133 (c133 k p p1 p2 p3) fun l1 =>
 R57 (c57 k p p1 p2 p3 p2) fun l2 =>
 L98_1 k k 0 l1 l2.length path (path.length:Int) 0 p p1 p2 p3 v [] l2:=by kernel_rfl
theorem sL98_1 (k n:Nat) (outLen:Nat) (next:List PV) (nowLen:Nat) (t24:List PV) (t25 t26 n1 n11:Int) (l l1 l2 xs xs1:List PV):L98_1 k (n + 1) outLen next nowLen t24 t25 t26 n1 n11 l l1 l2 xs xs1 =
 bif decide (t26 < t25) then
  (lookP t24 t26).bind fun p1 =>
  (p1.atInt .i64 0).bind fun n2 =>
  bif decide (t26 > 0) then
   R50 (c50 k n1 n11 l l1) fun v1 =>
   bif (v1 == v1) && decide ((0:Int)<=v1) && decide (v1.toNat * 1<=LIM) && decide (v1.toNat<=LIM) then
    L98_2 k n k outLen next v1.toNat t24 t25 t26 nowLen (nowLen:Int) 0 n1 n11 l l1 l2 n2 xs (List.replicate v1.toNat (PV.bool false)) xs1
   else none
  else
   R146f159p (c146f159 k (xs1.take nowLen) l2 n2) fun l3 =>
   R160p (c160 k (l3.take l3.length)) fun l4 =>
   bif decide (l4.length<=l4.length) then
    bif (outLen == xs.length) && decide ((outLen + 1) * 24<=LIM) && decide (outLen + 1<=LIM) then
     L98_1 k n (outLen + 1) next l3.length t24 t25 (IntKind.i64.wrap (t26 + 1)) n1 n11 l l1 l2 (xs ++ [PV.row 0 0 (l4.take l4.length)]) l3
    else none
   else none
 else
  bif (outLen == xs.length) then
   r98 (xs.take outLen)
  else none:=by kernel_rfl
theorem sL98_2 (k n1 n:Nat) (outLen:Nat) (next:List PV) (inLen:Nat) (t24:List PV) (t25 t26:Int) (t36Len:Nat) (t37 t38 n11 n12:Int) (l l1 l2:List PV) (n13:Int) (xs xs1 xs2:List PV):L98_2 k n1 (n + 1) outLen next inLen t24 t25 t26 t36Len t37 t38 n11 n12 l l1 l2 n13 xs xs1 xs2 =
 bif decide (t38 < t37) then
  bif decide ((0:Int)<=t38) && decide (t38 < (t36Len:Int)) then
   (xs2[0 + t38.toNat]?).bind fun p1 =>
   (p1.atInt .i64 0).bind fun n2 =>
   (lookP next n2).bind fun p2 =>
   (p2.atRow 0 0).bind fun l3 =>
   L98_3 k n1 n k outLen next inLen t24 t25 t26 t36Len t37 t38 l3 (l3.length:Int) 0 n11 n12 l l1 l2 n13 xs xs1 xs2
  else none
 else
  R118p (c118 k (xs1.take inLen)) fun l4 =>
  R146f159p (c146f159 k (l4.take l4.length) l2 n13) fun l5 =>
  R160p (c160 k (l5.take l5.length)) fun l6 =>
  bif decide (l6.length<=l6.length) then
   bif (outLen == xs.length) && decide ((outLen + 1) * 24<=LIM) && decide (outLen + 1<=LIM) then
    L98_1 k n1 (outLen + 1) next l5.length t24 t25 (IntKind.i64.wrap (t26 + 1)) n11 n12 l l1 l2 (xs ++ [PV.row 0 0 (l6.take l6.length)]) l5
   else none
  else none:=by kernel_rfl
theorem sL98_3 (k n1 n2 n:Nat) (outLen:Nat) (next:List PV) (inLen:Nat) (t24:List PV) (t25 t26:Int) (t36Len:Nat) (t37 t38:Int) (t45:List PV) (t46 t47 n11 n12:Int) (l l1 l2:List PV) (n13:Int) (xs xs1 xs2:List PV):L98_3 k n1 n2 (n + 1) outLen next inLen t24 t25 t26 t36Len t37 t38 t45 t46 t47 n11 n12 l l1 l2 n13 xs xs1 xs2 =
 bif decide (t47 < t46) then
  (lookP t45 t47).bind fun p1 =>
  (p1.atInt .i64 0).bind fun n3 =>
  bif decide ((0:Int)<=n3) && decide (n3 < (inLen:Int)) then
   (xs1[0 + n3.toNat]?).bind fun p2 =>
   L98_3 k n1 n2 n outLen next inLen t24 t25 t26 t36Len t37 t38 t45 t46 (IntKind.i64.wrap (t47 + 1)) n11 n12 l l1 l2 n13 xs (xs1.set (0 + n3.toNat) (PV.bool true)) xs2
  else none
 else L98_2 k n1 n2 outLen next inLen t24 t25 t26 t36Len t37 (IntKind.i64.wrap (t38 + 1)) n11 n12 l l1 l2 n13 xs xs1 xs2:=by kernel_rfl
theorem n99 (k:Nat) (p p1:Int) (p2 p3 v path:List PV):c99 (k + 1) p p1 p2 p3 v path =
 R98 (c98 k p p1 p2 p3 v path) fun l1 =>
 J99_1 k (l1.take l1.length):=by kernel_rfl
theorem sJ99_1 (k:Nat) (along:List PV):J99_1 (k + 1) along =
 R97 (c97 (k + 1) along) fun v1 =>
 bif decide (v1 < 1) then
  r99 [] false
 else
  (lookP along (IntKind.i64.wrap (v1 - 1))).bind fun p1 =>
  (p1.atRow 0 0).bind fun l1 =>
  r99 l1 true:=by kernel_rfl
theorem n100 (k:Nat) (p p1:Int) (p2 p3 v:List PV) (class1 to:Int):c100 (k + 1) p p1 p2 p3 v class1 to =
 R101 (c101 k v class1) fun l1 =>
 R146f161p (c146f161 k (l1.take l1.length) p p1 p2 p3 v to) fun l2 =>
 r100 (l2.take l2.length):=by kernel_rfl
theorem n101 (k:Nat) (v:List PV) (class1:Int):c101 (k + 1) v class1 =
 L101_1 k k class1 0 v (v.length:Int) 0 []:=by kernel_rfl
theorem sL101_1 (k n:Nat) (class1:Int) (outLen:Nat) (t10:List PV) (t11 t12:Int) (xs:List PV):L101_1 k (n + 1) class1 outLen t10 t11 t12 xs =
 bif decide (t12 < t11) then
  (lookP t10 t12).bind fun p1 =>
  (p1.atInt .i64 0).bind fun n1 =>
  bif (n1 == class1) then
   bif decide ((outLen + 1) * 8<=LIM) && decide (outLen + 1<=LIM) then
    L101_1 k n class1 (outLen + 1) t10 t11 (IntKind.i64.wrap (t12 + 1)) ((xs.take outLen) ++ [PV.int .i64 t12])
   else none
  else L101_1 k n class1 outLen t10 t11 (IntKind.i64.wrap (t12 + 1)) xs
 else r101 (xs.take outLen):=by kernel_rfl
theorem n102 (k:Nat) (list l:List PV) (n1 n11:Int):c102 (k + 1) list l n1 n11 =
 R103 (c103 k (list.length:Int) l n1 n11) fun l1 v1 v2 v3 =>
 (lookP list v3).bind fun p1 =>
 (p1.atInt .i64 0).bind fun n2 =>
 r102 l1 v1 v2 n2:=by kernel_rfl
theorem n103 (k:Nat) (n1:Int) (l:List PV) (n11 n12:Int):c103 (k + 1) n1 l n11 n12 =
 bif decide (n1<=1) then
  r103 l n11 n12 0
 else
  R163 (c163 k l n11 n12) fun l1 v1 v2 v3 =>
  bif decide (n1 > 200) then
   R163 (c163 k l1 v1 v2) fun l2 v4 v5 v6 =>
   bif !(n1 == 0) then
    r103 l2 v4 v5 ((IntKind.i64.wrap ((IntKind.i64.wrap (v3 * 256)) + v6)).tmod n1)
   else none
  else
   bif !(n1 == 0) then
    r103 l1 v1 v2 (v3.tmod n1)
   else none:=by kernel_rfl
theorem n104 (k:Nat) (wide vars:Int) (l:List PV) (n1 n11:Int):c104 (k + 1) wide vars l n1 n11 =
 R103 (c103 k 2 l n1 n11) fun l1 v1 v2 v3 =>
 R48 (c48 k 3 l1 v1 v2) fun l2 v4 v5 b1 =>
 bif b1 then
  R134 (c134 k wide vars 1 l2 v4 v5) fun l3 v6 v7 l4 =>
  R103 (c103 k 3 l3 v6 v7) fun l5 v8 v9 v10 =>
  L104_1 k k wide vars (IntKind.i64.wrap (1 + v10)) l5 v8 v9 0 0 [] [] wide vars l4.length 0 l4 []
 else
  R103 (c103 k 3 l2 v4 v5) fun l6 v11 v12 v13 =>
  L104_1 k k wide vars (IntKind.i64.wrap (1 + v13)) l6 v11 v12 0 0 [] [] wide vars 3 0 [PV.agg [.int .i64 2,.int .u64 0],PV.agg [.int .i64 1,.int .u64 (IntKind.u64.wrap v3)],PV.agg [.int .i64 14,.int .u64 0]] []:=by kernel_rfl
theorem sL104_1 (k n:Nat) (wide vars n1:Int) (l:List PV) (n11 n12 n13 n14:Int) (l1 l2:List PV) (n15 n16:Int) (Len Len1:Nat) (xs xs1:List PV):L104_1 k (n + 1) wide vars n1 l n11 n12 n13 n14 l1 l2 n15 n16 Len Len1 xs xs1 =
 bif decide (n1 > 0) then
  R164 (c164 k wide vars l n11 n12) fun l3 v1 v2 l4 l5 =>
  bif decide (l5.length<=l5.length) then
   bif (Len1 == xs1.length) && decide ((Len1 + 1) * 48<=LIM) && decide (Len1 + 1<=LIM) then
    L104_1 k n wide vars (IntKind.i64.wrap (n1 - 1)) l3 v1 v2 n13 n14 l1 l2 n15 n16 Len (Len1 + 1) xs (xs1 ++ [PV.agg [.row 2 0 l4,.row 2 0 (l5.take l5.length)]])
   else none
  else none
 else
  bif (Len1 == xs1.length) then
   r104 l n11 n12 n15 n16 (xs.take Len) (xs1.take Len1)
  else none:=by kernel_rfl
theorem n105 (k:Nat) (p p1:Int) (p2 p3 preds:List PV):c105 (k + 1) p p1 p2 p3 preds =
 R114 (c114 k p p1 p2 p3) fun b1 =>
 bif !b1 then
  r105 [] false
 else
  R165 (c165 k p p1 p2 p3 preds) fun b2 =>
  bif !b2 then
   r105 [] false
  else
   R166 (c166 k p p1 p2 p3 preds) fun l1 =>
   r105 (l1.take l1.length) true:=by kernel_rfl
theorem n106 (k:Nat) (p p1:Int) (p2 p3:List PV) (most:Int) (l:List PV) (n1 n11:Int):c106 (k + 1) p p1 p2 p3 most l n1 n11 =
 R103 (c103 k (IntKind.i64.wrap (most + 1)) l n1 n11) fun l1 v1 v2 v3 =>
 L106_1 k k 0 v3 l1 v1 v2 p p1 p2 p3 []:=by kernel_rfl
theorem sL106_1 (k n:Nat) (lLen:Nat) (n1:Int) (l:List PV) (n11 n12 n13 n14:Int) (l1 l2 xs:List PV):L106_1 k (n + 1) lLen n1 l n11 n12 n13 n14 l1 l2 xs =
 bif decide (n1 > 0) then
  R135 (c135 k n13) fun v1 =>
  R135 (c135 k n14) fun v2 =>
  R103 (c103 k 2 l n11 n12) fun l3 v3 v4 v5 =>
  R134 (c134 k v1 v2 v5 l3 v3 v4) fun l4 v6 v7 l5 =>
  bif decide ((lLen + 1) * 24<=LIM) && decide (lLen + 1<=LIM) then
   L106_1 k n (lLen + 1) (IntKind.i64.wrap (n1 - 1)) l4 v6 v7 n13 n14 l1 l2 ((xs.take lLen) ++ [PV.row 2 0 (l5.take l5.length)])
  else none
 else r106 l n11 n12 (xs.take lLen):=by kernel_rfl
theorem n107 (k:Nat) (p p1:Int) (p2 p3 v some1:List PV):c107 (k + 1) p p1 p2 p3 v some1 =
 R51 (c51 k p p1 p2 p3 v) fun b1 =>
 bif !b1 then
  r107 [] false
 else
  R167 (c167 k some1 0 (IntKind.i64.wrap ((v.length:Int) - 1))) fun b2 =>
  bif !b2 then
   r107 [] false
  else
   R168 (c168 k v some1) fun l1 =>
   r107 (l1.take l1.length) true:=by kernel_rfl
end Go.Proofs.YthoecdnmokcfbaaGreat
/- Normal forms: printed by nf.py. -/
set_option linter.unusedVariables false
set_option maxRecDepth 100000
namespace Go.Proofs.YthoecdnmokcfbaaGreat
open Go.Dp
theorem n108 (k:Nat) (n1 most:Int) (l:List PV) (n11 n12:Int):c108 (k + 1) n1 most l n11 n12 =
 R103 (c103 k (IntKind.i64.wrap (most + 1)) l n11 n12) fun l1 v1 v2 v3 =>
 L108_1 k k n1 0 v3 l1 v1 v2 []:=by kernel_rfl
theorem sL108_1 (k n:Nat) (n1:Int) (lLen:Nat) (k1:Int) (l:List PV) (n11 n12:Int) (xs:List PV):L108_1 k (n + 1) n1 lLen k1 l n11 n12 xs =
 bif decide (k1 > 0) then
  R103 (c103 k n1 l n11 n12) fun l1 v1 v2 v3 =>
  R119 (c119 k (xs.take lLen) v3) fun l2 =>
  L108_1 k n n1 l2.length (IntKind.i64.wrap (k1 - 1)) l1 v1 v2 l2
 else
  R48 (c48 k 40 l n11 n12) fun l3 v4 v5 b1 =>
  bif b1 then
   bif decide ((lLen + 1) * 8<=LIM) && decide (lLen + 1<=LIM) then
    r108 l3 v4 v5 (((xs.take lLen) ++ [PV.int .i64 n1]).take (lLen + 1))
   else none
  else r108 l3 v4 v5 (xs.take lLen):=by kernel_rfl
theorem n111 (k:Nat) (p p1:Int) (p2 p3:List PV) (no:Int):c111 (k + 1) p p1 p2 p3 no =
 R121 (c121 k p p1 p2 p3 no) fun l1 =>
 R171 (c171 k p p1 p2 p3 l1) fun l2 =>
 L111_1 k k no l1 0 l2 (l2.length:Int) 0 p p1 p2 p3 []:=by kernel_rfl
theorem sL111_1 (k n:Nat) (no:Int) (qs:List PV) (outLen:Nat) (t14:List PV) (t15 t16 n1 n11:Int) (l l1 xs:List PV):L111_1 k (n + 1) no qs outLen t14 t15 t16 n1 n11 l l1 xs =
 bif decide (t16 < t15) then
  (lookP t14 t16).bind fun p1 =>
  (p1.atInt .i64 0).bind fun n2 =>
  R173 (c173 k n1 n11 l l1 qs n2) fun l2 =>
  R172 (c172 k n1 n11 l l1 l2) fun v1 =>
  R119 (c119 k (xs.take outLen) v1) fun l3 =>
  L111_1 k n no qs l3.length t14 t15 (IntKind.i64.wrap (t16 + 1)) n1 n11 l l1 l3
 else
  bif ((outLen:Int) == 0) then
   r111 [PV.int .i64 no]
  else r111 (xs.take outLen):=by kernel_rfl
theorem n113 (k:Nat) (v:List PV) (states:Int):c113 (k + 1) v states =
 L113_1 k k states 0 v (v.length:Int) 0 v:=by kernel_rfl
theorem sL113_1 (k n:Nat) (states classes:Int) (t9:List PV) (t10 t11:Int) (l:List PV):L113_1 k (n + 1) states classes t9 t10 t11 l =
 bif decide (t11 < t10) then
  (lookP t9 t11).bind fun p1 =>
  (p1.atInt .i64 0).bind fun n1 =>
  bif decide (n1 < 0) then
   r113 false
  else
   bif decide (n1 > classes) then
    r113 false
   else
    bif (n1 == classes) then
     L113_1 k n states (IntKind.i64.wrap (classes + 1)) t9 t10 (IntKind.i64.wrap (t11 + 1)) l
    else L113_1 k n states classes t9 t10 (IntKind.i64.wrap (t11 + 1)) l
 else r113 ((l.length:Int) == states):=by kernel_rfl
theorem n114 (k:Nat) (p p1:Int) (p2 p3:List PV):c114 (k + 1) p p1 p2 p3 =
 R174 (c174 k p p1 p2 p3) fun b1 =>
 bif b1 then
  r114 (decide (IntKind.i64.wrap (p * p1)<=5))
 else r114 false:=by kernel_rfl
theorem n115 (k:Nat) (p p1:Int) (p2 p3:List PV):c115 (k + 1) p p1 p2 p3 =
 bif !decide (IntKind.u64.wrap (IntKind.i64.wrap (p * p1)) < 0) then
  r115 (shlI .i64 1 (IntKind.u64.wrap (IntKind.i64.wrap (p * p1))))
 else none:=by kernel_rfl
theorem n116 (k:Nat) (v:List PV):c116 (k + 1) v =
 R175 (c175 k v) fun v1 =>
 r116 (IntKind.i64.wrap (v1 + 1)):=by kernel_rfl
theorem n117 (k:Nat) (v:List PV):c117 (k + 1) v =
 L117_1 k k 0 v (v.length:Int) 0:=by kernel_rfl
theorem sL117_1 (k n:Nat) (many:Int) (t7:List PV) (t8 t9:Int):L117_1 k (n + 1) many t7 t8 t9 =
 bif decide (t9 < t8) then
  (lookP t7 t9).bind fun p1 =>
  (p1.atInt .i64 0).bind fun n1 =>
  bif decide (n1>=many) then
   L117_1 k n (IntKind.i64.wrap (n1 + 1)) t7 t8 (IntKind.i64.wrap (t9 + 1))
  else L117_1 k n many t7 t8 (IntKind.i64.wrap (t9 + 1))
 else r117 many:=by kernel_rfl
theorem n118 (k:Nat) (list:List PV):c118 (k + 1) list =
 L118_1 k k 0 list (list.length:Int) 0 []:=by kernel_rfl
theorem sL118_1 (k n:Nat) (outLen:Nat) (t7:List PV) (t8 t9:Int) (xs:List PV):L118_1 k (n + 1) outLen t7 t8 t9 xs =
 bif decide (t9 < t8) then
  (lookP t7 t9).bind fun p1 =>
  (p1.atBool 0).bind fun b1 =>
  bif b1 then
   bif decide ((outLen + 1) * 8<=LIM) && decide (outLen + 1<=LIM) then
    L118_1 k n (outLen + 1) t7 t8 (IntKind.i64.wrap (t9 + 1)) ((xs.take outLen) ++ [PV.int .i64 t9])
   else none
  else L118_1 k n outLen t7 t8 (IntKind.i64.wrap (t9 + 1)) xs
 else r118 (xs.take outLen):=by kernel_rfl
theorem n119 (k:Nat) (l:List PV) (n1:Int):c119 (k + 1) l n1 =
 L119_1 k k l.length n1 0 l:=by kernel_rfl
theorem sL119_1 (k n:Nat) (lLen:Nat) (n1 k1:Int) (xs:List PV):L119_1 k (n + 1) lLen n1 k1 xs =
 bif decide (k1 < (lLen:Int)) then
  bif decide ((0:Int)<=k1) && decide (k1 < (lLen:Int)) then
   (xs[0 + k1.toNat]?).bind fun p1 =>
   (p1.atInt .i64 0).bind fun n2 =>
   bif decide (n2 < n1) then
    L119_1 k n lLen n1 (IntKind.i64.wrap (k1 + 1)) xs
   else
    bif decide (k1 < (lLen:Int)) then
     bif decide ((0:Int)<=k1) && decide (k1 < (lLen:Int)) then
      (xs[0 + k1.toNat]?).bind fun p2 =>
      (p2.atInt .i64 0).bind fun n3 =>
      bif (n3 == n1) then
       r119 (xs.take lLen)
      else
       bif decide ((0:Int)<=k1) && decide (k1<=(lLen:Int)) then
        bif decide ((0 + ((xs.take k1.toNat).length)) * 8<=LIM) && decide (0 + ((xs.take k1.toNat).length)<=LIM) then
         bif decide (((0 + ((xs.take k1.toNat).length)) + 1) * 8<=LIM) && decide ((0 + ((xs.take k1.toNat).length)) + 1<=LIM) then
          bif decide ((0:Int)<=k1) && decide (k1<=(lLen:Int)) && decide ((lLen:Int)<=(lLen:Int)) then
           bif decide ((((0 + ((xs.take k1.toNat).length)) + 1) + (((xs.drop (0 + k1.toNat)).take (lLen - k1.toNat)).length)) * 8<=LIM) && decide (((0 + ((xs.take k1.toNat).length)) + 1) + (((xs.drop (0 + k1.toNat)).take (lLen - k1.toNat)).length)<=LIM) then
            r119 (((((([] ++ (xs.take k1.toNat)).take (0 + ((xs.take k1.toNat).length))) ++ [PV.int .i64 n1]).take ((0 + ((xs.take k1.toNat).length)) + 1)) ++ ((xs.drop (0 + k1.toNat)).take (lLen - k1.toNat))).take (((0 + ((xs.take k1.toNat).length)) + 1) + (((xs.drop (0 + k1.toNat)).take (lLen - k1.toNat)).length)))
           else none
          else none
         else none
        else none
       else none
     else none
    else
     bif decide ((0:Int)<=k1) && decide (k1<=(lLen:Int)) then
      bif decide ((0 + ((xs.take k1.toNat).length)) * 8<=LIM) && decide (0 + ((xs.take k1.toNat).length)<=LIM) then
       bif decide (((0 + ((xs.take k1.toNat).length)) + 1) * 8<=LIM) && decide ((0 + ((xs.take k1.toNat).length)) + 1<=LIM) then
        bif decide ((0:Int)<=k1) && decide (k1<=(lLen:Int)) && decide ((lLen:Int)<=(lLen:Int)) then
         bif decide ((((0 + ((xs.take k1.toNat).length)) + 1) + (((xs.drop (0 + k1.toNat)).take (lLen - k1.toNat)).length)) * 8<=LIM) && decide (((0 + ((xs.take k1.toNat).length)) + 1) + (((xs.drop (0 + k1.toNat)).take (lLen - k1.toNat)).length)<=LIM) then
          r119 (((((([] ++ (xs.take k1.toNat)).take (0 + ((xs.take k1.toNat).length))) ++ [PV.int .i64 n1]).take ((0 + ((xs.take k1.toNat).length)) + 1)) ++ ((xs.drop (0 + k1.toNat)).take (lLen - k1.toNat))).take (((0 + ((xs.take k1.toNat).length)) + 1) + (((xs.drop (0 + k1.toNat)).take (lLen - k1.toNat)).length)))
         else none
        else none
       else none
      else none
     else none
  else none
 else
  bif decide (k1 < (lLen:Int)) then
   bif decide ((0:Int)<=k1) && decide (k1 < (lLen:Int)) then
    (xs[0 + k1.toNat]?).bind fun p3 =>
    (p3.atInt .i64 0).bind fun n4 =>
    bif (n4 == n1) then
     r119 (xs.take lLen)
    else
     bif decide ((0:Int)<=k1) && decide (k1<=(lLen:Int)) then
      bif decide ((0 + ((xs.take k1.toNat).length)) * 8<=LIM) && decide (0 + ((xs.take k1.toNat).length)<=LIM) then
       bif decide (((0 + ((xs.take k1.toNat).length)) + 1) * 8<=LIM) && decide ((0 + ((xs.take k1.toNat).length)) + 1<=LIM) then
        bif decide ((0:Int)<=k1) && decide (k1<=(lLen:Int)) && decide ((lLen:Int)<=(lLen:Int)) then
         bif decide ((((0 + ((xs.take k1.toNat).length)) + 1) + (((xs.drop (0 + k1.toNat)).take (lLen - k1.toNat)).length)) * 8<=LIM) && decide (((0 + ((xs.take k1.toNat).length)) + 1) + (((xs.drop (0 + k1.toNat)).take (lLen - k1.toNat)).length)<=LIM) then
          r119 (((((([] ++ (xs.take k1.toNat)).take (0 + ((xs.take k1.toNat).length))) ++ [PV.int .i64 n1]).take ((0 + ((xs.take k1.toNat).length)) + 1)) ++ ((xs.drop (0 + k1.toNat)).take (lLen - k1.toNat))).take (((0 + ((xs.take k1.toNat).length)) + 1) + (((xs.drop (0 + k1.toNat)).take (lLen - k1.toNat)).length)))
         else none
        else none
       else none
      else none
     else none
   else none
  else
   bif decide ((0:Int)<=k1) && decide (k1<=(lLen:Int)) then
    bif decide ((0 + ((xs.take k1.toNat).length)) * 8<=LIM) && decide (0 + ((xs.take k1.toNat).length)<=LIM) then
     bif decide (((0 + ((xs.take k1.toNat).length)) + 1) * 8<=LIM) && decide ((0 + ((xs.take k1.toNat).length)) + 1<=LIM) then
      bif decide ((0:Int)<=k1) && decide (k1<=(lLen:Int)) && decide ((lLen:Int)<=(lLen:Int)) then
       bif decide ((((0 + ((xs.take k1.toNat).length)) + 1) + (((xs.drop (0 + k1.toNat)).take (lLen - k1.toNat)).length)) * 8<=LIM) && decide (((0 + ((xs.take k1.toNat).length)) + 1) + (((xs.drop (0 + k1.toNat)).take (lLen - k1.toNat)).length)<=LIM) then
        r119 (((((([] ++ (xs.take k1.toNat)).take (0 + ((xs.take k1.toNat).length))) ++ [PV.int .i64 n1]).take ((0 + ((xs.take k1.toNat).length)) + 1)) ++ ((xs.drop (0 + k1.toNat)).take (lLen - k1.toNat))).take (((0 + ((xs.take k1.toNat).length)) + 1) + (((xs.drop (0 + k1.toNat)).take (lLen - k1.toNat)).length)))
       else none
      else none
     else none
    else none
   else none:=by kernel_rfl
theorem n120 (k:Nat) (p p1:Int) (p2 p3 t qs:List PV):c120 (k + 1) p p1 p2 p3 t qs =
 R176 (c176 k p t (IntKind.i64.wrap ((t.length:Int) - 1)) qs) fun v1 =>
 r120 (v1 == 1):=by kernel_rfl
theorem n121 (k:Nat) (p p1:Int) (p2 p3:List PV) (no:Int):c121 (k + 1) p p1 p2 p3 no =
 L121_1 k k no 0 0 p p1 p2 p3 []:=by kernel_rfl
theorem sL121_1 (k n:Nat) (no:Int) (outLen:Nat) (v n1 n11:Int) (l l1 xs:List PV):L121_1 k (n + 1) no outLen v n1 n11 l l1 xs =
 bif decide (v < n11) then
  bif !decide (IntKind.u64.wrap (IntKind.i64.wrap (v * n1)) < 0) then
   bif !decide (IntKind.u64.wrap n1 < 0) then
    bif decide ((outLen + 1) * 8<=LIM) && decide (outLen + 1<=LIM) then
     L121_1 k n no (outLen + 1) (IntKind.i64.wrap (v + 1)) n1 n11 l l1 ((xs.take outLen) ++ [PV.int .u64 (IntKind.u64.wrap (bitsOp .and .i64 (shrI .i64 no (IntKind.u64.wrap (IntKind.i64.wrap (v * n1)))) (IntKind.i64.wrap ((shlI .i64 1 (IntKind.u64.wrap n1)) - 1))))])
    else none
   else none
  else none
 else r121 (xs.take outLen):=by kernel_rfl
theorem n124f63 (k:Nat) (qs:List PV) (n1 n11:Int) (l l1:List PV):c124f63 (k + 1) qs n1 n11 l l1 =
 L124f63_1 k k qs n1 n11 l l1 (qs.length:Int) 0:=by kernel_rfl
theorem n124f152 (k:Nat) (qs:List PV) (n1:Int):c124f152 (k + 1) qs n1 =
 L124f152_1 k k qs n1 (qs.length:Int) 0:=by kernel_rfl
theorem sL124f63_1 (k n:Nat) (qs:List PV) (n1 n11:Int) (l l1:List PV) (t7 t8:Int):L124f63_1 k (n + 1) qs n1 n11 l l1 t7 t8 =
 bif decide (t8 < t7) then
  (lookP qs t8).bind fun p1 =>
  (p1.atInt .i64 0).bind fun n2 =>
  R63 (c63 k n2 n1 n11 l l1) fun b1 =>
  bif b1 then
   r124f63 t8
  else L124f63_1 k n qs n1 n11 l l1 t7 (IntKind.i64.wrap (t8 + 1))
 else r124f63 (-1):=by kernel_rfl
theorem n124f161 (k:Nat) (qs:List PV) (n1 n11:Int) (l l1 l2:List PV) (n12:Int):c124f161 (k + 1) qs n1 n11 l l1 l2 n12 =
 L124f161_1 k k qs n1 n11 l l1 l2 n12 (qs.length:Int) 0:=by kernel_rfl
theorem sL124f152_1 (k n:Nat) (qs:List PV) (n1 t7 t8:Int):L124f152_1 k (n + 1) qs n1 t7 t8 =
 bif decide (t8 < t7) then
  (lookP qs t8).bind fun p1 =>
  (p1.atInt .i64 0).bind fun n2 =>
  R152 (c152 k n2 n1) fun b1 =>
  bif b1 then
   r124f152 t8
  else L124f152_1 k n qs n1 t7 (IntKind.i64.wrap (t8 + 1))
 else r124f152 (-1):=by kernel_rfl
theorem n124f153 (k:Nat) (qs l l1:List PV) (n1:Int):c124f153 (k + 1) qs l l1 n1 =
 L124f153_1 k k qs l l1 n1 (qs.length:Int) 0:=by kernel_rfl
theorem n124f159 (k:Nat) (qs l:List PV) (n1:Int):c124f159 (k + 1) qs l n1 =
 L124f159_1 k k qs l n1 (qs.length:Int) 0:=by kernel_rfl
theorem sL124f161_1 (k n:Nat) (qs:List PV) (n1 n11:Int) (l l1 l2:List PV) (n12 t7 t8:Int):L124f161_1 k (n + 1) qs n1 n11 l l1 l2 n12 t7 t8 =
 bif decide (t8 < t7) then
  (lookP qs t8).bind fun p1 =>
  (p1.atInt .i64 0).bind fun n2 =>
  R161 (c161 k n2 n1 n11 l l1 l2 n12) fun b1 =>
  bif b1 then
   r124f161 t8
  else L124f161_1 k n qs n1 n11 l l1 l2 n12 t7 (IntKind.i64.wrap (t8 + 1))
 else r124f161 (-1):=by kernel_rfl
theorem sL124f153_1 (k n:Nat) (qs l l1:List PV) (n1 t7 t8:Int):L124f153_1 k (n + 1) qs l l1 n1 t7 t8 =
 bif decide (t8 < t7) then
  (lookP qs t8).bind fun p1 =>
  (p1.atInt .i64 0).bind fun n2 =>
  R153 (c153 k n2 l l1 n1) fun b1 =>
  bif b1 then
   r124f153 t8
  else L124f153_1 k n qs l l1 n1 t7 (IntKind.i64.wrap (t8 + 1))
 else r124f153 (-1):=by kernel_rfl
theorem n124f155 (k:Nat) (qs l l1:List PV) (n1:Int):c124f155 (k + 1) qs l l1 n1 =
 L124f155_1 k k qs l l1 n1 (qs.length:Int) 0:=by kernel_rfl
theorem sL124f159_1 (k n:Nat) (qs l:List PV) (n1 t7 t8:Int):L124f159_1 k (n + 1) qs l n1 t7 t8 =
 bif decide (t8 < t7) then
  (lookP qs t8).bind fun p1 =>
  (p1.atInt .i64 0).bind fun n2 =>
  R159 (c159 k n2 l n1) fun b1 =>
  bif b1 then
   r124f159 t8
  else L124f159_1 k n qs l n1 t7 (IntKind.i64.wrap (t8 + 1))
 else r124f159 (-1):=by kernel_rfl
theorem sL124f155_1 (k n:Nat) (qs l l1:List PV) (n1 t7 t8:Int):L124f155_1 k (n + 1) qs l l1 n1 t7 t8 =
 bif decide (t8 < t7) then
  (lookP qs t8).bind fun p1 =>
  (p1.atInt .i64 0).bind fun n2 =>
  R155 (c155 k n2 l l1 n1) fun b1 =>
  bif b1 then
   r124f155 t8
  else L124f155_1 k n qs l l1 n1 t7 (IntKind.i64.wrap (t8 + 1))
 else r124f155 (-1):=by kernel_rfl
theorem n124f162 (k:Nat) (qs l:List PV) (n1:Int):c124f162 (k + 1) qs l n1 =
 L124f162_1 k k qs l n1 (qs.length:Int) 0:=by kernel_rfl
theorem n124f154 (k:Nat) (qs l:List PV) (n1:Int):c124f154 (k + 1) qs l n1 =
 L124f154_1 k k qs l n1 (qs.length:Int) 0:=by kernel_rfl
theorem sL124f162_1 (k n:Nat) (qs l:List PV) (n1 t7 t8:Int):L124f162_1 k (n + 1) qs l n1 t7 t8 =
 bif decide (t8 < t7) then
  (lookP qs t8).bind fun p1 =>
  (p1.atInt .i64 0).bind fun n2 =>
  R162 (c162 k n2 l n1) fun b1 =>
  bif b1 then
   r124f162 t8
  else L124f162_1 k n qs l n1 t7 (IntKind.i64.wrap (t8 + 1))
 else r124f162 (-1):=by kernel_rfl
theorem sL124f154_1 (k n:Nat) (qs l:List PV) (n1 t7 t8:Int):L124f154_1 k (n + 1) qs l n1 t7 t8 =
 bif decide (t8 < t7) then
  (lookP qs t8).bind fun p1 =>
  (p1.atInt .i64 0).bind fun n2 =>
  R154 (c154 k n2 l n1) fun b1 =>
  bif b1 then
   r124f154 t8
  else L124f154_1 k n qs l n1 t7 (IntKind.i64.wrap (t8 + 1))
 else r124f154 (-1):=by kernel_rfl
theorem n124f143 (k:Nat) (qs:List PV) (n1:Int):c124f143 (k + 1) qs n1 =
 L124f143_1 k k qs (qs.length:Int) 0 n1:=by kernel_rfl
theorem sL124f143_1 (k n:Nat) (qs:List PV) (t7 t8 n1:Int):L124f143_1 k (n + 1) qs t7 t8 n1 =
 bif decide (t8 < t7) then
  (lookP qs t8).bind fun p1 =>
  (p1.atInt .i64 0).bind fun n2 =>
  R143 (c143 k n2 n1) fun v1 b1 =>
  bif b1 then
   r124f143 v1 t8
  else L124f143_1 k n qs t7 (IntKind.i64.wrap (t8 + 1)) v1
 else r124f143 n1 (-1):=by kernel_rfl
theorem n125 (k:Nat) (qs:List PV) (v:Int):c125 (k + 1) qs v =
 L125_1 k k qs v (qs.length:Int) 0:=by kernel_rfl
theorem sL125_1 (k n:Nat) (qs:List PV) (v t7 t8:Int):L125_1 k (n + 1) qs v t7 t8 =
 bif decide (t8 < t7) then
  (lookP qs t8).bind fun p1 =>
  (p1.atInt .i64 0).bind fun n1 =>
  bif (v == n1) then
   r125 t8
  else L125_1 k n qs v t7 (IntKind.i64.wrap (t8 + 1))
 else r125 (-1):=by kernel_rfl
theorem n126 (k:Nat) (p p1:Int) (p2 p3 qs:List PV):c126 (k + 1) p p1 p2 p3 qs =
 L126_1 k k 0 qs (qs.length:Int) 0 p p1 p2 p3:=by kernel_rfl
theorem sL126_1 (k n:Nat) (no:Int) (t8:List PV) (t9 t10 n1 n11:Int) (l l1:List PV):L126_1 k (n + 1) no t8 t9 t10 n1 n11 l l1 =
 bif decide (t10 < t9) then
  (lookP t8 t10).bind fun p1 =>
  (p1.atInt .u64 0).bind fun n2 =>
  bif !decide (IntKind.i64.wrap (n1 * t10) < 0) then
   L126_1 k n (bitsOp .or .i64 no (shlI .i64 (IntKind.i64.wrap n2) (IntKind.i64.wrap (n1 * t10)))) t8 t9 (IntKind.i64.wrap (t10 + 1)) n1 n11 l l1
  else none
 else r126 no:=by kernel_rfl
theorem n127 (k:Nat) (p p1:Int) (p2 p3 qc qc1 qs:List PV):c127 (k + 1) p p1 p2 p3 qc qc1 qs =
 R179 (c179 k qs) fun l1 =>
 L127_1 k k qs l1.length qc1 (qc1.length:Int) 0 p p1 p2 p3 l1:=by kernel_rfl
theorem sL127_1 (k n:Nat) (qs:List PV) (outLen:Nat) (t13:List PV) (t14 t15 n1 n11:Int) (l l1 xs:List PV):L127_1 k (n + 1) qs outLen t13 t14 t15 n1 n11 l l1 xs =
 bif decide (t15 < t14) then
  (lookP t13 t15).bind fun p1 =>
  bif p1.shp 2 then
   (p1.atInt .i64 0).bind fun n2 =>
   (p1.atRow 2 1).bind fun l2 =>
   R130 (c130 k n1 l2 qs) fun v1 =>
   bif decide ((0:Int)<=n2) && decide (n2 < (outLen:Int)) then
    (xs[0 + n2.toNat]?).bind fun p2 =>
    L127_1 k n qs outLen t13 t14 (IntKind.i64.wrap (t15 + 1)) n1 n11 l l1 (xs.set (0 + n2.toNat) (PV.int .u64 v1))
   else none
  else none
 else r127 (xs.take outLen):=by kernel_rfl
theorem n130 (k:Nat) (wide:Int) (t state:List PV):c130 (k + 1) wide t state =
 L130_1 k k wide state 0 t (t.length:Int) 0 []:=by kernel_rfl
theorem sL130_1 (k n:Nat) (wide:Int) (state:List PV) (stackLen:Nat) (t12:List PV) (t13 t14:Int) (xs:List PV):L130_1 k (n + 1) wide state stackLen t12 t13 t14 xs =
 bif decide (t14 < t13) then
  (lookP t12 t14).bind fun p1 =>
  bif p1.shp 2 then
   (p1.atInt .i64 0).bind fun n1 =>
   (p1.atInt .u64 1).bind fun n2 =>
   bif (n1 == 1) then
    bif decide ((stackLen + 1) * 8<=LIM) && decide (stackLen + 1<=LIM) then
     L130_1 k n wide state (stackLen + 1) t12 t13 (IntKind.i64.wrap (t14 + 1)) ((xs.take stackLen) ++ [PV.int .u64 n2])
    else none
   else
    bif (n1 == 20) then
     bif decide ((stackLen + 1) * 8<=LIM) && decide (stackLen + 1<=LIM) then
      L130_1 k n wide state (stackLen + 1) t12 t13 (IntKind.i64.wrap (t14 + 1)) ((xs.take stackLen) ++ [PV.int .u64 n2])
     else none
    else
     bif (n1 == 2) then
      (lookP state n2).bind fun p2 =>
      (p2.atInt .u64 0).bind fun n3 =>
      bif decide ((stackLen + 1) * 8<=LIM) && decide (stackLen + 1<=LIM) then
       L130_1 k n wide state (stackLen + 1) t12 t13 (IntKind.i64.wrap (t14 + 1)) ((xs.take stackLen) ++ [PV.int .u64 n3])
      else none
     else
      bif (n1 == 13) then
       bif decide ((0:Int)<=IntKind.i64.wrap ((stackLen:Int) - 1)) && decide (IntKind.i64.wrap ((stackLen:Int) - 1) < (stackLen:Int)) then
        (xs[0 + ((IntKind.i64.wrap ((stackLen:Int) - 1)).toNat)]?).bind fun p3 =>
        (p3.atInt .u64 0).bind fun n4 =>
        R131 (c131 k wide) fun v1 =>
        bif decide ((0:Int)<=IntKind.i64.wrap ((stackLen:Int) - 1)) && decide (IntKind.i64.wrap ((stackLen:Int) - 1) < (stackLen:Int)) then
         (xs[0 + ((IntKind.i64.wrap ((stackLen:Int) - 1)).toNat)]?).bind fun p4 =>
         L130_1 k n wide state stackLen t12 t13 (IntKind.i64.wrap (t14 + 1)) (xs.set (0 + ((IntKind.i64.wrap ((stackLen:Int) - 1)).toNat)) (PV.int .u64 (bitsOp .and .u64 (bitsOp .xor .u64 18446744073709551615 n4) v1)))
        else none
       else none
      else
       bif (n1 == 19) then
        bif decide ((0:Int)<=IntKind.i64.wrap ((stackLen:Int) - 1)) && decide (IntKind.i64.wrap ((stackLen:Int) - 1) < (stackLen:Int)) then
         (xs[0 + ((IntKind.i64.wrap ((stackLen:Int) - 1)).toNat)]?).bind fun p5 =>
         (p5.atInt .u64 0).bind fun n5 =>
         bif decide ((0:Int)<=IntKind.i64.wrap ((stackLen:Int) - 1)) && decide (IntKind.i64.wrap ((stackLen:Int) - 1) < (stackLen:Int)) then
          (xs[0 + ((IntKind.i64.wrap ((stackLen:Int) - 1)).toNat)]?).bind fun p6 =>
          L130_1 k n wide state stackLen t12 t13 (IntKind.i64.wrap (t14 + 1)) (xs.set (0 + ((IntKind.i64.wrap ((stackLen:Int) - 1)).toNat)) (PV.int .u64 (IntKind.u64.wrap (1 - n5))))
         else none
        else none
       else
        bif decide ((0:Int)<=IntKind.i64.wrap ((IntKind.i64.wrap ((stackLen:Int) - 1)) - 1)) && decide (IntKind.i64.wrap ((IntKind.i64.wrap ((stackLen:Int) - 1)) - 1)<=(stackLen:Int)) then
         bif decide ((0:Int)<=IntKind.i64.wrap ((IntKind.i64.wrap ((stackLen:Int) - 1)) - 1)) && decide (IntKind.i64.wrap ((IntKind.i64.wrap ((stackLen:Int) - 1)) - 1) < (stackLen:Int)) then
          (xs[0 + ((IntKind.i64.wrap ((IntKind.i64.wrap ((stackLen:Int) - 1)) - 1)).toNat)]?).bind fun p7 =>
          (p7.atInt .u64 0).bind fun n6 =>
          bif decide ((0:Int)<=IntKind.i64.wrap ((stackLen:Int) - 1)) && decide (IntKind.i64.wrap ((stackLen:Int) - 1) < (stackLen:Int)) then
           (xs[0 + ((IntKind.i64.wrap ((stackLen:Int) - 1)).toNat)]?).bind fun p8 =>
           (p8.atInt .u64 0).bind fun n7 =>
           R182 (c182 k wide n1 n6 n7) fun v2 =>
           bif decide ((((IntKind.i64.wrap ((IntKind.i64.wrap ((stackLen:Int) - 1)) - 1)).toNat) + 1) * 8<=LIM) && decide (((IntKind.i64.wrap ((IntKind.i64.wrap ((stackLen:Int) - 1)) - 1)).toNat) + 1<=LIM) then
            L130_1 k n wide state (((IntKind.i64.wrap ((IntKind.i64.wrap ((stackLen:Int) - 1)) - 1)).toNat) + 1) t12 t13 (IntKind.i64.wrap (t14 + 1)) ((xs.take ((IntKind.i64.wrap ((IntKind.i64.wrap ((stackLen:Int) - 1)) - 1)).toNat)) ++ [PV.int .u64 v2])
           else none
          else none
         else none
        else none
  else none
 else
  bif decide ((0:Int) < (stackLen:Int)) then
   (xs[0]?).bind fun p9 =>
   (p9.atInt .u64 0).bind fun n8 =>
   r130 n8
  else none:=by kernel_rfl
theorem n131 (k:Nat) (wide:Int):c131 (k + 1) wide =
 bif !decide (IntKind.i64.wrap (64 - wide) < 0) then
  r131 (shrI .u64 18446744073709551615 (IntKind.i64.wrap (64 - wide)))
 else none:=by kernel_rfl
theorem n132 (k:Nat) (p p1:Int) (p2 p3:List PV):c132 (k + 1) p p1 p2 p3 =
 R139 (c139 k p) fun b1 =>
 bif !b1 then
  r132 false
 else
  R140 (c140 k p1) fun b2 =>
  bif !b2 then
   r132 false
  else
   R72 (c72 k p p1 p2 p3 p2) fun b3 =>
   bif !b3 then
    r132 false
   else
    bif decide ((p3.length:Int) < 1) then
     r132 false
    else
     bif decide ((p3.length:Int) > 6) then
      r132 false
     else
      R183f184 (c183f184 k p3 p p1 p2 p3) fun v1 v2 l1 l2 b4 =>
      r132 (!b4):=by kernel_rfl
theorem n133 (k:Nat) (p p1:Int) (p2 p3:List PV):c133 (k + 1) p p1 p2 p3 =
 R50 (c50 k p p1 p2 p3) fun v1 =>
 L133_1 k k 0 v1 0 p p1 p2 p3 []:=by kernel_rfl
theorem sL133_1 (k n:Nat) (outLen:Nat) (t7 t8 n1 n11:Int) (l l1 xs:List PV):L133_1 k (n + 1) outLen t7 t8 n1 n11 l l1 xs =
 bif decide (t8 < t7) then
  R66 (c66 k n1 n11 l l1 t8) fun l2 =>
  bif decide ((outLen + 1) * 24<=LIM) && decide (outLen + 1<=LIM) then
   L133_1 k n (outLen + 1) t7 (IntKind.i64.wrap (t8 + 1)) n1 n11 l l1 ((xs.take outLen) ++ [PV.row 0 0 l2])
  else none
 else r133 (xs.take outLen):=by kernel_rfl
end Go.Proofs.YthoecdnmokcfbaaGreat
/- Normal forms: printed by nf.py. -/
set_option linter.unusedVariables false
set_option maxRecDepth 100000
namespace Go.Proofs.YthoecdnmokcfbaaGreat
open Go.Dp
theorem n134 (k:Nat) (wide vars deep:Int) (l:List PV) (n1 n11:Int):c134 (k + 1) wide vars deep l n1 n11 =
 R48 (c48 k 20 l n1 n11) fun l1 v1 v2 b1 =>
 bif b1 then
  R103 (c103 k 2 l1 v1 v2) fun l2 v3 v4 v5 =>
  r134 l2 v3 v4 [PV.agg [.int .i64 20,.int .u64 (IntKind.u64.wrap v5)]]
 else
  bif decide (deep > 0) then
   R48 (c48 k 4 l1 v1 v2) fun l3 v6 v7 b2 =>
   bif b2 then
    R134 (c134 k wide vars (IntKind.i64.wrap (deep - 1)) l3 v6 v7) fun l4 v8 v9 l5 =>
    bif decide ((l5.length + 1) * 16<=LIM) && decide (l5.length + 1<=LIM) then
     r134 l4 v8 v9 (((l5.take l5.length) ++ [PV.agg [.int .i64 19,.int .u64 0]]).take (l5.length + 1))
    else none
   else
    bif decide (deep > 0) then
     R48 (c48 k 2 l3 v6 v7) fun l6 v10 v11 b3 =>
     bif b3 then
      R134 (c134 k wide vars (IntKind.i64.wrap (deep - 1)) l6 v10 v11) fun l7 v12 v13 l8 =>
      R134 (c134 k wide vars (IntKind.i64.wrap (deep - 1)) l7 v12 v13) fun l9 v14 v15 l10 =>
      bif decide ((l8.length + ((l10.take l10.length).length)) * 16<=LIM) && decide (l8.length + ((l10.take l10.length).length)<=LIM) then
       R102 (c102 k [PV.int .i64 17,PV.int .i64 18] l9 v14 v15) fun l11 v16 v17 v18 =>
       bif decide (((l8.length + ((l10.take l10.length).length)) + 1) * 16<=LIM) && decide ((l8.length + ((l10.take l10.length).length)) + 1<=LIM) then
        r134 l11 v16 v17 (((((l8.take l8.length) ++ (l10.take l10.length)).take (l8.length + ((l10.take l10.length).length))) ++ [PV.agg [.int .i64 v18,.int .u64 0]]).take ((l8.length + ((l10.take l10.length).length)) + 1))
       else none
      else none
     else
      R186 (c186 k wide vars 1 l6 v10 v11) fun l12 v19 v20 l13 =>
      R103 (c103 k 2 l12 v19 v20) fun l14 v21 v22 v23 =>
      R186 (c186 k wide vars v23 l14 v21 v22) fun l15 v24 v25 l16 =>
      bif decide ((l13.length + ((l16.take l16.length).length)) * 16<=LIM) && decide (l13.length + ((l16.take l16.length).length)<=LIM) then
       R102 (c102 k [PV.int .i64 14,PV.int .i64 15,PV.int .i64 15,PV.int .i64 16] l15 v24 v25) fun l17 v26 v27 v28 =>
       bif decide (((l13.length + ((l16.take l16.length).length)) + 1) * 16<=LIM) && decide ((l13.length + ((l16.take l16.length).length)) + 1<=LIM) then
        r134 l17 v26 v27 (((((l13.take l13.length) ++ (l16.take l16.length)).take (l13.length + ((l16.take l16.length).length))) ++ [PV.agg [.int .i64 v28,.int .u64 0]]).take ((l13.length + ((l16.take l16.length).length)) + 1))
       else none
      else none
    else
     R186 (c186 k wide vars 1 l3 v6 v7) fun l18 v29 v30 l19 =>
     R103 (c103 k 2 l18 v29 v30) fun l20 v31 v32 v33 =>
     R186 (c186 k wide vars v33 l20 v31 v32) fun l21 v34 v35 l22 =>
     bif decide ((l19.length + ((l22.take l22.length).length)) * 16<=LIM) && decide (l19.length + ((l22.take l22.length).length)<=LIM) then
      R102 (c102 k [PV.int .i64 14,PV.int .i64 15,PV.int .i64 15,PV.int .i64 16] l21 v34 v35) fun l23 v36 v37 v38 =>
      bif decide (((l19.length + ((l22.take l22.length).length)) + 1) * 16<=LIM) && decide ((l19.length + ((l22.take l22.length).length)) + 1<=LIM) then
       r134 l23 v36 v37 (((((l19.take l19.length) ++ (l22.take l22.length)).take (l19.length + ((l22.take l22.length).length))) ++ [PV.agg [.int .i64 v38,.int .u64 0]]).take ((l19.length + ((l22.take l22.length).length)) + 1))
      else none
     else none
  else
   bif decide (deep > 0) then
    R48 (c48 k 2 l1 v1 v2) fun l24 v39 v40 b4 =>
    bif b4 then
     R134 (c134 k wide vars (IntKind.i64.wrap (deep - 1)) l24 v39 v40) fun l25 v41 v42 l26 =>
     R134 (c134 k wide vars (IntKind.i64.wrap (deep - 1)) l25 v41 v42) fun l27 v43 v44 l28 =>
     bif decide ((l26.length + ((l28.take l28.length).length)) * 16<=LIM) && decide (l26.length + ((l28.take l28.length).length)<=LIM) then
      R102 (c102 k [PV.int .i64 17,PV.int .i64 18] l27 v43 v44) fun l29 v45 v46 v47 =>
      bif decide (((l26.length + ((l28.take l28.length).length)) + 1) * 16<=LIM) && decide ((l26.length + ((l28.take l28.length).length)) + 1<=LIM) then
       r134 l29 v45 v46 (((((l26.take l26.length) ++ (l28.take l28.length)).take (l26.length + ((l28.take l28.length).length))) ++ [PV.agg [.int .i64 v47,.int .u64 0]]).take ((l26.length + ((l28.take l28.length).length)) + 1))
      else none
     else none
    else
     R186 (c186 k wide vars 1 l24 v39 v40) fun l30 v48 v49 l31 =>
     R103 (c103 k 2 l30 v48 v49) fun l32 v50 v51 v52 =>
     R186 (c186 k wide vars v52 l32 v50 v51) fun l33 v53 v54 l34 =>
     bif decide ((l31.length + ((l34.take l34.length).length)) * 16<=LIM) && decide (l31.length + ((l34.take l34.length).length)<=LIM) then
      R102 (c102 k [PV.int .i64 14,PV.int .i64 15,PV.int .i64 15,PV.int .i64 16] l33 v53 v54) fun l35 v55 v56 v57 =>
      bif decide (((l31.length + ((l34.take l34.length).length)) + 1) * 16<=LIM) && decide ((l31.length + ((l34.take l34.length).length)) + 1<=LIM) then
       r134 l35 v55 v56 (((((l31.take l31.length) ++ (l34.take l34.length)).take (l31.length + ((l34.take l34.length).length))) ++ [PV.agg [.int .i64 v57,.int .u64 0]]).take ((l31.length + ((l34.take l34.length).length)) + 1))
      else none
     else none
   else
    R186 (c186 k wide vars 1 l1 v1 v2) fun l36 v58 v59 l37 =>
    R103 (c103 k 2 l36 v58 v59) fun l38 v60 v61 v62 =>
    R186 (c186 k wide vars v62 l38 v60 v61) fun l39 v63 v64 l40 =>
    bif decide ((l37.length + ((l40.take l40.length).length)) * 16<=LIM) && decide (l37.length + ((l40.take l40.length).length)<=LIM) then
     R102 (c102 k [PV.int .i64 14,PV.int .i64 15,PV.int .i64 15,PV.int .i64 16] l39 v63 v64) fun l41 v65 v66 v67 =>
     bif decide (((l37.length + ((l40.take l40.length).length)) + 1) * 16<=LIM) && decide ((l37.length + ((l40.take l40.length).length)) + 1<=LIM) then
      r134 l41 v65 v66 (((((l37.take l37.length) ++ (l40.take l40.length)).take (l37.length + ((l40.take l40.length).length))) ++ [PV.agg [.int .i64 v67,.int .u64 0]]).take ((l37.length + ((l40.take l40.length).length)) + 1))
     else none
    else none:=by kernel_rfl
theorem n135 (k:Nat) (n1:Int):c135 (k + 1) n1 =
 bif decide (n1 < 1) then
  r135 1
 else r135 n1:=by kernel_rfl
theorem n136 (k:Nat) (wide vars:Int) (t:List PV) (kind:Int):c136 (k + 1) wide vars t kind =
 R77 (c77 k wide vars t) fun b1 =>
 bif b1 then
  R187 (c187 k t) fun v1 =>
  r136 (v1 == kind)
 else r136 false:=by kernel_rfl
theorem n137 (k:Nat) (wide vars:Int) (t:List PV):c137 (k + 1) wide vars t =
 R188 (c188 k wide) fun b1 =>
 bif !b1 then
  r137 0
 else
  R52 (c52 k vars 1 4) fun b2 =>
  bif !b2 then
   r137 0
  else
   R52 (c52 k (t.length:Int) 1 48) fun b3 =>
   bif !b3 then
    r137 0
   else L137_1 k k wide vars 0 t (t.length:Int) 0 []:=by kernel_rfl
theorem sL137_1 (k n:Nat) (wide vars:Int) (pileLen:Nat) (t27:List PV) (t28 t29:Int) (xs:List PV):L137_1 k (n + 1) wide vars pileLen t27 t28 t29 xs =
 bif decide (t29 < t28) then
  (lookP t27 t29).bind fun p1 =>
  bif p1.shp 2 then
   (p1.atInt .i64 0).bind fun n1 =>
   (p1.atInt .u64 1).bind fun n2 =>
   R189 (c189 k n1) fun v1 v2 v3 =>
   bif (v3 == 0) then
    r137 0
   else
    R190 (c190 k wide vars n1 n2) fun b1 =>
    bif !b1 then
     r137 0
    else
     bif decide ((pileLen:Int) < v1) then
      r137 0
     else L137_2 k n k wide vars pileLen v1 v2 v3 t27 t28 t29 xs
  else none
 else
  bif ((pileLen:Int) != 1) then
   r137 0
  else
   bif decide ((0:Int) < (pileLen:Int)) then
    (xs[0]?).bind fun p2 =>
    (p2.atInt .i64 0).bind fun n3 =>
    r137 n3
   else none:=by kernel_rfl
theorem sL137_2 (k n1 n:Nat) (wide vars:Int) (pileLen:Nat) (many part own:Int) (t27:List PV) (t28 t29:Int) (xs:List PV):L137_2 k n1 (n + 1) wide vars pileLen many part own t27 t28 t29 xs =
 bif decide (many > 0) then
  bif decide ((0:Int)<=IntKind.i64.wrap ((pileLen:Int) - 1)) && decide (IntKind.i64.wrap ((pileLen:Int) - 1) < (pileLen:Int)) then
   (xs[0 + ((IntKind.i64.wrap ((pileLen:Int) - 1)).toNat)]?).bind fun p1 =>
   (p1.atInt .i64 0).bind fun n2 =>
   bif (n2 != part) then
    r137 0
   else
    bif decide ((0:Int)<=IntKind.i64.wrap ((pileLen:Int) - 1)) && decide (IntKind.i64.wrap ((pileLen:Int) - 1)<=(pileLen:Int)) then
     L137_2 k n1 n wide vars ((IntKind.i64.wrap ((pileLen:Int) - 1)).toNat) (IntKind.i64.wrap (many - 1)) part own t27 t28 t29 xs
    else none
  else none
 else
  bif decide ((pileLen + 1) * 8<=LIM) && decide (pileLen + 1<=LIM) then
   L137_1 k n1 wide vars (pileLen + 1) t27 t28 (IntKind.i64.wrap (t29 + 1)) ((xs.take pileLen) ++ [PV.int .i64 own])
  else none:=by kernel_rfl
theorem n138 (k:Nat) (l:List PV) (n1:Int):c138 (k + 1) l n1 =
 L138_1 k k n1 l (l.length:Int) 0:=by kernel_rfl
theorem sL138_1 (k n:Nat) (n1:Int) (t7:List PV) (t8 t9:Int):L138_1 k (n + 1) n1 t7 t8 t9 =
 bif decide (t9 < t8) then
  (lookP t7 t9).bind fun p1 =>
  (p1.atInt .i64 0).bind fun n2 =>
  bif (n2 == n1) then
   r138 true
  else L138_1 k n n1 t7 t8 (IntKind.i64.wrap (t9 + 1))
 else r138 false:=by kernel_rfl
theorem n139 (k:Nat) (n1:Int):c139 (k + 1) n1 =
 bif decide (n1>=1) then
  r139 (decide (n1<=64))
 else r139 false:=by kernel_rfl
theorem n140 (k:Nat) (n1:Int):c140 (k + 1) n1 =
 bif decide (n1>=1) then
  r140 (decide (n1<=4))
 else r140 false:=by kernel_rfl
theorem n141 (k:Nat) (op:Int):c141 (k + 1) op =
 bif (op == 1) then
  r141 0 0 1
 else
  bif (op == 2) then
   r141 0 0 1
  else
   bif (op == 20) then
    r141 0 0 2
   else
    bif (op == 13) then
     r141 1 1 1
    else
     bif (op == 19) then
      r141 1 2 2
     else
      bif decide (op>=3) then
       bif decide (op<=12) then
        r141 2 1 1
       else
        bif decide (op>=14) then
         bif decide (op<=16) then
          r141 2 1 2
         else
          bif (op == 17) then
           r141 2 2 2
          else
           bif (op == 18) then
            r141 2 2 2
           else r141 0 0 0
        else
         bif (op == 17) then
          r141 2 2 2
         else
          bif (op == 18) then
           r141 2 2 2
          else r141 0 0 0
      else
       bif decide (op>=14) then
        bif decide (op<=16) then
         r141 2 1 2
        else
         bif (op == 17) then
          r141 2 2 2
         else
          bif (op == 18) then
           r141 2 2 2
          else r141 0 0 0
       else
        bif (op == 17) then
         r141 2 2 2
        else
         bif (op == 18) then
          r141 2 2 2
         else r141 0 0 0:=by kernel_rfl
theorem n142 (k:Nat) (wide vars x x1:Int):c142 (k + 1) wide vars x x1 =
 bif (x == 1) then
  R191 (c191 k wide x1) fun b1 =>
  r142 b1
 else
  bif (x == 2) then
   r142 (decide (x1 < IntKind.u64.wrap vars))
  else
   bif (x == 20) then
    r142 (decide (x1<=1))
   else r142 (x1 == 0):=by kernel_rfl
theorem n143 (k:Nat) (own n1:Int):c143 (k + 1) own n1 =
 r143 n1 (own != n1):=by kernel_rfl
theorem n146f161 (k:Nat) (qs:List PV) (n1 n11:Int) (l l1 l2:List PV) (n12:Int):c146f161 (k + 1) qs n1 n11 l l1 l2 n12 =
 R124f161p (c124f161 k (qs.take qs.length) n1 n11 l l1 l2 n12) fun v1 =>
 bif (v1 == (-1)) then
  r146f161 (qs.take qs.length)
 else L146f161_1 k k qs.length n1 n11 l l1 l2 n12 v1 (IntKind.i64.wrap (v1 + 1)) qs:=by kernel_rfl
theorem n146f153 (k:Nat) (qs l l1:List PV) (n1:Int):c146f153 (k + 1) qs l l1 n1 =
 R124f153p (c124f153 k (qs.take qs.length) l l1 n1) fun v1 =>
 bif (v1 == (-1)) then
  r146f153 (qs.take qs.length)
 else L146f153_1 k k qs.length l l1 n1 v1 (IntKind.i64.wrap (v1 + 1)) qs:=by kernel_rfl
theorem n146f159 (k:Nat) (qs l:List PV) (n1:Int):c146f159 (k + 1) qs l n1 =
 R124f159p (c124f159 k (qs.take qs.length) l n1) fun v1 =>
 bif (v1 == (-1)) then
  r146f159 (qs.take qs.length)
 else L146f159_1 k k qs.length l n1 v1 (IntKind.i64.wrap (v1 + 1)) qs:=by kernel_rfl
theorem sL146f161_1 (k n:Nat) (sLen:Nat) (n1 n11:Int) (l l1 l2:List PV) (n12 i j:Int) (xs:List PV):L146f161_1 k (n + 1) sLen n1 n11 l l1 l2 n12 i j xs =
 bif decide (j < (sLen:Int)) then
  bif decide ((0:Int)<=j) && decide (j < (sLen:Int)) then
   (xs[0 + j.toNat]?).bind fun p1 =>
   (p1.atInt .i64 0).bind fun n2 =>
   R161 (c161 k n2 n1 n11 l l1 l2 n12) fun b1 =>
   bif !b1 then
    bif decide ((0:Int)<=i) && decide (i < (sLen:Int)) then
     (xs[0 + i.toNat]?).bind fun p2 =>
     L146f161_1 k n sLen n1 n11 l l1 l2 n12 (IntKind.i64.wrap (i + 1)) (IntKind.i64.wrap (j + 1)) (xs.set (0 + i.toNat) (PV.int .i64 n2))
    else none
   else L146f161_1 k n sLen n1 n11 l l1 l2 n12 i (IntKind.i64.wrap (j + 1)) xs
  else none
 else
  bif decide ((0:Int)<=i) && decide (i<=(sLen:Int)) && decide ((sLen:Int)<=(sLen:Int)) then
   bif decide ((0:Int)<=i) && decide (i<=(sLen:Int)) then
    r146f161 ((((xs).take (0 + i.toNat)) ++ (List.replicate (sLen - i.toNat) (PV.int .i64 0)) ++ ((xs).drop (0 + i.toNat + (sLen - i.toNat)))).take i.toNat)
   else none
  else none:=by kernel_rfl
theorem sL146f153_1 (k n:Nat) (sLen:Nat) (l l1:List PV) (n1 i j:Int) (xs:List PV):L146f153_1 k (n + 1) sLen l l1 n1 i j xs =
 bif decide (j < (sLen:Int)) then
  bif decide ((0:Int)<=j) && decide (j < (sLen:Int)) then
   (xs[0 + j.toNat]?).bind fun p1 =>
   (p1.atInt .i64 0).bind fun n2 =>
   R153 (c153 k n2 l l1 n1) fun b1 =>
   bif !b1 then
    bif decide ((0:Int)<=i) && decide (i < (sLen:Int)) then
     (xs[0 + i.toNat]?).bind fun p2 =>
     L146f153_1 k n sLen l l1 n1 (IntKind.i64.wrap (i + 1)) (IntKind.i64.wrap (j + 1)) (xs.set (0 + i.toNat) (PV.int .i64 n2))
    else none
   else L146f153_1 k n sLen l l1 n1 i (IntKind.i64.wrap (j + 1)) xs
  else none
 else
  bif decide ((0:Int)<=i) && decide (i<=(sLen:Int)) && decide ((sLen:Int)<=(sLen:Int)) then
   bif decide ((0:Int)<=i) && decide (i<=(sLen:Int)) then
    r146f153 ((((xs).take (0 + i.toNat)) ++ (List.replicate (sLen - i.toNat) (PV.int .i64 0)) ++ ((xs).drop (0 + i.toNat + (sLen - i.toNat)))).take i.toNat)
   else none
  else none:=by kernel_rfl
theorem sL146f159_1 (k n:Nat) (sLen:Nat) (l:List PV) (n1 i j:Int) (xs:List PV):L146f159_1 k (n + 1) sLen l n1 i j xs =
 bif decide (j < (sLen:Int)) then
  bif decide ((0:Int)<=j) && decide (j < (sLen:Int)) then
   (xs[0 + j.toNat]?).bind fun p1 =>
   (p1.atInt .i64 0).bind fun n2 =>
   R159 (c159 k n2 l n1) fun b1 =>
   bif !b1 then
    bif decide ((0:Int)<=i) && decide (i < (sLen:Int)) then
     (xs[0 + i.toNat]?).bind fun p2 =>
     L146f159_1 k n sLen l n1 (IntKind.i64.wrap (i + 1)) (IntKind.i64.wrap (j + 1)) (xs.set (0 + i.toNat) (PV.int .i64 n2))
    else none
   else L146f159_1 k n sLen l n1 i (IntKind.i64.wrap (j + 1)) xs
  else none
 else
  bif decide ((0:Int)<=i) && decide (i<=(sLen:Int)) && decide ((sLen:Int)<=(sLen:Int)) then
   bif decide ((0:Int)<=i) && decide (i<=(sLen:Int)) then
    r146f159 ((((xs).take (0 + i.toNat)) ++ (List.replicate (sLen - i.toNat) (PV.int .i64 0)) ++ ((xs).drop (0 + i.toNat + (sLen - i.toNat)))).take i.toNat)
   else none
  else none:=by kernel_rfl
theorem n148 (k:Nat) (v:List PV) (class1:Int):c148 (k + 1) v class1 =
 L148_1 k k class1 0 v (v.length:Int) 0 []:=by kernel_rfl
theorem sL148_1 (k n:Nat) (class1:Int) (outLen:Nat) (t9:List PV) (t10 t11:Int) (xs:List PV):L148_1 k (n + 1) class1 outLen t9 t10 t11 xs =
 bif decide (t11 < t10) then
  (lookP t9 t11).bind fun p1 =>
  (p1.atInt .i64 0).bind fun n1 =>
  bif (n1 == class1) then
   bif decide ((outLen + 1) * 8<=LIM) && decide (outLen + 1<=LIM) then
    L148_1 k n class1 (outLen + 1) t9 t10 (IntKind.i64.wrap (t11 + 1)) ((xs.take outLen) ++ [PV.int .i64 t11])
   else none
  else L148_1 k n class1 outLen t9 t10 (IntKind.i64.wrap (t11 + 1)) xs
 else r148 (xs.take outLen):=by kernel_rfl
theorem n149 (k:Nat) (p p1:Int) (p2 p3 some1:List PV):c149 (k + 1) p p1 p2 p3 some1 =
 L149_1 k k 0 some1 (some1.length:Int) 0 p p1 p2 p3 []:=by kernel_rfl
theorem sL149_1 (k n:Nat) (outLen:Nat) (t10:List PV) (t11 t12 n1 n11:Int) (l l1 xs:List PV):L149_1 k (n + 1) outLen t10 t11 t12 n1 n11 l l1 xs =
 bif decide (t12 < t11) then
  (lookP t10 t12).bind fun p1 =>
  (p1.atInt .i64 0).bind fun n2 =>
  R111 (c111 k n1 n11 l l1 n2) fun l2 =>
  L149_2 k n k outLen t10 t11 t12 l2 (l2.length:Int) 0 n1 n11 l l1 xs
 else r149 (xs.take outLen):=by kernel_rfl
theorem sL149_2 (k n1 n:Nat) (outLen:Nat) (t10:List PV) (t11 t12:Int) (t18:List PV) (t19 t20 n11 n12:Int) (l l1 xs:List PV):L149_2 k n1 (n + 1) outLen t10 t11 t12 t18 t19 t20 n11 n12 l l1 xs =
 bif decide (t20 < t19) then
  (lookP t18 t20).bind fun p1 =>
  (p1.atInt .i64 0).bind fun n2 =>
  R119 (c119 k (xs.take outLen) n2) fun l2 =>
  L149_2 k n1 n l2.length t10 t11 t12 t18 t19 (IntKind.i64.wrap (t20 + 1)) n11 n12 l l1 l2
 else L149_1 k n1 outLen t10 t11 (IntKind.i64.wrap (t12 + 1)) n11 n12 l l1 xs:=by kernel_rfl
theorem n150 (k:Nat) (l:List PV) (n1 n11:Int):c150 (k + 1) l n1 n11 =
 R44 (c44 k l n1 n11) fun l1 v1 v2 v3 v4 l2 l3 =>
 R174p (c174 k v3 v4 l2 (l3.take l3.length)) fun b1 =>
 bif b1 then
  R48 (c48 k 2 l1 v1 v2) fun l4 v5 v6 b2 =>
  bif b2 then
   bif decide ((0:Int) < (l3.length:Int)) then
    (l3[0]?).bind fun p1 =>
    (putPart p1 2 0 (PV.row 2 0 [PV.agg [.int .i64 20,.int .u64 1]]) 0).bind fun p2 =>
    bif decide ((0:Int) < (l3.length:Int)) then
     ((l3.set 0 p2)[0]?).bind fun p3 =>
     (putPart p3 2 1 (PV.row 2 0 [PV.agg [.int .i64 0,.row 2 0 [PV.agg [.int .i64 2,.int .u64 0],PV.agg [.int .i64 1,.int .u64 1],PV.agg [.int .i64 3,.int .u64 0]]]]) 0).bind fun p4 =>
     R45 (c45 k v3 v4 [PV.agg [.int .i64 2,.int .u64 0],PV.agg [.int .i64 1,.int .u64 0],PV.agg [.int .i64 14,.int .u64 0]] (((l3.set 0 p2).set 0 p4).take l3.length) l4 v5 v6) fun l5 v7 v8 l6 =>
     r150 l5 v7 v8 v3 v4 [PV.agg [.int .i64 2,.int .u64 0],PV.agg [.int .i64 1,.int .u64 0],PV.agg [.int .i64 14,.int .u64 0]] (((l3.set 0 p2).set 0 p4).take l3.length) l6
    else none
   else none
  else
   R45 (c45 k v3 v4 l2 (l3.take l3.length) l4 v5 v6) fun l7 v9 v10 l8 =>
   r150 l7 v9 v10 v3 v4 l2 (l3.take l3.length) l8
 else
  R45 (c45 k v3 v4 l2 (l3.take l3.length) l1 v1 v2) fun l9 v11 v12 l10 =>
  r150 l9 v11 v12 v3 v4 l2 (l3.take l3.length) l10:=by kernel_rfl
theorem n151 (k:Nat) (p p1:Int) (p2 p3 v l:List PV) (n1 n11:Int):c151 (k + 1) p p1 p2 p3 v l n1 n11 =
 R13 (c13 k p p1 p2 p3 v) fun l1 b1 =>
 bif !b1 then
  r151 l n1 n11 [PV.int .i64 0]
 else
  bif ((l1.length:Int) == 0) then
   r151 l n1 n11 [PV.int .i64 0]
  else
   R103 (c103 k (l1.length:Int) l n1 n11) fun l2 v1 v2 v3 =>
   (lookP l1 v3).bind fun p4 =>
   (p4.atInt .i64 0).bind fun n2 =>
   R103 (c103 k 8 l2 v1 v2) fun l3 v4 v5 v6 =>
   L151_1 k k 1 v6 l3 v4 v5 p p1 p2 p3 v [PV.int .i64 n2]:=by kernel_rfl
theorem sL151_1 (k n:Nat) (outLen:Nat) (n1:Int) (l:List PV) (n11 n12 n13 n14:Int) (l1 l2 l3 xs:List PV):L151_1 k (n + 1) outLen n1 l n11 n12 n13 n14 l1 l2 l3 xs =
 bif decide (n1 > 0) then
  bif decide ((0:Int)<=IntKind.i64.wrap ((outLen:Int) - 1)) && decide (IntKind.i64.wrap ((outLen:Int) - 1) < (outLen:Int)) then
   (xs[0 + ((IntKind.i64.wrap ((outLen:Int) - 1)).toNat)]?).bind fun p1 =>
   (p1.atInt .i64 0).bind fun n2 =>
   R31 (c31 k n13 n14 l1 l2 l3 n2) fun l4 b1 =>
   R103 (c103 k (l4.length:Int) l n11 n12) fun l5 v1 v2 v3 =>
   (lookP l4 v3).bind fun p2 =>
   (p2.atInt .i64 0).bind fun n3 =>
   bif decide ((outLen + 1) * 8<=LIM) && decide (outLen + 1<=LIM) then
    L151_1 k n (outLen + 1) (IntKind.i64.wrap (n1 - 1)) l5 v1 v2 n13 n14 l1 l2 l3 ((xs.take outLen) ++ [PV.int .i64 n3])
   else none
  else none
 else
  R48 (c48 k 12 l n11 n12) fun l6 v4 v5 b2 =>
  bif b2 then
   R103 (c103 k (outLen:Int) l6 v4 v5) fun l7 v6 v7 v8 =>
   R103 (c103 k 6 l7 v6 v7) fun l8 v9 v10 v11 =>
   bif decide ((0:Int)<=v8) && decide (v8 < (outLen:Int)) then
    (xs[0 + v8.toNat]?).bind fun p3 =>
    r151 l8 v9 v10 ((xs.set (0 + v8.toNat) (PV.int .i64 v11)).take outLen)
   else none
  else r151 l6 v4 v5 (xs.take outLen):=by kernel_rfl
theorem n152 (k:Nat) (class1 n1:Int):c152 (k + 1) class1 n1 =
 bif decide (class1 < 0) then
  r152 true
 else r152 (decide (class1>=n1)):=by kernel_rfl
theorem n153 (k:Nat) (no:Int) (l l1:List PV) (n1:Int):c153 (k + 1) no l l1 n1 =
 (lookP l no).bind fun p1 =>
 (p1.atRow 0 0).bind fun l2 =>
 R62f154p (c62f154 k l2 l1 n1) fun b1 =>
 r153 (!b1):=by kernel_rfl
theorem n154 (k:Nat) (to:Int) (l:List PV) (n1:Int):c154 (k + 1) to l n1 =
 (lookP l (IntKind.i64.wrap (n1 + 1))).bind fun p1 =>
 (p1.atRow 0 0).bind fun l1 =>
 R65 (c65 k l1 to) fun b1 =>
 r154 b1:=by kernel_rfl
theorem n155 (k:Nat) (to:Int) (l l1:List PV) (n1:Int):c155 (k + 1) to l l1 n1 =
 (lookP l1 (IntKind.i64.wrap (n1 - 1))).bind fun p1 =>
 (p1.atInt .i64 0).bind fun n2 =>
 (lookP l n2).bind fun p2 =>
 (p2.atRow 0 0).bind fun l2 =>
 R65 (c65 k l2 to) fun b1 =>
 r155 b1:=by kernel_rfl
theorem n156 (k:Nat) (v l:List PV):c156 (k + 1) v l =
 R117 (c117 k v) fun v1 =>
 R53 (c53 k l 0 (IntKind.i64.wrap (v1 - 1))) fun b1 =>
 r156 b1:=by kernel_rfl
theorem n157f158 (k:Nat) (qs:List PV):c157f158 (k + 1) qs =
 L157f158_1 k k qs (qs.length:Int) 0:=by kernel_rfl
theorem sL157f158_1 (k n:Nat) (qs:List PV) (t7 t8:Int):L157f158_1 k (n + 1) qs t7 t8 =
 bif decide (t8 < t7) then
  (lookP qs t8).bind fun p1 =>
  (p1.atRow 0 0).bind fun l1 =>
  R158 (c158 k l1) fun b1 =>
  bif b1 then
   r157f158 t8
  else L157f158_1 k n qs t7 (IntKind.i64.wrap (t8 + 1))
 else r157f158 (-1):=by kernel_rfl
theorem n158 (k:Nat) (list:List PV):c158 (k + 1) list =
 r158 ((list.length:Int) == 0):=by kernel_rfl
theorem n159 (k:Nat) (no:Int) (l:List PV) (n1:Int):c159 (k + 1) no l n1 =
 (lookP l no).bind fun p1 =>
 (p1.atInt .i64 0).bind fun n2 =>
 r159 (n2 != n1):=by kernel_rfl
theorem n160 (k:Nat) (qs:List PV) (h1:qs.length * 8<=LIM) (h2:qs.length<=LIM):c160 (k + 1) qs = r160 qs:=evF_T (by first | (simp [T,orT,numT,cloneT,clones,lk,h1,h2] <;> rfl) | (simp [T,cloneT,clones,lk,h1,h2] <;> rfl))
theorem n161 (k:Nat) (no n1 n11:Int) (l l1 l2:List PV) (n12:Int):c161 (k + 1) no n1 n11 l l1 l2 n12 =
 R66 (c66 k n1 n11 l l1 no) fun l3 =>
 R62f162p (c62f162 k l3 l2 n12) fun b1 =>
 r161 (!b1):=by kernel_rfl
theorem n162 (k:Nat) (next:Int) (l:List PV) (n1:Int):c162 (k + 1) next l n1 =
 (lookP l next).bind fun p1 =>
 (p1.atInt .i64 0).bind fun n2 =>
 r162 (n2 == n1):=by kernel_rfl
theorem n163 (k:Nat) (l:List PV) (n1 n11:Int):c163 (k + 1) l n1 n11 =
 bif decide (n1 < (l.length:Int)) then
  (lookP l n1).bind fun p1 =>
  (p1.atInt .u8 0).bind fun n2 =>
  bif decide (IntKind.i64.wrap (n1 + 1)<=(l.length:Int)) then
   r163 l (IntKind.i64.wrap (n1 + 1)) (IntKind.u64.wrap ((IntKind.u64.wrap ((IntKind.u64.wrap (n11 * 6364136223846793005)) + (IntKind.u64.wrap (IntKind.i64.wrap n2)))) + 1442695040888963407)) (IntKind.i64.wrap n2)
  else r163 l (IntKind.i64.wrap (n1 + 1)) (IntKind.u64.wrap ((IntKind.u64.wrap ((IntKind.u64.wrap (n11 * 6364136223846793005)) + (IntKind.u64.wrap (IntKind.i64.wrap n2)))) + 1442695040888963407)) (IntKind.i64.wrap (bitsOp .and .u64 (shrI .u64 (IntKind.u64.wrap ((IntKind.u64.wrap ((IntKind.u64.wrap (n11 * 6364136223846793005)) + (IntKind.u64.wrap (IntKind.i64.wrap n2)))) + 1442695040888963407)) 40) 255))
 else
  bif decide (IntKind.i64.wrap (n1 + 1)<=(l.length:Int)) then
   r163 l (IntKind.i64.wrap (n1 + 1)) (IntKind.u64.wrap ((IntKind.u64.wrap ((IntKind.u64.wrap (n11 * 6364136223846793005)) + 0)) + 1442695040888963407)) 0
  else r163 l (IntKind.i64.wrap (n1 + 1)) (IntKind.u64.wrap ((IntKind.u64.wrap ((IntKind.u64.wrap (n11 * 6364136223846793005)) + 0)) + 1442695040888963407)) (IntKind.i64.wrap (bitsOp .and .u64 (shrI .u64 (IntKind.u64.wrap ((IntKind.u64.wrap ((IntKind.u64.wrap (n11 * 6364136223846793005)) + 0)) + 1442695040888963407)) 40) 255)):=by kernel_rfl
end Go.Proofs.YthoecdnmokcfbaaGreat
