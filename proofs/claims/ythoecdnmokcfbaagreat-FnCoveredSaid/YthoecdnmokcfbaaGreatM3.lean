/- Nu; Ca; Srt0; Srt; Env; Cs; Nf0; Nf1; Nf2; Nf3: texts put together. -/
import Derived.Test.YthoecdnmokcfbaaGreatProg
import Derived.Test.YthoecdnmokcfbaaGreatM2
import Derived.Maps.OwnSet
import Derived.Maps.AppendAt
import Derived.WideKeyPair
import Derived.DeepKeys4
import Derived.OwnWalk
import Derived.WalkKit
import Derived.Shelf.Sort.Plain
import Derived.Shelf.Slices.CompactI
import Derived.Shelf.Slices.In.SortNone
import Derived.Ground.NamesProg
import Derived.Ground.Names2Prog
import Derived.Sort.OwnSortedInts
/- The numbers of classes: the program's map of pairs, walked through by hand. -/
set_option linter.unusedVariables false
namespace Go.Proofs.YthoecdnmokcfbaaGreat
open Go.Maps Go.RowKit Go.WideMaps


def clsF : List (Int × Int) → List (Int × Int) → List Int
  | [], _ => []
  | p :: l, kn => if p ∈ kn then (kn.idxOf p : Int) :: clsF l kn else (kn.length : Int) :: clsF l (kn ++ [p])
def clsL (ps : List (Int × Int)) : List Int := clsF ps []
def Out (ps : List (Int × Int)) (k : Nat) : List Int := clsF (ps.take k) []
open Go.Dp
def pairOf : PV → Option (Int × Int)
  | .agg [.int .i64 a, .int .i64 b] => some (a, b)
  | _ => none
def pairsOf : List PV → Option (List (Int × Int))
  | [] => some []
  | x :: l => (pairOf x).bind fun p => (pairsOf l).bind fun q => some (p :: q)
def wf2B (p : Int × Int) : Bool := (Lit.int .i64 p.1).wf && (Lit.int .i64 p.2).wf
def numT : FuncId → List AV → List (List CV) → R := fun f args bs =>
  bif f == 145 then match args, bs with
    | [.s (.c (.p (.row 2 0 xs)))], [] => (pairsOf xs).bind fun ps => bif decide (ps.length ≤ 1000000) && ps.all wf2B then some ([.agg [.own 3 0 ((clsL ps).map (PV.int .i64))]], []) else none
    | _, _ => none
  else none
end Go.Proofs.YthoecdnmokcfbaaGreat
/- Classes numbered by their first members. -/
set_option linter.unusedVariables false
set_option linter.unusedSimpArgs false
set_option linter.unusedSectionVars false
namespace Go.Proofs.YthoecdnmokcfbaaGreat
open Go.Dp

section
variable {α β : Type} [BEq α] [LawfulBEq α] [BEq β] [LawfulBEq β]
def cls : List α → List α → List Int
  | [], _ => []
  | p :: l, kn => bif kn.contains p then (kn.idxOf p : Int) :: cls l kn else (kn.length : Int) :: cls l (kn ++ [p])
def dis : List α → List α → List α
  | [], kn => kn
  | p :: l, kn => bif kn.contains p then dis l kn else dis l (kn ++ [p])
theorem cls_len : ∀ (l kn : List α), (cls l kn).length = l.length
  | [], kn => rfl
  | p :: l, kn => by
    rw [cls]
    cases kn.contains p
    · simp [cls_len l]
    · simp [cls_len l]
theorem dis_sub : ∀ (l kn : List α) (x : α), x ∈ dis l kn ↔ x ∈ kn ∨ x ∈ l
  | [], kn, x => by simp [dis]
  | p :: l, kn, x => by
    rw [dis]
    cases hc : kn.contains p
    · rw [cond_false, dis_sub l, List.mem_append, List.mem_singleton, List.mem_cons]
      constructor
      · rintro ((h | h) | h)
        · exact .inl h
        · exact .inr (.inl h)
        · exact .inr (.inr h)
      · rintro (h | h | h)
        · exact .inl (.inl h)
        · exact .inl (.inr h)
        · exact .inr h
    · have hp : p ∈ kn := by simpa using hc
      rw [cond_true, dis_sub l, List.mem_cons]
      constructor
      · rintro (h | h)
        · exact .inl h
        · exact .inr (.inr h)
      · rintro (h | h | h)
        · exact .inl h
        · exact .inl (h ▸ hp)
        · exact .inr h
theorem dis_nodup : ∀ (l kn : List α), kn.Nodup → (dis l kn).Nodup
  | [], kn, h => h
  | p :: l, kn, h => by
    rw [dis]
    cases hc : kn.contains p
    · have hp : p ∉ kn := by simpa using hc
      refine dis_nodup l _ ?_
      rw [List.nodup_append]
      exact ⟨h, by simp, fun a ha b hb => by rw [List.mem_singleton.1 hb]; rintro rfl; exact hp ha⟩
    · exact dis_nodup l kn h
theorem idx_app {kn t : List α} {p : α} (h : p ∈ kn) : (kn ++ t).idxOf p = kn.idxOf p := by
  rw [List.idxOf_append, if_pos h]
end

def goodF : List Int → Int → Bool
  | [], _ => true
  | x :: l, m => decide (0 ≤ x) && (decide (x ≤ m) && goodF l (bif x == m then m + 1 else m))
def manyF : List Int → Int → Int
  | [], m => m
  | x :: l, m => manyF l (bif x == m then m + 1 else m)
def iota (m : Nat) : List Int := (List.range m).map fun (i : Nat) => (i : Int)
theorem iota_mem (m : Nat) (x : Int) : x ∈ iota m ↔ 0 ≤ x ∧ x < m := by
  unfold iota
  rw [List.mem_map]
  constructor
  · rintro ⟨i, hi, rfl⟩
    rw [List.mem_range] at hi
    omega
  · rintro ⟨h1, h2⟩
    exact ⟨x.toNat, by rw [List.mem_range]; omega, by omega⟩
theorem iota_succ (m : Nat) : iota m ++ [(m : Int)] = iota (m + 1) := by simp [iota, List.range_succ]
theorem iota_len (m : Nat) : (iota m).length = m := by simp [iota]
theorem iota_get (m i : Nat) (h : i < (iota m).length) : (iota m)[i] = (i : Int) := by
  simp [iota]
theorem iota_idx (m : Nat) {x : Int} (h : x ∈ iota m) : ((iota m).idxOf x : Int) = x := by
  have h1 := List.idxOf_lt_length_of_mem h
  have e := List.getElem_idxOf h1
  rw [iota_get] at e
  exact e
theorem cls_good : ∀ (l : List Int) (m : Nat), goodF l m = true → cls l (iota m) = l ∧ ((dis l (iota m)).length : Int) = manyF l m
  | [], m, h => ⟨rfl, by simp [dis, manyF, iota_len]⟩
  | x :: l, m, h => by
    simp only [goodF, Bool.and_eq_true, decide_eq_true_eq] at h
    obtain ⟨h1, h2, h3⟩ := h
    rw [cls, dis, manyF]
    by_cases e : x = (m : Int)
    · subst e
      have hn : (iota m).contains (m : Int) = false := by
        rw [← Bool.not_eq_true, List.contains_iff_mem, iota_mem]
        omega
      have he : (((m : Int)) == (m : Int)) = true := beq_self_eq_true _
      rw [he] at h3 ⊢
      simp only [cond_true] at h3 ⊢
      have h3' : goodF l ((m + 1 : Nat) : Int) = true := by simpa using h3
      obtain ⟨q1, q2⟩ := cls_good l (m + 1) h3'
      rw [hn]
      simp only [cond_false]
      rw [iota_succ, q1, iota_len]
      exact ⟨rfl, by rw [q2]; simp⟩
    · have hm : x ∈ iota m := (iota_mem m x).2 ⟨h1, by omega⟩
      have hc : (iota m).contains x = true := by simpa using hm
      have he : (x == (m : Int)) = false := by simpa using e
      rw [he] at h3 ⊢
      simp only [cond_false] at h3 ⊢
      obtain ⟨q1, q2⟩ := cls_good l m h3
      rw [hc]
      simp only [cond_true]
      rw [q1, iota_idx m hm]
      exact ⟨rfl, q2⟩
section
variable {α : Type} [BEq α] [LawfulBEq α]
theorem good_cls : ∀ (l kn : List α), goodF (cls l kn) kn.length = true ∧ manyF (cls l kn) kn.length = ((dis l kn).length : Int)
  | [], kn => ⟨rfl, rfl⟩
  | p :: l, kn => by
    rw [cls, dis]
    cases hc : kn.contains p
    · obtain ⟨q1, q2⟩ := good_cls l (kn ++ [p])
      simp only [cond_false, goodF, manyF, beq_self_eq_true, cond_true]
      have e : ((kn ++ [p]).length : Int) = (kn.length : Int) + 1 := by simp
      rw [e] at q1 q2
      rw [q1, q2, decide_eq_true (by omega), decide_eq_true (by omega)]
      simp
    · have hp : p ∈ kn := by simpa using hc
      have hlt := List.idxOf_lt_length_of_mem hp
      obtain ⟨q1, q2⟩ := good_cls l kn
      have he : (((kn.idxOf p : Nat) : Int) == (kn.length : Int)) = false := by
        have : ((kn.idxOf p : Nat) : Int) ≠ (kn.length : Int) := by omega
        simpa using this
      simp only [cond_true, goodF, manyF, he, cond_false, q1, q2]
      rw [decide_eq_true (by omega), decide_eq_true (by omega)]
      simp
theorem nodup_sub : ∀ {a b : List α}, a.Nodup → (∀ x ∈ a, x ∈ b) → a.length ≤ b.length
  | [], b, _, _ => by simp
  | x :: a, b, hn, h => by
    rw [List.nodup_cons] at hn
    have hx := h x (by simp)
    have := nodup_sub (b := b.erase x) hn.2 (fun y hy => by
      have hne : y ≠ x := by rintro rfl; exact hn.1 hy
      exact (List.mem_erase_of_ne hne).2 (h y (by simp [hy])))
    rw [List.length_erase_of_mem hx] at this
    have hpos : 0 < b.length := List.length_pos_of_mem hx
    simp only [List.length_cons]
    omega
end
theorem cls_self {v : List Int} (h : goodF v 0 = true) : cls v [] = v ∧ ((dis v []).length : Int) = manyF v 0 := cls_good v 0 h
theorem good_lt : ∀ (l : List Int) (m : Nat), goodF l m = true → ∀ x ∈ l, 0 ≤ x ∧ x < manyF l m
  | [], m, h, x, hx => by simp at hx
  | y :: l, m, h, x, hx => by
    have hmono : ∀ (l : List Int) (m : Int), m ≤ manyF l m := by
      intro l
      induction l with
      | nil => intro m; exact Int.le_refl m
      | cons z l ih =>
        intro m
        rw [manyF]
        have := ih (bif z == m then m + 1 else m)
        refine Int.le_trans ?_ this
        cases (z == m)
        · exact Int.le_refl m
        · exact Int.le_of_lt (Int.lt_succ m)
    simp only [goodF, Bool.and_eq_true, decide_eq_true_eq] at h
    obtain ⟨h1, h2, h3⟩ := h
    rw [manyF]
    by_cases e : y = (m : Int)
    · have he : (y == (m : Int)) = true := by simpa using e
      rw [he] at h3 ⊢
      simp only [cond_true] at h3 ⊢
      have h3' : goodF l ((m + 1 : Nat) : Int) = true := by simpa using h3
      rcases List.mem_cons.1 hx with rfl | hx
      · have := hmono l ((m : Int) + 1)
        omega
      · have := good_lt l (m + 1) h3' x hx
        simpa using this
    · have he : (y == (m : Int)) = false := by simpa using e
      rw [he] at h3 ⊢
      simp only [cond_false] at h3 ⊢
      rcases List.mem_cons.1 hx with rfl | hx
      · have := hmono l (m : Int)
        omega
      · exact good_lt l m h3 x hx

section
variable {α β γ : Type} [BEq β] [LawfulBEq β] [BEq γ] [LawfulBEq γ]
end
end Go.Proofs.YthoecdnmokcfbaaGreat
/-
  DERIVED: THE SHELF's CONTRACTS AT THIS DUMP, IN PLAIN WORDS (tools/lay-plain.mjs out of 'YthoecdnmokcfbaaGreatSrt0.lean', which tools/lay-shelf.mjs wrote): THE SAME DECLARATIONS UNDER THE SAME NAMES: 'import', 'namespace', 'open', 'def', 'theorem' AND NOTHING ELSE: no command of the shelf's: FOR A HAND-IN. Each laying: the table of numbers ('.._ren') and one theorem, a field a fact of the dump's own or the kernel's comparison; each contract: ONE APPLICATION.
-/
namespace Go.Proofs
open Go.Shelf
def YthoecdnmokcfbaaGreat.lays189_ren : Go.Shelf.Ren := ⟨fun | 189 => 128 | 125 => 181 | 257 => 180 | 128 => 211 | 129 => 212 | 294 => 202 | 295 => 203 | 296 => 204 | 297 => 205 | 298 => 206 | 299 => 207 | 216 => 208 | 300 => 209 | 301 => 210 | 328 => 225 | 329 => 226 | 330 => 227 | 331 => 228 | 332 => 229 | 215 => 230 | 343 => 236 | n => n, fun | 28 => 28 | 3 => 3 | 46 => 166 | 0 => 0 | 51 => 191 | 53 => 64 | 4 => 4 | 183 => 185 | 182 => 184 | 131 => 58 | 5 => 5 | 9 => 9 | 218 => 202 | 222 => 206 | 228 => 214 | 229 => 215 | n => n, fun | n => n⟩
theorem YthoecdnmokcfbaaGreat.lays189 : Go.Proofs.Lays.n189 Tryz.prog YthoecdnmokcfbaaGreat.lays189_ren := {
  mixed := by kernel_rfl
  f125 := Tryz.func181.trans (congrArg some (by kernel_rfl))
  f128 := Tryz.func211.trans (congrArg some (by kernel_rfl))
  f129 := Tryz.func212.trans (congrArg some (by kernel_rfl))
  f189 := Tryz.func128.trans (congrArg some (by kernel_rfl))
  f215 := Tryz.func230.trans (congrArg some (by kernel_rfl))
  f216 := Tryz.func208.trans (congrArg some (by kernel_rfl))
  f257 := Tryz.func180.trans (congrArg some (by kernel_rfl))
  f294 := Tryz.func202.trans (congrArg some (by kernel_rfl))
  f295 := Tryz.func203.trans (congrArg some (by kernel_rfl))
  f296 := Tryz.func204.trans (congrArg some (by kernel_rfl))
  f297 := Tryz.func205.trans (congrArg some (by kernel_rfl))
  f298 := Tryz.func206.trans (congrArg some (by kernel_rfl))
  f299 := Tryz.func207.trans (congrArg some (by kernel_rfl))
  f300 := Tryz.func209.trans (congrArg some (by kernel_rfl))
  f301 := Tryz.func210.trans (congrArg some (by kernel_rfl))
  f328 := Tryz.func225.trans (congrArg some (by kernel_rfl))
  f329 := Tryz.func226.trans (congrArg some (by kernel_rfl))
  f330 := Tryz.func227.trans (congrArg some (by kernel_rfl))
  f331 := Tryz.func228.trans (congrArg some (by kernel_rfl))
  f332 := Tryz.func229.trans (congrArg some (by kernel_rfl))
  f343 := Tryz.func236.trans (congrArg some (by kernel_rfl))
  t0 := Tryz.underlying0
  a0 := Tryz.isAgg0
  z0 := Tryz.sizeOf0
  v0 := Tryz.zeroValue0
  t3 := Tryz.underlying3
  a3 := Tryz.isAgg3
  z3 := Tryz.sizeOf3
  v3 := Tryz.zeroValue3
  t4 := Tryz.underlying4
  a4 := Tryz.isAgg4
  z4 := Tryz.sizeOf4
  v4 := Tryz.zeroValue4
  t5 := Tryz.underlying5
  a5 := Tryz.isAgg5
  z5 := Tryz.sizeOf5
  v5 := Tryz.zeroValue5
  t9 := Tryz.underlying9
  a9 := Tryz.isAgg9
  z9 := Tryz.sizeOf9
  v9 := Tryz.zeroValue9
  t28 := Tryz.underlying28
  a28 := Tryz.isAgg28
  z28 := Tryz.sizeOf28
  v28 := Tryz.zeroValue28
  t46 := Tryz.underlying166
  a46 := Tryz.isAgg166
  z46 := Tryz.sizeOf166
  v46 := Tryz.zeroValue166
  t51 := Tryz.underlying191
  a51 := Tryz.isAgg191
  z51 := Tryz.sizeOf191
  v51 := Tryz.zeroValue191
  t53 := Tryz.underlying64
  a53 := Tryz.isAgg64
  z53 := Tryz.sizeOf64
  v53 := Tryz.zeroValue64
  t131 := Tryz.underlying58
  a131 := Tryz.isAgg58
  z131 := Tryz.sizeOf58
  v131 := Tryz.zeroValue58
  t182 := Tryz.underlying184
  a182 := Tryz.isAgg184
  z182 := Tryz.sizeOf184
  v182 := Tryz.zeroValue184
  t183 := Tryz.underlying185
  a183 := Tryz.isAgg185
  z183 := Tryz.sizeOf185
  v183 := Tryz.zeroValue185
  t218 := Tryz.underlying202
  a218 := Tryz.isAgg202
  z218 := Tryz.sizeOf202
  v218 := Tryz.zeroValue202
  t222 := Tryz.underlying206
  a222 := Tryz.isAgg206
  z222 := Tryz.sizeOf206
  v222 := Tryz.zeroValue206
  t228 := Tryz.underlying214
  a228 := Tryz.isAgg214
  z228 := Tryz.sizeOf214
  v228 := Tryz.zeroValue214
  t229 := Tryz.underlying215
  a229 := Tryz.isAgg215
  z229 := Tryz.sizeOf215
  v229 := Tryz.zeroValue215 }
def YthoecdnmokcfbaaGreat.lays20_ren : Go.Shelf.Ren := ⟨fun | 20 => 129 | n => n, fun | 22 => 28 | 3 => 3 | 4 => 4 | 0 => 0 | n => n, fun | n => n⟩
theorem YthoecdnmokcfbaaGreat.lays20 : Go.Proofs.Lays2.n20 Tryz.prog YthoecdnmokcfbaaGreat.lays20_ren := {
  mixed := by kernel_rfl
  f20 := Tryz.func129.trans (congrArg some (by kernel_rfl))
  t0 := Tryz.underlying0
  a0 := Tryz.isAgg0
  z0 := Tryz.sizeOf0
  v0 := Tryz.zeroValue0
  t3 := Tryz.underlying3
  a3 := Tryz.isAgg3
  z3 := Tryz.sizeOf3
  v3 := Tryz.zeroValue3
  t4 := Tryz.underlying4
  a4 := Tryz.isAgg4
  z4 := Tryz.sizeOf4
  v4 := Tryz.zeroValue4
  t22 := Tryz.underlying28
  a22 := Tryz.isAgg28
  z22 := Tryz.sizeOf28
  v22 := Tryz.zeroValue28
  i3 := by kernel_rfl }
end Go.Proofs
/- The library's sort and its compacting, at rows of integers of one's own: the shelf's contracts, at this program. -/
set_option linter.unusedVariables false
namespace Go.Proofs.YthoecdnmokcfbaaGreat
open Go.Dp Go.Sort Go.RowKit
theorem putCells_at (cur : Array Value) (bo : Nat) (ts : List Int) (h : ts = [] ∨ bo + ts.length ≤ cur.size) : (putCells (Value.int .i64) bo ts.toArray cur).toList = cur.toList.take bo ++ (ts.map (Value.int .i64) ++ cur.toList.drop (bo + ts.length)) := by
  rcases h with rfl | h
  · rw [show (putCells (Value.int .i64) bo ([] : List Int).toArray cur) = cur from by
      apply Array.ext_getElem?
      intro j
      by_cases hj : j < cur.size <;> simp [putCells, hj] <;> omega]
    simp
  apply List.ext_getElem?
  intro j
  rw [Array.getElem?_toList]
  by_cases hj : j < bo
  · rw [List.getElem?_append_left (by (simp; try omega)), List.getElem?_take_of_lt hj]
    simp [putCells, show ¬ (bo ≤ j) by omega, show j < cur.size by omega]
  · have hlt : cur.toList.length = cur.size := Array.length_toList
    rw [List.getElem?_append_right (by rw [List.length_take]; omega), List.length_take, hlt, Nat.min_eq_left (by omega)]
    by_cases hj2 : j < bo + ts.length
    · rw [List.getElem?_append_left (by (simp; try omega))]
      simp [putCells, hj2, show bo ≤ j by omega, show j < cur.size by omega, show j - bo < ts.length by omega]
    · rw [List.getElem?_append_right (by (simp; try omega)), List.length_map, List.getElem?_drop]
      have ej : bo + ts.length + (j - bo - ts.length) = j := by omega
      rw [ej]
      by_cases hc : j < cur.size
      · simp [putCells, hj2, hc]
      · rw [Array.getElem?_eq_none (by (simp [putCells]; try omega)), List.getElem?_eq_none (by (simp; try omega))]
theorem holds_at {w : World} {g bo : Nat} {cur : Array Value} {e : TypeId} {ss : List Int} (hb : w.heap[g]? = some (.cells cur e (0, 0))) (ht : (cur.toList.drop bo).take ss.length = ss.map (Value.int .i64)) : Holds (Value.int .i64) w g bo ss.toArray := by
  intro j hj
  have hj' : j < ss.length := by simpa using hj
  refine ⟨?_, by simp [World.frozen?, hb]⟩
  have h1 : ((cur.toList.drop bo).take ss.length)[j]? = (ss.map (Value.int .i64))[j]? := by rw [ht]
  rw [List.getElem?_take_of_lt hj', List.getElem?_drop] at h1
  simp only [World.cell?, hb]
  simp only [Option.isSome_none, Bool.false_eq_true, if_false]
  rw [← Array.getElem?_toList, h1]
  simp [hj']
theorem put_wd {w : World} {b bo n : Nat} {os : Array Obj} {cu : Array Value} {e : TypeId} {d : List Int} (hb : w.heap[b]? = some (.cells cu e (0, 0))) (hd : d = [] ∨ bo + d.length ≤ cu.size) :
    Wd w (grow (putRow (Value.int .i64) (Sort.ahead w n) b bo d.toArray) os) ∧ (∀ k, k < w.heap.size → k ≠ b → (grow (putRow (Value.int .i64) (Sort.ahead w n) b bo d.toArray) os).heap[k]? = w.heap[k]?) ∧
      ∃ cu', (grow (putRow (Value.int .i64) (Sort.ahead w n) b bo d.toArray) os).heap[b]? = some (.cells cu' e (0, 0)) ∧ cu'.size = cu.size ∧ cu'.toList = cu.toList.take bo ++ (d.map (Value.int .i64) ++ cu.toList.drop (bo + d.length)) := by
  have hg : b < w.heap.size := (Array.getElem?_eq_some_iff.1 hb).1
  refine ⟨⟨rfl, rfl, rfl, by simp⟩, fun k hk hne => ?_, putCells (Value.int .i64) bo d.toArray cu, ?_, by simp [putCells], putCells_at cu bo d hd⟩
  · rw [heap_grow_old _ _ (by simpa using hk)]
    simp [putRow, mapBlock, Sort.ahead, Array.getElem?_modify, Ne.symm hne]
  · rw [heap_grow_old _ _ (by simpa using hg)]
    simp [putRow, mapBlock, Sort.ahead, Array.getElem?_modify, hb, onCells]
theorem size_at {cu : Array Value} {bo : Nat} {zs : List Int} (h : (cu.toList.drop bo).take zs.length = zs.map (Value.int .i64)) : zs = [] ∨ bo + zs.length ≤ cu.size := by
  cases hz : zs with
  | nil => exact .inl rfl
  | cons z t =>
    right
    have := congrArg List.length h
    simp [hz] at this
    simp
    omega
theorem sort_ok : SortOK Tryz.prog 1 128 where
  enters := ⟨Tryz.f128, Tryz.func128, by kernel_rfl, by decide⟩
  empty w p cap := Any.slices_Sort_int_none YthoecdnmokcfbaaGreat.lays189 p cap w
  row w b bo cap zs cu e hb ht hc hl := by
    have hH : Holds (Value.int .i64) w b bo zs.toArray := holds_at hb ht
    have hlt := (Array.getElem?_eq_some_iff.1 hb).1
    refine Calls.mono (Any.slices_Sort_int YthoecdnmokcfbaaGreat.lays189 b bo cap zs w hH hlt (by unfold LIM at hl; omega)) ?_
    rintro e' w' ⟨rfl, n, os, rfl⟩
    have hsz := size_at ht
    have hl2 : (zs.mergeSort fun x y => decide (x ≤ y)).length = zs.length := List.length_mergeSort zs
    have := put_wd (n := n) (os := os) (d := zs.mergeSort fun x y => decide (x ≤ y)) hb (hsz.imp (fun h => List.eq_nil_of_length_eq_zero (by rw [hl2, h]; rfl)) (fun h => by rw [hl2]; exact h))
    rw [hl2] at this
    exact ⟨rfl, this⟩
theorem comp_ok : SortOK Tryz.prog 2 129 where
  enters := ⟨Tryz.f129, Tryz.func129, by kernel_rfl, by decide⟩
  empty w p cap := Any.slices_Compact_int_empty YthoecdnmokcfbaaGreat.lays20 p cap w
  row w b bo cap zs cu e hb ht hc hl := by
    have hH : Holds (Value.int .i64) w b bo zs.toArray := holds_at hb ht
    refine Calls.mono (Any.slices_Compact_int YthoecdnmokcfbaaGreat.lays20 b bo cap zs w hH (by unfold LIM at hl; omega) hc) ?_
    rintro e' w' ⟨rfl, n, rfl⟩
    have hsz := size_at ht
    have hcl := compI_le zs
    have hl2 : (Lib.compact zs ++ List.replicate (zs.length - (Lib.compact zs).length) 0).length = zs.length := by
      have : (Lib.compact zs).length ≤ zs.length := hcl
      simp
      omega
    have := put_wd (n := n) (os := #[]) (d := Lib.compact zs ++ List.replicate (zs.length - (Lib.compact zs).length) 0) hb (hsz.imp (fun h => List.eq_nil_of_length_eq_zero (by rw [hl2, h]; rfl)) (fun h => by rw [hl2]; exact h))
    rw [hl2, grow_empty] at this
    exact ⟨rfl, this⟩
end Go.Proofs.YthoecdnmokcfbaaGreat
/- What the evaluator is told of the program's types, loops and functions: printed by nf.py. -/
namespace Go.Proofs.YthoecdnmokcfbaaGreat
open Go.Dp
def tabs : Tabs where
  sl := [(22, (5, 0, 1)), (24, (96, 2, 16)), (25, (114, 2, 48)), (28, (3, 0, 8)), (35, (28, 0, 24)), (86, (64, 0, 8)),
  (98, (24, 0, 24)), (112, (116, 2, 32)), (125, (4, 0, 1))]
  sh := [(2, 0), (3, 0), (4, 0), (5, 0), (9, 0), (22, 0), (24, 0), (25, 0), (27, 4), (28, 0), (30, 1), (35, 0), (37, 1), (63, 0), (64, 0), (66, 3), (71, 0), (86, 0), (96, 2), (98, 0),
  (112, 0), (114, 2), (116, 2), (125, 0), (166, 0), (173, 0), (191, 0)]
  fl := [(27, [some (0, 0), some (1, 0), some (2, 0), some (3, 0)]), (30, [some (0, 0)]), (37, [some (0, 0)]), (66, [some (0, 0), some (1, 0), some (2, 0)]), (96, [some (0, 0), some (1, 0)]), (114, [some (0, 0), some (1, 0)]),
  (116, [some (0, 0), some (1, 0)])]
  ik := [(2, .i64), (3, .i64), (5, .u8), (64, .u64), (166, .u64), (191, .u32)]
  zr := [(2, [.int .i64 0]), (3, [.int .i64 0]), (4, [.bool false]), (5, [.int .u8 0]), (9, [.str ⟨#[]⟩]), (22, [.row 0 2 []]),
  (24, [.row 0 2 []]), (25, [.row 0 2 []]), (27, [.int .i64 0, .int .i64 0, .row 0 2 [], .row 0 2 []]), (28, [.row 0 2 []]), (30, [.row 0 2 []]), (35, [.row 0 2 []]),
  (37, [.row 0 2 []]), (64, [.int .u64 0]), (66, [.row 0 2 [], .int .i64 0, .int .u64 0]), (86, [.row 0 2 []]), (96, [.int .i64 0, .int .u64 0]), (98, [.row 0 2 []]),
  (112, [.row 0 2 []]), (114, [.row 0 2 [], .row 0 2 []]), (116, [.int .i64 0, .row 0 2 []]), (125, [.row 0 2 []]), (166, [.int .u64 0]), (191, [.int .u32 0])]
  eqs := [(96, [0, 0])]
  bl := [(4, ())]
  st := [(9, ())]
  flat := [(2, ()), (3, ()), (4, ()), (5, ()), (9, ()), (64, ()), (96, ()), (166, ()), (191, ())]
  ar := []
def tLive : List (Nat × List (Nat × List Nat)) := [(3, [(0, [5, 6, 8, 12, 20, 21, 26]), (2, [6, 20, 28, 180, 181, 182])]), (8, [(0, [3, 4, 8, 26, 27, 28])]), (9, [(0, [4, 8, 30, 31, 32])]),
  (16, [(0, [0, 1, 12, 13])]), (17, [(0, [0, 1, 12, 13])]), (18, [(0, [1, 2, 6])]),
  (19, [(0, [1, 7, 8, 9])]), (44, [(0, [0, 2, 3, 4])]), (46, [(0, [1, 2, 6, 8, 9]), (2, [1, 2, 6, 8, 28, 29, 30])]),
  (51, [(0, [5, 20, 21, 22])]), (53, [(0, [1, 2, 9, 10, 11])]), (54, [(0, [2, 3, 5, 9, 10])]),
  (55, [(0, [2, 3, 5, 6])]), (56, [(0, [2, 5, 11, 12, 13])]), (57, [(0, [1, 2, 5, 9, 10])]),
  (58, [(0, [2, 5, 8, 9, 10])]), (59, [(0, [1, 2, 5, 6])]), (66, [(0, [1, 2, 5, 6, 14, 15, 16])]),
  (68, [(0, [1, 2, 5, 9, 10])]), (77, [(0, [0, 1, 7, 33, 34, 35])]), (88, [(0, [3, 4, 7, 13, 14, 15])]),
  (101, [(0, [1, 5, 10, 11, 12])]), (104, [(0, [0, 1, 2, 6, 7, 8])]), (106, [(0, [0, 4, 7, 8])]),
  (108, [(0, [0, 1, 7, 8])]), (109, [(0, [1, 2, 6, 7])]), (110, [(0, [2, 3, 4, 9])]),
  (111, [(0, [1, 2, 5, 6, 14, 15, 16])]), (113, [(0, [1, 2, 5, 9, 10, 11])]), (117, [(0, [3, 7, 8, 9])]),
  (118, [(0, [3, 7, 8, 9])]), (119, [(0, [0, 1, 5])]), (121, [(0, [1, 2, 5, 6])]),
  (122, [(0, [5, 11, 12, 13])]), (123, [(0, [5, 10, 11, 12])]), (124, [(0, [0, 1, 7, 8])]),
  (125, [(0, [0, 1, 7, 8])]), (126, [(0, [2, 5, 8, 9, 10])]), (127, [(0, [2, 3, 7, 13, 14, 15])]),
  (130, [(0, [0, 2, 7, 12, 13, 14])]), (133, [(0, [1, 3, 7, 8])]), (137, [(0, [0, 1, 7, 27, 28, 29]), (2, [0, 1, 7, 10, 11, 12, 27, 28, 29])]),
  (138, [(0, [1, 7, 8, 9])]), (148, [(0, [1, 5, 9, 10, 11])]), (149, [(0, [2, 5, 10, 11, 12]), (2, [2, 5, 10, 11, 12, 18, 19, 20])]),
  (164, [(0, [0, 1, 2, 6, 7, 8])]), (165, [(0, [2, 10, 11, 12])]), (166, [(0, [2, 4, 5, 12, 13, 14])]),
  (167, [(0, [0, 1, 2, 9, 10, 11])]), (168, [(0, [1, 4, 5, 9, 10, 11])]), (169, [(0, [1, 3])]),
  (170, [(0, [5, 10, 11, 12])]), (171, [(0, [1, 2, 5, 9, 10, 11])]), (172, [(0, [1, 2, 5, 6])]),
  (173, [(0, [1, 3, 7, 18, 19, 20])]), (174, [(0, [1, 18, 19, 20])]), (175, [(0, [0, 3, 4])]),
  (177, [(0, [0, 5, 6, 17, 18, 19]), (2, [0, 5, 6]), (4, [0, 5, 6, 37, 38, 39])]), (178, [(0, [0, 1, 5, 17, 18]), (2, [0, 1, 5, 25, 26, 27]), (4, [0, 5, 9]), (6, [0, 5, 9, 10, 48, 49, 50])]), (185, [(0, [2, 3, 13, 14, 15])]),
  (195, [(0, [0, 2, 3, 4, 9, 10, 11]), (2, [0, 2, 3, 4, 5, 6, 7, 8, 9, 10, 11])]), (197, [(0, [2, 3, 21, 22, 23])]), (198, [(0, [0, 1, 5, 6])]),
  (200, [(0, [0, 5, 8])]), (201, [(0, [7, 8])]), (217, [(0, [0, 1, 7, 8])]),
  (221, [(0, [0, 1, 2, 3])]), (232, [(0, [2, 8, 9, 10, 11, 13, 14, 15, 16]), (2, [2, 8, 9, 10, 14, 15, 16, 17, 18])])]
def tRk : List (Nat × List RK) := [(3, [.c (.p (.bool))]), (6, [.c (.p (.bool))]), (7, [.agg [.p (.int .i64), .p (.int .i64), .p (.row 2), .p (.row 2)], .agg [.p (.row 0)], .c (.p (.row 0))]), (8, [.c (.p (.row 0)), .c (.p (.bool))]), (9, [.c (.p (.row 0)), .c (.p (.bool))]), (10, [.agg [.p (.row 0)], .c (.p (.bool))]),
  (11, [.agg [.p (.row 0)], .c (.p (.bool))]), (12, [.c (.p (.row 0)), .c (.p (.bool))]), (13, [.c (.p (.row 0)), .c (.p (.bool))]), (14, [.c (.p (.row 0)), .c (.p (.bool))]), (15, [.c (.p (.row 0)), .c (.p (.bool))]), (16, [.c (.p (.bool))]),
  (17, [.c (.p (.bool))]), (18, [.c (.p (.bool)), .c (.p (.bool))]), (19, [.c (.p (.bool))]), (20, [.c (.p (.row 0)), .c (.p (.bool))]), (44, [.agg [.p (.int .i64), .p (.int .i64), .p (.row 2), .p (.row 2)]]), (45, [.agg [.p (.row 0)]]),
  (46, [.c (.own 3 0), .c (.p (.bool))]), (47, [.c (.p (.int .i64))]), (48, [.c (.p (.bool))]), (49, [.c (.p (.bool))]), (50, [.c (.p (.int .i64))]), (51, [.c (.p (.bool))]),
  (52, [.c (.p (.bool))]), (53, [.c (.p (.bool))]), (54, [.c (.p (.row 0))]), (55, [.c (.p (.row 0))]), (56, [.c (.own 3 0)]), (57, [.c (.p (.row 0))]),
  (58, [.c (.p (.row 0))]), (59, [.c (.p (.row 0))]), (60, [.c (.p (.row 0))]), (61, [.c (.p (.row 0))]), (62, [.c (.p (.bool))]), (63, [.c (.p (.bool))]),
  (64, [.c (.p (.bool))]), (65, [.c (.p (.bool))]), (66, [.c (.p (.row 0))]), (67, [.c (.p (.bool))]), (68, [.c (.p (.row 0))]), (69, [.c (.p (.bool))]),
  (70, [.c (.p (.row 0))]), (72, [.c (.p (.bool))]), (74, [.c (.p (.bool))]), (77, [.c (.p (.bool))]), (88, [.c (.own 3 0)]), (89, [.c (.p (.row 0))]),
  (101, [.c (.p (.row 0))]), (102, [.c (.p (.int .i64))]), (103, [.c (.p (.int .i64))]), (104, [.agg [.p (.int .i64), .p (.int .i64), .p (.row 2), .own ⟨114, some ⟨1, 116, 2, 0, none⟩⟩ 2]]), (105, [.agg [.own 3 0], .c (.p (.bool))]), (106, [.c (.p (.row 0))]),
  (107, [.agg [.own 3 0], .c (.p (.bool))]), (108, [.c (.p (.row 0))]), (109, [.c (.p (.int .i64)), .c (.p (.bool))]), (110, [.c (.p (.bool))]), (111, [.c (.p (.row 0))]), (112, [.c (.p (.row 0)), .c (.p (.bool))]),
  (113, [.c (.p (.bool))]), (114, [.c (.p (.bool))]), (115, [.c (.p (.int .i64))]), (116, [.c (.p (.int .i64))]), (117, [.c (.p (.int .i64))]), (118, [.c (.own 3 0)]),
  (119, [.c (.own 3 0)]), (120, [.c (.p (.bool))]), (121, [.c (.p (.row 0))]), (122, [.c (.p (.row 0))]), (123, [.c (.p (.row 0))]), (124, [.c (.p (.int .i64))]),
  (125, [.c (.p (.int .i64))]), (126, [.c (.p (.int .i64))]), (127, [.c (.p (.row 0))]), (130, [.c (.p (.int .u64))]), (131, [.c (.p (.int .u64))]), (132, [.c (.p (.bool))]),
  (133, [.c (.p (.row 0))]), (134, [.c (.own 96 2)]), (135, [.c (.p (.int .i64))]), (136, [.c (.p (.bool))]), (137, [.c (.p (.int .i64))]), (138, [.c (.p (.bool))]),
  (139, [.c (.p (.bool))]), (140, [.c (.p (.bool))]), (141, [.c (.p (.int .i64)), .c (.p (.int .i64)), .c (.p (.int .i64))]), (142, [.c (.p (.bool))]), (143, [.c (.p (.bool))]), (148, [.c (.p (.row 0))]),
  (149, [.c (.p (.row 0))]), (160, [.c (.own 3 0)]), (163, [.c (.p (.int .i64))]), (164, [.agg [.p (.row 2), .own 116 2]]), (165, [.c (.p (.bool))]), (166, [.agg [.own 3 0]]),
  (167, [.c (.p (.bool))]), (168, [.agg [.own 3 0]]), (169, [.c (.p (.row 0))]), (170, [.c (.p (.row 0))]), (171, [.c (.p (.row 0))]), (172, [.c (.p (.int .i64))]),
  (173, [.c (.p (.row 0))]), (174, [.c (.p (.bool))]), (175, [.c (.p (.int .i64))]), (176, [.c (.p (.int .u64))]), (177, [.c (.p (.row 0))]), (178, [.c (.p (.row 0))]),
  (179, [.c (.own 64 0)]), (182, [.c (.p (.int .u64))]), (183, [.c (.p (.bool))]), (184, [.c (.p (.bool))]), (185, [.c (.p (.bool))]), (186, [.c (.own 96 2)]),
  (187, [.c (.p (.int .i64))]), (188, [.c (.p (.bool))]), (189, [.c (.p (.int .i64)), .c (.p (.int .i64)), .c (.p (.int .i64))]), (190, [.c (.p (.bool))]), (191, [.c (.p (.bool))]), (194, [.agg [.own 3 0]]),
  (195, [.agg [.own 3 0]]), (196, [.c (.own 3 0)]), (197, [.c (.p (.bool))]), (198, [.c (.p (.int .u64))]), (199, [.c (.p (.int .u64))]), (200, [.c (.p (.int .i64))]),
  (201, [.c (.own 3 0)]), (212, [.c (.p (.int .i64))]), (213, [.c (.p (.int .u64)), .c (.p (.int .u64)), .c (.p (.bool))]), (214, [.c (.p (.int .u64))]), (215, [.c (.p (.int .u64))]), (216, [.c (.p (.int .i64))]),
  (217, [.c (.p (.int .i64))]), (218, [.c (.p (.bool))]), (220, [.c (.p (.int .u64)), .c (.p (.int .u64)), .c (.p (.bool))]), (221, [.c (.p (.int .u64))]), (222, [.c (.p (.int .u64))]), (223, [.c (.p (.int .i64))]),
  (224, [.c (.p (.int .u64)), .c (.p (.int .u64))]), (231, [.c (.p (.bool))]), (232, [.c (.p (.int .u64)), .c (.p (.int .u64))]), (233, [.c (.p (.bool))]), (235, [.c (.p (.int .u64)), .c (.p (.int .u64))]), (237, [.c (.p (.int .i64))])]
def tBk : List (Nat × List (List Kind)) := [(44, [[.p (.row 0), .p (.int .i64), .p (.int .u64)]]), (45, [[.p (.row 0), .p (.int .i64), .p (.int .u64)]]), (47, [[.p (.row 0), .p (.int .i64), .p (.int .u64)]]), (48, [[.p (.row 0), .p (.int .i64), .p (.int .u64)]]), (102, [[.p (.row 0), .p (.int .i64), .p (.int .u64)]]), (103, [[.p (.row 0), .p (.int .i64), .p (.int .u64)]]),
  (104, [[.p (.row 0), .p (.int .i64), .p (.int .u64)]]), (106, [[.p (.row 0), .p (.int .i64), .p (.int .u64)]]), (108, [[.p (.row 0), .p (.int .i64), .p (.int .u64)]]), (134, [[.p (.row 0), .p (.int .i64), .p (.int .u64)]]), (143, [[.p (.int .i64)]]), (163, [[.p (.row 0), .p (.int .i64), .p (.int .u64)]]),
  (164, [[.p (.row 0), .p (.int .i64), .p (.int .u64)]]), (184, [[.p (.int .i64), .p (.int .i64), .p (.row 2), .p (.row 2)]]), (186, [[.p (.row 0), .p (.int .i64), .p (.int .u64)]]), (144062, [[.p (.int .i64)]]), (144124, [[.p (.int .i64)]]), (185183, [[.p (.int .i64), .p (.int .i64), .p (.row 2), .p (.row 2)]]),
  (185217, [[.p (.int .i64), .p (.int .i64), .p (.row 2), .p (.row 2)]])]
def tPlain : List (Nat × Unit) := [(3, ()), (6, ()), (16, ()), (17, ()), (18, ()), (19, ()), (46, ()), (49, ()), (50, ()), (51, ()), (52, ()), (53, ()),
  (56, ()), (63, ()), (64, ()), (65, ()), (67, ()), (69, ()), (72, ()), (74, ()), (77, ()), (88, ()), (105, ()), (107, ()),
  (109, ()), (110, ()), (113, ()), (114, ()), (115, ()), (116, ()), (117, ()), (118, ()), (119, ()), (120, ()), (125, ()), (126, ()),
  (130, ()), (131, ()), (132, ()), (135, ()), (136, ()), (137, ()), (138, ()), (139, ()), (140, ()), (141, ()), (142, ()), (143, ()),
  (160, ()), (165, ()), (166, ()), (167, ()), (168, ()), (172, ()), (174, ()), (175, ()), (176, ()), (179, ()), (182, ()), (185, ()),
  (187, ()), (188, ()), (189, ()), (190, ()), (191, ()), (194, ()), (195, ()), (196, ()), (197, ()), (198, ()), (199, ()), (200, ()),
  (201, ()), (212, ()), (213, ()), (214, ()), (215, ()), (216, ()), (218, ()), (220, ()), (221, ()), (222, ()), (223, ()), (224, ()),
  (231, ()), (232, ()), (233, ()), (235, ()), (237, ()), (64062, ()), (144062, ()), (144124, ())]
def tCt : List (Nat × CT) := [(2, .one (.int .i64)), (3, .one (.int .i64)), (4, .one (.bool)), (5, .one (.int .u8)), (9, .one (.str)), (22, .one (.row 0)),
  (24, .one (.row 2)), (25, .one (.row 2)), (27, .agg [.int .i64, .int .i64, .row 2, .row 2]), (28, .one (.row 0)), (30, .agg [.row 0]), (35, .one (.row 0)),
  (37, .agg [.row 0]), (64, .one (.int .u64)), (66, .agg [.row 0, .int .i64, .int .u64]), (86, .one (.row 0)), (96, .agg [.int .i64, .int .u64]), (98, .one (.row 0)),
  (112, .one (.row 2)), (114, .agg [.row 2, .row 2]), (116, .agg [.int .i64, .row 2]), (125, .one (.row 0)), (166, .one (.int .u64)), (191, .one (.int .u32))]
def tAk : List (Nat × List CT) := [(3, [.one (.row 0), .one (.row 0)]), (6, [.one (.row 0), .one (.row 0)]), (7, [.one (.row 0)]), (8, [.agg [.int .i64, .int .i64, .row 2, .row 2], .agg [.row 0], .one (.row 0)]), (9, [.agg [.int .i64, .int .i64, .row 2, .row 2], .agg [.row 0], .one (.row 0)]), (10, [.agg [.int .i64, .int .i64, .row 2, .row 2], .agg [.row 0]]),
  (11, [.agg [.int .i64, .int .i64, .row 2, .row 2], .agg [.row 0]]), (12, [.agg [.int .i64, .int .i64, .row 2, .row 2], .agg [.row 0]]), (13, [.agg [.int .i64, .int .i64, .row 2, .row 2], .agg [.row 0]]), (14, [.agg [.int .i64, .int .i64, .row 2, .row 2], .agg [.row 0]]), (15, [.agg [.int .i64, .int .i64, .row 2, .row 2], .agg [.row 0]]), (16, [.one (.row 0), .one (.row 0)]),
  (17, [.one (.row 0), .one (.row 0)]), (18, [.agg [.int .i64, .int .i64, .row 2, .row 2], .one (.row 0)]), (19, [.one (.row 0), .one (.int .i64)]), (20, [.agg [.int .i64, .int .i64, .row 2, .row 2]]), (44, [.one (.any)]), (45, [.one (.any), .agg [.int .i64, .int .i64, .row 2, .row 2]]),
  (46, [.agg [.int .i64, .int .i64, .row 2, .row 2], .one (.int .i64)]), (47, [.one (.any), .agg [.int .i64, .int .i64, .row 2, .row 2]]), (48, [.one (.any), .one (.int .i64)]), (49, [.agg [.int .i64, .int .i64, .row 2, .row 2], .agg [.row 0]]), (50, [.agg [.int .i64, .int .i64, .row 2, .row 2]]), (51, [.agg [.int .i64, .int .i64, .row 2, .row 2], .agg [.row 0]]),
  (52, [.one (.int .i64), .one (.int .i64), .one (.int .i64)]), (53, [.one (.row 0), .one (.int .i64), .one (.int .i64)]), (54, [.agg [.int .i64, .int .i64, .row 2, .row 2], .agg [.row 0]]), (55, [.agg [.int .i64, .int .i64, .row 2, .row 2], .agg [.row 0]]), (56, [.agg [.row 0], .one (.row 0)]), (57, [.agg [.int .i64, .int .i64, .row 2, .row 2], .one (.row 2)]),
  (58, [.agg [.row 0], .one (.row 0)]), (59, [.agg [.int .i64, .int .i64, .row 2, .row 2], .one (.row 2)]), (60, [.agg [.int .i64, .int .i64, .row 2, .row 2], .agg [.row 0]]), (61, [.agg [.int .i64, .int .i64, .row 2, .row 2], .agg [.row 0]]), (62, [.one (.row 0), .one (.any)]), (63, [.one (.int .i64)]),
  (64, [.agg [.int .i64, .int .i64, .row 2, .row 2], .one (.int .i64)]), (65, [.one (.row 0), .one (.int .i64)]), (66, [.agg [.int .i64, .int .i64, .row 2, .row 2], .one (.int .i64)]), (67, [.agg [.int .i64, .int .i64, .row 2, .row 2], .one (.row 2), .one (.row 0)]), (68, [.agg [.int .i64, .int .i64, .row 2, .row 2], .one (.int .i64)]), (69, [.agg [.int .i64, .int .i64, .row 2, .row 2]]),
  (70, [.agg [.int .i64, .int .i64, .row 2, .row 2]]), (72, [.agg [.int .i64, .int .i64, .row 2, .row 2], .one (.row 2)]), (74, [.agg [.int .i64, .int .i64, .row 2, .row 2], .one (.row 2)]), (77, [.one (.int .i64), .one (.int .i64), .one (.row 2)]), (88, [.agg [.int .i64, .int .i64, .row 2, .row 2], .agg [.row 0], .one (.int .i64)]), (89, [.agg [.int .i64, .int .i64, .row 2, .row 2], .agg [.row 0], .one (.int .i64)]),
  (101, [.agg [.row 0], .one (.int .i64)]), (102, [.one (.any), .one (.row 0)]), (103, [.one (.any), .one (.int .i64)]), (104, [.one (.any), .one (.int .i64), .one (.int .i64)]), (105, [.agg [.int .i64, .int .i64, .row 2, .row 2], .one (.row 0)]), (106, [.one (.any), .agg [.int .i64, .int .i64, .row 2, .row 2], .one (.int .i64)]),
  (107, [.agg [.int .i64, .int .i64, .row 2, .row 2], .agg [.row 0], .one (.row 0)]), (108, [.one (.any), .one (.int .i64), .one (.int .i64)]), (109, [.agg [.int .i64, .int .i64, .row 2, .row 2], .one (.int .i64)]), (110, [.agg [.int .i64, .int .i64, .row 2, .row 2], .one (.int .i64), .one (.int .i64), .one (.int .i64)]), (111, [.agg [.int .i64, .int .i64, .row 2, .row 2], .one (.int .i64)]), (112, [.agg [.int .i64, .int .i64, .row 2, .row 2]]),
  (113, [.agg [.row 0], .one (.int .i64)]), (114, [.agg [.int .i64, .int .i64, .row 2, .row 2]]), (115, [.agg [.int .i64, .int .i64, .row 2, .row 2]]), (116, [.agg [.row 0]]), (117, [.agg [.row 0]]), (118, [.one (.row 0)]),
  (119, [.one (.row 0), .one (.int .i64)]), (120, [.agg [.int .i64, .int .i64, .row 2, .row 2], .one (.row 2), .one (.row 0)]), (121, [.agg [.int .i64, .int .i64, .row 2, .row 2], .one (.int .i64)]), (122, [.one (.row 0), .one (.row 0)]), (123, [.one (.row 0), .one (.row 0)]), (124, [.one (.row 0), .one (.any)]),
  (125, [.one (.row 0), .one (.int .i64)]), (126, [.agg [.int .i64, .int .i64, .row 2, .row 2], .one (.row 0)]), (127, [.agg [.int .i64, .int .i64, .row 2, .row 2], .agg [.row 2, .row 2], .one (.row 0)]), (130, [.one (.int .i64), .one (.row 2), .one (.row 0)]), (131, [.one (.int .i64)]), (132, [.agg [.int .i64, .int .i64, .row 2, .row 2]]),
  (133, [.agg [.int .i64, .int .i64, .row 2, .row 2]]), (134, [.one (.any), .one (.int .i64), .one (.int .i64), .one (.int .i64)]), (135, [.one (.int .i64)]), (136, [.one (.int .i64), .one (.int .i64), .one (.row 2), .one (.int .i64)]), (137, [.one (.int .i64), .one (.int .i64), .one (.row 2)]), (138, [.one (.row 0), .one (.int .i64)]),
  (139, [.one (.int .i64)]), (140, [.one (.int .i64)]), (141, [.one (.int .i64)]), (142, [.one (.int .i64), .one (.int .i64), .agg [.int .i64, .int .u64]]), (143, [.one (.int .i64)]), (148, [.agg [.row 0], .one (.int .i64)]),
  (149, [.agg [.int .i64, .int .i64, .row 2, .row 2], .one (.row 0)]), (160, [.one (.row 0)]), (163, [.one (.any)]), (164, [.one (.any), .one (.int .i64), .one (.int .i64)]), (165, [.agg [.int .i64, .int .i64, .row 2, .row 2], .one (.row 0)]), (166, [.agg [.int .i64, .int .i64, .row 2, .row 2], .one (.row 0)]),
  (167, [.one (.row 0), .one (.int .i64), .one (.int .i64)]), (168, [.agg [.row 0], .one (.row 0)]), (169, [.agg [.int .i64, .int .i64, .row 2, .row 2]]), (170, [.one (.row 0), .one (.row 0)]), (171, [.agg [.int .i64, .int .i64, .row 2, .row 2], .one (.row 0)]), (172, [.agg [.int .i64, .int .i64, .row 2, .row 2], .one (.row 0)]),
  (173, [.agg [.int .i64, .int .i64, .row 2, .row 2], .one (.row 0), .one (.int .i64)]), (174, [.agg [.int .i64, .int .i64, .row 2, .row 2]]), (175, [.one (.row 0)]), (176, [.one (.int .i64), .one (.row 2), .one (.int .i64), .one (.row 0)]), (177, [.one (.row 0), .one (.row 0)]), (178, [.one (.row 0), .one (.row 0)]),
  (179, [.one (.row 0)]), (182, [.one (.int .i64), .one (.int .i64), .one (.int .u64), .one (.int .u64)]), (183, [.one (.row 2), .one (.any)]), (184, [.agg [.row 2, .row 2]]), (185, [.agg [.int .i64, .int .i64, .row 2, .row 2], .agg [.row 2, .row 2]]), (186, [.one (.any), .one (.int .i64), .one (.int .i64), .one (.int .i64)]),
  (187, [.one (.row 2)]), (188, [.one (.int .i64)]), (189, [.one (.int .i64)]), (190, [.one (.int .i64), .one (.int .i64), .agg [.int .i64, .int .u64]]), (191, [.one (.int .i64), .one (.int .u64)]), (194, [.agg [.int .i64, .int .i64, .row 2, .row 2], .agg [.row 0], .one (.row 2)]),
  (195, [.one (.row 0)]), (196, [.one (.row 0)]), (197, [.agg [.int .i64, .int .i64, .row 2, .row 2], .agg [.row 2, .row 2]]), (198, [.one (.int .i64), .one (.int .u64)]), (199, [.one (.int .i64), .one (.int .i64), .one (.int .u64), .one (.int .u64)]), (200, [.one (.row 2), .one (.int .i64)]),
  (201, [.one (.row 0), .one (.int .i64)]), (212, [.one (.int .u64)]), (213, [.one (.int .i64), .one (.int .u64), .one (.int .u64)]), (214, [.one (.int .i64), .one (.int .u64), .one (.int .u64), .one (.bool)]), (215, [.one (.bool)]), (216, [.one (.int .i64), .one (.int .u64)]),
  (217, [.one (.row 2), .one (.any)]), (218, [.one (.int .i64), .one (.int .u64)]), (220, [.one (.int .i64), .one (.int .u64), .one (.int .u64)]), (221, [.one (.int .i64), .one (.int .u64), .one (.int .u64), .one (.bool)]), (222, [.one (.bool)]), (223, [.one (.int .i64), .one (.int .u64)]),
  (224, [.one (.int .u64), .one (.int .u64)]), (231, [.one (.int .i64), .one (.int .u64), .one (.int .u64)]), (232, [.one (.int .u64), .one (.int .u64), .one (.int .u64)]), (233, [.one (.int .i64), .one (.int .u64), .one (.int .u64)]), (235, [.one (.int .u64), .one (.int .u64)]), (237, [.one (.int .u64)])]
def tOwn : List (Nat × List (Nat × List (Option Nat × Nat × Et × Nat))) := [(9, [(0, [(none, 8, 3, 0)])]), (44, [(0, [(some 1, 2, 0, 2), (some 1, 3, 0, 2)])]), (46, [(0, [(none, 8, 3, 0)])]),
  (55, [(0, [(none, 5, 28, 0)])]), (58, [(0, [(none, 5, 3, 0)])]), (59, [(0, [(none, 5, 3, 0)])]),
  (104, [(0, [(some 1, 2, 0, 2), (some 1, 3, 0, 2), (some 2, 3, ⟨114, some ⟨1, 116, 2, 0, none⟩⟩, 2)])]), (106, [(0, [(none, 7, 24, 0)])]), (108, [(0, [(none, 7, 3, 0)])]),
  (111, [(0, [(none, 6, 3, 0)])]), (121, [(0, [(none, 5, 64, 0)])]), (123, [(0, [(none, 5, 3, 0)])]),
  (137, [(0, [(none, 7, 3, 0)])]), (148, [(0, [(none, 5, 3, 0)])]), (149, [(0, [(none, 5, 3, 0)])]),
  (164, [(0, [(some 1, 0, 0, 2), (some 1, 1, 0, 2), (some 2, 1, 116, 2)])]), (166, [(0, [(some 1, 0, 0, 0)])]), (168, [(0, [(none, 5, 3, 0), (some 0, 0, 0, 0)])]),
  (171, [(0, [(none, 5, 3, 0)])]), (195, [(0, [(some 0, 0, 3, 0), (some 1, 0, 3, 0)])])]
def tCut : List (Nat × List (Nat × List Nat)) := []
def tNest : List (Nat × Kd) := [(25, ⟨1, 116, 2, 0, none⟩)]
def tSorts : List (Nat × Nat) := [(128, 1), (129, 2)]
theorem sortsOK : ∀ g n, (g, n) ∈ tSorts → SortOK Tryz.prog n g := by
  intro g n h
  simp only [tSorts, List.mem_cons, Prod.mk.injEq, List.not_mem_nil, or_false] at h
  rcases h with ⟨rfl, rfl⟩ | ⟨rfl, rfl⟩
  · exact sort_ok
  · exact comp_ok
def tAo : List (Nat × List (Option (Et × Nat))) := [(119, [some (3, 0), none])]
def tRo : List (Nat × Unit) := [(64062, ()), (64124, ())]
def tExt : List (Nat × Nat) := []
theorem extOK : ∀ g n, (g, n) ∈ tExt → ExtOK Tryz.prog n g := by
  intro g n h
  simp [tExt] at h
noncomputable def E : Env := tabs.env tLive tRk tBk tPlain tCt tAk tOwn tCut tNest tSorts tAo tExt tRo
theorem envOK : EnvOK Tryz.prog E := Tabs.sound (by kernel_rfl) sortsOK extOK
noncomputable def pTab : List (Nat × Func) := [(3, Tryz.f3), (6, Tryz.f6), (7, Tryz.f7), (8, Tryz.f8), (9, Tryz.f9), (10, Tryz.f10), (11, Tryz.f11), (12, Tryz.f12), (13, Tryz.f13), (14, Tryz.f14), (15, Tryz.f15), (16, Tryz.f16),
  (17, Tryz.f17), (18, Tryz.f18), (19, Tryz.f19), (20, Tryz.f20), (44, Tryz.f44), (45, Tryz.f45), (46, Tryz.f46), (47, Tryz.f47), (48, Tryz.f48), (49, Tryz.f49), (50, Tryz.f50), (51, Tryz.f51),
  (52, Tryz.f52), (53, Tryz.f53), (54, Tryz.f54), (55, Tryz.f55), (56, Tryz.f56), (57, Tryz.f57), (58, Tryz.f58), (59, Tryz.f59), (60, Tryz.f60), (61, Tryz.f61), (62, Tryz.f62), (63, Tryz.f63),
  (64, Tryz.f64), (65, Tryz.f65), (66, Tryz.f66), (67, Tryz.f67), (68, Tryz.f68), (69, Tryz.f69), (70, Tryz.f70), (72, Tryz.f72), (74, Tryz.f74), (77, Tryz.f77), (88, Tryz.f88), (89, Tryz.f89),
  (101, Tryz.f101), (102, Tryz.f102), (103, Tryz.f103), (104, Tryz.f104), (105, Tryz.f105), (106, Tryz.f106), (107, Tryz.f107), (108, Tryz.f108), (109, Tryz.f109), (110, Tryz.f110), (111, Tryz.f111), (112, Tryz.f112),
  (113, Tryz.f113), (114, Tryz.f114), (115, Tryz.f115), (116, Tryz.f116), (117, Tryz.f117), (118, Tryz.f118), (119, Tryz.f119), (120, Tryz.f120), (121, Tryz.f121), (122, Tryz.f122), (123, Tryz.f123), (124, Tryz.f124),
  (125, Tryz.f125), (126, Tryz.f126), (127, Tryz.f127), (130, Tryz.f130), (131, Tryz.f131), (132, Tryz.f132), (133, Tryz.f133), (134, Tryz.f134), (135, Tryz.f135), (136, Tryz.f136), (137, Tryz.f137), (138, Tryz.f138),
  (139, Tryz.f139), (140, Tryz.f140), (141, Tryz.f141), (142, Tryz.f142), (143, Tryz.f143), (148, Tryz.f148), (149, Tryz.f149), (160, Tryz.f160), (163, Tryz.f163), (164, Tryz.f164), (165, Tryz.f165), (166, Tryz.f166),
  (167, Tryz.f167), (168, Tryz.f168), (169, Tryz.f169), (170, Tryz.f170), (171, Tryz.f171), (172, Tryz.f172), (173, Tryz.f173), (174, Tryz.f174), (175, Tryz.f175), (176, Tryz.f176), (177, Tryz.f177), (178, Tryz.f178),
  (179, Tryz.f179), (182, Tryz.f182), (183, Tryz.f183), (184, Tryz.f184), (185, Tryz.f185), (186, Tryz.f186), (187, Tryz.f187), (188, Tryz.f188), (189, Tryz.f189), (190, Tryz.f190), (191, Tryz.f191), (194, Tryz.f194),
  (195, Tryz.f195), (196, Tryz.f196), (197, Tryz.f197), (198, Tryz.f198), (199, Tryz.f199), (200, Tryz.f200), (201, Tryz.f201), (212, Tryz.f212), (213, Tryz.f213), (214, Tryz.f214), (215, Tryz.f215), (216, Tryz.f216),
  (217, Tryz.f217), (218, Tryz.f218), (220, Tryz.f220), (221, Tryz.f221), (222, Tryz.f222), (223, Tryz.f223), (224, Tryz.f224), (231, Tryz.f231), (232, Tryz.f232), (233, Tryz.f233), (235, Tryz.f235), (237, Tryz.f237)]
noncomputable def P : FuncId → Option Func := lk pTab
theorem pOK : PfOK Tryz.prog P := pfOK_of (tab := pTab)
  (pfOK_cons Tryz.func3 (pfOK_cons Tryz.func6 (pfOK_cons Tryz.func7 (pfOK_cons Tryz.func8 (pfOK_cons Tryz.func9 (pfOK_cons Tryz.func10 (pfOK_cons Tryz.func11 (pfOK_cons Tryz.func12 
  (pfOK_cons Tryz.func13 (pfOK_cons Tryz.func14 (pfOK_cons Tryz.func15 (pfOK_cons Tryz.func16 (pfOK_cons Tryz.func17 (pfOK_cons Tryz.func18 (pfOK_cons Tryz.func19 (pfOK_cons Tryz.func20 
  (pfOK_cons Tryz.func44 (pfOK_cons Tryz.func45 (pfOK_cons Tryz.func46 (pfOK_cons Tryz.func47 (pfOK_cons Tryz.func48 (pfOK_cons Tryz.func49 (pfOK_cons Tryz.func50 (pfOK_cons Tryz.func51 
  (pfOK_cons Tryz.func52 (pfOK_cons Tryz.func53 (pfOK_cons Tryz.func54 (pfOK_cons Tryz.func55 (pfOK_cons Tryz.func56 (pfOK_cons Tryz.func57 (pfOK_cons Tryz.func58 (pfOK_cons Tryz.func59 
  (pfOK_cons Tryz.func60 (pfOK_cons Tryz.func61 (pfOK_cons Tryz.func62 (pfOK_cons Tryz.func63 (pfOK_cons Tryz.func64 (pfOK_cons Tryz.func65 (pfOK_cons Tryz.func66 (pfOK_cons Tryz.func67 
  (pfOK_cons Tryz.func68 (pfOK_cons Tryz.func69 (pfOK_cons Tryz.func70 (pfOK_cons Tryz.func72 (pfOK_cons Tryz.func74 (pfOK_cons Tryz.func77 (pfOK_cons Tryz.func88 (pfOK_cons Tryz.func89 
  (pfOK_cons Tryz.func101 (pfOK_cons Tryz.func102 (pfOK_cons Tryz.func103 (pfOK_cons Tryz.func104 (pfOK_cons Tryz.func105 (pfOK_cons Tryz.func106 (pfOK_cons Tryz.func107 (pfOK_cons Tryz.func108 
  (pfOK_cons Tryz.func109 (pfOK_cons Tryz.func110 (pfOK_cons Tryz.func111 (pfOK_cons Tryz.func112 (pfOK_cons Tryz.func113 (pfOK_cons Tryz.func114 (pfOK_cons Tryz.func115 (pfOK_cons Tryz.func116 
  (pfOK_cons Tryz.func117 (pfOK_cons Tryz.func118 (pfOK_cons Tryz.func119 (pfOK_cons Tryz.func120 (pfOK_cons Tryz.func121 (pfOK_cons Tryz.func122 (pfOK_cons Tryz.func123 (pfOK_cons Tryz.func124 
  (pfOK_cons Tryz.func125 (pfOK_cons Tryz.func126 (pfOK_cons Tryz.func127 (pfOK_cons Tryz.func130 (pfOK_cons Tryz.func131 (pfOK_cons Tryz.func132 (pfOK_cons Tryz.func133 (pfOK_cons Tryz.func134 
  (pfOK_cons Tryz.func135 (pfOK_cons Tryz.func136 (pfOK_cons Tryz.func137 (pfOK_cons Tryz.func138 (pfOK_cons Tryz.func139 (pfOK_cons Tryz.func140 (pfOK_cons Tryz.func141 (pfOK_cons Tryz.func142 
  (pfOK_cons Tryz.func143 (pfOK_cons Tryz.func148 (pfOK_cons Tryz.func149 (pfOK_cons Tryz.func160 (pfOK_cons Tryz.func163 (pfOK_cons Tryz.func164 (pfOK_cons Tryz.func165 (pfOK_cons Tryz.func166 
  (pfOK_cons Tryz.func167 (pfOK_cons Tryz.func168 (pfOK_cons Tryz.func169 (pfOK_cons Tryz.func170 (pfOK_cons Tryz.func171 (pfOK_cons Tryz.func172 (pfOK_cons Tryz.func173 (pfOK_cons Tryz.func174 
  (pfOK_cons Tryz.func175 (pfOK_cons Tryz.func176 (pfOK_cons Tryz.func177 (pfOK_cons Tryz.func178 (pfOK_cons Tryz.func179 (pfOK_cons Tryz.func182 (pfOK_cons Tryz.func183 (pfOK_cons Tryz.func184 
  (pfOK_cons Tryz.func185 (pfOK_cons Tryz.func186 (pfOK_cons Tryz.func187 (pfOK_cons Tryz.func188 (pfOK_cons Tryz.func189 (pfOK_cons Tryz.func190 (pfOK_cons Tryz.func191 (pfOK_cons Tryz.func194 
  (pfOK_cons Tryz.func195 (pfOK_cons Tryz.func196 (pfOK_cons Tryz.func197 (pfOK_cons Tryz.func198 (pfOK_cons Tryz.func199 (pfOK_cons Tryz.func200 (pfOK_cons Tryz.func201 (pfOK_cons Tryz.func212 
  (pfOK_cons Tryz.func213 (pfOK_cons Tryz.func214 (pfOK_cons Tryz.func215 (pfOK_cons Tryz.func216 (pfOK_cons Tryz.func217 (pfOK_cons Tryz.func218 (pfOK_cons Tryz.func220 (pfOK_cons Tryz.func221 
  (pfOK_cons Tryz.func222 (pfOK_cons Tryz.func223 (pfOK_cons Tryz.func224 (pfOK_cons Tryz.func231 (pfOK_cons Tryz.func232 (pfOK_cons Tryz.func233 (pfOK_cons Tryz.func235 (pfOK_cons Tryz.func237 
  pfOK_nil))))))))))))))))))))))))))))))))))))))))))))))))))))))))))))))))))))))))))))))))))))))))))))))))))))))))))))))))))))))))))))))))))))))))))))))))
  (by kernel_rfl)
theorem cl160 (xs : List PV) (h1 : xs.length * 8 ≤ LIM) (h2 : xs.length ≤ LIM) : evF P E (fun _ _ _ => none) 2 160 [.s (.c (.p (.row 0 3 xs)))] [] = some ([.c (.own 3 0 xs)], []) := by
  have e : evF P E (fun _ _ _ => none) 2 160 [.s (.c (.p (.row 0 3 xs)))] [] = bif decide ((0 + xs.length) * 8 ≤ LIM) && decide (0 + xs.length ≤ LIM) then some ([.c (.own 3 0 (([] ++ xs).take (0 + xs.length)))], []) else none := by kernel_rfl
  rw [e]
  simp [h1, h2]
theorem cl179 (xs : List PV) (h1 : xs.length * 8 ≤ LIM) (h2 : xs.length ≤ LIM) : evF P E (fun _ _ _ => none) 2 179 [.s (.c (.p (.row 0 3 xs)))] [] = some ([.c (.own 64 0 xs)], []) := by
  have e : evF P E (fun _ _ _ => none) 2 179 [.s (.c (.p (.row 0 3 xs)))] [] = bif decide ((0 + xs.length) * 8 ≤ LIM) && decide (0 + xs.length ≤ LIM) then some ([.c (.own 64 0 (([] ++ xs).take (0 + xs.length)))], []) else none := by kernel_rfl
  rw [e]
  simp [h1, h2]
def clones : List (Nat × (Nat × Nat × Nat)) := [(160, (3, 0, 8)), (179, (64, 0, 8))]
theorem hT0 : ∀ f args bs r, cloneT clones f args bs = some r → Contract Tryz.prog f args bs r := by
  refine cloneT_ok fun f e sh by_ hm xs h1 h2 => ?_
  have h0 : ∀ f args bs r, (fun (_ : FuncId) (_ : List AV) (_ : List (List CV)) => (none : R)) f args bs = some r → Contract Tryz.prog f args bs r := fun _ _ _ _ h => by cases h
  simp only [clones, List.mem_cons, List.not_mem_nil, or_false, Prod.mk.injEq] at hm
  rcases hm with ⟨rfl, rfl, rfl, rfl⟩ | ⟨rfl, rfl, rfl, rfl⟩
  · exact clone_contract (evF_sound envOK pOK h0 2 (by kernel_rfl)) (evF_sound envOK pOK h0 2 (cl160 xs h1 h2))
  · exact clone_contract (evF_sound envOK pOK h0 2 (by kernel_rfl)) (evF_sound envOK pOK h0 2 (cl179 xs h1 h2))
def T : FuncId → List AV → List (List CV) → R := cloneT clones
theorem hT : ∀ f args bs r, T f args bs = some r → Contract Tryz.prog f args bs r := hT0
end Go.Proofs.YthoecdnmokcfbaaGreat
/- Calls and loops of the program, by shape: printed by nf.py. -/
set_option linter.unusedVariables false
namespace Go.Proofs.YthoecdnmokcfbaaGreat
open Go.Dp
noncomputable section

def c3 (k : Nat) (code more : List PV) : R := evF P E T k 3 [.s (.c (.p (PV.row 0 0 code))), .s (.c (.p (PV.row 0 0 more)))] []
def r3 (b : Bool) : R := some ([.c (.p (PV.bool b))], [])
def L3_1 (k n : Nat) (l qr : List PV) (three : Bool) (k1 n1 n11 : Int) (l1 l2 l3 l4 : List PV) : R := evLoopAt P E T k 3 3 [] [1, 1, 1, 1, 1, 1, 1, 1, 1, 1, 1, 1, 1, 0, 1, 0, 1, 1, 0] [] n ⟨mkT 207 [(5, .s (.c (.bptr 0 0))), (6, .s (.c (.bptr 1 0))), (8, .s (.c (.p (PV.row 0 0 l)))), (12, .s (.c (.bptr 2 0))), (20, .s (.c (.p (PV.row 0 0 qr)))), (21, .s (.c (.p (PV.bool three)))), (26, .s (.c (.p (PV.int .i64 k1))))], [.box [.p (PV.int .i64 n1), .p (PV.int .i64 n11), .p (PV.row 2 0 l1), .p (PV.row 2 0 l2)], .box [.p (PV.row 0 0 l3)], .box [.p (PV.row 0 0 l4)]]⟩
def L3_2 (k n : Nat) (qr : List PV) (five : Bool) (t180 : List PV) (t181 t182 : Int) (l : List PV) : R := evLoopAt P E T k 3 3 [] [1, 1, 1, 1, 1, 1, 1, 1, 1, 1, 1, 1, 1, 1, 0, 1, 0, 1, 0, 1, 0] [] n ⟨mkT 207 [(6, .s (.c (.bptr 0 0))), (20, .s (.c (.p (PV.row 0 0 qr)))), (28, .s (.c (.p (PV.bool five)))), (180, .s (.c (.p (PV.row 0 0 t180)))), (181, .s (.c (.p (PV.int .i64 t181)))), (182, .s (.c (.p (PV.int .i64 t182))))], [.box [.p (PV.row 0 0 l)]]⟩

def c6 (k : Nat) (code more : List PV) : R := evF P E T k 6 [.s (.c (.p (PV.row 0 0 code))), .s (.c (.p (PV.row 0 0 more)))] []
def r6 (b : Bool) : R := some ([.c (.p (PV.bool b))], [])
def R6 (x0 : R) (K0 : Bool → R) : R := x0.bind fun q0 => bif lensB q0.2 [] && lensS q0.1 [.c (.p (.bool))] then (cBool (resAt q0.1 0)).bind fun b => K0 b else none
@[simp] theorem R6_r (b : Bool) (K0 : Bool → R) : R6 (r6 b) K0 = K0 b := by kernel_rfl

def c7 (k : Nat) (code : List PV) : R := evF P E T k 7 [.s (.c (.p (PV.row 0 0 code)))] []
def r7 (qr qr1 : Int) (l l1 l2 l3 : List PV) : R := some ([.agg [.p (PV.int .i64 qr), .p (PV.int .i64 qr1), .p (PV.row 2 0 l), .p (PV.row 2 0 l1)], .agg [.p (PV.row 0 0 l2)], .c (.p (PV.row 0 0 l3))], [])
def R7 (x0 : R) (K0 : Int → Int → List PV → List PV → List PV → List PV → R) : R := x0.bind fun q0 => bif lensB q0.2 [] && lensS q0.1 [.agg [.p (.int .i64), .p (.int .i64), .p (.row 2), .p (.row 2)], .agg [.p (.row 0)], .c (.p (.row 0))] then (cInt (Dp.partAt q0.1 0 0) .i64).bind fun qr => (cInt (Dp.partAt q0.1 0 1) .i64).bind fun qr1 => (cRow (Dp.partAt q0.1 0 2) 2).bind fun l => (cRow (Dp.partAt q0.1 0 3) 2).bind fun l1 => (cRow (Dp.partAt q0.1 1 0) 0).bind fun l2 => (cRow (resAt q0.1 2) 0).bind fun l3 => K0 qr qr1 l l1 l2 l3 else none
@[simp] theorem R7_r (qr qr1 : Int) (l l1 l2 l3 : List PV) (K0 : Int → Int → List PV → List PV → List PV → List PV → R) : R7 (r7 qr qr1 l l1 l2 l3) K0 = K0 qr qr1 l l1 l2 l3 := by kernel_rfl

def c8 (k : Nat) (p p1 : Int) (p2 p3 v path : List PV) : R := evF P E T k 8 [.s (.c (.p (PV.agg [.int .i64 p, .int .i64 p1, .row 2 0 p2, .row 2 0 p3]))), .s (.c (.p (PV.agg [.row 0 0 v]))), .s (.c (.p (PV.row 0 0 path)))] []
def r8 (l : List PV) (b : Bool) : R := some ([.c (.p (PV.row 0 0 l)), .c (.p (PV.bool b))], [])
def R8 (x0 : R) (K0 : List PV → Bool → R) : R := x0.bind fun q0 => bif lensB q0.2 [] && lensS q0.1 [.c (.p (.row 0)), .c (.p (.bool))] then (cRow (resAt q0.1 0) 0).bind fun l => (cBool (resAt q0.1 1)).bind fun b => K0 l b else none
@[simp] theorem R8_r (l : List PV) (b : Bool) (K0 : List PV → Bool → R) : R8 (r8 l b) K0 = K0 l b := by kernel_rfl
def L8_1 (k n : Nat) (outLen : Nat) (t26 : List PV) (t27 t28 n1 n11 : Int) (l l1 l2 xs : List PV) : R := evLoopAt P E T k 8 8 [] [1, 1, 1, 0, 1, 0] [] n ⟨mkT 50 [(3, .s (.c (.bptr 0 0))), (4, .s (.c (.bptr 1 0))), (8, .s (.c (.loc 2 0 0 0 outLen))), (26, .s (.c (.p (PV.row 0 0 t26)))), (27, .s (.c (.p (PV.int .i64 t27)))), (28, .s (.c (.p (PV.int .i64 t28))))], [.box [.p (PV.int .i64 n1), .p (PV.int .i64 n11), .p (PV.row 2 0 l), .p (PV.row 2 0 l1)], .box [.p (PV.row 0 0 l2)], .arr 3 0 0 false xs]⟩

def c9 (k : Nat) (p p1 : Int) (p2 p3 v path : List PV) : R := evF P E T k 9 [.s (.c (.p (PV.agg [.int .i64 p, .int .i64 p1, .row 2 0 p2, .row 2 0 p3]))), .s (.c (.p (PV.agg [.row 0 0 v]))), .s (.c (.p (PV.row 0 0 path)))] []
def r9 (l : List PV) (b : Bool) : R := some ([.c (.p (PV.row 0 0 l)), .c (.p (PV.bool b))], [])
def R9 (x0 : R) (K0 : List PV → Bool → R) : R := x0.bind fun q0 => bif lensB q0.2 [] && lensS q0.1 [.c (.p (.row 0)), .c (.p (.bool))] then (cRow (resAt q0.1 0) 0).bind fun l => (cBool (resAt q0.1 1)).bind fun b => K0 l b else none
@[simp] theorem R9_r (l : List PV) (b : Bool) (K0 : List PV → Bool → R) : R9 (r9 l b) K0 = K0 l b := by kernel_rfl
def L9_1 (k n : Nat) (outLen : Nat) (t30 : List PV) (t31 t32 : Int) (l xs : List PV) : R := evLoopAt P E T k 9 9 [] [1, 1, 1, 0, 1, 0] [] n ⟨mkT 46 [(4, .s (.c (.bptr 0 0))), (8, .s (.c (.loc 1 0 0 0 outLen))), (30, .s (.c (.p (PV.row 0 0 t30)))), (31, .s (.c (.p (PV.int .i64 t31)))), (32, .s (.c (.p (PV.int .i64 t32))))], [.box [.p (PV.row 0 0 l)], .arr 3 0 0 false xs]⟩

def c10 (k : Nat) (p p1 : Int) (p2 p3 v : List PV) : R := evF P E T k 10 [.s (.c (.p (PV.agg [.int .i64 p, .int .i64 p1, .row 2 0 p2, .row 2 0 p3]))), .s (.c (.p (PV.agg [.row 0 0 v])))] []
def r10 (l : List PV) (b : Bool) : R := some ([.agg [.p (PV.row 0 0 l)], .c (.p (PV.bool b))], [])
def R10 (x0 : R) (K0 : List PV → Bool → R) : R := x0.bind fun q0 => bif lensB q0.2 [] && lensS q0.1 [.agg [.p (.row 0)], .c (.p (.bool))] then (cRow (Dp.partAt q0.1 0 0) 0).bind fun l => (cBool (resAt q0.1 1)).bind fun b => K0 l b else none
@[simp] theorem R10_r (l : List PV) (b : Bool) (K0 : List PV → Bool → R) : R10 (r10 l b) K0 = K0 l b := by kernel_rfl

def c11 (k : Nat) (p p1 : Int) (p2 p3 v : List PV) : R := evF P E T k 11 [.s (.c (.p (PV.agg [.int .i64 p, .int .i64 p1, .row 2 0 p2, .row 2 0 p3]))), .s (.c (.p (PV.agg [.row 0 0 v])))] []
def r11 (l : List PV) (b : Bool) : R := some ([.agg [.p (PV.row 0 0 l)], .c (.p (PV.bool b))], [])
def R11 (x0 : R) (K0 : List PV → Bool → R) : R := x0.bind fun q0 => bif lensB q0.2 [] && lensS q0.1 [.agg [.p (.row 0)], .c (.p (.bool))] then (cRow (Dp.partAt q0.1 0 0) 0).bind fun l => (cBool (resAt q0.1 1)).bind fun b => K0 l b else none
@[simp] theorem R11_r (l : List PV) (b : Bool) (K0 : List PV → Bool → R) : R11 (r11 l b) K0 = K0 l b := by kernel_rfl

def c12 (k : Nat) (p p1 : Int) (p2 p3 v : List PV) : R := evF P E T k 12 [.s (.c (.p (PV.agg [.int .i64 p, .int .i64 p1, .row 2 0 p2, .row 2 0 p3]))), .s (.c (.p (PV.agg [.row 0 0 v])))] []
def r12 (l : List PV) (b : Bool) : R := some ([.c (.p (PV.row 0 0 l)), .c (.p (PV.bool b))], [])
def R12 (x0 : R) (K0 : List PV → Bool → R) : R := x0.bind fun q0 => bif lensB q0.2 [] && lensS q0.1 [.c (.p (.row 0)), .c (.p (.bool))] then (cRow (resAt q0.1 0) 0).bind fun l => (cBool (resAt q0.1 1)).bind fun b => K0 l b else none
@[simp] theorem R12_r (l : List PV) (b : Bool) (K0 : List PV → Bool → R) : R12 (r12 l b) K0 = K0 l b := by kernel_rfl

def c13 (k : Nat) (p p1 : Int) (p2 p3 v : List PV) : R := evF P E T k 13 [.s (.c (.p (PV.agg [.int .i64 p, .int .i64 p1, .row 2 0 p2, .row 2 0 p3]))), .s (.c (.p (PV.agg [.row 0 0 v])))] []
def r13 (l : List PV) (b : Bool) : R := some ([.c (.p (PV.row 0 0 l)), .c (.p (PV.bool b))], [])
def R13 (x0 : R) (K0 : List PV → Bool → R) : R := x0.bind fun q0 => bif lensB q0.2 [] && lensS q0.1 [.c (.p (.row 0)), .c (.p (.bool))] then (cRow (resAt q0.1 0) 0).bind fun l => (cBool (resAt q0.1 1)).bind fun b => K0 l b else none
@[simp] theorem R13_r (l : List PV) (b : Bool) (K0 : List PV → Bool → R) : R13 (r13 l b) K0 = K0 l b := by kernel_rfl

def c14 (k : Nat) (p p1 : Int) (p2 p3 v : List PV) : R := evF P E T k 14 [.s (.c (.p (PV.agg [.int .i64 p, .int .i64 p1, .row 2 0 p2, .row 2 0 p3]))), .s (.c (.p (PV.agg [.row 0 0 v])))] []
def r14 (l : List PV) (b : Bool) : R := some ([.c (.p (PV.row 0 0 l)), .c (.p (PV.bool b))], [])
def R14 (x0 : R) (K0 : List PV → Bool → R) : R := x0.bind fun q0 => bif lensB q0.2 [] && lensS q0.1 [.c (.p (.row 0)), .c (.p (.bool))] then (cRow (resAt q0.1 0) 0).bind fun l => (cBool (resAt q0.1 1)).bind fun b => K0 l b else none
@[simp] theorem R14_r (l : List PV) (b : Bool) (K0 : List PV → Bool → R) : R14 (r14 l b) K0 = K0 l b := by kernel_rfl

def c15 (k : Nat) (p p1 : Int) (p2 p3 v : List PV) : R := evF P E T k 15 [.s (.c (.p (PV.agg [.int .i64 p, .int .i64 p1, .row 2 0 p2, .row 2 0 p3]))), .s (.c (.p (PV.agg [.row 0 0 v])))] []
def r15 (l : List PV) (b : Bool) : R := some ([.c (.p (PV.row 0 0 l)), .c (.p (PV.bool b))], [])
def R15 (x0 : R) (K0 : List PV → Bool → R) : R := x0.bind fun q0 => bif lensB q0.2 [] && lensS q0.1 [.c (.p (.row 0)), .c (.p (.bool))] then (cRow (resAt q0.1 0) 0).bind fun l => (cBool (resAt q0.1 1)).bind fun b => K0 l b else none
@[simp] theorem R15_r (l : List PV) (b : Bool) (K0 : List PV → Bool → R) : R15 (r15 l b) K0 = K0 l b := by kernel_rfl

def c16 (k : Nat) (a b : List PV) : R := evF P E T k 16 [.s (.c (.p (PV.row 0 0 a))), .s (.c (.p (PV.row 0 0 b)))] []
def r16 (b : Bool) : R := some ([.c (.p (PV.bool b))], [])
def R16 (x0 : R) (K0 : Bool → R) : R := x0.bind fun q0 => bif lensB q0.2 [] && lensS q0.1 [.c (.p (.bool))] then (cBool (resAt q0.1 0)).bind fun b => K0 b else none
@[simp] theorem R16_r (b : Bool) (K0 : Bool → R) : R16 (r16 b) K0 = K0 b := by kernel_rfl
def L16_1 (k n : Nat) (a b : List PV) (t12 t13 : Int) : R := evLoopAt P E T k 16 16 [] [1, 1, 0, 1, 0] [] n ⟨mkT 26 [(0, .s (.c (.p (PV.row 0 0 a)))), (1, .s (.c (.p (PV.row 0 0 b)))), (12, .s (.c (.p (PV.int .i64 t12)))), (13, .s (.c (.p (PV.int .i64 t13))))], []⟩

def c17 (k : Nat) (a b : List PV) : R := evF P E T k 17 [.s (.c (.p (PV.row 0 0 a))), .s (.c (.p (PV.row 0 0 b)))] []
def r17 (b : Bool) : R := some ([.c (.p (PV.bool b))], [])
def R17 (x0 : R) (K0 : Bool → R) : R := x0.bind fun q0 => bif lensB q0.2 [] && lensS q0.1 [.c (.p (.bool))] then (cBool (resAt q0.1 0)).bind fun b => K0 b else none
@[simp] theorem R17_r (b : Bool) (K0 : Bool → R) : R17 (r17 b) K0 = K0 b := by kernel_rfl
def L17_1 (k n : Nat) (a b : List PV) (t12 t13 : Int) : R := evLoopAt P E T k 17 17 [] [1, 1, 0, 1, 0] [] n ⟨mkT 27 [(0, .s (.c (.p (PV.row 0 0 a)))), (1, .s (.c (.p (PV.row 0 0 b)))), (12, .s (.c (.p (PV.int .i64 t12)))), (13, .s (.c (.p (PV.int .i64 t13))))], []⟩

def c18 (k : Nat) (p p1 : Int) (p2 p3 path : List PV) : R := evF P E T k 18 [.s (.c (.p (PV.agg [.int .i64 p, .int .i64 p1, .row 2 0 p2, .row 2 0 p3]))), .s (.c (.p (PV.row 0 0 path)))] []
def r18 (b b1 : Bool) : R := some ([.c (.p (PV.bool b)), .c (.p (PV.bool b1))], [])
def R18 (x0 : R) (K0 : Bool → Bool → R) : R := x0.bind fun q0 => bif lensB q0.2 [] && lensS q0.1 [.c (.p (.bool)), .c (.p (.bool))] then (cBool (resAt q0.1 0)).bind fun b => (cBool (resAt q0.1 1)).bind fun b1 => K0 b b1 else none
@[simp] theorem R18_r (b b1 : Bool) (K0 : Bool → Bool → R) : R18 (r18 b b1) K0 = K0 b b1 := by kernel_rfl
def L18_1 (k n : Nat) (path : List PV) (i n1 n11 : Int) (l l1 : List PV) : R := evLoopAt P E T k 18 18 [] [1, 1, 0, 1, 0] [] n ⟨mkT 48 [(1, .s (.c (.p (PV.row 0 0 path)))), (2, .s (.c (.bptr 0 0))), (6, .s (.c (.p (PV.int .i64 i))))], [.box [.p (PV.int .i64 n1), .p (PV.int .i64 n11), .p (PV.row 2 0 l), .p (PV.row 2 0 l1)]]⟩

def c19 (k : Nat) (l : List PV) (n1 : Int) : R := evF P E T k 19 [.s (.c (.p (PV.row 0 0 l))), .s (.c (.p (PV.int .i64 n1)))] []
def r19 (b : Bool) : R := some ([.c (.p (PV.bool b))], [])
def R19 (x0 : R) (K0 : Bool → R) : R := x0.bind fun q0 => bif lensB q0.2 [] && lensS q0.1 [.c (.p (.bool))] then (cBool (resAt q0.1 0)).bind fun b => K0 b else none
@[simp] theorem R19_r (b : Bool) (K0 : Bool → R) : R19 (r19 b) K0 = K0 b := by kernel_rfl
def L19_1 (k n : Nat) (n1 : Int) (t7 : List PV) (t8 t9 : Int) : R := evLoopAt P E T k 19 19 [] [1, 0, 1, 0] [] n ⟨mkT 17 [(1, .s (.c (.p (PV.int .i64 n1)))), (7, .s (.c (.p (PV.row 0 0 t7)))), (8, .s (.c (.p (PV.int .i64 t8)))), (9, .s (.c (.p (PV.int .i64 t9))))], []⟩

def c20 (k : Nat) (p p1 : Int) (p2 p3 : List PV) : R := evF P E T k 20 [.s (.c (.p (PV.agg [.int .i64 p, .int .i64 p1, .row 2 0 p2, .row 2 0 p3])))] []
def r20 (l : List PV) (b : Bool) : R := some ([.c (.p (PV.row 0 0 l)), .c (.p (PV.bool b))], [])
def R20 (x0 : R) (K0 : List PV → Bool → R) : R := x0.bind fun q0 => bif lensB q0.2 [] && lensS q0.1 [.c (.p (.row 0)), .c (.p (.bool))] then (cRow (resAt q0.1 0) 0).bind fun l => (cBool (resAt q0.1 1)).bind fun b => K0 l b else none
@[simp] theorem R20_r (l : List PV) (b : Bool) (K0 : List PV → Bool → R) : R20 (r20 l b) K0 = K0 l b := by kernel_rfl

def c44 (k : Nat) (l : List PV) (n1 n11 : Int) : R := evF P E T k 44 [.s (.c (.bptr 0 0))] [[.p (PV.row 0 0 l), .p (PV.int .i64 n1), .p (PV.int .u64 n11)]]
def r44 (l : List PV) (qr qr1 qr2 qr3 : Int) (l1 l2 : List PV) : R := some ([.agg [.p (PV.int .i64 qr2), .p (PV.int .i64 qr3), .p (PV.row 2 0 l1), .p (PV.row 2 0 l2)]], [[.p (PV.row 0 0 l), .p (PV.int .i64 qr), .p (PV.int .u64 qr1)]])
def R44 (x0 : R) (K0 : List PV → Int → Int → Int → Int → List PV → List PV → R) : R := x0.bind fun q0 => bif lensB q0.2 [[.p (.row 0), .p (.int .i64), .p (.int .u64)]] && lensS q0.1 [.agg [.p (.int .i64), .p (.int .i64), .p (.row 2), .p (.row 2)]] then (cRow (cellAt q0.2 0 0) 0).bind fun l => (cInt (cellAt q0.2 0 1) .i64).bind fun qr => (cInt (cellAt q0.2 0 2) .u64).bind fun qr1 => (cInt (Dp.partAt q0.1 0 0) .i64).bind fun qr2 => (cInt (Dp.partAt q0.1 0 1) .i64).bind fun qr3 => (cRow (Dp.partAt q0.1 0 2) 2).bind fun l1 => (cRow (Dp.partAt q0.1 0 3) 2).bind fun l2 => K0 l qr qr1 qr2 qr3 l1 l2 else none
@[simp] theorem R44_r (l : List PV) (qr qr1 qr2 qr3 : Int) (l1 l2 : List PV) (K0 : List PV → Int → Int → Int → Int → List PV → List PV → R) : R44 (r44 l qr qr1 qr2 qr3 l1 l2) K0 = K0 l qr qr1 qr2 qr3 l1 l2 := by kernel_rfl
def L44_1 (k n : Nat) (wide vars : Int) (l : List PV) (n1 n11 n12 n13 : Int) (l1 l2 : List PV) : R := evLoopAt P E T k 44 44 [3] [1, 1, 1, 1, 0, 0] [] n ⟨mkT 67 [(0, .s (.c (.bptr 0 0))), (2, .s (.c (.bptr 1 0))), (3, .s (.c (.p (PV.int .i64 wide)))), (4, .s (.c (.p (PV.int .i64 vars))))], [.box [.p (PV.row 0 0 l), .p (PV.int .i64 n1), .p (PV.int .u64 n11)], .box [.p (PV.int .i64 n12), .p (PV.int .i64 n13), .p (PV.row 2 0 l1), .p (PV.row 2 0 l2)]]⟩

def c45 (k : Nat) (p p1 : Int) (p2 p3 l : List PV) (n1 n11 : Int) : R := evF P E T k 45 [.s (.c (.bptr 0 0)), .s (.c (.p (PV.agg [.int .i64 p, .int .i64 p1, .row 2 0 p2, .row 2 0 p3])))] [[.p (PV.row 0 0 l), .p (PV.int .i64 n1), .p (PV.int .u64 n11)]]
def r45 (l : List PV) (qr qr1 : Int) (l1 : List PV) : R := some ([.agg [.p (PV.row 0 0 l1)]], [[.p (PV.row 0 0 l), .p (PV.int .i64 qr), .p (PV.int .u64 qr1)]])
def R45 (x0 : R) (K0 : List PV → Int → Int → List PV → R) : R := x0.bind fun q0 => bif lensB q0.2 [[.p (.row 0), .p (.int .i64), .p (.int .u64)]] && lensS q0.1 [.agg [.p (.row 0)]] then (cRow (cellAt q0.2 0 0) 0).bind fun l => (cInt (cellAt q0.2 0 1) .i64).bind fun qr => (cInt (cellAt q0.2 0 2) .u64).bind fun qr1 => (cRow (Dp.partAt q0.1 0 0) 0).bind fun l1 => K0 l qr qr1 l1 else none
@[simp] theorem R45_r (l : List PV) (qr qr1 : Int) (l1 : List PV) (K0 : List PV → Int → Int → List PV → R) : R45 (r45 l qr qr1 l1) K0 = K0 l qr qr1 l1 := by kernel_rfl

def c46 (k : Nat) (p p1 : Int) (p2 p3 : List PV) (no : Int) : R := evF P E T k 46 [.s (.c (.p (PV.agg [.int .i64 p, .int .i64 p1, .row 2 0 p2, .row 2 0 p3]))), .s (.c (.p (PV.int .i64 no)))] []
def r46 (l : List PV) (b : Bool) : R := some ([.c (.own 3 0 l), .c (.p (PV.bool b))], [])
def R46 (x0 : R) (K0 : List PV → Bool → R) : R := x0.bind fun q0 => bif lensB q0.2 [] && lensS q0.1 [.c (.own 3 0), .c (.p (.bool))] then (asOwn 3 0 (resAt q0.1 0)).bind fun l => (cBool (resAt q0.1 1)).bind fun b => K0 l b else none
@[simp] theorem R46_r (l : List PV) (b : Bool) (K0 : List PV → Bool → R) : R46 (r46 l b) K0 = K0 l b := by kernel_rfl
def L46_1 (k n : Nat) (no n1 : Int) (outLen : Nat) (some1 : List PV) (n11 n12 : Int) (l l1 xs : List PV) : R := evLoopAt P E T k 46 46 [] [1, 1, 1, 1, 1, 0, 0] [] n ⟨mkT 53 [(1, .s (.c (.p (PV.int .i64 no)))), (2, .s (.c (.bptr 0 0))), (6, .s (.c (.p (PV.int .i64 n1)))), (8, .s (.c (.loc 1 0 0 0 outLen))), (9, .s (.c (.p (PV.row 0 0 some1))))], [.box [.p (PV.int .i64 n11), .p (PV.int .i64 n12), .p (PV.row 2 0 l), .p (PV.row 2 0 l1)], .arr 3 0 0 false xs]⟩
def L46_2 (k n1 n : Nat) (no n11 : Int) (outLen : Nat) (t28 : List PV) (t29 t30 n12 n13 : Int) (l l1 xs : List PV) : R := evLoopAt P E T k 46 46 [] [1, 1, 1, 1, 1, 0, 0, 0, 1, 0, 0, 0, 1, 0] [n1] n ⟨mkT 53 [(1, .s (.c (.p (PV.int .i64 no)))), (2, .s (.c (.bptr 0 0))), (6, .s (.c (.p (PV.int .i64 n11)))), (8, .s (.c (.loc 1 0 0 0 outLen))), (28, .s (.c (.p (PV.row 0 0 t28)))), (29, .s (.c (.p (PV.int .i64 t29)))), (30, .s (.c (.p (PV.int .i64 t30))))], [.box [.p (PV.int .i64 n12), .p (PV.int .i64 n13), .p (PV.row 2 0 l), .p (PV.row 2 0 l1)], .arr 3 0 0 false xs]⟩

def c47 (k : Nat) (p p1 : Int) (p2 p3 l : List PV) (n1 n11 : Int) : R := evF P E T k 47 [.s (.c (.bptr 0 0)), .s (.c (.p (PV.agg [.int .i64 p, .int .i64 p1, .row 2 0 p2, .row 2 0 p3])))] [[.p (PV.row 0 0 l), .p (PV.int .i64 n1), .p (PV.int .u64 n11)]]
def r47 (l : List PV) (qr qr1 qr2 : Int) : R := some ([.c (.p (PV.int .i64 qr2))], [[.p (PV.row 0 0 l), .p (PV.int .i64 qr), .p (PV.int .u64 qr1)]])
def R47 (x0 : R) (K0 : List PV → Int → Int → Int → R) : R := x0.bind fun q0 => bif lensB q0.2 [[.p (.row 0), .p (.int .i64), .p (.int .u64)]] && lensS q0.1 [.c (.p (.int .i64))] then (cRow (cellAt q0.2 0 0) 0).bind fun l => (cInt (cellAt q0.2 0 1) .i64).bind fun qr => (cInt (cellAt q0.2 0 2) .u64).bind fun qr1 => (cInt (resAt q0.1 0) .i64).bind fun qr2 => K0 l qr qr1 qr2 else none
@[simp] theorem R47_r (l : List PV) (qr qr1 qr2 : Int) (K0 : List PV → Int → Int → Int → R) : R47 (r47 l qr qr1 qr2) K0 = K0 l qr qr1 qr2 := by kernel_rfl

def c48 (k : Nat) (n1 : Int) (l : List PV) (n11 n12 : Int) : R := evF P E T k 48 [.s (.c (.bptr 0 0)), .s (.c (.p (PV.int .i64 n1)))] [[.p (PV.row 0 0 l), .p (PV.int .i64 n11), .p (PV.int .u64 n12)]]
def r48 (l : List PV) (qr qr1 : Int) (b : Bool) : R := some ([.c (.p (PV.bool b))], [[.p (PV.row 0 0 l), .p (PV.int .i64 qr), .p (PV.int .u64 qr1)]])
def R48 (x0 : R) (K0 : List PV → Int → Int → Bool → R) : R := x0.bind fun q0 => bif lensB q0.2 [[.p (.row 0), .p (.int .i64), .p (.int .u64)]] && lensS q0.1 [.c (.p (.bool))] then (cRow (cellAt q0.2 0 0) 0).bind fun l => (cInt (cellAt q0.2 0 1) .i64).bind fun qr => (cInt (cellAt q0.2 0 2) .u64).bind fun qr1 => (cBool (resAt q0.1 0)).bind fun b => K0 l qr qr1 b else none
@[simp] theorem R48_r (l : List PV) (qr qr1 : Int) (b : Bool) (K0 : List PV → Int → Int → Bool → R) : R48 (r48 l qr qr1 b) K0 = K0 l qr qr1 b := by kernel_rfl

def c49 (k : Nat) (p p1 : Int) (p2 p3 v : List PV) : R := evF P E T k 49 [.s (.c (.p (PV.agg [.int .i64 p, .int .i64 p1, .row 2 0 p2, .row 2 0 p3]))), .s (.c (.p (PV.agg [.row 0 0 v])))] []
def r49 (b : Bool) : R := some ([.c (.p (PV.bool b))], [])
def R49 (x0 : R) (K0 : Bool → R) : R := x0.bind fun q0 => bif lensB q0.2 [] && lensS q0.1 [.c (.p (.bool))] then (cBool (resAt q0.1 0)).bind fun b => K0 b else none
@[simp] theorem R49_r (b : Bool) (K0 : Bool → R) : R49 (r49 b) K0 = K0 b := by kernel_rfl

def c50 (k : Nat) (p p1 : Int) (p2 p3 : List PV) : R := evF P E T k 50 [.s (.c (.p (PV.agg [.int .i64 p, .int .i64 p1, .row 2 0 p2, .row 2 0 p3])))] []
def r50 (qr : Int) : R := some ([.c (.p (PV.int .i64 qr))], [])
def R50 (x0 : R) (K0 : Int → R) : R := x0.bind fun q0 => bif lensB q0.2 [] && lensS q0.1 [.c (.p (.int .i64))] then (cInt (resAt q0.1 0) .i64).bind fun qr => K0 qr else none
@[simp] theorem R50_r (qr : Int) (K0 : Int → R) : R50 (r50 qr) K0 = K0 qr := by kernel_rfl

def c51 (k : Nat) (p p1 : Int) (p2 p3 v : List PV) : R := evF P E T k 51 [.s (.c (.p (PV.agg [.int .i64 p, .int .i64 p1, .row 2 0 p2, .row 2 0 p3]))), .s (.c (.p (PV.agg [.row 0 0 v])))] []
def r51 (b : Bool) : R := some ([.c (.p (PV.bool b))], [])
def R51 (x0 : R) (K0 : Bool → R) : R := x0.bind fun q0 => bif lensB q0.2 [] && lensS q0.1 [.c (.p (.bool))] then (cBool (resAt q0.1 0)).bind fun b => K0 b else none
@[simp] theorem R51_r (b : Bool) (K0 : Bool → R) : R51 (r51 b) K0 = K0 b := by kernel_rfl
def L51_1 (k n : Nat) (many : Int) (t20 : List PV) (t21 t22 : Int) : R := evLoopAt P E T k 51 51 [] [1, 1, 1, 0, 1, 0] [] n ⟨mkT 36 [(5, .s (.c (.p (PV.int .i64 many)))), (20, .s (.c (.p (PV.row 0 0 t20)))), (21, .s (.c (.p (PV.int .i64 t21)))), (22, .s (.c (.p (PV.int .i64 t22))))], []⟩

def c52 (k : Nat) (n1 lo hi : Int) : R := evF P E T k 52 [.s (.c (.p (PV.int .i64 n1))), .s (.c (.p (PV.int .i64 lo))), .s (.c (.p (PV.int .i64 hi)))] []
def r52 (b : Bool) : R := some ([.c (.p (PV.bool b))], [])
def R52 (x0 : R) (K0 : Bool → R) : R := x0.bind fun q0 => bif lensB q0.2 [] && lensS q0.1 [.c (.p (.bool))] then (cBool (resAt q0.1 0)).bind fun b => K0 b else none
@[simp] theorem R52_r (b : Bool) (K0 : Bool → R) : R52 (r52 b) K0 = K0 b := by kernel_rfl

def c53 (k : Nat) (l : List PV) (lo hi : Int) : R := evF P E T k 53 [.s (.c (.p (PV.row 0 0 l))), .s (.c (.p (PV.int .i64 lo))), .s (.c (.p (PV.int .i64 hi)))] []
def r53 (b : Bool) : R := some ([.c (.p (PV.bool b))], [])
def R53 (x0 : R) (K0 : Bool → R) : R := x0.bind fun q0 => bif lensB q0.2 [] && lensS q0.1 [.c (.p (.bool))] then (cBool (resAt q0.1 0)).bind fun b => K0 b else none
@[simp] theorem R53_r (b : Bool) (K0 : Bool → R) : R53 (r53 b) K0 = K0 b := by kernel_rfl
def L53_1 (k n : Nat) (lo hi : Int) (t9 : List PV) (t10 t11 : Int) : R := evLoopAt P E T k 53 53 [] [1, 0, 1, 0] [] n ⟨mkT 21 [(1, .s (.c (.p (PV.int .i64 lo)))), (2, .s (.c (.p (PV.int .i64 hi)))), (9, .s (.c (.p (PV.row 0 0 t9)))), (10, .s (.c (.p (PV.int .i64 t10)))), (11, .s (.c (.p (PV.int .i64 t11))))], []⟩

def c54 (k : Nat) (p p1 : Int) (p2 p3 v : List PV) : R := evF P E T k 54 [.s (.c (.p (PV.agg [.int .i64 p, .int .i64 p1, .row 2 0 p2, .row 2 0 p3]))), .s (.c (.p (PV.agg [.row 0 0 v])))] []
def r54 (l : List PV) : R := some ([.c (.p (PV.row 0 0 l))], [])
def R54 (x0 : R) (K0 : List PV → R) : R := x0.bind fun q0 => bif lensB q0.2 [] && lensS q0.1 [.c (.p (.row 0))] then (cRow (resAt q0.1 0) 0).bind fun l => K0 l else none
@[simp] theorem R54_r (l : List PV) (K0 : List PV → R) : R54 (r54 l) K0 = K0 l := by kernel_rfl
def L54_1 (k n : Nat) (outLen : Nat) (t9 t10 n1 n11 : Int) (l l1 l2 xs : List PV) : R := evLoopAt P E T k 54 54 [] [1, 1, 0, 1, 0] [] n ⟨mkT 22 [(2, .s (.c (.bptr 0 0))), (3, .s (.c (.bptr 1 0))), (5, .s (.c (.loc 2 0 0 0 outLen))), (9, .s (.c (.p (PV.int .i64 t9)))), (10, .s (.c (.p (PV.int .i64 t10))))], [.box [.p (PV.int .i64 n1), .p (PV.int .i64 n11), .p (PV.row 2 0 l), .p (PV.row 2 0 l1)], .box [.p (PV.row 0 0 l2)], .arr 28 0 0 false xs]⟩

def c55 (k : Nat) (p p1 : Int) (p2 p3 v : List PV) : R := evF P E T k 55 [.s (.c (.p (PV.agg [.int .i64 p, .int .i64 p1, .row 2 0 p2, .row 2 0 p3]))), .s (.c (.p (PV.agg [.row 0 0 v])))] []
def r55 (l : List PV) : R := some ([.c (.p (PV.row 0 0 l))], [])
def R55 (x0 : R) (K0 : List PV → R) : R := x0.bind fun q0 => bif lensB q0.2 [] && lensS q0.1 [.c (.p (.row 0))] then (cRow (resAt q0.1 0) 0).bind fun l => K0 l else none
@[simp] theorem R55_r (l : List PV) (K0 : List PV → R) : R55 (r55 l) K0 = K0 l := by kernel_rfl
def L55_1 (k n : Nat) (outLen : Nat) (class1 n1 n11 : Int) (l l1 l2 xs : List PV) : R := evLoopAt P E T k 55 55 [] [1, 1, 0, 1, 0] [] n ⟨mkT 21 [(2, .s (.c (.bptr 0 0))), (3, .s (.c (.bptr 1 0))), (5, .s (.c (.loc 2 0 0 0 outLen))), (6, .s (.c (.p (PV.int .i64 class1))))], [.box [.p (PV.int .i64 n1), .p (PV.int .i64 n11), .p (PV.row 2 0 l), .p (PV.row 2 0 l1)], .box [.p (PV.row 0 0 l2)], .arr 28 0 0 false xs]⟩

def c56 (k : Nat) (v some1 : List PV) : R := evF P E T k 56 [.s (.c (.p (PV.agg [.row 0 0 v]))), .s (.c (.p (PV.row 0 0 some1)))] []
def r56 (l : List PV) : R := some ([.c (.own 3 0 l)], [])
def R56 (x0 : R) (K0 : List PV → R) : R := x0.bind fun q0 => bif lensB q0.2 [] && lensS q0.1 [.c (.own 3 0)] then (asOwn 3 0 (resAt q0.1 0)).bind fun l => K0 l else none
@[simp] theorem R56_r (l : List PV) (K0 : List PV → R) : R56 (r56 l) K0 = K0 l := by kernel_rfl
def R56p (x0 : R) (K0 : List PV → R) : R := x0.bind fun q0 => bif q0.1.all plainS && q0.2.all (fun cs => cs.all plainC) then (bif lensB q0.2 [] && lensS q0.1 [.c (.own 3 0)] then (asOwn 3 0 (resAt q0.1 0)).bind fun l => K0 l else none) else none
def L56_1 (k n : Nat) (inLen : Nat) (t11 : List PV) (t12 t13 : Int) (l xs : List PV) : R := evLoopAt P E T k 56 56 [] [1, 1, 0, 1, 0] [] n ⟨mkT 27 [(2, .s (.c (.bptr 0 0))), (5, .s (.c (.loc 1 0 0 0 inLen))), (11, .s (.c (.p (PV.row 0 0 t11)))), (12, .s (.c (.p (PV.int .i64 t12)))), (13, .s (.c (.p (PV.int .i64 t13))))], [.box [.p (PV.row 0 0 l)], .arr 4 0 0 false xs]⟩

def c57 (k : Nat) (p p1 : Int) (p2 p3 t : List PV) : R := evF P E T k 57 [.s (.c (.p (PV.agg [.int .i64 p, .int .i64 p1, .row 2 0 p2, .row 2 0 p3]))), .s (.c (.p (PV.row 2 0 t)))] []
def r57 (l : List PV) : R := some ([.c (.p (PV.row 0 0 l))], [])
def R57 (x0 : R) (K0 : List PV → R) : R := x0.bind fun q0 => bif lensB q0.2 [] && lensS q0.1 [.c (.p (.row 0))] then (cRow (resAt q0.1 0) 0).bind fun l => K0 l else none
@[simp] theorem R57_r (l : List PV) (K0 : List PV → R) : R57 (r57 l) K0 = K0 l := by kernel_rfl
def L57_1 (k n : Nat) (t : List PV) (outLen : Nat) (t9 t10 n1 n11 : Int) (l l1 xs : List PV) : R := evLoopAt P E T k 57 57 [] [1, 1, 0, 1, 0] [] n ⟨mkT 25 [(1, .s (.c (.p (PV.row 2 0 t)))), (2, .s (.c (.bptr 0 0))), (5, .s (.c (.loc 1 0 0 0 outLen))), (9, .s (.c (.p (PV.int .i64 t9)))), (10, .s (.c (.p (PV.int .i64 t10))))], [.box [.p (PV.int .i64 n1), .p (PV.int .i64 n11), .p (PV.row 2 0 l), .p (PV.row 2 0 l1)], .arr 3 0 0 false xs]⟩

def c58 (k : Nat) (v states : List PV) : R := evF P E T k 58 [.s (.c (.p (PV.agg [.row 0 0 v]))), .s (.c (.p (PV.row 0 0 states)))] []
def r58 (l : List PV) : R := some ([.c (.p (PV.row 0 0 l))], [])
def R58 (x0 : R) (K0 : List PV → R) : R := x0.bind fun q0 => bif lensB q0.2 [] && lensS q0.1 [.c (.p (.row 0))] then (cRow (resAt q0.1 0) 0).bind fun l => K0 l else none
@[simp] theorem R58_r (l : List PV) (K0 : List PV → R) : R58 (r58 l) K0 = K0 l := by kernel_rfl
def L58_1 (k n : Nat) (outLen : Nat) (t8 : List PV) (t9 t10 : Int) (l xs : List PV) : R := evLoopAt P E T k 58 58 [] [1, 1, 0, 1, 0] [] n ⟨mkT 23 [(2, .s (.c (.bptr 0 0))), (5, .s (.c (.loc 1 0 0 0 outLen))), (8, .s (.c (.p (PV.row 0 0 t8)))), (9, .s (.c (.p (PV.int .i64 t9)))), (10, .s (.c (.p (PV.int .i64 t10))))], [.box [.p (PV.row 0 0 l)], .arr 3 0 0 false xs]⟩

def c59 (k : Nat) (p p1 : Int) (p2 p3 t : List PV) : R := evF P E T k 59 [.s (.c (.p (PV.agg [.int .i64 p, .int .i64 p1, .row 2 0 p2, .row 2 0 p3]))), .s (.c (.p (PV.row 2 0 t)))] []
def r59 (l : List PV) : R := some ([.c (.p (PV.row 0 0 l))], [])
def R59 (x0 : R) (K0 : List PV → R) : R := x0.bind fun q0 => bif lensB q0.2 [] && lensS q0.1 [.c (.p (.row 0))] then (cRow (resAt q0.1 0) 0).bind fun l => K0 l else none
@[simp] theorem R59_r (l : List PV) (K0 : List PV → R) : R59 (r59 l) K0 = K0 l := by kernel_rfl
def L59_1 (k n : Nat) (t : List PV) (outLen : Nat) (no n1 n11 : Int) (l l1 xs : List PV) : R := evLoopAt P E T k 59 59 [] [1, 1, 0, 1, 0] [] n ⟨mkT 24 [(1, .s (.c (.p (PV.row 2 0 t)))), (2, .s (.c (.bptr 0 0))), (5, .s (.c (.loc 1 0 0 0 outLen))), (6, .s (.c (.p (PV.int .i64 no))))], [.box [.p (PV.int .i64 n1), .p (PV.int .i64 n11), .p (PV.row 2 0 l), .p (PV.row 2 0 l1)], .arr 3 0 0 false xs]⟩

def c60 (k : Nat) (p p1 : Int) (p2 p3 v : List PV) : R := evF P E T k 60 [.s (.c (.p (PV.agg [.int .i64 p, .int .i64 p1, .row 2 0 p2, .row 2 0 p3]))), .s (.c (.p (PV.agg [.row 0 0 v])))] []
def r60 (l : List PV) : R := some ([.c (.p (PV.row 0 0 l))], [])
def R60 (x0 : R) (K0 : List PV → R) : R := x0.bind fun q0 => bif lensB q0.2 [] && lensS q0.1 [.c (.p (.row 0))] then (cRow (resAt q0.1 0) 0).bind fun l => K0 l else none
@[simp] theorem R60_r (l : List PV) (K0 : List PV → R) : R60 (r60 l) K0 = K0 l := by kernel_rfl

def c61 (k : Nat) (p p1 : Int) (p2 p3 v : List PV) : R := evF P E T k 61 [.s (.c (.p (PV.agg [.int .i64 p, .int .i64 p1, .row 2 0 p2, .row 2 0 p3]))), .s (.c (.p (PV.agg [.row 0 0 v])))] []
def r61 (l : List PV) : R := some ([.c (.p (PV.row 0 0 l))], [])
def R61 (x0 : R) (K0 : List PV → R) : R := x0.bind fun q0 => bif lensB q0.2 [] && lensS q0.1 [.c (.p (.row 0))] then (cRow (resAt q0.1 0) 0).bind fun l => K0 l else none
@[simp] theorem R61_r (l : List PV) (K0 : List PV → R) : R61 (r61 l) K0 = K0 l := by kernel_rfl

def c62f63 (k : Nat) (qs : List PV) (n1 n11 : Int) (l l1 : List PV) : R := evF P E T k 62 [.s (.c (.p (PV.row 0 0 qs))), .s (.c (.cfn 63 [PV.agg [.int .i64 n1, .int .i64 n11, .row 2 0 l, .row 2 0 l1]]))] []
def r62f63 (b : Bool) : R := some ([.c (.p (PV.bool b))], [])
def R62f63p (x0 : R) (K0 : Bool → R) : R := x0.bind fun q0 => bif q0.1.all plainS && q0.2.all (fun cs => cs.all plainC) then (bif lensB q0.2 [] && lensS q0.1 [.c (.p (.bool))] then (cBool (resAt q0.1 0)).bind fun b => K0 b else none) else none
@[simp] theorem R62f63p_r (b : Bool) (K0 : Bool → R) : R62f63p (r62f63 b) K0 = K0 b := by kernel_rfl

def c62f143 (k : Nat) (qs : List PV) (n1 : Int) : R := evF P E T k 62 [.s (.c (.p (PV.row 0 0 qs))), .s (.c (.fn 143 [0]))] [[.p (PV.int .i64 n1)]]
def r62f143 (qr : Int) (b : Bool) : R := some ([.c (.p (PV.bool b))], [[.p (PV.int .i64 qr)]])
def R62f143p (x0 : R) (K0 : Int → Bool → R) : R := x0.bind fun q0 => bif q0.1.all plainS && q0.2.all (fun cs => cs.all plainC) then (bif lensB q0.2 [[.p (.int .i64)]] && lensS q0.1 [.c (.p (.bool))] then (cInt (cellAt q0.2 0 0) .i64).bind fun qr => (cBool (resAt q0.1 0)).bind fun b => K0 qr b else none) else none
@[simp] theorem R62f143p_r (qr : Int) (b : Bool) (K0 : Int → Bool → R) : R62f143p (r62f143 qr b) K0 = K0 qr b := by kernel_rfl

def c63 (k : Nat) (no n1 n11 : Int) (l l1 : List PV) : R := evF P E T k 63 [.s (.c (.p (PV.int .i64 no))), .s (.c (.eptr (PV.agg [.int .i64 n1, .int .i64 n11, .row 2 0 l, .row 2 0 l1]) 4 0))] []
def r63 (b : Bool) : R := some ([.c (.p (PV.bool b))], [])
def R63 (x0 : R) (K0 : Bool → R) : R := x0.bind fun q0 => bif lensB q0.2 [] && lensS q0.1 [.c (.p (.bool))] then (cBool (resAt q0.1 0)).bind fun b => K0 b else none
@[simp] theorem R63_r (b : Bool) (K0 : Bool → R) : R63 (r63 b) K0 = K0 b := by kernel_rfl

def c64 (k : Nat) (p p1 : Int) (p2 p3 : List PV) (no : Int) : R := evF P E T k 64 [.s (.c (.p (PV.agg [.int .i64 p, .int .i64 p1, .row 2 0 p2, .row 2 0 p3]))), .s (.c (.p (PV.int .i64 no)))] []
def r64 (b : Bool) : R := some ([.c (.p (PV.bool b))], [])
def R64 (x0 : R) (K0 : Bool → R) : R := x0.bind fun q0 => bif lensB q0.2 [] && lensS q0.1 [.c (.p (.bool))] then (cBool (resAt q0.1 0)).bind fun b => K0 b else none
@[simp] theorem R64_r (b : Bool) (K0 : Bool → R) : R64 (r64 b) K0 = K0 b := by kernel_rfl

def c65 (k : Nat) (qs : List PV) (v : Int) : R := evF P E T k 65 [.s (.c (.p (PV.row 0 0 qs))), .s (.c (.p (PV.int .i64 v)))] []
def r65 (b : Bool) : R := some ([.c (.p (PV.bool b))], [])
def R65 (x0 : R) (K0 : Bool → R) : R := x0.bind fun q0 => bif lensB q0.2 [] && lensS q0.1 [.c (.p (.bool))] then (cBool (resAt q0.1 0)).bind fun b => K0 b else none
@[simp] theorem R65_r (b : Bool) (K0 : Bool → R) : R65 (r65 b) K0 = K0 b := by kernel_rfl

def c66 (k : Nat) (p p1 : Int) (p2 p3 : List PV) (no : Int) : R := evF P E T k 66 [.s (.c (.p (PV.agg [.int .i64 p, .int .i64 p1, .row 2 0 p2, .row 2 0 p3]))), .s (.c (.p (PV.int .i64 no)))] []
def r66 (l : List PV) : R := some ([.c (.p (PV.row 0 0 l))], [])
def R66 (x0 : R) (K0 : List PV → R) : R := x0.bind fun q0 => bif lensB q0.2 [] && lensS q0.1 [.c (.p (.row 0))] then (cRow (resAt q0.1 0) 0).bind fun l => K0 l else none
@[simp] theorem R66_r (l : List PV) (K0 : List PV → R) : R66 (r66 l) K0 = K0 l := by kernel_rfl
def L66_1 (k n : Nat) (no : Int) (qs : List PV) (outLen : Nat) (t14 : List PV) (t15 t16 n1 n11 : Int) (l l1 xs : List PV) : R := evLoopAt P E T k 66 66 [] [1, 1, 0, 1, 0] [] n ⟨mkT 44 [(1, .s (.c (.p (PV.int .i64 no)))), (2, .s (.c (.bptr 0 0))), (5, .s (.c (.p (PV.row 0 0 qs)))), (6, .s (.c (.loc 1 0 0 0 outLen))), (14, .s (.c (.p (PV.row 2 0 t14)))), (15, .s (.c (.p (PV.int .i64 t15)))), (16, .s (.c (.p (PV.int .i64 t16))))], [.box [.p (PV.int .i64 n1), .p (PV.int .i64 n11), .p (PV.row 2 0 l), .p (PV.row 2 0 l1)], .arr 3 0 0 false xs]⟩

def c67 (k : Nat) (p p1 : Int) (p2 p3 t qs : List PV) : R := evF P E T k 67 [.s (.c (.p (PV.agg [.int .i64 p, .int .i64 p1, .row 2 0 p2, .row 2 0 p3]))), .s (.c (.p (PV.row 2 0 t))), .s (.c (.p (PV.row 0 0 qs)))] []
def r67 (b : Bool) : R := some ([.c (.p (PV.bool b))], [])
def R67 (x0 : R) (K0 : Bool → R) : R := x0.bind fun q0 => bif lensB q0.2 [] && lensS q0.1 [.c (.p (.bool))] then (cBool (resAt q0.1 0)).bind fun b => K0 b else none
@[simp] theorem R67_r (b : Bool) (K0 : Bool → R) : R67 (r67 b) K0 = K0 b := by kernel_rfl

def c68 (k : Nat) (p p1 : Int) (p2 p3 : List PV) (no : Int) : R := evF P E T k 68 [.s (.c (.p (PV.agg [.int .i64 p, .int .i64 p1, .row 2 0 p2, .row 2 0 p3]))), .s (.c (.p (PV.int .i64 no)))] []
def r68 (l : List PV) : R := some ([.c (.p (PV.row 0 0 l))], [])
def R68 (x0 : R) (K0 : List PV → R) : R := x0.bind fun q0 => bif lensB q0.2 [] && lensS q0.1 [.c (.p (.row 0))] then (cRow (resAt q0.1 0) 0).bind fun l => K0 l else none
@[simp] theorem R68_r (l : List PV) (K0 : List PV → R) : R68 (r68 l) K0 = K0 l := by kernel_rfl
def L68_1 (k n : Nat) (no : Int) (outLen : Nat) (t9 t10 n1 n11 : Int) (l l1 xs : List PV) : R := evLoopAt P E T k 68 68 [] [1, 1, 0, 1, 0] [] n ⟨mkT 29 [(1, .s (.c (.p (PV.int .i64 no)))), (2, .s (.c (.bptr 0 0))), (5, .s (.c (.loc 1 0 0 0 outLen))), (9, .s (.c (.p (PV.int .i64 t9)))), (10, .s (.c (.p (PV.int .i64 t10))))], [.box [.p (PV.int .i64 n1), .p (PV.int .i64 n11), .p (PV.row 2 0 l), .p (PV.row 2 0 l1)], .arr 64 0 0 false xs]⟩

def c69 (k : Nat) (p p1 : Int) (p2 p3 : List PV) : R := evF P E T k 69 [.s (.c (.p (PV.agg [.int .i64 p, .int .i64 p1, .row 2 0 p2, .row 2 0 p3])))] []
def r69 (b : Bool) : R := some ([.c (.p (PV.bool b))], [])
def R69 (x0 : R) (K0 : Bool → R) : R := x0.bind fun q0 => bif lensB q0.2 [] && lensS q0.1 [.c (.p (.bool))] then (cBool (resAt q0.1 0)).bind fun b => K0 b else none
@[simp] theorem R69_r (b : Bool) (K0 : Bool → R) : R69 (r69 b) K0 = K0 b := by kernel_rfl

def c70 (k : Nat) (p p1 : Int) (p2 p3 : List PV) : R := evF P E T k 70 [.s (.c (.p (PV.agg [.int .i64 p, .int .i64 p1, .row 2 0 p2, .row 2 0 p3])))] []
def r70 (l : List PV) : R := some ([.c (.p (PV.row 0 0 l))], [])
def R70 (x0 : R) (K0 : List PV → R) : R := x0.bind fun q0 => bif lensB q0.2 [] && lensS q0.1 [.c (.p (.row 0))] then (cRow (resAt q0.1 0) 0).bind fun l => K0 l else none
@[simp] theorem R70_r (l : List PV) (K0 : List PV → R) : R70 (r70 l) K0 = K0 l := by kernel_rfl

def c72 (k : Nat) (p p1 : Int) (p2 p3 t : List PV) : R := evF P E T k 72 [.s (.c (.p (PV.agg [.int .i64 p, .int .i64 p1, .row 2 0 p2, .row 2 0 p3]))), .s (.c (.p (PV.row 2 0 t)))] []
def r72 (b : Bool) : R := some ([.c (.p (PV.bool b))], [])
def R72 (x0 : R) (K0 : Bool → R) : R := x0.bind fun q0 => bif lensB q0.2 [] && lensS q0.1 [.c (.p (.bool))] then (cBool (resAt q0.1 0)).bind fun b => K0 b else none
@[simp] theorem R72_r (b : Bool) (K0 : Bool → R) : R72 (r72 b) K0 = K0 b := by kernel_rfl

def c74 (k : Nat) (p p1 : Int) (p2 p3 t : List PV) : R := evF P E T k 74 [.s (.c (.p (PV.agg [.int .i64 p, .int .i64 p1, .row 2 0 p2, .row 2 0 p3]))), .s (.c (.p (PV.row 2 0 t)))] []
def r74 (b : Bool) : R := some ([.c (.p (PV.bool b))], [])
def R74 (x0 : R) (K0 : Bool → R) : R := x0.bind fun q0 => bif lensB q0.2 [] && lensS q0.1 [.c (.p (.bool))] then (cBool (resAt q0.1 0)).bind fun b => K0 b else none
@[simp] theorem R74_r (b : Bool) (K0 : Bool → R) : R74 (r74 b) K0 = K0 b := by kernel_rfl

def c77 (k : Nat) (wide vars : Int) (t : List PV) : R := evF P E T k 77 [.s (.c (.p (PV.int .i64 wide))), .s (.c (.p (PV.int .i64 vars))), .s (.c (.p (PV.row 2 0 t)))] []
def r77 (b : Bool) : R := some ([.c (.p (PV.bool b))], [])
def R77 (x0 : R) (K0 : Bool → R) : R := x0.bind fun q0 => bif lensB q0.2 [] && lensS q0.1 [.c (.p (.bool))] then (cBool (resAt q0.1 0)).bind fun b => K0 b else none
@[simp] theorem R77_r (b : Bool) (K0 : Bool → R) : R77 (r77 b) K0 = K0 b := by kernel_rfl
def L77_1 (k n : Nat) (wide vars : Int) (stackLen : Nat) (t33 : List PV) (t34 t35 : Int) (xs : List PV) : R := evLoopAt P E T k 77 77 [] [1, 1, 1, 0, 1, 0] [] n ⟨mkT 80 [(0, .s (.c (.p (PV.int .i64 wide)))), (1, .s (.c (.p (PV.int .i64 vars)))), (7, .s (.c (.loc 0 0 0 0 stackLen))), (33, .s (.c (.p (PV.row 2 0 t33)))), (34, .s (.c (.p (PV.int .i64 t34)))), (35, .s (.c (.p (PV.int .i64 t35))))], [.arr 3 0 0 false xs]⟩

def c88 (k : Nat) (p p1 : Int) (p2 p3 v : List PV) (class1 : Int) : R := evF P E T k 88 [.s (.c (.p (PV.agg [.int .i64 p, .int .i64 p1, .row 2 0 p2, .row 2 0 p3]))), .s (.c (.p (PV.agg [.row 0 0 v]))), .s (.c (.p (PV.int .i64 class1)))] []
def r88 (l : List PV) : R := some ([.c (.own 3 0 l)], [])
def R88 (x0 : R) (K0 : List PV → R) : R := x0.bind fun q0 => bif lensB q0.2 [] && lensS q0.1 [.c (.own 3 0)] then (asOwn 3 0 (resAt q0.1 0)).bind fun l => K0 l else none
@[simp] theorem R88_r (l : List PV) (K0 : List PV → R) : R88 (r88 l) K0 = K0 l := by kernel_rfl
def L88_1 (k n : Nat) (nextLen : Nat) (t13 : List PV) (t14 t15 n1 n11 : Int) (l l1 l2 xs : List PV) : R := evLoopAt P E T k 88 88 [] [1, 1, 0, 1, 0] [] n ⟨mkT 28 [(3, .s (.c (.bptr 0 0))), (4, .s (.c (.bptr 1 0))), (7, .s (.c (.loc 2 0 0 0 nextLen))), (13, .s (.c (.p (PV.row 0 0 t13)))), (14, .s (.c (.p (PV.int .i64 t14)))), (15, .s (.c (.p (PV.int .i64 t15))))], [.box [.p (PV.int .i64 n1), .p (PV.int .i64 n11), .p (PV.row 2 0 l), .p (PV.row 2 0 l1)], .box [.p (PV.row 0 0 l2)], .arr 3 0 0 false xs]⟩

def c89 (k : Nat) (p p1 : Int) (p2 p3 v : List PV) (class1 : Int) : R := evF P E T k 89 [.s (.c (.p (PV.agg [.int .i64 p, .int .i64 p1, .row 2 0 p2, .row 2 0 p3]))), .s (.c (.p (PV.agg [.row 0 0 v]))), .s (.c (.p (PV.int .i64 class1)))] []
def r89 (l : List PV) : R := some ([.c (.p (PV.row 0 0 l))], [])
def R89 (x0 : R) (K0 : List PV → R) : R := x0.bind fun q0 => bif lensB q0.2 [] && lensS q0.1 [.c (.p (.row 0))] then (cRow (resAt q0.1 0) 0).bind fun l => K0 l else none
@[simp] theorem R89_r (l : List PV) (K0 : List PV → R) : R89 (r89 l) K0 = K0 l := by kernel_rfl

def c101 (k : Nat) (v : List PV) (class1 : Int) : R := evF P E T k 101 [.s (.c (.p (PV.agg [.row 0 0 v]))), .s (.c (.p (PV.int .i64 class1)))] []
def r101 (l : List PV) : R := some ([.c (.p (PV.row 0 0 l))], [])
def R101 (x0 : R) (K0 : List PV → R) : R := x0.bind fun q0 => bif lensB q0.2 [] && lensS q0.1 [.c (.p (.row 0))] then (cRow (resAt q0.1 0) 0).bind fun l => K0 l else none
@[simp] theorem R101_r (l : List PV) (K0 : List PV → R) : R101 (r101 l) K0 = K0 l := by kernel_rfl
def L101_1 (k n : Nat) (class1 : Int) (outLen : Nat) (t10 : List PV) (t11 t12 : Int) (xs : List PV) : R := evLoopAt P E T k 101 101 [] [1, 1, 0, 1, 0] [] n ⟨mkT 26 [(1, .s (.c (.p (PV.int .i64 class1)))), (5, .s (.c (.loc 0 0 0 0 outLen))), (10, .s (.c (.p (PV.row 0 0 t10)))), (11, .s (.c (.p (PV.int .i64 t11)))), (12, .s (.c (.p (PV.int .i64 t12))))], [.arr 3 0 0 false xs]⟩

def c102 (k : Nat) (list l : List PV) (n1 n11 : Int) : R := evF P E T k 102 [.s (.c (.bptr 0 0)), .s (.c (.p (PV.row 0 0 list)))] [[.p (PV.row 0 0 l), .p (PV.int .i64 n1), .p (PV.int .u64 n11)]]
def r102 (l : List PV) (qr qr1 qr2 : Int) : R := some ([.c (.p (PV.int .i64 qr2))], [[.p (PV.row 0 0 l), .p (PV.int .i64 qr), .p (PV.int .u64 qr1)]])
def R102 (x0 : R) (K0 : List PV → Int → Int → Int → R) : R := x0.bind fun q0 => bif lensB q0.2 [[.p (.row 0), .p (.int .i64), .p (.int .u64)]] && lensS q0.1 [.c (.p (.int .i64))] then (cRow (cellAt q0.2 0 0) 0).bind fun l => (cInt (cellAt q0.2 0 1) .i64).bind fun qr => (cInt (cellAt q0.2 0 2) .u64).bind fun qr1 => (cInt (resAt q0.1 0) .i64).bind fun qr2 => K0 l qr qr1 qr2 else none
@[simp] theorem R102_r (l : List PV) (qr qr1 qr2 : Int) (K0 : List PV → Int → Int → Int → R) : R102 (r102 l qr qr1 qr2) K0 = K0 l qr qr1 qr2 := by kernel_rfl

def c103 (k : Nat) (n1 : Int) (l : List PV) (n11 n12 : Int) : R := evF P E T k 103 [.s (.c (.bptr 0 0)), .s (.c (.p (PV.int .i64 n1)))] [[.p (PV.row 0 0 l), .p (PV.int .i64 n11), .p (PV.int .u64 n12)]]
def r103 (l : List PV) (qr qr1 qr2 : Int) : R := some ([.c (.p (PV.int .i64 qr2))], [[.p (PV.row 0 0 l), .p (PV.int .i64 qr), .p (PV.int .u64 qr1)]])
def R103 (x0 : R) (K0 : List PV → Int → Int → Int → R) : R := x0.bind fun q0 => bif lensB q0.2 [[.p (.row 0), .p (.int .i64), .p (.int .u64)]] && lensS q0.1 [.c (.p (.int .i64))] then (cRow (cellAt q0.2 0 0) 0).bind fun l => (cInt (cellAt q0.2 0 1) .i64).bind fun qr => (cInt (cellAt q0.2 0 2) .u64).bind fun qr1 => (cInt (resAt q0.1 0) .i64).bind fun qr2 => K0 l qr qr1 qr2 else none
@[simp] theorem R103_r (l : List PV) (qr qr1 qr2 : Int) (K0 : List PV → Int → Int → Int → R) : R103 (r103 l qr qr1 qr2) K0 = K0 l qr qr1 qr2 := by kernel_rfl

def c104 (k : Nat) (wide vars : Int) (l : List PV) (n1 n11 : Int) : R := evF P E T k 104 [.s (.c (.bptr 0 0)), .s (.c (.p (PV.int .i64 wide))), .s (.c (.p (PV.int .i64 vars)))] [[.p (PV.row 0 0 l), .p (PV.int .i64 n1), .p (PV.int .u64 n11)]]
def r104 (l : List PV) (qr qr1 qr2 qr3 : Int) (l1 l2 : List PV) : R := some ([.agg [.p (PV.int .i64 qr2), .p (PV.int .i64 qr3), .p (PV.row 2 0 l1), .own ⟨114, some ⟨1, 116, 2, 0, none⟩⟩ 2 l2]], [[.p (PV.row 0 0 l), .p (PV.int .i64 qr), .p (PV.int .u64 qr1)]])
def R104 (x0 : R) (K0 : List PV → Int → Int → Int → Int → List PV → List PV → R) : R := x0.bind fun q0 => bif lensB q0.2 [[.p (.row 0), .p (.int .i64), .p (.int .u64)]] && lensS q0.1 [.agg [.p (.int .i64), .p (.int .i64), .p (.row 2), .own ⟨114, some ⟨1, 116, 2, 0, none⟩⟩ 2]] then (cRow (cellAt q0.2 0 0) 0).bind fun l => (cInt (cellAt q0.2 0 1) .i64).bind fun qr => (cInt (cellAt q0.2 0 2) .u64).bind fun qr1 => (cInt (Dp.partAt q0.1 0 0) .i64).bind fun qr2 => (cInt (Dp.partAt q0.1 0 1) .i64).bind fun qr3 => (cRow (Dp.partAt q0.1 0 2) 2).bind fun l1 => (asOwn ⟨114, some ⟨1, 116, 2, 0, none⟩⟩ 2 (Dp.partAt q0.1 0 3)).bind fun l2 => K0 l qr qr1 qr2 qr3 l1 l2 else none
@[simp] theorem R104_r (l : List PV) (qr qr1 qr2 qr3 : Int) (l1 l2 : List PV) (K0 : List PV → Int → Int → Int → Int → List PV → List PV → R) : R104 (r104 l qr qr1 qr2 qr3 l1 l2) K0 = K0 l qr qr1 qr2 qr3 l1 l2 := by kernel_rfl
def L104_1 (k n : Nat) (wide vars n1 : Int) (l : List PV) (n11 n12 n13 n14 : Int) (l1 l2 : List PV) (n15 n16 : Int) (Len Len1 : Nat) (xs xs1 : List PV) : R := evLoopAt P E T k 104 104 [3] [1, 1, 1, 1, 0, 1, 0] [] n ⟨mkT 44 [(0, .s (.c (.bptr 0 0))), (1, .s (.c (.p (PV.int .i64 wide)))), (2, .s (.c (.p (PV.int .i64 vars)))), (6, .s (.c (.bptr 1 0))), (7, .s (.c (.bptr 2 0))), (8, .s (.c (.p (PV.int .i64 n1))))], [.box [.p (PV.row 0 0 l), .p (PV.int .i64 n11), .p (PV.int .u64 n12)], .box [.p (PV.int .i64 n13), .p (PV.int .i64 n14), .p (PV.row 2 0 l1), .p (PV.row 2 0 l2)], .box [.p (PV.int .i64 n15), .p (PV.int .i64 n16), .loc 3 0 2 0 Len, .loc 4 0 2 0 Len1], .arr 96 2 0 false xs, .arr ⟨114, some ⟨1, 116, 2, 0, none⟩⟩ 2 0 false xs1]⟩

def c105 (k : Nat) (p p1 : Int) (p2 p3 preds : List PV) : R := evF P E T k 105 [.s (.c (.p (PV.agg [.int .i64 p, .int .i64 p1, .row 2 0 p2, .row 2 0 p3]))), .s (.c (.p (PV.row 0 0 preds)))] []
def r105 (l : List PV) (b : Bool) : R := some ([.agg [.own 3 0 l], .c (.p (PV.bool b))], [])
def R105 (x0 : R) (K0 : List PV → Bool → R) : R := x0.bind fun q0 => bif lensB q0.2 [] && lensS q0.1 [.agg [.own 3 0], .c (.p (.bool))] then (asOwn 3 0 (Dp.partAt q0.1 0 0)).bind fun l => (cBool (resAt q0.1 1)).bind fun b => K0 l b else none
@[simp] theorem R105_r (l : List PV) (b : Bool) (K0 : List PV → Bool → R) : R105 (r105 l b) K0 = K0 l b := by kernel_rfl

def c106 (k : Nat) (p p1 : Int) (p2 p3 : List PV) (most : Int) (l : List PV) (n1 n11 : Int) : R := evF P E T k 106 [.s (.c (.bptr 0 0)), .s (.c (.p (PV.agg [.int .i64 p, .int .i64 p1, .row 2 0 p2, .row 2 0 p3]))), .s (.c (.p (PV.int .i64 most)))] [[.p (PV.row 0 0 l), .p (PV.int .i64 n1), .p (PV.int .u64 n11)]]
def r106 (l : List PV) (qr qr1 : Int) (l1 : List PV) : R := some ([.c (.p (PV.row 0 0 l1))], [[.p (PV.row 0 0 l), .p (PV.int .i64 qr), .p (PV.int .u64 qr1)]])
def R106 (x0 : R) (K0 : List PV → Int → Int → List PV → R) : R := x0.bind fun q0 => bif lensB q0.2 [[.p (.row 0), .p (.int .i64), .p (.int .u64)]] && lensS q0.1 [.c (.p (.row 0))] then (cRow (cellAt q0.2 0 0) 0).bind fun l => (cInt (cellAt q0.2 0 1) .i64).bind fun qr => (cInt (cellAt q0.2 0 2) .u64).bind fun qr1 => (cRow (resAt q0.1 0) 0).bind fun l1 => K0 l qr qr1 l1 else none
@[simp] theorem R106_r (l : List PV) (qr qr1 : Int) (l1 : List PV) (K0 : List PV → Int → Int → List PV → R) : R106 (r106 l qr qr1 l1) K0 = K0 l qr qr1 l1 := by kernel_rfl
def L106_1 (k n : Nat) (lLen : Nat) (n1 : Int) (l : List PV) (n11 n12 n13 n14 : Int) (l1 l2 xs : List PV) : R := evLoopAt P E T k 106 106 [3] [1, 1, 0, 1, 0] [] n ⟨mkT 31 [(0, .s (.c (.bptr 0 0))), (4, .s (.c (.bptr 1 0))), (7, .s (.c (.loc 2 0 0 0 lLen))), (8, .s (.c (.p (PV.int .i64 n1))))], [.box [.p (PV.row 0 0 l), .p (PV.int .i64 n11), .p (PV.int .u64 n12)], .box [.p (PV.int .i64 n13), .p (PV.int .i64 n14), .p (PV.row 2 0 l1), .p (PV.row 2 0 l2)], .arr 24 0 0 false xs]⟩

def c107 (k : Nat) (p p1 : Int) (p2 p3 v some1 : List PV) : R := evF P E T k 107 [.s (.c (.p (PV.agg [.int .i64 p, .int .i64 p1, .row 2 0 p2, .row 2 0 p3]))), .s (.c (.p (PV.agg [.row 0 0 v]))), .s (.c (.p (PV.row 0 0 some1)))] []
def r107 (l : List PV) (b : Bool) : R := some ([.agg [.own 3 0 l], .c (.p (PV.bool b))], [])
def R107p (x0 : R) (K0 : List PV → Bool → R) : R := x0.bind fun q0 => bif q0.1.all plainS && q0.2.all (fun cs => cs.all plainC) then (bif lensB q0.2 [] && lensS q0.1 [.agg [.own 3 0], .c (.p (.bool))] then (asOwn 3 0 (Dp.partAt q0.1 0 0)).bind fun l => (cBool (resAt q0.1 1)).bind fun b => K0 l b else none) else none

def c108 (k : Nat) (n1 most : Int) (l : List PV) (n11 n12 : Int) : R := evF P E T k 108 [.s (.c (.bptr 0 0)), .s (.c (.p (PV.int .i64 n1))), .s (.c (.p (PV.int .i64 most)))] [[.p (PV.row 0 0 l), .p (PV.int .i64 n11), .p (PV.int .u64 n12)]]
def r108 (l : List PV) (qr qr1 : Int) (l1 : List PV) : R := some ([.c (.p (PV.row 0 0 l1))], [[.p (PV.row 0 0 l), .p (PV.int .i64 qr), .p (PV.int .u64 qr1)]])
def R108 (x0 : R) (K0 : List PV → Int → Int → List PV → R) : R := x0.bind fun q0 => bif lensB q0.2 [[.p (.row 0), .p (.int .i64), .p (.int .u64)]] && lensS q0.1 [.c (.p (.row 0))] then (cRow (cellAt q0.2 0 0) 0).bind fun l => (cInt (cellAt q0.2 0 1) .i64).bind fun qr => (cInt (cellAt q0.2 0 2) .u64).bind fun qr1 => (cRow (resAt q0.1 0) 0).bind fun l1 => K0 l qr qr1 l1 else none
@[simp] theorem R108_r (l : List PV) (qr qr1 : Int) (l1 : List PV) (K0 : List PV → Int → Int → List PV → R) : R108 (r108 l qr qr1 l1) K0 = K0 l qr qr1 l1 := by kernel_rfl
def L108_1 (k n : Nat) (n1 : Int) (lLen : Nat) (k1 : Int) (l : List PV) (n11 n12 : Int) (xs : List PV) : R := evLoopAt P E T k 108 108 [3] [1, 1, 0, 1, 0] [] n ⟨mkT 29 [(0, .s (.c (.bptr 0 0))), (1, .s (.c (.p (PV.int .i64 n1)))), (7, .s (.c (.loc 1 0 0 0 lLen))), (8, .s (.c (.p (PV.int .i64 k1))))], [.box [.p (PV.row 0 0 l), .p (PV.int .i64 n11), .p (PV.int .u64 n12)], .arr 3 0 0 false xs]⟩

def c109 (k : Nat) (p p1 : Int) (p2 p3 : List PV) (no : Int) : R := evF P E T k 109 [.s (.c (.p (PV.agg [.int .i64 p, .int .i64 p1, .row 2 0 p2, .row 2 0 p3]))), .s (.c (.p (PV.int .i64 no)))] []
def r109 (qr : Int) (b : Bool) : R := some ([.c (.p (PV.int .i64 qr)), .c (.p (PV.bool b))], [])
def R109 (x0 : R) (K0 : Int → Bool → R) : R := x0.bind fun q0 => bif lensB q0.2 [] && lensS q0.1 [.c (.p (.int .i64)), .c (.p (.bool))] then (cInt (resAt q0.1 0) .i64).bind fun qr => (cBool (resAt q0.1 1)).bind fun b => K0 qr b else none
@[simp] theorem R109_r (qr : Int) (b : Bool) (K0 : Int → Bool → R) : R109 (r109 qr b) K0 = K0 qr b := by kernel_rfl
def L109_1 (k n : Nat) (no : Int) (some1 : List PV) (n1 n11 n12 : Int) (l l1 : List PV) : R := evLoopAt P E T k 109 109 [] [1, 1, 1, 1, 0, 0] [] n ⟨mkT 34 [(1, .s (.c (.p (PV.int .i64 no)))), (2, .s (.c (.bptr 0 0))), (6, .s (.c (.p (PV.row 0 0 some1)))), (7, .s (.c (.p (PV.int .i64 n1))))], [.box [.p (PV.int .i64 n11), .p (PV.int .i64 n12), .p (PV.row 2 0 l), .p (PV.row 2 0 l1)]]⟩

def c110 (k : Nat) (p p1 : Int) (p2 p3 : List PV) (from1 to steps : Int) : R := evF P E T k 110 [.s (.c (.p (PV.agg [.int .i64 p, .int .i64 p1, .row 2 0 p2, .row 2 0 p3]))), .s (.c (.p (PV.int .i64 from1))), .s (.c (.p (PV.int .i64 to))), .s (.c (.p (PV.int .i64 steps)))] []
def r110 (b : Bool) : R := some ([.c (.p (PV.bool b))], [])
def R110 (x0 : R) (K0 : Bool → R) : R := x0.bind fun q0 => bif lensB q0.2 [] && lensS q0.1 [.c (.p (.bool))] then (cBool (resAt q0.1 0)).bind fun b => K0 b else none
@[simp] theorem R110_r (b : Bool) (K0 : Bool → R) : R110 (r110 b) K0 = K0 b := by kernel_rfl
def L110_1 (k n : Nat) (to steps : Int) (someLen : Nat) (n1 n11 : Int) (l l1 xs : List PV) : R := evLoopAt P E T k 110 110 [] [1, 1, 0, 0] [] n ⟨mkT 22 [(2, .s (.c (.p (PV.int .i64 to)))), (3, .s (.c (.p (PV.int .i64 steps)))), (4, .s (.c (.bptr 0 0))), (9, .s (.c (.loc 1 0 0 0 someLen)))], [.box [.p (PV.int .i64 n1), .p (PV.int .i64 n11), .p (PV.row 2 0 l), .p (PV.row 2 0 l1)], .arr 3 0 0 false xs]⟩
def L110_2 (k n : Nat) (to steps : Int) (some1 : List PV) (n1 n11 : Int) (l l1 : List PV) : R := evLoopAt P E T k 110 110 [] [1, 1, 0, 0] [] n ⟨mkT 22 [(2, .s (.c (.p (PV.int .i64 to)))), (3, .s (.c (.p (PV.int .i64 steps)))), (4, .s (.c (.bptr 0 0))), (9, .s (.c (.p (PV.row 0 0 some1))))], [.box [.p (PV.int .i64 n1), .p (PV.int .i64 n11), .p (PV.row 2 0 l), .p (PV.row 2 0 l1)]]⟩

def c111 (k : Nat) (p p1 : Int) (p2 p3 : List PV) (no : Int) : R := evF P E T k 111 [.s (.c (.p (PV.agg [.int .i64 p, .int .i64 p1, .row 2 0 p2, .row 2 0 p3]))), .s (.c (.p (PV.int .i64 no)))] []
def r111 (l : List PV) : R := some ([.c (.p (PV.row 0 0 l))], [])
def R111 (x0 : R) (K0 : List PV → R) : R := x0.bind fun q0 => bif lensB q0.2 [] && lensS q0.1 [.c (.p (.row 0))] then (cRow (resAt q0.1 0) 0).bind fun l => K0 l else none
@[simp] theorem R111_r (l : List PV) (K0 : List PV → R) : R111 (r111 l) K0 = K0 l := by kernel_rfl
def L111_1 (k n : Nat) (no : Int) (qs : List PV) (outLen : Nat) (t14 : List PV) (t15 t16 n1 n11 : Int) (l l1 xs : List PV) : R := evLoopAt P E T k 111 111 [] [1, 1, 1, 0, 1, 0] [] n ⟨mkT 35 [(1, .s (.c (.p (PV.int .i64 no)))), (2, .s (.c (.bptr 0 0))), (5, .s (.c (.p (PV.row 0 0 qs)))), (6, .s (.c (.loc 1 0 0 0 outLen))), (14, .s (.c (.p (PV.row 0 0 t14)))), (15, .s (.c (.p (PV.int .i64 t15)))), (16, .s (.c (.p (PV.int .i64 t16))))], [.box [.p (PV.int .i64 n1), .p (PV.int .i64 n11), .p (PV.row 2 0 l), .p (PV.row 2 0 l1)], .arr 3 0 0 false xs]⟩

def c112 (k : Nat) (p p1 : Int) (p2 p3 : List PV) : R := evF P E T k 112 [.s (.c (.p (PV.agg [.int .i64 p, .int .i64 p1, .row 2 0 p2, .row 2 0 p3])))] []
def r112 (l : List PV) (b : Bool) : R := some ([.c (.p (PV.row 0 0 l)), .c (.p (PV.bool b))], [])
def R112 (x0 : R) (K0 : List PV → Bool → R) : R := x0.bind fun q0 => bif lensB q0.2 [] && lensS q0.1 [.c (.p (.row 0)), .c (.p (.bool))] then (cRow (resAt q0.1 0) 0).bind fun l => (cBool (resAt q0.1 1)).bind fun b => K0 l b else none
@[simp] theorem R112_r (l : List PV) (b : Bool) (K0 : List PV → Bool → R) : R112 (r112 l b) K0 = K0 l b := by kernel_rfl

def c113 (k : Nat) (v : List PV) (states : Int) : R := evF P E T k 113 [.s (.c (.p (PV.agg [.row 0 0 v]))), .s (.c (.p (PV.int .i64 states)))] []
def r113 (b : Bool) : R := some ([.c (.p (PV.bool b))], [])
def R113 (x0 : R) (K0 : Bool → R) : R := x0.bind fun q0 => bif lensB q0.2 [] && lensS q0.1 [.c (.p (.bool))] then (cBool (resAt q0.1 0)).bind fun b => K0 b else none
@[simp] theorem R113_r (b : Bool) (K0 : Bool → R) : R113 (r113 b) K0 = K0 b := by kernel_rfl
def L113_1 (k n : Nat) (states classes : Int) (t9 : List PV) (t10 t11 : Int) (l : List PV) : R := evLoopAt P E T k 113 113 [] [1, 1, 0, 1, 0] [] n ⟨mkT 33 [(1, .s (.c (.p (PV.int .i64 states)))), (2, .s (.c (.bptr 0 0))), (5, .s (.c (.p (PV.int .i64 classes)))), (9, .s (.c (.p (PV.row 0 0 t9)))), (10, .s (.c (.p (PV.int .i64 t10)))), (11, .s (.c (.p (PV.int .i64 t11))))], [.box [.p (PV.row 0 0 l)]]⟩

def c114 (k : Nat) (p p1 : Int) (p2 p3 : List PV) : R := evF P E T k 114 [.s (.c (.p (PV.agg [.int .i64 p, .int .i64 p1, .row 2 0 p2, .row 2 0 p3])))] []
def r114 (b : Bool) : R := some ([.c (.p (PV.bool b))], [])
def R114 (x0 : R) (K0 : Bool → R) : R := x0.bind fun q0 => bif lensB q0.2 [] && lensS q0.1 [.c (.p (.bool))] then (cBool (resAt q0.1 0)).bind fun b => K0 b else none
@[simp] theorem R114_r (b : Bool) (K0 : Bool → R) : R114 (r114 b) K0 = K0 b := by kernel_rfl

def c115 (k : Nat) (p p1 : Int) (p2 p3 : List PV) : R := evF P E T k 115 [.s (.c (.p (PV.agg [.int .i64 p, .int .i64 p1, .row 2 0 p2, .row 2 0 p3])))] []
def r115 (qr : Int) : R := some ([.c (.p (PV.int .i64 qr))], [])
def R115 (x0 : R) (K0 : Int → R) : R := x0.bind fun q0 => bif lensB q0.2 [] && lensS q0.1 [.c (.p (.int .i64))] then (cInt (resAt q0.1 0) .i64).bind fun qr => K0 qr else none
@[simp] theorem R115_r (qr : Int) (K0 : Int → R) : R115 (r115 qr) K0 = K0 qr := by kernel_rfl

def c116 (k : Nat) (v : List PV) : R := evF P E T k 116 [.s (.c (.p (PV.agg [.row 0 0 v])))] []
def r116 (qr : Int) : R := some ([.c (.p (PV.int .i64 qr))], [])
def R116 (x0 : R) (K0 : Int → R) : R := x0.bind fun q0 => bif lensB q0.2 [] && lensS q0.1 [.c (.p (.int .i64))] then (cInt (resAt q0.1 0) .i64).bind fun qr => K0 qr else none
@[simp] theorem R116_r (qr : Int) (K0 : Int → R) : R116 (r116 qr) K0 = K0 qr := by kernel_rfl

def c117 (k : Nat) (v : List PV) : R := evF P E T k 117 [.s (.c (.p (PV.agg [.row 0 0 v])))] []
def r117 (qr : Int) : R := some ([.c (.p (PV.int .i64 qr))], [])
def R117 (x0 : R) (K0 : Int → R) : R := x0.bind fun q0 => bif lensB q0.2 [] && lensS q0.1 [.c (.p (.int .i64))] then (cInt (resAt q0.1 0) .i64).bind fun qr => K0 qr else none
@[simp] theorem R117_r (qr : Int) (K0 : Int → R) : R117 (r117 qr) K0 = K0 qr := by kernel_rfl
def L117_1 (k n : Nat) (many : Int) (t7 : List PV) (t8 t9 : Int) : R := evLoopAt P E T k 117 117 [] [1, 1, 0, 1, 0] [] n ⟨mkT 20 [(3, .s (.c (.p (PV.int .i64 many)))), (7, .s (.c (.p (PV.row 0 0 t7)))), (8, .s (.c (.p (PV.int .i64 t8)))), (9, .s (.c (.p (PV.int .i64 t9))))], []⟩

def c118 (k : Nat) (list : List PV) : R := evF P E T k 118 [.s (.c (.p (PV.row 0 0 list)))] []
def r118 (l : List PV) : R := some ([.c (.own 3 0 l)], [])
def R118p (x0 : R) (K0 : List PV → R) : R := x0.bind fun q0 => bif q0.1.all plainS && q0.2.all (fun cs => cs.all plainC) then (bif lensB q0.2 [] && lensS q0.1 [.c (.own 3 0)] then (asOwn 3 0 (resAt q0.1 0)).bind fun l => K0 l else none) else none
def L118_1 (k n : Nat) (outLen : Nat) (t7 : List PV) (t8 t9 : Int) (xs : List PV) : R := evLoopAt P E T k 118 118 [] [1, 1, 0, 1, 0] [] n ⟨mkT 21 [(3, .s (.c (.loc 0 0 0 0 outLen))), (7, .s (.c (.p (PV.row 0 0 t7)))), (8, .s (.c (.p (PV.int .i64 t8)))), (9, .s (.c (.p (PV.int .i64 t9))))], [.arr 3 0 0 false xs]⟩

def c119 (k : Nat) (l : List PV) (n1 : Int) : R := evF P E T k 119 [.s (.c (.own 3 0 l)), .s (.c (.p (PV.int .i64 n1)))] []
def r119 (l : List PV) : R := some ([.c (.own 3 0 l)], [])
def R119 (x0 : R) (K0 : List PV → R) : R := x0.bind fun q0 => bif lensB q0.2 [] && lensS q0.1 [.c (.own 3 0)] then (asOwn 3 0 (resAt q0.1 0)).bind fun l => K0 l else none
@[simp] theorem R119_r (l : List PV) (K0 : List PV → R) : R119 (r119 l) K0 = K0 l := by kernel_rfl
def L119_1 (k n : Nat) (lLen : Nat) (n1 k1 : Int) (xs : List PV) : R := evLoopAt P E T k 119 119 [] [1, 1, 0, 0] [] n ⟨mkT 48 [(0, .s (.c (.loc 0 0 0 0 lLen))), (1, .s (.c (.p (PV.int .i64 n1)))), (5, .s (.c (.p (PV.int .i64 k1))))], [.arr 3 0 0 false xs]⟩

def c120 (k : Nat) (p p1 : Int) (p2 p3 t qs : List PV) : R := evF P E T k 120 [.s (.c (.p (PV.agg [.int .i64 p, .int .i64 p1, .row 2 0 p2, .row 2 0 p3]))), .s (.c (.p (PV.row 2 0 t))), .s (.c (.p (PV.row 0 0 qs)))] []
def r120 (b : Bool) : R := some ([.c (.p (PV.bool b))], [])
def R120 (x0 : R) (K0 : Bool → R) : R := x0.bind fun q0 => bif lensB q0.2 [] && lensS q0.1 [.c (.p (.bool))] then (cBool (resAt q0.1 0)).bind fun b => K0 b else none
@[simp] theorem R120_r (b : Bool) (K0 : Bool → R) : R120 (r120 b) K0 = K0 b := by kernel_rfl

def c121 (k : Nat) (p p1 : Int) (p2 p3 : List PV) (no : Int) : R := evF P E T k 121 [.s (.c (.p (PV.agg [.int .i64 p, .int .i64 p1, .row 2 0 p2, .row 2 0 p3]))), .s (.c (.p (PV.int .i64 no)))] []
def r121 (l : List PV) : R := some ([.c (.p (PV.row 0 0 l))], [])
def R121 (x0 : R) (K0 : List PV → R) : R := x0.bind fun q0 => bif lensB q0.2 [] && lensS q0.1 [.c (.p (.row 0))] then (cRow (resAt q0.1 0) 0).bind fun l => K0 l else none
@[simp] theorem R121_r (l : List PV) (K0 : List PV → R) : R121 (r121 l) K0 = K0 l := by kernel_rfl
def L121_1 (k n : Nat) (no : Int) (outLen : Nat) (v n1 n11 : Int) (l l1 xs : List PV) : R := evLoopAt P E T k 121 121 [] [1, 1, 0, 1, 0] [] n ⟨mkT 31 [(1, .s (.c (.p (PV.int .i64 no)))), (2, .s (.c (.bptr 0 0))), (5, .s (.c (.loc 1 0 0 0 outLen))), (6, .s (.c (.p (PV.int .i64 v))))], [.box [.p (PV.int .i64 n1), .p (PV.int .i64 n11), .p (PV.row 2 0 l), .p (PV.row 2 0 l1)], .arr 64 0 0 false xs]⟩

def c122 (k : Nat) (g some1 : List PV) : R := evF P E T k 122 [.s (.c (.p (PV.row 0 0 g))), .s (.c (.p (PV.row 0 0 some1)))] []
def r122 (l : List PV) : R := some ([.c (.p (PV.row 0 0 l))], [])
def R122 (x0 : R) (K0 : List PV → R) : R := x0.bind fun q0 => bif lensB q0.2 [] && lensS q0.1 [.c (.p (.row 0))] then (cRow (resAt q0.1 0) 0).bind fun l => K0 l else none
@[simp] theorem R122_r (l : List PV) (K0 : List PV → R) : R122 (r122 l) K0 = K0 l := by kernel_rfl
def L122_1 (k n : Nat) (outLen : Nat) (t11 : List PV) (t12 t13 : Int) (xs : List PV) : R := evLoopAt P E T k 122 122 [] [1, 1, 0, 1, 0] [] n ⟨mkT 26 [(5, .s (.c (.loc 0 0 0 0 outLen))), (11, .s (.c (.p (PV.row 0 0 t11)))), (12, .s (.c (.p (PV.int .i64 t12)))), (13, .s (.c (.p (PV.int .i64 t13))))], [.arr 3 0 0 false xs]⟩

def c123 (k : Nat) (next from1 : List PV) : R := evF P E T k 123 [.s (.c (.p (PV.row 0 0 next))), .s (.c (.p (PV.row 0 0 from1)))] []
def r123 (l : List PV) : R := some ([.c (.p (PV.row 0 0 l))], [])
def R123 (x0 : R) (K0 : List PV → R) : R := x0.bind fun q0 => bif lensB q0.2 [] && lensS q0.1 [.c (.p (.row 0))] then (cRow (resAt q0.1 0) 0).bind fun l => K0 l else none
@[simp] theorem R123_r (l : List PV) (K0 : List PV → R) : R123 (r123 l) K0 = K0 l := by kernel_rfl
def L123_1 (k n : Nat) (outLen : Nat) (t10 : List PV) (t11 t12 : Int) (xs : List PV) : R := evLoopAt P E T k 123 123 [] [1, 1, 0, 1, 0] [] n ⟨mkT 25 [(5, .s (.c (.loc 0 0 0 0 outLen))), (10, .s (.c (.p (PV.row 0 0 t10)))), (11, .s (.c (.p (PV.int .i64 t11)))), (12, .s (.c (.p (PV.int .i64 t12))))], [.arr 3 0 0 false xs]⟩

def c124f63 (k : Nat) (qs : List PV) (n1 n11 : Int) (l l1 : List PV) : R := evF P E T k 124 [.s (.c (.p (PV.row 0 0 qs))), .s (.c (.cfn 63 [PV.agg [.int .i64 n1, .int .i64 n11, .row 2 0 l, .row 2 0 l1]]))] []
def r124f63 (qr : Int) : R := some ([.c (.p (PV.int .i64 qr))], [])
def R124f63p (x0 : R) (K0 : Int → R) : R := x0.bind fun q0 => bif q0.1.all plainS && q0.2.all (fun cs => cs.all plainC) then (bif lensB q0.2 [] && lensS q0.1 [.c (.p (.int .i64))] then (cInt (resAt q0.1 0) .i64).bind fun qr => K0 qr else none) else none
@[simp] theorem R124f63p_r (qr : Int) (K0 : Int → R) : R124f63p (r124f63 qr) K0 = K0 qr := by kernel_rfl
def L124f63_1 (k n : Nat) (qs : List PV) (n1 n11 : Int) (l l1 : List PV) (t7 t8 : Int) : R := evLoopAt P E T k 124 64124 [] [1, 0, 1, 0] [] n ⟨mkT 19 [(0, .s (.c (.p (PV.row 0 0 qs)))), (1, .s (.c (.cfn 63 [PV.agg [.int .i64 n1, .int .i64 n11, .row 2 0 l, .row 2 0 l1]]))), (7, .s (.c (.p (PV.int .i64 t7)))), (8, .s (.c (.p (PV.int .i64 t8))))], []⟩

def c124f143 (k : Nat) (qs : List PV) (n1 : Int) : R := evF P E T k 124 [.s (.c (.p (PV.row 0 0 qs))), .s (.c (.fn 143 [0]))] [[.p (PV.int .i64 n1)]]
def r124f143 (qr qr1 : Int) : R := some ([.c (.p (PV.int .i64 qr1))], [[.p (PV.int .i64 qr)]])
def R124f143 (x0 : R) (K0 : Int → Int → R) : R := x0.bind fun q0 => bif lensB q0.2 [[.p (.int .i64)]] && lensS q0.1 [.c (.p (.int .i64))] then (cInt (cellAt q0.2 0 0) .i64).bind fun qr => (cInt (resAt q0.1 0) .i64).bind fun qr1 => K0 qr qr1 else none
@[simp] theorem R124f143_r (qr qr1 : Int) (K0 : Int → Int → R) : R124f143 (r124f143 qr qr1) K0 = K0 qr qr1 := by kernel_rfl
def L124f143_1 (k n : Nat) (qs : List PV) (t7 t8 n1 : Int) : R := evLoopAt P E T k 124 144124 [1] [1, 0, 1, 0] [] n ⟨mkT 19 [(0, .s (.c (.p (PV.row 0 0 qs)))), (1, .s (.c (.fn 143 [0]))), (7, .s (.c (.p (PV.int .i64 t7)))), (8, .s (.c (.p (PV.int .i64 t8))))], [.box [.p (PV.int .i64 n1)]]⟩

def c125 (k : Nat) (qs : List PV) (v : Int) : R := evF P E T k 125 [.s (.c (.p (PV.row 0 0 qs))), .s (.c (.p (PV.int .i64 v)))] []
def r125 (qr : Int) : R := some ([.c (.p (PV.int .i64 qr))], [])
def R125 (x0 : R) (K0 : Int → R) : R := x0.bind fun q0 => bif lensB q0.2 [] && lensS q0.1 [.c (.p (.int .i64))] then (cInt (resAt q0.1 0) .i64).bind fun qr => K0 qr else none
@[simp] theorem R125_r (qr : Int) (K0 : Int → R) : R125 (r125 qr) K0 = K0 qr := by kernel_rfl
def L125_1 (k n : Nat) (qs : List PV) (v t7 t8 : Int) : R := evLoopAt P E T k 125 125 [] [1, 0, 1, 0] [] n ⟨mkT 19 [(0, .s (.c (.p (PV.row 0 0 qs)))), (1, .s (.c (.p (PV.int .i64 v)))), (7, .s (.c (.p (PV.int .i64 t7)))), (8, .s (.c (.p (PV.int .i64 t8))))], []⟩

def c126 (k : Nat) (p p1 : Int) (p2 p3 qs : List PV) : R := evF P E T k 126 [.s (.c (.p (PV.agg [.int .i64 p, .int .i64 p1, .row 2 0 p2, .row 2 0 p3]))), .s (.c (.p (PV.row 0 0 qs)))] []
def r126 (qr : Int) : R := some ([.c (.p (PV.int .i64 qr))], [])
def R126 (x0 : R) (K0 : Int → R) : R := x0.bind fun q0 => bif lensB q0.2 [] && lensS q0.1 [.c (.p (.int .i64))] then (cInt (resAt q0.1 0) .i64).bind fun qr => K0 qr else none
@[simp] theorem R126_r (qr : Int) (K0 : Int → R) : R126 (r126 qr) K0 = K0 qr := by kernel_rfl
def L126_1 (k n : Nat) (no : Int) (t8 : List PV) (t9 t10 n1 n11 : Int) (l l1 : List PV) : R := evLoopAt P E T k 126 126 [] [1, 1, 0, 1, 0] [] n ⟨mkT 26 [(2, .s (.c (.bptr 0 0))), (5, .s (.c (.p (PV.int .i64 no)))), (8, .s (.c (.p (PV.row 0 0 t8)))), (9, .s (.c (.p (PV.int .i64 t9)))), (10, .s (.c (.p (PV.int .i64 t10))))], [.box [.p (PV.int .i64 n1), .p (PV.int .i64 n11), .p (PV.row 2 0 l), .p (PV.row 2 0 l1)]]⟩

def c127 (k : Nat) (p p1 : Int) (p2 p3 qc qc1 qs : List PV) : R := evF P E T k 127 [.s (.c (.p (PV.agg [.int .i64 p, .int .i64 p1, .row 2 0 p2, .row 2 0 p3]))), .s (.c (.p (PV.agg [.row 2 0 qc, .row 2 0 qc1]))), .s (.c (.p (PV.row 0 0 qs)))] []
def r127 (l : List PV) : R := some ([.c (.p (PV.row 0 0 l))], [])
def R127 (x0 : R) (K0 : List PV → R) : R := x0.bind fun q0 => bif lensB q0.2 [] && lensS q0.1 [.c (.p (.row 0))] then (cRow (resAt q0.1 0) 0).bind fun l => K0 l else none
@[simp] theorem R127_r (l : List PV) (K0 : List PV → R) : R127 (r127 l) K0 = K0 l := by kernel_rfl
def L127_1 (k n : Nat) (qs : List PV) (outLen : Nat) (t13 : List PV) (t14 t15 n1 n11 : Int) (l l1 xs : List PV) : R := evLoopAt P E T k 127 127 [] [1, 1, 0, 1, 0] [] n ⟨mkT 31 [(2, .s (.c (.p (PV.row 0 0 qs)))), (3, .s (.c (.bptr 0 0))), (7, .s (.c (.loc 1 0 0 0 outLen))), (13, .s (.c (.p (PV.row 2 0 t13)))), (14, .s (.c (.p (PV.int .i64 t14)))), (15, .s (.c (.p (PV.int .i64 t15))))], [.box [.p (PV.int .i64 n1), .p (PV.int .i64 n11), .p (PV.row 2 0 l), .p (PV.row 2 0 l1)], .arr 64 0 0 false xs]⟩

def c130 (k : Nat) (wide : Int) (t state : List PV) : R := evF P E T k 130 [.s (.c (.p (PV.int .i64 wide))), .s (.c (.p (PV.row 2 0 t))), .s (.c (.p (PV.row 0 0 state)))] []
def r130 (qr : Int) : R := some ([.c (.p (PV.int .u64 qr))], [])
def R130 (x0 : R) (K0 : Int → R) : R := x0.bind fun q0 => bif lensB q0.2 [] && lensS q0.1 [.c (.p (.int .u64))] then (cInt (resAt q0.1 0) .u64).bind fun qr => K0 qr else none
@[simp] theorem R130_r (qr : Int) (K0 : Int → R) : R130 (r130 qr) K0 = K0 qr := by kernel_rfl
def L130_1 (k n : Nat) (wide : Int) (state : List PV) (stackLen : Nat) (t12 : List PV) (t13 t14 : Int) (xs : List PV) : R := evLoopAt P E T k 130 130 [] [1, 1, 0, 1, 0] [] n ⟨mkT 87 [(0, .s (.c (.p (PV.int .i64 wide)))), (2, .s (.c (.p (PV.row 0 0 state)))), (7, .s (.c (.loc 0 0 0 0 stackLen))), (12, .s (.c (.p (PV.row 2 0 t12)))), (13, .s (.c (.p (PV.int .i64 t13)))), (14, .s (.c (.p (PV.int .i64 t14))))], [.arr 64 0 0 false xs]⟩

def c131 (k : Nat) (wide : Int) : R := evF P E T k 131 [.s (.c (.p (PV.int .i64 wide)))] []
def r131 (qr : Int) : R := some ([.c (.p (PV.int .u64 qr))], [])
def R131 (x0 : R) (K0 : Int → R) : R := x0.bind fun q0 => bif lensB q0.2 [] && lensS q0.1 [.c (.p (.int .u64))] then (cInt (resAt q0.1 0) .u64).bind fun qr => K0 qr else none
@[simp] theorem R131_r (qr : Int) (K0 : Int → R) : R131 (r131 qr) K0 = K0 qr := by kernel_rfl

def c132 (k : Nat) (p p1 : Int) (p2 p3 : List PV) : R := evF P E T k 132 [.s (.c (.p (PV.agg [.int .i64 p, .int .i64 p1, .row 2 0 p2, .row 2 0 p3])))] []
def r132 (b : Bool) : R := some ([.c (.p (PV.bool b))], [])
def R132 (x0 : R) (K0 : Bool → R) : R := x0.bind fun q0 => bif lensB q0.2 [] && lensS q0.1 [.c (.p (.bool))] then (cBool (resAt q0.1 0)).bind fun b => K0 b else none
@[simp] theorem R132_r (b : Bool) (K0 : Bool → R) : R132 (r132 b) K0 = K0 b := by kernel_rfl

def c133 (k : Nat) (p p1 : Int) (p2 p3 : List PV) : R := evF P E T k 133 [.s (.c (.p (PV.agg [.int .i64 p, .int .i64 p1, .row 2 0 p2, .row 2 0 p3])))] []
def r133 (l : List PV) : R := some ([.c (.p (PV.row 0 0 l))], [])
def R133 (x0 : R) (K0 : List PV → R) : R := x0.bind fun q0 => bif lensB q0.2 [] && lensS q0.1 [.c (.p (.row 0))] then (cRow (resAt q0.1 0) 0).bind fun l => K0 l else none
@[simp] theorem R133_r (l : List PV) (K0 : List PV → R) : R133 (r133 l) K0 = K0 l := by kernel_rfl
def L133_1 (k n : Nat) (outLen : Nat) (t7 t8 n1 n11 : Int) (l l1 xs : List PV) : R := evLoopAt P E T k 133 133 [] [1, 1, 0, 1, 0] [] n ⟨mkT 19 [(1, .s (.c (.bptr 0 0))), (3, .s (.c (.loc 1 0 0 0 outLen))), (7, .s (.c (.p (PV.int .i64 t7)))), (8, .s (.c (.p (PV.int .i64 t8))))], [.box [.p (PV.int .i64 n1), .p (PV.int .i64 n11), .p (PV.row 2 0 l), .p (PV.row 2 0 l1)], .arr 28 0 0 false xs]⟩

def c134 (k : Nat) (wide vars deep : Int) (l : List PV) (n1 n11 : Int) : R := evF P E T k 134 [.s (.c (.bptr 0 0)), .s (.c (.p (PV.int .i64 wide))), .s (.c (.p (PV.int .i64 vars))), .s (.c (.p (PV.int .i64 deep)))] [[.p (PV.row 0 0 l), .p (PV.int .i64 n1), .p (PV.int .u64 n11)]]
def r134 (l : List PV) (qr qr1 : Int) (l1 : List PV) : R := some ([.c (.own 96 2 l1)], [[.p (PV.row 0 0 l), .p (PV.int .i64 qr), .p (PV.int .u64 qr1)]])
def R134 (x0 : R) (K0 : List PV → Int → Int → List PV → R) : R := x0.bind fun q0 => bif lensB q0.2 [[.p (.row 0), .p (.int .i64), .p (.int .u64)]] && lensS q0.1 [.c (.own 96 2)] then (cRow (cellAt q0.2 0 0) 0).bind fun l => (cInt (cellAt q0.2 0 1) .i64).bind fun qr => (cInt (cellAt q0.2 0 2) .u64).bind fun qr1 => (asOwn 96 2 (resAt q0.1 0)).bind fun l1 => K0 l qr qr1 l1 else none
@[simp] theorem R134_r (l : List PV) (qr qr1 : Int) (l1 : List PV) (K0 : List PV → Int → Int → List PV → R) : R134 (r134 l qr qr1 l1) K0 = K0 l qr qr1 l1 := by kernel_rfl

def c135 (k : Nat) (n1 : Int) : R := evF P E T k 135 [.s (.c (.p (PV.int .i64 n1)))] []
def r135 (qr : Int) : R := some ([.c (.p (PV.int .i64 qr))], [])
def R135 (x0 : R) (K0 : Int → R) : R := x0.bind fun q0 => bif lensB q0.2 [] && lensS q0.1 [.c (.p (.int .i64))] then (cInt (resAt q0.1 0) .i64).bind fun qr => K0 qr else none
@[simp] theorem R135_r (qr : Int) (K0 : Int → R) : R135 (r135 qr) K0 = K0 qr := by kernel_rfl

def c136 (k : Nat) (wide vars : Int) (t : List PV) (kind : Int) : R := evF P E T k 136 [.s (.c (.p (PV.int .i64 wide))), .s (.c (.p (PV.int .i64 vars))), .s (.c (.p (PV.row 2 0 t))), .s (.c (.p (PV.int .i64 kind)))] []
def r136 (b : Bool) : R := some ([.c (.p (PV.bool b))], [])
def R136 (x0 : R) (K0 : Bool → R) : R := x0.bind fun q0 => bif lensB q0.2 [] && lensS q0.1 [.c (.p (.bool))] then (cBool (resAt q0.1 0)).bind fun b => K0 b else none
@[simp] theorem R136_r (b : Bool) (K0 : Bool → R) : R136 (r136 b) K0 = K0 b := by kernel_rfl

def c137 (k : Nat) (wide vars : Int) (t : List PV) : R := evF P E T k 137 [.s (.c (.p (PV.int .i64 wide))), .s (.c (.p (PV.int .i64 vars))), .s (.c (.p (PV.row 2 0 t)))] []
def r137 (qr : Int) : R := some ([.c (.p (PV.int .i64 qr))], [])
def R137 (x0 : R) (K0 : Int → R) : R := x0.bind fun q0 => bif lensB q0.2 [] && lensS q0.1 [.c (.p (.int .i64))] then (cInt (resAt q0.1 0) .i64).bind fun qr => K0 qr else none
@[simp] theorem R137_r (qr : Int) (K0 : Int → R) : R137 (r137 qr) K0 = K0 qr := by kernel_rfl
def L137_1 (k n : Nat) (wide vars : Int) (pileLen : Nat) (t27 : List PV) (t28 t29 : Int) (xs : List PV) : R := evLoopAt P E T k 137 137 [] [1, 1, 1, 0, 1, 0] [] n ⟨mkT 83 [(0, .s (.c (.p (PV.int .i64 wide)))), (1, .s (.c (.p (PV.int .i64 vars)))), (7, .s (.c (.loc 0 0 0 0 pileLen))), (27, .s (.c (.p (PV.row 2 0 t27)))), (28, .s (.c (.p (PV.int .i64 t28)))), (29, .s (.c (.p (PV.int .i64 t29))))], [.arr 3 0 0 false xs]⟩
def L137_2 (k n1 n : Nat) (wide vars : Int) (pileLen : Nat) (many part own : Int) (t27 : List PV) (t28 t29 : Int) (xs : List PV) : R := evLoopAt P E T k 137 137 [] [1, 1, 1, 0, 1, 0, 0, 1, 1, 0, 0, 1, 1, 1, 0, 0] [n1] n ⟨mkT 83 [(0, .s (.c (.p (PV.int .i64 wide)))), (1, .s (.c (.p (PV.int .i64 vars)))), (7, .s (.c (.loc 0 0 0 0 pileLen))), (10, .s (.c (.p (PV.int .i64 many)))), (11, .s (.c (.p (PV.int .i64 part)))), (12, .s (.c (.p (PV.int .i64 own)))), (27, .s (.c (.p (PV.row 2 0 t27)))), (28, .s (.c (.p (PV.int .i64 t28)))), (29, .s (.c (.p (PV.int .i64 t29))))], [.arr 3 0 0 false xs]⟩

def c138 (k : Nat) (l : List PV) (n1 : Int) : R := evF P E T k 138 [.s (.c (.p (PV.row 0 0 l))), .s (.c (.p (PV.int .i64 n1)))] []
def r138 (b : Bool) : R := some ([.c (.p (PV.bool b))], [])
def R138 (x0 : R) (K0 : Bool → R) : R := x0.bind fun q0 => bif lensB q0.2 [] && lensS q0.1 [.c (.p (.bool))] then (cBool (resAt q0.1 0)).bind fun b => K0 b else none
@[simp] theorem R138_r (b : Bool) (K0 : Bool → R) : R138 (r138 b) K0 = K0 b := by kernel_rfl
def R138p (x0 : R) (K0 : Bool → R) : R := x0.bind fun q0 => bif q0.1.all plainS && q0.2.all (fun cs => cs.all plainC) then (bif lensB q0.2 [] && lensS q0.1 [.c (.p (.bool))] then (cBool (resAt q0.1 0)).bind fun b => K0 b else none) else none
@[simp] theorem R138p_r (b : Bool) (K0 : Bool → R) : R138p (r138 b) K0 = K0 b := by kernel_rfl
def L138_1 (k n : Nat) (n1 : Int) (t7 : List PV) (t8 t9 : Int) : R := evLoopAt P E T k 138 138 [] [1, 0, 1, 0] [] n ⟨mkT 17 [(1, .s (.c (.p (PV.int .i64 n1)))), (7, .s (.c (.p (PV.row 0 0 t7)))), (8, .s (.c (.p (PV.int .i64 t8)))), (9, .s (.c (.p (PV.int .i64 t9))))], []⟩

def c139 (k : Nat) (n1 : Int) : R := evF P E T k 139 [.s (.c (.p (PV.int .i64 n1)))] []
def r139 (b : Bool) : R := some ([.c (.p (PV.bool b))], [])
def R139 (x0 : R) (K0 : Bool → R) : R := x0.bind fun q0 => bif lensB q0.2 [] && lensS q0.1 [.c (.p (.bool))] then (cBool (resAt q0.1 0)).bind fun b => K0 b else none
@[simp] theorem R139_r (b : Bool) (K0 : Bool → R) : R139 (r139 b) K0 = K0 b := by kernel_rfl

def c140 (k : Nat) (n1 : Int) : R := evF P E T k 140 [.s (.c (.p (PV.int .i64 n1)))] []
def r140 (b : Bool) : R := some ([.c (.p (PV.bool b))], [])
def R140 (x0 : R) (K0 : Bool → R) : R := x0.bind fun q0 => bif lensB q0.2 [] && lensS q0.1 [.c (.p (.bool))] then (cBool (resAt q0.1 0)).bind fun b => K0 b else none
@[simp] theorem R140_r (b : Bool) (K0 : Bool → R) : R140 (r140 b) K0 = K0 b := by kernel_rfl

def c141 (k : Nat) (op : Int) : R := evF P E T k 141 [.s (.c (.p (PV.int .i64 op)))] []
def r141 (qr qr1 qr2 : Int) : R := some ([.c (.p (PV.int .i64 qr)), .c (.p (PV.int .i64 qr1)), .c (.p (PV.int .i64 qr2))], [])
def R141 (x0 : R) (K0 : Int → Int → Int → R) : R := x0.bind fun q0 => bif lensB q0.2 [] && lensS q0.1 [.c (.p (.int .i64)), .c (.p (.int .i64)), .c (.p (.int .i64))] then (cInt (resAt q0.1 0) .i64).bind fun qr => (cInt (resAt q0.1 1) .i64).bind fun qr1 => (cInt (resAt q0.1 2) .i64).bind fun qr2 => K0 qr qr1 qr2 else none
@[simp] theorem R141_r (qr qr1 qr2 : Int) (K0 : Int → Int → Int → R) : R141 (r141 qr qr1 qr2) K0 = K0 qr qr1 qr2 := by kernel_rfl

def c142 (k : Nat) (wide vars x x1 : Int) : R := evF P E T k 142 [.s (.c (.p (PV.int .i64 wide))), .s (.c (.p (PV.int .i64 vars))), .s (.c (.p (PV.agg [.int .i64 x, .int .u64 x1])))] []
def r142 (b : Bool) : R := some ([.c (.p (PV.bool b))], [])
def R142 (x0 : R) (K0 : Bool → R) : R := x0.bind fun q0 => bif lensB q0.2 [] && lensS q0.1 [.c (.p (.bool))] then (cBool (resAt q0.1 0)).bind fun b => K0 b else none
@[simp] theorem R142_r (b : Bool) (K0 : Bool → R) : R142 (r142 b) K0 = K0 b := by kernel_rfl

def c143 (k : Nat) (own n1 : Int) : R := evF P E T k 143 [.s (.c (.p (PV.int .i64 own))), .s (.c (.bptr 0 0))] [[.p (PV.int .i64 n1)]]
def r143 (qr : Int) (b : Bool) : R := some ([.c (.p (PV.bool b))], [[.p (PV.int .i64 qr)]])
def R143 (x0 : R) (K0 : Int → Bool → R) : R := x0.bind fun q0 => bif lensB q0.2 [[.p (.int .i64)]] && lensS q0.1 [.c (.p (.bool))] then (cInt (cellAt q0.2 0 0) .i64).bind fun qr => (cBool (resAt q0.1 0)).bind fun b => K0 qr b else none
@[simp] theorem R143_r (qr : Int) (b : Bool) (K0 : Int → Bool → R) : R143 (r143 qr b) K0 = K0 qr b := by kernel_rfl

def c148 (k : Nat) (v : List PV) (class1 : Int) : R := evF P E T k 148 [.s (.c (.p (PV.agg [.row 0 0 v]))), .s (.c (.p (PV.int .i64 class1)))] []
def r148 (l : List PV) : R := some ([.c (.p (PV.row 0 0 l))], [])
def R148 (x0 : R) (K0 : List PV → R) : R := x0.bind fun q0 => bif lensB q0.2 [] && lensS q0.1 [.c (.p (.row 0))] then (cRow (resAt q0.1 0) 0).bind fun l => K0 l else none
@[simp] theorem R148_r (l : List PV) (K0 : List PV → R) : R148 (r148 l) K0 = K0 l := by kernel_rfl
def L148_1 (k n : Nat) (class1 : Int) (outLen : Nat) (t9 : List PV) (t10 t11 : Int) (xs : List PV) : R := evLoopAt P E T k 148 148 [] [1, 1, 0, 1, 0] [] n ⟨mkT 25 [(1, .s (.c (.p (PV.int .i64 class1)))), (5, .s (.c (.loc 0 0 0 0 outLen))), (9, .s (.c (.p (PV.row 0 0 t9)))), (10, .s (.c (.p (PV.int .i64 t10)))), (11, .s (.c (.p (PV.int .i64 t11))))], [.arr 3 0 0 false xs]⟩

def c149 (k : Nat) (p p1 : Int) (p2 p3 some1 : List PV) : R := evF P E T k 149 [.s (.c (.p (PV.agg [.int .i64 p, .int .i64 p1, .row 2 0 p2, .row 2 0 p3]))), .s (.c (.p (PV.row 0 0 some1)))] []
def r149 (l : List PV) : R := some ([.c (.p (PV.row 0 0 l))], [])
def R149 (x0 : R) (K0 : List PV → R) : R := x0.bind fun q0 => bif lensB q0.2 [] && lensS q0.1 [.c (.p (.row 0))] then (cRow (resAt q0.1 0) 0).bind fun l => K0 l else none
@[simp] theorem R149_r (l : List PV) (K0 : List PV → R) : R149 (r149 l) K0 = K0 l := by kernel_rfl
def L149_1 (k n : Nat) (outLen : Nat) (t10 : List PV) (t11 t12 n1 n11 : Int) (l l1 xs : List PV) : R := evLoopAt P E T k 149 149 [] [1, 1, 0, 1, 0] [] n ⟨mkT 30 [(2, .s (.c (.bptr 0 0))), (5, .s (.c (.loc 1 0 0 0 outLen))), (10, .s (.c (.p (PV.row 0 0 t10)))), (11, .s (.c (.p (PV.int .i64 t11)))), (12, .s (.c (.p (PV.int .i64 t12))))], [.box [.p (PV.int .i64 n1), .p (PV.int .i64 n11), .p (PV.row 2 0 l), .p (PV.row 2 0 l1)], .arr 3 0 0 false xs]⟩
def L149_2 (k n1 n : Nat) (outLen : Nat) (t10 : List PV) (t11 t12 : Int) (t18 : List PV) (t19 t20 n11 n12 : Int) (l l1 xs : List PV) : R := evLoopAt P E T k 149 149 [] [1, 1, 0, 1, 0, 0, 1, 1, 0, 0, 1, 1, 0] [n1] n ⟨mkT 30 [(2, .s (.c (.bptr 0 0))), (5, .s (.c (.loc 1 0 0 0 outLen))), (10, .s (.c (.p (PV.row 0 0 t10)))), (11, .s (.c (.p (PV.int .i64 t11)))), (12, .s (.c (.p (PV.int .i64 t12)))), (18, .s (.c (.p (PV.row 0 0 t18)))), (19, .s (.c (.p (PV.int .i64 t19)))), (20, .s (.c (.p (PV.int .i64 t20))))], [.box [.p (PV.int .i64 n11), .p (PV.int .i64 n12), .p (PV.row 2 0 l), .p (PV.row 2 0 l1)], .arr 3 0 0 false xs]⟩

def c160 (k : Nat) (qs : List PV) : R := evF P E T k 160 [.s (.c (.p (PV.row 0 0 qs)))] []
def r160 (l : List PV) : R := some ([.c (.own 3 0 l)], [])
def R160 (x0 : R) (K0 : List PV → R) : R := x0.bind fun q0 => bif lensB q0.2 [] && lensS q0.1 [.c (.own 3 0)] then (asOwn 3 0 (resAt q0.1 0)).bind fun l => K0 l else none
@[simp] theorem R160_r (l : List PV) (K0 : List PV → R) : R160 (r160 l) K0 = K0 l := by kernel_rfl

def c163 (k : Nat) (l : List PV) (n1 n11 : Int) : R := evF P E T k 163 [.s (.c (.bptr 0 0))] [[.p (PV.row 0 0 l), .p (PV.int .i64 n1), .p (PV.int .u64 n11)]]
def r163 (l : List PV) (qr qr1 qr2 : Int) : R := some ([.c (.p (PV.int .i64 qr2))], [[.p (PV.row 0 0 l), .p (PV.int .i64 qr), .p (PV.int .u64 qr1)]])
def R163 (x0 : R) (K0 : List PV → Int → Int → Int → R) : R := x0.bind fun q0 => bif lensB q0.2 [[.p (.row 0), .p (.int .i64), .p (.int .u64)]] && lensS q0.1 [.c (.p (.int .i64))] then (cRow (cellAt q0.2 0 0) 0).bind fun l => (cInt (cellAt q0.2 0 1) .i64).bind fun qr => (cInt (cellAt q0.2 0 2) .u64).bind fun qr1 => (cInt (resAt q0.1 0) .i64).bind fun qr2 => K0 l qr qr1 qr2 else none
@[simp] theorem R163_r (l : List PV) (qr qr1 qr2 : Int) (K0 : List PV → Int → Int → Int → R) : R163 (r163 l qr qr1 qr2) K0 = K0 l qr qr1 qr2 := by kernel_rfl

def c164 (k : Nat) (wide vars : Int) (l : List PV) (n1 n11 : Int) : R := evF P E T k 164 [.s (.c (.bptr 0 0)), .s (.c (.p (PV.int .i64 wide))), .s (.c (.p (PV.int .i64 vars)))] [[.p (PV.row 0 0 l), .p (PV.int .i64 n1), .p (PV.int .u64 n11)]]
def r164 (l : List PV) (qr qr1 : Int) (l1 l2 : List PV) : R := some ([.agg [.p (PV.row 2 0 l1), .own 116 2 l2]], [[.p (PV.row 0 0 l), .p (PV.int .i64 qr), .p (PV.int .u64 qr1)]])
def R164 (x0 : R) (K0 : List PV → Int → Int → List PV → List PV → R) : R := x0.bind fun q0 => bif lensB q0.2 [[.p (.row 0), .p (.int .i64), .p (.int .u64)]] && lensS q0.1 [.agg [.p (.row 2), .own 116 2]] then (cRow (cellAt q0.2 0 0) 0).bind fun l => (cInt (cellAt q0.2 0 1) .i64).bind fun qr => (cInt (cellAt q0.2 0 2) .u64).bind fun qr1 => (cRow (Dp.partAt q0.1 0 0) 2).bind fun l1 => (asOwn 116 2 (Dp.partAt q0.1 0 1)).bind fun l2 => K0 l qr qr1 l1 l2 else none
@[simp] theorem R164_r (l : List PV) (qr qr1 : Int) (l1 l2 : List PV) (K0 : List PV → Int → Int → List PV → List PV → R) : R164 (r164 l qr qr1 l1 l2) K0 = K0 l qr qr1 l1 l2 := by kernel_rfl
def L164_1 (k n : Nat) (wide vars v : Int) (l : List PV) (n1 n11 : Int) (l1 l2 : List PV) (Len Len1 : Nat) (xs xs1 : List PV) : R := evLoopAt P E T k 164 164 [3] [1, 1, 0, 1, 0] [] n ⟨mkT 35 [(0, .s (.c (.bptr 0 0))), (1, .s (.c (.p (PV.int .i64 wide)))), (2, .s (.c (.p (PV.int .i64 vars)))), (6, .s (.c (.bptr 1 0))), (7, .s (.c (.bptr 2 0))), (8, .s (.c (.p (PV.int .i64 v))))], [.box [.p (PV.row 0 0 l), .p (PV.int .i64 n1), .p (PV.int .u64 n11)], .box [.p (PV.row 2 0 l1), .p (PV.row 2 0 l2)], .box [.loc 3 0 2 0 Len, .loc 4 0 2 0 Len1], .arr 96 2 0 false xs, .arr 116 2 0 false xs1]⟩

def c165 (k : Nat) (p p1 : Int) (p2 p3 preds : List PV) : R := evF P E T k 165 [.s (.c (.p (PV.agg [.int .i64 p, .int .i64 p1, .row 2 0 p2, .row 2 0 p3]))), .s (.c (.p (PV.row 0 0 preds)))] []
def r165 (b : Bool) : R := some ([.c (.p (PV.bool b))], [])
def R165 (x0 : R) (K0 : Bool → R) : R := x0.bind fun q0 => bif lensB q0.2 [] && lensS q0.1 [.c (.p (.bool))] then (cBool (resAt q0.1 0)).bind fun b => K0 b else none
@[simp] theorem R165_r (b : Bool) (K0 : Bool → R) : R165 (r165 b) K0 = K0 b := by kernel_rfl
def L165_1 (k n : Nat) (t10 : List PV) (t11 t12 n1 n11 : Int) (l l1 : List PV) : R := evLoopAt P E T k 165 165 [] [1, 1, 0, 1, 0] [] n ⟨mkT 21 [(2, .s (.c (.bptr 0 0))), (10, .s (.c (.p (PV.row 0 0 t10)))), (11, .s (.c (.p (PV.int .i64 t11)))), (12, .s (.c (.p (PV.int .i64 t12))))], [.box [.p (PV.int .i64 n1), .p (PV.int .i64 n11), .p (PV.row 2 0 l), .p (PV.row 2 0 l1)]]⟩

def c166 (k : Nat) (p p1 : Int) (p2 p3 preds : List PV) : R := evF P E T k 166 [.s (.c (.p (PV.agg [.int .i64 p, .int .i64 p1, .row 2 0 p2, .row 2 0 p3]))), .s (.c (.p (PV.row 0 0 preds)))] []
def r166 (l : List PV) : R := some ([.agg [.own 3 0 l]], [])
def R166 (x0 : R) (K0 : List PV → R) : R := x0.bind fun q0 => bif lensB q0.2 [] && lensS q0.1 [.agg [.own 3 0]] then (asOwn 3 0 (Dp.partAt q0.1 0 0)).bind fun l => K0 l else none
@[simp] theorem R166_r (l : List PV) (K0 : List PV → R) : R166 (r166 l) K0 = K0 l := by kernel_rfl
def L166_1 (k n : Nat) (t12 : List PV) (t13 t14 n1 n11 : Int) (l l1 l2 : List PV) (Len : Nat) (xs : List PV) : R := evLoopAt P E T k 166 166 [] [1, 1, 0, 1, 0] [] n ⟨mkT 24 [(2, .s (.c (.bptr 0 0))), (4, .s (.c (.bptr 1 0))), (5, .s (.c (.bptr 2 0))), (12, .s (.c (.p (PV.row 0 0 t12)))), (13, .s (.c (.p (PV.int .i64 t13)))), (14, .s (.c (.p (PV.int .i64 t14))))], [.box [.p (PV.int .i64 n1), .p (PV.int .i64 n11), .p (PV.row 2 0 l), .p (PV.row 2 0 l1)], .box [.p (PV.row 0 0 l2)], .box [.loc 3 0 0 0 Len], .arr 3 0 0 false xs]⟩

def c167 (k : Nat) (l : List PV) (lo hi : Int) : R := evF P E T k 167 [.s (.c (.p (PV.row 0 0 l))), .s (.c (.p (PV.int .i64 lo))), .s (.c (.p (PV.int .i64 hi)))] []
def r167 (b : Bool) : R := some ([.c (.p (PV.bool b))], [])
def R167 (x0 : R) (K0 : Bool → R) : R := x0.bind fun q0 => bif lensB q0.2 [] && lensS q0.1 [.c (.p (.bool))] then (cBool (resAt q0.1 0)).bind fun b => K0 b else none
@[simp] theorem R167_r (b : Bool) (K0 : Bool → R) : R167 (r167 b) K0 = K0 b := by kernel_rfl
def L167_1 (k n : Nat) (l : List PV) (lo hi : Int) (t9 : List PV) (t10 t11 : Int) : R := evLoopAt P E T k 167 167 [] [1, 0, 1, 0] [] n ⟨mkT 35 [(0, .s (.c (.p (PV.row 0 0 l)))), (1, .s (.c (.p (PV.int .i64 lo)))), (2, .s (.c (.p (PV.int .i64 hi)))), (9, .s (.c (.p (PV.row 0 0 t9)))), (10, .s (.c (.p (PV.int .i64 t10)))), (11, .s (.c (.p (PV.int .i64 t11))))], []⟩

def c168 (k : Nat) (v some1 : List PV) : R := evF P E T k 168 [.s (.c (.p (PV.agg [.row 0 0 v]))), .s (.c (.p (PV.row 0 0 some1)))] []
def r168 (l : List PV) : R := some ([.agg [.own 3 0 l]], [])
def R168 (x0 : R) (K0 : List PV → R) : R := x0.bind fun q0 => bif lensB q0.2 [] && lensS q0.1 [.agg [.own 3 0]] then (asOwn 3 0 (Dp.partAt q0.1 0 0)).bind fun l => K0 l else none
@[simp] theorem R168_r (l : List PV) (K0 : List PV → R) : R168 (r168 l) K0 = K0 l := by kernel_rfl
def L168_1 (k n : Nat) (some1 : List PV) (keysLen : Nat) (t9 : List PV) (t10 t11 : Int) (l xs : List PV) : R := evLoopAt P E T k 168 168 [] [1, 1, 0, 1, 0] [] n ⟨mkT 33 [(1, .s (.c (.p (PV.row 0 0 some1)))), (4, .s (.c (.bptr 0 0))), (5, .s (.c (.loc 1 0 0 0 keysLen))), (9, .s (.c (.p (PV.row 0 0 t9)))), (10, .s (.c (.p (PV.int .i64 t10)))), (11, .s (.c (.p (PV.int .i64 t11))))], [.box [.p (PV.row 0 0 l)], .arr 3 0 0 false xs]⟩

def c169 (k : Nat) (p p1 : Int) (p2 p3 : List PV) : R := evF P E T k 169 [.s (.c (.p (PV.agg [.int .i64 p, .int .i64 p1, .row 2 0 p2, .row 2 0 p3])))] []
def r169 (l : List PV) : R := some ([.c (.p (PV.row 0 0 l))], [])
def R169 (x0 : R) (K0 : List PV → R) : R := x0.bind fun q0 => bif lensB q0.2 [] && lensS q0.1 [.c (.p (.row 0))] then (cRow (resAt q0.1 0) 0).bind fun l => K0 l else none
@[simp] theorem R169_r (l : List PV) (K0 : List PV → R) : R169 (r169 l) K0 = K0 l := by kernel_rfl
def L169_1 (k n : Nat) (out : List PV) (n1 n11 : Int) (l l1 : List PV) : R := evLoopAt P E T k 169 169 [] [1, 1, 0] [] n ⟨mkT 21 [(1, .s (.c (.bptr 0 0))), (3, .s (.c (.p (PV.row 0 0 out))))], [.box [.p (PV.int .i64 n1), .p (PV.int .i64 n11), .p (PV.row 2 0 l), .p (PV.row 2 0 l1)]]⟩

def c170 (k : Nat) (a b : List PV) : R := evF P E T k 170 [.s (.c (.p (PV.row 0 0 a))), .s (.c (.p (PV.row 0 0 b)))] []
def r170 (l : List PV) : R := some ([.c (.p (PV.row 0 0 l))], [])
def R170 (x0 : R) (K0 : List PV → R) : R := x0.bind fun q0 => bif lensB q0.2 [] && lensS q0.1 [.c (.p (.row 0))] then (cRow (resAt q0.1 0) 0).bind fun l => K0 l else none
@[simp] theorem R170_r (l : List PV) (K0 : List PV → R) : R170 (r170 l) K0 = K0 l := by kernel_rfl
def L170_1 (k n : Nat) (outLen : Nat) (t10 : List PV) (t11 t12 : Int) (xs : List PV) : R := evLoopAt P E T k 170 170 [] [1, 1, 0, 1, 0] [] n ⟨mkT 21 [(5, .s (.c (.loc 0 0 0 0 outLen))), (10, .s (.c (.p (PV.row 0 0 t10)))), (11, .s (.c (.p (PV.int .i64 t11)))), (12, .s (.c (.p (PV.int .i64 t12))))], [.arr 3 0 0 false xs]⟩

def c171 (k : Nat) (p p1 : Int) (p2 p3 qs : List PV) : R := evF P E T k 171 [.s (.c (.p (PV.agg [.int .i64 p, .int .i64 p1, .row 2 0 p2, .row 2 0 p3]))), .s (.c (.p (PV.row 0 0 qs)))] []
def r171 (l : List PV) : R := some ([.c (.p (PV.row 0 0 l))], [])
def R171 (x0 : R) (K0 : List PV → R) : R := x0.bind fun q0 => bif lensB q0.2 [] && lensS q0.1 [.c (.p (.row 0))] then (cRow (resAt q0.1 0) 0).bind fun l => K0 l else none
@[simp] theorem R171_r (l : List PV) (K0 : List PV → R) : R171 (r171 l) K0 = K0 l := by kernel_rfl
def L171_1 (k n : Nat) (qs : List PV) (outLen : Nat) (t9 : List PV) (t10 t11 n1 n11 : Int) (l l1 xs : List PV) : R := evLoopAt P E T k 171 171 [] [1, 1, 0, 1, 0] [] n ⟨mkT 27 [(1, .s (.c (.p (PV.row 0 0 qs)))), (2, .s (.c (.bptr 0 0))), (5, .s (.c (.loc 1 0 0 0 outLen))), (9, .s (.c (.p (PV.row 2 0 t9)))), (10, .s (.c (.p (PV.int .i64 t10)))), (11, .s (.c (.p (PV.int .i64 t11))))], [.box [.p (PV.int .i64 n1), .p (PV.int .i64 n11), .p (PV.row 2 0 l), .p (PV.row 2 0 l1)], .arr 3 0 0 false xs]⟩

def c172 (k : Nat) (p p1 : Int) (p2 p3 qs : List PV) : R := evF P E T k 172 [.s (.c (.p (PV.agg [.int .i64 p, .int .i64 p1, .row 2 0 p2, .row 2 0 p3]))), .s (.c (.p (PV.row 0 0 qs)))] []
def r172 (qr : Int) : R := some ([.c (.p (PV.int .i64 qr))], [])
def R172 (x0 : R) (K0 : Int → R) : R := x0.bind fun q0 => bif lensB q0.2 [] && lensS q0.1 [.c (.p (.int .i64))] then (cInt (resAt q0.1 0) .i64).bind fun qr => K0 qr else none
@[simp] theorem R172_r (qr : Int) (K0 : Int → R) : R172 (r172 qr) K0 = K0 qr := by kernel_rfl
def L172_1 (k n : Nat) (qs : List PV) (n1 v n11 n12 : Int) (l l1 : List PV) : R := evLoopAt P E T k 172 172 [] [1, 1, 0, 1, 0] [] n ⟨mkT 26 [(1, .s (.c (.p (PV.row 0 0 qs)))), (2, .s (.c (.bptr 0 0))), (5, .s (.c (.p (PV.int .i64 n1)))), (6, .s (.c (.p (PV.int .i64 v))))], [.box [.p (PV.int .i64 n11), .p (PV.int .i64 n12), .p (PV.row 2 0 l), .p (PV.row 2 0 l1)]]⟩

def c173 (k : Nat) (p p1 : Int) (p2 p3 qs : List PV) (k1 : Int) : R := evF P E T k 173 [.s (.c (.p (PV.agg [.int .i64 p, .int .i64 p1, .row 2 0 p2, .row 2 0 p3]))), .s (.c (.p (PV.row 0 0 qs))), .s (.c (.p (PV.int .i64 k1)))] []
def r173 (l : List PV) : R := some ([.c (.p (PV.row 0 0 l))], [])
def R173 (x0 : R) (K0 : List PV → R) : R := x0.bind fun q0 => bif lensB q0.2 [] && lensS q0.1 [.c (.p (.row 0))] then (cRow (resAt q0.1 0) 0).bind fun l => K0 l else none
@[simp] theorem R173_r (l : List PV) (K0 : List PV → R) : R173 (r173 l) K0 = K0 l := by kernel_rfl
def L173_1 (k n : Nat) (qs : List PV) (outLen : Nat) (t18 : List PV) (t19 t20 n1 n11 : Int) (l l1 xs : List PV) : R := evLoopAt P E T k 173 173 [] [1, 1, 0, 1, 0] [] n ⟨mkT 40 [(1, .s (.c (.p (PV.row 0 0 qs)))), (3, .s (.c (.bptr 0 0))), (7, .s (.c (.loc 1 0 0 0 outLen))), (18, .s (.c (.p (PV.row 2 0 t18)))), (19, .s (.c (.p (PV.int .i64 t19)))), (20, .s (.c (.p (PV.int .i64 t20))))], [.box [.p (PV.int .i64 n1), .p (PV.int .i64 n11), .p (PV.row 2 0 l), .p (PV.row 2 0 l1)], .arr 64 0 0 false xs]⟩

def c174 (k : Nat) (p p1 : Int) (p2 p3 : List PV) : R := evF P E T k 174 [.s (.c (.p (PV.agg [.int .i64 p, .int .i64 p1, .row 2 0 p2, .row 2 0 p3])))] []
def r174 (b : Bool) : R := some ([.c (.p (PV.bool b))], [])
def R174 (x0 : R) (K0 : Bool → R) : R := x0.bind fun q0 => bif lensB q0.2 [] && lensS q0.1 [.c (.p (.bool))] then (cBool (resAt q0.1 0)).bind fun b => K0 b else none
@[simp] theorem R174_r (b : Bool) (K0 : Bool → R) : R174 (r174 b) K0 = K0 b := by kernel_rfl
def L174_1 (k n : Nat) (t18 : List PV) (t19 t20 n1 n11 : Int) (l l1 : List PV) : R := evLoopAt P E T k 174 174 [] [1, 1, 0, 1, 0] [] n ⟨mkT 29 [(1, .s (.c (.bptr 0 0))), (18, .s (.c (.p (PV.row 2 0 t18)))), (19, .s (.c (.p (PV.int .i64 t19)))), (20, .s (.c (.p (PV.int .i64 t20))))], [.box [.p (PV.int .i64 n1), .p (PV.int .i64 n11), .p (PV.row 2 0 l), .p (PV.row 2 0 l1)]]⟩

def c175 (k : Nat) (x : List PV) : R := evF P E T k 175 [.s (.c (.p (PV.row 0 0 x)))] []
def r175 (qr : Int) : R := some ([.c (.p (PV.int .i64 qr))], [])
def R175 (x0 : R) (K0 : Int → R) : R := x0.bind fun q0 => bif lensB q0.2 [] && lensS q0.1 [.c (.p (.int .i64))] then (cInt (resAt q0.1 0) .i64).bind fun qr => K0 qr else none
@[simp] theorem R175_r (qr : Int) (K0 : Int → R) : R175 (r175 qr) K0 = K0 qr := by kernel_rfl
def L175_1 (k n : Nat) (x : List PV) (m i : Int) : R := evLoopAt P E T k 175 175 [] [1, 1, 1, 0, 1, 0] [] n ⟨mkT 25 [(0, .s (.c (.p (PV.row 0 0 x)))), (3, .s (.c (.p (PV.int .i64 m)))), (4, .s (.c (.p (PV.int .i64 i))))], []⟩

def c176 (k : Nat) (wide : Int) (t : List PV) (k1 : Int) (state : List PV) : R := evF P E T k 176 [.s (.c (.p (PV.int .i64 wide))), .s (.c (.p (PV.row 2 0 t))), .s (.c (.p (PV.int .i64 k1))), .s (.c (.p (PV.row 0 0 state)))] []
def r176 (qr : Int) : R := some ([.c (.p (PV.int .u64 qr))], [])
def R176 (x0 : R) (K0 : Int → R) : R := x0.bind fun q0 => bif lensB q0.2 [] && lensS q0.1 [.c (.p (.int .u64))] then (cInt (resAt q0.1 0) .u64).bind fun qr => K0 qr else none
@[simp] theorem R176_r (qr : Int) (K0 : Int → R) : R176 (r176 qr) K0 = K0 qr := by kernel_rfl

def c177 (k : Nat) (g some1 : List PV) : R := evF P E T k 177 [.s (.c (.p (PV.row 0 0 g))), .s (.c (.p (PV.row 0 0 some1)))] []
def r177 (l : List PV) : R := some ([.c (.p (PV.row 0 0 l))], [])
def R177 (x0 : R) (K0 : List PV → R) : R := x0.bind fun q0 => bif lensB q0.2 [] && lensS q0.1 [.c (.p (.row 0))] then (cRow (resAt q0.1 0) 0).bind fun l => K0 l else none
@[simp] theorem R177_r (l : List PV) (K0 : List PV → R) : R177 (r177 l) K0 = K0 l := by kernel_rfl
def L177_1 (k n : Nat) (g : List PV) (stepsLen openLen : Nat) (t17 : List PV) (t18 t19 : Int) (xs xs1 : List PV) : R := evLoopAt P E T k 177 177 [] [1, 1, 1, 0, 1, 0] [] n ⟨mkT 64 [(0, .s (.c (.p (PV.row 0 0 g)))), (5, .s (.c (.loc 0 0 0 0 stepsLen))), (6, .s (.c (.loc 1 0 0 0 openLen))), (17, .s (.c (.p (PV.row 0 0 t17)))), (18, .s (.c (.p (PV.int .i64 t18)))), (19, .s (.c (.p (PV.int .i64 t19))))], [.arr 3 0 0 false xs, .arr 3 0 0 false xs1]⟩
def L177_2 (k n : Nat) (g : List PV) (stepsLen openLen : Nat) (xs xs1 : List PV) : R := evLoopAt P E T k 177 177 [] [1, 1, 1, 1, 0, 0] [] n ⟨mkT 64 [(0, .s (.c (.p (PV.row 0 0 g)))), (5, .s (.c (.loc 0 0 0 0 stepsLen))), (6, .s (.c (.loc 1 0 0 0 openLen)))], [.arr 3 0 0 false xs, .arr 3 0 0 false xs1]⟩
def L177_3 (k n1 n : Nat) (g : List PV) (stepsLen openLen : Nat) (t37 : List PV) (t38 t39 : Int) (xs xs1 : List PV) : R := evLoopAt P E T k 177 177 [] [1, 1, 1, 1, 0, 0, 0, 1, 0, 0, 1, 0] [n1] n ⟨mkT 64 [(0, .s (.c (.p (PV.row 0 0 g)))), (5, .s (.c (.loc 0 0 0 0 stepsLen))), (6, .s (.c (.loc 1 0 0 0 openLen))), (37, .s (.c (.p (PV.row 0 0 t37)))), (38, .s (.c (.p (PV.int .i64 t38)))), (39, .s (.c (.p (PV.int .i64 t39))))], [.arr 3 0 0 false xs, .arr 3 0 0 false xs1]⟩
def L177_4 (k n : Nat) (g : List PV) (stepsLen openLo openLen : Nat) (xs xs1 : List PV) : R := evLoopAt P E T k 177 177 [] [1, 1, 1, 1, 0, 0] [] n ⟨mkT 64 [(0, .s (.c (.p (PV.row 0 0 g)))), (5, .s (.c (.loc 0 0 0 0 stepsLen))), (6, .s (.c (.loc 1 0 0 openLo openLen)))], [.arr 3 0 0 false xs, .arr 3 0 0 false xs1]⟩
def L177_5 (k n1 n : Nat) (g : List PV) (stepsLen openLo openLen : Nat) (t37 : List PV) (t38 t39 : Int) (xs xs1 : List PV) : R := evLoopAt P E T k 177 177 [] [1, 1, 1, 1, 0, 0, 0, 1, 0, 0, 1, 0] [n1] n ⟨mkT 64 [(0, .s (.c (.p (PV.row 0 0 g)))), (5, .s (.c (.loc 0 0 0 0 stepsLen))), (6, .s (.c (.loc 1 0 0 openLo openLen))), (37, .s (.c (.p (PV.row 0 0 t37)))), (38, .s (.c (.p (PV.int .i64 t38)))), (39, .s (.c (.p (PV.int .i64 t39))))], [.arr 3 0 0 false xs, .arr 3 0 0 false xs1]⟩

def c178 (k : Nat) (next from1 : List PV) : R := evF P E T k 178 [.s (.c (.p (PV.row 0 0 next))), .s (.c (.p (PV.row 0 0 from1)))] []
def r178 (l : List PV) : R := some ([.c (.p (PV.row 0 0 l))], [])
def R178 (x0 : R) (K0 : List PV → R) : R := x0.bind fun q0 => bif lensB q0.2 [] && lensS q0.1 [.c (.p (.row 0))] then (cRow (resAt q0.1 0) 0).bind fun l => K0 l else none
@[simp] theorem R178_r (l : List PV) (K0 : List PV → R) : R178 (r178 l) K0 = K0 l := by kernel_rfl
def L178_1 (k n : Nat) (next from1 : List PV) (outLen : Nat) (t17 t18 : Int) (xs : List PV) : R := evLoopAt P E T k 178 178 [] [1, 1, 0, 1, 0] [] n ⟨mkT 73 [(0, .s (.c (.p (PV.row 0 0 next)))), (1, .s (.c (.p (PV.row 0 0 from1)))), (5, .s (.c (.loc 0 0 0 0 outLen))), (17, .s (.c (.p (PV.int .i64 t17)))), (18, .s (.c (.p (PV.int .i64 t18))))], [.arr 3 0 0 false xs]⟩
def L178_2 (k n : Nat) (next from1 : List PV) (outLen : Nat) (t25 : List PV) (t26 t27 : Int) (xs : List PV) : R := evLoopAt P E T k 178 178 [] [1, 1, 1, 0, 1, 0] [] n ⟨mkT 73 [(0, .s (.c (.p (PV.row 0 0 next)))), (1, .s (.c (.p (PV.row 0 0 from1)))), (5, .s (.c (.loc 0 0 0 0 outLen))), (25, .s (.c (.p (PV.row 0 0 t25)))), (26, .s (.c (.p (PV.int .i64 t26)))), (27, .s (.c (.p (PV.int .i64 t27))))], [.arr 3 0 0 false xs]⟩
def L178_3 (k n : Nat) (next : List PV) (outLen rowLen : Nat) (xs xs1 : List PV) : R := evLoopAt P E T k 178 178 [] [1, 1, 1, 1, 1, 0, 0] [] n ⟨mkT 73 [(0, .s (.c (.p (PV.row 0 0 next)))), (5, .s (.c (.loc 0 0 0 0 outLen))), (9, .s (.c (.loc 1 0 0 0 rowLen)))], [.arr 3 0 0 false xs, .arr 3 0 0 false xs1]⟩
def L178_4 (k n1 n : Nat) (next : List PV) (outLen rowLo rowLen : Nat) (k1 : Int) (t48 : List PV) (t49 t50 : Int) (xs xs1 : List PV) : R := evLoopAt P E T k 178 178 [] [1, 1, 1, 1, 1, 0, 0, 0, 1, 0, 1, 1, 1, 0] [n1] n ⟨mkT 73 [(0, .s (.c (.p (PV.row 0 0 next)))), (5, .s (.c (.loc 0 0 0 0 outLen))), (9, .s (.c (.loc 1 0 0 rowLo rowLen))), (10, .s (.c (.p (PV.int .i64 k1)))), (48, .s (.c (.p (PV.row 0 0 t48)))), (49, .s (.c (.p (PV.int .i64 t49)))), (50, .s (.c (.p (PV.int .i64 t50))))], [.arr 3 0 0 false xs, .arr 3 0 0 false xs1]⟩
def L178_5 (k n1 n : Nat) (next : List PV) (outLen rowLen : Nat) (k1 : Int) (t48 : List PV) (t49 t50 : Int) (xs xs1 : List PV) : R := evLoopAt P E T k 178 178 [] [1, 1, 1, 1, 1, 0, 0, 0, 1, 0, 1, 1, 1, 0] [n1] n ⟨mkT 73 [(0, .s (.c (.p (PV.row 0 0 next)))), (5, .s (.c (.loc 0 0 0 0 outLen))), (9, .s (.c (.loc 1 0 0 0 rowLen))), (10, .s (.c (.p (PV.int .i64 k1)))), (48, .s (.c (.p (PV.row 0 0 t48)))), (49, .s (.c (.p (PV.int .i64 t49)))), (50, .s (.c (.p (PV.int .i64 t50))))], [.arr 3 0 0 false xs, .arr 3 0 0 false xs1]⟩
def L178_6 (k n : Nat) (next : List PV) (outLen rowLo rowLen : Nat) (xs xs1 : List PV) : R := evLoopAt P E T k 178 178 [] [1, 1, 1, 1, 1, 0, 0] [] n ⟨mkT 73 [(0, .s (.c (.p (PV.row 0 0 next)))), (5, .s (.c (.loc 0 0 0 0 outLen))), (9, .s (.c (.loc 1 0 0 rowLo rowLen)))], [.arr 3 0 0 false xs, .arr 3 0 0 false xs1]⟩

def c179 (k : Nat) (qs : List PV) : R := evF P E T k 179 [.s (.c (.p (PV.row 0 0 qs)))] []
def r179 (l : List PV) : R := some ([.c (.own 64 0 l)], [])
def R179 (x0 : R) (K0 : List PV → R) : R := x0.bind fun q0 => bif lensB q0.2 [] && lensS q0.1 [.c (.own 64 0)] then (asOwn 64 0 (resAt q0.1 0)).bind fun l => K0 l else none
@[simp] theorem R179_r (l : List PV) (K0 : List PV → R) : R179 (r179 l) K0 = K0 l := by kernel_rfl

def c182 (k : Nat) (wide op a b : Int) : R := evF P E T k 182 [.s (.c (.p (PV.int .i64 wide))), .s (.c (.p (PV.int .i64 op))), .s (.c (.p (PV.int .u64 a))), .s (.c (.p (PV.int .u64 b)))] []
def r182 (qr : Int) : R := some ([.c (.p (PV.int .u64 qr))], [])
def R182 (x0 : R) (K0 : Int → R) : R := x0.bind fun q0 => bif lensB q0.2 [] && lensS q0.1 [.c (.p (.int .u64))] then (cInt (resAt q0.1 0) .u64).bind fun qr => K0 qr else none
@[simp] theorem R182_r (qr : Int) (K0 : Int → R) : R182 (r182 qr) K0 = K0 qr := by kernel_rfl

def c183f184 (k : Nat) (qs : List PV) (n1 n11 : Int) (l l1 : List PV) : R := evF P E T k 183 [.s (.c (.p (PV.row 2 0 qs))), .s (.c (.fn 184 [0]))] [[.p (PV.int .i64 n1), .p (PV.int .i64 n11), .p (PV.row 2 0 l), .p (PV.row 2 0 l1)]]
def r183f184 (qr qr1 : Int) (l l1 : List PV) (b : Bool) : R := some ([.c (.p (PV.bool b))], [[.p (PV.int .i64 qr), .p (PV.int .i64 qr1), .p (PV.row 2 0 l), .p (PV.row 2 0 l1)]])
def R183f184 (x0 : R) (K0 : Int → Int → List PV → List PV → Bool → R) : R := x0.bind fun q0 => bif lensB q0.2 [[.p (.int .i64), .p (.int .i64), .p (.row 2), .p (.row 2)]] && lensS q0.1 [.c (.p (.bool))] then (cInt (cellAt q0.2 0 0) .i64).bind fun qr => (cInt (cellAt q0.2 0 1) .i64).bind fun qr1 => (cRow (cellAt q0.2 0 2) 2).bind fun l => (cRow (cellAt q0.2 0 3) 2).bind fun l1 => (cBool (resAt q0.1 0)).bind fun b => K0 qr qr1 l l1 b else none
@[simp] theorem R183f184_r (qr qr1 : Int) (l l1 : List PV) (b : Bool) (K0 : Int → Int → List PV → List PV → Bool → R) : R183f184 (r183f184 qr qr1 l l1 b) K0 = K0 qr qr1 l l1 b := by kernel_rfl

def c184 (k : Nat) (qc qc1 : List PV) (n1 n11 : Int) (l l1 : List PV) : R := evF P E T k 184 [.s (.c (.p (PV.agg [.row 2 0 qc, .row 2 0 qc1]))), .s (.c (.bptr 0 0))] [[.p (PV.int .i64 n1), .p (PV.int .i64 n11), .p (PV.row 2 0 l), .p (PV.row 2 0 l1)]]
def r184 (qr qr1 : Int) (l l1 : List PV) (b : Bool) : R := some ([.c (.p (PV.bool b))], [[.p (PV.int .i64 qr), .p (PV.int .i64 qr1), .p (PV.row 2 0 l), .p (PV.row 2 0 l1)]])
def R184 (x0 : R) (K0 : Int → Int → List PV → List PV → Bool → R) : R := x0.bind fun q0 => bif lensB q0.2 [[.p (.int .i64), .p (.int .i64), .p (.row 2), .p (.row 2)]] && lensS q0.1 [.c (.p (.bool))] then (cInt (cellAt q0.2 0 0) .i64).bind fun qr => (cInt (cellAt q0.2 0 1) .i64).bind fun qr1 => (cRow (cellAt q0.2 0 2) 2).bind fun l => (cRow (cellAt q0.2 0 3) 2).bind fun l1 => (cBool (resAt q0.1 0)).bind fun b => K0 qr qr1 l l1 b else none
@[simp] theorem R184_r (qr qr1 : Int) (l l1 : List PV) (b : Bool) (K0 : Int → Int → List PV → List PV → Bool → R) : R184 (r184 qr qr1 l l1 b) K0 = K0 qr qr1 l l1 b := by kernel_rfl

def c185 (k : Nat) (p p1 : Int) (p2 p3 qc qc1 : List PV) : R := evF P E T k 185 [.s (.c (.p (PV.agg [.int .i64 p, .int .i64 p1, .row 2 0 p2, .row 2 0 p3]))), .s (.c (.p (PV.agg [.row 2 0 qc, .row 2 0 qc1])))] []
def r185 (b : Bool) : R := some ([.c (.p (PV.bool b))], [])
def R185 (x0 : R) (K0 : Bool → R) : R := x0.bind fun q0 => bif lensB q0.2 [] && lensS q0.1 [.c (.p (.bool))] then (cBool (resAt q0.1 0)).bind fun b => K0 b else none
@[simp] theorem R185_r (b : Bool) (K0 : Bool → R) : R185 (r185 b) K0 = K0 b := by kernel_rfl
def L185_1 (k n : Nat) (t13 : List PV) (t14 t15 n1 n11 : Int) (l l1 l2 l3 : List PV) : R := evLoopAt P E T k 185 185 [] [1, 1, 0, 1, 0] [] n ⟨mkT 57 [(2, .s (.c (.bptr 0 0))), (3, .s (.c (.bptr 1 0))), (13, .s (.c (.p (PV.row 2 0 t13)))), (14, .s (.c (.p (PV.int .i64 t14)))), (15, .s (.c (.p (PV.int .i64 t15))))], [.box [.p (PV.int .i64 n1), .p (PV.int .i64 n11), .p (PV.row 2 0 l), .p (PV.row 2 0 l1)], .box [.p (PV.row 2 0 l2), .p (PV.row 2 0 l3)]]⟩

def c186 (k : Nat) (wide vars deep : Int) (l : List PV) (n1 n11 : Int) : R := evF P E T k 186 [.s (.c (.bptr 0 0)), .s (.c (.p (PV.int .i64 wide))), .s (.c (.p (PV.int .i64 vars))), .s (.c (.p (PV.int .i64 deep)))] [[.p (PV.row 0 0 l), .p (PV.int .i64 n1), .p (PV.int .u64 n11)]]
def r186 (l : List PV) (qr qr1 : Int) (l1 : List PV) : R := some ([.c (.own 96 2 l1)], [[.p (PV.row 0 0 l), .p (PV.int .i64 qr), .p (PV.int .u64 qr1)]])
def R186 (x0 : R) (K0 : List PV → Int → Int → List PV → R) : R := x0.bind fun q0 => bif lensB q0.2 [[.p (.row 0), .p (.int .i64), .p (.int .u64)]] && lensS q0.1 [.c (.own 96 2)] then (cRow (cellAt q0.2 0 0) 0).bind fun l => (cInt (cellAt q0.2 0 1) .i64).bind fun qr => (cInt (cellAt q0.2 0 2) .u64).bind fun qr1 => (asOwn 96 2 (resAt q0.1 0)).bind fun l1 => K0 l qr qr1 l1 else none
@[simp] theorem R186_r (l : List PV) (qr qr1 : Int) (l1 : List PV) (K0 : List PV → Int → Int → List PV → R) : R186 (r186 l qr qr1 l1) K0 = K0 l qr qr1 l1 := by kernel_rfl

def c187 (k : Nat) (t : List PV) : R := evF P E T k 187 [.s (.c (.p (PV.row 2 0 t)))] []
def r187 (qr : Int) : R := some ([.c (.p (PV.int .i64 qr))], [])
def R187 (x0 : R) (K0 : Int → R) : R := x0.bind fun q0 => bif lensB q0.2 [] && lensS q0.1 [.c (.p (.int .i64))] then (cInt (resAt q0.1 0) .i64).bind fun qr => K0 qr else none
@[simp] theorem R187_r (qr : Int) (K0 : Int → R) : R187 (r187 qr) K0 = K0 qr := by kernel_rfl

def c188 (k : Nat) (wide : Int) : R := evF P E T k 188 [.s (.c (.p (PV.int .i64 wide)))] []
def r188 (b : Bool) : R := some ([.c (.p (PV.bool b))], [])
def R188 (x0 : R) (K0 : Bool → R) : R := x0.bind fun q0 => bif lensB q0.2 [] && lensS q0.1 [.c (.p (.bool))] then (cBool (resAt q0.1 0)).bind fun b => K0 b else none
@[simp] theorem R188_r (b : Bool) (K0 : Bool → R) : R188 (r188 b) K0 = K0 b := by kernel_rfl

def c189 (k : Nat) (op : Int) : R := evF P E T k 189 [.s (.c (.p (PV.int .i64 op)))] []
def r189 (qr qr1 qr2 : Int) : R := some ([.c (.p (PV.int .i64 qr)), .c (.p (PV.int .i64 qr1)), .c (.p (PV.int .i64 qr2))], [])
def R189 (x0 : R) (K0 : Int → Int → Int → R) : R := x0.bind fun q0 => bif lensB q0.2 [] && lensS q0.1 [.c (.p (.int .i64)), .c (.p (.int .i64)), .c (.p (.int .i64))] then (cInt (resAt q0.1 0) .i64).bind fun qr => (cInt (resAt q0.1 1) .i64).bind fun qr1 => (cInt (resAt q0.1 2) .i64).bind fun qr2 => K0 qr qr1 qr2 else none
@[simp] theorem R189_r (qr qr1 qr2 : Int) (K0 : Int → Int → Int → R) : R189 (r189 qr qr1 qr2) K0 = K0 qr qr1 qr2 := by kernel_rfl

def c190 (k : Nat) (wide vars n1 n11 : Int) : R := evF P E T k 190 [.s (.c (.p (PV.int .i64 wide))), .s (.c (.p (PV.int .i64 vars))), .s (.c (.p (PV.agg [.int .i64 n1, .int .u64 n11])))] []
def r190 (b : Bool) : R := some ([.c (.p (PV.bool b))], [])
def R190 (x0 : R) (K0 : Bool → R) : R := x0.bind fun q0 => bif lensB q0.2 [] && lensS q0.1 [.c (.p (.bool))] then (cBool (resAt q0.1 0)).bind fun b => K0 b else none
@[simp] theorem R190_r (b : Bool) (K0 : Bool → R) : R190 (r190 b) K0 = K0 b := by kernel_rfl

def c191 (k : Nat) (wide a : Int) : R := evF P E T k 191 [.s (.c (.p (PV.int .i64 wide))), .s (.c (.p (PV.int .u64 a)))] []
def r191 (b : Bool) : R := some ([.c (.p (PV.bool b))], [])
def R191 (x0 : R) (K0 : Bool → R) : R := x0.bind fun q0 => bif lensB q0.2 [] && lensS q0.1 [.c (.p (.bool))] then (cBool (resAt q0.1 0)).bind fun b => K0 b else none
@[simp] theorem R191_r (b : Bool) (K0 : Bool → R) : R191 (r191 b) K0 = K0 b := by kernel_rfl

def c194 (k : Nat) (p p1 : Int) (p2 p3 v t : List PV) : R := evF P E T k 194 [.s (.c (.p (PV.agg [.int .i64 p, .int .i64 p1, .row 2 0 p2, .row 2 0 p3]))), .s (.c (.p (PV.agg [.row 0 0 v]))), .s (.c (.p (PV.row 2 0 t)))] []
def r194 (l : List PV) : R := some ([.agg [.own 3 0 l]], [])
def R194p (x0 : R) (K0 : List PV → R) : R := x0.bind fun q0 => bif q0.1.all plainS && q0.2.all (fun cs => cs.all plainC) then (bif lensB q0.2 [] && lensS q0.1 [.agg [.own 3 0]] then (asOwn 3 0 (Dp.partAt q0.1 0 0)).bind fun l => K0 l else none) else none

def c195 (k : Nat) (keys : List PV) : R := evF P E T k 195 [.s (.c (.p (PV.row 0 0 keys)))] []
def r195 (l : List PV) : R := some ([.agg [.own 3 0 l]], [])
def R195p (x0 : R) (K0 : List PV → R) : R := x0.bind fun q0 => bif q0.1.all plainS && q0.2.all (fun cs => cs.all plainC) then (bif lensB q0.2 [] && lensS q0.1 [.agg [.own 3 0]] then (asOwn 3 0 (Dp.partAt q0.1 0 0)).bind fun l => K0 l else none) else none
def L195_1 (k n : Nat) (keys : List PV) (many : Int) (t9 : List PV) (t10 t11 : Int) (Len Len1 : Nat) (xs xs1 : List PV) : R := evLoopAt P E T k 195 195 [] [1, 1, 1, 0, 1, 0] [] n ⟨mkT 46 [(0, .s (.c (.p (PV.row 0 0 keys)))), (2, .s (.c (.bptr 0 0))), (3, .s (.c (.bptr 1 0))), (4, .s (.c (.p (PV.int .i64 many)))), (9, .s (.c (.p (PV.row 0 0 t9)))), (10, .s (.c (.p (PV.int .i64 t10)))), (11, .s (.c (.p (PV.int .i64 t11))))], [.box [.loc 2 0 0 0 Len], .box [.loc 3 0 0 0 Len1], .arr 3 0 0 false xs, .arr 3 0 0 false xs1]⟩
def L195_2 (k n1 n : Nat) (keys : List PV) (many i key class1 j : Int) (t9 : List PV) (t10 t11 : Int) (Len Len1 : Nat) (xs xs1 : List PV) : R := evLoopAt P E T k 195 195 [] [1, 1, 1, 0, 1, 0, 0, 1, 1, 0, 0, 1, 1, 0, 1, 0] [n1] n ⟨mkT 46 [(0, .s (.c (.p (PV.row 0 0 keys)))), (2, .s (.c (.bptr 0 0))), (3, .s (.c (.bptr 1 0))), (4, .s (.c (.p (PV.int .i64 many)))), (5, .s (.c (.p (PV.int .i64 i)))), (6, .s (.c (.p (PV.int .i64 key)))), (7, .s (.c (.p (PV.int .i64 class1)))), (8, .s (.c (.p (PV.int .i64 j)))), (9, .s (.c (.p (PV.row 0 0 t9)))), (10, .s (.c (.p (PV.int .i64 t10)))), (11, .s (.c (.p (PV.int .i64 t11))))], [.box [.loc 2 0 0 0 Len], .box [.loc 3 0 0 0 Len1], .arr 3 0 0 false xs, .arr 3 0 0 false xs1]⟩

def c196 (k : Nat) (l : List PV) : R := evF P E T k 196 [.s (.c (.p (PV.row 0 0 l)))] []
def r196 (l : List PV) : R := some ([.c (.own 3 0 l)], [])
def R196 (x0 : R) (K0 : List PV → R) : R := x0.bind fun q0 => bif lensB q0.2 [] && lensS q0.1 [.c (.own 3 0)] then (asOwn 3 0 (resAt q0.1 0)).bind fun l => K0 l else none
@[simp] theorem R196_r (l : List PV) (K0 : List PV → R) : R196 (r196 l) K0 = K0 l := by kernel_rfl

def c197 (k : Nat) (p p1 : Int) (p2 p3 qc qc1 : List PV) : R := evF P E T k 197 [.s (.c (.p (PV.agg [.int .i64 p, .int .i64 p1, .row 2 0 p2, .row 2 0 p3]))), .s (.c (.p (PV.agg [.row 2 0 qc, .row 2 0 qc1])))] []
def r197 (b : Bool) : R := some ([.c (.p (PV.bool b))], [])
def R197 (x0 : R) (K0 : Bool → R) : R := x0.bind fun q0 => bif lensB q0.2 [] && lensS q0.1 [.c (.p (.bool))] then (cBool (resAt q0.1 0)).bind fun b => K0 b else none
@[simp] theorem R197_r (b : Bool) (K0 : Bool → R) : R197 (r197 b) K0 = K0 b := by kernel_rfl
def L197_1 (k n : Nat) (t21 : List PV) (t22 t23 n1 n11 : Int) (l l1 l2 l3 : List PV) : R := evLoopAt P E T k 197 197 [] [1, 1, 0, 1, 0] [] n ⟨mkT 62 [(2, .s (.c (.bptr 0 0))), (3, .s (.c (.bptr 1 0))), (21, .s (.c (.p (PV.row 2 0 t21)))), (22, .s (.c (.p (PV.int .i64 t22)))), (23, .s (.c (.p (PV.int .i64 t23))))], [.box [.p (PV.int .i64 n1), .p (PV.int .i64 n11), .p (PV.row 2 0 l), .p (PV.row 2 0 l1)], .box [.p (PV.row 2 0 l2), .p (PV.row 2 0 l3)]]⟩

def c198 (k : Nat) (wide a : Int) : R := evF P E T k 198 [.s (.c (.p (PV.int .i64 wide))), .s (.c (.p (PV.int .u64 a)))] []
def r198 (qr : Int) : R := some ([.c (.p (PV.int .u64 qr))], [])
def R198 (x0 : R) (K0 : Int → R) : R := x0.bind fun q0 => bif lensB q0.2 [] && lensS q0.1 [.c (.p (.int .u64))] then (cInt (resAt q0.1 0) .u64).bind fun qr => K0 qr else none
@[simp] theorem R198_r (qr : Int) (K0 : Int → R) : R198 (r198 qr) K0 = K0 qr := by kernel_rfl
def L198_1 (k n : Nat) (wide a out k1 : Int) : R := evLoopAt P E T k 198 198 [] [1, 1, 0, 1, 0] [] n ⟨mkT 20 [(0, .s (.c (.p (PV.int .i64 wide)))), (1, .s (.c (.p (PV.int .u64 a)))), (5, .s (.c (.p (PV.int .u64 out)))), (6, .s (.c (.p (PV.int .i64 k1))))], []⟩

def c199 (k : Nat) (wide op a b : Int) : R := evF P E T k 199 [.s (.c (.p (PV.int .i64 wide))), .s (.c (.p (PV.int .i64 op))), .s (.c (.p (PV.int .u64 a))), .s (.c (.p (PV.int .u64 b)))] []
def r199 (qr : Int) : R := some ([.c (.p (PV.int .u64 qr))], [])
def R199 (x0 : R) (K0 : Int → R) : R := x0.bind fun q0 => bif lensB q0.2 [] && lensS q0.1 [.c (.p (.int .u64))] then (cInt (resAt q0.1 0) .u64).bind fun qr => K0 qr else none
@[simp] theorem R199_r (qr : Int) (K0 : Int → R) : R199 (r199 qr) K0 = K0 qr := by kernel_rfl

def c200 (k : Nat) (t : List PV) (k1 : Int) : R := evF P E T k 200 [.s (.c (.p (PV.row 2 0 t))), .s (.c (.p (PV.int .i64 k1)))] []
def r200 (qr : Int) : R := some ([.c (.p (PV.int .i64 qr))], [])
def R200 (x0 : R) (K0 : Int → R) : R := x0.bind fun q0 => bif lensB q0.2 [] && lensS q0.1 [.c (.p (.int .i64))] then (cInt (resAt q0.1 0) .i64).bind fun qr => K0 qr else none
@[simp] theorem R200_r (qr : Int) (K0 : Int → R) : R200 (r200 qr) K0 = K0 qr := by kernel_rfl
def L200_1 (k n : Nat) (t : List PV) (many from1 : Int) : R := evLoopAt P E T k 200 200 [] [1, 1, 1, 0, 0] [] n ⟨mkT 29 [(0, .s (.c (.p (PV.row 2 0 t)))), (5, .s (.c (.p (PV.int .i64 many)))), (8, .s (.c (.p (PV.int .i64 from1))))], []⟩

def c201 (k : Nat) (x : List PV) (count : Int) : R := evF P E T k 201 [.s (.c (.p (PV.row 0 0 x))), .s (.c (.p (PV.int .i64 count)))] []
def r201 (l : List PV) : R := some ([.c (.own 3 0 l)], [])
def R201p (x0 : R) (K0 : List PV → R) : R := x0.bind fun q0 => bif q0.1.all plainS && q0.2.all (fun cs => cs.all plainC) then (bif lensB q0.2 [] && lensS q0.1 [.c (.own 3 0)] then (asOwn 3 0 (resAt q0.1 0)).bind fun l => K0 l else none) else none
def L201_1 (k n : Nat) (newsliceLen : Nat) (n1 : Int) (xs : List PV) : R := evLoopAt P E T k 201 201 [] [1, 1, 1, 1, 1, 1, 0, 0] [] n ⟨mkT 48 [(7, .s (.c (.loc 0 0 0 0 newsliceLen))), (8, .s (.c (.p (PV.int .i64 n1))))], [.arr 3 0 0 false xs]⟩


def c213 (k : Nat) (wide a b : Int) : R := evF P E T k 213 [.s (.c (.p (PV.int .i64 wide))), .s (.c (.p (PV.int .u64 a))), .s (.c (.p (PV.int .u64 b)))] []
def r213 (qr qr1 : Int) (b : Bool) : R := some ([.c (.p (PV.int .u64 qr)), .c (.p (PV.int .u64 qr1)), .c (.p (PV.bool b))], [])
def R213 (x0 : R) (K0 : Int → Int → Bool → R) : R := x0.bind fun q0 => bif lensB q0.2 [] && lensS q0.1 [.c (.p (.int .u64)), .c (.p (.int .u64)), .c (.p (.bool))] then (cInt (resAt q0.1 0) .u64).bind fun qr => (cInt (resAt q0.1 1) .u64).bind fun qr1 => (cBool (resAt q0.1 2)).bind fun b => K0 qr qr1 b else none
@[simp] theorem R213_r (qr qr1 : Int) (b : Bool) (K0 : Int → Int → Bool → R) : R213 (r213 qr qr1 b) K0 = K0 qr qr1 b := by kernel_rfl

def c214 (k : Nat) (wide a by1 : Int) (left : Bool) : R := evF P E T k 214 [.s (.c (.p (PV.int .i64 wide))), .s (.c (.p (PV.int .u64 a))), .s (.c (.p (PV.int .u64 by1))), .s (.c (.p (PV.bool left)))] []
def r214 (qr : Int) : R := some ([.c (.p (PV.int .u64 qr))], [])
def R214 (x0 : R) (K0 : Int → R) : R := x0.bind fun q0 => bif lensB q0.2 [] && lensS q0.1 [.c (.p (.int .u64))] then (cInt (resAt q0.1 0) .u64).bind fun qr => K0 qr else none
@[simp] theorem R214_r (qr : Int) (K0 : Int → R) : R214 (r214 qr) K0 = K0 qr := by kernel_rfl

def c215 (k : Nat) (holds : Bool) : R := evF P E T k 215 [.s (.c (.p (PV.bool holds)))] []
def r215 (qr : Int) : R := some ([.c (.p (PV.int .u64 qr))], [])
def R215 (x0 : R) (K0 : Int → R) : R := x0.bind fun q0 => bif lensB q0.2 [] && lensS q0.1 [.c (.p (.int .u64))] then (cInt (resAt q0.1 0) .u64).bind fun qr => K0 qr else none
@[simp] theorem R215_r (qr : Int) (K0 : Int → R) : R215 (r215 qr) K0 = K0 qr := by kernel_rfl

def c216 (k : Nat) (wide a : Int) : R := evF P E T k 216 [.s (.c (.p (PV.int .i64 wide))), .s (.c (.p (PV.int .u64 a)))] []
def r216 (qr : Int) : R := some ([.c (.p (PV.int .i64 qr))], [])
def R216 (x0 : R) (K0 : Int → R) : R := x0.bind fun q0 => bif lensB q0.2 [] && lensS q0.1 [.c (.p (.int .i64))] then (cInt (resAt q0.1 0) .i64).bind fun qr => K0 qr else none
@[simp] theorem R216_r (qr : Int) (K0 : Int → R) : R216 (r216 qr) K0 = K0 qr := by kernel_rfl

def c217f184 (k : Nat) (qs : List PV) (n1 n11 : Int) (l l1 : List PV) : R := evF P E T k 217 [.s (.c (.p (PV.row 2 0 qs))), .s (.c (.fn 184 [0]))] [[.p (PV.int .i64 n1), .p (PV.int .i64 n11), .p (PV.row 2 0 l), .p (PV.row 2 0 l1)]]
def r217f184 (qr qr1 : Int) (l l1 : List PV) (qr2 : Int) : R := some ([.c (.p (PV.int .i64 qr2))], [[.p (PV.int .i64 qr), .p (PV.int .i64 qr1), .p (PV.row 2 0 l), .p (PV.row 2 0 l1)]])
def R217f184 (x0 : R) (K0 : Int → Int → List PV → List PV → Int → R) : R := x0.bind fun q0 => bif lensB q0.2 [[.p (.int .i64), .p (.int .i64), .p (.row 2), .p (.row 2)]] && lensS q0.1 [.c (.p (.int .i64))] then (cInt (cellAt q0.2 0 0) .i64).bind fun qr => (cInt (cellAt q0.2 0 1) .i64).bind fun qr1 => (cRow (cellAt q0.2 0 2) 2).bind fun l => (cRow (cellAt q0.2 0 3) 2).bind fun l1 => (cInt (resAt q0.1 0) .i64).bind fun qr2 => K0 qr qr1 l l1 qr2 else none
@[simp] theorem R217f184_r (qr qr1 : Int) (l l1 : List PV) (qr2 : Int) (K0 : Int → Int → List PV → List PV → Int → R) : R217f184 (r217f184 qr qr1 l l1 qr2) K0 = K0 qr qr1 l l1 qr2 := by kernel_rfl
def L217f184_1 (k n : Nat) (qs : List PV) (t7 t8 n1 n11 : Int) (l l1 : List PV) : R := evLoopAt P E T k 217 185217 [4] [1, 0, 1, 0] [] n ⟨mkT 19 [(0, .s (.c (.p (PV.row 2 0 qs)))), (1, .s (.c (.fn 184 [0]))), (7, .s (.c (.p (PV.int .i64 t7)))), (8, .s (.c (.p (PV.int .i64 t8))))], [.box [.p (PV.int .i64 n1), .p (PV.int .i64 n11), .p (PV.row 2 0 l), .p (PV.row 2 0 l1)]]⟩

def c218 (k : Nat) (wide a : Int) : R := evF P E T k 218 [.s (.c (.p (PV.int .i64 wide))), .s (.c (.p (PV.int .u64 a)))] []
def r218 (b : Bool) : R := some ([.c (.p (PV.bool b))], [])
def R218 (x0 : R) (K0 : Bool → R) : R := x0.bind fun q0 => bif lensB q0.2 [] && lensS q0.1 [.c (.p (.bool))] then (cBool (resAt q0.1 0)).bind fun b => K0 b else none
@[simp] theorem R218_r (b : Bool) (K0 : Bool → R) : R218 (r218 b) K0 = K0 b := by kernel_rfl

def c220 (k : Nat) (wide a b : Int) : R := evF P E T k 220 [.s (.c (.p (PV.int .i64 wide))), .s (.c (.p (PV.int .u64 a))), .s (.c (.p (PV.int .u64 b)))] []
def r220 (qr qr1 : Int) (b : Bool) : R := some ([.c (.p (PV.int .u64 qr)), .c (.p (PV.int .u64 qr1)), .c (.p (PV.bool b))], [])
def R220 (x0 : R) (K0 : Int → Int → Bool → R) : R := x0.bind fun q0 => bif lensB q0.2 [] && lensS q0.1 [.c (.p (.int .u64)), .c (.p (.int .u64)), .c (.p (.bool))] then (cInt (resAt q0.1 0) .u64).bind fun qr => (cInt (resAt q0.1 1) .u64).bind fun qr1 => (cBool (resAt q0.1 2)).bind fun b => K0 qr qr1 b else none
@[simp] theorem R220_r (qr qr1 : Int) (b : Bool) (K0 : Int → Int → Bool → R) : R220 (r220 qr qr1 b) K0 = K0 qr qr1 b := by kernel_rfl

def c221 (k : Nat) (wide a by1 : Int) (left : Bool) : R := evF P E T k 221 [.s (.c (.p (PV.int .i64 wide))), .s (.c (.p (PV.int .u64 a))), .s (.c (.p (PV.int .u64 by1))), .s (.c (.p (PV.bool left)))] []
def r221 (qr : Int) : R := some ([.c (.p (PV.int .u64 qr))], [])
def R221 (x0 : R) (K0 : Int → R) : R := x0.bind fun q0 => bif lensB q0.2 [] && lensS q0.1 [.c (.p (.int .u64))] then (cInt (resAt q0.1 0) .u64).bind fun qr => K0 qr else none
@[simp] theorem R221_r (qr : Int) (K0 : Int → R) : R221 (r221 qr) K0 = K0 qr := by kernel_rfl
def L221_1 (k n : Nat) (wide a by1 : Int) (left : Bool) : R := evLoopAt P E T k 221 221 [] [1, 1, 0, 0] [] n ⟨mkT 25 [(0, .s (.c (.p (PV.int .i64 wide)))), (1, .s (.c (.p (PV.int .u64 a)))), (2, .s (.c (.p (PV.int .u64 by1)))), (3, .s (.c (.p (PV.bool left))))], []⟩

def c222 (k : Nat) (is1 : Bool) : R := evF P E T k 222 [.s (.c (.p (PV.bool is1)))] []
def r222 (qr : Int) : R := some ([.c (.p (PV.int .u64 qr))], [])
def R222 (x0 : R) (K0 : Int → R) : R := x0.bind fun q0 => bif lensB q0.2 [] && lensS q0.1 [.c (.p (.int .u64))] then (cInt (resAt q0.1 0) .u64).bind fun qr => K0 qr else none
@[simp] theorem R222_r (qr : Int) (K0 : Int → R) : R222 (r222 qr) K0 = K0 qr := by kernel_rfl

def c223 (k : Nat) (wide a : Int) : R := evF P E T k 223 [.s (.c (.p (PV.int .i64 wide))), .s (.c (.p (PV.int .u64 a)))] []
def r223 (qr : Int) : R := some ([.c (.p (PV.int .i64 qr))], [])
def R223 (x0 : R) (K0 : Int → R) : R := x0.bind fun q0 => bif lensB q0.2 [] && lensS q0.1 [.c (.p (.int .i64))] then (cInt (resAt q0.1 0) .i64).bind fun qr => K0 qr else none
@[simp] theorem R223_r (qr : Int) (K0 : Int → R) : R223 (r223 qr) K0 = K0 qr := by kernel_rfl

def c224 (k : Nat) (x y : Int) : R := evF P E T k 224 [.s (.c (.p (PV.int .u64 x))), .s (.c (.p (PV.int .u64 y)))] []
def r224 (qr qr1 : Int) : R := some ([.c (.p (PV.int .u64 qr)), .c (.p (PV.int .u64 qr1))], [])
def R224 (x0 : R) (K0 : Int → Int → R) : R := x0.bind fun q0 => bif lensB q0.2 [] && lensS q0.1 [.c (.p (.int .u64)), .c (.p (.int .u64))] then (cInt (resAt q0.1 0) .u64).bind fun qr => (cInt (resAt q0.1 1) .u64).bind fun qr1 => K0 qr qr1 else none
@[simp] theorem R224_r (qr qr1 : Int) (K0 : Int → Int → R) : R224 (r224 qr qr1) K0 = K0 qr qr1 := by kernel_rfl

def c231 (k : Nat) (wide a b : Int) : R := evF P E T k 231 [.s (.c (.p (PV.int .i64 wide))), .s (.c (.p (PV.int .u64 a))), .s (.c (.p (PV.int .u64 b)))] []
def r231 (b : Bool) : R := some ([.c (.p (PV.bool b))], [])
def R231 (x0 : R) (K0 : Bool → R) : R := x0.bind fun q0 => bif lensB q0.2 [] && lensS q0.1 [.c (.p (.bool))] then (cBool (resAt q0.1 0)).bind fun b => K0 b else none
@[simp] theorem R231_r (b : Bool) (K0 : Bool → R) : R231 (r231 b) K0 = K0 b := by kernel_rfl

def c232 (k : Nat) (hi lo y : Int) : R := evF P E T k 232 [.s (.c (.p (PV.int .u64 hi))), .s (.c (.p (PV.int .u64 lo))), .s (.c (.p (PV.int .u64 y)))] []
def r232 (qr qr1 : Int) : R := some ([.c (.p (PV.int .u64 qr)), .c (.p (PV.int .u64 qr1))], [])
def R232 (x0 : R) (K0 : Int → Int → R) : R := x0.bind fun q0 => bif lensB q0.2 [] && lensS q0.1 [.c (.p (.int .u64)), .c (.p (.int .u64))] then (cInt (resAt q0.1 0) .u64).bind fun qr => (cInt (resAt q0.1 1) .u64).bind fun qr1 => K0 qr qr1 else none
@[simp] theorem R232_r (qr qr1 : Int) (K0 : Int → Int → R) : R232 (r232 qr qr1) K0 = K0 qr qr1 := by kernel_rfl
def L232_1 (k n : Nat) (y qs yn1 yn0 un32 un1 un0 q1 rhat : Int) : R := evLoopAt P E T k 232 232 [] [1, 1, 1, 1, 1, 1, 1, 1, 1, 1, 1, 1, 1, 1, 0, 0] [] n ⟨mkT 135 [(2, .s (.c (.p (PV.int .u64 y)))), (8, .s (.c (.p (PV.int .u64 qs)))), (9, .s (.c (.p (PV.int .u64 yn1)))), (10, .s (.c (.p (PV.int .u64 yn0)))), (11, .s (.c (.p (PV.int .u64 un32)))), (13, .s (.c (.p (PV.int .u64 un1)))), (14, .s (.c (.p (PV.int .u64 un0)))), (15, .s (.c (.p (PV.int .u64 q1)))), (16, .s (.c (.p (PV.int .u64 rhat))))], []⟩

def c233 (k : Nat) (wide a b : Int) : R := evF P E T k 233 [.s (.c (.p (PV.int .i64 wide))), .s (.c (.p (PV.int .u64 a))), .s (.c (.p (PV.int .u64 b)))] []
def r233 (b : Bool) : R := some ([.c (.p (PV.bool b))], [])
def R233 (x0 : R) (K0 : Bool → R) : R := x0.bind fun q0 => bif lensB q0.2 [] && lensS q0.1 [.c (.p (.bool))] then (cBool (resAt q0.1 0)).bind fun b => K0 b else none
@[simp] theorem R233_r (b : Bool) (K0 : Bool → R) : R233 (r233 b) K0 = K0 b := by kernel_rfl

def c235 (k : Nat) (x y : Int) : R := evF P E T k 235 [.s (.c (.p (PV.int .u64 x))), .s (.c (.p (PV.int .u64 y)))] []
def r235 (qr qr1 : Int) : R := some ([.c (.p (PV.int .u64 qr)), .c (.p (PV.int .u64 qr1))], [])
def R235 (x0 : R) (K0 : Int → Int → R) : R := x0.bind fun q0 => bif lensB q0.2 [] && lensS q0.1 [.c (.p (.int .u64)), .c (.p (.int .u64))] then (cInt (resAt q0.1 0) .u64).bind fun qr => (cInt (resAt q0.1 1) .u64).bind fun qr1 => K0 qr qr1 else none
@[simp] theorem R235_r (qr qr1 : Int) (K0 : Int → Int → R) : R235 (r235 qr qr1) K0 = K0 qr qr1 := by kernel_rfl

def c237 (k : Nat) (x : Int) : R := evF P E T k 237 [.s (.c (.p (PV.int .u64 x)))] []
def R237 (x0 : R) (K0 : Int → R) : R := x0.bind fun q0 => bif lensB q0.2 [] && lensS q0.1 [.c (.p (.int .i64))] then (cInt (resAt q0.1 0) .i64).bind fun qr => K0 qr else none
end
end Go.Proofs.YthoecdnmokcfbaaGreat
/- Normal forms: printed by nf.py. -/
set_option linter.unusedVariables false
set_option maxRecDepth 100000
namespace Go.Proofs.YthoecdnmokcfbaaGreat
open Go.Dp

theorem n3 (k : Nat) (code more : List PV) : c3 (k + 1) code more =
 R6 (c6 k code more) fun b1 =>
 bif b1 then
  r3 true
 else
  R7 (c7 k code) fun v1 v2 l1 l2 l3 l4 =>
  R8 (c8 k v1 v2 l1 l2 l3 l4) fun l5 b2 =>
  R9 (c9 k v1 v2 l1 l2 l3 l4) fun l6 b3 =>
  R10 (c10 k v1 v2 l1 l2 l3) fun l7 b4 =>
  R11 (c11 k v1 v2 l1 l2 l3) fun l8 b5 =>
  R12 (c12 k v1 v2 l1 l2 l3) fun l9 b6 =>
  R13 (c13 k v1 v2 l1 l2 l3) fun l10 b7 =>
  R14 (c14 k v1 v2 l1 l2 l3) fun l11 b8 =>
  R15 (c15 k v1 v2 l1 l2 l3) fun l12 b9 =>
  bif (!(b2 == b3)) then
   r3 false
  else
   R16 (c16 k l5 l6) fun b10 =>
   bif !b10 then
    r3 false
   else
    bif (!(b4 == b5)) then
     r3 false
    else
     R17 (c17 k l7 l8) fun b11 =>
     bif !b11 then
      r3 false
     else
      bif (!(b6 == b7)) then
       r3 false
      else
       R16 (c16 k l9 l10) fun b12 =>
       bif !b12 then
        r3 false
       else
        bif (!(b8 == b9)) then
         r3 false
        else
         R16 (c16 k l11 l12) fun b13 =>
         bif !b13 then
          r3 false
         else
          R18 (c18 k v1 v2 l1 l2 l4) fun b14 b15 =>
          bif b2 then
           bif b15 then
            bif b14 then
            (lookP l5 0).bind fun p1 =>
            (p1.atInt .i64 0).bind fun n1 =>
            R19 (c19 k l9 n1) fun b16 =>
            bif !b16 then
            r3 false
            else L3_1 k k l5 l11 b8 1 v1 v2 l1 l2 l3 l7
            else
            bif b8 then
            R20 (c20 k v1 v2 l1 l2) fun l13 b17 =>
            L3_2 k k l11 b17 l13 (l13.length : Int) 0 l3
            else r3 true
           else
            bif b8 then
            R20 (c20 k v1 v2 l1 l2) fun l14 b18 =>
            L3_2 k k l11 b18 l14 (l14.length : Int) 0 l3
            else r3 true
          else
           bif b8 then
            R20 (c20 k v1 v2 l1 l2) fun l15 b19 =>
            L3_2 k k l11 b19 l15 (l15.length : Int) 0 l3
           else r3 true := by kernel_rfl
theorem sL3_1 (k n : Nat) (l qr : List PV) (three : Bool) (k1 n1 n11 : Int) (l1 l2 l3 l4 : List PV) : L3_1 k (n + 1) l qr three k1 n1 n11 l1 l2 l3 l4 =
 bif decide (k1 < (l.length : Int)) then
  (lookP l (IntKind.i64.wrap (k1 - 1))).bind fun p1 =>
  (p1.atInt .i64 0).bind fun n2 =>
  (lookP l4 n2).bind fun p2 =>
  (p2.atRow 0 0).bind fun l5 =>
  (lookP l k1).bind fun p3 =>
  (p3.atInt .i64 0).bind fun n3 =>
  R19 (c19 k l5 n3) fun b1 =>
  bif !b1 then
   r3 false
  else L3_1 k n l qr three (IntKind.i64.wrap (k1 + 1)) n1 n11 l1 l2 l3 l4
 else
  bif three then
   R20 (c20 k n1 n11 l1 l2) fun l6 b2 =>
   L3_2 k k qr b2 l6 (l6.length : Int) 0 l3
  else r3 true := by kernel_rfl
theorem sL3_2 (k n : Nat) (qr : List PV) (five : Bool) (t180 : List PV) (t181 t182 : Int) (l : List PV) : L3_2 k (n + 1) qr five t180 t181 t182 l =
 bif decide (t182 < t181) then
  (lookP t180 t182).bind fun p1 =>
  (p1.atInt .i64 0).bind fun n1 =>
  bif decide (n1 < 0) then
   r3 false
  else
   bif decide (n1 ≥ (l.length : Int)) then
    r3 false
   else
    (lookP l n1).bind fun p2 =>
    (p2.atInt .i64 0).bind fun n2 =>
    R19 (c19 k qr n2) fun b1 =>
    bif !b1 then
     r3 false
    else L3_2 k n qr five t180 t181 (IntKind.i64.wrap (t182 + 1)) l
 else r3 five := by kernel_rfl

theorem n6 (k : Nat) (code more : List PV) : c6 (k + 1) code more =
 bif decide ((code.length : Int) > 1048576) then
  r6 true
 else r6 (decide ((more.length : Int) > IntKind.i64.wrap (1048576 - (code.length : Int)))) := by kernel_rfl

theorem n7 (k : Nat) (code : List PV) : c7 (k + 1) code =
 R44 (c44 k code 0 0) fun l1 v1 v2 v3 v4 l2 l3 =>
 R45 (c45 k v3 v4 l2 l3 l1 v1 v2) fun l4 v5 v6 l5 =>
 R47 (c47 k v3 v4 l2 l3 l4 v5 v6) fun l6 v7 v8 v9 =>
 R46 (c46 k v3 v4 l2 l3 v9) fun l7 b1 =>
 R48 (c48 k 12 l6 v7 v8) fun l8 v10 v11 b2 =>
 bif b2 then
  bif decide ((l7.length + 1) * 8 ≤ LIM) && decide (l7.length + 1 ≤ LIM) then
   r7 v3 v4 l2 l3 l5 (((l7.take l7.length) ++ [PV.int .i64 31]).take (l7.length + 1))
  else none
 else r7 v3 v4 l2 l3 l5 (l7.take l7.length) := by kernel_rfl

theorem n8 (k : Nat) (p p1 : Int) (p2 p3 v path : List PV) : c8 (k + 1) p p1 p2 p3 v path =
 R49 (c49 k p p1 p2 p3 v) fun b1 =>
 bif !b1 then
  r8 [] false
 else
  bif decide ((path.length : Int) < 1) then
   r8 [] false
  else
   bif decide ((path.length : Int) > 200) then
    r8 [] false
   else L8_1 k k 0 path (path.length : Int) 0 p p1 p2 p3 v [] := by kernel_rfl
theorem sL8_1 (k n : Nat) (outLen : Nat) (t26 : List PV) (t27 t28 n1 n11 : Int) (l l1 l2 xs : List PV) : L8_1 k (n + 1) outLen t26 t27 t28 n1 n11 l l1 l2 xs =
 bif decide (t28 < t27) then
  (lookP t26 t28).bind fun p1 =>
  (p1.atInt .i64 0).bind fun n2 =>
  bif decide (n2 < 0) then
   r8 [] false
  else
   R50 (c50 k n1 n11 l l1) fun v1 =>
   bif decide (n2 ≥ v1) then
    r8 [] false
   else
    (lookP l2 n2).bind fun p2 =>
    (p2.atInt .i64 0).bind fun n3 =>
    bif decide ((outLen + 1) * 8 ≤ LIM) && decide (outLen + 1 ≤ LIM) then
     L8_1 k n (outLen + 1) t26 t27 (IntKind.i64.wrap (t28 + 1)) n1 n11 l l1 l2 ((xs.take outLen) ++ [PV.int .i64 n3])
    else none
 else r8 (xs.take outLen) true := by kernel_rfl

theorem n9 (k : Nat) (p p1 : Int) (p2 p3 v path : List PV) : c9 (k + 1) p p1 p2 p3 v path =
 R51 (c51 k p p1 p2 p3 v) fun b1 =>
 bif !b1 then
  r9 [] false
 else
  R52 (c52 k (path.length : Int) 1 200) fun b2 =>
  bif !b2 then
   r9 [] false
  else
   R53 (c53 k path 0 (IntKind.i64.wrap ((v.length : Int) - 1))) fun b3 =>
   bif !b3 then
    r9 [] false
   else L9_1 k k 0 path (path.length : Int) 0 v [] := by kernel_rfl
theorem sL9_1 (k n : Nat) (outLen : Nat) (t30 : List PV) (t31 t32 : Int) (l xs : List PV) : L9_1 k (n + 1) outLen t30 t31 t32 l xs =
 bif decide (t32 < t31) then
  (lookP t30 t32).bind fun p1 =>
  (p1.atInt .i64 0).bind fun n1 =>
  (lookP l n1).bind fun p2 =>
  (p2.atInt .i64 0).bind fun n2 =>
  bif decide ((outLen + 1) * 8 ≤ LIM) && decide (outLen + 1 ≤ LIM) then
   L9_1 k n (outLen + 1) t30 t31 (IntKind.i64.wrap (t32 + 1)) l ((xs.take outLen) ++ [PV.int .i64 n2])
  else none
 else r9 (xs.take outLen) true := by kernel_rfl

theorem n10 (k : Nat) (p p1 : Int) (p2 p3 v : List PV) : c10 (k + 1) p p1 p2 p3 v =
 R49 (c49 k p p1 p2 p3 v) fun b1 =>
 bif !b1 then
  r10 [] false
 else
  R54 (c54 k p p1 p2 p3 v) fun l1 =>
  r10 l1 true := by kernel_rfl

theorem n11 (k : Nat) (p p1 : Int) (p2 p3 v : List PV) : c11 (k + 1) p p1 p2 p3 v =
 R51 (c51 k p p1 p2 p3 v) fun b1 =>
 bif !b1 then
  r11 [] false
 else
  R55 (c55 k p p1 p2 p3 v) fun l1 =>
  r11 l1 true := by kernel_rfl

theorem n12 (k : Nat) (p p1 : Int) (p2 p3 v : List PV) : c12 (k + 1) p p1 p2 p3 v =
 R49 (c49 k p p1 p2 p3 v) fun b1 =>
 bif !b1 then
  r12 [] false
 else
  R57 (c57 k p p1 p2 p3 p2) fun l1 =>
  R56 (c56 k v l1) fun l2 =>
  r12 (l2.take l2.length) true := by kernel_rfl

theorem n13 (k : Nat) (p p1 : Int) (p2 p3 v : List PV) : c13 (k + 1) p p1 p2 p3 v =
 R51 (c51 k p p1 p2 p3 v) fun b1 =>
 bif !b1 then
  r13 [] false
 else
  R59 (c59 k p p1 p2 p3 p2) fun l1 =>
  R58 (c58 k v l1) fun l2 =>
  r13 l2 true := by kernel_rfl

theorem n14 (k : Nat) (p p1 : Int) (p2 p3 v : List PV) : c14 (k + 1) p p1 p2 p3 v =
 R49 (c49 k p p1 p2 p3 v) fun b1 =>
 bif !b1 then
  r14 [] false
 else
  R60 (c60 k p p1 p2 p3 v) fun l1 =>
  r14 l1 true := by kernel_rfl

theorem n15 (k : Nat) (p p1 : Int) (p2 p3 v : List PV) : c15 (k + 1) p p1 p2 p3 v =
 R51 (c51 k p p1 p2 p3 v) fun b1 =>
 bif !b1 then
  r15 [] false
 else
  R61 (c61 k p p1 p2 p3 v) fun l1 =>
  r15 l1 true := by kernel_rfl

theorem n16 (k : Nat) (a b : List PV) : c16 (k + 1) a b =
 bif ((a.length : Int) != (b.length : Int)) then
  r16 false
 else L16_1 k k a b (a.length : Int) 0 := by kernel_rfl
theorem sL16_1 (k n : Nat) (a b : List PV) (t12 t13 : Int) : L16_1 k (n + 1) a b t12 t13 =
 bif decide (t13 < t12) then
  (lookP a t13).bind fun p1 =>
  (p1.atInt .i64 0).bind fun n1 =>
  (lookP b t13).bind fun p2 =>
  (p2.atInt .i64 0).bind fun n2 =>
  bif (n1 != n2) then
   r16 false
  else L16_1 k n a b t12 (IntKind.i64.wrap (t13 + 1))
 else r16 true := by kernel_rfl

theorem n17 (k : Nat) (a b : List PV) : c17 (k + 1) a b =
 bif ((a.length : Int) != (b.length : Int)) then
  r17 false
 else L17_1 k k a b (a.length : Int) 0 := by kernel_rfl
theorem sL17_1 (k n : Nat) (a b : List PV) (t12 t13 : Int) : L17_1 k (n + 1) a b t12 t13 =
 bif decide (t13 < t12) then
  (lookP a t13).bind fun p1 =>
  (p1.atRow 0 0).bind fun l1 =>
  (lookP b t13).bind fun p2 =>
  (p2.atRow 0 0).bind fun l2 =>
  R16 (c16 k l1 l2) fun b1 =>
  bif !b1 then
   r17 false
  else L17_1 k n a b t12 (IntKind.i64.wrap (t13 + 1))
 else r17 true := by kernel_rfl

theorem n18 (k : Nat) (p p1 : Int) (p2 p3 path : List PV) : c18 (k + 1) p p1 p2 p3 path =
 bif decide ((path.length : Int) < 1) then
  r18 false false
 else
  bif decide ((path.length : Int) > 200) then
   r18 false false
  else
   R62f63p (c62f63 k path p p1 p2 p3) fun b1 =>
   bif b1 then
    r18 false false
   else L18_1 k k path 1 p p1 p2 p3 := by kernel_rfl
theorem sL18_1 (k n : Nat) (path : List PV) (i n1 n11 : Int) (l l1 : List PV) : L18_1 k (n + 1) path i n1 n11 l l1 =
 bif decide (i < (path.length : Int)) then
  (lookP path (IntKind.i64.wrap (i - 1))).bind fun p1 =>
  (p1.atInt .i64 0).bind fun n2 =>
  (lookP path i).bind fun p2 =>
  (p2.atInt .i64 0).bind fun n3 =>
  R66 (c66 k n1 n11 l l1 n2) fun l2 =>
  R65 (c65 k l2 n3) fun b1 =>
  bif !b1 then
   r18 false true
  else L18_1 k n path (IntKind.i64.wrap (i + 1)) n1 n11 l l1
 else
  (lookP path 0).bind fun p3 =>
  (p3.atInt .i64 0).bind fun n4 =>
  R68 (c68 k n1 n11 l l1 n4) fun l3 =>
  R67 (c67 k n1 n11 l l1 l l3) fun b2 =>
  r18 b2 true := by kernel_rfl

theorem n19 (k : Nat) (l : List PV) (n1 : Int) : c19 (k + 1) l n1 =
 L19_1 k k n1 l (l.length : Int) 0 := by kernel_rfl
theorem sL19_1 (k n : Nat) (n1 : Int) (t7 : List PV) (t8 t9 : Int) : L19_1 k (n + 1) n1 t7 t8 t9 =
 bif decide (t9 < t8) then
  (lookP t7 t9).bind fun p1 =>
  (p1.atInt .i64 0).bind fun n2 =>
  bif (n2 == n1) then
   r19 true
  else L19_1 k n n1 t7 t8 (IntKind.i64.wrap (t9 + 1))
 else r19 false := by kernel_rfl

theorem n20 (k : Nat) (p p1 : Int) (p2 p3 : List PV) : c20 (k + 1) p p1 p2 p3 =
 R69 (c69 k p p1 p2 p3) fun b1 =>
 bif !b1 then
  r20 [] false
 else
  R70 (c70 k p p1 p2 p3) fun l1 =>
  r20 l1 true := by kernel_rfl

theorem n44 (k : Nat) (l : List PV) (n1 n11 : Int) : c44 (k + 1) l n1 n11 =
 R102 (c102 k [PV.int .i64 1, PV.int .i64 2, PV.int .i64 2, PV.int .i64 2, PV.int .i64 3, PV.int .i64 4] l n1 n11) fun l1 v1 v2 v3 =>
 bif decide (v3 < 3) then
  bif !(v3 == 0) then
   R103 (c103 k (IntKind.i64.wrap ((6 : Int).tdiv v3)) l1 v1 v2) fun l2 v4 v5 v6 =>
   L44_1 k k v3 (IntKind.i64.wrap (1 + v6)) l2 v4 v5 0 0 [] []
  else none
 else L44_1 k k v3 1 l1 v1 v2 0 0 [] [] := by kernel_rfl
theorem sL44_1 (k n : Nat) (wide vars : Int) (l : List PV) (n1 n11 n12 n13 : Int) (l1 l2 : List PV) : L44_1 k (n + 1) wide vars l n1 n11 n12 n13 l1 l2 =
 bif decide (IntKind.i64.wrap (wide * vars) > 5) then
  L44_1 k n wide (IntKind.i64.wrap (vars - 1)) l n1 n11 n12 n13 l1 l2
 else
  bif decide (vars > 4) then
   L44_1 k n wide (IntKind.i64.wrap (vars - 1)) l n1 n11 n12 n13 l1 l2
  else
   R104 (c104 k wide vars l n1 n11) fun l3 v1 v2 v3 v4 l4 l5 =>
   R103 (c103 k 40 l3 v1 v2) fun l6 v5 v6 v7 =>
   bif (v7 == 0) then
    R102 (c102 k [PV.int .i64 0, PV.int .i64 4, PV.int .i64 5] l6 v5 v6) fun l7 v8 v9 v10 =>
    r44 l7 v8 v9 v3 v10 l4 (l5.take l5.length)
   else
    bif (v7 == 1) then
     r44 l6 v5 v6 v3 v4 l4 []
    else
     bif (v7 == 2) then
      bif decide ((0 : Int) < (l5.length : Int)) then
       (l5[0]?).bind fun p1 =>
       (putPart p1 2 0 (PV.row 2 0 [PV.agg [.int .i64 1, .int .u64 0]]) 0).bind fun p2 =>
       r44 l6 v5 v6 v3 v4 l4 ((l5.set 0 p2).take l5.length)
      else none
     else
      bif (v7 == 3) then
       bif decide ((0 : Int) < (l5.length : Int)) then
        (l5[0]?).bind fun p3 =>
        (p3.atRow 2 1).bind fun l8 =>
        bif decide ((l8.length + 1) * 32 ≤ LIM) && decide (l8.length + 1 ≤ LIM) then
         bif decide ((0 : Int) < (l5.length : Int)) then
          (l5[0]?).bind fun p4 =>
          bif decide (l8.length + 1 ≤ (l8 ++ [PV.agg [.int .i64 0, .row 2 0 [PV.agg [.int .i64 1, .int .u64 0]]]]).length) then
           (putPart p4 2 1 (PV.row 2 0 ((l8 ++ [PV.agg [.int .i64 0, .row 2 0 [PV.agg [.int .i64 1, .int .u64 0]]]]).take (l8.length + 1))) 0).bind fun p5 =>
           r44 l6 v5 v6 v3 v4 l4 ((l5.set 0 p5).take l5.length)
          else none
         else none
        else none
       else none
      else r44 l6 v5 v6 v3 v4 l4 (l5.take l5.length) := by kernel_rfl

theorem n45 (k : Nat) (p p1 : Int) (p2 p3 l : List PV) (n1 n11 : Int) : c45 (k + 1) p p1 p2 p3 l n1 n11 =
 R106 (c106 k p p1 p2 p3 3 l n1 n11) fun l1 v1 v2 l2 =>
 R105 (c105 k p p1 p2 p3 l2) fun l3 b1 =>
 R48 (c48 k 3 l1 v1 v2) fun l4 v3 v4 b2 =>
 bif b2 then
  R108 (c108 k 4 3 l4 v3 v4) fun l5 v5 v6 l6 =>
  R107p (c107 k p p1 p2 p3 (l3.take l3.length) l6) fun l7 b3 =>
  bif b3 then
   R103 (c103 k 40 l5 v5 v6) fun l8 v7 v8 v9 =>
   bif (v9 == 0) then
    bif decide ((l7.length + 1) * 8 ≤ LIM) && decide (l7.length + 1 ≤ LIM) then
     r45 l8 v7 v8 (((l7.take l7.length) ++ [PV.int .i64 0]).take (l7.length + 1))
    else none
   else
    bif (v9 == 1) then
     bif decide ((l7.length : Int) > 0) then
      bif decide ((0 : Int) ≤ IntKind.i64.wrap ((l7.length : Int) - 1)) && decide (IntKind.i64.wrap ((l7.length : Int) - 1) < (l7.length : Int)) then
       (l7[0 + ((IntKind.i64.wrap ((l7.length : Int) - 1)).toNat)]?).bind fun p4 =>
       r45 l8 v7 v8 ((l7.set (0 + ((IntKind.i64.wrap ((l7.length : Int) - 1)).toNat)) (PV.int .i64 (l7.length : Int))).take l7.length)
      else none
     else r45 l8 v7 v8 (l7.take l7.length)
    else r45 l8 v7 v8 (l7.take l7.length)
  else
   R103 (c103 k 40 l5 v5 v6) fun l9 v10 v11 v12 =>
   bif (v12 == 0) then
    bif decide ((l3.length + 1) * 8 ≤ LIM) && decide (l3.length + 1 ≤ LIM) then
     r45 l9 v10 v11 (((l3.take l3.length) ++ [PV.int .i64 0]).take (l3.length + 1))
    else none
   else
    bif (v12 == 1) then
     bif decide ((l3.length : Int) > 0) then
      bif decide ((0 : Int) ≤ IntKind.i64.wrap ((l3.length : Int) - 1)) && decide (IntKind.i64.wrap ((l3.length : Int) - 1) < (l3.length : Int)) then
       (l3[0 + ((IntKind.i64.wrap ((l3.length : Int) - 1)).toNat)]?).bind fun p5 =>
       r45 l9 v10 v11 ((l3.set (0 + ((IntKind.i64.wrap ((l3.length : Int) - 1)).toNat)) (PV.int .i64 (l3.length : Int))).take l3.length)
      else none
     else r45 l9 v10 v11 (l3.take l3.length)
    else r45 l9 v10 v11 (l3.take l3.length)
 else
  R103 (c103 k 40 l4 v3 v4) fun l10 v13 v14 v15 =>
  bif (v15 == 0) then
   bif decide ((l3.length + 1) * 8 ≤ LIM) && decide (l3.length + 1 ≤ LIM) then
    r45 l10 v13 v14 (((l3.take l3.length) ++ [PV.int .i64 0]).take (l3.length + 1))
   else none
  else
   bif (v15 == 1) then
    bif decide ((l3.length : Int) > 0) then
     bif decide ((0 : Int) ≤ IntKind.i64.wrap ((l3.length : Int) - 1)) && decide (IntKind.i64.wrap ((l3.length : Int) - 1) < (l3.length : Int)) then
      (l3[0 + ((IntKind.i64.wrap ((l3.length : Int) - 1)).toNat)]?).bind fun p6 =>
      r45 l10 v13 v14 ((l3.set (0 + ((IntKind.i64.wrap ((l3.length : Int) - 1)).toNat)) (PV.int .i64 (l3.length : Int))).take l3.length)
     else none
    else r45 l10 v13 v14 (l3.take l3.length)
   else r45 l10 v13 v14 (l3.take l3.length) := by kernel_rfl

theorem n46 (k : Nat) (p p1 : Int) (p2 p3 : List PV) (no : Int) : c46 (k + 1) p p1 p2 p3 no =
 R109 (c109 k p p1 p2 p3 no) fun v1 b1 =>
 bif !b1 then
  r46 [] false
 else
  R59 (c59 k p p1 p2 p3 p2) fun l1 =>
  L46_1 k k no v1 0 l1 p p1 p2 p3 [] := by kernel_rfl
theorem sL46_1 (k n : Nat) (no n1 : Int) (outLen : Nat) (some1 : List PV) (n11 n12 : Int) (l l1 xs : List PV) : L46_1 k (n + 1) no n1 outLen some1 n11 n12 l l1 xs =
 bif decide (n1 ≥ 0) then
  L46_2 k n k no n1 outLen some1 (some1.length : Int) 0 n11 n12 l l1 xs
 else r46 (xs.take outLen) true := by kernel_rfl
theorem sL46_2 (k n1 n : Nat) (no n11 : Int) (outLen : Nat) (t28 : List PV) (t29 t30 n12 n13 : Int) (l l1 xs : List PV) : L46_2 k n1 (n + 1) no n11 outLen t28 t29 t30 n12 n13 l l1 xs =
 bif decide (t30 < t29) then
  (lookP t28 t30).bind fun p1 =>
  (p1.atInt .i64 0).bind fun n2 =>
  R110 (c110 k n12 n13 l l1 n2 no n11) fun b1 =>
  bif b1 then
   bif decide ((outLen + 1) * 8 ≤ LIM) && decide (outLen + 1 ≤ LIM) then
    bif decide ((0 : Int) ≤ IntKind.i64.wrap ((outLen + 1 : Int) - 1)) && decide (IntKind.i64.wrap ((outLen + 1 : Int) - 1) < (outLen + 1 : Int)) then
     (((xs.take outLen) ++ [PV.int .i64 n2])[0 + ((IntKind.i64.wrap ((outLen + 1 : Int) - 1)).toNat)]?).bind fun p2 =>
     (p2.atInt .i64 0).bind fun n3 =>
     R111 (c111 k n12 n13 l l1 n3) fun l2 =>
     L46_1 k n1 no (IntKind.i64.wrap (n11 - 1)) (outLen + 1) l2 n12 n13 l l1 ((xs.take outLen) ++ [PV.int .i64 n2])
    else none
   else none
  else L46_2 k n1 n no n11 outLen t28 t29 (IntKind.i64.wrap (t30 + 1)) n12 n13 l l1 xs
 else
  bif decide ((0 : Int) ≤ IntKind.i64.wrap ((outLen : Int) - 1)) && decide (IntKind.i64.wrap ((outLen : Int) - 1) < (outLen : Int)) then
   (xs[0 + ((IntKind.i64.wrap ((outLen : Int) - 1)).toNat)]?).bind fun p3 =>
   (p3.atInt .i64 0).bind fun n4 =>
   R111 (c111 k n12 n13 l l1 n4) fun l3 =>
   L46_1 k n1 no (IntKind.i64.wrap (n11 - 1)) outLen l3 n12 n13 l l1 xs
  else none := by kernel_rfl

theorem n47 (k : Nat) (p p1 : Int) (p2 p3 l : List PV) (n1 n11 : Int) : c47 (k + 1) p p1 p2 p3 l n1 n11 =
 R48 (c48 k 30 l n1 n11) fun l1 v1 v2 b1 =>
 bif b1 then
  R102 (c102 k [PV.int .i64 (-1), PV.int .i64 32, PV.int .i64 16] l1 v1 v2) fun l2 v3 v4 v5 =>
  r47 l2 v3 v4 v5
 else
  R112 (c112 k p p1 p2 p3) fun l3 b2 =>
  bif b2 then
   bif decide ((l3.length : Int) > 0) then
    R48 (c48 k 4 l1 v1 v2) fun l4 v6 v7 b3 =>
    bif !b3 then
     R103 (c103 k (l3.length : Int) l4 v6 v7) fun l5 v8 v9 v10 =>
     (lookP l3 v10).bind fun p4 =>
     (p4.atInt .i64 0).bind fun n2 =>
     r47 l5 v8 v9 n2
    else
     R103 (c103 k 32 l4 v6 v7) fun l6 v11 v12 v13 =>
     r47 l6 v11 v12 v13
   else
    R103 (c103 k 32 l1 v1 v2) fun l7 v14 v15 v16 =>
    r47 l7 v14 v15 v16
  else
   R103 (c103 k 32 l1 v1 v2) fun l8 v17 v18 v19 =>
   r47 l8 v17 v18 v19 := by kernel_rfl

theorem n48 (k : Nat) (n1 : Int) (l : List PV) (n11 n12 : Int) : c48 (k + 1) n1 l n11 n12 =
 R103 (c103 k n1 l n11 n12) fun l1 v1 v2 v3 =>
 r48 l1 v1 v2 (v3 == 0) := by kernel_rfl

theorem n49 (k : Nat) (p p1 : Int) (p2 p3 v : List PV) : c49 (k + 1) p p1 p2 p3 v =
 R69 (c69 k p p1 p2 p3) fun b1 =>
 bif b1 then
  R50 (c50 k p p1 p2 p3) fun v1 =>
  R113 (c113 k v v1) fun b2 =>
  r49 b2
 else r49 false := by kernel_rfl

theorem n50 (k : Nat) (p p1 : Int) (p2 p3 : List PV) : c50 (k + 1) p p1 p2 p3 =
 bif !decide (IntKind.i64.wrap (p * p1) < 0) then
  r50 (shlI .i64 1 (IntKind.i64.wrap (p * p1)))
 else none := by kernel_rfl

theorem n51 (k : Nat) (p p1 : Int) (p2 p3 v : List PV) : c51 (k + 1) p p1 p2 p3 v =
 R114 (c114 k p p1 p2 p3) fun b1 =>
 bif !b1 then
  r51 false
 else
  R115 (c115 k p p1 p2 p3) fun v1 =>
  bif ((v.length : Int) != v1) then
   r51 false
  else L51_1 k k 0 v (v.length : Int) 0 := by kernel_rfl
theorem sL51_1 (k n : Nat) (many : Int) (t20 : List PV) (t21 t22 : Int) : L51_1 k (n + 1) many t20 t21 t22 =
 bif decide (t22 < t21) then
  (lookP t20 t22).bind fun p1 =>
  (p1.atInt .i64 0).bind fun n1 =>
  R52 (c52 k n1 0 many) fun b1 =>
  bif !b1 then
   r51 false
  else
   bif (n1 == many) then
    L51_1 k n (IntKind.i64.wrap (many + 1)) t20 t21 (IntKind.i64.wrap (t22 + 1))
   else L51_1 k n many t20 t21 (IntKind.i64.wrap (t22 + 1))
 else r51 true := by kernel_rfl

theorem n52 (k : Nat) (n1 lo hi : Int) : c52 (k + 1) n1 lo hi =
 bif decide (n1 ≥ lo) then
  r52 (decide (n1 ≤ hi))
 else r52 false := by kernel_rfl

theorem n53 (k : Nat) (l : List PV) (lo hi : Int) : c53 (k + 1) l lo hi =
 L53_1 k k lo hi l (l.length : Int) 0 := by kernel_rfl
theorem sL53_1 (k n : Nat) (lo hi : Int) (t9 : List PV) (t10 t11 : Int) : L53_1 k (n + 1) lo hi t9 t10 t11 =
 bif decide (t11 < t10) then
  (lookP t9 t11).bind fun p1 =>
  (p1.atInt .i64 0).bind fun n1 =>
  R52 (c52 k n1 lo hi) fun b1 =>
  bif !b1 then
   r53 false
  else L53_1 k n lo hi t9 t10 (IntKind.i64.wrap (t11 + 1))
 else r53 true := by kernel_rfl

theorem n54 (k : Nat) (p p1 : Int) (p2 p3 v : List PV) : c54 (k + 1) p p1 p2 p3 v =
 R116 (c116 k v) fun v1 =>
 L54_1 k k 0 v1 0 p p1 p2 p3 v [] := by kernel_rfl
theorem sL54_1 (k n : Nat) (outLen : Nat) (t9 t10 n1 n11 : Int) (l l1 l2 xs : List PV) : L54_1 k (n + 1) outLen t9 t10 n1 n11 l l1 l2 xs =
 bif decide (t10 < t9) then
  R88 (c88 k n1 n11 l l1 l2 t10) fun l3 =>
  bif decide ((outLen + 1) * 24 ≤ LIM) && decide (outLen + 1 ≤ LIM) then
   L54_1 k n (outLen + 1) t9 (IntKind.i64.wrap (t10 + 1)) n1 n11 l l1 l2 ((xs.take outLen) ++ [PV.row 0 0 (l3.take l3.length)])
  else none
 else r54 (xs.take outLen) := by kernel_rfl

theorem n55 (k : Nat) (p p1 : Int) (p2 p3 v : List PV) : c55 (k + 1) p p1 p2 p3 v =
 L55_1 k k 0 0 p p1 p2 p3 v [] := by kernel_rfl
theorem sL55_1 (k n : Nat) (outLen : Nat) (class1 n1 n11 : Int) (l l1 l2 xs : List PV) : L55_1 k (n + 1) outLen class1 n1 n11 l l1 l2 xs =
 R117 (c117 k l2) fun v1 =>
 bif decide (class1 < v1) then
  R89 (c89 k n1 n11 l l1 l2 class1) fun l3 =>
  bif decide ((outLen + 1) * 24 ≤ LIM) && decide (outLen + 1 ≤ LIM) then
   L55_1 k n (outLen + 1) (IntKind.i64.wrap (class1 + 1)) n1 n11 l l1 l2 ((xs.take outLen) ++ [PV.row 0 0 l3])
  else none
 else r55 (xs.take outLen) := by kernel_rfl

theorem n56 (k : Nat) (v some1 : List PV) : c56 (k + 1) v some1 =
 R116 (c116 k v) fun v1 =>
 bif (v1 == v1) && decide ((0 : Int) ≤ v1) && decide (v1.toNat * 1 ≤ LIM) && decide (v1.toNat ≤ LIM) then
  L56_1 k k v1.toNat some1 (some1.length : Int) 0 v (List.replicate v1.toNat (PV.bool false))
 else none := by kernel_rfl
theorem sL56_1 (k n : Nat) (inLen : Nat) (t11 : List PV) (t12 t13 : Int) (l xs : List PV) : L56_1 k (n + 1) inLen t11 t12 t13 l xs =
 bif decide (t13 < t12) then
  (lookP t11 t13).bind fun p1 =>
  (p1.atInt .i64 0).bind fun n1 =>
  (lookP l n1).bind fun p2 =>
  (p2.atInt .i64 0).bind fun n2 =>
  bif decide ((0 : Int) ≤ n2) && decide (n2 < (inLen : Int)) then
   (xs[0 + n2.toNat]?).bind fun p3 =>
   L56_1 k n inLen t11 t12 (IntKind.i64.wrap (t13 + 1)) l (xs.set (0 + n2.toNat) (PV.bool true))
  else none
 else
  R118p (c118 k (xs.take inLen)) fun l1 =>
  r56 (l1.take l1.length) := by kernel_rfl

theorem n57 (k : Nat) (p p1 : Int) (p2 p3 t : List PV) : c57 (k + 1) p p1 p2 p3 t =
 R50 (c50 k p p1 p2 p3) fun v1 =>
 L57_1 k k t 0 v1 0 p p1 p2 p3 [] := by kernel_rfl
theorem sL57_1 (k n : Nat) (t : List PV) (outLen : Nat) (t9 t10 n1 n11 : Int) (l l1 xs : List PV) : L57_1 k (n + 1) t outLen t9 t10 n1 n11 l l1 xs =
 bif decide (t10 < t9) then
  R68 (c68 k n1 n11 l l1 t10) fun l2 =>
  R67 (c67 k n1 n11 l l1 t l2) fun b1 =>
  bif b1 then
   bif decide ((outLen + 1) * 8 ≤ LIM) && decide (outLen + 1 ≤ LIM) then
    L57_1 k n t (outLen + 1) t9 (IntKind.i64.wrap (t10 + 1)) n1 n11 l l1 ((xs.take outLen) ++ [PV.int .i64 t10])
   else none
  else L57_1 k n t outLen t9 (IntKind.i64.wrap (t10 + 1)) n1 n11 l l1 xs
 else r57 (xs.take outLen) := by kernel_rfl

theorem n58 (k : Nat) (v states : List PV) : c58 (k + 1) v states =
 L58_1 k k 0 states (states.length : Int) 0 v [] := by kernel_rfl
theorem sL58_1 (k n : Nat) (outLen : Nat) (t8 : List PV) (t9 t10 : Int) (l xs : List PV) : L58_1 k (n + 1) outLen t8 t9 t10 l xs =
 bif decide (t10 < t9) then
  (lookP t8 t10).bind fun p1 =>
  (p1.atInt .i64 0).bind fun n1 =>
  (lookP l n1).bind fun p2 =>
  (p2.atInt .i64 0).bind fun n2 =>
  R119 (c119 k (xs.take outLen) n2) fun l1 =>
  L58_1 k n l1.length t8 t9 (IntKind.i64.wrap (t10 + 1)) l l1
 else r58 (xs.take outLen) := by kernel_rfl
end Go.Proofs.YthoecdnmokcfbaaGreat
/- Normal forms: printed by nf.py. -/
set_option linter.unusedVariables false
set_option maxRecDepth 100000
namespace Go.Proofs.YthoecdnmokcfbaaGreat
open Go.Dp

theorem n59 (k : Nat) (p p1 : Int) (p2 p3 t : List PV) : c59 (k + 1) p p1 p2 p3 t =
 L59_1 k k t 0 0 p p1 p2 p3 [] := by kernel_rfl
theorem sL59_1 (k n : Nat) (t : List PV) (outLen : Nat) (no n1 n11 : Int) (l l1 xs : List PV) : L59_1 k (n + 1) t outLen no n1 n11 l l1 xs =
 R115 (c115 k n1 n11 l l1) fun v1 =>
 bif decide (no < v1) then
  R121 (c121 k n1 n11 l l1 no) fun l2 =>
  R120 (c120 k n1 n11 l l1 t l2) fun b1 =>
  bif b1 then
   bif decide ((outLen + 1) * 8 ≤ LIM) && decide (outLen + 1 ≤ LIM) then
    L59_1 k n t (outLen + 1) (IntKind.i64.wrap (no + 1)) n1 n11 l l1 ((xs.take outLen) ++ [PV.int .i64 no])
   else none
  else L59_1 k n t outLen (IntKind.i64.wrap (no + 1)) n1 n11 l l1 xs
 else r59 (xs.take outLen) := by kernel_rfl

theorem n60 (k : Nat) (p p1 : Int) (p2 p3 v : List PV) : c60 (k + 1) p p1 p2 p3 v =
 R54 (c54 k p p1 p2 p3 v) fun l1 =>
 R57 (c57 k p p1 p2 p3 p2) fun l2 =>
 R56 (c56 k v l2) fun l3 =>
 R122 (c122 k l1 (l3.take l3.length)) fun l4 =>
 r60 l4 := by kernel_rfl

theorem n61 (k : Nat) (p p1 : Int) (p2 p3 v : List PV) : c61 (k + 1) p p1 p2 p3 v =
 R55 (c55 k p p1 p2 p3 v) fun l1 =>
 R59 (c59 k p p1 p2 p3 p2) fun l2 =>
 R58 (c58 k v l2) fun l3 =>
 R123 (c123 k l1 l3) fun l4 =>
 r61 l4 := by kernel_rfl

theorem n62f63 (k : Nat) (qs : List PV) (n1 n11 : Int) (l l1 : List PV) : c62f63 (k + 1) qs n1 n11 l l1 =
 R124f63p (c124f63 k qs n1 n11 l l1) fun v1 =>
 r62f63 (decide (v1 ≥ 0)) := by kernel_rfl
theorem n62f143 (k : Nat) (qs : List PV) (n1 : Int) : c62f143 (k + 1) qs n1 =
 R124f143 (c124f143 k qs n1) fun v1 v2 =>
 r62f143 v1 (decide (v2 ≥ 0)) := by kernel_rfl

theorem n63 (k : Nat) (no n1 n11 : Int) (l l1 : List PV) : c63 (k + 1) no n1 n11 l l1 =
 R64 (c64 k n1 n11 l l1 no) fun b1 =>
 r63 (!b1) := by kernel_rfl

theorem n64 (k : Nat) (p p1 : Int) (p2 p3 : List PV) (no : Int) : c64 (k + 1) p p1 p2 p3 no =
 R69 (c69 k p p1 p2 p3) fun b1 =>
 bif b1 then
  bif decide (no ≥ 0) then
   R50 (c50 k p p1 p2 p3) fun v1 =>
   r64 (decide (no < v1))
  else r64 false
 else r64 false := by kernel_rfl

theorem n65 (k : Nat) (qs : List PV) (v : Int) : c65 (k + 1) qs v =
 R125 (c125 k qs v) fun v1 =>
 r65 (decide (v1 ≥ 0)) := by kernel_rfl

theorem n66 (k : Nat) (p p1 : Int) (p2 p3 : List PV) (no : Int) : c66 (k + 1) p p1 p2 p3 no =
 R68 (c68 k p p1 p2 p3 no) fun l1 =>
 L66_1 k k no l1 0 p3 (p3.length : Int) 0 p p1 p2 p3 [] := by kernel_rfl
theorem sL66_1 (k n : Nat) (no : Int) (qs : List PV) (outLen : Nat) (t14 : List PV) (t15 t16 n1 n11 : Int) (l l1 xs : List PV) : L66_1 k (n + 1) no qs outLen t14 t15 t16 n1 n11 l l1 xs =
 bif decide (t16 < t15) then
  (lookP t14 t16).bind fun p1 =>
  bif p1.shp 2 then
   (p1.atRow 2 0).bind fun l2 =>
   (p1.atRow 2 1).bind fun l3 =>
   R67 (c67 k n1 n11 l l1 l2 qs) fun b1 =>
   bif b1 then
    R127 (c127 k n1 n11 l l1 l2 l3 qs) fun l4 =>
    R126 (c126 k n1 n11 l l1 l4) fun v1 =>
    bif decide ((outLen + 1) * 8 ≤ LIM) && decide (outLen + 1 ≤ LIM) then
     L66_1 k n no qs (outLen + 1) t14 t15 (IntKind.i64.wrap (t16 + 1)) n1 n11 l l1 ((xs.take outLen) ++ [PV.int .i64 v1])
    else none
   else L66_1 k n no qs outLen t14 t15 (IntKind.i64.wrap (t16 + 1)) n1 n11 l l1 xs
  else none
 else
  bif ((outLen : Int) == 0) then
   r66 [PV.int .i64 no]
  else
   bif decide (outLen ≤ LIM) then
    (intsOf (xs.take outLen)).bind fun zs1 =>
    bif decide (outLen ≤ LIM) then
     (intsOf ((((sortI zs1).map (PV.int .i64)) ++ (xs.drop outLen)).take outLen)).bind fun zs2 =>
     r66 (((((compI zs2).map (PV.int .i64)) ++ (List.replicate (outLen - (compI zs2).length) (PV.int .i64 0))) ++ ((((sortI zs1).map (PV.int .i64)) ++ (xs.drop outLen)).drop outLen)).take ((compI zs2).length))
    else none
   else none := by kernel_rfl

theorem n67 (k : Nat) (p p1 : Int) (p2 p3 t qs : List PV) : c67 (k + 1) p p1 p2 p3 t qs =
 R130 (c130 k p t qs) fun v1 =>
 r67 (v1 == 1) := by kernel_rfl

theorem n68 (k : Nat) (p p1 : Int) (p2 p3 : List PV) (no : Int) : c68 (k + 1) p p1 p2 p3 no =
 L68_1 k k no 0 p1 0 p p1 p2 p3 [] := by kernel_rfl
theorem sL68_1 (k n : Nat) (no : Int) (outLen : Nat) (t9 t10 n1 n11 : Int) (l l1 xs : List PV) : L68_1 k (n + 1) no outLen t9 t10 n1 n11 l l1 xs =
 bif decide (t10 < t9) then
  bif !decide (IntKind.i64.wrap (n1 * t10) < 0) then
   R131 (c131 k n1) fun v1 =>
   bif decide ((outLen + 1) * 8 ≤ LIM) && decide (outLen + 1 ≤ LIM) then
    L68_1 k n no (outLen + 1) t9 (IntKind.i64.wrap (t10 + 1)) n1 n11 l l1 ((xs.take outLen) ++ [PV.int .u64 (bitsOp .and .u64 (shrI .u64 (IntKind.u64.wrap no) (IntKind.i64.wrap (n1 * t10))) v1)])
   else none
  else none
 else r68 (xs.take outLen) := by kernel_rfl

theorem n69 (k : Nat) (p p1 : Int) (p2 p3 : List PV) : c69 (k + 1) p p1 p2 p3 =
 R132 (c132 k p p1 p2 p3) fun b1 =>
 bif b1 then
  r69 (decide (IntKind.i64.wrap (p * p1) ≤ 5))
 else r69 false := by kernel_rfl

theorem n70 (k : Nat) (p p1 : Int) (p2 p3 : List PV) : c70 (k + 1) p p1 p2 p3 =
 R133 (c133 k p p1 p2 p3) fun l1 =>
 R57 (c57 k p p1 p2 p3 p2) fun l2 =>
 R122 (c122 k l1 l2) fun l3 =>
 r70 l3 := by kernel_rfl

theorem n72 (k : Nat) (p p1 : Int) (p2 p3 t : List PV) : c72 (k + 1) p p1 p2 p3 t =
 R136 (c136 k p p1 t 2) fun b1 =>
 r72 b1 := by kernel_rfl

theorem n74 (k : Nat) (p p1 : Int) (p2 p3 t : List PV) : c74 (k + 1) p p1 p2 p3 t =
 R137 (c137 k p p1 t) fun v1 =>
 r74 (v1 == 2) := by kernel_rfl

theorem n77 (k : Nat) (wide vars : Int) (t : List PV) : c77 (k + 1) wide vars t =
 R139 (c139 k wide) fun b1 =>
 bif !b1 then
  r77 false
 else
  R140 (c140 k vars) fun b2 =>
  bif !b2 then
   r77 false
  else
   bif decide ((t.length : Int) < 1) then
    r77 false
   else
    bif decide ((t.length : Int) > 48) then
     r77 false
    else L77_1 k k wide vars 0 t (t.length : Int) 0 [] := by kernel_rfl
theorem sL77_1 (k n : Nat) (wide vars : Int) (stackLen : Nat) (t33 : List PV) (t34 t35 : Int) (xs : List PV) : L77_1 k (n + 1) wide vars stackLen t33 t34 t35 xs =
 bif decide (t35 < t34) then
  (lookP t33 t35).bind fun p1 =>
  bif p1.shp 2 then
   (p1.atInt .i64 0).bind fun n1 =>
   (p1.atInt .u64 1).bind fun n2 =>
   R141 (c141 k n1) fun v1 v2 v3 =>
   bif (v3 == 0) then
    r77 false
   else
    R142 (c142 k wide vars n1 n2) fun b1 =>
    bif !b1 then
     r77 false
    else
     bif decide (IntKind.i64.wrap ((stackLen : Int) - v1) < 0) then
      r77 false
     else
      bif decide ((0 : Int) ≤ IntKind.i64.wrap ((stackLen : Int) - v1)) && decide (IntKind.i64.wrap ((stackLen : Int) - v1) ≤ (stackLen : Int)) && decide ((stackLen : Int) ≤ (stackLen : Int)) then
       R62f143p (c62f143 k ((xs.drop (0 + ((IntKind.i64.wrap ((stackLen : Int) - v1)).toNat))).take (stackLen - ((IntKind.i64.wrap ((stackLen : Int) - v1)).toNat))) v2) fun v4 b2 =>
       bif b2 then
        r77 false
       else
        bif decide ((0 : Int) ≤ IntKind.i64.wrap ((stackLen : Int) - v1)) && decide (IntKind.i64.wrap ((stackLen : Int) - v1) ≤ (stackLen : Int)) then
         bif decide ((((IntKind.i64.wrap ((stackLen : Int) - v1)).toNat) + 1) * 8 ≤ LIM) && decide (((IntKind.i64.wrap ((stackLen : Int) - v1)).toNat) + 1 ≤ LIM) then
          L77_1 k n wide vars (((IntKind.i64.wrap ((stackLen : Int) - v1)).toNat) + 1) t33 t34 (IntKind.i64.wrap (t35 + 1)) ((xs.take ((IntKind.i64.wrap ((stackLen : Int) - v1)).toNat)) ++ [PV.int .i64 v3])
         else none
        else none
      else none
  else none
 else r77 ((stackLen : Int) == 1) := by kernel_rfl

theorem n88 (k : Nat) (p p1 : Int) (p2 p3 v : List PV) (class1 : Int) : c88 (k + 1) p p1 p2 p3 v class1 =
 R101 (c101 k v class1) fun l1 =>
 L88_1 k k 0 l1 (l1.length : Int) 0 p p1 p2 p3 v [] := by kernel_rfl
theorem sL88_1 (k n : Nat) (nextLen : Nat) (t13 : List PV) (t14 t15 n1 n11 : Int) (l l1 l2 xs : List PV) : L88_1 k (n + 1) nextLen t13 t14 t15 n1 n11 l l1 l2 xs =
 bif decide (t15 < t14) then
  (lookP t13 t15).bind fun p1 =>
  (p1.atInt .i64 0).bind fun n2 =>
  R66 (c66 k n1 n11 l l1 n2) fun l3 =>
  bif decide ((nextLen + l3.length) * 8 ≤ LIM) && decide (nextLen + l3.length ≤ LIM) then
   L88_1 k n (nextLen + l3.length) t13 t14 (IntKind.i64.wrap (t15 + 1)) n1 n11 l l1 l2 ((xs.take nextLen) ++ l3)
  else none
 else
  R56p (c56 k l2 (xs.take nextLen)) fun l4 =>
  r88 (l4.take l4.length) := by kernel_rfl

theorem n89 (k : Nat) (p p1 : Int) (p2 p3 v : List PV) (class1 : Int) : c89 (k + 1) p p1 p2 p3 v class1 =
 R148 (c148 k v class1) fun l1 =>
 R149 (c149 k p p1 p2 p3 l1) fun l2 =>
 R58 (c58 k v l2) fun l3 =>
 r89 l3 := by kernel_rfl

theorem n101 (k : Nat) (v : List PV) (class1 : Int) : c101 (k + 1) v class1 =
 L101_1 k k class1 0 v (v.length : Int) 0 [] := by kernel_rfl
theorem sL101_1 (k n : Nat) (class1 : Int) (outLen : Nat) (t10 : List PV) (t11 t12 : Int) (xs : List PV) : L101_1 k (n + 1) class1 outLen t10 t11 t12 xs =
 bif decide (t12 < t11) then
  (lookP t10 t12).bind fun p1 =>
  (p1.atInt .i64 0).bind fun n1 =>
  bif (n1 == class1) then
   bif decide ((outLen + 1) * 8 ≤ LIM) && decide (outLen + 1 ≤ LIM) then
    L101_1 k n class1 (outLen + 1) t10 t11 (IntKind.i64.wrap (t12 + 1)) ((xs.take outLen) ++ [PV.int .i64 t12])
   else none
  else L101_1 k n class1 outLen t10 t11 (IntKind.i64.wrap (t12 + 1)) xs
 else r101 (xs.take outLen) := by kernel_rfl

theorem n102 (k : Nat) (list l : List PV) (n1 n11 : Int) : c102 (k + 1) list l n1 n11 =
 R103 (c103 k (list.length : Int) l n1 n11) fun l1 v1 v2 v3 =>
 (lookP list v3).bind fun p1 =>
 (p1.atInt .i64 0).bind fun n2 =>
 r102 l1 v1 v2 n2 := by kernel_rfl

theorem n103 (k : Nat) (n1 : Int) (l : List PV) (n11 n12 : Int) : c103 (k + 1) n1 l n11 n12 =
 bif decide (n1 ≤ 1) then
  r103 l n11 n12 0
 else
  R163 (c163 k l n11 n12) fun l1 v1 v2 v3 =>
  bif decide (n1 > 200) then
   R163 (c163 k l1 v1 v2) fun l2 v4 v5 v6 =>
   bif !(n1 == 0) then
    r103 l2 v4 v5 ((IntKind.i64.wrap ((IntKind.i64.wrap (v3 * 256)) + v6)).tmod n1)
   else none
  else
   bif !(n1 == 0) then
    r103 l1 v1 v2 (v3.tmod n1)
   else none := by kernel_rfl

theorem n104 (k : Nat) (wide vars : Int) (l : List PV) (n1 n11 : Int) : c104 (k + 1) wide vars l n1 n11 =
 R103 (c103 k 2 l n1 n11) fun l1 v1 v2 v3 =>
 R48 (c48 k 3 l1 v1 v2) fun l2 v4 v5 b1 =>
 bif b1 then
  R134 (c134 k wide vars 1 l2 v4 v5) fun l3 v6 v7 l4 =>
  R103 (c103 k 3 l3 v6 v7) fun l5 v8 v9 v10 =>
  L104_1 k k wide vars (IntKind.i64.wrap (1 + v10)) l5 v8 v9 0 0 [] [] wide vars l4.length 0 l4 []
 else
  R103 (c103 k 3 l2 v4 v5) fun l6 v11 v12 v13 =>
  L104_1 k k wide vars (IntKind.i64.wrap (1 + v13)) l6 v11 v12 0 0 [] [] wide vars 3 0 [PV.agg [.int .i64 2, .int .u64 0], PV.agg [.int .i64 1, .int .u64 (IntKind.u64.wrap v3)], PV.agg [.int .i64 14, .int .u64 0]] [] := by kernel_rfl
theorem sL104_1 (k n : Nat) (wide vars n1 : Int) (l : List PV) (n11 n12 n13 n14 : Int) (l1 l2 : List PV) (n15 n16 : Int) (Len Len1 : Nat) (xs xs1 : List PV) : L104_1 k (n + 1) wide vars n1 l n11 n12 n13 n14 l1 l2 n15 n16 Len Len1 xs xs1 =
 bif decide (n1 > 0) then
  R164 (c164 k wide vars l n11 n12) fun l3 v1 v2 l4 l5 =>
  bif decide (l5.length ≤ l5.length) then
   bif (Len1 == xs1.length) && decide ((Len1 + 1) * 48 ≤ LIM) && decide (Len1 + 1 ≤ LIM) then
    L104_1 k n wide vars (IntKind.i64.wrap (n1 - 1)) l3 v1 v2 n13 n14 l1 l2 n15 n16 Len (Len1 + 1) xs (xs1 ++ [PV.agg [.row 2 0 l4, .row 2 0 (l5.take l5.length)]])
   else none
  else none
 else
  bif (Len1 == xs1.length) then
   r104 l n11 n12 n15 n16 (xs.take Len) (xs1.take Len1)
  else none := by kernel_rfl

theorem n105 (k : Nat) (p p1 : Int) (p2 p3 preds : List PV) : c105 (k + 1) p p1 p2 p3 preds =
 R114 (c114 k p p1 p2 p3) fun b1 =>
 bif !b1 then
  r105 [] false
 else
  R165 (c165 k p p1 p2 p3 preds) fun b2 =>
  bif !b2 then
   r105 [] false
  else
   R166 (c166 k p p1 p2 p3 preds) fun l1 =>
   r105 (l1.take l1.length) true := by kernel_rfl

theorem n106 (k : Nat) (p p1 : Int) (p2 p3 : List PV) (most : Int) (l : List PV) (n1 n11 : Int) : c106 (k + 1) p p1 p2 p3 most l n1 n11 =
 R103 (c103 k (IntKind.i64.wrap (most + 1)) l n1 n11) fun l1 v1 v2 v3 =>
 L106_1 k k 0 v3 l1 v1 v2 p p1 p2 p3 [] := by kernel_rfl
theorem sL106_1 (k n : Nat) (lLen : Nat) (n1 : Int) (l : List PV) (n11 n12 n13 n14 : Int) (l1 l2 xs : List PV) : L106_1 k (n + 1) lLen n1 l n11 n12 n13 n14 l1 l2 xs =
 bif decide (n1 > 0) then
  R135 (c135 k n13) fun v1 =>
  R135 (c135 k n14) fun v2 =>
  R103 (c103 k 2 l n11 n12) fun l3 v3 v4 v5 =>
  R134 (c134 k v1 v2 v5 l3 v3 v4) fun l4 v6 v7 l5 =>
  bif decide ((lLen + 1) * 24 ≤ LIM) && decide (lLen + 1 ≤ LIM) then
   L106_1 k n (lLen + 1) (IntKind.i64.wrap (n1 - 1)) l4 v6 v7 n13 n14 l1 l2 ((xs.take lLen) ++ [PV.row 2 0 (l5.take l5.length)])
  else none
 else r106 l n11 n12 (xs.take lLen) := by kernel_rfl

theorem n107 (k : Nat) (p p1 : Int) (p2 p3 v some1 : List PV) : c107 (k + 1) p p1 p2 p3 v some1 =
 R51 (c51 k p p1 p2 p3 v) fun b1 =>
 bif !b1 then
  r107 [] false
 else
  R167 (c167 k some1 0 (IntKind.i64.wrap ((v.length : Int) - 1))) fun b2 =>
  bif !b2 then
   r107 [] false
  else
   R168 (c168 k v some1) fun l1 =>
   r107 (l1.take l1.length) true := by kernel_rfl

theorem n108 (k : Nat) (n1 most : Int) (l : List PV) (n11 n12 : Int) : c108 (k + 1) n1 most l n11 n12 =
 R103 (c103 k (IntKind.i64.wrap (most + 1)) l n11 n12) fun l1 v1 v2 v3 =>
 L108_1 k k n1 0 v3 l1 v1 v2 [] := by kernel_rfl
theorem sL108_1 (k n : Nat) (n1 : Int) (lLen : Nat) (k1 : Int) (l : List PV) (n11 n12 : Int) (xs : List PV) : L108_1 k (n + 1) n1 lLen k1 l n11 n12 xs =
 bif decide (k1 > 0) then
  R103 (c103 k n1 l n11 n12) fun l1 v1 v2 v3 =>
  R119 (c119 k (xs.take lLen) v3) fun l2 =>
  L108_1 k n n1 l2.length (IntKind.i64.wrap (k1 - 1)) l1 v1 v2 l2
 else
  R48 (c48 k 40 l n11 n12) fun l3 v4 v5 b1 =>
  bif b1 then
   bif decide ((lLen + 1) * 8 ≤ LIM) && decide (lLen + 1 ≤ LIM) then
    r108 l3 v4 v5 (((xs.take lLen) ++ [PV.int .i64 n1]).take (lLen + 1))
   else none
  else r108 l3 v4 v5 (xs.take lLen) := by kernel_rfl

theorem n109 (k : Nat) (p p1 : Int) (p2 p3 : List PV) (no : Int) : c109 (k + 1) p p1 p2 p3 no =
 R114 (c114 k p p1 p2 p3) fun b1 =>
 bif !b1 then
  r109 0 false
 else
  R169 (c169 k p p1 p2 p3) fun l1 =>
  R138 (c138 k l1 no) fun b2 =>
  bif !b2 then
   r109 0 false
  else
   R59 (c59 k p p1 p2 p3 p2) fun l2 =>
   L109_1 k k no l2 0 p p1 p2 p3 := by kernel_rfl
theorem sL109_1 (k n : Nat) (no : Int) (some1 : List PV) (n1 n11 n12 : Int) (l l1 : List PV) : L109_1 k (n + 1) no some1 n1 n11 n12 l l1 =
 R138 (c138 k some1 no) fun b1 =>
 bif !b1 then
  R149 (c149 k n11 n12 l l1 some1) fun l2 =>
  R170 (c170 k some1 l2) fun l3 =>
  L109_1 k n no l3 (IntKind.i64.wrap (n1 + 1)) n11 n12 l l1
 else r109 n1 true := by kernel_rfl

theorem n110 (k : Nat) (p p1 : Int) (p2 p3 : List PV) (from1 to steps : Int) : c110 (k + 1) p p1 p2 p3 from1 to steps =
 L110_1 k k to steps 1 p p1 p2 p3 [PV.int .i64 from1] := by kernel_rfl
theorem sL110_1 (k n : Nat) (to steps : Int) (someLen : Nat) (n1 n11 : Int) (l l1 xs : List PV) : L110_1 k (n + 1) to steps someLen n1 n11 l l1 xs =
 bif decide (steps > 0) then
  R149 (c149 k n1 n11 l l1 (xs.take someLen)) fun l2 =>
  L110_2 k n to (IntKind.i64.wrap (steps - 1)) l2 n1 n11 l l1
 else
  R138p (c138 k (xs.take someLen) to) fun b1 =>
  r110 b1 := by kernel_rfl
theorem sL110_2 (k n : Nat) (to steps : Int) (some1 : List PV) (n1 n11 : Int) (l l1 : List PV) : L110_2 k (n + 1) to steps some1 n1 n11 l l1 =
 bif decide (steps > 0) then
  R149 (c149 k n1 n11 l l1 some1) fun l2 =>
  L110_2 k n to (IntKind.i64.wrap (steps - 1)) l2 n1 n11 l l1
 else
  R138 (c138 k some1 to) fun b1 =>
  r110 b1 := by kernel_rfl

theorem n111 (k : Nat) (p p1 : Int) (p2 p3 : List PV) (no : Int) : c111 (k + 1) p p1 p2 p3 no =
 R121 (c121 k p p1 p2 p3 no) fun l1 =>
 R171 (c171 k p p1 p2 p3 l1) fun l2 =>
 L111_1 k k no l1 0 l2 (l2.length : Int) 0 p p1 p2 p3 [] := by kernel_rfl
theorem sL111_1 (k n : Nat) (no : Int) (qs : List PV) (outLen : Nat) (t14 : List PV) (t15 t16 n1 n11 : Int) (l l1 xs : List PV) : L111_1 k (n + 1) no qs outLen t14 t15 t16 n1 n11 l l1 xs =
 bif decide (t16 < t15) then
  (lookP t14 t16).bind fun p1 =>
  (p1.atInt .i64 0).bind fun n2 =>
  R173 (c173 k n1 n11 l l1 qs n2) fun l2 =>
  R172 (c172 k n1 n11 l l1 l2) fun v1 =>
  R119 (c119 k (xs.take outLen) v1) fun l3 =>
  L111_1 k n no qs l3.length t14 t15 (IntKind.i64.wrap (t16 + 1)) n1 n11 l l1 l3
 else
  bif ((outLen : Int) == 0) then
   r111 [PV.int .i64 no]
  else r111 (xs.take outLen) := by kernel_rfl

theorem n112 (k : Nat) (p p1 : Int) (p2 p3 : List PV) : c112 (k + 1) p p1 p2 p3 =
 R114 (c114 k p p1 p2 p3) fun b1 =>
 bif !b1 then
  r112 [] false
 else
  R169 (c169 k p p1 p2 p3) fun l1 =>
  r112 l1 true := by kernel_rfl

theorem n113 (k : Nat) (v : List PV) (states : Int) : c113 (k + 1) v states =
 L113_1 k k states 0 v (v.length : Int) 0 v := by kernel_rfl
theorem sL113_1 (k n : Nat) (states classes : Int) (t9 : List PV) (t10 t11 : Int) (l : List PV) : L113_1 k (n + 1) states classes t9 t10 t11 l =
 bif decide (t11 < t10) then
  (lookP t9 t11).bind fun p1 =>
  (p1.atInt .i64 0).bind fun n1 =>
  bif decide (n1 < 0) then
   r113 false
  else
   bif decide (n1 > classes) then
    r113 false
   else
    bif (n1 == classes) then
     L113_1 k n states (IntKind.i64.wrap (classes + 1)) t9 t10 (IntKind.i64.wrap (t11 + 1)) l
    else L113_1 k n states classes t9 t10 (IntKind.i64.wrap (t11 + 1)) l
 else r113 ((l.length : Int) == states) := by kernel_rfl

theorem n114 (k : Nat) (p p1 : Int) (p2 p3 : List PV) : c114 (k + 1) p p1 p2 p3 =
 R174 (c174 k p p1 p2 p3) fun b1 =>
 bif b1 then
  r114 (decide (IntKind.i64.wrap (p * p1) ≤ 5))
 else r114 false := by kernel_rfl

theorem n115 (k : Nat) (p p1 : Int) (p2 p3 : List PV) : c115 (k + 1) p p1 p2 p3 =
 bif !decide (IntKind.u64.wrap (IntKind.i64.wrap (p * p1)) < 0) then
  r115 (shlI .i64 1 (IntKind.u64.wrap (IntKind.i64.wrap (p * p1))))
 else none := by kernel_rfl

theorem n116 (k : Nat) (v : List PV) : c116 (k + 1) v =
 R175 (c175 k v) fun v1 =>
 r116 (IntKind.i64.wrap (v1 + 1)) := by kernel_rfl

theorem n117 (k : Nat) (v : List PV) : c117 (k + 1) v =
 L117_1 k k 0 v (v.length : Int) 0 := by kernel_rfl
theorem sL117_1 (k n : Nat) (many : Int) (t7 : List PV) (t8 t9 : Int) : L117_1 k (n + 1) many t7 t8 t9 =
 bif decide (t9 < t8) then
  (lookP t7 t9).bind fun p1 =>
  (p1.atInt .i64 0).bind fun n1 =>
  bif decide (n1 ≥ many) then
   L117_1 k n (IntKind.i64.wrap (n1 + 1)) t7 t8 (IntKind.i64.wrap (t9 + 1))
  else L117_1 k n many t7 t8 (IntKind.i64.wrap (t9 + 1))
 else r117 many := by kernel_rfl

theorem n118 (k : Nat) (list : List PV) : c118 (k + 1) list =
 L118_1 k k 0 list (list.length : Int) 0 [] := by kernel_rfl
theorem sL118_1 (k n : Nat) (outLen : Nat) (t7 : List PV) (t8 t9 : Int) (xs : List PV) : L118_1 k (n + 1) outLen t7 t8 t9 xs =
 bif decide (t9 < t8) then
  (lookP t7 t9).bind fun p1 =>
  (p1.atBool 0).bind fun b1 =>
  bif b1 then
   bif decide ((outLen + 1) * 8 ≤ LIM) && decide (outLen + 1 ≤ LIM) then
    L118_1 k n (outLen + 1) t7 t8 (IntKind.i64.wrap (t9 + 1)) ((xs.take outLen) ++ [PV.int .i64 t9])
   else none
  else L118_1 k n outLen t7 t8 (IntKind.i64.wrap (t9 + 1)) xs
 else r118 (xs.take outLen) := by kernel_rfl
end Go.Proofs.YthoecdnmokcfbaaGreat
/- Normal forms: printed by nf.py. -/
set_option linter.unusedVariables false
set_option maxRecDepth 100000
namespace Go.Proofs.YthoecdnmokcfbaaGreat
open Go.Dp

theorem n119 (k : Nat) (l : List PV) (n1 : Int) : c119 (k + 1) l n1 =
 L119_1 k k l.length n1 0 l := by kernel_rfl
theorem sL119_1 (k n : Nat) (lLen : Nat) (n1 k1 : Int) (xs : List PV) : L119_1 k (n + 1) lLen n1 k1 xs =
 bif decide (k1 < (lLen : Int)) then
  bif decide ((0 : Int) ≤ k1) && decide (k1 < (lLen : Int)) then
   (xs[0 + k1.toNat]?).bind fun p1 =>
   (p1.atInt .i64 0).bind fun n2 =>
   bif decide (n2 < n1) then
    L119_1 k n lLen n1 (IntKind.i64.wrap (k1 + 1)) xs
   else
    bif decide (k1 < (lLen : Int)) then
     bif decide ((0 : Int) ≤ k1) && decide (k1 < (lLen : Int)) then
      (xs[0 + k1.toNat]?).bind fun p2 =>
      (p2.atInt .i64 0).bind fun n3 =>
      bif (n3 == n1) then
       r119 (xs.take lLen)
      else
       bif decide ((0 : Int) ≤ k1) && decide (k1 ≤ (lLen : Int)) then
        bif decide ((0 + ((xs.take k1.toNat).length)) * 8 ≤ LIM) && decide (0 + ((xs.take k1.toNat).length) ≤ LIM) then
         bif decide (((0 + ((xs.take k1.toNat).length)) + 1) * 8 ≤ LIM) && decide ((0 + ((xs.take k1.toNat).length)) + 1 ≤ LIM) then
          bif decide ((0 : Int) ≤ k1) && decide (k1 ≤ (lLen : Int)) && decide ((lLen : Int) ≤ (lLen : Int)) then
           bif decide ((((0 + ((xs.take k1.toNat).length)) + 1) + (((xs.drop (0 + k1.toNat)).take (lLen - k1.toNat)).length)) * 8 ≤ LIM) && decide (((0 + ((xs.take k1.toNat).length)) + 1) + (((xs.drop (0 + k1.toNat)).take (lLen - k1.toNat)).length) ≤ LIM) then
            r119 (((((([] ++ (xs.take k1.toNat)).take (0 + ((xs.take k1.toNat).length))) ++ [PV.int .i64 n1]).take ((0 + ((xs.take k1.toNat).length)) + 1)) ++ ((xs.drop (0 + k1.toNat)).take (lLen - k1.toNat))).take (((0 + ((xs.take k1.toNat).length)) + 1) + (((xs.drop (0 + k1.toNat)).take (lLen - k1.toNat)).length)))
           else none
          else none
         else none
        else none
       else none
     else none
    else
     bif decide ((0 : Int) ≤ k1) && decide (k1 ≤ (lLen : Int)) then
      bif decide ((0 + ((xs.take k1.toNat).length)) * 8 ≤ LIM) && decide (0 + ((xs.take k1.toNat).length) ≤ LIM) then
       bif decide (((0 + ((xs.take k1.toNat).length)) + 1) * 8 ≤ LIM) && decide ((0 + ((xs.take k1.toNat).length)) + 1 ≤ LIM) then
        bif decide ((0 : Int) ≤ k1) && decide (k1 ≤ (lLen : Int)) && decide ((lLen : Int) ≤ (lLen : Int)) then
         bif decide ((((0 + ((xs.take k1.toNat).length)) + 1) + (((xs.drop (0 + k1.toNat)).take (lLen - k1.toNat)).length)) * 8 ≤ LIM) && decide (((0 + ((xs.take k1.toNat).length)) + 1) + (((xs.drop (0 + k1.toNat)).take (lLen - k1.toNat)).length) ≤ LIM) then
          r119 (((((([] ++ (xs.take k1.toNat)).take (0 + ((xs.take k1.toNat).length))) ++ [PV.int .i64 n1]).take ((0 + ((xs.take k1.toNat).length)) + 1)) ++ ((xs.drop (0 + k1.toNat)).take (lLen - k1.toNat))).take (((0 + ((xs.take k1.toNat).length)) + 1) + (((xs.drop (0 + k1.toNat)).take (lLen - k1.toNat)).length)))
         else none
        else none
       else none
      else none
     else none
  else none
 else
  bif decide (k1 < (lLen : Int)) then
   bif decide ((0 : Int) ≤ k1) && decide (k1 < (lLen : Int)) then
    (xs[0 + k1.toNat]?).bind fun p3 =>
    (p3.atInt .i64 0).bind fun n4 =>
    bif (n4 == n1) then
     r119 (xs.take lLen)
    else
     bif decide ((0 : Int) ≤ k1) && decide (k1 ≤ (lLen : Int)) then
      bif decide ((0 + ((xs.take k1.toNat).length)) * 8 ≤ LIM) && decide (0 + ((xs.take k1.toNat).length) ≤ LIM) then
       bif decide (((0 + ((xs.take k1.toNat).length)) + 1) * 8 ≤ LIM) && decide ((0 + ((xs.take k1.toNat).length)) + 1 ≤ LIM) then
        bif decide ((0 : Int) ≤ k1) && decide (k1 ≤ (lLen : Int)) && decide ((lLen : Int) ≤ (lLen : Int)) then
         bif decide ((((0 + ((xs.take k1.toNat).length)) + 1) + (((xs.drop (0 + k1.toNat)).take (lLen - k1.toNat)).length)) * 8 ≤ LIM) && decide (((0 + ((xs.take k1.toNat).length)) + 1) + (((xs.drop (0 + k1.toNat)).take (lLen - k1.toNat)).length) ≤ LIM) then
          r119 (((((([] ++ (xs.take k1.toNat)).take (0 + ((xs.take k1.toNat).length))) ++ [PV.int .i64 n1]).take ((0 + ((xs.take k1.toNat).length)) + 1)) ++ ((xs.drop (0 + k1.toNat)).take (lLen - k1.toNat))).take (((0 + ((xs.take k1.toNat).length)) + 1) + (((xs.drop (0 + k1.toNat)).take (lLen - k1.toNat)).length)))
         else none
        else none
       else none
      else none
     else none
   else none
  else
   bif decide ((0 : Int) ≤ k1) && decide (k1 ≤ (lLen : Int)) then
    bif decide ((0 + ((xs.take k1.toNat).length)) * 8 ≤ LIM) && decide (0 + ((xs.take k1.toNat).length) ≤ LIM) then
     bif decide (((0 + ((xs.take k1.toNat).length)) + 1) * 8 ≤ LIM) && decide ((0 + ((xs.take k1.toNat).length)) + 1 ≤ LIM) then
      bif decide ((0 : Int) ≤ k1) && decide (k1 ≤ (lLen : Int)) && decide ((lLen : Int) ≤ (lLen : Int)) then
       bif decide ((((0 + ((xs.take k1.toNat).length)) + 1) + (((xs.drop (0 + k1.toNat)).take (lLen - k1.toNat)).length)) * 8 ≤ LIM) && decide (((0 + ((xs.take k1.toNat).length)) + 1) + (((xs.drop (0 + k1.toNat)).take (lLen - k1.toNat)).length) ≤ LIM) then
        r119 (((((([] ++ (xs.take k1.toNat)).take (0 + ((xs.take k1.toNat).length))) ++ [PV.int .i64 n1]).take ((0 + ((xs.take k1.toNat).length)) + 1)) ++ ((xs.drop (0 + k1.toNat)).take (lLen - k1.toNat))).take (((0 + ((xs.take k1.toNat).length)) + 1) + (((xs.drop (0 + k1.toNat)).take (lLen - k1.toNat)).length)))
       else none
      else none
     else none
    else none
   else none := by kernel_rfl

theorem n120 (k : Nat) (p p1 : Int) (p2 p3 t qs : List PV) : c120 (k + 1) p p1 p2 p3 t qs =
 R176 (c176 k p t (IntKind.i64.wrap ((t.length : Int) - 1)) qs) fun v1 =>
 r120 (v1 == 1) := by kernel_rfl

theorem n121 (k : Nat) (p p1 : Int) (p2 p3 : List PV) (no : Int) : c121 (k + 1) p p1 p2 p3 no =
 L121_1 k k no 0 0 p p1 p2 p3 [] := by kernel_rfl
theorem sL121_1 (k n : Nat) (no : Int) (outLen : Nat) (v n1 n11 : Int) (l l1 xs : List PV) : L121_1 k (n + 1) no outLen v n1 n11 l l1 xs =
 bif decide (v < n11) then
  bif !decide (IntKind.u64.wrap (IntKind.i64.wrap (v * n1)) < 0) then
   bif !decide (IntKind.u64.wrap n1 < 0) then
    bif decide ((outLen + 1) * 8 ≤ LIM) && decide (outLen + 1 ≤ LIM) then
     L121_1 k n no (outLen + 1) (IntKind.i64.wrap (v + 1)) n1 n11 l l1 ((xs.take outLen) ++ [PV.int .u64 (IntKind.u64.wrap (bitsOp .and .i64 (shrI .i64 no (IntKind.u64.wrap (IntKind.i64.wrap (v * n1)))) (IntKind.i64.wrap ((shlI .i64 1 (IntKind.u64.wrap n1)) - 1))))])
    else none
   else none
  else none
 else r121 (xs.take outLen) := by kernel_rfl

theorem n122 (k : Nat) (g some1 : List PV) : c122 (k + 1) g some1 =
 R177 (c177 k g some1) fun l1 =>
 L122_1 k k 0 l1 (l1.length : Int) 0 [] := by kernel_rfl
theorem sL122_1 (k n : Nat) (outLen : Nat) (t11 : List PV) (t12 t13 : Int) (xs : List PV) : L122_1 k (n + 1) outLen t11 t12 t13 xs =
 bif decide (t13 < t12) then
  (lookP t11 t13).bind fun p1 =>
  (p1.atInt .i64 0).bind fun n1 =>
  bif decide (n1 ≥ 0) then
   bif decide ((outLen + 1) * 8 ≤ LIM) && decide (outLen + 1 ≤ LIM) then
    L122_1 k n (outLen + 1) t11 t12 (IntKind.i64.wrap (t13 + 1)) ((xs.take outLen) ++ [PV.int .i64 t13])
   else none
  else L122_1 k n outLen t11 t12 (IntKind.i64.wrap (t13 + 1)) xs
 else r122 (xs.take outLen) := by kernel_rfl

theorem n123 (k : Nat) (next from1 : List PV) : c123 (k + 1) next from1 =
 R178 (c178 k next from1) fun l1 =>
 L123_1 k k 0 l1 (l1.length : Int) 0 [] := by kernel_rfl
theorem sL123_1 (k n : Nat) (outLen : Nat) (t10 : List PV) (t11 t12 : Int) (xs : List PV) : L123_1 k (n + 1) outLen t10 t11 t12 xs =
 bif decide (t12 < t11) then
  (lookP t10 t12).bind fun p1 =>
  (p1.atInt .i64 0).bind fun n1 =>
  bif decide (n1 ≥ 0) then
   bif decide ((outLen + 1) * 8 ≤ LIM) && decide (outLen + 1 ≤ LIM) then
    L123_1 k n (outLen + 1) t10 t11 (IntKind.i64.wrap (t12 + 1)) ((xs.take outLen) ++ [PV.int .i64 t12])
   else none
  else L123_1 k n outLen t10 t11 (IntKind.i64.wrap (t12 + 1)) xs
 else r123 (xs.take outLen) := by kernel_rfl

theorem n124f63 (k : Nat) (qs : List PV) (n1 n11 : Int) (l l1 : List PV) : c124f63 (k + 1) qs n1 n11 l l1 =
 L124f63_1 k k qs n1 n11 l l1 (qs.length : Int) 0 := by kernel_rfl
theorem sL124f63_1 (k n : Nat) (qs : List PV) (n1 n11 : Int) (l l1 : List PV) (t7 t8 : Int) : L124f63_1 k (n + 1) qs n1 n11 l l1 t7 t8 =
 bif decide (t8 < t7) then
  (lookP qs t8).bind fun p1 =>
  (p1.atInt .i64 0).bind fun n2 =>
  R63 (c63 k n2 n1 n11 l l1) fun b1 =>
  bif b1 then
   r124f63 t8
  else L124f63_1 k n qs n1 n11 l l1 t7 (IntKind.i64.wrap (t8 + 1))
 else r124f63 (-1) := by kernel_rfl
theorem n124f143 (k : Nat) (qs : List PV) (n1 : Int) : c124f143 (k + 1) qs n1 =
 L124f143_1 k k qs (qs.length : Int) 0 n1 := by kernel_rfl
theorem sL124f143_1 (k n : Nat) (qs : List PV) (t7 t8 n1 : Int) : L124f143_1 k (n + 1) qs t7 t8 n1 =
 bif decide (t8 < t7) then
  (lookP qs t8).bind fun p1 =>
  (p1.atInt .i64 0).bind fun n2 =>
  R143 (c143 k n2 n1) fun v1 b1 =>
  bif b1 then
   r124f143 v1 t8
  else L124f143_1 k n qs t7 (IntKind.i64.wrap (t8 + 1)) v1
 else r124f143 n1 (-1) := by kernel_rfl

theorem n125 (k : Nat) (qs : List PV) (v : Int) : c125 (k + 1) qs v =
 L125_1 k k qs v (qs.length : Int) 0 := by kernel_rfl
theorem sL125_1 (k n : Nat) (qs : List PV) (v t7 t8 : Int) : L125_1 k (n + 1) qs v t7 t8 =
 bif decide (t8 < t7) then
  (lookP qs t8).bind fun p1 =>
  (p1.atInt .i64 0).bind fun n1 =>
  bif (v == n1) then
   r125 t8
  else L125_1 k n qs v t7 (IntKind.i64.wrap (t8 + 1))
 else r125 (-1) := by kernel_rfl

theorem n126 (k : Nat) (p p1 : Int) (p2 p3 qs : List PV) : c126 (k + 1) p p1 p2 p3 qs =
 L126_1 k k 0 qs (qs.length : Int) 0 p p1 p2 p3 := by kernel_rfl
theorem sL126_1 (k n : Nat) (no : Int) (t8 : List PV) (t9 t10 n1 n11 : Int) (l l1 : List PV) : L126_1 k (n + 1) no t8 t9 t10 n1 n11 l l1 =
 bif decide (t10 < t9) then
  (lookP t8 t10).bind fun p1 =>
  (p1.atInt .u64 0).bind fun n2 =>
  bif !decide (IntKind.i64.wrap (n1 * t10) < 0) then
   L126_1 k n (bitsOp .or .i64 no (shlI .i64 (IntKind.i64.wrap n2) (IntKind.i64.wrap (n1 * t10)))) t8 t9 (IntKind.i64.wrap (t10 + 1)) n1 n11 l l1
  else none
 else r126 no := by kernel_rfl

theorem n127 (k : Nat) (p p1 : Int) (p2 p3 qc qc1 qs : List PV) : c127 (k + 1) p p1 p2 p3 qc qc1 qs =
 R179 (c179 k qs) fun l1 =>
 L127_1 k k qs l1.length qc1 (qc1.length : Int) 0 p p1 p2 p3 l1 := by kernel_rfl
theorem sL127_1 (k n : Nat) (qs : List PV) (outLen : Nat) (t13 : List PV) (t14 t15 n1 n11 : Int) (l l1 xs : List PV) : L127_1 k (n + 1) qs outLen t13 t14 t15 n1 n11 l l1 xs =
 bif decide (t15 < t14) then
  (lookP t13 t15).bind fun p1 =>
  bif p1.shp 2 then
   (p1.atInt .i64 0).bind fun n2 =>
   (p1.atRow 2 1).bind fun l2 =>
   R130 (c130 k n1 l2 qs) fun v1 =>
   bif decide ((0 : Int) ≤ n2) && decide (n2 < (outLen : Int)) then
    (xs[0 + n2.toNat]?).bind fun p2 =>
    L127_1 k n qs outLen t13 t14 (IntKind.i64.wrap (t15 + 1)) n1 n11 l l1 (xs.set (0 + n2.toNat) (PV.int .u64 v1))
   else none
  else none
 else r127 (xs.take outLen) := by kernel_rfl

theorem n130 (k : Nat) (wide : Int) (t state : List PV) : c130 (k + 1) wide t state =
 L130_1 k k wide state 0 t (t.length : Int) 0 [] := by kernel_rfl
theorem sL130_1 (k n : Nat) (wide : Int) (state : List PV) (stackLen : Nat) (t12 : List PV) (t13 t14 : Int) (xs : List PV) : L130_1 k (n + 1) wide state stackLen t12 t13 t14 xs =
 bif decide (t14 < t13) then
  (lookP t12 t14).bind fun p1 =>
  bif p1.shp 2 then
   (p1.atInt .i64 0).bind fun n1 =>
   (p1.atInt .u64 1).bind fun n2 =>
   bif (n1 == 1) then
    bif decide ((stackLen + 1) * 8 ≤ LIM) && decide (stackLen + 1 ≤ LIM) then
     L130_1 k n wide state (stackLen + 1) t12 t13 (IntKind.i64.wrap (t14 + 1)) ((xs.take stackLen) ++ [PV.int .u64 n2])
    else none
   else
    bif (n1 == 20) then
     bif decide ((stackLen + 1) * 8 ≤ LIM) && decide (stackLen + 1 ≤ LIM) then
      L130_1 k n wide state (stackLen + 1) t12 t13 (IntKind.i64.wrap (t14 + 1)) ((xs.take stackLen) ++ [PV.int .u64 n2])
     else none
    else
     bif (n1 == 2) then
      (lookP state n2).bind fun p2 =>
      (p2.atInt .u64 0).bind fun n3 =>
      bif decide ((stackLen + 1) * 8 ≤ LIM) && decide (stackLen + 1 ≤ LIM) then
       L130_1 k n wide state (stackLen + 1) t12 t13 (IntKind.i64.wrap (t14 + 1)) ((xs.take stackLen) ++ [PV.int .u64 n3])
      else none
     else
      bif (n1 == 13) then
       bif decide ((0 : Int) ≤ IntKind.i64.wrap ((stackLen : Int) - 1)) && decide (IntKind.i64.wrap ((stackLen : Int) - 1) < (stackLen : Int)) then
        (xs[0 + ((IntKind.i64.wrap ((stackLen : Int) - 1)).toNat)]?).bind fun p3 =>
        (p3.atInt .u64 0).bind fun n4 =>
        R131 (c131 k wide) fun v1 =>
        bif decide ((0 : Int) ≤ IntKind.i64.wrap ((stackLen : Int) - 1)) && decide (IntKind.i64.wrap ((stackLen : Int) - 1) < (stackLen : Int)) then
         (xs[0 + ((IntKind.i64.wrap ((stackLen : Int) - 1)).toNat)]?).bind fun p4 =>
         L130_1 k n wide state stackLen t12 t13 (IntKind.i64.wrap (t14 + 1)) (xs.set (0 + ((IntKind.i64.wrap ((stackLen : Int) - 1)).toNat)) (PV.int .u64 (bitsOp .and .u64 (bitsOp .xor .u64 18446744073709551615 n4) v1)))
        else none
       else none
      else
       bif (n1 == 19) then
        bif decide ((0 : Int) ≤ IntKind.i64.wrap ((stackLen : Int) - 1)) && decide (IntKind.i64.wrap ((stackLen : Int) - 1) < (stackLen : Int)) then
         (xs[0 + ((IntKind.i64.wrap ((stackLen : Int) - 1)).toNat)]?).bind fun p5 =>
         (p5.atInt .u64 0).bind fun n5 =>
         bif decide ((0 : Int) ≤ IntKind.i64.wrap ((stackLen : Int) - 1)) && decide (IntKind.i64.wrap ((stackLen : Int) - 1) < (stackLen : Int)) then
          (xs[0 + ((IntKind.i64.wrap ((stackLen : Int) - 1)).toNat)]?).bind fun p6 =>
          L130_1 k n wide state stackLen t12 t13 (IntKind.i64.wrap (t14 + 1)) (xs.set (0 + ((IntKind.i64.wrap ((stackLen : Int) - 1)).toNat)) (PV.int .u64 (IntKind.u64.wrap (1 - n5))))
         else none
        else none
       else
        bif decide ((0 : Int) ≤ IntKind.i64.wrap ((IntKind.i64.wrap ((stackLen : Int) - 1)) - 1)) && decide (IntKind.i64.wrap ((IntKind.i64.wrap ((stackLen : Int) - 1)) - 1) ≤ (stackLen : Int)) then
         bif decide ((0 : Int) ≤ IntKind.i64.wrap ((IntKind.i64.wrap ((stackLen : Int) - 1)) - 1)) && decide (IntKind.i64.wrap ((IntKind.i64.wrap ((stackLen : Int) - 1)) - 1) < (stackLen : Int)) then
          (xs[0 + ((IntKind.i64.wrap ((IntKind.i64.wrap ((stackLen : Int) - 1)) - 1)).toNat)]?).bind fun p7 =>
          (p7.atInt .u64 0).bind fun n6 =>
          bif decide ((0 : Int) ≤ IntKind.i64.wrap ((stackLen : Int) - 1)) && decide (IntKind.i64.wrap ((stackLen : Int) - 1) < (stackLen : Int)) then
           (xs[0 + ((IntKind.i64.wrap ((stackLen : Int) - 1)).toNat)]?).bind fun p8 =>
           (p8.atInt .u64 0).bind fun n7 =>
           R182 (c182 k wide n1 n6 n7) fun v2 =>
           bif decide ((((IntKind.i64.wrap ((IntKind.i64.wrap ((stackLen : Int) - 1)) - 1)).toNat) + 1) * 8 ≤ LIM) && decide (((IntKind.i64.wrap ((IntKind.i64.wrap ((stackLen : Int) - 1)) - 1)).toNat) + 1 ≤ LIM) then
            L130_1 k n wide state (((IntKind.i64.wrap ((IntKind.i64.wrap ((stackLen : Int) - 1)) - 1)).toNat) + 1) t12 t13 (IntKind.i64.wrap (t14 + 1)) ((xs.take ((IntKind.i64.wrap ((IntKind.i64.wrap ((stackLen : Int) - 1)) - 1)).toNat)) ++ [PV.int .u64 v2])
           else none
          else none
         else none
        else none
  else none
 else
  bif decide ((0 : Int) < (stackLen : Int)) then
   (xs[0]?).bind fun p9 =>
   (p9.atInt .u64 0).bind fun n8 =>
   r130 n8
  else none := by kernel_rfl

theorem n131 (k : Nat) (wide : Int) : c131 (k + 1) wide =
 bif !decide (IntKind.i64.wrap (64 - wide) < 0) then
  r131 (shrI .u64 18446744073709551615 (IntKind.i64.wrap (64 - wide)))
 else none := by kernel_rfl

theorem n132 (k : Nat) (p p1 : Int) (p2 p3 : List PV) : c132 (k + 1) p p1 p2 p3 =
 R139 (c139 k p) fun b1 =>
 bif !b1 then
  r132 false
 else
  R140 (c140 k p1) fun b2 =>
  bif !b2 then
   r132 false
  else
   R72 (c72 k p p1 p2 p3 p2) fun b3 =>
   bif !b3 then
    r132 false
   else
    bif decide ((p3.length : Int) < 1) then
     r132 false
    else
     bif decide ((p3.length : Int) > 6) then
      r132 false
     else
      R183f184 (c183f184 k p3 p p1 p2 p3) fun v1 v2 l1 l2 b4 =>
      r132 (!b4) := by kernel_rfl

theorem n133 (k : Nat) (p p1 : Int) (p2 p3 : List PV) : c133 (k + 1) p p1 p2 p3 =
 R50 (c50 k p p1 p2 p3) fun v1 =>
 L133_1 k k 0 v1 0 p p1 p2 p3 [] := by kernel_rfl
theorem sL133_1 (k n : Nat) (outLen : Nat) (t7 t8 n1 n11 : Int) (l l1 xs : List PV) : L133_1 k (n + 1) outLen t7 t8 n1 n11 l l1 xs =
 bif decide (t8 < t7) then
  R66 (c66 k n1 n11 l l1 t8) fun l2 =>
  bif decide ((outLen + 1) * 24 ≤ LIM) && decide (outLen + 1 ≤ LIM) then
   L133_1 k n (outLen + 1) t7 (IntKind.i64.wrap (t8 + 1)) n1 n11 l l1 ((xs.take outLen) ++ [PV.row 0 0 l2])
  else none
 else r133 (xs.take outLen) := by kernel_rfl

theorem n134 (k : Nat) (wide vars deep : Int) (l : List PV) (n1 n11 : Int) : c134 (k + 1) wide vars deep l n1 n11 =
 R48 (c48 k 20 l n1 n11) fun l1 v1 v2 b1 =>
 bif b1 then
  R103 (c103 k 2 l1 v1 v2) fun l2 v3 v4 v5 =>
  r134 l2 v3 v4 [PV.agg [.int .i64 20, .int .u64 (IntKind.u64.wrap v5)]]
 else
  bif decide (deep > 0) then
   R48 (c48 k 4 l1 v1 v2) fun l3 v6 v7 b2 =>
   bif b2 then
    R134 (c134 k wide vars (IntKind.i64.wrap (deep - 1)) l3 v6 v7) fun l4 v8 v9 l5 =>
    bif decide ((l5.length + 1) * 16 ≤ LIM) && decide (l5.length + 1 ≤ LIM) then
     r134 l4 v8 v9 (((l5.take l5.length) ++ [PV.agg [.int .i64 19, .int .u64 0]]).take (l5.length + 1))
    else none
   else
    bif decide (deep > 0) then
     R48 (c48 k 2 l3 v6 v7) fun l6 v10 v11 b3 =>
     bif b3 then
      R134 (c134 k wide vars (IntKind.i64.wrap (deep - 1)) l6 v10 v11) fun l7 v12 v13 l8 =>
      R134 (c134 k wide vars (IntKind.i64.wrap (deep - 1)) l7 v12 v13) fun l9 v14 v15 l10 =>
      bif decide ((l8.length + ((l10.take l10.length).length)) * 16 ≤ LIM) && decide (l8.length + ((l10.take l10.length).length) ≤ LIM) then
       R102 (c102 k [PV.int .i64 17, PV.int .i64 18] l9 v14 v15) fun l11 v16 v17 v18 =>
       bif decide (((l8.length + ((l10.take l10.length).length)) + 1) * 16 ≤ LIM) && decide ((l8.length + ((l10.take l10.length).length)) + 1 ≤ LIM) then
        r134 l11 v16 v17 (((((l8.take l8.length) ++ (l10.take l10.length)).take (l8.length + ((l10.take l10.length).length))) ++ [PV.agg [.int .i64 v18, .int .u64 0]]).take ((l8.length + ((l10.take l10.length).length)) + 1))
       else none
      else none
     else
      R186 (c186 k wide vars 1 l6 v10 v11) fun l12 v19 v20 l13 =>
      R103 (c103 k 2 l12 v19 v20) fun l14 v21 v22 v23 =>
      R186 (c186 k wide vars v23 l14 v21 v22) fun l15 v24 v25 l16 =>
      bif decide ((l13.length + ((l16.take l16.length).length)) * 16 ≤ LIM) && decide (l13.length + ((l16.take l16.length).length) ≤ LIM) then
       R102 (c102 k [PV.int .i64 14, PV.int .i64 15, PV.int .i64 15, PV.int .i64 16] l15 v24 v25) fun l17 v26 v27 v28 =>
       bif decide (((l13.length + ((l16.take l16.length).length)) + 1) * 16 ≤ LIM) && decide ((l13.length + ((l16.take l16.length).length)) + 1 ≤ LIM) then
        r134 l17 v26 v27 (((((l13.take l13.length) ++ (l16.take l16.length)).take (l13.length + ((l16.take l16.length).length))) ++ [PV.agg [.int .i64 v28, .int .u64 0]]).take ((l13.length + ((l16.take l16.length).length)) + 1))
       else none
      else none
    else
     R186 (c186 k wide vars 1 l3 v6 v7) fun l18 v29 v30 l19 =>
     R103 (c103 k 2 l18 v29 v30) fun l20 v31 v32 v33 =>
     R186 (c186 k wide vars v33 l20 v31 v32) fun l21 v34 v35 l22 =>
     bif decide ((l19.length + ((l22.take l22.length).length)) * 16 ≤ LIM) && decide (l19.length + ((l22.take l22.length).length) ≤ LIM) then
      R102 (c102 k [PV.int .i64 14, PV.int .i64 15, PV.int .i64 15, PV.int .i64 16] l21 v34 v35) fun l23 v36 v37 v38 =>
      bif decide (((l19.length + ((l22.take l22.length).length)) + 1) * 16 ≤ LIM) && decide ((l19.length + ((l22.take l22.length).length)) + 1 ≤ LIM) then
       r134 l23 v36 v37 (((((l19.take l19.length) ++ (l22.take l22.length)).take (l19.length + ((l22.take l22.length).length))) ++ [PV.agg [.int .i64 v38, .int .u64 0]]).take ((l19.length + ((l22.take l22.length).length)) + 1))
      else none
     else none
  else
   bif decide (deep > 0) then
    R48 (c48 k 2 l1 v1 v2) fun l24 v39 v40 b4 =>
    bif b4 then
     R134 (c134 k wide vars (IntKind.i64.wrap (deep - 1)) l24 v39 v40) fun l25 v41 v42 l26 =>
     R134 (c134 k wide vars (IntKind.i64.wrap (deep - 1)) l25 v41 v42) fun l27 v43 v44 l28 =>
     bif decide ((l26.length + ((l28.take l28.length).length)) * 16 ≤ LIM) && decide (l26.length + ((l28.take l28.length).length) ≤ LIM) then
      R102 (c102 k [PV.int .i64 17, PV.int .i64 18] l27 v43 v44) fun l29 v45 v46 v47 =>
      bif decide (((l26.length + ((l28.take l28.length).length)) + 1) * 16 ≤ LIM) && decide ((l26.length + ((l28.take l28.length).length)) + 1 ≤ LIM) then
       r134 l29 v45 v46 (((((l26.take l26.length) ++ (l28.take l28.length)).take (l26.length + ((l28.take l28.length).length))) ++ [PV.agg [.int .i64 v47, .int .u64 0]]).take ((l26.length + ((l28.take l28.length).length)) + 1))
      else none
     else none
    else
     R186 (c186 k wide vars 1 l24 v39 v40) fun l30 v48 v49 l31 =>
     R103 (c103 k 2 l30 v48 v49) fun l32 v50 v51 v52 =>
     R186 (c186 k wide vars v52 l32 v50 v51) fun l33 v53 v54 l34 =>
     bif decide ((l31.length + ((l34.take l34.length).length)) * 16 ≤ LIM) && decide (l31.length + ((l34.take l34.length).length) ≤ LIM) then
      R102 (c102 k [PV.int .i64 14, PV.int .i64 15, PV.int .i64 15, PV.int .i64 16] l33 v53 v54) fun l35 v55 v56 v57 =>
      bif decide (((l31.length + ((l34.take l34.length).length)) + 1) * 16 ≤ LIM) && decide ((l31.length + ((l34.take l34.length).length)) + 1 ≤ LIM) then
       r134 l35 v55 v56 (((((l31.take l31.length) ++ (l34.take l34.length)).take (l31.length + ((l34.take l34.length).length))) ++ [PV.agg [.int .i64 v57, .int .u64 0]]).take ((l31.length + ((l34.take l34.length).length)) + 1))
      else none
     else none
   else
    R186 (c186 k wide vars 1 l1 v1 v2) fun l36 v58 v59 l37 =>
    R103 (c103 k 2 l36 v58 v59) fun l38 v60 v61 v62 =>
    R186 (c186 k wide vars v62 l38 v60 v61) fun l39 v63 v64 l40 =>
    bif decide ((l37.length + ((l40.take l40.length).length)) * 16 ≤ LIM) && decide (l37.length + ((l40.take l40.length).length) ≤ LIM) then
     R102 (c102 k [PV.int .i64 14, PV.int .i64 15, PV.int .i64 15, PV.int .i64 16] l39 v63 v64) fun l41 v65 v66 v67 =>
     bif decide (((l37.length + ((l40.take l40.length).length)) + 1) * 16 ≤ LIM) && decide ((l37.length + ((l40.take l40.length).length)) + 1 ≤ LIM) then
      r134 l41 v65 v66 (((((l37.take l37.length) ++ (l40.take l40.length)).take (l37.length + ((l40.take l40.length).length))) ++ [PV.agg [.int .i64 v67, .int .u64 0]]).take ((l37.length + ((l40.take l40.length).length)) + 1))
     else none
    else none := by kernel_rfl

theorem n135 (k : Nat) (n1 : Int) : c135 (k + 1) n1 =
 bif decide (n1 < 1) then
  r135 1
 else r135 n1 := by kernel_rfl

theorem n136 (k : Nat) (wide vars : Int) (t : List PV) (kind : Int) : c136 (k + 1) wide vars t kind =
 R77 (c77 k wide vars t) fun b1 =>
 bif b1 then
  R187 (c187 k t) fun v1 =>
  r136 (v1 == kind)
 else r136 false := by kernel_rfl
end Go.Proofs.YthoecdnmokcfbaaGreat
/- Normal forms: printed by nf.py. -/
set_option linter.unusedVariables false
set_option maxRecDepth 100000
namespace Go.Proofs.YthoecdnmokcfbaaGreat
open Go.Dp

theorem n137 (k : Nat) (wide vars : Int) (t : List PV) : c137 (k + 1) wide vars t =
 R188 (c188 k wide) fun b1 =>
 bif !b1 then
  r137 0
 else
  R52 (c52 k vars 1 4) fun b2 =>
  bif !b2 then
   r137 0
  else
   R52 (c52 k (t.length : Int) 1 48) fun b3 =>
   bif !b3 then
    r137 0
   else L137_1 k k wide vars 0 t (t.length : Int) 0 [] := by kernel_rfl
theorem sL137_1 (k n : Nat) (wide vars : Int) (pileLen : Nat) (t27 : List PV) (t28 t29 : Int) (xs : List PV) : L137_1 k (n + 1) wide vars pileLen t27 t28 t29 xs =
 bif decide (t29 < t28) then
  (lookP t27 t29).bind fun p1 =>
  bif p1.shp 2 then
   (p1.atInt .i64 0).bind fun n1 =>
   (p1.atInt .u64 1).bind fun n2 =>
   R189 (c189 k n1) fun v1 v2 v3 =>
   bif (v3 == 0) then
    r137 0
   else
    R190 (c190 k wide vars n1 n2) fun b1 =>
    bif !b1 then
     r137 0
    else
     bif decide ((pileLen : Int) < v1) then
      r137 0
     else L137_2 k n k wide vars pileLen v1 v2 v3 t27 t28 t29 xs
  else none
 else
  bif ((pileLen : Int) != 1) then
   r137 0
  else
   bif decide ((0 : Int) < (pileLen : Int)) then
    (xs[0]?).bind fun p2 =>
    (p2.atInt .i64 0).bind fun n3 =>
    r137 n3
   else none := by kernel_rfl
theorem sL137_2 (k n1 n : Nat) (wide vars : Int) (pileLen : Nat) (many part own : Int) (t27 : List PV) (t28 t29 : Int) (xs : List PV) : L137_2 k n1 (n + 1) wide vars pileLen many part own t27 t28 t29 xs =
 bif decide (many > 0) then
  bif decide ((0 : Int) ≤ IntKind.i64.wrap ((pileLen : Int) - 1)) && decide (IntKind.i64.wrap ((pileLen : Int) - 1) < (pileLen : Int)) then
   (xs[0 + ((IntKind.i64.wrap ((pileLen : Int) - 1)).toNat)]?).bind fun p1 =>
   (p1.atInt .i64 0).bind fun n2 =>
   bif (n2 != part) then
    r137 0
   else
    bif decide ((0 : Int) ≤ IntKind.i64.wrap ((pileLen : Int) - 1)) && decide (IntKind.i64.wrap ((pileLen : Int) - 1) ≤ (pileLen : Int)) then
     L137_2 k n1 n wide vars ((IntKind.i64.wrap ((pileLen : Int) - 1)).toNat) (IntKind.i64.wrap (many - 1)) part own t27 t28 t29 xs
    else none
  else none
 else
  bif decide ((pileLen + 1) * 8 ≤ LIM) && decide (pileLen + 1 ≤ LIM) then
   L137_1 k n1 wide vars (pileLen + 1) t27 t28 (IntKind.i64.wrap (t29 + 1)) ((xs.take pileLen) ++ [PV.int .i64 own])
  else none := by kernel_rfl

theorem n138 (k : Nat) (l : List PV) (n1 : Int) : c138 (k + 1) l n1 =
 L138_1 k k n1 l (l.length : Int) 0 := by kernel_rfl
theorem sL138_1 (k n : Nat) (n1 : Int) (t7 : List PV) (t8 t9 : Int) : L138_1 k (n + 1) n1 t7 t8 t9 =
 bif decide (t9 < t8) then
  (lookP t7 t9).bind fun p1 =>
  (p1.atInt .i64 0).bind fun n2 =>
  bif (n2 == n1) then
   r138 true
  else L138_1 k n n1 t7 t8 (IntKind.i64.wrap (t9 + 1))
 else r138 false := by kernel_rfl

theorem n139 (k : Nat) (n1 : Int) : c139 (k + 1) n1 =
 bif decide (n1 ≥ 1) then
  r139 (decide (n1 ≤ 64))
 else r139 false := by kernel_rfl

theorem n140 (k : Nat) (n1 : Int) : c140 (k + 1) n1 =
 bif decide (n1 ≥ 1) then
  r140 (decide (n1 ≤ 4))
 else r140 false := by kernel_rfl

theorem n141 (k : Nat) (op : Int) : c141 (k + 1) op =
 bif (op == 1) then
  r141 0 0 1
 else
  bif (op == 2) then
   r141 0 0 1
  else
   bif (op == 20) then
    r141 0 0 2
   else
    bif (op == 13) then
     r141 1 1 1
    else
     bif (op == 19) then
      r141 1 2 2
     else
      bif decide (op ≥ 3) then
       bif decide (op ≤ 12) then
        r141 2 1 1
       else
        bif decide (op ≥ 14) then
         bif decide (op ≤ 16) then
          r141 2 1 2
         else
          bif (op == 17) then
           r141 2 2 2
          else
           bif (op == 18) then
            r141 2 2 2
           else r141 0 0 0
        else
         bif (op == 17) then
          r141 2 2 2
         else
          bif (op == 18) then
           r141 2 2 2
          else r141 0 0 0
      else
       bif decide (op ≥ 14) then
        bif decide (op ≤ 16) then
         r141 2 1 2
        else
         bif (op == 17) then
          r141 2 2 2
         else
          bif (op == 18) then
           r141 2 2 2
          else r141 0 0 0
       else
        bif (op == 17) then
         r141 2 2 2
        else
         bif (op == 18) then
          r141 2 2 2
         else r141 0 0 0 := by kernel_rfl

theorem n142 (k : Nat) (wide vars x x1 : Int) : c142 (k + 1) wide vars x x1 =
 bif (x == 1) then
  R191 (c191 k wide x1) fun b1 =>
  r142 b1
 else
  bif (x == 2) then
   r142 (decide (x1 < IntKind.u64.wrap vars))
  else
   bif (x == 20) then
    r142 (decide (x1 ≤ 1))
   else r142 (x1 == 0) := by kernel_rfl

theorem n143 (k : Nat) (own n1 : Int) : c143 (k + 1) own n1 =
 r143 n1 (own != n1) := by kernel_rfl

theorem n148 (k : Nat) (v : List PV) (class1 : Int) : c148 (k + 1) v class1 =
 L148_1 k k class1 0 v (v.length : Int) 0 [] := by kernel_rfl
theorem sL148_1 (k n : Nat) (class1 : Int) (outLen : Nat) (t9 : List PV) (t10 t11 : Int) (xs : List PV) : L148_1 k (n + 1) class1 outLen t9 t10 t11 xs =
 bif decide (t11 < t10) then
  (lookP t9 t11).bind fun p1 =>
  (p1.atInt .i64 0).bind fun n1 =>
  bif (n1 == class1) then
   bif decide ((outLen + 1) * 8 ≤ LIM) && decide (outLen + 1 ≤ LIM) then
    L148_1 k n class1 (outLen + 1) t9 t10 (IntKind.i64.wrap (t11 + 1)) ((xs.take outLen) ++ [PV.int .i64 t11])
   else none
  else L148_1 k n class1 outLen t9 t10 (IntKind.i64.wrap (t11 + 1)) xs
 else r148 (xs.take outLen) := by kernel_rfl

theorem n149 (k : Nat) (p p1 : Int) (p2 p3 some1 : List PV) : c149 (k + 1) p p1 p2 p3 some1 =
 L149_1 k k 0 some1 (some1.length : Int) 0 p p1 p2 p3 [] := by kernel_rfl
theorem sL149_1 (k n : Nat) (outLen : Nat) (t10 : List PV) (t11 t12 n1 n11 : Int) (l l1 xs : List PV) : L149_1 k (n + 1) outLen t10 t11 t12 n1 n11 l l1 xs =
 bif decide (t12 < t11) then
  (lookP t10 t12).bind fun p1 =>
  (p1.atInt .i64 0).bind fun n2 =>
  R111 (c111 k n1 n11 l l1 n2) fun l2 =>
  L149_2 k n k outLen t10 t11 t12 l2 (l2.length : Int) 0 n1 n11 l l1 xs
 else r149 (xs.take outLen) := by kernel_rfl
theorem sL149_2 (k n1 n : Nat) (outLen : Nat) (t10 : List PV) (t11 t12 : Int) (t18 : List PV) (t19 t20 n11 n12 : Int) (l l1 xs : List PV) : L149_2 k n1 (n + 1) outLen t10 t11 t12 t18 t19 t20 n11 n12 l l1 xs =
 bif decide (t20 < t19) then
  (lookP t18 t20).bind fun p1 =>
  (p1.atInt .i64 0).bind fun n2 =>
  R119 (c119 k (xs.take outLen) n2) fun l2 =>
  L149_2 k n1 n l2.length t10 t11 t12 t18 t19 (IntKind.i64.wrap (t20 + 1)) n11 n12 l l1 l2
 else L149_1 k n1 outLen t10 t11 (IntKind.i64.wrap (t12 + 1)) n11 n12 l l1 xs := by kernel_rfl

theorem n160 (k : Nat) (qs : List PV) (h1 : qs.length * 8 ≤ LIM) (h2 : qs.length ≤ LIM) : c160 (k + 1) qs = r160 qs := evF_T (by first | (simp [T, orT, numT, cloneT, clones, lk, h1, h2] <;> rfl) | (simp [T, cloneT, clones, lk, h1, h2] <;> rfl))

theorem n163 (k : Nat) (l : List PV) (n1 n11 : Int) : c163 (k + 1) l n1 n11 =
 bif decide (n1 < (l.length : Int)) then
  (lookP l n1).bind fun p1 =>
  (p1.atInt .u8 0).bind fun n2 =>
  bif decide (IntKind.i64.wrap (n1 + 1) ≤ (l.length : Int)) then
   r163 l (IntKind.i64.wrap (n1 + 1)) (IntKind.u64.wrap ((IntKind.u64.wrap ((IntKind.u64.wrap (n11 * 6364136223846793005)) + (IntKind.u64.wrap (IntKind.i64.wrap n2)))) + 1442695040888963407)) (IntKind.i64.wrap n2)
  else r163 l (IntKind.i64.wrap (n1 + 1)) (IntKind.u64.wrap ((IntKind.u64.wrap ((IntKind.u64.wrap (n11 * 6364136223846793005)) + (IntKind.u64.wrap (IntKind.i64.wrap n2)))) + 1442695040888963407)) (IntKind.i64.wrap (bitsOp .and .u64 (shrI .u64 (IntKind.u64.wrap ((IntKind.u64.wrap ((IntKind.u64.wrap (n11 * 6364136223846793005)) + (IntKind.u64.wrap (IntKind.i64.wrap n2)))) + 1442695040888963407)) 40) 255))
 else
  bif decide (IntKind.i64.wrap (n1 + 1) ≤ (l.length : Int)) then
   r163 l (IntKind.i64.wrap (n1 + 1)) (IntKind.u64.wrap ((IntKind.u64.wrap ((IntKind.u64.wrap (n11 * 6364136223846793005)) + 0)) + 1442695040888963407)) 0
  else r163 l (IntKind.i64.wrap (n1 + 1)) (IntKind.u64.wrap ((IntKind.u64.wrap ((IntKind.u64.wrap (n11 * 6364136223846793005)) + 0)) + 1442695040888963407)) (IntKind.i64.wrap (bitsOp .and .u64 (shrI .u64 (IntKind.u64.wrap ((IntKind.u64.wrap ((IntKind.u64.wrap (n11 * 6364136223846793005)) + 0)) + 1442695040888963407)) 40) 255)) := by kernel_rfl

theorem n164 (k : Nat) (wide vars : Int) (l : List PV) (n1 n11 : Int) : c164 (k + 1) wide vars l n1 n11 =
 R103 (c103 k 2 l n1 n11) fun l1 v1 v2 v3 =>
 R134 (c134 k wide vars v3 l1 v1 v2) fun l2 v4 v5 l3 =>
 L164_1 k k wide vars 0 l2 v4 v5 [] [] l3.length 0 l3 [] := by kernel_rfl
theorem sL164_1 (k n : Nat) (wide vars v : Int) (l : List PV) (n1 n11 : Int) (l1 l2 : List PV) (Len Len1 : Nat) (xs xs1 : List PV) : L164_1 k (n + 1) wide vars v l n1 n11 l1 l2 Len Len1 xs xs1 =
 bif decide (v < vars) then
  R48 (c48 k 2 l n1 n11) fun l3 v1 v2 b1 =>
  bif b1 then
   R186 (c186 k wide vars 1 l3 v1 v2) fun l4 v3 v4 l5 =>
   bif decide ((Len1 + 1) * 32 ≤ LIM) && decide (Len1 + 1 ≤ LIM) then
    L164_1 k n wide vars (IntKind.i64.wrap (v + 1)) l4 v3 v4 l1 l2 Len (Len1 + 1) xs ((xs1.take Len1) ++ [PV.agg [.int .i64 v, .row 2 0 (l5.take l5.length)]])
   else none
  else L164_1 k n wide vars (IntKind.i64.wrap (v + 1)) l3 v1 v2 l1 l2 Len Len1 xs xs1
 else r164 l n1 n11 (xs.take Len) (xs1.take Len1) := by kernel_rfl

theorem n165 (k : Nat) (p p1 : Int) (p2 p3 preds : List PV) : c165 (k + 1) p p1 p2 p3 preds =
 bif decide ((preds.length : Int) > 8) then
  r165 false
 else L165_1 k k preds (preds.length : Int) 0 p p1 p2 p3 := by kernel_rfl
theorem sL165_1 (k n : Nat) (t10 : List PV) (t11 t12 n1 n11 : Int) (l l1 : List PV) : L165_1 k (n + 1) t10 t11 t12 n1 n11 l l1 =
 bif decide (t12 < t11) then
  (lookP t10 t12).bind fun p1 =>
  (p1.atRow 2 0).bind fun l2 =>
  R74 (c74 k n1 n11 l l1 l2) fun b1 =>
  bif !b1 then
   r165 false
  else L165_1 k n t10 t11 (IntKind.i64.wrap (t12 + 1)) n1 n11 l l1
 else r165 true := by kernel_rfl

theorem n166 (k : Nat) (p p1 : Int) (p2 p3 preds : List PV) : c166 (k + 1) p p1 p2 p3 preds =
 R115 (c115 k p p1 p2 p3) fun v1 =>
 bif (v1 == v1) && decide ((0 : Int) ≤ v1) && decide (v1.toNat * 8 ≤ LIM) && decide (v1.toNat ≤ LIM) then
  L166_1 k k preds (preds.length : Int) 0 p p1 p2 p3 [] v1.toNat (List.replicate v1.toNat (PV.int .i64 0))
 else none := by kernel_rfl
theorem sL166_1 (k n : Nat) (t12 : List PV) (t13 t14 n1 n11 : Int) (l l1 l2 : List PV) (Len : Nat) (xs : List PV) : L166_1 k (n + 1) t12 t13 t14 n1 n11 l l1 l2 Len xs =
 bif decide (t14 < t13) then
  (lookP t12 t14).bind fun p1 =>
  (p1.atRow 2 0).bind fun l3 =>
  R194p (c194 k n1 n11 l l1 (xs.take Len) l3) fun l4 =>
  L166_1 k n t12 t13 (IntKind.i64.wrap (t14 + 1)) n1 n11 l l1 l2 l4.length l4
 else r166 (xs.take Len) := by kernel_rfl

theorem n167 (k : Nat) (l : List PV) (lo hi : Int) : c167 (k + 1) l lo hi =
 L167_1 k k l lo hi l (l.length : Int) 0 := by kernel_rfl
theorem sL167_1 (k n : Nat) (l : List PV) (lo hi : Int) (t9 : List PV) (t10 t11 : Int) : L167_1 k (n + 1) l lo hi t9 t10 t11 =
 bif decide (t11 < t10) then
  (lookP t9 t11).bind fun p1 =>
  (p1.atInt .i64 0).bind fun n1 =>
  R52 (c52 k n1 lo hi) fun b1 =>
  bif !b1 then
   r167 false
  else
   bif decide (t11 > 0) then
    (lookP l (IntKind.i64.wrap (t11 - 1))).bind fun p2 =>
    (p2.atInt .i64 0).bind fun n2 =>
    bif decide (n2 ≥ n1) then
     r167 false
    else L167_1 k n l lo hi t9 t10 (IntKind.i64.wrap (t11 + 1))
   else L167_1 k n l lo hi t9 t10 (IntKind.i64.wrap (t11 + 1))
 else r167 true := by kernel_rfl

theorem n168 (k : Nat) (v some1 : List PV) : c168 (k + 1) v some1 =
 L168_1 k k some1 0 v (v.length : Int) 0 [] [] := by kernel_rfl
theorem sL168_1 (k n : Nat) (some1 : List PV) (keysLen : Nat) (t9 : List PV) (t10 t11 : Int) (l xs : List PV) : L168_1 k (n + 1) some1 keysLen t9 t10 t11 l xs =
 bif decide (t11 < t10) then
  (lookP t9 t11).bind fun p1 =>
  (p1.atInt .i64 0).bind fun n1 =>
  R138 (c138 k some1 t11) fun b1 =>
  bif b1 then
   bif decide ((keysLen + 1) * 8 ≤ LIM) && decide (keysLen + 1 ≤ LIM) then
    L168_1 k n some1 (keysLen + 1) t9 t10 (IntKind.i64.wrap (t11 + 1)) l ((xs.take keysLen) ++ [PV.int .i64 (IntKind.i64.wrap ((IntKind.i64.wrap (2 * n1)) + 1))])
   else none
  else
   bif decide ((keysLen + 1) * 8 ≤ LIM) && decide (keysLen + 1 ≤ LIM) then
    L168_1 k n some1 (keysLen + 1) t9 t10 (IntKind.i64.wrap (t11 + 1)) l ((xs.take keysLen) ++ [PV.int .i64 (IntKind.i64.wrap (2 * n1))])
   else none
 else
  R195p (c195 k (xs.take keysLen)) fun l1 =>
  r168 (l1.take l1.length) := by kernel_rfl

theorem n169 (k : Nat) (p p1 : Int) (p2 p3 : List PV) : c169 (k + 1) p p1 p2 p3 =
 R59 (c59 k p p1 p2 p3 p2) fun l1 =>
 L169_1 k k l1 p p1 p2 p3 := by kernel_rfl
theorem sL169_1 (k n : Nat) (out : List PV) (n1 n11 : Int) (l l1 : List PV) : L169_1 k (n + 1) out n1 n11 l l1 =
 R149 (c149 k n1 n11 l l1 out) fun l2 =>
 R170 (c170 k out l2) fun l3 =>
 bif ((l3.length : Int) == (out.length : Int)) then
  r169 out
 else L169_1 k n l3 n1 n11 l l1 := by kernel_rfl

theorem n170 (k : Nat) (a b : List PV) : c170 (k + 1) a b =
 R196 (c196 k a) fun l1 =>
 L170_1 k k l1.length b (b.length : Int) 0 l1 := by kernel_rfl
theorem sL170_1 (k n : Nat) (outLen : Nat) (t10 : List PV) (t11 t12 : Int) (xs : List PV) : L170_1 k (n + 1) outLen t10 t11 t12 xs =
 bif decide (t12 < t11) then
  (lookP t10 t12).bind fun p1 =>
  (p1.atInt .i64 0).bind fun n1 =>
  R119 (c119 k (xs.take outLen) n1) fun l1 =>
  L170_1 k n l1.length t10 t11 (IntKind.i64.wrap (t12 + 1)) l1
 else r170 (xs.take outLen) := by kernel_rfl

theorem n171 (k : Nat) (p p1 : Int) (p2 p3 qs : List PV) : c171 (k + 1) p p1 p2 p3 qs =
 L171_1 k k qs 0 p3 (p3.length : Int) 0 p p1 p2 p3 [] := by kernel_rfl
theorem sL171_1 (k n : Nat) (qs : List PV) (outLen : Nat) (t9 : List PV) (t10 t11 n1 n11 : Int) (l l1 xs : List PV) : L171_1 k (n + 1) qs outLen t9 t10 t11 n1 n11 l l1 xs =
 bif decide (t11 < t10) then
  (lookP t9 t11).bind fun p1 =>
  bif p1.shp 2 then
   (p1.atRow 2 0).bind fun l2 =>
   (p1.atRow 2 1).bind fun l3 =>
   R120 (c120 k n1 n11 l l1 l2 qs) fun b1 =>
   bif b1 then
    bif decide ((outLen + 1) * 8 ≤ LIM) && decide (outLen + 1 ≤ LIM) then
     L171_1 k n qs (outLen + 1) t9 t10 (IntKind.i64.wrap (t11 + 1)) n1 n11 l l1 ((xs.take outLen) ++ [PV.int .i64 t11])
    else none
   else L171_1 k n qs outLen t9 t10 (IntKind.i64.wrap (t11 + 1)) n1 n11 l l1 xs
  else none
 else r171 (xs.take outLen) := by kernel_rfl

theorem n172 (k : Nat) (p p1 : Int) (p2 p3 qs : List PV) : c172 (k + 1) p p1 p2 p3 qs =
 L172_1 k k qs 0 (IntKind.i64.wrap (p1 - 1)) p p1 p2 p3 := by kernel_rfl
theorem sL172_1 (k n : Nat) (qs : List PV) (n1 v n11 n12 : Int) (l l1 : List PV) : L172_1 k (n + 1) qs n1 v n11 n12 l l1 =
 bif decide (v ≥ 0) then
  bif !decide (IntKind.u64.wrap n11 < 0) then
   (lookP qs v).bind fun p1 =>
   (p1.atInt .u64 0).bind fun n2 =>
   L172_1 k n qs (IntKind.i64.wrap ((shlI .i64 n1 (IntKind.u64.wrap n11)) + (IntKind.i64.wrap n2))) (IntKind.i64.wrap (v - 1)) n11 n12 l l1
  else none
 else r172 n1 := by kernel_rfl

theorem n173 (k : Nat) (p p1 : Int) (p2 p3 qs : List PV) (k1 : Int) : c173 (k + 1) p p1 p2 p3 qs k1 =
 bif decide ((0 + qs.length) * 8 ≤ LIM) && decide (0 + qs.length ≤ LIM) then
  (lookP p3 k1).bind fun p4 =>
  (p4.atRow 2 1).bind fun l1 =>
  L173_1 k k qs (0 + qs.length) l1 (l1.length : Int) 0 p p1 p2 p3 ([] ++ qs)
 else none := by kernel_rfl
theorem sL173_1 (k n : Nat) (qs : List PV) (outLen : Nat) (t18 : List PV) (t19 t20 n1 n11 : Int) (l l1 xs : List PV) : L173_1 k (n + 1) qs outLen t18 t19 t20 n1 n11 l l1 xs =
 bif decide (t20 < t19) then
  (lookP t18 t20).bind fun p1 =>
  bif p1.shp 2 then
   (p1.atInt .i64 0).bind fun n2 =>
   (p1.atRow 2 1).bind fun l2 =>
   R176 (c176 k n1 l2 (IntKind.i64.wrap ((l2.length : Int) - 1)) qs) fun v1 =>
   bif decide ((0 : Int) ≤ n2) && decide (n2 < (outLen : Int)) then
    (xs[0 + n2.toNat]?).bind fun p2 =>
    L173_1 k n qs outLen t18 t19 (IntKind.i64.wrap (t20 + 1)) n1 n11 l l1 (xs.set (0 + n2.toNat) (PV.int .u64 v1))
   else none
  else none
 else r173 (xs.take outLen) := by kernel_rfl

theorem n174 (k : Nat) (p p1 : Int) (p2 p3 : List PV) : c174 (k + 1) p p1 p2 p3 =
 R74 (c74 k p p1 p2 p3 p2) fun b1 =>
 bif !b1 then
  r174 false
 else
  R52 (c52 k (p3.length : Int) 1 6) fun b2 =>
  bif !b2 then
   r174 false
  else L174_1 k k p3 (p3.length : Int) 0 p p1 p2 p3 := by kernel_rfl
theorem sL174_1 (k n : Nat) (t18 : List PV) (t19 t20 n1 n11 : Int) (l l1 : List PV) : L174_1 k (n + 1) t18 t19 t20 n1 n11 l l1 =
 bif decide (t20 < t19) then
  (lookP t18 t20).bind fun p1 =>
  bif p1.shp 2 then
   (p1.atRow 2 0).bind fun l2 =>
   (p1.atRow 2 1).bind fun l3 =>
   R197 (c197 k n1 n11 l l1 l2 l3) fun b1 =>
   bif !b1 then
    r174 false
   else L174_1 k n t18 t19 (IntKind.i64.wrap (t20 + 1)) n1 n11 l l1
  else none
 else r174 true := by kernel_rfl

theorem n175 (k : Nat) (x : List PV) : c175 (k + 1) x =
 bif decide ((x.length : Int) < 1) then
  none
 else
  (lookP x 0).bind fun p1 =>
  (p1.atInt .i64 0).bind fun n1 =>
  L175_1 k k x n1 1 := by kernel_rfl
theorem sL175_1 (k n : Nat) (x : List PV) (m i : Int) : L175_1 k (n + 1) x m i =
 bif decide (i < (x.length : Int)) then
  (lookP x i).bind fun p1 =>
  (p1.atInt .i64 0).bind fun n1 =>
  L175_1 k n x (maxI m n1) (IntKind.i64.wrap (i + 1))
 else r175 m := by kernel_rfl

theorem n176 (k : Nat) (wide : Int) (t : List PV) (k1 : Int) (state : List PV) : c176 (k + 1) wide t k1 state =
 (lookP t k1).bind fun p1 =>
 bif p1.shp 2 then
  (p1.atInt .i64 0).bind fun n1 =>
  (p1.atInt .u64 1).bind fun n2 =>
  R189 (c189 k n1) fun v1 v2 v3 =>
  bif (n1 == 2) then
   (lookP state n2).bind fun p2 =>
   (p2.atInt .u64 0).bind fun n3 =>
   r176 n3
  else
   bif (v1 == 0) then
    r176 n2
   else
    bif (n1 == 13) then
     R176 (c176 k wide t (IntKind.i64.wrap (k1 - 1)) state) fun v4 =>
     R198 (c198 k wide (bitsOp .xor .u64 18446744073709551615 v4)) fun v5 =>
     r176 v5
    else
     bif (n1 == 19) then
      R176 (c176 k wide t (IntKind.i64.wrap (k1 - 1)) state) fun v6 =>
      r176 (IntKind.u64.wrap (1 - v6))
     else
      R200 (c200 k t (IntKind.i64.wrap (k1 - 1))) fun v7 =>
      R176 (c176 k wide t (IntKind.i64.wrap (v7 - 1)) state) fun v8 =>
      R176 (c176 k wide t (IntKind.i64.wrap (k1 - 1)) state) fun v9 =>
      R199 (c199 k wide n1 v8 v9) fun v10 =>
      r176 v10
 else none := by kernel_rfl

theorem n177 (k : Nat) (g some1 : List PV) : c177 (k + 1) g some1 =
 R201p (c201 k [PV.int .i64 (-1)] (g.length : Int)) fun l1 =>
 R160 (c160 k some1) fun l2 =>
 L177_1 k k g l1.length l2.length some1 (some1.length : Int) 0 l1 l2 := by kernel_rfl
theorem sL177_1 (k n : Nat) (g : List PV) (stepsLen openLen : Nat) (t17 : List PV) (t18 t19 : Int) (xs xs1 : List PV) : L177_1 k (n + 1) g stepsLen openLen t17 t18 t19 xs xs1 =
 bif decide (t19 < t18) then
  (lookP t17 t19).bind fun p1 =>
  (p1.atInt .i64 0).bind fun n1 =>
  bif decide ((0 : Int) ≤ n1) && decide (n1 < (stepsLen : Int)) then
   (xs[0 + n1.toNat]?).bind fun p2 =>
   L177_1 k n g stepsLen openLen t17 t18 (IntKind.i64.wrap (t19 + 1)) (xs.set (0 + n1.toNat) (PV.int .i64 0)) xs1
  else none
 else L177_2 k k g stepsLen openLen xs xs1 := by kernel_rfl
theorem sL177_2 (k n : Nat) (g : List PV) (stepsLen openLen : Nat) (xs xs1 : List PV) : L177_2 k (n + 1) g stepsLen openLen xs xs1 =
 bif decide ((openLen : Int) > 0) then
  bif decide ((0 : Int) < (openLen : Int)) then
   (xs1[0]?).bind fun p1 =>
   (p1.atInt .i64 0).bind fun n1 =>
   (lookP g n1).bind fun p2 =>
   (p2.atRow 0 0).bind fun l1 =>
   L177_3 k n k g stepsLen openLen l1 (l1.length : Int) 0 xs xs1
  else none
 else r177 (xs.take stepsLen) := by kernel_rfl
theorem sL177_3 (k n1 n : Nat) (g : List PV) (stepsLen openLen : Nat) (t37 : List PV) (t38 t39 : Int) (xs xs1 : List PV) : L177_3 k n1 (n + 1) g stepsLen openLen t37 t38 t39 xs xs1 =
 bif decide (t39 < t38) then
  (lookP t37 t39).bind fun p1 =>
  (p1.atInt .i64 0).bind fun n2 =>
  bif decide ((0 : Int) ≤ n2) && decide (n2 < (stepsLen : Int)) then
   (xs[0 + n2.toNat]?).bind fun p2 =>
   (p2.atInt .i64 0).bind fun n3 =>
   bif decide (n3 < 0) then
    bif decide ((0 : Int) < (openLen : Int)) then
     (xs1[0]?).bind fun p3 =>
     (p3.atInt .i64 0).bind fun n4 =>
     bif decide ((0 : Int) ≤ n4) && decide (n4 < (stepsLen : Int)) then
      (xs[0 + n4.toNat]?).bind fun p4 =>
      (p4.atInt .i64 0).bind fun n5 =>
      bif decide ((0 : Int) ≤ n2) && decide (n2 < (stepsLen : Int)) then
       (xs[0 + n2.toNat]?).bind fun p5 =>
       bif decide ((openLen + 1) * 8 ≤ LIM) && decide (openLen + 1 ≤ LIM) then
        L177_3 k n1 n g stepsLen (openLen + 1) t37 t38 (IntKind.i64.wrap (t39 + 1)) (xs.set (0 + n2.toNat) (PV.int .i64 (IntKind.i64.wrap (n5 + 1)))) ((xs1.take openLen) ++ [PV.int .i64 n2])
       else none
      else none
     else none
    else none
   else L177_3 k n1 n g stepsLen openLen t37 t38 (IntKind.i64.wrap (t39 + 1)) xs xs1
  else none
 else
  bif decide ((1 : Int) ≤ (openLen : Int)) && decide ((openLen : Int) ≤ (openLen : Int)) then
   L177_4 k n1 g stepsLen 1 (openLen - 1) xs xs1
  else none := by kernel_rfl
theorem sL177_4 (k n : Nat) (g : List PV) (stepsLen openLo openLen : Nat) (xs xs1 : List PV) : L177_4 k (n + 1) g stepsLen openLo openLen xs xs1 =
 bif decide ((openLen : Int) > 0) then
  bif decide ((0 : Int) < (openLen : Int)) then
   (xs1[openLo]?).bind fun p1 =>
   (p1.atInt .i64 0).bind fun n1 =>
   (lookP g n1).bind fun p2 =>
   (p2.atRow 0 0).bind fun l1 =>
   L177_5 k n k g stepsLen openLo openLen l1 (l1.length : Int) 0 xs xs1
  else none
 else r177 (xs.take stepsLen) := by kernel_rfl
theorem sL177_5 (k n1 n : Nat) (g : List PV) (stepsLen openLo openLen : Nat) (t37 : List PV) (t38 t39 : Int) (xs xs1 : List PV) : L177_5 k n1 (n + 1) g stepsLen openLo openLen t37 t38 t39 xs xs1 =
 bif decide (t39 < t38) then
  (lookP t37 t39).bind fun p1 =>
  (p1.atInt .i64 0).bind fun n2 =>
  bif decide ((0 : Int) ≤ n2) && decide (n2 < (stepsLen : Int)) then
   (xs[0 + n2.toNat]?).bind fun p2 =>
   (p2.atInt .i64 0).bind fun n3 =>
   bif decide (n3 < 0) then
    bif decide ((0 : Int) < (openLen : Int)) then
     (xs1[openLo]?).bind fun p3 =>
     (p3.atInt .i64 0).bind fun n4 =>
     bif decide ((0 : Int) ≤ n4) && decide (n4 < (stepsLen : Int)) then
      (xs[0 + n4.toNat]?).bind fun p4 =>
      (p4.atInt .i64 0).bind fun n5 =>
      bif decide ((0 : Int) ≤ n2) && decide (n2 < (stepsLen : Int)) then
       (xs[0 + n2.toNat]?).bind fun p5 =>
       bif decide ((openLen + 1) * 8 ≤ LIM) && decide (openLen + 1 ≤ LIM) then
        L177_3 k n1 n g stepsLen (openLen + 1) t37 t38 (IntKind.i64.wrap (t39 + 1)) (xs.set (0 + n2.toNat) (PV.int .i64 (IntKind.i64.wrap (n5 + 1)))) ((((xs1).drop openLo).take openLen) ++ [PV.int .i64 n2])
       else none
      else none
     else none
    else none
   else L177_5 k n1 n g stepsLen openLo openLen t37 t38 (IntKind.i64.wrap (t39 + 1)) xs xs1
  else none
 else
  bif decide ((1 : Int) ≤ (openLen : Int)) && decide ((openLen : Int) ≤ (openLen : Int)) then
   L177_4 k n1 g stepsLen (openLo + 1) (openLen - 1) xs xs1
  else none := by kernel_rfl
end Go.Proofs.YthoecdnmokcfbaaGreat
