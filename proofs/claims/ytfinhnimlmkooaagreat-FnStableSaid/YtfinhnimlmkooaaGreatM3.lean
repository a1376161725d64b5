/- Nu; Ca; Srt0; Srt; Env; Cs; Nf0; Nf1; Nf2; Nf3; Nf4; Nf5: texts put together. -/
import Derived.Test.YtfinhnimlmkooaaGreatProg
import Derived.Test.YtfinhnimlmkooaaGreatM2
import Derived.Maps.OwnSet
import Derived.Maps.AppendAt
import Derived.WideKeyPair
import Derived.DeepKeys4
import Derived.OwnWalk
import Derived.WalkKit
import Derived.Shelf.Sort.Plain
import Derived.Shelf.Slices.CompactI
import Derived.Shelf.Slices.In.SortNone
import Derived.Ground.NamesProg
import Derived.Ground.Names2Prog
import Derived.Sort.OwnSortedInts
/- The numbers of classes: the program's map of pairs, walked through by hand. -/
set_option linter.unusedVariables false
namespace Go.Proofs.YtfinhnimlmkooaaGreat
open Go.Maps Go.RowKit Go.WideMaps

/-! ### Numbers of classes -/
def clsF : List (Int × Int) → List (Int × Int) → List Int
  | [], _ => []
  | p :: l, kn => if p ∈ kn then (kn.idxOf p : Int) :: clsF l kn else (kn.length : Int) :: clsF l (kn ++ [p])
def clsL (ps : List (Int × Int)) : List Int := clsF ps []
def Out (ps : List (Int × Int)) (k : Nat) : List Int := clsF (ps.take k) []
open Go.Dp
def pairOf : PV → Option (Int × Int)
  | .agg [.int .i64 a, .int .i64 b] => some (a, b)
  | _ => none
def pairsOf : List PV → Option (List (Int × Int))
  | [] => some []
  | x :: l => (pairOf x).bind fun p => (pairsOf l).bind fun q => some (p :: q)
def wf2B (p : Int × Int) : Bool := (Lit.int .i64 p.1).wf && (Lit.int .i64 p.2).wf
def numT : FuncId → List AV → List (List CV) → R := fun f args bs =>
  bif f == 56 then match args, bs with
    | [.s (.c (.p (.row 2 0 xs)))], [] => (pairsOf xs).bind fun ps => bif decide (ps.length ≤ 1000000) && ps.all wf2B then some ([.agg [.own 3 0 ((clsL ps).map (PV.int .i64))]], []) else none
    | _, _ => none
  else none
end Go.Proofs.YtfinhnimlmkooaaGreat
/- Classes numbered by their first members. -/
set_option linter.unusedVariables false
set_option linter.unusedSimpArgs false
set_option linter.unusedSectionVars false
namespace Go.Proofs.YtfinhnimlmkooaaGreat
open Go.Dp

section
variable {α β : Type} [BEq α] [LawfulBEq α] [BEq β] [LawfulBEq β]
def cls : List α → List α → List Int
  | [], _ => []
  | p :: l, kn => bif kn.contains p then (kn.idxOf p : Int) :: cls l kn else (kn.length : Int) :: cls l (kn ++ [p])
def dis : List α → List α → List α
  | [], kn => kn
  | p :: l, kn => bif kn.contains p then dis l kn else dis l (kn ++ [p])
theorem cls_len : ∀ (l kn : List α), (cls l kn).length = l.length
  | [], kn => rfl
  | p :: l, kn => by
    rw [cls]
    cases kn.contains p
    · simp [cls_len l]
    · simp [cls_len l]
theorem dis_sub : ∀ (l kn : List α) (x : α), x ∈ dis l kn ↔ x ∈ kn ∨ x ∈ l
  | [], kn, x => by simp [dis]
  | p :: l, kn, x => by
    rw [dis]
    cases hc : kn.contains p
    · rw [cond_false, dis_sub l, List.mem_append, List.mem_singleton, List.mem_cons]
      constructor
      · rintro ((h | h) | h)
        · exact .inl h
        · exact .inr (.inl h)
        · exact .inr (.inr h)
      · rintro (h | h | h)
        · exact .inl (.inl h)
        · exact .inl (.inr h)
        · exact .inr h
    · have hp : p ∈ kn := by simpa using hc
      rw [cond_true, dis_sub l, List.mem_cons]
      constructor
      · rintro (h | h)
        · exact .inl h
        · exact .inr (.inr h)
      · rintro (h | h | h)
        · exact .inl h
        · exact .inl (h ▸ hp)
        · exact .inr h
theorem dis_nodup : ∀ (l kn : List α), kn.Nodup → (dis l kn).Nodup
  | [], kn, h => h
  | p :: l, kn, h => by
    rw [dis]
    cases hc : kn.contains p
    · have hp : p ∉ kn := by simpa using hc
      refine dis_nodup l _ ?_
      rw [List.nodup_append]
      exact ⟨h, by simp, fun a ha b hb => by rw [List.mem_singleton.1 hb]; rintro rfl; exact hp ha⟩
    · exact dis_nodup l kn h
theorem idx_app {kn t : List α} {p : α} (h : p ∈ kn) : (kn ++ t).idxOf p = kn.idxOf p := by
  rw [List.idxOf_append, if_pos h]
end
/-! ### Sights -/
def goodF : List Int → Int → Bool
  | [], _ => true
  | x :: l, m => decide (0 ≤ x) && (decide (x ≤ m) && goodF l (bif x == m then m + 1 else m))
def manyF : List Int → Int → Int
  | [], m => m
  | x :: l, m => manyF l (bif x == m then m + 1 else m)
def iota (m : Nat) : List Int := (List.range m).map fun (i : Nat) => (i : Int)
theorem iota_mem (m : Nat) (x : Int) : x ∈ iota m ↔ 0 ≤ x ∧ x < m := by
  unfold iota
  rw [List.mem_map]
  constructor
  · rintro ⟨i, hi, rfl⟩
    rw [List.mem_range] at hi
    omega
  · rintro ⟨h1, h2⟩
    exact ⟨x.toNat, by rw [List.mem_range]; omega, by omega⟩
theorem iota_succ (m : Nat) : iota m ++ [(m : Int)] = iota (m + 1) := by simp [iota, List.range_succ]
theorem iota_len (m : Nat) : (iota m).length = m := by simp [iota]
theorem iota_get (m i : Nat) (h : i < (iota m).length) : (iota m)[i] = (i : Int) := by
  simp [iota]
theorem iota_idx (m : Nat) {x : Int} (h : x ∈ iota m) : ((iota m).idxOf x : Int) = x := by
  have h1 := List.idxOf_lt_length_of_mem h
  have e := List.getElem_idxOf h1
  rw [iota_get] at e
  exact e
theorem cls_good : ∀ (l : List Int) (m : Nat), goodF l m = true → cls l (iota m) = l ∧ ((dis l (iota m)).length : Int) = manyF l m
  | [], m, h => ⟨rfl, by simp [dis, manyF, iota_len]⟩
  | x :: l, m, h => by
    simp only [goodF, Bool.and_eq_true, decide_eq_true_eq] at h
    obtain ⟨h1, h2, h3⟩ := h
    rw [cls, dis, manyF]
    by_cases e : x = (m : Int)
    · subst e
      have hn : (iota m).contains (m : Int) = false := by
        rw [← Bool.not_eq_true, List.contains_iff_mem, iota_mem]
        omega
      have he : (((m : Int)) == (m : Int)) = true := beq_self_eq_true _
      rw [he] at h3 ⊢
      simp only [cond_true] at h3 ⊢
      have h3' : goodF l ((m + 1 : Nat) : Int) = true := by simpa using h3
      obtain ⟨q1, q2⟩ := cls_good l (m + 1) h3'
      rw [hn]
      simp only [cond_false]
      rw [iota_succ, q1, iota_len]
      exact ⟨rfl, by rw [q2]; simp⟩
    · have hm : x ∈ iota m := (iota_mem m x).2 ⟨h1, by omega⟩
      have hc : (iota m).contains x = true := by simpa using hm
      have he : (x == (m : Int)) = false := by simpa using e
      rw [he] at h3 ⊢
      simp only [cond_false] at h3 ⊢
      obtain ⟨q1, q2⟩ := cls_good l m h3
      rw [hc]
      simp only [cond_true]
      rw [q1, iota_idx m hm]
      exact ⟨rfl, q2⟩
section
variable {α : Type} [BEq α] [LawfulBEq α]
theorem good_cls : ∀ (l kn : List α), goodF (cls l kn) kn.length = true ∧ manyF (cls l kn) kn.length = ((dis l kn).length : Int)
  | [], kn => ⟨rfl, rfl⟩
  | p :: l, kn => by
    rw [cls, dis]
    cases hc : kn.contains p
    · obtain ⟨q1, q2⟩ := good_cls l (kn ++ [p])
      simp only [cond_false, goodF, manyF, beq_self_eq_true, cond_true]
      have e : ((kn ++ [p]).length : Int) = (kn.length : Int) + 1 := by simp
      rw [e] at q1 q2
      rw [q1, q2, decide_eq_true (by omega), decide_eq_true (by omega)]
      simp
    · have hp : p ∈ kn := by simpa using hc
      have hlt := List.idxOf_lt_length_of_mem hp
      obtain ⟨q1, q2⟩ := good_cls l kn
      have he : (((kn.idxOf p : Nat) : Int) == (kn.length : Int)) = false := by
        have : ((kn.idxOf p : Nat) : Int) ≠ (kn.length : Int) := by omega
        simpa using this
      simp only [cond_true, goodF, manyF, he, cond_false, q1, q2]
      rw [decide_eq_true (by omega), decide_eq_true (by omega)]
      simp
theorem nodup_sub : ∀ {a b : List α}, a.Nodup → (∀ x ∈ a, x ∈ b) → a.length ≤ b.length
  | [], b, _, _ => by simp
  | x :: a, b, hn, h => by
    rw [List.nodup_cons] at hn
    have hx := h x (by simp)
    have := nodup_sub (b := b.erase x) hn.2 (fun y hy => by
      have hne : y ≠ x := by rintro rfl; exact hn.1 hy
      exact (List.mem_erase_of_ne hne).2 (h y (by simp [hy])))
    rw [List.length_erase_of_mem hx] at this
    have hpos : 0 < b.length := List.length_pos_of_mem hx
    simp only [List.length_cons]
    omega
end
theorem cls_self {v : List Int} (h : goodF v 0 = true) : cls v [] = v ∧ ((dis v []).length : Int) = manyF v 0 := cls_good v 0 h
theorem good_lt : ∀ (l : List Int) (m : Nat), goodF l m = true → ∀ x ∈ l, 0 ≤ x ∧ x < manyF l m
  | [], m, h, x, hx => by simp at hx
  | y :: l, m, h, x, hx => by
    have hmono : ∀ (l : List Int) (m : Int), m ≤ manyF l m := by
      intro l
      induction l with
      | nil => intro m; exact Int.le_refl m
      | cons z l ih =>
        intro m
        rw [manyF]
        have := ih (bif z == m then m + 1 else m)
        refine Int.le_trans ?_ this
        cases (z == m)
        · exact Int.le_refl m
        · exact Int.le_of_lt (Int.lt_succ m)
    simp only [goodF, Bool.and_eq_true, decide_eq_true_eq] at h
    obtain ⟨h1, h2, h3⟩ := h
    rw [manyF]
    by_cases e : y = (m : Int)
    · have he : (y == (m : Int)) = true := by simpa using e
      rw [he] at h3 ⊢
      simp only [cond_true] at h3 ⊢
      have h3' : goodF l ((m + 1 : Nat) : Int) = true := by simpa using h3
      rcases List.mem_cons.1 hx with rfl | hx
      · have := hmono l ((m : Int) + 1)
        omega
      · have := good_lt l (m + 1) h3' x hx
        simpa using this
    · have he : (y == (m : Int)) = false := by simpa using e
      rw [he] at h3 ⊢
      simp only [cond_false] at h3 ⊢
      rcases List.mem_cons.1 hx with rfl | hx
      · have := hmono l (m : Int)
        omega
      · exact good_lt l m h3 x hx
/-! ### Plain laws of classes -/
section
variable {α β γ : Type} [BEq β] [LawfulBEq β] [BEq γ] [LawfulBEq γ]
end
end Go.Proofs.YtfinhnimlmkooaaGreat
/-
  DERIVED: THE SHELF's CONTRACTS AT THIS DUMP, IN PLAIN WORDS (tools/lay-plain.mjs out of 'YtfinhnimlmkooaaGreatSrt0.lean', which tools/lay-shelf.mjs wrote): THE SAME DECLARATIONS UNDER THE SAME NAMES: 'import', 'namespace', 'open', 'def', 'theorem' AND NOTHING ELSE: no command of the shelf's: FOR A HAND-IN. Each laying: the table of numbers ('.._ren') and one theorem, a field a fact of the dump's own or the kernel's comparison; each contract: ONE APPLICATION.
-/
namespace Go.Proofs
open Go.Shelf
def YtfinhnimlmkooaaGreat.lays189_ren : Go.Shelf.Ren := ⟨fun | 189 => 149 | 125 => 169 | 257 => 168 | 128 => 184 | 129 => 185 | 294 => 175 | 295 => 176 | 296 => 177 | 297 => 178 | 298 => 179 | 299 => 180 | 216 => 181 | 300 => 182 | 301 => 183 | 328 => 187 | 329 => 188 | 330 => 189 | 331 => 190 | 332 => 191 | 215 => 192 | 343 => 195 | n => n, fun | 28 => 28 | 3 => 3 | 46 => 119 | 0 => 0 | 51 => 187 | 53 => 65 | 4 => 4 | 183 => 181 | 182 => 180 | 131 => 39 | 5 => 5 | 9 => 9 | 218 => 190 | 222 => 194 | 228 => 199 | 229 => 200 | n => n, fun | n => n⟩
theorem YtfinhnimlmkooaaGreat.lays189 : Go.Proofs.Lays.n189 Tryz.prog YtfinhnimlmkooaaGreat.lays189_ren := {
  mixed := by kernel_rfl
  f125 := Tryz.func169.trans (congrArg some (by kernel_rfl))
  f128 := Tryz.func184.trans (congrArg some (by kernel_rfl))
  f129 := Tryz.func185.trans (congrArg some (by kernel_rfl))
  f189 := Tryz.func149.trans (congrArg some (by kernel_rfl))
  f215 := Tryz.func192.trans (congrArg some (by kernel_rfl))
  f216 := Tryz.func181.trans (congrArg some (by kernel_rfl))
  f257 := Tryz.func168.trans (congrArg some (by kernel_rfl))
  f294 := Tryz.func175.trans (congrArg some (by kernel_rfl))
  f295 := Tryz.func176.trans (congrArg some (by kernel_rfl))
  f296 := Tryz.func177.trans (congrArg some (by kernel_rfl))
  f297 := Tryz.func178.trans (congrArg some (by kernel_rfl))
  f298 := Tryz.func179.trans (congrArg some (by kernel_rfl))
  f299 := Tryz.func180.trans (congrArg some (by kernel_rfl))
  f300 := Tryz.func182.trans (congrArg some (by kernel_rfl))
  f301 := Tryz.func183.trans (congrArg some (by kernel_rfl))
  f328 := Tryz.func187.trans (congrArg some (by kernel_rfl))
  f329 := Tryz.func188.trans (congrArg some (by kernel_rfl))
  f330 := Tryz.func189.trans (congrArg some (by kernel_rfl))
  f331 := Tryz.func190.trans (congrArg some (by kernel_rfl))
  f332 := Tryz.func191.trans (congrArg some (by kernel_rfl))
  f343 := Tryz.func195.trans (congrArg some (by kernel_rfl))
  t0 := Tryz.underlying0
  a0 := Tryz.isAgg0
  z0 := Tryz.sizeOf0
  v0 := Tryz.zeroValue0
  t3 := Tryz.underlying3
  a3 := Tryz.isAgg3
  z3 := Tryz.sizeOf3
  v3 := Tryz.zeroValue3
  t4 := Tryz.underlying4
  a4 := Tryz.isAgg4
  z4 := Tryz.sizeOf4
  v4 := Tryz.zeroValue4
  t5 := Tryz.underlying5
  a5 := Tryz.isAgg5
  z5 := Tryz.sizeOf5
  v5 := Tryz.zeroValue5
  t9 := Tryz.underlying9
  a9 := Tryz.isAgg9
  z9 := Tryz.sizeOf9
  v9 := Tryz.zeroValue9
  t28 := Tryz.underlying28
  a28 := Tryz.isAgg28
  z28 := Tryz.sizeOf28
  v28 := Tryz.zeroValue28
  t46 := Tryz.underlying119
  a46 := Tryz.isAgg119
  z46 := Tryz.sizeOf119
  v46 := Tryz.zeroValue119
  t51 := Tryz.underlying187
  a51 := Tryz.isAgg187
  z51 := Tryz.sizeOf187
  v51 := Tryz.zeroValue187
  t53 := Tryz.underlying65
  a53 := Tryz.isAgg65
  z53 := Tryz.sizeOf65
  v53 := Tryz.zeroValue65
  t131 := Tryz.underlying39
  a131 := Tryz.isAgg39
  z131 := Tryz.sizeOf39
  v131 := Tryz.zeroValue39
  t182 := Tryz.underlying180
  a182 := Tryz.isAgg180
  z182 := Tryz.sizeOf180
  v182 := Tryz.zeroValue180
  t183 := Tryz.underlying181
  a183 := Tryz.isAgg181
  z183 := Tryz.sizeOf181
  v183 := Tryz.zeroValue181
  t218 := Tryz.underlying190
  a218 := Tryz.isAgg190
  z218 := Tryz.sizeOf190
  v218 := Tryz.zeroValue190
  t222 := Tryz.underlying194
  a222 := Tryz.isAgg194
  z222 := Tryz.sizeOf194
  v222 := Tryz.zeroValue194
  t228 := Tryz.underlying199
  a228 := Tryz.isAgg199
  z228 := Tryz.sizeOf199
  v228 := Tryz.zeroValue199
  t229 := Tryz.underlying200
  a229 := Tryz.isAgg200
  z229 := Tryz.sizeOf200
  v229 := Tryz.zeroValue200 }
def YtfinhnimlmkooaaGreat.lays20_ren : Go.Shelf.Ren := ⟨fun | 20 => 150 | n => n, fun | 22 => 28 | 3 => 3 | 4 => 4 | 0 => 0 | n => n, fun | n => n⟩
theorem YtfinhnimlmkooaaGreat.lays20 : Go.Proofs.Lays2.n20 Tryz.prog YtfinhnimlmkooaaGreat.lays20_ren := {
  mixed := by kernel_rfl
  f20 := Tryz.func150.trans (congrArg some (by kernel_rfl))
  t0 := Tryz.underlying0
  a0 := Tryz.isAgg0
  z0 := Tryz.sizeOf0
  v0 := Tryz.zeroValue0
  t3 := Tryz.underlying3
  a3 := Tryz.isAgg3
  z3 := Tryz.sizeOf3
  v3 := Tryz.zeroValue3
  t4 := Tryz.underlying4
  a4 := Tryz.isAgg4
  z4 := Tryz.sizeOf4
  v4 := Tryz.zeroValue4
  t22 := Tryz.underlying28
  a22 := Tryz.isAgg28
  z22 := Tryz.sizeOf28
  v22 := Tryz.zeroValue28
  i3 := by kernel_rfl }
end Go.Proofs
/- The library's sort and its compacting, at rows of integers of one's own: the shelf's contracts, at this program. -/
set_option linter.unusedVariables false
namespace Go.Proofs.YtfinhnimlmkooaaGreat
open Go.Dp Go.Sort Go.RowKit
theorem putCells_at (cur : Array Value) (bo : Nat) (ts : List Int) (h : ts = [] ∨ bo + ts.length ≤ cur.size) : (putCells (Value.int .i64) bo ts.toArray cur).toList = cur.toList.take bo ++ (ts.map (Value.int .i64) ++ cur.toList.drop (bo + ts.length)) := by
  rcases h with rfl | h
  · rw [show (putCells (Value.int .i64) bo ([] : List Int).toArray cur) = cur from by
      apply Array.ext_getElem?
      intro j
      by_cases hj : j < cur.size <;> simp [putCells, hj] <;> omega]
    simp
  apply List.ext_getElem?
  intro j
  rw [Array.getElem?_toList]
  by_cases hj : j < bo
  · rw [List.getElem?_append_left (by (simp; try omega)), List.getElem?_take_of_lt hj]
    simp [putCells, show ¬ (bo ≤ j) by omega, show j < cur.size by omega]
  · have hlt : cur.toList.length = cur.size := Array.length_toList
    rw [List.getElem?_append_right (by rw [List.length_take]; omega), List.length_take, hlt, Nat.min_eq_left (by omega)]
    by_cases hj2 : j < bo + ts.length
    · rw [List.getElem?_append_left (by (simp; try omega))]
      simp [putCells, hj2, show bo ≤ j by omega, show j < cur.size by omega, show j - bo < ts.length by omega]
    · rw [List.getElem?_append_right (by (simp; try omega)), List.length_map, List.getElem?_drop]
      have ej : bo + ts.length + (j - bo - ts.length) = j := by omega
      rw [ej]
      by_cases hc : j < cur.size
      · simp [putCells, hj2, hc]
      · rw [Array.getElem?_eq_none (by (simp [putCells]; try omega)), List.getElem?_eq_none (by (simp; try omega))]
theorem holds_at {w : World} {g bo : Nat} {cur : Array Value} {e : TypeId} {ss : List Int} (hb : w.heap[g]? = some (.cells cur e (0, 0))) (ht : (cur.toList.drop bo).take ss.length = ss.map (Value.int .i64)) : Holds (Value.int .i64) w g bo ss.toArray := by
  intro j hj
  have hj' : j < ss.length := by simpa using hj
  refine ⟨?_, by simp [World.frozen?, hb]⟩
  have h1 : ((cur.toList.drop bo).take ss.length)[j]? = (ss.map (Value.int .i64))[j]? := by rw [ht]
  rw [List.getElem?_take_of_lt hj', List.getElem?_drop] at h1
  simp only [World.cell?, hb]
  simp only [Option.isSome_none, Bool.false_eq_true, if_false]
  rw [← Array.getElem?_toList, h1]
  simp [hj']
theorem put_wd {w : World} {b bo n : Nat} {os : Array Obj} {cu : Array Value} {e : TypeId} {d : List Int} (hb : w.heap[b]? = some (.cells cu e (0, 0))) (hd : d = [] ∨ bo + d.length ≤ cu.size) :
    Wd w (grow (putRow (Value.int .i64) (Sort.ahead w n) b bo d.toArray) os) ∧ (∀ k, k < w.heap.size → k ≠ b → (grow (putRow (Value.int .i64) (Sort.ahead w n) b bo d.toArray) os).heap[k]? = w.heap[k]?) ∧
      ∃ cu', (grow (putRow (Value.int .i64) (Sort.ahead w n) b bo d.toArray) os).heap[b]? = some (.cells cu' e (0, 0)) ∧ cu'.size = cu.size ∧ cu'.toList = cu.toList.take bo ++ (d.map (Value.int .i64) ++ cu.toList.drop (bo + d.length)) := by
  have hg : b < w.heap.size := (Array.getElem?_eq_some_iff.1 hb).1
  refine ⟨⟨rfl, rfl, rfl, by simp⟩, fun k hk hne => ?_, putCells (Value.int .i64) bo d.toArray cu, ?_, by simp [putCells], putCells_at cu bo d hd⟩
  · rw [heap_grow_old _ _ (by simpa using hk)]
    simp [putRow, mapBlock, Sort.ahead, Array.getElem?_modify, Ne.symm hne]
  · rw [heap_grow_old _ _ (by simpa using hg)]
    simp [putRow, mapBlock, Sort.ahead, Array.getElem?_modify, hb, onCells]
theorem size_at {cu : Array Value} {bo : Nat} {zs : List Int} (h : (cu.toList.drop bo).take zs.length = zs.map (Value.int .i64)) : zs = [] ∨ bo + zs.length ≤ cu.size := by
  cases hz : zs with
  | nil => exact .inl rfl
  | cons z t =>
    right
    have := congrArg List.length h
    simp [hz] at this
    simp
    omega
theorem sort_ok : SortOK Tryz.prog 1 149 where
  enters := ⟨Tryz.f149, Tryz.func149, by kernel_rfl, by decide⟩
  empty w p cap := Any.slices_Sort_int_none YtfinhnimlmkooaaGreat.lays189 p cap w
  row w b bo cap zs cu e hb ht hc hl := by
    have hH : Holds (Value.int .i64) w b bo zs.toArray := holds_at hb ht
    have hlt := (Array.getElem?_eq_some_iff.1 hb).1
    refine Calls.mono (Any.slices_Sort_int YtfinhnimlmkooaaGreat.lays189 b bo cap zs w hH hlt (by unfold LIM at hl; omega)) ?_
    rintro e' w' ⟨rfl, n, os, rfl⟩
    have hsz := size_at ht
    have hl2 : (zs.mergeSort fun x y => decide (x ≤ y)).length = zs.length := List.length_mergeSort zs
    have := put_wd (n := n) (os := os) (d := zs.mergeSort fun x y => decide (x ≤ y)) hb (hsz.imp (fun h => List.eq_nil_of_length_eq_zero (by rw [hl2, h]; rfl)) (fun h => by rw [hl2]; exact h))
    rw [hl2] at this
    exact ⟨rfl, this⟩
theorem comp_ok : SortOK Tryz.prog 2 150 where
  enters := ⟨Tryz.f150, Tryz.func150, by kernel_rfl, by decide⟩
  empty w p cap := Any.slices_Compact_int_empty YtfinhnimlmkooaaGreat.lays20 p cap w
  row w b bo cap zs cu e hb ht hc hl := by
    have hH : Holds (Value.int .i64) w b bo zs.toArray := holds_at hb ht
    refine Calls.mono (Any.slices_Compact_int YtfinhnimlmkooaaGreat.lays20 b bo cap zs w hH (by unfold LIM at hl; omega) hc) ?_
    rintro e' w' ⟨rfl, n, rfl⟩
    have hsz := size_at ht
    have hcl := compI_le zs
    have hl2 : (Lib.compact zs ++ List.replicate (zs.length - (Lib.compact zs).length) 0).length = zs.length := by
      have : (Lib.compact zs).length ≤ zs.length := hcl
      simp
      omega
    have := put_wd (n := n) (os := #[]) (d := Lib.compact zs ++ List.replicate (zs.length - (Lib.compact zs).length) 0) hb (hsz.imp (fun h => List.eq_nil_of_length_eq_zero (by rw [hl2, h]; rfl)) (fun h => by rw [hl2]; exact h))
    rw [hl2, grow_empty] at this
    exact ⟨rfl, this⟩
end Go.Proofs.YtfinhnimlmkooaaGreat
/- What the evaluator is told of the program's types, loops and functions: printed by nf.py. -/
namespace Go.Proofs.YtfinhnimlmkooaaGreat
open Go.Dp
def tabs : Tabs where
  sl := [(22, (5, 0, 1)), (24, (93, 2, 16)), (25, (114, 2, 48)), (28, (3, 0, 8)), (42, (24, 0, 24)), (82, (65, 0, 8)),
  (112, (116, 2, 32)), (135, (28, 0, 24)), (157, (4, 0, 1))]
  sh := [(2, 0), (3, 0), (4, 0), (5, 0), (9, 0), (22, 0), (24, 0), (25, 0), (27, 4), (28, 0), (30, 1), (42, 0), (64, 0), (65, 0), (67, 3), (82, 0), (93, 2), (105, 0), (112, 0), (114, 2),
  (116, 2), (119, 0), (135, 0), (145, 0), (157, 0), (187, 0)]
  fl := [(27, [some (0, 0), some (1, 0), some (2, 0), some (3, 0)]), (30, [some (0, 0)]), (67, [some (0, 0), some (1, 0), some (2, 0)]), (93, [some (0, 0), some (1, 0)]), (114, [some (0, 0), some (1, 0)]), (116, [some (0, 0), some (1, 0)])]
  ik := [(2, .i64), (3, .i64), (5, .u8), (65, .u64), (119, .u64), (187, .u32)]
  zr := [(2, [.int .i64 0]), (3, [.int .i64 0]), (4, [.bool false]), (5, [.int .u8 0]), (9, [.str ⟨#[]⟩]), (22, [.row 0 2 []]),
  (24, [.row 0 2 []]), (25, [.row 0 2 []]), (27, [.int .i64 0, .int .i64 0, .row 0 2 [], .row 0 2 []]), (28, [.row 0 2 []]), (30, [.row 0 2 []]), (42, [.row 0 2 []]),
  (65, [.int .u64 0]), (67, [.row 0 2 [], .int .i64 0, .int .u64 0]), (82, [.row 0 2 []]), (93, [.int .i64 0, .int .u64 0]), (112, [.row 0 2 []]), (114, [.row 0 2 [], .row 0 2 []]),
  (116, [.int .i64 0, .row 0 2 []]), (119, [.int .u64 0]), (135, [.row 0 2 []]), (157, [.row 0 2 []]), (187, [.int .u32 0])]
  eqs := [(93, [0, 0])]
  bl := [(4, ())]
  st := [(9, ())]
  flat := [(2, ()), (3, ()), (4, ()), (5, ()), (9, ()), (65, ()), (93, ()), (119, ()), (187, ())]
  ar := []
def tLive : List (Nat × List (Nat × List Nat)) := [(5, [(0, [6, 11, 12, 14, 15, 61, 62, 63])]), (12, [(0, [5, 20, 21, 22])]), (28, [(0, [1, 7, 8, 9])]),
  (33, [(0, [2, 3, 12, 13])]), (34, [(0, [2, 3, 6])]), (37, [(0, [1, 7, 8, 9])]),
  (38, [(0, [0, 2, 3, 4])]), (46, [(0, [1, 2, 5, 9, 10, 11])]), (51, [(0, [0, 1, 12, 13])]),
  (54, [(0, [1, 2, 5, 9, 10])]), (55, [(0, [0, 2, 7, 12, 13, 14])]), (57, [(0, [0, 2, 3, 4, 9, 10, 11]), (2, [0, 2, 3, 4, 5, 6, 7, 8, 9, 10, 11])]),
  (59, [(0, [0, 4, 7, 8])]), (65, [(0, [2, 10, 11, 12])]), (67, [(0, [1, 2, 5, 6])]),
  (69, [(0, [2, 4, 5, 12, 13, 14])]), (71, [(0, [1, 5, 10, 11, 12])]), (73, [(0, [0, 1, 7, 8])]),
  (76, [(0, [0, 1, 2, 9, 10, 11])]), (77, [(0, [1, 4, 5, 9, 10, 11])]), (79, [(0, [0, 3, 4])]),
  (80, [(0, [3, 4, 7, 17, 18, 19])]), (81, [(0, [3, 4, 7, 13, 14, 15])]), (82, [(0, [3, 7, 8, 9])]),
  (83, [(0, [0, 1, 12, 13])]), (84, [(0, [2, 3, 4, 7, 16, 17, 18]), (2, [2, 3, 4, 7, 9, 10, 16, 17, 18, 24, 25, 26])]), (90, [(0, [0, 1, 2, 6, 7, 8])]),
  (92, [(0, [0, 1, 7, 27, 28, 29]), (2, [0, 1, 7, 10, 11, 12, 27, 28, 29])]), (93, [(0, [1, 2, 5, 6])]), (95, [(0, [1, 18, 19, 20])]),
  (96, [(0, [0, 3, 4])]), (102, [(0, [0, 1, 7, 33, 34, 35])]), (106, [(0, [0, 1, 5])]),
  (107, [(0, [1, 7, 8, 9])]), (108, [(0, [2, 5, 11, 12, 13])]), (109, [(0, [1, 2, 5, 6, 14, 15, 16])]),
  (110, [(0, [0, 1, 5, 6])]), (113, [(0, [1, 5, 9, 10, 11])]), (114, [(0, [2, 5, 8, 9, 10])]),
  (115, [(0, [1, 2, 5, 6, 14, 15, 16])]), (116, [(0, [2, 5, 10, 11, 12]), (2, [2, 5, 10, 11, 12, 18, 19, 20])]), (117, [(0, [5, 11, 12, 13])]),
  (118, [(0, [2, 3, 5, 9, 10])]), (119, [(0, [1, 2, 5, 9, 10])]), (120, [(0, [1, 3, 7, 8])]),
  (122, [(0, [0, 1, 2, 6, 7, 8])]), (123, [(0, [0, 1, 5, 6])]), (131, [(0, [2, 3, 13, 14, 15])]),
  (132, [(0, [2, 3, 21, 22, 23])]), (144, [(0, [0, 5, 8])]), (146, [(0, [3, 7, 8, 9])]),
  (147, [(0, [2, 5, 8, 9, 10])]), (148, [(0, [2, 3, 7, 13, 14, 15])]), (151, [(0, [0, 1, 7, 8])]),
  (152, [(0, [0, 1, 7, 8])]), (153, [(0, [1, 2, 5, 9, 10, 11])]), (154, [(0, [1, 2, 5, 6])]),
  (155, [(0, [1, 3, 7, 18, 19, 20])]), (156, [(0, [0, 5, 6, 17, 18, 19]), (2, [0, 5, 6]), (4, [0, 5, 6, 37, 38, 39])]), (158, [(0, [0, 1, 7, 8])]),
  (160, [(0, [2, 8, 9, 10, 11, 13, 14, 15, 16]), (2, [2, 8, 9, 10, 14, 15, 16, 17, 18])]), (164, [(0, [0, 1, 2, 3])]), (170, [(0, [7, 8])])]
def tRk : List (Nat × List RK) := [(5, [.c (.p (.bool))]), (6, [.c (.p (.bool))]), (11, [.c (.p (.bool))]), (12, [.c (.p (.bool))]), (23, [.agg [.own 3 0], .c (.p (.bool))]), (28, [.c (.p (.bool))]),
  (31, [.agg [.own 3 0], .c (.p (.bool))]), (32, [.agg [.p (.int .i64), .p (.int .i64), .p (.row 2), .p (.row 2)], .agg [.p (.row 0)]]), (33, [.c (.p (.bool)), .c (.p (.bool))]), (34, [.c (.p (.bool)), .c (.p (.bool))]), (35, [.c (.p (.row 0)), .c (.p (.bool))]), (36, [.c (.p (.row 0)), .c (.p (.bool))]),
  (37, [.c (.p (.bool))]), (38, [.agg [.p (.int .i64), .p (.int .i64), .p (.row 2), .p (.row 2)]]), (39, [.agg [.p (.row 0)]]), (40, [.c (.own 93 2)]), (41, [.c (.p (.int .i64))]), (43, [.c (.p (.bool))]),
  (44, [.agg [.own 3 0]]), (45, [.c (.p (.bool))]), (46, [.c (.p (.bool))]), (47, [.c (.p (.int .i64))]), (48, [.c (.p (.bool))]), (49, [.c (.p (.int .i64))]),
  (50, [.c (.p (.bool))]), (51, [.c (.p (.bool))]), (52, [.c (.p (.int .i64))]), (54, [.c (.p (.row 0))]), (55, [.c (.p (.int .u64))]), (57, [.agg [.own 3 0]]),
  (59, [.c (.p (.row 0))]), (62, [.c (.p (.bool))]), (65, [.c (.p (.bool))]), (66, [.c (.p (.bool))]), (67, [.c (.p (.row 0))]), (69, [.agg [.own 3 0]]),
  (71, [.c (.p (.row 0))]), (72, [.c (.p (.bool))]), (73, [.c (.p (.row 0))]), (76, [.c (.p (.bool))]), (77, [.agg [.own 3 0]]), (78, [.c (.p (.bool))]),
  (79, [.c (.p (.row 0))]), (80, [.c (.p (.row 0))]), (81, [.c (.own 3 0)]), (82, [.c (.p (.int .i64))]), (83, [.c (.p (.bool))]), (84, [.c (.p (.row 0))]),
  (85, [.c (.p (.row 0))]), (86, [.c (.p (.row 0))]), (87, [.c (.p (.row 0))]), (88, [.c (.p (.int .i64))]), (89, [.c (.p (.int .i64))]), (90, [.agg [.p (.int .i64), .p (.int .i64), .p (.row 2), .own ⟨114, some ⟨1, 116, 2, 0, none⟩⟩ 2]]),
  (91, [.c (.own 93 2)]), (92, [.c (.p (.int .i64))]), (93, [.c (.p (.row 0))]), (94, [.c (.p (.bool))]), (95, [.c (.p (.bool))]), (96, [.c (.p (.int .i64))]),
  (99, [.c (.p (.int .u64))]), (100, [.c (.p (.int .u64))]), (102, [.c (.p (.bool))]), (103, [.c (.p (.int .u64))]), (105, [.c (.p (.bool))]), (106, [.c (.own 3 0)]),
  (107, [.c (.p (.bool))]), (108, [.c (.own 3 0)]), (109, [.c (.p (.row 0))]), (110, [.c (.own 3 0)]), (111, [.c (.p (.bool))]), (112, [.c (.p (.bool))]),
  (113, [.c (.p (.row 0))]), (114, [.c (.p (.row 0))]), (115, [.c (.p (.row 0))]), (116, [.c (.p (.row 0))]), (117, [.c (.p (.row 0))]), (118, [.c (.p (.row 0))]),
  (119, [.c (.p (.row 0))]), (120, [.c (.p (.row 0))]), (121, [.c (.p (.int .i64))]), (122, [.agg [.p (.row 2), .own 116 2]]), (123, [.c (.p (.int .u64))]), (124, [.c (.p (.bool))]),
  (125, [.c (.p (.int .i64)), .c (.p (.int .i64)), .c (.p (.int .i64))]), (126, [.c (.p (.bool))]), (127, [.c (.p (.bool))]), (128, [.c (.p (.bool))]), (129, [.c (.p (.bool))]), (130, [.c (.p (.bool))]),
  (131, [.c (.p (.bool))]), (132, [.c (.p (.bool))]), (134, [.c (.p (.int .u64)), .c (.p (.int .u64)), .c (.p (.bool))]), (135, [.c (.p (.int .u64))]), (136, [.c (.p (.int .u64))]), (137, [.c (.p (.int .i64))]),
  (139, [.c (.p (.int .i64)), .c (.p (.int .i64)), .c (.p (.int .i64))]), (140, [.c (.p (.bool))]), (141, [.c (.p (.bool))]), (142, [.c (.p (.bool))]), (143, [.c (.p (.int .u64))]), (144, [.c (.p (.int .i64))]),
  (145, [.c (.p (.int .i64))]), (146, [.c (.own 3 0)]), (147, [.c (.p (.int .i64))]), (148, [.c (.p (.row 0))]), (151, [.c (.p (.int .i64))]), (152, [.c (.p (.int .i64))]),
  (153, [.c (.p (.row 0))]), (154, [.c (.p (.int .i64))]), (155, [.c (.p (.row 0))]), (156, [.c (.p (.row 0))]), (157, [.c (.p (.bool))]), (158, [.c (.p (.int .i64))]),
  (159, [.c (.p (.bool))]), (160, [.c (.p (.int .u64)), .c (.p (.int .u64))]), (162, [.c (.p (.bool))]), (163, [.c (.p (.int .u64)), .c (.p (.int .u64)), .c (.p (.bool))]), (164, [.c (.p (.int .u64))]), (165, [.c (.p (.int .u64))]),
  (166, [.c (.p (.int .i64))]), (167, [.c (.own 65 0)]), (170, [.c (.own 3 0)]), (171, [.c (.own 3 0)]), (172, [.c (.p (.int .i64))]), (174, [.c (.p (.bool))]),
  (185, [.c (.p (.int .i64))]), (186, [.c (.p (.int .u64)), .c (.p (.int .u64))]), (194, [.c (.p (.int .u64)), .c (.p (.int .u64))])]
def tBk : List (Nat × List (List Kind)) := [(38, [[.p (.row 0), .p (.int .i64), .p (.int .u64)]]), (39, [[.p (.row 0), .p (.int .i64), .p (.int .u64)]]), (40, [[.p (.row 0), .p (.int .i64), .p (.int .u64)]]), (59, [[.p (.row 0), .p (.int .i64), .p (.int .u64)]]), (73, [[.p (.row 0), .p (.int .i64), .p (.int .u64)]]), (78, [[.p (.row 0), .p (.int .i64), .p (.int .u64)]]),
  (88, [[.p (.row 0), .p (.int .i64), .p (.int .u64)]]), (89, [[.p (.row 0), .p (.int .i64), .p (.int .u64)]]), (90, [[.p (.row 0), .p (.int .i64), .p (.int .u64)]]), (91, [[.p (.row 0), .p (.int .i64), .p (.int .u64)]]), (121, [[.p (.row 0), .p (.int .i64), .p (.int .u64)]]), (122, [[.p (.row 0), .p (.int .i64), .p (.int .u64)]]),
  (130, [[.p (.int .i64), .p (.int .i64), .p (.row 2), .p (.row 2)]]), (142, [[.p (.int .i64)]]), (131129, [[.p (.int .i64), .p (.int .i64), .p (.row 2), .p (.row 2)]]), (131158, [[.p (.int .i64), .p (.int .i64), .p (.row 2), .p (.row 2)]]), (143141, [[.p (.int .i64)]]), (143151, [[.p (.int .i64)]])]
def tPlain : List (Nat × Unit) := [(5, ()), (6, ()), (11, ()), (12, ()), (23, ()), (28, ()), (31, ()), (33, ()), (34, ()), (37, ()), (41, ()), (43, ()),
  (44, ()), (45, ()), (46, ()), (47, ()), (48, ()), (49, ()), (50, ()), (51, ()), (52, ()), (55, ()), (57, ()), (62, ()),
  (65, ()), (66, ()), (69, ()), (72, ()), (76, ()), (77, ()), (81, ()), (82, ()), (83, ()), (92, ()), (94, ()), (95, ()),
  (96, ()), (99, ()), (100, ()), (102, ()), (103, ()), (105, ()), (106, ()), (107, ()), (108, ()), (111, ()), (112, ()), (123, ()),
  (124, ()), (125, ()), (126, ()), (127, ()), (128, ()), (131, ()), (132, ()), (134, ()), (135, ()), (136, ()), (137, ()), (139, ()),
  (140, ()), (142, ()), (143, ()), (144, ()), (145, ()), (146, ()), (147, ()), (152, ()), (154, ()), (157, ()), (159, ()), (160, ()),
  (162, ()), (163, ()), (164, ()), (165, ()), (166, ()), (167, ()), (170, ()), (171, ()), (172, ()), (174, ()), (185, ()), (186, ()),
  (194, ()), (143141, ()), (143151, ())]
def tCt : List (Nat × CT) := [(2, .one (.int .i64)), (3, .one (.int .i64)), (4, .one (.bool)), (5, .one (.int .u8)), (9, .one (.str)), (22, .one (.row 0)),
  (24, .one (.row 2)), (25, .one (.row 2)), (27, .agg [.int .i64, .int .i64, .row 2, .row 2]), (28, .one (.row 0)), (30, .agg [.row 0]), (42, .one (.row 0)),
  (65, .one (.int .u64)), (67, .agg [.row 0, .int .i64, .int .u64]), (82, .one (.row 0)), (93, .agg [.int .i64, .int .u64]), (112, .one (.row 2)), (114, .agg [.row 2, .row 2]),
  (116, .agg [.int .i64, .row 2]), (119, .one (.int .u64)), (135, .one (.row 0)), (157, .one (.row 0)), (187, .one (.int .u32))]
def tAk : List (Nat × List CT) := [(5, [.one (.row 0), .one (.row 0)]), (6, [.one (.row 0), .one (.row 0)]), (11, [.agg [.int .i64, .int .i64, .row 2, .row 2], .agg [.row 0]]), (12, [.agg [.int .i64, .int .i64, .row 2, .row 2], .agg [.row 0]]), (23, [.agg [.int .i64, .int .i64, .row 2, .row 2], .one (.row 0)]), (28, [.one (.row 0), .one (.int .i64)]),
  (31, [.agg [.int .i64, .int .i64, .row 2, .row 2], .agg [.row 0], .one (.row 0)]), (32, [.one (.row 0)]), (33, [.agg [.int .i64, .int .i64, .row 2, .row 2], .agg [.row 0]]), (34, [.agg [.int .i64, .int .i64, .row 2, .row 2], .agg [.row 0]]), (35, [.agg [.int .i64, .int .i64, .row 2, .row 2], .agg [.row 0]]), (36, [.agg [.int .i64, .int .i64, .row 2, .row 2]]),
  (37, [.one (.row 0), .one (.row 0)]), (38, [.one (.any)]), (39, [.one (.any), .agg [.int .i64, .int .i64, .row 2, .row 2]]), (40, [.one (.any), .one (.int .i64), .one (.int .i64), .one (.int .i64)]), (41, [.one (.int .i64)]), (43, [.agg [.int .i64, .int .i64, .row 2, .row 2], .one (.row 2)]),
  (44, [.agg [.int .i64, .int .i64, .row 2, .row 2], .agg [.row 0], .one (.row 2)]), (45, [.agg [.int .i64, .int .i64, .row 2, .row 2]]), (46, [.agg [.row 0], .one (.int .i64)]), (47, [.agg [.int .i64, .int .i64, .row 2, .row 2]]), (48, [.agg [.int .i64, .int .i64, .row 2, .row 2]]), (49, [.agg [.int .i64, .int .i64, .row 2, .row 2]]),
  (50, [.one (.int .i64), .one (.int .i64), .one (.int .i64)]), (51, [.one (.row 0), .one (.row 0)]), (52, [.agg [.row 0]]), (54, [.agg [.int .i64, .int .i64, .row 2, .row 2], .one (.int .i64)]), (55, [.one (.int .i64), .one (.row 2), .one (.row 0)]), (57, [.one (.row 0)]),
  (59, [.one (.any), .agg [.int .i64, .int .i64, .row 2, .row 2], .one (.int .i64)]), (62, [.agg [.int .i64, .int .i64, .row 2, .row 2], .one (.row 2), .one (.row 0)]), (65, [.agg [.int .i64, .int .i64, .row 2, .row 2], .one (.row 0)]), (66, [.agg [.int .i64, .int .i64, .row 2, .row 2], .one (.row 2), .one (.row 0)]), (67, [.agg [.int .i64, .int .i64, .row 2, .row 2], .one (.int .i64)]), (69, [.agg [.int .i64, .int .i64, .row 2, .row 2], .one (.row 0)]),
  (71, [.agg [.row 0], .one (.int .i64)]), (72, [.agg [.int .i64, .int .i64, .row 2, .row 2], .one (.row 2)]), (73, [.one (.any), .one (.int .i64), .one (.int .i64)]), (76, [.one (.row 0), .one (.int .i64), .one (.int .i64)]), (77, [.agg [.row 0], .one (.row 0)]), (78, [.one (.any), .one (.int .i64)]),
  (79, [.one (.int .i64)]), (80, [.agg [.int .i64, .int .i64, .row 2, .row 2], .agg [.row 0], .one (.int .i64)]), (81, [.agg [.int .i64, .int .i64, .row 2, .row 2], .agg [.row 0], .one (.int .i64)]), (82, [.agg [.row 0]]), (83, [.one (.row 0), .one (.row 0)]), (84, [.agg [.int .i64, .int .i64, .row 2, .row 2], .agg [.row 0], .one (.int .i64)]),
  (85, [.agg [.int .i64, .int .i64, .row 2, .row 2], .agg [.row 0], .one (.int .i64)]), (86, [.agg [.int .i64, .int .i64, .row 2, .row 2], .agg [.row 0]]), (87, [.agg [.int .i64, .int .i64, .row 2, .row 2]]), (88, [.one (.any), .one (.row 0)]), (89, [.one (.any), .one (.int .i64)]), (90, [.one (.any), .one (.int .i64), .one (.int .i64)]),
  (91, [.one (.any), .one (.int .i64), .one (.int .i64), .one (.int .i64)]), (92, [.one (.int .i64), .one (.int .i64), .one (.row 2)]), (93, [.agg [.int .i64, .int .i64, .row 2, .row 2], .one (.row 2)]), (94, [.agg [.int .i64, .int .i64, .row 2, .row 2]]), (95, [.agg [.int .i64, .int .i64, .row 2, .row 2]]), (96, [.one (.row 0)]),
  (99, [.one (.int .i64)]), (100, [.one (.int .i64), .one (.int .i64), .one (.int .u64), .one (.int .u64)]), (102, [.one (.int .i64), .one (.int .i64), .one (.row 2)]), (103, [.one (.int .i64), .one (.row 2), .one (.int .i64), .one (.row 0)]), (105, [.one (.int .i64), .one (.int .i64), .one (.row 2), .one (.int .i64)]), (106, [.one (.row 0), .one (.int .i64)]),
  (107, [.one (.row 0), .one (.int .i64)]), (108, [.agg [.row 0], .one (.row 0)]), (109, [.agg [.int .i64, .int .i64, .row 2, .row 2], .one (.int .i64)]), (110, [.one (.row 0), .one (.any)]), (111, [.one (.int .i64)]), (112, [.one (.row 0), .one (.int .i64)]),
  (113, [.agg [.row 0], .one (.int .i64)]), (114, [.agg [.row 0], .one (.row 0)]), (115, [.agg [.int .i64, .int .i64, .row 2, .row 2], .one (.int .i64)]), (116, [.agg [.int .i64, .int .i64, .row 2, .row 2], .one (.row 0)]), (117, [.one (.row 0), .one (.row 0)]), (118, [.agg [.int .i64, .int .i64, .row 2, .row 2], .agg [.row 0]]),
  (119, [.agg [.int .i64, .int .i64, .row 2, .row 2], .one (.row 2)]), (120, [.agg [.int .i64, .int .i64, .row 2, .row 2]]), (121, [.one (.any)]), (122, [.one (.any), .one (.int .i64), .one (.int .i64)]), (123, [.one (.int .i64), .one (.int .u64)]), (124, [.one (.int .i64)]),
  (125, [.one (.int .i64)]), (126, [.one (.int .i64), .one (.int .i64), .agg [.int .i64, .int .u64]]), (127, [.one (.int .i64)]), (128, [.one (.int .i64)]), (129, [.one (.row 2), .one (.any)]), (130, [.agg [.row 2, .row 2]]),
  (131, [.agg [.int .i64, .int .i64, .row 2, .row 2], .agg [.row 2, .row 2]]), (132, [.agg [.int .i64, .int .i64, .row 2, .row 2], .agg [.row 2, .row 2]]), (134, [.one (.int .i64), .one (.int .u64), .one (.int .u64)]), (135, [.one (.int .i64), .one (.int .u64), .one (.int .u64), .one (.bool)]), (136, [.one (.bool)]), (137, [.one (.int .i64), .one (.int .u64)]),
  (139, [.one (.int .i64)]), (140, [.one (.int .i64), .one (.int .i64), .agg [.int .i64, .int .u64]]), (141, [.one (.row 0), .one (.any)]), (142, [.one (.int .i64)]), (143, [.one (.int .i64), .one (.int .i64), .one (.int .u64), .one (.int .u64)]), (144, [.one (.row 2), .one (.int .i64)]),
  (145, [.one (.row 2)]), (146, [.one (.row 0)]), (147, [.agg [.int .i64, .int .i64, .row 2, .row 2], .one (.row 0)]), (148, [.agg [.int .i64, .int .i64, .row 2, .row 2], .agg [.row 2, .row 2], .one (.row 0)]), (151, [.one (.row 0), .one (.any)]), (152, [.one (.row 0), .one (.int .i64)]),
  (153, [.agg [.int .i64, .int .i64, .row 2, .row 2], .one (.row 0)]), (154, [.agg [.int .i64, .int .i64, .row 2, .row 2], .one (.row 0)]), (155, [.agg [.int .i64, .int .i64, .row 2, .row 2], .one (.row 0), .one (.int .i64)]), (156, [.one (.row 0), .one (.row 0)]), (157, [.one (.int .i64), .one (.int .u64)]), (158, [.one (.row 2), .one (.any)]),
  (159, [.one (.int .i64), .one (.int .u64), .one (.int .u64)]), (160, [.one (.int .u64), .one (.int .u64), .one (.int .u64)]), (162, [.one (.int .i64), .one (.int .u64)]), (163, [.one (.int .i64), .one (.int .u64), .one (.int .u64)]), (164, [.one (.int .i64), .one (.int .u64), .one (.int .u64), .one (.bool)]), (165, [.one (.bool)]),
  (166, [.one (.int .i64), .one (.int .u64)]), (167, [.one (.row 0)]), (170, [.one (.row 0), .one (.int .i64)]), (171, [.one (.row 0)]), (172, [.one (.int .u64)]), (174, [.one (.int .i64), .one (.int .u64), .one (.int .u64)]),
  (185, [.one (.int .u64)]), (186, [.one (.int .u64), .one (.int .u64)]), (194, [.one (.int .u64), .one (.int .u64)])]
def tOwn : List (Nat × List (Nat × List (Option Nat × Nat × Et × Nat))) := [(5, [(0, [(none, 15, 3, 0)])]), (38, [(0, [(some 1, 2, 0, 2), (some 1, 3, 0, 2)])]), (57, [(0, [(some 0, 0, 3, 0), (some 1, 0, 3, 0)])]),
  (59, [(0, [(none, 7, 24, 0)])]), (67, [(0, [(none, 5, 65, 0)])]), (69, [(0, [(some 1, 0, 0, 0)])]),
  (73, [(0, [(none, 7, 3, 0)])]), (77, [(0, [(none, 5, 3, 0), (some 0, 0, 0, 0)])]), (79, [(0, [(none, 3, 3, 0)])]),
  (84, [(0, [(none, 7, 3, 0)])]), (90, [(0, [(some 1, 2, 0, 2), (some 1, 3, 0, 2), (some 2, 3, ⟨114, some ⟨1, 116, 2, 0, none⟩⟩, 2)])]), (92, [(0, [(none, 7, 3, 0)])]),
  (93, [(0, [(none, 5, 3, 0)])]), (113, [(0, [(none, 5, 3, 0)])]), (114, [(0, [(none, 5, 3, 0)])]),
  (115, [(0, [(none, 6, 3, 0)])]), (116, [(0, [(none, 5, 3, 0)])]), (122, [(0, [(some 1, 0, 0, 2), (some 1, 1, 0, 2), (some 2, 1, 116, 2)])]),
  (153, [(0, [(none, 5, 3, 0)])])]
def tCut : List (Nat × List (Nat × List Nat)) := []
def tNest : List (Nat × Kd) := [(25, ⟨1, 116, 2, 0, none⟩), (135, ⟨0, 3, 0, 0, none⟩)]
def tSorts : List (Nat × Nat) := [(149, 1), (150, 2)]
theorem sortsOK : ∀ g n, (g, n) ∈ tSorts → SortOK Tryz.prog n g := by
  intro g n h
  simp only [tSorts, List.mem_cons, Prod.mk.injEq, List.not_mem_nil, or_false] at h
  rcases h with ⟨rfl, rfl⟩ | ⟨rfl, rfl⟩
  · exact sort_ok
  · exact comp_ok
def tAo : List (Nat × List (Option (Et × Nat))) := [(106, [some (3, 0), none]), (110, [some (3, 0), none])]
def tRo : List (Nat × Unit) := [(112110, ()), (112151, ())]
def tExt : List (Nat × Nat) := []
theorem extOK : ∀ g n, (g, n) ∈ tExt → ExtOK Tryz.prog n g := by
  intro g n h
  simp [tExt] at h
noncomputable def E : Env := tabs.env tLive tRk tBk tPlain tCt tAk tOwn tCut tNest tSorts tAo tExt tRo
theorem envOK : EnvOK Tryz.prog E := Tabs.sound (by kernel_rfl) sortsOK extOK
noncomputable def pTab : List (Nat × Func) := [(5, Tryz.f5), (6, Tryz.f6), (11, Tryz.f11), (12, Tryz.f12), (23, Tryz.f23), (28, Tryz.f28), (31, Tryz.f31), (32, Tryz.f32), (33, Tryz.f33), (34, Tryz.f34), (35, Tryz.f35), (36, Tryz.f36),
  (37, Tryz.f37), (38, Tryz.f38), (39, Tryz.f39), (40, Tryz.f40), (41, Tryz.f41), (43, Tryz.f43), (44, Tryz.f44), (45, Tryz.f45), (46, Tryz.f46), (47, Tryz.f47), (48, Tryz.f48), (49, Tryz.f49),
  (50, Tryz.f50), (51, Tryz.f51), (52, Tryz.f52), (54, Tryz.f54), (55, Tryz.f55), (57, Tryz.f57), (59, Tryz.f59), (62, Tryz.f62), (65, Tryz.f65), (66, Tryz.f66), (67, Tryz.f67), (69, Tryz.f69),
  (71, Tryz.f71), (72, Tryz.f72), (73, Tryz.f73), (76, Tryz.f76), (77, Tryz.f77), (78, Tryz.f78), (79, Tryz.f79), (80, Tryz.f80), (81, Tryz.f81), (82, Tryz.f82), (83, Tryz.f83), (84, Tryz.f84),
  (85, Tryz.f85), (86, Tryz.f86), (87, Tryz.f87), (88, Tryz.f88), (89, Tryz.f89), (90, Tryz.f90), (91, Tryz.f91), (92, Tryz.f92), (93, Tryz.f93), (94, Tryz.f94), (95, Tryz.f95), (96, Tryz.f96),
  (99, Tryz.f99), (100, Tryz.f100), (102, Tryz.f102), (103, Tryz.f103), (105, Tryz.f105), (106, Tryz.f106), (107, Tryz.f107), (108, Tryz.f108), (109, Tryz.f109), (110, Tryz.f110), (111, Tryz.f111), (112, Tryz.f112),
  (113, Tryz.f113), (114, Tryz.f114), (115, Tryz.f115), (116, Tryz.f116), (117, Tryz.f117), (118, Tryz.f118), (119, Tryz.f119), (120, Tryz.f120), (121, Tryz.f121), (122, Tryz.f122), (123, Tryz.f123), (124, Tryz.f124),
  (125, Tryz.f125), (126, Tryz.f126), (127, Tryz.f127), (128, Tryz.f128), (129, Tryz.f129), (130, Tryz.f130), (131, Tryz.f131), (132, Tryz.f132), (134, Tryz.f134), (135, Tryz.f135), (136, Tryz.f136), (137, Tryz.f137),
  (139, Tryz.f139), (140, Tryz.f140), (141, Tryz.f141), (142, Tryz.f142), (143, Tryz.f143), (144, Tryz.f144), (145, Tryz.f145), (146, Tryz.f146), (147, Tryz.f147), (148, Tryz.f148), (151, Tryz.f151), (152, Tryz.f152),
  (153, Tryz.f153), (154, Tryz.f154), (155, Tryz.f155), (156, Tryz.f156), (157, Tryz.f157), (158, Tryz.f158), (159, Tryz.f159), (160, Tryz.f160), (162, Tryz.f162), (163, Tryz.f163), (164, Tryz.f164), (165, Tryz.f165),
  (166, Tryz.f166), (167, Tryz.f167), (170, Tryz.f170), (171, Tryz.f171), (172, Tryz.f172), (174, Tryz.f174), (185, Tryz.f185), (186, Tryz.f186), (194, Tryz.f194)]
noncomputable def P : FuncId → Option Func := lk pTab
theorem pOK : PfOK Tryz.prog P := pfOK_of (tab := pTab)
  (pfOK_cons Tryz.func5 (pfOK_cons Tryz.func6 (pfOK_cons Tryz.func11 (pfOK_cons Tryz.func12 (pfOK_cons Tryz.func23 (pfOK_cons Tryz.func28 (pfOK_cons Tryz.func31 (pfOK_cons Tryz.func32 
  (pfOK_cons Tryz.func33 (pfOK_cons Tryz.func34 (pfOK_cons Tryz.func35 (pfOK_cons Tryz.func36 (pfOK_cons Tryz.func37 (pfOK_cons Tryz.func38 (pfOK_cons Tryz.func39 (pfOK_cons Tryz.func40 
  (pfOK_cons Tryz.func41 (pfOK_cons Tryz.func43 (pfOK_cons Tryz.func44 (pfOK_cons Tryz.func45 (pfOK_cons Tryz.func46 (pfOK_cons Tryz.func47 (pfOK_cons Tryz.func48 (pfOK_cons Tryz.func49 
  (pfOK_cons Tryz.func50 (pfOK_cons Tryz.func51 (pfOK_cons Tryz.func52 (pfOK_cons Tryz.func54 (pfOK_cons Tryz.func55 (pfOK_cons Tryz.func57 (pfOK_cons Tryz.func59 (pfOK_cons Tryz.func62 
  (pfOK_cons Tryz.func65 (pfOK_cons Tryz.func66 (pfOK_cons Tryz.func67 (pfOK_cons Tryz.func69 (pfOK_cons Tryz.func71 (pfOK_cons Tryz.func72 (pfOK_cons Tryz.func73 (pfOK_cons Tryz.func76 
  (pfOK_cons Tryz.func77 (pfOK_cons Tryz.func78 (pfOK_cons Tryz.func79 (pfOK_cons Tryz.func80 (pfOK_cons Tryz.func81 (pfOK_cons Tryz.func82 (pfOK_cons Tryz.func83 (pfOK_cons Tryz.func84 
  (pfOK_cons Tryz.func85 (pfOK_cons Tryz.func86 (pfOK_cons Tryz.func87 (pfOK_cons Tryz.func88 (pfOK_cons Tryz.func89 (pfOK_cons Tryz.func90 (pfOK_cons Tryz.func91 (pfOK_cons Tryz.func92 
  (pfOK_cons Tryz.func93 (pfOK_cons Tryz.func94 (pfOK_cons Tryz.func95 (pfOK_cons Tryz.func96 (pfOK_cons Tryz.func99 (pfOK_cons Tryz.func100 (pfOK_cons Tryz.func102 (pfOK_cons Tryz.func103 
  (pfOK_cons Tryz.func105 (pfOK_cons Tryz.func106 (pfOK_cons Tryz.func107 (pfOK_cons Tryz.func108 (pfOK_cons Tryz.func109 (pfOK_cons Tryz.func110 (pfOK_cons Tryz.func111 (pfOK_cons Tryz.func112 
  (pfOK_cons Tryz.func113 (pfOK_cons Tryz.func114 (pfOK_cons Tryz.func115 (pfOK_cons Tryz.func116 (pfOK_cons Tryz.func117 (pfOK_cons Tryz.func118 (pfOK_cons Tryz.func119 (pfOK_cons Tryz.func120 
  (pfOK_cons Tryz.func121 (pfOK_cons Tryz.func122 (pfOK_cons Tryz.func123 (pfOK_cons Tryz.func124 (pfOK_cons Tryz.func125 (pfOK_cons Tryz.func126 (pfOK_cons Tryz.func127 (pfOK_cons Tryz.func128 
  (pfOK_cons Tryz.func129 (pfOK_cons Tryz.func130 (pfOK_cons Tryz.func131 (pfOK_cons Tryz.func132 (pfOK_cons Tryz.func134 (pfOK_cons Tryz.func135 (pfOK_cons Tryz.func136 (pfOK_cons Tryz.func137 
  (pfOK_cons Tryz.func139 (pfOK_cons Tryz.func140 (pfOK_cons Tryz.func141 (pfOK_cons Tryz.func142 (pfOK_cons Tryz.func143 (pfOK_cons Tryz.func144 (pfOK_cons Tryz.func145 (pfOK_cons Tryz.func146 
  (pfOK_cons Tryz.func147 (pfOK_cons Tryz.func148 (pfOK_cons Tryz.func151 (pfOK_cons Tryz.func152 (pfOK_cons Tryz.func153 (pfOK_cons Tryz.func154 (pfOK_cons Tryz.func155 (pfOK_cons Tryz.func156 
  (pfOK_cons Tryz.func157 (pfOK_cons Tryz.func158 (pfOK_cons Tryz.func159 (pfOK_cons Tryz.func160 (pfOK_cons Tryz.func162 (pfOK_cons Tryz.func163 (pfOK_cons Tryz.func164 (pfOK_cons Tryz.func165 
  (pfOK_cons Tryz.func166 (pfOK_cons Tryz.func167 (pfOK_cons Tryz.func170 (pfOK_cons Tryz.func171 (pfOK_cons Tryz.func172 (pfOK_cons Tryz.func174 (pfOK_cons Tryz.func185 (pfOK_cons Tryz.func186 
  (pfOK_cons Tryz.func194 pfOK_nil)))))))))))))))))))))))))))))))))))))))))))))))))))))))))))))))))))))))))))))))))))))))))))))))))))))))))))))))))))))))))))))))))
  (by kernel_rfl)
theorem cl167 (xs : List PV) (h1 : xs.length * 8 ≤ LIM) (h2 : xs.length ≤ LIM) : evF P E (fun _ _ _ => none) 2 167 [.s (.c (.p (.row 0 3 xs)))] [] = some ([.c (.own 65 0 xs)], []) := by
  have e : evF P E (fun _ _ _ => none) 2 167 [.s (.c (.p (.row 0 3 xs)))] [] = bif decide ((0 + xs.length) * 8 ≤ LIM) && decide (0 + xs.length ≤ LIM) then some ([.c (.own 65 0 (([] ++ xs).take (0 + xs.length)))], []) else none := by kernel_rfl
  rw [e]
  simp [h1, h2]
theorem cl171 (xs : List PV) (h1 : xs.length * 8 ≤ LIM) (h2 : xs.length ≤ LIM) : evF P E (fun _ _ _ => none) 2 171 [.s (.c (.p (.row 0 3 xs)))] [] = some ([.c (.own 3 0 xs)], []) := by
  have e : evF P E (fun _ _ _ => none) 2 171 [.s (.c (.p (.row 0 3 xs)))] [] = bif decide ((0 + xs.length) * 8 ≤ LIM) && decide (0 + xs.length ≤ LIM) then some ([.c (.own 3 0 (([] ++ xs).take (0 + xs.length)))], []) else none := by kernel_rfl
  rw [e]
  simp [h1, h2]
def clones : List (Nat × (Nat × Nat × Nat)) := [(167, (65, 0, 8)), (171, (3, 0, 8))]
theorem hT0 : ∀ f args bs r, cloneT clones f args bs = some r → Contract Tryz.prog f args bs r := by
  refine cloneT_ok fun f e sh by_ hm xs h1 h2 => ?_
  have h0 : ∀ f args bs r, (fun (_ : FuncId) (_ : List AV) (_ : List (List CV)) => (none : R)) f args bs = some r → Contract Tryz.prog f args bs r := fun _ _ _ _ h => by cases h
  simp only [clones, List.mem_cons, List.not_mem_nil, or_false, Prod.mk.injEq] at hm
  rcases hm with ⟨rfl, rfl, rfl, rfl⟩ | ⟨rfl, rfl, rfl, rfl⟩
  · exact clone_contract (evF_sound envOK pOK h0 2 (by kernel_rfl)) (evF_sound envOK pOK h0 2 (cl167 xs h1 h2))
  · exact clone_contract (evF_sound envOK pOK h0 2 (by kernel_rfl)) (evF_sound envOK pOK h0 2 (cl171 xs h1 h2))
def T : FuncId → List AV → List (List CV) → R := cloneT clones
theorem hT : ∀ f args bs r, T f args bs = some r → Contract Tryz.prog f args bs r := hT0
end Go.Proofs.YtfinhnimlmkooaaGreat
/- Calls and loops of the program, by shape: printed by nf.py. -/
set_option linter.unusedVariables false
namespace Go.Proofs.YtfinhnimlmkooaaGreat
open Go.Dp
noncomputable section
/-! 5 : laws.FnStable -/
def c5 (k : Nat) (code more : List PV) : R := evF P E T k 5 [.s (.c (.p (PV.row 0 0 code))), .s (.c (.p (PV.row 0 0 more)))] []
def r5 (b : Bool) : R := some ([.c (.p (PV.bool b))], [])
def R5 (x0 : R) (K0 : Bool → R) : R := x0.bind fun q0 => bif lensB q0.2 [] && lensS q0.1 [.c (.p (.bool))] then (cBool (resAt q0.1 0)).bind fun b => K0 b else none
@[simp] theorem R5_r (b : Bool) (K0 : Bool → R) : R5 (r5 b) K0 = K0 b := by kernel_rfl
def L5_1 (k n : Nat) (qr : List PV) (one two : Bool) (classesLen : Nat) (t61 : List PV) (t62 t63 : Int) (l xs : List PV) : R := evLoopAt P E T k 5 5 [] [1, 1, 1, 1, 1, 1, 0, 1, 0, 1, 1, 1, 0, 1, 0] [] n ⟨mkT 109 [(6, .s (.c (.bptr 0 0))), (11, .s (.c (.p (PV.row 0 0 qr)))), (12, .s (.c (.p (PV.bool one)))), (14, .s (.c (.p (PV.bool two)))), (15, .s (.c (.loc 1 0 0 0 classesLen))), (61, .s (.c (.p (PV.row 0 0 t61)))), (62, .s (.c (.p (PV.int .i64 t62)))), (63, .s (.c (.p (PV.int .i64 t63))))], [.box [.p (PV.row 0 0 l)], .arr 3 0 0 false xs]⟩
/-! 6 : laws.big -/
def c6 (k : Nat) (code more : List PV) : R := evF P E T k 6 [.s (.c (.p (PV.row 0 0 code))), .s (.c (.p (PV.row 0 0 more)))] []
def r6 (b : Bool) : R := some ([.c (.p (PV.bool b))], [])
def R6 (x0 : R) (K0 : Bool → R) : R := x0.bind fun q0 => bif lensB q0.2 [] && lensS q0.1 [.c (.p (.bool))] then (cBool (resAt q0.1 0)).bind fun b => K0 b else none
@[simp] theorem R6_r (b : Bool) (K0 : Bool → R) : R6 (r6 b) K0 = K0 b := by kernel_rfl
/-! 11 : impl.GoodSight -/
def c11 (k : Nat) (p p1 : Int) (p2 p3 v : List PV) : R := evF P E T k 11 [.s (.c (.p (PV.agg [.int .i64 p, .int .i64 p1, .row 2 0 p2, .row 2 0 p3]))), .s (.c (.p (PV.agg [.row 0 0 v])))] []
def r11 (b : Bool) : R := some ([.c (.p (PV.bool b))], [])
def R11 (x0 : R) (K0 : Bool → R) : R := x0.bind fun q0 => bif lensB q0.2 [] && lensS q0.1 [.c (.p (.bool))] then (cBool (resAt q0.1 0)).bind fun b => K0 b else none
@[simp] theorem R11_r (b : Bool) (K0 : Bool → R) : R11 (r11 b) K0 = K0 b := by kernel_rfl
/-! 12 : spec.GoodSight -/
def c12 (k : Nat) (p p1 : Int) (p2 p3 v : List PV) : R := evF P E T k 12 [.s (.c (.p (PV.agg [.int .i64 p, .int .i64 p1, .row 2 0 p2, .row 2 0 p3]))), .s (.c (.p (PV.agg [.row 0 0 v])))] []
def r12 (b : Bool) : R := some ([.c (.p (PV.bool b))], [])
def R12 (x0 : R) (K0 : Bool → R) : R := x0.bind fun q0 => bif lensB q0.2 [] && lensS q0.1 [.c (.p (.bool))] then (cBool (resAt q0.1 0)).bind fun b => K0 b else none
@[simp] theorem R12_r (b : Bool) (K0 : Bool → R) : R12 (r12 b) K0 = K0 b := by kernel_rfl
def L12_1 (k n : Nat) (many : Int) (t20 : List PV) (t21 t22 : Int) : R := evLoopAt P E T k 12 12 [] [1, 1, 1, 0, 1, 0] [] n ⟨mkT 36 [(5, .s (.c (.p (PV.int .i64 many)))), (20, .s (.c (.p (PV.row 0 0 t20)))), (21, .s (.c (.p (PV.int .i64 t21)))), (22, .s (.c (.p (PV.int .i64 t22))))], []⟩
/-! 23 : spec.SightBy -/
def c23 (k : Nat) (p p1 : Int) (p2 p3 preds : List PV) : R := evF P E T k 23 [.s (.c (.p (PV.agg [.int .i64 p, .int .i64 p1, .row 2 0 p2, .row 2 0 p3]))), .s (.c (.p (PV.row 0 0 preds)))] []
def r23 (l : List PV) (b : Bool) : R := some ([.agg [.own 3 0 l], .c (.p (PV.bool b))], [])
def R23 (x0 : R) (K0 : List PV → Bool → R) : R := x0.bind fun q0 => bif lensB q0.2 [] && lensS q0.1 [.agg [.own 3 0], .c (.p (.bool))] then (asOwn 3 0 (Dp.partAt q0.1 0 0)).bind fun l => (cBool (resAt q0.1 1)).bind fun b => K0 l b else none
@[simp] theorem R23_r (l : List PV) (b : Bool) (K0 : List PV → Bool → R) : R23 (r23 l b) K0 = K0 l b := by kernel_rfl
/-! 28 : laws.has -/
def c28 (k : Nat) (l : List PV) (n1 : Int) : R := evF P E T k 28 [.s (.c (.p (PV.row 0 0 l))), .s (.c (.p (PV.int .i64 n1)))] []
def r28 (b : Bool) : R := some ([.c (.p (PV.bool b))], [])
def R28 (x0 : R) (K0 : Bool → R) : R := x0.bind fun q0 => bif lensB q0.2 [] && lensS q0.1 [.c (.p (.bool))] then (cBool (resAt q0.1 0)).bind fun b => K0 b else none
@[simp] theorem R28_r (b : Bool) (K0 : Bool → R) : R28 (r28 b) K0 = K0 b := by kernel_rfl
def R28p (x0 : R) (K0 : Bool → R) : R := x0.bind fun q0 => bif q0.1.all plainS && q0.2.all (fun cs => cs.all plainC) then (bif lensB q0.2 [] && lensS q0.1 [.c (.p (.bool))] then (cBool (resAt q0.1 0)).bind fun b => K0 b else none) else none
@[simp] theorem R28p_r (b : Bool) (K0 : Bool → R) : R28p (r28 b) K0 = K0 b := by kernel_rfl
def L28_1 (k n : Nat) (n1 : Int) (t7 : List PV) (t8 t9 : Int) : R := evLoopAt P E T k 28 28 [] [1, 0, 1, 0] [] n ⟨mkT 17 [(1, .s (.c (.p (PV.int .i64 n1)))), (7, .s (.c (.p (PV.row 0 0 t7)))), (8, .s (.c (.p (PV.int .i64 t8)))), (9, .s (.c (.p (PV.int .i64 t9))))], []⟩
/-! 31 : spec.CutOut -/
def c31 (k : Nat) (p p1 : Int) (p2 p3 v some1 : List PV) : R := evF P E T k 31 [.s (.c (.p (PV.agg [.int .i64 p, .int .i64 p1, .row 2 0 p2, .row 2 0 p3]))), .s (.c (.p (PV.agg [.row 0 0 v]))), .s (.c (.p (PV.row 0 0 some1)))] []
def r31 (l : List PV) (b : Bool) : R := some ([.agg [.own 3 0 l], .c (.p (PV.bool b))], [])
def R31 (x0 : R) (K0 : List PV → Bool → R) : R := x0.bind fun q0 => bif lensB q0.2 [] && lensS q0.1 [.agg [.own 3 0], .c (.p (.bool))] then (asOwn 3 0 (Dp.partAt q0.1 0 0)).bind fun l => (cBool (resAt q0.1 1)).bind fun b => K0 l b else none
@[simp] theorem R31_r (l : List PV) (b : Bool) (K0 : List PV → Bool → R) : R31 (r31 l b) K0 = K0 l b := by kernel_rfl
def R31p (x0 : R) (K0 : List PV → Bool → R) : R := x0.bind fun q0 => bif q0.1.all plainS && q0.2.all (fun cs => cs.all plainC) then (bif lensB q0.2 [] && lensS q0.1 [.agg [.own 3 0], .c (.p (.bool))] then (asOwn 3 0 (Dp.partAt q0.1 0 0)).bind fun l => (cBool (resAt q0.1 1)).bind fun b => K0 l b else none) else none
/-! 32 : spec.DrawIsStable -/
def c32 (k : Nat) (code : List PV) : R := evF P E T k 32 [.s (.c (.p (PV.row 0 0 code)))] []
def r32 (qr qr1 : Int) (l l1 l2 : List PV) : R := some ([.agg [.p (PV.int .i64 qr), .p (PV.int .i64 qr1), .p (PV.row 2 0 l), .p (PV.row 2 0 l1)], .agg [.p (PV.row 0 0 l2)]], [])
def R32 (x0 : R) (K0 : Int → Int → List PV → List PV → List PV → R) : R := x0.bind fun q0 => bif lensB q0.2 [] && lensS q0.1 [.agg [.p (.int .i64), .p (.int .i64), .p (.row 2), .p (.row 2)], .agg [.p (.row 0)]] then (cInt (Dp.partAt q0.1 0 0) .i64).bind fun qr => (cInt (Dp.partAt q0.1 0 1) .i64).bind fun qr1 => (cRow (Dp.partAt q0.1 0 2) 2).bind fun l => (cRow (Dp.partAt q0.1 0 3) 2).bind fun l1 => (cRow (Dp.partAt q0.1 1 0) 0).bind fun l2 => K0 qr qr1 l l1 l2 else none
@[simp] theorem R32_r (qr qr1 : Int) (l l1 l2 : List PV) (K0 : Int → Int → List PV → List PV → List PV → R) : R32 (r32 qr qr1 l l1 l2) K0 = K0 qr qr1 l l1 l2 := by kernel_rfl
/-! 33 : impl.IsStable -/
def c33 (k : Nat) (p p1 : Int) (p2 p3 v : List PV) : R := evF P E T k 33 [.s (.c (.p (PV.agg [.int .i64 p, .int .i64 p1, .row 2 0 p2, .row 2 0 p3]))), .s (.c (.p (PV.agg [.row 0 0 v])))] []
def r33 (b b1 : Bool) : R := some ([.c (.p (PV.bool b)), .c (.p (PV.bool b1))], [])
def R33 (x0 : R) (K0 : Bool → Bool → R) : R := x0.bind fun q0 => bif lensB q0.2 [] && lensS q0.1 [.c (.p (.bool)), .c (.p (.bool))] then (cBool (resAt q0.1 0)).bind fun b => (cBool (resAt q0.1 1)).bind fun b1 => K0 b b1 else none
@[simp] theorem R33_r (b b1 : Bool) (K0 : Bool → Bool → R) : R33 (r33 b b1) K0 = K0 b b1 := by kernel_rfl
def L33_1 (k n : Nat) (t12 t13 n1 n11 : Int) (l l1 l2 : List PV) : R := evLoopAt P E T k 33 33 [] [1, 1, 0, 1, 0] [] n ⟨mkT 27 [(2, .s (.c (.bptr 0 0))), (3, .s (.c (.bptr 1 0))), (12, .s (.c (.p (PV.int .i64 t12)))), (13, .s (.c (.p (PV.int .i64 t13))))], [.box [.p (PV.int .i64 n1), .p (PV.int .i64 n11), .p (PV.row 2 0 l), .p (PV.row 2 0 l1)], .box [.p (PV.row 0 0 l2)]]⟩
/-! 34 : spec.IsStable -/
def c34 (k : Nat) (p p1 : Int) (p2 p3 v : List PV) : R := evF P E T k 34 [.s (.c (.p (PV.agg [.int .i64 p, .int .i64 p1, .row 2 0 p2, .row 2 0 p3]))), .s (.c (.p (PV.agg [.row 0 0 v])))] []
def r34 (b b1 : Bool) : R := some ([.c (.p (PV.bool b)), .c (.p (PV.bool b1))], [])
def R34 (x0 : R) (K0 : Bool → Bool → R) : R := x0.bind fun q0 => bif lensB q0.2 [] && lensS q0.1 [.c (.p (.bool)), .c (.p (.bool))] then (cBool (resAt q0.1 0)).bind fun b => (cBool (resAt q0.1 1)).bind fun b1 => K0 b b1 else none
@[simp] theorem R34_r (b b1 : Bool) (K0 : Bool → Bool → R) : R34 (r34 b b1) K0 = K0 b b1 := by kernel_rfl
def L34_1 (k n : Nat) (class1 n1 n11 : Int) (l l1 l2 : List PV) : R := evLoopAt P E T k 34 34 [] [1, 1, 0, 1, 0] [] n ⟨mkT 27 [(2, .s (.c (.bptr 0 0))), (3, .s (.c (.bptr 1 0))), (6, .s (.c (.p (PV.int .i64 class1))))], [.box [.p (PV.int .i64 n1), .p (PV.int .i64 n11), .p (PV.row 2 0 l), .p (PV.row 2 0 l1)], .box [.p (PV.row 0 0 l2)]]⟩
/-! 35 : impl.ClassReach -/
def c35 (k : Nat) (p p1 : Int) (p2 p3 v : List PV) : R := evF P E T k 35 [.s (.c (.p (PV.agg [.int .i64 p, .int .i64 p1, .row 2 0 p2, .row 2 0 p3]))), .s (.c (.p (PV.agg [.row 0 0 v])))] []
def r35 (l : List PV) (b : Bool) : R := some ([.c (.p (PV.row 0 0 l)), .c (.p (PV.bool b))], [])
def R35 (x0 : R) (K0 : List PV → Bool → R) : R := x0.bind fun q0 => bif lensB q0.2 [] && lensS q0.1 [.c (.p (.row 0)), .c (.p (.bool))] then (cRow (resAt q0.1 0) 0).bind fun l => (cBool (resAt q0.1 1)).bind fun b => K0 l b else none
@[simp] theorem R35_r (l : List PV) (b : Bool) (K0 : List PV → Bool → R) : R35 (r35 l b) K0 = K0 l b := by kernel_rfl
/-! 36 : impl.ReachOf -/
def c36 (k : Nat) (p p1 : Int) (p2 p3 : List PV) : R := evF P E T k 36 [.s (.c (.p (PV.agg [.int .i64 p, .int .i64 p1, .row 2 0 p2, .row 2 0 p3])))] []
def r36 (l : List PV) (b : Bool) : R := some ([.c (.p (PV.row 0 0 l)), .c (.p (PV.bool b))], [])
def R36 (x0 : R) (K0 : List PV → Bool → R) : R := x0.bind fun q0 => bif lensB q0.2 [] && lensS q0.1 [.c (.p (.row 0)), .c (.p (.bool))] then (cRow (resAt q0.1 0) 0).bind fun l => (cBool (resAt q0.1 1)).bind fun b => K0 l b else none
@[simp] theorem R36_r (l : List PV) (b : Bool) (K0 : List PV → Bool → R) : R36 (r36 l b) K0 = K0 l b := by kernel_rfl
/-! 37 : laws.within -/
def c37 (k : Nat) (some1 in1 : List PV) : R := evF P E T k 37 [.s (.c (.p (PV.row 0 0 some1))), .s (.c (.p (PV.row 0 0 in1)))] []
def r37 (b : Bool) : R := some ([.c (.p (PV.bool b))], [])
def R37 (x0 : R) (K0 : Bool → R) : R := x0.bind fun q0 => bif lensB q0.2 [] && lensS q0.1 [.c (.p (.bool))] then (cBool (resAt q0.1 0)).bind fun b => K0 b else none
@[simp] theorem R37_r (b : Bool) (K0 : Bool → R) : R37 (r37 b) K0 = K0 b := by kernel_rfl
def R37p (x0 : R) (K0 : Bool → R) : R := x0.bind fun q0 => bif q0.1.all plainS && q0.2.all (fun cs => cs.all plainC) then (bif lensB q0.2 [] && lensS q0.1 [.c (.p (.bool))] then (cBool (resAt q0.1 0)).bind fun b => K0 b else none) else none
@[simp] theorem R37p_r (b : Bool) (K0 : Bool → R) : R37p (r37 b) K0 = K0 b := by kernel_rfl
def L37_1 (k n : Nat) (in1 t7 : List PV) (t8 t9 : Int) : R := evLoopAt P E T k 37 37 [] [1, 0, 1, 0] [] n ⟨mkT 18 [(1, .s (.c (.p (PV.row 0 0 in1)))), (7, .s (.c (.p (PV.row 0 0 t7)))), (8, .s (.c (.p (PV.int .i64 t8)))), (9, .s (.c (.p (PV.int .i64 t9))))], []⟩
/-! 38 : spec.l1Cur).small -/
def c38 (k : Nat) (l : List PV) (n1 n11 : Int) : R := evF P E T k 38 [.s (.c (.bptr 0 0))] [[.p (PV.row 0 0 l), .p (PV.int .i64 n1), .p (PV.int .u64 n11)]]
def r38 (l : List PV) (qr qr1 qr2 qr3 : Int) (l1 l2 : List PV) : R := some ([.agg [.p (PV.int .i64 qr2), .p (PV.int .i64 qr3), .p (PV.row 2 0 l1), .p (PV.row 2 0 l2)]], [[.p (PV.row 0 0 l), .p (PV.int .i64 qr), .p (PV.int .u64 qr1)]])
def R38 (x0 : R) (K0 : List PV → Int → Int → Int → Int → List PV → List PV → R) : R := x0.bind fun q0 => bif lensB q0.2 [[.p (.row 0), .p (.int .i64), .p (.int .u64)]] && lensS q0.1 [.agg [.p (.int .i64), .p (.int .i64), .p (.row 2), .p (.row 2)]] then (cRow (cellAt q0.2 0 0) 0).bind fun l => (cInt (cellAt q0.2 0 1) .i64).bind fun qr => (cInt (cellAt q0.2 0 2) .u64).bind fun qr1 => (cInt (Dp.partAt q0.1 0 0) .i64).bind fun qr2 => (cInt (Dp.partAt q0.1 0 1) .i64).bind fun qr3 => (cRow (Dp.partAt q0.1 0 2) 2).bind fun l1 => (cRow (Dp.partAt q0.1 0 3) 2).bind fun l2 => K0 l qr qr1 qr2 qr3 l1 l2 else none
@[simp] theorem R38_r (l : List PV) (qr qr1 qr2 qr3 : Int) (l1 l2 : List PV) (K0 : List PV → Int → Int → Int → Int → List PV → List PV → R) : R38 (r38 l qr qr1 qr2 qr3 l1 l2) K0 = K0 l qr qr1 qr2 qr3 l1 l2 := by kernel_rfl
def L38_1 (k n : Nat) (wide vars : Int) (l : List PV) (n1 n11 n12 n13 : Int) (l1 l2 : List PV) : R := evLoopAt P E T k 38 38 [3] [1, 1, 1, 1, 0, 0] [] n ⟨mkT 67 [(0, .s (.c (.bptr 0 0))), (2, .s (.c (.bptr 1 0))), (3, .s (.c (.p (PV.int .i64 wide)))), (4, .s (.c (.p (PV.int .i64 vars))))], [.box [.p (PV.row 0 0 l), .p (PV.int .i64 n1), .p (PV.int .u64 n11)], .box [.p (PV.int .i64 n12), .p (PV.int .i64 n13), .p (PV.row 2 0 l1), .p (PV.row 2 0 l2)]]⟩
/-! 39 : spec.l1Cur).sight -/
def c39 (k : Nat) (p p1 : Int) (p2 p3 l : List PV) (n1 n11 : Int) : R := evF P E T k 39 [.s (.c (.bptr 0 0)), .s (.c (.p (PV.agg [.int .i64 p, .int .i64 p1, .row 2 0 p2, .row 2 0 p3])))] [[.p (PV.row 0 0 l), .p (PV.int .i64 n1), .p (PV.int .u64 n11)]]
def r39 (l : List PV) (qr qr1 : Int) (l1 : List PV) : R := some ([.agg [.p (PV.row 0 0 l1)]], [[.p (PV.row 0 0 l), .p (PV.int .i64 qr), .p (PV.int .u64 qr1)]])
def R39 (x0 : R) (K0 : List PV → Int → Int → List PV → R) : R := x0.bind fun q0 => bif lensB q0.2 [[.p (.row 0), .p (.int .i64), .p (.int .u64)]] && lensS q0.1 [.agg [.p (.row 0)]] then (cRow (cellAt q0.2 0 0) 0).bind fun l => (cInt (cellAt q0.2 0 1) .i64).bind fun qr => (cInt (cellAt q0.2 0 2) .u64).bind fun qr1 => (cRow (Dp.partAt q0.1 0 0) 0).bind fun l1 => K0 l qr qr1 l1 else none
@[simp] theorem R39_r (l : List PV) (qr qr1 : Int) (l1 : List PV) (K0 : List PV → Int → Int → List PV → R) : R39 (r39 l qr qr1 l1) K0 = K0 l qr qr1 l1 := by kernel_rfl
/-! 40 : spec.l1Cur).asked -/
def c40 (k : Nat) (wide vars deep : Int) (l : List PV) (n1 n11 : Int) : R := evF P E T k 40 [.s (.c (.bptr 0 0)), .s (.c (.p (PV.int .i64 wide))), .s (.c (.p (PV.int .i64 vars))), .s (.c (.p (PV.int .i64 deep)))] [[.p (PV.row 0 0 l), .p (PV.int .i64 n1), .p (PV.int .u64 n11)]]
def r40 (l : List PV) (qr qr1 : Int) (l1 : List PV) : R := some ([.c (.own 93 2 l1)], [[.p (PV.row 0 0 l), .p (PV.int .i64 qr), .p (PV.int .u64 qr1)]])
def R40 (x0 : R) (K0 : List PV → Int → Int → List PV → R) : R := x0.bind fun q0 => bif lensB q0.2 [[.p (.row 0), .p (.int .i64), .p (.int .u64)]] && lensS q0.1 [.c (.own 93 2)] then (cRow (cellAt q0.2 0 0) 0).bind fun l => (cInt (cellAt q0.2 0 1) .i64).bind fun qr => (cInt (cellAt q0.2 0 2) .u64).bind fun qr1 => (asOwn 93 2 (resAt q0.1 0)).bind fun l1 => K0 l qr qr1 l1 else none
@[simp] theorem R40_r (l : List PV) (qr qr1 : Int) (l1 : List PV) (K0 : List PV → Int → Int → List PV → R) : R40 (r40 l qr qr1 l1) K0 = K0 l qr qr1 l1 := by kernel_rfl
/-! 41 : spec.l2One -/
def c41 (k : Nat) (n1 : Int) : R := evF P E T k 41 [.s (.c (.p (PV.int .i64 n1)))] []
def r41 (qr : Int) : R := some ([.c (.p (PV.int .i64 qr))], [])
def R41 (x0 : R) (K0 : Int → R) : R := x0.bind fun q0 => bif lensB q0.2 [] && lensS q0.1 [.c (.p (.int .i64))] then (cInt (resAt q0.1 0) .i64).bind fun qr => K0 qr else none
@[simp] theorem R41_r (qr : Int) (K0 : Int → R) : R41 (r41 qr) K0 = K0 qr := by kernel_rfl
/-! 43 : spec.l7Asks -/
def c43 (k : Nat) (p p1 : Int) (p2 p3 t : List PV) : R := evF P E T k 43 [.s (.c (.p (PV.agg [.int .i64 p, .int .i64 p1, .row 2 0 p2, .row 2 0 p3]))), .s (.c (.p (PV.row 2 0 t)))] []
def r43 (b : Bool) : R := some ([.c (.p (PV.bool b))], [])
def R43 (x0 : R) (K0 : Bool → R) : R := x0.bind fun q0 => bif lensB q0.2 [] && lensS q0.1 [.c (.p (.bool))] then (cBool (resAt q0.1 0)).bind fun b => K0 b else none
@[simp] theorem R43_r (b : Bool) (K0 : Bool → R) : R43 (r43 b) K0 = K0 b := by kernel_rfl
/-! 44 : spec.l15Split -/
def c44 (k : Nat) (p p1 : Int) (p2 p3 v t : List PV) : R := evF P E T k 44 [.s (.c (.p (PV.agg [.int .i64 p, .int .i64 p1, .row 2 0 p2, .row 2 0 p3]))), .s (.c (.p (PV.agg [.row 0 0 v]))), .s (.c (.p (PV.row 2 0 t)))] []
def r44 (l : List PV) : R := some ([.agg [.own 3 0 l]], [])
def R44 (x0 : R) (K0 : List PV → R) : R := x0.bind fun q0 => bif lensB q0.2 [] && lensS q0.1 [.agg [.own 3 0]] then (asOwn 3 0 (Dp.partAt q0.1 0 0)).bind fun l => K0 l else none
@[simp] theorem R44_r (l : List PV) (K0 : List PV → R) : R44 (r44 l) K0 = K0 l := by kernel_rfl
def R44p (x0 : R) (K0 : List PV → R) : R := x0.bind fun q0 => bif q0.1.all plainS && q0.2.all (fun cs => cs.all plainC) then (bif lensB q0.2 [] && lensS q0.1 [.agg [.own 3 0]] then (asOwn 3 0 (Dp.partAt q0.1 0 0)).bind fun l => K0 l else none) else none
/-! 45 : impl.isSmall -/
def c45 (k : Nat) (p p1 : Int) (p2 p3 : List PV) : R := evF P E T k 45 [.s (.c (.p (PV.agg [.int .i64 p, .int .i64 p1, .row 2 0 p2, .row 2 0 p3])))] []
def r45 (b : Bool) : R := some ([.c (.p (PV.bool b))], [])
def R45 (x0 : R) (K0 : Bool → R) : R := x0.bind fun q0 => bif lensB q0.2 [] && lensS q0.1 [.c (.p (.bool))] then (cBool (resAt q0.1 0)).bind fun b => K0 b else none
@[simp] theorem R45_r (b : Bool) (K0 : Bool → R) : R45 (r45 b) K0 = K0 b := by kernel_rfl
/-! 46 : impl.isSight -/
def c46 (k : Nat) (v : List PV) (states : Int) : R := evF P E T k 46 [.s (.c (.p (PV.agg [.row 0 0 v]))), .s (.c (.p (PV.int .i64 states)))] []
def r46 (b : Bool) : R := some ([.c (.p (PV.bool b))], [])
def R46 (x0 : R) (K0 : Bool → R) : R := x0.bind fun q0 => bif lensB q0.2 [] && lensS q0.1 [.c (.p (.bool))] then (cBool (resAt q0.1 0)).bind fun b => K0 b else none
@[simp] theorem R46_r (b : Bool) (K0 : Bool → R) : R46 (r46 b) K0 = K0 b := by kernel_rfl
def L46_1 (k n : Nat) (states classes : Int) (t9 : List PV) (t10 t11 : Int) (l : List PV) : R := evLoopAt P E T k 46 46 [] [1, 1, 0, 1, 0] [] n ⟨mkT 33 [(1, .s (.c (.p (PV.int .i64 states)))), (2, .s (.c (.bptr 0 0))), (5, .s (.c (.p (PV.int .i64 classes)))), (9, .s (.c (.p (PV.row 0 0 t9)))), (10, .s (.c (.p (PV.int .i64 t10)))), (11, .s (.c (.p (PV.int .i64 t11))))], [.box [.p (PV.row 0 0 l)]]⟩
/-! 47 : impl.Program).states -/
def c47 (k : Nat) (p p1 : Int) (p2 p3 : List PV) : R := evF P E T k 47 [.s (.c (.p (PV.agg [.int .i64 p, .int .i64 p1, .row 2 0 p2, .row 2 0 p3])))] []
def r47 (qr : Int) : R := some ([.c (.p (PV.int .i64 qr))], [])
def R47 (x0 : R) (K0 : Int → R) : R := x0.bind fun q0 => bif lensB q0.2 [] && lensS q0.1 [.c (.p (.int .i64))] then (cInt (resAt q0.1 0) .i64).bind fun qr => K0 qr else none
@[simp] theorem R47_r (qr : Int) (K0 : Int → R) : R47 (r47 qr) K0 = K0 qr := by kernel_rfl
/-! 48 : spec.l7Small -/
def c48 (k : Nat) (p p1 : Int) (p2 p3 : List PV) : R := evF P E T k 48 [.s (.c (.p (PV.agg [.int .i64 p, .int .i64 p1, .row 2 0 p2, .row 2 0 p3])))] []
def r48 (b : Bool) : R := some ([.c (.p (PV.bool b))], [])
def R48 (x0 : R) (K0 : Bool → R) : R := x0.bind fun q0 => bif lensB q0.2 [] && lensS q0.1 [.c (.p (.bool))] then (cBool (resAt q0.1 0)).bind fun b => K0 b else none
@[simp] theorem R48_r (b : Bool) (K0 : Bool → R) : R48 (r48 b) K0 = K0 b := by kernel_rfl
/-! 49 : spec.l7Many -/
def c49 (k : Nat) (p p1 : Int) (p2 p3 : List PV) : R := evF P E T k 49 [.s (.c (.p (PV.agg [.int .i64 p, .int .i64 p1, .row 2 0 p2, .row 2 0 p3])))] []
def r49 (qr : Int) : R := some ([.c (.p (PV.int .i64 qr))], [])
def R49 (x0 : R) (K0 : Int → R) : R := x0.bind fun q0 => bif lensB q0.2 [] && lensS q0.1 [.c (.p (.int .i64))] then (cInt (resAt q0.1 0) .i64).bind fun qr => K0 qr else none
@[simp] theorem R49_r (qr : Int) (K0 : Int → R) : R49 (r49 qr) K0 = K0 qr := by kernel_rfl
/-! 50 : spec.l1In -/
def c50 (k : Nat) (n1 lo hi : Int) : R := evF P E T k 50 [.s (.c (.p (PV.int .i64 n1))), .s (.c (.p (PV.int .i64 lo))), .s (.c (.p (PV.int .i64 hi)))] []
def r50 (b : Bool) : R := some ([.c (.p (PV.bool b))], [])
def R50 (x0 : R) (K0 : Bool → R) : R := x0.bind fun q0 => bif lensB q0.2 [] && lensS q0.1 [.c (.p (.bool))] then (cBool (resAt q0.1 0)).bind fun b => K0 b else none
@[simp] theorem R50_r (b : Bool) (K0 : Bool → R) : R50 (r50 b) K0 = K0 b := by kernel_rfl
/-! 51 : slices.Equal[[]int,int] -/
def c51 (k : Nat) (qs1 qs2 : List PV) : R := evF P E T k 51 [.s (.c (.p (PV.row 0 0 qs1))), .s (.c (.p (PV.row 0 0 qs2)))] []
def r51 (b : Bool) : R := some ([.c (.p (PV.bool b))], [])
def R51 (x0 : R) (K0 : Bool → R) : R := x0.bind fun q0 => bif lensB q0.2 [] && lensS q0.1 [.c (.p (.bool))] then (cBool (resAt q0.1 0)).bind fun b => K0 b else none
@[simp] theorem R51_r (b : Bool) (K0 : Bool → R) : R51 (r51 b) K0 = K0 b := by kernel_rfl
def R51p (x0 : R) (K0 : Bool → R) : R := x0.bind fun q0 => bif q0.1.all plainS && q0.2.all (fun cs => cs.all plainC) then (bif lensB q0.2 [] && lensS q0.1 [.c (.p (.bool))] then (cBool (resAt q0.1 0)).bind fun b => K0 b else none) else none
@[simp] theorem R51p_r (b : Bool) (K0 : Bool → R) : R51p (r51 b) K0 = K0 b := by kernel_rfl
def L51_1 (k n : Nat) (qs1 qs2 : List PV) (t12 t13 : Int) : R := evLoopAt P E T k 51 51 [] [1, 1, 0, 1, 0] [] n ⟨mkT 26 [(0, .s (.c (.p (PV.row 0 0 qs1)))), (1, .s (.c (.p (PV.row 0 0 qs2)))), (12, .s (.c (.p (PV.int .i64 t12)))), (13, .s (.c (.p (PV.int .i64 t13))))], []⟩
/-! 52 : impl.Sight).classes -/
def c52 (k : Nat) (v : List PV) : R := evF P E T k 52 [.s (.c (.p (PV.agg [.row 0 0 v])))] []
def r52 (qr : Int) : R := some ([.c (.p (PV.int .i64 qr))], [])
def R52 (x0 : R) (K0 : Int → R) : R := x0.bind fun q0 => bif lensB q0.2 [] && lensS q0.1 [.c (.p (.int .i64))] then (cInt (resAt q0.1 0) .i64).bind fun qr => K0 qr else none
@[simp] theorem R52_r (qr : Int) (K0 : Int → R) : R52 (r52 qr) K0 = K0 qr := by kernel_rfl
/-! 54 : impl.Program).stateOf -/
def c54 (k : Nat) (p p1 : Int) (p2 p3 : List PV) (no : Int) : R := evF P E T k 54 [.s (.c (.p (PV.agg [.int .i64 p, .int .i64 p1, .row 2 0 p2, .row 2 0 p3]))), .s (.c (.p (PV.int .i64 no)))] []
def r54 (l : List PV) : R := some ([.c (.p (PV.row 0 0 l))], [])
def R54 (x0 : R) (K0 : List PV → R) : R := x0.bind fun q0 => bif lensB q0.2 [] && lensS q0.1 [.c (.p (.row 0))] then (cRow (resAt q0.1 0) 0).bind fun l => K0 l else none
@[simp] theorem R54_r (l : List PV) (K0 : List PV → R) : R54 (r54 l) K0 = K0 l := by kernel_rfl
def L54_1 (k n : Nat) (no : Int) (outLen : Nat) (t9 t10 n1 n11 : Int) (l l1 xs : List PV) : R := evLoopAt P E T k 54 54 [] [1, 1, 0, 1, 0] [] n ⟨mkT 29 [(1, .s (.c (.p (PV.int .i64 no)))), (2, .s (.c (.bptr 0 0))), (5, .s (.c (.loc 1 0 0 0 outLen))), (9, .s (.c (.p (PV.int .i64 t9)))), (10, .s (.c (.p (PV.int .i64 t10))))], [.box [.p (PV.int .i64 n1), .p (PV.int .i64 n11), .p (PV.row 2 0 l), .p (PV.row 2 0 l1)], .arr 65 0 0 false xs]⟩
/-! 55 : impl.valueOf -/
def c55 (k : Nat) (wide : Int) (t state : List PV) : R := evF P E T k 55 [.s (.c (.p (PV.int .i64 wide))), .s (.c (.p (PV.row 2 0 t))), .s (.c (.p (PV.row 0 0 state)))] []
def r55 (qr : Int) : R := some ([.c (.p (PV.int .u64 qr))], [])
def R55 (x0 : R) (K0 : Int → R) : R := x0.bind fun q0 => bif lensB q0.2 [] && lensS q0.1 [.c (.p (.int .u64))] then (cInt (resAt q0.1 0) .u64).bind fun qr => K0 qr else none
@[simp] theorem R55_r (qr : Int) (K0 : Int → R) : R55 (r55 qr) K0 = K0 qr := by kernel_rfl
def L55_1 (k n : Nat) (wide : Int) (state : List PV) (stackLen : Nat) (t12 : List PV) (t13 t14 : Int) (xs : List PV) : R := evLoopAt P E T k 55 55 [] [1, 1, 0, 1, 0] [] n ⟨mkT 87 [(0, .s (.c (.p (PV.int .i64 wide)))), (2, .s (.c (.p (PV.row 0 0 state)))), (7, .s (.c (.loc 0 0 0 0 stackLen))), (12, .s (.c (.p (PV.row 2 0 t12)))), (13, .s (.c (.p (PV.int .i64 t13)))), (14, .s (.c (.p (PV.int .i64 t14))))], [.arr 65 0 0 false xs]⟩
/-! 57 : spec.l15Of -/
def c57 (k : Nat) (keys : List PV) : R := evF P E T k 57 [.s (.c (.p (PV.row 0 0 keys)))] []
def r57 (l : List PV) : R := some ([.agg [.own 3 0 l]], [])
def R57 (x0 : R) (K0 : List PV → R) : R := x0.bind fun q0 => bif lensB q0.2 [] && lensS q0.1 [.agg [.own 3 0]] then (asOwn 3 0 (Dp.partAt q0.1 0 0)).bind fun l => K0 l else none
@[simp] theorem R57_r (l : List PV) (K0 : List PV → R) : R57 (r57 l) K0 = K0 l := by kernel_rfl
def R57p (x0 : R) (K0 : List PV → R) : R := x0.bind fun q0 => bif q0.1.all plainS && q0.2.all (fun cs => cs.all plainC) then (bif lensB q0.2 [] && lensS q0.1 [.agg [.own 3 0]] then (asOwn 3 0 (Dp.partAt q0.1 0 0)).bind fun l => K0 l else none) else none
def L57_1 (k n : Nat) (keys : List PV) (many : Int) (t9 : List PV) (t10 t11 : Int) (Len Len1 : Nat) (xs xs1 : List PV) : R := evLoopAt P E T k 57 57 [] [1, 1, 1, 0, 1, 0] [] n ⟨mkT 46 [(0, .s (.c (.p (PV.row 0 0 keys)))), (2, .s (.c (.bptr 0 0))), (3, .s (.c (.bptr 1 0))), (4, .s (.c (.p (PV.int .i64 many)))), (9, .s (.c (.p (PV.row 0 0 t9)))), (10, .s (.c (.p (PV.int .i64 t10)))), (11, .s (.c (.p (PV.int .i64 t11))))], [.box [.loc 2 0 0 0 Len], .box [.loc 3 0 0 0 Len1], .arr 3 0 0 false xs, .arr 3 0 0 false xs1]⟩
def L57_2 (k n1 n : Nat) (keys : List PV) (many i key class1 j : Int) (t9 : List PV) (t10 t11 : Int) (Len Len1 : Nat) (xs xs1 : List PV) : R := evLoopAt P E T k 57 57 [] [1, 1, 1, 0, 1, 0, 0, 1, 1, 0, 0, 1, 1, 0, 1, 0] [n1] n ⟨mkT 46 [(0, .s (.c (.p (PV.row 0 0 keys)))), (2, .s (.c (.bptr 0 0))), (3, .s (.c (.bptr 1 0))), (4, .s (.c (.p (PV.int .i64 many)))), (5, .s (.c (.p (PV.int .i64 i)))), (6, .s (.c (.p (PV.int .i64 key)))), (7, .s (.c (.p (PV.int .i64 class1)))), (8, .s (.c (.p (PV.int .i64 j)))), (9, .s (.c (.p (PV.row 0 0 t9)))), (10, .s (.c (.p (PV.int .i64 t10)))), (11, .s (.c (.p (PV.int .i64 t11))))], [.box [.loc 2 0 0 0 Len], .box [.loc 3 0 0 0 Len1], .arr 3 0 0 false xs, .arr 3 0 0 false xs1]⟩
/-! 59 : spec.l1Cur).preds -/
def c59 (k : Nat) (p p1 : Int) (p2 p3 : List PV) (most : Int) (l : List PV) (n1 n11 : Int) : R := evF P E T k 59 [.s (.c (.bptr 0 0)), .s (.c (.p (PV.agg [.int .i64 p, .int .i64 p1, .row 2 0 p2, .row 2 0 p3]))), .s (.c (.p (PV.int .i64 most)))] [[.p (PV.row 0 0 l), .p (PV.int .i64 n1), .p (PV.int .u64 n11)]]
def r59 (l : List PV) (qr qr1 : Int) (l1 : List PV) : R := some ([.c (.p (PV.row 0 0 l1))], [[.p (PV.row 0 0 l), .p (PV.int .i64 qr), .p (PV.int .u64 qr1)]])
def R59 (x0 : R) (K0 : List PV → Int → Int → List PV → R) : R := x0.bind fun q0 => bif lensB q0.2 [[.p (.row 0), .p (.int .i64), .p (.int .u64)]] && lensS q0.1 [.c (.p (.row 0))] then (cRow (cellAt q0.2 0 0) 0).bind fun l => (cInt (cellAt q0.2 0 1) .i64).bind fun qr => (cInt (cellAt q0.2 0 2) .u64).bind fun qr1 => (cRow (resAt q0.1 0) 0).bind fun l1 => K0 l qr qr1 l1 else none
@[simp] theorem R59_r (l : List PV) (qr qr1 : Int) (l1 : List PV) (K0 : List PV → Int → Int → List PV → R) : R59 (r59 l qr qr1 l1) K0 = K0 l qr qr1 l1 := by kernel_rfl
def L59_1 (k n : Nat) (lLen : Nat) (n1 : Int) (l : List PV) (n11 n12 n13 n14 : Int) (l1 l2 xs : List PV) : R := evLoopAt P E T k 59 59 [3] [1, 1, 0, 1, 0] [] n ⟨mkT 31 [(0, .s (.c (.bptr 0 0))), (4, .s (.c (.bptr 1 0))), (7, .s (.c (.loc 2 0 0 0 lLen))), (8, .s (.c (.p (PV.int .i64 n1))))], [.box [.p (PV.row 0 0 l), .p (PV.int .i64 n11), .p (PV.int .u64 n12)], .box [.p (PV.int .i64 n13), .p (PV.int .i64 n14), .p (PV.row 2 0 l1), .p (PV.row 2 0 l2)], .arr 24 0 0 false xs]⟩
/-! 62 : impl.Program).holds -/
def c62 (k : Nat) (p p1 : Int) (p2 p3 t qs : List PV) : R := evF P E T k 62 [.s (.c (.p (PV.agg [.int .i64 p, .int .i64 p1, .row 2 0 p2, .row 2 0 p3]))), .s (.c (.p (PV.row 2 0 t))), .s (.c (.p (PV.row 0 0 qs)))] []
def r62 (b : Bool) : R := some ([.c (.p (PV.bool b))], [])
def R62 (x0 : R) (K0 : Bool → R) : R := x0.bind fun q0 => bif lensB q0.2 [] && lensS q0.1 [.c (.p (.bool))] then (cBool (resAt q0.1 0)).bind fun b => K0 b else none
@[simp] theorem R62_r (b : Bool) (K0 : Bool → R) : R62 (r62 b) K0 = K0 b := by kernel_rfl
/-! 65 : spec.l15Preds -/
def c65 (k : Nat) (p p1 : Int) (p2 p3 preds : List PV) : R := evF P E T k 65 [.s (.c (.p (PV.agg [.int .i64 p, .int .i64 p1, .row 2 0 p2, .row 2 0 p3]))), .s (.c (.p (PV.row 0 0 preds)))] []
def r65 (b : Bool) : R := some ([.c (.p (PV.bool b))], [])
def R65 (x0 : R) (K0 : Bool → R) : R := x0.bind fun q0 => bif lensB q0.2 [] && lensS q0.1 [.c (.p (.bool))] then (cBool (resAt q0.1 0)).bind fun b => K0 b else none
@[simp] theorem R65_r (b : Bool) (K0 : Bool → R) : R65 (r65 b) K0 = K0 b := by kernel_rfl
def L65_1 (k n : Nat) (t10 : List PV) (t11 t12 n1 n11 : Int) (l l1 : List PV) : R := evLoopAt P E T k 65 65 [] [1, 1, 0, 1, 0] [] n ⟨mkT 21 [(2, .s (.c (.bptr 0 0))), (10, .s (.c (.p (PV.row 0 0 t10)))), (11, .s (.c (.p (PV.int .i64 t11)))), (12, .s (.c (.p (PV.int .i64 t12))))], [.box [.p (PV.int .i64 n1), .p (PV.int .i64 n11), .p (PV.row 2 0 l), .p (PV.row 2 0 l1)]]⟩
/-! 66 : spec.l7Holds -/
def c66 (k : Nat) (p p1 : Int) (p2 p3 t qs : List PV) : R := evF P E T k 66 [.s (.c (.p (PV.agg [.int .i64 p, .int .i64 p1, .row 2 0 p2, .row 2 0 p3]))), .s (.c (.p (PV.row 2 0 t))), .s (.c (.p (PV.row 0 0 qs)))] []
def r66 (b : Bool) : R := some ([.c (.p (PV.bool b))], [])
def R66 (x0 : R) (K0 : Bool → R) : R := x0.bind fun q0 => bif lensB q0.2 [] && lensS q0.1 [.c (.p (.bool))] then (cBool (resAt q0.1 0)).bind fun b => K0 b else none
@[simp] theorem R66_r (b : Bool) (K0 : Bool → R) : R66 (r66 b) K0 = K0 b := by kernel_rfl
/-! 67 : spec.l7Of -/
def c67 (k : Nat) (p p1 : Int) (p2 p3 : List PV) (no : Int) : R := evF P E T k 67 [.s (.c (.p (PV.agg [.int .i64 p, .int .i64 p1, .row 2 0 p2, .row 2 0 p3]))), .s (.c (.p (PV.int .i64 no)))] []
def r67 (l : List PV) : R := some ([.c (.p (PV.row 0 0 l))], [])
def R67 (x0 : R) (K0 : List PV → R) : R := x0.bind fun q0 => bif lensB q0.2 [] && lensS q0.1 [.c (.p (.row 0))] then (cRow (resAt q0.1 0) 0).bind fun l => K0 l else none
@[simp] theorem R67_r (l : List PV) (K0 : List PV → R) : R67 (r67 l) K0 = K0 l := by kernel_rfl
def L67_1 (k n : Nat) (no : Int) (outLen : Nat) (v n1 n11 : Int) (l l1 xs : List PV) : R := evLoopAt P E T k 67 67 [] [1, 1, 0, 1, 0] [] n ⟨mkT 31 [(1, .s (.c (.p (PV.int .i64 no)))), (2, .s (.c (.bptr 0 0))), (5, .s (.c (.loc 1 0 0 0 outLen))), (6, .s (.c (.p (PV.int .i64 v))))], [.box [.p (PV.int .i64 n1), .p (PV.int .i64 n11), .p (PV.row 2 0 l), .p (PV.row 2 0 l1)], .arr 65 0 0 false xs]⟩
/-! 69 : spec.l15By -/
def c69 (k : Nat) (p p1 : Int) (p2 p3 preds : List PV) : R := evF P E T k 69 [.s (.c (.p (PV.agg [.int .i64 p, .int .i64 p1, .row 2 0 p2, .row 2 0 p3]))), .s (.c (.p (PV.row 0 0 preds)))] []
def r69 (l : List PV) : R := some ([.agg [.own 3 0 l]], [])
def R69 (x0 : R) (K0 : List PV → R) : R := x0.bind fun q0 => bif lensB q0.2 [] && lensS q0.1 [.agg [.own 3 0]] then (asOwn 3 0 (Dp.partAt q0.1 0 0)).bind fun l => K0 l else none
@[simp] theorem R69_r (l : List PV) (K0 : List PV → R) : R69 (r69 l) K0 = K0 l := by kernel_rfl
def L69_1 (k n : Nat) (t12 : List PV) (t13 t14 n1 n11 : Int) (l l1 l2 : List PV) (Len : Nat) (xs : List PV) : R := evLoopAt P E T k 69 69 [] [1, 1, 0, 1, 0] [] n ⟨mkT 24 [(2, .s (.c (.bptr 0 0))), (4, .s (.c (.bptr 1 0))), (5, .s (.c (.bptr 2 0))), (12, .s (.c (.p (PV.row 0 0 t12)))), (13, .s (.c (.p (PV.int .i64 t13)))), (14, .s (.c (.p (PV.int .i64 t14))))], [.box [.p (PV.int .i64 n1), .p (PV.int .i64 n11), .p (PV.row 2 0 l), .p (PV.row 2 0 l1)], .box [.p (PV.row 0 0 l2)], .box [.loc 3 0 0 0 Len], .arr 3 0 0 false xs]⟩
/-! 71 : impl.Sight).statesIn -/
def c71 (k : Nat) (v : List PV) (class1 : Int) : R := evF P E T k 71 [.s (.c (.p (PV.agg [.row 0 0 v]))), .s (.c (.p (PV.int .i64 class1)))] []
def r71 (l : List PV) : R := some ([.c (.p (PV.row 0 0 l))], [])
def R71 (x0 : R) (K0 : List PV → R) : R := x0.bind fun q0 => bif lensB q0.2 [] && lensS q0.1 [.c (.p (.row 0))] then (cRow (resAt q0.1 0) 0).bind fun l => K0 l else none
@[simp] theorem R71_r (l : List PV) (K0 : List PV → R) : R71 (r71 l) K0 = K0 l := by kernel_rfl
def L71_1 (k n : Nat) (class1 : Int) (outLen : Nat) (t10 : List PV) (t11 t12 : Int) (xs : List PV) : R := evLoopAt P E T k 71 71 [] [1, 1, 0, 1, 0] [] n ⟨mkT 26 [(1, .s (.c (.p (PV.int .i64 class1)))), (5, .s (.c (.loc 0 0 0 0 outLen))), (10, .s (.c (.p (PV.row 0 0 t10)))), (11, .s (.c (.p (PV.int .i64 t11)))), (12, .s (.c (.p (PV.int .i64 t12))))], [.arr 3 0 0 false xs]⟩
/-! 72 : impl.Program).isCondition -/
def c72 (k : Nat) (p p1 : Int) (p2 p3 t : List PV) : R := evF P E T k 72 [.s (.c (.p (PV.agg [.int .i64 p, .int .i64 p1, .row 2 0 p2, .row 2 0 p3]))), .s (.c (.p (PV.row 2 0 t)))] []
def r72 (b : Bool) : R := some ([.c (.p (PV.bool b))], [])
def R72 (x0 : R) (K0 : Bool → R) : R := x0.bind fun q0 => bif lensB q0.2 [] && lensS q0.1 [.c (.p (.bool))] then (cBool (resAt q0.1 0)).bind fun b => K0 b else none
@[simp] theorem R72_r (b : Bool) (K0 : Bool → R) : R72 (r72 b) K0 = K0 b := by kernel_rfl
/-! 73 : spec.l1Cur).someOf -/
def c73 (k : Nat) (n1 most : Int) (l : List PV) (n11 n12 : Int) : R := evF P E T k 73 [.s (.c (.bptr 0 0)), .s (.c (.p (PV.int .i64 n1))), .s (.c (.p (PV.int .i64 most)))] [[.p (PV.row 0 0 l), .p (PV.int .i64 n11), .p (PV.int .u64 n12)]]
def r73 (l : List PV) (qr qr1 : Int) (l1 : List PV) : R := some ([.c (.p (PV.row 0 0 l1))], [[.p (PV.row 0 0 l), .p (PV.int .i64 qr), .p (PV.int .u64 qr1)]])
def R73 (x0 : R) (K0 : List PV → Int → Int → List PV → R) : R := x0.bind fun q0 => bif lensB q0.2 [[.p (.row 0), .p (.int .i64), .p (.int .u64)]] && lensS q0.1 [.c (.p (.row 0))] then (cRow (cellAt q0.2 0 0) 0).bind fun l => (cInt (cellAt q0.2 0 1) .i64).bind fun qr => (cInt (cellAt q0.2 0 2) .u64).bind fun qr1 => (cRow (resAt q0.1 0) 0).bind fun l1 => K0 l qr qr1 l1 else none
@[simp] theorem R73_r (l : List PV) (qr qr1 : Int) (l1 : List PV) (K0 : List PV → Int → Int → List PV → R) : R73 (r73 l qr qr1 l1) K0 = K0 l qr qr1 l1 := by kernel_rfl
def L73_1 (k n : Nat) (n1 : Int) (lLen : Nat) (k1 : Int) (l : List PV) (n11 n12 : Int) (xs : List PV) : R := evLoopAt P E T k 73 73 [3] [1, 1, 0, 1, 0] [] n ⟨mkT 29 [(0, .s (.c (.bptr 0 0))), (1, .s (.c (.p (PV.int .i64 n1)))), (7, .s (.c (.loc 1 0 0 0 lLen))), (8, .s (.c (.p (PV.int .i64 k1))))], [.box [.p (PV.row 0 0 l), .p (PV.int .i64 n11), .p (PV.int .u64 n12)], .arr 3 0 0 false xs]⟩
/-! 76 : spec.l1Rising -/
def c76 (k : Nat) (l : List PV) (lo hi : Int) : R := evF P E T k 76 [.s (.c (.p (PV.row 0 0 l))), .s (.c (.p (PV.int .i64 lo))), .s (.c (.p (PV.int .i64 hi)))] []
def r76 (b : Bool) : R := some ([.c (.p (PV.bool b))], [])
def R76 (x0 : R) (K0 : Bool → R) : R := x0.bind fun q0 => bif lensB q0.2 [] && lensS q0.1 [.c (.p (.bool))] then (cBool (resAt q0.1 0)).bind fun b => K0 b else none
@[simp] theorem R76_r (b : Bool) (K0 : Bool → R) : R76 (r76 b) K0 = K0 b := by kernel_rfl
def L76_1 (k n : Nat) (l : List PV) (lo hi : Int) (t9 : List PV) (t10 t11 : Int) : R := evLoopAt P E T k 76 76 [] [1, 0, 1, 0] [] n ⟨mkT 35 [(0, .s (.c (.p (PV.row 0 0 l)))), (1, .s (.c (.p (PV.int .i64 lo)))), (2, .s (.c (.p (PV.int .i64 hi)))), (9, .s (.c (.p (PV.row 0 0 t9)))), (10, .s (.c (.p (PV.int .i64 t10)))), (11, .s (.c (.p (PV.int .i64 t11))))], []⟩
/-! 77 : spec.l15Cut -/
def c77 (k : Nat) (v some1 : List PV) : R := evF P E T k 77 [.s (.c (.p (PV.agg [.row 0 0 v]))), .s (.c (.p (PV.row 0 0 some1)))] []
def r77 (l : List PV) : R := some ([.agg [.own 3 0 l]], [])
def R77 (x0 : R) (K0 : List PV → R) : R := x0.bind fun q0 => bif lensB q0.2 [] && lensS q0.1 [.agg [.own 3 0]] then (asOwn 3 0 (Dp.partAt q0.1 0 0)).bind fun l => K0 l else none
@[simp] theorem R77_r (l : List PV) (K0 : List PV → R) : R77 (r77 l) K0 = K0 l := by kernel_rfl
def L77_1 (k n : Nat) (some1 : List PV) (keysLen : Nat) (t9 : List PV) (t10 t11 : Int) (l xs : List PV) : R := evLoopAt P E T k 77 77 [] [1, 1, 0, 1, 0] [] n ⟨mkT 33 [(1, .s (.c (.p (PV.row 0 0 some1)))), (4, .s (.c (.bptr 0 0))), (5, .s (.c (.loc 1 0 0 0 keysLen))), (9, .s (.c (.p (PV.row 0 0 t9)))), (10, .s (.c (.p (PV.int .i64 t10)))), (11, .s (.c (.p (PV.int .i64 t11))))], [.box [.p (PV.row 0 0 l)], .arr 3 0 0 false xs]⟩
/-! 78 : spec.l1Cur).one -/
def c78 (k : Nat) (n1 : Int) (l : List PV) (n11 n12 : Int) : R := evF P E T k 78 [.s (.c (.bptr 0 0)), .s (.c (.p (PV.int .i64 n1)))] [[.p (PV.row 0 0 l), .p (PV.int .i64 n11), .p (PV.int .u64 n12)]]
def r78 (l : List PV) (qr qr1 : Int) (b : Bool) : R := some ([.c (.p (PV.bool b))], [[.p (PV.row 0 0 l), .p (PV.int .i64 qr), .p (PV.int .u64 qr1)]])
def R78 (x0 : R) (K0 : List PV → Int → Int → Bool → R) : R := x0.bind fun q0 => bif lensB q0.2 [[.p (.row 0), .p (.int .i64), .p (.int .u64)]] && lensS q0.1 [.c (.p (.bool))] then (cRow (cellAt q0.2 0 0) 0).bind fun l => (cInt (cellAt q0.2 0 1) .i64).bind fun qr => (cInt (cellAt q0.2 0 2) .u64).bind fun qr1 => (cBool (resAt q0.1 0)).bind fun b => K0 l qr qr1 b else none
@[simp] theorem R78_r (l : List PV) (qr qr1 : Int) (b : Bool) (K0 : List PV → Int → Int → Bool → R) : R78 (r78 l qr qr1 b) K0 = K0 l qr qr1 b := by kernel_rfl
/-! 79 : spec.l12All -/
def c79 (k : Nat) (n1 : Int) : R := evF P E T k 79 [.s (.c (.p (PV.int .i64 n1)))] []
def r79 (l : List PV) : R := some ([.c (.p (PV.row 0 0 l))], [])
def R79 (x0 : R) (K0 : List PV → R) : R := x0.bind fun q0 => bif lensB q0.2 [] && lensS q0.1 [.c (.p (.row 0))] then (cRow (resAt q0.1 0) 0).bind fun l => K0 l else none
@[simp] theorem R79_r (l : List PV) (K0 : List PV → R) : R79 (r79 l) K0 = K0 l := by kernel_rfl
def L79_1 (k n : Nat) (n1 : Int) (outLen : Nat) (k1 : Int) (xs : List PV) : R := evLoopAt P E T k 79 79 [] [1, 1, 0, 1, 0] [] n ⟨mkT 15 [(0, .s (.c (.p (PV.int .i64 n1)))), (3, .s (.c (.loc 0 0 0 0 outLen))), (4, .s (.c (.p (PV.int .i64 k1))))], [.arr 3 0 0 false xs]⟩
/-! 80 : impl.sureSteps -/
def c80 (k : Nat) (p p1 : Int) (p2 p3 v : List PV) (class1 : Int) : R := evF P E T k 80 [.s (.c (.p (PV.agg [.int .i64 p, .int .i64 p1, .row 2 0 p2, .row 2 0 p3]))), .s (.c (.p (PV.agg [.row 0 0 v]))), .s (.c (.p (PV.int .i64 class1)))] []
def r80 (l : List PV) : R := some ([.c (.p (PV.row 0 0 l))], [])
def R80 (x0 : R) (K0 : List PV → R) : R := x0.bind fun q0 => bif lensB q0.2 [] && lensS q0.1 [.c (.p (.row 0))] then (cRow (resAt q0.1 0) 0).bind fun l => K0 l else none
@[simp] theorem R80_r (l : List PV) (K0 : List PV → R) : R80 (r80 l) K0 = K0 l := by kernel_rfl
def L80_1 (k n : Nat) (outLen : Nat) (t17 : List PV) (t18 t19 n1 n11 : Int) (l l1 l2 xs : List PV) : R := evLoopAt P E T k 80 80 [] [1, 1, 0, 1, 0] [] n ⟨mkT 33 [(3, .s (.c (.bptr 0 0))), (4, .s (.c (.bptr 1 0))), (7, .s (.c (.loc 2 0 0 0 outLen))), (17, .s (.c (.p (PV.row 0 0 t17)))), (18, .s (.c (.p (PV.int .i64 t18)))), (19, .s (.c (.p (PV.int .i64 t19))))], [.box [.p (PV.int .i64 n1), .p (PV.int .i64 n11), .p (PV.row 2 0 l), .p (PV.row 2 0 l1)], .box [.p (PV.row 0 0 l2)], .arr 3 0 0 false xs]⟩
/-! 81 : impl.classSteps -/
def c81 (k : Nat) (p p1 : Int) (p2 p3 v : List PV) (class1 : Int) : R := evF P E T k 81 [.s (.c (.p (PV.agg [.int .i64 p, .int .i64 p1, .row 2 0 p2, .row 2 0 p3]))), .s (.c (.p (PV.agg [.row 0 0 v]))), .s (.c (.p (PV.int .i64 class1)))] []
def r81 (l : List PV) : R := some ([.c (.own 3 0 l)], [])
def R81 (x0 : R) (K0 : List PV → R) : R := x0.bind fun q0 => bif lensB q0.2 [] && lensS q0.1 [.c (.own 3 0)] then (asOwn 3 0 (resAt q0.1 0)).bind fun l => K0 l else none
@[simp] theorem R81_r (l : List PV) (K0 : List PV → R) : R81 (r81 l) K0 = K0 l := by kernel_rfl
def L81_1 (k n : Nat) (nextLen : Nat) (t13 : List PV) (t14 t15 n1 n11 : Int) (l l1 l2 xs : List PV) : R := evLoopAt P E T k 81 81 [] [1, 1, 0, 1, 0] [] n ⟨mkT 28 [(3, .s (.c (.bptr 0 0))), (4, .s (.c (.bptr 1 0))), (7, .s (.c (.loc 2 0 0 0 nextLen))), (13, .s (.c (.p (PV.row 0 0 t13)))), (14, .s (.c (.p (PV.int .i64 t14)))), (15, .s (.c (.p (PV.int .i64 t15))))], [.box [.p (PV.int .i64 n1), .p (PV.int .i64 n11), .p (PV.row 2 0 l), .p (PV.row 2 0 l1)], .box [.p (PV.row 0 0 l2)], .arr 3 0 0 false xs]⟩
/-! 82 : spec.l15Many -/
def c82 (k : Nat) (v : List PV) : R := evF P E T k 82 [.s (.c (.p (PV.agg [.row 0 0 v])))] []
def r82 (qr : Int) : R := some ([.c (.p (PV.int .i64 qr))], [])
def R82 (x0 : R) (K0 : Int → R) : R := x0.bind fun q0 => bif lensB q0.2 [] && lensS q0.1 [.c (.p (.int .i64))] then (cInt (resAt q0.1 0) .i64).bind fun qr => K0 qr else none
@[simp] theorem R82_r (qr : Int) (K0 : Int → R) : R82 (r82 qr) K0 = K0 qr := by kernel_rfl
def L82_1 (k n : Nat) (many : Int) (t7 : List PV) (t8 t9 : Int) : R := evLoopAt P E T k 82 82 [] [1, 1, 0, 1, 0] [] n ⟨mkT 20 [(3, .s (.c (.p (PV.int .i64 many)))), (7, .s (.c (.p (PV.row 0 0 t7)))), (8, .s (.c (.p (PV.int .i64 t8)))), (9, .s (.c (.p (PV.int .i64 t9))))], []⟩
/-! 83 : spec.l1Same -/
def c83 (k : Nat) (a b : List PV) : R := evF P E T k 83 [.s (.c (.p (PV.row 0 0 a))), .s (.c (.p (PV.row 0 0 b)))] []
def r83 (b : Bool) : R := some ([.c (.p (PV.bool b))], [])
def R83 (x0 : R) (K0 : Bool → R) : R := x0.bind fun q0 => bif lensB q0.2 [] && lensS q0.1 [.c (.p (.bool))] then (cBool (resAt q0.1 0)).bind fun b => K0 b else none
@[simp] theorem R83_r (b : Bool) (K0 : Bool → R) : R83 (r83 b) K0 = K0 b := by kernel_rfl
def L83_1 (k n : Nat) (a b : List PV) (t12 t13 : Int) : R := evLoopAt P E T k 83 83 [] [1, 1, 0, 1, 0] [] n ⟨mkT 26 [(0, .s (.c (.p (PV.row 0 0 a)))), (1, .s (.c (.p (PV.row 0 0 b)))), (12, .s (.c (.p (PV.int .i64 t12)))), (13, .s (.c (.p (PV.int .i64 t13))))], []⟩
/-! 84 : spec.l17Sure -/
def c84 (k : Nat) (p p1 : Int) (p2 p3 v : List PV) (class1 : Int) : R := evF P E T k 84 [.s (.c (.p (PV.agg [.int .i64 p, .int .i64 p1, .row 2 0 p2, .row 2 0 p3]))), .s (.c (.p (PV.agg [.row 0 0 v]))), .s (.c (.p (PV.int .i64 class1)))] []
def r84 (l : List PV) : R := some ([.c (.p (PV.row 0 0 l))], [])
def R84 (x0 : R) (K0 : List PV → R) : R := x0.bind fun q0 => bif lensB q0.2 [] && lensS q0.1 [.c (.p (.row 0))] then (cRow (resAt q0.1 0) 0).bind fun l => K0 l else none
@[simp] theorem R84_r (l : List PV) (K0 : List PV → R) : R84 (r84 l) K0 = K0 l := by kernel_rfl
def L84_1 (k n : Nat) (class1 : Int) (outLen : Nat) (t16 : List PV) (t17 t18 n1 n11 : Int) (l l1 l2 xs : List PV) : R := evLoopAt P E T k 84 84 [] [1, 1, 0, 1, 0] [] n ⟨mkT 48 [(2, .s (.c (.p (PV.int .i64 class1)))), (3, .s (.c (.bptr 0 0))), (4, .s (.c (.bptr 1 0))), (7, .s (.c (.loc 2 0 0 0 outLen))), (16, .s (.c (.p (PV.row 0 0 t16)))), (17, .s (.c (.p (PV.int .i64 t17)))), (18, .s (.c (.p (PV.int .i64 t18))))], [.box [.p (PV.int .i64 n1), .p (PV.int .i64 n11), .p (PV.row 2 0 l), .p (PV.row 2 0 l1)], .box [.p (PV.row 0 0 l2)], .arr 3 0 0 false xs]⟩
def L84_2 (k n1 n : Nat) (class1 : Int) (outLen : Nat) (to : Int) (all : Bool) (t16 : List PV) (t17 t18 : Int) (t24 : List PV) (t25 t26 n11 n12 : Int) (l l1 l2 xs : List PV) : R := evLoopAt P E T k 84 84 [] [1, 1, 0, 1, 0, 0, 1, 1, 0, 0, 1, 1, 0, 1, 0] [n1] n ⟨mkT 48 [(2, .s (.c (.p (PV.int .i64 class1)))), (3, .s (.c (.bptr 0 0))), (4, .s (.c (.bptr 1 0))), (7, .s (.c (.loc 2 0 0 0 outLen))), (9, .s (.c (.p (PV.int .i64 to)))), (10, .s (.c (.p (PV.bool all)))), (16, .s (.c (.p (PV.row 0 0 t16)))), (17, .s (.c (.p (PV.int .i64 t17)))), (18, .s (.c (.p (PV.int .i64 t18)))), (24, .s (.c (.p (PV.row 0 0 t24)))), (25, .s (.c (.p (PV.int .i64 t25)))), (26, .s (.c (.p (PV.int .i64 t26))))], [.box [.p (PV.int .i64 n11), .p (PV.int .i64 n12), .p (PV.row 2 0 l), .p (PV.row 2 0 l1)], .box [.p (PV.row 0 0 l2)], .arr 3 0 0 false xs]⟩
/-! 85 : spec.l17Steps -/
def c85 (k : Nat) (p p1 : Int) (p2 p3 v : List PV) (class1 : Int) : R := evF P E T k 85 [.s (.c (.p (PV.agg [.int .i64 p, .int .i64 p1, .row 2 0 p2, .row 2 0 p3]))), .s (.c (.p (PV.agg [.row 0 0 v]))), .s (.c (.p (PV.int .i64 class1)))] []
def r85 (l : List PV) : R := some ([.c (.p (PV.row 0 0 l))], [])
def R85 (x0 : R) (K0 : List PV → R) : R := x0.bind fun q0 => bif lensB q0.2 [] && lensS q0.1 [.c (.p (.row 0))] then (cRow (resAt q0.1 0) 0).bind fun l => K0 l else none
@[simp] theorem R85_r (l : List PV) (K0 : List PV → R) : R85 (r85 l) K0 = K0 l := by kernel_rfl
/-! 86 : impl.classReach -/
def c86 (k : Nat) (p p1 : Int) (p2 p3 v : List PV) : R := evF P E T k 86 [.s (.c (.p (PV.agg [.int .i64 p, .int .i64 p1, .row 2 0 p2, .row 2 0 p3]))), .s (.c (.p (PV.agg [.row 0 0 v])))] []
def r86 (l : List PV) : R := some ([.c (.p (PV.row 0 0 l))], [])
def R86 (x0 : R) (K0 : List PV → R) : R := x0.bind fun q0 => bif lensB q0.2 [] && lensS q0.1 [.c (.p (.row 0))] then (cRow (resAt q0.1 0) 0).bind fun l => K0 l else none
@[simp] theorem R86_r (l : List PV) (K0 : List PV → R) : R86 (r86 l) K0 = K0 l := by kernel_rfl
/-! 87 : impl.Program).reach -/
def c87 (k : Nat) (p p1 : Int) (p2 p3 : List PV) : R := evF P E T k 87 [.s (.c (.p (PV.agg [.int .i64 p, .int .i64 p1, .row 2 0 p2, .row 2 0 p3])))] []
def r87 (l : List PV) : R := some ([.c (.p (PV.row 0 0 l))], [])
def R87 (x0 : R) (K0 : List PV → R) : R := x0.bind fun q0 => bif lensB q0.2 [] && lensS q0.1 [.c (.p (.row 0))] then (cRow (resAt q0.1 0) 0).bind fun l => K0 l else none
@[simp] theorem R87_r (l : List PV) (K0 : List PV → R) : R87 (r87 l) K0 = K0 l := by kernel_rfl
/-! 88 : spec.l1Cur).among -/
def c88 (k : Nat) (list l : List PV) (n1 n11 : Int) : R := evF P E T k 88 [.s (.c (.bptr 0 0)), .s (.c (.p (PV.row 0 0 list)))] [[.p (PV.row 0 0 l), .p (PV.int .i64 n1), .p (PV.int .u64 n11)]]
def r88 (l : List PV) (qr qr1 qr2 : Int) : R := some ([.c (.p (PV.int .i64 qr2))], [[.p (PV.row 0 0 l), .p (PV.int .i64 qr), .p (PV.int .u64 qr1)]])
def R88 (x0 : R) (K0 : List PV → Int → Int → Int → R) : R := x0.bind fun q0 => bif lensB q0.2 [[.p (.row 0), .p (.int .i64), .p (.int .u64)]] && lensS q0.1 [.c (.p (.int .i64))] then (cRow (cellAt q0.2 0 0) 0).bind fun l => (cInt (cellAt q0.2 0 1) .i64).bind fun qr => (cInt (cellAt q0.2 0 2) .u64).bind fun qr1 => (cInt (resAt q0.1 0) .i64).bind fun qr2 => K0 l qr qr1 qr2 else none
@[simp] theorem R88_r (l : List PV) (qr qr1 qr2 : Int) (K0 : List PV → Int → Int → Int → R) : R88 (r88 l qr qr1 qr2) K0 = K0 l qr qr1 qr2 := by kernel_rfl
/-! 89 : spec.l1Cur).pick -/
def c89 (k : Nat) (n1 : Int) (l : List PV) (n11 n12 : Int) : R := evF P E T k 89 [.s (.c (.bptr 0 0)), .s (.c (.p (PV.int .i64 n1)))] [[.p (PV.row 0 0 l), .p (PV.int .i64 n11), .p (PV.int .u64 n12)]]
def r89 (l : List PV) (qr qr1 qr2 : Int) : R := some ([.c (.p (PV.int .i64 qr2))], [[.p (PV.row 0 0 l), .p (PV.int .i64 qr), .p (PV.int .u64 qr1)]])
def R89 (x0 : R) (K0 : List PV → Int → Int → Int → R) : R := x0.bind fun q0 => bif lensB q0.2 [[.p (.row 0), .p (.int .i64), .p (.int .u64)]] && lensS q0.1 [.c (.p (.int .i64))] then (cRow (cellAt q0.2 0 0) 0).bind fun l => (cInt (cellAt q0.2 0 1) .i64).bind fun qr => (cInt (cellAt q0.2 0 2) .u64).bind fun qr1 => (cInt (resAt q0.1 0) .i64).bind fun qr2 => K0 l qr qr1 qr2 else none
@[simp] theorem R89_r (l : List PV) (qr qr1 qr2 : Int) (K0 : List PV → Int → Int → Int → R) : R89 (r89 l qr qr1 qr2) K0 = K0 l qr qr1 qr2 := by kernel_rfl
/-! 90 : spec.l1Cur).progOf -/
def c90 (k : Nat) (wide vars : Int) (l : List PV) (n1 n11 : Int) : R := evF P E T k 90 [.s (.c (.bptr 0 0)), .s (.c (.p (PV.int .i64 wide))), .s (.c (.p (PV.int .i64 vars)))] [[.p (PV.row 0 0 l), .p (PV.int .i64 n1), .p (PV.int .u64 n11)]]
def r90 (l : List PV) (qr qr1 qr2 qr3 : Int) (l1 l2 : List PV) : R := some ([.agg [.p (PV.int .i64 qr2), .p (PV.int .i64 qr3), .p (PV.row 2 0 l1), .own ⟨114, some ⟨1, 116, 2, 0, none⟩⟩ 2 l2]], [[.p (PV.row 0 0 l), .p (PV.int .i64 qr), .p (PV.int .u64 qr1)]])
def R90 (x0 : R) (K0 : List PV → Int → Int → Int → Int → List PV → List PV → R) : R := x0.bind fun q0 => bif lensB q0.2 [[.p (.row 0), .p (.int .i64), .p (.int .u64)]] && lensS q0.1 [.agg [.p (.int .i64), .p (.int .i64), .p (.row 2), .own ⟨114, some ⟨1, 116, 2, 0, none⟩⟩ 2]] then (cRow (cellAt q0.2 0 0) 0).bind fun l => (cInt (cellAt q0.2 0 1) .i64).bind fun qr => (cInt (cellAt q0.2 0 2) .u64).bind fun qr1 => (cInt (Dp.partAt q0.1 0 0) .i64).bind fun qr2 => (cInt (Dp.partAt q0.1 0 1) .i64).bind fun qr3 => (cRow (Dp.partAt q0.1 0 2) 2).bind fun l1 => (asOwn ⟨114, some ⟨1, 116, 2, 0, none⟩⟩ 2 (Dp.partAt q0.1 0 3)).bind fun l2 => K0 l qr qr1 qr2 qr3 l1 l2 else none
@[simp] theorem R90_r (l : List PV) (qr qr1 qr2 qr3 : Int) (l1 l2 : List PV) (K0 : List PV → Int → Int → Int → Int → List PV → List PV → R) : R90 (r90 l qr qr1 qr2 qr3 l1 l2) K0 = K0 l qr qr1 qr2 qr3 l1 l2 := by kernel_rfl
def L90_1 (k n : Nat) (wide vars n1 : Int) (l : List PV) (n11 n12 n13 n14 : Int) (l1 l2 : List PV) (n15 n16 : Int) (Len Len1 : Nat) (xs xs1 : List PV) : R := evLoopAt P E T k 90 90 [3] [1, 1, 1, 1, 0, 1, 0] [] n ⟨mkT 44 [(0, .s (.c (.bptr 0 0))), (1, .s (.c (.p (PV.int .i64 wide)))), (2, .s (.c (.p (PV.int .i64 vars)))), (6, .s (.c (.bptr 1 0))), (7, .s (.c (.bptr 2 0))), (8, .s (.c (.p (PV.int .i64 n1))))], [.box [.p (PV.row 0 0 l), .p (PV.int .i64 n11), .p (PV.int .u64 n12)], .box [.p (PV.int .i64 n13), .p (PV.int .i64 n14), .p (PV.row 2 0 l1), .p (PV.row 2 0 l2)], .box [.p (PV.int .i64 n15), .p (PV.int .i64 n16), .loc 3 0 2 0 Len, .loc 4 0 2 0 Len1], .arr 93 2 0 false xs, .arr ⟨114, some ⟨1, 116, 2, 0, none⟩⟩ 2 0 false xs1]⟩
/-! 91 : spec.l1Cur).number -/
def c91 (k : Nat) (wide vars deep : Int) (l : List PV) (n1 n11 : Int) : R := evF P E T k 91 [.s (.c (.bptr 0 0)), .s (.c (.p (PV.int .i64 wide))), .s (.c (.p (PV.int .i64 vars))), .s (.c (.p (PV.int .i64 deep)))] [[.p (PV.row 0 0 l), .p (PV.int .i64 n1), .p (PV.int .u64 n11)]]
def r91 (l : List PV) (qr qr1 : Int) (l1 : List PV) : R := some ([.c (.own 93 2 l1)], [[.p (PV.row 0 0 l), .p (PV.int .i64 qr), .p (PV.int .u64 qr1)]])
def R91 (x0 : R) (K0 : List PV → Int → Int → List PV → R) : R := x0.bind fun q0 => bif lensB q0.2 [[.p (.row 0), .p (.int .i64), .p (.int .u64)]] && lensS q0.1 [.c (.own 93 2)] then (cRow (cellAt q0.2 0 0) 0).bind fun l => (cInt (cellAt q0.2 0 1) .i64).bind fun qr => (cInt (cellAt q0.2 0 2) .u64).bind fun qr1 => (asOwn 93 2 (resAt q0.1 0)).bind fun l1 => K0 l qr qr1 l1 else none
@[simp] theorem R91_r (l : List PV) (qr qr1 : Int) (l1 : List PV) (K0 : List PV → Int → Int → List PV → R) : R91 (r91 l qr qr1 l1) K0 = K0 l qr qr1 l1 := by kernel_rfl
/-! 92 : spec.l2Kind -/
def c92 (k : Nat) (wide vars : Int) (t : List PV) : R := evF P E T k 92 [.s (.c (.p (PV.int .i64 wide))), .s (.c (.p (PV.int .i64 vars))), .s (.c (.p (PV.row 2 0 t)))] []
def r92 (qr : Int) : R := some ([.c (.p (PV.int .i64 qr))], [])
def R92 (x0 : R) (K0 : Int → R) : R := x0.bind fun q0 => bif lensB q0.2 [] && lensS q0.1 [.c (.p (.int .i64))] then (cInt (resAt q0.1 0) .i64).bind fun qr => K0 qr else none
@[simp] theorem R92_r (qr : Int) (K0 : Int → R) : R92 (r92 qr) K0 = K0 qr := by kernel_rfl
def L92_1 (k n : Nat) (wide vars : Int) (pileLen : Nat) (t27 : List PV) (t28 t29 : Int) (xs : List PV) : R := evLoopAt P E T k 92 92 [] [1, 1, 1, 0, 1, 0] [] n ⟨mkT 83 [(0, .s (.c (.p (PV.int .i64 wide)))), (1, .s (.c (.p (PV.int .i64 vars)))), (7, .s (.c (.loc 0 0 0 0 pileLen))), (27, .s (.c (.p (PV.row 2 0 t27)))), (28, .s (.c (.p (PV.int .i64 t28)))), (29, .s (.c (.p (PV.int .i64 t29))))], [.arr 3 0 0 false xs]⟩
def L92_2 (k n1 n : Nat) (wide vars : Int) (pileLen : Nat) (many part own : Int) (t27 : List PV) (t28 t29 : Int) (xs : List PV) : R := evLoopAt P E T k 92 92 [] [1, 1, 1, 0, 1, 0, 0, 1, 1, 0, 0, 1, 1, 1, 0, 0] [n1] n ⟨mkT 83 [(0, .s (.c (.p (PV.int .i64 wide)))), (1, .s (.c (.p (PV.int .i64 vars)))), (7, .s (.c (.loc 0 0 0 0 pileLen))), (10, .s (.c (.p (PV.int .i64 many)))), (11, .s (.c (.p (PV.int .i64 part)))), (12, .s (.c (.p (PV.int .i64 own)))), (27, .s (.c (.p (PV.row 2 0 t27)))), (28, .s (.c (.p (PV.int .i64 t28)))), (29, .s (.c (.p (PV.int .i64 t29))))], [.arr 3 0 0 false xs]⟩
/-! 93 : spec.l8Those -/
def c93 (k : Nat) (p p1 : Int) (p2 p3 t : List PV) : R := evF P E T k 93 [.s (.c (.p (PV.agg [.int .i64 p, .int .i64 p1, .row 2 0 p2, .row 2 0 p3]))), .s (.c (.p (PV.row 2 0 t)))] []
def r93 (l : List PV) : R := some ([.c (.p (PV.row 0 0 l))], [])
def R93 (x0 : R) (K0 : List PV → R) : R := x0.bind fun q0 => bif lensB q0.2 [] && lensS q0.1 [.c (.p (.row 0))] then (cRow (resAt q0.1 0) 0).bind fun l => K0 l else none
@[simp] theorem R93_r (l : List PV) (K0 : List PV → R) : R93 (r93 l) K0 = K0 l := by kernel_rfl
def L93_1 (k n : Nat) (t : List PV) (outLen : Nat) (no n1 n11 : Int) (l l1 xs : List PV) : R := evLoopAt P E T k 93 93 [] [1, 1, 0, 1, 0] [] n ⟨mkT 24 [(1, .s (.c (.p (PV.row 2 0 t)))), (2, .s (.c (.bptr 0 0))), (5, .s (.c (.loc 1 0 0 0 outLen))), (6, .s (.c (.p (PV.int .i64 no))))], [.box [.p (PV.int .i64 n1), .p (PV.int .i64 n11), .p (PV.row 2 0 l), .p (PV.row 2 0 l1)], .arr 3 0 0 false xs]⟩
/-! 94 : impl.GoodProgram -/
def c94 (k : Nat) (p p1 : Int) (p2 p3 : List PV) : R := evF P E T k 94 [.s (.c (.p (PV.agg [.int .i64 p, .int .i64 p1, .row 2 0 p2, .row 2 0 p3])))] []
def r94 (b : Bool) : R := some ([.c (.p (PV.bool b))], [])
def R94 (x0 : R) (K0 : Bool → R) : R := x0.bind fun q0 => bif lensB q0.2 [] && lensS q0.1 [.c (.p (.bool))] then (cBool (resAt q0.1 0)).bind fun b => K0 b else none
@[simp] theorem R94_r (b : Bool) (K0 : Bool → R) : R94 (r94 b) K0 = K0 b := by kernel_rfl
/-! 95 : spec.GoodProgram -/
def c95 (k : Nat) (p p1 : Int) (p2 p3 : List PV) : R := evF P E T k 95 [.s (.c (.p (PV.agg [.int .i64 p, .int .i64 p1, .row 2 0 p2, .row 2 0 p3])))] []
def r95 (b : Bool) : R := some ([.c (.p (PV.bool b))], [])
def R95 (x0 : R) (K0 : Bool → R) : R := x0.bind fun q0 => bif lensB q0.2 [] && lensS q0.1 [.c (.p (.bool))] then (cBool (resAt q0.1 0)).bind fun b => K0 b else none
@[simp] theorem R95_r (b : Bool) (K0 : Bool → R) : R95 (r95 b) K0 = K0 b := by kernel_rfl
def L95_1 (k n : Nat) (t18 : List PV) (t19 t20 n1 n11 : Int) (l l1 : List PV) : R := evLoopAt P E T k 95 95 [] [1, 1, 0, 1, 0] [] n ⟨mkT 29 [(1, .s (.c (.bptr 0 0))), (18, .s (.c (.p (PV.row 2 0 t18)))), (19, .s (.c (.p (PV.int .i64 t19)))), (20, .s (.c (.p (PV.int .i64 t20))))], [.box [.p (PV.int .i64 n1), .p (PV.int .i64 n11), .p (PV.row 2 0 l), .p (PV.row 2 0 l1)]]⟩
/-! 96 : slices.Max[[]int,int] -/
def c96 (k : Nat) (x : List PV) : R := evF P E T k 96 [.s (.c (.p (PV.row 0 0 x)))] []
def r96 (qr : Int) : R := some ([.c (.p (PV.int .i64 qr))], [])
def R96 (x0 : R) (K0 : Int → R) : R := x0.bind fun q0 => bif lensB q0.2 [] && lensS q0.1 [.c (.p (.int .i64))] then (cInt (resAt q0.1 0) .i64).bind fun qr => K0 qr else none
@[simp] theorem R96_r (qr : Int) (K0 : Int → R) : R96 (r96 qr) K0 = K0 qr := by kernel_rfl
def L96_1 (k n : Nat) (x : List PV) (m i : Int) : R := evLoopAt P E T k 96 96 [] [1, 1, 1, 0, 1, 0] [] n ⟨mkT 25 [(0, .s (.c (.p (PV.row 0 0 x)))), (3, .s (.c (.p (PV.int .i64 m)))), (4, .s (.c (.p (PV.int .i64 i))))], []⟩
/-! 99 : impl.mask -/
def c99 (k : Nat) (wide : Int) : R := evF P E T k 99 [.s (.c (.p (PV.int .i64 wide)))] []
def r99 (qr : Int) : R := some ([.c (.p (PV.int .u64 qr))], [])
def R99 (x0 : R) (K0 : Int → R) : R := x0.bind fun q0 => bif lensB q0.2 [] && lensS q0.1 [.c (.p (.int .u64))] then (cInt (resAt q0.1 0) .u64).bind fun qr => K0 qr else none
@[simp] theorem R99_r (qr : Int) (K0 : Int → R) : R99 (r99 qr) K0 = K0 qr := by kernel_rfl
/-! 100 : impl.apply -/
def c100 (k : Nat) (wide op a b : Int) : R := evF P E T k 100 [.s (.c (.p (PV.int .i64 wide))), .s (.c (.p (PV.int .i64 op))), .s (.c (.p (PV.int .u64 a))), .s (.c (.p (PV.int .u64 b)))] []
def r100 (qr : Int) : R := some ([.c (.p (PV.int .u64 qr))], [])
def R100 (x0 : R) (K0 : Int → R) : R := x0.bind fun q0 => bif lensB q0.2 [] && lensS q0.1 [.c (.p (.int .u64))] then (cInt (resAt q0.1 0) .u64).bind fun qr => K0 qr else none
@[simp] theorem R100_r (qr : Int) (K0 : Int → R) : R100 (r100 qr) K0 = K0 qr := by kernel_rfl
/-! 102 : impl.GoodTerm -/
def c102 (k : Nat) (wide vars : Int) (t : List PV) : R := evF P E T k 102 [.s (.c (.p (PV.int .i64 wide))), .s (.c (.p (PV.int .i64 vars))), .s (.c (.p (PV.row 2 0 t)))] []
def r102 (b : Bool) : R := some ([.c (.p (PV.bool b))], [])
def R102 (x0 : R) (K0 : Bool → R) : R := x0.bind fun q0 => bif lensB q0.2 [] && lensS q0.1 [.c (.p (.bool))] then (cBool (resAt q0.1 0)).bind fun b => K0 b else none
@[simp] theorem R102_r (b : Bool) (K0 : Bool → R) : R102 (r102 b) K0 = K0 b := by kernel_rfl
def L102_1 (k n : Nat) (wide vars : Int) (stackLen : Nat) (t33 : List PV) (t34 t35 : Int) (xs : List PV) : R := evLoopAt P E T k 102 102 [] [1, 1, 1, 0, 1, 0] [] n ⟨mkT 80 [(0, .s (.c (.p (PV.int .i64 wide)))), (1, .s (.c (.p (PV.int .i64 vars)))), (7, .s (.c (.loc 0 0 0 0 stackLen))), (33, .s (.c (.p (PV.row 2 0 t33)))), (34, .s (.c (.p (PV.int .i64 t34)))), (35, .s (.c (.p (PV.int .i64 t35))))], [.arr 3 0 0 false xs]⟩
/-! 103 : spec.l2Value -/
def c103 (k : Nat) (wide : Int) (t : List PV) (k1 : Int) (state : List PV) : R := evF P E T k 103 [.s (.c (.p (PV.int .i64 wide))), .s (.c (.p (PV.row 2 0 t))), .s (.c (.p (PV.int .i64 k1))), .s (.c (.p (PV.row 0 0 state)))] []
def r103 (qr : Int) : R := some ([.c (.p (PV.int .u64 qr))], [])
def R103 (x0 : R) (K0 : Int → R) : R := x0.bind fun q0 => bif lensB q0.2 [] && lensS q0.1 [.c (.p (.int .u64))] then (cInt (resAt q0.1 0) .u64).bind fun qr => K0 qr else none
@[simp] theorem R103_r (qr : Int) (K0 : Int → R) : R103 (r103 qr) K0 = K0 qr := by kernel_rfl
/-! 105 : impl.isTermOf -/
def c105 (k : Nat) (wide vars : Int) (t : List PV) (kind : Int) : R := evF P E T k 105 [.s (.c (.p (PV.int .i64 wide))), .s (.c (.p (PV.int .i64 vars))), .s (.c (.p (PV.row 2 0 t))), .s (.c (.p (PV.int .i64 kind)))] []
def r105 (b : Bool) : R := some ([.c (.p (PV.bool b))], [])
def R105 (x0 : R) (K0 : Bool → R) : R := x0.bind fun q0 => bif lensB q0.2 [] && lensS q0.1 [.c (.p (.bool))] then (cBool (resAt q0.1 0)).bind fun b => K0 b else none
@[simp] theorem R105_r (b : Bool) (K0 : Bool → R) : R105 (r105 b) K0 = K0 b := by kernel_rfl
/-! 106 : spec.l1Put -/
def c106 (k : Nat) (l : List PV) (n1 : Int) : R := evF P E T k 106 [.s (.c (.own 3 0 l)), .s (.c (.p (PV.int .i64 n1)))] []
def r106 (l : List PV) : R := some ([.c (.own 3 0 l)], [])
def R106 (x0 : R) (K0 : List PV → R) : R := x0.bind fun q0 => bif lensB q0.2 [] && lensS q0.1 [.c (.own 3 0)] then (asOwn 3 0 (resAt q0.1 0)).bind fun l => K0 l else none
@[simp] theorem R106_r (l : List PV) (K0 : List PV → R) : R106 (r106 l) K0 = K0 l := by kernel_rfl
def L106_1 (k n : Nat) (lLen : Nat) (n1 k1 : Int) (xs : List PV) : R := evLoopAt P E T k 106 106 [] [1, 1, 0, 0] [] n ⟨mkT 48 [(0, .s (.c (.loc 0 0 0 0 lLen))), (1, .s (.c (.p (PV.int .i64 n1)))), (5, .s (.c (.p (PV.int .i64 k1))))], [.arr 3 0 0 false xs]⟩
/-! 107 : spec.l1Has -/
def c107 (k : Nat) (l : List PV) (n1 : Int) : R := evF P E T k 107 [.s (.c (.p (PV.row 0 0 l))), .s (.c (.p (PV.int .i64 n1)))] []
def r107 (b : Bool) : R := some ([.c (.p (PV.bool b))], [])
def R107 (x0 : R) (K0 : Bool → R) : R := x0.bind fun q0 => bif lensB q0.2 [] && lensS q0.1 [.c (.p (.bool))] then (cBool (resAt q0.1 0)).bind fun b => K0 b else none
@[simp] theorem R107_r (b : Bool) (K0 : Bool → R) : R107 (r107 b) K0 = K0 b := by kernel_rfl
def L107_1 (k n : Nat) (n1 : Int) (t7 : List PV) (t8 t9 : Int) : R := evLoopAt P E T k 107 107 [] [1, 0, 1, 0] [] n ⟨mkT 17 [(1, .s (.c (.p (PV.int .i64 n1)))), (7, .s (.c (.p (PV.row 0 0 t7)))), (8, .s (.c (.p (PV.int .i64 t8)))), (9, .s (.c (.p (PV.int .i64 t9))))], []⟩
/-! 108 : impl.Sight).classesOf -/
def c108 (k : Nat) (v some1 : List PV) : R := evF P E T k 108 [.s (.c (.p (PV.agg [.row 0 0 v]))), .s (.c (.p (PV.row 0 0 some1)))] []
def r108 (l : List PV) : R := some ([.c (.own 3 0 l)], [])
def R108 (x0 : R) (K0 : List PV → R) : R := x0.bind fun q0 => bif lensB q0.2 [] && lensS q0.1 [.c (.own 3 0)] then (asOwn 3 0 (resAt q0.1 0)).bind fun l => K0 l else none
@[simp] theorem R108_r (l : List PV) (K0 : List PV → R) : R108 (r108 l) K0 = K0 l := by kernel_rfl
def R108p (x0 : R) (K0 : List PV → R) : R := x0.bind fun q0 => bif q0.1.all plainS && q0.2.all (fun cs => cs.all plainC) then (bif lensB q0.2 [] && lensS q0.1 [.c (.own 3 0)] then (asOwn 3 0 (resAt q0.1 0)).bind fun l => K0 l else none) else none
def L108_1 (k n : Nat) (inLen : Nat) (t11 : List PV) (t12 t13 : Int) (l xs : List PV) : R := evLoopAt P E T k 108 108 [] [1, 1, 0, 1, 0] [] n ⟨mkT 27 [(2, .s (.c (.bptr 0 0))), (5, .s (.c (.loc 1 0 0 0 inLen))), (11, .s (.c (.p (PV.row 0 0 t11)))), (12, .s (.c (.p (PV.int .i64 t12)))), (13, .s (.c (.p (PV.int .i64 t13))))], [.box [.p (PV.row 0 0 l)], .arr 4 0 0 false xs]⟩
/-! 109 : impl.Program).nextOf -/
def c109 (k : Nat) (p p1 : Int) (p2 p3 : List PV) (no : Int) : R := evF P E T k 109 [.s (.c (.p (PV.agg [.int .i64 p, .int .i64 p1, .row 2 0 p2, .row 2 0 p3]))), .s (.c (.p (PV.int .i64 no)))] []
def r109 (l : List PV) : R := some ([.c (.p (PV.row 0 0 l))], [])
def R109 (x0 : R) (K0 : List PV → R) : R := x0.bind fun q0 => bif lensB q0.2 [] && lensS q0.1 [.c (.p (.row 0))] then (cRow (resAt q0.1 0) 0).bind fun l => K0 l else none
@[simp] theorem R109_r (l : List PV) (K0 : List PV → R) : R109 (r109 l) K0 = K0 l := by kernel_rfl
def L109_1 (k n : Nat) (no : Int) (qs : List PV) (outLen : Nat) (t14 : List PV) (t15 t16 n1 n11 : Int) (l l1 xs : List PV) : R := evLoopAt P E T k 109 109 [] [1, 1, 0, 1, 0] [] n ⟨mkT 44 [(1, .s (.c (.p (PV.int .i64 no)))), (2, .s (.c (.bptr 0 0))), (5, .s (.c (.p (PV.row 0 0 qs)))), (6, .s (.c (.loc 1 0 0 0 outLen))), (14, .s (.c (.p (PV.row 2 0 t14)))), (15, .s (.c (.p (PV.int .i64 t15)))), (16, .s (.c (.p (PV.int .i64 t16))))], [.box [.p (PV.int .i64 n1), .p (PV.int .i64 n11), .p (PV.row 2 0 l), .p (PV.row 2 0 l1)], .arr 3 0 0 false xs]⟩
/-! 110f111 : slices.DeleteFunc[[]int,int] -/
def c110f111 (k : Nat) (qs l : List PV) : R := evF P E T k 110 [.s (.c (.own 3 0 qs)), .s (.c (.cfn 111 [PV.agg [.row 0 0 l]]))] []
def r110f111 (l : List PV) : R := some ([.c (.own 3 0 l)], [])
def R110f111 (x0 : R) (K0 : List PV → R) : R := x0.bind fun q0 => bif lensB q0.2 [] && lensS q0.1 [.c (.own 3 0)] then (asOwn 3 0 (resAt q0.1 0)).bind fun l => K0 l else none
@[simp] theorem R110f111_r (l : List PV) (K0 : List PV → R) : R110f111 (r110f111 l) K0 = K0 l := by kernel_rfl
def R110f111p (x0 : R) (K0 : List PV → R) : R := x0.bind fun q0 => bif q0.1.all plainS && q0.2.all (fun cs => cs.all plainC) then (bif lensB q0.2 [] && lensS q0.1 [.c (.own 3 0)] then (asOwn 3 0 (resAt q0.1 0)).bind fun l => K0 l else none) else none
def L110f111_1 (k n : Nat) (sLen : Nat) (l : List PV) (i j : Int) (xs : List PV) : R := evLoopAt P E T k 110 112110 [] [1, 1, 1, 0, 1, 0] [] n ⟨mkT 42 [(0, .s (.c (.loc 0 0 0 0 sLen))), (1, .s (.c (.cfn 111 [PV.agg [.row 0 0 l]]))), (5, .s (.c (.p (PV.int .i64 i)))), (6, .s (.c (.p (PV.int .i64 j))))], [.arr 3 0 0 false xs]⟩
/-! 111 : impl.sureSteps$1 -/
def c111 (k : Nat) (to : Int) (l : List PV) : R := evF P E T k 111 [.s (.c (.p (PV.int .i64 to))), .s (.c (.eptr (PV.agg [.row 0 0 l]) 1 0))] []
def r111 (b : Bool) : R := some ([.c (.p (PV.bool b))], [])
def R111 (x0 : R) (K0 : Bool → R) : R := x0.bind fun q0 => bif lensB q0.2 [] && lensS q0.1 [.c (.p (.bool))] then (cBool (resAt q0.1 0)).bind fun b => K0 b else none
@[simp] theorem R111_r (b : Bool) (K0 : Bool → R) : R111 (r111 b) K0 = K0 b := by kernel_rfl
/-! 112 : slices.Contains[[]int,int] -/
def c112 (k : Nat) (qs : List PV) (v : Int) : R := evF P E T k 112 [.s (.c (.p (PV.row 0 0 qs))), .s (.c (.p (PV.int .i64 v)))] []
def r112 (b : Bool) : R := some ([.c (.p (PV.bool b))], [])
def R112 (x0 : R) (K0 : Bool → R) : R := x0.bind fun q0 => bif lensB q0.2 [] && lensS q0.1 [.c (.p (.bool))] then (cBool (resAt q0.1 0)).bind fun b => K0 b else none
@[simp] theorem R112_r (b : Bool) (K0 : Bool → R) : R112 (r112 b) K0 = K0 b := by kernel_rfl
/-! 113 : spec.l15In -/
def c113 (k : Nat) (v : List PV) (class1 : Int) : R := evF P E T k 113 [.s (.c (.p (PV.agg [.row 0 0 v]))), .s (.c (.p (PV.int .i64 class1)))] []
def r113 (l : List PV) : R := some ([.c (.p (PV.row 0 0 l))], [])
def R113 (x0 : R) (K0 : List PV → R) : R := x0.bind fun q0 => bif lensB q0.2 [] && lensS q0.1 [.c (.p (.row 0))] then (cRow (resAt q0.1 0) 0).bind fun l => K0 l else none
@[simp] theorem R113_r (l : List PV) (K0 : List PV → R) : R113 (r113 l) K0 = K0 l := by kernel_rfl
def L113_1 (k n : Nat) (class1 : Int) (outLen : Nat) (t9 : List PV) (t10 t11 : Int) (xs : List PV) : R := evLoopAt P E T k 113 113 [] [1, 1, 0, 1, 0] [] n ⟨mkT 25 [(1, .s (.c (.p (PV.int .i64 class1)))), (5, .s (.c (.loc 0 0 0 0 outLen))), (9, .s (.c (.p (PV.row 0 0 t9)))), (10, .s (.c (.p (PV.int .i64 t10)))), (11, .s (.c (.p (PV.int .i64 t11))))], [.arr 3 0 0 false xs]⟩
/-! 114 : spec.l17Classes -/
def c114 (k : Nat) (v states : List PV) : R := evF P E T k 114 [.s (.c (.p (PV.agg [.row 0 0 v]))), .s (.c (.p (PV.row 0 0 states)))] []
def r114 (l : List PV) : R := some ([.c (.p (PV.row 0 0 l))], [])
def R114 (x0 : R) (K0 : List PV → R) : R := x0.bind fun q0 => bif lensB q0.2 [] && lensS q0.1 [.c (.p (.row 0))] then (cRow (resAt q0.1 0) 0).bind fun l => K0 l else none
@[simp] theorem R114_r (l : List PV) (K0 : List PV → R) : R114 (r114 l) K0 = K0 l := by kernel_rfl
def L114_1 (k n : Nat) (outLen : Nat) (t8 : List PV) (t9 t10 : Int) (l xs : List PV) : R := evLoopAt P E T k 114 114 [] [1, 1, 0, 1, 0] [] n ⟨mkT 23 [(2, .s (.c (.bptr 0 0))), (5, .s (.c (.loc 1 0 0 0 outLen))), (8, .s (.c (.p (PV.row 0 0 t8)))), (9, .s (.c (.p (PV.int .i64 t9)))), (10, .s (.c (.p (PV.int .i64 t10))))], [.box [.p (PV.row 0 0 l)], .arr 3 0 0 false xs]⟩
/-! 115 : spec.l8Next -/
def c115 (k : Nat) (p p1 : Int) (p2 p3 : List PV) (no : Int) : R := evF P E T k 115 [.s (.c (.p (PV.agg [.int .i64 p, .int .i64 p1, .row 2 0 p2, .row 2 0 p3]))), .s (.c (.p (PV.int .i64 no)))] []
def r115 (l : List PV) : R := some ([.c (.p (PV.row 0 0 l))], [])
def R115 (x0 : R) (K0 : List PV → R) : R := x0.bind fun q0 => bif lensB q0.2 [] && lensS q0.1 [.c (.p (.row 0))] then (cRow (resAt q0.1 0) 0).bind fun l => K0 l else none
@[simp] theorem R115_r (l : List PV) (K0 : List PV → R) : R115 (r115 l) K0 = K0 l := by kernel_rfl
def L115_1 (k n : Nat) (no : Int) (qs : List PV) (outLen : Nat) (t14 : List PV) (t15 t16 n1 n11 : Int) (l l1 xs : List PV) : R := evLoopAt P E T k 115 115 [] [1, 1, 1, 0, 1, 0] [] n ⟨mkT 35 [(1, .s (.c (.p (PV.int .i64 no)))), (2, .s (.c (.bptr 0 0))), (5, .s (.c (.p (PV.row 0 0 qs)))), (6, .s (.c (.loc 1 0 0 0 outLen))), (14, .s (.c (.p (PV.row 0 0 t14)))), (15, .s (.c (.p (PV.int .i64 t15)))), (16, .s (.c (.p (PV.int .i64 t16))))], [.box [.p (PV.int .i64 n1), .p (PV.int .i64 n11), .p (PV.row 2 0 l), .p (PV.row 2 0 l1)], .arr 3 0 0 false xs]⟩
/-! 116 : spec.l8After -/
def c116 (k : Nat) (p p1 : Int) (p2 p3 some1 : List PV) : R := evF P E T k 116 [.s (.c (.p (PV.agg [.int .i64 p, .int .i64 p1, .row 2 0 p2, .row 2 0 p3]))), .s (.c (.p (PV.row 0 0 some1)))] []
def r116 (l : List PV) : R := some ([.c (.p (PV.row 0 0 l))], [])
def R116 (x0 : R) (K0 : List PV → R) : R := x0.bind fun q0 => bif lensB q0.2 [] && lensS q0.1 [.c (.p (.row 0))] then (cRow (resAt q0.1 0) 0).bind fun l => K0 l else none
@[simp] theorem R116_r (l : List PV) (K0 : List PV → R) : R116 (r116 l) K0 = K0 l := by kernel_rfl
def L116_1 (k n : Nat) (outLen : Nat) (t10 : List PV) (t11 t12 n1 n11 : Int) (l l1 xs : List PV) : R := evLoopAt P E T k 116 116 [] [1, 1, 0, 1, 0] [] n ⟨mkT 30 [(2, .s (.c (.bptr 0 0))), (5, .s (.c (.loc 1 0 0 0 outLen))), (10, .s (.c (.p (PV.row 0 0 t10)))), (11, .s (.c (.p (PV.int .i64 t11)))), (12, .s (.c (.p (PV.int .i64 t12))))], [.box [.p (PV.int .i64 n1), .p (PV.int .i64 n11), .p (PV.row 2 0 l), .p (PV.row 2 0 l1)], .arr 3 0 0 false xs]⟩
def L116_2 (k n1 n : Nat) (outLen : Nat) (t10 : List PV) (t11 t12 : Int) (t18 : List PV) (t19 t20 n11 n12 : Int) (l l1 xs : List PV) : R := evLoopAt P E T k 116 116 [] [1, 1, 0, 1, 0, 0, 1, 1, 0, 0, 1, 1, 0] [n1] n ⟨mkT 30 [(2, .s (.c (.bptr 0 0))), (5, .s (.c (.loc 1 0 0 0 outLen))), (10, .s (.c (.p (PV.row 0 0 t10)))), (11, .s (.c (.p (PV.int .i64 t11)))), (12, .s (.c (.p (PV.int .i64 t12)))), (18, .s (.c (.p (PV.row 0 0 t18)))), (19, .s (.c (.p (PV.int .i64 t19)))), (20, .s (.c (.p (PV.int .i64 t20))))], [.box [.p (PV.int .i64 n11), .p (PV.int .i64 n12), .p (PV.row 2 0 l), .p (PV.row 2 0 l1)], .arr 3 0 0 false xs]⟩
/-! 117 : impl.reachedFrom -/
def c117 (k : Nat) (g some1 : List PV) : R := evF P E T k 117 [.s (.c (.p (PV.row 0 0 g))), .s (.c (.p (PV.row 0 0 some1)))] []
def r117 (l : List PV) : R := some ([.c (.p (PV.row 0 0 l))], [])
def R117 (x0 : R) (K0 : List PV → R) : R := x0.bind fun q0 => bif lensB q0.2 [] && lensS q0.1 [.c (.p (.row 0))] then (cRow (resAt q0.1 0) 0).bind fun l => K0 l else none
@[simp] theorem R117_r (l : List PV) (K0 : List PV → R) : R117 (r117 l) K0 = K0 l := by kernel_rfl
def L117_1 (k n : Nat) (outLen : Nat) (t11 : List PV) (t12 t13 : Int) (xs : List PV) : R := evLoopAt P E T k 117 117 [] [1, 1, 0, 1, 0] [] n ⟨mkT 26 [(5, .s (.c (.loc 0 0 0 0 outLen))), (11, .s (.c (.p (PV.row 0 0 t11)))), (12, .s (.c (.p (PV.int .i64 t12)))), (13, .s (.c (.p (PV.int .i64 t13))))], [.arr 3 0 0 false xs]⟩
/-! 118 : impl.classGraph -/
def c118 (k : Nat) (p p1 : Int) (p2 p3 v : List PV) : R := evF P E T k 118 [.s (.c (.p (PV.agg [.int .i64 p, .int .i64 p1, .row 2 0 p2, .row 2 0 p3]))), .s (.c (.p (PV.agg [.row 0 0 v])))] []
def r118 (l : List PV) : R := some ([.c (.p (PV.row 0 0 l))], [])
def R118 (x0 : R) (K0 : List PV → R) : R := x0.bind fun q0 => bif lensB q0.2 [] && lensS q0.1 [.c (.p (.row 0))] then (cRow (resAt q0.1 0) 0).bind fun l => K0 l else none
@[simp] theorem R118_r (l : List PV) (K0 : List PV → R) : R118 (r118 l) K0 = K0 l := by kernel_rfl
def L118_1 (k n : Nat) (outLen : Nat) (t9 t10 n1 n11 : Int) (l l1 l2 xs : List PV) : R := evLoopAt P E T k 118 118 [] [1, 1, 0, 1, 0] [] n ⟨mkT 22 [(2, .s (.c (.bptr 0 0))), (3, .s (.c (.bptr 1 0))), (5, .s (.c (.loc 2 0 0 0 outLen))), (9, .s (.c (.p (PV.int .i64 t9)))), (10, .s (.c (.p (PV.int .i64 t10))))], [.box [.p (PV.int .i64 n1), .p (PV.int .i64 n11), .p (PV.row 2 0 l), .p (PV.row 2 0 l1)], .box [.p (PV.row 0 0 l2)], .arr 28 0 0 false xs]⟩
/-! 119 : impl.Program).where -/
def c119 (k : Nat) (p p1 : Int) (p2 p3 t : List PV) : R := evF P E T k 119 [.s (.c (.p (PV.agg [.int .i64 p, .int .i64 p1, .row 2 0 p2, .row 2 0 p3]))), .s (.c (.p (PV.row 2 0 t)))] []
def r119 (l : List PV) : R := some ([.c (.p (PV.row 0 0 l))], [])
def R119 (x0 : R) (K0 : List PV → R) : R := x0.bind fun q0 => bif lensB q0.2 [] && lensS q0.1 [.c (.p (.row 0))] then (cRow (resAt q0.1 0) 0).bind fun l => K0 l else none
@[simp] theorem R119_r (l : List PV) (K0 : List PV → R) : R119 (r119 l) K0 = K0 l := by kernel_rfl
def L119_1 (k n : Nat) (t : List PV) (outLen : Nat) (t9 t10 n1 n11 : Int) (l l1 xs : List PV) : R := evLoopAt P E T k 119 119 [] [1, 1, 0, 1, 0] [] n ⟨mkT 25 [(1, .s (.c (.p (PV.row 2 0 t)))), (2, .s (.c (.bptr 0 0))), (5, .s (.c (.loc 1 0 0 0 outLen))), (9, .s (.c (.p (PV.int .i64 t9)))), (10, .s (.c (.p (PV.int .i64 t10))))], [.box [.p (PV.int .i64 n1), .p (PV.int .i64 n11), .p (PV.row 2 0 l), .p (PV.row 2 0 l1)], .arr 3 0 0 false xs]⟩
/-! 120 : impl.Program).graph -/
def c120 (k : Nat) (p p1 : Int) (p2 p3 : List PV) : R := evF P E T k 120 [.s (.c (.p (PV.agg [.int .i64 p, .int .i64 p1, .row 2 0 p2, .row 2 0 p3])))] []
def r120 (l : List PV) : R := some ([.c (.p (PV.row 0 0 l))], [])
def R120 (x0 : R) (K0 : List PV → R) : R := x0.bind fun q0 => bif lensB q0.2 [] && lensS q0.1 [.c (.p (.row 0))] then (cRow (resAt q0.1 0) 0).bind fun l => K0 l else none
@[simp] theorem R120_r (l : List PV) (K0 : List PV → R) : R120 (r120 l) K0 = K0 l := by kernel_rfl
def L120_1 (k n : Nat) (outLen : Nat) (t7 t8 n1 n11 : Int) (l l1 xs : List PV) : R := evLoopAt P E T k 120 120 [] [1, 1, 0, 1, 0] [] n ⟨mkT 19 [(1, .s (.c (.bptr 0 0))), (3, .s (.c (.loc 1 0 0 0 outLen))), (7, .s (.c (.p (PV.int .i64 t7)))), (8, .s (.c (.p (PV.int .i64 t8))))], [.box [.p (PV.int .i64 n1), .p (PV.int .i64 n11), .p (PV.row 2 0 l), .p (PV.row 2 0 l1)], .arr 28 0 0 false xs]⟩
/-! 121 : spec.l1Cur).next -/
def c121 (k : Nat) (l : List PV) (n1 n11 : Int) : R := evF P E T k 121 [.s (.c (.bptr 0 0))] [[.p (PV.row 0 0 l), .p (PV.int .i64 n1), .p (PV.int .u64 n11)]]
def r121 (l : List PV) (qr qr1 qr2 : Int) : R := some ([.c (.p (PV.int .i64 qr2))], [[.p (PV.row 0 0 l), .p (PV.int .i64 qr), .p (PV.int .u64 qr1)]])
def R121 (x0 : R) (K0 : List PV → Int → Int → Int → R) : R := x0.bind fun q0 => bif lensB q0.2 [[.p (.row 0), .p (.int .i64), .p (.int .u64)]] && lensS q0.1 [.c (.p (.int .i64))] then (cRow (cellAt q0.2 0 0) 0).bind fun l => (cInt (cellAt q0.2 0 1) .i64).bind fun qr => (cInt (cellAt q0.2 0 2) .u64).bind fun qr1 => (cInt (resAt q0.1 0) .i64).bind fun qr2 => K0 l qr qr1 qr2 else none
@[simp] theorem R121_r (l : List PV) (qr qr1 qr2 : Int) (K0 : List PV → Int → Int → Int → R) : R121 (r121 l qr qr1 qr2) K0 = K0 l qr qr1 qr2 := by kernel_rfl
/-! 122 : spec.l1Cur).command -/
def c122 (k : Nat) (wide vars : Int) (l : List PV) (n1 n11 : Int) : R := evF P E T k 122 [.s (.c (.bptr 0 0)), .s (.c (.p (PV.int .i64 wide))), .s (.c (.p (PV.int .i64 vars)))] [[.p (PV.row 0 0 l), .p (PV.int .i64 n1), .p (PV.int .u64 n11)]]
def r122 (l : List PV) (qr qr1 : Int) (l1 l2 : List PV) : R := some ([.agg [.p (PV.row 2 0 l1), .own 116 2 l2]], [[.p (PV.row 0 0 l), .p (PV.int .i64 qr), .p (PV.int .u64 qr1)]])
def R122 (x0 : R) (K0 : List PV → Int → Int → List PV → List PV → R) : R := x0.bind fun q0 => bif lensB q0.2 [[.p (.row 0), .p (.int .i64), .p (.int .u64)]] && lensS q0.1 [.agg [.p (.row 2), .own 116 2]] then (cRow (cellAt q0.2 0 0) 0).bind fun l => (cInt (cellAt q0.2 0 1) .i64).bind fun qr => (cInt (cellAt q0.2 0 2) .u64).bind fun qr1 => (cRow (Dp.partAt q0.1 0 0) 2).bind fun l1 => (asOwn 116 2 (Dp.partAt q0.1 0 1)).bind fun l2 => K0 l qr qr1 l1 l2 else none
@[simp] theorem R122_r (l : List PV) (qr qr1 : Int) (l1 l2 : List PV) (K0 : List PV → Int → Int → List PV → List PV → R) : R122 (r122 l qr qr1 l1 l2) K0 = K0 l qr qr1 l1 l2 := by kernel_rfl
def L122_1 (k n : Nat) (wide vars v : Int) (l : List PV) (n1 n11 : Int) (l1 l2 : List PV) (Len Len1 : Nat) (xs xs1 : List PV) : R := evLoopAt P E T k 122 122 [3] [1, 1, 0, 1, 0] [] n ⟨mkT 35 [(0, .s (.c (.bptr 0 0))), (1, .s (.c (.p (PV.int .i64 wide)))), (2, .s (.c (.p (PV.int .i64 vars)))), (6, .s (.c (.bptr 1 0))), (7, .s (.c (.bptr 2 0))), (8, .s (.c (.p (PV.int .i64 v))))], [.box [.p (PV.row 0 0 l), .p (PV.int .i64 n1), .p (PV.int .u64 n11)], .box [.p (PV.row 2 0 l1), .p (PV.row 2 0 l2)], .box [.loc 3 0 2 0 Len, .loc 4 0 2 0 Len1], .arr 93 2 0 false xs, .arr 116 2 0 false xs1]⟩
/-! 123 : spec.l1Cut -/
def c123 (k : Nat) (wide a : Int) : R := evF P E T k 123 [.s (.c (.p (PV.int .i64 wide))), .s (.c (.p (PV.int .u64 a)))] []
def r123 (qr : Int) : R := some ([.c (.p (PV.int .u64 qr))], [])
def R123 (x0 : R) (K0 : Int → R) : R := x0.bind fun q0 => bif lensB q0.2 [] && lensS q0.1 [.c (.p (.int .u64))] then (cInt (resAt q0.1 0) .u64).bind fun qr => K0 qr else none
@[simp] theorem R123_r (qr : Int) (K0 : Int → R) : R123 (r123 qr) K0 = K0 qr := by kernel_rfl
def L123_1 (k n : Nat) (wide a out k1 : Int) : R := evLoopAt P E T k 123 123 [] [1, 1, 0, 1, 0] [] n ⟨mkT 20 [(0, .s (.c (.p (PV.int .i64 wide)))), (1, .s (.c (.p (PV.int .u64 a)))), (5, .s (.c (.p (PV.int .u64 out)))), (6, .s (.c (.p (PV.int .i64 k1))))], []⟩
/-! 124 : spec.l1Wide -/
def c124 (k : Nat) (wide : Int) : R := evF P E T k 124 [.s (.c (.p (PV.int .i64 wide)))] []
def r124 (b : Bool) : R := some ([.c (.p (PV.bool b))], [])
def R124 (x0 : R) (K0 : Bool → R) : R := x0.bind fun q0 => bif lensB q0.2 [] && lensS q0.1 [.c (.p (.bool))] then (cBool (resAt q0.1 0)).bind fun b => K0 b else none
@[simp] theorem R124_r (b : Bool) (K0 : Bool → R) : R124 (r124 b) K0 = K0 b := by kernel_rfl
/-! 125 : spec.l2Need -/
def c125 (k : Nat) (op : Int) : R := evF P E T k 125 [.s (.c (.p (PV.int .i64 op)))] []
def r125 (qr qr1 qr2 : Int) : R := some ([.c (.p (PV.int .i64 qr)), .c (.p (PV.int .i64 qr1)), .c (.p (PV.int .i64 qr2))], [])
def R125 (x0 : R) (K0 : Int → Int → Int → R) : R := x0.bind fun q0 => bif lensB q0.2 [] && lensS q0.1 [.c (.p (.int .i64)), .c (.p (.int .i64)), .c (.p (.int .i64))] then (cInt (resAt q0.1 0) .i64).bind fun qr => (cInt (resAt q0.1 1) .i64).bind fun qr1 => (cInt (resAt q0.1 2) .i64).bind fun qr2 => K0 qr qr1 qr2 else none
@[simp] theorem R125_r (qr qr1 qr2 : Int) (K0 : Int → Int → Int → R) : R125 (r125 qr qr1 qr2) K0 = K0 qr qr1 qr2 := by kernel_rfl
/-! 126 : spec.l2N -/
def c126 (k : Nat) (wide vars n1 n11 : Int) : R := evF P E T k 126 [.s (.c (.p (PV.int .i64 wide))), .s (.c (.p (PV.int .i64 vars))), .s (.c (.p (PV.agg [.int .i64 n1, .int .u64 n11])))] []
def r126 (b : Bool) : R := some ([.c (.p (PV.bool b))], [])
def R126 (x0 : R) (K0 : Bool → R) : R := x0.bind fun q0 => bif lensB q0.2 [] && lensS q0.1 [.c (.p (.bool))] then (cBool (resAt q0.1 0)).bind fun b => K0 b else none
@[simp] theorem R126_r (b : Bool) (K0 : Bool → R) : R126 (r126 b) K0 = K0 b := by kernel_rfl
/-! 127 : impl.isWide -/
def c127 (k : Nat) (n1 : Int) : R := evF P E T k 127 [.s (.c (.p (PV.int .i64 n1)))] []
def r127 (b : Bool) : R := some ([.c (.p (PV.bool b))], [])
def R127 (x0 : R) (K0 : Bool → R) : R := x0.bind fun q0 => bif lensB q0.2 [] && lensS q0.1 [.c (.p (.bool))] then (cBool (resAt q0.1 0)).bind fun b => K0 b else none
@[simp] theorem R127_r (b : Bool) (K0 : Bool → R) : R127 (r127 b) K0 = K0 b := by kernel_rfl
/-! 128 : impl.isVars -/
def c128 (k : Nat) (n1 : Int) : R := evF P E T k 128 [.s (.c (.p (PV.int .i64 n1)))] []
def r128 (b : Bool) : R := some ([.c (.p (PV.bool b))], [])
def R128 (x0 : R) (K0 : Bool → R) : R := x0.bind fun q0 => bif lensB q0.2 [] && lensS q0.1 [.c (.p (.bool))] then (cBool (resAt q0.1 0)).bind fun b => K0 b else none
@[simp] theorem R128_r (b : Bool) (K0 : Bool → R) : R128 (r128 b) K0 = K0 b := by kernel_rfl
/-! 129f130 : impl.Command] -/
def c129f130 (k : Nat) (qs : List PV) (n1 n11 : Int) (l l1 : List PV) : R := evF P E T k 129 [.s (.c (.p (PV.row 2 0 qs))), .s (.c (.fn 130 [0]))] [[.p (PV.int .i64 n1), .p (PV.int .i64 n11), .p (PV.row 2 0 l), .p (PV.row 2 0 l1)]]
def r129f130 (qr qr1 : Int) (l l1 : List PV) (b : Bool) : R := some ([.c (.p (PV.bool b))], [[.p (PV.int .i64 qr), .p (PV.int .i64 qr1), .p (PV.row 2 0 l), .p (PV.row 2 0 l1)]])
def R129f130 (x0 : R) (K0 : Int → Int → List PV → List PV → Bool → R) : R := x0.bind fun q0 => bif lensB q0.2 [[.p (.int .i64), .p (.int .i64), .p (.row 2), .p (.row 2)]] && lensS q0.1 [.c (.p (.bool))] then (cInt (cellAt q0.2 0 0) .i64).bind fun qr => (cInt (cellAt q0.2 0 1) .i64).bind fun qr1 => (cRow (cellAt q0.2 0 2) 2).bind fun l => (cRow (cellAt q0.2 0 3) 2).bind fun l1 => (cBool (resAt q0.1 0)).bind fun b => K0 qr qr1 l l1 b else none
@[simp] theorem R129f130_r (qr qr1 : Int) (l l1 : List PV) (b : Bool) (K0 : Int → Int → List PV → List PV → Bool → R) : R129f130 (r129f130 qr qr1 l l1 b) K0 = K0 qr qr1 l l1 b := by kernel_rfl
/-! 130 : impl.GoodProgram$1 -/
def c130 (k : Nat) (qc qc1 : List PV) (n1 n11 : Int) (l l1 : List PV) : R := evF P E T k 130 [.s (.c (.p (PV.agg [.row 2 0 qc, .row 2 0 qc1]))), .s (.c (.bptr 0 0))] [[.p (PV.int .i64 n1), .p (PV.int .i64 n11), .p (PV.row 2 0 l), .p (PV.row 2 0 l1)]]
def r130 (qr qr1 : Int) (l l1 : List PV) (b : Bool) : R := some ([.c (.p (PV.bool b))], [[.p (PV.int .i64 qr), .p (PV.int .i64 qr1), .p (PV.row 2 0 l), .p (PV.row 2 0 l1)]])
def R130 (x0 : R) (K0 : Int → Int → List PV → List PV → Bool → R) : R := x0.bind fun q0 => bif lensB q0.2 [[.p (.int .i64), .p (.int .i64), .p (.row 2), .p (.row 2)]] && lensS q0.1 [.c (.p (.bool))] then (cInt (cellAt q0.2 0 0) .i64).bind fun qr => (cInt (cellAt q0.2 0 1) .i64).bind fun qr1 => (cRow (cellAt q0.2 0 2) 2).bind fun l => (cRow (cellAt q0.2 0 3) 2).bind fun l1 => (cBool (resAt q0.1 0)).bind fun b => K0 qr qr1 l l1 b else none
@[simp] theorem R130_r (qr qr1 : Int) (l l1 : List PV) (b : Bool) (K0 : Int → Int → List PV → List PV → Bool → R) : R130 (r130 qr qr1 l l1 b) K0 = K0 qr qr1 l l1 b := by kernel_rfl
/-! 131 : impl.Program).isCommand -/
def c131 (k : Nat) (p p1 : Int) (p2 p3 qc qc1 : List PV) : R := evF P E T k 131 [.s (.c (.p (PV.agg [.int .i64 p, .int .i64 p1, .row 2 0 p2, .row 2 0 p3]))), .s (.c (.p (PV.agg [.row 2 0 qc, .row 2 0 qc1])))] []
def r131 (b : Bool) : R := some ([.c (.p (PV.bool b))], [])
def R131 (x0 : R) (K0 : Bool → R) : R := x0.bind fun q0 => bif lensB q0.2 [] && lensS q0.1 [.c (.p (.bool))] then (cBool (resAt q0.1 0)).bind fun b => K0 b else none
@[simp] theorem R131_r (b : Bool) (K0 : Bool → R) : R131 (r131 b) K0 = K0 b := by kernel_rfl
def L131_1 (k n : Nat) (t13 : List PV) (t14 t15 n1 n11 : Int) (l l1 l2 l3 : List PV) : R := evLoopAt P E T k 131 131 [] [1, 1, 0, 1, 0] [] n ⟨mkT 57 [(2, .s (.c (.bptr 0 0))), (3, .s (.c (.bptr 1 0))), (13, .s (.c (.p (PV.row 2 0 t13)))), (14, .s (.c (.p (PV.int .i64 t14)))), (15, .s (.c (.p (PV.int .i64 t15))))], [.box [.p (PV.int .i64 n1), .p (PV.int .i64 n11), .p (PV.row 2 0 l), .p (PV.row 2 0 l1)], .box [.p (PV.row 2 0 l2), .p (PV.row 2 0 l3)]]⟩
/-! 132 : spec.l7Command -/
def c132 (k : Nat) (p p1 : Int) (p2 p3 qc qc1 : List PV) : R := evF P E T k 132 [.s (.c (.p (PV.agg [.int .i64 p, .int .i64 p1, .row 2 0 p2, .row 2 0 p3]))), .s (.c (.p (PV.agg [.row 2 0 qc, .row 2 0 qc1])))] []
def r132 (b : Bool) : R := some ([.c (.p (PV.bool b))], [])
def R132 (x0 : R) (K0 : Bool → R) : R := x0.bind fun q0 => bif lensB q0.2 [] && lensS q0.1 [.c (.p (.bool))] then (cBool (resAt q0.1 0)).bind fun b => K0 b else none
@[simp] theorem R132_r (b : Bool) (K0 : Bool → R) : R132 (r132 b) K0 = K0 b := by kernel_rfl
def L132_1 (k n : Nat) (t21 : List PV) (t22 t23 n1 n11 : Int) (l l1 l2 l3 : List PV) : R := evLoopAt P E T k 132 132 [] [1, 1, 0, 1, 0] [] n ⟨mkT 62 [(2, .s (.c (.bptr 0 0))), (3, .s (.c (.bptr 1 0))), (21, .s (.c (.p (PV.row 2 0 t21)))), (22, .s (.c (.p (PV.int .i64 t22)))), (23, .s (.c (.p (PV.int .i64 t23))))], [.box [.p (PV.int .i64 n1), .p (PV.int .i64 n11), .p (PV.row 2 0 l), .p (PV.row 2 0 l1)], .box [.p (PV.row 2 0 l2), .p (PV.row 2 0 l3)]]⟩
/-! 134 : impl.DivWord -/
def c134 (k : Nat) (wide a b : Int) : R := evF P E T k 134 [.s (.c (.p (PV.int .i64 wide))), .s (.c (.p (PV.int .u64 a))), .s (.c (.p (PV.int .u64 b)))] []
def r134 (qr qr1 : Int) (b : Bool) : R := some ([.c (.p (PV.int .u64 qr)), .c (.p (PV.int .u64 qr1)), .c (.p (PV.bool b))], [])
def R134 (x0 : R) (K0 : Int → Int → Bool → R) : R := x0.bind fun q0 => bif lensB q0.2 [] && lensS q0.1 [.c (.p (.int .u64)), .c (.p (.int .u64)), .c (.p (.bool))] then (cInt (resAt q0.1 0) .u64).bind fun qr => (cInt (resAt q0.1 1) .u64).bind fun qr1 => (cBool (resAt q0.1 2)).bind fun b => K0 qr qr1 b else none
@[simp] theorem R134_r (qr qr1 : Int) (b : Bool) (K0 : Int → Int → Bool → R) : R134 (r134 qr qr1 b) K0 = K0 qr qr1 b := by kernel_rfl
/-! 135 : impl.shift -/
def c135 (k : Nat) (wide a by1 : Int) (left : Bool) : R := evF P E T k 135 [.s (.c (.p (PV.int .i64 wide))), .s (.c (.p (PV.int .u64 a))), .s (.c (.p (PV.int .u64 by1))), .s (.c (.p (PV.bool left)))] []
def r135 (qr : Int) : R := some ([.c (.p (PV.int .u64 qr))], [])
def R135 (x0 : R) (K0 : Int → R) : R := x0.bind fun q0 => bif lensB q0.2 [] && lensS q0.1 [.c (.p (.int .u64))] then (cInt (resAt q0.1 0) .u64).bind fun qr => K0 qr else none
@[simp] theorem R135_r (qr : Int) (K0 : Int → R) : R135 (r135 qr) K0 = K0 qr := by kernel_rfl
/-! 136 : impl.truth -/
def c136 (k : Nat) (holds : Bool) : R := evF P E T k 136 [.s (.c (.p (PV.bool holds)))] []
def r136 (qr : Int) : R := some ([.c (.p (PV.int .u64 qr))], [])
def R136 (x0 : R) (K0 : Int → R) : R := x0.bind fun q0 => bif lensB q0.2 [] && lensS q0.1 [.c (.p (.int .u64))] then (cInt (resAt q0.1 0) .u64).bind fun qr => K0 qr else none
@[simp] theorem R136_r (qr : Int) (K0 : Int → R) : R136 (r136 qr) K0 = K0 qr := by kernel_rfl
/-! 137 : impl.signed -/
def c137 (k : Nat) (wide a : Int) : R := evF P E T k 137 [.s (.c (.p (PV.int .i64 wide))), .s (.c (.p (PV.int .u64 a)))] []
def r137 (qr : Int) : R := some ([.c (.p (PV.int .i64 qr))], [])
def R137 (x0 : R) (K0 : Int → R) : R := x0.bind fun q0 => bif lensB q0.2 [] && lensS q0.1 [.c (.p (.int .i64))] then (cInt (resAt q0.1 0) .i64).bind fun qr => K0 qr else none
@[simp] theorem R137_r (qr : Int) (K0 : Int → R) : R137 (r137 qr) K0 = K0 qr := by kernel_rfl
/-! 139 : impl.operandsOf -/
def c139 (k : Nat) (op : Int) : R := evF P E T k 139 [.s (.c (.p (PV.int .i64 op)))] []
def r139 (qr qr1 qr2 : Int) : R := some ([.c (.p (PV.int .i64 qr)), .c (.p (PV.int .i64 qr1)), .c (.p (PV.int .i64 qr2))], [])
def R139 (x0 : R) (K0 : Int → Int → Int → R) : R := x0.bind fun q0 => bif lensB q0.2 [] && lensS q0.1 [.c (.p (.int .i64)), .c (.p (.int .i64)), .c (.p (.int .i64))] then (cInt (resAt q0.1 0) .i64).bind fun qr => (cInt (resAt q0.1 1) .i64).bind fun qr1 => (cInt (resAt q0.1 2) .i64).bind fun qr2 => K0 qr qr1 qr2 else none
@[simp] theorem R139_r (qr qr1 qr2 : Int) (K0 : Int → Int → Int → R) : R139 (r139 qr qr1 qr2) K0 = K0 qr qr1 qr2 := by kernel_rfl
/-! 140 : impl.isLeafRight -/
def c140 (k : Nat) (wide vars x x1 : Int) : R := evF P E T k 140 [.s (.c (.p (PV.int .i64 wide))), .s (.c (.p (PV.int .i64 vars))), .s (.c (.p (PV.agg [.int .i64 x, .int .u64 x1])))] []
def r140 (b : Bool) : R := some ([.c (.p (PV.bool b))], [])
def R140 (x0 : R) (K0 : Bool → R) : R := x0.bind fun q0 => bif lensB q0.2 [] && lensS q0.1 [.c (.p (.bool))] then (cBool (resAt q0.1 0)).bind fun b => K0 b else none
@[simp] theorem R140_r (b : Bool) (K0 : Bool → R) : R140 (r140 b) K0 = K0 b := by kernel_rfl
/-! 141f142 : slices.ContainsFunc[[]int,int] -/
def c141f142 (k : Nat) (qs : List PV) (n1 : Int) : R := evF P E T k 141 [.s (.c (.p (PV.row 0 0 qs))), .s (.c (.fn 142 [0]))] [[.p (PV.int .i64 n1)]]
def r141f142 (qr : Int) (b : Bool) : R := some ([.c (.p (PV.bool b))], [[.p (PV.int .i64 qr)]])
def R141f142 (x0 : R) (K0 : Int → Bool → R) : R := x0.bind fun q0 => bif lensB q0.2 [[.p (.int .i64)]] && lensS q0.1 [.c (.p (.bool))] then (cInt (cellAt q0.2 0 0) .i64).bind fun qr => (cBool (resAt q0.1 0)).bind fun b => K0 qr b else none
@[simp] theorem R141f142_r (qr : Int) (b : Bool) (K0 : Int → Bool → R) : R141f142 (r141f142 qr b) K0 = K0 qr b := by kernel_rfl
def R141f142p (x0 : R) (K0 : Int → Bool → R) : R := x0.bind fun q0 => bif q0.1.all plainS && q0.2.all (fun cs => cs.all plainC) then (bif lensB q0.2 [[.p (.int .i64)]] && lensS q0.1 [.c (.p (.bool))] then (cInt (cellAt q0.2 0 0) .i64).bind fun qr => (cBool (resAt q0.1 0)).bind fun b => K0 qr b else none) else none
@[simp] theorem R141f142p_r (qr : Int) (b : Bool) (K0 : Int → Bool → R) : R141f142p (r141f142 qr b) K0 = K0 qr b := by kernel_rfl
/-! 142 : impl.GoodTerm$1 -/
def c142 (k : Nat) (own n1 : Int) : R := evF P E T k 142 [.s (.c (.p (PV.int .i64 own))), .s (.c (.bptr 0 0))] [[.p (PV.int .i64 n1)]]
def r142 (qr : Int) (b : Bool) : R := some ([.c (.p (PV.bool b))], [[.p (PV.int .i64 qr)]])
def R142 (x0 : R) (K0 : Int → Bool → R) : R := x0.bind fun q0 => bif lensB q0.2 [[.p (.int .i64)]] && lensS q0.1 [.c (.p (.bool))] then (cInt (cellAt q0.2 0 0) .i64).bind fun qr => (cBool (resAt q0.1 0)).bind fun b => K0 qr b else none
@[simp] theorem R142_r (qr : Int) (b : Bool) (K0 : Int → Bool → R) : R142 (r142 qr b) K0 = K0 qr b := by kernel_rfl
/-! 143 : spec.l2Do -/
def c143 (k : Nat) (wide op a b : Int) : R := evF P E T k 143 [.s (.c (.p (PV.int .i64 wide))), .s (.c (.p (PV.int .i64 op))), .s (.c (.p (PV.int .u64 a))), .s (.c (.p (PV.int .u64 b)))] []
def r143 (qr : Int) : R := some ([.c (.p (PV.int .u64 qr))], [])
def R143 (x0 : R) (K0 : Int → R) : R := x0.bind fun q0 => bif lensB q0.2 [] && lensS q0.1 [.c (.p (.int .u64))] then (cInt (resAt q0.1 0) .u64).bind fun qr => K0 qr else none
@[simp] theorem R143_r (qr : Int) (K0 : Int → R) : R143 (r143 qr) K0 = K0 qr := by kernel_rfl
/-! 144 : spec.l2From -/
def c144 (k : Nat) (t : List PV) (k1 : Int) : R := evF P E T k 144 [.s (.c (.p (PV.row 2 0 t))), .s (.c (.p (PV.int .i64 k1)))] []
def r144 (qr : Int) : R := some ([.c (.p (PV.int .i64 qr))], [])
def R144 (x0 : R) (K0 : Int → R) : R := x0.bind fun q0 => bif lensB q0.2 [] && lensS q0.1 [.c (.p (.int .i64))] then (cInt (resAt q0.1 0) .i64).bind fun qr => K0 qr else none
@[simp] theorem R144_r (qr : Int) (K0 : Int → R) : R144 (r144 qr) K0 = K0 qr := by kernel_rfl
def L144_1 (k n : Nat) (t : List PV) (many from1 : Int) : R := evLoopAt P E T k 144 144 [] [1, 1, 1, 0, 0] [] n ⟨mkT 29 [(0, .s (.c (.p (PV.row 2 0 t)))), (5, .s (.c (.p (PV.int .i64 many)))), (8, .s (.c (.p (PV.int .i64 from1))))], []⟩
/-! 145 : impl.kindOf -/
def c145 (k : Nat) (t : List PV) : R := evF P E T k 145 [.s (.c (.p (PV.row 2 0 t)))] []
def r145 (qr : Int) : R := some ([.c (.p (PV.int .i64 qr))], [])
def R145 (x0 : R) (K0 : Int → R) : R := x0.bind fun q0 => bif lensB q0.2 [] && lensS q0.1 [.c (.p (.int .i64))] then (cInt (resAt q0.1 0) .i64).bind fun qr => K0 qr else none
@[simp] theorem R145_r (qr : Int) (K0 : Int → R) : R145 (r145 qr) K0 = K0 qr := by kernel_rfl
/-! 146 : impl.marked -/
def c146 (k : Nat) (list : List PV) : R := evF P E T k 146 [.s (.c (.p (PV.row 0 0 list)))] []
def r146 (l : List PV) : R := some ([.c (.own 3 0 l)], [])
def R146 (x0 : R) (K0 : List PV → R) : R := x0.bind fun q0 => bif lensB q0.2 [] && lensS q0.1 [.c (.own 3 0)] then (asOwn 3 0 (resAt q0.1 0)).bind fun l => K0 l else none
@[simp] theorem R146_r (l : List PV) (K0 : List PV → R) : R146 (r146 l) K0 = K0 l := by kernel_rfl
def R146p (x0 : R) (K0 : List PV → R) : R := x0.bind fun q0 => bif q0.1.all plainS && q0.2.all (fun cs => cs.all plainC) then (bif lensB q0.2 [] && lensS q0.1 [.c (.own 3 0)] then (asOwn 3 0 (resAt q0.1 0)).bind fun l => K0 l else none) else none
def L146_1 (k n : Nat) (outLen : Nat) (t7 : List PV) (t8 t9 : Int) (xs : List PV) : R := evLoopAt P E T k 146 146 [] [1, 1, 0, 1, 0] [] n ⟨mkT 21 [(3, .s (.c (.loc 0 0 0 0 outLen))), (7, .s (.c (.p (PV.row 0 0 t7)))), (8, .s (.c (.p (PV.int .i64 t8)))), (9, .s (.c (.p (PV.int .i64 t9))))], [.arr 3 0 0 false xs]⟩
/-! 147 : impl.Program).stateNo -/
def c147 (k : Nat) (p p1 : Int) (p2 p3 qs : List PV) : R := evF P E T k 147 [.s (.c (.p (PV.agg [.int .i64 p, .int .i64 p1, .row 2 0 p2, .row 2 0 p3]))), .s (.c (.p (PV.row 0 0 qs)))] []
def r147 (qr : Int) : R := some ([.c (.p (PV.int .i64 qr))], [])
def R147 (x0 : R) (K0 : Int → R) : R := x0.bind fun q0 => bif lensB q0.2 [] && lensS q0.1 [.c (.p (.int .i64))] then (cInt (resAt q0.1 0) .i64).bind fun qr => K0 qr else none
@[simp] theorem R147_r (qr : Int) (K0 : Int → R) : R147 (r147 qr) K0 = K0 qr := by kernel_rfl
def L147_1 (k n : Nat) (no : Int) (t8 : List PV) (t9 t10 n1 n11 : Int) (l l1 : List PV) : R := evLoopAt P E T k 147 147 [] [1, 1, 0, 1, 0] [] n ⟨mkT 26 [(2, .s (.c (.bptr 0 0))), (5, .s (.c (.p (PV.int .i64 no)))), (8, .s (.c (.p (PV.row 0 0 t8)))), (9, .s (.c (.p (PV.int .i64 t9)))), (10, .s (.c (.p (PV.int .i64 t10))))], [.box [.p (PV.int .i64 n1), .p (PV.int .i64 n11), .p (PV.row 2 0 l), .p (PV.row 2 0 l1)]]⟩
/-! 148 : impl.Program).after -/
def c148 (k : Nat) (p p1 : Int) (p2 p3 qc qc1 qs : List PV) : R := evF P E T k 148 [.s (.c (.p (PV.agg [.int .i64 p, .int .i64 p1, .row 2 0 p2, .row 2 0 p3]))), .s (.c (.p (PV.agg [.row 2 0 qc, .row 2 0 qc1]))), .s (.c (.p (PV.row 0 0 qs)))] []
def r148 (l : List PV) : R := some ([.c (.p (PV.row 0 0 l))], [])
def R148 (x0 : R) (K0 : List PV → R) : R := x0.bind fun q0 => bif lensB q0.2 [] && lensS q0.1 [.c (.p (.row 0))] then (cRow (resAt q0.1 0) 0).bind fun l => K0 l else none
@[simp] theorem R148_r (l : List PV) (K0 : List PV → R) : R148 (r148 l) K0 = K0 l := by kernel_rfl
def L148_1 (k n : Nat) (qs : List PV) (outLen : Nat) (t13 : List PV) (t14 t15 n1 n11 : Int) (l l1 xs : List PV) : R := evLoopAt P E T k 148 148 [] [1, 1, 0, 1, 0] [] n ⟨mkT 31 [(2, .s (.c (.p (PV.row 0 0 qs)))), (3, .s (.c (.bptr 0 0))), (7, .s (.c (.loc 1 0 0 0 outLen))), (13, .s (.c (.p (PV.row 2 0 t13)))), (14, .s (.c (.p (PV.int .i64 t14)))), (15, .s (.c (.p (PV.int .i64 t15))))], [.box [.p (PV.int .i64 n1), .p (PV.int .i64 n11), .p (PV.row 2 0 l), .p (PV.row 2 0 l1)], .arr 65 0 0 false xs]⟩
/-! 151f111 : slices.IndexFunc[[]int,int] -/
def c151f111 (k : Nat) (qs l : List PV) : R := evF P E T k 151 [.s (.c (.p (PV.row 0 0 qs))), .s (.c (.cfn 111 [PV.agg [.row 0 0 l]]))] []
def r151f111 (qr : Int) : R := some ([.c (.p (PV.int .i64 qr))], [])
def R151f111 (x0 : R) (K0 : Int → R) : R := x0.bind fun q0 => bif lensB q0.2 [] && lensS q0.1 [.c (.p (.int .i64))] then (cInt (resAt q0.1 0) .i64).bind fun qr => K0 qr else none
@[simp] theorem R151f111_r (qr : Int) (K0 : Int → R) : R151f111 (r151f111 qr) K0 = K0 qr := by kernel_rfl
def R151f111p (x0 : R) (K0 : Int → R) : R := x0.bind fun q0 => bif q0.1.all plainS && q0.2.all (fun cs => cs.all plainC) then (bif lensB q0.2 [] && lensS q0.1 [.c (.p (.int .i64))] then (cInt (resAt q0.1 0) .i64).bind fun qr => K0 qr else none) else none
@[simp] theorem R151f111p_r (qr : Int) (K0 : Int → R) : R151f111p (r151f111 qr) K0 = K0 qr := by kernel_rfl
def L151f111_1 (k n : Nat) (qs l : List PV) (t7 t8 : Int) : R := evLoopAt P E T k 151 112151 [] [1, 0, 1, 0] [] n ⟨mkT 19 [(0, .s (.c (.p (PV.row 0 0 qs)))), (1, .s (.c (.cfn 111 [PV.agg [.row 0 0 l]]))), (7, .s (.c (.p (PV.int .i64 t7)))), (8, .s (.c (.p (PV.int .i64 t8))))], []⟩
/-! 151f142 : slices.IndexFunc[[]int,int] -/
def c151f142 (k : Nat) (qs : List PV) (n1 : Int) : R := evF P E T k 151 [.s (.c (.p (PV.row 0 0 qs))), .s (.c (.fn 142 [0]))] [[.p (PV.int .i64 n1)]]
def r151f142 (qr qr1 : Int) : R := some ([.c (.p (PV.int .i64 qr1))], [[.p (PV.int .i64 qr)]])
def R151f142 (x0 : R) (K0 : Int → Int → R) : R := x0.bind fun q0 => bif lensB q0.2 [[.p (.int .i64)]] && lensS q0.1 [.c (.p (.int .i64))] then (cInt (cellAt q0.2 0 0) .i64).bind fun qr => (cInt (resAt q0.1 0) .i64).bind fun qr1 => K0 qr qr1 else none
@[simp] theorem R151f142_r (qr qr1 : Int) (K0 : Int → Int → R) : R151f142 (r151f142 qr qr1) K0 = K0 qr qr1 := by kernel_rfl
def L151f142_1 (k n : Nat) (qs : List PV) (t7 t8 n1 : Int) : R := evLoopAt P E T k 151 143151 [1] [1, 0, 1, 0] [] n ⟨mkT 19 [(0, .s (.c (.p (PV.row 0 0 qs)))), (1, .s (.c (.fn 142 [0]))), (7, .s (.c (.p (PV.int .i64 t7)))), (8, .s (.c (.p (PV.int .i64 t8))))], [.box [.p (PV.int .i64 n1)]]⟩
/-! 152 : slices.Index[[]int,int] -/
def c152 (k : Nat) (qs : List PV) (v : Int) : R := evF P E T k 152 [.s (.c (.p (PV.row 0 0 qs))), .s (.c (.p (PV.int .i64 v)))] []
def r152 (qr : Int) : R := some ([.c (.p (PV.int .i64 qr))], [])
def R152 (x0 : R) (K0 : Int → R) : R := x0.bind fun q0 => bif lensB q0.2 [] && lensS q0.1 [.c (.p (.int .i64))] then (cInt (resAt q0.1 0) .i64).bind fun qr => K0 qr else none
@[simp] theorem R152_r (qr : Int) (K0 : Int → R) : R152 (r152 qr) K0 = K0 qr := by kernel_rfl
def L152_1 (k n : Nat) (qs : List PV) (v t7 t8 : Int) : R := evLoopAt P E T k 152 152 [] [1, 0, 1, 0] [] n ⟨mkT 19 [(0, .s (.c (.p (PV.row 0 0 qs)))), (1, .s (.c (.p (PV.int .i64 v)))), (7, .s (.c (.p (PV.int .i64 t7)))), (8, .s (.c (.p (PV.int .i64 t8))))], []⟩
/-! 153 : spec.l7Enabled -/
def c153 (k : Nat) (p p1 : Int) (p2 p3 qs : List PV) : R := evF P E T k 153 [.s (.c (.p (PV.agg [.int .i64 p, .int .i64 p1, .row 2 0 p2, .row 2 0 p3]))), .s (.c (.p (PV.row 0 0 qs)))] []
def r153 (l : List PV) : R := some ([.c (.p (PV.row 0 0 l))], [])
def R153 (x0 : R) (K0 : List PV → R) : R := x0.bind fun q0 => bif lensB q0.2 [] && lensS q0.1 [.c (.p (.row 0))] then (cRow (resAt q0.1 0) 0).bind fun l => K0 l else none
@[simp] theorem R153_r (l : List PV) (K0 : List PV → R) : R153 (r153 l) K0 = K0 l := by kernel_rfl
def L153_1 (k n : Nat) (qs : List PV) (outLen : Nat) (t9 : List PV) (t10 t11 n1 n11 : Int) (l l1 xs : List PV) : R := evLoopAt P E T k 153 153 [] [1, 1, 0, 1, 0] [] n ⟨mkT 27 [(1, .s (.c (.p (PV.row 0 0 qs)))), (2, .s (.c (.bptr 0 0))), (5, .s (.c (.loc 1 0 0 0 outLen))), (9, .s (.c (.p (PV.row 2 0 t9)))), (10, .s (.c (.p (PV.int .i64 t10)))), (11, .s (.c (.p (PV.int .i64 t11))))], [.box [.p (PV.int .i64 n1), .p (PV.int .i64 n11), .p (PV.row 2 0 l), .p (PV.row 2 0 l1)], .arr 3 0 0 false xs]⟩
/-! 154 : spec.l7No -/
def c154 (k : Nat) (p p1 : Int) (p2 p3 qs : List PV) : R := evF P E T k 154 [.s (.c (.p (PV.agg [.int .i64 p, .int .i64 p1, .row 2 0 p2, .row 2 0 p3]))), .s (.c (.p (PV.row 0 0 qs)))] []
def r154 (qr : Int) : R := some ([.c (.p (PV.int .i64 qr))], [])
def R154 (x0 : R) (K0 : Int → R) : R := x0.bind fun q0 => bif lensB q0.2 [] && lensS q0.1 [.c (.p (.int .i64))] then (cInt (resAt q0.1 0) .i64).bind fun qr => K0 qr else none
@[simp] theorem R154_r (qr : Int) (K0 : Int → R) : R154 (r154 qr) K0 = K0 qr := by kernel_rfl
def L154_1 (k n : Nat) (qs : List PV) (n1 v n11 n12 : Int) (l l1 : List PV) : R := evLoopAt P E T k 154 154 [] [1, 1, 0, 1, 0] [] n ⟨mkT 26 [(1, .s (.c (.p (PV.row 0 0 qs)))), (2, .s (.c (.bptr 0 0))), (5, .s (.c (.p (PV.int .i64 n1)))), (6, .s (.c (.p (PV.int .i64 v))))], [.box [.p (PV.int .i64 n11), .p (PV.int .i64 n12), .p (PV.row 2 0 l), .p (PV.row 2 0 l1)]]⟩
/-! 155 : spec.l7Do -/
def c155 (k : Nat) (p p1 : Int) (p2 p3 qs : List PV) (k1 : Int) : R := evF P E T k 155 [.s (.c (.p (PV.agg [.int .i64 p, .int .i64 p1, .row 2 0 p2, .row 2 0 p3]))), .s (.c (.p (PV.row 0 0 qs))), .s (.c (.p (PV.int .i64 k1)))] []
def r155 (l : List PV) : R := some ([.c (.p (PV.row 0 0 l))], [])
def R155 (x0 : R) (K0 : List PV → R) : R := x0.bind fun q0 => bif lensB q0.2 [] && lensS q0.1 [.c (.p (.row 0))] then (cRow (resAt q0.1 0) 0).bind fun l => K0 l else none
@[simp] theorem R155_r (l : List PV) (K0 : List PV → R) : R155 (r155 l) K0 = K0 l := by kernel_rfl
def L155_1 (k n : Nat) (qs : List PV) (outLen : Nat) (t18 : List PV) (t19 t20 n1 n11 : Int) (l l1 xs : List PV) : R := evLoopAt P E T k 155 155 [] [1, 1, 0, 1, 0] [] n ⟨mkT 40 [(1, .s (.c (.p (PV.row 0 0 qs)))), (3, .s (.c (.bptr 0 0))), (7, .s (.c (.loc 1 0 0 0 outLen))), (18, .s (.c (.p (PV.row 2 0 t18)))), (19, .s (.c (.p (PV.int .i64 t19)))), (20, .s (.c (.p (PV.int .i64 t20))))], [.box [.p (PV.int .i64 n1), .p (PV.int .i64 n11), .p (PV.row 2 0 l), .p (PV.row 2 0 l1)], .arr 65 0 0 false xs]⟩
/-! 156 : impl.stepsFrom -/
def c156 (k : Nat) (g some1 : List PV) : R := evF P E T k 156 [.s (.c (.p (PV.row 0 0 g))), .s (.c (.p (PV.row 0 0 some1)))] []
def r156 (l : List PV) : R := some ([.c (.p (PV.row 0 0 l))], [])
def R156 (x0 : R) (K0 : List PV → R) : R := x0.bind fun q0 => bif lensB q0.2 [] && lensS q0.1 [.c (.p (.row 0))] then (cRow (resAt q0.1 0) 0).bind fun l => K0 l else none
@[simp] theorem R156_r (l : List PV) (K0 : List PV → R) : R156 (r156 l) K0 = K0 l := by kernel_rfl
def L156_1 (k n : Nat) (g : List PV) (stepsLen openLen : Nat) (t17 : List PV) (t18 t19 : Int) (xs xs1 : List PV) : R := evLoopAt P E T k 156 156 [] [1, 1, 1, 0, 1, 0] [] n ⟨mkT 64 [(0, .s (.c (.p (PV.row 0 0 g)))), (5, .s (.c (.loc 0 0 0 0 stepsLen))), (6, .s (.c (.loc 1 0 0 0 openLen))), (17, .s (.c (.p (PV.row 0 0 t17)))), (18, .s (.c (.p (PV.int .i64 t18)))), (19, .s (.c (.p (PV.int .i64 t19))))], [.arr 3 0 0 false xs, .arr 3 0 0 false xs1]⟩
def L156_2 (k n : Nat) (g : List PV) (stepsLen openLen : Nat) (xs xs1 : List PV) : R := evLoopAt P E T k 156 156 [] [1, 1, 1, 1, 0, 0] [] n ⟨mkT 64 [(0, .s (.c (.p (PV.row 0 0 g)))), (5, .s (.c (.loc 0 0 0 0 stepsLen))), (6, .s (.c (.loc 1 0 0 0 openLen)))], [.arr 3 0 0 false xs, .arr 3 0 0 false xs1]⟩
def L156_3 (k n1 n : Nat) (g : List PV) (stepsLen openLen : Nat) (t37 : List PV) (t38 t39 : Int) (xs xs1 : List PV) : R := evLoopAt P E T k 156 156 [] [1, 1, 1, 1, 0, 0, 0, 1, 0, 0, 1, 0] [n1] n ⟨mkT 64 [(0, .s (.c (.p (PV.row 0 0 g)))), (5, .s (.c (.loc 0 0 0 0 stepsLen))), (6, .s (.c (.loc 1 0 0 0 openLen))), (37, .s (.c (.p (PV.row 0 0 t37)))), (38, .s (.c (.p (PV.int .i64 t38)))), (39, .s (.c (.p (PV.int .i64 t39))))], [.arr 3 0 0 false xs, .arr 3 0 0 false xs1]⟩
def L156_4 (k n : Nat) (g : List PV) (stepsLen openLo openLen : Nat) (xs xs1 : List PV) : R := evLoopAt P E T k 156 156 [] [1, 1, 1, 1, 0, 0] [] n ⟨mkT 64 [(0, .s (.c (.p (PV.row 0 0 g)))), (5, .s (.c (.loc 0 0 0 0 stepsLen))), (6, .s (.c (.loc 1 0 0 openLo openLen)))], [.arr 3 0 0 false xs, .arr 3 0 0 false xs1]⟩
def L156_5 (k n1 n : Nat) (g : List PV) (stepsLen openLo openLen : Nat) (t37 : List PV) (t38 t39 : Int) (xs xs1 : List PV) : R := evLoopAt P E T k 156 156 [] [1, 1, 1, 1, 0, 0, 0, 1, 0, 0, 1, 0] [n1] n ⟨mkT 64 [(0, .s (.c (.p (PV.row 0 0 g)))), (5, .s (.c (.loc 0 0 0 0 stepsLen))), (6, .s (.c (.loc 1 0 0 openLo openLen))), (37, .s (.c (.p (PV.row 0 0 t37)))), (38, .s (.c (.p (PV.int .i64 t38)))), (39, .s (.c (.p (PV.int .i64 t39))))], [.arr 3 0 0 false xs, .arr 3 0 0 false xs1]⟩
/-! 157 : spec.GoodWord -/
def c157 (k : Nat) (wide a : Int) : R := evF P E T k 157 [.s (.c (.p (PV.int .i64 wide))), .s (.c (.p (PV.int .u64 a)))] []
def r157 (b : Bool) : R := some ([.c (.p (PV.bool b))], [])
def R157 (x0 : R) (K0 : Bool → R) : R := x0.bind fun q0 => bif lensB q0.2 [] && lensS q0.1 [.c (.p (.bool))] then (cBool (resAt q0.1 0)).bind fun b => K0 b else none
@[simp] theorem R157_r (b : Bool) (K0 : Bool → R) : R157 (r157 b) K0 = K0 b := by kernel_rfl
/-! 158f130 : impl.Command] -/
def c158f130 (k : Nat) (qs : List PV) (n1 n11 : Int) (l l1 : List PV) : R := evF P E T k 158 [.s (.c (.p (PV.row 2 0 qs))), .s (.c (.fn 130 [0]))] [[.p (PV.int .i64 n1), .p (PV.int .i64 n11), .p (PV.row 2 0 l), .p (PV.row 2 0 l1)]]
def r158f130 (qr qr1 : Int) (l l1 : List PV) (qr2 : Int) : R := some ([.c (.p (PV.int .i64 qr2))], [[.p (PV.int .i64 qr), .p (PV.int .i64 qr1), .p (PV.row 2 0 l), .p (PV.row 2 0 l1)]])
def R158f130 (x0 : R) (K0 : Int → Int → List PV → List PV → Int → R) : R := x0.bind fun q0 => bif lensB q0.2 [[.p (.int .i64), .p (.int .i64), .p (.row 2), .p (.row 2)]] && lensS q0.1 [.c (.p (.int .i64))] then (cInt (cellAt q0.2 0 0) .i64).bind fun qr => (cInt (cellAt q0.2 0 1) .i64).bind fun qr1 => (cRow (cellAt q0.2 0 2) 2).bind fun l => (cRow (cellAt q0.2 0 3) 2).bind fun l1 => (cInt (resAt q0.1 0) .i64).bind fun qr2 => K0 qr qr1 l l1 qr2 else none
@[simp] theorem R158f130_r (qr qr1 : Int) (l l1 : List PV) (qr2 : Int) (K0 : Int → Int → List PV → List PV → Int → R) : R158f130 (r158f130 qr qr1 l l1 qr2) K0 = K0 qr qr1 l l1 qr2 := by kernel_rfl
def L158f130_1 (k n : Nat) (qs : List PV) (t7 t8 n1 n11 : Int) (l l1 : List PV) : R := evLoopAt P E T k 158 131158 [4] [1, 0, 1, 0] [] n ⟨mkT 19 [(0, .s (.c (.p (PV.row 2 0 qs)))), (1, .s (.c (.fn 130 [0]))), (7, .s (.c (.p (PV.int .i64 t7)))), (8, .s (.c (.p (PV.int .i64 t8))))], [.box [.p (PV.int .i64 n1), .p (PV.int .i64 n11), .p (PV.row 2 0 l), .p (PV.row 2 0 l1)]]⟩
/-! 159 : impl.areWords -/
def c159 (k : Nat) (wide a b : Int) : R := evF P E T k 159 [.s (.c (.p (PV.int .i64 wide))), .s (.c (.p (PV.int .u64 a))), .s (.c (.p (PV.int .u64 b)))] []
def r159 (b : Bool) : R := some ([.c (.p (PV.bool b))], [])
def R159 (x0 : R) (K0 : Bool → R) : R := x0.bind fun q0 => bif lensB q0.2 [] && lensS q0.1 [.c (.p (.bool))] then (cBool (resAt q0.1 0)).bind fun b => K0 b else none
@[simp] theorem R159_r (b : Bool) (K0 : Bool → R) : R159 (r159 b) K0 = K0 b := by kernel_rfl
/-! 160 : bits.Div64 -/
def c160 (k : Nat) (hi lo y : Int) : R := evF P E T k 160 [.s (.c (.p (PV.int .u64 hi))), .s (.c (.p (PV.int .u64 lo))), .s (.c (.p (PV.int .u64 y)))] []
def r160 (qr qr1 : Int) : R := some ([.c (.p (PV.int .u64 qr)), .c (.p (PV.int .u64 qr1))], [])
def R160 (x0 : R) (K0 : Int → Int → R) : R := x0.bind fun q0 => bif lensB q0.2 [] && lensS q0.1 [.c (.p (.int .u64)), .c (.p (.int .u64))] then (cInt (resAt q0.1 0) .u64).bind fun qr => (cInt (resAt q0.1 1) .u64).bind fun qr1 => K0 qr qr1 else none
@[simp] theorem R160_r (qr qr1 : Int) (K0 : Int → Int → R) : R160 (r160 qr qr1) K0 = K0 qr qr1 := by kernel_rfl
def L160_1 (k n : Nat) (y qs yn1 yn0 un32 un1 un0 q1 rhat : Int) : R := evLoopAt P E T k 160 160 [] [1, 1, 1, 1, 1, 1, 1, 1, 1, 1, 1, 1, 1, 1, 0, 0] [] n ⟨mkT 135 [(2, .s (.c (.p (PV.int .u64 y)))), (8, .s (.c (.p (PV.int .u64 qs)))), (9, .s (.c (.p (PV.int .u64 yn1)))), (10, .s (.c (.p (PV.int .u64 yn0)))), (11, .s (.c (.p (PV.int .u64 un32)))), (13, .s (.c (.p (PV.int .u64 un1)))), (14, .s (.c (.p (PV.int .u64 un0)))), (15, .s (.c (.p (PV.int .u64 q1)))), (16, .s (.c (.p (PV.int .u64 rhat))))], []⟩
/-! 162 : impl.GoodWord -/
def c162 (k : Nat) (wide a : Int) : R := evF P E T k 162 [.s (.c (.p (PV.int .i64 wide))), .s (.c (.p (PV.int .u64 a)))] []
def r162 (b : Bool) : R := some ([.c (.p (PV.bool b))], [])
def R162 (x0 : R) (K0 : Bool → R) : R := x0.bind fun q0 => bif lensB q0.2 [] && lensS q0.1 [.c (.p (.bool))] then (cBool (resAt q0.1 0)).bind fun b => K0 b else none
@[simp] theorem R162_r (b : Bool) (K0 : Bool → R) : R162 (r162 b) K0 = K0 b := by kernel_rfl
/-! 163 : spec.DivWord -/
def c163 (k : Nat) (wide a b : Int) : R := evF P E T k 163 [.s (.c (.p (PV.int .i64 wide))), .s (.c (.p (PV.int .u64 a))), .s (.c (.p (PV.int .u64 b)))] []
def r163 (qr qr1 : Int) (b : Bool) : R := some ([.c (.p (PV.int .u64 qr)), .c (.p (PV.int .u64 qr1)), .c (.p (PV.bool b))], [])
def R163 (x0 : R) (K0 : Int → Int → Bool → R) : R := x0.bind fun q0 => bif lensB q0.2 [] && lensS q0.1 [.c (.p (.int .u64)), .c (.p (.int .u64)), .c (.p (.bool))] then (cInt (resAt q0.1 0) .u64).bind fun qr => (cInt (resAt q0.1 1) .u64).bind fun qr1 => (cBool (resAt q0.1 2)).bind fun b => K0 qr qr1 b else none
@[simp] theorem R163_r (qr qr1 : Int) (b : Bool) (K0 : Int → Int → Bool → R) : R163 (r163 qr qr1 b) K0 = K0 qr qr1 b := by kernel_rfl
/-! 164 : spec.l1Shift -/
def c164 (k : Nat) (wide a by1 : Int) (left : Bool) : R := evF P E T k 164 [.s (.c (.p (PV.int .i64 wide))), .s (.c (.p (PV.int .u64 a))), .s (.c (.p (PV.int .u64 by1))), .s (.c (.p (PV.bool left)))] []
def r164 (qr : Int) : R := some ([.c (.p (PV.int .u64 qr))], [])
def R164 (x0 : R) (K0 : Int → R) : R := x0.bind fun q0 => bif lensB q0.2 [] && lensS q0.1 [.c (.p (.int .u64))] then (cInt (resAt q0.1 0) .u64).bind fun qr => K0 qr else none
@[simp] theorem R164_r (qr : Int) (K0 : Int → R) : R164 (r164 qr) K0 = K0 qr := by kernel_rfl
def L164_1 (k n : Nat) (wide a by1 : Int) (left : Bool) : R := evLoopAt P E T k 164 164 [] [1, 1, 0, 0] [] n ⟨mkT 25 [(0, .s (.c (.p (PV.int .i64 wide)))), (1, .s (.c (.p (PV.int .u64 a)))), (2, .s (.c (.p (PV.int .u64 by1)))), (3, .s (.c (.p (PV.bool left))))], []⟩
/-! 165 : spec.l2Bool -/
def c165 (k : Nat) (is1 : Bool) : R := evF P E T k 165 [.s (.c (.p (PV.bool is1)))] []
def r165 (qr : Int) : R := some ([.c (.p (PV.int .u64 qr))], [])
def R165 (x0 : R) (K0 : Int → R) : R := x0.bind fun q0 => bif lensB q0.2 [] && lensS q0.1 [.c (.p (.int .u64))] then (cInt (resAt q0.1 0) .u64).bind fun qr => K0 qr else none
@[simp] theorem R165_r (qr : Int) (K0 : Int → R) : R165 (r165 qr) K0 = K0 qr := by kernel_rfl
/-! 166 : spec.l1Signed -/
def c166 (k : Nat) (wide a : Int) : R := evF P E T k 166 [.s (.c (.p (PV.int .i64 wide))), .s (.c (.p (PV.int .u64 a)))] []
def r166 (qr : Int) : R := some ([.c (.p (PV.int .i64 qr))], [])
def R166 (x0 : R) (K0 : Int → R) : R := x0.bind fun q0 => bif lensB q0.2 [] && lensS q0.1 [.c (.p (.int .i64))] then (cInt (resAt q0.1 0) .i64).bind fun qr => K0 qr else none
@[simp] theorem R166_r (qr : Int) (K0 : Int → R) : R166 (r166 qr) K0 = K0 qr := by kernel_rfl
/-! 167 : slices.Clone[[]uint64,uint64] -/
def c167 (k : Nat) (qs : List PV) : R := evF P E T k 167 [.s (.c (.p (PV.row 0 0 qs)))] []
def r167 (l : List PV) : R := some ([.c (.own 65 0 l)], [])
def R167 (x0 : R) (K0 : List PV → R) : R := x0.bind fun q0 => bif lensB q0.2 [] && lensS q0.1 [.c (.own 65 0)] then (asOwn 65 0 (resAt q0.1 0)).bind fun l => K0 l else none
@[simp] theorem R167_r (l : List PV) (K0 : List PV → R) : R167 (r167 l) K0 = K0 l := by kernel_rfl
/-! 170 : slices.Repeat[[]int,int] -/
def c170 (k : Nat) (x : List PV) (count : Int) : R := evF P E T k 170 [.s (.c (.p (PV.row 0 0 x))), .s (.c (.p (PV.int .i64 count)))] []
def r170 (l : List PV) : R := some ([.c (.own 3 0 l)], [])
def R170 (x0 : R) (K0 : List PV → R) : R := x0.bind fun q0 => bif lensB q0.2 [] && lensS q0.1 [.c (.own 3 0)] then (asOwn 3 0 (resAt q0.1 0)).bind fun l => K0 l else none
@[simp] theorem R170_r (l : List PV) (K0 : List PV → R) : R170 (r170 l) K0 = K0 l := by kernel_rfl
def R170p (x0 : R) (K0 : List PV → R) : R := x0.bind fun q0 => bif q0.1.all plainS && q0.2.all (fun cs => cs.all plainC) then (bif lensB q0.2 [] && lensS q0.1 [.c (.own 3 0)] then (asOwn 3 0 (resAt q0.1 0)).bind fun l => K0 l else none) else none
def L170_1 (k n : Nat) (newsliceLen : Nat) (n1 : Int) (xs : List PV) : R := evLoopAt P E T k 170 170 [] [1, 1, 1, 1, 1, 1, 0, 0] [] n ⟨mkT 48 [(7, .s (.c (.loc 0 0 0 0 newsliceLen))), (8, .s (.c (.p (PV.int .i64 n1))))], [.arr 3 0 0 false xs]⟩
/-! 171 : slices.Clone[[]int,int] -/
def c171 (k : Nat) (qs : List PV) : R := evF P E T k 171 [.s (.c (.p (PV.row 0 0 qs)))] []
def r171 (l : List PV) : R := some ([.c (.own 3 0 l)], [])
def R171 (x0 : R) (K0 : List PV → R) : R := x0.bind fun q0 => bif lensB q0.2 [] && lensS q0.1 [.c (.own 3 0)] then (asOwn 3 0 (resAt q0.1 0)).bind fun l => K0 l else none
@[simp] theorem R171_r (l : List PV) (K0 : List PV → R) : R171 (r171 l) K0 = K0 l := by kernel_rfl
/-! 172 : bits.LeadingZeros64 -/
def c172 (k : Nat) (x : Int) : R := evF P E T k 172 [.s (.c (.p (PV.int .u64 x)))] []
def r172 (qr : Int) : R := some ([.c (.p (PV.int .i64 qr))], [])
def R172 (x0 : R) (K0 : Int → R) : R := x0.bind fun q0 => bif lensB q0.2 [] && lensS q0.1 [.c (.p (.int .i64))] then (cInt (resAt q0.1 0) .i64).bind fun qr => K0 qr else none
@[simp] theorem R172_r (qr : Int) (K0 : Int → R) : R172 (r172 qr) K0 = K0 qr := by kernel_rfl
/-! 174 : spec.l1Both -/
def c174 (k : Nat) (wide a b : Int) : R := evF P E T k 174 [.s (.c (.p (PV.int .i64 wide))), .s (.c (.p (PV.int .u64 a))), .s (.c (.p (PV.int .u64 b)))] []
def r174 (b : Bool) : R := some ([.c (.p (PV.bool b))], [])
def R174 (x0 : R) (K0 : Bool → R) : R := x0.bind fun q0 => bif lensB q0.2 [] && lensS q0.1 [.c (.p (.bool))] then (cBool (resAt q0.1 0)).bind fun b => K0 b else none
@[simp] theorem R174_r (b : Bool) (K0 : Bool → R) : R174 (r174 b) K0 = K0 b := by kernel_rfl
/-! 185 : bits.Len64 -/
def r185 (qr : Int) : R := some ([.c (.p (PV.int .i64 qr))], [])
def R185 (x0 : R) (K0 : Int → R) : R := x0.bind fun q0 => bif lensB q0.2 [] && lensS q0.1 [.c (.p (.int .i64))] then (cInt (resAt q0.1 0) .i64).bind fun qr => K0 qr else none
@[simp] theorem R185_r (qr : Int) (K0 : Int → R) : R185 (r185 qr) K0 = K0 qr := by kernel_rfl
/-! 186 : bits.Mul -/
def c186 (k : Nat) (x y : Int) : R := evF P E T k 186 [.s (.c (.p (PV.int .u64 x))), .s (.c (.p (PV.int .u64 y)))] []
def r186 (qr qr1 : Int) : R := some ([.c (.p (PV.int .u64 qr)), .c (.p (PV.int .u64 qr1))], [])
def R186 (x0 : R) (K0 : Int → Int → R) : R := x0.bind fun q0 => bif lensB q0.2 [] && lensS q0.1 [.c (.p (.int .u64)), .c (.p (.int .u64))] then (cInt (resAt q0.1 0) .u64).bind fun qr => (cInt (resAt q0.1 1) .u64).bind fun qr1 => K0 qr qr1 else none
@[simp] theorem R186_r (qr qr1 : Int) (K0 : Int → Int → R) : R186 (r186 qr qr1) K0 = K0 qr qr1 := by kernel_rfl
/-! 194 : bits.Mul64 -/
def c194 (k : Nat) (x y : Int) : R := evF P E T k 194 [.s (.c (.p (PV.int .u64 x))), .s (.c (.p (PV.int .u64 y)))] []
def r194 (qr qr1 : Int) : R := some ([.c (.p (PV.int .u64 qr)), .c (.p (PV.int .u64 qr1))], [])
def R194 (x0 : R) (K0 : Int → Int → R) : R := x0.bind fun q0 => bif lensB q0.2 [] && lensS q0.1 [.c (.p (.int .u64)), .c (.p (.int .u64))] then (cInt (resAt q0.1 0) .u64).bind fun qr => (cInt (resAt q0.1 1) .u64).bind fun qr1 => K0 qr qr1 else none
@[simp] theorem R194_r (qr qr1 : Int) (K0 : Int → Int → R) : R194 (r194 qr qr1) K0 = K0 qr qr1 := by kernel_rfl
end
end Go.Proofs.YtfinhnimlmkooaaGreat
/- Normal forms: printed by nf.py. -/
set_option linter.unusedVariables false
set_option maxRecDepth 100000
namespace Go.Proofs.YtfinhnimlmkooaaGreat
open Go.Dp
/-! 5 : laws.FnStable -/
theorem n5 (k : Nat) (code more : List PV) : c5 (k + 1) code more =
 R6 (c6 k code more) fun b1 =>
 bif b1 then
  r5 true
 else
  R32 (c32 k code) fun v1 v2 l1 l2 l3 =>
  R33 (c33 k v1 v2 l1 l2 l3) fun b2 b3 =>
  R34 (c34 k v1 v2 l1 l2 l3) fun b4 b5 =>
  bif (!(b3 == b5)) then
   r5 false
  else
   bif (!(b2 == b4)) then
    r5 false
   else
    bif b3 then
     bif b2 then
      R35 (c35 k v1 v2 l1 l2 l3) fun l4 b6 =>
      R36 (c36 k v1 v2 l1 l2) fun l5 b7 =>
      L5_1 k k l4 b6 b7 0 l5 (l5.length : Int) 0 l3 []
     else r5 true
    else r5 true := by kernel_rfl
theorem sL5_1 (k n : Nat) (qr : List PV) (one two : Bool) (classesLen : Nat) (t61 : List PV) (t62 t63 : Int) (l xs : List PV) : L5_1 k (n + 1) qr one two classesLen t61 t62 t63 l xs =
 bif decide (t63 < t62) then
  (lookP t61 t63).bind fun p1 =>
  (p1.atInt .i64 0).bind fun n1 =>
  bif decide (n1 < 0) then
   r5 false
  else
   bif decide (n1 ≥ (l.length : Int)) then
    r5 false
   else
    (lookP l n1).bind fun p2 =>
    (p2.atInt .i64 0).bind fun n2 =>
    R28p (c28 k (xs.take classesLen) n2) fun b1 =>
    bif !b1 then
     (lookP l n1).bind fun p3 =>
     (p3.atInt .i64 0).bind fun n3 =>
     bif decide ((classesLen + 1) * 8 ≤ LIM) && decide (classesLen + 1 ≤ LIM) then
      L5_1 k n qr one two (classesLen + 1) t61 t62 (IntKind.i64.wrap (t63 + 1)) l ((xs.take classesLen) ++ [PV.int .i64 n3])
     else none
    else L5_1 k n qr one two classesLen t61 t62 (IntKind.i64.wrap (t63 + 1)) l xs
 else
  bif one then
   bif two then
    bif ((classesLen : Int) == (qr.length : Int)) then
     R37p (c37 k (xs.take classesLen) qr) fun b2 =>
     r5 b2
    else r5 false
   else r5 false
  else r5 false := by kernel_rfl
/-! 6 : laws.big -/
theorem n6 (k : Nat) (code more : List PV) : c6 (k + 1) code more =
 bif decide ((code.length : Int) > 1048576) then
  r6 true
 else r6 (decide ((more.length : Int) > IntKind.i64.wrap (1048576 - (code.length : Int)))) := by kernel_rfl
/-! 11 : impl.GoodSight -/
theorem n11 (k : Nat) (p p1 : Int) (p2 p3 v : List PV) : c11 (k + 1) p p1 p2 p3 v =
 R45 (c45 k p p1 p2 p3) fun b1 =>
 bif b1 then
  R47 (c47 k p p1 p2 p3) fun v1 =>
  R46 (c46 k v v1) fun b2 =>
  r11 b2
 else r11 false := by kernel_rfl
/-! 12 : spec.GoodSight -/
theorem n12 (k : Nat) (p p1 : Int) (p2 p3 v : List PV) : c12 (k + 1) p p1 p2 p3 v =
 R48 (c48 k p p1 p2 p3) fun b1 =>
 bif !b1 then
  r12 false
 else
  R49 (c49 k p p1 p2 p3) fun v1 =>
  bif ((v.length : Int) != v1) then
   r12 false
  else L12_1 k k 0 v (v.length : Int) 0 := by kernel_rfl
theorem sL12_1 (k n : Nat) (many : Int) (t20 : List PV) (t21 t22 : Int) : L12_1 k (n + 1) many t20 t21 t22 =
 bif decide (t22 < t21) then
  (lookP t20 t22).bind fun p1 =>
  (p1.atInt .i64 0).bind fun n1 =>
  R50 (c50 k n1 0 many) fun b1 =>
  bif !b1 then
   r12 false
  else
   bif (n1 == many) then
    L12_1 k n (IntKind.i64.wrap (many + 1)) t20 t21 (IntKind.i64.wrap (t22 + 1))
   else L12_1 k n many t20 t21 (IntKind.i64.wrap (t22 + 1))
 else r12 true := by kernel_rfl
/-! 23 : spec.SightBy -/
theorem n23 (k : Nat) (p p1 : Int) (p2 p3 preds : List PV) : c23 (k + 1) p p1 p2 p3 preds =
 R48 (c48 k p p1 p2 p3) fun b1 =>
 bif !b1 then
  r23 [] false
 else
  R65 (c65 k p p1 p2 p3 preds) fun b2 =>
  bif !b2 then
   r23 [] false
  else
   R69 (c69 k p p1 p2 p3 preds) fun l1 =>
   r23 (l1.take l1.length) true := by kernel_rfl
/-! 28 : laws.has -/
theorem n28 (k : Nat) (l : List PV) (n1 : Int) : c28 (k + 1) l n1 =
 L28_1 k k n1 l (l.length : Int) 0 := by kernel_rfl
theorem sL28_1 (k n : Nat) (n1 : Int) (t7 : List PV) (t8 t9 : Int) : L28_1 k (n + 1) n1 t7 t8 t9 =
 bif decide (t9 < t8) then
  (lookP t7 t9).bind fun p1 =>
  (p1.atInt .i64 0).bind fun n2 =>
  bif (n2 == n1) then
   r28 true
  else L28_1 k n n1 t7 t8 (IntKind.i64.wrap (t9 + 1))
 else r28 false := by kernel_rfl
/-! 31 : spec.CutOut -/
theorem n31 (k : Nat) (p p1 : Int) (p2 p3 v some1 : List PV) : c31 (k + 1) p p1 p2 p3 v some1 =
 R12 (c12 k p p1 p2 p3 v) fun b1 =>
 bif !b1 then
  r31 [] false
 else
  R76 (c76 k some1 0 (IntKind.i64.wrap ((v.length : Int) - 1))) fun b2 =>
  bif !b2 then
   r31 [] false
  else
   R77 (c77 k v some1) fun l1 =>
   r31 (l1.take l1.length) true := by kernel_rfl
/-! 32 : spec.DrawIsStable -/
theorem n32 (k : Nat) (code : List PV) : c32 (k + 1) code =
 R38 (c38 k code 0 0) fun l1 v1 v2 v3 v4 l2 l3 =>
 R39 (c39 k v3 v4 l2 l3 l1 v1 v2) fun l4 v5 v6 l5 =>
 R12 (c12 k v3 v4 l2 l3 l5) fun b1 =>
 bif b1 then
  R78 (c78 k 3 l4 v5 v6) fun l6 v7 v8 b2 =>
  bif b2 then
   R79 (c79 k (l5.length : Int)) fun l7 =>
   R57 (c57 k l7) fun l8 =>
   r32 v3 v4 l2 l3 (l8.take l8.length)
  else r32 v3 v4 l2 l3 l5
 else r32 v3 v4 l2 l3 l5 := by kernel_rfl
/-! 33 : impl.IsStable -/
theorem n33 (k : Nat) (p p1 : Int) (p2 p3 v : List PV) : c33 (k + 1) p p1 p2 p3 v =
 R11 (c11 k p p1 p2 p3 v) fun b1 =>
 bif !b1 then
  r33 false false
 else
  R52 (c52 k v) fun v1 =>
  L33_1 k k v1 0 p p1 p2 p3 v := by kernel_rfl
theorem sL33_1 (k n : Nat) (t12 t13 n1 n11 : Int) (l l1 l2 : List PV) : L33_1 k (n + 1) t12 t13 n1 n11 l l1 l2 =
 bif decide (t13 < t12) then
  R80 (c80 k n1 n11 l l1 l2 t13) fun l3 =>
  R81 (c81 k n1 n11 l l1 l2 t13) fun l4 =>
  R51p (c51 k l3 (l4.take l4.length)) fun b1 =>
  bif !b1 then
   r33 false true
  else L33_1 k n t12 (IntKind.i64.wrap (t13 + 1)) n1 n11 l l1 l2
 else r33 true true := by kernel_rfl
/-! 34 : spec.IsStable -/
theorem n34 (k : Nat) (p p1 : Int) (p2 p3 v : List PV) : c34 (k + 1) p p1 p2 p3 v =
 R12 (c12 k p p1 p2 p3 v) fun b1 =>
 bif !b1 then
  r34 false false
 else L34_1 k k 0 p p1 p2 p3 v := by kernel_rfl
theorem sL34_1 (k n : Nat) (class1 n1 n11 : Int) (l l1 l2 : List PV) : L34_1 k (n + 1) class1 n1 n11 l l1 l2 =
 R82 (c82 k l2) fun v1 =>
 bif decide (class1 < v1) then
  R84 (c84 k n1 n11 l l1 l2 class1) fun l3 =>
  R85 (c85 k n1 n11 l l1 l2 class1) fun l4 =>
  R83 (c83 k l3 l4) fun b1 =>
  bif !b1 then
   r34 false true
  else L34_1 k n (IntKind.i64.wrap (class1 + 1)) n1 n11 l l1 l2
 else r34 true true := by kernel_rfl
/-! 35 : impl.ClassReach -/
theorem n35 (k : Nat) (p p1 : Int) (p2 p3 v : List PV) : c35 (k + 1) p p1 p2 p3 v =
 R11 (c11 k p p1 p2 p3 v) fun b1 =>
 bif !b1 then
  r35 [] false
 else
  R86 (c86 k p p1 p2 p3 v) fun l1 =>
  r35 l1 true := by kernel_rfl
/-! 36 : impl.ReachOf -/
theorem n36 (k : Nat) (p p1 : Int) (p2 p3 : List PV) : c36 (k + 1) p p1 p2 p3 =
 R45 (c45 k p p1 p2 p3) fun b1 =>
 bif !b1 then
  r36 [] false
 else
  R87 (c87 k p p1 p2 p3) fun l1 =>
  r36 l1 true := by kernel_rfl
/-! 37 : laws.within -/
theorem n37 (k : Nat) (some1 in1 : List PV) : c37 (k + 1) some1 in1 =
 L37_1 k k in1 some1 (some1.length : Int) 0 := by kernel_rfl
theorem sL37_1 (k n : Nat) (in1 t7 : List PV) (t8 t9 : Int) : L37_1 k (n + 1) in1 t7 t8 t9 =
 bif decide (t9 < t8) then
  (lookP t7 t9).bind fun p1 =>
  (p1.atInt .i64 0).bind fun n1 =>
  R28 (c28 k in1 n1) fun b1 =>
  bif !b1 then
   r37 false
  else L37_1 k n in1 t7 t8 (IntKind.i64.wrap (t9 + 1))
 else r37 true := by kernel_rfl
/-! 38 : spec.l1Cur).small -/
theorem n38 (k : Nat) (l : List PV) (n1 n11 : Int) : c38 (k + 1) l n1 n11 =
 R88 (c88 k [PV.int .i64 1, PV.int .i64 2, PV.int .i64 2, PV.int .i64 2, PV.int .i64 3, PV.int .i64 4] l n1 n11) fun l1 v1 v2 v3 =>
 bif decide (v3 < 3) then
  bif !(v3 == 0) then
   R89 (c89 k (IntKind.i64.wrap ((6 : Int).tdiv v3)) l1 v1 v2) fun l2 v4 v5 v6 =>
   L38_1 k k v3 (IntKind.i64.wrap (1 + v6)) l2 v4 v5 0 0 [] []
  else none
 else L38_1 k k v3 1 l1 v1 v2 0 0 [] [] := by kernel_rfl
theorem sL38_1 (k n : Nat) (wide vars : Int) (l : List PV) (n1 n11 n12 n13 : Int) (l1 l2 : List PV) : L38_1 k (n + 1) wide vars l n1 n11 n12 n13 l1 l2 =
 bif decide (IntKind.i64.wrap (wide * vars) > 5) then
  L38_1 k n wide (IntKind.i64.wrap (vars - 1)) l n1 n11 n12 n13 l1 l2
 else
  bif decide (vars > 4) then
   L38_1 k n wide (IntKind.i64.wrap (vars - 1)) l n1 n11 n12 n13 l1 l2
  else
   R90 (c90 k wide vars l n1 n11) fun l3 v1 v2 v3 v4 l4 l5 =>
   R89 (c89 k 40 l3 v1 v2) fun l6 v5 v6 v7 =>
   bif (v7 == 0) then
    R88 (c88 k [PV.int .i64 0, PV.int .i64 4, PV.int .i64 5] l6 v5 v6) fun l7 v8 v9 v10 =>
    r38 l7 v8 v9 v3 v10 l4 (l5.take l5.length)
   else
    bif (v7 == 1) then
     r38 l6 v5 v6 v3 v4 l4 []
    else
     bif (v7 == 2) then
      bif decide ((0 : Int) < (l5.length : Int)) then
       (l5[0]?).bind fun p1 =>
       (putPart p1 2 0 (PV.row 2 0 [PV.agg [.int .i64 1, .int .u64 0]]) 0).bind fun p2 =>
       r38 l6 v5 v6 v3 v4 l4 ((l5.set 0 p2).take l5.length)
      else none
     else
      bif (v7 == 3) then
       bif decide ((0 : Int) < (l5.length : Int)) then
        (l5[0]?).bind fun p3 =>
        (p3.atRow 2 1).bind fun l8 =>
        bif decide ((l8.length + 1) * 32 ≤ LIM) && decide (l8.length + 1 ≤ LIM) then
         bif decide ((0 : Int) < (l5.length : Int)) then
          (l5[0]?).bind fun p4 =>
          bif decide (l8.length + 1 ≤ (l8 ++ [PV.agg [.int .i64 0, .row 2 0 [PV.agg [.int .i64 1, .int .u64 0]]]]).length) then
           (putPart p4 2 1 (PV.row 2 0 ((l8 ++ [PV.agg [.int .i64 0, .row 2 0 [PV.agg [.int .i64 1, .int .u64 0]]]]).take (l8.length + 1))) 0).bind fun p5 =>
           r38 l6 v5 v6 v3 v4 l4 ((l5.set 0 p5).take l5.length)
          else none
         else none
        else none
       else none
      else r38 l6 v5 v6 v3 v4 l4 (l5.take l5.length) := by kernel_rfl
/-! 39 : spec.l1Cur).sight -/
theorem n39 (k : Nat) (p p1 : Int) (p2 p3 l : List PV) (n1 n11 : Int) : c39 (k + 1) p p1 p2 p3 l n1 n11 =
 R59 (c59 k p p1 p2 p3 3 l n1 n11) fun l1 v1 v2 l2 =>
 R23 (c23 k p p1 p2 p3 l2) fun l3 b1 =>
 R78 (c78 k 3 l1 v1 v2) fun l4 v3 v4 b2 =>
 bif b2 then
  R73 (c73 k 4 3 l4 v3 v4) fun l5 v5 v6 l6 =>
  R31p (c31 k p p1 p2 p3 (l3.take l3.length) l6) fun l7 b3 =>
  bif b3 then
   R89 (c89 k 40 l5 v5 v6) fun l8 v7 v8 v9 =>
   bif (v9 == 0) then
    bif decide ((l7.length + 1) * 8 ≤ LIM) && decide (l7.length + 1 ≤ LIM) then
     r39 l8 v7 v8 (((l7.take l7.length) ++ [PV.int .i64 0]).take (l7.length + 1))
    else none
   else
    bif (v9 == 1) then
     bif decide ((l7.length : Int) > 0) then
      bif decide ((0 : Int) ≤ IntKind.i64.wrap ((l7.length : Int) - 1)) && decide (IntKind.i64.wrap ((l7.length : Int) - 1) < (l7.length : Int)) then
       (l7[0 + ((IntKind.i64.wrap ((l7.length : Int) - 1)).toNat)]?).bind fun p4 =>
       r39 l8 v7 v8 ((l7.set (0 + ((IntKind.i64.wrap ((l7.length : Int) - 1)).toNat)) (PV.int .i64 (l7.length : Int))).take l7.length)
      else none
     else r39 l8 v7 v8 (l7.take l7.length)
    else r39 l8 v7 v8 (l7.take l7.length)
  else
   R89 (c89 k 40 l5 v5 v6) fun l9 v10 v11 v12 =>
   bif (v12 == 0) then
    bif decide ((l3.length + 1) * 8 ≤ LIM) && decide (l3.length + 1 ≤ LIM) then
     r39 l9 v10 v11 (((l3.take l3.length) ++ [PV.int .i64 0]).take (l3.length + 1))
    else none
   else
    bif (v12 == 1) then
     bif decide ((l3.length : Int) > 0) then
      bif decide ((0 : Int) ≤ IntKind.i64.wrap ((l3.length : Int) - 1)) && decide (IntKind.i64.wrap ((l3.length : Int) - 1) < (l3.length : Int)) then
       (l3[0 + ((IntKind.i64.wrap ((l3.length : Int) - 1)).toNat)]?).bind fun p5 =>
       r39 l9 v10 v11 ((l3.set (0 + ((IntKind.i64.wrap ((l3.length : Int) - 1)).toNat)) (PV.int .i64 (l3.length : Int))).take l3.length)
      else none
     else r39 l9 v10 v11 (l3.take l3.length)
    else r39 l9 v10 v11 (l3.take l3.length)
 else
  R89 (c89 k 40 l4 v3 v4) fun l10 v13 v14 v15 =>
  bif (v15 == 0) then
   bif decide ((l3.length + 1) * 8 ≤ LIM) && decide (l3.length + 1 ≤ LIM) then
    r39 l10 v13 v14 (((l3.take l3.length) ++ [PV.int .i64 0]).take (l3.length + 1))
   else none
  else
   bif (v15 == 1) then
    bif decide ((l3.length : Int) > 0) then
     bif decide ((0 : Int) ≤ IntKind.i64.wrap ((l3.length : Int) - 1)) && decide (IntKind.i64.wrap ((l3.length : Int) - 1) < (l3.length : Int)) then
      (l3[0 + ((IntKind.i64.wrap ((l3.length : Int) - 1)).toNat)]?).bind fun p6 =>
      r39 l10 v13 v14 ((l3.set (0 + ((IntKind.i64.wrap ((l3.length : Int) - 1)).toNat)) (PV.int .i64 (l3.length : Int))).take l3.length)
     else none
    else r39 l10 v13 v14 (l3.take l3.length)
   else r39 l10 v13 v14 (l3.take l3.length) := by kernel_rfl
/-! 40 : spec.l1Cur).asked -/
theorem n40 (k : Nat) (wide vars deep : Int) (l : List PV) (n1 n11 : Int) : c40 (k + 1) wide vars deep l n1 n11 =
 R78 (c78 k 20 l n1 n11) fun l1 v1 v2 b1 =>
 bif b1 then
  R89 (c89 k 2 l1 v1 v2) fun l2 v3 v4 v5 =>
  r40 l2 v3 v4 [PV.agg [.int .i64 20, .int .u64 (IntKind.u64.wrap v5)]]
 else
  bif decide (deep > 0) then
   R78 (c78 k 4 l1 v1 v2) fun l3 v6 v7 b2 =>
   bif b2 then
    R40 (c40 k wide vars (IntKind.i64.wrap (deep - 1)) l3 v6 v7) fun l4 v8 v9 l5 =>
    bif decide ((l5.length + 1) * 16 ≤ LIM) && decide (l5.length + 1 ≤ LIM) then
     r40 l4 v8 v9 (((l5.take l5.length) ++ [PV.agg [.int .i64 19, .int .u64 0]]).take (l5.length + 1))
    else none
   else
    bif decide (deep > 0) then
     R78 (c78 k 2 l3 v6 v7) fun l6 v10 v11 b3 =>
     bif b3 then
      R40 (c40 k wide vars (IntKind.i64.wrap (deep - 1)) l6 v10 v11) fun l7 v12 v13 l8 =>
      R40 (c40 k wide vars (IntKind.i64.wrap (deep - 1)) l7 v12 v13) fun l9 v14 v15 l10 =>
      bif decide ((l8.length + ((l10.take l10.length).length)) * 16 ≤ LIM) && decide (l8.length + ((l10.take l10.length).length) ≤ LIM) then
       R88 (c88 k [PV.int .i64 17, PV.int .i64 18] l9 v14 v15) fun l11 v16 v17 v18 =>
       bif decide (((l8.length + ((l10.take l10.length).length)) + 1) * 16 ≤ LIM) && decide ((l8.length + ((l10.take l10.length).length)) + 1 ≤ LIM) then
        r40 l11 v16 v17 (((((l8.take l8.length) ++ (l10.take l10.length)).take (l8.length + ((l10.take l10.length).length))) ++ [PV.agg [.int .i64 v18, .int .u64 0]]).take ((l8.length + ((l10.take l10.length).length)) + 1))
       else none
      else none
     else
      R91 (c91 k wide vars 1 l6 v10 v11) fun l12 v19 v20 l13 =>
      R89 (c89 k 2 l12 v19 v20) fun l14 v21 v22 v23 =>
      R91 (c91 k wide vars v23 l14 v21 v22) fun l15 v24 v25 l16 =>
      bif decide ((l13.length + ((l16.take l16.length).length)) * 16 ≤ LIM) && decide (l13.length + ((l16.take l16.length).length) ≤ LIM) then
       R88 (c88 k [PV.int .i64 14, PV.int .i64 15, PV.int .i64 15, PV.int .i64 16] l15 v24 v25) fun l17 v26 v27 v28 =>
       bif decide (((l13.length + ((l16.take l16.length).length)) + 1) * 16 ≤ LIM) && decide ((l13.length + ((l16.take l16.length).length)) + 1 ≤ LIM) then
        r40 l17 v26 v27 (((((l13.take l13.length) ++ (l16.take l16.length)).take (l13.length + ((l16.take l16.length).length))) ++ [PV.agg [.int .i64 v28, .int .u64 0]]).take ((l13.length + ((l16.take l16.length).length)) + 1))
       else none
      else none
    else
     R91 (c91 k wide vars 1 l3 v6 v7) fun l18 v29 v30 l19 =>
     R89 (c89 k 2 l18 v29 v30) fun l20 v31 v32 v33 =>
     R91 (c91 k wide vars v33 l20 v31 v32) fun l21 v34 v35 l22 =>
     bif decide ((l19.length + ((l22.take l22.length).length)) * 16 ≤ LIM) && decide (l19.length + ((l22.take l22.length).length) ≤ LIM) then
      R88 (c88 k [PV.int .i64 14, PV.int .i64 15, PV.int .i64 15, PV.int .i64 16] l21 v34 v35) fun l23 v36 v37 v38 =>
      bif decide (((l19.length + ((l22.take l22.length).length)) + 1) * 16 ≤ LIM) && decide ((l19.length + ((l22.take l22.length).length)) + 1 ≤ LIM) then
       r40 l23 v36 v37 (((((l19.take l19.length) ++ (l22.take l22.length)).take (l19.length + ((l22.take l22.length).length))) ++ [PV.agg [.int .i64 v38, .int .u64 0]]).take ((l19.length + ((l22.take l22.length).length)) + 1))
      else none
     else none
  else
   bif decide (deep > 0) then
    R78 (c78 k 2 l1 v1 v2) fun l24 v39 v40 b4 =>
    bif b4 then
     R40 (c40 k wide vars (IntKind.i64.wrap (deep - 1)) l24 v39 v40) fun l25 v41 v42 l26 =>
     R40 (c40 k wide vars (IntKind.i64.wrap (deep - 1)) l25 v41 v42) fun l27 v43 v44 l28 =>
     bif decide ((l26.length + ((l28.take l28.length).length)) * 16 ≤ LIM) && decide (l26.length + ((l28.take l28.length).length) ≤ LIM) then
      R88 (c88 k [PV.int .i64 17, PV.int .i64 18] l27 v43 v44) fun l29 v45 v46 v47 =>
      bif decide (((l26.length + ((l28.take l28.length).length)) + 1) * 16 ≤ LIM) && decide ((l26.length + ((l28.take l28.length).length)) + 1 ≤ LIM) then
       r40 l29 v45 v46 (((((l26.take l26.length) ++ (l28.take l28.length)).take (l26.length + ((l28.take l28.length).length))) ++ [PV.agg [.int .i64 v47, .int .u64 0]]).take ((l26.length + ((l28.take l28.length).length)) + 1))
      else none
     else none
    else
     R91 (c91 k wide vars 1 l24 v39 v40) fun l30 v48 v49 l31 =>
     R89 (c89 k 2 l30 v48 v49) fun l32 v50 v51 v52 =>
     R91 (c91 k wide vars v52 l32 v50 v51) fun l33 v53 v54 l34 =>
     bif decide ((l31.length + ((l34.take l34.length).length)) * 16 ≤ LIM) && decide (l31.length + ((l34.take l34.length).length) ≤ LIM) then
      R88 (c88 k [PV.int .i64 14, PV.int .i64 15, PV.int .i64 15, PV.int .i64 16] l33 v53 v54) fun l35 v55 v56 v57 =>
      bif decide (((l31.length + ((l34.take l34.length).length)) + 1) * 16 ≤ LIM) && decide ((l31.length + ((l34.take l34.length).length)) + 1 ≤ LIM) then
       r40 l35 v55 v56 (((((l31.take l31.length) ++ (l34.take l34.length)).take (l31.length + ((l34.take l34.length).length))) ++ [PV.agg [.int .i64 v57, .int .u64 0]]).take ((l31.length + ((l34.take l34.length).length)) + 1))
      else none
     else none
   else
    R91 (c91 k wide vars 1 l1 v1 v2) fun l36 v58 v59 l37 =>
    R89 (c89 k 2 l36 v58 v59) fun l38 v60 v61 v62 =>
    R91 (c91 k wide vars v62 l38 v60 v61) fun l39 v63 v64 l40 =>
    bif decide ((l37.length + ((l40.take l40.length).length)) * 16 ≤ LIM) && decide (l37.length + ((l40.take l40.length).length) ≤ LIM) then
     R88 (c88 k [PV.int .i64 14, PV.int .i64 15, PV.int .i64 15, PV.int .i64 16] l39 v63 v64) fun l41 v65 v66 v67 =>
     bif decide (((l37.length + ((l40.take l40.length).length)) + 1) * 16 ≤ LIM) && decide ((l37.length + ((l40.take l40.length).length)) + 1 ≤ LIM) then
      r40 l41 v65 v66 (((((l37.take l37.length) ++ (l40.take l40.length)).take (l37.length + ((l40.take l40.length).length))) ++ [PV.agg [.int .i64 v67, .int .u64 0]]).take ((l37.length + ((l40.take l40.length).length)) + 1))
     else none
    else none := by kernel_rfl
/-! 41 : spec.l2One -/
theorem n41 (k : Nat) (n1 : Int) : c41 (k + 1) n1 =
 bif decide (n1 < 1) then
  r41 1
 else r41 n1 := by kernel_rfl
/-! 43 : spec.l7Asks -/
theorem n43 (k : Nat) (p p1 : Int) (p2 p3 t : List PV) : c43 (k + 1) p p1 p2 p3 t =
 R92 (c92 k p p1 t) fun v1 =>
 r43 (v1 == 2) := by kernel_rfl
/-! 44 : spec.l15Split -/
theorem n44 (k : Nat) (p p1 : Int) (p2 p3 v t : List PV) : c44 (k + 1) p p1 p2 p3 v t =
 R93 (c93 k p p1 p2 p3 t) fun l1 =>
 R77 (c77 k v l1) fun l2 =>
 r44 (l2.take l2.length) := by kernel_rfl
/-! 45 : impl.isSmall -/
theorem n45 (k : Nat) (p p1 : Int) (p2 p3 : List PV) : c45 (k + 1) p p1 p2 p3 =
 R94 (c94 k p p1 p2 p3) fun b1 =>
 bif b1 then
  r45 (decide (IntKind.i64.wrap (p * p1) ≤ 5))
 else r45 false := by kernel_rfl
/-! 46 : impl.isSight -/
theorem n46 (k : Nat) (v : List PV) (states : Int) : c46 (k + 1) v states =
 L46_1 k k states 0 v (v.length : Int) 0 v := by kernel_rfl
theorem sL46_1 (k n : Nat) (states classes : Int) (t9 : List PV) (t10 t11 : Int) (l : List PV) : L46_1 k (n + 1) states classes t9 t10 t11 l =
 bif decide (t11 < t10) then
  (lookP t9 t11).bind fun p1 =>
  (p1.atInt .i64 0).bind fun n1 =>
  bif decide (n1 < 0) then
   r46 false
  else
   bif decide (n1 > classes) then
    r46 false
   else
    bif (n1 == classes) then
     L46_1 k n states (IntKind.i64.wrap (classes + 1)) t9 t10 (IntKind.i64.wrap (t11 + 1)) l
    else L46_1 k n states classes t9 t10 (IntKind.i64.wrap (t11 + 1)) l
 else r46 ((l.length : Int) == states) := by kernel_rfl
/-! 47 : impl.Program).states -/
theorem n47 (k : Nat) (p p1 : Int) (p2 p3 : List PV) : c47 (k + 1) p p1 p2 p3 =
 bif !decide (IntKind.i64.wrap (p * p1) < 0) then
  r47 (shlI .i64 1 (IntKind.i64.wrap (p * p1)))
 else none := by kernel_rfl
/-! 48 : spec.l7Small -/
theorem n48 (k : Nat) (p p1 : Int) (p2 p3 : List PV) : c48 (k + 1) p p1 p2 p3 =
 R95 (c95 k p p1 p2 p3) fun b1 =>
 bif b1 then
  r48 (decide (IntKind.i64.wrap (p * p1) ≤ 5))
 else r48 false := by kernel_rfl
/-! 49 : spec.l7Many -/
theorem n49 (k : Nat) (p p1 : Int) (p2 p3 : List PV) : c49 (k + 1) p p1 p2 p3 =
 bif !decide (IntKind.u64.wrap (IntKind.i64.wrap (p * p1)) < 0) then
  r49 (shlI .i64 1 (IntKind.u64.wrap (IntKind.i64.wrap (p * p1))))
 else none := by kernel_rfl
/-! 50 : spec.l1In -/
theorem n50 (k : Nat) (n1 lo hi : Int) : c50 (k + 1) n1 lo hi =
 bif decide (n1 ≥ lo) then
  r50 (decide (n1 ≤ hi))
 else r50 false := by kernel_rfl
/-! 51 : slices.Equal[[]int,int] -/
theorem n51 (k : Nat) (qs1 qs2 : List PV) : c51 (k + 1) qs1 qs2 =
 bif ((qs1.length : Int) != (qs2.length : Int)) then
  r51 false
 else L51_1 k k qs1 qs2 (qs1.length : Int) 0 := by kernel_rfl
theorem sL51_1 (k n : Nat) (qs1 qs2 : List PV) (t12 t13 : Int) : L51_1 k (n + 1) qs1 qs2 t12 t13 =
 bif decide (t13 < t12) then
  (lookP qs1 t13).bind fun p1 =>
  (p1.atInt .i64 0).bind fun n1 =>
  (lookP qs2 t13).bind fun p2 =>
  (p2.atInt .i64 0).bind fun n2 =>
  bif (n1 != n2) then
   r51 false
  else L51_1 k n qs1 qs2 t12 (IntKind.i64.wrap (t13 + 1))
 else r51 true := by kernel_rfl
/-! 52 : impl.Sight).classes -/
theorem n52 (k : Nat) (v : List PV) : c52 (k + 1) v =
 R96 (c96 k v) fun v1 =>
 r52 (IntKind.i64.wrap (v1 + 1)) := by kernel_rfl
/-! 54 : impl.Program).stateOf -/
theorem n54 (k : Nat) (p p1 : Int) (p2 p3 : List PV) (no : Int) : c54 (k + 1) p p1 p2 p3 no =
 L54_1 k k no 0 p1 0 p p1 p2 p3 [] := by kernel_rfl
theorem sL54_1 (k n : Nat) (no : Int) (outLen : Nat) (t9 t10 n1 n11 : Int) (l l1 xs : List PV) : L54_1 k (n + 1) no outLen t9 t10 n1 n11 l l1 xs =
 bif decide (t10 < t9) then
  bif !decide (IntKind.i64.wrap (n1 * t10) < 0) then
   R99 (c99 k n1) fun v1 =>
   bif decide ((outLen + 1) * 8 ≤ LIM) && decide (outLen + 1 ≤ LIM) then
    L54_1 k n no (outLen + 1) t9 (IntKind.i64.wrap (t10 + 1)) n1 n11 l l1 ((xs.take outLen) ++ [PV.int .u64 (bitsOp .and .u64 (shrI .u64 (IntKind.u64.wrap no) (IntKind.i64.wrap (n1 * t10))) v1)])
   else none
  else none
 else r54 (xs.take outLen) := by kernel_rfl
end Go.Proofs.YtfinhnimlmkooaaGreat
/- Normal forms: printed by nf.py. -/
set_option linter.unusedVariables false
set_option maxRecDepth 100000
namespace Go.Proofs.YtfinhnimlmkooaaGreat
open Go.Dp
/-! 55 : impl.valueOf -/
theorem n55 (k : Nat) (wide : Int) (t state : List PV) : c55 (k + 1) wide t state =
 L55_1 k k wide state 0 t (t.length : Int) 0 [] := by kernel_rfl
theorem sL55_1 (k n : Nat) (wide : Int) (state : List PV) (stackLen : Nat) (t12 : List PV) (t13 t14 : Int) (xs : List PV) : L55_1 k (n + 1) wide state stackLen t12 t13 t14 xs =
 bif decide (t14 < t13) then
  (lookP t12 t14).bind fun p1 =>
  bif p1.shp 2 then
   (p1.atInt .i64 0).bind fun n1 =>
   (p1.atInt .u64 1).bind fun n2 =>
   bif (n1 == 1) then
    bif decide ((stackLen + 1) * 8 ≤ LIM) && decide (stackLen + 1 ≤ LIM) then
     L55_1 k n wide state (stackLen + 1) t12 t13 (IntKind.i64.wrap (t14 + 1)) ((xs.take stackLen) ++ [PV.int .u64 n2])
    else none
   else
    bif (n1 == 20) then
     bif decide ((stackLen + 1) * 8 ≤ LIM) && decide (stackLen + 1 ≤ LIM) then
      L55_1 k n wide state (stackLen + 1) t12 t13 (IntKind.i64.wrap (t14 + 1)) ((xs.take stackLen) ++ [PV.int .u64 n2])
     else none
    else
     bif (n1 == 2) then
      (lookP state n2).bind fun p2 =>
      (p2.atInt .u64 0).bind fun n3 =>
      bif decide ((stackLen + 1) * 8 ≤ LIM) && decide (stackLen + 1 ≤ LIM) then
       L55_1 k n wide state (stackLen + 1) t12 t13 (IntKind.i64.wrap (t14 + 1)) ((xs.take stackLen) ++ [PV.int .u64 n3])
      else none
     else
      bif (n1 == 13) then
       bif decide ((0 : Int) ≤ IntKind.i64.wrap ((stackLen : Int) - 1)) && decide (IntKind.i64.wrap ((stackLen : Int) - 1) < (stackLen : Int)) then
        (xs[0 + ((IntKind.i64.wrap ((stackLen : Int) - 1)).toNat)]?).bind fun p3 =>
        (p3.atInt .u64 0).bind fun n4 =>
        R99 (c99 k wide) fun v1 =>
        bif decide ((0 : Int) ≤ IntKind.i64.wrap ((stackLen : Int) - 1)) && decide (IntKind.i64.wrap ((stackLen : Int) - 1) < (stackLen : Int)) then
         (xs[0 + ((IntKind.i64.wrap ((stackLen : Int) - 1)).toNat)]?).bind fun p4 =>
         L55_1 k n wide state stackLen t12 t13 (IntKind.i64.wrap (t14 + 1)) (xs.set (0 + ((IntKind.i64.wrap ((stackLen : Int) - 1)).toNat)) (PV.int .u64 (bitsOp .and .u64 (bitsOp .xor .u64 18446744073709551615 n4) v1)))
        else none
       else none
      else
       bif (n1 == 19) then
        bif decide ((0 : Int) ≤ IntKind.i64.wrap ((stackLen : Int) - 1)) && decide (IntKind.i64.wrap ((stackLen : Int) - 1) < (stackLen : Int)) then
         (xs[0 + ((IntKind.i64.wrap ((stackLen : Int) - 1)).toNat)]?).bind fun p5 =>
         (p5.atInt .u64 0).bind fun n5 =>
         bif decide ((0 : Int) ≤ IntKind.i64.wrap ((stackLen : Int) - 1)) && decide (IntKind.i64.wrap ((stackLen : Int) - 1) < (stackLen : Int)) then
          (xs[0 + ((IntKind.i64.wrap ((stackLen : Int) - 1)).toNat)]?).bind fun p6 =>
          L55_1 k n wide state stackLen t12 t13 (IntKind.i64.wrap (t14 + 1)) (xs.set (0 + ((IntKind.i64.wrap ((stackLen : Int) - 1)).toNat)) (PV.int .u64 (IntKind.u64.wrap (1 - n5))))
         else none
        else none
       else
        bif decide ((0 : Int) ≤ IntKind.i64.wrap ((IntKind.i64.wrap ((stackLen : Int) - 1)) - 1)) && decide (IntKind.i64.wrap ((IntKind.i64.wrap ((stackLen : Int) - 1)) - 1) ≤ (stackLen : Int)) then
         bif decide ((0 : Int) ≤ IntKind.i64.wrap ((IntKind.i64.wrap ((stackLen : Int) - 1)) - 1)) && decide (IntKind.i64.wrap ((IntKind.i64.wrap ((stackLen : Int) - 1)) - 1) < (stackLen : Int)) then
          (xs[0 + ((IntKind.i64.wrap ((IntKind.i64.wrap ((stackLen : Int) - 1)) - 1)).toNat)]?).bind fun p7 =>
          (p7.atInt .u64 0).bind fun n6 =>
          bif decide ((0 : Int) ≤ IntKind.i64.wrap ((stackLen : Int) - 1)) && decide (IntKind.i64.wrap ((stackLen : Int) - 1) < (stackLen : Int)) then
           (xs[0 + ((IntKind.i64.wrap ((stackLen : Int) - 1)).toNat)]?).bind fun p8 =>
           (p8.atInt .u64 0).bind fun n7 =>
           R100 (c100 k wide n1 n6 n7) fun v2 =>
           bif decide ((((IntKind.i64.wrap ((IntKind.i64.wrap ((stackLen : Int) - 1)) - 1)).toNat) + 1) * 8 ≤ LIM) && decide (((IntKind.i64.wrap ((IntKind.i64.wrap ((stackLen : Int) - 1)) - 1)).toNat) + 1 ≤ LIM) then
            L55_1 k n wide state (((IntKind.i64.wrap ((IntKind.i64.wrap ((stackLen : Int) - 1)) - 1)).toNat) + 1) t12 t13 (IntKind.i64.wrap (t14 + 1)) ((xs.take ((IntKind.i64.wrap ((IntKind.i64.wrap ((stackLen : Int) - 1)) - 1)).toNat)) ++ [PV.int .u64 v2])
           else none
          else none
         else none
        else none
  else none
 else
  bif decide ((0 : Int) < (stackLen : Int)) then
   (xs[0]?).bind fun p9 =>
   (p9.atInt .u64 0).bind fun n8 =>
   r55 n8
  else none := by kernel_rfl
/-! 57 : spec.l15Of -/
theorem n57 (k : Nat) (keys : List PV) : c57 (k + 1) keys =
 L57_1 k k keys 0 keys (keys.length : Int) 0 0 0 [] [] := by kernel_rfl
theorem sL57_1 (k n : Nat) (keys : List PV) (many : Int) (t9 : List PV) (t10 t11 : Int) (Len Len1 : Nat) (xs xs1 : List PV) : L57_1 k (n + 1) keys many t9 t10 t11 Len Len1 xs xs1 =
 bif decide (t11 < t10) then
  (lookP t9 t11).bind fun p1 =>
  (p1.atInt .i64 0).bind fun n1 =>
  L57_2 k n k keys many t11 n1 many 0 t9 t10 t11 Len Len1 xs xs1
 else r57 (xs1.take Len1) := by kernel_rfl
theorem sL57_2 (k n1 n : Nat) (keys : List PV) (many i key class1 j : Int) (t9 : List PV) (t10 t11 : Int) (Len Len1 : Nat) (xs xs1 : List PV) : L57_2 k n1 (n + 1) keys many i key class1 j t9 t10 t11 Len Len1 xs xs1 =
 bif decide (j < i) then
  (lookP keys j).bind fun p1 =>
  (p1.atInt .i64 0).bind fun n2 =>
  bif (n2 == key) then
   bif decide ((0 : Int) ≤ j) && decide (j < (Len1 : Int)) then
    (xs1[0 + j.toNat]?).bind fun p2 =>
    (p2.atInt .i64 0).bind fun n3 =>
    bif (n3 == many) then
     bif decide ((Len1 + 1) * 8 ≤ LIM) && decide (Len1 + 1 ≤ LIM) then
      L57_1 k n1 keys (IntKind.i64.wrap (many + 1)) t9 t10 (IntKind.i64.wrap (t11 + 1)) Len (Len1 + 1) xs ((xs1.take Len1) ++ [PV.int .i64 n3])
     else none
    else
     bif decide ((Len1 + 1) * 8 ≤ LIM) && decide (Len1 + 1 ≤ LIM) then
      L57_1 k n1 keys many t9 t10 (IntKind.i64.wrap (t11 + 1)) Len (Len1 + 1) xs ((xs1.take Len1) ++ [PV.int .i64 n3])
     else none
   else none
  else L57_2 k n1 n keys many i key class1 (IntKind.i64.wrap (j + 1)) t9 t10 t11 Len Len1 xs xs1
 else
  bif (class1 == many) then
   bif decide ((Len1 + 1) * 8 ≤ LIM) && decide (Len1 + 1 ≤ LIM) then
    L57_1 k n1 keys (IntKind.i64.wrap (many + 1)) t9 t10 (IntKind.i64.wrap (t11 + 1)) Len (Len1 + 1) xs ((xs1.take Len1) ++ [PV.int .i64 class1])
   else none
  else
   bif decide ((Len1 + 1) * 8 ≤ LIM) && decide (Len1 + 1 ≤ LIM) then
    L57_1 k n1 keys many t9 t10 (IntKind.i64.wrap (t11 + 1)) Len (Len1 + 1) xs ((xs1.take Len1) ++ [PV.int .i64 class1])
   else none := by kernel_rfl
/-! 59 : spec.l1Cur).preds -/
theorem n59 (k : Nat) (p p1 : Int) (p2 p3 : List PV) (most : Int) (l : List PV) (n1 n11 : Int) : c59 (k + 1) p p1 p2 p3 most l n1 n11 =
 R89 (c89 k (IntKind.i64.wrap (most + 1)) l n1 n11) fun l1 v1 v2 v3 =>
 L59_1 k k 0 v3 l1 v1 v2 p p1 p2 p3 [] := by kernel_rfl
theorem sL59_1 (k n : Nat) (lLen : Nat) (n1 : Int) (l : List PV) (n11 n12 n13 n14 : Int) (l1 l2 xs : List PV) : L59_1 k (n + 1) lLen n1 l n11 n12 n13 n14 l1 l2 xs =
 bif decide (n1 > 0) then
  R41 (c41 k n13) fun v1 =>
  R41 (c41 k n14) fun v2 =>
  R89 (c89 k 2 l n11 n12) fun l3 v3 v4 v5 =>
  R40 (c40 k v1 v2 v5 l3 v3 v4) fun l4 v6 v7 l5 =>
  bif decide ((lLen + 1) * 24 ≤ LIM) && decide (lLen + 1 ≤ LIM) then
   L59_1 k n (lLen + 1) (IntKind.i64.wrap (n1 - 1)) l4 v6 v7 n13 n14 l1 l2 ((xs.take lLen) ++ [PV.row 2 0 (l5.take l5.length)])
  else none
 else r59 l n11 n12 (xs.take lLen) := by kernel_rfl
/-! 62 : impl.Program).holds -/
theorem n62 (k : Nat) (p p1 : Int) (p2 p3 t qs : List PV) : c62 (k + 1) p p1 p2 p3 t qs =
 R55 (c55 k p t qs) fun v1 =>
 r62 (v1 == 1) := by kernel_rfl
/-! 65 : spec.l15Preds -/
theorem n65 (k : Nat) (p p1 : Int) (p2 p3 preds : List PV) : c65 (k + 1) p p1 p2 p3 preds =
 bif decide ((preds.length : Int) > 8) then
  r65 false
 else L65_1 k k preds (preds.length : Int) 0 p p1 p2 p3 := by kernel_rfl
theorem sL65_1 (k n : Nat) (t10 : List PV) (t11 t12 n1 n11 : Int) (l l1 : List PV) : L65_1 k (n + 1) t10 t11 t12 n1 n11 l l1 =
 bif decide (t12 < t11) then
  (lookP t10 t12).bind fun p1 =>
  (p1.atRow 2 0).bind fun l2 =>
  R43 (c43 k n1 n11 l l1 l2) fun b1 =>
  bif !b1 then
   r65 false
  else L65_1 k n t10 t11 (IntKind.i64.wrap (t12 + 1)) n1 n11 l l1
 else r65 true := by kernel_rfl
/-! 66 : spec.l7Holds -/
theorem n66 (k : Nat) (p p1 : Int) (p2 p3 t qs : List PV) : c66 (k + 1) p p1 p2 p3 t qs =
 R103 (c103 k p t (IntKind.i64.wrap ((t.length : Int) - 1)) qs) fun v1 =>
 r66 (v1 == 1) := by kernel_rfl
/-! 67 : spec.l7Of -/
theorem n67 (k : Nat) (p p1 : Int) (p2 p3 : List PV) (no : Int) : c67 (k + 1) p p1 p2 p3 no =
 L67_1 k k no 0 0 p p1 p2 p3 [] := by kernel_rfl
theorem sL67_1 (k n : Nat) (no : Int) (outLen : Nat) (v n1 n11 : Int) (l l1 xs : List PV) : L67_1 k (n + 1) no outLen v n1 n11 l l1 xs =
 bif decide (v < n11) then
  bif !decide (IntKind.u64.wrap (IntKind.i64.wrap (v * n1)) < 0) then
   bif !decide (IntKind.u64.wrap n1 < 0) then
    bif decide ((outLen + 1) * 8 ≤ LIM) && decide (outLen + 1 ≤ LIM) then
     L67_1 k n no (outLen + 1) (IntKind.i64.wrap (v + 1)) n1 n11 l l1 ((xs.take outLen) ++ [PV.int .u64 (IntKind.u64.wrap (bitsOp .and .i64 (shrI .i64 no (IntKind.u64.wrap (IntKind.i64.wrap (v * n1)))) (IntKind.i64.wrap ((shlI .i64 1 (IntKind.u64.wrap n1)) - 1))))])
    else none
   else none
  else none
 else r67 (xs.take outLen) := by kernel_rfl
/-! 69 : spec.l15By -/
theorem n69 (k : Nat) (p p1 : Int) (p2 p3 preds : List PV) : c69 (k + 1) p p1 p2 p3 preds =
 R49 (c49 k p p1 p2 p3) fun v1 =>
 bif (v1 == v1) && decide ((0 : Int) ≤ v1) && decide (v1.toNat * 8 ≤ LIM) && decide (v1.toNat ≤ LIM) then
  L69_1 k k preds (preds.length : Int) 0 p p1 p2 p3 [] v1.toNat (List.replicate v1.toNat (PV.int .i64 0))
 else none := by kernel_rfl
theorem sL69_1 (k n : Nat) (t12 : List PV) (t13 t14 n1 n11 : Int) (l l1 l2 : List PV) (Len : Nat) (xs : List PV) : L69_1 k (n + 1) t12 t13 t14 n1 n11 l l1 l2 Len xs =
 bif decide (t14 < t13) then
  (lookP t12 t14).bind fun p1 =>
  (p1.atRow 2 0).bind fun l3 =>
  R44p (c44 k n1 n11 l l1 (xs.take Len) l3) fun l4 =>
  L69_1 k n t12 t13 (IntKind.i64.wrap (t14 + 1)) n1 n11 l l1 l2 l4.length l4
 else r69 (xs.take Len) := by kernel_rfl
/-! 71 : impl.Sight).statesIn -/
theorem n71 (k : Nat) (v : List PV) (class1 : Int) : c71 (k + 1) v class1 =
 L71_1 k k class1 0 v (v.length : Int) 0 [] := by kernel_rfl
theorem sL71_1 (k n : Nat) (class1 : Int) (outLen : Nat) (t10 : List PV) (t11 t12 : Int) (xs : List PV) : L71_1 k (n + 1) class1 outLen t10 t11 t12 xs =
 bif decide (t12 < t11) then
  (lookP t10 t12).bind fun p1 =>
  (p1.atInt .i64 0).bind fun n1 =>
  bif (n1 == class1) then
   bif decide ((outLen + 1) * 8 ≤ LIM) && decide (outLen + 1 ≤ LIM) then
    L71_1 k n class1 (outLen + 1) t10 t11 (IntKind.i64.wrap (t12 + 1)) ((xs.take outLen) ++ [PV.int .i64 t12])
   else none
  else L71_1 k n class1 outLen t10 t11 (IntKind.i64.wrap (t12 + 1)) xs
 else r71 (xs.take outLen) := by kernel_rfl
/-! 72 : impl.Program).isCondition -/
theorem n72 (k : Nat) (p p1 : Int) (p2 p3 t : List PV) : c72 (k + 1) p p1 p2 p3 t =
 R105 (c105 k p p1 t 2) fun b1 =>
 r72 b1 := by kernel_rfl
/-! 73 : spec.l1Cur).someOf -/
theorem n73 (k : Nat) (n1 most : Int) (l : List PV) (n11 n12 : Int) : c73 (k + 1) n1 most l n11 n12 =
 R89 (c89 k (IntKind.i64.wrap (most + 1)) l n11 n12) fun l1 v1 v2 v3 =>
 L73_1 k k n1 0 v3 l1 v1 v2 [] := by kernel_rfl
theorem sL73_1 (k n : Nat) (n1 : Int) (lLen : Nat) (k1 : Int) (l : List PV) (n11 n12 : Int) (xs : List PV) : L73_1 k (n + 1) n1 lLen k1 l n11 n12 xs =
 bif decide (k1 > 0) then
  R89 (c89 k n1 l n11 n12) fun l1 v1 v2 v3 =>
  R106 (c106 k (xs.take lLen) v3) fun l2 =>
  L73_1 k n n1 l2.length (IntKind.i64.wrap (k1 - 1)) l1 v1 v2 l2
 else
  R78 (c78 k 40 l n11 n12) fun l3 v4 v5 b1 =>
  bif b1 then
   bif decide ((lLen + 1) * 8 ≤ LIM) && decide (lLen + 1 ≤ LIM) then
    r73 l3 v4 v5 (((xs.take lLen) ++ [PV.int .i64 n1]).take (lLen + 1))
   else none
  else r73 l3 v4 v5 (xs.take lLen) := by kernel_rfl
/-! 76 : spec.l1Rising -/
theorem n76 (k : Nat) (l : List PV) (lo hi : Int) : c76 (k + 1) l lo hi =
 L76_1 k k l lo hi l (l.length : Int) 0 := by kernel_rfl
theorem sL76_1 (k n : Nat) (l : List PV) (lo hi : Int) (t9 : List PV) (t10 t11 : Int) : L76_1 k (n + 1) l lo hi t9 t10 t11 =
 bif decide (t11 < t10) then
  (lookP t9 t11).bind fun p1 =>
  (p1.atInt .i64 0).bind fun n1 =>
  R50 (c50 k n1 lo hi) fun b1 =>
  bif !b1 then
   r76 false
  else
   bif decide (t11 > 0) then
    (lookP l (IntKind.i64.wrap (t11 - 1))).bind fun p2 =>
    (p2.atInt .i64 0).bind fun n2 =>
    bif decide (n2 ≥ n1) then
     r76 false
    else L76_1 k n l lo hi t9 t10 (IntKind.i64.wrap (t11 + 1))
   else L76_1 k n l lo hi t9 t10 (IntKind.i64.wrap (t11 + 1))
 else r76 true := by kernel_rfl
/-! 77 : spec.l15Cut -/
theorem n77 (k : Nat) (v some1 : List PV) : c77 (k + 1) v some1 =
 L77_1 k k some1 0 v (v.length : Int) 0 [] [] := by kernel_rfl
theorem sL77_1 (k n : Nat) (some1 : List PV) (keysLen : Nat) (t9 : List PV) (t10 t11 : Int) (l xs : List PV) : L77_1 k (n + 1) some1 keysLen t9 t10 t11 l xs =
 bif decide (t11 < t10) then
  (lookP t9 t11).bind fun p1 =>
  (p1.atInt .i64 0).bind fun n1 =>
  R107 (c107 k some1 t11) fun b1 =>
  bif b1 then
   bif decide ((keysLen + 1) * 8 ≤ LIM) && decide (keysLen + 1 ≤ LIM) then
    L77_1 k n some1 (keysLen + 1) t9 t10 (IntKind.i64.wrap (t11 + 1)) l ((xs.take keysLen) ++ [PV.int .i64 (IntKind.i64.wrap ((IntKind.i64.wrap (2 * n1)) + 1))])
   else none
  else
   bif decide ((keysLen + 1) * 8 ≤ LIM) && decide (keysLen + 1 ≤ LIM) then
    L77_1 k n some1 (keysLen + 1) t9 t10 (IntKind.i64.wrap (t11 + 1)) l ((xs.take keysLen) ++ [PV.int .i64 (IntKind.i64.wrap (2 * n1))])
   else none
 else
  R57p (c57 k (xs.take keysLen)) fun l1 =>
  r77 (l1.take l1.length) := by kernel_rfl
/-! 78 : spec.l1Cur).one -/
theorem n78 (k : Nat) (n1 : Int) (l : List PV) (n11 n12 : Int) : c78 (k + 1) n1 l n11 n12 =
 R89 (c89 k n1 l n11 n12) fun l1 v1 v2 v3 =>
 r78 l1 v1 v2 (v3 == 0) := by kernel_rfl
/-! 79 : spec.l12All -/
theorem n79 (k : Nat) (n1 : Int) : c79 (k + 1) n1 =
 L79_1 k k n1 0 0 [] := by kernel_rfl
theorem sL79_1 (k n : Nat) (n1 : Int) (outLen : Nat) (k1 : Int) (xs : List PV) : L79_1 k (n + 1) n1 outLen k1 xs =
 bif decide (k1 < n1) then
  bif decide ((outLen + 1) * 8 ≤ LIM) && decide (outLen + 1 ≤ LIM) then
   L79_1 k n n1 (outLen + 1) (IntKind.i64.wrap (k1 + 1)) ((xs.take outLen) ++ [PV.int .i64 k1])
  else none
 else r79 (xs.take outLen) := by kernel_rfl
/-! 80 : impl.sureSteps -/
theorem n80 (k : Nat) (p p1 : Int) (p2 p3 v : List PV) (class1 : Int) : c80 (k + 1) p p1 p2 p3 v class1 =
 R81 (c81 k p p1 p2 p3 v class1) fun l1 =>
 R71 (c71 k v class1) fun l2 =>
 L80_1 k k l1.length l2 (l2.length : Int) 0 p p1 p2 p3 v l1 := by kernel_rfl
theorem sL80_1 (k n : Nat) (outLen : Nat) (t17 : List PV) (t18 t19 n1 n11 : Int) (l l1 l2 xs : List PV) : L80_1 k (n + 1) outLen t17 t18 t19 n1 n11 l l1 l2 xs =
 bif decide (t19 < t18) then
  (lookP t17 t19).bind fun p1 =>
  (p1.atInt .i64 0).bind fun n2 =>
  R109 (c109 k n1 n11 l l1 n2) fun l3 =>
  R108 (c108 k l2 l3) fun l4 =>
  R110f111p (c110f111 k (xs.take outLen) (l4.take l4.length)) fun l5 =>
  L80_1 k n l5.length t17 t18 (IntKind.i64.wrap (t19 + 1)) n1 n11 l l1 l2 l5
 else r80 (xs.take outLen) := by kernel_rfl
/-! 81 : impl.classSteps -/
theorem n81 (k : Nat) (p p1 : Int) (p2 p3 v : List PV) (class1 : Int) : c81 (k + 1) p p1 p2 p3 v class1 =
 R71 (c71 k v class1) fun l1 =>
 L81_1 k k 0 l1 (l1.length : Int) 0 p p1 p2 p3 v [] := by kernel_rfl
theorem sL81_1 (k n : Nat) (nextLen : Nat) (t13 : List PV) (t14 t15 n1 n11 : Int) (l l1 l2 xs : List PV) : L81_1 k (n + 1) nextLen t13 t14 t15 n1 n11 l l1 l2 xs =
 bif decide (t15 < t14) then
  (lookP t13 t15).bind fun p1 =>
  (p1.atInt .i64 0).bind fun n2 =>
  R109 (c109 k n1 n11 l l1 n2) fun l3 =>
  bif decide ((nextLen + l3.length) * 8 ≤ LIM) && decide (nextLen + l3.length ≤ LIM) then
   L81_1 k n (nextLen + l3.length) t13 t14 (IntKind.i64.wrap (t15 + 1)) n1 n11 l l1 l2 ((xs.take nextLen) ++ l3)
  else none
 else
  R108p (c108 k l2 (xs.take nextLen)) fun l4 =>
  r81 (l4.take l4.length) := by kernel_rfl
/-! 82 : spec.l15Many -/
theorem n82 (k : Nat) (v : List PV) : c82 (k + 1) v =
 L82_1 k k 0 v (v.length : Int) 0 := by kernel_rfl
theorem sL82_1 (k n : Nat) (many : Int) (t7 : List PV) (t8 t9 : Int) : L82_1 k (n + 1) many t7 t8 t9 =
 bif decide (t9 < t8) then
  (lookP t7 t9).bind fun p1 =>
  (p1.atInt .i64 0).bind fun n1 =>
  bif decide (n1 ≥ many) then
   L82_1 k n (IntKind.i64.wrap (n1 + 1)) t7 t8 (IntKind.i64.wrap (t9 + 1))
  else L82_1 k n many t7 t8 (IntKind.i64.wrap (t9 + 1))
 else r82 many := by kernel_rfl
/-! 83 : spec.l1Same -/
theorem n83 (k : Nat) (a b : List PV) : c83 (k + 1) a b =
 bif ((a.length : Int) != (b.length : Int)) then
  r83 false
 else L83_1 k k a b (a.length : Int) 0 := by kernel_rfl
theorem sL83_1 (k n : Nat) (a b : List PV) (t12 t13 : Int) : L83_1 k (n + 1) a b t12 t13 =
 bif decide (t13 < t12) then
  (lookP a t13).bind fun p1 =>
  (p1.atInt .i64 0).bind fun n1 =>
  (lookP b t13).bind fun p2 =>
  (p2.atInt .i64 0).bind fun n2 =>
  bif (n1 != n2) then
   r83 false
  else L83_1 k n a b t12 (IntKind.i64.wrap (t13 + 1))
 else r83 true := by kernel_rfl
/-! 84 : spec.l17Sure -/
theorem n84 (k : Nat) (p p1 : Int) (p2 p3 v : List PV) (class1 : Int) : c84 (k + 1) p p1 p2 p3 v class1 =
 R85 (c85 k p p1 p2 p3 v class1) fun l1 =>
 L84_1 k k class1 0 l1 (l1.length : Int) 0 p p1 p2 p3 v [] := by kernel_rfl
theorem sL84_1 (k n : Nat) (class1 : Int) (outLen : Nat) (t16 : List PV) (t17 t18 n1 n11 : Int) (l l1 l2 xs : List PV) : L84_1 k (n + 1) class1 outLen t16 t17 t18 n1 n11 l l1 l2 xs =
 bif decide (t18 < t17) then
  (lookP t16 t18).bind fun p1 =>
  (p1.atInt .i64 0).bind fun n2 =>
  R113 (c113 k l2 class1) fun l3 =>
  L84_2 k n k class1 outLen n2 true t16 t17 t18 l3 (l3.length : Int) 0 n1 n11 l l1 l2 xs
 else r84 (xs.take outLen) := by kernel_rfl
theorem sL84_2 (k n1 n : Nat) (class1 : Int) (outLen : Nat) (to : Int) (all : Bool) (t16 : List PV) (t17 t18 : Int) (t24 : List PV) (t25 t26 n11 n12 : Int) (l l1 l2 xs : List PV) : L84_2 k n1 (n + 1) class1 outLen to all t16 t17 t18 t24 t25 t26 n11 n12 l l1 l2 xs =
 bif decide (t26 < t25) then
  (lookP t24 t26).bind fun p1 =>
  (p1.atInt .i64 0).bind fun n2 =>
  bif all then
   R115 (c115 k n11 n12 l l1 n2) fun l3 =>
   R114 (c114 k l2 l3) fun l4 =>
   R107 (c107 k l4 to) fun b1 =>
   L84_2 k n1 n class1 outLen to b1 t16 t17 t18 t24 t25 (IntKind.i64.wrap (t26 + 1)) n11 n12 l l1 l2 xs
  else L84_2 k n1 n class1 outLen to false t16 t17 t18 t24 t25 (IntKind.i64.wrap (t26 + 1)) n11 n12 l l1 l2 xs
 else
  bif all then
   bif decide ((outLen + 1) * 8 ≤ LIM) && decide (outLen + 1 ≤ LIM) then
    L84_1 k n1 class1 (outLen + 1) t16 t17 (IntKind.i64.wrap (t18 + 1)) n11 n12 l l1 l2 ((xs.take outLen) ++ [PV.int .i64 to])
   else none
  else L84_1 k n1 class1 outLen t16 t17 (IntKind.i64.wrap (t18 + 1)) n11 n12 l l1 l2 xs := by kernel_rfl
/-! 85 : spec.l17Steps -/
theorem n85 (k : Nat) (p p1 : Int) (p2 p3 v : List PV) (class1 : Int) : c85 (k + 1) p p1 p2 p3 v class1 =
 R113 (c113 k v class1) fun l1 =>
 R116 (c116 k p p1 p2 p3 l1) fun l2 =>
 R114 (c114 k v l2) fun l3 =>
 r85 l3 := by kernel_rfl
/-! 86 : impl.classReach -/
theorem n86 (k : Nat) (p p1 : Int) (p2 p3 v : List PV) : c86 (k + 1) p p1 p2 p3 v =
 R118 (c118 k p p1 p2 p3 v) fun l1 =>
 R119 (c119 k p p1 p2 p3 p2) fun l2 =>
 R108 (c108 k v l2) fun l3 =>
 R117 (c117 k l1 (l3.take l3.length)) fun l4 =>
 r86 l4 := by kernel_rfl
/-! 87 : impl.Program).reach -/
theorem n87 (k : Nat) (p p1 : Int) (p2 p3 : List PV) : c87 (k + 1) p p1 p2 p3 =
 R120 (c120 k p p1 p2 p3) fun l1 =>
 R119 (c119 k p p1 p2 p3 p2) fun l2 =>
 R117 (c117 k l1 l2) fun l3 =>
 r87 l3 := by kernel_rfl
/-! 88 : spec.l1Cur).among -/
theorem n88 (k : Nat) (list l : List PV) (n1 n11 : Int) : c88 (k + 1) list l n1 n11 =
 R89 (c89 k (list.length : Int) l n1 n11) fun l1 v1 v2 v3 =>
 (lookP list v3).bind fun p1 =>
 (p1.atInt .i64 0).bind fun n2 =>
 r88 l1 v1 v2 n2 := by kernel_rfl
/-! 89 : spec.l1Cur).pick -/
theorem n89 (k : Nat) (n1 : Int) (l : List PV) (n11 n12 : Int) : c89 (k + 1) n1 l n11 n12 =
 bif decide (n1 ≤ 1) then
  r89 l n11 n12 0
 else
  R121 (c121 k l n11 n12) fun l1 v1 v2 v3 =>
  bif decide (n1 > 200) then
   R121 (c121 k l1 v1 v2) fun l2 v4 v5 v6 =>
   bif !(n1 == 0) then
    r89 l2 v4 v5 ((IntKind.i64.wrap ((IntKind.i64.wrap (v3 * 256)) + v6)).tmod n1)
   else none
  else
   bif !(n1 == 0) then
    r89 l1 v1 v2 (v3.tmod n1)
   else none := by kernel_rfl
/-! 90 : spec.l1Cur).progOf -/
theorem n90 (k : Nat) (wide vars : Int) (l : List PV) (n1 n11 : Int) : c90 (k + 1) wide vars l n1 n11 =
 R89 (c89 k 2 l n1 n11) fun l1 v1 v2 v3 =>
 R78 (c78 k 3 l1 v1 v2) fun l2 v4 v5 b1 =>
 bif b1 then
  R40 (c40 k wide vars 1 l2 v4 v5) fun l3 v6 v7 l4 =>
  R89 (c89 k 3 l3 v6 v7) fun l5 v8 v9 v10 =>
  L90_1 k k wide vars (IntKind.i64.wrap (1 + v10)) l5 v8 v9 0 0 [] [] wide vars l4.length 0 l4 []
 else
  R89 (c89 k 3 l2 v4 v5) fun l6 v11 v12 v13 =>
  L90_1 k k wide vars (IntKind.i64.wrap (1 + v13)) l6 v11 v12 0 0 [] [] wide vars 3 0 [PV.agg [.int .i64 2, .int .u64 0], PV.agg [.int .i64 1, .int .u64 (IntKind.u64.wrap v3)], PV.agg [.int .i64 14, .int .u64 0]] [] := by kernel_rfl
theorem sL90_1 (k n : Nat) (wide vars n1 : Int) (l : List PV) (n11 n12 n13 n14 : Int) (l1 l2 : List PV) (n15 n16 : Int) (Len Len1 : Nat) (xs xs1 : List PV) : L90_1 k (n + 1) wide vars n1 l n11 n12 n13 n14 l1 l2 n15 n16 Len Len1 xs xs1 =
 bif decide (n1 > 0) then
  R122 (c122 k wide vars l n11 n12) fun l3 v1 v2 l4 l5 =>
  bif decide (l5.length ≤ l5.length) then
   bif (Len1 == xs1.length) && decide ((Len1 + 1) * 48 ≤ LIM) && decide (Len1 + 1 ≤ LIM) then
    L90_1 k n wide vars (IntKind.i64.wrap (n1 - 1)) l3 v1 v2 n13 n14 l1 l2 n15 n16 Len (Len1 + 1) xs (xs1 ++ [PV.agg [.row 2 0 l4, .row 2 0 (l5.take l5.length)]])
   else none
  else none
 else
  bif (Len1 == xs1.length) then
   r90 l n11 n12 n15 n16 (xs.take Len) (xs1.take Len1)
  else none := by kernel_rfl
/-! 91 : spec.l1Cur).number -/
theorem n91 (k : Nat) (wide vars deep : Int) (l : List PV) (n1 n11 : Int) : c91 (k + 1) wide vars deep l n1 n11 =
 bif (deep == 0) then
  R78 (c78 k 2 l n1 n11) fun l1 v1 v2 b1 =>
  bif b1 then
   R89 (c89 k 9 l1 v1 v2) fun l2 v3 v4 v5 =>
   R123 (c123 k wide (IntKind.u64.wrap v5)) fun v6 =>
   r91 l2 v3 v4 [PV.agg [.int .i64 1, .int .u64 v6]]
  else
   R89 (c89 k vars l1 v1 v2) fun l3 v7 v8 v9 =>
   r91 l3 v7 v8 [PV.agg [.int .i64 2, .int .u64 (IntKind.u64.wrap v9)]]
 else
  R78 (c78 k 4 l n1 n11) fun l4 v10 v11 b2 =>
  bif b2 then
   R78 (c78 k 2 l4 v10 v11) fun l5 v12 v13 b3 =>
   bif b3 then
    R89 (c89 k 9 l5 v12 v13) fun l6 v14 v15 v16 =>
    R123 (c123 k wide (IntKind.u64.wrap v16)) fun v17 =>
    r91 l6 v14 v15 [PV.agg [.int .i64 1, .int .u64 v17]]
   else
    R89 (c89 k vars l5 v12 v13) fun l7 v18 v19 v20 =>
    r91 l7 v18 v19 [PV.agg [.int .i64 2, .int .u64 (IntKind.u64.wrap v20)]]
  else
   R78 (c78 k 7 l4 v10 v11) fun l8 v21 v22 b4 =>
   bif b4 then
    R91 (c91 k wide vars (IntKind.i64.wrap (deep - 1)) l8 v21 v22) fun l9 v23 v24 l10 =>
    bif decide ((l10.length + 1) * 16 ≤ LIM) && decide (l10.length + 1 ≤ LIM) then
     r91 l9 v23 v24 (((l10.take l10.length) ++ [PV.agg [.int .i64 13, .int .u64 0]]).take (l10.length + 1))
    else none
   else
    R91 (c91 k wide vars (IntKind.i64.wrap (deep - 1)) l8 v21 v22) fun l11 v25 v26 l12 =>
    R91 (c91 k wide vars (IntKind.i64.wrap (deep - 1)) l11 v25 v26) fun l13 v27 v28 l14 =>
    bif decide ((l12.length + ((l14.take l14.length).length)) * 16 ≤ LIM) && decide (l12.length + ((l14.take l14.length).length) ≤ LIM) then
     R88 (c88 k [PV.int .i64 3, PV.int .i64 3, PV.int .i64 3, PV.int .i64 4, PV.int .i64 4, PV.int .i64 5, PV.int .i64 8, PV.int .i64 9, PV.int .i64 10] l13 v27 v28) fun l15 v29 v30 v31 =>
     R78 (c78 k 6 l15 v29 v30) fun l16 v32 v33 b5 =>
     bif b5 then
      R88 (c88 k [PV.int .i64 6, PV.int .i64 7, PV.int .i64 11, PV.int .i64 12] l16 v32 v33) fun l17 v34 v35 v36 =>
      bif decide (((l12.length + ((l14.take l14.length).length)) + 1) * 16 ≤ LIM) && decide ((l12.length + ((l14.take l14.length).length)) + 1 ≤ LIM) then
       r91 l17 v34 v35 (((((l12.take l12.length) ++ (l14.take l14.length)).take (l12.length + ((l14.take l14.length).length))) ++ [PV.agg [.int .i64 v36, .int .u64 0]]).take ((l12.length + ((l14.take l14.length).length)) + 1))
      else none
     else
      bif decide (((l12.length + ((l14.take l14.length).length)) + 1) * 16 ≤ LIM) && decide ((l12.length + ((l14.take l14.length).length)) + 1 ≤ LIM) then
       r91 l16 v32 v33 (((((l12.take l12.length) ++ (l14.take l14.length)).take (l12.length + ((l14.take l14.length).length))) ++ [PV.agg [.int .i64 v31, .int .u64 0]]).take ((l12.length + ((l14.take l14.length).length)) + 1))
      else none
    else none := by kernel_rfl
end Go.Proofs.YtfinhnimlmkooaaGreat
/- Normal forms: printed by nf.py. -/
set_option linter.unusedVariables false
set_option maxRecDepth 100000
namespace Go.Proofs.YtfinhnimlmkooaaGreat
open Go.Dp
/-! 92 : spec.l2Kind -/
theorem n92 (k : Nat) (wide vars : Int) (t : List PV) : c92 (k + 1) wide vars t =
 R124 (c124 k wide) fun b1 =>
 bif !b1 then
  r92 0
 else
  R50 (c50 k vars 1 4) fun b2 =>
  bif !b2 then
   r92 0
  else
   R50 (c50 k (t.length : Int) 1 48) fun b3 =>
   bif !b3 then
    r92 0
   else L92_1 k k wide vars 0 t (t.length : Int) 0 [] := by kernel_rfl
theorem sL92_1 (k n : Nat) (wide vars : Int) (pileLen : Nat) (t27 : List PV) (t28 t29 : Int) (xs : List PV) : L92_1 k (n + 1) wide vars pileLen t27 t28 t29 xs =
 bif decide (t29 < t28) then
  (lookP t27 t29).bind fun p1 =>
  bif p1.shp 2 then
   (p1.atInt .i64 0).bind fun n1 =>
   (p1.atInt .u64 1).bind fun n2 =>
   R125 (c125 k n1) fun v1 v2 v3 =>
   bif (v3 == 0) then
    r92 0
   else
    R126 (c126 k wide vars n1 n2) fun b1 =>
    bif !b1 then
     r92 0
    else
     bif decide ((pileLen : Int) < v1) then
      r92 0
     else L92_2 k n k wide vars pileLen v1 v2 v3 t27 t28 t29 xs
  else none
 else
  bif ((pileLen : Int) != 1) then
   r92 0
  else
   bif decide ((0 : Int) < (pileLen : Int)) then
    (xs[0]?).bind fun p2 =>
    (p2.atInt .i64 0).bind fun n3 =>
    r92 n3
   else none := by kernel_rfl
theorem sL92_2 (k n1 n : Nat) (wide vars : Int) (pileLen : Nat) (many part own : Int) (t27 : List PV) (t28 t29 : Int) (xs : List PV) : L92_2 k n1 (n + 1) wide vars pileLen many part own t27 t28 t29 xs =
 bif decide (many > 0) then
  bif decide ((0 : Int) ≤ IntKind.i64.wrap ((pileLen : Int) - 1)) && decide (IntKind.i64.wrap ((pileLen : Int) - 1) < (pileLen : Int)) then
   (xs[0 + ((IntKind.i64.wrap ((pileLen : Int) - 1)).toNat)]?).bind fun p1 =>
   (p1.atInt .i64 0).bind fun n2 =>
   bif (n2 != part) then
    r92 0
   else
    bif decide ((0 : Int) ≤ IntKind.i64.wrap ((pileLen : Int) - 1)) && decide (IntKind.i64.wrap ((pileLen : Int) - 1) ≤ (pileLen : Int)) then
     L92_2 k n1 n wide vars ((IntKind.i64.wrap ((pileLen : Int) - 1)).toNat) (IntKind.i64.wrap (many - 1)) part own t27 t28 t29 xs
    else none
  else none
 else
  bif decide ((pileLen + 1) * 8 ≤ LIM) && decide (pileLen + 1 ≤ LIM) then
   L92_1 k n1 wide vars (pileLen + 1) t27 t28 (IntKind.i64.wrap (t29 + 1)) ((xs.take pileLen) ++ [PV.int .i64 own])
  else none := by kernel_rfl
/-! 93 : spec.l8Those -/
theorem n93 (k : Nat) (p p1 : Int) (p2 p3 t : List PV) : c93 (k + 1) p p1 p2 p3 t =
 L93_1 k k t 0 0 p p1 p2 p3 [] := by kernel_rfl
theorem sL93_1 (k n : Nat) (t : List PV) (outLen : Nat) (no n1 n11 : Int) (l l1 xs : List PV) : L93_1 k (n + 1) t outLen no n1 n11 l l1 xs =
 R49 (c49 k n1 n11 l l1) fun v1 =>
 bif decide (no < v1) then
  R67 (c67 k n1 n11 l l1 no) fun l2 =>
  R66 (c66 k n1 n11 l l1 t l2) fun b1 =>
  bif b1 then
   bif decide ((outLen + 1) * 8 ≤ LIM) && decide (outLen + 1 ≤ LIM) then
    L93_1 k n t (outLen + 1) (IntKind.i64.wrap (no + 1)) n1 n11 l l1 ((xs.take outLen) ++ [PV.int .i64 no])
   else none
  else L93_1 k n t outLen (IntKind.i64.wrap (no + 1)) n1 n11 l l1 xs
 else r93 (xs.take outLen) := by kernel_rfl
/-! 94 : impl.GoodProgram -/
theorem n94 (k : Nat) (p p1 : Int) (p2 p3 : List PV) : c94 (k + 1) p p1 p2 p3 =
 R127 (c127 k p) fun b1 =>
 bif !b1 then
  r94 false
 else
  R128 (c128 k p1) fun b2 =>
  bif !b2 then
   r94 false
  else
   R72 (c72 k p p1 p2 p3 p2) fun b3 =>
   bif !b3 then
    r94 false
   else
    bif decide ((p3.length : Int) < 1) then
     r94 false
    else
     bif decide ((p3.length : Int) > 6) then
      r94 false
     else
      R129f130 (c129f130 k p3 p p1 p2 p3) fun v1 v2 l1 l2 b4 =>
      r94 (!b4) := by kernel_rfl
/-! 95 : spec.GoodProgram -/
theorem n95 (k : Nat) (p p1 : Int) (p2 p3 : List PV) : c95 (k + 1) p p1 p2 p3 =
 R43 (c43 k p p1 p2 p3 p2) fun b1 =>
 bif !b1 then
  r95 false
 else
  R50 (c50 k (p3.length : Int) 1 6) fun b2 =>
  bif !b2 then
   r95 false
  else L95_1 k k p3 (p3.length : Int) 0 p p1 p2 p3 := by kernel_rfl
theorem sL95_1 (k n : Nat) (t18 : List PV) (t19 t20 n1 n11 : Int) (l l1 : List PV) : L95_1 k (n + 1) t18 t19 t20 n1 n11 l l1 =
 bif decide (t20 < t19) then
  (lookP t18 t20).bind fun p1 =>
  bif p1.shp 2 then
   (p1.atRow 2 0).bind fun l2 =>
   (p1.atRow 2 1).bind fun l3 =>
   R132 (c132 k n1 n11 l l1 l2 l3) fun b1 =>
   bif !b1 then
    r95 false
   else L95_1 k n t18 t19 (IntKind.i64.wrap (t20 + 1)) n1 n11 l l1
  else none
 else r95 true := by kernel_rfl
/-! 96 : slices.Max[[]int,int] -/
theorem n96 (k : Nat) (x : List PV) : c96 (k + 1) x =
 bif decide ((x.length : Int) < 1) then
  none
 else
  (lookP x 0).bind fun p1 =>
  (p1.atInt .i64 0).bind fun n1 =>
  L96_1 k k x n1 1 := by kernel_rfl
theorem sL96_1 (k n : Nat) (x : List PV) (m i : Int) : L96_1 k (n + 1) x m i =
 bif decide (i < (x.length : Int)) then
  (lookP x i).bind fun p1 =>
  (p1.atInt .i64 0).bind fun n1 =>
  L96_1 k n x (maxI m n1) (IntKind.i64.wrap (i + 1))
 else r96 m := by kernel_rfl
/-! 99 : impl.mask -/
theorem n99 (k : Nat) (wide : Int) : c99 (k + 1) wide =
 bif !decide (IntKind.i64.wrap (64 - wide) < 0) then
  r99 (shrI .u64 18446744073709551615 (IntKind.i64.wrap (64 - wide)))
 else none := by kernel_rfl
/-! 100 : impl.apply -/
theorem n100 (k : Nat) (wide op a b : Int) : c100 (k + 1) wide op a b =
 bif (op == 3) then
  R99 (c99 k wide) fun v1 =>
  r100 (bitsOp .and .u64 (IntKind.u64.wrap (a + b)) v1)
 else
  bif (op == 4) then
   R99 (c99 k wide) fun v2 =>
   r100 (bitsOp .and .u64 (IntKind.u64.wrap (a - b)) v2)
  else
   bif (op == 5) then
    R99 (c99 k wide) fun v3 =>
    r100 (bitsOp .and .u64 (IntKind.u64.wrap (a * b)) v3)
   else
    bif (op == 6) then
     R134 (c134 k wide a b) fun v4 v5 b1 =>
     R99 (c99 k wide) fun v6 =>
     r100 (bitsOp .and .u64 v4 v6)
    else
     bif (op == 7) then
      R134 (c134 k wide a b) fun v7 v8 b2 =>
      R99 (c99 k wide) fun v9 =>
      r100 (bitsOp .and .u64 v8 v9)
     else
      bif (op == 8) then
       R99 (c99 k wide) fun v10 =>
       r100 (bitsOp .and .u64 (bitsOp .and .u64 a b) v10)
      else
       bif (op == 17) then
        R99 (c99 k wide) fun v11 =>
        r100 (bitsOp .and .u64 (bitsOp .and .u64 a b) v11)
       else
        bif (op == 9) then
         R99 (c99 k wide) fun v12 =>
         r100 (bitsOp .and .u64 (bitsOp .or .u64 a b) v12)
        else
         bif (op == 18) then
          R99 (c99 k wide) fun v13 =>
          r100 (bitsOp .and .u64 (bitsOp .or .u64 a b) v13)
         else
          bif (op == 10) then
           R99 (c99 k wide) fun v14 =>
           r100 (bitsOp .and .u64 (bitsOp .xor .u64 a b) v14)
          else
           bif (op == 11) then
            R135 (c135 k wide a b (op == 11)) fun v15 =>
            R99 (c99 k wide) fun v16 =>
            r100 (bitsOp .and .u64 v15 v16)
           else
            bif (op == 12) then
            R135 (c135 k wide a b (op == 11)) fun v17 =>
            R99 (c99 k wide) fun v18 =>
            r100 (bitsOp .and .u64 v17 v18)
            else
            bif (op == 14) then
            R136 (c136 k (a == b)) fun v19 =>
            R99 (c99 k wide) fun v20 =>
            r100 (bitsOp .and .u64 v19 v20)
            else
            bif (op == 15) then
            R136 (c136 k (decide (a < b))) fun v21 =>
            R99 (c99 k wide) fun v22 =>
            r100 (bitsOp .and .u64 v21 v22)
            else
            bif (op == 16) then
            R137 (c137 k wide a) fun v23 =>
            R137 (c137 k wide b) fun v24 =>
            R136 (c136 k (decide (v23 < v24))) fun v25 =>
            R99 (c99 k wide) fun v26 =>
            r100 (bitsOp .and .u64 v25 v26)
            else
            R99 (c99 k wide) fun v27 =>
            r100 (bitsOp .and .u64 0 v27) := by kernel_rfl
/-! 102 : impl.GoodTerm -/
theorem n102 (k : Nat) (wide vars : Int) (t : List PV) : c102 (k + 1) wide vars t =
 R127 (c127 k wide) fun b1 =>
 bif !b1 then
  r102 false
 else
  R128 (c128 k vars) fun b2 =>
  bif !b2 then
   r102 false
  else
   bif decide ((t.length : Int) < 1) then
    r102 false
   else
    bif decide ((t.length : Int) > 48) then
     r102 false
    else L102_1 k k wide vars 0 t (t.length : Int) 0 [] := by kernel_rfl
theorem sL102_1 (k n : Nat) (wide vars : Int) (stackLen : Nat) (t33 : List PV) (t34 t35 : Int) (xs : List PV) : L102_1 k (n + 1) wide vars stackLen t33 t34 t35 xs =
 bif decide (t35 < t34) then
  (lookP t33 t35).bind fun p1 =>
  bif p1.shp 2 then
   (p1.atInt .i64 0).bind fun n1 =>
   (p1.atInt .u64 1).bind fun n2 =>
   R139 (c139 k n1) fun v1 v2 v3 =>
   bif (v3 == 0) then
    r102 false
   else
    R140 (c140 k wide vars n1 n2) fun b1 =>
    bif !b1 then
     r102 false
    else
     bif decide (IntKind.i64.wrap ((stackLen : Int) - v1) < 0) then
      r102 false
     else
      bif decide ((0 : Int) ≤ IntKind.i64.wrap ((stackLen : Int) - v1)) && decide (IntKind.i64.wrap ((stackLen : Int) - v1) ≤ (stackLen : Int)) && decide ((stackLen : Int) ≤ (stackLen : Int)) then
       R141f142p (c141f142 k ((xs.drop (0 + ((IntKind.i64.wrap ((stackLen : Int) - v1)).toNat))).take (stackLen - ((IntKind.i64.wrap ((stackLen : Int) - v1)).toNat))) v2) fun v4 b2 =>
       bif b2 then
        r102 false
       else
        bif decide ((0 : Int) ≤ IntKind.i64.wrap ((stackLen : Int) - v1)) && decide (IntKind.i64.wrap ((stackLen : Int) - v1) ≤ (stackLen : Int)) then
         bif decide ((((IntKind.i64.wrap ((stackLen : Int) - v1)).toNat) + 1) * 8 ≤ LIM) && decide (((IntKind.i64.wrap ((stackLen : Int) - v1)).toNat) + 1 ≤ LIM) then
          L102_1 k n wide vars (((IntKind.i64.wrap ((stackLen : Int) - v1)).toNat) + 1) t33 t34 (IntKind.i64.wrap (t35 + 1)) ((xs.take ((IntKind.i64.wrap ((stackLen : Int) - v1)).toNat)) ++ [PV.int .i64 v3])
         else none
        else none
      else none
  else none
 else r102 ((stackLen : Int) == 1) := by kernel_rfl
/-! 103 : spec.l2Value -/
theorem n103 (k : Nat) (wide : Int) (t : List PV) (k1 : Int) (state : List PV) : c103 (k + 1) wide t k1 state =
 (lookP t k1).bind fun p1 =>
 bif p1.shp 2 then
  (p1.atInt .i64 0).bind fun n1 =>
  (p1.atInt .u64 1).bind fun n2 =>
  R125 (c125 k n1) fun v1 v2 v3 =>
  bif (n1 == 2) then
   (lookP state n2).bind fun p2 =>
   (p2.atInt .u64 0).bind fun n3 =>
   r103 n3
  else
   bif (v1 == 0) then
    r103 n2
   else
    bif (n1 == 13) then
     R103 (c103 k wide t (IntKind.i64.wrap (k1 - 1)) state) fun v4 =>
     R123 (c123 k wide (bitsOp .xor .u64 18446744073709551615 v4)) fun v5 =>
     r103 v5
    else
     bif (n1 == 19) then
      R103 (c103 k wide t (IntKind.i64.wrap (k1 - 1)) state) fun v6 =>
      r103 (IntKind.u64.wrap (1 - v6))
     else
      R144 (c144 k t (IntKind.i64.wrap (k1 - 1))) fun v7 =>
      R103 (c103 k wide t (IntKind.i64.wrap (v7 - 1)) state) fun v8 =>
      R103 (c103 k wide t (IntKind.i64.wrap (k1 - 1)) state) fun v9 =>
      R143 (c143 k wide n1 v8 v9) fun v10 =>
      r103 v10
 else none := by kernel_rfl
/-! 105 : impl.isTermOf -/
theorem n105 (k : Nat) (wide vars : Int) (t : List PV) (kind : Int) : c105 (k + 1) wide vars t kind =
 R102 (c102 k wide vars t) fun b1 =>
 bif b1 then
  R145 (c145 k t) fun v1 =>
  r105 (v1 == kind)
 else r105 false := by kernel_rfl
/-! 106 : spec.l1Put -/
theorem n106 (k : Nat) (l : List PV) (n1 : Int) : c106 (k + 1) l n1 =
 L106_1 k k l.length n1 0 l := by kernel_rfl
theorem sL106_1 (k n : Nat) (lLen : Nat) (n1 k1 : Int) (xs : List PV) : L106_1 k (n + 1) lLen n1 k1 xs =
 bif decide (k1 < (lLen : Int)) then
  bif decide ((0 : Int) ≤ k1) && decide (k1 < (lLen : Int)) then
   (xs[0 + k1.toNat]?).bind fun p1 =>
   (p1.atInt .i64 0).bind fun n2 =>
   bif decide (n2 < n1) then
    L106_1 k n lLen n1 (IntKind.i64.wrap (k1 + 1)) xs
   else
    bif decide (k1 < (lLen : Int)) then
     bif decide ((0 : Int) ≤ k1) && decide (k1 < (lLen : Int)) then
      (xs[0 + k1.toNat]?).bind fun p2 =>
      (p2.atInt .i64 0).bind fun n3 =>
      bif (n3 == n1) then
       r106 (xs.take lLen)
      else
       bif decide ((0 : Int) ≤ k1) && decide (k1 ≤ (lLen : Int)) then
        bif decide ((0 + ((xs.take k1.toNat).length)) * 8 ≤ LIM) && decide (0 + ((xs.take k1.toNat).length) ≤ LIM) then
         bif decide (((0 + ((xs.take k1.toNat).length)) + 1) * 8 ≤ LIM) && decide ((0 + ((xs.take k1.toNat).length)) + 1 ≤ LIM) then
          bif decide ((0 : Int) ≤ k1) && decide (k1 ≤ (lLen : Int)) && decide ((lLen : Int) ≤ (lLen : Int)) then
           bif decide ((((0 + ((xs.take k1.toNat).length)) + 1) + (((xs.drop (0 + k1.toNat)).take (lLen - k1.toNat)).length)) * 8 ≤ LIM) && decide (((0 + ((xs.take k1.toNat).length)) + 1) + (((xs.drop (0 + k1.toNat)).take (lLen - k1.toNat)).length) ≤ LIM) then
            r106 (((((([] ++ (xs.take k1.toNat)).take (0 + ((xs.take k1.toNat).length))) ++ [PV.int .i64 n1]).take ((0 + ((xs.take k1.toNat).length)) + 1)) ++ ((xs.drop (0 + k1.toNat)).take (lLen - k1.toNat))).take (((0 + ((xs.take k1.toNat).length)) + 1) + (((xs.drop (0 + k1.toNat)).take (lLen - k1.toNat)).length)))
           else none
          else none
         else none
        else none
       else none
     else none
    else
     bif decide ((0 : Int) ≤ k1) && decide (k1 ≤ (lLen : Int)) then
      bif decide ((0 + ((xs.take k1.toNat).length)) * 8 ≤ LIM) && decide (0 + ((xs.take k1.toNat).length) ≤ LIM) then
       bif decide (((0 + ((xs.take k1.toNat).length)) + 1) * 8 ≤ LIM) && decide ((0 + ((xs.take k1.toNat).length)) + 1 ≤ LIM) then
        bif decide ((0 : Int) ≤ k1) && decide (k1 ≤ (lLen : Int)) && decide ((lLen : Int) ≤ (lLen : Int)) then
         bif decide ((((0 + ((xs.take k1.toNat).length)) + 1) + (((xs.drop (0 + k1.toNat)).take (lLen - k1.toNat)).length)) * 8 ≤ LIM) && decide (((0 + ((xs.take k1.toNat).length)) + 1) + (((xs.drop (0 + k1.toNat)).take (lLen - k1.toNat)).length) ≤ LIM) then
          r106 (((((([] ++ (xs.take k1.toNat)).take (0 + ((xs.take k1.toNat).length))) ++ [PV.int .i64 n1]).take ((0 + ((xs.take k1.toNat).length)) + 1)) ++ ((xs.drop (0 + k1.toNat)).take (lLen - k1.toNat))).take (((0 + ((xs.take k1.toNat).length)) + 1) + (((xs.drop (0 + k1.toNat)).take (lLen - k1.toNat)).length)))
         else none
        else none
       else none
      else none
     else none
  else none
 else
  bif decide (k1 < (lLen : Int)) then
   bif decide ((0 : Int) ≤ k1) && decide (k1 < (lLen : Int)) then
    (xs[0 + k1.toNat]?).bind fun p3 =>
    (p3.atInt .i64 0).bind fun n4 =>
    bif (n4 == n1) then
     r106 (xs.take lLen)
    else
     bif decide ((0 : Int) ≤ k1) && decide (k1 ≤ (lLen : Int)) then
      bif decide ((0 + ((xs.take k1.toNat).length)) * 8 ≤ LIM) && decide (0 + ((xs.take k1.toNat).length) ≤ LIM) then
       bif decide (((0 + ((xs.take k1.toNat).length)) + 1) * 8 ≤ LIM) && decide ((0 + ((xs.take k1.toNat).length)) + 1 ≤ LIM) then
        bif decide ((0 : Int) ≤ k1) && decide (k1 ≤ (lLen : Int)) && decide ((lLen : Int) ≤ (lLen : Int)) then
         bif decide ((((0 + ((xs.take k1.toNat).length)) + 1) + (((xs.drop (0 + k1.toNat)).take (lLen - k1.toNat)).length)) * 8 ≤ LIM) && decide (((0 + ((xs.take k1.toNat).length)) + 1) + (((xs.drop (0 + k1.toNat)).take (lLen - k1.toNat)).length) ≤ LIM) then
          r106 (((((([] ++ (xs.take k1.toNat)).take (0 + ((xs.take k1.toNat).length))) ++ [PV.int .i64 n1]).take ((0 + ((xs.take k1.toNat).length)) + 1)) ++ ((xs.drop (0 + k1.toNat)).take (lLen - k1.toNat))).take (((0 + ((xs.take k1.toNat).length)) + 1) + (((xs.drop (0 + k1.toNat)).take (lLen - k1.toNat)).length)))
         else none
        else none
       else none
      else none
     else none
   else none
  else
   bif decide ((0 : Int) ≤ k1) && decide (k1 ≤ (lLen : Int)) then
    bif decide ((0 + ((xs.take k1.toNat).length)) * 8 ≤ LIM) && decide (0 + ((xs.take k1.toNat).length) ≤ LIM) then
     bif decide (((0 + ((xs.take k1.toNat).length)) + 1) * 8 ≤ LIM) && decide ((0 + ((xs.take k1.toNat).length)) + 1 ≤ LIM) then
      bif decide ((0 : Int) ≤ k1) && decide (k1 ≤ (lLen : Int)) && decide ((lLen : Int) ≤ (lLen : Int)) then
       bif decide ((((0 + ((xs.take k1.toNat).length)) + 1) + (((xs.drop (0 + k1.toNat)).take (lLen - k1.toNat)).length)) * 8 ≤ LIM) && decide (((0 + ((xs.take k1.toNat).length)) + 1) + (((xs.drop (0 + k1.toNat)).take (lLen - k1.toNat)).length) ≤ LIM) then
        r106 (((((([] ++ (xs.take k1.toNat)).take (0 + ((xs.take k1.toNat).length))) ++ [PV.int .i64 n1]).take ((0 + ((xs.take k1.toNat).length)) + 1)) ++ ((xs.drop (0 + k1.toNat)).take (lLen - k1.toNat))).take (((0 + ((xs.take k1.toNat).length)) + 1) + (((xs.drop (0 + k1.toNat)).take (lLen - k1.toNat)).length)))
       else none
      else none
     else none
    else none
   else none := by kernel_rfl
/-! 107 : spec.l1Has -/
theorem n107 (k : Nat) (l : List PV) (n1 : Int) : c107 (k + 1) l n1 =
 L107_1 k k n1 l (l.length : Int) 0 := by kernel_rfl
theorem sL107_1 (k n : Nat) (n1 : Int) (t7 : List PV) (t8 t9 : Int) : L107_1 k (n + 1) n1 t7 t8 t9 =
 bif decide (t9 < t8) then
  (lookP t7 t9).bind fun p1 =>
  (p1.atInt .i64 0).bind fun n2 =>
  bif (n2 == n1) then
   r107 true
  else L107_1 k n n1 t7 t8 (IntKind.i64.wrap (t9 + 1))
 else r107 false := by kernel_rfl
/-! 108 : impl.Sight).classesOf -/
theorem n108 (k : Nat) (v some1 : List PV) : c108 (k + 1) v some1 =
 R52 (c52 k v) fun v1 =>
 bif (v1 == v1) && decide ((0 : Int) ≤ v1) && decide (v1.toNat * 1 ≤ LIM) && decide (v1.toNat ≤ LIM) then
  L108_1 k k v1.toNat some1 (some1.length : Int) 0 v (List.replicate v1.toNat (PV.bool false))
 else none := by kernel_rfl
theorem sL108_1 (k n : Nat) (inLen : Nat) (t11 : List PV) (t12 t13 : Int) (l xs : List PV) : L108_1 k (n + 1) inLen t11 t12 t13 l xs =
 bif decide (t13 < t12) then
  (lookP t11 t13).bind fun p1 =>
  (p1.atInt .i64 0).bind fun n1 =>
  (lookP l n1).bind fun p2 =>
  (p2.atInt .i64 0).bind fun n2 =>
  bif decide ((0 : Int) ≤ n2) && decide (n2 < (inLen : Int)) then
   (xs[0 + n2.toNat]?).bind fun p3 =>
   L108_1 k n inLen t11 t12 (IntKind.i64.wrap (t13 + 1)) l (xs.set (0 + n2.toNat) (PV.bool true))
  else none
 else
  R146p (c146 k (xs.take inLen)) fun l1 =>
  r108 (l1.take l1.length) := by kernel_rfl
/-! 109 : impl.Program).nextOf -/
theorem n109 (k : Nat) (p p1 : Int) (p2 p3 : List PV) (no : Int) : c109 (k + 1) p p1 p2 p3 no =
 R54 (c54 k p p1 p2 p3 no) fun l1 =>
 L109_1 k k no l1 0 p3 (p3.length : Int) 0 p p1 p2 p3 [] := by kernel_rfl
theorem sL109_1 (k n : Nat) (no : Int) (qs : List PV) (outLen : Nat) (t14 : List PV) (t15 t16 n1 n11 : Int) (l l1 xs : List PV) : L109_1 k (n + 1) no qs outLen t14 t15 t16 n1 n11 l l1 xs =
 bif decide (t16 < t15) then
  (lookP t14 t16).bind fun p1 =>
  bif p1.shp 2 then
   (p1.atRow 2 0).bind fun l2 =>
   (p1.atRow 2 1).bind fun l3 =>
   R62 (c62 k n1 n11 l l1 l2 qs) fun b1 =>
   bif b1 then
    R148 (c148 k n1 n11 l l1 l2 l3 qs) fun l4 =>
    R147 (c147 k n1 n11 l l1 l4) fun v1 =>
    bif decide ((outLen + 1) * 8 ≤ LIM) && decide (outLen + 1 ≤ LIM) then
     L109_1 k n no qs (outLen + 1) t14 t15 (IntKind.i64.wrap (t16 + 1)) n1 n11 l l1 ((xs.take outLen) ++ [PV.int .i64 v1])
    else none
   else L109_1 k n no qs outLen t14 t15 (IntKind.i64.wrap (t16 + 1)) n1 n11 l l1 xs
  else none
 else
  bif ((outLen : Int) == 0) then
   r109 [PV.int .i64 no]
  else
   bif decide (outLen ≤ LIM) then
    (intsOf (xs.take outLen)).bind fun zs1 =>
    bif decide (outLen ≤ LIM) then
     (intsOf ((((sortI zs1).map (PV.int .i64)) ++ (xs.drop outLen)).take outLen)).bind fun zs2 =>
     r109 (((((compI zs2).map (PV.int .i64)) ++ (List.replicate (outLen - (compI zs2).length) (PV.int .i64 0))) ++ ((((sortI zs1).map (PV.int .i64)) ++ (xs.drop outLen)).drop outLen)).take ((compI zs2).length))
    else none
   else none := by kernel_rfl
/-! 110 : slices.DeleteFunc[[]int,int] -/
theorem n110f111 (k : Nat) (qs l : List PV) : c110f111 (k + 1) qs l =
 R151f111p (c151f111 k (qs.take qs.length) l) fun v1 =>
 bif (v1 == (-1)) then
  r110f111 (qs.take qs.length)
 else L110f111_1 k k qs.length l v1 (IntKind.i64.wrap (v1 + 1)) qs := by kernel_rfl
theorem sL110f111_1 (k n : Nat) (sLen : Nat) (l : List PV) (i j : Int) (xs : List PV) : L110f111_1 k (n + 1) sLen l i j xs =
 bif decide (j < (sLen : Int)) then
  bif decide ((0 : Int) ≤ j) && decide (j < (sLen : Int)) then
   (xs[0 + j.toNat]?).bind fun p1 =>
   (p1.atInt .i64 0).bind fun n1 =>
   R111 (c111 k n1 l) fun b1 =>
   bif !b1 then
    bif decide ((0 : Int) ≤ i) && decide (i < (sLen : Int)) then
     (xs[0 + i.toNat]?).bind fun p2 =>
     L110f111_1 k n sLen l (IntKind.i64.wrap (i + 1)) (IntKind.i64.wrap (j + 1)) (xs.set (0 + i.toNat) (PV.int .i64 n1))
    else none
   else L110f111_1 k n sLen l i (IntKind.i64.wrap (j + 1)) xs
  else none
 else
  bif decide ((0 : Int) ≤ i) && decide (i ≤ (sLen : Int)) && decide ((sLen : Int) ≤ (sLen : Int)) then
   bif decide ((0 : Int) ≤ i) && decide (i ≤ (sLen : Int)) then
    r110f111 ((((xs).take (0 + i.toNat)) ++ (List.replicate (sLen - i.toNat) (PV.int .i64 0)) ++ ((xs).drop (0 + i.toNat + (sLen - i.toNat)))).take i.toNat)
   else none
  else none := by kernel_rfl
/-! 111 : impl.sureSteps$1 -/
theorem n111 (k : Nat) (to : Int) (l : List PV) : c111 (k + 1) to l =
 R112 (c112 k l to) fun b1 =>
 r111 (!b1) := by kernel_rfl
/-! 112 : slices.Contains[[]int,int] -/
theorem n112 (k : Nat) (qs : List PV) (v : Int) : c112 (k + 1) qs v =
 R152 (c152 k qs v) fun v1 =>
 r112 (decide (v1 ≥ 0)) := by kernel_rfl
/-! 113 : spec.l15In -/
theorem n113 (k : Nat) (v : List PV) (class1 : Int) : c113 (k + 1) v class1 =
 L113_1 k k class1 0 v (v.length : Int) 0 [] := by kernel_rfl
theorem sL113_1 (k n : Nat) (class1 : Int) (outLen : Nat) (t9 : List PV) (t10 t11 : Int) (xs : List PV) : L113_1 k (n + 1) class1 outLen t9 t10 t11 xs =
 bif decide (t11 < t10) then
  (lookP t9 t11).bind fun p1 =>
  (p1.atInt .i64 0).bind fun n1 =>
  bif (n1 == class1) then
   bif decide ((outLen + 1) * 8 ≤ LIM) && decide (outLen + 1 ≤ LIM) then
    L113_1 k n class1 (outLen + 1) t9 t10 (IntKind.i64.wrap (t11 + 1)) ((xs.take outLen) ++ [PV.int .i64 t11])
   else none
  else L113_1 k n class1 outLen t9 t10 (IntKind.i64.wrap (t11 + 1)) xs
 else r113 (xs.take outLen) := by kernel_rfl
/-! 114 : spec.l17Classes -/
theorem n114 (k : Nat) (v states : List PV) : c114 (k + 1) v states =
 L114_1 k k 0 states (states.length : Int) 0 v [] := by kernel_rfl
theorem sL114_1 (k n : Nat) (outLen : Nat) (t8 : List PV) (t9 t10 : Int) (l xs : List PV) : L114_1 k (n + 1) outLen t8 t9 t10 l xs =
 bif decide (t10 < t9) then
  (lookP t8 t10).bind fun p1 =>
  (p1.atInt .i64 0).bind fun n1 =>
  (lookP l n1).bind fun p2 =>
  (p2.atInt .i64 0).bind fun n2 =>
  R106 (c106 k (xs.take outLen) n2) fun l1 =>
  L114_1 k n l1.length t8 t9 (IntKind.i64.wrap (t10 + 1)) l l1
 else r114 (xs.take outLen) := by kernel_rfl
/-! 115 : spec.l8Next -/
theorem n115 (k : Nat) (p p1 : Int) (p2 p3 : List PV) (no : Int) : c115 (k + 1) p p1 p2 p3 no =
 R67 (c67 k p p1 p2 p3 no) fun l1 =>
 R153 (c153 k p p1 p2 p3 l1) fun l2 =>
 L115_1 k k no l1 0 l2 (l2.length : Int) 0 p p1 p2 p3 [] := by kernel_rfl
theorem sL115_1 (k n : Nat) (no : Int) (qs : List PV) (outLen : Nat) (t14 : List PV) (t15 t16 n1 n11 : Int) (l l1 xs : List PV) : L115_1 k (n + 1) no qs outLen t14 t15 t16 n1 n11 l l1 xs =
 bif decide (t16 < t15) then
  (lookP t14 t16).bind fun p1 =>
  (p1.atInt .i64 0).bind fun n2 =>
  R155 (c155 k n1 n11 l l1 qs n2) fun l2 =>
  R154 (c154 k n1 n11 l l1 l2) fun v1 =>
  R106 (c106 k (xs.take outLen) v1) fun l3 =>
  L115_1 k n no qs l3.length t14 t15 (IntKind.i64.wrap (t16 + 1)) n1 n11 l l1 l3
 else
  bif ((outLen : Int) == 0) then
   r115 [PV.int .i64 no]
  else r115 (xs.take outLen) := by kernel_rfl
/-! 116 : spec.l8After -/
theorem n116 (k : Nat) (p p1 : Int) (p2 p3 some1 : List PV) : c116 (k + 1) p p1 p2 p3 some1 =
 L116_1 k k 0 some1 (some1.length : Int) 0 p p1 p2 p3 [] := by kernel_rfl
theorem sL116_1 (k n : Nat) (outLen : Nat) (t10 : List PV) (t11 t12 n1 n11 : Int) (l l1 xs : List PV) : L116_1 k (n + 1) outLen t10 t11 t12 n1 n11 l l1 xs =
 bif decide (t12 < t11) then
  (lookP t10 t12).bind fun p1 =>
  (p1.atInt .i64 0).bind fun n2 =>
  R115 (c115 k n1 n11 l l1 n2) fun l2 =>
  L116_2 k n k outLen t10 t11 t12 l2 (l2.length : Int) 0 n1 n11 l l1 xs
 else r116 (xs.take outLen) := by kernel_rfl
theorem sL116_2 (k n1 n : Nat) (outLen : Nat) (t10 : List PV) (t11 t12 : Int) (t18 : List PV) (t19 t20 n11 n12 : Int) (l l1 xs : List PV) : L116_2 k n1 (n + 1) outLen t10 t11 t12 t18 t19 t20 n11 n12 l l1 xs =
 bif decide (t20 < t19) then
  (lookP t18 t20).bind fun p1 =>
  (p1.atInt .i64 0).bind fun n2 =>
  R106 (c106 k (xs.take outLen) n2) fun l2 =>
  L116_2 k n1 n l2.length t10 t11 t12 t18 t19 (IntKind.i64.wrap (t20 + 1)) n11 n12 l l1 l2
 else L116_1 k n1 outLen t10 t11 (IntKind.i64.wrap (t12 + 1)) n11 n12 l l1 xs := by kernel_rfl
end Go.Proofs.YtfinhnimlmkooaaGreat
/- Normal forms: printed by nf.py. -/
set_option linter.unusedVariables false
set_option maxRecDepth 100000
namespace Go.Proofs.YtfinhnimlmkooaaGreat
open Go.Dp
/-! 117 : impl.reachedFrom -/
theorem n117 (k : Nat) (g some1 : List PV) : c117 (k + 1) g some1 =
 R156 (c156 k g some1) fun l1 =>
 L117_1 k k 0 l1 (l1.length : Int) 0 [] := by kernel_rfl
theorem sL117_1 (k n : Nat) (outLen : Nat) (t11 : List PV) (t12 t13 : Int) (xs : List PV) : L117_1 k (n + 1) outLen t11 t12 t13 xs =
 bif decide (t13 < t12) then
  (lookP t11 t13).bind fun p1 =>
  (p1.atInt .i64 0).bind fun n1 =>
  bif decide (n1 ≥ 0) then
   bif decide ((outLen + 1) * 8 ≤ LIM) && decide (outLen + 1 ≤ LIM) then
    L117_1 k n (outLen + 1) t11 t12 (IntKind.i64.wrap (t13 + 1)) ((xs.take outLen) ++ [PV.int .i64 t13])
   else none
  else L117_1 k n outLen t11 t12 (IntKind.i64.wrap (t13 + 1)) xs
 else r117 (xs.take outLen) := by kernel_rfl
/-! 118 : impl.classGraph -/
theorem n118 (k : Nat) (p p1 : Int) (p2 p3 v : List PV) : c118 (k + 1) p p1 p2 p3 v =
 R52 (c52 k v) fun v1 =>
 L118_1 k k 0 v1 0 p p1 p2 p3 v [] := by kernel_rfl
theorem sL118_1 (k n : Nat) (outLen : Nat) (t9 t10 n1 n11 : Int) (l l1 l2 xs : List PV) : L118_1 k (n + 1) outLen t9 t10 n1 n11 l l1 l2 xs =
 bif decide (t10 < t9) then
  R81 (c81 k n1 n11 l l1 l2 t10) fun l3 =>
  bif decide ((outLen + 1) * 24 ≤ LIM) && decide (outLen + 1 ≤ LIM) then
   L118_1 k n (outLen + 1) t9 (IntKind.i64.wrap (t10 + 1)) n1 n11 l l1 l2 ((xs.take outLen) ++ [PV.row 0 0 (l3.take l3.length)])
  else none
 else r118 (xs.take outLen) := by kernel_rfl
/-! 119 : impl.Program).where -/
theorem n119 (k : Nat) (p p1 : Int) (p2 p3 t : List PV) : c119 (k + 1) p p1 p2 p3 t =
 R47 (c47 k p p1 p2 p3) fun v1 =>
 L119_1 k k t 0 v1 0 p p1 p2 p3 [] := by kernel_rfl
theorem sL119_1 (k n : Nat) (t : List PV) (outLen : Nat) (t9 t10 n1 n11 : Int) (l l1 xs : List PV) : L119_1 k (n + 1) t outLen t9 t10 n1 n11 l l1 xs =
 bif decide (t10 < t9) then
  R54 (c54 k n1 n11 l l1 t10) fun l2 =>
  R62 (c62 k n1 n11 l l1 t l2) fun b1 =>
  bif b1 then
   bif decide ((outLen + 1) * 8 ≤ LIM) && decide (outLen + 1 ≤ LIM) then
    L119_1 k n t (outLen + 1) t9 (IntKind.i64.wrap (t10 + 1)) n1 n11 l l1 ((xs.take outLen) ++ [PV.int .i64 t10])
   else none
  else L119_1 k n t outLen t9 (IntKind.i64.wrap (t10 + 1)) n1 n11 l l1 xs
 else r119 (xs.take outLen) := by kernel_rfl
/-! 120 : impl.Program).graph -/
theorem n120 (k : Nat) (p p1 : Int) (p2 p3 : List PV) : c120 (k + 1) p p1 p2 p3 =
 R47 (c47 k p p1 p2 p3) fun v1 =>
 L120_1 k k 0 v1 0 p p1 p2 p3 [] := by kernel_rfl
theorem sL120_1 (k n : Nat) (outLen : Nat) (t7 t8 n1 n11 : Int) (l l1 xs : List PV) : L120_1 k (n + 1) outLen t7 t8 n1 n11 l l1 xs =
 bif decide (t8 < t7) then
  R109 (c109 k n1 n11 l l1 t8) fun l2 =>
  bif decide ((outLen + 1) * 24 ≤ LIM) && decide (outLen + 1 ≤ LIM) then
   L120_1 k n (outLen + 1) t7 (IntKind.i64.wrap (t8 + 1)) n1 n11 l l1 ((xs.take outLen) ++ [PV.row 0 0 l2])
  else none
 else r120 (xs.take outLen) := by kernel_rfl
/-! 121 : spec.l1Cur).next -/
theorem n121 (k : Nat) (l : List PV) (n1 n11 : Int) : c121 (k + 1) l n1 n11 =
 bif decide (n1 < (l.length : Int)) then
  (lookP l n1).bind fun p1 =>
  (p1.atInt .u8 0).bind fun n2 =>
  bif decide (IntKind.i64.wrap (n1 + 1) ≤ (l.length : Int)) then
   r121 l (IntKind.i64.wrap (n1 + 1)) (IntKind.u64.wrap ((IntKind.u64.wrap ((IntKind.u64.wrap (n11 * 6364136223846793005)) + (IntKind.u64.wrap (IntKind.i64.wrap n2)))) + 1442695040888963407)) (IntKind.i64.wrap n2)
  else r121 l (IntKind.i64.wrap (n1 + 1)) (IntKind.u64.wrap ((IntKind.u64.wrap ((IntKind.u64.wrap (n11 * 6364136223846793005)) + (IntKind.u64.wrap (IntKind.i64.wrap n2)))) + 1442695040888963407)) (IntKind.i64.wrap (bitsOp .and .u64 (shrI .u64 (IntKind.u64.wrap ((IntKind.u64.wrap ((IntKind.u64.wrap (n11 * 6364136223846793005)) + (IntKind.u64.wrap (IntKind.i64.wrap n2)))) + 1442695040888963407)) 40) 255))
 else
  bif decide (IntKind.i64.wrap (n1 + 1) ≤ (l.length : Int)) then
   r121 l (IntKind.i64.wrap (n1 + 1)) (IntKind.u64.wrap ((IntKind.u64.wrap ((IntKind.u64.wrap (n11 * 6364136223846793005)) + 0)) + 1442695040888963407)) 0
  else r121 l (IntKind.i64.wrap (n1 + 1)) (IntKind.u64.wrap ((IntKind.u64.wrap ((IntKind.u64.wrap (n11 * 6364136223846793005)) + 0)) + 1442695040888963407)) (IntKind.i64.wrap (bitsOp .and .u64 (shrI .u64 (IntKind.u64.wrap ((IntKind.u64.wrap ((IntKind.u64.wrap (n11 * 6364136223846793005)) + 0)) + 1442695040888963407)) 40) 255)) := by kernel_rfl
/-! 122 : spec.l1Cur).command -/
theorem n122 (k : Nat) (wide vars : Int) (l : List PV) (n1 n11 : Int) : c122 (k + 1) wide vars l n1 n11 =
 R89 (c89 k 2 l n1 n11) fun l1 v1 v2 v3 =>
 R40 (c40 k wide vars v3 l1 v1 v2) fun l2 v4 v5 l3 =>
 L122_1 k k wide vars 0 l2 v4 v5 [] [] l3.length 0 l3 [] := by kernel_rfl
theorem sL122_1 (k n : Nat) (wide vars v : Int) (l : List PV) (n1 n11 : Int) (l1 l2 : List PV) (Len Len1 : Nat) (xs xs1 : List PV) : L122_1 k (n + 1) wide vars v l n1 n11 l1 l2 Len Len1 xs xs1 =
 bif decide (v < vars) then
  R78 (c78 k 2 l n1 n11) fun l3 v1 v2 b1 =>
  bif b1 then
   R91 (c91 k wide vars 1 l3 v1 v2) fun l4 v3 v4 l5 =>
   bif decide ((Len1 + 1) * 32 ≤ LIM) && decide (Len1 + 1 ≤ LIM) then
    L122_1 k n wide vars (IntKind.i64.wrap (v + 1)) l4 v3 v4 l1 l2 Len (Len1 + 1) xs ((xs1.take Len1) ++ [PV.agg [.int .i64 v, .row 2 0 (l5.take l5.length)]])
   else none
  else L122_1 k n wide vars (IntKind.i64.wrap (v + 1)) l3 v1 v2 l1 l2 Len Len1 xs xs1
 else r122 l n1 n11 (xs.take Len) (xs1.take Len1) := by kernel_rfl
/-! 123 : spec.l1Cut -/
theorem n123 (k : Nat) (wide a : Int) : c123 (k + 1) wide a =
 L123_1 k k wide a 0 0 := by kernel_rfl
theorem sL123_1 (k n : Nat) (wide a out k1 : Int) : L123_1 k (n + 1) wide a out k1 =
 bif decide (k1 < wide) then
  bif !decide (IntKind.u64.wrap k1 < 0) then
   L123_1 k n wide a (bitsOp .or .u64 out (bitsOp .and .u64 a (shlI .u64 1 (IntKind.u64.wrap k1)))) (IntKind.i64.wrap (k1 + 1))
  else none
 else r123 out := by kernel_rfl
/-! 124 : spec.l1Wide -/
theorem n124 (k : Nat) (wide : Int) : c124 (k + 1) wide =
 R50 (c50 k wide 1 64) fun b1 =>
 r124 b1 := by kernel_rfl
/-! 125 : spec.l2Need -/
theorem n125 (k : Nat) (op : Int) : c125 (k + 1) op =
 bif (op == 1) then
  r125 0 1 1
 else
  bif (op == 2) then
   r125 0 1 1
  else
   bif (op == 20) then
    r125 0 2 2
   else
    bif (op == 13) then
     r125 1 1 1
    else
     bif (op == 19) then
      r125 1 2 2
     else
      R50 (c50 k op 3 12) fun b1 =>
      bif b1 then
       r125 2 1 1
      else
       R50 (c50 k op 14 16) fun b2 =>
       bif b2 then
        r125 2 1 2
       else
        bif (op == 17) then
         r125 2 2 2
        else
         bif (op == 18) then
          r125 2 2 2
         else r125 0 0 0 := by kernel_rfl
/-! 126 : spec.l2N -/
theorem n126 (k : Nat) (wide vars n1 n11 : Int) : c126 (k + 1) wide vars n1 n11 =
 bif (n1 == 1) then
  R157 (c157 k wide n11) fun b1 =>
  r126 b1
 else
  bif (n1 == 2) then
   r126 (decide (n11 < IntKind.u64.wrap vars))
  else
   bif (n1 == 20) then
    r126 (decide (n11 < 2))
   else r126 (n11 == 0) := by kernel_rfl
/-! 127 : impl.isWide -/
theorem n127 (k : Nat) (n1 : Int) : c127 (k + 1) n1 =
 bif decide (n1 ≥ 1) then
  r127 (decide (n1 ≤ 64))
 else r127 false := by kernel_rfl
/-! 128 : impl.isVars -/
theorem n128 (k : Nat) (n1 : Int) : c128 (k + 1) n1 =
 bif decide (n1 ≥ 1) then
  r128 (decide (n1 ≤ 4))
 else r128 false := by kernel_rfl
/-! 129 : impl.Command] -/
theorem n129f130 (k : Nat) (qs : List PV) (n1 n11 : Int) (l l1 : List PV) : c129f130 (k + 1) qs n1 n11 l l1 =
 R158f130 (c158f130 k qs n1 n11 l l1) fun v1 v2 l2 l3 v3 =>
 r129f130 v1 v2 l2 l3 (decide (v3 ≥ 0)) := by kernel_rfl
/-! 130 : impl.GoodProgram$1 -/
theorem n130 (k : Nat) (qc qc1 : List PV) (n1 n11 : Int) (l l1 : List PV) : c130 (k + 1) qc qc1 n1 n11 l l1 =
 R131 (c131 k n1 n11 l l1 qc qc1) fun b1 =>
 r130 n1 n11 l l1 (!b1) := by kernel_rfl
/-! 131 : impl.Program).isCommand -/
theorem n131 (k : Nat) (p p1 : Int) (p2 p3 qc qc1 : List PV) : c131 (k + 1) p p1 p2 p3 qc qc1 =
 R72 (c72 k p p1 p2 p3 qc) fun b1 =>
 bif !b1 then
  r131 false
 else L131_1 k k qc1 (qc1.length : Int) 0 p p1 p2 p3 qc qc1 := by kernel_rfl
theorem sL131_1 (k n : Nat) (t13 : List PV) (t14 t15 n1 n11 : Int) (l l1 l2 l3 : List PV) : L131_1 k (n + 1) t13 t14 t15 n1 n11 l l1 l2 l3 =
 bif decide (t15 < t14) then
  (lookP t13 t15).bind fun p1 =>
  bif p1.shp 2 then
   (p1.atInt .i64 0).bind fun n2 =>
   (p1.atRow 2 1).bind fun l4 =>
   bif decide (n2 < 0) then
    r131 false
   else
    bif decide (n2 ≥ n11) then
     r131 false
    else
     bif decide (t15 > 0) then
      (lookP l3 (IntKind.i64.wrap (t15 - 1))).bind fun p2 =>
      (p2.atInt .i64 0).bind fun n3 =>
      bif decide (n3 ≥ n2) then
       r131 false
      else
       R105 (c105 k n1 n11 l4 1) fun b1 =>
       bif !b1 then
        r131 false
       else L131_1 k n t13 t14 (IntKind.i64.wrap (t15 + 1)) n1 n11 l l1 l2 l3
     else
      R105 (c105 k n1 n11 l4 1) fun b2 =>
      bif !b2 then
       r131 false
      else L131_1 k n t13 t14 (IntKind.i64.wrap (t15 + 1)) n1 n11 l l1 l2 l3
  else none
 else r131 true := by kernel_rfl
/-! 132 : spec.l7Command -/
theorem n132 (k : Nat) (p p1 : Int) (p2 p3 qc qc1 : List PV) : c132 (k + 1) p p1 p2 p3 qc qc1 =
 R43 (c43 k p p1 p2 p3 qc) fun b1 =>
 bif !b1 then
  r132 false
 else
  bif decide ((qc1.length : Int) > p1) then
   r132 false
  else L132_1 k k qc1 (qc1.length : Int) 0 p p1 p2 p3 qc qc1 := by kernel_rfl
theorem sL132_1 (k n : Nat) (t21 : List PV) (t22 t23 n1 n11 : Int) (l l1 l2 l3 : List PV) : L132_1 k (n + 1) t21 t22 t23 n1 n11 l l1 l2 l3 =
 bif decide (t23 < t22) then
  (lookP t21 t23).bind fun p1 =>
  bif p1.shp 2 then
   (p1.atInt .i64 0).bind fun n2 =>
   (p1.atRow 2 1).bind fun l4 =>
   R50 (c50 k n2 0 (IntKind.i64.wrap (n11 - 1))) fun b1 =>
   bif !b1 then
    r132 false
   else
    bif decide (t23 > 0) then
     (lookP l3 (IntKind.i64.wrap (t23 - 1))).bind fun p2 =>
     (p2.atInt .i64 0).bind fun n3 =>
     bif decide (n3 ≥ n2) then
      r132 false
     else
      R92 (c92 k n1 n11 l4) fun v1 =>
      bif (v1 != 1) then
       r132 false
      else L132_1 k n t21 t22 (IntKind.i64.wrap (t23 + 1)) n1 n11 l l1 l2 l3
    else
     R92 (c92 k n1 n11 l4) fun v2 =>
     bif (v2 != 1) then
      r132 false
     else L132_1 k n t21 t22 (IntKind.i64.wrap (t23 + 1)) n1 n11 l l1 l2 l3
  else none
 else r132 true := by kernel_rfl
/-! 134 : impl.DivWord -/
theorem n134 (k : Nat) (wide a b : Int) : c134 (k + 1) wide a b =
 R159 (c159 k wide a b) fun b1 =>
 bif !b1 then
  r134 0 0 false
 else
  bif (b == 0) then
   R99 (c99 k wide) fun v1 =>
   r134 v1 a true
  else
   R160 (c160 k 0 a b) fun v2 v3 =>
   r134 v2 v3 true := by kernel_rfl
/-! 135 : impl.shift -/
theorem n135 (k : Nat) (wide a by1 : Int) (left : Bool) : c135 (k + 1) wide a by1 left =
 bif decide (by1 ≥ IntKind.u64.wrap wide) then
  r135 0
 else
  bif left then
   bif !decide (by1 < 0) then
    R99 (c99 k wide) fun v1 =>
    r135 (bitsOp .and .u64 (shlI .u64 a by1) v1)
   else none
  else
   bif !decide (by1 < 0) then
    r135 (shrI .u64 a by1)
   else none := by kernel_rfl
/-! 136 : impl.truth -/
theorem n136 (k : Nat) (holds : Bool) : c136 (k + 1) holds =
 bif holds then
  r136 1
 else r136 0 := by kernel_rfl
/-! 137 : impl.signed -/
theorem n137 (k : Nat) (wide a : Int) : c137 (k + 1) wide a =
 bif !decide (IntKind.i64.wrap (64 - wide) < 0) then
  bif !decide (IntKind.i64.wrap (64 - wide) < 0) then
   r137 (shrI .i64 (IntKind.i64.wrap (shlI .u64 a (IntKind.i64.wrap (64 - wide)))) (IntKind.i64.wrap (64 - wide)))
  else none
 else none := by kernel_rfl
/-! 139 : impl.operandsOf -/
theorem n139 (k : Nat) (op : Int) : c139 (k + 1) op =
 bif (op == 1) then
  r139 0 0 1
 else
  bif (op == 2) then
   r139 0 0 1
  else
   bif (op == 20) then
    r139 0 0 2
   else
    bif (op == 13) then
     r139 1 1 1
    else
     bif (op == 19) then
      r139 1 2 2
     else
      bif decide (op ≥ 3) then
       bif decide (op ≤ 12) then
        r139 2 1 1
       else
        bif decide (op ≥ 14) then
         bif decide (op ≤ 16) then
          r139 2 1 2
         else
          bif (op == 17) then
           r139 2 2 2
          else
           bif (op == 18) then
            r139 2 2 2
           else r139 0 0 0
        else
         bif (op == 17) then
          r139 2 2 2
         else
          bif (op == 18) then
           r139 2 2 2
          else r139 0 0 0
      else
       bif decide (op ≥ 14) then
        bif decide (op ≤ 16) then
         r139 2 1 2
        else
         bif (op == 17) then
          r139 2 2 2
         else
          bif (op == 18) then
           r139 2 2 2
          else r139 0 0 0
       else
        bif (op == 17) then
         r139 2 2 2
        else
         bif (op == 18) then
          r139 2 2 2
         else r139 0 0 0 := by kernel_rfl
/-! 140 : impl.isLeafRight -/
theorem n140 (k : Nat) (wide vars x x1 : Int) : c140 (k + 1) wide vars x x1 =
 bif (x == 1) then
  R162 (c162 k wide x1) fun b1 =>
  r140 b1
 else
  bif (x == 2) then
   r140 (decide (x1 < IntKind.u64.wrap vars))
  else
   bif (x == 20) then
    r140 (decide (x1 ≤ 1))
   else r140 (x1 == 0) := by kernel_rfl
/-! 141 : slices.ContainsFunc[[]int,int] -/
theorem n141f142 (k : Nat) (qs : List PV) (n1 : Int) : c141f142 (k + 1) qs n1 =
 R151f142 (c151f142 k qs n1) fun v1 v2 =>
 r141f142 v1 (decide (v2 ≥ 0)) := by kernel_rfl
/-! 142 : impl.GoodTerm$1 -/
theorem n142 (k : Nat) (own n1 : Int) : c142 (k + 1) own n1 =
 r142 n1 (own != n1) := by kernel_rfl
/-! 143 : spec.l2Do -/
theorem n143 (k : Nat) (wide op a b : Int) : c143 (k + 1) wide op a b =
 R163 (c163 k wide a b) fun v1 v2 b1 =>
 bif (op == 3) then
  R123 (c123 k wide (IntKind.u64.wrap (a + b))) fun v3 =>
  r143 v3
 else
  bif (op == 4) then
   R123 (c123 k wide (IntKind.u64.wrap (a - b))) fun v4 =>
   r143 v4
  else
   bif (op == 5) then
    R123 (c123 k wide (IntKind.u64.wrap (a * b))) fun v5 =>
    r143 v5
   else
    bif (op == 6) then
     r143 v1
    else
     bif (op == 7) then
      r143 v2
     else
      bif (op == 8) then
       r143 (bitsOp .and .u64 a b)
      else
       bif (op == 17) then
        r143 (bitsOp .and .u64 a b)
       else
        bif (op == 9) then
         r143 (bitsOp .or .u64 a b)
        else
         bif (op == 18) then
          r143 (bitsOp .or .u64 a b)
         else
          bif (op == 10) then
           r143 (bitsOp .xor .u64 a b)
          else
           bif (op == 11) then
            R164 (c164 k wide a b true) fun v6 =>
            r143 v6
           else
            bif (op == 12) then
            R164 (c164 k wide a b false) fun v7 =>
            r143 v7
            else
            bif (op == 14) then
            R165 (c165 k (a == b)) fun v8 =>
            r143 v8
            else
            bif (op == 15) then
            R165 (c165 k (decide (a < b))) fun v9 =>
            r143 v9
            else
            bif (op == 16) then
            R166 (c166 k wide a) fun v10 =>
            R166 (c166 k wide b) fun v11 =>
            R165 (c165 k (decide (v10 < v11))) fun v12 =>
            r143 v12
            else r143 0 := by kernel_rfl
/-! 144 : spec.l2From -/
theorem n144 (k : Nat) (t : List PV) (k1 : Int) : c144 (k + 1) t k1 =
 (lookP t k1).bind fun p1 =>
 (p1.atInt .i64 0).bind fun n1 =>
 R125 (c125 k n1) fun v1 v2 v3 =>
 L144_1 k k t v1 k1 := by kernel_rfl
theorem sL144_1 (k n : Nat) (t : List PV) (many from1 : Int) : L144_1 k (n + 1) t many from1 =
 bif decide (many > 0) then
  R144 (c144 k t (IntKind.i64.wrap (from1 - 1))) fun v1 =>
  L144_1 k n t (IntKind.i64.wrap (many - 1)) v1
 else r144 from1 := by kernel_rfl
/-! 145 : impl.kindOf -/
theorem n145 (k : Nat) (t : List PV) : c145 (k + 1) t =
 (lookP t (IntKind.i64.wrap ((t.length : Int) - 1))).bind fun p1 =>
 (p1.atInt .i64 0).bind fun n1 =>
 R139 (c139 k n1) fun v1 v2 v3 =>
 r145 v3 := by kernel_rfl
/-! 146 : impl.marked -/
theorem n146 (k : Nat) (list : List PV) : c146 (k + 1) list =
 L146_1 k k 0 list (list.length : Int) 0 [] := by kernel_rfl
theorem sL146_1 (k n : Nat) (outLen : Nat) (t7 : List PV) (t8 t9 : Int) (xs : List PV) : L146_1 k (n + 1) outLen t7 t8 t9 xs =
 bif decide (t9 < t8) then
  (lookP t7 t9).bind fun p1 =>
  (p1.atBool 0).bind fun b1 =>
  bif b1 then
   bif decide ((outLen + 1) * 8 ≤ LIM) && decide (outLen + 1 ≤ LIM) then
    L146_1 k n (outLen + 1) t7 t8 (IntKind.i64.wrap (t9 + 1)) ((xs.take outLen) ++ [PV.int .i64 t9])
   else none
  else L146_1 k n outLen t7 t8 (IntKind.i64.wrap (t9 + 1)) xs
 else r146 (xs.take outLen) := by kernel_rfl
/-! 147 : impl.Program).stateNo -/
theorem n147 (k : Nat) (p p1 : Int) (p2 p3 qs : List PV) : c147 (k + 1) p p1 p2 p3 qs =
 L147_1 k k 0 qs (qs.length : Int) 0 p p1 p2 p3 := by kernel_rfl
theorem sL147_1 (k n : Nat) (no : Int) (t8 : List PV) (t9 t10 n1 n11 : Int) (l l1 : List PV) : L147_1 k (n + 1) no t8 t9 t10 n1 n11 l l1 =
 bif decide (t10 < t9) then
  (lookP t8 t10).bind fun p1 =>
  (p1.atInt .u64 0).bind fun n2 =>
  bif !decide (IntKind.i64.wrap (n1 * t10) < 0) then
   L147_1 k n (bitsOp .or .i64 no (shlI .i64 (IntKind.i64.wrap n2) (IntKind.i64.wrap (n1 * t10)))) t8 t9 (IntKind.i64.wrap (t10 + 1)) n1 n11 l l1
  else none
 else r147 no := by kernel_rfl
/-! 148 : impl.Program).after -/
theorem n148 (k : Nat) (p p1 : Int) (p2 p3 qc qc1 qs : List PV) : c148 (k + 1) p p1 p2 p3 qc qc1 qs =
 R167 (c167 k qs) fun l1 =>
 L148_1 k k qs l1.length qc1 (qc1.length : Int) 0 p p1 p2 p3 l1 := by kernel_rfl
theorem sL148_1 (k n : Nat) (qs : List PV) (outLen : Nat) (t13 : List PV) (t14 t15 n1 n11 : Int) (l l1 xs : List PV) : L148_1 k (n + 1) qs outLen t13 t14 t15 n1 n11 l l1 xs =
 bif decide (t15 < t14) then
  (lookP t13 t15).bind fun p1 =>
  bif p1.shp 2 then
   (p1.atInt .i64 0).bind fun n2 =>
   (p1.atRow 2 1).bind fun l2 =>
   R55 (c55 k n1 l2 qs) fun v1 =>
   bif decide ((0 : Int) ≤ n2) && decide (n2 < (outLen : Int)) then
    (xs[0 + n2.toNat]?).bind fun p2 =>
    L148_1 k n qs outLen t13 t14 (IntKind.i64.wrap (t15 + 1)) n1 n11 l l1 (xs.set (0 + n2.toNat) (PV.int .u64 v1))
   else none
  else none
 else r148 (xs.take outLen) := by kernel_rfl
/-! 151 : slices.IndexFunc[[]int,int] -/
theorem n151f111 (k : Nat) (qs l : List PV) : c151f111 (k + 1) qs l =
 L151f111_1 k k qs l (qs.length : Int) 0 := by kernel_rfl
theorem sL151f111_1 (k n : Nat) (qs l : List PV) (t7 t8 : Int) : L151f111_1 k (n + 1) qs l t7 t8 =
 bif decide (t8 < t7) then
  (lookP qs t8).bind fun p1 =>
  (p1.atInt .i64 0).bind fun n1 =>
  R111 (c111 k n1 l) fun b1 =>
  bif b1 then
   r151f111 t8
  else L151f111_1 k n qs l t7 (IntKind.i64.wrap (t8 + 1))
 else r151f111 (-1) := by kernel_rfl
theorem n151f142 (k : Nat) (qs : List PV) (n1 : Int) : c151f142 (k + 1) qs n1 =
 L151f142_1 k k qs (qs.length : Int) 0 n1 := by kernel_rfl
theorem sL151f142_1 (k n : Nat) (qs : List PV) (t7 t8 n1 : Int) : L151f142_1 k (n + 1) qs t7 t8 n1 =
 bif decide (t8 < t7) then
  (lookP qs t8).bind fun p1 =>
  (p1.atInt .i64 0).bind fun n2 =>
  R142 (c142 k n2 n1) fun v1 b1 =>
  bif b1 then
   r151f142 v1 t8
  else L151f142_1 k n qs t7 (IntKind.i64.wrap (t8 + 1)) v1
 else r151f142 n1 (-1) := by kernel_rfl
/-! 152 : slices.Index[[]int,int] -/
theorem n152 (k : Nat) (qs : List PV) (v : Int) : c152 (k + 1) qs v =
 L152_1 k k qs v (qs.length : Int) 0 := by kernel_rfl
theorem sL152_1 (k n : Nat) (qs : List PV) (v t7 t8 : Int) : L152_1 k (n + 1) qs v t7 t8 =
 bif decide (t8 < t7) then
  (lookP qs t8).bind fun p1 =>
  (p1.atInt .i64 0).bind fun n1 =>
  bif (v == n1) then
   r152 t8
  else L152_1 k n qs v t7 (IntKind.i64.wrap (t8 + 1))
 else r152 (-1) := by kernel_rfl
/-! 153 : spec.l7Enabled -/
theorem n153 (k : Nat) (p p1 : Int) (p2 p3 qs : List PV) : c153 (k + 1) p p1 p2 p3 qs =
 L153_1 k k qs 0 p3 (p3.length : Int) 0 p p1 p2 p3 [] := by kernel_rfl
theorem sL153_1 (k n : Nat) (qs : List PV) (outLen : Nat) (t9 : List PV) (t10 t11 n1 n11 : Int) (l l1 xs : List PV) : L153_1 k (n + 1) qs outLen t9 t10 t11 n1 n11 l l1 xs =
 bif decide (t11 < t10) then
  (lookP t9 t11).bind fun p1 =>
  bif p1.shp 2 then
   (p1.atRow 2 0).bind fun l2 =>
   (p1.atRow 2 1).bind fun l3 =>
   R66 (c66 k n1 n11 l l1 l2 qs) fun b1 =>
   bif b1 then
    bif decide ((outLen + 1) * 8 ≤ LIM) && decide (outLen + 1 ≤ LIM) then
     L153_1 k n qs (outLen + 1) t9 t10 (IntKind.i64.wrap (t11 + 1)) n1 n11 l l1 ((xs.take outLen) ++ [PV.int .i64 t11])
    else none
   else L153_1 k n qs outLen t9 t10 (IntKind.i64.wrap (t11 + 1)) n1 n11 l l1 xs
  else none
 else r153 (xs.take outLen) := by kernel_rfl
/-! 154 : spec.l7No -/
theorem n154 (k : Nat) (p p1 : Int) (p2 p3 qs : List PV) : c154 (k + 1) p p1 p2 p3 qs =
 L154_1 k k qs 0 (IntKind.i64.wrap (p1 - 1)) p p1 p2 p3 := by kernel_rfl
theorem sL154_1 (k n : Nat) (qs : List PV) (n1 v n11 n12 : Int) (l l1 : List PV) : L154_1 k (n + 1) qs n1 v n11 n12 l l1 =
 bif decide (v ≥ 0) then
  bif !decide (IntKind.u64.wrap n11 < 0) then
   (lookP qs v).bind fun p1 =>
   (p1.atInt .u64 0).bind fun n2 =>
   L154_1 k n qs (IntKind.i64.wrap ((shlI .i64 n1 (IntKind.u64.wrap n11)) + (IntKind.i64.wrap n2))) (IntKind.i64.wrap (v - 1)) n11 n12 l l1
  else none
 else r154 n1 := by kernel_rfl
/-! 155 : spec.l7Do -/
theorem n155 (k : Nat) (p p1 : Int) (p2 p3 qs : List PV) (k1 : Int) : c155 (k + 1) p p1 p2 p3 qs k1 =
 bif decide ((0 + qs.length) * 8 ≤ LIM) && decide (0 + qs.length ≤ LIM) then
  (lookP p3 k1).bind fun p4 =>
  (p4.atRow 2 1).bind fun l1 =>
  L155_1 k k qs (0 + qs.length) l1 (l1.length : Int) 0 p p1 p2 p3 ([] ++ qs)
 else none := by kernel_rfl
theorem sL155_1 (k n : Nat) (qs : List PV) (outLen : Nat) (t18 : List PV) (t19 t20 n1 n11 : Int) (l l1 xs : List PV) : L155_1 k (n + 1) qs outLen t18 t19 t20 n1 n11 l l1 xs =
 bif decide (t20 < t19) then
  (lookP t18 t20).bind fun p1 =>
  bif p1.shp 2 then
   (p1.atInt .i64 0).bind fun n2 =>
   (p1.atRow 2 1).bind fun l2 =>
   R103 (c103 k n1 l2 (IntKind.i64.wrap ((l2.length : Int) - 1)) qs) fun v1 =>
   bif decide ((0 : Int) ≤ n2) && decide (n2 < (outLen : Int)) then
    (xs[0 + n2.toNat]?).bind fun p2 =>
    L155_1 k n qs outLen t18 t19 (IntKind.i64.wrap (t20 + 1)) n1 n11 l l1 (xs.set (0 + n2.toNat) (PV.int .u64 v1))
   else none
  else none
 else r155 (xs.take outLen) := by kernel_rfl
end Go.Proofs.YtfinhnimlmkooaaGreat
/- Normal forms: printed by nf.py. -/
set_option linter.unusedVariables false
set_option maxRecDepth 100000
namespace Go.Proofs.YtfinhnimlmkooaaGreat
open Go.Dp
/-! 156 : impl.stepsFrom -/
theorem n156 (k : Nat) (g some1 : List PV) : c156 (k + 1) g some1 =
 R170p (c170 k [PV.int .i64 (-1)] (g.length : Int)) fun l1 =>
 R171 (c171 k some1) fun l2 =>
 L156_1 k k g l1.length l2.length some1 (some1.length : Int) 0 l1 l2 := by kernel_rfl
theorem sL156_1 (k n : Nat) (g : List PV) (stepsLen openLen : Nat) (t17 : List PV) (t18 t19 : Int) (xs xs1 : List PV) : L156_1 k (n + 1) g stepsLen openLen t17 t18 t19 xs xs1 =
 bif decide (t19 < t18) then
  (lookP t17 t19).bind fun p1 =>
  (p1.atInt .i64 0).bind fun n1 =>
  bif decide ((0 : Int) ≤ n1) && decide (n1 < (stepsLen : Int)) then
   (xs[0 + n1.toNat]?).bind fun p2 =>
   L156_1 k n g stepsLen openLen t17 t18 (IntKind.i64.wrap (t19 + 1)) (xs.set (0 + n1.toNat) (PV.int .i64 0)) xs1
  else none
 else L156_2 k k g stepsLen openLen xs xs1 := by kernel_rfl
theorem sL156_2 (k n : Nat) (g : List PV) (stepsLen openLen : Nat) (xs xs1 : List PV) : L156_2 k (n + 1) g stepsLen openLen xs xs1 =
 bif decide ((openLen : Int) > 0) then
  bif decide ((0 : Int) < (openLen : Int)) then
   (xs1[0]?).bind fun p1 =>
   (p1.atInt .i64 0).bind fun n1 =>
   (lookP g n1).bind fun p2 =>
   (p2.atRow 0 0).bind fun l1 =>
   L156_3 k n k g stepsLen openLen l1 (l1.length : Int) 0 xs xs1
  else none
 else r156 (xs.take stepsLen) := by kernel_rfl
theorem sL156_3 (k n1 n : Nat) (g : List PV) (stepsLen openLen : Nat) (t37 : List PV) (t38 t39 : Int) (xs xs1 : List PV) : L156_3 k n1 (n + 1) g stepsLen openLen t37 t38 t39 xs xs1 =
 bif decide (t39 < t38) then
  (lookP t37 t39).bind fun p1 =>
  (p1.atInt .i64 0).bind fun n2 =>
  bif decide ((0 : Int) ≤ n2) && decide (n2 < (stepsLen : Int)) then
   (xs[0 + n2.toNat]?).bind fun p2 =>
   (p2.atInt .i64 0).bind fun n3 =>
   bif decide (n3 < 0) then
    bif decide ((0 : Int) < (openLen : Int)) then
     (xs1[0]?).bind fun p3 =>
     (p3.atInt .i64 0).bind fun n4 =>
     bif decide ((0 : Int) ≤ n4) && decide (n4 < (stepsLen : Int)) then
      (xs[0 + n4.toNat]?).bind fun p4 =>
      (p4.atInt .i64 0).bind fun n5 =>
      bif decide ((0 : Int) ≤ n2) && decide (n2 < (stepsLen : Int)) then
       (xs[0 + n2.toNat]?).bind fun p5 =>
       bif decide ((openLen + 1) * 8 ≤ LIM) && decide (openLen + 1 ≤ LIM) then
        L156_3 k n1 n g stepsLen (openLen + 1) t37 t38 (IntKind.i64.wrap (t39 + 1)) (xs.set (0 + n2.toNat) (PV.int .i64 (IntKind.i64.wrap (n5 + 1)))) ((xs1.take openLen) ++ [PV.int .i64 n2])
       else none
      else none
     else none
    else none
   else L156_3 k n1 n g stepsLen openLen t37 t38 (IntKind.i64.wrap (t39 + 1)) xs xs1
  else none
 else
  bif decide ((1 : Int) ≤ (openLen : Int)) && decide ((openLen : Int) ≤ (openLen : Int)) then
   L156_4 k n1 g stepsLen 1 (openLen - 1) xs xs1
  else none := by kernel_rfl
theorem sL156_4 (k n : Nat) (g : List PV) (stepsLen openLo openLen : Nat) (xs xs1 : List PV) : L156_4 k (n + 1) g stepsLen openLo openLen xs xs1 =
 bif decide ((openLen : Int) > 0) then
  bif decide ((0 : Int) < (openLen : Int)) then
   (xs1[openLo]?).bind fun p1 =>
   (p1.atInt .i64 0).bind fun n1 =>
   (lookP g n1).bind fun p2 =>
   (p2.atRow 0 0).bind fun l1 =>
   L156_5 k n k g stepsLen openLo openLen l1 (l1.length : Int) 0 xs xs1
  else none
 else r156 (xs.take stepsLen) := by kernel_rfl
theorem sL156_5 (k n1 n : Nat) (g : List PV) (stepsLen openLo openLen : Nat) (t37 : List PV) (t38 t39 : Int) (xs xs1 : List PV) : L156_5 k n1 (n + 1) g stepsLen openLo openLen t37 t38 t39 xs xs1 =
 bif decide (t39 < t38) then
  (lookP t37 t39).bind fun p1 =>
  (p1.atInt .i64 0).bind fun n2 =>
  bif decide ((0 : Int) ≤ n2) && decide (n2 < (stepsLen : Int)) then
   (xs[0 + n2.toNat]?).bind fun p2 =>
   (p2.atInt .i64 0).bind fun n3 =>
   bif decide (n3 < 0) then
    bif decide ((0 : Int) < (openLen : Int)) then
     (xs1[openLo]?).bind fun p3 =>
     (p3.atInt .i64 0).bind fun n4 =>
     bif decide ((0 : Int) ≤ n4) && decide (n4 < (stepsLen : Int)) then
      (xs[0 + n4.toNat]?).bind fun p4 =>
      (p4.atInt .i64 0).bind fun n5 =>
      bif decide ((0 : Int) ≤ n2) && decide (n2 < (stepsLen : Int)) then
       (xs[0 + n2.toNat]?).bind fun p5 =>
       bif decide ((openLen + 1) * 8 ≤ LIM) && decide (openLen + 1 ≤ LIM) then
        L156_3 k n1 n g stepsLen (openLen + 1) t37 t38 (IntKind.i64.wrap (t39 + 1)) (xs.set (0 + n2.toNat) (PV.int .i64 (IntKind.i64.wrap (n5 + 1)))) ((((xs1).drop openLo).take openLen) ++ [PV.int .i64 n2])
       else none
      else none
     else none
    else none
   else L156_5 k n1 n g stepsLen openLo openLen t37 t38 (IntKind.i64.wrap (t39 + 1)) xs xs1
  else none
 else
  bif decide ((1 : Int) ≤ (openLen : Int)) && decide ((openLen : Int) ≤ (openLen : Int)) then
   L156_4 k n1 g stepsLen (openLo + 1) (openLen - 1) xs xs1
  else none := by kernel_rfl
/-! 157 : spec.GoodWord -/
theorem n157 (k : Nat) (wide a : Int) : c157 (k + 1) wide a =
 R124 (c124 k wide) fun b1 =>
 bif b1 then
  R123 (c123 k wide a) fun v1 =>
  r157 (v1 == a)
 else r157 false := by kernel_rfl
/-! 158 : impl.Command] -/
theorem n158f130 (k : Nat) (qs : List PV) (n1 n11 : Int) (l l1 : List PV) : c158f130 (k + 1) qs n1 n11 l l1 =
 L158f130_1 k k qs (qs.length : Int) 0 n1 n11 l l1 := by kernel_rfl
theorem sL158f130_1 (k n : Nat) (qs : List PV) (t7 t8 n1 n11 : Int) (l l1 : List PV) : L158f130_1 k (n + 1) qs t7 t8 n1 n11 l l1 =
 bif decide (t8 < t7) then
  (lookP qs t8).bind fun p1 =>
  bif p1.shp 2 then
   (p1.atRow 2 0).bind fun l2 =>
   (p1.atRow 2 1).bind fun l3 =>
   R130 (c130 k l2 l3 n1 n11 l l1) fun v1 v2 l4 l5 b1 =>
   bif b1 then
    r158f130 v1 v2 l4 l5 t8
   else L158f130_1 k n qs t7 (IntKind.i64.wrap (t8 + 1)) v1 v2 l4 l5
  else none
 else r158f130 n1 n11 l l1 (-1) := by kernel_rfl
/-! 159 : impl.areWords -/
theorem n159 (k : Nat) (wide a b : Int) : c159 (k + 1) wide a b =
 R162 (c162 k wide a) fun b1 =>
 bif b1 then
  R162 (c162 k wide b) fun b2 =>
  r159 b2
 else r159 false := by kernel_rfl
/-! 160 : bits.Div64 -/
theorem n160 (k : Nat) (hi lo y : Int) : c160 (k + 1) hi lo y =
 bif (y == 0) then
  none
 else
  bif decide (y ≤ hi) then
   none
  else
   bif (hi == 0) then
    bif !(y == 0) then
     bif !(y == 0) then
      r160 (IntKind.u64.wrap (lo.tdiv y)) (lo.tmod y)
     else none
    else none
   else
    R172 (c172 k y) fun v1 =>
    bif !decide (IntKind.u64.wrap v1 < 0) then
     bif !decide (IntKind.u64.wrap v1 < 0) then
      bif !decide (IntKind.u64.wrap (64 - (IntKind.u64.wrap v1)) < 0) then
       bif !decide (IntKind.u64.wrap v1 < 0) then
        bif !(shrI .u64 (shlI .u64 y (IntKind.u64.wrap v1)) 32 == 0) then
         L160_1 k k (shlI .u64 y (IntKind.u64.wrap v1)) (IntKind.u64.wrap v1) (shrI .u64 (shlI .u64 y (IntKind.u64.wrap v1)) 32) (bitsOp .and .u64 (shlI .u64 y (IntKind.u64.wrap v1)) 4294967295) (bitsOp .or .u64 (shlI .u64 hi (IntKind.u64.wrap v1)) (shrI .u64 lo (IntKind.u64.wrap (64 - (IntKind.u64.wrap v1))))) (shrI .u64 (shlI .u64 lo (IntKind.u64.wrap v1)) 32) (bitsOp .and .u64 (shlI .u64 lo (IntKind.u64.wrap v1)) 4294967295) (IntKind.u64.wrap ((bitsOp .or .u64 (shlI .u64 hi (IntKind.u64.wrap v1)) (shrI .u64 lo (IntKind.u64.wrap (64 - (IntKind.u64.wrap v1))))).tdiv (shrI .u64 (shlI .u64 y (IntKind.u64.wrap v1)) 32))) (IntKind.u64.wrap ((bitsOp .or .u64 (shlI .u64 hi (IntKind.u64.wrap v1)) (shrI .u64 lo (IntKind.u64.wrap (64 - (IntKind.u64.wrap v1))))) - (IntKind.u64.wrap ((IntKind.u64.wrap ((bitsOp .or .u64 (shlI .u64 hi (IntKind.u64.wrap v1)) (shrI .u64 lo (IntKind.u64.wrap (64 - (IntKind.u64.wrap v1))))).tdiv (shrI .u64 (shlI .u64 y (IntKind.u64.wrap v1)) 32))) * (shrI .u64 (shlI .u64 y (IntKind.u64.wrap v1)) 32)))))
        else none
       else none
      else none
     else none
    else none := by kernel_rfl
/-! 162 : impl.GoodWord -/
theorem n162 (k : Nat) (wide a : Int) : c162 (k + 1) wide a =
 R127 (c127 k wide) fun b1 =>
 bif b1 then
  R99 (c99 k wide) fun v1 =>
  r162 (decide (a ≤ v1))
 else r162 false := by kernel_rfl
/-! 163 : spec.DivWord -/
theorem n163 (k : Nat) (wide a b : Int) : c163 (k + 1) wide a b =
 R174 (c174 k wide a b) fun b1 =>
 bif !b1 then
  r163 0 0 false
 else
  bif (b == 0) then
   R123 (c123 k wide 18446744073709551615) fun v1 =>
   r163 v1 a true
  else
   bif !(b == 0) then
    bif !(b == 0) then
     r163 (IntKind.u64.wrap (a.tdiv b)) (a.tmod b) true
    else none
   else none := by kernel_rfl
/-! 164 : spec.l1Shift -/
theorem n164 (k : Nat) (wide a by1 : Int) (left : Bool) : c164 (k + 1) wide a by1 left =
 bif decide (by1 ≥ IntKind.u64.wrap wide) then
  r164 0
 else L164_1 k k wide a by1 left := by kernel_rfl
theorem sL164_1 (k n : Nat) (wide a by1 : Int) (left : Bool) : L164_1 k (n + 1) wide a by1 left =
 bif decide (by1 > 0) then
  bif left then
   R123 (c123 k wide (shlI .u64 a 1)) fun v1 =>
   L164_1 k n wide v1 (IntKind.u64.wrap (by1 - 1)) left
  else L164_1 k n wide (shrI .u64 a 1) (IntKind.u64.wrap (by1 - 1)) left
 else r164 a := by kernel_rfl
/-! 165 : spec.l2Bool -/
theorem n165 (k : Nat) (is1 : Bool) : c165 (k + 1) is1 =
 bif is1 then
  r165 1
 else r165 0 := by kernel_rfl
/-! 166 : spec.l1Signed -/
theorem n166 (k : Nat) (wide a : Int) : c166 (k + 1) wide a =
 bif !decide (IntKind.u64.wrap (IntKind.i64.wrap (wide - 1)) < 0) then
  bif (bitsOp .and .u64 (shrI .u64 a (IntKind.u64.wrap (IntKind.i64.wrap (wide - 1)))) 1 == 1) then
   R123 (c123 k wide 18446744073709551615) fun v1 =>
   r166 (IntKind.i64.wrap (bitsOp .or .u64 a (bitsOp .xor .u64 18446744073709551615 v1)))
  else r166 (IntKind.i64.wrap a)
 else none := by kernel_rfl
/-! 167 : slices.Clone[[]uint64,uint64] -/
theorem n167 (k : Nat) (qs : List PV) (h1 : qs.length * 8 ≤ LIM) (h2 : qs.length ≤ LIM) : c167 (k + 1) qs = r167 qs := evF_T (by first | (simp [T, orT, numT, cloneT, clones, lk, h1, h2] <;> rfl) | (simp [T, cloneT, clones, lk, h1, h2] <;> rfl))
/-! 170 : slices.Repeat[[]int,int] -/
theorem n170 (k : Nat) (x : List PV) (count : Int) : c170 (k + 1) x count =
 bif decide (count < 0) then
  none
 else
  R186 (c186 k (IntKind.u64.wrap (x.length : Int)) (IntKind.u64.wrap count)) fun v1 v2 =>
  bif decide (v1 > 0) then
   none
  else
   bif decide (v2 > 9223372036854775807) then
    none
   else
    bif (IntKind.i64.wrap v2 == IntKind.i64.wrap v2) && decide ((0 : Int) ≤ IntKind.i64.wrap v2) && decide (((IntKind.i64.wrap v2).toNat) * 8 ≤ LIM) && decide ((IntKind.i64.wrap v2).toNat ≤ LIM) then
     L170_1 k k ((IntKind.i64.wrap v2).toNat) ((min x.length ((IntKind.i64.wrap v2).toNat) : Nat) : Int) ((((List.replicate ((IntKind.i64.wrap v2).toNat) (PV.int .i64 0)).take 0) ++ (x.take (min x.length ((IntKind.i64.wrap v2).toNat)))) ++ ((List.replicate ((IntKind.i64.wrap v2).toNat) (PV.int .i64 0)).drop (0 + (x.take (min x.length ((IntKind.i64.wrap v2).toNat))).length)))
    else none := by kernel_rfl
theorem sL170_1 (k n : Nat) (newsliceLen : Nat) (n1 : Int) (xs : List PV) : L170_1 k (n + 1) newsliceLen n1 xs =
 bif decide (n1 < (newsliceLen : Int)) then
  bif decide ((0 : Int) ≤ n1) && decide (n1 ≤ (newsliceLen : Int)) && decide ((newsliceLen : Int) ≤ (newsliceLen : Int)) then
   bif decide ((0 : Int) ≤ n1) && decide (n1 ≤ (newsliceLen : Int)) then
    L170_1 k n newsliceLen (IntKind.i64.wrap (n1 + ((min ((xs.take n1.toNat).length) (newsliceLen - n1.toNat) : Nat) : Int))) (((xs.take (0 + n1.toNat)) ++ ((xs.take n1.toNat).take (min ((xs.take n1.toNat).length) (newsliceLen - n1.toNat)))) ++ ((xs).drop (0 + n1.toNat + ((xs.take n1.toNat).take (min ((xs.take n1.toNat).length) (newsliceLen - n1.toNat))).length)))
   else none
  else none
 else r170 (xs.take newsliceLen) := by kernel_rfl
/-! 171 : slices.Clone[[]int,int] -/
theorem n171 (k : Nat) (qs : List PV) (h1 : qs.length * 8 ≤ LIM) (h2 : qs.length ≤ LIM) : c171 (k + 1) qs = r171 qs := evF_T (by first | (simp [T, orT, numT, cloneT, clones, lk, h1, h2] <;> rfl) | (simp [T, cloneT, clones, lk, h1, h2] <;> rfl))
/-! 172 : bits.LeadingZeros64 -/
/-! 174 : spec.l1Both -/
theorem n174 (k : Nat) (wide a b : Int) : c174 (k + 1) wide a b =
 R157 (c157 k wide a) fun b1 =>
 bif b1 then
  R157 (c157 k wide b) fun b2 =>
  r174 b2
 else r174 false := by kernel_rfl
/-! 185 : bits.Len64 -/
/-! 186 : bits.Mul -/
theorem n186 (k : Nat) (x y : Int) : c186 (k + 1) x y =
 R194 (c194 k x y) fun v1 v2 =>
 r186 v1 v2 := by kernel_rfl
end Go.Proofs.YtfinhnimlmkooaaGreat
/- Normal forms: printed by nf.py. -/
set_option linter.unusedVariables false
set_option maxRecDepth 100000
namespace Go.Proofs.YtfinhnimlmkooaaGreat
open Go.Dp
/-! 194 : bits.Mul64 -/
theorem n194 (k : Nat) (x y : Int) : c194 (k + 1) x y =
 r194 (IntKind.u64.wrap ((IntKind.u64.wrap ((IntKind.u64.wrap ((shrI .u64 x 32) * (shrI .u64 y 32))) + (shrI .u64 (IntKind.u64.wrap ((IntKind.u64.wrap ((shrI .u64 x 32) * (bitsOp .and .u64 y 4294967295))) + (shrI .u64 (IntKind.u64.wrap ((bitsOp .and .u64 x 4294967295) * (bitsOp .and .u64 y 4294967295))) 32))) 32))) + (shrI .u64 (IntKind.u64.wrap ((bitsOp .and .u64 (IntKind.u64.wrap ((IntKind.u64.wrap ((shrI .u64 x 32) * (bitsOp .and .u64 y 4294967295))) + (shrI .u64 (IntKind.u64.wrap ((bitsOp .and .u64 x 4294967295) * (bitsOp .and .u64 y 4294967295))) 32))) 4294967295) + (IntKind.u64.wrap ((bitsOp .and .u64 x 4294967295) * (shrI .u64 y 32))))) 32))) (IntKind.u64.wrap (x * y)) := by kernel_rfl
end Go.Proofs.YtfinhnimlmkooaaGreat
