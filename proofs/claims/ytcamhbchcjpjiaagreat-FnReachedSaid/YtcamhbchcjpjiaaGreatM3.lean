/- Srt0; Srt; Env; Cs; Nf0; Nf1; Nf2; Nf3; Nf4; Kb: texts put together. -/
import Derived.Test.YtcamhbchcjpjiaaGreatProg
import Derived.Shelf.Sort.Plain
import Derived.Shelf.Slices.CompactI
import Derived.Shelf.Slices.In.SortNone
import Derived.Ground.NamesProg
import Derived.Ground.Names2Prog
import Derived.Test.YtcamhbchcjpjiaaGreatM2
import Derived.Sort.OwnSortedInts
/-
  DERIVED: THE SHELF's CONTRACTS AT THIS DUMP, IN PLAIN WORDS (tools/lay-plain.mjs out of 'YtcamhbchcjpjiaaGreatSrt0.lean', which tools/lay-shelf.mjs wrote): THE SAME DECLARATIONS UNDER THE SAME NAMES: 'import', 'namespace', 'open', 'def', 'theorem' AND NOTHING ELSE: no command of the shelf's: FOR A HAND-IN. Each laying: the table of numbers ('.._ren') and one theorem, a field a fact of the dump's own or the kernel's comparison; each contract: ONE APPLICATION.
-/
namespace Go.Proofs
open Go.Shelf
def YtcamhbchcjpjiaaGreat.lays189_ren : Go.Shelf.Ren := ⟨fun | 189 => 111 | 125 => 147 | 257 => 146 | 128 => 171 | 129 => 172 | 294 => 162 | 295 => 163 | 296 => 164 | 297 => 165 | 298 => 166 | 299 => 167 | 216 => 168 | 300 => 169 | 301 => 170 | 328 => 183 | 329 => 184 | 330 => 185 | 331 => 186 | 332 => 187 | 215 => 188 | 343 => 191 | n => n, fun | 28 => 36 | 3 => 3 | 46 => 33 | 0 => 0 | 51 => 161 | 53 => 57 | 4 => 4 | 183 => 156 | 182 => 155 | 131 => 53 | 5 => 5 | 9 => 9 | 218 => 170 | 222 => 174 | 228 => 178 | 229 => 179 | n => n, fun | n => n⟩
theorem YtcamhbchcjpjiaaGreat.lays189 : Go.Proofs.Lays.n189 Tryz.prog YtcamhbchcjpjiaaGreat.lays189_ren := {
  mixed := by kernel_rfl
  f125 := Tryz.func147.trans (congrArg some (by kernel_rfl))
  f128 := Tryz.func171.trans (congrArg some (by kernel_rfl))
  f129 := Tryz.func172.trans (congrArg some (by kernel_rfl))
  f189 := Tryz.func111.trans (congrArg some (by kernel_rfl))
  f215 := Tryz.func188.trans (congrArg some (by kernel_rfl))
  f216 := Tryz.func168.trans (congrArg some (by kernel_rfl))
  f257 := Tryz.func146.trans (congrArg some (by kernel_rfl))
  f294 := Tryz.func162.trans (congrArg some (by kernel_rfl))
  f295 := Tryz.func163.trans (congrArg some (by kernel_rfl))
  f296 := Tryz.func164.trans (congrArg some (by kernel_rfl))
  f297 := Tryz.func165.trans (congrArg some (by kernel_rfl))
  f298 := Tryz.func166.trans (congrArg some (by kernel_rfl))
  f299 := Tryz.func167.trans (congrArg some (by kernel_rfl))
  f300 := Tryz.func169.trans (congrArg some (by kernel_rfl))
  f301 := Tryz.func170.trans (congrArg some (by kernel_rfl))
  f328 := Tryz.func183.trans (congrArg some (by kernel_rfl))
  f329 := Tryz.func184.trans (congrArg some (by kernel_rfl))
  f330 := Tryz.func185.trans (congrArg some (by kernel_rfl))
  f331 := Tryz.func186.trans (congrArg some (by kernel_rfl))
  f332 := Tryz.func187.trans (congrArg some (by kernel_rfl))
  f343 := Tryz.func191.trans (congrArg some (by kernel_rfl))
  t0 := Tryz.underlying0
  a0 := Tryz.isAgg0
  z0 := Tryz.sizeOf0
  v0 := Tryz.zeroValue0
  t3 := Tryz.underlying3
  a3 := Tryz.isAgg3
  z3 := Tryz.sizeOf3
  v3 := Tryz.zeroValue3
  t4 := Tryz.underlying4
  a4 := Tryz.isAgg4
  z4 := Tryz.sizeOf4
  v4 := Tryz.zeroValue4
  t5 := Tryz.underlying5
  a5 := Tryz.isAgg5
  z5 := Tryz.sizeOf5
  v5 := Tryz.zeroValue5
  t9 := Tryz.underlying9
  a9 := Tryz.isAgg9
  z9 := Tryz.sizeOf9
  v9 := Tryz.zeroValue9
  t28 := Tryz.underlying36
  a28 := Tryz.isAgg36
  z28 := Tryz.sizeOf36
  v28 := Tryz.zeroValue36
  t46 := Tryz.underlying33
  a46 := Tryz.isAgg33
  z46 := Tryz.sizeOf33
  v46 := Tryz.zeroValue33
  t51 := Tryz.underlying161
  a51 := Tryz.isAgg161
  z51 := Tryz.sizeOf161
  v51 := Tryz.zeroValue161
  t53 := Tryz.underlying57
  a53 := Tryz.isAgg57
  z53 := Tryz.sizeOf57
  v53 := Tryz.zeroValue57
  t131 := Tryz.underlying53
  a131 := Tryz.isAgg53
  z131 := Tryz.sizeOf53
  v131 := Tryz.zeroValue53
  t182 := Tryz.underlying155
  a182 := Tryz.isAgg155
  z182 := Tryz.sizeOf155
  v182 := Tryz.zeroValue155
  t183 := Tryz.underlying156
  a183 := Tryz.isAgg156
  z183 := Tryz.sizeOf156
  v183 := Tryz.zeroValue156
  t218 := Tryz.underlying170
  a218 := Tryz.isAgg170
  z218 := Tryz.sizeOf170
  v218 := Tryz.zeroValue170
  t222 := Tryz.underlying174
  a222 := Tryz.isAgg174
  z222 := Tryz.sizeOf174
  v222 := Tryz.zeroValue174
  t228 := Tryz.underlying178
  a228 := Tryz.isAgg178
  z228 := Tryz.sizeOf178
  v228 := Tryz.zeroValue178
  t229 := Tryz.underlying179
  a229 := Tryz.isAgg179
  z229 := Tryz.sizeOf179
  v229 := Tryz.zeroValue179 }
def YtcamhbchcjpjiaaGreat.lays20_ren : Go.Shelf.Ren := ⟨fun | 20 => 112 | n => n, fun | 22 => 36 | 3 => 3 | 4 => 4 | 0 => 0 | n => n, fun | n => n⟩
theorem YtcamhbchcjpjiaaGreat.lays20 : Go.Proofs.Lays2.n20 Tryz.prog YtcamhbchcjpjiaaGreat.lays20_ren := {
  mixed := by kernel_rfl
  f20 := Tryz.func112.trans (congrArg some (by kernel_rfl))
  t0 := Tryz.underlying0
  a0 := Tryz.isAgg0
  z0 := Tryz.sizeOf0
  v0 := Tryz.zeroValue0
  t3 := Tryz.underlying3
  a3 := Tryz.isAgg3
  z3 := Tryz.sizeOf3
  v3 := Tryz.zeroValue3
  t4 := Tryz.underlying4
  a4 := Tryz.isAgg4
  z4 := Tryz.sizeOf4
  v4 := Tryz.zeroValue4
  t22 := Tryz.underlying36
  a22 := Tryz.isAgg36
  z22 := Tryz.sizeOf36
  v22 := Tryz.zeroValue36
  i3 := by kernel_rfl }
end Go.Proofs
/- The library's sort and its compacting, at rows of integers of one's own: the shelf's contracts, at this program. -/
set_option linter.unusedVariables false
namespace Go.Proofs.YtcamhbchcjpjiaaGreat
open Go.Dp Go.Sort Go.RowKit
theorem putCells_at (cur : Array Value) (bo : Nat) (ts : List Int) (h : ts = [] ∨ bo + ts.length ≤ cur.size) : (putCells (Value.int .i64) bo ts.toArray cur).toList = cur.toList.take bo ++ (ts.map (Value.int .i64) ++ cur.toList.drop (bo + ts.length)) := by
  rcases h with rfl | h
  · rw [show (putCells (Value.int .i64) bo ([] : List Int).toArray cur) = cur from by
      apply Array.ext_getElem?
      intro j
      by_cases hj : j < cur.size <;> simp [putCells, hj] <;> omega]
    simp
  apply List.ext_getElem?
  intro j
  rw [Array.getElem?_toList]
  by_cases hj : j < bo
  · rw [List.getElem?_append_left (by (simp; try omega)), List.getElem?_take_of_lt hj]
    simp [putCells, show ¬ (bo ≤ j) by omega, show j < cur.size by omega]
  · have hlt : cur.toList.length = cur.size := Array.length_toList
    rw [List.getElem?_append_right (by rw [List.length_take]; omega), List.length_take, hlt, Nat.min_eq_left (by omega)]
    by_cases hj2 : j < bo + ts.length
    · rw [List.getElem?_append_left (by (simp; try omega))]
      simp [putCells, hj2, show bo ≤ j by omega, show j < cur.size by omega, show j - bo < ts.length by omega]
    · rw [List.getElem?_append_right (by (simp; try omega)), List.length_map, List.getElem?_drop]
      have ej : bo + ts.length + (j - bo - ts.length) = j := by omega
      rw [ej]
      by_cases hc : j < cur.size
      · simp [putCells, hj2, hc]
      · rw [Array.getElem?_eq_none (by (simp [putCells]; try omega)), List.getElem?_eq_none (by (simp; try omega))]
theorem holds_at {w : World} {g bo : Nat} {cur : Array Value} {e : TypeId} {ss : List Int} (hb : w.heap[g]? = some (.cells cur e (0, 0))) (ht : (cur.toList.drop bo).take ss.length = ss.map (Value.int .i64)) : Holds (Value.int .i64) w g bo ss.toArray := by
  intro j hj
  have hj' : j < ss.length := by simpa using hj
  refine ⟨?_, by simp [World.frozen?, hb]⟩
  have h1 : ((cur.toList.drop bo).take ss.length)[j]? = (ss.map (Value.int .i64))[j]? := by rw [ht]
  rw [List.getElem?_take_of_lt hj', List.getElem?_drop] at h1
  simp only [World.cell?, hb]
  simp only [Option.isSome_none, Bool.false_eq_true, if_false]
  rw [← Array.getElem?_toList, h1]
  simp [hj']
theorem put_wd {w : World} {b bo n : Nat} {os : Array Obj} {cu : Array Value} {e : TypeId} {d : List Int} (hb : w.heap[b]? = some (.cells cu e (0, 0))) (hd : d = [] ∨ bo + d.length ≤ cu.size) :
    Wd w (grow (putRow (Value.int .i64) (Sort.ahead w n) b bo d.toArray) os) ∧ (∀ k, k < w.heap.size → k ≠ b → (grow (putRow (Value.int .i64) (Sort.ahead w n) b bo d.toArray) os).heap[k]? = w.heap[k]?) ∧
      ∃ cu', (grow (putRow (Value.int .i64) (Sort.ahead w n) b bo d.toArray) os).heap[b]? = some (.cells cu' e (0, 0)) ∧ cu'.size = cu.size ∧ cu'.toList = cu.toList.take bo ++ (d.map (Value.int .i64) ++ cu.toList.drop (bo + d.length)) := by
  have hg : b < w.heap.size := (Array.getElem?_eq_some_iff.1 hb).1
  refine ⟨⟨rfl, rfl, rfl, by simp⟩, fun k hk hne => ?_, putCells (Value.int .i64) bo d.toArray cu, ?_, by simp [putCells], putCells_at cu bo d hd⟩
  · rw [heap_grow_old _ _ (by simpa using hk)]
    simp [putRow, mapBlock, Sort.ahead, Array.getElem?_modify, Ne.symm hne]
  · rw [heap_grow_old _ _ (by simpa using hg)]
    simp [putRow, mapBlock, Sort.ahead, Array.getElem?_modify, hb, onCells]
theorem size_at {cu : Array Value} {bo : Nat} {zs : List Int} (h : (cu.toList.drop bo).take zs.length = zs.map (Value.int .i64)) : zs = [] ∨ bo + zs.length ≤ cu.size := by
  cases hz : zs with
  | nil => exact .inl rfl
  | cons z t =>
    right
    have := congrArg List.length h
    simp [hz] at this
    simp
    omega
theorem sort_ok : SortOK Tryz.prog 1 111 where
  enters := ⟨Tryz.f111, Tryz.func111, by kernel_rfl, by decide⟩
  empty w p cap := Any.slices_Sort_int_none YtcamhbchcjpjiaaGreat.lays189 p cap w
  row w b bo cap zs cu e hb ht hc hl := by
    have hH : Holds (Value.int .i64) w b bo zs.toArray := holds_at hb ht
    have hlt := (Array.getElem?_eq_some_iff.1 hb).1
    refine Calls.mono (Any.slices_Sort_int YtcamhbchcjpjiaaGreat.lays189 b bo cap zs w hH hlt (by unfold LIM at hl; omega)) ?_
    rintro e' w' ⟨rfl, n, os, rfl⟩
    have hsz := size_at ht
    have hl2 : (zs.mergeSort fun x y => decide (x ≤ y)).length = zs.length := List.length_mergeSort zs
    have := put_wd (n := n) (os := os) (d := zs.mergeSort fun x y => decide (x ≤ y)) hb (hsz.imp (fun h => List.eq_nil_of_length_eq_zero (by rw [hl2, h]; rfl)) (fun h => by rw [hl2]; exact h))
    rw [hl2] at this
    exact ⟨rfl, this⟩
theorem comp_ok : SortOK Tryz.prog 2 112 where
  enters := ⟨Tryz.f112, Tryz.func112, by kernel_rfl, by decide⟩
  empty w p cap := Any.slices_Compact_int_empty YtcamhbchcjpjiaaGreat.lays20 p cap w
  row w b bo cap zs cu e hb ht hc hl := by
    have hH : Holds (Value.int .i64) w b bo zs.toArray := holds_at hb ht
    refine Calls.mono (Any.slices_Compact_int YtcamhbchcjpjiaaGreat.lays20 b bo cap zs w hH (by unfold LIM at hl; omega) hc) ?_
    rintro e' w' ⟨rfl, n, rfl⟩
    have hsz := size_at ht
    have hcl := compI_le zs
    have hl2 : (Lib.compact zs ++ List.replicate (zs.length - (Lib.compact zs).length) 0).length = zs.length := by
      have : (Lib.compact zs).length ≤ zs.length := hcl
      simp
      omega
    have := put_wd (n := n) (os := #[]) (d := Lib.compact zs ++ List.replicate (zs.length - (Lib.compact zs).length) 0) hb (hsz.imp (fun h => List.eq_nil_of_length_eq_zero (by rw [hl2, h]; rfl)) (fun h => by rw [hl2]; exact h))
    rw [hl2, grow_empty] at this
    exact ⟨rfl, this⟩
end Go.Proofs.YtcamhbchcjpjiaaGreat
/- What the evaluator is told of the program's types, loops and functions: printed by nf.py. -/
namespace Go.Proofs.YtcamhbchcjpjiaaGreat
open Go.Dp
def tabs : Tabs where
  sl := [(22, (5, 0, 1)), (24, (68, 2, 16)), (25, (65, 2, 48)), (36, (3, 0, 8)), (63, (111, 2, 32)), (74, (57, 0, 8)),
  (90, (36, 0, 24))]
  sh := [(2, 0), (3, 0), (4, 0), (5, 0), (9, 0), (22, 0), (24, 0), (25, 0), (27, 4), (33, 0), (36, 0), (56, 0), (57, 0), (59, 3), (63, 0), (65, 2), (68, 2), (74, 0), (78, 0), (90, 0),
  (104, 0), (111, 2), (161, 0)]
  fl := [(27, [some (0, 0), some (1, 0), some (2, 0), some (3, 0)]), (59, [some (0, 0), some (1, 0), some (2, 0)]), (65, [some (0, 0), some (1, 0)]), (68, [some (0, 0), some (1, 0)]), (111, [some (0, 0), some (1, 0)])]
  ik := [(2, .i64), (3, .i64), (5, .u8), (33, .u64), (57, .u64), (161, .u32)]
  zr := [(2, [.int .i64 0]), (3, [.int .i64 0]), (4, [.bool false]), (5, [.int .u8 0]), (9, [.str ⟨#[]⟩]), (22, [.row 0 2 []]),
  (24, [.row 0 2 []]), (25, [.row 0 2 []]), (27, [.int .i64 0, .int .i64 0, .row 0 2 [], .row 0 2 []]), (33, [.int .u64 0]), (36, [.row 0 2 []]), (57, [.int .u64 0]),
  (59, [.row 0 2 [], .int .i64 0, .int .u64 0]), (63, [.row 0 2 []]), (65, [.row 0 2 [], .row 0 2 []]), (68, [.int .i64 0, .int .u64 0]), (74, [.row 0 2 []]), (90, [.row 0 2 []]),
  (111, [.int .i64 0, .row 0 2 []]), (161, [.int .u32 0])]
  eqs := [(68, [0, 0])]
  bl := [(4, ())]
  st := [(9, ())]
  flat := [(2, ()), (3, ()), (4, ()), (5, ()), (9, ()), (33, ()), (57, ()), (68, ()), (161, ())]
def tLive : List (Nat × List (Nat × List Nat)) := [(5, [(0, [1, 5, 6, 14, 111, 112, 113])]), (19, [(0, [0, 1, 12, 13])]), (23, [(0, [1, 7, 8, 9])]),
  (29, [(0, [1, 7, 8, 9])]), (33, [(0, [1, 4, 13, 14, 15])]), (34, [(0, [1, 4, 11, 12, 13])]),
  (37, [(0, [1, 2, 6])]), (38, [(0, [2, 4, 5, 6, 8])]), (39, [(0, [1, 2, 6, 7])]),
  (40, [(0, [0, 2, 3, 4])]), (52, [(0, [1, 2, 5, 9, 10])]), (53, [(0, [1, 2, 5, 6, 14, 15, 16])]),
  (62, [(0, [1, 2, 9, 10, 11])]), (65, [(0, [1, 2, 5, 6, 14, 15, 16])]), (69, [(0, [5, 11, 12, 13])]),
  (70, [(0, [3, 11, 12, 13]), (2, [3, 4, 11, 12, 13, 18, 19, 20])]), (71, [(0, [1, 3, 7, 8])]), (72, [(0, [1, 2, 5, 9, 10])]),
  (78, [(0, [1, 3])]), (80, [(0, [1, 2, 5, 6])]), (81, [(0, [0, 1, 5])]),
  (86, [(0, [1, 2, 5, 6])]), (89, [(0, [1, 2, 5, 9, 10, 11])]), (90, [(0, [0, 7, 8, 18, 19, 20]), (2, [0, 7, 11, 12])]),
  (91, [(0, [0, 5, 6, 17, 18, 19]), (2, [0, 5, 6]), (4, [0, 5, 6, 37, 38, 39])]), (94, [(0, [1, 2, 6, 8, 9]), (2, [1, 2, 6, 8, 28, 29, 30])]), (96, [(0, [1, 7, 8, 9])]),
  (98, [(0, [0, 1, 2, 6, 7, 8])]), (101, [(0, [0, 1, 7, 33, 34, 35])]), (103, [(0, [1, 18, 19, 20])]),
  (107, [(0, [0, 2, 7, 12, 13, 14])]), (109, [(0, [2, 5, 8, 9, 10])]), (110, [(0, [2, 3, 7, 13, 14, 15])]),
  (114, [(0, [0, 1, 7, 8])]), (116, [(0, [1, 2, 5, 6])]), (117, [(0, [1, 3, 7, 18, 19, 20])]),
  (119, [(0, [0, 1, 7, 27, 28, 29]), (2, [0, 1, 7, 10, 11, 12, 27, 28, 29])]), (120, [(0, [5, 10, 11, 12])]), (121, [(0, [2, 5, 10, 11, 12]), (2, [2, 5, 10, 11, 12, 18, 19, 20])]),
  (125, [(0, [0, 1, 7, 8])]), (127, [(0, [7, 8])]), (129, [(0, [0, 1, 7, 8])]),
  (130, [(0, [1, 2, 6, 7])]), (131, [(0, [2, 3, 4, 9])]), (132, [(0, [0, 1, 2, 6, 7, 8])]),
  (136, [(0, [2, 3, 13, 14, 15])]), (141, [(0, [2, 3, 21, 22, 23])]), (148, [(0, [0, 1, 5, 6])]),
  (153, [(0, [0, 5, 8])]), (175, [(0, [0, 1, 2, 3])]), (182, [(0, [2, 8, 9, 10, 11, 13, 14, 15, 16]), (2, [2, 8, 9, 10, 14, 15, 16, 17, 18])])]
def tRk : List (Nat × List RK) := [(5, [.c (.p (.bool))]), (6, [.c (.p (.bool))]), (12, [.c (.p (.row 0)), .c (.p (.bool))]), (18, [.c (.p (.row 0)), .c (.p (.bool))]), (19, [.c (.p (.bool))]), (21, [.c (.p (.row 0)), .c (.p (.bool))]),
  (22, [.c (.p (.row 0)), .c (.p (.bool))]), (23, [.c (.p (.bool))]), (29, [.c (.p (.bool))]), (30, [.agg [.p (.int .i64), .p (.int .i64), .p (.row 2), .p (.row 2)]]), (31, [.c (.p (.row 0)), .c (.p (.bool))]), (32, [.c (.p (.row 0)), .c (.p (.bool))]),
  (33, [.c (.p (.row 0)), .c (.p (.bool))]), (34, [.c (.p (.row 0)), .c (.p (.bool))]), (35, [.c (.p (.row 0)), .c (.p (.bool))]), (36, [.c (.p (.int .i64)), .c (.p (.bool))]), (37, [.c (.p (.bool)), .c (.p (.bool))]), (38, [.agg [.p (.int .i64), .p (.int .i64), .p (.row 2), .p (.row 2)], .c (.p (.row 0))]),
  (39, [.c (.p (.bool)), .c (.p (.bool))]), (40, [.agg [.p (.int .i64), .p (.int .i64), .p (.row 2), .p (.row 2)]]), (49, [.c (.p (.bool))]), (50, [.c (.p (.bool))]), (51, [.c (.p (.bool))]), (52, [.c (.p (.row 0))]),
  (53, [.c (.p (.row 0))]), (54, [.c (.p (.int .i64))]), (55, [.c (.p (.bool))]), (57, [.c (.p (.bool))]), (62, [.c (.p (.bool))]), (63, [.c (.p (.int .i64))]),
  (64, [.c (.p (.bool))]), (65, [.c (.p (.row 0))]), (66, [.c (.p (.bool))]), (68, [.c (.p (.int .i64))]), (69, [.c (.p (.row 0))]), (70, [.c (.p (.row 0))]),
  (71, [.c (.p (.row 0))]), (72, [.c (.p (.row 0))]), (73, [.c (.p (.row 0))]), (74, [.c (.own 68 2)]), (76, [.c (.p (.bool))]), (77, [.c (.p (.bool))]),
  (78, [.c (.p (.row 0))]), (79, [.c (.p (.bool))]), (80, [.c (.p (.row 0))]), (81, [.c (.own 3 0)]), (83, [.c (.p (.int .i64))]), (85, [.agg [.p (.int .i64), .p (.int .i64), .p (.row 2), .p (.row 2)]]),
  (86, [.c (.p (.row 0))]), (87, [.c (.p (.bool))]), (88, [.c (.p (.bool))]), (89, [.c (.p (.row 0))]), (90, [.c (.p (.row 0))]), (91, [.c (.p (.row 0))]),
  (92, [.c (.p (.bool))]), (93, [.c (.p (.bool))]), (94, [.c (.own 3 0), .c (.p (.bool))]), (95, [.c (.p (.bool))]), (96, [.c (.p (.bool))]), (97, [.c (.p (.int .i64))]),
  (98, [.agg [.p (.int .i64), .p (.int .i64), .p (.row 2), .own ⟨65, some ⟨1, 111, 2, 0, none⟩⟩ 2]]), (99, [.c (.p (.bool))]), (101, [.c (.p (.bool))]), (103, [.c (.p (.bool))]), (106, [.c (.p (.bool))]), (107, [.c (.p (.int .u64))]),
  (108, [.c (.p (.int .u64))]), (109, [.c (.p (.int .i64))]), (110, [.c (.p (.row 0))]), (113, [.c (.p (.int .i64))]), (114, [.c (.p (.int .i64))]), (116, [.c (.p (.int .i64))]),
  (117, [.c (.p (.row 0))]), (118, [.c (.own 68 2)]), (119, [.c (.p (.int .i64))]), (120, [.c (.p (.row 0))]), (121, [.c (.p (.row 0))]), (122, [.c (.p (.int .u64))]),
  (123, [.c (.own 3 0)]), (125, [.c (.p (.int .i64))]), (126, [.c (.p (.bool))]), (127, [.c (.own 3 0)]), (128, [.c (.own 3 0)]), (129, [.c (.p (.int .i64))]),
  (130, [.c (.p (.int .i64)), .c (.p (.bool))]), (131, [.c (.p (.bool))]), (132, [.agg [.p (.row 2), .own 111 2]]), (133, [.c (.p (.bool))]), (134, [.c (.p (.bool))]), (135, [.c (.p (.bool))]),
  (136, [.c (.p (.bool))]), (138, [.c (.p (.int .i64)), .c (.p (.int .i64)), .c (.p (.int .i64))]), (139, [.c (.p (.bool))]), (140, [.c (.p (.bool))]), (141, [.c (.p (.bool))]), (143, [.c (.p (.int .i64))]),
  (144, [.c (.p (.int .u64))]), (145, [.c (.own 57 0)]), (148, [.c (.p (.int .u64))]), (149, [.c (.p (.bool))]), (150, [.c (.p (.int .i64)), .c (.p (.int .i64)), .c (.p (.int .i64))]), (151, [.c (.p (.bool))]),
  (152, [.c (.p (.int .u64))]), (153, [.c (.p (.int .i64))]), (154, [.c (.p (.int .u64)), .c (.p (.int .u64))]), (157, [.c (.p (.bool))]), (158, [.c (.p (.int .u64)), .c (.p (.int .u64)), .c (.p (.bool))]), (159, [.c (.p (.int .u64))]),
  (160, [.c (.p (.int .u64))]), (161, [.c (.p (.int .i64))]), (172, [.c (.p (.int .i64))]), (173, [.c (.p (.bool))]), (174, [.c (.p (.int .u64)), .c (.p (.int .u64)), .c (.p (.bool))]), (175, [.c (.p (.int .u64))]),
  (176, [.c (.p (.int .u64))]), (177, [.c (.p (.int .i64))]), (179, [.c (.p (.int .u64)), .c (.p (.int .u64))]), (181, [.c (.p (.bool))]), (182, [.c (.p (.int .u64)), .c (.p (.int .u64))]), (189, [.c (.p (.bool))]),
  (190, [.c (.p (.int .i64))])]
def tBk : List (Nat × List (List Kind)) := [(40, [[.p (.row 0), .p (.int .i64), .p (.int .u64)]]), (54, [[.p (.row 0), .p (.int .i64), .p (.int .u64)]]), (55, [[.p (.row 0), .p (.int .i64), .p (.int .u64)]]), (63, [[.p (.row 0), .p (.int .i64), .p (.int .u64)]]), (74, [[.p (.row 0), .p (.int .i64), .p (.int .u64)]]), (97, [[.p (.row 0), .p (.int .i64), .p (.int .u64)]]),
  (98, [[.p (.row 0), .p (.int .i64), .p (.int .u64)]]), (113, [[.p (.row 0), .p (.int .i64), .p (.int .u64)]]), (118, [[.p (.row 0), .p (.int .i64), .p (.int .u64)]]), (132, [[.p (.row 0), .p (.int .i64), .p (.int .u64)]]), (135, [[.p (.int .i64), .p (.int .i64), .p (.row 2), .p (.row 2)]]), (140, [[.p (.int .i64)]]),
  (136087, [[.p (.int .i64), .p (.int .i64), .p (.row 2), .p (.row 2)]]), (136125, [[.p (.int .i64), .p (.int .i64), .p (.row 2), .p (.row 2)]]), (141057, [[.p (.int .i64)]]), (141114, [[.p (.int .i64)]])]
def tPlain : List (Nat × Unit) := [(5, ()), (6, ()), (19, ()), (23, ()), (29, ()), (36, ()), (37, ()), (39, ()), (49, ()), (50, ()), (51, ()), (62, ()),
  (64, ()), (66, ()), (68, ()), (76, ()), (77, ()), (79, ()), (81, ()), (83, ()), (88, ()), (92, ()), (93, ()), (94, ()),
  (95, ()), (96, ()), (99, ()), (101, ()), (103, ()), (106, ()), (107, ()), (108, ()), (109, ()), (116, ()), (119, ()), (122, ()),
  (123, ()), (126, ()), (127, ()), (128, ()), (129, ()), (130, ()), (131, ()), (133, ()), (134, ()), (136, ()), (138, ()), (139, ()),
  (140, ()), (141, ()), (143, ()), (144, ()), (145, ()), (148, ()), (149, ()), (150, ()), (151, ()), (152, ()), (153, ()), (154, ()),
  (157, ()), (158, ()), (159, ()), (160, ()), (161, ()), (172, ()), (173, ()), (174, ()), (175, ()), (176, ()), (177, ()), (179, ()),
  (181, ()), (182, ()), (189, ()), (190, ()), (93057, ()), (141057, ()), (141114, ())]
def tCt : List (Nat × CT) := [(2, .one (.int .i64)), (3, .one (.int .i64)), (4, .one (.bool)), (5, .one (.int .u8)), (9, .one (.str)), (22, .one (.row 0)),
  (24, .one (.row 2)), (25, .one (.row 2)), (27, .agg [.int .i64, .int .i64, .row 2, .row 2]), (33, .one (.int .u64)), (36, .one (.row 0)), (57, .one (.int .u64)),
  (59, .agg [.row 0, .int .i64, .int .u64]), (63, .one (.row 2)), (65, .agg [.row 2, .row 2]), (68, .agg [.int .i64, .int .u64]), (74, .one (.row 0)), (90, .one (.row 0)),
  (111, .agg [.int .i64, .row 2]), (161, .one (.int .u32))]
def tAk : List (Nat × List CT) := [(5, [.one (.row 0), .one (.row 0)]), (6, [.one (.row 0), .one (.row 0)]), (12, [.agg [.int .i64, .int .i64, .row 2, .row 2], .one (.int .i64)]), (18, [.agg [.int .i64, .int .i64, .row 2, .row 2], .one (.int .i64)]), (19, [.one (.row 0), .one (.row 0)]), (21, [.agg [.int .i64, .int .i64, .row 2, .row 2]]),
  (22, [.agg [.int .i64, .int .i64, .row 2, .row 2]]), (23, [.one (.row 0), .one (.int .i64)]), (29, [.one (.row 0), .one (.row 0)]), (30, [.one (.row 0)]), (31, [.agg [.int .i64, .int .i64, .row 2, .row 2]]), (32, [.agg [.int .i64, .int .i64, .row 2, .row 2]]),
  (33, [.agg [.int .i64, .int .i64, .row 2, .row 2]]), (34, [.agg [.int .i64, .int .i64, .row 2, .row 2]]), (35, [.agg [.int .i64, .int .i64, .row 2, .row 2], .one (.int .i64)]), (36, [.agg [.int .i64, .int .i64, .row 2, .row 2], .one (.int .i64)]), (37, [.agg [.int .i64, .int .i64, .row 2, .row 2], .one (.row 0)]), (38, [.one (.row 0)]),
  (39, [.agg [.int .i64, .int .i64, .row 2, .row 2], .one (.row 0)]), (40, [.one (.any)]), (49, [.agg [.int .i64, .int .i64, .row 2, .row 2], .one (.int .i64)]), (50, [.agg [.int .i64, .int .i64, .row 2, .row 2], .one (.row 2)]), (51, [.agg [.int .i64, .int .i64, .row 2, .row 2], .one (.row 2), .one (.row 0)]), (52, [.agg [.int .i64, .int .i64, .row 2, .row 2], .one (.int .i64)]),
  (53, [.agg [.int .i64, .int .i64, .row 2, .row 2], .one (.int .i64)]), (54, [.one (.any), .one (.int .i64)]), (55, [.one (.any), .one (.int .i64)]), (57, [.one (.row 0), .one (.any)]), (62, [.one (.row 0), .one (.int .i64), .one (.int .i64)]), (63, [.one (.any), .agg [.int .i64, .int .i64, .row 2, .row 2]]),
  (64, [.agg [.int .i64, .int .i64, .row 2, .row 2], .one (.int .i64)]), (65, [.agg [.int .i64, .int .i64, .row 2, .row 2], .one (.int .i64)]), (66, [.agg [.int .i64, .int .i64, .row 2, .row 2]]), (68, [.agg [.int .i64, .int .i64, .row 2, .row 2]]), (69, [.one (.row 0), .one (.row 0)]), (70, [.one (.row 0)]),
  (71, [.agg [.int .i64, .int .i64, .row 2, .row 2]]), (72, [.agg [.int .i64, .int .i64, .row 2, .row 2], .one (.row 2)]), (73, [.agg [.int .i64, .int .i64, .row 2, .row 2]]), (74, [.one (.any), .one (.int .i64), .one (.int .i64), .one (.int .i64)]), (76, [.agg [.int .i64, .int .i64, .row 2, .row 2]]), (77, [.agg [.int .i64, .int .i64, .row 2, .row 2], .one (.row 2)]),
  (78, [.agg [.int .i64, .int .i64, .row 2, .row 2]]), (79, [.agg [.int .i64, .int .i64, .row 2, .row 2], .one (.row 2), .one (.row 0)]), (80, [.agg [.int .i64, .int .i64, .row 2, .row 2], .one (.int .i64)]), (81, [.one (.row 0), .one (.int .i64)]), (83, [.agg [.int .i64, .int .i64, .row 2, .row 2]]), (85, [.one (.row 0)]),
  (86, [.agg [.int .i64, .int .i64, .row 2, .row 2], .one (.row 2)]), (87, [.one (.row 2), .one (.any)]), (88, [.agg [.row 2, .row 2]]), (89, [.agg [.int .i64, .int .i64, .row 2, .row 2], .one (.row 0)]), (90, [.one (.row 0), .one (.row 0), .one (.row 0)]), (91, [.one (.row 0), .one (.row 0)]),
  (92, [.one (.int .i64)]), (93, [.one (.row 0), .one (.int .i64)]), (94, [.agg [.int .i64, .int .i64, .row 2, .row 2], .one (.int .i64)]), (95, [.one (.int .i64), .one (.int .i64), .one (.int .i64)]), (96, [.one (.row 0), .one (.int .i64)]), (97, [.one (.any), .one (.row 0)]),
  (98, [.one (.any), .one (.int .i64), .one (.int .i64)]), (99, [.agg [.int .i64, .int .i64, .row 2, .row 2]]), (101, [.one (.int .i64), .one (.int .i64), .one (.row 2)]), (103, [.agg [.int .i64, .int .i64, .row 2, .row 2]]), (106, [.one (.int .i64), .one (.int .i64), .one (.row 2), .one (.int .i64)]), (107, [.one (.int .i64), .one (.row 2), .one (.row 0)]),
  (108, [.one (.int .i64)]), (109, [.agg [.int .i64, .int .i64, .row 2, .row 2], .one (.row 0)]), (110, [.agg [.int .i64, .int .i64, .row 2, .row 2], .agg [.row 2, .row 2], .one (.row 0)]), (113, [.one (.any)]), (114, [.one (.row 0), .one (.any)]), (116, [.agg [.int .i64, .int .i64, .row 2, .row 2], .one (.row 0)]),
  (117, [.agg [.int .i64, .int .i64, .row 2, .row 2], .one (.row 0), .one (.int .i64)]), (118, [.one (.any), .one (.int .i64), .one (.int .i64), .one (.int .i64)]), (119, [.one (.int .i64), .one (.int .i64), .one (.row 2)]), (120, [.one (.row 0), .one (.row 0)]), (121, [.agg [.int .i64, .int .i64, .row 2, .row 2], .one (.row 0)]), (122, [.one (.int .i64), .one (.row 2), .one (.int .i64), .one (.row 0)]),
  (123, [.one (.row 0)]), (125, [.one (.row 2), .one (.any)]), (126, [.one (.int .i64)]), (127, [.one (.row 0), .one (.int .i64)]), (128, [.one (.row 0)]), (129, [.one (.row 0), .one (.int .i64)]),
  (130, [.agg [.int .i64, .int .i64, .row 2, .row 2], .one (.int .i64)]), (131, [.agg [.int .i64, .int .i64, .row 2, .row 2], .one (.int .i64), .one (.int .i64), .one (.int .i64)]), (132, [.one (.any), .one (.int .i64), .one (.int .i64)]), (133, [.one (.int .i64)]), (134, [.one (.int .i64)]), (135, [.agg [.row 2, .row 2]]),
  (136, [.agg [.int .i64, .int .i64, .row 2, .row 2], .agg [.row 2, .row 2]]), (138, [.one (.int .i64)]), (139, [.one (.int .i64), .one (.int .i64), .agg [.int .i64, .int .u64]]), (140, [.one (.int .i64)]), (141, [.agg [.int .i64, .int .i64, .row 2, .row 2], .agg [.row 2, .row 2]]), (143, [.one (.row 2)]),
  (144, [.one (.int .i64), .one (.int .i64), .one (.int .u64), .one (.int .u64)]), (145, [.one (.row 0)]), (148, [.one (.int .i64), .one (.int .u64)]), (149, [.one (.int .i64)]), (150, [.one (.int .i64)]), (151, [.one (.int .i64), .one (.int .i64), .agg [.int .i64, .int .u64]]),
  (152, [.one (.int .i64), .one (.int .i64), .one (.int .u64), .one (.int .u64)]), (153, [.one (.row 2), .one (.int .i64)]), (154, [.one (.int .u64), .one (.int .u64)]), (157, [.one (.int .i64), .one (.int .u64)]), (158, [.one (.int .i64), .one (.int .u64), .one (.int .u64)]), (159, [.one (.int .i64), .one (.int .u64), .one (.int .u64), .one (.bool)]),
  (160, [.one (.bool)]), (161, [.one (.int .i64), .one (.int .u64)]), (172, [.one (.int .u64)]), (173, [.one (.int .i64), .one (.int .u64)]), (174, [.one (.int .i64), .one (.int .u64), .one (.int .u64)]), (175, [.one (.int .i64), .one (.int .u64), .one (.int .u64), .one (.bool)]),
  (176, [.one (.bool)]), (177, [.one (.int .i64), .one (.int .u64)]), (179, [.one (.int .u64), .one (.int .u64)]), (181, [.one (.int .i64), .one (.int .u64), .one (.int .u64)]), (182, [.one (.int .u64), .one (.int .u64), .one (.int .u64)]), (189, [.one (.int .i64), .one (.int .u64), .one (.int .u64)]),
  (190, [.one (.int .u64)])]
def tOwn : List (Nat × List (Nat × List (Option Nat × Nat × Et × Nat))) := [(34, [(0, [(none, 4, 3, 0)])]), (38, [(0, [(some 0, 2, 0, 2), (some 0, 3, 0, 2)])]), (40, [(0, [(some 1, 2, 0, 2), (some 1, 3, 0, 2)])]),
  (65, [(0, [(none, 6, 3, 0)])]), (80, [(0, [(none, 5, 57, 0)])]), (86, [(0, [(none, 5, 3, 0)])]),
  (89, [(0, [(none, 5, 3, 0)])]), (94, [(0, [(none, 8, 3, 0)])]), (98, [(0, [(some 1, 2, 0, 2), (some 1, 3, 0, 2), (some 2, 3, ⟨65, some ⟨1, 111, 2, 0, none⟩⟩, 2)])]),
  (119, [(0, [(none, 7, 3, 0)])]), (121, [(0, [(none, 5, 3, 0)])]), (132, [(0, [(some 1, 0, 0, 2), (some 1, 1, 0, 2), (some 2, 1, 111, 2)])])]
def tCut : List (Nat × List (Nat × List Nat)) := []
def tNest : List (Nat × Kd) := [(25, ⟨1, 111, 2, 0, none⟩), (90, ⟨0, 3, 0, 0, none⟩)]
def tSorts : List (Nat × Nat) := [(111, 1), (112, 2)]
theorem sortsOK : ∀ g n, (g, n) ∈ tSorts → SortOK Tryz.prog n g := by
  intro g n h
  simp only [tSorts, List.mem_cons, Prod.mk.injEq, List.not_mem_nil, or_false] at h
  rcases h with ⟨rfl, rfl⟩ | ⟨rfl, rfl⟩
  · exact sort_ok
  · exact comp_ok
def tAo : List (Nat × List (Option (Et × Nat))) := [(81, [some (3, 0), none])]
def tRo : List (Nat × Unit) := [(89087, ()), (89125, ()), (93057, ()), (93114, ()), (127114, ())]
def tExt : List (Nat × Nat) := []
theorem extOK : ∀ g n, (g, n) ∈ tExt → ExtOK Tryz.prog n g := by
  intro g n h
  simp [tExt] at h
noncomputable def E : Env := tabs.env tLive tRk tBk tPlain tCt tAk tOwn tCut tNest tSorts tAo tExt tRo
theorem envOK : EnvOK Tryz.prog E := Tabs.sound (by kernel_rfl) sortsOK extOK
noncomputable def pTab : List (Nat × Func) := [(5, Tryz.f5), (6, Tryz.f6), (12, Tryz.f12), (18, Tryz.f18), (19, Tryz.f19), (21, Tryz.f21), (22, Tryz.f22), (23, Tryz.f23), (29, Tryz.f29), (30, Tryz.f30), (31, Tryz.f31), (32, Tryz.f32),
  (33, Tryz.f33), (34, Tryz.f34), (35, Tryz.f35), (36, Tryz.f36), (37, Tryz.f37), (38, Tryz.f38), (39, Tryz.f39), (40, Tryz.f40), (49, Tryz.f49), (50, Tryz.f50), (51, Tryz.f51), (52, Tryz.f52),
  (53, Tryz.f53), (54, Tryz.f54), (55, Tryz.f55), (57, Tryz.f57), (62, Tryz.f62), (63, Tryz.f63), (64, Tryz.f64), (65, Tryz.f65), (66, Tryz.f66), (68, Tryz.f68), (69, Tryz.f69), (70, Tryz.f70),
  (71, Tryz.f71), (72, Tryz.f72), (73, Tryz.f73), (74, Tryz.f74), (76, Tryz.f76), (77, Tryz.f77), (78, Tryz.f78), (79, Tryz.f79), (80, Tryz.f80), (81, Tryz.f81), (83, Tryz.f83), (85, Tryz.f85),
  (86, Tryz.f86), (87, Tryz.f87), (88, Tryz.f88), (89, Tryz.f89), (90, Tryz.f90), (91, Tryz.f91), (92, Tryz.f92), (93, Tryz.f93), (94, Tryz.f94), (95, Tryz.f95), (96, Tryz.f96), (97, Tryz.f97),
  (98, Tryz.f98), (99, Tryz.f99), (101, Tryz.f101), (103, Tryz.f103), (106, Tryz.f106), (107, Tryz.f107), (108, Tryz.f108), (109, Tryz.f109), (110, Tryz.f110), (113, Tryz.f113), (114, Tryz.f114), (116, Tryz.f116),
  (117, Tryz.f117), (118, Tryz.f118), (119, Tryz.f119), (120, Tryz.f120), (121, Tryz.f121), (122, Tryz.f122), (123, Tryz.f123), (125, Tryz.f125), (126, Tryz.f126), (127, Tryz.f127), (128, Tryz.f128), (129, Tryz.f129),
  (130, Tryz.f130), (131, Tryz.f131), (132, Tryz.f132), (133, Tryz.f133), (134, Tryz.f134), (135, Tryz.f135), (136, Tryz.f136), (138, Tryz.f138), (139, Tryz.f139), (140, Tryz.f140), (141, Tryz.f141), (143, Tryz.f143),
  (144, Tryz.f144), (145, Tryz.f145), (148, Tryz.f148), (149, Tryz.f149), (150, Tryz.f150), (151, Tryz.f151), (152, Tryz.f152), (153, Tryz.f153), (154, Tryz.f154), (157, Tryz.f157), (158, Tryz.f158), (159, Tryz.f159),
  (160, Tryz.f160), (161, Tryz.f161), (172, Tryz.f172), (173, Tryz.f173), (174, Tryz.f174), (175, Tryz.f175), (176, Tryz.f176), (177, Tryz.f177), (179, Tryz.f179), (181, Tryz.f181), (182, Tryz.f182), (189, Tryz.f189),
  (190, Tryz.f190)]
noncomputable def P : FuncId → Option Func := lk pTab
theorem pOK : PfOK Tryz.prog P := pfOK_of (tab := pTab)
  (pfOK_cons Tryz.func5 (pfOK_cons Tryz.func6 (pfOK_cons Tryz.func12 (pfOK_cons Tryz.func18 (pfOK_cons Tryz.func19 (pfOK_cons Tryz.func21 (pfOK_cons Tryz.func22 (pfOK_cons Tryz.func23 
  (pfOK_cons Tryz.func29 (pfOK_cons Tryz.func30 (pfOK_cons Tryz.func31 (pfOK_cons Tryz.func32 (pfOK_cons Tryz.func33 (pfOK_cons Tryz.func34 (pfOK_cons Tryz.func35 (pfOK_cons Tryz.func36 
  (pfOK_cons Tryz.func37 (pfOK_cons Tryz.func38 (pfOK_cons Tryz.func39 (pfOK_cons Tryz.func40 (pfOK_cons Tryz.func49 (pfOK_cons Tryz.func50 (pfOK_cons Tryz.func51 (pfOK_cons Tryz.func52 
  (pfOK_cons Tryz.func53 (pfOK_cons Tryz.func54 (pfOK_cons Tryz.func55 (pfOK_cons Tryz.func57 (pfOK_cons Tryz.func62 (pfOK_cons Tryz.func63 (pfOK_cons Tryz.func64 (pfOK_cons Tryz.func65 
  (pfOK_cons Tryz.func66 (pfOK_cons Tryz.func68 (pfOK_cons Tryz.func69 (pfOK_cons Tryz.func70 (pfOK_cons Tryz.func71 (pfOK_cons Tryz.func72 (pfOK_cons Tryz.func73 (pfOK_cons Tryz.func74 
  (pfOK_cons Tryz.func76 (pfOK_cons Tryz.func77 (pfOK_cons Tryz.func78 (pfOK_cons Tryz.func79 (pfOK_cons Tryz.func80 (pfOK_cons Tryz.func81 (pfOK_cons Tryz.func83 (pfOK_cons Tryz.func85 
  (pfOK_cons Tryz.func86 (pfOK_cons Tryz.func87 (pfOK_cons Tryz.func88 (pfOK_cons Tryz.func89 (pfOK_cons Tryz.func90 (pfOK_cons Tryz.func91 (pfOK_cons Tryz.func92 (pfOK_cons Tryz.func93 
  (pfOK_cons Tryz.func94 (pfOK_cons Tryz.func95 (pfOK_cons Tryz.func96 (pfOK_cons Tryz.func97 (pfOK_cons Tryz.func98 (pfOK_cons Tryz.func99 (pfOK_cons Tryz.func101 (pfOK_cons Tryz.func103 
  (pfOK_cons Tryz.func106 (pfOK_cons Tryz.func107 (pfOK_cons Tryz.func108 (pfOK_cons Tryz.func109 (pfOK_cons Tryz.func110 (pfOK_cons Tryz.func113 (pfOK_cons Tryz.func114 (pfOK_cons Tryz.func116 
  (pfOK_cons Tryz.func117 (pfOK_cons Tryz.func118 (pfOK_cons Tryz.func119 (pfOK_cons Tryz.func120 (pfOK_cons Tryz.func121 (pfOK_cons Tryz.func122 (pfOK_cons Tryz.func123 (pfOK_cons Tryz.func125 
  (pfOK_cons Tryz.func126 (pfOK_cons Tryz.func127 (pfOK_cons Tryz.func128 (pfOK_cons Tryz.func129 (pfOK_cons Tryz.func130 (pfOK_cons Tryz.func131 (pfOK_cons Tryz.func132 (pfOK_cons Tryz.func133 
  (pfOK_cons Tryz.func134 (pfOK_cons Tryz.func135 (pfOK_cons Tryz.func136 (pfOK_cons Tryz.func138 (pfOK_cons Tryz.func139 (pfOK_cons Tryz.func140 (pfOK_cons Tryz.func141 (pfOK_cons Tryz.func143 
  (pfOK_cons Tryz.func144 (pfOK_cons Tryz.func145 (pfOK_cons Tryz.func148 (pfOK_cons Tryz.func149 (pfOK_cons Tryz.func150 (pfOK_cons Tryz.func151 (pfOK_cons Tryz.func152 (pfOK_cons Tryz.func153 
  (pfOK_cons Tryz.func154 (pfOK_cons Tryz.func157 (pfOK_cons Tryz.func158 (pfOK_cons Tryz.func159 (pfOK_cons Tryz.func160 (pfOK_cons Tryz.func161 (pfOK_cons Tryz.func172 (pfOK_cons Tryz.func173 
  (pfOK_cons Tryz.func174 (pfOK_cons Tryz.func175 (pfOK_cons Tryz.func176 (pfOK_cons Tryz.func177 (pfOK_cons Tryz.func179 (pfOK_cons Tryz.func181 (pfOK_cons Tryz.func182 (pfOK_cons Tryz.func189 
  (pfOK_cons Tryz.func190 pfOK_nil)))))))))))))))))))))))))))))))))))))))))))))))))))))))))))))))))))))))))))))))))))))))))))))))))))))))))))))))))))))))))
  (by kernel_rfl)
theorem cl128 (xs : List PV) (h1 : xs.length * 8 ≤ LIM) (h2 : xs.length ≤ LIM) : evF P E (fun _ _ _ => none) 2 128 [.s (.c (.p (.row 0 3 xs)))] [] = some ([.c (.own 3 0 xs)], []) := by
  have e : evF P E (fun _ _ _ => none) 2 128 [.s (.c (.p (.row 0 3 xs)))] [] = bif decide ((0 + xs.length) * 8 ≤ LIM) && decide (0 + xs.length ≤ LIM) then some ([.c (.own 3 0 (([] ++ xs).take (0 + xs.length)))], []) else none := by kernel_rfl
  rw [e]
  simp [h1, h2]
theorem cl145 (xs : List PV) (h1 : xs.length * 8 ≤ LIM) (h2 : xs.length ≤ LIM) : evF P E (fun _ _ _ => none) 2 145 [.s (.c (.p (.row 0 3 xs)))] [] = some ([.c (.own 57 0 xs)], []) := by
  have e : evF P E (fun _ _ _ => none) 2 145 [.s (.c (.p (.row 0 3 xs)))] [] = bif decide ((0 + xs.length) * 8 ≤ LIM) && decide (0 + xs.length ≤ LIM) then some ([.c (.own 57 0 (([] ++ xs).take (0 + xs.length)))], []) else none := by kernel_rfl
  rw [e]
  simp [h1, h2]
def clones : List (Nat × (Nat × Nat × Nat)) := [(128, (3, 0, 8)), (145, (57, 0, 8))]
theorem hT0 : ∀ f args bs r, cloneT clones f args bs = some r → Contract Tryz.prog f args bs r := by
  refine cloneT_ok fun f e sh by_ hm xs h1 h2 => ?_
  have h0 : ∀ f args bs r, (fun (_ : FuncId) (_ : List AV) (_ : List (List CV)) => (none : R)) f args bs = some r → Contract Tryz.prog f args bs r := fun _ _ _ _ h => by cases h
  simp only [clones, List.mem_cons, List.not_mem_nil, or_false, Prod.mk.injEq] at hm
  rcases hm with ⟨rfl, rfl, rfl, rfl⟩ | ⟨rfl, rfl, rfl, rfl⟩
  · exact clone_contract (evF_sound envOK pOK h0 2 (by kernel_rfl)) (evF_sound envOK pOK h0 2 (cl128 xs h1 h2))
  · exact clone_contract (evF_sound envOK pOK h0 2 (by kernel_rfl)) (evF_sound envOK pOK h0 2 (cl145 xs h1 h2))
def T : FuncId → List AV → List (List CV) → R := cloneT clones
theorem hT : ∀ f args bs r, T f args bs = some r → Contract Tryz.prog f args bs r := hT0
end Go.Proofs.YtcamhbchcjpjiaaGreat
/- Calls and loops of the program, by shape: printed by nf.py. -/
set_option linter.unusedVariables false
namespace Go.Proofs.YtcamhbchcjpjiaaGreat
open Go.Dp
noncomputable section
/-! 5 : laws.FnReached -/
def c5 (k : Nat) (code more : List PV) : R := evF P E T k 5 [.s (.c (.p (PV.row 0 0 code))), .s (.c (.p (PV.row 0 0 more)))] []
def r5 (b : Bool) : R := some ([.c (.p (PV.bool b))], [])
def R5 (x0 : R) (K0 : Bool → R) : R := x0.bind fun q0 => bif lensB q0.2 [] && lensS q0.1 [.c (.p (.bool))] then (cBool (resAt q0.1 0)).bind fun b => K0 b else none
@[simp] theorem R5_r (b : Bool) (K0 : Bool → R) : R5 (r5 b) K0 = K0 b := by kernel_rfl
def L5_1 (k n : Nat) (more qr k1 t111 : List PV) (t112 t113 n1 n11 : Int) (l l1 : List PV) : R := evLoopAt P E T k 5 5 [] [1, 1, 1, 1, 1, 1, 1, 1, 1, 1, 0, 1, 0] [] n ⟨mkT 239 [(1, .s (.c (.p (PV.row 0 0 more)))), (5, .s (.c (.bptr 0 0))), (6, .s (.c (.p (PV.row 0 0 qr)))), (14, .s (.c (.p (PV.row 0 0 k1)))), (111, .s (.c (.p (PV.row 0 0 t111)))), (112, .s (.c (.p (PV.int .i64 t112)))), (113, .s (.c (.p (PV.int .i64 t113))))], [.box [.p (PV.int .i64 n1), .p (PV.int .i64 n11), .p (PV.row 2 0 l), .p (PV.row 2 0 l1)]]⟩
/-! 6 : laws.big -/
def c6 (k : Nat) (code more : List PV) : R := evF P E T k 6 [.s (.c (.p (PV.row 0 0 code))), .s (.c (.p (PV.row 0 0 more)))] []
def r6 (b : Bool) : R := some ([.c (.p (PV.bool b))], [])
def R6 (x0 : R) (K0 : Bool → R) : R := x0.bind fun q0 => bif lensB q0.2 [] && lensS q0.1 [.c (.p (.bool))] then (cBool (resAt q0.1 0)).bind fun b => K0 b else none
@[simp] theorem R6_r (b : Bool) (K0 : Bool → R) : R6 (r6 b) K0 = K0 b := by kernel_rfl
/-! 12 : impl.NextOf -/
def c12 (k : Nat) (p p1 : Int) (p2 p3 : List PV) (no : Int) : R := evF P E T k 12 [.s (.c (.p (PV.agg [.int .i64 p, .int .i64 p1, .row 2 0 p2, .row 2 0 p3]))), .s (.c (.p (PV.int .i64 no)))] []
def r12 (l : List PV) (b : Bool) : R := some ([.c (.p (PV.row 0 0 l)), .c (.p (PV.bool b))], [])
def R12 (x0 : R) (K0 : List PV → Bool → R) : R := x0.bind fun q0 => bif lensB q0.2 [] && lensS q0.1 [.c (.p (.row 0)), .c (.p (.bool))] then (cRow (resAt q0.1 0) 0).bind fun l => (cBool (resAt q0.1 1)).bind fun b => K0 l b else none
@[simp] theorem R12_r (l : List PV) (b : Bool) (K0 : List PV → Bool → R) : R12 (r12 l b) K0 = K0 l b := by kernel_rfl
/-! 18 : spec.NextOf -/
def c18 (k : Nat) (p p1 : Int) (p2 p3 : List PV) (no : Int) : R := evF P E T k 18 [.s (.c (.p (PV.agg [.int .i64 p, .int .i64 p1, .row 2 0 p2, .row 2 0 p3]))), .s (.c (.p (PV.int .i64 no)))] []
def r18 (l : List PV) (b : Bool) : R := some ([.c (.p (PV.row 0 0 l)), .c (.p (PV.bool b))], [])
def R18 (x0 : R) (K0 : List PV → Bool → R) : R := x0.bind fun q0 => bif lensB q0.2 [] && lensS q0.1 [.c (.p (.row 0)), .c (.p (.bool))] then (cRow (resAt q0.1 0) 0).bind fun l => (cBool (resAt q0.1 1)).bind fun b => K0 l b else none
@[simp] theorem R18_r (l : List PV) (b : Bool) (K0 : List PV → Bool → R) : R18 (r18 l b) K0 = K0 l b := by kernel_rfl
/-! 19 : laws.sameInts -/
def c19 (k : Nat) (a b : List PV) : R := evF P E T k 19 [.s (.c (.p (PV.row 0 0 a))), .s (.c (.p (PV.row 0 0 b)))] []
def r19 (b : Bool) : R := some ([.c (.p (PV.bool b))], [])
def R19 (x0 : R) (K0 : Bool → R) : R := x0.bind fun q0 => bif lensB q0.2 [] && lensS q0.1 [.c (.p (.bool))] then (cBool (resAt q0.1 0)).bind fun b => K0 b else none
@[simp] theorem R19_r (b : Bool) (K0 : Bool → R) : R19 (r19 b) K0 = K0 b := by kernel_rfl
def R19p (x0 : R) (K0 : Bool → R) : R := x0.bind fun q0 => bif q0.1.all plainS && q0.2.all (fun cs => cs.all plainC) then (bif lensB q0.2 [] && lensS q0.1 [.c (.p (.bool))] then (cBool (resAt q0.1 0)).bind fun b => K0 b else none) else none
@[simp] theorem R19p_r (b : Bool) (K0 : Bool → R) : R19p (r19 b) K0 = K0 b := by kernel_rfl
def L19_1 (k n : Nat) (a b : List PV) (t12 t13 : Int) : R := evLoopAt P E T k 19 19 [] [1, 1, 0, 1, 0] [] n ⟨mkT 26 [(0, .s (.c (.p (PV.row 0 0 a)))), (1, .s (.c (.p (PV.row 0 0 b)))), (12, .s (.c (.p (PV.int .i64 t12)))), (13, .s (.c (.p (PV.int .i64 t13))))], []⟩
/-! 21 : impl.Starts -/
def c21 (k : Nat) (p p1 : Int) (p2 p3 : List PV) : R := evF P E T k 21 [.s (.c (.p (PV.agg [.int .i64 p, .int .i64 p1, .row 2 0 p2, .row 2 0 p3])))] []
def r21 (l : List PV) (b : Bool) : R := some ([.c (.p (PV.row 0 0 l)), .c (.p (PV.bool b))], [])
def R21 (x0 : R) (K0 : List PV → Bool → R) : R := x0.bind fun q0 => bif lensB q0.2 [] && lensS q0.1 [.c (.p (.row 0)), .c (.p (.bool))] then (cRow (resAt q0.1 0) 0).bind fun l => (cBool (resAt q0.1 1)).bind fun b => K0 l b else none
@[simp] theorem R21_r (l : List PV) (b : Bool) (K0 : List PV → Bool → R) : R21 (r21 l b) K0 = K0 l b := by kernel_rfl
/-! 22 : impl.ReachOf -/
def c22 (k : Nat) (p p1 : Int) (p2 p3 : List PV) : R := evF P E T k 22 [.s (.c (.p (PV.agg [.int .i64 p, .int .i64 p1, .row 2 0 p2, .row 2 0 p3])))] []
def r22 (l : List PV) (b : Bool) : R := some ([.c (.p (PV.row 0 0 l)), .c (.p (PV.bool b))], [])
def R22 (x0 : R) (K0 : List PV → Bool → R) : R := x0.bind fun q0 => bif lensB q0.2 [] && lensS q0.1 [.c (.p (.row 0)), .c (.p (.bool))] then (cRow (resAt q0.1 0) 0).bind fun l => (cBool (resAt q0.1 1)).bind fun b => K0 l b else none
@[simp] theorem R22_r (l : List PV) (b : Bool) (K0 : List PV → Bool → R) : R22 (r22 l b) K0 = K0 l b := by kernel_rfl
/-! 23 : laws.has -/
def c23 (k : Nat) (l : List PV) (n1 : Int) : R := evF P E T k 23 [.s (.c (.p (PV.row 0 0 l))), .s (.c (.p (PV.int .i64 n1)))] []
def r23 (b : Bool) : R := some ([.c (.p (PV.bool b))], [])
def R23 (x0 : R) (K0 : Bool → R) : R := x0.bind fun q0 => bif lensB q0.2 [] && lensS q0.1 [.c (.p (.bool))] then (cBool (resAt q0.1 0)).bind fun b => K0 b else none
@[simp] theorem R23_r (b : Bool) (K0 : Bool → R) : R23 (r23 b) K0 = K0 b := by kernel_rfl
def L23_1 (k n : Nat) (n1 : Int) (t7 : List PV) (t8 t9 : Int) : R := evLoopAt P E T k 23 23 [] [1, 0, 1, 0] [] n ⟨mkT 17 [(1, .s (.c (.p (PV.int .i64 n1)))), (7, .s (.c (.p (PV.row 0 0 t7)))), (8, .s (.c (.p (PV.int .i64 t8)))), (9, .s (.c (.p (PV.int .i64 t9))))], []⟩
/-! 29 : laws.within -/
def c29 (k : Nat) (some1 in1 : List PV) : R := evF P E T k 29 [.s (.c (.p (PV.row 0 0 some1))), .s (.c (.p (PV.row 0 0 in1)))] []
def r29 (b : Bool) : R := some ([.c (.p (PV.bool b))], [])
def R29 (x0 : R) (K0 : Bool → R) : R := x0.bind fun q0 => bif lensB q0.2 [] && lensS q0.1 [.c (.p (.bool))] then (cBool (resAt q0.1 0)).bind fun b => K0 b else none
@[simp] theorem R29_r (b : Bool) (K0 : Bool → R) : R29 (r29 b) K0 = K0 b := by kernel_rfl
def L29_1 (k n : Nat) (in1 t7 : List PV) (t8 t9 : Int) : R := evLoopAt P E T k 29 29 [] [1, 0, 1, 0] [] n ⟨mkT 18 [(1, .s (.c (.p (PV.row 0 0 in1)))), (7, .s (.c (.p (PV.row 0 0 t7)))), (8, .s (.c (.p (PV.int .i64 t8)))), (9, .s (.c (.p (PV.int .i64 t9))))], []⟩
/-! 30 : spec.DrawReachOf -/
def c30 (k : Nat) (code : List PV) : R := evF P E T k 30 [.s (.c (.p (PV.row 0 0 code)))] []
def r30 (qr qr1 : Int) (l l1 : List PV) : R := some ([.agg [.p (PV.int .i64 qr), .p (PV.int .i64 qr1), .p (PV.row 2 0 l), .p (PV.row 2 0 l1)]], [])
def R30 (x0 : R) (K0 : Int → Int → List PV → List PV → R) : R := x0.bind fun q0 => bif lensB q0.2 [] && lensS q0.1 [.agg [.p (.int .i64), .p (.int .i64), .p (.row 2), .p (.row 2)]] then (cInt (Dp.partAt q0.1 0 0) .i64).bind fun qr => (cInt (Dp.partAt q0.1 0 1) .i64).bind fun qr1 => (cRow (Dp.partAt q0.1 0 2) 2).bind fun l => (cRow (Dp.partAt q0.1 0 3) 2).bind fun l1 => K0 qr qr1 l l1 else none
@[simp] theorem R30_r (qr qr1 : Int) (l l1 : List PV) (K0 : Int → Int → List PV → List PV → R) : R30 (r30 qr qr1 l l1) K0 = K0 qr qr1 l l1 := by kernel_rfl
/-! 31 : spec.ReachOf -/
def c31 (k : Nat) (p p1 : Int) (p2 p3 : List PV) : R := evF P E T k 31 [.s (.c (.p (PV.agg [.int .i64 p, .int .i64 p1, .row 2 0 p2, .row 2 0 p3])))] []
def r31 (l : List PV) (b : Bool) : R := some ([.c (.p (PV.row 0 0 l)), .c (.p (PV.bool b))], [])
def R31 (x0 : R) (K0 : List PV → Bool → R) : R := x0.bind fun q0 => bif lensB q0.2 [] && lensS q0.1 [.c (.p (.row 0)), .c (.p (.bool))] then (cRow (resAt q0.1 0) 0).bind fun l => (cBool (resAt q0.1 1)).bind fun b => K0 l b else none
@[simp] theorem R31_r (l : List PV) (b : Bool) (K0 : List PV → Bool → R) : R31 (r31 l b) K0 = K0 l b := by kernel_rfl
/-! 32 : spec.Starts -/
def c32 (k : Nat) (p p1 : Int) (p2 p3 : List PV) : R := evF P E T k 32 [.s (.c (.p (PV.agg [.int .i64 p, .int .i64 p1, .row 2 0 p2, .row 2 0 p3])))] []
def r32 (l : List PV) (b : Bool) : R := some ([.c (.p (PV.row 0 0 l)), .c (.p (PV.bool b))], [])
def R32 (x0 : R) (K0 : List PV → Bool → R) : R := x0.bind fun q0 => bif lensB q0.2 [] && lensS q0.1 [.c (.p (.row 0)), .c (.p (.bool))] then (cRow (resAt q0.1 0) 0).bind fun l => (cBool (resAt q0.1 1)).bind fun b => K0 l b else none
@[simp] theorem R32_r (l : List PV) (b : Bool) (K0 : List PV → Bool → R) : R32 (r32 l b) K0 = K0 l b := by kernel_rfl
/-! 33 : impl.StuckIn -/
def c33 (k : Nat) (p p1 : Int) (p2 p3 : List PV) : R := evF P E T k 33 [.s (.c (.p (PV.agg [.int .i64 p, .int .i64 p1, .row 2 0 p2, .row 2 0 p3])))] []
def r33 (l : List PV) (b : Bool) : R := some ([.c (.p (PV.row 0 0 l)), .c (.p (PV.bool b))], [])
def R33 (x0 : R) (K0 : List PV → Bool → R) : R := x0.bind fun q0 => bif lensB q0.2 [] && lensS q0.1 [.c (.p (.row 0)), .c (.p (.bool))] then (cRow (resAt q0.1 0) 0).bind fun l => (cBool (resAt q0.1 1)).bind fun b => K0 l b else none
@[simp] theorem R33_r (l : List PV) (b : Bool) (K0 : List PV → Bool → R) : R33 (r33 l b) K0 = K0 l b := by kernel_rfl
def L33_1 (k n : Nat) (outLen : Nat) (t13 : List PV) (t14 t15 n1 n11 : Int) (l l1 xs : List PV) : R := evLoopAt P E T k 33 33 [] [1, 1, 1, 0, 1, 0] [] n ⟨mkT 33 [(1, .s (.c (.bptr 0 0))), (4, .s (.c (.loc 1 0 0 0 outLen))), (13, .s (.c (.p (PV.row 0 0 t13)))), (14, .s (.c (.p (PV.int .i64 t14)))), (15, .s (.c (.p (PV.int .i64 t15))))], [.box [.p (PV.int .i64 n1), .p (PV.int .i64 n11), .p (PV.row 2 0 l), .p (PV.row 2 0 l1)], .arr 3 0 0 false xs]⟩
/-! 34 : spec.StuckIn -/
def c34 (k : Nat) (p p1 : Int) (p2 p3 : List PV) : R := evF P E T k 34 [.s (.c (.p (PV.agg [.int .i64 p, .int .i64 p1, .row 2 0 p2, .row 2 0 p3])))] []
def r34 (l : List PV) (b : Bool) : R := some ([.c (.p (PV.row 0 0 l)), .c (.p (PV.bool b))], [])
def R34 (x0 : R) (K0 : List PV → Bool → R) : R := x0.bind fun q0 => bif lensB q0.2 [] && lensS q0.1 [.c (.p (.row 0)), .c (.p (.bool))] then (cRow (resAt q0.1 0) 0).bind fun l => (cBool (resAt q0.1 1)).bind fun b => K0 l b else none
@[simp] theorem R34_r (l : List PV) (b : Bool) (K0 : List PV → Bool → R) : R34 (r34 l b) K0 = K0 l b := by kernel_rfl
def L34_1 (k n : Nat) (outLen : Nat) (t11 : List PV) (t12 t13 n1 n11 : Int) (l l1 xs : List PV) : R := evLoopAt P E T k 34 34 [] [1, 1, 1, 0, 1, 0] [] n ⟨mkT 30 [(1, .s (.c (.bptr 0 0))), (4, .s (.c (.loc 1 0 0 0 outLen))), (11, .s (.c (.p (PV.row 0 0 t11)))), (12, .s (.c (.p (PV.int .i64 t12)))), (13, .s (.c (.p (PV.int .i64 t13))))], [.box [.p (PV.int .i64 n1), .p (PV.int .i64 n11), .p (PV.row 2 0 l), .p (PV.row 2 0 l1)], .arr 3 0 0 false xs]⟩
/-! 35 : impl.PathTo -/
def c35 (k : Nat) (p p1 : Int) (p2 p3 : List PV) (no : Int) : R := evF P E T k 35 [.s (.c (.p (PV.agg [.int .i64 p, .int .i64 p1, .row 2 0 p2, .row 2 0 p3]))), .s (.c (.p (PV.int .i64 no)))] []
def r35 (l : List PV) (b : Bool) : R := some ([.c (.p (PV.row 0 0 l)), .c (.p (PV.bool b))], [])
def R35 (x0 : R) (K0 : List PV → Bool → R) : R := x0.bind fun q0 => bif lensB q0.2 [] && lensS q0.1 [.c (.p (.row 0)), .c (.p (.bool))] then (cRow (resAt q0.1 0) 0).bind fun l => (cBool (resAt q0.1 1)).bind fun b => K0 l b else none
@[simp] theorem R35_r (l : List PV) (b : Bool) (K0 : List PV → Bool → R) : R35 (r35 l b) K0 = K0 l b := by kernel_rfl
/-! 36 : impl.StepsTo -/
def c36 (k : Nat) (p p1 : Int) (p2 p3 : List PV) (no : Int) : R := evF P E T k 36 [.s (.c (.p (PV.agg [.int .i64 p, .int .i64 p1, .row 2 0 p2, .row 2 0 p3]))), .s (.c (.p (PV.int .i64 no)))] []
def r36 (qr : Int) (b : Bool) : R := some ([.c (.p (PV.int .i64 qr)), .c (.p (PV.bool b))], [])
def R36 (x0 : R) (K0 : Int → Bool → R) : R := x0.bind fun q0 => bif lensB q0.2 [] && lensS q0.1 [.c (.p (.int .i64)), .c (.p (.bool))] then (cInt (resAt q0.1 0) .i64).bind fun qr => (cBool (resAt q0.1 1)).bind fun b => K0 qr b else none
@[simp] theorem R36_r (qr : Int) (b : Bool) (K0 : Int → Bool → R) : R36 (r36 qr b) K0 = K0 qr b := by kernel_rfl
/-! 37 : impl.IsPath -/
def c37 (k : Nat) (p p1 : Int) (p2 p3 path : List PV) : R := evF P E T k 37 [.s (.c (.p (PV.agg [.int .i64 p, .int .i64 p1, .row 2 0 p2, .row 2 0 p3]))), .s (.c (.p (PV.row 0 0 path)))] []
def r37 (b b1 : Bool) : R := some ([.c (.p (PV.bool b)), .c (.p (PV.bool b1))], [])
def R37 (x0 : R) (K0 : Bool → Bool → R) : R := x0.bind fun q0 => bif lensB q0.2 [] && lensS q0.1 [.c (.p (.bool)), .c (.p (.bool))] then (cBool (resAt q0.1 0)).bind fun b => (cBool (resAt q0.1 1)).bind fun b1 => K0 b b1 else none
@[simp] theorem R37_r (b b1 : Bool) (K0 : Bool → Bool → R) : R37 (r37 b b1) K0 = K0 b b1 := by kernel_rfl
def L37_1 (k n : Nat) (path : List PV) (i n1 n11 : Int) (l l1 : List PV) : R := evLoopAt P E T k 37 37 [] [1, 1, 0, 1, 0] [] n ⟨mkT 48 [(1, .s (.c (.p (PV.row 0 0 path)))), (2, .s (.c (.bptr 0 0))), (6, .s (.c (.p (PV.int .i64 i))))], [.box [.p (PV.int .i64 n1), .p (PV.int .i64 n11), .p (PV.row 2 0 l), .p (PV.row 2 0 l1)]]⟩
/-! 38 : spec.DrawIsPath -/
def c38 (k : Nat) (code : List PV) : R := evF P E T k 38 [.s (.c (.p (PV.row 0 0 code)))] []
def r38 (qr qr1 : Int) (l l1 l2 : List PV) : R := some ([.agg [.p (PV.int .i64 qr), .p (PV.int .i64 qr1), .p (PV.row 2 0 l), .p (PV.row 2 0 l1)], .c (.p (PV.row 0 0 l2))], [])
def R38 (x0 : R) (K0 : Int → Int → List PV → List PV → List PV → R) : R := x0.bind fun q0 => bif lensB q0.2 [] && lensS q0.1 [.agg [.p (.int .i64), .p (.int .i64), .p (.row 2), .p (.row 2)], .c (.p (.row 0))] then (cInt (Dp.partAt q0.1 0 0) .i64).bind fun qr => (cInt (Dp.partAt q0.1 0 1) .i64).bind fun qr1 => (cRow (Dp.partAt q0.1 0 2) 2).bind fun l => (cRow (Dp.partAt q0.1 0 3) 2).bind fun l1 => (cRow (resAt q0.1 1) 0).bind fun l2 => K0 qr qr1 l l1 l2 else none
@[simp] theorem R38_r (qr qr1 : Int) (l l1 l2 : List PV) (K0 : Int → Int → List PV → List PV → List PV → R) : R38 (r38 qr qr1 l l1 l2) K0 = K0 qr qr1 l l1 l2 := by kernel_rfl
def L38_1 (k n : Nat) (lLen : Nat) (n1 n11 n12 : Int) (l l1 l2 : List PV) (n13 n14 n15 n16 : Int) (l3 l4 xs : List PV) : R := evLoopAt P E T k 38 38 [] [1, 1, 1, 1, 0, 1, 0] [] n ⟨mkT 73 [(2, .s (.c (.bptr 0 0))), (4, .s (.c (.bptr 1 0))), (5, .s (.c (.bptr 2 0))), (6, .s (.c (.loc 3 0 0 0 lLen))), (8, .s (.c (.p (PV.int .i64 n1))))], [.box [.p (PV.int .i64 n11), .p (PV.int .i64 n12), .p (PV.row 2 0 l), .p (PV.row 2 0 l1)], .box [.p (PV.row 0 0 l2), .p (PV.int .i64 n13), .p (PV.int .u64 n14)], .box [.p (PV.int .i64 n15), .p (PV.int .i64 n16), .p (PV.row 2 0 l3), .p (PV.row 2 0 l4)], .arr 3 0 0 false xs]⟩
/-! 39 : spec.IsPath -/
def c39 (k : Nat) (p p1 : Int) (p2 p3 path : List PV) : R := evF P E T k 39 [.s (.c (.p (PV.agg [.int .i64 p, .int .i64 p1, .row 2 0 p2, .row 2 0 p3]))), .s (.c (.p (PV.row 0 0 path)))] []
def r39 (b b1 : Bool) : R := some ([.c (.p (PV.bool b)), .c (.p (PV.bool b1))], [])
def R39 (x0 : R) (K0 : Bool → Bool → R) : R := x0.bind fun q0 => bif lensB q0.2 [] && lensS q0.1 [.c (.p (.bool)), .c (.p (.bool))] then (cBool (resAt q0.1 0)).bind fun b => (cBool (resAt q0.1 1)).bind fun b1 => K0 b b1 else none
@[simp] theorem R39_r (b b1 : Bool) (K0 : Bool → Bool → R) : R39 (r39 b b1) K0 = K0 b b1 := by kernel_rfl
def L39_1 (k n : Nat) (path : List PV) (is1 : Bool) (i n1 n11 : Int) (l l1 : List PV) : R := evLoopAt P E T k 39 39 [] [1, 1, 1, 0, 1, 0] [] n ⟨mkT 55 [(1, .s (.c (.p (PV.row 0 0 path)))), (2, .s (.c (.bptr 0 0))), (6, .s (.c (.p (PV.bool is1)))), (7, .s (.c (.p (PV.int .i64 i))))], [.box [.p (PV.int .i64 n1), .p (PV.int .i64 n11), .p (PV.row 2 0 l), .p (PV.row 2 0 l1)]]⟩
/-! 40 : spec.l1Cur).small -/
def c40 (k : Nat) (l : List PV) (n1 n11 : Int) : R := evF P E T k 40 [.s (.c (.bptr 0 0))] [[.p (PV.row 0 0 l), .p (PV.int .i64 n1), .p (PV.int .u64 n11)]]
def r40 (l : List PV) (qr qr1 qr2 qr3 : Int) (l1 l2 : List PV) : R := some ([.agg [.p (PV.int .i64 qr2), .p (PV.int .i64 qr3), .p (PV.row 2 0 l1), .p (PV.row 2 0 l2)]], [[.p (PV.row 0 0 l), .p (PV.int .i64 qr), .p (PV.int .u64 qr1)]])
def R40 (x0 : R) (K0 : List PV → Int → Int → Int → Int → List PV → List PV → R) : R := x0.bind fun q0 => bif lensB q0.2 [[.p (.row 0), .p (.int .i64), .p (.int .u64)]] && lensS q0.1 [.agg [.p (.int .i64), .p (.int .i64), .p (.row 2), .p (.row 2)]] then (cRow (cellAt q0.2 0 0) 0).bind fun l => (cInt (cellAt q0.2 0 1) .i64).bind fun qr => (cInt (cellAt q0.2 0 2) .u64).bind fun qr1 => (cInt (Dp.partAt q0.1 0 0) .i64).bind fun qr2 => (cInt (Dp.partAt q0.1 0 1) .i64).bind fun qr3 => (cRow (Dp.partAt q0.1 0 2) 2).bind fun l1 => (cRow (Dp.partAt q0.1 0 3) 2).bind fun l2 => K0 l qr qr1 qr2 qr3 l1 l2 else none
@[simp] theorem R40_r (l : List PV) (qr qr1 qr2 qr3 : Int) (l1 l2 : List PV) (K0 : List PV → Int → Int → Int → Int → List PV → List PV → R) : R40 (r40 l qr qr1 qr2 qr3 l1 l2) K0 = K0 l qr qr1 qr2 qr3 l1 l2 := by kernel_rfl
def L40_1 (k n : Nat) (wide vars : Int) (l : List PV) (n1 n11 n12 n13 : Int) (l1 l2 : List PV) : R := evLoopAt P E T k 40 40 [3] [1, 1, 1, 1, 0, 0] [] n ⟨mkT 67 [(0, .s (.c (.bptr 0 0))), (2, .s (.c (.bptr 1 0))), (3, .s (.c (.p (PV.int .i64 wide)))), (4, .s (.c (.p (PV.int .i64 vars))))], [.box [.p (PV.row 0 0 l), .p (PV.int .i64 n1), .p (PV.int .u64 n11)], .box [.p (PV.int .i64 n12), .p (PV.int .i64 n13), .p (PV.row 2 0 l1), .p (PV.row 2 0 l2)]]⟩
/-! 49 : impl.isNo -/
def c49 (k : Nat) (p p1 : Int) (p2 p3 : List PV) (no : Int) : R := evF P E T k 49 [.s (.c (.p (PV.agg [.int .i64 p, .int .i64 p1, .row 2 0 p2, .row 2 0 p3]))), .s (.c (.p (PV.int .i64 no)))] []
def r49 (b : Bool) : R := some ([.c (.p (PV.bool b))], [])
def R49 (x0 : R) (K0 : Bool → R) : R := x0.bind fun q0 => bif lensB q0.2 [] && lensS q0.1 [.c (.p (.bool))] then (cBool (resAt q0.1 0)).bind fun b => K0 b else none
@[simp] theorem R49_r (b : Bool) (K0 : Bool → R) : R49 (r49 b) K0 = K0 b := by kernel_rfl
/-! 50 : impl.Program).isCondition -/
def c50 (k : Nat) (p p1 : Int) (p2 p3 t : List PV) : R := evF P E T k 50 [.s (.c (.p (PV.agg [.int .i64 p, .int .i64 p1, .row 2 0 p2, .row 2 0 p3]))), .s (.c (.p (PV.row 2 0 t)))] []
def r50 (b : Bool) : R := some ([.c (.p (PV.bool b))], [])
def R50 (x0 : R) (K0 : Bool → R) : R := x0.bind fun q0 => bif lensB q0.2 [] && lensS q0.1 [.c (.p (.bool))] then (cBool (resAt q0.1 0)).bind fun b => K0 b else none
@[simp] theorem R50_r (b : Bool) (K0 : Bool → R) : R50 (r50 b) K0 = K0 b := by kernel_rfl
/-! 51 : impl.Program).holds -/
def c51 (k : Nat) (p p1 : Int) (p2 p3 t qs : List PV) : R := evF P E T k 51 [.s (.c (.p (PV.agg [.int .i64 p, .int .i64 p1, .row 2 0 p2, .row 2 0 p3]))), .s (.c (.p (PV.row 2 0 t))), .s (.c (.p (PV.row 0 0 qs)))] []
def r51 (b : Bool) : R := some ([.c (.p (PV.bool b))], [])
def R51 (x0 : R) (K0 : Bool → R) : R := x0.bind fun q0 => bif lensB q0.2 [] && lensS q0.1 [.c (.p (.bool))] then (cBool (resAt q0.1 0)).bind fun b => K0 b else none
@[simp] theorem R51_r (b : Bool) (K0 : Bool → R) : R51 (r51 b) K0 = K0 b := by kernel_rfl
/-! 52 : impl.Program).stateOf -/
def c52 (k : Nat) (p p1 : Int) (p2 p3 : List PV) (no : Int) : R := evF P E T k 52 [.s (.c (.p (PV.agg [.int .i64 p, .int .i64 p1, .row 2 0 p2, .row 2 0 p3]))), .s (.c (.p (PV.int .i64 no)))] []
def r52 (l : List PV) : R := some ([.c (.p (PV.row 0 0 l))], [])
def R52 (x0 : R) (K0 : List PV → R) : R := x0.bind fun q0 => bif lensB q0.2 [] && lensS q0.1 [.c (.p (.row 0))] then (cRow (resAt q0.1 0) 0).bind fun l => K0 l else none
@[simp] theorem R52_r (l : List PV) (K0 : List PV → R) : R52 (r52 l) K0 = K0 l := by kernel_rfl
def L52_1 (k n : Nat) (no : Int) (outLen : Nat) (t9 t10 n1 n11 : Int) (l l1 xs : List PV) : R := evLoopAt P E T k 52 52 [] [1, 1, 0, 1, 0] [] n ⟨mkT 29 [(1, .s (.c (.p (PV.int .i64 no)))), (2, .s (.c (.bptr 0 0))), (5, .s (.c (.loc 1 0 0 0 outLen))), (9, .s (.c (.p (PV.int .i64 t9)))), (10, .s (.c (.p (PV.int .i64 t10))))], [.box [.p (PV.int .i64 n1), .p (PV.int .i64 n11), .p (PV.row 2 0 l), .p (PV.row 2 0 l1)], .arr 57 0 0 false xs]⟩
/-! 53 : impl.Program).nextOf -/
def c53 (k : Nat) (p p1 : Int) (p2 p3 : List PV) (no : Int) : R := evF P E T k 53 [.s (.c (.p (PV.agg [.int .i64 p, .int .i64 p1, .row 2 0 p2, .row 2 0 p3]))), .s (.c (.p (PV.int .i64 no)))] []
def r53 (l : List PV) : R := some ([.c (.p (PV.row 0 0 l))], [])
def R53 (x0 : R) (K0 : List PV → R) : R := x0.bind fun q0 => bif lensB q0.2 [] && lensS q0.1 [.c (.p (.row 0))] then (cRow (resAt q0.1 0) 0).bind fun l => K0 l else none
@[simp] theorem R53_r (l : List PV) (K0 : List PV → R) : R53 (r53 l) K0 = K0 l := by kernel_rfl
def L53_1 (k n : Nat) (no : Int) (qs : List PV) (outLen : Nat) (t14 : List PV) (t15 t16 n1 n11 : Int) (l l1 xs : List PV) : R := evLoopAt P E T k 53 53 [] [1, 1, 0, 1, 0] [] n ⟨mkT 44 [(1, .s (.c (.p (PV.int .i64 no)))), (2, .s (.c (.bptr 0 0))), (5, .s (.c (.p (PV.row 0 0 qs)))), (6, .s (.c (.loc 1 0 0 0 outLen))), (14, .s (.c (.p (PV.row 2 0 t14)))), (15, .s (.c (.p (PV.int .i64 t15)))), (16, .s (.c (.p (PV.int .i64 t16))))], [.box [.p (PV.int .i64 n1), .p (PV.int .i64 n11), .p (PV.row 2 0 l), .p (PV.row 2 0 l1)], .arr 3 0 0 false xs]⟩
/-! 54 : spec.l1Cur).pick -/
def c54 (k : Nat) (n1 : Int) (l : List PV) (n11 n12 : Int) : R := evF P E T k 54 [.s (.c (.bptr 0 0)), .s (.c (.p (PV.int .i64 n1)))] [[.p (PV.row 0 0 l), .p (PV.int .i64 n11), .p (PV.int .u64 n12)]]
def r54 (l : List PV) (qr qr1 qr2 : Int) : R := some ([.c (.p (PV.int .i64 qr2))], [[.p (PV.row 0 0 l), .p (PV.int .i64 qr), .p (PV.int .u64 qr1)]])
def R54 (x0 : R) (K0 : List PV → Int → Int → Int → R) : R := x0.bind fun q0 => bif lensB q0.2 [[.p (.row 0), .p (.int .i64), .p (.int .u64)]] && lensS q0.1 [.c (.p (.int .i64))] then (cRow (cellAt q0.2 0 0) 0).bind fun l => (cInt (cellAt q0.2 0 1) .i64).bind fun qr => (cInt (cellAt q0.2 0 2) .u64).bind fun qr1 => (cInt (resAt q0.1 0) .i64).bind fun qr2 => K0 l qr qr1 qr2 else none
@[simp] theorem R54_r (l : List PV) (qr qr1 qr2 : Int) (K0 : List PV → Int → Int → Int → R) : R54 (r54 l qr qr1 qr2) K0 = K0 l qr qr1 qr2 := by kernel_rfl
/-! 55 : spec.l1Cur).one -/
def c55 (k : Nat) (n1 : Int) (l : List PV) (n11 n12 : Int) : R := evF P E T k 55 [.s (.c (.bptr 0 0)), .s (.c (.p (PV.int .i64 n1)))] [[.p (PV.row 0 0 l), .p (PV.int .i64 n11), .p (PV.int .u64 n12)]]
def r55 (l : List PV) (qr qr1 : Int) (b : Bool) : R := some ([.c (.p (PV.bool b))], [[.p (PV.row 0 0 l), .p (PV.int .i64 qr), .p (PV.int .u64 qr1)]])
def R55 (x0 : R) (K0 : List PV → Int → Int → Bool → R) : R := x0.bind fun q0 => bif lensB q0.2 [[.p (.row 0), .p (.int .i64), .p (.int .u64)]] && lensS q0.1 [.c (.p (.bool))] then (cRow (cellAt q0.2 0 0) 0).bind fun l => (cInt (cellAt q0.2 0 1) .i64).bind fun qr => (cInt (cellAt q0.2 0 2) .u64).bind fun qr1 => (cBool (resAt q0.1 0)).bind fun b => K0 l qr qr1 b else none
@[simp] theorem R55_r (l : List PV) (qr qr1 : Int) (b : Bool) (K0 : List PV → Int → Int → Bool → R) : R55 (r55 l qr qr1 b) K0 = K0 l qr qr1 b := by kernel_rfl
/-! 57f92 : slices.ContainsFunc[[]int,int] -/
def c57f92 (k : Nat) (qs : List PV) (n1 n11 : Int) (l l1 : List PV) : R := evF P E T k 57 [.s (.c (.p (PV.row 0 0 qs))), .s (.c (.cfn 92 [PV.agg [.int .i64 n1, .int .i64 n11, .row 2 0 l, .row 2 0 l1]]))] []
def r57f92 (b : Bool) : R := some ([.c (.p (PV.bool b))], [])
def R57f92 (x0 : R) (K0 : Bool → R) : R := x0.bind fun q0 => bif lensB q0.2 [] && lensS q0.1 [.c (.p (.bool))] then (cBool (resAt q0.1 0)).bind fun b => K0 b else none
@[simp] theorem R57f92_r (b : Bool) (K0 : Bool → R) : R57f92 (r57f92 b) K0 = K0 b := by kernel_rfl
def R57f92p (x0 : R) (K0 : Bool → R) : R := x0.bind fun q0 => bif q0.1.all plainS && q0.2.all (fun cs => cs.all plainC) then (bif lensB q0.2 [] && lensS q0.1 [.c (.p (.bool))] then (cBool (resAt q0.1 0)).bind fun b => K0 b else none) else none
@[simp] theorem R57f92p_r (b : Bool) (K0 : Bool → R) : R57f92p (r57f92 b) K0 = K0 b := by kernel_rfl
/-! 57f140 : slices.ContainsFunc[[]int,int] -/
def c57f140 (k : Nat) (qs : List PV) (n1 : Int) : R := evF P E T k 57 [.s (.c (.p (PV.row 0 0 qs))), .s (.c (.fn 140 [0]))] [[.p (PV.int .i64 n1)]]
def r57f140 (qr : Int) (b : Bool) : R := some ([.c (.p (PV.bool b))], [[.p (PV.int .i64 qr)]])
def R57f140 (x0 : R) (K0 : Int → Bool → R) : R := x0.bind fun q0 => bif lensB q0.2 [[.p (.int .i64)]] && lensS q0.1 [.c (.p (.bool))] then (cInt (cellAt q0.2 0 0) .i64).bind fun qr => (cBool (resAt q0.1 0)).bind fun b => K0 qr b else none
@[simp] theorem R57f140_r (qr : Int) (b : Bool) (K0 : Int → Bool → R) : R57f140 (r57f140 qr b) K0 = K0 qr b := by kernel_rfl
def R57f140p (x0 : R) (K0 : Int → Bool → R) : R := x0.bind fun q0 => bif q0.1.all plainS && q0.2.all (fun cs => cs.all plainC) then (bif lensB q0.2 [[.p (.int .i64)]] && lensS q0.1 [.c (.p (.bool))] then (cInt (cellAt q0.2 0 0) .i64).bind fun qr => (cBool (resAt q0.1 0)).bind fun b => K0 qr b else none) else none
@[simp] theorem R57f140p_r (qr : Int) (b : Bool) (K0 : Int → Bool → R) : R57f140p (r57f140 qr b) K0 = K0 qr b := by kernel_rfl
/-! 62 : spec.l1All -/
def c62 (k : Nat) (l : List PV) (lo hi : Int) : R := evF P E T k 62 [.s (.c (.p (PV.row 0 0 l))), .s (.c (.p (PV.int .i64 lo))), .s (.c (.p (PV.int .i64 hi)))] []
def r62 (b : Bool) : R := some ([.c (.p (PV.bool b))], [])
def R62 (x0 : R) (K0 : Bool → R) : R := x0.bind fun q0 => bif lensB q0.2 [] && lensS q0.1 [.c (.p (.bool))] then (cBool (resAt q0.1 0)).bind fun b => K0 b else none
@[simp] theorem R62_r (b : Bool) (K0 : Bool → R) : R62 (r62 b) K0 = K0 b := by kernel_rfl
def L62_1 (k n : Nat) (lo hi : Int) (t9 : List PV) (t10 t11 : Int) : R := evLoopAt P E T k 62 62 [] [1, 0, 1, 0] [] n ⟨mkT 21 [(1, .s (.c (.p (PV.int .i64 lo)))), (2, .s (.c (.p (PV.int .i64 hi)))), (9, .s (.c (.p (PV.row 0 0 t9)))), (10, .s (.c (.p (PV.int .i64 t10)))), (11, .s (.c (.p (PV.int .i64 t11))))], []⟩
/-! 63 : spec.l1Cur).stateNo -/
def c63 (k : Nat) (p p1 : Int) (p2 p3 l : List PV) (n1 n11 : Int) : R := evF P E T k 63 [.s (.c (.bptr 0 0)), .s (.c (.p (PV.agg [.int .i64 p, .int .i64 p1, .row 2 0 p2, .row 2 0 p3])))] [[.p (PV.row 0 0 l), .p (PV.int .i64 n1), .p (PV.int .u64 n11)]]
def r63 (l : List PV) (qr qr1 qr2 : Int) : R := some ([.c (.p (PV.int .i64 qr2))], [[.p (PV.row 0 0 l), .p (PV.int .i64 qr), .p (PV.int .u64 qr1)]])
def R63 (x0 : R) (K0 : List PV → Int → Int → Int → R) : R := x0.bind fun q0 => bif lensB q0.2 [[.p (.row 0), .p (.int .i64), .p (.int .u64)]] && lensS q0.1 [.c (.p (.int .i64))] then (cRow (cellAt q0.2 0 0) 0).bind fun l => (cInt (cellAt q0.2 0 1) .i64).bind fun qr => (cInt (cellAt q0.2 0 2) .u64).bind fun qr1 => (cInt (resAt q0.1 0) .i64).bind fun qr2 => K0 l qr qr1 qr2 else none
@[simp] theorem R63_r (l : List PV) (qr qr1 qr2 : Int) (K0 : List PV → Int → Int → Int → R) : R63 (r63 l qr qr1 qr2) K0 = K0 l qr qr1 qr2 := by kernel_rfl
/-! 64 : spec.l8Is -/
def c64 (k : Nat) (p p1 : Int) (p2 p3 : List PV) (no : Int) : R := evF P E T k 64 [.s (.c (.p (PV.agg [.int .i64 p, .int .i64 p1, .row 2 0 p2, .row 2 0 p3]))), .s (.c (.p (PV.int .i64 no)))] []
def r64 (b : Bool) : R := some ([.c (.p (PV.bool b))], [])
def R64 (x0 : R) (K0 : Bool → R) : R := x0.bind fun q0 => bif lensB q0.2 [] && lensS q0.1 [.c (.p (.bool))] then (cBool (resAt q0.1 0)).bind fun b => K0 b else none
@[simp] theorem R64_r (b : Bool) (K0 : Bool → R) : R64 (r64 b) K0 = K0 b := by kernel_rfl
/-! 65 : spec.l8Next -/
def c65 (k : Nat) (p p1 : Int) (p2 p3 : List PV) (no : Int) : R := evF P E T k 65 [.s (.c (.p (PV.agg [.int .i64 p, .int .i64 p1, .row 2 0 p2, .row 2 0 p3]))), .s (.c (.p (PV.int .i64 no)))] []
def r65 (l : List PV) : R := some ([.c (.p (PV.row 0 0 l))], [])
def R65 (x0 : R) (K0 : List PV → R) : R := x0.bind fun q0 => bif lensB q0.2 [] && lensS q0.1 [.c (.p (.row 0))] then (cRow (resAt q0.1 0) 0).bind fun l => K0 l else none
@[simp] theorem R65_r (l : List PV) (K0 : List PV → R) : R65 (r65 l) K0 = K0 l := by kernel_rfl
def L65_1 (k n : Nat) (no : Int) (qs : List PV) (outLen : Nat) (t14 : List PV) (t15 t16 n1 n11 : Int) (l l1 xs : List PV) : R := evLoopAt P E T k 65 65 [] [1, 1, 1, 0, 1, 0] [] n ⟨mkT 35 [(1, .s (.c (.p (PV.int .i64 no)))), (2, .s (.c (.bptr 0 0))), (5, .s (.c (.p (PV.row 0 0 qs)))), (6, .s (.c (.loc 1 0 0 0 outLen))), (14, .s (.c (.p (PV.row 0 0 t14)))), (15, .s (.c (.p (PV.int .i64 t15)))), (16, .s (.c (.p (PV.int .i64 t16))))], [.box [.p (PV.int .i64 n1), .p (PV.int .i64 n11), .p (PV.row 2 0 l), .p (PV.row 2 0 l1)], .arr 3 0 0 false xs]⟩
/-! 66 : impl.isSmall -/
def c66 (k : Nat) (p p1 : Int) (p2 p3 : List PV) : R := evF P E T k 66 [.s (.c (.p (PV.agg [.int .i64 p, .int .i64 p1, .row 2 0 p2, .row 2 0 p3])))] []
def r66 (b : Bool) : R := some ([.c (.p (PV.bool b))], [])
def R66 (x0 : R) (K0 : Bool → R) : R := x0.bind fun q0 => bif lensB q0.2 [] && lensS q0.1 [.c (.p (.bool))] then (cBool (resAt q0.1 0)).bind fun b => K0 b else none
@[simp] theorem R66_r (b : Bool) (K0 : Bool → R) : R66 (r66 b) K0 = K0 b := by kernel_rfl
/-! 68 : impl.Program).states -/
def c68 (k : Nat) (p p1 : Int) (p2 p3 : List PV) : R := evF P E T k 68 [.s (.c (.p (PV.agg [.int .i64 p, .int .i64 p1, .row 2 0 p2, .row 2 0 p3])))] []
def r68 (qr : Int) : R := some ([.c (.p (PV.int .i64 qr))], [])
def R68 (x0 : R) (K0 : Int → R) : R := x0.bind fun q0 => bif lensB q0.2 [] && lensS q0.1 [.c (.p (.int .i64))] then (cInt (resAt q0.1 0) .i64).bind fun qr => K0 qr else none
@[simp] theorem R68_r (qr : Int) (K0 : Int → R) : R68 (r68 qr) K0 = K0 qr := by kernel_rfl
/-! 69 : impl.reachedFrom -/
def c69 (k : Nat) (g some1 : List PV) : R := evF P E T k 69 [.s (.c (.p (PV.row 0 0 g))), .s (.c (.p (PV.row 0 0 some1)))] []
def r69 (l : List PV) : R := some ([.c (.p (PV.row 0 0 l))], [])
def R69 (x0 : R) (K0 : List PV → R) : R := x0.bind fun q0 => bif lensB q0.2 [] && lensS q0.1 [.c (.p (.row 0))] then (cRow (resAt q0.1 0) 0).bind fun l => K0 l else none
@[simp] theorem R69_r (l : List PV) (K0 : List PV → R) : R69 (r69 l) K0 = K0 l := by kernel_rfl
def L69_1 (k n : Nat) (outLen : Nat) (t11 : List PV) (t12 t13 : Int) (xs : List PV) : R := evLoopAt P E T k 69 69 [] [1, 1, 0, 1, 0] [] n ⟨mkT 26 [(5, .s (.c (.loc 0 0 0 0 outLen))), (11, .s (.c (.p (PV.row 0 0 t11)))), (12, .s (.c (.p (PV.int .i64 t12)))), (13, .s (.c (.p (PV.int .i64 t13))))], [.arr 3 0 0 false xs]⟩
/-! 70 : impl.turned -/
def c70 (k : Nat) (g : List PV) : R := evF P E T k 70 [.s (.c (.p (PV.row 0 0 g)))] []
def r70 (l : List PV) : R := some ([.c (.p (PV.row 0 0 l))], [])
def R70 (x0 : R) (K0 : List PV → R) : R := x0.bind fun q0 => bif lensB q0.2 [] && lensS q0.1 [.c (.p (.row 0))] then (cRow (resAt q0.1 0) 0).bind fun l => K0 l else none
@[simp] theorem R70_r (l : List PV) (K0 : List PV → R) : R70 (r70 l) K0 = K0 l := by kernel_rfl
def L70_1 (k n : Nat) (outLen : Nat) (t11 : List PV) (t12 t13 : Int) (xs : List PV) : R := evLoopAt P E T k 70 70 [] [1, 1, 0, 1, 0] [] n ⟨mkT 37 [(3, .s (.c (.loc 0 0 0 0 outLen))), (11, .s (.c (.p (PV.row 0 0 t11)))), (12, .s (.c (.p (PV.int .i64 t12)))), (13, .s (.c (.p (PV.int .i64 t13))))], [.arr ⟨36, some ⟨0, 3, 0, 0, none⟩⟩ 0 0 false xs]⟩
def L70_2 (k n1 n : Nat) (outLen : Nat) (v : Int) (t11 : List PV) (t12 t13 : Int) (t18 : List PV) (t19 t20 : Int) (xs : List PV) : R := evLoopAt P E T k 70 70 [] [1, 1, 0, 1, 0, 0, 1, 1, 0, 0, 1, 1, 0] [n1] n ⟨mkT 37 [(3, .s (.c (.loc 0 0 0 0 outLen))), (4, .s (.c (.p (PV.int .i64 v)))), (11, .s (.c (.p (PV.row 0 0 t11)))), (12, .s (.c (.p (PV.int .i64 t12)))), (13, .s (.c (.p (PV.int .i64 t13)))), (18, .s (.c (.p (PV.row 0 0 t18)))), (19, .s (.c (.p (PV.int .i64 t19)))), (20, .s (.c (.p (PV.int .i64 t20))))], [.arr ⟨36, some ⟨0, 3, 0, 0, none⟩⟩ 0 0 false xs]⟩
/-! 71 : impl.Program).graph -/
def c71 (k : Nat) (p p1 : Int) (p2 p3 : List PV) : R := evF P E T k 71 [.s (.c (.p (PV.agg [.int .i64 p, .int .i64 p1, .row 2 0 p2, .row 2 0 p3])))] []
def r71 (l : List PV) : R := some ([.c (.p (PV.row 0 0 l))], [])
def R71 (x0 : R) (K0 : List PV → R) : R := x0.bind fun q0 => bif lensB q0.2 [] && lensS q0.1 [.c (.p (.row 0))] then (cRow (resAt q0.1 0) 0).bind fun l => K0 l else none
@[simp] theorem R71_r (l : List PV) (K0 : List PV → R) : R71 (r71 l) K0 = K0 l := by kernel_rfl
def L71_1 (k n : Nat) (outLen : Nat) (t7 t8 n1 n11 : Int) (l l1 xs : List PV) : R := evLoopAt P E T k 71 71 [] [1, 1, 0, 1, 0] [] n ⟨mkT 19 [(1, .s (.c (.bptr 0 0))), (3, .s (.c (.loc 1 0 0 0 outLen))), (7, .s (.c (.p (PV.int .i64 t7)))), (8, .s (.c (.p (PV.int .i64 t8))))], [.box [.p (PV.int .i64 n1), .p (PV.int .i64 n11), .p (PV.row 2 0 l), .p (PV.row 2 0 l1)], .arr 36 0 0 false xs]⟩
/-! 72 : impl.Program).where -/
def c72 (k : Nat) (p p1 : Int) (p2 p3 t : List PV) : R := evF P E T k 72 [.s (.c (.p (PV.agg [.int .i64 p, .int .i64 p1, .row 2 0 p2, .row 2 0 p3]))), .s (.c (.p (PV.row 2 0 t)))] []
def r72 (l : List PV) : R := some ([.c (.p (PV.row 0 0 l))], [])
def R72 (x0 : R) (K0 : List PV → R) : R := x0.bind fun q0 => bif lensB q0.2 [] && lensS q0.1 [.c (.p (.row 0))] then (cRow (resAt q0.1 0) 0).bind fun l => K0 l else none
@[simp] theorem R72_r (l : List PV) (K0 : List PV → R) : R72 (r72 l) K0 = K0 l := by kernel_rfl
def L72_1 (k n : Nat) (t : List PV) (outLen : Nat) (t9 t10 n1 n11 : Int) (l l1 xs : List PV) : R := evLoopAt P E T k 72 72 [] [1, 1, 0, 1, 0] [] n ⟨mkT 25 [(1, .s (.c (.p (PV.row 2 0 t)))), (2, .s (.c (.bptr 0 0))), (5, .s (.c (.loc 1 0 0 0 outLen))), (9, .s (.c (.p (PV.int .i64 t9)))), (10, .s (.c (.p (PV.int .i64 t10))))], [.box [.p (PV.int .i64 n1), .p (PV.int .i64 n11), .p (PV.row 2 0 l), .p (PV.row 2 0 l1)], .arr 3 0 0 false xs]⟩
/-! 73 : impl.Program).reach -/
def c73 (k : Nat) (p p1 : Int) (p2 p3 : List PV) : R := evF P E T k 73 [.s (.c (.p (PV.agg [.int .i64 p, .int .i64 p1, .row 2 0 p2, .row 2 0 p3])))] []
def r73 (l : List PV) : R := some ([.c (.p (PV.row 0 0 l))], [])
def R73 (x0 : R) (K0 : List PV → R) : R := x0.bind fun q0 => bif lensB q0.2 [] && lensS q0.1 [.c (.p (.row 0))] then (cRow (resAt q0.1 0) 0).bind fun l => K0 l else none
@[simp] theorem R73_r (l : List PV) (K0 : List PV → R) : R73 (r73 l) K0 = K0 l := by kernel_rfl
/-! 74 : spec.l1Cur).asked -/
def c74 (k : Nat) (wide vars deep : Int) (l : List PV) (n1 n11 : Int) : R := evF P E T k 74 [.s (.c (.bptr 0 0)), .s (.c (.p (PV.int .i64 wide))), .s (.c (.p (PV.int .i64 vars))), .s (.c (.p (PV.int .i64 deep)))] [[.p (PV.row 0 0 l), .p (PV.int .i64 n1), .p (PV.int .u64 n11)]]
def r74 (l : List PV) (qr qr1 : Int) (l1 : List PV) : R := some ([.c (.own 68 2 l1)], [[.p (PV.row 0 0 l), .p (PV.int .i64 qr), .p (PV.int .u64 qr1)]])
def R74 (x0 : R) (K0 : List PV → Int → Int → List PV → R) : R := x0.bind fun q0 => bif lensB q0.2 [[.p (.row 0), .p (.int .i64), .p (.int .u64)]] && lensS q0.1 [.c (.own 68 2)] then (cRow (cellAt q0.2 0 0) 0).bind fun l => (cInt (cellAt q0.2 0 1) .i64).bind fun qr => (cInt (cellAt q0.2 0 2) .u64).bind fun qr1 => (asOwn 68 2 (resAt q0.1 0)).bind fun l1 => K0 l qr qr1 l1 else none
@[simp] theorem R74_r (l : List PV) (qr qr1 : Int) (l1 : List PV) (K0 : List PV → Int → Int → List PV → R) : R74 (r74 l qr qr1 l1) K0 = K0 l qr qr1 l1 := by kernel_rfl
/-! 76 : spec.l7Small -/
def c76 (k : Nat) (p p1 : Int) (p2 p3 : List PV) : R := evF P E T k 76 [.s (.c (.p (PV.agg [.int .i64 p, .int .i64 p1, .row 2 0 p2, .row 2 0 p3])))] []
def r76 (b : Bool) : R := some ([.c (.p (PV.bool b))], [])
def R76 (x0 : R) (K0 : Bool → R) : R := x0.bind fun q0 => bif lensB q0.2 [] && lensS q0.1 [.c (.p (.bool))] then (cBool (resAt q0.1 0)).bind fun b => K0 b else none
@[simp] theorem R76_r (b : Bool) (K0 : Bool → R) : R76 (r76 b) K0 = K0 b := by kernel_rfl
/-! 77 : spec.l7Asks -/
def c77 (k : Nat) (p p1 : Int) (p2 p3 t : List PV) : R := evF P E T k 77 [.s (.c (.p (PV.agg [.int .i64 p, .int .i64 p1, .row 2 0 p2, .row 2 0 p3]))), .s (.c (.p (PV.row 2 0 t)))] []
def r77 (b : Bool) : R := some ([.c (.p (PV.bool b))], [])
def R77 (x0 : R) (K0 : Bool → R) : R := x0.bind fun q0 => bif lensB q0.2 [] && lensS q0.1 [.c (.p (.bool))] then (cBool (resAt q0.1 0)).bind fun b => K0 b else none
@[simp] theorem R77_r (b : Bool) (K0 : Bool → R) : R77 (r77 b) K0 = K0 b := by kernel_rfl
/-! 78 : spec.l8Reach -/
def c78 (k : Nat) (p p1 : Int) (p2 p3 : List PV) : R := evF P E T k 78 [.s (.c (.p (PV.agg [.int .i64 p, .int .i64 p1, .row 2 0 p2, .row 2 0 p3])))] []
def r78 (l : List PV) : R := some ([.c (.p (PV.row 0 0 l))], [])
def R78 (x0 : R) (K0 : List PV → R) : R := x0.bind fun q0 => bif lensB q0.2 [] && lensS q0.1 [.c (.p (.row 0))] then (cRow (resAt q0.1 0) 0).bind fun l => K0 l else none
@[simp] theorem R78_r (l : List PV) (K0 : List PV → R) : R78 (r78 l) K0 = K0 l := by kernel_rfl
def L78_1 (k n : Nat) (out : List PV) (n1 n11 : Int) (l l1 : List PV) : R := evLoopAt P E T k 78 78 [] [1, 1, 0] [] n ⟨mkT 21 [(1, .s (.c (.bptr 0 0))), (3, .s (.c (.p (PV.row 0 0 out))))], [.box [.p (PV.int .i64 n1), .p (PV.int .i64 n11), .p (PV.row 2 0 l), .p (PV.row 2 0 l1)]]⟩
/-! 79 : spec.l7Holds -/
def c79 (k : Nat) (p p1 : Int) (p2 p3 t qs : List PV) : R := evF P E T k 79 [.s (.c (.p (PV.agg [.int .i64 p, .int .i64 p1, .row 2 0 p2, .row 2 0 p3]))), .s (.c (.p (PV.row 2 0 t))), .s (.c (.p (PV.row 0 0 qs)))] []
def r79 (b : Bool) : R := some ([.c (.p (PV.bool b))], [])
def R79 (x0 : R) (K0 : Bool → R) : R := x0.bind fun q0 => bif lensB q0.2 [] && lensS q0.1 [.c (.p (.bool))] then (cBool (resAt q0.1 0)).bind fun b => K0 b else none
@[simp] theorem R79_r (b : Bool) (K0 : Bool → R) : R79 (r79 b) K0 = K0 b := by kernel_rfl
/-! 80 : spec.l7Of -/
def c80 (k : Nat) (p p1 : Int) (p2 p3 : List PV) (no : Int) : R := evF P E T k 80 [.s (.c (.p (PV.agg [.int .i64 p, .int .i64 p1, .row 2 0 p2, .row 2 0 p3]))), .s (.c (.p (PV.int .i64 no)))] []
def r80 (l : List PV) : R := some ([.c (.p (PV.row 0 0 l))], [])
def R80 (x0 : R) (K0 : List PV → R) : R := x0.bind fun q0 => bif lensB q0.2 [] && lensS q0.1 [.c (.p (.row 0))] then (cRow (resAt q0.1 0) 0).bind fun l => K0 l else none
@[simp] theorem R80_r (l : List PV) (K0 : List PV → R) : R80 (r80 l) K0 = K0 l := by kernel_rfl
def L80_1 (k n : Nat) (no : Int) (outLen : Nat) (v n1 n11 : Int) (l l1 xs : List PV) : R := evLoopAt P E T k 80 80 [] [1, 1, 0, 1, 0] [] n ⟨mkT 31 [(1, .s (.c (.p (PV.int .i64 no)))), (2, .s (.c (.bptr 0 0))), (5, .s (.c (.loc 1 0 0 0 outLen))), (6, .s (.c (.p (PV.int .i64 v))))], [.box [.p (PV.int .i64 n1), .p (PV.int .i64 n11), .p (PV.row 2 0 l), .p (PV.row 2 0 l1)], .arr 57 0 0 false xs]⟩
/-! 81 : spec.l1Put -/
def c81 (k : Nat) (l : List PV) (n1 : Int) : R := evF P E T k 81 [.s (.c (.own 3 0 l)), .s (.c (.p (PV.int .i64 n1)))] []
def r81 (l : List PV) : R := some ([.c (.own 3 0 l)], [])
def R81 (x0 : R) (K0 : List PV → R) : R := x0.bind fun q0 => bif lensB q0.2 [] && lensS q0.1 [.c (.own 3 0)] then (asOwn 3 0 (resAt q0.1 0)).bind fun l => K0 l else none
@[simp] theorem R81_r (l : List PV) (K0 : List PV → R) : R81 (r81 l) K0 = K0 l := by kernel_rfl
def L81_1 (k n : Nat) (lLen : Nat) (n1 k1 : Int) (xs : List PV) : R := evLoopAt P E T k 81 81 [] [1, 1, 0, 0] [] n ⟨mkT 48 [(0, .s (.c (.loc 0 0 0 0 lLen))), (1, .s (.c (.p (PV.int .i64 n1)))), (5, .s (.c (.p (PV.int .i64 k1))))], [.arr 3 0 0 false xs]⟩
/-! 83 : spec.l7Many -/
def c83 (k : Nat) (p p1 : Int) (p2 p3 : List PV) : R := evF P E T k 83 [.s (.c (.p (PV.agg [.int .i64 p, .int .i64 p1, .row 2 0 p2, .row 2 0 p3])))] []
def r83 (qr : Int) : R := some ([.c (.p (PV.int .i64 qr))], [])
def R83 (x0 : R) (K0 : Int → R) : R := x0.bind fun q0 => bif lensB q0.2 [] && lensS q0.1 [.c (.p (.int .i64))] then (cInt (resAt q0.1 0) .i64).bind fun qr => K0 qr else none
@[simp] theorem R83_r (qr : Int) (K0 : Int → R) : R83 (r83 qr) K0 = K0 qr := by kernel_rfl
/-! 85 : spec.DrawStarts -/
def c85 (k : Nat) (code : List PV) : R := evF P E T k 85 [.s (.c (.p (PV.row 0 0 code)))] []
def r85 (qr qr1 : Int) (l l1 : List PV) : R := some ([.agg [.p (PV.int .i64 qr), .p (PV.int .i64 qr1), .p (PV.row 2 0 l), .p (PV.row 2 0 l1)]], [])
def R85 (x0 : R) (K0 : Int → Int → List PV → List PV → R) : R := x0.bind fun q0 => bif lensB q0.2 [] && lensS q0.1 [.agg [.p (.int .i64), .p (.int .i64), .p (.row 2), .p (.row 2)]] then (cInt (Dp.partAt q0.1 0 0) .i64).bind fun qr => (cInt (Dp.partAt q0.1 0 1) .i64).bind fun qr1 => (cRow (Dp.partAt q0.1 0 2) 2).bind fun l => (cRow (Dp.partAt q0.1 0 3) 2).bind fun l1 => K0 qr qr1 l l1 else none
@[simp] theorem R85_r (qr qr1 : Int) (l l1 : List PV) (K0 : Int → Int → List PV → List PV → R) : R85 (r85 qr qr1 l l1) K0 = K0 qr qr1 l l1 := by kernel_rfl
/-! 86 : spec.l8Those -/
def c86 (k : Nat) (p p1 : Int) (p2 p3 t : List PV) : R := evF P E T k 86 [.s (.c (.p (PV.agg [.int .i64 p, .int .i64 p1, .row 2 0 p2, .row 2 0 p3]))), .s (.c (.p (PV.row 2 0 t)))] []
def r86 (l : List PV) : R := some ([.c (.p (PV.row 0 0 l))], [])
def R86 (x0 : R) (K0 : List PV → R) : R := x0.bind fun q0 => bif lensB q0.2 [] && lensS q0.1 [.c (.p (.row 0))] then (cRow (resAt q0.1 0) 0).bind fun l => K0 l else none
@[simp] theorem R86_r (l : List PV) (K0 : List PV → R) : R86 (r86 l) K0 = K0 l := by kernel_rfl
def L86_1 (k n : Nat) (t : List PV) (outLen : Nat) (no n1 n11 : Int) (l l1 xs : List PV) : R := evLoopAt P E T k 86 86 [] [1, 1, 0, 1, 0] [] n ⟨mkT 24 [(1, .s (.c (.p (PV.row 2 0 t)))), (2, .s (.c (.bptr 0 0))), (5, .s (.c (.loc 1 0 0 0 outLen))), (6, .s (.c (.p (PV.int .i64 no))))], [.box [.p (PV.int .i64 n1), .p (PV.int .i64 n11), .p (PV.row 2 0 l), .p (PV.row 2 0 l1)], .arr 3 0 0 false xs]⟩
/-! 87f88 : impl.Command] -/
def c87f88 (k : Nat) (qs : List PV) (n1 n11 : Int) (l l1 l2 : List PV) : R := evF P E T k 87 [.s (.c (.p (PV.row 2 0 qs))), .s (.c (.cfn 88 [PV.agg [.int .i64 n1, .int .i64 n11, .row 2 0 l, .row 2 0 l1], PV.agg [.row 0 0 l2]]))] []
def r87f88 (b : Bool) : R := some ([.c (.p (PV.bool b))], [])
def R87f88 (x0 : R) (K0 : Bool → R) : R := x0.bind fun q0 => bif lensB q0.2 [] && lensS q0.1 [.c (.p (.bool))] then (cBool (resAt q0.1 0)).bind fun b => K0 b else none
@[simp] theorem R87f88_r (b : Bool) (K0 : Bool → R) : R87f88 (r87f88 b) K0 = K0 b := by kernel_rfl
def R87f88p (x0 : R) (K0 : Bool → R) : R := x0.bind fun q0 => bif q0.1.all plainS && q0.2.all (fun cs => cs.all plainC) then (bif lensB q0.2 [] && lensS q0.1 [.c (.p (.bool))] then (cBool (resAt q0.1 0)).bind fun b => K0 b else none) else none
@[simp] theorem R87f88p_r (b : Bool) (K0 : Bool → R) : R87f88p (r87f88 b) K0 = K0 b := by kernel_rfl
/-! 87f135 : impl.Command] -/
def c87f135 (k : Nat) (qs : List PV) (n1 n11 : Int) (l l1 : List PV) : R := evF P E T k 87 [.s (.c (.p (PV.row 2 0 qs))), .s (.c (.fn 135 [0]))] [[.p (PV.int .i64 n1), .p (PV.int .i64 n11), .p (PV.row 2 0 l), .p (PV.row 2 0 l1)]]
def r87f135 (qr qr1 : Int) (l l1 : List PV) (b : Bool) : R := some ([.c (.p (PV.bool b))], [[.p (PV.int .i64 qr), .p (PV.int .i64 qr1), .p (PV.row 2 0 l), .p (PV.row 2 0 l1)]])
def R87f135 (x0 : R) (K0 : Int → Int → List PV → List PV → Bool → R) : R := x0.bind fun q0 => bif lensB q0.2 [[.p (.int .i64), .p (.int .i64), .p (.row 2), .p (.row 2)]] && lensS q0.1 [.c (.p (.bool))] then (cInt (cellAt q0.2 0 0) .i64).bind fun qr => (cInt (cellAt q0.2 0 1) .i64).bind fun qr1 => (cRow (cellAt q0.2 0 2) 2).bind fun l => (cRow (cellAt q0.2 0 3) 2).bind fun l1 => (cBool (resAt q0.1 0)).bind fun b => K0 qr qr1 l l1 b else none
@[simp] theorem R87f135_r (qr qr1 : Int) (l l1 : List PV) (b : Bool) (K0 : Int → Int → List PV → List PV → Bool → R) : R87f135 (r87f135 qr qr1 l l1 b) K0 = K0 qr qr1 l l1 b := by kernel_rfl
/-! 88 : impl.StuckIn$1 -/
def c88 (k : Nat) (qc qc1 : List PV) (n1 n11 : Int) (l l1 l2 : List PV) : R := evF P E T k 88 [.s (.c (.p (PV.agg [.row 2 0 qc, .row 2 0 qc1]))), .s (.c (.eptr (PV.agg [.int .i64 n1, .int .i64 n11, .row 2 0 l, .row 2 0 l1]) 4 0)), .s (.c (.eptr (PV.agg [.row 0 0 l2]) 1 0))] []
def r88 (b : Bool) : R := some ([.c (.p (PV.bool b))], [])
def R88 (x0 : R) (K0 : Bool → R) : R := x0.bind fun q0 => bif lensB q0.2 [] && lensS q0.1 [.c (.p (.bool))] then (cBool (resAt q0.1 0)).bind fun b => K0 b else none
@[simp] theorem R88_r (b : Bool) (K0 : Bool → R) : R88 (r88 b) K0 = K0 b := by kernel_rfl
/-! 89 : spec.l7Enabled -/
def c89 (k : Nat) (p p1 : Int) (p2 p3 qs : List PV) : R := evF P E T k 89 [.s (.c (.p (PV.agg [.int .i64 p, .int .i64 p1, .row 2 0 p2, .row 2 0 p3]))), .s (.c (.p (PV.row 0 0 qs)))] []
def r89 (l : List PV) : R := some ([.c (.p (PV.row 0 0 l))], [])
def R89 (x0 : R) (K0 : List PV → R) : R := x0.bind fun q0 => bif lensB q0.2 [] && lensS q0.1 [.c (.p (.row 0))] then (cRow (resAt q0.1 0) 0).bind fun l => K0 l else none
@[simp] theorem R89_r (l : List PV) (K0 : List PV → R) : R89 (r89 l) K0 = K0 l := by kernel_rfl
def L89_1 (k n : Nat) (qs : List PV) (outLen : Nat) (t9 : List PV) (t10 t11 n1 n11 : Int) (l l1 xs : List PV) : R := evLoopAt P E T k 89 89 [] [1, 1, 0, 1, 0] [] n ⟨mkT 27 [(1, .s (.c (.p (PV.row 0 0 qs)))), (2, .s (.c (.bptr 0 0))), (5, .s (.c (.loc 1 0 0 0 outLen))), (9, .s (.c (.p (PV.row 2 0 t9)))), (10, .s (.c (.p (PV.int .i64 t10)))), (11, .s (.c (.p (PV.int .i64 t11))))], [.box [.p (PV.int .i64 n1), .p (PV.int .i64 n11), .p (PV.row 2 0 l), .p (PV.row 2 0 l1)], .arr 3 0 0 false xs]⟩
/-! 90 : impl.leastWay -/
def c90 (k : Nat) (g from1 to : List PV) : R := evF P E T k 90 [.s (.c (.p (PV.row 0 0 g))), .s (.c (.p (PV.row 0 0 from1))), .s (.c (.p (PV.row 0 0 to)))] []
def r90 (l : List PV) : R := some ([.c (.p (PV.row 0 0 l))], [])
def R90 (x0 : R) (K0 : List PV → R) : R := x0.bind fun q0 => bif lensB q0.2 [] && lensS q0.1 [.c (.p (.row 0))] then (cRow (resAt q0.1 0) 0).bind fun l => K0 l else none
@[simp] theorem R90_r (l : List PV) (K0 : List PV → R) : R90 (r90 l) K0 = K0 l := by kernel_rfl
def L90_1 (k n : Nat) (g : List PV) (best : Int) (t18 : List PV) (t19 t20 : Int) (l : List PV) : R := evLoopAt P E T k 90 90 [] [1, 1, 0, 1, 0] [] n ⟨mkT 75 [(0, .s (.c (.p (PV.row 0 0 g)))), (7, .s (.c (.bptr 0 0))), (8, .s (.c (.p (PV.int .i64 best)))), (18, .s (.c (.p (PV.row 0 0 t18)))), (19, .s (.c (.p (PV.int .i64 t19)))), (20, .s (.c (.p (PV.int .i64 t20))))], [.box [.p (PV.row 0 0 l)]]⟩
def L90_2 (k n : Nat) (g : List PV) (wayLen : Nat) (l : List PV) (n1 : Int) (xs : List PV) : R := evLoopAt P E T k 90 90 [] [1, 1, 1, 1, 1, 0, 1, 0] [] n ⟨mkT 75 [(0, .s (.c (.p (PV.row 0 0 g)))), (7, .s (.c (.bptr 0 0))), (11, .s (.c (.loc 2 0 0 0 wayLen))), (12, .s (.c (.bptr 1 0)))], [.box [.p (PV.row 0 0 l)], .box [.p (PV.int .i64 n1)], .arr 3 0 0 false xs]⟩
/-! 91 : impl.stepsFrom -/
def c91 (k : Nat) (g some1 : List PV) : R := evF P E T k 91 [.s (.c (.p (PV.row 0 0 g))), .s (.c (.p (PV.row 0 0 some1)))] []
def r91 (l : List PV) : R := some ([.c (.p (PV.row 0 0 l))], [])
def R91 (x0 : R) (K0 : List PV → R) : R := x0.bind fun q0 => bif lensB q0.2 [] && lensS q0.1 [.c (.p (.row 0))] then (cRow (resAt q0.1 0) 0).bind fun l => K0 l else none
@[simp] theorem R91_r (l : List PV) (K0 : List PV → R) : R91 (r91 l) K0 = K0 l := by kernel_rfl
def L91_1 (k n : Nat) (g : List PV) (stepsLen openLen : Nat) (t17 : List PV) (t18 t19 : Int) (xs xs1 : List PV) : R := evLoopAt P E T k 91 91 [] [1, 1, 1, 0, 1, 0] [] n ⟨mkT 64 [(0, .s (.c (.p (PV.row 0 0 g)))), (5, .s (.c (.loc 0 0 0 0 stepsLen))), (6, .s (.c (.loc 1 0 0 0 openLen))), (17, .s (.c (.p (PV.row 0 0 t17)))), (18, .s (.c (.p (PV.int .i64 t18)))), (19, .s (.c (.p (PV.int .i64 t19))))], [.arr 3 0 0 false xs, .arr 3 0 0 false xs1]⟩
def L91_2 (k n : Nat) (g : List PV) (stepsLen openLen : Nat) (xs xs1 : List PV) : R := evLoopAt P E T k 91 91 [] [1, 1, 1, 1, 0, 0] [] n ⟨mkT 64 [(0, .s (.c (.p (PV.row 0 0 g)))), (5, .s (.c (.loc 0 0 0 0 stepsLen))), (6, .s (.c (.loc 1 0 0 0 openLen)))], [.arr 3 0 0 false xs, .arr 3 0 0 false xs1]⟩
def L91_3 (k n1 n : Nat) (g : List PV) (stepsLen openLen : Nat) (t37 : List PV) (t38 t39 : Int) (xs xs1 : List PV) : R := evLoopAt P E T k 91 91 [] [1, 1, 1, 1, 0, 0, 0, 1, 0, 0, 1, 0] [n1] n ⟨mkT 64 [(0, .s (.c (.p (PV.row 0 0 g)))), (5, .s (.c (.loc 0 0 0 0 stepsLen))), (6, .s (.c (.loc 1 0 0 0 openLen))), (37, .s (.c (.p (PV.row 0 0 t37)))), (38, .s (.c (.p (PV.int .i64 t38)))), (39, .s (.c (.p (PV.int .i64 t39))))], [.arr 3 0 0 false xs, .arr 3 0 0 false xs1]⟩
def L91_4 (k n : Nat) (g : List PV) (stepsLen openLo openLen : Nat) (xs xs1 : List PV) : R := evLoopAt P E T k 91 91 [] [1, 1, 1, 1, 0, 0] [] n ⟨mkT 64 [(0, .s (.c (.p (PV.row 0 0 g)))), (5, .s (.c (.loc 0 0 0 0 stepsLen))), (6, .s (.c (.loc 1 0 0 openLo openLen)))], [.arr 3 0 0 false xs, .arr 3 0 0 false xs1]⟩
def L91_5 (k n1 n : Nat) (g : List PV) (stepsLen openLo openLen : Nat) (t37 : List PV) (t38 t39 : Int) (xs xs1 : List PV) : R := evLoopAt P E T k 91 91 [] [1, 1, 1, 1, 0, 0, 0, 1, 0, 0, 1, 0] [n1] n ⟨mkT 64 [(0, .s (.c (.p (PV.row 0 0 g)))), (5, .s (.c (.loc 0 0 0 0 stepsLen))), (6, .s (.c (.loc 1 0 0 openLo openLen))), (37, .s (.c (.p (PV.row 0 0 t37)))), (38, .s (.c (.p (PV.int .i64 t38)))), (39, .s (.c (.p (PV.int .i64 t39))))], [.arr 3 0 0 false xs, .arr 3 0 0 false xs1]⟩
/-! 92 : impl.IsPath$1 -/
def c92 (k : Nat) (no n1 n11 : Int) (l l1 : List PV) : R := evF P E T k 92 [.s (.c (.p (PV.int .i64 no))), .s (.c (.eptr (PV.agg [.int .i64 n1, .int .i64 n11, .row 2 0 l, .row 2 0 l1]) 4 0))] []
def r92 (b : Bool) : R := some ([.c (.p (PV.bool b))], [])
def R92 (x0 : R) (K0 : Bool → R) : R := x0.bind fun q0 => bif lensB q0.2 [] && lensS q0.1 [.c (.p (.bool))] then (cBool (resAt q0.1 0)).bind fun b => K0 b else none
@[simp] theorem R92_r (b : Bool) (K0 : Bool → R) : R92 (r92 b) K0 = K0 b := by kernel_rfl
/-! 93 : slices.Contains[[]int,int] -/
def c93 (k : Nat) (qs : List PV) (v : Int) : R := evF P E T k 93 [.s (.c (.p (PV.row 0 0 qs))), .s (.c (.p (PV.int .i64 v)))] []
def r93 (b : Bool) : R := some ([.c (.p (PV.bool b))], [])
def R93 (x0 : R) (K0 : Bool → R) : R := x0.bind fun q0 => bif lensB q0.2 [] && lensS q0.1 [.c (.p (.bool))] then (cBool (resAt q0.1 0)).bind fun b => K0 b else none
@[simp] theorem R93_r (b : Bool) (K0 : Bool → R) : R93 (r93 b) K0 = K0 b := by kernel_rfl
/-! 94 : spec.PathTo -/
def c94 (k : Nat) (p p1 : Int) (p2 p3 : List PV) (no : Int) : R := evF P E T k 94 [.s (.c (.p (PV.agg [.int .i64 p, .int .i64 p1, .row 2 0 p2, .row 2 0 p3]))), .s (.c (.p (PV.int .i64 no)))] []
def r94 (l : List PV) (b : Bool) : R := some ([.c (.own 3 0 l), .c (.p (PV.bool b))], [])
def R94 (x0 : R) (K0 : List PV → Bool → R) : R := x0.bind fun q0 => bif lensB q0.2 [] && lensS q0.1 [.c (.own 3 0), .c (.p (.bool))] then (asOwn 3 0 (resAt q0.1 0)).bind fun l => (cBool (resAt q0.1 1)).bind fun b => K0 l b else none
@[simp] theorem R94_r (l : List PV) (b : Bool) (K0 : List PV → Bool → R) : R94 (r94 l b) K0 = K0 l b := by kernel_rfl
def L94_1 (k n : Nat) (no n1 : Int) (outLen : Nat) (some1 : List PV) (n11 n12 : Int) (l l1 xs : List PV) : R := evLoopAt P E T k 94 94 [] [1, 1, 1, 1, 1, 0, 0] [] n ⟨mkT 53 [(1, .s (.c (.p (PV.int .i64 no)))), (2, .s (.c (.bptr 0 0))), (6, .s (.c (.p (PV.int .i64 n1)))), (8, .s (.c (.loc 1 0 0 0 outLen))), (9, .s (.c (.p (PV.row 0 0 some1))))], [.box [.p (PV.int .i64 n11), .p (PV.int .i64 n12), .p (PV.row 2 0 l), .p (PV.row 2 0 l1)], .arr 3 0 0 false xs]⟩
def L94_2 (k n1 n : Nat) (no n11 : Int) (outLen : Nat) (t28 : List PV) (t29 t30 n12 n13 : Int) (l l1 xs : List PV) : R := evLoopAt P E T k 94 94 [] [1, 1, 1, 1, 1, 0, 0, 0, 1, 0, 0, 0, 1, 0] [n1] n ⟨mkT 53 [(1, .s (.c (.p (PV.int .i64 no)))), (2, .s (.c (.bptr 0 0))), (6, .s (.c (.p (PV.int .i64 n11)))), (8, .s (.c (.loc 1 0 0 0 outLen))), (28, .s (.c (.p (PV.row 0 0 t28)))), (29, .s (.c (.p (PV.int .i64 t29)))), (30, .s (.c (.p (PV.int .i64 t30))))], [.box [.p (PV.int .i64 n12), .p (PV.int .i64 n13), .p (PV.row 2 0 l), .p (PV.row 2 0 l1)], .arr 3 0 0 false xs]⟩
/-! 95 : spec.l1In -/
def c95 (k : Nat) (n1 lo hi : Int) : R := evF P E T k 95 [.s (.c (.p (PV.int .i64 n1))), .s (.c (.p (PV.int .i64 lo))), .s (.c (.p (PV.int .i64 hi)))] []
def r95 (b : Bool) : R := some ([.c (.p (PV.bool b))], [])
def R95 (x0 : R) (K0 : Bool → R) : R := x0.bind fun q0 => bif lensB q0.2 [] && lensS q0.1 [.c (.p (.bool))] then (cBool (resAt q0.1 0)).bind fun b => K0 b else none
@[simp] theorem R95_r (b : Bool) (K0 : Bool → R) : R95 (r95 b) K0 = K0 b := by kernel_rfl
/-! 96 : spec.l1Has -/
def c96 (k : Nat) (l : List PV) (n1 : Int) : R := evF P E T k 96 [.s (.c (.p (PV.row 0 0 l))), .s (.c (.p (PV.int .i64 n1)))] []
def r96 (b : Bool) : R := some ([.c (.p (PV.bool b))], [])
def R96 (x0 : R) (K0 : Bool → R) : R := x0.bind fun q0 => bif lensB q0.2 [] && lensS q0.1 [.c (.p (.bool))] then (cBool (resAt q0.1 0)).bind fun b => K0 b else none
@[simp] theorem R96_r (b : Bool) (K0 : Bool → R) : R96 (r96 b) K0 = K0 b := by kernel_rfl
def R96p (x0 : R) (K0 : Bool → R) : R := x0.bind fun q0 => bif q0.1.all plainS && q0.2.all (fun cs => cs.all plainC) then (bif lensB q0.2 [] && lensS q0.1 [.c (.p (.bool))] then (cBool (resAt q0.1 0)).bind fun b => K0 b else none) else none
@[simp] theorem R96p_r (b : Bool) (K0 : Bool → R) : R96p (r96 b) K0 = K0 b := by kernel_rfl
def L96_1 (k n : Nat) (n1 : Int) (t7 : List PV) (t8 t9 : Int) : R := evLoopAt P E T k 96 96 [] [1, 0, 1, 0] [] n ⟨mkT 17 [(1, .s (.c (.p (PV.int .i64 n1)))), (7, .s (.c (.p (PV.row 0 0 t7)))), (8, .s (.c (.p (PV.int .i64 t8)))), (9, .s (.c (.p (PV.int .i64 t9))))], []⟩
/-! 97 : spec.l1Cur).among -/
def c97 (k : Nat) (list l : List PV) (n1 n11 : Int) : R := evF P E T k 97 [.s (.c (.bptr 0 0)), .s (.c (.p (PV.row 0 0 list)))] [[.p (PV.row 0 0 l), .p (PV.int .i64 n1), .p (PV.int .u64 n11)]]
def r97 (l : List PV) (qr qr1 qr2 : Int) : R := some ([.c (.p (PV.int .i64 qr2))], [[.p (PV.row 0 0 l), .p (PV.int .i64 qr), .p (PV.int .u64 qr1)]])
def R97 (x0 : R) (K0 : List PV → Int → Int → Int → R) : R := x0.bind fun q0 => bif lensB q0.2 [[.p (.row 0), .p (.int .i64), .p (.int .u64)]] && lensS q0.1 [.c (.p (.int .i64))] then (cRow (cellAt q0.2 0 0) 0).bind fun l => (cInt (cellAt q0.2 0 1) .i64).bind fun qr => (cInt (cellAt q0.2 0 2) .u64).bind fun qr1 => (cInt (resAt q0.1 0) .i64).bind fun qr2 => K0 l qr qr1 qr2 else none
@[simp] theorem R97_r (l : List PV) (qr qr1 qr2 : Int) (K0 : List PV → Int → Int → Int → R) : R97 (r97 l qr qr1 qr2) K0 = K0 l qr qr1 qr2 := by kernel_rfl
/-! 98 : spec.l1Cur).progOf -/
def c98 (k : Nat) (wide vars : Int) (l : List PV) (n1 n11 : Int) : R := evF P E T k 98 [.s (.c (.bptr 0 0)), .s (.c (.p (PV.int .i64 wide))), .s (.c (.p (PV.int .i64 vars)))] [[.p (PV.row 0 0 l), .p (PV.int .i64 n1), .p (PV.int .u64 n11)]]
def r98 (l : List PV) (qr qr1 qr2 qr3 : Int) (l1 l2 : List PV) : R := some ([.agg [.p (PV.int .i64 qr2), .p (PV.int .i64 qr3), .p (PV.row 2 0 l1), .own ⟨65, some ⟨1, 111, 2, 0, none⟩⟩ 2 l2]], [[.p (PV.row 0 0 l), .p (PV.int .i64 qr), .p (PV.int .u64 qr1)]])
def R98 (x0 : R) (K0 : List PV → Int → Int → Int → Int → List PV → List PV → R) : R := x0.bind fun q0 => bif lensB q0.2 [[.p (.row 0), .p (.int .i64), .p (.int .u64)]] && lensS q0.1 [.agg [.p (.int .i64), .p (.int .i64), .p (.row 2), .own ⟨65, some ⟨1, 111, 2, 0, none⟩⟩ 2]] then (cRow (cellAt q0.2 0 0) 0).bind fun l => (cInt (cellAt q0.2 0 1) .i64).bind fun qr => (cInt (cellAt q0.2 0 2) .u64).bind fun qr1 => (cInt (Dp.partAt q0.1 0 0) .i64).bind fun qr2 => (cInt (Dp.partAt q0.1 0 1) .i64).bind fun qr3 => (cRow (Dp.partAt q0.1 0 2) 2).bind fun l1 => (asOwn ⟨65, some ⟨1, 111, 2, 0, none⟩⟩ 2 (Dp.partAt q0.1 0 3)).bind fun l2 => K0 l qr qr1 qr2 qr3 l1 l2 else none
@[simp] theorem R98_r (l : List PV) (qr qr1 qr2 qr3 : Int) (l1 l2 : List PV) (K0 : List PV → Int → Int → Int → Int → List PV → List PV → R) : R98 (r98 l qr qr1 qr2 qr3 l1 l2) K0 = K0 l qr qr1 qr2 qr3 l1 l2 := by kernel_rfl
def L98_1 (k n : Nat) (wide vars n1 : Int) (l : List PV) (n11 n12 n13 n14 : Int) (l1 l2 : List PV) (n15 n16 : Int) (Len Len1 : Nat) (xs xs1 : List PV) : R := evLoopAt P E T k 98 98 [3] [1, 1, 1, 1, 0, 1, 0] [] n ⟨mkT 44 [(0, .s (.c (.bptr 0 0))), (1, .s (.c (.p (PV.int .i64 wide)))), (2, .s (.c (.p (PV.int .i64 vars)))), (6, .s (.c (.bptr 1 0))), (7, .s (.c (.bptr 2 0))), (8, .s (.c (.p (PV.int .i64 n1))))], [.box [.p (PV.row 0 0 l), .p (PV.int .i64 n11), .p (PV.int .u64 n12)], .box [.p (PV.int .i64 n13), .p (PV.int .i64 n14), .p (PV.row 2 0 l1), .p (PV.row 2 0 l2)], .box [.p (PV.int .i64 n15), .p (PV.int .i64 n16), .loc 3 0 2 0 Len, .loc 4 0 2 0 Len1], .arr 68 2 0 false xs, .arr ⟨65, some ⟨1, 111, 2, 0, none⟩⟩ 2 0 false xs1]⟩
/-! 99 : impl.GoodProgram -/
def c99 (k : Nat) (p p1 : Int) (p2 p3 : List PV) : R := evF P E T k 99 [.s (.c (.p (PV.agg [.int .i64 p, .int .i64 p1, .row 2 0 p2, .row 2 0 p3])))] []
def r99 (b : Bool) : R := some ([.c (.p (PV.bool b))], [])
def R99 (x0 : R) (K0 : Bool → R) : R := x0.bind fun q0 => bif lensB q0.2 [] && lensS q0.1 [.c (.p (.bool))] then (cBool (resAt q0.1 0)).bind fun b => K0 b else none
@[simp] theorem R99_r (b : Bool) (K0 : Bool → R) : R99 (r99 b) K0 = K0 b := by kernel_rfl
/-! 101 : impl.GoodTerm -/
def c101 (k : Nat) (wide vars : Int) (t : List PV) : R := evF P E T k 101 [.s (.c (.p (PV.int .i64 wide))), .s (.c (.p (PV.int .i64 vars))), .s (.c (.p (PV.row 2 0 t)))] []
def r101 (b : Bool) : R := some ([.c (.p (PV.bool b))], [])
def R101 (x0 : R) (K0 : Bool → R) : R := x0.bind fun q0 => bif lensB q0.2 [] && lensS q0.1 [.c (.p (.bool))] then (cBool (resAt q0.1 0)).bind fun b => K0 b else none
@[simp] theorem R101_r (b : Bool) (K0 : Bool → R) : R101 (r101 b) K0 = K0 b := by kernel_rfl
def L101_1 (k n : Nat) (wide vars : Int) (stackLen : Nat) (t33 : List PV) (t34 t35 : Int) (xs : List PV) : R := evLoopAt P E T k 101 101 [] [1, 1, 1, 0, 1, 0] [] n ⟨mkT 80 [(0, .s (.c (.p (PV.int .i64 wide)))), (1, .s (.c (.p (PV.int .i64 vars)))), (7, .s (.c (.loc 0 0 0 0 stackLen))), (33, .s (.c (.p (PV.row 2 0 t33)))), (34, .s (.c (.p (PV.int .i64 t34)))), (35, .s (.c (.p (PV.int .i64 t35))))], [.arr 3 0 0 false xs]⟩
/-! 103 : spec.GoodProgram -/
def c103 (k : Nat) (p p1 : Int) (p2 p3 : List PV) : R := evF P E T k 103 [.s (.c (.p (PV.agg [.int .i64 p, .int .i64 p1, .row 2 0 p2, .row 2 0 p3])))] []
def r103 (b : Bool) : R := some ([.c (.p (PV.bool b))], [])
def R103 (x0 : R) (K0 : Bool → R) : R := x0.bind fun q0 => bif lensB q0.2 [] && lensS q0.1 [.c (.p (.bool))] then (cBool (resAt q0.1 0)).bind fun b => K0 b else none
@[simp] theorem R103_r (b : Bool) (K0 : Bool → R) : R103 (r103 b) K0 = K0 b := by kernel_rfl
def L103_1 (k n : Nat) (t18 : List PV) (t19 t20 n1 n11 : Int) (l l1 : List PV) : R := evLoopAt P E T k 103 103 [] [1, 1, 0, 1, 0] [] n ⟨mkT 29 [(1, .s (.c (.bptr 0 0))), (18, .s (.c (.p (PV.row 2 0 t18)))), (19, .s (.c (.p (PV.int .i64 t19)))), (20, .s (.c (.p (PV.int .i64 t20))))], [.box [.p (PV.int .i64 n1), .p (PV.int .i64 n11), .p (PV.row 2 0 l), .p (PV.row 2 0 l1)]]⟩
/-! 106 : impl.isTermOf -/
def c106 (k : Nat) (wide vars : Int) (t : List PV) (kind : Int) : R := evF P E T k 106 [.s (.c (.p (PV.int .i64 wide))), .s (.c (.p (PV.int .i64 vars))), .s (.c (.p (PV.row 2 0 t))), .s (.c (.p (PV.int .i64 kind)))] []
def r106 (b : Bool) : R := some ([.c (.p (PV.bool b))], [])
def R106 (x0 : R) (K0 : Bool → R) : R := x0.bind fun q0 => bif lensB q0.2 [] && lensS q0.1 [.c (.p (.bool))] then (cBool (resAt q0.1 0)).bind fun b => K0 b else none
@[simp] theorem R106_r (b : Bool) (K0 : Bool → R) : R106 (r106 b) K0 = K0 b := by kernel_rfl
/-! 107 : impl.valueOf -/
def c107 (k : Nat) (wide : Int) (t state : List PV) : R := evF P E T k 107 [.s (.c (.p (PV.int .i64 wide))), .s (.c (.p (PV.row 2 0 t))), .s (.c (.p (PV.row 0 0 state)))] []
def r107 (qr : Int) : R := some ([.c (.p (PV.int .u64 qr))], [])
def R107 (x0 : R) (K0 : Int → R) : R := x0.bind fun q0 => bif lensB q0.2 [] && lensS q0.1 [.c (.p (.int .u64))] then (cInt (resAt q0.1 0) .u64).bind fun qr => K0 qr else none
@[simp] theorem R107_r (qr : Int) (K0 : Int → R) : R107 (r107 qr) K0 = K0 qr := by kernel_rfl
def L107_1 (k n : Nat) (wide : Int) (state : List PV) (stackLen : Nat) (t12 : List PV) (t13 t14 : Int) (xs : List PV) : R := evLoopAt P E T k 107 107 [] [1, 1, 0, 1, 0] [] n ⟨mkT 87 [(0, .s (.c (.p (PV.int .i64 wide)))), (2, .s (.c (.p (PV.row 0 0 state)))), (7, .s (.c (.loc 0 0 0 0 stackLen))), (12, .s (.c (.p (PV.row 2 0 t12)))), (13, .s (.c (.p (PV.int .i64 t13)))), (14, .s (.c (.p (PV.int .i64 t14))))], [.arr 57 0 0 false xs]⟩
/-! 108 : impl.mask -/
def c108 (k : Nat) (wide : Int) : R := evF P E T k 108 [.s (.c (.p (PV.int .i64 wide)))] []
def r108 (qr : Int) : R := some ([.c (.p (PV.int .u64 qr))], [])
def R108 (x0 : R) (K0 : Int → R) : R := x0.bind fun q0 => bif lensB q0.2 [] && lensS q0.1 [.c (.p (.int .u64))] then (cInt (resAt q0.1 0) .u64).bind fun qr => K0 qr else none
@[simp] theorem R108_r (qr : Int) (K0 : Int → R) : R108 (r108 qr) K0 = K0 qr := by kernel_rfl
/-! 109 : impl.Program).stateNo -/
def c109 (k : Nat) (p p1 : Int) (p2 p3 qs : List PV) : R := evF P E T k 109 [.s (.c (.p (PV.agg [.int .i64 p, .int .i64 p1, .row 2 0 p2, .row 2 0 p3]))), .s (.c (.p (PV.row 0 0 qs)))] []
def r109 (qr : Int) : R := some ([.c (.p (PV.int .i64 qr))], [])
def R109 (x0 : R) (K0 : Int → R) : R := x0.bind fun q0 => bif lensB q0.2 [] && lensS q0.1 [.c (.p (.int .i64))] then (cInt (resAt q0.1 0) .i64).bind fun qr => K0 qr else none
@[simp] theorem R109_r (qr : Int) (K0 : Int → R) : R109 (r109 qr) K0 = K0 qr := by kernel_rfl
def L109_1 (k n : Nat) (no : Int) (t8 : List PV) (t9 t10 n1 n11 : Int) (l l1 : List PV) : R := evLoopAt P E T k 109 109 [] [1, 1, 0, 1, 0] [] n ⟨mkT 26 [(2, .s (.c (.bptr 0 0))), (5, .s (.c (.p (PV.int .i64 no)))), (8, .s (.c (.p (PV.row 0 0 t8)))), (9, .s (.c (.p (PV.int .i64 t9)))), (10, .s (.c (.p (PV.int .i64 t10))))], [.box [.p (PV.int .i64 n1), .p (PV.int .i64 n11), .p (PV.row 2 0 l), .p (PV.row 2 0 l1)]]⟩
/-! 110 : impl.Program).after -/
def c110 (k : Nat) (p p1 : Int) (p2 p3 qc qc1 qs : List PV) : R := evF P E T k 110 [.s (.c (.p (PV.agg [.int .i64 p, .int .i64 p1, .row 2 0 p2, .row 2 0 p3]))), .s (.c (.p (PV.agg [.row 2 0 qc, .row 2 0 qc1]))), .s (.c (.p (PV.row 0 0 qs)))] []
def r110 (l : List PV) : R := some ([.c (.p (PV.row 0 0 l))], [])
def R110 (x0 : R) (K0 : List PV → R) : R := x0.bind fun q0 => bif lensB q0.2 [] && lensS q0.1 [.c (.p (.row 0))] then (cRow (resAt q0.1 0) 0).bind fun l => K0 l else none
@[simp] theorem R110_r (l : List PV) (K0 : List PV → R) : R110 (r110 l) K0 = K0 l := by kernel_rfl
def L110_1 (k n : Nat) (qs : List PV) (outLen : Nat) (t13 : List PV) (t14 t15 n1 n11 : Int) (l l1 xs : List PV) : R := evLoopAt P E T k 110 110 [] [1, 1, 0, 1, 0] [] n ⟨mkT 31 [(2, .s (.c (.p (PV.row 0 0 qs)))), (3, .s (.c (.bptr 0 0))), (7, .s (.c (.loc 1 0 0 0 outLen))), (13, .s (.c (.p (PV.row 2 0 t13)))), (14, .s (.c (.p (PV.int .i64 t14)))), (15, .s (.c (.p (PV.int .i64 t15))))], [.box [.p (PV.int .i64 n1), .p (PV.int .i64 n11), .p (PV.row 2 0 l), .p (PV.row 2 0 l1)], .arr 57 0 0 false xs]⟩
/-! 113 : spec.l1Cur).next -/
def c113 (k : Nat) (l : List PV) (n1 n11 : Int) : R := evF P E T k 113 [.s (.c (.bptr 0 0))] [[.p (PV.row 0 0 l), .p (PV.int .i64 n1), .p (PV.int .u64 n11)]]
def r113 (l : List PV) (qr qr1 qr2 : Int) : R := some ([.c (.p (PV.int .i64 qr2))], [[.p (PV.row 0 0 l), .p (PV.int .i64 qr), .p (PV.int .u64 qr1)]])
def R113 (x0 : R) (K0 : List PV → Int → Int → Int → R) : R := x0.bind fun q0 => bif lensB q0.2 [[.p (.row 0), .p (.int .i64), .p (.int .u64)]] && lensS q0.1 [.c (.p (.int .i64))] then (cRow (cellAt q0.2 0 0) 0).bind fun l => (cInt (cellAt q0.2 0 1) .i64).bind fun qr => (cInt (cellAt q0.2 0 2) .u64).bind fun qr1 => (cInt (resAt q0.1 0) .i64).bind fun qr2 => K0 l qr qr1 qr2 else none
@[simp] theorem R113_r (l : List PV) (qr qr1 qr2 : Int) (K0 : List PV → Int → Int → Int → R) : R113 (r113 l qr qr1 qr2) K0 = K0 l qr qr1 qr2 := by kernel_rfl
/-! 114f92 : slices.IndexFunc[[]int,int] -/
def c114f92 (k : Nat) (qs : List PV) (n1 n11 : Int) (l l1 : List PV) : R := evF P E T k 114 [.s (.c (.p (PV.row 0 0 qs))), .s (.c (.cfn 92 [PV.agg [.int .i64 n1, .int .i64 n11, .row 2 0 l, .row 2 0 l1]]))] []
def r114f92 (qr : Int) : R := some ([.c (.p (PV.int .i64 qr))], [])
def R114f92 (x0 : R) (K0 : Int → R) : R := x0.bind fun q0 => bif lensB q0.2 [] && lensS q0.1 [.c (.p (.int .i64))] then (cInt (resAt q0.1 0) .i64).bind fun qr => K0 qr else none
@[simp] theorem R114f92_r (qr : Int) (K0 : Int → R) : R114f92 (r114f92 qr) K0 = K0 qr := by kernel_rfl
def R114f92p (x0 : R) (K0 : Int → R) : R := x0.bind fun q0 => bif q0.1.all plainS && q0.2.all (fun cs => cs.all plainC) then (bif lensB q0.2 [] && lensS q0.1 [.c (.p (.int .i64))] then (cInt (resAt q0.1 0) .i64).bind fun qr => K0 qr else none) else none
@[simp] theorem R114f92p_r (qr : Int) (K0 : Int → R) : R114f92p (r114f92 qr) K0 = K0 qr := by kernel_rfl
def L114f92_1 (k n : Nat) (qs : List PV) (n1 n11 : Int) (l l1 : List PV) (t7 t8 : Int) : R := evLoopAt P E T k 114 93114 [] [1, 0, 1, 0] [] n ⟨mkT 19 [(0, .s (.c (.p (PV.row 0 0 qs)))), (1, .s (.c (.cfn 92 [PV.agg [.int .i64 n1, .int .i64 n11, .row 2 0 l, .row 2 0 l1]]))), (7, .s (.c (.p (PV.int .i64 t7)))), (8, .s (.c (.p (PV.int .i64 t8))))], []⟩
/-! 114f126 : slices.IndexFunc[[]int,int] -/
def c114f126 (k : Nat) (qs l : List PV) (n1 : Int) : R := evF P E T k 114 [.s (.c (.p (PV.row 0 0 qs))), .s (.c (.cfn 126 [PV.agg [.row 0 0 l], PV.agg [.int .i64 n1]]))] []
def r114f126 (qr : Int) : R := some ([.c (.p (PV.int .i64 qr))], [])
def R114f126 (x0 : R) (K0 : Int → R) : R := x0.bind fun q0 => bif lensB q0.2 [] && lensS q0.1 [.c (.p (.int .i64))] then (cInt (resAt q0.1 0) .i64).bind fun qr => K0 qr else none
@[simp] theorem R114f126_r (qr : Int) (K0 : Int → R) : R114f126 (r114f126 qr) K0 = K0 qr := by kernel_rfl
def R114f126p (x0 : R) (K0 : Int → R) : R := x0.bind fun q0 => bif q0.1.all plainS && q0.2.all (fun cs => cs.all plainC) then (bif lensB q0.2 [] && lensS q0.1 [.c (.p (.int .i64))] then (cInt (resAt q0.1 0) .i64).bind fun qr => K0 qr else none) else none
@[simp] theorem R114f126p_r (qr : Int) (K0 : Int → R) : R114f126p (r114f126 qr) K0 = K0 qr := by kernel_rfl
def L114f126_1 (k n : Nat) (qs l : List PV) (n1 t7 t8 : Int) : R := evLoopAt P E T k 114 127114 [] [1, 0, 1, 0] [] n ⟨mkT 19 [(0, .s (.c (.p (PV.row 0 0 qs)))), (1, .s (.c (.cfn 126 [PV.agg [.row 0 0 l], PV.agg [.int .i64 n1]]))), (7, .s (.c (.p (PV.int .i64 t7)))), (8, .s (.c (.p (PV.int .i64 t8))))], []⟩
/-! 114f140 : slices.IndexFunc[[]int,int] -/
def c114f140 (k : Nat) (qs : List PV) (n1 : Int) : R := evF P E T k 114 [.s (.c (.p (PV.row 0 0 qs))), .s (.c (.fn 140 [0]))] [[.p (PV.int .i64 n1)]]
def r114f140 (qr qr1 : Int) : R := some ([.c (.p (PV.int .i64 qr1))], [[.p (PV.int .i64 qr)]])
def R114f140 (x0 : R) (K0 : Int → Int → R) : R := x0.bind fun q0 => bif lensB q0.2 [[.p (.int .i64)]] && lensS q0.1 [.c (.p (.int .i64))] then (cInt (cellAt q0.2 0 0) .i64).bind fun qr => (cInt (resAt q0.1 0) .i64).bind fun qr1 => K0 qr qr1 else none
@[simp] theorem R114f140_r (qr qr1 : Int) (K0 : Int → Int → R) : R114f140 (r114f140 qr qr1) K0 = K0 qr qr1 := by kernel_rfl
def L114f140_1 (k n : Nat) (qs : List PV) (t7 t8 n1 : Int) : R := evLoopAt P E T k 114 141114 [1] [1, 0, 1, 0] [] n ⟨mkT 19 [(0, .s (.c (.p (PV.row 0 0 qs)))), (1, .s (.c (.fn 140 [0]))), (7, .s (.c (.p (PV.int .i64 t7)))), (8, .s (.c (.p (PV.int .i64 t8))))], [.box [.p (PV.int .i64 n1)]]⟩
/-! 116 : spec.l7No -/
def c116 (k : Nat) (p p1 : Int) (p2 p3 qs : List PV) : R := evF P E T k 116 [.s (.c (.p (PV.agg [.int .i64 p, .int .i64 p1, .row 2 0 p2, .row 2 0 p3]))), .s (.c (.p (PV.row 0 0 qs)))] []
def r116 (qr : Int) : R := some ([.c (.p (PV.int .i64 qr))], [])
def R116 (x0 : R) (K0 : Int → R) : R := x0.bind fun q0 => bif lensB q0.2 [] && lensS q0.1 [.c (.p (.int .i64))] then (cInt (resAt q0.1 0) .i64).bind fun qr => K0 qr else none
@[simp] theorem R116_r (qr : Int) (K0 : Int → R) : R116 (r116 qr) K0 = K0 qr := by kernel_rfl
def L116_1 (k n : Nat) (qs : List PV) (n1 v n11 n12 : Int) (l l1 : List PV) : R := evLoopAt P E T k 116 116 [] [1, 1, 0, 1, 0] [] n ⟨mkT 26 [(1, .s (.c (.p (PV.row 0 0 qs)))), (2, .s (.c (.bptr 0 0))), (5, .s (.c (.p (PV.int .i64 n1)))), (6, .s (.c (.p (PV.int .i64 v))))], [.box [.p (PV.int .i64 n11), .p (PV.int .i64 n12), .p (PV.row 2 0 l), .p (PV.row 2 0 l1)]]⟩
/-! 117 : spec.l7Do -/
def c117 (k : Nat) (p p1 : Int) (p2 p3 qs : List PV) (k1 : Int) : R := evF P E T k 117 [.s (.c (.p (PV.agg [.int .i64 p, .int .i64 p1, .row 2 0 p2, .row 2 0 p3]))), .s (.c (.p (PV.row 0 0 qs))), .s (.c (.p (PV.int .i64 k1)))] []
def r117 (l : List PV) : R := some ([.c (.p (PV.row 0 0 l))], [])
def R117 (x0 : R) (K0 : List PV → R) : R := x0.bind fun q0 => bif lensB q0.2 [] && lensS q0.1 [.c (.p (.row 0))] then (cRow (resAt q0.1 0) 0).bind fun l => K0 l else none
@[simp] theorem R117_r (l : List PV) (K0 : List PV → R) : R117 (r117 l) K0 = K0 l := by kernel_rfl
def L117_1 (k n : Nat) (qs : List PV) (outLen : Nat) (t18 : List PV) (t19 t20 n1 n11 : Int) (l l1 xs : List PV) : R := evLoopAt P E T k 117 117 [] [1, 1, 0, 1, 0] [] n ⟨mkT 40 [(1, .s (.c (.p (PV.row 0 0 qs)))), (3, .s (.c (.bptr 0 0))), (7, .s (.c (.loc 1 0 0 0 outLen))), (18, .s (.c (.p (PV.row 2 0 t18)))), (19, .s (.c (.p (PV.int .i64 t19)))), (20, .s (.c (.p (PV.int .i64 t20))))], [.box [.p (PV.int .i64 n1), .p (PV.int .i64 n11), .p (PV.row 2 0 l), .p (PV.row 2 0 l1)], .arr 57 0 0 false xs]⟩
/-! 118 : spec.l1Cur).number -/
def c118 (k : Nat) (wide vars deep : Int) (l : List PV) (n1 n11 : Int) : R := evF P E T k 118 [.s (.c (.bptr 0 0)), .s (.c (.p (PV.int .i64 wide))), .s (.c (.p (PV.int .i64 vars))), .s (.c (.p (PV.int .i64 deep)))] [[.p (PV.row 0 0 l), .p (PV.int .i64 n1), .p (PV.int .u64 n11)]]
def r118 (l : List PV) (qr qr1 : Int) (l1 : List PV) : R := some ([.c (.own 68 2 l1)], [[.p (PV.row 0 0 l), .p (PV.int .i64 qr), .p (PV.int .u64 qr1)]])
def R118 (x0 : R) (K0 : List PV → Int → Int → List PV → R) : R := x0.bind fun q0 => bif lensB q0.2 [[.p (.row 0), .p (.int .i64), .p (.int .u64)]] && lensS q0.1 [.c (.own 68 2)] then (cRow (cellAt q0.2 0 0) 0).bind fun l => (cInt (cellAt q0.2 0 1) .i64).bind fun qr => (cInt (cellAt q0.2 0 2) .u64).bind fun qr1 => (asOwn 68 2 (resAt q0.1 0)).bind fun l1 => K0 l qr qr1 l1 else none
@[simp] theorem R118_r (l : List PV) (qr qr1 : Int) (l1 : List PV) (K0 : List PV → Int → Int → List PV → R) : R118 (r118 l qr qr1 l1) K0 = K0 l qr qr1 l1 := by kernel_rfl
/-! 119 : spec.l2Kind -/
def c119 (k : Nat) (wide vars : Int) (t : List PV) : R := evF P E T k 119 [.s (.c (.p (PV.int .i64 wide))), .s (.c (.p (PV.int .i64 vars))), .s (.c (.p (PV.row 2 0 t)))] []
def r119 (qr : Int) : R := some ([.c (.p (PV.int .i64 qr))], [])
def R119 (x0 : R) (K0 : Int → R) : R := x0.bind fun q0 => bif lensB q0.2 [] && lensS q0.1 [.c (.p (.int .i64))] then (cInt (resAt q0.1 0) .i64).bind fun qr => K0 qr else none
@[simp] theorem R119_r (qr : Int) (K0 : Int → R) : R119 (r119 qr) K0 = K0 qr := by kernel_rfl
def L119_1 (k n : Nat) (wide vars : Int) (pileLen : Nat) (t27 : List PV) (t28 t29 : Int) (xs : List PV) : R := evLoopAt P E T k 119 119 [] [1, 1, 1, 0, 1, 0] [] n ⟨mkT 83 [(0, .s (.c (.p (PV.int .i64 wide)))), (1, .s (.c (.p (PV.int .i64 vars)))), (7, .s (.c (.loc 0 0 0 0 pileLen))), (27, .s (.c (.p (PV.row 2 0 t27)))), (28, .s (.c (.p (PV.int .i64 t28)))), (29, .s (.c (.p (PV.int .i64 t29))))], [.arr 3 0 0 false xs]⟩
def L119_2 (k n1 n : Nat) (wide vars : Int) (pileLen : Nat) (many part own : Int) (t27 : List PV) (t28 t29 : Int) (xs : List PV) : R := evLoopAt P E T k 119 119 [] [1, 1, 1, 0, 1, 0, 0, 1, 1, 0, 0, 1, 1, 1, 0, 0] [n1] n ⟨mkT 83 [(0, .s (.c (.p (PV.int .i64 wide)))), (1, .s (.c (.p (PV.int .i64 vars)))), (7, .s (.c (.loc 0 0 0 0 pileLen))), (10, .s (.c (.p (PV.int .i64 many)))), (11, .s (.c (.p (PV.int .i64 part)))), (12, .s (.c (.p (PV.int .i64 own)))), (27, .s (.c (.p (PV.row 2 0 t27)))), (28, .s (.c (.p (PV.int .i64 t28)))), (29, .s (.c (.p (PV.int .i64 t29))))], [.arr 3 0 0 false xs]⟩
/-! 120 : spec.l8Union -/
def c120 (k : Nat) (a b : List PV) : R := evF P E T k 120 [.s (.c (.p (PV.row 0 0 a))), .s (.c (.p (PV.row 0 0 b)))] []
def r120 (l : List PV) : R := some ([.c (.p (PV.row 0 0 l))], [])
def R120 (x0 : R) (K0 : List PV → R) : R := x0.bind fun q0 => bif lensB q0.2 [] && lensS q0.1 [.c (.p (.row 0))] then (cRow (resAt q0.1 0) 0).bind fun l => K0 l else none
@[simp] theorem R120_r (l : List PV) (K0 : List PV → R) : R120 (r120 l) K0 = K0 l := by kernel_rfl
def L120_1 (k n : Nat) (outLen : Nat) (t10 : List PV) (t11 t12 : Int) (xs : List PV) : R := evLoopAt P E T k 120 120 [] [1, 1, 0, 1, 0] [] n ⟨mkT 21 [(5, .s (.c (.loc 0 0 0 0 outLen))), (10, .s (.c (.p (PV.row 0 0 t10)))), (11, .s (.c (.p (PV.int .i64 t11)))), (12, .s (.c (.p (PV.int .i64 t12))))], [.arr 3 0 0 false xs]⟩
/-! 121 : spec.l8After -/
def c121 (k : Nat) (p p1 : Int) (p2 p3 some1 : List PV) : R := evF P E T k 121 [.s (.c (.p (PV.agg [.int .i64 p, .int .i64 p1, .row 2 0 p2, .row 2 0 p3]))), .s (.c (.p (PV.row 0 0 some1)))] []
def r121 (l : List PV) : R := some ([.c (.p (PV.row 0 0 l))], [])
def R121 (x0 : R) (K0 : List PV → R) : R := x0.bind fun q0 => bif lensB q0.2 [] && lensS q0.1 [.c (.p (.row 0))] then (cRow (resAt q0.1 0) 0).bind fun l => K0 l else none
@[simp] theorem R121_r (l : List PV) (K0 : List PV → R) : R121 (r121 l) K0 = K0 l := by kernel_rfl
def L121_1 (k n : Nat) (outLen : Nat) (t10 : List PV) (t11 t12 n1 n11 : Int) (l l1 xs : List PV) : R := evLoopAt P E T k 121 121 [] [1, 1, 0, 1, 0] [] n ⟨mkT 30 [(2, .s (.c (.bptr 0 0))), (5, .s (.c (.loc 1 0 0 0 outLen))), (10, .s (.c (.p (PV.row 0 0 t10)))), (11, .s (.c (.p (PV.int .i64 t11)))), (12, .s (.c (.p (PV.int .i64 t12))))], [.box [.p (PV.int .i64 n1), .p (PV.int .i64 n11), .p (PV.row 2 0 l), .p (PV.row 2 0 l1)], .arr 3 0 0 false xs]⟩
def L121_2 (k n1 n : Nat) (outLen : Nat) (t10 : List PV) (t11 t12 : Int) (t18 : List PV) (t19 t20 n11 n12 : Int) (l l1 xs : List PV) : R := evLoopAt P E T k 121 121 [] [1, 1, 0, 1, 0, 0, 1, 1, 0, 0, 1, 1, 0] [n1] n ⟨mkT 30 [(2, .s (.c (.bptr 0 0))), (5, .s (.c (.loc 1 0 0 0 outLen))), (10, .s (.c (.p (PV.row 0 0 t10)))), (11, .s (.c (.p (PV.int .i64 t11)))), (12, .s (.c (.p (PV.int .i64 t12)))), (18, .s (.c (.p (PV.row 0 0 t18)))), (19, .s (.c (.p (PV.int .i64 t19)))), (20, .s (.c (.p (PV.int .i64 t20))))], [.box [.p (PV.int .i64 n11), .p (PV.int .i64 n12), .p (PV.row 2 0 l), .p (PV.row 2 0 l1)], .arr 3 0 0 false xs]⟩
/-! 122 : spec.l2Value -/
def c122 (k : Nat) (wide : Int) (t : List PV) (k1 : Int) (state : List PV) : R := evF P E T k 122 [.s (.c (.p (PV.int .i64 wide))), .s (.c (.p (PV.row 2 0 t))), .s (.c (.p (PV.int .i64 k1))), .s (.c (.p (PV.row 0 0 state)))] []
def r122 (qr : Int) : R := some ([.c (.p (PV.int .u64 qr))], [])
def R122 (x0 : R) (K0 : Int → R) : R := x0.bind fun q0 => bif lensB q0.2 [] && lensS q0.1 [.c (.p (.int .u64))] then (cInt (resAt q0.1 0) .u64).bind fun qr => K0 qr else none
@[simp] theorem R122_r (qr : Int) (K0 : Int → R) : R122 (r122 qr) K0 = K0 qr := by kernel_rfl
/-! 123 : spec.l1Own -/
def c123 (k : Nat) (l : List PV) : R := evF P E T k 123 [.s (.c (.p (PV.row 0 0 l)))] []
def r123 (l : List PV) : R := some ([.c (.own 3 0 l)], [])
def R123 (x0 : R) (K0 : List PV → R) : R := x0.bind fun q0 => bif lensB q0.2 [] && lensS q0.1 [.c (.own 3 0)] then (asOwn 3 0 (resAt q0.1 0)).bind fun l => K0 l else none
@[simp] theorem R123_r (l : List PV) (K0 : List PV → R) : R123 (r123 l) K0 = K0 l := by kernel_rfl
/-! 125f88 : impl.Command] -/
def c125f88 (k : Nat) (qs : List PV) (n1 n11 : Int) (l l1 l2 : List PV) : R := evF P E T k 125 [.s (.c (.p (PV.row 2 0 qs))), .s (.c (.cfn 88 [PV.agg [.int .i64 n1, .int .i64 n11, .row 2 0 l, .row 2 0 l1], PV.agg [.row 0 0 l2]]))] []
def r125f88 (qr : Int) : R := some ([.c (.p (PV.int .i64 qr))], [])
def R125f88 (x0 : R) (K0 : Int → R) : R := x0.bind fun q0 => bif lensB q0.2 [] && lensS q0.1 [.c (.p (.int .i64))] then (cInt (resAt q0.1 0) .i64).bind fun qr => K0 qr else none
@[simp] theorem R125f88_r (qr : Int) (K0 : Int → R) : R125f88 (r125f88 qr) K0 = K0 qr := by kernel_rfl
def R125f88p (x0 : R) (K0 : Int → R) : R := x0.bind fun q0 => bif q0.1.all plainS && q0.2.all (fun cs => cs.all plainC) then (bif lensB q0.2 [] && lensS q0.1 [.c (.p (.int .i64))] then (cInt (resAt q0.1 0) .i64).bind fun qr => K0 qr else none) else none
@[simp] theorem R125f88p_r (qr : Int) (K0 : Int → R) : R125f88p (r125f88 qr) K0 = K0 qr := by kernel_rfl
def L125f88_1 (k n : Nat) (qs : List PV) (n1 n11 : Int) (l l1 l2 : List PV) (t7 t8 : Int) : R := evLoopAt P E T k 125 89125 [] [1, 0, 1, 0] [] n ⟨mkT 19 [(0, .s (.c (.p (PV.row 2 0 qs)))), (1, .s (.c (.cfn 88 [PV.agg [.int .i64 n1, .int .i64 n11, .row 2 0 l, .row 2 0 l1], PV.agg [.row 0 0 l2]]))), (7, .s (.c (.p (PV.int .i64 t7)))), (8, .s (.c (.p (PV.int .i64 t8))))], []⟩
/-! 125f135 : impl.Command] -/
def c125f135 (k : Nat) (qs : List PV) (n1 n11 : Int) (l l1 : List PV) : R := evF P E T k 125 [.s (.c (.p (PV.row 2 0 qs))), .s (.c (.fn 135 [0]))] [[.p (PV.int .i64 n1), .p (PV.int .i64 n11), .p (PV.row 2 0 l), .p (PV.row 2 0 l1)]]
def r125f135 (qr qr1 : Int) (l l1 : List PV) (qr2 : Int) : R := some ([.c (.p (PV.int .i64 qr2))], [[.p (PV.int .i64 qr), .p (PV.int .i64 qr1), .p (PV.row 2 0 l), .p (PV.row 2 0 l1)]])
def R125f135 (x0 : R) (K0 : Int → Int → List PV → List PV → Int → R) : R := x0.bind fun q0 => bif lensB q0.2 [[.p (.int .i64), .p (.int .i64), .p (.row 2), .p (.row 2)]] && lensS q0.1 [.c (.p (.int .i64))] then (cInt (cellAt q0.2 0 0) .i64).bind fun qr => (cInt (cellAt q0.2 0 1) .i64).bind fun qr1 => (cRow (cellAt q0.2 0 2) 2).bind fun l => (cRow (cellAt q0.2 0 3) 2).bind fun l1 => (cInt (resAt q0.1 0) .i64).bind fun qr2 => K0 qr qr1 l l1 qr2 else none
@[simp] theorem R125f135_r (qr qr1 : Int) (l l1 : List PV) (qr2 : Int) (K0 : Int → Int → List PV → List PV → Int → R) : R125f135 (r125f135 qr qr1 l l1 qr2) K0 = K0 qr qr1 l l1 qr2 := by kernel_rfl
def L125f135_1 (k n : Nat) (qs : List PV) (t7 t8 n1 n11 : Int) (l l1 : List PV) : R := evLoopAt P E T k 125 136125 [4] [1, 0, 1, 0] [] n ⟨mkT 19 [(0, .s (.c (.p (PV.row 2 0 qs)))), (1, .s (.c (.fn 135 [0]))), (7, .s (.c (.p (PV.int .i64 t7)))), (8, .s (.c (.p (PV.int .i64 t8))))], [.box [.p (PV.int .i64 n1), .p (PV.int .i64 n11), .p (PV.row 2 0 l), .p (PV.row 2 0 l1)]]⟩
/-! 126 : impl.leastWay$1 -/
def c126 (k : Nat) (w1 : Int) (l : List PV) (n1 : Int) : R := evF P E T k 126 [.s (.c (.p (PV.int .i64 w1))), .s (.c (.eptr (PV.agg [.row 0 0 l]) 1 0)), .s (.c (.eptr (PV.agg [.int .i64 n1]) 1 0))] []
def r126 (b : Bool) : R := some ([.c (.p (PV.bool b))], [])
def R126 (x0 : R) (K0 : Bool → R) : R := x0.bind fun q0 => bif lensB q0.2 [] && lensS q0.1 [.c (.p (.bool))] then (cBool (resAt q0.1 0)).bind fun b => K0 b else none
@[simp] theorem R126_r (b : Bool) (K0 : Bool → R) : R126 (r126 b) K0 = K0 b := by kernel_rfl
/-! 127 : slices.Repeat[[]int,int] -/
def c127 (k : Nat) (x : List PV) (count : Int) : R := evF P E T k 127 [.s (.c (.p (PV.row 0 0 x))), .s (.c (.p (PV.int .i64 count)))] []
def r127 (l : List PV) : R := some ([.c (.own 3 0 l)], [])
def R127 (x0 : R) (K0 : List PV → R) : R := x0.bind fun q0 => bif lensB q0.2 [] && lensS q0.1 [.c (.own 3 0)] then (asOwn 3 0 (resAt q0.1 0)).bind fun l => K0 l else none
@[simp] theorem R127_r (l : List PV) (K0 : List PV → R) : R127 (r127 l) K0 = K0 l := by kernel_rfl
def R127p (x0 : R) (K0 : List PV → R) : R := x0.bind fun q0 => bif q0.1.all plainS && q0.2.all (fun cs => cs.all plainC) then (bif lensB q0.2 [] && lensS q0.1 [.c (.own 3 0)] then (asOwn 3 0 (resAt q0.1 0)).bind fun l => K0 l else none) else none
def L127_1 (k n : Nat) (newsliceLen : Nat) (n1 : Int) (xs : List PV) : R := evLoopAt P E T k 127 127 [] [1, 1, 1, 1, 1, 1, 0, 0] [] n ⟨mkT 48 [(7, .s (.c (.loc 0 0 0 0 newsliceLen))), (8, .s (.c (.p (PV.int .i64 n1))))], [.arr 3 0 0 false xs]⟩
/-! 128 : slices.Clone[[]int,int] -/
def c128 (k : Nat) (qs : List PV) : R := evF P E T k 128 [.s (.c (.p (PV.row 0 0 qs)))] []
def r128 (l : List PV) : R := some ([.c (.own 3 0 l)], [])
def R128 (x0 : R) (K0 : List PV → R) : R := x0.bind fun q0 => bif lensB q0.2 [] && lensS q0.1 [.c (.own 3 0)] then (asOwn 3 0 (resAt q0.1 0)).bind fun l => K0 l else none
@[simp] theorem R128_r (l : List PV) (K0 : List PV → R) : R128 (r128 l) K0 = K0 l := by kernel_rfl
/-! 129 : slices.Index[[]int,int] -/
def c129 (k : Nat) (qs : List PV) (v : Int) : R := evF P E T k 129 [.s (.c (.p (PV.row 0 0 qs))), .s (.c (.p (PV.int .i64 v)))] []
def r129 (qr : Int) : R := some ([.c (.p (PV.int .i64 qr))], [])
def R129 (x0 : R) (K0 : Int → R) : R := x0.bind fun q0 => bif lensB q0.2 [] && lensS q0.1 [.c (.p (.int .i64))] then (cInt (resAt q0.1 0) .i64).bind fun qr => K0 qr else none
@[simp] theorem R129_r (qr : Int) (K0 : Int → R) : R129 (r129 qr) K0 = K0 qr := by kernel_rfl
def L129_1 (k n : Nat) (qs : List PV) (v t7 t8 : Int) : R := evLoopAt P E T k 129 129 [] [1, 0, 1, 0] [] n ⟨mkT 19 [(0, .s (.c (.p (PV.row 0 0 qs)))), (1, .s (.c (.p (PV.int .i64 v)))), (7, .s (.c (.p (PV.int .i64 t7)))), (8, .s (.c (.p (PV.int .i64 t8))))], []⟩
/-! 130 : spec.StepsTo -/
def c130 (k : Nat) (p p1 : Int) (p2 p3 : List PV) (no : Int) : R := evF P E T k 130 [.s (.c (.p (PV.agg [.int .i64 p, .int .i64 p1, .row 2 0 p2, .row 2 0 p3]))), .s (.c (.p (PV.int .i64 no)))] []
def r130 (qr : Int) (b : Bool) : R := some ([.c (.p (PV.int .i64 qr)), .c (.p (PV.bool b))], [])
def R130 (x0 : R) (K0 : Int → Bool → R) : R := x0.bind fun q0 => bif lensB q0.2 [] && lensS q0.1 [.c (.p (.int .i64)), .c (.p (.bool))] then (cInt (resAt q0.1 0) .i64).bind fun qr => (cBool (resAt q0.1 1)).bind fun b => K0 qr b else none
@[simp] theorem R130_r (qr : Int) (b : Bool) (K0 : Int → Bool → R) : R130 (r130 qr b) K0 = K0 qr b := by kernel_rfl
def L130_1 (k n : Nat) (no : Int) (some1 : List PV) (n1 n11 n12 : Int) (l l1 : List PV) : R := evLoopAt P E T k 130 130 [] [1, 1, 1, 1, 0, 0] [] n ⟨mkT 34 [(1, .s (.c (.p (PV.int .i64 no)))), (2, .s (.c (.bptr 0 0))), (6, .s (.c (.p (PV.row 0 0 some1)))), (7, .s (.c (.p (PV.int .i64 n1))))], [.box [.p (PV.int .i64 n11), .p (PV.int .i64 n12), .p (PV.row 2 0 l), .p (PV.row 2 0 l1)]]⟩
/-! 131 : spec.l8Can -/
def c131 (k : Nat) (p p1 : Int) (p2 p3 : List PV) (from1 to steps : Int) : R := evF P E T k 131 [.s (.c (.p (PV.agg [.int .i64 p, .int .i64 p1, .row 2 0 p2, .row 2 0 p3]))), .s (.c (.p (PV.int .i64 from1))), .s (.c (.p (PV.int .i64 to))), .s (.c (.p (PV.int .i64 steps)))] []
def r131 (b : Bool) : R := some ([.c (.p (PV.bool b))], [])
def R131 (x0 : R) (K0 : Bool → R) : R := x0.bind fun q0 => bif lensB q0.2 [] && lensS q0.1 [.c (.p (.bool))] then (cBool (resAt q0.1 0)).bind fun b => K0 b else none
@[simp] theorem R131_r (b : Bool) (K0 : Bool → R) : R131 (r131 b) K0 = K0 b := by kernel_rfl
def L131_1 (k n : Nat) (to steps : Int) (someLen : Nat) (n1 n11 : Int) (l l1 xs : List PV) : R := evLoopAt P E T k 131 131 [] [1, 1, 0, 0] [] n ⟨mkT 22 [(2, .s (.c (.p (PV.int .i64 to)))), (3, .s (.c (.p (PV.int .i64 steps)))), (4, .s (.c (.bptr 0 0))), (9, .s (.c (.loc 1 0 0 0 someLen)))], [.box [.p (PV.int .i64 n1), .p (PV.int .i64 n11), .p (PV.row 2 0 l), .p (PV.row 2 0 l1)], .arr 3 0 0 false xs]⟩
def L131_2 (k n : Nat) (to steps : Int) (some1 : List PV) (n1 n11 : Int) (l l1 : List PV) : R := evLoopAt P E T k 131 131 [] [1, 1, 0, 0] [] n ⟨mkT 22 [(2, .s (.c (.p (PV.int .i64 to)))), (3, .s (.c (.p (PV.int .i64 steps)))), (4, .s (.c (.bptr 0 0))), (9, .s (.c (.p (PV.row 0 0 some1))))], [.box [.p (PV.int .i64 n1), .p (PV.int .i64 n11), .p (PV.row 2 0 l), .p (PV.row 2 0 l1)]]⟩
/-! 132 : spec.l1Cur).command -/
def c132 (k : Nat) (wide vars : Int) (l : List PV) (n1 n11 : Int) : R := evF P E T k 132 [.s (.c (.bptr 0 0)), .s (.c (.p (PV.int .i64 wide))), .s (.c (.p (PV.int .i64 vars)))] [[.p (PV.row 0 0 l), .p (PV.int .i64 n1), .p (PV.int .u64 n11)]]
def r132 (l : List PV) (qr qr1 : Int) (l1 l2 : List PV) : R := some ([.agg [.p (PV.row 2 0 l1), .own 111 2 l2]], [[.p (PV.row 0 0 l), .p (PV.int .i64 qr), .p (PV.int .u64 qr1)]])
def R132 (x0 : R) (K0 : List PV → Int → Int → List PV → List PV → R) : R := x0.bind fun q0 => bif lensB q0.2 [[.p (.row 0), .p (.int .i64), .p (.int .u64)]] && lensS q0.1 [.agg [.p (.row 2), .own 111 2]] then (cRow (cellAt q0.2 0 0) 0).bind fun l => (cInt (cellAt q0.2 0 1) .i64).bind fun qr => (cInt (cellAt q0.2 0 2) .u64).bind fun qr1 => (cRow (Dp.partAt q0.1 0 0) 2).bind fun l1 => (asOwn 111 2 (Dp.partAt q0.1 0 1)).bind fun l2 => K0 l qr qr1 l1 l2 else none
@[simp] theorem R132_r (l : List PV) (qr qr1 : Int) (l1 l2 : List PV) (K0 : List PV → Int → Int → List PV → List PV → R) : R132 (r132 l qr qr1 l1 l2) K0 = K0 l qr qr1 l1 l2 := by kernel_rfl
def L132_1 (k n : Nat) (wide vars v : Int) (l : List PV) (n1 n11 : Int) (l1 l2 : List PV) (Len Len1 : Nat) (xs xs1 : List PV) : R := evLoopAt P E T k 132 132 [3] [1, 1, 0, 1, 0] [] n ⟨mkT 35 [(0, .s (.c (.bptr 0 0))), (1, .s (.c (.p (PV.int .i64 wide)))), (2, .s (.c (.p (PV.int .i64 vars)))), (6, .s (.c (.bptr 1 0))), (7, .s (.c (.bptr 2 0))), (8, .s (.c (.p (PV.int .i64 v))))], [.box [.p (PV.row 0 0 l), .p (PV.int .i64 n1), .p (PV.int .u64 n11)], .box [.p (PV.row 2 0 l1), .p (PV.row 2 0 l2)], .box [.loc 3 0 2 0 Len, .loc 4 0 2 0 Len1], .arr 68 2 0 false xs, .arr 111 2 0 false xs1]⟩
/-! 133 : impl.isWide -/
def c133 (k : Nat) (n1 : Int) : R := evF P E T k 133 [.s (.c (.p (PV.int .i64 n1)))] []
def r133 (b : Bool) : R := some ([.c (.p (PV.bool b))], [])
def R133 (x0 : R) (K0 : Bool → R) : R := x0.bind fun q0 => bif lensB q0.2 [] && lensS q0.1 [.c (.p (.bool))] then (cBool (resAt q0.1 0)).bind fun b => K0 b else none
@[simp] theorem R133_r (b : Bool) (K0 : Bool → R) : R133 (r133 b) K0 = K0 b := by kernel_rfl
/-! 134 : impl.isVars -/
def c134 (k : Nat) (n1 : Int) : R := evF P E T k 134 [.s (.c (.p (PV.int .i64 n1)))] []
def r134 (b : Bool) : R := some ([.c (.p (PV.bool b))], [])
def R134 (x0 : R) (K0 : Bool → R) : R := x0.bind fun q0 => bif lensB q0.2 [] && lensS q0.1 [.c (.p (.bool))] then (cBool (resAt q0.1 0)).bind fun b => K0 b else none
@[simp] theorem R134_r (b : Bool) (K0 : Bool → R) : R134 (r134 b) K0 = K0 b := by kernel_rfl
/-! 135 : impl.GoodProgram$1 -/
def c135 (k : Nat) (qc qc1 : List PV) (n1 n11 : Int) (l l1 : List PV) : R := evF P E T k 135 [.s (.c (.p (PV.agg [.row 2 0 qc, .row 2 0 qc1]))), .s (.c (.bptr 0 0))] [[.p (PV.int .i64 n1), .p (PV.int .i64 n11), .p (PV.row 2 0 l), .p (PV.row 2 0 l1)]]
def r135 (qr qr1 : Int) (l l1 : List PV) (b : Bool) : R := some ([.c (.p (PV.bool b))], [[.p (PV.int .i64 qr), .p (PV.int .i64 qr1), .p (PV.row 2 0 l), .p (PV.row 2 0 l1)]])
def R135 (x0 : R) (K0 : Int → Int → List PV → List PV → Bool → R) : R := x0.bind fun q0 => bif lensB q0.2 [[.p (.int .i64), .p (.int .i64), .p (.row 2), .p (.row 2)]] && lensS q0.1 [.c (.p (.bool))] then (cInt (cellAt q0.2 0 0) .i64).bind fun qr => (cInt (cellAt q0.2 0 1) .i64).bind fun qr1 => (cRow (cellAt q0.2 0 2) 2).bind fun l => (cRow (cellAt q0.2 0 3) 2).bind fun l1 => (cBool (resAt q0.1 0)).bind fun b => K0 qr qr1 l l1 b else none
@[simp] theorem R135_r (qr qr1 : Int) (l l1 : List PV) (b : Bool) (K0 : Int → Int → List PV → List PV → Bool → R) : R135 (r135 qr qr1 l l1 b) K0 = K0 qr qr1 l l1 b := by kernel_rfl
/-! 136 : impl.Program).isCommand -/
def c136 (k : Nat) (p p1 : Int) (p2 p3 qc qc1 : List PV) : R := evF P E T k 136 [.s (.c (.p (PV.agg [.int .i64 p, .int .i64 p1, .row 2 0 p2, .row 2 0 p3]))), .s (.c (.p (PV.agg [.row 2 0 qc, .row 2 0 qc1])))] []
def r136 (b : Bool) : R := some ([.c (.p (PV.bool b))], [])
def R136 (x0 : R) (K0 : Bool → R) : R := x0.bind fun q0 => bif lensB q0.2 [] && lensS q0.1 [.c (.p (.bool))] then (cBool (resAt q0.1 0)).bind fun b => K0 b else none
@[simp] theorem R136_r (b : Bool) (K0 : Bool → R) : R136 (r136 b) K0 = K0 b := by kernel_rfl
def L136_1 (k n : Nat) (t13 : List PV) (t14 t15 n1 n11 : Int) (l l1 l2 l3 : List PV) : R := evLoopAt P E T k 136 136 [] [1, 1, 0, 1, 0] [] n ⟨mkT 57 [(2, .s (.c (.bptr 0 0))), (3, .s (.c (.bptr 1 0))), (13, .s (.c (.p (PV.row 2 0 t13)))), (14, .s (.c (.p (PV.int .i64 t14)))), (15, .s (.c (.p (PV.int .i64 t15))))], [.box [.p (PV.int .i64 n1), .p (PV.int .i64 n11), .p (PV.row 2 0 l), .p (PV.row 2 0 l1)], .box [.p (PV.row 2 0 l2), .p (PV.row 2 0 l3)]]⟩
/-! 138 : impl.operandsOf -/
def c138 (k : Nat) (op : Int) : R := evF P E T k 138 [.s (.c (.p (PV.int .i64 op)))] []
def r138 (qr qr1 qr2 : Int) : R := some ([.c (.p (PV.int .i64 qr)), .c (.p (PV.int .i64 qr1)), .c (.p (PV.int .i64 qr2))], [])
def R138 (x0 : R) (K0 : Int → Int → Int → R) : R := x0.bind fun q0 => bif lensB q0.2 [] && lensS q0.1 [.c (.p (.int .i64)), .c (.p (.int .i64)), .c (.p (.int .i64))] then (cInt (resAt q0.1 0) .i64).bind fun qr => (cInt (resAt q0.1 1) .i64).bind fun qr1 => (cInt (resAt q0.1 2) .i64).bind fun qr2 => K0 qr qr1 qr2 else none
@[simp] theorem R138_r (qr qr1 qr2 : Int) (K0 : Int → Int → Int → R) : R138 (r138 qr qr1 qr2) K0 = K0 qr qr1 qr2 := by kernel_rfl
/-! 139 : impl.isLeafRight -/
def c139 (k : Nat) (wide vars x x1 : Int) : R := evF P E T k 139 [.s (.c (.p (PV.int .i64 wide))), .s (.c (.p (PV.int .i64 vars))), .s (.c (.p (PV.agg [.int .i64 x, .int .u64 x1])))] []
def r139 (b : Bool) : R := some ([.c (.p (PV.bool b))], [])
def R139 (x0 : R) (K0 : Bool → R) : R := x0.bind fun q0 => bif lensB q0.2 [] && lensS q0.1 [.c (.p (.bool))] then (cBool (resAt q0.1 0)).bind fun b => K0 b else none
@[simp] theorem R139_r (b : Bool) (K0 : Bool → R) : R139 (r139 b) K0 = K0 b := by kernel_rfl
/-! 140 : impl.GoodTerm$1 -/
def c140 (k : Nat) (own n1 : Int) : R := evF P E T k 140 [.s (.c (.p (PV.int .i64 own))), .s (.c (.bptr 0 0))] [[.p (PV.int .i64 n1)]]
def r140 (qr : Int) (b : Bool) : R := some ([.c (.p (PV.bool b))], [[.p (PV.int .i64 qr)]])
def R140 (x0 : R) (K0 : Int → Bool → R) : R := x0.bind fun q0 => bif lensB q0.2 [[.p (.int .i64)]] && lensS q0.1 [.c (.p (.bool))] then (cInt (cellAt q0.2 0 0) .i64).bind fun qr => (cBool (resAt q0.1 0)).bind fun b => K0 qr b else none
@[simp] theorem R140_r (qr : Int) (b : Bool) (K0 : Int → Bool → R) : R140 (r140 qr b) K0 = K0 qr b := by kernel_rfl
/-! 141 : spec.l7Command -/
def c141 (k : Nat) (p p1 : Int) (p2 p3 qc qc1 : List PV) : R := evF P E T k 141 [.s (.c (.p (PV.agg [.int .i64 p, .int .i64 p1, .row 2 0 p2, .row 2 0 p3]))), .s (.c (.p (PV.agg [.row 2 0 qc, .row 2 0 qc1])))] []
def r141 (b : Bool) : R := some ([.c (.p (PV.bool b))], [])
def R141 (x0 : R) (K0 : Bool → R) : R := x0.bind fun q0 => bif lensB q0.2 [] && lensS q0.1 [.c (.p (.bool))] then (cBool (resAt q0.1 0)).bind fun b => K0 b else none
@[simp] theorem R141_r (b : Bool) (K0 : Bool → R) : R141 (r141 b) K0 = K0 b := by kernel_rfl
def L141_1 (k n : Nat) (t21 : List PV) (t22 t23 n1 n11 : Int) (l l1 l2 l3 : List PV) : R := evLoopAt P E T k 141 141 [] [1, 1, 0, 1, 0] [] n ⟨mkT 62 [(2, .s (.c (.bptr 0 0))), (3, .s (.c (.bptr 1 0))), (21, .s (.c (.p (PV.row 2 0 t21)))), (22, .s (.c (.p (PV.int .i64 t22)))), (23, .s (.c (.p (PV.int .i64 t23))))], [.box [.p (PV.int .i64 n1), .p (PV.int .i64 n11), .p (PV.row 2 0 l), .p (PV.row 2 0 l1)], .box [.p (PV.row 2 0 l2), .p (PV.row 2 0 l3)]]⟩
/-! 143 : impl.kindOf -/
def c143 (k : Nat) (t : List PV) : R := evF P E T k 143 [.s (.c (.p (PV.row 2 0 t)))] []
def r143 (qr : Int) : R := some ([.c (.p (PV.int .i64 qr))], [])
def R143 (x0 : R) (K0 : Int → R) : R := x0.bind fun q0 => bif lensB q0.2 [] && lensS q0.1 [.c (.p (.int .i64))] then (cInt (resAt q0.1 0) .i64).bind fun qr => K0 qr else none
@[simp] theorem R143_r (qr : Int) (K0 : Int → R) : R143 (r143 qr) K0 = K0 qr := by kernel_rfl
/-! 144 : impl.apply -/
def c144 (k : Nat) (wide op a b : Int) : R := evF P E T k 144 [.s (.c (.p (PV.int .i64 wide))), .s (.c (.p (PV.int .i64 op))), .s (.c (.p (PV.int .u64 a))), .s (.c (.p (PV.int .u64 b)))] []
def r144 (qr : Int) : R := some ([.c (.p (PV.int .u64 qr))], [])
def R144 (x0 : R) (K0 : Int → R) : R := x0.bind fun q0 => bif lensB q0.2 [] && lensS q0.1 [.c (.p (.int .u64))] then (cInt (resAt q0.1 0) .u64).bind fun qr => K0 qr else none
@[simp] theorem R144_r (qr : Int) (K0 : Int → R) : R144 (r144 qr) K0 = K0 qr := by kernel_rfl
/-! 145 : slices.Clone[[]uint64,uint64] -/
def c145 (k : Nat) (qs : List PV) : R := evF P E T k 145 [.s (.c (.p (PV.row 0 0 qs)))] []
def r145 (l : List PV) : R := some ([.c (.own 57 0 l)], [])
def R145 (x0 : R) (K0 : List PV → R) : R := x0.bind fun q0 => bif lensB q0.2 [] && lensS q0.1 [.c (.own 57 0)] then (asOwn 57 0 (resAt q0.1 0)).bind fun l => K0 l else none
@[simp] theorem R145_r (l : List PV) (K0 : List PV → R) : R145 (r145 l) K0 = K0 l := by kernel_rfl
/-! 148 : spec.l1Cut -/
def c148 (k : Nat) (wide a : Int) : R := evF P E T k 148 [.s (.c (.p (PV.int .i64 wide))), .s (.c (.p (PV.int .u64 a)))] []
def r148 (qr : Int) : R := some ([.c (.p (PV.int .u64 qr))], [])
def R148 (x0 : R) (K0 : Int → R) : R := x0.bind fun q0 => bif lensB q0.2 [] && lensS q0.1 [.c (.p (.int .u64))] then (cInt (resAt q0.1 0) .u64).bind fun qr => K0 qr else none
@[simp] theorem R148_r (qr : Int) (K0 : Int → R) : R148 (r148 qr) K0 = K0 qr := by kernel_rfl
def L148_1 (k n : Nat) (wide a out k1 : Int) : R := evLoopAt P E T k 148 148 [] [1, 1, 0, 1, 0] [] n ⟨mkT 20 [(0, .s (.c (.p (PV.int .i64 wide)))), (1, .s (.c (.p (PV.int .u64 a)))), (5, .s (.c (.p (PV.int .u64 out)))), (6, .s (.c (.p (PV.int .i64 k1))))], []⟩
/-! 149 : spec.l1Wide -/
def c149 (k : Nat) (wide : Int) : R := evF P E T k 149 [.s (.c (.p (PV.int .i64 wide)))] []
def r149 (b : Bool) : R := some ([.c (.p (PV.bool b))], [])
def R149 (x0 : R) (K0 : Bool → R) : R := x0.bind fun q0 => bif lensB q0.2 [] && lensS q0.1 [.c (.p (.bool))] then (cBool (resAt q0.1 0)).bind fun b => K0 b else none
@[simp] theorem R149_r (b : Bool) (K0 : Bool → R) : R149 (r149 b) K0 = K0 b := by kernel_rfl
/-! 150 : spec.l2Need -/
def c150 (k : Nat) (op : Int) : R := evF P E T k 150 [.s (.c (.p (PV.int .i64 op)))] []
def r150 (qr qr1 qr2 : Int) : R := some ([.c (.p (PV.int .i64 qr)), .c (.p (PV.int .i64 qr1)), .c (.p (PV.int .i64 qr2))], [])
def R150 (x0 : R) (K0 : Int → Int → Int → R) : R := x0.bind fun q0 => bif lensB q0.2 [] && lensS q0.1 [.c (.p (.int .i64)), .c (.p (.int .i64)), .c (.p (.int .i64))] then (cInt (resAt q0.1 0) .i64).bind fun qr => (cInt (resAt q0.1 1) .i64).bind fun qr1 => (cInt (resAt q0.1 2) .i64).bind fun qr2 => K0 qr qr1 qr2 else none
@[simp] theorem R150_r (qr qr1 qr2 : Int) (K0 : Int → Int → Int → R) : R150 (r150 qr qr1 qr2) K0 = K0 qr qr1 qr2 := by kernel_rfl
/-! 151 : spec.l2N -/
def c151 (k : Nat) (wide vars n1 n11 : Int) : R := evF P E T k 151 [.s (.c (.p (PV.int .i64 wide))), .s (.c (.p (PV.int .i64 vars))), .s (.c (.p (PV.agg [.int .i64 n1, .int .u64 n11])))] []
def r151 (b : Bool) : R := some ([.c (.p (PV.bool b))], [])
def R151 (x0 : R) (K0 : Bool → R) : R := x0.bind fun q0 => bif lensB q0.2 [] && lensS q0.1 [.c (.p (.bool))] then (cBool (resAt q0.1 0)).bind fun b => K0 b else none
@[simp] theorem R151_r (b : Bool) (K0 : Bool → R) : R151 (r151 b) K0 = K0 b := by kernel_rfl
/-! 152 : spec.l2Do -/
def c152 (k : Nat) (wide op a b : Int) : R := evF P E T k 152 [.s (.c (.p (PV.int .i64 wide))), .s (.c (.p (PV.int .i64 op))), .s (.c (.p (PV.int .u64 a))), .s (.c (.p (PV.int .u64 b)))] []
def r152 (qr : Int) : R := some ([.c (.p (PV.int .u64 qr))], [])
def R152 (x0 : R) (K0 : Int → R) : R := x0.bind fun q0 => bif lensB q0.2 [] && lensS q0.1 [.c (.p (.int .u64))] then (cInt (resAt q0.1 0) .u64).bind fun qr => K0 qr else none
@[simp] theorem R152_r (qr : Int) (K0 : Int → R) : R152 (r152 qr) K0 = K0 qr := by kernel_rfl
/-! 153 : spec.l2From -/
def c153 (k : Nat) (t : List PV) (k1 : Int) : R := evF P E T k 153 [.s (.c (.p (PV.row 2 0 t))), .s (.c (.p (PV.int .i64 k1)))] []
def r153 (qr : Int) : R := some ([.c (.p (PV.int .i64 qr))], [])
def R153 (x0 : R) (K0 : Int → R) : R := x0.bind fun q0 => bif lensB q0.2 [] && lensS q0.1 [.c (.p (.int .i64))] then (cInt (resAt q0.1 0) .i64).bind fun qr => K0 qr else none
@[simp] theorem R153_r (qr : Int) (K0 : Int → R) : R153 (r153 qr) K0 = K0 qr := by kernel_rfl
def L153_1 (k n : Nat) (t : List PV) (many from1 : Int) : R := evLoopAt P E T k 153 153 [] [1, 1, 1, 0, 0] [] n ⟨mkT 29 [(0, .s (.c (.p (PV.row 2 0 t)))), (5, .s (.c (.p (PV.int .i64 many)))), (8, .s (.c (.p (PV.int .i64 from1))))], []⟩
/-! 154 : bits.Mul -/
def c154 (k : Nat) (x y : Int) : R := evF P E T k 154 [.s (.c (.p (PV.int .u64 x))), .s (.c (.p (PV.int .u64 y)))] []
def r154 (qr qr1 : Int) : R := some ([.c (.p (PV.int .u64 qr)), .c (.p (PV.int .u64 qr1))], [])
def R154 (x0 : R) (K0 : Int → Int → R) : R := x0.bind fun q0 => bif lensB q0.2 [] && lensS q0.1 [.c (.p (.int .u64)), .c (.p (.int .u64))] then (cInt (resAt q0.1 0) .u64).bind fun qr => (cInt (resAt q0.1 1) .u64).bind fun qr1 => K0 qr qr1 else none
@[simp] theorem R154_r (qr qr1 : Int) (K0 : Int → Int → R) : R154 (r154 qr qr1) K0 = K0 qr qr1 := by kernel_rfl
/-! 157 : impl.GoodWord -/
def c157 (k : Nat) (wide a : Int) : R := evF P E T k 157 [.s (.c (.p (PV.int .i64 wide))), .s (.c (.p (PV.int .u64 a)))] []
def r157 (b : Bool) : R := some ([.c (.p (PV.bool b))], [])
def R157 (x0 : R) (K0 : Bool → R) : R := x0.bind fun q0 => bif lensB q0.2 [] && lensS q0.1 [.c (.p (.bool))] then (cBool (resAt q0.1 0)).bind fun b => K0 b else none
@[simp] theorem R157_r (b : Bool) (K0 : Bool → R) : R157 (r157 b) K0 = K0 b := by kernel_rfl
/-! 158 : impl.DivWord -/
def c158 (k : Nat) (wide a b : Int) : R := evF P E T k 158 [.s (.c (.p (PV.int .i64 wide))), .s (.c (.p (PV.int .u64 a))), .s (.c (.p (PV.int .u64 b)))] []
def r158 (qr qr1 : Int) (b : Bool) : R := some ([.c (.p (PV.int .u64 qr)), .c (.p (PV.int .u64 qr1)), .c (.p (PV.bool b))], [])
def R158 (x0 : R) (K0 : Int → Int → Bool → R) : R := x0.bind fun q0 => bif lensB q0.2 [] && lensS q0.1 [.c (.p (.int .u64)), .c (.p (.int .u64)), .c (.p (.bool))] then (cInt (resAt q0.1 0) .u64).bind fun qr => (cInt (resAt q0.1 1) .u64).bind fun qr1 => (cBool (resAt q0.1 2)).bind fun b => K0 qr qr1 b else none
@[simp] theorem R158_r (qr qr1 : Int) (b : Bool) (K0 : Int → Int → Bool → R) : R158 (r158 qr qr1 b) K0 = K0 qr qr1 b := by kernel_rfl
/-! 159 : impl.shift -/
def c159 (k : Nat) (wide a by1 : Int) (left : Bool) : R := evF P E T k 159 [.s (.c (.p (PV.int .i64 wide))), .s (.c (.p (PV.int .u64 a))), .s (.c (.p (PV.int .u64 by1))), .s (.c (.p (PV.bool left)))] []
def r159 (qr : Int) : R := some ([.c (.p (PV.int .u64 qr))], [])
def R159 (x0 : R) (K0 : Int → R) : R := x0.bind fun q0 => bif lensB q0.2 [] && lensS q0.1 [.c (.p (.int .u64))] then (cInt (resAt q0.1 0) .u64).bind fun qr => K0 qr else none
@[simp] theorem R159_r (qr : Int) (K0 : Int → R) : R159 (r159 qr) K0 = K0 qr := by kernel_rfl
/-! 160 : impl.truth -/
def c160 (k : Nat) (holds : Bool) : R := evF P E T k 160 [.s (.c (.p (PV.bool holds)))] []
def r160 (qr : Int) : R := some ([.c (.p (PV.int .u64 qr))], [])
def R160 (x0 : R) (K0 : Int → R) : R := x0.bind fun q0 => bif lensB q0.2 [] && lensS q0.1 [.c (.p (.int .u64))] then (cInt (resAt q0.1 0) .u64).bind fun qr => K0 qr else none
@[simp] theorem R160_r (qr : Int) (K0 : Int → R) : R160 (r160 qr) K0 = K0 qr := by kernel_rfl
/-! 161 : impl.signed -/
def c161 (k : Nat) (wide a : Int) : R := evF P E T k 161 [.s (.c (.p (PV.int .i64 wide))), .s (.c (.p (PV.int .u64 a)))] []
def r161 (qr : Int) : R := some ([.c (.p (PV.int .i64 qr))], [])
def R161 (x0 : R) (K0 : Int → R) : R := x0.bind fun q0 => bif lensB q0.2 [] && lensS q0.1 [.c (.p (.int .i64))] then (cInt (resAt q0.1 0) .i64).bind fun qr => K0 qr else none
@[simp] theorem R161_r (qr : Int) (K0 : Int → R) : R161 (r161 qr) K0 = K0 qr := by kernel_rfl
/-! 172 : bits.Len64 -/
def c172 (k : Nat) (x : Int) : R := evF P E T k 172 [.s (.c (.p (PV.int .u64 x)))] []
def r172 (qr : Int) : R := some ([.c (.p (PV.int .i64 qr))], [])
def R172 (x0 : R) (K0 : Int → R) : R := x0.bind fun q0 => bif lensB q0.2 [] && lensS q0.1 [.c (.p (.int .i64))] then (cInt (resAt q0.1 0) .i64).bind fun qr => K0 qr else none
@[simp] theorem R172_r (qr : Int) (K0 : Int → R) : R172 (r172 qr) K0 = K0 qr := by kernel_rfl
/-! 173 : spec.GoodWord -/
def c173 (k : Nat) (wide a : Int) : R := evF P E T k 173 [.s (.c (.p (PV.int .i64 wide))), .s (.c (.p (PV.int .u64 a)))] []
def r173 (b : Bool) : R := some ([.c (.p (PV.bool b))], [])
def R173 (x0 : R) (K0 : Bool → R) : R := x0.bind fun q0 => bif lensB q0.2 [] && lensS q0.1 [.c (.p (.bool))] then (cBool (resAt q0.1 0)).bind fun b => K0 b else none
@[simp] theorem R173_r (b : Bool) (K0 : Bool → R) : R173 (r173 b) K0 = K0 b := by kernel_rfl
/-! 174 : spec.DivWord -/
def c174 (k : Nat) (wide a b : Int) : R := evF P E T k 174 [.s (.c (.p (PV.int .i64 wide))), .s (.c (.p (PV.int .u64 a))), .s (.c (.p (PV.int .u64 b)))] []
def r174 (qr qr1 : Int) (b : Bool) : R := some ([.c (.p (PV.int .u64 qr)), .c (.p (PV.int .u64 qr1)), .c (.p (PV.bool b))], [])
def R174 (x0 : R) (K0 : Int → Int → Bool → R) : R := x0.bind fun q0 => bif lensB q0.2 [] && lensS q0.1 [.c (.p (.int .u64)), .c (.p (.int .u64)), .c (.p (.bool))] then (cInt (resAt q0.1 0) .u64).bind fun qr => (cInt (resAt q0.1 1) .u64).bind fun qr1 => (cBool (resAt q0.1 2)).bind fun b => K0 qr qr1 b else none
@[simp] theorem R174_r (qr qr1 : Int) (b : Bool) (K0 : Int → Int → Bool → R) : R174 (r174 qr qr1 b) K0 = K0 qr qr1 b := by kernel_rfl
/-! 175 : spec.l1Shift -/
def c175 (k : Nat) (wide a by1 : Int) (left : Bool) : R := evF P E T k 175 [.s (.c (.p (PV.int .i64 wide))), .s (.c (.p (PV.int .u64 a))), .s (.c (.p (PV.int .u64 by1))), .s (.c (.p (PV.bool left)))] []
def r175 (qr : Int) : R := some ([.c (.p (PV.int .u64 qr))], [])
def R175 (x0 : R) (K0 : Int → R) : R := x0.bind fun q0 => bif lensB q0.2 [] && lensS q0.1 [.c (.p (.int .u64))] then (cInt (resAt q0.1 0) .u64).bind fun qr => K0 qr else none
@[simp] theorem R175_r (qr : Int) (K0 : Int → R) : R175 (r175 qr) K0 = K0 qr := by kernel_rfl
def L175_1 (k n : Nat) (wide a by1 : Int) (left : Bool) : R := evLoopAt P E T k 175 175 [] [1, 1, 0, 0] [] n ⟨mkT 25 [(0, .s (.c (.p (PV.int .i64 wide)))), (1, .s (.c (.p (PV.int .u64 a)))), (2, .s (.c (.p (PV.int .u64 by1)))), (3, .s (.c (.p (PV.bool left))))], []⟩
/-! 176 : spec.l2Bool -/
def c176 (k : Nat) (is1 : Bool) : R := evF P E T k 176 [.s (.c (.p (PV.bool is1)))] []
def r176 (qr : Int) : R := some ([.c (.p (PV.int .u64 qr))], [])
def R176 (x0 : R) (K0 : Int → R) : R := x0.bind fun q0 => bif lensB q0.2 [] && lensS q0.1 [.c (.p (.int .u64))] then (cInt (resAt q0.1 0) .u64).bind fun qr => K0 qr else none
@[simp] theorem R176_r (qr : Int) (K0 : Int → R) : R176 (r176 qr) K0 = K0 qr := by kernel_rfl
/-! 177 : spec.l1Signed -/
def c177 (k : Nat) (wide a : Int) : R := evF P E T k 177 [.s (.c (.p (PV.int .i64 wide))), .s (.c (.p (PV.int .u64 a)))] []
def r177 (qr : Int) : R := some ([.c (.p (PV.int .i64 qr))], [])
def R177 (x0 : R) (K0 : Int → R) : R := x0.bind fun q0 => bif lensB q0.2 [] && lensS q0.1 [.c (.p (.int .i64))] then (cInt (resAt q0.1 0) .i64).bind fun qr => K0 qr else none
@[simp] theorem R177_r (qr : Int) (K0 : Int → R) : R177 (r177 qr) K0 = K0 qr := by kernel_rfl
/-! 179 : bits.Mul64 -/
def c179 (k : Nat) (x y : Int) : R := evF P E T k 179 [.s (.c (.p (PV.int .u64 x))), .s (.c (.p (PV.int .u64 y)))] []
def r179 (qr qr1 : Int) : R := some ([.c (.p (PV.int .u64 qr)), .c (.p (PV.int .u64 qr1))], [])
def R179 (x0 : R) (K0 : Int → Int → R) : R := x0.bind fun q0 => bif lensB q0.2 [] && lensS q0.1 [.c (.p (.int .u64)), .c (.p (.int .u64))] then (cInt (resAt q0.1 0) .u64).bind fun qr => (cInt (resAt q0.1 1) .u64).bind fun qr1 => K0 qr qr1 else none
@[simp] theorem R179_r (qr qr1 : Int) (K0 : Int → Int → R) : R179 (r179 qr qr1) K0 = K0 qr qr1 := by kernel_rfl
/-! 181 : impl.areWords -/
def c181 (k : Nat) (wide a b : Int) : R := evF P E T k 181 [.s (.c (.p (PV.int .i64 wide))), .s (.c (.p (PV.int .u64 a))), .s (.c (.p (PV.int .u64 b)))] []
def r181 (b : Bool) : R := some ([.c (.p (PV.bool b))], [])
def R181 (x0 : R) (K0 : Bool → R) : R := x0.bind fun q0 => bif lensB q0.2 [] && lensS q0.1 [.c (.p (.bool))] then (cBool (resAt q0.1 0)).bind fun b => K0 b else none
@[simp] theorem R181_r (b : Bool) (K0 : Bool → R) : R181 (r181 b) K0 = K0 b := by kernel_rfl
/-! 182 : bits.Div64 -/
def c182 (k : Nat) (hi lo y : Int) : R := evF P E T k 182 [.s (.c (.p (PV.int .u64 hi))), .s (.c (.p (PV.int .u64 lo))), .s (.c (.p (PV.int .u64 y)))] []
def r182 (qr qr1 : Int) : R := some ([.c (.p (PV.int .u64 qr)), .c (.p (PV.int .u64 qr1))], [])
def R182 (x0 : R) (K0 : Int → Int → R) : R := x0.bind fun q0 => bif lensB q0.2 [] && lensS q0.1 [.c (.p (.int .u64)), .c (.p (.int .u64))] then (cInt (resAt q0.1 0) .u64).bind fun qr => (cInt (resAt q0.1 1) .u64).bind fun qr1 => K0 qr qr1 else none
@[simp] theorem R182_r (qr qr1 : Int) (K0 : Int → Int → R) : R182 (r182 qr qr1) K0 = K0 qr qr1 := by kernel_rfl
def L182_1 (k n : Nat) (y qs yn1 yn0 un32 un1 un0 q1 rhat : Int) : R := evLoopAt P E T k 182 182 [] [1, 1, 1, 1, 1, 1, 1, 1, 1, 1, 1, 1, 1, 1, 0, 0] [] n ⟨mkT 135 [(2, .s (.c (.p (PV.int .u64 y)))), (8, .s (.c (.p (PV.int .u64 qs)))), (9, .s (.c (.p (PV.int .u64 yn1)))), (10, .s (.c (.p (PV.int .u64 yn0)))), (11, .s (.c (.p (PV.int .u64 un32)))), (13, .s (.c (.p (PV.int .u64 un1)))), (14, .s (.c (.p (PV.int .u64 un0)))), (15, .s (.c (.p (PV.int .u64 q1)))), (16, .s (.c (.p (PV.int .u64 rhat))))], []⟩
def L182_2 (k n : Nat) (y qs yn1 yn0 un0 q1 rhat un21 q0 : Int) : R := evLoopAt P E T k 182 182 [] [1, 1, 1, 1, 1, 1, 1, 1, 1, 1, 1, 1, 1, 1, 1, 1, 1, 1, 0, 0] [] n ⟨mkT 135 [(2, .s (.c (.p (PV.int .u64 y)))), (8, .s (.c (.p (PV.int .u64 qs)))), (9, .s (.c (.p (PV.int .u64 yn1)))), (10, .s (.c (.p (PV.int .u64 yn0)))), (14, .s (.c (.p (PV.int .u64 un0)))), (15, .s (.c (.p (PV.int .u64 q1)))), (16, .s (.c (.p (PV.int .u64 rhat)))), (17, .s (.c (.p (PV.int .u64 un21)))), (18, .s (.c (.p (PV.int .u64 q0))))], []⟩
/-! 189 : spec.l1Both -/
def c189 (k : Nat) (wide a b : Int) : R := evF P E T k 189 [.s (.c (.p (PV.int .i64 wide))), .s (.c (.p (PV.int .u64 a))), .s (.c (.p (PV.int .u64 b)))] []
def r189 (b : Bool) : R := some ([.c (.p (PV.bool b))], [])
def R189 (x0 : R) (K0 : Bool → R) : R := x0.bind fun q0 => bif lensB q0.2 [] && lensS q0.1 [.c (.p (.bool))] then (cBool (resAt q0.1 0)).bind fun b => K0 b else none
@[simp] theorem R189_r (b : Bool) (K0 : Bool → R) : R189 (r189 b) K0 = K0 b := by kernel_rfl
/-! 190 : bits.LeadingZeros64 -/
def c190 (k : Nat) (x : Int) : R := evF P E T k 190 [.s (.c (.p (PV.int .u64 x)))] []
def r190 (qr : Int) : R := some ([.c (.p (PV.int .i64 qr))], [])
def R190 (x0 : R) (K0 : Int → R) : R := x0.bind fun q0 => bif lensB q0.2 [] && lensS q0.1 [.c (.p (.int .i64))] then (cInt (resAt q0.1 0) .i64).bind fun qr => K0 qr else none
@[simp] theorem R190_r (qr : Int) (K0 : Int → R) : R190 (r190 qr) K0 = K0 qr := by kernel_rfl
end
end Go.Proofs.YtcamhbchcjpjiaaGreat
/- Normal forms: printed by nf.py. -/
set_option linter.unusedVariables false
set_option maxRecDepth 100000
namespace Go.Proofs.YtcamhbchcjpjiaaGreat
open Go.Dp
/-! 5 : laws.FnReached -/
theorem n5 (k : Nat) (code more : List PV) : c5 (k + 1) code more =
 R6 (c6 k code more) fun b1 =>
 bif b1 then
  r5 true
 else
  R30 (c30 k code) fun v1 v2 l1 l2 =>
  R22 (c22 k v1 v2 l1 l2) fun l3 b2 =>
  R31 (c31 k v1 v2 l1 l2) fun l4 b3 =>
  R21 (c21 k v1 v2 l1 l2) fun l5 b4 =>
  R32 (c32 k v1 v2 l1 l2) fun l6 b5 =>
  R33 (c33 k v1 v2 l1 l2) fun l7 b6 =>
  R34 (c34 k v1 v2 l1 l2) fun l8 b7 =>
  bif (!(b2 == b3)) then
   r5 false
  else
   R19 (c19 k l3 l4) fun b8 =>
   bif !b8 then
    r5 false
   else
    bif (!(b4 == b5)) then
     r5 false
    else
     R19 (c19 k l5 l6) fun b9 =>
     bif !b9 then
      r5 false
     else
      bif (!(b6 == b7)) then
       r5 false
      else
       R19 (c19 k l7 l8) fun b10 =>
       bif !b10 then
        r5 false
       else
        bif b2 then
         R29 (c29 k l5 l3) fun b11 =>
         bif !b11 then
          r5 false
         else L5_1 k k more l3 l7 l3 (l3.length : Int) 0 v1 v2 l1 l2
        else L5_1 k k more l3 l7 l3 (l3.length : Int) 0 v1 v2 l1 l2 := by kernel_rfl
theorem sL5_1 (k n : Nat) (more qr k1 t111 : List PV) (t112 t113 n1 n11 : Int) (l l1 : List PV) : L5_1 k (n + 1) more qr k1 t111 t112 t113 n1 n11 l l1 =
 bif decide (t113 < t112) then
  (lookP t111 t113).bind fun p1 =>
  (p1.atInt .i64 0).bind fun n2 =>
  R12 (c12 k n1 n11 l l1 n2) fun l2 b1 =>
  R35 (c35 k n1 n11 l l1 n2) fun l3 b2 =>
  R36 (c36 k n1 n11 l l1 n2) fun v1 b3 =>
  R37 (c37 k n1 n11 l l1 l3) fun b4 b5 =>
  bif !b1 then
   r5 false
  else
   R29 (c29 k l2 qr) fun b6 =>
   bif !b6 then
    r5 false
   else
    bif !b2 then
     r5 false
    else
     bif !b3 then
      r5 false
     else
      bif !b5 then
       r5 false
      else
       bif !b4 then
        r5 false
       else
        bif decide (v1 < 0) then
         r5 false
        else
         bif ((l3.length : Int) != IntKind.i64.wrap (v1 + 1)) then
          r5 false
         else
          (lookP l3 v1).bind fun p2 =>
          (p2.atInt .i64 0).bind fun n3 =>
          bif (n3 != n2) then
           r5 false
          else
           R23 (c23 k k1 n2) fun b7 =>
           bif b7 then
            R19p (c19 k l2 [PV.int .i64 n2]) fun b8 =>
            bif !b8 then
            r5 false
            else L5_1 k n more qr k1 t111 t112 (IntKind.i64.wrap (t113 + 1)) n1 n11 l l1
           else L5_1 k n more qr k1 t111 t112 (IntKind.i64.wrap (t113 + 1)) n1 n11 l l1
 else
  R38 (c38 k more) fun v2 v3 l4 l5 l6 =>
  R37 (c37 k v2 v3 l4 l5 l6) fun b9 b10 =>
  R39 (c39 k v2 v3 l4 l5 l6) fun b11 b12 =>
  bif (!(b10 == b12)) then
   r5 false
  else
   bif (!(b9 == b11)) then
    r5 false
   else
    bif b9 then
     (lookP l6 (IntKind.i64.wrap ((l6.length : Int) - 1))).bind fun p3 =>
     (p3.atInt .i64 0).bind fun n4 =>
     R36 (c36 k v2 v3 l4 l5 n4) fun v4 b13 =>
     bif b13 then
      r5 (decide (v4 < (l6.length : Int)))
     else r5 false
    else r5 true := by kernel_rfl
/-! 6 : laws.big -/
theorem n6 (k : Nat) (code more : List PV) : c6 (k + 1) code more =
 bif decide ((code.length : Int) > 1048576) then
  r6 true
 else r6 (decide ((more.length : Int) > IntKind.i64.wrap (1048576 - (code.length : Int)))) := by kernel_rfl
/-! 12 : impl.NextOf -/
theorem n12 (k : Nat) (p p1 : Int) (p2 p3 : List PV) (no : Int) : c12 (k + 1) p p1 p2 p3 no =
 R49 (c49 k p p1 p2 p3 no) fun b1 =>
 bif !b1 then
  r12 [] false
 else
  R53 (c53 k p p1 p2 p3 no) fun l1 =>
  r12 l1 true := by kernel_rfl
/-! 18 : spec.NextOf -/
theorem n18 (k : Nat) (p p1 : Int) (p2 p3 : List PV) (no : Int) : c18 (k + 1) p p1 p2 p3 no =
 R64 (c64 k p p1 p2 p3 no) fun b1 =>
 bif !b1 then
  r18 [] false
 else
  R65 (c65 k p p1 p2 p3 no) fun l1 =>
  r18 l1 true := by kernel_rfl
/-! 19 : laws.sameInts -/
theorem n19 (k : Nat) (a b : List PV) : c19 (k + 1) a b =
 bif ((a.length : Int) != (b.length : Int)) then
  r19 false
 else L19_1 k k a b (a.length : Int) 0 := by kernel_rfl
theorem sL19_1 (k n : Nat) (a b : List PV) (t12 t13 : Int) : L19_1 k (n + 1) a b t12 t13 =
 bif decide (t13 < t12) then
  (lookP a t13).bind fun p1 =>
  (p1.atInt .i64 0).bind fun n1 =>
  (lookP b t13).bind fun p2 =>
  (p2.atInt .i64 0).bind fun n2 =>
  bif (n1 != n2) then
   r19 false
  else L19_1 k n a b t12 (IntKind.i64.wrap (t13 + 1))
 else r19 true := by kernel_rfl
/-! 21 : impl.Starts -/
theorem n21 (k : Nat) (p p1 : Int) (p2 p3 : List PV) : c21 (k + 1) p p1 p2 p3 =
 R66 (c66 k p p1 p2 p3) fun b1 =>
 bif !b1 then
  r21 [] false
 else
  R72 (c72 k p p1 p2 p3 p2) fun l1 =>
  r21 l1 true := by kernel_rfl
/-! 22 : impl.ReachOf -/
theorem n22 (k : Nat) (p p1 : Int) (p2 p3 : List PV) : c22 (k + 1) p p1 p2 p3 =
 R66 (c66 k p p1 p2 p3) fun b1 =>
 bif !b1 then
  r22 [] false
 else
  R73 (c73 k p p1 p2 p3) fun l1 =>
  r22 l1 true := by kernel_rfl
/-! 23 : laws.has -/
theorem n23 (k : Nat) (l : List PV) (n1 : Int) : c23 (k + 1) l n1 =
 L23_1 k k n1 l (l.length : Int) 0 := by kernel_rfl
theorem sL23_1 (k n : Nat) (n1 : Int) (t7 : List PV) (t8 t9 : Int) : L23_1 k (n + 1) n1 t7 t8 t9 =
 bif decide (t9 < t8) then
  (lookP t7 t9).bind fun p1 =>
  (p1.atInt .i64 0).bind fun n2 =>
  bif (n2 == n1) then
   r23 true
  else L23_1 k n n1 t7 t8 (IntKind.i64.wrap (t9 + 1))
 else r23 false := by kernel_rfl
/-! 29 : laws.within -/
theorem n29 (k : Nat) (some1 in1 : List PV) : c29 (k + 1) some1 in1 =
 L29_1 k k in1 some1 (some1.length : Int) 0 := by kernel_rfl
theorem sL29_1 (k n : Nat) (in1 t7 : List PV) (t8 t9 : Int) : L29_1 k (n + 1) in1 t7 t8 t9 =
 bif decide (t9 < t8) then
  (lookP t7 t9).bind fun p1 =>
  (p1.atInt .i64 0).bind fun n1 =>
  R23 (c23 k in1 n1) fun b1 =>
  bif !b1 then
   r29 false
  else L29_1 k n in1 t7 t8 (IntKind.i64.wrap (t9 + 1))
 else r29 true := by kernel_rfl
/-! 30 : spec.DrawReachOf -/
theorem n30 (k : Nat) (code : List PV) : c30 (k + 1) code =
 R85 (c85 k code) fun v1 v2 l1 l2 =>
 r30 v1 v2 l1 l2 := by kernel_rfl
/-! 31 : spec.ReachOf -/
theorem n31 (k : Nat) (p p1 : Int) (p2 p3 : List PV) : c31 (k + 1) p p1 p2 p3 =
 R76 (c76 k p p1 p2 p3) fun b1 =>
 bif !b1 then
  r31 [] false
 else
  R78 (c78 k p p1 p2 p3) fun l1 =>
  r31 l1 true := by kernel_rfl
/-! 32 : spec.Starts -/
theorem n32 (k : Nat) (p p1 : Int) (p2 p3 : List PV) : c32 (k + 1) p p1 p2 p3 =
 R76 (c76 k p p1 p2 p3) fun b1 =>
 bif !b1 then
  r32 [] false
 else
  R86 (c86 k p p1 p2 p3 p2) fun l1 =>
  r32 l1 true := by kernel_rfl
/-! 33 : impl.StuckIn -/
theorem n33 (k : Nat) (p p1 : Int) (p2 p3 : List PV) : c33 (k + 1) p p1 p2 p3 =
 R66 (c66 k p p1 p2 p3) fun b1 =>
 bif !b1 then
  r33 [] false
 else
  R73 (c73 k p p1 p2 p3) fun l1 =>
  L33_1 k k 0 l1 (l1.length : Int) 0 p p1 p2 p3 [] := by kernel_rfl
theorem sL33_1 (k n : Nat) (outLen : Nat) (t13 : List PV) (t14 t15 n1 n11 : Int) (l l1 xs : List PV) : L33_1 k (n + 1) outLen t13 t14 t15 n1 n11 l l1 xs =
 bif decide (t15 < t14) then
  (lookP t13 t15).bind fun p1 =>
  (p1.atInt .i64 0).bind fun n2 =>
  R52 (c52 k n1 n11 l l1 n2) fun l2 =>
  R87f88p (c87f88 k l1 n1 n11 l l1 l2) fun b1 =>
  bif !b1 then
   bif decide ((outLen + 1) * 8 ≤ LIM) && decide (outLen + 1 ≤ LIM) then
    L33_1 k n (outLen + 1) t13 t14 (IntKind.i64.wrap (t15 + 1)) n1 n11 l l1 ((xs.take outLen) ++ [PV.int .i64 n2])
   else none
  else L33_1 k n outLen t13 t14 (IntKind.i64.wrap (t15 + 1)) n1 n11 l l1 xs
 else r33 (xs.take outLen) true := by kernel_rfl
/-! 34 : spec.StuckIn -/
theorem n34 (k : Nat) (p p1 : Int) (p2 p3 : List PV) : c34 (k + 1) p p1 p2 p3 =
 R76 (c76 k p p1 p2 p3) fun b1 =>
 bif !b1 then
  r34 [] false
 else
  R78 (c78 k p p1 p2 p3) fun l1 =>
  L34_1 k k 0 l1 (l1.length : Int) 0 p p1 p2 p3 [] := by kernel_rfl
theorem sL34_1 (k n : Nat) (outLen : Nat) (t11 : List PV) (t12 t13 n1 n11 : Int) (l l1 xs : List PV) : L34_1 k (n + 1) outLen t11 t12 t13 n1 n11 l l1 xs =
 bif decide (t13 < t12) then
  (lookP t11 t13).bind fun p1 =>
  (p1.atInt .i64 0).bind fun n2 =>
  R80 (c80 k n1 n11 l l1 n2) fun l2 =>
  R89 (c89 k n1 n11 l l1 l2) fun l3 =>
  bif ((l3.length : Int) == 0) then
   bif decide ((outLen + 1) * 8 ≤ LIM) && decide (outLen + 1 ≤ LIM) then
    L34_1 k n (outLen + 1) t11 t12 (IntKind.i64.wrap (t13 + 1)) n1 n11 l l1 ((xs.take outLen) ++ [PV.int .i64 n2])
   else none
  else L34_1 k n outLen t11 t12 (IntKind.i64.wrap (t13 + 1)) n1 n11 l l1 xs
 else r34 (xs.take outLen) true := by kernel_rfl
/-! 35 : impl.PathTo -/
theorem n35 (k : Nat) (p p1 : Int) (p2 p3 : List PV) (no : Int) : c35 (k + 1) p p1 p2 p3 no =
 R49 (c49 k p p1 p2 p3 no) fun b1 =>
 bif !b1 then
  r35 [] false
 else
  R71 (c71 k p p1 p2 p3) fun l1 =>
  R72 (c72 k p p1 p2 p3 p2) fun l2 =>
  R90 (c90 k l1 l2 [PV.int .i64 no]) fun l3 =>
  bif !((l3).isEmpty) then
   r35 l3 true
  else none := by kernel_rfl
/-! 36 : impl.StepsTo -/
theorem n36 (k : Nat) (p p1 : Int) (p2 p3 : List PV) (no : Int) : c36 (k + 1) p p1 p2 p3 no =
 R49 (c49 k p p1 p2 p3 no) fun b1 =>
 bif !b1 then
  r36 0 false
 else
  R71 (c71 k p p1 p2 p3) fun l1 =>
  R72 (c72 k p p1 p2 p3 p2) fun l2 =>
  R91 (c91 k l1 l2) fun l3 =>
  (lookP l3 no).bind fun p4 =>
  (p4.atInt .i64 0).bind fun n1 =>
  bif decide (n1 < 0) then
   r36 0 false
  else r36 n1 true := by kernel_rfl
/-! 37 : impl.IsPath -/
theorem n37 (k : Nat) (p p1 : Int) (p2 p3 path : List PV) : c37 (k + 1) p p1 p2 p3 path =
 bif decide ((path.length : Int) < 1) then
  r37 false false
 else
  bif decide ((path.length : Int) > 200) then
   r37 false false
  else
   R57f92p (c57f92 k path p p1 p2 p3) fun b1 =>
   bif b1 then
    r37 false false
   else L37_1 k k path 1 p p1 p2 p3 := by kernel_rfl
theorem sL37_1 (k n : Nat) (path : List PV) (i n1 n11 : Int) (l l1 : List PV) : L37_1 k (n + 1) path i n1 n11 l l1 =
 bif decide (i < (path.length : Int)) then
  (lookP path (IntKind.i64.wrap (i - 1))).bind fun p1 =>
  (p1.atInt .i64 0).bind fun n2 =>
  (lookP path i).bind fun p2 =>
  (p2.atInt .i64 0).bind fun n3 =>
  R53 (c53 k n1 n11 l l1 n2) fun l2 =>
  R93 (c93 k l2 n3) fun b1 =>
  bif !b1 then
   r37 false true
  else L37_1 k n path (IntKind.i64.wrap (i + 1)) n1 n11 l l1
 else
  (lookP path 0).bind fun p3 =>
  (p3.atInt .i64 0).bind fun n4 =>
  R52 (c52 k n1 n11 l l1 n4) fun l3 =>
  R51 (c51 k n1 n11 l l1 l l3) fun b2 =>
  r37 b2 true := by kernel_rfl
/-! 38 : spec.DrawIsPath -/
theorem n38 (k : Nat) (code : List PV) : c38 (k + 1) code =
 R40 (c40 k code 0 0) fun l1 v1 v2 v3 v4 l2 l3 =>
 R63 (c63 k v3 v4 l2 l3 l1 v1 v2) fun l4 v5 v6 v7 =>
 R94 (c94 k v3 v4 l2 l3 v7) fun l5 b1 =>
 R54 (c54 k 5 l4 v5 v6) fun l6 v8 v9 v10 =>
 L38_1 k k l5.length v10 0 0 [] [] l6 v8 v9 v3 v4 l2 l3 l5 := by kernel_rfl
theorem sL38_1 (k n : Nat) (lLen : Nat) (n1 n11 n12 : Int) (l l1 l2 : List PV) (n13 n14 n15 n16 : Int) (l3 l4 xs : List PV) : L38_1 k (n + 1) lLen n1 n11 n12 l l1 l2 n13 n14 n15 n16 l3 l4 xs =
 bif decide (n1 > 0) then
  bif decide ((lLen : Int) > 0) then
   bif decide ((0 : Int) ≤ IntKind.i64.wrap ((lLen : Int) - 1)) && decide (IntKind.i64.wrap ((lLen : Int) - 1) < (lLen : Int)) then
    (xs[0 + ((IntKind.i64.wrap ((lLen : Int) - 1)).toNat)]?).bind fun p1 =>
    (p1.atInt .i64 0).bind fun n2 =>
    R18 (c18 k n15 n16 l3 l4 n2) fun l5 b1 =>
    R54 (c54 k (l5.length : Int) l2 n13 n14) fun l6 v1 v2 v3 =>
    (lookP l5 v3).bind fun p2 =>
    (p2.atInt .i64 0).bind fun n3 =>
    bif decide ((lLen + 1) * 8 ≤ LIM) && decide (lLen + 1 ≤ LIM) then
     L38_1 k n (lLen + 1) (IntKind.i64.wrap (n1 - 1)) n11 n12 l l1 l6 v1 v2 n15 n16 l3 l4 ((xs.take lLen) ++ [PV.int .i64 n3])
    else none
   else none
  else
   bif decide ((lLen : Int) > 0) then
    R55 (c55 k 5 l2 n13 n14) fun l7 v4 v5 b2 =>
    bif b2 then
     R54 (c54 k (lLen : Int) l7 v4 v5) fun l8 v6 v7 v8 =>
     R54 (c54 k 33 l8 v6 v7) fun l9 v9 v10 v11 =>
     bif decide ((0 : Int) ≤ v8) && decide (v8 < (lLen : Int)) then
      (xs[0 + v8.toNat]?).bind fun p3 =>
      r38 n15 n16 l3 l4 ((xs.set (0 + v8.toNat) (PV.int .i64 v11)).take lLen)
     else none
    else r38 n15 n16 l3 l4 (xs.take lLen)
   else r38 n15 n16 l3 l4 (xs.take lLen)
 else
  bif decide ((lLen : Int) > 0) then
   R55 (c55 k 5 l2 n13 n14) fun l10 v12 v13 b3 =>
   bif b3 then
    R54 (c54 k (lLen : Int) l10 v12 v13) fun l11 v14 v15 v16 =>
    R54 (c54 k 33 l11 v14 v15) fun l12 v17 v18 v19 =>
    bif decide ((0 : Int) ≤ v16) && decide (v16 < (lLen : Int)) then
     (xs[0 + v16.toNat]?).bind fun p4 =>
     r38 n15 n16 l3 l4 ((xs.set (0 + v16.toNat) (PV.int .i64 v19)).take lLen)
    else none
   else r38 n15 n16 l3 l4 (xs.take lLen)
  else r38 n15 n16 l3 l4 (xs.take lLen) := by kernel_rfl
/-! 39 : spec.IsPath -/
theorem n39 (k : Nat) (p p1 : Int) (p2 p3 path : List PV) : c39 (k + 1) p p1 p2 p3 path =
 R76 (c76 k p p1 p2 p3) fun b1 =>
 bif !b1 then
  r39 false false
 else
  R95 (c95 k (path.length : Int) 1 200) fun b2 =>
  bif !b2 then
   r39 false false
  else
   R83 (c83 k p p1 p2 p3) fun v1 =>
   R62 (c62 k path 0 (IntKind.i64.wrap (v1 - 1))) fun b3 =>
   bif !b3 then
    r39 false false
   else
    (lookP path 0).bind fun p4 =>
    (p4.atInt .i64 0).bind fun n1 =>
    R86 (c86 k p p1 p2 p3 p2) fun l1 =>
    R96 (c96 k l1 n1) fun b4 =>
    L39_1 k k path b4 1 p p1 p2 p3 := by kernel_rfl
theorem sL39_1 (k n : Nat) (path : List PV) (is1 : Bool) (i n1 n11 : Int) (l l1 : List PV) : L39_1 k (n + 1) path is1 i n1 n11 l l1 =
 bif decide (i < (path.length : Int)) then
  bif is1 then
   (lookP path (IntKind.i64.wrap (i - 1))).bind fun p1 =>
   (p1.atInt .i64 0).bind fun n2 =>
   (lookP path i).bind fun p2 =>
   (p2.atInt .i64 0).bind fun n3 =>
   R65 (c65 k n1 n11 l l1 n2) fun l2 =>
   R96 (c96 k l2 n3) fun b1 =>
   L39_1 k n path b1 (IntKind.i64.wrap (i + 1)) n1 n11 l l1
  else L39_1 k n path false (IntKind.i64.wrap (i + 1)) n1 n11 l l1
 else r39 is1 true := by kernel_rfl
/-! 40 : spec.l1Cur).small -/
theorem n40 (k : Nat) (l : List PV) (n1 n11 : Int) : c40 (k + 1) l n1 n11 =
 R97 (c97 k [PV.int .i64 1, PV.int .i64 2, PV.int .i64 2, PV.int .i64 2, PV.int .i64 3, PV.int .i64 4] l n1 n11) fun l1 v1 v2 v3 =>
 bif decide (v3 < 3) then
  bif !(v3 == 0) then
   R54 (c54 k (IntKind.i64.wrap ((6 : Int).tdiv v3)) l1 v1 v2) fun l2 v4 v5 v6 =>
   L40_1 k k v3 (IntKind.i64.wrap (1 + v6)) l2 v4 v5 0 0 [] []
  else none
 else L40_1 k k v3 1 l1 v1 v2 0 0 [] [] := by kernel_rfl
theorem sL40_1 (k n : Nat) (wide vars : Int) (l : List PV) (n1 n11 n12 n13 : Int) (l1 l2 : List PV) : L40_1 k (n + 1) wide vars l n1 n11 n12 n13 l1 l2 =
 bif decide (IntKind.i64.wrap (wide * vars) > 5) then
  L40_1 k n wide (IntKind.i64.wrap (vars - 1)) l n1 n11 n12 n13 l1 l2
 else
  bif decide (vars > 4) then
   L40_1 k n wide (IntKind.i64.wrap (vars - 1)) l n1 n11 n12 n13 l1 l2
  else
   R98 (c98 k wide vars l n1 n11) fun l3 v1 v2 v3 v4 l4 l5 =>
   R54 (c54 k 40 l3 v1 v2) fun l6 v5 v6 v7 =>
   bif (v7 == 0) then
    R97 (c97 k [PV.int .i64 0, PV.int .i64 4, PV.int .i64 5] l6 v5 v6) fun l7 v8 v9 v10 =>
    r40 l7 v8 v9 v3 v10 l4 (l5.take l5.length)
   else
    bif (v7 == 1) then
     r40 l6 v5 v6 v3 v4 l4 []
    else
     bif (v7 == 2) then
      bif decide ((0 : Int) < (l5.length : Int)) then
       (l5[0]?).bind fun p1 =>
       (putPart p1 2 0 (PV.row 2 0 [PV.agg [.int .i64 1, .int .u64 0]]) 0).bind fun p2 =>
       r40 l6 v5 v6 v3 v4 l4 ((l5.set 0 p2).take l5.length)
      else none
     else
      bif (v7 == 3) then
       bif decide ((0 : Int) < (l5.length : Int)) then
        (l5[0]?).bind fun p3 =>
        (p3.atRow 2 1).bind fun l8 =>
        bif decide ((l8.length + 1) * 32 ≤ LIM) && decide (l8.length + 1 ≤ LIM) then
         bif decide ((0 : Int) < (l5.length : Int)) then
          (l5[0]?).bind fun p4 =>
          bif decide (l8.length + 1 ≤ (l8 ++ [PV.agg [.int .i64 0, .row 2 0 [PV.agg [.int .i64 1, .int .u64 0]]]]).length) then
           (putPart p4 2 1 (PV.row 2 0 ((l8 ++ [PV.agg [.int .i64 0, .row 2 0 [PV.agg [.int .i64 1, .int .u64 0]]]]).take (l8.length + 1))) 0).bind fun p5 =>
           r40 l6 v5 v6 v3 v4 l4 ((l5.set 0 p5).take l5.length)
          else none
         else none
        else none
       else none
      else r40 l6 v5 v6 v3 v4 l4 (l5.take l5.length) := by kernel_rfl
/-! 49 : impl.isNo -/
theorem n49 (k : Nat) (p p1 : Int) (p2 p3 : List PV) (no : Int) : c49 (k + 1) p p1 p2 p3 no =
 R66 (c66 k p p1 p2 p3) fun b1 =>
 bif b1 then
  bif decide (no ≥ 0) then
   R68 (c68 k p p1 p2 p3) fun v1 =>
   r49 (decide (no < v1))
  else r49 false
 else r49 false := by kernel_rfl
/-! 50 : impl.Program).isCondition -/
theorem n50 (k : Nat) (p p1 : Int) (p2 p3 t : List PV) : c50 (k + 1) p p1 p2 p3 t =
 R106 (c106 k p p1 t 2) fun b1 =>
 r50 b1 := by kernel_rfl
/-! 51 : impl.Program).holds -/
theorem n51 (k : Nat) (p p1 : Int) (p2 p3 t qs : List PV) : c51 (k + 1) p p1 p2 p3 t qs =
 R107 (c107 k p t qs) fun v1 =>
 r51 (v1 == 1) := by kernel_rfl
/-! 52 : impl.Program).stateOf -/
theorem n52 (k : Nat) (p p1 : Int) (p2 p3 : List PV) (no : Int) : c52 (k + 1) p p1 p2 p3 no =
 L52_1 k k no 0 p1 0 p p1 p2 p3 [] := by kernel_rfl
theorem sL52_1 (k n : Nat) (no : Int) (outLen : Nat) (t9 t10 n1 n11 : Int) (l l1 xs : List PV) : L52_1 k (n + 1) no outLen t9 t10 n1 n11 l l1 xs =
 bif decide (t10 < t9) then
  bif !decide (IntKind.i64.wrap (n1 * t10) < 0) then
   R108 (c108 k n1) fun v1 =>
   bif decide ((outLen + 1) * 8 ≤ LIM) && decide (outLen + 1 ≤ LIM) then
    L52_1 k n no (outLen + 1) t9 (IntKind.i64.wrap (t10 + 1)) n1 n11 l l1 ((xs.take outLen) ++ [PV.int .u64 (bitsOp .and .u64 (shrI .u64 (IntKind.u64.wrap no) (IntKind.i64.wrap (n1 * t10))) v1)])
   else none
  else none
 else r52 (xs.take outLen) := by kernel_rfl
/-! 53 : impl.Program).nextOf -/
theorem n53 (k : Nat) (p p1 : Int) (p2 p3 : List PV) (no : Int) : c53 (k + 1) p p1 p2 p3 no =
 R52 (c52 k p p1 p2 p3 no) fun l1 =>
 L53_1 k k no l1 0 p3 (p3.length : Int) 0 p p1 p2 p3 [] := by kernel_rfl
theorem sL53_1 (k n : Nat) (no : Int) (qs : List PV) (outLen : Nat) (t14 : List PV) (t15 t16 n1 n11 : Int) (l l1 xs : List PV) : L53_1 k (n + 1) no qs outLen t14 t15 t16 n1 n11 l l1 xs =
 bif decide (t16 < t15) then
  (lookP t14 t16).bind fun p1 =>
  bif p1.shp 2 then
   (p1.atRow 2 0).bind fun l2 =>
   (p1.atRow 2 1).bind fun l3 =>
   R51 (c51 k n1 n11 l l1 l2 qs) fun b1 =>
   bif b1 then
    R110 (c110 k n1 n11 l l1 l2 l3 qs) fun l4 =>
    R109 (c109 k n1 n11 l l1 l4) fun v1 =>
    bif decide ((outLen + 1) * 8 ≤ LIM) && decide (outLen + 1 ≤ LIM) then
     L53_1 k n no qs (outLen + 1) t14 t15 (IntKind.i64.wrap (t16 + 1)) n1 n11 l l1 ((xs.take outLen) ++ [PV.int .i64 v1])
    else none
   else L53_1 k n no qs outLen t14 t15 (IntKind.i64.wrap (t16 + 1)) n1 n11 l l1 xs
  else none
 else
  bif ((outLen : Int) == 0) then
   r53 [PV.int .i64 no]
  else
   bif decide (outLen ≤ LIM) then
    (intsOf (xs.take outLen)).bind fun zs1 =>
    bif decide (outLen ≤ LIM) then
     (intsOf ((((sortI zs1).map (PV.int .i64)) ++ (xs.drop outLen)).take outLen)).bind fun zs2 =>
     r53 (((((compI zs2).map (PV.int .i64)) ++ (List.replicate (outLen - (compI zs2).length) (PV.int .i64 0))) ++ ((((sortI zs1).map (PV.int .i64)) ++ (xs.drop outLen)).drop outLen)).take ((compI zs2).length))
    else none
   else none := by kernel_rfl
/-! 54 : spec.l1Cur).pick -/
theorem n54 (k : Nat) (n1 : Int) (l : List PV) (n11 n12 : Int) : c54 (k + 1) n1 l n11 n12 =
 bif decide (n1 ≤ 1) then
  r54 l n11 n12 0
 else
  R113 (c113 k l n11 n12) fun l1 v1 v2 v3 =>
  bif decide (n1 > 200) then
   R113 (c113 k l1 v1 v2) fun l2 v4 v5 v6 =>
   bif !(n1 == 0) then
    r54 l2 v4 v5 ((IntKind.i64.wrap ((IntKind.i64.wrap (v3 * 256)) + v6)).tmod n1)
   else none
  else
   bif !(n1 == 0) then
    r54 l1 v1 v2 (v3.tmod n1)
   else none := by kernel_rfl
/-! 55 : spec.l1Cur).one -/
theorem n55 (k : Nat) (n1 : Int) (l : List PV) (n11 n12 : Int) : c55 (k + 1) n1 l n11 n12 =
 R54 (c54 k n1 l n11 n12) fun l1 v1 v2 v3 =>
 r55 l1 v1 v2 (v3 == 0) := by kernel_rfl
/-! 57 : slices.ContainsFunc[[]int,int] -/
theorem n57f92 (k : Nat) (qs : List PV) (n1 n11 : Int) (l l1 : List PV) : c57f92 (k + 1) qs n1 n11 l l1 =
 R114f92p (c114f92 k qs n1 n11 l l1) fun v1 =>
 r57f92 (decide (v1 ≥ 0)) := by kernel_rfl
theorem n57f140 (k : Nat) (qs : List PV) (n1 : Int) : c57f140 (k + 1) qs n1 =
 R114f140 (c114f140 k qs n1) fun v1 v2 =>
 r57f140 v1 (decide (v2 ≥ 0)) := by kernel_rfl
/-! 62 : spec.l1All -/
theorem n62 (k : Nat) (l : List PV) (lo hi : Int) : c62 (k + 1) l lo hi =
 L62_1 k k lo hi l (l.length : Int) 0 := by kernel_rfl
theorem sL62_1 (k n : Nat) (lo hi : Int) (t9 : List PV) (t10 t11 : Int) : L62_1 k (n + 1) lo hi t9 t10 t11 =
 bif decide (t11 < t10) then
  (lookP t9 t11).bind fun p1 =>
  (p1.atInt .i64 0).bind fun n1 =>
  R95 (c95 k n1 lo hi) fun b1 =>
  bif !b1 then
   r62 false
  else L62_1 k n lo hi t9 t10 (IntKind.i64.wrap (t11 + 1))
 else r62 true := by kernel_rfl
/-! 63 : spec.l1Cur).stateNo -/
theorem n63 (k : Nat) (p p1 : Int) (p2 p3 l : List PV) (n1 n11 : Int) : c63 (k + 1) p p1 p2 p3 l n1 n11 =
 R55 (c55 k 30 l n1 n11) fun l1 v1 v2 b1 =>
 bif b1 then
  R97 (c97 k [PV.int .i64 (-1), PV.int .i64 32, PV.int .i64 16] l1 v1 v2) fun l2 v3 v4 v5 =>
  r63 l2 v3 v4 v5
 else
  R31 (c31 k p p1 p2 p3) fun l3 b2 =>
  bif b2 then
   bif decide ((l3.length : Int) > 0) then
    R55 (c55 k 4 l1 v1 v2) fun l4 v6 v7 b3 =>
    bif !b3 then
     R54 (c54 k (l3.length : Int) l4 v6 v7) fun l5 v8 v9 v10 =>
     (lookP l3 v10).bind fun p4 =>
     (p4.atInt .i64 0).bind fun n2 =>
     r63 l5 v8 v9 n2
    else
     R54 (c54 k 32 l4 v6 v7) fun l6 v11 v12 v13 =>
     r63 l6 v11 v12 v13
   else
    R54 (c54 k 32 l1 v1 v2) fun l7 v14 v15 v16 =>
    r63 l7 v14 v15 v16
  else
   R54 (c54 k 32 l1 v1 v2) fun l8 v17 v18 v19 =>
   r63 l8 v17 v18 v19 := by kernel_rfl
/-! 64 : spec.l8Is -/
theorem n64 (k : Nat) (p p1 : Int) (p2 p3 : List PV) (no : Int) : c64 (k + 1) p p1 p2 p3 no =
 R76 (c76 k p p1 p2 p3) fun b1 =>
 bif b1 then
  R83 (c83 k p p1 p2 p3) fun v1 =>
  R95 (c95 k no 0 (IntKind.i64.wrap (v1 - 1))) fun b2 =>
  r64 b2
 else r64 false := by kernel_rfl
/-! 65 : spec.l8Next -/
theorem n65 (k : Nat) (p p1 : Int) (p2 p3 : List PV) (no : Int) : c65 (k + 1) p p1 p2 p3 no =
 R80 (c80 k p p1 p2 p3 no) fun l1 =>
 R89 (c89 k p p1 p2 p3 l1) fun l2 =>
 L65_1 k k no l1 0 l2 (l2.length : Int) 0 p p1 p2 p3 [] := by kernel_rfl
theorem sL65_1 (k n : Nat) (no : Int) (qs : List PV) (outLen : Nat) (t14 : List PV) (t15 t16 n1 n11 : Int) (l l1 xs : List PV) : L65_1 k (n + 1) no qs outLen t14 t15 t16 n1 n11 l l1 xs =
 bif decide (t16 < t15) then
  (lookP t14 t16).bind fun p1 =>
  (p1.atInt .i64 0).bind fun n2 =>
  R117 (c117 k n1 n11 l l1 qs n2) fun l2 =>
  R116 (c116 k n1 n11 l l1 l2) fun v1 =>
  R81 (c81 k (xs.take outLen) v1) fun l3 =>
  L65_1 k n no qs l3.length t14 t15 (IntKind.i64.wrap (t16 + 1)) n1 n11 l l1 l3
 else
  bif ((outLen : Int) == 0) then
   r65 [PV.int .i64 no]
  else r65 (xs.take outLen) := by kernel_rfl
/-! 66 : impl.isSmall -/
theorem n66 (k : Nat) (p p1 : Int) (p2 p3 : List PV) : c66 (k + 1) p p1 p2 p3 =
 R99 (c99 k p p1 p2 p3) fun b1 =>
 bif b1 then
  r66 (decide (IntKind.i64.wrap (p * p1) ≤ 5))
 else r66 false := by kernel_rfl
/-! 68 : impl.Program).states -/
theorem n68 (k : Nat) (p p1 : Int) (p2 p3 : List PV) : c68 (k + 1) p p1 p2 p3 =
 bif !decide (IntKind.i64.wrap (p * p1) < 0) then
  r68 (shlI .i64 1 (IntKind.i64.wrap (p * p1)))
 else none := by kernel_rfl
/-! 69 : impl.reachedFrom -/
theorem n69 (k : Nat) (g some1 : List PV) : c69 (k + 1) g some1 =
 R91 (c91 k g some1) fun l1 =>
 L69_1 k k 0 l1 (l1.length : Int) 0 [] := by kernel_rfl
theorem sL69_1 (k n : Nat) (outLen : Nat) (t11 : List PV) (t12 t13 : Int) (xs : List PV) : L69_1 k (n + 1) outLen t11 t12 t13 xs =
 bif decide (t13 < t12) then
  (lookP t11 t13).bind fun p1 =>
  (p1.atInt .i64 0).bind fun n1 =>
  bif decide (n1 ≥ 0) then
   bif decide ((outLen + 1) * 8 ≤ LIM) && decide (outLen + 1 ≤ LIM) then
    L69_1 k n (outLen + 1) t11 t12 (IntKind.i64.wrap (t13 + 1)) ((xs.take outLen) ++ [PV.int .i64 t13])
   else none
  else L69_1 k n outLen t11 t12 (IntKind.i64.wrap (t13 + 1)) xs
 else r69 (xs.take outLen) := by kernel_rfl
end Go.Proofs.YtcamhbchcjpjiaaGreat
/- Normal forms: printed by nf.py. -/
set_option linter.unusedVariables false
set_option maxRecDepth 100000
namespace Go.Proofs.YtcamhbchcjpjiaaGreat
open Go.Dp
/-! 70 : impl.turned -/
theorem n70 (k : Nat) (g : List PV) : c70 (k + 1) g =
 bif ((g.length : Int) == (g.length : Int)) && decide ((0 : Int) ≤ (g.length : Int)) && decide (g.length * 24 ≤ LIM) && decide (g.length ≤ LIM) then
  L70_1 k k g.length g (g.length : Int) 0 (List.replicate g.length (PV.row 0 2 []))
 else none := by kernel_rfl
theorem sL70_1 (k n : Nat) (outLen : Nat) (t11 : List PV) (t12 t13 : Int) (xs : List PV) : L70_1 k (n + 1) outLen t11 t12 t13 xs =
 bif decide (t13 < t12) then
  (lookP t11 t13).bind fun p1 =>
  (p1.atRow 0 0).bind fun l1 =>
  L70_2 k n k outLen t13 t11 t12 t13 l1 (l1.length : Int) 0 xs
 else r70 (xs.take outLen) := by kernel_rfl
theorem sL70_2 (k n1 n : Nat) (outLen : Nat) (v : Int) (t11 : List PV) (t12 t13 : Int) (t18 : List PV) (t19 t20 : Int) (xs : List PV) : L70_2 k n1 (n + 1) outLen v t11 t12 t13 t18 t19 t20 xs =
 bif decide (t20 < t19) then
  (lookP t18 t20).bind fun p1 =>
  (p1.atInt .i64 0).bind fun n2 =>
  bif decide ((0 : Int) ≤ n2) && decide (n2 < (outLen : Int)) then
   (xs[0 + n2.toNat]?).bind fun p2 =>
   (p2.atRow 0 0).bind fun l1 =>
   bif decide ((l1.length + 1) * 8 ≤ LIM) && decide (l1.length + 1 ≤ LIM) then
    bif decide ((0 : Int) ≤ n2) && decide (n2 < (outLen : Int)) then
     (xs[0 + n2.toNat]?).bind fun p3 =>
     bif ((some (0 + n2.toNat) : Option Nat) == some (0 + n2.toNat)) && decide (l1.length + 1 ≤ (l1 ++ [PV.int .i64 v]).length) then
      L70_2 k n1 n outLen v t11 t12 t13 t18 t19 (IntKind.i64.wrap (t20 + 1)) (xs.set (0 + n2.toNat) (PV.row 0 0 ((l1 ++ [PV.int .i64 v]).take (l1.length + 1))))
     else none
    else none
   else none
  else none
 else L70_1 k n1 outLen t11 t12 (IntKind.i64.wrap (t13 + 1)) xs := by kernel_rfl
/-! 71 : impl.Program).graph -/
theorem n71 (k : Nat) (p p1 : Int) (p2 p3 : List PV) : c71 (k + 1) p p1 p2 p3 =
 R68 (c68 k p p1 p2 p3) fun v1 =>
 L71_1 k k 0 v1 0 p p1 p2 p3 [] := by kernel_rfl
theorem sL71_1 (k n : Nat) (outLen : Nat) (t7 t8 n1 n11 : Int) (l l1 xs : List PV) : L71_1 k (n + 1) outLen t7 t8 n1 n11 l l1 xs =
 bif decide (t8 < t7) then
  R53 (c53 k n1 n11 l l1 t8) fun l2 =>
  bif decide ((outLen + 1) * 24 ≤ LIM) && decide (outLen + 1 ≤ LIM) then
   L71_1 k n (outLen + 1) t7 (IntKind.i64.wrap (t8 + 1)) n1 n11 l l1 ((xs.take outLen) ++ [PV.row 0 0 l2])
  else none
 else r71 (xs.take outLen) := by kernel_rfl
/-! 72 : impl.Program).where -/
theorem n72 (k : Nat) (p p1 : Int) (p2 p3 t : List PV) : c72 (k + 1) p p1 p2 p3 t =
 R68 (c68 k p p1 p2 p3) fun v1 =>
 L72_1 k k t 0 v1 0 p p1 p2 p3 [] := by kernel_rfl
theorem sL72_1 (k n : Nat) (t : List PV) (outLen : Nat) (t9 t10 n1 n11 : Int) (l l1 xs : List PV) : L72_1 k (n + 1) t outLen t9 t10 n1 n11 l l1 xs =
 bif decide (t10 < t9) then
  R52 (c52 k n1 n11 l l1 t10) fun l2 =>
  R51 (c51 k n1 n11 l l1 t l2) fun b1 =>
  bif b1 then
   bif decide ((outLen + 1) * 8 ≤ LIM) && decide (outLen + 1 ≤ LIM) then
    L72_1 k n t (outLen + 1) t9 (IntKind.i64.wrap (t10 + 1)) n1 n11 l l1 ((xs.take outLen) ++ [PV.int .i64 t10])
   else none
  else L72_1 k n t outLen t9 (IntKind.i64.wrap (t10 + 1)) n1 n11 l l1 xs
 else r72 (xs.take outLen) := by kernel_rfl
/-! 73 : impl.Program).reach -/
theorem n73 (k : Nat) (p p1 : Int) (p2 p3 : List PV) : c73 (k + 1) p p1 p2 p3 =
 R71 (c71 k p p1 p2 p3) fun l1 =>
 R72 (c72 k p p1 p2 p3 p2) fun l2 =>
 R69 (c69 k l1 l2) fun l3 =>
 r73 l3 := by kernel_rfl
/-! 74 : spec.l1Cur).asked -/
theorem n74 (k : Nat) (wide vars deep : Int) (l : List PV) (n1 n11 : Int) : c74 (k + 1) wide vars deep l n1 n11 =
 R55 (c55 k 20 l n1 n11) fun l1 v1 v2 b1 =>
 bif b1 then
  R54 (c54 k 2 l1 v1 v2) fun l2 v3 v4 v5 =>
  r74 l2 v3 v4 [PV.agg [.int .i64 20, .int .u64 (IntKind.u64.wrap v5)]]
 else
  bif decide (deep > 0) then
   R55 (c55 k 4 l1 v1 v2) fun l3 v6 v7 b2 =>
   bif b2 then
    R74 (c74 k wide vars (IntKind.i64.wrap (deep - 1)) l3 v6 v7) fun l4 v8 v9 l5 =>
    bif decide ((l5.length + 1) * 16 ≤ LIM) && decide (l5.length + 1 ≤ LIM) then
     r74 l4 v8 v9 (((l5.take l5.length) ++ [PV.agg [.int .i64 19, .int .u64 0]]).take (l5.length + 1))
    else none
   else
    bif decide (deep > 0) then
     R55 (c55 k 2 l3 v6 v7) fun l6 v10 v11 b3 =>
     bif b3 then
      R74 (c74 k wide vars (IntKind.i64.wrap (deep - 1)) l6 v10 v11) fun l7 v12 v13 l8 =>
      R74 (c74 k wide vars (IntKind.i64.wrap (deep - 1)) l7 v12 v13) fun l9 v14 v15 l10 =>
      bif decide ((l8.length + ((l10.take l10.length).length)) * 16 ≤ LIM) && decide (l8.length + ((l10.take l10.length).length) ≤ LIM) then
       R97 (c97 k [PV.int .i64 17, PV.int .i64 18] l9 v14 v15) fun l11 v16 v17 v18 =>
       bif decide (((l8.length + ((l10.take l10.length).length)) + 1) * 16 ≤ LIM) && decide ((l8.length + ((l10.take l10.length).length)) + 1 ≤ LIM) then
        r74 l11 v16 v17 (((((l8.take l8.length) ++ (l10.take l10.length)).take (l8.length + ((l10.take l10.length).length))) ++ [PV.agg [.int .i64 v18, .int .u64 0]]).take ((l8.length + ((l10.take l10.length).length)) + 1))
       else none
      else none
     else
      R118 (c118 k wide vars 1 l6 v10 v11) fun l12 v19 v20 l13 =>
      R54 (c54 k 2 l12 v19 v20) fun l14 v21 v22 v23 =>
      R118 (c118 k wide vars v23 l14 v21 v22) fun l15 v24 v25 l16 =>
      bif decide ((l13.length + ((l16.take l16.length).length)) * 16 ≤ LIM) && decide (l13.length + ((l16.take l16.length).length) ≤ LIM) then
       R97 (c97 k [PV.int .i64 14, PV.int .i64 15, PV.int .i64 15, PV.int .i64 16] l15 v24 v25) fun l17 v26 v27 v28 =>
       bif decide (((l13.length + ((l16.take l16.length).length)) + 1) * 16 ≤ LIM) && decide ((l13.length + ((l16.take l16.length).length)) + 1 ≤ LIM) then
        r74 l17 v26 v27 (((((l13.take l13.length) ++ (l16.take l16.length)).take (l13.length + ((l16.take l16.length).length))) ++ [PV.agg [.int .i64 v28, .int .u64 0]]).take ((l13.length + ((l16.take l16.length).length)) + 1))
       else none
      else none
    else
     R118 (c118 k wide vars 1 l3 v6 v7) fun l18 v29 v30 l19 =>
     R54 (c54 k 2 l18 v29 v30) fun l20 v31 v32 v33 =>
     R118 (c118 k wide vars v33 l20 v31 v32) fun l21 v34 v35 l22 =>
     bif decide ((l19.length + ((l22.take l22.length).length)) * 16 ≤ LIM) && decide (l19.length + ((l22.take l22.length).length) ≤ LIM) then
      R97 (c97 k [PV.int .i64 14, PV.int .i64 15, PV.int .i64 15, PV.int .i64 16] l21 v34 v35) fun l23 v36 v37 v38 =>
      bif decide (((l19.length + ((l22.take l22.length).length)) + 1) * 16 ≤ LIM) && decide ((l19.length + ((l22.take l22.length).length)) + 1 ≤ LIM) then
       r74 l23 v36 v37 (((((l19.take l19.length) ++ (l22.take l22.length)).take (l19.length + ((l22.take l22.length).length))) ++ [PV.agg [.int .i64 v38, .int .u64 0]]).take ((l19.length + ((l22.take l22.length).length)) + 1))
      else none
     else none
  else
   bif decide (deep > 0) then
    R55 (c55 k 2 l1 v1 v2) fun l24 v39 v40 b4 =>
    bif b4 then
     R74 (c74 k wide vars (IntKind.i64.wrap (deep - 1)) l24 v39 v40) fun l25 v41 v42 l26 =>
     R74 (c74 k wide vars (IntKind.i64.wrap (deep - 1)) l25 v41 v42) fun l27 v43 v44 l28 =>
     bif decide ((l26.length + ((l28.take l28.length).length)) * 16 ≤ LIM) && decide (l26.length + ((l28.take l28.length).length) ≤ LIM) then
      R97 (c97 k [PV.int .i64 17, PV.int .i64 18] l27 v43 v44) fun l29 v45 v46 v47 =>
      bif decide (((l26.length + ((l28.take l28.length).length)) + 1) * 16 ≤ LIM) && decide ((l26.length + ((l28.take l28.length).length)) + 1 ≤ LIM) then
       r74 l29 v45 v46 (((((l26.take l26.length) ++ (l28.take l28.length)).take (l26.length + ((l28.take l28.length).length))) ++ [PV.agg [.int .i64 v47, .int .u64 0]]).take ((l26.length + ((l28.take l28.length).length)) + 1))
      else none
     else none
    else
     R118 (c118 k wide vars 1 l24 v39 v40) fun l30 v48 v49 l31 =>
     R54 (c54 k 2 l30 v48 v49) fun l32 v50 v51 v52 =>
     R118 (c118 k wide vars v52 l32 v50 v51) fun l33 v53 v54 l34 =>
     bif decide ((l31.length + ((l34.take l34.length).length)) * 16 ≤ LIM) && decide (l31.length + ((l34.take l34.length).length) ≤ LIM) then
      R97 (c97 k [PV.int .i64 14, PV.int .i64 15, PV.int .i64 15, PV.int .i64 16] l33 v53 v54) fun l35 v55 v56 v57 =>
      bif decide (((l31.length + ((l34.take l34.length).length)) + 1) * 16 ≤ LIM) && decide ((l31.length + ((l34.take l34.length).length)) + 1 ≤ LIM) then
       r74 l35 v55 v56 (((((l31.take l31.length) ++ (l34.take l34.length)).take (l31.length + ((l34.take l34.length).length))) ++ [PV.agg [.int .i64 v57, .int .u64 0]]).take ((l31.length + ((l34.take l34.length).length)) + 1))
      else none
     else none
   else
    R118 (c118 k wide vars 1 l1 v1 v2) fun l36 v58 v59 l37 =>
    R54 (c54 k 2 l36 v58 v59) fun l38 v60 v61 v62 =>
    R118 (c118 k wide vars v62 l38 v60 v61) fun l39 v63 v64 l40 =>
    bif decide ((l37.length + ((l40.take l40.length).length)) * 16 ≤ LIM) && decide (l37.length + ((l40.take l40.length).length) ≤ LIM) then
     R97 (c97 k [PV.int .i64 14, PV.int .i64 15, PV.int .i64 15, PV.int .i64 16] l39 v63 v64) fun l41 v65 v66 v67 =>
     bif decide (((l37.length + ((l40.take l40.length).length)) + 1) * 16 ≤ LIM) && decide ((l37.length + ((l40.take l40.length).length)) + 1 ≤ LIM) then
      r74 l41 v65 v66 (((((l37.take l37.length) ++ (l40.take l40.length)).take (l37.length + ((l40.take l40.length).length))) ++ [PV.agg [.int .i64 v67, .int .u64 0]]).take ((l37.length + ((l40.take l40.length).length)) + 1))
     else none
    else none := by kernel_rfl
/-! 76 : spec.l7Small -/
theorem n76 (k : Nat) (p p1 : Int) (p2 p3 : List PV) : c76 (k + 1) p p1 p2 p3 =
 R103 (c103 k p p1 p2 p3) fun b1 =>
 bif b1 then
  r76 (decide (IntKind.i64.wrap (p * p1) ≤ 5))
 else r76 false := by kernel_rfl
/-! 77 : spec.l7Asks -/
theorem n77 (k : Nat) (p p1 : Int) (p2 p3 t : List PV) : c77 (k + 1) p p1 p2 p3 t =
 R119 (c119 k p p1 t) fun v1 =>
 r77 (v1 == 2) := by kernel_rfl
/-! 78 : spec.l8Reach -/
theorem n78 (k : Nat) (p p1 : Int) (p2 p3 : List PV) : c78 (k + 1) p p1 p2 p3 =
 R86 (c86 k p p1 p2 p3 p2) fun l1 =>
 L78_1 k k l1 p p1 p2 p3 := by kernel_rfl
theorem sL78_1 (k n : Nat) (out : List PV) (n1 n11 : Int) (l l1 : List PV) : L78_1 k (n + 1) out n1 n11 l l1 =
 R121 (c121 k n1 n11 l l1 out) fun l2 =>
 R120 (c120 k out l2) fun l3 =>
 bif ((l3.length : Int) == (out.length : Int)) then
  r78 out
 else L78_1 k n l3 n1 n11 l l1 := by kernel_rfl
/-! 79 : spec.l7Holds -/
theorem n79 (k : Nat) (p p1 : Int) (p2 p3 t qs : List PV) : c79 (k + 1) p p1 p2 p3 t qs =
 R122 (c122 k p t (IntKind.i64.wrap ((t.length : Int) - 1)) qs) fun v1 =>
 r79 (v1 == 1) := by kernel_rfl
/-! 80 : spec.l7Of -/
theorem n80 (k : Nat) (p p1 : Int) (p2 p3 : List PV) (no : Int) : c80 (k + 1) p p1 p2 p3 no =
 L80_1 k k no 0 0 p p1 p2 p3 [] := by kernel_rfl
theorem sL80_1 (k n : Nat) (no : Int) (outLen : Nat) (v n1 n11 : Int) (l l1 xs : List PV) : L80_1 k (n + 1) no outLen v n1 n11 l l1 xs =
 bif decide (v < n11) then
  bif !decide (IntKind.u64.wrap (IntKind.i64.wrap (v * n1)) < 0) then
   bif !decide (IntKind.u64.wrap n1 < 0) then
    bif decide ((outLen + 1) * 8 ≤ LIM) && decide (outLen + 1 ≤ LIM) then
     L80_1 k n no (outLen + 1) (IntKind.i64.wrap (v + 1)) n1 n11 l l1 ((xs.take outLen) ++ [PV.int .u64 (IntKind.u64.wrap (bitsOp .and .i64 (shrI .i64 no (IntKind.u64.wrap (IntKind.i64.wrap (v * n1)))) (IntKind.i64.wrap ((shlI .i64 1 (IntKind.u64.wrap n1)) - 1))))])
    else none
   else none
  else none
 else r80 (xs.take outLen) := by kernel_rfl
/-! 81 : spec.l1Put -/
theorem n81 (k : Nat) (l : List PV) (n1 : Int) : c81 (k + 1) l n1 =
 L81_1 k k l.length n1 0 l := by kernel_rfl
theorem sL81_1 (k n : Nat) (lLen : Nat) (n1 k1 : Int) (xs : List PV) : L81_1 k (n + 1) lLen n1 k1 xs =
 bif decide (k1 < (lLen : Int)) then
  bif decide ((0 : Int) ≤ k1) && decide (k1 < (lLen : Int)) then
   (xs[0 + k1.toNat]?).bind fun p1 =>
   (p1.atInt .i64 0).bind fun n2 =>
   bif decide (n2 < n1) then
    L81_1 k n lLen n1 (IntKind.i64.wrap (k1 + 1)) xs
   else
    bif decide (k1 < (lLen : Int)) then
     bif decide ((0 : Int) ≤ k1) && decide (k1 < (lLen : Int)) then
      (xs[0 + k1.toNat]?).bind fun p2 =>
      (p2.atInt .i64 0).bind fun n3 =>
      bif (n3 == n1) then
       r81 (xs.take lLen)
      else
       bif decide ((0 : Int) ≤ k1) && decide (k1 ≤ (lLen : Int)) then
        bif decide ((0 + ((xs.take k1.toNat).length)) * 8 ≤ LIM) && decide (0 + ((xs.take k1.toNat).length) ≤ LIM) then
         bif decide (((0 + ((xs.take k1.toNat).length)) + 1) * 8 ≤ LIM) && decide ((0 + ((xs.take k1.toNat).length)) + 1 ≤ LIM) then
          bif decide ((0 : Int) ≤ k1) && decide (k1 ≤ (lLen : Int)) && decide ((lLen : Int) ≤ (lLen : Int)) then
           bif decide ((((0 + ((xs.take k1.toNat).length)) + 1) + (((xs.drop (0 + k1.toNat)).take (lLen - k1.toNat)).length)) * 8 ≤ LIM) && decide (((0 + ((xs.take k1.toNat).length)) + 1) + (((xs.drop (0 + k1.toNat)).take (lLen - k1.toNat)).length) ≤ LIM) then
            r81 (((((([] ++ (xs.take k1.toNat)).take (0 + ((xs.take k1.toNat).length))) ++ [PV.int .i64 n1]).take ((0 + ((xs.take k1.toNat).length)) + 1)) ++ ((xs.drop (0 + k1.toNat)).take (lLen - k1.toNat))).take (((0 + ((xs.take k1.toNat).length)) + 1) + (((xs.drop (0 + k1.toNat)).take (lLen - k1.toNat)).length)))
           else none
          else none
         else none
        else none
       else none
     else none
    else
     bif decide ((0 : Int) ≤ k1) && decide (k1 ≤ (lLen : Int)) then
      bif decide ((0 + ((xs.take k1.toNat).length)) * 8 ≤ LIM) && decide (0 + ((xs.take k1.toNat).length) ≤ LIM) then
       bif decide (((0 + ((xs.take k1.toNat).length)) + 1) * 8 ≤ LIM) && decide ((0 + ((xs.take k1.toNat).length)) + 1 ≤ LIM) then
        bif decide ((0 : Int) ≤ k1) && decide (k1 ≤ (lLen : Int)) && decide ((lLen : Int) ≤ (lLen : Int)) then
         bif decide ((((0 + ((xs.take k1.toNat).length)) + 1) + (((xs.drop (0 + k1.toNat)).take (lLen - k1.toNat)).length)) * 8 ≤ LIM) && decide (((0 + ((xs.take k1.toNat).length)) + 1) + (((xs.drop (0 + k1.toNat)).take (lLen - k1.toNat)).length) ≤ LIM) then
          r81 (((((([] ++ (xs.take k1.toNat)).take (0 + ((xs.take k1.toNat).length))) ++ [PV.int .i64 n1]).take ((0 + ((xs.take k1.toNat).length)) + 1)) ++ ((xs.drop (0 + k1.toNat)).take (lLen - k1.toNat))).take (((0 + ((xs.take k1.toNat).length)) + 1) + (((xs.drop (0 + k1.toNat)).take (lLen - k1.toNat)).length)))
         else none
        else none
       else none
      else none
     else none
  else none
 else
  bif decide (k1 < (lLen : Int)) then
   bif decide ((0 : Int) ≤ k1) && decide (k1 < (lLen : Int)) then
    (xs[0 + k1.toNat]?).bind fun p3 =>
    (p3.atInt .i64 0).bind fun n4 =>
    bif (n4 == n1) then
     r81 (xs.take lLen)
    else
     bif decide ((0 : Int) ≤ k1) && decide (k1 ≤ (lLen : Int)) then
      bif decide ((0 + ((xs.take k1.toNat).length)) * 8 ≤ LIM) && decide (0 + ((xs.take k1.toNat).length) ≤ LIM) then
       bif decide (((0 + ((xs.take k1.toNat).length)) + 1) * 8 ≤ LIM) && decide ((0 + ((xs.take k1.toNat).length)) + 1 ≤ LIM) then
        bif decide ((0 : Int) ≤ k1) && decide (k1 ≤ (lLen : Int)) && decide ((lLen : Int) ≤ (lLen : Int)) then
         bif decide ((((0 + ((xs.take k1.toNat).length)) + 1) + (((xs.drop (0 + k1.toNat)).take (lLen - k1.toNat)).length)) * 8 ≤ LIM) && decide (((0 + ((xs.take k1.toNat).length)) + 1) + (((xs.drop (0 + k1.toNat)).take (lLen - k1.toNat)).length) ≤ LIM) then
          r81 (((((([] ++ (xs.take k1.toNat)).take (0 + ((xs.take k1.toNat).length))) ++ [PV.int .i64 n1]).take ((0 + ((xs.take k1.toNat).length)) + 1)) ++ ((xs.drop (0 + k1.toNat)).take (lLen - k1.toNat))).take (((0 + ((xs.take k1.toNat).length)) + 1) + (((xs.drop (0 + k1.toNat)).take (lLen - k1.toNat)).length)))
         else none
        else none
       else none
      else none
     else none
   else none
  else
   bif decide ((0 : Int) ≤ k1) && decide (k1 ≤ (lLen : Int)) then
    bif decide ((0 + ((xs.take k1.toNat).length)) * 8 ≤ LIM) && decide (0 + ((xs.take k1.toNat).length) ≤ LIM) then
     bif decide (((0 + ((xs.take k1.toNat).length)) + 1) * 8 ≤ LIM) && decide ((0 + ((xs.take k1.toNat).length)) + 1 ≤ LIM) then
      bif decide ((0 : Int) ≤ k1) && decide (k1 ≤ (lLen : Int)) && decide ((lLen : Int) ≤ (lLen : Int)) then
       bif decide ((((0 + ((xs.take k1.toNat).length)) + 1) + (((xs.drop (0 + k1.toNat)).take (lLen - k1.toNat)).length)) * 8 ≤ LIM) && decide (((0 + ((xs.take k1.toNat).length)) + 1) + (((xs.drop (0 + k1.toNat)).take (lLen - k1.toNat)).length) ≤ LIM) then
        r81 (((((([] ++ (xs.take k1.toNat)).take (0 + ((xs.take k1.toNat).length))) ++ [PV.int .i64 n1]).take ((0 + ((xs.take k1.toNat).length)) + 1)) ++ ((xs.drop (0 + k1.toNat)).take (lLen - k1.toNat))).take (((0 + ((xs.take k1.toNat).length)) + 1) + (((xs.drop (0 + k1.toNat)).take (lLen - k1.toNat)).length)))
       else none
      else none
     else none
    else none
   else none := by kernel_rfl
/-! 83 : spec.l7Many -/
theorem n83 (k : Nat) (p p1 : Int) (p2 p3 : List PV) : c83 (k + 1) p p1 p2 p3 =
 bif !decide (IntKind.u64.wrap (IntKind.i64.wrap (p * p1)) < 0) then
  r83 (shlI .i64 1 (IntKind.u64.wrap (IntKind.i64.wrap (p * p1))))
 else none := by kernel_rfl
/-! 85 : spec.DrawStarts -/
theorem n85 (k : Nat) (code : List PV) : c85 (k + 1) code =
 R40 (c40 k code 0 0) fun l1 v1 v2 v3 v4 l2 l3 =>
 r85 v3 v4 l2 l3 := by kernel_rfl
/-! 86 : spec.l8Those -/
theorem n86 (k : Nat) (p p1 : Int) (p2 p3 t : List PV) : c86 (k + 1) p p1 p2 p3 t =
 L86_1 k k t 0 0 p p1 p2 p3 [] := by kernel_rfl
theorem sL86_1 (k n : Nat) (t : List PV) (outLen : Nat) (no n1 n11 : Int) (l l1 xs : List PV) : L86_1 k (n + 1) t outLen no n1 n11 l l1 xs =
 R83 (c83 k n1 n11 l l1) fun v1 =>
 bif decide (no < v1) then
  R80 (c80 k n1 n11 l l1 no) fun l2 =>
  R79 (c79 k n1 n11 l l1 t l2) fun b1 =>
  bif b1 then
   bif decide ((outLen + 1) * 8 ≤ LIM) && decide (outLen + 1 ≤ LIM) then
    L86_1 k n t (outLen + 1) (IntKind.i64.wrap (no + 1)) n1 n11 l l1 ((xs.take outLen) ++ [PV.int .i64 no])
   else none
  else L86_1 k n t outLen (IntKind.i64.wrap (no + 1)) n1 n11 l l1 xs
 else r86 (xs.take outLen) := by kernel_rfl
/-! 87 : impl.Command] -/
theorem n87f88 (k : Nat) (qs : List PV) (n1 n11 : Int) (l l1 l2 : List PV) : c87f88 (k + 1) qs n1 n11 l l1 l2 =
 R125f88p (c125f88 k qs n1 n11 l l1 l2) fun v1 =>
 r87f88 (decide (v1 ≥ 0)) := by kernel_rfl
theorem n87f135 (k : Nat) (qs : List PV) (n1 n11 : Int) (l l1 : List PV) : c87f135 (k + 1) qs n1 n11 l l1 =
 R125f135 (c125f135 k qs n1 n11 l l1) fun v1 v2 l2 l3 v3 =>
 r87f135 v1 v2 l2 l3 (decide (v3 ≥ 0)) := by kernel_rfl
/-! 88 : impl.StuckIn$1 -/
theorem n88 (k : Nat) (qc qc1 : List PV) (n1 n11 : Int) (l l1 l2 : List PV) : c88 (k + 1) qc qc1 n1 n11 l l1 l2 =
 R51 (c51 k n1 n11 l l1 qc l2) fun b1 =>
 r88 b1 := by kernel_rfl
/-! 89 : spec.l7Enabled -/
theorem n89 (k : Nat) (p p1 : Int) (p2 p3 qs : List PV) : c89 (k + 1) p p1 p2 p3 qs =
 L89_1 k k qs 0 p3 (p3.length : Int) 0 p p1 p2 p3 [] := by kernel_rfl
theorem sL89_1 (k n : Nat) (qs : List PV) (outLen : Nat) (t9 : List PV) (t10 t11 n1 n11 : Int) (l l1 xs : List PV) : L89_1 k (n + 1) qs outLen t9 t10 t11 n1 n11 l l1 xs =
 bif decide (t11 < t10) then
  (lookP t9 t11).bind fun p1 =>
  bif p1.shp 2 then
   (p1.atRow 2 0).bind fun l2 =>
   (p1.atRow 2 1).bind fun l3 =>
   R79 (c79 k n1 n11 l l1 l2 qs) fun b1 =>
   bif b1 then
    bif decide ((outLen + 1) * 8 ≤ LIM) && decide (outLen + 1 ≤ LIM) then
     L89_1 k n qs (outLen + 1) t9 t10 (IntKind.i64.wrap (t11 + 1)) n1 n11 l l1 ((xs.take outLen) ++ [PV.int .i64 t11])
    else none
   else L89_1 k n qs outLen t9 t10 (IntKind.i64.wrap (t11 + 1)) n1 n11 l l1 xs
  else none
 else r89 (xs.take outLen) := by kernel_rfl
/-! 90 : impl.leastWay -/
theorem n90 (k : Nat) (g from1 to : List PV) : c90 (k + 1) g from1 to =
 R70 (c70 k g) fun l1 =>
 R91 (c91 k l1 to) fun l2 =>
 L90_1 k k g (-1) from1 (from1.length : Int) 0 l2 := by kernel_rfl
theorem sL90_1 (k n : Nat) (g : List PV) (best : Int) (t18 : List PV) (t19 t20 : Int) (l : List PV) : L90_1 k (n + 1) g best t18 t19 t20 l =
 bif decide (t20 < t19) then
  (lookP t18 t20).bind fun p1 =>
  (p1.atInt .i64 0).bind fun n1 =>
  (lookP l n1).bind fun p2 =>
  (p2.atInt .i64 0).bind fun n2 =>
  bif decide (n2 ≥ 0) then
   bif decide (best < 0) then
    L90_1 k n g n1 t18 t19 (IntKind.i64.wrap (t20 + 1)) l
   else
    (lookP l n1).bind fun p3 =>
    (p3.atInt .i64 0).bind fun n3 =>
    (lookP l best).bind fun p4 =>
    (p4.atInt .i64 0).bind fun n4 =>
    bif decide (n3 < n4) then
     L90_1 k n g n1 t18 t19 (IntKind.i64.wrap (t20 + 1)) l
    else L90_1 k n g best t18 t19 (IntKind.i64.wrap (t20 + 1)) l
  else L90_1 k n g best t18 t19 (IntKind.i64.wrap (t20 + 1)) l
 else
  bif decide (best < 0) then
   r90 []
  else L90_2 k k g 1 l best [PV.int .i64 best] := by kernel_rfl
theorem sL90_2 (k n : Nat) (g : List PV) (wayLen : Nat) (l : List PV) (n1 : Int) (xs : List PV) : L90_2 k (n + 1) g wayLen l n1 xs =
 (lookP l n1).bind fun p1 =>
 (p1.atInt .i64 0).bind fun n2 =>
 bif decide (n2 > 0) then
  (lookP g n1).bind fun p2 =>
  (p2.atRow 0 0).bind fun l1 =>
  R114f126p (c114f126 k l1 l n1) fun v1 =>
  (lookP g n1).bind fun p3 =>
  (p3.atRow 0 0).bind fun l2 =>
  (lookP l2 v1).bind fun p4 =>
  (p4.atInt .i64 0).bind fun n3 =>
  bif decide ((wayLen + 1) * 8 ≤ LIM) && decide (wayLen + 1 ≤ LIM) then
   L90_2 k n g (wayLen + 1) l n3 ((xs.take wayLen) ++ [PV.int .i64 n3])
  else none
 else r90 (xs.take wayLen) := by kernel_rfl
end Go.Proofs.YtcamhbchcjpjiaaGreat
/- Normal forms: printed by nf.py. -/
set_option linter.unusedVariables false
set_option maxRecDepth 100000
namespace Go.Proofs.YtcamhbchcjpjiaaGreat
open Go.Dp
/-! 91 : impl.stepsFrom -/
theorem n91 (k : Nat) (g some1 : List PV) : c91 (k + 1) g some1 =
 R127p (c127 k [PV.int .i64 (-1)] (g.length : Int)) fun l1 =>
 R128 (c128 k some1) fun l2 =>
 L91_1 k k g l1.length l2.length some1 (some1.length : Int) 0 l1 l2 := by kernel_rfl
theorem sL91_1 (k n : Nat) (g : List PV) (stepsLen openLen : Nat) (t17 : List PV) (t18 t19 : Int) (xs xs1 : List PV) : L91_1 k (n + 1) g stepsLen openLen t17 t18 t19 xs xs1 =
 bif decide (t19 < t18) then
  (lookP t17 t19).bind fun p1 =>
  (p1.atInt .i64 0).bind fun n1 =>
  bif decide ((0 : Int) ≤ n1) && decide (n1 < (stepsLen : Int)) then
   (xs[0 + n1.toNat]?).bind fun p2 =>
   L91_1 k n g stepsLen openLen t17 t18 (IntKind.i64.wrap (t19 + 1)) (xs.set (0 + n1.toNat) (PV.int .i64 0)) xs1
  else none
 else L91_2 k k g stepsLen openLen xs xs1 := by kernel_rfl
theorem sL91_2 (k n : Nat) (g : List PV) (stepsLen openLen : Nat) (xs xs1 : List PV) : L91_2 k (n + 1) g stepsLen openLen xs xs1 =
 bif decide ((openLen : Int) > 0) then
  bif decide ((0 : Int) < (openLen : Int)) then
   (xs1[0]?).bind fun p1 =>
   (p1.atInt .i64 0).bind fun n1 =>
   (lookP g n1).bind fun p2 =>
   (p2.atRow 0 0).bind fun l1 =>
   L91_3 k n k g stepsLen openLen l1 (l1.length : Int) 0 xs xs1
  else none
 else r91 (xs.take stepsLen) := by kernel_rfl
theorem sL91_3 (k n1 n : Nat) (g : List PV) (stepsLen openLen : Nat) (t37 : List PV) (t38 t39 : Int) (xs xs1 : List PV) : L91_3 k n1 (n + 1) g stepsLen openLen t37 t38 t39 xs xs1 =
 bif decide (t39 < t38) then
  (lookP t37 t39).bind fun p1 =>
  (p1.atInt .i64 0).bind fun n2 =>
  bif decide ((0 : Int) ≤ n2) && decide (n2 < (stepsLen : Int)) then
   (xs[0 + n2.toNat]?).bind fun p2 =>
   (p2.atInt .i64 0).bind fun n3 =>
   bif decide (n3 < 0) then
    bif decide ((0 : Int) < (openLen : Int)) then
     (xs1[0]?).bind fun p3 =>
     (p3.atInt .i64 0).bind fun n4 =>
     bif decide ((0 : Int) ≤ n4) && decide (n4 < (stepsLen : Int)) then
      (xs[0 + n4.toNat]?).bind fun p4 =>
      (p4.atInt .i64 0).bind fun n5 =>
      bif decide ((0 : Int) ≤ n2) && decide (n2 < (stepsLen : Int)) then
       (xs[0 + n2.toNat]?).bind fun p5 =>
       bif decide ((openLen + 1) * 8 ≤ LIM) && decide (openLen + 1 ≤ LIM) then
        L91_3 k n1 n g stepsLen (openLen + 1) t37 t38 (IntKind.i64.wrap (t39 + 1)) (xs.set (0 + n2.toNat) (PV.int .i64 (IntKind.i64.wrap (n5 + 1)))) ((xs1.take openLen) ++ [PV.int .i64 n2])
       else none
      else none
     else none
    else none
   else L91_3 k n1 n g stepsLen openLen t37 t38 (IntKind.i64.wrap (t39 + 1)) xs xs1
  else none
 else
  bif decide ((1 : Int) ≤ (openLen : Int)) && decide ((openLen : Int) ≤ (openLen : Int)) then
   L91_4 k n1 g stepsLen 1 (openLen - 1) xs xs1
  else none := by kernel_rfl
theorem sL91_4 (k n : Nat) (g : List PV) (stepsLen openLo openLen : Nat) (xs xs1 : List PV) : L91_4 k (n + 1) g stepsLen openLo openLen xs xs1 =
 bif decide ((openLen : Int) > 0) then
  bif decide ((0 : Int) < (openLen : Int)) then
   (xs1[openLo]?).bind fun p1 =>
   (p1.atInt .i64 0).bind fun n1 =>
   (lookP g n1).bind fun p2 =>
   (p2.atRow 0 0).bind fun l1 =>
   L91_5 k n k g stepsLen openLo openLen l1 (l1.length : Int) 0 xs xs1
  else none
 else r91 (xs.take stepsLen) := by kernel_rfl
theorem sL91_5 (k n1 n : Nat) (g : List PV) (stepsLen openLo openLen : Nat) (t37 : List PV) (t38 t39 : Int) (xs xs1 : List PV) : L91_5 k n1 (n + 1) g stepsLen openLo openLen t37 t38 t39 xs xs1 =
 bif decide (t39 < t38) then
  (lookP t37 t39).bind fun p1 =>
  (p1.atInt .i64 0).bind fun n2 =>
  bif decide ((0 : Int) ≤ n2) && decide (n2 < (stepsLen : Int)) then
   (xs[0 + n2.toNat]?).bind fun p2 =>
   (p2.atInt .i64 0).bind fun n3 =>
   bif decide (n3 < 0) then
    bif decide ((0 : Int) < (openLen : Int)) then
     (xs1[openLo]?).bind fun p3 =>
     (p3.atInt .i64 0).bind fun n4 =>
     bif decide ((0 : Int) ≤ n4) && decide (n4 < (stepsLen : Int)) then
      (xs[0 + n4.toNat]?).bind fun p4 =>
      (p4.atInt .i64 0).bind fun n5 =>
      bif decide ((0 : Int) ≤ n2) && decide (n2 < (stepsLen : Int)) then
       (xs[0 + n2.toNat]?).bind fun p5 =>
       bif decide ((openLen + 1) * 8 ≤ LIM) && decide (openLen + 1 ≤ LIM) then
        L91_3 k n1 n g stepsLen (openLen + 1) t37 t38 (IntKind.i64.wrap (t39 + 1)) (xs.set (0 + n2.toNat) (PV.int .i64 (IntKind.i64.wrap (n5 + 1)))) ((((xs1).drop openLo).take openLen) ++ [PV.int .i64 n2])
       else none
      else none
     else none
    else none
   else L91_5 k n1 n g stepsLen openLo openLen t37 t38 (IntKind.i64.wrap (t39 + 1)) xs xs1
  else none
 else
  bif decide ((1 : Int) ≤ (openLen : Int)) && decide ((openLen : Int) ≤ (openLen : Int)) then
   L91_4 k n1 g stepsLen (openLo + 1) (openLen - 1) xs xs1
  else none := by kernel_rfl
/-! 92 : impl.IsPath$1 -/
theorem n92 (k : Nat) (no n1 n11 : Int) (l l1 : List PV) : c92 (k + 1) no n1 n11 l l1 =
 R49 (c49 k n1 n11 l l1 no) fun b1 =>
 r92 (!b1) := by kernel_rfl
/-! 93 : slices.Contains[[]int,int] -/
theorem n93 (k : Nat) (qs : List PV) (v : Int) : c93 (k + 1) qs v =
 R129 (c129 k qs v) fun v1 =>
 r93 (decide (v1 ≥ 0)) := by kernel_rfl
/-! 94 : spec.PathTo -/
theorem n94 (k : Nat) (p p1 : Int) (p2 p3 : List PV) (no : Int) : c94 (k + 1) p p1 p2 p3 no =
 R130 (c130 k p p1 p2 p3 no) fun v1 b1 =>
 bif !b1 then
  r94 [] false
 else
  R86 (c86 k p p1 p2 p3 p2) fun l1 =>
  L94_1 k k no v1 0 l1 p p1 p2 p3 [] := by kernel_rfl
theorem sL94_1 (k n : Nat) (no n1 : Int) (outLen : Nat) (some1 : List PV) (n11 n12 : Int) (l l1 xs : List PV) : L94_1 k (n + 1) no n1 outLen some1 n11 n12 l l1 xs =
 bif decide (n1 ≥ 0) then
  L94_2 k n k no n1 outLen some1 (some1.length : Int) 0 n11 n12 l l1 xs
 else r94 (xs.take outLen) true := by kernel_rfl
theorem sL94_2 (k n1 n : Nat) (no n11 : Int) (outLen : Nat) (t28 : List PV) (t29 t30 n12 n13 : Int) (l l1 xs : List PV) : L94_2 k n1 (n + 1) no n11 outLen t28 t29 t30 n12 n13 l l1 xs =
 bif decide (t30 < t29) then
  (lookP t28 t30).bind fun p1 =>
  (p1.atInt .i64 0).bind fun n2 =>
  R131 (c131 k n12 n13 l l1 n2 no n11) fun b1 =>
  bif b1 then
   bif decide ((outLen + 1) * 8 ≤ LIM) && decide (outLen + 1 ≤ LIM) then
    bif decide ((0 : Int) ≤ IntKind.i64.wrap ((outLen + 1 : Int) - 1)) && decide (IntKind.i64.wrap ((outLen + 1 : Int) - 1) < (outLen + 1 : Int)) then
     (((xs.take outLen) ++ [PV.int .i64 n2])[0 + ((IntKind.i64.wrap ((outLen + 1 : Int) - 1)).toNat)]?).bind fun p2 =>
     (p2.atInt .i64 0).bind fun n3 =>
     R65 (c65 k n12 n13 l l1 n3) fun l2 =>
     L94_1 k n1 no (IntKind.i64.wrap (n11 - 1)) (outLen + 1) l2 n12 n13 l l1 ((xs.take outLen) ++ [PV.int .i64 n2])
    else none
   else none
  else L94_2 k n1 n no n11 outLen t28 t29 (IntKind.i64.wrap (t30 + 1)) n12 n13 l l1 xs
 else
  bif decide ((0 : Int) ≤ IntKind.i64.wrap ((outLen : Int) - 1)) && decide (IntKind.i64.wrap ((outLen : Int) - 1) < (outLen : Int)) then
   (xs[0 + ((IntKind.i64.wrap ((outLen : Int) - 1)).toNat)]?).bind fun p3 =>
   (p3.atInt .i64 0).bind fun n4 =>
   R65 (c65 k n12 n13 l l1 n4) fun l3 =>
   L94_1 k n1 no (IntKind.i64.wrap (n11 - 1)) outLen l3 n12 n13 l l1 xs
  else none := by kernel_rfl
/-! 95 : spec.l1In -/
theorem n95 (k : Nat) (n1 lo hi : Int) : c95 (k + 1) n1 lo hi =
 bif decide (n1 ≥ lo) then
  r95 (decide (n1 ≤ hi))
 else r95 false := by kernel_rfl
/-! 96 : spec.l1Has -/
theorem n96 (k : Nat) (l : List PV) (n1 : Int) : c96 (k + 1) l n1 =
 L96_1 k k n1 l (l.length : Int) 0 := by kernel_rfl
theorem sL96_1 (k n : Nat) (n1 : Int) (t7 : List PV) (t8 t9 : Int) : L96_1 k (n + 1) n1 t7 t8 t9 =
 bif decide (t9 < t8) then
  (lookP t7 t9).bind fun p1 =>
  (p1.atInt .i64 0).bind fun n2 =>
  bif (n2 == n1) then
   r96 true
  else L96_1 k n n1 t7 t8 (IntKind.i64.wrap (t9 + 1))
 else r96 false := by kernel_rfl
/-! 97 : spec.l1Cur).among -/
theorem n97 (k : Nat) (list l : List PV) (n1 n11 : Int) : c97 (k + 1) list l n1 n11 =
 R54 (c54 k (list.length : Int) l n1 n11) fun l1 v1 v2 v3 =>
 (lookP list v3).bind fun p1 =>
 (p1.atInt .i64 0).bind fun n2 =>
 r97 l1 v1 v2 n2 := by kernel_rfl
/-! 98 : spec.l1Cur).progOf -/
theorem n98 (k : Nat) (wide vars : Int) (l : List PV) (n1 n11 : Int) : c98 (k + 1) wide vars l n1 n11 =
 R54 (c54 k 2 l n1 n11) fun l1 v1 v2 v3 =>
 R55 (c55 k 3 l1 v1 v2) fun l2 v4 v5 b1 =>
 bif b1 then
  R74 (c74 k wide vars 1 l2 v4 v5) fun l3 v6 v7 l4 =>
  R54 (c54 k 3 l3 v6 v7) fun l5 v8 v9 v10 =>
  L98_1 k k wide vars (IntKind.i64.wrap (1 + v10)) l5 v8 v9 0 0 [] [] wide vars l4.length 0 l4 []
 else
  R54 (c54 k 3 l2 v4 v5) fun l6 v11 v12 v13 =>
  L98_1 k k wide vars (IntKind.i64.wrap (1 + v13)) l6 v11 v12 0 0 [] [] wide vars 3 0 [PV.agg [.int .i64 2, .int .u64 0], PV.agg [.int .i64 1, .int .u64 (IntKind.u64.wrap v3)], PV.agg [.int .i64 14, .int .u64 0]] [] := by kernel_rfl
theorem sL98_1 (k n : Nat) (wide vars n1 : Int) (l : List PV) (n11 n12 n13 n14 : Int) (l1 l2 : List PV) (n15 n16 : Int) (Len Len1 : Nat) (xs xs1 : List PV) : L98_1 k (n + 1) wide vars n1 l n11 n12 n13 n14 l1 l2 n15 n16 Len Len1 xs xs1 =
 bif decide (n1 > 0) then
  R132 (c132 k wide vars l n11 n12) fun l3 v1 v2 l4 l5 =>
  bif decide (l5.length ≤ l5.length) then
   bif (Len1 == xs1.length) && decide ((Len1 + 1) * 48 ≤ LIM) && decide (Len1 + 1 ≤ LIM) then
    L98_1 k n wide vars (IntKind.i64.wrap (n1 - 1)) l3 v1 v2 n13 n14 l1 l2 n15 n16 Len (Len1 + 1) xs (xs1 ++ [PV.agg [.row 2 0 l4, .row 2 0 (l5.take l5.length)]])
   else none
  else none
 else
  bif (Len1 == xs1.length) then
   r98 l n11 n12 n15 n16 (xs.take Len) (xs1.take Len1)
  else none := by kernel_rfl
/-! 99 : impl.GoodProgram -/
theorem n99 (k : Nat) (p p1 : Int) (p2 p3 : List PV) : c99 (k + 1) p p1 p2 p3 =
 R133 (c133 k p) fun b1 =>
 bif !b1 then
  r99 false
 else
  R134 (c134 k p1) fun b2 =>
  bif !b2 then
   r99 false
  else
   R50 (c50 k p p1 p2 p3 p2) fun b3 =>
   bif !b3 then
    r99 false
   else
    bif decide ((p3.length : Int) < 1) then
     r99 false
    else
     bif decide ((p3.length : Int) > 6) then
      r99 false
     else
      R87f135 (c87f135 k p3 p p1 p2 p3) fun v1 v2 l1 l2 b4 =>
      r99 (!b4) := by kernel_rfl
/-! 101 : impl.GoodTerm -/
theorem n101 (k : Nat) (wide vars : Int) (t : List PV) : c101 (k + 1) wide vars t =
 R133 (c133 k wide) fun b1 =>
 bif !b1 then
  r101 false
 else
  R134 (c134 k vars) fun b2 =>
  bif !b2 then
   r101 false
  else
   bif decide ((t.length : Int) < 1) then
    r101 false
   else
    bif decide ((t.length : Int) > 48) then
     r101 false
    else L101_1 k k wide vars 0 t (t.length : Int) 0 [] := by kernel_rfl
theorem sL101_1 (k n : Nat) (wide vars : Int) (stackLen : Nat) (t33 : List PV) (t34 t35 : Int) (xs : List PV) : L101_1 k (n + 1) wide vars stackLen t33 t34 t35 xs =
 bif decide (t35 < t34) then
  (lookP t33 t35).bind fun p1 =>
  bif p1.shp 2 then
   (p1.atInt .i64 0).bind fun n1 =>
   (p1.atInt .u64 1).bind fun n2 =>
   R138 (c138 k n1) fun v1 v2 v3 =>
   bif (v3 == 0) then
    r101 false
   else
    R139 (c139 k wide vars n1 n2) fun b1 =>
    bif !b1 then
     r101 false
    else
     bif decide (IntKind.i64.wrap ((stackLen : Int) - v1) < 0) then
      r101 false
     else
      bif decide ((0 : Int) ≤ IntKind.i64.wrap ((stackLen : Int) - v1)) && decide (IntKind.i64.wrap ((stackLen : Int) - v1) ≤ (stackLen : Int)) && decide ((stackLen : Int) ≤ (stackLen : Int)) then
       R57f140p (c57f140 k ((xs.drop (0 + ((IntKind.i64.wrap ((stackLen : Int) - v1)).toNat))).take (stackLen - ((IntKind.i64.wrap ((stackLen : Int) - v1)).toNat))) v2) fun v4 b2 =>
       bif b2 then
        r101 false
       else
        bif decide ((0 : Int) ≤ IntKind.i64.wrap ((stackLen : Int) - v1)) && decide (IntKind.i64.wrap ((stackLen : Int) - v1) ≤ (stackLen : Int)) then
         bif decide ((((IntKind.i64.wrap ((stackLen : Int) - v1)).toNat) + 1) * 8 ≤ LIM) && decide (((IntKind.i64.wrap ((stackLen : Int) - v1)).toNat) + 1 ≤ LIM) then
          L101_1 k n wide vars (((IntKind.i64.wrap ((stackLen : Int) - v1)).toNat) + 1) t33 t34 (IntKind.i64.wrap (t35 + 1)) ((xs.take ((IntKind.i64.wrap ((stackLen : Int) - v1)).toNat)) ++ [PV.int .i64 v3])
         else none
        else none
      else none
  else none
 else r101 ((stackLen : Int) == 1) := by kernel_rfl
/-! 103 : spec.GoodProgram -/
theorem n103 (k : Nat) (p p1 : Int) (p2 p3 : List PV) : c103 (k + 1) p p1 p2 p3 =
 R77 (c77 k p p1 p2 p3 p2) fun b1 =>
 bif !b1 then
  r103 false
 else
  R95 (c95 k (p3.length : Int) 1 6) fun b2 =>
  bif !b2 then
   r103 false
  else L103_1 k k p3 (p3.length : Int) 0 p p1 p2 p3 := by kernel_rfl
theorem sL103_1 (k n : Nat) (t18 : List PV) (t19 t20 n1 n11 : Int) (l l1 : List PV) : L103_1 k (n + 1) t18 t19 t20 n1 n11 l l1 =
 bif decide (t20 < t19) then
  (lookP t18 t20).bind fun p1 =>
  bif p1.shp 2 then
   (p1.atRow 2 0).bind fun l2 =>
   (p1.atRow 2 1).bind fun l3 =>
   R141 (c141 k n1 n11 l l1 l2 l3) fun b1 =>
   bif !b1 then
    r103 false
   else L103_1 k n t18 t19 (IntKind.i64.wrap (t20 + 1)) n1 n11 l l1
  else none
 else r103 true := by kernel_rfl
/-! 106 : impl.isTermOf -/
theorem n106 (k : Nat) (wide vars : Int) (t : List PV) (kind : Int) : c106 (k + 1) wide vars t kind =
 R101 (c101 k wide vars t) fun b1 =>
 bif b1 then
  R143 (c143 k t) fun v1 =>
  r106 (v1 == kind)
 else r106 false := by kernel_rfl
/-! 107 : impl.valueOf -/
theorem n107 (k : Nat) (wide : Int) (t state : List PV) : c107 (k + 1) wide t state =
 L107_1 k k wide state 0 t (t.length : Int) 0 [] := by kernel_rfl
theorem sL107_1 (k n : Nat) (wide : Int) (state : List PV) (stackLen : Nat) (t12 : List PV) (t13 t14 : Int) (xs : List PV) : L107_1 k (n + 1) wide state stackLen t12 t13 t14 xs =
 bif decide (t14 < t13) then
  (lookP t12 t14).bind fun p1 =>
  bif p1.shp 2 then
   (p1.atInt .i64 0).bind fun n1 =>
   (p1.atInt .u64 1).bind fun n2 =>
   bif (n1 == 1) then
    bif decide ((stackLen + 1) * 8 ≤ LIM) && decide (stackLen + 1 ≤ LIM) then
     L107_1 k n wide state (stackLen + 1) t12 t13 (IntKind.i64.wrap (t14 + 1)) ((xs.take stackLen) ++ [PV.int .u64 n2])
    else none
   else
    bif (n1 == 20) then
     bif decide ((stackLen + 1) * 8 ≤ LIM) && decide (stackLen + 1 ≤ LIM) then
      L107_1 k n wide state (stackLen + 1) t12 t13 (IntKind.i64.wrap (t14 + 1)) ((xs.take stackLen) ++ [PV.int .u64 n2])
     else none
    else
     bif (n1 == 2) then
      (lookP state n2).bind fun p2 =>
      (p2.atInt .u64 0).bind fun n3 =>
      bif decide ((stackLen + 1) * 8 ≤ LIM) && decide (stackLen + 1 ≤ LIM) then
       L107_1 k n wide state (stackLen + 1) t12 t13 (IntKind.i64.wrap (t14 + 1)) ((xs.take stackLen) ++ [PV.int .u64 n3])
      else none
     else
      bif (n1 == 13) then
       bif decide ((0 : Int) ≤ IntKind.i64.wrap ((stackLen : Int) - 1)) && decide (IntKind.i64.wrap ((stackLen : Int) - 1) < (stackLen : Int)) then
        (xs[0 + ((IntKind.i64.wrap ((stackLen : Int) - 1)).toNat)]?).bind fun p3 =>
        (p3.atInt .u64 0).bind fun n4 =>
        R108 (c108 k wide) fun v1 =>
        bif decide ((0 : Int) ≤ IntKind.i64.wrap ((stackLen : Int) - 1)) && decide (IntKind.i64.wrap ((stackLen : Int) - 1) < (stackLen : Int)) then
         (xs[0 + ((IntKind.i64.wrap ((stackLen : Int) - 1)).toNat)]?).bind fun p4 =>
         L107_1 k n wide state stackLen t12 t13 (IntKind.i64.wrap (t14 + 1)) (xs.set (0 + ((IntKind.i64.wrap ((stackLen : Int) - 1)).toNat)) (PV.int .u64 (bitsOp .and .u64 (bitsOp .xor .u64 18446744073709551615 n4) v1)))
        else none
       else none
      else
       bif (n1 == 19) then
        bif decide ((0 : Int) ≤ IntKind.i64.wrap ((stackLen : Int) - 1)) && decide (IntKind.i64.wrap ((stackLen : Int) - 1) < (stackLen : Int)) then
         (xs[0 + ((IntKind.i64.wrap ((stackLen : Int) - 1)).toNat)]?).bind fun p5 =>
         (p5.atInt .u64 0).bind fun n5 =>
         bif decide ((0 : Int) ≤ IntKind.i64.wrap ((stackLen : Int) - 1)) && decide (IntKind.i64.wrap ((stackLen : Int) - 1) < (stackLen : Int)) then
          (xs[0 + ((IntKind.i64.wrap ((stackLen : Int) - 1)).toNat)]?).bind fun p6 =>
          L107_1 k n wide state stackLen t12 t13 (IntKind.i64.wrap (t14 + 1)) (xs.set (0 + ((IntKind.i64.wrap ((stackLen : Int) - 1)).toNat)) (PV.int .u64 (IntKind.u64.wrap (1 - n5))))
         else none
        else none
       else
        bif decide ((0 : Int) ≤ IntKind.i64.wrap ((IntKind.i64.wrap ((stackLen : Int) - 1)) - 1)) && decide (IntKind.i64.wrap ((IntKind.i64.wrap ((stackLen : Int) - 1)) - 1) ≤ (stackLen : Int)) then
         bif decide ((0 : Int) ≤ IntKind.i64.wrap ((IntKind.i64.wrap ((stackLen : Int) - 1)) - 1)) && decide (IntKind.i64.wrap ((IntKind.i64.wrap ((stackLen : Int) - 1)) - 1) < (stackLen : Int)) then
          (xs[0 + ((IntKind.i64.wrap ((IntKind.i64.wrap ((stackLen : Int) - 1)) - 1)).toNat)]?).bind fun p7 =>
          (p7.atInt .u64 0).bind fun n6 =>
          bif decide ((0 : Int) ≤ IntKind.i64.wrap ((stackLen : Int) - 1)) && decide (IntKind.i64.wrap ((stackLen : Int) - 1) < (stackLen : Int)) then
           (xs[0 + ((IntKind.i64.wrap ((stackLen : Int) - 1)).toNat)]?).bind fun p8 =>
           (p8.atInt .u64 0).bind fun n7 =>
           R144 (c144 k wide n1 n6 n7) fun v2 =>
           bif decide ((((IntKind.i64.wrap ((IntKind.i64.wrap ((stackLen : Int) - 1)) - 1)).toNat) + 1) * 8 ≤ LIM) && decide (((IntKind.i64.wrap ((IntKind.i64.wrap ((stackLen : Int) - 1)) - 1)).toNat) + 1 ≤ LIM) then
            L107_1 k n wide state (((IntKind.i64.wrap ((IntKind.i64.wrap ((stackLen : Int) - 1)) - 1)).toNat) + 1) t12 t13 (IntKind.i64.wrap (t14 + 1)) ((xs.take ((IntKind.i64.wrap ((IntKind.i64.wrap ((stackLen : Int) - 1)) - 1)).toNat)) ++ [PV.int .u64 v2])
           else none
          else none
         else none
        else none
  else none
 else
  bif decide ((0 : Int) < (stackLen : Int)) then
   (xs[0]?).bind fun p9 =>
   (p9.atInt .u64 0).bind fun n8 =>
   r107 n8
  else none := by kernel_rfl
/-! 108 : impl.mask -/
theorem n108 (k : Nat) (wide : Int) : c108 (k + 1) wide =
 bif !decide (IntKind.i64.wrap (64 - wide) < 0) then
  r108 (shrI .u64 18446744073709551615 (IntKind.i64.wrap (64 - wide)))
 else none := by kernel_rfl
/-! 109 : impl.Program).stateNo -/
theorem n109 (k : Nat) (p p1 : Int) (p2 p3 qs : List PV) : c109 (k + 1) p p1 p2 p3 qs =
 L109_1 k k 0 qs (qs.length : Int) 0 p p1 p2 p3 := by kernel_rfl
theorem sL109_1 (k n : Nat) (no : Int) (t8 : List PV) (t9 t10 n1 n11 : Int) (l l1 : List PV) : L109_1 k (n + 1) no t8 t9 t10 n1 n11 l l1 =
 bif decide (t10 < t9) then
  (lookP t8 t10).bind fun p1 =>
  (p1.atInt .u64 0).bind fun n2 =>
  bif !decide (IntKind.i64.wrap (n1 * t10) < 0) then
   L109_1 k n (bitsOp .or .i64 no (shlI .i64 (IntKind.i64.wrap n2) (IntKind.i64.wrap (n1 * t10)))) t8 t9 (IntKind.i64.wrap (t10 + 1)) n1 n11 l l1
  else none
 else r109 no := by kernel_rfl
/-! 110 : impl.Program).after -/
theorem n110 (k : Nat) (p p1 : Int) (p2 p3 qc qc1 qs : List PV) : c110 (k + 1) p p1 p2 p3 qc qc1 qs =
 R145 (c145 k qs) fun l1 =>
 L110_1 k k qs l1.length qc1 (qc1.length : Int) 0 p p1 p2 p3 l1 := by kernel_rfl
theorem sL110_1 (k n : Nat) (qs : List PV) (outLen : Nat) (t13 : List PV) (t14 t15 n1 n11 : Int) (l l1 xs : List PV) : L110_1 k (n + 1) qs outLen t13 t14 t15 n1 n11 l l1 xs =
 bif decide (t15 < t14) then
  (lookP t13 t15).bind fun p1 =>
  bif p1.shp 2 then
   (p1.atInt .i64 0).bind fun n2 =>
   (p1.atRow 2 1).bind fun l2 =>
   R107 (c107 k n1 l2 qs) fun v1 =>
   bif decide ((0 : Int) ≤ n2) && decide (n2 < (outLen : Int)) then
    (xs[0 + n2.toNat]?).bind fun p2 =>
    L110_1 k n qs outLen t13 t14 (IntKind.i64.wrap (t15 + 1)) n1 n11 l l1 (xs.set (0 + n2.toNat) (PV.int .u64 v1))
   else none
  else none
 else r110 (xs.take outLen) := by kernel_rfl
/-! 113 : spec.l1Cur).next -/
theorem n113 (k : Nat) (l : List PV) (n1 n11 : Int) : c113 (k + 1) l n1 n11 =
 bif decide (n1 < (l.length : Int)) then
  (lookP l n1).bind fun p1 =>
  (p1.atInt .u8 0).bind fun n2 =>
  bif decide (IntKind.i64.wrap (n1 + 1) ≤ (l.length : Int)) then
   r113 l (IntKind.i64.wrap (n1 + 1)) (IntKind.u64.wrap ((IntKind.u64.wrap ((IntKind.u64.wrap (n11 * 6364136223846793005)) + (IntKind.u64.wrap (IntKind.i64.wrap n2)))) + 1442695040888963407)) (IntKind.i64.wrap n2)
  else r113 l (IntKind.i64.wrap (n1 + 1)) (IntKind.u64.wrap ((IntKind.u64.wrap ((IntKind.u64.wrap (n11 * 6364136223846793005)) + (IntKind.u64.wrap (IntKind.i64.wrap n2)))) + 1442695040888963407)) (IntKind.i64.wrap (bitsOp .and .u64 (shrI .u64 (IntKind.u64.wrap ((IntKind.u64.wrap ((IntKind.u64.wrap (n11 * 6364136223846793005)) + (IntKind.u64.wrap (IntKind.i64.wrap n2)))) + 1442695040888963407)) 40) 255))
 else
  bif decide (IntKind.i64.wrap (n1 + 1) ≤ (l.length : Int)) then
   r113 l (IntKind.i64.wrap (n1 + 1)) (IntKind.u64.wrap ((IntKind.u64.wrap ((IntKind.u64.wrap (n11 * 6364136223846793005)) + 0)) + 1442695040888963407)) 0
  else r113 l (IntKind.i64.wrap (n1 + 1)) (IntKind.u64.wrap ((IntKind.u64.wrap ((IntKind.u64.wrap (n11 * 6364136223846793005)) + 0)) + 1442695040888963407)) (IntKind.i64.wrap (bitsOp .and .u64 (shrI .u64 (IntKind.u64.wrap ((IntKind.u64.wrap ((IntKind.u64.wrap (n11 * 6364136223846793005)) + 0)) + 1442695040888963407)) 40) 255)) := by kernel_rfl
/-! 114 : slices.IndexFunc[[]int,int] -/
theorem n114f92 (k : Nat) (qs : List PV) (n1 n11 : Int) (l l1 : List PV) : c114f92 (k + 1) qs n1 n11 l l1 =
 L114f92_1 k k qs n1 n11 l l1 (qs.length : Int) 0 := by kernel_rfl
theorem sL114f92_1 (k n : Nat) (qs : List PV) (n1 n11 : Int) (l l1 : List PV) (t7 t8 : Int) : L114f92_1 k (n + 1) qs n1 n11 l l1 t7 t8 =
 bif decide (t8 < t7) then
  (lookP qs t8).bind fun p1 =>
  (p1.atInt .i64 0).bind fun n2 =>
  R92 (c92 k n2 n1 n11 l l1) fun b1 =>
  bif b1 then
   r114f92 t8
  else L114f92_1 k n qs n1 n11 l l1 t7 (IntKind.i64.wrap (t8 + 1))
 else r114f92 (-1) := by kernel_rfl
theorem n114f126 (k : Nat) (qs l : List PV) (n1 : Int) : c114f126 (k + 1) qs l n1 =
 L114f126_1 k k qs l n1 (qs.length : Int) 0 := by kernel_rfl
theorem sL114f126_1 (k n : Nat) (qs l : List PV) (n1 t7 t8 : Int) : L114f126_1 k (n + 1) qs l n1 t7 t8 =
 bif decide (t8 < t7) then
  (lookP qs t8).bind fun p1 =>
  (p1.atInt .i64 0).bind fun n2 =>
  R126 (c126 k n2 l n1) fun b1 =>
  bif b1 then
   r114f126 t8
  else L114f126_1 k n qs l n1 t7 (IntKind.i64.wrap (t8 + 1))
 else r114f126 (-1) := by kernel_rfl
theorem n114f140 (k : Nat) (qs : List PV) (n1 : Int) : c114f140 (k + 1) qs n1 =
 L114f140_1 k k qs (qs.length : Int) 0 n1 := by kernel_rfl
theorem sL114f140_1 (k n : Nat) (qs : List PV) (t7 t8 n1 : Int) : L114f140_1 k (n + 1) qs t7 t8 n1 =
 bif decide (t8 < t7) then
  (lookP qs t8).bind fun p1 =>
  (p1.atInt .i64 0).bind fun n2 =>
  R140 (c140 k n2 n1) fun v1 b1 =>
  bif b1 then
   r114f140 v1 t8
  else L114f140_1 k n qs t7 (IntKind.i64.wrap (t8 + 1)) v1
 else r114f140 n1 (-1) := by kernel_rfl
/-! 116 : spec.l7No -/
theorem n116 (k : Nat) (p p1 : Int) (p2 p3 qs : List PV) : c116 (k + 1) p p1 p2 p3 qs =
 L116_1 k k qs 0 (IntKind.i64.wrap (p1 - 1)) p p1 p2 p3 := by kernel_rfl
theorem sL116_1 (k n : Nat) (qs : List PV) (n1 v n11 n12 : Int) (l l1 : List PV) : L116_1 k (n + 1) qs n1 v n11 n12 l l1 =
 bif decide (v ≥ 0) then
  bif !decide (IntKind.u64.wrap n11 < 0) then
   (lookP qs v).bind fun p1 =>
   (p1.atInt .u64 0).bind fun n2 =>
   L116_1 k n qs (IntKind.i64.wrap ((shlI .i64 n1 (IntKind.u64.wrap n11)) + (IntKind.i64.wrap n2))) (IntKind.i64.wrap (v - 1)) n11 n12 l l1
  else none
 else r116 n1 := by kernel_rfl
/-! 117 : spec.l7Do -/
theorem n117 (k : Nat) (p p1 : Int) (p2 p3 qs : List PV) (k1 : Int) : c117 (k + 1) p p1 p2 p3 qs k1 =
 bif decide ((0 + qs.length) * 8 ≤ LIM) && decide (0 + qs.length ≤ LIM) then
  (lookP p3 k1).bind fun p4 =>
  (p4.atRow 2 1).bind fun l1 =>
  L117_1 k k qs (0 + qs.length) l1 (l1.length : Int) 0 p p1 p2 p3 ([] ++ qs)
 else none := by kernel_rfl
theorem sL117_1 (k n : Nat) (qs : List PV) (outLen : Nat) (t18 : List PV) (t19 t20 n1 n11 : Int) (l l1 xs : List PV) : L117_1 k (n + 1) qs outLen t18 t19 t20 n1 n11 l l1 xs =
 bif decide (t20 < t19) then
  (lookP t18 t20).bind fun p1 =>
  bif p1.shp 2 then
   (p1.atInt .i64 0).bind fun n2 =>
   (p1.atRow 2 1).bind fun l2 =>
   R122 (c122 k n1 l2 (IntKind.i64.wrap ((l2.length : Int) - 1)) qs) fun v1 =>
   bif decide ((0 : Int) ≤ n2) && decide (n2 < (outLen : Int)) then
    (xs[0 + n2.toNat]?).bind fun p2 =>
    L117_1 k n qs outLen t18 t19 (IntKind.i64.wrap (t20 + 1)) n1 n11 l l1 (xs.set (0 + n2.toNat) (PV.int .u64 v1))
   else none
  else none
 else r117 (xs.take outLen) := by kernel_rfl
end Go.Proofs.YtcamhbchcjpjiaaGreat
/- Normal forms: printed by nf.py. -/
set_option linter.unusedVariables false
set_option maxRecDepth 100000
namespace Go.Proofs.YtcamhbchcjpjiaaGreat
open Go.Dp
/-! 118 : spec.l1Cur).number -/
theorem n118 (k : Nat) (wide vars deep : Int) (l : List PV) (n1 n11 : Int) : c118 (k + 1) wide vars deep l n1 n11 =
 bif (deep == 0) then
  R55 (c55 k 2 l n1 n11) fun l1 v1 v2 b1 =>
  bif b1 then
   R54 (c54 k 9 l1 v1 v2) fun l2 v3 v4 v5 =>
   R148 (c148 k wide (IntKind.u64.wrap v5)) fun v6 =>
   r118 l2 v3 v4 [PV.agg [.int .i64 1, .int .u64 v6]]
  else
   R54 (c54 k vars l1 v1 v2) fun l3 v7 v8 v9 =>
   r118 l3 v7 v8 [PV.agg [.int .i64 2, .int .u64 (IntKind.u64.wrap v9)]]
 else
  R55 (c55 k 4 l n1 n11) fun l4 v10 v11 b2 =>
  bif b2 then
   R55 (c55 k 2 l4 v10 v11) fun l5 v12 v13 b3 =>
   bif b3 then
    R54 (c54 k 9 l5 v12 v13) fun l6 v14 v15 v16 =>
    R148 (c148 k wide (IntKind.u64.wrap v16)) fun v17 =>
    r118 l6 v14 v15 [PV.agg [.int .i64 1, .int .u64 v17]]
   else
    R54 (c54 k vars l5 v12 v13) fun l7 v18 v19 v20 =>
    r118 l7 v18 v19 [PV.agg [.int .i64 2, .int .u64 (IntKind.u64.wrap v20)]]
  else
   R55 (c55 k 7 l4 v10 v11) fun l8 v21 v22 b4 =>
   bif b4 then
    R118 (c118 k wide vars (IntKind.i64.wrap (deep - 1)) l8 v21 v22) fun l9 v23 v24 l10 =>
    bif decide ((l10.length + 1) * 16 ≤ LIM) && decide (l10.length + 1 ≤ LIM) then
     r118 l9 v23 v24 (((l10.take l10.length) ++ [PV.agg [.int .i64 13, .int .u64 0]]).take (l10.length + 1))
    else none
   else
    R118 (c118 k wide vars (IntKind.i64.wrap (deep - 1)) l8 v21 v22) fun l11 v25 v26 l12 =>
    R118 (c118 k wide vars (IntKind.i64.wrap (deep - 1)) l11 v25 v26) fun l13 v27 v28 l14 =>
    bif decide ((l12.length + ((l14.take l14.length).length)) * 16 ≤ LIM) && decide (l12.length + ((l14.take l14.length).length) ≤ LIM) then
     R97 (c97 k [PV.int .i64 3, PV.int .i64 3, PV.int .i64 3, PV.int .i64 4, PV.int .i64 4, PV.int .i64 5, PV.int .i64 8, PV.int .i64 9, PV.int .i64 10] l13 v27 v28) fun l15 v29 v30 v31 =>
     R55 (c55 k 6 l15 v29 v30) fun l16 v32 v33 b5 =>
     bif b5 then
      R97 (c97 k [PV.int .i64 6, PV.int .i64 7, PV.int .i64 11, PV.int .i64 12] l16 v32 v33) fun l17 v34 v35 v36 =>
      bif decide (((l12.length + ((l14.take l14.length).length)) + 1) * 16 ≤ LIM) && decide ((l12.length + ((l14.take l14.length).length)) + 1 ≤ LIM) then
       r118 l17 v34 v35 (((((l12.take l12.length) ++ (l14.take l14.length)).take (l12.length + ((l14.take l14.length).length))) ++ [PV.agg [.int .i64 v36, .int .u64 0]]).take ((l12.length + ((l14.take l14.length).length)) + 1))
      else none
     else
      bif decide (((l12.length + ((l14.take l14.length).length)) + 1) * 16 ≤ LIM) && decide ((l12.length + ((l14.take l14.length).length)) + 1 ≤ LIM) then
       r118 l16 v32 v33 (((((l12.take l12.length) ++ (l14.take l14.length)).take (l12.length + ((l14.take l14.length).length))) ++ [PV.agg [.int .i64 v31, .int .u64 0]]).take ((l12.length + ((l14.take l14.length).length)) + 1))
      else none
    else none := by kernel_rfl
/-! 119 : spec.l2Kind -/
theorem n119 (k : Nat) (wide vars : Int) (t : List PV) : c119 (k + 1) wide vars t =
 R149 (c149 k wide) fun b1 =>
 bif !b1 then
  r119 0
 else
  R95 (c95 k vars 1 4) fun b2 =>
  bif !b2 then
   r119 0
  else
   R95 (c95 k (t.length : Int) 1 48) fun b3 =>
   bif !b3 then
    r119 0
   else L119_1 k k wide vars 0 t (t.length : Int) 0 [] := by kernel_rfl
theorem sL119_1 (k n : Nat) (wide vars : Int) (pileLen : Nat) (t27 : List PV) (t28 t29 : Int) (xs : List PV) : L119_1 k (n + 1) wide vars pileLen t27 t28 t29 xs =
 bif decide (t29 < t28) then
  (lookP t27 t29).bind fun p1 =>
  bif p1.shp 2 then
   (p1.atInt .i64 0).bind fun n1 =>
   (p1.atInt .u64 1).bind fun n2 =>
   R150 (c150 k n1) fun v1 v2 v3 =>
   bif (v3 == 0) then
    r119 0
   else
    R151 (c151 k wide vars n1 n2) fun b1 =>
    bif !b1 then
     r119 0
    else
     bif decide ((pileLen : Int) < v1) then
      r119 0
     else L119_2 k n k wide vars pileLen v1 v2 v3 t27 t28 t29 xs
  else none
 else
  bif ((pileLen : Int) != 1) then
   r119 0
  else
   bif decide ((0 : Int) < (pileLen : Int)) then
    (xs[0]?).bind fun p2 =>
    (p2.atInt .i64 0).bind fun n3 =>
    r119 n3
   else none := by kernel_rfl
theorem sL119_2 (k n1 n : Nat) (wide vars : Int) (pileLen : Nat) (many part own : Int) (t27 : List PV) (t28 t29 : Int) (xs : List PV) : L119_2 k n1 (n + 1) wide vars pileLen many part own t27 t28 t29 xs =
 bif decide (many > 0) then
  bif decide ((0 : Int) ≤ IntKind.i64.wrap ((pileLen : Int) - 1)) && decide (IntKind.i64.wrap ((pileLen : Int) - 1) < (pileLen : Int)) then
   (xs[0 + ((IntKind.i64.wrap ((pileLen : Int) - 1)).toNat)]?).bind fun p1 =>
   (p1.atInt .i64 0).bind fun n2 =>
   bif (n2 != part) then
    r119 0
   else
    bif decide ((0 : Int) ≤ IntKind.i64.wrap ((pileLen : Int) - 1)) && decide (IntKind.i64.wrap ((pileLen : Int) - 1) ≤ (pileLen : Int)) then
     L119_2 k n1 n wide vars ((IntKind.i64.wrap ((pileLen : Int) - 1)).toNat) (IntKind.i64.wrap (many - 1)) part own t27 t28 t29 xs
    else none
  else none
 else
  bif decide ((pileLen + 1) * 8 ≤ LIM) && decide (pileLen + 1 ≤ LIM) then
   L119_1 k n1 wide vars (pileLen + 1) t27 t28 (IntKind.i64.wrap (t29 + 1)) ((xs.take pileLen) ++ [PV.int .i64 own])
  else none := by kernel_rfl
/-! 120 : spec.l8Union -/
theorem n120 (k : Nat) (a b : List PV) : c120 (k + 1) a b =
 R123 (c123 k a) fun l1 =>
 L120_1 k k l1.length b (b.length : Int) 0 l1 := by kernel_rfl
theorem sL120_1 (k n : Nat) (outLen : Nat) (t10 : List PV) (t11 t12 : Int) (xs : List PV) : L120_1 k (n + 1) outLen t10 t11 t12 xs =
 bif decide (t12 < t11) then
  (lookP t10 t12).bind fun p1 =>
  (p1.atInt .i64 0).bind fun n1 =>
  R81 (c81 k (xs.take outLen) n1) fun l1 =>
  L120_1 k n l1.length t10 t11 (IntKind.i64.wrap (t12 + 1)) l1
 else r120 (xs.take outLen) := by kernel_rfl
/-! 121 : spec.l8After -/
theorem n121 (k : Nat) (p p1 : Int) (p2 p3 some1 : List PV) : c121 (k + 1) p p1 p2 p3 some1 =
 L121_1 k k 0 some1 (some1.length : Int) 0 p p1 p2 p3 [] := by kernel_rfl
theorem sL121_1 (k n : Nat) (outLen : Nat) (t10 : List PV) (t11 t12 n1 n11 : Int) (l l1 xs : List PV) : L121_1 k (n + 1) outLen t10 t11 t12 n1 n11 l l1 xs =
 bif decide (t12 < t11) then
  (lookP t10 t12).bind fun p1 =>
  (p1.atInt .i64 0).bind fun n2 =>
  R65 (c65 k n1 n11 l l1 n2) fun l2 =>
  L121_2 k n k outLen t10 t11 t12 l2 (l2.length : Int) 0 n1 n11 l l1 xs
 else r121 (xs.take outLen) := by kernel_rfl
theorem sL121_2 (k n1 n : Nat) (outLen : Nat) (t10 : List PV) (t11 t12 : Int) (t18 : List PV) (t19 t20 n11 n12 : Int) (l l1 xs : List PV) : L121_2 k n1 (n + 1) outLen t10 t11 t12 t18 t19 t20 n11 n12 l l1 xs =
 bif decide (t20 < t19) then
  (lookP t18 t20).bind fun p1 =>
  (p1.atInt .i64 0).bind fun n2 =>
  R81 (c81 k (xs.take outLen) n2) fun l2 =>
  L121_2 k n1 n l2.length t10 t11 t12 t18 t19 (IntKind.i64.wrap (t20 + 1)) n11 n12 l l1 l2
 else L121_1 k n1 outLen t10 t11 (IntKind.i64.wrap (t12 + 1)) n11 n12 l l1 xs := by kernel_rfl
/-! 122 : spec.l2Value -/
theorem n122 (k : Nat) (wide : Int) (t : List PV) (k1 : Int) (state : List PV) : c122 (k + 1) wide t k1 state =
 (lookP t k1).bind fun p1 =>
 bif p1.shp 2 then
  (p1.atInt .i64 0).bind fun n1 =>
  (p1.atInt .u64 1).bind fun n2 =>
  R150 (c150 k n1) fun v1 v2 v3 =>
  bif (n1 == 2) then
   (lookP state n2).bind fun p2 =>
   (p2.atInt .u64 0).bind fun n3 =>
   r122 n3
  else
   bif (v1 == 0) then
    r122 n2
   else
    bif (n1 == 13) then
     R122 (c122 k wide t (IntKind.i64.wrap (k1 - 1)) state) fun v4 =>
     R148 (c148 k wide (bitsOp .xor .u64 18446744073709551615 v4)) fun v5 =>
     r122 v5
    else
     bif (n1 == 19) then
      R122 (c122 k wide t (IntKind.i64.wrap (k1 - 1)) state) fun v6 =>
      r122 (IntKind.u64.wrap (1 - v6))
     else
      R153 (c153 k t (IntKind.i64.wrap (k1 - 1))) fun v7 =>
      R122 (c122 k wide t (IntKind.i64.wrap (v7 - 1)) state) fun v8 =>
      R122 (c122 k wide t (IntKind.i64.wrap (k1 - 1)) state) fun v9 =>
      R152 (c152 k wide n1 v8 v9) fun v10 =>
      r122 v10
 else none := by kernel_rfl
/-! 123 : spec.l1Own -/
theorem n123 (k : Nat) (l : List PV) : c123 (k + 1) l =
 bif decide ((0 + l.length) * 8 ≤ LIM) && decide (0 + l.length ≤ LIM) then
  r123 (([] ++ l).take (0 + l.length))
 else none := by kernel_rfl
/-! 125 : impl.Command] -/
theorem n125f88 (k : Nat) (qs : List PV) (n1 n11 : Int) (l l1 l2 : List PV) : c125f88 (k + 1) qs n1 n11 l l1 l2 =
 L125f88_1 k k qs n1 n11 l l1 l2 (qs.length : Int) 0 := by kernel_rfl
theorem n125f135 (k : Nat) (qs : List PV) (n1 n11 : Int) (l l1 : List PV) : c125f135 (k + 1) qs n1 n11 l l1 =
 L125f135_1 k k qs (qs.length : Int) 0 n1 n11 l l1 := by kernel_rfl
theorem sL125f88_1 (k n : Nat) (qs : List PV) (n1 n11 : Int) (l l1 l2 : List PV) (t7 t8 : Int) : L125f88_1 k (n + 1) qs n1 n11 l l1 l2 t7 t8 =
 bif decide (t8 < t7) then
  (lookP qs t8).bind fun p1 =>
  bif p1.shp 2 then
   (p1.atRow 2 0).bind fun l3 =>
   (p1.atRow 2 1).bind fun l4 =>
   R88 (c88 k l3 l4 n1 n11 l l1 l2) fun b1 =>
   bif b1 then
    r125f88 t8
   else L125f88_1 k n qs n1 n11 l l1 l2 t7 (IntKind.i64.wrap (t8 + 1))
  else none
 else r125f88 (-1) := by kernel_rfl
theorem sL125f135_1 (k n : Nat) (qs : List PV) (t7 t8 n1 n11 : Int) (l l1 : List PV) : L125f135_1 k (n + 1) qs t7 t8 n1 n11 l l1 =
 bif decide (t8 < t7) then
  (lookP qs t8).bind fun p1 =>
  bif p1.shp 2 then
   (p1.atRow 2 0).bind fun l2 =>
   (p1.atRow 2 1).bind fun l3 =>
   R135 (c135 k l2 l3 n1 n11 l l1) fun v1 v2 l4 l5 b1 =>
   bif b1 then
    r125f135 v1 v2 l4 l5 t8
   else L125f135_1 k n qs t7 (IntKind.i64.wrap (t8 + 1)) v1 v2 l4 l5
  else none
 else r125f135 n1 n11 l l1 (-1) := by kernel_rfl
/-! 126 : impl.leastWay$1 -/
theorem n126 (k : Nat) (w1 : Int) (l : List PV) (n1 : Int) : c126 (k + 1) w1 l n1 =
 (lookP l w1).bind fun p1 =>
 (p1.atInt .i64 0).bind fun n2 =>
 (lookP l n1).bind fun p2 =>
 (p2.atInt .i64 0).bind fun n3 =>
 r126 (n2 == IntKind.i64.wrap (n3 - 1)) := by kernel_rfl
/-! 127 : slices.Repeat[[]int,int] -/
theorem n127 (k : Nat) (x : List PV) (count : Int) : c127 (k + 1) x count =
 bif decide (count < 0) then
  none
 else
  R154 (c154 k (IntKind.u64.wrap (x.length : Int)) (IntKind.u64.wrap count)) fun v1 v2 =>
  bif decide (v1 > 0) then
   none
  else
   bif decide (v2 > 9223372036854775807) then
    none
   else
    bif (IntKind.i64.wrap v2 == IntKind.i64.wrap v2) && decide ((0 : Int) ≤ IntKind.i64.wrap v2) && decide (((IntKind.i64.wrap v2).toNat) * 8 ≤ LIM) && decide ((IntKind.i64.wrap v2).toNat ≤ LIM) then
     L127_1 k k ((IntKind.i64.wrap v2).toNat) ((min x.length ((IntKind.i64.wrap v2).toNat) : Nat) : Int) ((((List.replicate ((IntKind.i64.wrap v2).toNat) (PV.int .i64 0)).take 0) ++ (x.take (min x.length ((IntKind.i64.wrap v2).toNat)))) ++ ((List.replicate ((IntKind.i64.wrap v2).toNat) (PV.int .i64 0)).drop (0 + (x.take (min x.length ((IntKind.i64.wrap v2).toNat))).length)))
    else none := by kernel_rfl
theorem sL127_1 (k n : Nat) (newsliceLen : Nat) (n1 : Int) (xs : List PV) : L127_1 k (n + 1) newsliceLen n1 xs =
 bif decide (n1 < (newsliceLen : Int)) then
  bif decide ((0 : Int) ≤ n1) && decide (n1 ≤ (newsliceLen : Int)) && decide ((newsliceLen : Int) ≤ (newsliceLen : Int)) then
   bif decide ((0 : Int) ≤ n1) && decide (n1 ≤ (newsliceLen : Int)) then
    L127_1 k n newsliceLen (IntKind.i64.wrap (n1 + ((min ((xs.take n1.toNat).length) (newsliceLen - n1.toNat) : Nat) : Int))) (((xs.take (0 + n1.toNat)) ++ ((xs.take n1.toNat).take (min ((xs.take n1.toNat).length) (newsliceLen - n1.toNat)))) ++ ((xs).drop (0 + n1.toNat + ((xs.take n1.toNat).take (min ((xs.take n1.toNat).length) (newsliceLen - n1.toNat))).length)))
   else none
  else none
 else r127 (xs.take newsliceLen) := by kernel_rfl
/-! 128 : slices.Clone[[]int,int] -/
theorem n128 (k : Nat) (qs : List PV) (h1 : qs.length * 8 ≤ LIM) (h2 : qs.length ≤ LIM) : c128 (k + 1) qs = r128 qs := evF_T (by simp [T, cloneT, clones, lk, h1, h2] <;> rfl)
/-! 129 : slices.Index[[]int,int] -/
theorem n129 (k : Nat) (qs : List PV) (v : Int) : c129 (k + 1) qs v =
 L129_1 k k qs v (qs.length : Int) 0 := by kernel_rfl
theorem sL129_1 (k n : Nat) (qs : List PV) (v t7 t8 : Int) : L129_1 k (n + 1) qs v t7 t8 =
 bif decide (t8 < t7) then
  (lookP qs t8).bind fun p1 =>
  (p1.atInt .i64 0).bind fun n1 =>
  bif (v == n1) then
   r129 t8
  else L129_1 k n qs v t7 (IntKind.i64.wrap (t8 + 1))
 else r129 (-1) := by kernel_rfl
/-! 130 : spec.StepsTo -/
theorem n130 (k : Nat) (p p1 : Int) (p2 p3 : List PV) (no : Int) : c130 (k + 1) p p1 p2 p3 no =
 R76 (c76 k p p1 p2 p3) fun b1 =>
 bif !b1 then
  r130 0 false
 else
  R78 (c78 k p p1 p2 p3) fun l1 =>
  R96 (c96 k l1 no) fun b2 =>
  bif !b2 then
   r130 0 false
  else
   R86 (c86 k p p1 p2 p3 p2) fun l2 =>
   L130_1 k k no l2 0 p p1 p2 p3 := by kernel_rfl
theorem sL130_1 (k n : Nat) (no : Int) (some1 : List PV) (n1 n11 n12 : Int) (l l1 : List PV) : L130_1 k (n + 1) no some1 n1 n11 n12 l l1 =
 R96 (c96 k some1 no) fun b1 =>
 bif !b1 then
  R121 (c121 k n11 n12 l l1 some1) fun l2 =>
  R120 (c120 k some1 l2) fun l3 =>
  L130_1 k n no l3 (IntKind.i64.wrap (n1 + 1)) n11 n12 l l1
 else r130 n1 true := by kernel_rfl
/-! 131 : spec.l8Can -/
theorem n131 (k : Nat) (p p1 : Int) (p2 p3 : List PV) (from1 to steps : Int) : c131 (k + 1) p p1 p2 p3 from1 to steps =
 L131_1 k k to steps 1 p p1 p2 p3 [PV.int .i64 from1] := by kernel_rfl
theorem sL131_1 (k n : Nat) (to steps : Int) (someLen : Nat) (n1 n11 : Int) (l l1 xs : List PV) : L131_1 k (n + 1) to steps someLen n1 n11 l l1 xs =
 bif decide (steps > 0) then
  R121 (c121 k n1 n11 l l1 (xs.take someLen)) fun l2 =>
  L131_2 k n to (IntKind.i64.wrap (steps - 1)) l2 n1 n11 l l1
 else
  R96p (c96 k (xs.take someLen) to) fun b1 =>
  r131 b1 := by kernel_rfl
theorem sL131_2 (k n : Nat) (to steps : Int) (some1 : List PV) (n1 n11 : Int) (l l1 : List PV) : L131_2 k (n + 1) to steps some1 n1 n11 l l1 =
 bif decide (steps > 0) then
  R121 (c121 k n1 n11 l l1 some1) fun l2 =>
  L131_2 k n to (IntKind.i64.wrap (steps - 1)) l2 n1 n11 l l1
 else
  R96 (c96 k some1 to) fun b1 =>
  r131 b1 := by kernel_rfl
/-! 132 : spec.l1Cur).command -/
theorem n132 (k : Nat) (wide vars : Int) (l : List PV) (n1 n11 : Int) : c132 (k + 1) wide vars l n1 n11 =
 R54 (c54 k 2 l n1 n11) fun l1 v1 v2 v3 =>
 R74 (c74 k wide vars v3 l1 v1 v2) fun l2 v4 v5 l3 =>
 L132_1 k k wide vars 0 l2 v4 v5 [] [] l3.length 0 l3 [] := by kernel_rfl
theorem sL132_1 (k n : Nat) (wide vars v : Int) (l : List PV) (n1 n11 : Int) (l1 l2 : List PV) (Len Len1 : Nat) (xs xs1 : List PV) : L132_1 k (n + 1) wide vars v l n1 n11 l1 l2 Len Len1 xs xs1 =
 bif decide (v < vars) then
  R55 (c55 k 2 l n1 n11) fun l3 v1 v2 b1 =>
  bif b1 then
   R118 (c118 k wide vars 1 l3 v1 v2) fun l4 v3 v4 l5 =>
   bif decide ((Len1 + 1) * 32 ≤ LIM) && decide (Len1 + 1 ≤ LIM) then
    L132_1 k n wide vars (IntKind.i64.wrap (v + 1)) l4 v3 v4 l1 l2 Len (Len1 + 1) xs ((xs1.take Len1) ++ [PV.agg [.int .i64 v, .row 2 0 (l5.take l5.length)]])
   else none
  else L132_1 k n wide vars (IntKind.i64.wrap (v + 1)) l3 v1 v2 l1 l2 Len Len1 xs xs1
 else r132 l n1 n11 (xs.take Len) (xs1.take Len1) := by kernel_rfl
/-! 133 : impl.isWide -/
theorem n133 (k : Nat) (n1 : Int) : c133 (k + 1) n1 =
 bif decide (n1 ≥ 1) then
  r133 (decide (n1 ≤ 64))
 else r133 false := by kernel_rfl
/-! 134 : impl.isVars -/
theorem n134 (k : Nat) (n1 : Int) : c134 (k + 1) n1 =
 bif decide (n1 ≥ 1) then
  r134 (decide (n1 ≤ 4))
 else r134 false := by kernel_rfl
/-! 135 : impl.GoodProgram$1 -/
theorem n135 (k : Nat) (qc qc1 : List PV) (n1 n11 : Int) (l l1 : List PV) : c135 (k + 1) qc qc1 n1 n11 l l1 =
 R136 (c136 k n1 n11 l l1 qc qc1) fun b1 =>
 r135 n1 n11 l l1 (!b1) := by kernel_rfl
/-! 136 : impl.Program).isCommand -/
theorem n136 (k : Nat) (p p1 : Int) (p2 p3 qc qc1 : List PV) : c136 (k + 1) p p1 p2 p3 qc qc1 =
 R50 (c50 k p p1 p2 p3 qc) fun b1 =>
 bif !b1 then
  r136 false
 else L136_1 k k qc1 (qc1.length : Int) 0 p p1 p2 p3 qc qc1 := by kernel_rfl
theorem sL136_1 (k n : Nat) (t13 : List PV) (t14 t15 n1 n11 : Int) (l l1 l2 l3 : List PV) : L136_1 k (n + 1) t13 t14 t15 n1 n11 l l1 l2 l3 =
 bif decide (t15 < t14) then
  (lookP t13 t15).bind fun p1 =>
  bif p1.shp 2 then
   (p1.atInt .i64 0).bind fun n2 =>
   (p1.atRow 2 1).bind fun l4 =>
   bif decide (n2 < 0) then
    r136 false
   else
    bif decide (n2 ≥ n11) then
     r136 false
    else
     bif decide (t15 > 0) then
      (lookP l3 (IntKind.i64.wrap (t15 - 1))).bind fun p2 =>
      (p2.atInt .i64 0).bind fun n3 =>
      bif decide (n3 ≥ n2) then
       r136 false
      else
       R106 (c106 k n1 n11 l4 1) fun b1 =>
       bif !b1 then
        r136 false
       else L136_1 k n t13 t14 (IntKind.i64.wrap (t15 + 1)) n1 n11 l l1 l2 l3
     else
      R106 (c106 k n1 n11 l4 1) fun b2 =>
      bif !b2 then
       r136 false
      else L136_1 k n t13 t14 (IntKind.i64.wrap (t15 + 1)) n1 n11 l l1 l2 l3
  else none
 else r136 true := by kernel_rfl
/-! 138 : impl.operandsOf -/
theorem n138 (k : Nat) (op : Int) : c138 (k + 1) op =
 bif (op == 1) then
  r138 0 0 1
 else
  bif (op == 2) then
   r138 0 0 1
  else
   bif (op == 20) then
    r138 0 0 2
   else
    bif (op == 13) then
     r138 1 1 1
    else
     bif (op == 19) then
      r138 1 2 2
     else
      bif decide (op ≥ 3) then
       bif decide (op ≤ 12) then
        r138 2 1 1
       else
        bif decide (op ≥ 14) then
         bif decide (op ≤ 16) then
          r138 2 1 2
         else
          bif (op == 17) then
           r138 2 2 2
          else
           bif (op == 18) then
            r138 2 2 2
           else r138 0 0 0
        else
         bif (op == 17) then
          r138 2 2 2
         else
          bif (op == 18) then
           r138 2 2 2
          else r138 0 0 0
      else
       bif decide (op ≥ 14) then
        bif decide (op ≤ 16) then
         r138 2 1 2
        else
         bif (op == 17) then
          r138 2 2 2
         else
          bif (op == 18) then
           r138 2 2 2
          else r138 0 0 0
       else
        bif (op == 17) then
         r138 2 2 2
        else
         bif (op == 18) then
          r138 2 2 2
         else r138 0 0 0 := by kernel_rfl
/-! 139 : impl.isLeafRight -/
theorem n139 (k : Nat) (wide vars x x1 : Int) : c139 (k + 1) wide vars x x1 =
 bif (x == 1) then
  R157 (c157 k wide x1) fun b1 =>
  r139 b1
 else
  bif (x == 2) then
   r139 (decide (x1 < IntKind.u64.wrap vars))
  else
   bif (x == 20) then
    r139 (decide (x1 ≤ 1))
   else r139 (x1 == 0) := by kernel_rfl
/-! 140 : impl.GoodTerm$1 -/
theorem n140 (k : Nat) (own n1 : Int) : c140 (k + 1) own n1 =
 r140 n1 (own != n1) := by kernel_rfl
/-! 141 : spec.l7Command -/
theorem n141 (k : Nat) (p p1 : Int) (p2 p3 qc qc1 : List PV) : c141 (k + 1) p p1 p2 p3 qc qc1 =
 R77 (c77 k p p1 p2 p3 qc) fun b1 =>
 bif !b1 then
  r141 false
 else
  bif decide ((qc1.length : Int) > p1) then
   r141 false
  else L141_1 k k qc1 (qc1.length : Int) 0 p p1 p2 p3 qc qc1 := by kernel_rfl
theorem sL141_1 (k n : Nat) (t21 : List PV) (t22 t23 n1 n11 : Int) (l l1 l2 l3 : List PV) : L141_1 k (n + 1) t21 t22 t23 n1 n11 l l1 l2 l3 =
 bif decide (t23 < t22) then
  (lookP t21 t23).bind fun p1 =>
  bif p1.shp 2 then
   (p1.atInt .i64 0).bind fun n2 =>
   (p1.atRow 2 1).bind fun l4 =>
   R95 (c95 k n2 0 (IntKind.i64.wrap (n11 - 1))) fun b1 =>
   bif !b1 then
    r141 false
   else
    bif decide (t23 > 0) then
     (lookP l3 (IntKind.i64.wrap (t23 - 1))).bind fun p2 =>
     (p2.atInt .i64 0).bind fun n3 =>
     bif decide (n3 ≥ n2) then
      r141 false
     else
      R119 (c119 k n1 n11 l4) fun v1 =>
      bif (v1 != 1) then
       r141 false
      else L141_1 k n t21 t22 (IntKind.i64.wrap (t23 + 1)) n1 n11 l l1 l2 l3
    else
     R119 (c119 k n1 n11 l4) fun v2 =>
     bif (v2 != 1) then
      r141 false
     else L141_1 k n t21 t22 (IntKind.i64.wrap (t23 + 1)) n1 n11 l l1 l2 l3
  else none
 else r141 true := by kernel_rfl
/-! 143 : impl.kindOf -/
theorem n143 (k : Nat) (t : List PV) : c143 (k + 1) t =
 (lookP t (IntKind.i64.wrap ((t.length : Int) - 1))).bind fun p1 =>
 (p1.atInt .i64 0).bind fun n1 =>
 R138 (c138 k n1) fun v1 v2 v3 =>
 r143 v3 := by kernel_rfl
/-! 144 : impl.apply -/
theorem n144 (k : Nat) (wide op a b : Int) : c144 (k + 1) wide op a b =
 bif (op == 3) then
  R108 (c108 k wide) fun v1 =>
  r144 (bitsOp .and .u64 (IntKind.u64.wrap (a + b)) v1)
 else
  bif (op == 4) then
   R108 (c108 k wide) fun v2 =>
   r144 (bitsOp .and .u64 (IntKind.u64.wrap (a - b)) v2)
  else
   bif (op == 5) then
    R108 (c108 k wide) fun v3 =>
    r144 (bitsOp .and .u64 (IntKind.u64.wrap (a * b)) v3)
   else
    bif (op == 6) then
     R158 (c158 k wide a b) fun v4 v5 b1 =>
     R108 (c108 k wide) fun v6 =>
     r144 (bitsOp .and .u64 v4 v6)
    else
     bif (op == 7) then
      R158 (c158 k wide a b) fun v7 v8 b2 =>
      R108 (c108 k wide) fun v9 =>
      r144 (bitsOp .and .u64 v8 v9)
     else
      bif (op == 8) then
       R108 (c108 k wide) fun v10 =>
       r144 (bitsOp .and .u64 (bitsOp .and .u64 a b) v10)
      else
       bif (op == 17) then
        R108 (c108 k wide) fun v11 =>
        r144 (bitsOp .and .u64 (bitsOp .and .u64 a b) v11)
       else
        bif (op == 9) then
         R108 (c108 k wide) fun v12 =>
         r144 (bitsOp .and .u64 (bitsOp .or .u64 a b) v12)
        else
         bif (op == 18) then
          R108 (c108 k wide) fun v13 =>
          r144 (bitsOp .and .u64 (bitsOp .or .u64 a b) v13)
         else
          bif (op == 10) then
           R108 (c108 k wide) fun v14 =>
           r144 (bitsOp .and .u64 (bitsOp .xor .u64 a b) v14)
          else
           bif (op == 11) then
            R159 (c159 k wide a b (op == 11)) fun v15 =>
            R108 (c108 k wide) fun v16 =>
            r144 (bitsOp .and .u64 v15 v16)
           else
            bif (op == 12) then
            R159 (c159 k wide a b (op == 11)) fun v17 =>
            R108 (c108 k wide) fun v18 =>
            r144 (bitsOp .and .u64 v17 v18)
            else
            bif (op == 14) then
            R160 (c160 k (a == b)) fun v19 =>
            R108 (c108 k wide) fun v20 =>
            r144 (bitsOp .and .u64 v19 v20)
            else
            bif (op == 15) then
            R160 (c160 k (decide (a < b))) fun v21 =>
            R108 (c108 k wide) fun v22 =>
            r144 (bitsOp .and .u64 v21 v22)
            else
            bif (op == 16) then
            R161 (c161 k wide a) fun v23 =>
            R161 (c161 k wide b) fun v24 =>
            R160 (c160 k (decide (v23 < v24))) fun v25 =>
            R108 (c108 k wide) fun v26 =>
            r144 (bitsOp .and .u64 v25 v26)
            else
            R108 (c108 k wide) fun v27 =>
            r144 (bitsOp .and .u64 0 v27) := by kernel_rfl
/-! 145 : slices.Clone[[]uint64,uint64] -/
theorem n145 (k : Nat) (qs : List PV) (h1 : qs.length * 8 ≤ LIM) (h2 : qs.length ≤ LIM) : c145 (k + 1) qs = r145 qs := evF_T (by simp [T, cloneT, clones, lk, h1, h2] <;> rfl)
/-! 148 : spec.l1Cut -/
theorem n148 (k : Nat) (wide a : Int) : c148 (k + 1) wide a =
 L148_1 k k wide a 0 0 := by kernel_rfl
theorem sL148_1 (k n : Nat) (wide a out k1 : Int) : L148_1 k (n + 1) wide a out k1 =
 bif decide (k1 < wide) then
  bif !decide (IntKind.u64.wrap k1 < 0) then
   L148_1 k n wide a (bitsOp .or .u64 out (bitsOp .and .u64 a (shlI .u64 1 (IntKind.u64.wrap k1)))) (IntKind.i64.wrap (k1 + 1))
  else none
 else r148 out := by kernel_rfl
/-! 149 : spec.l1Wide -/
theorem n149 (k : Nat) (wide : Int) : c149 (k + 1) wide =
 R95 (c95 k wide 1 64) fun b1 =>
 r149 b1 := by kernel_rfl
/-! 150 : spec.l2Need -/
theorem n150 (k : Nat) (op : Int) : c150 (k + 1) op =
 bif (op == 1) then
  r150 0 1 1
 else
  bif (op == 2) then
   r150 0 1 1
  else
   bif (op == 20) then
    r150 0 2 2
   else
    bif (op == 13) then
     r150 1 1 1
    else
     bif (op == 19) then
      r150 1 2 2
     else
      R95 (c95 k op 3 12) fun b1 =>
      bif b1 then
       r150 2 1 1
      else
       R95 (c95 k op 14 16) fun b2 =>
       bif b2 then
        r150 2 1 2
       else
        bif (op == 17) then
         r150 2 2 2
        else
         bif (op == 18) then
          r150 2 2 2
         else r150 0 0 0 := by kernel_rfl
/-! 151 : spec.l2N -/
theorem n151 (k : Nat) (wide vars n1 n11 : Int) : c151 (k + 1) wide vars n1 n11 =
 bif (n1 == 1) then
  R173 (c173 k wide n11) fun b1 =>
  r151 b1
 else
  bif (n1 == 2) then
   r151 (decide (n11 < IntKind.u64.wrap vars))
  else
   bif (n1 == 20) then
    r151 (decide (n11 < 2))
   else r151 (n11 == 0) := by kernel_rfl
end Go.Proofs.YtcamhbchcjpjiaaGreat
/- Normal forms: printed by nf.py. -/
set_option linter.unusedVariables false
set_option maxRecDepth 100000
namespace Go.Proofs.YtcamhbchcjpjiaaGreat
open Go.Dp
/-! 152 : spec.l2Do -/
theorem n152 (k : Nat) (wide op a b : Int) : c152 (k + 1) wide op a b =
 R174 (c174 k wide a b) fun v1 v2 b1 =>
 bif (op == 3) then
  R148 (c148 k wide (IntKind.u64.wrap (a + b))) fun v3 =>
  r152 v3
 else
  bif (op == 4) then
   R148 (c148 k wide (IntKind.u64.wrap (a - b))) fun v4 =>
   r152 v4
  else
   bif (op == 5) then
    R148 (c148 k wide (IntKind.u64.wrap (a * b))) fun v5 =>
    r152 v5
   else
    bif (op == 6) then
     r152 v1
    else
     bif (op == 7) then
      r152 v2
     else
      bif (op == 8) then
       r152 (bitsOp .and .u64 a b)
      else
       bif (op == 17) then
        r152 (bitsOp .and .u64 a b)
       else
        bif (op == 9) then
         r152 (bitsOp .or .u64 a b)
        else
         bif (op == 18) then
          r152 (bitsOp .or .u64 a b)
         else
          bif (op == 10) then
           r152 (bitsOp .xor .u64 a b)
          else
           bif (op == 11) then
            R175 (c175 k wide a b true) fun v6 =>
            r152 v6
           else
            bif (op == 12) then
            R175 (c175 k wide a b false) fun v7 =>
            r152 v7
            else
            bif (op == 14) then
            R176 (c176 k (a == b)) fun v8 =>
            r152 v8
            else
            bif (op == 15) then
            R176 (c176 k (decide (a < b))) fun v9 =>
            r152 v9
            else
            bif (op == 16) then
            R177 (c177 k wide a) fun v10 =>
            R177 (c177 k wide b) fun v11 =>
            R176 (c176 k (decide (v10 < v11))) fun v12 =>
            r152 v12
            else r152 0 := by kernel_rfl
/-! 153 : spec.l2From -/
theorem n153 (k : Nat) (t : List PV) (k1 : Int) : c153 (k + 1) t k1 =
 (lookP t k1).bind fun p1 =>
 (p1.atInt .i64 0).bind fun n1 =>
 R150 (c150 k n1) fun v1 v2 v3 =>
 L153_1 k k t v1 k1 := by kernel_rfl
theorem sL153_1 (k n : Nat) (t : List PV) (many from1 : Int) : L153_1 k (n + 1) t many from1 =
 bif decide (many > 0) then
  R153 (c153 k t (IntKind.i64.wrap (from1 - 1))) fun v1 =>
  L153_1 k n t (IntKind.i64.wrap (many - 1)) v1
 else r153 from1 := by kernel_rfl
/-! 154 : bits.Mul -/
theorem n154 (k : Nat) (x y : Int) : c154 (k + 1) x y =
 R179 (c179 k x y) fun v1 v2 =>
 r154 v1 v2 := by kernel_rfl
/-! 157 : impl.GoodWord -/
theorem n157 (k : Nat) (wide a : Int) : c157 (k + 1) wide a =
 R133 (c133 k wide) fun b1 =>
 bif b1 then
  R108 (c108 k wide) fun v1 =>
  r157 (decide (a ≤ v1))
 else r157 false := by kernel_rfl
/-! 158 : impl.DivWord -/
theorem n158 (k : Nat) (wide a b : Int) : c158 (k + 1) wide a b =
 R181 (c181 k wide a b) fun b1 =>
 bif !b1 then
  r158 0 0 false
 else
  bif (b == 0) then
   R108 (c108 k wide) fun v1 =>
   r158 v1 a true
  else
   R182 (c182 k 0 a b) fun v2 v3 =>
   r158 v2 v3 true := by kernel_rfl
/-! 159 : impl.shift -/
theorem n159 (k : Nat) (wide a by1 : Int) (left : Bool) : c159 (k + 1) wide a by1 left =
 bif decide (by1 ≥ IntKind.u64.wrap wide) then
  r159 0
 else
  bif left then
   bif !decide (by1 < 0) then
    R108 (c108 k wide) fun v1 =>
    r159 (bitsOp .and .u64 (shlI .u64 a by1) v1)
   else none
  else
   bif !decide (by1 < 0) then
    r159 (shrI .u64 a by1)
   else none := by kernel_rfl
/-! 160 : impl.truth -/
theorem n160 (k : Nat) (holds : Bool) : c160 (k + 1) holds =
 bif holds then
  r160 1
 else r160 0 := by kernel_rfl
/-! 161 : impl.signed -/
theorem n161 (k : Nat) (wide a : Int) : c161 (k + 1) wide a =
 bif !decide (IntKind.i64.wrap (64 - wide) < 0) then
  bif !decide (IntKind.i64.wrap (64 - wide) < 0) then
   r161 (shrI .i64 (IntKind.i64.wrap (shlI .u64 a (IntKind.i64.wrap (64 - wide)))) (IntKind.i64.wrap (64 - wide)))
  else none
 else none := by kernel_rfl
/-! 172 : bits.Len64 -/
theorem n172 (k : Nat) (x : Int) : c172 (k + 1) x =
 bif decide (x ≥ 4294967296) then
  bif decide (shrI .u64 x 32 ≥ 65536) then
   bif decide (shrI .u64 (shrI .u64 x 32) 16 ≥ 256) then
    (byteAt ⟨#[0, 1, 2, 2, 3, 3, 3, 3, 4, 4, 4, 4, 4, 4, 4, 4, 5, 5, 5, 5, 5, 5, 5, 5, 5, 5, 5, 5, 5, 5, 5, 5, 6, 6, 6, 6, 6, 6, 6, 6, 6, 6, 6, 6, 6, 6, 6, 6, 6, 6, 6, 6, 6, 6, 6, 6, 6, 6, 6, 6, 6, 6, 6, 6, 7, 7, 7, 7, 7, 7, 7, 7, 7, 7, 7, 7, 7, 7, 7, 7, 7, 7, 7, 7, 7, 7, 7, 7, 7, 7, 7, 7, 7, 7, 7, 7, 7, 7, 7, 7, 7, 7, 7, 7, 7, 7, 7, 7, 7, 7, 7, 7, 7, 7, 7, 7, 7, 7, 7, 7, 7, 7, 7, 7, 7, 7, 7, 7, 8, 8, 8, 8, 8, 8, 8, 8, 8, 8, 8, 8, 8, 8, 8, 8, 8, 8, 8, 8, 8, 8, 8, 8, 8, 8, 8, 8, 8, 8, 8, 8, 8, 8, 8, 8, 8, 8, 8, 8, 8, 8, 8, 8, 8, 8, 8, 8, 8, 8, 8, 8, 8, 8, 8, 8, 8, 8, 8, 8, 8, 8, 8, 8, 8, 8, 8, 8, 8, 8, 8, 8, 8, 8, 8, 8, 8, 8, 8, 8, 8, 8, 8, 8, 8, 8, 8, 8, 8, 8, 8, 8, 8, 8, 8, 8, 8, 8, 8, 8, 8, 8, 8, 8, 8, 8, 8, 8, 8, 8, 8, 8, 8, 8, 8, 8, 8, 8, 8, 8, 8, 8, 8, 8, 8, 8, 8, 8]⟩ (IntKind.u8.wrap (shrI .u64 (shrI .u64 (shrI .u64 x 32) 16) 8))).bind fun b1 =>
    r172 (IntKind.i64.wrap (56 + (IntKind.i64.wrap b1)))
   else
    (byteAt ⟨#[0, 1, 2, 2, 3, 3, 3, 3, 4, 4, 4, 4, 4, 4, 4, 4, 5, 5, 5, 5, 5, 5, 5, 5, 5, 5, 5, 5, 5, 5, 5, 5, 6, 6, 6, 6, 6, 6, 6, 6, 6, 6, 6, 6, 6, 6, 6, 6, 6, 6, 6, 6, 6, 6, 6, 6, 6, 6, 6, 6, 6, 6, 6, 6, 7, 7, 7, 7, 7, 7, 7, 7, 7, 7, 7, 7, 7, 7, 7, 7, 7, 7, 7, 7, 7, 7, 7, 7, 7, 7, 7, 7, 7, 7, 7, 7, 7, 7, 7, 7, 7, 7, 7, 7, 7, 7, 7, 7, 7, 7, 7, 7, 7, 7, 7, 7, 7, 7, 7, 7, 7, 7, 7, 7, 7, 7, 7, 7, 8, 8, 8, 8, 8, 8, 8, 8, 8, 8, 8, 8, 8, 8, 8, 8, 8, 8, 8, 8, 8, 8, 8, 8, 8, 8, 8, 8, 8, 8, 8, 8, 8, 8, 8, 8, 8, 8, 8, 8, 8, 8, 8, 8, 8, 8, 8, 8, 8, 8, 8, 8, 8, 8, 8, 8, 8, 8, 8, 8, 8, 8, 8, 8, 8, 8, 8, 8, 8, 8, 8, 8, 8, 8, 8, 8, 8, 8, 8, 8, 8, 8, 8, 8, 8, 8, 8, 8, 8, 8, 8, 8, 8, 8, 8, 8, 8, 8, 8, 8, 8, 8, 8, 8, 8, 8, 8, 8, 8, 8, 8, 8, 8, 8, 8, 8, 8, 8, 8, 8, 8, 8, 8, 8, 8, 8, 8, 8]⟩ (IntKind.u8.wrap (shrI .u64 (shrI .u64 x 32) 16))).bind fun b2 =>
    r172 (IntKind.i64.wrap (48 + (IntKind.i64.wrap b2)))
  else
   bif decide (shrI .u64 x 32 ≥ 256) then
    (byteAt ⟨#[0, 1, 2, 2, 3, 3, 3, 3, 4, 4, 4, 4, 4, 4, 4, 4, 5, 5, 5, 5, 5, 5, 5, 5, 5, 5, 5, 5, 5, 5, 5, 5, 6, 6, 6, 6, 6, 6, 6, 6, 6, 6, 6, 6, 6, 6, 6, 6, 6, 6, 6, 6, 6, 6, 6, 6, 6, 6, 6, 6, 6, 6, 6, 6, 7, 7, 7, 7, 7, 7, 7, 7, 7, 7, 7, 7, 7, 7, 7, 7, 7, 7, 7, 7, 7, 7, 7, 7, 7, 7, 7, 7, 7, 7, 7, 7, 7, 7, 7, 7, 7, 7, 7, 7, 7, 7, 7, 7, 7, 7, 7, 7, 7, 7, 7, 7, 7, 7, 7, 7, 7, 7, 7, 7, 7, 7, 7, 7, 8, 8, 8, 8, 8, 8, 8, 8, 8, 8, 8, 8, 8, 8, 8, 8, 8, 8, 8, 8, 8, 8, 8, 8, 8, 8, 8, 8, 8, 8, 8, 8, 8, 8, 8, 8, 8, 8, 8, 8, 8, 8, 8, 8, 8, 8, 8, 8, 8, 8, 8, 8, 8, 8, 8, 8, 8, 8, 8, 8, 8, 8, 8, 8, 8, 8, 8, 8, 8, 8, 8, 8, 8, 8, 8, 8, 8, 8, 8, 8, 8, 8, 8, 8, 8, 8, 8, 8, 8, 8, 8, 8, 8, 8, 8, 8, 8, 8, 8, 8, 8, 8, 8, 8, 8, 8, 8, 8, 8, 8, 8, 8, 8, 8, 8, 8, 8, 8, 8, 8, 8, 8, 8, 8, 8, 8, 8, 8]⟩ (IntKind.u8.wrap (shrI .u64 (shrI .u64 x 32) 8))).bind fun b3 =>
    r172 (IntKind.i64.wrap (40 + (IntKind.i64.wrap b3)))
   else
    (byteAt ⟨#[0, 1, 2, 2, 3, 3, 3, 3, 4, 4, 4, 4, 4, 4, 4, 4, 5, 5, 5, 5, 5, 5, 5, 5, 5, 5, 5, 5, 5, 5, 5, 5, 6, 6, 6, 6, 6, 6, 6, 6, 6, 6, 6, 6, 6, 6, 6, 6, 6, 6, 6, 6, 6, 6, 6, 6, 6, 6, 6, 6, 6, 6, 6, 6, 7, 7, 7, 7, 7, 7, 7, 7, 7, 7, 7, 7, 7, 7, 7, 7, 7, 7, 7, 7, 7, 7, 7, 7, 7, 7, 7, 7, 7, 7, 7, 7, 7, 7, 7, 7, 7, 7, 7, 7, 7, 7, 7, 7, 7, 7, 7, 7, 7, 7, 7, 7, 7, 7, 7, 7, 7, 7, 7, 7, 7, 7, 7, 7, 8, 8, 8, 8, 8, 8, 8, 8, 8, 8, 8, 8, 8, 8, 8, 8, 8, 8, 8, 8, 8, 8, 8, 8, 8, 8, 8, 8, 8, 8, 8, 8, 8, 8, 8, 8, 8, 8, 8, 8, 8, 8, 8, 8, 8, 8, 8, 8, 8, 8, 8, 8, 8, 8, 8, 8, 8, 8, 8, 8, 8, 8, 8, 8, 8, 8, 8, 8, 8, 8, 8, 8, 8, 8, 8, 8, 8, 8, 8, 8, 8, 8, 8, 8, 8, 8, 8, 8, 8, 8, 8, 8, 8, 8, 8, 8, 8, 8, 8, 8, 8, 8, 8, 8, 8, 8, 8, 8, 8, 8, 8, 8, 8, 8, 8, 8, 8, 8, 8, 8, 8, 8, 8, 8, 8, 8, 8, 8]⟩ (IntKind.u8.wrap (shrI .u64 x 32))).bind fun b4 =>
    r172 (IntKind.i64.wrap (32 + (IntKind.i64.wrap b4)))
 else
  bif decide (x ≥ 65536) then
   bif decide (shrI .u64 x 16 ≥ 256) then
    (byteAt ⟨#[0, 1, 2, 2, 3, 3, 3, 3, 4, 4, 4, 4, 4, 4, 4, 4, 5, 5, 5, 5, 5, 5, 5, 5, 5, 5, 5, 5, 5, 5, 5, 5, 6, 6, 6, 6, 6, 6, 6, 6, 6, 6, 6, 6, 6, 6, 6, 6, 6, 6, 6, 6, 6, 6, 6, 6, 6, 6, 6, 6, 6, 6, 6, 6, 7, 7, 7, 7, 7, 7, 7, 7, 7, 7, 7, 7, 7, 7, 7, 7, 7, 7, 7, 7, 7, 7, 7, 7, 7, 7, 7, 7, 7, 7, 7, 7, 7, 7, 7, 7, 7, 7, 7, 7, 7, 7, 7, 7, 7, 7, 7, 7, 7, 7, 7, 7, 7, 7, 7, 7, 7, 7, 7, 7, 7, 7, 7, 7, 8, 8, 8, 8, 8, 8, 8, 8, 8, 8, 8, 8, 8, 8, 8, 8, 8, 8, 8, 8, 8, 8, 8, 8, 8, 8, 8, 8, 8, 8, 8, 8, 8, 8, 8, 8, 8, 8, 8, 8, 8, 8, 8, 8, 8, 8, 8, 8, 8, 8, 8, 8, 8, 8, 8, 8, 8, 8, 8, 8, 8, 8, 8, 8, 8, 8, 8, 8, 8, 8, 8, 8, 8, 8, 8, 8, 8, 8, 8, 8, 8, 8, 8, 8, 8, 8, 8, 8, 8, 8, 8, 8, 8, 8, 8, 8, 8, 8, 8, 8, 8, 8, 8, 8, 8, 8, 8, 8, 8, 8, 8, 8, 8, 8, 8, 8, 8, 8, 8, 8, 8, 8, 8, 8, 8, 8, 8, 8]⟩ (IntKind.u8.wrap (shrI .u64 (shrI .u64 x 16) 8))).bind fun b5 =>
    r172 (IntKind.i64.wrap (24 + (IntKind.i64.wrap b5)))
   else
    (byteAt ⟨#[0, 1, 2, 2, 3, 3, 3, 3, 4, 4, 4, 4, 4, 4, 4, 4, 5, 5, 5, 5, 5, 5, 5, 5, 5, 5, 5, 5, 5, 5, 5, 5, 6, 6, 6, 6, 6, 6, 6, 6, 6, 6, 6, 6, 6, 6, 6, 6, 6, 6, 6, 6, 6, 6, 6, 6, 6, 6, 6, 6, 6, 6, 6, 6, 7, 7, 7, 7, 7, 7, 7, 7, 7, 7, 7, 7, 7, 7, 7, 7, 7, 7, 7, 7, 7, 7, 7, 7, 7, 7, 7, 7, 7, 7, 7, 7, 7, 7, 7, 7, 7, 7, 7, 7, 7, 7, 7, 7, 7, 7, 7, 7, 7, 7, 7, 7, 7, 7, 7, 7, 7, 7, 7, 7, 7, 7, 7, 7, 8, 8, 8, 8, 8, 8, 8, 8, 8, 8, 8, 8, 8, 8, 8, 8, 8, 8, 8, 8, 8, 8, 8, 8, 8, 8, 8, 8, 8, 8, 8, 8, 8, 8, 8, 8, 8, 8, 8, 8, 8, 8, 8, 8, 8, 8, 8, 8, 8, 8, 8, 8, 8, 8, 8, 8, 8, 8, 8, 8, 8, 8, 8, 8, 8, 8, 8, 8, 8, 8, 8, 8, 8, 8, 8, 8, 8, 8, 8, 8, 8, 8, 8, 8, 8, 8, 8, 8, 8, 8, 8, 8, 8, 8, 8, 8, 8, 8, 8, 8, 8, 8, 8, 8, 8, 8, 8, 8, 8, 8, 8, 8, 8, 8, 8, 8, 8, 8, 8, 8, 8, 8, 8, 8, 8, 8, 8, 8]⟩ (IntKind.u8.wrap (shrI .u64 x 16))).bind fun b6 =>
    r172 (IntKind.i64.wrap (16 + (IntKind.i64.wrap b6)))
  else
   bif decide (x ≥ 256) then
    (byteAt ⟨#[0, 1, 2, 2, 3, 3, 3, 3, 4, 4, 4, 4, 4, 4, 4, 4, 5, 5, 5, 5, 5, 5, 5, 5, 5, 5, 5, 5, 5, 5, 5, 5, 6, 6, 6, 6, 6, 6, 6, 6, 6, 6, 6, 6, 6, 6, 6, 6, 6, 6, 6, 6, 6, 6, 6, 6, 6, 6, 6, 6, 6, 6, 6, 6, 7, 7, 7, 7, 7, 7, 7, 7, 7, 7, 7, 7, 7, 7, 7, 7, 7, 7, 7, 7, 7, 7, 7, 7, 7, 7, 7, 7, 7, 7, 7, 7, 7, 7, 7, 7, 7, 7, 7, 7, 7, 7, 7, 7, 7, 7, 7, 7, 7, 7, 7, 7, 7, 7, 7, 7, 7, 7, 7, 7, 7, 7, 7, 7, 8, 8, 8, 8, 8, 8, 8, 8, 8, 8, 8, 8, 8, 8, 8, 8, 8, 8, 8, 8, 8, 8, 8, 8, 8, 8, 8, 8, 8, 8, 8, 8, 8, 8, 8, 8, 8, 8, 8, 8, 8, 8, 8, 8, 8, 8, 8, 8, 8, 8, 8, 8, 8, 8, 8, 8, 8, 8, 8, 8, 8, 8, 8, 8, 8, 8, 8, 8, 8, 8, 8, 8, 8, 8, 8, 8, 8, 8, 8, 8, 8, 8, 8, 8, 8, 8, 8, 8, 8, 8, 8, 8, 8, 8, 8, 8, 8, 8, 8, 8, 8, 8, 8, 8, 8, 8, 8, 8, 8, 8, 8, 8, 8, 8, 8, 8, 8, 8, 8, 8, 8, 8, 8, 8, 8, 8, 8, 8]⟩ (IntKind.u8.wrap (shrI .u64 x 8))).bind fun b7 =>
    r172 (IntKind.i64.wrap (8 + (IntKind.i64.wrap b7)))
   else
    (byteAt ⟨#[0, 1, 2, 2, 3, 3, 3, 3, 4, 4, 4, 4, 4, 4, 4, 4, 5, 5, 5, 5, 5, 5, 5, 5, 5, 5, 5, 5, 5, 5, 5, 5, 6, 6, 6, 6, 6, 6, 6, 6, 6, 6, 6, 6, 6, 6, 6, 6, 6, 6, 6, 6, 6, 6, 6, 6, 6, 6, 6, 6, 6, 6, 6, 6, 7, 7, 7, 7, 7, 7, 7, 7, 7, 7, 7, 7, 7, 7, 7, 7, 7, 7, 7, 7, 7, 7, 7, 7, 7, 7, 7, 7, 7, 7, 7, 7, 7, 7, 7, 7, 7, 7, 7, 7, 7, 7, 7, 7, 7, 7, 7, 7, 7, 7, 7, 7, 7, 7, 7, 7, 7, 7, 7, 7, 7, 7, 7, 7, 8, 8, 8, 8, 8, 8, 8, 8, 8, 8, 8, 8, 8, 8, 8, 8, 8, 8, 8, 8, 8, 8, 8, 8, 8, 8, 8, 8, 8, 8, 8, 8, 8, 8, 8, 8, 8, 8, 8, 8, 8, 8, 8, 8, 8, 8, 8, 8, 8, 8, 8, 8, 8, 8, 8, 8, 8, 8, 8, 8, 8, 8, 8, 8, 8, 8, 8, 8, 8, 8, 8, 8, 8, 8, 8, 8, 8, 8, 8, 8, 8, 8, 8, 8, 8, 8, 8, 8, 8, 8, 8, 8, 8, 8, 8, 8, 8, 8, 8, 8, 8, 8, 8, 8, 8, 8, 8, 8, 8, 8, 8, 8, 8, 8, 8, 8, 8, 8, 8, 8, 8, 8, 8, 8, 8, 8, 8, 8]⟩ (IntKind.u8.wrap x)).bind fun b8 =>
    r172 (IntKind.i64.wrap (0 + (IntKind.i64.wrap b8))) := by kernel_rfl
/-! 173 : spec.GoodWord -/
theorem n173 (k : Nat) (wide a : Int) : c173 (k + 1) wide a =
 R149 (c149 k wide) fun b1 =>
 bif b1 then
  R148 (c148 k wide a) fun v1 =>
  r173 (v1 == a)
 else r173 false := by kernel_rfl
/-! 174 : spec.DivWord -/
theorem n174 (k : Nat) (wide a b : Int) : c174 (k + 1) wide a b =
 R189 (c189 k wide a b) fun b1 =>
 bif !b1 then
  r174 0 0 false
 else
  bif (b == 0) then
   R148 (c148 k wide 18446744073709551615) fun v1 =>
   r174 v1 a true
  else
   bif !(b == 0) then
    bif !(b == 0) then
     r174 (IntKind.u64.wrap (a.tdiv b)) (a.tmod b) true
    else none
   else none := by kernel_rfl
/-! 175 : spec.l1Shift -/
theorem n175 (k : Nat) (wide a by1 : Int) (left : Bool) : c175 (k + 1) wide a by1 left =
 bif decide (by1 ≥ IntKind.u64.wrap wide) then
  r175 0
 else L175_1 k k wide a by1 left := by kernel_rfl
theorem sL175_1 (k n : Nat) (wide a by1 : Int) (left : Bool) : L175_1 k (n + 1) wide a by1 left =
 bif decide (by1 > 0) then
  bif left then
   R148 (c148 k wide (shlI .u64 a 1)) fun v1 =>
   L175_1 k n wide v1 (IntKind.u64.wrap (by1 - 1)) left
  else L175_1 k n wide (shrI .u64 a 1) (IntKind.u64.wrap (by1 - 1)) left
 else r175 a := by kernel_rfl
/-! 176 : spec.l2Bool -/
theorem n176 (k : Nat) (is1 : Bool) : c176 (k + 1) is1 =
 bif is1 then
  r176 1
 else r176 0 := by kernel_rfl
/-! 177 : spec.l1Signed -/
theorem n177 (k : Nat) (wide a : Int) : c177 (k + 1) wide a =
 bif !decide (IntKind.u64.wrap (IntKind.i64.wrap (wide - 1)) < 0) then
  bif (bitsOp .and .u64 (shrI .u64 a (IntKind.u64.wrap (IntKind.i64.wrap (wide - 1)))) 1 == 1) then
   R148 (c148 k wide 18446744073709551615) fun v1 =>
   r177 (IntKind.i64.wrap (bitsOp .or .u64 a (bitsOp .xor .u64 18446744073709551615 v1)))
  else r177 (IntKind.i64.wrap a)
 else none := by kernel_rfl
/-! 179 : bits.Mul64 -/
theorem n179 (k : Nat) (x y : Int) : c179 (k + 1) x y =
 r179 (IntKind.u64.wrap ((IntKind.u64.wrap ((IntKind.u64.wrap ((shrI .u64 x 32) * (shrI .u64 y 32))) + (shrI .u64 (IntKind.u64.wrap ((IntKind.u64.wrap ((shrI .u64 x 32) * (bitsOp .and .u64 y 4294967295))) + (shrI .u64 (IntKind.u64.wrap ((bitsOp .and .u64 x 4294967295) * (bitsOp .and .u64 y 4294967295))) 32))) 32))) + (shrI .u64 (IntKind.u64.wrap ((bitsOp .and .u64 (IntKind.u64.wrap ((IntKind.u64.wrap ((shrI .u64 x 32) * (bitsOp .and .u64 y 4294967295))) + (shrI .u64 (IntKind.u64.wrap ((bitsOp .and .u64 x 4294967295) * (bitsOp .and .u64 y 4294967295))) 32))) 4294967295) + (IntKind.u64.wrap ((bitsOp .and .u64 x 4294967295) * (shrI .u64 y 32))))) 32))) (IntKind.u64.wrap (x * y)) := by kernel_rfl
/-! 181 : impl.areWords -/
theorem n181 (k : Nat) (wide a b : Int) : c181 (k + 1) wide a b =
 R157 (c157 k wide a) fun b1 =>
 bif b1 then
  R157 (c157 k wide b) fun b2 =>
  r181 b2
 else r181 false := by kernel_rfl
/-! 182 : bits.Div64 -/
theorem n182 (k : Nat) (hi lo y : Int) : c182 (k + 1) hi lo y =
 bif (y == 0) then
  none
 else
  bif decide (y ≤ hi) then
   none
  else
   bif (hi == 0) then
    bif !(y == 0) then
     bif !(y == 0) then
      r182 (IntKind.u64.wrap (lo.tdiv y)) (lo.tmod y)
     else none
    else none
   else
    R190 (c190 k y) fun v1 =>
    bif !decide (IntKind.u64.wrap v1 < 0) then
     bif !decide (IntKind.u64.wrap v1 < 0) then
      bif !decide (IntKind.u64.wrap (64 - (IntKind.u64.wrap v1)) < 0) then
       bif !decide (IntKind.u64.wrap v1 < 0) then
        bif !(shrI .u64 (shlI .u64 y (IntKind.u64.wrap v1)) 32 == 0) then
         L182_1 k k (shlI .u64 y (IntKind.u64.wrap v1)) (IntKind.u64.wrap v1) (shrI .u64 (shlI .u64 y (IntKind.u64.wrap v1)) 32) (bitsOp .and .u64 (shlI .u64 y (IntKind.u64.wrap v1)) 4294967295) (bitsOp .or .u64 (shlI .u64 hi (IntKind.u64.wrap v1)) (shrI .u64 lo (IntKind.u64.wrap (64 - (IntKind.u64.wrap v1))))) (shrI .u64 (shlI .u64 lo (IntKind.u64.wrap v1)) 32) (bitsOp .and .u64 (shlI .u64 lo (IntKind.u64.wrap v1)) 4294967295) (IntKind.u64.wrap ((bitsOp .or .u64 (shlI .u64 hi (IntKind.u64.wrap v1)) (shrI .u64 lo (IntKind.u64.wrap (64 - (IntKind.u64.wrap v1))))).tdiv (shrI .u64 (shlI .u64 y (IntKind.u64.wrap v1)) 32))) (IntKind.u64.wrap ((bitsOp .or .u64 (shlI .u64 hi (IntKind.u64.wrap v1)) (shrI .u64 lo (IntKind.u64.wrap (64 - (IntKind.u64.wrap v1))))) - (IntKind.u64.wrap ((IntKind.u64.wrap ((bitsOp .or .u64 (shlI .u64 hi (IntKind.u64.wrap v1)) (shrI .u64 lo (IntKind.u64.wrap (64 - (IntKind.u64.wrap v1))))).tdiv (shrI .u64 (shlI .u64 y (IntKind.u64.wrap v1)) 32))) * (shrI .u64 (shlI .u64 y (IntKind.u64.wrap v1)) 32)))))
        else none
       else none
      else none
     else none
    else none := by kernel_rfl
theorem sL182_1 (k n : Nat) (y qs yn1 yn0 un32 un1 un0 q1 rhat : Int) : L182_1 k (n + 1) y qs yn1 yn0 un32 un1 un0 q1 rhat =
 bif decide (q1 ≥ 4294967296) then
  bif decide (IntKind.u64.wrap (rhat + yn1) ≥ 4294967296) then
   bif !(yn1 == 0) then
    L182_2 k k y qs yn1 yn0 un0 (IntKind.u64.wrap (q1 - 1)) (IntKind.u64.wrap ((IntKind.u64.wrap ((IntKind.u64.wrap ((IntKind.u64.wrap (un32 * 4294967296)) + un1)) - (IntKind.u64.wrap ((IntKind.u64.wrap (q1 - 1)) * y)))) - (IntKind.u64.wrap ((IntKind.u64.wrap ((IntKind.u64.wrap ((IntKind.u64.wrap ((IntKind.u64.wrap (un32 * 4294967296)) + un1)) - (IntKind.u64.wrap ((IntKind.u64.wrap (q1 - 1)) * y)))).tdiv yn1)) * yn1)))) (IntKind.u64.wrap ((IntKind.u64.wrap ((IntKind.u64.wrap (un32 * 4294967296)) + un1)) - (IntKind.u64.wrap ((IntKind.u64.wrap (q1 - 1)) * y)))) (IntKind.u64.wrap ((IntKind.u64.wrap ((IntKind.u64.wrap ((IntKind.u64.wrap (un32 * 4294967296)) + un1)) - (IntKind.u64.wrap ((IntKind.u64.wrap (q1 - 1)) * y)))).tdiv yn1))
   else none
  else L182_1 k n y qs yn1 yn0 un32 un1 un0 (IntKind.u64.wrap (q1 - 1)) (IntKind.u64.wrap (rhat + yn1))
 else
  bif decide (IntKind.u64.wrap (q1 * yn0) > IntKind.u64.wrap ((IntKind.u64.wrap (4294967296 * rhat)) + un1)) then
   bif decide (IntKind.u64.wrap (rhat + yn1) ≥ 4294967296) then
    bif !(yn1 == 0) then
     L182_2 k k y qs yn1 yn0 un0 (IntKind.u64.wrap (q1 - 1)) (IntKind.u64.wrap ((IntKind.u64.wrap ((IntKind.u64.wrap ((IntKind.u64.wrap (un32 * 4294967296)) + un1)) - (IntKind.u64.wrap ((IntKind.u64.wrap (q1 - 1)) * y)))) - (IntKind.u64.wrap ((IntKind.u64.wrap ((IntKind.u64.wrap ((IntKind.u64.wrap ((IntKind.u64.wrap (un32 * 4294967296)) + un1)) - (IntKind.u64.wrap ((IntKind.u64.wrap (q1 - 1)) * y)))).tdiv yn1)) * yn1)))) (IntKind.u64.wrap ((IntKind.u64.wrap ((IntKind.u64.wrap (un32 * 4294967296)) + un1)) - (IntKind.u64.wrap ((IntKind.u64.wrap (q1 - 1)) * y)))) (IntKind.u64.wrap ((IntKind.u64.wrap ((IntKind.u64.wrap ((IntKind.u64.wrap (un32 * 4294967296)) + un1)) - (IntKind.u64.wrap ((IntKind.u64.wrap (q1 - 1)) * y)))).tdiv yn1))
    else none
   else L182_1 k n y qs yn1 yn0 un32 un1 un0 (IntKind.u64.wrap (q1 - 1)) (IntKind.u64.wrap (rhat + yn1))
  else
   bif !(yn1 == 0) then
    L182_2 k k y qs yn1 yn0 un0 q1 (IntKind.u64.wrap ((IntKind.u64.wrap ((IntKind.u64.wrap ((IntKind.u64.wrap (un32 * 4294967296)) + un1)) - (IntKind.u64.wrap (q1 * y)))) - (IntKind.u64.wrap ((IntKind.u64.wrap ((IntKind.u64.wrap ((IntKind.u64.wrap ((IntKind.u64.wrap (un32 * 4294967296)) + un1)) - (IntKind.u64.wrap (q1 * y)))).tdiv yn1)) * yn1)))) (IntKind.u64.wrap ((IntKind.u64.wrap ((IntKind.u64.wrap (un32 * 4294967296)) + un1)) - (IntKind.u64.wrap (q1 * y)))) (IntKind.u64.wrap ((IntKind.u64.wrap ((IntKind.u64.wrap ((IntKind.u64.wrap (un32 * 4294967296)) + un1)) - (IntKind.u64.wrap (q1 * y)))).tdiv yn1))
   else none := by kernel_rfl
theorem sL182_2 (k n : Nat) (y qs yn1 yn0 un0 q1 rhat un21 q0 : Int) : L182_2 k (n + 1) y qs yn1 yn0 un0 q1 rhat un21 q0 =
 bif decide (q0 ≥ 4294967296) then
  bif decide (IntKind.u64.wrap (rhat + yn1) ≥ 4294967296) then
   bif !decide (qs < 0) then
    r182 (IntKind.u64.wrap ((IntKind.u64.wrap (q1 * 4294967296)) + (IntKind.u64.wrap (q0 - 1)))) (shrI .u64 (IntKind.u64.wrap ((IntKind.u64.wrap ((IntKind.u64.wrap (un21 * 4294967296)) + un0)) - (IntKind.u64.wrap ((IntKind.u64.wrap (q0 - 1)) * y)))) qs)
   else none
  else L182_2 k n y qs yn1 yn0 un0 q1 (IntKind.u64.wrap (rhat + yn1)) un21 (IntKind.u64.wrap (q0 - 1))
 else
  bif decide (IntKind.u64.wrap (q0 * yn0) > IntKind.u64.wrap ((IntKind.u64.wrap (4294967296 * rhat)) + un0)) then
   bif decide (IntKind.u64.wrap (rhat + yn1) ≥ 4294967296) then
    bif !decide (qs < 0) then
     r182 (IntKind.u64.wrap ((IntKind.u64.wrap (q1 * 4294967296)) + (IntKind.u64.wrap (q0 - 1)))) (shrI .u64 (IntKind.u64.wrap ((IntKind.u64.wrap ((IntKind.u64.wrap (un21 * 4294967296)) + un0)) - (IntKind.u64.wrap ((IntKind.u64.wrap (q0 - 1)) * y)))) qs)
    else none
   else L182_2 k n y qs yn1 yn0 un0 q1 (IntKind.u64.wrap (rhat + yn1)) un21 (IntKind.u64.wrap (q0 - 1))
  else
   bif !decide (qs < 0) then
    r182 (IntKind.u64.wrap ((IntKind.u64.wrap (q1 * 4294967296)) + q0)) (shrI .u64 (IntKind.u64.wrap ((IntKind.u64.wrap ((IntKind.u64.wrap (un21 * 4294967296)) + un0)) - (IntKind.u64.wrap (q0 * y)))) qs)
   else none := by kernel_rfl
/-! 189 : spec.l1Both -/
theorem n189 (k : Nat) (wide a b : Int) : c189 (k + 1) wide a b =
 R173 (c173 k wide a) fun b1 =>
 bif b1 then
  R173 (c173 k wide b) fun b2 =>
  r189 b2
 else r189 false := by kernel_rfl
/-! 190 : bits.LeadingZeros64 -/
theorem n190 (k : Nat) (x : Int) : c190 (k + 1) x =
 R172 (c172 k x) fun v1 =>
 r190 (IntKind.i64.wrap (64 - v1)) := by kernel_rfl
end Go.Proofs.YtcamhbchcjpjiaaGreat
/- The draws: next, pick, one, among; cutting a word. -/
set_option linter.unusedVariables false
set_option linter.unusedSimpArgs false
set_option maxRecDepth 4000
namespace Go.Proofs.YtcamhbchcjpjiaaGreat
open Go.Dp

structure CodeOK (bs : List Nat) : Prop where
  len : bs.length ≤ 1048576
  lt : ∀ b ∈ bs, b < 256
theorem and255 (x : Int) : 0 ≤ bitsOp .and .u64 x 255 ∧ bitsOp .and .u64 x 255 ≤ 255 := by
  have e : bitsOp .and .u64 x 255 = wi (BitVec.ofInt 64 x &&& 255#64) := by
    show IntKind.u64.wrap (((BitVec.ofInt 64 x) &&& (BitVec.ofInt 64 255)).toNat : Int) = _
    exact wrap_wi _
  rw [e]
  refine ⟨wi_nonneg _, ?_⟩
  unfold wi
  rw [BitVec.toNat_and]
  have := Nat.and_le_right (n := (BitVec.ofInt 64 x).toNat) (m := (255#64).toNat)
  have h2 : (255#64).toNat = 255 := rfl
  omega
theorem next_ok {bs : List Nat} (hc : CodeOK bs) {k : Nat} (hk : 1 ≤ k) {at' : Int} (h0 : 0 ≤ at') (h1 : at' ≤ 1000000000) (s : W) :
    ∃ s2 v, c113 k (encB bs) at' (wi s) = r113 (encB bs) (at' + 1) (wi s2) v ∧ 0 ≤ v ∧ v ≤ 255 := by
  obtain ⟨k, rfl⟩ : ∃ j, k = j + 1 := ⟨k - 1, by omega⟩
  rw [n113, i64_id (n := at' + 1) (by omega) (by omega)]
  simp only [wrapU]
  have hl := hc.len
  cases hd : decide (at' < ((encB bs).length : Int))
  · simp only [cond_false]
    cases hd2 : decide (at' + 1 ≤ ((encB bs).length : Int))
    · simp only [cond_false]
      have h3 := and255 (shrI .u64 (wi (BitVec.ofInt 64 (wi (BitVec.ofInt 64 (wi (BitVec.ofInt 64 (wi s * 6364136223846793005)) + 0)) + 1442695040888963407))) 40)
      exact ⟨_, _, rfl, by rw [i64_id (by omega) (by omega)]; exact h3⟩
    · simp only [cond_true]
      exact ⟨_, _, rfl, by omega, by omega⟩
  · simp only [cond_true]
    simp only [encB_length, decide_eq_true_eq] at hd
    have hlt : at'.toNat < bs.length := by omega
    have hlk : lookP (encB bs) at' = some (.int .u8 (bs[at'.toNat] : Int)) := by
      rw [lookP_int h0, encB_get]
      simp [hlt]
    have hb := hc.lt bs[at'.toNat] (List.getElem_mem hlt)
    rw [hlk]
    simp only [Option.bind_some, int_atInt]
    rw [i64_id (n := (bs[at'.toNat] : Int)) (by omega) (by omega)]
    cases hd2 : decide (at' + 1 ≤ ((encB bs).length : Int))
    · simp only [cond_false]
      have h3 := and255 (shrI .u64 (wi (BitVec.ofInt 64 (wi (BitVec.ofInt 64 (wi (BitVec.ofInt 64 (wi s * 6364136223846793005)) + wi (BitVec.ofInt 64 (bs[at'.toNat] : Int)))) + 1442695040888963407))) 40)
      exact ⟨_, _, rfl, by rw [i64_id (by omega) (by omega)]; exact h3⟩
    · simp only [cond_true]
      exact ⟨_, _, rfl, by omega, by omega⟩
theorem pick_ok {bs : List Nat} (hc : CodeOK bs) {k : Nat} (hk : 2 ≤ k) {at' : Int} (h0 : 0 ≤ at') (h1 : at' ≤ 999999000) (s : W) (n : Int) :
    ∃ a2 s2 v, c54 k n (encB bs) at' (wi s) = r54 (encB bs) a2 (wi s2) v ∧ at' ≤ a2 ∧ a2 ≤ at' + 2 ∧ 0 ≤ v ∧ (1 ≤ n → v < n) ∧ (n ≤ 1 → v = 0) ∧ v ≤ 65535 := by
  obtain ⟨k, rfl⟩ : ∃ j, k = j + 1 := ⟨k - 1, by omega⟩
  rw [n54]
  cases hd : decide (n ≤ 1)
  · simp only [cond_false]
    simp at hd
    obtain ⟨s2, v, h, hv0, hv1⟩ := next_ok hc (k := k) (by omega) h0 (by omega) s
    rw [h]
    simp only [R113_r]
    have hn0 : (n == 0) = false := by simp; omega
    cases hd2 : decide (n > 200)
    · simp only [cond_false, hn0, Bool.not_false, cond_true]
      have h5 := Int.tmod_lt_of_pos v (b := n) (by omega)
      have h6 := Int.tmod_nonneg n hv0
      have h7 : v.tmod n ≤ v := by rw [Int.tmod_eq_emod_of_nonneg hv0]; exact emod_le_self hv0 (by omega)
      exact ⟨_, _, _, rfl, by omega, by omega, h6, fun _ => h5, by omega, by omega⟩
    · simp only [cond_true, hn0, Bool.not_false]
      obtain ⟨s3, v3, h3, hv2, hv3⟩ := next_ok hc (k := k) (by omega) (at' := at' + 1) (by omega) (by omega) s2
      rw [h3]
      simp only [R113_r, cond_true]
      rw [i64_id (n := v * 256) (by omega) (by omega), i64_id (n := v * 256 + v3) (by omega) (by omega)]
      have h5 := Int.tmod_lt_of_pos (v * 256 + v3) (b := n) (by omega)
      have h6 := Int.tmod_nonneg n (a := v * 256 + v3) (by omega)
      have h7 : (v * 256 + v3).tmod n ≤ v * 256 + v3 := by rw [Int.tmod_eq_emod_of_nonneg (by omega)]; exact emod_le_self (by omega) (by omega)
      exact ⟨_, _, _, rfl, by omega, by omega, h6, fun _ => h5, by omega, by omega⟩
  · simp only [cond_true]
    simp at hd
    exact ⟨_, _, _, rfl, by omega, by omega, by omega, by omega, fun _ => rfl, by omega⟩
theorem one_ok {bs : List Nat} (hc : CodeOK bs) {k : Nat} (hk : 3 ≤ k) {at' : Int} (h0 : 0 ≤ at') (h1 : at' ≤ 999999000) (s : W) (n : Int) :
    ∃ a2 s2 b, c55 k n (encB bs) at' (wi s) = r55 (encB bs) a2 (wi s2) b ∧ at' ≤ a2 ∧ a2 ≤ at' + 2 := by
  obtain ⟨k, rfl⟩ : ∃ j, k = j + 1 := ⟨k - 1, by omega⟩
  obtain ⟨a2, s2, v, h, h2, h3, _⟩ := pick_ok hc (k := k) (by omega) h0 h1 s n
  rw [n55, h]
  simp only [R54_r]
  exact ⟨_, _, _, rfl, h2, h3⟩
theorem among_ok {bs : List Nat} (hc : CodeOK bs) {k : Nat} (hk : 3 ≤ k) {at' : Int} (h0 : 0 ≤ at') (h1 : at' ≤ 999999000) (s : W) (L : List Int) (hL : 1 ≤ L.length) :
    ∃ a2 s2 v, c97 k (encZ L) (encB bs) at' (wi s) = r97 (encB bs) a2 (wi s2) v ∧ at' ≤ a2 ∧ a2 ≤ at' + 2 ∧ v ∈ L := by
  obtain ⟨k, rfl⟩ : ∃ j, k = j + 1 := ⟨k - 1, by omega⟩
  obtain ⟨a2, s2, v, h, h2, h3, h4, h5, _⟩ := pick_ok hc (k := k) (by omega) h0 h1 s (L.length : Int)
  rw [n97, encZ_length, h]
  simp only [R54_r]
  have hv := h5 (by omega)
  have hlt : v.toNat < L.length := by omega
  have e : v = (v.toNat : Int) := by omega
  have hlk : lookP (encZ L) v = some (.int .i64 L[v.toNat]) := by
    rw [lookP_int h4, encZ_get]
    simp [hlt]
  rw [hlk]
  simp only [Option.bind_some, int_atInt]
  exact ⟨_, _, _, rfl, h2, h3, List.getElem_mem hlt⟩

/-! ### Cutting a word -/
def maskB (n : Nat) : W := BitVec.allOnes 64 >>> (64 - n)
theorem maskB_lsb {n : Nat} (hn : n ≤ 64) (i : Nat) : (maskB n).getLsbD i = decide (i < n) := by
  unfold maskB
  rw [BitVec.getLsbD_ushiftRight, BitVec.getLsbD_allOnes]
  by_cases h : i < n <;> simp <;> omega
theorem mask_ok {k : Nat} (hk : 1 ≤ k) {wide : Int} (h1 : 0 ≤ wide) (h2 : wide ≤ 64) : c108 k wide = r108 (wi (maskB wide.toNat)) := by
  obtain ⟨k, rfl⟩ : ∃ j, k = j + 1 := ⟨k - 1, by omega⟩
  rw [n108, i64_id (by omega) (by omega)]
  have hd : decide (64 - wide < 0) = false := by simp; omega
  simp only [hd, Bool.not_false, cond_true]
  have e : (18446744073709551615 : Int) = wi (BitVec.allOnes 64) := rfl
  rw [e, shr_wi _ (by omega)]
  have : (64 - wide).toNat = 64 - wide.toNat := by omega
  rw [this]
  rfl
theorem cut_step (a : W) (j : Nat) (hj : j < 64) : (a &&& maskB j) ||| (a &&& (1#64 <<< j)) = a &&& maskB (j + 1) := by
  apply BitVec.eq_of_getLsbD_eq
  intro i hi
  rw [BitVec.getLsbD_or, BitVec.getLsbD_and, BitVec.getLsbD_and, BitVec.getLsbD_and, maskB_lsb (by omega), maskB_lsb (by omega)]
  rw [BitVec.getLsbD_shiftLeft, BitVec.getLsbD_one]
  by_cases h1 : i < j
  · have : i < j + 1 := by omega
    simp [h1, this]
  · by_cases h2 : i = j
    · subst h2; simp; omega
    · have h3 : ¬ i < j + 1 := by omega
      have h4 : ¬ (i - j = 0) := by omega
      simp [h1, h3, h4]
theorem cutloop {wide : Int} (h2 : wide ≤ 64) (a : W) (k : Nat) : ∀ (m n : Nat) (j : Nat), (wide - j).toNat ≤ m → m < n → (j : Int) ≤ wide → L148_1 k n wide (wi a) (wi (a &&& maskB j)) (j : Int) = r148 (wi (a &&& maskB wide.toNat))
  | m, 0, j, hm, hn, hj => by omega
  | m, n + 1, j, hm, hn, hj => by
    rw [sL148_1]
    by_cases h : (j : Int) < wide
    · have hd : decide ((j : Int) < wide) = true := by simpa using h
      rw [u64_id (n := (j : Int)) (by omega) (by omega)]
      have hd2 : decide ((j : Int) < 0) = false := by simp
      have e1 : (1 : Int) = wi (1#64) := rfl
      simp only [hd, hd2, cond_true, Bool.not_false]
      rw [e1, shl_wi _ (by omega), and_wi, or_wi, ← e1, Int.toNat_natCast, cut_step a j (by omega), i64_id (by omega) (by omega)]
      have e2 : (j : Int) + 1 = ((j + 1 : Nat) : Int) := by omega
      rw [e2]
      cases m with
      | zero => omega
      | succ m => exact cutloop h2 a k m n (j + 1) (by omega) (by omega) (by omega)
    · have hd : decide ((j : Int) < wide) = false := by simpa using h
      simp only [hd, cond_false]
      have : wide.toNat = j := by omega
      rw [this]
theorem cut_ok {k : Nat} (hk : 70 ≤ k) {wide : Int} (h1 : 0 ≤ wide) (h2 : wide ≤ 64) (a : W) : c148 k wide (wi a) = r148 (wi (a &&& maskB wide.toNat)) := by
  obtain ⟨k, rfl⟩ : ∃ j, k = j + 1 := ⟨k - 1, by omega⟩
  rw [n148]
  have e0 : (0 : Int) = wi (a &&& maskB 0) := by
    have : maskB 0 = 0#64 := by rfl
    rw [this]; simp [wi]
  have := cutloop h2 a k wide.toNat k 0 (by omega) (by omega) (by omega)
  rw [← e0] at this
  exact this
end Go.Proofs.YtcamhbchcjpjiaaGreat
