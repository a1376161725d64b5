/- The library's sort and its compacting, at rows of integers of one's own: the shelf's contracts, at this program. -/
import Derived.Test.YtocmjgfbcpgaoaaProg
import Derived.Test.YtocmjgfbcpgaoaaDp21
import Derived.Test.YtocmjgfbcpgaoaaSrt0
import Derived.Shelf.Sort.Plain
import Derived.Shelf.Slices.CompactI
import Derived.Shelf.Slices.In.SortNone
import Derived.Sort.OwnSortedInts
set_option linter.unusedVariables false
namespace Go.Proofs.Ytocmjgfbcpgaoaa
open Go.Dp Go.Sort Go.RowKit
theorem putCells_list (cur : Array Value) (ts : List Int) (h : ts.length ≤ cur.size) : (putCells (Value.int .i64) 0 ts.toArray cur).toList = ts.map (Value.int .i64) ++ cur.toList.drop ts.length := by
  apply List.ext_getElem?
  intro j
  rw [Array.getElem?_toList]
  by_cases hj : j < ts.length
  · rw [List.getElem?_append_left (by simpa using hj)]
    simp [putCells, hj, show j < cur.size by omega]
  · rw [List.getElem?_append_right (by (simp; try omega)), List.length_map, List.getElem?_drop, show ts.length + (j - ts.length) = j by omega]
    by_cases hc : j < cur.size
    · simp [putCells, hj, hc]
    · rw [Array.getElem?_eq_none (by (simp [putCells]; try omega)), List.getElem?_eq_none (by (simp; try omega))]
theorem put_wd {w : World} {b n : Nat} {os : Array Obj} {cu : Array Value} {e : TypeId} {d : List Int} (hb : w.heap[b]? = some (.cells cu e (0, 0))) (hd : d.length ≤ cu.size) :
    Wd w (grow (putRow (Value.int .i64) (Sort.ahead w n) b 0 d.toArray) os) ∧ (∀ k, k < w.heap.size → k ≠ b → (grow (putRow (Value.int .i64) (Sort.ahead w n) b 0 d.toArray) os).heap[k]? = w.heap[k]?) ∧
      ∃ cu', (grow (putRow (Value.int .i64) (Sort.ahead w n) b 0 d.toArray) os).heap[b]? = some (.cells cu' e (0, 0)) ∧ cu'.size = cu.size ∧ cu'.toList = d.map (Value.int .i64) ++ cu.toList.drop d.length := by
  have hg := grownBy_sortedI (w := w) (g := b) (n := n) (os := os) d.toArray
  obtain ⟨h1, h2, h3, h4, h5⟩ := hg
  refine ⟨⟨h1, h2, h3, h4⟩, fun k hk hne => h5 k hk (fun e => hne (Option.some.inj e)), _, heap_sortedI _ hb, by simp [putCells], putCells_list cu d hd⟩
theorem sort_ok : SortOK Try.prog 1 54 where
  enters := ⟨Try.f54, Try.func54, by kernel_rfl, by decide⟩
  empty w p cap := Any.slices_Sort_int_none Ytocmjgfbcpgaoaa.lays189 p cap w
  row w b cap zs cu e hb ht hc hl := by
    have hH : Holds (Value.int .i64) w b 0 zs.toArray := holds_of_blockI hb ht
    have hlt := (Array.getElem?_eq_some_iff.1 hb).1
    refine Calls.mono (Any.slices_Sort_int Ytocmjgfbcpgaoaa.lays189 b 0 cap zs w hH hlt (by unfold LIM at hl; omega)) ?_
    rintro e' w' ⟨rfl, n, os, rfl⟩
    have hsz : zs.length ≤ cu.size := by
      have := congrArg List.length ht
      simp at this
      omega
    have hl2 : (zs.mergeSort fun x y => decide (x ≤ y)).length = zs.length := List.length_mergeSort zs
    have := put_wd (n := n) (os := os) (d := zs.mergeSort fun x y => decide (x ≤ y)) hb (by omega)
    rw [hl2] at this
    exact ⟨rfl, this⟩
theorem comp_ok : SortOK Try.prog 2 55 where
  enters := ⟨Try.f55, Try.func55, by kernel_rfl, by decide⟩
  empty w p cap := Any.slices_Compact_int_empty Ytocmjgfbcpgaoaa.lays20 p cap w
  row w b cap zs cu e hb ht hc hl := by
    have hH : Holds (Value.int .i64) w b 0 zs.toArray := holds_of_blockI hb ht
    refine Calls.mono (Any.slices_Compact_int Ytocmjgfbcpgaoaa.lays20 b 0 cap zs w hH (by unfold LIM at hl; omega) hc) ?_
    rintro e' w' ⟨rfl, n, rfl⟩
    have hsz : zs.length ≤ cu.size := by
      have := congrArg List.length ht
      simp at this
      omega
    have hcl := compI_le zs
    have hl2 : (Lib.compact zs ++ List.replicate (zs.length - (Lib.compact zs).length) 0).length = zs.length := by
      have : (Lib.compact zs).length ≤ zs.length := hcl
      simp
      omega
    have := put_wd (n := n) (os := #[]) (d := Lib.compact zs ++ List.replicate (zs.length - (Lib.compact zs).length) 0) hb (by omega)
    rw [hl2, grow_empty] at this
    exact ⟨rfl, this⟩
end Go.Proofs.Ytocmjgfbcpgaoaa
