/- From what the evaluator says of a law of two rows of bytes to the walk that the law's row asks for. -/
import Derived.Test.YtocmjgfbcpgaoaaDp20
import Derived.Below
set_option linter.unusedVariables false
set_option linter.unusedSimpArgs false
namespace Go.Dp
open Go.RowKit
/-- A row of whole numbers, as it comes in. -/
def IsRow (k : IntKind) (w : World) (a : Option Addr) (len cap : Nat) (zs : List Int) : Prop :=
  (a = none ∧ len = 0 ∧ cap = 0 ∧ zs = []) ∨
  ∃ x, a = some x ∧ x.spot = none ∧ len ≤ cap ∧ cap ≤ maxLen ∧ zs.length = cap ∧ (∀ i, i < zs.length → w.cell? (x.add i) = some (.int k (zs.getD i 0))) ∧ ∀ n ∈ zs, (Lit.int k n).wf = true
def ints (k : IntKind) (l : List Int) : List PV := l.map (PV.int k)
theorem IsRow.rp {k : IntKind} {w : World} {a : Option Addr} {len cap : Nat} {zs : List Int} (h : IsRow k w a len cap zs) : RP w (· < w.heap.size) (.row 0 0 (ints k (zs.take len))) (.slice a len cap) := by
  rcases h with ⟨rfl, rfl, rfl, rfl⟩ | ⟨x, rfl, hsp, hl, hm, hz, hc, _⟩
  · exact .nil 0 0 (by decide)
  · have hlen : (ints k (zs.take len)).length = len := by simp [ints]; omega
    have hcell : ∀ i, i < len → w.cell? ⟨x.block, x.off + i, none⟩ = some (.int k (zs.getD i 0)) := by
      intro i hi
      have h1 := hc i (by omega)
      obtain ⟨b, off, sp⟩ := x
      simp only at hsp
      subst hsp
      rw [add_at] at h1
      exact h1
    have key : RP w (· < w.heap.size) (.row 0 0 (ints k (zs.take len))) (.slice (some x) (ints k (zs.take len)).length cap) := by
      refine .row 0 0 _ x cap (fun i => .int k (zs.getD i 0)) (by simp) hsp (by omega) hm (by simp) ?_ ?_ ?_ ?_
      · intro hp
        have h1 := hcell 0 (by omega)
        simp only [World.cell?] at h1
        split at h1
        · rename_i c _ _ hh
          exact (Array.getElem?_eq_some_iff.1 hh).1
        · cases h1
      · intro i v hv
        simp only [ints, List.getElem?_map, Option.map_eq_some_iff] at hv
        obtain ⟨n, _, rfl⟩ := hv
        rfl
      · intro i v j c hv hj
        have hi : i < len := by have := (List.getElem?_eq_some_iff.1 hv).1; omega
        simp only [ints, List.getElem?_map, Option.map_eq_some_iff] at hv
        obtain ⟨n, _, rfl⟩ := hv
        have : j = 0 := by
          have := (List.getElem?_eq_some_iff.1 hj).1
          simp [PV.cells] at this
          omega
        subst this
        simpa [csz] using hcell i hi
      · intro i v j c hv hj
        simp only [ints, List.getElem?_map, Option.map_eq_some_iff] at hv
        obtain ⟨n, hn, rfl⟩ := hv
        have : j = 0 := by
          have := (List.getElem?_eq_some_iff.1 hj).1
          simp [PV.cells] at this
          omega
        subst this
        simp [PV.cells] at hj
        subst hj
        have hn2 : zs[i]? = some n := by
          rw [List.getElem?_take] at hn
          split at hn
          · exact hn
          · cases hn
        have hg : zs.getD i 0 = n := by simp [List.getD, hn2]
        simp only [csz]
        simp [hn2]
        exact .int k n
    rwa [hlen] at key
theorem IsRow.wf {k : IntKind} {w : World} {a : Option Addr} {len cap : Nat} {zs : List Int} (h : IsRow k w a len cap zs) : ∀ n ∈ zs, (Lit.int k n).wf = true := by
  rcases h with ⟨_, _, _, rfl⟩ | ⟨_, _, _, _, _, _, _, h⟩
  · simp
  · exact h
theorem law_walk {P : Program} {f : FuncId} {w : World} {vs : List PV} {ys : List Value} (hl : ys.length = vs.length) (hr : ∀ (i : Nat) (a : PV) (y : Value), vs[i]? = some a → ys[i]? = some y → RP w (· < w.heap.size) a y)
    (h : Contract P f (vs.map .p) [] ([.c (.p (.bool true))], [])) : Calls P f ys.toArray w fun e w' => e = .returned (.bool true) ∧ Below w.heap.size w w' := by
  refine Calls.mono (h.calls w (· < w.heap.size) (fun _ h => h) ys hl hr) ?_
  rintro e w' ⟨y, Im', rfl, hy, hwd, hfr⟩
  cases hy
  exact ⟨rfl, hwd.os, hwd.tape, hwd.output, hwd.size, hfr⟩
end Go.Dp
