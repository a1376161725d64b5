/-
  No cell of these rows narrows 'for every input' (looked for: loops, veiled, ifaces, maps, wideKeys, modest, calm, conditions, laid).
  DERIVED. THE GIVEN ROWS OF THIS SEAT. 6 by the template 'for every input the law returns true; each argument reads behind the call as it read before'; 0 by the template 'total and deterministic' (their statements: YtnliglgellapdaaTotals.lean).
  GIVEN WITH THE SEED: the statements are not yours to turn. If you find one false, say at which input.
  Laid BY PROGRAM, IN A SANDBOX (cutbox-rows.mjs): the forced cells as the released guide's own fill.sh prints them over the translation 1a4ae5f4b9054eef… (all of the seat's roots in one cut). By AI agents, Wed Nov 11 2026. No macro, syntax, notation, axiom, sorry.
-/
import Derived.Test.YtnliglgellapdaaChecked
import GoSem.Claim
import GoSem.ClaimJoined
import GoSem.ClaimMapViews
import Derived.JoinedTies
import Derived.KernelRfl
namespace Go.Proofs.Ytnliglgellapdaa
/- THE CELL 'sum', in the pinned program and in every row, IS THE sha256 OF THE DUMP (.gsa) THAT YtnliglgellapdaaProg.lean LOADS. Nothing in Lean hashes anything: it is a label: what it is worth is what the hold of that sum in a sandbox is worth. -/
noncomputable def Try.pinned : Pinned := { name := "ytnliglgellapdaa", sum := "1a4ae5f4b9054eefab647edd8f18c6ccbfe0d370ffa4e6bf7b313a7f1acacffc", checked := Try.checked }
namespace Rows
def none {H : Type} : Left H := { results := [], args := [] }

/-- 'laws.FnExactLineAt': WHATEVER THE INPUT: true; the input reads as it did. -/
def fnExactLineAtSpec : ChangeSpec := { name := "fnExactLineAt", fn := fun _ => fun
  | [d1, d2] => { results := [.lit (.bool true)], args := [d1, d2] }
  | _ => none }
def fnExactLineAtRow : OpenClaim := { program := "ytnliglgellapdaa", sum := "1a4ae5f4b9054eefab647edd8f18c6ccbfe0d370ffa4e6bf7b313a7f1acacffc", func := "loop.example/g00649/laws.FnExactLineAt", spec := "fnExactLineAt", inPlace := ["internal/bytealg.CountString", "internal/bytealg.IndexByteString", "internal/bytealg.IndexString"], named := ["internal/bytealg.MaxLen"], apart := false }
def FnExactLineAtSaid : Prop := fnExactLineAtRow.holds Try.pinned (OpenSpec.ofChange fnExactLineAtSpec)

/-- ITS FALSE NEIGHBOUR: 'it returns false'. Refute it at one input. -/
def fnExactLineAtWrong : ChangeSpec := { name := "fnExactLineAt", fn := fun _ => fun
  | [d1, d2] => { results := [.lit (.bool false)], args := [d1, d2] }
  | _ => none }
def FnExactLineAtWrongFalsely : Prop := fnExactLineAtRow.holds Try.pinned (OpenSpec.ofChange fnExactLineAtWrong)

/-- 'laws.FnNumbered': WHATEVER THE INPUT: true; the input reads as it did. -/
def fnNumberedSpec : ChangeSpec := { name := "fnNumbered", fn := fun _ => fun
  | [d1, d2] => { results := [.lit (.bool true)], args := [d1, d2] }
  | _ => none }
def fnNumberedRow : OpenClaim := { program := "ytnliglgellapdaa", sum := "1a4ae5f4b9054eefab647edd8f18c6ccbfe0d370ffa4e6bf7b313a7f1acacffc", func := "loop.example/g00649/laws.FnNumbered", spec := "fnNumbered", unfollowed := true, recurses := true, apart := false }
def FnNumberedSaid : Prop := fnNumberedRow.holds Try.pinned (OpenSpec.ofChange fnNumberedSpec)

/-- ITS FALSE NEIGHBOUR: 'it returns false'. Refute it at one input. -/
def fnNumberedWrong : ChangeSpec := { name := "fnNumbered", fn := fun _ => fun
  | [d1, d2] => { results := [.lit (.bool false)], args := [d1, d2] }
  | _ => none }
def FnNumberedWrongFalsely : Prop := fnNumberedRow.holds Try.pinned (OpenSpec.ofChange fnNumberedWrong)

/-- 'laws.FnPutFor': WHATEVER THE INPUT: true; the input reads as it did. -/
def fnPutForSpec : ChangeSpec := { name := "fnPutFor", fn := fun _ => fun
  | [d1, d2] => { results := [.lit (.bool true)], args := [d1, d2] }
  | _ => none }
def fnPutForRow : OpenClaim := { program := "ytnliglgellapdaa", sum := "1a4ae5f4b9054eefab647edd8f18c6ccbfe0d370ffa4e6bf7b313a7f1acacffc", func := "loop.example/g00649/laws.FnPutFor", spec := "fnPutFor", unfollowed := true, recurses := true, named := ["math/bits.divideError", "math/bits.overflowError"], apart := false }
def FnPutForSaid : Prop := fnPutForRow.holds Try.pinned (OpenSpec.ofChange fnPutForSpec)

/-- ITS FALSE NEIGHBOUR: 'it returns false'. Refute it at one input. -/
def fnPutForWrong : ChangeSpec := { name := "fnPutFor", fn := fun _ => fun
  | [d1, d2] => { results := [.lit (.bool false)], args := [d1, d2] }
  | _ => none }
def FnPutForWrongFalsely : Prop := fnPutForRow.holds Try.pinned (OpenSpec.ofChange fnPutForWrong)

/-- 'laws.FnJoined': WHATEVER THE INPUT: true; the input reads as it did. -/
def fnJoinedSpec : ChangeSpec := { name := "fnJoined", fn := fun _ => fun
  | [d1, d2] => { results := [.lit (.bool true)], args := [d1, d2] }
  | _ => none }
def fnJoinedRow : OpenClaim := { program := "ytnliglgellapdaa", sum := "1a4ae5f4b9054eefab647edd8f18c6ccbfe0d370ffa4e6bf7b313a7f1acacffc", func := "loop.example/g00649/laws.FnJoined", spec := "fnJoined", unfollowed := true, recurses := true, named := ["math/bits.divideError", "math/bits.overflowError"], apart := false }
def FnJoinedSaid : Prop := fnJoinedRow.holds Try.pinned (OpenSpec.ofChange fnJoinedSpec)

/-- ITS FALSE NEIGHBOUR: 'it returns false'. Refute it at one input. -/
def fnJoinedWrong : ChangeSpec := { name := "fnJoined", fn := fun _ => fun
  | [d1, d2] => { results := [.lit (.bool false)], args := [d1, d2] }
  | _ => none }
def FnJoinedWrongFalsely : Prop := fnJoinedRow.holds Try.pinned (OpenSpec.ofChange fnJoinedWrong)

/-- 'laws.FnBefore': WHATEVER THE INPUT: true; the input reads as it did. -/
def fnBeforeSpec : ChangeSpec := { name := "fnBefore", fn := fun _ => fun
  | [d1, d2] => { results := [.lit (.bool true)], args := [d1, d2] }
  | _ => none }
def fnBeforeRow : OpenClaim := { program := "ytnliglgellapdaa", sum := "1a4ae5f4b9054eefab647edd8f18c6ccbfe0d370ffa4e6bf7b313a7f1acacffc", func := "loop.example/g00649/laws.FnBefore", spec := "fnBefore", unfollowed := true, recurses := true, named := ["math/bits.divideError", "math/bits.overflowError"], apart := false }
def FnBeforeSaid : Prop := fnBeforeRow.holds Try.pinned (OpenSpec.ofChange fnBeforeSpec)

/-- ITS FALSE NEIGHBOUR: 'it returns false'. Refute it at one input. -/
def fnBeforeWrong : ChangeSpec := { name := "fnBefore", fn := fun _ => fun
  | [d1, d2] => { results := [.lit (.bool false)], args := [d1, d2] }
  | _ => none }
def FnBeforeWrongFalsely : Prop := fnBeforeRow.holds Try.pinned (OpenSpec.ofChange fnBeforeWrong)

/-- 'laws.FnSpanned': WHATEVER THE INPUT: true; the input reads as it did. -/
def fnSpannedSpec : ChangeSpec := { name := "fnSpanned", fn := fun _ => fun
  | [d1, d2] => { results := [.lit (.bool true)], args := [d1, d2] }
  | _ => none }
def fnSpannedRow : OpenClaim := { program := "ytnliglgellapdaa", sum := "1a4ae5f4b9054eefab647edd8f18c6ccbfe0d370ffa4e6bf7b313a7f1acacffc", func := "loop.example/g00649/laws.FnSpanned", spec := "fnSpanned", inPlace := ["math/bits.Add64"], unfollowed := true, recurses := true, named := ["math/bits.divideError", "math/bits.overflowError"], apart := false }
def FnSpannedSaid : Prop := fnSpannedRow.holds Try.pinned (OpenSpec.ofChange fnSpannedSpec)

/-- ITS FALSE NEIGHBOUR: 'it returns false'. Refute it at one input. -/
def fnSpannedWrong : ChangeSpec := { name := "fnSpanned", fn := fun _ => fun
  | [d1, d2] => { results := [.lit (.bool false)], args := [d1, d2] }
  | _ => none }
def FnSpannedWrongFalsely : Prop := fnSpannedRow.holds Try.pinned (OpenSpec.ofChange fnSpannedWrong)

/- THE SECOND FORM. 'bulk': how many values and letters a reading holds, each counted each time it is reached (what is shared counts as often as it is met; a slice's spare places count too). A statement '..UptoSaid' is the law's where the arguments, and the package variables that the reading takes, are together of bulk at most 1048576: NARROWER than '..Said'. Prove '..Said' where nothing that the law and all that it calls make is longer than what came in: it says more and counts as full. Else prove '..UptoSaid'. A law counts once. -/
mutual
def uptoBulk {H : Type} : DataW H → Nat
  | .lit (.string bytes) => bytes.length + 1
  | .lit _ => 1
  | .nil => 1
  | .ptr d => uptoBulk d + 1
  | .slice elems spare => uptoBulkAll elems + uptoBulkAll spare + 1
  | .agg parts => uptoBulkAll parts + 1
  | .iface _ d => uptoBulk d + 1
  | .map entries => uptoBulkEntries entries + 1
  | .held _ => 1
def uptoBulkAll {H : Type} : List (DataW H) → Nat
  | [] => 0
  | d :: r => uptoBulk d + uptoBulkAll r
def uptoBulkEntries {H : Type} : List (Lit × DataW H) → Nat
  | [] => 0
  | x :: r => uptoBulkEntry x + uptoBulkEntries r
def uptoBulkEntry {H : Type} : Lit × DataW H → Nat
  | (.string bytes, d) => bytes.length + uptoBulk d + 1
  | (_, d) => uptoBulk d + 1
 end
def uptoSmall : (H : Type) → List (DataW H) → Bool := fun _ ds => decide (uptoBulkAll ds ≤ 1048576)
def OpenSpec.upto (s : _root_.Go.ChangeSpec) : _root_.Go.OpenSpec := { _root_.Go.OpenSpec.ofChange s with cond := some uptoSmall }

/-- 'laws.FnExactLineAt', WHERE WHAT IT READS IS OF BULK AT MOST 1048576: true; the input reads as it did. -/
def fnExactLineAtUptoRow : OpenClaim := { program := "ytnliglgellapdaa", sum := "1a4ae5f4b9054eefab647edd8f18c6ccbfe0d370ffa4e6bf7b313a7f1acacffc", func := "loop.example/g00649/laws.FnExactLineAt", spec := "fnExactLineAt", inPlace := ["internal/bytealg.CountString", "internal/bytealg.IndexByteString", "internal/bytealg.IndexString"], named := ["internal/bytealg.MaxLen"], apart := false, narrowed := true }
def FnExactLineAtUptoSaid : Prop := fnExactLineAtUptoRow.holds Try.pinned (OpenSpec.upto fnExactLineAtSpec)

/-- 'laws.FnNumbered', WHERE WHAT IT READS IS OF BULK AT MOST 1048576: true; the input reads as it did. -/
def fnNumberedUptoRow : OpenClaim := { program := "ytnliglgellapdaa", sum := "1a4ae5f4b9054eefab647edd8f18c6ccbfe0d370ffa4e6bf7b313a7f1acacffc", func := "loop.example/g00649/laws.FnNumbered", spec := "fnNumbered", unfollowed := true, recurses := true, apart := false, narrowed := true }
def FnNumberedUptoSaid : Prop := fnNumberedUptoRow.holds Try.pinned (OpenSpec.upto fnNumberedSpec)

/-- 'laws.FnPutFor', WHERE WHAT IT READS IS OF BULK AT MOST 1048576: true; the input reads as it did. -/
def fnPutForUptoRow : OpenClaim := { program := "ytnliglgellapdaa", sum := "1a4ae5f4b9054eefab647edd8f18c6ccbfe0d370ffa4e6bf7b313a7f1acacffc", func := "loop.example/g00649/laws.FnPutFor", spec := "fnPutFor", unfollowed := true, recurses := true, named := ["math/bits.divideError", "math/bits.overflowError"], apart := false, narrowed := true }
def FnPutForUptoSaid : Prop := fnPutForUptoRow.holds Try.pinned (OpenSpec.upto fnPutForSpec)

/-- 'laws.FnJoined', WHERE WHAT IT READS IS OF BULK AT MOST 1048576: true; the input reads as it did. -/
def fnJoinedUptoRow : OpenClaim := { program := "ytnliglgellapdaa", sum := "1a4ae5f4b9054eefab647edd8f18c6ccbfe0d370ffa4e6bf7b313a7f1acacffc", func := "loop.example/g00649/laws.FnJoined", spec := "fnJoined", unfollowed := true, recurses := true, named := ["math/bits.divideError", "math/bits.overflowError"], apart := false, narrowed := true }
def FnJoinedUptoSaid : Prop := fnJoinedUptoRow.holds Try.pinned (OpenSpec.upto fnJoinedSpec)

/-- 'laws.FnBefore', WHERE WHAT IT READS IS OF BULK AT MOST 1048576: true; the input reads as it did. -/
def fnBeforeUptoRow : OpenClaim := { program := "ytnliglgellapdaa", sum := "1a4ae5f4b9054eefab647edd8f18c6ccbfe0d370ffa4e6bf7b313a7f1acacffc", func := "loop.example/g00649/laws.FnBefore", spec := "fnBefore", unfollowed := true, recurses := true, named := ["math/bits.divideError", "math/bits.overflowError"], apart := false, narrowed := true }
def FnBeforeUptoSaid : Prop := fnBeforeUptoRow.holds Try.pinned (OpenSpec.upto fnBeforeSpec)

/-- 'laws.FnSpanned', WHERE WHAT IT READS IS OF BULK AT MOST 1048576: true; the input reads as it did. -/
def fnSpannedUptoRow : OpenClaim := { program := "ytnliglgellapdaa", sum := "1a4ae5f4b9054eefab647edd8f18c6ccbfe0d370ffa4e6bf7b313a7f1acacffc", func := "loop.example/g00649/laws.FnSpanned", spec := "fnSpanned", inPlace := ["math/bits.Add64"], unfollowed := true, recurses := true, named := ["math/bits.divideError", "math/bits.overflowError"], apart := false, narrowed := true }
def FnSpannedUptoSaid : Prop := fnSpannedUptoRow.holds Try.pinned (OpenSpec.upto fnSpannedSpec)

end Rows
end Go.Proofs.Ytnliglgellapdaa
