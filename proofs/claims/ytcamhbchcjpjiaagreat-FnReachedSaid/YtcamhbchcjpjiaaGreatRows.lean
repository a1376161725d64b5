/-
  No cell of these rows narrows 'for every input' (looked for: loops, veiled, ifaces, maps, wideKeys, modest, calm, conditions, laid).
  DERIVED. THE GIVEN ROWS OF THIS SEAT. 3 by the template 'for every input the law returns true; each argument reads behind the call as it read before'; 0 by the template 'total and deterministic' (their statements: YtcamhbchcjpjiaaGreatTotals.lean).
  GIVEN WITH THE SEED: the statements are not yours to turn. If you find one false, say at which input.
  Laid BY PROGRAM, IN A SANDBOX (cutbox-rows.mjs): the forced cells as the released guide's own fill.sh prints them over the translation aeb750e02edae008… (all of the seat's roots in one cut). By AI agents, Wed Nov 11 2026. No macro, syntax, notation, axiom, sorry.
-/
import Derived.Test.YtcamhbchcjpjiaaGreatChecked
import GoSem.Claim
import GoSem.ClaimJoined
import GoSem.ClaimMapViews
import Derived.JoinedTies
import Derived.KernelRfl
namespace Go.Proofs.YtcamhbchcjpjiaaGreat
/- THE CELL 'sum', in the pinned program and in every row, IS THE sha256 OF THE DUMP (.gsa) THAT YtcamhbchcjpjiaaGreatProg.lean LOADS. Nothing in Lean hashes anything: it is a label: what it is worth is what the hold of that sum in a sandbox is worth. -/
noncomputable def Tryz.pinned : Pinned := { name := "ytcamhbchcjpjiaagreat", sum := "aeb750e02edae0087a5c268b19544c2e96059ffcab4ad5f4b04c854900d6a85a", checked := Tryz.checked }
namespace Rows
def none {H : Type} : Left H := { results := [], args := [] }

/-- 'laws.FnBeforeAll': WHATEVER THE INPUT: true; the input reads as it did. -/
def fnBeforeAllSpec : ChangeSpec := { name := "fnBeforeAll", fn := fun _ => fun
  | [d1, d2] => { results := [.lit (.bool true)], args := [d1, d2] }
  | _ => none }
def fnBeforeAllRow : OpenClaim := { program := "ytcamhbchcjpjiaagreat", sum := "aeb750e02edae0087a5c268b19544c2e96059ffcab4ad5f4b04c854900d6a85a", func := "loop.example/g00649/laws.FnBeforeAll", spec := "fnBeforeAll", unfollowed := true, recurses := true, named := ["math/bits.divideError", "math/bits.overflowError"], apart := false }
def FnBeforeAllSaid : Prop := fnBeforeAllRow.holds Tryz.pinned (OpenSpec.ofChange fnBeforeAllSpec)

/-- ITS FALSE NEIGHBOUR: 'it returns false'. Refute it at one input. -/
def fnBeforeAllWrong : ChangeSpec := { name := "fnBeforeAll", fn := fun _ => fun
  | [d1, d2] => { results := [.lit (.bool false)], args := [d1, d2] }
  | _ => none }
def FnBeforeAllWrongFalsely : Prop := fnBeforeAllRow.holds Tryz.pinned (OpenSpec.ofChange fnBeforeAllWrong)

/-- 'laws.FnBackAndForth': WHATEVER THE INPUT: true; the input reads as it did. -/
def fnBackAndForthSpec : ChangeSpec := { name := "fnBackAndForth", fn := fun _ => fun
  | [d1, d2] => { results := [.lit (.bool true)], args := [d1, d2] }
  | _ => none }
def fnBackAndForthRow : OpenClaim := { program := "ytcamhbchcjpjiaagreat", sum := "aeb750e02edae0087a5c268b19544c2e96059ffcab4ad5f4b04c854900d6a85a", func := "loop.example/g00649/laws.FnBackAndForth", spec := "fnBackAndForth", unfollowed := true, recurses := true, named := ["math/bits.divideError", "math/bits.overflowError"], apart := false }
def FnBackAndForthSaid : Prop := fnBackAndForthRow.holds Tryz.pinned (OpenSpec.ofChange fnBackAndForthSpec)

/-- ITS FALSE NEIGHBOUR: 'it returns false'. Refute it at one input. -/
def fnBackAndForthWrong : ChangeSpec := { name := "fnBackAndForth", fn := fun _ => fun
  | [d1, d2] => { results := [.lit (.bool false)], args := [d1, d2] }
  | _ => none }
def FnBackAndForthWrongFalsely : Prop := fnBackAndForthRow.holds Tryz.pinned (OpenSpec.ofChange fnBackAndForthWrong)

/-- 'laws.FnReached': WHATEVER THE INPUT: true; the input reads as it did. -/
def fnReachedSpec : ChangeSpec := { name := "fnReached", fn := fun _ => fun
  | [d1, d2] => { results := [.lit (.bool true)], args := [d1, d2] }
  | _ => none }
def fnReachedRow : OpenClaim := { program := "ytcamhbchcjpjiaagreat", sum := "aeb750e02edae0087a5c268b19544c2e96059ffcab4ad5f4b04c854900d6a85a", func := "loop.example/g00649/laws.FnReached", spec := "fnReached", unfollowed := true, recurses := true, named := ["math/bits.divideError", "math/bits.overflowError"], apart := false }
def FnReachedSaid : Prop := fnReachedRow.holds Tryz.pinned (OpenSpec.ofChange fnReachedSpec)

/-- ITS FALSE NEIGHBOUR: 'it returns false'. Refute it at one input. -/
def fnReachedWrong : ChangeSpec := { name := "fnReached", fn := fun _ => fun
  | [d1, d2] => { results := [.lit (.bool false)], args := [d1, d2] }
  | _ => none }
def FnReachedWrongFalsely : Prop := fnReachedRow.holds Tryz.pinned (OpenSpec.ofChange fnReachedWrong)

/- THE SECOND FORM. 'bulk': how many values and letters a reading holds, each counted each time it is reached (what is shared counts as often as it is met; a slice's spare places count too). A statement '..UptoSaid' is the law's where the arguments, and the package variables that the reading takes, are together of bulk at most 1048576: NARROWER than '..Said'. Prove '..Said' where nothing that the law and all that it calls make is longer than what came in: it says more and counts as full. Else prove '..UptoSaid'. A law counts once. -/
mutual
def uptoBulk {H : Type} : DataW H → Nat
  | .lit (.string bytes) => bytes.length + 1
  | .lit _ => 1
  | .nil => 1
  | .ptr d => uptoBulk d + 1
  | .slice elems spare => uptoBulkAll elems + uptoBulkAll spare + 1
  | .agg parts => uptoBulkAll parts + 1
  | .iface _ d => uptoBulk d + 1
  | .map entries => uptoBulkEntries entries + 1
  | .held _ => 1
def uptoBulkAll {H : Type} : List (DataW H) → Nat
  | [] => 0
  | d :: r => uptoBulk d + uptoBulkAll r
def uptoBulkEntries {H : Type} : List (Lit × DataW H) → Nat
  | [] => 0
  | x :: r => uptoBulkEntry x + uptoBulkEntries r
def uptoBulkEntry {H : Type} : Lit × DataW H → Nat
  | (.string bytes, d) => bytes.length + uptoBulk d + 1
  | (_, d) => uptoBulk d + 1
 end
def uptoSmall : (H : Type) → List (DataW H) → Bool := fun _ ds => decide (uptoBulkAll ds ≤ 1048576)
def OpenSpec.upto (s : _root_.Go.ChangeSpec) : _root_.Go.OpenSpec := { _root_.Go.OpenSpec.ofChange s with cond := some uptoSmall }

/-- 'laws.FnBeforeAll', WHERE WHAT IT READS IS OF BULK AT MOST 1048576: true; the input reads as it did. -/
def fnBeforeAllUptoRow : OpenClaim := { program := "ytcamhbchcjpjiaagreat", sum := "aeb750e02edae0087a5c268b19544c2e96059ffcab4ad5f4b04c854900d6a85a", func := "loop.example/g00649/laws.FnBeforeAll", spec := "fnBeforeAll", unfollowed := true, recurses := true, named := ["math/bits.divideError", "math/bits.overflowError"], apart := false, narrowed := true }
def FnBeforeAllUptoSaid : Prop := fnBeforeAllUptoRow.holds Tryz.pinned (OpenSpec.upto fnBeforeAllSpec)

/-- 'laws.FnBackAndForth', WHERE WHAT IT READS IS OF BULK AT MOST 1048576: true; the input reads as it did. -/
def fnBackAndForthUptoRow : OpenClaim := { program := "ytcamhbchcjpjiaagreat", sum := "aeb750e02edae0087a5c268b19544c2e96059ffcab4ad5f4b04c854900d6a85a", func := "loop.example/g00649/laws.FnBackAndForth", spec := "fnBackAndForth", unfollowed := true, recurses := true, named := ["math/bits.divideError", "math/bits.overflowError"], apart := false, narrowed := true }
def FnBackAndForthUptoSaid : Prop := fnBackAndForthUptoRow.holds Tryz.pinned (OpenSpec.upto fnBackAndForthSpec)

/-- 'laws.FnReached', WHERE WHAT IT READS IS OF BULK AT MOST 1048576: true; the input reads as it did. -/
def fnReachedUptoRow : OpenClaim := { program := "ytcamhbchcjpjiaagreat", sum := "aeb750e02edae0087a5c268b19544c2e96059ffcab4ad5f4b04c854900d6a85a", func := "loop.example/g00649/laws.FnReached", spec := "fnReached", unfollowed := true, recurses := true, named := ["math/bits.divideError", "math/bits.overflowError"], apart := false, narrowed := true }
def FnReachedUptoSaid : Prop := fnReachedUptoRow.holds Tryz.pinned (OpenSpec.upto fnReachedSpec)

end Rows
end Go.Proofs.YtcamhbchcjpjiaaGreat
