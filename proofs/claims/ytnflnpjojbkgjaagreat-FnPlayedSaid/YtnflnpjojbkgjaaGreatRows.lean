/-
  No cell of these rows narrows 'for every input' (looked for: loops, veiled, ifaces, maps, wideKeys, modest, calm, conditions, laid).
  DERIVED. THE GIVEN ROWS OF THIS SEAT. 5 by the template 'for every input the law returns true; each argument reads behind the call as it read before'; 0 by the template 'total and deterministic' (their statements: YtnflnpjojbkgjaaGreatTotals.lean).
  GIVEN WITH THE SEED: the statements are not yours to turn. If you find one false, say at which input.
  Laid BY PROGRAM, IN A SANDBOX (cutbox-rows.mjs): the forced cells as the released guide's own fill.sh prints them over the translation 397a6f8d50439f01… (all of the seat's roots in one cut). By AI agents, Wed Nov 11 2026. No macro, syntax, notation, axiom, sorry.
-/
import Derived.Test.YtnflnpjojbkgjaaGreatChecked
import GoSem.Claim
import GoSem.ClaimJoined
import GoSem.ClaimMapViews
import Derived.JoinedTies
import Derived.KernelRfl
namespace Go.Proofs.YtnflnpjojbkgjaaGreat
/- THE CELL 'sum', in the pinned program and in every row, IS THE sha256 OF THE DUMP (.gsa) THAT YtnflnpjojbkgjaaGreatProg.lean LOADS. Nothing in Lean hashes anything: it is a label: what it is worth is what the hold of that sum in a sandbox is worth. -/
noncomputable def Tryz.pinned : Pinned := { name := "ytnflnpjojbkgjaagreat", sum := "397a6f8d50439f018cd60b55fe8c56607df692f5821505a948d93562fc413984", checked := Tryz.checked }
namespace Rows
def none {H : Type} : Left H := { results := [], args := [] }

/-- 'laws.FnApart': WHATEVER THE INPUT: true; the input reads as it did. -/
def fnApartSpec : ChangeSpec := { name := "fnApart", fn := fun _ => fun
  | [d1, d2] => { results := [.lit (.bool true)], args := [d1, d2] }
  | _ => none }
def fnApartRow : OpenClaim := { program := "ytnflnpjojbkgjaagreat", sum := "397a6f8d50439f018cd60b55fe8c56607df692f5821505a948d93562fc413984", func := "loop.example/g00649/laws.FnApart", spec := "fnApart", unfollowed := true, recurses := true, named := ["math/bits.divideError", "math/bits.overflowError"], apart := false }
def FnApartSaid : Prop := fnApartRow.holds Tryz.pinned (OpenSpec.ofChange fnApartSpec)

/-- ITS FALSE NEIGHBOUR: 'it returns false'. Refute it at one input. -/
def fnApartWrong : ChangeSpec := { name := "fnApart", fn := fun _ => fun
  | [d1, d2] => { results := [.lit (.bool false)], args := [d1, d2] }
  | _ => none }
def FnApartWrongFalsely : Prop := fnApartRow.holds Tryz.pinned (OpenSpec.ofChange fnApartWrong)

/-- 'laws.FnCommute': WHATEVER THE INPUT: true; the input reads as it did. -/
def fnCommuteSpec : ChangeSpec := { name := "fnCommute", fn := fun _ => fun
  | [d1, d2] => { results := [.lit (.bool true)], args := [d1, d2] }
  | _ => none }
def fnCommuteRow : OpenClaim := { program := "ytnflnpjojbkgjaagreat", sum := "397a6f8d50439f018cd60b55fe8c56607df692f5821505a948d93562fc413984", func := "loop.example/g00649/laws.FnCommute", spec := "fnCommute", unfollowed := true, recurses := true, named := ["math/bits.divideError", "math/bits.overflowError"], apart := false }
def FnCommuteSaid : Prop := fnCommuteRow.holds Tryz.pinned (OpenSpec.ofChange fnCommuteSpec)

/-- ITS FALSE NEIGHBOUR: 'it returns false'. Refute it at one input. -/
def fnCommuteWrong : ChangeSpec := { name := "fnCommute", fn := fun _ => fun
  | [d1, d2] => { results := [.lit (.bool false)], args := [d1, d2] }
  | _ => none }
def FnCommuteWrongFalsely : Prop := fnCommuteRow.holds Tryz.pinned (OpenSpec.ofChange fnCommuteWrong)

/-- 'laws.FnBeforeAll': WHATEVER THE INPUT: true; the input reads as it did. -/
def fnBeforeAllSpec : ChangeSpec := { name := "fnBeforeAll", fn := fun _ => fun
  | [d1, d2] => { results := [.lit (.bool true)], args := [d1, d2] }
  | _ => none }
def fnBeforeAllRow : OpenClaim := { program := "ytnflnpjojbkgjaagreat", sum := "397a6f8d50439f018cd60b55fe8c56607df692f5821505a948d93562fc413984", func := "loop.example/g00649/laws.FnBeforeAll", spec := "fnBeforeAll", unfollowed := true, recurses := true, named := ["math/bits.divideError", "math/bits.overflowError"], apart := false }
def FnBeforeAllSaid : Prop := fnBeforeAllRow.holds Tryz.pinned (OpenSpec.ofChange fnBeforeAllSpec)

/-- ITS FALSE NEIGHBOUR: 'it returns false'. Refute it at one input. -/
def fnBeforeAllWrong : ChangeSpec := { name := "fnBeforeAll", fn := fun _ => fun
  | [d1, d2] => { results := [.lit (.bool false)], args := [d1, d2] }
  | _ => none }
def FnBeforeAllWrongFalsely : Prop := fnBeforeAllRow.holds Tryz.pinned (OpenSpec.ofChange fnBeforeAllWrong)

/-- 'laws.FnPlayed': WHATEVER THE INPUT: true; the input reads as it did. -/
def fnPlayedSpec : ChangeSpec := { name := "fnPlayed", fn := fun _ => fun
  | [d1, d2] => { results := [.lit (.bool true)], args := [d1, d2] }
  | _ => none }
def fnPlayedRow : OpenClaim := { program := "ytnflnpjojbkgjaagreat", sum := "397a6f8d50439f018cd60b55fe8c56607df692f5821505a948d93562fc413984", func := "loop.example/g00649/laws.FnPlayed", spec := "fnPlayed", unfollowed := true, recurses := true, named := ["math/bits.divideError", "math/bits.overflowError"], apart := false }
def FnPlayedSaid : Prop := fnPlayedRow.holds Tryz.pinned (OpenSpec.ofChange fnPlayedSpec)

/-- ITS FALSE NEIGHBOUR: 'it returns false'. Refute it at one input. -/
def fnPlayedWrong : ChangeSpec := { name := "fnPlayed", fn := fun _ => fun
  | [d1, d2] => { results := [.lit (.bool false)], args := [d1, d2] }
  | _ => none }
def FnPlayedWrongFalsely : Prop := fnPlayedRow.holds Tryz.pinned (OpenSpec.ofChange fnPlayedWrong)

/-- 'laws.FnHoare': WHATEVER THE INPUT: true; the input reads as it did. -/
def fnHoareSpec : ChangeSpec := { name := "fnHoare", fn := fun _ => fun
  | [d1, d2] => { results := [.lit (.bool true)], args := [d1, d2] }
  | _ => none }
def fnHoareRow : OpenClaim := { program := "ytnflnpjojbkgjaagreat", sum := "397a6f8d50439f018cd60b55fe8c56607df692f5821505a948d93562fc413984", func := "loop.example/g00649/laws.FnHoare", spec := "fnHoare", unfollowed := true, recurses := true, named := ["math/bits.divideError", "math/bits.overflowError"], apart := false }
def FnHoareSaid : Prop := fnHoareRow.holds Tryz.pinned (OpenSpec.ofChange fnHoareSpec)

/-- ITS FALSE NEIGHBOUR: 'it returns false'. Refute it at one input. -/
def fnHoareWrong : ChangeSpec := { name := "fnHoare", fn := fun _ => fun
  | [d1, d2] => { results := [.lit (.bool false)], args := [d1, d2] }
  | _ => none }
def FnHoareWrongFalsely : Prop := fnHoareRow.holds Tryz.pinned (OpenSpec.ofChange fnHoareWrong)

/- THE SECOND FORM. 'bulk': how many values and letters a reading holds, each counted each time it is reached (what is shared counts as often as it is met; a slice's spare places count too). A statement '..UptoSaid' is the law's where the arguments, and the package variables that the reading takes, are together of bulk at most 1048576: NARROWER than '..Said'. Prove '..Said' where nothing that the law and all that it calls make is longer than what came in: it says more and counts as full. Else prove '..UptoSaid'. A law counts once. -/
mutual
def uptoBulk {H : Type} : DataW H → Nat
  | .lit (.string bytes) => bytes.length + 1
  | .lit _ => 1
  | .nil => 1
  | .ptr d => uptoBulk d + 1
  | .slice elems spare => uptoBulkAll elems + uptoBulkAll spare + 1
  | .agg parts => uptoBulkAll parts + 1
  | .iface _ d => uptoBulk d + 1
  | .map entries => uptoBulkEntries entries + 1
  | .held _ => 1
def uptoBulkAll {H : Type} : List (DataW H) → Nat
  | [] => 0
  | d :: r => uptoBulk d + uptoBulkAll r
def uptoBulkEntries {H : Type} : List (Lit × DataW H) → Nat
  | [] => 0
  | x :: r => uptoBulkEntry x + uptoBulkEntries r
def uptoBulkEntry {H : Type} : Lit × DataW H → Nat
  | (.string bytes, d) => bytes.length + uptoBulk d + 1
  | (_, d) => uptoBulk d + 1
 end
def uptoSmall : (H : Type) → List (DataW H) → Bool := fun _ ds => decide (uptoBulkAll ds ≤ 1048576)
def OpenSpec.upto (s : _root_.Go.ChangeSpec) : _root_.Go.OpenSpec := { _root_.Go.OpenSpec.ofChange s with cond := some uptoSmall }

/-- 'laws.FnApart', WHERE WHAT IT READS IS OF BULK AT MOST 1048576: true; the input reads as it did. -/
def fnApartUptoRow : OpenClaim := { program := "ytnflnpjojbkgjaagreat", sum := "397a6f8d50439f018cd60b55fe8c56607df692f5821505a948d93562fc413984", func := "loop.example/g00649/laws.FnApart", spec := "fnApart", unfollowed := true, recurses := true, named := ["math/bits.divideError", "math/bits.overflowError"], apart := false, narrowed := true }
def FnApartUptoSaid : Prop := fnApartUptoRow.holds Tryz.pinned (OpenSpec.upto fnApartSpec)

/-- 'laws.FnCommute', WHERE WHAT IT READS IS OF BULK AT MOST 1048576: true; the input reads as it did. -/
def fnCommuteUptoRow : OpenClaim := { program := "ytnflnpjojbkgjaagreat", sum := "397a6f8d50439f018cd60b55fe8c56607df692f5821505a948d93562fc413984", func := "loop.example/g00649/laws.FnCommute", spec := "fnCommute", unfollowed := true, recurses := true, named := ["math/bits.divideError", "math/bits.overflowError"], apart := false, narrowed := true }
def FnCommuteUptoSaid : Prop := fnCommuteUptoRow.holds Tryz.pinned (OpenSpec.upto fnCommuteSpec)

/-- 'laws.FnBeforeAll', WHERE WHAT IT READS IS OF BULK AT MOST 1048576: true; the input reads as it did. -/
def fnBeforeAllUptoRow : OpenClaim := { program := "ytnflnpjojbkgjaagreat", sum := "397a6f8d50439f018cd60b55fe8c56607df692f5821505a948d93562fc413984", func := "loop.example/g00649/laws.FnBeforeAll", spec := "fnBeforeAll", unfollowed := true, recurses := true, named := ["math/bits.divideError", "math/bits.overflowError"], apart := false, narrowed := true }
def FnBeforeAllUptoSaid : Prop := fnBeforeAllUptoRow.holds Tryz.pinned (OpenSpec.upto fnBeforeAllSpec)

/-- 'laws.FnPlayed', WHERE WHAT IT READS IS OF BULK AT MOST 1048576: true; the input reads as it did. -/
def fnPlayedUptoRow : OpenClaim := { program := "ytnflnpjojbkgjaagreat", sum := "397a6f8d50439f018cd60b55fe8c56607df692f5821505a948d93562fc413984", func := "loop.example/g00649/laws.FnPlayed", spec := "fnPlayed", unfollowed := true, recurses := true, named := ["math/bits.divideError", "math/bits.overflowError"], apart := false, narrowed := true }
def FnPlayedUptoSaid : Prop := fnPlayedUptoRow.holds Tryz.pinned (OpenSpec.upto fnPlayedSpec)

/-- 'laws.FnHoare', WHERE WHAT IT READS IS OF BULK AT MOST 1048576: true; the input reads as it did. -/
def fnHoareUptoRow : OpenClaim := { program := "ytnflnpjojbkgjaagreat", sum := "397a6f8d50439f018cd60b55fe8c56607df692f5821505a948d93562fc413984", func := "loop.example/g00649/laws.FnHoare", spec := "fnHoare", unfollowed := true, recurses := true, named := ["math/bits.divideError", "math/bits.overflowError"], apart := false, narrowed := true }
def FnHoareUptoSaid : Prop := fnHoareUptoRow.holds Tryz.pinned (OpenSpec.upto fnHoareSpec)

end Rows
end Go.Proofs.YtnflnpjojbkgjaaGreat
