/-
  No cell of these rows narrows 'for every input' (looked for: loops, veiled, ifaces, maps, wideKeys, modest, calm, conditions, laid).
  DERIVED. THE GIVEN ROWS OF THIS SEAT. 6 by the template 'for every input the law returns true; each argument reads behind the call as it read before'; 0 by the template 'total and deterministic' (their statements: YtgdegfijcijnoaaGreatTotals.lean).
  GIVEN WITH THE SEED: the statements are not yours to turn. If you find one false, say at which input.
  Laid BY PROGRAM, IN A SANDBOX (cutbox-rows.mjs): the forced cells as the released guide's own fill.sh prints them over the translation 5f1349c64131132f… (all of the seat's roots in one cut). By AI agents, Wed Nov 11 2026. No macro, syntax, notation, axiom, sorry.
-/
import Derived.Test.YtgdegfijcijnoaaGreatChecked
import GoSem.Claim
import GoSem.ClaimJoined
import GoSem.ClaimMapViews
import Derived.JoinedTies
import Derived.KernelRfl
namespace Go.Proofs.YtgdegfijcijnoaaGreat
/- THE CELL 'sum', in the pinned program and in every row, IS THE sha256 OF THE DUMP (.gsa) THAT YtgdegfijcijnoaaGreatProg.lean LOADS. Nothing in Lean hashes anything: it is a label: what it is worth is what the hold of that sum in a sandbox is worth. -/
noncomputable def Tryz.pinned : Pinned := { name := "ytgdegfijcijnoaagreat", sum := "5f1349c64131132f528bcc9dfe875f65a34b9de644bb5d5e7ab7ec2351af7e06", checked := Tryz.checked }
namespace Rows
def none {H : Type} : Left H := { results := [], args := [] }

/-- 'laws.FnRealLasso': WHATEVER THE INPUT: true; the input reads as it did. -/
def fnRealLassoSpec : ChangeSpec := { name := "fnRealLasso", fn := fun _ => fun
  | [d1, d2] => { results := [.lit (.bool true)], args := [d1, d2] }
  | _ => none }
def fnRealLassoRow : OpenClaim := { program := "ytgdegfijcijnoaagreat", sum := "5f1349c64131132f528bcc9dfe875f65a34b9de644bb5d5e7ab7ec2351af7e06", func := "loop.example/g00649/laws.FnRealLasso", spec := "fnRealLasso", unfollowed := true, recurses := true, named := ["math/bits.divideError", "math/bits.overflowError"], plainKeys := false, apart := false }
def FnRealLassoSaid : Prop := fnRealLassoRow.holds Tryz.pinned (OpenSpec.ofChange fnRealLassoSpec)

/-- ITS FALSE NEIGHBOUR: 'it returns false'. Refute it at one input. -/
def fnRealLassoWrong : ChangeSpec := { name := "fnRealLasso", fn := fun _ => fun
  | [d1, d2] => { results := [.lit (.bool false)], args := [d1, d2] }
  | _ => none }
def FnRealLassoWrongFalsely : Prop := fnRealLassoRow.holds Tryz.pinned (OpenSpec.ofChange fnRealLassoWrong)

/-- 'laws.FnCut': WHATEVER THE INPUT: true; the input reads as it did. -/
def fnCutSpec : ChangeSpec := { name := "fnCut", fn := fun _ => fun
  | [d1, d2] => { results := [.lit (.bool true)], args := [d1, d2] }
  | _ => none }
def fnCutRow : OpenClaim := { program := "ytgdegfijcijnoaagreat", sum := "5f1349c64131132f528bcc9dfe875f65a34b9de644bb5d5e7ab7ec2351af7e06", func := "loop.example/g00649/laws.FnCut", spec := "fnCut", unfollowed := true, recurses := true, named := ["math/bits.divideError", "math/bits.overflowError"], plainKeys := false, apart := false }
def FnCutSaid : Prop := fnCutRow.holds Tryz.pinned (OpenSpec.ofChange fnCutSpec)

/-- ITS FALSE NEIGHBOUR: 'it returns false'. Refute it at one input. -/
def fnCutWrong : ChangeSpec := { name := "fnCut", fn := fun _ => fun
  | [d1, d2] => { results := [.lit (.bool false)], args := [d1, d2] }
  | _ => none }
def FnCutWrongFalsely : Prop := fnCutRow.holds Tryz.pinned (OpenSpec.ofChange fnCutWrong)

/-- 'laws.FnCutLasso': WHATEVER THE INPUT: true; the input reads as it did. -/
def fnCutLassoSpec : ChangeSpec := { name := "fnCutLasso", fn := fun _ => fun
  | [d1, d2] => { results := [.lit (.bool true)], args := [d1, d2] }
  | _ => none }
def fnCutLassoRow : OpenClaim := { program := "ytgdegfijcijnoaagreat", sum := "5f1349c64131132f528bcc9dfe875f65a34b9de644bb5d5e7ab7ec2351af7e06", func := "loop.example/g00649/laws.FnCutLasso", spec := "fnCutLasso", unfollowed := true, recurses := true, named := ["math/bits.divideError", "math/bits.overflowError"], plainKeys := false, apart := false }
def FnCutLassoSaid : Prop := fnCutLassoRow.holds Tryz.pinned (OpenSpec.ofChange fnCutLassoSpec)

/-- ITS FALSE NEIGHBOUR: 'it returns false'. Refute it at one input. -/
def fnCutLassoWrong : ChangeSpec := { name := "fnCutLasso", fn := fun _ => fun
  | [d1, d2] => { results := [.lit (.bool false)], args := [d1, d2] }
  | _ => none }
def FnCutLassoWrongFalsely : Prop := fnCutLassoRow.holds Tryz.pinned (OpenSpec.ofChange fnCutLassoWrong)

/-- 'laws.FnNever': WHATEVER THE INPUT: true; the input reads as it did. -/
def fnNeverSpec : ChangeSpec := { name := "fnNever", fn := fun _ => fun
  | [d1, d2] => { results := [.lit (.bool true)], args := [d1, d2] }
  | _ => none }
def fnNeverRow : OpenClaim := { program := "ytgdegfijcijnoaagreat", sum := "5f1349c64131132f528bcc9dfe875f65a34b9de644bb5d5e7ab7ec2351af7e06", func := "loop.example/g00649/laws.FnNever", spec := "fnNever", unfollowed := true, recurses := true, named := ["math/bits.divideError", "math/bits.overflowError"], plainKeys := false, apart := false }
def FnNeverSaid : Prop := fnNeverRow.holds Tryz.pinned (OpenSpec.ofChange fnNeverSpec)

/-- ITS FALSE NEIGHBOUR: 'it returns false'. Refute it at one input. -/
def fnNeverWrong : ChangeSpec := { name := "fnNever", fn := fun _ => fun
  | [d1, d2] => { results := [.lit (.bool false)], args := [d1, d2] }
  | _ => none }
def FnNeverWrongFalsely : Prop := fnNeverRow.holds Tryz.pinned (OpenSpec.ofChange fnNeverWrong)

/-- 'laws.FnInvariant': WHATEVER THE INPUT: true; the input reads as it did. -/
def fnInvariantSpec : ChangeSpec := { name := "fnInvariant", fn := fun _ => fun
  | [d1, d2] => { results := [.lit (.bool true)], args := [d1, d2] }
  | _ => none }
def fnInvariantRow : OpenClaim := { program := "ytgdegfijcijnoaagreat", sum := "5f1349c64131132f528bcc9dfe875f65a34b9de644bb5d5e7ab7ec2351af7e06", func := "loop.example/g00649/laws.FnInvariant", spec := "fnInvariant", unfollowed := true, recurses := true, named := ["math/bits.divideError", "math/bits.overflowError"], plainKeys := false, apart := false }
def FnInvariantSaid : Prop := fnInvariantRow.holds Tryz.pinned (OpenSpec.ofChange fnInvariantSpec)

/-- ITS FALSE NEIGHBOUR: 'it returns false'. Refute it at one input. -/
def fnInvariantWrong : ChangeSpec := { name := "fnInvariant", fn := fun _ => fun
  | [d1, d2] => { results := [.lit (.bool false)], args := [d1, d2] }
  | _ => none }
def FnInvariantWrongFalsely : Prop := fnInvariantRow.holds Tryz.pinned (OpenSpec.ofChange fnInvariantWrong)

/-- 'laws.FnMoreRounds': WHATEVER THE INPUT: true; the input reads as it did. -/
def fnMoreRoundsSpec : ChangeSpec := { name := "fnMoreRounds", fn := fun _ => fun
  | [d1, d2] => { results := [.lit (.bool true)], args := [d1, d2] }
  | _ => none }
def fnMoreRoundsRow : OpenClaim := { program := "ytgdegfijcijnoaagreat", sum := "5f1349c64131132f528bcc9dfe875f65a34b9de644bb5d5e7ab7ec2351af7e06", func := "loop.example/g00649/laws.FnMoreRounds", spec := "fnMoreRounds", unfollowed := true, recurses := true, named := ["math/bits.divideError", "math/bits.overflowError"], plainKeys := false, apart := false }
def FnMoreRoundsSaid : Prop := fnMoreRoundsRow.holds Tryz.pinned (OpenSpec.ofChange fnMoreRoundsSpec)

/-- ITS FALSE NEIGHBOUR: 'it returns false'. Refute it at one input. -/
def fnMoreRoundsWrong : ChangeSpec := { name := "fnMoreRounds", fn := fun _ => fun
  | [d1, d2] => { results := [.lit (.bool false)], args := [d1, d2] }
  | _ => none }
def FnMoreRoundsWrongFalsely : Prop := fnMoreRoundsRow.holds Tryz.pinned (OpenSpec.ofChange fnMoreRoundsWrong)

/- THE SECOND FORM. 'bulk': how many values and letters a reading holds, each counted each time it is reached (what is shared counts as often as it is met; a slice's spare places count too). A statement '..UptoSaid' is the law's where the arguments, and the package variables that the reading takes, are together of bulk at most 1048576: NARROWER than '..Said'. Prove '..Said' where nothing that the law and all that it calls make is longer than what came in: it says more and counts as full. Else prove '..UptoSaid'. A law counts once. -/
mutual
def uptoBulk {H : Type} : DataW H → Nat
  | .lit (.string bytes) => bytes.length + 1
  | .lit _ => 1
  | .nil => 1
  | .ptr d => uptoBulk d + 1
  | .slice elems spare => uptoBulkAll elems + uptoBulkAll spare + 1
  | .agg parts => uptoBulkAll parts + 1
  | .iface _ d => uptoBulk d + 1
  | .map entries => uptoBulkEntries entries + 1
  | .held _ => 1
def uptoBulkAll {H : Type} : List (DataW H) → Nat
  | [] => 0
  | d :: r => uptoBulk d + uptoBulkAll r
def uptoBulkEntries {H : Type} : List (Lit × DataW H) → Nat
  | [] => 0
  | x :: r => uptoBulkEntry x + uptoBulkEntries r
def uptoBulkEntry {H : Type} : Lit × DataW H → Nat
  | (.string bytes, d) => bytes.length + uptoBulk d + 1
  | (_, d) => uptoBulk d + 1
 end
def uptoSmall : (H : Type) → List (DataW H) → Bool := fun _ ds => decide (uptoBulkAll ds ≤ 1048576)
def OpenSpec.upto (s : _root_.Go.ChangeSpec) : _root_.Go.OpenSpec := { _root_.Go.OpenSpec.ofChange s with cond := some uptoSmall }

/-- 'laws.FnRealLasso', WHERE WHAT IT READS IS OF BULK AT MOST 1048576: true; the input reads as it did. -/
def fnRealLassoUptoRow : OpenClaim := { program := "ytgdegfijcijnoaagreat", sum := "5f1349c64131132f528bcc9dfe875f65a34b9de644bb5d5e7ab7ec2351af7e06", func := "loop.example/g00649/laws.FnRealLasso", spec := "fnRealLasso", unfollowed := true, recurses := true, named := ["math/bits.divideError", "math/bits.overflowError"], plainKeys := false, apart := false, narrowed := true }
def FnRealLassoUptoSaid : Prop := fnRealLassoUptoRow.holds Tryz.pinned (OpenSpec.upto fnRealLassoSpec)

/-- 'laws.FnCut', WHERE WHAT IT READS IS OF BULK AT MOST 1048576: true; the input reads as it did. -/
def fnCutUptoRow : OpenClaim := { program := "ytgdegfijcijnoaagreat", sum := "5f1349c64131132f528bcc9dfe875f65a34b9de644bb5d5e7ab7ec2351af7e06", func := "loop.example/g00649/laws.FnCut", spec := "fnCut", unfollowed := true, recurses := true, named := ["math/bits.divideError", "math/bits.overflowError"], plainKeys := false, apart := false, narrowed := true }
def FnCutUptoSaid : Prop := fnCutUptoRow.holds Tryz.pinned (OpenSpec.upto fnCutSpec)

/-- 'laws.FnCutLasso', WHERE WHAT IT READS IS OF BULK AT MOST 1048576: true; the input reads as it did. -/
def fnCutLassoUptoRow : OpenClaim := { program := "ytgdegfijcijnoaagreat", sum := "5f1349c64131132f528bcc9dfe875f65a34b9de644bb5d5e7ab7ec2351af7e06", func := "loop.example/g00649/laws.FnCutLasso", spec := "fnCutLasso", unfollowed := true, recurses := true, named := ["math/bits.divideError", "math/bits.overflowError"], plainKeys := false, apart := false, narrowed := true }
def FnCutLassoUptoSaid : Prop := fnCutLassoUptoRow.holds Tryz.pinned (OpenSpec.upto fnCutLassoSpec)

/-- 'laws.FnNever', WHERE WHAT IT READS IS OF BULK AT MOST 1048576: true; the input reads as it did. -/
def fnNeverUptoRow : OpenClaim := { program := "ytgdegfijcijnoaagreat", sum := "5f1349c64131132f528bcc9dfe875f65a34b9de644bb5d5e7ab7ec2351af7e06", func := "loop.example/g00649/laws.FnNever", spec := "fnNever", unfollowed := true, recurses := true, named := ["math/bits.divideError", "math/bits.overflowError"], plainKeys := false, apart := false, narrowed := true }
def FnNeverUptoSaid : Prop := fnNeverUptoRow.holds Tryz.pinned (OpenSpec.upto fnNeverSpec)

/-- 'laws.FnInvariant', WHERE WHAT IT READS IS OF BULK AT MOST 1048576: true; the input reads as it did. -/
def fnInvariantUptoRow : OpenClaim := { program := "ytgdegfijcijnoaagreat", sum := "5f1349c64131132f528bcc9dfe875f65a34b9de644bb5d5e7ab7ec2351af7e06", func := "loop.example/g00649/laws.FnInvariant", spec := "fnInvariant", unfollowed := true, recurses := true, named := ["math/bits.divideError", "math/bits.overflowError"], plainKeys := false, apart := false, narrowed := true }
def FnInvariantUptoSaid : Prop := fnInvariantUptoRow.holds Tryz.pinned (OpenSpec.upto fnInvariantSpec)

/-- 'laws.FnMoreRounds', WHERE WHAT IT READS IS OF BULK AT MOST 1048576: true; the input reads as it did. -/
def fnMoreRoundsUptoRow : OpenClaim := { program := "ytgdegfijcijnoaagreat", sum := "5f1349c64131132f528bcc9dfe875f65a34b9de644bb5d5e7ab7ec2351af7e06", func := "loop.example/g00649/laws.FnMoreRounds", spec := "fnMoreRounds", unfollowed := true, recurses := true, named := ["math/bits.divideError", "math/bits.overflowError"], plainKeys := false, apart := false, narrowed := true }
def FnMoreRoundsUptoSaid : Prop := fnMoreRoundsUptoRow.holds Tryz.pinned (OpenSpec.upto fnMoreRoundsSpec)

end Rows
end Go.Proofs.YtgdegfijcijnoaaGreat
