/- Normal forms: printed by nf.py. -/
import Derived.Test.YtnliglgellapdaaCs
set_option linter.unusedVariables false
set_option maxRecDepth 100000
namespace Go.Proofs.Ytnliglgellapdaa
open Go.Dp
/-! 3 : laws.FnExactLineAt -/
theorem n3 (k : Nat) (aS : ByteArray) (aAt : Int) : c3 (k + 1) aS aAt =
 bif decide ((aS.size : Int) > 1048576) then
  r3 true
 else
  R9 (c9 k aS aAt) fun v1 v2 b1 =>
  R10 (c10 k aS aAt) fun v3 v4 b2 =>
  bif (v3 != v1) then
   r3 false
  else
   bif (v4 != v2) then
    r3 false
   else
    bif (!(b2 == b1)) then
     r3 false
    else r3 true := by kernel_rfl
/-! 9 : spec.LineAt -/
theorem n9 (k : Nat) (qs : ByteArray) (at1 : Int) : c9 (k + 1) qs at1 =
 bif decide ((qs.size : Int) > 6000) then
  r9 0 0 false
 else
  R54 (c54 k at1 0 (qs.size : Int)) fun b1 =>
  bif !b1 then
   r9 0 0 false
  else L9_1 k k qs at1 1 0 0 := by kernel_rfl
theorem sL9_1 (k n : Nat) (qs : ByteArray) (at1 line ahead i : Int) : L9_1 k (n + 1) qs at1 line ahead i =
 bif decide (i < at1) then
  (byteAt qs i).bind fun b1 =>
  bif (b1 == 10) then
   L9_1 k n qs at1 (IntKind.i64.wrap (line + 1)) 0 (IntKind.i64.wrap (i + 1))
  else L9_1 k n qs at1 line (IntKind.i64.wrap (ahead + 1)) (IntKind.i64.wrap (i + 1))
 else r9 line ahead true := by kernel_rfl
/-! 10 : impl.LineAt -/
theorem n10 (k : Nat) (qs : ByteArray) (at1 : Int) : c10 (k + 1) qs at1 =
 bif decide ((qs.size : Int) > 6000) then
  r10 0 0 false
 else
  bif decide (at1 < 0) then
   r10 0 0 false
  else
   bif decide (at1 > (qs.size : Int)) then
    r10 0 0 false
   else
    bif decide ((0 : Int) ≤ at1) && decide (at1 ≤ (qs.size : Int)) then
     bif decide ((0 : Int) ≤ at1) && decide (at1 ≤ (qs.size : Int)) then
      R55 (c55 k (qs.extract 0 at1.toNat) ⟨#[10]⟩) fun v1 =>
      R56 (c56 k (qs.extract 0 at1.toNat) ⟨#[10]⟩) fun v2 =>
      r10 (IntKind.i64.wrap (v1 + 1)) (IntKind.i64.wrap ((IntKind.i64.wrap (at1 - v2)) - 1)) true
     else none
    else none := by kernel_rfl
/-! 54 : spec.l1In -/
theorem n54 (k : Nat) (n1 lo hi : Int) : c54 (k + 1) n1 lo hi =
 bif decide (n1 ≥ lo) then
  r54 (decide (n1 ≤ hi))
 else r54 false := by kernel_rfl
/-! 55 : strings.Count -/
theorem n55 (k : Nat) (qs : ByteArray) (c : UInt8) : c55 (k + 1) qs ⟨#[c]⟩ = r55 (Lib.countByte qs.data.toList c : Nat) := evF_T (by simp [T, orT, countT])
/-! 56 : strings.LastIndex -/
theorem n56 (k : Nat) (qs substr : ByteArray) : c56 (k + 1) qs substr =
 bif ((substr.size : Int) == 0) then
  r56 (qs.size : Int)
 else
  bif ((substr.size : Int) == 1) then
   (byteAt substr 0).bind fun b1 =>
   R127 (c127 k qs b1) fun v1 =>
   r56 v1
  else
   bif ((substr.size : Int) == (qs.size : Int)) then
    bif (substr.toList == qs.toList) then
     r56 0
    else r56 (-1)
   else
    bif decide ((substr.size : Int) > (qs.size : Int)) then
     r56 (-1)
    else
     R128 (c128 k qs substr) fun v2 =>
     r56 v2 := by kernel_rfl
/-! 127 : bytealg.LastIndexByteString -/
theorem n127 (k : Nat) (qs : ByteArray) (qc : Int) : c127 (k + 1) qs qc =
 L127_1 k k qs qc (IntKind.i64.wrap ((qs.size : Int) - 1)) := by kernel_rfl
theorem sL127_1 (k n : Nat) (qs : ByteArray) (qc i : Int) : L127_1 k (n + 1) qs qc i =
 bif decide (i ≥ 0) then
  (byteAt qs i).bind fun b1 =>
  bif (b1 == qc) then
   r127 i
  else L127_1 k n qs qc (IntKind.i64.wrap (i - 1))
 else r127 (-1) := by kernel_rfl
/-! 128 : bytealg.LastIndexRabinKarp[string] -/
theorem n128 (k : Nat) (qs sep : ByteArray) : c128 (k + 1) qs sep =
 R160 (c160 k sep) fun v1 v2 =>
 L128_1 k k qs sep v1 v2 (sep.size : Int) (IntKind.i64.wrap ((qs.size : Int) - (sep.size : Int))) 0 (IntKind.i64.wrap ((qs.size : Int) - 1)) := by kernel_rfl
theorem sL128_1 (k n : Nat) (qs sep : ByteArray) (hashss pow n1 last h i : Int) : L128_1 k (n + 1) qs sep hashss pow n1 last h i =
 bif decide (i ≥ last) then
  (byteAt qs i).bind fun b1 =>
  L128_1 k n qs sep hashss pow n1 last (IntKind.u32.wrap ((IntKind.u32.wrap (h * 16777619)) + (IntKind.u32.wrap b1))) (IntKind.i64.wrap (i - 1))
 else
  bif (h == hashss) then
   bif decide ((0 : Int) ≤ last) && decide (last ≤ (qs.size : Int)) && decide ((qs.size : Int) ≤ (qs.size : Int)) then
    bif ((qs.extract last.toNat qs.size).toList == sep.toList) then
     r128 last
    else L128_2 k k qs sep hashss pow n1 h (IntKind.i64.wrap (last - 1))
   else none
  else L128_2 k k qs sep hashss pow n1 h (IntKind.i64.wrap (last - 1)) := by kernel_rfl
theorem sL128_2 (k n : Nat) (qs sep : ByteArray) (hashss pow n1 h i : Int) : L128_2 k (n + 1) qs sep hashss pow n1 h i =
 bif decide (i ≥ 0) then
  (byteAt qs i).bind fun b1 =>
  (byteAt qs (IntKind.i64.wrap (i + n1))).bind fun b2 =>
  bif (IntKind.u32.wrap ((IntKind.u32.wrap ((IntKind.u32.wrap (h * 16777619)) + (IntKind.u32.wrap b1))) - (IntKind.u32.wrap (pow * (IntKind.u32.wrap b2)))) == hashss) then
   bif decide ((0 : Int) ≤ i) && decide (i ≤ IntKind.i64.wrap (i + n1)) && decide (IntKind.i64.wrap (i + n1) ≤ (qs.size : Int)) then
    bif ((qs.extract i.toNat ((IntKind.i64.wrap (i + n1)).toNat)).toList == sep.toList) then
     r128 i
    else L128_2 k n qs sep hashss pow n1 (IntKind.u32.wrap ((IntKind.u32.wrap ((IntKind.u32.wrap (h * 16777619)) + (IntKind.u32.wrap b1))) - (IntKind.u32.wrap (pow * (IntKind.u32.wrap b2))))) (IntKind.i64.wrap (i - 1))
   else none
  else L128_2 k n qs sep hashss pow n1 (IntKind.u32.wrap ((IntKind.u32.wrap ((IntKind.u32.wrap (h * 16777619)) + (IntKind.u32.wrap b1))) - (IntKind.u32.wrap (pow * (IntKind.u32.wrap b2))))) (IntKind.i64.wrap (i - 1))
 else r128 (-1) := by kernel_rfl
/-! 160 : bytealg.hashStrRev[string] -/
theorem n160 (k : Nat) (sep : ByteArray) : c160 (k + 1) sep =
 L160_1 k k sep 0 (IntKind.i64.wrap ((sep.size : Int) - 1)) := by kernel_rfl
theorem sL160_1 (k n : Nat) (sep : ByteArray) (hash i : Int) : L160_1 k (n + 1) sep hash i =
 bif decide (i ≥ 0) then
  (byteAt sep i).bind fun b1 =>
  L160_1 k n sep (IntKind.u32.wrap ((IntKind.u32.wrap (hash * 16777619)) + (IntKind.u32.wrap b1))) (IntKind.i64.wrap (i - 1))
 else L160_2 k k hash 1 16777619 (sep.size : Int) := by kernel_rfl
theorem sL160_2 (k n : Nat) (hash pow sq i : Int) : L160_2 k (n + 1) hash pow sq i =
 bif decide (i > 0) then
  bif (bitsOp .and .i64 i 1 != 0) then
   L160_2 k n hash (IntKind.u32.wrap (pow * sq)) (IntKind.u32.wrap (sq * sq)) (shrI .i64 i 1)
  else L160_2 k n hash pow (IntKind.u32.wrap (sq * sq)) (shrI .i64 i 1)
 else r160 hash pow := by kernel_rfl
end Go.Proofs.Ytnliglgellapdaa
