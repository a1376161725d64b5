/- Normal forms: printed by nf.py. -/
import Derived.Test.YtnflnpjojbkgjaaGreatCs
set_option linter.unusedVariables false
set_option maxRecDepth 100000
namespace Go.Proofs.YtnflnpjojbkgjaaGreat
open Go.Dp
/-! 233 : bits.Div64 -/
theorem n233 (k : Nat) (hi lo y : Int) : c233 (k + 1) hi lo y =
 bif (y == 0) then
  none
 else
  bif decide (y ≤ hi) then
   none
  else
   bif (hi == 0) then
    bif !(y == 0) then
     bif !(y == 0) then
      r233 (IntKind.u64.wrap (lo.tdiv y)) (lo.tmod y)
     else none
    else none
   else
    R235 (c235 k y) fun v1 =>
    bif !decide (IntKind.u64.wrap v1 < 0) then
     bif !decide (IntKind.u64.wrap v1 < 0) then
      bif !decide (IntKind.u64.wrap (64 - (IntKind.u64.wrap v1)) < 0) then
       bif !decide (IntKind.u64.wrap v1 < 0) then
        bif !(shrI .u64 (shlI .u64 y (IntKind.u64.wrap v1)) 32 == 0) then
         L233_1 k k (shlI .u64 y (IntKind.u64.wrap v1)) (IntKind.u64.wrap v1) (shrI .u64 (shlI .u64 y (IntKind.u64.wrap v1)) 32) (bitsOp .and .u64 (shlI .u64 y (IntKind.u64.wrap v1)) 4294967295) (bitsOp .or .u64 (shlI .u64 hi (IntKind.u64.wrap v1)) (shrI .u64 lo (IntKind.u64.wrap (64 - (IntKind.u64.wrap v1))))) (shrI .u64 (shlI .u64 lo (IntKind.u64.wrap v1)) 32) (bitsOp .and .u64 (shlI .u64 lo (IntKind.u64.wrap v1)) 4294967295) (IntKind.u64.wrap ((bitsOp .or .u64 (shlI .u64 hi (IntKind.u64.wrap v1)) (shrI .u64 lo (IntKind.u64.wrap (64 - (IntKind.u64.wrap v1))))).tdiv (shrI .u64 (shlI .u64 y (IntKind.u64.wrap v1)) 32))) (IntKind.u64.wrap ((bitsOp .or .u64 (shlI .u64 hi (IntKind.u64.wrap v1)) (shrI .u64 lo (IntKind.u64.wrap (64 - (IntKind.u64.wrap v1))))) - (IntKind.u64.wrap ((IntKind.u64.wrap ((bitsOp .or .u64 (shlI .u64 hi (IntKind.u64.wrap v1)) (shrI .u64 lo (IntKind.u64.wrap (64 - (IntKind.u64.wrap v1))))).tdiv (shrI .u64 (shlI .u64 y (IntKind.u64.wrap v1)) 32))) * (shrI .u64 (shlI .u64 y (IntKind.u64.wrap v1)) 32)))))
        else none
       else none
      else none
     else none
    else none := by kernel_rfl
theorem sL233_1 (k n : Nat) (y qs yn1 yn0 un32 un1 un0 q1 rhat : Int) : L233_1 k (n + 1) y qs yn1 yn0 un32 un1 un0 q1 rhat =
 bif decide (q1 ≥ 4294967296) then
  bif decide (IntKind.u64.wrap (rhat + yn1) ≥ 4294967296) then
   bif !(yn1 == 0) then
    L233_2 k k y qs yn1 yn0 un0 (IntKind.u64.wrap (q1 - 1)) (IntKind.u64.wrap ((IntKind.u64.wrap ((IntKind.u64.wrap ((IntKind.u64.wrap (un32 * 4294967296)) + un1)) - (IntKind.u64.wrap ((IntKind.u64.wrap (q1 - 1)) * y)))) - (IntKind.u64.wrap ((IntKind.u64.wrap ((IntKind.u64.wrap ((IntKind.u64.wrap ((IntKind.u64.wrap (un32 * 4294967296)) + un1)) - (IntKind.u64.wrap ((IntKind.u64.wrap (q1 - 1)) * y)))).tdiv yn1)) * yn1)))) (IntKind.u64.wrap ((IntKind.u64.wrap ((IntKind.u64.wrap (un32 * 4294967296)) + un1)) - (IntKind.u64.wrap ((IntKind.u64.wrap (q1 - 1)) * y)))) (IntKind.u64.wrap ((IntKind.u64.wrap ((IntKind.u64.wrap ((IntKind.u64.wrap (un32 * 4294967296)) + un1)) - (IntKind.u64.wrap ((IntKind.u64.wrap (q1 - 1)) * y)))).tdiv yn1))
   else none
  else L233_1 k n y qs yn1 yn0 un32 un1 un0 (IntKind.u64.wrap (q1 - 1)) (IntKind.u64.wrap (rhat + yn1))
 else
  bif decide (IntKind.u64.wrap (q1 * yn0) > IntKind.u64.wrap ((IntKind.u64.wrap (4294967296 * rhat)) + un1)) then
   bif decide (IntKind.u64.wrap (rhat + yn1) ≥ 4294967296) then
    bif !(yn1 == 0) then
     L233_2 k k y qs yn1 yn0 un0 (IntKind.u64.wrap (q1 - 1)) (IntKind.u64.wrap ((IntKind.u64.wrap ((IntKind.u64.wrap ((IntKind.u64.wrap (un32 * 4294967296)) + un1)) - (IntKind.u64.wrap ((IntKind.u64.wrap (q1 - 1)) * y)))) - (IntKind.u64.wrap ((IntKind.u64.wrap ((IntKind.u64.wrap ((IntKind.u64.wrap ((IntKind.u64.wrap (un32 * 4294967296)) + un1)) - (IntKind.u64.wrap ((IntKind.u64.wrap (q1 - 1)) * y)))).tdiv yn1)) * yn1)))) (IntKind.u64.wrap ((IntKind.u64.wrap ((IntKind.u64.wrap (un32 * 4294967296)) + un1)) - (IntKind.u64.wrap ((IntKind.u64.wrap (q1 - 1)) * y)))) (IntKind.u64.wrap ((IntKind.u64.wrap ((IntKind.u64.wrap ((IntKind.u64.wrap (un32 * 4294967296)) + un1)) - (IntKind.u64.wrap ((IntKind.u64.wrap (q1 - 1)) * y)))).tdiv yn1))
    else none
   else L233_1 k n y qs yn1 yn0 un32 un1 un0 (IntKind.u64.wrap (q1 - 1)) (IntKind.u64.wrap (rhat + yn1))
  else
   bif !(yn1 == 0) then
    L233_2 k k y qs yn1 yn0 un0 q1 (IntKind.u64.wrap ((IntKind.u64.wrap ((IntKind.u64.wrap ((IntKind.u64.wrap (un32 * 4294967296)) + un1)) - (IntKind.u64.wrap (q1 * y)))) - (IntKind.u64.wrap ((IntKind.u64.wrap ((IntKind.u64.wrap ((IntKind.u64.wrap ((IntKind.u64.wrap (un32 * 4294967296)) + un1)) - (IntKind.u64.wrap (q1 * y)))).tdiv yn1)) * yn1)))) (IntKind.u64.wrap ((IntKind.u64.wrap ((IntKind.u64.wrap (un32 * 4294967296)) + un1)) - (IntKind.u64.wrap (q1 * y)))) (IntKind.u64.wrap ((IntKind.u64.wrap ((IntKind.u64.wrap ((IntKind.u64.wrap (un32 * 4294967296)) + un1)) - (IntKind.u64.wrap (q1 * y)))).tdiv yn1))
   else none := by kernel_rfl
theorem sL233_2 (k n : Nat) (y qs yn1 yn0 un0 q1 rhat un21 q0 : Int) : L233_2 k (n + 1) y qs yn1 yn0 un0 q1 rhat un21 q0 =
 bif decide (q0 ≥ 4294967296) then
  bif decide (IntKind.u64.wrap (rhat + yn1) ≥ 4294967296) then
   bif !decide (qs < 0) then
    r233 (IntKind.u64.wrap ((IntKind.u64.wrap (q1 * 4294967296)) + (IntKind.u64.wrap (q0 - 1)))) (shrI .u64 (IntKind.u64.wrap ((IntKind.u64.wrap ((IntKind.u64.wrap (un21 * 4294967296)) + un0)) - (IntKind.u64.wrap ((IntKind.u64.wrap (q0 - 1)) * y)))) qs)
   else none
  else L233_2 k n y qs yn1 yn0 un0 q1 (IntKind.u64.wrap (rhat + yn1)) un21 (IntKind.u64.wrap (q0 - 1))
 else
  bif decide (IntKind.u64.wrap (q0 * yn0) > IntKind.u64.wrap ((IntKind.u64.wrap (4294967296 * rhat)) + un0)) then
   bif decide (IntKind.u64.wrap (rhat + yn1) ≥ 4294967296) then
    bif !decide (qs < 0) then
     r233 (IntKind.u64.wrap ((IntKind.u64.wrap (q1 * 4294967296)) + (IntKind.u64.wrap (q0 - 1)))) (shrI .u64 (IntKind.u64.wrap ((IntKind.u64.wrap ((IntKind.u64.wrap (un21 * 4294967296)) + un0)) - (IntKind.u64.wrap ((IntKind.u64.wrap (q0 - 1)) * y)))) qs)
    else none
   else L233_2 k n y qs yn1 yn0 un0 q1 (IntKind.u64.wrap (rhat + yn1)) un21 (IntKind.u64.wrap (q0 - 1))
  else
   bif !decide (qs < 0) then
    r233 (IntKind.u64.wrap ((IntKind.u64.wrap (q1 * 4294967296)) + q0)) (shrI .u64 (IntKind.u64.wrap ((IntKind.u64.wrap ((IntKind.u64.wrap (un21 * 4294967296)) + un0)) - (IntKind.u64.wrap (q0 * y)))) qs)
   else none := by kernel_rfl
/-! 235 : bits.LeadingZeros64 -/
theorem n235 (k : Nat) (x : Int) : c235 (k + 1) x =
 R205 (c205 k x) fun v1 =>
 r235 (IntKind.i64.wrap (64 - v1)) := by kernel_rfl
end Go.Proofs.YtnflnpjojbkgjaaGreat
