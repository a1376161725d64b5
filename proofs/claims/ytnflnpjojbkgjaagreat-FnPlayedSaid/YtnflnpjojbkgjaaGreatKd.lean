/- The draws of terms with their width and variables, and of what is put for these. -/
import Derived.Test.YtnflnpjojbkgjaaGreatKc
set_option linter.unusedVariables false
set_option linter.unusedSimpArgs false
set_option maxRecDepth 4000
namespace Go.Proofs.YtnflnpjojbkgjaaGreat
open Go.Dp

theorem set_encT (t : List Nd) (i : Nat) (x : Nd) : (encT t).set i (encN x) = encT (t.set i x) := by simp [encT, List.map_set]
theorem put_n (x : Nd) (a : W) : putPart (encN x) 2 1 (PV.int .u64 (wi a)) 0 = some (encN (x.1, a)) := rfl
theorem put_op (x : Nd) (n : Int) : putPart (encN x) 2 0 (PV.int .i64 n) 0 = some (encN (n, x.2)) := rfl
end Go.Proofs.YtnflnpjojbkgjaaGreat
