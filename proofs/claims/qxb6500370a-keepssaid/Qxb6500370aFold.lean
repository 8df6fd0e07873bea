/-
  Fold: a letter, folded; or -1.
-/
import Derived.Test.Qxb6500370aProg
import Derived.Test.Qxb6500370aLib
namespace Go.Proofs.Qxb6500370a
open Go.RowKit Go.Qx
set_option linter.unusedSimpArgs false
set_option linter.unusedVariables false

def fold (r : Int) : Int :=
  if 65 ≤ r ∧ r ≤ 90 then r + 32
  else if (97 ≤ r ∧ r ≤ 122) ∨ (945 ≤ r ∧ r ≤ 969) then r
  else if (12353 ≤ r ∧ r ≤ 12438) ∨ (66600 ≤ r ∧ r ≤ 66639) then r
  else -1

theorem fold_le (r : Int) : -1 ≤ fold r ∧ fold r ≤ 66639 := by unfold fold; repeat' split <;> omega

theorem fold_any (w : World) (r : Int) : Calls Try.prog 49 #[.int .i64 r] w fun e w' => e = .returned (.int .i64 (fold r)) ∧ w' = w := by
  go_enter Try.func49, Try.ntmps49
  go_wp2
  all_goals
    go_ret
    refine ⟨congrArg Ending.returned (congrArg (Value.int .i64) ?_), rfl⟩
    unfold fold
    repeat' split
    all_goals omega
end Go.Proofs.Qxb6500370a
