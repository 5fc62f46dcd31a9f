/- Plain laws of the reference's replaced: no program in sight. -/
import Derived.Test.YtapikimhmjnjeaaGreatDoorBaseB
import Derived.Lib.QuietBelow
import Derived.Deep.QuietTactic
import Derived.BigQuiet
import Derived.Deep.LoopGhost
import Derived.Test.YtapikimhmjnjeaaGreatDoorChainLaw
/- Plain laws of the reference's replaced: no program in sight. -/
set_option linter.unusedVariables false
set_option linter.unusedSimpArgs false
namespace Go.Proofs.YtapikimhmjnjeaaGreatDoor
open Go.RowKit

theorem letters_iff {x : ByteArray} {a b : Int} : lettersB x a b = true ↔ (a ≤ x.size ∧ (x.size : Int) ≤ b) ∧ latL x.data.toList = true := by
  unfold lettersB
  rw [Bool.and_eq_true, decide_eq_true_eq]
end Go.Proofs.YtapikimhmjnjeaaGreatDoor

