/- The three listed tables stand in a start of mine: the witness of every row without the handle; closed facts of the whole program that every row asks. -/
import Derived.Test.YtapikimhmjnjeaaGreatDoorRows
import Derived.Test.YtapikimhmjnjeaaGreatDoorChecked
import Derived.WalkKit
import Derived.ProofKit
import Derived.Lay
import Derived.LaidMore
import Derived.MakeChecks
import Derived.ClosedOfChecked
import Derived.Stop.Joined
import GoSem.ClaimSeven
/- The three listed tables stand in a start of mine: the witness of every row without the handle; closed facts of the whole program that every row asks. -/
set_option linter.unusedVariables false
set_option linter.unusedSimpArgs false
namespace Go.Proofs.YtapikimhmjnjeaaGreatDoor
open Go.RowKit
def laid3 : List (String × DataW Unit) := [("unicode/utf8.acceptRanges", Rows.laid_unicode_utf8_acceptRanges), ("unicode.CaseRanges", Rows.laid_unicode_CaseRanges), ("unicode/utf8.first", Rows.laid_unicode_utf8_first)]
theorem laid3_shaped (os : Os) (args : Array Value) : ((World.laidAll Tryz.prog os laid3).forCall (fun _ _ => 0) ⟨#[], args, []⟩).Shaped Tryz.prog :=
  World.shaped_of_ZipB (by kernel_rfl) (by kernel_rfl)
theorem laid3_met (os : Os) (args : Array Value) : laidMetH Tryz.prog laid3 ((World.laidAll Tryz.prog os laid3).forCall (fun _ _ => 0) ⟨#[], args, []⟩).memory := by
  rw [MakeChecks.laidMetH_plain _ _ _ (by kernel_rfl)]
  exact laidMet_laidAll _ (by kernel_rfl) (by kernel_rfl)
theorem own : ownKnob Tryz.prog.godebug = none := by kernel_rfl
theorem three : laidOutB Tryz.checked.prog = true ∧ mapsRowed Tryz.checked.prog = true ∧ Tryz.checked.prog.plainKeys = true :=
  ClosedOfChecked.closed_of_checked Tryz.checked (by kernel_rfl) (by kernel_rfl) (by kernel_rfl)
theorem c_main : Tryz.prog.mainIs = some (true, "a35d37acb85f02e289d456e8645a9ced817af87ed611251526dd2826b257aa82".toList) := by kernel_rfl
theorem c_looks : true = Tryz.prog.looks [] := by kernel_rfl
end Go.Proofs.YtapikimhmjnjeaaGreatDoor

