/- spelling in the form in which the print meets a function's contract. No conditions. -/
import Derived.Test.YtapikimhmjnjeaaGreatDoorSpellN
/- spelling in the form in which the print meets a function's contract. No conditions. -/
set_option linter.unusedVariables false
set_option linter.unusedSimpArgs false
namespace Go.Proofs.YtapikimhmjnjeaaGreatDoor.Pr
open Go.RowKit Go.Proofs.YtapikimhmjnjeaaGreatDoor

def wayzgooselaw03_spelling.f : Option Bool := some true
theorem wayzgooselaw03_spelling.calls (r : Bool) (w : World) (h : wayzgooselaw03_spelling.f = some r) :
    Calls Tryz.prog 22 #[] w fun e w' => e = .returned (.bool r) ∧ Below w.heap.size w w' := by
  cases h
  exact spelling_any w
theorem spelling_ok : wayzgooselaw03_spelling.f = some true := rfl
end Go.Proofs.YtapikimhmjnjeaaGreatDoor.Pr

