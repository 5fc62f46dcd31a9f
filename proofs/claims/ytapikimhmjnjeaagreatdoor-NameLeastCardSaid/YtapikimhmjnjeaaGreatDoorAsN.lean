/- errors.As at a target of package name's own string type: its contracts, after the guide's worked text. Asked: the library's variable holds the type 'error'. -/
import Derived.Test.YtapikimhmjnjeaaGreatDoorProg
import Derived.WalkKit
import Derived.LaidEql
import Derived.Stop.Asserts
import Derived.RowKitTokens
/- errors.As at a target of package name's own string type: its contracts, after the guide's worked text. Asked: the library's variable holds the type 'error'. -/
set_option linter.unusedVariables false
set_option linter.unusedSimpArgs false
namespace Go.Proofs.YtapikimhmjnjeaaGreatDoor
open Go.RowKit Go.Extern.Stop Go.Stop Go.Extern

/-- errors.As(nil, target). -/
theorem as_nil (t : Value) (w : World) :
    Calls Tryz.prog 135 #[.nilIface, t] w fun e w' => e = .returned (.bool false) ∧ w' = w := by
  go_enter Tryz.func135, Tryz.ntmps135
  go_wp2
  go_ret
  exact ⟨rfl, rfl⟩

end Go.Proofs.YtapikimhmjnjeaaGreatDoor

