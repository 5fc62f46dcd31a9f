/- What the printed Chain, Uses and the law's uses say of good rules and names: plain laws. -/
import Derived.Test.YtapikimhmjnjeaaGreatDoorKit
import Derived.Test.YtapikimhmjnjeaaGreatDoorPr4
/- What the printed Chain, Uses and the law's uses say of good rules and names: plain laws. -/
set_option linter.unusedVariables false
set_option linter.unusedSimpArgs false
namespace Go.Proofs.YtapikimhmjnjeaaGreatDoor.Pure
open Go.RowKit Go.Proofs.YtapikimhmjnjeaaGreatDoor Go.Proofs.YtapikimhmjnjeaaGreatDoor.Pr Go.Proofs.YtapikimhmjnjeaaGreatDoorW.PrintWords Go.Proofs.YtapikimhmjnjeaaGreatDoorW.PrintLast

theorem check_f {s : ByteArray} (h : Nm s) : name_Check.f s = some 0 := by
  unfold name_Check.f
  rw [if_pos (Nat.le_trans h.le (by decide)), nm_chk h]
theorem of_f {s : ByteArray} (h : Nm s) : name_of.f s = some (keyB s) := by
  unfold name_of.f
  rw [if_pos (nm_chk h)]
end Go.Proofs.YtapikimhmjnjeaaGreatDoor.Pure

