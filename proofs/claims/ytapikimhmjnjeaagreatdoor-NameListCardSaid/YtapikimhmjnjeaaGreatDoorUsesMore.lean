/- More of what the printed functions say of good rules and names: plain laws. -/
import Derived.Test.YtapikimhmjnjeaaGreatDoorKit
import Derived.Test.YtapikimhmjnjeaaGreatDoorPr4
import Derived.Test.YtapikimhmjnjeaaGreatDoorPr0
import Derived.Test.YtapikimhmjnjeaaGreatDoorPrExt
import Derived.Test.YtapikimhmjnjeaaGreatDoorBaseB
import Derived.Lib.QuietBelow
import Derived.Deep.QuietTactic
import Derived.BigQuiet
import Derived.Deep.LoopGhost
import Derived.Test.YtapikimhmjnjeaaGreatDoorPr5
import Derived.Test.YtapikimhmjnjeaaGreatDoorChainLaw
/- More of what the printed functions say of good rules and names: plain laws. -/
set_option linter.unusedVariables false
set_option linter.unusedSimpArgs false
namespace Go.Proofs.YtapikimhmjnjeaaGreatDoor.Pure
open Go.RowKit Go.Proofs.YtapikimhmjnjeaaGreatDoor Go.Proofs.YtapikimhmjnjeaaGreatDoor.Pr Go.Proofs.YtapikimhmjnjeaaGreatDoorW.PrintWords Go.Proofs.YtapikimhmjnjeaaGreatDoorW.PrintLast

theorem at_name {l : List ByteArray} (hl : ∀ s ∈ l, Nm s) {i : Nat} (h : i < l.length) : rdOf ByteArray.empty l (i : Int) = l.getD i ByteArray.empty ∧ Nm (l.getD i ByteArray.empty) := by
  refine ⟨by unfold rdOf; rw [Int.toNat_natCast], hl _ ?_⟩
  rw [List.getD_eq_getElem?_getD, List.getElem?_eq_getElem h]
  exact List.getElem_mem _
end Go.Proofs.YtapikimhmjnjeaaGreatDoor.Pure

