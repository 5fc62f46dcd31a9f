/- What the reference's Check and Key say, as the print has them: plain laws. -/
import Derived.Test.YtapikimhmjnjeaaGreatDoorEv
import Derived.Test.YtapikimhmjnjeaaGreatDoorUsesMore
import Derived.Test.YtapikimhmjnjeaaGreatDoorChainLaw
import Derived.Test.YtapikimhmjnjeaaGreatDoorBaseE
import Derived.Test.YtapikimhmjnjeaaGreatDoorPr0
import Derived.Test.YtapikimhmjnjeaaGreatDoorPrExt
import Derived.Test.YtapikimhmjnjeaaGreatDoorProg
import Derived.WalkKit
import Derived.LaidEql
import Derived.Stop.Asserts
import Derived.RowKitTokens
import Derived.Test.YtapikimhmjnjeaaGreatDoorBaseA
import Derived.Test.YtapikimhmjnjeaaGreatDoorWrongN
import Derived.Maps.AppendAt
import Derived.Test.YtapikimhmjnjeaaGreatDoorPr5
import Derived.Test.YtapikimhmjnjeaaGreatDoorPr9
import Derived.Test.YtapikimhmjnjeaaGreatDoorPr2
import Derived.Test.YtapikimhmjnjeaaGreatDoorPr3
/- What the reference's Check and Key say, as the print has them: plain laws. -/
set_option linter.unusedVariables false
set_option linter.unusedSimpArgs false
namespace Go.Proofs.YtapikimhmjnjeaaGreatDoor.Pure
open Go.RowKit Go.Proofs.YtapikimhmjnjeaaGreatDoor Go.Proofs.YtapikimhmjnjeaaGreatDoor.Pr Go.Proofs.YtapikimhmjnjeaaGreatDoorW.PrintWords Go.Proofs.YtapikimhmjnjeaaGreatDoorW.PrintLast

theorem bt_at (s : ByteArray) (i : Nat) (h : i < s.size) : ∃ b, s.data.toList[i]'(by rw [ba_len]; exact h) = b ∧ bt s (i : Int) = (b.toNat : Int) := by
  refine ⟨_, rfl, ?_⟩
  unfold bt
  rw [Int.toNat_natCast, dif_pos h]
  rfl

end Go.Proofs.YtapikimhmjnjeaaGreatDoor.Pure

