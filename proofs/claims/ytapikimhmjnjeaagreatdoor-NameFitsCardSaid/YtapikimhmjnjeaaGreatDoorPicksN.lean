/- A slice of slices of numbers, as the print hands it on, read by its cells. -/
import Derived.Test.YtapikimhmjnjeaaGreatDoorPrExt
import Derived.Test.YtapikimhmjnjeaaGreatDoorBaseB
import Derived.Lib.QuietBelow
import Derived.Deep.QuietTactic
import Derived.BigQuiet
import Derived.Deep.LoopGhost
import Derived.Test.YtapikimhmjnjeaaGreatDoorWrongN
/- A slice of slices of numbers, as the print hands it on, read by its cells. -/
set_option linter.unusedVariables false
set_option linter.unusedSimpArgs false
namespace Go.Proofs.YtapikimhmjnjeaaGreatDoor
open Go.RowKit Go.Shelf Go.Proofs.YtapikimhmjnjeaaGreatDoor.Pr Go.Proofs.YtapikimhmjnjeaaGreatDoorW.PrintWords Go.Proofs.YtapikimhmjnjeaaGreatDoorW.PrintLast Go.Proofs.YtapikimhmjnjeaaGreatDoorW.PrintMore

/-- The rows of numbers that lie from an address on. -/
def PicksAt (w : World) (A : Option Addr) (t : List (List Int)) : Prop := ∀ i, i < t.length → ∃ b off, A = some ⟨b, off, none⟩ ∧ ∃ Ai ci, w.cell? ⟨b, off + i, none⟩ = some (.slice Ai (t.getD i []).length ci) ∧ IntsAt w Ai (t.getD i [])
theorem PicksAt.below {w w1 : World} {A : Option Addr} {t : List (List Int)} (h : PicksAt w A t) (hb : Below w.heap.size w w1) : PicksAt w1 A t := fun i hi => by
  obtain ⟨b, off, e, Ai, ci, h1, h2⟩ := h i hi
  exact ⟨b, off, e, Ai, ci, (hb.cell (p := ⟨b, off + i, none⟩) (World.block_lt_of_cell? w _ h1)).trans h1, h2.below hb⟩

end Go.Proofs.YtapikimhmjnjeaaGreatDoor

