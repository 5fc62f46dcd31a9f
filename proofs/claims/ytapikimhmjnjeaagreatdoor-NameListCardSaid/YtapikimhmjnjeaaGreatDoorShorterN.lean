/- What slices.Compare says of two lists of numbers, and package name's shorter: contracts. Sizes alone are asked. -/
import Derived.Test.YtapikimhmjnjeaaGreatDoorChainLaw
import Derived.Test.YtapikimhmjnjeaaGreatDoorBaseE
import Derived.Test.YtapikimhmjnjeaaGreatDoorBaseA
import Derived.Test.YtapikimhmjnjeaaGreatDoorBaseD
import Derived.Test.YtapikimhmjnjeaaGreatDoorBaseB
import Derived.Lib.QuietBelow
/- What slices.Compare says of two lists of numbers, and package name's shorter: contracts. Sizes alone are asked. -/
set_option linter.unusedVariables false
set_option linter.unusedSimpArgs false
namespace Go.Proofs.YtapikimhmjnjeaaGreatDoor
open Go.RowKit Go.Shelf
attribute [local go_sem] Oper.semAt_some

/-- The numbers of a list read at an address. -/
def IntsAt (w : World) (A : Option Addr) (l : List Int) : Prop := ∀ i (_ : i < l.length), ∃ b off, A = some ⟨b, off, none⟩ ∧ w.cell? ⟨b, off + i, none⟩ = some (.int .i64 (l.getD i 0))
theorem IntsAt.below {w w1 : World} {A : Option Addr} {l : List Int} (h : IntsAt w A l) (hb : Below w.heap.size w w1) : IntsAt w1 A l := fun i hi => by
  obtain ⟨b, off, e, hc⟩ := h i hi
  exact ⟨b, off, e, (hb.cell (World.block_lt_of_cell? w _ hc)).trans hc⟩
end Go.Proofs.YtapikimhmjnjeaaGreatDoor

