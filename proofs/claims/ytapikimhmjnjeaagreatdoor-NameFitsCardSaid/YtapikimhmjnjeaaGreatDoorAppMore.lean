/- append as a step of a drawn region, told besides: where the new row lies. -/
import Derived.Test.YtapikimhmjnjeaaGreatDoorAppN
/- append as a step of a drawn region, told besides: where the new row lies. -/
set_option linter.unusedVariables false
set_option linter.unusedSimpArgs false
namespace Go.Proofs.YtapikimhmjnjeaaGreatDoor
open Go.RowKit Go.Shelf

theorem AppSt.drew {B0 : Nat} {W0 W : World} {v : Value} {xs : List ByteArray} (h : AppSt B0 W0 W v xs) : AppSt B0 W0 W.drew v xs := ⟨h.own, h.low.drew, h.big⟩
theorem AppSt.lt {B0 : Nat} {W0 W : World} {v : Value} {xs : List ByteArray} (h : AppSt B0 W0 W v xs) {q : Nat} (hq : v.ownBlock = some q) : q < W.heap.size := by
  rcases h.own.2 with ⟨rfl, _⟩ | ⟨g, cap, cur, rfl, hg, hh, _⟩
  · cases hq
  · obtain rfl : g = q := by simpa [Value.ownBlock] using hq
    exact (Array.getElem?_eq_some_iff.1 hh).1
end Go.Proofs.YtapikimhmjnjeaaGreatDoor

