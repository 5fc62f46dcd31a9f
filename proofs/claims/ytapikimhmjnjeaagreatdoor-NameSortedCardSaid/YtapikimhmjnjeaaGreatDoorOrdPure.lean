/- What the printed Compare, the subsets and the lists without some names are: plain laws. -/
import Derived.Test.YtapikimhmjnjeaaGreatDoorEv
import Derived.Test.YtapikimhmjnjeaaGreatDoorUsesPure
import Derived.Test.YtapikimhmjnjeaaGreatDoorPrExtOrd
import Derived.Test.YtapikimhmjnjeaaGreatDoorPr11
import Derived.Test.YtapikimhmjnjeaaGreatDoorPr0
/- What the printed Compare, the subsets and the lists without some names are: plain laws. -/
set_option linter.unusedVariables false
set_option linter.unusedSimpArgs false
namespace Go.Proofs.YtapikimhmjnjeaaGreatDoor.Pure
open Go.RowKit Go.Proofs.YtapikimhmjnjeaaGreatDoor Go.Proofs.YtapikimhmjnjeaaGreatDoor.Pr Go.Proofs.YtapikimhmjnjeaaGreatDoorW.PrintWords Go.Proofs.YtapikimhmjnjeaaGreatDoorW.PrintLast

theorem at_nam {l : List ByteArray} (hl : ∀ s ∈ l, Nm s) {i : Nat} (h : i < l.length) : rdOf ByteArray.empty l (i : Int) = l.getD i ByteArray.empty ∧ Nm (l.getD i ByteArray.empty) := by
  refine ⟨by unfold rdOf; rw [Int.toNat_natCast], hl _ ?_⟩
  rw [List.getD_eq_getElem?_getD, List.getElem?_eq_getElem h]
  exact List.getElem_mem _
theorem compare_f {a b : ByteArray} (ha : Nm a) (hb : Nm b) : name_compare.f a b = some (cmpN a b) := by
  unfold name_compare.f
  rw [if_pos ⟨nm_chk ha, nm_chk hb⟩]
theorem Compare_f {a b : ByteArray} (ha : Nm a) (hb : Nm b) (k : Nat) (hk : 3 ≤ k) : name_Compare.f k a b = some (cmpN a b, 0) := by
  unfold name_Compare.f
  rw [bind_eq (checked_ok [a, b] (fun s hs => by rcases List.mem_cons.1 hs with rfl | hs; exact ha; rcases List.mem_cons.1 hs with rfl | hs; exact hb; cases hs) (by simp) k (by simp; omega)), if_pos rfl, bind_eq (compare_f ha hb)]
end Go.Proofs.YtapikimhmjnjeaaGreatDoor.Pure

