/- The place of a number in a row, as the print has it: a plain law. -/
import Derived.Test.YtapikimhmjnjeaaGreatDoorEv
import Derived.Test.YtapikimhmjnjeaaGreatDoorPr11
/- The place of a number in a row, as the print has it: a plain law. -/
set_option linter.unusedVariables false
set_option linter.unusedSimpArgs false
namespace Go.Proofs.YtapikimhmjnjeaaGreatDoor.Pure
open Go.RowKit Go.Proofs.YtapikimhmjnjeaaGreatDoor Go.Proofs.YtapikimhmjnjeaaGreatDoor.Pr Go.Proofs.YtapikimhmjnjeaaGreatDoorW.PrintWords Go.Proofs.YtapikimhmjnjeaaGreatDoorW.PrintLast

theorem Index_l0 (x : List Int) (a : Int) (hx : x.length ≤ 1000) : ∀ (n i : Nat), i + n = x.length → (∀ j, j < i → x.getD j 0 ≠ a) → ∃ r, Evn (fun k => wayzgoosekit_Index.l0 k x a (i : Int)) r ∧ (0 ≤ r ↔ a ∈ x)
  | 0, i, hi, hn => ⟨-1, Evn.step 0 fun k _ => by rw [wayzgoosekit_Index.l0, if_neg (by omega)], by
      refine ⟨fun h => absurd h (by decide), fun h => ?_⟩
      obtain ⟨j, hj, e⟩ := List.getElem_of_mem h
      exact absurd (by rw [List.getD_eq_getElem?_getD, List.getElem?_eq_getElem hj, ← e]; rfl) (hn j (by omega))⟩
  | n + 1, i, hi, hn => by
      have hlt : i < x.length := by omega
      have er : rd x (i : Int) = x.getD i 0 := by unfold rd; rw [Int.toNat_natCast]
      by_cases e : x.getD i 0 = a
      · refine ⟨(i : Int), Evn.step 0 fun k _ => by rw [wayzgoosekit_Index.l0, if_pos (by omega), if_pos (by omega), er, if_pos e], fun _ => ?_, fun _ => by omega⟩
        rw [← e, List.getD_eq_getElem?_getD, List.getElem?_eq_getElem hlt]
        exact List.getElem_mem _
      · obtain ⟨r, h1, h2⟩ := Index_l0 x a hx n (i + 1) (by omega) (fun j hj => by
          by_cases e2 : j = i
          · rw [e2]; exact e
          · exact hn j (by omega))
        refine ⟨r, h1.next 0 fun k _ => ?_, h2⟩
        rw [wayzgoosekit_Index.l0, if_pos (by omega), if_pos (by omega), er, if_neg e, IntWalk.wrap64_in _ (by omega)]
        rw [show ((i + 1 : Nat) : Int) = (i : Int) + 1 by omega]
theorem Index_ev (x : List Int) (a : Int) (hx : x.length ≤ 1000) : ∃ r, Evn (fun k => wayzgoosekit_Index.f k x a) r ∧ (0 ≤ r ↔ a ∈ x) := Index_l0 x a hx x.length 0 (by omega) (fun j hj => by omega)
end Go.Proofs.YtapikimhmjnjeaaGreatDoor.Pure

