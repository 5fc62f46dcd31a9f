/- The reference's replaced in the form in which the print meets a function's contract. Sizes alone are asked. -/
import Derived.Test.YtapikimhmjnjeaaGreatDoorPrExt
import Derived.Test.YtapikimhmjnjeaaGreatDoorRefRep
set_option linter.unusedVariables false
set_option linter.unusedSimpArgs false
namespace Go.Proofs.YtapikimhmjnjeaaGreatDoor.Pr
open Go.RowKit Go.Shelf Go.Proofs.YtapikimhmjnjeaaGreatDoor Go.Proofs.YtapikimhmjnjeaaGreatDoorW.PrintWords Go.Proofs.YtapikimhmjnjeaaGreatDoorW.PrintLast Go.Proofs.YtapikimhmjnjeaaGreatDoorW.PrintMore

def wayzgooseref03_replaced.f (a0 a1 a2 : ByteArray) : Option (List ByteArray) := if a0.size ≤ 1000 ∧ a1.size ≤ 1000 ∧ a2.size ≤ 1000 then some (refL a0 a1 a2) else none
theorem wayzgooseref03_replaced.calls (a0 a1 a2 : ByteArray) (r : List ByteArray) (w : World) (h : wayzgooseref03_replaced.f a0 a1 a2 = some r) :
    Calls Tryz.prog 89 #[.string a0, .string a1, .string a2] w fun e w' => ∃ v0_ : Value, e = .returned (v0_) ∧ Kd.R Kd.string 9 w' w.heap.size (fun _ => True) v0_ r ∧ Below w.heap.size w w' := by
  unfold wayzgooseref03_replaced.f at h
  split at h
  · rename_i hs
    cases h
    refine (refRep_any a0 a1 a2 w hs.1 hs.2.1 hs.2.2).mono ?_
    rintro e w' ⟨v, rfl, hb, hB⟩
    exact ⟨v, rfl, row_R hb, hB⟩
  · cases h
end Go.Proofs.YtapikimhmjnjeaaGreatDoor.Pr
