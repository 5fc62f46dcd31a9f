/- The reference's others in the form in which the print meets a function's contract. Asked: the size. -/
import Derived.Test.YtapikimhmjnjeaaGreatDoorPrExt
import Derived.Test.YtapikimhmjnjeaaGreatDoorOthersN
/- The reference's others in the form in which the print meets a function's contract. Asked: the size. -/
set_option linter.unusedVariables false
set_option linter.unusedSimpArgs false
namespace Go.Proofs.YtapikimhmjnjeaaGreatDoor.Pr
open Go.RowKit Go.Shelf Go.Proofs.YtapikimhmjnjeaaGreatDoor Go.Proofs.YtapikimhmjnjeaaGreatDoorW.PrintWords Go.Proofs.YtapikimhmjnjeaaGreatDoorW.PrintLast Go.Proofs.YtapikimhmjnjeaaGreatDoorW.PrintMore

def wayzgooseref03_others.f (a0 : ByteArray) : Option (List ByteArray) := if a0.size ≤ 12 then some ((othL a0.size a0.data.toList).map toB) else none
theorem wayzgooseref03_others.calls (a0 : ByteArray) (r : List ByteArray) (w : World) (h : wayzgooseref03_others.f a0 = some r) :
    Calls Tryz.prog 91 #[.string a0] w fun e w' => ∃ v0_ : Value, e = .returned (v0_) ∧ Kd.R Kd.string 9 w' w.heap.size (fun _ => True) v0_ r ∧ Below w.heap.size w w' := by
  unfold wayzgooseref03_others.f at h
  split at h
  · rename_i hs
    cases h
    refine (others_any a0.size a0 w (Nat.le_refl _) hs).mono ?_
    rintro e w' ⟨v, rfl, ho, hB⟩
    exact ⟨v, rfl, Kd.R_of_own ho (fun _ _ => trivial), hB⟩
  · cases h
end Go.Proofs.YtapikimhmjnjeaaGreatDoor.Pr

