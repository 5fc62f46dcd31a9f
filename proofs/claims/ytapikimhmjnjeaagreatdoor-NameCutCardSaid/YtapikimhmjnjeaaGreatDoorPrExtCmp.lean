/- compare and stands in the form in which the print meets a function's contract. Asked: valid names; letters below 128. -/
import Derived.Test.YtapikimhmjnjeaaGreatDoorPrExt
/- compare and stands in the form in which the print meets a function's contract. Asked: valid names; letters below 128. -/
set_option linter.unusedVariables false
set_option linter.unusedSimpArgs false
namespace Go.Proofs.YtapikimhmjnjeaaGreatDoor.Pr
open Go.RowKit Go.Shelf Go.Proofs.YtapikimhmjnjeaaGreatDoor Go.Proofs.YtapikimhmjnjeaaGreatDoorW.PrintWords Go.Proofs.YtapikimhmjnjeaaGreatDoorW.PrintLast Go.Proofs.YtapikimhmjnjeaaGreatDoorW.PrintMore

def name_key_stands.f (a0 a1 : ByteArray) : Option Bool := if 0 < a0.size ∧ a1.size ≤ 1000 ∧ (a1.data.toList.all fun b => decide (b.toNat < 128)) = true then some (standsB a0 a1) else none
theorem name_key_stands.calls (a0 a1 : ByteArray) (r : Bool) (w : World) (h : name_key_stands.f a0 a1 = some r) :
    Calls Tryz.prog 111 #[.string a0, .string a1] w fun e w' => e = .returned (.bool r) ∧ Below w.heap.size w w' := by
  unfold name_key_stands.f at h
  split at h
  · rename_i hs
    cases h
    exact stands_any a0 a1 w hs.1 hs.2.1 (fun b hb => by simpa using List.all_eq_true.1 hs.2.2 b hb)
  · cases h
end Go.Proofs.YtapikimhmjnjeaaGreatDoor.Pr

