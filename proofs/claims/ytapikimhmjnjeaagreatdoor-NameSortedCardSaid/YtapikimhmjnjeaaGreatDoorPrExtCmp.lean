/- compare and stands in the form in which the print meets a function's contract. Asked: valid names; letters below 128. -/
import Derived.Test.YtapikimhmjnjeaaGreatDoorPrExt
/- compare and stands in the form in which the print meets a function's contract. Asked: valid names; letters below 128. -/
set_option linter.unusedVariables false
set_option linter.unusedSimpArgs false
namespace Go.Proofs.YtapikimhmjnjeaaGreatDoor.Pr
open Go.RowKit Go.Shelf Go.Proofs.YtapikimhmjnjeaaGreatDoor Go.Proofs.YtapikimhmjnjeaaGreatDoorW.PrintWords Go.Proofs.YtapikimhmjnjeaaGreatDoorW.PrintLast Go.Proofs.YtapikimhmjnjeaaGreatDoorW.PrintMore

def name_compare.f (a0 a1 : ByteArray) : Option Int := if chk a0.data.toList = 0 ∧ chk a1.data.toList = 0 then some (cmpN a0 a1) else none
theorem name_compare.calls (a0 a1 : ByteArray) (r : Int) (w : World) (h : name_compare.f a0 a1 = some r) :
    Calls Tryz.prog 96 #[.string a0, .string a1] w fun e w' => e = .returned (.int .i64 r) ∧ Below w.heap.size w w' := by
  unfold name_compare.f at h
  split at h
  · rename_i hs
    cases h
    exact compare_any a0 a1 w (chk_nm hs.1) (chk_nm hs.2)
  · cases h
end Go.Proofs.YtapikimhmjnjeaaGreatDoor.Pr

