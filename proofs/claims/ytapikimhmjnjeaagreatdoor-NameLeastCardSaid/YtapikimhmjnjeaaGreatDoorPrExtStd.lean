/- Stands and abbrError in the form in which the print meets a function's contract. Asked: sizes; an abbreviation. -/
import Derived.Test.YtapikimhmjnjeaaGreatDoorPrExt
import Derived.Test.YtapikimhmjnjeaaGreatDoorStandsN
/- Stands and abbrError in the form in which the print meets a function's contract. Asked: sizes; an abbreviation. -/
set_option linter.unusedVariables false
set_option linter.unusedSimpArgs false
namespace Go.Proofs.YtapikimhmjnjeaaGreatDoor.Pr
open Go.RowKit Go.Shelf Go.Proofs.YtapikimhmjnjeaaGreatDoor Go.Proofs.YtapikimhmjnjeaaGreatDoorW.PrintWords Go.Proofs.YtapikimhmjnjeaaGreatDoorW.PrintLast Go.Proofs.YtapikimhmjnjeaaGreatDoorW.PrintMore

def name_Stands.f (a0 : ByteArray) (l1 : List ByteArray) : Option (List Int × Int) := if (a0.size ≤ 140737488351232 ∧ isDot a0 = true) ∧ l1.length ≤ 1000000 ∧ ∀ s ∈ l1, s.size ≤ 1000000 then some (standF a0 l1) else none
theorem name_Stands.calls (a0 : ByteArray) (A1 : Option Addr) (c1 : Nat) (l1 : List ByteArray) (r1 : List Int) (r2 : Int) (w : World) (hr1 : Kd.C Kd.string w A1 l1.length l1) (hc1 : l1.length ≤ c1) (h : name_Stands.f a0 l1 = some (r1, r2)) :
    Calls Tryz.prog 72 #[.string a0, .slice A1 l1.length c1] w fun e w' => ∃ v0_ : Value, e = .returned (.tuple #[v0_, .int .i64 r2]) ∧ Kd.R (Kd.int .i64) 3 w' w.heap.size (fun _ => True) v0_ r1 ∧ Below w.heap.size w w' := by
  unfold name_Stands.f at h
  split at h
  · rename_i hs
    have e := Option.some.inj h
    have := stands_good a0 A1 c1 l1 w hs.1.1 hs.1.2 (strs_of_C hr1) hs.2
    rw [e] at this
    refine this.mono ?_
    rintro e w' ⟨v, rfl, hr, hB⟩
    exact ⟨v, rfl, Kd.R_of_own hr.1 (fun _ _ => trivial), hB⟩
  · cases h
end Go.Proofs.YtapikimhmjnjeaaGreatDoor.Pr

