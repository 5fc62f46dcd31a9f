/- Place and Wrong in the form in which the print meets a function's contract. Sizes alone are asked. -/
import Derived.Test.YtapikimhmjnjeaaGreatDoorPrExt
import Derived.Test.YtapikimhmjnjeaaGreatDoorWrongN
/- Place and Wrong in the form in which the print meets a function's contract. Sizes alone are asked. -/
set_option linter.unusedVariables false
set_option linter.unusedSimpArgs false
namespace Go.Proofs.YtapikimhmjnjeaaGreatDoor.Pr
open Go.RowKit Go.Shelf Go.Proofs.YtapikimhmjnjeaaGreatDoor Go.Proofs.YtapikimhmjnjeaaGreatDoorW.PrintWords Go.Proofs.YtapikimhmjnjeaaGreatDoorW.PrintLast Go.Proofs.YtapikimhmjnjeaaGreatDoorW.PrintMore

def name_Place.f (l0 : List ByteArray) (a1 : ByteArray) : Option (Int × Int) := if (l0.length ≤ 1000000 ∧ ∀ s ∈ l0, s.size ≤ 1000000) ∧ a1.size ≤ 140737488351232 then some (placeF l0 a1) else none
theorem name_Place.calls (A0 : Option Addr) (c0 : Nat) (l0 : List ByteArray) (a1 : ByteArray) (r1 : Int) (r2 : Int) (w : World) (hr0 : Kd.C Kd.string w A0 l0.length l0) (hc0 : l0.length ≤ c0) (h : name_Place.f l0 a1 = some (r1, r2)) :
    Calls Tryz.prog 63 #[.slice A0 l0.length c0, .string a1] w fun e w' => e = .returned (.tuple #[.int .i64 r1, .int .i64 r2]) ∧ Below w.heap.size w w' := by
  unfold name_Place.f at h
  split at h
  · rename_i hs
    have e := Option.some.inj h
    have := place_any A0 c0 l0 a1 w (strs_of_C hr0) hs.1 hs.2
    rw [e] at this
    exact this
  · cases h

def name_Wrong.f (l0 : List ByteArray) : Option (List Int × Int) := if l0.length ≤ 1000000 ∧ ∀ s ∈ l0, s.size ≤ 1000000 then some (wrongF l0) else none
theorem name_Wrong.calls (A0 : Option Addr) (c0 : Nat) (l0 : List ByteArray) (r1 : List Int) (r2 : Int) (w : World) (hr0 : Kd.C Kd.string w A0 l0.length l0) (hc0 : l0.length ≤ c0) (h : name_Wrong.f l0 = some (r1, r2)) :
    Calls Tryz.prog 56 #[.slice A0 l0.length c0] w fun e w' => ∃ v0_ : Value, e = .returned (.tuple #[v0_, .int .i64 r2]) ∧ Kd.R (Kd.int .i64) 3 w' w.heap.size (fun _ => True) v0_ r1 ∧ Below w.heap.size w w' := by
  unfold name_Wrong.f at h
  split at h
  · rename_i hs
    have e := Option.some.inj h
    have := wrong_any A0 c0 l0 w (strs_of_C hr0) hs
    rw [e] at this
    refine this.mono ?_
    rintro e w' ⟨v, rfl, hr, hB⟩
    exact ⟨v, rfl, Kd.R_of_own hr.1 (fun _ _ => trivial), hB⟩
  · cases h
end Go.Proofs.YtapikimhmjnjeaaGreatDoor.Pr

