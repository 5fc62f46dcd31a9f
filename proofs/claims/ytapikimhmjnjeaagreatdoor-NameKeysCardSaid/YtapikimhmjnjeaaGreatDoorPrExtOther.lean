/- foreign in the form in which the print meets a function's contract. Sizes alone are asked. -/
import Derived.Test.YtapikimhmjnjeaaGreatDoorPrExt
import Derived.Test.YtapikimhmjnjeaaGreatDoorForeignN
/- foreign in the form in which the print meets a function's contract. Sizes alone are asked. -/
set_option linter.unusedVariables false
set_option linter.unusedSimpArgs false
namespace Go.Proofs.YtapikimhmjnjeaaGreatDoor.Pr
open Go.RowKit Go.Shelf Go.Proofs.YtapikimhmjnjeaaGreatDoor Go.Proofs.YtapikimhmjnjeaaGreatDoorW.PrintWords Go.Proofs.YtapikimhmjnjeaaGreatDoorW.PrintLast Go.Proofs.YtapikimhmjnjeaaGreatDoorW.PrintMore

/-- The name of the other alphabet for a key. -/
def forB (k : ByteArray) : ByteArray × Bool := (⟨((foreignL k.size k.data.toList).getD []).toArray⟩, (foreignL k.size k.data.toList).isSome)
def name_key_foreign.f (a0 : ByteArray) : Option (ByteArray × Bool) := if a0.size ≤ 1000 then some (forB a0) else none
theorem name_key_foreign.calls (a0 : ByteArray) (r1 : ByteArray) (r2 : Bool) (w : World) (h : name_key_foreign.f a0 = some (r1, r2)) :
    Calls Tryz.prog 90 #[.string a0] w fun e w' => e = .returned (.tuple #[.string r1, .bool r2]) ∧ Below w.heap.size w w' := by
  unfold name_key_foreign.f at h
  split at h
  · rename_i hs
    have e := Option.some.inj h
    have := foreign_any a0.size a0 w (Nat.le_refl _) hs
    unfold forB at e
    obtain ⟨e1, e2⟩ := Prod.mk.inj e
    rw [e1, e2] at this
    exact this
  · cases h
end Go.Proofs.YtapikimhmjnjeaaGreatDoor.Pr

