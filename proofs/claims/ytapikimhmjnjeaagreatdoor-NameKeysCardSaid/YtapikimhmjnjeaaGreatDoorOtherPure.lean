/- What the printed Other and Latin say of names: plain laws. -/
import Derived.Test.YtapikimhmjnjeaaGreatDoorUsesMore
import Derived.Test.YtapikimhmjnjeaaGreatDoorEv
import Derived.Test.YtapikimhmjnjeaaGreatDoorPrExtOther
import Derived.Test.YtapikimhmjnjeaaGreatDoorNameLaw
import Derived.Test.YtapikimhmjnjeaaGreatDoorBaseA
import Derived.Test.YtapikimhmjnjeaaGreatDoorPr9
/- What the printed Other and Latin say of names: plain laws. -/
set_option linter.unusedVariables false
set_option linter.unusedSimpArgs false
namespace Go.Proofs.YtapikimhmjnjeaaGreatDoor.Pure
open Go.RowKit Go.Proofs.YtapikimhmjnjeaaGreatDoor Go.Proofs.YtapikimhmjnjeaaGreatDoor.Pr Go.Proofs.YtapikimhmjnjeaaGreatDoorW.PrintWords Go.Proofs.YtapikimhmjnjeaaGreatDoorW.PrintLast

/-- The name of the other alphabet that has a name's key. -/
def otherN (s : ByteArray) : Option ByteArray := (foreignL (keyB s).size (keyB s).data.toList).map fun l => ⟨l.toArray⟩
theorem Other_f {s : ByteArray} (h : Nm s) : name_Other.f s = some (match otherN s with | some o => (o, 0) | none => (⟨#[]⟩, 11)) := by
  unfold name_Other.f
  rw [bind_eq (check_f h), if_pos rfl, bind_eq (of_f h)]
  have hk : name_key_foreign.f (keyB s) = some (forB (keyB s)) := by
    unfold name_key_foreign.f
    rw [if_pos (Nat.le_trans (key_size h) (by decide))]
  rw [bind_eq hk]
  unfold forB otherN
  cases foreignL (keyB s).size (keyB s).data.toList <;> rfl
end Go.Proofs.YtapikimhmjnjeaaGreatDoor.Pure

