/- More of what the printed functions say of good rules and names: plain laws. -/
import Derived.Test.YtapikimhmjnjeaaGreatDoorUsesPure
import Derived.Test.YtapikimhmjnjeaaGreatDoorPr0
import Derived.Test.YtapikimhmjnjeaaGreatDoorPrExt
import Derived.Test.YtapikimhmjnjeaaGreatDoorBaseB
import Derived.Lib.QuietBelow
import Derived.Deep.QuietTactic
import Derived.BigQuiet
import Derived.Deep.LoopGhost
import Derived.Test.YtapikimhmjnjeaaGreatDoorPr4
import Derived.Test.YtapikimhmjnjeaaGreatDoorPr5
import Derived.Test.YtapikimhmjnjeaaGreatDoorChainLaw
/- More of what the printed functions say of good rules and names: plain laws. -/
set_option linter.unusedVariables false
set_option linter.unusedSimpArgs false
namespace Go.Proofs.YtapikimhmjnjeaaGreatDoor.Pure
open Go.RowKit Go.Proofs.YtapikimhmjnjeaaGreatDoor Go.Proofs.YtapikimhmjnjeaaGreatDoor.Pr Go.Proofs.YtapikimhmjnjeaaGreatDoorW.PrintWords Go.Proofs.YtapikimhmjnjeaaGreatDoorW.PrintLast

theorem at_name {l : List ByteArray} (hl : ∀ s ∈ l, Nm s) {i : Nat} (h : i < l.length) : rdOf ByteArray.empty l (i : Int) = l.getD i ByteArray.empty ∧ Nm (l.getD i ByteArray.empty) := by
  refine ⟨by unfold rdOf; rw [Int.toNat_natCast], hl _ ?_⟩
  rw [List.getD_eq_getElem?_getD, List.getElem?_eq_getElem h]
  exact List.getElem_mem _
theorem Key_f {s : ByteArray} (h : Nm s) : name_Key.f s = some (keyB s, 0) := by
  unfold name_Key.f
  rw [bind_eq (check_f h), if_pos rfl, bind_eq (of_f h)]
theorem key_letters {s : ByteArray} (h : Nm s) : lettersB (keyB s) 1 12 = true := by
  have h1 := key_pos h
  have h2 := key_size h
  unfold lettersB latL
  rw [decide_eq_true (by omega), Bool.true_and, List.all_eq_true]
  intro x hx
  rw [key_latin h x hx]
  rfl
theorem tl_beq (a b : ByteArray) : (a.toList == b.toList) = decide (a = b) := by
  by_cases h : a = b
  · subst h; simp
  · rw [decide_eq_false h, beq_eq_false_iff_ne]
    exact fun e => h (tl_inj e)
end Go.Proofs.YtapikimhmjnjeaaGreatDoor.Pure

