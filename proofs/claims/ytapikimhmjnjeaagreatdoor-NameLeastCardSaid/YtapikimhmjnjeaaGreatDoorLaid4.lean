/- The listed tables and the handle of 'error' stand in a start of mine: the witness of every row with the handle; the variable's cell out of the row's condition. -/
import Derived.Test.YtapikimhmjnjeaaGreatDoorLaid
import Derived.LaidHandle
/- The listed tables and the handle of 'error' stand in a start of mine: the witness of every row with the handle; the variable's cell out of the row's condition. -/
set_option linter.unusedVariables false
set_option linter.unusedSimpArgs false
namespace Go.Proofs.YtapikimhmjnjeaaGreatDoor
open Go.RowKit
def laid4 : List (String × DataW Unit) := [("unicode/utf8.acceptRanges", Rows.laid_unicode_utf8_acceptRanges), ("errors.errorType", Rows.laid_errors_errorType), ("unicode.CaseRanges", Rows.laid_unicode_CaseRanges), ("unicode/utf8.first", Rows.laid_unicode_utf8_first)]
/-- The settled world, the handle's cell laid. -/
noncomputable def hanW (os : Os) : World :=
  let w0 := World.holding Tryz.prog os ⟨#[], #[], []⟩
  { w0 with heap := w0.heap.modify 0 fun
      | .cells _ t frozen => .cells #[.iface 194 (.agg #[.pointer (some ⟨5, 147, none⟩)])] t frozen
      | o => o }
noncomputable def laidW4 (os : Os) : World := (hanW os).layVars Tryz.prog laid3
theorem laid4_os (os : Os) : (laidW4 os).os = os := World.layVars_os _ _ _
theorem laid4_shaped (os : Os) (args : Array Value) : ((laidW4 os).forCall (fun _ _ => 0) ⟨#[], args, []⟩).Shaped Tryz.prog :=
  World.shaped_of_ZipB (by kernel_rfl) (by kernel_rfl)
theorem laid4_data (os : Os) : laidMet Tryz.prog laid3 (laidW4 os) := by
  have e1 : (laid3.filter fun x => (laid3.map (·.1)).contains x.1) = laid3 := List.filter_eq_self.2 fun x hx => List.contains_iff_mem.2 (List.mem_map.2 ⟨x, hx, rfl⟩)
  have e2 : (laid3.filter fun x => !(laid3.map (·.1)).contains x.1) = [] := List.filter_eq_nil_iff.2 fun x hx => by rw [List.contains_iff_mem.2 (List.mem_map.2 ⟨x, hx, rfl⟩)]; simp
  have hf : (hanW os).layFits Tryz.prog laid3 [] = true := by kernel_rfl
  have hi : (hanW os).layIfaces Tryz.prog laid3 (laidW4 os) = true := by kernel_rfl
  exact laidMet_layVars (w0 := hanW os) (laid3.map (·.1)) [] (by rw [e1]; rfl) (by rw [e1]; exact hf) (by rw [e1]; exact hi) (by rw [e2]; exact LaidIn.none)
theorem laid4_met (os : Os) (args : Array Value) : laidMetH Tryz.prog laid4 ((laidW4 os).forCall (fun _ _ => 0) ⟨#[], args, []⟩).memory := by
  refine laidMetH_of_parts ?_ (by kernel_rfl)
  have e : (laid4.filter fun x => x.2.handleName?.isNone) = laid3 := by kernel_rfl
  rw [e]
  exact (laid4_data os).of_heap (by simp [World.memory, World.forCall, Input.heap])
end Go.Proofs.YtapikimhmjnjeaaGreatDoor

