/- Rows made by a literal, held by their cells: words for walks by hand. -/
import Derived.Test.YtapikimhmjnjeaaGreatDoorPr0
import Derived.Test.YtapikimhmjnjeaaGreatDoorKit
import Derived.Below
/- Rows made by a literal, held by their cells: words for walks by hand. -/
set_option linter.unusedVariables false
set_option linter.unusedSimpArgs false
namespace Go.Proofs.YtapikimhmjnjeaaGreatDoor.Pure
open Go.RowKit Go.Shelf Go.Proofs.YtapikimhmjnjeaaGreatDoor Go.Proofs.YtapikimhmjnjeaaGreatDoor.Pr Go.Proofs.YtapikimhmjnjeaaGreatDoorW.PrintWords Go.Proofs.YtapikimhmjnjeaaGreatDoorW.PrintLast Go.Proofs.YtapikimhmjnjeaaGreatDoorW.PrintMore

/-- A block holds these cells. -/
def LitAt (W : World) (B : Nat) (cs : Array Value) : Prop := B < W.heap.size ∧ ∀ i, i < cs.size → W.cell? ⟨B, i, none⟩ = cs[i]?
theorem LitAt.new (W : World) (cs : Array Value) (t : TypeId) : LitAt (W.alloc (.cells cs t)) W.heap.size cs :=
  ⟨by simp, fun i hi => World.cell?_alloc_new W cs t i⟩
theorem LitAt.below {W W2 : World} {B : Nat} {cs : Array Value} (h : LitAt W B cs) (hb : Below W.heap.size W W2) : LitAt W2 B cs :=
  ⟨Nat.lt_of_lt_of_le h.1 hb.size, fun i hi => (hb.cell h.1).trans (h.2 i hi)⟩
theorem LitAt.alloc {W : World} {B : Nat} {cs : Array Value} (h : LitAt W B cs) (o : Obj) : LitAt (W.alloc o) B cs := h.below (below_alloc (Below.refl _ _) o)
theorem LitAt.keep {W W2 : World} {B g : Nat} {cs : Array Value} (h : LitAt W B cs) (hk : KeepBut W W2 g none) (hne : B ≠ g) : LitAt W2 B cs := by
  refine ⟨Nat.lt_of_lt_of_le h.1 hk.1, fun i hi => ?_⟩
  have he : W2.heap[B]? = W.heap[B]? := hk.2 B h.1 hne (by simp)
  rw [← h.2 i hi]
  exact World.cell?_of_block (w := W) he
/-- One cell of it. -/
theorem LitAt.at_ {W : World} {B : Nat} {cs : Array Value} (h : LitAt W B cs) {i : Nat} {v : Value} (hi : cs[i]? = some v) : W.cell? ⟨B, i, none⟩ = some v := (h.2 i (Array.getElem?_eq_some_iff.1 hi).1).trans hi
end Go.Proofs.YtapikimhmjnjeaaGreatDoor.Pure

