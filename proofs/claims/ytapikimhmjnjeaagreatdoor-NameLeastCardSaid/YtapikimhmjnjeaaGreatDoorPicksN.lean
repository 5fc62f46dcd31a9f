/- A slice of slices of numbers, as the print hands it on, read by its cells. -/
import Derived.Test.YtapikimhmjnjeaaGreatDoorPrExt
import Derived.Test.YtapikimhmjnjeaaGreatDoorBaseB
import Derived.Lib.QuietBelow
import Derived.Deep.QuietTactic
import Derived.BigQuiet
import Derived.Deep.LoopGhost
import Derived.Test.YtapikimhmjnjeaaGreatDoorWrongN
/- A slice of slices of numbers, as the print hands it on, read by its cells. -/
set_option linter.unusedVariables false
set_option linter.unusedSimpArgs false
namespace Go.Proofs.YtapikimhmjnjeaaGreatDoor
open Go.RowKit Go.Shelf Go.Proofs.YtapikimhmjnjeaaGreatDoor.Pr Go.Proofs.YtapikimhmjnjeaaGreatDoorW.PrintWords Go.Proofs.YtapikimhmjnjeaaGreatDoorW.PrintLast Go.Proofs.YtapikimhmjnjeaaGreatDoorW.PrintMore

/-- The rows of numbers that lie from an address on. -/
def PicksAt (w : World) (A : Option Addr) (t : List (List Int)) : Prop := ∀ i, i < t.length → ∃ b off, A = some ⟨b, off, none⟩ ∧ ∃ Ai ci, w.cell? ⟨b, off + i, none⟩ = some (.slice Ai (t.getD i []).length ci) ∧ IntsAt w Ai (t.getD i [])
theorem PicksAt.below {w w1 : World} {A : Option Addr} {t : List (List Int)} (h : PicksAt w A t) (hb : Below w.heap.size w w1) : PicksAt w1 A t := fun i hi => by
  obtain ⟨b, off, e, Ai, ci, h1, h2⟩ := h i hi
  exact ⟨b, off, e, Ai, ci, (hb.cell (p := ⟨b, off + i, none⟩) (World.block_lt_of_cell? w _ h1)).trans h1, h2.below hb⟩

theorem ints_of_C {w : World} {A : Option Addr} {l : List Int} (h : Kd.C (Kd.int .i64) w A l.length l) : IntsAt w A l := by
  intro i hi
  obtain ⟨ad, hA, h0⟩ := Kd.at_int h 0 (by omega) (by omega)
  obtain ⟨ad', hA', h1⟩ := Kd.at_int h i (by omega) (by omega)
  rw [hA] at hA'
  cases hA'
  have hp := plain_of_cell (show w.cell? ad = _ from h0)
  refine ⟨ad.block, ad.off, by rw [hA, ← hp], ?_⟩
  rw [Int.toNat_natCast, hp] at h1
  have e : (⟨ad.block, ad.off, none⟩ : Addr).add i = ⟨ad.block, ad.off + i, none⟩ := by
    unfold Addr.add
    split
    · rename_i h; subst h; rfl
    · rfl
  rw [e] at h1
  rw [h1]
  rfl

theorem picks_of_S {w : World} {R : Nat} {v : Value} {t : List (List Int)} (h : Kd.S (Kd.slice 3 (Kd.int .i64)) 23 w R (fun _ => True) v t) : ∃ A c, v = .slice A t.length c ∧ PicksAt w A t := by
  obtain ⟨A, c, rfl⟩ := Kd.S_slice h
  have hC := (Kd.S_reads' h).2.2
  refine ⟨A, c, rfl, fun i hi => ?_⟩
  obtain ⟨ad, A0, c0, e0, h0, _, _⟩ := at_L3 hC 0 (by omega) (by omega)
  obtain ⟨ad', Ai, ci, e1, h1, _, h2⟩ := at_L3 hC i (by omega) (by omega)
  rw [e0] at e1
  cases e1
  have hp := plain_of_cell (show w.cell? ad = _ from h0)
  refine ⟨ad.block, ad.off, by rw [e0, ← hp], Ai, ci, ?_, ?_⟩
  · rw [Int.toNat_natCast, hp] at h1
    have e : (⟨ad.block, ad.off, none⟩ : Addr).add i = ⟨ad.block, ad.off + i, none⟩ := by
      unfold Addr.add
      split
      · rename_i h; subst h; rfl
      · rfl
    rw [e] at h1
    have er : rd_L3 t (i : Int) = t.getD i [] := by unfold rd_L3; rw [Int.toNat_natCast]
    rw [er] at h1
    exact h1
  · have er : rd_L3 t (i : Int) = t.getD i [] := by unfold rd_L3; rw [Int.toNat_natCast]
    rw [er] at h2
    exact ints_of_C h2
end Go.Proofs.YtapikimhmjnjeaaGreatDoor

