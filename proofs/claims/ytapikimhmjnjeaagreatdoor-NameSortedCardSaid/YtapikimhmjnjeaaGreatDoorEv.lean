/- 'From some number of rounds on': plain words on the printed functions. -/
import Derived.Test.YtapikimhmjnjeaaGreatDoorKit
/- 'From some number of rounds on': plain words on the printed functions. -/
set_option linter.unusedVariables false
set_option linter.unusedSimpArgs false
namespace Go.Proofs.YtapikimhmjnjeaaGreatDoor.Pure
open Go.RowKit Go.Proofs.YtapikimhmjnjeaaGreatDoor Go.Proofs.YtapikimhmjnjeaaGreatDoor.Pr Go.Proofs.YtapikimhmjnjeaaGreatDoorW.PrintWords Go.Proofs.YtapikimhmjnjeaaGreatDoorW.PrintLast

/-- With enough rounds the function tells r. -/
def Evn {α : Type} (g : Nat → Option α) (r : α) : Prop := ∃ K, ∀ k, K ≤ k → g k = some r
theorem Evn.now {α : Type} {g : Nat → Option α} {r : α} (K : Nat) (h : ∀ k, K ≤ k → g k = some r) : Evn g r := ⟨K, h⟩
/-- One round: where k + 1 rounds are to tell r, from some k on. -/
theorem Evn.step {α : Type} {g : Nat → Option α} {r : α} (K : Nat) (h : ∀ k, K ≤ k → g (k + 1) = some r) : Evn g r :=
  ⟨K + 1, fun k hk => by obtain ⟨k, rfl⟩ : ∃ k', k = k' + 1 := ⟨k - 1, by omega⟩; exact h k (by omega)⟩
/-- A round that hands on. -/
theorem Evn.next {α : Type} {g h : Nat → Option α} {r : α} (hh : Evn h r) (K : Nat) (e : ∀ k, K ≤ k → g (k + 1) = h k) : Evn g r := by
  obtain ⟨K2, h2⟩ := hh
  exact Evn.step (K + K2) (fun k hk => (e k (by omega)).trans (h2 k (by omega)))
theorem Evn.get {α : Type} {g : Nat → Option α} {r : α} (h : Evn g r) : ∃ k, g k = some r := by
  obtain ⟨K, h⟩ := h
  exact ⟨K, h K (Nat.le_refl _)⟩
end Go.Proofs.YtapikimhmjnjeaaGreatDoor.Pure

