/- 'From some number of rounds on': plain words on the printed functions. -/
import Derived.Test.YtapikimhmjnjeaaGreatDoorKit
set_option linter.unusedVariables false
set_option linter.unusedSimpArgs false
namespace Go.Proofs.YtapikimhmjnjeaaGreatDoor.Pure
open Go.RowKit Go.Proofs.YtapikimhmjnjeaaGreatDoor Go.Proofs.YtapikimhmjnjeaaGreatDoor.Pr Go.Proofs.YtapikimhmjnjeaaGreatDoorW.PrintWords Go.Proofs.YtapikimhmjnjeaaGreatDoorW.PrintLast

/-- With enough rounds the function tells r. -/
def Evn {α : Type} (g : Nat → Option α) (r : α) : Prop := ∃ K, ∀ k, K ≤ k → g k = some r
theorem Evn.now {α : Type} {g : Nat → Option α} {r : α} (K : Nat) (h : ∀ k, K ≤ k → g k = some r) : Evn g r := ⟨K, h⟩
/-- One round: where k + 1 rounds are to tell r, from some k on. -/
theorem Evn.step {α : Type} {g : Nat → Option α} {r : α} (K : Nat) (h : ∀ k, K ≤ k → g (k + 1) = some r) : Evn g r :=
  ⟨K + 1, fun k hk => by obtain ⟨k, rfl⟩ : ∃ k', k = k' + 1 := ⟨k - 1, by omega⟩; exact h k (by omega)⟩
/-- A round that hands on. -/
theorem Evn.next {α : Type} {g h : Nat → Option α} {r : α} (hh : Evn h r) (K : Nat) (e : ∀ k, K ≤ k → g (k + 1) = h k) : Evn g r := by
  obtain ⟨K2, h2⟩ := hh
  exact Evn.step (K + K2) (fun k hk => (e k (by omega)).trans (h2 k (by omega)))
theorem Evn.bnd {α β : Type} {g : Nat → Option α} {x : α} {f : Nat → α → Option β} {r : β} (h : Evn g x) (h2 : Evn (fun k => f k x) r) : Evn (fun k => (g k).bind (f k)) r := by
  obtain ⟨K1, h1⟩ := h
  obtain ⟨K2, h2⟩ := h2
  exact ⟨K1 + K2, fun k hk => (bind_eq (h1 k (by omega))).trans (h2 k (by omega))⟩
theorem Evn.get {α : Type} {g : Nat → Option α} {r : α} (h : Evn g r) : ∃ k, g k = some r := by
  obtain ⟨K, h⟩ := h
  exact ⟨K, h K (Nat.le_refl _)⟩
theorem Evn.cast {α : Type} {g h : Nat → Option α} {r : α} (hh : Evn h r) (e : ∀ k, g k = h k) : Evn g r := by
  obtain ⟨K, h2⟩ := hh
  exact ⟨K, fun k hk => (e k).trans (h2 k hk)⟩

theorem EqInts_l0 (l m : List Int) (hl : l.length ≤ 1000000000) (he : l.length = m.length) : ∀ (n i : Nat), i + n = l.length → (∀ j, j < i → l.getD j 0 = m.getD j 0) → Evn (fun k => wayzgoosekit_EqInts.l0 k l m (i : Int)) (decide (l = m))
  | 0, i, hi, hp => Evn.step 0 fun k _ => by
      rw [wayzgoosekit_EqInts.l0, if_neg (by omega), decide_eq_true]
      refine List.ext_getElem? fun j => ?_
      by_cases hj : j < l.length
      · have := hp j (by omega)
        rw [List.getD_eq_getElem?_getD, List.getD_eq_getElem?_getD, List.getElem?_eq_getElem hj, List.getElem?_eq_getElem (by omega)] at this
        rw [List.getElem?_eq_getElem hj, List.getElem?_eq_getElem (by omega)]
        exact congrArg some this
      · rw [List.getElem?_eq_none (by omega), List.getElem?_eq_none (by omega)]
  | n + 1, i, hi, hp => by
      by_cases e : l.getD i 0 = m.getD i 0
      · refine Evn.next (EqInts_l0 l m hl he n (i + 1) (by omega) (fun j hj => ?_)) 0 fun k _ => ?_
        · by_cases h : j = i
          · subst h; exact e
          · exact hp j (by omega)
        · rw [wayzgoosekit_EqInts.l0, if_pos (by omega), if_pos (by omega), if_pos (by omega), if_pos (by unfold rd; rw [Int.toNat_natCast]; exact e), IntWalk.wrap64_in _ (by omega)]
          rw [show ((i + 1 : Nat) : Int) = (i : Int) + 1 by omega]
      · refine Evn.step 0 fun k _ => ?_
        rw [wayzgoosekit_EqInts.l0, if_pos (by omega), if_pos (by omega), if_pos (by omega), if_neg (by unfold rd; rw [Int.toNat_natCast]; exact e), decide_eq_false (fun h => e (by rw [h]))]
theorem EqInts_ev (l m : List Int) (hl : l.length ≤ 1000000000) : Evn (fun k => wayzgoosekit_EqInts.f k l m) (decide (l = m)) := by
  by_cases he : l.length = m.length
  · refine (EqInts_l0 l m hl he l.length 0 (by omega) (fun j hj => by omega)).cast fun k => ?_
    unfold wayzgoosekit_EqInts.f
    rw [if_pos (by omega)]
    rfl
  · refine Evn.now 0 fun k _ => ?_
    unfold wayzgoosekit_EqInts.f
    rw [if_neg (by omega), decide_eq_false (fun h => he (by rw [h]))]
end Go.Proofs.YtapikimhmjnjeaaGreatDoor.Pure
