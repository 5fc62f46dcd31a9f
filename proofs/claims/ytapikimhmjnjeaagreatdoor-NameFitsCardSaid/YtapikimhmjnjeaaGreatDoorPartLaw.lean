/- Plain laws of the strings of some letters of a string: no program in sight. -/
import Derived.Test.YtapikimhmjnjeaaGreatDoorCutLaw
/- Plain laws of the strings of some letters of a string: no program in sight. -/
set_option linter.unusedVariables false
set_option linter.unusedSimpArgs false
namespace Go.Proofs.YtapikimhmjnjeaaGreatDoor
open Go.RowKit

/-- All rows of so many letters of a row, in the same order. -/
def partsN : Nat → L → List L
  | 0, _ => [[]]
  | _ + 1, [] => []
  | m + 1, b :: u => (partsN m u).map (fun x => b :: x) ++ partsN (m + 1) u
theorem mem_partsN {x : L} : ∀ (m : Nat) (u : L), x ∈ partsN m u ↔ x.Sublist u ∧ x.length = m
  | 0, u => by
    rw [partsN, List.mem_singleton]
    constructor
    · rintro rfl; exact ⟨List.nil_sublist _, rfl⟩
    · rintro ⟨_, h⟩; exact List.length_eq_zero_iff.1 h
  | m + 1, [] => by
    rw [partsN]
    constructor
    · intro h; cases h
    · rintro ⟨h1, h2⟩
      rw [List.sublist_nil.1 h1] at h2
      cases h2
  | m + 1, b :: u => by
    rw [partsN, List.mem_append, List.mem_map, mem_partsN (m + 1) u]
    constructor
    · rintro (⟨y, hy, rfl⟩ | ⟨h1, h2⟩)
      · obtain ⟨h1, h2⟩ := (mem_partsN m u).1 hy
        exact ⟨h1.cons_cons b, by simp [h2]⟩
      · exact ⟨h1.cons b, h2⟩
    · rintro ⟨h1, h2⟩
      cases h1 with
      | cons _ h1 => exact .inr ⟨h1, h2⟩
      | cons_cons _ h1 =>
        rename_i y
        exact .inl ⟨y, (mem_partsN m u).2 ⟨h1, by simpa using h2⟩, rfl⟩
theorem partsN_none : ∀ (m : Nat) (u : L), u.length < m → partsN m u = []
  | 0, u, h => by omega
  | m + 1, [], _ => rfl
  | m + 1, b :: u, h => by
    rw [List.length_cons] at h
    rw [partsN, partsN_none m u (by omega), partsN_none (m + 1) u (by omega)]
    rfl
theorem partsN_len : ∀ (m : Nat) (u : L), (partsN m u).length ≤ 2 ^ u.length
  | 0, u => by
    rw [partsN]
    exact Nat.one_le_two_pow
  | m + 1, [] => by simp [partsN]
  | m + 1, b :: u => by
    have h1 := partsN_len m u
    have h2 := partsN_len (m + 1) u
    rw [partsN, List.length_append, List.length_map, List.length_cons, Nat.pow_succ]
    omega
/-- The same as strings. -/
def partsB (m : Nat) (u : L) : List ByteArray := (partsN m u).map fun x => ⟨x.toArray⟩
theorem partsB_len (m : Nat) (u : L) : (partsB m u).length ≤ 2 ^ u.length := by unfold partsB; rw [List.length_map]; exact partsN_len m u
theorem partsB_cons (m : Nat) (b : UInt8) (u : L) : partsB (m + 1) (b :: u) = (partsB m u).map (fun x => ⟨#[b]⟩ ++ x) ++ partsB (m + 1) u := by
  unfold partsB
  rw [partsN, List.map_append, List.map_map, List.map_map]
  congr 1
theorem mem_partsB {s : ByteArray} {m : Nat} {u : L} : s ∈ partsB m u ↔ s.data.toList.Sublist u ∧ s.size = m := by
  unfold partsB
  rw [List.mem_map]
  constructor
  · rintro ⟨x, hx, rfl⟩
    obtain ⟨h1, h2⟩ := (mem_partsN m u).1 hx
    refine ⟨by simpa using h1, ?_⟩
    rw [← ba_len]
    simpa using h2
  · rintro ⟨h1, h2⟩
    exact ⟨s.data.toList, (mem_partsN m u).2 ⟨h1, by rw [ba_len]; exact h2⟩, ba_ext (by simp)⟩
end Go.Proofs.YtapikimhmjnjeaaGreatDoor

