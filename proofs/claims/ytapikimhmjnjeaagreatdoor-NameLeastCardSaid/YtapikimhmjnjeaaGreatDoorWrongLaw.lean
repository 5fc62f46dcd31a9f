/- Plain laws of names at a wrong place: no program in sight. -/
import Derived.Test.YtapikimhmjnjeaaGreatDoorNameLaw
import Derived.Test.YtapikimhmjnjeaaGreatDoorBaseA
import Derived.Test.YtapikimhmjnjeaaGreatDoorBaseD
/- Plain laws of names at a wrong place: no program in sight. -/
set_option linter.unusedVariables false
set_option linter.unusedSimpArgs false
namespace Go.Proofs.YtapikimhmjnjeaaGreatDoor
open Go.RowKit

/-- All ascending lists of k of the m numbers from i on, in lexicographic order. -/
def subsL : Nat → Nat → Nat → List (List Int)
  | _, _, 0 => [[]]
  | 0, _, _ + 1 => []
  | m + 1, i, k + 1 => (subsL m (i + 1) k).map ((i : Int) :: ·) ++ subsL m (i + 1) (k + 1)
def fromL (i m : Nat) : List Int := (List.range m).map fun j => ((i + j : Nat) : Int)
theorem fromL_succ (i m : Nat) : fromL i (m + 1) = (i : Int) :: fromL (i + 1) m := by
  unfold fromL
  rw [List.range_succ_eq_map, List.map_cons, List.map_map]
  congr 1
  refine List.map_congr_left fun j _ => ?_
  show ((i + (j + 1) : Nat) : Int) = ((i + 1 + j : Nat) : Int)
  omega
theorem mem_subsL {x : List Int} : ∀ (m i k : Nat), x ∈ subsL m i k ↔ x.Sublist (fromL i m) ∧ x.length = k
  | m, i, 0 => by
    have : subsL m i 0 = [[]] := by cases m <;> rfl
    rw [this, List.mem_singleton, List.length_eq_zero_iff]
    exact ⟨fun h => by subst h; exact ⟨List.nil_sublist _, rfl⟩, fun h => h.2⟩
  | 0, i, k + 1 => by
    rw [subsL]
    constructor
    · intro h; cases h
    · rintro ⟨h1, h2⟩
      have := List.sublist_nil.1 h1
      subst this
      cases h2
  | m + 1, i, k + 1 => by
    rw [subsL, fromL_succ, List.mem_append, List.mem_map, mem_subsL m (i + 1) (k + 1), List.sublist_cons_iff]
    constructor
    · rintro (⟨t, ht, rfl⟩ | ⟨h1, h2⟩)
      · obtain ⟨h1, h2⟩ := (mem_subsL m (i + 1) k).1 ht
        exact ⟨.inr ⟨t, rfl, h1⟩, by simp [h2]⟩
      · exact ⟨.inl h1, h2⟩
    · rintro ⟨h1 | ⟨t, rfl, h1⟩, h2⟩
      · exact .inr ⟨h1, h2⟩
      · exact .inl ⟨t, (mem_subsL m (i + 1) k).2 ⟨h1, by simpa using h2⟩, rfl⟩
end Go.Proofs.YtapikimhmjnjeaaGreatDoor

