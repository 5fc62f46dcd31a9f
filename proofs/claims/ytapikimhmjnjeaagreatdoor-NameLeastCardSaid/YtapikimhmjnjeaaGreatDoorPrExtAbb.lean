/- abbreviations in the form in which the print meets a function's contract. Asked: sizes. -/
import Derived.Test.YtapikimhmjnjeaaGreatDoorPrExt
import Derived.Test.YtapikimhmjnjeaaGreatDoorAbbrsN
import Derived.Test.YtapikimhmjnjeaaGreatDoorOrdPure
/- abbreviations in the form in which the print meets a function's contract. Asked: sizes. -/
set_option linter.unusedVariables false
set_option linter.unusedSimpArgs false
namespace Go.Proofs.YtapikimhmjnjeaaGreatDoor.Pr
open Go.RowKit Go.Shelf Go.Proofs.YtapikimhmjnjeaaGreatDoor Go.Proofs.YtapikimhmjnjeaaGreatDoorW.PrintWords Go.Proofs.YtapikimhmjnjeaaGreatDoorW.PrintLast Go.Proofs.YtapikimhmjnjeaaGreatDoorW.PrintMore

/-- The indices that are taken. -/
def abbrX (key : ByteArray) (many : Nat) : List (List Int) := subsL (key.size - 1) 0 (many - 1)
/-- All abbreviations with so many letters, in order. -/
def abbrK (key : ByteArray) (many : Nat) : List ByteArray := abbrO key (abbrX key many) (abbrX key many).length
theorem fromL_lt {i m : Nat} {z : Int} (h : z ∈ fromL i m) : (i : Int) ≤ z ∧ z < ((i + m : Nat) : Int) := by
  unfold fromL at h
  obtain ⟨j, hj, rfl⟩ := List.mem_map.1 h
  have := List.mem_range.1 hj
  constructor <;> omega
theorem abbrX_at {key : ByteArray} {many i : Nat} (h : i < (abbrX key many).length) : ((abbrX key many).getD i []).Sublist (fromL 0 (key.size - 1)) ∧ ((abbrX key many).getD i []).length = many - 1 := by
  have hm : (abbrX key many).getD i [] ∈ subsL (key.size - 1) 0 (many - 1) := by
    rw [List.getD_eq_getElem?_getD, List.getElem?_eq_getElem h]
    exact List.getElem_mem _
  exact (mem_subsL _ _ _).1 hm

def wayzgooselaw03_abbreviations.f (a0 : ByteArray) (a1 : Int) : Option (List ByteArray) := if 0 < a0.size ∧ a0.size ≤ 12 ∧ 1 ≤ a1 ∧ a1 ≤ 13 then some (abbrK a0 a1.toNat) else none
theorem wayzgooselaw03_abbreviations.calls (a0 : ByteArray) (a1 : Int) (r : List ByteArray) (w : World) (h : wayzgooselaw03_abbreviations.f a0 a1 = some r) :
    Calls Tryz.prog 67 #[.string a0, .int .i64 a1] w fun e w' => ∃ v0_ : Value, e = .returned (v0_) ∧ Kd.R Kd.string 9 w' w.heap.size (fun _ => True) v0_ r ∧ Below w.heap.size w w' := by
  unfold wayzgooselaw03_abbreviations.f at h
  split at h
  · rename_i hs
    cases h
    obtain ⟨m, rfl⟩ : ∃ m : Nat, a1 = (m : Int) := ⟨a1.toNat, by omega⟩
    rw [Int.toNat_natCast]
    obtain ⟨K, hK⟩ := Pure.Subsets_ev (a0.size - 1) (m - 1) (by omega) (by omega)
    have hlen := Pure.subsL_len (a0.size - 1) 0 (m - 1)
    have h2 : 2 ^ (a0.size - 1) ≤ 2 ^ 12 := Nat.pow_le_pow_right (by omega) (by omega)
    have e1 : ((a0.size - 1 : Nat) : Int) = (a0.size : Int) - 1 := by omega
    have e2 : ((m - 1 : Nat) : Int) = (m : Int) - 1 := by omega
    have hK := hK K (Nat.le_refl _)
    rw [e1, e2] at hK
    refine (abbrs_any K a0 (m : Int) (abbrX a0 m) w (by omega) (by omega) (by omega) hs.1 hK (by show (subsL _ _ _).length ≤ _; omega) (fun i hi => ?_)).mono ?_
    · obtain ⟨h3, h4⟩ := abbrX_at hi
      refine ⟨by omega, fun j hj => ?_⟩
      have hm : ((abbrX a0 m).getD i []).getD j 0 ∈ fromL 0 (a0.size - 1) := h3.subset (by
        rw [List.getD_eq_getElem?_getD (l := (abbrX a0 m).getD i []), List.getElem?_eq_getElem hj]
        exact List.getElem_mem _)
      have := fromL_lt hm
      omega
    · rintro e w' ⟨v, rfl, ho, hB⟩
      exact ⟨v, rfl, Kd.R_of_own ho (fun _ _ => trivial), hB⟩
  · cases h
end Go.Proofs.YtapikimhmjnjeaaGreatDoor.Pr

