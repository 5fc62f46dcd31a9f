/- What the printed Chain, Uses and the law's uses say of good rules and names: plain laws. -/
import Derived.Test.YtapikimhmjnjeaaGreatDoorKit
import Derived.Test.YtapikimhmjnjeaaGreatDoorPr4
/- What the printed Chain, Uses and the law's uses say of good rules and names: plain laws. -/
set_option linter.unusedVariables false
set_option linter.unusedSimpArgs false
namespace Go.Proofs.YtapikimhmjnjeaaGreatDoor.Pure
open Go.RowKit Go.Proofs.YtapikimhmjnjeaaGreatDoor Go.Proofs.YtapikimhmjnjeaaGreatDoor.Pr Go.Proofs.YtapikimhmjnjeaaGreatDoorW.PrintWords Go.Proofs.YtapikimhmjnjeaaGreatDoorW.PrintLast

theorem check_f {s : ByteArray} (h : Nm s) : name_Check.f s = some 0 := by
  unfold name_Check.f
  rw [if_pos (Nat.le_trans h.le (by decide)), nm_chk h]
theorem checked_l0 (l : List ByteArray) (hl : l.length ≤ 1000) (h : ∀ s ∈ l, Nm s) : ∀ (n i k : Nat), n < k → i + n = l.length → name_checked.l0 k l (l.length : Int) (i : Int) = some 0 := by
  intro n
  induction n with
  | zero =>
    intro i k hk hi
    obtain ⟨k, rfl⟩ : ∃ k', k = k' + 1 := ⟨k - 1, by omega⟩
    rw [name_checked.l0, if_neg (by omega)]
  | succ n ih =>
    intro i k hk hi
    obtain ⟨k, rfl⟩ : ∃ k', k = k' + 1 := ⟨k - 1, by omega⟩
    have hm : rdOf ByteArray.empty l (i : Int) ∈ l := by
      unfold rdOf
      rw [Int.toNat_natCast, List.getD_eq_getElem?_getD, List.getElem?_eq_getElem (by omega)]
      exact List.getElem_mem _
    rw [name_checked.l0, if_pos (by omega), if_pos (by omega), if_pos (by omega), bind_eq (check_f (h _ hm)), if_pos rfl, IntWalk.wrap64_in _ (by omega)]
    have := ih (i + 1) k (by omega) (by omega)
    rw [show ((i + 1 : Nat) : Int) = (i : Int) + 1 by omega] at this
    exact this
theorem checked_ok (l : List ByteArray) (h : ∀ s ∈ l, Nm s) (hl : l.length ≤ 1000) (k : Nat) (hk : l.length < k) : name_checked.f k l = some 0 := by
  unfold name_checked.f
  exact checked_l0 l hl h l.length 0 k (by omega) (by omega)
end Go.Proofs.YtapikimhmjnjeaaGreatDoor.Pure

