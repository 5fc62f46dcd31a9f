/- More of what the printed functions say of good rules and names: plain laws. -/
import Derived.Test.YtapikimhmjnjeaaGreatDoorUsesPure
import Derived.Test.YtapikimhmjnjeaaGreatDoorPr7
import Derived.Test.YtapikimhmjnjeaaGreatDoorPr5
import Derived.Test.YtapikimhmjnjeaaGreatDoorChainLaw
/- More of what the printed functions say of good rules and names: plain laws. -/
set_option linter.unusedVariables false
set_option linter.unusedSimpArgs false
namespace Go.Proofs.YtapikimhmjnjeaaGreatDoor.Pure
open Go.RowKit Go.Proofs.YtapikimhmjnjeaaGreatDoor Go.Proofs.YtapikimhmjnjeaaGreatDoor.Pr Go.Proofs.YtapikimhmjnjeaaGreatDoorW.PrintWords Go.Proofs.YtapikimhmjnjeaaGreatDoorW.PrintLast

theorem at_name {l : List ByteArray} (hl : ∀ s ∈ l, Nm s) {i : Nat} (h : i < l.length) : rdOf ByteArray.empty l (i : Int) = l.getD i ByteArray.empty ∧ Nm (l.getD i ByteArray.empty) := by
  refine ⟨by unfold rdOf; rw [Int.toNat_natCast], hl _ ?_⟩
  rw [List.getD_eq_getElem?_getD, List.getElem?_eq_getElem h]
  exact List.getElem_mem _
/-- Uses as a number: 9 of too many. -/
def uval (o : Option Nat) : Int := match o with | some n => (n : Int) | none => 9
theorem uses_v {l : List S83} (hl : l.length ≤ 4) (h : ∀ r ∈ l, RuleOk r) {a b : ByteArray} (ha : Nm a) (hb : Nm b) (k : Nat) (hk : 7 ≤ k) :
    wayzgooselaw03_uses.f k l a b = some (uval (usesN l a b), true) := by
  rw [uses_f hl h ha hb k hk]
  rfl
theorem usesN_le2 {l : List S83} {a b : ByteArray} {n : Nat} (h : usesN l a b = some n) : n ≤ 2 := (usesK_some.1 (show usesK (l.map toRl) (keyB a) (keyB b) = some n from h)).1
theorem usesN_zero {l : List S83} {a b : ByteArray} : usesN l a b = some 0 ↔ keyB a = keyB b := usesK_zero (l := l.map toRl)
theorem usesN_mono {l l2 : List S83} (hl : ∀ r ∈ l, r ∈ l2) {a b : ByteArray} {n : Nat} (h : usesN l a b = some n) : ∃ m, m ≤ n ∧ usesN l2 a b = some m :=
  usesK_mono (l := l.map toRl) (l2 := l2.map toRl) (fun r hr => by obtain ⟨x, hx, rfl⟩ := List.mem_map.1 hr; exact List.mem_map.2 ⟨x, hl x hx, rfl⟩) h
theorem uval_range {l : List S83} {a b : ByteArray} : 0 ≤ uval (usesN l a b) ∧ uval (usesN l a b) ≤ 9 := by
  cases h : usesN l a b with
  | none => exact ⟨by decide, by decide⟩
  | some n =>
    have := usesN_le2 h
    show 0 ≤ (n : Int) ∧ (n : Int) ≤ 9
    omega
/-- Two names' uses as numbers, and the verdict. -/
def verd (o : Option Nat) : Int := match o with | none => 2 | some 0 => 1 | some _ => 3
theorem Verdict_f {l : List S83} (hl : l.length ≤ 4) (h : ∀ r ∈ l, RuleOk r) {a b : ByteArray} (ha : Nm a) (hb : Nm b) (k : Nat) (hk : 7 ≤ k) :
    name_Verdict.f k l a b = some (verd (usesN l a b), 0) := by
  unfold name_Verdict.f
  rw [bind_eq (Uses_f hl h ha hb k hk)]
  cases hu : usesN l a b with
  | none => rfl
  | some n =>
    dsimp only
    rw [if_neg (by decide), if_pos rfl]
    cases n with
    | zero => rfl
    | succ n => rw [if_neg (by omega)]; rfl
end Go.Proofs.YtapikimhmjnjeaaGreatDoor.Pure

