/- What the printed Shortest and Fit say of valid names; letters of a key: plain laws. -/
import Derived.Test.YtapikimhmjnjeaaGreatDoorMistPure
/- What the printed Shortest and Fit say of valid names; letters of a key: plain laws. -/
set_option linter.unusedVariables false
set_option linter.unusedSimpArgs false
namespace Go.Proofs.YtapikimhmjnjeaaGreatDoor.Pure
open Go.RowKit Go.Proofs.YtapikimhmjnjeaaGreatDoor Go.Proofs.YtapikimhmjnjeaaGreatDoor.Pr Go.Proofs.YtapikimhmjnjeaaGreatDoorW.PrintWords Go.Proofs.YtapikimhmjnjeaaGreatDoorW.PrintLast

theorem list_z {l : List ByteArray} (hl : ∀ s ∈ l, Nm s) (hlen : l.length ≤ 6) : listedZ l = 0 := by
  unfold listedZ
  rw [if_neg (by omega)]
  exact nm_chkL hl
theorem indexF_at {l : List ByteArray} (hl : ∀ s ∈ l, Nm s) (hlen : l.length ≤ 6) {i : Nat} (h : i < l.length) : indexF l (i : Int) = (keyB (l.getD i ByteArray.empty), 0) := by
  unfold indexF
  rw [if_pos (list_z hl hlen), if_neg (by omega), Int.toNat_natCast]
/-- What is made of the letters that are found. -/
def resC : Option ByteArray → ByteArray × Int
  | some s => (dotted s, 0)
  | none => (ByteArray.empty, 11)
theorem snoc_nm2 {l : List ByteArray} {a : ByteArray} (hl : ∀ s ∈ l, Nm s) (ha : Nm a) : ∀ s ∈ l ++ [a], Nm s := fun s hs => by
  rcases List.mem_append.1 hs with h | h
  · exact hl s h
  · obtain rfl := List.mem_singleton.1 h; exact ha
theorem Shortest_f {l : List ByteArray} (hl : ∀ s ∈ l, Nm s) (hlen : l.length ≤ 6) {i : Nat} (h : i < l.length) : name_Shortest.f l (i : Int) = some (resC (cutF l (keyB (l.getD i ByteArray.empty)) 12 dirS)) := by
  unfold name_Shortest.f
  rw [if_pos ⟨by omega, fun s hs => Nat.le_trans (hl s hs).le (by decide)⟩]
  unfold shortF
  rw [indexF_at hl hlen h]
  dsimp only
  rw [if_pos rfl]
  cases cutF l (keyB (l.getD i ByteArray.empty)) 12 dirS <;> rfl
/-- Letters of a key, its first one among them, in its order. -/
def Some (t k : ByteArray) : Prop := ∃ (c : UInt8) (r u : L), t.data.toList = c :: r ∧ k.data.toList = c :: u ∧ r.Sublist u

end Go.Proofs.YtapikimhmjnjeaaGreatDoor.Pure

