/- append onto a row of strings of the call's own, as one step of a region that draws its order. -/
import Derived.Test.YtapikimhmjnjeaaGreatDoorPicksN
import Derived.Deep.RegionLaw
import Derived.Laws.OwnMore
/- append onto a row of strings of the call's own, as one step of a region that draws its order. -/
set_option linter.unusedVariables false
set_option linter.unusedSimpArgs false
namespace Go.Proofs.YtapikimhmjnjeaaGreatDoor
open Go.RowKit Go.Shelf

/-- The value v owns a row of the strings xs at or beyond B0; all below B0 is as it was. -/
structure AppSt (B0 : Nat) (W0 W : World) (v : Value) (xs : List ByteArray) : Prop where
  own : W.ownsRow B0 9 1 v xs.length (xs.map Value.string)
  low : Below B0 W0 W
  big : B0 ≤ W.heap.size
theorem AppSt.alloc {B0 : Nat} {W0 W : World} {v : Value} {xs : List ByteArray} (h : AppSt B0 W0 W v xs) (o : Obj) : AppSt B0 W0 (W.alloc o) v xs := ⟨h.own.alloc o, h.low.alloc h.big o, by have := h.big; simp; omega⟩
theorem AppSt.new {B0 n : Nat} {W0 W : World} (h : Below B0 W0 W) (hb : B0 ≤ W.heap.size) (hn : W.heap.size = n) : AppSt B0 W0 (W.alloc (.cells #[] 9)) (.slice (some ⟨n, 0, none⟩) 0 0) [] := by
  subst hn
  exact ⟨⟨rfl, .inr ⟨W.heap.size, 0, #[], rfl, hb, heap_alloc_new W _, Nat.le_refl _, by unfold maxLen; omega, rfl, rfl⟩⟩, h.alloc hb _, by simp; omega⟩
theorem AppSt.nil {B0 : Nat} {W0 W : World} (h : Below B0 W0 W) (hb : B0 ≤ W.heap.size) : AppSt B0 W0 W (.slice none 0 0) [] := ⟨⟨rfl, .inl ⟨rfl, rfl⟩⟩, h, hb⟩
theorem AppSt.below {B0 : Nat} {W0 W W1 : World} {v : Value} {xs : List ByteArray} (h : AppSt B0 W0 W v xs) (hb : Below W.heap.size W W1) : AppSt B0 W0 W1 v xs := by
  refine ⟨⟨h.own.1, ?_⟩, h.low.trans (hb.mono h.big), Nat.le_trans h.big hb.size⟩
  rcases h.own.2 with h2 | ⟨g, cap, cur, e, hg, hh, r⟩
  · exact .inl h2
  · exact .inr ⟨g, cap, cur, e, hg, (hb.block g (Array.getElem?_eq_some_iff.1 hh).1).trans hh, r⟩
/-- A slice of strings that is read: nil, or from an address on. -/
def ReadS (W : World) (A : Option Addr) (m c : Nat) (ys : List ByteArray) : Prop := ys.length = m ∧ ((A = none ∧ m = 0 ∧ c = 0) ∨ ∃ b off, A = some ⟨b, off, none⟩ ∧ ∀ j, j < ys.length → W.cell? ⟨b, off + j, none⟩ = some (.string (ys.getD j ByteArray.empty)))
theorem ReadS.keep {W W1 : World} {A : Option Addr} {m c : Nat} {ys : List ByteArray} (h : ReadS W A m c ys) (hk : ∀ b off, A = some ⟨b, off, none⟩ → ∀ j, j < ys.length → W1.cell? ⟨b, off + j, none⟩ = W.cell? ⟨b, off + j, none⟩) : ReadS W1 A m c ys := by
  refine ⟨h.1, ?_⟩
  rcases h.2 with h2 | ⟨b, off, e, h3⟩
  · exact .inl h2
  · exact .inr ⟨b, off, e, fun j hj => (hk b off e j hj).trans (h3 j hj)⟩
theorem ReadS.below {B0 : Nat} {W W1 : World} {A : Option Addr} {m c : Nat} {ys : List ByteArray} (h : ReadS W A m c ys) (hB : B0 = W.heap.size) (hb : Below B0 W W1) : ReadS W1 A m c ys := by
  subst hB
  refine ⟨h.1, ?_⟩
  rcases h.2 with h2 | ⟨b, off, e, h3⟩
  · exact .inl h2
  · exact .inr ⟨b, off, e, fun j hj => (hb.cell (p := ⟨b, off + j, none⟩) (World.block_lt_of_cell? W _ (h3 j hj))).trans (h3 j hj)⟩
theorem ReadS.one {W : World} {b : Nat} {s : ByteArray} (h : W.cell? ⟨b, 0, none⟩ = some (.string s)) : ReadS W (some ⟨b, 0, none⟩) 1 1 [s] :=
  ⟨rfl, .inr ⟨b, 0, rfl, fun j hj => by
    obtain rfl : j = 0 := by simpa using hj
    exact h⟩⟩

end Go.Proofs.YtapikimhmjnjeaaGreatDoor

