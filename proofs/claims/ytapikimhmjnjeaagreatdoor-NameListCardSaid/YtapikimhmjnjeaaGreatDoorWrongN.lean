/- What package name's Wrong says: its iterator's and its own contract. Sizes alone are asked. -/
import Derived.Test.YtapikimhmjnjeaaGreatDoorShorterN
import Derived.Test.YtapikimhmjnjeaaGreatDoorBaseD
import Derived.Test.YtapikimhmjnjeaaGreatDoorBaseB
/- What package name's Wrong says: its iterator's and its own contract. Sizes alone are asked. -/
set_option linter.unusedVariables false
set_option linter.unusedSimpArgs false
namespace Go.Proofs.YtapikimhmjnjeaaGreatDoor
open Go.RowKit Go.Shelf
attribute [local go_sem] Oper.semAt_some

/-- The value v owns a row of the numbers x, in a block at or beyond b0. -/
def RowI (b0 : Nat) (X : World) (x : List Int) (v : Value) : Prop := X.ownsRow b0 3 1 v x.length (x.map (Value.int .i64)) ∧ (x = [] → v = .slice none 0 0)
theorem RowI.ext {b0 B : Nat} {X Y : World} {x : List Int} {v : Value} (h : RowI b0 X x v) (hE : Ext B 3 X Y) : RowI b0 Y x v := by
  refine ⟨⟨h.1.1, ?_⟩, h.2⟩
  rcases h.1.2 with h2 | ⟨g, cap, cur, rfl, hg, hh, r⟩
  · exact .inl h2
  · exact .inr ⟨g, cap, cur, rfl, hg, hE.same g _ hh (.inr (by simp [Obj.ofE])), r⟩
theorem RowI.slice {b0 : Nat} {X : World} {x : List Int} {v : Value} (h : RowI b0 X x v) : ∃ A c, v = .slice A x.length c := by
  rcases h.1.2 with ⟨rfl, hn⟩ | ⟨g, cap, cur, rfl, _⟩
  · exact ⟨none, 0, by rw [hn]⟩
  · exact ⟨_, _, rfl⟩
theorem RowI.read {b0 : Nat} {X : World} {x : List Int} {v : Value} (h : RowI b0 X x v) : ∃ A c, v = .slice A x.length c ∧ IntsAt X A x := by
  rcases h.1.2 with ⟨rfl, hn⟩ | ⟨g, cap, cur, rfl, hg, hh, hc1, hc2, hc3, hc4⟩
  · exact ⟨none, 0, by rw [hn], fun i hi => by omega⟩
  · refine ⟨_, cap, rfl, fun i hi => ⟨g, 0, rfl, ?_⟩⟩
    have h1 : cur[i]? = some (.int .i64 (x.getD i 0)) := by
      have e1 : (cur.toList.take (x.length * 1))[i]? = cur.toList[i]? := List.getElem?_take_of_lt (by omega)
      rw [hc4] at e1
      rw [← Array.getElem?_toList, ← e1, List.getElem?_map, List.getElem?_eq_getElem hi, List.getD_eq_getElem?_getD, List.getElem?_eq_getElem hi]
      rfl
    simp [World.cell?, hh, h1]
theorem StrsAt.of_heap {V X : World} {A : Option Addr} {l : List ByteArray} (h : StrsAt V A l) (hx : ∀ a, (A = some a ∧ l ≠ []) → X.heap[a.block]? = V.heap[a.block]?) : StrsAt X A l := fun i hi => by
  obtain ⟨b, off, rfl, h1⟩ := h i hi
  have := hx _ ⟨rfl, fun e => by rw [e] at hi; simp at hi⟩
  refine ⟨b, off, rfl, ?_⟩
  have e : X.cell? ⟨b, off + i, none⟩ = V.cell? ⟨b, off + i, none⟩ := by simp [World.cell?, show X.heap[b]? = V.heap[b]? from this]
  exact e.trans h1
end Go.Proofs.YtapikimhmjnjeaaGreatDoor

