/- append onto a row of strings of the call's own, as one step of a region that draws its order. -/
import Derived.Test.YtapikimhmjnjeaaGreatDoorPicksN
import Derived.Deep.RegionLaw
import Derived.Laws.OwnMore
/- append onto a row of strings of the call's own, as one step of a region that draws its order. -/
set_option linter.unusedVariables false
set_option linter.unusedSimpArgs false
namespace Go.Proofs.YtapikimhmjnjeaaGreatDoor
open Go.RowKit Go.Shelf

/-- The value v owns a row of the strings xs at or beyond B0; all below B0 is as it was. -/
structure AppSt (B0 : Nat) (W0 W : World) (v : Value) (xs : List ByteArray) : Prop where
  own : W.ownsRow B0 9 1 v xs.length (xs.map Value.string)
  low : Below B0 W0 W
  big : B0 ≤ W.heap.size
theorem AppSt.alloc {B0 : Nat} {W0 W : World} {v : Value} {xs : List ByteArray} (h : AppSt B0 W0 W v xs) (o : Obj) : AppSt B0 W0 (W.alloc o) v xs := ⟨h.own.alloc o, h.low.alloc h.big o, by have := h.big; simp; omega⟩
theorem AppSt.new {B0 n : Nat} {W0 W : World} (h : Below B0 W0 W) (hb : B0 ≤ W.heap.size) (hn : W.heap.size = n) : AppSt B0 W0 (W.alloc (.cells #[] 9)) (.slice (some ⟨n, 0, none⟩) 0 0) [] := by
  subst hn
  exact ⟨⟨rfl, .inr ⟨W.heap.size, 0, #[], rfl, hb, heap_alloc_new W _, Nat.le_refl _, by unfold maxLen; omega, rfl, rfl⟩⟩, h.alloc hb _, by simp; omega⟩
theorem cell_alloc_keep {W : World} {o : Obj} {b : Nat} {x : Value} (h : W.cell? ⟨b, 0, none⟩ = some x) : (W.alloc o).cell? ⟨b, 0, none⟩ = some x := (World.cell?_alloc_lt W o ⟨b, 0, none⟩ (World.block_lt_of_cell? W _ h)).trans h
theorem AppSt.nil {B0 : Nat} {W0 W : World} (h : Below B0 W0 W) (hb : B0 ≤ W.heap.size) : AppSt B0 W0 W (.slice none 0 0) [] := ⟨⟨rfl, .inl ⟨rfl, rfl⟩⟩, h, hb⟩
theorem AppSt.below {B0 : Nat} {W0 W W1 : World} {v : Value} {xs : List ByteArray} (h : AppSt B0 W0 W v xs) (hb : Below W.heap.size W W1) : AppSt B0 W0 W1 v xs := by
  refine ⟨⟨h.own.1, ?_⟩, h.low.trans (hb.mono h.big), Nat.le_trans h.big hb.size⟩
  rcases h.own.2 with h2 | ⟨g, cap, cur, e, hg, hh, r⟩
  · exact .inl h2
  · exact .inr ⟨g, cap, cur, e, hg, (hb.block g (Array.getElem?_eq_some_iff.1 hh).1).trans hh, r⟩
theorem AppSt.rebase {B0 B1 : Nat} {W0 W1 W2 : World} {v u : Value} {xs ys : List ByteArray} (h : AppSt B0 W0 W1 v xs) (h2 : AppSt B1 W1 W2 u ys) (hB : B1 = W1.heap.size) : AppSt B0 W0 W2 u ys := by
  subst hB
  refine ⟨⟨h2.own.1, ?_⟩, h.low.trans (h2.low.mono h.big), Nat.le_trans h.big h2.big⟩
  rcases h2.own.2 with h3 | ⟨g, cap, cur, e, hg, r⟩
  · exact .inl h3
  · exact .inr ⟨g, cap, cur, e, Nat.le_trans h.big hg, r⟩
theorem cell_kept {W W1 : World} {b : Nat} {u : Option Nat} {x : Value} (f : ∀ q, q < W.heap.size → u ≠ some q → W1.heap[q]? = W.heap[q]?) (h : W.cell? ⟨b, 0, none⟩ = some x) (hne : u ≠ some b) : W1.cell? ⟨b, 0, none⟩ = some x := by
  have h1 := f b (World.block_lt_of_cell? W _ h) hne
  have e : W1.cell? ⟨b, 0, none⟩ = W.cell? ⟨b, 0, none⟩ := by simp [World.cell?, h1]
  exact e.trans h

/-- A slice of strings that is read: nil, or from an address on. -/
def ReadS (W : World) (A : Option Addr) (m c : Nat) (ys : List ByteArray) : Prop := ys.length = m ∧ ((A = none ∧ m = 0 ∧ c = 0) ∨ ∃ b off, A = some ⟨b, off, none⟩ ∧ ∀ j, j < ys.length → W.cell? ⟨b, off + j, none⟩ = some (.string (ys.getD j ByteArray.empty)))
theorem ReadS.keep {W W1 : World} {A : Option Addr} {m c : Nat} {ys : List ByteArray} (h : ReadS W A m c ys) (hk : ∀ b off, A = some ⟨b, off, none⟩ → ∀ j, j < ys.length → W1.cell? ⟨b, off + j, none⟩ = W.cell? ⟨b, off + j, none⟩) : ReadS W1 A m c ys := by
  refine ⟨h.1, ?_⟩
  rcases h.2 with h2 | ⟨b, off, e, h3⟩
  · exact .inl h2
  · exact .inr ⟨b, off, e, fun j hj => (hk b off e j hj).trans (h3 j hj)⟩
theorem ReadS.below {B0 : Nat} {W W1 : World} {A : Option Addr} {m c : Nat} {ys : List ByteArray} (h : ReadS W A m c ys) (hB : B0 = W.heap.size) (hb : Below B0 W W1) : ReadS W1 A m c ys := by
  subst hB
  refine ⟨h.1, ?_⟩
  rcases h.2 with h2 | ⟨b, off, e, h3⟩
  · exact .inl h2
  · exact .inr ⟨b, off, e, fun j hj => (hb.cell (p := ⟨b, off + j, none⟩) (World.block_lt_of_cell? W _ (h3 j hj))).trans (h3 j hj)⟩
theorem ReadS.one {W : World} {b : Nat} {s : ByteArray} (h : W.cell? ⟨b, 0, none⟩ = some (.string s)) : ReadS W (some ⟨b, 0, none⟩) 1 1 [s] :=
  ⟨rfl, .inr ⟨b, 0, rfl, fun j hj => by
    obtain rfl : j = 0 := by simpa using hj
    exact h⟩⟩

theorem step_app {ops : Array Oper} {o : Oper} {a : Act} {K : Act → World → Prop} {Q : Exit → Act → World → Prop} {E : Prop} (hgd : o.guard = none) (s x : Operand)
    (ho : o.op = .call { callee := .builtin .append, args := #[s, x], argTypes := #[22, 22] })
    (B0 : Nat) (W0 W : World) (v : Value) (xs : List ByteArray) (hs : a.eval s = v) (hW : AppSt B0 W0 W v xs)
    (A : Option Addr) (m c : Nat) (ys : List ByteArray) (hx : a.eval x = .slice A m c) (hr : ReadS W A m c ys) (hlen : xs.length + ys.length ≤ 1000000)
    (h : ∀ v1 W1, AppSt B0 W0 W1 v1 (xs ++ ys) → (∀ q, q < W.heap.size → v.ownBlock ≠ some q → W1.heap[q]? = W.heap[q]?) → K (a.put o.dst v1) W1) :
    if Region.wanted o (yielded ops a.tmps) = true then Oper.wp Tryz.prog o a W K Q else E := by
  have hw : Region.wanted o (yielded ops a.tmps) = true := by simp [Region.wanted, hgd]
  rw [if_pos hw]
  have hinfo : (Tryz.prog.info? 9).map (fun i => (i.zero, i.size, i.bytes)) = some (some (.string ⟨#[]⟩), 1, 16) := by kernel_rfl
  obtain ⟨j0, hi, hz0, hz1, hz2⟩ : ∃ i0, Tryz.prog.info? 9 = some i0 ∧ i0.zero = some (.string ⟨#[]⟩) ∧ i0.size = 1 ∧ i0.bytes = 16 := by
    cases h : Tryz.prog.info? 9 with
    | none => rw [h] at hinfo; cases hinfo
    | some i0 => rw [h] at hinfo; simp at hinfo; exact ⟨i0, rfl, hinfo.1, hinfo.2.1, hinfo.2.2⟩
  rcases hr.2 with ⟨rfl, rfl, rfl⟩ | ⟨b, off, rfl, hcell⟩
  · have hrun := run_append_owned_none (P := Tryz.prog) (w := W) B0 22 o.type 9 j0 1 Tryz.underlying22 hi v _ _ hW.own
    obtain rfl : ys = [] := List.length_eq_zero_iff.1 hr.1
    unfold Oper.wp
    simp [execOp, ho, resolve, invoke, builtin, hs, hx, hrun, Result.andThen]
    exact h v W (by rw [List.append_nil]; exact hW) (fun _ _ _ => rfl)
  · obtain rfl := hr.1
    obtain ⟨v', w', h1, h2, h3, h4, h5⟩ := run_append_own_at (P := Tryz.prog) W B0 22 o.type 9 j0 (.string ⟨#[]⟩) 1 16 Tryz.underlying22 hi hz0 hz1 hz2 rfl (by decide) v _ _ hW.own
      ⟨b, off, none⟩ ys.length c (ys.map Value.string) (by simp) (fun j u hu => by
        rw [List.getElem?_map] at hu
        obtain ⟨y, hy, rfl⟩ := Option.map_eq_some_iff.1 hu
        have hj : j < ys.length := (List.getElem?_eq_some_iff.1 hy).1
        have hc := hcell j hj
        rw [List.getD_eq_getElem?_getD, hy] at hc
        have e : (⟨b, off, none⟩ : Addr).add j = ⟨b, off + j, none⟩ := by
          unfold Addr.add
          split
          · rename_i h; subst h; rfl
          · rfl
        rw [e]
        exact hc) (fun u hu => by
        obtain ⟨y, _, rfl⟩ := List.mem_map.1 hu
        rfl) (by unfold maxLen; omega) (by omega) hW.big
    unfold Oper.wp execOp
    simp only [ho, resolve, invoke, builtin, Sem.run_bind, Sem.run_pure, Result.andThen_ok, List.map_toArray, List.map_cons, List.map_nil, hs, hx, h1]
    refine h v' w' ⟨?_, ?_, ?_⟩ (fun q hq hne => h3.block q hq (fun e => hne e.symm))
    · rw [List.length_append, List.map_append]; exact h2
    · exact hW.low.grown h3 hW.big (own_ge hW.own)
    · exact Nat.le_trans hW.big h3.size
end Go.Proofs.YtapikimhmjnjeaaGreatDoor

