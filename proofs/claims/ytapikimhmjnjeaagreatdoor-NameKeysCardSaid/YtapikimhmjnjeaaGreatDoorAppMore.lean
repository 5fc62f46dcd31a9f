/- append as a step of a drawn region, told besides: where the new row lies. -/
import Derived.Test.YtapikimhmjnjeaaGreatDoorAppN
/- append as a step of a drawn region, told besides: where the new row lies. -/
set_option linter.unusedVariables false
set_option linter.unusedSimpArgs false
namespace Go.Proofs.YtapikimhmjnjeaaGreatDoor
open Go.RowKit Go.Shelf

theorem AppSt.drew {B0 : Nat} {W0 W : World} {v : Value} {xs : List ByteArray} (h : AppSt B0 W0 W v xs) : AppSt B0 W0 W.drew v xs := ⟨h.own, h.low.drew, h.big⟩
theorem AppSt.lt {B0 : Nat} {W0 W : World} {v : Value} {xs : List ByteArray} (h : AppSt B0 W0 W v xs) {q : Nat} (hq : v.ownBlock = some q) : q < W.heap.size := by
  rcases h.own.2 with ⟨rfl, _⟩ | ⟨g, cap, cur, rfl, hg, hh, _⟩
  · cases hq
  · obtain rfl : g = q := by simpa [Value.ownBlock] using hq
    exact (Array.getElem?_eq_some_iff.1 hh).1
theorem step_app2 {ops : Array Oper} {o : Oper} {a : Act} {K : Act → World → Prop} {Q : Exit → Act → World → Prop} {E : Prop} (hgd : o.guard = none) (s x : Operand)
    (ho : o.op = .call { callee := .builtin .append, args := #[s, x], argTypes := #[22, 22] })
    (B0 : Nat) (W0 W : World) (v : Value) (xs : List ByteArray) (hs : a.eval s = v) (hW : AppSt B0 W0 W v xs)
    (A : Option Addr) (m c : Nat) (ys : List ByteArray) (hx : a.eval x = .slice A m c) (hr : ReadS W A m c ys) (hlen : xs.length + ys.length ≤ 1000000)
    (h : ∀ v1 W1, AppSt B0 W0 W1 v1 (xs ++ ys) → (∀ q, q < W.heap.size → v.ownBlock ≠ some q → W1.heap[q]? = W.heap[q]?) → (v1.ownBlock = v.ownBlock ∨ v1.ownBlock = some W.heap.size) → K (a.put o.dst v1) W1) :
    if Region.wanted o (yielded ops a.tmps) = true then Oper.wp Tryz.prog o a W K Q else E := by
  have hw : Region.wanted o (yielded ops a.tmps) = true := by simp [Region.wanted, hgd]
  rw [if_pos hw]
  have hinfo : (Tryz.prog.info? 9).map (fun i => (i.zero, i.size, i.bytes)) = some (some (.string ⟨#[]⟩), 1, 16) := by kernel_rfl
  obtain ⟨j0, hi, hz0, hz1, hz2⟩ : ∃ i0, Tryz.prog.info? 9 = some i0 ∧ i0.zero = some (.string ⟨#[]⟩) ∧ i0.size = 1 ∧ i0.bytes = 16 := by
    cases h : Tryz.prog.info? 9 with
    | none => rw [h] at hinfo; cases hinfo
    | some i0 => rw [h] at hinfo; simp at hinfo; exact ⟨i0, rfl, hinfo.1, hinfo.2.1, hinfo.2.2⟩
  rcases hr.2 with ⟨rfl, rfl, rfl⟩ | ⟨b, off, rfl, hcell⟩
  · have hrun := run_append_owned_none (P := Tryz.prog) (w := W) B0 22 o.type 9 j0 1 Tryz.underlying22 hi v _ _ hW.own
    obtain rfl : ys = [] := List.length_eq_zero_iff.1 hr.1
    unfold Oper.wp
    simp [execOp, ho, resolve, invoke, builtin, hs, hx, hrun, Result.andThen]
    exact h v W (by rw [List.append_nil]; exact hW) (fun _ _ _ => rfl) (.inl rfl)
  · obtain rfl := hr.1
    obtain ⟨v', w', h1, h2, h3, h4, h5⟩ := run_append_own_at (P := Tryz.prog) W B0 22 o.type 9 j0 (.string ⟨#[]⟩) 1 16 Tryz.underlying22 hi hz0 hz1 hz2 rfl (by decide) v _ _ hW.own
      ⟨b, off, none⟩ ys.length c (ys.map Value.string) (by simp) (fun j u hu => by
        rw [List.getElem?_map] at hu
        obtain ⟨y, hy, rfl⟩ := Option.map_eq_some_iff.1 hu
        have hj : j < ys.length := (List.getElem?_eq_some_iff.1 hy).1
        have hc := hcell j hj
        rw [List.getD_eq_getElem?_getD, hy] at hc
        have e : (⟨b, off, none⟩ : Addr).add j = ⟨b, off + j, none⟩ := by
          unfold Addr.add
          split
          · rename_i h; subst h; rfl
          · rfl
        rw [e]
        exact hc) (fun u hu => by
        obtain ⟨y, _, rfl⟩ := List.mem_map.1 hu
        rfl) (by unfold maxLen; omega) (by omega) hW.big
    unfold Oper.wp execOp
    simp only [ho, resolve, invoke, builtin, Sem.run_bind, Sem.run_pure, Result.andThen_ok, List.map_toArray, List.map_cons, List.map_nil, hs, hx, h1]
    refine h v' w' ⟨?_, ?_, ?_⟩ (fun q hq hne => h3.block q hq (fun e => hne e.symm)) h5
    · rw [List.length_append, List.map_append]; exact h2
    · exact hW.low.grown h3 hW.big (own_ge hW.own)
    · exact Nat.le_trans hW.big h3.size
end Go.Proofs.YtapikimhmjnjeaaGreatDoor

