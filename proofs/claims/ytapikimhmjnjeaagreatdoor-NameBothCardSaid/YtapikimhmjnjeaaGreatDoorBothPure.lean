/- NameBoth holds of the printed functions: a plain law. -/
import Derived.Test.YtapikimhmjnjeaaGreatDoorPrLNameBoth
import Derived.Test.YtapikimhmjnjeaaGreatDoorUsesMore
set_option linter.unusedVariables false
set_option linter.unusedSimpArgs false
namespace Go.Proofs.YtapikimhmjnjeaaGreatDoor.Pure
open Go.RowKit Go.Proofs.YtapikimhmjnjeaaGreatDoor Go.Proofs.YtapikimhmjnjeaaGreatDoor.Pr Go.Proofs.YtapikimhmjnjeaaGreatDoorW.PrintWords Go.Proofs.YtapikimhmjnjeaaGreatDoorW.PrintLast

section
variable {r : List S83} (hr4 : r.length ≤ 4) (hr : ∀ x ∈ r, RuleOk x) {l : List ByteArray} (hl6 : l.length ≤ 6) (hl : ∀ s ∈ l, Nm s)
include hr4 hr hl6 hl

theorem both_l2 (i m K : Nat) (hi : i < l.length) (hm : m < l.length) (hK : 7 ≤ K) : ∀ (n j k : Nat), j + n = l.length → K + n < k →
    (∀ k' : Nat, K ≤ k' → wayzgooselaw03_NameBoth.l1 k' r l (i : Int) ((m : Int) + 1) = some true) →
    wayzgooselaw03_NameBoth.l2 k r l (i : Int) (m : Int) (uval (usesN r (l.getD i ByteArray.empty) (l.getD m ByteArray.empty))) (j : Int) = some true := by
  intro n
  induction n with
  | zero =>
    intro j k hj hk h
    obtain ⟨k, rfl⟩ : ∃ k', k = k' + 1 := ⟨k - 1, by omega⟩
    rw [wayzgooselaw03_NameBoth.l2, if_neg (by omega), IntWalk.wrap64_in _ (by omega)]
    exact h k (by omega)
  | succ n ih =>
    intro j k hj hk h
    obtain ⟨k, rfl⟩ : ∃ k', k = k' + 1 := ⟨k - 1, by omega⟩
    obtain ⟨ei, ni⟩ := at_name hl hi
    obtain ⟨em, nm⟩ := at_name hl hm
    obtain ⟨ej, nj⟩ := at_name hl (i := j) (by omega)
    have next := ih (j + 1) k (by omega) (by omega) h
    have ee : wrap64 ((j : Int) + 1) = ((j + 1 : Nat) : Int) := by rw [IntWalk.wrap64_in _ (by omega)]; omega
    rw [wayzgooselaw03_NameBoth.l2, if_pos (by omega), if_pos (by omega), if_pos (by omega), if_pos (by omega), ei, em, ej, bind_eq (uses_v hr4 hr nm nj k (by omega)), if_pos (by omega), if_pos (by omega), bind_eq (uses_v hr4 hr ni nj k (by omega)), ee]
    dsimp only
    rw [if_pos rfl, if_pos rfl]
    have r1 := uval_range (l := r) (a := l.getD i ByteArray.empty) (b := l.getD m ByteArray.empty)
    have r2 := uval_range (l := r) (a := l.getD m ByteArray.empty) (b := l.getD j ByteArray.empty)
    rw [IntWalk.wrap64_in _ (by omega)]
    split
    · rename_i hle
      rw [if_neg]
      · exact next
      · cases h1 : usesN r (l.getD i ByteArray.empty) (l.getD m ByteArray.empty) with
        | none => rw [h1] at hle; exact absurd hle (by show ¬ (9 : Int) + _ ≤ 2; omega)
        | some a =>
          cases h2 : usesN r (l.getD m ByteArray.empty) (l.getD j ByteArray.empty) with
          | none => rw [h2] at hle; exact absurd hle (by show ¬ _ + (9 : Int) ≤ 2; omega)
          | some b =>
            rw [h1, h2] at hle
            have hle : (a : Int) + (b : Int) ≤ 2 := hle
            obtain ⟨q, hq, h3⟩ := usesN_trans h1 h2 (by omega)
            rw [h3]
            show ¬ (q : Int) > (a : Int) + (b : Int)
            omega
    · exact next

theorem both_l1 (i K : Nat) (hi : i < l.length) (hK : 7 ≤ K) : ∀ (n m k : Nat), m + n = l.length → K + 9 * n < k →
    (∀ k' : Nat, K ≤ k' → wayzgooselaw03_NameBoth.l0 k' r l ((i : Int) + 1) = some true) → wayzgooselaw03_NameBoth.l1 k r l (i : Int) (m : Int) = some true := by
  intro n
  induction n with
  | zero =>
    intro m k hm hk h
    obtain ⟨k, rfl⟩ : ∃ k', k = k' + 1 := ⟨k - 1, by omega⟩
    rw [wayzgooselaw03_NameBoth.l1, if_neg (by omega), IntWalk.wrap64_in _ (by omega)]
    exact h k (by omega)
  | succ n ih =>
    intro m k hm hk h
    obtain ⟨k, rfl⟩ : ∃ k', k = k' + 2 := ⟨k - 2, by omega⟩
    obtain ⟨ei, ni⟩ := at_name hl hi
    obtain ⟨em, nm⟩ := at_name hl (i := m) (by omega)
    rw [wayzgooselaw03_NameBoth.l1, if_pos (by omega), if_pos (by omega), if_pos (by omega), if_pos (by omega), ei, em, bind_eq (uses_v hr4 hr ni nm (k + 1) (by omega)), bind_eq (uses_v hr4 hr nm ni (k + 1) (by omega)), bind_eq (Key_f ni), bind_eq (Key_f nm)]
    dsimp only
    rw [if_pos rfl, if_pos rfl, if_pos (by rw [usesN_symm r ni nm]), if_pos rfl, if_pos rfl, tl_beq]
    have hb : ((uval (usesN r (l.getD i ByteArray.empty) (l.getD m ByteArray.empty)) == 0) != decide (keyB (l.getD i ByteArray.empty) = keyB (l.getD m ByteArray.empty))) = false := by
      have := uval_zero (l := r) (a := l.getD i ByteArray.empty) (b := l.getD m ByteArray.empty)
      by_cases e : keyB (l.getD i ByteArray.empty) = keyB (l.getD m ByteArray.empty)
      · rw [decide_eq_true e, this.2 e]; rfl
      · rw [decide_eq_false e, beq_eq_false_iff_ne.2 (fun h => e (this.1 h))]; rfl
    rw [hb, wayzgooselaw03_NameBoth.j2, if_neg (by decide)]
    refine both_l2 hr4 hr hl6 hl i m (K + 9 * n + 1) hi (by omega) (by omega) l.length 0 k (by omega) (by omega) (fun k' hk' => ?_)
    have := ih (m + 1) k' (by omega) (by omega) h
    rw [show ((m + 1 : Nat) : Int) = (m : Int) + 1 by omega] at this
    exact this

theorem both_l0 : ∀ (n i k : Nat), i + n = l.length → 60 * n + 10 < k → wayzgooselaw03_NameBoth.l0 k r l (i : Int) = some true := by
  intro n
  induction n with
  | zero =>
    intro i k hi hk
    obtain ⟨k, rfl⟩ : ∃ k', k = k' + 1 := ⟨k - 1, by omega⟩
    rw [wayzgooselaw03_NameBoth.l0, if_neg (by omega), bind_eq (spelling_ok)]
  | succ n ih =>
    intro i k hi hk
    obtain ⟨k, rfl⟩ : ∃ k', k = k' + 1 := ⟨k - 1, by omega⟩
    rw [wayzgooselaw03_NameBoth.l0, if_pos (by omega)]
    refine both_l1 hr4 hr hl6 hl i (60 * n + 11) (by omega) (by omega) l.length 0 k (by omega) (by omega) (fun k' hk' => ?_)
    have := ih (i + 1) k' (by omega) (by omega)
    rw [show ((i + 1 : Nat) : Int) = (i : Int) + 1 by omega] at this
    exact this
end

theorem snoc_nm {l : List ByteArray} {a : ByteArray} (hl : ∀ s ∈ l, Nm s) (ha : Nm a) : ∀ s ∈ l ++ [a], Nm s := fun s hs => by
  rcases List.mem_append.1 hs with hs | hs
  · exact hl s hs
  · obtain rfl := List.mem_singleton.1 hs; exact ha

theorem NameBoth : wayzgooselaw03_NameBoth.Pure := by
  intro l0 hl _ _
  refine ⟨400, ?_⟩
  unfold wayzgooselaw03_NameBoth.f wayzgoosekit_NewDice.f
  obtain ⟨r, at1, s1, e1, g1, hr, hr3⟩ := RulesOf_ok (l := l0) hl 400 0 11400714819323198485 3 (by omega) (by omega) (by omega) (by omega)
  obtain ⟨l, at2, s2, e2, g2, hn, hn5⟩ := NamesOf_ok (l := l0) hl 400 at1 s1 3 3 (by omega) g1 (by omega) (by omega) (by omega) (by omega)
  obtain ⟨a, at3, s3, e3, g3, ha, _⟩ := NameOf_ok (l := l0) hl 400 at2 s2 3 (by omega) g2 (by omega) (by omega)
  rw [bind_eq rfl]
  dsimp only
  rw [bind_eq e1]
  dsimp only
  rw [bind_eq e2]
  dsimp only
  rw [bind_eq e3]
  dsimp only
  rw [if_pos (by omega)]
  exact both_l0 (by omega) hr (by simp; omega) (snoc_nm hn ha) (l ++ [a]).length 0 400 (by omega) (by simp; omega)
end Go.Proofs.YtapikimhmjnjeaaGreatDoor.Pure
