/- Plain laws of the reference's replaced: no program in sight. -/
import Derived.Test.YtapikimhmjnjeaaGreatDoorRefRep
import Derived.Test.YtapikimhmjnjeaaGreatDoorChainLaw
set_option linter.unusedVariables false
set_option linter.unusedSimpArgs false
namespace Go.Proofs.YtapikimhmjnjeaaGreatDoor
open Go.RowKit

theorem mem_refAt {s a b x : ByteArray} {i : Nat} (hi : i + a.size ≤ s.size) :
    x ∈ refAt s a b i ↔ ∃ p q : L, p.length = i ∧ s.data.toList = p ++ a.data.toList ++ q ∧ x.data.toList = p ++ b.data.toList ++ q ∧ 1 ≤ x.size ∧ x.size ≤ 12 := by
  unfold refAt
  rw [ByteArray.toList_eq, ByteArray.toList_eq, ba_sub]
  have hlen := ba_len s
  constructor
  · intro h
    split at h
    · rename_i hp
      split at h
      · rename_i hl
        obtain rfl : x = replT s a b i := by simpa using h
        have e : s.data.toList = s.data.toList.take i ++ a.data.toList ++ s.data.toList.drop (i + a.size) := by
          have e1 : s.data.toList.take (i + a.size) = s.data.toList.take i ++ a.data.toList := by
            rw [← hp]
            have := (List.take_append_drop i (s.data.toList.take (i + a.size))).symm
            rw [List.take_take, Nat.min_eq_left (by omega)] at this
            exact this
          rw [← e1, List.take_append_drop]
        exact ⟨s.data.toList.take i, s.data.toList.drop (i + a.size), by rw [List.length_take, hlen]; omega, e, replT_list s a b i, hl⟩
      · simp at h
    · simp at h
  · rintro ⟨p, q, hpl, hs, hx, hl⟩
    have e1 : s.data.toList.drop i = a.data.toList ++ q := by rw [hs, List.append_assoc, ← hpl, List.drop_left]
    have e2 : s.data.toList.take i = p := by rw [hs, List.append_assoc, ← hpl, List.take_left]
    have e3 : s.data.toList.drop (i + a.size) = q := by rw [← List.drop_drop, e1, ← ba_len a, List.drop_left]
    have ex : x = replT s a b i := ba_ext (by rw [replT_list, e2, e3, hx])
    have e4 : (s.data.toList.take (i + a.size)).drop i = a.data.toList := by
      rw [List.drop_take, e1, show i + a.size - i = a.data.toList.length by rw [ba_len]; omega, List.take_left]
    rw [if_pos e4, ← ex, if_pos hl]
    simp
theorem mem_refN {s a b x : ByteArray} : ∀ (n i : Nat), x ∈ refN s a b n i ↔ ∃ j, i ≤ j ∧ j < i + n ∧ x ∈ refAt s a b j
  | 0, i => by
    constructor
    · intro h; simp [refN] at h
    · rintro ⟨j, h1, h2, _⟩; omega
  | n + 1, i => by
    rw [refN, List.mem_append, mem_refN n (i + 1)]
    constructor
    · rintro (h | ⟨j, h1, h2, h3⟩)
      · exact ⟨i, Nat.le_refl _, by omega, h⟩
      · exact ⟨j, by omega, by omega, h3⟩
    · rintro ⟨j, h1, h2, h3⟩
      by_cases e : j = i
      · subst e; exact .inl h3
      · exact .inr ⟨j, by omega, by omega, h3⟩
theorem mem_refL {s a b x : ByteArray} : x ∈ refL s a b ↔ ∃ p q : L, s.data.toList = p ++ a.data.toList ++ q ∧ x.data.toList = p ++ b.data.toList ++ q ∧ 1 ≤ x.size ∧ x.size ≤ 12 := by
  unfold refL
  rw [mem_refN]
  constructor
  · rintro ⟨j, _, h2, h3⟩
    obtain ⟨p, q, _, h4, h5, h6⟩ := (mem_refAt (by omega)).1 h3
    exact ⟨p, q, h4, h5, h6⟩
  · rintro ⟨p, q, h4, h5, h6⟩
    have hl := congrArg List.length h4
    rw [ba_len, List.length_append, List.length_append, ba_len] at hl
    exact ⟨p.length, by omega, by omega, (mem_refAt (by omega)).2 ⟨p, q, rfl, h4, h5, h6⟩⟩
theorem refN_len (s a b : ByteArray) : ∀ (n i : Nat), (refN s a b n i).length ≤ n
  | 0, _ => by simp [refN]
  | n + 1, i => by
    have h1 := refN_len s a b n (i + 1)
    have h2 : (refAt s a b i).length ≤ 1 := by unfold refAt; split <;> (try split) <;> simp
    rw [refN, List.length_append]
    omega
theorem refL_len (s a b : ByteArray) : (refL s a b).length ≤ s.size + 1 := by
  have := refN_len s a b (s.size + 1 - a.size) 0
  unfold refL
  omega
theorem letters_iff {x : ByteArray} {a b : Int} : lettersB x a b = true ↔ (a ≤ x.size ∧ (x.size : Int) ≤ b) ∧ latL x.data.toList = true := by
  unfold lettersB
  rw [Bool.and_eq_true, decide_eq_true_eq]
theorem latL_app (l m : L) : latL (l ++ m) = (latL l && latL m) := by unfold latL; rw [List.all_append]
/-- Of Latin letters it yields what the program's replaced yields. -/
theorem mem_refL_swap {s a b x : ByteArray} (hs : latL s.data.toList = true) (hb : latL b.data.toList = true) : x ∈ refL s a b ↔ Swap s a b x := by
  rw [mem_refL]
  constructor
  · rintro ⟨p, q, h1, h2, h3, h4⟩
    refine ⟨p, q, h1, h2, letters_iff.2 ⟨⟨by omega, by omega⟩, ?_⟩⟩
    rw [h1, latL_app, latL_app, Bool.and_eq_true, Bool.and_eq_true] at hs
    rw [h2, latL_app, latL_app, hs.1.1, hb, hs.2]
    rfl
  · rintro ⟨p, q, h1, h2, h3⟩
    have := (letters_iff.1 h3).1
    exact ⟨p, q, h1, h2, by omega, by omega⟩
end Go.Proofs.YtapikimhmjnjeaaGreatDoor
