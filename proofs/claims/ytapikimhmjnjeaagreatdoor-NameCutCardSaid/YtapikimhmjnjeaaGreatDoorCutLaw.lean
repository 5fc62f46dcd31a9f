/- Plain laws of abbreviations and of what can be mistaken: no program in sight. -/
import Derived.Test.YtapikimhmjnjeaaGreatDoorBaseE
import Derived.Test.YtapikimhmjnjeaaGreatDoorChainLaw
/- Plain laws of abbreviations and of what can be mistaken: no program in sight. -/
set_option linter.unusedVariables false
set_option linter.unusedSimpArgs false
namespace Go.Proofs.YtapikimhmjnjeaaGreatDoor
open Go.RowKit

/-- Some letters stand for a key: as many as it has are too many, the first one is its first one, the others are letters of it in the same order. -/
def Abbr (s k : ByteArray) : Prop := ∃ (c : UInt8) (t u : L), s.data.toList = c :: t ∧ k.data.toList = c :: u ∧ t.Sublist u ∧ t.length < u.length

theorem standsL_iff : ∀ (w r : L), r ≠ [] → (standsL r w = true ↔ r.Sublist w)
  | [], r, hr => by
    constructor
    · intro h; simp [standsL] at h
    · intro h; exact absurd (List.sublist_nil.1 h) hr
  | c :: w, a :: r, _ => by
    unfold standsL
    by_cases e : c = a
    · subst e
      have et : Lib.trimPrefix (c :: r) [c] = r := by unfold Lib.trimPrefix Lib.hasPrefix; simp [List.isPrefixOf]
      rw [et, List.cons_sublist_cons]
      by_cases h : r = []
      · subst h; simp
      · rw [if_neg h]; exact standsL_iff w r h
    · have et : Lib.trimPrefix (a :: r) [c] = a :: r := by unfold Lib.trimPrefix Lib.hasPrefix; simp [List.isPrefixOf, e]
      rw [et, if_neg (by simp), standsL_iff w (a :: r) (by simp), List.sublist_cons_iff]
      constructor
      · exact .inl
      · rintro (h | ⟨r', h, _⟩)
        · exact h
        · exact absurd (List.cons.inj h).1.symm e
  | _ :: _, [], hr => absurd rfl hr

theorem standsB_iff {s k : ByteArray} (hs : 0 < s.size) : standsB s k = true ↔ Abbr s k := by
  unfold standsB Abbr
  simp only [Bool.and_eq_true, decide_eq_true_eq, beq_iff_eq]
  rw [← ba_len] at hs
  rw [← ba_len, ← ba_len]
  generalize s.data.toList = s at hs ⊢
  generalize k.data.toList = k
  cases s with
  | nil => exact absurd hs (by decide)
  | cons c t =>
    rw [standsL_iff _ _ (by simp)]
    constructor
    · rintro ⟨⟨h1, h2⟩, h3⟩
      cases k with
      | nil => simp at h1
      | cons d u =>
        obtain rfl : c = d := by simpa using h2
        exact ⟨c, t, u, rfl, rfl, List.cons_sublist_cons.1 h3, by simpa using h1⟩
    · rintro ⟨c', t', u, h1, rfl, h3, h4⟩
      obtain ⟨rfl, rfl⟩ := List.cons.inj h1
      exact ⟨⟨by simpa using h4, rfl⟩, List.cons_sublist_cons.2 h3⟩

theorem Abbr.pos {s k : ByteArray} (h : Abbr s k) : 0 < s.size := by
  obtain ⟨c, t, u, h1, _⟩ := h
  rw [← ba_len, h1]; simp
theorem Abbr.lt {s k : ByteArray} (h : Abbr s k) : s.size < k.size := by
  obtain ⟨c, t, u, h1, h2, _, h4⟩ := h
  rw [← ba_len, ← ba_len, h1, h2]; simpa using h4

end Go.Proofs.YtapikimhmjnjeaaGreatDoor

