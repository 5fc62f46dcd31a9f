/- Plain laws of the order of names: no program in sight. -/
import Derived.Test.YtapikimhmjnjeaaGreatDoorNameLaw
import Derived.Test.YtapikimhmjnjeaaGreatDoorBaseA
/- Plain laws of the order of names: no program in sight. -/
set_option linter.unusedVariables false
set_option linter.unusedSimpArgs false
namespace Go.Proofs.YtapikimhmjnjeaaGreatDoor
open Go.RowKit

theorem script_val {s : ByteArray} (h : Nm s) : (scriptZ s = 1 ∧ ∀ b ∈ s.data.toList, kindB b = 1) ∨ (scriptZ s = 2 ∧ ∀ b ∈ s.data.toList, kindB b = 2) := by
  have hp := h.pos
  rw [← ba_len] at hp
  unfold scriptZ
  rcases h.one with h1 | h1
  · left
    refine ⟨?_, h1⟩
    cases hl : s.data.toList with
    | nil => rw [hl] at hp; simp at hp
    | cons b l => exact h1 b (by rw [hl]; exact List.mem_cons_self ..)
  · right
    refine ⟨?_, h1⟩
    cases hl : s.data.toList with
    | nil => rw [hl] at hp; simp at hp
    | cons b l => exact h1 b (by rw [hl]; exact List.mem_cons_self ..)

theorem compareInt_lt {x y : Int} : Lib.compareInt x y < 0 ↔ x < y := by unfold Lib.compareInt; split <;> (try split) <;> omega
theorem compareInt_zero {x y : Int} : Lib.compareInt x y = 0 ↔ x = y := by unfold Lib.compareInt; split <;> (try split) <;> omega
theorem compareInt_range (x y : Int) : Lib.compareInt x y = -1 ∨ Lib.compareInt x y = 0 ∨ Lib.compareInt x y = 1 := by unfold Lib.compareInt; split <;> (try split) <;> simp

theorem cmpN_lt {a b : ByteArray} : cmpN a b < 0 ↔ cmpS (keyB a) (keyB b) < 0 ∨ (keyB a = keyB b ∧ scriptZ a < scriptZ b) := by
  unfold cmpN orZ
  split
  · rename_i h
    rw [compareInt_lt, h]
    have := cmpS_zero.1 h
    constructor
    · exact fun h2 => .inr ⟨this, h2⟩
    · rintro (h2 | h2)
      · exact absurd h2 (by decide)
      · exact h2.2
  · rename_i h
    constructor
    · exact .inl
    · rintro (h2 | h2)
      · exact h2
      · exact absurd (cmpS_zero.2 h2.1) h
theorem cmpN_zero {a b : ByteArray} (ha : Nm a) (hb : Nm b) : cmpN a b = 0 ↔ a = b := by
  unfold cmpN orZ
  split
  · rename_i h
    rw [compareInt_zero]
    have hk := cmpS_zero.1 h
    constructor
    · intro hs
      rcases script_val ha with ⟨e1, h1⟩ | ⟨e1, h1⟩ <;> rcases script_val hb with ⟨e2, h2⟩ | ⟨e2, h2⟩
      · rw [keyB_lat h1, keyB_lat h2] at hk; exact hk
      · omega
      · omega
      · exact keyB_inj h1 h2 hk
    · rintro rfl; rfl
  · rename_i h
    constructor
    · exact fun h2 => absurd h2 h
    · rintro rfl; exact absurd (cmpS_zero.2 rfl) h
theorem cmpN_range (a b : ByteArray) : cmpN a b = -1 ∨ cmpN a b = 0 ∨ cmpN a b = 1 := by
  unfold cmpN orZ
  split
  · exact compareInt_range _ _
  · exact cmpS_range _ _
theorem cmpN_swap (a b : ByteArray) : cmpN a b < 0 ↔ 0 < cmpN b a := by
  rw [cmpN_lt]
  unfold cmpN orZ
  split
  · rename_i h
    have hk := cmpS_zero.1 h
    have h2 := compareInt_range (scriptZ b) (scriptZ a)
    have h3 := compareInt_lt (x := scriptZ b) (y := scriptZ a)
    have h4 := compareInt_zero (x := scriptZ b) (y := scriptZ a)
    constructor
    · rintro (h5 | h5)
      · rw [hk] at h5; exact absurd h5 (cmpS_irrefl _)
      · omega
    · intro h5
      exact .inr ⟨hk.symm, by omega⟩
  · rename_i h
    rw [cmpS_swap]
    constructor
    · rintro (h5 | h5)
      · exact h5
      · exact absurd (cmpS_zero.2 h5.1.symm) h
    · exact .inl
theorem cmpN_neg (a b : ByteArray) : cmpN a b = - cmpN b a := by
  have h1 := cmpN_range a b
  have h2 := cmpN_range b a
  have h3 := cmpN_swap a b
  have h4 := cmpN_swap b a
  omega
theorem cmpN_trans {a b c : ByteArray} (h1 : cmpN a b < 0) (h2 : cmpN b c < 0) : cmpN a c < 0 := by
  rw [cmpN_lt] at h1 h2 ⊢
  rcases h1 with h1 | ⟨e1, h1⟩ <;> rcases h2 with h2 | ⟨e2, h2⟩
  · exact .inl (cmpS_trans h1 h2)
  · exact .inl (e2 ▸ h1)
  · exact .inl (e1 ▸ h2)
  · exact .inr ⟨e1.trans e2, by omega⟩
theorem cmpN_irrefl (a : ByteArray) : ¬ cmpN a a < 0 := by
  have := cmpN_neg a a
  omega
end Go.Proofs.YtapikimhmjnjeaaGreatDoor

