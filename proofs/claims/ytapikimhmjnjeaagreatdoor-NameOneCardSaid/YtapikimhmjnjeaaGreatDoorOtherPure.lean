/- What the printed Other and Latin say of names: plain laws. -/
import Derived.Test.YtapikimhmjnjeaaGreatDoorUsesMore
import Derived.Test.YtapikimhmjnjeaaGreatDoorEv
import Derived.Test.YtapikimhmjnjeaaGreatDoorPrExtOther
import Derived.Test.YtapikimhmjnjeaaGreatDoorNameOrder
import Derived.Test.YtapikimhmjnjeaaGreatDoorPr9
import Derived.Test.YtapikimhmjnjeaaGreatDoorPr9
set_option linter.unusedVariables false
set_option linter.unusedSimpArgs false
namespace Go.Proofs.YtapikimhmjnjeaaGreatDoor.Pure
open Go.RowKit Go.Proofs.YtapikimhmjnjeaaGreatDoor Go.Proofs.YtapikimhmjnjeaaGreatDoor.Pr Go.Proofs.YtapikimhmjnjeaaGreatDoorW.PrintWords Go.Proofs.YtapikimhmjnjeaaGreatDoorW.PrintLast

/-- The name of the other alphabet that has a name's key. -/
def otherN (s : ByteArray) : Option ByteArray := (foreignL (keyB s).size (keyB s).data.toList).map fun l => ⟨l.toArray⟩
theorem Other_f {s : ByteArray} (h : Nm s) : name_Other.f s = some (match otherN s with | some o => (o, 0) | none => (⟨#[]⟩, 11)) := by
  unfold name_Other.f
  rw [bind_eq (check_f h), if_pos rfl, bind_eq (of_f h)]
  have hk : name_key_foreign.f (keyB s) = some (forB (keyB s)) := by
    unfold name_key_foreign.f
    rw [if_pos (Nat.le_trans (key_size h) (by decide))]
  rw [bind_eq hk]
  unfold forB otherN
  cases foreignL (keyB s).size (keyB s).data.toList <;> rfl
theorem keyL_of (s : ByteArray) : (keyB s).data.toList = keyL s.data.toList := by simp [keyB]
/-- What Other finds has the name's key, and is a name of the other alphabet. -/
theorem other_some {s o : ByteArray} (h : Nm s) (ho : otherN s = some o) : Nm o ∧ keyB o = keyB s ∧ ∀ b ∈ o.data.toList, kindB b = 2 := by
  unfold otherN at ho
  cases hf : foreignL (keyB s).size (keyB s).data.toList with
  | none => rw [hf] at ho; cases ho
  | some l =>
    rw [hf] at ho
    obtain rfl : (⟨l.toArray⟩ : ByteArray) = o := by simpa using ho
    obtain ⟨h1, h2⟩ := foreign_key _ _ _ hf
    have hll : (⟨l.toArray⟩ : ByteArray).data.toList = l := by simp
    have hkey : keyB ⟨l.toArray⟩ = keyB s := ba_ext (by rw [keyL_of, hll, h1])
    have hpos : 0 < l.length := by
      cases l with
      | nil =>
        have := key_pos h
        rw [← ba_len, ← h1] at this
        simp [keyL] at this
      | cons a l => simp
    have hle : l.length ≤ 6 := by
      rcases h.one with h3 | h3
      · have e1 := keyB_lat h3
        have e2 := keyL_ge l
        rw [h1, e1, ba_len] at e2
        exact Nat.le_trans e2 h.le
      · have e1 : keyL l = keyL s.data.toList := by rw [h1, keyL_of]
        have := keyL_inj l s.data.toList h2 h3 e1
        rw [this, ba_len]
        exact h.le
    refine ⟨⟨by rw [← ba_len, hll]; exact hpos, by rw [← ba_len, hll]; exact hle, fun b hb => by rw [hll] at hb; rw [h2 b hb]; decide, .inr (fun b hb => by rw [hll] at hb; exact h2 b hb)⟩, hkey, fun b hb => by rw [hll] at hb; exact h2 b hb⟩
theorem other_self {s : ByteArray} (h2 : ∀ b ∈ s.data.toList, kindB b = 2) : otherN s = some s := by
  unfold otherN
  rw [keyL_of, foreign_of h2 (by rw [← keyL_of, ba_len]; exact Nat.le_refl _)]
  exact congrArg some (bself s)
theorem script_one {s : ByteArray} (h : Nm s) : scriptZ s = 1 ↔ ∀ b ∈ s.data.toList, kindB b = 1 := by
  rcases script_val h with ⟨h1, h2⟩ | ⟨h1, h2⟩
  · exact ⟨fun _ => h2, fun _ => h1⟩
  · rw [h1]
    refine ⟨fun h => absurd h (by decide), fun h3 => ?_⟩
    have hp := h.pos
    rw [← ba_len] at hp
    cases hl : s.data.toList with
    | nil => rw [hl] at hp; simp at hp
    | cons b l =>
      have a1 := h2 b (by rw [hl]; exact List.mem_cons_self ..)
      have a2 := h3 b (by rw [hl]; exact List.mem_cons_self ..)
      omega
theorem Latin_f {s : ByteArray} (h : Nm s) : wayzgooseref03_Latin.f s = some (decide (scriptZ s = 1)) := by
  have hp := h.pos
  obtain ⟨b, l, hd, hb⟩ := first_byte s hp
  have hbt : bt s 0 = (b.toNat : Int) := by
    unfold bt
    rw [dif_pos (show (0 : Int).toNat < s.size from hp)]
    exact congrArg (fun x : UInt8 => (x.toNat : Int)) hb
  have hsc : scriptZ s = kindZ (b.toNat : Int) := by unfold scriptZ; rw [hd]; rfl
  unfold wayzgooseref03_Latin.f wayzgooseref03_latin.f
  rw [if_pos (by omega), hbt, hsc]
  unfold kindZ
  by_cases h1 : (b.toNat : Int) ≥ 97
  · rw [if_pos h1]
    by_cases h2 : (b.toNat : Int) ≤ 122
    · rw [if_pos ⟨h1, h2⟩]
      simp [h2]
    · rw [if_neg (by omega), if_neg (by omega)]
      simp [h2]
  · rw [if_neg h1, if_neg (by omega)]
    split <;> rfl
end Go.Proofs.YtapikimhmjnjeaaGreatDoor.Pure
