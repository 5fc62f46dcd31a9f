/- Plain laws of keys and of names of the other alphabet: no program in sight. -/
import Derived.Test.YtapikimhmjnjeaaGreatDoorChainLaw
import Derived.Test.YtapikimhmjnjeaaGreatDoorBaseE
/- Plain laws of keys and of names of the other alphabet: no program in sight. -/
set_option linter.unusedVariables false
set_option linter.unusedSimpArgs false
namespace Go.Proofs.YtapikimhmjnjeaaGreatDoor
open Go.RowKit

theorem snd_lat_fin : ∀ n : Fin 256, kindB (UInt8.ofNat n.val) = 1 → snd (UInt8.ofNat n.val) = [UInt8.ofNat n.val] := by decide +kernel
theorem snd_lat {b : UInt8} (h : kindB b = 1) : snd b = [b] := by
  have := snd_lat_fin ⟨b.toNat, b.toNat_lt⟩
  simp only [UInt8.ofNat_toNat] at this
  exact this h
/-- A Latin name is its own key. -/
theorem keyL_lat : ∀ (l : L), (∀ b ∈ l, kindB b = 1) → keyL l = l
  | [], _ => rfl
  | b :: l, h => by
    unfold keyL
    rw [List.flatMap_cons, snd_lat (h b (List.mem_cons_self ..))]
    have := keyL_lat l (fun c hc => h c (List.mem_cons_of_mem _ hc))
    unfold keyL at this
    rw [this]; rfl
theorem keyB_lat {s : ByteArray} (h : ∀ b ∈ s.data.toList, kindB b = 1) : keyB s = s := ba_ext (by unfold keyB; exact keyL_lat _ h)

/-- The letters of the other alphabet, in their order. -/
def caps : L := (List.range 26).map fun n => UInt8.ofNat (n + 65)
/-- The first name of the other alphabet that has a key, n being at least its length. -/
def foreignL : Nat → L → Option L
  | _, [] => some []
  | 0, _ :: _ => none
  | n + 1, k => caps.findSome? fun c => if kindB c = 2 ∧ (snd c).isPrefixOf k = true then (foreignL n (k.drop (snd c).length)).map (c :: ·) else none

theorem foreign_key : ∀ (n : Nat) (k o : L), foreignL n k = some o → keyL o = k ∧ ∀ b ∈ o, kindB b = 2
  | n, [], o, h => by
    have : foreignL n [] = some [] := by cases n <;> rfl
    rw [this] at h
    obtain rfl : [] = o := by simpa using h
    exact ⟨rfl, by simp⟩
  | 0, _ :: _, _, h => by simp [foreignL] at h
  | n + 1, a :: k, o, h => by
    unfold foreignL at h
    obtain ⟨c, _, hc⟩ := List.exists_of_findSome?_eq_some h
    split at hc
    · rename_i hk
      cases hf : foreignL n ((a :: k).drop (snd c).length) with
      | none => rw [hf] at hc; cases hc
      | some r =>
        rw [hf] at hc
        obtain rfl : c :: r = o := by simpa using hc
        obtain ⟨h1, h2⟩ := foreign_key n _ r hf
        refine ⟨?_, fun b hb => ?_⟩
        · unfold keyL at h1 ⊢
          rw [List.flatMap_cons, h1]
          obtain ⟨t, ht⟩ := List.isPrefixOf_iff_prefix.1 hk.2
          rw [← ht, List.drop_left]
        · rcases List.mem_cons.1 hb with rfl | hb
          · exact hk.1
          · exact h2 b hb
    · cases hc

end Go.Proofs.YtapikimhmjnjeaaGreatDoor

