/- Plain laws of keys and of names of the other alphabet: no program in sight. -/
import Derived.Test.YtapikimhmjnjeaaGreatDoorChainLaw
import Derived.Test.YtapikimhmjnjeaaGreatDoorBaseE
/- Plain laws of keys and of names of the other alphabet: no program in sight. -/
set_option linter.unusedVariables false
set_option linter.unusedSimpArgs false
namespace Go.Proofs.YtapikimhmjnjeaaGreatDoor
open Go.RowKit

theorem snd_lat_fin : ∀ n : Fin 256, kindB (UInt8.ofNat n.val) = 1 → snd (UInt8.ofNat n.val) = [UInt8.ofNat n.val] := by decide +kernel
theorem snd_lat {b : UInt8} (h : kindB b = 1) : snd b = [b] := by
  have := snd_lat_fin ⟨b.toNat, b.toNat_lt⟩
  simp only [UInt8.ofNat_toNat] at this
  exact this h
/-- A Latin name is its own key. -/
theorem keyL_lat : ∀ (l : L), (∀ b ∈ l, kindB b = 1) → keyL l = l
  | [], _ => rfl
  | b :: l, h => by
    unfold keyL
    rw [List.flatMap_cons, snd_lat (h b (List.mem_cons_self ..))]
    have := keyL_lat l (fun c hc => h c (List.mem_cons_of_mem _ hc))
    unfold keyL at this
    rw [this]; rfl
theorem keyB_lat {s : ByteArray} (h : ∀ b ∈ s.data.toList, kindB b = 1) : keyB s = s := ba_ext (by unfold keyB; exact keyL_lat _ h)

end Go.Proofs.YtapikimhmjnjeaaGreatDoor

