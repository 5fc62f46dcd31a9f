/- Plain laws of keys and of names of the other alphabet: no program in sight. -/
import Derived.Test.YtapikimhmjnjeaaGreatDoorChainLaw
import Derived.Test.YtapikimhmjnjeaaGreatDoorBaseE
/- Plain laws of keys and of names of the other alphabet: no program in sight. -/
set_option linter.unusedVariables false
set_option linter.unusedSimpArgs false
namespace Go.Proofs.YtapikimhmjnjeaaGreatDoor
open Go.RowKit

theorem snd_lat_fin : ∀ n : Fin 256, kindB (UInt8.ofNat n.val) = 1 → snd (UInt8.ofNat n.val) = [UInt8.ofNat n.val] := by decide +kernel
theorem snd_lat {b : UInt8} (h : kindB b = 1) : snd b = [b] := by
  have := snd_lat_fin ⟨b.toNat, b.toNat_lt⟩
  simp only [UInt8.ofNat_toNat] at this
  exact this h
/-- A Latin name is its own key. -/
theorem keyL_lat : ∀ (l : L), (∀ b ∈ l, kindB b = 1) → keyL l = l
  | [], _ => rfl
  | b :: l, h => by
    unfold keyL
    rw [List.flatMap_cons, snd_lat (h b (List.mem_cons_self ..))]
    have := keyL_lat l (fun c hc => h c (List.mem_cons_of_mem _ hc))
    unfold keyL at this
    rw [this]; rfl
theorem keyB_lat {s : ByteArray} (h : ∀ b ∈ s.data.toList, kindB b = 1) : keyB s = s := ba_ext (by unfold keyB; exact keyL_lat _ h)

theorem snd_head_fin : ∀ n : Fin 256, kindB (UInt8.ofNat n.val) = 2 → (snd (UInt8.ofNat n.val)).head? ≠ some 104 ∧ snd (UInt8.ofNat n.val) ≠ [] := by decide +kernel
theorem snd_head {b : UInt8} (h : kindB b = 2) : (snd b).head? ≠ some 104 ∧ snd b ≠ [] := by
  have := snd_head_fin ⟨b.toNat, b.toNat_lt⟩
  simp only [UInt8.ofNat_toNat] at this
  exact this h
/-- The key of letters of the other alphabet does not begin with an h. -/
theorem keyL_head : ∀ (l : L), (∀ b ∈ l, kindB b = 2) → (keyL l).head? ≠ some 104
  | [], _ => by simp [keyL]
  | b :: l, h => by
    obtain ⟨h1, h2⟩ := snd_head (h b (List.mem_cons_self ..))
    unfold keyL
    rw [List.flatMap_cons, List.head?_append]
    cases hs : (snd b).head? with
    | none => exact absurd (List.head?_eq_none_iff.1 hs) h2
    | some x => rw [hs] at h1; exact h1

/-- Of two different letters of the other alphabet, what the one stands for is not the beginning of what the other stands for, but for an s ahead of an h. -/
theorem snd_pre_fin : ∀ (n : Fin 26) (m : Fin 26), kindB (UInt8.ofNat (n.val + 65)) = 2 → kindB (UInt8.ofNat (m.val + 65)) = 2 → n ≠ m → (snd (UInt8.ofNat (n.val + 65))).isPrefixOf (snd (UInt8.ofNat (m.val + 65))) = true →
    ∃ r, snd (UInt8.ofNat (m.val + 65)) = snd (UInt8.ofNat (n.val + 65)) ++ 104 :: r := by
  intro n m h1 h2 h3 h4
  have : (snd (UInt8.ofNat (m.val + 65))) = (snd (UInt8.ofNat (n.val + 65))) ++ [104] := by
    revert n m
    decide +kernel
  exact ⟨[], this⟩
theorem kind2_range {b : UInt8} (h : kindB b = 2) : ∃ n : Fin 26, b = UInt8.ofNat (n.val + 65) := by
  have : 65 ≤ b.toNat ∧ b.toNat ≤ 90 := by
    unfold kindB kindZ at h
    split at h
    · omega
    · split at h
      · omega
      · omega
  refine ⟨⟨b.toNat - 65, by omega⟩, ?_⟩
  rw [show b.toNat - 65 + 65 = b.toNat by omega, UInt8.ofNat_toNat]
theorem snd_pre {b c : UInt8} (hb : kindB b = 2) (hc : kindB c = 2) (hne : b ≠ c) (hp : snd b <+: snd c) : ∃ r, snd c = snd b ++ 104 :: r := by
  obtain ⟨n, rfl⟩ := kind2_range hb
  obtain ⟨m, rfl⟩ := kind2_range hc
  exact snd_pre_fin n m hb hc (fun e => hne (by rw [e])) (List.isPrefixOf_iff_prefix.2 hp)

/-- Two names of the other alphabet with the same key are the same. -/
theorem keyL_inj : ∀ (l m : L), (∀ b ∈ l, kindB b = 2) → (∀ b ∈ m, kindB b = 2) → keyL l = keyL m → l = m
  | [], [], _, _, _ => rfl
  | [], c :: m, _, hm, h => by
    have := (snd_head (hm c (List.mem_cons_self ..))).2
    unfold keyL at h
    rw [List.flatMap_cons, List.flatMap_nil] at h
    exact absurd (List.append_eq_nil_iff.1 h.symm).1 this
  | b :: l, [], hl, _, h => by
    have := (snd_head (hl b (List.mem_cons_self ..))).2
    unfold keyL at h
    rw [List.flatMap_cons, List.flatMap_nil] at h
    exact absurd (List.append_eq_nil_iff.1 h).1 this
  | b :: l, c :: m, hl, hm, h => by
    have hb := hl b (List.mem_cons_self ..)
    have hc := hm c (List.mem_cons_self ..)
    have hl' : ∀ x ∈ l, kindB x = 2 := fun x hx => hl x (List.mem_cons_of_mem _ hx)
    have hm' : ∀ x ∈ m, kindB x = 2 := fun x hx => hm x (List.mem_cons_of_mem _ hx)
    have hk : snd b ++ keyL l = snd c ++ keyL m := by
      unfold keyL at h ⊢
      rw [List.flatMap_cons, List.flatMap_cons] at h
      exact h
    by_cases e : b = c
    · subst e
      rw [keyL_inj l m hl' hm' (List.append_cancel_left hk)]
    · exfalso
      rcases List.prefix_or_prefix_of_prefix (List.prefix_append (snd b) (keyL l)) (hk ▸ List.prefix_append (snd c) (keyL m)) with hp | hp
      · obtain ⟨r, hr⟩ := snd_pre hb hc e hp
        rw [hr, List.append_assoc] at hk
        have := List.append_cancel_left hk
        exact keyL_head l hl' (by rw [this]; rfl)
      · obtain ⟨r, hr⟩ := snd_pre hc hb (Ne.symm e) hp
        rw [hr, List.append_assoc] at hk
        have := List.append_cancel_left hk
        exact keyL_head m hm' (by rw [← this]; rfl)
theorem keyB_inj {s t : ByteArray} (hs : ∀ b ∈ s.data.toList, kindB b = 2) (ht : ∀ b ∈ t.data.toList, kindB b = 2) (h : keyB s = keyB t) : s = t := by
  refine ba_ext (keyL_inj _ _ hs ht ?_)
  have := congrArg (fun x : ByteArray => x.data.toList) h
  simpa [keyB] using this

end Go.Proofs.YtapikimhmjnjeaaGreatDoor

