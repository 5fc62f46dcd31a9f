/- What the reference's Check and Key say, as the print has them: plain laws. -/
import Derived.Test.YtapikimhmjnjeaaGreatDoorEv
import Derived.Test.YtapikimhmjnjeaaGreatDoorKit
import Derived.Test.YtapikimhmjnjeaaGreatDoorPr4
import Derived.Test.YtapikimhmjnjeaaGreatDoorPr0
import Derived.Test.YtapikimhmjnjeaaGreatDoorPrExt
import Derived.Test.YtapikimhmjnjeaaGreatDoorBaseB
import Derived.Lib.QuietBelow
import Derived.Deep.QuietTactic
import Derived.BigQuiet
import Derived.Deep.LoopGhost
import Derived.Test.YtapikimhmjnjeaaGreatDoorPr5
import Derived.Test.YtapikimhmjnjeaaGreatDoorChainLaw
import Derived.Test.YtapikimhmjnjeaaGreatDoorNameLaw
import Derived.Test.YtapikimhmjnjeaaGreatDoorPr14
/- What the reference's Check and Key say, as the print has them: plain laws. -/
set_option linter.unusedVariables false
set_option linter.unusedSimpArgs false
namespace Go.Proofs.YtapikimhmjnjeaaGreatDoor.Pure
open Go.RowKit Go.Proofs.YtapikimhmjnjeaaGreatDoor Go.Proofs.YtapikimhmjnjeaaGreatDoor.Pr Go.Proofs.YtapikimhmjnjeaaGreatDoorW.PrintWords Go.Proofs.YtapikimhmjnjeaaGreatDoorW.PrintLast

/-- What the reference says a letter stands for. -/
def refS (b : UInt8) : ByteArray := if kindB b = 2 then ⟨(snd b).toArray⟩ else ⟨#[]⟩
theorem stands_fin : ∀ n : Fin 256, (wayzgooseref03_stands.f 1 ((n.val : Nat) : Int)).map (·.data.toList) = some (refS (UInt8.ofNat n.val)).data.toList ∧ ((refS (UInt8.ofNat n.val)).data.toList.isEmpty = !decide (kindB (UInt8.ofNat n.val) = 2)) := by decide +kernel
theorem stands_f (b : UInt8) (k : Nat) (hk : 1 ≤ k) : wayzgooseref03_stands.f k (b.toNat : Int) = some (refS b) := by
  have h := (stands_fin ⟨b.toNat, b.toNat_lt⟩).1
  simp only [UInt8.ofNat_toNat] at h
  have h1 : wayzgooseref03_stands.f 1 (b.toNat : Int) = some (refS b) := by
    cases hs : wayzgooseref03_stands.f 1 (b.toNat : Int) with
    | none => rw [hs] at h; cases h
    | some x =>
      rw [hs] at h
      exact congrArg some (ba_ext (by simpa using h))
  exact at_rounds (fun k => wayzgooseref03_stands.mono _ k) hk h1
theorem stands_nil (b : UInt8) : ((refS b).toList = ([] : List UInt8)) ↔ kindB b ≠ 2 := by
  have h := (stands_fin ⟨b.toNat, b.toNat_lt⟩).2
  simp only [UInt8.ofNat_toNat] at h
  rw [ByteArray.toList_eq]
  by_cases hb : kindB b = 2
  · rw [decide_eq_true hb] at h
    constructor
    · intro e; rw [e] at h; cases h
    · intro e; exact absurd hb e
  · rw [decide_eq_false hb] at h
    exact ⟨fun _ => hb, fun _ => List.isEmpty_iff.1 h⟩
theorem lat_f (b : UInt8) : wayzgooseref03_latin.f (b.toNat : Int) = some (decide (kindB b = 1)) := by
  unfold wayzgooseref03_latin.f kindB kindZ
  by_cases h1 : (b.toNat : Int) ≥ 97
  · rw [if_pos h1]
    by_cases h2 : (b.toNat : Int) ≤ 122
    · rw [if_pos ⟨h1, h2⟩]; simp [h2]
    · rw [if_neg (by omega), if_neg (by omega)]; simp [h2]
  · rw [if_neg h1, if_neg (by omega)]
    split <;> rfl
theorem bt_at (s : ByteArray) (i : Nat) (h : i < s.size) : ∃ b, s.data.toList[i]'(by rw [ba_len]; exact h) = b ∧ bt s (i : Int) = (b.toNat : Int) := by
  refine ⟨_, rfl, ?_⟩
  unfold bt
  rw [Int.toNat_natCast, dif_pos h]
  rfl

/-- How many of some letters are of a kind. -/
def cntK (t : Int) (l : L) : Nat := (l.filter fun b => decide (kindB b = t)).length
theorem cntK_le (t : Int) (l : L) : cntK t l ≤ l.length := List.length_filter_le _ _
theorem cntK_all (t : Int) (l : L) : cntK t l = l.length ↔ ∀ b ∈ l, kindB b = t := by
  unfold cntK
  rw [List.length_filter_eq_length_iff]
  simp
theorem cntK_snoc (t : Int) (l : L) (b : UInt8) : cntK t (l ++ [b]) = cntK t l + (if kindB b = t then 1 else 0) := by
  unfold cntK
  rw [List.filter_append, List.length_append]
  by_cases h : kindB b = t
  · simp [h]
  · simp [h]

theorem refCheck_l0 (s : ByteArray) (hs : s.size ≤ 1000) : ∀ (n i : Nat), i + n = s.size → Evn (fun k => wayzgooseref03_Check.l0 k s (cntK 1 (s.data.toList.take i) : Nat) (cntK 2 (s.data.toList.take i) : Nat) (i : Int)) (if (∀ b ∈ s.data.toList, kindB b = 1) ∨ (∀ b ∈ s.data.toList, kindB b = 2) then 0 else 2)
  | 0, i, hi => Evn.step 0 fun k _ => by
      have e : s.data.toList.take i = s.data.toList := List.take_of_length_le (by rw [ba_len]; omega)
      have h1 := cntK_all 1 s.data.toList
      have h2 := cntK_all 2 s.data.toList
      have g1 := cntK_le 1 s.data.toList
      have g2 := cntK_le 2 s.data.toList
      have hl := ba_len s
      rw [wayzgooseref03_Check.l0, if_neg (by omega), e]
      by_cases c1 : ∀ b ∈ s.data.toList, kindB b = 1
      · rw [if_neg (by have := h1.2 c1; omega)]
        exact congrArg some (if_pos (.inl c1)).symm
      · have d1 : ¬ cntK 1 s.data.toList = s.data.toList.length := fun h => c1 (h1.1 h)
        by_cases c2 : ∀ b ∈ s.data.toList, kindB b = 2
        · rw [if_pos (by omega), if_neg (by have := h2.2 c2; omega)]
          exact congrArg some (if_pos (.inr c2)).symm
        · have d2 : ¬ cntK 2 s.data.toList = s.data.toList.length := fun h => c2 (h2.1 h)
          rw [if_pos (by omega), if_pos (by omega)]
          exact congrArg some (if_neg (by rintro (h | h); exact c1 h; exact c2 h)).symm
  | n + 1, i, hi => by
      have ih := refCheck_l0 s hs n (i + 1) (by omega)
      obtain ⟨b, hb, hbt⟩ := bt_at s i (by omega)
      have et : s.data.toList.take (i + 1) = s.data.toList.take i ++ [b] := by rw [List.take_succ_eq_append_getElem (by rw [ba_len]; omega), hb]
      have g1 := cntK_le 1 (s.data.toList.take i)
      have g2 := cntK_le 2 (s.data.toList.take i)
      have gl : (s.data.toList.take i).length ≤ 1000 := by rw [List.length_take, ba_len]; omega
      rw [et, cntK_snoc, cntK_snoc] at ih
      refine ih.next 1 fun k hk => ?_
      rw [wayzgooseref03_Check.l0, if_pos (by omega), if_pos (by omega), hbt, bind_eq (lat_f b)]
      have hn := stands_nil b
      have e3 : wrap64 ((i : Int) + 1) = ((i + 1 : Nat) : Int) := by rw [IntWalk.wrap64_in _ (by omega)]; omega
      have e1 : wrap64 ((cntK 1 (s.data.toList.take i) : Nat) + 1) = ((cntK 1 (s.data.toList.take i) + 1 : Nat) : Int) := by rw [IntWalk.wrap64_in _ (by omega)]; omega
      have e2 : wrap64 ((cntK 2 (s.data.toList.take i) : Nat) + 1) = ((cntK 2 (s.data.toList.take i) + 1 : Nat) : Int) := by rw [IntWalk.wrap64_in _ (by omega)]; omega
      rw [e1, e2, e3]
      by_cases h1 : kindB b = 1
      · rw [decide_eq_true h1, if_pos rfl, bind_eq (stands_f b k hk), if_pos (hn.2 (by omega)), if_pos h1, if_neg (by omega)]
        rfl
      · rw [decide_eq_false h1, if_neg (by decide), bind_eq (stands_f b k hk), if_neg h1]
        by_cases h2 : kindB b = 2
        · rw [if_neg (fun h => hn.1 h h2), if_pos h2]; rfl
        · rw [if_pos (hn.2 h2), if_neg h2]; rfl
/-- The reference's Check tells the error of a name. -/
theorem refCheck_ev (s : ByteArray) (hs : s.size ≤ 140737488351232) : Evn (fun k => wayzgooseref03_Check.f k s) (chk s.data.toList) := by
  have hl := ba_len s
  unfold chk
  rw [hl]
  by_cases h0 : s.size = 0
  · rw [if_pos h0]
    exact Evn.now 0 fun k _ => by unfold wayzgooseref03_Check.f; rw [if_pos (by omega)]
  · rw [if_neg h0]
    by_cases h1 : 6 < s.size
    · rw [if_pos h1]
      exact Evn.now 0 fun k _ => by unfold wayzgooseref03_Check.f; rw [if_neg (by omega), if_pos (by omega)]
    · rw [if_neg h1]
      refine (refCheck_l0 s (by omega) s.size 0 (by omega)).cast fun k => ?_
      unfold wayzgooseref03_Check.f
      rw [if_neg (by omega), if_neg (by omega)]
      rfl

theorem refLatin_f {s : ByteArray} (h : Nm s) : wayzgooseref03_Latin.f s = some (decide (∀ b ∈ s.data.toList, kindB b = 1)) := by
  have hp := h.pos
  obtain ⟨b, hb, hbt⟩ := bt_at s 0 hp
  have hm : b ∈ s.data.toList := by rw [← hb]; exact List.getElem_mem _
  unfold wayzgooseref03_Latin.f
  rw [if_pos (by omega)]
  have hbt : bt s 0 = (b.toNat : Int) := hbt
  rw [hbt, bind_eq (lat_f b)]
  congr 1
  refine decide_eq_decide.2 ⟨fun h1 => ?_, fun h1 => h1 b hm⟩
  rcases h.one with h2 | h2
  · exact h2
  · have := h2 b hm; omega

theorem refKey_l0 {s : ByteArray} (hs : s.size ≤ 6) (h2 : ∀ b ∈ s.data.toList, kindB b = 2) : ∀ (n i : Nat), i + n = s.size → Evn (fun k => wayzgooseref03_key.l0 k s ⟨(keyL (s.data.toList.take i)).toArray⟩ (i : Int)) (keyB s)
  | 0, i, hi => Evn.step 0 fun k _ => by
      have e : s.data.toList.take i = s.data.toList := List.take_of_length_le (by rw [ba_len]; omega)
      rw [wayzgooseref03_key.l0, if_neg (by omega), e]
      rfl
  | n + 1, i, hi => by
      have ih := refKey_l0 hs h2 n (i + 1) (by omega)
      obtain ⟨b, hb, hbt⟩ := bt_at s i (by omega)
      have hm : b ∈ s.data.toList := by rw [← hb]; exact List.getElem_mem _
      have et : s.data.toList.take (i + 1) = s.data.toList.take i ++ [b] := by rw [List.take_succ_eq_append_getElem (by rw [ba_len]; omega), hb]
      have hr : refS b = ⟨(snd b).toArray⟩ := by unfold refS; rw [if_pos (h2 b hm)]
      have ea : (⟨(keyL (s.data.toList.take (i + 1))).toArray⟩ : ByteArray) = ⟨(keyL (s.data.toList.take i)).toArray⟩ ++ refS b := by
        refine ba_ext ?_
        rw [et, hr, ba_app]
        simp [keyL]
      have g1 := keyL_len (s.data.toList.take i)
      have g2 : (s.data.toList.take i).length ≤ 6 := by rw [List.length_take, ba_len]; omega
      have g3 := snd_len b
      have z1 : (⟨(keyL (s.data.toList.take i)).toArray⟩ : ByteArray).size = (keyL (s.data.toList.take i)).length := by rw [← ba_len]
      have z2 : (refS b).size = (snd b).length := by rw [hr, ← ba_len]
      rw [ea] at ih
      refine ih.next 1 fun k hk => ?_
      rw [wayzgooseref03_key.l0, if_pos (by omega), if_pos (by omega), hbt, bind_eq (stands_f b k hk), if_pos (by omega), IntWalk.wrap64_in _ (by omega)]
      rw [show ((i + 1 : Nat) : Int) = (i : Int) + 1 by omega]
theorem refkey_ev {s : ByteArray} (h : Nm s) : Evn (fun k => wayzgooseref03_key.f k s) (keyB s) := by
  by_cases h1 : ∀ b ∈ s.data.toList, kindB b = 1
  · exact Evn.now 0 fun k _ => by
      unfold wayzgooseref03_key.f
      rw [bind_eq (refLatin_f h), decide_eq_true h1, if_pos rfl, keyB_lat h1]
  · have h2 : ∀ b ∈ s.data.toList, kindB b = 2 := by
      rcases h.one with h3 | h3
      · exact absurd h3 h1
      · exact h3
    refine (refKey_l0 h.le h2 s.size 0 (by omega)).cast fun k => ?_
    unfold wayzgooseref03_key.f
    rw [bind_eq (refLatin_f h), decide_eq_false h1, if_neg (by decide)]
    rfl
end Go.Proofs.YtapikimhmjnjeaaGreatDoor.Pure

