/- What the reference's abbreviations say, as the print has them: plain laws. -/
import Derived.Test.YtapikimhmjnjeaaGreatDoorRefPure
import Derived.Test.YtapikimhmjnjeaaGreatDoorShortsPure
import Derived.Test.YtapikimhmjnjeaaGreatDoorPartLaw
import Derived.Test.YtapikimhmjnjeaaGreatDoorPr21
/- What the reference's abbreviations say, as the print has them: plain laws. -/
set_option linter.unusedVariables false
set_option linter.unusedSimpArgs false
namespace Go.Proofs.YtapikimhmjnjeaaGreatDoor.Pure
open Go.RowKit Go.Proofs.YtapikimhmjnjeaaGreatDoor Go.Proofs.YtapikimhmjnjeaaGreatDoor.Pr Go.Proofs.YtapikimhmjnjeaaGreatDoorW.PrintWords Go.Proofs.YtapikimhmjnjeaaGreatDoorW.PrintLast

theorem rd_at (l : List ByteArray) (i : Nat) : rdOf ByteArray.empty l (i : Int) = l.getD i ByteArray.empty := by unfold rdOf; rw [Int.toNat_natCast]
theorem getD_mem {l : List ByteArray} {i : Nat} (h : i < l.length) : l.getD i ByteArray.empty ∈ l := by
  rw [List.getD_eq_getElem?_getD, List.getElem?_eq_getElem h]
  exact List.getElem_mem _
theorem drop_at {l : List ByteArray} {i : Nat} (h : i < l.length) : l.drop i = l.getD i ByteArray.empty :: l.drop (i + 1) := by
  rw [List.drop_eq_getElem_cons h, List.getD_eq_getElem?_getD, List.getElem?_eq_getElem h]
  rfl

theorem refList_l0 (l : List ByteArray) (hl : l.length ≤ 1000) (hs : ∀ s ∈ l, s.size ≤ 1000000) : ∀ (n i : Nat), i + n = l.length → Evn (fun k => wayzgooseref03_checkList.l0 k l (i : Int)) (chkL (l.drop i))
  | 0, i, hi => Evn.step 0 fun k _ => by
      rw [wayzgooseref03_checkList.l0, if_neg (by omega), List.drop_eq_nil_of_le (by omega)]
      rfl
  | n + 1, i, hi => by
      have ih := refList_l0 l hl hs n (i + 1) (by omega)
      obtain ⟨K, w⟩ := refCheck_ev (l.getD i ByteArray.empty) (Nat.le_trans (hs _ (getD_mem (by omega))) (by decide))
      rw [drop_at (by omega), chkL]
      by_cases hz : chk (l.getD i ByteArray.empty).data.toList = 0
      · rw [if_pos hz]
        refine ih.next K fun k hk => ?_
        rw [wayzgooseref03_checkList.l0, if_pos (by omega), if_pos (by omega), rd_at, bind_eq (w k hk), if_pos hz, IntWalk.wrap64_in _ (by omega)]
        rw [show ((i + 1 : Nat) : Int) = (i : Int) + 1 by omega]
      · rw [if_neg hz]
        refine Evn.step K fun k hk => ?_
        rw [wayzgooseref03_checkList.l0, if_pos (by omega), if_pos (by omega), rd_at, bind_eq (w k hk), if_neg hz]
theorem refList_ev (l : List ByteArray) (hl : l.length ≤ 1000) (hs : ∀ s ∈ l, s.size ≤ 1000000) : Evn (fun k => wayzgooseref03_checkList.f k l) (listedZ l) := by
  unfold listedZ
  by_cases h : 6 < l.length
  · rw [if_pos h]
    exact Evn.now 0 fun k _ => by unfold wayzgooseref03_checkList.f; rw [if_pos (by omega)]
  · rw [if_neg h]
    refine (refList_l0 l hl hs l.length 0 (by omega)).cast fun k => ?_
    unfold wayzgooseref03_checkList.f
    rw [if_neg (by omega)]
    rfl

theorem EqStrings_l0 (l m : List ByteArray) (hl : l.length ≤ 1000000000) (he : l.length = m.length) : ∀ (n i : Nat), i + n = l.length → (∀ j, j < i → l.getD j ByteArray.empty = m.getD j ByteArray.empty) → Evn (fun k => wayzgoosekit_EqStrings.l0 k l m (i : Int)) (decide (l = m))
  | 0, i, hi, hp => Evn.step 0 fun k _ => by
      rw [wayzgoosekit_EqStrings.l0, if_neg (by omega), decide_eq_true]
      refine List.ext_getElem? fun j => ?_
      by_cases hj : j < l.length
      · have := hp j (by omega)
        rw [List.getD_eq_getElem?_getD, List.getD_eq_getElem?_getD, List.getElem?_eq_getElem hj, List.getElem?_eq_getElem (by omega)] at this
        rw [List.getElem?_eq_getElem hj, List.getElem?_eq_getElem (by omega)]
        exact congrArg some this
      · rw [List.getElem?_eq_none (by omega), List.getElem?_eq_none (by omega)]
  | n + 1, i, hi, hp => by
      by_cases e : l.getD i ByteArray.empty = m.getD i ByteArray.empty
      · refine Evn.next (EqStrings_l0 l m hl he n (i + 1) (by omega) (fun j hj => ?_)) 0 fun k _ => ?_
        · by_cases h : j = i
          · subst h; exact e
          · exact hp j (by omega)
        · rw [wayzgoosekit_EqStrings.l0, if_pos (by omega), if_pos (by omega), if_pos (by omega), rd_at, rd_at, if_pos (by rw [e]), IntWalk.wrap64_in _ (by omega)]
          rw [show ((i + 1 : Nat) : Int) = (i : Int) + 1 by omega]
      · refine Evn.step 0 fun k _ => ?_
        rw [wayzgoosekit_EqStrings.l0, if_pos (by omega), if_pos (by omega), if_pos (by omega), rd_at, rd_at, if_neg (fun h => e (tl_inj h)), decide_eq_false (fun h => e (by rw [h]))]
theorem EqStrings_ev (l m : List ByteArray) (hl : l.length ≤ 1000000000) : Evn (fun k => wayzgoosekit_EqStrings.f k l m) (decide (l = m)) := by
  by_cases he : l.length = m.length
  · refine (EqStrings_l0 l m hl he l.length 0 (by omega) (fun j hj => by omega)).cast fun k => ?_
    unfold wayzgoosekit_EqStrings.f
    rw [if_pos (by omega)]
    rfl
  · refine Evn.now 0 fun k _ => ?_
    unfold wayzgoosekit_EqStrings.f
    rw [if_neg (by omega), decide_eq_false (fun h => he (by rw [h]))]

theorem drop_byte {s : ByteArray} {i : Nat} (h : i < s.size) : ∃ b, s.data.toList.drop i = b :: s.data.toList.drop (i + 1) ∧ bt s (i : Int) = (b.toNat : Int) := by
  obtain ⟨b, hb, hbt⟩ := bt_at s i h
  refine ⟨b, ?_, hbt⟩
  rw [List.drop_eq_getElem_cons (by rw [ba_len]; exact h), hb]
theorem part_l0 (s t : ByteArray) (hs : s.size ≤ 1000) (ht : t.size ≤ 1000) : ∀ (n i a : Nat), i + n = t.size → a ≤ s.size → ∃ b, Evn (fun k => wayzgooseref03_part.l0 k s t (a : Int) (i : Int)) b ∧ (b = true ↔ (s.data.toList.drop a).Sublist (t.data.toList.drop i))
  | 0, i, a, hi, ha => by
      refine ⟨((a : Int) == (s.size : Int)), ?_, ?_⟩
      · have h1 : Evn (fun k => wayzgooseref03_part.j1 k s t (a : Int) (i : Int) false) ((a : Int) == (s.size : Int)) := Evn.step 0 fun k _ => by rw [wayzgooseref03_part.j1, if_neg (by decide)]
        exact h1.next 0 fun k _ => by rw [wayzgooseref03_part.l0, if_neg (by omega)]
      · rw [show t.data.toList.drop i = [] from List.drop_eq_nil_of_le (by rw [ba_len]; omega), List.sublist_nil, List.drop_eq_nil_iff, ba_len, beq_iff_eq]
        omega
  | n + 1, i, a, hi, ha => by
      obtain ⟨y, hy, hby⟩ := drop_byte (s := t) (i := i) (by omega)
      by_cases hal : a < s.size
      · obtain ⟨x, hx, hbx⟩ := drop_byte hal
        rw [hx, hy]
        have hne : ((y.toNat : Int) = (x.toNat : Int)) ↔ y = x := ⟨fun h => UInt8.toNat_inj.1 (by omega), fun h => by rw [h]⟩
        by_cases e : y = x
        · obtain ⟨b, hb, hbi⟩ := part_l0 s t hs ht n (i + 1) (a + 1) (by omega) (by omega)
          have h1 : Evn (fun k => wayzgooseref03_part.j1 k s t (a : Int) (i : Int) true) b := hb.next 0 fun k _ => by
            rw [wayzgooseref03_part.j1, if_pos rfl, if_pos (by omega), if_pos (by omega), if_pos (by omega), if_pos (by omega), hby, hbx, if_pos (hne.2 e), IntWalk.wrap64_in _ (by omega), IntWalk.wrap64_in _ (by omega)]
            rw [show ((i + 1 : Nat) : Int) = (i : Int) + 1 by omega, show ((a + 1 : Nat) : Int) = (a : Int) + 1 by omega]
          refine ⟨b, h1.next 0 fun k _ => by rw [wayzgooseref03_part.l0, if_pos (by omega), decide_eq_true (by omega)], ?_⟩
          rw [hbi, e, List.cons_sublist_cons]
        · obtain ⟨b, hb, hbi⟩ := part_l0 s t hs ht n (i + 1) a (by omega) (by omega)
          have h1 : Evn (fun k => wayzgooseref03_part.j1 k s t (a : Int) (i : Int) true) b := hb.next 0 fun k _ => by
            rw [wayzgooseref03_part.j1, if_pos rfl, if_pos (by omega), if_pos (by omega), if_pos (by omega), if_pos (by omega), hby, hbx, if_neg (fun h => e (hne.1 h)), IntWalk.wrap64_in _ (by omega)]
            rw [show ((i + 1 : Nat) : Int) = (i : Int) + 1 by omega]
          refine ⟨b, h1.next 0 fun k _ => by rw [wayzgooseref03_part.l0, if_pos (by omega), decide_eq_true (by omega)], ?_⟩
          rw [hbi, hx]
          constructor
          · exact fun h => h.cons y
          · intro h
            cases h with
            | cons _ h => exact h
            | cons_cons _ h => exact absurd rfl e
      · refine ⟨((a : Int) == (s.size : Int)), ?_, ?_⟩
        · have h1 : Evn (fun k => wayzgooseref03_part.j1 k s t (a : Int) (i : Int) false) ((a : Int) == (s.size : Int)) := Evn.step 0 fun k _ => by rw [wayzgooseref03_part.j1, if_neg (by decide)]
          exact h1.next 0 fun k _ => by rw [wayzgooseref03_part.l0, if_pos (by omega), decide_eq_false (by omega)]
        · rw [show s.data.toList.drop a = [] from List.drop_eq_nil_of_le (by rw [ba_len]; omega), beq_iff_eq]
          exact ⟨fun _ => List.nil_sublist _, fun _ => by omega⟩
theorem part_ev (s t : ByteArray) (hs : s.size ≤ 1000) (ht : t.size ≤ 1000) : ∃ b, Evn (fun k => wayzgooseref03_part.f k s t) b ∧ (b = true ↔ s.data.toList.Sublist t.data.toList) := by
  obtain ⟨b, hb, hbi⟩ := part_l0 s t hs ht t.size 0 0 (by omega) (by omega)
  exact ⟨b, hb.cast fun k => rfl, hbi⟩
theorem abbr_ev (s t : ByteArray) (hs : s.size ≤ 1000) (ht : t.size ≤ 1000) (hp : 0 < s.size) : Evn (fun k => wayzgooseref03_Abbreviates.f k s t) (standsB s t) := by
  by_cases hlt : s.size < t.size
  · obtain ⟨x, hx, hbx⟩ := drop_byte hp
    obtain ⟨y, hy, hby⟩ := drop_byte (s := t) (i := 0) (by omega)
    rw [List.drop_zero] at hx hy
    have hne : ((x.toNat : Int) = (y.toNat : Int)) ↔ x = y := ⟨fun h => UInt8.toNat_inj.1 (by omega), fun h => by rw [h]⟩
    by_cases e : x = y
    · obtain ⟨b, ⟨K, hb⟩, hbi⟩ := part_ev s t hs ht
      have hb2 : b = standsB s t := by
        rw [Bool.eq_iff_iff, hbi, standsB_iff hp]
        constructor
        · intro h
          rw [hx, hy, e, List.cons_sublist_cons] at h
          refine ⟨y, _, _, by rw [← e]; exact hx, hy, h, ?_⟩
          rw [List.length_drop, List.length_drop, ba_len, ba_len]
          omega
        · rintro ⟨c, r, u, h1, h2, h3, _⟩
          rw [h1, h2]
          exact h3.cons_cons c
      refine ⟨K, fun k hk => ?_⟩
      show wayzgooseref03_Abbreviates.f k s t = _
      unfold wayzgooseref03_Abbreviates.f
      rw [if_pos (by omega), if_pos (by omega), if_pos (by omega), show (0 : Int) = ((0 : Nat) : Int) from rfl, hbx, hby, if_pos (hne.2 e), bind_eq (hb k hk), hb2]
    · have hb2 : standsB s t = false := by
        rw [Bool.eq_false_iff, Ne, standsB_iff hp]
        rintro ⟨c, r, u, h1, h2, _, _⟩
        rw [hx] at h1
        rw [hy] at h2
        injection h1 with h1
        injection h2 with h2
        exact e (h1.trans h2.symm)
      refine ⟨0, fun k _ => ?_⟩
      show wayzgooseref03_Abbreviates.f k s t = _
      unfold wayzgooseref03_Abbreviates.f
      rw [if_pos (by omega), if_pos (by omega), if_pos (by omega), show (0 : Int) = ((0 : Nat) : Int) from rfl, hbx, hby, if_neg (fun h => e (hne.1 h)), hb2]
  · have hb2 : standsB s t = false := by
      rw [Bool.eq_false_iff, Ne, standsB_iff hp]
      exact fun h => hlt h.lt
    refine ⟨0, fun k _ => ?_⟩
    show wayzgooseref03_Abbreviates.f k s t = _
    unfold wayzgooseref03_Abbreviates.f
    rw [if_neg (by omega), hb2]

end Go.Proofs.YtapikimhmjnjeaaGreatDoor.Pure

