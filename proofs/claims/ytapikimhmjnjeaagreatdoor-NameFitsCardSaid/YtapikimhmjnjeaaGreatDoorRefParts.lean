/- What the reference's parts says, as the print has it: plain laws. -/
import Derived.Test.YtapikimhmjnjeaaGreatDoorRefCut
import Derived.Test.YtapikimhmjnjeaaGreatDoorPr21
/- What the reference's parts says, as the print has it: plain laws. -/
set_option linter.unusedVariables false
set_option linter.unusedSimpArgs false
namespace Go.Proofs.YtapikimhmjnjeaaGreatDoor.Pure
open Go.RowKit Go.Proofs.YtapikimhmjnjeaaGreatDoor Go.Proofs.YtapikimhmjnjeaaGreatDoor.Pr Go.Proofs.YtapikimhmjnjeaaGreatDoorW.PrintWords Go.Proofs.YtapikimhmjnjeaaGreatDoorW.PrintLast

theorem parts_l1 (s : ByteArray) (hs : s.size ≤ 100) (m i : Nat) (b : UInt8) (hi : i < s.size) (hb : s.extract i (i + 1) = ⟨#[b]⟩) (rest acc : List ByteArray) (hr : rest.length ≤ 1000000) (ha : acc.length + rest.length ≤ 10000000) (hz : ∀ y ∈ rest, y.size ≤ 1000) (T : List ByteArray)
    (h : Evn (fun k => wayzgooseref03_parts.l0 k s (m : Int) (acc ++ rest.map (fun x => ⟨#[b]⟩ ++ x)) ((i + 1 : Nat) : Int)) T) :
    ∀ (n j : Nat), j + n = rest.length → Evn (fun k => wayzgooseref03_parts.l1 k s (m : Int) (acc ++ (rest.take j).map (fun x => ⟨#[b]⟩ ++ x)) (i : Int) rest (j : Int)) T
  | 0, j, hj => by
      rw [List.take_of_length_le (by omega)]
      refine h.next 0 fun k _ => ?_
      rw [wayzgooseref03_parts.l1, if_neg (by omega), IntWalk.wrap64_in _ (by omega)]
      rw [show ((i + 1 : Nat) : Int) = (i : Int) + 1 by omega]
  | n + 1, j, hj => by
      have hlt : j < rest.length := by omega
      have hy := hz _ (getD_mem hlt)
      refine (parts_l1 s hs m i b hi hb rest acc hr ha hz T h n (j + 1) (by omega)).next 0 fun k _ => ?_
      have e1 : wrap64 ((i : Int) + 1) = ((i + 1 : Nat) : Int) := by rw [IntWalk.wrap64_in _ (by omega)]; omega
      have e2 : wrap64 ((j : Int) + 1) = ((j + 1 : Nat) : Int) := by rw [IntWalk.wrap64_in _ (by omega)]; omega
      have e3 : rest.take (j + 1) = rest.take j ++ [rest.getD j ByteArray.empty] := by
        rw [List.take_succ_eq_append_getElem hlt, List.getD_eq_getElem?_getD, List.getElem?_eq_getElem hlt]; rfl
      have e4 : (rest.take j).length ≤ rest.length := by rw [List.length_take]; omega
      rw [wayzgooseref03_parts.l1, if_pos (by omega), if_pos (by omega), e1, if_pos (by omega), if_pos (by omega), if_pos (by omega), rd_at, Int.toNat_natCast, Int.toNat_natCast, hb, if_pos (by
        show 1 + _ ≤ _
        omega), if_pos (by rw [List.length_append, List.length_map]; omega), e2, e3, List.map_append, ← List.append_assoc]
      rfl
set_option maxHeartbeats 1000000 in
theorem parts_f : ∀ (m : Nat) (s : ByteArray), m ≤ 100 → s.size ≤ 12 → Evn (fun k => wayzgooseref03_parts.f k s (m : Int)) (partsB m s.data.toList)
  | 0, s, _, hs => Evn.step 0 fun k _ => by
      rw [wayzgooseref03_parts.f, if_pos (by omega), partsB, partsN]
      rfl
  | m + 1, s, hm, hs => by
      have key : ∀ (n i : Nat) (acc : List ByteArray), i + n = s.size → acc.length + 4096 * n ≤ 100000 → Evn (fun k => wayzgooseref03_parts.l0 k s ((m + 1 : Nat) : Int) acc (i : Int)) (acc ++ partsB (m + 1) (s.data.toList.drop i)) := by
        intro n
        induction n with
        | zero =>
          intro i acc hi ha
          refine Evn.step 0 fun k _ => ?_
          rw [wayzgooseref03_parts.l0, IntWalk.wrap64_in _ (by omega), if_neg (by omega), List.drop_eq_nil_of_le (by rw [ba_len]; omega)]
          simp [partsB, partsN]
        | succ n ih =>
          intro i acc hi ha
          obtain ⟨b, hb, _⟩ := drop_byte (s := s) (i := i) (by omega)
          by_cases hle : i + (m + 1) ≤ s.size
          · obtain ⟨K, w⟩ := parts_f m (s.extract (i + 1) s.size) (by omega) (by rw [ByteArray.size_extract]; omega)
            rw [ba_from] at w
            have hex : s.extract i (i + 1) = ⟨#[b]⟩ := by
              refine ba_ext ?_
              rw [ba_sub, List.drop_take, hb, show i + 1 - i = 1 by omega]
              rfl
            have hpl : (partsB m (s.data.toList.drop (i + 1))).length ≤ 4096 := Nat.le_trans (partsB_len m _) (Nat.le_trans (Nat.pow_le_pow_right (by omega) (show _ ≤ 12 by rw [List.length_drop, ba_len]; omega)) (by decide))
            have hsz : ∀ y ∈ partsB m (s.data.toList.drop (i + 1)), y.size ≤ 1000 := fun y hy => by
              rw [(mem_partsB.1 hy).2]; omega
            rw [hb, partsB_cons, ← List.append_assoc]
            generalize partsB m (s.data.toList.drop (i + 1)) = R at w hpl hsz ⊢
            have hal : (acc ++ R.map (fun x => (⟨#[b]⟩ : ByteArray) ++ x)).length + 4096 * n ≤ 100000 := by rw [List.length_append, List.length_map]; omega
            have hl1 := parts_l1 s (by omega) (m + 1) i b (by omega) hex R acc (by omega) (by omega) hsz _ (ih (i + 1) _ (by omega) hal) R.length 0 (by omega)
            rw [List.take_zero, List.map_nil, List.append_nil] at hl1
            refine hl1.next K fun k hk => ?_
            have w3 := w k hk
            clear hl1 ih hb hsz hal hpl w
            have f1 : (i : Int) + ((m + 1 : Nat) : Int) ≤ (s.size : Int) := by omega
            have f2 : (0 : Int) ≤ ((i + 1 : Nat) : Int) := by omega
            have f3 : ((i + 1 : Nat) : Int) ≤ (s.size : Int) := by omega
            have e3 : wrap64 ((i : Int) + ((m + 1 : Nat) : Int)) = (i : Int) + ((m + 1 : Nat) : Int) := IntWalk.wrap64_in _ (by omega)
            have e1 : wrap64 ((i : Int) + 1) = ((i + 1 : Nat) : Int) := by clear e3; rw [IntWalk.wrap64_in _ (by omega)]; omega
            have e2 : wrap64 (((m + 1 : Nat) : Int) - 1) = (m : Int) := by clear e3 e1; rw [IntWalk.wrap64_in _ (by omega)]; omega
            rw [wayzgooseref03_parts.l0, e3, if_pos f1, e1, if_pos f2, if_pos f3, e2, Int.toNat_natCast, bind_eq w3]
            rfl
          · refine Evn.step 0 fun k _ => ?_
            rw [wayzgooseref03_parts.l0, IntWalk.wrap64_in _ (by omega), if_neg (by omega)]
            unfold partsB
            rw [partsN_none _ _ (by rw [List.length_drop, ba_len]; omega), List.map_nil, List.append_nil]
      have := key s.size 0 [] (by omega) (by simp; omega)
      rw [List.drop_zero, List.nil_append] at this
      refine this.next 0 fun k _ => ?_
      rw [wayzgooseref03_parts.f, if_neg (by omega)]
      rfl
end Go.Proofs.YtapikimhmjnjeaaGreatDoor.Pure

