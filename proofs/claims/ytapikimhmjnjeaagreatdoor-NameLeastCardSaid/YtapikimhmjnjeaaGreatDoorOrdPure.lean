/- What the printed Compare, the subsets and the lists without some names are: plain laws. -/
import Derived.Test.YtapikimhmjnjeaaGreatDoorEv
import Derived.Test.YtapikimhmjnjeaaGreatDoorUsesPure
import Derived.Test.YtapikimhmjnjeaaGreatDoorPrExt
import Derived.Test.YtapikimhmjnjeaaGreatDoorWrongN
import Derived.Test.YtapikimhmjnjeaaGreatDoorPr11
import Derived.Test.YtapikimhmjnjeaaGreatDoorPr0
/- What the printed Compare, the subsets and the lists without some names are: plain laws. -/
set_option linter.unusedVariables false
set_option linter.unusedSimpArgs false
namespace Go.Proofs.YtapikimhmjnjeaaGreatDoor.Pure
open Go.RowKit Go.Proofs.YtapikimhmjnjeaaGreatDoor Go.Proofs.YtapikimhmjnjeaaGreatDoor.Pr Go.Proofs.YtapikimhmjnjeaaGreatDoorW.PrintWords Go.Proofs.YtapikimhmjnjeaaGreatDoorW.PrintLast

theorem subsL_none : ∀ (m i k : Nat), m < k → subsL m i k = []
  | 0, _, 0, h => by omega
  | 0, _, _ + 1, _ => by rw [subsL]
  | m + 1, _, 0, h => by omega
  | m + 1, i, k + 1, h => by rw [subsL, subsL_none m (i + 1) k (by omega), subsL_none m (i + 1) (k + 1) (by omega)]; rfl
theorem subsL_len : ∀ (m i k : Nat), (subsL m i k).length ≤ 2 ^ m
  | m, i, 0 => by
    have : subsL m i 0 = [[]] := by cases m <;> rfl
    rw [this]
    exact Nat.one_le_two_pow
  | 0, _, _ + 1 => by rw [subsL]; simp
  | m + 1, i, k + 1 => by
    have h1 := subsL_len m (i + 1) k
    have h2 := subsL_len m (i + 1) (k + 1)
    rw [subsL, List.length_append, List.length_map, Nat.pow_succ]
    omega
theorem subs_l1 (n many : Int) (i : Nat) (rest acc : List (List Int)) (hi : i ≤ 1000) (hr : rest.length ≤ 100000) (ha : acc.length + rest.length ≤ 1000000) (hb : ∀ y ∈ rest, y.length ≤ 1000) (T : List (List Int))
    (h : Evn (fun k => wayzgoosekit_subsets.l0 k n many (acc ++ rest.map ((i : Int) :: ·)) (wrap64 ((i : Int) + 1))) T) :
    ∀ (d q : Nat), q + d = rest.length → Evn (fun k => wayzgoosekit_subsets.l1 k n many (acc ++ (rest.take q).map ((i : Int) :: ·)) (i : Int) rest (q : Int)) T
  | 0, q, hq => by
      rw [List.take_of_length_le (by omega)]
      exact h.next 0 fun k _ => by rw [wayzgoosekit_subsets.l1, if_neg (by omega)]
  | d + 1, q, hq => by
      have ih := subs_l1 n many i rest acc hi hr ha hb T h d (q + 1) (by omega)
      have ee : wrap64 ((q : Int) + 1) = ((q + 1 : Nat) : Int) := by rw [IntWalk.wrap64_in _ (by omega)]; omega
      have er : rd_L3 rest (q : Int) = rest[q]'(by omega) := by unfold rd_L3; rw [Int.toNat_natCast, List.getD_eq_getElem?_getD, List.getElem?_eq_getElem (by omega)]; rfl
      have hl := hb _ (List.getElem_mem (show q < rest.length by omega))
      refine ih.next 0 fun k _ => ?_
      rw [wayzgoosekit_subsets.l1, if_pos (by omega), bind_eq rfl, if_pos (by omega), er, if_pos (by simp; omega), if_pos (by simp; omega), ee, List.take_succ_eq_append_getElem (by omega : q < rest.length), List.map_append, List.map_cons, List.map_nil, List.append_assoc]
      rfl
theorem subs_f : ∀ (j m i : Nat), j ≤ 100 → i + m ≤ 100 → m ≤ 12 → Evn (fun k => wayzgoosekit_subsets.f k (i : Int) ((i + m : Nat) : Int) (j : Int)) (subsL m i j)
  | 0, m, i, _, _, _ => Evn.step 0 fun k _ => by
      rw [wayzgoosekit_subsets.f, if_pos (by simp)]
      cases m <;> rfl
  | j + 1, m, i, hj, hm, hm2 => by
      have loop : ∀ (d i2 : Nat) (acc : List (List Int)), i ≤ i2 → i2 + d = i + m → acc.length + 2 ^ d ≤ 100000 → Evn (fun k => wayzgoosekit_subsets.l0 k ((i + m : Nat) : Int) ((j + 1 : Nat) : Int) acc (i2 : Int)) (acc ++ subsL d i2 (j + 1)) := by
        intro d
        induction d with
        | zero =>
          intro i2 acc hi2 hd _
          refine Evn.step 0 fun k _ => ?_
          rw [wayzgoosekit_subsets.l0, IntWalk.wrap64_in _ (by omega), if_neg (by omega), subsL]
          simp
        | succ d ihd =>
          intro i2 acc hi2 hd hacc
          by_cases hle : j ≤ d
          · have hp := Nat.pow_succ 2 d
            have hlen := subsL_len d (i2 + 1) j
            have ihf := subs_f j d (i2 + 1) (by omega) (by omega) (by omega)
            have ih := ihd (i2 + 1) (acc ++ (subsL d (i2 + 1) j).map ((i2 : Int) :: ·)) (by omega) (by omega) (by simp; omega)
            have ee : wrap64 ((i2 : Int) + 1) = ((i2 + 1 : Nat) : Int) := by rw [IntWalk.wrap64_in _ (by omega)]; omega
            have e2 : wrap64 (((j + 1 : Nat) : Int) - 1) = (j : Int) := by rw [IntWalk.wrap64_in _ (by omega)]; omega
            have hl1 := subs_l1 ((i + m : Nat) : Int) ((j + 1 : Nat) : Int) i2 (subsL d (i2 + 1) j) acc (by omega) (by omega) (by omega) (fun y hy => by
              have := ((mem_subsL d (i2 + 1) j).1 hy).2
              omega) _ (by rw [ee]; exact ih) (subsL d (i2 + 1) j).length 0 (by omega)
            rw [List.take_zero, List.map_nil, List.append_nil] at hl1
            rw [show i2 + 1 + d = i + m by omega] at ihf
            have := Evn.bnd (f := fun k t => wayzgoosekit_subsets.l1 k ((i + m : Nat) : Int) ((j + 1 : Nat) : Int) acc (i2 : Int) t 0) ihf hl1
            rw [subsL, ← List.append_assoc]
            refine this.next 0 fun k _ => ?_
            rw [wayzgoosekit_subsets.l0, IntWalk.wrap64_in ((i2 : Int) + ((j + 1 : Nat) : Int)) (by omega), if_pos (by omega), ee, e2]
          · refine Evn.step 0 fun k _ => ?_
            rw [wayzgoosekit_subsets.l0, IntWalk.wrap64_in _ (by omega), if_neg (by omega), subsL_none _ _ _ (by omega)]
            simp
      have h4 : 2 ^ m ≤ 2 ^ 12 := Nat.pow_le_pow_right (by omega) hm2
      have := loop m i [] (by omega) (by omega) (by simp; omega)
      rw [List.nil_append] at this
      refine this.next 0 fun k _ => ?_
      rw [wayzgoosekit_subsets.f, if_neg (by omega)]
theorem Subsets_ev (n many : Nat) (hn : n ≤ 12) (hm : many ≤ 100) : Evn (fun k => wayzgoosekit_Subsets.f k (n : Int) (many : Int)) (subsL n 0 many) := by
  have := subs_f many n 0 hm (by omega) hn
  rw [Nat.zero_add] at this
  obtain ⟨K, h⟩ := this
  refine ⟨K, fun k hk => ?_⟩
  have h2 : wayzgoosekit_subsets.f k 0 (n : Int) (many : Int) = some (subsL n 0 many) := h k hk
  show wayzgoosekit_Subsets.f k (n : Int) (many : Int) = _
  unfold wayzgoosekit_Subsets.f
  rw [bind_eq h2]
end Go.Proofs.YtapikimhmjnjeaaGreatDoor.Pure

