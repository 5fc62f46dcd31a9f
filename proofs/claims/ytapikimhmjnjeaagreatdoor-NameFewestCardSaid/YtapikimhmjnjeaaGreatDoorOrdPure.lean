/- What the printed Compare, the subsets and the lists without some names are: plain laws. -/
import Derived.Test.YtapikimhmjnjeaaGreatDoorEv
import Derived.Test.YtapikimhmjnjeaaGreatDoorUsesPure
import Derived.Test.YtapikimhmjnjeaaGreatDoorPrExtOrd
import Derived.Test.YtapikimhmjnjeaaGreatDoorPr11
import Derived.Test.YtapikimhmjnjeaaGreatDoorPr11
import Derived.Test.YtapikimhmjnjeaaGreatDoorPr12
set_option linter.unusedVariables false
set_option linter.unusedSimpArgs false
namespace Go.Proofs.YtapikimhmjnjeaaGreatDoor.Pure
open Go.RowKit Go.Proofs.YtapikimhmjnjeaaGreatDoor Go.Proofs.YtapikimhmjnjeaaGreatDoor.Pr Go.Proofs.YtapikimhmjnjeaaGreatDoorW.PrintWords Go.Proofs.YtapikimhmjnjeaaGreatDoorW.PrintLast

theorem at_nam {l : List ByteArray} (hl : ∀ s ∈ l, Nm s) {i : Nat} (h : i < l.length) : rdOf ByteArray.empty l (i : Int) = l.getD i ByteArray.empty ∧ Nm (l.getD i ByteArray.empty) := by
  refine ⟨by unfold rdOf; rw [Int.toNat_natCast], hl _ ?_⟩
  rw [List.getD_eq_getElem?_getD, List.getElem?_eq_getElem h]
  exact List.getElem_mem _
theorem compare_f {a b : ByteArray} (ha : Nm a) (hb : Nm b) : name_compare.f a b = some (cmpN a b) := by
  unfold name_compare.f
  rw [if_pos ⟨nm_chk ha, nm_chk hb⟩]
theorem Compare_f {a b : ByteArray} (ha : Nm a) (hb : Nm b) (k : Nat) (hk : 3 ≤ k) : name_Compare.f k a b = some (cmpN a b, 0) := by
  unfold name_Compare.f
  rw [bind_eq (checked_ok [a, b] (fun s hs => by rcases List.mem_cons.1 hs with rfl | hs; exact ha; rcases List.mem_cons.1 hs with rfl | hs; exact hb; cases hs) (by simp) k (by simp; omega)), if_pos rfl, bind_eq (compare_f ha hb)]
theorem downN_iff (l : List ByteArray) : ∀ n, downN l n = true ↔ ∀ i, i < n → ¬ cmpN (l.getD (i + 1) ByteArray.empty) (l.getD i ByteArray.empty) < 0
  | 0 => by simp [downN]
  | n + 1 => by
    rw [downN, Bool.and_eq_true, downN_iff l n, Bool.not_eq_true', decide_eq_false_iff_not]
    constructor
    · rintro ⟨h1, h2⟩ i hi
      by_cases e : i = n
      · subst e; exact h1
      · exact h2 i (by omega)
    · intro h
      exact ⟨h n (by omega), fun i hi => h i (by omega)⟩
theorem okN_iff (l : List ByteArray) : okN l = true ↔ ∀ i, i + 1 < l.length → ¬ cmpN (l.getD (i + 1) ByteArray.empty) (l.getD i ByteArray.empty) < 0 := by
  unfold okN
  rw [downN_iff]
  exact ⟨fun h i hi => h i (by omega), fun h i hi => h i (by omega)⟩

theorem inOrder_l0 {l : List ByteArray} (hl : ∀ s ∈ l, Nm s) (hlen : l.length ≤ 1000) : ∀ (n i : Nat), 1 ≤ i → i + n = l.length + 1 → (∀ j, j + 1 < i → ¬ cmpN (l.getD (j + 1) ByteArray.empty) (l.getD j ByteArray.empty) < 0) → Evn (fun k => wayzgooselaw03_inOrder.l0 k l (i : Int)) (okN l, true)
  | 0, i, h1, hi, hp => Evn.step 0 fun k _ => by
      rw [wayzgooselaw03_inOrder.l0, if_neg (by omega), (okN_iff l).2 (fun j hj => hp j (by omega))]
  | n + 1, i, h1, hi, hp => by
      by_cases hlt : i < l.length
      · obtain ⟨e1, n1⟩ := at_nam hl (i := i - 1) (by omega)
        obtain ⟨e2, n2⟩ := at_nam hl (i := i) (by omega)
        have ee : wrap64 ((i : Int) - 1) = ((i - 1 : Nat) : Int) := by rw [IntWalk.wrap64_in _ (by omega)]; omega
        have hsw := cmpN_swap (l.getD i ByteArray.empty) (l.getD (i - 1) ByteArray.empty)
        by_cases hc : cmpN (l.getD (i - 1) ByteArray.empty) (l.getD i ByteArray.empty) > 0
        · refine Evn.step 3 fun k hk => ?_
          rw [wayzgooselaw03_inOrder.l0, if_pos (by omega), ee, if_pos (by omega), if_pos (by omega), if_pos (by omega), e1, e2, bind_eq (Compare_f n1 n2 k hk)]
          dsimp only
          rw [if_pos rfl, if_pos hc]
          have : okN l = false := by
            cases h : okN l with
            | false => rfl
            | true =>
              have := (okN_iff l).1 h (i - 1) (by omega)
              rw [show i - 1 + 1 = i by omega] at this
              exact absurd (hsw.2 hc) this
          rw [this]
        · refine Evn.next (inOrder_l0 hl hlen n (i + 1) (by omega) (by omega) (fun j hj => ?_)) 3 fun k hk => ?_
          · by_cases e : j + 1 < i
            · exact hp j e
            · have : j = i - 1 := by omega
              subst this
              rw [show i - 1 + 1 = i by omega]
              exact fun h => hc (hsw.1 h)
          · rw [wayzgooselaw03_inOrder.l0, if_pos (by omega), ee, if_pos (by omega), if_pos (by omega), if_pos (by omega), e1, e2, bind_eq (Compare_f n1 n2 k hk)]
            dsimp only
            rw [if_pos rfl, if_neg hc, IntWalk.wrap64_in _ (by omega)]
            rw [show ((i + 1 : Nat) : Int) = (i : Int) + 1 by omega]
      · refine Evn.step 0 fun k _ => ?_
        rw [wayzgooselaw03_inOrder.l0, if_neg (by omega), (okN_iff l).2 (fun j hj => hp j (by omega))]
theorem inOrder_ev {l : List ByteArray} (hl : ∀ s ∈ l, Nm s) (hlen : l.length ≤ 1000) : Evn (fun k => wayzgooselaw03_inOrder.f k l) (okN l, true) := by
  refine (inOrder_l0 hl hlen l.length 1 (by omega) (by omega) (fun j hj => by omega)).cast fun k => ?_
  unfold wayzgooselaw03_inOrder.f
  rfl

/-- The names below i that are not at some indices. -/
def lessTo (l : List ByteArray) (x : List Int) (i : Nat) : List ByteArray := ((List.range i).filter fun j : Nat => !x.contains (j : Int)).map fun j => l.getD j ByteArray.empty
theorem lessTo_succ (l : List ByteArray) (x : List Int) (i : Nat) : lessTo l x (i + 1) = lessTo l x i ++ (if x.contains (i : Int) then [] else [l.getD i ByteArray.empty]) := by
  unfold lessTo
  rw [List.range_succ, List.filter_append, List.map_append]
  cases h : x.contains (i : Int) with
  | true => simp only [List.filter_cons, List.filter_nil, h, Bool.not_true, Bool.false_eq_true, if_false, List.map_nil, if_true]
  | false => simp only [List.filter_cons, List.filter_nil, h, Bool.not_false, Bool.false_eq_true, if_false, List.map_cons, List.map_nil, if_true]
theorem lessTo_len (l : List ByteArray) (x : List Int) : ∀ i, (lessTo l x i).length ≤ i
  | 0 => by simp [lessTo]
  | i + 1 => by
    have := lessTo_len l x i
    rw [lessTo_succ, List.length_append]
    split <;> simp <;> omega
theorem Without_l1 (l : List ByteArray) (x : List Int) (hx : x.length ≤ 1000) (acc : List ByteArray) (i : Nat) (T : List ByteArray)
    (h1 : x.contains (i : Int) = true → Evn (fun k => wayzgooseref03_Without.l0 k l x acc (wrap64 ((i : Int) + 1))) T)
    (h2 : x.contains (i : Int) = false → Evn (fun k => wayzgooseref03_Without.l0 k l x (acc ++ [rdOf ByteArray.empty l (i : Int)]) (wrap64 ((i : Int) + 1))) T) (hi : i < l.length) (hacc : acc.length ≤ 100000) :
    ∀ (n q : Nat) (g : Bool), q + n = x.length → g = (x.take q).contains (i : Int) → Evn (fun k => wayzgooseref03_Without.l1 k l x acc (i : Int) g (q : Int)) T
  | 0, q, g, hq, hg => by
      rw [List.take_of_length_le (by omega)] at hg
      cases g with
      | true => exact (h1 hg.symm).next 0 fun k _ => by rw [wayzgooseref03_Without.l1, if_neg (by omega), if_pos rfl]
      | false => exact (h2 hg.symm).next 0 fun k _ => by rw [wayzgooseref03_Without.l1, if_neg (by omega), if_neg (by decide), if_pos (by omega), if_pos (by omega), if_pos (by omega)]
  | n + 1, q, g, hq, hg => by
      have ee : wrap64 ((q : Int) + 1) = ((q + 1 : Nat) : Int) := by rw [IntWalk.wrap64_in _ (by omega)]; omega
      have ht : (x.take (q + 1)).contains (i : Int) = ((x.take q).contains (i : Int) || (rd x (q : Int) == (i : Int))) := by
        rw [List.take_succ_eq_append_getElem (by omega : q < x.length)]
        have e1 : rd x (q : Int) = x[q] := by unfold rd; rw [Int.toNat_natCast, List.getD_eq_getElem?_getD, List.getElem?_eq_getElem (by omega)]; rfl
        rw [e1, Bool.eq_iff_iff, List.contains_iff_mem, List.mem_append, List.mem_singleton, Bool.or_eq_true, List.contains_iff_mem, beq_iff_eq]
        exact or_congr_right ⟨fun h => h.symm, fun h => h.symm⟩
      cases g with
      | true =>
        refine (Without_l1 l x hx acc i T h1 h2 hi hacc n (q + 1) true (by omega) (by rw [ht, ← hg]; rfl)).next 0 fun k _ => ?_
        rw [wayzgooseref03_Without.l1, if_pos (by omega), if_pos rfl, ee]
      | false =>
        refine (Without_l1 l x hx acc i T h1 h2 hi hacc n (q + 1) _ (by omega) (by rw [ht, ← hg, Bool.false_or])).next 0 fun k _ => ?_
        rw [wayzgooseref03_Without.l1, if_pos (by omega), if_neg (by decide), if_pos (by omega), ee]
theorem Without_l0 (l : List ByteArray) (x : List Int) (hl : l.length ≤ 1000) (hx : x.length ≤ 1000) : ∀ (n i : Nat), i + n = l.length → Evn (fun k => wayzgooseref03_Without.l0 k l x (lessTo l x i) (i : Int)) (lessAt l x)
  | 0, i, hi => Evn.step 0 fun k _ => by
      rw [wayzgooseref03_Without.l0, if_neg (by omega), show i = l.length by omega]
      rfl
  | n + 1, i, hi => by
      have ih := Without_l0 l x hl hx n (i + 1) (by omega)
      have ee : wrap64 ((i : Int) + 1) = ((i + 1 : Nat) : Int) := by rw [IntWalk.wrap64_in _ (by omega)]; omega
      have hlen := lessTo_len l x i
      refine (Without_l1 l x hx (lessTo l x i) i _ (fun hc => ?_) (fun hc => ?_) (by omega) (by omega) x.length 0 false (by omega) rfl).next 0 fun k _ => ?_
      · rw [ee]
        rw [lessTo_succ, hc] at ih
        simpa using ih
      · rw [ee]
        rw [lessTo_succ, hc] at ih
        have e1 : rdOf ByteArray.empty l (i : Int) = l.getD i ByteArray.empty := by unfold rdOf; rw [Int.toNat_natCast]
        rw [e1]
        exact ih
      · rw [wayzgooseref03_Without.l0, if_pos (by omega)]
        rfl
theorem Without_ev (l : List ByteArray) (x : List Int) (hl : l.length ≤ 1000) (hx : x.length ≤ 1000) : Evn (fun k => wayzgooseref03_Without.f k l x) (lessAt l x) := by
  refine (Without_l0 l x hl hx l.length 0 (by omega)).cast fun k => ?_
  unfold wayzgooseref03_Without.f
  rfl

theorem subsL_none : ∀ (m i k : Nat), m < k → subsL m i k = []
  | 0, _, 0, h => by omega
  | 0, _, _ + 1, _ => by rw [subsL]
  | m + 1, _, 0, h => by omega
  | m + 1, i, k + 1, h => by rw [subsL, subsL_none m (i + 1) k (by omega), subsL_none m (i + 1) (k + 1) (by omega)]; rfl
theorem subsL_len : ∀ (m i k : Nat), (subsL m i k).length ≤ 2 ^ m
  | m, i, 0 => by
    have : subsL m i 0 = [[]] := by cases m <;> rfl
    rw [this]
    exact Nat.one_le_two_pow
  | 0, _, _ + 1 => by rw [subsL]; simp
  | m + 1, i, k + 1 => by
    have h1 := subsL_len m (i + 1) k
    have h2 := subsL_len m (i + 1) (k + 1)
    rw [subsL, List.length_append, List.length_map, Nat.pow_succ]
    omega
theorem subs_l1 (n many : Int) (i : Nat) (rest acc : List (List Int)) (hi : i ≤ 1000) (hr : rest.length ≤ 100000) (ha : acc.length + rest.length ≤ 1000000) (hb : ∀ y ∈ rest, y.length ≤ 1000) (T : List (List Int))
    (h : Evn (fun k => wayzgoosekit_subsets.l0 k n many (acc ++ rest.map ((i : Int) :: ·)) (wrap64 ((i : Int) + 1))) T) :
    ∀ (d q : Nat), q + d = rest.length → Evn (fun k => wayzgoosekit_subsets.l1 k n many (acc ++ (rest.take q).map ((i : Int) :: ·)) (i : Int) rest (q : Int)) T
  | 0, q, hq => by
      rw [List.take_of_length_le (by omega)]
      exact h.next 0 fun k _ => by rw [wayzgoosekit_subsets.l1, if_neg (by omega)]
  | d + 1, q, hq => by
      have ih := subs_l1 n many i rest acc hi hr ha hb T h d (q + 1) (by omega)
      have ee : wrap64 ((q : Int) + 1) = ((q + 1 : Nat) : Int) := by rw [IntWalk.wrap64_in _ (by omega)]; omega
      have er : rd_L3 rest (q : Int) = rest[q]'(by omega) := by unfold rd_L3; rw [Int.toNat_natCast, List.getD_eq_getElem?_getD, List.getElem?_eq_getElem (by omega)]; rfl
      have hl := hb _ (List.getElem_mem (show q < rest.length by omega))
      refine ih.next 0 fun k _ => ?_
      rw [wayzgoosekit_subsets.l1, if_pos (by omega), bind_eq rfl, if_pos (by omega), er, if_pos (by simp; omega), if_pos (by simp; omega), ee, List.take_succ_eq_append_getElem (by omega : q < rest.length), List.map_append, List.map_cons, List.map_nil, List.append_assoc]
      rfl
theorem subs_f : ∀ (j m i : Nat), j ≤ 100 → i + m ≤ 100 → m ≤ 12 → Evn (fun k => wayzgoosekit_subsets.f k (i : Int) ((i + m : Nat) : Int) (j : Int)) (subsL m i j)
  | 0, m, i, _, _, _ => Evn.step 0 fun k _ => by
      rw [wayzgoosekit_subsets.f, if_pos (by simp)]
      cases m <;> rfl
  | j + 1, m, i, hj, hm, hm2 => by
      have loop : ∀ (d i2 : Nat) (acc : List (List Int)), i ≤ i2 → i2 + d = i + m → acc.length + 2 ^ d ≤ 100000 → Evn (fun k => wayzgoosekit_subsets.l0 k ((i + m : Nat) : Int) ((j + 1 : Nat) : Int) acc (i2 : Int)) (acc ++ subsL d i2 (j + 1)) := by
        intro d
        induction d with
        | zero =>
          intro i2 acc hi2 hd _
          refine Evn.step 0 fun k _ => ?_
          rw [wayzgoosekit_subsets.l0, IntWalk.wrap64_in _ (by omega), if_neg (by omega), subsL]
          simp
        | succ d ihd =>
          intro i2 acc hi2 hd hacc
          by_cases hle : j ≤ d
          · have hp := Nat.pow_succ 2 d
            have hlen := subsL_len d (i2 + 1) j
            have ihf := subs_f j d (i2 + 1) (by omega) (by omega) (by omega)
            have ih := ihd (i2 + 1) (acc ++ (subsL d (i2 + 1) j).map ((i2 : Int) :: ·)) (by omega) (by omega) (by simp; omega)
            have ee : wrap64 ((i2 : Int) + 1) = ((i2 + 1 : Nat) : Int) := by rw [IntWalk.wrap64_in _ (by omega)]; omega
            have e2 : wrap64 (((j + 1 : Nat) : Int) - 1) = (j : Int) := by rw [IntWalk.wrap64_in _ (by omega)]; omega
            have hl1 := subs_l1 ((i + m : Nat) : Int) ((j + 1 : Nat) : Int) i2 (subsL d (i2 + 1) j) acc (by omega) (by omega) (by omega) (fun y hy => by
              have := ((mem_subsL d (i2 + 1) j).1 hy).2
              omega) _ (by rw [ee]; exact ih) (subsL d (i2 + 1) j).length 0 (by omega)
            rw [List.take_zero, List.map_nil, List.append_nil] at hl1
            rw [show i2 + 1 + d = i + m by omega] at ihf
            have := Evn.bnd (f := fun k t => wayzgoosekit_subsets.l1 k ((i + m : Nat) : Int) ((j + 1 : Nat) : Int) acc (i2 : Int) t 0) ihf hl1
            rw [subsL, ← List.append_assoc]
            refine this.next 0 fun k _ => ?_
            rw [wayzgoosekit_subsets.l0, IntWalk.wrap64_in ((i2 : Int) + ((j + 1 : Nat) : Int)) (by omega), if_pos (by omega), ee, e2]
          · refine Evn.step 0 fun k _ => ?_
            rw [wayzgoosekit_subsets.l0, IntWalk.wrap64_in _ (by omega), if_neg (by omega), subsL_none _ _ _ (by omega)]
            simp
      have h4 : 2 ^ m ≤ 2 ^ 12 := Nat.pow_le_pow_right (by omega) hm2
      have := loop m i [] (by omega) (by omega) (by simp; omega)
      rw [List.nil_append] at this
      refine this.next 0 fun k _ => ?_
      rw [wayzgoosekit_subsets.f, if_neg (by omega)]
theorem Subsets_ev (n many : Nat) (hn : n ≤ 12) (hm : many ≤ 100) : Evn (fun k => wayzgoosekit_Subsets.f k (n : Int) (many : Int)) (subsL n 0 many) := by
  have := subs_f many n 0 hm (by omega) hn
  rw [Nat.zero_add] at this
  obtain ⟨K, h⟩ := this
  refine ⟨K, fun k hk => ?_⟩
  have h2 : wayzgoosekit_subsets.f k 0 (n : Int) (many : Int) = some (subsL n 0 many) := h k hk
  show wayzgoosekit_Subsets.f k (n : Int) (many : Int) = _
  unfold wayzgoosekit_Subsets.f
  rw [bind_eq h2]
end Go.Proofs.YtapikimhmjnjeaaGreatDoor.Pure
