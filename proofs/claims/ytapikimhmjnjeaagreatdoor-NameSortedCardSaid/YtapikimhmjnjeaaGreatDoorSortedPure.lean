/- NameSorted holds of the printed functions: a plain law. -/
import Derived.Test.YtapikimhmjnjeaaGreatDoorPrLNameSorted
import Derived.Test.YtapikimhmjnjeaaGreatDoorOrdPure
import Derived.Test.YtapikimhmjnjeaaGreatDoorSortLaw
import Derived.Test.YtapikimhmjnjeaaGreatDoorIndexEv
/- NameSorted holds of the printed functions: a plain law. -/
set_option linter.unusedVariables false
set_option linter.unusedSimpArgs false
namespace Go.Proofs.YtapikimhmjnjeaaGreatDoor.Pure
open Go.RowKit Go.Proofs.YtapikimhmjnjeaaGreatDoor Go.Proofs.YtapikimhmjnjeaaGreatDoor.Pr Go.Proofs.YtapikimhmjnjeaaGreatDoorW.PrintWords Go.Proofs.YtapikimhmjnjeaaGreatDoorW.PrintLast

theorem nm_listed {l : List ByteArray} (hl : ∀ s ∈ l, Nm s) (hlen : l.length ≤ 6) : listedZ l = 0 := by unfold listedZ; rw [if_neg (by omega)]; exact nm_chkL hl
theorem sort_f {l : List ByteArray} (hl : ∀ s ∈ l, Nm s) (hlen : l.length ≤ 6) : name_Sort.f l = some (sortL l, 0) := by
  unfold name_Sort.f
  rw [if_pos (nm_listed hl hlen)]
theorem wrong_f2 {l : List ByteArray} (hl : ∀ s ∈ l, Nm s) (hlen : l.length ≤ 6) : name_Wrong.f l = some ((wrongL l).getD [], 0) := by
  unfold name_Wrong.f
  rw [if_pos ⟨by omega, fun s hs => Nat.le_trans (hl s hs).le (by decide)⟩]
  unfold wrongF
  rw [if_pos (nm_listed hl hlen)]
theorem place_f {l : List ByteArray} (hl : ∀ s ∈ l, Nm s) (hlen : l.length ≤ 6) (hok : okN l = true) {s : ByteArray} (hs : Nm s) : name_Place.f l s = some ((lessN s l : Int), 0) := by
  unfold name_Place.f
  rw [if_pos ⟨⟨by omega, fun s hs => Nat.le_trans (hl s hs).le (by decide)⟩, Nat.le_trans hs.le (by decide)⟩]
  unfold placeF
  unfold okN at hok
  rw [if_pos (nm_listed hl hlen), if_pos (nm_chk hs), if_pos hok]

theorem rd_sort {l : List ByteArray} (hl : ∀ s ∈ l, Nm s) {i : Nat} (hi : i < l.length) : rd (sortL l) (i : Int) = (sortL l).getD i 0 ∧ 0 ≤ (sortL l).getD i 0 ∧ (sortL l).getD i 0 < l.length := by
  have hi2 : i < (sortL l).length := by rw [sortL_len hl]; exact hi
  refine ⟨by unfold rd; rw [Int.toNat_natCast], (sortL_mem hl).1 ?_⟩
  rw [List.getD_eq_getElem?_getD, List.getElem?_eq_getElem hi2]
  exact List.getElem_mem _
theorem rdS {l : List ByteArray} (hl : ∀ s ∈ l, Nm s) {i : Nat} (hi : i < l.length) : rdOf ByteArray.empty (namesS l) (i : Int) = (namesS l).getD i ByteArray.empty ∧ Nm ((namesS l).getD i ByteArray.empty) :=
  at_nam (namesS_nm hl) (by rw [namesS_len hl]; exact hi)

section
variable {l : List ByteArray} (hl : ∀ s ∈ l, Nm s) (hlen : l.length ≤ 6)
include hl hlen

theorem sorted_l0 (h : Evn (fun k => wayzgooselaw03_NameSorted.l1 k (sortL l) (namesS l) 0) true) : ∀ (n i : Nat), i + n = l.length → Evn (fun k => wayzgooselaw03_NameSorted.l0 k l (sortL l) ((namesS l).take i) (i : Int)) true
  | 0, i, hi => by
      have hsl := sortL_len hl
      rw [List.take_of_length_le (by rw [namesS_len hl]; omega)]
      exact h.next 0 fun k _ => by rw [wayzgooselaw03_NameSorted.l0, if_neg (by omega)]
  | n + 1, i, hi => by
      have hsl := sortL_len hl
      have hil : i < l.length := by omega
      obtain ⟨e1, r0, r1⟩ := rd_sort hl hil
      obtain ⟨q, ⟨K, w⟩, hq⟩ := Index_ev ((sortL l).take i) ((sortL l).getD i 0) (by rw [List.length_take]; omega)
      have hno : ¬ 0 ≤ q := fun h0 => by
        have hm := hq.1 h0
        obtain ⟨j, hj, he⟩ := List.getElem_of_mem hm
        rw [List.length_take] at hj
        rw [List.getElem_take] at he
        have h2 := namesS_lt hl (show j < i by omega) hil
        have e2 : (sortL l).getD j 0 = (sortL l).getD i 0 := by
          rw [← he, List.getD_eq_getElem?_getD, List.getElem?_eq_getElem (by omega)]; rfl
        rw [e2] at h2
        exact ltI_irrefl _ h2
      have et : (namesS l).take (i + 1) = (namesS l).take i ++ [l.getD ((sortL l).getD i 0).toNat ByteArray.empty] := by
        rw [List.take_succ_eq_append_getElem (by rw [namesS_len hl]; exact hil)]
        have := namesS_at hl hil
        rw [List.getD_eq_getElem?_getD, List.getElem?_eq_getElem (by rw [namesS_len hl]; exact hil)] at this
        rw [← this]; rfl
      have ht : ((namesS l).take i).length ≤ 6 := by rw [List.length_take, namesS_len hl]; omega
      have ih := sorted_l0 h n (i + 1) (by omega)
      rw [et] at ih
      refine ih.next K fun k hk => ?_
      rw [wayzgooselaw03_NameSorted.l0, if_pos (by omega), if_pos (by omega), e1, if_neg (by omega), if_neg (by omega), if_pos (by omega), Int.toNat_natCast, bind_eq (w k hk), if_neg (by omega), if_pos r0, if_pos r1, if_pos (by omega), IntWalk.wrap64_in _ (by omega)]
      rw [show ((i + 1 : Nat) : Int) = (i : Int) + 1 by omega]
      rfl

theorem sorted_l2 (i : Nat) (hi : i < l.length) (h : Evn (fun k => wayzgooselaw03_NameSorted.l1 k (sortL l) (namesS l) ((i : Int) + 1)) true) : ∀ (f : Nat), f ≤ i → (∀ q, f ≤ q → q ≤ i → (namesS l).getD q ByteArray.empty = (namesS l).getD i ByteArray.empty) → Evn (fun k => wayzgooselaw03_NameSorted.l2 k (sortL l) (namesS l) (i : Int) (f : Int)) true := by
  have hnl := namesS_len hl
  have hok := okN_namesS hl
  obtain ⟨er, hn⟩ := rdS hl hi
  have hp := place_f (namesS_nm hl) (by omega) hok hn
  have hs0 : ∀ q, i ≤ q → q < (namesS l).length → ¬ cmpN ((namesS l).getD q ByteArray.empty) ((namesS l).getD i ByteArray.empty) < 0 := fun q hq hql => namesS_le hl hq (by omega)
  intro f
  induction f with
  | zero =>
    intro hf hall
    have e1 : lessN ((namesS l).getD i ByteArray.empty) (namesS l) = 0 := lessN_split _ _ 0 (fun q hq => by omega) (fun q _ hql => by
      by_cases c : q ≤ i
      · rw [hall q (by omega) c]; exact cmpN_irrefl _
      · exact hs0 q (by omega) hql) (by omega)
    rw [e1] at hp
    refine h.next 0 fun k _ => ?_
    rw [wayzgooselaw03_NameSorted.l2, if_neg (by omega), if_pos (by omega), if_pos (by omega), er, bind_eq hp]
    dsimp only
    rw [if_pos rfl, if_pos rfl, IntWalk.wrap64_in _ (by omega)]
  | succ f ih =>
    intro hf hall
    obtain ⟨ef, hnf⟩ := rdS hl (show f < l.length by omega)
    have ew : wrap64 (((f + 1 : Nat) : Int) - 1) = (f : Int) := by rw [IntWalk.wrap64_in _ (by omega)]; omega
    by_cases c : (namesS l).getD f ByteArray.empty = (namesS l).getD i ByteArray.empty
    · refine (ih (by omega) (fun q hq hqi => ?_)).next 0 fun k _ => ?_
      · by_cases e : q = f
        · subst e; exact c
        · exact hall q (by omega) hqi
      · rw [wayzgooselaw03_NameSorted.l2, if_pos (by omega), ew, if_pos (by omega), if_pos (by omega), if_pos (by omega), if_pos (by omega), ef, er, if_pos (by rw [c])]
    · have e1 : lessN ((namesS l).getD i ByteArray.empty) (namesS l) = f + 1 := lessN_split _ _ (f + 1) (fun q hq => by
        obtain ⟨_, hnq⟩ := rdS hl (show q < l.length by omega)
        have h1 := namesS_le hl (show q ≤ i by omega) hi
        have h2 := namesS_le hl (show q ≤ f by omega) (show f < l.length by omega)
        have h3 := namesS_le hl (show f ≤ i by omega) hi
        have n1 := cmpN_neg ((namesS l).getD q ByteArray.empty) ((namesS l).getD i ByteArray.empty)
        have n3 := cmpN_neg ((namesS l).getD f ByteArray.empty) ((namesS l).getD i ByteArray.empty)
        by_cases e : cmpN ((namesS l).getD q ByteArray.empty) ((namesS l).getD i ByteArray.empty) = 0
        · exfalso
          rw [cmpN_zero hnq hn] at e
          rw [e] at h2
          exact c ((cmpN_zero hnf hn).1 (by omega))
        · omega) (fun q hq hql => by
        by_cases c2 : q ≤ i
        · rw [hall q (by omega) c2]; exact cmpN_irrefl _
        · exact hs0 q (by omega) hql) (by omega)
      rw [e1] at hp
      refine h.next 0 fun k _ => ?_
      rw [wayzgooselaw03_NameSorted.l2, if_pos (by omega), ew, if_pos (by omega), if_pos (by omega), if_pos (by omega), if_pos (by omega), ef, er, if_neg (fun h => c (tl_inj h)), bind_eq hp]
      dsimp only
      rw [if_pos rfl, if_pos rfl, IntWalk.wrap64_in _ (by omega)]

theorem sorted_l1 : ∀ (n i : Nat), i + n = l.length → Evn (fun k => wayzgooselaw03_NameSorted.l1 k (sortL l) (namesS l) (i : Int)) true
  | 0, i, hi => by
      have hnl := namesS_len hl
      have hw := wrong_f2 (namesS_nm hl) (by omega)
      rw [wrongL_ok (okN_namesS hl)] at hw
      refine Evn.step 0 fun k _ => ?_
      rw [wayzgooselaw03_NameSorted.l1, if_neg (by omega), bind_eq hw]
      dsimp only
      rw [if_pos rfl, if_pos (show (((some ([] : List Int)).getD []).length : Int) = 0 from rfl), bind_eq spelling_ok]
  | n + 1, i, hi => by
      have hnl := namesS_len hl
      have hsl := sortL_len hl
      have hil : i < l.length := by omega
      have ih := sorted_l1 n (i + 1) (by omega)
      rw [show ((i + 1 : Nat) : Int) = (i : Int) + 1 by omega] at ih
      have h2 := sorted_l2 hl hlen i hil ih i (Nat.le_refl _) (fun q h1 h2 => by rw [show q = i by omega])
      have h3 : Evn (fun k => wayzgooselaw03_NameSorted.j3 k (sortL l) (namesS l) (i : Int)) true := h2.next 0 fun k _ => by rw [wayzgooselaw03_NameSorted.j3]
      cases i with
      | zero => exact h3.next 0 fun k _ => by rw [wayzgooselaw03_NameSorted.l1, if_pos (by omega), if_neg (by omega)]
      | succ j =>
        obtain ⟨ej, hnj⟩ := rdS hl (show j < l.length by omega)
        obtain ⟨ei, hni⟩ := rdS hl hil
        obtain ⟨rj, _, _⟩ := rd_sort hl (show j < l.length by omega)
        obtain ⟨ri, _, _⟩ := rd_sort hl hil
        have ew : wrap64 (((j + 1 : Nat) : Int) - 1) = (j : Int) := by rw [IntWalk.wrap64_in _ (by omega)]; omega
        have hle := namesS_le hl (show j ≤ j + 1 by omega) hil
        have hlt := namesS_lt hl (show j < j + 1 by omega) hil
        have hng := cmpN_neg ((namesS l).getD j ByteArray.empty) ((namesS l).getD (j + 1) ByteArray.empty)
        refine h3.next 3 fun k hk => ?_
        rw [wayzgooselaw03_NameSorted.l1, if_pos (by omega), if_pos (by omega), ew, if_pos (by omega), if_pos (by omega), if_pos (by omega), ej, ei, bind_eq (Compare_f hnj hni k hk)]
        dsimp only
        rw [if_pos rfl, if_neg (by omega)]
        by_cases c : cmpN ((namesS l).getD j ByteArray.empty) ((namesS l).getD (j + 1) ByteArray.empty) = 0
        · have h5 : (sortL l).getD j 0 < (sortL l).getD (j + 1) 0 := by
            rcases hlt with h5 | ⟨_, h5⟩
            · exfalso
              unfold cmpI at h5
              rw [← namesS_at hl (show j < l.length by omega), ← namesS_at hl hil] at h5
              omega
            · exact h5
          rw [if_pos c, if_pos (by omega), if_pos (by omega), rj, ri, if_neg (by omega)]
        · rw [if_neg c]
end

theorem NameSorted : wayzgooselaw03_NameSorted.Pure := by
  intro l0 hl0 _ _
  have key : Evn (fun k => wayzgooselaw03_NameSorted.f k l0) true := by
    obtain ⟨l, at2, s2, e2, g2, hn, hn6⟩ := NamesOf_ok (l := l0) hl0 40 0 11400714819323198485 6 3 (by omega) (by omega) (by omega) (by omega) (by omega) (by omega)
    have hlen : l.length ≤ 6 := by omega
    have h0 := sorted_l0 hn hlen (sorted_l1 hn hlen l.length 0 (by omega)) l.length 0 (by omega)
    have h1 : Evn (fun k => wayzgooselaw03_NameSorted.j0 k l (sortL l) false) true := h0.next 0 fun k _ => by rw [wayzgooselaw03_NameSorted.j0, if_neg (by decide)]; rfl
    obtain ⟨K, w0⟩ := h1
    refine ⟨K + 40, fun k hk => ?_⟩
    show wayzgooselaw03_NameSorted.f k l0 = some true
    unfold wayzgooselaw03_NameSorted.f wayzgoosekit_NewDice.f
    rw [bind_eq rfl]
    dsimp only
    rw [bind_eq (at_rounds (fun k => wayzgoosekit_NamesOf.mono _ _ _ _ _ k) (by omega : 40 ≤ k) e2)]
    dsimp only
    rw [bind_eq (sort_f hn hlen)]
    dsimp only
    have e3 : (((sortL l).length : Int) != (l.length : Int)) = false := by rw [sortL_len hn]; simp
    rw [if_pos rfl, e3]
    exact w0 k (by omega)
  exact key.get
end Go.Proofs.YtapikimhmjnjeaaGreatDoor.Pure

