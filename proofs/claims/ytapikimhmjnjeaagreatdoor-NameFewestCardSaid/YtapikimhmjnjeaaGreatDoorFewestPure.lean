/- NameFewest holds of the printed functions: a plain law. -/
import Derived.Test.YtapikimhmjnjeaaGreatDoorPrLNameFewest
import Derived.Test.YtapikimhmjnjeaaGreatDoorOrdPure
set_option linter.unusedVariables false
set_option linter.unusedSimpArgs false
namespace Go.Proofs.YtapikimhmjnjeaaGreatDoor.Pure
open Go.RowKit Go.Proofs.YtapikimhmjnjeaaGreatDoor Go.Proofs.YtapikimhmjnjeaaGreatDoor.Pr Go.Proofs.YtapikimhmjnjeaaGreatDoorW.PrintWords Go.Proofs.YtapikimhmjnjeaaGreatDoorW.PrintLast

theorem wrong_f {l : List ByteArray} (hl : ∀ s ∈ l, Nm s) (hlen : l.length ≤ 6) : name_Wrong.f l = some ((wrongL l).getD [], 0) := by
  have hz : listedZ l = 0 := by unfold listedZ; rw [if_neg (by omega)]; exact nm_chkL hl
  unfold name_Wrong.f
  rw [if_pos ⟨by omega, fun s hs => Nat.le_trans (hl s hs).le (by decide)⟩]
  unfold wrongF
  rw [if_pos hz]
theorem lessAt_nm {l : List ByteArray} (hl : ∀ s ∈ l, Nm s) (x : List Int) : (∀ s ∈ lessAt l x, Nm s) ∧ (lessAt l x).length ≤ l.length := by
  refine ⟨fun s hs => ?_, lessTo_len l x l.length⟩
  unfold lessAt at hs
  obtain ⟨j, hj, rfl⟩ := List.mem_map.1 hs
  have hj := List.mem_range.1 (List.mem_filter.1 hj).1
  refine hl _ ?_
  rw [List.getD_eq_getElem?_getD, List.getElem?_eq_getElem hj]
  exact List.getElem_mem _

section
variable {l : List ByteArray} (hl : ∀ s ∈ l, Nm s) (hlen : l.length ≤ 6)
include hl hlen

theorem few_l1 (many : Nat) (hm : many ≤ l.length) (hk : ∀ j, j < many → ∀ y ∈ subsL l.length 0 j, okN (lessAt l y) = false)
    (h : (∀ y ∈ subsL l.length 0 many, okN (lessAt l y) = false) → Evn (fun k => wayzgooselaw03_NameFewest.l0 k l ((wrongL l).getD []) 0 (wrap64 ((many : Int) + 1))) true) :
    ∀ (n q : Nat), q + n = (subsL l.length 0 many).length → (∀ y ∈ (subsL l.length 0 many).take q, okN (lessAt l y) = false) →
      Evn (fun k => wayzgooselaw03_NameFewest.l1 k l ((wrongL l).getD []) 0 (many : Int) (subsL l.length 0 many) (q : Int)) true
  | 0, q, hq, hp => by
      rw [List.take_of_length_le (by omega)] at hp
      exact (h hp).next 0 fun k _ => by rw [wayzgooselaw03_NameFewest.l1, if_neg (by omega)]
  | n + 1, q, hq, hp => by
      have hsl := subsL_len l.length 0 many
      have h64 : 2 ^ l.length ≤ 2 ^ 6 := Nat.pow_le_pow_right (by omega) hlen
      have hlt : q < (subsL l.length 0 many).length := by omega
      have er : rd_L3 (subsL l.length 0 many) (q : Int) = (subsL l.length 0 many)[q] := by unfold rd_L3; rw [Int.toNat_natCast, List.getD_eq_getElem?_getD, List.getElem?_eq_getElem hlt]; rfl
      obtain ⟨x, hx⟩ : ∃ x, (subsL l.length 0 many)[q] = x := ⟨_, rfl⟩
      have hmem : x ∈ subsL l.length 0 many := by rw [← hx]; exact List.getElem_mem _
      have hxl := ((mem_subsL _ _ _).1 hmem).2
      obtain ⟨hn, hl2⟩ := lessAt_nm hl x
      obtain ⟨K1, w1⟩ := Without_ev l x (by omega) (by omega)
      obtain ⟨K2, w2⟩ := inOrder_ev hn (by omega)
      rw [hx] at er
      cases hok : okN (lessAt l x) with
      | true =>
        have he : subsL l.length 0 many = (subsL l.length 0 many).take q ++ x :: (subsL l.length 0 many).drop (q + 1) := by
          rw [← hx]
          have := (List.take_append_drop q (subsL l.length 0 many)).symm
          rw [List.drop_eq_getElem_cons hlt] at this
          exact this
        have hw := wrong_first he hok hp hk
        obtain ⟨K3, w3⟩ := EqInts_ev x x (by omega)
        refine Evn.step (K1 + K2 + K3) fun k hk => ?_
        rw [wayzgooselaw03_NameFewest.l1, if_pos (by omega), if_pos (by omega), er, bind_eq (w1 k (by omega)), bind_eq (w2 k (by omega))]
        dsimp only
        rw [if_pos rfl, hok, if_pos rfl, if_pos rfl, hw]
        have e3 := w3 k (by omega)
        rw [decide_eq_true rfl] at e3
        rw [show (some x).getD [] = x from rfl, bind_eq e3, if_pos rfl]
        rfl
      | false =>
        have hp2 : ∀ y ∈ (subsL l.length 0 many).take (q + 1), okN (lessAt l y) = false := fun y hy => by
          rw [List.take_succ_eq_append_getElem hlt, hx] at hy
          rcases List.mem_append.1 hy with hy | hy
          · exact hp y hy
          · rw [List.mem_singleton.1 hy]; exact hok
        refine (few_l1 many hm hk h n (q + 1) (by omega) hp2).next (K1 + K2) fun k hk => ?_
        rw [wayzgooselaw03_NameFewest.l1, if_pos (by omega), if_pos (by omega), er, bind_eq (w1 k (by omega)), bind_eq (w2 k (by omega))]
        dsimp only
        rw [if_pos rfl, hok, if_neg (by decide), IntWalk.wrap64_in _ (by omega)]
        rw [show ((q + 1 : Nat) : Int) = (q : Int) + 1 by omega]

theorem few_l0 : ∀ (n many : Nat), many + n = l.length + 1 → (∀ j, j < many → ∀ y ∈ subsL l.length 0 j, okN (lessAt l y) = false) → Evn (fun k => wayzgooselaw03_NameFewest.l0 k l ((wrongL l).getD []) 0 (many : Int)) true
  | 0, many, hm, hk => by
      exfalso
      obtain ⟨x, hx⟩ := wrongL_some l
      obtain ⟨⟨h1, h2⟩, _⟩ := wrongL_iff.1 hx
      have h3 := h1.length_le
      rw [idxL_len] at h3
      have := hk x.length (by omega) x ((mem_subsL _ _ _).2 ⟨by rw [fromL_zero]; exact h1, rfl⟩)
      rw [h2] at this; cases this
  | n + 1, many, hm, hk => by
      obtain ⟨K, hs⟩ := Subsets_ev l.length many (by omega) (by omega)
      have hl1 := few_l1 hl hlen many (by omega) hk (fun hp => by
        have := few_l0 n (many + 1) (by omega) (fun j hj y hy => by
          by_cases e : j = many
          · subst e; exact hp y hy
          · exact hk j (by omega) y hy)
        rw [IntWalk.wrap64_in _ (by omega)]
        rw [show ((many + 1 : Nat) : Int) = (many : Int) + 1 by omega] at this
        exact this) (subsL l.length 0 many).length 0 (by omega) (by simp)
      refine hl1.next K fun k hk => ?_
      rw [wayzgooselaw03_NameFewest.l0, if_pos (by omega), bind_eq (hs k hk)]
      rfl
end

theorem NameFewest : wayzgooselaw03_NameFewest.Pure := by
  intro l0 hl _ _
  have key : Evn (fun k => wayzgooselaw03_NameFewest.f k l0) true := by
    obtain ⟨l, at2, s2, e2, g2, hn, hn5⟩ := NamesOf_ok (l := l0) hl 40 0 11400714819323198485 6 3 (by omega) (by omega) (by omega) (by omega) (by omega) (by omega)
    obtain ⟨K, h0⟩ := few_l0 hn (by omega) (l.length + 1) 0 (by omega) (fun j hj => by omega)
    refine ⟨K + 40, fun k hk => ?_⟩
    show wayzgooselaw03_NameFewest.f k l0 = some true
    unfold wayzgooselaw03_NameFewest.f wayzgoosekit_NewDice.f
    rw [bind_eq rfl]
    dsimp only
    rw [bind_eq (at_rounds (fun k => wayzgoosekit_NamesOf.mono _ _ _ _ _ k) (by omega : 40 ≤ k) e2)]
    dsimp only
    rw [bind_eq (wrong_f hn (by omega))]
    exact h0 k (by omega)
  exact key.get
end Go.Proofs.YtapikimhmjnjeaaGreatDoor.Pure
