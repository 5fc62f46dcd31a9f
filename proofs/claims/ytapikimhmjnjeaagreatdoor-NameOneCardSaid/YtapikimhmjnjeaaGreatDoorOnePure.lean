/- NameOne holds of the printed functions: a plain law. -/
import Derived.Test.YtapikimhmjnjeaaGreatDoorPrLNameOne
import Derived.Test.YtapikimhmjnjeaaGreatDoorOtherPure
set_option linter.unusedVariables false
set_option linter.unusedSimpArgs false
namespace Go.Proofs.YtapikimhmjnjeaaGreatDoor.Pure
open Go.RowKit Go.Proofs.YtapikimhmjnjeaaGreatDoor Go.Proofs.YtapikimhmjnjeaaGreatDoor.Pr Go.Proofs.YtapikimhmjnjeaaGreatDoorW.PrintWords Go.Proofs.YtapikimhmjnjeaaGreatDoorW.PrintLast

theorem tl_ne (a b : ByteArray) : (a.toList != b.toList) = !decide (a = b) := by
  rw [bne, tl_beq]
theorem keys_at {l : List ByteArray} {i : Nat} (h : i < l.length) : (l.map keyB).getD i ByteArray.empty = keyB (l.getD i ByteArray.empty) := by
  rw [List.getD_eq_getElem?_getD, List.getD_eq_getElem?_getD, List.getElem?_map, List.getElem?_eq_getElem h]
  rfl

section
variable {l : List ByteArray} (hl : ∀ s ∈ l, Nm s) (hlen : l.length ≤ 6)
include hl hlen

theorem one_l2 (i : Nat) (hi : i < l.length) (h : Evn (fun k => wayzgooselaw03_NameOne.l1 k l (l.map keyB) (wrap64 ((i : Int) + 1))) true) : ∀ (n m : Nat), m + n = i → Evn (fun k => wayzgooselaw03_NameOne.l2 k l (l.map keyB) (i : Int) (m : Int)) true
  | 0, m, hm => h.next 0 fun k _ => by rw [wayzgooselaw03_NameOne.l2, if_neg (by omega)]
  | n + 1, m, hm => by
      have ih := one_l2 i hi h n (m + 1) (by omega)
      have ee : wrap64 ((m : Int) + 1) = ((m + 1 : Nat) : Int) := by rw [IntWalk.wrap64_in _ (by omega)]; omega
      obtain ⟨ei, ni⟩ := at_name hl hi
      obtain ⟨em, nm⟩ := at_name hl (i := m) (by omega)
      have ki : rdOf ByteArray.empty (l.map keyB) (i : Int) = keyB (l.getD i ByteArray.empty) := by unfold rdOf; rw [Int.toNat_natCast, keys_at hi]
      have km : rdOf ByteArray.empty (l.map keyB) (m : Int) = keyB (l.getD m ByteArray.empty) := by unfold rdOf; rw [Int.toNat_natCast, keys_at (by omega)]
      have hml : (l.map keyB).length = l.length := by simp
      refine ih.next 0 fun k _ => ?_
      rw [wayzgooselaw03_NameOne.l2, if_pos (by omega), if_pos (by omega), if_pos (by omega), if_pos (by omega), if_pos (by omega), ki, km, ee]
      by_cases hk : keyB (l.getD i ByteArray.empty) = keyB (l.getD m ByteArray.empty)
      · rw [if_pos (by rw [hk]), if_pos (by omega), ei, bind_eq (Latin_f ni), if_pos (by omega), em, bind_eq (Latin_f nm)]
        split
        · rename_i hs
          have hs2 : (scriptZ (l.getD i ByteArray.empty) = 1) ↔ (scriptZ (l.getD m ByteArray.empty) = 1) := by
            have := beq_iff_eq.1 hs
            exact decide_eq_decide.1 this
          have he : l.getD i ByteArray.empty = l.getD m ByteArray.empty := by
            rcases script_val ni with ⟨a1, a2⟩ | ⟨a1, a2⟩ <;> rcases script_val nm with ⟨b1, b2⟩ | ⟨b1, b2⟩
            · rw [keyB_lat a2, keyB_lat b2] at hk; exact hk
            · have := hs2.1 a1; omega
            · have := hs2.2 b1; omega
            · exact keyB_inj a2 b2 hk
          rw [if_pos (by rw [he])]
        · rfl
      · rw [if_neg (fun h => hk (tl_inj h))]
theorem one_l1 : ∀ (n i : Nat), i + n = l.length → Evn (fun k => wayzgooselaw03_NameOne.l1 k l (l.map keyB) (i : Int)) true
  | 0, i, hi => Evn.step 0 fun k _ => by rw [wayzgooselaw03_NameOne.l1, if_neg (by omega)]; rfl
  | n + 1, i, hi => by
      have ih := one_l1 n (i + 1) (by omega)
      refine (one_l2 hl hlen i (by omega) ?_ i 0 (by omega)).next 0 fun k _ => ?_
      · rw [IntWalk.wrap64_in _ (by omega)]
        rw [show ((i + 1 : Nat) : Int) = (i : Int) + 1 by omega] at ih
        exact ih
      · rw [wayzgooselaw03_NameOne.l1, if_pos (by omega)]
        rfl
theorem one_l0 : ∀ (n i : Nat), i + n = l.length → Evn (fun k => wayzgooselaw03_NameOne.l0 k l ((l.take i).map keyB) (i : Int)) true
  | 0, i, hi => by
      rw [List.take_of_length_le (by omega)]
      exact (one_l1 hl hlen l.length 0 (by omega)).next 0 fun k _ => by rw [wayzgooselaw03_NameOne.l0, if_neg (by omega)]; rfl
  | n + 1, i, hi => by
      have ih := one_l0 n (i + 1) (by omega)
      have ee : wrap64 ((i : Int) + 1) = ((i + 1 : Nat) : Int) := by rw [IntWalk.wrap64_in _ (by omega)]; omega
      obtain ⟨ei, ni⟩ := at_name hl (i := i) (by omega)
      have et : (l.take (i + 1)).map keyB = (l.take i).map keyB ++ [keyB (l.getD i ByteArray.empty)] := by
        rw [List.take_succ_eq_append_getElem (by omega : i < l.length), List.map_append, List.getD_eq_getElem?_getD, List.getElem?_eq_getElem (by omega)]
        rfl
      have htl : ((l.take i).map keyB).length < 8796093022208 := by rw [List.length_map, List.length_take]; omega
      rw [et] at ih
      have fin : Evn (fun k => wayzgooselaw03_NameOne.j1 k l ((l.take i).map keyB) (i : Int) (keyB (l.getD i ByteArray.empty)) (match otherN (l.getD i ByteArray.empty) with | some o => (o, (0 : Int)) | none => (⟨#[]⟩, 11)).1 (match otherN (l.getD i ByteArray.empty) with | some o => (o, (0 : Int)) | none => (⟨#[]⟩, 11)).2 false) true := by
        cases ho : otherN (l.getD i ByteArray.empty) with
        | none =>
          refine ih.next 0 fun k _ => ?_
          rw [wayzgooselaw03_NameOne.j1, if_neg (by decide), if_pos htl, bind_eq rfl, if_neg (by dsimp only; decide), ee]
        | some o =>
          obtain ⟨no, hk, h2⟩ := other_some ni ho
          have hos := other_self h2
          have hz := no.pos
          have hsc : ¬ scriptZ o = 1 := fun h => by
            have h3 := (script_one no).1 h
            obtain ⟨b, l', hd, _⟩ := first_byte o no.pos
            have a1 := h2 b (by rw [hd]; exact List.mem_cons_self ..)
            have a2 := h3 b (by rw [hd]; exact List.mem_cons_self ..)
            omega
          refine ih.next 0 fun k _ => ?_
          rw [wayzgooselaw03_NameOne.j1, if_neg (by decide), if_pos htl, bind_eq rfl]
          dsimp only
          rw [if_pos rfl, bind_eq (Key_f no), bind_eq (Other_f no), hos]
          dsimp only
          rw [if_pos rfl, if_pos rfl, if_pos (by rw [hk]), if_pos rfl, if_neg (by omega), bind_eq (Latin_f no), decide_eq_false hsc, if_neg (by decide), ee]
      obtain ⟨K, hf⟩ := fin
      refine Evn.step K fun k hk => ?_
      rw [wayzgooselaw03_NameOne.l0, if_pos (by omega), if_pos (by omega), ei, bind_eq (Key_f ni), bind_eq (Other_f ni)]
      dsimp only
      rw [if_pos rfl]
      have hf := hf k hk
      cases ho : otherN (l.getD i ByteArray.empty) with
      | none =>
        rw [ho] at hf
        dsimp only at hf ⊢
        rw [if_neg (by decide), if_pos rfl, bind_eq (Latin_f ni)]
        by_cases hs : scriptZ (l.getD i ByteArray.empty) = 1
        · rw [decide_eq_true hs, if_pos rfl]
          exact hf
        · exfalso
          rcases script_val ni with ⟨a1, _⟩ | ⟨_, a2⟩
          · exact hs a1
          · rw [other_self a2] at ho; cases ho
      | some o =>
        rw [ho] at hf
        dsimp only at hf ⊢
        rw [if_pos rfl, bind_eq (Latin_f ni)]
        by_cases hs : scriptZ (l.getD i ByteArray.empty) = 1
        · rw [decide_eq_true hs, if_pos rfl]
          exact hf
        · rw [decide_eq_false hs, if_neg (by decide), tl_ne]
          have : o = l.getD i ByteArray.empty := by
            rcases script_val ni with ⟨a1, _⟩ | ⟨_, a2⟩
            · exact absurd a1 hs
            · rw [other_self a2] at ho; exact (Option.some.inj ho).symm
          rw [decide_eq_true this]
          exact hf
end

theorem NameOne : wayzgooselaw03_NameOne.Pure := by
  intro l0 hl _ _
  have key : Evn (fun k => wayzgooselaw03_NameOne.f k l0) true := by
    obtain ⟨a, at1, s1, e1, g1, ha, _⟩ := NameOf_ok (l := l0) hl 40 0 11400714819323198485 4 (by omega) (by omega) (by omega) (by omega)
    obtain ⟨b, at2, s2, e2, g2, hb, _⟩ := NameOf_ok (l := l0) hl 40 at1 s1 4 (by omega) g1 (by omega) (by omega)
    obtain ⟨c, at3, s3, e3, g3, hc, _⟩ := NameOf_ok (l := l0) hl 40 at2 s2 6 (by omega) g2 (by omega) (by omega)
    have hn : ∀ s ∈ [a, b, c], Nm s := fun s hs => by
      rcases List.mem_cons.1 hs with rfl | hs
      · exact ha
      · rcases List.mem_cons.1 hs with rfl | hs
        · exact hb
        · obtain rfl := List.mem_singleton.1 hs; exact hc
    obtain ⟨K, h0⟩ := one_l0 hn (by simp) 3 0 (by simp)
    refine ⟨K + 40, fun k hk => ?_⟩
    show wayzgooselaw03_NameOne.f k l0 = some true
    unfold wayzgooselaw03_NameOne.f wayzgoosekit_NewDice.f
    have m : ∀ (x y z : Int) (r : ByteArray × Int × Int), wayzgoosekit_NameOf.f 40 l0 x y z = some r → wayzgoosekit_NameOf.f k l0 x y z = some r := fun x y z r h => at_rounds (fun k => wayzgoosekit_NameOf.mono _ _ _ _ k) (by omega : 40 ≤ k) h
    rw [bind_eq rfl]
    dsimp only
    rw [bind_eq (m _ _ _ _ e1)]
    dsimp only
    rw [bind_eq (m _ _ _ _ e2)]
    dsimp only
    rw [bind_eq (m _ _ _ _ e3)]
    exact h0 k (by omega)
  exact key.get
end Go.Proofs.YtapikimhmjnjeaaGreatDoor.Pure
