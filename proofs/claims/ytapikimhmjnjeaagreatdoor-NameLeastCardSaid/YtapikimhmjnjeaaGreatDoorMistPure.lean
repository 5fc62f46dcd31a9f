/- What the laws' mistaken says of an abbreviation and a name of a list: plain laws. -/
import Derived.Test.YtapikimhmjnjeaaGreatDoorRefPure
import Derived.Test.YtapikimhmjnjeaaGreatDoorPrExtStd
import Derived.Test.YtapikimhmjnjeaaGreatDoorCutLaw
import Derived.Test.YtapikimhmjnjeaaGreatDoorRefLaw
import Derived.Test.YtapikimhmjnjeaaGreatDoorPr14
/- What the laws' mistaken says of an abbreviation and a name of a list: plain laws. -/
set_option linter.unusedVariables false
set_option linter.unusedSimpArgs false
namespace Go.Proofs.YtapikimhmjnjeaaGreatDoor.Pure
open Go.RowKit Go.Proofs.YtapikimhmjnjeaaGreatDoor Go.Proofs.YtapikimhmjnjeaaGreatDoor.Pr Go.Proofs.YtapikimhmjnjeaaGreatDoorW.PrintWords Go.Proofs.YtapikimhmjnjeaaGreatDoorW.PrintLast

theorem mem_standI {a : ByteArray} {l : List ByteArray} {x : Int} : ∀ {n : Nat}, x ∈ standI a l n ↔ ∃ i : Nat, i < n ∧ x = (i : Int) ∧ standsB a (keyB (l.getD i ByteArray.empty)) = true
  | 0 => by simp [standI]
  | n + 1 => by
    rw [standI_succ, List.mem_append, mem_standI]
    constructor
    · rintro (⟨i, h1, h2, h3⟩ | h)
      · exact ⟨i, by omega, h2, h3⟩
      · split at h
        · rename_i h4
          exact ⟨n, by omega, by simpa using h, h4⟩
        · simp at h
    · rintro ⟨i, h1, h2, h3⟩
      by_cases e : i = n
      · subst e
        right
        rw [if_pos h3, h2]
        simp
      · exact .inl ⟨i, by omega, h2, h3⟩

theorem Stands_f {s : ByteArray} (hd : isDot s = true) (hs : s.size ≤ 1000) {l : List ByteArray} (hl : ∀ s ∈ l, Nm s) (hlen : l.length ≤ 6) : name_Stands.f s l = some (standI (cutDot s) l l.length, 0) := by
  have hz : listedZ l = 0 := by unfold listedZ; rw [if_neg (by omega)]; exact nm_chkL hl
  unfold name_Stands.f
  rw [if_pos ⟨⟨by omega, hd⟩, by omega, fun s hs => Nat.le_trans (hl s hs).le (by decide)⟩]
  unfold standF
  rw [if_pos hd, if_pos hz]

section
variable {l : List ByteArray} (hl : ∀ s ∈ l, Nm s) (hlen : l.length ≤ 6)
include hl hlen

omit hlen in
theorem mist_l0 (own : ByteArray) (at_ : Nat) (x : List Int) (hx : x.length ≤ 6) (hm : ∀ y ∈ x, ∃ i : Nat, i < l.length ∧ y = (i : Int)) : ∀ (n i : Nat) (met oth : Bool), i + n = x.length →
    Evn (fun k => wayzgooselaw03_mistaken.l0 k l (at_ : Int) x own 0 met oth (i : Int))
      ((if (met || (x.drop i).any fun y => y == (at_ : Int)) = true then (oth || (x.drop i).any fun y => !decide (keyB (l.getD y.toNat ByteArray.empty) = own)) else true), true)
  | 0, i, met, oth, hi => Evn.step 0 fun k _ => by
      rw [wayzgooselaw03_mistaken.l0, if_neg (by omega), List.drop_of_length_le (by omega)]
      cases met <;> cases oth <;> rfl
  | n + 1, i, met, oth, hi => by
      have hlt : i < x.length := by omega
      have ed : x.drop i = x[i] :: x.drop (i + 1) := List.drop_eq_getElem_cons hlt
      obtain ⟨j, hj, ej⟩ := hm x[i] (List.getElem_mem _)
      have er : rd x (i : Int) = (j : Int) := by unfold rd; rw [Int.toNat_natCast, List.getD_eq_getElem?_getD, List.getElem?_eq_getElem hlt, ← ej]; rfl
      obtain ⟨el, hn⟩ := at_name hl hj
      have ih := mist_l0 own at_ x hx hm n (i + 1) (met || ((j : Int) == (at_ : Int))) (oth || !decide (keyB (l.getD j ByteArray.empty) = own)) (by omega)
      have e1 : wrap64 ((i : Int) + 1) = ((i + 1 : Nat) : Int) := by rw [IntWalk.wrap64_in _ (by omega)]; omega
      have step : Evn (fun k => wayzgooselaw03_mistaken.j2 k l (at_ : Int) x own 0 met oth (i : Int) false)
          ((if (met || (x.drop i).any fun y => y == (at_ : Int)) = true then (oth || (x.drop i).any fun y => !decide (keyB (l.getD y.toNat ByteArray.empty) = own)) else true), true) := by
        rw [ed, ej, List.any_cons, List.any_cons, Int.toNat_natCast, ← Bool.or_assoc, ← Bool.or_assoc]
        refine ih.next 0 fun k _ => ?_
        rw [wayzgooselaw03_mistaken.j2, if_neg (by decide), if_pos (by omega), if_pos (by omega), er, if_pos (by omega), if_pos (by omega), el, bind_eq (Key_f hn), if_pos rfl, e1]
        have eb : ((keyB (l.getD j ByteArray.empty)).toList != own.toList) = !decide (keyB (l.getD j ByteArray.empty) = own) := by rw [bne, tl_beq]
        cases met <;> cases oth <;> simp only [eb, if_true, Bool.false_or, Bool.true_or] <;> rfl
      refine step.next 0 fun k _ => ?_
      rw [wayzgooselaw03_mistaken.l0, if_pos (by omega), if_pos (by omega), er, if_neg (by omega), decide_eq_false (by omega)]

/-- mistaken tells whether the letters are fine for the name's key. -/
theorem mistaken_ev {s : ByteArray} (hd : isDot s = true) (hs : s.size ≤ 1000) {at_ : Nat} (hat : at_ < l.length) : ∃ b, Evn (fun k => wayzgooselaw03_mistaken.f k s l (at_ : Int)) (b, true) ∧ (b = false ↔ Fine l (keyB (l.getD at_ ByteArray.empty)) (cutDot s)) := by
  have hp := isDot_pos hd
  obtain ⟨el, hn⟩ := at_name hl hat
  have hsl := standI_len (cutDot s) l l.length
  have h0 := mist_l0 hl (keyB (l.getD at_ ByteArray.empty)) at_ (standI (cutDot s) l l.length) (by omega) (fun y hy => by obtain ⟨i, h1, h2, _⟩ := mem_standI.1 hy; exact ⟨i, h1, h2⟩)
    (standI (cutDot s) l l.length).length 0 false false (by omega)
  rw [List.drop_zero, Bool.false_or, Bool.false_or] at h0
  obtain ⟨b, hb⟩ : ∃ b, (if ((standI (cutDot s) l l.length).any fun y => y == (at_ : Int)) = true then (standI (cutDot s) l l.length).any fun y => !decide (keyB (l.getD y.toNat ByteArray.empty) = keyB (l.getD at_ ByteArray.empty)) else true) = b := ⟨_, rfl⟩
  rw [hb] at h0
  refine ⟨b, ?_, ?_⟩
  · obtain ⟨K, h0⟩ := h0
    refine ⟨K + 1, fun k hk => ?_⟩
    show wayzgooselaw03_mistaken.f k s l (at_ : Int) = _
    unfold wayzgooselaw03_mistaken.f
    obtain ⟨k, rfl⟩ : ∃ k', k = k' + 1 := ⟨k - 1, by omega⟩
    rw [bind_eq (Stands_f hd hs hl hlen), if_pos rfl, decide_eq_false (by dsimp only; omega), wayzgooselaw03_mistaken.j0, if_neg (by decide), if_pos (by omega), if_pos (by omega), el, bind_eq (Key_f hn)]
    exact h0 k (by omega)
  · rw [← hb]
    unfold Fine
    constructor
    · intro h
      split at h
      · rename_i hm
        rw [List.any_eq_false] at h
        obtain ⟨y, hy, hy2⟩ := List.any_eq_true.1 hm
        obtain ⟨i, h1, h2, h3⟩ := mem_standI.1 hy
        have : i = at_ := by have := beq_iff_eq.1 hy2; omega
        subst this
        refine ⟨(standsB_iff hp).1 h3, fun x hx hne ha => ?_⟩
        obtain ⟨j, hj, ej⟩ := List.getElem_of_mem hx
        have eg : l.getD j ByteArray.empty = x := by rw [List.getD_eq_getElem?_getD, List.getElem?_eq_getElem hj, ← ej]; rfl
        have := h (j : Int) (mem_standI.2 ⟨j, hj, rfl, by rw [eg]; exact (standsB_iff hp).2 ha⟩)
        rw [Int.toNat_natCast, eg, decide_eq_false hne] at this
        exact this rfl
      · cases h
    · rintro ⟨h1, h2⟩
      rw [if_pos (List.any_eq_true.2 ⟨(at_ : Int), mem_standI.2 ⟨at_, hat, rfl, (standsB_iff hp).2 h1⟩, by simp⟩), List.any_eq_false]
      intro y hy
      obtain ⟨i, hi, rfl, h3⟩ := mem_standI.1 hy
      rw [Int.toNat_natCast]
      by_cases e : keyB (l.getD i ByteArray.empty) = keyB (l.getD at_ ByteArray.empty)
      · rw [decide_eq_true e]; decide
      · have hm : l.getD i ByteArray.empty ∈ l := by rw [List.getD_eq_getElem?_getD, List.getElem?_eq_getElem hi]; exact List.getElem_mem _
        exact absurd ((standsB_iff hp).1 h3) (h2 _ hm e)
end

theorem cutDot_dotted (t : ByteArray) : cutDot (dotted t) = t := by
  refine ba_ext ?_
  have e : (dotted t).data.toList = t.data.toList ++ [46] := by unfold dotted; rw [ba_app]
  show (Lib.trimSuffix (dotted t).data.toList [46]).toArray.toList = _
  rw [e, List.toList_toArray]
  unfold Lib.trimSuffix Lib.hasSuffix
  simp
theorem isDot_dotted {t : ByteArray} (h : lettersB t 1 12 = true) : isDot (dotted t) = true := by
  unfold isDot
  rw [cutDot_dotted, h]
  have e : (dotted t).data.toList = t.data.toList ++ [46] := by unfold dotted; rw [ba_app]
  rw [e]
  unfold Lib.hasSuffix
  simp
theorem dotted_size (t : ByteArray) : (dotted t).size = t.size + 1 := by unfold dotted; rw [ByteArray.size_append]; rfl
theorem abbr_letters {t k : ByteArray} (h : Abbr t k) (hk : lettersB k 1 12 = true) : lettersB t 1 12 = true := by
  have h1 := h.pos
  have h2 := h.lt
  rw [letters_iff] at hk ⊢
  refine ⟨⟨by omega, by omega⟩, ?_⟩
  obtain ⟨c, u, v, e1, e2, e3, _⟩ := h
  have e4 := hk.2
  rw [e2] at e4
  rw [e1]
  unfold latL at e4 ⊢
  rw [List.all_cons, Bool.and_eq_true] at e4 ⊢
  exact ⟨e4.1, List.all_eq_true.2 fun x hx => List.all_eq_true.1 e4.2 x (e3.subset hx)⟩
end Go.Proofs.YtapikimhmjnjeaaGreatDoor.Pure

