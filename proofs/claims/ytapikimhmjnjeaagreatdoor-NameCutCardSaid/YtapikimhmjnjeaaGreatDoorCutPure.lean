/- NameCut holds of the printed functions: a plain law. -/
import Derived.Test.YtapikimhmjnjeaaGreatDoorPrLNameCut
import Derived.Test.YtapikimhmjnjeaaGreatDoorMistPure
import Derived.Test.YtapikimhmjnjeaaGreatDoorPrExtCmp
/- NameCut holds of the printed functions: a plain law. -/
set_option linter.unusedVariables false
set_option linter.unusedSimpArgs false
namespace Go.Proofs.YtapikimhmjnjeaaGreatDoor.Pure
open Go.RowKit Go.Proofs.YtapikimhmjnjeaaGreatDoor Go.Proofs.YtapikimhmjnjeaaGreatDoor.Pr Go.Proofs.YtapikimhmjnjeaaGreatDoorW.PrintWords Go.Proofs.YtapikimhmjnjeaaGreatDoorW.PrintLast

/-- Letters of a key, its first one among them, in its order. -/
def Some (t k : ByteArray) : Prop := ∃ (c : UInt8) (r u : L), t.data.toList = c :: r ∧ k.data.toList = c :: u ∧ r.Sublist u

theorem ShortOf_l0 {l : List Int} (hl : Lst l) {key : ByteArray} (hk : key.size ≤ 1000) (c : UInt8) (u : L) (hu : key.data.toList = c :: u) : ∀ (n k i : Nat) (s : ByteArray) (at_ sd : Int), i + n = key.size → n < k → 0 ≤ at_ → 1 ≤ i → (∃ r, s.data.toList = c :: r ∧ r.Sublist (u.take (i - 1))) →
    ∃ t at2 s2, wayzgoosekit_ShortOf.l0 k key s (i : Int) l at_ sd = some (dotted t, at2, s2) ∧ 0 ≤ at2 ∧ Some t key
  | 0, k, i, s, at_, sd, hi, hkk, ha, h1, ⟨r, hr, hs⟩ => by
      obtain ⟨k, rfl⟩ : ∃ k', k = k' + 1 := ⟨k - 1, by omega⟩
      have hlen := ba_len key
      have hsl := hs.length_le
      have hsz := ba_len s
      rw [hu, List.length_cons] at hlen
      rw [hr, List.length_cons] at hsz
      rw [List.length_take] at hsl
      refine ⟨s, at_, sd, ?_, ha, c, r, u, hr, hu, hs.trans (List.take_sublist _ _)⟩
      rw [wayzgoosekit_ShortOf.l0, if_neg (by omega), if_pos (by omega)]
      rfl
  | n + 1, k, i, s, at_, sd, hi, hkk, ha, h1, ⟨r, hr, hs⟩ => by
      obtain ⟨k, rfl⟩ : ∃ k', k = k' + 1 := ⟨k - 1, by omega⟩
      have hlen := ba_len key
      have hsl := hs.length_le
      have hsz := ba_len s
      rw [hu, List.length_cons] at hlen
      rw [hr, List.length_cons] at hsz
      rw [List.length_take] at hsl
      have e1 : wrap64 ((i : Int) + 1) = ((i + 1 : Nat) : Int) := by rw [IntWalk.wrap64_in _ (by omega)]; omega
      have hlt : i - 1 < u.length := by omega
      have et : u.take (i + 1 - 1) = u.take (i - 1) ++ [u[i - 1]] := by rw [show i + 1 - 1 = (i - 1) + 1 by omega, List.take_succ_eq_append_getElem hlt]
      have ex : (key.extract (i : Int).toNat ((i + 1 : Nat) : Int).toNat).data.toList = [u[i - 1]] := by
        have e9 : key.data.toList.drop i = u.drop (i - 1) := by
          rw [hu]
          cases i with
          | zero => omega
          | succ j => rfl
        rw [Int.toNat_natCast, Int.toNat_natCast, ba_sub, List.drop_take, show i + 1 - i = 1 by omega, e9, List.drop_eq_getElem_cons hlt]
        rfl
      have exz : (key.extract (i : Int).toNat ((i + 1 : Nat) : Int).toNat).size = 1 := by rw [← ba_len, ex]; rfl
      obtain ⟨o, at2, s2, h2, g2⟩ := Once_ok hl at_ sd 2 ha (by omega) (by omega)
      rw [wayzgoosekit_ShortOf.l0, if_pos (by omega), if_neg (by omega), bind_eq h2]
      dsimp only
      cases o with
      | true =>
        rw [if_pos rfl, e1, if_pos (by omega), if_pos (by omega), if_pos (by omega), if_pos (by omega)]
        exact ShortOf_l0 hl hk c u hu n k (i + 1) _ at2 s2 (by omega) (by omega) g2 (by omega) ⟨r ++ [u[i - 1]], by rw [ba_app, ex, hr]; rfl, by rw [et]; exact hs.append (List.Sublist.refl _)⟩
      | false =>
        rw [if_neg (by decide), e1]
        exact ShortOf_l0 hl hk c u hu n k (i + 1) s at2 s2 (by omega) (by omega) g2 (by omega) ⟨r, hr, by rw [et]; exact hs.trans (List.sublist_append_left _ _)⟩
theorem ShortOf_ok {l : List Int} (hl : Lst l) {key : ByteArray} (hk : key.size ≤ 1000) (hp : 0 < key.size) (k : Nat) (at_ sd : Int) (hkk : key.size + 1 < k) (ha : 0 ≤ at_) :
    ∃ t at2 s2, wayzgoosekit_ShortOf.f k l at_ sd key = some (dotted t, at2, s2) ∧ 0 ≤ at2 ∧ Some t key := by
  obtain ⟨c, u, hu, _⟩ := first_byte key hp
  obtain ⟨k, rfl⟩ : ∃ k', k = k' + 1 := ⟨k - 1, by omega⟩
  have ex : (key.extract 0 1).data.toList = [c] := by rw [ba_upto, hu]; rfl
  have exz : (key.extract 0 1).size = 1 := by rw [← ba_len, ex]; rfl
  unfold wayzgoosekit_ShortOf.f
  have e1 : wrap64 ((0 : Int) + 1) = 1 := IntWalk.wrap64_in _ (by omega)
  rw [wayzgoosekit_ShortOf.l0, if_pos (by omega), if_pos rfl, if_pos (by omega), e1, if_pos (by omega), if_pos (by omega)]
  have z0 : (⟨#[]⟩ : ByteArray).size = 0 := rfl
  have exz' : (key.extract (0 : Int).toNat (1 : Int).toNat).size = 1 := exz
  rw [if_pos (by omega)]
  exact ShortOf_l0 hl hk c u hu (key.size - 1) k 1 _ at_ sd (by omega) (by omega) ha (by omega) ⟨[], by rw [ba_app]; show [] ++ (key.extract 0 1).data.toList = _; rw [ex]; rfl, List.nil_sublist _⟩

theorem some_letters {t k : ByteArray} (h : Some t k) (hk : lettersB k 1 12 = true) : lettersB t 1 12 = true := by
  rw [letters_iff] at hk ⊢
  obtain ⟨c, u, v, e1, e2, e3⟩ := h
  have z1 := ba_len t
  have z2 := ba_len k
  have z3 := e3.length_le
  rw [e1, List.length_cons] at z1
  rw [e2, List.length_cons] at z2
  refine ⟨⟨by omega, by omega⟩, ?_⟩
  have e4 := hk.2
  rw [e2] at e4
  rw [e1]
  unfold latL at e4 ⊢
  rw [List.all_cons, Bool.and_eq_true] at e4 ⊢
  exact ⟨e4.1, List.all_eq_true.2 fun x hx => List.all_eq_true.1 e4.2 x (e3.subset hx)⟩

theorem Index_l0 (x : List Int) (a : Int) (hx : x.length ≤ 1000) : ∀ (n i : Nat), i + n = x.length → (∀ j, j < i → x.getD j 0 ≠ a) → ∃ r, Evn (fun k => wayzgoosekit_Index.l0 k x a (i : Int)) r ∧ (0 ≤ r ↔ a ∈ x)
  | 0, i, hi, hn => ⟨-1, Evn.step 0 fun k _ => by rw [wayzgoosekit_Index.l0, if_neg (by omega)], by
      refine ⟨fun h => absurd h (by decide), fun h => ?_⟩
      obtain ⟨j, hj, e⟩ := List.getElem_of_mem h
      exact absurd (by rw [List.getD_eq_getElem?_getD, List.getElem?_eq_getElem hj, ← e]; rfl) (hn j (by omega))⟩
  | n + 1, i, hi, hn => by
      have hlt : i < x.length := by omega
      have er : rd x (i : Int) = x.getD i 0 := by unfold rd; rw [Int.toNat_natCast]
      by_cases e : x.getD i 0 = a
      · refine ⟨(i : Int), Evn.step 0 fun k _ => by rw [wayzgoosekit_Index.l0, if_pos (by omega), if_pos (by omega), er, if_pos e], fun _ => ?_, fun _ => by omega⟩
        rw [← e, List.getD_eq_getElem?_getD, List.getElem?_eq_getElem hlt]
        exact List.getElem_mem _
      · obtain ⟨r, h1, h2⟩ := Index_l0 x a hx n (i + 1) (by omega) (fun j hj => by
          by_cases e2 : j = i
          · rw [e2]; exact e
          · exact hn j (by omega))
        refine ⟨r, h1.next 0 fun k _ => ?_, h2⟩
        rw [wayzgoosekit_Index.l0, if_pos (by omega), if_pos (by omega), er, if_neg e, IntWalk.wrap64_in _ (by omega)]
        rw [show ((i + 1 : Nat) : Int) = (i : Int) + 1 by omega]
theorem Index_ev (x : List Int) (a : Int) (hx : x.length ≤ 1000) : ∃ r, Evn (fun k => wayzgoosekit_Index.f k x a) r ∧ (0 ≤ r ↔ a ∈ x) := Index_l0 x a hx x.length 0 (by omega) (fun j hj => by omega)

/-- A letter fewer still stands for all for which the letters stand. -/
theorem abbr_erase {t k : ByteArray} (h : Abbr t k) {i : Nat} (h1 : 1 ≤ i) (h2 : i < t.size) : Abbr (t.extract 0 i ++ t.extract (i + 1) t.size) k := by
  obtain ⟨c, r, u, e1, e2, e3, e4⟩ := h
  have hl := ba_len t
  have ed : (t.extract 0 i ++ t.extract (i + 1) t.size).data.toList = t.data.toList.take i ++ t.data.toList.drop (i + 1) := by
    have e8 : t.data.toList.take t.size = t.data.toList := List.take_of_length_le (by omega)
    rw [ba_app, ba_upto, ba_sub, e8]
  obtain ⟨j, rfl⟩ : ∃ j, i = j + 1 := ⟨i - 1, by omega⟩
  rw [e1, List.take_succ_cons, List.drop_succ_cons, List.cons_append] at ed
  have hs : (r.take j ++ r.drop (j + 1)).Sublist r := by
    have h5 : (r.take j ++ r.drop (j + 1)).Sublist (r.take j ++ r.drop j) := (List.Sublist.refl _).append (by rw [← List.drop_drop]; exact List.drop_sublist _ _)
    rwa [List.take_append_drop] at h5
  exact ⟨c, _, u, ed, e2, hs.trans e3, Nat.lt_of_le_of_lt hs.length_le e4⟩

theorem Short_f {t : ByteArray} (ht : lettersB t 1 12 = true) {n : ByteArray} (hn : Nm n) : name_Short.f (dotted t) n = some (standsB t (keyB n), 0) := by
  have hz := dotted_size t
  have hks := (letters_iff.1 ht).1
  have hl := key_latin hn
  have ha : name_abbrError.f (dotted t) = some (t, 0) := by
    unfold name_abbrError.f
    rw [if_pos ⟨by omega, isDot_dotted ht⟩, cutDot_dotted]
  have hs : name_key_stands.f t (keyB n) = some (standsB t (keyB n)) := by
    unfold name_key_stands.f
    rw [if_pos ⟨by omega, Nat.le_trans (key_size hn) (by decide), List.all_eq_true.2 fun b hb => decide_eq_true (latin_lt (hl b hb))⟩]
  unfold name_Short.f
  rw [bind_eq ha]
  dsimp only
  rw [if_pos rfl, bind_eq (check_f hn), if_pos rfl, bind_eq (of_f hn), bind_eq hs]

section
variable {l : List ByteArray} (hl : ∀ s ∈ l, Nm s) (hlen : l.length ≤ 6) {t : ByteArray} (ht : lettersB t 1 12 = true)
include hl hlen ht

theorem cut_l3 : ∀ (n i : Nat), i + n = l.length → Evn (fun k => wayzgooselaw03_NameCut.l3 k l (dotted t) (standI t l l.length) (i : Int)) true
  | 0, i, hi => Evn.step 0 fun k _ => by rw [wayzgooselaw03_NameCut.l3, if_neg (by omega), bind_eq spelling_ok]
  | n + 1, i, hi => by
      have ih := cut_l3 n (i + 1) (by omega)
      have hsl := standI_len t l l.length
      obtain ⟨el, hn⟩ := at_name hl (i := i) (by omega)
      obtain ⟨r, ⟨K, h1⟩, h2⟩ := Index_ev (standI t l l.length) (i : Int) (by omega)
      refine ih.next K fun k hk => ?_
      have hb : (standsB t (keyB (l.getD i ByteArray.empty)) != decide (r ≥ 0)) = false := by
        have : (r ≥ 0) ↔ standsB t (keyB (l.getD i ByteArray.empty)) = true := by
          refine Iff.trans h2 (mem_standI.trans ⟨?_, fun h => ⟨i, by omega, rfl, h⟩⟩)
          rintro ⟨j, _, e, h3⟩
          obtain rfl : i = j := by omega
          exact h3
        cases hs : standsB t (keyB (l.getD i ByteArray.empty)) with
        | true => rw [decide_eq_true (this.2 hs)]; rfl
        | false => rw [decide_eq_false (fun h => by rw [this.1 h] at hs; cases hs)]; rfl
      rw [wayzgooselaw03_NameCut.l3, if_pos (by omega), if_pos (by omega), el, bind_eq (Short_f ht hn)]
      dsimp only
      rw [if_pos rfl, bind_eq (h1 k hk), hb, if_neg (by decide), IntWalk.wrap64_in _ (by omega)]
      rw [show ((i + 1 : Nat) : Int) = (i : Int) + 1 by omega]

omit hl ht in
theorem cut_l2 (i : Nat) (hi : i ≤ 1000) (b : List Int) (hb : b.length ≤ 6) (hsub : ∀ x ∈ standI t l l.length, x ∈ b) (h : Evn (fun k => wayzgooselaw03_NameCut.l1 k l (dotted t) (standI t l l.length) (wrap64 ((i : Int) + 1))) true) :
    ∀ (n j : Nat), j + n = (standI t l l.length).length → Evn (fun k => wayzgooselaw03_NameCut.l2 k l (dotted t) (standI t l l.length) (i : Int) b (j : Int)) true
  | 0, j, hj => h.next 0 fun k _ => by rw [wayzgooselaw03_NameCut.l2, if_neg (by omega)]
  | n + 1, j, hj => by
      have ih := cut_l2 i hi b hb hsub h n (j + 1) (by omega)
      have hsl := standI_len t l l.length
      have hlt : j < (standI t l l.length).length := by omega
      have er : rd (standI t l l.length) (j : Int) = (standI t l l.length)[j] := by unfold rd; rw [Int.toNat_natCast, List.getD_eq_getElem?_getD, List.getElem?_eq_getElem hlt]; rfl
      obtain ⟨r, ⟨K, h1⟩, h2⟩ := Index_ev b (standI t l l.length)[j] (by omega)
      have hr := h2.2 (hsub _ (List.getElem_mem _))
      refine ih.next K fun k hk => ?_
      rw [wayzgooselaw03_NameCut.l2, if_pos (by omega), if_pos (by omega), er, bind_eq (h1 k hk), if_neg (by omega), IntWalk.wrap64_in _ (by omega)]
      rw [show ((j + 1 : Nat) : Int) = (j : Int) + 1 by omega]

theorem cut_l1 : ∀ (n i : Nat), i + n = t.size → 1 ≤ i → Evn (fun k => wayzgooselaw03_NameCut.l1 k l (dotted t) (standI t l l.length) (i : Int)) true
  | 0, i, hi, h1 => by
      have hz := dotted_size t
      have hks := (letters_iff.1 ht).1
      exact (cut_l3 hl hlen ht l.length 0 (by omega)).next 0 fun k _ => by rw [wayzgooselaw03_NameCut.l1, IntWalk.wrap64_in _ (by omega), if_neg (by omega)]; rfl
  | n + 1, i, hi, h1 => by
      have hz := dotted_size t
      have hks := (letters_iff.1 ht).1
      have ih := cut_l1 n (i + 1) (by omega) (by omega)
      have e1 : wrap64 ((i : Int) + 1) = ((i + 1 : Nat) : Int) := by rw [IntWalk.wrap64_in _ (by omega)]; omega
      have hdt : (dotted t).data.toList = t.data.toList ++ [46] := by unfold dotted; rw [ba_app]
      have hlt := ba_len t
      obtain ⟨t2, ht2⟩ : ∃ t2, t.extract 0 i ++ t.extract (i + 1) t.size = t2 := ⟨_, rfl⟩
      have hd2 : t2.data.toList = t.data.toList.take i ++ t.data.toList.drop (i + 1) := by
        have e8 : t.data.toList.take t.size = t.data.toList := List.take_of_length_le (by omega)
        rw [← ht2, ba_app, ba_upto, ba_sub, e8]
      have ex : (dotted t).extract 0 (i : Int).toNat ++ (dotted t).extract ((i + 1 : Nat) : Int).toNat (dotted t).size = dotted t2 := by
        refine ba_ext ?_
        have e5 : (dotted t2).data.toList = t2.data.toList ++ [46] := by unfold dotted; rw [ba_app]
        have e8 : (dotted t).data.toList.take (dotted t).size = (dotted t).data.toList := List.take_of_length_le (by rw [ba_len]; exact Nat.le_refl _)
        rw [e5, hd2, Int.toNat_natCast, Int.toNat_natCast, ba_app, ba_upto, ba_sub, e8, hdt, List.take_append_of_le_length (by omega), List.drop_append_of_le_length (by omega), List.append_assoc]
      have hsz : ((dotted t).extract 0 (i : Int).toNat).size + ((dotted t).extract ((i + 1 : Nat) : Int).toNat (dotted t).size).size ≤ 9223372036854775807 := by
        rw [ByteArray.size_extract, ByteArray.size_extract]; omega
      have hz2 : t2.size = t.size - 1 := by
        rw [← ba_len, hd2, List.length_append, List.length_take, List.length_drop]; omega
      have hl2 : lettersB t2 1 12 = true := by
        refine letters_iff.2 ⟨⟨by omega, by omega⟩, ?_⟩
        have h3 := (letters_iff.1 ht).2
        rw [hd2]
        unfold latL at h3 ⊢
        refine List.all_eq_true.2 fun x hx => List.all_eq_true.1 h3 x ?_
        rcases List.mem_append.1 hx with h | h
        · exact List.mem_of_mem_take h
        · exact List.mem_of_mem_drop h
      have hst := Stands_f (isDot_dotted hl2) (by rw [dotted_size]; omega) hl hlen
      rw [cutDot_dotted] at hst
      have hsl2 := standI_len t2 l l.length
      have h2 := cut_l2 hlen i (by omega) (standI t2 l l.length) (by omega) (fun x hx => by
        obtain ⟨j, hj, e, h3⟩ := mem_standI.1 hx
        refine mem_standI.2 ⟨j, hj, e, (standsB_iff (by omega)).2 ?_⟩
        rw [← ht2]
        exact abbr_erase ((standsB_iff (by omega)).1 h3) h1 (by omega)) (by rw [e1]; exact ih) (standI t l l.length).length 0 (by omega)
      refine h2.next 0 fun k _ => ?_
      rw [wayzgooselaw03_NameCut.l1, IntWalk.wrap64_in (((dotted t).size : Int) - 1) (by omega), e1, if_pos (by omega), if_pos (by omega), if_pos (by omega), if_pos (by omega), if_pos (by omega), if_pos hsz, ex, bind_eq hst]
      dsimp only
      rw [if_pos rfl]
      rfl

theorem cut_l0 : ∀ (n i : Nat), i + n = (standI t l l.length).length → Evn (fun k => wayzgooselaw03_NameCut.l0 k l (dotted t) (standI t l l.length) (i : Int)) true
  | 0, i, hi => by
      have hks := (letters_iff.1 ht).1
      exact (cut_l1 hl hlen ht (t.size - 1) 1 (by omega) (by omega)).next 0 fun k _ => by rw [wayzgooselaw03_NameCut.l0, if_neg (by omega)]; rfl
  | n + 1, i, hi => by
      have hz := dotted_size t
      have hks := (letters_iff.1 ht).1
      have ih := cut_l0 n (i + 1) (by omega)
      have hsl := standI_len t l l.length
      have hlt : i < (standI t l l.length).length := by omega
      obtain ⟨j, hj, ej, hst⟩ := mem_standI.1 (List.getElem_mem hlt)
      have er : rd (standI t l l.length) (i : Int) = (j : Int) := by unfold rd; rw [Int.toNat_natCast, List.getD_eq_getElem?_getD, List.getElem?_eq_getElem hlt, ← ej]; rfl
      obtain ⟨el, hn⟩ := at_name hl hj
      have hlt2 := ((standsB_iff (by omega)).1 hst).lt
      have h2 : Evn (fun k => wayzgooselaw03_NameCut.j2 k l (dotted t) (standI t l l.length) (i : Int) false) true := by
        refine ih.next 0 fun k _ => ?_
        rw [wayzgooselaw03_NameCut.j2, if_neg (by decide), if_pos (by omega), if_pos (by omega), er, if_pos (by omega), if_pos (by omega), el, bind_eq (Key_f hn)]
        dsimp only
        rw [if_pos rfl, if_neg (by omega), IntWalk.wrap64_in _ (by omega)]
        rw [show ((i + 1 : Nat) : Int) = (i : Int) + 1 by omega]
      refine h2.next 0 fun k _ => ?_
      rw [wayzgooselaw03_NameCut.l0, if_pos (by omega), if_pos (by omega), er, if_neg (by omega), decide_eq_false (by omega)]
end

theorem NameCut : wayzgooselaw03_NameCut.Pure := by
  intro l0 hl _ _
  have key : Evn (fun k => wayzgooselaw03_NameCut.f k l0) true := by
    obtain ⟨l, at2, s2, e2, g2, hn, hn5⟩ := NamesOf_ok (l := l0) hl 40 0 11400714819323198485 5 6 (by omega) (by omega) (by omega) (by omega) (by omega) (by omega)
    obtain ⟨a, at1, s1, e1, g1, ha, _⟩ := NameOf_ok (l := l0) hl 40 at2 s2 6 (by omega) g2 (by omega) (by omega)
    have hn2 : ∀ s ∈ l ++ [a], Nm s := fun s hs => by
      rcases List.mem_append.1 hs with h | h
      · exact hn s h
      · obtain rfl := List.mem_singleton.1 h; exact ha
    have hlen : (l ++ [a]).length = l.length + 1 := by simp
    have ez : wrap64 (((l ++ [a]).length : Int) - 1) = (l.length : Int) := by rw [IntWalk.wrap64_in _ (by omega)]; omega
    obtain ⟨el, hnm⟩ := at_name hn2 (i := l.length) (by omega)
    have ea : (l ++ [a]).getD l.length ByteArray.empty = a := by rw [List.getD_eq_getElem?_getD, List.getElem?_append_right (by omega)]; simp
    rw [ea] at el
    obtain ⟨K1, w1⟩ := refKey_ev ha
    have hks := key_size ha
    obtain ⟨t, at3, s3, e3, g3, hst⟩ := ShortOf_ok (l := l0) hl (key := keyB a) (by omega) (key_pos ha) 40 at1 s1 (by omega) g1
    have ht := some_letters hst (key_letters ha)
    have htz := (letters_iff.1 ht).1
    have hS := Stands_f (isDot_dotted ht) (by rw [dotted_size]; omega) hn2 (by omega)
    rw [cutDot_dotted] at hS
    have hsl := standI_len t (l ++ [a]) (l ++ [a]).length
    obtain ⟨K0, w0⟩ := cut_l0 hn2 (by omega) ht (standI t (l ++ [a]) (l ++ [a]).length).length 0 (by omega)
    refine ⟨K0 + K1 + 42, fun k hk => ?_⟩
    show wayzgooselaw03_NameCut.f k l0 = some true
    unfold wayzgooselaw03_NameCut.f wayzgoosekit_NewDice.f
    rw [bind_eq rfl]
    dsimp only
    rw [bind_eq (at_rounds (fun k => wayzgoosekit_NamesOf.mono _ _ _ _ _ k) (by omega : 40 ≤ k) e2)]
    dsimp only
    rw [bind_eq (at_rounds (fun k => wayzgoosekit_NameOf.mono _ _ _ _ k) (by omega : 40 ≤ k) e1)]
    dsimp only
    rw [if_pos (by omega), bind_eq rfl]
    rw [ez, if_pos (by omega), if_pos (by omega), el, bind_eq (w1 k (by omega)), bind_eq (at_rounds (fun k => wayzgoosekit_ShortOf.mono _ _ _ _ k) (by omega : 40 ≤ k) e3)]
    dsimp only
    rw [bind_eq hS]
    dsimp only
    obtain ⟨k, rfl⟩ : ∃ k', k = k' + 1 := ⟨k - 1, by omega⟩
    rw [if_pos rfl, wayzgooselaw03_NameCut.j0, decide_eq_false (by omega), if_neg (by decide)]
    exact w0 k (by omega)
  exact key.get
end Go.Proofs.YtapikimhmjnjeaaGreatDoor.Pure

