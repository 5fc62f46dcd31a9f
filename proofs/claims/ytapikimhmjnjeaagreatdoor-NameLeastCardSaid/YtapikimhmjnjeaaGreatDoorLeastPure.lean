/- NameLeast holds of the printed functions: a plain law. -/
import Derived.Test.YtapikimhmjnjeaaGreatDoorPrLNameLeast
import Derived.Test.YtapikimhmjnjeaaGreatDoorPrExtAbb
import Derived.Test.YtapikimhmjnjeaaGreatDoorShortsPure
/- NameLeast holds of the printed functions: a plain law. -/
set_option linter.unusedVariables false
set_option linter.unusedSimpArgs false
namespace Go.Proofs.YtapikimhmjnjeaaGreatDoor.Pure
open Go.RowKit Go.Proofs.YtapikimhmjnjeaaGreatDoor Go.Proofs.YtapikimhmjnjeaaGreatDoor.Pr Go.Proofs.YtapikimhmjnjeaaGreatDoorW.PrintWords Go.Proofs.YtapikimhmjnjeaaGreatDoorW.PrintLast

theorem take_len (p : ByteArray → Bool) : ∀ l : List ByteArray, l.take (l.takeWhile p).length = l.takeWhile p ∧ l.drop (l.takeWhile p).length = l.dropWhile p
  | [] => ⟨rfl, rfl⟩
  | x :: l => by
    obtain ⟨h1, h2⟩ := take_len p l
    rw [List.takeWhile_cons, List.dropWhile_cons]
    split
    · rw [List.length_cons, List.take_succ_cons, List.drop_succ_cons, h1, h2]; exact ⟨rfl, rfl⟩
    · exact ⟨rfl, rfl⟩
theorem take_pos (s : ByteArray) (l : List ByteArray) : l.take (posS s l) = l.takeWhile (fun o => Op.bytesLess o.toList s.toList) ∧ l.drop (posS s l) = l.dropWhile (fun o => Op.bytesLess o.toList s.toList) := take_len _ l
theorem mem_insS {s x : ByteArray} {l : List ByteArray} : x ∈ insS s l ↔ x = s ∨ x ∈ l := by
  unfold insS
  have h := List.take_append_drop (posS s l) l
  conv => rhs; rhs; rw [← h]
  simp only [List.mem_append, List.mem_singleton]
  constructor
  · rintro ((h | h) | h)
    · exact .inr (.inl h)
    · exact .inl h
    · exact .inr (.inr h)
  · rintro (h | h | h)
    · exact .inl (.inr h)
    · exact .inl (.inl h)
    · exact .inr h
theorem mem_abbrO {key s : ByteArray} {t : List (List Int)} : ∀ {n : Nat}, s ∈ abbrO key t n ↔ ∃ i, i < n ∧ s = abbrT key (t.getD i []) (t.getD i []).length
  | 0 => by simp [abbrO]
  | n + 1 => by
    rw [abbrO_succ, mem_insS, mem_abbrO]
    constructor
    · rintro (h | ⟨i, h1, h2⟩)
      · exact ⟨n, by omega, h⟩
      · exact ⟨i, by omega, h2⟩
    · rintro ⟨i, h1, h2⟩
      by_cases e : i = n
      · subst e; exact .inl h2
      · exact .inr ⟨i, by omega, h2⟩

/-- No later one comes before an earlier one. -/
def Ordd (l : List ByteArray) : Prop := l.Pairwise fun a b => Op.bytesLess b.toList a.toList = false
theorem dropWhile_head (p : ByteArray → Bool) : ∀ (l : List ByteArray) (d : ByteArray) (r : List ByteArray), l.dropWhile p = d :: r → p d = false
  | [], d, r, h => by cases h
  | x :: l, d, r, h => by
    rw [List.dropWhile_cons] at h
    split at h
    · exact dropWhile_head p l d r h
    · rename_i h2
      obtain ⟨rfl, _⟩ := List.cons.inj h
      simpa using h2
theorem takeWhile_all (p : ByteArray → Bool) : ∀ (l : List ByteArray) (d : ByteArray), d ∈ l.takeWhile p → p d = true
  | [], d, h => by cases h
  | x :: l, d, h => by
    rw [List.takeWhile_cons] at h
    split at h
    · rename_i h2
      rcases List.mem_cons.1 h with rfl | h
      · exact h2
      · exact takeWhile_all p l d h
    · cases h
theorem insS_ord {s : ByteArray} {l : List ByteArray} (h : Ordd l) : Ordd (insS s l) := by
  obtain ⟨e1, e2⟩ := take_pos s l
  have h0 := h
  unfold Ordd at h ⊢
  unfold insS
  rw [e1, e2]
  have hsplit := List.takeWhile_append_dropWhile (p := fun o : ByteArray => Op.bytesLess o.toList s.toList) (l := l)
  rw [← hsplit, List.pairwise_append] at h
  obtain ⟨h1, h2, h3⟩ := h
  rw [List.pairwise_append, List.pairwise_append]
  have hT : ∀ a ∈ l.takeWhile (fun o => Op.bytesLess o.toList s.toList), Op.bytesLess s.toList a.toList = false := fun a ha => by
    have h4 := takeWhile_all _ l a ha
    cases hc : Op.bytesLess s.toList a.toList with
    | false => rfl
    | true =>
      have := bl_trans hc h4
      rw [bl_irrefl] at this
      cases this
  have hD : ∀ d ∈ l.dropWhile (fun o => Op.bytesLess o.toList s.toList), Op.bytesLess d.toList s.toList = false := fun d hd => by
    cases hdl : l.dropWhile (fun o => Op.bytesLess o.toList s.toList) with
    | nil => rw [hdl] at hd; cases hd
    | cons d0 r =>
      have h5 := dropWhile_head _ l d0 r hdl
      rw [hdl] at hd h2
      rcases List.mem_cons.1 hd with rfl | hd
      · exact h5
      · have h6 := (List.pairwise_cons.1 h2).1 d hd
        cases hc : Op.bytesLess d.toList s.toList with
        | false => rfl
        | true =>
          have h5 : Op.bytesLess d0.toList s.toList = false := h5
          by_cases e : s.toList = d0.toList
          · rw [e] at hc; rw [hc] at h6; cases h6
          · rcases bl_total e with h7 | h7
            · have := bl_trans hc h7
              rw [this] at h6; cases h6
            · rw [h7] at h5; cases h5
  refine ⟨⟨h1, List.pairwise_singleton _ _, fun a ha b hb => ?_⟩, h2, fun a ha b hb => ?_⟩
  · obtain rfl := List.mem_singleton.1 hb
    exact hT a ha
  · rcases List.mem_append.1 ha with ha | ha
    · exact h3 a ha b hb
    · obtain rfl := List.mem_singleton.1 ha
      exact hD b hb
theorem abbrO_ord (key : ByteArray) (t : List (List Int)) : ∀ n, Ordd (abbrO key t n)
  | 0 => List.Pairwise.nil
  | n + 1 => by rw [abbrO_succ]; exact insS_ord (abbrO_ord key t n)

/-- The letters of an abbreviation: the first one and those at its indices. -/
theorem abbrT_list {key : ByteArray} {c : UInt8} {u : L} (hu : key.data.toList = c :: u) (x : List Int) (hx : ∀ z ∈ x, 0 ≤ z ∧ z < u.length) : ∀ n, n ≤ x.length → (abbrT key x n).data.toList = c :: (x.take n).map (fun z => u.getD z.toNat 0)
  | 0, _ => by rw [abbrT, ba_upto, hu]; rfl
  | n + 1, hn => by
    have ih := abbrT_list hu x hx n (by omega)
    have hlt : n < x.length := by omega
    have hz := hx x[n] (List.getElem_mem _)
    have eg : x.getD n 0 = x[n] := by rw [List.getD_eq_getElem?_getD, List.getElem?_eq_getElem hlt]; rfl
    obtain ⟨y, hy⟩ : ∃ y : Nat, x[n] = (y : Int) := ⟨x[n].toNat, by omega⟩
    have hyl : y < u.length := by omega
    rw [abbrT_succ, ba_app, ih, eg, List.take_succ_eq_append_getElem hlt, List.map_append, hy, Int.toNat_natCast, ba_sub, List.drop_take, show y + 2 - (y + 1) = 1 by omega]
    have e9 : key.data.toList.drop (y + 1) = u.drop y := by rw [hu]; rfl
    rw [e9]
    have e10 : (u.drop y).take 1 = [u[y]] := by rw [List.drop_eq_getElem_cons hyl]; rfl
    rw [e10]
    simp [List.getD_eq_getElem?_getD, List.getElem?_eq_getElem hyl]

theorem fromL_map (u : L) : (fromL 0 u.length).map (fun z => u.getD z.toNat 0) = u := by
  refine List.ext_getElem? fun i => ?_
  unfold fromL
  rw [List.getElem?_map, List.getElem?_map]
  by_cases h : i < u.length
  · rw [List.getElem?_range h]
    simp [List.getD_eq_getElem?_getD, List.getElem?_eq_getElem h]
  · rw [List.getElem?_eq_none (by simp; omega), List.getElem?_eq_none (by omega)]
    rfl

theorem mem_abbrK {key s : ByteArray} {many : Nat} (hk : 0 < key.size) (hm : 1 ≤ many) : s ∈ abbrK key many ↔ Some s key ∧ s.size = many := by
  obtain ⟨c, u, hu, _⟩ := first_byte key hk
  have hlen := ba_len key
  rw [hu, List.length_cons] at hlen
  have hul : key.size - 1 = u.length := by omega
  have hb : ∀ x : List Int, x.Sublist (fromL 0 (key.size - 1)) → ∀ z ∈ x, 0 ≤ z ∧ z < u.length := fun x hx z hz => by
    have := fromL_lt (hx.subset hz)
    omega
  unfold abbrK
  rw [mem_abbrO]
  constructor
  · rintro ⟨i, hi, rfl⟩
    obtain ⟨h1, h2⟩ := abbrX_at hi
    generalize (abbrX key many).getD i [] = x at h1 h2
    have ha := abbrT_list hu x (hb x h1) x.length (Nat.le_refl _)
    rw [List.take_of_length_le (Nat.le_refl _)] at ha
    refine ⟨⟨c, _, u, ha, hu, ?_⟩, ?_⟩
    · have h3 := h1.map (fun z : Int => u.getD z.toNat 0)
      rw [hul, fromL_map] at h3
      exact h3
    · rw [← ba_len, ha, List.length_cons, List.length_map, h2]; omega
  · rintro ⟨⟨c', r, u', h1, h2, h3⟩, h4⟩
    rw [hu] at h2
    obtain ⟨rfl, rfl⟩ := List.cons.inj h2
    have h5 := h3
    rw [← fromL_map u, List.sublist_map_iff] at h5
    obtain ⟨x, hx, rfl⟩ := h5
    have hr : x.length = many - 1 := by
      rw [← ba_len, h1, List.length_cons, List.length_map] at h4
      omega
    rw [← hul] at hx
    have hmem : x ∈ abbrX key many := (mem_subsL _ _ _).2 ⟨hx, hr⟩
    obtain ⟨i, hi, hxi⟩ := List.getElem_of_mem hmem
    have eg : (abbrX key many).getD i [] = x := by rw [List.getD_eq_getElem?_getD, List.getElem?_eq_getElem hi, ← hxi]; rfl
    refine ⟨i, hi, ba_ext ?_⟩
    have ha := abbrT_list hu x (hb x hx) x.length (Nat.le_refl _)
    rw [List.take_of_length_le (Nat.le_refl _)] at ha
    rw [eg, ha, h1]

theorem some_abbr {t k : ByteArray} : (Some t k ∧ t.size < k.size) ↔ Abbr t k := by
  constructor
  · rintro ⟨⟨c, r, u, h1, h2, h3⟩, h4⟩
    rw [← ba_len, ← ba_len, h1, h2, List.length_cons, List.length_cons] at h4
    exact ⟨c, r, u, h1, h2, h3, by omega⟩
  · intro h
    have := h.lt
    obtain ⟨c, r, u, h1, h2, h3, _⟩ := h
    exact ⟨⟨c, r, u, h1, h2, h3⟩, this⟩

section
variable {l : List ByteArray} (hl : ∀ s ∈ l, Nm s) (hlen : l.length ≤ 6) {i : Nat} (hi : i < l.length) (own : ByteArray) (ho : keyB (l.getD i ByteArray.empty) = own) (got : ByteArray) (e : Int)
  (hf : resC (cutF l own 12 dirS) = (got, e))
include hl hlen hi ho hf

theorem least_l1 (many : Nat) (hm : 1 ≤ many) (hm2 : many < own.size) (hno : ∀ t, Fine l own t → many ≤ t.size)
    (h : (∀ t, Fine l own t → many + 1 ≤ t.size) → Evn (fun k => wayzgooselaw03_NameLeast.l0 k l (i : Int) got e own (wrap64 ((many : Int) + 1))) true) :
    ∀ (n q : Nat), q + n = (abbrK own many).length → (∀ y ∈ (abbrK own many).take q, ¬ Fine l own y) → Evn (fun k => wayzgooselaw03_NameLeast.l1 k l (i : Int) got e own (many : Int) (abbrK own many) (q : Int)) true
  | 0, q, hq, hp => by
      refine (h fun t ht => ?_).next 0 fun k _ => by rw [wayzgooselaw03_NameLeast.l1, if_neg (by omega)]
      have h1 := hno t ht
      by_cases e2 : t.size = many
      · exfalso
        rw [List.take_of_length_le (by omega)] at hp
        exact hp t ((mem_abbrK (by omega) hm).2 ⟨(some_abbr.2 ht.1).1, e2⟩) ht
      · omega
  | n + 1, q, hq, hp => by
      obtain ⟨_, hn⟩ := at_name hl hi
      have hkl := key_letters hn
      rw [ho] at hkl
      have hks := (letters_iff.1 hkl).1
      have hlt : q < (abbrK own many).length := by omega
      have hlb : (abbrK own many).length ≤ 2 ^ 12 := by
        unfold abbrK
        rw [abbrO_len]
        exact Nat.le_trans (subsL_len _ _ _) (Nat.pow_le_pow_right (by omega) (by omega))
      have er : rdOf ByteArray.empty (abbrK own many) (q : Int) = (abbrK own many)[q] := by unfold rdOf; rw [Int.toNat_natCast, List.getD_eq_getElem?_getD, List.getElem?_eq_getElem hlt]; rfl
      obtain ⟨t, ht⟩ : ∃ t, (abbrK own many)[q] = t := ⟨_, rfl⟩
      have hmem : t ∈ abbrK own many := by rw [← ht]; exact List.getElem_mem _
      obtain ⟨hst, hsz⟩ := (mem_abbrK (by omega) hm).1 hmem
      have hab := some_abbr.1 ⟨hst, by omega⟩
      have htl := abbr_letters hab hkl
      have hdz := dotted_size t
      obtain ⟨b, ⟨K, hM⟩, hbf⟩ := mistaken_ev hl hlen (isDot_dotted htl) (by omega) hi
      rw [ho, cutDot_dotted] at hbf
      rw [ht] at er
      have hdt : t ++ (⟨#[46]⟩ : ByteArray) = dotted t := rfl
      cases b with
      | true =>
        have hnf : ¬ Fine l own t := fun h => by have := hbf.2 h; cases this
        have hp2 : ∀ y ∈ (abbrK own many).take (q + 1), ¬ Fine l own y := fun y hy => by
          rw [List.take_succ_eq_append_getElem hlt, ht] at hy
          rcases List.mem_append.1 hy with hy | hy
          · exact hp y hy
          · rw [List.mem_singleton.1 hy]; exact hnf
        refine (least_l1 many hm hm2 hno h n (q + 1) (by omega) hp2).next K fun k hk => ?_
        rw [wayzgooselaw03_NameLeast.l1, if_pos (by omega), if_pos (by omega), er, if_pos (by omega), hdt, bind_eq (hM k hk)]
        dsimp only
        rw [if_pos rfl, if_pos rfl, IntWalk.wrap64_in _ (by omega)]
        rw [show ((q + 1 : Nat) : Int) = (q : Int) + 1 by omega]
      | false =>
        have hfine := hbf.1 rfl
        have hcut : cutF l own 12 dirS = some t := by
          refine (cutF_some strictS (by omega)).2 ⟨⟨hfine, by omega⟩, fun y hy hy2 => cutS_le.2 ?_⟩
          have h1 := hno y hy
          by_cases e2 : y.size = many
          · refine .inr ⟨by omega, fun hlt2 => ?_⟩
            have hym := (mem_abbrK (many := many) (by omega) hm).2 ⟨(some_abbr.2 hy.1).1, e2⟩
            have hord := abbrO_ord own (abbrX own many) (abbrX own many).length
            have hord : (abbrK own many).Pairwise fun a b => Op.bytesLess b.toList a.toList = false := hord
            rw [← List.take_append_drop q (abbrK own many), List.drop_eq_getElem_cons hlt, ht] at hym hord
            rcases List.mem_append.1 hym with h2 | h2
            · exact hp y h2 hy
            · rw [List.pairwise_append] at hord
              rw [cmpS_lt] at hlt2
              rcases List.mem_cons.1 h2 with rfl | h2
              · rw [bl_irrefl] at hlt2; cases hlt2
              · have := (List.pairwise_cons.1 hord.2.1).1 y h2
                rw [this] at hlt2; cases hlt2
          · exact .inl (by omega)
        rw [hcut, resC] at hf
        obtain ⟨hg, he⟩ := Prod.mk.inj hf
        refine Evn.step K fun k hk => ?_
        rw [wayzgooselaw03_NameLeast.l1, if_pos (by omega), if_pos (by omega), er, if_pos (by omega), hdt, bind_eq (hM k hk)]
        dsimp only
        rw [if_pos rfl, if_neg (by decide), if_pos he.symm, if_pos (by rw [← hg]), bind_eq spelling_ok]

theorem least_l0 : ∀ (n many : Nat), many + n = own.size → 1 ≤ many → (∀ t, Fine l own t → many ≤ t.size) → Evn (fun k => wayzgooselaw03_NameLeast.l0 k l (i : Int) got e own (many : Int)) true
  | 0, many, hm, h1, hno => by
      have hpos : 0 < own.size := by omega
      have hcut : cutF l own 12 dirS = none := (cutF_none hpos).2 fun t ht => by
        have := hno t ht
        have := ht.1.lt
        omega
      rw [hcut, resC] at hf
      obtain ⟨hg, he⟩ := Prod.mk.inj hf
      refine Evn.step 0 fun k _ => ?_
      rw [wayzgooselaw03_NameLeast.l0, if_neg (by omega), if_pos he.symm, if_pos (by rw [← hg, ByteArray.toList_eq]; rfl), bind_eq spelling_ok]
  | n + 1, many, hm, h1, hno => by
      obtain ⟨_, hn⟩ := at_name hl hi
      have hkl := key_letters hn
      rw [ho] at hkl
      have hks := (letters_iff.1 hkl).1
      have hA : wayzgooselaw03_abbreviations.f own (many : Int) = some (abbrK own many) := by
        unfold wayzgooselaw03_abbreviations.f
        rw [if_pos ⟨by omega, by omega, by omega, by omega⟩, Int.toNat_natCast]
      have hl1 := least_l1 hl hlen hi own ho got e hf many h1 (by omega) hno (fun h => by
        rw [IntWalk.wrap64_in _ (by omega)]
        have := least_l0 n (many + 1) (by omega) (by omega) h
        rw [show ((many + 1 : Nat) : Int) = (many : Int) + 1 by omega] at this
        exact this) (abbrK own many).length 0 (by omega) (by simp)
      refine hl1.next 0 fun k _ => ?_
      rw [wayzgooselaw03_NameLeast.l0, if_pos (by omega), bind_eq hA]
      rfl
end

theorem NameLeast : wayzgooselaw03_NameLeast.Pure := by
  intro l0 hl _ _
  have key : Evn (fun k => wayzgooselaw03_NameLeast.f k l0) true := by
    obtain ⟨l, at2, s2, e2, g2, hn, hn5⟩ := NamesOf_ok (l := l0) hl 40 0 11400714819323198485 4 4 (by omega) (by omega) (by omega) (by omega) (by omega) (by omega)
    obtain ⟨a, at1, s1, e1, g1, ha, _⟩ := NameOf_ok (l := l0) hl 40 at2 s2 4 (by omega) g2 (by omega) (by omega)
    have hn2 := snoc_nm2 hn ha
    have hlen : (l ++ [a]).length = l.length + 1 := by simp
    obtain ⟨at_, at3, s3, e3, g3, b1, b2⟩ := To_ok (l := l0) hl at1 s1 (l.length : Int) g1 (by omega) (by omega)
    obtain ⟨i, rfl⟩ : ∃ i : Nat, at_ = (i : Int) := ⟨at_.toNat, by omega⟩
    have hi : i < (l ++ [a]).length := by omega
    obtain ⟨el, hnm⟩ := at_name hn2 hi
    obtain ⟨K1, w1⟩ := refKey_ev hnm
    have hS := Shortest_f hn2 (by omega) hi
    obtain ⟨q, hq⟩ : ∃ q, resC (cutF (l ++ [a]) (keyB ((l ++ [a]).getD i ByteArray.empty)) 12 dirS) = q := ⟨_, rfl⟩
    rw [hq] at hS
    obtain ⟨got, e⟩ := q
    have hkp := key_pos hnm
    obtain ⟨K0, w0⟩ := least_l0 hn2 (by omega) hi _ rfl got e hq ((keyB ((l ++ [a]).getD i ByteArray.empty)).size - 1) 1 (by omega) (by omega) (fun t ht => ht.1.pos)
    refine ⟨K0 + K1 + 42, fun k hk => ?_⟩
    show wayzgooselaw03_NameLeast.f k l0 = some true
    unfold wayzgooselaw03_NameLeast.f wayzgoosekit_NewDice.f
    rw [bind_eq rfl]
    dsimp only
    rw [bind_eq (at_rounds (fun k => wayzgoosekit_NamesOf.mono _ _ _ _ _ k) (by omega : 40 ≤ k) e2)]
    dsimp only
    rw [bind_eq (at_rounds (fun k => wayzgoosekit_NameOf.mono _ _ _ _ k) (by omega : 40 ≤ k) e1)]
    dsimp only
    rw [if_pos (by omega), bind_eq rfl]
    have ez : wrap64 (((l ++ [a]).length : Int) - 1) = (l.length : Int) := by rw [IntWalk.wrap64_in _ (by omega)]; omega
    rw [ez, bind_eq e3]
    dsimp only
    rw [bind_eq hS]
    dsimp only
    rw [if_pos (by omega), if_pos (by omega), el, bind_eq (w1 k (by omega))]
    exact w0 k (by omega)
  exact key.get
end Go.Proofs.YtapikimhmjnjeaaGreatDoor.Pure

