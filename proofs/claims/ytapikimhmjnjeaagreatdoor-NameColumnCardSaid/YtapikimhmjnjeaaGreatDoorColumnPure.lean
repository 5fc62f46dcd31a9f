/- NameColumn holds of the printed functions: a plain law. -/
import Derived.Test.YtapikimhmjnjeaaGreatDoorPrLNameColumn
import Derived.Test.YtapikimhmjnjeaaGreatDoorMistPure
/- NameColumn holds of the printed functions: a plain law. -/
set_option linter.unusedVariables false
set_option linter.unusedSimpArgs false
namespace Go.Proofs.YtapikimhmjnjeaaGreatDoor.Pure
open Go.RowKit Go.Proofs.YtapikimhmjnjeaaGreatDoor Go.Proofs.YtapikimhmjnjeaaGreatDoor.Pr Go.Proofs.YtapikimhmjnjeaaGreatDoorW.PrintWords Go.Proofs.YtapikimhmjnjeaaGreatDoorW.PrintLast

theorem list_z {l : List ByteArray} (hl : ∀ s ∈ l, Nm s) (hlen : l.length ≤ 6) : listedZ l = 0 := by
  unfold listedZ
  rw [if_neg (by omega)]
  exact nm_chkL hl
theorem indexF_at {l : List ByteArray} (hl : ∀ s ∈ l, Nm s) (hlen : l.length ≤ 6) {i : Nat} (h : i < l.length) : indexF l (i : Int) = (keyB (l.getD i ByteArray.empty), 0) := by
  unfold indexF
  rw [if_pos (list_z hl hlen), if_neg (by omega), Int.toNat_natCast]
/-- What is made of the letters that are found. -/
def resC : Option ByteArray → ByteArray × Int
  | some s => (dotted s, 0)
  | none => (ByteArray.empty, 11)
theorem snoc_nm2 {l : List ByteArray} {a : ByteArray} (hl : ∀ s ∈ l, Nm s) (ha : Nm a) : ∀ s ∈ l ++ [a], Nm s := fun s hs => by
  rcases List.mem_append.1 hs with h | h
  · exact hl s h
  · obtain rfl := List.mem_singleton.1 h; exact ha
theorem Shortest_f {l : List ByteArray} (hl : ∀ s ∈ l, Nm s) (hlen : l.length ≤ 6) {i : Nat} (h : i < l.length) : name_Shortest.f l (i : Int) = some (resC (cutF l (keyB (l.getD i ByteArray.empty)) 12 dirS)) := by
  unfold name_Shortest.f
  rw [if_pos ⟨by omega, fun s hs => Nat.le_trans (hl s hs).le (by decide)⟩]
  unfold shortF
  rw [indexF_at hl hlen h]
  dsimp only
  rw [if_pos rfl]
  cases cutF l (keyB (l.getD i ByteArray.empty)) 12 dirS <;> rfl
theorem Fit_f {l : List ByteArray} (hl : ∀ s ∈ l, Nm s) (hlen : l.length ≤ 6) {i : Nat} (h : i < l.length) (w : Int) (hw : 1 ≤ w) : name_Fit.f l (i : Int) w = some (if ((keyB (l.getD i ByteArray.empty)).size : Int) ≤ w then (keyB (l.getD i ByteArray.empty), 0) else resC (cutF l (keyB (l.getD i ByteArray.empty)) (w - 1) dirF)) := by
  unfold name_Fit.f
  rw [if_pos ⟨by omega, fun s hs => Nat.le_trans (hl s hs).le (by decide)⟩]
  unfold fitF
  rw [indexF_at hl hlen h]
  dsimp only
  rw [if_pos rfl, if_neg (by omega)]
  split
  · rfl
  · cases cutF l (keyB (l.getD i ByteArray.empty)) (w - 1) dirF <;> rfl
theorem dotted_ne {k t : ByteArray} (hk : lettersB k 1 12 = true) : ¬ (dotted t).toList = k.toList := by
  intro e
  rw [ByteArray.toList_eq, ByteArray.toList_eq] at e
  have e1 : (dotted t).data.toList = t.data.toList ++ [46] := by unfold dotted; rw [ba_app]
  rw [e1] at e
  have h2 := (letters_iff.1 hk).2
  rw [← e, latL_app, Bool.and_eq_true] at h2
  exact absurd h2.2 (by decide)

section
variable {l : List ByteArray} (hl : ∀ s ∈ l, Nm s) (hlen : l.length ≤ 6) {i : Nat} (hi : i < l.length) (own : ByteArray) (ho : keyB (l.getD i ByteArray.empty) = own) (least : ByteArray) (f : Int)
  (hf : resC (cutF l own 12 dirS) = (least, f))
include hl hlen hi ho hf

theorem col_l0 : ∀ (n w : Nat) (before : Int), w + n = 13 → 1 ≤ w → 0 ≤ before → (0 < before → (∃ t, Fine l own t ∧ (t.size : Int) = before ∧ t.size + 1 < w) ∨ (own.size < w ∧ before = own.size)) →
    Evn (fun k => wayzgooselaw03_NameColumn.l0 k l (i : Int) own least f before (w : Int)) true
  | 0, w, before, hw, h1, hb, hB => Evn.step 0 fun k _ => by
      rw [wayzgooselaw03_NameColumn.l0, if_neg (by omega), bind_eq spelling_ok]
  | n + 1, w, before, hw, h1, hb, hB => by
      obtain ⟨_, hn⟩ := at_name hl hi
      have hkl := key_letters hn
      rw [ho] at hkl
      have hks := (letters_iff.1 hkl).1
      have hpos : 0 < own.size := by omega
      have ew : wrap64 ((w : Int) + 1) = ((w + 1 : Nat) : Int) := by rw [IntWalk.wrap64_in _ (by omega)]; omega
      have hF := Fit_f hl hlen hi (w : Int) (by omega)
      rw [ho] at hF
      by_cases hfit : (own.size : Int) ≤ (w : Int)
      · rw [if_pos hfit] at hF
        have ih := col_l0 n (w + 1) (own.size : Int) (by omega) (by omega) (by omega) (fun _ => .inr ⟨by omega, rfl⟩)
        have hbo : ¬ (own.size : Int) < before := fun hlt => by
          rcases hB (by omega) with ⟨t, h2, h3, h4⟩ | ⟨h2, h3⟩
          · have := h2.1.lt; omega
          · omega
        have h2 : Evn (fun k => wayzgooselaw03_NameColumn.j2 k l (i : Int) own least f before (w : Int) own false) true := by
          refine ih.next 0 fun k _ => ?_
          rw [wayzgooselaw03_NameColumn.j2, if_neg (by decide), if_pos rfl, if_neg hbo, ew]
        refine h2.next 0 fun k _ => ?_
        rw [wayzgooselaw03_NameColumn.l0, if_pos (by omega), bind_eq hF]
        dsimp only
        rw [if_pos rfl, if_neg (by omega), decide_eq_false (by omega)]
      · rw [if_neg hfit] at hF
        cases hc : cutF l own ((w : Int) - 1) dirF with
        | none =>
          rw [hc, resC] at hF
          have hno := (cutF_none hpos).1 hc
          have hb0 : ¬ before > 0 := fun hlt => by
            rcases hB hlt with ⟨t, h2, h3, h4⟩ | ⟨h2, h3⟩
            · exact hno t h2 (by omega)
            · omega
          have ih := col_l0 n (w + 1) before (by omega) (by omega) hb (fun h => absurd h hb0)
          refine ih.next 0 fun k _ => ?_
          rw [wayzgooselaw03_NameColumn.l0, if_pos (by omega), bind_eq hF]
          dsimp only
          rw [if_neg (by decide), if_pos rfl, if_neg hb0, if_neg hfit, ew]
          by_cases hf0 : f = 0
          · rw [if_pos hf0]
            cases hs : cutF l own 12 dirS with
            | none =>
              rw [hs, resC] at hf
              have := congrArg Prod.snd hf
              dsimp only at this
              omega
            | some s =>
              rw [hs, resC] at hf
              have hsl := congrArg Prod.fst hf
              dsimp only at hsl
              have h3 := ((cutF_some strictS hpos).1 hs).1.1
              have h4 := hno s h3
              rw [if_neg (by rw [← hsl, dotted_size]; omega)]
          · rw [if_neg hf0]
        | some t =>
          rw [hc, resC] at hF
          obtain ⟨⟨hft, hts⟩, hmax⟩ := (cutF_some strictF hpos).1 hc
          have htl := abbr_letters hft.1 hkl
          have htp := hft.1.pos
          have hdz := dotted_size t
          have ih := col_l0 n (w + 1) (t.size : Int) (by omega) (by omega) (by omega) (fun _ => .inl ⟨t, hft, rfl, by omega⟩)
          have hbo : ¬ (t.size : Int) < before := fun hlt => by
            rcases hB (by omega) with ⟨t0, h2, h3, h4⟩ | ⟨h2, h3⟩
            · have := cutF_le.1 (hmax t0 h2 (by omega))
              omega
            · omega
          have ez : wrap64 (((dotted t).size : Int) - 1) = (t.size : Int) := by rw [IntWalk.wrap64_in _ (by omega)]; omega
          obtain ⟨b, hm, hbf⟩ := mistaken_ev hl hlen (isDot_dotted htl) (by omega) hi
          rw [ho, cutDot_dotted] at hbf
          obtain rfl : b = false := hbf.2 hft
          have h3 : Evn (fun k => wayzgooselaw03_NameColumn.j3 k l (i : Int) own least f before (w : Int) ((dotted t).size : Int) false) true := by
            refine ih.next 0 fun k _ => ?_
            rw [wayzgooselaw03_NameColumn.j3, if_neg (by decide), ez, if_neg hbo, ew]
          obtain ⟨K, hm⟩ := hm
          have h2 : Evn (fun k => wayzgooselaw03_NameColumn.j2 k l (i : Int) own least f before (w : Int) (dotted t) false) true := by
            refine h3.next K fun k hk => ?_
            rw [wayzgooselaw03_NameColumn.j2, if_neg (by decide), if_neg (dotted_ne hkl), bind_eq (hm k hk)]
            dsimp only
            rw [if_pos rfl, if_neg (by decide), decide_eq_false hfit]
          refine h2.next 0 fun k _ => ?_
          rw [wayzgooselaw03_NameColumn.l0, if_pos (by omega), bind_eq hF]
          dsimp only
          rw [if_pos rfl, if_neg (by omega), decide_eq_false (by omega)]
end

theorem NameColumn : wayzgooselaw03_NameColumn.Pure := by
  intro l0 hl _ _
  have key : Evn (fun k => wayzgooselaw03_NameColumn.f k l0) true := by
    obtain ⟨l, at2, s2, e2, g2, hn, hn5⟩ := NamesOf_ok (l := l0) hl 40 0 11400714819323198485 4 5 (by omega) (by omega) (by omega) (by omega) (by omega) (by omega)
    obtain ⟨a, at1, s1, e1, g1, ha, _⟩ := NameOf_ok (l := l0) hl 40 at2 s2 5 (by omega) g2 (by omega) (by omega)
    have hn2 := snoc_nm2 hn ha
    have hlen : (l ++ [a]).length = l.length + 1 := by simp
    obtain ⟨at_, at3, s3, e3, g3, b1, b2⟩ := To_ok (l := l0) hl at1 s1 (l.length : Int) g1 (by omega) (by omega)
    obtain ⟨i, rfl⟩ : ∃ i : Nat, at_ = (i : Int) := ⟨at_.toNat, by omega⟩
    have hi : i < (l ++ [a]).length := by omega
    obtain ⟨el, hnm⟩ := at_name hn2 hi
    obtain ⟨K1, w1⟩ := refKey_ev hnm
    have hS := Shortest_f hn2 (by omega) hi
    obtain ⟨q, hq⟩ : ∃ q, resC (cutF (l ++ [a]) (keyB ((l ++ [a]).getD i ByteArray.empty)) 12 dirS) = q := ⟨_, rfl⟩
    rw [hq] at hS
    obtain ⟨least, f⟩ := q
    have hf : f = 0 ∨ f = 11 := by
      cases hc : cutF (l ++ [a]) (keyB ((l ++ [a]).getD i ByteArray.empty)) 12 dirS with
      | none => rw [hc, resC] at hq; have := congrArg Prod.snd hq; dsimp only at this; omega
      | some s => rw [hc, resC] at hq; have := congrArg Prod.snd hq; dsimp only at this; omega
    obtain ⟨K0, w0⟩ := col_l0 hn2 (by omega) hi _ rfl least f hq 12 1 0 (by omega) (by omega) (by omega) (fun h => absurd h (by omega))
    refine ⟨K0 + K1 + 42, fun k hk => ?_⟩
    show wayzgooselaw03_NameColumn.f k l0 = some true
    unfold wayzgooselaw03_NameColumn.f wayzgoosekit_NewDice.f
    rw [bind_eq rfl]
    dsimp only
    rw [bind_eq (at_rounds (fun k => wayzgoosekit_NamesOf.mono _ _ _ _ _ k) (by omega : 40 ≤ k) e2)]
    dsimp only
    rw [bind_eq (at_rounds (fun k => wayzgoosekit_NameOf.mono _ _ _ _ k) (by omega : 40 ≤ k) e1)]
    dsimp only
    rw [if_pos (by omega), bind_eq rfl]
    have ez : wrap64 (((l ++ [a]).length : Int) - 1) = (l.length : Int) := by rw [IntWalk.wrap64_in _ (by omega)]; omega
    rw [ez, bind_eq e3]
    dsimp only
    rw [if_pos (by omega), if_pos (by omega), el, bind_eq (w1 k (by omega)), bind_eq hS]
    dsimp only
    obtain ⟨k, rfl⟩ : ∃ k', k = k' + 1 := ⟨k - 1, by omega⟩
    rcases hf with rfl | rfl
    · rw [if_pos rfl, wayzgooselaw03_NameColumn.j0, if_neg (by decide)]
      exact w0 k (by omega)
    · rw [if_neg (by decide), wayzgooselaw03_NameColumn.j0, if_neg (by decide)]
      exact w0 k (by omega)
  exact key.get
end Go.Proofs.YtapikimhmjnjeaaGreatDoor.Pure

