/- NameSteps holds of the printed functions: a plain law. -/
import Derived.Test.YtapikimhmjnjeaaGreatDoorPrLNameSteps
import Derived.Test.YtapikimhmjnjeaaGreatDoorUsesMore
import Derived.Test.YtapikimhmjnjeaaGreatDoorRefLaw
set_option linter.unusedVariables false
set_option linter.unusedSimpArgs false
namespace Go.Proofs.YtapikimhmjnjeaaGreatDoor.Pure
open Go.RowKit Go.Proofs.YtapikimhmjnjeaaGreatDoor Go.Proofs.YtapikimhmjnjeaaGreatDoor.Pr Go.Proofs.YtapikimhmjnjeaaGreatDoorW.PrintWords Go.Proofs.YtapikimhmjnjeaaGreatDoorW.PrintLast

theorem at_rule {r : List S83} (hr : ∀ x ∈ r, RuleOk x) {i : Nat} (h : i < r.length) : rd_T83 r (i : Int) ∈ r ∧ RuleOk (rd_T83 r (i : Int)) := by
  have hm : rd_T83 r (i : Int) ∈ r := by
    unfold rd_T83
    rw [Int.toNat_natCast, List.getD_eq_getElem?_getD, List.getElem?_eq_getElem (by omega)]
    exact List.getElem_mem _
  exact ⟨hm, hr _ hm⟩

/-- What the rules from i on make of a string, in the order of the text. -/
def madeL (r : List S83) (s : ByteArray) : List ByteArray := r.flatMap fun x => refL s x.f0 x.f1 ++ refL s x.f1 x.f0
theorem mem_madeL {r : List S83} (hr : ∀ x ∈ r, RuleOk x) {s x : ByteArray} (hs : lettersB s 1 12 = true) : x ∈ madeL r s ↔ x ∈ usesL (r.map toRl) s := by
  have hl := (letters_iff.1 hs).2
  rw [mem_usesL]
  unfold madeL
  rw [List.mem_flatMap]
  constructor
  · rintro ⟨y, hy, h⟩
    have h1 := (letters_iff.1 (hr y hy).1).2
    have h2 := (letters_iff.1 (hr y hy).2.1).2
    refine ⟨toRl y, List.mem_map.2 ⟨y, hy, rfl⟩, ?_⟩
    rcases List.mem_append.1 h with h | h
    · exact .inl ((mem_refL_swap hl h2).1 h)
    · exact .inr ((mem_refL_swap hl h1).1 h)
  · rintro ⟨z, hz, h⟩
    obtain ⟨y, hy, rfl⟩ := List.mem_map.1 hz
    have h1 := (letters_iff.1 (hr y hy).1).2
    have h2 := (letters_iff.1 (hr y hy).2.1).2
    refine ⟨y, hy, List.mem_append.2 ?_⟩
    rcases h with h | h
    · exact .inl ((mem_refL_swap hl h2).2 h)
    · exact .inr ((mem_refL_swap hl h1).2 h)
theorem madeL_len (s : ByteArray) : ∀ (r : List S83), (madeL r s).length ≤ 2 * (s.size + 1) * r.length
  | [] => by simp [madeL]
  | x :: r => by
    have h1 := madeL_len s r
    have h2 := refL_len s x.f0 x.f1
    have h3 := refL_len s x.f1 x.f0
    unfold madeL at h1 ⊢
    rw [List.flatMap_cons, List.length_append, List.length_append, List.length_cons, Nat.mul_add]
    omega
theorem rep_f {a b c : ByteArray} (ha : a.size ≤ 1000) (hb : b.size ≤ 1000) (hc : c.size ≤ 1000) : wayzgooseref03_replaced.f a b c = some (refL a b c) := by
  unfold wayzgooseref03_replaced.f
  rw [if_pos ⟨ha, hb, hc⟩]
theorem rule_size {x : S83} (h : RuleOk x) : x.f0.size ≤ 2 ∧ x.f1.size ≤ 2 := by
  have h1 := (letters_iff.1 h.1).1.2
  have h2 := (letters_iff.1 h.2.1).1.2
  omega
theorem Made_l0 {r : List S83} (hr4 : r.length ≤ 4) (hr : ∀ x ∈ r, RuleOk x) {s : ByteArray} (hs : s.size ≤ 12) : ∀ (n i k : Nat) (acc : List ByteArray), i + n = r.length → n < k → acc.length + 26 * n ≤ 1000 →
    wayzgooseref03_Made.l0 k r s acc (i : Int) = some (acc ++ madeL (r.drop i) s) := by
  intro n
  induction n with
  | zero =>
    intro i k acc hi hk _
    obtain ⟨k, rfl⟩ : ∃ k', k = k' + 1 := ⟨k - 1, by omega⟩
    rw [wayzgooseref03_Made.l0, if_neg (by omega), List.drop_of_length_le (by omega)]
    simp [madeL]
  | succ n ih =>
    intro i k acc hi hk hacc
    obtain ⟨k, rfl⟩ : ∃ k', k = k' + 1 := ⟨k - 1, by omega⟩
    obtain ⟨hm, hok⟩ := at_rule hr (i := i) (by omega)
    have hz := rule_size hok
    have e1 : r.drop i = rd_T83 r (i : Int) :: r.drop (i + 1) := by
      rw [List.drop_eq_getElem_cons (by omega : i < r.length)]
      unfold rd_T83
      rw [Int.toNat_natCast, List.getD_eq_getElem?_getD, List.getElem?_eq_getElem (by omega)]
      rfl
    have l1 := refL_len s (rd_T83 r (i : Int)).f0 (rd_T83 r (i : Int)).f1
    have l2 := refL_len s (rd_T83 r (i : Int)).f1 (rd_T83 r (i : Int)).f0
    rw [wayzgooseref03_Made.l0, if_pos (by omega), if_pos (by omega), bind_eq (rep_f (by omega) (by omega) (by omega)), if_pos (by omega), bind_eq rfl, bind_eq (rep_f (by omega) (by omega) (by omega)), if_pos (by rw [List.length_append]; omega), IntWalk.wrap64_in _ (by omega)]
    have := ih (i + 1) k (acc ++ refL s (rd_T83 r (i : Int)).f0 (rd_T83 r (i : Int)).f1 ++ refL s (rd_T83 r (i : Int)).f1 (rd_T83 r (i : Int)).f0) (by omega) (by omega) (by rw [List.length_append, List.length_append]; omega)
    rw [show ((i + 1 : Nat) : Int) = (i : Int) + 1 by omega] at this
    rw [this, e1]
    unfold madeL
    rw [List.flatMap_cons]
    simp
theorem Made_f {r : List S83} (hr4 : r.length ≤ 4) (hr : ∀ x ∈ r, RuleOk x) {s : ByteArray} (hs : s.size ≤ 12) (k : Nat) (hk : 5 ≤ k) : wayzgooseref03_Made.f k r s = some (madeL r s) := by
  unfold wayzgooseref03_Made.f
  have := Made_l0 hr4 hr hs r.length 0 k [] (by omega) (by omega) (by simp; omega)
  rw [List.drop_zero, List.nil_append] at this
  exact this

theorem usesN_chain {l : List S83} {a b : ByteArray} {n : Nat} (h : usesN l a b = some n) : ∃ c, chainK l a b = some c ∧ ChainIs (l.map toRl) (keyB b) n (keyB a) c ∧ n ≤ 2 := by
  have h2 := usesN_le2 h
  unfold usesN at h
  cases hc : chainK l a b with
  | none => rw [hc] at h; cases h
  | some c =>
    rw [hc] at h
    obtain ⟨m, h3, h4, _⟩ := chainF_some hc
    have h5 := chainAt_some h4
    have := h5.len
    have e : c.length - 1 = n := by simpa using h
    obtain rfl : m = n := by omega
    exact ⟨c, rfl, h5, h2⟩
theorem at_any {c : List ByteArray} (i : Nat) : rdOf ByteArray.empty c (i : Int) = c.getD i ByteArray.empty := by unfold rdOf; rw [Int.toNat_natCast]

section
variable {r : List S83} (hr4 : r.length ≤ 4) (hr : ∀ x ∈ r, RuleOk x) {l : List ByteArray} (hl6 : l.length ≤ 6) (hl : ∀ s ∈ l, Nm s)

theorem steps_l3 {r : List S83} {l : List ByteArray} (i m u : Int) (c made : List ByteArray) (j K : Nat) (hj : j < c.length) (hmade : made.length ≤ 1000) : ∀ (n q k : Nat) (met : Bool), q + n = made.length → K + n < k →
    (met = true ∨ c.getD j ByteArray.empty ∈ made.drop q) →
    (∀ k' : Nat, K ≤ k' → wayzgooselaw03_NameSteps.l2 k' r l i m u c (wrap64 ((j : Int) + 1)) = some true) →
    wayzgooselaw03_NameSteps.l3 k r l i m u c (j : Int) made met (q : Int) = some true := by
  intro n
  induction n with
  | zero =>
    intro q k met hq hk hmet h
    obtain ⟨k, rfl⟩ : ∃ k', k = k' + 1 := ⟨k - 1, by omega⟩
    have hmet : met = true := by
      rcases hmet with h1 | h1
      · exact h1
      · rw [List.drop_of_length_le (by omega)] at h1; cases h1
    rw [wayzgooselaw03_NameSteps.l3, if_neg (by omega), if_pos hmet]
    exact h k (by omega)
  | succ n ih =>
    intro q k met hq hk hmet h
    obtain ⟨k, rfl⟩ : ∃ k', k = k' + 1 := ⟨k - 1, by omega⟩
    have ee : wrap64 ((q : Int) + 1) = ((q + 1 : Nat) : Int) := by rw [IntWalk.wrap64_in _ (by omega)]; omega
    rw [wayzgooselaw03_NameSteps.l3, if_pos (by omega), ee]
    cases met with
    | true =>
      rw [if_pos rfl]
      exact ih (q + 1) k true (by omega) (by omega) (.inl rfl) h
    | false =>
      rw [if_neg (by decide), if_pos (by omega), if_pos (by omega), if_pos (by omega), at_any, at_any, tl_beq]
      refine ih (q + 1) k _ (by omega) (by omega) ?_ h
      rcases hmet with h1 | h1
      · cases h1
      · rw [List.drop_eq_getElem_cons (by omega : q < made.length)] at h1
        rcases List.mem_cons.1 h1 with h2 | h2
        · left
          rw [decide_eq_true_eq, List.getD_eq_getElem?_getD, List.getElem?_eq_getElem (by omega)]
          exact h2.symm
        · exact .inr h2

include hr4 hr
theorem steps_l2 {l : List ByteArray} (i m : Int) (c : List ByteArray) (a b : ByteArray) (N K : Nat) (hN : N ≤ 2) (hc : ChainIs (r.map toRl) b N a c) (ha : lettersB a 1 12 = true) : ∀ (n j k : Nat), j + n = N + 1 → 1 ≤ j → K + 200 * n + 10 < k →
    (∀ k' : Nat, K ≤ k' → wayzgooselaw03_NameSteps.l1 k' r l i (wrap64 (m + 1)) = some true) →
    wayzgooselaw03_NameSteps.l2 k r l i m (N : Int) c (j : Int) = some true := by
  intro n
  induction n with
  | zero =>
    intro j k hj hj1 hk h
    obtain ⟨k, rfl⟩ : ∃ k', k = k' + 1 := ⟨k - 1, by omega⟩
    rw [wayzgooselaw03_NameSteps.l2, if_neg (by omega)]
    exact h k (by omega)
  | succ n ih =>
    intro j k hj hj1 hk h
    obtain ⟨k, rfl⟩ : ∃ k', k = k' + 1 := ⟨k - 1, by omega⟩
    have hlen := hc.len
    have ee : wrap64 ((j : Int) - 1) = ((j - 1 : Nat) : Int) := by rw [IntWalk.wrap64_in _ (by omega)]; omega
    have hlet := hc.letters ha (j - 1) (by omega)
    have hsz := (letters_iff.1 hlet).1.2
    have hst := hc.step (j - 1) (by omega)
    rw [show j - 1 + 1 = j by omega] at hst
    have hml := madeL_len (c.getD (j - 1) ByteArray.empty) r
    have hmb : 2 * ((c.getD (j - 1) ByteArray.empty).size + 1) * r.length ≤ 2 * 13 * 4 := Nat.mul_le_mul (Nat.mul_le_mul_left 2 (by omega)) hr4
    rw [wayzgooselaw03_NameSteps.l2, if_pos (by omega), ee, if_pos (by omega), if_pos (by omega), at_any, if_neg (by omega), bind_eq (Made_f hr4 hr (by omega) k (by omega))]
    refine steps_l3 i m N c _ j (K + 200 * n + 11) (by omega) (by omega) _ 0 k false (Nat.zero_add _) (by omega) (.inr ?_) (fun k' hk' => ?_)
    · rw [List.drop_zero]
      exact (mem_madeL hr hlet).2 hst
    · have := ih (j + 1) k' (by omega) (by omega) (by omega) h
      rw [IntWalk.wrap64_in _ (by omega)]
      rw [show ((j + 1 : Nat) : Int) = (j : Int) + 1 by omega] at this
      exact this

include hl6 hl
theorem steps_l1 (i K : Nat) (hi : i < l.length) (hK : 7 ≤ K) : ∀ (n m k : Nat), m + n = l.length → K + 620 * n < k →
    (∀ k' : Nat, K ≤ k' → wayzgooselaw03_NameSteps.l0 k' r l ((i : Int) + 1) = some true) → wayzgooselaw03_NameSteps.l1 k r l (i : Int) (m : Int) = some true := by
  intro n
  induction n with
  | zero =>
    intro m k hm hk h
    obtain ⟨k, rfl⟩ : ∃ k', k = k' + 1 := ⟨k - 1, by omega⟩
    rw [wayzgooselaw03_NameSteps.l1, if_neg (by omega), IntWalk.wrap64_in _ (by omega)]
    exact h k (by omega)
  | succ n ih =>
    intro m k hm hk h
    obtain ⟨k, rfl⟩ : ∃ k', k = k' + 3 := ⟨k - 3, by omega⟩
    obtain ⟨ei, ni⟩ := at_name hl hi
    obtain ⟨em, nm⟩ := at_name hl (i := m) (by omega)
    have next : ∀ k' : Nat, K + 620 * n + 1 ≤ k' → wayzgooselaw03_NameSteps.l1 k' r l (i : Int) (wrap64 ((m : Int) + 1)) = some true := fun k' hk' => by
      have := ih (m + 1) k' (by omega) (by omega) h
      rw [IntWalk.wrap64_in _ (by omega)]
      rw [show ((m + 1 : Nat) : Int) = (m : Int) + 1 by omega] at this
      exact this
    rw [wayzgooselaw03_NameSteps.l1, if_pos (by omega), if_pos (by omega), if_pos (by omega), if_pos (by omega), ei, em, bind_eq (uses_v hr4 hr ni nm (k + 2) (by omega)), bind_eq (Chain_f hr4 hr ni nm (k + 2) (by omega)), bind_eq (Verdict_f hr4 hr ni nm (k + 2) (by omega))]
    dsimp only
    rw [if_pos rfl, wayzgooselaw03_NameSteps.j2, if_neg (by decide)]
    cases hu : usesN r (l.getD i ByteArray.empty) (l.getD m ByteArray.empty) with
    | none =>
      have hc : chainK r (l.getD i ByteArray.empty) (l.getD m ByteArray.empty) = none := by
        unfold usesN at hu
        cases hc : chainK r (l.getD i ByteArray.empty) (l.getD m ByteArray.empty) with
        | none => rfl
        | some c => rw [hc] at hu; cases hu
      rw [hc, if_pos (by decide), if_pos (by decide), if_neg (by decide), if_pos (by decide)]
      exact next (k + 1) (by omega)
    | some N =>
      obtain ⟨c, hc, hci, hN⟩ := usesN_chain hu
      have hlen := hci.len
      have eu : uval (some N) = (N : Int) := rfl
      have e0 : rdOf ByteArray.empty c 0 = keyB (l.getD i ByteArray.empty) := (at_any (c := c) 0).trans hci.head
      have eN : rdOf ByteArray.empty c (N : Int) = keyB (l.getD m ByteArray.empty) := (at_any N).trans hci.last
      have eg : (some c).getD [] = c := rfl
      rw [hc, eu, eg, if_neg (by omega), if_pos (by omega), if_pos (by omega), ei, bind_eq (Key_f ni), if_pos (by omega), if_pos (by omega), em, bind_eq (Key_f nm)]
      dsimp only
      rw [if_pos (by rfl), if_pos rfl, if_pos rfl, IntWalk.wrap64_in ((N : Int) + 1) (by omega), if_pos (by omega), if_pos (by omega), e0, if_pos rfl, if_pos (by omega), if_pos (by omega), eN, if_pos rfl]
      have hv : ((verd (some N) == 1) != ((N : Int) == 0)) = false ∧ (verd (some N) == 2) = false := by
        cases N with
        | zero => exact ⟨rfl, rfl⟩
        | succ N => exact ⟨by have : ((N + 1 : Nat) : Int) ≠ 0 := by omega
                              rw [beq_eq_false_iff_ne.2 this]; rfl, rfl⟩
      rw [hv.1, hv.2, if_neg (by decide), wayzgooselaw03_NameSteps.j3, if_neg (by decide)]
      exact steps_l2 hr4 hr i m c _ _ N (K + 620 * n + 1) hN hci (key_letters ni) N 1 k (by omega) (by omega) (by omega) next

theorem steps_l0 : ∀ (n i k : Nat), i + n = l.length → 4000 * n + 10 < k → wayzgooselaw03_NameSteps.l0 k r l (i : Int) = some true := by
  intro n
  induction n with
  | zero =>
    intro i k hi hk
    obtain ⟨k, rfl⟩ : ∃ k', k = k' + 1 := ⟨k - 1, by omega⟩
    rw [wayzgooselaw03_NameSteps.l0, if_neg (by omega), bind_eq (spelling_ok)]
  | succ n ih =>
    intro i k hi hk
    obtain ⟨k, rfl⟩ : ∃ k', k = k' + 1 := ⟨k - 1, by omega⟩
    rw [wayzgooselaw03_NameSteps.l0, if_pos (by omega)]
    refine steps_l1 hr4 hr hl6 hl i (4000 * n + 11) (by omega) (by omega) l.length 0 k (by omega) (by omega) (fun k' hk' => ?_)
    have := ih (i + 1) k' (by omega) (by omega)
    rw [show ((i + 1 : Nat) : Int) = (i : Int) + 1 by omega] at this
    exact this
end

theorem NameSteps : wayzgooselaw03_NameSteps.Pure := by
  intro l0 hl _ _
  refine ⟨30000, ?_⟩
  unfold wayzgooselaw03_NameSteps.f wayzgoosekit_NewDice.f
  obtain ⟨r, at1, s1, e1, g1, hr, hr3⟩ := RulesOf_ok (l := l0) hl 30000 0 11400714819323198485 3 (by omega) (by omega) (by omega) (by omega)
  obtain ⟨l, at2, s2, e2, g2, hn, hn5⟩ := NamesOf_ok (l := l0) hl 30000 at1 s1 3 3 (by omega) g1 (by omega) (by omega) (by omega) (by omega)
  obtain ⟨a, at3, s3, e3, g3, ha, _⟩ := NameOf_ok (l := l0) hl 30000 at2 s2 3 (by omega) g2 (by omega) (by omega)
  rw [bind_eq rfl]
  dsimp only
  rw [bind_eq e1]
  dsimp only
  rw [bind_eq e2]
  dsimp only
  rw [bind_eq e3]
  dsimp only
  rw [if_pos (by omega)]
  have hnn : ∀ s ∈ l ++ [a], Nm s := fun s hs => by
    rcases List.mem_append.1 hs with hs | hs
    · exact hn s hs
    · obtain rfl := List.mem_singleton.1 hs; exact ha
  exact steps_l0 (by omega) hr (by simp; omega) hnn (l ++ [a]).length 0 30000 (by omega) (by simp; omega)
end Go.Proofs.YtapikimhmjnjeaaGreatDoor.Pure
