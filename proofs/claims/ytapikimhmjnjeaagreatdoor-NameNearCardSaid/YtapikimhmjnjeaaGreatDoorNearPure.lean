/- NameNear holds of the printed functions: a plain law. -/
import Derived.Test.YtapikimhmjnjeaaGreatDoorPrLNameNear
import Derived.Test.YtapikimhmjnjeaaGreatDoorUsesPure
import Derived.Test.YtapikimhmjnjeaaGreatDoorKit
namespace Go.Proofs.YtapikimhmjnjeaaGreatDoor.Pure
open Go.RowKit Go.Proofs.YtapikimhmjnjeaaGreatDoor Go.Proofs.YtapikimhmjnjeaaGreatDoor.Pr Go.Proofs.YtapikimhmjnjeaaGreatDoorW.PrintWords Go.Proofs.YtapikimhmjnjeaaGreatDoorW.PrintLast

/-- The indices from i on, n of them, at which just m uses are needed. -/
def nearRow (f : ByteArray → Option Nat) (l : List ByteArray) (m : Nat) : Nat → Nat → List Int
  | 0, _ => []
  | n + 1, i => (if f (l.getD i ByteArray.empty) = some m then [(i : Int)] else []) ++ nearRow f l m n (i + 1)
def nearAll (f : ByteArray → Option Nat) (l : List ByteArray) : Nat → Nat → List Int
  | 0, _ => []
  | g + 1, m => nearRow f l m l.length 0 ++ nearAll f l g (m + 1)
theorem nearRow_len (f : ByteArray → Option Nat) (l : List ByteArray) (m : Nat) : ∀ (n i : Nat), (nearRow f l m n i).length ≤ n
  | 0, _ => by simp [nearRow]
  | n + 1, i => by
    have := nearRow_len f l m n (i + 1)
    simp only [nearRow, List.length_append]
    split <;> simp <;> omega
/-- How many of the n from i on need fewer than three uses: m or more. -/
theorem nearAll_len (f : ByteArray → Option Nat) (l : List ByteArray) : ∀ (g m : Nat), (nearAll f l g m).length ≤ g * l.length
  | 0, _ => by simp [nearAll]
  | g + 1, m => by
    have h1 := nearAll_len f l g (m + 1)
    have h2 := nearRow_len f l m l.length 0
    simp only [nearAll, List.length_append, Nat.add_mul]
    omega

theorem at_nm {l : List ByteArray} (hl : ∀ s ∈ l, Nm s) {i : Nat} (h : i < l.length) : rdOf ByteArray.empty l (i : Int) = l.getD i ByteArray.empty ∧ Nm (l.getD i ByteArray.empty) := by
  refine ⟨by unfold rdOf; rw [Int.toNat_natCast], hl _ ?_⟩
  rw [List.getD_eq_getElem?_getD, List.getElem?_eq_getElem h]
  exact List.getElem_mem _

section
variable {r : List S83} (hr4 : r.length ≤ 4) (hr : ∀ x ∈ r, RuleOk x) {a : ByteArray} (ha : Nm a) {l : List ByteArray} (hl6 : l.length ≤ 6) (hl : ∀ s ∈ l, Nm s)
include hr4 hr ha hl6 hl

theorem near_l1 (m : Nat) (hm : m ≤ 2) (T : List Int × Int) (K : Nat) (hK : 7 ≤ K) : ∀ (n i k : Nat) (acc : List Int), i + n = l.length → K + n < k → acc.length + n ≤ 1000 →
    (∀ k' : Nat, K ≤ k' → name_Near.l0 k' r a l (acc ++ nearRow (usesN r a) l m n i) ((m : Int) + 1) = some T) → name_Near.l1 k r a l acc (m : Int) (m : Int) l (l.length : Int) (i : Int) = some T := by
  intro n
  induction n with
  | zero =>
    intro i k acc hi hk _ h
    obtain ⟨k, rfl⟩ : ∃ k', k = k' + 1 := ⟨k - 1, by omega⟩
    rw [name_Near.l1, if_neg (by omega), IntWalk.wrap64_in _ (by omega)]
    have := h k (by omega)
    rw [nearRow, List.append_nil] at this
    exact this
  | succ n ih =>
    intro i k acc hi hk hlen h
    obtain ⟨k, rfl⟩ : ∃ k', k = k' + 1 := ⟨k - 1, by omega⟩
    obtain ⟨e1, hn⟩ := at_nm hl (i := i) (by omega)
    have ei : wrap64 ((i : Int) + 1) = ((i + 1 : Nat) : Int) := by rw [IntWalk.wrap64_in _ (by omega)]; omega
    rw [name_Near.l1, if_pos (by omega), if_pos (by omega), if_pos (by omega), e1, bind_eq (Uses_f hr4 hr ha hn k (by omega)), ei]
    cases hu : usesN r a (l.getD i ByteArray.empty) with
    | none =>
      dsimp only
      rw [if_neg (by decide)]
      refine ih (i + 1) k acc (by omega) (by omega) (by omega) (fun k' hk' => ?_)
      have := h k' hk'
      rw [nearRow, hu, if_neg (by simp), List.nil_append] at this
      exact this
    | some q =>
      dsimp only
      rw [if_pos rfl]
      by_cases hq : q = m
      · subst hq
        rw [if_pos rfl, if_pos (by omega)]
        refine ih (i + 1) k (acc ++ [(i : Int)]) (by omega) (by omega) (by simp; omega) (fun k' hk' => ?_)
        have := h k' hk'
        rw [nearRow, hu, if_pos rfl] at this
        rw [List.append_assoc]
        exact this
      · rw [if_neg (by omega)]
        refine ih (i + 1) k acc (by omega) (by omega) (by omega) (fun k' hk' => ?_)
        have := h k' hk'
        rw [nearRow, hu, if_neg (by simpa using hq), List.nil_append] at this
        exact this

theorem near_l0 : ∀ (g m k : Nat) (acc : List Int), m + g = 3 → 8 * g + 8 ≤ k → acc.length + 6 * g ≤ 900 → name_Near.l0 k r a l acc (m : Int) = some (acc ++ nearAll (usesN r a) l g m, 0) := by
  intro g
  induction g with
  | zero =>
    intro m k acc hm hk _
    obtain ⟨k, rfl⟩ : ∃ k', k = k' + 1 := ⟨k - 1, by omega⟩
    rw [name_Near.l0, if_neg (by omega)]
    simp [nearAll]
  | succ g ih =>
    intro m k acc hm hk hlen
    obtain ⟨k, rfl⟩ : ∃ k', k = k' + 1 := ⟨k - 1, by omega⟩
    rw [name_Near.l0, if_pos (by omega)]
    refine near_l1 hr4 hr ha hl6 hl m (by omega) _ (8 * g + 8) (by omega) l.length 0 k acc (by omega) (by omega) (by omega) (fun k' hk' => ?_)
    have h2 := nearRow_len (usesN r a) l m l.length 0
    have := ih (m + 1) k' (acc ++ nearRow (usesN r a) l m l.length 0) (by omega) (by omega) (by rw [List.length_append]; omega)
    rw [show ((m + 1 : Nat) : Int) = (m : Int) + 1 by omega] at this
    rw [this, List.append_assoc]
    rfl

theorem Near_f (k : Nat) (hk : 40 ≤ k) : name_Near.f k r a l = some (nearAll (usesN r a) l 3 0, 0) := by
  unfold name_Near.f
  rw [bind_eq (rulesError_ok r hr4 hr k (by omega)), if_pos rfl, bind_eq (check_f ha), if_pos rfl, bind_eq (listed_ok l hl hl6 k (by omega)), if_pos rfl]
  have := near_l0 hr4 hr ha hl6 hl 3 0 k [] (by omega) (by omega) (by simp)
  rw [List.nil_append] at this
  exact this

theorem law_l1 (x7 : List Int) (hx : x7.length ≤ 1000) (m : Nat) (hm : m ≤ 2) (K : Nat) (hK : 7 ≤ K) : ∀ (n i k : Nat) (pre rest : List Int), i + n = l.length → K + n < k → x7 = pre ++ (nearRow (usesN r a) l m n i ++ rest) →
    (∀ k' pre', K ≤ k' → x7 = pre' ++ rest → wayzgooselaw03_NameNear.l0 k' r l a x7 (pre'.length : Int) ((m : Int) + 1) = some true) → wayzgooselaw03_NameNear.l1 k r l a x7 (pre.length : Int) (m : Int) (i : Int) = some true := by
  intro n
  induction n with
  | zero =>
    intro i k pre rest hi hk hxx h
    obtain ⟨k, rfl⟩ : ∃ k', k = k' + 1 := ⟨k - 1, by omega⟩
    rw [wayzgooselaw03_NameNear.l1, if_neg (by omega), IntWalk.wrap64_in _ (by omega)]
    exact h k pre (by omega) hxx
  | succ n ih =>
    intro i k pre rest hi hk hxx h
    obtain ⟨k, rfl⟩ : ∃ k', k = k' + 1 := ⟨k - 1, by omega⟩
    obtain ⟨e1, hn⟩ := at_nm hl (i := i) (by omega)
    have ei : wrap64 ((i : Int) + 1) = ((i + 1 : Nat) : Int) := by rw [IntWalk.wrap64_in _ (by omega)]; omega
    rw [wayzgooselaw03_NameNear.l1, if_pos (by omega), if_pos (by omega), e1, bind_eq (uses_f hr4 hr ha hn k (by omega)), ei]
    dsimp only
    rw [if_pos rfl]
    by_cases hu : usesN r a (l.getD i ByteArray.empty) = some m
    · rw [hu]
      dsimp only
      rw [if_pos rfl]
      rw [nearRow, if_pos hu] at hxx
      have hlen := congrArg List.length hxx
      simp only [List.length_append, List.length_cons, List.length_nil] at hlen
      have hrd : rd x7 (pre.length : Int) = (i : Int) := by
        unfold rd
        rw [Int.toNat_natCast, hxx]
        simp
      rw [if_neg (by omega), if_pos (by omega), if_pos (by omega), if_pos hrd]
      have ep : wrap64 ((pre.length : Int) + 1) = ((pre ++ [(i : Int)]).length : Int) := by rw [IntWalk.wrap64_in _ (by omega)]; simp
      rw [ep]
      exact ih (i + 1) k (pre ++ [(i : Int)]) rest (by omega) (by omega) (by rw [hxx]; simp) h
    · rw [nearRow, if_neg hu, List.nil_append] at hxx
      have hgo := ih (i + 1) k pre rest (by omega) (by omega) hxx h
      cases hq : usesN r a (l.getD i ByteArray.empty) with
      | none =>
        dsimp only
        rw [if_neg (by omega)]
        exact hgo
      | some q =>
        dsimp only
        rw [if_neg (by intro e; exact hu (by rw [hq, show q = m by omega]))]
        exact hgo

theorem law_l0 (x7 : List Int) (hx : x7.length ≤ 1000) : ∀ (g m k : Nat) (pre : List Int), m + g = 3 → 8 * g + 8 ≤ k → x7 = pre ++ nearAll (usesN r a) l g m → wayzgooselaw03_NameNear.l0 k r l a x7 (pre.length : Int) (m : Int) = some true := by
  intro g
  induction g with
  | zero =>
    intro m k pre hm hk hxx
    obtain ⟨k, rfl⟩ : ∃ k', k = k' + 1 := ⟨k - 1, by omega⟩
    rw [nearAll, List.append_nil] at hxx
    rw [wayzgooselaw03_NameNear.l0, if_neg (by omega), if_pos (by rw [hxx]), bind_eq (spelling_ok)]
  | succ g ih =>
    intro m k pre hm hk hxx
    obtain ⟨k, rfl⟩ : ∃ k', k = k' + 1 := ⟨k - 1, by omega⟩
    rw [wayzgooselaw03_NameNear.l0, if_pos (by omega)]
    rw [nearAll] at hxx
    refine law_l1 hr4 hr ha hl6 hl x7 hx m (by omega) (8 * g + 8) (by omega) l.length 0 k pre (nearAll (usesN r a) l g (m + 1)) (by omega) (by omega) hxx (fun k' pre' hk' hp => ?_)
    have := ih (m + 1) k' pre' (by omega) hk' hp
    rw [show ((m + 1 : Nat) : Int) = (m : Int) + 1 by omega] at this
    exact this

end
theorem nearRow_sum (f : ByteArray → Option Nat) (l : List ByteArray) : ∀ (n i : Nat), (nearRow f l 0 n i).length + (nearRow f l 1 n i).length + (nearRow f l 2 n i).length ≤ n
  | 0, _ => by simp [nearRow]
  | n + 1, i => by
    have ih := nearRow_sum f l n (i + 1)
    simp only [nearRow, List.length_append]
    cases hq : f (l.getD i ByteArray.empty) with
    | none => simp; omega
    | some q =>
      by_cases h0 : q = 0
      · subst h0; simp; omega
      · by_cases h1 : q = 1
        · subst h1; simp; omega
        · by_cases h2 : q = 2
          · subst h2; simp; omega
          · simp [h0, h1, h2]; omega
theorem nearAll_le (f : ByteArray → Option Nat) (l : List ByteArray) : (nearAll f l 3 0).length ≤ l.length := by
  have := nearRow_sum f l l.length 0
  simp only [nearAll, List.length_append, List.length_nil, Nat.zero_add, Nat.reduceAdd]
  omega

theorem near_j2 {r : List S83} (hr4 : r.length ≤ 4) (hr : ∀ x ∈ r, RuleOk x) {a : ByteArray} (ha : Nm a) {l : List ByteArray} (hl6 : l.length ≤ 6) (hl : ∀ s ∈ l, Nm s) (k : Nat) (hk : 60 ≤ k) :
    wayzgooselaw03_NameNear.j1 k r l a = some true := by
  obtain ⟨k, rfl⟩ : ∃ k', k = k' + 1 + 1 := ⟨k - 2, by omega⟩
  rw [wayzgooselaw03_NameNear.j1, bind_eq (Near_f hr4 hr ha hl6 hl (k + 1) (by omega)), if_pos rfl]
  have hle := nearAll_le (usesN r a) l
  rw [decide_eq_false (by dsimp only; omega), wayzgooselaw03_NameNear.j2, if_neg (by decide)]
  exact law_l0 hr4 hr ha hl6 hl (nearAll (usesN r a) l 3 0) (by omega) 3 0 k [] (by omega) (by omega) rfl

theorem NameNear : wayzgooselaw03_NameNear.Pure := by
  intro l0 hl _ _
  refine ⟨80, ?_⟩
  unfold wayzgooselaw03_NameNear.f wayzgoosekit_NewDice.f
  obtain ⟨r, at1, s1, e1, g1, hr, hr3⟩ := RulesOf_ok (l := l0) hl 80 0 11400714819323198485 3 (by omega) (by omega) (by omega) (by omega)
  obtain ⟨l, at2, s2, e2, g2, hn, hn5⟩ := NamesOf_ok (l := l0) hl 80 at1 s1 5 3 (by omega) g1 (by omega) (by omega) (by omega) (by omega)
  obtain ⟨a, at3, s3, e3, g3, ha, _⟩ := NameOf_ok (l := l0) hl 80 at2 s2 3 (by omega) g2 (by omega) (by omega)
  obtain ⟨b, at4, s4, e4, g4⟩ := Once_ok (l := l0) hl at3 s3 2 g3 (by omega) (by omega)
  rw [bind_eq rfl]
  dsimp only
  rw [bind_eq e1]
  dsimp only
  rw [bind_eq e2]
  dsimp only
  rw [bind_eq e3]
  dsimp only
  have hj := fun {a : ByteArray} (ha : Nm a) => near_j2 (r := r) (by omega) hr (a := a) ha (l := l) (by omega) hn
  split
  · rename_i hp
    rw [bind_eq e4]
    dsimp only
    rw [wayzgooselaw03_NameNear.j0]
    by_cases hb : b = true
    · rw [if_pos hb, if_pos hp]
      refine hj (hn _ ?_) 79 (by omega)
      unfold rdOf
      have h0 : 0 < l.length := by omega
      rw [show Int.toNat 0 = 0 from rfl, List.getD_eq_getElem?_getD, List.getElem?_eq_getElem h0]
      exact List.getElem_mem _
    · rw [if_neg hb]
      exact hj ha 79 (by omega)
  · rw [wayzgooselaw03_NameNear.j0, if_neg (by decide)]
    exact hj ha 79 (by omega)
end Go.Proofs.YtapikimhmjnjeaaGreatDoor.Pure
