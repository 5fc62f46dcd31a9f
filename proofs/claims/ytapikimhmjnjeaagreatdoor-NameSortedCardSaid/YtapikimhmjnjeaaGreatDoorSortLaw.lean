/- Plain laws of the stable order that Sort makes: no program in sight. -/
import Derived.Test.YtapikimhmjnjeaaGreatDoorBaseD
import Derived.Test.YtapikimhmjnjeaaGreatDoorPlaceN
import Derived.Test.YtapikimhmjnjeaaGreatDoorNameOrder
import Derived.Test.YtapikimhmjnjeaaGreatDoorWrongLaw
/- Plain laws of the stable order that Sort makes: no program in sight. -/
set_option linter.unusedVariables false
set_option linter.unusedSimpArgs false
namespace Go.Proofs.YtapikimhmjnjeaaGreatDoor
open Go.RowKit Go.Proofs.YtapikimhmjnjeaaGreatDoorW.PrintWords

/-- Insertion into a row that is held with its last element ahead. -/
def insR (cf : Int → Int → Int) (x : Int) : List Int → List Int
  | [] => [x]
  | y :: r => if cf x y < 0 then y :: insR cf x r else x :: y :: r

theorem rd_mid (q : List Int) (y : Int) (t : List Int) : rd (q ++ y :: t) (q.length : Int) = y := by
  unfold rd
  rw [Int.toNat_natCast, List.getD_eq_getElem?_getD, List.getElem?_append_right (Nat.le_refl _), Nat.sub_self]
  rfl
theorem rd_mid1 (q : List Int) (y x : Int) (t : List Int) : rd (q ++ y :: x :: t) ((q.length : Int) + 1) = x := by
  have := rd_mid (q ++ [y]) x t
  rw [List.length_append, List.append_assoc] at this
  exact this
theorem swap_mid (q : List Int) (y x : Int) (t : List Int) : swapL (q ++ y :: x :: t) q.length = q ++ x :: y :: t := by
  unfold swapL
  rw [rd_mid, rd_mid1]
  have e : (q ++ y :: x :: t).set (q.length + 1) y = q ++ y :: y :: t := by
    rw [List.set_append_right _ _ (by omega), show q.length + 1 - q.length = 1 by omega]
    rfl
  rw [e, List.set_append_right _ _ (by omega), Nat.sub_self]
  rfl
theorem insIn_eq (cf : Int → Int → Int) (x : Int) : ∀ (r post : List Int), insIn cf r.length (r.reverse ++ x :: post) = (insR cf x r).reverse ++ post
  | [], post => rfl
  | y :: r, post => by
    rw [List.length_cons, insIn, List.reverse_cons, List.append_assoc, List.singleton_append]
    have h1 := rd_mid r.reverse y (x :: post)
    have h2 := rd_mid1 r.reverse y x post
    have h3 := swap_mid r.reverse y x post
    rw [List.length_reverse] at h1 h2 h3
    rw [h1, h2, h3, insIn_eq cf x r (y :: post), insR]
    split <;> simp
theorem insOut_eq (cf : Int → Int → Int) : ∀ (t r : List Int), insOut cf t.length r.length (r.reverse ++ t) = (t.foldl (fun r x => insR cf x r) r).reverse
  | [], r => by simp [insOut]
  | x :: t, r => by
    rw [List.length_cons, insOut, insIn_eq]
    have hl : ∀ r : List Int, (insR cf x r).length = r.length + 1 := by
      intro r
      induction r with
      | nil => rfl
      | cons y r ih => rw [insR]; split <;> simp [ih]
    have := insOut_eq cf t (insR cf x r)
    rw [hl] at this
    exact this
theorem insL_eq (cf : Int → Int → Int) (d : List Int) : insL cf d = (d.foldl (fun r x => insR cf x r) []).reverse := by
  cases d with
  | nil => rfl
  | cons x t => exact insOut_eq cf t [x]

theorem insR_perm (cf : Int → Int → Int) (x : Int) : ∀ r : List Int, (insR cf x r).Perm (x :: r)
  | [] => List.Perm.refl _
  | y :: r => by
    rw [insR]
    split
    · exact ((insR_perm cf x r).cons y).trans (List.Perm.swap x y r)
    · exact List.Perm.refl _
/-- Less, or alike and with the lesser index. -/
def LtI (l : List ByteArray) (x y : Int) : Prop := cmpI l x y < 0 ∨ (cmpI l x y = 0 ∧ x < y)

theorem nm_at {l : List ByteArray} (hl : ∀ s ∈ l, Nm s) {x : Int} (h0 : 0 ≤ x) (h1 : x < l.length) : Nm (l.getD x.toNat ByteArray.empty) := by
  refine hl _ ?_
  rw [List.getD_eq_getElem?_getD, List.getElem?_eq_getElem (by omega)]
  exact List.getElem_mem _
theorem ltI_trans {l : List ByteArray} (hl : ∀ s ∈ l, Nm s) {x y z : Int} (hx0 : 0 ≤ x) (hx : x < l.length) (hy0 : 0 ≤ y) (hy : y < l.length) (hz0 : 0 ≤ z) (hz : z < l.length) (h1 : LtI l x y) (h2 : LtI l y z) : LtI l x z := by
  have nx := nm_at hl hx0 hx
  have ny := nm_at hl hy0 hy
  have nz := nm_at hl hz0 hz
  unfold LtI cmpI at *
  rcases h1 with h1 | ⟨e1, h1⟩ <;> rcases h2 with h2 | ⟨e2, h2⟩
  · exact .inl (cmpN_trans h1 h2)
  · rw [cmpN_zero ny nz] at e2
    rw [e2] at h1
    exact .inl h1
  · rw [cmpN_zero nx ny] at e1
    rw [← e1] at h2
    exact .inl h2
  · rw [cmpN_zero nx ny] at e1
    rw [← e1] at e2
    exact .inr ⟨e2, by omega⟩
theorem ltI_irrefl {l : List ByteArray} (x : Int) : ¬ LtI l x x := by
  unfold LtI cmpI
  rintro (h | ⟨_, h⟩)
  · exact cmpN_irrefl _ h
  · omega
theorem ltI_total {l : List ByteArray} {x y : Int} (hne : x ≠ y) : LtI l x y ∨ LtI l y x := by
  have h1 := cmpN_neg (l.getD x.toNat ByteArray.empty) (l.getD y.toNat ByteArray.empty)
  unfold LtI cmpI
  omega
theorem insR_sorted {l : List ByteArray} (hl : ∀ s ∈ l, Nm s) {x : Int} (hx0 : 0 ≤ x) (hx : x < l.length) : ∀ r : List Int, (∀ y ∈ r, 0 ≤ y ∧ y < x) → r.Pairwise (fun a b => LtI l b a) → (insR (cmpI l) x r).Pairwise (fun a b => LtI l b a)
  | [], _, _ => List.pairwise_singleton _ _
  | y :: r, hr, hp => by
    obtain ⟨hy, hp2⟩ := List.pairwise_cons.1 hp
    have hyr := hr y (List.mem_cons_self ..)
    rw [insR]
    split
    · rename_i hlt
      refine List.pairwise_cons.2 ⟨fun z hz => ?_, insR_sorted hl hx0 hx r (fun z hz => hr z (List.mem_cons_of_mem _ hz)) hp2⟩
      rcases List.mem_cons.1 ((insR_perm _ x r).mem_iff.1 hz) with rfl | hz
      · exact .inl hlt
      · exact hy z hz
    · rename_i hlt
      have hyx : LtI l y x := by
        rcases ltI_total (l := l) (show y ≠ x by omega) with h | h
        · exact h
        · rcases h with h | ⟨_, h⟩
          · exact absurd h hlt
          · omega
      refine List.pairwise_cons.2 ⟨fun z hz => ?_, hp⟩
      rcases List.mem_cons.1 hz with rfl | hz
      · exact hyx
      · have hzr := hr z (List.mem_cons_of_mem _ hz)
        exact ltI_trans hl hzr.1 (by omega) hyr.1 (by omega) hx0 hx (hy z hz) hyx
theorem idxL_mem {n : Nat} {x : Int} : x ∈ idxL n ↔ 0 ≤ x ∧ x < n := by
  unfold idxL
  rw [List.mem_map]
  constructor
  · rintro ⟨q, hq, rfl⟩
    have := List.mem_range.1 hq
    exact ⟨Int.natCast_nonneg q, by show (q : Int) < _; omega⟩
  · rintro ⟨h0, h1⟩
    exact ⟨x.toNat, List.mem_range.2 (by omega), by show (x.toNat : Int) = x; omega⟩
theorem fold_sorted {l : List ByteArray} (hl : ∀ s ∈ l, Nm s) : ∀ n, n ≤ l.length → ((idxL n).foldl (fun r x => insR (cmpI l) x r) []).Perm (idxL n) ∧ ((idxL n).foldl (fun r x => insR (cmpI l) x r) []).Pairwise (fun a b => LtI l b a)
  | 0, _ => ⟨List.Perm.refl _, List.Pairwise.nil⟩
  | n + 1, hn => by
    obtain ⟨h1, h2⟩ := fold_sorted hl n (by omega)
    rw [idxL_succ, List.foldl_append, List.foldl_cons, List.foldl_nil]
    refine ⟨((insR_perm _ _ _).trans (h1.cons _)).trans (List.perm_append_singleton _ _).symm, insR_sorted hl (by omega) (by omega) _ (fun y hy => ?_) h2⟩
    exact idxL_mem.1 (h1.mem_iff.1 hy)
theorem sortL_perm {l : List ByteArray} (hl : ∀ s ∈ l, Nm s) : (sortL l).Perm (idxL l.length) := by
  unfold sortL
  rw [insL_eq]
  exact (List.reverse_perm _).trans (fold_sorted hl l.length (Nat.le_refl _)).1
theorem sortL_sorted {l : List ByteArray} (hl : ∀ s ∈ l, Nm s) : (sortL l).Pairwise (LtI l) := by
  unfold sortL
  rw [insL_eq, List.pairwise_reverse]
  exact (fold_sorted hl l.length (Nat.le_refl _)).2
theorem sortL_len {l : List ByteArray} (hl : ∀ s ∈ l, Nm s) : (sortL l).length = l.length := by
  rw [(sortL_perm hl).length_eq, idxL_len]
theorem sortL_mem {l : List ByteArray} (hl : ∀ s ∈ l, Nm s) {x : Int} : x ∈ sortL l ↔ 0 ≤ x ∧ x < l.length := by
  rw [(sortL_perm hl).mem_iff, idxL_mem]

/-- The names in the order of Sort. -/
def namesS (l : List ByteArray) : List ByteArray := (sortL l).map fun x => l.getD x.toNat ByteArray.empty
theorem namesS_len {l : List ByteArray} (hl : ∀ s ∈ l, Nm s) : (namesS l).length = l.length := by unfold namesS; rw [List.length_map, sortL_len hl]
theorem namesS_nm {l : List ByteArray} (hl : ∀ s ∈ l, Nm s) : ∀ s ∈ namesS l, Nm s := fun s hs => by
  unfold namesS at hs
  obtain ⟨x, hx, rfl⟩ := List.mem_map.1 hs
  obtain ⟨h0, h1⟩ := (sortL_mem hl).1 hx
  exact nm_at hl h0 h1
theorem namesS_at {l : List ByteArray} (hl : ∀ s ∈ l, Nm s) {i : Nat} (hi : i < l.length) : (namesS l).getD i ByteArray.empty = l.getD ((sortL l).getD i 0).toNat ByteArray.empty := by
  have hi2 : i < (sortL l).length := by rw [sortL_len hl]; exact hi
  unfold namesS
  rw [List.getD_eq_getElem?_getD, List.getElem?_map, List.getElem?_eq_getElem hi2, List.getD_eq_getElem?_getD (l := sortL l), List.getElem?_eq_getElem hi2]
  rfl
theorem namesS_lt {l : List ByteArray} (hl : ∀ s ∈ l, Nm s) {i j : Nat} (hij : i < j) (hj : j < l.length) : LtI l ((sortL l).getD i 0) ((sortL l).getD j 0) := by
  have hj2 : j < (sortL l).length := by rw [sortL_len hl]; exact hj
  have h := List.pairwise_iff_getElem.1 (sortL_sorted hl) i j (by omega) hj2 hij
  rw [List.getD_eq_getElem?_getD, List.getElem?_eq_getElem (by omega), List.getD_eq_getElem?_getD, List.getElem?_eq_getElem hj2]
  exact h
theorem namesS_le {l : List ByteArray} (hl : ∀ s ∈ l, Nm s) {i j : Nat} (hij : i ≤ j) (hj : j < l.length) : ¬ cmpN ((namesS l).getD j ByteArray.empty) ((namesS l).getD i ByteArray.empty) < 0 := by
  rw [namesS_at hl hj, namesS_at hl (by omega)]
  by_cases e : i = j
  · subst e; exact cmpN_irrefl _
  · have h := namesS_lt hl (show i < j by omega) hj
    have h2 := cmpN_neg (l.getD ((sortL l).getD i 0).toNat ByteArray.empty) (l.getD ((sortL l).getD j 0).toNat ByteArray.empty)
    unfold LtI cmpI at h
    omega
theorem okN_namesS {l : List ByteArray} (hl : ∀ s ∈ l, Nm s) : okN (namesS l) = true := by
  unfold okN
  have : ∀ n, n < l.length ∨ n = 0 → downN (namesS l) n = true := by
    intro n
    induction n with
    | zero => intro _; rfl
    | succ n ih =>
      intro h
      rw [downN, ih (by omega), decide_eq_false (namesS_le hl (show n ≤ n + 1 by omega) (by omega))]
      rfl
  exact this _ (by rw [namesS_len hl]; omega)
/-- A list in order has no name at a wrong place. -/
theorem wrongL_ok {l : List ByteArray} (h : okN l = true) : wrongL l = some [] := by
  refine wrongL_iff.2 ⟨⟨List.nil_sublist _, ?_⟩, fun y _ _ => ?_⟩
  · have e : lessAt l [] = l := by
      unfold lessAt
      refine List.ext_getElem? fun i => ?_
      have e1 : (List.range l.length).filter (fun j : Nat => !([] : List Int).contains (j : Int)) = List.range l.length := by
        rw [List.filter_eq_self]
        intro a _
        rfl
      rw [e1, List.getElem?_map]
      by_cases hi : i < l.length
      · rw [List.getElem?_range hi, Option.map_some, List.getD_eq_getElem?_getD, List.getElem?_eq_getElem hi]
        rfl
      · rw [List.getElem?_eq_none (by simp; omega), List.getElem?_eq_none (by omega)]
        rfl
    rw [e]; exact h
  · rw [shorterF_lt]
    rintro (h1 | ⟨h1, h2⟩)
    · simp at h1
    · have : y = [] := List.length_eq_zero_iff.1 (by simpa using h1)
      subst this
      exact cmpIL_irrefl _ h2
/-- How many names of a list in order come before one of them: as many as stand ahead of its first like. -/
theorem lessN_split (s : ByteArray) : ∀ (l : List ByteArray) (q : Nat), (∀ i, i < q → cmpN (l.getD i ByteArray.empty) s < 0) → (∀ i, q ≤ i → i < l.length → ¬ cmpN (l.getD i ByteArray.empty) s < 0) → q ≤ l.length → lessN s l = q
  | [], q, _, _, hq => by simp at hq; subst hq; rfl
  | x :: l, q, h1, h2, hq => by
    rw [lessN]
    cases q with
    | zero =>
      have h3 := h2 0 (Nat.le_refl _) (by simp)
      have h3 : ¬ cmpN x s < 0 := h3
      rw [if_neg h3, lessN_split s l 0 (fun i hi => by omega) (fun i _ hi => h2 (i + 1) (by omega) (by simp; omega)) (by omega)]
    | succ q =>
      have h3 := h1 0 (by omega)
      have h3 : cmpN x s < 0 := h3
      rw [if_pos h3, lessN_split s l q (fun i hi => h1 (i + 1) (by omega)) (fun i hq hi => h2 (i + 1) (by omega) (by simp; omega)) (by simp at hq; omega)]
      omega
end Go.Proofs.YtapikimhmjnjeaaGreatDoor

