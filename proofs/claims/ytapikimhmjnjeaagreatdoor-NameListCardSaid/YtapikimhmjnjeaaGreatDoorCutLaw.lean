/- Plain laws of abbreviations and of what can be mistaken: no program in sight. -/
import Derived.Test.YtapikimhmjnjeaaGreatDoorBaseE
import Derived.Test.YtapikimhmjnjeaaGreatDoorChainLaw
/- Plain laws of abbreviations and of what can be mistaken: no program in sight. -/
set_option linter.unusedVariables false
set_option linter.unusedSimpArgs false
namespace Go.Proofs.YtapikimhmjnjeaaGreatDoor
open Go.RowKit

/-- Some letters stand for a key: as many as it has are too many, the first one is its first one, the others are letters of it in the same order. -/
def Abbr (s k : ByteArray) : Prop := ∃ (c : UInt8) (t u : L), s.data.toList = c :: t ∧ k.data.toList = c :: u ∧ t.Sublist u ∧ t.length < u.length

theorem standsL_iff : ∀ (w r : L), r ≠ [] → (standsL r w = true ↔ r.Sublist w)
  | [], r, hr => by
    constructor
    · intro h; simp [standsL] at h
    · intro h; exact absurd (List.sublist_nil.1 h) hr
  | c :: w, a :: r, _ => by
    unfold standsL
    by_cases e : c = a
    · subst e
      have et : Lib.trimPrefix (c :: r) [c] = r := by unfold Lib.trimPrefix Lib.hasPrefix; simp [List.isPrefixOf]
      rw [et, List.cons_sublist_cons]
      by_cases h : r = []
      · subst h; simp
      · rw [if_neg h]; exact standsL_iff w r h
    · have et : Lib.trimPrefix (a :: r) [c] = a :: r := by unfold Lib.trimPrefix Lib.hasPrefix; simp [List.isPrefixOf, e]
      rw [et, if_neg (by simp), standsL_iff w (a :: r) (by simp), List.sublist_cons_iff]
      constructor
      · exact .inl
      · rintro (h | ⟨r', h, _⟩)
        · exact h
        · exact absurd (List.cons.inj h).1.symm e
  | _ :: _, [], hr => absurd rfl hr

theorem standsB_iff {s k : ByteArray} (hs : 0 < s.size) : standsB s k = true ↔ Abbr s k := by
  unfold standsB Abbr
  simp only [Bool.and_eq_true, decide_eq_true_eq, beq_iff_eq]
  rw [← ba_len] at hs
  rw [← ba_len, ← ba_len]
  generalize s.data.toList = s at hs ⊢
  generalize k.data.toList = k
  cases s with
  | nil => exact absurd hs (by decide)
  | cons c t =>
    rw [standsL_iff _ _ (by simp)]
    constructor
    · rintro ⟨⟨h1, h2⟩, h3⟩
      cases k with
      | nil => simp at h1
      | cons d u =>
        obtain rfl : c = d := by simpa using h2
        exact ⟨c, t, u, rfl, rfl, List.cons_sublist_cons.1 h3, by simpa using h1⟩
    · rintro ⟨c', t', u, h1, rfl, h3, h4⟩
      obtain ⟨rfl, rfl⟩ := List.cons.inj h1
      exact ⟨⟨by simpa using h4, rfl⟩, List.cons_sublist_cons.2 h3⟩

theorem Abbr.pos {s k : ByteArray} (h : Abbr s k) : 0 < s.size := by
  obtain ⟨c, t, u, h1, _⟩ := h
  rw [← ba_len, h1]; simp
theorem Abbr.lt {s k : ByteArray} (h : Abbr s k) : s.size < k.size := by
  obtain ⟨c, t, u, h1, h2, _, h4⟩ := h
  rw [← ba_len, ← ba_len, h1, h2]; simpa using h4

theorem mem_loopC (k : ByteArray) {s : ByteArray} : ∀ (n : Nat) (now : ByteArray) (i : Nat), i + n = k.size → (s ∈ loopC k n now i ↔ ∃ t : L, t ≠ [] ∧ t.Sublist (k.data.toList.drop i) ∧ s.data.toList = now.data.toList ++ t ∧ s.size < k.size)
  | 0, now, i, hi => by
    rw [List.drop_of_length_le (by rw [ba_len]; omega)]
    constructor
    · intro h; simp [loopC] at h
    · rintro ⟨t, h1, h2, _⟩; exact absurd (List.sublist_nil.1 h2) h1
  | n + 1, now, i, hi => by
    have hlt : i < k.data.toList.length := by rw [ba_len]; omega
    have e1 : k.data.toList.drop i = k.data.toList[i] :: k.data.toList.drop (i + 1) := List.drop_eq_getElem_cons hlt
    have e2 : (k.extract i (i + 1)).data.toList = [k.data.toList[i]] := by
      rw [ba_sub, List.drop_take, show i + 1 - i = 1 by omega, e1]
      rfl
    rw [loopC, List.mem_append, List.mem_append, mem_loopC k n _ (i + 1) (by omega), mem_loopC k n now (i + 1) (by omega), ba_app, e2, e1]
    generalize k.data.toList[i] = c at e2 ⊢
    constructor
    · rintro ((h | ⟨t, h1, h2, h3, h4⟩) | ⟨t, h1, h2, h3, h4⟩)
      · split at h
        · rename_i hs
          obtain rfl : s = now ++ k.extract i (i + 1) := by simpa using h
          exact ⟨[c], by simp, by simp, by rw [ba_app, e2], hs⟩
        · simp at h
      · exact ⟨c :: t, by simp, List.cons_sublist_cons.2 h2, by rw [h3]; simp, h4⟩
      · exact ⟨t, h1, List.sublist_cons_iff.2 (.inl h2), h3, h4⟩
    · rintro ⟨t, h1, h2, h3, h4⟩
      rcases List.sublist_cons_iff.1 h2 with h5 | ⟨r, rfl, h5⟩
      · exact .inr ⟨t, h1, h5, h3, h4⟩
      · left
        by_cases hr : r = []
        · subst hr
          left
          have es : s = now ++ k.extract i (i + 1) := ba_ext (by rw [ba_app, e2, h3])
          rw [← es, if_pos h4]
          simp
        · exact .inr ⟨r, hr, h5, by rw [h3]; simp, h4⟩

theorem mem_cutsC {k s : ByteArray} (hk : 0 < k.size) : s ∈ cutsC k ↔ Abbr s k := by
  have hlen := ba_len k
  unfold cutsC visitC
  rw [List.mem_append, mem_loopC k _ _ 1 (by omega), ba_upto]
  have e0 : (k.extract 0 1).size = 1 := by rw [ByteArray.size_extract]; omega
  rw [e0]
  have ek : ∀ x : ByteArray, x.size = x.data.toList.length := fun x => (ba_len x).symm
  cases hl : k.data.toList with
  | nil => rw [hl] at hlen; simp at hlen; omega
  | cons c u =>
    have e1 : (k.extract 0 1).data.toList = [c] := by rw [ba_upto, hl]; rfl
    have eu : u.length + 1 = k.size := by rw [hl] at hlen; simpa using hlen
    unfold Abbr
    rw [hl]
    simp only [List.take_succ_cons, List.take_zero, List.drop_succ_cons, List.drop_zero]
    constructor
    · rintro (h | ⟨t, h1, h2, h3, h4⟩)
      · split at h
        · obtain rfl : s = k.extract 0 1 := by simpa using h
          exact ⟨c, [], u, e1, rfl, List.nil_sublist u, by simp; omega⟩
        · simp at h
      · refine ⟨c, t, u, by simpa using h3, rfl, h2, ?_⟩
        rw [ek s, h3] at h4
        simp at h4
        omega
    · rintro ⟨d, t, v, h1, h2, h3, h4⟩
      obtain ⟨rfl, rfl⟩ := List.cons.inj h2
      by_cases ht : t = []
      · subst ht
        left
        have : s = k.extract 0 1 := ba_ext (by rw [h1, e1])
        simp only [List.length_nil] at h4
        rw [this, if_pos (by omega)]
        simp
      · refine .inr ⟨t, ht, h3, by rw [h1]; rfl, ?_⟩
        rw [ek s, h1]
        simp
        omega

/-- The letters stand for a key, and for no other one of the list. -/
def Fine (l : List ByteArray) (own s : ByteArray) : Prop := Abbr s own ∧ ∀ x ∈ l, keyB x ≠ own → ¬ Abbr s (keyB x)

theorem mistB_iff {s own x : ByteArray} (hs : 0 < s.size) : mistB s own x = true ↔ keyB x ≠ own ∧ Abbr s (keyB x) := by
  unfold mistB
  rw [Bool.and_eq_true, standsB_iff hs, Bool.not_eq_true', beq_eq_false_iff_ne]
  constructor
  · rintro ⟨h1, h2⟩; exact ⟨fun e => h1 (by rw [e]), h2⟩
  · rintro ⟨h1, h2⟩; exact ⟨fun e => h1 (ba_ext e), h2⟩

theorem mem_good {l : List ByteArray} {own s : ByteArray} {most : Int} (hk : 0 < own.size) : s ∈ (cutsC own).filter (cutGood l own most) ↔ Fine l own s ∧ (s.size : Int) ≤ most := by
  rw [List.mem_filter, mem_cutsC hk]
  unfold Fine cutGood
  constructor
  · rintro ⟨h1, h2⟩
    simp only [Bool.not_eq_true', Bool.or_eq_false_iff, decide_eq_false_iff_not, List.any_eq_false] at h2
    exact ⟨⟨h1, fun x hx hne ha => h2.2 x hx ((mistB_iff h1.pos).2 ⟨hne, ha⟩)⟩, by omega⟩
  · rintro ⟨⟨h1, h2⟩, h3⟩
    refine ⟨h1, ?_⟩
    simp only [Bool.not_eq_true', Bool.or_eq_false_iff, decide_eq_false_iff_not, List.any_eq_false]
    exact ⟨by omega, fun x hx hm => by
      obtain ⟨a, b⟩ := (mistB_iff h1.pos).1 hm
      exact h2 x hx a b⟩

theorem cutF_none {l : List ByteArray} {own : ByteArray} {most : Int} {dir : Int → Int → Int} (hk : 0 < own.size) : cutF l own most dir = none ↔ ∀ t, Fine l own t → ¬ (t.size : Int) ≤ most := by
  unfold cutF
  rw [firstL_none]
  constructor
  · intro h t h1 h2
    have := (mem_good (l := l) (most := most) hk).2 ⟨h1, h2⟩
    rw [h] at this
    cases this
  · intro h
    cases hg : (cutsC own).filter (cutGood l own most) with
    | nil => rfl
    | cons x xs =>
      obtain ⟨h1, h2⟩ := (mem_good (s := x) hk).1 (by rw [hg]; exact List.mem_cons_self ..)
      exact absurd h2 (h x h1)
theorem cutF_some {l : List ByteArray} {own s : ByteArray} {most : Int} {dir : Int → Int → Int} (hst : Strict (cutCf dir) (fun _ => True)) (hk : 0 < own.size) :
    cutF l own most dir = some s ↔ (Fine l own s ∧ (s.size : Int) ≤ most) ∧ ∀ t, Fine l own t → (t.size : Int) ≤ most → ¬ cutCf dir t s < 0 := by
  have fwd : ∀ s, cutF l own most dir = some s → (Fine l own s ∧ (s.size : Int) ≤ most) ∧ ∀ t, Fine l own t → (t.size : Int) ≤ most → ¬ cutCf dir t s < 0 := by
    intro s h
    obtain ⟨h1, h2⟩ := firstL_min hst _ _ rfl (fun _ _ => trivial) s h
    exact ⟨(mem_good hk).1 h1, fun t h3 h4 => h2 t ((mem_good hk).2 ⟨h3, h4⟩)⟩
  refine ⟨fwd s, fun ⟨h1, h2⟩ => ?_⟩
  cases hc : cutF l own most dir with
  | none => exact absurd h1.2 ((cutF_none hk).1 hc s h1.1)
  | some b =>
    obtain ⟨h3, h4⟩ := fwd b hc
    by_cases e : b = s
    · rw [e]
    · rcases hst.total b s trivial trivial e with h5 | h5
      · exact absurd h5 (h2 b h3.1 h3.2)
      · exact absurd h5 (h4 s h1.1 h1.2)

/-- Fewer letters, then the order of strings. -/
theorem cutS_le {t s : ByteArray} : ¬ cutCf dirS t s < 0 ↔ s.size < t.size ∨ (s.size = t.size ∧ ¬ cmpS t s < 0) := by
  rw [cutCf_lt]
  unfold dirS
  constructor
  · intro h
    rcases Nat.lt_trichotomy s.size t.size with h1 | h1 | h1
    · exact .inl h1
    · exact .inr ⟨h1, fun h2 => h (.inr ⟨by omega, h2⟩)⟩
    · exact absurd (.inl (by omega)) h
  · rintro (h | ⟨h1, h2⟩) (h3 | ⟨h3, h4⟩)
    · omega
    · omega
    · omega
    · exact h2 h4
theorem Fine.sub {l l2 : List ByteArray} (hl : ∀ x ∈ l, x ∈ l2) {own s : ByteArray} (h : Fine l2 own s) : Fine l own s := ⟨h.1, fun x hx => h.2 x (hl x hx)⟩
end Go.Proofs.YtapikimhmjnjeaaGreatDoor

