/- Plain laws of names at a wrong place: no program in sight. -/
import Derived.Test.YtapikimhmjnjeaaGreatDoorNameOrder
import Derived.Test.YtapikimhmjnjeaaGreatDoorBaseD
/- Plain laws of names at a wrong place: no program in sight. -/
set_option linter.unusedVariables false
set_option linter.unusedSimpArgs false
namespace Go.Proofs.YtapikimhmjnjeaaGreatDoor
open Go.RowKit

/-- The order of lists of numbers, as slices.Compare has it. -/
def cmpIL : List Int → List Int → Int
  | [], [] => 0
  | [], _ :: _ => -1
  | _ :: _, [] => 1
  | x :: xs, y :: ys => if Lib.compareInt x y ≠ 0 then Lib.compareInt x y else cmpIL xs ys
/-- Their lengths first. -/
def shorterF (a b : List Int) : Int := orZ (Lib.compareInt a.length b.length) (cmpIL a b)

theorem cmpIL_lt {a b : Int} {x y : List Int} : cmpIL (a :: x) (b :: y) < 0 ↔ a < b ∨ (a = b ∧ cmpIL x y < 0) := by
  have e0 : cmpIL (a :: x) (b :: y) = if Lib.compareInt a b ≠ 0 then Lib.compareInt a b else cmpIL x y := rfl
  rw [e0]
  have h1 := compareInt_lt (x := a) (y := b)
  have h2 := compareInt_zero (x := a) (y := b)
  split
  · rename_i h
    constructor
    · exact fun h3 => .inl (h1.1 h3)
    · rintro (h3 | h3)
      · exact h1.2 h3
      · exact absurd (h2.2 h3.1) h
  · rename_i h
    have e := h2.1 (by simpa using h)
    constructor
    · exact fun h3 => .inr ⟨e, h3⟩
    · rintro (h3 | h3)
      · omega
      · exact h3.2
theorem cmpIL_irrefl : ∀ x : List Int, ¬ cmpIL x x < 0
  | [] => by simp [cmpIL]
  | a :: x => by rw [cmpIL_lt]; rintro (h | h); · omega
                 exact cmpIL_irrefl x h.2
theorem cmpIL_trans : ∀ {x y z : List Int}, x.length = y.length → y.length = z.length → cmpIL x y < 0 → cmpIL y z < 0 → cmpIL x z < 0
  | [], [], _, _, _, h, _ => absurd h (by simp [cmpIL])
  | a :: x, b :: y, c :: z, h1, h2, h3, h4 => by
    rw [cmpIL_lt] at h3 h4 ⊢
    rcases h3 with h3 | ⟨e1, h3⟩ <;> rcases h4 with h4 | ⟨e2, h4⟩
    · exact .inl (by omega)
    · exact .inl (by omega)
    · exact .inl (by omega)
    · exact .inr ⟨by omega, cmpIL_trans (by simpa using h1) (by simpa using h2) h3 h4⟩
theorem cmpIL_total : ∀ {x y : List Int}, x.length = y.length → x ≠ y → cmpIL x y < 0 ∨ cmpIL y x < 0
  | [], [], _, h => absurd rfl h
  | a :: x, b :: y, h1, h2 => by
    rw [cmpIL_lt, cmpIL_lt]
    rcases Int.lt_trichotomy a b with h | h | h
    · exact .inl (.inl h)
    · subst h
      rcases cmpIL_total (x := x) (y := y) (by simpa using h1) (fun e => h2 (by rw [e])) with h3 | h3
      · exact .inl (.inr ⟨rfl, h3⟩)
      · exact .inr (.inr ⟨rfl, h3⟩)
    · exact .inr (.inl h)
theorem shorterF_lt {a b : List Int} : shorterF a b < 0 ↔ a.length < b.length ∨ (a.length = b.length ∧ cmpIL a b < 0) := by
  unfold shorterF orZ
  have h1 := compareInt_lt (x := (a.length : Int)) (y := b.length)
  have h2 := compareInt_zero (x := (a.length : Int)) (y := b.length)
  split
  · rename_i h
    constructor
    · exact fun h3 => .inr ⟨by omega, h3⟩
    · rintro (h3 | h3)
      · omega
      · exact h3.2
  · rename_i h
    rw [h1]
    constructor
    · exact fun h3 => .inl (by omega)
    · rintro (h3 | h3)
      · omega
      · omega
theorem strictSh : Strict shorterF (fun _ => True) where
  irrefl a _ := by rw [shorterF_lt]; rintro (h | h); · omega
                   exact cmpIL_irrefl a h.2
  trans a b c _ _ _ h1 h2 := by
    rw [shorterF_lt] at h1 h2 ⊢
    rcases h1 with h1 | ⟨e1, h1⟩ <;> rcases h2 with h2 | ⟨e2, h2⟩
    · exact .inl (by omega)
    · exact .inl (by omega)
    · exact .inl (by omega)
    · exact .inr ⟨by omega, cmpIL_trans e1 e2 h1 h2⟩
  total a b _ _ hne := by
    rw [shorterF_lt, shorterF_lt]
    rcases Nat.lt_trichotomy a.length b.length with h | h | h
    · exact .inl (.inl h)
    · rcases cmpIL_total h hne with h3 | h3
      · exact .inl (.inr ⟨h, h3⟩)
      · exact .inr (.inr ⟨h.symm, h3⟩)
    · exact .inr (.inl h)

/-- The numbers below i of a set of bits. -/
def outI (set i : Nat) : List Int := ((List.range i).filter fun j => set.testBit j).map Int.ofNat
/-- The names below i that are not of the set. -/
def restI (l : List ByteArray) (set i : Nat) : List ByteArray := ((List.range i).filter fun j => !set.testBit j).map fun j => l.getD j ByteArray.empty
/-- No name is less than the one ahead of it. -/
def okN (l : List ByteArray) : Bool := downN l (l.length - 1)
/-- The lists of indices without which the others are in order, as the sets of bits go. -/
def rightsL (l : List ByteArray) : Nat → List (List Int)
  | 0 => []
  | n + 1 => rightsL l n ++ (if okN (restI l n l.length) then [outI n l.length] else [])
def wrongL (l : List ByteArray) : Option (List Int) := firstL shorterF (rightsL l (2 ^ l.length))

theorem outI_succ (set i : Nat) : outI set (i + 1) = outI set i ++ (if set.testBit i then [(i : Int)] else []) := by
  unfold outI
  rw [List.range_succ, List.filter_append, List.map_append]
  cases h : set.testBit i <;> simp [h]
theorem restI_succ (l : List ByteArray) (set i : Nat) : restI l set (i + 1) = restI l set i ++ (if set.testBit i then [] else [l.getD i ByteArray.empty]) := by
  unfold restI
  rw [List.range_succ, List.filter_append, List.map_append]
  cases h : set.testBit i <;> simp [h]
theorem outI_len (set i : Nat) : (outI set i).length ≤ i := by
  unfold outI
  rw [List.length_map]
  have := List.length_filter_le (fun j => set.testBit j) (List.range i)
  simpa using this
theorem restI_len (l : List ByteArray) (set i : Nat) : (restI l set i).length ≤ i := by
  unfold restI
  rw [List.length_map]
  have := List.length_filter_le (fun j => !set.testBit j) (List.range i)
  simpa using this
theorem restI_mem {l : List ByteArray} {set i : Nat} (hi : i ≤ l.length) : ∀ s ∈ restI l set i, s ∈ l := fun s hs => by
  unfold restI at hs
  obtain ⟨j, hj, rfl⟩ := List.mem_map.1 hs
  have := List.mem_range.1 (List.mem_filter.1 hj).1
  rw [List.getD_eq_getElem?_getD, List.getElem?_eq_getElem (by omega)]
  exact List.getElem_mem _

/-- The list without the names at some indices. -/
def lessAt (l : List ByteArray) (x : List Int) : List ByteArray := ((List.range l.length).filter fun j : Nat => !x.contains (j : Int)).map fun j => l.getD j ByteArray.empty
theorem mem_outI {set i j : Nat} : (j : Int) ∈ outI set i ↔ j < i ∧ set.testBit j = true := by
  unfold outI
  rw [List.mem_map]
  constructor
  · rintro ⟨q, hq, e⟩
    obtain rfl : q = j := Int.ofNat.inj e
    exact ⟨List.mem_range.1 (List.mem_filter.1 hq).1, (List.mem_filter.1 hq).2⟩
  · rintro ⟨h1, h2⟩
    exact ⟨j, List.mem_filter.2 ⟨List.mem_range.2 h1, h2⟩, rfl⟩
theorem lessAt_out (l : List ByteArray) (set : Nat) : lessAt l (outI set l.length) = restI l set l.length := by
  unfold lessAt restI
  congr 1
  refine List.filter_congr fun j hj => ?_
  have hj := List.mem_range.1 hj
  congr 1
  have := mem_outI (set := set) (i := l.length) (j := j)
  cases h : set.testBit j with
  | true => rw [List.contains_iff_mem]; exact this.2 ⟨hj, h⟩
  | false =>
    cases hc : (outI set l.length).contains (j : Int) with
    | false => rfl
    | true =>
      rw [List.contains_iff_mem] at hc
      have := (this.1 hc).2
      rw [h] at this; cases this

theorem outI_sub (set n : Nat) : (outI set n).Sublist (idxL n) := by
  unfold outI idxL
  exact List.Sublist.map _ List.filter_sublist
theorem outI_of_sub : ∀ (n : Nat) (x : List Int), x.Sublist (idxL n) → ∃ set, set < 2 ^ n ∧ outI set n = x
  | 0, x, h => ⟨0, by decide, by rw [List.sublist_nil.1 h]; rfl⟩
  | n + 1, x, h => by
    rw [idxL_succ] at h
    obtain ⟨y, z, rfl, hy, hz⟩ := List.sublist_append_iff.1 h
    obtain ⟨set, hs, he⟩ := outI_of_sub n y hy
    have hz : z = [] ∨ z = [(n : Int)] := by
      rcases List.sublist_cons_iff.1 hz with hz | ⟨r, rfl, hr⟩
      · exact .inl (List.sublist_nil.1 hz)
      · exact .inr (by rw [List.sublist_nil.1 hr])
    have hp := Nat.pow_succ 2 n
    rcases hz with rfl | rfl
    · refine ⟨set, by omega, ?_⟩
      rw [outI_succ, he, Nat.testBit_lt_two_pow hs]
      rfl
    · refine ⟨2 ^ n + set, by omega, ?_⟩
      rw [outI_succ]
      have h1 : (2 ^ n + set).testBit n = true := by
        rw [Nat.testBit_two_pow_add_eq, Nat.testBit_lt_two_pow hs]; rfl
      have h2 : outI (2 ^ n + set) n = outI set n := by
        unfold outI
        congr 1
        refine List.filter_congr fun j hj => ?_
        have hj := List.mem_range.1 hj
        exact Nat.testBit_two_pow_add_gt hj set
      rw [h1, h2, he]
      rfl

theorem mem_rightsL {l : List ByteArray} {x : List Int} : ∀ n, x ∈ rightsL l n ↔ ∃ set, set < n ∧ okN (restI l set l.length) = true ∧ x = outI set l.length
  | 0 => by simp [rightsL]
  | n + 1 => by
    rw [rightsL, List.mem_append, mem_rightsL n]
    constructor
    · rintro (⟨set, h1, h2⟩ | h)
      · exact ⟨set, by omega, h2⟩
      · split at h
        · rename_i h2
          exact ⟨n, by omega, h2, by simpa using h⟩
        · cases h
    · rintro ⟨set, h1, h2, h3⟩
      by_cases e : set = n
      · subst e
        right
        rw [if_pos h2, h3]
        exact List.mem_singleton.2 rfl
      · exact .inl ⟨set, by omega, h2, h3⟩
theorem mem_rights {l : List ByteArray} {x : List Int} : x ∈ rightsL l (2 ^ l.length) ↔ x.Sublist (idxL l.length) ∧ okN (lessAt l x) = true := by
  rw [mem_rightsL]
  constructor
  · rintro ⟨set, h1, h2, rfl⟩
    exact ⟨outI_sub _ _, by rw [lessAt_out]; exact h2⟩
  · rintro ⟨h1, h2⟩
    obtain ⟨set, h3, rfl⟩ := outI_of_sub _ x h1
    exact ⟨set, h3, by rw [lessAt_out] at h2; exact h2, rfl⟩

/-- What Wrong finds: the least list without which the others are in order. -/
theorem wrongL_iff {l : List ByteArray} {x : List Int} : wrongL l = some x ↔ (x.Sublist (idxL l.length) ∧ okN (lessAt l x) = true) ∧ ∀ y, y.Sublist (idxL l.length) → okN (lessAt l y) = true → ¬ shorterF y x < 0 := by
  have fwd : ∀ x, wrongL l = some x → (x.Sublist (idxL l.length) ∧ okN (lessAt l x) = true) ∧ ∀ y, y.Sublist (idxL l.length) → okN (lessAt l y) = true → ¬ shorterF y x < 0 := by
    intro x h
    obtain ⟨h1, h2⟩ := firstL_min strictSh _ _ rfl (fun _ _ => trivial) x h
    exact ⟨mem_rights.1 h1, fun y h3 h4 => h2 y (mem_rights.2 ⟨h3, h4⟩)⟩
  refine ⟨fwd x, fun ⟨h1, h2⟩ => ?_⟩
  cases hc : wrongL l with
  | none =>
    have := (firstL_none _ _).1 hc
    have h3 := mem_rights.2 h1
    rw [this] at h3
    cases h3
  | some b =>
    obtain ⟨h3, h4⟩ := fwd b hc
    by_cases e : b = x
    · rw [e]
    · rcases strictSh.total b x trivial trivial e with h5 | h5
      · exact absurd h5 (h2 b h3.1 h3.2)
      · exact absurd h5 (h4 x h1.1 h1.2)
theorem wrongL_some (l : List ByteArray) : ∃ x, wrongL l = some x := by
  cases hc : wrongL l with
  | some x => exact ⟨x, rfl⟩
  | none =>
    have := (firstL_none _ _).1 hc
    have h3 : idxL l.length ∈ rightsL l (2 ^ l.length) := by
      refine mem_rights.2 ⟨List.Sublist.refl _, ?_⟩
      have : lessAt l (idxL l.length) = [] := by
        unfold lessAt
        rw [List.map_eq_nil_iff, List.filter_eq_nil_iff]
        intro j hj
        have hj := List.mem_range.1 hj
        have : (idxL l.length).contains (j : Int) = true := by
          rw [List.contains_iff_mem]
          exact List.mem_map.2 ⟨j, List.mem_range.2 hj, rfl⟩
        rw [this]; simp
      rw [this]; rfl
    rw [this] at h3
    cases h3

end Go.Proofs.YtapikimhmjnjeaaGreatDoor

