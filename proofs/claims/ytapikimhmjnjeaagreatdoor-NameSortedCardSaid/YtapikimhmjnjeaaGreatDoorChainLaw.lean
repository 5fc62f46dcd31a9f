/- Plain laws of uses and chains of uses: no program in sight. -/
import Derived.Test.YtapikimhmjnjeaaGreatDoorBaseC
import Derived.Test.YtapikimhmjnjeaaGreatDoorBaseB
/- Plain laws of uses and chains of uses: no program in sight. -/
set_option linter.unusedVariables false
set_option linter.unusedSimpArgs false
namespace Go.Proofs.YtapikimhmjnjeaaGreatDoor
open Go.RowKit

theorem ba_ext {a b : ByteArray} (h : a.data.toList = b.data.toList) : a = b := ByteArray.ext (Array.toList_inj.1 h)
theorem ba_len (s : ByteArray) : s.data.toList.length = s.size := by rw [Array.length_toList]; rfl
theorem ba_app (a b : ByteArray) : (a ++ b).data.toList = a.data.toList ++ b.data.toList := by rw [ByteArray.data_append, Array.toList_append]
theorem ba_sub (s : ByteArray) (i j : Nat) : (s.extract i j).data.toList = (s.data.toList.take j).drop i := by
  rw [ByteArray.data_extract, Array.toList_extract, List.drop_take]
theorem ba_from (s : ByteArray) (i : Nat) : (s.extract i s.size).data.toList = s.data.toList.drop i := by
  rw [ba_sub, List.take_of_length_le (by rw [ba_len]; exact Nat.le_refl _)]
theorem ba_upto (s : ByteArray) (i : Nat) : (s.extract 0 i).data.toList = s.data.toList.take i := by
  rw [ba_sub, List.drop_zero]

/-- One piece is another one, and what comes of it is a key. -/
def Swap (s a b x : ByteArray) : Prop := ∃ p q : L, s.data.toList = p ++ a.data.toList ++ q ∧ x.data.toList = p ++ b.data.toList ++ q ∧ lettersB x 1 12 = true

theorem replT_list (s a b : ByteArray) (i : Nat) : (replT s a b i).data.toList = s.data.toList.take i ++ b.data.toList ++ s.data.toList.drop (i + a.size) := by
  unfold replT
  rw [ba_app, ba_app, ba_upto, ba_from]

theorem mem_replAt {s a b x : ByteArray} {i : Nat} (hi : i ≤ s.size) :
    x ∈ replAt s a b i ↔ ∃ p q : L, p.length = i ∧ s.data.toList = p ++ a.data.toList ++ q ∧ x.data.toList = p ++ b.data.toList ++ q ∧ lettersB x 1 12 = true := by
  unfold replAt
  constructor
  · intro h
    split at h
    · rename_i hp
      split at h
      · rename_i hl
        obtain rfl : x = replT s a b i := by simpa using h
        obtain ⟨q, hq⟩ := List.isPrefixOf_iff_prefix.1 hp
        rw [ba_from] at hq
        have e : s.data.toList = s.data.toList.take i ++ a.data.toList ++ q := by rw [List.append_assoc, hq, List.take_append_drop]
        have e2 : s.data.toList.drop (i + a.size) = q := by
          rw [← List.drop_drop, ← hq, ← ba_len a, List.drop_left]
        refine ⟨s.data.toList.take i, q, by rw [List.length_take, ba_len]; omega, e, ?_, hl⟩
        rw [replT_list, e2]
      · simp at h
    · simp at h
  · rintro ⟨p, q, hpl, hs, hx, hl⟩
    have e1 : s.data.toList.drop i = a.data.toList ++ q := by rw [hs, List.append_assoc, ← hpl, List.drop_left]
    have e2 : s.data.toList.take i = p := by rw [hs, List.append_assoc, ← hpl, List.take_left]
    have e3 : s.data.toList.drop (i + a.size) = q := by rw [← List.drop_drop, e1, ← ba_len a, List.drop_left]
    have ex : x = replT s a b i := ba_ext (by rw [replT_list, e2, e3, hx])
    rw [if_pos (show Lib.hasPrefix _ _ = true from List.isPrefixOf_iff_prefix.2 ⟨q, by rw [ba_from, e1]⟩), ← ex, if_pos hl]
    simp

theorem mem_replN {s a b x : ByteArray} : ∀ (n i : Nat), x ∈ replN s a b n i ↔ ∃ j, i ≤ j ∧ j < i + n ∧ x ∈ replAt s a b j
  | 0, i => by
    constructor
    · intro h; simp [replN] at h
    · rintro ⟨j, h1, h2, _⟩; omega
  | n + 1, i => by
    rw [replN, List.mem_append, mem_replN n (i + 1)]
    constructor
    · rintro (h | ⟨j, h1, h2, h3⟩)
      · exact ⟨i, Nat.le_refl _, by omega, h⟩
      · exact ⟨j, by omega, by omega, h3⟩
    · rintro ⟨j, h1, h2, h3⟩
      by_cases e : j = i
      · subst e; exact .inl h3
      · exact .inr ⟨j, by omega, by omega, h3⟩

theorem mem_replL {s a b x : ByteArray} : x ∈ replL s a b ↔ Swap s a b x := by
  unfold replL
  rw [mem_replN]
  constructor
  · rintro ⟨j, _, h2, h3⟩
    obtain ⟨p, q, _, h4, h5, h6⟩ := (mem_replAt (by omega)).1 h3
    exact ⟨p, q, h4, h5, h6⟩
  · rintro ⟨p, q, h4, h5, h6⟩
    have hl := congrArg List.length h4
    rw [ba_len, List.length_append, List.length_append] at hl
    exact ⟨p.length, by omega, by omega, (mem_replAt (by omega)).2 ⟨p, q, rfl, h4, h5, h6⟩⟩

theorem Swap.letters {s a b x : ByteArray} (h : Swap s a b x) : lettersB x 1 12 = true := by obtain ⟨p, q, _, _, h⟩ := h; exact h
theorem Swap.symm {s a b x : ByteArray} (h : Swap s a b x) (hs : lettersB s 1 12 = true) : Swap x b a s := by
  obtain ⟨p, q, h1, h2, _⟩ := h
  exact ⟨p, q, h2, h1, hs⟩

theorem mem_usesL {l : List Rl} {s x : ByteArray} : x ∈ usesL l s ↔ ∃ r ∈ l, Swap s r.1 r.2 x ∨ Swap s r.2 r.1 x := by
  unfold usesL useL
  simp only [List.mem_flatMap, List.mem_append, mem_replL]

/-- One use makes the one into the other. -/
def Use (l : List Rl) (s x : ByteArray) : Prop := x ∈ usesL l s
theorem Use.letters {l : List Rl} {s x : ByteArray} (h : Use l s x) : lettersB x 1 12 = true := by
  obtain ⟨r, _, h | h⟩ := mem_usesL.1 h
  · exact h.letters
  · exact h.letters
theorem Use.symm {l : List Rl} {s x : ByteArray} (h : Use l s x) (hs : lettersB s 1 12 = true) : Use l x s := by
  obtain ⟨r, hr, h | h⟩ := mem_usesL.1 h
  · exact mem_usesL.2 ⟨r, hr, .inr (h.symm hs)⟩
  · exact mem_usesL.2 ⟨r, hr, .inl (h.symm hs)⟩
theorem Use.mono {l l2 : List Rl} (hl : ∀ r ∈ l, r ∈ l2) {s x : ByteArray} (h : Use l s x) : Use l2 s x := by
  obtain ⟨r, hr, h⟩ := mem_usesL.1 h
  exact mem_usesL.2 ⟨r, hl r hr, h⟩

/-- A chain of k uses from now to to. -/
def ChainIs (l : List Rl) (to : ByteArray) : Nat → ByteArray → List ByteArray → Prop
  | 0, now, c => c = [now] ∧ now = to
  | k + 1, now, c => ∃ s t, Use l now s ∧ ChainIs l to k s t ∧ c = now :: t

theorem ChainIs.len {l : List Rl} {to : ByteArray} : ∀ {k : Nat} {now : ByteArray} {c : List ByteArray}, ChainIs l to k now c → c.length = k + 1
  | 0, _, _, h => by obtain ⟨rfl, _⟩ := h; rfl
  | k + 1, _, _, h => by obtain ⟨s, t, _, ht, rfl⟩ := h; rw [List.length_cons, ht.len]
theorem ChainIs.head {l : List Rl} {to : ByteArray} {k : Nat} {now : ByteArray} {c : List ByteArray} (h : ChainIs l to k now c) : c.getD 0 ByteArray.empty = now := by
  cases k with
  | zero => obtain ⟨rfl, _⟩ := h; rfl
  | succ k => obtain ⟨s, t, _, _, rfl⟩ := h; rfl
theorem ChainIs.last {l : List Rl} {to : ByteArray} : ∀ {k : Nat} {now : ByteArray} {c : List ByteArray}, ChainIs l to k now c → c.getD k ByteArray.empty = to
  | 0, _, _, h => by obtain ⟨rfl, rfl⟩ := h; rfl
  | k + 1, _, _, h => by obtain ⟨s, t, _, ht, rfl⟩ := h; exact ht.last
theorem ChainIs.step {l : List Rl} {to : ByteArray} : ∀ {k : Nat} {now : ByteArray} {c : List ByteArray}, ChainIs l to k now c → ∀ j, j < k → Use l (c.getD j ByteArray.empty) (c.getD (j + 1) ByteArray.empty)
  | 0, _, _, _, j, hj => by omega
  | k + 1, _, _, h, j, hj => by
    obtain ⟨s, t, hu, ht, rfl⟩ := h
    cases j with
    | zero => rw [List.getD_cons_zero, List.getD_cons_succ, ht.head]; exact hu
    | succ j => exact ht.step j (by omega)
theorem ChainIs.letters {l : List Rl} {to : ByteArray} {k : Nat} {now : ByteArray} {c : List ByteArray} (h : ChainIs l to k now c) (hn : lettersB now 1 12 = true) (j : Nat) (hj : j ≤ k) : lettersB (c.getD j ByteArray.empty) 1 12 = true := by
  cases j with
  | zero => rw [h.head]; exact hn
  | succ j => exact (h.step j (by omega)).letters

/-- There is a chain of k uses. -/
def Walk (l : List Rl) (to : ByteArray) (k : Nat) (now : ByteArray) : Prop := ∃ c, ChainIs l to k now c
theorem walk_zero {l : List Rl} {to now : ByteArray} : Walk l to 0 now ↔ now = to := ⟨fun ⟨_, _, h⟩ => h, fun h => ⟨[now], rfl, h⟩⟩
theorem walk_succ {l : List Rl} {to now : ByteArray} {k : Nat} : Walk l to (k + 1) now ↔ ∃ s, Use l now s ∧ Walk l to k s :=
  ⟨fun ⟨_, s, t, h1, h2, _⟩ => ⟨s, h1, t, h2⟩, fun ⟨s, h1, t, h2⟩ => ⟨_, s, t, h1, h2, rfl⟩⟩
theorem Walk.mono {l l2 : List Rl} (hl : ∀ r ∈ l, r ∈ l2) {to : ByteArray} : ∀ {k : Nat} {now : ByteArray}, Walk l to k now → Walk l2 to k now
  | 0, _, h => walk_zero.2 (walk_zero.1 h)
  | k + 1, _, h => by
    obtain ⟨s, h1, h2⟩ := walk_succ.1 h
    exact walk_succ.2 ⟨s, h1.mono hl, h2.mono hl⟩
theorem Walk.snoc {l : List Rl} {b c : ByteArray} (hu : Use l b c) : ∀ {k : Nat} {a : ByteArray}, Walk l b k a → Walk l c (k + 1) a
  | 0, a, h => by
    obtain rfl := walk_zero.1 h
    exact walk_succ.2 ⟨c, hu, walk_zero.2 rfl⟩
  | k + 1, a, h => by
    obtain ⟨s, h1, h2⟩ := walk_succ.1 h
    exact walk_succ.2 ⟨s, h1, h2.snoc hu⟩
theorem Walk.trans {l : List Rl} {b c : ByteArray} {m : Nat} (hm : Walk l c m b) : ∀ {k : Nat} {a : ByteArray}, Walk l b k a → Walk l c (k + m) a
  | 0, a, h => by
    obtain rfl := walk_zero.1 h
    rw [Nat.zero_add]
    exact hm
  | k + 1, a, h => by
    obtain ⟨s, h1, h2⟩ := walk_succ.1 h
    rw [Nat.succ_add]
    exact walk_succ.2 ⟨s, h1, Walk.trans hm h2⟩
theorem Walk.symm {l : List Rl} {b : ByteArray} : ∀ {k : Nat} {a : ByteArray}, Walk l b k a → lettersB a 1 12 = true → Walk l a k b
  | 0, a, h, _ => walk_zero.2 (walk_zero.1 h).symm
  | k + 1, a, h, ha => by
    obtain ⟨s, h1, h2⟩ := walk_succ.1 h
    exact (h2.symm h1.letters).snoc (h1.symm ha)

end Go.Proofs.YtapikimhmjnjeaaGreatDoor

