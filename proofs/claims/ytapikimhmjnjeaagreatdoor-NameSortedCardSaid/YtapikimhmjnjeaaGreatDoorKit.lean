/- What the dice, and the names and rules made of them, are: plain laws of the printed functions. Asked: a list of numbers of a length that a slice can have. -/
import Derived.Test.YtapikimhmjnjeaaGreatDoorPr3
import Derived.Test.YtapikimhmjnjeaaGreatDoorPrExtSpell
/- What the dice, and the names and rules made of them, are: plain laws of the printed functions. Asked: a list of numbers of a length that a slice can have. -/
set_option linter.unusedVariables false
set_option linter.unusedSimpArgs false
namespace Go.Proofs.YtapikimhmjnjeaaGreatDoor.Pure
open Go.RowKit Go.Proofs.YtapikimhmjnjeaaGreatDoor Go.Proofs.YtapikimhmjnjeaaGreatDoor.Pr Go.Proofs.YtapikimhmjnjeaaGreatDoorW.PrintWords Go.Proofs.YtapikimhmjnjeaaGreatDoorW.PrintLast

theorem u64_range (n : Int) : 0 ≤ IntKind.u64.wrap n ∧ IntKind.u64.wrap n < 18446744073709551616 := by
  have e : IntKind.u64.wrap n = n % 18446744073709551616 := by
    unfold IntKind.wrap
    simp [IntKind.signed, IntKind.bits]
  rw [e]
  omega
theorem u64_in {n : Int} (h : 0 ≤ n) (h2 : n < 18446744073709551616) : IntKind.u64.wrap n = n := by
  have e : IntKind.u64.wrap n = n % 18446744073709551616 := by
    unfold IntKind.wrap
    simp [IntKind.signed, IntKind.bits]
  rw [e]
  omega
theorem bx_range (a b : Int) : 0 ≤ bx a b := by
  unfold bx bits
  exact (u64_range _).1
theorem raw_ok (l : List Int) (at_ s : Int) (hl : l.length ≤ maxLen) (ha : 0 ≤ at_) : ∃ v at2 s2, wayzgoosekit_Dice_raw.f l at_ s = some (v, at2, s2) ∧ 0 ≤ v ∧ 0 ≤ at2 := by
  unfold wayzgoosekit_Dice_raw.f
  rw [if_pos ha]
  split
  · rename_i h
    refine ⟨_, _, _, rfl, bx_range _ _, ?_⟩
    rw [IntWalk.i64_in _ (by unfold maxLen at hl; omega)]
    omega
  · exact ⟨_, _, _, rfl, bx_range _ _, ha⟩

/-- A list of numbers for dice. -/
def Lst (l : List Int) : Prop := l.length ≤ maxLen

theorem To_ok {l : List Int} (hl : Lst l) (at_ s n : Int) (ha : 0 ≤ at_) (hn : n ≤ 1000000) (hn0 : -1000000 ≤ n) : ∃ r at2 s2, wayzgoosekit_Dice_To.f l at_ s n = some (r, at2, s2) ∧ 0 ≤ at2 ∧ 0 ≤ r ∧ r ≤ max n 0 := by
  unfold wayzgoosekit_Dice_To.f
  by_cases h1 : n < 1
  · rw [if_pos h1]
    exact ⟨_, _, _, rfl, ha, by omega, by omega⟩
  · rw [if_neg h1]
    obtain ⟨v, at2, s2, hr, hv, h2⟩ := raw_ok l at_ s hl ha
    rw [hr]
    have e1 : wrap64 (n + 1) = n + 1 := IntWalk.wrap64_in _ (by omega)
    have e2 : IntKind.u64.wrap (n + 1) = n + 1 := u64_in (by omega) (by omega)
    simp only [Option.bind_some, e1, e2]
    rw [if_neg (by omega)]
    have h3 : 0 ≤ Int.tmod (v / 65536) (n + 1) := Int.tmod_nonneg _ (by omega)
    have h4 : Int.tmod (v / 65536) (n + 1) < n + 1 := Int.tmod_lt_of_pos _ (by omega)
    have e3 : wrap64 (Int.tmod (v / 65536) (n + 1)) = Int.tmod (v / 65536) (n + 1) := IntWalk.wrap64_in _ (by omega)
    rw [e3]
    exact ⟨_, _, _, rfl, h2, h3, by omega⟩
theorem From_ok {l : List Int} (hl : Lst l) (at_ s lo hi : Int) (ha : 0 ≤ at_) (h1 : -100000 ≤ lo) (h2 : lo ≤ hi) (h3 : hi ≤ 100000) : ∃ r at2 s2, wayzgoosekit_Dice_From.f l at_ s lo hi = some (r, at2, s2) ∧ 0 ≤ at2 ∧ lo ≤ r ∧ r ≤ hi := by
  unfold wayzgoosekit_Dice_From.f
  rw [IntWalk.wrap64_in (hi - lo) (by omega)]
  obtain ⟨r, at2, s2, hr, g1, g2, g3⟩ := To_ok hl at_ s (hi - lo) ha (by omega) (by omega)
  rw [hr]
  simp only [Option.bind_some]
  rw [IntWalk.wrap64_in (lo + r) (by omega)]
  exact ⟨_, _, _, rfl, g1, by omega, by omega⟩
theorem Once_ok {l : List Int} (hl : Lst l) (at_ s n : Int) (ha : 0 ≤ at_) (hn : n ≤ 100000) (hn0 : -100000 ≤ n) : ∃ r at2 s2, wayzgoosekit_Dice_Once.f l at_ s n = some (r, at2, s2) ∧ 0 ≤ at2 := by
  unfold wayzgoosekit_Dice_Once.f
  rw [IntWalk.wrap64_in (n - 1) (by omega)]
  obtain ⟨r, at2, s2, hr, g1, _⟩ := To_ok hl at_ s (n - 1) ha (by omega) (by omega)
  rw [hr]
  exact ⟨_, _, _, rfl, g1⟩
theorem Word_ok {l : List Int} (hl : Lst l) (at_ s : Int) (ws : List ByteArray) (ha : 0 ≤ at_) (hw : ws ≠ []) (hw2 : ws.length ≤ 1000) : ∃ r at2 s2, wayzgoosekit_Dice_Word.f l at_ s ws = some (r, at2, s2) ∧ 0 ≤ at2 ∧ r ∈ ws := by
  have hp := List.length_pos_iff.2 hw
  unfold wayzgoosekit_Dice_Word.f
  rw [IntWalk.wrap64_in ((ws.length : Int) - 1) (by omega)]
  obtain ⟨r, at2, s2, hr, g1, g2, g3⟩ := To_ok hl at_ s ((ws.length : Int) - 1) ha (by omega) (by omega)
  rw [hr]
  simp only [Option.bind_some]
  rw [if_pos g2, if_pos (by omega)]
  refine ⟨_, _, _, rfl, g1, ?_⟩
  unfold rdOf
  rw [List.getD_eq_getElem?_getD, List.getElem?_eq_getElem (by omega)]
  exact List.getElem_mem _
/-- Letters of one kind alone. -/
def OneKind (kd : Int) (s : ByteArray) : Prop := ∀ b ∈ s.data.toList, kindB b = kd
theorem extract_sub {s : ByteArray} {i j : Nat} {b : UInt8} (h : b ∈ (s.extract i j).data.toList) : b ∈ s.data.toList := by
  rw [ByteArray.data_extract, Array.toList_extract] at h
  exact List.mem_of_mem_drop (List.mem_of_mem_take (by simpa [List.extract] using h))
theorem OneKind.append {kd : Int} {s t : ByteArray} (h : OneKind kd s) (h2 : OneKind kd t) : OneKind kd (s ++ t) := fun b hb => by
  rw [ByteArray.data_append, Array.toList_append] at hb
  rcases List.mem_append.1 hb with hb | hb
  · exact h b hb
  · exact h2 b hb
theorem OneKind.extract {kd : Int} {s : ByteArray} (h : OneKind kd s) (i j : Nat) : OneKind kd (s.extract i j) := fun b hb => h b (extract_sub hb)
theorem OneKind.nm {kd : Int} {s : ByteArray} (h : OneKind kd s) (hk : kd = 1 ∨ kd = 2) (h1 : 0 < s.size) (h2 : s.size ≤ 6) : Nm s :=
  ⟨h1, h2, fun b hb => by rw [h b hb]; rcases hk with rfl | rfl <;> decide, by rcases hk with rfl | rfl; exact .inl h; exact .inr h⟩

theorem NameOf_l0 {l : List Int} (hl : Lst l) (set : ByteArray) (kd : Int) (hset : OneKind kd set) (hs0 : 0 < set.size) (hs1 : set.size ≤ 1000) : ∀ (n k : Nat) (s : ByteArray) (at_ sd : Int), n < k → 0 ≤ at_ → OneKind kd s → s.size + n ≤ 1000 →
    ∃ r at2 s2, wayzgoosekit_NameOf.l0 k set s (n : Int) l at_ sd = some (r, at2, s2) ∧ 0 ≤ at2 ∧ r.size = s.size + n ∧ OneKind kd r := by
  intro n
  induction n with
  | zero =>
    intro k s at_ sd hk ha hkd _
    obtain ⟨k, rfl⟩ : ∃ k', k = k' + 1 := ⟨k - 1, by omega⟩
    exact ⟨_, _, _, by unfold wayzgoosekit_NameOf.l0; rw [if_neg (by omega)], ha, by omega, hkd⟩
  | succ n ih =>
    intro k s at_ sd hk ha hkd hsz
    obtain ⟨k, rfl⟩ : ∃ k', k = k' + 1 := ⟨k - 1, by omega⟩
    unfold wayzgoosekit_NameOf.l0
    rw [if_pos (by omega), IntWalk.wrap64_in ((set.size : Int) - 1) (by omega)]
    obtain ⟨r, at2, s2, hr, g1, g2, g3⟩ := To_ok hl at_ sd ((set.size : Int) - 1) ha (by omega) (by omega)
    rw [hr]
    simp only [Option.bind_some]
    have e1 : wrap64 (r + 1) = r + 1 := IntWalk.wrap64_in _ (by omega)
    have e2 : wrap64 (((n + 1 : Nat) : Int) - 1) = (n : Int) := by rw [IntWalk.wrap64_in _ (by omega)]; omega
    have e3 : (set.extract r.toNat (r + 1).toNat).size = 1 := by rw [ByteArray.size_extract]; omega
    rw [e1, e2, if_pos g2, if_pos (by omega), if_pos (by omega), if_pos (by omega)]
    obtain ⟨r2, at3, s3, h1, h2, h3, h4⟩ := ih k (s ++ set.extract r.toNat (r + 1).toNat) at2 s2 (by omega) g1 (hkd.append (hset.extract _ _)) (by rw [ByteArray.size_append]; omega)
    exact ⟨r2, at3, s3, h1, h2, by rw [h3, ByteArray.size_append]; omega, h4⟩

def OneKindB (kd : Int) (s : ByteArray) : Bool := s.data.toList.all fun b => kindB b == kd
theorem oneKind_of {kd : Int} {s : ByteArray} (h : OneKindB kd s = true) : OneKind kd s := fun b hb => by
  have := List.all_eq_true.1 h b hb
  simpa using this
theorem words_of {kd : Int} {ws : List ByteArray} (h : (ws.all fun s => OneKindB kd s && decide (0 < s.size) && decide (s.size ≤ 1000)) = true) : ∀ r ∈ ws, OneKind kd r ∧ 0 < r.size ∧ r.size ≤ 1000 := fun r hr => by
  have := List.all_eq_true.1 h r hr
  simp only [Bool.and_eq_true, decide_eq_true_eq] at this
  exact ⟨oneKind_of this.1.1, this.1.2, this.2⟩

theorem NameOf_j0 {l : List Int} (hl : Lst l) (set : ByteArray) (kd : Int) (hset : OneKind kd set) (hkd : kd = 1 ∨ kd = 2) (hs0 : 0 < set.size) (hs1 : set.size ≤ 1000) (k : Nat) (at_ sd most : Int) (hk : 8 ≤ k) (ha : 0 ≤ at_) (hm : 1 ≤ most) (hm2 : most ≤ 1000) :
    ∃ r at2 s2, wayzgoosekit_NameOf.j0 k most set l at_ sd = some (r, at2, s2) ∧ 0 ≤ at2 ∧ Nm r ∧ (r.size : Int) ≤ most := by
  obtain ⟨k, rfl⟩ : ∃ k', k = k' + 1 := ⟨k - 1, by omega⟩
  have hmn : 1 ≤ mn most 6 ∧ mn most 6 ≤ 6 ∧ mn most 6 ≤ most := by unfold mn; split <;> omega
  rw [wayzgoosekit_NameOf.j0]
  obtain ⟨n, at2, s2, hn, g1, g2, g3⟩ := From_ok hl at_ sd 1 (mn most 6) ha (by omega) hmn.1 (by omega)
  rw [hn]
  simp only [Option.bind_some]
  obtain ⟨m, rfl⟩ : ∃ m : Nat, n = (m : Int) := ⟨n.toNat, by omega⟩
  obtain ⟨r, at3, s3, h1, h2, h3, h4⟩ := NameOf_l0 hl set kd hset hs0 hs1 m k ⟨#[]⟩ at2 s2 (by omega) g1 (fun b hb => absurd hb (by simp)) (by show 0 + m ≤ 1000; omega)
  have h3 : r.size = 0 + m := h3
  exact ⟨r, at3, s3, h1, h2, h4.nm hkd (by omega) (by omega), by omega⟩

theorem NameOf_ok {l : List Int} (hl : Lst l) (k : Nat) (at_ sd most : Int) (hk : 8 ≤ k) (ha : 0 ≤ at_) (hm : 1 ≤ most) (hm2 : most ≤ 1000) :
    ∃ r at2 s2, wayzgoosekit_NameOf.f k l at_ sd most = some (r, at2, s2) ∧ 0 ≤ at2 ∧ Nm r ∧ (r.size : Int) ≤ most := by
  unfold wayzgoosekit_NameOf.f
  obtain ⟨w1, at1, s1, h1, g1, m1⟩ := Word_ok hl at_ sd ([(⟨#[97, 101, 115]⟩ : ByteArray), (⟨#[115, 104, 101, 116, 97]⟩ : ByteArray), (⟨#[115, 109, 105, 116, 121, 104, 97]⟩ : ByteArray), (⟨#[99, 104, 106, 97]⟩ : ByteArray), (⟨#[97, 110, 110, 101]⟩ : ByteArray)] : List ByteArray) ha (by simp) (by simp)
  rw [h1]
  simp only [Option.bind_some]
  obtain ⟨o, at2, s2, h2, g2⟩ := Once_ok hl at1 s1 3 g1 (by omega) (by omega)
  rw [h2]
  simp only [Option.bind_some]
  split
  · obtain ⟨w2, at3, s3, h3, g3, m3⟩ := Word_ok hl at2 s2 ([(⟨#[65, 69, 83]⟩ : ByteArray), (⟨#[88, 69, 84, 65]⟩ : ByteArray), (⟨#[83, 77, 73, 84, 89, 65]⟩ : ByteArray), (⟨#[67, 74, 65, 88]⟩ : ByteArray), (⟨#[65, 78, 78, 69]⟩ : ByteArray)] : List ByteArray) g2 (by simp) (by simp)
    rw [h3]
    simp only [Option.bind_some]
    obtain ⟨q1, q2, q3⟩ := words_of (kd := 2) (by decide +kernel) w2 m3
    exact NameOf_j0 hl w2 2 q1 (.inr rfl) q2 q3 k at3 s3 most hk g3 hm hm2
  · obtain ⟨q1, q2, q3⟩ := words_of (kd := 1) (by decide +kernel) w1 m1
    exact NameOf_j0 hl w1 1 q1 (.inl rfl) q2 q3 k at2 s2 most hk g2 hm hm2
theorem bind_eq {α β : Type} {o : Option α} {x : α} {f : α → Option β} (h : o = some x) : o.bind f = f x := by rw [h]; rfl

theorem NamesOf_l0 {l : List Int} (hl : Lst l) (most : Int) (hm : 1 ≤ most) (hm2 : most ≤ 1000) : ∀ (n k : Nat) (acc : List ByteArray) (at_ sd : Int), 2 * n + 9 ≤ k → 0 ≤ at_ → (∀ s ∈ acc, Nm s) → acc.length + n ≤ 1000 →
    ∃ r at2 s2, wayzgoosekit_NamesOf.l0 k most acc (n : Int) l at_ sd = some (r, at2, s2) ∧ 0 ≤ at2 ∧ (∀ s ∈ r, Nm s) ∧ r.length = acc.length + n := by
  intro n
  induction n with
  | zero =>
    intro k acc at_ sd hk ha hacc _
    obtain ⟨k, rfl⟩ : ∃ k', k = k' + 1 := ⟨k - 1, by omega⟩
    exact ⟨_, _, _, by rw [wayzgoosekit_NamesOf.l0, if_neg (by omega)], ha, hacc, by omega⟩
  | succ n ih =>
    intro k acc at_ sd hk ha hacc hlen
    obtain ⟨k, rfl⟩ : ∃ k', k = k' + 2 := ⟨k - 2, by omega⟩
    have en : wrap64 (((n + 1 : Nat) : Int) - 1) = (n : Int) := by rw [IntWalk.wrap64_in _ (by omega)]; omega
    have add : ∀ (x : ByteArray) (at2 s2 : Int), Nm x → 0 ≤ at2 → ∃ r at3 s3, (if acc.length < 8796093022208 then wayzgoosekit_NamesOf.l0 k most (acc ++ [x]) (wrap64 (((n + 1 : Nat) : Int) - 1)) l at2 s2 else none) = some (r, at3, s3) ∧ 0 ≤ at3 ∧ (∀ s ∈ r, Nm s) ∧ r.length = acc.length + (n + 1) := by
      intro x at2 s2 hx h2
      rw [if_pos (by omega), en]
      obtain ⟨r, at3, s3, h1, h3, h4, h5⟩ := ih k (acc ++ [x]) at2 s2 (by omega) h2 (fun s hs => by
        rcases List.mem_append.1 hs with hs | hs
        · exact hacc s hs
        · have : s = x := by simpa using hs
          rw [this]; exact hx) (by simp; omega)
      exact ⟨r, at3, s3, h1, h3, h4, by rw [h5]; simp; omega⟩
    have jn : ∀ (x : ByteArray) (b : Bool) (at2 s2 : Int), Nm x → 0 ≤ at2 → (b = true → 0 < acc.length) → ∃ r at3 s3, wayzgoosekit_NamesOf.j1 (k + 1) most acc ((n + 1 : Nat) : Int) x b l at2 s2 = some (r, at3, s3) ∧ 0 ≤ at3 ∧ (∀ s ∈ r, Nm s) ∧ r.length = acc.length + (n + 1) := by
      intro x b at2 s2 hx h2 hb
      rw [wayzgoosekit_NamesOf.j1]
      cases b with
      | false => rw [if_neg (by decide)]; exact add x at2 s2 hx h2
      | true =>
        have hpos := hb rfl
        rw [if_pos rfl, IntWalk.wrap64_in ((acc.length : Int) - 1) (by omega)]
        obtain ⟨r, at3, s3, h3, g1, g2, g3⟩ := To_ok hl at2 s2 ((acc.length : Int) - 1) h2 (by omega) (by omega)
        rw [bind_eq h3]
        dsimp only
        rw [if_pos g2, if_pos (by omega)]
        have hm : rdOf ByteArray.empty acc r ∈ acc := by
          unfold rdOf
          rw [List.getD_eq_getElem?_getD, List.getElem?_eq_getElem (by omega)]
          exact List.getElem_mem _
        have hn := hacc _ hm
        obtain ⟨y, hy⟩ : ∃ y, rdOf ByteArray.empty acc r = y := ⟨_, rfl⟩
        rw [hy] at hn ⊢
        have hyp := hn.pos
        have hyl := hn.le
        rw [if_pos (by omega)]
        split
        · split
          · obtain ⟨o, at4, s4, h4, g4⟩ := Once_ok hl at3 s3 2 g1 (by omega) (by omega)
            rw [bind_eq h4]
            dsimp only
            split
            · rw [IntWalk.wrap64_in ((y.size : Int) - 1) (by omega)]
              obtain ⟨q, at5, s5, h5, g5, g6, g7⟩ := To_ok hl at4 s4 ((y.size : Int) - 1) g4 (by omega) (by omega)
              rw [bind_eq h5]
              dsimp only
              have e1 : wrap64 (q + 1) = q + 1 := IntWalk.wrap64_in _ (by omega)
              rw [e1, if_pos g6, if_pos (by omega), if_pos (by omega), if_pos (by omega), if_pos (by simp only [ByteArray.size_extract]; omega)]
              refine add _ at5 s5 ?_ g5
              have hsz : (y.extract 0 q.toNat ++ y.extract (q + 1).toNat y.size).size = y.size - 1 := by simp only [ByteArray.size_append, ByteArray.size_extract]; omega
              rcases (show OneKind 1 y ∨ OneKind 2 y from hn.one) with hk1 | hk1
              · exact ((hk1.extract _ _).append (hk1.extract _ _)).nm (.inl rfl) (by omega) (by omega)
              · exact ((hk1.extract _ _).append (hk1.extract _ _)).nm (.inr rfl) (by omega) (by omega)
            · exact add y at4 s4 hn g4
          · exact add y at3 s3 hn g1
        · exact add y at3 s3 hn g1
    rw [wayzgoosekit_NamesOf.l0, if_pos (by omega)]
    obtain ⟨x, at2, s2, h1, g1, hx, _⟩ := NameOf_ok hl (k + 1) at_ sd most (by omega) ha hm hm2
    rw [bind_eq h1]
    dsimp only
    split
    · rename_i hp
      obtain ⟨o, at3, s3, h2, g2⟩ := Once_ok hl at2 s2 3 g1 (by omega) (by omega)
      rw [bind_eq h2]
      exact jn x o at3 s3 hx g2 (fun _ => by omega)
    · exact jn x false at2 s2 hx g1 (fun h => by cases h)

theorem NamesOf_ok {l : List Int} (hl : Lst l) (k : Nat) (at_ sd many most : Int) (hk : 40 ≤ k) (ha : 0 ≤ at_) (hm0 : 0 ≤ many) (hm1 : many ≤ 15) (hm : 1 ≤ most) (hm2 : most ≤ 1000) :
    ∃ r at2 s2, wayzgoosekit_NamesOf.f k l at_ sd many most = some (r, at2, s2) ∧ 0 ≤ at2 ∧ (∀ s ∈ r, Nm s) ∧ (r.length : Int) ≤ many := by
  unfold wayzgoosekit_NamesOf.f
  obtain ⟨n, at2, s2, h1, g1, g2, g3⟩ := To_ok hl at_ sd many ha (by omega) (by omega)
  rw [bind_eq h1]
  obtain ⟨m, rfl⟩ : ∃ m : Nat, n = (m : Int) := ⟨n.toNat, by omega⟩
  obtain ⟨r, at3, s3, h2, h3, h4, h5⟩ := NamesOf_l0 hl most hm hm2 m k [] at2 s2 (by omega) g1 (fun s hs => by cases hs) (by simp; omega)
  exact ⟨r, at3, s3, h2, h3, h4, by rw [h5]; simp; omega⟩

end Go.Proofs.YtapikimhmjnjeaaGreatDoor.Pure

