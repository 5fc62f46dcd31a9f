/- What the printed Chain, Uses and the law's uses say of good rules and names: plain laws. -/
import Derived.Test.YtapikimhmjnjeaaGreatDoorKit
import Derived.Test.YtapikimhmjnjeaaGreatDoorPr4
/- What the printed Chain, Uses and the law's uses say of good rules and names: plain laws. -/
set_option linter.unusedVariables false
set_option linter.unusedSimpArgs false
namespace Go.Proofs.YtapikimhmjnjeaaGreatDoor.Pure
open Go.RowKit Go.Proofs.YtapikimhmjnjeaaGreatDoor Go.Proofs.YtapikimhmjnjeaaGreatDoor.Pr Go.Proofs.YtapikimhmjnjeaaGreatDoorW.PrintWords Go.Proofs.YtapikimhmjnjeaaGreatDoorW.PrintLast

theorem rulesError_l0 (l : List S83) (hl : l.length ≤ 4) (h : ∀ r ∈ l, RuleOk r) : ∀ (n i k : Nat), n < k → i + n = l.length → name_rulesError.l0 k l (l.length : Int) (i : Int) = some 0 := by
  intro n
  induction n with
  | zero =>
    intro i k hk hi
    obtain ⟨k, rfl⟩ : ∃ k', k = k' + 1 := ⟨k - 1, by omega⟩
    rw [name_rulesError.l0, if_neg (by omega)]
  | succ n ih =>
    intro i k hk hi
    obtain ⟨k, rfl⟩ : ∃ k', k = k' + 1 := ⟨k - 1, by omega⟩
    have hm : rd_T83 l (i : Int) ∈ l := by
      unfold rd_T83
      rw [Int.toNat_natCast, List.getD_eq_getElem?_getD, List.getElem?_eq_getElem (by omega)]
      exact List.getElem_mem _
    obtain ⟨h1, h2, h3⟩ := h _ hm
    rw [name_rulesError.l0, if_pos (by omega), if_pos (by omega), if_pos (by omega)]
    unfold name_letters.f
    rw [h1, h2]
    dsimp only [Option.bind_some]
    rw [if_pos rfl, if_pos rfl, if_neg (fun e => h3 (tl_inj e)), IntWalk.wrap64_in _ (by omega)]
    have := ih (i + 1) k (by omega) (by omega)
    rw [show ((i + 1 : Nat) : Int) = (i : Int) + 1 by omega] at this
    exact this
theorem rulesError_ok (l : List S83) (hl : l.length ≤ 4) (h : ∀ r ∈ l, RuleOk r) (k : Nat) (hk : 5 ≤ k) : name_rulesError.f k l = some 0 := by
  unfold name_rulesError.f
  rw [if_neg (by omega)]
  exact rulesError_l0 l hl h l.length 0 k (by omega) (by omega)

theorem check_f {s : ByteArray} (h : Nm s) : name_Check.f s = some 0 := by
  unfold name_Check.f
  rw [if_pos (Nat.le_trans h.le (by decide)), nm_chk h]
theorem of_f {s : ByteArray} (h : Nm s) : name_of.f s = some (keyB s) := by
  unfold name_of.f
  rw [if_pos (nm_chk h)]
theorem checked_l0 (l : List ByteArray) (hl : l.length ≤ 1000) (h : ∀ s ∈ l, Nm s) : ∀ (n i k : Nat), n < k → i + n = l.length → name_checked.l0 k l (l.length : Int) (i : Int) = some 0 := by
  intro n
  induction n with
  | zero =>
    intro i k hk hi
    obtain ⟨k, rfl⟩ : ∃ k', k = k' + 1 := ⟨k - 1, by omega⟩
    rw [name_checked.l0, if_neg (by omega)]
  | succ n ih =>
    intro i k hk hi
    obtain ⟨k, rfl⟩ : ∃ k', k = k' + 1 := ⟨k - 1, by omega⟩
    have hm : rdOf ByteArray.empty l (i : Int) ∈ l := by
      unfold rdOf
      rw [Int.toNat_natCast, List.getD_eq_getElem?_getD, List.getElem?_eq_getElem (by omega)]
      exact List.getElem_mem _
    rw [name_checked.l0, if_pos (by omega), if_pos (by omega), if_pos (by omega), bind_eq (check_f (h _ hm)), if_pos rfl, IntWalk.wrap64_in _ (by omega)]
    have := ih (i + 1) k (by omega) (by omega)
    rw [show ((i + 1 : Nat) : Int) = (i : Int) + 1 by omega] at this
    exact this
theorem checked_ok (l : List ByteArray) (h : ∀ s ∈ l, Nm s) (hl : l.length ≤ 1000) (k : Nat) (hk : l.length < k) : name_checked.f k l = some 0 := by
  unfold name_checked.f
  exact checked_l0 l hl h l.length 0 k (by omega) (by omega)
theorem lat_size {s : ByteArray} {a b : Int} (h : lettersB s a b = true) : (s.size : Int) ≤ b := by
  unfold lettersB at h
  simp only [Bool.and_eq_true, decide_eq_true_eq] at h
  exact h.1.2
theorem chain_f {l : List S83} (hl : l.length ≤ 4) (h : ∀ r ∈ l, RuleOk r) {a : ByteArray} (ha : a.size ≤ 1000) (b : ByteArray) : name_key_chain.f a l b = some ((chainF (l.map toRl) a b).getD [], (chainF (l.map toRl) a b).isSome) := by
  unfold name_key_chain.f
  rw [if_pos]
  refine ⟨by omega, fun r hr => ?_, ha⟩
  obtain ⟨x, hx, rfl⟩ := List.mem_map.1 hr
  obtain ⟨h1, h2, _⟩ := h x hx
  have := lat_size h1
  have := lat_size h2
  exact ⟨by show x.f0.size ≤ 1000; omega, by show x.f1.size ≤ 1000; omega⟩

/-- The chain between two names, by their keys. -/
def chainK (l : List S83) (a b : ByteArray) : Option (List ByteArray) := chainF (l.map toRl) (keyB a) (keyB b)

theorem Chain_f {l : List S83} (hl : l.length ≤ 4) (h : ∀ r ∈ l, RuleOk r) {a b : ByteArray} (ha : Nm a) (hb : Nm b) (k : Nat) (hk : 7 ≤ k) :
    name_Chain.f k l a b = some ((chainK l a b).getD [], if (chainK l a b).isSome then 0 else 11) := by
  unfold name_Chain.f
  rw [bind_eq (rulesError_ok l hl h k (by omega)), if_pos rfl,
    bind_eq (checked_ok [a, b] (fun s hs => by rcases List.mem_cons.1 hs with rfl | hs; exact ha; rcases List.mem_cons.1 hs with rfl | hs; exact hb; cases hs) (by simp) k (by simp; omega)), if_pos rfl,
    bind_eq (of_f ha), bind_eq (of_f hb), bind_eq (chain_f hl h (Nat.le_trans (key_size ha) (by decide)) (keyB b))]
  dsimp only
  unfold chainK
  cases chainF (l.map toRl) (keyB a) (keyB b) <;> rfl

theorem chainFrom_len {l : List Rl} {a b : ByteArray} : ∀ (g n : Nat) (x : List ByteArray), chainFrom l a b g n = some x → n + 1 ≤ x.length ∧ x.length ≤ n + g
  | 0, _, _, h => by simp [chainFrom] at h
  | g + 1, n, x, h => by
    unfold chainFrom at h
    split at h
    · rename_i y hy
      obtain rfl : y = x := by simpa using h
      have := growL_len _ _ _ _ (firstL_mem _ _ _ hy)
      simp at this
      omega
    · have := chainFrom_len g (n + 1) x h
      omega
theorem chainF_len {l : List Rl} {a b : ByteArray} {x : List ByteArray} (h : chainF l a b = some x) : 1 ≤ x.length ∧ x.length ≤ 3 := by
  have := chainFrom_len 3 0 x h
  omega

/-- How many uses lie between two names; none: too many. -/
def usesN (l : List S83) (a b : ByteArray) : Option Nat := (chainK l a b).map fun x => x.length - 1
theorem usesN_le {l : List S83} {a b : ByteArray} {n : Nat} (h : usesN l a b = some n) : n ≤ 2 := by
  unfold usesN at h
  cases hc : chainK l a b with
  | none => rw [hc] at h; cases h
  | some x =>
    rw [hc] at h
    have := chainF_len hc
    have : x.length - 1 = n := by simpa using h
    omega

theorem Uses_f {l : List S83} (hl : l.length ≤ 4) (h : ∀ r ∈ l, RuleOk r) {a b : ByteArray} (ha : Nm a) (hb : Nm b) (k : Nat) (hk : 7 ≤ k) :
    name_Uses.f k l a b = some (match usesN l a b with | some n => ((n : Int), 0) | none => (0, 11)) := by
  unfold name_Uses.f
  rw [bind_eq (Chain_f hl h ha hb k hk)]
  dsimp only
  unfold usesN
  cases hc : chainK l a b with
  | none => rfl
  | some x =>
    have := chainF_len hc
    show (if (0 : Int) = 0 then some (wrap64 ((x.length : Int) - 1), (0 : Int)) else some (0, 0)) = some (((x.length - 1 : Nat) : Int), 0)
    rw [if_pos rfl, IntWalk.wrap64_in _ (by omega)]
    congr 2
    omega
theorem uses_f {l : List S83} (hl : l.length ≤ 4) (h : ∀ r ∈ l, RuleOk r) {a b : ByteArray} (ha : Nm a) (hb : Nm b) (k : Nat) (hk : 7 ≤ k) :
    wayzgooselaw03_uses.f k l a b = some (match usesN l a b with | some n => (n : Int) | none => 9, true) := by
  unfold wayzgooselaw03_uses.f
  rw [bind_eq (Uses_f hl h ha hb k hk)]
  cases hu : usesN l a b with
  | none => rfl
  | some n =>
    have := usesN_le hu
    dsimp only
    rw [if_neg (by decide), if_pos rfl, if_pos (by omega), decide_eq_true (by omega)]
end Go.Proofs.YtapikimhmjnjeaaGreatDoor.Pure

