/- NameRules holds of the printed functions: a plain law. -/
import Derived.Test.YtapikimhmjnjeaaGreatDoorPrLNameRules
import Derived.Test.YtapikimhmjnjeaaGreatDoorUsesMore
import Derived.Test.YtapikimhmjnjeaaGreatDoorEv
/- NameRules holds of the printed functions: a plain law. -/
set_option linter.unusedVariables false
set_option linter.unusedSimpArgs false
namespace Go.Proofs.YtapikimhmjnjeaaGreatDoor.Pure
open Go.RowKit Go.Proofs.YtapikimhmjnjeaaGreatDoor Go.Proofs.YtapikimhmjnjeaaGreatDoor.Pr Go.Proofs.YtapikimhmjnjeaaGreatDoorW.PrintWords Go.Proofs.YtapikimhmjnjeaaGreatDoorW.PrintLast

theorem verd_more {r more : List S83} (hsub : ∀ x ∈ r, x ∈ more) {a b : ByteArray} : ¬ uval (usesN more a b) > uval (usesN r a b) ∧ (verd (usesN r a b) = 2 ∨ verd (usesN more a b) = verd (usesN r a b)) := by
  cases h : usesN r a b with
  | none =>
    refine ⟨?_, .inl rfl⟩
    have := (uval_range (l := more) (a := a) (b := b)).2
    show ¬ uval (usesN more a b) > 9
    omega
  | some n =>
    obtain ⟨m, hm, hq⟩ := usesN_mono hsub h
    rw [hq]
    refine ⟨?_, .inr ?_⟩
    · show ¬ ((m : Int) > (n : Int)); omega
    · cases n with
      | zero =>
        obtain rfl : m = 0 := by omega
        rfl
      | succ n =>
        cases m with
        | zero =>
          exfalso
          rw [usesN_zero.2 (usesN_zero.1 hq)] at h
          injection h with h
          omega
        | succ m => rfl

section
variable {r more : List S83} (hr4 : r.length ≤ 4) (hr : ∀ x ∈ r, RuleOk x) (hm4 : more.length ≤ 4) (hm : ∀ x ∈ more, RuleOk x) (hsub : ∀ x ∈ r, x ∈ more) {l : List ByteArray} (hl6 : l.length ≤ 6) (hl : ∀ s ∈ l, Nm s) (h0 : 0 < l.length)
include hr4 hr hm4 hm hsub hl6 hl h0
theorem rules_l0 : ∀ (n i : Nat), i + n = l.length → Evn (fun k => wayzgooselaw03_NameRules.l0 k r more l (i : Int)) true
  | 0, i, hi => Evn.step 0 fun k _ => by
      rw [wayzgooselaw03_NameRules.l0, if_neg (by omega), bind_eq spelling_ok]
  | n + 1, i, hi => by
      obtain ⟨ea, na⟩ := at_name hl h0
      obtain ⟨eb, nb⟩ := at_name hl (show i < l.length by omega)
      have ea : rdOf ByteArray.empty l (0 : Int) = l.getD 0 ByteArray.empty := ea
      obtain ⟨v1, v2⟩ := verd_more hsub (a := l.getD 0 ByteArray.empty) (b := l.getD i ByteArray.empty)
      refine (rules_l0 n (i + 1) (by omega)).next 7 fun k hk => ?_
      rw [wayzgooselaw03_NameRules.l0, if_pos (by omega), if_pos (by omega), if_pos (by omega), ea, eb, bind_eq (uses_v hr4 hr na nb k hk), bind_eq (uses_v hm4 hm na nb k hk), bind_eq (Verdict_f hr4 hr na nb k hk), bind_eq (Verdict_f hm4 hm na nb k hk)]
      dsimp only
      rw [if_pos rfl, if_pos rfl, if_neg v1, if_pos rfl, if_pos rfl, IntWalk.wrap64_in _ (by omega)]
      rw [show ((i + 1 : Nat) : Int) = (i : Int) + 1 by omega]
      by_cases c : verd (usesN r (l.getD 0 ByteArray.empty) (l.getD i ByteArray.empty)) = 2
      · rw [if_pos c]
      · rw [if_neg c, if_pos (v2.resolve_left c)]
end

theorem NameRules : wayzgooselaw03_NameRules.Pure := by
  intro l0 hl _ _
  have key : Evn (fun k => wayzgooselaw03_NameRules.f k l0) true := by
    obtain ⟨r, at1, s1, e1, g1, hr, hr2⟩ := RulesOf_ok (l := l0) hl 40 0 11400714819323198485 2 (by omega) (by omega) (by omega) (by omega)
    obtain ⟨r2, at2, s2, e2, g2, hq, hq2⟩ := RulesOf_ok (l := l0) hl 40 at1 s1 2 (by omega) g1 (by omega) (by omega)
    obtain ⟨l, at3, s3, e3, g3, hn, hn3⟩ := NamesOf_ok (l := l0) hl 40 at2 s2 3 3 (by omega) g2 (by omega) (by omega) (by omega) (by omega)
    obtain ⟨a, at4, s4, e4, g4, ha, _⟩ := NameOf_ok (l := l0) hl 40 at3 s3 3 (by omega) g3 (by omega) (by omega)
    have hmore : ∀ x ∈ r ++ r2, RuleOk x := fun x hx => by
      rcases List.mem_append.1 hx with hx | hx
      · exact hr x hx
      · exact hq x hx
    have hnn : ∀ s ∈ l ++ [a], Nm s := fun s hs => by
      rcases List.mem_append.1 hs with hs | hs
      · exact hn s hs
      · rw [List.mem_singleton.1 hs]; exact ha
    obtain ⟨K, w0⟩ := rules_l0 (r := r) (more := r ++ r2) (by omega) hr (by simp; omega) hmore (fun x hx => List.mem_append_left _ hx) (l := l ++ [a]) (by simp; omega) hnn (by simp) (l ++ [a]).length 0 (by omega)
    refine ⟨K + 40, fun k hk => ?_⟩
    show wayzgooselaw03_NameRules.f k l0 = some true
    unfold wayzgooselaw03_NameRules.f wayzgoosekit_NewDice.f
    rw [bind_eq rfl]
    dsimp only
    rw [bind_eq (at_rounds (fun k => wayzgoosekit_RulesOf.mono _ _ _ _ k) (by omega : 40 ≤ k) e1)]
    dsimp only
    rw [bind_eq rfl, if_pos (by simp; omega), bind_eq rfl]
    rw [bind_eq (at_rounds (fun k => wayzgoosekit_RulesOf.mono _ _ _ _ k) (by omega : 40 ≤ k) e2)]
    dsimp only
    rw [if_pos (by simp; omega), bind_eq (at_rounds (fun k => wayzgoosekit_NamesOf.mono _ _ _ _ _ k) (by omega : 40 ≤ k) e3)]
    dsimp only
    rw [bind_eq (at_rounds (fun k => wayzgoosekit_NameOf.mono _ _ _ _ k) (by omega : 40 ≤ k) e4)]
    dsimp only
    rw [if_pos (by omega)]
    exact w0 k (by omega)
  exact key.get
end Go.Proofs.YtapikimhmjnjeaaGreatDoor.Pure

