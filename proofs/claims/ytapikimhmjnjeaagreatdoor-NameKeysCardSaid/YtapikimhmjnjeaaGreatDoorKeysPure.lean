/- NameKeys holds of the printed functions: a plain law. -/
import Derived.Test.YtapikimhmjnjeaaGreatDoorPrLNameKeys
import Derived.Test.YtapikimhmjnjeaaGreatDoorRefPure
import Derived.Test.YtapikimhmjnjeaaGreatDoorOtherPure
import Derived.Test.YtapikimhmjnjeaaGreatDoorPrExtOth
/- NameKeys holds of the printed functions: a plain law. -/
set_option linter.unusedVariables false
set_option linter.unusedSimpArgs false
namespace Go.Proofs.YtapikimhmjnjeaaGreatDoor.Pure
open Go.RowKit Go.Proofs.YtapikimhmjnjeaaGreatDoor Go.Proofs.YtapikimhmjnjeaaGreatDoor.Pr Go.Proofs.YtapikimhmjnjeaaGreatDoorW.PrintWords Go.Proofs.YtapikimhmjnjeaaGreatDoorW.PrintLast

/-- What is said of what is found. -/
def othR : Option ByteArray → ByteArray × Int
  | some o => (o, 0)
  | none => (⟨#[]⟩, 11)
/-- What the reference's Other says of a valid name. -/
theorem refOther_ev {s : ByteArray} (h : Nm s) : Evn (fun k => wayzgooseref03_Other.f k s) (othR (otherN s)) := by
  obtain ⟨K1, w1⟩ := refCheck_ev s (Nat.le_trans h.le (by decide))
  obtain ⟨K2, w2⟩ := refkey_ev h
  have hk := key_size h
  have ho : wayzgooseref03_others.f (keyB s) = some ((othL (keyB s).size (keyB s).data.toList).map toB) := by
    unfold wayzgooseref03_others.f
    rw [if_pos hk]
  have hh := oth_head (keyB s).size (keyB s).data.toList
  refine ⟨K1 + K2, fun k hkk => ?_⟩
  show wayzgooseref03_Other.f k s = _
  unfold wayzgooseref03_Other.f otherN
  rw [bind_eq (w1 k (by omega)), nm_chk h, if_pos rfl, bind_eq (w2 k (by omega)), bind_eq ho, ← hh]
  cases othL (keyB s).size (keyB s).data.toList with
  | nil => rfl
  | cons o r =>
    have hz : ¬ ((((o :: r).map toB).length : Nat) : Int) = 0 := by rw [List.map_cons, List.length_cons]; omega
    rw [if_neg hz, if_pos (by omega)]
    rfl

/-- One round: what both say of a string is the same. -/
theorem keys_one {s : ByteArray} (hs : s.size ≤ 1000000) : ∃ a e x g c : _, name_Key.f s = some (a, e) ∧ Evn (fun k => wayzgooseref03_Key.f k s) (a, e) ∧ name_Other.f s = some (x, g) ∧ Evn (fun k => wayzgooseref03_Other.f k s) (x, g) ∧ name_Check.f s = some c ∧ Evn (fun k => wayzgooseref03_Check.f k s) c := by
  have hc : name_Check.f s = some (chk s.data.toList) := by unfold name_Check.f; rw [if_pos (by omega)]
  have hr := refCheck_ev s (by omega)
  by_cases h0 : chk s.data.toList = 0
  · have hn := chk_nm h0
    obtain ⟨p, hp⟩ : ∃ p : ByteArray × Int, othR (otherN s) = p := ⟨_, rfl⟩
    have h1 : name_Other.f s = some (othR (otherN s)) := by rw [Other_f hn]; cases otherN s <;> rfl
    have h2 := refOther_ev hn
    rw [hp] at h1 h2
    exact ⟨keyB s, 0, p.1, p.2, _, Key_f hn, refKey_ev hn, h1, h2, hc, hr⟩
  · obtain ⟨K, hr2⟩ := hr
    refine ⟨⟨#[]⟩, chk s.data.toList, ⟨#[]⟩, chk s.data.toList, _, ?_, ⟨K, fun k hk => ?_⟩, ?_, ⟨K, fun k hk => ?_⟩, hc, ⟨K, hr2⟩⟩
    · unfold name_Key.f
      rw [bind_eq hc, if_neg h0]
    · show wayzgooseref03_Key.f k s = _
      unfold wayzgooseref03_Key.f
      rw [bind_eq (hr2 k hk), if_neg h0]
    · unfold name_Other.f
      rw [bind_eq hc, if_neg h0]
    · show wayzgooseref03_Other.f k s = _
      unfold wayzgooseref03_Other.f
      rw [bind_eq (hr2 k hk), if_neg h0]

theorem keys_l0 (l : List ByteArray) (hl : ∀ s ∈ l, s.size ≤ 1000000) (hlen : l.length ≤ 1000) : ∀ (n i : Nat), i + n = l.length → Evn (fun k => wayzgooselaw03_NameKeys.l0 k l (i : Int)) true
  | 0, i, hi => Evn.step 0 fun k _ => by rw [wayzgooselaw03_NameKeys.l0, if_neg (by omega), bind_eq spelling_ok]
  | n + 1, i, hi => by
      have ih := keys_l0 l hl hlen n (i + 1) (by omega)
      have hlt : i < l.length := by omega
      have hm : l.getD i ByteArray.empty ∈ l := by rw [List.getD_eq_getElem?_getD, List.getElem?_eq_getElem hlt]; exact List.getElem_mem _
      have er : rdOf ByteArray.empty l (i : Int) = l.getD i ByteArray.empty := by unfold rdOf; rw [Int.toNat_natCast]
      obtain ⟨a, e, x, g, c, h1, ⟨K2, h2⟩, h3, ⟨K4, h4⟩, h5, ⟨K6, h6⟩⟩ := keys_one (hl _ hm)
      refine ih.next (K2 + K4 + K6) fun k hk => ?_
      rw [wayzgooselaw03_NameKeys.l0, if_pos (by omega), if_pos (by omega), er, bind_eq h1, bind_eq (h2 k (by omega)), bind_eq h3, bind_eq (h4 k (by omega)), bind_eq h5, bind_eq (h6 k (by omega))]
      dsimp only
      rw [if_pos rfl, if_pos rfl, if_pos rfl, if_pos rfl, if_pos rfl, IntWalk.wrap64_in _ (by omega)]
      rw [show ((i + 1 : Nat) : Int) = (i : Int) + 1 by omega]

/-- long, of no rules and one string. -/
theorem long_one (s : ByteArray) (hs : s.size ≤ 140737488351232) : Evn (fun k => wayzgooselaw03_long.f k [] [s]) (decide (20 < s.size)) := by
  refine ⟨4, fun k hk => ?_⟩
  obtain ⟨k, rfl⟩ : ∃ k', k = k' + 4 := ⟨k - 4, by omega⟩
  show wayzgooselaw03_long.f (k + 4) [] [s] = _
  unfold wayzgooselaw03_long.f
  have e0 : rdOf ByteArray.empty [s] 0 = s := rfl
  rw [wayzgooselaw03_long.l0, if_pos (by simp), if_pos (by decide), e0]
  by_cases h : (s.size : Int) > 20
  · rw [if_pos h, decide_eq_true (by omega)]
  · rw [if_neg h, decide_eq_false (by omega), show wrap64 ((0 : Int) + 1) = 1 from IntWalk.wrap64_in _ (by omega), wayzgooselaw03_long.l0, if_neg (by simp), wayzgooselaw03_long.l1, if_neg (by decide), if_neg (by simp)]
    rfl

theorem NameKeys : wayzgooselaw03_NameKeys.Pure := by
  intro s l0 hs hl _ _
  have key : Evn (fun k => wayzgooselaw03_NameKeys.f k s l0) true := by
    obtain ⟨KL, hL⟩ := long_one s hs
    by_cases h20 : 20 < s.size
    · refine ⟨KL, fun k hk => ?_⟩
      show wayzgooselaw03_NameKeys.f k s l0 = some true
      unfold wayzgooselaw03_NameKeys.f
      rw [bind_eq (hL k hk), decide_eq_true h20, if_pos rfl, bind_eq spelling_ok]
    · obtain ⟨a, at1, s1, e1, g1, ha, _⟩ := NameOf_ok (l := l0) hl 40 0 11400714819323198485 6 (by omega) (by omega) (by omega) (by omega)
      obtain ⟨b, at2, s2, e2, g2, hb, _⟩ := NameOf_ok (l := l0) hl 40 at1 s1 3 (by omega) g1 (by omega) (by omega)
      obtain ⟨c, at3, s3, e3, g3, hc, _⟩ := NameOf_ok (l := l0) hl 40 at2 s2 6 (by omega) g2 (by omega) (by omega)
      have hcl := hc.le
      have hal := ha.le
      have hbl := hb.le
      obtain ⟨K0, h0⟩ := keys_l0 [s, a, b, c ++ s] (fun x hx => by
        simp only [List.mem_cons, List.not_mem_nil, or_false] at hx
        rcases hx with rfl | rfl | rfl | rfl
        · omega
        · omega
        · omega
        · rw [ByteArray.size_append]; omega) (by simp) 4 0 (by simp)
      refine ⟨KL + K0 + 40, fun k hk => ?_⟩
      show wayzgooselaw03_NameKeys.f k s l0 = some true
      unfold wayzgooselaw03_NameKeys.f wayzgoosekit_NewDice.f
      have m : ∀ (x y z : Int) (r : ByteArray × Int × Int), wayzgoosekit_NameOf.f 40 l0 x y z = some r → wayzgoosekit_NameOf.f k l0 x y z = some r := fun x y z r h => at_rounds (fun k => wayzgoosekit_NameOf.mono _ _ _ _ k) (by omega : 40 ≤ k) h
      rw [bind_eq (hL k (by omega)), decide_eq_false h20, if_neg (by decide), bind_eq rfl]
      dsimp only
      rw [bind_eq (m _ _ _ _ e1)]
      dsimp only
      rw [bind_eq (m _ _ _ _ e2)]
      dsimp only
      rw [bind_eq (m _ _ _ _ e3)]
      dsimp only
      rw [if_pos (by omega)]
      exact h0 k (by omega)
  exact key.get
end Go.Proofs.YtapikimhmjnjeaaGreatDoor.Pure

