/- NameList holds of the printed functions: a plain law. -/
import Derived.Test.YtapikimhmjnjeaaGreatDoorPrLNameList
import Derived.Test.YtapikimhmjnjeaaGreatDoorShortsPure
/- NameList holds of the printed functions: a plain law. -/
set_option linter.unusedVariables false
set_option linter.unusedSimpArgs false
namespace Go.Proofs.YtapikimhmjnjeaaGreatDoor.Pure
open Go.RowKit Go.Proofs.YtapikimhmjnjeaaGreatDoor Go.Proofs.YtapikimhmjnjeaaGreatDoor.Pr Go.Proofs.YtapikimhmjnjeaaGreatDoorW.PrintWords Go.Proofs.YtapikimhmjnjeaaGreatDoorW.PrintLast

/-- One name more never makes the first fine letters fewer; the same name again leaves them. -/
theorem cut_more {l l2 : List ByteArray} (hsub : ∀ x ∈ l, x ∈ l2) {own : ByteArray} (ho : 0 < own.size) :
    (cutF l own 12 dirS = none → cutF l2 own 12 dirS = none) ∧ (∀ s t, cutF l own 12 dirS = some s → cutF l2 own 12 dirS = some t → s.size ≤ t.size) ∧
    ((∀ x ∈ l2, x ∈ l ∨ keyB x = own) → cutF l2 own 12 dirS = cutF l own 12 dirS) := by
  refine ⟨fun h => ?_, fun s t hs ht => ?_, fun h => ?_⟩
  · rw [cutF_none ho] at h ⊢
    exact fun t ht => h t (ht.sub hsub)
  · obtain ⟨_, h1⟩ := (cutF_some strictS ho).1 hs
    obtain ⟨⟨h2, h3⟩, _⟩ := (cutF_some strictS ho).1 ht
    rcases cutS_le.1 (h1 t (h2.sub hsub) h3) with h4 | ⟨h4, _⟩ <;> omega
  · have hf : ∀ s, Fine l2 own s ↔ Fine l own s := fun s => by
      constructor
      · exact fun h => h.sub hsub
      · intro hh
        refine ⟨hh.1, fun x hx hk => ?_⟩
        rcases h x hx with hx | hx
        · exact hh.2 x hx hk
        · exact absurd hx hk
    cases hc : cutF l own 12 dirS with
    | none =>
      rw [cutF_none ho] at hc ⊢
      exact fun t ht => hc t ((hf t).1 ht)
    | some s =>
      obtain ⟨⟨h1, h2⟩, h3⟩ := (cutF_some strictS ho).1 hc
      exact (cutF_some strictS ho).2 ⟨⟨(hf s).2 h1, h2⟩, fun y hy hy2 => h3 y ((hf y).1 hy) hy2⟩

theorem list_j0 {l : List ByteArray} (hl : ∀ s ∈ l, Nm s) (hlen : l.length ≤ 5) {x : ByteArray} (hx : Nm x) {i : Nat} (hi : i < l.length) (k : Nat) :
    wayzgooselaw03_NameList.j0 (k + 1) l (i : Int) (l ++ [x]) = some true := by
  have hl2 := snoc_nm2 hl hx
  have hlen2 : (l ++ [x]).length = l.length + 1 := by simp
  have e0 : (l ++ [x]).getD i ByteArray.empty = l.getD i ByteArray.empty := by rw [List.getD_eq_getElem?_getD, List.getElem?_append_left hi, ← List.getD_eq_getElem?_getD]
  have h1 := Shortest_f hl (by omega) hi
  have h2 := Shortest_f hl2 (by omega) (show i < (l ++ [x]).length by omega)
  rw [e0] at h2
  obtain ⟨er, hn⟩ := at_name hl hi
  have el : rdOf ByteArray.empty (l ++ [x]) (l.length : Int) = x := by
    unfold rdOf
    rw [Int.toNat_natCast, List.getD_eq_getElem?_getD, List.getElem?_append_right (Nat.le_refl _), Nat.sub_self]
    rfl
  obtain ⟨g1, g2, g3⟩ := cut_more (l := l) (l2 := l ++ [x]) (fun y hy => List.mem_append_left _ hy) (key_pos hn)
  have g3 : x = l.getD i ByteArray.empty → cutF (l ++ [x]) (keyB (l.getD i ByteArray.empty)) 12 dirS = cutF l (keyB (l.getD i ByteArray.empty)) 12 dirS := fun e => g3 fun y hy => by
    rcases List.mem_append.1 hy with hy | hy
    · exact .inl hy
    · right; rw [List.mem_singleton.1 hy, e]
  rw [wayzgooselaw03_NameList.j0, bind_eq h1, bind_eq h2]
  have hex : (x.toList = (l.getD i ByteArray.empty).toList) ↔ x = l.getD i ByteArray.empty := ⟨fun h => tl_inj h, fun h => by rw [h]⟩
  cases hc1 : cutF l (keyB (l.getD i ByteArray.empty)) 12 dirS with
  | none =>
    rw [g1 hc1]
    unfold resC
    dsimp only
    rw [if_neg (by decide), if_pos rfl, if_pos rfl, bind_eq spelling_ok]
  | some s =>
    cases hc2 : cutF (l ++ [x]) (keyB (l.getD i ByteArray.empty)) 12 dirS with
    | none =>
      have hne : ¬ x = l.getD i ByteArray.empty := fun e => by
        have := g3 e
        rw [hc1, hc2] at this
        cases this
      unfold resC
      dsimp only
      rw [if_pos rfl, if_pos rfl, if_pos (by omega), if_pos (by omega), if_pos (by omega), if_pos (by omega), el, er, if_neg (fun h => hne (hex.1 h)), bind_eq spelling_ok]
    | some t =>
      have hst := g2 s t hc1 hc2
      have d1 := dotted_size s
      have d2 := dotted_size t
      unfold resC
      dsimp only
      rw [if_pos rfl, if_neg (by decide), if_pos rfl, if_pos (by omega), if_pos (by omega), if_pos (by omega), if_pos (by omega), if_pos (by omega), el, er]
      by_cases e : x = l.getD i ByteArray.empty
      · have h3 := g3 e
        rw [hc1, hc2] at h3
        injection h3 with h3
        rw [if_pos (hex.2 e), if_pos (by rw [h3]), bind_eq spelling_ok]
      · rw [if_neg (fun h => e (hex.1 h)), bind_eq spelling_ok]
theorem dup_some {l : List ByteArray} (hl : l.length ≤ 1000000) : wayzgoosekit_DupStrings.f l = some l := by
  unfold wayzgoosekit_DupStrings.f
  rw [bind_eq rfl, if_pos (by simp; omega)]
  rfl

theorem NameList : wayzgooselaw03_NameList.Pure := by
  intro l0 hl _ _
  have key : Evn (fun k => wayzgooselaw03_NameList.f k l0) true := by
    obtain ⟨l, at1, s1, e1, g1, hn, hn4⟩ := NamesOf_ok (l := l0) hl 40 0 11400714819323198485 4 5 (by omega) (by omega) (by omega) (by omega) (by omega) (by omega)
    obtain ⟨a, at2, s2, e2, g2, ha, _⟩ := NameOf_ok (l := l0) hl 40 at1 s1 5 (by omega) g1 (by omega) (by omega)
    have hnn := snoc_nm2 hn ha
    have hlen : (l ++ [a]).length = l.length + 1 := by simp
    obtain ⟨i_, at3, s3, e3, g3, b1, b2⟩ := To_ok (l := l0) hl at2 s2 (l.length : Int) g2 (by omega) (by omega)
    obtain ⟨i, rfl⟩ : ∃ i : Nat, i_ = (i : Int) := ⟨i_.toNat, by omega⟩
    have hi : i < (l ++ [a]).length := by omega
    obtain ⟨x, at4, s4, e4, g4, hx, _⟩ := NameOf_ok (l := l0) hl 40 at3 s3 5 (by omega) g3 (by omega) (by omega)
    obtain ⟨o, at5, s5, e5, g5⟩ := Once_ok (l := l0) hl at4 s4 4 g4 (by omega) (by omega)
    have ez : wrap64 (((l ++ [a]).length : Int) - 1) = (l.length : Int) := by rw [IntWalk.wrap64_in _ (by omega)]; omega
    refine ⟨50, fun k hk => ?_⟩
    show wayzgooselaw03_NameList.f k l0 = some true
    obtain ⟨k, rfl⟩ : ∃ k', k = k' + 1 := ⟨k - 1, by omega⟩
    unfold wayzgooselaw03_NameList.f wayzgoosekit_NewDice.f
    rw [bind_eq rfl]
    dsimp only
    rw [bind_eq (at_rounds (fun k => wayzgoosekit_NamesOf.mono _ _ _ _ _ k) (by omega : 40 ≤ k + 1) e1)]
    dsimp only
    rw [bind_eq (at_rounds (fun k => wayzgoosekit_NameOf.mono _ _ _ _ k) (by omega : 40 ≤ k + 1) e2)]
    dsimp only
    rw [if_pos (by omega), bind_eq rfl, ez, bind_eq e3]
    dsimp only
    rw [bind_eq (dup_some (by omega)), bind_eq (at_rounds (fun k => wayzgoosekit_NameOf.mono _ _ _ _ k) (by omega : 40 ≤ k + 1) e4)]
    dsimp only
    rw [if_pos (by omega), bind_eq rfl, bind_eq e5]
    dsimp only
    obtain ⟨er, hni⟩ := at_name hnn hi
    cases o with
    | false =>
      rw [if_neg (by decide)]
      exact list_j0 hnn (by omega) hx hi k
    | true =>
      have hlen2 : ((l ++ [a]) ++ [x]).length = (l ++ [a]).length + 1 := by simp
      rw [if_pos rfl, if_pos (by omega), if_pos (by omega), if_pos (by omega), if_pos (by omega), er]
      have e9 : ((l ++ [a]) ++ [x]).set (((l ++ [a]).length : Int)).toNat ((l ++ [a]).getD i ByteArray.empty) = (l ++ [a]) ++ [(l ++ [a]).getD i ByteArray.empty] := by
        rw [Int.toNat_natCast, List.set_append_right _ _ (Nat.le_refl _), Nat.sub_self]
        rfl
      rw [e9]
      exact list_j0 hnn (by omega) hni hi k
  exact key.get
end Go.Proofs.YtapikimhmjnjeaaGreatDoor.Pure

