/- What the reference's Shortest and Fit say, as the print has them: the same as the program's: plain laws. -/
import Derived.Test.YtapikimhmjnjeaaGreatDoorRefParts
import Derived.Test.YtapikimhmjnjeaaGreatDoorPr23
/- What the reference's Shortest and Fit say, as the print has them: the same as the program's: plain laws. -/
set_option linter.unusedVariables false
set_option linter.unusedSimpArgs false
namespace Go.Proofs.YtapikimhmjnjeaaGreatDoor.Pure
open Go.RowKit Go.Proofs.YtapikimhmjnjeaaGreatDoor Go.Proofs.YtapikimhmjnjeaaGreatDoor.Pr Go.Proofs.YtapikimhmjnjeaaGreatDoorW.PrintWords Go.Proofs.YtapikimhmjnjeaaGreatDoorW.PrintLast

/-- The first so far and one more, which counts or not. -/
def stepB (o : Option ByteArray) (s : ByteArray) (b : Bool) : Option ByteArray :=
  if b = true then (match o with | some x => if cmpS s x < 0 then some s else some x | none => some s) else o
/-- Letters that stand for no other key of a list. -/
def fineB (l : List ByteArray) (own s : ByteArray) : Bool := l.all fun x => !mistB s own x

theorem key_ne {x own : ByteArray} : (x.toList = own.toList) ↔ x = own := ⟨fun h => tl_inj h, fun h => by rw [h]⟩
theorem mistB_eq (s own x : ByteArray) : mistB s own x = (!decide (keyB x = own) && standsB s (keyB x)) := by
  unfold mistB
  congr 2
  rw [Bool.eq_iff_iff, beq_iff_eq, decide_eq_true_iff]
  exact ⟨fun h => ba_ext h, fun h => by rw [h]⟩

section
variable {l : List ByteArray} (hl : ∀ s ∈ l, Nm s) (hlen : l.length ≤ 6) (own : ByteArray) (s : ByteArray) (hs0 : 0 < s.size) (hs1 : s.size ≤ 100) (all : List ByteArray) (hall : all.length ≤ 1000000) (q : Nat) (hq : q < all.length) (o : Option ByteArray)
include hl hlen hs0 hs1 hall hq

theorem best_l1 (T : ByteArray × Bool) (h : ∀ b, b = fineB l own s → Evn (fun k => wayzgooseref03_best.l0 k l own ((stepB o s b).getD ByteArray.empty) (stepB o s b).isSome all ((q + 1 : Nat) : Int)) T) :
    ∀ (n j : Nat), j + n = l.length → ∀ b, (b && (l.drop j).all fun x => !mistB s own x) = fineB l own s → Evn (fun k => wayzgooseref03_best.l1 k l own (o.getD ByteArray.empty) o.isSome all (q : Int) s b (j : Int)) T
  | 0, j, hj, b, hb => by
      rw [List.drop_eq_nil_of_le (by omega), List.all_nil, Bool.and_true] at hb
      refine (h b hb).next 0 fun k _ => ?_
      have e2 : wrap64 ((q : Int) + 1) = ((q + 1 : Nat) : Int) := by rw [IntWalk.wrap64_in _ (by omega)]; omega
      rw [wayzgooseref03_best.l1, if_neg (by omega), e2]
      cases b with
      | false => rw [if_neg (by decide)]; rfl
      | true =>
        rw [if_pos rfl]
        cases o with
        | none => rfl
        | some x =>
          rw [if_pos (show (some x).isSome = true from rfl)]
          unfold stepB
          rw [if_pos rfl]
          dsimp only [Option.getD_some]
          by_cases hc : cmpS s x < 0
          · rw [if_pos hc, if_pos (cmpS_lt.1 hc)]; rfl
          · rw [if_neg hc, if_neg (fun h => hc (cmpS_lt.2 h))]; rfl
  | n + 1, j, hj, b, hb => by
      have hlt : j < l.length := by omega
      have hn := hl _ (getD_mem hlt)
      have e2 : wrap64 ((j : Int) + 1) = ((j + 1 : Nat) : Int) := by rw [IntWalk.wrap64_in _ (by omega)]; omega
      obtain ⟨K1, w1⟩ := refkey_ev hn
      obtain ⟨K2, w2⟩ := abbr_ev s (keyB (l.getD j ByteArray.empty)) (by omega) (Nat.le_trans (key_size hn) (by decide)) hs0
      rw [drop_at hlt, List.all_cons] at hb
      cases b with
      | false =>
        refine (best_l1 T h n (j + 1) (by omega) false (by rw [← hb]; rfl)).next 0 fun k _ => ?_
        rw [wayzgooseref03_best.l1, if_pos (by omega), if_neg (by decide), e2]
      | true =>
        by_cases hk : keyB (l.getD j ByteArray.empty) = own
        · refine (best_l1 T h n (j + 1) (by omega) true (by rw [← hb, mistB_eq, decide_eq_true hk]; rfl)).next K1 fun k hk1 => ?_
          rw [wayzgooseref03_best.l1, if_pos (by omega), if_pos rfl, if_pos (by omega), rd_at, bind_eq (w1 k hk1), if_pos (key_ne.2 hk), e2]
        · refine (best_l1 T h n (j + 1) (by omega) (!standsB s (keyB (l.getD j ByteArray.empty))) (by rw [← hb, mistB_eq, decide_eq_false hk]; rfl)).next (K1 + K2) fun k hk1 => ?_
          rw [wayzgooseref03_best.l1, if_pos (by omega), if_pos rfl, if_pos (by omega), rd_at, bind_eq (w1 k (by omega)), if_neg (fun h => hk (key_ne.1 h)), bind_eq (w1 k (by omega)), bind_eq (w2 k (by omega)), e2]
end

/-- The first of some letters that are fine. -/
def bestL (l : List ByteArray) (own hd : ByteArray) (o : Option ByteArray) (all : List ByteArray) : Option ByteArray := all.foldl (fun o y => stepB o (hd ++ y) (fineB l own (hd ++ y))) o

theorem best_l0 {l : List ByteArray} (hl : ∀ s ∈ l, Nm s) (hlen : l.length ≤ 6) (own : ByteArray) (ho : 0 < own.size) (all : List ByteArray) (hall : all.length ≤ 1000000) (hy : ∀ y ∈ all, y.size ≤ 90) :
    ∀ (n q : Nat) (o : Option ByteArray), q + n = all.length → (∀ x, o = some x → x.size ≤ 100) → Evn (fun k => wayzgooseref03_best.l0 k l own (o.getD ByteArray.empty) o.isSome all (q : Int)) (dotted ((bestL l own (own.extract 0 1) o (all.drop q)).getD ByteArray.empty), (bestL l own (own.extract 0 1) o (all.drop q)).isSome)
  | 0, q, o, hq, hox => Evn.step 0 fun k _ => by
      have : (o.getD ByteArray.empty).size ≤ 100 := by
        cases o with
        | none => exact Nat.zero_le _
        | some x => exact hox x rfl
      rw [wayzgooseref03_best.l0, if_neg (by omega), if_pos (by omega), List.drop_eq_nil_of_le (by omega)]
      rfl
  | n + 1, q, o, hq, hox => by
      have hlt : q < all.length := by omega
      have hys := hy _ (getD_mem hlt)
      have hes : (own.extract 0 1).size = 1 := by rw [ByteArray.size_extract]; omega
      obtain ⟨y, hyy⟩ : ∃ y, all.getD q ByteArray.empty = y := ⟨_, rfl⟩
      rw [hyy] at hys
      have hsz : (own.extract 0 1 ++ y).size = 1 + y.size := by rw [ByteArray.size_append, hes]
      rw [drop_at hlt, hyy]
      have ih := best_l0 hl hlen own ho all hall hy n (q + 1) (stepB o (own.extract 0 1 ++ y) (fineB l own (own.extract 0 1 ++ y))) (by omega) (fun x hx => by
        unfold stepB at hx
        split at hx
        · cases o with
          | none => injection hx with hx; subst hx; omega
          | some z =>
            dsimp only at hx
            split at hx
            · injection hx with hx; subst hx; omega
            · exact hox x hx
        · exact hox x hx)
      have h1 := best_l1 hl hlen own (own.extract 0 1 ++ y) (by omega) (by omega) all hall q hlt o _ (fun b hb => by rw [hb]; exact ih) l.length 0 (by omega) true (by rw [List.drop_zero]; rfl)
      refine h1.next 0 fun k _ => ?_
      rw [wayzgooseref03_best.l0, if_pos (by omega), if_pos (by omega), if_pos (by omega), if_pos (by omega), rd_at, hyy, if_pos (by omega)]
      rfl

theorem fineB_iff {l : List ByteArray} {own s : ByteArray} (hs : 0 < s.size) : fineB l own s = true ↔ ∀ x ∈ l, keyB x ≠ own → ¬ Abbr s (keyB x) := by
  unfold fineB
  rw [List.all_eq_true]
  constructor
  · intro h x hx h1 h2
    have h3 := h x hx
    rw [(mistB_iff hs).2 ⟨h1, h2⟩] at h3
    cases h3
  · intro h x hx
    cases hm : mistB s own x with
    | false => rfl
    | true =>
      obtain ⟨h1, h2⟩ := (mistB_iff hs).1 hm
      exact absurd h2 (h x hx h1)

/-- What the fold holds: none where none is fine; else a fine one, and none before it. -/
theorem bestL_is (l : List ByteArray) (own hd : ByteArray) : ∀ (all : List ByteArray) (o : Option ByteArray),
    (bestL l own hd o all = none → o = none ∧ ∀ y ∈ all, fineB l own (hd ++ y) = false) ∧
    (∀ x, bestL l own hd o all = some x → (o = some x ∨ ∃ y ∈ all, x = hd ++ y ∧ fineB l own (hd ++ y) = true) ∧ (∀ z, o = some z → ¬ cmpS z x < 0) ∧ ∀ y ∈ all, fineB l own (hd ++ y) = true → ¬ cmpS (hd ++ y) x < 0)
  | [], o => ⟨fun h => ⟨h, fun y hy => absurd hy (by simp)⟩, fun x hx => ⟨.inl hx, fun z hz => by
      have : some z = some x := hz.symm.trans hx
      injection this with this
      subst this
      exact cmpS_irrefl z, fun y hy => absurd hy (by simp)⟩⟩
  | y :: all, o => by
      obtain ⟨h1, h2⟩ := bestL_is l own hd all (stepB o (hd ++ y) (fineB l own (hd ++ y)))
      have e : bestL l own hd o (y :: all) = bestL l own hd (stepB o (hd ++ y) (fineB l own (hd ++ y))) all := rfl
      rw [e]
      cases hf : fineB l own (hd ++ y) with
      | false =>
        have es : stepB o (hd ++ y) false = o := rfl
        rw [hf, es] at h1 h2
        refine ⟨fun h => ⟨(h1 h).1, fun z hz => ?_⟩, fun x hx => ?_⟩
        · rcases List.mem_cons.1 hz with rfl | hz
          · exact hf
          · exact (h1 h).2 z hz
        · obtain ⟨g1, g2, g3⟩ := h2 x hx
          refine ⟨?_, g2, fun z hz hzf => ?_⟩
          · rcases g1 with g1 | ⟨z, hz, g1⟩
            · exact .inl g1
            · exact .inr ⟨z, List.mem_cons_of_mem _ hz, g1⟩
          · rcases List.mem_cons.1 hz with rfl | hz
            · rw [hf] at hzf; cases hzf
            · exact g3 z hz hzf
      | true =>
        rw [hf] at h1 h2
        refine ⟨fun h => ?_, fun x hx => ?_⟩
        · have := (h1 h).1
          unfold stepB at this
          rw [if_pos rfl] at this
          cases o with
          | none => cases this
          | some z => dsimp only at this; split at this <;> cases this
        · obtain ⟨g1, g2, g3⟩ := h2 x hx
          have hst : ∃ z, stepB o (hd ++ y) true = some z ∧ (z = hd ++ y ∨ o = some z) ∧ ¬ cmpS (hd ++ y) z < 0 ∧ ∀ u, o = some u → ¬ cmpS u z < 0 := by
            unfold stepB
            rw [if_pos rfl]
            cases o with
            | none => exact ⟨_, rfl, .inl rfl, cmpS_irrefl _, fun u hu => by cases hu⟩
            | some u =>
              dsimp only
              split
              · rename_i hc
                refine ⟨_, rfl, .inl rfl, cmpS_irrefl _, fun v hv => ?_⟩
                injection hv with hv
                subst hv
                intro h3
                exact cmpS_irrefl _ (cmpS_trans hc h3)
              · rename_i hc
                refine ⟨_, rfl, .inr rfl, hc, fun v hv => ?_⟩
                injection hv with hv
                subst hv
                exact cmpS_irrefl _
          obtain ⟨z, ez, hz, hz2, hz3⟩ := hst
          have hzx := g2 z ez
          have tr : ∀ u, ¬ cmpS u z < 0 → ¬ cmpS u x < 0 := fun u hu h3 => by
            by_cases e : z = x
            · subst e; exact hu h3
            · rcases cmpS_total e with h4 | h4
              · exact hzx h4
              · exact hu (cmpS_trans h3 h4)
          refine ⟨?_, fun u hu => tr u (hz3 u hu), fun u hu huf => ?_⟩
          · rcases g1 with g1 | ⟨u, hu, g1⟩
            · rw [ez] at g1
              injection g1 with g1
              rw [← g1]
              rcases hz with hz | hz
              · exact .inr ⟨y, List.mem_cons_self .., hz, hf⟩
              · exact .inl hz
            · exact .inr ⟨u, List.mem_cons_of_mem _ hu, g1⟩
          · rcases List.mem_cons.1 hu with rfl | hu
            · exact tr _ hz2
            · exact g3 u hu huf

/-- The first of the fine letters of a number. -/
def BestIs (l : List ByteArray) (own : ByteArray) (many : Nat) : Option ByteArray → Prop
  | none => ∀ t, Fine l own t → t.size ≠ many
  | some s => (Fine l own s ∧ s.size = many) ∧ ∀ t, Fine l own t → t.size = many → ¬ cmpS t s < 0

theorem best_ev {l : List ByteArray} (hl : ∀ s ∈ l, Nm s) (hlen : l.length ≤ 6) {i : Nat} (hi : i < l.length) {own : ByteArray} (ho : keyB (l.getD i ByteArray.empty) = own) (many : Nat) (h1 : 1 ≤ many) (h2 : many ≤ 1000) :
    ∃ o r, BestIs l own many o ∧ Evn (fun k => wayzgooseref03_best.f k l (i : Int) (many : Int)) r ∧ r.2 = o.isSome ∧ ∀ s, o = some s → r.1 = dotted s := by
  have hn := hl _ (getD_mem hi)
  obtain ⟨K1, w1⟩ := refkey_ev hn
  have hks := key_size hn
  have hkp := key_pos hn
  rw [ho] at w1 hks hkp
  by_cases hm : own.size ≤ many
  · refine ⟨none, (⟨#[]⟩, false), fun t ht h3 => ?_, ⟨K1, fun k hk => ?_⟩, rfl, fun s hs => by cases hs⟩
    · have := ht.1.lt
      omega
    · show wayzgooseref03_best.f k l (i : Int) (many : Int) = _
      unfold wayzgooseref03_best.f
      rw [if_pos (by omega), if_pos (by omega), rd_at, bind_eq (w1 k hk), if_pos (by omega)]
  · obtain ⟨c, u, hu, _⟩ := first_byte own hkp
    have hul := ba_len own
    rw [hu, List.length_cons] at hul
    have e1 : (own.extract 0 1).data.toList = [c] := by rw [ba_upto, hu]; rfl
    have e2 : (own.extract 1 own.size).data.toList = u := by rw [ba_from, hu]; rfl
    obtain ⟨K2, w2⟩ := parts_f (many - 1) (own.extract 1 own.size) (by omega) (by rw [ByteArray.size_extract]; omega)
    rw [e2] at w2
    have hpl : (partsB (many - 1) u).length ≤ 4096 := Nat.le_trans (partsB_len _ u) (Nat.le_trans (Nat.pow_le_pow_right (by omega) (show _ ≤ 12 by omega)) (by decide))
    obtain ⟨K3, w3⟩ := best_l0 hl hlen own hkp (partsB (many - 1) u) (by omega) (fun y hy => by rw [(mem_partsB.1 hy).2]; omega) (partsB (many - 1) u).length 0 none (by omega) (fun x hx => by cases hx)
    rw [List.drop_zero] at w3
    obtain ⟨g1, g2⟩ := bestL_is l own (own.extract 0 1) (partsB (many - 1) u) none
    have cov : ∀ t : ByteArray, Fine l own t → t.size = many → ∃ y ∈ partsB (many - 1) u, t = own.extract 0 1 ++ y ∧ fineB l own (own.extract 0 1 ++ y) = true := fun t ht hts => by
      obtain ⟨⟨c2, r, u2, h3, h4, h5, h6⟩, h7⟩ := ht
      rw [hu] at h4
      injection h4 with h4 h8
      subst h4 h8
      have hte : t = own.extract 0 1 ++ ⟨r.toArray⟩ := ba_ext (by rw [ba_app, e1, h3]; simp)
      refine ⟨⟨r.toArray⟩, mem_partsB.2 ⟨by simpa using h5, ?_⟩, hte, ?_⟩
      · have := ba_len t
        rw [h3, List.length_cons] at this
        rw [← ba_len]
        simp
        omega
      · rw [← hte]
        exact (fineB_iff (by omega)).2 h7
    have back : ∀ y ∈ partsB (many - 1) u, fineB l own (own.extract 0 1 ++ y) = true → Fine l own (own.extract 0 1 ++ y) ∧ (own.extract 0 1 ++ y).size = many := fun y hy hf => by
      obtain ⟨h3, h4⟩ := mem_partsB.1 hy
      have hsz : (own.extract 0 1 ++ y).size = many := by rw [ByteArray.size_append, ByteArray.size_extract]; omega
      refine ⟨⟨⟨c, y.data.toList, u, by rw [ba_app, e1]; rfl, hu, h3, by rw [ba_len]; omega⟩, (fineB_iff (by omega)).1 hf⟩, hsz⟩
    refine ⟨bestL l own (own.extract 0 1) none (partsB (many - 1) u), (dotted ((bestL l own (own.extract 0 1) none (partsB (many - 1) u)).getD ByteArray.empty), (bestL l own (own.extract 0 1) none (partsB (many - 1) u)).isSome), ?_, ⟨K1 + K2 + K3, fun k hk => ?_⟩, rfl, fun s hs => by rw [hs]; rfl⟩
    · cases hb : bestL l own (own.extract 0 1) none (partsB (many - 1) u) with
      | none =>
        intro t ht hts
        obtain ⟨y, hy, _, hf⟩ := cov t ht hts
        rw [(g1 hb).2 y hy] at hf
        cases hf
      | some x =>
        obtain ⟨h3, _, h4⟩ := g2 x hb
        refine ⟨?_, fun t ht hts => ?_⟩
        · rcases h3 with h3 | ⟨y, hy, rfl, hf⟩
          · cases h3
          · exact back y hy hf
        · obtain ⟨y, hy, rfl, hf⟩ := cov t ht hts
          exact h4 y hy hf
    · show wayzgooseref03_best.f k l (i : Int) (many : Int) = _
      unfold wayzgooseref03_best.f
      have e3 : wrap64 ((many : Int) - 1) = ((many - 1 : Nat) : Int) := by rw [IntWalk.wrap64_in _ (by omega)]; omega
      rw [if_pos (by omega), if_pos (by omega), rd_at, bind_eq (w1 k (by omega)), if_neg (by omega), if_pos (by omega), e3, bind_eq (w2 k (by omega))]
      exact w3 k (by omega)

section
variable {l : List ByteArray} (hl : ∀ s ∈ l, Nm s) (hlen : l.length ≤ 6) {i : Nat} (hi : i < l.length) {own : ByteArray} (ho : keyB (l.getD i ByteArray.empty) = own)
include hl hlen hi ho

theorem refShort_l0 : ∀ (n many : Nat), many + n = 13 → 1 ≤ many → (∀ t, Fine l own t → many ≤ t.size) → Evn (fun k => wayzgooseref03_Shortest.l0 k l (i : Int) (many : Int)) (resC (cutF l own 12 dirS))
  | 0, many, hm, h1, hno => by
      have hn := hl _ (getD_mem hi)
      have hks := key_size hn
      have hkp := key_pos hn
      rw [ho] at hks hkp
      have hcut : cutF l own 12 dirS = none := (cutF_none hkp).2 fun t ht => by
        have := hno t ht
        have := ht.1.lt
        omega
      rw [hcut]
      exact Evn.step 0 fun k _ => by rw [wayzgooseref03_Shortest.l0, if_neg (by omega)]; rfl
  | n + 1, many, hm, h1, hno => by
      have hn := hl _ (getD_mem hi)
      have hks := key_size hn
      have hkp := key_pos hn
      rw [ho] at hks hkp
      obtain ⟨o, r, hb, ⟨K, w⟩, hr2, hr1⟩ := best_ev hl hlen hi ho many h1 (by omega)
      cases o with
      | none =>
        refine (refShort_l0 n (many + 1) (by omega) (by omega) (fun t ht => ?_)).next K fun k hk => ?_
        · have := hno t ht
          have := hb t ht
          omega
        · rw [wayzgooseref03_Shortest.l0, if_pos (by omega), bind_eq (w k hk), hr2, if_neg (by decide), IntWalk.wrap64_in _ (by omega)]
          rw [show ((many + 1 : Nat) : Int) = (many : Int) + 1 by omega]
      | some s =>
        obtain ⟨⟨h3, h4⟩, h5⟩ := hb
        have hcut : cutF l own 12 dirS = some s := by
          refine (cutF_some strictS hkp).2 ⟨⟨h3, by omega⟩, fun y hy hy2 => cutS_le.2 ?_⟩
          have := hno y hy
          by_cases e : y.size = many
          · exact .inr ⟨by omega, h5 y hy e⟩
          · exact .inl (by omega)
        rw [hcut]
        refine Evn.step K fun k hk => ?_
        rw [wayzgooseref03_Shortest.l0, if_pos (by omega), bind_eq (w k hk), hr2, if_pos (show (some s).isSome = true from rfl), hr1 s rfl]
        rfl
theorem refFit_l0 (top : Nat) (ht : top < own.size) : ∀ (many : Nat), many ≤ top → (∀ t, Fine l own t → t.size ≤ top → t.size ≤ many) → Evn (fun k => wayzgooseref03_Fit.l0 k l (i : Int) (many : Int)) (resC (cutF l own (top : Int) dirF))
  | 0, hm, hno => by
      have hn := hl _ (getD_mem hi)
      have hkp := key_pos hn
      rw [ho] at hkp
      have hcut : cutF l own (top : Int) dirF = none := (cutF_none hkp).2 fun t ht h => by
        have := hno t ht (by omega)
        have := ht.1.pos
        omega
      rw [hcut]
      exact Evn.step 0 fun k _ => by rw [wayzgooseref03_Fit.l0, if_neg (by omega)]; rfl
  | many + 1, hm, hno => by
      have hn := hl _ (getD_mem hi)
      have hks := key_size hn
      have hkp := key_pos hn
      rw [ho] at hks hkp
      obtain ⟨o, r, hb, ⟨K, w⟩, hr2, hr1⟩ := best_ev hl hlen hi ho (many + 1) (by omega) (by omega)
      cases o with
      | none =>
        refine (refFit_l0 top ht many (by omega) (fun t ht h => ?_)).next K fun k hk => ?_
        · have := hno t ht h
          have := hb t ht
          omega
        · have e3 : wrap64 (((many + 1 : Nat) : Int) - 1) = (many : Int) := by rw [IntWalk.wrap64_in _ (by omega)]; omega
          rw [wayzgooseref03_Fit.l0, if_pos (by omega), bind_eq (w k hk), hr2, if_neg (by decide), e3]
      | some s =>
        obtain ⟨⟨h3, h4⟩, h5⟩ := hb
        have hcut : cutF l own (top : Int) dirF = some s := by
          refine (cutF_some strictF hkp).2 ⟨⟨h3, by omega⟩, fun y hy hy2 => cutF_le.2 ?_⟩
          have := hno y hy (by omega)
          by_cases e : y.size = many + 1
          · exact .inr ⟨by omega, h5 y hy e⟩
          · exact .inl (by omega)
        rw [hcut]
        refine Evn.step K fun k hk => ?_
        rw [wayzgooseref03_Fit.l0, if_pos (by omega), bind_eq (w k hk), hr2, if_pos (show (some s).isSome = true from rfl), hr1 s rfl]
        rfl
end

theorem indexF_bad {l : List ByteArray} {at_ : Int} (h : ¬ listedZ l = 0) : indexF l at_ = (ByteArray.empty, listedZ l) := by unfold indexF; rw [if_neg h]
theorem indexF_out {l : List ByteArray} {at_ : Int} (h : listedZ l = 0) (h0 : at_ < 0 ∨ (l.length : Int) ≤ at_) : indexF l at_ = (ByteArray.empty, 3) := by unfold indexF; rw [if_pos h, if_pos h0]
/-- The reference's Shortest tells what the program's does: any list of short strings, any index. -/
theorem refShortest_ev {l : List ByteArray} (hl : l.length ≤ 1000) (hs : ∀ s ∈ l, s.size ≤ 1000000) (at_ : Int) : Evn (fun k => wayzgooseref03_Shortest.f k l at_) (shortF l at_) := by
  obtain ⟨K, w⟩ := refList_ev l hl hs
  unfold shortF
  by_cases hz : listedZ l = 0
  · obtain ⟨hlen, hn⟩ := listed_nm hz
    by_cases h0 : at_ < 0 ∨ (l.length : Int) ≤ at_
    · rw [indexF_out hz h0, if_neg (show ¬ (3 : Int) = 0 by decide)]
      have h1 : Evn (fun k => wayzgooseref03_Shortest.j0 k l at_ true) ((⟨#[]⟩ : ByteArray), 3) := Evn.step 0 fun k _ => by rw [wayzgooseref03_Shortest.j0, if_pos rfl]
      obtain ⟨K1, w1⟩ := h1
      refine ⟨K + K1, fun k hk => ?_⟩
      show wayzgooseref03_Shortest.f k l at_ = _
      unfold wayzgooseref03_Shortest.f
      rw [bind_eq (w k (by omega)), if_pos hz]
      by_cases h3 : at_ < 0
      · rw [if_pos h3]; exact w1 k (by omega)
      · rw [if_neg h3, decide_eq_true (by omega)]; exact w1 k (by omega)
    · obtain ⟨i, rfl⟩ : ∃ i : Nat, at_ = (i : Int) := ⟨at_.toNat, by omega⟩
      have hi : i < l.length := by omega
      rw [indexF_at hn hlen hi, if_pos (show (0 : Int) = 0 from rfl)]
      show Evn (fun k => wayzgooseref03_Shortest.f k l (i : Int)) (resC (cutF l (keyB (l.getD i ByteArray.empty)) 12 dirS))
      have h2 := refShort_l0 hn hlen hi rfl 12 1 (by omega) (by omega) (fun t ht => ht.1.pos)
      have h3 : Evn (fun k => wayzgooseref03_Shortest.j0 k l (i : Int) false) (resC (cutF l (keyB (l.getD i ByteArray.empty)) 12 dirS)) := h2.next 0 fun k _ => by rw [wayzgooseref03_Shortest.j0, if_neg (by decide)]; rfl
      obtain ⟨K1, w1⟩ := h3
      refine ⟨K + K1, fun k hk => ?_⟩
      show wayzgooseref03_Shortest.f k l (i : Int) = _
      unfold wayzgooseref03_Shortest.f
      rw [bind_eq (w k (by omega)), if_pos hz, if_neg (by omega), decide_eq_false (by omega)]
      exact w1 k (by omega)
  · rw [indexF_bad hz, if_neg (show ¬ (ByteArray.empty, listedZ l).2 = 0 from hz)]
    refine ⟨K, fun k hk => ?_⟩
    show wayzgooseref03_Shortest.f k l at_ = _
    unfold wayzgooseref03_Shortest.f
    rw [bind_eq (w k hk), if_neg hz]
    rfl
theorem refFit_ev {l : List ByteArray} (hl : l.length ≤ 1000) (hs : ∀ s ∈ l, s.size ≤ 1000000) (at_ wd : Int) : Evn (fun k => wayzgooseref03_Fit.f k l at_ wd) (fitF l at_ wd) := by
  obtain ⟨K, w⟩ := refList_ev l hl hs
  unfold fitF
  by_cases hz : listedZ l = 0
  · obtain ⟨hlen, hn⟩ := listed_nm hz
    by_cases h0 : at_ < 0 ∨ (l.length : Int) ≤ at_
    · rw [indexF_out hz h0, if_neg (show ¬ (3 : Int) = 0 by decide)]
      have h1 : Evn (fun k => wayzgooseref03_Fit.j0 k l at_ wd true) ((⟨#[]⟩ : ByteArray), 3) := Evn.step 0 fun k _ => by rw [wayzgooseref03_Fit.j0, if_pos rfl]
      obtain ⟨K1, w1⟩ := h1
      refine ⟨K + K1, fun k hk => ?_⟩
      show wayzgooseref03_Fit.f k l at_ wd = _
      unfold wayzgooseref03_Fit.f
      rw [bind_eq (w k (by omega)), if_pos hz]
      by_cases h3 : at_ < 0
      · rw [if_pos h3]; exact w1 k (by omega)
      · rw [if_neg h3, decide_eq_true (by omega)]; exact w1 k (by omega)
    · obtain ⟨i, rfl⟩ : ∃ i : Nat, at_ = (i : Int) := ⟨at_.toNat, by omega⟩
      have hi : i < l.length := by omega
      rw [indexF_at hn hlen hi, if_pos (show (0 : Int) = 0 from rfl)]
      show Evn (fun k => wayzgooseref03_Fit.f k l (i : Int) wd) (if wd < 1 then (ByteArray.empty, 1) else if ((keyB (l.getD i ByteArray.empty)).size : Int) ≤ wd then (keyB (l.getD i ByteArray.empty), 0) else resC (cutF l (keyB (l.getD i ByteArray.empty)) (wd - 1) dirF))
      obtain ⟨K2, w2⟩ := refkey_ev (hn _ (getD_mem hi))
      have hks := key_size (hn _ (getD_mem hi))
      obtain ⟨own, ho⟩ : ∃ own, keyB (l.getD i ByteArray.empty) = own := ⟨_, rfl⟩
      rw [ho] at hks w2 ⊢
      have h3 : Evn (fun k => wayzgooseref03_Fit.j0 k l (i : Int) wd false) (if wd < 1 then (ByteArray.empty, 1) else if (own.size : Int) ≤ wd then (own, 0) else resC (cutF l own (wd - 1) dirF)) := by
        by_cases c1 : wd < 1
        · rw [if_pos c1]
          exact Evn.step 0 fun k _ => by rw [wayzgooseref03_Fit.j0, if_neg (by decide), if_pos c1]; rfl
        · rw [if_neg c1]
          by_cases c2 : (own.size : Int) ≤ wd
          · rw [if_pos c2]
            exact Evn.step K2 fun k hk => by rw [wayzgooseref03_Fit.j0, if_neg (by decide), if_neg c1, if_pos (by omega), if_pos (by omega), rd_at, bind_eq (w2 k hk), if_pos c2, bind_eq (w2 k hk)]
          · rw [if_neg c2]
            have e1 : wd - 1 = ((wd - 1).toNat : Int) := by omega
            have h2 := refFit_l0 hn hlen hi ho (wd - 1).toNat (by omega) (wd - 1).toNat (Nat.le_refl _) (fun t _ h => h)
            rw [← e1] at h2
            refine h2.next K2 fun k hk => ?_
            rw [wayzgooseref03_Fit.j0, if_neg (by decide), if_neg c1, if_pos (by omega), if_pos (by omega), rd_at, bind_eq (w2 k hk), if_neg c2, IntWalk.wrap64_in _ (by omega)]
      obtain ⟨K1, w1⟩ := h3
      refine ⟨K + K1, fun k hk => ?_⟩
      show wayzgooseref03_Fit.f k l (i : Int) wd = _
      unfold wayzgooseref03_Fit.f
      rw [bind_eq (w k (by omega)), if_pos hz, if_neg (by omega), decide_eq_false (by omega)]
      exact w1 k (by omega)
  · rw [indexF_bad hz, if_neg (show ¬ (ByteArray.empty, listedZ l).2 = 0 from hz)]
    refine ⟨K, fun k hk => ?_⟩
    show wayzgooseref03_Fit.f k l at_ wd = _
    unfold wayzgooseref03_Fit.f
    rw [bind_eq (w k hk), if_neg hz]
    rfl
end Go.Proofs.YtapikimhmjnjeaaGreatDoor.Pure

