/- What the laws' abbreviations makes of a key. -/
import Derived.Test.YtapikimhmjnjeaaGreatDoorPr11
import Derived.Test.YtapikimhmjnjeaaGreatDoorAppN
/- What the laws' abbreviations makes of a key. -/
set_option linter.unusedVariables false
set_option linter.unusedSimpArgs false
namespace Go.Proofs.YtapikimhmjnjeaaGreatDoor
open Go.RowKit Go.Shelf Go.Proofs.YtapikimhmjnjeaaGreatDoor.Pr Go.Proofs.YtapikimhmjnjeaaGreatDoorW.PrintWords Go.Proofs.YtapikimhmjnjeaaGreatDoorW.PrintLast Go.Proofs.YtapikimhmjnjeaaGreatDoorW.PrintMore
attribute [local go_sem] Oper.semAt_some

/-- The first letter of a key and the letters at some indices behind it. -/
def abbrT (key : ByteArray) (x : List Int) : Nat → ByteArray
  | 0 => key.extract 0 1
  | n + 1 => abbrT key x n ++ key.extract ((x.getD n 0).toNat + 1) ((x.getD n 0).toNat + 2)
theorem abbrT_succ (key : ByteArray) (x : List Int) (n : Nat) : abbrT key x (n + 1) = abbrT key x n ++ key.extract ((x.getD n 0).toNat + 1) ((x.getD n 0).toNat + 2) := rfl
theorem abbrT_size (key : ByteArray) (x : List Int) : ∀ n, (abbrT key x n).size ≤ n + 1
  | 0 => by rw [abbrT, ByteArray.size_extract]; omega
  | n + 1 => by
    have := abbrT_size key x n
    rw [abbrT_succ, ByteArray.size_append, ByteArray.size_extract]
    omega

/-- How many names at the head of a list come before a string. -/
def posS (s : ByteArray) (l : List ByteArray) : Nat := (l.takeWhile fun o => Op.bytesLess o.toList s.toList).length
theorem posS_le (s : ByteArray) (l : List ByteArray) : posS s l ≤ l.length := by
  unfold posS
  exact (List.takeWhile_sublist _).length_le
theorem posS_cons (s o : ByteArray) (l : List ByteArray) : posS s (o :: l) = if Op.bytesLess o.toList s.toList = true then 1 + posS s l else 0 := by
  unfold posS
  rw [List.takeWhile_cons]
  split
  · rw [List.length_cons]; omega
  · rfl
/-- A string set into a list, ahead of the first one that does not come before it. -/
def insS (s : ByteArray) (l : List ByteArray) : List ByteArray := (l.take (posS s l) ++ [s]) ++ l.drop (posS s l)
theorem insS_len (s : ByteArray) (l : List ByteArray) : (insS s l).length = l.length + 1 := by
  have := posS_le s l
  unfold insS
  rw [List.length_append, List.length_append, List.length_take, List.length_drop, List.length_singleton]
  omega
/-- The abbreviations with the first i lists of indices, in order. -/
def abbrO (key : ByteArray) (t : List (List Int)) : Nat → List ByteArray
  | 0 => []
  | i + 1 => insS (abbrT key (t.getD i []) (t.getD i []).length) (abbrO key t i)
theorem abbrO_succ (key : ByteArray) (t : List (List Int)) (i : Nat) : abbrO key t (i + 1) = insS (abbrT key (t.getD i []) (t.getD i []).length) (abbrO key t i) := rfl
theorem abbrO_len (key : ByteArray) (t : List (List Int)) : ∀ i, (abbrO key t i).length = i
  | 0 => rfl
  | i + 1 => by rw [abbrO_succ, insS_len, abbrO_len key t i]

set_option maxRecDepth 100000 in
set_option maxHeartbeats 1000000 in
theorem abbrs_any (k : Nat) (key : ByteArray) (many : Int) (t : List (List Int)) (w : World) (hk : key.size ≤ 1000) (hm : 1 ≤ many) (hm2 : many ≤ 1000) (hk0 : 0 < key.size) (ht : wayzgoosekit_Subsets.f k ((key.size : Int) - 1) (many - 1) = some t)
    (htl : t.length ≤ 100000) (hx : ∀ i, i < t.length → (t.getD i []).length ≤ 1000 ∧ ∀ j, j < (t.getD i []).length → 0 ≤ (t.getD i []).getD j 0 ∧ (t.getD i []).getD j 0 + 2 ≤ key.size) :
    Calls Tryz.prog 67 #[.string key, .int .i64 many] w fun e w' => ∃ v, e = .returned v ∧ w'.ownsRow w.heap.size 9 1 v (abbrO key t t.length).length ((abbrO key t t.length).map Value.string) ∧ Below w.heap.size w w' := by
  have HC := Lib.hid (wayzgoosekit_Subsets.calls k ((key.size : Int) - 1) (many - 1) t w ht)
  have HX := Lib.hid hx
  clear ht hx
  have e1 : wrap64 ((key.size : Int) - 1) = (key.size : Int) - 1 := IntWalk.wrap64_in _ (by omega)
  have e2 : wrap64 (many - 1) = many - 1 := IntWalk.wrap64_in _ (by omega)
  go_enter Tryz.func67, Tryz.ntmps67
  go_wp2_with fail
  refine HC.out.mono ?_
  rintro e w2 ⟨v, rfl, hv, hb⟩
  obtain ⟨A6, c6, rfl, hp6⟩ := picks_of_S hv
  have HV := Lib.hid hp6
  have HB := Lib.hid hb
  clear hv hb HC hp6
  obtain ⟨R, hR⟩ : ∃ R, w2.heap.size = R := ⟨_, rfl⟩
  have HRR := Lib.hid hR
  clear hR
  go_wp2_with fail
  go_loopg [5, 7] t.length (fun gf v5 v7 wx => ∃ i : Nat, v7 = .int .i64 (i : Int) ∧ i + gf = t.length ∧ Hid (AppSt R w2 wx v5 (abbrO key t i)))
  case atStart => exact ⟨0, rfl, by omega, AppSt.nil (by rw [← HRR.out]; exact Below.refl _ _) (by rw [← HRR.out]; exact Nat.le_refl _)⟩
  case round =>
    obtain ⟨i, rfl, hig, HS⟩ := hrel
    have HBx := Lib.hid HS.out.low
    cases gk with
    | zero =>
      have hn2 : ¬ (i : Int) < (t.length : Int) := by omega
      obtain rfl : i = t.length := by omega
      have hle : w.heap.size ≤ R := by have := HB.out.size; have := HRR.out; omega
      go_wp2_with fail
      go_ret
      exact ⟨_, rfl, own_weaken HS.out.own hle, HB.out.trans (HS.out.low.mono hle)⟩
    | succ g =>
      have hn2 : (i : Int) < (t.length : Int) := by omega
      have a1 : (0 : Int) ≤ (i : Int) := by omega
      have a3 : (i : Int).toNat = i := by omega
      have HVx : Hid (PicksAt wr A6 t) := HV.out.below (by rw [HRR.out]; exact HBx.out)
      obtain ⟨b, off, rfl, Ai, ci, k1, hints⟩ := HVx.out i (by omega)
      have HXI := Lib.hid (HX.out i (by omega))
      have HIN := Lib.hid hints
      obtain ⟨x, hxx⟩ : ∃ x, t.getD i [] = x := ⟨_, rfl⟩
      rw [hxx] at k1 HXI HIN
      clear hints
      have hk1 : (1 : Int) ≤ (key.size : Int) := by omega
      go_wp2_with fail
      obtain ⟨w0, rfl⟩ : ∃ w0 : World, w0 = wr := ⟨_, rfl⟩
      go_loopg [8, 9] x.length (fun gf2 v8 v9 wx => ∃ j : Nat, v9 = .int .i64 (j : Int) ∧ j + gf2 = x.length ∧ v8 = .string (abbrT key x j) ∧ Hid (Below w0.heap.size w0 wx))
      case atStart => exact ⟨0, rfl, by omega, rfl, Below.refl _ _⟩
      case round =>
        obtain ⟨j, rfl, hjg, rfl, HBj⟩ := hrel
        have k2 : wr.cell? ⟨b, off + i, none⟩ = some (.slice Ai x.length ci) := (HBj.out.cell (p := ⟨b, off + i, none⟩) (World.block_lt_of_cell? w0 _ k1)).trans k1
        cases gk with
        | zero =>
          have hn3 : ¬ (j : Int) < (x.length : Int) := by omega
          go_wp2_with fail
          obtain ⟨s, hs⟩ : ∃ s, abbrT key x x.length = s := ⟨_, rfl⟩
          obtain rfl : j = x.length := by omega
          have HBR : Hid (R ≤ w0.heap.size) := HS.out.big
          have HOX := Lib.hid (abbrO_succ key t i)
          have hol := abbrO_len key t i
          rw [hxx, hs] at HOX
          rw [hs]
          obtain ⟨out, ho⟩ : ∃ out, abbrO key t i = out := ⟨_, rfl⟩
          have HSw := Lib.hid (show AppSt R w2 wr u5 out from by rw [← ho]; exact HS.out.below HBj.out)
          rw [ho] at HOX hol
          have HOL := Lib.hid hol
          have hob : out.length ≤ 100000 := by omega
          clear ho hol HS HBx HVx HIN HXI hxx hs k1 k2
          rcases HSw.out.own.2 with ⟨rfl, h0⟩ | ⟨g5, c5, cur5, rfl, hg5, hh5, hc1, hc2, hc3, hc4⟩
          · obtain rfl : out = [] := List.length_eq_zero_iff.1 h0
            clear hob h0
            go_loopg [10] 0 (fun gf3 v10 wx => gf3 = 0 ∧ v10 = .int .i64 0 ∧ wx = wr)
            case atStart => exact ⟨rfl, rfl, rfl⟩
            case round =>
              obtain ⟨rfl, rfl, rfl⟩ := hrel
              go_wp2_with fail
              go_region_law (first
                | (refine step_app rfl (.tmp 68) (.tmp 71) rfl wr.heap.size wr _ (.slice (some ⟨_, 0, none⟩) 0 0) [] rfl (by first | exact AppSt.new (W := wr.drew) (below_drew1 (Below.refl _ _)) (Nat.le_refl _) rfl | exact (AppSt.new (W := wr.drew) (below_drew1 (Below.refl _ _)) (Nat.le_refl _) rfl).alloc _ | exact AppSt.new (W := wr.drew.alloc (.cells #[.string s] 9)) ((below_drew1 (Below.refl _ _)).alloc (Nat.le_refl _) _) (by simp) (by simp)) none 0 0 [] rfl ⟨rfl, .inl ⟨rfl, rfl, rfl⟩⟩ (by simp <;> omega) ?_; intro v1 W1 h1 f1)
                | (refine step_app rfl (.tmp 72) (.tmp 74) rfl wr.heap.size wr _ v1 _ rfl (by first | exact h1 | exact h1.alloc _) (some ⟨_, 0, none⟩) 1 1 [s] rfl (ReadS.one (by first | (simp; done) | exact cell_kept f1 (by first | (simp; done) | exact (cell_alloc_keep (W := wr.alloc (.cells #[.string s] 9)) (o := .cells #[] 9) (by simp))) (by simp [Value.ownBlock]; done))) (by simp <;> omega) ?_; intro v2 W2 h2 f2)
                | (refine step_app rfl (.tmp 75) (.tmp 78) rfl wr.heap.size wr _ v2 _ rfl h2 none 0 0 [] rfl ⟨rfl, .inl ⟨rfl, rfl, rfl⟩⟩ (by simp <;> omega) ?_; intro v3 W3 h3 f3))
              · go_wp2_with fail
                all_goals
                  go_roundg g
                  case measure => omega
                  case rel =>
                    have h4 := HSw.out.rebase h3 rfl
                    exact ⟨i + 1, by go_num, by omega, by show AppSt _ _ _ _ _; rw [HOX.out]; exact h4⟩
              · go_wp2_with fail
                all_goals
                  go_roundg g
                  case measure => omega
                  case rel =>
                    have h4 := HSw.out.rebase h3 rfl
                    exact ⟨i + 1, by go_num, by omega, by show AppSt _ _ _ _ _; rw [HOX.out]; exact h4⟩
              · go_wp2_with fail
                all_goals
                  go_roundg g
                  case measure => omega
                  case rel =>
                    have h4 := HSw.out.rebase h3 rfl
                    exact ⟨i + 1, by go_num, by omega, by show AppSt _ _ _ _ _; rw [HOX.out]; exact h4⟩
          · have HRD : Hid (∀ p, p < out.length → wr.cell? ⟨g5, p, none⟩ = some (.string (out.getD p ByteArray.empty))) := fun p hp => by
              have h1 : cur5[p]? = some (.string (out.getD p ByteArray.empty)) := by
                have e1 : (cur5.toList.take (out.length * 1))[p]? = cur5.toList[p]? := List.getElem?_take_of_lt (by omega)
                rw [hc4] at e1
                rw [← Array.getElem?_toList, ← e1, List.getElem?_map, List.getElem?_eq_getElem hp, List.getD_eq_getElem?_getD, List.getElem?_eq_getElem hp]
                rfl
              simp [World.cell?, hh5, h1]
            clear hh5 hc2 hc3 hc4
            have HR1 : Hid (∀ p, p ≤ out.length → ReadS wr (some ⟨g5, 0, none⟩) p c5 (out.take p)) := fun p hp => ⟨by rw [List.length_take]; omega, .inr ⟨g5, 0, rfl, fun j hj => by
              rw [List.length_take] at hj
              have := HRD.out j (by omega)
              rw [Nat.zero_add, this, List.getD_eq_getElem?_getD, List.getD_eq_getElem?_getD, List.getElem?_take_of_lt (by omega)]⟩⟩
            have HR2 : Hid (∀ p, p ≤ out.length → ReadS wr (if c5 = p then some ⟨g5, 0, none⟩ else some ⟨g5, p, none⟩) (out.length - p) (c5 - p) (out.drop p)) := fun p hp => by
              refine ⟨by rw [List.length_drop], .inr ?_⟩
              by_cases hcp : c5 = p
              · rw [if_pos hcp]
                exact ⟨g5, 0, rfl, fun j hj => by rw [List.length_drop] at hj; omega⟩
              · rw [if_neg hcp]
                exact ⟨g5, p, rfl, fun j hj => by
                  rw [List.length_drop] at hj
                  have := HRD.out (p + j) (by omega)
                  rw [this, List.getD_eq_getElem?_getD, List.getD_eq_getElem?_getD, List.getElem?_drop]⟩
            go_loopg [10] out.length (fun gf3 v10 wx => ∃ p : Nat, v10 = .int .i64 (p : Int) ∧ p + gf3 = out.length ∧ wx = wr ∧ Hid (posS s out = p + posS s (out.drop p)))
            case atStart => exact ⟨0, rfl, by omega, rfl, by show _ = _; rw [List.drop_zero]; omega⟩
            case round =>
              obtain ⟨p, rfl, hpg, rfl, HP⟩ := hrel
              cases gk with
              | zero =>
                have hn4 : ¬ (p : Int) < (out.length : Int) := by omega
                have hpp : posS s out = p := by rw [HP.out, List.drop_of_length_le (by omega)]; rfl
                have q1 : p ≤ out.length := by omega
                have q2 : p ≤ c5 := by omega
                have q3 : (p : Int) ≤ (out.length : Int) := by omega
                have q4 : (p : Int) ≤ (c5 : Int) := by omega
                have HR1 := Lib.hid (HR1.out p q1)
                have HR2 := Lib.hid (HR2.out p q1)
                go_wp2_with fail
                go_region_law (first
                  | (refine step_app rfl (.tmp 68) (.tmp 71) rfl wr.heap.size wr _ (.slice (some ⟨_, 0, none⟩) 0 0) [] rfl (by first | exact AppSt.new (W := wr.drew) (below_drew1 (Below.refl _ _)) (Nat.le_refl _) rfl | exact (AppSt.new (W := wr.drew) (below_drew1 (Below.refl _ _)) (Nat.le_refl _) rfl).alloc _ | exact AppSt.new (W := wr.drew.alloc (.cells #[.string s] 9)) ((below_drew1 (Below.refl _ _)).alloc (Nat.le_refl _) _) (by simp) (by simp)) (some ⟨g5, 0, none⟩) p c5 (out.take p) rfl (by first | exact HR1.out.below rfl (below_drew1 ((Below.refl _ _).alloc (Nat.le_refl _) _)) | exact HR1.out.below rfl (below_drew1 (((Below.refl _ _).alloc (Nat.le_refl _) _).alloc (by simp) _))) (by simp <;> omega) ?_; intro v1 W1 h1 f1)
                  | (refine step_app rfl (.tmp 72) (.tmp 74) rfl wr.heap.size wr _ v1 _ rfl (by first | exact h1 | exact h1.alloc _) (some ⟨_, 0, none⟩) 1 1 [s] rfl (ReadS.one (by first | (simp; done) | exact cell_kept f1 (by first | (simp; done) | exact (cell_alloc_keep (W := wr.alloc (.cells #[.string s] 9)) (o := .cells #[] 9) (by simp))) (by simp [Value.ownBlock]; done))) (by simp <;> omega) ?_; intro v2 W2 h2 f2)
                  | (refine step_app rfl (.tmp 75) (.tmp 78) rfl wr.heap.size wr _ v2 _ rfl h2 _ _ _ (out.drop p) rfl (HR2.out.below rfl h2.low) (by simp <;> omega) ?_; intro v3 W3 h3 f3))
                · go_wp2_with fail
                  all_goals
                    go_roundg g
                    case measure => omega
                    case rel =>
                      have h4 := HSw.out.rebase h3 rfl
                      exact ⟨i + 1, by go_num, by omega, by show AppSt _ _ _ _ _; rw [HOX.out, insS, hpp]; exact h4⟩
                · go_wp2_with fail
                  all_goals
                    go_roundg g
                    case measure => omega
                    case rel =>
                      have h4 := HSw.out.rebase h3 rfl
                      exact ⟨i + 1, by go_num, by omega, by show AppSt _ _ _ _ _; rw [HOX.out, insS, hpp]; exact h4⟩
                · go_wp2_with fail
                  all_goals
                    go_roundg g
                    case measure => omega
                    case rel =>
                      have h4 := HSw.out.rebase h3 rfl
                      exact ⟨i + 1, by go_num, by omega, by show AppSt _ _ _ _ _; rw [HOX.out, insS, hpp]; exact h4⟩
              | succ g4 =>
                have hn4 : (p : Int) < (out.length : Int) := by omega
                have p1 : (0 : Int) ≤ (p : Int) := by omega
                have p3 : (p : Int).toNat = p := by omega
                have k5 := HRD.out p (by omega)
                have hd : out.drop p = out.getD p ByteArray.empty :: out.drop (p + 1) := by
                  rw [List.drop_eq_getElem_cons (by omega), List.getD_eq_getElem?_getD, List.getElem?_eq_getElem (by omega)]
                  rfl
                obtain ⟨o, ho⟩ : ∃ o, out.getD p ByteArray.empty = o := ⟨_, rfl⟩
                rw [ho] at k5 hd
                have hpc := posS_cons s o (out.drop (p + 1))
                have HP2 := HP.out
                rw [hd] at HP2
                obtain ⟨q, hq⟩ : ∃ q, Op.bytesLess o.toList s.toList = q := ⟨_, rfl⟩
                rw [hq] at hpc
                clear hd ho
                cases q with
                | true =>
                  rw [if_pos rfl] at hpc
                  go_wp2_with fail
                  go_roundg g4
                  case measure => omega
                  case rel => exact ⟨p + 1, by go_num, by omega, rfl, by show _ = _; omega⟩
                | false =>
                  rw [if_neg (by decide)] at hpc
                  have hpp : posS s out = p := by omega
                  have q1 : p ≤ out.length := by omega
                  have q2 : p ≤ c5 := by omega
                  have q3 : (p : Int) ≤ (out.length : Int) := by omega
                  have HR1 := Lib.hid (HR1.out p q1)
                  have HR2 := Lib.hid (HR2.out p q1)
                  have q4 : (p : Int) ≤ (c5 : Int) := by omega
                  go_wp2_with fail
                  go_region_law (first
                    | (refine step_app rfl (.tmp 68) (.tmp 71) rfl wr.heap.size wr _ (.slice (some ⟨_, 0, none⟩) 0 0) [] rfl (by first | exact AppSt.new (W := wr.drew) (below_drew1 (Below.refl _ _)) (Nat.le_refl _) rfl | exact (AppSt.new (W := wr.drew) (below_drew1 (Below.refl _ _)) (Nat.le_refl _) rfl).alloc _ | exact AppSt.new (W := wr.drew.alloc (.cells #[.string s] 9)) ((below_drew1 (Below.refl _ _)).alloc (Nat.le_refl _) _) (by simp) (by simp)) (some ⟨g5, 0, none⟩) p c5 (out.take p) rfl (by first | exact HR1.out.below rfl (below_drew1 ((Below.refl _ _).alloc (Nat.le_refl _) _)) | exact HR1.out.below rfl (below_drew1 (((Below.refl _ _).alloc (Nat.le_refl _) _).alloc (by simp) _))) (by simp <;> omega) ?_; intro v1 W1 h1 f1)
                    | (refine step_app rfl (.tmp 72) (.tmp 74) rfl wr.heap.size wr _ v1 _ rfl (by first | exact h1 | exact h1.alloc _) (some ⟨_, 0, none⟩) 1 1 [s] rfl (ReadS.one (by first | (simp; done) | exact cell_kept f1 (by first | (simp; done) | exact (cell_alloc_keep (W := wr.alloc (.cells #[.string s] 9)) (o := .cells #[] 9) (by simp))) (by simp [Value.ownBlock]; done))) (by simp <;> omega) ?_; intro v2 W2 h2 f2)
                    | (refine step_app rfl (.tmp 75) (.tmp 78) rfl wr.heap.size wr _ v2 _ rfl h2 _ _ _ (out.drop p) rfl (HR2.out.below rfl h2.low) (by simp <;> omega) ?_; intro v3 W3 h3 f3))
                  · go_wp2_with fail
                    all_goals
                      go_roundg g
                      case measure => omega
                      case rel =>
                        have h4 := HSw.out.rebase h3 rfl
                        exact ⟨i + 1, by go_num, by omega, by show AppSt _ _ _ _ _; rw [HOX.out, insS, hpp]; exact h4⟩
                  · go_wp2_with fail
                    all_goals
                      go_roundg g
                      case measure => omega
                      case rel =>
                        have h4 := HSw.out.rebase h3 rfl
                        exact ⟨i + 1, by go_num, by omega, by show AppSt _ _ _ _ _; rw [HOX.out, insS, hpp]; exact h4⟩
                  · go_wp2_with fail
                    all_goals
                      go_roundg g
                      case measure => omega
                      case rel =>
                        have h4 := HSw.out.rebase h3 rfl
                        exact ⟨i + 1, by go_num, by omega, by show AppSt _ _ _ _ _; rw [HOX.out, insS, hpp]; exact h4⟩
        | succ g2 =>
          have hn3 : (j : Int) < (x.length : Int) := by omega
          have b1 : (0 : Int) ≤ (j : Int) := by omega
          have b3 : (j : Int).toNat = j := by omega
          obtain ⟨bi, offi, rfl, k3⟩ := (HIN.out.below HBj.out) j (by omega)
          obtain ⟨y0, hy0⟩ := HXI.out.2 j (by omega)
          obtain ⟨y, hy⟩ : ∃ y : Nat, x.getD j 0 = (y : Int) := ⟨(x.getD j 0).toNat, by omega⟩
          have HT := Lib.hid (abbrT_succ key x j)
          rw [hy] at k3 HT
          have hts := abbrT_size key x j
          have hxl := HXI.out.1
          have hyk : (y : Int) + 2 ≤ key.size := by omega
          clear hy y0 hy0
          have d2 := cell_regrown k2
          have d3 := cell_regrown k3
          have w1 : IntKind.i64.wrap ((y : Int) + 1) = ((y + 1 : Nat) : Int) := by rw [i64_w, IntWalk.wrap64_in _ (by omega)]; omega
          have w2' : IntKind.i64.wrap ((y : Int) + 2) = ((y + 2 : Nat) : Int) := by rw [i64_w, IntWalk.wrap64_in _ (by omega)]; omega
          have g1 : ((y + 1 : Nat) : Int) ≤ ((y + 2 : Nat) : Int) := by omega
          have g2' : ((y + 2 : Nat) : Int) ≤ (key.size : Int) := by omega
          have g3 : (0 : Int) ≤ ((y + 1 : Nat) : Int) := by omega
          have g4 : (0 : Int) ≤ ((y + 2 : Nat) : Int) := by omega
          have g5 : ¬ (9223372036854775807 < (abbrT key x j).size + (key.extract (y + 1) (y + 2)).size) := by rw [ByteArray.size_extract]; omega
          have HBq' := Lib.hid HBj.out.size
          go_wp2_with fail
          refine wp_region_quiet_below (by kernel_rfl) (by kernel_rfl) ?_
          iterate 21 (go_big_quiet_step (fail))
          refine wpQuiet_nil ?_
          intro _ hw'
          obtain ⟨⟨dq, osq⟩, hw''⟩ := hw'
          subst hw''
          have hBq := below_regrown wr dq osq
          generalize Go.Sort.grow (redrawn wr dq) osq = wq at hBq ⊢
          clear d2 d3
          go_wp2_with fail
          go_roundg g2
          case measure => omega
          case rel => exact ⟨j + 1, by go_num, by omega, by rw [HT.out, Int.toNat_natCast], HBj.out.trans (hBq.mono HBj.out.size)⟩
end Go.Proofs.YtapikimhmjnjeaaGreatDoor

