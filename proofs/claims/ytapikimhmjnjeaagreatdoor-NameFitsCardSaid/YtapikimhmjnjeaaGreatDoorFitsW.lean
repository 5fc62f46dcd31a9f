/- The walk of the law NameFits. -/
import Derived.Test.YtapikimhmjnjeaaGreatDoorRefBest
import Derived.Test.YtapikimhmjnjeaaGreatDoorPrExtSpell
import Derived.Test.YtapikimhmjnjeaaGreatDoorPr19
import Derived.Test.YtapikimhmjnjeaaGreatDoorPr9
import Derived.Test.YtapikimhmjnjeaaGreatDoorLitN
import Derived.StillTailTactics
import Derived.Deep.RegionHeld3
/- The walk of the law NameFits. -/
set_option linter.unusedVariables false
set_option linter.unusedSimpArgs false
namespace Go.Proofs.YtapikimhmjnjeaaGreatDoor.Pure
open Go.RowKit Go.Shelf Go.Proofs.YtapikimhmjnjeaaGreatDoor Go.Proofs.YtapikimhmjnjeaaGreatDoor.Pr Go.Proofs.YtapikimhmjnjeaaGreatDoorW.PrintWords Go.Proofs.YtapikimhmjnjeaaGreatDoorW.PrintLast Go.Proofs.YtapikimhmjnjeaaGreatDoorW.PrintMore
attribute [local go_sem] Oper.semAt_some

/-- Lists that the laws go through. -/
def Dom (l : List ByteArray) : Prop := l.length ≤ 20 ∧ ∀ s ∈ l, s.size ≤ 20

theorem long_l1 (l : List ByteArray) : Evn (fun k => wayzgooselaw03_long.l1 k [] l 0) (decide (20 < l.length)) := Evn.step 0 fun k _ => by
  rw [wayzgooselaw03_long.l1, if_neg (by decide)]
  by_cases h : 20 < l.length
  · rw [if_pos (by omega), decide_eq_true h]
  · rw [if_neg (by omega), decide_eq_false h]; rfl
theorem long_l0 (l : List ByteArray) (hl : l.length ≤ 9223372036854775807) : ∀ (n i : Nat), i + n = l.length → ∃ b, Evn (fun k => wayzgooselaw03_long.l0 k [] l (i : Int)) b ∧ (b = false → l.length ≤ 20 ∧ ∀ s ∈ l.drop i, s.size ≤ 20)
  | 0, i, hi => by
      refine ⟨_, (long_l1 l).next 0 fun k _ => by rw [wayzgooselaw03_long.l0, if_neg (by omega)], fun h => ⟨by have := of_decide_eq_false h; omega, fun s hs => ?_⟩⟩
      rw [List.drop_eq_nil_of_le (by omega)] at hs
      cases hs
  | n + 1, i, hi => by
      obtain ⟨b, hb, hbi⟩ := long_l0 l hl n (i + 1) (by omega)
      by_cases h : 20 < (l.getD i ByteArray.empty).size
      · refine ⟨true, Evn.step 0 fun k _ => ?_, fun h => by cases h⟩
        rw [wayzgooselaw03_long.l0, if_pos (by omega), if_pos (by omega), rd_at, if_pos (by omega)]
      · refine ⟨b, hb.next 0 fun k _ => ?_, fun hf => ⟨(hbi hf).1, fun s hs => ?_⟩⟩
        · rw [wayzgooselaw03_long.l0, if_pos (by omega), if_pos (by omega), rd_at, if_neg (by omega), IntWalk.wrap64_in _ (by omega)]
          rw [show ((i + 1 : Nat) : Int) = (i : Int) + 1 by omega]
        · rw [drop_at (by omega)] at hs
          rcases List.mem_cons.1 hs with rfl | hs
          · omega
          · exact (hbi hf).2 s hs
theorem long_ev (l : List ByteArray) (hl : l.length ≤ 9223372036854775807) : ∃ b, Evn (fun k => wayzgooselaw03_long.f k [] l) b ∧ (b = false → Dom l) := by
  obtain ⟨b, hb, hbi⟩ := long_l0 l hl l.length 0 (by omega)
  exact ⟨b, hb.cast fun k => rfl, fun h => by have := hbi h; rw [List.drop_zero] at this; exact this⟩
theorem dup_f {l : List ByteArray} (hl : l.length ≤ 1000000) : wayzgoosekit_DupStrings.f l = some l := by
  unfold wayzgoosekit_DupStrings.f
  rw [bind_eq rfl, if_pos (by simp; omega)]
  rfl

/-- What a round reads: a list, an index and a width. -/
def FitRow (W : World) (B1 B2 B3 i : Nat) (A : Option Addr) (c : Nat) (l : List ByteArray) (a b : Int) : Prop :=
  (W.cell? ⟨B1, i, none⟩ = some (.slice A l.length c) ∧ W.cell? ⟨B2, i, none⟩ = some (.int .i64 a) ∧ W.cell? ⟨B3, i, none⟩ = some (.int .i64 b)) ∧ (Kd.C Kd.string W A l.length l ∧ l.length ≤ c) ∧ Dom l
theorem fits_facts {l : List ByteArray} (hl : Dom l) (a b : Int) : name_Shortest.f l a = some (shortF l a) ∧ name_Fit.f l a b = some (fitF l a b) ∧ wayzgoosekit_DupStrings.f l = some l ∧
    ∃ K, wayzgooseref03_Shortest.f K l a = some (shortF l a) ∧ wayzgooseref03_Fit.f K l a b = some (fitF l a b) ∧ wayzgoosekit_EqStrings.f K l l = some true := by
  have h1 : l.length ≤ 1000000 ∧ ∀ s ∈ l, s.size ≤ 1000000 := ⟨by have := hl.1; omega, fun s hs => by have := hl.2 s hs; omega⟩
  refine ⟨by unfold name_Shortest.f; rw [if_pos h1], by unfold name_Fit.f; rw [if_pos h1], dup_f h1.1, ?_⟩
  obtain ⟨K1, w1⟩ := refShortest_ev (l := l) (by have := hl.1; omega) h1.2 a
  obtain ⟨K2, w2⟩ := refFit_ev (l := l) (by have := hl.1; omega) h1.2 a b
  obtain ⟨K3, w3⟩ := EqStrings_ev l l (by omega)
  rw [decide_eq_true rfl] at w3
  exact ⟨K1 + K2 + K3, w1 _ (by omega), w2 _ (by omega), w3 _ (by omega)⟩

set_option maxRecDepth 100000 in
set_option maxHeartbeats 4000000 in
theorem fits_walk (A0 : Option Addr) (c0 : Nat) (l0 : List ByteArray) (at_ wd : Int) (A3 : Option Addr) (c3 : Nat) (l3 : List Int) (w : World)
    (h0 : Kd.C Kd.string w A0 l0.length l0) (hc0 : l0.length ≤ c0) (h3 : Kd.C (Kd.int .i64) w A3 l3.length l3) (hc3 : l3.length ≤ c3) (hn0 : l0.length ≤ 9223372036854775807) (hl3 : Lst l3) :
    Calls Tryz.prog 3 #[.slice A0 l0.length c0, .int .i64 at_, .int .i64 wd, .slice A3 l3.length c3] w fun e w' => e = .returned (.bool true) ∧ Below w.heap.size w w' := by
  obtain ⟨b, ⟨K, HL⟩, hbD⟩ := long_ev l0 hn0
  have HL := Lib.hid (HL K (Nat.le_refl _))
  have HD := Lib.hid hbD
  have H0 := Lib.hid (And.intro h0 hc0)
  have H3 := Lib.hid (And.intro h3 hc3)
  have HN3 := Lib.hid hl3
  clear h0 hc0 h3 hc3 hl3 hbD hn0
  go_enter Tryz.func3, Tryz.ntmps3
  go_wp2_with fail
  refine (wayzgooselaw03_long.calls K none 0 [] A0 c0 l0 b w (Kd.C_nil _ _) (Nat.le_refl _) H0.out.1 H0.out.2 HL.out).mono ?_
  rintro e w1 ⟨rfl, hd⟩
  have HB : Hid (Below w.heap.size w w1) := by obtain ⟨nd, rfl⟩ := hd; exact pw_below_drewN (Below.refl _ _) nd
  clear hd HL
  cases b with
  | true =>
    go_wp2_with fail
    refine (wayzgooselaw03_spelling.calls true _ spelling_ok).mono ?_
    rintro e w2 ⟨rfl, hb⟩
    have HB2 := Lib.hid (below_step HB.out hb)
    clear hb
    go_wp2_with fail
    go_ret
    exact ⟨rfl, HB2.out⟩
  | false =>
    have HDD := Lib.hid (HD.out rfl)
    clear HD
    obtain ⟨some_, at1, s1, e1, g1, hn1, hl1⟩ := NamesOf_ok (l := l3) HN3.out 40 0 11400714819323198485 5 6 (by omega) (by omega) (by omega) (by omega) (by omega) (by omega)
    obtain ⟨x, at2, s2, e2, g2, hx, _⟩ := NameOf_ok (l := l3) HN3.out 40 at1 s1 6 (by omega) g1 (by omega) (by omega)
    have hn2 := snoc_nm2 hn1 hx
    obtain ⟨i1, at3, s3, e3, g3, b3, b3'⟩ := To_ok (l := l3) HN3.out at2 s2 (some_.length : Int) g2 (by omega) (by omega)
    obtain ⟨i2, at4, s4, e4, g4, b4, b4'⟩ := To_ok (l := l3) HN3.out at3 s3 (some_.length : Int) g3 (by omega) (by omega)
    obtain ⟨w1_, at5, s5, e5, g5, b5, b5'⟩ := From_ok (l := l3) HN3.out at4 s4 1 7 g4 (by omega) (by omega) (by omega)
    obtain ⟨w2_, at6, s6, e6, g6, b6, b6'⟩ := From_ok (l := l3) HN3.out at5 s5 1 7 g5 (by omega) (by omega) (by omega)
    have E1 := Lib.hid e1
    have E2 := Lib.hid e2
    have E3 := Lib.hid e3
    have E4 := Lib.hid e4
    have E5 := Lib.hid e5
    have E6 := Lib.hid e6
    have HN := Lib.hid (And.intro hn2 (show (some_ ++ [x]).length ≤ 6 by simp; omega))
    have HI12 := Lib.hid (And.intro (And.intro b3 b3') (And.intro b4 b4'))
    have HW12 := Lib.hid (And.intro (And.intro b5 b5') (And.intro b6 b6'))
    clear e1 e2 e3 e4 e5 e6 g1 g2 g3 g4 g5 g6 hn1 hx hn2 b3 b3' b4 b4' b5 b5' b6 b6'
    go_wp2_with fail
    refine (wayzgoosekit_NewDice.calls A3 c3 l3 l3 0 11400714819323198485 w w1 HB.out H3.out.1 H3.out.2 rfl).mono ?_
    rintro e w2 ⟨g, rfl, hi, hb, hb2⟩
    have HI := Lib.hid hi
    have HB2 := Lib.hid hb
    clear hi hb hb2 HB
    go_wp2_with fail
    refine (wayzgoosekit_NamesOf.calls 40 g l3 0 11400714819323198485 5 6 some_ at1 s1 w w2 HI.out HB2.out E1.out).mono ?_
    rintro e w3 ⟨v, rfl, hr, hi, hb, hk⟩
    have HR := Lib.hid (Kd.R_lower hr HB2.out.size)
    have HI3 := Lib.hid hi
    have HB3 := Lib.hid hb
    clear hr hi hb hk HI HB2 E1
    go_wp2_with fail
    refine (wayzgoosekit_NameOf.calls 40 g l3 at1 s1 6 x at2 s2 w w3 HI3.out HB3.out E2.out).mono ?_
    rintro e w4 ⟨rfl, hi, hb, hk⟩
    have HR4 := Lib.hid (Kd.R_mono (Kd.R_keep (IsS86.apart HI3.out HR.out (by decide)) hk (fun _ h => h.2)) (fun _ h => h.1))
    have HI4 := Lib.hid hi
    have HB4 := Lib.hid hb
    clear hi hb hk HI3 HB3 E2 HR
    go_wp2_with (at_builtin
                 refine Kd.R_append Kd.string (w0 := w) w.heap.size rfl (.tmp 30) (.tmp 33) 22 9 (.string ⟨#[]⟩) 16 rfl Tryz.underlying22 info9 rfl (by decide) (by omega) v some_ x [.string x] (fun _ => True) (fun _ => False) rfl rfl ?aP (fun _ hk => hk.elim) ?aF ?aO ?aB ?aS ?aL ?_
                 (case aP => exact rfl)
                 (case aF => exact (fun _ _ => trivial))
                 (case aO => exact HR4.out)
                 (case aB => exact HB4.out)
                 (case aS => exact HB4.out.size)
                 (case aL => omega)
                 intro v5 w5 ho hb hg hat
                 obtain ⟨A5, c5, hv5⟩ := Kd.R_slice ho
                 subst hv5
                 have HI5 := Lib.hid (IsS86.grown HI4.out hg (IsS86.own_ne HI4.out HR4.out (by decide)))
                 have HR5 := Lib.hid ho
                 have HB5 := Lib.hid hb
                 clear ho hb hg hat HI4 HR4 HB4)
    obtain ⟨h5C, h5c⟩ : Kd.C Kd.string w5 A5 (some_ ++ [x]).length (some_ ++ [x]) ∧ (some_ ++ [x]).length ≤ c5 := by
      obtain ⟨A, c, he, hl, hr⟩ := Kd.R_reads HR5.out
      injection he with h1 h2 h3
      subst h1 h3
      exact ⟨hr, hl⟩
    have HC5 := Lib.hid (And.intro h5C h5c)
    have HC0 : Hid (Kd.C Kd.string w5 A0 l0.length l0) := Kd.C_below H0.out.1 HB5.out
    have hg5 := HI5.out.lt
    have hB0 : Below w5.heap.size w5 w5 := Below.refl _ _
    clear h5C h5c
    obtain ⟨X1, hX1⟩ : ∃ X, w5.alloc (Obj.cells #[Value.slice A0 l0.length c0, Value.slice A5 (some_.length + 1) c5, Value.slice A5 (some_.length + 1) c5, Value.slice A5 (some_.length + 1) c5] 22) = X := ⟨_, rfl⟩
    have HL1 : Hid (LitAt X1 w5.heap.size #[Value.slice A0 l0.length c0, Value.slice A5 (some_.length + 1) c5, Value.slice A5 (some_.length + 1) c5, Value.slice A5 (some_.length + 1) c5]) := by rw [← hX1]; exact LitAt.new _ _ _
    have HI6 : Hid (IsS86 w X1 g l3 at2 s2) := by rw [← hX1]; exact HI5.out.alloc _
    have HB6 : Hid (Below w.heap.size w X1) := by rw [← hX1]; exact below_alloc HB5.out _
    have HR6 : Hid (Kd.R Kd.string 9 X1 w.heap.size (fun _ => True) (.slice A5 (some_ ++ [x]).length c5) (some_ ++ [x])) := by rw [← hX1]; exact Kd.R_alloc HR5.out _
    have hB1 : Below w5.heap.size w5 X1 := by rw [← hX1]; exact below_alloc hB0 _
    rw [hX1]
    clear HI5 HR5 hX1 hB0
    refine (wayzgoosekit_Dice_To.calls g l3 at2 s2 (some_.length : Int) i1 at3 s3 w X1 HI6.out HB6.out E3.out).mono ?_
    rintro e w6 ⟨rfl, hi, hb, hk⟩
    have HI7 := Lib.hid hi
    have HB7 := Lib.hid hb
    have HL7 := Lib.hid (HL1.out.keep hk (by omega))
    have HR7 := Lib.hid (Kd.R_mono (Kd.R_keep (IsS86.apart HI6.out HR6.out (by decide)) hk (fun _ h => h.2)) (fun _ h => h.1))
    clear hi hb hk HI6 HB6 HL1 HR6 E3
    go_wp2_with fail
    refine (wayzgoosekit_Dice_To.calls g l3 at3 s3 (some_.length : Int) i2 at4 s4 w w6 HI7.out HB7.out E4.out).mono ?_
    rintro e w7 ⟨rfl, hi, hb, hk⟩
    have HI8 := Lib.hid hi
    have HB8 := Lib.hid hb
    have HL8 := Lib.hid (HL7.out.keep hk (by omega))
    have HR8 := Lib.hid (Kd.R_mono (Kd.R_keep (IsS86.apart HI7.out HR7.out (by decide)) hk (fun _ h => h.2)) (fun _ h => h.1))
    clear hi hb hk HI7 HB7 HL7 HR7 E4
    go_wp2_with fail
    have hg8 := HI8.out.lt
    obtain ⟨X2, hX2⟩ : ∃ X, w7.alloc (Obj.cells #[Value.int .i64 at_, Value.int .i64 i1, Value.int .i64 i2, Value.int .i64 at_] 3) = X := ⟨_, rfl⟩
    have HM9 : Hid (LitAt X2 w7.heap.size #[Value.int .i64 at_, Value.int .i64 i1, Value.int .i64 i2, Value.int .i64 at_]) := by rw [← hX2]; exact LitAt.new _ _ _
    have HI9 : Hid (IsS86 w X2 g l3 at4 s4) := by rw [← hX2]; exact HI8.out.alloc _
    have HB9 : Hid (Below w.heap.size w X2) := by rw [← hX2]; exact below_alloc HB8.out _
    have HR9 : Hid (Kd.R Kd.string 9 X2 w.heap.size (fun _ => True) (.slice A5 (some_ ++ [x]).length c5) (some_ ++ [x])) := by rw [← hX2]; exact Kd.R_alloc HR8.out _
    have HL9 := Lib.hid (HL8.out.alloc (Obj.cells #[Value.int .i64 at_, Value.int .i64 i1, Value.int .i64 i2, Value.int .i64 at_] 3))
    rw [hX2] at HL9 ⊢
    clear HI8 HR8 HL8 HB8 hX2
    refine (wayzgoosekit_Dice_From.calls g l3 at4 s4 1 7 w1_ at5 s5 w X2 HI9.out HB9.out E5.out).mono ?_
    rintro e w8 ⟨rfl, hi, hb, hk⟩
    have HI10 := Lib.hid hi
    have HB10 := Lib.hid hb
    have HL10 := Lib.hid (HL9.out.keep hk (by omega))
    have HM10 := Lib.hid (HM9.out.keep hk (by omega))
    have HR10 := Lib.hid (Kd.R_mono (Kd.R_keep (IsS86.apart HI9.out HR9.out (by decide)) hk (fun _ h => h.2)) (fun _ h => h.1))
    clear hi hb hk HI9 HB9 HL9 HM9 HR9 E5
    go_wp2_with fail
    refine (wayzgoosekit_Dice_From.calls g l3 at5 s5 1 7 w2_ at6 s6 w w8 HI10.out HB10.out E6.out).mono ?_
    rintro e w9 ⟨rfl, hi, hb, hk⟩
    have HB11 := Lib.hid hb
    have HL11 := Lib.hid (HL10.out.keep hk (by omega))
    have HM11 := Lib.hid (HM10.out.keep hk (by omega))
    have HR11 := Lib.hid (Kd.R_mono (Kd.R_keep (IsS86.apart HI10.out HR10.out (by decide)) hk (fun _ h => h.2)) (fun _ h => h.1))
    clear hi hb hk HI10 HB10 HL10 HM10 HR10 E6
    go_wp2_with fail
    have hg9 : w9.heap.size ≤ w9.heap.size := Nat.le_refl _
    obtain ⟨X3, hX3⟩ : ∃ X, w9.alloc (Obj.cells #[Value.int .i64 wd, Value.int .i64 w1_, Value.int .i64 wd, Value.int .i64 w2_] 3) = X := ⟨_, rfl⟩
    have HN12 : Hid (LitAt X3 w9.heap.size #[Value.int .i64 wd, Value.int .i64 w1_, Value.int .i64 wd, Value.int .i64 w2_]) := by rw [← hX3]; exact LitAt.new _ _ _
    have HB12 : Hid (Below w.heap.size w X3) := by rw [← hX3]; exact below_alloc HB11.out _
    have HR12 : Hid (Kd.R Kd.string 9 X3 w.heap.size (fun _ => True) (.slice A5 (some_ ++ [x]).length c5) (some_ ++ [x])) := by rw [← hX3]; exact Kd.R_alloc HR11.out _
    have HL12 := Lib.hid (HL11.out.alloc (Obj.cells #[Value.int .i64 wd, Value.int .i64 w1_, Value.int .i64 wd, Value.int .i64 w2_] 3))
    have HM12 := Lib.hid (HM11.out.alloc (Obj.cells #[Value.int .i64 wd, Value.int .i64 w1_, Value.int .i64 wd, Value.int .i64 w2_] 3))
    rw [hX3] at HL12 HM12 ⊢
    clear hX3 HB11 HR11 HL11 HM11 HN3 H3
    have HC12 : Hid (Kd.C Kd.string X3 A0 l0.length l0) := Kd.C_below H0.out.1 HB12.out
    obtain ⟨h5C, h5c⟩ : Kd.C Kd.string X3 A5 (some_ ++ [x]).length (some_ ++ [x]) ∧ (some_ ++ [x]).length ≤ c5 := by
      obtain ⟨A, c, he, hl, hr⟩ := Kd.R_reads HR12.out
      injection he with h1 h2 h3
      subst h1 h3
      exact ⟨hr, hl⟩
    have h5D : Dom (some_ ++ [x]) := ⟨by have := HN.out.2; omega, fun s hs => by have := (HN.out.1 s hs).le; omega⟩
    obtain ⟨B1, hB1e⟩ : ∃ B, w5.heap.size = B := ⟨_, rfl⟩
    obtain ⟨B2, hB2e⟩ : ∃ B, w7.heap.size = B := ⟨_, rfl⟩
    obtain ⟨B3, hB3e⟩ : ∃ B, w9.heap.size = B := ⟨_, rfl⟩
    have HROW : Hid (∀ i, i < 4 → ∃ A c l a b, FitRow X3 B1 B2 B3 i A c l a b) := by
      intro i hi
      rw [hB1e] at HL12
      rw [hB2e] at HM12
      rw [hB3e] at HN12
      have hl5 : (some_ ++ [x]).length = some_.length + 1 := by simp
      match i, hi with
      | 0, _ => exact ⟨A0, c0, l0, at_, wd, ⟨HL12.out.at_ rfl, HM12.out.at_ rfl, HN12.out.at_ rfl⟩, ⟨HC12.out, H0.out.2⟩, HDD.out⟩
      | 1, _ => exact ⟨A5, c5, some_ ++ [x], i1, w1_, ⟨by rw [hl5]; exact HL12.out.at_ rfl, HM12.out.at_ rfl, HN12.out.at_ rfl⟩, ⟨h5C, h5c⟩, h5D⟩
      | 2, _ => exact ⟨A5, c5, some_ ++ [x], i2, wd, ⟨by rw [hl5]; exact HL12.out.at_ rfl, HM12.out.at_ rfl, HN12.out.at_ rfl⟩, ⟨h5C, h5c⟩, h5D⟩
      | 3, _ => exact ⟨A5, c5, some_ ++ [x], at_, w2_, ⟨by rw [hl5]; exact HL12.out.at_ rfl, HM12.out.at_ rfl, HN12.out.at_ rfl⟩, ⟨h5C, h5c⟩, h5D⟩
    rw [hB1e, hB2e, hB3e]
    clear h5C h5c h5D HC12 HL12 HM12 HN12 HR12 H0 HDD HW12 HI12 HN hB1e hB2e hB3e hg5 hB1 hg8 hg9 HB5 HC0 HC5
    go_loopg [14] 4 (fun gf v14 wx => ∃ i : Nat, v14 = .int .i64 (i : Int) ∧ i + gf = 4 ∧ Hid (Below X3.heap.size X3 wx))
    case atStart => exact ⟨0, rfl, rfl, Below.refl _ _⟩
    case round =>
      obtain ⟨i, rfl, hig, HB⟩ := hrel
      cases gk with
      | zero =>
        have hn2 : ¬ (i : Int) < 4 := by omega
        go_wp2_with fail
        refine (wayzgooselaw03_spelling.calls true _ spelling_ok).mono ?_
        rintro e w2 ⟨rfl, hb⟩
        have HB2 := Lib.hid (below_step (below_step HB12.out HB.out) hb)
        clear hb
        go_wp2_with fail
        go_ret
        exact ⟨rfl, HB2.out⟩
      | succ g0 =>
        have hn2 : (i : Int) < 4 := by omega
        have hi4 : i < 4 := by omega
        obtain ⟨A, c, l, a, b, ⟨q1, q2, q3⟩, ⟨q4, q5⟩, q6⟩ := HROW.out i hi4
        obtain ⟨f1, f2, f3, K, f4, f5, f6⟩ := fits_facts q6 a b
        have F1 := Lib.hid f1
        have F2 := Lib.hid f2
        have F3 := Lib.hid f3
        have F456 := Lib.hid (And.intro f4 (And.intro f5 f6))
        have HQ := Lib.hid (And.intro (And.intro q1 (And.intro q2 q3)) (And.intro q4 q5))
        obtain ⟨p, hp⟩ : ∃ p, shortF l a = p := ⟨_, rfl⟩
        obtain ⟨q, hq⟩ : ∃ q, fitF l a b = q := ⟨_, rfl⟩
        have hli := Int.natCast_nonneg i
        rw [hp] at F1 F456
        rw [hq] at F2 F456
        obtain ⟨p1, p2⟩ := p
        obtain ⟨y1, y2⟩ := q
        have k1 := (HB.out.cell (World.block_lt_of_cell? X3 _ q1)).trans q1
        have k2 := (HB.out.cell (World.block_lt_of_cell? X3 _ q2)).trans q2
        have k3 := (HB.out.cell (World.block_lt_of_cell? X3 _ q3)).trans q3
        clear f1 f2 f3 f4 f5 f6 q1 q2 q3 q4 q5 q6 hp hq
        go_wp2_with fail
        refine (wayzgoosekit_DupStrings.calls A c l l wr (Kd.C_below HQ.out.2.1 HB.out) HQ.out.2.2 F3.out).mono ?_
        rintro e w10 ⟨vo, rfl, hr, hb⟩
        obtain ⟨Ao, co, hvo⟩ := Kd.R_slice hr
        subst hvo
        have HO := Lib.hid hr
        have HB1 := Lib.hid (below_step HB.out hb)
        have k1 := (hb.cell (World.block_lt_of_cell? wr _ k1)).trans k1
        have k2 := (hb.cell (World.block_lt_of_cell? wr _ k2)).trans k2
        have k3 := (hb.cell (World.block_lt_of_cell? wr _ k3)).trans k3
        clear hr hb F3 HB
        go_wp2_with fail
        refine (name_Shortest.calls Ao co l a p1 p2 w10 (Kd.R_reads' HO.out).2.2 (Kd.R_reads' HO.out).2.1 F1.out).mono ?_
        rintro e w11 ⟨rfl, hb⟩
        have HB2 := Lib.hid (below_step HB1.out hb)
        have HO2 := Lib.hid (Kd.R_below HO.out hb)
        have k1 := (hb.cell (World.block_lt_of_cell? w10 _ k1)).trans k1
        have k2 := (hb.cell (World.block_lt_of_cell? w10 _ k2)).trans k2
        have k3 := (hb.cell (World.block_lt_of_cell? w10 _ k3)).trans k3
        clear hb F1 HB1 HO
        go_wp2_with fail
        go_region_held3 (fun w' => w'.cell? ⟨B1, i, none⟩ = some (.slice A l.length c) ∧ w'.cell? ⟨B2, i, none⟩ = some (.int .i64 a)) (first | exact ⟨k1, k2⟩) (first
          | (go_at_call 30
             refine (wayzgooseref03_Shortest.calls K A c l a p1 p2 _ (Kd.C_below HQ.out.2.1 (below_drew1 HB2.out)) HQ.out.2.2 F456.out.1).mono ?_
             rintro e w12 ⟨rfl, hb⟩
             have HB3 := Lib.hid (below_step (below_drew1 HB2.out) hb)
             have HO3 := Lib.hid (Kd.R_below (Kd.R_drew HO2.out) hb)
             have k1 := (hb.cell (World.block_lt_of_cell? w11 _ k1)).trans k1
             have k2 := (hb.cell (World.block_lt_of_cell? w11 _ k2)).trans k2
             have k3 := (hb.cell (World.block_lt_of_cell? w11 _ k3)).trans k3
             clear hb HB2 HO2))
        go_wp2_with fail
        go_region_held3 (fun w' => w'.cell? ⟨B2, i, none⟩ = some (.int .i64 a) ∧ w'.cell? ⟨B3, i, none⟩ = some (.int .i64 b)) (first | exact ⟨k2, k3⟩) (first
          | (go_at_call 31
             refine (name_Fit.calls Ao co l a b y1 y2 _ (Kd.R_reads' (Kd.R_drew HO3.out)).2.2 (Kd.R_reads' HO3.out).2.1 F2.out).mono ?_
             rintro e w13 ⟨rfl, hb⟩
             have HB4 := Lib.hid (below_step (below_drew1 HB3.out) hb)
             have HO4 := Lib.hid (Kd.R_below (Kd.R_drew HO3.out) hb)
             have k1 := (hb.cell (World.block_lt_of_cell? w12 _ k1)).trans k1
             have k2 := (hb.cell (World.block_lt_of_cell? w12 _ k2)).trans k2
             have k3 := (hb.cell (World.block_lt_of_cell? w12 _ k3)).trans k3
             clear hb HB3 HO3))
        go_wp2_with fail
        go_region_held3 (fun w' => w'.cell? ⟨B1, i, none⟩ = some (.slice A l.length c) ∧ w'.cell? ⟨B2, i, none⟩ = some (.int .i64 a) ∧ w'.cell? ⟨B3, i, none⟩ = some (.int .i64 b)) (first | exact ⟨k1, k2, k3⟩) (first
          | (go_at_call 32
             refine (wayzgooseref03_Fit.calls K A c l a b y1 y2 _ (Kd.C_below HQ.out.2.1 (below_drew1 HB4.out)) HQ.out.2.2 F456.out.2.1).mono ?_
             rintro e w14 ⟨rfl, hb⟩
             have HB5 := Lib.hid (below_step (below_drew1 HB4.out) hb)
             have HO5 := Lib.hid (Kd.R_below (Kd.R_drew HO4.out) hb)
             have k1 := (hb.cell (World.block_lt_of_cell? w13 _ k1)).trans k1
             have k2 := (hb.cell (World.block_lt_of_cell? w13 _ k2)).trans k2
             have k3 := (hb.cell (World.block_lt_of_cell? w13 _ k3)).trans k3
             clear hb HB4 HO4))
        go_wp2_with fail
        refine (wayzgoosekit_EqStrings.calls K Ao co l A c l true _ (Kd.R_reads' HO5.out).2.2 (Kd.R_reads' HO5.out).2.1 (Kd.C_below HQ.out.2.1 HB5.out) HQ.out.2.2 F456.out.2.2).mono ?_
        rintro e w15 ⟨rfl, hd⟩
        have HB6 : Hid (Below X3.heap.size X3 w15) := by obtain ⟨nd, rfl⟩ := hd; exact pw_below_drewN HB5.out nd
        clear hd HB5 HO5
        go_wp2_with fail
        go_roundg g0
        case measure => omega
        case rel => exact ⟨i + 1, by go_num, by omega, HB6.out⟩
theorem NameFits {w : World} (A0 : Option Addr) (c0 : Nat) (l0 : List ByteArray) (h0 : Kd.C Kd.string w A0 l0.length l0) (hc0 : l0.length ≤ c0) (hm0 : l0.length ≤ maxLen) (hs0 : ∀ s ∈ l0, s.size ≤ maxLen) (at_ wd : Int)
    (A3 : Option Addr) (c3 : Nat) (l3 : List Int) (h3 : Kd.C (Kd.int .i64) w A3 l3.length l3) (hc3 : l3.length ≤ c3) (hm3 : l3.length ≤ maxLen) :
    Calls Tryz.prog 3 #[.slice A0 l0.length c0, .int .i64 at_, .int .i64 wd, .slice A3 l3.length c3] w fun e w' => e = .returned (.bool true) ∧ Below w.heap.size w w' :=
  fits_walk A0 c0 l0 at_ wd A3 c3 l3 w h0 hc0 h3 hc3 (by unfold maxLen at hm0; omega) hm3
end Go.Proofs.YtapikimhmjnjeaaGreatDoor.Pure

