/- A text of the claim. -/
import Derived.Test.YtapikimhmjnjeaaGreatDoorPr0
import Derived.Test.YtapikimhmjnjeaaGreatDoorPr14
import Derived.Test.YtapikimhmjnjeaaGreatDoorPr21
namespace Go.Proofs.YtapikimhmjnjeaaGreatDoor.Pr
open Go.RowKit Go.Proofs.YtapikimhmjnjeaaGreatDoorW.PrintWords Go.Proofs.YtapikimhmjnjeaaGreatDoorW.PrintLast Go.Proofs.YtapikimhmjnjeaaGreatDoorW.PrintMore
attribute [local go_sem] max2_int min2_int max_two min_two max_three min_three max_four min_four   -- for this text's walks alone
set_option linter.unusedVariables false
set_option linter.unusedSimpArgs false

mutual
def wayzgooseref03_best.l0 : Nat → List ByteArray → ByteArray → ByteArray → Bool → List ByteArray → Int → Option (ByteArray × Bool)
  | 0, _, _, _, _, _, _ => none
  | k + 1, x0, x8, x9, x10, x11, x12 => if x12 < (x11.length : Int) then (if 0 ≤ 1 then (if 1 ≤ (x8.size : Int) then (if 0 ≤ x12 then (if (x8.extract 0 1).size + (rdOf ByteArray.empty x11 x12).size ≤ 9223372036854775807 then (wayzgooseref03_best.l1 k x0 x8 x9 x10 x11 x12 ((x8.extract 0 1) ++ (rdOf ByteArray.empty x11 x12)) true 0) else (none)) else (none)) else (none)) else (none)) else (if x9.size + 1 ≤ 9223372036854775807 then (some (x9 ++ (⟨#[46]⟩ : ByteArray), x10)) else (none))
def wayzgooseref03_best.l1 : Nat → List ByteArray → ByteArray → ByteArray → Bool → List ByteArray → Int → ByteArray → Bool → Int → Option (ByteArray × Bool)
  | 0, _, _, _, _, _, _, _, _, _ => none
  | k + 1, x0, x8, x9, x10, x11, x12, x13, x14, x15 => if x15 < (x0.length : Int) then (if x14 = true then (if 0 ≤ x15 then ((wayzgooseref03_key.f k (rdOf ByteArray.empty x0 x15)).bind fun t1079 => (if t1079.toList = x8.toList then (wayzgooseref03_best.l1 k x0 x8 x9 x10 x11 x12 x13 true (wrap64 (x15 + 1))) else ((wayzgooseref03_key.f k (rdOf ByteArray.empty x0 x15)).bind fun t1081 => ((wayzgooseref03_Abbreviates.f k x13 t1081).bind fun t1082 => (wayzgooseref03_best.l1 k x0 x8 x9 x10 x11 x12 x13 (!t1082) (wrap64 (x15 + 1))))))) else (none)) else (wayzgooseref03_best.l1 k x0 x8 x9 x10 x11 x12 x13 false (wrap64 (x15 + 1)))) else (if x14 = true then (if x10 = true then (if (Op.bytesLess x13.toList x9.toList) = true then (wayzgooseref03_best.l0 k x0 x8 x13 true x11 (wrap64 (x12 + 1))) else (wayzgooseref03_best.l0 k x0 x8 x9 x10 x11 (wrap64 (x12 + 1)))) else (wayzgooseref03_best.l0 k x0 x8 x13 true x11 (wrap64 (x12 + 1)))) else (wayzgooseref03_best.l0 k x0 x8 x9 x10 x11 (wrap64 (x12 + 1))))
end
def wayzgooseref03_best.f (k : Nat) (l0 : List ByteArray) (a1 : Int) (a2 : Int) : Option (ByteArray × Bool) := if 0 ≤ a1 then (if a1 < (l0.length : Int) then ((wayzgooseref03_key.f k (rdOf ByteArray.empty l0 a1)).bind fun t1073 => (if a2 ≥ (t1073.size : Int) then (some ((⟨#[]⟩ : ByteArray), false)) else (if 1 ≤ (t1073.size : Int) then ((wayzgooseref03_parts.f k (t1073.extract 1 t1073.size) (wrap64 (a2 - 1))).bind fun t1074 => (wayzgooseref03_best.l0 k l0 t1073 (⟨#[]⟩ : ByteArray) false t1074 0)) else (none)))) else (none)) else (none)
set_option maxHeartbeats 8000000 in
set_option maxRecDepth 100000 in
theorem wayzgooseref03_best.calls (k : Nat) (A0 : Option Addr) (c0 : Nat) (l0 : List ByteArray) (a1 : Int) (a2 : Int) (r1 : ByteArray) (r2 : Bool) (w : World) (hr0 : Kd.C Kd.string w A0 l0.length l0) (hc0 : l0.length ≤ c0) (h : wayzgooseref03_best.f k l0 a1 a2 = some (r1, r2)) :
    Calls Tryz.prog 82 #[.slice A0 l0.length c0, .int .i64 a1, .int .i64 a2] w fun e w' => e = .returned (.tuple #[.string r1, .bool r2]) ∧ Below w.heap.size w w' := by
  have HR0 := Aside0.mk hr0
  have HC0 := Aside0.mk hc0
  clear hr0 hc0
  have HB := Aside0.mk (Below.refl w.heap.size w)
  have H : (if 0 ≤ a1 then (if a1 < (l0.length : Int) then ((wayzgooseref03_key.f k (rdOf ByteArray.empty l0 a1)).bind fun t1073 => (if a2 ≥ (t1073.size : Int) then (some ((⟨#[]⟩ : ByteArray), false)) else (if 1 ≤ (t1073.size : Int) then ((wayzgooseref03_parts.f k (t1073.extract 1 t1073.size) (wrap64 (a2 - 1))).bind fun t1074 => (wayzgooseref03_best.l0 k l0 t1073 (⟨#[]⟩ : ByteArray) false t1074 0)) else (none)))) else (none)) else (none)) = some (r1, r2) := h
  clear h
  by_cases c4 : 0 ≤ a1
  · rw [if_pos c4] at H
    have c4b0 : decide (0 ≤ a1) = true := decide_eq_true c4
    clear c4
    by_cases c5 : a1 < (l0.length : Int)
    · rw [if_pos c5] at H
      have c5b0 : decide (a1 < (l0.length : Int)) = true := decide_eq_true c5
      clear c5
      replace H := Option.bind_eq_some_iff.mp H
      obtain ⟨t1073, A60, H⟩ := H
      replace H : (if a2 ≥ (t1073.size : Int) then (some ((⟨#[]⟩ : ByteArray), false)) else (if 1 ≤ (t1073.size : Int) then ((wayzgooseref03_parts.f k (t1073.extract 1 t1073.size) (wrap64 (a2 - 1))).bind fun t1074 => (wayzgooseref03_best.l0 k l0 t1073 (⟨#[]⟩ : ByteArray) false t1074 0)) else (none))) = some (r1, r2) := H
      have A6 := Aside0.mk A60
      clear A60
      by_cases c7 : a2 ≥ (t1073.size : Int)
      · rw [if_pos c7] at H
        have c7b0 : decide ((t1073.size : Int) ≤ a2) = true := decide_eq_true c7
        clear c7
        simp only [Option.some.injEq, Prod.mk.injEq] at H
        obtain ⟨rfl, rfl⟩ := H
        have p1072 : 0 ≤ (a1 : Int) := of_decide_eq_true (by first | (with_reducible assumption) | assumption)
        have q1072 : a1 < (l0.length : Int) := of_decide_eq_true (by first | (with_reducible assumption) | assumption)
        obtain ⟨ad1072, e1072, hx1072_0⟩ := Kd.at_string HR0.out a1 p1072 q1072
        cases e1072
        replace p1072 := eq_true p1072
        replace q1072 := eq_true q1072
        go_enter Tryz.func82, Tryz.ntmps82
        go_wp2_with (first | (go_at_call 84; (with_reducible refine (wayzgooseref03_key.calls k (rdOf ByteArray.empty l0 a1) t1073 _ A6.out).mono ?_); rintro e w8 ⟨rfl, hb⟩; have n0_ := Aside0.mk (below_step (by repeat (first | (with_reducible first | exact HB.out | apply below_alloc | apply pw_below_drewN | apply below_drew1) | exact HB.out)) hb); clear HB; have HB := n0_; clear n0_; (try clear hb); (try clear hb2); (try clear hk); (try clear hi)))
        repeat (go_quiet (first | (go_at_call 84; (with_reducible refine (wayzgooseref03_key.calls k (rdOf ByteArray.empty l0 a1) t1073 _ A6.out).mono ?_); rintro e w8 ⟨rfl, hb⟩; have n0_ := Aside0.mk (below_step (by repeat (first | (with_reducible first | exact HB.out | apply below_alloc | apply pw_below_drewN | apply below_drew1) | exact HB.out)) hb); clear HB; have HB := n0_; clear n0_; (try clear hb); (try clear hb2); (try clear hk); (try clear hi))); try go_wp2_with (first | (go_at_call 84; (with_reducible refine (wayzgooseref03_key.calls k (rdOf ByteArray.empty l0 a1) t1073 _ A6.out).mono ?_); rintro e w8 ⟨rfl, hb⟩; have n0_ := Aside0.mk (below_step (by repeat (first | (with_reducible first | exact HB.out | apply below_alloc | apply pw_below_drewN | apply below_drew1) | exact HB.out)) hb); clear HB; have HB := n0_; clear n0_; (try clear hb); (try clear hb2); (try clear hk); (try clear hi))))
        go_ret2
        exact ⟨by first | rfl | (simp [errW_none, errW_some] <;> rfl) | (simp [*, errW_none, errW_some] <;> rfl), by repeat (first | (with_reducible first | exact HB.out | apply below_alloc | apply pw_below_drewN | apply below_drew1) | exact HB.out)⟩
      · rw [if_neg c7] at H
        have c7b0 : decide ((t1073.size : Int) ≤ a2) = false := decide_eq_false c7
        clear c7
        by_cases c9 : 1 ≤ (t1073.size : Int)
        · rw [if_pos c9] at H
          have c9b0 := eq_true c9
          have c9b1 : decide (1 ≤ (t1073.size : Int)) = true := decide_eq_true c9
          clear c9
          replace H := Option.bind_eq_some_iff.mp H
          obtain ⟨t1074, A100, H⟩ := H
          replace H : (wayzgooseref03_best.l0 k l0 t1073 (⟨#[]⟩ : ByteArray) false t1074 0) = some (r1, r2) := H
          have A10 := Aside0.mk A100
          clear A100
          have H' := Aside0.mk H
          clear H
          have p1072 : 0 ≤ (a1 : Int) := of_decide_eq_true (by first | (with_reducible assumption) | assumption)
          have q1072 : a1 < (l0.length : Int) := of_decide_eq_true (by first | (with_reducible assumption) | assumption)
          obtain ⟨ad1072, e1072, hx1072_0⟩ := Kd.at_string HR0.out a1 p1072 q1072
          cases e1072
          replace p1072 := eq_true p1072
          replace q1072 := eq_true q1072
          go_enter Tryz.func82, Tryz.ntmps82
          go_wp2_with (first | (go_at_call 84; (with_reducible refine (wayzgooseref03_key.calls k (rdOf ByteArray.empty l0 a1) t1073 _ A6.out).mono ?_); rintro e w11 ⟨rfl, hb⟩; have n0_ := Aside0.mk (below_step (by repeat (first | (with_reducible first | exact HB.out | apply below_alloc | apply pw_below_drewN | apply below_drew1) | exact HB.out)) hb); clear HB; have HB := n0_; clear n0_; (try clear hb); (try clear hb2); (try clear hk); (try clear hi)) | (go_at_call 121; (with_reducible refine (wayzgooseref03_parts.calls k (t1073.extract 1 t1073.size) (wrap64 (a2 - 1)) t1074 _ A10.out).mono ?_); rintro e w12 ⟨v1075, rfl, ho0, hb⟩; have n0_ := Aside0.mk (Kd.R_lower ho0 (below_size (by repeat (first | (with_reducible first | exact HB.out | apply below_alloc | apply pw_below_drewN | apply below_drew1) | exact HB.out)))); have n1_ := Aside0.mk (below_step (by repeat (first | (with_reducible first | exact HB.out | apply below_alloc | apply pw_below_drewN | apply below_drew1) | exact HB.out)) hb); clear HB; have HO1076 := n0_; have HB := n1_; clear n0_ n1_; (try clear hb); (try clear hb2); (try clear hk); (try clear hi); (try clear ho0)))
          repeat (go_quiet (first | (go_at_call 84; (with_reducible refine (wayzgooseref03_key.calls k (rdOf ByteArray.empty l0 a1) t1073 _ A6.out).mono ?_); rintro e w11 ⟨rfl, hb⟩; have n0_ := Aside0.mk (below_step (by repeat (first | (with_reducible first | exact HB.out | apply below_alloc | apply pw_below_drewN | apply below_drew1) | exact HB.out)) hb); clear HB; have HB := n0_; clear n0_; (try clear hb); (try clear hb2); (try clear hk); (try clear hi)) | (go_at_call 121; (with_reducible refine (wayzgooseref03_parts.calls k (t1073.extract 1 t1073.size) (wrap64 (a2 - 1)) t1074 _ A10.out).mono ?_); rintro e w12 ⟨v1075, rfl, ho0, hb⟩; have n0_ := Aside0.mk (Kd.R_lower ho0 (below_size (by repeat (first | (with_reducible first | exact HB.out | apply below_alloc | apply pw_below_drewN | apply below_drew1) | exact HB.out)))); have n1_ := Aside0.mk (below_step (by repeat (first | (with_reducible first | exact HB.out | apply below_alloc | apply pw_below_drewN | apply below_drew1) | exact HB.out)) hb); clear HB; have HO1076 := n0_; have HB := n1_; clear n0_ n1_; (try clear hb); (try clear hb2); (try clear hk); (try clear hi); (try clear ho0))); try go_wp2_with (first | (go_at_call 84; (with_reducible refine (wayzgooseref03_key.calls k (rdOf ByteArray.empty l0 a1) t1073 _ A6.out).mono ?_); rintro e w11 ⟨rfl, hb⟩; have n0_ := Aside0.mk (below_step (by repeat (first | (with_reducible first | exact HB.out | apply below_alloc | apply pw_below_drewN | apply below_drew1) | exact HB.out)) hb); clear HB; have HB := n0_; clear n0_; (try clear hb); (try clear hb2); (try clear hk); (try clear hi)) | (go_at_call 121; (with_reducible refine (wayzgooseref03_parts.calls k (t1073.extract 1 t1073.size) (wrap64 (a2 - 1)) t1074 _ A10.out).mono ?_); rintro e w12 ⟨v1075, rfl, ho0, hb⟩; have n0_ := Aside0.mk (Kd.R_lower ho0 (below_size (by repeat (first | (with_reducible first | exact HB.out | apply below_alloc | apply pw_below_drewN | apply below_drew1) | exact HB.out)))); have n1_ := Aside0.mk (below_step (by repeat (first | (with_reducible first | exact HB.out | apply below_alloc | apply pw_below_drewN | apply below_drew1) | exact HB.out)) hb); clear HB; have HO1076 := n0_; have HB := n1_; clear n0_ n1_; (try clear hb); (try clear hb2); (try clear hk); (try clear hi); (try clear ho0))))
          go_loopg [9, 10, 12] k (fun kq v9 v10 v12 w' => ∃ (x9_1 : ByteArray) (x10_1 : Bool) (x12_1 : Int), v9 = .string x9_1 ∧ v10 = .bool x10_1 ∧ v12 = .int .i64 x12_1 ∧ Aside0 (wayzgooseref03_best.l0 kq l0 t1073 x9_1 x10_1 t1074 x12_1 = some (r1, r2)) ∧ Aside0 (kq ≤ k) ∧ Aside0 (Kd.R Kd.string 9 w' w.heap.size (fun _ => True) v1075 t1074) ∧ Aside0 (Below w.heap.size w w'))
          case atStart => exact ⟨((⟨#[]⟩ : ByteArray)), (false), (0), (by first | rfl | (simp; done) | (simp [*]; done)), (by first | rfl | (simp; done) | (simp [*]; done)), (by first | rfl | (simp; done) | (simp [*]; done)), H', ⟨Nat.le_refl _⟩, ⟨by (with_reducible repeat (first | apply Kd.R_alloc | apply Kd.R_drewN | apply Kd.R_drew)); exact HO1076.out⟩, ⟨by repeat (first | (with_reducible first | exact HB.out | apply below_alloc | apply pw_below_drewN | apply below_drew1) | exact HB.out)⟩⟩
          case round =>
            clear H'
            try clear p1
            try clear q1
            try clear hx1
            try clear p2
            try clear c4
            try clear c4b0
            try clear c5
            try clear c5b0
            try clear p6
            try clear c7
            try clear c7b0
            try clear c8
            try clear c9
            try clear c9b0
            try clear c9b1
            try clear p10
            try clear q10
            try clear hx10
            try clear hx1072_0
            try clear p1072
            try clear q1072
            obtain ⟨x9_1, x10_1, x12_1, rfl, rfl, rfl, HA, HK1, HO_11, HB⟩ := hrel
            cases gk with
            | zero => exact absurd HA.out (by simp [wayzgooseref03_best.l0])
            | succ k1 =>
              have H := HA.out
              clear HA
              simp only [wayzgooseref03_best.l0] at H
              by_cases c13 : x12_1 < (t1074.length : Int)
              · rw [if_pos c13] at H
                have c13b0 : decide (x12_1 < (t1074.length : Int)) = true := decide_eq_true c13
                clear c13
                by_cases c14 : 0 ≤ 1
                · rw [if_pos c14] at H
                  have c14b0 := eq_true c14
                  have c14b1 : decide (0 ≤ 1) = true := decide_eq_true c14
                  clear c14
                  by_cases c15 : 1 ≤ (t1073.size : Int)
                  · rw [if_pos c15] at H
                    have c15b0 := eq_true c15
                    have c15b1 : decide (1 ≤ (t1073.size : Int)) = true := decide_eq_true c15
                    clear c15
                    by_cases c16 : 0 ≤ x12_1
                    · rw [if_pos c16] at H
                      have c16b0 : decide (0 ≤ x12_1) = true := decide_eq_true c16
                      clear c16
                      by_cases c17 : (t1073.extract 0 1).size + (rdOf ByteArray.empty t1074 x12_1).size ≤ 9223372036854775807
                      · rw [if_pos c17] at H
                        have c17b0 := eq_true c17
                        have c17b1 : decide ((t1073.extract 0 1).size + (rdOf ByteArray.empty t1074 x12_1).size ≤ 9223372036854775807) = true := decide_eq_true c17
                        try have c17b2 : (9223372036854775807 < (t1073.extract 0 1).size + (rdOf ByteArray.empty t1074 x12_1).size) = False := eq_false (Nat.not_lt.2 c17)
                        have H' := Aside0.mk H
                        clear H
                        obtain ⟨Ao18, co18, eo18⟩ := Kd.R_slice HO_11.out
                        subst eo18
                        have p1077 : 0 ≤ (x12_1 : Int) := of_decide_eq_true (by first | (with_reducible assumption) | assumption)
                        have q1077 : x12_1 < (t1074.length : Int) := of_decide_eq_true (by first | (with_reducible assumption) | assumption)
                        obtain ⟨ad1077, e1077, hx1077_0⟩ := Kd.at_string (Kd.R_reads' HO_11.out).2.2 x12_1 p1077 q1077
                        cases e1077
                        replace p1077 := eq_true p1077
                        replace q1077 := eq_true q1077
                        go_wp2
                        repeat (go_quiet (fail); try go_wp2)
                        go_loopg [14, 15] k1 (fun kq v14 v15 w' => ∃ (x14_2 : Bool) (x15_2 : Int), v14 = .bool x14_2 ∧ v15 = .int .i64 x15_2 ∧ Aside0 (wayzgooseref03_best.l1 kq l0 t1073 x9_1 x10_1 t1074 x12_1 ((t1073.extract 0 1) ++ (rdOf ByteArray.empty t1074 x12_1)) x14_2 x15_2 = some (r1, r2)) ∧ Aside0 (kq ≤ k1) ∧ Aside0 (Kd.R Kd.string 9 w' w.heap.size (fun _ => True) (.slice (some ad1077) t1074.length co18) t1074) ∧ Aside0 (Below w.heap.size w w'))
                        case atStart => exact ⟨(true), (0), (by first | rfl | (simp; done) | (simp [*]; done)), (by first | rfl | (simp; done) | (simp [*]; done)), H', ⟨Nat.le_refl _⟩, ⟨by (with_reducible repeat (first | apply Kd.R_alloc | apply Kd.R_drewN | apply Kd.R_drew)); exact HO_11.out⟩, ⟨by repeat (first | (with_reducible first | exact HB.out | apply below_alloc | apply pw_below_drewN | apply below_drew1) | exact HB.out)⟩⟩
                        case round =>
                          clear H'
                          try clear c1
                          try clear p1
                          try clear q1
                          try clear hx1
                          try clear p2
                          try clear c4
                          try clear c4b0
                          try clear c5
                          try clear c5b0
                          try clear p6
                          try clear c7
                          try clear c7b0
                          try clear c8
                          try clear c9
                          try clear c9b0
                          try clear c9b1
                          try clear p10
                          try clear q10
                          try clear hx10
                          try clear c13
                          try clear c13b0
                          try clear c14
                          try clear c14b0
                          try clear c14b1
                          try clear c15
                          try clear c15b0
                          try clear c15b1
                          try clear c16
                          try clear c16b0
                          try clear c17
                          try clear c17b0
                          try clear c17b1
                          try clear c17b2
                          try clear hx1072_0
                          try clear hx1077_0
                          try clear p1
                          try clear p10
                          try clear p1072
                          try clear p1077
                          try clear p2
                          try clear p6
                          try clear q1
                          try clear q10
                          try clear q1072
                          try clear q1077
                          obtain ⟨x14_2, x15_2, rfl, rfl, HA, HK2, HO_11, HB⟩ := hrel
                          cases gk with
                          | zero => exact absurd HA.out (by simp [wayzgooseref03_best.l1])
                          | succ k2 =>
                            have H := HA.out
                            clear HA
                            simp only [wayzgooseref03_best.l1] at H
                            by_cases c19 : x15_2 < (l0.length : Int)
                            · rw [if_pos c19] at H
                              have c19b0 : decide (x15_2 < (l0.length : Int)) = true := decide_eq_true c19
                              clear c19
                              by_cases c20 : x14_2 = true
                              · subst c20
                                have H1 : (if 0 ≤ x15_2 then ((wayzgooseref03_key.f k2 (rdOf ByteArray.empty l0 x15_2)).bind fun t1079 => (if t1079.toList = t1073.toList then (wayzgooseref03_best.l1 k2 l0 t1073 x9_1 x10_1 t1074 x12_1 ((t1073.extract 0 1) ++ (rdOf ByteArray.empty t1074 x12_1)) true (wrap64 (x15_2 + 1))) else ((wayzgooseref03_key.f k2 (rdOf ByteArray.empty l0 x15_2)).bind fun t1081 => ((wayzgooseref03_Abbreviates.f k2 ((t1073.extract 0 1) ++ (rdOf ByteArray.empty t1074 x12_1)) t1081).bind fun t1082 => (wayzgooseref03_best.l1 k2 l0 t1073 x9_1 x10_1 t1074 x12_1 ((t1073.extract 0 1) ++ (rdOf ByteArray.empty t1074 x12_1)) (!t1082) (wrap64 (x15_2 + 1))))))) else (none)) = some (r1, r2) := by rw [if_pos rfl] at H; exact H
                                clear H
                                have H := H1
                                clear H1
                                by_cases c21 : 0 ≤ x15_2
                                · rw [if_pos c21] at H
                                  have c21b0 : decide (0 ≤ x15_2) = true := decide_eq_true c21
                                  clear c21
                                  replace H := Option.bind_eq_some_iff.mp H
                                  obtain ⟨t1079, A220, H⟩ := H
                                  replace H : (if t1079.toList = t1073.toList then (wayzgooseref03_best.l1 k2 l0 t1073 x9_1 x10_1 t1074 x12_1 ((t1073.extract 0 1) ++ (rdOf ByteArray.empty t1074 x12_1)) true (wrap64 (x15_2 + 1))) else ((wayzgooseref03_key.f k2 (rdOf ByteArray.empty l0 x15_2)).bind fun t1081 => ((wayzgooseref03_Abbreviates.f k2 ((t1073.extract 0 1) ++ (rdOf ByteArray.empty t1074 x12_1)) t1081).bind fun t1082 => (wayzgooseref03_best.l1 k2 l0 t1073 x9_1 x10_1 t1074 x12_1 ((t1073.extract 0 1) ++ (rdOf ByteArray.empty t1074 x12_1)) (!t1082) (wrap64 (x15_2 + 1)))))) = some (r1, r2) := H
                                  have A22 := Aside0.mk A220
                                  clear A220
                                  by_cases c23 : t1079.toList = t1073.toList
                                  · rw [if_pos c23] at H
                                    have c23b0 : (t1079.toList == t1073.toList) = true := beq_iff_eq.mpr c23
                                    have c23b1 : (t1079.toList != t1073.toList) = false := bne_eq_false_iff_eq.mpr c23
                                    clear c23
                                    have H' := Aside0.mk H
                                    clear H
                                    have p1078 : 0 ≤ (x15_2 : Int) := of_decide_eq_true (by first | (with_reducible assumption) | assumption)
                                    have q1078 : x15_2 < (l0.length : Int) := of_decide_eq_true (by first | (with_reducible assumption) | assumption)
                                    obtain ⟨ad1078, e1078, hx1078_0⟩ := Kd.at_string HR0.out x15_2 p1078 q1078
                                    obtain rfl : ad1072 = ad1078 := (by injection e1078)
                                    replace hx1078_0 := (HB.out.cell (World.block_lt_of_cell? w _ hx1078_0)).trans hx1078_0
                                    replace p1078 := eq_true p1078
                                    replace q1078 := eq_true q1078
                                    go_wp2_with (first | (go_at_call 84; (with_reducible refine (wayzgooseref03_key.calls k2 (rdOf ByteArray.empty l0 x15_2) t1079 _ A22.out).mono ?_); rintro e w24 ⟨rfl, hb⟩; have n0_ := Aside0.mk (Kd.R_below (by (with_reducible repeat (first | apply Kd.R_alloc | apply Kd.R_drewN | apply Kd.R_drew)); exact HO_11.out) hb); have n1_ := Aside0.mk (below_step (by repeat (first | (with_reducible first | exact HB.out | apply below_alloc | apply pw_below_drewN | apply below_drew1) | exact HB.out)) hb); clear HO_11; clear HB; have HO_11 := n0_; have HB := n1_; clear n0_ n1_; (try clear hb); (try clear hb2); (try clear hk); (try clear hi)))
                                    repeat (go_quiet (first | (go_at_call 84; (with_reducible refine (wayzgooseref03_key.calls k2 (rdOf ByteArray.empty l0 x15_2) t1079 _ A22.out).mono ?_); rintro e w24 ⟨rfl, hb⟩; have n0_ := Aside0.mk (Kd.R_below (by (with_reducible repeat (first | apply Kd.R_alloc | apply Kd.R_drewN | apply Kd.R_drew)); exact HO_11.out) hb); have n1_ := Aside0.mk (below_step (by repeat (first | (with_reducible first | exact HB.out | apply below_alloc | apply pw_below_drewN | apply below_drew1) | exact HB.out)) hb); clear HO_11; clear HB; have HO_11 := n0_; have HB := n1_; clear n0_ n1_; (try clear hb); (try clear hb2); (try clear hk); (try clear hi))); try go_wp2_with (first | (go_at_call 84; (with_reducible refine (wayzgooseref03_key.calls k2 (rdOf ByteArray.empty l0 x15_2) t1079 _ A22.out).mono ?_); rintro e w24 ⟨rfl, hb⟩; have n0_ := Aside0.mk (Kd.R_below (by (with_reducible repeat (first | apply Kd.R_alloc | apply Kd.R_drewN | apply Kd.R_drew)); exact HO_11.out) hb); have n1_ := Aside0.mk (below_step (by repeat (first | (with_reducible first | exact HB.out | apply below_alloc | apply pw_below_drewN | apply below_drew1) | exact HB.out)) hb); clear HO_11; clear HB; have HO_11 := n0_; have HB := n1_; clear n0_ n1_; (try clear hb); (try clear hb2); (try clear hk); (try clear hi))))
                                    go_roundg k2
                                    case measure => have := HK1.out; have := HK2.out; omega
                                    case rel => exact ⟨(true), (wrap64 (x15_2 + 1)), (by first | rfl | (simp; done) | (simp [*]; done)), (by first | rfl | (simp; done) | (simp [*]; done)), H', ⟨by have := HK1.out; have := HK2.out; omega⟩, ⟨by (with_reducible repeat (first | apply Kd.R_alloc | apply Kd.R_drewN | apply Kd.R_drew)); exact HO_11.out⟩, ⟨by repeat (first | (with_reducible first | exact HB.out | apply below_alloc | apply pw_below_drewN | apply below_drew1) | exact HB.out)⟩⟩
                                  · rw [if_neg c23] at H
                                    have c23b0 : (t1079.toList == t1073.toList) = false := beq_eq_false_iff_ne.mpr c23
                                    have c23b1 : (t1079.toList != t1073.toList) = true := bne_iff_ne.mpr c23
                                    replace H := Option.bind_eq_some_iff.mp H
                                    obtain ⟨t1081, A250, H⟩ := H
                                    replace H : ((wayzgooseref03_Abbreviates.f k2 ((t1073.extract 0 1) ++ (rdOf ByteArray.empty t1074 x12_1)) t1081).bind fun t1082 => (wayzgooseref03_best.l1 k2 l0 t1073 x9_1 x10_1 t1074 x12_1 ((t1073.extract 0 1) ++ (rdOf ByteArray.empty t1074 x12_1)) (!t1082) (wrap64 (x15_2 + 1)))) = some (r1, r2) := H
                                    have A25 := Aside0.mk A250
                                    clear A250
                                    replace H := Option.bind_eq_some_iff.mp H
                                    obtain ⟨t1082, A260, H⟩ := H
                                    replace H : (wayzgooseref03_best.l1 k2 l0 t1073 x9_1 x10_1 t1074 x12_1 ((t1073.extract 0 1) ++ (rdOf ByteArray.empty t1074 x12_1)) (!t1082) (wrap64 (x15_2 + 1))) = some (r1, r2) := H
                                    have eA_ : t1081 = t1079 := Option.some.inj (A25.out.symm.trans A22.out)
                                    have A26 := Aside0.mk (show wayzgooseref03_Abbreviates.f k2 ((t1073.extract 0 1) ++ (rdOf ByteArray.empty t1074 x12_1)) t1079 = some t1082 from eA_ ▸ A260)
                                    clear A260
                                    have H' := Aside0.mk H
                                    clear H
                                    have p1078 : 0 ≤ (x15_2 : Int) := of_decide_eq_true (by first | (with_reducible assumption) | assumption)
                                    have q1078 : x15_2 < (l0.length : Int) := of_decide_eq_true (by first | (with_reducible assumption) | assumption)
                                    obtain ⟨ad1078, e1078, hx1078_0⟩ := Kd.at_string HR0.out x15_2 p1078 q1078
                                    obtain rfl : ad1072 = ad1078 := (by injection e1078)
                                    replace hx1078_0 := (HB.out.cell (World.block_lt_of_cell? w _ hx1078_0)).trans hx1078_0
                                    replace p1078 := eq_true p1078
                                    replace q1078 := eq_true q1078
                                    go_wp2_with (first | (go_at_call 84; (with_reducible refine (wayzgooseref03_key.calls k2 (rdOf ByteArray.empty l0 x15_2) t1079 _ A22.out).mono ?_); rintro e w27 ⟨rfl, hb⟩; have n0_ := Aside0.mk (Kd.R_below (by (with_reducible repeat (first | apply Kd.R_alloc | apply Kd.R_drewN | apply Kd.R_drew)); exact HO_11.out) hb); have n1_ := Aside0.mk (below_step (by repeat (first | (with_reducible first | exact HB.out | apply below_alloc | apply pw_below_drewN | apply below_drew1) | exact HB.out)) hb); clear HO_11; clear HB; have HO_11 := n0_; have HB := n1_; clear n0_ n1_; (try clear hb); (try clear hb2); (try clear hk); (try clear hi); have p1080 : 0 ≤ (x15_2 : Int) := of_decide_eq_true (by first | (with_reducible assumption) | assumption); have q1080 : x15_2 < (l0.length : Int) := of_decide_eq_true (by first | (with_reducible assumption) | assumption); obtain ⟨ad1080, e1080, hx1080_0⟩ := Kd.at_string HR0.out x15_2 p1080 q1080; obtain rfl : ad1072 = ad1080 := (by injection e1080); replace hx1080_0 := (HB.out.cell (World.block_lt_of_cell? w _ hx1080_0)).trans hx1080_0; replace p1080 := eq_true p1080; replace q1080 := eq_true q1080) | (go_at_call 84; (with_reducible refine (wayzgooseref03_key.calls k2 (rdOf ByteArray.empty l0 x15_2) t1081 _ A25.out).mono ?_); rintro e w28 ⟨rfl, hb⟩; have n0_ := Aside0.mk (Kd.R_below (by (with_reducible repeat (first | apply Kd.R_alloc | apply Kd.R_drewN | apply Kd.R_drew)); exact HO_11.out) hb); have n1_ := Aside0.mk (below_step (by repeat (first | (with_reducible first | exact HB.out | apply below_alloc | apply pw_below_drewN | apply below_drew1) | exact HB.out)) hb); clear HO_11; clear HB; have HO_11 := n0_; have HB := n1_; clear n0_ n1_; (try clear hb); (try clear hb2); (try clear hk); (try clear hi)) | (go_at_call 113; (with_reducible refine (wayzgooseref03_Abbreviates.calls k2 ((t1073.extract 0 1) ++ (rdOf ByteArray.empty t1074 x12_1)) t1079 t1082 _ A26.out).mono ?_); rintro e w' ⟨rfl, ⟨nd, rfl⟩⟩; (try first | exact ⟨rfl, _, World.drewN_drewN _ _ _⟩ | exact ⟨rfl, _, Eq.trans (World.drewN_drewN _ _ _) (congrArg (World.drewN _) (Nat.add_assoc _ _ _))⟩)))
                                    repeat (go_quiet (first | (go_at_call 84; (with_reducible refine (wayzgooseref03_key.calls k2 (rdOf ByteArray.empty l0 x15_2) t1079 _ A22.out).mono ?_); rintro e w27 ⟨rfl, hb⟩; have n0_ := Aside0.mk (Kd.R_below (by (with_reducible repeat (first | apply Kd.R_alloc | apply Kd.R_drewN | apply Kd.R_drew)); exact HO_11.out) hb); have n1_ := Aside0.mk (below_step (by repeat (first | (with_reducible first | exact HB.out | apply below_alloc | apply pw_below_drewN | apply below_drew1) | exact HB.out)) hb); clear HO_11; clear HB; have HO_11 := n0_; have HB := n1_; clear n0_ n1_; (try clear hb); (try clear hb2); (try clear hk); (try clear hi); have p1080 : 0 ≤ (x15_2 : Int) := of_decide_eq_true (by first | (with_reducible assumption) | assumption); have q1080 : x15_2 < (l0.length : Int) := of_decide_eq_true (by first | (with_reducible assumption) | assumption); obtain ⟨ad1080, e1080, hx1080_0⟩ := Kd.at_string HR0.out x15_2 p1080 q1080; obtain rfl : ad1072 = ad1080 := (by injection e1080); replace hx1080_0 := (HB.out.cell (World.block_lt_of_cell? w _ hx1080_0)).trans hx1080_0; replace p1080 := eq_true p1080; replace q1080 := eq_true q1080) | (go_at_call 84; (with_reducible refine (wayzgooseref03_key.calls k2 (rdOf ByteArray.empty l0 x15_2) t1081 _ A25.out).mono ?_); rintro e w28 ⟨rfl, hb⟩; have n0_ := Aside0.mk (Kd.R_below (by (with_reducible repeat (first | apply Kd.R_alloc | apply Kd.R_drewN | apply Kd.R_drew)); exact HO_11.out) hb); have n1_ := Aside0.mk (below_step (by repeat (first | (with_reducible first | exact HB.out | apply below_alloc | apply pw_below_drewN | apply below_drew1) | exact HB.out)) hb); clear HO_11; clear HB; have HO_11 := n0_; have HB := n1_; clear n0_ n1_; (try clear hb); (try clear hb2); (try clear hk); (try clear hi)) | (go_at_call 113; (with_reducible refine (wayzgooseref03_Abbreviates.calls k2 ((t1073.extract 0 1) ++ (rdOf ByteArray.empty t1074 x12_1)) t1079 t1082 _ A26.out).mono ?_); rintro e w' ⟨rfl, ⟨nd, rfl⟩⟩; (try first | exact ⟨rfl, _, World.drewN_drewN _ _ _⟩ | exact ⟨rfl, _, Eq.trans (World.drewN_drewN _ _ _) (congrArg (World.drewN _) (Nat.add_assoc _ _ _))⟩))); try go_wp2_with (first | (go_at_call 84; (with_reducible refine (wayzgooseref03_key.calls k2 (rdOf ByteArray.empty l0 x15_2) t1079 _ A22.out).mono ?_); rintro e w27 ⟨rfl, hb⟩; have n0_ := Aside0.mk (Kd.R_below (by (with_reducible repeat (first | apply Kd.R_alloc | apply Kd.R_drewN | apply Kd.R_drew)); exact HO_11.out) hb); have n1_ := Aside0.mk (below_step (by repeat (first | (with_reducible first | exact HB.out | apply below_alloc | apply pw_below_drewN | apply below_drew1) | exact HB.out)) hb); clear HO_11; clear HB; have HO_11 := n0_; have HB := n1_; clear n0_ n1_; (try clear hb); (try clear hb2); (try clear hk); (try clear hi); have p1080 : 0 ≤ (x15_2 : Int) := of_decide_eq_true (by first | (with_reducible assumption) | assumption); have q1080 : x15_2 < (l0.length : Int) := of_decide_eq_true (by first | (with_reducible assumption) | assumption); obtain ⟨ad1080, e1080, hx1080_0⟩ := Kd.at_string HR0.out x15_2 p1080 q1080; obtain rfl : ad1072 = ad1080 := (by injection e1080); replace hx1080_0 := (HB.out.cell (World.block_lt_of_cell? w _ hx1080_0)).trans hx1080_0; replace p1080 := eq_true p1080; replace q1080 := eq_true q1080) | (go_at_call 84; (with_reducible refine (wayzgooseref03_key.calls k2 (rdOf ByteArray.empty l0 x15_2) t1081 _ A25.out).mono ?_); rintro e w28 ⟨rfl, hb⟩; have n0_ := Aside0.mk (Kd.R_below (by (with_reducible repeat (first | apply Kd.R_alloc | apply Kd.R_drewN | apply Kd.R_drew)); exact HO_11.out) hb); have n1_ := Aside0.mk (below_step (by repeat (first | (with_reducible first | exact HB.out | apply below_alloc | apply pw_below_drewN | apply below_drew1) | exact HB.out)) hb); clear HO_11; clear HB; have HO_11 := n0_; have HB := n1_; clear n0_ n1_; (try clear hb); (try clear hb2); (try clear hk); (try clear hi)) | (go_at_call 113; (with_reducible refine (wayzgooseref03_Abbreviates.calls k2 ((t1073.extract 0 1) ++ (rdOf ByteArray.empty t1074 x12_1)) t1079 t1082 _ A26.out).mono ?_); rintro e w' ⟨rfl, ⟨nd, rfl⟩⟩; (try first | exact ⟨rfl, _, World.drewN_drewN _ _ _⟩ | exact ⟨rfl, _, Eq.trans (World.drewN_drewN _ _ _) (congrArg (World.drewN _) (Nat.add_assoc _ _ _))⟩))))
                                    go_roundg k2
                                    case measure => have := HK1.out; have := HK2.out; omega
                                    case rel => exact ⟨(!t1082), (wrap64 (x15_2 + 1)), (by first | rfl | (simp; done) | (simp [*]; done)), (by first | rfl | (simp; done) | (simp [*]; done)), H', ⟨by have := HK1.out; have := HK2.out; omega⟩, ⟨by (with_reducible repeat (first | apply Kd.R_alloc | apply Kd.R_drewN | apply Kd.R_drew)); exact HO_11.out⟩, ⟨by repeat (first | (with_reducible first | exact HB.out | apply below_alloc | apply pw_below_drewN | apply below_drew1) | exact HB.out)⟩⟩
                                · rw [if_neg c21] at H
                                  exact absurd H (by simp)
                              · replace c20 := Bool.eq_false_iff.mpr c20
                                subst c20
                                have H1 : (wayzgooseref03_best.l1 k2 l0 t1073 x9_1 x10_1 t1074 x12_1 ((t1073.extract 0 1) ++ (rdOf ByteArray.empty t1074 x12_1)) false (wrap64 (x15_2 + 1))) = some (r1, r2) := by rw [if_neg (show ¬ (false = true) by decide)] at H; exact H
                                clear H
                                have H := H1
                                clear H1
                                have H' := Aside0.mk H
                                clear H
                                go_wp2
                                repeat (go_quiet (fail); try go_wp2)
                                go_roundg k2
                                case measure => have := HK1.out; have := HK2.out; omega
                                case rel => exact ⟨(false), (wrap64 (x15_2 + 1)), (by first | rfl | (simp; done) | (simp [*]; done)), (by first | rfl | (simp; done) | (simp [*]; done)), H', ⟨by have := HK1.out; have := HK2.out; omega⟩, ⟨by (with_reducible repeat (first | apply Kd.R_alloc | apply Kd.R_drewN | apply Kd.R_drew)); exact HO_11.out⟩, ⟨by repeat (first | (with_reducible first | exact HB.out | apply below_alloc | apply pw_below_drewN | apply below_drew1) | exact HB.out)⟩⟩
                            · rw [if_neg c19] at H
                              have c19b0 : decide (x15_2 < (l0.length : Int)) = false := decide_eq_false c19
                              clear c19
                              by_cases c29 : x14_2 = true
                              · subst c29
                                have H1 : (if x10_1 = true then (if (Op.bytesLess ((t1073.extract 0 1) ++ (rdOf ByteArray.empty t1074 x12_1)).toList x9_1.toList) = true then (wayzgooseref03_best.l0 k2 l0 t1073 ((t1073.extract 0 1) ++ (rdOf ByteArray.empty t1074 x12_1)) true t1074 (wrap64 (x12_1 + 1))) else (wayzgooseref03_best.l0 k2 l0 t1073 x9_1 x10_1 t1074 (wrap64 (x12_1 + 1)))) else (wayzgooseref03_best.l0 k2 l0 t1073 ((t1073.extract 0 1) ++ (rdOf ByteArray.empty t1074 x12_1)) true t1074 (wrap64 (x12_1 + 1)))) = some (r1, r2) := by rw [if_pos rfl] at H; exact H
                                clear H
                                have H := H1
                                clear H1
                                by_cases c30 : x10_1 = true
                                · subst c30
                                  have H1 : (if (Op.bytesLess ((t1073.extract 0 1) ++ (rdOf ByteArray.empty t1074 x12_1)).toList x9_1.toList) = true then (wayzgooseref03_best.l0 k2 l0 t1073 ((t1073.extract 0 1) ++ (rdOf ByteArray.empty t1074 x12_1)) true t1074 (wrap64 (x12_1 + 1))) else (wayzgooseref03_best.l0 k2 l0 t1073 x9_1 true t1074 (wrap64 (x12_1 + 1)))) = some (r1, r2) := by rw [if_pos rfl] at H; exact H
                                  clear H
                                  have H := H1
                                  clear H1
                                  by_cases c31 : (Op.bytesLess ((t1073.extract 0 1) ++ (rdOf ByteArray.empty t1074 x12_1)).toList x9_1.toList) = true
                                  · rw [if_pos c31] at H
                                    have c31b0 : (Op.bytesLess ((t1073.extract 0 1) ++ (rdOf ByteArray.empty t1074 x12_1)).toList x9_1.toList) = true := c31
                                    clear c31
                                    have H' := Aside0.mk H
                                    clear H
                                    go_wp2
                                    repeat (go_quiet (fail); try go_wp2)
                                    go_roundg k2
                                    case measure => have := HK1.out; have := HK2.out; omega
                                    case rel => exact ⟨(((t1073.extract 0 1) ++ (rdOf ByteArray.empty t1074 x12_1))), (true), (wrap64 (x12_1 + 1)), (by first | rfl | (simp; done) | (simp [*]; done)), (by first | rfl | (simp; done) | (simp [*]; done)), (by first | rfl | (simp; done) | (simp [*]; done)), H', ⟨by have := HK1.out; have := HK2.out; omega⟩, ⟨by (with_reducible repeat (first | apply Kd.R_alloc | apply Kd.R_drewN | apply Kd.R_drew)); exact HO_11.out⟩, ⟨by repeat (first | (with_reducible first | exact HB.out | apply below_alloc | apply pw_below_drewN | apply below_drew1) | exact HB.out)⟩⟩
                                  · rw [if_neg c31] at H
                                    have c31b0 : (Op.bytesLess ((t1073.extract 0 1) ++ (rdOf ByteArray.empty t1074 x12_1)).toList x9_1.toList) = false := by simpa using c31
                                    clear c31
                                    have H' := Aside0.mk H
                                    clear H
                                    go_wp2
                                    repeat (go_quiet (fail); try go_wp2)
                                    go_roundg k2
                                    case measure => have := HK1.out; have := HK2.out; omega
                                    case rel => exact ⟨(x9_1), (true), (wrap64 (x12_1 + 1)), (by first | rfl | (simp; done) | (simp [*]; done)), (by first | rfl | (simp; done) | (simp [*]; done)), (by first | rfl | (simp; done) | (simp [*]; done)), H', ⟨by have := HK1.out; have := HK2.out; omega⟩, ⟨by (with_reducible repeat (first | apply Kd.R_alloc | apply Kd.R_drewN | apply Kd.R_drew)); exact HO_11.out⟩, ⟨by repeat (first | (with_reducible first | exact HB.out | apply below_alloc | apply pw_below_drewN | apply below_drew1) | exact HB.out)⟩⟩
                                · replace c30 := Bool.eq_false_iff.mpr c30
                                  subst c30
                                  have H1 : (wayzgooseref03_best.l0 k2 l0 t1073 ((t1073.extract 0 1) ++ (rdOf ByteArray.empty t1074 x12_1)) true t1074 (wrap64 (x12_1 + 1))) = some (r1, r2) := by rw [if_neg (show ¬ (false = true) by decide)] at H; exact H
                                  clear H
                                  have H := H1
                                  clear H1
                                  have H' := Aside0.mk H
                                  clear H
                                  go_wp2
                                  repeat (go_quiet (fail); try go_wp2)
                                  go_roundg k2
                                  case measure => have := HK1.out; have := HK2.out; omega
                                  case rel => exact ⟨(((t1073.extract 0 1) ++ (rdOf ByteArray.empty t1074 x12_1))), (true), (wrap64 (x12_1 + 1)), (by first | rfl | (simp; done) | (simp [*]; done)), (by first | rfl | (simp; done) | (simp [*]; done)), (by first | rfl | (simp; done) | (simp [*]; done)), H', ⟨by have := HK1.out; have := HK2.out; omega⟩, ⟨by (with_reducible repeat (first | apply Kd.R_alloc | apply Kd.R_drewN | apply Kd.R_drew)); exact HO_11.out⟩, ⟨by repeat (first | (with_reducible first | exact HB.out | apply below_alloc | apply pw_below_drewN | apply below_drew1) | exact HB.out)⟩⟩
                              · replace c29 := Bool.eq_false_iff.mpr c29
                                subst c29
                                have H1 : (wayzgooseref03_best.l0 k2 l0 t1073 x9_1 x10_1 t1074 (wrap64 (x12_1 + 1))) = some (r1, r2) := by rw [if_neg (show ¬ (false = true) by decide)] at H; exact H
                                clear H
                                have H := H1
                                clear H1
                                have H' := Aside0.mk H
                                clear H
                                go_wp2
                                repeat (go_quiet (fail); try go_wp2)
                                go_roundg k2
                                case measure => have := HK1.out; have := HK2.out; omega
                                case rel => exact ⟨(x9_1), (x10_1), (wrap64 (x12_1 + 1)), (by first | rfl | (simp; done) | (simp [*]; done)), (by first | rfl | (simp; done) | (simp [*]; done)), (by first | rfl | (simp; done) | (simp [*]; done)), H', ⟨by have := HK1.out; have := HK2.out; omega⟩, ⟨by (with_reducible repeat (first | apply Kd.R_alloc | apply Kd.R_drewN | apply Kd.R_drew)); exact HO_11.out⟩, ⟨by repeat (first | (with_reducible first | exact HB.out | apply below_alloc | apply pw_below_drewN | apply below_drew1) | exact HB.out)⟩⟩
                      · rw [if_neg c17] at H
                        exact absurd H (by simp)
                    · rw [if_neg c16] at H
                      exact absurd H (by simp)
                  · rw [if_neg c15] at H
                    exact absurd H (by simp)
                · rw [if_neg c14] at H
                  exact absurd H (by simp)
              · rw [if_neg c13] at H
                have c13b0 : decide (x12_1 < (t1074.length : Int)) = false := decide_eq_false c13
                clear c13
                by_cases c32 : x9_1.size + 1 ≤ 9223372036854775807
                · rw [if_pos c32] at H
                  have c32b0 := eq_true c32
                  have c32b1 : decide (x9_1.size + 1 ≤ 9223372036854775807) = true := decide_eq_true c32
                  try have c32b2 : (9223372036854775807 < x9_1.size + 1) = False := eq_false (Nat.not_lt.2 c32)
                  simp only [Option.some.injEq, Prod.mk.injEq] at H
                  obtain ⟨rfl, rfl⟩ := H
                  obtain ⟨Ao33, co33, eo33⟩ := Kd.R_slice HO_11.out
                  subst eo33
                  go_wp2
                  repeat (go_quiet (fail); try go_wp2)
                  go_ret2
                  exact ⟨by first | rfl | (simp [errW_none, errW_some] <;> rfl) | (simp [*, errW_none, errW_some] <;> rfl), by repeat (first | (with_reducible first | exact HB.out | apply below_alloc | apply pw_below_drewN | apply below_drew1) | exact HB.out)⟩
                · rw [if_neg c32] at H
                  exact absurd H (by simp)
        · rw [if_neg c9] at H
          exact absurd H (by simp)
    · rw [if_neg c5] at H
      exact absurd H (by simp)
  · rw [if_neg c4] at H
    exact absurd H (by simp)

mutual
def wayzgooseref03_Shortest.j0 : Nat → List ByteArray → Int → Bool → Option (ByteArray × Int)
  | 0, _, _, _ => none
  | k + 1, x0, x1, x22 => if x22 = true then (some ((⟨#[]⟩ : ByteArray), 3)) else (wayzgooseref03_Shortest.l0 k x0 x1 1)
def wayzgooseref03_Shortest.l0 : Nat → List ByteArray → Int → Int → Option (ByteArray × Int)
  | 0, _, _, _ => none
  | k + 1, x0, x1, x7 => if x7 ≤ 12 then ((wayzgooseref03_best.f k x0 x1 x7).bind fun bt1084 => (if bt1084.2 = true then (some (bt1084.1, 0)) else (wayzgooseref03_Shortest.l0 k x0 x1 (wrap64 (x7 + 1))))) else (some ((⟨#[]⟩ : ByteArray), 11))
end
def wayzgooseref03_Shortest.f (k : Nat) (l0 : List ByteArray) (a1 : Int) : Option (ByteArray × Int) := (wayzgooseref03_checkList.f k l0).bind fun t1083 => (if t1083 = 0 then (if a1 < 0 then (wayzgooseref03_Shortest.j0 k l0 a1 true) else (wayzgooseref03_Shortest.j0 k l0 a1 (decide (a1 ≥ (l0.length : Int))))) else (some ((⟨#[]⟩ : ByteArray), t1083)))
set_option maxHeartbeats 8000000 in
set_option maxRecDepth 100000 in
theorem wayzgooseref03_Shortest.calls (k : Nat) (A0 : Option Addr) (c0 : Nat) (l0 : List ByteArray) (a1 : Int) (r1 : ByteArray) (r2 : Int) (w : World) (hr0 : Kd.C Kd.string w A0 l0.length l0) (hc0 : l0.length ≤ c0) (h : wayzgooseref03_Shortest.f k l0 a1 = some (r1, r2)) :
    Calls Tryz.prog 30 #[.slice A0 l0.length c0, .int .i64 a1] w fun e w' => e = .returned (.tuple #[.string r1, .int .i64 r2]) ∧ Below w.heap.size w w' := by
  have HR0 := Aside0.mk hr0
  have HC0 := Aside0.mk hc0
  clear hr0 hc0
  have HB := Aside0.mk (Below.refl w.heap.size w)
  have H : ((wayzgooseref03_checkList.f k l0).bind fun t1083 => (if t1083 = 0 then (if a1 < 0 then (wayzgooseref03_Shortest.j0 k l0 a1 true) else (wayzgooseref03_Shortest.j0 k l0 a1 (decide (a1 ≥ (l0.length : Int))))) else (some ((⟨#[]⟩ : ByteArray), t1083)))) = some (r1, r2) := h
  clear h
  replace H := Option.bind_eq_some_iff.mp H
  obtain ⟨t1083, A30, H⟩ := H
  replace H : (if t1083 = 0 then (if a1 < 0 then (wayzgooseref03_Shortest.j0 k l0 a1 true) else (wayzgooseref03_Shortest.j0 k l0 a1 (decide (a1 ≥ (l0.length : Int))))) else (some ((⟨#[]⟩ : ByteArray), t1083))) = some (r1, r2) := H
  have A3 := Aside0.mk A30
  clear A30
  by_cases c4 : t1083 = 0
  · rw [if_pos c4] at H
    have c4b0 : (t1083 == 0) = true := beq_iff_eq.mpr c4
    have c4b1 : (t1083 != 0) = false := bne_eq_false_iff_eq.mpr c4
    clear c4
    have HC5 := Aside0.mk H
    clear H
    go_enter Tryz.func30, Tryz.ntmps30
    go_upto_region 4 with (first | ((with_reducible refine gate_callee (f := 81) rfl ?_); refine goesL_ (some 11) rfl rfl Tryz.func81 (by kernel_rfl) rfl #[.slice A0 l0.length c0] rfl (by (try simp only [List.map_toArray, List.map_cons, List.map_nil]); first | done | rfl | (simp only [List.length_drop, List.length_take]; rfl)) ?_; (with_reducible refine (wayzgooseref03_checkList.calls k _ _ l0 t1083 _ ?side1 ?side2 A3.out).mono ?_); (case side1 => repeat (first | exact HR0.out | (with_reducible refine Kd.C_alloc ?_ _) | (with_reducible refine Kd.C_drewN ?_ _) | (with_reducible refine Kd.C_drew ?_))); (case side2 => exact HC0.out); rintro e w6 ⟨rfl, hb⟩; refine ⟨_, rfl, ?_⟩; have n0_ := Aside0.mk (below_step (by repeat (first | (with_reducible first | exact HB.out | apply below_alloc | apply pw_below_drewN | apply below_drew1) | exact HB.out)) hb); clear HB; have HB := n0_; clear n0_; (try clear hb); (try clear hb2); (try clear hk); (try clear hi)))
    (try simp only [Act.put, List.setIfInBounds_toArray, List.set_cons_zero, List.set_cons_succ])
    go_cut [22] (fun v22 wc => ∃ (kq : Nat) (x22_4 : Bool), v22 = .bool x22_4 ∧ Aside0 (wayzgooseref03_Shortest.j0 kq l0 a1 x22_4 = some (r1, r2)) ∧ Aside0 (kq ≤ k) ∧ Aside0 (Below w.heap.size w wc))
    case first =>
      have H := HC5.out
      clear HC5
      by_cases c7 : a1 < 0
      · rw [if_pos c7] at H
        have c7b0 : decide (a1 < 0) = true := decide_eq_true c7
        clear c7
        (first | rw [c7b0] | (simp only [i64_w, i32_w]; rw [c7b0]) | skip)
        have H' := Aside0.mk H
        clear H
        go_wp2
        go_meet
        case rel => exact ⟨_, (true), (by first | rfl | (simp; done) | (simp [*]; done)), H', ⟨by first | omega | exact Nat.le_refl _⟩, ⟨by repeat (first | (with_reducible first | exact HB.out | apply below_alloc | apply pw_below_drewN | apply below_drew1) | exact HB.out)⟩⟩
      · rw [if_neg c7] at H
        have c7b0 : decide (a1 < 0) = false := decide_eq_false c7
        clear c7
        (first | rw [c7b0] | (simp only [i64_w, i32_w]; rw [c7b0]) | skip)
        have H' := Aside0.mk H
        clear H
        go_wp2
        go_meet
        case rel => exact ⟨_, (decide (a1 ≥ (l0.length : Int))), (by first | rfl | (simp; done) | (simp [*]; done)), H', ⟨by first | omega | exact Nat.le_refl _⟩, ⟨by repeat (first | (with_reducible first | exact HB.out | apply below_alloc | apply pw_below_drewN | apply below_drew1) | exact HB.out)⟩⟩
    case rest =>
      clear HC5
      try clear p2
      try clear c3
      try clear c4
      try clear c4b0
      try clear c4b1
      try clear c7
      try clear c7b0
      obtain ⟨kq, x22_4, rfl, HA, HJ4, HB⟩ := hcut
      cases kq with
      | zero => exact absurd HA.out (by simp [wayzgooseref03_Shortest.j0])
      | succ kj4 =>
        have H := HA.out
        clear HA
        simp only [wayzgooseref03_Shortest.j0] at H
        by_cases c8 : x22_4 = true
        · subst c8
          have H1 : (some ((⟨#[]⟩ : ByteArray), 3)) = some (r1, r2) := by rw [if_pos rfl] at H; exact H
          clear H
          have H := H1
          clear H1
          simp only [Option.some.injEq, Prod.mk.injEq] at H
          obtain ⟨rfl, rfl⟩ := H
          go_wp2
          go_ret2
          exact ⟨by first | rfl | (simp [errW_none, errW_some] <;> rfl) | (simp [*, errW_none, errW_some] <;> rfl), by repeat (first | (with_reducible first | exact HB.out | apply below_alloc | apply pw_below_drewN | apply below_drew1) | exact HB.out)⟩
        · replace c8 := Bool.eq_false_iff.mpr c8
          subst c8
          have H1 : (wayzgooseref03_Shortest.l0 kj4 l0 a1 1) = some (r1, r2) := by rw [if_neg (show ¬ (false = true) by decide)] at H; exact H
          clear H
          have H := H1
          clear H1
          have H' := Aside0.mk H
          clear H
          go_wp2
          go_loopg [7] kj4 (fun kq v7 w' => ∃ (x7_2 : Int), v7 = .int .i64 x7_2 ∧ Aside0 (wayzgooseref03_Shortest.l0 kq l0 a1 x7_2 = some (r1, r2)) ∧ Aside0 (kq ≤ kj4) ∧ Aside0 (Below w.heap.size w w'))
          case atStart => exact ⟨(1), (by first | rfl | (simp; done) | (simp [*]; done)), H', ⟨Nat.le_refl _⟩, ⟨by repeat (first | (with_reducible first | exact HB.out | apply below_alloc | apply pw_below_drewN | apply below_drew1) | exact HB.out)⟩⟩
          case round =>
            clear H'
            try clear p2
            try clear c3
            try clear c4
            try clear c4b0
            try clear c4b1
            try clear c7
            try clear c7b0
            try clear c8
            try clear p2
            obtain ⟨x7_2, rfl, HA, HK2, HB⟩ := hrel
            cases gk with
            | zero => exact absurd HA.out (by simp [wayzgooseref03_Shortest.l0])
            | succ k2 =>
              have H := HA.out
              clear HA
              simp only [wayzgooseref03_Shortest.l0] at H
              by_cases c9 : x7_2 ≤ 12
              · rw [if_pos c9] at H
                have c9b0 : decide (x7_2 ≤ 12) = true := decide_eq_true c9
                clear c9
                replace H := Option.bind_eq_some_iff.mp H
                obtain ⟨⟨t1084, t1085⟩, A100, H⟩ := H
                replace H : (if t1085 = true then (some (t1084, 0)) else (wayzgooseref03_Shortest.l0 k2 l0 a1 (wrap64 (x7_2 + 1)))) = some (r1, r2) := H
                have A10 := Aside0.mk A100
                clear A100
                by_cases c11 : t1085 = true
                · subst c11
                  have H1 : (some (t1084, 0)) = some (r1, r2) := by rw [if_pos rfl] at H; exact H
                  clear H
                  have H := H1
                  clear H1
                  simp only [Option.some.injEq, Prod.mk.injEq] at H
                  obtain ⟨rfl, rfl⟩ := H
                  go_wp2_with (first | ((with_reducible refine gate_callee (f := 82) rfl ?_); refine goesL_ (some 31) rfl rfl Tryz.func82 (by kernel_rfl) rfl #[.slice A0 l0.length c0, .int .i64 a1, .int .i64 x7_2] rfl (by (try simp only [List.map_toArray, List.map_cons, List.map_nil]); first | done | rfl | (simp only [List.length_drop, List.length_take]; rfl)) ?_; (with_reducible refine (wayzgooseref03_best.calls k2 _ _ l0 a1 x7_2 t1084 true _ ?side1 ?side2 A10.out).mono ?_); (case side1 => repeat (first | exact (Kd.C_below HR0.out HB.out) | (with_reducible refine Kd.C_alloc ?_ _) | (with_reducible refine Kd.C_drewN ?_ _) | (with_reducible refine Kd.C_drew ?_))); (case side2 => exact HC0.out); rintro e w12 ⟨rfl, hb⟩; refine ⟨_, rfl, ?_⟩; have n0_ := Aside0.mk (below_step (by repeat (first | (with_reducible first | exact HB.out | apply below_alloc | apply pw_below_drewN | apply below_drew1) | exact HB.out)) hb); clear HB; have HB := n0_; clear n0_; (try clear hb); (try clear hb2); (try clear hk); (try clear hi)))
                  go_ret2
                  exact ⟨by first | rfl | (simp [errW_none, errW_some] <;> rfl) | (simp [*, errW_none, errW_some] <;> rfl), by repeat (first | (with_reducible first | exact HB.out | apply below_alloc | apply pw_below_drewN | apply below_drew1) | exact HB.out)⟩
                · replace c11 := Bool.eq_false_iff.mpr c11
                  subst c11
                  have H1 : (wayzgooseref03_Shortest.l0 k2 l0 a1 (wrap64 (x7_2 + 1))) = some (r1, r2) := by rw [if_neg (show ¬ (false = true) by decide)] at H; exact H
                  clear H
                  have H := H1
                  clear H1
                  have H' := Aside0.mk H
                  clear H
                  go_wp2_with (first | ((with_reducible refine gate_callee (f := 82) rfl ?_); refine goesL_ (some 31) rfl rfl Tryz.func82 (by kernel_rfl) rfl #[.slice A0 l0.length c0, .int .i64 a1, .int .i64 x7_2] rfl (by (try simp only [List.map_toArray, List.map_cons, List.map_nil]); first | done | rfl | (simp only [List.length_drop, List.length_take]; rfl)) ?_; (with_reducible refine (wayzgooseref03_best.calls k2 _ _ l0 a1 x7_2 t1084 false _ ?side1 ?side2 A10.out).mono ?_); (case side1 => repeat (first | exact (Kd.C_below HR0.out HB.out) | (with_reducible refine Kd.C_alloc ?_ _) | (with_reducible refine Kd.C_drewN ?_ _) | (with_reducible refine Kd.C_drew ?_))); (case side2 => exact HC0.out); rintro e w13 ⟨rfl, hb⟩; refine ⟨_, rfl, ?_⟩; have n0_ := Aside0.mk (below_step (by repeat (first | (with_reducible first | exact HB.out | apply below_alloc | apply pw_below_drewN | apply below_drew1) | exact HB.out)) hb); clear HB; have HB := n0_; clear n0_; (try clear hb); (try clear hb2); (try clear hk); (try clear hi)))
                  go_roundg k2
                  case measure => have := HJ4.out; have := HK2.out; omega
                  case rel => exact ⟨(wrap64 (x7_2 + 1)), (by first | rfl | (simp; done) | (simp [*]; done)), H', ⟨by have := HJ4.out; have := HK2.out; omega⟩, ⟨by repeat (first | (with_reducible first | exact HB.out | apply below_alloc | apply pw_below_drewN | apply below_drew1) | exact HB.out)⟩⟩
              · rw [if_neg c9] at H
                have c9b0 : decide (x7_2 ≤ 12) = false := decide_eq_false c9
                clear c9
                simp only [Option.some.injEq, Prod.mk.injEq] at H
                obtain ⟨rfl, rfl⟩ := H
                go_wp2
                go_ret2
                exact ⟨by first | rfl | (simp [errW_none, errW_some] <;> rfl) | (simp [*, errW_none, errW_some] <;> rfl), by repeat (first | (with_reducible first | exact HB.out | apply below_alloc | apply pw_below_drewN | apply below_drew1) | exact HB.out)⟩
  · rw [if_neg c4] at H
    have c4b0 : (t1083 == 0) = false := beq_eq_false_iff_ne.mpr c4
    have c4b1 : (t1083 != 0) = true := bne_iff_ne.mpr c4
    simp only [Option.some.injEq, Prod.mk.injEq] at H
    obtain ⟨rfl, rfl⟩ := H
    go_enter Tryz.func30, Tryz.ntmps30
    go_wp2_with (first | ((with_reducible refine gate_callee (f := 81) rfl ?_); refine goesL_ (some 11) rfl rfl Tryz.func81 (by kernel_rfl) rfl #[.slice A0 l0.length c0] rfl (by (try simp only [List.map_toArray, List.map_cons, List.map_nil]); first | done | rfl | (simp only [List.length_drop, List.length_take]; rfl)) ?_; (with_reducible refine (wayzgooseref03_checkList.calls k _ _ l0 t1083 _ ?side1 ?side2 A3.out).mono ?_); (case side1 => repeat (first | exact HR0.out | (with_reducible refine Kd.C_alloc ?_ _) | (with_reducible refine Kd.C_drewN ?_ _) | (with_reducible refine Kd.C_drew ?_))); (case side2 => exact HC0.out); rintro e w14 ⟨rfl, hb⟩; refine ⟨_, rfl, ?_⟩; have n0_ := Aside0.mk (below_step (by repeat (first | (with_reducible first | exact HB.out | apply below_alloc | apply pw_below_drewN | apply below_drew1) | exact HB.out)) hb); clear HB; have HB := n0_; clear n0_; (try clear hb); (try clear hb2); (try clear hk); (try clear hi)))
    go_ret2
    exact ⟨by first | rfl | (simp [errW_none, errW_some] <;> rfl) | (simp [*, errW_none, errW_some] <;> rfl), by repeat (first | (with_reducible first | exact HB.out | apply below_alloc | apply pw_below_drewN | apply below_drew1) | exact HB.out)⟩

end Go.Proofs.YtapikimhmjnjeaaGreatDoor.Pr

