/- A text of the claim. -/
import Derived.Test.YtapikimhmjnjeaaGreatDoorPr0
import Derived.Test.YtapikimhmjnjeaaGreatDoorPrExtOth
import Derived.Test.YtapikimhmjnjeaaGreatDoorPr13
import Derived.Test.YtapikimhmjnjeaaGreatDoorPr14
namespace Go.Proofs.YtapikimhmjnjeaaGreatDoor.Pr
open Go.RowKit Go.Proofs.YtapikimhmjnjeaaGreatDoorW.PrintWords Go.Proofs.YtapikimhmjnjeaaGreatDoorW.PrintLast Go.Proofs.YtapikimhmjnjeaaGreatDoorW.PrintMore
attribute [local go_sem] max2_int min2_int max_two min_two max_three min_three max_four min_four   -- for this text's walks alone
set_option linter.unusedVariables false
set_option linter.unusedSimpArgs false

mutual
def wayzgooselaw03_long.l0 : Nat → List (S83) → List ByteArray → Int → Option (Bool)
  | 0, _, _, _ => none
  | k + 1, x0, x1, x5 => if x5 < (x1.length : Int) then (if 0 ≤ x5 then (if ((rdOf ByteArray.empty x1 x5).size : Int) > 20 then (some true) else (wayzgooselaw03_long.l0 k x0 x1 (wrap64 (x5 + 1)))) else (none)) else (wayzgooselaw03_long.l1 k x0 x1 0)
def wayzgooselaw03_long.l1 : Nat → List (S83) → List ByteArray → Int → Option (Bool)
  | 0, _, _, _ => none
  | k + 1, x0, x1, x6 => if x6 < (x0.length : Int) then (if 0 ≤ x6 then (if (wrap64 ((((rd_T83 x0 x6).f0).size : Int) + (((rd_T83 x0 x6).f1).size : Int))) > 20 then (some true) else (wayzgooselaw03_long.l1 k x0 x1 (wrap64 (x6 + 1)))) else (none)) else (if (x1.length : Int) > 20 then (some true) else (some (decide ((x0.length : Int) > 20))))
end
def wayzgooselaw03_long.f (k : Nat) (l0 : List (S83)) (l1 : List ByteArray) : Option (Bool) := wayzgooselaw03_long.l0 k l0 l1 0
set_option maxHeartbeats 8000000 in
set_option maxRecDepth 100000 in
theorem wayzgooselaw03_long.calls (k : Nat) (A0 : Option Addr) (c0 : Nat) (l0 : List (S83)) (A1 : Option Addr) (c1 : Nat) (l1 : List ByteArray) (r : Bool) (w : World) (hr0 : Kd.C k83 w A0 l0.length l0) (hc0 : l0.length ≤ c0) (hr1 : Kd.C Kd.string w A1 l1.length l1) (hc1 : l1.length ≤ c1) (h : wayzgooselaw03_long.f k l0 l1 = some r) :
    Calls Tryz.prog 21 #[.slice A0 l0.length c0, .slice A1 l1.length c1] w fun e w' => e = .returned (.bool r) ∧ Drawn0 w w' := by
  have HR0 := Aside0.mk hr0
  have HC0 := Aside0.mk hc0
  clear hr0 hc0
  have HR1 := Aside0.mk hr1
  have HC1 := Aside0.mk hc1
  clear hr1 hc1
  have H : (wayzgooselaw03_long.l0 k l0 l1 0) = some r := h
  clear h
  have H' := Aside0.mk H
  clear H
  go_enter Tryz.func21, Tryz.ntmps21
  go_wp2
  repeat (go_quiet (fail); try go_wp2)
  go_loopg [5] k (fun kq v5 w' => ∃ (x5_1 : Int), v5 = .int .i64 x5_1 ∧ Aside0 (wayzgooselaw03_long.l0 kq l0 l1 x5_1 = some r) ∧ Aside0 (kq ≤ k) ∧ Drawn0 w w')
  case atStart => exact ⟨(0), (by first | rfl | (simp; done) | (simp [*]; done)), H', ⟨Nat.le_refl _⟩, by repeat (first | exact Drawn0.refl _ | apply Drawn0.step)⟩
  case round =>
    clear H'
    try clear c1
    try clear c2
    try clear p2
    obtain ⟨x5_1, rfl, HA, HK1, ⟨m1, rfl⟩⟩ := hrel
    cases gk with
    | zero => exact absurd HA.out (by simp [wayzgooselaw03_long.l0])
    | succ k1 =>
      have H := HA.out
      clear HA
      simp only [wayzgooselaw03_long.l0] at H
      by_cases c3 : x5_1 < (l1.length : Int)
      · rw [if_pos c3] at H
        have c3b0 : decide (x5_1 < (l1.length : Int)) = true := decide_eq_true c3
        clear c3
        by_cases c4 : 0 ≤ x5_1
        · rw [if_pos c4] at H
          have c4b0 : decide (0 ≤ x5_1) = true := decide_eq_true c4
          clear c4
          by_cases c5 : ((rdOf ByteArray.empty l1 x5_1).size : Int) > 20
          · rw [if_pos c5] at H
            have c5b0 : decide (20 < ((rdOf ByteArray.empty l1 x5_1).size : Int)) = true := decide_eq_true c5
            have c5b1 : decide (20 < (rdOf ByteArray.empty l1 x5_1).size) = true := decide_eq_true (by omega)
            clear c5
            obtain rfl := Option.some.inj H
            have p816 : 0 ≤ (x5_1 : Int) := of_decide_eq_true (by first | (with_reducible assumption) | assumption)
            have q816 : x5_1 < (l1.length : Int) := of_decide_eq_true (by first | (with_reducible assumption) | assumption)
            obtain ⟨ad816, e816, hx816_0⟩ := Kd.at_string HR1.out x5_1 p816 q816
            cases e816
            replace p816 := eq_true p816
            replace q816 := eq_true q816
            go_wp2
            repeat (go_quiet (fail); try go_wp2)
            go_ret
            exact ⟨by first | rfl | (simp; done) | (simp [*]; done), by repeat (first | exact Drawn0.refl _ | apply Drawn0.step)⟩
          · rw [if_neg c5] at H
            have c5b0 : decide (20 < ((rdOf ByteArray.empty l1 x5_1).size : Int)) = false := decide_eq_false c5
            have c5b1 : decide (20 < (rdOf ByteArray.empty l1 x5_1).size) = false := decide_eq_false (by omega)
            clear c5
            have H' := Aside0.mk H
            clear H
            have p816 : 0 ≤ (x5_1 : Int) := of_decide_eq_true (by first | (with_reducible assumption) | assumption)
            have q816 : x5_1 < (l1.length : Int) := of_decide_eq_true (by first | (with_reducible assumption) | assumption)
            obtain ⟨ad816, e816, hx816_0⟩ := Kd.at_string HR1.out x5_1 p816 q816
            cases e816
            replace p816 := eq_true p816
            replace q816 := eq_true q816
            go_wp2
            repeat (go_quiet (fail); try go_wp2)
            go_roundg k1
            case measure => have := HK1.out; omega
            case rel => exact ⟨(wrap64 (x5_1 + 1)), (by first | rfl | (simp; done) | (simp [*]; done)), H', ⟨by have := HK1.out; omega⟩, by repeat (first | exact Drawn0.refl _ | apply Drawn0.step)⟩
        · rw [if_neg c4] at H
          exact absurd H (by simp)
      · rw [if_neg c3] at H
        have c3b0 : decide (x5_1 < (l1.length : Int)) = false := decide_eq_false c3
        clear c3
        have H' := Aside0.mk H
        clear H
        go_wp2
        repeat (go_quiet (fail); try go_wp2)
        go_loopg [6] k1 (fun kq v6 w' => ∃ (x6_2 : Int), v6 = .int .i64 x6_2 ∧ Aside0 (wayzgooselaw03_long.l1 kq l0 l1 x6_2 = some r) ∧ Aside0 (kq ≤ k1) ∧ Drawn0 w w')
        case atStart => exact ⟨(0), (by first | rfl | (simp; done) | (simp [*]; done)), H', ⟨Nat.le_refl _⟩, by repeat (first | exact Drawn0.refl _ | apply Drawn0.step)⟩
        case round =>
          clear H'
          try clear c1
          try clear c2
          try clear p2
          try clear c3
          try clear c3b0
          try clear c4
          try clear c4b0
          try clear c5
          try clear c5b0
          try clear c5b1
          try clear hx816_0
          try clear p2
          try clear p816
          try clear q816
          obtain ⟨x6_2, rfl, HA, HK2, ⟨m2, rfl⟩⟩ := hrel
          cases gk with
          | zero => exact absurd HA.out (by simp [wayzgooselaw03_long.l1])
          | succ k2 =>
            have H := HA.out
            clear HA
            simp only [wayzgooselaw03_long.l1] at H
            by_cases c6 : x6_2 < (l0.length : Int)
            · rw [if_pos c6] at H
              have c6b0 : decide (x6_2 < (l0.length : Int)) = true := decide_eq_true c6
              clear c6
              by_cases c7 : 0 ≤ x6_2
              · rw [if_pos c7] at H
                have c7b0 : decide (0 ≤ x6_2) = true := decide_eq_true c7
                clear c7
                by_cases c8 : (wrap64 ((((rd_T83 l0 x6_2).f0).size : Int) + (((rd_T83 l0 x6_2).f1).size : Int))) > 20
                · rw [if_pos c8] at H
                  have c8b0 : decide (20 < (wrap64 ((((rd_T83 l0 x6_2).f0).size : Int) + (((rd_T83 l0 x6_2).f1).size : Int)))) = true := decide_eq_true c8
                  clear c8
                  obtain rfl := Option.some.inj H
                  have p817 : 0 ≤ (x6_2 : Int) := of_decide_eq_true (by first | (with_reducible assumption) | assumption)
                  have q817 : x6_2 < (l0.length : Int) := of_decide_eq_true (by first | (with_reducible assumption) | assumption)
                  obtain ⟨ad817, e817, hx817_0, hx817_1⟩ := at_T83 HR0.out x6_2 p817 q817
                  cases e817
                  replace p817 := eq_true p817
                  replace q817 := eq_true q817
                  have p818 : 0 ≤ (x6_2 : Int) := of_decide_eq_true (by first | (with_reducible assumption) | assumption)
                  have q818 : x6_2 < (l0.length : Int) := of_decide_eq_true (by first | (with_reducible assumption) | assumption)
                  obtain ⟨ad818, e818, hx818_0, hx818_1⟩ := at_T83 HR0.out x6_2 p818 q818
                  obtain rfl : ad817 = ad818 := (by injection e818)
                  replace p818 := eq_true p818
                  replace q818 := eq_true q818
                  go_wp2
                  repeat (go_quiet (fail); try go_wp2)
                  go_ret
                  exact ⟨by first | rfl | (simp; done) | (simp [*]; done), by repeat (first | exact Drawn0.refl _ | apply Drawn0.step)⟩
                · rw [if_neg c8] at H
                  have c8b0 : decide (20 < (wrap64 ((((rd_T83 l0 x6_2).f0).size : Int) + (((rd_T83 l0 x6_2).f1).size : Int)))) = false := decide_eq_false c8
                  clear c8
                  have H' := Aside0.mk H
                  clear H
                  have p817 : 0 ≤ (x6_2 : Int) := of_decide_eq_true (by first | (with_reducible assumption) | assumption)
                  have q817 : x6_2 < (l0.length : Int) := of_decide_eq_true (by first | (with_reducible assumption) | assumption)
                  obtain ⟨ad817, e817, hx817_0, hx817_1⟩ := at_T83 HR0.out x6_2 p817 q817
                  cases e817
                  replace p817 := eq_true p817
                  replace q817 := eq_true q817
                  have p818 : 0 ≤ (x6_2 : Int) := of_decide_eq_true (by first | (with_reducible assumption) | assumption)
                  have q818 : x6_2 < (l0.length : Int) := of_decide_eq_true (by first | (with_reducible assumption) | assumption)
                  obtain ⟨ad818, e818, hx818_0, hx818_1⟩ := at_T83 HR0.out x6_2 p818 q818
                  obtain rfl : ad817 = ad818 := (by injection e818)
                  replace p818 := eq_true p818
                  replace q818 := eq_true q818
                  go_wp2
                  repeat (go_quiet (fail); try go_wp2)
                  go_roundg k2
                  case measure => have := HK1.out; have := HK2.out; omega
                  case rel => exact ⟨(wrap64 (x6_2 + 1)), (by first | rfl | (simp; done) | (simp [*]; done)), H', ⟨by have := HK1.out; have := HK2.out; omega⟩, by repeat (first | exact Drawn0.refl _ | apply Drawn0.step)⟩
              · rw [if_neg c7] at H
                exact absurd H (by simp)
            · rw [if_neg c6] at H
              have c6b0 : decide (x6_2 < (l0.length : Int)) = false := decide_eq_false c6
              clear c6
              by_cases c9 : (l1.length : Int) > 20
              · rw [if_pos c9] at H
                have c9b0 : decide (20 < (l1.length : Int)) = true := decide_eq_true c9
                have c9b1 : decide (20 < l1.length) = true := decide_eq_true (by omega)
                clear c9
                obtain rfl := Option.some.inj H
                go_wp2
                repeat (go_quiet (fail); try go_wp2)
                go_ret
                exact ⟨by first | rfl | (simp; done) | (simp [*]; done), by repeat (first | exact Drawn0.refl _ | apply Drawn0.step)⟩
              · rw [if_neg c9] at H
                have c9b0 : decide (20 < (l1.length : Int)) = false := decide_eq_false c9
                have c9b1 : decide (20 < l1.length) = false := decide_eq_false (by omega)
                clear c9
                obtain rfl := Option.some.inj H
                go_wp2
                repeat (go_quiet (fail); try go_wp2)
                go_ret
                exact ⟨by first | rfl | (simp; done) | (simp [*]; done), by repeat (first | exact Drawn0.refl _ | apply Drawn0.step)⟩

def wayzgooseref03_Other.f (k : Nat) (a0 : ByteArray) : Option (ByteArray × Int) := (wayzgooseref03_Check.f k a0).bind fun t819 => (if t819 = 0 then ((wayzgooseref03_key.f k a0).bind fun t820 => ((wayzgooseref03_others.f t820).bind fun t821 => (if (t821.length : Int) = 0 then (some ((⟨#[]⟩ : ByteArray), 11)) else (if 0 < (t821.length : Int) then (some (rdOf ByteArray.empty t821 0, 0)) else (none))))) else (some ((⟨#[]⟩ : ByteArray), t819)))
set_option maxHeartbeats 8000000 in
set_option maxRecDepth 100000 in
theorem wayzgooseref03_Other.calls (k : Nat) (a0 : ByteArray) (r1 : ByteArray) (r2 : Int) (w : World) (h : wayzgooseref03_Other.f k a0 = some (r1, r2)) :
    Calls Tryz.prog 43 #[.string a0] w fun e w' => e = .returned (.tuple #[.string r1, .int .i64 r2]) ∧ Below w.heap.size w w' := by
  have HB := Aside0.mk (Below.refl w.heap.size w)
  have H : ((wayzgooseref03_Check.f k a0).bind fun t819 => (if t819 = 0 then ((wayzgooseref03_key.f k a0).bind fun t820 => ((wayzgooseref03_others.f t820).bind fun t821 => (if (t821.length : Int) = 0 then (some ((⟨#[]⟩ : ByteArray), 11)) else (if 0 < (t821.length : Int) then (some (rdOf ByteArray.empty t821 0, 0)) else (none))))) else (some ((⟨#[]⟩ : ByteArray), t819)))) = some (r1, r2) := h
  clear h
  replace H := Option.bind_eq_some_iff.mp H
  obtain ⟨t819, A20, H⟩ := H
  replace H : (if t819 = 0 then ((wayzgooseref03_key.f k a0).bind fun t820 => ((wayzgooseref03_others.f t820).bind fun t821 => (if (t821.length : Int) = 0 then (some ((⟨#[]⟩ : ByteArray), 11)) else (if 0 < (t821.length : Int) then (some (rdOf ByteArray.empty t821 0, 0)) else (none))))) else (some ((⟨#[]⟩ : ByteArray), t819))) = some (r1, r2) := H
  have A2 := Aside0.mk A20
  clear A20
  by_cases c3 : t819 = 0
  · rw [if_pos c3] at H
    have c3b0 : (t819 == 0) = true := beq_iff_eq.mpr c3
    have c3b1 : (t819 != 0) = false := bne_eq_false_iff_eq.mpr c3
    clear c3
    replace H := Option.bind_eq_some_iff.mp H
    obtain ⟨t820, A40, H⟩ := H
    replace H : ((wayzgooseref03_others.f t820).bind fun t821 => (if (t821.length : Int) = 0 then (some ((⟨#[]⟩ : ByteArray), 11)) else (if 0 < (t821.length : Int) then (some (rdOf ByteArray.empty t821 0, 0)) else (none)))) = some (r1, r2) := H
    have A4 := Aside0.mk A40
    clear A40
    replace H := Option.bind_eq_some_iff.mp H
    obtain ⟨t821, A50, H⟩ := H
    replace H : (if (t821.length : Int) = 0 then (some ((⟨#[]⟩ : ByteArray), 11)) else (if 0 < (t821.length : Int) then (some (rdOf ByteArray.empty t821 0, 0)) else (none))) = some (r1, r2) := H
    have A5 := Aside0.mk A50
    clear A50
    by_cases c6 : (t821.length : Int) = 0
    · rw [if_pos c6] at H
      have c6b0 : ((t821.length : Int) == 0) = true := beq_iff_eq.mpr c6
      have c6b1 : ((t821.length : Int) != 0) = false := bne_eq_false_iff_eq.mpr c6
      clear c6
      simp only [Option.some.injEq, Prod.mk.injEq] at H
      obtain ⟨rfl, rfl⟩ := H
      go_enter Tryz.func43, Tryz.ntmps43
      go_wp2_with (first | ((with_reducible refine gate_callee (f := 45) rfl ?_); refine goesL_ (some 7) rfl rfl Tryz.func45 (by kernel_rfl) rfl #[.string a0] rfl (by (try simp only [List.map_toArray, List.map_cons, List.map_nil]); first | done | rfl | (simp only [List.length_drop, List.length_take]; rfl)) ?_; (with_reducible refine (wayzgooseref03_Check.calls k a0 t819 _ A2.out).mono ?_); rintro e w7 ⟨rfl, hb⟩; refine ⟨_, rfl, ?_⟩; have n0_ := Aside0.mk (below_step (by repeat (first | (with_reducible first | exact HB.out | apply below_alloc | apply pw_below_drewN | apply below_drew1) | exact HB.out)) hb); clear HB; have HB := n0_; clear n0_; (try clear hb); (try clear hb2); (try clear hk); (try clear hi)) | ((with_reducible refine gate_callee (f := 84) rfl ?_); refine goesL_ (some 12) rfl rfl Tryz.func84 (by kernel_rfl) rfl #[.string a0] rfl (by (try simp only [List.map_toArray, List.map_cons, List.map_nil]); first | done | rfl | (simp only [List.length_drop, List.length_take]; rfl)) ?_; (with_reducible refine (wayzgooseref03_key.calls k a0 t820 _ A4.out).mono ?_); rintro e w8 ⟨rfl, hb⟩; refine ⟨_, rfl, ?_⟩; have n0_ := Aside0.mk (below_step (by repeat (first | (with_reducible first | exact HB.out | apply below_alloc | apply pw_below_drewN | apply below_drew1) | exact HB.out)) hb); clear HB; have HB := n0_; clear n0_; (try clear hb); (try clear hb2); (try clear hk); (try clear hi)) | ((with_reducible refine gate_callee (f := 91) rfl ?_); refine goesL_ (some 13) rfl rfl Tryz.func91 (by kernel_rfl) rfl #[.string t820] rfl (by (try simp only [List.map_toArray, List.map_cons, List.map_nil]); first | done | rfl | (simp only [List.length_drop, List.length_take]; rfl)) ?_; (with_reducible refine (wayzgooseref03_others.calls t820 t821 _ A5.out).mono ?_); rintro e w9 ⟨v822, rfl, ho0, hb⟩; refine ⟨_, rfl, ?_⟩; have n0_ := Aside0.mk (Kd.R_lower ho0 (below_size (by repeat (first | (with_reducible first | exact HB.out | apply below_alloc | apply pw_below_drewN | apply below_drew1) | exact HB.out)))); have n1_ := Aside0.mk (below_step (by repeat (first | (with_reducible first | exact HB.out | apply below_alloc | apply pw_below_drewN | apply below_drew1) | exact HB.out)) hb); clear HB; have HO823 := n0_; have HB := n1_; clear n0_ n1_; (try clear hb); (try clear hb2); (try clear hk); (try clear hi); (try clear ho0); obtain ⟨Ao10, co10, eo10⟩ := Kd.R_slice HO823.out; subst eo10))
      go_ret2
      exact ⟨by first | rfl | (simp [errW_none, errW_some] <;> rfl) | (simp [*, errW_none, errW_some] <;> rfl), by repeat (first | (with_reducible first | exact HB.out | apply below_alloc | apply pw_below_drewN | apply below_drew1) | exact HB.out)⟩
    · rw [if_neg c6] at H
      have c6b0 : ((t821.length : Int) == 0) = false := beq_eq_false_iff_ne.mpr c6
      have c6b1 : ((t821.length : Int) != 0) = true := bne_iff_ne.mpr c6
      have c6b2 : ¬ (t821 = []) := fun h_ => c6 (by rw [h_]; rfl)
      by_cases c11 : 0 < (t821.length : Int)
      · rw [if_pos c11] at H
        have c11b0 : decide (0 < (t821.length : Int)) = true := decide_eq_true c11
        have c11b1 : decide (0 < t821.length) = true := decide_eq_true (by omega)
        clear c11
        simp only [Option.some.injEq, Prod.mk.injEq] at H
        obtain ⟨rfl, rfl⟩ := H
        go_enter Tryz.func43, Tryz.ntmps43
        go_wp2_with (first | ((with_reducible refine gate_callee (f := 45) rfl ?_); refine goesL_ (some 7) rfl rfl Tryz.func45 (by kernel_rfl) rfl #[.string a0] rfl (by (try simp only [List.map_toArray, List.map_cons, List.map_nil]); first | done | rfl | (simp only [List.length_drop, List.length_take]; rfl)) ?_; (with_reducible refine (wayzgooseref03_Check.calls k a0 t819 _ A2.out).mono ?_); rintro e w12 ⟨rfl, hb⟩; refine ⟨_, rfl, ?_⟩; have n0_ := Aside0.mk (below_step (by repeat (first | (with_reducible first | exact HB.out | apply below_alloc | apply pw_below_drewN | apply below_drew1) | exact HB.out)) hb); clear HB; have HB := n0_; clear n0_; (try clear hb); (try clear hb2); (try clear hk); (try clear hi)) | ((with_reducible refine gate_callee (f := 84) rfl ?_); refine goesL_ (some 12) rfl rfl Tryz.func84 (by kernel_rfl) rfl #[.string a0] rfl (by (try simp only [List.map_toArray, List.map_cons, List.map_nil]); first | done | rfl | (simp only [List.length_drop, List.length_take]; rfl)) ?_; (with_reducible refine (wayzgooseref03_key.calls k a0 t820 _ A4.out).mono ?_); rintro e w13 ⟨rfl, hb⟩; refine ⟨_, rfl, ?_⟩; have n0_ := Aside0.mk (below_step (by repeat (first | (with_reducible first | exact HB.out | apply below_alloc | apply pw_below_drewN | apply below_drew1) | exact HB.out)) hb); clear HB; have HB := n0_; clear n0_; (try clear hb); (try clear hb2); (try clear hk); (try clear hi)) | ((with_reducible refine gate_callee (f := 91) rfl ?_); refine goesL_ (some 13) rfl rfl Tryz.func91 (by kernel_rfl) rfl #[.string t820] rfl (by (try simp only [List.map_toArray, List.map_cons, List.map_nil]); first | done | rfl | (simp only [List.length_drop, List.length_take]; rfl)) ?_; (with_reducible refine (wayzgooseref03_others.calls t820 t821 _ A5.out).mono ?_); rintro e w14 ⟨v822, rfl, ho0, hb⟩; refine ⟨_, rfl, ?_⟩; have n0_ := Aside0.mk (Kd.R_lower ho0 (below_size (by repeat (first | (with_reducible first | exact HB.out | apply below_alloc | apply pw_below_drewN | apply below_drew1) | exact HB.out)))); have n1_ := Aside0.mk (below_step (by repeat (first | (with_reducible first | exact HB.out | apply below_alloc | apply pw_below_drewN | apply below_drew1) | exact HB.out)) hb); clear HB; have HO823 := n0_; have HB := n1_; clear n0_ n1_; (try clear hb); (try clear hb2); (try clear hk); (try clear hi); (try clear ho0); obtain ⟨Ao15, co15, eo15⟩ := Kd.R_slice HO823.out; subst eo15; have p824 : 0 ≤ (0 : Int) := (by omega); have q824 : 0 < (t821.length : Int) := of_decide_eq_true (by first | (with_reducible assumption) | assumption); obtain ⟨ad824, e824, hx824_0⟩ := Kd.at_string (Kd.R_reads' HO823.out).2.2 0 p824 q824; cases e824; have qi824 : (0 < t821.length) = True := eq_true (by omega); (try rw [show ((0 : Int)).toNat = 0 from rfl] at hx824_0); (try rw [Addr.add_zero'] at hx824_0); replace p824 := eq_true p824; replace q824 := eq_true q824))
        go_ret2
        exact ⟨by first | rfl | (simp [errW_none, errW_some] <;> rfl) | (simp [*, errW_none, errW_some] <;> rfl), by repeat (first | (with_reducible first | exact HB.out | apply below_alloc | apply pw_below_drewN | apply below_drew1) | exact HB.out)⟩
      · rw [if_neg c11] at H
        exact absurd H (by simp)
  · rw [if_neg c3] at H
    have c3b0 : (t819 == 0) = false := beq_eq_false_iff_ne.mpr c3
    have c3b1 : (t819 != 0) = true := bne_iff_ne.mpr c3
    simp only [Option.some.injEq, Prod.mk.injEq] at H
    obtain ⟨rfl, rfl⟩ := H
    go_enter Tryz.func43, Tryz.ntmps43
    go_wp2_with (first | ((with_reducible refine gate_callee (f := 45) rfl ?_); refine goesL_ (some 7) rfl rfl Tryz.func45 (by kernel_rfl) rfl #[.string a0] rfl (by (try simp only [List.map_toArray, List.map_cons, List.map_nil]); first | done | rfl | (simp only [List.length_drop, List.length_take]; rfl)) ?_; (with_reducible refine (wayzgooseref03_Check.calls k a0 t819 _ A2.out).mono ?_); rintro e w16 ⟨rfl, hb⟩; refine ⟨_, rfl, ?_⟩; have n0_ := Aside0.mk (below_step (by repeat (first | (with_reducible first | exact HB.out | apply below_alloc | apply pw_below_drewN | apply below_drew1) | exact HB.out)) hb); clear HB; have HB := n0_; clear n0_; (try clear hb); (try clear hb2); (try clear hk); (try clear hi)))
    go_ret2
    exact ⟨by first | rfl | (simp [errW_none, errW_some] <;> rfl) | (simp [*, errW_none, errW_some] <;> rfl), by repeat (first | (with_reducible first | exact HB.out | apply below_alloc | apply pw_below_drewN | apply below_drew1) | exact HB.out)⟩

end Go.Proofs.YtapikimhmjnjeaaGreatDoor.Pr

