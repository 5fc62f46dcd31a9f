/- A text of the claim. -/
import Derived.Test.YtapikimhmjnjeaaGreatDoorPr0
import Derived.Test.YtapikimhmjnjeaaGreatDoorPrExtStd
import Derived.Test.YtapikimhmjnjeaaGreatDoorPr5
import Derived.Test.YtapikimhmjnjeaaGreatDoorPr9
import Derived.Test.YtapikimhmjnjeaaGreatDoorPr13
namespace Go.Proofs.YtapikimhmjnjeaaGreatDoor.Pr
open Go.RowKit Go.Proofs.YtapikimhmjnjeaaGreatDoorW.PrintWords Go.Proofs.YtapikimhmjnjeaaGreatDoorW.PrintLast Go.Proofs.YtapikimhmjnjeaaGreatDoorW.PrintMore
attribute [local go_sem] max2_int min2_int max_two min_two max_three min_three max_four min_four   -- for this text's walks alone
set_option linter.unusedVariables false
set_option linter.unusedSimpArgs false

def wayzgooseref03_key.l0 : Nat → ByteArray → ByteArray → Int → Option (ByteArray)
  | 0, _, _, _ => none
  | k + 1, x0, x3, x4 => if x4 < (x0.size : Int) then (if 0 ≤ x4 then ((wayzgooseref03_stands.f k (bt x0 x4)).bind fun t689 => (if x3.size + t689.size ≤ 9223372036854775807 then (wayzgooseref03_key.l0 k x0 (x3 ++ t689) (wrap64 (x4 + 1))) else (none))) else (none)) else (some x3)
def wayzgooseref03_key.f (k : Nat) (a0 : ByteArray) : Option (ByteArray) := (wayzgooseref03_Latin.f a0).bind fun t688 => (if t688 = true then (some a0) else (wayzgooseref03_key.l0 k a0 (⟨#[]⟩ : ByteArray) 0))
set_option maxHeartbeats 8000000 in
set_option maxRecDepth 100000 in
theorem wayzgooseref03_key.calls (k : Nat) (a0 : ByteArray) (r : ByteArray) (w : World) (h : wayzgooseref03_key.f k a0 = some r) :
    Calls Tryz.prog 84 #[.string a0] w fun e w' => e = .returned (.string r) ∧ Below w.heap.size w w' := by
  have HB := Aside0.mk (Below.refl w.heap.size w)
  have H : ((wayzgooseref03_Latin.f a0).bind fun t688 => (if t688 = true then (some a0) else (wayzgooseref03_key.l0 k a0 (⟨#[]⟩ : ByteArray) 0))) = some r := h
  clear h
  replace H := Option.bind_eq_some_iff.mp H
  obtain ⟨t688, A20, H⟩ := H
  replace H : (if t688 = true then (some a0) else (wayzgooseref03_key.l0 k a0 (⟨#[]⟩ : ByteArray) 0)) = some r := H
  have A2 := Aside0.mk A20
  clear A20
  by_cases c3 : t688 = true
  · subst c3
    have H1 : (some a0) = some r := by rw [if_pos rfl] at H; exact H
    clear H
    have H := H1
    clear H1
    obtain rfl := Option.some.inj H
    go_enter Tryz.func84, Tryz.ntmps84
    go_wp2_with (first | ((with_reducible refine gate_callee (f := 46) rfl ?_); refine goesL_ (some 6) rfl rfl Tryz.func46 (by kernel_rfl) rfl #[.string a0] rfl (by (try simp only [List.map_toArray, List.map_cons, List.map_nil]); first | done | rfl | (simp only [List.length_drop, List.length_take]; rfl)) ?_; (with_reducible refine (wayzgooseref03_Latin.calls a0 true _ A2.out).mono ?_); rintro e w' ⟨rfl, ⟨nd, rfl⟩⟩; refine ⟨_, rfl, ?_⟩))
    go_ret
    exact ⟨by first | rfl | (simp [errW_none, errW_some] <;> rfl) | (simp [*, errW_none, errW_some] <;> rfl), by repeat (first | (with_reducible first | exact HB.out | apply below_alloc | apply pw_below_drewN | apply below_drew1) | exact HB.out)⟩
  · replace c3 := Bool.eq_false_iff.mpr c3
    subst c3
    have H1 : (wayzgooseref03_key.l0 k a0 (⟨#[]⟩ : ByteArray) 0) = some r := by rw [if_neg (show ¬ (false = true) by decide)] at H; exact H
    clear H
    have H := H1
    clear H1
    have H' := Aside0.mk H
    clear H
    go_enter Tryz.func84, Tryz.ntmps84
    go_wp2_with (first | ((with_reducible refine gate_callee (f := 46) rfl ?_); refine goesL_ (some 6) rfl rfl Tryz.func46 (by kernel_rfl) rfl #[.string a0] rfl (by (try simp only [List.map_toArray, List.map_cons, List.map_nil]); first | done | rfl | (simp only [List.length_drop, List.length_take]; rfl)) ?_; (with_reducible refine (wayzgooseref03_Latin.calls a0 false _ A2.out).mono ?_); rintro e w' ⟨rfl, ⟨nd, rfl⟩⟩; refine ⟨_, rfl, ?_⟩))
    go_loopg [3, 4] k (fun kq v3 v4 w' => ∃ (x3_1 : ByteArray) (x4_1 : Int), v3 = .string x3_1 ∧ v4 = .int .i64 x4_1 ∧ Aside0 (wayzgooseref03_key.l0 kq a0 x3_1 x4_1 = some r) ∧ Aside0 (kq ≤ k) ∧ Aside0 (Below w.heap.size w w'))
    case atStart => exact ⟨((⟨#[]⟩ : ByteArray)), (0), (by first | rfl | (simp; done) | (simp [*]; done)), (by first | rfl | (simp; done) | (simp [*]; done)), H', ⟨Nat.le_refl _⟩, ⟨by repeat (first | (with_reducible first | exact HB.out | apply below_alloc | apply pw_below_drewN | apply below_drew1) | exact HB.out)⟩⟩
    case round =>
      clear H'
      try clear p2
      try clear c3
      obtain ⟨x3_1, x4_1, rfl, rfl, HA, HK1, HB⟩ := hrel
      cases gk with
      | zero => exact absurd HA.out (by simp [wayzgooseref03_key.l0])
      | succ k1 =>
        have H := HA.out
        clear HA
        simp only [wayzgooseref03_key.l0] at H
        by_cases c4 : x4_1 < (a0.size : Int)
        · rw [if_pos c4] at H
          have c4b0 : decide (x4_1 < (a0.size : Int)) = true := decide_eq_true c4
          clear c4
          by_cases c5 : 0 ≤ x4_1
          · rw [if_pos c5] at H
            have c5b0 : decide (0 ≤ x4_1) = true := decide_eq_true c5
            clear c5
            replace H := Option.bind_eq_some_iff.mp H
            obtain ⟨t689, A70, H⟩ := H
            replace H : (if x3_1.size + t689.size ≤ 9223372036854775807 then (wayzgooseref03_key.l0 k1 a0 (x3_1 ++ t689) (wrap64 (x4_1 + 1))) else (none)) = some r := H
            have A7 := Aside0.mk A70
            clear A70
            by_cases c8 : x3_1.size + t689.size ≤ 9223372036854775807
            · rw [if_pos c8] at H
              have c8b0 := eq_true c8
              have c8b1 : decide (x3_1.size + t689.size ≤ 9223372036854775807) = true := decide_eq_true c8
              try have c8b2 : (9223372036854775807 < x3_1.size + t689.size) = False := eq_false (Nat.not_lt.2 c8)
              have H' := Aside0.mk H
              clear H
              have p6 : 0 ≤ (x4_1 : Int) := of_decide_eq_true (by first | (with_reducible assumption) | assumption)
              have q6 : x4_1 < (a0.size : Int) := of_decide_eq_true (by first | (with_reducible assumption) | assumption)
              have hx6 := bt_at a0 x4_1
              replace p6 := eq_true p6
              replace q6 := eq_true q6
              go_wp2_with (first | ((with_reducible refine gate_callee (f := 94) rfl ?_); refine goesL_ (some 18) rfl rfl Tryz.func94 (by kernel_rfl) rfl #[.int .u8 (bt a0 x4_1)] rfl (by (try simp only [List.map_toArray, List.map_cons, List.map_nil]); first | done | rfl | (simp only [List.length_drop, List.length_take]; rfl)) ?_; (with_reducible refine (wayzgooseref03_stands.calls k1 (bt a0 x4_1) t689 _ A7.out).mono ?_); rintro e w9 ⟨rfl, hb⟩; refine ⟨_, rfl, ?_⟩; have n0_ := Aside0.mk (below_step (by repeat (first | (with_reducible first | exact HB.out | apply below_alloc | apply pw_below_drewN | apply below_drew1) | exact HB.out)) hb); clear HB; have HB := n0_; clear n0_; (try clear hb); (try clear hb2); (try clear hk); (try clear hi)))
              go_roundg k1
              case measure => have := HK1.out; omega
              case rel => exact ⟨(x3_1 ++ t689), (wrap64 (x4_1 + 1)), (by first | rfl | (simp; done) | (simp [*]; done)), (by first | rfl | (simp; done) | (simp [*]; done)), H', ⟨by have := HK1.out; omega⟩, ⟨by repeat (first | (with_reducible first | exact HB.out | apply below_alloc | apply pw_below_drewN | apply below_drew1) | exact HB.out)⟩⟩
            · rw [if_neg c8] at H
              exact absurd H (by simp)
          · rw [if_neg c5] at H
            exact absurd H (by simp)
        · rw [if_neg c4] at H
          have c4b0 : decide (x4_1 < (a0.size : Int)) = false := decide_eq_false c4
          clear c4
          obtain rfl := Option.some.inj H
          go_wp2
          go_ret
          exact ⟨by first | rfl | (simp [errW_none, errW_some] <;> rfl) | (simp [*, errW_none, errW_some] <;> rfl), by repeat (first | (with_reducible first | exact HB.out | apply below_alloc | apply pw_below_drewN | apply below_drew1) | exact HB.out)⟩

def wayzgooseref03_Key.f (k : Nat) (a0 : ByteArray) : Option (ByteArray × Int) := (wayzgooseref03_Check.f k a0).bind fun t690 => (if t690 = 0 then ((wayzgooseref03_key.f k a0).bind fun t691 => (some (t691, 0))) else (some ((⟨#[]⟩ : ByteArray), t690)))
set_option maxHeartbeats 8000000 in
set_option maxRecDepth 100000 in
theorem wayzgooseref03_Key.calls (k : Nat) (a0 : ByteArray) (r1 : ByteArray) (r2 : Int) (w : World) (h : wayzgooseref03_Key.f k a0 = some (r1, r2)) :
    Calls Tryz.prog 41 #[.string a0] w fun e w' => e = .returned (.tuple #[.string r1, .int .i64 r2]) ∧ Below w.heap.size w w' := by
  have HB := Aside0.mk (Below.refl w.heap.size w)
  have H : ((wayzgooseref03_Check.f k a0).bind fun t690 => (if t690 = 0 then ((wayzgooseref03_key.f k a0).bind fun t691 => (some (t691, 0))) else (some ((⟨#[]⟩ : ByteArray), t690)))) = some (r1, r2) := h
  clear h
  replace H := Option.bind_eq_some_iff.mp H
  obtain ⟨t690, A20, H⟩ := H
  replace H : (if t690 = 0 then ((wayzgooseref03_key.f k a0).bind fun t691 => (some (t691, 0))) else (some ((⟨#[]⟩ : ByteArray), t690))) = some (r1, r2) := H
  have A2 := Aside0.mk A20
  clear A20
  by_cases c3 : t690 = 0
  · rw [if_pos c3] at H
    have c3b0 : (t690 == 0) = true := beq_iff_eq.mpr c3
    have c3b1 : (t690 != 0) = false := bne_eq_false_iff_eq.mpr c3
    clear c3
    replace H := Option.bind_eq_some_iff.mp H
    obtain ⟨t691, A40, H⟩ := H
    replace H : (some (t691, 0)) = some (r1, r2) := H
    have A4 := Aside0.mk A40
    clear A40
    simp only [Option.some.injEq, Prod.mk.injEq] at H
    obtain ⟨rfl, rfl⟩ := H
    go_enter Tryz.func41, Tryz.ntmps41
    go_wp2_with (first | ((with_reducible refine gate_callee (f := 45) rfl ?_); refine goesL_ (some 6) rfl rfl Tryz.func45 (by kernel_rfl) rfl #[.string a0] rfl (by (try simp only [List.map_toArray, List.map_cons, List.map_nil]); first | done | rfl | (simp only [List.length_drop, List.length_take]; rfl)) ?_; (with_reducible refine (wayzgooseref03_Check.calls k a0 t690 _ A2.out).mono ?_); rintro e w5 ⟨rfl, hb⟩; refine ⟨_, rfl, ?_⟩; have n0_ := Aside0.mk (below_step (by repeat (first | (with_reducible first | exact HB.out | apply below_alloc | apply pw_below_drewN | apply below_drew1) | exact HB.out)) hb); clear HB; have HB := n0_; clear n0_; (try clear hb); (try clear hb2); (try clear hk); (try clear hi)) | ((with_reducible refine gate_callee (f := 84) rfl ?_); refine goesL_ (some 11) rfl rfl Tryz.func84 (by kernel_rfl) rfl #[.string a0] rfl (by (try simp only [List.map_toArray, List.map_cons, List.map_nil]); first | done | rfl | (simp only [List.length_drop, List.length_take]; rfl)) ?_; (with_reducible refine (wayzgooseref03_key.calls k a0 t691 _ A4.out).mono ?_); rintro e w6 ⟨rfl, hb⟩; refine ⟨_, rfl, ?_⟩; have n0_ := Aside0.mk (below_step (by repeat (first | (with_reducible first | exact HB.out | apply below_alloc | apply pw_below_drewN | apply below_drew1) | exact HB.out)) hb); clear HB; have HB := n0_; clear n0_; (try clear hb); (try clear hb2); (try clear hk); (try clear hi)))
    go_ret2
    exact ⟨by first | rfl | (simp [errW_none, errW_some] <;> rfl) | (simp [*, errW_none, errW_some] <;> rfl), by repeat (first | (with_reducible first | exact HB.out | apply below_alloc | apply pw_below_drewN | apply below_drew1) | exact HB.out)⟩
  · rw [if_neg c3] at H
    have c3b0 : (t690 == 0) = false := beq_eq_false_iff_ne.mpr c3
    have c3b1 : (t690 != 0) = true := bne_iff_ne.mpr c3
    simp only [Option.some.injEq, Prod.mk.injEq] at H
    obtain ⟨rfl, rfl⟩ := H
    go_enter Tryz.func41, Tryz.ntmps41
    go_wp2_with (first | ((with_reducible refine gate_callee (f := 45) rfl ?_); refine goesL_ (some 6) rfl rfl Tryz.func45 (by kernel_rfl) rfl #[.string a0] rfl (by (try simp only [List.map_toArray, List.map_cons, List.map_nil]); first | done | rfl | (simp only [List.length_drop, List.length_take]; rfl)) ?_; (with_reducible refine (wayzgooseref03_Check.calls k a0 t690 _ A2.out).mono ?_); rintro e w7 ⟨rfl, hb⟩; refine ⟨_, rfl, ?_⟩; have n0_ := Aside0.mk (below_step (by repeat (first | (with_reducible first | exact HB.out | apply below_alloc | apply pw_below_drewN | apply below_drew1) | exact HB.out)) hb); clear HB; have HB := n0_; clear n0_; (try clear hb); (try clear hb2); (try clear hk); (try clear hi)))
    go_ret2
    exact ⟨by first | rfl | (simp [errW_none, errW_some] <;> rfl) | (simp [*, errW_none, errW_some] <;> rfl), by repeat (first | (with_reducible first | exact HB.out | apply below_alloc | apply pw_below_drewN | apply below_drew1) | exact HB.out)⟩

mutual
def wayzgooselaw03_mistaken.j0 : Nat → List ByteArray → Int → List Int → Bool → Option (Bool × Bool)
  | 0, _, _, _, _ => none
  | k + 1, x1, x2, x8, x31 => if x31 = true then (some (false, false)) else (if 0 ≤ x2 then (if x2 < (x1.length : Int) then ((name_Key.f (rdOf ByteArray.empty x1 x2)).bind fun bt697 => (wayzgooselaw03_mistaken.l0 k x1 x2 x8 bt697.1 bt697.2 false false 0)) else (none)) else (none))
def wayzgooselaw03_mistaken.l0 : Nat → List ByteArray → Int → List Int → ByteArray → Int → Bool → Bool → Int → Option (Bool × Bool)
  | 0, _, _, _, _, _, _, _, _ => none
  | k + 1, x1, x2, x8, x10, x11, x12, x13, x14 => if x14 < (x8.length : Int) then (if 0 ≤ x14 then (if (rd x8 x14) < 0 then (wayzgooselaw03_mistaken.j2 k x1 x2 x8 x10 x11 x12 x13 x14 true) else (wayzgooselaw03_mistaken.j2 k x1 x2 x8 x10 x11 x12 x13 x14 (decide ((rd x8 x14) ≥ (x1.length : Int))))) else (none)) else (if x12 = true then (some (x13, (x11 == 0))) else (some (true, (x11 == 0))))
def wayzgooselaw03_mistaken.j2 : Nat → List ByteArray → Int → List Int → ByteArray → Int → Bool → Bool → Int → Bool → Option (Bool × Bool)
  | 0, _, _, _, _, _, _, _, _, _ => none
  | k + 1, x1, x2, x8, x10, x11, x12, x13, x14, x59 => if x59 = true then (some (false, false)) else (if 0 ≤ x14 then (if x14 < (x8.length : Int) then (if 0 ≤ (rd x8 x14) then (if (rd x8 x14) < (x1.length : Int) then ((name_Key.f (rdOf ByteArray.empty x1 (rd x8 x14))).bind fun bt703 => (if bt703.2 = 0 then (if x12 = true then (if x13 = true then (wayzgooselaw03_mistaken.l0 k x1 x2 x8 x10 x11 true true (wrap64 (x14 + 1))) else (wayzgooselaw03_mistaken.l0 k x1 x2 x8 x10 x11 true (bt703.1.toList != x10.toList) (wrap64 (x14 + 1)))) else (if x13 = true then (wayzgooselaw03_mistaken.l0 k x1 x2 x8 x10 x11 ((rd x8 x14) == x2) true (wrap64 (x14 + 1))) else (wayzgooselaw03_mistaken.l0 k x1 x2 x8 x10 x11 ((rd x8 x14) == x2) (bt703.1.toList != x10.toList) (wrap64 (x14 + 1))))) else (some (false, false)))) else (none)) else (none)) else (none)) else (none))
end
def wayzgooselaw03_mistaken.f (k : Nat) (a0 : ByteArray) (l1 : List ByteArray) (a2 : Int) : Option (Bool × Bool) := (name_Stands.f a0 l1).bind fun bt692 => (if bt692.2 = 0 then (wayzgooselaw03_mistaken.j0 k l1 a2 bt692.1 (decide ((bt692.1.length : Int) > (l1.length : Int)))) else (wayzgooselaw03_mistaken.j0 k l1 a2 bt692.1 true))
set_option maxHeartbeats 8000000 in
set_option maxRecDepth 100000 in
theorem wayzgooselaw03_mistaken.calls (k : Nat) (a0 : ByteArray) (A1 : Option Addr) (c1 : Nat) (l1 : List ByteArray) (a2 : Int) (r1 : Bool) (r2 : Bool) (w : World) (hr1 : Kd.C Kd.string w A1 l1.length l1) (hc1 : l1.length ≤ c1) (h : wayzgooselaw03_mistaken.f k a0 l1 a2 = some (r1, r2)) :
    Calls Tryz.prog 68 #[.string a0, .slice A1 l1.length c1, .int .i64 a2] w fun e w' => e = .returned (.tuple #[.bool r1, .bool r2]) ∧ Below w.heap.size w w' := by
  have HR1 := Aside0.mk hr1
  have HC1 := Aside0.mk hc1
  clear hr1 hc1
  have HB := Aside0.mk (Below.refl w.heap.size w)
  have H : ((name_Stands.f a0 l1).bind fun bt692 => (if bt692.2 = 0 then (wayzgooselaw03_mistaken.j0 k l1 a2 bt692.1 (decide ((bt692.1.length : Int) > (l1.length : Int)))) else (wayzgooselaw03_mistaken.j0 k l1 a2 bt692.1 true))) = some (r1, r2) := h
  clear h
  replace H := Option.bind_eq_some_iff.mp H
  obtain ⟨⟨t692, t693⟩, A40, H⟩ := H
  replace H : (if t693 = 0 then (wayzgooselaw03_mistaken.j0 k l1 a2 t692 (decide ((t692.length : Int) > (l1.length : Int)))) else (wayzgooselaw03_mistaken.j0 k l1 a2 t692 true)) = some (r1, r2) := H
  have A4 := Aside0.mk A40
  clear A40
  have HC5 := Aside0.mk H
  clear H
  go_enter Tryz.func68, Tryz.ntmps68
  go_upto_region 2 with (first | ((with_reducible refine gate_callee (f := 72) rfl ?_); refine goesL_ (some 20) rfl rfl Tryz.func72 (by kernel_rfl) rfl #[.string a0, .slice A1 l1.length c1] rfl (by (try simp only [List.map_toArray, List.map_cons, List.map_nil]); first | done | rfl | (simp only [List.length_drop, List.length_take]; rfl)) ?_; (with_reducible refine (name_Stands.calls a0 _ _ l1 t692 t693 _ ?side1 ?side2 A4.out).mono ?_); (case side1 => repeat (first | exact HR1.out | (with_reducible refine Kd.C_alloc ?_ _) | (with_reducible refine Kd.C_drewN ?_ _) | (with_reducible refine Kd.C_drew ?_))); (case side2 => exact HC1.out); rintro e w6 ⟨v694, rfl, ho0, hb⟩; refine ⟨_, rfl, ?_⟩; have n0_ := Aside0.mk (Kd.R_lower ho0 (below_size (by repeat (first | (with_reducible first | exact HB.out | apply below_alloc | apply pw_below_drewN | apply below_drew1) | exact HB.out)))); have n1_ := Aside0.mk (below_step (by repeat (first | (with_reducible first | exact HB.out | apply below_alloc | apply pw_below_drewN | apply below_drew1) | exact HB.out)) hb); clear HB; have HO695 := n0_; have HB := n1_; clear n0_ n1_; (try clear hb); (try clear hb2); (try clear hk); (try clear hi); (try clear ho0)))
  (try simp only [Act.put, List.setIfInBounds_toArray, List.set_cons_zero, List.set_cons_succ])
  go_cut [31] (fun v31 wc => ∃ (kq : Nat) (x31_4 : Bool), v31 = .bool x31_4 ∧ Aside0 (wayzgooselaw03_mistaken.j0 kq l1 a2 t692 x31_4 = some (r1, r2)) ∧ Aside0 (kq ≤ k) ∧ Aside0 (Kd.R (Kd.int .i64) 3 wc w.heap.size (fun _ => True) v694 t692) ∧ Aside0 (Below w.heap.size w wc))
  case first =>
    have H := HC5.out
    clear HC5
    by_cases c7 : t693 = 0
    · rw [if_pos c7] at H
      have c7b0 : (t693 == 0) = true := beq_iff_eq.mpr c7
      have c7b1 : (t693 != 0) = false := bne_eq_false_iff_eq.mpr c7
      clear c7
      (first | rw [c7b0] | (simp only [i64_w, i32_w]; rw [c7b0]) | skip)
      have H' := Aside0.mk H
      clear H
      obtain ⟨Ao8, co8, eo8⟩ := Kd.R_slice HO695.out
      subst eo8
      go_wp2
      go_meet
      case rel => exact ⟨_, (decide ((t692.length : Int) > (l1.length : Int))), (by first | rfl | (simp; done) | (simp [*]; done)), H', ⟨by first | omega | exact Nat.le_refl _⟩, ⟨by (with_reducible repeat (first | apply Kd.R_alloc | apply Kd.R_drewN | apply Kd.R_drew)); exact HO695.out⟩, ⟨by repeat (first | (with_reducible first | exact HB.out | apply below_alloc | apply pw_below_drewN | apply below_drew1) | exact HB.out)⟩⟩
    · rw [if_neg c7] at H
      have c7b0 : (t693 == 0) = false := beq_eq_false_iff_ne.mpr c7
      have c7b1 : (t693 != 0) = true := bne_iff_ne.mpr c7
      (first | rw [c7b0] | (simp only [i64_w, i32_w]; rw [c7b0]) | skip)
      have H' := Aside0.mk H
      clear H
      go_wp2
      go_meet
      case rel => exact ⟨_, (true), (by first | rfl | (simp; done) | (simp [*]; done)), H', ⟨by first | omega | exact Nat.le_refl _⟩, ⟨by (with_reducible repeat (first | apply Kd.R_alloc | apply Kd.R_drewN | apply Kd.R_drew)); exact HO695.out⟩, ⟨by repeat (first | (with_reducible first | exact HB.out | apply below_alloc | apply pw_below_drewN | apply below_drew1) | exact HB.out)⟩⟩
  case rest =>
    clear HC5
    try clear c1
    try clear p2
    try clear c6
    try clear c7
    try clear c7b0
    try clear c7b1
    obtain ⟨kq, x31_4, rfl, HA, HJ4, HO_8, HB⟩ := hcut
    cases kq with
    | zero => exact absurd HA.out (by simp [wayzgooselaw03_mistaken.j0])
    | succ kj4 =>
      have H := HA.out
      clear HA
      simp only [wayzgooselaw03_mistaken.j0] at H
      by_cases c9 : x31_4 = true
      · subst c9
        have H1 : (some (false, false)) = some (r1, r2) := by rw [if_pos rfl] at H; exact H
        clear H
        have H := H1
        clear H1
        simp only [Option.some.injEq, Prod.mk.injEq] at H
        obtain ⟨rfl, rfl⟩ := H
        go_wp2
        go_ret2
        exact ⟨by first | rfl | (simp [errW_none, errW_some] <;> rfl) | (simp [*, errW_none, errW_some] <;> rfl), by repeat (first | (with_reducible first | exact HB.out | apply below_alloc | apply pw_below_drewN | apply below_drew1) | exact HB.out)⟩
      · replace c9 := Bool.eq_false_iff.mpr c9
        subst c9
        have H1 : (if 0 ≤ a2 then (if a2 < (l1.length : Int) then ((name_Key.f (rdOf ByteArray.empty l1 a2)).bind fun bt697 => (wayzgooselaw03_mistaken.l0 kj4 l1 a2 t692 bt697.1 bt697.2 false false 0)) else (none)) else (none)) = some (r1, r2) := by rw [if_neg (show ¬ (false = true) by decide)] at H; exact H
        clear H
        have H := H1
        clear H1
        by_cases c10 : 0 ≤ a2
        · rw [if_pos c10] at H
          have c10b0 : decide (0 ≤ a2) = true := decide_eq_true c10
          clear c10
          by_cases c11 : a2 < (l1.length : Int)
          · rw [if_pos c11] at H
            have c11b0 : decide (a2 < (l1.length : Int)) = true := decide_eq_true c11
            clear c11
            replace H := Option.bind_eq_some_iff.mp H
            obtain ⟨⟨t697, t698⟩, A120, H⟩ := H
            replace H : (wayzgooselaw03_mistaken.l0 kj4 l1 a2 t692 t697 t698 false false 0) = some (r1, r2) := H
            have A12 := Aside0.mk A120
            clear A120
            have H' := Aside0.mk H
            clear H
            have p696 : 0 ≤ (a2 : Int) := of_decide_eq_true (by first | (with_reducible assumption) | assumption)
            have q696 : a2 < (l1.length : Int) := of_decide_eq_true (by first | (with_reducible assumption) | assumption)
            obtain ⟨ad696, e696, hx696_0⟩ := Kd.at_string HR1.out a2 p696 q696
            cases e696
            replace hx696_0 := (HB.out.cell (World.block_lt_of_cell? w _ hx696_0)).trans hx696_0
            replace p696 := eq_true p696
            replace q696 := eq_true q696
            go_wp2_with (first | ((with_reducible refine gate_callee (f := 37) rfl ?_); refine goesL_ (some 37) rfl rfl Tryz.func37 (by kernel_rfl) rfl #[.string (rdOf ByteArray.empty l1 a2)] rfl (by (try simp only [List.map_toArray, List.map_cons, List.map_nil]); first | done | rfl | (simp only [List.length_drop, List.length_take]; rfl)) ?_; (with_reducible refine (name_Key.calls (rdOf ByteArray.empty l1 a2) t697 t698 _ A12.out).mono ?_); rintro e w13 ⟨rfl, hb⟩; refine ⟨_, rfl, ?_⟩; have n0_ := Aside0.mk (Kd.R_below (by (with_reducible repeat (first | apply Kd.R_alloc | apply Kd.R_drewN | apply Kd.R_drew)); exact HO_8.out) hb); have n1_ := Aside0.mk (below_step (by repeat (first | (with_reducible first | exact HB.out | apply below_alloc | apply pw_below_drewN | apply below_drew1) | exact HB.out)) hb); clear HO_8; clear HB; have HO_8 := n0_; have HB := n1_; clear n0_ n1_; (try clear hb); (try clear hb2); (try clear hk); (try clear hi)))
            go_loopg [12, 13, 14] kj4 (fun kq v12 v13 v14 w' => ∃ (x12_2 : Bool) (x13_2 : Bool) (x14_2 : Int), v12 = .bool x12_2 ∧ v13 = .bool x13_2 ∧ v14 = .int .i64 x14_2 ∧ Aside0 (wayzgooselaw03_mistaken.l0 kq l1 a2 t692 t697 t698 x12_2 x13_2 x14_2 = some (r1, r2)) ∧ Aside0 (kq ≤ kj4) ∧ Aside0 (Kd.R (Kd.int .i64) 3 w' w.heap.size (fun _ => True) v694 t692) ∧ Aside0 (Below w.heap.size w w'))
            case atStart => exact ⟨(false), (false), (0), (by first | rfl | (simp; done) | (simp [*]; done)), (by first | rfl | (simp; done) | (simp [*]; done)), (by first | rfl | (simp; done) | (simp [*]; done)), H', ⟨Nat.le_refl _⟩, ⟨by (with_reducible repeat (first | apply Kd.R_alloc | apply Kd.R_drewN | apply Kd.R_drew)); exact HO_8.out⟩, ⟨by repeat (first | (with_reducible first | exact HB.out | apply below_alloc | apply pw_below_drewN | apply below_drew1) | exact HB.out)⟩⟩
            case round =>
              clear H'
              try clear c1
              try clear p2
              try clear c3
              try clear c6
              try clear p6
              try clear q6
              try clear hx6
              try clear c7
              try clear c7b0
              try clear c7b1
              try clear c9
              try clear c10
              try clear c10b0
              try clear c11
              try clear c11b0
              try clear hx696_0
              try clear p2
              try clear p696
              try clear q696
              obtain ⟨x12_2, x13_2, x14_2, rfl, rfl, rfl, HA, HK2, HO_8, HB⟩ := hrel
              cases gk with
              | zero => exact absurd HA.out (by simp [wayzgooselaw03_mistaken.l0])
              | succ k2 =>
                have H := HA.out
                clear HA
                simp only [wayzgooselaw03_mistaken.l0] at H
                by_cases c14 : x14_2 < (t692.length : Int)
                · rw [if_pos c14] at H
                  have c14b0 : decide (x14_2 < (t692.length : Int)) = true := decide_eq_true c14
                  clear c14
                  have HC15 := Aside0.mk H
                  clear H
                  obtain ⟨Ao16, co16, eo16⟩ := Kd.R_slice HO_8.out
                  subst eo16
                  go_upto_region 9 with (fail)
                  go_cut [59] (fun v59 wc => ∃ (kq : Nat) (x59_14 : Bool), v59 = .bool x59_14 ∧ Aside0 (wayzgooselaw03_mistaken.j2 kq l1 a2 t692 t697 t698 x12_2 x13_2 x14_2 x59_14 = some (r1, r2)) ∧ Aside0 (kq ≤ k2) ∧ Aside0 (Kd.R (Kd.int .i64) 3 wc w.heap.size (fun _ => True) (.slice Ao16 t692.length co16) t692) ∧ Aside0 (Below w.heap.size w wc))
                  case first =>
                    have H := HC15.out
                    clear HC15
                    by_cases c17 : 0 ≤ x14_2
                    · rw [if_pos c17] at H
                      have c17b0 : decide (0 ≤ x14_2) = true := decide_eq_true c17
                      clear c17
                      (first | rw [c17b0] | (simp only [i64_w, i32_w]; rw [c17b0]) | skip)
                      by_cases c18 : (rd t692 x14_2) < 0
                      · rw [if_pos c18] at H
                        have c18b0 : decide ((rd t692 x14_2) < 0) = true := decide_eq_true c18
                        clear c18
                        have H' := Aside0.mk H
                        clear H
                        have p699 : 0 ≤ (x14_2 : Int) := of_decide_eq_true (by first | (with_reducible assumption) | assumption)
                        have q699 : x14_2 < (t692.length : Int) := of_decide_eq_true (by first | (with_reducible assumption) | assumption)
                        obtain ⟨ad699, e699, hx699_0⟩ := Kd.at_int (Kd.R_reads' HO_8.out).2.2 x14_2 p699 q699
                        cases e699
                        replace p699 := eq_true p699
                        replace q699 := eq_true q699
                        go_wp2
                        go_meet
                        case rel => exact ⟨_, (true), (by first | rfl | (simp; done) | (simp [*]; done)), H', ⟨by have := HJ4.out; have := HK2.out; first | omega | exact Nat.le_refl _⟩, ⟨by (with_reducible repeat (first | apply Kd.R_alloc | apply Kd.R_drewN | apply Kd.R_drew)); exact HO_8.out⟩, ⟨by repeat (first | (with_reducible first | exact HB.out | apply below_alloc | apply pw_below_drewN | apply below_drew1) | exact HB.out)⟩⟩
                      · rw [if_neg c18] at H
                        have c18b0 : decide ((rd t692 x14_2) < 0) = false := decide_eq_false c18
                        clear c18
                        have H' := Aside0.mk H
                        clear H
                        have p699 : 0 ≤ (x14_2 : Int) := of_decide_eq_true (by first | (with_reducible assumption) | assumption)
                        have q699 : x14_2 < (t692.length : Int) := of_decide_eq_true (by first | (with_reducible assumption) | assumption)
                        obtain ⟨ad699, e699, hx699_0⟩ := Kd.at_int (Kd.R_reads' HO_8.out).2.2 x14_2 p699 q699
                        cases e699
                        replace p699 := eq_true p699
                        replace q699 := eq_true q699
                        have p700 : 0 ≤ (x14_2 : Int) := of_decide_eq_true (by first | (with_reducible assumption) | assumption)
                        have q700 : x14_2 < (t692.length : Int) := of_decide_eq_true (by first | (with_reducible assumption) | assumption)
                        obtain ⟨ad700, e700, hx700_0⟩ := Kd.at_int (Kd.R_reads' HO_8.out).2.2 x14_2 p700 q700
                        obtain rfl : ad699 = ad700 := (by injection e700)
                        replace p700 := eq_true p700
                        replace q700 := eq_true q700
                        go_wp2
                        go_meet
                        case rel => exact ⟨_, (decide ((rd t692 x14_2) ≥ (l1.length : Int))), (by first | rfl | (simp; done) | (simp [*]; done)), H', ⟨by have := HJ4.out; have := HK2.out; first | omega | exact Nat.le_refl _⟩, ⟨by (with_reducible repeat (first | apply Kd.R_alloc | apply Kd.R_drewN | apply Kd.R_drew)); exact HO_8.out⟩, ⟨by repeat (first | (with_reducible first | exact HB.out | apply below_alloc | apply pw_below_drewN | apply below_drew1) | exact HB.out)⟩⟩
                    · rw [if_neg c17] at H
                      exact absurd H (by simp)
                  case rest =>
                    clear HC15
                    try clear c1
                    try clear p2
                    try clear c3
                    try clear c6
                    try clear p6
                    try clear q6
                    try clear hx6
                    try clear c7
                    try clear c7b0
                    try clear c7b1
                    try clear p7
                    try clear q7
                    try clear hx7
                    try clear c9
                    try clear c10
                    try clear c10b0
                    try clear c11
                    try clear c11b0
                    try clear c14
                    try clear c14b0
                    try clear c17
                    try clear c17b0
                    try clear c18
                    try clear c18b0
                    try clear hx696_0
                    try clear hx699_0
                    try clear hx700_0
                    try clear p2
                    try clear p6
                    try clear p696
                    try clear p699
                    try clear p700
                    try clear q6
                    try clear q696
                    try clear q699
                    try clear q700
                    obtain ⟨kq, x59_14, rfl, HA, HJ14, HO_8, HB⟩ := hcut
                    cases kq with
                    | zero => exact absurd HA.out (by simp [wayzgooselaw03_mistaken.j2])
                    | succ kj14 =>
                      have H := HA.out
                      clear HA
                      simp only [wayzgooselaw03_mistaken.j2] at H
                      by_cases c19 : x59_14 = true
                      · subst c19
                        have H1 : (some (false, false)) = some (r1, r2) := by rw [if_pos rfl] at H; exact H
                        clear H
                        have H := H1
                        clear H1
                        simp only [Option.some.injEq, Prod.mk.injEq] at H
                        obtain ⟨rfl, rfl⟩ := H
                        go_wp2
                        go_ret2
                        exact ⟨by first | rfl | (simp [errW_none, errW_some] <;> rfl) | (simp [*, errW_none, errW_some] <;> rfl), by repeat (first | (with_reducible first | exact HB.out | apply below_alloc | apply pw_below_drewN | apply below_drew1) | exact HB.out)⟩
                      · replace c19 := Bool.eq_false_iff.mpr c19
                        subst c19
                        have H1 : (if 0 ≤ x14_2 then (if x14_2 < (t692.length : Int) then (if 0 ≤ (rd t692 x14_2) then (if (rd t692 x14_2) < (l1.length : Int) then ((name_Key.f (rdOf ByteArray.empty l1 (rd t692 x14_2))).bind fun bt703 => (if bt703.2 = 0 then (if x12_2 = true then (if x13_2 = true then (wayzgooselaw03_mistaken.l0 kj14 l1 a2 t692 t697 t698 true true (wrap64 (x14_2 + 1))) else (wayzgooselaw03_mistaken.l0 kj14 l1 a2 t692 t697 t698 true (bt703.1.toList != t697.toList) (wrap64 (x14_2 + 1)))) else (if x13_2 = true then (wayzgooselaw03_mistaken.l0 kj14 l1 a2 t692 t697 t698 ((rd t692 x14_2) == a2) true (wrap64 (x14_2 + 1))) else (wayzgooselaw03_mistaken.l0 kj14 l1 a2 t692 t697 t698 ((rd t692 x14_2) == a2) (bt703.1.toList != t697.toList) (wrap64 (x14_2 + 1))))) else (some (false, false)))) else (none)) else (none)) else (none)) else (none)) = some (r1, r2) := by rw [if_neg (show ¬ (false = true) by decide)] at H; exact H
                        clear H
                        have H := H1
                        clear H1
                        by_cases c20 : 0 ≤ x14_2
                        · rw [if_pos c20] at H
                          have c20b0 : decide (0 ≤ x14_2) = true := decide_eq_true c20
                          clear c20
                          by_cases c21 : x14_2 < (t692.length : Int)
                          · rw [if_pos c21] at H
                            have c21b0 : decide (x14_2 < (t692.length : Int)) = true := decide_eq_true c21
                            clear c21
                            by_cases c22 : 0 ≤ (rd t692 x14_2)
                            · rw [if_pos c22] at H
                              have c22b0 : decide (0 ≤ (rd t692 x14_2)) = true := decide_eq_true c22
                              clear c22
                              by_cases c23 : (rd t692 x14_2) < (l1.length : Int)
                              · rw [if_pos c23] at H
                                have c23b0 : decide ((rd t692 x14_2) < (l1.length : Int)) = true := decide_eq_true c23
                                clear c23
                                replace H := Option.bind_eq_some_iff.mp H
                                obtain ⟨⟨t703, t704⟩, A240, H⟩ := H
                                replace H : (if t704 = 0 then (if x12_2 = true then (if x13_2 = true then (wayzgooselaw03_mistaken.l0 kj14 l1 a2 t692 t697 t698 true true (wrap64 (x14_2 + 1))) else (wayzgooselaw03_mistaken.l0 kj14 l1 a2 t692 t697 t698 true (t703.toList != t697.toList) (wrap64 (x14_2 + 1)))) else (if x13_2 = true then (wayzgooselaw03_mistaken.l0 kj14 l1 a2 t692 t697 t698 ((rd t692 x14_2) == a2) true (wrap64 (x14_2 + 1))) else (wayzgooselaw03_mistaken.l0 kj14 l1 a2 t692 t697 t698 ((rd t692 x14_2) == a2) (t703.toList != t697.toList) (wrap64 (x14_2 + 1))))) else (some (false, false))) = some (r1, r2) := H
                                have A24 := Aside0.mk A240
                                clear A240
                                by_cases c25 : t704 = 0
                                · rw [if_pos c25] at H
                                  have c25b0 : (t704 == 0) = true := beq_iff_eq.mpr c25
                                  have c25b1 : (t704 != 0) = false := bne_eq_false_iff_eq.mpr c25
                                  clear c25
                                  by_cases c26 : x12_2 = true
                                  · subst c26
                                    have H1 : (if x13_2 = true then (wayzgooselaw03_mistaken.l0 kj14 l1 a2 t692 t697 t698 true true (wrap64 (x14_2 + 1))) else (wayzgooselaw03_mistaken.l0 kj14 l1 a2 t692 t697 t698 true (t703.toList != t697.toList) (wrap64 (x14_2 + 1)))) = some (r1, r2) := by rw [if_pos rfl] at H; exact H
                                    clear H
                                    have H := H1
                                    clear H1
                                    by_cases c27 : x13_2 = true
                                    · subst c27
                                      have H1 : (wayzgooselaw03_mistaken.l0 kj14 l1 a2 t692 t697 t698 true true (wrap64 (x14_2 + 1))) = some (r1, r2) := by rw [if_pos rfl] at H; exact H
                                      clear H
                                      have H := H1
                                      clear H1
                                      have H' := Aside0.mk H
                                      clear H
                                      have p701 : 0 ≤ (x14_2 : Int) := of_decide_eq_true (by first | (with_reducible assumption) | assumption)
                                      have q701 : x14_2 < (t692.length : Int) := of_decide_eq_true (by first | (with_reducible assumption) | assumption)
                                      obtain ⟨ad701, e701, hx701_0⟩ := Kd.at_int (Kd.R_reads' HO_8.out).2.2 x14_2 p701 q701
                                      cases e701
                                      replace p701 := eq_true p701
                                      replace q701 := eq_true q701
                                      have p702 : 0 ≤ ((rd t692 x14_2) : Int) := of_decide_eq_true (by first | (with_reducible assumption) | assumption)
                                      have q702 : (rd t692 x14_2) < (l1.length : Int) := of_decide_eq_true (by first | (with_reducible assumption) | assumption)
                                      obtain ⟨ad702, e702, hx702_0⟩ := Kd.at_string HR1.out (rd t692 x14_2) p702 q702
                                      obtain rfl : ad696 = ad702 := (by injection e702)
                                      replace hx702_0 := (HB.out.cell (World.block_lt_of_cell? w _ hx702_0)).trans hx702_0
                                      replace p702 := eq_true p702
                                      replace q702 := eq_true q702
                                      go_wp2_with (first | ((with_reducible refine gate_callee (f := 37) rfl ?_); refine goesL_ (some 68) rfl rfl Tryz.func37 (by kernel_rfl) rfl #[.string (rdOf ByteArray.empty l1 (rd t692 x14_2))] rfl (by (try simp only [List.map_toArray, List.map_cons, List.map_nil]); first | done | rfl | (simp only [List.length_drop, List.length_take]; rfl)) ?_; (with_reducible refine (name_Key.calls (rdOf ByteArray.empty l1 (rd t692 x14_2)) t703 t704 _ A24.out).mono ?_); rintro e w28 ⟨rfl, hb⟩; refine ⟨_, rfl, ?_⟩; have n0_ := Aside0.mk (Kd.R_below (by (with_reducible repeat (first | apply Kd.R_alloc | apply Kd.R_drewN | apply Kd.R_drew)); exact HO_8.out) hb); have n1_ := Aside0.mk (below_step (by repeat (first | (with_reducible first | exact HB.out | apply below_alloc | apply pw_below_drewN | apply below_drew1) | exact HB.out)) hb); clear HO_8; clear HB; have HO_8 := n0_; have HB := n1_; clear n0_ n1_; (try clear hb); (try clear hb2); (try clear hk); (try clear hi)))
                                      go_roundg kj14
                                      case measure => have := HJ4.out; have := HK2.out; have := HJ14.out; omega
                                      case rel => exact ⟨(true), (true), (wrap64 (x14_2 + 1)), (by first | rfl | (simp; done) | (simp [*]; done)), (by first | rfl | (simp; done) | (simp [*]; done)), (by first | rfl | (simp; done) | (simp [*]; done)), H', ⟨by have := HJ4.out; have := HK2.out; have := HJ14.out; omega⟩, ⟨by (with_reducible repeat (first | apply Kd.R_alloc | apply Kd.R_drewN | apply Kd.R_drew)); exact HO_8.out⟩, ⟨by repeat (first | (with_reducible first | exact HB.out | apply below_alloc | apply pw_below_drewN | apply below_drew1) | exact HB.out)⟩⟩
                                    · replace c27 := Bool.eq_false_iff.mpr c27
                                      subst c27
                                      have H1 : (wayzgooselaw03_mistaken.l0 kj14 l1 a2 t692 t697 t698 true (t703.toList != t697.toList) (wrap64 (x14_2 + 1))) = some (r1, r2) := by rw [if_neg (show ¬ (false = true) by decide)] at H; exact H
                                      clear H
                                      have H := H1
                                      clear H1
                                      have H' := Aside0.mk H
                                      clear H
                                      have p701 : 0 ≤ (x14_2 : Int) := of_decide_eq_true (by first | (with_reducible assumption) | assumption)
                                      have q701 : x14_2 < (t692.length : Int) := of_decide_eq_true (by first | (with_reducible assumption) | assumption)
                                      obtain ⟨ad701, e701, hx701_0⟩ := Kd.at_int (Kd.R_reads' HO_8.out).2.2 x14_2 p701 q701
                                      cases e701
                                      replace p701 := eq_true p701
                                      replace q701 := eq_true q701
                                      have p702 : 0 ≤ ((rd t692 x14_2) : Int) := of_decide_eq_true (by first | (with_reducible assumption) | assumption)
                                      have q702 : (rd t692 x14_2) < (l1.length : Int) := of_decide_eq_true (by first | (with_reducible assumption) | assumption)
                                      obtain ⟨ad702, e702, hx702_0⟩ := Kd.at_string HR1.out (rd t692 x14_2) p702 q702
                                      obtain rfl : ad696 = ad702 := (by injection e702)
                                      replace hx702_0 := (HB.out.cell (World.block_lt_of_cell? w _ hx702_0)).trans hx702_0
                                      replace p702 := eq_true p702
                                      replace q702 := eq_true q702
                                      go_wp2_with (first | ((with_reducible refine gate_callee (f := 37) rfl ?_); refine goesL_ (some 68) rfl rfl Tryz.func37 (by kernel_rfl) rfl #[.string (rdOf ByteArray.empty l1 (rd t692 x14_2))] rfl (by (try simp only [List.map_toArray, List.map_cons, List.map_nil]); first | done | rfl | (simp only [List.length_drop, List.length_take]; rfl)) ?_; (with_reducible refine (name_Key.calls (rdOf ByteArray.empty l1 (rd t692 x14_2)) t703 t704 _ A24.out).mono ?_); rintro e w29 ⟨rfl, hb⟩; refine ⟨_, rfl, ?_⟩; have n0_ := Aside0.mk (Kd.R_below (by (with_reducible repeat (first | apply Kd.R_alloc | apply Kd.R_drewN | apply Kd.R_drew)); exact HO_8.out) hb); have n1_ := Aside0.mk (below_step (by repeat (first | (with_reducible first | exact HB.out | apply below_alloc | apply pw_below_drewN | apply below_drew1) | exact HB.out)) hb); clear HO_8; clear HB; have HO_8 := n0_; have HB := n1_; clear n0_ n1_; (try clear hb); (try clear hb2); (try clear hk); (try clear hi)))
                                      go_roundg kj14
                                      case measure => have := HJ4.out; have := HK2.out; have := HJ14.out; omega
                                      case rel => exact ⟨(true), ((t703.toList != t697.toList)), (wrap64 (x14_2 + 1)), (by first | rfl | (simp; done) | (simp [*]; done)), (by first | rfl | (simp; done) | (simp [*]; done)), (by first | rfl | (simp; done) | (simp [*]; done)), H', ⟨by have := HJ4.out; have := HK2.out; have := HJ14.out; omega⟩, ⟨by (with_reducible repeat (first | apply Kd.R_alloc | apply Kd.R_drewN | apply Kd.R_drew)); exact HO_8.out⟩, ⟨by repeat (first | (with_reducible first | exact HB.out | apply below_alloc | apply pw_below_drewN | apply below_drew1) | exact HB.out)⟩⟩
                                  · replace c26 := Bool.eq_false_iff.mpr c26
                                    subst c26
                                    have H1 : (if x13_2 = true then (wayzgooselaw03_mistaken.l0 kj14 l1 a2 t692 t697 t698 ((rd t692 x14_2) == a2) true (wrap64 (x14_2 + 1))) else (wayzgooselaw03_mistaken.l0 kj14 l1 a2 t692 t697 t698 ((rd t692 x14_2) == a2) (t703.toList != t697.toList) (wrap64 (x14_2 + 1)))) = some (r1, r2) := by rw [if_neg (show ¬ (false = true) by decide)] at H; exact H
                                    clear H
                                    have H := H1
                                    clear H1
                                    by_cases c30 : x13_2 = true
                                    · subst c30
                                      have H1 : (wayzgooselaw03_mistaken.l0 kj14 l1 a2 t692 t697 t698 ((rd t692 x14_2) == a2) true (wrap64 (x14_2 + 1))) = some (r1, r2) := by rw [if_pos rfl] at H; exact H
                                      clear H
                                      have H := H1
                                      clear H1
                                      have H' := Aside0.mk H
                                      clear H
                                      have p701 : 0 ≤ (x14_2 : Int) := of_decide_eq_true (by first | (with_reducible assumption) | assumption)
                                      have q701 : x14_2 < (t692.length : Int) := of_decide_eq_true (by first | (with_reducible assumption) | assumption)
                                      obtain ⟨ad701, e701, hx701_0⟩ := Kd.at_int (Kd.R_reads' HO_8.out).2.2 x14_2 p701 q701
                                      cases e701
                                      replace p701 := eq_true p701
                                      replace q701 := eq_true q701
                                      have p702 : 0 ≤ ((rd t692 x14_2) : Int) := of_decide_eq_true (by first | (with_reducible assumption) | assumption)
                                      have q702 : (rd t692 x14_2) < (l1.length : Int) := of_decide_eq_true (by first | (with_reducible assumption) | assumption)
                                      obtain ⟨ad702, e702, hx702_0⟩ := Kd.at_string HR1.out (rd t692 x14_2) p702 q702
                                      obtain rfl : ad696 = ad702 := (by injection e702)
                                      replace hx702_0 := (HB.out.cell (World.block_lt_of_cell? w _ hx702_0)).trans hx702_0
                                      replace p702 := eq_true p702
                                      replace q702 := eq_true q702
                                      go_wp2_with (first | ((with_reducible refine gate_callee (f := 37) rfl ?_); refine goesL_ (some 68) rfl rfl Tryz.func37 (by kernel_rfl) rfl #[.string (rdOf ByteArray.empty l1 (rd t692 x14_2))] rfl (by (try simp only [List.map_toArray, List.map_cons, List.map_nil]); first | done | rfl | (simp only [List.length_drop, List.length_take]; rfl)) ?_; (with_reducible refine (name_Key.calls (rdOf ByteArray.empty l1 (rd t692 x14_2)) t703 t704 _ A24.out).mono ?_); rintro e w31 ⟨rfl, hb⟩; refine ⟨_, rfl, ?_⟩; have n0_ := Aside0.mk (Kd.R_below (by (with_reducible repeat (first | apply Kd.R_alloc | apply Kd.R_drewN | apply Kd.R_drew)); exact HO_8.out) hb); have n1_ := Aside0.mk (below_step (by repeat (first | (with_reducible first | exact HB.out | apply below_alloc | apply pw_below_drewN | apply below_drew1) | exact HB.out)) hb); clear HO_8; clear HB; have HO_8 := n0_; have HB := n1_; clear n0_ n1_; (try clear hb); (try clear hb2); (try clear hk); (try clear hi); have p705 : 0 ≤ (x14_2 : Int) := of_decide_eq_true (by first | (with_reducible assumption) | assumption); have q705 : x14_2 < (t692.length : Int) := of_decide_eq_true (by first | (with_reducible assumption) | assumption); obtain ⟨ad705, e705, hx705_0⟩ := Kd.at_int (Kd.R_reads' HO_8.out).2.2 x14_2 p705 q705; obtain rfl : ad701 = ad705 := (by injection e705); replace p705 := eq_true p705; replace q705 := eq_true q705))
                                      go_roundg kj14
                                      case measure => have := HJ4.out; have := HK2.out; have := HJ14.out; omega
                                      case rel => exact ⟨(((rd t692 x14_2) == a2)), (true), (wrap64 (x14_2 + 1)), (by first | rfl | (simp; done) | (simp [*]; done)), (by first | rfl | (simp; done) | (simp [*]; done)), (by first | rfl | (simp; done) | (simp [*]; done)), H', ⟨by have := HJ4.out; have := HK2.out; have := HJ14.out; omega⟩, ⟨by (with_reducible repeat (first | apply Kd.R_alloc | apply Kd.R_drewN | apply Kd.R_drew)); exact HO_8.out⟩, ⟨by repeat (first | (with_reducible first | exact HB.out | apply below_alloc | apply pw_below_drewN | apply below_drew1) | exact HB.out)⟩⟩
                                    · replace c30 := Bool.eq_false_iff.mpr c30
                                      subst c30
                                      have H1 : (wayzgooselaw03_mistaken.l0 kj14 l1 a2 t692 t697 t698 ((rd t692 x14_2) == a2) (t703.toList != t697.toList) (wrap64 (x14_2 + 1))) = some (r1, r2) := by rw [if_neg (show ¬ (false = true) by decide)] at H; exact H
                                      clear H
                                      have H := H1
                                      clear H1
                                      have H' := Aside0.mk H
                                      clear H
                                      have p701 : 0 ≤ (x14_2 : Int) := of_decide_eq_true (by first | (with_reducible assumption) | assumption)
                                      have q701 : x14_2 < (t692.length : Int) := of_decide_eq_true (by first | (with_reducible assumption) | assumption)
                                      obtain ⟨ad701, e701, hx701_0⟩ := Kd.at_int (Kd.R_reads' HO_8.out).2.2 x14_2 p701 q701
                                      cases e701
                                      replace p701 := eq_true p701
                                      replace q701 := eq_true q701
                                      have p702 : 0 ≤ ((rd t692 x14_2) : Int) := of_decide_eq_true (by first | (with_reducible assumption) | assumption)
                                      have q702 : (rd t692 x14_2) < (l1.length : Int) := of_decide_eq_true (by first | (with_reducible assumption) | assumption)
                                      obtain ⟨ad702, e702, hx702_0⟩ := Kd.at_string HR1.out (rd t692 x14_2) p702 q702
                                      obtain rfl : ad696 = ad702 := (by injection e702)
                                      replace hx702_0 := (HB.out.cell (World.block_lt_of_cell? w _ hx702_0)).trans hx702_0
                                      replace p702 := eq_true p702
                                      replace q702 := eq_true q702
                                      go_wp2_with (first | ((with_reducible refine gate_callee (f := 37) rfl ?_); refine goesL_ (some 68) rfl rfl Tryz.func37 (by kernel_rfl) rfl #[.string (rdOf ByteArray.empty l1 (rd t692 x14_2))] rfl (by (try simp only [List.map_toArray, List.map_cons, List.map_nil]); first | done | rfl | (simp only [List.length_drop, List.length_take]; rfl)) ?_; (with_reducible refine (name_Key.calls (rdOf ByteArray.empty l1 (rd t692 x14_2)) t703 t704 _ A24.out).mono ?_); rintro e w32 ⟨rfl, hb⟩; refine ⟨_, rfl, ?_⟩; have n0_ := Aside0.mk (Kd.R_below (by (with_reducible repeat (first | apply Kd.R_alloc | apply Kd.R_drewN | apply Kd.R_drew)); exact HO_8.out) hb); have n1_ := Aside0.mk (below_step (by repeat (first | (with_reducible first | exact HB.out | apply below_alloc | apply pw_below_drewN | apply below_drew1) | exact HB.out)) hb); clear HO_8; clear HB; have HO_8 := n0_; have HB := n1_; clear n0_ n1_; (try clear hb); (try clear hb2); (try clear hk); (try clear hi); have p705 : 0 ≤ (x14_2 : Int) := of_decide_eq_true (by first | (with_reducible assumption) | assumption); have q705 : x14_2 < (t692.length : Int) := of_decide_eq_true (by first | (with_reducible assumption) | assumption); obtain ⟨ad705, e705, hx705_0⟩ := Kd.at_int (Kd.R_reads' HO_8.out).2.2 x14_2 p705 q705; obtain rfl : ad701 = ad705 := (by injection e705); replace p705 := eq_true p705; replace q705 := eq_true q705))
                                      go_roundg kj14
                                      case measure => have := HJ4.out; have := HK2.out; have := HJ14.out; omega
                                      case rel => exact ⟨(((rd t692 x14_2) == a2)), ((t703.toList != t697.toList)), (wrap64 (x14_2 + 1)), (by first | rfl | (simp; done) | (simp [*]; done)), (by first | rfl | (simp; done) | (simp [*]; done)), (by first | rfl | (simp; done) | (simp [*]; done)), H', ⟨by have := HJ4.out; have := HK2.out; have := HJ14.out; omega⟩, ⟨by (with_reducible repeat (first | apply Kd.R_alloc | apply Kd.R_drewN | apply Kd.R_drew)); exact HO_8.out⟩, ⟨by repeat (first | (with_reducible first | exact HB.out | apply below_alloc | apply pw_below_drewN | apply below_drew1) | exact HB.out)⟩⟩
                                · rw [if_neg c25] at H
                                  have c25b0 : (t704 == 0) = false := beq_eq_false_iff_ne.mpr c25
                                  have c25b1 : (t704 != 0) = true := bne_iff_ne.mpr c25
                                  simp only [Option.some.injEq, Prod.mk.injEq] at H
                                  obtain ⟨rfl, rfl⟩ := H
                                  have p701 : 0 ≤ (x14_2 : Int) := of_decide_eq_true (by first | (with_reducible assumption) | assumption)
                                  have q701 : x14_2 < (t692.length : Int) := of_decide_eq_true (by first | (with_reducible assumption) | assumption)
                                  obtain ⟨ad701, e701, hx701_0⟩ := Kd.at_int (Kd.R_reads' HO_8.out).2.2 x14_2 p701 q701
                                  cases e701
                                  replace p701 := eq_true p701
                                  replace q701 := eq_true q701
                                  have p702 : 0 ≤ ((rd t692 x14_2) : Int) := of_decide_eq_true (by first | (with_reducible assumption) | assumption)
                                  have q702 : (rd t692 x14_2) < (l1.length : Int) := of_decide_eq_true (by first | (with_reducible assumption) | assumption)
                                  obtain ⟨ad702, e702, hx702_0⟩ := Kd.at_string HR1.out (rd t692 x14_2) p702 q702
                                  obtain rfl : ad696 = ad702 := (by injection e702)
                                  replace hx702_0 := (HB.out.cell (World.block_lt_of_cell? w _ hx702_0)).trans hx702_0
                                  replace p702 := eq_true p702
                                  replace q702 := eq_true q702
                                  go_wp2_with (first | ((with_reducible refine gate_callee (f := 37) rfl ?_); refine goesL_ (some 68) rfl rfl Tryz.func37 (by kernel_rfl) rfl #[.string (rdOf ByteArray.empty l1 (rd t692 x14_2))] rfl (by (try simp only [List.map_toArray, List.map_cons, List.map_nil]); first | done | rfl | (simp only [List.length_drop, List.length_take]; rfl)) ?_; (with_reducible refine (name_Key.calls (rdOf ByteArray.empty l1 (rd t692 x14_2)) t703 t704 _ A24.out).mono ?_); rintro e w33 ⟨rfl, hb⟩; refine ⟨_, rfl, ?_⟩; have n0_ := Aside0.mk (Kd.R_below (by (with_reducible repeat (first | apply Kd.R_alloc | apply Kd.R_drewN | apply Kd.R_drew)); exact HO_8.out) hb); have n1_ := Aside0.mk (below_step (by repeat (first | (with_reducible first | exact HB.out | apply below_alloc | apply pw_below_drewN | apply below_drew1) | exact HB.out)) hb); clear HO_8; clear HB; have HO_8 := n0_; have HB := n1_; clear n0_ n1_; (try clear hb); (try clear hb2); (try clear hk); (try clear hi)))
                                  go_ret2
                                  exact ⟨by first | rfl | (simp [errW_none, errW_some] <;> rfl) | (simp [*, errW_none, errW_some] <;> rfl), by repeat (first | (with_reducible first | exact HB.out | apply below_alloc | apply pw_below_drewN | apply below_drew1) | exact HB.out)⟩
                              · rw [if_neg c23] at H
                                exact absurd H (by simp)
                            · rw [if_neg c22] at H
                              exact absurd H (by simp)
                          · rw [if_neg c21] at H
                            exact absurd H (by simp)
                        · rw [if_neg c20] at H
                          exact absurd H (by simp)
                · rw [if_neg c14] at H
                  have c14b0 : decide (x14_2 < (t692.length : Int)) = false := decide_eq_false c14
                  clear c14
                  by_cases c34 : x12_2 = true
                  · subst c34
                    have H1 : (some (x13_2, (t698 == 0))) = some (r1, r2) := by rw [if_pos rfl] at H; exact H
                    clear H
                    have H := H1
                    clear H1
                    simp only [Option.some.injEq, Prod.mk.injEq] at H
                    obtain ⟨rfl, rfl⟩ := H
                    obtain ⟨Ao35, co35, eo35⟩ := Kd.R_slice HO_8.out
                    subst eo35
                    go_wp2
                    go_ret2
                    exact ⟨by first | rfl | (simp [errW_none, errW_some] <;> rfl) | (simp [*, errW_none, errW_some] <;> rfl), by repeat (first | (with_reducible first | exact HB.out | apply below_alloc | apply pw_below_drewN | apply below_drew1) | exact HB.out)⟩
                  · replace c34 := Bool.eq_false_iff.mpr c34
                    subst c34
                    have H1 : (some (true, (t698 == 0))) = some (r1, r2) := by rw [if_neg (show ¬ (false = true) by decide)] at H; exact H
                    clear H
                    have H := H1
                    clear H1
                    simp only [Option.some.injEq, Prod.mk.injEq] at H
                    obtain ⟨rfl, rfl⟩ := H
                    obtain ⟨Ao36, co36, eo36⟩ := Kd.R_slice HO_8.out
                    subst eo36
                    go_wp2
                    go_ret2
                    exact ⟨by first | rfl | (simp [errW_none, errW_some] <;> rfl) | (simp [*, errW_none, errW_some] <;> rfl), by repeat (first | (with_reducible first | exact HB.out | apply below_alloc | apply pw_below_drewN | apply below_drew1) | exact HB.out)⟩
          · rw [if_neg c11] at H
            exact absurd H (by simp)
        · rw [if_neg c10] at H
          exact absurd H (by simp)

end Go.Proofs.YtapikimhmjnjeaaGreatDoor.Pr

