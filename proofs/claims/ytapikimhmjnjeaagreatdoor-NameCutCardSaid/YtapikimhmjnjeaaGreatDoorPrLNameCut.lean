/- A text of the claim. -/
import Derived.Test.YtapikimhmjnjeaaGreatDoorPr0
import Derived.Test.YtapikimhmjnjeaaGreatDoorPrExtStd
import Derived.Test.YtapikimhmjnjeaaGreatDoorPrExtSpell
import Derived.Test.YtapikimhmjnjeaaGreatDoorPr2
import Derived.Test.YtapikimhmjnjeaaGreatDoorPr3
import Derived.Test.YtapikimhmjnjeaaGreatDoorPr5
import Derived.Test.YtapikimhmjnjeaaGreatDoorPr11
import Derived.Test.YtapikimhmjnjeaaGreatDoorPr14
import Derived.Test.YtapikimhmjnjeaaGreatDoorPr16
import Derived.Test.YtapikimhmjnjeaaGreatDoorPr17
namespace Go.Proofs.YtapikimhmjnjeaaGreatDoor.Pr
open Go.RowKit Go.Proofs.YtapikimhmjnjeaaGreatDoorW.PrintWords Go.Proofs.YtapikimhmjnjeaaGreatDoorW.PrintLast Go.Proofs.YtapikimhmjnjeaaGreatDoorW.PrintMore
attribute [local go_sem] max2_int min2_int max_two min_two max_three min_three max_four min_four   -- for this text's walks alone
set_option linter.unusedVariables false
set_option linter.unusedSimpArgs false

mutual
def wayzgooselaw03_NameCut.j0 : Nat → List ByteArray → ByteArray → List Int → Bool → Option (Bool)
 | 0, _, _, _, _ => none
 | k + 1, x4, x7, x8, x55 => if x55 = true then (some false) else (wayzgooselaw03_NameCut.l0 k x4 x7 x8 0)
def wayzgooselaw03_NameCut.l0 : Nat → List ByteArray → ByteArray → List Int → Int → Option (Bool)
 | 0, _, _, _, _ => none
 | k + 1, x4, x7, x8, x10 => if x10 < (x8.length : Int) then (if 0 ≤ x10 then (if (rd x8 x10) < 0 then (wayzgooselaw03_NameCut.j2 k x4 x7 x8 x10 true) else (wayzgooselaw03_NameCut.j2 k x4 x7 x8 x10 (decide ((rd x8 x10) ≥ (x4.length : Int))))) else (none)) else (wayzgooselaw03_NameCut.l1 k x4 x7 x8 1)
def wayzgooselaw03_NameCut.j2 : Nat → List ByteArray → ByteArray → List Int → Int → Bool → Option (Bool)
 | 0, _, _, _, _, _ => none
 | k + 1, x4, x7, x8, x10, x75 => if x75 = true then (some false) else (if 0 ≤ x10 then (if x10 < (x8.length : Int) then (if 0 ≤ (rd x8 x10) then (if (rd x8 x10) < (x4.length : Int) then ((name_Key.f (rdOf ByteArray.empty x4 (rd x8 x10))).bind fun bt803 => (if bt803.2 = 0 then (if (bt803.1.size : Int) < (x7.size : Int) then (some false) else (wayzgooselaw03_NameCut.l0 k x4 x7 x8 (wrap64 (x10 + 1)))) else (some false))) else (none)) else (none)) else (none)) else (none))
def wayzgooselaw03_NameCut.l1 : Nat → List ByteArray → ByteArray → List Int → Int → Option (Bool)
 | 0, _, _, _, _ => none
 | k + 1, x4, x7, x8, x13 => if x13 < (wrap64 ((x7.size : Int) - 1)) then (if 0 ≤ x13 then (if x13 ≤ (x7.size : Int) then (if 0 ≤ (wrap64 (x13 + 1)) then (if (wrap64 (x13 + 1)) ≤ (x7.size : Int) then (if (x7.extract 0 (x13 : Int).toNat).size + (x7.extract ((wrap64 (x13 + 1)) : Int).toNat x7.size).size ≤ 9223372036854775807 then ((name_Stands.f ((x7.extract 0 (x13 : Int).toNat) ++ (x7.extract ((wrap64 (x13 + 1)) : Int).toNat x7.size)) x4).bind fun bt805 => (if bt805.2 = 0 then (wayzgooselaw03_NameCut.l2 k x4 x7 x8 x13 bt805.1 0) else (some false))) else (none)) else (none)) else (none)) else (none)) else (none)) else (wayzgooselaw03_NameCut.l3 k x4 x7 x8 0)
def wayzgooselaw03_NameCut.l2 : Nat → List ByteArray → ByteArray → List Int → Int → List Int → Int → Option (Bool)
 | 0, _, _, _, _, _, _ => none
 | k + 1, x4, x7, x8, x13, x14, x16 => if x16 < (x8.length : Int) then (if 0 ≤ x16 then ((wayzgoosekit_Index.f k x14 (rd x8 x16)).bind fun t810 => (if t810 < 0 then (some false) else (wayzgooselaw03_NameCut.l2 k x4 x7 x8 x13 x14 (wrap64 (x16 + 1))))) else (none)) else (wayzgooselaw03_NameCut.l1 k x4 x7 x8 (wrap64 (x13 + 1)))
def wayzgooselaw03_NameCut.l3 : Nat → List ByteArray → ByteArray → List Int → Int → Option (Bool)
 | 0, _, _, _, _ => none
 | k + 1, x4, x7, x8, x17 => if x17 < (x4.length : Int) then (if 0 ≤ x17 then ((name_Short.f x7 (rdOf ByteArray.empty x4 x17)).bind fun bt813 => (if bt813.2 = 0 then ((wayzgoosekit_Index.f k x8 x17).bind fun t815 => (if (bt813.1 != (decide (t815 ≥ 0))) = true then (some false) else (wayzgooselaw03_NameCut.l3 k x4 x7 x8 (wrap64 (x17 + 1))))) else (some false))) else (none)) else ((wayzgooselaw03_spelling.f).bind fun t811 => (some t811))
end
def wayzgooselaw03_NameCut.f (k : Nat) (l0 : List Int) : Option (Bool) := (wayzgoosekit_NewDice.f l0).bind fun bt774 => ((wayzgoosekit_NamesOf.f k bt774.1 bt774.2.1 bt774.2.2 5 6).bind fun bt778 => ((wayzgoosekit_NameOf.f k bt774.1 bt778.2.1 bt778.2.2 6).bind fun bt783 => (if bt778.1.length < 8796093022208 then ((some (bt778.1 ++ [bt783.1] : List ByteArray)).bind fun y786 => (if 0 ≤ (wrap64 ((y786.length : Int) - 1)) then (if (wrap64 ((y786.length : Int) - 1)) < (y786.length : Int) then ((wayzgooseref03_Key.f k (rdOf ByteArray.empty y786 (wrap64 ((y786.length : Int) - 1)))).bind fun bt790 => ((wayzgoosekit_ShortOf.f k bt774.1 bt783.2.1 bt783.2.2 bt790.1).bind fun bt792 => ((name_Stands.f bt792.1 y786).bind fun bt795 => (if bt795.2 = 0 then (wayzgooselaw03_NameCut.j0 k y786 bt792.1 bt795.1 (decide ((bt795.1.length : Int) > (y786.length : Int)))) else (wayzgooselaw03_NameCut.j0 k y786 bt792.1 bt795.1 true))))) else (none)) else (none))) else (none))))
def wayzgooselaw03_NameCut.T19 : Bool × List (List Nat × List Nat) := (true, [([], []), ([], []), ([0, 1], [0, 1]), ([], []), ([], []), ([4], [4]), ([3, 5], [3, 5]), ([2, 6], [2, 6]), ([], []), ([7, 8], [7, 8]), ([9], [9]), ([10], [10]), ([10], [10]), ([11, 9, 0, 1, 2, 3, 4, 5, 6, 7, 8, 9, 10, 11], [11]), ([12, 13, 0, 1, 2, 3, 4, 5, 6, 7, 8, 9, 10, 11, 12, 13], [12])])
def wayzgooselaw03_NameCut.B19 : List Nat := [0, 0, 3, 0, 0, 16, 56, 127, 0, 511, 1023, 2047, 2047, 4095, 16383]
theorem wayzgooselaw03_NameCut.tab19 : rtab .any (opsOf Tryz.f19 19) = wayzgooselaw03_NameCut.T19 := by kernel_rfl
theorem wayzgooselaw03_NameCut.bits19 : waitsOk wayzgooselaw03_NameCut.T19.2 wayzgooselaw03_NameCut.B19 = true := by kernel_rfl
set_option maxHeartbeats 8000000 in
set_option maxRecDepth 100000 in
theorem wayzgooselaw03_NameCut.calls (k : Nat) (A0 : Option Addr) (c0 : Nat) (l0 : List Int) (r : Bool) (w : World) (hr0 : Kd.C (Kd.int .i64) w A0 l0.length l0) (hc0 : l0.length ≤ c0) (h : wayzgooselaw03_NameCut.f k l0 = some r) :
  Calls Tryz.prog 19 #[.slice A0 l0.length c0] w fun e w' => e = .returned (.bool r) ∧ Below w.heap.size w w' := by
 have HR0 := Aside0.mk hr0
 have HC0 := Aside0.mk hc0
 clear hr0 hc0
 have HB := Aside0.mk (Below.refl w.heap.size w)
 have H : ((wayzgoosekit_NewDice.f l0).bind fun bt774 => ((wayzgoosekit_NamesOf.f k bt774.1 bt774.2.1 bt774.2.2 5 6).bind fun bt778 => ((wayzgoosekit_NameOf.f k bt774.1 bt778.2.1 bt778.2.2 6).bind fun bt783 => (if bt778.1.length < 8796093022208 then ((some (bt778.1 ++ [bt783.1] : List ByteArray)).bind fun y786 => (if 0 ≤ (wrap64 ((y786.length : Int) - 1)) then (if (wrap64 ((y786.length : Int) - 1)) < (y786.length : Int) then ((wayzgooseref03_Key.f k (rdOf ByteArray.empty y786 (wrap64 ((y786.length : Int) - 1)))).bind fun bt790 => ((wayzgoosekit_ShortOf.f k bt774.1 bt783.2.1 bt783.2.2 bt790.1).bind fun bt792 => ((name_Stands.f bt792.1 y786).bind fun bt795 => (if bt795.2 = 0 then (wayzgooselaw03_NameCut.j0 k y786 bt792.1 bt795.1 (decide ((bt795.1.length : Int) > (y786.length : Int)))) else (wayzgooselaw03_NameCut.j0 k y786 bt792.1 bt795.1 true))))) else (none)) else (none))) else (none))))) = some r := h
 clear h
 replace H := Option.bind_eq_some_iff.mp H
 obtain ⟨⟨t774, t775, t776⟩, A20, H⟩ := H
 replace H : ((wayzgoosekit_NamesOf.f k t774 t775 t776 5 6).bind fun bt778 => ((wayzgoosekit_NameOf.f k t774 bt778.2.1 bt778.2.2 6).bind fun bt783 => (if bt778.1.length < 8796093022208 then ((some (bt778.1 ++ [bt783.1] : List ByteArray)).bind fun y786 => (if 0 ≤ (wrap64 ((y786.length : Int) - 1)) then (if (wrap64 ((y786.length : Int) - 1)) < (y786.length : Int) then ((wayzgooseref03_Key.f k (rdOf ByteArray.empty y786 (wrap64 ((y786.length : Int) - 1)))).bind fun bt790 => ((wayzgoosekit_ShortOf.f k t774 bt783.2.1 bt783.2.2 bt790.1).bind fun bt792 => ((name_Stands.f bt792.1 y786).bind fun bt795 => (if bt795.2 = 0 then (wayzgooselaw03_NameCut.j0 k y786 bt792.1 bt795.1 (decide ((bt795.1.length : Int) > (y786.length : Int)))) else (wayzgooselaw03_NameCut.j0 k y786 bt792.1 bt795.1 true))))) else (none)) else (none))) else (none)))) = some r := H
 have A2 := Aside0.mk A20
 clear A20
 replace H := Option.bind_eq_some_iff.mp H
 obtain ⟨⟨t778, t781, t782⟩, A30, H⟩ := H
 replace H : ((wayzgoosekit_NameOf.f k t774 t781 t782 6).bind fun bt783 => (if t778.length < 8796093022208 then ((some (t778 ++ [bt783.1] : List ByteArray)).bind fun y786 => (if 0 ≤ (wrap64 ((y786.length : Int) - 1)) then (if (wrap64 ((y786.length : Int) - 1)) < (y786.length : Int) then ((wayzgooseref03_Key.f k (rdOf ByteArray.empty y786 (wrap64 ((y786.length : Int) - 1)))).bind fun bt790 => ((wayzgoosekit_ShortOf.f k t774 bt783.2.1 bt783.2.2 bt790.1).bind fun bt792 => ((name_Stands.f bt792.1 y786).bind fun bt795 => (if bt795.2 = 0 then (wayzgooselaw03_NameCut.j0 k y786 bt792.1 bt795.1 (decide ((bt795.1.length : Int) > (y786.length : Int)))) else (wayzgooselaw03_NameCut.j0 k y786 bt792.1 bt795.1 true))))) else (none)) else (none))) else (none))) = some r := H
 have A3 := Aside0.mk A30
 clear A30
 replace H := Option.bind_eq_some_iff.mp H
 obtain ⟨⟨t783, t784, t785⟩, A40, H⟩ := H
 replace H : (if t778.length < 8796093022208 then ((some (t778 ++ [t783] : List ByteArray)).bind fun y786 => (if 0 ≤ (wrap64 ((y786.length : Int) - 1)) then (if (wrap64 ((y786.length : Int) - 1)) < (y786.length : Int) then ((wayzgooseref03_Key.f k (rdOf ByteArray.empty y786 (wrap64 ((y786.length : Int) - 1)))).bind fun bt790 => ((wayzgoosekit_ShortOf.f k t774 t784 t785 bt790.1).bind fun bt792 => ((name_Stands.f bt792.1 y786).bind fun bt795 => (if bt795.2 = 0 then (wayzgooselaw03_NameCut.j0 k y786 bt792.1 bt795.1 (decide ((bt795.1.length : Int) > (y786.length : Int)))) else (wayzgooselaw03_NameCut.j0 k y786 bt792.1 bt795.1 true))))) else (none)) else (none))) else (none)) = some r := H
 have A4 := Aside0.mk A40
 clear A40
 by_cases c5 : t778.length < 8796093022208
 ·rw [if_pos c5] at H
  have LMc5 := Aside0.mk c5
  clear c5
  obtain ⟨y786, hy786⟩ : ∃ y_ : List ByteArray, y_ = (t778 ++ [t783]) := ⟨_, rfl⟩
  replace H : (if 0 ≤ (wrap64 ((y786.length : Int) - 1)) then (if (wrap64 ((y786.length : Int) - 1)) < (y786.length : Int) then ((wayzgooseref03_Key.f k (rdOf ByteArray.empty y786 (wrap64 ((y786.length : Int) - 1)))).bind fun bt790 => ((wayzgoosekit_ShortOf.f k t774 t784 t785 bt790.1).bind fun bt792 => ((name_Stands.f bt792.1 y786).bind fun bt795 => (if bt795.2 = 0 then (wayzgooselaw03_NameCut.j0 k y786 bt792.1 bt795.1 (decide ((bt795.1.length : Int) > (y786.length : Int)))) else (wayzgooselaw03_NameCut.j0 k y786 bt792.1 bt795.1 true))))) else (none)) else (none)) = some r := by first | (rw [hy786]; with_reducible exact H) | (have H2_ := (Option.bind_some _ _).symm.trans H; rw [hy786]; with_reducible exact H2_) | (have H2_ := (Option.bind_some _ _).symm.trans H; with_reducible exact H2_) | with_reducible exact H | (rw [hy786]; exact H) | exact H
  have Ny786 := Aside0.mk hy786
  clear hy786
  obtain ⟨ji6, hji6⟩ : ∃ j_ : Int, (wrap64 ((y786.length : Int) - 1)) = j_ := ⟨_, rfl⟩
  replace H : (if 0 ≤ (ji6) then (if (ji6) < (y786.length : Int) then ((wayzgooseref03_Key.f k (rdOf ByteArray.empty y786 (ji6))).bind fun bt790 => ((wayzgoosekit_ShortOf.f k t774 t784 t785 bt790.1).bind fun bt792 => ((name_Stands.f bt792.1 y786).bind fun bt795 => (if bt795.2 = 0 then (wayzgooselaw03_NameCut.j0 k y786 bt792.1 bt795.1 (decide ((bt795.1.length : Int) > (y786.length : Int)))) else (wayzgooselaw03_NameCut.j0 k y786 bt792.1 bt795.1 true))))) else (none)) else (none)) = some r := by first | (rw [hji6] at H; exact H) | (simp only [hji6] at H ⊢; exact H)
  (try rw [hji6] at A2)
  (try rw [hji6] at A3)
  (try rw [hji6] at A4)
  have hji6w : (IntKind.i64.wrap ((y786.length : Int) - 1)) = ji6 := (i64_w _).trans hji6
  by_cases c7 : 0 ≤ (ji6)
  ·rw [if_pos c7] at H
   have c7b0 : decide (0 ≤ (ji6)) = true := decide_eq_true c7
   clear c7
   by_cases c8 : (ji6) < (y786.length : Int)
   ·rw [if_pos c8] at H
    have c8b0 : decide ((ji6) < (y786.length : Int)) = true := decide_eq_true c8
    clear c8
    replace H := Option.bind_eq_some_iff.mp H
    obtain ⟨⟨t790, t791⟩, A90, H⟩ := H
    replace H : ((wayzgoosekit_ShortOf.f k t774 t784 t785 t790).bind fun bt792 => ((name_Stands.f bt792.1 y786).bind fun bt795 => (if bt795.2 = 0 then (wayzgooselaw03_NameCut.j0 k y786 bt792.1 bt795.1 (decide ((bt795.1.length : Int) > (y786.length : Int)))) else (wayzgooselaw03_NameCut.j0 k y786 bt792.1 bt795.1 true)))) = some r := H
    have A9 := Aside0.mk A90
    clear A90
    replace H := Option.bind_eq_some_iff.mp H
    obtain ⟨⟨t792, t793, t794⟩, A100, H⟩ := H
    replace H : ((name_Stands.f t792 y786).bind fun bt795 => (if bt795.2 = 0 then (wayzgooselaw03_NameCut.j0 k y786 t792 bt795.1 (decide ((bt795.1.length : Int) > (y786.length : Int)))) else (wayzgooselaw03_NameCut.j0 k y786 t792 bt795.1 true))) = some r := H
    have A10 := Aside0.mk A100
    clear A100
    replace H := Option.bind_eq_some_iff.mp H
    obtain ⟨⟨t795, t796⟩, A110, H⟩ := H
    replace H : (if t796 = 0 then (wayzgooselaw03_NameCut.j0 k y786 t792 t795 (decide ((t795.length : Int) > (y786.length : Int)))) else (wayzgooselaw03_NameCut.j0 k y786 t792 t795 true)) = some r := H
    have A11 := Aside0.mk A110
    clear A110
    have HC12 := Aside0.mk H
    clear H
    go_enter Tryz.func19, Tryz.ntmps19
    go_upto_region 6 with (first | ((with_reducible refine gate_callee (f := 23) rfl ?_); refine goesL_ (some 21) rfl rfl Tryz.func23 (by kernel_rfl) rfl #[.slice A0 l0.length c0] rfl (by (try simp only [List.map_toArray, List.map_cons, List.map_nil]); first | done | rfl | (simp only [List.length_drop, List.length_take]; rfl)) ?_; (with_reducible refine (wayzgoosekit_NewDice.calls _ _ l0 t774 t775 t776 w _ ?side1 ?side2 ?side3 A2.out).mono ?_); (case side1 => repeat (first | (with_reducible first | exact HB.out | apply below_alloc | apply pw_below_drewN | apply below_drew1) | exact HB.out)); (case side2 => exact HR0.out); (case side3 => exact HC0.out); rintro e w13 ⟨g777, rfl, hi, hb, hb2⟩; refine ⟨_, rfl, ?_⟩; have n0_ := Aside0.mk (hb); have n1_ := Aside0.mk (hi); clear HB; have HB := n0_; have HI777 := n1_; clear n0_ n1_; (try clear hb); (try clear hb2); (try clear hk); (try clear hi)) | ((with_reducible refine gate_callee (f := 24) rfl ?_); refine goesL_ (some 23) rfl rfl Tryz.func24 (by kernel_rfl) rfl #[.pointer (some ⟨g777, 0, none⟩), .int .i64 5, .int .i64 6] rfl (by (try simp only [List.map_toArray, List.map_cons, List.map_nil]); first | done | rfl | (simp only [List.length_drop, List.length_take]; rfl)) ?_; (with_reducible refine (wayzgoosekit_NamesOf.calls k g777 t774 t775 t776 5 6 t778 t781 t782 w _ ?side1 ?side2 A3.out).mono ?_); (case side1 => repeat (first | (with_reducible first | exact HI777.out | apply IsS86.alloc | apply IsS86.drewN | apply IsS86.drew | apply IsS86.set_1 | apply IsS86.set_2) | exact HI777.out)); (case side2 => repeat (first | (with_reducible first | exact HB.out | apply below_alloc | apply pw_below_drewN | apply below_drew1 | refine below_set ?_ (IsS86.ge HI777.out)) | exact HB.out)); rintro e w14 ⟨v779, rfl, ho0, hi, hb, hk⟩; refine ⟨_, rfl, ?_⟩; have n0_ := Aside0.mk (Kd.R_lower ho0 (below_size (by repeat (first | (with_reducible first | exact HB.out | apply below_alloc | apply pw_below_drewN | apply below_drew1 | refine below_set ?_ (IsS86.ge HI777.out)) | exact HB.out)))); have n1_ := Aside0.mk (hb); have n2_ := Aside0.mk (hi); clear HB; clear HI777; have HO780 := n0_; have HB := n1_; have HI777 := n2_; clear n0_ n1_ n2_; (try clear hb); (try clear hb2); (try clear hk); (try clear hi); (try clear ho0)) | ((with_reducible refine gate_callee (f := 25) rfl ?_); refine goesL_ (some 25) rfl rfl Tryz.func25 (by kernel_rfl) rfl #[.pointer (some ⟨g777, 0, none⟩), .int .i64 6] rfl (by (try simp only [List.map_toArray, List.map_cons, List.map_nil]); first | done | rfl | (simp only [List.length_drop, List.length_take]; rfl)) ?_; (with_reducible refine (wayzgoosekit_NameOf.calls k g777 t774 t781 t782 6 t783 t784 t785 w _ ?side1 ?side2 A4.out).mono ?_); (case side1 => repeat (first | (with_reducible first | exact HI777.out | apply IsS86.alloc | apply IsS86.drewN | apply IsS86.drew | apply IsS86.set_1 | apply IsS86.set_2) | exact HI777.out)); (case side2 => repeat (first | (with_reducible first | exact HB.out | apply below_alloc | apply pw_below_drewN | apply below_drew1 | refine below_set ?_ (IsS86.ge HI777.out)) | exact HB.out)); rintro e w15 ⟨rfl, hi, hb, hk⟩; refine ⟨_, rfl, ?_⟩; have n0_ := Aside0.mk (Kd.R_mono (Kd.R_keep (IsS86.apart (show IsS86 w _ g777 t774 t781 t782 from by repeat (first | (with_reducible first | exact HI777.out | apply IsS86.alloc | apply IsS86.drewN | apply IsS86.drew | apply IsS86.set_1 | apply IsS86.set_2) | exact HI777.out)) (by (with_reducible repeat (first | apply Kd.R_alloc | apply Kd.R_drewN | apply Kd.R_drew)); exact HO780.out) (by decide)) hk (fun _ h => h.2)) (fun _ h => h.1)); have n1_ := Aside0.mk (hb); have n2_ := Aside0.mk (hi); clear HO780; clear HB; clear HI777; have HO780 := n0_; have HB := n1_; have HI777 := n2_; clear n0_ n1_ n2_; (try clear hb); (try clear hb2); (try clear hk); (try clear hi)) | ((with_reducible refine gate_builtin (b := .append) (xs := #[.tmp 23, .tmp 26]) rfl ?_); (try (refine gate_guard (by rfl) ?_; dsimp only)); at_builtin; refine Kd.R_append Kd.string (w0 := w) w.heap.size rfl (.tmp 23) (.tmp 26) 22 9 (.string ⟨#[]⟩) 16 rfl Tryz.underlying22 info9 rfl (by decide) (by omega) v779 t778 t783 [.string t783] (fun _ => True) (fun _ => False) rfl rfl ?aP (fun _ hk => hk.elim) ?aF ?aO ?aB ?aS ?aL ?_; (case aP => exact rfl); (case aB => exact (by repeat (first | (with_reducible first | exact HB.out | apply below_alloc | apply pw_below_drewN | apply below_drew1 | refine below_set ?_ (IsS86.ge HI777.out)) | exact HB.out))); (case aF => exact (fun _ _ => trivial)); (case aO => exact (by (with_reducible repeat (first | apply Kd.R_alloc | apply Kd.R_drewN | apply Kd.R_drew)); exact HO780.out)); (case aS => exact (below_size (by repeat (first | (with_reducible first | exact HB.out | apply below_alloc | apply pw_below_drewN | apply below_drew1 | refine below_set ?_ (IsS86.ge HI777.out)) | exact HB.out)))); (case aL => have := LMc5.out; omega); intro v787 w16 ho hb hg hat; rw [← Ny786.out] at ho; have n0_ := Aside0.mk (IsS86.grown (by repeat (first | (with_reducible first | exact HI777.out | apply IsS86.alloc | apply IsS86.drewN | apply IsS86.drew | apply IsS86.set_1 | apply IsS86.set_2) | exact HI777.out)) hg (IsS86.own_ne HI777.out HO780.out (by decide))); have n1_ := Aside0.mk (hb); have n2_ := Aside0.mk (ho); clear HI777; clear HB; clear HO780; have HI777 := n0_; have HB := n1_; have HO788 := n2_; clear n0_ n1_ n2_; clear ho hb hg hat; obtain ⟨Ao17, co17, eo17⟩ := Kd.R_slice HO788.out; subst eo17; have p789 : 0 ≤ ((ji6) : Int) := of_decide_eq_true (by first | (with_reducible assumption) | assumption); have q789 : (ji6) < (y786.length : Int) := of_decide_eq_true (by first | (with_reducible assumption) | assumption); obtain ⟨ad789, e789, hx789_0⟩ := Kd.at_string (Kd.R_reads' HO788.out).2.2 (ji6) p789 q789; cases e789; replace p789 := eq_true p789; replace q789 := eq_true q789) | ((with_reducible refine gate_callee (f := 41) rfl ?_); refine goesL_ (some 35) rfl rfl Tryz.func41 (by kernel_rfl) rfl #[.string (rdOf ByteArray.empty y786 (ji6))] rfl (by (try simp only [List.map_toArray, List.map_cons, List.map_nil]); first | done | (simp only [hji6]; rfl) | rfl | (simp only [List.length_drop, List.length_take]; rfl)) ?_; (with_reducible refine (wayzgooseref03_Key.calls k (rdOf ByteArray.empty y786 (ji6)) t790 t791 _ A9.out).mono ?_); rintro e w18 ⟨rfl, hb⟩; refine ⟨_, rfl, ?_⟩; have n0_ := Aside0.mk (Kd.R_below (by (with_reducible repeat (first | apply Kd.R_alloc | apply Kd.R_drewN | apply Kd.R_drew)); exact HO788.out) hb); have n1_ := Aside0.mk (IsS86.below (by repeat (first | (with_reducible first | exact HI777.out | apply IsS86.alloc | apply IsS86.drewN | apply IsS86.drew | apply IsS86.set_1 | apply IsS86.set_2) | exact HI777.out)) hb); have n2_ := Aside0.mk (below_step (by repeat (first | (with_reducible first | exact HB.out | apply below_alloc | apply pw_below_drewN | apply below_drew1 | refine below_set ?_ (IsS86.ge HI777.out)) | exact HB.out)) hb); clear HO788; clear HI777; clear HB; have HO788 := n0_; have HI777 := n1_; have HB := n2_; clear n0_ n1_ n2_; (try clear hb); (try clear hb2); (try clear hk); (try clear hi)) | ((with_reducible refine gate_callee (f := 69) rfl ?_); refine goesL_ (some 40) rfl rfl Tryz.func69 (by kernel_rfl) rfl #[.pointer (some ⟨g777, 0, none⟩), .string t790] rfl (by (try simp only [List.map_toArray, List.map_cons, List.map_nil]); first | done | rfl | (simp only [List.length_drop, List.length_take]; rfl)) ?_; (with_reducible refine (wayzgoosekit_ShortOf.calls k g777 t774 t784 t785 t790 t792 t793 t794 w _ ?side1 ?side2 A10.out).mono ?_); (case side1 => repeat (first | (with_reducible first | exact HI777.out | apply IsS86.alloc | apply IsS86.drewN | apply IsS86.drew | apply IsS86.set_1 | apply IsS86.set_2) | exact HI777.out)); (case side2 => repeat (first | (with_reducible first | exact HB.out | apply below_alloc | apply pw_below_drewN | apply below_drew1 | refine below_set ?_ (IsS86.ge HI777.out)) | exact HB.out)); rintro e w19 ⟨rfl, hi, hb, hk⟩; refine ⟨_, rfl, ?_⟩; have n0_ := Aside0.mk (Kd.R_mono (Kd.R_keep (IsS86.apart (show IsS86 w _ g777 t774 t784 t785 from by repeat (first | (with_reducible first | exact HI777.out | apply IsS86.alloc | apply IsS86.drewN | apply IsS86.drew | apply IsS86.set_1 | apply IsS86.set_2) | exact HI777.out)) (by (with_reducible repeat (first | apply Kd.R_alloc | apply Kd.R_drewN | apply Kd.R_drew)); exact HO788.out) (by decide)) hk (fun _ h => h.2)) (fun _ h => h.1)); have n1_ := Aside0.mk (hb); have n2_ := Aside0.mk (hi); clear HO788; clear HB; clear HI777; have HO788 := n0_; have HB := n1_; have HI777 := n2_; clear n0_ n1_ n2_; (try clear hb); (try clear hb2); (try clear hk); (try clear hi)) | ((with_reducible refine gate_callee (f := 72) rfl ?_); refine goesL_ (some 44) rfl rfl Tryz.func72 (by kernel_rfl) rfl #[.string t792, .slice (some ad789) y786.length co17] rfl (by (try simp only [List.map_toArray, List.map_cons, List.map_nil]); first | done | rfl | (simp only [List.length_drop, List.length_take]; rfl)) ?_; (with_reducible refine (name_Stands.calls t792 _ _ y786 t795 t796 _ ?side1 ?side2 A11.out).mono ?_); (case side1 => repeat (first | exact (Kd.R_reads' HO788.out).2.2 | (with_reducible refine Kd.C_alloc ?_ _) | (with_reducible refine Kd.C_drewN ?_ _) | (with_reducible refine Kd.C_drew ?_))); (case side2 => exact (Kd.R_reads' HO788.out).2.1); rintro e w20 ⟨v797, rfl, ho0, hb⟩; refine ⟨_, rfl, ?_⟩; have n0_ := Aside0.mk (Kd.R_below (by (with_reducible repeat (first | apply Kd.R_alloc | apply Kd.R_drewN | apply Kd.R_drew)); exact HO788.out) hb); have n1_ := Aside0.mk (Kd.R_lower ho0 (below_size (by repeat (first | (with_reducible first | exact HB.out | apply below_alloc | apply pw_below_drewN | apply below_drew1 | refine below_set ?_ (IsS86.ge HI777.out)) | exact HB.out)))); have n2_ := Aside0.mk (IsS86.below (by repeat (first | (with_reducible first | exact HI777.out | apply IsS86.alloc | apply IsS86.drewN | apply IsS86.drew | apply IsS86.set_1 | apply IsS86.set_2) | exact HI777.out)) hb); have n3_ := Aside0.mk (below_step (by repeat (first | (with_reducible first | exact HB.out | apply below_alloc | apply pw_below_drewN | apply below_drew1 | refine below_set ?_ (IsS86.ge HI777.out)) | exact HB.out)) hb); clear HO788; clear HI777; clear HB; have HO788 := n0_; have HO798 := n1_; have HI777 := n2_; have HB := n3_; clear n0_ n1_ n2_ n3_; (try clear hb); (try clear hb2); (try clear hk); (try clear hi); (try clear ho0)))
    (try simp only [Act.put, List.setIfInBounds_toArray, List.set_cons_zero, List.set_cons_succ])
    go_cut [55] (fun v55 wc => ∃ (kq : Nat) (x55_11 : Bool), v55 = .bool x55_11 ∧ Aside0 (wayzgooselaw03_NameCut.j0 kq y786 t792 t795 x55_11 = some r) ∧ Aside0 (kq ≤ k) ∧ Aside0 (Kd.R Kd.string 9 wc w.heap.size (fun _ => True) (.slice (some ad789) y786.length co17) y786) ∧ Aside0 (Kd.R (Kd.int .i64) 3 wc w.heap.size (fun _ => True) v797 t795) ∧ Aside0 (Below w.heap.size w wc))
    case first =>
     have H := HC12.out
     clear HC12
     by_cases c21 : t796 = 0
     ·rw [if_pos c21] at H
      have c21b0 : (t796 == 0) = true := beq_iff_eq.mpr c21
      have c21b1 : (t796 != 0) = false := bne_eq_false_iff_eq.mpr c21
      clear c21
      (first | rw [c21b0] | (simp only [i64_w, i32_w]; rw [c21b0]) | skip)
      have H' := Aside0.mk H
      clear H
      obtain ⟨Ao22, co22, eo22⟩ := Kd.R_slice HO798.out
      subst eo22
      go_wp2
      go_meet
      case rel => exact ⟨_, (decide ((t795.length : Int) > (y786.length : Int))), (by first | rfl | (simp; done) | (simp [*]; done)), H', ⟨by first | omega | exact Nat.le_refl _⟩, ⟨by (with_reducible repeat (first | apply Kd.R_alloc | apply Kd.R_drewN | apply Kd.R_drew)); exact HO788.out⟩, ⟨by (with_reducible repeat (first | apply Kd.R_alloc | apply Kd.R_drewN | apply Kd.R_drew)); exact HO798.out⟩, ⟨by repeat (first | (with_reducible first | exact HB.out | apply below_alloc | apply pw_below_drewN | apply below_drew1 | refine below_set ?_ (IsS86.ge HI777.out)) | exact HB.out)⟩⟩
     ·rw [if_neg c21] at H
      have c21b0 : (t796 == 0) = false := beq_eq_false_iff_ne.mpr c21
      have c21b1 : (t796 != 0) = true := bne_iff_ne.mpr c21
      (first | rw [c21b0] | (simp only [i64_w, i32_w]; rw [c21b0]) | skip)
      have H' := Aside0.mk H
      clear H
      go_wp2
      go_meet
      case rel => exact ⟨_, (true), (by first | rfl | (simp; done) | (simp [*]; done)), H', ⟨by first | omega | exact Nat.le_refl _⟩, ⟨by (with_reducible repeat (first | apply Kd.R_alloc | apply Kd.R_drewN | apply Kd.R_drew)); exact HO788.out⟩, ⟨by (with_reducible repeat (first | apply Kd.R_alloc | apply Kd.R_drewN | apply Kd.R_drew)); exact HO798.out⟩, ⟨by repeat (first | (with_reducible first | exact HB.out | apply below_alloc | apply pw_below_drewN | apply below_drew1 | refine below_set ?_ (IsS86.ge HI777.out)) | exact HB.out)⟩⟩
    case rest => as_aux_lemma =>
     clear HC12
     try clear c1
     try clear c2
     try clear p2
     try clear c4
     try clear c5
     try clear c6
     try clear p6
     try clear c7
     try clear c7b0
     try clear p7
     try clear q7
     try clear hx7
     try clear c8
     try clear c8b0
     try clear c19
     try clear c21
     try clear c21b0
     try clear c21b1
     try clear hx789_0
     try clear p789
     try clear q789
     obtain ⟨kq, x55_11, rfl, HA, HJ11, HO_4, HO_8, HB⟩ := hcut
     cases kq with
     | zero => exact absurd HA.out (by simp [wayzgooselaw03_NameCut.j0])
     | succ kj11 =>
      have H := HA.out
      clear HA
      simp only [wayzgooselaw03_NameCut.j0] at H
      by_cases c23 : x55_11 = true
      ·subst c23
       have H1 : (some false) = some r := by rw [if_pos rfl] at H; exact H
       clear H
       have H := H1
       clear H1
       obtain rfl := Option.some.inj H
       go_wp2
       go_ret
       exact ⟨by first | rfl | (simp [errW_none, errW_some] <;> rfl) | (simp only [← hji6]; first | rfl | (simp [errW_none, errW_some] <;> rfl)) | (simp [*, errW_none, errW_some] <;> rfl), by repeat (first | (with_reducible first | exact HB.out | apply below_alloc | apply pw_below_drewN | apply below_drew1) | exact HB.out)⟩
      ·replace c23 := Bool.eq_false_iff.mpr c23
       subst c23
       have H1 : (wayzgooselaw03_NameCut.l0 kj11 y786 t792 t795 0) = some r := by rw [if_neg (show ¬ (false = true) by decide)] at H; exact H
       clear H
       have H := H1
       clear H1
       have H' := Aside0.mk H
       clear H
       go_wp2
       go_loopg [10] kj11 (fun kq v10 w' => ∃ (x10_2 : Int), v10 = .int .i64 x10_2 ∧ Aside0 (wayzgooselaw03_NameCut.l0 kq y786 t792 t795 x10_2 = some r) ∧ Aside0 (kq ≤ kj11) ∧ Aside0 (Kd.R Kd.string 9 w' w.heap.size (fun _ => True) (.slice (some ad789) y786.length co17) y786) ∧ Aside0 (Kd.R (Kd.int .i64) 3 w' w.heap.size (fun _ => True) v797 t795) ∧ Aside0 (Below w.heap.size w w'))
       case atStart => exact ⟨(0), (by first | rfl | (simp; done) | (simp [*]; done)), H', ⟨Nat.le_refl _⟩, ⟨by (with_reducible repeat (first | apply Kd.R_alloc | apply Kd.R_drewN | apply Kd.R_drew)); exact HO_4.out⟩, ⟨by (with_reducible repeat (first | apply Kd.R_alloc | apply Kd.R_drewN | apply Kd.R_drew)); exact HO_8.out⟩, ⟨by repeat (first | (with_reducible first | exact HB.out | apply below_alloc | apply pw_below_drewN | apply below_drew1) | exact HB.out)⟩⟩
       case round => as_aux_lemma =>
        clear H'
        try clear c1
        try clear c2
        try clear p2
        try clear c4
        try clear c5
        try clear c6
        try clear p6
        try clear c7
        try clear c7b0
        try clear p7
        try clear q7
        try clear hx7
        try clear c8
        try clear c8b0
        try clear c19
        try clear c21
        try clear c21b0
        try clear c21b1
        try clear c23
        try clear hx789_0
        try clear p2
        try clear p6
        try clear p7
        try clear p789
        try clear q7
        try clear q789
        obtain ⟨x10_2, rfl, HA, HK2, HO_4, HO_8, HB⟩ := hrel
        cases gk with
        | zero => exact absurd HA.out (by simp [wayzgooselaw03_NameCut.l0])
        | succ k2 =>
         have H := HA.out
         clear HA
         simp only [wayzgooselaw03_NameCut.l0] at H
         by_cases c24 : x10_2 < (t795.length : Int)
         ·rw [if_pos c24] at H
          have c24b0 : decide (x10_2 < (t795.length : Int)) = true := decide_eq_true c24
          clear c24
          have HC25 := Aside0.mk H
          clear H
          obtain ⟨Ao26, co26, eo26⟩ := Kd.R_slice HO_8.out
          subst eo26
          go_upto_region 11 with (fail)
          go_cut [75] (fun v75 wc => ∃ (kq : Nat) (x75_24 : Bool), v75 = .bool x75_24 ∧ Aside0 (wayzgooselaw03_NameCut.j2 kq y786 t792 t795 x10_2 x75_24 = some r) ∧ Aside0 (kq ≤ k2) ∧ Aside0 (Kd.R Kd.string 9 wc w.heap.size (fun _ => True) (.slice (some ad789) y786.length co17) y786) ∧ Aside0 (Kd.R (Kd.int .i64) 3 wc w.heap.size (fun _ => True) (.slice Ao26 t795.length co26) t795) ∧ Aside0 (Below w.heap.size w wc))
          case first =>
           have H := HC25.out
           clear HC25
           by_cases c27 : 0 ≤ x10_2
           ·rw [if_pos c27] at H
            have c27b0 : decide (0 ≤ x10_2) = true := decide_eq_true c27
            clear c27
            (first | rw [c27b0] | (simp only [i64_w, i32_w]; rw [c27b0]) | skip)
            by_cases c28 : (rd t795 x10_2) < 0
            ·rw [if_pos c28] at H
             have c28b0 : decide ((rd t795 x10_2) < 0) = true := decide_eq_true c28
             clear c28
             have H' := Aside0.mk H
             clear H
             have p799 : 0 ≤ (x10_2 : Int) := of_decide_eq_true (by first | (with_reducible assumption) | assumption)
             have q799 : x10_2 < (t795.length : Int) := of_decide_eq_true (by first | (with_reducible assumption) | assumption)
             obtain ⟨ad799, e799, hx799_0⟩ := Kd.at_int (Kd.R_reads' HO_8.out).2.2 x10_2 p799 q799
             cases e799
             replace p799 := eq_true p799
             replace q799 := eq_true q799
             go_wp2
             go_meet
             case rel => exact ⟨_, (true), (by first | rfl | (simp; done) | (simp [*]; done)), H', ⟨by have := HJ11.out; have := HK2.out; first | omega | exact Nat.le_refl _⟩, ⟨by (with_reducible repeat (first | apply Kd.R_alloc | apply Kd.R_drewN | apply Kd.R_drew)); exact HO_4.out⟩, ⟨by (with_reducible repeat (first | apply Kd.R_alloc | apply Kd.R_drewN | apply Kd.R_drew)); exact HO_8.out⟩, ⟨by repeat (first | (with_reducible first | exact HB.out | apply below_alloc | apply pw_below_drewN | apply below_drew1) | exact HB.out)⟩⟩
            ·rw [if_neg c28] at H
             have c28b0 : decide ((rd t795 x10_2) < 0) = false := decide_eq_false c28
             clear c28
             have H' := Aside0.mk H
             clear H
             have p799 : 0 ≤ (x10_2 : Int) := of_decide_eq_true (by first | (with_reducible assumption) | assumption)
             have q799 : x10_2 < (t795.length : Int) := of_decide_eq_true (by first | (with_reducible assumption) | assumption)
             obtain ⟨ad799, e799, hx799_0⟩ := Kd.at_int (Kd.R_reads' HO_8.out).2.2 x10_2 p799 q799
             cases e799
             replace p799 := eq_true p799
             replace q799 := eq_true q799
             have p800 : 0 ≤ (x10_2 : Int) := of_decide_eq_true (by first | (with_reducible assumption) | assumption)
             have q800 : x10_2 < (t795.length : Int) := of_decide_eq_true (by first | (with_reducible assumption) | assumption)
             obtain ⟨ad800, e800, hx800_0⟩ := Kd.at_int (Kd.R_reads' HO_8.out).2.2 x10_2 p800 q800
             obtain rfl : ad799 = ad800 := (by injection e800)
             replace p800 := eq_true p800
             replace q800 := eq_true q800
             go_wp2
             go_meet
             case rel => exact ⟨_, (decide ((rd t795 x10_2) ≥ (y786.length : Int))), (by first | rfl | (simp; done) | (simp [*]; done)), H', ⟨by have := HJ11.out; have := HK2.out; first | omega | exact Nat.le_refl _⟩, ⟨by (with_reducible repeat (first | apply Kd.R_alloc | apply Kd.R_drewN | apply Kd.R_drew)); exact HO_4.out⟩, ⟨by (with_reducible repeat (first | apply Kd.R_alloc | apply Kd.R_drewN | apply Kd.R_drew)); exact HO_8.out⟩, ⟨by repeat (first | (with_reducible first | exact HB.out | apply below_alloc | apply pw_below_drewN | apply below_drew1) | exact HB.out)⟩⟩
           ·rw [if_neg c27] at H
            exact absurd H (by simp)
          case rest => as_aux_lemma =>
           clear HC25
           try clear c1
           try clear c2
           try clear p2
           try clear c4
           try clear c5
           try clear c6
           try clear p6
           try clear c7
           try clear c7b0
           try clear p7
           try clear q7
           try clear hx7
           try clear c8
           try clear c8b0
           try clear p8
           try clear q8
           try clear hx8
           try clear c19
           try clear c21
           try clear c21b0
           try clear c21b1
           try clear c23
           try clear c24
           try clear c24b0
           try clear c25
           try clear c27
           try clear c27b0
           try clear c28
           try clear c28b0
           try clear hx789_0
           try clear hx799_0
           try clear hx800_0
           try clear p2
           try clear p6
           try clear p7
           try clear p789
           try clear p799
           try clear p800
           try clear q7
           try clear q789
           try clear q799
           try clear q800
           obtain ⟨kq, x75_24, rfl, HA, HJ24, HO_4, HO_8, HB⟩ := hcut
           cases kq with
           | zero => exact absurd HA.out (by simp [wayzgooselaw03_NameCut.j2])
           | succ kj24 =>
            have H := HA.out
            clear HA
            simp only [wayzgooselaw03_NameCut.j2] at H
            by_cases c29 : x75_24 = true
            ·subst c29
             have H1 : (some false) = some r := by rw [if_pos rfl] at H; exact H
             clear H
             have H := H1
             clear H1
             obtain rfl := Option.some.inj H
             go_wp2
             go_ret
             exact ⟨by first | rfl | (simp [errW_none, errW_some] <;> rfl) | (simp only [← hji6]; first | rfl | (simp [errW_none, errW_some] <;> rfl)) | (simp [*, errW_none, errW_some] <;> rfl), by repeat (first | (with_reducible first | exact HB.out | apply below_alloc | apply pw_below_drewN | apply below_drew1) | exact HB.out)⟩
            ·replace c29 := Bool.eq_false_iff.mpr c29
             subst c29
             have H1 : (if 0 ≤ x10_2 then (if x10_2 < (t795.length : Int) then (if 0 ≤ (rd t795 x10_2) then (if (rd t795 x10_2) < (y786.length : Int) then ((name_Key.f (rdOf ByteArray.empty y786 (rd t795 x10_2))).bind fun bt803 => (if bt803.2 = 0 then (if (bt803.1.size : Int) < (t792.size : Int) then (some false) else (wayzgooselaw03_NameCut.l0 kj24 y786 t792 t795 (wrap64 (x10_2 + 1)))) else (some false))) else (none)) else (none)) else (none)) else (none)) = some r := by rw [if_neg (show ¬ (false = true) by decide)] at H; exact H
             clear H
             have H := H1
             clear H1
             by_cases c30 : 0 ≤ x10_2
             ·rw [if_pos c30] at H
              have c30b0 : decide (0 ≤ x10_2) = true := decide_eq_true c30
              clear c30
              by_cases c31 : x10_2 < (t795.length : Int)
              ·rw [if_pos c31] at H
               have c31b0 : decide (x10_2 < (t795.length : Int)) = true := decide_eq_true c31
               clear c31
               by_cases c32 : 0 ≤ (rd t795 x10_2)
               ·rw [if_pos c32] at H
                have c32b0 : decide (0 ≤ (rd t795 x10_2)) = true := decide_eq_true c32
                clear c32
                by_cases c33 : (rd t795 x10_2) < (y786.length : Int)
                ·rw [if_pos c33] at H
                 have c33b0 : decide ((rd t795 x10_2) < (y786.length : Int)) = true := decide_eq_true c33
                 clear c33
                 replace H := Option.bind_eq_some_iff.mp H
                 obtain ⟨⟨t803, t804⟩, A340, H⟩ := H
                 replace H : (if t804 = 0 then (if (t803.size : Int) < (t792.size : Int) then (some false) else (wayzgooselaw03_NameCut.l0 kj24 y786 t792 t795 (wrap64 (x10_2 + 1)))) else (some false)) = some r := H
                 have A34 := Aside0.mk A340
                 clear A340
                 by_cases c35 : t804 = 0
                 ·rw [if_pos c35] at H
                  have c35b0 : (t804 == 0) = true := beq_iff_eq.mpr c35
                  have c35b1 : (t804 != 0) = false := bne_eq_false_iff_eq.mpr c35
                  clear c35
                  by_cases c36 : (t803.size : Int) < (t792.size : Int)
                  ·rw [if_pos c36] at H
                   have c36b0 : decide ((t803.size : Int) < (t792.size : Int)) = true := decide_eq_true c36
                   have c36b1 : decide (t803.size < t792.size) = true := decide_eq_true (Int.ofNat_lt.mp c36)
                   clear c36
                   obtain rfl := Option.some.inj H
                   have p801 : 0 ≤ (x10_2 : Int) := of_decide_eq_true (by first | (with_reducible assumption) | assumption)
                   have q801 : x10_2 < (t795.length : Int) := of_decide_eq_true (by first | (with_reducible assumption) | assumption)
                   obtain ⟨ad801, e801, hx801_0⟩ := Kd.at_int (Kd.R_reads' HO_8.out).2.2 x10_2 p801 q801
                   cases e801
                   replace p801 := eq_true p801
                   replace q801 := eq_true q801
                   have p802 : 0 ≤ ((rd t795 x10_2) : Int) := of_decide_eq_true (by first | (with_reducible assumption) | assumption)
                   have q802 : (rd t795 x10_2) < (y786.length : Int) := of_decide_eq_true (by first | (with_reducible assumption) | assumption)
                   obtain ⟨ad802, e802, hx802_0⟩ := Kd.at_string (Kd.R_reads' HO_4.out).2.2 (rd t795 x10_2) p802 q802
                   obtain rfl : ad789 = ad802 := (by injection e802)
                   replace p802 := eq_true p802
                   replace q802 := eq_true q802
                   go_wp2_with (first | ((with_reducible refine gate_callee (f := 37) rfl ?_); refine goesL_ (some 84) rfl rfl Tryz.func37 (by kernel_rfl) rfl #[.string (rdOf ByteArray.empty y786 (rd t795 x10_2))] rfl (by (try simp only [List.map_toArray, List.map_cons, List.map_nil]); first | done | rfl | (simp only [List.length_drop, List.length_take]; rfl)) ?_; (with_reducible refine (name_Key.calls (rdOf ByteArray.empty y786 (rd t795 x10_2)) t803 t804 _ A34.out).mono ?_); rintro e w37 ⟨rfl, hb⟩; refine ⟨_, rfl, ?_⟩; have n0_ := Aside0.mk (Kd.R_below (by (with_reducible repeat (first | apply Kd.R_alloc | apply Kd.R_drewN | apply Kd.R_drew)); exact HO_4.out) hb); have n1_ := Aside0.mk (Kd.R_below (by (with_reducible repeat (first | apply Kd.R_alloc | apply Kd.R_drewN | apply Kd.R_drew)); exact HO_8.out) hb); have n2_ := Aside0.mk (below_step (by repeat (first | (with_reducible first | exact HB.out | apply below_alloc | apply pw_below_drewN | apply below_drew1) | exact HB.out)) hb); clear HO_4; clear HO_8; clear HB; have HO_4 := n0_; have HO_8 := n1_; have HB := n2_; clear n0_ n1_ n2_; (try clear hb); (try clear hb2); (try clear hk); (try clear hi)))
                   go_ret
                   exact ⟨by first | rfl | (simp [errW_none, errW_some] <;> rfl) | (simp only [← hji6]; first | rfl | (simp [errW_none, errW_some] <;> rfl)) | (simp [*, errW_none, errW_some] <;> rfl), by repeat (first | (with_reducible first | exact HB.out | apply below_alloc | apply pw_below_drewN | apply below_drew1) | exact HB.out)⟩
                  ·rw [if_neg c36] at H
                   have c36b0 : decide ((t803.size : Int) < (t792.size : Int)) = false := decide_eq_false c36
                   have c36b1 : decide (t803.size < t792.size) = false := decide_eq_false (fun h => c36 (Int.ofNat_lt.mpr h))
                   clear c36
                   have H' := Aside0.mk H
                   clear H
                   have p801 : 0 ≤ (x10_2 : Int) := of_decide_eq_true (by first | (with_reducible assumption) | assumption)
                   have q801 : x10_2 < (t795.length : Int) := of_decide_eq_true (by first | (with_reducible assumption) | assumption)
                   obtain ⟨ad801, e801, hx801_0⟩ := Kd.at_int (Kd.R_reads' HO_8.out).2.2 x10_2 p801 q801
                   cases e801
                   replace p801 := eq_true p801
                   replace q801 := eq_true q801
                   have p802 : 0 ≤ ((rd t795 x10_2) : Int) := of_decide_eq_true (by first | (with_reducible assumption) | assumption)
                   have q802 : (rd t795 x10_2) < (y786.length : Int) := of_decide_eq_true (by first | (with_reducible assumption) | assumption)
                   obtain ⟨ad802, e802, hx802_0⟩ := Kd.at_string (Kd.R_reads' HO_4.out).2.2 (rd t795 x10_2) p802 q802
                   obtain rfl : ad789 = ad802 := (by injection e802)
                   replace p802 := eq_true p802
                   replace q802 := eq_true q802
                   go_wp2_with (first | ((with_reducible refine gate_callee (f := 37) rfl ?_); refine goesL_ (some 84) rfl rfl Tryz.func37 (by kernel_rfl) rfl #[.string (rdOf ByteArray.empty y786 (rd t795 x10_2))] rfl (by (try simp only [List.map_toArray, List.map_cons, List.map_nil]); first | done | rfl | (simp only [List.length_drop, List.length_take]; rfl)) ?_; (with_reducible refine (name_Key.calls (rdOf ByteArray.empty y786 (rd t795 x10_2)) t803 t804 _ A34.out).mono ?_); rintro e w38 ⟨rfl, hb⟩; refine ⟨_, rfl, ?_⟩; have n0_ := Aside0.mk (Kd.R_below (by (with_reducible repeat (first | apply Kd.R_alloc | apply Kd.R_drewN | apply Kd.R_drew)); exact HO_4.out) hb); have n1_ := Aside0.mk (Kd.R_below (by (with_reducible repeat (first | apply Kd.R_alloc | apply Kd.R_drewN | apply Kd.R_drew)); exact HO_8.out) hb); have n2_ := Aside0.mk (below_step (by repeat (first | (with_reducible first | exact HB.out | apply below_alloc | apply pw_below_drewN | apply below_drew1) | exact HB.out)) hb); clear HO_4; clear HO_8; clear HB; have HO_4 := n0_; have HO_8 := n1_; have HB := n2_; clear n0_ n1_ n2_; (try clear hb); (try clear hb2); (try clear hk); (try clear hi)))
                   go_roundg kj24
                   case measure => have := HJ11.out; have := HK2.out; have := HJ24.out; omega
                   case rel => exact ⟨(wrap64 (x10_2 + 1)), (by first | rfl | (simp; done) | (simp [*]; done)), H', ⟨by have := HJ11.out; have := HK2.out; have := HJ24.out; omega⟩, ⟨by (with_reducible repeat (first | apply Kd.R_alloc | apply Kd.R_drewN | apply Kd.R_drew)); exact HO_4.out⟩, ⟨by (with_reducible repeat (first | apply Kd.R_alloc | apply Kd.R_drewN | apply Kd.R_drew)); exact HO_8.out⟩, ⟨by repeat (first | (with_reducible first | exact HB.out | apply below_alloc | apply pw_below_drewN | apply below_drew1) | exact HB.out)⟩⟩
                 ·rw [if_neg c35] at H
                  have c35b0 : (t804 == 0) = false := beq_eq_false_iff_ne.mpr c35
                  have c35b1 : (t804 != 0) = true := bne_iff_ne.mpr c35
                  obtain rfl := Option.some.inj H
                  have p801 : 0 ≤ (x10_2 : Int) := of_decide_eq_true (by first | (with_reducible assumption) | assumption)
                  have q801 : x10_2 < (t795.length : Int) := of_decide_eq_true (by first | (with_reducible assumption) | assumption)
                  obtain ⟨ad801, e801, hx801_0⟩ := Kd.at_int (Kd.R_reads' HO_8.out).2.2 x10_2 p801 q801
                  cases e801
                  replace p801 := eq_true p801
                  replace q801 := eq_true q801
                  have p802 : 0 ≤ ((rd t795 x10_2) : Int) := of_decide_eq_true (by first | (with_reducible assumption) | assumption)
                  have q802 : (rd t795 x10_2) < (y786.length : Int) := of_decide_eq_true (by first | (with_reducible assumption) | assumption)
                  obtain ⟨ad802, e802, hx802_0⟩ := Kd.at_string (Kd.R_reads' HO_4.out).2.2 (rd t795 x10_2) p802 q802
                  obtain rfl : ad789 = ad802 := (by injection e802)
                  replace p802 := eq_true p802
                  replace q802 := eq_true q802
                  go_wp2_with (first | ((with_reducible refine gate_callee (f := 37) rfl ?_); refine goesL_ (some 84) rfl rfl Tryz.func37 (by kernel_rfl) rfl #[.string (rdOf ByteArray.empty y786 (rd t795 x10_2))] rfl (by (try simp only [List.map_toArray, List.map_cons, List.map_nil]); first | done | rfl | (simp only [List.length_drop, List.length_take]; rfl)) ?_; (with_reducible refine (name_Key.calls (rdOf ByteArray.empty y786 (rd t795 x10_2)) t803 t804 _ A34.out).mono ?_); rintro e w39 ⟨rfl, hb⟩; refine ⟨_, rfl, ?_⟩; have n0_ := Aside0.mk (Kd.R_below (by (with_reducible repeat (first | apply Kd.R_alloc | apply Kd.R_drewN | apply Kd.R_drew)); exact HO_4.out) hb); have n1_ := Aside0.mk (Kd.R_below (by (with_reducible repeat (first | apply Kd.R_alloc | apply Kd.R_drewN | apply Kd.R_drew)); exact HO_8.out) hb); have n2_ := Aside0.mk (below_step (by repeat (first | (with_reducible first | exact HB.out | apply below_alloc | apply pw_below_drewN | apply below_drew1) | exact HB.out)) hb); clear HO_4; clear HO_8; clear HB; have HO_4 := n0_; have HO_8 := n1_; have HB := n2_; clear n0_ n1_ n2_; (try clear hb); (try clear hb2); (try clear hk); (try clear hi)))
                  go_ret
                  exact ⟨by first | rfl | (simp [errW_none, errW_some] <;> rfl) | (simp only [← hji6]; first | rfl | (simp [errW_none, errW_some] <;> rfl)) | (simp [*, errW_none, errW_some] <;> rfl), by repeat (first | (with_reducible first | exact HB.out | apply below_alloc | apply pw_below_drewN | apply below_drew1) | exact HB.out)⟩
                ·rw [if_neg c33] at H
                 exact absurd H (by simp)
               ·rw [if_neg c32] at H
                exact absurd H (by simp)
              ·rw [if_neg c31] at H
               exact absurd H (by simp)
             ·rw [if_neg c30] at H
              exact absurd H (by simp)
         ·rw [if_neg c24] at H
          have c24b0 : decide (x10_2 < (t795.length : Int)) = false := decide_eq_false c24
          clear c24
          have H' := Aside0.mk H
          clear H
          obtain ⟨Ao40, co40, eo40⟩ := Kd.R_slice HO_8.out
          subst eo40
          go_wp2
          go_loopg [13] k2 (fun kq v13 w' => ∃ (x13_3 : Int), v13 = .int .i64 x13_3 ∧ Aside0 (wayzgooselaw03_NameCut.l1 kq y786 t792 t795 x13_3 = some r) ∧ Aside0 (kq ≤ k2) ∧ Aside0 (Kd.R Kd.string 9 w' w.heap.size (fun _ => True) (.slice (some ad789) y786.length co17) y786) ∧ Aside0 (Kd.R (Kd.int .i64) 3 w' w.heap.size (fun _ => True) (.slice Ao40 t795.length co40) t795) ∧ Aside0 (Below w.heap.size w w'))
          case atStart => exact ⟨(1), (by first | rfl | (simp; done) | (simp [*]; done)), H', ⟨Nat.le_refl _⟩, ⟨by (with_reducible repeat (first | apply Kd.R_alloc | apply Kd.R_drewN | apply Kd.R_drew)); exact HO_4.out⟩, ⟨by (with_reducible repeat (first | apply Kd.R_alloc | apply Kd.R_drewN | apply Kd.R_drew)); exact HO_8.out⟩, ⟨by repeat (first | (with_reducible first | exact HB.out | apply below_alloc | apply pw_below_drewN | apply below_drew1) | exact HB.out)⟩⟩
          case round => as_aux_lemma =>
           clear H'
           try clear c1
           try clear c2
           try clear p2
           try clear c3
           try clear c4
           try clear c5
           try clear c6
           try clear p6
           try clear c7
           try clear c7b0
           try clear p7
           try clear q7
           try clear hx7
           try clear c8
           try clear c8b0
           try clear p8
           try clear q8
           try clear hx8
           try clear c19
           try clear c21
           try clear c21b0
           try clear c21b1
           try clear c23
           try clear c24
           try clear c24b0
           try clear c25
           try clear c27
           try clear c27b0
           try clear c28
           try clear c28b0
           try clear c29
           try clear c30
           try clear c30b0
           try clear c31
           try clear c31b0
           try clear c32
           try clear c32b0
           try clear c33
           try clear c33b0
           try clear c35
           try clear c35b0
           try clear c35b1
           try clear c36
           try clear c36b0
           try clear c36b1
           try clear c37
           try clear hx789_0
           try clear hx799_0
           try clear hx800_0
           try clear hx801_0
           try clear hx802_0
           try clear p2
           try clear p6
           try clear p7
           try clear p789
           try clear p799
           try clear p8
           try clear p800
           try clear p801
           try clear p802
           try clear q7
           try clear q789
           try clear q799
           try clear q8
           try clear q800
           try clear q801
           try clear q802
           obtain ⟨x13_3, rfl, HA, HK3, HO_4, HO_8, HB⟩ := hrel
           cases gk with
           | zero => exact absurd HA.out (by simp [wayzgooselaw03_NameCut.l1])
           | succ k3 =>
            have H := HA.out
            clear HA
            simp only [wayzgooselaw03_NameCut.l1] at H
            by_cases c41 : x13_3 < (wrap64 ((t792.size : Int) - 1))
            ·rw [if_pos c41] at H
             have c41b0 : decide (x13_3 < (wrap64 ((t792.size : Int) - 1))) = true := decide_eq_true c41
             clear c41
             by_cases c42 : 0 ≤ x13_3
             ·rw [if_pos c42] at H
              have c42b0 := eq_true c42
              have c42b1 : decide (0 ≤ x13_3) = true := decide_eq_true c42
              clear c42
              by_cases c43 : x13_3 ≤ (t792.size : Int)
              ·rw [if_pos c43] at H
               have c43b0 := eq_true c43
               have c43b1 : decide (x13_3 ≤ (t792.size : Int)) = true := decide_eq_true c43
               clear c43
               obtain ⟨ji44, hji44⟩ : ∃ j_ : Int, (wrap64 (x13_3 + 1)) = j_ := ⟨_, rfl⟩
               replace H : (if 0 ≤ (ji44) then (if (ji44) ≤ (t792.size : Int) then (if (t792.extract 0 (x13_3 : Int).toNat).size + (t792.extract ((ji44) : Int).toNat t792.size).size ≤ 9223372036854775807 then ((name_Stands.f ((t792.extract 0 (x13_3 : Int).toNat) ++ (t792.extract ((ji44) : Int).toNat t792.size)) y786).bind fun bt805 => (if bt805.2 = 0 then (wayzgooselaw03_NameCut.l2 k3 y786 t792 t795 x13_3 bt805.1 0) else (some false))) else (none)) else (none)) else (none)) = some r := by first | (rw [hji44] at H; exact H) | (simp only [hji44] at H ⊢; exact H)
               have hji44w : (IntKind.i64.wrap (x13_3 + 1)) = ji44 := (i64_w _).trans hji44
               by_cases c45 : 0 ≤ (ji44)
               ·rw [if_pos c45] at H
                have c45b0 := eq_true c45
                have c45b1 : decide (0 ≤ (ji44)) = true := decide_eq_true c45
                clear c45
                by_cases c46 : (ji44) ≤ (t792.size : Int)
                ·rw [if_pos c46] at H
                 have c46b0 := eq_true c46
                 have c46b1 : decide ((ji44) ≤ (t792.size : Int)) = true := decide_eq_true c46
                 clear c46
                 by_cases c47 : (t792.extract 0 (x13_3 : Int).toNat).size + (t792.extract ((ji44) : Int).toNat t792.size).size ≤ 9223372036854775807
                 ·rw [if_pos c47] at H
                  have c47b0 := eq_true c47
                  have c47b1 : decide ((t792.extract 0 (x13_3 : Int).toNat).size + (t792.extract ((ji44) : Int).toNat t792.size).size ≤ 9223372036854775807) = true := decide_eq_true c47
                  try have c47b2 : (9223372036854775807 < (t792.extract 0 (x13_3 : Int).toNat).size + (t792.extract ((ji44) : Int).toNat t792.size).size) = False := eq_false (Nat.not_lt.2 c47)
                  try have c47b3 : (9223372036854775807 < x13_3.toNat + (t792.size - ji44.toNat)) = False := eq_false (by have h := Nat.not_lt.2 c47; have h2 := of_decide_eq_true c43b1; simp only [ByteArray.size_extract] at h; omega)
                  replace H := Option.bind_eq_some_iff.mp H
                  obtain ⟨⟨t805, t806⟩, A480, H⟩ := H
                  replace H : (if t806 = 0 then (wayzgooselaw03_NameCut.l2 k3 y786 t792 t795 x13_3 t805 0) else (some false)) = some r := H
                  have A48 := Aside0.mk A480
                  clear A480
                  by_cases c49 : t806 = 0
                  ·rw [if_pos c49] at H
                   have c49b0 : (t806 == 0) = true := beq_iff_eq.mpr c49
                   have c49b1 : (t806 != 0) = false := bne_eq_false_iff_eq.mpr c49
                   clear c49
                   have H' := Aside0.mk H
                   clear H
                   try go_wp2
                   have n0_ := Aside0.mk (Kd.R_drew HO_4.out)
                   have n1_ := Aside0.mk (Kd.R_drew HO_8.out)
                   have n2_ := Aside0.mk (below_drew1 HB.out)
                   clear HO_4
                   clear HO_8
                   clear HB
                   have HO_4 := n0_
                   have HO_8 := n1_
                   have HB := n2_
                   clear n0_ n1_ n2_
                   refine start_ (n := 15) (S := fun w' => True) (ds := []) #[false, false, false, false, false, false, false, false, false, false, false, false, false, false, false] (by kernel_rfl) rfl rfl trivial (fun hHeld => ?_); refine with_tabW wayzgooselaw03_NameCut.tab19 wayzgooselaw03_NameCut.bits19 (fun HT_ HW_ => ?_)
                   generalize wr.drew = w50 at HO_4 HO_8 HB hHeld ⊢
                   refine pure_ (i := 0) (N := some 104) (v := ?_) (a' := ?_) #[true, false, false, false, false, false, false, false, false, false, false, false, false, false, false] rfl rfl (any_of HT_.out (by kernel_rfl)) (fun _ _ _ h => h) (Or.inl ⟨by rfl, ?_⟩) ?_ ?_
                   rotate_left
                   ·intro w'
                    go_simp
                    with_reducible rfl
                   rotate_left
                   ·simp only [Act.put, List.setIfInBounds_toArray, List.set_cons_zero, List.set_cons_succ, i64_w, i32_w]
                    rfl
                   refine pure_ (i := 1) (N := some 105) (v := ?_) (a' := ?_) #[true, true, false, false, false, false, false, false, false, false, false, false, false, false, false] rfl rfl (any_of HT_.out (by kernel_rfl)) (fun _ _ _ h => h) (Or.inl ⟨by rfl, ?_⟩) ?_ ?_
                   rotate_left
                   ·intro w'
                    go_simp
                    with_reducible rfl
                   rotate_left
                   ·simp only [Act.put, List.setIfInBounds_toArray, List.set_cons_zero, List.set_cons_succ, i64_w, i32_w]
                    rfl
                   refine pure_ (i := 2) (N := some 106) (v := ?_) (a' := ?_) #[true, true, true, false, false, false, false, false, false, false, false, false, false, false, false] rfl rfl (any_of HT_.out (by kernel_rfl)) (fun _ _ _ h => h) (Or.inl ⟨by rfl, ?_⟩) ?_ ?_
                   rotate_left
                   ·intro w'
                    go_simp
                    with_reducible rfl
                   rotate_left
                   ·simp only [Act.put, List.setIfInBounds_toArray, List.set_cons_zero, List.set_cons_succ, i64_w, i32_w]
                    rfl
                   refine pure_ (i := 3) (N := some 107) (v := ?_) (a' := ?_) #[true, true, true, true, false, false, false, false, false, false, false, false, false, false, false] rfl rfl (any_of HT_.out (by kernel_rfl)) (fun _ _ _ h => h) (Or.inl ⟨by rfl, ?_⟩) ?_ ?_
                   rotate_left
                   ·intro w'
                    go_simp
                    with_reducible rfl
                   rotate_left
                   ·simp only [Act.put, List.setIfInBounds_toArray, List.set_cons_zero, List.set_cons_succ, i64_w, i32_w]
                    rfl
                   refine pure_ (i := 4) (N := some 108) (v := ?_) (a' := ?_) #[true, true, true, true, true, false, false, false, false, false, false, false, false, false, false] rfl rfl (any_of HT_.out (by kernel_rfl)) (fun _ _ _ h => h) (Or.inl ⟨by rfl, ?_⟩) ?_ ?_
                   rotate_left
                   ·intro w'
                    go_simp
                    with_reducible rfl
                   rotate_left
                   ·simp only [Act.put, List.setIfInBounds_toArray, List.set_cons_zero, List.set_cons_succ, i64_w, i32_w]
                    rfl
                   refine pure_ (i := 5) (N := some 109) (v := ?_) (a' := ?_) #[true, true, true, true, true, true, false, false, false, false, false, false, false, false, false] rfl rfl (any_of HT_.out (by kernel_rfl)) (fun _ _ _ h => h) (Or.inl ⟨by rfl, ?_⟩) ?_ ?_
                   rotate_left
                   ·intro w'
                    go_simp
                    with_reducible rfl
                   rotate_left
                   ·simp only [Act.put, List.setIfInBounds_toArray, List.set_cons_zero, List.set_cons_succ, i64_w, i32_w]
                    rfl
                   refine pure_ (i := 6) (N := some 110) (v := ?_) (a' := ?_) #[true, true, true, true, true, true, true, false, false, false, false, false, false, false, false] rfl rfl (any_of HT_.out (by kernel_rfl)) (fun _ _ _ h => h) (Or.inl ⟨by rfl, ?_⟩) ?_ ?_
                   rotate_left
                   ·intro w'
                    go_simp
                    with_reducible rfl
                   rotate_left
                   ·simp only [Act.put, List.setIfInBounds_toArray, List.set_cons_zero, List.set_cons_succ, i64_w, i32_w]
                    rfl
                   refine pure_ (i := 7) (N := some 111) (v := ?_) (a' := ?_) #[true, true, true, true, true, true, true, true, false, false, false, false, false, false, false] rfl rfl (any_of HT_.out (by kernel_rfl)) (fun _ _ _ h => h) (Or.inl ⟨by rfl, ?_⟩) ?_ ?_
                   rotate_left
                   ·intro w'
                    go_simp
                    with_reducible rfl
                   rotate_left
                   ·simp only [Act.put, List.setIfInBounds_toArray, List.set_cons_zero, List.set_cons_succ, i64_w, i32_w]
                    rfl
                   refine pure_ (i := 8) (N := some 112) (v := ?_) (a' := ?_) #[true, true, true, true, true, true, true, true, true, false, false, false, false, false, false] rfl rfl (any_of HT_.out (by kernel_rfl)) (fun _ _ _ h => h) (Or.inl ⟨by rfl, ?_⟩) ?_ ?_
                   rotate_left
                   ·intro w'
                    go_simp
                    with_reducible rfl
                   rotate_left
                   ·simp only [Act.put, List.setIfInBounds_toArray, List.set_cons_zero, List.set_cons_succ, i64_w, i32_w]
                    rfl
                   refine one_ (i := 9) (N := some 113) #[true, true, true, true, true, true, true, true, true, true, false, false, false, false, false] rfl rfl (one_of HT_.out (by kernel_rfl)) (by decide) (fun K hK => ?_)
                   refine goes_ Tryz.func72 (by kernel_rfl) rfl #[.string ((t792.extract 0 (x13_3 : Int).toNat) ++ (t792.extract ((ji44) : Int).toNat t792.size)), .slice (some ad789) y786.length co17] (by rfl) rfl rfl (by (try simp only [List.map_toArray, List.map_cons, List.map_nil]); first | done | (simp only [hji44]; rfl) | rfl | (simp only [List.length_drop, List.length_take]; rfl)) ?_
                   with_reducible refine (name_Stands.calls ((t792.extract 0 (x13_3 : Int).toNat) ++ (t792.extract ((ji44) : Int).toNat t792.size)) _ _ y786 t805 t806 _ ?side1 ?side2 A48.out).mono ?_
                   (case side1 => repeat (first | exact (Kd.R_reads' HO_4.out).2.2 | (with_reducible refine Kd.C_alloc ?_ _) | (with_reducible refine Kd.C_drewN ?_ _) | (with_reducible refine Kd.C_drew ?_)))
                   (case side2 => exact (Kd.R_reads' HO_4.out).2.1)
                   rintro e w51 ⟨v807, rfl, ho0, hb⟩
                   refine ⟨_, rfl, ?_⟩
                   have n0_ := Aside0.mk (Kd.R_below (by (with_reducible repeat (first | apply Kd.R_alloc | apply Kd.R_drewN | apply Kd.R_drew)); exact HO_4.out) hb)
                   have n1_ := Aside0.mk (Kd.R_elder' (by (with_reducible repeat (first | apply Kd.R_alloc | apply Kd.R_drewN | apply Kd.R_drew)); exact HO_8.out) (Kd.R_base ho0) hb)
                   have n2_ := Aside0.mk (Kd.R_lower (Kd.R_new' ho0 (Kd.R_lt (by (with_reducible repeat (first | apply Kd.R_alloc | apply Kd.R_drewN | apply Kd.R_drew)); exact HO_8.out))) (below_size (by repeat (first | (with_reducible first | exact HB.out | apply below_alloc | apply pw_below_drewN | apply below_drew1) | exact HB.out))))
                   have n3_ := Aside0.mk (below_step (by repeat (first | (with_reducible first | exact HB.out | apply below_alloc | apply pw_below_drewN | apply below_drew1) | exact HB.out)) hb)
                   clear HO_4
                   clear HO_8
                   clear HB
                   have HO_4 := n0_
                   have HO_8 := n1_
                   have HO808 := n2_
                   have HB := n3_
                   clear n0_ n1_ n2_ n3_
                   (try clear hb)
                   (try clear hb2)
                   (try clear hk)
                   (try clear hi)
                   (try clear ho0)
                   refine hK.out _ _ trivial (fun hHeld => ?_)
                   clear hK K
                   refine norm_ (a' := ?_) ?_ ?_
                   rotate_left
                   ·show Act.put _ (some 113) _ = _
                    simp only [Act.put, List.setIfInBounds_toArray, List.set_cons_zero, List.set_cons_succ, i64_w, i32_w]
                    rfl
                   refine pure_ (i := 10) (N := some 103) (v := ?_) (a' := ?_) #[true, true, true, true, true, true, true, true, true, true, true, false, false, false, false] rfl rfl (any_of HT_.out (by kernel_rfl)) (fun _ _ _ h => h) (Or.inl ⟨by rfl, ?_⟩) ?_ ?_
                   rotate_left
                   ·intro w'
                    go_simp
                    with_reducible rfl
                   rotate_left
                   ·simp only [Act.put, List.setIfInBounds_toArray, List.set_cons_zero, List.set_cons_succ, i64_w, i32_w]
                    rfl
                   refine pure_ (i := 11) (N := some 114) (v := ?_) (a' := ?_) #[true, true, true, true, true, true, true, true, true, true, true, true, false, false, false] rfl rfl (any_of HT_.out (by kernel_rfl)) (fun _ _ _ h => h) (Or.inl ⟨by rfl, ?_⟩) ?_ ?_
                   rotate_left
                   ·intro w'
                    go_simp
                    with_reducible rfl
                   rotate_left
                   ·simp only [Act.put, List.setIfInBounds_toArray, List.set_cons_zero, List.set_cons_succ, i64_w, i32_w]
                    rfl
                   refine pure_ (i := 12) (N := some 115) (v := ?_) (a' := ?_) #[true, true, true, true, true, true, true, true, true, true, true, true, true, false, false] rfl rfl (any_of HT_.out (by kernel_rfl)) (fun _ _ _ h => h) (Or.inl ⟨by rfl, ?_⟩) ?_ ?_
                   rotate_left
                   ·intro w'
                    go_simp
                    with_reducible rfl
                   rotate_left
                   ·simp only [Act.put, List.setIfInBounds_toArray, List.set_cons_zero, List.set_cons_succ, i64_w, i32_w]
                    rfl
                   refine pure_ (i := 13) (N := some 14) (v := ?_) (a' := ?_) #[true, true, true, true, true, true, true, true, true, true, true, true, true, true, false] rfl rfl (any_of HT_.out (by kernel_rfl)) (fun _ _ _ h => h) (Or.inl ⟨by rfl, ?_⟩) ?_ ?_
                   rotate_left
                   ·intro w'
                    go_simp
                    with_reducible rfl
                   rotate_left
                   ·simp only [Act.put, List.setIfInBounds_toArray, List.set_cons_zero, List.set_cons_succ, i64_w, i32_w]
                    rfl
                   refine pure_ (i := 14) (N := some 15) (v := ?_) (a' := ?_) #[true, true, true, true, true, true, true, true, true, true, true, true, true, true, true] rfl rfl (any_of HT_.out (by kernel_rfl)) (fun _ _ _ h => h) (Or.inl ⟨by rfl, ?_⟩) ?_ ?_
                   rotate_left
                   ·intro w'
                    go_simp
                    with_reducible rfl
                   rotate_left
                   ·simp only [Act.put, List.setIfInBounds_toArray, List.set_cons_zero, List.set_cons_succ, i64_w, i32_w]
                    rfl
                   refine done_ (done_of HT_.out (by kernel_rfl)) ?_
                   try go_wp2
                   go_loopg [16] k3 (fun kq v16 w' => ∃ (x16_4 : Int), v16 = .int .i64 x16_4 ∧ Aside0 (wayzgooselaw03_NameCut.l2 kq y786 t792 t795 x13_3 t805 x16_4 = some r) ∧ Aside0 (kq ≤ k3) ∧ Aside0 (Kd.R Kd.string 9 w' w.heap.size (fun _ => True) (.slice (some ad789) y786.length co17) y786) ∧ Aside0 (Kd.R (Kd.int .i64) 3 w' w.heap.size (fun k_ => some k_ ≠ (v807 : Value).ownBlock) (.slice Ao40 t795.length co40) t795) ∧ Aside0 (Kd.R (Kd.int .i64) 3 w' w.heap.size (fun k_ => some k_ ≠ ((.slice Ao40 t795.length co40) : Value).ownBlock) v807 t805) ∧ Aside0 (Below w.heap.size w w'))
                   case atStart => exact ⟨(0), (by first | rfl | (simp; done) | (simp [*]; done)), H', ⟨Nat.le_refl _⟩, ⟨by (with_reducible repeat (first | apply Kd.R_alloc | apply Kd.R_drewN | apply Kd.R_drew)); exact HO_4.out⟩, ⟨by (with_reducible repeat (first | apply Kd.R_alloc | apply Kd.R_drewN | apply Kd.R_drew)); exact Kd.R_mono HO_8.out (fun _ hk => hk.2)⟩, ⟨by (with_reducible repeat (first | apply Kd.R_alloc | apply Kd.R_drewN | apply Kd.R_drew)); exact Kd.R_mono HO808.out (fun _ hk => hk.2)⟩, ⟨by repeat (first | (with_reducible first | exact HB.out | apply below_alloc | apply pw_below_drewN | apply below_drew1) | exact HB.out)⟩⟩
                   case round => as_aux_lemma =>
                    clear H'
                    try clear c1
                    try clear c2
                    try clear p2
                    try clear c3
                    try clear c4
                    try clear c5
                    try clear c6
                    try clear p6
                    try clear c7
                    try clear c7b0
                    try clear p7
                    try clear q7
                    try clear hx7
                    try clear c8
                    try clear c8b0
                    try clear p8
                    try clear q8
                    try clear hx8
                    try clear c19
                    try clear c21
                    try clear c21b0
                    try clear c21b1
                    try clear c23
                    try clear c24
                    try clear c24b0
                    try clear c25
                    try clear c27
                    try clear c27b0
                    try clear c28
                    try clear c28b0
                    try clear c29
                    try clear c30
                    try clear c30b0
                    try clear c31
                    try clear c31b0
                    try clear c32
                    try clear c32b0
                    try clear c33
                    try clear c33b0
                    try clear c35
                    try clear c35b0
                    try clear c35b1
                    try clear c36
                    try clear c36b0
                    try clear c36b1
                    try clear c37
                    try clear c41
                    try clear c41b0
                    try clear c42
                    try clear c42b0
                    try clear c42b1
                    try clear c43
                    try clear c43b0
                    try clear c43b1
                    try clear c45
                    try clear c45b0
                    try clear c45b1
                    try clear c46
                    try clear c46b0
                    try clear c46b1
                    try clear c47
                    try clear c47b0
                    try clear c47b1
                    try clear c47b2
                    try clear c49
                    try clear c49b0
                    try clear c49b1
                    try clear hx789_0
                    try clear hx799_0
                    try clear hx800_0
                    try clear hx801_0
                    try clear hx802_0
                    try clear p2
                    try clear p6
                    try clear p7
                    try clear p789
                    try clear p799
                    try clear p8
                    try clear p800
                    try clear p801
                    try clear p802
                    try clear q7
                    try clear q789
                    try clear q799
                    try clear q8
                    try clear q800
                    try clear q801
                    try clear q802
                    obtain ⟨x16_4, rfl, HA, HK4, HO_4, HO_8, HO_14, HB⟩ := hrel
                    cases gk with
                    | zero => exact absurd HA.out (by simp [wayzgooselaw03_NameCut.l2])
                    | succ k4 =>
                     have H := HA.out
                     clear HA
                     simp only [wayzgooselaw03_NameCut.l2] at H
                     by_cases c52 : x16_4 < (t795.length : Int)
                     ·rw [if_pos c52] at H
                      have c52b0 : decide (x16_4 < (t795.length : Int)) = true := decide_eq_true c52
                      clear c52
                      by_cases c53 : 0 ≤ x16_4
                      ·rw [if_pos c53] at H
                       have c53b0 : decide (0 ≤ x16_4) = true := decide_eq_true c53
                       clear c53
                       replace H := Option.bind_eq_some_iff.mp H
                       obtain ⟨t810, A540, H⟩ := H
                       replace H : (if t810 < 0 then (some false) else (wayzgooselaw03_NameCut.l2 k4 y786 t792 t795 x13_3 t805 (wrap64 (x16_4 + 1)))) = some r := H
                       have A54 := Aside0.mk A540
                       clear A540
                       by_cases c55 : t810 < 0
                       ·rw [if_pos c55] at H
                        have c55b0 : decide (t810 < 0) = true := decide_eq_true c55
                        clear c55
                        obtain rfl := Option.some.inj H
                        have p809 : 0 ≤ (x16_4 : Int) := of_decide_eq_true (by first | (with_reducible assumption) | assumption)
                        have q809 : x16_4 < (t795.length : Int) := of_decide_eq_true (by first | (with_reducible assumption) | assumption)
                        obtain ⟨ad809, e809, hx809_0⟩ := Kd.at_int (Kd.R_reads' HO_8.out).2.2 x16_4 p809 q809
                        cases e809
                        replace p809 := eq_true p809
                        replace q809 := eq_true q809
                        obtain ⟨Ao56, co56, eo56⟩ := Kd.R_slice HO_14.out
                        subst eo56
                        go_wp2_with (first | ((with_reducible refine gate_callee (f := 66) rfl ?_); refine goesL_ (some 129) rfl rfl Tryz.func66 (by kernel_rfl) rfl #[.slice Ao56 t805.length co56, .int .i64 (rd t795 x16_4)] rfl (by (try simp only [List.map_toArray, List.map_cons, List.map_nil]); first | done | rfl | (simp only [List.length_drop, List.length_take]; rfl)) ?_; (with_reducible refine (wayzgoosekit_Index.calls k4 _ _ t805 (rd t795 x16_4) t810 _ ?side1 ?side2 A54.out).mono ?_); (case side1 => repeat (first | exact (Kd.R_reads' HO_14.out).2.2 | (with_reducible refine Kd.C_alloc ?_ _) | (with_reducible refine Kd.C_drewN ?_ _) | (with_reducible refine Kd.C_drew ?_))); (case side2 => exact (Kd.R_reads' HO_14.out).2.1); rintro e w' ⟨rfl, ⟨nd, rfl⟩⟩; refine ⟨_, rfl, ?_⟩))
                        go_ret
                        exact ⟨by first | rfl | (simp [errW_none, errW_some] <;> rfl) | (simp only [← hji6, ← hji44]; first | rfl | (simp [errW_none, errW_some] <;> rfl)) | (simp [*, errW_none, errW_some] <;> rfl), by repeat (first | (with_reducible first | exact HB.out | apply below_alloc | apply pw_below_drewN | apply below_drew1) | exact HB.out)⟩
                       ·rw [if_neg c55] at H
                        have c55b0 : decide (t810 < 0) = false := decide_eq_false c55
                        clear c55
                        have H' := Aside0.mk H
                        clear H
                        have p809 : 0 ≤ (x16_4 : Int) := of_decide_eq_true (by first | (with_reducible assumption) | assumption)
                        have q809 : x16_4 < (t795.length : Int) := of_decide_eq_true (by first | (with_reducible assumption) | assumption)
                        obtain ⟨ad809, e809, hx809_0⟩ := Kd.at_int (Kd.R_reads' HO_8.out).2.2 x16_4 p809 q809
                        cases e809
                        replace p809 := eq_true p809
                        replace q809 := eq_true q809
                        obtain ⟨Ao57, co57, eo57⟩ := Kd.R_slice HO_14.out
                        subst eo57
                        go_wp2_with (first | ((with_reducible refine gate_callee (f := 66) rfl ?_); refine goesL_ (some 129) rfl rfl Tryz.func66 (by kernel_rfl) rfl #[.slice Ao57 t805.length co57, .int .i64 (rd t795 x16_4)] rfl (by (try simp only [List.map_toArray, List.map_cons, List.map_nil]); first | done | rfl | (simp only [List.length_drop, List.length_take]; rfl)) ?_; (with_reducible refine (wayzgoosekit_Index.calls k4 _ _ t805 (rd t795 x16_4) t810 _ ?side1 ?side2 A54.out).mono ?_); (case side1 => repeat (first | exact (Kd.R_reads' HO_14.out).2.2 | (with_reducible refine Kd.C_alloc ?_ _) | (with_reducible refine Kd.C_drewN ?_ _) | (with_reducible refine Kd.C_drew ?_))); (case side2 => exact (Kd.R_reads' HO_14.out).2.1); rintro e w' ⟨rfl, ⟨nd, rfl⟩⟩; refine ⟨_, rfl, ?_⟩))
                        go_roundg k4
                        case measure => have := HJ11.out; have := HK2.out; have := HK3.out; have := HK4.out; omega
                        case rel => exact ⟨(wrap64 (x16_4 + 1)), (by first | rfl | (simp; done) | (simp [*]; done)), H', ⟨by have := HJ11.out; have := HK2.out; have := HK3.out; have := HK4.out; omega⟩, ⟨by (with_reducible repeat (first | apply Kd.R_alloc | apply Kd.R_drewN | apply Kd.R_drew)); exact HO_4.out⟩, ⟨by (with_reducible repeat (first | apply Kd.R_alloc | apply Kd.R_drewN | apply Kd.R_drew)); exact HO_8.out⟩, ⟨by (with_reducible repeat (first | apply Kd.R_alloc | apply Kd.R_drewN | apply Kd.R_drew)); exact HO_14.out⟩, ⟨by repeat (first | (with_reducible first | exact HB.out | apply below_alloc | apply pw_below_drewN | apply below_drew1) | exact HB.out)⟩⟩
                      ·rw [if_neg c53] at H
                       exact absurd H (by simp)
                     ·rw [if_neg c52] at H
                      have c52b0 : decide (x16_4 < (t795.length : Int)) = false := decide_eq_false c52
                      clear c52
                      have H' := Aside0.mk H
                      clear H
                      go_wp2
                      go_roundg k4
                      case measure => have := HJ11.out; have := HK2.out; have := HK3.out; have := HK4.out; omega
                      case rel => exact ⟨(wrap64 (x13_3 + 1)), (by first | rfl | (simp; done) | (simp [*]; done)), H', ⟨by have := HJ11.out; have := HK2.out; have := HK3.out; have := HK4.out; omega⟩, ⟨by (with_reducible repeat (first | apply Kd.R_alloc | apply Kd.R_drewN | apply Kd.R_drew)); exact HO_4.out⟩, ⟨by (with_reducible repeat (first | apply Kd.R_alloc | apply Kd.R_drewN | apply Kd.R_drew)); exact Kd.R_mono HO_8.out (fun _ hk => trivial)⟩, ⟨by repeat (first | (with_reducible first | exact HB.out | apply below_alloc | apply pw_below_drewN | apply below_drew1) | exact HB.out)⟩⟩
                  ·rw [if_neg c49] at H
                   have c49b0 : (t806 == 0) = false := beq_eq_false_iff_ne.mpr c49
                   have c49b1 : (t806 != 0) = true := bne_iff_ne.mpr c49
                   obtain rfl := Option.some.inj H
                   try go_wp2
                   have n0_ := Aside0.mk (Kd.R_drew HO_4.out)
                   have n1_ := Aside0.mk (Kd.R_drew HO_8.out)
                   have n2_ := Aside0.mk (below_drew1 HB.out)
                   clear HO_4
                   clear HO_8
                   clear HB
                   have HO_4 := n0_
                   have HO_8 := n1_
                   have HB := n2_
                   clear n0_ n1_ n2_
                   refine start_ (n := 15) (S := fun w' => True) (ds := []) #[false, false, false, false, false, false, false, false, false, false, false, false, false, false, false] (by kernel_rfl) rfl rfl trivial (fun hHeld => ?_); refine with_tabW wayzgooselaw03_NameCut.tab19 wayzgooselaw03_NameCut.bits19 (fun HT_ HW_ => ?_)
                   generalize wr.drew = w58 at HO_4 HO_8 HB hHeld ⊢
                   refine pure_ (i := 0) (N := some 104) (v := ?_) (a' := ?_) #[true, false, false, false, false, false, false, false, false, false, false, false, false, false, false] rfl rfl (any_of HT_.out (by kernel_rfl)) (fun _ _ _ h => h) (Or.inl ⟨by rfl, ?_⟩) ?_ ?_
                   rotate_left
                   ·intro w'
                    go_simp
                    with_reducible rfl
                   rotate_left
                   ·simp only [Act.put, List.setIfInBounds_toArray, List.set_cons_zero, List.set_cons_succ, i64_w, i32_w]
                    rfl
                   refine pure_ (i := 1) (N := some 105) (v := ?_) (a' := ?_) #[true, true, false, false, false, false, false, false, false, false, false, false, false, false, false] rfl rfl (any_of HT_.out (by kernel_rfl)) (fun _ _ _ h => h) (Or.inl ⟨by rfl, ?_⟩) ?_ ?_
                   rotate_left
                   ·intro w'
                    go_simp
                    with_reducible rfl
                   rotate_left
                   ·simp only [Act.put, List.setIfInBounds_toArray, List.set_cons_zero, List.set_cons_succ, i64_w, i32_w]
                    rfl
                   refine pure_ (i := 2) (N := some 106) (v := ?_) (a' := ?_) #[true, true, true, false, false, false, false, false, false, false, false, false, false, false, false] rfl rfl (any_of HT_.out (by kernel_rfl)) (fun _ _ _ h => h) (Or.inl ⟨by rfl, ?_⟩) ?_ ?_
                   rotate_left
                   ·intro w'
                    go_simp
                    with_reducible rfl
                   rotate_left
                   ·simp only [Act.put, List.setIfInBounds_toArray, List.set_cons_zero, List.set_cons_succ, i64_w, i32_w]
                    rfl
                   refine pure_ (i := 3) (N := some 107) (v := ?_) (a' := ?_) #[true, true, true, true, false, false, false, false, false, false, false, false, false, false, false] rfl rfl (any_of HT_.out (by kernel_rfl)) (fun _ _ _ h => h) (Or.inl ⟨by rfl, ?_⟩) ?_ ?_
                   rotate_left
                   ·intro w'
                    go_simp
                    with_reducible rfl
                   rotate_left
                   ·simp only [Act.put, List.setIfInBounds_toArray, List.set_cons_zero, List.set_cons_succ, i64_w, i32_w]
                    rfl
                   refine pure_ (i := 4) (N := some 108) (v := ?_) (a' := ?_) #[true, true, true, true, true, false, false, false, false, false, false, false, false, false, false] rfl rfl (any_of HT_.out (by kernel_rfl)) (fun _ _ _ h => h) (Or.inl ⟨by rfl, ?_⟩) ?_ ?_
                   rotate_left
                   ·intro w'
                    go_simp
                    with_reducible rfl
                   rotate_left
                   ·simp only [Act.put, List.setIfInBounds_toArray, List.set_cons_zero, List.set_cons_succ, i64_w, i32_w]
                    rfl
                   refine pure_ (i := 5) (N := some 109) (v := ?_) (a' := ?_) #[true, true, true, true, true, true, false, false, false, false, false, false, false, false, false] rfl rfl (any_of HT_.out (by kernel_rfl)) (fun _ _ _ h => h) (Or.inl ⟨by rfl, ?_⟩) ?_ ?_
                   rotate_left
                   ·intro w'
                    go_simp
                    with_reducible rfl
                   rotate_left
                   ·simp only [Act.put, List.setIfInBounds_toArray, List.set_cons_zero, List.set_cons_succ, i64_w, i32_w]
                    rfl
                   refine pure_ (i := 6) (N := some 110) (v := ?_) (a' := ?_) #[true, true, true, true, true, true, true, false, false, false, false, false, false, false, false] rfl rfl (any_of HT_.out (by kernel_rfl)) (fun _ _ _ h => h) (Or.inl ⟨by rfl, ?_⟩) ?_ ?_
                   rotate_left
                   ·intro w'
                    go_simp
                    with_reducible rfl
                   rotate_left
                   ·simp only [Act.put, List.setIfInBounds_toArray, List.set_cons_zero, List.set_cons_succ, i64_w, i32_w]
                    rfl
                   refine pure_ (i := 7) (N := some 111) (v := ?_) (a' := ?_) #[true, true, true, true, true, true, true, true, false, false, false, false, false, false, false] rfl rfl (any_of HT_.out (by kernel_rfl)) (fun _ _ _ h => h) (Or.inl ⟨by rfl, ?_⟩) ?_ ?_
                   rotate_left
                   ·intro w'
                    go_simp
                    with_reducible rfl
                   rotate_left
                   ·simp only [Act.put, List.setIfInBounds_toArray, List.set_cons_zero, List.set_cons_succ, i64_w, i32_w]
                    rfl
                   refine pure_ (i := 8) (N := some 112) (v := ?_) (a' := ?_) #[true, true, true, true, true, true, true, true, true, false, false, false, false, false, false] rfl rfl (any_of HT_.out (by kernel_rfl)) (fun _ _ _ h => h) (Or.inl ⟨by rfl, ?_⟩) ?_ ?_
                   rotate_left
                   ·intro w'
                    go_simp
                    with_reducible rfl
                   rotate_left
                   ·simp only [Act.put, List.setIfInBounds_toArray, List.set_cons_zero, List.set_cons_succ, i64_w, i32_w]
                    rfl
                   refine one_ (i := 9) (N := some 113) #[true, true, true, true, true, true, true, true, true, true, false, false, false, false, false] rfl rfl (one_of HT_.out (by kernel_rfl)) (by decide) (fun K hK => ?_)
                   refine goes_ Tryz.func72 (by kernel_rfl) rfl #[.string ((t792.extract 0 (x13_3 : Int).toNat) ++ (t792.extract ((ji44) : Int).toNat t792.size)), .slice (some ad789) y786.length co17] (by rfl) rfl rfl (by (try simp only [List.map_toArray, List.map_cons, List.map_nil]); first | done | (simp only [hji44]; rfl) | rfl | (simp only [List.length_drop, List.length_take]; rfl)) ?_
                   with_reducible refine (name_Stands.calls ((t792.extract 0 (x13_3 : Int).toNat) ++ (t792.extract ((ji44) : Int).toNat t792.size)) _ _ y786 t805 t806 _ ?side1 ?side2 A48.out).mono ?_
                   (case side1 => repeat (first | exact (Kd.R_reads' HO_4.out).2.2 | (with_reducible refine Kd.C_alloc ?_ _) | (with_reducible refine Kd.C_drewN ?_ _) | (with_reducible refine Kd.C_drew ?_)))
                   (case side2 => exact (Kd.R_reads' HO_4.out).2.1)
                   rintro e w59 ⟨v807, rfl, ho0, hb⟩
                   refine ⟨_, rfl, ?_⟩
                   have n0_ := Aside0.mk (Kd.R_below (by (with_reducible repeat (first | apply Kd.R_alloc | apply Kd.R_drewN | apply Kd.R_drew)); exact HO_4.out) hb)
                   have n1_ := Aside0.mk (Kd.R_elder' (by (with_reducible repeat (first | apply Kd.R_alloc | apply Kd.R_drewN | apply Kd.R_drew)); exact HO_8.out) (Kd.R_base ho0) hb)
                   have n2_ := Aside0.mk (Kd.R_lower (Kd.R_new' ho0 (Kd.R_lt (by (with_reducible repeat (first | apply Kd.R_alloc | apply Kd.R_drewN | apply Kd.R_drew)); exact HO_8.out))) (below_size (by repeat (first | (with_reducible first | exact HB.out | apply below_alloc | apply pw_below_drewN | apply below_drew1) | exact HB.out))))
                   have n3_ := Aside0.mk (below_step (by repeat (first | (with_reducible first | exact HB.out | apply below_alloc | apply pw_below_drewN | apply below_drew1) | exact HB.out)) hb)
                   clear HO_4
                   clear HO_8
                   clear HB
                   have HO_4 := n0_
                   have HO_8 := n1_
                   have HO808 := n2_
                   have HB := n3_
                   clear n0_ n1_ n2_ n3_
                   (try clear hb)
                   (try clear hb2)
                   (try clear hk)
                   (try clear hi)
                   (try clear ho0)
                   refine hK.out _ _ trivial (fun hHeld => ?_)
                   clear hK K
                   refine norm_ (a' := ?_) ?_ ?_
                   rotate_left
                   ·show Act.put _ (some 113) _ = _
                    simp only [Act.put, List.setIfInBounds_toArray, List.set_cons_zero, List.set_cons_succ, i64_w, i32_w]
                    rfl
                   refine pure_ (i := 10) (N := some 103) (v := ?_) (a' := ?_) #[true, true, true, true, true, true, true, true, true, true, true, false, false, false, false] rfl rfl (any_of HT_.out (by kernel_rfl)) (fun _ _ _ h => h) (Or.inl ⟨by rfl, ?_⟩) ?_ ?_
                   rotate_left
                   ·intro w'
                    go_simp
                    with_reducible rfl
                   rotate_left
                   ·simp only [Act.put, List.setIfInBounds_toArray, List.set_cons_zero, List.set_cons_succ, i64_w, i32_w]
                    rfl
                   refine pure_ (i := 11) (N := some 114) (v := ?_) (a' := ?_) #[true, true, true, true, true, true, true, true, true, true, true, true, false, false, false] rfl rfl (any_of HT_.out (by kernel_rfl)) (fun _ _ _ h => h) (Or.inl ⟨by rfl, ?_⟩) ?_ ?_
                   rotate_left
                   ·intro w'
                    go_simp
                    with_reducible rfl
                   rotate_left
                   ·simp only [Act.put, List.setIfInBounds_toArray, List.set_cons_zero, List.set_cons_succ, i64_w, i32_w]
                    rfl
                   refine pure_ (i := 12) (N := some 115) (v := ?_) (a' := ?_) #[true, true, true, true, true, true, true, true, true, true, true, true, true, false, false] rfl rfl (any_of HT_.out (by kernel_rfl)) (fun _ _ _ h => h) (Or.inl ⟨by rfl, ?_⟩) ?_ ?_
                   rotate_left
                   ·intro w'
                    go_simp
                    with_reducible rfl
                   rotate_left
                   ·simp only [Act.put, List.setIfInBounds_toArray, List.set_cons_zero, List.set_cons_succ, i64_w, i32_w]
                    rfl
                   refine pure_ (i := 13) (N := some 14) (v := ?_) (a' := ?_) #[true, true, true, true, true, true, true, true, true, true, true, true, true, true, false] rfl rfl (any_of HT_.out (by kernel_rfl)) (fun _ _ _ h => h) (Or.inl ⟨by rfl, ?_⟩) ?_ ?_
                   rotate_left
                   ·intro w'
                    go_simp
                    with_reducible rfl
                   rotate_left
                   ·simp only [Act.put, List.setIfInBounds_toArray, List.set_cons_zero, List.set_cons_succ, i64_w, i32_w]
                    rfl
                   refine pure_ (i := 14) (N := some 15) (v := ?_) (a' := ?_) #[true, true, true, true, true, true, true, true, true, true, true, true, true, true, true] rfl rfl (any_of HT_.out (by kernel_rfl)) (fun _ _ _ h => h) (Or.inl ⟨by rfl, ?_⟩) ?_ ?_
                   rotate_left
                   ·intro w'
                    go_simp
                    with_reducible rfl
                   rotate_left
                   ·simp only [Act.put, List.setIfInBounds_toArray, List.set_cons_zero, List.set_cons_succ, i64_w, i32_w]
                    rfl
                   refine done_ (done_of HT_.out (by kernel_rfl)) ?_
                   try go_wp2
                   go_ret
                   exact ⟨by first | rfl | (simp [errW_none, errW_some] <;> rfl) | (simp only [← hji6, ← hji44]; first | rfl | (simp [errW_none, errW_some] <;> rfl)) | (simp [*, errW_none, errW_some] <;> rfl), by repeat (first | (with_reducible first | exact HB.out | apply below_alloc | apply pw_below_drewN | apply below_drew1) | exact HB.out)⟩
                 ·rw [if_neg c47] at H
                  exact absurd H (by simp)
                ·rw [if_neg c46] at H
                 exact absurd H (by simp)
               ·rw [if_neg c45] at H
                exact absurd H (by simp)
              ·rw [if_neg c43] at H
               exact absurd H (by simp)
             ·rw [if_neg c42] at H
              exact absurd H (by simp)
            ·rw [if_neg c41] at H
             have c41b0 : decide (x13_3 < (wrap64 ((t792.size : Int) - 1))) = false := decide_eq_false c41
             clear c41
             have H' := Aside0.mk H
             clear H
             go_wp2
             go_loopg [17] k3 (fun kq v17 w' => ∃ (x17_4 : Int), v17 = .int .i64 x17_4 ∧ Aside0 (wayzgooselaw03_NameCut.l3 kq y786 t792 t795 x17_4 = some r) ∧ Aside0 (kq ≤ k3) ∧ Aside0 (Kd.R Kd.string 9 w' w.heap.size (fun _ => True) (.slice (some ad789) y786.length co17) y786) ∧ Aside0 (Kd.R (Kd.int .i64) 3 w' w.heap.size (fun _ => True) (.slice Ao40 t795.length co40) t795) ∧ Aside0 (Below w.heap.size w w'))
             case atStart => exact ⟨(0), (by first | rfl | (simp; done) | (simp [*]; done)), H', ⟨Nat.le_refl _⟩, ⟨by (with_reducible repeat (first | apply Kd.R_alloc | apply Kd.R_drewN | apply Kd.R_drew)); exact HO_4.out⟩, ⟨by (with_reducible repeat (first | apply Kd.R_alloc | apply Kd.R_drewN | apply Kd.R_drew)); exact HO_8.out⟩, ⟨by repeat (first | (with_reducible first | exact HB.out | apply below_alloc | apply pw_below_drewN | apply below_drew1) | exact HB.out)⟩⟩
             case round => as_aux_lemma =>
              clear H'
              try clear c1
              try clear c2
              try clear p2
              try clear c3
              try clear c4
              try clear c5
              try clear c6
              try clear p6
              try clear c7
              try clear c7b0
              try clear p7
              try clear q7
              try clear hx7
              try clear c8
              try clear c8b0
              try clear p8
              try clear q8
              try clear hx8
              try clear c19
              try clear c21
              try clear c21b0
              try clear c21b1
              try clear c23
              try clear c24
              try clear c24b0
              try clear c25
              try clear c27
              try clear c27b0
              try clear c28
              try clear c28b0
              try clear c29
              try clear c30
              try clear c30b0
              try clear c31
              try clear c31b0
              try clear c32
              try clear c32b0
              try clear c33
              try clear c33b0
              try clear c35
              try clear c35b0
              try clear c35b1
              try clear c36
              try clear c36b0
              try clear c36b1
              try clear c37
              try clear c41
              try clear c41b0
              try clear c42
              try clear c42b0
              try clear c42b1
              try clear c43
              try clear c43b0
              try clear c43b1
              try clear c45
              try clear c45b0
              try clear c45b1
              try clear c46
              try clear c46b0
              try clear c46b1
              try clear c47
              try clear c47b0
              try clear c47b1
              try clear c47b2
              try clear c49
              try clear c49b0
              try clear c49b1
              try clear c52
              try clear c52b0
              try clear c53
              try clear c53b0
              try clear c55
              try clear c55b0
              try clear hx789_0
              try clear hx799_0
              try clear hx800_0
              try clear hx801_0
              try clear hx802_0
              try clear hx809_0
              try clear p2
              try clear p6
              try clear p7
              try clear p789
              try clear p799
              try clear p8
              try clear p800
              try clear p801
              try clear p802
              try clear p809
              try clear q7
              try clear q789
              try clear q799
              try clear q8
              try clear q800
              try clear q801
              try clear q802
              try clear q809
              obtain ⟨x17_4, rfl, HA, HK4, HO_4, HO_8, HB⟩ := hrel
              cases gk with
              | zero => exact absurd HA.out (by simp [wayzgooselaw03_NameCut.l3])
              | succ k4 =>
               have H := HA.out
               clear HA
               simp only [wayzgooselaw03_NameCut.l3] at H
               by_cases c60 : x17_4 < (y786.length : Int)
               ·rw [if_pos c60] at H
                have c60b0 : decide (x17_4 < (y786.length : Int)) = true := decide_eq_true c60
                clear c60
                by_cases c61 : 0 ≤ x17_4
                ·rw [if_pos c61] at H
                 have c61b0 : decide (0 ≤ x17_4) = true := decide_eq_true c61
                 clear c61
                 replace H := Option.bind_eq_some_iff.mp H
                 obtain ⟨⟨t813, t814⟩, A620, H⟩ := H
                 replace H : (if t814 = 0 then ((wayzgoosekit_Index.f k4 t795 x17_4).bind fun t815 => (if (t813 != (decide (t815 ≥ 0))) = true then (some false) else (wayzgooselaw03_NameCut.l3 k4 y786 t792 t795 (wrap64 (x17_4 + 1))))) else (some false)) = some r := H
                 have A62 := Aside0.mk A620
                 clear A620
                 by_cases c63 : t814 = 0
                 ·rw [if_pos c63] at H
                  have c63b0 : (t814 == 0) = true := beq_iff_eq.mpr c63
                  have c63b1 : (t814 != 0) = false := bne_eq_false_iff_eq.mpr c63
                  clear c63
                  replace H := Option.bind_eq_some_iff.mp H
                  obtain ⟨t815, A640, H⟩ := H
                  replace H : (if (t813 != (decide (t815 ≥ 0))) = true then (some false) else (wayzgooselaw03_NameCut.l3 k4 y786 t792 t795 (wrap64 (x17_4 + 1)))) = some r := H
                  have A64 := Aside0.mk A640
                  clear A640
                  by_cases c65 : (t813 != (decide (t815 ≥ 0))) = true
                  ·rw [if_pos c65] at H
                   have c65b0 : (t813 != (decide (t815 ≥ 0))) = true := c65
                   (try (have c65b1 : decide (t813 = (decide (t815 ≥ 0))) = false := by simpa using c65))
                   (try (have c65b2 : (t813 == (decide (t815 ≥ 0))) = false := by simpa using c65))
                   (try (have c65b3 : ¬ (t813 = (decide (t815 ≥ 0))) := by simpa using c65))
                   clear c65
                   obtain rfl := Option.some.inj H
                   have p812 : 0 ≤ (x17_4 : Int) := of_decide_eq_true (by first | (with_reducible assumption) | assumption)
                   have q812 : x17_4 < (y786.length : Int) := of_decide_eq_true (by first | (with_reducible assumption) | assumption)
                   obtain ⟨ad812, e812, hx812_0⟩ := Kd.at_string (Kd.R_reads' HO_4.out).2.2 x17_4 p812 q812
                   obtain rfl : ad789 = ad812 := (by injection e812)
                   replace p812 := eq_true p812
                   replace q812 := eq_true q812
                   go_wp2_with (first | ((with_reducible refine gate_callee (f := 70) rfl ?_); refine goesL_ (some 143) rfl rfl Tryz.func70 (by kernel_rfl) rfl #[.string t792, .string (rdOf ByteArray.empty y786 x17_4)] rfl (by (try simp only [List.map_toArray, List.map_cons, List.map_nil]); first | done | rfl | (simp only [List.length_drop, List.length_take]; rfl)) ?_; (with_reducible refine (name_Short.calls t792 (rdOf ByteArray.empty y786 x17_4) t813 t814 _ A62.out).mono ?_); rintro e w66 ⟨rfl, hb⟩; refine ⟨_, rfl, ?_⟩; have n0_ := Aside0.mk (Kd.R_below (by (with_reducible repeat (first | apply Kd.R_alloc | apply Kd.R_drewN | apply Kd.R_drew)); exact HO_4.out) hb); have n1_ := Aside0.mk (Kd.R_below (by (with_reducible repeat (first | apply Kd.R_alloc | apply Kd.R_drewN | apply Kd.R_drew)); exact HO_8.out) hb); have n2_ := Aside0.mk (below_step (by repeat (first | (with_reducible first | exact HB.out | apply below_alloc | apply pw_below_drewN | apply below_drew1) | exact HB.out)) hb); clear HO_4; clear HO_8; clear HB; have HO_4 := n0_; have HO_8 := n1_; have HB := n2_; clear n0_ n1_ n2_; (try clear hb); (try clear hb2); (try clear hk); (try clear hi)) | (go_at_call 66; (with_reducible refine (wayzgoosekit_Index.calls k4 _ _ t795 x17_4 t815 _ ?side1 ?side2 A64.out).mono ?_); (case side1 => repeat (first | exact (Kd.R_reads' HO_8.out).2.2 | (with_reducible refine Kd.C_alloc ?_ _) | (with_reducible refine Kd.C_drewN ?_ _) | (with_reducible refine Kd.C_drew ?_))); (case side2 => exact (Kd.R_reads' HO_8.out).2.1); rintro e w' ⟨rfl, ⟨nd, rfl⟩⟩))
                   go_ret
                   exact ⟨by first | rfl | (simp [errW_none, errW_some] <;> rfl) | (simp only [← hji6]; first | rfl | (simp [errW_none, errW_some] <;> rfl)) | (simp [*, errW_none, errW_some] <;> rfl), by repeat (first | (with_reducible first | exact HB.out | apply below_alloc | apply pw_below_drewN | apply below_drew1) | exact HB.out)⟩
                  ·rw [if_neg c65] at H
                   have c65b0 : (t813 != (decide (t815 ≥ 0))) = false := by simpa using c65
                   (try (have c65b1 : decide (t813 = (decide (t815 ≥ 0))) = true := by simpa using c65))
                   (try (have c65b2 : (t813 == (decide (t815 ≥ 0))) = true := by simpa using c65))
                   clear c65
                   have H' := Aside0.mk H
                   clear H
                   have p812 : 0 ≤ (x17_4 : Int) := of_decide_eq_true (by first | (with_reducible assumption) | assumption)
                   have q812 : x17_4 < (y786.length : Int) := of_decide_eq_true (by first | (with_reducible assumption) | assumption)
                   obtain ⟨ad812, e812, hx812_0⟩ := Kd.at_string (Kd.R_reads' HO_4.out).2.2 x17_4 p812 q812
                   obtain rfl : ad789 = ad812 := (by injection e812)
                   replace p812 := eq_true p812
                   replace q812 := eq_true q812
                   go_wp2_with (first | ((with_reducible refine gate_callee (f := 70) rfl ?_); refine goesL_ (some 143) rfl rfl Tryz.func70 (by kernel_rfl) rfl #[.string t792, .string (rdOf ByteArray.empty y786 x17_4)] rfl (by (try simp only [List.map_toArray, List.map_cons, List.map_nil]); first | done | rfl | (simp only [List.length_drop, List.length_take]; rfl)) ?_; (with_reducible refine (name_Short.calls t792 (rdOf ByteArray.empty y786 x17_4) t813 t814 _ A62.out).mono ?_); rintro e w67 ⟨rfl, hb⟩; refine ⟨_, rfl, ?_⟩; have n0_ := Aside0.mk (Kd.R_below (by (with_reducible repeat (first | apply Kd.R_alloc | apply Kd.R_drewN | apply Kd.R_drew)); exact HO_4.out) hb); have n1_ := Aside0.mk (Kd.R_below (by (with_reducible repeat (first | apply Kd.R_alloc | apply Kd.R_drewN | apply Kd.R_drew)); exact HO_8.out) hb); have n2_ := Aside0.mk (below_step (by repeat (first | (with_reducible first | exact HB.out | apply below_alloc | apply pw_below_drewN | apply below_drew1) | exact HB.out)) hb); clear HO_4; clear HO_8; clear HB; have HO_4 := n0_; have HO_8 := n1_; have HB := n2_; clear n0_ n1_ n2_; (try clear hb); (try clear hb2); (try clear hk); (try clear hi)) | (go_at_call 66; (with_reducible refine (wayzgoosekit_Index.calls k4 _ _ t795 x17_4 t815 _ ?side1 ?side2 A64.out).mono ?_); (case side1 => repeat (first | exact (Kd.R_reads' HO_8.out).2.2 | (with_reducible refine Kd.C_alloc ?_ _) | (with_reducible refine Kd.C_drewN ?_ _) | (with_reducible refine Kd.C_drew ?_))); (case side2 => exact (Kd.R_reads' HO_8.out).2.1); rintro e w' ⟨rfl, ⟨nd, rfl⟩⟩))
                   go_roundg k4
                   case measure => have := HJ11.out; have := HK2.out; have := HK3.out; have := HK4.out; omega
                   case rel => exact ⟨(wrap64 (x17_4 + 1)), (by first | rfl | (simp; done) | (simp [*]; done)), H', ⟨by have := HJ11.out; have := HK2.out; have := HK3.out; have := HK4.out; omega⟩, ⟨by (with_reducible repeat (first | apply Kd.R_alloc | apply Kd.R_drewN | apply Kd.R_drew)); exact HO_4.out⟩, ⟨by (with_reducible repeat (first | apply Kd.R_alloc | apply Kd.R_drewN | apply Kd.R_drew)); exact HO_8.out⟩, ⟨by repeat (first | (with_reducible first | exact HB.out | apply below_alloc | apply pw_below_drewN | apply below_drew1) | exact HB.out)⟩⟩
                 ·rw [if_neg c63] at H
                  have c63b0 : (t814 == 0) = false := beq_eq_false_iff_ne.mpr c63
                  have c63b1 : (t814 != 0) = true := bne_iff_ne.mpr c63
                  obtain rfl := Option.some.inj H
                  have p812 : 0 ≤ (x17_4 : Int) := of_decide_eq_true (by first | (with_reducible assumption) | assumption)
                  have q812 : x17_4 < (y786.length : Int) := of_decide_eq_true (by first | (with_reducible assumption) | assumption)
                  obtain ⟨ad812, e812, hx812_0⟩ := Kd.at_string (Kd.R_reads' HO_4.out).2.2 x17_4 p812 q812
                  obtain rfl : ad789 = ad812 := (by injection e812)
                  replace p812 := eq_true p812
                  replace q812 := eq_true q812
                  go_wp2_with (first | ((with_reducible refine gate_callee (f := 70) rfl ?_); refine goesL_ (some 143) rfl rfl Tryz.func70 (by kernel_rfl) rfl #[.string t792, .string (rdOf ByteArray.empty y786 x17_4)] rfl (by (try simp only [List.map_toArray, List.map_cons, List.map_nil]); first | done | rfl | (simp only [List.length_drop, List.length_take]; rfl)) ?_; (with_reducible refine (name_Short.calls t792 (rdOf ByteArray.empty y786 x17_4) t813 t814 _ A62.out).mono ?_); rintro e w68 ⟨rfl, hb⟩; refine ⟨_, rfl, ?_⟩; have n0_ := Aside0.mk (Kd.R_below (by (with_reducible repeat (first | apply Kd.R_alloc | apply Kd.R_drewN | apply Kd.R_drew)); exact HO_4.out) hb); have n1_ := Aside0.mk (Kd.R_below (by (with_reducible repeat (first | apply Kd.R_alloc | apply Kd.R_drewN | apply Kd.R_drew)); exact HO_8.out) hb); have n2_ := Aside0.mk (below_step (by repeat (first | (with_reducible first | exact HB.out | apply below_alloc | apply pw_below_drewN | apply below_drew1) | exact HB.out)) hb); clear HO_4; clear HO_8; clear HB; have HO_4 := n0_; have HO_8 := n1_; have HB := n2_; clear n0_ n1_ n2_; (try clear hb); (try clear hb2); (try clear hk); (try clear hi)))
                  go_ret
                  exact ⟨by first | rfl | (simp [errW_none, errW_some] <;> rfl) | (simp only [← hji6]; first | rfl | (simp [errW_none, errW_some] <;> rfl)) | (simp [*, errW_none, errW_some] <;> rfl), by repeat (first | (with_reducible first | exact HB.out | apply below_alloc | apply pw_below_drewN | apply below_drew1) | exact HB.out)⟩
                ·rw [if_neg c61] at H
                 exact absurd H (by simp)
               ·rw [if_neg c60] at H
                have c60b0 : decide (x17_4 < (y786.length : Int)) = false := decide_eq_false c60
                clear c60
                replace H := Option.bind_eq_some_iff.mp H
                obtain ⟨t811, A690, H⟩ := H
                replace H : (some t811) = some r := H
                have A69 := Aside0.mk A690
                clear A690
                obtain rfl := Option.some.inj H
                go_wp2_with (first | ((with_reducible refine gate_callee (f := 22) rfl ?_); refine goesL_ (some 156) rfl rfl Tryz.func22 (by kernel_rfl) rfl #[] rfl (by (try simp only [List.map_toArray, List.map_cons, List.map_nil]); first | done | rfl | (simp only [List.length_drop, List.length_take]; rfl)) ?_; (with_reducible refine (wayzgooselaw03_spelling.calls  t811 _ A69.out).mono ?_); rintro e w70 ⟨rfl, hb⟩; refine ⟨_, rfl, ?_⟩; have n0_ := Aside0.mk (Kd.R_below (by (with_reducible repeat (first | apply Kd.R_alloc | apply Kd.R_drewN | apply Kd.R_drew)); exact HO_4.out) hb); have n1_ := Aside0.mk (Kd.R_below (by (with_reducible repeat (first | apply Kd.R_alloc | apply Kd.R_drewN | apply Kd.R_drew)); exact HO_8.out) hb); have n2_ := Aside0.mk (below_step (by repeat (first | (with_reducible first | exact HB.out | apply below_alloc | apply pw_below_drewN | apply below_drew1) | exact HB.out)) hb); clear HO_4; clear HO_8; clear HB; have HO_4 := n0_; have HO_8 := n1_; have HB := n2_; clear n0_ n1_ n2_; (try clear hb); (try clear hb2); (try clear hk); (try clear hi)))
                go_ret
                exact ⟨by first | rfl | (simp [errW_none, errW_some] <;> rfl) | (simp only [← hji6]; first | rfl | (simp [errW_none, errW_some] <;> rfl)) | (simp [*, errW_none, errW_some] <;> rfl), by repeat (first | (with_reducible first | exact HB.out | apply below_alloc | apply pw_below_drewN | apply below_drew1) | exact HB.out)⟩
   ·rw [if_neg c8] at H
    exact absurd H (by simp)
  ·rw [if_neg c7] at H
   exact absurd H (by simp)
 ·rw [if_neg c5] at H
  exact absurd H (by simp)

/-- THE ONE PURE STATEMENT of wayzgooselaw03_NameCut: yours. -/
def wayzgooselaw03_NameCut.Pure : Prop := ∀ (l0 : List Int), l0.length ≤ maxLen → l0.length * 8 ≤ 140737488351232 → (∀ x ∈ l0, (Lit.int .i64 x).wf = true) → ∃ k, wayzgooselaw03_NameCut.f k l0 = some true
theorem wayzgooselaw03_NameCut.walk (P : wayzgooselaw03_NameCut.Pure) (a0 : Option Addr) (len0 cap0 : Nat) (z0 : List Int) (w : World) (w0 : (a0 = none ∧ len0 = 0 ∧ cap0 = 0 ∧ z0 = []) ∨ ∃ x, a0 = some x ∧ len0 ≤ cap0 ∧ cap0 ≤ maxLen ∧ z0.length = cap0 ∧ (∀ i, i < z0.length → w.cell? (x.add i) = some (.int .i64 (z0.getD i 0))) ∧ ∀ n ∈ z0, (Lit.int .i64 n).wf = true) (y0 : len0 * 8 ≤ 140737488351232) :
  Calls Tryz.prog 19 #[.slice a0 len0 cap0] w fun e w' => e = .returned (.bool true) ∧ Below w.heap.size w w' := by
 obtain ⟨l0, rfl, hr0, hm0, hw0, hc0⟩ := ReadsInt.ofRowC w0
 obtain ⟨k, h⟩ := P l0 hm0 y0 hw0
 refine (wayzgooselaw03_NameCut.calls k _ _ l0 true w (Kd.C_of_reads (d := (0 : Int)) (h1 := fun _ => rfl) hr0) hc0 h).mono ?_
 rintro e w' ⟨rfl, hd⟩
 exact ⟨rfl, hd⟩

end Go.Proofs.YtapikimhmjnjeaaGreatDoor.Pr

