/- A text of the claim. -/
import Derived.Test.YtapikimhmjnjeaaGreatDoorPr0
import Derived.Test.YtapikimhmjnjeaaGreatDoorPrExtSpell
import Derived.Test.YtapikimhmjnjeaaGreatDoorPrExt
import Derived.Test.YtapikimhmjnjeaaGreatDoorPr2
import Derived.Test.YtapikimhmjnjeaaGreatDoorPr3
import Derived.Test.YtapikimhmjnjeaaGreatDoorPr14
namespace Go.Proofs.YtapikimhmjnjeaaGreatDoor.Pr
open Go.RowKit Go.Proofs.YtapikimhmjnjeaaGreatDoorW.PrintWords Go.Proofs.YtapikimhmjnjeaaGreatDoorW.PrintLast Go.Proofs.YtapikimhmjnjeaaGreatDoorW.PrintMore
attribute [local go_sem] max2_int min2_int max_two min_two max_three min_three max_four min_four   -- for this text's walks alone
set_option linter.unusedVariables false
set_option linter.unusedSimpArgs false

mutual
def wayzgooselaw03_NameColumn.j0 : Nat → List ByteArray → Int → ByteArray → ByteArray → Int → Bool → Option (Bool)
 | 0, _, _, _, _, _, _ => none
 | k + 1, x4, x5, x6, x8, x9, x49 => if x49 = true then (some false) else (wayzgooselaw03_NameColumn.l0 k x4 x5 x6 x8 x9 0 1)
def wayzgooselaw03_NameColumn.l0 : Nat → List ByteArray → Int → ByteArray → ByteArray → Int → Int → Int → Option (Bool)
 | 0, _, _, _, _, _, _, _ => none
 | k + 1, x4, x5, x6, x8, x9, x10, x11 => if x11 ≤ 12 then ((name_Fit.f x4 x5 x11).bind fun bt762 => (if bt762.2 = 0 then (if (bt762.1.size : Int) = 0 then (wayzgooselaw03_NameColumn.j2 k x4 x5 x6 x8 x9 x10 x11 bt762.1 true) else (wayzgooselaw03_NameColumn.j2 k x4 x5 x6 x8 x9 x10 x11 bt762.1 (decide ((bt762.1.size : Int) > x11)))) else (if bt762.2 = 11 then (if x10 > 0 then (some false) else (if (x6.size : Int) ≤ x11 then (some false) else (if x9 = 0 then (if (x8.size : Int) ≤ x11 then (some false) else (wayzgooselaw03_NameColumn.l0 k x4 x5 x6 x8 x9 x10 (wrap64 (x11 + 1)))) else (wayzgooselaw03_NameColumn.l0 k x4 x5 x6 x8 x9 x10 (wrap64 (x11 + 1)))))) else (some false)))) else ((wayzgooselaw03_spelling.f).bind fun t761 => (some t761))
def wayzgooselaw03_NameColumn.j2 : Nat → List ByteArray → Int → ByteArray → ByteArray → Int → Int → Int → ByteArray → Bool → Option (Bool)
 | 0, _, _, _, _, _, _, _, _, _ => none
 | k + 1, x4, x5, x6, x8, x9, x10, x11, x12, x93 => if x93 = true then (some false) else (if x12.toList = x6.toList then (if (x12.size : Int) < x10 then (some false) else (wayzgooselaw03_NameColumn.l0 k x4 x5 x6 x8 x9 (x12.size : Int) (wrap64 (x11 + 1)))) else ((wayzgooselaw03_mistaken.f k x12 x4 x5).bind fun bt764 => (if bt764.2 = true then (if bt764.1 = true then (wayzgooselaw03_NameColumn.j3 k x4 x5 x6 x8 x9 x10 x11 (x12.size : Int) true) else (wayzgooselaw03_NameColumn.j3 k x4 x5 x6 x8 x9 x10 x11 (x12.size : Int) (decide ((x6.size : Int) ≤ x11)))) else (wayzgooselaw03_NameColumn.j3 k x4 x5 x6 x8 x9 x10 x11 (x12.size : Int) true))))
def wayzgooselaw03_NameColumn.j3 : Nat → List ByteArray → Int → ByteArray → ByteArray → Int → Int → Int → Int → Bool → Option (Bool)
 | 0, _, _, _, _, _, _, _, _, _ => none
 | k + 1, x4, x5, x6, x8, x9, x10, x11, x14, x116 => if x116 = true then (some false) else (if (wrap64 (x14 - 1)) < x10 then (some false) else (wayzgooselaw03_NameColumn.l0 k x4 x5 x6 x8 x9 (wrap64 (x14 - 1)) (wrap64 (x11 + 1))))
end
def wayzgooselaw03_NameColumn.f (k : Nat) (l0 : List Int) : Option (Bool) := (wayzgoosekit_NewDice.f l0).bind fun bt738 => ((wayzgoosekit_NamesOf.f k bt738.1 bt738.2.1 bt738.2.2 4 5).bind fun bt742 => ((wayzgoosekit_NameOf.f k bt738.1 bt742.2.1 bt742.2.2 5).bind fun bt747 => (if bt742.1.length < 8796093022208 then ((some (bt742.1 ++ [bt747.1] : List ByteArray)).bind fun y750 => ((wayzgoosekit_Dice_To.f bt738.1 bt747.2.1 bt747.2.2 (wrap64 ((y750.length : Int) - 1))).bind fun bt753 => (if 0 ≤ bt753.1 then (if bt753.1 < (y750.length : Int) then ((wayzgooseref03_Key.f k (rdOf ByteArray.empty y750 bt753.1)).bind fun bt757 => ((name_Shortest.f y750 bt753.1).bind fun bt759 => (if bt759.2 = 0 then (wayzgooselaw03_NameColumn.j0 k y750 bt753.1 bt757.1 bt759.1 bt759.2 false) else (wayzgooselaw03_NameColumn.j0 k y750 bt753.1 bt757.1 bt759.1 bt759.2 (bt759.2 != 11))))) else (none)) else (none)))) else (none))))
set_option maxHeartbeats 8000000 in
set_option maxRecDepth 100000 in
theorem wayzgooselaw03_NameColumn.calls (k : Nat) (A0 : Option Addr) (c0 : Nat) (l0 : List Int) (r : Bool) (w : World) (hr0 : Kd.C (Kd.int .i64) w A0 l0.length l0) (hc0 : l0.length ≤ c0) (h : wayzgooselaw03_NameColumn.f k l0 = some r) :
  Calls Tryz.prog 17 #[.slice A0 l0.length c0] w fun e w' => e = .returned (.bool r) ∧ Below w.heap.size w w' := by
 have HR0 := Aside0.mk hr0
 have HC0 := Aside0.mk hc0
 clear hr0 hc0
 have HB := Aside0.mk (Below.refl w.heap.size w)
 have H : ((wayzgoosekit_NewDice.f l0).bind fun bt738 => ((wayzgoosekit_NamesOf.f k bt738.1 bt738.2.1 bt738.2.2 4 5).bind fun bt742 => ((wayzgoosekit_NameOf.f k bt738.1 bt742.2.1 bt742.2.2 5).bind fun bt747 => (if bt742.1.length < 8796093022208 then ((some (bt742.1 ++ [bt747.1] : List ByteArray)).bind fun y750 => ((wayzgoosekit_Dice_To.f bt738.1 bt747.2.1 bt747.2.2 (wrap64 ((y750.length : Int) - 1))).bind fun bt753 => (if 0 ≤ bt753.1 then (if bt753.1 < (y750.length : Int) then ((wayzgooseref03_Key.f k (rdOf ByteArray.empty y750 bt753.1)).bind fun bt757 => ((name_Shortest.f y750 bt753.1).bind fun bt759 => (if bt759.2 = 0 then (wayzgooselaw03_NameColumn.j0 k y750 bt753.1 bt757.1 bt759.1 bt759.2 false) else (wayzgooselaw03_NameColumn.j0 k y750 bt753.1 bt757.1 bt759.1 bt759.2 (bt759.2 != 11))))) else (none)) else (none)))) else (none))))) = some r := h
 clear h
 replace H := Option.bind_eq_some_iff.mp H
 obtain ⟨⟨t738, t739, t740⟩, A20, H⟩ := H
 replace H : ((wayzgoosekit_NamesOf.f k t738 t739 t740 4 5).bind fun bt742 => ((wayzgoosekit_NameOf.f k t738 bt742.2.1 bt742.2.2 5).bind fun bt747 => (if bt742.1.length < 8796093022208 then ((some (bt742.1 ++ [bt747.1] : List ByteArray)).bind fun y750 => ((wayzgoosekit_Dice_To.f t738 bt747.2.1 bt747.2.2 (wrap64 ((y750.length : Int) - 1))).bind fun bt753 => (if 0 ≤ bt753.1 then (if bt753.1 < (y750.length : Int) then ((wayzgooseref03_Key.f k (rdOf ByteArray.empty y750 bt753.1)).bind fun bt757 => ((name_Shortest.f y750 bt753.1).bind fun bt759 => (if bt759.2 = 0 then (wayzgooselaw03_NameColumn.j0 k y750 bt753.1 bt757.1 bt759.1 bt759.2 false) else (wayzgooselaw03_NameColumn.j0 k y750 bt753.1 bt757.1 bt759.1 bt759.2 (bt759.2 != 11))))) else (none)) else (none)))) else (none)))) = some r := H
 have A2 := Aside0.mk A20
 clear A20
 replace H := Option.bind_eq_some_iff.mp H
 obtain ⟨⟨t742, t745, t746⟩, A30, H⟩ := H
 replace H : ((wayzgoosekit_NameOf.f k t738 t745 t746 5).bind fun bt747 => (if t742.length < 8796093022208 then ((some (t742 ++ [bt747.1] : List ByteArray)).bind fun y750 => ((wayzgoosekit_Dice_To.f t738 bt747.2.1 bt747.2.2 (wrap64 ((y750.length : Int) - 1))).bind fun bt753 => (if 0 ≤ bt753.1 then (if bt753.1 < (y750.length : Int) then ((wayzgooseref03_Key.f k (rdOf ByteArray.empty y750 bt753.1)).bind fun bt757 => ((name_Shortest.f y750 bt753.1).bind fun bt759 => (if bt759.2 = 0 then (wayzgooselaw03_NameColumn.j0 k y750 bt753.1 bt757.1 bt759.1 bt759.2 false) else (wayzgooselaw03_NameColumn.j0 k y750 bt753.1 bt757.1 bt759.1 bt759.2 (bt759.2 != 11))))) else (none)) else (none)))) else (none))) = some r := H
 have A3 := Aside0.mk A30
 clear A30
 replace H := Option.bind_eq_some_iff.mp H
 obtain ⟨⟨t747, t748, t749⟩, A40, H⟩ := H
 replace H : (if t742.length < 8796093022208 then ((some (t742 ++ [t747] : List ByteArray)).bind fun y750 => ((wayzgoosekit_Dice_To.f t738 t748 t749 (wrap64 ((y750.length : Int) - 1))).bind fun bt753 => (if 0 ≤ bt753.1 then (if bt753.1 < (y750.length : Int) then ((wayzgooseref03_Key.f k (rdOf ByteArray.empty y750 bt753.1)).bind fun bt757 => ((name_Shortest.f y750 bt753.1).bind fun bt759 => (if bt759.2 = 0 then (wayzgooselaw03_NameColumn.j0 k y750 bt753.1 bt757.1 bt759.1 bt759.2 false) else (wayzgooselaw03_NameColumn.j0 k y750 bt753.1 bt757.1 bt759.1 bt759.2 (bt759.2 != 11))))) else (none)) else (none)))) else (none)) = some r := H
 have A4 := Aside0.mk A40
 clear A40
 by_cases c5 : t742.length < 8796093022208
 ·rw [if_pos c5] at H
  have LMc5 := Aside0.mk c5
  clear c5
  obtain ⟨y750, hy750⟩ : ∃ y_ : List ByteArray, y_ = (t742 ++ [t747]) := ⟨_, rfl⟩
  replace H : ((wayzgoosekit_Dice_To.f t738 t748 t749 (wrap64 ((y750.length : Int) - 1))).bind fun bt753 => (if 0 ≤ bt753.1 then (if bt753.1 < (y750.length : Int) then ((wayzgooseref03_Key.f k (rdOf ByteArray.empty y750 bt753.1)).bind fun bt757 => ((name_Shortest.f y750 bt753.1).bind fun bt759 => (if bt759.2 = 0 then (wayzgooselaw03_NameColumn.j0 k y750 bt753.1 bt757.1 bt759.1 bt759.2 false) else (wayzgooselaw03_NameColumn.j0 k y750 bt753.1 bt757.1 bt759.1 bt759.2 (bt759.2 != 11))))) else (none)) else (none))) = some r := by first | (rw [hy750]; with_reducible exact H) | (have H2_ := (Option.bind_some _ _).symm.trans H; rw [hy750]; with_reducible exact H2_) | (have H2_ := (Option.bind_some _ _).symm.trans H; with_reducible exact H2_) | with_reducible exact H | (rw [hy750]; exact H) | exact H
  have Ny750 := Aside0.mk hy750
  clear hy750
  replace H := Option.bind_eq_some_iff.mp H
  obtain ⟨⟨t753, t754, t755⟩, A60, H⟩ := H
  replace H : (if 0 ≤ t753 then (if t753 < (y750.length : Int) then ((wayzgooseref03_Key.f k (rdOf ByteArray.empty y750 t753)).bind fun bt757 => ((name_Shortest.f y750 t753).bind fun bt759 => (if bt759.2 = 0 then (wayzgooselaw03_NameColumn.j0 k y750 t753 bt757.1 bt759.1 bt759.2 false) else (wayzgooselaw03_NameColumn.j0 k y750 t753 bt757.1 bt759.1 bt759.2 (bt759.2 != 11))))) else (none)) else (none)) = some r := H
  have A6 := Aside0.mk A60
  clear A60
  by_cases c7 : 0 ≤ t753
  ·rw [if_pos c7] at H
   have c7b0 : decide (0 ≤ t753) = true := decide_eq_true c7
   clear c7
   by_cases c8 : t753 < (y750.length : Int)
   ·rw [if_pos c8] at H
    have c8b0 : decide (t753 < (y750.length : Int)) = true := decide_eq_true c8
    clear c8
    replace H := Option.bind_eq_some_iff.mp H
    obtain ⟨⟨t757, t758⟩, A90, H⟩ := H
    replace H : ((name_Shortest.f y750 t753).bind fun bt759 => (if bt759.2 = 0 then (wayzgooselaw03_NameColumn.j0 k y750 t753 t757 bt759.1 bt759.2 false) else (wayzgooselaw03_NameColumn.j0 k y750 t753 t757 bt759.1 bt759.2 (bt759.2 != 11)))) = some r := H
    have A9 := Aside0.mk A90
    clear A90
    replace H := Option.bind_eq_some_iff.mp H
    obtain ⟨⟨t759, t760⟩, A100, H⟩ := H
    replace H : (if t760 = 0 then (wayzgooselaw03_NameColumn.j0 k y750 t753 t757 t759 t760 false) else (wayzgooselaw03_NameColumn.j0 k y750 t753 t757 t759 t760 (t760 != 11))) = some r := H
    have A10 := Aside0.mk A100
    clear A100
    have HC11 := Aside0.mk H
    clear H
    go_enter Tryz.func17, Tryz.ntmps17
    go_upto_region 6 with (first | ((with_reducible refine gate_callee (f := 23) rfl ?_); refine goesL_ (some 18) rfl rfl Tryz.func23 (by kernel_rfl) rfl #[.slice A0 l0.length c0] rfl (by (try simp only [List.map_toArray, List.map_cons, List.map_nil]); first | done | rfl | (simp only [List.length_drop, List.length_take]; rfl)) ?_; (with_reducible refine (wayzgoosekit_NewDice.calls _ _ l0 t738 t739 t740 w _ ?side1 ?side2 ?side3 A2.out).mono ?_); (case side1 => repeat (first | (with_reducible first | exact HB.out | apply below_alloc | apply pw_below_drewN | apply below_drew1) | exact HB.out)); (case side2 => exact HR0.out); (case side3 => exact HC0.out); rintro e w12 ⟨g741, rfl, hi, hb, hb2⟩; refine ⟨_, rfl, ?_⟩; have n0_ := Aside0.mk (hb); have n1_ := Aside0.mk (hi); clear HB; have HB := n0_; have HI741 := n1_; clear n0_ n1_; (try clear hb); (try clear hb2); (try clear hk); (try clear hi)) | ((with_reducible refine gate_callee (f := 24) rfl ?_); refine goesL_ (some 20) rfl rfl Tryz.func24 (by kernel_rfl) rfl #[.pointer (some ⟨g741, 0, none⟩), .int .i64 4, .int .i64 5] rfl (by (try simp only [List.map_toArray, List.map_cons, List.map_nil]); first | done | rfl | (simp only [List.length_drop, List.length_take]; rfl)) ?_; (with_reducible refine (wayzgoosekit_NamesOf.calls k g741 t738 t739 t740 4 5 t742 t745 t746 w _ ?side1 ?side2 A3.out).mono ?_); (case side1 => repeat (first | (with_reducible first | exact HI741.out | apply IsS86.alloc | apply IsS86.drewN | apply IsS86.drew | apply IsS86.set_1 | apply IsS86.set_2) | exact HI741.out)); (case side2 => repeat (first | (with_reducible first | exact HB.out | apply below_alloc | apply pw_below_drewN | apply below_drew1 | refine below_set ?_ (IsS86.ge HI741.out)) | exact HB.out)); rintro e w13 ⟨v743, rfl, ho0, hi, hb, hk⟩; refine ⟨_, rfl, ?_⟩; have n0_ := Aside0.mk (Kd.R_lower ho0 (below_size (by repeat (first | (with_reducible first | exact HB.out | apply below_alloc | apply pw_below_drewN | apply below_drew1 | refine below_set ?_ (IsS86.ge HI741.out)) | exact HB.out)))); have n1_ := Aside0.mk (hb); have n2_ := Aside0.mk (hi); clear HB; clear HI741; have HO744 := n0_; have HB := n1_; have HI741 := n2_; clear n0_ n1_ n2_; (try clear hb); (try clear hb2); (try clear hk); (try clear hi); (try clear ho0)) | ((with_reducible refine gate_callee (f := 25) rfl ?_); refine goesL_ (some 22) rfl rfl Tryz.func25 (by kernel_rfl) rfl #[.pointer (some ⟨g741, 0, none⟩), .int .i64 5] rfl (by (try simp only [List.map_toArray, List.map_cons, List.map_nil]); first | done | rfl | (simp only [List.length_drop, List.length_take]; rfl)) ?_; (with_reducible refine (wayzgoosekit_NameOf.calls k g741 t738 t745 t746 5 t747 t748 t749 w _ ?side1 ?side2 A4.out).mono ?_); (case side1 => repeat (first | (with_reducible first | exact HI741.out | apply IsS86.alloc | apply IsS86.drewN | apply IsS86.drew | apply IsS86.set_1 | apply IsS86.set_2) | exact HI741.out)); (case side2 => repeat (first | (with_reducible first | exact HB.out | apply below_alloc | apply pw_below_drewN | apply below_drew1 | refine below_set ?_ (IsS86.ge HI741.out)) | exact HB.out)); rintro e w14 ⟨rfl, hi, hb, hk⟩; refine ⟨_, rfl, ?_⟩; have n0_ := Aside0.mk (Kd.R_mono (Kd.R_keep (IsS86.apart (show IsS86 w _ g741 t738 t745 t746 from by repeat (first | (with_reducible first | exact HI741.out | apply IsS86.alloc | apply IsS86.drewN | apply IsS86.drew | apply IsS86.set_1 | apply IsS86.set_2) | exact HI741.out)) (by (with_reducible repeat (first | apply Kd.R_alloc | apply Kd.R_drewN | apply Kd.R_drew)); exact HO744.out) (by decide)) hk (fun _ h => h.2)) (fun _ h => h.1)); have n1_ := Aside0.mk (hb); have n2_ := Aside0.mk (hi); clear HO744; clear HB; clear HI741; have HO744 := n0_; have HB := n1_; have HI741 := n2_; clear n0_ n1_ n2_; (try clear hb); (try clear hb2); (try clear hk); (try clear hi)) | ((with_reducible refine gate_builtin (b := .append) (xs := #[.tmp 20, .tmp 23]) rfl ?_); (try (refine gate_guard (by rfl) ?_; dsimp only)); at_builtin; refine Kd.R_append Kd.string (w0 := w) w.heap.size rfl (.tmp 20) (.tmp 23) 22 9 (.string ⟨#[]⟩) 16 rfl Tryz.underlying22 info9 rfl (by decide) (by omega) v743 t742 t747 [.string t747] (fun _ => True) (fun _ => False) rfl rfl ?aP (fun _ hk => hk.elim) ?aF ?aO ?aB ?aS ?aL ?_; (case aP => exact rfl); (case aB => exact (by repeat (first | (with_reducible first | exact HB.out | apply below_alloc | apply pw_below_drewN | apply below_drew1 | refine below_set ?_ (IsS86.ge HI741.out)) | exact HB.out))); (case aF => exact (fun _ _ => trivial)); (case aO => exact (by (with_reducible repeat (first | apply Kd.R_alloc | apply Kd.R_drewN | apply Kd.R_drew)); exact HO744.out)); (case aS => exact (below_size (by repeat (first | (with_reducible first | exact HB.out | apply below_alloc | apply pw_below_drewN | apply below_drew1 | refine below_set ?_ (IsS86.ge HI741.out)) | exact HB.out)))); (case aL => have := LMc5.out; omega); intro v751 w15 ho hb hg hat; rw [← Ny750.out] at ho; have n0_ := Aside0.mk (IsS86.grown (by repeat (first | (with_reducible first | exact HI741.out | apply IsS86.alloc | apply IsS86.drewN | apply IsS86.drew | apply IsS86.set_1 | apply IsS86.set_2) | exact HI741.out)) hg (IsS86.own_ne HI741.out HO744.out (by decide))); have n1_ := Aside0.mk (hb); have n2_ := Aside0.mk (ho); clear HI741; clear HB; clear HO744; have HI741 := n0_; have HB := n1_; have HO752 := n2_; clear n0_ n1_ n2_; clear ho hb hg hat; obtain ⟨Ao16, co16, eo16⟩ := Kd.R_slice HO752.out; subst eo16) | ((with_reducible refine gate_callee (f := 26) rfl ?_); refine goesL_ (some 29) rfl rfl Tryz.func26 (by kernel_rfl) rfl #[.pointer (some ⟨g741, 0, none⟩), .int .i64 (wrap64 ((y750.length : Int) - 1))] rfl (by (try simp only [List.map_toArray, List.map_cons, List.map_nil]); first | done | rfl | (simp only [List.length_drop, List.length_take]; rfl)) ?_; (with_reducible refine (wayzgoosekit_Dice_To.calls g741 t738 t748 t749 (wrap64 ((y750.length : Int) - 1)) t753 t754 t755 w _ ?side1 ?side2 A6.out).mono ?_); (case side1 => repeat (first | (with_reducible first | exact HI741.out | apply IsS86.alloc | apply IsS86.drewN | apply IsS86.drew | apply IsS86.set_1 | apply IsS86.set_2) | exact HI741.out)); (case side2 => repeat (first | (with_reducible first | exact HB.out | apply below_alloc | apply pw_below_drewN | apply below_drew1 | refine below_set ?_ (IsS86.ge HI741.out)) | exact HB.out)); rintro e w17 ⟨rfl, hi, hb, hk⟩; refine ⟨_, rfl, ?_⟩; have n0_ := Aside0.mk (Kd.R_mono (Kd.R_keep (IsS86.apart (show IsS86 w _ g741 t738 t748 t749 from by repeat (first | (with_reducible first | exact HI741.out | apply IsS86.alloc | apply IsS86.drewN | apply IsS86.drew | apply IsS86.set_1 | apply IsS86.set_2) | exact HI741.out)) (by (with_reducible repeat (first | apply Kd.R_alloc | apply Kd.R_drewN | apply Kd.R_drew)); exact HO752.out) (by decide)) hk (fun _ h => h.2)) (fun _ h => h.1)); have n1_ := Aside0.mk (hb); have n2_ := Aside0.mk (hi); clear HO752; clear HB; clear HI741; have HO752 := n0_; have HB := n1_; have HI741 := n2_; clear n0_ n1_ n2_; (try clear hb); (try clear hb2); (try clear hk); (try clear hi); have p756 : 0 ≤ (t753 : Int) := of_decide_eq_true (by first | (with_reducible assumption) | assumption); have q756 : t753 < (y750.length : Int) := of_decide_eq_true (by first | (with_reducible assumption) | assumption); obtain ⟨ad756, e756, hx756_0⟩ := Kd.at_string (Kd.R_reads' HO752.out).2.2 t753 p756 q756; cases e756; replace p756 := eq_true p756; replace q756 := eq_true q756) | ((with_reducible refine gate_callee (f := 41) rfl ?_); refine goesL_ (some 35) rfl rfl Tryz.func41 (by kernel_rfl) rfl #[.string (rdOf ByteArray.empty y750 t753)] rfl (by (try simp only [List.map_toArray, List.map_cons, List.map_nil]); first | done | rfl | (simp only [List.length_drop, List.length_take]; rfl)) ?_; (with_reducible refine (wayzgooseref03_Key.calls k (rdOf ByteArray.empty y750 t753) t757 t758 _ A9.out).mono ?_); rintro e w18 ⟨rfl, hb⟩; refine ⟨_, rfl, ?_⟩; have n0_ := Aside0.mk (Kd.R_below (by (with_reducible repeat (first | apply Kd.R_alloc | apply Kd.R_drewN | apply Kd.R_drew)); exact HO752.out) hb); have n1_ := Aside0.mk (IsS86.below (by repeat (first | (with_reducible first | exact HI741.out | apply IsS86.alloc | apply IsS86.drewN | apply IsS86.drew | apply IsS86.set_1 | apply IsS86.set_2) | exact HI741.out)) hb); have n2_ := Aside0.mk (below_step (by repeat (first | (with_reducible first | exact HB.out | apply below_alloc | apply pw_below_drewN | apply below_drew1 | refine below_set ?_ (IsS86.ge HI741.out)) | exact HB.out)) hb); clear HO752; clear HI741; clear HB; have HO752 := n0_; have HI741 := n1_; have HB := n2_; clear n0_ n1_ n2_; (try clear hb); (try clear hb2); (try clear hk); (try clear hi)) | ((with_reducible refine gate_callee (f := 29) rfl ?_); refine goesL_ (some 41) rfl rfl Tryz.func29 (by kernel_rfl) rfl #[.slice (some ad756) y750.length co16, .int .i64 t753] rfl (by (try simp only [List.map_toArray, List.map_cons, List.map_nil]); first | done | rfl | (simp only [List.length_drop, List.length_take]; rfl)) ?_; (with_reducible refine (name_Shortest.calls _ _ y750 t753 t759 t760 _ ?side1 ?side2 A10.out).mono ?_); (case side1 => repeat (first | exact (Kd.R_reads' HO752.out).2.2 | (with_reducible refine Kd.C_alloc ?_ _) | (with_reducible refine Kd.C_drewN ?_ _) | (with_reducible refine Kd.C_drew ?_))); (case side2 => exact (Kd.R_reads' HO752.out).2.1); rintro e w19 ⟨rfl, hb⟩; refine ⟨_, rfl, ?_⟩; have n0_ := Aside0.mk (Kd.R_below (by (with_reducible repeat (first | apply Kd.R_alloc | apply Kd.R_drewN | apply Kd.R_drew)); exact HO752.out) hb); have n1_ := Aside0.mk (IsS86.below (by repeat (first | (with_reducible first | exact HI741.out | apply IsS86.alloc | apply IsS86.drewN | apply IsS86.drew | apply IsS86.set_1 | apply IsS86.set_2) | exact HI741.out)) hb); have n2_ := Aside0.mk (below_step (by repeat (first | (with_reducible first | exact HB.out | apply below_alloc | apply pw_below_drewN | apply below_drew1 | refine below_set ?_ (IsS86.ge HI741.out)) | exact HB.out)) hb); clear HO752; clear HI741; clear HB; have HO752 := n0_; have HI741 := n1_; have HB := n2_; clear n0_ n1_ n2_; (try clear hb); (try clear hb2); (try clear hk); (try clear hi)))
    (try simp only [Act.put, List.setIfInBounds_toArray, List.set_cons_zero, List.set_cons_succ])
    go_cut [49] (fun v49 wc => ∃ (kq : Nat) (x49_10 : Bool), v49 = .bool x49_10 ∧ Aside0 (wayzgooselaw03_NameColumn.j0 kq y750 t753 t757 t759 t760 x49_10 = some r) ∧ Aside0 (kq ≤ k) ∧ Aside0 (Kd.R Kd.string 9 wc w.heap.size (fun _ => True) (.slice (some ad756) y750.length co16) y750) ∧ Aside0 (Below w.heap.size w wc))
    case first =>
     have H := HC11.out
     clear HC11
     by_cases c20 : t760 = 0
     ·rw [if_pos c20] at H
      have c20b0 : (t760 == 0) = true := beq_iff_eq.mpr c20
      have c20b1 : (t760 != 0) = false := bne_eq_false_iff_eq.mpr c20
      clear c20
      (first | rw [c20b0] | (simp only [i64_w, i32_w]; rw [c20b0]) | skip)
      have H' := Aside0.mk H
      clear H
      go_wp2
      go_meet
      case rel => exact ⟨_, (false), (by first | rfl | (simp; done) | (simp [*]; done)), H', ⟨by first | omega | exact Nat.le_refl _⟩, ⟨by (with_reducible repeat (first | apply Kd.R_alloc | apply Kd.R_drewN | apply Kd.R_drew)); exact HO752.out⟩, ⟨by repeat (first | (with_reducible first | exact HB.out | apply below_alloc | apply pw_below_drewN | apply below_drew1 | refine below_set ?_ (IsS86.ge HI741.out)) | exact HB.out)⟩⟩
     ·rw [if_neg c20] at H
      have c20b0 : (t760 == 0) = false := beq_eq_false_iff_ne.mpr c20
      have c20b1 : (t760 != 0) = true := bne_iff_ne.mpr c20
      (first | rw [c20b0] | (simp only [i64_w, i32_w]; rw [c20b0]) | skip)
      have H' := Aside0.mk H
      clear H
      go_wp2
      go_meet
      case rel => exact ⟨_, ((t760 != 11)), (by first | rfl | (simp; done) | (simp [*]; done)), H', ⟨by first | omega | exact Nat.le_refl _⟩, ⟨by (with_reducible repeat (first | apply Kd.R_alloc | apply Kd.R_drewN | apply Kd.R_drew)); exact HO752.out⟩, ⟨by repeat (first | (with_reducible first | exact HB.out | apply below_alloc | apply pw_below_drewN | apply below_drew1 | refine below_set ?_ (IsS86.ge HI741.out)) | exact HB.out)⟩⟩
    case rest => as_aux_lemma =>
     clear HC11
     try clear c1
     try clear c2
     try clear p2
     try clear c4
     try clear c5
     try clear p6
     try clear c7
     try clear c7b0
     try clear p7
     try clear q7
     try clear hx7
     try clear c8
     try clear c8b0
     try clear c17
     try clear c20
     try clear c20b0
     try clear c20b1
     try clear hx756_0
     try clear p756
     try clear q756
     obtain ⟨kq, x49_10, rfl, HA, HJ10, HO_4, HB⟩ := hcut
     cases kq with
     | zero => exact absurd HA.out (by simp [wayzgooselaw03_NameColumn.j0])
     | succ kj10 =>
      have H := HA.out
      clear HA
      simp only [wayzgooselaw03_NameColumn.j0] at H
      by_cases c21 : x49_10 = true
      ·subst c21
       have H1 : (some false) = some r := by rw [if_pos rfl] at H; exact H
       clear H
       have H := H1
       clear H1
       obtain rfl := Option.some.inj H
       go_wp2
       go_ret
       exact ⟨by first | rfl | (simp [errW_none, errW_some] <;> rfl) | (simp [*, errW_none, errW_some] <;> rfl), by repeat (first | (with_reducible first | exact HB.out | apply below_alloc | apply pw_below_drewN | apply below_drew1) | exact HB.out)⟩
      ·replace c21 := Bool.eq_false_iff.mpr c21
       subst c21
       have H1 : (wayzgooselaw03_NameColumn.l0 kj10 y750 t753 t757 t759 t760 0 1) = some r := by rw [if_neg (show ¬ (false = true) by decide)] at H; exact H
       clear H
       have H := H1
       clear H1
       have H' := Aside0.mk H
       clear H
       go_wp2
       go_loopg [10, 11] kj10 (fun kq v10 v11 w' => ∃ (x10_2 : Int) (x11_2 : Int), v10 = .int .i64 x10_2 ∧ v11 = .int .i64 x11_2 ∧ Aside0 (wayzgooselaw03_NameColumn.l0 kq y750 t753 t757 t759 t760 x10_2 x11_2 = some r) ∧ Aside0 (kq ≤ kj10) ∧ Aside0 (Kd.R Kd.string 9 w' w.heap.size (fun _ => True) (.slice (some ad756) y750.length co16) y750) ∧ Aside0 (Below w.heap.size w w'))
       case atStart => exact ⟨(0), (1), (by first | rfl | (simp; done) | (simp [*]; done)), (by first | rfl | (simp; done) | (simp [*]; done)), H', ⟨Nat.le_refl _⟩, ⟨by (with_reducible repeat (first | apply Kd.R_alloc | apply Kd.R_drewN | apply Kd.R_drew)); exact HO_4.out⟩, ⟨by repeat (first | (with_reducible first | exact HB.out | apply below_alloc | apply pw_below_drewN | apply below_drew1) | exact HB.out)⟩⟩
       case round => as_aux_lemma =>
        clear H'
        try clear c1
        try clear c2
        try clear p2
        try clear c4
        try clear c5
        try clear p6
        try clear c7
        try clear c7b0
        try clear p7
        try clear q7
        try clear hx7
        try clear c8
        try clear c8b0
        try clear c17
        try clear c20
        try clear c20b0
        try clear c20b1
        try clear c21
        try clear hx756_0
        try clear p2
        try clear p6
        try clear p7
        try clear p756
        try clear q7
        try clear q756
        obtain ⟨x10_2, x11_2, rfl, rfl, HA, HK2, HO_4, HB⟩ := hrel
        cases gk with
        | zero => exact absurd HA.out (by simp [wayzgooselaw03_NameColumn.l0])
        | succ k2 =>
         have H := HA.out
         clear HA
         simp only [wayzgooselaw03_NameColumn.l0] at H
         by_cases c22 : x11_2 ≤ 12
         ·rw [if_pos c22] at H
          have c22b0 : decide (x11_2 ≤ 12) = true := decide_eq_true c22
          clear c22
          replace H := Option.bind_eq_some_iff.mp H
          obtain ⟨⟨t762, t763⟩, A230, H⟩ := H
          replace H : (if t763 = 0 then (if (t762.size : Int) = 0 then (wayzgooselaw03_NameColumn.j2 k2 y750 t753 t757 t759 t760 x10_2 x11_2 t762 true) else (wayzgooselaw03_NameColumn.j2 k2 y750 t753 t757 t759 t760 x10_2 x11_2 t762 (decide ((t762.size : Int) > x11_2)))) else (if t763 = 11 then (if x10_2 > 0 then (some false) else (if (t757.size : Int) ≤ x11_2 then (some false) else (if t760 = 0 then (if (t759.size : Int) ≤ x11_2 then (some false) else (wayzgooselaw03_NameColumn.l0 k2 y750 t753 t757 t759 t760 x10_2 (wrap64 (x11_2 + 1)))) else (wayzgooselaw03_NameColumn.l0 k2 y750 t753 t757 t759 t760 x10_2 (wrap64 (x11_2 + 1)))))) else (some false))) = some r := H
          have A23 := Aside0.mk A230
          clear A230
          by_cases c24 : t763 = 0
          ·rw [if_pos c24] at H
           have c24b0 : (t763 == 0) = true := beq_iff_eq.mpr c24
           have c24b1 : (t763 != 0) = false := bne_eq_false_iff_eq.mpr c24
           clear c24
           have HC25 := Aside0.mk H
           clear H
           go_upto_region 16 with (first | ((with_reducible refine gate_callee (f := 31) rfl ?_); refine goesL_ (some 58) rfl rfl Tryz.func31 (by kernel_rfl) rfl #[.slice (some ad756) y750.length co16, .int .i64 t753, .int .i64 x11_2] rfl (by (try simp only [List.map_toArray, List.map_cons, List.map_nil]); first | done | rfl | (simp only [List.length_drop, List.length_take]; rfl)) ?_; (with_reducible refine (name_Fit.calls _ _ y750 t753 x11_2 t762 t763 _ ?side1 ?side2 A23.out).mono ?_); (case side1 => repeat (first | exact (Kd.R_reads' HO_4.out).2.2 | (with_reducible refine Kd.C_alloc ?_ _) | (with_reducible refine Kd.C_drewN ?_ _) | (with_reducible refine Kd.C_drew ?_))); (case side2 => exact (Kd.R_reads' HO_4.out).2.1); rintro e w26 ⟨rfl, hb⟩; refine ⟨_, rfl, ?_⟩; have n0_ := Aside0.mk (Kd.R_below (by (with_reducible repeat (first | apply Kd.R_alloc | apply Kd.R_drewN | apply Kd.R_drew)); exact HO_4.out) hb); have n1_ := Aside0.mk (below_step (by repeat (first | (with_reducible first | exact HB.out | apply below_alloc | apply pw_below_drewN | apply below_drew1) | exact HB.out)) hb); clear HO_4; clear HB; have HO_4 := n0_; have HB := n1_; clear n0_ n1_; (try clear hb); (try clear hb2); (try clear hk); (try clear hi)))
           (try simp only [Act.put, List.setIfInBounds_toArray, List.set_cons_zero, List.set_cons_succ])
           go_cut [93] (fun v93 wc => ∃ (kq : Nat) (x93_24 : Bool), v93 = .bool x93_24 ∧ Aside0 (wayzgooselaw03_NameColumn.j2 kq y750 t753 t757 t759 t760 x10_2 x11_2 t762 x93_24 = some r) ∧ Aside0 (kq ≤ k2) ∧ Aside0 (Kd.R Kd.string 9 wc w.heap.size (fun _ => True) (.slice (some ad756) y750.length co16) y750) ∧ Aside0 (Below w.heap.size w wc))
           case first =>
            have H := HC25.out
            clear HC25
            by_cases c27 : (t762.size : Int) = 0
            ·rw [if_pos c27] at H
             have c27b0 : ((t762.size : Int) == 0) = true := beq_iff_eq.mpr c27
             have c27b1 : ((t762.size : Int) != 0) = false := bne_eq_false_iff_eq.mpr c27
             clear c27
             (first | rw [c27b0] | (simp only [i64_w, i32_w]; rw [c27b0]) | skip)
             have H' := Aside0.mk H
             clear H
             go_wp2
             go_meet
             case rel => exact ⟨_, (true), (by first | rfl | (simp; done) | (simp [*]; done)), H', ⟨by have := HJ10.out; have := HK2.out; first | omega | exact Nat.le_refl _⟩, ⟨by (with_reducible repeat (first | apply Kd.R_alloc | apply Kd.R_drewN | apply Kd.R_drew)); exact HO_4.out⟩, ⟨by repeat (first | (with_reducible first | exact HB.out | apply below_alloc | apply pw_below_drewN | apply below_drew1) | exact HB.out)⟩⟩
            ·rw [if_neg c27] at H
             have c27b0 : ((t762.size : Int) == 0) = false := beq_eq_false_iff_ne.mpr c27
             have c27b1 : ((t762.size : Int) != 0) = true := bne_iff_ne.mpr c27
             (first | rw [c27b0] | (simp only [i64_w, i32_w]; rw [c27b0]) | skip)
             have H' := Aside0.mk H
             clear H
             go_wp2
             go_meet
             case rel => exact ⟨_, (decide ((t762.size : Int) > x11_2)), (by first | rfl | (simp; done) | (simp [*]; done)), H', ⟨by have := HJ10.out; have := HK2.out; first | omega | exact Nat.le_refl _⟩, ⟨by (with_reducible repeat (first | apply Kd.R_alloc | apply Kd.R_drewN | apply Kd.R_drew)); exact HO_4.out⟩, ⟨by repeat (first | (with_reducible first | exact HB.out | apply below_alloc | apply pw_below_drewN | apply below_drew1) | exact HB.out)⟩⟩
           case rest => as_aux_lemma =>
            clear HC25
            try clear c1
            try clear c2
            try clear p2
            try clear c3
            try clear c4
            try clear c5
            try clear p6
            try clear c7
            try clear c7b0
            try clear p7
            try clear q7
            try clear hx7
            try clear c8
            try clear c8b0
            try clear c17
            try clear c20
            try clear c20b0
            try clear c20b1
            try clear c21
            try clear c22
            try clear c22b0
            try clear c23
            try clear c24
            try clear c24b0
            try clear c24b1
            try clear c25
            try clear c26
            try clear c27
            try clear c27b0
            try clear c27b1
            try clear hx756_0
            try clear p2
            try clear p6
            try clear p7
            try clear p756
            try clear q7
            try clear q756
            obtain ⟨kq, x93_24, rfl, HA, HJ24, HO_4, HB⟩ := hcut
            cases kq with
            | zero => exact absurd HA.out (by simp [wayzgooselaw03_NameColumn.j2])
            | succ kj24 =>
             have H := HA.out
             clear HA
             simp only [wayzgooselaw03_NameColumn.j2] at H
             by_cases c28 : x93_24 = true
             ·subst c28
              have H1 : (some false) = some r := by rw [if_pos rfl] at H; exact H
              clear H
              have H := H1
              clear H1
              obtain rfl := Option.some.inj H
              go_wp2
              go_ret
              exact ⟨by first | rfl | (simp [errW_none, errW_some] <;> rfl) | (simp [*, errW_none, errW_some] <;> rfl), by repeat (first | (with_reducible first | exact HB.out | apply below_alloc | apply pw_below_drewN | apply below_drew1) | exact HB.out)⟩
             ·replace c28 := Bool.eq_false_iff.mpr c28
              subst c28
              have H1 : (if t762.toList = t757.toList then (if (t762.size : Int) < x10_2 then (some false) else (wayzgooselaw03_NameColumn.l0 kj24 y750 t753 t757 t759 t760 (t762.size : Int) (wrap64 (x11_2 + 1)))) else ((wayzgooselaw03_mistaken.f kj24 t762 y750 t753).bind fun bt764 => (if bt764.2 = true then (if bt764.1 = true then (wayzgooselaw03_NameColumn.j3 kj24 y750 t753 t757 t759 t760 x10_2 x11_2 (t762.size : Int) true) else (wayzgooselaw03_NameColumn.j3 kj24 y750 t753 t757 t759 t760 x10_2 x11_2 (t762.size : Int) (decide ((t757.size : Int) ≤ x11_2)))) else (wayzgooselaw03_NameColumn.j3 kj24 y750 t753 t757 t759 t760 x10_2 x11_2 (t762.size : Int) true)))) = some r := by rw [if_neg (show ¬ (false = true) by decide)] at H; exact H
              clear H
              have H := H1
              clear H1
              by_cases c29 : t762.toList = t757.toList
              ·rw [if_pos c29] at H
               have c29b0 : (t762.toList == t757.toList) = true := beq_iff_eq.mpr c29
               have c29b1 : (t762.toList != t757.toList) = false := bne_eq_false_iff_eq.mpr c29
               clear c29
               by_cases c30 : (t762.size : Int) < x10_2
               ·rw [if_pos c30] at H
                have c30b0 : decide ((t762.size : Int) < x10_2) = true := decide_eq_true c30
                clear c30
                obtain rfl := Option.some.inj H
                go_wp2
                go_ret
                exact ⟨by first | rfl | (simp [errW_none, errW_some] <;> rfl) | (simp [*, errW_none, errW_some] <;> rfl), by repeat (first | (with_reducible first | exact HB.out | apply below_alloc | apply pw_below_drewN | apply below_drew1) | exact HB.out)⟩
               ·rw [if_neg c30] at H
                have c30b0 : decide ((t762.size : Int) < x10_2) = false := decide_eq_false c30
                clear c30
                have H' := Aside0.mk H
                clear H
                go_wp2
                go_roundg kj24
                case measure => have := HJ10.out; have := HK2.out; have := HJ24.out; omega
                case rel => exact ⟨((t762.size : Int)), (wrap64 (x11_2 + 1)), (by first | rfl | (simp; done) | (simp [*]; done)), (by first | rfl | (simp; done) | (simp [*]; done)), H', ⟨by have := HJ10.out; have := HK2.out; have := HJ24.out; omega⟩, ⟨by (with_reducible repeat (first | apply Kd.R_alloc | apply Kd.R_drewN | apply Kd.R_drew)); exact HO_4.out⟩, ⟨by repeat (first | (with_reducible first | exact HB.out | apply below_alloc | apply pw_below_drewN | apply below_drew1) | exact HB.out)⟩⟩
              ·rw [if_neg c29] at H
               have c29b0 : (t762.toList == t757.toList) = false := beq_eq_false_iff_ne.mpr c29
               have c29b1 : (t762.toList != t757.toList) = true := bne_iff_ne.mpr c29
               replace H := Option.bind_eq_some_iff.mp H
               obtain ⟨⟨t764, t765⟩, A310, H⟩ := H
               replace H : (if t765 = true then (if t764 = true then (wayzgooselaw03_NameColumn.j3 kj24 y750 t753 t757 t759 t760 x10_2 x11_2 (t762.size : Int) true) else (wayzgooselaw03_NameColumn.j3 kj24 y750 t753 t757 t759 t760 x10_2 x11_2 (t762.size : Int) (decide ((t757.size : Int) ≤ x11_2)))) else (wayzgooselaw03_NameColumn.j3 kj24 y750 t753 t757 t759 t760 x10_2 x11_2 (t762.size : Int) true)) = some r := H
               have A31 := Aside0.mk A310
               clear A310
               have HC32 := Aside0.mk H
               clear H
               go_upto_region 21 with (first | ((with_reducible refine gate_callee (f := 68) rfl ?_); refine goesL_ (some 103) rfl rfl Tryz.func68 (by kernel_rfl) rfl #[.string t762, .slice (some ad756) y750.length co16, .int .i64 t753] rfl (by (try simp only [List.map_toArray, List.map_cons, List.map_nil]); first | done | rfl | (simp only [List.length_drop, List.length_take]; rfl)) ?_; (with_reducible refine (wayzgooselaw03_mistaken.calls kj24 t762 _ _ y750 t753 t764 t765 _ ?side1 ?side2 A31.out).mono ?_); (case side1 => repeat (first | exact (Kd.R_reads' HO_4.out).2.2 | (with_reducible refine Kd.C_alloc ?_ _) | (with_reducible refine Kd.C_drewN ?_ _) | (with_reducible refine Kd.C_drew ?_))); (case side2 => exact (Kd.R_reads' HO_4.out).2.1); rintro e w33 ⟨rfl, hb⟩; refine ⟨_, rfl, ?_⟩; have n0_ := Aside0.mk (Kd.R_below (by (with_reducible repeat (first | apply Kd.R_alloc | apply Kd.R_drewN | apply Kd.R_drew)); exact HO_4.out) hb); have n1_ := Aside0.mk (below_step (by repeat (first | (with_reducible first | exact HB.out | apply below_alloc | apply pw_below_drewN | apply below_drew1) | exact HB.out)) hb); clear HO_4; clear HB; have HO_4 := n0_; have HB := n1_; clear n0_ n1_; (try clear hb); (try clear hb2); (try clear hk); (try clear hi)))
               (try simp only [Act.put, List.setIfInBounds_toArray, List.set_cons_zero, List.set_cons_succ])
               go_cut [116] (fun v116 wc => ∃ (kq : Nat) (x116_31 : Bool), v116 = .bool x116_31 ∧ Aside0 (wayzgooselaw03_NameColumn.j3 kq y750 t753 t757 t759 t760 x10_2 x11_2 (t762.size : Int) x116_31 = some r) ∧ Aside0 (kq ≤ kj24) ∧ Aside0 (Kd.R Kd.string 9 wc w.heap.size (fun _ => True) (.slice (some ad756) y750.length co16) y750) ∧ Aside0 (Below w.heap.size w wc))
               case first =>
                have H := HC32.out
                clear HC32
                by_cases c34 : t765 = true
                ·subst c34
                 have H1 : (if t764 = true then (wayzgooselaw03_NameColumn.j3 kj24 y750 t753 t757 t759 t760 x10_2 x11_2 (t762.size : Int) true) else (wayzgooselaw03_NameColumn.j3 kj24 y750 t753 t757 t759 t760 x10_2 x11_2 (t762.size : Int) (decide ((t757.size : Int) ≤ x11_2)))) = some r := by rw [if_pos rfl] at H; exact H
                 clear H
                 have H := H1
                 clear H1
                 by_cases c35 : t764 = true
                 ·subst c35
                  have H1 : (wayzgooselaw03_NameColumn.j3 kj24 y750 t753 t757 t759 t760 x10_2 x11_2 (t762.size : Int) true) = some r := by rw [if_pos rfl] at H; exact H
                  clear H
                  have H := H1
                  clear H1
                  have H' := Aside0.mk H
                  clear H
                  go_wp2
                  go_meet
                  case rel => exact ⟨_, (true), (by first | rfl | (simp; done) | (simp [*]; done)), H', ⟨by have := HJ10.out; have := HK2.out; have := HJ24.out; first | omega | exact Nat.le_refl _⟩, ⟨by (with_reducible repeat (first | apply Kd.R_alloc | apply Kd.R_drewN | apply Kd.R_drew)); exact HO_4.out⟩, ⟨by repeat (first | (with_reducible first | exact HB.out | apply below_alloc | apply pw_below_drewN | apply below_drew1) | exact HB.out)⟩⟩
                 ·replace c35 := Bool.eq_false_iff.mpr c35
                  subst c35
                  have H1 : (wayzgooselaw03_NameColumn.j3 kj24 y750 t753 t757 t759 t760 x10_2 x11_2 (t762.size : Int) (decide ((t757.size : Int) ≤ x11_2))) = some r := by rw [if_neg (show ¬ (false = true) by decide)] at H; exact H
                  clear H
                  have H := H1
                  clear H1
                  have H' := Aside0.mk H
                  clear H
                  go_wp2
                  go_meet
                  case rel => exact ⟨_, (decide ((t757.size : Int) ≤ x11_2)), (by first | rfl | (simp; done) | (simp [*]; done)), H', ⟨by have := HJ10.out; have := HK2.out; have := HJ24.out; first | omega | exact Nat.le_refl _⟩, ⟨by (with_reducible repeat (first | apply Kd.R_alloc | apply Kd.R_drewN | apply Kd.R_drew)); exact HO_4.out⟩, ⟨by repeat (first | (with_reducible first | exact HB.out | apply below_alloc | apply pw_below_drewN | apply below_drew1) | exact HB.out)⟩⟩
                ·replace c34 := Bool.eq_false_iff.mpr c34
                 subst c34
                 have H1 : (wayzgooselaw03_NameColumn.j3 kj24 y750 t753 t757 t759 t760 x10_2 x11_2 (t762.size : Int) true) = some r := by rw [if_neg (show ¬ (false = true) by decide)] at H; exact H
                 clear H
                 have H := H1
                 clear H1
                 have H' := Aside0.mk H
                 clear H
                 go_wp2
                 go_meet
                 case rel => exact ⟨_, (true), (by first | rfl | (simp; done) | (simp [*]; done)), H', ⟨by have := HJ10.out; have := HK2.out; have := HJ24.out; first | omega | exact Nat.le_refl _⟩, ⟨by (with_reducible repeat (first | apply Kd.R_alloc | apply Kd.R_drewN | apply Kd.R_drew)); exact HO_4.out⟩, ⟨by repeat (first | (with_reducible first | exact HB.out | apply below_alloc | apply pw_below_drewN | apply below_drew1) | exact HB.out)⟩⟩
               case rest => as_aux_lemma =>
                clear HC32
                try clear c1
                try clear c2
                try clear p2
                try clear c3
                try clear c4
                try clear c5
                try clear c6
                try clear p6
                try clear c7
                try clear c7b0
                try clear p7
                try clear q7
                try clear hx7
                try clear c8
                try clear c8b0
                try clear c17
                try clear c20
                try clear c20b0
                try clear c20b1
                try clear c21
                try clear c22
                try clear c22b0
                try clear c23
                try clear c24
                try clear c24b0
                try clear c24b1
                try clear c25
                try clear c26
                try clear c27
                try clear c27b0
                try clear c27b1
                try clear c28
                try clear c29
                try clear c29b0
                try clear c29b1
                try clear c30
                try clear c30b0
                try clear c31
                try clear c34
                try clear c35
                try clear hx756_0
                try clear p2
                try clear p6
                try clear p7
                try clear p756
                try clear q7
                try clear q756
                obtain ⟨kq, x116_31, rfl, HA, HJ31, HO_4, HB⟩ := hcut
                cases kq with
                | zero => exact absurd HA.out (by simp [wayzgooselaw03_NameColumn.j3])
                | succ kj31 =>
                 have H := HA.out
                 clear HA
                 simp only [wayzgooselaw03_NameColumn.j3] at H
                 by_cases c36 : x116_31 = true
                 ·subst c36
                  have H1 : (some false) = some r := by rw [if_pos rfl] at H; exact H
                  clear H
                  have H := H1
                  clear H1
                  obtain rfl := Option.some.inj H
                  go_wp2
                  go_ret
                  exact ⟨by first | rfl | (simp [errW_none, errW_some] <;> rfl) | (simp [*, errW_none, errW_some] <;> rfl), by repeat (first | (with_reducible first | exact HB.out | apply below_alloc | apply pw_below_drewN | apply below_drew1) | exact HB.out)⟩
                 ·replace c36 := Bool.eq_false_iff.mpr c36
                  subst c36
                  have H1 : (if (wrap64 ((t762.size : Int) - 1)) < x10_2 then (some false) else (wayzgooselaw03_NameColumn.l0 kj31 y750 t753 t757 t759 t760 (wrap64 ((t762.size : Int) - 1)) (wrap64 (x11_2 + 1)))) = some r := by rw [if_neg (show ¬ (false = true) by decide)] at H; exact H
                  clear H
                  have H := H1
                  clear H1
                  by_cases c37 : (wrap64 ((t762.size : Int) - 1)) < x10_2
                  ·rw [if_pos c37] at H
                   have c37b0 : decide ((wrap64 ((t762.size : Int) - 1)) < x10_2) = true := decide_eq_true c37
                   clear c37
                   obtain rfl := Option.some.inj H
                   go_wp2
                   go_ret
                   exact ⟨by first | rfl | (simp [errW_none, errW_some] <;> rfl) | (simp [*, errW_none, errW_some] <;> rfl), by repeat (first | (with_reducible first | exact HB.out | apply below_alloc | apply pw_below_drewN | apply below_drew1) | exact HB.out)⟩
                  ·rw [if_neg c37] at H
                   have c37b0 : decide ((wrap64 ((t762.size : Int) - 1)) < x10_2) = false := decide_eq_false c37
                   clear c37
                   have H' := Aside0.mk H
                   clear H
                   go_wp2
                   go_roundg kj31
                   case measure => have := HJ10.out; have := HK2.out; have := HJ24.out; have := HJ31.out; omega
                   case rel => exact ⟨(wrap64 ((t762.size : Int) - 1)), (wrap64 (x11_2 + 1)), (by first | rfl | (simp; done) | (simp [*]; done)), (by first | rfl | (simp; done) | (simp [*]; done)), H', ⟨by have := HJ10.out; have := HK2.out; have := HJ24.out; have := HJ31.out; omega⟩, ⟨by (with_reducible repeat (first | apply Kd.R_alloc | apply Kd.R_drewN | apply Kd.R_drew)); exact HO_4.out⟩, ⟨by repeat (first | (with_reducible first | exact HB.out | apply below_alloc | apply pw_below_drewN | apply below_drew1) | exact HB.out)⟩⟩
          ·rw [if_neg c24] at H
           have c24b0 : (t763 == 0) = false := beq_eq_false_iff_ne.mpr c24
           have c24b1 : (t763 != 0) = true := bne_iff_ne.mpr c24
           by_cases c38 : t763 = 11
           ·rw [if_pos c38] at H
            have c38b0 : (t763 == 11) = true := beq_iff_eq.mpr c38
            have c38b1 : (t763 != 11) = false := bne_eq_false_iff_eq.mpr c38
            clear c38
            by_cases c39 : x10_2 > 0
            ·rw [if_pos c39] at H
             have c39b0 : decide (0 < x10_2) = true := decide_eq_true c39
             clear c39
             obtain rfl := Option.some.inj H
             go_wp2_with (first | ((with_reducible refine gate_callee (f := 31) rfl ?_); refine goesL_ (some 58) rfl rfl Tryz.func31 (by kernel_rfl) rfl #[.slice (some ad756) y750.length co16, .int .i64 t753, .int .i64 x11_2] rfl (by (try simp only [List.map_toArray, List.map_cons, List.map_nil]); first | done | rfl | (simp only [List.length_drop, List.length_take]; rfl)) ?_; (with_reducible refine (name_Fit.calls _ _ y750 t753 x11_2 t762 t763 _ ?side1 ?side2 A23.out).mono ?_); (case side1 => repeat (first | exact (Kd.R_reads' HO_4.out).2.2 | (with_reducible refine Kd.C_alloc ?_ _) | (with_reducible refine Kd.C_drewN ?_ _) | (with_reducible refine Kd.C_drew ?_))); (case side2 => exact (Kd.R_reads' HO_4.out).2.1); rintro e w40 ⟨rfl, hb⟩; refine ⟨_, rfl, ?_⟩; have n0_ := Aside0.mk (Kd.R_below (by (with_reducible repeat (first | apply Kd.R_alloc | apply Kd.R_drewN | apply Kd.R_drew)); exact HO_4.out) hb); have n1_ := Aside0.mk (below_step (by repeat (first | (with_reducible first | exact HB.out | apply below_alloc | apply pw_below_drewN | apply below_drew1) | exact HB.out)) hb); clear HO_4; clear HB; have HO_4 := n0_; have HB := n1_; clear n0_ n1_; (try clear hb); (try clear hb2); (try clear hk); (try clear hi)))
             go_ret
             exact ⟨by first | rfl | (simp [errW_none, errW_some] <;> rfl) | (simp [*, errW_none, errW_some] <;> rfl), by repeat (first | (with_reducible first | exact HB.out | apply below_alloc | apply pw_below_drewN | apply below_drew1) | exact HB.out)⟩
            ·rw [if_neg c39] at H
             have c39b0 : decide (0 < x10_2) = false := decide_eq_false c39
             clear c39
             by_cases c41 : (t757.size : Int) ≤ x11_2
             ·rw [if_pos c41] at H
              have c41b0 : decide ((t757.size : Int) ≤ x11_2) = true := decide_eq_true c41
              clear c41
              obtain rfl := Option.some.inj H
              go_wp2_with (first | ((with_reducible refine gate_callee (f := 31) rfl ?_); refine goesL_ (some 58) rfl rfl Tryz.func31 (by kernel_rfl) rfl #[.slice (some ad756) y750.length co16, .int .i64 t753, .int .i64 x11_2] rfl (by (try simp only [List.map_toArray, List.map_cons, List.map_nil]); first | done | rfl | (simp only [List.length_drop, List.length_take]; rfl)) ?_; (with_reducible refine (name_Fit.calls _ _ y750 t753 x11_2 t762 t763 _ ?side1 ?side2 A23.out).mono ?_); (case side1 => repeat (first | exact (Kd.R_reads' HO_4.out).2.2 | (with_reducible refine Kd.C_alloc ?_ _) | (with_reducible refine Kd.C_drewN ?_ _) | (with_reducible refine Kd.C_drew ?_))); (case side2 => exact (Kd.R_reads' HO_4.out).2.1); rintro e w42 ⟨rfl, hb⟩; refine ⟨_, rfl, ?_⟩; have n0_ := Aside0.mk (Kd.R_below (by (with_reducible repeat (first | apply Kd.R_alloc | apply Kd.R_drewN | apply Kd.R_drew)); exact HO_4.out) hb); have n1_ := Aside0.mk (below_step (by repeat (first | (with_reducible first | exact HB.out | apply below_alloc | apply pw_below_drewN | apply below_drew1) | exact HB.out)) hb); clear HO_4; clear HB; have HO_4 := n0_; have HB := n1_; clear n0_ n1_; (try clear hb); (try clear hb2); (try clear hk); (try clear hi)))
              go_ret
              exact ⟨by first | rfl | (simp [errW_none, errW_some] <;> rfl) | (simp [*, errW_none, errW_some] <;> rfl), by repeat (first | (with_reducible first | exact HB.out | apply below_alloc | apply pw_below_drewN | apply below_drew1) | exact HB.out)⟩
             ·rw [if_neg c41] at H
              have c41b0 : decide ((t757.size : Int) ≤ x11_2) = false := decide_eq_false c41
              clear c41
              by_cases c43 : t760 = 0
              ·rw [if_pos c43] at H
               have c43b0 : (t760 == 0) = true := beq_iff_eq.mpr c43
               have c43b1 : (t760 != 0) = false := bne_eq_false_iff_eq.mpr c43
               clear c43
               by_cases c44 : (t759.size : Int) ≤ x11_2
               ·rw [if_pos c44] at H
                have c44b0 : decide ((t759.size : Int) ≤ x11_2) = true := decide_eq_true c44
                clear c44
                obtain rfl := Option.some.inj H
                go_wp2_with (first | ((with_reducible refine gate_callee (f := 31) rfl ?_); refine goesL_ (some 58) rfl rfl Tryz.func31 (by kernel_rfl) rfl #[.slice (some ad756) y750.length co16, .int .i64 t753, .int .i64 x11_2] rfl (by (try simp only [List.map_toArray, List.map_cons, List.map_nil]); first | done | rfl | (simp only [List.length_drop, List.length_take]; rfl)) ?_; (with_reducible refine (name_Fit.calls _ _ y750 t753 x11_2 t762 t763 _ ?side1 ?side2 A23.out).mono ?_); (case side1 => repeat (first | exact (Kd.R_reads' HO_4.out).2.2 | (with_reducible refine Kd.C_alloc ?_ _) | (with_reducible refine Kd.C_drewN ?_ _) | (with_reducible refine Kd.C_drew ?_))); (case side2 => exact (Kd.R_reads' HO_4.out).2.1); rintro e w45 ⟨rfl, hb⟩; refine ⟨_, rfl, ?_⟩; have n0_ := Aside0.mk (Kd.R_below (by (with_reducible repeat (first | apply Kd.R_alloc | apply Kd.R_drewN | apply Kd.R_drew)); exact HO_4.out) hb); have n1_ := Aside0.mk (below_step (by repeat (first | (with_reducible first | exact HB.out | apply below_alloc | apply pw_below_drewN | apply below_drew1) | exact HB.out)) hb); clear HO_4; clear HB; have HO_4 := n0_; have HB := n1_; clear n0_ n1_; (try clear hb); (try clear hb2); (try clear hk); (try clear hi)))
                go_ret
                exact ⟨by first | rfl | (simp [errW_none, errW_some] <;> rfl) | (simp [*, errW_none, errW_some] <;> rfl), by repeat (first | (with_reducible first | exact HB.out | apply below_alloc | apply pw_below_drewN | apply below_drew1) | exact HB.out)⟩
               ·rw [if_neg c44] at H
                have c44b0 : decide ((t759.size : Int) ≤ x11_2) = false := decide_eq_false c44
                clear c44
                have H' := Aside0.mk H
                clear H
                go_wp2_with (first | ((with_reducible refine gate_callee (f := 31) rfl ?_); refine goesL_ (some 58) rfl rfl Tryz.func31 (by kernel_rfl) rfl #[.slice (some ad756) y750.length co16, .int .i64 t753, .int .i64 x11_2] rfl (by (try simp only [List.map_toArray, List.map_cons, List.map_nil]); first | done | rfl | (simp only [List.length_drop, List.length_take]; rfl)) ?_; (with_reducible refine (name_Fit.calls _ _ y750 t753 x11_2 t762 t763 _ ?side1 ?side2 A23.out).mono ?_); (case side1 => repeat (first | exact (Kd.R_reads' HO_4.out).2.2 | (with_reducible refine Kd.C_alloc ?_ _) | (with_reducible refine Kd.C_drewN ?_ _) | (with_reducible refine Kd.C_drew ?_))); (case side2 => exact (Kd.R_reads' HO_4.out).2.1); rintro e w46 ⟨rfl, hb⟩; refine ⟨_, rfl, ?_⟩; have n0_ := Aside0.mk (Kd.R_below (by (with_reducible repeat (first | apply Kd.R_alloc | apply Kd.R_drewN | apply Kd.R_drew)); exact HO_4.out) hb); have n1_ := Aside0.mk (below_step (by repeat (first | (with_reducible first | exact HB.out | apply below_alloc | apply pw_below_drewN | apply below_drew1) | exact HB.out)) hb); clear HO_4; clear HB; have HO_4 := n0_; have HB := n1_; clear n0_ n1_; (try clear hb); (try clear hb2); (try clear hk); (try clear hi)))
                go_roundg k2
                case measure => have := HJ10.out; have := HK2.out; omega
                case rel => exact ⟨(x10_2), (wrap64 (x11_2 + 1)), (by first | rfl | (simp; done) | (simp [*]; done)), (by first | rfl | (simp; done) | (simp [*]; done)), H', ⟨by have := HJ10.out; have := HK2.out; omega⟩, ⟨by (with_reducible repeat (first | apply Kd.R_alloc | apply Kd.R_drewN | apply Kd.R_drew)); exact HO_4.out⟩, ⟨by repeat (first | (with_reducible first | exact HB.out | apply below_alloc | apply pw_below_drewN | apply below_drew1) | exact HB.out)⟩⟩
              ·rw [if_neg c43] at H
               have c43b0 : (t760 == 0) = false := beq_eq_false_iff_ne.mpr c43
               have c43b1 : (t760 != 0) = true := bne_iff_ne.mpr c43
               have H' := Aside0.mk H
               clear H
               go_wp2_with (first | ((with_reducible refine gate_callee (f := 31) rfl ?_); refine goesL_ (some 58) rfl rfl Tryz.func31 (by kernel_rfl) rfl #[.slice (some ad756) y750.length co16, .int .i64 t753, .int .i64 x11_2] rfl (by (try simp only [List.map_toArray, List.map_cons, List.map_nil]); first | done | rfl | (simp only [List.length_drop, List.length_take]; rfl)) ?_; (with_reducible refine (name_Fit.calls _ _ y750 t753 x11_2 t762 t763 _ ?side1 ?side2 A23.out).mono ?_); (case side1 => repeat (first | exact (Kd.R_reads' HO_4.out).2.2 | (with_reducible refine Kd.C_alloc ?_ _) | (with_reducible refine Kd.C_drewN ?_ _) | (with_reducible refine Kd.C_drew ?_))); (case side2 => exact (Kd.R_reads' HO_4.out).2.1); rintro e w47 ⟨rfl, hb⟩; refine ⟨_, rfl, ?_⟩; have n0_ := Aside0.mk (Kd.R_below (by (with_reducible repeat (first | apply Kd.R_alloc | apply Kd.R_drewN | apply Kd.R_drew)); exact HO_4.out) hb); have n1_ := Aside0.mk (below_step (by repeat (first | (with_reducible first | exact HB.out | apply below_alloc | apply pw_below_drewN | apply below_drew1) | exact HB.out)) hb); clear HO_4; clear HB; have HO_4 := n0_; have HB := n1_; clear n0_ n1_; (try clear hb); (try clear hb2); (try clear hk); (try clear hi)))
               go_roundg k2
               case measure => have := HJ10.out; have := HK2.out; omega
               case rel => exact ⟨(x10_2), (wrap64 (x11_2 + 1)), (by first | rfl | (simp; done) | (simp [*]; done)), (by first | rfl | (simp; done) | (simp [*]; done)), H', ⟨by have := HJ10.out; have := HK2.out; omega⟩, ⟨by (with_reducible repeat (first | apply Kd.R_alloc | apply Kd.R_drewN | apply Kd.R_drew)); exact HO_4.out⟩, ⟨by repeat (first | (with_reducible first | exact HB.out | apply below_alloc | apply pw_below_drewN | apply below_drew1) | exact HB.out)⟩⟩
           ·rw [if_neg c38] at H
            have c38b0 : (t763 == 11) = false := beq_eq_false_iff_ne.mpr c38
            have c38b1 : (t763 != 11) = true := bne_iff_ne.mpr c38
            obtain rfl := Option.some.inj H
            go_wp2_with (first | ((with_reducible refine gate_callee (f := 31) rfl ?_); refine goesL_ (some 58) rfl rfl Tryz.func31 (by kernel_rfl) rfl #[.slice (some ad756) y750.length co16, .int .i64 t753, .int .i64 x11_2] rfl (by (try simp only [List.map_toArray, List.map_cons, List.map_nil]); first | done | rfl | (simp only [List.length_drop, List.length_take]; rfl)) ?_; (with_reducible refine (name_Fit.calls _ _ y750 t753 x11_2 t762 t763 _ ?side1 ?side2 A23.out).mono ?_); (case side1 => repeat (first | exact (Kd.R_reads' HO_4.out).2.2 | (with_reducible refine Kd.C_alloc ?_ _) | (with_reducible refine Kd.C_drewN ?_ _) | (with_reducible refine Kd.C_drew ?_))); (case side2 => exact (Kd.R_reads' HO_4.out).2.1); rintro e w48 ⟨rfl, hb⟩; refine ⟨_, rfl, ?_⟩; have n0_ := Aside0.mk (Kd.R_below (by (with_reducible repeat (first | apply Kd.R_alloc | apply Kd.R_drewN | apply Kd.R_drew)); exact HO_4.out) hb); have n1_ := Aside0.mk (below_step (by repeat (first | (with_reducible first | exact HB.out | apply below_alloc | apply pw_below_drewN | apply below_drew1) | exact HB.out)) hb); clear HO_4; clear HB; have HO_4 := n0_; have HB := n1_; clear n0_ n1_; (try clear hb); (try clear hb2); (try clear hk); (try clear hi)))
            go_ret
            exact ⟨by first | rfl | (simp [errW_none, errW_some] <;> rfl) | (simp [*, errW_none, errW_some] <;> rfl), by repeat (first | (with_reducible first | exact HB.out | apply below_alloc | apply pw_below_drewN | apply below_drew1) | exact HB.out)⟩
         ·rw [if_neg c22] at H
          have c22b0 : decide (x11_2 ≤ 12) = false := decide_eq_false c22
          clear c22
          replace H := Option.bind_eq_some_iff.mp H
          obtain ⟨t761, A490, H⟩ := H
          replace H : (some t761) = some r := H
          have A49 := Aside0.mk A490
          clear A490
          obtain rfl := Option.some.inj H
          go_wp2_with (first | ((with_reducible refine gate_callee (f := 22) rfl ?_); refine goesL_ (some 123) rfl rfl Tryz.func22 (by kernel_rfl) rfl #[] rfl (by (try simp only [List.map_toArray, List.map_cons, List.map_nil]); first | done | rfl | (simp only [List.length_drop, List.length_take]; rfl)) ?_; (with_reducible refine (wayzgooselaw03_spelling.calls  t761 _ A49.out).mono ?_); rintro e w50 ⟨rfl, hb⟩; refine ⟨_, rfl, ?_⟩; have n0_ := Aside0.mk (Kd.R_below (by (with_reducible repeat (first | apply Kd.R_alloc | apply Kd.R_drewN | apply Kd.R_drew)); exact HO_4.out) hb); have n1_ := Aside0.mk (below_step (by repeat (first | (with_reducible first | exact HB.out | apply below_alloc | apply pw_below_drewN | apply below_drew1) | exact HB.out)) hb); clear HO_4; clear HB; have HO_4 := n0_; have HB := n1_; clear n0_ n1_; (try clear hb); (try clear hb2); (try clear hk); (try clear hi)))
          go_ret
          exact ⟨by first | rfl | (simp [errW_none, errW_some] <;> rfl) | (simp [*, errW_none, errW_some] <;> rfl), by repeat (first | (with_reducible first | exact HB.out | apply below_alloc | apply pw_below_drewN | apply below_drew1) | exact HB.out)⟩
   ·rw [if_neg c8] at H
    exact absurd H (by simp)
  ·rw [if_neg c7] at H
   exact absurd H (by simp)
 ·rw [if_neg c5] at H
  exact absurd H (by simp)

/-- THE ONE PURE STATEMENT of wayzgooselaw03_NameColumn: yours. -/
def wayzgooselaw03_NameColumn.Pure : Prop := ∀ (l0 : List Int), l0.length ≤ maxLen → l0.length * 8 ≤ 140737488351232 → (∀ x ∈ l0, (Lit.int .i64 x).wf = true) → ∃ k, wayzgooselaw03_NameColumn.f k l0 = some true
theorem wayzgooselaw03_NameColumn.walk (P : wayzgooselaw03_NameColumn.Pure) (a0 : Option Addr) (len0 cap0 : Nat) (z0 : List Int) (w : World) (w0 : (a0 = none ∧ len0 = 0 ∧ cap0 = 0 ∧ z0 = []) ∨ ∃ x, a0 = some x ∧ len0 ≤ cap0 ∧ cap0 ≤ maxLen ∧ z0.length = cap0 ∧ (∀ i, i < z0.length → w.cell? (x.add i) = some (.int .i64 (z0.getD i 0))) ∧ ∀ n ∈ z0, (Lit.int .i64 n).wf = true) (y0 : len0 * 8 ≤ 140737488351232) :
  Calls Tryz.prog 17 #[.slice a0 len0 cap0] w fun e w' => e = .returned (.bool true) ∧ Below w.heap.size w w' := by
 obtain ⟨l0, rfl, hr0, hm0, hw0, hc0⟩ := ReadsInt.ofRowC w0
 obtain ⟨k, h⟩ := P l0 hm0 y0 hw0
 refine (wayzgooselaw03_NameColumn.calls k _ _ l0 true w (Kd.C_of_reads (d := (0 : Int)) (h1 := fun _ => rfl) hr0) hc0 h).mono ?_
 rintro e w' ⟨rfl, hd⟩
 exact ⟨rfl, hd⟩

end Go.Proofs.YtapikimhmjnjeaaGreatDoor.Pr

