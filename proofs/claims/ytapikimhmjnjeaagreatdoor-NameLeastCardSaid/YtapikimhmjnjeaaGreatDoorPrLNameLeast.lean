/- A text of the claim. -/
import Derived.Test.YtapikimhmjnjeaaGreatDoorPr0
import Derived.Test.YtapikimhmjnjeaaGreatDoorPrExtSpell
import Derived.Test.YtapikimhmjnjeaaGreatDoorPrExtAbb
import Derived.Test.YtapikimhmjnjeaaGreatDoorPrExt
import Derived.Test.YtapikimhmjnjeaaGreatDoorPr2
import Derived.Test.YtapikimhmjnjeaaGreatDoorPr3
import Derived.Test.YtapikimhmjnjeaaGreatDoorPr14
namespace Go.Proofs.YtapikimhmjnjeaaGreatDoor.Pr
open Go.RowKit Go.Proofs.YtapikimhmjnjeaaGreatDoorW.PrintWords Go.Proofs.YtapikimhmjnjeaaGreatDoorW.PrintLast Go.Proofs.YtapikimhmjnjeaaGreatDoorW.PrintMore
attribute [local go_sem] max2_int min2_int max_two min_two max_three min_three max_four min_four   -- for this text's walks alone
set_option linter.unusedVariables false
set_option linter.unusedSimpArgs false

mutual
def wayzgooselaw03_NameLeast.l0 : Nat → List ByteArray → Int → ByteArray → Int → ByteArray → Int → Option (Bool)
 | 0, _, _, _, _, _, _ => none
 | k + 1, x4, x5, x6, x7, x8, x10 => if x10 < (x8.size : Int) then ((wayzgooselaw03_abbreviations.f x8 x10).bind fun t730 => (wayzgooselaw03_NameLeast.l1 k x4 x5 x6 x7 x8 x10 t730 0)) else (if x7 = 11 then (if x6.toList = ([] : List UInt8) then ((wayzgooselaw03_spelling.f).bind fun t729 => (some t729)) else (some false)) else (some false))
def wayzgooselaw03_NameLeast.l1 : Nat → List ByteArray → Int → ByteArray → Int → ByteArray → Int → List ByteArray → Int → Option (Bool)
 | 0, _, _, _, _, _, _, _, _ => none
 | k + 1, x4, x5, x6, x7, x8, x10, x11, x12 => if x12 < (x11.length : Int) then (if 0 ≤ x12 then (if (rdOf ByteArray.empty x11 x12).size + 1 ≤ 9223372036854775807 then ((wayzgooselaw03_mistaken.f k ((rdOf ByteArray.empty x11 x12) ++ (⟨#[46]⟩ : ByteArray)) x4 x5).bind fun bt734 => (if bt734.2 = true then (if bt734.1 = true then (wayzgooselaw03_NameLeast.l1 k x4 x5 x6 x7 x8 x10 x11 (wrap64 (x12 + 1))) else (if x7 = 0 then (if x6.toList = ((rdOf ByteArray.empty x11 x12) ++ (⟨#[46]⟩ : ByteArray)).toList then ((wayzgooselaw03_spelling.f).bind fun t737 => (some t737)) else (some false)) else (some false))) else (some false))) else (none)) else (none)) else (wayzgooselaw03_NameLeast.l0 k x4 x5 x6 x7 x8 (wrap64 (x10 + 1)))
end
def wayzgooselaw03_NameLeast.f (k : Nat) (l0 : List Int) : Option (Bool) := (wayzgoosekit_NewDice.f l0).bind fun bt706 => ((wayzgoosekit_NamesOf.f k bt706.1 bt706.2.1 bt706.2.2 4 4).bind fun bt710 => ((wayzgoosekit_NameOf.f k bt706.1 bt710.2.1 bt710.2.2 4).bind fun bt715 => (if bt710.1.length < 8796093022208 then ((some (bt710.1 ++ [bt715.1] : List ByteArray)).bind fun y718 => ((wayzgoosekit_Dice_To.f bt706.1 bt715.2.1 bt715.2.2 (wrap64 ((y718.length : Int) - 1))).bind fun bt721 => ((name_Shortest.f y718 bt721.1).bind fun bt724 => (if 0 ≤ bt721.1 then (if bt721.1 < (y718.length : Int) then ((wayzgooseref03_Key.f k (rdOf ByteArray.empty y718 bt721.1)).bind fun bt727 => (wayzgooselaw03_NameLeast.l0 k y718 bt721.1 bt724.1 bt724.2 bt727.1 1)) else (none)) else (none))))) else (none))))
set_option maxHeartbeats 8000000 in
set_option maxRecDepth 100000 in
theorem wayzgooselaw03_NameLeast.calls (k : Nat) (A0 : Option Addr) (c0 : Nat) (l0 : List Int) (r : Bool) (w : World) (hr0 : Kd.C (Kd.int .i64) w A0 l0.length l0) (hc0 : l0.length ≤ c0) (h : wayzgooselaw03_NameLeast.f k l0 = some r) :
  Calls Tryz.prog 16 #[.slice A0 l0.length c0] w fun e w' => e = .returned (.bool r) ∧ Below w.heap.size w w' := by
 have HR0 := Aside0.mk hr0
 have HC0 := Aside0.mk hc0
 clear hr0 hc0
 have HB := Aside0.mk (Below.refl w.heap.size w)
 have H : ((wayzgoosekit_NewDice.f l0).bind fun bt706 => ((wayzgoosekit_NamesOf.f k bt706.1 bt706.2.1 bt706.2.2 4 4).bind fun bt710 => ((wayzgoosekit_NameOf.f k bt706.1 bt710.2.1 bt710.2.2 4).bind fun bt715 => (if bt710.1.length < 8796093022208 then ((some (bt710.1 ++ [bt715.1] : List ByteArray)).bind fun y718 => ((wayzgoosekit_Dice_To.f bt706.1 bt715.2.1 bt715.2.2 (wrap64 ((y718.length : Int) - 1))).bind fun bt721 => ((name_Shortest.f y718 bt721.1).bind fun bt724 => (if 0 ≤ bt721.1 then (if bt721.1 < (y718.length : Int) then ((wayzgooseref03_Key.f k (rdOf ByteArray.empty y718 bt721.1)).bind fun bt727 => (wayzgooselaw03_NameLeast.l0 k y718 bt721.1 bt724.1 bt724.2 bt727.1 1)) else (none)) else (none))))) else (none))))) = some r := h
 clear h
 replace H := Option.bind_eq_some_iff.mp H
 obtain ⟨⟨t706, t707, t708⟩, A20, H⟩ := H
 replace H : ((wayzgoosekit_NamesOf.f k t706 t707 t708 4 4).bind fun bt710 => ((wayzgoosekit_NameOf.f k t706 bt710.2.1 bt710.2.2 4).bind fun bt715 => (if bt710.1.length < 8796093022208 then ((some (bt710.1 ++ [bt715.1] : List ByteArray)).bind fun y718 => ((wayzgoosekit_Dice_To.f t706 bt715.2.1 bt715.2.2 (wrap64 ((y718.length : Int) - 1))).bind fun bt721 => ((name_Shortest.f y718 bt721.1).bind fun bt724 => (if 0 ≤ bt721.1 then (if bt721.1 < (y718.length : Int) then ((wayzgooseref03_Key.f k (rdOf ByteArray.empty y718 bt721.1)).bind fun bt727 => (wayzgooselaw03_NameLeast.l0 k y718 bt721.1 bt724.1 bt724.2 bt727.1 1)) else (none)) else (none))))) else (none)))) = some r := H
 have A2 := Aside0.mk A20
 clear A20
 replace H := Option.bind_eq_some_iff.mp H
 obtain ⟨⟨t710, t713, t714⟩, A30, H⟩ := H
 replace H : ((wayzgoosekit_NameOf.f k t706 t713 t714 4).bind fun bt715 => (if t710.length < 8796093022208 then ((some (t710 ++ [bt715.1] : List ByteArray)).bind fun y718 => ((wayzgoosekit_Dice_To.f t706 bt715.2.1 bt715.2.2 (wrap64 ((y718.length : Int) - 1))).bind fun bt721 => ((name_Shortest.f y718 bt721.1).bind fun bt724 => (if 0 ≤ bt721.1 then (if bt721.1 < (y718.length : Int) then ((wayzgooseref03_Key.f k (rdOf ByteArray.empty y718 bt721.1)).bind fun bt727 => (wayzgooselaw03_NameLeast.l0 k y718 bt721.1 bt724.1 bt724.2 bt727.1 1)) else (none)) else (none))))) else (none))) = some r := H
 have A3 := Aside0.mk A30
 clear A30
 replace H := Option.bind_eq_some_iff.mp H
 obtain ⟨⟨t715, t716, t717⟩, A40, H⟩ := H
 replace H : (if t710.length < 8796093022208 then ((some (t710 ++ [t715] : List ByteArray)).bind fun y718 => ((wayzgoosekit_Dice_To.f t706 t716 t717 (wrap64 ((y718.length : Int) - 1))).bind fun bt721 => ((name_Shortest.f y718 bt721.1).bind fun bt724 => (if 0 ≤ bt721.1 then (if bt721.1 < (y718.length : Int) then ((wayzgooseref03_Key.f k (rdOf ByteArray.empty y718 bt721.1)).bind fun bt727 => (wayzgooselaw03_NameLeast.l0 k y718 bt721.1 bt724.1 bt724.2 bt727.1 1)) else (none)) else (none))))) else (none)) = some r := H
 have A4 := Aside0.mk A40
 clear A40
 by_cases c5 : t710.length < 8796093022208
 ·rw [if_pos c5] at H
  have LMc5 := Aside0.mk c5
  clear c5
  obtain ⟨y718, hy718⟩ : ∃ y_ : List ByteArray, y_ = (t710 ++ [t715]) := ⟨_, rfl⟩
  replace H : ((wayzgoosekit_Dice_To.f t706 t716 t717 (wrap64 ((y718.length : Int) - 1))).bind fun bt721 => ((name_Shortest.f y718 bt721.1).bind fun bt724 => (if 0 ≤ bt721.1 then (if bt721.1 < (y718.length : Int) then ((wayzgooseref03_Key.f k (rdOf ByteArray.empty y718 bt721.1)).bind fun bt727 => (wayzgooselaw03_NameLeast.l0 k y718 bt721.1 bt724.1 bt724.2 bt727.1 1)) else (none)) else (none)))) = some r := by first | (rw [hy718]; with_reducible exact H) | (have H2_ := (Option.bind_some _ _).symm.trans H; rw [hy718]; with_reducible exact H2_) | (have H2_ := (Option.bind_some _ _).symm.trans H; with_reducible exact H2_) | with_reducible exact H | (rw [hy718]; exact H) | exact H
  have Ny718 := Aside0.mk hy718
  clear hy718
  replace H := Option.bind_eq_some_iff.mp H
  obtain ⟨⟨t721, t722, t723⟩, A60, H⟩ := H
  replace H : ((name_Shortest.f y718 t721).bind fun bt724 => (if 0 ≤ t721 then (if t721 < (y718.length : Int) then ((wayzgooseref03_Key.f k (rdOf ByteArray.empty y718 t721)).bind fun bt727 => (wayzgooselaw03_NameLeast.l0 k y718 t721 bt724.1 bt724.2 bt727.1 1)) else (none)) else (none))) = some r := H
  have A6 := Aside0.mk A60
  clear A60
  replace H := Option.bind_eq_some_iff.mp H
  obtain ⟨⟨t724, t725⟩, A70, H⟩ := H
  replace H : (if 0 ≤ t721 then (if t721 < (y718.length : Int) then ((wayzgooseref03_Key.f k (rdOf ByteArray.empty y718 t721)).bind fun bt727 => (wayzgooselaw03_NameLeast.l0 k y718 t721 t724 t725 bt727.1 1)) else (none)) else (none)) = some r := H
  have A7 := Aside0.mk A70
  clear A70
  by_cases c8 : 0 ≤ t721
  ·rw [if_pos c8] at H
   have c8b0 : decide (0 ≤ t721) = true := decide_eq_true c8
   clear c8
   by_cases c9 : t721 < (y718.length : Int)
   ·rw [if_pos c9] at H
    have c9b0 : decide (t721 < (y718.length : Int)) = true := decide_eq_true c9
    clear c9
    replace H := Option.bind_eq_some_iff.mp H
    obtain ⟨⟨t727, t728⟩, A100, H⟩ := H
    replace H : (wayzgooselaw03_NameLeast.l0 k y718 t721 t724 t725 t727 1) = some r := H
    have A10 := Aside0.mk A100
    clear A100
    have H' := Aside0.mk H
    clear H
    go_enter Tryz.func16, Tryz.ntmps16
    go_wp2_with (first | ((with_reducible refine gate_callee (f := 23) rfl ?_); refine goesL_ (some 16) rfl rfl Tryz.func23 (by kernel_rfl) rfl #[.slice A0 l0.length c0] rfl (by (try simp only [List.map_toArray, List.map_cons, List.map_nil]); first | done | rfl | (simp only [List.length_drop, List.length_take]; rfl)) ?_; (with_reducible refine (wayzgoosekit_NewDice.calls _ _ l0 t706 t707 t708 w _ ?side1 ?side2 ?side3 A2.out).mono ?_); (case side1 => repeat (first | (with_reducible first | exact HB.out | apply below_alloc | apply pw_below_drewN | apply below_drew1) | exact HB.out)); (case side2 => exact HR0.out); (case side3 => exact HC0.out); rintro e w11 ⟨g709, rfl, hi, hb, hb2⟩; refine ⟨_, rfl, ?_⟩; have n0_ := Aside0.mk (hb); have n1_ := Aside0.mk (hi); clear HB; have HB := n0_; have HI709 := n1_; clear n0_ n1_; (try clear hb); (try clear hb2); (try clear hk); (try clear hi)) | ((with_reducible refine gate_callee (f := 24) rfl ?_); refine goesL_ (some 18) rfl rfl Tryz.func24 (by kernel_rfl) rfl #[.pointer (some ⟨g709, 0, none⟩), .int .i64 4, .int .i64 4] rfl (by (try simp only [List.map_toArray, List.map_cons, List.map_nil]); first | done | rfl | (simp only [List.length_drop, List.length_take]; rfl)) ?_; (with_reducible refine (wayzgoosekit_NamesOf.calls k g709 t706 t707 t708 4 4 t710 t713 t714 w _ ?side1 ?side2 A3.out).mono ?_); (case side1 => repeat (first | (with_reducible first | exact HI709.out | apply IsS86.alloc | apply IsS86.drewN | apply IsS86.drew | apply IsS86.set_1 | apply IsS86.set_2) | exact HI709.out)); (case side2 => repeat (first | (with_reducible first | exact HB.out | apply below_alloc | apply pw_below_drewN | apply below_drew1 | refine below_set ?_ (IsS86.ge HI709.out)) | exact HB.out)); rintro e w12 ⟨v711, rfl, ho0, hi, hb, hk⟩; refine ⟨_, rfl, ?_⟩; have n0_ := Aside0.mk (Kd.R_lower ho0 (below_size (by repeat (first | (with_reducible first | exact HB.out | apply below_alloc | apply pw_below_drewN | apply below_drew1 | refine below_set ?_ (IsS86.ge HI709.out)) | exact HB.out)))); have n1_ := Aside0.mk (hb); have n2_ := Aside0.mk (hi); clear HB; clear HI709; have HO712 := n0_; have HB := n1_; have HI709 := n2_; clear n0_ n1_ n2_; (try clear hb); (try clear hb2); (try clear hk); (try clear hi); (try clear ho0)) | ((with_reducible refine gate_callee (f := 25) rfl ?_); refine goesL_ (some 20) rfl rfl Tryz.func25 (by kernel_rfl) rfl #[.pointer (some ⟨g709, 0, none⟩), .int .i64 4] rfl (by (try simp only [List.map_toArray, List.map_cons, List.map_nil]); first | done | rfl | (simp only [List.length_drop, List.length_take]; rfl)) ?_; (with_reducible refine (wayzgoosekit_NameOf.calls k g709 t706 t713 t714 4 t715 t716 t717 w _ ?side1 ?side2 A4.out).mono ?_); (case side1 => repeat (first | (with_reducible first | exact HI709.out | apply IsS86.alloc | apply IsS86.drewN | apply IsS86.drew | apply IsS86.set_1 | apply IsS86.set_2) | exact HI709.out)); (case side2 => repeat (first | (with_reducible first | exact HB.out | apply below_alloc | apply pw_below_drewN | apply below_drew1 | refine below_set ?_ (IsS86.ge HI709.out)) | exact HB.out)); rintro e w13 ⟨rfl, hi, hb, hk⟩; refine ⟨_, rfl, ?_⟩; have n0_ := Aside0.mk (Kd.R_mono (Kd.R_keep (IsS86.apart (show IsS86 w _ g709 t706 t713 t714 from by repeat (first | (with_reducible first | exact HI709.out | apply IsS86.alloc | apply IsS86.drewN | apply IsS86.drew | apply IsS86.set_1 | apply IsS86.set_2) | exact HI709.out)) (by (with_reducible repeat (first | apply Kd.R_alloc | apply Kd.R_drewN | apply Kd.R_drew)); exact HO712.out) (by decide)) hk (fun _ h => h.2)) (fun _ h => h.1)); have n1_ := Aside0.mk (hb); have n2_ := Aside0.mk (hi); clear HO712; clear HB; clear HI709; have HO712 := n0_; have HB := n1_; have HI709 := n2_; clear n0_ n1_ n2_; (try clear hb); (try clear hb2); (try clear hk); (try clear hi)) | ((with_reducible refine gate_builtin (b := .append) (xs := #[.tmp 18, .tmp 21]) rfl ?_); at_builtin; refine Kd.R_append Kd.string (w0 := w) w.heap.size rfl (.tmp 18) (.tmp 21) 22 9 (.string ⟨#[]⟩) 16 rfl Tryz.underlying22 info9 rfl (by decide) (by omega) v711 t710 t715 [.string t715] (fun _ => True) (fun _ => False) rfl rfl ?aP (fun _ hk => hk.elim) ?aF ?aO ?aB ?aS ?aL ?_; (case aP => exact rfl); (case aB => exact (by repeat (first | (with_reducible first | exact HB.out | apply below_alloc | apply pw_below_drewN | apply below_drew1 | refine below_set ?_ (IsS86.ge HI709.out)) | exact HB.out))); (case aF => exact (fun _ _ => trivial)); (case aO => exact (by (with_reducible repeat (first | apply Kd.R_alloc | apply Kd.R_drewN | apply Kd.R_drew)); exact HO712.out)); (case aS => exact (below_size (by repeat (first | (with_reducible first | exact HB.out | apply below_alloc | apply pw_below_drewN | apply below_drew1 | refine below_set ?_ (IsS86.ge HI709.out)) | exact HB.out)))); (case aL => have := LMc5.out; omega); intro v719 w14 ho hb hg hat; rw [← Ny718.out] at ho; have n0_ := Aside0.mk (IsS86.grown (by repeat (first | (with_reducible first | exact HI709.out | apply IsS86.alloc | apply IsS86.drewN | apply IsS86.drew | apply IsS86.set_1 | apply IsS86.set_2) | exact HI709.out)) hg (IsS86.own_ne HI709.out HO712.out (by decide))); have n1_ := Aside0.mk (hb); have n2_ := Aside0.mk (ho); clear HI709; clear HB; clear HO712; have HI709 := n0_; have HB := n1_; have HO720 := n2_; clear n0_ n1_ n2_; clear ho hb hg hat; obtain ⟨Ao15, co15, eo15⟩ := Kd.R_slice HO720.out; subst eo15) | ((with_reducible refine gate_callee (f := 26) rfl ?_); refine goesL_ (some 27) rfl rfl Tryz.func26 (by kernel_rfl) rfl #[.pointer (some ⟨g709, 0, none⟩), .int .i64 (wrap64 ((y718.length : Int) - 1))] rfl (by (try simp only [List.map_toArray, List.map_cons, List.map_nil]); first | done | rfl | (simp only [List.length_drop, List.length_take]; rfl)) ?_; (with_reducible refine (wayzgoosekit_Dice_To.calls g709 t706 t716 t717 (wrap64 ((y718.length : Int) - 1)) t721 t722 t723 w _ ?side1 ?side2 A6.out).mono ?_); (case side1 => repeat (first | (with_reducible first | exact HI709.out | apply IsS86.alloc | apply IsS86.drewN | apply IsS86.drew | apply IsS86.set_1 | apply IsS86.set_2) | exact HI709.out)); (case side2 => repeat (first | (with_reducible first | exact HB.out | apply below_alloc | apply pw_below_drewN | apply below_drew1 | refine below_set ?_ (IsS86.ge HI709.out)) | exact HB.out)); rintro e w16 ⟨rfl, hi, hb, hk⟩; refine ⟨_, rfl, ?_⟩; have n0_ := Aside0.mk (Kd.R_mono (Kd.R_keep (IsS86.apart (show IsS86 w _ g709 t706 t716 t717 from by repeat (first | (with_reducible first | exact HI709.out | apply IsS86.alloc | apply IsS86.drewN | apply IsS86.drew | apply IsS86.set_1 | apply IsS86.set_2) | exact HI709.out)) (by (with_reducible repeat (first | apply Kd.R_alloc | apply Kd.R_drewN | apply Kd.R_drew)); exact HO720.out) (by decide)) hk (fun _ h => h.2)) (fun _ h => h.1)); have n1_ := Aside0.mk (hb); have n2_ := Aside0.mk (hi); clear HO720; clear HB; clear HI709; have HO720 := n0_; have HB := n1_; have HI709 := n2_; clear n0_ n1_ n2_; (try clear hb); (try clear hb2); (try clear hk); (try clear hi)) | ((with_reducible refine gate_callee (f := 29) rfl ?_); refine goesL_ (some 31) rfl rfl Tryz.func29 (by kernel_rfl) rfl #[.slice Ao15 y718.length co15, .int .i64 t721] rfl (by (try simp only [List.map_toArray, List.map_cons, List.map_nil]); first | done | rfl | (simp only [List.length_drop, List.length_take]; rfl)) ?_; (with_reducible refine (name_Shortest.calls _ _ y718 t721 t724 t725 _ ?side1 ?side2 A7.out).mono ?_); (case side1 => repeat (first | exact (Kd.R_reads' HO720.out).2.2 | (with_reducible refine Kd.C_alloc ?_ _) | (with_reducible refine Kd.C_drewN ?_ _) | (with_reducible refine Kd.C_drew ?_))); (case side2 => exact (Kd.R_reads' HO720.out).2.1); rintro e w17 ⟨rfl, hb⟩; refine ⟨_, rfl, ?_⟩; have n0_ := Aside0.mk (Kd.R_below (by (with_reducible repeat (first | apply Kd.R_alloc | apply Kd.R_drewN | apply Kd.R_drew)); exact HO720.out) hb); have n1_ := Aside0.mk (IsS86.below (by repeat (first | (with_reducible first | exact HI709.out | apply IsS86.alloc | apply IsS86.drewN | apply IsS86.drew | apply IsS86.set_1 | apply IsS86.set_2) | exact HI709.out)) hb); have n2_ := Aside0.mk (below_step (by repeat (first | (with_reducible first | exact HB.out | apply below_alloc | apply pw_below_drewN | apply below_drew1 | refine below_set ?_ (IsS86.ge HI709.out)) | exact HB.out)) hb); clear HO720; clear HI709; clear HB; have HO720 := n0_; have HI709 := n1_; have HB := n2_; clear n0_ n1_ n2_; (try clear hb); (try clear hb2); (try clear hk); (try clear hi); have p726 : 0 ≤ (t721 : Int) := of_decide_eq_true (by first | (with_reducible assumption) | assumption); have q726 : t721 < (y718.length : Int) := of_decide_eq_true (by first | (with_reducible assumption) | assumption); obtain ⟨ad726, e726, hx726_0⟩ := Kd.at_string (Kd.R_reads' HO720.out).2.2 t721 p726 q726; cases e726; replace p726 := eq_true p726; replace q726 := eq_true q726) | ((with_reducible refine gate_callee (f := 41) rfl ?_); refine goesL_ (some 39) rfl rfl Tryz.func41 (by kernel_rfl) rfl #[.string (rdOf ByteArray.empty y718 t721)] rfl (by (try simp only [List.map_toArray, List.map_cons, List.map_nil]); first | done | rfl | (simp only [List.length_drop, List.length_take]; rfl)) ?_; (with_reducible refine (wayzgooseref03_Key.calls k (rdOf ByteArray.empty y718 t721) t727 t728 _ A10.out).mono ?_); rintro e w18 ⟨rfl, hb⟩; refine ⟨_, rfl, ?_⟩; have n0_ := Aside0.mk (Kd.R_below (by (with_reducible repeat (first | apply Kd.R_alloc | apply Kd.R_drewN | apply Kd.R_drew)); exact HO720.out) hb); have n1_ := Aside0.mk (IsS86.below (by repeat (first | (with_reducible first | exact HI709.out | apply IsS86.alloc | apply IsS86.drewN | apply IsS86.drew | apply IsS86.set_1 | apply IsS86.set_2) | exact HI709.out)) hb); have n2_ := Aside0.mk (below_step (by repeat (first | (with_reducible first | exact HB.out | apply below_alloc | apply pw_below_drewN | apply below_drew1 | refine below_set ?_ (IsS86.ge HI709.out)) | exact HB.out)) hb); clear HO720; clear HI709; clear HB; have HO720 := n0_; have HI709 := n1_; have HB := n2_; clear n0_ n1_ n2_; (try clear hb); (try clear hb2); (try clear hk); (try clear hi)))
    go_loopg [10] k (fun kq v10 w' => ∃ (x10_1 : Int), v10 = .int .i64 x10_1 ∧ Aside0 (wayzgooselaw03_NameLeast.l0 kq y718 t721 t724 t725 t727 x10_1 = some r) ∧ Aside0 (kq ≤ k) ∧ Aside0 (Kd.R Kd.string 9 w' w.heap.size (fun _ => True) (.slice (some ad726) y718.length co15) y718) ∧ Aside0 (Below w.heap.size w w'))
    case atStart => exact ⟨(1), (by first | rfl | (simp; done) | (simp [*]; done)), H', ⟨Nat.le_refl _⟩, ⟨by (with_reducible repeat (first | apply Kd.R_alloc | apply Kd.R_drewN | apply Kd.R_drew)); exact HO720.out⟩, ⟨by repeat (first | (with_reducible first | exact HB.out | apply below_alloc | apply pw_below_drewN | apply below_drew1 | refine below_set ?_ (IsS86.ge HI709.out)) | exact HB.out)⟩⟩
    case round => as_aux_lemma =>
     clear H'
     try clear c1
     try clear c2
     try clear p2
     try clear c4
     try clear c5
     try clear p6
     try clear p7
     try clear q7
     try clear hx7
     try clear c8
     try clear c8b0
     try clear c9
     try clear c9b0
     try clear c16
     try clear hx726_0
     try clear p726
     try clear q726
     obtain ⟨x10_1, rfl, HA, HK1, HO_4, HB⟩ := hrel
     cases gk with
     | zero => exact absurd HA.out (by simp [wayzgooselaw03_NameLeast.l0])
     | succ k1 =>
      have H := HA.out
      clear HA
      simp only [wayzgooselaw03_NameLeast.l0] at H
      by_cases c19 : x10_1 < (t727.size : Int)
      ·rw [if_pos c19] at H
       have c19b0 : decide (x10_1 < (t727.size : Int)) = true := decide_eq_true c19
       clear c19
       replace H := Option.bind_eq_some_iff.mp H
       obtain ⟨t730, A200, H⟩ := H
       replace H : (wayzgooselaw03_NameLeast.l1 k1 y718 t721 t724 t725 t727 x10_1 t730 0) = some r := H
       have A20 := Aside0.mk A200
       clear A200
       have H' := Aside0.mk H
       clear H
       go_wp2_with (first | ((with_reducible refine gate_callee (f := 67) rfl ?_); refine goesL_ (some 50) rfl rfl Tryz.func67 (by kernel_rfl) rfl #[.string t727, .int .i64 x10_1] rfl (by (try simp only [List.map_toArray, List.map_cons, List.map_nil]); first | done | rfl | (simp only [List.length_drop, List.length_take]; rfl)) ?_; (with_reducible refine (wayzgooselaw03_abbreviations.calls t727 x10_1 t730 _ A20.out).mono ?_); rintro e w21 ⟨v731, rfl, ho0, hb⟩; refine ⟨_, rfl, ?_⟩; have n0_ := Aside0.mk (Kd.R_elder' (by (with_reducible repeat (first | apply Kd.R_alloc | apply Kd.R_drewN | apply Kd.R_drew)); exact HO_4.out) (Kd.R_base ho0) hb); have n1_ := Aside0.mk (Kd.R_lower (Kd.R_new' ho0 (Kd.R_lt (by (with_reducible repeat (first | apply Kd.R_alloc | apply Kd.R_drewN | apply Kd.R_drew)); exact HO_4.out))) (below_size (by repeat (first | (with_reducible first | exact HB.out | apply below_alloc | apply pw_below_drewN | apply below_drew1) | exact HB.out)))); have n2_ := Aside0.mk (below_step (by repeat (first | (with_reducible first | exact HB.out | apply below_alloc | apply pw_below_drewN | apply below_drew1) | exact HB.out)) hb); clear HO_4; clear HB; have HO_4 := n0_; have HO732 := n1_; have HB := n2_; clear n0_ n1_ n2_; (try clear hb); (try clear hb2); (try clear hk); (try clear hi); (try clear ho0)))
       go_loopg [12] k1 (fun kq v12 w' => ∃ (x12_2 : Int), v12 = .int .i64 x12_2 ∧ Aside0 (wayzgooselaw03_NameLeast.l1 kq y718 t721 t724 t725 t727 x10_1 t730 x12_2 = some r) ∧ Aside0 (kq ≤ k1) ∧ Aside0 (Kd.R Kd.string 9 w' w.heap.size (fun k_ => some k_ ≠ (v731 : Value).ownBlock) (.slice (some ad726) y718.length co15) y718) ∧ Aside0 (Kd.R Kd.string 9 w' w.heap.size (fun k_ => some k_ ≠ ((.slice (some ad726) y718.length co15) : Value).ownBlock) v731 t730) ∧ Aside0 (Below w.heap.size w w'))
       case atStart => exact ⟨(0), (by first | rfl | (simp; done) | (simp [*]; done)), H', ⟨Nat.le_refl _⟩, ⟨by (with_reducible repeat (first | apply Kd.R_alloc | apply Kd.R_drewN | apply Kd.R_drew)); exact Kd.R_mono HO_4.out (fun _ hk => hk.2)⟩, ⟨by (with_reducible repeat (first | apply Kd.R_alloc | apply Kd.R_drewN | apply Kd.R_drew)); exact Kd.R_mono HO732.out (fun _ hk => hk.2)⟩, ⟨by repeat (first | (with_reducible first | exact HB.out | apply below_alloc | apply pw_below_drewN | apply below_drew1) | exact HB.out)⟩⟩
       case round => as_aux_lemma =>
        clear H'
        try clear c1
        try clear c2
        try clear p2
        try clear c4
        try clear c5
        try clear c6
        try clear p6
        try clear p7
        try clear q7
        try clear hx7
        try clear c8
        try clear c8b0
        try clear c9
        try clear c9b0
        try clear c16
        try clear c19
        try clear c19b0
        try clear hx726_0
        try clear p2
        try clear p6
        try clear p7
        try clear p726
        try clear q7
        try clear q726
        obtain ⟨x12_2, rfl, HA, HK2, HO_4, HO_11, HB⟩ := hrel
        cases gk with
        | zero => exact absurd HA.out (by simp [wayzgooselaw03_NameLeast.l1])
        | succ k2 =>
         have H := HA.out
         clear HA
         simp only [wayzgooselaw03_NameLeast.l1] at H
         by_cases c22 : x12_2 < (t730.length : Int)
         ·rw [if_pos c22] at H
          have c22b0 : decide (x12_2 < (t730.length : Int)) = true := decide_eq_true c22
          clear c22
          by_cases c23 : 0 ≤ x12_2
          ·rw [if_pos c23] at H
           have c23b0 : decide (0 ≤ x12_2) = true := decide_eq_true c23
           clear c23
           by_cases c24 : (rdOf ByteArray.empty t730 x12_2).size + 1 ≤ 9223372036854775807
           ·rw [if_pos c24] at H
            have c24b0 := eq_true c24
            have c24b1 : decide ((rdOf ByteArray.empty t730 x12_2).size + 1 ≤ 9223372036854775807) = true := decide_eq_true c24
            try have c24b2 : (9223372036854775807 < (rdOf ByteArray.empty t730 x12_2).size + 1) = False := eq_false (Nat.not_lt.2 c24)
            replace H := Option.bind_eq_some_iff.mp H
            obtain ⟨⟨t734, t735⟩, A250, H⟩ := H
            replace H : (if t735 = true then (if t734 = true then (wayzgooselaw03_NameLeast.l1 k2 y718 t721 t724 t725 t727 x10_1 t730 (wrap64 (x12_2 + 1))) else (if t725 = 0 then (if t724.toList = ((rdOf ByteArray.empty t730 x12_2) ++ (⟨#[46]⟩ : ByteArray)).toList then ((wayzgooselaw03_spelling.f).bind fun t737 => (some t737)) else (some false)) else (some false))) else (some false)) = some r := H
            have A25 := Aside0.mk A250
            clear A250
            by_cases c26 : t735 = true
            ·subst c26
             have H1 : (if t734 = true then (wayzgooselaw03_NameLeast.l1 k2 y718 t721 t724 t725 t727 x10_1 t730 (wrap64 (x12_2 + 1))) else (if t725 = 0 then (if t724.toList = ((rdOf ByteArray.empty t730 x12_2) ++ (⟨#[46]⟩ : ByteArray)).toList then ((wayzgooselaw03_spelling.f).bind fun t737 => (some t737)) else (some false)) else (some false))) = some r := by rw [if_pos rfl] at H; exact H
             clear H
             have H := H1
             clear H1
             by_cases c27 : t734 = true
             ·subst c27
              have H1 : (wayzgooselaw03_NameLeast.l1 k2 y718 t721 t724 t725 t727 x10_1 t730 (wrap64 (x12_2 + 1))) = some r := by rw [if_pos rfl] at H; exact H
              clear H
              have H := H1
              clear H1
              have H' := Aside0.mk H
              clear H
              obtain ⟨Ao28, co28, eo28⟩ := Kd.R_slice HO_11.out
              subst eo28
              have p733 : 0 ≤ (x12_2 : Int) := of_decide_eq_true (by first | (with_reducible assumption) | assumption)
              have q733 : x12_2 < (t730.length : Int) := of_decide_eq_true (by first | (with_reducible assumption) | assumption)
              obtain ⟨ad733, e733, hx733_0⟩ := Kd.at_string (Kd.R_reads' HO_11.out).2.2 x12_2 p733 q733
              cases e733
              replace p733 := eq_true p733
              replace q733 := eq_true q733
              go_wp2_with (first | ((with_reducible refine gate_callee (f := 68) rfl ?_); refine goesL_ (some 65) rfl rfl Tryz.func68 (by kernel_rfl) rfl #[.string ((rdOf ByteArray.empty t730 x12_2) ++ (⟨#[46]⟩ : ByteArray)), .slice (some ad726) y718.length co15, .int .i64 t721] rfl (by (try simp only [List.map_toArray, List.map_cons, List.map_nil]); first | done | rfl | (simp only [List.length_drop, List.length_take]; rfl)) ?_; (with_reducible refine (wayzgooselaw03_mistaken.calls k2 ((rdOf ByteArray.empty t730 x12_2) ++ (⟨#[46]⟩ : ByteArray)) _ _ y718 t721 true true _ ?side1 ?side2 A25.out).mono ?_); (case side1 => repeat (first | exact (Kd.R_reads' HO_4.out).2.2 | (with_reducible refine Kd.C_alloc ?_ _) | (with_reducible refine Kd.C_drewN ?_ _) | (with_reducible refine Kd.C_drew ?_))); (case side2 => exact (Kd.R_reads' HO_4.out).2.1); rintro e w29 ⟨rfl, hb⟩; refine ⟨_, rfl, ?_⟩; have n0_ := Aside0.mk (Kd.R_below (by (with_reducible repeat (first | apply Kd.R_alloc | apply Kd.R_drewN | apply Kd.R_drew)); exact HO_4.out) hb); have n1_ := Aside0.mk (Kd.R_below (by (with_reducible repeat (first | apply Kd.R_alloc | apply Kd.R_drewN | apply Kd.R_drew)); exact HO_11.out) hb); have n2_ := Aside0.mk (below_step (by repeat (first | (with_reducible first | exact HB.out | apply below_alloc | apply pw_below_drewN | apply below_drew1) | exact HB.out)) hb); clear HO_4; clear HO_11; clear HB; have HO_4 := n0_; have HO_11 := n1_; have HB := n2_; clear n0_ n1_ n2_; (try clear hb); (try clear hb2); (try clear hk); (try clear hi)))
              go_roundg k2
              case measure => have := HK1.out; have := HK2.out; omega
              case rel => exact ⟨(wrap64 (x12_2 + 1)), (by first | rfl | (simp; done) | (simp [*]; done)), H', ⟨by have := HK1.out; have := HK2.out; omega⟩, ⟨by (with_reducible repeat (first | apply Kd.R_alloc | apply Kd.R_drewN | apply Kd.R_drew)); exact HO_4.out⟩, ⟨by (with_reducible repeat (first | apply Kd.R_alloc | apply Kd.R_drewN | apply Kd.R_drew)); exact HO_11.out⟩, ⟨by repeat (first | (with_reducible first | exact HB.out | apply below_alloc | apply pw_below_drewN | apply below_drew1) | exact HB.out)⟩⟩
             ·replace c27 := Bool.eq_false_iff.mpr c27
              subst c27
              have H1 : (if t725 = 0 then (if t724.toList = ((rdOf ByteArray.empty t730 x12_2) ++ (⟨#[46]⟩ : ByteArray)).toList then ((wayzgooselaw03_spelling.f).bind fun t737 => (some t737)) else (some false)) else (some false)) = some r := by rw [if_neg (show ¬ (false = true) by decide)] at H; exact H
              clear H
              have H := H1
              clear H1
              by_cases c30 : t725 = 0
              ·rw [if_pos c30] at H
               have c30b0 : (t725 == 0) = true := beq_iff_eq.mpr c30
               have c30b1 : (t725 != 0) = false := bne_eq_false_iff_eq.mpr c30
               clear c30
               by_cases c31 : t724.toList = ((rdOf ByteArray.empty t730 x12_2) ++ (⟨#[46]⟩ : ByteArray)).toList
               ·rw [if_pos c31] at H
                have c31b0 : (t724.toList == ((rdOf ByteArray.empty t730 x12_2) ++ (⟨#[46]⟩ : ByteArray)).toList) = true := beq_iff_eq.mpr c31
                have c31b1 : (t724.toList != ((rdOf ByteArray.empty t730 x12_2) ++ (⟨#[46]⟩ : ByteArray)).toList) = false := bne_eq_false_iff_eq.mpr c31
                clear c31
                replace H := Option.bind_eq_some_iff.mp H
                obtain ⟨t737, A320, H⟩ := H
                replace H : (some t737) = some r := H
                have A32 := Aside0.mk A320
                clear A320
                obtain rfl := Option.some.inj H
                obtain ⟨Ao33, co33, eo33⟩ := Kd.R_slice HO_11.out
                subst eo33
                have p733 : 0 ≤ (x12_2 : Int) := of_decide_eq_true (by first | (with_reducible assumption) | assumption)
                have q733 : x12_2 < (t730.length : Int) := of_decide_eq_true (by first | (with_reducible assumption) | assumption)
                obtain ⟨ad733, e733, hx733_0⟩ := Kd.at_string (Kd.R_reads' HO_11.out).2.2 x12_2 p733 q733
                cases e733
                replace p733 := eq_true p733
                replace q733 := eq_true q733
                go_wp2_with (first | ((with_reducible refine gate_callee (f := 68) rfl ?_); refine goesL_ (some 65) rfl rfl Tryz.func68 (by kernel_rfl) rfl #[.string ((rdOf ByteArray.empty t730 x12_2) ++ (⟨#[46]⟩ : ByteArray)), .slice (some ad726) y718.length co15, .int .i64 t721] rfl (by (try simp only [List.map_toArray, List.map_cons, List.map_nil]); first | done | rfl | (simp only [List.length_drop, List.length_take]; rfl)) ?_; (with_reducible refine (wayzgooselaw03_mistaken.calls k2 ((rdOf ByteArray.empty t730 x12_2) ++ (⟨#[46]⟩ : ByteArray)) _ _ y718 t721 false true _ ?side1 ?side2 A25.out).mono ?_); (case side1 => repeat (first | exact (Kd.R_reads' HO_4.out).2.2 | (with_reducible refine Kd.C_alloc ?_ _) | (with_reducible refine Kd.C_drewN ?_ _) | (with_reducible refine Kd.C_drew ?_))); (case side2 => exact (Kd.R_reads' HO_4.out).2.1); rintro e w34 ⟨rfl, hb⟩; refine ⟨_, rfl, ?_⟩; have n0_ := Aside0.mk (Kd.R_below (by (with_reducible repeat (first | apply Kd.R_alloc | apply Kd.R_drewN | apply Kd.R_drew)); exact HO_4.out) hb); have n1_ := Aside0.mk (Kd.R_below (by (with_reducible repeat (first | apply Kd.R_alloc | apply Kd.R_drewN | apply Kd.R_drew)); exact HO_11.out) hb); have n2_ := Aside0.mk (below_step (by repeat (first | (with_reducible first | exact HB.out | apply below_alloc | apply pw_below_drewN | apply below_drew1) | exact HB.out)) hb); clear HO_4; clear HO_11; clear HB; have HO_4 := n0_; have HO_11 := n1_; have HB := n2_; clear n0_ n1_ n2_; (try clear hb); (try clear hb2); (try clear hk); (try clear hi); have p736 : 0 ≤ (x12_2 : Int) := of_decide_eq_true (by first | (with_reducible assumption) | assumption); have q736 : x12_2 < (t730.length : Int) := of_decide_eq_true (by first | (with_reducible assumption) | assumption); obtain ⟨ad736, e736, hx736_0⟩ := Kd.at_string (Kd.R_reads' HO_11.out).2.2 x12_2 p736 q736; obtain rfl : ad733 = ad736 := (by injection e736); replace p736 := eq_true p736; replace q736 := eq_true q736) | (go_at_call 22; (with_reducible refine (wayzgooselaw03_spelling.calls  t737 _ A32.out).mono ?_); rintro e w35 ⟨rfl, hb⟩; have n0_ := Aside0.mk (Kd.R_below (by (with_reducible repeat (first | apply Kd.R_alloc | apply Kd.R_drewN | apply Kd.R_drew)); exact HO_4.out) hb); have n1_ := Aside0.mk (Kd.R_below (by (with_reducible repeat (first | apply Kd.R_alloc | apply Kd.R_drewN | apply Kd.R_drew)); exact HO_11.out) hb); have n2_ := Aside0.mk (below_step (by repeat (first | (with_reducible first | exact HB.out | apply below_alloc | apply pw_below_drewN | apply below_drew1) | exact HB.out)) hb); clear HO_4; clear HO_11; clear HB; have HO_4 := n0_; have HO_11 := n1_; have HB := n2_; clear n0_ n1_ n2_; (try clear hb); (try clear hb2); (try clear hk); (try clear hi)))
                go_ret
                exact ⟨by first | rfl | (simp [errW_none, errW_some] <;> rfl) | (simp [*, errW_none, errW_some] <;> rfl), by repeat (first | (with_reducible first | exact HB.out | apply below_alloc | apply pw_below_drewN | apply below_drew1) | exact HB.out)⟩
               ·rw [if_neg c31] at H
                have c31b0 : (t724.toList == ((rdOf ByteArray.empty t730 x12_2) ++ (⟨#[46]⟩ : ByteArray)).toList) = false := beq_eq_false_iff_ne.mpr c31
                have c31b1 : (t724.toList != ((rdOf ByteArray.empty t730 x12_2) ++ (⟨#[46]⟩ : ByteArray)).toList) = true := bne_iff_ne.mpr c31
                obtain rfl := Option.some.inj H
                obtain ⟨Ao36, co36, eo36⟩ := Kd.R_slice HO_11.out
                subst eo36
                have p733 : 0 ≤ (x12_2 : Int) := of_decide_eq_true (by first | (with_reducible assumption) | assumption)
                have q733 : x12_2 < (t730.length : Int) := of_decide_eq_true (by first | (with_reducible assumption) | assumption)
                obtain ⟨ad733, e733, hx733_0⟩ := Kd.at_string (Kd.R_reads' HO_11.out).2.2 x12_2 p733 q733
                cases e733
                replace p733 := eq_true p733
                replace q733 := eq_true q733
                go_wp2_with (first | ((with_reducible refine gate_callee (f := 68) rfl ?_); refine goesL_ (some 65) rfl rfl Tryz.func68 (by kernel_rfl) rfl #[.string ((rdOf ByteArray.empty t730 x12_2) ++ (⟨#[46]⟩ : ByteArray)), .slice (some ad726) y718.length co15, .int .i64 t721] rfl (by (try simp only [List.map_toArray, List.map_cons, List.map_nil]); first | done | rfl | (simp only [List.length_drop, List.length_take]; rfl)) ?_; (with_reducible refine (wayzgooselaw03_mistaken.calls k2 ((rdOf ByteArray.empty t730 x12_2) ++ (⟨#[46]⟩ : ByteArray)) _ _ y718 t721 false true _ ?side1 ?side2 A25.out).mono ?_); (case side1 => repeat (first | exact (Kd.R_reads' HO_4.out).2.2 | (with_reducible refine Kd.C_alloc ?_ _) | (with_reducible refine Kd.C_drewN ?_ _) | (with_reducible refine Kd.C_drew ?_))); (case side2 => exact (Kd.R_reads' HO_4.out).2.1); rintro e w37 ⟨rfl, hb⟩; refine ⟨_, rfl, ?_⟩; have n0_ := Aside0.mk (Kd.R_below (by (with_reducible repeat (first | apply Kd.R_alloc | apply Kd.R_drewN | apply Kd.R_drew)); exact HO_4.out) hb); have n1_ := Aside0.mk (Kd.R_below (by (with_reducible repeat (first | apply Kd.R_alloc | apply Kd.R_drewN | apply Kd.R_drew)); exact HO_11.out) hb); have n2_ := Aside0.mk (below_step (by repeat (first | (with_reducible first | exact HB.out | apply below_alloc | apply pw_below_drewN | apply below_drew1) | exact HB.out)) hb); clear HO_4; clear HO_11; clear HB; have HO_4 := n0_; have HO_11 := n1_; have HB := n2_; clear n0_ n1_ n2_; (try clear hb); (try clear hb2); (try clear hk); (try clear hi); have p736 : 0 ≤ (x12_2 : Int) := of_decide_eq_true (by first | (with_reducible assumption) | assumption); have q736 : x12_2 < (t730.length : Int) := of_decide_eq_true (by first | (with_reducible assumption) | assumption); obtain ⟨ad736, e736, hx736_0⟩ := Kd.at_string (Kd.R_reads' HO_11.out).2.2 x12_2 p736 q736; obtain rfl : ad733 = ad736 := (by injection e736); replace p736 := eq_true p736; replace q736 := eq_true q736))
                go_ret
                exact ⟨by first | rfl | (simp [errW_none, errW_some] <;> rfl) | (simp [*, errW_none, errW_some] <;> rfl), by repeat (first | (with_reducible first | exact HB.out | apply below_alloc | apply pw_below_drewN | apply below_drew1) | exact HB.out)⟩
              ·rw [if_neg c30] at H
               have c30b0 : (t725 == 0) = false := beq_eq_false_iff_ne.mpr c30
               have c30b1 : (t725 != 0) = true := bne_iff_ne.mpr c30
               obtain rfl := Option.some.inj H
               obtain ⟨Ao38, co38, eo38⟩ := Kd.R_slice HO_11.out
               subst eo38
               have p733 : 0 ≤ (x12_2 : Int) := of_decide_eq_true (by first | (with_reducible assumption) | assumption)
               have q733 : x12_2 < (t730.length : Int) := of_decide_eq_true (by first | (with_reducible assumption) | assumption)
               obtain ⟨ad733, e733, hx733_0⟩ := Kd.at_string (Kd.R_reads' HO_11.out).2.2 x12_2 p733 q733
               cases e733
               replace p733 := eq_true p733
               replace q733 := eq_true q733
               go_wp2_with (first | ((with_reducible refine gate_callee (f := 68) rfl ?_); refine goesL_ (some 65) rfl rfl Tryz.func68 (by kernel_rfl) rfl #[.string ((rdOf ByteArray.empty t730 x12_2) ++ (⟨#[46]⟩ : ByteArray)), .slice (some ad726) y718.length co15, .int .i64 t721] rfl (by (try simp only [List.map_toArray, List.map_cons, List.map_nil]); first | done | rfl | (simp only [List.length_drop, List.length_take]; rfl)) ?_; (with_reducible refine (wayzgooselaw03_mistaken.calls k2 ((rdOf ByteArray.empty t730 x12_2) ++ (⟨#[46]⟩ : ByteArray)) _ _ y718 t721 false true _ ?side1 ?side2 A25.out).mono ?_); (case side1 => repeat (first | exact (Kd.R_reads' HO_4.out).2.2 | (with_reducible refine Kd.C_alloc ?_ _) | (with_reducible refine Kd.C_drewN ?_ _) | (with_reducible refine Kd.C_drew ?_))); (case side2 => exact (Kd.R_reads' HO_4.out).2.1); rintro e w39 ⟨rfl, hb⟩; refine ⟨_, rfl, ?_⟩; have n0_ := Aside0.mk (Kd.R_below (by (with_reducible repeat (first | apply Kd.R_alloc | apply Kd.R_drewN | apply Kd.R_drew)); exact HO_4.out) hb); have n1_ := Aside0.mk (Kd.R_below (by (with_reducible repeat (first | apply Kd.R_alloc | apply Kd.R_drewN | apply Kd.R_drew)); exact HO_11.out) hb); have n2_ := Aside0.mk (below_step (by repeat (first | (with_reducible first | exact HB.out | apply below_alloc | apply pw_below_drewN | apply below_drew1) | exact HB.out)) hb); clear HO_4; clear HO_11; clear HB; have HO_4 := n0_; have HO_11 := n1_; have HB := n2_; clear n0_ n1_ n2_; (try clear hb); (try clear hb2); (try clear hk); (try clear hi)))
               go_ret
               exact ⟨by first | rfl | (simp [errW_none, errW_some] <;> rfl) | (simp [*, errW_none, errW_some] <;> rfl), by repeat (first | (with_reducible first | exact HB.out | apply below_alloc | apply pw_below_drewN | apply below_drew1) | exact HB.out)⟩
            ·replace c26 := Bool.eq_false_iff.mpr c26
             subst c26
             have H1 : (some false) = some r := by rw [if_neg (show ¬ (false = true) by decide)] at H; exact H
             clear H
             have H := H1
             clear H1
             obtain rfl := Option.some.inj H
             obtain ⟨Ao40, co40, eo40⟩ := Kd.R_slice HO_11.out
             subst eo40
             have p733 : 0 ≤ (x12_2 : Int) := of_decide_eq_true (by first | (with_reducible assumption) | assumption)
             have q733 : x12_2 < (t730.length : Int) := of_decide_eq_true (by first | (with_reducible assumption) | assumption)
             obtain ⟨ad733, e733, hx733_0⟩ := Kd.at_string (Kd.R_reads' HO_11.out).2.2 x12_2 p733 q733
             cases e733
             replace p733 := eq_true p733
             replace q733 := eq_true q733
             go_wp2_with (first | ((with_reducible refine gate_callee (f := 68) rfl ?_); refine goesL_ (some 65) rfl rfl Tryz.func68 (by kernel_rfl) rfl #[.string ((rdOf ByteArray.empty t730 x12_2) ++ (⟨#[46]⟩ : ByteArray)), .slice (some ad726) y718.length co15, .int .i64 t721] rfl (by (try simp only [List.map_toArray, List.map_cons, List.map_nil]); first | done | rfl | (simp only [List.length_drop, List.length_take]; rfl)) ?_; (with_reducible refine (wayzgooselaw03_mistaken.calls k2 ((rdOf ByteArray.empty t730 x12_2) ++ (⟨#[46]⟩ : ByteArray)) _ _ y718 t721 t734 false _ ?side1 ?side2 A25.out).mono ?_); (case side1 => repeat (first | exact (Kd.R_reads' HO_4.out).2.2 | (with_reducible refine Kd.C_alloc ?_ _) | (with_reducible refine Kd.C_drewN ?_ _) | (with_reducible refine Kd.C_drew ?_))); (case side2 => exact (Kd.R_reads' HO_4.out).2.1); rintro e w41 ⟨rfl, hb⟩; refine ⟨_, rfl, ?_⟩; have n0_ := Aside0.mk (Kd.R_below (by (with_reducible repeat (first | apply Kd.R_alloc | apply Kd.R_drewN | apply Kd.R_drew)); exact HO_4.out) hb); have n1_ := Aside0.mk (Kd.R_below (by (with_reducible repeat (first | apply Kd.R_alloc | apply Kd.R_drewN | apply Kd.R_drew)); exact HO_11.out) hb); have n2_ := Aside0.mk (below_step (by repeat (first | (with_reducible first | exact HB.out | apply below_alloc | apply pw_below_drewN | apply below_drew1) | exact HB.out)) hb); clear HO_4; clear HO_11; clear HB; have HO_4 := n0_; have HO_11 := n1_; have HB := n2_; clear n0_ n1_ n2_; (try clear hb); (try clear hb2); (try clear hk); (try clear hi)))
             go_ret
             exact ⟨by first | rfl | (simp [errW_none, errW_some] <;> rfl) | (simp [*, errW_none, errW_some] <;> rfl), by repeat (first | (with_reducible first | exact HB.out | apply below_alloc | apply pw_below_drewN | apply below_drew1) | exact HB.out)⟩
           ·rw [if_neg c24] at H
            exact absurd H (by simp)
          ·rw [if_neg c23] at H
           exact absurd H (by simp)
         ·rw [if_neg c22] at H
          have c22b0 : decide (x12_2 < (t730.length : Int)) = false := decide_eq_false c22
          clear c22
          have H' := Aside0.mk H
          clear H
          obtain ⟨Ao42, co42, eo42⟩ := Kd.R_slice HO_11.out
          subst eo42
          go_wp2
          go_roundg k2
          case measure => have := HK1.out; have := HK2.out; omega
          case rel => exact ⟨(wrap64 (x10_1 + 1)), (by first | rfl | (simp; done) | (simp [*]; done)), H', ⟨by have := HK1.out; have := HK2.out; omega⟩, ⟨by (with_reducible repeat (first | apply Kd.R_alloc | apply Kd.R_drewN | apply Kd.R_drew)); exact Kd.R_mono HO_4.out (fun _ hk => trivial)⟩, ⟨by repeat (first | (with_reducible first | exact HB.out | apply below_alloc | apply pw_below_drewN | apply below_drew1) | exact HB.out)⟩⟩
      ·rw [if_neg c19] at H
       have c19b0 : decide (x10_1 < (t727.size : Int)) = false := decide_eq_false c19
       clear c19
       by_cases c43 : t725 = 11
       ·rw [if_pos c43] at H
        have c43b0 : (t725 == 11) = true := beq_iff_eq.mpr c43
        have c43b1 : (t725 != 11) = false := bne_eq_false_iff_eq.mpr c43
        clear c43
        by_cases c44 : t724.toList = ([] : List UInt8)
        ·rw [if_pos c44] at H
         have c44b0 : (t724.toList == ([] : List UInt8)) = true := beq_iff_eq.mpr c44
         have c44b1 : (t724.toList != ([] : List UInt8)) = false := bne_eq_false_iff_eq.mpr c44
         clear c44
         replace H := Option.bind_eq_some_iff.mp H
         obtain ⟨t729, A450, H⟩ := H
         replace H : (some t729) = some r := H
         have A45 := Aside0.mk A450
         clear A450
         obtain rfl := Option.some.inj H
         go_wp2_with (first | (go_at_call 22; (with_reducible refine (wayzgooselaw03_spelling.calls  t729 _ A45.out).mono ?_); rintro e w46 ⟨rfl, hb⟩; have n0_ := Aside0.mk (Kd.R_below (by (with_reducible repeat (first | apply Kd.R_alloc | apply Kd.R_drewN | apply Kd.R_drew)); exact HO_4.out) hb); have n1_ := Aside0.mk (below_step (by repeat (first | (with_reducible first | exact HB.out | apply below_alloc | apply pw_below_drewN | apply below_drew1) | exact HB.out)) hb); clear HO_4; clear HB; have HO_4 := n0_; have HB := n1_; clear n0_ n1_; (try clear hb); (try clear hb2); (try clear hk); (try clear hi)))
         go_ret
         exact ⟨by first | rfl | (simp [errW_none, errW_some] <;> rfl) | (simp [*, errW_none, errW_some] <;> rfl), by repeat (first | (with_reducible first | exact HB.out | apply below_alloc | apply pw_below_drewN | apply below_drew1) | exact HB.out)⟩
        ·rw [if_neg c44] at H
         have c44b0 : (t724.toList == ([] : List UInt8)) = false := beq_eq_false_iff_ne.mpr c44
         have c44b1 : (t724.toList != ([] : List UInt8)) = true := bne_iff_ne.mpr c44
         obtain rfl := Option.some.inj H
         go_wp2
         go_ret
         exact ⟨by first | rfl | (simp [errW_none, errW_some] <;> rfl) | (simp [*, errW_none, errW_some] <;> rfl), by repeat (first | (with_reducible first | exact HB.out | apply below_alloc | apply pw_below_drewN | apply below_drew1) | exact HB.out)⟩
       ·rw [if_neg c43] at H
        have c43b0 : (t725 == 11) = false := beq_eq_false_iff_ne.mpr c43
        have c43b1 : (t725 != 11) = true := bne_iff_ne.mpr c43
        obtain rfl := Option.some.inj H
        go_wp2
        go_ret
        exact ⟨by first | rfl | (simp [errW_none, errW_some] <;> rfl) | (simp [*, errW_none, errW_some] <;> rfl), by repeat (first | (with_reducible first | exact HB.out | apply below_alloc | apply pw_below_drewN | apply below_drew1) | exact HB.out)⟩
   ·rw [if_neg c9] at H
    exact absurd H (by simp)
  ·rw [if_neg c8] at H
   exact absurd H (by simp)
 ·rw [if_neg c5] at H
  exact absurd H (by simp)

/-- THE ONE PURE STATEMENT of wayzgooselaw03_NameLeast: yours. -/
def wayzgooselaw03_NameLeast.Pure : Prop := ∀ (l0 : List Int), l0.length ≤ maxLen → l0.length * 8 ≤ 140737488351232 → (∀ x ∈ l0, (Lit.int .i64 x).wf = true) → ∃ k, wayzgooselaw03_NameLeast.f k l0 = some true
theorem wayzgooselaw03_NameLeast.walk (P : wayzgooselaw03_NameLeast.Pure) (a0 : Option Addr) (len0 cap0 : Nat) (z0 : List Int) (w : World) (w0 : (a0 = none ∧ len0 = 0 ∧ cap0 = 0 ∧ z0 = []) ∨ ∃ x, a0 = some x ∧ len0 ≤ cap0 ∧ cap0 ≤ maxLen ∧ z0.length = cap0 ∧ (∀ i, i < z0.length → w.cell? (x.add i) = some (.int .i64 (z0.getD i 0))) ∧ ∀ n ∈ z0, (Lit.int .i64 n).wf = true) (y0 : len0 * 8 ≤ 140737488351232) :
  Calls Tryz.prog 16 #[.slice a0 len0 cap0] w fun e w' => e = .returned (.bool true) ∧ Below w.heap.size w w' := by
 obtain ⟨l0, rfl, hr0, hm0, hw0, hc0⟩ := ReadsInt.ofRowC w0
 obtain ⟨k, h⟩ := P l0 hm0 y0 hw0
 refine (wayzgooselaw03_NameLeast.calls k _ _ l0 true w (Kd.C_of_reads (d := (0 : Int)) (h1 := fun _ => rfl) hr0) hc0 h).mono ?_
 rintro e w' ⟨rfl, hd⟩
 exact ⟨rfl, hd⟩

end Go.Proofs.YtapikimhmjnjeaaGreatDoor.Pr

