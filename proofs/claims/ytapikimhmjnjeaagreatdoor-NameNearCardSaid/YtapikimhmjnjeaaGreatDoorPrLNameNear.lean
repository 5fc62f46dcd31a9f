-- PRINTED by print.py (a twelfth state) out of the translation. Not trusted: Lean checks it.
import Derived.Test.YtapikimhmjnjeaaGreatDoorPr0
import Derived.Test.YtapikimhmjnjeaaGreatDoorPrExtSpell
import Derived.Test.YtapikimhmjnjeaaGreatDoorPr2
import Derived.Test.YtapikimhmjnjeaaGreatDoorPr3
import Derived.Test.YtapikimhmjnjeaaGreatDoorPr4
import Derived.Test.YtapikimhmjnjeaaGreatDoorPr5
namespace Go.Proofs.YtapikimhmjnjeaaGreatDoor.Pr
open Go.RowKit Go.Proofs.YtapikimhmjnjeaaGreatDoorW.PrintWords Go.Proofs.YtapikimhmjnjeaaGreatDoorW.PrintLast Go.Proofs.YtapikimhmjnjeaaGreatDoorW.PrintMore
attribute [local go_sem] max2_int min2_int max_two min_two max_three min_three max_four min_four   -- for this text's walks alone
set_option linter.unusedVariables false
set_option linter.unusedSimpArgs false

/-! ### wayzgooselaw03_NameNear: function 10 -/
mutual
def wayzgooselaw03_NameNear.j0 : Nat → List (S83) → List ByteArray → ByteArray → Bool → Option (Bool)
 | 0, _, _, _, _ => none
 | k + 1, x4, x5, x6, x28 => if x28 = true then (if 0 < (x5.length : Int) then (wayzgooselaw03_NameNear.j1 k x4 x5 (rdOf ByteArray.empty x5 0)) else (none)) else (wayzgooselaw03_NameNear.j1 k x4 x5 x6)
def wayzgooselaw03_NameNear.j1 : Nat → List (S83) → List ByteArray → ByteArray → Option (Bool)
 | 0, _, _, _ => none
 | k + 1, x4, x5, x6 => (name_Near.f k x4 x6 x5).bind fun bt253 => (if bt253.2 = 0 then (wayzgooselaw03_NameNear.j2 k x4 x5 x6 bt253.1 (decide ((bt253.1.length : Int) > (x5.length : Int)))) else (wayzgooselaw03_NameNear.j2 k x4 x5 x6 bt253.1 true))
def wayzgooselaw03_NameNear.j2 : Nat → List (S83) → List ByteArray → ByteArray → List Int → Bool → Option (Bool)
 | 0, _, _, _, _, _ => none
 | k + 1, x4, x5, x6, x7, x47 => if x47 = true then (some false) else (wayzgooselaw03_NameNear.l0 k x4 x5 x6 x7 0 0)
def wayzgooselaw03_NameNear.l0 : Nat → List (S83) → List ByteArray → ByteArray → List Int → Int → Int → Option (Bool)
 | 0, _, _, _, _, _, _ => none
 | k + 1, x4, x5, x6, x7, x9, x10 => if x10 ≤ 2 then (wayzgooselaw03_NameNear.l1 k x4 x5 x6 x7 x9 x10 0) else (if x9 = (x7.length : Int) then ((wayzgooselaw03_spelling.f).bind fun t257 => (some t257)) else (some false))
def wayzgooselaw03_NameNear.l1 : Nat → List (S83) → List ByteArray → ByteArray → List Int → Int → Int → Int → Option (Bool)
 | 0, _, _, _, _, _, _, _ => none
 | k + 1, x4, x5, x6, x7, x9, x10, x11 => if x11 < (x5.length : Int) then (if 0 ≤ x11 then ((wayzgooselaw03_uses.f k x4 x6 (rdOf ByteArray.empty x5 x11)).bind fun bt259 => (if bt259.2 = true then (if bt259.1 = x10 then (if x9 ≥ (x7.length : Int) then (some false) else (if 0 ≤ x9 then (if x9 < (x7.length : Int) then (if (rd x7 x9) = x11 then (wayzgooselaw03_NameNear.l1 k x4 x5 x6 x7 (wrap64 (x9 + 1)) x10 (wrap64 (x11 + 1))) else (some false)) else (none)) else (none))) else (wayzgooselaw03_NameNear.l1 k x4 x5 x6 x7 x9 x10 (wrap64 (x11 + 1)))) else (some false))) else (none)) else (wayzgooselaw03_NameNear.l0 k x4 x5 x6 x7 x9 (wrap64 (x10 + 1)))
end
def wayzgooselaw03_NameNear.f (k : Nat) (l0 : List Int) : Option (Bool) := (wayzgoosekit_NewDice.f l0).bind fun bt232 => ((wayzgoosekit_RulesOf.f k bt232.1 bt232.2.1 bt232.2.2 3).bind fun bt236 => ((wayzgoosekit_NamesOf.f k bt232.1 bt236.2.1 bt236.2.2 5 3).bind fun bt241 => ((wayzgoosekit_NameOf.f k bt232.1 bt241.2.1 bt241.2.2 3).bind fun bt246 => (if (bt241.1.length : Int) > 0 then ((wayzgoosekit_Dice_Once.f bt232.1 bt246.2.1 bt246.2.2 2).bind fun bt249 => (wayzgooselaw03_NameNear.j0 k bt236.1 bt241.1 bt246.1 bt249.1)) else (wayzgooselaw03_NameNear.j0 k bt236.1 bt241.1 bt246.1 false)))))
theorem wayzgooselaw03_NameNear.mono_l : ∀ k, (∀ y0 y1 y2 y3, LeO (wayzgooselaw03_NameNear.j0 k y0 y1 y2 y3) (wayzgooselaw03_NameNear.j0 (k + 1) y0 y1 y2 y3)) ∧ (∀ y0 y1 y2, LeO (wayzgooselaw03_NameNear.j1 k y0 y1 y2) (wayzgooselaw03_NameNear.j1 (k + 1) y0 y1 y2)) ∧ (∀ y0 y1 y2 y3 y4, LeO (wayzgooselaw03_NameNear.j2 k y0 y1 y2 y3 y4) (wayzgooselaw03_NameNear.j2 (k + 1) y0 y1 y2 y3 y4)) ∧ (∀ y0 y1 y2 y3 y4 y5, LeO (wayzgooselaw03_NameNear.l0 k y0 y1 y2 y3 y4 y5) (wayzgooselaw03_NameNear.l0 (k + 1) y0 y1 y2 y3 y4 y5)) ∧ (∀ y0 y1 y2 y3 y4 y5 y6, LeO (wayzgooselaw03_NameNear.l1 k y0 y1 y2 y3 y4 y5 y6) (wayzgooselaw03_NameNear.l1 (k + 1) y0 y1 y2 y3 y4 y5 y6))
 | 0 => ⟨fun _ _ _ _ r h => by simp [wayzgooselaw03_NameNear.j0] at h, fun _ _ _ r h => by simp [wayzgooselaw03_NameNear.j1] at h, fun _ _ _ _ _ r h => by simp [wayzgooselaw03_NameNear.j2] at h, fun _ _ _ _ _ _ r h => by simp [wayzgooselaw03_NameNear.l0] at h, fun _ _ _ _ _ _ _ r h => by simp [wayzgooselaw03_NameNear.l1] at h⟩
 | k + 1 => by
  obtain ⟨ih0, ih1, ih2, ih3, ih4⟩ := wayzgooselaw03_NameNear.mono_l k
  refine ⟨?_, ?_, ?_, ?_, ?_⟩
  ·intro y0 y1 y2 y3
   unfold wayzgooselaw03_NameNear.j0
   repeat' first
   | (with_reducible exact ih0 _ _ _ _)
   | (with_reducible exact ih1 _ _ _)
   | (with_reducible exact ih2 _ _ _ _ _)
   | (with_reducible exact ih3 _ _ _ _ _ _)
   | (with_reducible exact ih4 _ _ _ _ _ _ _)
   | (with_reducible exact name_Near.mono _ _ _ _)
   | (with_reducible exact wayzgoosekit_NameOf.mono _ _ _ _ _)
   | (with_reducible exact wayzgoosekit_NamesOf.mono _ _ _ _ _ _)
   | (with_reducible exact wayzgoosekit_RulesOf.mono _ _ _ _ _)
   | (with_reducible exact wayzgooselaw03_uses.mono _ _ _ _)
   | (with_reducible exact LeO.refl _)
   | (with_reducible exact LeO.none _)
   | (with_reducible refine LeO.ite ?_ ?_)
   | (with_reducible refine LeO.bind ?_ (fun _ => ?_))
   | exact ih0 _ _ _ _
   | exact ih1 _ _ _
   | exact ih2 _ _ _ _ _
   | exact ih3 _ _ _ _ _ _
   | exact ih4 _ _ _ _ _ _ _
   | exact name_Near.mono _ _ _ _
   | exact wayzgoosekit_NameOf.mono _ _ _ _ _
   | exact wayzgoosekit_NamesOf.mono _ _ _ _ _ _
   | exact wayzgoosekit_RulesOf.mono _ _ _ _ _
   | exact wayzgooselaw03_uses.mono _ _ _ _
   | exact LeO.none _
   | refine LeO.ite ?_ ?_
   | refine LeO.bind ?_ (fun _ => ?_)
  ·intro y0 y1 y2
   unfold wayzgooselaw03_NameNear.j1
   repeat' first
   | (with_reducible exact ih0 _ _ _ _)
   | (with_reducible exact ih1 _ _ _)
   | (with_reducible exact ih2 _ _ _ _ _)
   | (with_reducible exact ih3 _ _ _ _ _ _)
   | (with_reducible exact ih4 _ _ _ _ _ _ _)
   | (with_reducible exact name_Near.mono _ _ _ _)
   | (with_reducible exact wayzgoosekit_NameOf.mono _ _ _ _ _)
   | (with_reducible exact wayzgoosekit_NamesOf.mono _ _ _ _ _ _)
   | (with_reducible exact wayzgoosekit_RulesOf.mono _ _ _ _ _)
   | (with_reducible exact wayzgooselaw03_uses.mono _ _ _ _)
   | (with_reducible exact LeO.refl _)
   | (with_reducible exact LeO.none _)
   | (with_reducible refine LeO.ite ?_ ?_)
   | (with_reducible refine LeO.bind ?_ (fun _ => ?_))
   | exact ih0 _ _ _ _
   | exact ih1 _ _ _
   | exact ih2 _ _ _ _ _
   | exact ih3 _ _ _ _ _ _
   | exact ih4 _ _ _ _ _ _ _
   | exact name_Near.mono _ _ _ _
   | exact wayzgoosekit_NameOf.mono _ _ _ _ _
   | exact wayzgoosekit_NamesOf.mono _ _ _ _ _ _
   | exact wayzgoosekit_RulesOf.mono _ _ _ _ _
   | exact wayzgooselaw03_uses.mono _ _ _ _
   | exact LeO.none _
   | refine LeO.ite ?_ ?_
   | refine LeO.bind ?_ (fun _ => ?_)
  ·intro y0 y1 y2 y3 y4
   unfold wayzgooselaw03_NameNear.j2
   repeat' first
   | (with_reducible exact ih0 _ _ _ _)
   | (with_reducible exact ih1 _ _ _)
   | (with_reducible exact ih2 _ _ _ _ _)
   | (with_reducible exact ih3 _ _ _ _ _ _)
   | (with_reducible exact ih4 _ _ _ _ _ _ _)
   | (with_reducible exact name_Near.mono _ _ _ _)
   | (with_reducible exact wayzgoosekit_NameOf.mono _ _ _ _ _)
   | (with_reducible exact wayzgoosekit_NamesOf.mono _ _ _ _ _ _)
   | (with_reducible exact wayzgoosekit_RulesOf.mono _ _ _ _ _)
   | (with_reducible exact wayzgooselaw03_uses.mono _ _ _ _)
   | (with_reducible exact LeO.refl _)
   | (with_reducible exact LeO.none _)
   | (with_reducible refine LeO.ite ?_ ?_)
   | (with_reducible refine LeO.bind ?_ (fun _ => ?_))
   | exact ih0 _ _ _ _
   | exact ih1 _ _ _
   | exact ih2 _ _ _ _ _
   | exact ih3 _ _ _ _ _ _
   | exact ih4 _ _ _ _ _ _ _
   | exact name_Near.mono _ _ _ _
   | exact wayzgoosekit_NameOf.mono _ _ _ _ _
   | exact wayzgoosekit_NamesOf.mono _ _ _ _ _ _
   | exact wayzgoosekit_RulesOf.mono _ _ _ _ _
   | exact wayzgooselaw03_uses.mono _ _ _ _
   | exact LeO.none _
   | refine LeO.ite ?_ ?_
   | refine LeO.bind ?_ (fun _ => ?_)
  ·intro y0 y1 y2 y3 y4 y5
   unfold wayzgooselaw03_NameNear.l0
   repeat' first
   | (with_reducible exact ih0 _ _ _ _)
   | (with_reducible exact ih1 _ _ _)
   | (with_reducible exact ih2 _ _ _ _ _)
   | (with_reducible exact ih3 _ _ _ _ _ _)
   | (with_reducible exact ih4 _ _ _ _ _ _ _)
   | (with_reducible exact name_Near.mono _ _ _ _)
   | (with_reducible exact wayzgoosekit_NameOf.mono _ _ _ _ _)
   | (with_reducible exact wayzgoosekit_NamesOf.mono _ _ _ _ _ _)
   | (with_reducible exact wayzgoosekit_RulesOf.mono _ _ _ _ _)
   | (with_reducible exact wayzgooselaw03_uses.mono _ _ _ _)
   | (with_reducible exact LeO.refl _)
   | (with_reducible exact LeO.none _)
   | (with_reducible refine LeO.ite ?_ ?_)
   | (with_reducible refine LeO.bind ?_ (fun _ => ?_))
   | exact ih0 _ _ _ _
   | exact ih1 _ _ _
   | exact ih2 _ _ _ _ _
   | exact ih3 _ _ _ _ _ _
   | exact ih4 _ _ _ _ _ _ _
   | exact name_Near.mono _ _ _ _
   | exact wayzgoosekit_NameOf.mono _ _ _ _ _
   | exact wayzgoosekit_NamesOf.mono _ _ _ _ _ _
   | exact wayzgoosekit_RulesOf.mono _ _ _ _ _
   | exact wayzgooselaw03_uses.mono _ _ _ _
   | exact LeO.none _
   | refine LeO.ite ?_ ?_
   | refine LeO.bind ?_ (fun _ => ?_)
  ·intro y0 y1 y2 y3 y4 y5 y6
   unfold wayzgooselaw03_NameNear.l1
   repeat' first
   | (with_reducible exact ih0 _ _ _ _)
   | (with_reducible exact ih1 _ _ _)
   | (with_reducible exact ih2 _ _ _ _ _)
   | (with_reducible exact ih3 _ _ _ _ _ _)
   | (with_reducible exact ih4 _ _ _ _ _ _ _)
   | (with_reducible exact name_Near.mono _ _ _ _)
   | (with_reducible exact wayzgoosekit_NameOf.mono _ _ _ _ _)
   | (with_reducible exact wayzgoosekit_NamesOf.mono _ _ _ _ _ _)
   | (with_reducible exact wayzgoosekit_RulesOf.mono _ _ _ _ _)
   | (with_reducible exact wayzgooselaw03_uses.mono _ _ _ _)
   | (with_reducible exact LeO.refl _)
   | (with_reducible exact LeO.none _)
   | (with_reducible refine LeO.ite ?_ ?_)
   | (with_reducible refine LeO.bind ?_ (fun _ => ?_))
   | exact ih0 _ _ _ _
   | exact ih1 _ _ _
   | exact ih2 _ _ _ _ _
   | exact ih3 _ _ _ _ _ _
   | exact ih4 _ _ _ _ _ _ _
   | exact name_Near.mono _ _ _ _
   | exact wayzgoosekit_NameOf.mono _ _ _ _ _
   | exact wayzgoosekit_NamesOf.mono _ _ _ _ _ _
   | exact wayzgoosekit_RulesOf.mono _ _ _ _ _
   | exact wayzgooselaw03_uses.mono _ _ _ _
   | exact LeO.none _
   | refine LeO.ite ?_ ?_
   | refine LeO.bind ?_ (fun _ => ?_)
theorem wayzgooselaw03_NameNear.mono : ∀ a0 k, LeO (wayzgooselaw03_NameNear.f k a0) (wayzgooselaw03_NameNear.f (k + 1) a0) := by
 intro a0 k
 obtain ⟨ih0, ih1, ih2, ih3, ih4⟩ := wayzgooselaw03_NameNear.mono_l k
 unfold wayzgooselaw03_NameNear.f
 repeat' first
   | (with_reducible exact ih0 _ _ _ _)
   | (with_reducible exact ih1 _ _ _)
   | (with_reducible exact ih2 _ _ _ _ _)
   | (with_reducible exact ih3 _ _ _ _ _ _)
   | (with_reducible exact ih4 _ _ _ _ _ _ _)
   | (with_reducible exact name_Near.mono _ _ _ _)
   | (with_reducible exact wayzgoosekit_NameOf.mono _ _ _ _ _)
   | (with_reducible exact wayzgoosekit_NamesOf.mono _ _ _ _ _ _)
   | (with_reducible exact wayzgoosekit_RulesOf.mono _ _ _ _ _)
   | (with_reducible exact wayzgooselaw03_uses.mono _ _ _ _)
   | (with_reducible exact LeO.refl _)
   | (with_reducible exact LeO.none _)
   | (with_reducible refine LeO.ite ?_ ?_)
   | (with_reducible refine LeO.bind ?_ (fun _ => ?_))
   | exact ih0 _ _ _ _
   | exact ih1 _ _ _
   | exact ih2 _ _ _ _ _
   | exact ih3 _ _ _ _ _ _
   | exact ih4 _ _ _ _ _ _ _
   | exact name_Near.mono _ _ _ _
   | exact wayzgoosekit_NameOf.mono _ _ _ _ _
   | exact wayzgoosekit_NamesOf.mono _ _ _ _ _ _
   | exact wayzgoosekit_RulesOf.mono _ _ _ _ _
   | exact wayzgooselaw03_uses.mono _ _ _ _
   | exact LeO.none _
   | refine LeO.ite ?_ ?_
   | refine LeO.bind ?_ (fun _ => ?_)
set_option maxHeartbeats 8000000 in
set_option maxRecDepth 100000 in
theorem wayzgooselaw03_NameNear.calls (k : Nat) (A0 : Option Addr) (c0 : Nat) (l0 : List Int) (r : Bool) (w : World) (hr0 : Kd.C (Kd.int .i64) w A0 l0.length l0) (hc0 : l0.length ≤ c0) (h : wayzgooselaw03_NameNear.f k l0 = some r) :
  Calls Tryz.prog 10 #[.slice A0 l0.length c0] w fun e w' => e = .returned (.bool r) ∧ Below w.heap.size w w' := by
 have HR0 := Aside0.mk hr0
 have HC0 := Aside0.mk hc0
 clear hr0 hc0
 have HB := Aside0.mk (Below.refl w.heap.size w)
 have H : ((wayzgoosekit_NewDice.f l0).bind fun bt232 => ((wayzgoosekit_RulesOf.f k bt232.1 bt232.2.1 bt232.2.2 3).bind fun bt236 => ((wayzgoosekit_NamesOf.f k bt232.1 bt236.2.1 bt236.2.2 5 3).bind fun bt241 => ((wayzgoosekit_NameOf.f k bt232.1 bt241.2.1 bt241.2.2 3).bind fun bt246 => (if (bt241.1.length : Int) > 0 then ((wayzgoosekit_Dice_Once.f bt232.1 bt246.2.1 bt246.2.2 2).bind fun bt249 => (wayzgooselaw03_NameNear.j0 k bt236.1 bt241.1 bt246.1 bt249.1)) else (wayzgooselaw03_NameNear.j0 k bt236.1 bt241.1 bt246.1 false)))))) = some r := h
 clear h
 replace H := Option.bind_eq_some_iff.mp H
 obtain ⟨⟨t232, t233, t234⟩, A20, H⟩ := H
 replace H : ((wayzgoosekit_RulesOf.f k t232 t233 t234 3).bind fun bt236 => ((wayzgoosekit_NamesOf.f k t232 bt236.2.1 bt236.2.2 5 3).bind fun bt241 => ((wayzgoosekit_NameOf.f k t232 bt241.2.1 bt241.2.2 3).bind fun bt246 => (if (bt241.1.length : Int) > 0 then ((wayzgoosekit_Dice_Once.f t232 bt246.2.1 bt246.2.2 2).bind fun bt249 => (wayzgooselaw03_NameNear.j0 k bt236.1 bt241.1 bt246.1 bt249.1)) else (wayzgooselaw03_NameNear.j0 k bt236.1 bt241.1 bt246.1 false))))) = some r := H
 have A2 := Aside0.mk A20
 clear A20
 replace H := Option.bind_eq_some_iff.mp H
 obtain ⟨⟨t236, t239, t240⟩, A30, H⟩ := H
 replace H : ((wayzgoosekit_NamesOf.f k t232 t239 t240 5 3).bind fun bt241 => ((wayzgoosekit_NameOf.f k t232 bt241.2.1 bt241.2.2 3).bind fun bt246 => (if (bt241.1.length : Int) > 0 then ((wayzgoosekit_Dice_Once.f t232 bt246.2.1 bt246.2.2 2).bind fun bt249 => (wayzgooselaw03_NameNear.j0 k t236 bt241.1 bt246.1 bt249.1)) else (wayzgooselaw03_NameNear.j0 k t236 bt241.1 bt246.1 false)))) = some r := H
 have A3 := Aside0.mk A30
 clear A30
 replace H := Option.bind_eq_some_iff.mp H
 obtain ⟨⟨t241, t244, t245⟩, A40, H⟩ := H
 replace H : ((wayzgoosekit_NameOf.f k t232 t244 t245 3).bind fun bt246 => (if (t241.length : Int) > 0 then ((wayzgoosekit_Dice_Once.f t232 bt246.2.1 bt246.2.2 2).bind fun bt249 => (wayzgooselaw03_NameNear.j0 k t236 t241 bt246.1 bt249.1)) else (wayzgooselaw03_NameNear.j0 k t236 t241 bt246.1 false))) = some r := H
 have A4 := Aside0.mk A40
 clear A40
 replace H := Option.bind_eq_some_iff.mp H
 obtain ⟨⟨t246, t247, t248⟩, A50, H⟩ := H
 replace H : (if (t241.length : Int) > 0 then ((wayzgoosekit_Dice_Once.f t232 t247 t248 2).bind fun bt249 => (wayzgooselaw03_NameNear.j0 k t236 t241 t246 bt249.1)) else (wayzgooselaw03_NameNear.j0 k t236 t241 t246 false)) = some r := H
 have A5 := Aside0.mk A50
 clear A50
 have HC6 := Aside0.mk H
 clear H
 go_enter Tryz.func10, Tryz.ntmps10
 go_upto_region 3 with (first | ((with_reducible refine gate_callee (f := 23) rfl ?_); refine goesL_ (some 15) rfl rfl Tryz.func23 (by kernel_rfl) rfl #[.slice A0 l0.length c0] rfl (by (try simp only [List.map_toArray, List.map_cons, List.map_nil]); first | done | rfl | (simp only [List.length_drop, List.length_take]; rfl)) ?_; (with_reducible refine (wayzgoosekit_NewDice.calls _ _ l0 t232 t233 t234 w _ ?side1 ?side2 ?side3 A2.out).mono ?_); (case side1 => repeat (first | (with_reducible first | exact HB.out | apply below_alloc | apply pw_below_drewN | apply below_drew1) | exact HB.out)); (case side2 => exact HR0.out); (case side3 => exact HC0.out); rintro e w7 ⟨g235, rfl, hi, hb, hb2⟩; refine ⟨_, rfl, ?_⟩; have n0_ := Aside0.mk (hb); have n1_ := Aside0.mk (hi); clear HB; have HB := n0_; have HI235 := n1_; clear n0_ n1_; (try clear hb); (try clear hb2); (try clear hk); (try clear hi)) | ((with_reducible refine gate_callee (f := 35) rfl ?_); refine goesL_ (some 17) rfl rfl Tryz.func35 (by kernel_rfl) rfl #[.pointer (some ⟨g235, 0, none⟩), .int .i64 3] rfl (by (try simp only [List.map_toArray, List.map_cons, List.map_nil]); first | done | rfl | (simp only [List.length_drop, List.length_take]; rfl)) ?_; (with_reducible refine (wayzgoosekit_RulesOf.calls k g235 t232 t233 t234 3 t236 t239 t240 w _ ?side1 ?side2 A3.out).mono ?_); (case side1 => repeat (first | (with_reducible first | exact HI235.out | apply IsS86.alloc | apply IsS86.drewN | apply IsS86.drew | apply IsS86.set_1 | apply IsS86.set_2) | exact HI235.out)); (case side2 => repeat (first | (with_reducible first | exact HB.out | apply below_alloc | apply pw_below_drewN | apply below_drew1 | refine below_set ?_ (IsS86.ge HI235.out)) | exact HB.out)); rintro e w8 ⟨v237, rfl, ho0, hi, hb, hk⟩; refine ⟨_, rfl, ?_⟩; have n0_ := Aside0.mk (Kd.R_lower ho0 (below_size (by repeat (first | (with_reducible first | exact HB.out | apply below_alloc | apply pw_below_drewN | apply below_drew1 | refine below_set ?_ (IsS86.ge HI235.out)) | exact HB.out)))); have n1_ := Aside0.mk (hb); have n2_ := Aside0.mk (hi); clear HB; clear HI235; have HO238 := n0_; have HB := n1_; have HI235 := n2_; clear n0_ n1_ n2_; (try clear hb); (try clear hb2); (try clear hk); (try clear hi); (try clear ho0)) | ((with_reducible refine gate_callee (f := 24) rfl ?_); refine goesL_ (some 19) rfl rfl Tryz.func24 (by kernel_rfl) rfl #[.pointer (some ⟨g235, 0, none⟩), .int .i64 5, .int .i64 3] rfl (by (try simp only [List.map_toArray, List.map_cons, List.map_nil]); first | done | rfl | (simp only [List.length_drop, List.length_take]; rfl)) ?_; (with_reducible refine (wayzgoosekit_NamesOf.calls k g235 t232 t239 t240 5 3 t241 t244 t245 w _ ?side1 ?side2 A4.out).mono ?_); (case side1 => repeat (first | (with_reducible first | exact HI235.out | apply IsS86.alloc | apply IsS86.drewN | apply IsS86.drew | apply IsS86.set_1 | apply IsS86.set_2) | exact HI235.out)); (case side2 => repeat (first | (with_reducible first | exact HB.out | apply below_alloc | apply pw_below_drewN | apply below_drew1 | refine below_set ?_ (IsS86.ge HI235.out)) | exact HB.out)); rintro e w9 ⟨v242, rfl, ho0, hi, hb, hk⟩; refine ⟨_, rfl, ?_⟩; have n0_ := Aside0.mk (Kd.R_mono (Kd.R_keep (IsS86.apart (show IsS86 w _ g235 t232 t239 t240 from by repeat (first | (with_reducible first | exact HI235.out | apply IsS86.alloc | apply IsS86.drewN | apply IsS86.drew | apply IsS86.set_1 | apply IsS86.set_2) | exact HI235.out)) (by (with_reducible repeat (first | apply Kd.R_alloc | apply Kd.R_drewN | apply Kd.R_drew)); exact HO238.out) (by decide)) hk (fun _ h => h.2)) (fun _ h => h.1)); have n1_ := Aside0.mk (Kd.R_lower ho0 (below_size (by repeat (first | (with_reducible first | exact HB.out | apply below_alloc | apply pw_below_drewN | apply below_drew1 | refine below_set ?_ (IsS86.ge HI235.out)) | exact HB.out)))); have n2_ := Aside0.mk (hb); have n3_ := Aside0.mk (hi); clear HO238; clear HB; clear HI235; have HO238 := n0_; have HO243 := n1_; have HB := n2_; have HI235 := n3_; clear n0_ n1_ n2_ n3_; (try clear hb); (try clear hb2); (try clear hk); (try clear hi); (try clear ho0)) | ((with_reducible refine gate_callee (f := 25) rfl ?_); refine goesL_ (some 21) rfl rfl Tryz.func25 (by kernel_rfl) rfl #[.pointer (some ⟨g235, 0, none⟩), .int .i64 3] rfl (by (try simp only [List.map_toArray, List.map_cons, List.map_nil]); first | done | rfl | (simp only [List.length_drop, List.length_take]; rfl)) ?_; (with_reducible refine (wayzgoosekit_NameOf.calls k g235 t232 t244 t245 3 t246 t247 t248 w _ ?side1 ?side2 A5.out).mono ?_); (case side1 => repeat (first | (with_reducible first | exact HI235.out | apply IsS86.alloc | apply IsS86.drewN | apply IsS86.drew | apply IsS86.set_1 | apply IsS86.set_2) | exact HI235.out)); (case side2 => repeat (first | (with_reducible first | exact HB.out | apply below_alloc | apply pw_below_drewN | apply below_drew1 | refine below_set ?_ (IsS86.ge HI235.out)) | exact HB.out)); rintro e w10 ⟨rfl, hi, hb, hk⟩; refine ⟨_, rfl, ?_⟩; have n0_ := Aside0.mk (Kd.R_mono (Kd.R_keep (IsS86.apart (show IsS86 w _ g235 t232 t244 t245 from by repeat (first | (with_reducible first | exact HI235.out | apply IsS86.alloc | apply IsS86.drewN | apply IsS86.drew | apply IsS86.set_1 | apply IsS86.set_2) | exact HI235.out)) (by (with_reducible repeat (first | apply Kd.R_alloc | apply Kd.R_drewN | apply Kd.R_drew)); exact HO238.out) (by decide)) hk (fun _ h => h.2)) (fun _ h => h.1)); have n1_ := Aside0.mk (Kd.R_mono (Kd.R_keep (IsS86.apart (show IsS86 w _ g235 t232 t244 t245 from by repeat (first | (with_reducible first | exact HI235.out | apply IsS86.alloc | apply IsS86.drewN | apply IsS86.drew | apply IsS86.set_1 | apply IsS86.set_2) | exact HI235.out)) (by (with_reducible repeat (first | apply Kd.R_alloc | apply Kd.R_drewN | apply Kd.R_drew)); exact HO243.out) (by decide)) hk (fun _ h => h.2)) (fun _ h => h.1)); have n2_ := Aside0.mk (hb); have n3_ := Aside0.mk (hi); clear HO238; clear HO243; clear HB; clear HI235; have HO238 := n0_; have HO243 := n1_; have HB := n2_; have HI235 := n3_; clear n0_ n1_ n2_ n3_; (try clear hb); (try clear hb2); (try clear hk); (try clear hi)))
 (try simp only [Act.put, List.setIfInBounds_toArray, List.set_cons_zero, List.set_cons_succ])
 go_cut [28] (fun v28 wc => ∃ (kq : Nat) (x28_5 : Bool), v28 = .bool x28_5 ∧ Aside0 (wayzgooselaw03_NameNear.j0 kq t236 t241 t246 x28_5 = some r) ∧ Aside0 (kq ≤ k) ∧ Aside0 (Kd.R k83 83 wc w.heap.size (fun _ => True) v237 t236) ∧ Aside0 (Kd.R Kd.string 9 wc w.heap.size (fun _ => True) v242 t241) ∧ Aside0 (Below w.heap.size w wc))
 case first =>
  have H := HC6.out
  clear HC6
  by_cases c11 : (t241.length : Int) > 0
  ·rw [if_pos c11] at H
   have c11b0 : decide (0 < (t241.length : Int)) = true := decide_eq_true c11
   have c11b1 : decide (0 < t241.length) = true := decide_eq_true (by omega)
   clear c11
   (first | rw [c11b0] | (simp only [i64_w, i32_w]; rw [c11b0]) | skip)
   replace H := Option.bind_eq_some_iff.mp H
   obtain ⟨⟨t249, t250, t251⟩, A120, H⟩ := H
   replace H : (wayzgooselaw03_NameNear.j0 k t236 t241 t246 t249) = some r := H
   have A12 := Aside0.mk A120
   clear A120
   have H' := Aside0.mk H
   clear H
   obtain ⟨Ao13, co13, eo13⟩ := Kd.R_slice HO243.out
   subst eo13
   go_wp2_with (first | (go_at_call 34; (with_reducible refine (wayzgoosekit_Dice_Once.calls g235 t232 t247 t248 2 t249 t250 t251 w _ ?side1 ?side2 A12.out).mono ?_); (case side1 => repeat (first | (with_reducible first | exact HI235.out | apply IsS86.alloc | apply IsS86.drewN | apply IsS86.drew | apply IsS86.set_1 | apply IsS86.set_2) | exact HI235.out)); (case side2 => repeat (first | (with_reducible first | exact HB.out | apply below_alloc | apply pw_below_drewN | apply below_drew1 | refine below_set ?_ (IsS86.ge HI235.out)) | exact HB.out)); rintro e w14 ⟨rfl, hi, hb, hk⟩; have n0_ := Aside0.mk (Kd.R_mono (Kd.R_keep (IsS86.apart (show IsS86 w _ g235 t232 t247 t248 from by repeat (first | (with_reducible first | exact HI235.out | apply IsS86.alloc | apply IsS86.drewN | apply IsS86.drew | apply IsS86.set_1 | apply IsS86.set_2) | exact HI235.out)) (by (with_reducible repeat (first | apply Kd.R_alloc | apply Kd.R_drewN | apply Kd.R_drew)); exact HO238.out) (by decide)) hk (fun _ h => h.2)) (fun _ h => h.1)); have n1_ := Aside0.mk (Kd.R_mono (Kd.R_keep (IsS86.apart (show IsS86 w _ g235 t232 t247 t248 from by repeat (first | (with_reducible first | exact HI235.out | apply IsS86.alloc | apply IsS86.drewN | apply IsS86.drew | apply IsS86.set_1 | apply IsS86.set_2) | exact HI235.out)) (by (with_reducible repeat (first | apply Kd.R_alloc | apply Kd.R_drewN | apply Kd.R_drew)); exact HO243.out) (by decide)) hk (fun _ h => h.2)) (fun _ h => h.1)); have n2_ := Aside0.mk (hb); have n3_ := Aside0.mk (hi); clear HO238; clear HO243; clear HB; clear HI235; have HO238 := n0_; have HO243 := n1_; have HB := n2_; have HI235 := n3_; clear n0_ n1_ n2_ n3_; (try clear hb); (try clear hb2); (try clear hk); (try clear hi)))
   go_meet
   case rel => exact ⟨_, (t249), (by first | rfl | (simp; done) | (simp [*]; done)), H', ⟨by first | omega | exact Nat.le_refl _⟩, ⟨by (with_reducible repeat (first | apply Kd.R_alloc | apply Kd.R_drewN | apply Kd.R_drew)); exact HO238.out⟩, ⟨by (with_reducible repeat (first | apply Kd.R_alloc | apply Kd.R_drewN | apply Kd.R_drew)); exact HO243.out⟩, ⟨by repeat (first | (with_reducible first | exact HB.out | apply below_alloc | apply pw_below_drewN | apply below_drew1 | refine below_set ?_ (IsS86.ge HI235.out)) | exact HB.out)⟩⟩
  ·rw [if_neg c11] at H
   have c11b0 : decide (0 < (t241.length : Int)) = false := decide_eq_false c11
   have c11b1 : decide (0 < t241.length) = false := decide_eq_false (by omega)
   clear c11
   (first | rw [c11b0] | (simp only [i64_w, i32_w]; rw [c11b0]) | skip)
   have H' := Aside0.mk H
   clear H
   obtain ⟨Ao15, co15, eo15⟩ := Kd.R_slice HO243.out
   subst eo15
   go_wp2
   go_meet
   case rel => exact ⟨_, (false), (by first | rfl | (simp; done) | (simp [*]; done)), H', ⟨by first | omega | exact Nat.le_refl _⟩, ⟨by (with_reducible repeat (first | apply Kd.R_alloc | apply Kd.R_drewN | apply Kd.R_drew)); exact HO238.out⟩, ⟨by (with_reducible repeat (first | apply Kd.R_alloc | apply Kd.R_drewN | apply Kd.R_drew)); exact HO243.out⟩, ⟨by repeat (first | (with_reducible first | exact HB.out | apply below_alloc | apply pw_below_drewN | apply below_drew1 | refine below_set ?_ (IsS86.ge HI235.out)) | exact HB.out)⟩⟩
 case rest => as_aux_lemma =>
  clear HC6
  try clear c1
  try clear c2
  try clear p2
  try clear c3
  try clear c10
  try clear c11
  try clear c11b0
  try clear c11b1
  obtain ⟨kq, x28_5, rfl, HA, HJ5, HO_4, HO_5, HB⟩ := hcut
  cases kq with
  | zero => exact absurd HA.out (by simp [wayzgooselaw03_NameNear.j0])
  | succ kj5 =>
   have H := HA.out
   clear HA
   simp only [wayzgooselaw03_NameNear.j0] at H
   have HC16 := Aside0.mk H
   clear H
   go_upto_if 28 with (fail)
   go_cut [6] (fun v6 wc => ∃ (kq : Nat) (x6_15 : ByteArray), v6 = .string x6_15 ∧ Aside0 (wayzgooselaw03_NameNear.j1 kq t236 t241 x6_15 = some r) ∧ Aside0 (kq ≤ kj5) ∧ Aside0 (Kd.R k83 83 wc w.heap.size (fun _ => True) v237 t236) ∧ Aside0 (Kd.R Kd.string 9 wc w.heap.size (fun _ => True) v242 t241) ∧ Aside0 (Below w.heap.size w wc))
   case first =>
    have H := HC16.out
    clear HC16
    by_cases c17 : x28_5 = true
    ·subst c17
     have H1 : (if 0 < (t241.length : Int) then (wayzgooselaw03_NameNear.j1 kj5 t236 t241 (rdOf ByteArray.empty t241 0)) else (none)) = some r := by rw [if_pos rfl] at H; exact H
     clear H
     have H := H1
     clear H1
     by_cases c18 : 0 < (t241.length : Int)
     ·rw [if_pos c18] at H
      have c18b0 : decide (0 < (t241.length : Int)) = true := decide_eq_true c18
      have c18b1 : decide (0 < t241.length) = true := decide_eq_true (by omega)
      clear c18
      (first | rw [c18b0] | (simp only [i64_w, i32_w]; rw [c18b0]) | skip)
      have H' := Aside0.mk H
      clear H
      obtain ⟨Ao19, co19, eo19⟩ := Kd.R_slice HO_5.out
      subst eo19
      have p252 : 0 ≤ (0 : Int) := (by omega)
      have q252 : 0 < (t241.length : Int) := of_decide_eq_true (by first | (with_reducible assumption) | assumption)
      obtain ⟨ad252, e252, hx252_0⟩ := Kd.at_string (Kd.R_reads' HO_5.out).2.2 0 p252 q252
      cases e252
      have qi252 : (0 < t241.length) = True := eq_true (by omega)
      (try rw [show ((0 : Int)).toNat = 0 from rfl] at hx252_0)
      (try rw [Addr.add_zero'] at hx252_0)
      replace p252 := eq_true p252
      replace q252 := eq_true q252
      go_wp2
      go_meet
      case rel => exact ⟨_, (rdOf ByteArray.empty t241 0), (by first | rfl | (simp; done) | (simp [*]; done)), H', ⟨by have := HJ5.out; first | omega | exact Nat.le_refl _⟩, ⟨by (with_reducible repeat (first | apply Kd.R_alloc | apply Kd.R_drewN | apply Kd.R_drew)); exact HO_4.out⟩, ⟨by (with_reducible repeat (first | apply Kd.R_alloc | apply Kd.R_drewN | apply Kd.R_drew)); exact HO_5.out⟩, ⟨by repeat (first | (with_reducible first | exact HB.out | apply below_alloc | apply pw_below_drewN | apply below_drew1) | exact HB.out)⟩⟩
     ·rw [if_neg c18] at H
      exact absurd H (by simp)
    ·replace c17 := Bool.eq_false_iff.mpr c17
     subst c17
     have H1 : (wayzgooselaw03_NameNear.j1 kj5 t236 t241 t246) = some r := by rw [if_neg (show ¬ (false = true) by decide)] at H; exact H
     clear H
     have H := H1
     clear H1
     have H' := Aside0.mk H
     clear H
     go_wp2
     go_meet
     case rel => exact ⟨_, (t246), (by first | rfl | (simp; done) | (simp [*]; done)), H', ⟨by have := HJ5.out; first | omega | exact Nat.le_refl _⟩, ⟨by (with_reducible repeat (first | apply Kd.R_alloc | apply Kd.R_drewN | apply Kd.R_drew)); exact HO_4.out⟩, ⟨by (with_reducible repeat (first | apply Kd.R_alloc | apply Kd.R_drewN | apply Kd.R_drew)); exact HO_5.out⟩, ⟨by repeat (first | (with_reducible first | exact HB.out | apply below_alloc | apply pw_below_drewN | apply below_drew1) | exact HB.out)⟩⟩
   case rest => as_aux_lemma =>
    clear HC16
    try clear c1
    try clear c2
    try clear p2
    try clear q2
    try clear hx2
    try clear qi2
    try clear c3
    try clear c10
    try clear c11
    try clear c11b0
    try clear c11b1
    try clear c17
    try clear c18
    try clear c18b0
    try clear c18b1
    try clear hx252_0
    try clear p2
    try clear p252
    try clear q252
    obtain ⟨kq, x6_15, rfl, HA, HJ15, HO_4, HO_5, HB⟩ := hcut
    cases kq with
    | zero => exact absurd HA.out (by simp [wayzgooselaw03_NameNear.j1])
    | succ kj15 =>
     have H := HA.out
     clear HA
     simp only [wayzgooselaw03_NameNear.j1] at H
     replace H := Option.bind_eq_some_iff.mp H
     obtain ⟨⟨t253, t254⟩, A200, H⟩ := H
     replace H : (if t254 = 0 then (wayzgooselaw03_NameNear.j2 kj15 t236 t241 x6_15 t253 (decide ((t253.length : Int) > (t241.length : Int)))) else (wayzgooselaw03_NameNear.j2 kj15 t236 t241 x6_15 t253 true)) = some r := H
     have A20 := Aside0.mk A200
     clear A200
     have HC21 := Aside0.mk H
     clear H
     obtain ⟨Ao22, co22, eo22⟩ := Kd.R_slice HO_4.out
     subst eo22
     obtain ⟨Ao23, co23, eo23⟩ := Kd.R_slice HO_5.out
     subst eo23
     go_upto_region 6 with (first | ((with_reducible refine gate_callee (f := 47) rfl ?_); refine goesL_ (some 36) rfl rfl Tryz.func47 (by kernel_rfl) rfl #[.slice Ao22 t236.length co22, .string x6_15, .slice Ao23 t241.length co23] rfl (by (try simp only [List.map_toArray, List.map_cons, List.map_nil]); first | done | rfl | (simp only [List.length_drop, List.length_take]; rfl)) ?_; (with_reducible refine (name_Near.calls kj15 _ _ t236 x6_15 _ _ t241 t253 t254 _ ?side1 ?side2 ?side3 ?side4 A20.out).mono ?_); (case side1 => repeat (first | exact (Kd.R_reads' HO_4.out).2.2 | (with_reducible refine Kd.C_alloc ?_ _) | (with_reducible refine Kd.C_drewN ?_ _) | (with_reducible refine Kd.C_drew ?_))); (case side2 => exact (Kd.R_reads' HO_4.out).2.1); (case side3 => repeat (first | exact (Kd.R_reads' HO_5.out).2.2 | (with_reducible refine Kd.C_alloc ?_ _) | (with_reducible refine Kd.C_drewN ?_ _) | (with_reducible refine Kd.C_drew ?_))); (case side4 => exact (Kd.R_reads' HO_5.out).2.1); rintro e w24 ⟨v255, rfl, ho0, hb⟩; refine ⟨_, rfl, ?_⟩; have n0_ := Aside0.mk (Kd.R_below (by (with_reducible repeat (first | apply Kd.R_alloc | apply Kd.R_drewN | apply Kd.R_drew)); exact HO_4.out) hb); have n1_ := Aside0.mk (Kd.R_below (by (with_reducible repeat (first | apply Kd.R_alloc | apply Kd.R_drewN | apply Kd.R_drew)); exact HO_5.out) hb); have n2_ := Aside0.mk (Kd.R_lower ho0 (below_size (by repeat (first | (with_reducible first | exact HB.out | apply below_alloc | apply pw_below_drewN | apply below_drew1) | exact HB.out)))); have n3_ := Aside0.mk (below_step (by repeat (first | (with_reducible first | exact HB.out | apply below_alloc | apply pw_below_drewN | apply below_drew1) | exact HB.out)) hb); clear HO_4; clear HO_5; clear HB; have HO_4 := n0_; have HO_5 := n1_; have HO256 := n2_; have HB := n3_; clear n0_ n1_ n2_ n3_; (try clear hb); (try clear hb2); (try clear hk); (try clear hi); (try clear ho0)))
     (try simp only [Act.put, List.setIfInBounds_toArray, List.set_cons_zero, List.set_cons_succ])
     go_cut [47] (fun v47 wc => ∃ (kq : Nat) (x47_20 : Bool), v47 = .bool x47_20 ∧ Aside0 (wayzgooselaw03_NameNear.j2 kq t236 t241 x6_15 t253 x47_20 = some r) ∧ Aside0 (kq ≤ kj15) ∧ Aside0 (Kd.R k83 83 wc w.heap.size (fun _ => True) (.slice Ao22 t236.length co22) t236) ∧ Aside0 (Kd.R Kd.string 9 wc w.heap.size (fun _ => True) (.slice Ao23 t241.length co23) t241) ∧ Aside0 (Kd.R (Kd.int .i64) 3 wc w.heap.size (fun _ => True) v255 t253) ∧ Aside0 (Below w.heap.size w wc))
     case first =>
      have H := HC21.out
      clear HC21
      by_cases c25 : t254 = 0
      ·rw [if_pos c25] at H
       have c25b0 : (t254 == 0) = true := beq_iff_eq.mpr c25
       have c25b1 : (t254 != 0) = false := bne_eq_false_iff_eq.mpr c25
       clear c25
       (first | rw [c25b0] | (simp only [i64_w, i32_w]; rw [c25b0]) | skip)
       have H' := Aside0.mk H
       clear H
       obtain ⟨Ao26, co26, eo26⟩ := Kd.R_slice HO256.out
       subst eo26
       go_wp2
       go_meet
       case rel => exact ⟨_, (decide ((t253.length : Int) > (t241.length : Int))), (by first | rfl | (simp; done) | (simp [*]; done)), H', ⟨by have := HJ5.out; have := HJ15.out; first | omega | exact Nat.le_refl _⟩, ⟨by (with_reducible repeat (first | apply Kd.R_alloc | apply Kd.R_drewN | apply Kd.R_drew)); exact HO_4.out⟩, ⟨by (with_reducible repeat (first | apply Kd.R_alloc | apply Kd.R_drewN | apply Kd.R_drew)); exact HO_5.out⟩, ⟨by (with_reducible repeat (first | apply Kd.R_alloc | apply Kd.R_drewN | apply Kd.R_drew)); exact HO256.out⟩, ⟨by repeat (first | (with_reducible first | exact HB.out | apply below_alloc | apply pw_below_drewN | apply below_drew1) | exact HB.out)⟩⟩
      ·rw [if_neg c25] at H
       have c25b0 : (t254 == 0) = false := beq_eq_false_iff_ne.mpr c25
       have c25b1 : (t254 != 0) = true := bne_iff_ne.mpr c25
       (first | rw [c25b0] | (simp only [i64_w, i32_w]; rw [c25b0]) | skip)
       have H' := Aside0.mk H
       clear H
       go_wp2
       go_meet
       case rel => exact ⟨_, (true), (by first | rfl | (simp; done) | (simp [*]; done)), H', ⟨by have := HJ5.out; have := HJ15.out; first | omega | exact Nat.le_refl _⟩, ⟨by (with_reducible repeat (first | apply Kd.R_alloc | apply Kd.R_drewN | apply Kd.R_drew)); exact HO_4.out⟩, ⟨by (with_reducible repeat (first | apply Kd.R_alloc | apply Kd.R_drewN | apply Kd.R_drew)); exact HO_5.out⟩, ⟨by (with_reducible repeat (first | apply Kd.R_alloc | apply Kd.R_drewN | apply Kd.R_drew)); exact HO256.out⟩, ⟨by repeat (first | (with_reducible first | exact HB.out | apply below_alloc | apply pw_below_drewN | apply below_drew1) | exact HB.out)⟩⟩
     case rest => as_aux_lemma =>
      clear HC21
      try clear c1
      try clear c2
      try clear p2
      try clear q2
      try clear hx2
      try clear qi2
      try clear c3
      try clear c4
      try clear c10
      try clear c11
      try clear c11b0
      try clear c11b1
      try clear c17
      try clear c18
      try clear c18b0
      try clear c18b1
      try clear c23
      try clear c24
      try clear c25
      try clear c25b0
      try clear c25b1
      try clear p25
      try clear q25
      try clear hx25
      try clear qi25
      try clear hx252_0
      try clear p2
      try clear p252
      try clear q2
      try clear q252
      obtain ⟨kq, x47_20, rfl, HA, HJ20, HO_4, HO_5, HO_7, HB⟩ := hcut
      cases kq with
      | zero => exact absurd HA.out (by simp [wayzgooselaw03_NameNear.j2])
      | succ kj20 =>
       have H := HA.out
       clear HA
       simp only [wayzgooselaw03_NameNear.j2] at H
       by_cases c27 : x47_20 = true
       ·subst c27
        have H1 : (some false) = some r := by rw [if_pos rfl] at H; exact H
        clear H
        have H := H1
        clear H1
        obtain rfl := Option.some.inj H
        go_wp2
        go_ret
        exact ⟨by first | rfl | (simp [errW_none, errW_some] <;> rfl) | (simp [*, errW_none, errW_some] <;> rfl), by repeat (first | (with_reducible first | exact HB.out | apply below_alloc | apply pw_below_drewN | apply below_drew1) | exact HB.out)⟩
       ·replace c27 := Bool.eq_false_iff.mpr c27
        subst c27
        have H1 : (wayzgooselaw03_NameNear.l0 kj20 t236 t241 x6_15 t253 0 0) = some r := by rw [if_neg (show ¬ (false = true) by decide)] at H; exact H
        clear H
        have H := H1
        clear H1
        have H' := Aside0.mk H
        clear H
        go_wp2
        go_loopg [9, 10] kj20 (fun kq v9 v10 w' => ∃ (x9_4 : Int) (x10_4 : Int), v9 = .int .i64 x9_4 ∧ v10 = .int .i64 x10_4 ∧ Aside0 (wayzgooselaw03_NameNear.l0 kq t236 t241 x6_15 t253 x9_4 x10_4 = some r) ∧ Aside0 (kq ≤ kj20) ∧ Aside0 (Kd.R k83 83 w' w.heap.size (fun _ => True) (.slice Ao22 t236.length co22) t236) ∧ Aside0 (Kd.R Kd.string 9 w' w.heap.size (fun _ => True) (.slice Ao23 t241.length co23) t241) ∧ Aside0 (Kd.R (Kd.int .i64) 3 w' w.heap.size (fun _ => True) v255 t253) ∧ Aside0 (Below w.heap.size w w'))
        case atStart => exact ⟨(0), (0), (by first | rfl | (simp; done) | (simp [*]; done)), (by first | rfl | (simp; done) | (simp [*]; done)), H', ⟨Nat.le_refl _⟩, ⟨by (with_reducible repeat (first | apply Kd.R_alloc | apply Kd.R_drewN | apply Kd.R_drew)); exact HO_4.out⟩, ⟨by (with_reducible repeat (first | apply Kd.R_alloc | apply Kd.R_drewN | apply Kd.R_drew)); exact HO_5.out⟩, ⟨by (with_reducible repeat (first | apply Kd.R_alloc | apply Kd.R_drewN | apply Kd.R_drew)); exact HO_7.out⟩, ⟨by repeat (first | (with_reducible first | exact HB.out | apply below_alloc | apply pw_below_drewN | apply below_drew1) | exact HB.out)⟩⟩
        case round => as_aux_lemma =>
         clear H'
         try clear c1
         try clear c2
         try clear p2
         try clear q2
         try clear hx2
         try clear qi2
         try clear c3
         try clear c4
         try clear c10
         try clear c11
         try clear c11b0
         try clear c11b1
         try clear c17
         try clear c18
         try clear c18b0
         try clear c18b1
         try clear c23
         try clear c24
         try clear c25
         try clear c25b0
         try clear c25b1
         try clear p25
         try clear q25
         try clear hx25
         try clear qi25
         try clear c27
         try clear hx252_0
         try clear p2
         try clear p25
         try clear p252
         try clear q2
         try clear q25
         try clear q252
         obtain ⟨x9_4, x10_4, rfl, rfl, HA, HK4, HO_4, HO_5, HO_7, HB⟩ := hrel
         cases gk with
         | zero => exact absurd HA.out (by simp [wayzgooselaw03_NameNear.l0])
         | succ k4 =>
          have H := HA.out
          clear HA
          simp only [wayzgooselaw03_NameNear.l0] at H
          by_cases c28 : x10_4 ≤ 2
          ·rw [if_pos c28] at H
           have c28b0 : decide (x10_4 ≤ 2) = true := decide_eq_true c28
           clear c28
           have H' := Aside0.mk H
           clear H
           go_wp2
           go_loopg [9, 11] k4 (fun kq v9 v11 w' => ∃ (x9_5 : Int) (x11_5 : Int), v9 = .int .i64 x9_5 ∧ v11 = .int .i64 x11_5 ∧ Aside0 (wayzgooselaw03_NameNear.l1 kq t236 t241 x6_15 t253 x9_5 x10_4 x11_5 = some r) ∧ Aside0 (kq ≤ k4) ∧ Aside0 (Kd.R k83 83 w' w.heap.size (fun _ => True) (.slice Ao22 t236.length co22) t236) ∧ Aside0 (Kd.R Kd.string 9 w' w.heap.size (fun _ => True) (.slice Ao23 t241.length co23) t241) ∧ Aside0 (Kd.R (Kd.int .i64) 3 w' w.heap.size (fun _ => True) v255 t253) ∧ Aside0 (Below w.heap.size w w'))
           case atStart => exact ⟨(x9_4), (0), (by first | rfl | (simp; done) | (simp [*]; done)), (by first | rfl | (simp; done) | (simp [*]; done)), H', ⟨Nat.le_refl _⟩, ⟨by (with_reducible repeat (first | apply Kd.R_alloc | apply Kd.R_drewN | apply Kd.R_drew)); exact HO_4.out⟩, ⟨by (with_reducible repeat (first | apply Kd.R_alloc | apply Kd.R_drewN | apply Kd.R_drew)); exact HO_5.out⟩, ⟨by (with_reducible repeat (first | apply Kd.R_alloc | apply Kd.R_drewN | apply Kd.R_drew)); exact HO_7.out⟩, ⟨by repeat (first | (with_reducible first | exact HB.out | apply below_alloc | apply pw_below_drewN | apply below_drew1) | exact HB.out)⟩⟩
           case round => as_aux_lemma =>
            clear H'
            try clear c1
            try clear c2
            try clear p2
            try clear q2
            try clear hx2
            try clear qi2
            try clear c3
            try clear c4
            try clear c10
            try clear c11
            try clear c11b0
            try clear c11b1
            try clear c17
            try clear c18
            try clear c18b0
            try clear c18b1
            try clear c23
            try clear c24
            try clear c25
            try clear c25b0
            try clear c25b1
            try clear p25
            try clear q25
            try clear hx25
            try clear qi25
            try clear c27
            try clear c28
            try clear c28b0
            try clear hx252_0
            try clear p2
            try clear p25
            try clear p252
            try clear q2
            try clear q25
            try clear q252
            obtain ⟨x9_5, x11_5, rfl, rfl, HA, HK5, HO_4, HO_5, HO_7, HB⟩ := hrel
            cases gk with
            | zero => exact absurd HA.out (by simp [wayzgooselaw03_NameNear.l1])
            | succ k5 =>
             have H := HA.out
             clear HA
             simp only [wayzgooselaw03_NameNear.l1] at H
             by_cases c29 : x11_5 < (t241.length : Int)
             ·rw [if_pos c29] at H
              have c29b0 : decide (x11_5 < (t241.length : Int)) = true := decide_eq_true c29
              clear c29
              by_cases c30 : 0 ≤ x11_5
              ·rw [if_pos c30] at H
               have c30b0 : decide (0 ≤ x11_5) = true := decide_eq_true c30
               clear c30
               replace H := Option.bind_eq_some_iff.mp H
               obtain ⟨⟨t259, t260⟩, A310, H⟩ := H
               replace H : (if t260 = true then (if t259 = x10_4 then (if x9_5 ≥ (t253.length : Int) then (some false) else (if 0 ≤ x9_5 then (if x9_5 < (t253.length : Int) then (if (rd t253 x9_5) = x11_5 then (wayzgooselaw03_NameNear.l1 k5 t236 t241 x6_15 t253 (wrap64 (x9_5 + 1)) x10_4 (wrap64 (x11_5 + 1))) else (some false)) else (none)) else (none))) else (wayzgooselaw03_NameNear.l1 k5 t236 t241 x6_15 t253 x9_5 x10_4 (wrap64 (x11_5 + 1)))) else (some false)) = some r := H
               have A31 := Aside0.mk A310
               clear A310
               by_cases c32 : t260 = true
               ·subst c32
                have H1 : (if t259 = x10_4 then (if x9_5 ≥ (t253.length : Int) then (some false) else (if 0 ≤ x9_5 then (if x9_5 < (t253.length : Int) then (if (rd t253 x9_5) = x11_5 then (wayzgooselaw03_NameNear.l1 k5 t236 t241 x6_15 t253 (wrap64 (x9_5 + 1)) x10_4 (wrap64 (x11_5 + 1))) else (some false)) else (none)) else (none))) else (wayzgooselaw03_NameNear.l1 k5 t236 t241 x6_15 t253 x9_5 x10_4 (wrap64 (x11_5 + 1)))) = some r := by rw [if_pos rfl] at H; exact H
                clear H
                have H := H1
                clear H1
                by_cases c33 : t259 = x10_4
                ·rw [if_pos c33] at H
                 have c33b0 : (t259 == x10_4) = true := beq_iff_eq.mpr c33
                 have c33b1 : (t259 != x10_4) = false := bne_eq_false_iff_eq.mpr c33
                 clear c33
                 by_cases c34 : x9_5 ≥ (t253.length : Int)
                 ·rw [if_pos c34] at H
                  have c34b0 : decide ((t253.length : Int) ≤ x9_5) = true := decide_eq_true c34
                  clear c34
                  obtain rfl := Option.some.inj H
                  have p258 : 0 ≤ (x11_5 : Int) := of_decide_eq_true (by first | (with_reducible assumption) | assumption)
                  have q258 : x11_5 < (t241.length : Int) := of_decide_eq_true (by first | (with_reducible assumption) | assumption)
                  obtain ⟨ad258, e258, hx258_0⟩ := Kd.at_string (Kd.R_reads' HO_5.out).2.2 x11_5 p258 q258
                  cases e258
                  replace p258 := eq_true p258
                  replace q258 := eq_true q258
                  go_wp2_with (first | ((with_reducible refine gate_callee (f := 36) rfl ?_); refine goesL_ (some 65) rfl rfl Tryz.func36 (by kernel_rfl) rfl #[.slice Ao22 t236.length co22, .string x6_15, .string (rdOf ByteArray.empty t241 x11_5)] rfl (by (try simp only [List.map_toArray, List.map_cons, List.map_nil]); first | done | rfl | (simp only [List.length_drop, List.length_take]; rfl)) ?_; (with_reducible refine (wayzgooselaw03_uses.calls k5 _ _ t236 x6_15 (rdOf ByteArray.empty t241 x11_5) t259 true _ ?side1 ?side2 A31.out).mono ?_); (case side1 => repeat (first | exact (Kd.R_reads' HO_4.out).2.2 | (with_reducible refine Kd.C_alloc ?_ _) | (with_reducible refine Kd.C_drewN ?_ _) | (with_reducible refine Kd.C_drew ?_))); (case side2 => exact (Kd.R_reads' HO_4.out).2.1); rintro e w35 ⟨rfl, hb⟩; refine ⟨_, rfl, ?_⟩; have n0_ := Aside0.mk (Kd.R_below (by (with_reducible repeat (first | apply Kd.R_alloc | apply Kd.R_drewN | apply Kd.R_drew)); exact HO_4.out) hb); have n1_ := Aside0.mk (Kd.R_below (by (with_reducible repeat (first | apply Kd.R_alloc | apply Kd.R_drewN | apply Kd.R_drew)); exact HO_5.out) hb); have n2_ := Aside0.mk (Kd.R_below (by (with_reducible repeat (first | apply Kd.R_alloc | apply Kd.R_drewN | apply Kd.R_drew)); exact HO_7.out) hb); have n3_ := Aside0.mk (below_step (by repeat (first | (with_reducible first | exact HB.out | apply below_alloc | apply pw_below_drewN | apply below_drew1) | exact HB.out)) hb); clear HO_4; clear HO_5; clear HO_7; clear HB; have HO_4 := n0_; have HO_5 := n1_; have HO_7 := n2_; have HB := n3_; clear n0_ n1_ n2_ n3_; (try clear hb); (try clear hb2); (try clear hk); (try clear hi); obtain ⟨Ao36, co36, eo36⟩ := Kd.R_slice HO_7.out; subst eo36))
                  go_ret
                  exact ⟨by first | rfl | (simp [errW_none, errW_some] <;> rfl) | (simp [*, errW_none, errW_some] <;> rfl), by repeat (first | (with_reducible first | exact HB.out | apply below_alloc | apply pw_below_drewN | apply below_drew1) | exact HB.out)⟩
                 ·rw [if_neg c34] at H
                  have c34b0 : decide ((t253.length : Int) ≤ x9_5) = false := decide_eq_false c34
                  clear c34
                  by_cases c37 : 0 ≤ x9_5
                  ·rw [if_pos c37] at H
                   have c37b0 : decide (0 ≤ x9_5) = true := decide_eq_true c37
                   clear c37
                   by_cases c38 : x9_5 < (t253.length : Int)
                   ·rw [if_pos c38] at H
                    have c38b0 : decide (x9_5 < (t253.length : Int)) = true := decide_eq_true c38
                    clear c38
                    by_cases c39 : (rd t253 x9_5) = x11_5
                    ·rw [if_pos c39] at H
                     have c39b0 : ((rd t253 x9_5) == x11_5) = true := beq_iff_eq.mpr c39
                     have c39b1 : ((rd t253 x9_5) != x11_5) = false := bne_eq_false_iff_eq.mpr c39
                     clear c39
                     have H' := Aside0.mk H
                     clear H
                     have p258 : 0 ≤ (x11_5 : Int) := of_decide_eq_true (by first | (with_reducible assumption) | assumption)
                     have q258 : x11_5 < (t241.length : Int) := of_decide_eq_true (by first | (with_reducible assumption) | assumption)
                     obtain ⟨ad258, e258, hx258_0⟩ := Kd.at_string (Kd.R_reads' HO_5.out).2.2 x11_5 p258 q258
                     cases e258
                     replace p258 := eq_true p258
                     replace q258 := eq_true q258
                     go_wp2_with (first | ((with_reducible refine gate_callee (f := 36) rfl ?_); refine goesL_ (some 65) rfl rfl Tryz.func36 (by kernel_rfl) rfl #[.slice Ao22 t236.length co22, .string x6_15, .string (rdOf ByteArray.empty t241 x11_5)] rfl (by (try simp only [List.map_toArray, List.map_cons, List.map_nil]); first | done | rfl | (simp only [List.length_drop, List.length_take]; rfl)) ?_; (with_reducible refine (wayzgooselaw03_uses.calls k5 _ _ t236 x6_15 (rdOf ByteArray.empty t241 x11_5) t259 true _ ?side1 ?side2 A31.out).mono ?_); (case side1 => repeat (first | exact (Kd.R_reads' HO_4.out).2.2 | (with_reducible refine Kd.C_alloc ?_ _) | (with_reducible refine Kd.C_drewN ?_ _) | (with_reducible refine Kd.C_drew ?_))); (case side2 => exact (Kd.R_reads' HO_4.out).2.1); rintro e w40 ⟨rfl, hb⟩; refine ⟨_, rfl, ?_⟩; have n0_ := Aside0.mk (Kd.R_below (by (with_reducible repeat (first | apply Kd.R_alloc | apply Kd.R_drewN | apply Kd.R_drew)); exact HO_4.out) hb); have n1_ := Aside0.mk (Kd.R_below (by (with_reducible repeat (first | apply Kd.R_alloc | apply Kd.R_drewN | apply Kd.R_drew)); exact HO_5.out) hb); have n2_ := Aside0.mk (Kd.R_below (by (with_reducible repeat (first | apply Kd.R_alloc | apply Kd.R_drewN | apply Kd.R_drew)); exact HO_7.out) hb); have n3_ := Aside0.mk (below_step (by repeat (first | (with_reducible first | exact HB.out | apply below_alloc | apply pw_below_drewN | apply below_drew1) | exact HB.out)) hb); clear HO_4; clear HO_5; clear HO_7; clear HB; have HO_4 := n0_; have HO_5 := n1_; have HO_7 := n2_; have HB := n3_; clear n0_ n1_ n2_ n3_; (try clear hb); (try clear hb2); (try clear hk); (try clear hi); obtain ⟨Ao41, co41, eo41⟩ := Kd.R_slice HO_7.out; subst eo41; have p261 : 0 ≤ (x9_5 : Int) := of_decide_eq_true (by first | (with_reducible assumption) | assumption); have q261 : x9_5 < (t253.length : Int) := of_decide_eq_true (by first | (with_reducible assumption) | assumption); obtain ⟨ad261, e261, hx261_0⟩ := Kd.at_int (Kd.R_reads' HO_7.out).2.2 x9_5 p261 q261; cases e261; replace p261 := eq_true p261; replace q261 := eq_true q261))
                     go_roundg k5
                     case measure => have := HJ5.out; have := HJ15.out; have := HJ20.out; have := HK4.out; have := HK5.out; omega
                     case rel => exact ⟨(wrap64 (x9_5 + 1)), (wrap64 (x11_5 + 1)), (by first | rfl | (simp; done) | (simp [*]; done)), (by first | rfl | (simp; done) | (simp [*]; done)), H', ⟨by have := HJ5.out; have := HJ15.out; have := HJ20.out; have := HK4.out; have := HK5.out; omega⟩, ⟨by (with_reducible repeat (first | apply Kd.R_alloc | apply Kd.R_drewN | apply Kd.R_drew)); exact HO_4.out⟩, ⟨by (with_reducible repeat (first | apply Kd.R_alloc | apply Kd.R_drewN | apply Kd.R_drew)); exact HO_5.out⟩, ⟨by (with_reducible repeat (first | apply Kd.R_alloc | apply Kd.R_drewN | apply Kd.R_drew)); exact HO_7.out⟩, ⟨by repeat (first | (with_reducible first | exact HB.out | apply below_alloc | apply pw_below_drewN | apply below_drew1) | exact HB.out)⟩⟩
                    ·rw [if_neg c39] at H
                     have c39b0 : ((rd t253 x9_5) == x11_5) = false := beq_eq_false_iff_ne.mpr c39
                     have c39b1 : ((rd t253 x9_5) != x11_5) = true := bne_iff_ne.mpr c39
                     obtain rfl := Option.some.inj H
                     have p258 : 0 ≤ (x11_5 : Int) := of_decide_eq_true (by first | (with_reducible assumption) | assumption)
                     have q258 : x11_5 < (t241.length : Int) := of_decide_eq_true (by first | (with_reducible assumption) | assumption)
                     obtain ⟨ad258, e258, hx258_0⟩ := Kd.at_string (Kd.R_reads' HO_5.out).2.2 x11_5 p258 q258
                     cases e258
                     replace p258 := eq_true p258
                     replace q258 := eq_true q258
                     go_wp2_with (first | ((with_reducible refine gate_callee (f := 36) rfl ?_); refine goesL_ (some 65) rfl rfl Tryz.func36 (by kernel_rfl) rfl #[.slice Ao22 t236.length co22, .string x6_15, .string (rdOf ByteArray.empty t241 x11_5)] rfl (by (try simp only [List.map_toArray, List.map_cons, List.map_nil]); first | done | rfl | (simp only [List.length_drop, List.length_take]; rfl)) ?_; (with_reducible refine (wayzgooselaw03_uses.calls k5 _ _ t236 x6_15 (rdOf ByteArray.empty t241 x11_5) t259 true _ ?side1 ?side2 A31.out).mono ?_); (case side1 => repeat (first | exact (Kd.R_reads' HO_4.out).2.2 | (with_reducible refine Kd.C_alloc ?_ _) | (with_reducible refine Kd.C_drewN ?_ _) | (with_reducible refine Kd.C_drew ?_))); (case side2 => exact (Kd.R_reads' HO_4.out).2.1); rintro e w42 ⟨rfl, hb⟩; refine ⟨_, rfl, ?_⟩; have n0_ := Aside0.mk (Kd.R_below (by (with_reducible repeat (first | apply Kd.R_alloc | apply Kd.R_drewN | apply Kd.R_drew)); exact HO_4.out) hb); have n1_ := Aside0.mk (Kd.R_below (by (with_reducible repeat (first | apply Kd.R_alloc | apply Kd.R_drewN | apply Kd.R_drew)); exact HO_5.out) hb); have n2_ := Aside0.mk (Kd.R_below (by (with_reducible repeat (first | apply Kd.R_alloc | apply Kd.R_drewN | apply Kd.R_drew)); exact HO_7.out) hb); have n3_ := Aside0.mk (below_step (by repeat (first | (with_reducible first | exact HB.out | apply below_alloc | apply pw_below_drewN | apply below_drew1) | exact HB.out)) hb); clear HO_4; clear HO_5; clear HO_7; clear HB; have HO_4 := n0_; have HO_5 := n1_; have HO_7 := n2_; have HB := n3_; clear n0_ n1_ n2_ n3_; (try clear hb); (try clear hb2); (try clear hk); (try clear hi); obtain ⟨Ao43, co43, eo43⟩ := Kd.R_slice HO_7.out; subst eo43; have p261 : 0 ≤ (x9_5 : Int) := of_decide_eq_true (by first | (with_reducible assumption) | assumption); have q261 : x9_5 < (t253.length : Int) := of_decide_eq_true (by first | (with_reducible assumption) | assumption); obtain ⟨ad261, e261, hx261_0⟩ := Kd.at_int (Kd.R_reads' HO_7.out).2.2 x9_5 p261 q261; cases e261; replace p261 := eq_true p261; replace q261 := eq_true q261))
                     go_ret
                     exact ⟨by first | rfl | (simp [errW_none, errW_some] <;> rfl) | (simp [*, errW_none, errW_some] <;> rfl), by repeat (first | (with_reducible first | exact HB.out | apply below_alloc | apply pw_below_drewN | apply below_drew1) | exact HB.out)⟩
                   ·rw [if_neg c38] at H
                    exact absurd H (by simp)
                  ·rw [if_neg c37] at H
                   exact absurd H (by simp)
                ·rw [if_neg c33] at H
                 have c33b0 : (t259 == x10_4) = false := beq_eq_false_iff_ne.mpr c33
                 have c33b1 : (t259 != x10_4) = true := bne_iff_ne.mpr c33
                 have H' := Aside0.mk H
                 clear H
                 have p258 : 0 ≤ (x11_5 : Int) := of_decide_eq_true (by first | (with_reducible assumption) | assumption)
                 have q258 : x11_5 < (t241.length : Int) := of_decide_eq_true (by first | (with_reducible assumption) | assumption)
                 obtain ⟨ad258, e258, hx258_0⟩ := Kd.at_string (Kd.R_reads' HO_5.out).2.2 x11_5 p258 q258
                 cases e258
                 replace p258 := eq_true p258
                 replace q258 := eq_true q258
                 go_wp2_with (first | ((with_reducible refine gate_callee (f := 36) rfl ?_); refine goesL_ (some 65) rfl rfl Tryz.func36 (by kernel_rfl) rfl #[.slice Ao22 t236.length co22, .string x6_15, .string (rdOf ByteArray.empty t241 x11_5)] rfl (by (try simp only [List.map_toArray, List.map_cons, List.map_nil]); first | done | rfl | (simp only [List.length_drop, List.length_take]; rfl)) ?_; (with_reducible refine (wayzgooselaw03_uses.calls k5 _ _ t236 x6_15 (rdOf ByteArray.empty t241 x11_5) t259 true _ ?side1 ?side2 A31.out).mono ?_); (case side1 => repeat (first | exact (Kd.R_reads' HO_4.out).2.2 | (with_reducible refine Kd.C_alloc ?_ _) | (with_reducible refine Kd.C_drewN ?_ _) | (with_reducible refine Kd.C_drew ?_))); (case side2 => exact (Kd.R_reads' HO_4.out).2.1); rintro e w44 ⟨rfl, hb⟩; refine ⟨_, rfl, ?_⟩; have n0_ := Aside0.mk (Kd.R_below (by (with_reducible repeat (first | apply Kd.R_alloc | apply Kd.R_drewN | apply Kd.R_drew)); exact HO_4.out) hb); have n1_ := Aside0.mk (Kd.R_below (by (with_reducible repeat (first | apply Kd.R_alloc | apply Kd.R_drewN | apply Kd.R_drew)); exact HO_5.out) hb); have n2_ := Aside0.mk (Kd.R_below (by (with_reducible repeat (first | apply Kd.R_alloc | apply Kd.R_drewN | apply Kd.R_drew)); exact HO_7.out) hb); have n3_ := Aside0.mk (below_step (by repeat (first | (with_reducible first | exact HB.out | apply below_alloc | apply pw_below_drewN | apply below_drew1) | exact HB.out)) hb); clear HO_4; clear HO_5; clear HO_7; clear HB; have HO_4 := n0_; have HO_5 := n1_; have HO_7 := n2_; have HB := n3_; clear n0_ n1_ n2_ n3_; (try clear hb); (try clear hb2); (try clear hk); (try clear hi)))
                 go_roundg k5
                 case measure => have := HJ5.out; have := HJ15.out; have := HJ20.out; have := HK4.out; have := HK5.out; omega
                 case rel => exact ⟨(x9_5), (wrap64 (x11_5 + 1)), (by first | rfl | (simp; done) | (simp [*]; done)), (by first | rfl | (simp; done) | (simp [*]; done)), H', ⟨by have := HJ5.out; have := HJ15.out; have := HJ20.out; have := HK4.out; have := HK5.out; omega⟩, ⟨by (with_reducible repeat (first | apply Kd.R_alloc | apply Kd.R_drewN | apply Kd.R_drew)); exact HO_4.out⟩, ⟨by (with_reducible repeat (first | apply Kd.R_alloc | apply Kd.R_drewN | apply Kd.R_drew)); exact HO_5.out⟩, ⟨by (with_reducible repeat (first | apply Kd.R_alloc | apply Kd.R_drewN | apply Kd.R_drew)); exact HO_7.out⟩, ⟨by repeat (first | (with_reducible first | exact HB.out | apply below_alloc | apply pw_below_drewN | apply below_drew1) | exact HB.out)⟩⟩
               ·replace c32 := Bool.eq_false_iff.mpr c32
                subst c32
                have H1 : (some false) = some r := by rw [if_neg (show ¬ (false = true) by decide)] at H; exact H
                clear H
                have H := H1
                clear H1
                obtain rfl := Option.some.inj H
                have p258 : 0 ≤ (x11_5 : Int) := of_decide_eq_true (by first | (with_reducible assumption) | assumption)
                have q258 : x11_5 < (t241.length : Int) := of_decide_eq_true (by first | (with_reducible assumption) | assumption)
                obtain ⟨ad258, e258, hx258_0⟩ := Kd.at_string (Kd.R_reads' HO_5.out).2.2 x11_5 p258 q258
                cases e258
                replace p258 := eq_true p258
                replace q258 := eq_true q258
                go_wp2_with (first | ((with_reducible refine gate_callee (f := 36) rfl ?_); refine goesL_ (some 65) rfl rfl Tryz.func36 (by kernel_rfl) rfl #[.slice Ao22 t236.length co22, .string x6_15, .string (rdOf ByteArray.empty t241 x11_5)] rfl (by (try simp only [List.map_toArray, List.map_cons, List.map_nil]); first | done | rfl | (simp only [List.length_drop, List.length_take]; rfl)) ?_; (with_reducible refine (wayzgooselaw03_uses.calls k5 _ _ t236 x6_15 (rdOf ByteArray.empty t241 x11_5) t259 false _ ?side1 ?side2 A31.out).mono ?_); (case side1 => repeat (first | exact (Kd.R_reads' HO_4.out).2.2 | (with_reducible refine Kd.C_alloc ?_ _) | (with_reducible refine Kd.C_drewN ?_ _) | (with_reducible refine Kd.C_drew ?_))); (case side2 => exact (Kd.R_reads' HO_4.out).2.1); rintro e w45 ⟨rfl, hb⟩; refine ⟨_, rfl, ?_⟩; have n0_ := Aside0.mk (Kd.R_below (by (with_reducible repeat (first | apply Kd.R_alloc | apply Kd.R_drewN | apply Kd.R_drew)); exact HO_4.out) hb); have n1_ := Aside0.mk (Kd.R_below (by (with_reducible repeat (first | apply Kd.R_alloc | apply Kd.R_drewN | apply Kd.R_drew)); exact HO_5.out) hb); have n2_ := Aside0.mk (Kd.R_below (by (with_reducible repeat (first | apply Kd.R_alloc | apply Kd.R_drewN | apply Kd.R_drew)); exact HO_7.out) hb); have n3_ := Aside0.mk (below_step (by repeat (first | (with_reducible first | exact HB.out | apply below_alloc | apply pw_below_drewN | apply below_drew1) | exact HB.out)) hb); clear HO_4; clear HO_5; clear HO_7; clear HB; have HO_4 := n0_; have HO_5 := n1_; have HO_7 := n2_; have HB := n3_; clear n0_ n1_ n2_ n3_; (try clear hb); (try clear hb2); (try clear hk); (try clear hi)))
                go_ret
                exact ⟨by first | rfl | (simp [errW_none, errW_some] <;> rfl) | (simp [*, errW_none, errW_some] <;> rfl), by repeat (first | (with_reducible first | exact HB.out | apply below_alloc | apply pw_below_drewN | apply below_drew1) | exact HB.out)⟩
              ·rw [if_neg c30] at H
               exact absurd H (by simp)
             ·rw [if_neg c29] at H
              have c29b0 : decide (x11_5 < (t241.length : Int)) = false := decide_eq_false c29
              clear c29
              have H' := Aside0.mk H
              clear H
              go_wp2
              go_roundg k5
              case measure => have := HJ5.out; have := HJ15.out; have := HJ20.out; have := HK4.out; have := HK5.out; omega
              case rel => exact ⟨(x9_5), (wrap64 (x10_4 + 1)), (by first | rfl | (simp; done) | (simp [*]; done)), (by first | rfl | (simp; done) | (simp [*]; done)), H', ⟨by have := HJ5.out; have := HJ15.out; have := HJ20.out; have := HK4.out; have := HK5.out; omega⟩, ⟨by (with_reducible repeat (first | apply Kd.R_alloc | apply Kd.R_drewN | apply Kd.R_drew)); exact HO_4.out⟩, ⟨by (with_reducible repeat (first | apply Kd.R_alloc | apply Kd.R_drewN | apply Kd.R_drew)); exact HO_5.out⟩, ⟨by (with_reducible repeat (first | apply Kd.R_alloc | apply Kd.R_drewN | apply Kd.R_drew)); exact HO_7.out⟩, ⟨by repeat (first | (with_reducible first | exact HB.out | apply below_alloc | apply pw_below_drewN | apply below_drew1) | exact HB.out)⟩⟩
          ·rw [if_neg c28] at H
           have c28b0 : decide (x10_4 ≤ 2) = false := decide_eq_false c28
           clear c28
           by_cases c46 : x9_4 = (t253.length : Int)
           ·rw [if_pos c46] at H
            have c46b0 : (x9_4 == (t253.length : Int)) = true := beq_iff_eq.mpr c46
            have c46b1 : (x9_4 != (t253.length : Int)) = false := bne_eq_false_iff_eq.mpr c46
            clear c46
            replace H := Option.bind_eq_some_iff.mp H
            obtain ⟨t257, A470, H⟩ := H
            replace H : (some t257) = some r := H
            have A47 := Aside0.mk A470
            clear A470
            obtain rfl := Option.some.inj H
            obtain ⟨Ao48, co48, eo48⟩ := Kd.R_slice HO_7.out
            subst eo48
            go_wp2_with (first | (go_at_call 22; (with_reducible refine (wayzgooselaw03_spelling.calls  t257 _ A47.out).mono ?_); rintro e w49 ⟨rfl, hb⟩; have n0_ := Aside0.mk (Kd.R_below (by (with_reducible repeat (first | apply Kd.R_alloc | apply Kd.R_drewN | apply Kd.R_drew)); exact HO_4.out) hb); have n1_ := Aside0.mk (Kd.R_below (by (with_reducible repeat (first | apply Kd.R_alloc | apply Kd.R_drewN | apply Kd.R_drew)); exact HO_5.out) hb); have n2_ := Aside0.mk (Kd.R_below (by (with_reducible repeat (first | apply Kd.R_alloc | apply Kd.R_drewN | apply Kd.R_drew)); exact HO_7.out) hb); have n3_ := Aside0.mk (below_step (by repeat (first | (with_reducible first | exact HB.out | apply below_alloc | apply pw_below_drewN | apply below_drew1) | exact HB.out)) hb); clear HO_4; clear HO_5; clear HO_7; clear HB; have HO_4 := n0_; have HO_5 := n1_; have HO_7 := n2_; have HB := n3_; clear n0_ n1_ n2_ n3_; (try clear hb); (try clear hb2); (try clear hk); (try clear hi)))
            go_ret
            exact ⟨by first | rfl | (simp [errW_none, errW_some] <;> rfl) | (simp [*, errW_none, errW_some] <;> rfl), by repeat (first | (with_reducible first | exact HB.out | apply below_alloc | apply pw_below_drewN | apply below_drew1) | exact HB.out)⟩
           ·rw [if_neg c46] at H
            have c46b0 : (x9_4 == (t253.length : Int)) = false := beq_eq_false_iff_ne.mpr c46
            have c46b1 : (x9_4 != (t253.length : Int)) = true := bne_iff_ne.mpr c46
            obtain rfl := Option.some.inj H
            obtain ⟨Ao50, co50, eo50⟩ := Kd.R_slice HO_7.out
            subst eo50
            go_wp2
            go_ret
            exact ⟨by first | rfl | (simp [errW_none, errW_some] <;> rfl) | (simp [*, errW_none, errW_some] <;> rfl), by repeat (first | (with_reducible first | exact HB.out | apply below_alloc | apply pw_below_drewN | apply below_drew1) | exact HB.out)⟩

/-- THE ONE PURE STATEMENT of wayzgooselaw03_NameNear: yours. -/
def wayzgooselaw03_NameNear.Pure : Prop := ∀ (l0 : List Int), l0.length ≤ maxLen → l0.length * 8 ≤ 140737488351232 → (∀ x ∈ l0, (Lit.int .i64 x).wf = true) → ∃ k, wayzgooselaw03_NameNear.f k l0 = some true
theorem wayzgooselaw03_NameNear.walk (P : wayzgooselaw03_NameNear.Pure) (a0 : Option Addr) (len0 cap0 : Nat) (z0 : List Int) (w : World) (w0 : (a0 = none ∧ len0 = 0 ∧ cap0 = 0 ∧ z0 = []) ∨ ∃ x, a0 = some x ∧ len0 ≤ cap0 ∧ cap0 ≤ maxLen ∧ z0.length = cap0 ∧ (∀ i, i < z0.length → w.cell? (x.add i) = some (.int .i64 (z0.getD i 0))) ∧ ∀ n ∈ z0, (Lit.int .i64 n).wf = true) (y0 : len0 * 8 ≤ 140737488351232) :
  Calls Tryz.prog 10 #[.slice a0 len0 cap0] w fun e w' => e = .returned (.bool true) ∧ Below w.heap.size w w' := by
 obtain ⟨l0, rfl, hr0, hm0, hw0, hc0⟩ := ReadsInt.ofRowC w0
 obtain ⟨k, h⟩ := P l0 hm0 y0 hw0
 refine (wayzgooselaw03_NameNear.calls k _ _ l0 true w (Kd.C_of_reads (d := (0 : Int)) (h1 := fun _ => rfl) hr0) hc0 h).mono ?_
 rintro e w' ⟨rfl, hd⟩
 exact ⟨rfl, hd⟩

end Go.Proofs.YtapikimhmjnjeaaGreatDoor.Pr
