-- PRINTED by print.py (a twelfth state) out of the translation. Not trusted: Lean checks it.
import Derived.Test.YtapikimhmjnjeaaGreatDoorPr0
import Derived.Test.YtapikimhmjnjeaaGreatDoorPrExtSpell
import Derived.Test.YtapikimhmjnjeaaGreatDoorPr2
import Derived.Test.YtapikimhmjnjeaaGreatDoorPr3
import Derived.Test.YtapikimhmjnjeaaGreatDoorPr4
import Derived.Test.YtapikimhmjnjeaaGreatDoorPr5
import Derived.Test.YtapikimhmjnjeaaGreatDoorPr7
namespace Go.Proofs.YtapikimhmjnjeaaGreatDoor.Pr
open Go.RowKit Go.Proofs.YtapikimhmjnjeaaGreatDoorW.PrintWords Go.Proofs.YtapikimhmjnjeaaGreatDoorW.PrintLast Go.Proofs.YtapikimhmjnjeaaGreatDoorW.PrintMore
attribute [local go_sem] max2_int min2_int max_two min_two max_three min_three max_four min_four   -- for this text's walks alone
set_option linter.unusedVariables false
set_option linter.unusedSimpArgs false

/-! ### wayzgooselaw03_NameSteps: function 6 -/
mutual
def wayzgooselaw03_NameSteps.l0 : Nat → List (S83) → List ByteArray → Int → Option (Bool)
 | 0, _, _, _ => none
 | k + 1, x4, x5, x6 => if x6 < (x5.length : Int) then (wayzgooselaw03_NameSteps.l1 k x4 x5 x6 0) else ((wayzgooselaw03_spelling.f).bind fun t345 => (some t345))
def wayzgooselaw03_NameSteps.l1 : Nat → List (S83) → List ByteArray → Int → Int → Option (Bool)
 | 0, _, _, _, _ => none
 | k + 1, x4, x5, x6, x7 => if x7 < (x5.length : Int) then (if 0 ≤ x6 then (if x6 < (x5.length : Int) then (if 0 ≤ x7 then ((wayzgooselaw03_uses.f k x4 (rdOf ByteArray.empty x5 x6) (rdOf ByteArray.empty x5 x7)).bind fun bt348 => ((name_Chain.f k x4 (rdOf ByteArray.empty x5 x6) (rdOf ByteArray.empty x5 x7)).bind fun bt352 => ((name_Verdict.f k x4 (rdOf ByteArray.empty x5 x6) (rdOf ByteArray.empty x5 x7)).bind fun bt358 => (if bt348.2 = true then (wayzgooselaw03_NameSteps.j2 k x4 x5 x6 x7 bt348.1 bt352.1 bt352.2 bt358.1 (bt358.2 != 0)) else (wayzgooselaw03_NameSteps.j2 k x4 x5 x6 x7 bt348.1 bt352.1 bt352.2 bt358.1 true))))) else (none)) else (none)) else (none)) else (wayzgooselaw03_NameSteps.l0 k x4 x5 (wrap64 (x6 + 1)))
def wayzgooselaw03_NameSteps.j2 : Nat → List (S83) → List ByteArray → Int → Int → Int → List ByteArray → Int → Int → Bool → Option (Bool)
 | 0, _, _, _, _, _, _, _, _, _ => none
 | k + 1, x4, x5, x6, x7, x8, x10, x11, x12, x88 => if x88 = true then (some false) else (if x8 > 2 then (if x11 = 11 then (if (x10.length : Int) > 0 then (some false) else (if x12 = 2 then (wayzgooselaw03_NameSteps.l1 k x4 x5 x6 (wrap64 (x7 + 1))) else (some false))) else (some false)) else (if 0 ≤ x6 then (if x6 < (x5.length : Int) then ((name_Key.f (rdOf ByteArray.empty x5 x6)).bind fun bt361 => (if 0 ≤ x7 then (if x7 < (x5.length : Int) then ((name_Key.f (rdOf ByteArray.empty x5 x7)).bind fun bt364 => (if x11 = 0 then (if bt361.2 = 0 then (if bt364.2 = 0 then (if (x10.length : Int) = (wrap64 (x8 + 1)) then (if 0 < (x10.length : Int) then (if (rdOf ByteArray.empty x10 0).toList = bt361.1.toList then (if 0 ≤ x8 then (if x8 < (x10.length : Int) then (if (rdOf ByteArray.empty x10 x8).toList = bt364.1.toList then (if ((x12 == 1) != (x8 == 0)) = true then (wayzgooselaw03_NameSteps.j3 k x4 x5 x6 x7 x8 x10 true) else (wayzgooselaw03_NameSteps.j3 k x4 x5 x6 x7 x8 x10 (x12 == 2))) else (wayzgooselaw03_NameSteps.j3 k x4 x5 x6 x7 x8 x10 true)) else (none)) else (none)) else (wayzgooselaw03_NameSteps.j3 k x4 x5 x6 x7 x8 x10 true)) else (none)) else (wayzgooselaw03_NameSteps.j3 k x4 x5 x6 x7 x8 x10 true)) else (wayzgooselaw03_NameSteps.j3 k x4 x5 x6 x7 x8 x10 true)) else (wayzgooselaw03_NameSteps.j3 k x4 x5 x6 x7 x8 x10 true)) else (wayzgooselaw03_NameSteps.j3 k x4 x5 x6 x7 x8 x10 true))) else (none)) else (none))) else (none)) else (none)))
def wayzgooselaw03_NameSteps.j3 : Nat → List (S83) → List ByteArray → Int → Int → Int → List ByteArray → Bool → Option (Bool)
 | 0, _, _, _, _, _, _, _ => none
 | k + 1, x4, x5, x6, x7, x8, x10, x160 => if x160 = true then (some false) else (wayzgooselaw03_NameSteps.l2 k x4 x5 x6 x7 x8 x10 1)
def wayzgooselaw03_NameSteps.l2 : Nat → List (S83) → List ByteArray → Int → Int → Int → List ByteArray → Int → Option (Bool)
 | 0, _, _, _, _, _, _, _ => none
 | k + 1, x4, x5, x6, x7, x8, x10, x18 => if x18 ≤ x8 then (if 0 ≤ (wrap64 (x18 - 1)) then (if (wrap64 (x18 - 1)) < (x10.length : Int) then (if ((rdOf ByteArray.empty x10 (wrap64 (x18 - 1))).size : Int) > 12 then (some false) else ((wayzgooseref03_Made.f k x4 (rdOf ByteArray.empty x10 (wrap64 (x18 - 1)))).bind fun t370 => (wayzgooselaw03_NameSteps.l3 k x4 x5 x6 x7 x8 x10 x18 t370 false 0))) else (none)) else (none)) else (wayzgooselaw03_NameSteps.l1 k x4 x5 x6 (wrap64 (x7 + 1)))
def wayzgooselaw03_NameSteps.l3 : Nat → List (S83) → List ByteArray → Int → Int → Int → List ByteArray → Int → List ByteArray → Bool → Int → Option (Bool)
 | 0, _, _, _, _, _, _, _, _, _, _ => none
 | k + 1, x4, x5, x6, x7, x8, x10, x18, x19, x20, x21 => if x21 < (x19.length : Int) then (if x20 = true then (wayzgooselaw03_NameSteps.l3 k x4 x5 x6 x7 x8 x10 x18 x19 true (wrap64 (x21 + 1))) else (if 0 ≤ x21 then (if 0 ≤ x18 then (if x18 < (x10.length : Int) then (wayzgooselaw03_NameSteps.l3 k x4 x5 x6 x7 x8 x10 x18 x19 ((rdOf ByteArray.empty x19 x21).toList == (rdOf ByteArray.empty x10 x18).toList) (wrap64 (x21 + 1))) else (none)) else (none)) else (none))) else (if x20 = true then (wayzgooselaw03_NameSteps.l2 k x4 x5 x6 x7 x8 x10 (wrap64 (x18 + 1))) else (some false))
end
def wayzgooselaw03_NameSteps.f (k : Nat) (l0 : List Int) : Option (Bool) := (wayzgoosekit_NewDice.f l0).bind fun bt325 => ((wayzgoosekit_RulesOf.f k bt325.1 bt325.2.1 bt325.2.2 3).bind fun bt329 => ((wayzgoosekit_NamesOf.f k bt325.1 bt329.2.1 bt329.2.2 3 3).bind fun bt334 => ((wayzgoosekit_NameOf.f k bt325.1 bt334.2.1 bt334.2.2 3).bind fun bt339 => (if bt334.1.length < 8796093022208 then (wayzgooselaw03_NameSteps.l0 k bt329.1 (bt334.1 ++ [bt339.1]) 0) else (none)))))
theorem wayzgooselaw03_NameSteps.mono_l : ∀ k, (∀ y0 y1 y2, LeO (wayzgooselaw03_NameSteps.l0 k y0 y1 y2) (wayzgooselaw03_NameSteps.l0 (k + 1) y0 y1 y2)) ∧ (∀ y0 y1 y2 y3, LeO (wayzgooselaw03_NameSteps.l1 k y0 y1 y2 y3) (wayzgooselaw03_NameSteps.l1 (k + 1) y0 y1 y2 y3)) ∧ (∀ y0 y1 y2 y3 y4 y5 y6 y7 y8, LeO (wayzgooselaw03_NameSteps.j2 k y0 y1 y2 y3 y4 y5 y6 y7 y8) (wayzgooselaw03_NameSteps.j2 (k + 1) y0 y1 y2 y3 y4 y5 y6 y7 y8)) ∧ (∀ y0 y1 y2 y3 y4 y5 y6, LeO (wayzgooselaw03_NameSteps.j3 k y0 y1 y2 y3 y4 y5 y6) (wayzgooselaw03_NameSteps.j3 (k + 1) y0 y1 y2 y3 y4 y5 y6)) ∧ (∀ y0 y1 y2 y3 y4 y5 y6, LeO (wayzgooselaw03_NameSteps.l2 k y0 y1 y2 y3 y4 y5 y6) (wayzgooselaw03_NameSteps.l2 (k + 1) y0 y1 y2 y3 y4 y5 y6)) ∧ (∀ y0 y1 y2 y3 y4 y5 y6 y7 y8 y9, LeO (wayzgooselaw03_NameSteps.l3 k y0 y1 y2 y3 y4 y5 y6 y7 y8 y9) (wayzgooselaw03_NameSteps.l3 (k + 1) y0 y1 y2 y3 y4 y5 y6 y7 y8 y9))
 | 0 => ⟨fun _ _ _ r h => by simp [wayzgooselaw03_NameSteps.l0] at h, fun _ _ _ _ r h => by simp [wayzgooselaw03_NameSteps.l1] at h, fun _ _ _ _ _ _ _ _ _ r h => by simp [wayzgooselaw03_NameSteps.j2] at h, fun _ _ _ _ _ _ _ r h => by simp [wayzgooselaw03_NameSteps.j3] at h, fun _ _ _ _ _ _ _ r h => by simp [wayzgooselaw03_NameSteps.l2] at h, fun _ _ _ _ _ _ _ _ _ _ r h => by simp [wayzgooselaw03_NameSteps.l3] at h⟩
 | k + 1 => by
  obtain ⟨ih0, ih1, ih2, ih3, ih4, ih5⟩ := wayzgooselaw03_NameSteps.mono_l k
  refine ⟨?_, ?_, ?_, ?_, ?_, ?_⟩
  ·intro y0 y1 y2
   unfold wayzgooselaw03_NameSteps.l0
   repeat' first
   | (with_reducible exact ih0 _ _ _)
   | (with_reducible exact ih1 _ _ _ _)
   | (with_reducible exact ih2 _ _ _ _ _ _ _ _ _)
   | (with_reducible exact ih3 _ _ _ _ _ _ _)
   | (with_reducible exact ih4 _ _ _ _ _ _ _)
   | (with_reducible exact ih5 _ _ _ _ _ _ _ _ _ _)
   | (with_reducible exact name_Chain.mono _ _ _ _)
   | (with_reducible exact name_Verdict.mono _ _ _ _)
   | (with_reducible exact wayzgoosekit_NameOf.mono _ _ _ _ _)
   | (with_reducible exact wayzgoosekit_NamesOf.mono _ _ _ _ _ _)
   | (with_reducible exact wayzgoosekit_RulesOf.mono _ _ _ _ _)
   | (with_reducible exact wayzgooselaw03_uses.mono _ _ _ _)
   | (with_reducible exact wayzgooseref03_Made.mono _ _ _)
   | (with_reducible exact LeO.refl _)
   | (with_reducible exact LeO.none _)
   | (with_reducible refine LeO.ite ?_ ?_)
   | (with_reducible refine LeO.bind ?_ (fun _ => ?_))
   | exact ih0 _ _ _
   | exact ih1 _ _ _ _
   | exact ih2 _ _ _ _ _ _ _ _ _
   | exact ih3 _ _ _ _ _ _ _
   | exact ih4 _ _ _ _ _ _ _
   | exact ih5 _ _ _ _ _ _ _ _ _ _
   | exact name_Chain.mono _ _ _ _
   | exact name_Verdict.mono _ _ _ _
   | exact wayzgoosekit_NameOf.mono _ _ _ _ _
   | exact wayzgoosekit_NamesOf.mono _ _ _ _ _ _
   | exact wayzgoosekit_RulesOf.mono _ _ _ _ _
   | exact wayzgooselaw03_uses.mono _ _ _ _
   | exact wayzgooseref03_Made.mono _ _ _
   | exact LeO.none _
   | refine LeO.ite ?_ ?_
   | refine LeO.bind ?_ (fun _ => ?_)
  ·intro y0 y1 y2 y3
   unfold wayzgooselaw03_NameSteps.l1
   repeat' first
   | (with_reducible exact ih0 _ _ _)
   | (with_reducible exact ih1 _ _ _ _)
   | (with_reducible exact ih2 _ _ _ _ _ _ _ _ _)
   | (with_reducible exact ih3 _ _ _ _ _ _ _)
   | (with_reducible exact ih4 _ _ _ _ _ _ _)
   | (with_reducible exact ih5 _ _ _ _ _ _ _ _ _ _)
   | (with_reducible exact name_Chain.mono _ _ _ _)
   | (with_reducible exact name_Verdict.mono _ _ _ _)
   | (with_reducible exact wayzgoosekit_NameOf.mono _ _ _ _ _)
   | (with_reducible exact wayzgoosekit_NamesOf.mono _ _ _ _ _ _)
   | (with_reducible exact wayzgoosekit_RulesOf.mono _ _ _ _ _)
   | (with_reducible exact wayzgooselaw03_uses.mono _ _ _ _)
   | (with_reducible exact wayzgooseref03_Made.mono _ _ _)
   | (with_reducible exact LeO.refl _)
   | (with_reducible exact LeO.none _)
   | (with_reducible refine LeO.ite ?_ ?_)
   | (with_reducible refine LeO.bind ?_ (fun _ => ?_))
   | exact ih0 _ _ _
   | exact ih1 _ _ _ _
   | exact ih2 _ _ _ _ _ _ _ _ _
   | exact ih3 _ _ _ _ _ _ _
   | exact ih4 _ _ _ _ _ _ _
   | exact ih5 _ _ _ _ _ _ _ _ _ _
   | exact name_Chain.mono _ _ _ _
   | exact name_Verdict.mono _ _ _ _
   | exact wayzgoosekit_NameOf.mono _ _ _ _ _
   | exact wayzgoosekit_NamesOf.mono _ _ _ _ _ _
   | exact wayzgoosekit_RulesOf.mono _ _ _ _ _
   | exact wayzgooselaw03_uses.mono _ _ _ _
   | exact wayzgooseref03_Made.mono _ _ _
   | exact LeO.none _
   | refine LeO.ite ?_ ?_
   | refine LeO.bind ?_ (fun _ => ?_)
  ·intro y0 y1 y2 y3 y4 y5 y6 y7 y8
   unfold wayzgooselaw03_NameSteps.j2
   repeat' first
   | (with_reducible exact ih0 _ _ _)
   | (with_reducible exact ih1 _ _ _ _)
   | (with_reducible exact ih2 _ _ _ _ _ _ _ _ _)
   | (with_reducible exact ih3 _ _ _ _ _ _ _)
   | (with_reducible exact ih4 _ _ _ _ _ _ _)
   | (with_reducible exact ih5 _ _ _ _ _ _ _ _ _ _)
   | (with_reducible exact name_Chain.mono _ _ _ _)
   | (with_reducible exact name_Verdict.mono _ _ _ _)
   | (with_reducible exact wayzgoosekit_NameOf.mono _ _ _ _ _)
   | (with_reducible exact wayzgoosekit_NamesOf.mono _ _ _ _ _ _)
   | (with_reducible exact wayzgoosekit_RulesOf.mono _ _ _ _ _)
   | (with_reducible exact wayzgooselaw03_uses.mono _ _ _ _)
   | (with_reducible exact wayzgooseref03_Made.mono _ _ _)
   | (with_reducible exact LeO.refl _)
   | (with_reducible exact LeO.none _)
   | (with_reducible refine LeO.ite ?_ ?_)
   | (with_reducible refine LeO.bind ?_ (fun _ => ?_))
   | exact ih0 _ _ _
   | exact ih1 _ _ _ _
   | exact ih2 _ _ _ _ _ _ _ _ _
   | exact ih3 _ _ _ _ _ _ _
   | exact ih4 _ _ _ _ _ _ _
   | exact ih5 _ _ _ _ _ _ _ _ _ _
   | exact name_Chain.mono _ _ _ _
   | exact name_Verdict.mono _ _ _ _
   | exact wayzgoosekit_NameOf.mono _ _ _ _ _
   | exact wayzgoosekit_NamesOf.mono _ _ _ _ _ _
   | exact wayzgoosekit_RulesOf.mono _ _ _ _ _
   | exact wayzgooselaw03_uses.mono _ _ _ _
   | exact wayzgooseref03_Made.mono _ _ _
   | exact LeO.none _
   | refine LeO.ite ?_ ?_
   | refine LeO.bind ?_ (fun _ => ?_)
  ·intro y0 y1 y2 y3 y4 y5 y6
   unfold wayzgooselaw03_NameSteps.j3
   repeat' first
   | (with_reducible exact ih0 _ _ _)
   | (with_reducible exact ih1 _ _ _ _)
   | (with_reducible exact ih2 _ _ _ _ _ _ _ _ _)
   | (with_reducible exact ih3 _ _ _ _ _ _ _)
   | (with_reducible exact ih4 _ _ _ _ _ _ _)
   | (with_reducible exact ih5 _ _ _ _ _ _ _ _ _ _)
   | (with_reducible exact name_Chain.mono _ _ _ _)
   | (with_reducible exact name_Verdict.mono _ _ _ _)
   | (with_reducible exact wayzgoosekit_NameOf.mono _ _ _ _ _)
   | (with_reducible exact wayzgoosekit_NamesOf.mono _ _ _ _ _ _)
   | (with_reducible exact wayzgoosekit_RulesOf.mono _ _ _ _ _)
   | (with_reducible exact wayzgooselaw03_uses.mono _ _ _ _)
   | (with_reducible exact wayzgooseref03_Made.mono _ _ _)
   | (with_reducible exact LeO.refl _)
   | (with_reducible exact LeO.none _)
   | (with_reducible refine LeO.ite ?_ ?_)
   | (with_reducible refine LeO.bind ?_ (fun _ => ?_))
   | exact ih0 _ _ _
   | exact ih1 _ _ _ _
   | exact ih2 _ _ _ _ _ _ _ _ _
   | exact ih3 _ _ _ _ _ _ _
   | exact ih4 _ _ _ _ _ _ _
   | exact ih5 _ _ _ _ _ _ _ _ _ _
   | exact name_Chain.mono _ _ _ _
   | exact name_Verdict.mono _ _ _ _
   | exact wayzgoosekit_NameOf.mono _ _ _ _ _
   | exact wayzgoosekit_NamesOf.mono _ _ _ _ _ _
   | exact wayzgoosekit_RulesOf.mono _ _ _ _ _
   | exact wayzgooselaw03_uses.mono _ _ _ _
   | exact wayzgooseref03_Made.mono _ _ _
   | exact LeO.none _
   | refine LeO.ite ?_ ?_
   | refine LeO.bind ?_ (fun _ => ?_)
  ·intro y0 y1 y2 y3 y4 y5 y6
   unfold wayzgooselaw03_NameSteps.l2
   repeat' first
   | (with_reducible exact ih0 _ _ _)
   | (with_reducible exact ih1 _ _ _ _)
   | (with_reducible exact ih2 _ _ _ _ _ _ _ _ _)
   | (with_reducible exact ih3 _ _ _ _ _ _ _)
   | (with_reducible exact ih4 _ _ _ _ _ _ _)
   | (with_reducible exact ih5 _ _ _ _ _ _ _ _ _ _)
   | (with_reducible exact name_Chain.mono _ _ _ _)
   | (with_reducible exact name_Verdict.mono _ _ _ _)
   | (with_reducible exact wayzgoosekit_NameOf.mono _ _ _ _ _)
   | (with_reducible exact wayzgoosekit_NamesOf.mono _ _ _ _ _ _)
   | (with_reducible exact wayzgoosekit_RulesOf.mono _ _ _ _ _)
   | (with_reducible exact wayzgooselaw03_uses.mono _ _ _ _)
   | (with_reducible exact wayzgooseref03_Made.mono _ _ _)
   | (with_reducible exact LeO.refl _)
   | (with_reducible exact LeO.none _)
   | (with_reducible refine LeO.ite ?_ ?_)
   | (with_reducible refine LeO.bind ?_ (fun _ => ?_))
   | exact ih0 _ _ _
   | exact ih1 _ _ _ _
   | exact ih2 _ _ _ _ _ _ _ _ _
   | exact ih3 _ _ _ _ _ _ _
   | exact ih4 _ _ _ _ _ _ _
   | exact ih5 _ _ _ _ _ _ _ _ _ _
   | exact name_Chain.mono _ _ _ _
   | exact name_Verdict.mono _ _ _ _
   | exact wayzgoosekit_NameOf.mono _ _ _ _ _
   | exact wayzgoosekit_NamesOf.mono _ _ _ _ _ _
   | exact wayzgoosekit_RulesOf.mono _ _ _ _ _
   | exact wayzgooselaw03_uses.mono _ _ _ _
   | exact wayzgooseref03_Made.mono _ _ _
   | exact LeO.none _
   | refine LeO.ite ?_ ?_
   | refine LeO.bind ?_ (fun _ => ?_)
  ·intro y0 y1 y2 y3 y4 y5 y6 y7 y8 y9
   unfold wayzgooselaw03_NameSteps.l3
   repeat' first
   | (with_reducible exact ih0 _ _ _)
   | (with_reducible exact ih1 _ _ _ _)
   | (with_reducible exact ih2 _ _ _ _ _ _ _ _ _)
   | (with_reducible exact ih3 _ _ _ _ _ _ _)
   | (with_reducible exact ih4 _ _ _ _ _ _ _)
   | (with_reducible exact ih5 _ _ _ _ _ _ _ _ _ _)
   | (with_reducible exact name_Chain.mono _ _ _ _)
   | (with_reducible exact name_Verdict.mono _ _ _ _)
   | (with_reducible exact wayzgoosekit_NameOf.mono _ _ _ _ _)
   | (with_reducible exact wayzgoosekit_NamesOf.mono _ _ _ _ _ _)
   | (with_reducible exact wayzgoosekit_RulesOf.mono _ _ _ _ _)
   | (with_reducible exact wayzgooselaw03_uses.mono _ _ _ _)
   | (with_reducible exact wayzgooseref03_Made.mono _ _ _)
   | (with_reducible exact LeO.refl _)
   | (with_reducible exact LeO.none _)
   | (with_reducible refine LeO.ite ?_ ?_)
   | (with_reducible refine LeO.bind ?_ (fun _ => ?_))
   | exact ih0 _ _ _
   | exact ih1 _ _ _ _
   | exact ih2 _ _ _ _ _ _ _ _ _
   | exact ih3 _ _ _ _ _ _ _
   | exact ih4 _ _ _ _ _ _ _
   | exact ih5 _ _ _ _ _ _ _ _ _ _
   | exact name_Chain.mono _ _ _ _
   | exact name_Verdict.mono _ _ _ _
   | exact wayzgoosekit_NameOf.mono _ _ _ _ _
   | exact wayzgoosekit_NamesOf.mono _ _ _ _ _ _
   | exact wayzgoosekit_RulesOf.mono _ _ _ _ _
   | exact wayzgooselaw03_uses.mono _ _ _ _
   | exact wayzgooseref03_Made.mono _ _ _
   | exact LeO.none _
   | refine LeO.ite ?_ ?_
   | refine LeO.bind ?_ (fun _ => ?_)
theorem wayzgooselaw03_NameSteps.mono : ∀ a0 k, LeO (wayzgooselaw03_NameSteps.f k a0) (wayzgooselaw03_NameSteps.f (k + 1) a0) := by
 intro a0 k
 obtain ⟨ih0, ih1, ih2, ih3, ih4, ih5⟩ := wayzgooselaw03_NameSteps.mono_l k
 unfold wayzgooselaw03_NameSteps.f
 repeat' first
   | (with_reducible exact ih0 _ _ _)
   | (with_reducible exact ih1 _ _ _ _)
   | (with_reducible exact ih2 _ _ _ _ _ _ _ _ _)
   | (with_reducible exact ih3 _ _ _ _ _ _ _)
   | (with_reducible exact ih4 _ _ _ _ _ _ _)
   | (with_reducible exact ih5 _ _ _ _ _ _ _ _ _ _)
   | (with_reducible exact name_Chain.mono _ _ _ _)
   | (with_reducible exact name_Verdict.mono _ _ _ _)
   | (with_reducible exact wayzgoosekit_NameOf.mono _ _ _ _ _)
   | (with_reducible exact wayzgoosekit_NamesOf.mono _ _ _ _ _ _)
   | (with_reducible exact wayzgoosekit_RulesOf.mono _ _ _ _ _)
   | (with_reducible exact wayzgooselaw03_uses.mono _ _ _ _)
   | (with_reducible exact wayzgooseref03_Made.mono _ _ _)
   | (with_reducible exact LeO.refl _)
   | (with_reducible exact LeO.none _)
   | (with_reducible refine LeO.ite ?_ ?_)
   | (with_reducible refine LeO.bind ?_ (fun _ => ?_))
   | exact ih0 _ _ _
   | exact ih1 _ _ _ _
   | exact ih2 _ _ _ _ _ _ _ _ _
   | exact ih3 _ _ _ _ _ _ _
   | exact ih4 _ _ _ _ _ _ _
   | exact ih5 _ _ _ _ _ _ _ _ _ _
   | exact name_Chain.mono _ _ _ _
   | exact name_Verdict.mono _ _ _ _
   | exact wayzgoosekit_NameOf.mono _ _ _ _ _
   | exact wayzgoosekit_NamesOf.mono _ _ _ _ _ _
   | exact wayzgoosekit_RulesOf.mono _ _ _ _ _
   | exact wayzgooselaw03_uses.mono _ _ _ _
   | exact wayzgooseref03_Made.mono _ _ _
   | exact LeO.none _
   | refine LeO.ite ?_ ?_
   | refine LeO.bind ?_ (fun _ => ?_)
def wayzgooselaw03_NameSteps.T9 : Bool × List (List Nat × List Nat) := (true, [([], []), ([], []), ([], []), ([1, 2], [1, 2]), ([3], [3]), ([], []), ([], []), ([5, 6], [5, 6]), ([7], [7]), ([0, 4, 8], [0, 4, 8]), ([9], [9]), ([10], [10]), ([10], [10]), ([11, 9, 0, 1, 2, 3, 4, 5, 6, 7, 8, 9, 10, 11], [11]), ([12, 13, 0, 1, 2, 3, 4, 5, 6, 7, 8, 9, 10, 11, 12, 13], [12])])
def wayzgooselaw03_NameSteps.B9 : List Nat := [0, 0, 0, 6, 14, 0, 0, 96, 224, 511, 1023, 2047, 2047, 4095, 16383]
theorem wayzgooselaw03_NameSteps.tab9 : rtab .any (opsOf Tryz.f6 9) = wayzgooselaw03_NameSteps.T9 := by kernel_rfl
theorem wayzgooselaw03_NameSteps.bits9 : waitsOk wayzgooselaw03_NameSteps.T9.2 wayzgooselaw03_NameSteps.B9 = true := by kernel_rfl
def wayzgooselaw03_NameSteps.T10 : Bool × List (List Nat × List Nat) := (true, [([], []), ([], []), ([], []), ([1, 2], [1, 2]), ([3], [3]), ([], []), ([], []), ([5, 6], [5, 6]), ([7], [7]), ([0, 4, 8], [0, 4, 8]), ([9], [9]), ([10], [10]), ([10], [10]), ([11, 9, 0, 1, 2, 3, 4, 5, 6, 7, 8, 9, 10, 11], [11]), ([12, 13, 0, 1, 2, 3, 4, 5, 6, 7, 8, 9, 10, 11, 12, 13], [12])])
def wayzgooselaw03_NameSteps.B10 : List Nat := [0, 0, 0, 6, 14, 0, 0, 96, 224, 511, 1023, 2047, 2047, 4095, 16383]
theorem wayzgooselaw03_NameSteps.tab10 : rtab .any (opsOf Tryz.f6 10) = wayzgooselaw03_NameSteps.T10 := by kernel_rfl
theorem wayzgooselaw03_NameSteps.bits10 : waitsOk wayzgooselaw03_NameSteps.T10.2 wayzgooselaw03_NameSteps.B10 = true := by kernel_rfl
def wayzgooselaw03_NameSteps.T11 : Bool × List (List Nat × List Nat) := (true, [([], []), ([], []), ([], []), ([1, 2], [1, 2]), ([3], [3]), ([], []), ([], []), ([5, 6], [5, 6]), ([7], [7]), ([0, 4, 8], [0, 4, 8]), ([9], [9]), ([10], [10]), ([10], [10]), ([11, 9, 0, 1, 2, 3, 4, 5, 6, 7, 8, 9, 10, 11], [11]), ([12, 13, 0, 1, 2, 3, 4, 5, 6, 7, 8, 9, 10, 11, 12, 13], [12])])
def wayzgooselaw03_NameSteps.B11 : List Nat := [0, 0, 0, 6, 14, 0, 0, 96, 224, 511, 1023, 2047, 2047, 4095, 16383]
theorem wayzgooselaw03_NameSteps.tab11 : rtab .any (opsOf Tryz.f6 11) = wayzgooselaw03_NameSteps.T11 := by kernel_rfl
theorem wayzgooselaw03_NameSteps.bits11 : waitsOk wayzgooselaw03_NameSteps.T11.2 wayzgooselaw03_NameSteps.B11 = true := by kernel_rfl
def wayzgooselaw03_NameSteps.T30 : Bool × List (List Nat × List Nat) := (true, [([], []), ([0], [0]), ([1], [1]), ([1], [1]), ([2, 3, 1], [1, 2, 3]), ([4, 1], [1, 4]), ([1], [1]), ([1], [1]), ([6, 7, 1], [1, 6, 7]), ([8, 1], [1, 8]), ([5, 9, 1], [1, 5, 9]), ([1, 10], [1, 10]), ([11, 1, 0, 1, 2, 3, 4, 5, 6, 7, 8, 9, 10, 11], [0, 11])])
def wayzgooselaw03_NameSteps.B30 : List Nat := [0, 1, 3, 3, 15, 31, 3, 3, 195, 451, 1023, 2047, 4095]
theorem wayzgooselaw03_NameSteps.tab30 : rtab .any (opsOf Tryz.f6 30) = wayzgooselaw03_NameSteps.T30 := by kernel_rfl
theorem wayzgooselaw03_NameSteps.bits30 : waitsOk wayzgooselaw03_NameSteps.T30.2 wayzgooselaw03_NameSteps.B30 = true := by kernel_rfl
set_option maxHeartbeats 8000000 in
set_option maxRecDepth 100000 in
theorem wayzgooselaw03_NameSteps.calls (k : Nat) (A0 : Option Addr) (c0 : Nat) (l0 : List Int) (r : Bool) (w : World) (hr0 : Kd.C (Kd.int .i64) w A0 l0.length l0) (hc0 : l0.length ≤ c0) (h : wayzgooselaw03_NameSteps.f k l0 = some r) :
  Calls Tryz.prog 6 #[.slice A0 l0.length c0] w fun e w' => e = .returned (.bool r) ∧ Below w.heap.size w w' := by
 have HR0 := Aside0.mk hr0
 have HC0 := Aside0.mk hc0
 clear hr0 hc0
 have HB := Aside0.mk (Below.refl w.heap.size w)
 have H : ((wayzgoosekit_NewDice.f l0).bind fun bt325 => ((wayzgoosekit_RulesOf.f k bt325.1 bt325.2.1 bt325.2.2 3).bind fun bt329 => ((wayzgoosekit_NamesOf.f k bt325.1 bt329.2.1 bt329.2.2 3 3).bind fun bt334 => ((wayzgoosekit_NameOf.f k bt325.1 bt334.2.1 bt334.2.2 3).bind fun bt339 => (if bt334.1.length < 8796093022208 then (wayzgooselaw03_NameSteps.l0 k bt329.1 (bt334.1 ++ [bt339.1]) 0) else (none)))))) = some r := h
 clear h
 replace H := Option.bind_eq_some_iff.mp H
 obtain ⟨⟨t325, t326, t327⟩, A20, H⟩ := H
 replace H : ((wayzgoosekit_RulesOf.f k t325 t326 t327 3).bind fun bt329 => ((wayzgoosekit_NamesOf.f k t325 bt329.2.1 bt329.2.2 3 3).bind fun bt334 => ((wayzgoosekit_NameOf.f k t325 bt334.2.1 bt334.2.2 3).bind fun bt339 => (if bt334.1.length < 8796093022208 then (wayzgooselaw03_NameSteps.l0 k bt329.1 (bt334.1 ++ [bt339.1]) 0) else (none))))) = some r := H
 have A2 := Aside0.mk A20
 clear A20
 replace H := Option.bind_eq_some_iff.mp H
 obtain ⟨⟨t329, t332, t333⟩, A30, H⟩ := H
 replace H : ((wayzgoosekit_NamesOf.f k t325 t332 t333 3 3).bind fun bt334 => ((wayzgoosekit_NameOf.f k t325 bt334.2.1 bt334.2.2 3).bind fun bt339 => (if bt334.1.length < 8796093022208 then (wayzgooselaw03_NameSteps.l0 k t329 (bt334.1 ++ [bt339.1]) 0) else (none)))) = some r := H
 have A3 := Aside0.mk A30
 clear A30
 replace H := Option.bind_eq_some_iff.mp H
 obtain ⟨⟨t334, t337, t338⟩, A40, H⟩ := H
 replace H : ((wayzgoosekit_NameOf.f k t325 t337 t338 3).bind fun bt339 => (if t334.length < 8796093022208 then (wayzgooselaw03_NameSteps.l0 k t329 (t334 ++ [bt339.1]) 0) else (none))) = some r := H
 have A4 := Aside0.mk A40
 clear A40
 replace H := Option.bind_eq_some_iff.mp H
 obtain ⟨⟨t339, t340, t341⟩, A50, H⟩ := H
 replace H : (if t334.length < 8796093022208 then (wayzgooselaw03_NameSteps.l0 k t329 (t334 ++ [t339]) 0) else (none)) = some r := H
 have A5 := Aside0.mk A50
 clear A50
 by_cases c6 : t334.length < 8796093022208
 ·rw [if_pos c6] at H
  have LMc6 := Aside0.mk c6
  clear c6
  obtain ⟨y342, hy342⟩ : ∃ y_ : List ByteArray, y_ = (t334 ++ [t339]) := ⟨_, rfl⟩
  replace H : (wayzgooselaw03_NameSteps.l0 k t329 y342 0) = some r := by first | (rw [hy342]; with_reducible exact H) | (have H2_ := (Option.bind_some _ _).symm.trans H; rw [hy342]; with_reducible exact H2_) | (have H2_ := (Option.bind_some _ _).symm.trans H; with_reducible exact H2_) | with_reducible exact H | (rw [hy342]; exact H) | exact H
  have Ny342 := Aside0.mk hy342
  clear hy342
  have H' := Aside0.mk H
  clear H
  go_enter Tryz.func6, Tryz.ntmps6
  go_wp2_with (first | ((with_reducible refine gate_callee (f := 23) rfl ?_); refine goesL_ (some 23) rfl rfl Tryz.func23 (by kernel_rfl) rfl #[.slice A0 l0.length c0] rfl (by (try simp only [List.map_toArray, List.map_cons, List.map_nil]); first | done | rfl | (simp only [List.length_drop, List.length_take]; rfl)) ?_; (with_reducible refine (wayzgoosekit_NewDice.calls _ _ l0 t325 t326 t327 w _ ?side1 ?side2 ?side3 A2.out).mono ?_); (case side1 => repeat (first | (with_reducible first | exact HB.out | apply below_alloc | apply pw_below_drewN | apply below_drew1) | exact HB.out)); (case side2 => exact HR0.out); (case side3 => exact HC0.out); rintro e w7 ⟨g328, rfl, hi, hb, hb2⟩; refine ⟨_, rfl, ?_⟩; have n0_ := Aside0.mk (hb); have n1_ := Aside0.mk (hi); clear HB; have HB := n0_; have HI328 := n1_; clear n0_ n1_; (try clear hb); (try clear hb2); (try clear hk); (try clear hi)) | ((with_reducible refine gate_callee (f := 35) rfl ?_); refine goesL_ (some 25) rfl rfl Tryz.func35 (by kernel_rfl) rfl #[.pointer (some ⟨g328, 0, none⟩), .int .i64 3] rfl (by (try simp only [List.map_toArray, List.map_cons, List.map_nil]); first | done | rfl | (simp only [List.length_drop, List.length_take]; rfl)) ?_; (with_reducible refine (wayzgoosekit_RulesOf.calls k g328 t325 t326 t327 3 t329 t332 t333 w _ ?side1 ?side2 A3.out).mono ?_); (case side1 => repeat (first | (with_reducible first | exact HI328.out | apply IsS86.alloc | apply IsS86.drewN | apply IsS86.drew | apply IsS86.set_1 | apply IsS86.set_2) | exact HI328.out)); (case side2 => repeat (first | (with_reducible first | exact HB.out | apply below_alloc | apply pw_below_drewN | apply below_drew1 | refine below_set ?_ (IsS86.ge HI328.out)) | exact HB.out)); rintro e w8 ⟨v330, rfl, ho0, hi, hb, hk⟩; refine ⟨_, rfl, ?_⟩; have n0_ := Aside0.mk (Kd.R_lower ho0 (below_size (by repeat (first | (with_reducible first | exact HB.out | apply below_alloc | apply pw_below_drewN | apply below_drew1 | refine below_set ?_ (IsS86.ge HI328.out)) | exact HB.out)))); have n1_ := Aside0.mk (hb); have n2_ := Aside0.mk (hi); clear HB; clear HI328; have HO331 := n0_; have HB := n1_; have HI328 := n2_; clear n0_ n1_ n2_; (try clear hb); (try clear hb2); (try clear hk); (try clear hi); (try clear ho0)) | ((with_reducible refine gate_callee (f := 24) rfl ?_); refine goesL_ (some 27) rfl rfl Tryz.func24 (by kernel_rfl) rfl #[.pointer (some ⟨g328, 0, none⟩), .int .i64 3, .int .i64 3] rfl (by (try simp only [List.map_toArray, List.map_cons, List.map_nil]); first | done | rfl | (simp only [List.length_drop, List.length_take]; rfl)) ?_; (with_reducible refine (wayzgoosekit_NamesOf.calls k g328 t325 t332 t333 3 3 t334 t337 t338 w _ ?side1 ?side2 A4.out).mono ?_); (case side1 => repeat (first | (with_reducible first | exact HI328.out | apply IsS86.alloc | apply IsS86.drewN | apply IsS86.drew | apply IsS86.set_1 | apply IsS86.set_2) | exact HI328.out)); (case side2 => repeat (first | (with_reducible first | exact HB.out | apply below_alloc | apply pw_below_drewN | apply below_drew1 | refine below_set ?_ (IsS86.ge HI328.out)) | exact HB.out)); rintro e w9 ⟨v335, rfl, ho0, hi, hb, hk⟩; refine ⟨_, rfl, ?_⟩; have n0_ := Aside0.mk (Kd.R_mono (Kd.R_keep (IsS86.apart (show IsS86 w _ g328 t325 t332 t333 from by repeat (first | (with_reducible first | exact HI328.out | apply IsS86.alloc | apply IsS86.drewN | apply IsS86.drew | apply IsS86.set_1 | apply IsS86.set_2) | exact HI328.out)) (by (with_reducible repeat (first | apply Kd.R_alloc | apply Kd.R_drewN | apply Kd.R_drew)); exact HO331.out) (by decide)) hk (fun _ h => h.2)) (fun _ h => h.1)); have n1_ := Aside0.mk (Kd.R_lower ho0 (below_size (by repeat (first | (with_reducible first | exact HB.out | apply below_alloc | apply pw_below_drewN | apply below_drew1 | refine below_set ?_ (IsS86.ge HI328.out)) | exact HB.out)))); have n2_ := Aside0.mk (hb); have n3_ := Aside0.mk (hi); clear HO331; clear HB; clear HI328; have HO331 := n0_; have HO336 := n1_; have HB := n2_; have HI328 := n3_; clear n0_ n1_ n2_ n3_; (try clear hb); (try clear hb2); (try clear hk); (try clear hi); (try clear ho0)) | ((with_reducible refine gate_callee (f := 25) rfl ?_); refine goesL_ (some 29) rfl rfl Tryz.func25 (by kernel_rfl) rfl #[.pointer (some ⟨g328, 0, none⟩), .int .i64 3] rfl (by (try simp only [List.map_toArray, List.map_cons, List.map_nil]); first | done | rfl | (simp only [List.length_drop, List.length_take]; rfl)) ?_; (with_reducible refine (wayzgoosekit_NameOf.calls k g328 t325 t337 t338 3 t339 t340 t341 w _ ?side1 ?side2 A5.out).mono ?_); (case side1 => repeat (first | (with_reducible first | exact HI328.out | apply IsS86.alloc | apply IsS86.drewN | apply IsS86.drew | apply IsS86.set_1 | apply IsS86.set_2) | exact HI328.out)); (case side2 => repeat (first | (with_reducible first | exact HB.out | apply below_alloc | apply pw_below_drewN | apply below_drew1 | refine below_set ?_ (IsS86.ge HI328.out)) | exact HB.out)); rintro e w10 ⟨rfl, hi, hb, hk⟩; refine ⟨_, rfl, ?_⟩; have n0_ := Aside0.mk (Kd.R_mono (Kd.R_keep (IsS86.apart (show IsS86 w _ g328 t325 t337 t338 from by repeat (first | (with_reducible first | exact HI328.out | apply IsS86.alloc | apply IsS86.drewN | apply IsS86.drew | apply IsS86.set_1 | apply IsS86.set_2) | exact HI328.out)) (by (with_reducible repeat (first | apply Kd.R_alloc | apply Kd.R_drewN | apply Kd.R_drew)); exact HO331.out) (by decide)) hk (fun _ h => h.2)) (fun _ h => h.1)); have n1_ := Aside0.mk (Kd.R_mono (Kd.R_keep (IsS86.apart (show IsS86 w _ g328 t325 t337 t338 from by repeat (first | (with_reducible first | exact HI328.out | apply IsS86.alloc | apply IsS86.drewN | apply IsS86.drew | apply IsS86.set_1 | apply IsS86.set_2) | exact HI328.out)) (by (with_reducible repeat (first | apply Kd.R_alloc | apply Kd.R_drewN | apply Kd.R_drew)); exact HO336.out) (by decide)) hk (fun _ h => h.2)) (fun _ h => h.1)); have n2_ := Aside0.mk (hb); have n3_ := Aside0.mk (hi); clear HO331; clear HO336; clear HB; clear HI328; have HO331 := n0_; have HO336 := n1_; have HB := n2_; have HI328 := n3_; clear n0_ n1_ n2_ n3_; (try clear hb); (try clear hb2); (try clear hk); (try clear hi)) | ((with_reducible refine gate_builtin (b := .append) (xs := #[.tmp 27, .tmp 30]) rfl ?_); (try (refine gate_guard (by rfl) ?_; dsimp only)); at_builtin; refine Kd.R_append Kd.string (w0 := w) w.heap.size rfl (.tmp 27) (.tmp 30) 22 9 (.string ⟨#[]⟩) 16 rfl Tryz.underlying22 info9 rfl (by decide) (by omega) v335 t334 t339 [.string t339] (fun _ => True) (fun _ => False) rfl rfl ?aP (fun _ hk => hk.elim) ?aF ?aO ?aB ?aS ?aL ?_; (case aP => exact rfl); (case aB => exact (by repeat (first | (with_reducible first | exact HB.out | apply below_alloc | apply pw_below_drewN | apply below_drew1 | refine below_set ?_ (IsS86.ge HI328.out)) | exact HB.out))); (case aF => exact (fun _ _ => trivial)); (case aO => exact (by (with_reducible repeat (first | apply Kd.R_alloc | apply Kd.R_drewN | apply Kd.R_drew)); exact HO336.out)); (case aS => exact (below_size (by repeat (first | (with_reducible first | exact HB.out | apply below_alloc | apply pw_below_drewN | apply below_drew1 | refine below_set ?_ (IsS86.ge HI328.out)) | exact HB.out)))); (case aL => have := LMc6.out; omega); intro v343 w11 ho hb hg hat; rw [← Ny342.out] at ho; have n0_ := Aside0.mk (IsS86.grown (by repeat (first | (with_reducible first | exact HI328.out | apply IsS86.alloc | apply IsS86.drewN | apply IsS86.drew | apply IsS86.set_1 | apply IsS86.set_2) | exact HI328.out)) hg (IsS86.own_ne HI328.out HO336.out (by decide))); have n1_ := Aside0.mk (Kd.R_over' (by (with_reducible repeat (first | apply Kd.R_alloc | apply Kd.R_drewN | apply Kd.R_drew)); exact HO331.out) (Kd.R_typed (by (with_reducible repeat (first | apply Kd.R_alloc | apply Kd.R_drewN | apply Kd.R_drew)); exact HO336.out)) (by decide) hg); have n2_ := Aside0.mk (hb); have n3_ := Aside0.mk (ho); clear HI328; clear HO331; clear HB; clear HO336; have HI328 := n0_; have HO331 := n1_; have HB := n2_; have HO344 := n3_; clear n0_ n1_ n2_ n3_; clear ho hb hg hat))
  go_loopg [6] k (fun kq v6 w' => ∃ (x6_1 : Int), v6 = .int .i64 x6_1 ∧ Aside0 (wayzgooselaw03_NameSteps.l0 kq t329 y342 x6_1 = some r) ∧ Aside0 (kq ≤ k) ∧ Aside0 (Kd.R k83 83 w' w.heap.size (fun _ => True) v330 t329) ∧ Aside0 (Kd.R Kd.string 9 w' w.heap.size (fun _ => True) v343 y342) ∧ Aside0 (Below w.heap.size w w'))
  case atStart => exact ⟨(0), (by first | rfl | (simp; done) | (simp [*]; done)), H', ⟨Nat.le_refl _⟩, ⟨by (with_reducible repeat (first | apply Kd.R_alloc | apply Kd.R_drewN | apply Kd.R_drew)); exact HO331.out⟩, ⟨by (with_reducible repeat (first | apply Kd.R_alloc | apply Kd.R_drewN | apply Kd.R_drew)); exact HO344.out⟩, ⟨by repeat (first | (with_reducible first | exact HB.out | apply below_alloc | apply pw_below_drewN | apply below_drew1 | refine below_set ?_ (IsS86.ge HI328.out)) | exact HB.out)⟩⟩
  case round => as_aux_lemma =>
   clear H'
   try clear c2
   try clear p2
   try clear c3
   try clear c6
   obtain ⟨x6_1, rfl, HA, HK1, HO_4, HO_5, HB⟩ := hrel
   cases gk with
   | zero => exact absurd HA.out (by simp [wayzgooselaw03_NameSteps.l0])
   | succ k1 =>
    have H := HA.out
    clear HA
    simp only [wayzgooselaw03_NameSteps.l0] at H
    by_cases c12 : x6_1 < (y342.length : Int)
    ·rw [if_pos c12] at H
     have c12b0 : decide (x6_1 < (y342.length : Int)) = true := decide_eq_true c12
     clear c12
     have H' := Aside0.mk H
     clear H
     obtain ⟨Ao13, co13, eo13⟩ := Kd.R_slice HO_5.out
     subst eo13
     go_wp2
     go_loopg [7] k1 (fun kq v7 w' => ∃ (x7_2 : Int), v7 = .int .i64 x7_2 ∧ Aside0 (wayzgooselaw03_NameSteps.l1 kq t329 y342 x6_1 x7_2 = some r) ∧ Aside0 (kq ≤ k1) ∧ Aside0 (Kd.R k83 83 w' w.heap.size (fun _ => True) v330 t329) ∧ Aside0 (Kd.R Kd.string 9 w' w.heap.size (fun _ => True) (.slice Ao13 y342.length co13) y342) ∧ Aside0 (Below w.heap.size w w'))
     case atStart => exact ⟨(0), (by first | rfl | (simp; done) | (simp [*]; done)), H', ⟨Nat.le_refl _⟩, ⟨by (with_reducible repeat (first | apply Kd.R_alloc | apply Kd.R_drewN | apply Kd.R_drew)); exact HO_4.out⟩, ⟨by (with_reducible repeat (first | apply Kd.R_alloc | apply Kd.R_drewN | apply Kd.R_drew)); exact HO_5.out⟩, ⟨by repeat (first | (with_reducible first | exact HB.out | apply below_alloc | apply pw_below_drewN | apply below_drew1) | exact HB.out)⟩⟩
     case round => as_aux_lemma =>
      clear H'
      try clear c1
      try clear c2
      try clear p2
      try clear c3
      try clear c6
      try clear c12
      try clear c12b0
      try clear p2
      obtain ⟨x7_2, rfl, HA, HK2, HO_4, HO_5, HB⟩ := hrel
      cases gk with
      | zero => exact absurd HA.out (by simp [wayzgooselaw03_NameSteps.l1])
      | succ k2 =>
       have H := HA.out
       clear HA
       simp only [wayzgooselaw03_NameSteps.l1] at H
       by_cases c14 : x7_2 < (y342.length : Int)
       ·rw [if_pos c14] at H
        have c14b0 : decide (x7_2 < (y342.length : Int)) = true := decide_eq_true c14
        clear c14
        by_cases c15 : 0 ≤ x6_1
        ·rw [if_pos c15] at H
         have c15b0 : decide (0 ≤ x6_1) = true := decide_eq_true c15
         clear c15
         by_cases c16 : x6_1 < (y342.length : Int)
         ·rw [if_pos c16] at H
          have c16b0 : decide (x6_1 < (y342.length : Int)) = true := decide_eq_true c16
          clear c16
          by_cases c17 : 0 ≤ x7_2
          ·rw [if_pos c17] at H
           have c17b0 : decide (0 ≤ x7_2) = true := decide_eq_true c17
           clear c17
           replace H := Option.bind_eq_some_iff.mp H
           obtain ⟨⟨t348, t349⟩, A180, H⟩ := H
           replace H : ((name_Chain.f k2 t329 (rdOf ByteArray.empty y342 x6_1) (rdOf ByteArray.empty y342 x7_2)).bind fun bt352 => ((name_Verdict.f k2 t329 (rdOf ByteArray.empty y342 x6_1) (rdOf ByteArray.empty y342 x7_2)).bind fun bt358 => (if t349 = true then (wayzgooselaw03_NameSteps.j2 k2 t329 y342 x6_1 x7_2 t348 bt352.1 bt352.2 bt358.1 (bt358.2 != 0)) else (wayzgooselaw03_NameSteps.j2 k2 t329 y342 x6_1 x7_2 t348 bt352.1 bt352.2 bt358.1 true)))) = some r := H
           have A18 := Aside0.mk A180
           clear A180
           replace H := Option.bind_eq_some_iff.mp H
           obtain ⟨⟨t352, t353⟩, A190, H⟩ := H
           replace H : ((name_Verdict.f k2 t329 (rdOf ByteArray.empty y342 x6_1) (rdOf ByteArray.empty y342 x7_2)).bind fun bt358 => (if t349 = true then (wayzgooselaw03_NameSteps.j2 k2 t329 y342 x6_1 x7_2 t348 t352 t353 bt358.1 (bt358.2 != 0)) else (wayzgooselaw03_NameSteps.j2 k2 t329 y342 x6_1 x7_2 t348 t352 t353 bt358.1 true))) = some r := H
           have A19 := Aside0.mk A190
           clear A190
           replace H := Option.bind_eq_some_iff.mp H
           obtain ⟨⟨t358, t359⟩, A200, H⟩ := H
           replace H : (if t349 = true then (wayzgooselaw03_NameSteps.j2 k2 t329 y342 x6_1 x7_2 t348 t352 t353 t358 (t359 != 0)) else (wayzgooselaw03_NameSteps.j2 k2 t329 y342 x6_1 x7_2 t348 t352 t353 t358 true)) = some r := H
           have A20 := Aside0.mk A200
           clear A200
           have HC21 := Aside0.mk H
           clear H
           try go_wp2
           have n0_ := Aside0.mk (Kd.R_drew HO_4.out)
           have n1_ := Aside0.mk (Kd.R_drew HO_5.out)
           have n2_ := Aside0.mk (below_drew1 HB.out)
           clear HO_4
           clear HO_5
           clear HB
           have HO_4 := n0_
           have HO_5 := n1_
           have HB := n2_
           clear n0_ n1_ n2_
           have p346 : 0 ≤ (x6_1 : Int) := of_decide_eq_true (by first | (with_reducible assumption) | assumption)
           have q346 : x6_1 < (y342.length : Int) := of_decide_eq_true (by first | (with_reducible assumption) | assumption)
           obtain ⟨ad346, e346, hx346_0⟩ := Kd.at_string (Kd.R_reads' HO_5.out).2.2 x6_1 p346 q346
           cases e346
           replace p346 := eq_true p346
           replace q346 := eq_true q346
           have p347 : 0 ≤ (x7_2 : Int) := of_decide_eq_true (by first | (with_reducible assumption) | assumption)
           have q347 : x7_2 < (y342.length : Int) := of_decide_eq_true (by first | (with_reducible assumption) | assumption)
           obtain ⟨ad347, e347, hx347_0⟩ := Kd.at_string (Kd.R_reads' HO_5.out).2.2 x7_2 p347 q347
           obtain rfl : ad346 = ad347 := (by injection e347)
           replace p347 := eq_true p347
           replace q347 := eq_true q347
           obtain ⟨Ao23, co23, eo23⟩ := Kd.R_slice HO_4.out
           (first | subst eo23 | (injection eo23 with f1_ f2_ f3_; have f4_ := f1_.symm; have f5_ := f3_.symm; clear f1_ f2_ f3_; subst f4_; subst f5_))
           refine start_ (n := 15) (S := fun w' => w'.cell? (ad346.add (x6_1).toNat) = some (.string (rdOf ByteArray.empty y342 x6_1)) ∧ w'.cell? (ad346.add (x7_2).toNat) = some (.string (rdOf ByteArray.empty y342 x7_2))) (ds := []) #[false, false, false, false, false, false, false, false, false, false, false, false, false, false, false] (by kernel_rfl) rfl rfl ⟨hx346_0, hx347_0⟩ (fun hHeld => ?_); refine with_tabW wayzgooselaw03_NameSteps.tab9 wayzgooselaw03_NameSteps.bits9 (fun HT_ HW_ => ?_)
           generalize wr.drew = w22 at HO_4 HO_5 HB hx346_0 hx347_0 hHeld ⊢
           refine pure_ (i := 0) (N := some 45) (v := ?_) (a' := ?_) #[true, false, false, false, false, false, false, false, false, false, false, false, false, false, false] rfl rfl (any_of HT_.out (by kernel_rfl)) (fun _ _ _ h => h) (Or.inl ⟨by rfl, ?_⟩) ?_ ?_
           rotate_left
           ·intro w'
            go_simp
            with_reducible rfl
           rotate_left
           ·simp only [Act.put, List.setIfInBounds_toArray, List.set_cons_zero, List.set_cons_succ, i64_w, i32_w]
            rfl
           refine pure_ (i := 1) (N := some 46) (v := ?_) (a' := ?_) #[true, true, false, false, false, false, false, false, false, false, false, false, false, false, false] rfl rfl (any_of HT_.out (by kernel_rfl)) (fun _ _ _ h => h) (Or.inl ⟨by rfl, ?_⟩) ?_ ?_
           rotate_left
           ·intro w'
            go_simp
            with_reducible rfl
           rotate_left
           ·simp only [Act.put, List.setIfInBounds_toArray, List.set_cons_zero, List.set_cons_succ, i64_w, i32_w]
            rfl
           refine pure_ (i := 2) (N := some 47) (v := ?_) (a' := ?_) #[true, true, true, false, false, false, false, false, false, false, false, false, false, false, false] rfl rfl (any_of HT_.out (by kernel_rfl)) (fun _ _ _ h => h) (Or.inl ⟨by rfl, ?_⟩) ?_ ?_
           rotate_left
           ·intro w'
            go_simp
            with_reducible rfl
           rotate_left
           ·simp only [Act.put, List.setIfInBounds_toArray, List.set_cons_zero, List.set_cons_succ, i64_w, i32_w]
            rfl
           refine pure_ (i := 3) (N := some 48) (v := ?_) (a' := ?_) #[true, true, true, true, false, false, false, false, false, false, false, false, false, false, false] rfl rfl (any_of HT_.out (by kernel_rfl)) (fun _ _ _ h => h) (Or.inl ⟨by rfl, ?_⟩) ?_ ?_
           rotate_left
           ·intro w'
            go_simp
            with_reducible rfl
           rotate_left
           ·simp only [Act.put, List.setIfInBounds_toArray, List.set_cons_zero, List.set_cons_succ, i64_w, i32_w]
            rfl
           refine pure_ (i := 5) (N := some 50) (v := ?_) (a' := ?_) #[true, true, true, true, false, true, false, false, false, false, false, false, false, false, false] rfl rfl (any_of HT_.out (by kernel_rfl)) (fun _ _ _ h => h) (Or.inl ⟨by rfl, ?_⟩) ?_ ?_
           rotate_left
           ·intro w'
            go_simp
            with_reducible rfl
           rotate_left
           ·simp only [Act.put, List.setIfInBounds_toArray, List.set_cons_zero, List.set_cons_succ, i64_w, i32_w]
            rfl
           refine pure_ (i := 6) (N := some 51) (v := ?_) (a' := ?_) #[true, true, true, true, false, true, true, false, false, false, false, false, false, false, false] rfl rfl (any_of HT_.out (by kernel_rfl)) (fun _ _ _ h => h) (Or.inl ⟨by rfl, ?_⟩) ?_ ?_
           rotate_left
           ·intro w'
            go_simp
            with_reducible rfl
           rotate_left
           ·simp only [Act.put, List.setIfInBounds_toArray, List.set_cons_zero, List.set_cons_succ, i64_w, i32_w]
            rfl
           refine pure_ (i := 7) (N := some 52) (v := ?_) (a' := ?_) #[true, true, true, true, false, true, true, true, false, false, false, false, false, false, false] rfl rfl (any_of HT_.out (by kernel_rfl)) (fun _ _ _ h => h) (Or.inl ⟨by rfl, ?_⟩) ?_ ?_
           rotate_left
           ·intro w'
            go_simp
            with_reducible rfl
           rotate_left
           ·simp only [Act.put, List.setIfInBounds_toArray, List.set_cons_zero, List.set_cons_succ, i64_w, i32_w]
            rfl
           refine take_ (i := 4) (N := some 49) (v := ?_) (a' := ?_) #[true, true, true, true, true, true, true, true, false, false, false, false, false, false, false] rfl rfl (take_ofW HT_.out HW_.out (by kernel_rfl)) (fun _ _ _ h => h) (Or.inl ⟨by rfl, ?_⟩) hHeld ?_ ?_
           rotate_left
           ·rintro w' ⟨s0, s1⟩
            go_simp
            with_reducible rfl
           rotate_left
           ·simp only [Act.put, List.setIfInBounds_toArray, List.set_cons_zero, List.set_cons_succ, i64_w, i32_w]
            rfl
           refine take_ (i := 8) (N := some 53) (v := ?_) (a' := ?_) #[true, true, true, true, true, true, true, true, true, false, false, false, false, false, false] rfl rfl (take_ofW HT_.out HW_.out (by kernel_rfl)) (fun _ _ _ h => h) (Or.inl ⟨by rfl, ?_⟩) hHeld ?_ ?_
           rotate_left
           ·rintro w' ⟨s0, s1⟩
            go_simp
            with_reducible rfl
           rotate_left
           ·simp only [Act.put, List.setIfInBounds_toArray, List.set_cons_zero, List.set_cons_succ, i64_w, i32_w]
            rfl
           refine one_ (i := 9) (N := some 54) #[true, true, true, true, true, true, true, true, true, true, false, false, false, false, false] rfl rfl (one_of HT_.out (by kernel_rfl)) (by decide) (fun K hK => ?_)
           refine goes_ Tryz.func36 (by kernel_rfl) rfl #[.slice Ao23 t329.length co23, .string (rdOf ByteArray.empty y342 x6_1), .string (rdOf ByteArray.empty y342 x7_2)] (by rfl) rfl rfl (by (try simp only [List.map_toArray, List.map_cons, List.map_nil]); first | done | rfl | (simp only [List.length_drop, List.length_take]; rfl)) ?_
           with_reducible refine (wayzgooselaw03_uses.calls k2 _ _ t329 (rdOf ByteArray.empty y342 x6_1) (rdOf ByteArray.empty y342 x7_2) t348 t349 _ ?side1 ?side2 A18.out).mono ?_
           (case side1 => repeat (first | exact (Kd.R_reads' HO_4.out).2.2 | (with_reducible refine Kd.C_alloc ?_ _) | (with_reducible refine Kd.C_drewN ?_ _) | (with_reducible refine Kd.C_drew ?_)))
           (case side2 => exact (Kd.R_reads' HO_4.out).2.1)
           rintro e w24 ⟨rfl, hb⟩
           have HS0_ := (hb.cell (World.block_lt_of_cell? _ _ (hHeld.1))).trans (hHeld.1)
           have HS1_ := (hb.cell (World.block_lt_of_cell? _ _ (hHeld.2))).trans (hHeld.2)
           refine ⟨_, rfl, ?_⟩
           have n0_ := Aside0.mk (Kd.R_below (by (with_reducible repeat (first | apply Kd.R_alloc | apply Kd.R_drewN | apply Kd.R_drew)); exact HO_4.out) hb)
           have n1_ := Aside0.mk (Kd.R_below (by (with_reducible repeat (first | apply Kd.R_alloc | apply Kd.R_drewN | apply Kd.R_drew)); exact HO_5.out) hb)
           have n2_ := Aside0.mk (below_step (by repeat (first | (with_reducible first | exact HB.out | apply below_alloc | apply pw_below_drewN | apply below_drew1) | exact HB.out)) hb)
           clear HO_4
           clear HO_5
           clear HB
           have HO_4 := n0_
           have HO_5 := n1_
           have HB := n2_
           clear n0_ n1_ n2_
           (try clear hb)
           (try clear hb2)
           (try clear hk)
           (try clear hi)
           refine hK.out _ _ ⟨HS0_, HS1_⟩ (fun hHeld => ?_)
           clear hK K
           refine norm_ (a' := ?_) ?_ ?_
           rotate_left
           ·show Act.put _ (some 54) _ = _
            simp only [Act.put, List.setIfInBounds_toArray, List.set_cons_zero, List.set_cons_succ, i64_w, i32_w]
            rfl
           refine pure_ (i := 10) (N := some 44) (v := ?_) (a' := ?_) #[true, true, true, true, true, true, true, true, true, true, true, false, false, false, false] rfl rfl (any_of HT_.out (by kernel_rfl)) (fun _ _ _ h => h) (Or.inl ⟨by rfl, ?_⟩) ?_ ?_
           rotate_left
           ·intro w'
            go_simp
            with_reducible rfl
           rotate_left
           ·simp only [Act.put, List.setIfInBounds_toArray, List.set_cons_zero, List.set_cons_succ, i64_w, i32_w]
            rfl
           refine pure_ (i := 11) (N := some 55) (v := ?_) (a' := ?_) #[true, true, true, true, true, true, true, true, true, true, true, true, false, false, false] rfl rfl (any_of HT_.out (by kernel_rfl)) (fun _ _ _ h => h) (Or.inl ⟨by rfl, ?_⟩) ?_ ?_
           rotate_left
           ·intro w'
            go_simp
            with_reducible rfl
           rotate_left
           ·simp only [Act.put, List.setIfInBounds_toArray, List.set_cons_zero, List.set_cons_succ, i64_w, i32_w]
            rfl
           refine pure_ (i := 12) (N := some 56) (v := ?_) (a' := ?_) #[true, true, true, true, true, true, true, true, true, true, true, true, true, false, false] rfl rfl (any_of HT_.out (by kernel_rfl)) (fun _ _ _ h => h) (Or.inl ⟨by rfl, ?_⟩) ?_ ?_
           rotate_left
           ·intro w'
            go_simp
            with_reducible rfl
           rotate_left
           ·simp only [Act.put, List.setIfInBounds_toArray, List.set_cons_zero, List.set_cons_succ, i64_w, i32_w]
            rfl
           refine pure_ (i := 13) (N := some 8) (v := ?_) (a' := ?_) #[true, true, true, true, true, true, true, true, true, true, true, true, true, true, false] rfl rfl (any_of HT_.out (by kernel_rfl)) (fun _ _ _ h => h) (Or.inl ⟨by rfl, ?_⟩) ?_ ?_
           rotate_left
           ·intro w'
            go_simp
            with_reducible rfl
           rotate_left
           ·simp only [Act.put, List.setIfInBounds_toArray, List.set_cons_zero, List.set_cons_succ, i64_w, i32_w]
            rfl
           refine pure_ (i := 14) (N := some 9) (v := ?_) (a' := ?_) #[true, true, true, true, true, true, true, true, true, true, true, true, true, true, true] rfl rfl (any_of HT_.out (by kernel_rfl)) (fun _ _ _ h => h) (Or.inl ⟨by rfl, ?_⟩) ?_ ?_
           rotate_left
           ·intro w'
            go_simp
            with_reducible rfl
           rotate_left
           ·simp only [Act.put, List.setIfInBounds_toArray, List.set_cons_zero, List.set_cons_succ, i64_w, i32_w]
            rfl
           refine done_ (done_of HT_.out (by kernel_rfl)) ?_
           try go_wp2
           have n0_ := Aside0.mk (Kd.R_drew HO_4.out)
           have n1_ := Aside0.mk (Kd.R_drew HO_5.out)
           have n2_ := Aside0.mk (below_drew1 HB.out)
           clear HO_4
           clear HO_5
           clear HB
           have HO_4 := n0_
           have HO_5 := n1_
           have HB := n2_
           clear n0_ n1_ n2_
           have p350 : 0 ≤ (x6_1 : Int) := of_decide_eq_true (by first | (with_reducible assumption) | assumption)
           have q350 : x6_1 < (y342.length : Int) := of_decide_eq_true (by first | (with_reducible assumption) | assumption)
           obtain ⟨ad350, e350, hx350_0⟩ := Kd.at_string (Kd.R_reads' HO_5.out).2.2 x6_1 p350 q350
           obtain rfl : ad346 = ad350 := (by injection e350)
           replace p350 := eq_true p350
           replace q350 := eq_true q350
           have p351 : 0 ≤ (x7_2 : Int) := of_decide_eq_true (by first | (with_reducible assumption) | assumption)
           have q351 : x7_2 < (y342.length : Int) := of_decide_eq_true (by first | (with_reducible assumption) | assumption)
           obtain ⟨ad351, e351, hx351_0⟩ := Kd.at_string (Kd.R_reads' HO_5.out).2.2 x7_2 p351 q351
           obtain rfl : ad346 = ad351 := (by injection e351)
           replace p351 := eq_true p351
           replace q351 := eq_true q351
           refine start_ (n := 15) (S := fun w' => w'.cell? (ad346.add (x6_1).toNat) = some (.string (rdOf ByteArray.empty y342 x6_1)) ∧ w'.cell? (ad346.add (x7_2).toNat) = some (.string (rdOf ByteArray.empty y342 x7_2))) (ds := []) #[false, false, false, false, false, false, false, false, false, false, false, false, false, false, false] (by kernel_rfl) rfl rfl ⟨hx350_0, hx351_0⟩ (fun hHeld => ?_); refine with_tabW wayzgooselaw03_NameSteps.tab10 wayzgooselaw03_NameSteps.bits10 (fun HT_ HW_ => ?_)
           generalize w24.drew = w25 at HO_4 HO_5 HB hx350_0 hx351_0 hHeld ⊢
           refine pure_ (i := 0) (N := some 58) (v := ?_) (a' := ?_) #[true, false, false, false, false, false, false, false, false, false, false, false, false, false, false] rfl rfl (any_of HT_.out (by kernel_rfl)) (fun _ _ _ h => h) (Or.inl ⟨by rfl, ?_⟩) ?_ ?_
           rotate_left
           ·intro w'
            go_simp
            with_reducible rfl
           rotate_left
           ·simp only [Act.put, List.setIfInBounds_toArray, List.set_cons_zero, List.set_cons_succ, i64_w, i32_w]
            rfl
           refine pure_ (i := 1) (N := some 59) (v := ?_) (a' := ?_) #[true, true, false, false, false, false, false, false, false, false, false, false, false, false, false] rfl rfl (any_of HT_.out (by kernel_rfl)) (fun _ _ _ h => h) (Or.inl ⟨by rfl, ?_⟩) ?_ ?_
           rotate_left
           ·intro w'
            go_simp
            with_reducible rfl
           rotate_left
           ·simp only [Act.put, List.setIfInBounds_toArray, List.set_cons_zero, List.set_cons_succ, i64_w, i32_w]
            rfl
           refine pure_ (i := 2) (N := some 60) (v := ?_) (a' := ?_) #[true, true, true, false, false, false, false, false, false, false, false, false, false, false, false] rfl rfl (any_of HT_.out (by kernel_rfl)) (fun _ _ _ h => h) (Or.inl ⟨by rfl, ?_⟩) ?_ ?_
           rotate_left
           ·intro w'
            go_simp
            with_reducible rfl
           rotate_left
           ·simp only [Act.put, List.setIfInBounds_toArray, List.set_cons_zero, List.set_cons_succ, i64_w, i32_w]
            rfl
           refine pure_ (i := 3) (N := some 61) (v := ?_) (a' := ?_) #[true, true, true, true, false, false, false, false, false, false, false, false, false, false, false] rfl rfl (any_of HT_.out (by kernel_rfl)) (fun _ _ _ h => h) (Or.inl ⟨by rfl, ?_⟩) ?_ ?_
           rotate_left
           ·intro w'
            go_simp
            with_reducible rfl
           rotate_left
           ·simp only [Act.put, List.setIfInBounds_toArray, List.set_cons_zero, List.set_cons_succ, i64_w, i32_w]
            rfl
           refine pure_ (i := 5) (N := some 63) (v := ?_) (a' := ?_) #[true, true, true, true, false, true, false, false, false, false, false, false, false, false, false] rfl rfl (any_of HT_.out (by kernel_rfl)) (fun _ _ _ h => h) (Or.inl ⟨by rfl, ?_⟩) ?_ ?_
           rotate_left
           ·intro w'
            go_simp
            with_reducible rfl
           rotate_left
           ·simp only [Act.put, List.setIfInBounds_toArray, List.set_cons_zero, List.set_cons_succ, i64_w, i32_w]
            rfl
           refine pure_ (i := 6) (N := some 64) (v := ?_) (a' := ?_) #[true, true, true, true, false, true, true, false, false, false, false, false, false, false, false] rfl rfl (any_of HT_.out (by kernel_rfl)) (fun _ _ _ h => h) (Or.inl ⟨by rfl, ?_⟩) ?_ ?_
           rotate_left
           ·intro w'
            go_simp
            with_reducible rfl
           rotate_left
           ·simp only [Act.put, List.setIfInBounds_toArray, List.set_cons_zero, List.set_cons_succ, i64_w, i32_w]
            rfl
           refine pure_ (i := 7) (N := some 65) (v := ?_) (a' := ?_) #[true, true, true, true, false, true, true, true, false, false, false, false, false, false, false] rfl rfl (any_of HT_.out (by kernel_rfl)) (fun _ _ _ h => h) (Or.inl ⟨by rfl, ?_⟩) ?_ ?_
           rotate_left
           ·intro w'
            go_simp
            with_reducible rfl
           rotate_left
           ·simp only [Act.put, List.setIfInBounds_toArray, List.set_cons_zero, List.set_cons_succ, i64_w, i32_w]
            rfl
           refine take_ (i := 4) (N := some 62) (v := ?_) (a' := ?_) #[true, true, true, true, true, true, true, true, false, false, false, false, false, false, false] rfl rfl (take_ofW HT_.out HW_.out (by kernel_rfl)) (fun _ _ _ h => h) (Or.inl ⟨by rfl, ?_⟩) hHeld ?_ ?_
           rotate_left
           ·rintro w' ⟨s0, s1⟩
            go_simp
            with_reducible rfl
           rotate_left
           ·simp only [Act.put, List.setIfInBounds_toArray, List.set_cons_zero, List.set_cons_succ, i64_w, i32_w]
            rfl
           refine take_ (i := 8) (N := some 66) (v := ?_) (a' := ?_) #[true, true, true, true, true, true, true, true, true, false, false, false, false, false, false] rfl rfl (take_ofW HT_.out HW_.out (by kernel_rfl)) (fun _ _ _ h => h) (Or.inl ⟨by rfl, ?_⟩) hHeld ?_ ?_
           rotate_left
           ·rintro w' ⟨s0, s1⟩
            go_simp
            with_reducible rfl
           rotate_left
           ·simp only [Act.put, List.setIfInBounds_toArray, List.set_cons_zero, List.set_cons_succ, i64_w, i32_w]
            rfl
           refine one_ (i := 9) (N := some 67) #[true, true, true, true, true, true, true, true, true, true, false, false, false, false, false] rfl rfl (one_of HT_.out (by kernel_rfl)) (by decide) (fun K hK => ?_)
           refine goes_ Tryz.func38 (by kernel_rfl) rfl #[.slice Ao23 t329.length co23, .string (rdOf ByteArray.empty y342 x6_1), .string (rdOf ByteArray.empty y342 x7_2)] (by rfl) rfl rfl (by (try simp only [List.map_toArray, List.map_cons, List.map_nil]); first | done | rfl | (simp only [List.length_drop, List.length_take]; rfl)) ?_
           with_reducible refine (name_Chain.calls k2 _ _ t329 (rdOf ByteArray.empty y342 x6_1) (rdOf ByteArray.empty y342 x7_2) t352 t353 _ ?side1 ?side2 A19.out).mono ?_
           (case side1 => repeat (first | exact (Kd.R_reads' HO_4.out).2.2 | (with_reducible refine Kd.C_alloc ?_ _) | (with_reducible refine Kd.C_drewN ?_ _) | (with_reducible refine Kd.C_drew ?_)))
           (case side2 => exact (Kd.R_reads' HO_4.out).2.1)
           rintro e w26 ⟨v354, rfl, ho0, hb⟩
           have HS0_ := (hb.cell (World.block_lt_of_cell? _ _ (hHeld.1))).trans (hHeld.1)
           have HS1_ := (hb.cell (World.block_lt_of_cell? _ _ (hHeld.2))).trans (hHeld.2)
           refine ⟨_, rfl, ?_⟩
           have n0_ := Aside0.mk (Kd.R_below (by (with_reducible repeat (first | apply Kd.R_alloc | apply Kd.R_drewN | apply Kd.R_drew)); exact HO_4.out) hb)
           have n1_ := Aside0.mk (Kd.R_elder' (by (with_reducible repeat (first | apply Kd.R_alloc | apply Kd.R_drewN | apply Kd.R_drew)); exact HO_5.out) (Kd.R_base ho0) hb)
           have n2_ := Aside0.mk (Kd.R_lower (Kd.R_new' ho0 (Kd.R_lt (by (with_reducible repeat (first | apply Kd.R_alloc | apply Kd.R_drewN | apply Kd.R_drew)); exact HO_5.out))) (below_size (by repeat (first | (with_reducible first | exact HB.out | apply below_alloc | apply pw_below_drewN | apply below_drew1) | exact HB.out))))
           have n3_ := Aside0.mk (below_step (by repeat (first | (with_reducible first | exact HB.out | apply below_alloc | apply pw_below_drewN | apply below_drew1) | exact HB.out)) hb)
           clear HO_4
           clear HO_5
           clear HB
           have HO_4 := n0_
           have HO_5 := n1_
           have HO355 := n2_
           have HB := n3_
           clear n0_ n1_ n2_ n3_
           (try clear hb)
           (try clear hb2)
           (try clear hk)
           (try clear hi)
           (try clear ho0)
           refine hK.out _ _ ⟨HS0_, HS1_⟩ (fun hHeld => ?_)
           clear hK K
           refine norm_ (a' := ?_) ?_ ?_
           rotate_left
           ·show Act.put _ (some 67) _ = _
            simp only [Act.put, List.setIfInBounds_toArray, List.set_cons_zero, List.set_cons_succ, i64_w, i32_w]
            rfl
           refine pure_ (i := 10) (N := some 57) (v := ?_) (a' := ?_) #[true, true, true, true, true, true, true, true, true, true, true, false, false, false, false] rfl rfl (any_of HT_.out (by kernel_rfl)) (fun _ _ _ h => h) (Or.inl ⟨by rfl, ?_⟩) ?_ ?_
           rotate_left
           ·intro w'
            go_simp
            with_reducible rfl
           rotate_left
           ·simp only [Act.put, List.setIfInBounds_toArray, List.set_cons_zero, List.set_cons_succ, i64_w, i32_w]
            rfl
           refine pure_ (i := 11) (N := some 68) (v := ?_) (a' := ?_) #[true, true, true, true, true, true, true, true, true, true, true, true, false, false, false] rfl rfl (any_of HT_.out (by kernel_rfl)) (fun _ _ _ h => h) (Or.inl ⟨by rfl, ?_⟩) ?_ ?_
           rotate_left
           ·intro w'
            go_simp
            with_reducible rfl
           rotate_left
           ·simp only [Act.put, List.setIfInBounds_toArray, List.set_cons_zero, List.set_cons_succ, i64_w, i32_w]
            rfl
           refine pure_ (i := 12) (N := some 69) (v := ?_) (a' := ?_) #[true, true, true, true, true, true, true, true, true, true, true, true, true, false, false] rfl rfl (any_of HT_.out (by kernel_rfl)) (fun _ _ _ h => h) (Or.inl ⟨by rfl, ?_⟩) ?_ ?_
           rotate_left
           ·intro w'
            go_simp
            with_reducible rfl
           rotate_left
           ·simp only [Act.put, List.setIfInBounds_toArray, List.set_cons_zero, List.set_cons_succ, i64_w, i32_w]
            rfl
           refine pure_ (i := 13) (N := some 10) (v := ?_) (a' := ?_) #[true, true, true, true, true, true, true, true, true, true, true, true, true, true, false] rfl rfl (any_of HT_.out (by kernel_rfl)) (fun _ _ _ h => h) (Or.inl ⟨by rfl, ?_⟩) ?_ ?_
           rotate_left
           ·intro w'
            go_simp
            with_reducible rfl
           rotate_left
           ·simp only [Act.put, List.setIfInBounds_toArray, List.set_cons_zero, List.set_cons_succ, i64_w, i32_w]
            rfl
           refine pure_ (i := 14) (N := some 11) (v := ?_) (a' := ?_) #[true, true, true, true, true, true, true, true, true, true, true, true, true, true, true] rfl rfl (any_of HT_.out (by kernel_rfl)) (fun _ _ _ h => h) (Or.inl ⟨by rfl, ?_⟩) ?_ ?_
           rotate_left
           ·intro w'
            go_simp
            with_reducible rfl
           rotate_left
           ·simp only [Act.put, List.setIfInBounds_toArray, List.set_cons_zero, List.set_cons_succ, i64_w, i32_w]
            rfl
           refine done_ (done_of HT_.out (by kernel_rfl)) ?_
           try go_wp2
           have n0_ := Aside0.mk (Kd.R_drew HO_4.out)
           have n1_ := Aside0.mk (Kd.R_drew HO_5.out)
           have n2_ := Aside0.mk (Kd.R_drew HO355.out)
           have n3_ := Aside0.mk (below_drew1 HB.out)
           clear HO_4
           clear HO_5
           clear HO355
           clear HB
           have HO_4 := n0_
           have HO_5 := n1_
           have HO355 := n2_
           have HB := n3_
           clear n0_ n1_ n2_ n3_
           have p356 : 0 ≤ (x6_1 : Int) := of_decide_eq_true (by first | (with_reducible assumption) | assumption)
           have q356 : x6_1 < (y342.length : Int) := of_decide_eq_true (by first | (with_reducible assumption) | assumption)
           obtain ⟨ad356, e356, hx356_0⟩ := Kd.at_string (Kd.R_reads' HO_5.out).2.2 x6_1 p356 q356
           obtain rfl : ad346 = ad356 := (by injection e356)
           replace p356 := eq_true p356
           replace q356 := eq_true q356
           have p357 : 0 ≤ (x7_2 : Int) := of_decide_eq_true (by first | (with_reducible assumption) | assumption)
           have q357 : x7_2 < (y342.length : Int) := of_decide_eq_true (by first | (with_reducible assumption) | assumption)
           obtain ⟨ad357, e357, hx357_0⟩ := Kd.at_string (Kd.R_reads' HO_5.out).2.2 x7_2 p357 q357
           obtain rfl : ad346 = ad357 := (by injection e357)
           replace p357 := eq_true p357
           replace q357 := eq_true q357
           refine start_ (n := 15) (S := fun w' => w'.cell? (ad346.add (x6_1).toNat) = some (.string (rdOf ByteArray.empty y342 x6_1)) ∧ w'.cell? (ad346.add (x7_2).toNat) = some (.string (rdOf ByteArray.empty y342 x7_2))) (ds := []) #[false, false, false, false, false, false, false, false, false, false, false, false, false, false, false] (by kernel_rfl) rfl rfl ⟨hx356_0, hx357_0⟩ (fun hHeld => ?_); refine with_tabW wayzgooselaw03_NameSteps.tab11 wayzgooselaw03_NameSteps.bits11 (fun HT_ HW_ => ?_)
           generalize w26.drew = w27 at HO_4 HO_5 HO355 HB hx356_0 hx357_0 hHeld ⊢
           refine pure_ (i := 0) (N := some 71) (v := ?_) (a' := ?_) #[true, false, false, false, false, false, false, false, false, false, false, false, false, false, false] rfl rfl (any_of HT_.out (by kernel_rfl)) (fun _ _ _ h => h) (Or.inl ⟨by rfl, ?_⟩) ?_ ?_
           rotate_left
           ·intro w'
            go_simp
            with_reducible rfl
           rotate_left
           ·simp only [Act.put, List.setIfInBounds_toArray, List.set_cons_zero, List.set_cons_succ, i64_w, i32_w]
            rfl
           refine pure_ (i := 1) (N := some 72) (v := ?_) (a' := ?_) #[true, true, false, false, false, false, false, false, false, false, false, false, false, false, false] rfl rfl (any_of HT_.out (by kernel_rfl)) (fun _ _ _ h => h) (Or.inl ⟨by rfl, ?_⟩) ?_ ?_
           rotate_left
           ·intro w'
            go_simp
            with_reducible rfl
           rotate_left
           ·simp only [Act.put, List.setIfInBounds_toArray, List.set_cons_zero, List.set_cons_succ, i64_w, i32_w]
            rfl
           refine pure_ (i := 2) (N := some 73) (v := ?_) (a' := ?_) #[true, true, true, false, false, false, false, false, false, false, false, false, false, false, false] rfl rfl (any_of HT_.out (by kernel_rfl)) (fun _ _ _ h => h) (Or.inl ⟨by rfl, ?_⟩) ?_ ?_
           rotate_left
           ·intro w'
            go_simp
            with_reducible rfl
           rotate_left
           ·simp only [Act.put, List.setIfInBounds_toArray, List.set_cons_zero, List.set_cons_succ, i64_w, i32_w]
            rfl
           refine pure_ (i := 3) (N := some 74) (v := ?_) (a' := ?_) #[true, true, true, true, false, false, false, false, false, false, false, false, false, false, false] rfl rfl (any_of HT_.out (by kernel_rfl)) (fun _ _ _ h => h) (Or.inl ⟨by rfl, ?_⟩) ?_ ?_
           rotate_left
           ·intro w'
            go_simp
            with_reducible rfl
           rotate_left
           ·simp only [Act.put, List.setIfInBounds_toArray, List.set_cons_zero, List.set_cons_succ, i64_w, i32_w]
            rfl
           refine pure_ (i := 5) (N := some 76) (v := ?_) (a' := ?_) #[true, true, true, true, false, true, false, false, false, false, false, false, false, false, false] rfl rfl (any_of HT_.out (by kernel_rfl)) (fun _ _ _ h => h) (Or.inl ⟨by rfl, ?_⟩) ?_ ?_
           rotate_left
           ·intro w'
            go_simp
            with_reducible rfl
           rotate_left
           ·simp only [Act.put, List.setIfInBounds_toArray, List.set_cons_zero, List.set_cons_succ, i64_w, i32_w]
            rfl
           refine pure_ (i := 6) (N := some 77) (v := ?_) (a' := ?_) #[true, true, true, true, false, true, true, false, false, false, false, false, false, false, false] rfl rfl (any_of HT_.out (by kernel_rfl)) (fun _ _ _ h => h) (Or.inl ⟨by rfl, ?_⟩) ?_ ?_
           rotate_left
           ·intro w'
            go_simp
            with_reducible rfl
           rotate_left
           ·simp only [Act.put, List.setIfInBounds_toArray, List.set_cons_zero, List.set_cons_succ, i64_w, i32_w]
            rfl
           refine pure_ (i := 7) (N := some 78) (v := ?_) (a' := ?_) #[true, true, true, true, false, true, true, true, false, false, false, false, false, false, false] rfl rfl (any_of HT_.out (by kernel_rfl)) (fun _ _ _ h => h) (Or.inl ⟨by rfl, ?_⟩) ?_ ?_
           rotate_left
           ·intro w'
            go_simp
            with_reducible rfl
           rotate_left
           ·simp only [Act.put, List.setIfInBounds_toArray, List.set_cons_zero, List.set_cons_succ, i64_w, i32_w]
            rfl
           refine take_ (i := 4) (N := some 75) (v := ?_) (a' := ?_) #[true, true, true, true, true, true, true, true, false, false, false, false, false, false, false] rfl rfl (take_ofW HT_.out HW_.out (by kernel_rfl)) (fun _ _ _ h => h) (Or.inl ⟨by rfl, ?_⟩) hHeld ?_ ?_
           rotate_left
           ·rintro w' ⟨s0, s1⟩
            go_simp
            with_reducible rfl
           rotate_left
           ·simp only [Act.put, List.setIfInBounds_toArray, List.set_cons_zero, List.set_cons_succ, i64_w, i32_w]
            rfl
           refine take_ (i := 8) (N := some 79) (v := ?_) (a' := ?_) #[true, true, true, true, true, true, true, true, true, false, false, false, false, false, false] rfl rfl (take_ofW HT_.out HW_.out (by kernel_rfl)) (fun _ _ _ h => h) (Or.inl ⟨by rfl, ?_⟩) hHeld ?_ ?_
           rotate_left
           ·rintro w' ⟨s0, s1⟩
            go_simp
            with_reducible rfl
           rotate_left
           ·simp only [Act.put, List.setIfInBounds_toArray, List.set_cons_zero, List.set_cons_succ, i64_w, i32_w]
            rfl
           refine one_ (i := 9) (N := some 80) #[true, true, true, true, true, true, true, true, true, true, false, false, false, false, false] rfl rfl (one_of HT_.out (by kernel_rfl)) (by decide) (fun K hK => ?_)
           refine goes_ Tryz.func39 (by kernel_rfl) rfl #[.slice Ao23 t329.length co23, .string (rdOf ByteArray.empty y342 x6_1), .string (rdOf ByteArray.empty y342 x7_2)] (by rfl) rfl rfl (by (try simp only [List.map_toArray, List.map_cons, List.map_nil]); first | done | rfl | (simp only [List.length_drop, List.length_take]; rfl)) ?_
           with_reducible refine (name_Verdict.calls k2 _ _ t329 (rdOf ByteArray.empty y342 x6_1) (rdOf ByteArray.empty y342 x7_2) t358 t359 _ ?side1 ?side2 A20.out).mono ?_
           (case side1 => repeat (first | exact (Kd.R_reads' HO_4.out).2.2 | (with_reducible refine Kd.C_alloc ?_ _) | (with_reducible refine Kd.C_drewN ?_ _) | (with_reducible refine Kd.C_drew ?_)))
           (case side2 => exact (Kd.R_reads' HO_4.out).2.1)
           rintro e w28 ⟨rfl, hb⟩
           have HS0_ := (hb.cell (World.block_lt_of_cell? _ _ (hHeld.1))).trans (hHeld.1)
           have HS1_ := (hb.cell (World.block_lt_of_cell? _ _ (hHeld.2))).trans (hHeld.2)
           refine ⟨_, rfl, ?_⟩
           have n0_ := Aside0.mk (Kd.R_below (by (with_reducible repeat (first | apply Kd.R_alloc | apply Kd.R_drewN | apply Kd.R_drew)); exact HO_4.out) hb)
           have n1_ := Aside0.mk (Kd.R_below (by (with_reducible repeat (first | apply Kd.R_alloc | apply Kd.R_drewN | apply Kd.R_drew)); exact HO_5.out) hb)
           have n2_ := Aside0.mk (Kd.R_below (by (with_reducible repeat (first | apply Kd.R_alloc | apply Kd.R_drewN | apply Kd.R_drew)); exact HO355.out) hb)
           have n3_ := Aside0.mk (below_step (by repeat (first | (with_reducible first | exact HB.out | apply below_alloc | apply pw_below_drewN | apply below_drew1) | exact HB.out)) hb)
           clear HO_4
           clear HO_5
           clear HO355
           clear HB
           have HO_4 := n0_
           have HO_5 := n1_
           have HO355 := n2_
           have HB := n3_
           clear n0_ n1_ n2_ n3_
           (try clear hb)
           (try clear hb2)
           (try clear hk)
           (try clear hi)
           refine hK.out _ _ ⟨HS0_, HS1_⟩ (fun hHeld => ?_)
           clear hK K
           refine norm_ (a' := ?_) ?_ ?_
           rotate_left
           ·show Act.put _ (some 80) _ = _
            simp only [Act.put, List.setIfInBounds_toArray, List.set_cons_zero, List.set_cons_succ, i64_w, i32_w]
            rfl
           refine pure_ (i := 10) (N := some 70) (v := ?_) (a' := ?_) #[true, true, true, true, true, true, true, true, true, true, true, false, false, false, false] rfl rfl (any_of HT_.out (by kernel_rfl)) (fun _ _ _ h => h) (Or.inl ⟨by rfl, ?_⟩) ?_ ?_
           rotate_left
           ·intro w'
            go_simp
            with_reducible rfl
           rotate_left
           ·simp only [Act.put, List.setIfInBounds_toArray, List.set_cons_zero, List.set_cons_succ, i64_w, i32_w]
            rfl
           refine pure_ (i := 11) (N := some 81) (v := ?_) (a' := ?_) #[true, true, true, true, true, true, true, true, true, true, true, true, false, false, false] rfl rfl (any_of HT_.out (by kernel_rfl)) (fun _ _ _ h => h) (Or.inl ⟨by rfl, ?_⟩) ?_ ?_
           rotate_left
           ·intro w'
            go_simp
            with_reducible rfl
           rotate_left
           ·simp only [Act.put, List.setIfInBounds_toArray, List.set_cons_zero, List.set_cons_succ, i64_w, i32_w]
            rfl
           refine pure_ (i := 12) (N := some 82) (v := ?_) (a' := ?_) #[true, true, true, true, true, true, true, true, true, true, true, true, true, false, false] rfl rfl (any_of HT_.out (by kernel_rfl)) (fun _ _ _ h => h) (Or.inl ⟨by rfl, ?_⟩) ?_ ?_
           rotate_left
           ·intro w'
            go_simp
            with_reducible rfl
           rotate_left
           ·simp only [Act.put, List.setIfInBounds_toArray, List.set_cons_zero, List.set_cons_succ, i64_w, i32_w]
            rfl
           refine pure_ (i := 13) (N := some 12) (v := ?_) (a' := ?_) #[true, true, true, true, true, true, true, true, true, true, true, true, true, true, false] rfl rfl (any_of HT_.out (by kernel_rfl)) (fun _ _ _ h => h) (Or.inl ⟨by rfl, ?_⟩) ?_ ?_
           rotate_left
           ·intro w'
            go_simp
            with_reducible rfl
           rotate_left
           ·simp only [Act.put, List.setIfInBounds_toArray, List.set_cons_zero, List.set_cons_succ, i64_w, i32_w]
            rfl
           refine pure_ (i := 14) (N := some 13) (v := ?_) (a' := ?_) #[true, true, true, true, true, true, true, true, true, true, true, true, true, true, true] rfl rfl (any_of HT_.out (by kernel_rfl)) (fun _ _ _ h => h) (Or.inl ⟨by rfl, ?_⟩) ?_ ?_
           rotate_left
           ·intro w'
            go_simp
            with_reducible rfl
           rotate_left
           ·simp only [Act.put, List.setIfInBounds_toArray, List.set_cons_zero, List.set_cons_succ, i64_w, i32_w]
            rfl
           refine done_ (done_of HT_.out (by kernel_rfl)) ?_
           go_upto_region 12 with (fail)
           go_cut [88] (fun v88 wc => ∃ (kq : Nat) (x88_20 : Bool), v88 = .bool x88_20 ∧ Aside0 (wayzgooselaw03_NameSteps.j2 kq t329 y342 x6_1 x7_2 t348 t352 t353 t358 x88_20 = some r) ∧ Aside0 (kq ≤ k2) ∧ Aside0 (Kd.R k83 83 wc w.heap.size (fun _ => True) (.slice Ao23 t329.length co23) t329) ∧ Aside0 (Kd.R Kd.string 9 wc w.heap.size (fun k_ => some k_ ≠ (v354 : Value).ownBlock) (.slice (some ad346) y342.length co13) y342) ∧ Aside0 (Kd.R Kd.string 9 wc w.heap.size (fun k_ => some k_ ≠ ((.slice (some ad346) y342.length co13) : Value).ownBlock) v354 t352) ∧ Aside0 (Below w.heap.size w wc))
           case first =>
            have H := HC21.out
            clear HC21
            by_cases c29 : t349 = true
            ·subst c29
             have H1 : (wayzgooselaw03_NameSteps.j2 k2 t329 y342 x6_1 x7_2 t348 t352 t353 t358 (t359 != 0)) = some r := by rw [if_pos rfl] at H; exact H
             clear H
             have H := H1
             clear H1
             have H' := Aside0.mk H
             clear H
             go_wp2
             go_meet
             case rel => exact ⟨_, ((t359 != 0)), (by first | rfl | (simp; done) | (simp [*]; done)), H', ⟨by have := HK1.out; have := HK2.out; first | omega | exact Nat.le_refl _⟩, ⟨by (with_reducible repeat (first | apply Kd.R_alloc | apply Kd.R_drewN | apply Kd.R_drew)); exact HO_4.out⟩, ⟨by (with_reducible repeat (first | apply Kd.R_alloc | apply Kd.R_drewN | apply Kd.R_drew)); exact Kd.R_mono HO_5.out (fun _ hk => hk.2)⟩, ⟨by (with_reducible repeat (first | apply Kd.R_alloc | apply Kd.R_drewN | apply Kd.R_drew)); exact Kd.R_mono HO355.out (fun _ hk => hk.2)⟩, ⟨by repeat (first | (with_reducible first | exact HB.out | apply below_alloc | apply pw_below_drewN | apply below_drew1) | exact HB.out)⟩⟩
            ·replace c29 := Bool.eq_false_iff.mpr c29
             subst c29
             have H1 : (wayzgooselaw03_NameSteps.j2 k2 t329 y342 x6_1 x7_2 t348 t352 t353 t358 true) = some r := by rw [if_neg (show ¬ (false = true) by decide)] at H; exact H
             clear H
             have H := H1
             clear H1
             have H' := Aside0.mk H
             clear H
             go_wp2
             go_meet
             case rel => exact ⟨_, (true), (by first | rfl | (simp; done) | (simp [*]; done)), H', ⟨by have := HK1.out; have := HK2.out; first | omega | exact Nat.le_refl _⟩, ⟨by (with_reducible repeat (first | apply Kd.R_alloc | apply Kd.R_drewN | apply Kd.R_drew)); exact HO_4.out⟩, ⟨by (with_reducible repeat (first | apply Kd.R_alloc | apply Kd.R_drewN | apply Kd.R_drew)); exact Kd.R_mono HO_5.out (fun _ hk => hk.2)⟩, ⟨by (with_reducible repeat (first | apply Kd.R_alloc | apply Kd.R_drewN | apply Kd.R_drew)); exact Kd.R_mono HO355.out (fun _ hk => hk.2)⟩, ⟨by repeat (first | (with_reducible first | exact HB.out | apply below_alloc | apply pw_below_drewN | apply below_drew1) | exact HB.out)⟩⟩
           case rest => as_aux_lemma =>
            clear HC21
            try clear c1
            try clear c2
            try clear p2
            try clear c3
            try clear p3
            try clear q3
            try clear hx3
            try clear c6
            try clear c12
            try clear c12b0
            try clear c14
            try clear c14b0
            try clear c15
            try clear c15b0
            try clear c16
            try clear c16b0
            try clear c17
            try clear c17b0
            try clear c29
            try clear hx346_0
            try clear hx347_0
            try clear hx350_0
            try clear hx351_0
            try clear hx356_0
            try clear hx357_0
            try clear p2
            try clear p346
            try clear p347
            try clear p350
            try clear p351
            try clear p356
            try clear p357
            try clear q346
            try clear q347
            try clear q350
            try clear q351
            try clear q356
            try clear q357
            obtain ⟨kq, x88_20, rfl, HA, HJ20, HO_4, HO_5, HO_10, HB⟩ := hcut
            cases kq with
            | zero => exact absurd HA.out (by simp [wayzgooselaw03_NameSteps.j2])
            | succ kj20 =>
             have H := HA.out
             clear HA
             simp only [wayzgooselaw03_NameSteps.j2] at H
             by_cases c30 : x88_20 = true
             ·subst c30
              have H1 : (some false) = some r := by rw [if_pos rfl] at H; exact H
              clear H
              have H := H1
              clear H1
              obtain rfl := Option.some.inj H
              go_wp2
              go_ret
              exact ⟨by first | rfl | (simp [errW_none, errW_some] <;> rfl) | (simp [*, errW_none, errW_some] <;> rfl), by repeat (first | (with_reducible first | exact HB.out | apply below_alloc | apply pw_below_drewN | apply below_drew1) | exact HB.out)⟩
             ·replace c30 := Bool.eq_false_iff.mpr c30
              subst c30
              have H1 : (if t348 > 2 then (if t353 = 11 then (if (t352.length : Int) > 0 then (some false) else (if t358 = 2 then (wayzgooselaw03_NameSteps.l1 kj20 t329 y342 x6_1 (wrap64 (x7_2 + 1))) else (some false))) else (some false)) else (if 0 ≤ x6_1 then (if x6_1 < (y342.length : Int) then ((name_Key.f (rdOf ByteArray.empty y342 x6_1)).bind fun bt361 => (if 0 ≤ x7_2 then (if x7_2 < (y342.length : Int) then ((name_Key.f (rdOf ByteArray.empty y342 x7_2)).bind fun bt364 => (if t353 = 0 then (if bt361.2 = 0 then (if bt364.2 = 0 then (if (t352.length : Int) = (wrap64 (t348 + 1)) then (if 0 < (t352.length : Int) then (if (rdOf ByteArray.empty t352 0).toList = bt361.1.toList then (if 0 ≤ t348 then (if t348 < (t352.length : Int) then (if (rdOf ByteArray.empty t352 t348).toList = bt364.1.toList then (if ((t358 == 1) != (t348 == 0)) = true then (wayzgooselaw03_NameSteps.j3 kj20 t329 y342 x6_1 x7_2 t348 t352 true) else (wayzgooselaw03_NameSteps.j3 kj20 t329 y342 x6_1 x7_2 t348 t352 (t358 == 2))) else (wayzgooselaw03_NameSteps.j3 kj20 t329 y342 x6_1 x7_2 t348 t352 true)) else (none)) else (none)) else (wayzgooselaw03_NameSteps.j3 kj20 t329 y342 x6_1 x7_2 t348 t352 true)) else (none)) else (wayzgooselaw03_NameSteps.j3 kj20 t329 y342 x6_1 x7_2 t348 t352 true)) else (wayzgooselaw03_NameSteps.j3 kj20 t329 y342 x6_1 x7_2 t348 t352 true)) else (wayzgooselaw03_NameSteps.j3 kj20 t329 y342 x6_1 x7_2 t348 t352 true)) else (wayzgooselaw03_NameSteps.j3 kj20 t329 y342 x6_1 x7_2 t348 t352 true))) else (none)) else (none))) else (none)) else (none))) = some r := by rw [if_neg (show ¬ (false = true) by decide)] at H; exact H
              clear H
              have H := H1
              clear H1
              by_cases c31 : t348 > 2
              ·rw [if_pos c31] at H
               have c31b0 : decide (2 < t348) = true := decide_eq_true c31
               clear c31
               by_cases c32 : t353 = 11
               ·rw [if_pos c32] at H
                have c32b0 : (t353 == 11) = true := beq_iff_eq.mpr c32
                have c32b1 : (t353 != 11) = false := bne_eq_false_iff_eq.mpr c32
                clear c32
                by_cases c33 : (t352.length : Int) > 0
                ·rw [if_pos c33] at H
                 have c33b0 : decide (0 < (t352.length : Int)) = true := decide_eq_true c33
                 have c33b1 : decide (0 < t352.length) = true := decide_eq_true (by omega)
                 clear c33
                 obtain rfl := Option.some.inj H
                 obtain ⟨Ao34, co34, eo34⟩ := Kd.R_slice HO_10.out
                 subst eo34
                 go_wp2
                 go_ret
                 exact ⟨by first | rfl | (simp [errW_none, errW_some] <;> rfl) | (simp [*, errW_none, errW_some] <;> rfl), by repeat (first | (with_reducible first | exact HB.out | apply below_alloc | apply pw_below_drewN | apply below_drew1) | exact HB.out)⟩
                ·rw [if_neg c33] at H
                 have c33b0 : decide (0 < (t352.length : Int)) = false := decide_eq_false c33
                 have c33b1 : decide (0 < t352.length) = false := decide_eq_false (by omega)
                 clear c33
                 by_cases c35 : t358 = 2
                 ·rw [if_pos c35] at H
                  have c35b0 : (t358 == 2) = true := beq_iff_eq.mpr c35
                  have c35b1 : (t358 != 2) = false := bne_eq_false_iff_eq.mpr c35
                  clear c35
                  have H' := Aside0.mk H
                  clear H
                  obtain ⟨Ao36, co36, eo36⟩ := Kd.R_slice HO_10.out
                  subst eo36
                  go_wp2
                  go_roundg kj20
                  case measure => have := HK1.out; have := HK2.out; have := HJ20.out; omega
                  case rel => exact ⟨(wrap64 (x7_2 + 1)), (by first | rfl | (simp; done) | (simp [*]; done)), H', ⟨by have := HK1.out; have := HK2.out; have := HJ20.out; omega⟩, ⟨by (with_reducible repeat (first | apply Kd.R_alloc | apply Kd.R_drewN | apply Kd.R_drew)); exact HO_4.out⟩, ⟨by (with_reducible repeat (first | apply Kd.R_alloc | apply Kd.R_drewN | apply Kd.R_drew)); exact Kd.R_mono HO_5.out (fun _ hk => trivial)⟩, ⟨by repeat (first | (with_reducible first | exact HB.out | apply below_alloc | apply pw_below_drewN | apply below_drew1) | exact HB.out)⟩⟩
                 ·rw [if_neg c35] at H
                  have c35b0 : (t358 == 2) = false := beq_eq_false_iff_ne.mpr c35
                  have c35b1 : (t358 != 2) = true := bne_iff_ne.mpr c35
                  obtain rfl := Option.some.inj H
                  obtain ⟨Ao37, co37, eo37⟩ := Kd.R_slice HO_10.out
                  subst eo37
                  go_wp2
                  go_ret
                  exact ⟨by first | rfl | (simp [errW_none, errW_some] <;> rfl) | (simp [*, errW_none, errW_some] <;> rfl), by repeat (first | (with_reducible first | exact HB.out | apply below_alloc | apply pw_below_drewN | apply below_drew1) | exact HB.out)⟩
               ·rw [if_neg c32] at H
                have c32b0 : (t353 == 11) = false := beq_eq_false_iff_ne.mpr c32
                have c32b1 : (t353 != 11) = true := bne_iff_ne.mpr c32
                obtain rfl := Option.some.inj H
                go_wp2
                go_ret
                exact ⟨by first | rfl | (simp [errW_none, errW_some] <;> rfl) | (simp [*, errW_none, errW_some] <;> rfl), by repeat (first | (with_reducible first | exact HB.out | apply below_alloc | apply pw_below_drewN | apply below_drew1) | exact HB.out)⟩
              ·rw [if_neg c31] at H
               have c31b0 : decide (2 < t348) = false := decide_eq_false c31
               clear c31
               by_cases c38 : 0 ≤ x6_1
               ·rw [if_pos c38] at H
                have c38b0 : decide (0 ≤ x6_1) = true := decide_eq_true c38
                clear c38
                by_cases c39 : x6_1 < (y342.length : Int)
                ·rw [if_pos c39] at H
                 have c39b0 : decide (x6_1 < (y342.length : Int)) = true := decide_eq_true c39
                 clear c39
                 replace H := Option.bind_eq_some_iff.mp H
                 obtain ⟨⟨t361, t362⟩, A400, H⟩ := H
                 replace H : (if 0 ≤ x7_2 then (if x7_2 < (y342.length : Int) then ((name_Key.f (rdOf ByteArray.empty y342 x7_2)).bind fun bt364 => (if t353 = 0 then (if t362 = 0 then (if bt364.2 = 0 then (if (t352.length : Int) = (wrap64 (t348 + 1)) then (if 0 < (t352.length : Int) then (if (rdOf ByteArray.empty t352 0).toList = t361.toList then (if 0 ≤ t348 then (if t348 < (t352.length : Int) then (if (rdOf ByteArray.empty t352 t348).toList = bt364.1.toList then (if ((t358 == 1) != (t348 == 0)) = true then (wayzgooselaw03_NameSteps.j3 kj20 t329 y342 x6_1 x7_2 t348 t352 true) else (wayzgooselaw03_NameSteps.j3 kj20 t329 y342 x6_1 x7_2 t348 t352 (t358 == 2))) else (wayzgooselaw03_NameSteps.j3 kj20 t329 y342 x6_1 x7_2 t348 t352 true)) else (none)) else (none)) else (wayzgooselaw03_NameSteps.j3 kj20 t329 y342 x6_1 x7_2 t348 t352 true)) else (none)) else (wayzgooselaw03_NameSteps.j3 kj20 t329 y342 x6_1 x7_2 t348 t352 true)) else (wayzgooselaw03_NameSteps.j3 kj20 t329 y342 x6_1 x7_2 t348 t352 true)) else (wayzgooselaw03_NameSteps.j3 kj20 t329 y342 x6_1 x7_2 t348 t352 true)) else (wayzgooselaw03_NameSteps.j3 kj20 t329 y342 x6_1 x7_2 t348 t352 true))) else (none)) else (none)) = some r := H
                 have A40 := Aside0.mk A400
                 clear A400
                 by_cases c41 : 0 ≤ x7_2
                 ·rw [if_pos c41] at H
                  have c41b0 : decide (0 ≤ x7_2) = true := decide_eq_true c41
                  clear c41
                  by_cases c42 : x7_2 < (y342.length : Int)
                  ·rw [if_pos c42] at H
                   have c42b0 : decide (x7_2 < (y342.length : Int)) = true := decide_eq_true c42
                   clear c42
                   replace H := Option.bind_eq_some_iff.mp H
                   obtain ⟨⟨t364, t365⟩, A430, H⟩ := H
                   replace H : (if t353 = 0 then (if t362 = 0 then (if t365 = 0 then (if (t352.length : Int) = (wrap64 (t348 + 1)) then (if 0 < (t352.length : Int) then (if (rdOf ByteArray.empty t352 0).toList = t361.toList then (if 0 ≤ t348 then (if t348 < (t352.length : Int) then (if (rdOf ByteArray.empty t352 t348).toList = t364.toList then (if ((t358 == 1) != (t348 == 0)) = true then (wayzgooselaw03_NameSteps.j3 kj20 t329 y342 x6_1 x7_2 t348 t352 true) else (wayzgooselaw03_NameSteps.j3 kj20 t329 y342 x6_1 x7_2 t348 t352 (t358 == 2))) else (wayzgooselaw03_NameSteps.j3 kj20 t329 y342 x6_1 x7_2 t348 t352 true)) else (none)) else (none)) else (wayzgooselaw03_NameSteps.j3 kj20 t329 y342 x6_1 x7_2 t348 t352 true)) else (none)) else (wayzgooselaw03_NameSteps.j3 kj20 t329 y342 x6_1 x7_2 t348 t352 true)) else (wayzgooselaw03_NameSteps.j3 kj20 t329 y342 x6_1 x7_2 t348 t352 true)) else (wayzgooselaw03_NameSteps.j3 kj20 t329 y342 x6_1 x7_2 t348 t352 true)) else (wayzgooselaw03_NameSteps.j3 kj20 t329 y342 x6_1 x7_2 t348 t352 true)) = some r := H
                   have A43 := Aside0.mk A430
                   clear A430
                   have HC44 := Aside0.mk H
                   clear H
                   have p360 : 0 ≤ (x6_1 : Int) := of_decide_eq_true (by first | (with_reducible assumption) | assumption)
                   have q360 : x6_1 < (y342.length : Int) := of_decide_eq_true (by first | (with_reducible assumption) | assumption)
                   obtain ⟨ad360, e360, hx360_0⟩ := Kd.at_string (Kd.R_reads' HO_5.out).2.2 x6_1 p360 q360
                   obtain rfl : ad346 = ad360 := (by injection e360)
                   replace p360 := eq_true p360
                   replace q360 := eq_true q360
                   go_upto_region 19 with (first | ((with_reducible refine gate_callee (f := 37) rfl ?_); refine goesL_ (some 107) rfl rfl Tryz.func37 (by kernel_rfl) rfl #[.string (rdOf ByteArray.empty y342 x6_1)] rfl (by (try simp only [List.map_toArray, List.map_cons, List.map_nil]); first | done | rfl | (simp only [List.length_drop, List.length_take]; rfl)) ?_; (with_reducible refine (name_Key.calls (rdOf ByteArray.empty y342 x6_1) t361 t362 _ A40.out).mono ?_); rintro e w45 ⟨rfl, hb⟩; refine ⟨_, rfl, ?_⟩; have n0_ := Aside0.mk (Kd.R_below (by (with_reducible repeat (first | apply Kd.R_alloc | apply Kd.R_drewN | apply Kd.R_drew)); exact HO_4.out) hb); have n1_ := Aside0.mk (Kd.R_below (by (with_reducible repeat (first | apply Kd.R_alloc | apply Kd.R_drewN | apply Kd.R_drew)); exact HO_5.out) hb); have n2_ := Aside0.mk (Kd.R_below (by (with_reducible repeat (first | apply Kd.R_alloc | apply Kd.R_drewN | apply Kd.R_drew)); exact HO_10.out) hb); have n3_ := Aside0.mk (below_step (by repeat (first | (with_reducible first | exact HB.out | apply below_alloc | apply pw_below_drewN | apply below_drew1) | exact HB.out)) hb); clear HO_4; clear HO_5; clear HO_10; clear HB; have HO_4 := n0_; have HO_5 := n1_; have HO_10 := n2_; have HB := n3_; clear n0_ n1_ n2_ n3_; (try clear hb); (try clear hb2); (try clear hk); (try clear hi); have p363 : 0 ≤ (x7_2 : Int) := of_decide_eq_true (by first | (with_reducible assumption) | assumption); have q363 : x7_2 < (y342.length : Int) := of_decide_eq_true (by first | (with_reducible assumption) | assumption); obtain ⟨ad363, e363, hx363_0⟩ := Kd.at_string (Kd.R_reads' HO_5.out).2.2 x7_2 p363 q363; obtain rfl : ad346 = ad363 := (by injection e363); replace p363 := eq_true p363; replace q363 := eq_true q363) | ((with_reducible refine gate_callee (f := 37) rfl ?_); refine goesL_ (some 115) rfl rfl Tryz.func37 (by kernel_rfl) rfl #[.string (rdOf ByteArray.empty y342 x7_2)] rfl (by (try simp only [List.map_toArray, List.map_cons, List.map_nil]); first | done | rfl | (simp only [List.length_drop, List.length_take]; rfl)) ?_; (with_reducible refine (name_Key.calls (rdOf ByteArray.empty y342 x7_2) t364 t365 _ A43.out).mono ?_); rintro e w46 ⟨rfl, hb⟩; refine ⟨_, rfl, ?_⟩; have n0_ := Aside0.mk (Kd.R_below (by (with_reducible repeat (first | apply Kd.R_alloc | apply Kd.R_drewN | apply Kd.R_drew)); exact HO_4.out) hb); have n1_ := Aside0.mk (Kd.R_below (by (with_reducible repeat (first | apply Kd.R_alloc | apply Kd.R_drewN | apply Kd.R_drew)); exact HO_5.out) hb); have n2_ := Aside0.mk (Kd.R_below (by (with_reducible repeat (first | apply Kd.R_alloc | apply Kd.R_drewN | apply Kd.R_drew)); exact HO_10.out) hb); have n3_ := Aside0.mk (below_step (by repeat (first | (with_reducible first | exact HB.out | apply below_alloc | apply pw_below_drewN | apply below_drew1) | exact HB.out)) hb); clear HO_4; clear HO_5; clear HO_10; clear HB; have HO_4 := n0_; have HO_5 := n1_; have HO_10 := n2_; have HB := n3_; clear n0_ n1_ n2_ n3_; (try clear hb); (try clear hb2); (try clear hk); (try clear hi)))
                   (try simp only [Act.put, List.setIfInBounds_toArray, List.set_cons_zero, List.set_cons_succ])
                   go_cut [160] (fun v160 wc => ∃ (kq : Nat) (x160_43 : Bool), v160 = .bool x160_43 ∧ Aside0 (wayzgooselaw03_NameSteps.j3 kq t329 y342 x6_1 x7_2 t348 t352 x160_43 = some r) ∧ Aside0 (kq ≤ kj20) ∧ Aside0 (Kd.R k83 83 wc w.heap.size (fun _ => True) (.slice Ao23 t329.length co23) t329) ∧ Aside0 (Kd.R Kd.string 9 wc w.heap.size (fun k_ => some k_ ≠ (v354 : Value).ownBlock) (.slice (some ad346) y342.length co13) y342) ∧ Aside0 (Kd.R Kd.string 9 wc w.heap.size (fun k_ => some k_ ≠ ((.slice (some ad346) y342.length co13) : Value).ownBlock) v354 t352) ∧ Aside0 (Below w.heap.size w wc))
                   case first =>
                    have H := HC44.out
                    clear HC44
                    by_cases c47 : t353 = 0
                    ·rw [if_pos c47] at H
                     have c47b0 : (t353 == 0) = true := beq_iff_eq.mpr c47
                     have c47b1 : (t353 != 0) = false := bne_eq_false_iff_eq.mpr c47
                     clear c47
                     (first | rw [c47b0] | (simp only [i64_w, i32_w]; rw [c47b0]) | skip)
                     by_cases c48 : t362 = 0
                     ·rw [if_pos c48] at H
                      have c48b0 : (t362 == 0) = true := beq_iff_eq.mpr c48
                      have c48b1 : (t362 != 0) = false := bne_eq_false_iff_eq.mpr c48
                      clear c48
                      by_cases c49 : t365 = 0
                      ·rw [if_pos c49] at H
                       have c49b0 : (t365 == 0) = true := beq_iff_eq.mpr c49
                       have c49b1 : (t365 != 0) = false := bne_eq_false_iff_eq.mpr c49
                       clear c49
                       by_cases c50 : (t352.length : Int) = (wrap64 (t348 + 1))
                       ·rw [if_pos c50] at H
                        have c50b0 : ((t352.length : Int) == (wrap64 (t348 + 1))) = true := beq_iff_eq.mpr c50
                        have c50b1 : ((t352.length : Int) != (wrap64 (t348 + 1))) = false := bne_eq_false_iff_eq.mpr c50
                        clear c50
                        by_cases c51 : 0 < (t352.length : Int)
                        ·rw [if_pos c51] at H
                         have c51b0 : decide (0 < (t352.length : Int)) = true := decide_eq_true c51
                         have c51b1 : decide (0 < t352.length) = true := decide_eq_true (by omega)
                         clear c51
                         by_cases c52 : (rdOf ByteArray.empty t352 0).toList = t361.toList
                         ·rw [if_pos c52] at H
                          have c52b0 : ((rdOf ByteArray.empty t352 0).toList == t361.toList) = true := beq_iff_eq.mpr c52
                          have c52b1 : ((rdOf ByteArray.empty t352 0).toList != t361.toList) = false := bne_eq_false_iff_eq.mpr c52
                          clear c52
                          by_cases c53 : 0 ≤ t348
                          ·rw [if_pos c53] at H
                           have c53b0 : decide (0 ≤ t348) = true := decide_eq_true c53
                           clear c53
                           by_cases c54 : t348 < (t352.length : Int)
                           ·rw [if_pos c54] at H
                            have c54b0 : decide (t348 < (t352.length : Int)) = true := decide_eq_true c54
                            clear c54
                            by_cases c55 : (rdOf ByteArray.empty t352 t348).toList = t364.toList
                            ·rw [if_pos c55] at H
                             have c55b0 : ((rdOf ByteArray.empty t352 t348).toList == t364.toList) = true := beq_iff_eq.mpr c55
                             have c55b1 : ((rdOf ByteArray.empty t352 t348).toList != t364.toList) = false := bne_eq_false_iff_eq.mpr c55
                             clear c55
                             by_cases c56 : ((t358 == 1) != (t348 == 0)) = true
                             ·rw [if_pos c56] at H
                              have c56b0 : ((t358 == 1) != (t348 == 0)) = true := c56
                              (try (have c56b1 : decide ((t358 == 1) = (t348 == 0)) = false := by simpa using c56))
                              (try (have c56b2 : ((t358 == 1) == (t348 == 0)) = false := by simpa using c56))
                              (try (have c56b3 : ¬ ((t358 == 1) = (t348 == 0)) := by simpa using c56))
                              clear c56
                              have H' := Aside0.mk H
                              clear H
                              obtain ⟨Ao57, co57, eo57⟩ := Kd.R_slice HO_10.out
                              subst eo57
                              have p366 : 0 ≤ (0 : Int) := (by omega)
                              have q366 : 0 < (t352.length : Int) := of_decide_eq_true (by first | (with_reducible assumption) | assumption)
                              obtain ⟨ad366, e366, hx366_0⟩ := Kd.at_string (Kd.R_reads' HO_10.out).2.2 0 p366 q366
                              cases e366
                              have qi366 : (0 < t352.length) = True := eq_true (by omega)
                              (try rw [show ((0 : Int)).toNat = 0 from rfl] at hx366_0)
                              (try rw [Addr.add_zero'] at hx366_0)
                              replace p366 := eq_true p366
                              replace q366 := eq_true q366
                              have p367 : 0 ≤ (t348 : Int) := of_decide_eq_true (by first | (with_reducible assumption) | assumption)
                              have q367 : t348 < (t352.length : Int) := of_decide_eq_true (by first | (with_reducible assumption) | assumption)
                              obtain ⟨ad367, e367, hx367_0⟩ := Kd.at_string (Kd.R_reads' HO_10.out).2.2 t348 p367 q367
                              obtain rfl : ad366 = ad367 := (by injection e367)
                              replace p367 := eq_true p367
                              replace q367 := eq_true q367
                              go_wp2
                              go_meet
                              case rel => exact ⟨_, (true), (by first | rfl | (simp; done) | (simp [*]; done)), H', ⟨by have := HK1.out; have := HK2.out; have := HJ20.out; first | omega | exact Nat.le_refl _⟩, ⟨by (with_reducible repeat (first | apply Kd.R_alloc | apply Kd.R_drewN | apply Kd.R_drew)); exact HO_4.out⟩, ⟨by (with_reducible repeat (first | apply Kd.R_alloc | apply Kd.R_drewN | apply Kd.R_drew)); exact HO_5.out⟩, ⟨by (with_reducible repeat (first | apply Kd.R_alloc | apply Kd.R_drewN | apply Kd.R_drew)); exact HO_10.out⟩, ⟨by repeat (first | (with_reducible first | exact HB.out | apply below_alloc | apply pw_below_drewN | apply below_drew1) | exact HB.out)⟩⟩
                             ·rw [if_neg c56] at H
                              have c56b0 : ((t358 == 1) != (t348 == 0)) = false := by simpa using c56
                              (try (have c56b1 : decide ((t358 == 1) = (t348 == 0)) = true := by simpa using c56))
                              (try (have c56b2 : ((t358 == 1) == (t348 == 0)) = true := by simpa using c56))
                              clear c56
                              have H' := Aside0.mk H
                              clear H
                              obtain ⟨Ao58, co58, eo58⟩ := Kd.R_slice HO_10.out
                              subst eo58
                              have p366 : 0 ≤ (0 : Int) := (by omega)
                              have q366 : 0 < (t352.length : Int) := of_decide_eq_true (by first | (with_reducible assumption) | assumption)
                              obtain ⟨ad366, e366, hx366_0⟩ := Kd.at_string (Kd.R_reads' HO_10.out).2.2 0 p366 q366
                              cases e366
                              have qi366 : (0 < t352.length) = True := eq_true (by omega)
                              (try rw [show ((0 : Int)).toNat = 0 from rfl] at hx366_0)
                              (try rw [Addr.add_zero'] at hx366_0)
                              replace p366 := eq_true p366
                              replace q366 := eq_true q366
                              have p367 : 0 ≤ (t348 : Int) := of_decide_eq_true (by first | (with_reducible assumption) | assumption)
                              have q367 : t348 < (t352.length : Int) := of_decide_eq_true (by first | (with_reducible assumption) | assumption)
                              obtain ⟨ad367, e367, hx367_0⟩ := Kd.at_string (Kd.R_reads' HO_10.out).2.2 t348 p367 q367
                              obtain rfl : ad366 = ad367 := (by injection e367)
                              replace p367 := eq_true p367
                              replace q367 := eq_true q367
                              go_wp2
                              go_meet
                              case rel => exact ⟨_, ((t358 == 2)), (by first | rfl | (simp; done) | (simp [*]; done)), H', ⟨by have := HK1.out; have := HK2.out; have := HJ20.out; first | omega | exact Nat.le_refl _⟩, ⟨by (with_reducible repeat (first | apply Kd.R_alloc | apply Kd.R_drewN | apply Kd.R_drew)); exact HO_4.out⟩, ⟨by (with_reducible repeat (first | apply Kd.R_alloc | apply Kd.R_drewN | apply Kd.R_drew)); exact HO_5.out⟩, ⟨by (with_reducible repeat (first | apply Kd.R_alloc | apply Kd.R_drewN | apply Kd.R_drew)); exact HO_10.out⟩, ⟨by repeat (first | (with_reducible first | exact HB.out | apply below_alloc | apply pw_below_drewN | apply below_drew1) | exact HB.out)⟩⟩
                            ·rw [if_neg c55] at H
                             have c55b0 : ((rdOf ByteArray.empty t352 t348).toList == t364.toList) = false := beq_eq_false_iff_ne.mpr c55
                             have c55b1 : ((rdOf ByteArray.empty t352 t348).toList != t364.toList) = true := bne_iff_ne.mpr c55
                             have H' := Aside0.mk H
                             clear H
                             obtain ⟨Ao59, co59, eo59⟩ := Kd.R_slice HO_10.out
                             subst eo59
                             have p366 : 0 ≤ (0 : Int) := (by omega)
                             have q366 : 0 < (t352.length : Int) := of_decide_eq_true (by first | (with_reducible assumption) | assumption)
                             obtain ⟨ad366, e366, hx366_0⟩ := Kd.at_string (Kd.R_reads' HO_10.out).2.2 0 p366 q366
                             cases e366
                             have qi366 : (0 < t352.length) = True := eq_true (by omega)
                             (try rw [show ((0 : Int)).toNat = 0 from rfl] at hx366_0)
                             (try rw [Addr.add_zero'] at hx366_0)
                             replace p366 := eq_true p366
                             replace q366 := eq_true q366
                             have p367 : 0 ≤ (t348 : Int) := of_decide_eq_true (by first | (with_reducible assumption) | assumption)
                             have q367 : t348 < (t352.length : Int) := of_decide_eq_true (by first | (with_reducible assumption) | assumption)
                             obtain ⟨ad367, e367, hx367_0⟩ := Kd.at_string (Kd.R_reads' HO_10.out).2.2 t348 p367 q367
                             obtain rfl : ad366 = ad367 := (by injection e367)
                             replace p367 := eq_true p367
                             replace q367 := eq_true q367
                             go_wp2
                             go_meet
                             case rel => exact ⟨_, (true), (by first | rfl | (simp; done) | (simp [*]; done)), H', ⟨by have := HK1.out; have := HK2.out; have := HJ20.out; first | omega | exact Nat.le_refl _⟩, ⟨by (with_reducible repeat (first | apply Kd.R_alloc | apply Kd.R_drewN | apply Kd.R_drew)); exact HO_4.out⟩, ⟨by (with_reducible repeat (first | apply Kd.R_alloc | apply Kd.R_drewN | apply Kd.R_drew)); exact HO_5.out⟩, ⟨by (with_reducible repeat (first | apply Kd.R_alloc | apply Kd.R_drewN | apply Kd.R_drew)); exact HO_10.out⟩, ⟨by repeat (first | (with_reducible first | exact HB.out | apply below_alloc | apply pw_below_drewN | apply below_drew1) | exact HB.out)⟩⟩
                           ·rw [if_neg c54] at H
                            exact absurd H (by simp)
                          ·rw [if_neg c53] at H
                           exact absurd H (by simp)
                         ·rw [if_neg c52] at H
                          have c52b0 : ((rdOf ByteArray.empty t352 0).toList == t361.toList) = false := beq_eq_false_iff_ne.mpr c52
                          have c52b1 : ((rdOf ByteArray.empty t352 0).toList != t361.toList) = true := bne_iff_ne.mpr c52
                          have H' := Aside0.mk H
                          clear H
                          obtain ⟨Ao60, co60, eo60⟩ := Kd.R_slice HO_10.out
                          subst eo60
                          have p366 : 0 ≤ (0 : Int) := (by omega)
                          have q366 : 0 < (t352.length : Int) := of_decide_eq_true (by first | (with_reducible assumption) | assumption)
                          obtain ⟨ad366, e366, hx366_0⟩ := Kd.at_string (Kd.R_reads' HO_10.out).2.2 0 p366 q366
                          cases e366
                          have qi366 : (0 < t352.length) = True := eq_true (by omega)
                          (try rw [show ((0 : Int)).toNat = 0 from rfl] at hx366_0)
                          (try rw [Addr.add_zero'] at hx366_0)
                          replace p366 := eq_true p366
                          replace q366 := eq_true q366
                          go_wp2
                          go_meet
                          case rel => exact ⟨_, (true), (by first | rfl | (simp; done) | (simp [*]; done)), H', ⟨by have := HK1.out; have := HK2.out; have := HJ20.out; first | omega | exact Nat.le_refl _⟩, ⟨by (with_reducible repeat (first | apply Kd.R_alloc | apply Kd.R_drewN | apply Kd.R_drew)); exact HO_4.out⟩, ⟨by (with_reducible repeat (first | apply Kd.R_alloc | apply Kd.R_drewN | apply Kd.R_drew)); exact HO_5.out⟩, ⟨by (with_reducible repeat (first | apply Kd.R_alloc | apply Kd.R_drewN | apply Kd.R_drew)); exact HO_10.out⟩, ⟨by repeat (first | (with_reducible first | exact HB.out | apply below_alloc | apply pw_below_drewN | apply below_drew1) | exact HB.out)⟩⟩
                        ·rw [if_neg c51] at H
                         exact absurd H (by simp)
                       ·rw [if_neg c50] at H
                        have c50b0 : ((t352.length : Int) == (wrap64 (t348 + 1))) = false := beq_eq_false_iff_ne.mpr c50
                        have c50b1 : ((t352.length : Int) != (wrap64 (t348 + 1))) = true := bne_iff_ne.mpr c50
                        have H' := Aside0.mk H
                        clear H
                        obtain ⟨Ao61, co61, eo61⟩ := Kd.R_slice HO_10.out
                        subst eo61
                        go_wp2
                        go_meet
                        case rel => exact ⟨_, (true), (by first | rfl | (simp; done) | (simp [*]; done)), H', ⟨by have := HK1.out; have := HK2.out; have := HJ20.out; first | omega | exact Nat.le_refl _⟩, ⟨by (with_reducible repeat (first | apply Kd.R_alloc | apply Kd.R_drewN | apply Kd.R_drew)); exact HO_4.out⟩, ⟨by (with_reducible repeat (first | apply Kd.R_alloc | apply Kd.R_drewN | apply Kd.R_drew)); exact HO_5.out⟩, ⟨by (with_reducible repeat (first | apply Kd.R_alloc | apply Kd.R_drewN | apply Kd.R_drew)); exact HO_10.out⟩, ⟨by repeat (first | (with_reducible first | exact HB.out | apply below_alloc | apply pw_below_drewN | apply below_drew1) | exact HB.out)⟩⟩
                      ·rw [if_neg c49] at H
                       have c49b0 : (t365 == 0) = false := beq_eq_false_iff_ne.mpr c49
                       have c49b1 : (t365 != 0) = true := bne_iff_ne.mpr c49
                       have H' := Aside0.mk H
                       clear H
                       go_wp2
                       go_meet
                       case rel => exact ⟨_, (true), (by first | rfl | (simp; done) | (simp [*]; done)), H', ⟨by have := HK1.out; have := HK2.out; have := HJ20.out; first | omega | exact Nat.le_refl _⟩, ⟨by (with_reducible repeat (first | apply Kd.R_alloc | apply Kd.R_drewN | apply Kd.R_drew)); exact HO_4.out⟩, ⟨by (with_reducible repeat (first | apply Kd.R_alloc | apply Kd.R_drewN | apply Kd.R_drew)); exact HO_5.out⟩, ⟨by (with_reducible repeat (first | apply Kd.R_alloc | apply Kd.R_drewN | apply Kd.R_drew)); exact HO_10.out⟩, ⟨by repeat (first | (with_reducible first | exact HB.out | apply below_alloc | apply pw_below_drewN | apply below_drew1) | exact HB.out)⟩⟩
                     ·rw [if_neg c48] at H
                      have c48b0 : (t362 == 0) = false := beq_eq_false_iff_ne.mpr c48
                      have c48b1 : (t362 != 0) = true := bne_iff_ne.mpr c48
                      have H' := Aside0.mk H
                      clear H
                      go_wp2
                      go_meet
                      case rel => exact ⟨_, (true), (by first | rfl | (simp; done) | (simp [*]; done)), H', ⟨by have := HK1.out; have := HK2.out; have := HJ20.out; first | omega | exact Nat.le_refl _⟩, ⟨by (with_reducible repeat (first | apply Kd.R_alloc | apply Kd.R_drewN | apply Kd.R_drew)); exact HO_4.out⟩, ⟨by (with_reducible repeat (first | apply Kd.R_alloc | apply Kd.R_drewN | apply Kd.R_drew)); exact HO_5.out⟩, ⟨by (with_reducible repeat (first | apply Kd.R_alloc | apply Kd.R_drewN | apply Kd.R_drew)); exact HO_10.out⟩, ⟨by repeat (first | (with_reducible first | exact HB.out | apply below_alloc | apply pw_below_drewN | apply below_drew1) | exact HB.out)⟩⟩
                    ·rw [if_neg c47] at H
                     have c47b0 : (t353 == 0) = false := beq_eq_false_iff_ne.mpr c47
                     have c47b1 : (t353 != 0) = true := bne_iff_ne.mpr c47
                     (first | rw [c47b0] | (simp only [i64_w, i32_w]; rw [c47b0]) | skip)
                     have H' := Aside0.mk H
                     clear H
                     go_wp2
                     go_meet
                     case rel => exact ⟨_, (true), (by first | rfl | (simp; done) | (simp [*]; done)), H', ⟨by have := HK1.out; have := HK2.out; have := HJ20.out; first | omega | exact Nat.le_refl _⟩, ⟨by (with_reducible repeat (first | apply Kd.R_alloc | apply Kd.R_drewN | apply Kd.R_drew)); exact HO_4.out⟩, ⟨by (with_reducible repeat (first | apply Kd.R_alloc | apply Kd.R_drewN | apply Kd.R_drew)); exact HO_5.out⟩, ⟨by (with_reducible repeat (first | apply Kd.R_alloc | apply Kd.R_drewN | apply Kd.R_drew)); exact HO_10.out⟩, ⟨by repeat (first | (with_reducible first | exact HB.out | apply below_alloc | apply pw_below_drewN | apply below_drew1) | exact HB.out)⟩⟩
                   case rest => as_aux_lemma =>
                    clear HC44
                    try clear c1
                    try clear c2
                    try clear p2
                    try clear c3
                    try clear p3
                    try clear q3
                    try clear hx3
                    try clear qi3
                    try clear c4
                    try clear c5
                    try clear c6
                    try clear p6
                    try clear c12
                    try clear c12b0
                    try clear c14
                    try clear c14b0
                    try clear c15
                    try clear c15b0
                    try clear c16
                    try clear c16b0
                    try clear c17
                    try clear c17b0
                    try clear c29
                    try clear c30
                    try clear c31
                    try clear c31b0
                    try clear c32
                    try clear c32b0
                    try clear c32b1
                    try clear c33
                    try clear c33b0
                    try clear c33b1
                    try clear p34
                    try clear q34
                    try clear hx34
                    try clear c35
                    try clear c35b0
                    try clear c35b1
                    try clear p35
                    try clear q35
                    try clear hx35
                    try clear p36
                    try clear q36
                    try clear hx36
                    try clear qi36
                    try clear c37
                    try clear c38
                    try clear c38b0
                    try clear c39
                    try clear c39b0
                    try clear c41
                    try clear c41b0
                    try clear c42
                    try clear c42b0
                    try clear c47
                    try clear c47b0
                    try clear c47b1
                    try clear c48
                    try clear c48b0
                    try clear c48b1
                    try clear c49
                    try clear c49b0
                    try clear c49b1
                    try clear c50
                    try clear c50b0
                    try clear c50b1
                    try clear c51
                    try clear c51b0
                    try clear c51b1
                    try clear c52
                    try clear c52b0
                    try clear c52b1
                    try clear c53
                    try clear c53b0
                    try clear c54
                    try clear c54b0
                    try clear c55
                    try clear c55b0
                    try clear c55b1
                    try clear c56
                    try clear c56b0
                    try clear c56b1
                    try clear c56b2
                    try clear hx346_0
                    try clear hx347_0
                    try clear hx350_0
                    try clear hx351_0
                    try clear hx356_0
                    try clear hx357_0
                    try clear hx360_0
                    try clear hx363_0
                    try clear hx366_0
                    try clear hx367_0
                    try clear p2
                    try clear p3
                    try clear p346
                    try clear p347
                    try clear p350
                    try clear p351
                    try clear p356
                    try clear p357
                    try clear p360
                    try clear p363
                    try clear p366
                    try clear p367
                    try clear q3
                    try clear q346
                    try clear q347
                    try clear q350
                    try clear q351
                    try clear q356
                    try clear q357
                    try clear q360
                    try clear q363
                    try clear q366
                    try clear q367
                    obtain ⟨kq, x160_43, rfl, HA, HJ43, HO_4, HO_5, HO_10, HB⟩ := hcut
                    cases kq with
                    | zero => exact absurd HA.out (by simp [wayzgooselaw03_NameSteps.j3])
                    | succ kj43 =>
                     have H := HA.out
                     clear HA
                     simp only [wayzgooselaw03_NameSteps.j3] at H
                     by_cases c62 : x160_43 = true
                     ·subst c62
                      have H1 : (some false) = some r := by rw [if_pos rfl] at H; exact H
                      clear H
                      have H := H1
                      clear H1
                      obtain rfl := Option.some.inj H
                      go_wp2
                      go_ret
                      exact ⟨by first | rfl | (simp [errW_none, errW_some] <;> rfl) | (simp [*, errW_none, errW_some] <;> rfl), by repeat (first | (with_reducible first | exact HB.out | apply below_alloc | apply pw_below_drewN | apply below_drew1) | exact HB.out)⟩
                     ·replace c62 := Bool.eq_false_iff.mpr c62
                      subst c62
                      have H1 : (wayzgooselaw03_NameSteps.l2 kj43 t329 y342 x6_1 x7_2 t348 t352 1) = some r := by rw [if_neg (show ¬ (false = true) by decide)] at H; exact H
                      clear H
                      have H := H1
                      clear H1
                      have H' := Aside0.mk H
                      clear H
                      go_wp2
                      go_loopg [18] kj43 (fun kq v18 w' => ∃ (x18_5 : Int), v18 = .int .i64 x18_5 ∧ Aside0 (wayzgooselaw03_NameSteps.l2 kq t329 y342 x6_1 x7_2 t348 t352 x18_5 = some r) ∧ Aside0 (kq ≤ kj43) ∧ Aside0 (Kd.R k83 83 w' w.heap.size (fun _ => True) (.slice Ao23 t329.length co23) t329) ∧ Aside0 (Kd.R Kd.string 9 w' w.heap.size (fun k_ => some k_ ≠ (v354 : Value).ownBlock) (.slice (some ad346) y342.length co13) y342) ∧ Aside0 (Kd.R Kd.string 9 w' w.heap.size (fun k_ => some k_ ≠ ((.slice (some ad346) y342.length co13) : Value).ownBlock) v354 t352) ∧ Aside0 (Below w.heap.size w w'))
                      case atStart => exact ⟨(1), (by first | rfl | (simp; done) | (simp [*]; done)), H', ⟨Nat.le_refl _⟩, ⟨by (with_reducible repeat (first | apply Kd.R_alloc | apply Kd.R_drewN | apply Kd.R_drew)); exact HO_4.out⟩, ⟨by (with_reducible repeat (first | apply Kd.R_alloc | apply Kd.R_drewN | apply Kd.R_drew)); exact HO_5.out⟩, ⟨by (with_reducible repeat (first | apply Kd.R_alloc | apply Kd.R_drewN | apply Kd.R_drew)); exact HO_10.out⟩, ⟨by repeat (first | (with_reducible first | exact HB.out | apply below_alloc | apply pw_below_drewN | apply below_drew1) | exact HB.out)⟩⟩
                      case round => as_aux_lemma =>
                       clear H'
                       try clear c1
                       try clear c2
                       try clear p2
                       try clear c3
                       try clear p3
                       try clear q3
                       try clear hx3
                       try clear qi3
                       try clear c4
                       try clear c5
                       try clear c6
                       try clear p6
                       try clear c12
                       try clear c12b0
                       try clear c14
                       try clear c14b0
                       try clear c15
                       try clear c15b0
                       try clear c16
                       try clear c16b0
                       try clear c17
                       try clear c17b0
                       try clear c29
                       try clear c30
                       try clear c31
                       try clear c31b0
                       try clear c32
                       try clear c32b0
                       try clear c32b1
                       try clear c33
                       try clear c33b0
                       try clear c33b1
                       try clear p34
                       try clear q34
                       try clear hx34
                       try clear c35
                       try clear c35b0
                       try clear c35b1
                       try clear p35
                       try clear q35
                       try clear hx35
                       try clear p36
                       try clear q36
                       try clear hx36
                       try clear qi36
                       try clear c37
                       try clear c38
                       try clear c38b0
                       try clear c39
                       try clear c39b0
                       try clear c41
                       try clear c41b0
                       try clear c42
                       try clear c42b0
                       try clear c47
                       try clear c47b0
                       try clear c47b1
                       try clear c48
                       try clear c48b0
                       try clear c48b1
                       try clear c49
                       try clear c49b0
                       try clear c49b1
                       try clear c50
                       try clear c50b0
                       try clear c50b1
                       try clear c51
                       try clear c51b0
                       try clear c51b1
                       try clear c52
                       try clear c52b0
                       try clear c52b1
                       try clear c53
                       try clear c53b0
                       try clear c54
                       try clear c54b0
                       try clear c55
                       try clear c55b0
                       try clear c55b1
                       try clear c56
                       try clear c56b0
                       try clear c56b1
                       try clear c56b2
                       try clear c62
                       try clear hx346_0
                       try clear hx347_0
                       try clear hx350_0
                       try clear hx351_0
                       try clear hx356_0
                       try clear hx357_0
                       try clear hx360_0
                       try clear hx363_0
                       try clear hx366_0
                       try clear hx367_0
                       try clear p2
                       try clear p3
                       try clear p34
                       try clear p346
                       try clear p347
                       try clear p35
                       try clear p350
                       try clear p351
                       try clear p356
                       try clear p357
                       try clear p36
                       try clear p360
                       try clear p363
                       try clear p366
                       try clear p367
                       try clear p6
                       try clear q3
                       try clear q34
                       try clear q346
                       try clear q347
                       try clear q35
                       try clear q350
                       try clear q351
                       try clear q356
                       try clear q357
                       try clear q36
                       try clear q360
                       try clear q363
                       try clear q366
                       try clear q367
                       obtain ⟨x18_5, rfl, HA, HK5, HO_4, HO_5, HO_10, HB⟩ := hrel
                       cases gk with
                       | zero => exact absurd HA.out (by simp [wayzgooselaw03_NameSteps.l2])
                       | succ k5 =>
                        have H := HA.out
                        clear HA
                        simp only [wayzgooselaw03_NameSteps.l2] at H
                        by_cases c63 : x18_5 ≤ t348
                        ·rw [if_pos c63] at H
                         have c63b0 : decide (x18_5 ≤ t348) = true := decide_eq_true c63
                         clear c63
                         obtain ⟨ji64, hji64⟩ : ∃ j_ : Int, (wrap64 (x18_5 - 1)) = j_ := ⟨_, rfl⟩
                         replace H : (if 0 ≤ (ji64) then (if (ji64) < (t352.length : Int) then (if ((rdOf ByteArray.empty t352 (ji64)).size : Int) > 12 then (some false) else ((wayzgooseref03_Made.f k5 t329 (rdOf ByteArray.empty t352 (ji64))).bind fun t370 => (wayzgooselaw03_NameSteps.l3 k5 t329 y342 x6_1 x7_2 t348 t352 x18_5 t370 false 0))) else (none)) else (none)) = some r := by first | (rw [hji64] at H; exact H) | (simp only [hji64] at H ⊢; exact H)
                         have hji64w : (IntKind.i64.wrap (x18_5 - 1)) = ji64 := (i64_w _).trans hji64
                         by_cases c65 : 0 ≤ (ji64)
                         ·rw [if_pos c65] at H
                          have c65b0 : decide (0 ≤ (ji64)) = true := decide_eq_true c65
                          clear c65
                          by_cases c66 : (ji64) < (t352.length : Int)
                          ·rw [if_pos c66] at H
                           have c66b0 : decide ((ji64) < (t352.length : Int)) = true := decide_eq_true c66
                           clear c66
                           by_cases c67 : ((rdOf ByteArray.empty t352 (ji64)).size : Int) > 12
                           ·rw [if_pos c67] at H
                            have c67b0 : decide (12 < ((rdOf ByteArray.empty t352 (ji64)).size : Int)) = true := decide_eq_true c67
                            have c67b1 : decide (12 < (rdOf ByteArray.empty t352 (ji64)).size) = true := decide_eq_true (by omega)
                            clear c67
                            obtain rfl := Option.some.inj H
                            obtain ⟨Ao68, co68, eo68⟩ := Kd.R_slice HO_10.out
                            subst eo68
                            have p368 : 0 ≤ ((ji64) : Int) := of_decide_eq_true (by first | (with_reducible assumption) | assumption)
                            have q368 : (ji64) < (t352.length : Int) := of_decide_eq_true (by first | (with_reducible assumption) | assumption)
                            obtain ⟨ad368, e368, hx368_0⟩ := Kd.at_string (Kd.R_reads' HO_10.out).2.2 (ji64) p368 q368
                            cases e368
                            replace p368 := eq_true p368
                            replace q368 := eq_true q368
                            go_wp2
                            go_ret
                            exact ⟨by first | rfl | (simp [errW_none, errW_some] <;> rfl) | (simp only [← hji64]; first | rfl | (simp [errW_none, errW_some] <;> rfl)) | (simp [*, errW_none, errW_some] <;> rfl), by repeat (first | (with_reducible first | exact HB.out | apply below_alloc | apply pw_below_drewN | apply below_drew1) | exact HB.out)⟩
                           ·rw [if_neg c67] at H
                            have c67b0 : decide (12 < ((rdOf ByteArray.empty t352 (ji64)).size : Int)) = false := decide_eq_false c67
                            have c67b1 : decide (12 < (rdOf ByteArray.empty t352 (ji64)).size) = false := decide_eq_false (by omega)
                            clear c67
                            replace H := Option.bind_eq_some_iff.mp H
                            obtain ⟨t370, A690, H⟩ := H
                            replace H : (wayzgooselaw03_NameSteps.l3 k5 t329 y342 x6_1 x7_2 t348 t352 x18_5 t370 false 0) = some r := H
                            have A69 := Aside0.mk A690
                            clear A690
                            have H' := Aside0.mk H
                            clear H
                            obtain ⟨Ao70, co70, eo70⟩ := Kd.R_slice HO_10.out
                            subst eo70
                            have p368 : 0 ≤ ((ji64) : Int) := of_decide_eq_true (by first | (with_reducible assumption) | assumption)
                            have q368 : (ji64) < (t352.length : Int) := of_decide_eq_true (by first | (with_reducible assumption) | assumption)
                            obtain ⟨ad368, e368, hx368_0⟩ := Kd.at_string (Kd.R_reads' HO_10.out).2.2 (ji64) p368 q368
                            cases e368
                            replace p368 := eq_true p368
                            replace q368 := eq_true q368
                            have p369 : 0 ≤ ((ji64) : Int) := of_decide_eq_true (by first | (with_reducible assumption) | assumption)
                            have q369 : (ji64) < (t352.length : Int) := of_decide_eq_true (by first | (with_reducible assumption) | assumption)
                            obtain ⟨ad369, e369, hx369_0⟩ := Kd.at_string (Kd.R_reads' HO_10.out).2.2 (ji64) p369 q369
                            obtain rfl : ad368 = ad369 := (by injection e369)
                            replace p369 := eq_true p369
                            replace q369 := eq_true q369
                            go_wp2_with (first | ((with_reducible refine gate_callee (f := 40) rfl ?_); refine goesL_ (some 179) rfl rfl Tryz.func40 (by kernel_rfl) rfl #[.slice Ao23 t329.length co23, .string (rdOf ByteArray.empty t352 (ji64))] rfl (by (try simp only [List.map_toArray, List.map_cons, List.map_nil]); first | done | (simp only [hji64]; rfl) | rfl | (simp only [List.length_drop, List.length_take]; rfl)) ?_; (with_reducible refine (wayzgooseref03_Made.calls k5 _ _ t329 (rdOf ByteArray.empty t352 (ji64)) t370 _ ?side1 ?side2 A69.out).mono ?_); (case side1 => repeat (first | exact (Kd.R_reads' HO_4.out).2.2 | (with_reducible refine Kd.C_alloc ?_ _) | (with_reducible refine Kd.C_drewN ?_ _) | (with_reducible refine Kd.C_drew ?_))); (case side2 => exact (Kd.R_reads' HO_4.out).2.1); rintro e w71 ⟨v371, rfl, ho0, hb⟩; refine ⟨_, rfl, ?_⟩; have n0_ := Aside0.mk (Kd.R_below (by (with_reducible repeat (first | apply Kd.R_alloc | apply Kd.R_drewN | apply Kd.R_drew)); exact HO_4.out) hb); have n1_ := Aside0.mk (Kd.R_elder' (by (with_reducible repeat (first | apply Kd.R_alloc | apply Kd.R_drewN | apply Kd.R_drew)); exact HO_5.out) (Kd.R_base ho0) hb); have n2_ := Aside0.mk (Kd.R_elder' (by (with_reducible repeat (first | apply Kd.R_alloc | apply Kd.R_drewN | apply Kd.R_drew)); exact HO_10.out) (Kd.R_base ho0) hb); have n3_ := Aside0.mk (Kd.R_lower (Kd.R_new' (Kd.R_new' ho0 (Kd.R_lt (by (with_reducible repeat (first | apply Kd.R_alloc | apply Kd.R_drewN | apply Kd.R_drew)); exact HO_5.out))) (Kd.R_lt (by (with_reducible repeat (first | apply Kd.R_alloc | apply Kd.R_drewN | apply Kd.R_drew)); exact HO_10.out))) (below_size (by repeat (first | (with_reducible first | exact HB.out | apply below_alloc | apply pw_below_drewN | apply below_drew1) | exact HB.out)))); have n4_ := Aside0.mk (below_step (by repeat (first | (with_reducible first | exact HB.out | apply below_alloc | apply pw_below_drewN | apply below_drew1) | exact HB.out)) hb); clear HO_4; clear HO_5; clear HO_10; clear HB; have HO_4 := n0_; have HO_5 := n1_; have HO_10 := n2_; have HO372 := n3_; have HB := n4_; clear n0_ n1_ n2_ n3_ n4_; (try clear hb); (try clear hb2); (try clear hk); (try clear hi); (try clear ho0)))
                            go_loopg [20, 21] k5 (fun kq v20 v21 w' => ∃ (x20_6 : Bool) (x21_6 : Int), v20 = .bool x20_6 ∧ v21 = .int .i64 x21_6 ∧ Aside0 (wayzgooselaw03_NameSteps.l3 kq t329 y342 x6_1 x7_2 t348 t352 x18_5 t370 x20_6 x21_6 = some r) ∧ Aside0 (kq ≤ k5) ∧ Aside0 (Kd.R k83 83 w' w.heap.size (fun _ => True) (.slice Ao23 t329.length co23) t329) ∧ Aside0 (Kd.R Kd.string 9 w' w.heap.size (fun k_ => some k_ ≠ ((.slice (some ad368) t352.length co70) : Value).ownBlock ∧ some k_ ≠ (v371 : Value).ownBlock) (.slice (some ad346) y342.length co13) y342) ∧ Aside0 (Kd.R Kd.string 9 w' w.heap.size (fun k_ => some k_ ≠ ((.slice (some ad346) y342.length co13) : Value).ownBlock ∧ some k_ ≠ (v371 : Value).ownBlock) (.slice (some ad368) t352.length co70) t352) ∧ Aside0 (Kd.R Kd.string 9 w' w.heap.size (fun k_ => some k_ ≠ ((.slice (some ad346) y342.length co13) : Value).ownBlock ∧ some k_ ≠ ((.slice (some ad368) t352.length co70) : Value).ownBlock) v371 t370) ∧ Aside0 (Below w.heap.size w w'))
                            case atStart => exact ⟨(false), (0), (by first | rfl | (simp; done) | (simp [*]; done)), (by first | rfl | (simp; done) | (simp [*]; done)), H', ⟨Nat.le_refl _⟩, ⟨by (with_reducible repeat (first | apply Kd.R_alloc | apply Kd.R_drewN | apply Kd.R_drew)); exact HO_4.out⟩, ⟨by (with_reducible repeat (first | apply Kd.R_alloc | apply Kd.R_drewN | apply Kd.R_drew)); exact HO_5.out⟩, ⟨by (with_reducible repeat (first | apply Kd.R_alloc | apply Kd.R_drewN | apply Kd.R_drew)); exact HO_10.out⟩, ⟨by (with_reducible repeat (first | apply Kd.R_alloc | apply Kd.R_drewN | apply Kd.R_drew)); exact Kd.R_mono HO372.out (fun _ hk => ⟨hk.1.2, hk.2⟩)⟩, ⟨by repeat (first | (with_reducible first | exact HB.out | apply below_alloc | apply pw_below_drewN | apply below_drew1) | exact HB.out)⟩⟩
                            case round => as_aux_lemma =>
                             clear H'
                             try clear c1
                             try clear c2
                             try clear p2
                             try clear c3
                             try clear p3
                             try clear q3
                             try clear hx3
                             try clear qi3
                             try clear c4
                             try clear c5
                             try clear c6
                             try clear p6
                             try clear c12
                             try clear c12b0
                             try clear c14
                             try clear c14b0
                             try clear c15
                             try clear c15b0
                             try clear c16
                             try clear c16b0
                             try clear c17
                             try clear c17b0
                             try clear c29
                             try clear c30
                             try clear c31
                             try clear c31b0
                             try clear c32
                             try clear c32b0
                             try clear c32b1
                             try clear c33
                             try clear c33b0
                             try clear c33b1
                             try clear p34
                             try clear q34
                             try clear hx34
                             try clear c35
                             try clear c35b0
                             try clear c35b1
                             try clear p35
                             try clear q35
                             try clear hx35
                             try clear p36
                             try clear q36
                             try clear hx36
                             try clear qi36
                             try clear c37
                             try clear c38
                             try clear c38b0
                             try clear c39
                             try clear c39b0
                             try clear c40
                             try clear c41
                             try clear c41b0
                             try clear c42
                             try clear c42b0
                             try clear c47
                             try clear c47b0
                             try clear c47b1
                             try clear c48
                             try clear c48b0
                             try clear c48b1
                             try clear c49
                             try clear c49b0
                             try clear c49b1
                             try clear c50
                             try clear c50b0
                             try clear c50b1
                             try clear c51
                             try clear c51b0
                             try clear c51b1
                             try clear c52
                             try clear c52b0
                             try clear c52b1
                             try clear c53
                             try clear c53b0
                             try clear c54
                             try clear c54b0
                             try clear c55
                             try clear c55b0
                             try clear c55b1
                             try clear c56
                             try clear c56b0
                             try clear c56b1
                             try clear c56b2
                             try clear c62
                             try clear c63
                             try clear c63b0
                             try clear p64
                             try clear c65
                             try clear c65b0
                             try clear c66
                             try clear c66b0
                             try clear c67
                             try clear c67b0
                             try clear c67b1
                             try clear hx346_0
                             try clear hx347_0
                             try clear hx350_0
                             try clear hx351_0
                             try clear hx356_0
                             try clear hx357_0
                             try clear hx360_0
                             try clear hx363_0
                             try clear hx366_0
                             try clear hx367_0
                             try clear hx368_0
                             try clear hx369_0
                             try clear p2
                             try clear p3
                             try clear p34
                             try clear p346
                             try clear p347
                             try clear p35
                             try clear p350
                             try clear p351
                             try clear p356
                             try clear p357
                             try clear p36
                             try clear p360
                             try clear p363
                             try clear p366
                             try clear p367
                             try clear p368
                             try clear p369
                             try clear p6
                             try clear q3
                             try clear q34
                             try clear q346
                             try clear q347
                             try clear q35
                             try clear q350
                             try clear q351
                             try clear q356
                             try clear q357
                             try clear q36
                             try clear q360
                             try clear q363
                             try clear q366
                             try clear q367
                             try clear q368
                             try clear q369
                             obtain ⟨x20_6, x21_6, rfl, rfl, HA, HK6, HO_4, HO_5, HO_10, HO_19, HB⟩ := hrel
                             cases gk with
                             | zero => exact absurd HA.out (by simp [wayzgooselaw03_NameSteps.l3])
                             | succ k6 =>
                              have H := HA.out
                              clear HA
                              simp only [wayzgooselaw03_NameSteps.l3] at H
                              by_cases c72 : x21_6 < (t370.length : Int)
                              ·rw [if_pos c72] at H
                               have c72b0 : decide (x21_6 < (t370.length : Int)) = true := decide_eq_true c72
                               clear c72
                               by_cases c73 : x20_6 = true
                               ·subst c73
                                have H1 : (wayzgooselaw03_NameSteps.l3 k6 t329 y342 x6_1 x7_2 t348 t352 x18_5 t370 true (wrap64 (x21_6 + 1))) = some r := by rw [if_pos rfl] at H; exact H
                                clear H
                                have H := H1
                                clear H1
                                have H' := Aside0.mk H
                                clear H
                                obtain ⟨Ao74, co74, eo74⟩ := Kd.R_slice HO_19.out
                                subst eo74
                                try go_wp2
                                have n0_ := Aside0.mk (Kd.R_drew HO_4.out)
                                have n1_ := Aside0.mk (Kd.R_drew HO_5.out)
                                have n2_ := Aside0.mk (Kd.R_drew HO_10.out)
                                have n3_ := Aside0.mk (Kd.R_drew HO_19.out)
                                have n4_ := Aside0.mk (below_drew1 HB.out)
                                clear HO_4
                                clear HO_5
                                clear HO_10
                                clear HO_19
                                clear HB
                                have HO_4 := n0_
                                have HO_5 := n1_
                                have HO_10 := n2_
                                have HO_19 := n3_
                                have HB := n4_
                                clear n0_ n1_ n2_ n3_ n4_
                                refine start_ (n := 13) (S := fun w' => True) (ds := []) #[false, false, false, false, false, false, false, false, false, false, false, false, false] (by kernel_rfl) rfl rfl trivial (fun hHeld => ?_); refine with_tabW wayzgooselaw03_NameSteps.tab30 wayzgooselaw03_NameSteps.bits30 (fun HT_ HW_ => ?_)
                                generalize wr.drew = w75 at HO_4 HO_5 HO_10 HO_19 HB hHeld ⊢
                                refine pure_ (i := 0) (N := some 186) (v := ?_) (a' := ?_) #[true, false, false, false, false, false, false, false, false, false, false, false, false] rfl rfl (any_of HT_.out (by kernel_rfl)) (fun _ _ _ h => h) (Or.inl ⟨by rfl, ?_⟩) ?_ ?_
                                rotate_left
                                ·intro w'
                                 go_simp
                                 with_reducible rfl
                                rotate_left
                                ·simp only [Act.put, List.setIfInBounds_toArray, List.set_cons_zero, List.set_cons_succ, i64_w, i32_w]
                                 rfl
                                refine pure_ (i := 1) (N := some 187) (v := ?_) (a' := ?_) #[true, true, false, false, false, false, false, false, false, false, false, false, false] rfl rfl (any_of HT_.out (by kernel_rfl)) (fun _ _ _ h => h) (Or.inl ⟨by rfl, ?_⟩) ?_ ?_
                                rotate_left
                                ·intro w'
                                 go_simp
                                 with_reducible rfl
                                rotate_left
                                ·simp only [Act.put, List.setIfInBounds_toArray, List.set_cons_zero, List.set_cons_succ, i64_w, i32_w]
                                 rfl
                                refine pure_ (i := 2) (N := some 188) (v := undef) (a' := ?_) #[true, true, true, false, false, false, false, false, false, false, false, false, false] rfl rfl (any_of HT_.out (by kernel_rfl)) (fun _ _ _ h => h) (Or.inr ⟨by rfl, rfl⟩) ?_ ?_
                                rotate_left
                                ·simp only [Act.put, List.setIfInBounds_toArray, List.set_cons_zero, List.set_cons_succ, i64_w, i32_w]
                                 rfl
                                refine pure_ (i := 3) (N := some 189) (v := undef) (a' := ?_) #[true, true, true, true, false, false, false, false, false, false, false, false, false] rfl rfl (any_of HT_.out (by kernel_rfl)) (fun _ _ _ h => h) (Or.inr ⟨by rfl, rfl⟩) ?_ ?_
                                rotate_left
                                ·simp only [Act.put, List.setIfInBounds_toArray, List.set_cons_zero, List.set_cons_succ, i64_w, i32_w]
                                 rfl
                                refine pure_ (i := 4) (N := some 190) (v := undef) (a' := ?_) #[true, true, true, true, true, false, false, false, false, false, false, false, false] rfl rfl (any_of HT_.out (by kernel_rfl)) (fun _ _ _ h => h) (Or.inr ⟨by rfl, rfl⟩) ?_ ?_
                                rotate_left
                                ·simp only [Act.put, List.setIfInBounds_toArray, List.set_cons_zero, List.set_cons_succ, i64_w, i32_w]
                                 rfl
                                refine pure_ (i := 5) (N := some 191) (v := undef) (a' := ?_) #[true, true, true, true, true, true, false, false, false, false, false, false, false] rfl rfl (any_of HT_.out (by kernel_rfl)) (fun _ _ _ h => h) (Or.inr ⟨by rfl, rfl⟩) ?_ ?_
                                rotate_left
                                ·simp only [Act.put, List.setIfInBounds_toArray, List.set_cons_zero, List.set_cons_succ, i64_w, i32_w]
                                 rfl
                                refine pure_ (i := 6) (N := some 192) (v := undef) (a' := ?_) #[true, true, true, true, true, true, true, false, false, false, false, false, false] rfl rfl (any_of HT_.out (by kernel_rfl)) (fun _ _ _ h => h) (Or.inr ⟨by rfl, rfl⟩) ?_ ?_
                                rotate_left
                                ·simp only [Act.put, List.setIfInBounds_toArray, List.set_cons_zero, List.set_cons_succ, i64_w, i32_w]
                                 rfl
                                refine pure_ (i := 7) (N := some 193) (v := undef) (a' := ?_) #[true, true, true, true, true, true, true, true, false, false, false, false, false] rfl rfl (any_of HT_.out (by kernel_rfl)) (fun _ _ _ h => h) (Or.inr ⟨by rfl, rfl⟩) ?_ ?_
                                rotate_left
                                ·simp only [Act.put, List.setIfInBounds_toArray, List.set_cons_zero, List.set_cons_succ, i64_w, i32_w]
                                 rfl
                                refine pure_ (i := 8) (N := some 194) (v := undef) (a' := ?_) #[true, true, true, true, true, true, true, true, true, false, false, false, false] rfl rfl (any_of HT_.out (by kernel_rfl)) (fun _ _ _ h => h) (Or.inr ⟨by rfl, rfl⟩) ?_ ?_
                                rotate_left
                                ·simp only [Act.put, List.setIfInBounds_toArray, List.set_cons_zero, List.set_cons_succ, i64_w, i32_w]
                                 rfl
                                refine pure_ (i := 9) (N := some 195) (v := undef) (a' := ?_) #[true, true, true, true, true, true, true, true, true, true, false, false, false] rfl rfl (any_of HT_.out (by kernel_rfl)) (fun _ _ _ h => h) (Or.inr ⟨by rfl, rfl⟩) ?_ ?_
                                rotate_left
                                ·simp only [Act.put, List.setIfInBounds_toArray, List.set_cons_zero, List.set_cons_succ, i64_w, i32_w]
                                 rfl
                                refine pure_ (i := 10) (N := some 196) (v := undef) (a' := ?_) #[true, true, true, true, true, true, true, true, true, true, true, false, false] rfl rfl (any_of HT_.out (by kernel_rfl)) (fun _ _ _ h => h) (Or.inr ⟨by rfl, rfl⟩) ?_ ?_
                                rotate_left
                                ·simp only [Act.put, List.setIfInBounds_toArray, List.set_cons_zero, List.set_cons_succ, i64_w, i32_w]
                                 rfl
                                refine pure_ (i := 11) (N := some 197) (v := ?_) (a' := ?_) #[true, true, true, true, true, true, true, true, true, true, true, true, false] rfl rfl (any_of HT_.out (by kernel_rfl)) (fun _ _ _ h => h) (Or.inl ⟨by rfl, ?_⟩) ?_ ?_
                                rotate_left
                                ·intro w'
                                 go_simp
                                 with_reducible rfl
                                rotate_left
                                ·simp only [Act.put, List.setIfInBounds_toArray, List.set_cons_zero, List.set_cons_succ, i64_w, i32_w]
                                 rfl
                                refine pure_ (i := 12) (N := some 20) (v := ?_) (a' := ?_) #[true, true, true, true, true, true, true, true, true, true, true, true, true] rfl rfl (any_of HT_.out (by kernel_rfl)) (fun _ _ _ h => h) (Or.inl ⟨by rfl, ?_⟩) ?_ ?_
                                rotate_left
                                ·intro w'
                                 go_simp
                                 with_reducible rfl
                                rotate_left
                                ·simp only [Act.put, List.setIfInBounds_toArray, List.set_cons_zero, List.set_cons_succ, i64_w, i32_w]
                                 rfl
                                refine done_ (done_of HT_.out (by kernel_rfl)) ?_
                                try go_wp2
                                go_roundg k6
                                case measure => have := HK1.out; have := HK2.out; have := HJ20.out; have := HJ43.out; have := HK5.out; have := HK6.out; omega
                                case rel => exact ⟨(true), (wrap64 (x21_6 + 1)), (by first | rfl | (simp; done) | (simp [*]; done)), (by first | rfl | (simp; done) | (simp [*]; done)), H', ⟨by have := HK1.out; have := HK2.out; have := HJ20.out; have := HJ43.out; have := HK5.out; have := HK6.out; omega⟩, ⟨by (with_reducible repeat (first | apply Kd.R_alloc | apply Kd.R_drewN | apply Kd.R_drew)); exact HO_4.out⟩, ⟨by (with_reducible repeat (first | apply Kd.R_alloc | apply Kd.R_drewN | apply Kd.R_drew)); exact HO_5.out⟩, ⟨by (with_reducible repeat (first | apply Kd.R_alloc | apply Kd.R_drewN | apply Kd.R_drew)); exact HO_10.out⟩, ⟨by (with_reducible repeat (first | apply Kd.R_alloc | apply Kd.R_drewN | apply Kd.R_drew)); exact HO_19.out⟩, ⟨by repeat (first | (with_reducible first | exact HB.out | apply below_alloc | apply pw_below_drewN | apply below_drew1) | exact HB.out)⟩⟩
                               ·replace c73 := Bool.eq_false_iff.mpr c73
                                subst c73
                                have H1 : (if 0 ≤ x21_6 then (if 0 ≤ x18_5 then (if x18_5 < (t352.length : Int) then (wayzgooselaw03_NameSteps.l3 k6 t329 y342 x6_1 x7_2 t348 t352 x18_5 t370 ((rdOf ByteArray.empty t370 x21_6).toList == (rdOf ByteArray.empty t352 x18_5).toList) (wrap64 (x21_6 + 1))) else (none)) else (none)) else (none)) = some r := by rw [if_neg (show ¬ (false = true) by decide)] at H; exact H
                                clear H
                                have H := H1
                                clear H1
                                by_cases c76 : 0 ≤ x21_6
                                ·rw [if_pos c76] at H
                                 have c76b0 : decide (0 ≤ x21_6) = true := decide_eq_true c76
                                 clear c76
                                 by_cases c77 : 0 ≤ x18_5
                                 ·rw [if_pos c77] at H
                                  have c77b0 : decide (0 ≤ x18_5) = true := decide_eq_true c77
                                  clear c77
                                  by_cases c78 : x18_5 < (t352.length : Int)
                                  ·rw [if_pos c78] at H
                                   have c78b0 : decide (x18_5 < (t352.length : Int)) = true := decide_eq_true c78
                                   clear c78
                                   have H' := Aside0.mk H
                                   clear H
                                   obtain ⟨Ao79, co79, eo79⟩ := Kd.R_slice HO_19.out
                                   subst eo79
                                   try go_wp2
                                   have n0_ := Aside0.mk (Kd.R_drew HO_4.out)
                                   have n1_ := Aside0.mk (Kd.R_drew HO_5.out)
                                   have n2_ := Aside0.mk (Kd.R_drew HO_10.out)
                                   have n3_ := Aside0.mk (Kd.R_drew HO_19.out)
                                   have n4_ := Aside0.mk (below_drew1 HB.out)
                                   clear HO_4
                                   clear HO_5
                                   clear HO_10
                                   clear HO_19
                                   clear HB
                                   have HO_4 := n0_
                                   have HO_5 := n1_
                                   have HO_10 := n2_
                                   have HO_19 := n3_
                                   have HB := n4_
                                   clear n0_ n1_ n2_ n3_ n4_
                                   have p373 : 0 ≤ (x21_6 : Int) := of_decide_eq_true (by first | (with_reducible assumption) | assumption)
                                   have q373 : x21_6 < (t370.length : Int) := of_decide_eq_true (by first | (with_reducible assumption) | assumption)
                                   obtain ⟨ad373, e373, hx373_0⟩ := Kd.at_string (Kd.R_reads' HO_19.out).2.2 x21_6 p373 q373
                                   cases e373
                                   replace p373 := eq_true p373
                                   replace q373 := eq_true q373
                                   have p374 : 0 ≤ (x18_5 : Int) := of_decide_eq_true (by first | (with_reducible assumption) | assumption)
                                   have q374 : x18_5 < (t352.length : Int) := of_decide_eq_true (by first | (with_reducible assumption) | assumption)
                                   obtain ⟨ad374, e374, hx374_0⟩ := Kd.at_string (Kd.R_reads' HO_10.out).2.2 x18_5 p374 q374
                                   obtain rfl : ad368 = ad374 := (by injection e374)
                                   replace p374 := eq_true p374
                                   replace q374 := eq_true q374
                                   refine start_ (n := 13) (S := fun w' => w'.cell? (ad373.add (x21_6).toNat) = some (.string (rdOf ByteArray.empty t370 x21_6)) ∧ w'.cell? (ad368.add (x18_5).toNat) = some (.string (rdOf ByteArray.empty t352 x18_5))) (ds := []) #[false, false, false, false, false, false, false, false, false, false, false, false, false] (by kernel_rfl) rfl rfl ⟨hx373_0, hx374_0⟩ (fun hHeld => ?_); refine with_tabW wayzgooselaw03_NameSteps.tab30 wayzgooselaw03_NameSteps.bits30 (fun HT_ HW_ => ?_)
                                   generalize wr.drew = w80 at HO_4 HO_5 HO_10 HO_19 HB hx373_0 hx374_0 hHeld ⊢
                                   refine pure_ (i := 0) (N := some 186) (v := ?_) (a' := ?_) #[true, false, false, false, false, false, false, false, false, false, false, false, false] rfl rfl (any_of HT_.out (by kernel_rfl)) (fun _ _ _ h => h) (Or.inl ⟨by rfl, ?_⟩) ?_ ?_
                                   rotate_left
                                   ·intro w'
                                    go_simp
                                    with_reducible rfl
                                   rotate_left
                                   ·simp only [Act.put, List.setIfInBounds_toArray, List.set_cons_zero, List.set_cons_succ, i64_w, i32_w]
                                    rfl
                                   refine pure_ (i := 1) (N := some 187) (v := ?_) (a' := ?_) #[true, true, false, false, false, false, false, false, false, false, false, false, false] rfl rfl (any_of HT_.out (by kernel_rfl)) (fun _ _ _ h => h) (Or.inl ⟨by rfl, ?_⟩) ?_ ?_
                                   rotate_left
                                   ·intro w'
                                    go_simp
                                    with_reducible rfl
                                   rotate_left
                                   ·simp only [Act.put, List.setIfInBounds_toArray, List.set_cons_zero, List.set_cons_succ, i64_w, i32_w]
                                    rfl
                                   refine pure_ (i := 2) (N := some 188) (v := ?_) (a' := ?_) #[true, true, true, false, false, false, false, false, false, false, false, false, false] rfl rfl (any_of HT_.out (by kernel_rfl)) (fun _ _ _ h => h) (Or.inl ⟨by rfl, ?_⟩) ?_ ?_
                                   rotate_left
                                   ·intro w'
                                    go_simp
                                    with_reducible rfl
                                   rotate_left
                                   ·simp only [Act.put, List.setIfInBounds_toArray, List.set_cons_zero, List.set_cons_succ, i64_w, i32_w]
                                    rfl
                                   refine pure_ (i := 3) (N := some 189) (v := ?_) (a' := ?_) #[true, true, true, true, false, false, false, false, false, false, false, false, false] rfl rfl (any_of HT_.out (by kernel_rfl)) (fun _ _ _ h => h) (Or.inl ⟨by rfl, ?_⟩) ?_ ?_
                                   rotate_left
                                   ·intro w'
                                    go_simp
                                    with_reducible rfl
                                   rotate_left
                                   ·simp only [Act.put, List.setIfInBounds_toArray, List.set_cons_zero, List.set_cons_succ, i64_w, i32_w]
                                    rfl
                                   refine pure_ (i := 4) (N := some 190) (v := ?_) (a' := ?_) #[true, true, true, true, true, false, false, false, false, false, false, false, false] rfl rfl (any_of HT_.out (by kernel_rfl)) (fun _ _ _ h => h) (Or.inl ⟨by rfl, ?_⟩) ?_ ?_
                                   rotate_left
                                   ·intro w'
                                    go_simp
                                    with_reducible rfl
                                   rotate_left
                                   ·simp only [Act.put, List.setIfInBounds_toArray, List.set_cons_zero, List.set_cons_succ, i64_w, i32_w]
                                    rfl
                                   refine pure_ (i := 6) (N := some 192) (v := ?_) (a' := ?_) #[true, true, true, true, true, false, true, false, false, false, false, false, false] rfl rfl (any_of HT_.out (by kernel_rfl)) (fun _ _ _ h => h) (Or.inl ⟨by rfl, ?_⟩) ?_ ?_
                                   rotate_left
                                   ·intro w'
                                    go_simp
                                    with_reducible rfl
                                   rotate_left
                                   ·simp only [Act.put, List.setIfInBounds_toArray, List.set_cons_zero, List.set_cons_succ, i64_w, i32_w]
                                    rfl
                                   refine pure_ (i := 7) (N := some 193) (v := ?_) (a' := ?_) #[true, true, true, true, true, false, true, true, false, false, false, false, false] rfl rfl (any_of HT_.out (by kernel_rfl)) (fun _ _ _ h => h) (Or.inl ⟨by rfl, ?_⟩) ?_ ?_
                                   rotate_left
                                   ·intro w'
                                    go_simp
                                    with_reducible rfl
                                   rotate_left
                                   ·simp only [Act.put, List.setIfInBounds_toArray, List.set_cons_zero, List.set_cons_succ, i64_w, i32_w]
                                    rfl
                                   refine pure_ (i := 8) (N := some 194) (v := ?_) (a' := ?_) #[true, true, true, true, true, false, true, true, true, false, false, false, false] rfl rfl (any_of HT_.out (by kernel_rfl)) (fun _ _ _ h => h) (Or.inl ⟨by rfl, ?_⟩) ?_ ?_
                                   rotate_left
                                   ·intro w'
                                    go_simp
                                    with_reducible rfl
                                   rotate_left
                                   ·simp only [Act.put, List.setIfInBounds_toArray, List.set_cons_zero, List.set_cons_succ, i64_w, i32_w]
                                    rfl
                                   refine take_ (i := 5) (N := some 191) (v := ?_) (a' := ?_) #[true, true, true, true, true, true, true, true, true, false, false, false, false] rfl rfl (take_ofW HT_.out HW_.out (by kernel_rfl)) (fun _ _ _ h => h) (Or.inl ⟨by rfl, ?_⟩) hHeld ?_ ?_
                                   rotate_left
                                   ·rintro w' ⟨s0, s1⟩
                                    go_simp
                                    with_reducible rfl
                                   rotate_left
                                   ·simp only [Act.put, List.setIfInBounds_toArray, List.set_cons_zero, List.set_cons_succ, i64_w, i32_w]
                                    rfl
                                   refine take_ (i := 9) (N := some 195) (v := ?_) (a' := ?_) #[true, true, true, true, true, true, true, true, true, true, false, false, false] rfl rfl (take_ofW HT_.out HW_.out (by kernel_rfl)) (fun _ _ _ h => h) (Or.inl ⟨by rfl, ?_⟩) hHeld ?_ ?_
                                   rotate_left
                                   ·rintro w' ⟨s0, s1⟩
                                    go_simp
                                    with_reducible rfl
                                   rotate_left
                                   ·simp only [Act.put, List.setIfInBounds_toArray, List.set_cons_zero, List.set_cons_succ, i64_w, i32_w]
                                    rfl
                                   refine pure_ (i := 10) (N := some 196) (v := ?_) (a' := ?_) #[true, true, true, true, true, true, true, true, true, true, true, false, false] rfl rfl (any_of HT_.out (by kernel_rfl)) (fun _ _ _ h => h) (Or.inl ⟨by rfl, ?_⟩) ?_ ?_
                                   rotate_left
                                   ·intro w'
                                    go_simp
                                    with_reducible rfl
                                   rotate_left
                                   ·simp only [Act.put, List.setIfInBounds_toArray, List.set_cons_zero, List.set_cons_succ, i64_w, i32_w]
                                    rfl
                                   refine pure_ (i := 11) (N := some 197) (v := ?_) (a' := ?_) #[true, true, true, true, true, true, true, true, true, true, true, true, false] rfl rfl (any_of HT_.out (by kernel_rfl)) (fun _ _ _ h => h) (Or.inl ⟨by rfl, ?_⟩) ?_ ?_
                                   rotate_left
                                   ·intro w'
                                    go_simp
                                    with_reducible rfl
                                   rotate_left
                                   ·simp only [Act.put, List.setIfInBounds_toArray, List.set_cons_zero, List.set_cons_succ, i64_w, i32_w]
                                    rfl
                                   refine pure_ (i := 12) (N := some 20) (v := ?_) (a' := ?_) #[true, true, true, true, true, true, true, true, true, true, true, true, true] rfl rfl (any_of HT_.out (by kernel_rfl)) (fun _ _ _ h => h) (Or.inl ⟨by rfl, ?_⟩) ?_ ?_
                                   rotate_left
                                   ·intro w'
                                    go_simp
                                    with_reducible rfl
                                   rotate_left
                                   ·simp only [Act.put, List.setIfInBounds_toArray, List.set_cons_zero, List.set_cons_succ, i64_w, i32_w]
                                    rfl
                                   refine done_ (done_of HT_.out (by kernel_rfl)) ?_
                                   try go_wp2
                                   go_roundg k6
                                   case measure => have := HK1.out; have := HK2.out; have := HJ20.out; have := HJ43.out; have := HK5.out; have := HK6.out; omega
                                   case rel => exact ⟨(((rdOf ByteArray.empty t370 x21_6).toList == (rdOf ByteArray.empty t352 x18_5).toList)), (wrap64 (x21_6 + 1)), (by first | rfl | (simp; done) | (simp [*]; done)), (by first | rfl | (simp; done) | (simp [*]; done)), H', ⟨by have := HK1.out; have := HK2.out; have := HJ20.out; have := HJ43.out; have := HK5.out; have := HK6.out; omega⟩, ⟨by (with_reducible repeat (first | apply Kd.R_alloc | apply Kd.R_drewN | apply Kd.R_drew)); exact HO_4.out⟩, ⟨by (with_reducible repeat (first | apply Kd.R_alloc | apply Kd.R_drewN | apply Kd.R_drew)); exact HO_5.out⟩, ⟨by (with_reducible repeat (first | apply Kd.R_alloc | apply Kd.R_drewN | apply Kd.R_drew)); exact HO_10.out⟩, ⟨by (with_reducible repeat (first | apply Kd.R_alloc | apply Kd.R_drewN | apply Kd.R_drew)); exact HO_19.out⟩, ⟨by repeat (first | (with_reducible first | exact HB.out | apply below_alloc | apply pw_below_drewN | apply below_drew1) | exact HB.out)⟩⟩
                                  ·rw [if_neg c78] at H
                                   exact absurd H (by simp)
                                 ·rw [if_neg c77] at H
                                  exact absurd H (by simp)
                                ·rw [if_neg c76] at H
                                 exact absurd H (by simp)
                              ·rw [if_neg c72] at H
                               have c72b0 : decide (x21_6 < (t370.length : Int)) = false := decide_eq_false c72
                               clear c72
                               by_cases c81 : x20_6 = true
                               ·subst c81
                                have H1 : (wayzgooselaw03_NameSteps.l2 k6 t329 y342 x6_1 x7_2 t348 t352 (wrap64 (x18_5 + 1))) = some r := by rw [if_pos rfl] at H; exact H
                                clear H
                                have H := H1
                                clear H1
                                have H' := Aside0.mk H
                                clear H
                                obtain ⟨Ao82, co82, eo82⟩ := Kd.R_slice HO_19.out
                                subst eo82
                                go_wp2
                                go_roundg k6
                                case measure => have := HK1.out; have := HK2.out; have := HJ20.out; have := HJ43.out; have := HK5.out; have := HK6.out; omega
                                case rel => exact ⟨(wrap64 (x18_5 + 1)), (by first | rfl | (simp; done) | (simp [*]; done)), H', ⟨by have := HK1.out; have := HK2.out; have := HJ20.out; have := HJ43.out; have := HK5.out; have := HK6.out; omega⟩, ⟨by (with_reducible repeat (first | apply Kd.R_alloc | apply Kd.R_drewN | apply Kd.R_drew)); exact HO_4.out⟩, ⟨by (with_reducible repeat (first | apply Kd.R_alloc | apply Kd.R_drewN | apply Kd.R_drew)); exact Kd.R_mono HO_5.out (fun _ hk => hk.1)⟩, ⟨by (with_reducible repeat (first | apply Kd.R_alloc | apply Kd.R_drewN | apply Kd.R_drew)); exact Kd.R_mono HO_10.out (fun _ hk => hk.1)⟩, ⟨by repeat (first | (with_reducible first | exact HB.out | apply below_alloc | apply pw_below_drewN | apply below_drew1) | exact HB.out)⟩⟩
                               ·replace c81 := Bool.eq_false_iff.mpr c81
                                subst c81
                                have H1 : (some false) = some r := by rw [if_neg (show ¬ (false = true) by decide)] at H; exact H
                                clear H
                                have H := H1
                                clear H1
                                obtain rfl := Option.some.inj H
                                obtain ⟨Ao83, co83, eo83⟩ := Kd.R_slice HO_19.out
                                subst eo83
                                go_wp2
                                go_ret
                                exact ⟨by first | rfl | (simp [errW_none, errW_some] <;> rfl) | (simp only [← hji64]; first | rfl | (simp [errW_none, errW_some] <;> rfl)) | (simp [*, errW_none, errW_some] <;> rfl), by repeat (first | (with_reducible first | exact HB.out | apply below_alloc | apply pw_below_drewN | apply below_drew1) | exact HB.out)⟩
                          ·rw [if_neg c66] at H
                           exact absurd H (by simp)
                         ·rw [if_neg c65] at H
                          exact absurd H (by simp)
                        ·rw [if_neg c63] at H
                         have c63b0 : decide (x18_5 ≤ t348) = false := decide_eq_false c63
                         clear c63
                         have H' := Aside0.mk H
                         clear H
                         go_wp2
                         go_roundg k5
                         case measure => have := HK1.out; have := HK2.out; have := HJ20.out; have := HJ43.out; have := HK5.out; omega
                         case rel => exact ⟨(wrap64 (x7_2 + 1)), (by first | rfl | (simp; done) | (simp [*]; done)), H', ⟨by have := HK1.out; have := HK2.out; have := HJ20.out; have := HJ43.out; have := HK5.out; omega⟩, ⟨by (with_reducible repeat (first | apply Kd.R_alloc | apply Kd.R_drewN | apply Kd.R_drew)); exact HO_4.out⟩, ⟨by (with_reducible repeat (first | apply Kd.R_alloc | apply Kd.R_drewN | apply Kd.R_drew)); exact Kd.R_mono HO_5.out (fun _ hk => trivial)⟩, ⟨by repeat (first | (with_reducible first | exact HB.out | apply below_alloc | apply pw_below_drewN | apply below_drew1) | exact HB.out)⟩⟩
                  ·rw [if_neg c42] at H
                   exact absurd H (by simp)
                 ·rw [if_neg c41] at H
                  exact absurd H (by simp)
                ·rw [if_neg c39] at H
                 exact absurd H (by simp)
               ·rw [if_neg c38] at H
                exact absurd H (by simp)
          ·rw [if_neg c17] at H
           exact absurd H (by simp)
         ·rw [if_neg c16] at H
          exact absurd H (by simp)
        ·rw [if_neg c15] at H
         exact absurd H (by simp)
       ·rw [if_neg c14] at H
        have c14b0 : decide (x7_2 < (y342.length : Int)) = false := decide_eq_false c14
        clear c14
        have H' := Aside0.mk H
        clear H
        go_wp2
        go_roundg k2
        case measure => have := HK1.out; have := HK2.out; omega
        case rel => exact ⟨(wrap64 (x6_1 + 1)), (by first | rfl | (simp; done) | (simp [*]; done)), H', ⟨by have := HK1.out; have := HK2.out; omega⟩, ⟨by (with_reducible repeat (first | apply Kd.R_alloc | apply Kd.R_drewN | apply Kd.R_drew)); exact HO_4.out⟩, ⟨by (with_reducible repeat (first | apply Kd.R_alloc | apply Kd.R_drewN | apply Kd.R_drew)); exact HO_5.out⟩, ⟨by repeat (first | (with_reducible first | exact HB.out | apply below_alloc | apply pw_below_drewN | apply below_drew1) | exact HB.out)⟩⟩
    ·rw [if_neg c12] at H
     have c12b0 : decide (x6_1 < (y342.length : Int)) = false := decide_eq_false c12
     clear c12
     replace H := Option.bind_eq_some_iff.mp H
     obtain ⟨t345, A840, H⟩ := H
     replace H : (some t345) = some r := H
     have A84 := Aside0.mk A840
     clear A840
     obtain rfl := Option.some.inj H
     obtain ⟨Ao85, co85, eo85⟩ := Kd.R_slice HO_5.out
     subst eo85
     go_wp2_with (first | ((with_reducible refine gate_callee (f := 22) rfl ?_); refine goesL_ (some 200) rfl rfl Tryz.func22 (by kernel_rfl) rfl #[] rfl (by (try simp only [List.map_toArray, List.map_cons, List.map_nil]); first | done | rfl | (simp only [List.length_drop, List.length_take]; rfl)) ?_; (with_reducible refine (wayzgooselaw03_spelling.calls  t345 _ A84.out).mono ?_); rintro e w86 ⟨rfl, hb⟩; refine ⟨_, rfl, ?_⟩; have n0_ := Aside0.mk (Kd.R_below (by (with_reducible repeat (first | apply Kd.R_alloc | apply Kd.R_drewN | apply Kd.R_drew)); exact HO_4.out) hb); have n1_ := Aside0.mk (Kd.R_below (by (with_reducible repeat (first | apply Kd.R_alloc | apply Kd.R_drewN | apply Kd.R_drew)); exact HO_5.out) hb); have n2_ := Aside0.mk (below_step (by repeat (first | (with_reducible first | exact HB.out | apply below_alloc | apply pw_below_drewN | apply below_drew1) | exact HB.out)) hb); clear HO_4; clear HO_5; clear HB; have HO_4 := n0_; have HO_5 := n1_; have HB := n2_; clear n0_ n1_ n2_; (try clear hb); (try clear hb2); (try clear hk); (try clear hi)))
     go_ret
     exact ⟨by first | rfl | (simp [errW_none, errW_some] <;> rfl) | (simp [*, errW_none, errW_some] <;> rfl), by repeat (first | (with_reducible first | exact HB.out | apply below_alloc | apply pw_below_drewN | apply below_drew1) | exact HB.out)⟩
 ·rw [if_neg c6] at H
  exact absurd H (by simp)

/-- THE ONE PURE STATEMENT of wayzgooselaw03_NameSteps: yours. -/
def wayzgooselaw03_NameSteps.Pure : Prop := ∀ (l0 : List Int), l0.length ≤ maxLen → l0.length * 8 ≤ 140737488351232 → (∀ x ∈ l0, (Lit.int .i64 x).wf = true) → ∃ k, wayzgooselaw03_NameSteps.f k l0 = some true
theorem wayzgooselaw03_NameSteps.walk (P : wayzgooselaw03_NameSteps.Pure) (a0 : Option Addr) (len0 cap0 : Nat) (z0 : List Int) (w : World) (w0 : (a0 = none ∧ len0 = 0 ∧ cap0 = 0 ∧ z0 = []) ∨ ∃ x, a0 = some x ∧ len0 ≤ cap0 ∧ cap0 ≤ maxLen ∧ z0.length = cap0 ∧ (∀ i, i < z0.length → w.cell? (x.add i) = some (.int .i64 (z0.getD i 0))) ∧ ∀ n ∈ z0, (Lit.int .i64 n).wf = true) (y0 : len0 * 8 ≤ 140737488351232) :
  Calls Tryz.prog 6 #[.slice a0 len0 cap0] w fun e w' => e = .returned (.bool true) ∧ Below w.heap.size w w' := by
 obtain ⟨l0, rfl, hr0, hm0, hw0, hc0⟩ := ReadsInt.ofRowC w0
 obtain ⟨k, h⟩ := P l0 hm0 y0 hw0
 refine (wayzgooselaw03_NameSteps.calls k _ _ l0 true w (Kd.C_of_reads (d := (0 : Int)) (h1 := fun _ => rfl) hr0) hc0 h).mono ?_
 rintro e w' ⟨rfl, hd⟩
 exact ⟨rfl, hd⟩

end Go.Proofs.YtapikimhmjnjeaaGreatDoor.Pr
