/- The law's spelling returns true: the walk of the verifier's function over the contracts of what it calls. No conditions. -/
import Derived.Test.YtapikimhmjnjeaaGreatDoorPrExt
import Derived.Test.YtapikimhmjnjeaaGreatDoorPr4
import Derived.Test.YtapikimhmjnjeaaGreatDoorPr5
import Derived.Test.YtapikimhmjnjeaaGreatDoorPr2
import Derived.Test.YtapikimhmjnjeaaGreatDoorBaseC
import Derived.Test.YtapikimhmjnjeaaGreatDoorBaseD
import Derived.Test.YtapikimhmjnjeaaGreatDoorBaseE
/- The law's spelling returns true: the walk of the verifier's function over the contracts of what it calls. No conditions. -/
set_option linter.unusedVariables false
set_option linter.unusedSimpArgs false
namespace Go.Proofs.YtapikimhmjnjeaaGreatDoor.Pr
open Go.RowKit Go.Shelf Go.Proofs.YtapikimhmjnjeaaGreatDoor Go.Proofs.YtapikimhmjnjeaaGreatDoorW.PrintWords Go.Proofs.YtapikimhmjnjeaaGreatDoorW.PrintLast Go.Proofs.YtapikimhmjnjeaaGreatDoorW.PrintMore

theorem C_strs {w : World} (xs : List ByteArray) (hm : xs.length ≤ 100) : Kd.C Kd.string (w.alloc (.cells (xs.map Value.string).toArray 9)) (some ⟨w.heap.size, 0, none⟩) xs.length xs := by
  have h := World.ownsRow_lit (base := w.heap.size) (e := 9) (size := 1) w (xs.map Value.string).toArray xs.length (Nat.le_refl _) (by unfold maxLen; omega) (by simp)
  exact (Kd.R_reads' (Kd.R_of_own (ok := fun _ => True) (h1 := fun _ => rfl) h (fun _ _ => trivial))).2.2
theorem C_ints {w : World} (xs : List Int) (hm : xs.length ≤ 100) : Kd.C (Kd.int .i64) (w.alloc (.cells (xs.map (Value.int .i64)).toArray 3)) (some ⟨w.heap.size, 0, none⟩) xs.length xs := by
  have h := World.ownsRow_lit (base := w.heap.size) (e := 3) (size := 1) w (xs.map (Value.int .i64)).toArray xs.length (Nat.le_refl _) (by unfold maxLen; omega) (by simp)
  exact (Kd.R_reads' (Kd.R_of_own (ok := fun _ => True) (h1 := fun _ => rfl) h (fun _ _ => trivial))).2.2
def spSort : List ByteArray := [⟨#[99, 104, 97, 100]⟩, ⟨#[67, 65, 68]⟩, ⟨#[97, 110, 110, 97]⟩, ⟨#[66, 69, 78]⟩]
def spChain : List ByteArray := [⟨#[115, 109, 121, 116, 104, 101]⟩, ⟨#[115, 109, 105, 116, 104, 101]⟩, ⟨#[115, 109, 105, 116, 104]⟩]
def spRules : List S83 := [⟨⟨#[112, 104]⟩, ⟨#[102]⟩⟩, ⟨⟨#[121]⟩, ⟨#[105]⟩⟩, ⟨⟨#[101]⟩, ⟨#[]⟩⟩]
def spSmiths : List ByteArray := [⟨#[115, 109, 105, 116, 104]⟩, ⟨#[115, 109, 121, 116, 104]⟩, ⟨#[115, 97, 109]⟩]
set_option maxRecDepth 100000 in
set_option maxHeartbeats 2000000 in
theorem spelling_any (w : World) : Calls Tryz.prog 22 #[] w fun e w' => e = .returned (.bool true) ∧ Below w.heap.size w w' := by
  go_enter Tryz.func22, Tryz.ntmps22
  go_wp2_with fail
  refine (name_Key.calls ⟨#[67, 65, 68]⟩ ⟨#[99, 104, 97, 100]⟩ 0 _ (by decide +kernel)).mono ?_
  rintro e w1 ⟨rfl, hb1⟩
  have HB1 := Lib.hid hb1
  clear hb1
  go_wp2_with fail
  refine (name_Sort.calls _ 4 spSort [2, 3, 0, 1] 0 _ (C_strs spSort (by decide)) (by decide) (by decide +kernel)).mono ?_
  rintro e w2 ⟨v2, rfl, hr2, hb2⟩
  have HB2 : Hid (Below w.heap.size w w2) := (HB1.out.alloc HB1.out.size _).trans (hb2.mono (by have := HB1.out.size; simp; omega))
  obtain ⟨A2, c2, rfl, hc2, hC2⟩ := Kd.R_reads hr2
  have HC2 := Lib.hid hC2
  have HC2' := Lib.hid hc2
  clear hr2 hb2 HB1 hC2 hc2
  go_wp2_with fail
  refine (wayzgooselaw03_rules.calls spRules _ rfl).mono ?_
  rintro e w3 ⟨v3, rfl, hr3, hb3⟩
  have HB3 : Hid (Below w.heap.size w w3) := HB2.out.trans (hb3.mono HB2.out.size)
  have HC3 : Hid (Kd.C (Kd.int .i64) w3 A2 [2, 3, 0, 1].length [2, 3, 0, 1]) := Kd.C_below HC2.out hb3
  obtain ⟨A3, c3, rfl, hc3, hC3⟩ := Kd.R_reads hr3
  have HR3 := Lib.hid hC3
  have HR3' := Lib.hid hc3
  clear hr3 hb3 HB2 HC2 hC3 hc3
  go_wp2_with fail
  refine (name_Chain.calls 7 A3 c3 spRules ⟨#[115, 109, 121, 116, 104, 101]⟩ ⟨#[115, 109, 105, 116, 104]⟩ spChain 0 _ HR3.out HR3'.out (by decide +kernel)).mono ?_
  rintro e w4 ⟨v4, rfl, hr4, hb4⟩
  have HB4 : Hid (Below w.heap.size w w4) := HB3.out.trans (hb4.mono HB3.out.size)
  have HC4 : Hid (Kd.C (Kd.int .i64) w4 A2 [2, 3, 0, 1].length [2, 3, 0, 1]) := Kd.C_below HC3.out hb4
  obtain ⟨A4, c4, rfl, hc4, hC4⟩ := Kd.R_reads hr4
  have HR4 := Lib.hid hC4
  have HR4' := Lib.hid hc4
  clear hr4 hb4 HB3 HC3 hC4 hc4 HR3 HR3'
  go_wp2_with fail
  refine (wayzgooselaw03_smiths.calls spSmiths _ rfl).mono ?_
  rintro e w5 ⟨v5, rfl, hr5, hb5⟩
  have HB5 : Hid (Below w.heap.size w w5) := HB4.out.trans (hb5.mono HB4.out.size)
  have HC5 : Hid (Kd.C (Kd.int .i64) w5 A2 [2, 3, 0, 1].length [2, 3, 0, 1] ∧ Kd.C Kd.string w5 A4 spChain.length spChain) := ⟨Kd.C_below HC4.out hb5, Kd.C_below HR4.out hb5⟩
  obtain ⟨A5, c5, rfl, hc5, hC5⟩ := Kd.R_reads hr5
  have HR5 := Lib.hid hC5
  have HR5' := Lib.hid hc5
  clear hr5 hb5 HB4 HC4 hC5 hc5 HR4
  go_wp2_with fail
  refine (name_Shortest.calls A5 c5 spSmiths 0 ⟨#[115, 105, 46]⟩ 0 _ HR5.out HR5'.out (by decide +kernel)).mono ?_
  rintro e w6 ⟨rfl, hb6⟩
  have HB6 : Hid (Below w.heap.size w w6) := HB5.out.trans (hb6.mono HB5.out.size)
  have HC6 : Hid (Kd.C (Kd.int .i64) w6 A2 [2, 3, 0, 1].length [2, 3, 0, 1] ∧ Kd.C Kd.string w6 A4 spChain.length spChain) := ⟨Kd.C_below HC5.out.1 hb6, Kd.C_below HC5.out.2 hb6⟩
  clear hb6 HB5 HC5 HR5 HR5'
  go_wp2_with fail
  refine (wayzgooselaw03_smiths.calls spSmiths _ rfl).mono ?_
  rintro e w7 ⟨v7, rfl, hr7, hb7⟩
  have HB7 : Hid (Below w.heap.size w w7) := HB6.out.trans (hb7.mono HB6.out.size)
  have HC7 : Hid (Kd.C (Kd.int .i64) w7 A2 [2, 3, 0, 1].length [2, 3, 0, 1] ∧ Kd.C Kd.string w7 A4 spChain.length spChain) := ⟨Kd.C_below HC6.out.1 hb7, Kd.C_below HC6.out.2 hb7⟩
  obtain ⟨A7, c7, rfl, hc7, hC7⟩ := Kd.R_reads hr7
  have HR7 := Lib.hid hC7
  have HR7' := Lib.hid hc7
  clear hr7 hb7 HB6 HC6 hC7 hc7
  go_wp2_with fail
  refine (name_Fit.calls A7 c7 spSmiths 0 4 ⟨#[115, 105, 104, 46]⟩ 0 _ HR7.out HR7'.out (by decide +kernel)).mono ?_
  rintro e w8 ⟨rfl, hb8⟩
  have HB8 : Hid (Below w.heap.size w w8) := HB7.out.trans (hb8.mono HB7.out.size)
  have HC8 : Hid (Kd.C (Kd.int .i64) w8 A2 [2, 3, 0, 1].length [2, 3, 0, 1] ∧ Kd.C Kd.string w8 A4 spChain.length spChain) := ⟨Kd.C_below HC7.out.1 hb8, Kd.C_below HC7.out.2 hb8⟩
  clear hb8 HB7 HC7 HR7 HR7'
  go_wp2_with fail
  refine (wayzgoosekit_EqInts.calls 6 A2 c2 [2, 3, 0, 1] _ 4 [2, 3, 0, 1] true _ (Kd.C_alloc HC8.out.1 _) HC2'.out (C_ints [2, 3, 0, 1] (by decide)) (by decide) (by decide +kernel)).mono ?_
  rintro e w9 ⟨rfl, hd9⟩
  have HB9 : Hid (Below w.heap.size w w9) := (HB8.out.alloc HB8.out.size _).trans (hd9.below.mono (by have := HB8.out.size; simp; omega))
  have HC9 : Hid (Kd.C Kd.string w9 A4 spChain.length spChain) := Kd.C_below (Kd.C_alloc HC8.out.2 _) hd9.below
  clear hd9 HB8 HC8
  go_wp2_with fail
  refine (wayzgoosekit_EqStrings.calls 6 A4 c4 spChain _ 3 spChain true _ (Kd.C_alloc HC9.out _) HR4'.out (C_strs spChain (by decide)) (by decide) (by decide +kernel)).mono ?_
  rintro e w10 ⟨rfl, hd10⟩
  have HB10 : Hid (Below w.heap.size w w10) := (HB9.out.alloc HB9.out.size _).trans (hd10.below.mono (by have := HB9.out.size; simp; omega))
  clear hd10 HB9 HC9
  go_wp2_with fail
  go_ret
  exact ⟨rfl, HB10.out⟩
end Go.Proofs.YtapikimhmjnjeaaGreatDoor.Pr

