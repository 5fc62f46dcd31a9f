/- What package name's Place and Compare say: contracts of the program's own functions. Sizes alone are asked. -/
import Derived.Test.YtapikimhmjnjeaaGreatDoorBaseD
/- What package name's Place and Compare say: contracts of the program's own functions. Sizes alone are asked. -/
set_option linter.unusedVariables false
set_option linter.unusedSimpArgs false
namespace Go.Proofs.YtapikimhmjnjeaaGreatDoor
open Go.RowKit Go.Shelf

theorem listed_nm2 {l : List ByteArray} (h : listedZ l = 0) : l.length ≤ 6 ∧ ∀ s ∈ l, Nm s := by
  unfold listedZ at h
  split at h
  · cases h
  · exact ⟨by omega, chkL_nm h⟩
/-- How many names of a list come before a name. -/
def lessN (s : ByteArray) : List ByteArray → Nat
  | [] => 0
  | x :: l => (if cmpN x s < 0 then 1 else 0) + lessN s l
def placeF (l : List ByteArray) (s : ByteArray) : Int × Int :=
  if listedZ l = 0 then (if chk s.data.toList = 0 then (if downN l (l.length - 1) = true then ((lessN s l : Int), 0) else (0, 5)) else (0, chk s.data.toList)) else (0, listedZ l)

set_option maxRecDepth 100000 in
set_option maxHeartbeats 2000000 in
theorem place_any (A : Option Addr) (c : Nat) (l : List ByteArray) (s : ByteArray) (w : World) (hl : StrsAt w A l) (hs : l.length ≤ 1000000 ∧ ∀ s ∈ l, s.size ≤ 1000000) (hss : s.size ≤ 140737488351232) :
    Calls Tryz.prog 63 #[.slice A l.length c, .string s] w fun e w' => e = .returned (.tuple #[.int .i64 (placeF l s).1, .int .i64 (placeF l s).2]) ∧ Below w.heap.size w w' := by
  have HL := Lib.hid hl
  have HLI := Lib.hid (listed_any A c l w hl hs)
  have HCH := Lib.hid (fun W => check_any s W hss)
  clear hl hs hss
  by_cases h0 : listedZ l = 0
  · have HLN := Lib.hid (listed_nm2 h0)
    rw [h0] at HLI
    by_cases h1 : chk s.data.toList = 0
    · have HNS := Lib.hid (chk_nm h1)
      rw [h1] at HCH
      have HX : Hid (placeF l s = if downN l (l.length - 1) = true then ((lessN s l : Int), 0) else (0, 5)) := by show _ = _; unfold placeF; rw [if_pos h0, if_pos h1]
      clear h0 h1
      go_enter Tryz.func63, Tryz.ntmps63
      go_wp2_with fail
      refine HLI.out.mono ?_
      rintro e w1 ⟨rfl, hb1⟩
      have HB1 := Lib.hid hb1
      clear hb1 HLI
      go_wp2_with fail
      refine (HCH.out w1).mono ?_
      rintro e w2 ⟨rfl, hb2⟩
      have HB2 := Lib.hid (HB1.out.trans (hb2.mono HB1.out.size))
      clear hb2 HCH HB1
      go_wp2_with fail
      refine (isSorted_any A c l w2 (HL.out.below HB2.out) HLN.out.2 HLN.out.1).mono ?_
      rintro e w3 ⟨rfl, hb3⟩
      have HB3 := Lib.hid (HB2.out.trans (hb3.mono HB2.out.size))
      clear hb3 HB2
      obtain ⟨q, hq⟩ : ∃ q, downN l (l.length - 1) = q := ⟨_, rfl⟩
      rw [hq] at HX ⊢
      clear hq
      cases q with
      | false =>
        have HX2 : Hid (placeF l s = (0, 5)) := HX.out
        clear HX
        go_wp2_with fail
        go_ret2
        exact ⟨by rw [HX2.out]; rfl, HB3.out⟩
      | true =>
        have HX2 : Hid (placeF l s = ((lessN s l : Int), 0)) := HX.out
        have hl6 := HLN.out.1
        clear HX
        go_wp2_with fail
        go_loopg [8, 26] l.length (fun gf v8 v26 wx => ∃ (i n : Nat), v26 = .int .i64 (i : Int) ∧ v8 = .int .i64 (n : Int) ∧ i + gf = l.length ∧ n ≤ i ∧ Hid (Below w.heap.size w wx) ∧ Hid (lessN s l = n + lessN s (l.drop i)))
        case atStart => exact ⟨0, 0, rfl, rfl, by omega, by omega, HB3.out, by show _ = _; rw [List.drop_zero, Nat.zero_add]⟩
        case round =>
          obtain ⟨i, n, rfl, rfl, hig, hni, HB, HV⟩ := hrel
          cases gk with
          | zero =>
            have hn2 : ¬ (i : Int) < (l.length : Int) := by omega
            have HV2 : Hid (lessN s l = n) := by show _ = _; rw [HV.out, List.drop_of_length_le (by omega)]; rfl
            go_wp2_with fail
            go_ret2
            exact ⟨by rw [HX2.out, HV2.out]; rfl, HB.out⟩
          | succ g =>
            have hn2 : (i : Int) < (l.length : Int) := by omega
            obtain ⟨b, off, rfl, k1⟩ := (HL.out.below HB.out) i (by omega)
            have ex : l.drop i = l.getD i ByteArray.empty :: l.drop (i + 1) := by
              rw [List.drop_eq_getElem_cons (by omega : i < l.length), List.getD_eq_getElem?_getD, List.getElem?_eq_getElem (by omega)]
              rfl
            have hm : l.getD i ByteArray.empty ∈ l := by rw [List.getD_eq_getElem?_getD, List.getElem?_eq_getElem (by omega)]; exact List.getElem_mem _
            obtain ⟨x, hx⟩ : ∃ x, l.getD i ByteArray.empty = x := ⟨_, rfl⟩
            rw [hx] at k1 ex hm
            have HNX := Lib.hid (HLN.out.2 x hm)
            have HV2 : Hid (lessN s l = n + ((if cmpN x s < 0 then 1 else 0) + lessN s (l.drop (i + 1)))) := by
              show _ = _
              rw [HV.out, ex, lessN]
            have a1 : (0 : Int) ≤ (i : Int) := by omega
            have a3 : (i : Int).toNat = i := by omega
            clear HV ex hx hm
            go_wp2_with fail
            refine (compare_any x s wr HNX.out HNS.out).mono ?_
            rintro e w4 ⟨rfl, hb4⟩
            have HB4 := Lib.hid (HB.out.trans (hb4.mono HB.out.size))
            clear hb4 HB HNX
            obtain ⟨z, hz⟩ : ∃ z, cmpN x s = z := ⟨_, rfl⟩
            rw [hz] at HV2 ⊢
            clear hz
            by_cases hz : z < 0
            · have HV3 : Hid (lessN s l = (n + 1) + lessN s (l.drop (i + 1))) := by show _ = _; rw [HV2.out, if_pos hz]; omega
              clear HV2
              go_wp2_with fail
              go_roundg g
              case measure => omega
              case rel => exact ⟨i + 1, n + 1, by go_num, by go_num, by omega, by omega, HB4, HV3.out⟩
            · have HV3 : Hid (lessN s l = n + lessN s (l.drop (i + 1))) := by show _ = _; rw [HV2.out, if_neg hz]; omega
              clear HV2
              go_wp2_with fail
              go_roundg g
              case measure => omega
              case rel => exact ⟨i + 1, n, by go_num, rfl, by omega, by omega, HB4, HV3.out⟩
    · have HX : Hid (placeF l s = (0, chk s.data.toList)) := by show _ = _; unfold placeF; rw [if_pos h0, if_neg h1]
      obtain ⟨z, hz⟩ : ∃ z, chk s.data.toList = z := ⟨_, rfl⟩
      rw [hz] at HCH HX h1
      clear hz
      have h2 : (z == 0) = false := by simpa using h1
      clear h0
      go_enter Tryz.func63, Tryz.ntmps63
      go_wp2_with fail
      refine HLI.out.mono ?_
      rintro e w1 ⟨rfl, hb1⟩
      have HB1 := Lib.hid hb1
      clear hb1 HLI
      go_wp2_with fail
      refine (HCH.out w1).mono ?_
      rintro e w2 ⟨rfl, hb2⟩
      have HB2 := Lib.hid (HB1.out.trans (hb2.mono HB1.out.size))
      clear hb2 HCH HB1
      go_wp2_with fail
      go_ret2
      exact ⟨by rw [HX.out]; rfl, HB2.out⟩
  · have HX : Hid (placeF l s = (0, listedZ l)) := by show _ = _; unfold placeF; rw [if_neg h0]
    obtain ⟨z, hz⟩ : ∃ z, listedZ l = z := ⟨_, rfl⟩
    rw [hz] at HLI HX h0
    clear hz
    have h1 : (z == 0) = false := by simpa using h0
    go_enter Tryz.func63, Tryz.ntmps63
    go_wp2_with fail
    refine HLI.out.mono ?_
    rintro e w2 ⟨rfl, hb⟩
    have HB := Lib.hid hb
    clear hb HLI
    go_wp2_with fail
    go_ret2
    exact ⟨by rw [HX.out]; rfl, HB.out⟩
end Go.Proofs.YtapikimhmjnjeaaGreatDoor

