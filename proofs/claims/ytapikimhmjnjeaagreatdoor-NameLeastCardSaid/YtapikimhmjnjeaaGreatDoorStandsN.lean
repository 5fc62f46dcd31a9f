/- What package name's Stands and Short say: contracts of the program's own functions. -/
import Derived.Test.YtapikimhmjnjeaaGreatDoorAbbrN
import Derived.Test.YtapikimhmjnjeaaGreatDoorWrongN
import Derived.Test.YtapikimhmjnjeaaGreatDoorBaseE
import Derived.Maps.AppendAt
/- What package name's Stands and Short say: contracts of the program's own functions. -/
set_option linter.unusedVariables false
set_option linter.unusedSimpArgs false
namespace Go.Proofs.YtapikimhmjnjeaaGreatDoor
open Go.RowKit Go.Shelf
attribute [local go_sem] Oper.semAt_some

/-- The indices below i of the names for which letters stand. -/
def standI (k : ByteArray) (l : List ByteArray) : Nat → List Int
  | 0 => []
  | i + 1 => standI k l i ++ (if standsB k (keyB (l.getD i ByteArray.empty)) then [(i : Int)] else [])
theorem standI_succ (k : ByteArray) (l : List ByteArray) (i : Nat) : standI k l (i + 1) = standI k l i ++ (if standsB k (keyB (l.getD i ByteArray.empty)) then [(i : Int)] else []) := rfl
theorem standI_len (k : ByteArray) (l : List ByteArray) : ∀ i, (standI k l i).length ≤ i
  | 0 => Nat.le_refl _
  | i + 1 => by
    have := standI_len k l i
    rw [standI_succ, List.length_append]
    split <;> simp <;> omega
/-- What Stands finds. -/
def standF (s : ByteArray) (l : List ByteArray) : List Int × Int :=
  if isDot s = true then (if listedZ l = 0 then (standI (cutDot s) l l.length, 0) else ([], listedZ l)) else ([], 2)
theorem isDot_pos {s : ByteArray} (h : isDot s = true) : 0 < (cutDot s).size := by
  unfold isDot at h
  rw [Bool.and_eq_true] at h
  have := h.2
  unfold lettersB at this
  simp at this
  omega
theorem listed_nm3 {l : List ByteArray} (h : listedZ l = 0) : l.length ≤ 6 ∧ ∀ s ∈ l, Nm s := by
  unfold listedZ at h
  split at h
  · cases h
  · exact ⟨by omega, chkL_nm h⟩

set_option maxRecDepth 100000 in
set_option maxHeartbeats 4000000 in
theorem stands_good (s : ByteArray) (A : Option Addr) (c : Nat) (l : List ByteArray) (w : World) (hss : s.size ≤ 140737488351232) (hd : isDot s = true) (hl : StrsAt w A l) (hs : l.length ≤ 1000000 ∧ ∀ s ∈ l, s.size ≤ 1000000) :
    Calls Tryz.prog 72 #[.string s, .slice A l.length c] w fun e w' => ∃ v, e = .returned (.tuple #[v, .int .i64 (standF s l).2]) ∧ RowI w.heap.size w' (standF s l).1 v ∧ Below w.heap.size w w' := by
  have HA := Lib.hid (abbr_good s w hss hd)
  have HL := Lib.hid hl
  have HLI := Lib.hid (fun W (hW : StrsAt W A l) => listed_any A c l W hW hs)
  have HKP := Lib.hid (isDot_pos hd)
  have HX0 : Hid (standF s l = if listedZ l = 0 then (standI (cutDot s) l l.length, 0) else ([], listedZ l)) := by show _ = _; unfold standF; rw [if_pos hd]
  obtain ⟨k, hk⟩ : ∃ k, cutDot s = k := ⟨_, rfl⟩
  rw [hk] at HA HKP HX0
  clear hl hs hd hss hk
  by_cases h0 : listedZ l = 0
  · have HLN := Lib.hid (listed_nm3 h0)
    have HF : Hid (standF s l = (standI k l l.length, 0)) := by show _ = _; rw [HX0.out, if_pos h0]
    rw [h0] at HLI
    have hinfo : (Tryz.prog.info? 3).map (fun i => (i.zero, i.size, i.bytes)) = some (some (.int .i64 0), 1, 8) := by kernel_rfl
    obtain ⟨i0, hi, hz0, hz1, hz2⟩ : ∃ i0, Tryz.prog.info? 3 = some i0 ∧ i0.zero = some (.int .i64 0) ∧ i0.size = 1 ∧ i0.bytes = 8 := by
      cases h : Tryz.prog.info? 3 with
      | none => rw [h] at hinfo; cases hinfo
      | some i0 => rw [h] at hinfo; simp at hinfo; exact ⟨i0, rfl, hinfo.1, hinfo.2.1, hinfo.2.2⟩
    have HI := Lib.hid (And.intro hi (And.intro hz0 (And.intro hz1 hz2)))
    clear hinfo hi hz0 hz1 hz2 h0 HX0
    go_enter Tryz.func72, Tryz.ntmps72
    go_wp2_with fail
    refine HA.out.mono ?_
    rintro e w2 ⟨rfl, hb⟩
    have HB := Lib.hid hb
    clear hb HA
    go_wp2_with fail
    refine (HLI.out w2 (HL.out.below HB.out)).mono ?_
    rintro e w3 ⟨rfl, hb3⟩
    have HB3 := Lib.hid (HB.out.trans (hb3.mono HB.out.size))
    clear hb3 HLI
    go_wp2_with fail
    obtain ⟨R, hR⟩ : ∃ R, w.heap.size = R := ⟨_, rfl⟩
    rw [hR] at HB3
    have HRR := Lib.hid hR
    clear hR HB
    go_loopg [10, 30] l.length (fun gf v10 v30 wx => ∃ i : Nat, v30 = .int .i64 (i : Int) ∧ i + gf = l.length ∧ Hid (Below R w wx) ∧ Hid (wx.ownsRow R 3 1 v10 (standI k l i).length ((standI k l i).map (Value.int .i64))) ∧ Hid (standI k l i = [] → v10 = .slice none 0 0))
    case atStart => exact ⟨0, rfl, by omega, HB3.out, ⟨by simp [standI], .inl ⟨rfl, rfl⟩⟩, fun _ => rfl⟩
    case round =>
      obtain ⟨i, rfl, hig, HB, HO, HON⟩ := hrel
      cases gk with
      | zero =>
        have hn2 : ¬ (i : Int) < (l.length : Int) := by omega
        obtain rfl : i = l.length := by omega
        go_wp2_with fail
        go_ret2
        exact ⟨_, by rw [HF.out]; rfl, by rw [HF.out, HRR.out]; exact ⟨HO.out, HON.out⟩, by rw [HRR.out]; exact HB.out⟩
      | succ g =>
        have hn2 : (i : Int) < (l.length : Int) := by omega
        obtain ⟨b, off, rfl, k2⟩ := (HL.out.below (by rw [HRR.out]; exact HB.out)) i (by omega)
        have a1 : (0 : Int) ≤ (i : Int) := by omega
        have a3 : (i : Int).toNat = i := by omega
        have HO' := Lib.hid (standI_succ k l i)
        have hol := standI_len k l i
        have hll := HLN.out.1
        have hm : l.getD i ByteArray.empty ∈ l := by rw [List.getD_eq_getElem?_getD, List.getElem?_eq_getElem (by omega)]; exact List.getElem_mem _
        have HN := Lib.hid (HLN.out.2 _ hm)
        obtain ⟨x, hx⟩ : ∃ x, l.getD i ByteArray.empty = x := ⟨_, rfl⟩
        rw [hx] at k2 HO' HN
        clear hx hm
        have HRw : Hid (R ≤ wr.heap.size) := Nat.le_trans (by rw [← HRR.out]; exact Nat.le_refl _) HB.out.size
        go_wp2_with fail
        refine (of_any x _ HN.out.le HN.out.all).mono ?_
        rintro e w4 ⟨rfl, hb4⟩
        have HB4 := Lib.hid (And.intro (HB.out.trans (hb4.mono HRw.out)) hb4)
        have HO4 : Hid (w4.ownsRow R 3 1 u10 (standI k l i).length ((standI k l i).map (Value.int .i64))) := (RowI.ext ⟨HO.out, HON.out⟩ (Ext.of_below (B := 0) hb4)).1
        clear hb4 HO HB
        have HS := Lib.hid (fun W => stands_any k (keyB x) W HKP.out (Nat.le_trans (key_size HN.out) (by decide)) (fun b hb => latin_lt (key_latin HN.out b hb)))
        have HK : Hid ((⟨(keyL x.data.toList).toArray⟩ : ByteArray) = keyB x) := rfl
        obtain ⟨ks, hks⟩ : ∃ ks, keyB x = ks := ⟨_, rfl⟩
        rw [hks] at HS HO' HK
        rw [HK.out]
        clear hks
        go_wp2_with fail
        refine (HS.out w4).mono ?_
        rintro e w5 ⟨rfl, hb5⟩
        have HB5 : Hid (Below R w w5) := HB4.out.1.trans (hb5.mono (Nat.le_trans HRw.out HB4.out.2.size))
        have HR5 : Hid (R ≤ w5.heap.size) := Nat.le_trans HRw.out (Nat.le_trans HB4.out.2.size hb5.size)
        have HO5 : Hid (w5.ownsRow R 3 1 u10 (standI k l i).length ((standI k l i).map (Value.int .i64))) := (RowI.ext ⟨HO4.out, HON.out⟩ (Ext.of_below (B := 0) hb5)).1
        clear hb5 HO4 HB4 HS HK
        obtain ⟨q, hq⟩ : ∃ q, standsB k ks = q := ⟨_, rfl⟩
        rw [hq] at HO' ⊢
        clear hq
        cases q with
        | false =>
          have HO2 : Hid (standI k l (i + 1) = standI k l i) := by show _ = _; rw [HO'.out]; simp
          clear HO'
          go_wp2_with fail
          go_roundg g
          case measure => omega
          case rel => exact ⟨i + 1, by go_num, by omega, HB5.out, by show World.ownsRow _ _ _ _ _ _ _; rw [HO2.out]; exact HO5.out, by show standI k l (i + 1) = [] → _; rw [HO2.out]; exact HON.out⟩
        | true =>
          have HO2 : Hid (standI k l (i + 1) = standI k l i ++ [(i : Int)]) := HO'.out
          clear HO'
          go_wp2_with (at_builtin; refine wpList_append_own _ rfl _ _ 23 rfl R 3 i0 (.int .i64 0) 1 8 Tryz.underlying23 HI.out.1 HI.out.2.1 HI.out.2.2.1 HI.out.2.2.2 rfl (by decide) _ _ _ rfl (HO5.out.alloc _) ⟨w5.heap.size, 0, none⟩ 1 1 [.int .i64 (i : Int)] rfl rfl (cell_one_new _ _ _) (by simp [Value.oneCell']) (by unfold maxLen; omega) (by omega) (by have := HR5.out; simp; omega) ?_
                       intro v2 w6 hown2 hg2 hnil2
                       have HB6 : Hid (Below R w w6) := HB5.out.trans (Below.grown ((Below.refl _ w5).alloc HR5.out _) hg2 (by have := HR5.out; simp; omega) (own_ge HO5.out))
                       have HON2 := Lib.hid hown2
                       clear hown2 hg2 hnil2)
          go_roundg g
          case measure => omega
          case rel =>
            refine ⟨i + 1, by go_num, by omega, HB6, ?_, ?_⟩
            · have := HON2.out
              show World.ownsRow _ _ _ _ _ _ _
              rw [HO2.out, List.map_append, List.length_append]
              exact this
            · show standI k l (i + 1) = [] → _
              rw [HO2.out]
              exact fun h => absurd h (by simp)
  · have HF : Hid (standF s l = ([], listedZ l)) := by show _ = _; rw [HX0.out, if_neg h0]
    obtain ⟨z, hz⟩ : ∃ z, listedZ l = z := ⟨_, rfl⟩
    rw [hz] at HLI HF h0
    have h1 : (z == 0) = false := by simpa using h0
    clear hz HX0
    go_enter Tryz.func72, Tryz.ntmps72
    go_wp2_with fail
    refine HA.out.mono ?_
    rintro e w2 ⟨rfl, hb⟩
    have HB := Lib.hid hb
    clear hb HA
    go_wp2_with fail
    refine (HLI.out w2 (HL.out.below HB.out)).mono ?_
    rintro e w3 ⟨rfl, hb3⟩
    have HB3 := Lib.hid (HB.out.trans (hb3.mono HB.out.size))
    clear hb3 HLI
    go_wp2_with fail
    go_ret2
    exact ⟨.slice none 0 0, by rw [HF.out]; rfl, by rw [HF.out]; exact ⟨⟨by simp, .inl ⟨rfl, rfl⟩⟩, fun _ => rfl⟩, HB3.out⟩

end Go.Proofs.YtapikimhmjnjeaaGreatDoor

