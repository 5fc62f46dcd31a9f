/- What slices.Compare says of two lists of numbers, and package name's shorter: contracts. Sizes alone are asked. -/
import Derived.Test.YtapikimhmjnjeaaGreatDoorWrongLaw
import Derived.Test.YtapikimhmjnjeaaGreatDoorBaseB
import Derived.Lib.QuietBelow
/- What slices.Compare says of two lists of numbers, and package name's shorter: contracts. Sizes alone are asked. -/
set_option linter.unusedVariables false
set_option linter.unusedSimpArgs false
namespace Go.Proofs.YtapikimhmjnjeaaGreatDoor
open Go.RowKit Go.Shelf
attribute [local go_sem] Oper.semAt_some

/-- The numbers of a list read at an address. -/
def IntsAt (w : World) (A : Option Addr) (l : List Int) : Prop := ∀ i (_ : i < l.length), ∃ b off, A = some ⟨b, off, none⟩ ∧ w.cell? ⟨b, off + i, none⟩ = some (.int .i64 (l.getD i 0))
theorem IntsAt.below {w w1 : World} {A : Option Addr} {l : List Int} (h : IntsAt w A l) (hb : Below w.heap.size w w1) : IntsAt w1 A l := fun i hi => by
  obtain ⟨b, off, e, hc⟩ := h i hi
  exact ⟨b, off, e, (hb.cell (World.block_lt_of_cell? w _ hc)).trans hc⟩
theorem cmp_num (x y : Int) (w : World) : Calls Tryz.prog 130 #[.int .i64 x, .int .i64 y] w fun e w' => e = .returned (.int .i64 (Lib.compareInt x y)) ∧ w = w' := cmp_int x y w

set_option maxRecDepth 100000 in
set_option maxHeartbeats 2000000 in
theorem compareInts_any (A B : Option Addr) (c d : Nat) (x y : List Int) (w : World) (hx : IntsAt w A x) (hy : IntsAt w B y) (hxl : x.length ≤ 1000) (hyl : y.length ≤ 1000) :
    Calls Tryz.prog 132 #[.slice A x.length c, .slice B y.length d] w fun e w' => e = .returned (.int .i64 (cmpIL x y)) ∧ w = w' := by
  have HX := Lib.hid hx
  have HY := Lib.hid hy
  clear hx hy
  go_enter Tryz.func132, Tryz.ntmps132
  go_wp2_with fail
  go_loopg [11] x.length (fun gf v wx => ∃ i : Nat, v = .int .i64 (i : Int) ∧ i + gf = x.length ∧ i ≤ y.length ∧ wx = w ∧ Hid (cmpIL x y = cmpIL (x.drop i) (y.drop i)))
  case atStart => exact ⟨0, rfl, by omega, by omega, rfl, rfl⟩
  case round =>
    obtain ⟨i, rfl, hig, hiy, rfl, HC⟩ := hrel
    cases gk with
    | zero =>
      have hn : ¬ (i : Int) < (x.length : Int) := by omega
      have ex : x.drop i = [] := List.drop_of_length_le (by omega)
      by_cases hlt : (x.length : Int) < (y.length : Int)
      · have HV : Hid (cmpIL x y = -1) := by
          show _ = _
          rw [HC.out, ex, List.drop_eq_getElem_cons (by omega : i < y.length)]
          rfl
        go_wp2_with fail
        go_ret
        exact ⟨by rw [HV.out]; rfl, rfl⟩
      · have HV : Hid (cmpIL x y = 0) := by
          show _ = _
          rw [HC.out, ex, List.drop_of_length_le (by omega : y.length ≤ i)]
          rfl
        go_wp2_with fail
        go_ret
        exact ⟨by rw [HV.out]; rfl, rfl⟩
    | succ g =>
      have hn : (i : Int) < (x.length : Int) := by omega
      obtain ⟨bx, ox, rfl, k1⟩ := HX.out i (by omega)
      have ex : x.drop i = x.getD i 0 :: x.drop (i + 1) := by
        rw [List.drop_eq_getElem_cons (by omega : i < x.length), List.getD_eq_getElem?_getD, List.getElem?_eq_getElem (by omega)]
        rfl
      have a1 : (0 : Int) ≤ (i : Int) := by omega
      have a3 : (i : Int).toNat = i := by omega
      by_cases hge : (y.length : Int) ≤ (i : Int)
      · have HV : Hid (cmpIL x y = 1) := by
          show _ = _
          rw [HC.out, ex, List.drop_of_length_le (by omega : y.length ≤ i)]
          rfl
        clear HC ex
        go_wp2_with fail
        go_ret
        exact ⟨by rw [HV.out]; rfl, rfl⟩
      · have hge2 : (i : Int) < (y.length : Int) := by omega
        obtain ⟨by_, oy, rfl, k2⟩ := HY.out i (by omega)
        have ey : y.drop i = y.getD i 0 :: y.drop (i + 1) := by
          rw [List.drop_eq_getElem_cons (by omega : i < y.length), List.getD_eq_getElem?_getD, List.getElem?_eq_getElem (by omega)]
          rfl
        obtain ⟨sx, hsx⟩ : ∃ sx, x.getD i 0 = sx := ⟨_, rfl⟩
        obtain ⟨sy, hsy⟩ : ∃ sy, y.getD i 0 = sy := ⟨_, rfl⟩
        rw [hsx] at k1 ex
        rw [hsy] at k2 ey
        have HV : Hid (cmpIL x y = if Lib.compareInt sx sy ≠ 0 then Lib.compareInt sx sy else cmpIL (x.drop (i + 1)) (y.drop (i + 1))) := by
          show _ = _
          rw [HC.out, ex, ey]
          rfl
        clear HC ex ey hsx hsy
        go_wp2_with fail
        refine (cmp_num sx sy _).mono ?_
        rintro e w' ⟨rfl, rfl⟩
        obtain ⟨z, hz⟩ : ∃ z, Lib.compareInt sx sy = z := ⟨_, rfl⟩
        rw [hz] at HV ⊢
        clear hz
        by_cases h0 : z = 0
        · subst h0
          go_wp2_with fail
          go_roundg g
          case measure => omega
          case rel => exact ⟨i + 1, rfl, by omega, by omega, rfl, HV.out⟩
        · have HV2 : Hid (cmpIL x y = z) := by
            show _ = _
            rw [HV.out, if_pos h0]
          have h1 : (z == 0) = false := by simpa using h0
          go_wp2_with fail
          go_ret
          exact ⟨by rw [HV2.out]; rfl, rfl⟩

set_option maxRecDepth 100000 in
set_option maxHeartbeats 2000000 in
theorem shorter_any (A B : Option Addr) (c d : Nat) (x y : List Int) (w : World) (hx : IntsAt w A x) (hy : IntsAt w B y) (hxl : x.length ≤ 1000) (hyl : y.length ≤ 1000) :
    Calls Tryz.prog 103 #[.slice A x.length c, .slice B y.length d] w fun e w' => e = .returned (.int .i64 (shorterF x y)) ∧ Below w.heap.size w w' := by
  have HX := Lib.hid hx
  have HY := Lib.hid hy
  clear hx hy
  go_enter Tryz.func103, Tryz.ntmps103
  go_wp2_with fail
  refine (cmp_int _ _ _).mono ?_
  rintro e w' ⟨rfl, rfl⟩
  obtain ⟨c1, hc1⟩ : ∃ c1, Lib.compareInt (x.length : Int) (y.length : Int) = c1 := ⟨_, rfl⟩
  rw [hc1]
  have HC1 := Lib.hid hc1
  clear hc1
  go_wp2_with fail
  refine (compareInts_any A B c d x y _ HX.out HY.out hxl hyl).mono ?_
  rintro e w' ⟨rfl, rfl⟩
  obtain ⟨c2, hc2⟩ : ∃ c2, cmpIL x y = c2 := ⟨_, rfl⟩
  rw [hc2]
  have HC2 := Lib.hid hc2
  clear hc2
  go_wp2_with fail
  refine (or_two _ c1 c2 _ (by simp) (by simp)).mono ?_
  rintro e w' ⟨rfl, rfl⟩
  go_wp2_with fail
  go_ret
  exact ⟨by unfold shorterF; rw [HC1.out, HC2.out]; rfl, (Below.refl _ _).alloc (Nat.le_refl _) _⟩
end Go.Proofs.YtapikimhmjnjeaaGreatDoor

