/- Contracts and plain laws of the program's own functions: Insert, Listed, SortN. -/
import Derived.Test.YtapikimhmjnjeaaGreatDoorBaseA
import Derived.Test.YtapikimhmjnjeaaGreatDoorBaseB
import Derived.BigRegion
import Derived.Test.YtapikimhmjnjeaaGreatDoorWords
import Derived.Test.YtapikimhmjnjeaaGreatDoorProg
import Derived.Deep.LoopGhost
import Derived.StillTailTactics
import Derived.Deep.QuietTactic
import Derived.BigQuiet
import Derived.Lib.QuietBelow
import Derived.Maps.AppendAt
import Derived.Laws.EntriesVeiled
/- Contracts and plain laws of the program's own functions: Insert, Listed, SortN. -/
set_option linter.unusedVariables false
set_option linter.unusedSimpArgs false
/- What slices.insertionSortCmpFunc and slices.SortStableFunc at []int say of short rows: contracts of the library's functions as the program calls them. -/
namespace Go.Proofs.YtapikimhmjnjeaaGreatDoor
open Go.RowKit Go.Shelf Go.Proofs.YtapikimhmjnjeaaGreatDoorW.PrintWords

/-- A row of ints of the call's own. -/
abbrev RI (W : World) (base blk cap : Nat) (d : List Int) : Prop := (Kd.int .i64).R 3 W base (fun _ => True) (.slice (some ⟨blk, 0, none⟩) d.length cap) d

def swapL (d : List Int) (j : Nat) : List Int := (d.set (j + 1) (rd d j)).set j (rd d (j + 1))
theorem swapL_len (d : List Int) (j : Nat) : (swapL d j).length = d.length := by simp [swapL]
/-- The inner loop of insertion sort: the element at j goes down as far as it is less. -/
def insIn (cf : Int → Int → Int) : Nat → List Int → List Int
  | 0, d => d
  | j + 1, d => if cf (rd d (j + 1)) (rd d j) < 0 then insIn cf j (swapL d j) else d
theorem insIn_len (cf : Int → Int → Int) : ∀ (j : Nat) (d : List Int), (insIn cf j d).length = d.length
  | 0, _ => rfl
  | j + 1, d => by
    unfold insIn
    split
    · rw [insIn_len cf j, swapL_len]
    · rfl
def insOut (cf : Int → Int → Int) : Nat → Nat → List Int → List Int
  | 0, _, d => d
  | n + 1, i, d => insOut cf n (i + 1) (insIn cf i d)
/-- Insertion sort. -/
def insL (cf : Int → Int → Int) (d : List Int) : List Int := insOut cf (d.length - 1) 1 d

theorem RI.keep {W W' : World} {base blk cap : Nat} {d : List Int} (h : RI W base blk cap d) (hb : Below W.heap.size W W') : RI W' base blk cap d := Kd.R_below h hb

set_option maxRecDepth 100000 in
set_option maxHeartbeats 4000000 in
theorem insertion_any (go : Nat) (cb : Array Value) (ego : ∀ args w, (callFunc go args).run Tryz.prog w = .ok (.enter go args) w) (cf : Int → Int → Int) (base blk cap : Nat) (d : List Int) (w : World) (hd : RI w base blk cap d) (hlen : d.length ≤ 1000)
    (hcmp : ∀ W (x y : Int), Keeps (fun k => k = blk) w W → 0 ≤ x → x < d.length → 0 ≤ y → y < d.length → Calls Tryz.prog go (#[.int .i64 x, .int .i64 y] ++ cb) W fun e W' => e = .returned (.int .i64 (cf x y)) ∧ Below W.heap.size W W')
    (hel : ∀ x ∈ d, 0 ≤ x ∧ x < d.length) :
    Calls Tryz.prog 154 #[.slice (some ⟨blk, 0, none⟩) d.length cap, .int .i64 0, .int .i64 d.length, .func (.func go) #[] cb] w fun e w' =>
      e = .returned (.tuple #[]) ∧ RI w' base blk cap (insL cf d) ∧ Keeps (fun k => k = blk) w w' := by
  have HC := Lib.hid hcmp
  have HD := Lib.hid hd
  have HEL := Lib.hid hel
  clear hcmp hd hel
  go_enter Tryz.func154, Tryz.ntmps154
  go_wp2_with fail
  go_loopg [8] (d.length - 1) (fun gf v wx => ∃ (i : Nat) (e : List Int), v = .int .i64 (i : Int) ∧ 1 ≤ i ∧ d.length ≤ i + gf ∧ (gf = 0 ∨ i + gf = d.length) ∧ e.length = d.length ∧ Hid (RI wx base blk cap e) ∧ Hid (Keeps (fun k => k = blk) w wx) ∧
    Hid (∀ x ∈ e, 0 ≤ x ∧ x < d.length) ∧ Hid (insL cf d = insOut cf gf i e))
  case atStart => exact ⟨1, d, by go_num, by omega, by omega, by omega, rfl, HD.out, Keeps.refl _ _, HEL.out, rfl⟩
  case round =>
    obtain ⟨i, e, rfl, hi1, hig, hig2, hel, HRI, HK, HEE, HI⟩ := hrel
    by_cases hlt : (i : Int) < (d.length : Int)
    · obtain ⟨g, rfl⟩ : ∃ g, gk = g + 1 := ⟨gk - 1, by omega⟩
      go_wp2_with fail
      go_loopg [9] i (fun gf v wx => ∃ (j : Nat) (e2 : List Int), v = .int .i64 (j : Int) ∧ j ≤ i ∧ j ≤ gf ∧ e2.length = d.length ∧ Hid (RI wx base blk cap e2) ∧ Hid (Keeps (fun k => k = blk) w wx) ∧ Hid (∀ x ∈ e2, 0 ≤ x ∧ x < d.length) ∧ Hid (insIn cf i e = insIn cf j e2))
      case atStart => exact ⟨i, e, rfl, Nat.le_refl _, Nat.le_refl _, hel, HRI, HK, HEE, rfl⟩
      case round =>
        clear HRI HK HEE
        obtain ⟨j, e2, rfl, hji, hjg, hel2, HRI, HK, HEE, HJ⟩ := hrel
        have outer : ∀ e3 : List Int, insIn cf i e = e3 → insL cf d = insOut cf g (i + 1) e3 := fun e3 h3 => by rw [HI.out, ← h3]; rfl
        have HOUT := Lib.hid outer
        clear outer
        cases j with
        | zero =>
          have HV : Hid (insIn cf i e = e2) := by show _ = _; rw [HJ.out]; rfl
          go_wp2_with fail
          refine wp_region_quiet_below (by kernel_rfl) (by kernel_rfl) ?_
          repeat (go_big_quiet_step (fail))
          refine wpQuiet_nil ?_
          intro _ hw'
          obtain ⟨⟨dq, osq⟩, hw''⟩ := hw'
          subst hw''
          have hBq := below_regrown wr dq osq
          have HR2 : Hid (RI (Go.Sort.grow (redrawn wr dq) osq) base blk cap e2) := HRI.out.keep hBq
          have HK2 : Hid (Keeps (fun k => k = blk) w (Go.Sort.grow (redrawn wr dq) osq)) := HK.out.trans (Keeps.of_below hBq)
          clear hBq
          generalize Go.Sort.grow (redrawn wr dq) osq = w2 at HR2 HK2 ⊢
          go_wp2_with fail
          go_roundg g
          case measure => omega
          case rel => exact ⟨i + 1, e2, by go_num, by omega, by omega, by omega, hel2, HR2, HK2, HEE, HOUT.out _ HV.out⟩
        | succ jp =>
          obtain ⟨x, hx⟩ : ∃ x, rd e2 ((jp : Int) + 1) = x := ⟨_, rfl⟩
          obtain ⟨y, hy⟩ : ∃ y, rd e2 (jp : Int) = y := ⟨_, rfl⟩
          have c1 := (Kd.R_cell 0 HRI.out ((jp : Int) + 1) (by omega) (by omega)).1
          have f1 := (Kd.R_cell 0 HRI.out ((jp : Int) + 1) (by omega) (by omega)).2
          have c2 := (Kd.R_cell 0 HRI.out (jp : Int) (by omega) (by omega)).1
          have f2 := (Kd.R_cell 0 HRI.out (jp : Int) (by omega) (by omega)).2
          have t1 : ((jp : Int) + 1).toNat = jp + 1 := by omega
          have t2 : (jp : Int).toNat = jp := by omega
          rw [t1] at c1 f1
          rw [t2] at c2 f2
          change wr.cell? ⟨blk, jp + 1, none⟩ = some (.int .i64 (rd e2 ((jp : Int) + 1))) at c1
          change wr.cell? ⟨blk, jp, none⟩ = some (.int .i64 (rd e2 (jp : Int))) at c2
          rw [hx] at c1
          rw [hy] at c2
          have hxm : x ∈ e2 := by rw [← hx]; unfold rd; rw [List.getD_eq_getElem?_getD, List.getElem?_eq_getElem (by omega)]; exact List.getElem_mem _
          have hym : y ∈ e2 := by rw [← hy]; unfold rd; rw [List.getD_eq_getElem?_getD, List.getElem?_eq_getElem (by omega)]; exact List.getElem_mem _
          have HXY := Lib.hid (And.intro (HEE.out x hxm) (HEE.out y hym))
          clear hxm hym
          have a1 : (0 : Int) ≤ (jp : Int) + 1 := by omega
          have a2 : (jp : Int) + 1 < (d.length : Int) := by omega
          have a3 : IntKind.i64.wrap (jp : Int) = (jp : Int) := IntWalk.i64_in _ (by omega)
          have a4 : (0 : Int) ≤ (jp : Int) := by omega
          have a5 : (jp : Int) < (d.length : Int) := by omega
          have HF := Lib.hid (And.intro f1 f2)
          have HXX := Lib.hid (And.intro hx hy)
          clear f1 f2 hx hy
          go_wp2_with fail
          have d1 := cell_regrown c1
          have d2 := cell_regrown c2
          have cC : ∀ dq osq, Calls Tryz.prog go (#[.int .i64 x, .int .i64 y] ++ cb) (Go.Sort.grow (redrawn wr dq) osq) fun e w'' => e = .returned (.int .i64 (cf x y)) ∧ ∃ p : Regrown, w'' = Go.Sort.grow (redrawn wr p.d) p.os := fun dq osq =>
            Calls.regrown_of (HC.out (Go.Sort.grow (redrawn wr dq) osq) x y (HK.out.trans (Keeps.of_below (below_regrown wr dq osq))) HXY.out.1.1 HXY.out.1.2 HXY.out.2.1 HXY.out.2.2)
          refine wp_region_quiet_below (by kernel_rfl) (by kernel_rfl) ?_
          repeat (go_big_quiet_step (exact cC _ _))
          refine wpQuiet_nil ?_
          intro _ hw'
          obtain ⟨⟨dq, osq⟩, hw''⟩ := hw'
          subst hw''
          have hBq := below_regrown wr dq osq
          have HR2 : Hid (RI (Go.Sort.grow (redrawn wr dq) osq) base blk cap e2) := HRI.out.keep hBq
          have HK2 : Hid (Keeps (fun k => k = blk) w (Go.Sort.grow (redrawn wr dq) osq)) := HK.out.trans (Keeps.of_below hBq)
          clear hBq c1 c2 d1 d2 cC HRI HK HF
          generalize Go.Sort.grow (redrawn wr dq) osq = w2 at HR2 HK2 ⊢
          obtain ⟨z, hz⟩ : ∃ z, cf x y = z := ⟨_, rfl⟩
          rw [hz]
          have HZ := Lib.hid hz
          clear hz
          by_cases hlv : z < 0
          · go_wp2_with fail
            have hR2 := HR2.out
            have c1 := (Kd.R_cell 0 hR2 ((jp : Int) + 1) (by omega) (by omega)).1
            have f1 := (Kd.R_cell 0 hR2 ((jp : Int) + 1) (by omega) (by omega)).2
            have c2 := (Kd.R_cell 0 hR2 (jp : Int) (by omega) (by omega)).1
            have f2 := (Kd.R_cell 0 hR2 (jp : Int) (by omega) (by omega)).2
            have hR3 := (Kd.R_put hR2 ((jp : Int) + 1) y).1
            rw [show (Value.slice (some ⟨blk, 0, none⟩) e2.length cap) = Value.slice (some ⟨blk, 0, none⟩) (e2.set ((jp : Int) + 1).toNat y).length cap by rw [List.length_set]] at hR3
            have c3 := (Kd.R_cell 0 hR3 (jp : Int) (by omega) (by simp; omega)).1
            have hR4 := (Kd.R_put hR3 (jp : Int) x).1
            rw [t1] at c1 f1 c3 hR4
            rw [t2] at c2 f2 c3 hR4
            change w2.cell? ⟨blk, jp + 1, none⟩ = some (.int .i64 (rd e2 ((jp : Int) + 1))) at c1
            change w2.cell? ⟨blk, jp, none⟩ = some (.int .i64 (rd e2 (jp : Int))) at c2
            rw [HXX.out.1] at c1
            rw [HXX.out.2] at c2
            obtain ⟨u0, c3'⟩ : ∃ u0, (w2.setCell ⟨blk, jp + 1, none⟩ (.int .i64 y)).cell? ⟨blk, jp, none⟩ = some u0 := ⟨_, c3⟩
            have HR4 : Hid (RI ((w2.setCell ⟨blk, jp + 1, none⟩ (.int .i64 y)).setCell ⟨blk, jp, none⟩ (.int .i64 x)).drew base blk cap (swapL e2 jp)) := by
              have e1 : swapL e2 jp = (e2.set (jp + 1) y).set jp x := by unfold swapL; rw [HXX.out.1, HXX.out.2]
              show Kd.R _ _ _ _ _ _ _
              rw [e1]
              have h5 := Kd.R_below hR4 (Below.drew (Below.refl _ _))
              rw [show (Value.slice (some ⟨blk, 0, none⟩) (e2.set (jp + 1) y).length cap) = Value.slice (some ⟨blk, 0, none⟩) ((e2.set (jp + 1) y).set jp x).length cap by simp] at h5
              exact h5
            have HK4 : Hid (Keeps (fun k => k = blk) w ((w2.setCell ⟨blk, jp + 1, none⟩ (.int .i64 y)).setCell ⟨blk, jp, none⟩ (.int .i64 x)).drew) := ((HK2.out.trans (Keeps.setCell w2 blk _ _ rfl)).trans (Keeps.setCell _ blk _ _ rfl)).drew
            have HE4 : Hid (∀ z ∈ swapL e2 jp, 0 ≤ z ∧ z < d.length) := by
              intro z hz
              unfold swapL at hz
              rw [HXX.out.1, HXX.out.2] at hz
              rcases List.mem_or_eq_of_mem_set hz with hz | rfl
              · rcases List.mem_or_eq_of_mem_set hz with hz | rfl
                · exact HEE.out z hz
                · exact HXY.out.2
              · exact HXY.out.1
            clear hR2 hR3 hR4 c3 HR2 HK2
            go_big_region
            clear c1 c2 c3' f1 f2
            generalize ((w2.setCell ⟨blk, jp + 1, none⟩ (.int .i64 y)).setCell ⟨blk, jp, none⟩ (.int .i64 x)).drew = w3 at HR4 HK4 ⊢
            go_wp2_with fail
            go_roundg jp
            case measure => omega
            case rel =>
              refine ⟨jp, swapL e2 jp, by first | rfl | go_num | (congr 1; omega), by omega, by omega, by rw [swapL_len]; exact hel2, HR4, HK4, HE4, ?_⟩
              show _ = _
              rw [HJ.out]
              have h1 := HZ.out
              rw [← HXX.out.1, ← HXX.out.2] at h1
              show (if cf (rd e2 ((jp : Int) + 1)) (rd e2 (jp : Int)) < 0 then _ else _) = _
              rw [h1, if_pos hlv]
          · go_wp2_with fail
            go_roundg g
            case measure => omega
            case rel =>
              refine ⟨i + 1, e2, by go_num, by omega, by omega, by omega, hel2, HR2, HK2, HEE, HOUT.out _ ?_⟩
              rw [HJ.out]
              have h1 := HZ.out
              rw [← HXX.out.1, ← HXX.out.2] at h1
              show (if cf (rd e2 ((jp : Int) + 1)) (rd e2 (jp : Int)) < 0 then _ else _) = _
              rw [h1, if_neg (by omega)]
    · have hgk : gk = 0 := by omega
      have HV : Hid (insL cf d = e) := by show _ = _; rw [HI.out, hgk]; rfl
      go_wp2_with fail
      go_end0
      exact ⟨rfl, by rw [HV.out]; exact HRI.out, HK.out⟩
end Go.Proofs.YtapikimhmjnjeaaGreatDoor

/- What package name's checked, listed and Sort say: contracts of the program's own functions. Sizes alone are asked. -/
namespace Go.Proofs.YtapikimhmjnjeaaGreatDoor
open Go.RowKit Go.Shelf Go.Proofs.YtapikimhmjnjeaaGreatDoorW.PrintWords

/-- The first error of several names. -/
def chkL : List ByteArray → Int
  | [] => 0
  | s :: l => if chk s.data.toList = 0 then chkL l else chk s.data.toList
/-- The error of a list of names. -/
def listedZ (l : List ByteArray) : Int := if 6 < l.length then 6 else chkL l

theorem chk_nm {s : ByteArray} (h : chk s.data.toList = 0) : Nm s := by
  have hl : s.data.toList.length = s.size := by rw [Array.length_toList]; rfl
  unfold chk at h
  split at h
  · cases h
  · split at h
    · cases h
    · rename_i h1 h2
      split at h
      · rename_i h3
        refine ⟨by omega, by omega, fun b hb => ?_, h3⟩
        rcases h3 with h3 | h3 <;> rw [h3 b hb] <;> decide
      · cases h
theorem nm_chk {s : ByteArray} (h : Nm s) : chk s.data.toList = 0 := by
  have hl : s.data.toList.length = s.size := by rw [Array.length_toList]; rfl
  have h1 := h.pos
  have h2 := h.le
  unfold chk
  rw [if_neg (by omega), if_neg (by omega), if_pos h.one]
theorem chkL_nm : ∀ {l : List ByteArray}, chkL l = 0 → ∀ s ∈ l, Nm s
  | [], _, s, hs => by cases hs
  | t :: l, h, s, hs => by
    unfold chkL at h
    split at h
    · rename_i h0
      rcases List.mem_cons.1 hs with rfl | hs
      · exact chk_nm h0
      · exact chkL_nm h s hs
    · rename_i h0; exact absurd h h0
theorem nm_chkL : ∀ {l : List ByteArray}, (∀ s ∈ l, Nm s) → chkL l = 0
  | [], _ => rfl
  | t :: l, h => by
    unfold chkL
    rw [if_pos (nm_chk (h t (List.mem_cons_self ..)))]
    exact nm_chkL fun s hs => h s (List.mem_cons_of_mem _ hs)

set_option maxRecDepth 100000 in
set_option maxHeartbeats 1000000 in
theorem checked_any (A : Option Addr) (c : Nat) (l : List ByteArray) (w : World) (hl : StrsAt w A l) (hn : l.length ≤ 1000000) (hs : ∀ s ∈ l, s.size ≤ 1000000) :
    Calls Tryz.prog 87 #[.slice A l.length c] w fun e w' => e = .returned (.int .i64 (chkL l)) ∧ Below w.heap.size w w' := by
  have HL := Lib.hid hl
  have HS := Lib.hid hs
  clear hl hs
  go_enter Tryz.func87, Tryz.ntmps87
  go_wp2_with fail
  go_loopg [8] l.length (fun gf v wx => ∃ i : Nat, v = .int .i64 (i : Int) ∧ i + gf = l.length ∧ Below w.heap.size w wx ∧ Hid (chkL l = chkL (l.drop i)))
  case atStart => exact ⟨0, rfl, by omega, Below.refl _ _, rfl⟩
  case round =>
    obtain ⟨i, rfl, hig, hb, HC⟩ := hrel
    cases gk with
    | zero =>
      have hn2 : ¬ (i : Int) < (l.length : Int) := by omega
      have HV : Hid (chkL l = 0) := by show _ = _; rw [HC.out, List.drop_of_length_le (by omega)]; rfl
      go_wp2_with fail
      go_ret
      exact ⟨by rw [HV.out]; rfl, hb⟩
    | succ g =>
      have hn2 : (i : Int) < (l.length : Int) := by omega
      obtain ⟨b, off, rfl, k1⟩ := (HL.out.below hb) i (by omega)
      have ex : l.drop i = l.getD i ByteArray.empty :: l.drop (i + 1) := by
        rw [List.drop_eq_getElem_cons (by omega : i < l.length), List.getD_eq_getElem?_getD, List.getElem?_eq_getElem (by omega)]
        rfl
      have hm : l.getD i ByteArray.empty ∈ l := by rw [List.getD_eq_getElem?_getD, List.getElem?_eq_getElem (by omega)]; exact List.getElem_mem _
      obtain ⟨s, hs⟩ : ∃ s, l.getD i ByteArray.empty = s := ⟨_, rfl⟩
      rw [hs] at k1 ex hm
      have HV : Hid (chkL l = if chk s.data.toList = 0 then chkL (l.drop (i + 1)) else chk s.data.toList) := by
        show _ = _
        rw [HC.out, ex]
        rfl
      have a1 : (0 : Int) ≤ (i : Int) := by omega
      have a3 : (i : Int).toNat = i := by omega
      have HSS := Lib.hid (HS.out s hm)
      clear HC ex hs hm
      go_wp2_with fail
      refine (check_any s wr (Nat.le_trans HSS.out (by decide))).mono ?_
      rintro e w2 ⟨rfl, hb2⟩
      have hb3 : Below w.heap.size w w2 := hb.trans (hb2.mono hb.size)
      clear hb2
      obtain ⟨z, hz⟩ : ∃ z, chk s.data.toList = z := ⟨_, rfl⟩
      rw [hz] at HV ⊢
      clear hz
      by_cases h0 : z = 0
      · subst h0
        go_wp2_with fail
        go_roundg g
        case measure => omega
        case rel => exact ⟨i + 1, rfl, by omega, hb3, HV.out⟩
      · have HV2 : Hid (chkL l = z) := by show _ = _; rw [HV.out, if_neg h0]
        clear HV
        have h1 : (z == 0) = false := by simpa using h0
        go_wp2_with fail
        go_ret
        exact ⟨by rw [HV2.out]; rfl, hb3⟩

set_option maxHeartbeats 1000000 in
theorem listed_any (A : Option Addr) (c : Nat) (l : List ByteArray) (w : World) (hl : StrsAt w A l) (hs : l.length ≤ 1000000 ∧ ∀ s ∈ l, s.size ≤ 1000000) :
    Calls Tryz.prog 95 #[.slice A l.length c] w fun e w' => e = .returned (.int .i64 (listedZ l)) ∧ Below w.heap.size w w' := by
  have HL := Lib.hid hl
  have HS := Lib.hid hs
  clear hl hs
  by_cases h6 : 6 < l.length
  · have HX : Hid (listedZ l = 6) := by show _ = _; unfold listedZ; rw [if_pos h6]
    have h7 : (6 : Int) < (l.length : Int) := by omega
    go_enter Tryz.func95, Tryz.ntmps95
    go_wp2_with fail
    go_ret
    exact ⟨by rw [HX.out]; rfl, Below.refl _ _⟩
  · have HX : Hid (listedZ l = chkL l) := by show _ = _; unfold listedZ; rw [if_neg h6]
    have h7 : ¬ (6 : Int) < (l.length : Int) := by omega
    go_enter Tryz.func95, Tryz.ntmps95
    go_wp2_with fail
    refine (checked_any A c l w HL.out HS.out.1 HS.out.2).mono ?_
    rintro e w2 ⟨rfl, hb2⟩
    go_wp2_with fail
    go_ret
    exact ⟨by rw [HX.out]; rfl, hb2⟩
end Go.Proofs.YtapikimhmjnjeaaGreatDoor

/- What package name's Sort says: a contract of the program's own function. Sizes alone are asked. -/
namespace Go.Proofs.YtapikimhmjnjeaaGreatDoor
open Go.RowKit Go.Shelf Go.Proofs.YtapikimhmjnjeaaGreatDoorW.PrintWords

/-- Two indices compared by the names at them. -/
def cmpI (l : List ByteArray) (x y : Int) : Int := cmpN (l.getD x.toNat ByteArray.empty) (l.getD y.toNat ByteArray.empty)

set_option maxRecDepth 100000 in
set_option maxHeartbeats 1000000 in
theorem sort1_any (B : Nat) (A : Option Addr) (c : Nat) (l : List ByteArray) (w : World) (hb : w.cell? ⟨B, 0, none⟩ = some (.slice A l.length c)) (hl : StrsAt w A l) (hn : ∀ s ∈ l, Nm s) (hlen : l.length ≤ 1000)
    (x y : Int) (hx0 : 0 ≤ x) (hx : x < l.length) (hy0 : 0 ≤ y) (hy : y < l.length) :
    Calls Tryz.prog 107 #[.int .i64 x, .int .i64 y, .pointer (some ⟨B, 0, none⟩)] w fun e w' => e = .returned (.int .i64 (cmpI l x y)) ∧ Below w.heap.size w w' := by
  obtain ⟨i, rfl⟩ : ∃ i : Nat, x = (i : Int) := ⟨x.toNat, by omega⟩
  obtain ⟨j, rfl⟩ : ∃ j : Nat, y = (j : Int) := ⟨y.toNat, by omega⟩
  obtain ⟨b, off, rfl, k1⟩ := hl i (by omega)
  obtain ⟨b', off', e', k2⟩ := hl j (by omega)
  obtain ⟨rfl, rfl⟩ : b' = b ∧ off' = off := by simpa using e'.symm
  clear e' hl
  have hi : Nm (l.getD i ByteArray.empty) := hn _ (by rw [List.getD_eq_getElem?_getD, List.getElem?_eq_getElem (by omega)]; exact List.getElem_mem _)
  have hj : Nm (l.getD j ByteArray.empty) := hn _ (by rw [List.getD_eq_getElem?_getD, List.getElem?_eq_getElem (by omega)]; exact List.getElem_mem _)
  have HX : Hid (cmpI l i j = cmpN (l.getD i ByteArray.empty) (l.getD j ByteArray.empty)) := rfl
  obtain ⟨s, hs⟩ : ∃ s, l.getD i ByteArray.empty = s := ⟨_, rfl⟩
  obtain ⟨t, ht⟩ : ∃ t, l.getD j ByteArray.empty = t := ⟨_, rfl⟩
  rw [hs] at k1 hi HX
  rw [ht] at k2 hj HX
  have a3 : (i : Int).toNat = i := by omega
  have a4 : (j : Int).toNat = j := by omega
  have d0 := cell_regrown hb
  have d1 := cell_regrown k1
  have d2 := cell_regrown k2
  have cC : ∀ dq osq, Calls Tryz.prog 96 #[.string s, .string t] (Go.Sort.grow (redrawn w dq) osq) fun e w'' => e = .returned (.int .i64 (cmpN s t)) ∧ ∃ p : Regrown, w'' = Go.Sort.grow (redrawn w p.d) p.os := fun dq osq =>
    Calls.regrown_of (compare_any s t _ hi hj)
  clear hn hs ht hi hj hb k1 k2
  go_enter Tryz.func107, Tryz.ntmps107
  go_wp2_with fail
  refine wp_region_quiet_below (by kernel_rfl) (by kernel_rfl) ?_
  repeat (go_big_quiet_step (exact cC _ _))
  refine wpQuiet_nil ?_
  intro _ hw'
  obtain ⟨⟨dq, osq⟩, hw''⟩ := hw'
  subst hw''
  have hB := below_regrown w dq osq
  clear d0 d1 d2 cC
  go_wp2_with fail
  go_ret
  exact ⟨by rw [HX.out]; rfl, hB⟩

set_option maxRecDepth 100000 in
set_option maxHeartbeats 1000000 in
theorem stable_any (go : Nat) (cb : Array Value) (ego : ∀ args w, (callFunc go args).run Tryz.prog w = .ok (.enter go args) w) (cf : Int → Int → Int) (base blk cap : Nat) (d : List Int) (w : World) (hd : RI w base blk cap d) (hlen : d.length ≤ 19)
    (hcmp : ∀ W (x y : Int), Keeps (fun k => k = blk) w W → 0 ≤ x → x < d.length → 0 ≤ y → y < d.length → Calls Tryz.prog go (#[.int .i64 x, .int .i64 y] ++ cb) W fun e W' => e = .returned (.int .i64 (cf x y)) ∧ Below W.heap.size W W')
    (hel : ∀ x ∈ d, 0 ≤ x ∧ x < d.length) :
    Calls Tryz.prog 106 #[.slice (some ⟨blk, 0, none⟩) d.length cap, .func (.func go) #[] cb] w fun e w' =>
      e = .returned (.tuple #[]) ∧ RI w' base blk cap (insL cf d) ∧ Keeps (fun k => k = blk) w w' := by
  have HI := Lib.hid (insertion_any go cb ego cf base blk cap d w hd (by omega) hcmp hel)
  clear hcmp hel hd
  have h1 : ¬ (20 : Int) ≤ (d.length : Int) := by omega
  have h2 : ¬ (20 : Int) < (d.length : Int) := by omega
  have HS : Hid (Calls Tryz.prog 133 #[.slice (some ⟨blk, 0, none⟩) d.length cap, .int .i64 d.length, .func (.func go) #[] cb] w fun e w' =>
      e = .returned (.tuple #[]) ∧ RI w' base blk cap (insL cf d) ∧ Keeps (fun k => k = blk) w w') := by
    show Calls _ _ _ _ _
    go_enter Tryz.func133, Tryz.ntmps133
    go_wp2_with fail
    refine wp_loop_rounds 1 ?_
    rw [rounds_succ]
    go_wp2_with fail
    refine HI.out.mono ?_
    rintro e w2 ⟨rfl, hr, hk⟩
    have HR := Lib.hid (And.intro hr hk)
    clear hr hk
    go_wp2_with fail
    refine wp_loop_rounds 1 ?_
    rw [rounds_succ]
    go_wp2_with fail
    go_end0
    exact ⟨rfl, HR.out.1, HR.out.2⟩
  go_enter Tryz.func106, Tryz.ntmps106
  go_wp2_with fail
  refine HS.out.mono ?_
  rintro e w2 ⟨rfl, hr, hk⟩
  have HR := Lib.hid (And.intro hr hk)
  clear hr hk
  go_wp2_with fail
  go_end0
  exact ⟨rfl, HR.out.1, HR.out.2⟩
set_option maxRecDepth 100000 in
set_option maxHeartbeats 1000000 in
theorem stable_nil (fv : Value) (w : World) :
    Calls Tryz.prog 106 #[.slice none 0 0, fv] w fun e w' => e = .returned (.tuple #[]) ∧ w' = w := by
  have HI : Hid (Calls Tryz.prog 154 #[.slice none 0 0, .int .i64 0, .int .i64 0, fv] w fun e w' => e = .returned (.tuple #[]) ∧ w' = w) := by
    show Calls _ _ _ _ _
    go_enter Tryz.func154, Tryz.ntmps154
    go_wp2_with fail
    refine wp_loop_rounds 1 ?_
    rw [rounds_succ]
    go_wp2_with fail
    go_end0
    exact ⟨rfl, rfl⟩
  have HS : Hid (Calls Tryz.prog 133 #[.slice none 0 0, .int .i64 0, fv] w fun e w' => e = .returned (.tuple #[]) ∧ w' = w) := by
    show Calls _ _ _ _ _
    go_enter Tryz.func133, Tryz.ntmps133
    go_wp2_with fail
    refine wp_loop_rounds 1 ?_
    rw [rounds_succ]
    go_wp2_with fail
    refine HI.out.mono ?_
    rintro e w2 ⟨rfl, rfl⟩
    go_wp2_with fail
    refine wp_loop_rounds 1 ?_
    rw [rounds_succ]
    go_wp2_with fail
    go_end0
    exact ⟨rfl, rfl⟩
  go_enter Tryz.func106, Tryz.ntmps106
  go_wp2_with fail
  refine HS.out.mono ?_
  rintro e w2 ⟨rfl, rfl⟩
  go_wp2_with fail
  go_end0
  exact ⟨rfl, rfl⟩

/-- The indices of a list in the order of the names at them. -/
def idxL (n : Nat) : List Int := (List.range n).map Int.ofNat
def sortL (l : List ByteArray) : List Int := insL (cmpI l) (idxL l.length)
theorem idxL_len (n : Nat) : (idxL n).length = n := by simp [idxL]
theorem idxL_succ (n : Nat) : idxL (n + 1) = idxL n ++ [(n : Int)] := by simp [idxL, List.range_succ]

set_option maxRecDepth 100000 in
set_option maxHeartbeats 2000000 in
theorem sort_ok (A : Option Addr) (c : Nat) (l : List ByteArray) (w : World) (hl : StrsAt w A l) (hlen : l.length ≤ 6) (hn : ∀ s ∈ l, Nm s) :
    Calls Tryz.prog 62 #[.slice A l.length c] w fun e w' => ∃ v, e = .returned (.tuple #[v, .int .i64 0]) ∧ (Kd.int .i64).R 3 w' w.heap.size (fun _ => True) v (sortL l) ∧ Below w.heap.size w w' := by
  have HL := Lib.hid hl
  have HN := Lib.hid hn
  have HZ : Hid (listedZ l = 0) := by show _ = _; unfold listedZ; rw [if_neg (by omega)]; exact nm_chkL hn
  have hsz : ∀ s ∈ l, s.size ≤ 1000000 := fun s hs => Nat.le_trans (hn s hs).le (by decide)
  have HLI : Hid (∀ W, StrsAt W A l → Calls Tryz.prog 95 #[.slice A l.length c] W fun e w' => e = .returned (.int .i64 0) ∧ Below W.heap.size W w') := fun W hW => (listed_any A c l W hW ⟨by omega, hsz⟩).mono (by rintro e w' ⟨rfl, h⟩; exact ⟨by rw [HZ.out], h⟩)
  clear hl hn hsz
  have hinfo : (Tryz.prog.info? 3).map (fun i => (i.zero, i.size, i.bytes)) = some (some (.int .i64 0), 1, 8) := by kernel_rfl
  obtain ⟨i0, hi, hz0, hz1, hz2⟩ : ∃ i0, Tryz.prog.info? 3 = some i0 ∧ i0.zero = some (.int .i64 0) ∧ i0.size = 1 ∧ i0.bytes = 8 := by
    cases h : Tryz.prog.info? 3 with
    | none => rw [h] at hinfo; cases hinfo
    | some i0 => rw [h] at hinfo; simp at hinfo; exact ⟨i0, rfl, hinfo.1, hinfo.2.1, hinfo.2.2⟩
  have HI := Lib.hid (And.intro hi (And.intro hz0 (And.intro hz1 hz2)))
  clear hinfo hi hz0 hz1 hz2
  go_enter Tryz.func62, Tryz.ntmps62
  go_wp2_with fail
  obtain ⟨X, hX⟩ : ∃ X, w.alloc (Obj.cells #[Value.slice A l.length c] 22) = X := ⟨_, rfl⟩
  have hBX : Below w.heap.size w X := by rw [← hX]; exact (Below.refl _ w).alloc (Nat.le_refl _) _
  have hbox : Boxed X w.heap.size 22 (.slice A l.length c) := by rw [← hX]; exact Boxed.new w _ _
  rw [hX]
  clear hX
  refine (HLI.out X (HL.out.below hBX)).mono ?_
  rintro e w1 ⟨rfl, hb1⟩
  have hB1 : Below w.heap.size w w1 := hBX.trans (hb1.mono hBX.size)
  have hbox1 : Boxed w1 w.heap.size 22 (.slice A l.length c) := (hb1.block _ hbox.lt).trans hbox
  have hc1 := hbox1.cell
  have HB1 := Lib.hid (And.intro hB1 hbox1)
  clear hBX hbox hb1 hB1 hbox1
  go_wp2_with fail
  go_loopg [5, 14] l.length (fun gf v5 v14 wx => ∃ i : Nat, v14 = .int .i64 (i : Int) ∧ i + gf = l.length ∧ Hid (Below w.heap.size w wx ∧ Boxed wx w.heap.size 22 (.slice A l.length c)) ∧ Hid (wx.ownsRow (w.heap.size + 1) 3 1 v5 i ((idxL i).map (Value.int .i64))) ∧ Hid (i = 0 → v5 = .slice none 0 0))
  case atStart => exact ⟨0, rfl, by omega, HB1.out, ⟨by simp [idxL], .inl ⟨rfl, rfl⟩⟩, fun _ => rfl⟩
  case round =>
    obtain ⟨i, rfl, hig, HB, HO, HNIL⟩ := hrel
    cases gk with
    | zero =>
      have hn2 : ¬ (i : Int) < (l.length : Int) := by omega
      obtain rfl : i = l.length := by omega
      cases hll : l with
      | nil =>
        subst hll
        obtain rfl : u5 = .slice none 0 0 := HNIL.out rfl
        go_wp2_with fail
        refine (stable_nil _ _).mono ?_
        rintro e w2 ⟨rfl, rfl⟩
        go_wp2_with fail
        go_ret2
        exact ⟨_, rfl, Kd.R_nil _ _ _ _ _, HB.out.1⟩
      | cons s0 l0 =>
        have hne : l.length ≠ 0 := by rw [hll]; simp
        rw [← hll] at *
        clear hll
        obtain ⟨blk, cap, hv, hblk, hblt⟩ : ∃ blk cap, u5 = .slice (some ⟨blk, 0, none⟩) l.length cap ∧ w.heap.size + 1 ≤ blk ∧ blk < wr.heap.size := by
          rcases HO.out.2 with ⟨_, h0⟩ | ⟨g, cap, cur, hv, hg, hh, _⟩
          · exact absurd h0 hne
          · exact ⟨g, cap, hv, hg, (Array.getElem?_eq_some_iff.1 hh).1⟩
        subst hv
        have hri : RI wr (w.heap.size + 1) blk cap (idxL l.length) := by
          have h1 := HO.out
          show Kd.R _ _ _ _ _ _ _
          rw [idxL_len]
          exact Kd.R_of_own (by rw [idxL_len]; exact h1) (fun _ _ => trivial)
        have HST := Lib.hid (stable_any 107 #[.pointer (some ⟨w.heap.size, 0, none⟩)] (enters_of Tryz.func107 (by kernel_rfl) rfl) (cmpI l) (w.heap.size + 1) blk cap (idxL l.length) wr hri (by rw [idxL_len]; omega)
          (fun W x y hW hx0 hx hy0 hy => by
            rw [idxL_len] at hx hy
            have hBW : Below w.heap.size w W := by
              have h2 := hW.below (n := w.heap.size + 1) (by omega) (fun k hk => by omega)
              exact HB.out.1.trans ⟨h2.os, h2.tape, h2.output, h2.size, fun k hk => h2.block k (by omega)⟩
            refine sort1_any w.heap.size A c l W ?_ (HL.out.below hBW) HN.out (by omega) x y hx0 hx hy0 hy
            have h3 := hW.block w.heap.size (by omega) (by omega)
            exact Boxed.cell (boxed_keep HB.out.2 h3))
          (fun x hx => by
            unfold idxL at hx
            obtain ⟨q, hq, rfl⟩ := List.mem_map.1 hx
            have := List.mem_range.1 hq
            rw [idxL_len]
            exact ⟨Int.natCast_nonneg q, by show (q : Int) < _; omega⟩))
        rw [idxL_len] at HST
        clear hri HO HNIL
        go_wp2_with fail
        refine HST.out.mono ?_
        rintro e w2 ⟨rfl, hr, hk⟩
        have HR := Lib.hid (And.intro hr hk)
        clear hr hk
        go_wp2_with fail
        go_ret2
        have hlen2 : (insL (cmpI l) (idxL l.length)).length = l.length := by
          have : ∀ n i d, (insOut (cmpI l) n i d).length = d.length := by
            intro n
            induction n with
            | zero => intro i d; rfl
            | succ n ih => intro i d; unfold insOut; rw [ih, insIn_len]
          unfold insL
          rw [this, idxL_len]
        refine ⟨_, rfl, ?_, ?_⟩
        · have h1 := HR.out.1
          show Kd.R _ _ _ _ _ _ _
          have h2 := Kd.R_lower h1 (by omega : w.heap.size ≤ w.heap.size + 1)
          rw [hlen2] at h2
          exact h2
        · have h2 := HR.out.2.below (n := w.heap.size) (by have := HB.out.1.size; omega) (fun k hk => by omega)
          exact HB.out.1.trans h2
    | succ g =>
      have hn2 : (i : Int) < (l.length : Int) := by omega
      have hw1 : Hid (w.heap.size + 1 ≤ wr.heap.size) := HB.out.2.lt
      go_wp2_with (at_builtin; refine wpList_append_own _ rfl _ _ 23 rfl (w.heap.size + 1) 3 i0 (.int .i64 0) 1 8 Tryz.underlying23 HI.out.1 HI.out.2.1 HI.out.2.2.1 HI.out.2.2.2 rfl (by decide) _ _ _ rfl (HO.out.alloc _) ⟨wr.heap.size, 0, none⟩ 1 1 [.int .i64 (i : Int)] rfl rfl (cell_one_new _ _ _) (by simp [Value.oneCell']) (by unfold maxLen; omega) (by omega) (by have := hw1.out; simp; omega) ?_
                   intro v2 w2 hown2 hg2 hnil2
                   have HB2 : Hid (Below w.heap.size w w2 ∧ Boxed w2 w.heap.size 22 (.slice A l.length c)) := by
                     have hB3 : Below (w.heap.size + 1) wr w2 := Below.grown ((Below.refl _ wr).alloc hw1.out _) hg2 (by have := hw1.out; simp; omega) (own_ge HO.out)
                     exact ⟨HB.out.1.trans ⟨hB3.os, hB3.tape, hB3.output, hB3.size, fun k hk => hB3.block k (by omega)⟩, (hB3.block _ (by omega)).trans HB.out.2⟩
                   have HO2 := Lib.hid hown2
                   clear hown2 hg2 hnil2)
      go_roundg g
      case measure => omega
      case rel =>
        refine ⟨i + 1, by go_num, by omega, HB2, ?_, fun h => absurd h (by omega)⟩
        have := HO2.out
        show World.ownsRow _ _ _ _ _ _ _
        rw [idxL_succ, List.map_append]
        exact this
end Go.Proofs.YtapikimhmjnjeaaGreatDoor

