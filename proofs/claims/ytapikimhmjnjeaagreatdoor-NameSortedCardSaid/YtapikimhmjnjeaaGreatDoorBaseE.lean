/- Contracts and plain laws of the program's own functions: Stands, Mistaken, Cuts, SetRange, CutsAll, Values, CutN, ShortN. -/
import Derived.Test.YtapikimhmjnjeaaGreatDoorBaseA
import Derived.Test.YtapikimhmjnjeaaGreatDoorShelf
import Derived.Lib.QuietBelow
import Derived.BigQuiet
import Derived.Test.YtapikimhmjnjeaaGreatDoorBaseB
import Derived.StillTailTactics
import Derived.Deep.LoopGhost
import Derived.LoopN
import Derived.Maps.RangeWalk
import Derived.Maps.AppendAt
import Derived.Carry
import Derived.WalkMore
import Derived.Test.YtapikimhmjnjeaaGreatDoorBaseD
/- Contracts and plain laws of the program's own functions: Stands, Mistaken, Cuts, SetRange, CutsAll, Values, CutN, ShortN. -/
set_option linter.unusedVariables false
set_option linter.unusedSimpArgs false
/- What package name's stands says of an abbreviation's letters and a key: a contract of the program's own function. Asked: letters below 128, at least one. -/
namespace Go.Proofs.YtapikimhmjnjeaaGreatDoor
open Go.RowKit Go.Shelf

/-- The letters still to be met, the letters of the key still to come. -/
def standsL : L → L → Bool
  | _, [] => false
  | r, c :: w => if Lib.trimPrefix r [c] = [] then true else standsL (Lib.trimPrefix r [c]) w
/-- Whether letters stand for a key. -/
def standsB (k whole : ByteArray) : Bool := decide (k.size < whole.size) && (k.data.toList.head? == whole.data.toList.head?) && standsL k.data.toList whole.data.toList

theorem first_byte (k : ByteArray) (hk : 0 < k.size) : ∃ a l, k.data.toList = a :: l ∧ (k[0]'hk) = a := by
  obtain ⟨⟨l⟩⟩ := k
  cases l with
  | nil => exact absurd hk (by decide)
  | cons a l => exact ⟨a, l, rfl, rfl⟩

set_option maxRecDepth 100000 in
set_option maxHeartbeats 1000000 in
theorem stands_any (k whole : ByteArray) (w : World) (hk : 0 < k.size) (hs : whole.size ≤ 1000) (hb : ∀ b ∈ whole.data.toList, b.toNat < 128) :
    Calls Tryz.prog 111 #[.string k, .string whole] w fun e w' => e = .returned (.bool (standsB k whole)) ∧ Below w.heap.size w w' := by
  have HB := Lib.hid hb
  clear hb
  by_cases h1 : k.size < whole.size
  · have h1b : decide (whole.size ≤ k.size) = false := decide_eq_false (by omega)
    have h3 : 0 < whole.size := by omega
    obtain ⟨a, l1, hl1, ha⟩ := first_byte k hk
    obtain ⟨b, l2, hl2, hb⟩ := first_byte whole h3
    have HX : Hid (standsB k whole = ((a == b) && standsL k.data.toList whole.data.toList)) := by
      show _ = _
      unfold standsB
      rw [decide_eq_true h1, hl1, hl2]
      simp
    clear hl1 hl2
    by_cases h2 : a = b
    · have hne : ((a.toNat : Int) != (b.toNat : Int)) = false := by rw [h2]; simp
      have HX2 : Hid (standsB k whole = standsL k.data.toList whole.data.toList) := by show _ = _; rw [HX.out, h2]; simp
      clear HX h2
      have ha' := congrArg UInt8.toNat ha
      have hb' := congrArg UInt8.toNat hb
      clear ha hb
      go_enter Tryz.func111, Tryz.ntmps111
      go_wp2_with fail
      refine wp_region_quiet_below (by kernel_rfl) (by kernel_rfl) ?_
      repeat (go_big_quiet_step (fail))
      refine wpQuiet_nil ?_
      intro _ hw'
      obtain ⟨⟨dq, osq⟩, hw''⟩ := hw'
      subst hw''
      have hBq := below_regrown w dq osq
      generalize Go.Sort.grow (redrawn w dq) osq = w1 at hBq ⊢
      have hB1 := Lib.hid hBq
      clear hBq
      go_wp2_with fail
      go_loopg [5] whole.size (fun gf v wx => ∃ (pos : Nat) (r : L), v = .string ⟨r.toArray⟩ ∧ wx.heap[w1.heap.size]? = some (.stringIter whole pos) ∧ Hid (Below w1.heap.size w1 wx) ∧ Hid (standsB k whole = standsL r (whole.data.toList.drop pos)) ∧ pos ≤ whole.size ∧ whole.size ≤ pos + gf)
      case atStart => exact ⟨0, k.data.toList, congrArg Value.string (bself k).symm, World.iter_heap w1 whole 0, (Below.refl _ w1).alloc (Nat.le_refl _) _, by rw [List.drop_zero]; exact HX2.out, by omega, by omega⟩
      case round =>
        obtain ⟨pos, r, rfl, hit, hbw, HO, hps0, hfu⟩ := hrel
        by_cases hps : pos < whole.size
        · obtain ⟨g', rfl⟩ : ∃ g', gk = g' + 1 := ⟨gk - 1, by omega⟩
          have hnx : ∀ ty, (Instr.next (.pointer (some ⟨w1.heap.size, 0, none⟩)) true ty).run Tryz.prog wr = _ := fun ty => Lib.run_next_any_at wr w1.heap.size whole pos ty hit hps
          have hlen : pos < whole.data.toList.length := by rw [Array.length_toList]; exact hps
          have HG : Hid (whole.get! pos = whole.data.toList[pos]'hlen) := get_bang whole pos hps
          obtain ⟨b2, hb2⟩ : ∃ b2, whole.data.toList[pos]'hlen = b2 := ⟨_, rfl⟩
          have hlo : b2.toNat < 128 := HB.out b2 (by rw [← hb2]; exact List.getElem_mem _)
          have hdec : Utf8.decode whole pos = (b2.toNat, 1) := by
            have h1 : whole.get! pos = b2 := HG.out.trans hb2
            rw [decode_lo whole pos (by rw [h1]; exact hlo), h1]
          rw [hdec] at hnx
          simp only at hnx
          have hit2 := Lib.iterAt_heap wr w1.heap.size whole pos (pos + 1) hit
          have hbw2 := Lib.hid (Lib.below_iterAt hbw.out (k := w1.heap.size) (Nat.le_refl _) whole (pos + 1))
          obtain ⟨W, hWd⟩ : ∃ W, wr.iterAt w1.heap.size whole (pos + 1) = W := ⟨_, rfl⟩
          rw [hWd] at hnx hit2 hbw2
          have HEN := Lib.hid (encode_lo b2.toNat hlo)
          have HN : Hid (standsB k whole = if Lib.trimPrefix r [b2] = [] then true else standsL (Lib.trimPrefix r [b2]) (whole.data.toList.drop (pos + 1))) := by
            show _ = _
            rw [HO.out, List.drop_eq_getElem_cons hlen, hb2]
            rfl
          clear hb2 hdec hWd HG HO
          go_wp2_with fail
          have HT : Hid (∀ W, Calls Tryz.prog 136 #[.string ⟨r.toArray⟩, .string (Utf8.encode (b2.toNat : Int))] W fun e w' => e = .returned (.string ⟨(Lib.trimPrefix r [b2]).toArray⟩) ∧ w' = W) := fun W => by
            have h1 := Tryz.strings_TrimPrefix ⟨r.toArray⟩ (Utf8.encode (b2.toNat : Int)) W
            rw [HEN.out] at h1 ⊢
            have e1 : (⟨#[b2.toNat.toUInt8]⟩ : ByteArray).data.toList = [b2] := by simp
            have e2 : (⟨r.toArray⟩ : ByteArray).data.toList = r := by simp
            rw [e1, e2] at h1
            exact h1
          refine (HT.out W).mono ?_
          rintro e w2 ⟨rfl, rfl⟩
          clear HT HEN
          obtain ⟨q, hq⟩ : ∃ q, Lib.trimPrefix r [b2] = q := ⟨_, rfl⟩
          rw [hq] at HN ⊢
          clear hq
          cases q with
          | nil =>
            have HV : Hid (standsB k whole = true) := HN.out
            go_wp2_with fail
            go_ret
            exact ⟨by rw [HV.out]; rfl, hB1.out.trans (hbw2.out.mono hB1.out.size)⟩
          | cons q0 q1 =>
            have HV : Hid (standsB k whole = standsL (q0 :: q1) (whole.data.toList.drop (pos + 1))) := HN.out
            clear HN
            go_wp2_with fail
            go_roundg g'
            case measure => omega
            case rel => exact ⟨pos + 1, q0 :: q1, rfl, hit2, hbw2, HV.out, by omega, by omega⟩
        · have hnx : ∀ ty, (Instr.next (.pointer (some ⟨w1.heap.size, 0, none⟩)) true ty).run Tryz.prog wr = _ := fun ty => Lib.run_next_end_at wr w1.heap.size whole pos ty hit hps
          have HX3 : Hid (standsB k whole = false) := by
            show _ = _
            rw [HO.out, List.drop_of_length_le (by rw [Array.length_toList]; exact Nat.le_of_not_lt hps)]
            cases r <;> rfl
          go_wp2_with fail
          go_ret
          exact ⟨by rw [HX3.out]; rfl, hB1.out.trans (hbw.out.mono hB1.out.size)⟩
    · have hne : ((a.toNat : Int) != (b.toNat : Int)) = true := by
        rw [bne_iff_ne]
        exact fun e => h2 (UInt8.toNat_inj.1 (by omega))
      have HX2 : Hid (standsB k whole = false) := by
        show _ = _
        rw [HX.out, beq_eq_false_iff_ne.2 h2]
        rfl
      clear HX h2
      have ha' := congrArg UInt8.toNat ha
      have hb' := congrArg UInt8.toNat hb
      clear ha hb
      go_enter Tryz.func111, Tryz.ntmps111
      go_wp2_with fail
      refine wp_region_quiet_below (by kernel_rfl) (by kernel_rfl) ?_
      repeat (go_big_quiet_step (fail))
      refine wpQuiet_nil ?_
      intro _ hw'
      obtain ⟨⟨dq, osq⟩, hw''⟩ := hw'
      subst hw''
      have hBq := below_regrown w dq osq
      go_wp2_with fail
      go_ret
      exact ⟨by rw [HX2.out]; rfl, hBq⟩
  · have h1b : decide (whole.size ≤ k.size) = true := decide_eq_true (by omega)
    have HX2 : Hid (standsB k whole = false) := by
      show _ = _
      unfold standsB
      rw [decide_eq_false h1]
      rfl
    go_enter Tryz.func111, Tryz.ntmps111
    go_wp2_with fail
    refine wp_region_quiet_below (by kernel_rfl) (by kernel_rfl) ?_
    repeat (go_big_quiet_step (fail))
    refine wpQuiet_nil ?_
    intro _ hw'
    obtain ⟨⟨dq, osq⟩, hw''⟩ := hw'
    subst hw''
    have hBq := below_regrown w dq osq
    go_wp2_with fail
    go_ret
    exact ⟨by rw [HX2.out]; rfl, hBq⟩
end Go.Proofs.YtapikimhmjnjeaaGreatDoor

/- What package name's mistaken says of a list of valid names: contracts of the program's own functions. -/
namespace Go.Proofs.YtapikimhmjnjeaaGreatDoor
open Go.RowKit Go.Shelf

theorem snd_latin_fin : ∀ n : Fin 256, kindB (UInt8.ofNat n.val) ≠ 0 → ∀ x ∈ snd (UInt8.ofNat n.val), kindB x = 1 := by decide +kernel
theorem snd_latin {b : UInt8} (h : kindB b ≠ 0) : ∀ x ∈ snd b, kindB x = 1 := by
  have := snd_latin_fin ⟨b.toNat, b.toNat_lt⟩
  simp only [UInt8.ofNat_toNat] at this
  exact this h
theorem snd_pos_fin : ∀ n : Fin 256, snd (UInt8.ofNat n.val) ≠ [] := by decide +kernel
theorem snd_pos (b : UInt8) : snd b ≠ [] := by
  have := snd_pos_fin ⟨b.toNat, b.toNat_lt⟩
  simp only [UInt8.ofNat_toNat] at this
  exact this
theorem key_latin {s : ByteArray} (h : Nm s) : ∀ x ∈ (keyB s).data.toList, kindB x = 1 := by
  intro x hx
  have hx : x ∈ keyL s.data.toList := by simpa [keyB] using hx
  unfold keyL at hx
  obtain ⟨b, hb, hxb⟩ := List.mem_flatMap.1 hx
  exact snd_latin (h.all b hb) x hxb
theorem latin_lt {x : UInt8} (h : kindB x = 1) : x.toNat < 128 := (kindB_range (by rw [h]; decide)).2
theorem key_size {s : ByteArray} (h : Nm s) : (keyB s).size ≤ 12 := by
  have h1 := keyL_len s.data.toList
  have h2 : s.data.toList.length = s.size := by rw [Array.length_toList]; rfl
  have h3 : (keyB s).size = (keyL s.data.toList).length := by simp [keyB]; rfl
  have := h.le
  omega
theorem key_pos {s : ByteArray} (h : Nm s) : 0 < (keyB s).size := by
  have h2 : s.data.toList.length = s.size := by rw [Array.length_toList]; rfl
  have h3 : (keyB s).size = (keyL s.data.toList).length := by simp [keyB]; rfl
  have h4 := h.pos
  rw [h3]
  cases hl : s.data.toList with
  | nil => rw [hl] at h2; simp at h2; omega
  | cons b l =>
    have := snd_pos b
    unfold keyL
    rw [List.flatMap_cons, List.length_append]
    have := List.length_pos_iff.2 this
    omega

theorem boxed_at {W0 W : World} {B : Nat} {t : TypeId} {v : Value} (h : Boxed W0 B t v) (hb : Below W0.heap.size W0 W) : Boxed W B t v := (hb.block B h.lt).trans h

/-- Whether letters stand for a name's key, which is another one. -/
def mistB (k own s : ByteArray) : Bool := !((keyB s).data.toList == own.data.toList) && standsB k (keyB s)

set_option maxRecDepth 100000 in
set_option maxHeartbeats 1000000 in
theorem mist1_any (B1 B2 : Nat) (own k s : ByteArray) (w : World) (h1 : w.cell? ⟨B1, 0, none⟩ = some (.string own)) (h2 : w.cell? ⟨B2, 0, none⟩ = some (.string k)) (hk : 0 < k.size) (hs : Nm s) :
    Calls Tryz.prog 139 #[.string s, .pointer (some ⟨B1, 0, none⟩), .pointer (some ⟨B2, 0, none⟩)] w fun e w' => e = .returned (.bool (mistB k own s)) ∧ Below w.heap.size w w' := by
  have d1 := cell_regrown h1
  have d2 := cell_regrown h2
  have cO : ∀ dq osq, Calls Tryz.prog 85 #[.string s] (Go.Sort.grow (redrawn w dq) osq) fun e w'' => e = .returned (.string (keyB s)) ∧ ∃ p : Regrown, w'' = Go.Sort.grow (redrawn w p.d) p.os := fun dq osq =>
    Calls.regrown_of (of_any s _ hs.le hs.all)
  have cS : ∀ dq osq, Calls Tryz.prog 111 #[.string k, .string (keyB s)] (Go.Sort.grow (redrawn w dq) osq) fun e w'' => e = .returned (.bool (standsB k (keyB s))) ∧ ∃ p : Regrown, w'' = Go.Sort.grow (redrawn w p.d) p.os := fun dq osq =>
    Calls.regrown_of (stands_any k (keyB s) _ hk (Nat.le_trans (key_size hs) (by decide)) (fun b hb => latin_lt (key_latin hs b hb)))
  have HX : Hid (mistB k own s = (!((keyB s).toList == own.toList) && standsB k (keyB s))) := by
    show _ = _
    unfold mistB
    rw [ByteArray.toList_eq, ByteArray.toList_eq]
  obtain ⟨q, hq⟩ : ∃ q, standsB k (keyB s) = q := ⟨_, rfl⟩
  rw [hq] at HX cS
  obtain ⟨ks, hks⟩ : ∃ ks, keyB s = ks := ⟨_, rfl⟩
  rw [hks] at cO cS HX
  clear hs hk hq hks h1 h2
  cases he : (ks.toList == own.toList) with
  | true =>
    rw [he] at HX
    go_enter Tryz.func139, Tryz.ntmps139
    go_wp2_with fail
    refine wp_region_quiet_below (by kernel_rfl) (by kernel_rfl) ?_
    repeat (go_big_quiet_step (first | exact cO _ _ | exact cS _ _))
    refine wpQuiet_nil ?_
    intro _ hw'
    obtain ⟨⟨dq, osq⟩, hw''⟩ := hw'
    subst hw''
    have hBq := below_regrown w dq osq
    clear d1 d2 cO cS
    go_wp2_with fail
    go_ret
    exact ⟨by rw [HX.out]; rfl, hBq⟩
  | false =>
    rw [he] at HX
    go_enter Tryz.func139, Tryz.ntmps139
    go_wp2_with fail
    refine wp_region_quiet_below (by kernel_rfl) (by kernel_rfl) ?_
    repeat (go_big_quiet_step (first | exact cO _ _ | exact cS _ _))
    refine wpQuiet_nil ?_
    intro _ hw'
    obtain ⟨⟨dq, osq⟩, hw''⟩ := hw'
    subst hw''
    have hBq := below_regrown w dq osq
    clear d1 d2 cO cS
    go_wp2_with fail
    go_ret
    exact ⟨by rw [HX.out]; rfl, hBq⟩

set_option maxRecDepth 100000 in
set_option maxHeartbeats 1000000 in
theorem contains_any (g : Nat) (cb : Array Value) (eg : ∀ args w, (callFunc g args).run Tryz.prog w = .ok (.enter g args) w) (p : ByteArray → Bool) (A : Option Addr) (c : Nat) (l : List ByteArray) (w : World) (hl : StrsAt w A l) (hn : l.length ≤ 1000)
    (hp : ∀ W s, Below w.heap.size w W → s ∈ l → Calls Tryz.prog g (#[.string s] ++ cb) W fun e W' => e = .returned (.bool (p s)) ∧ Below W.heap.size W W') :
    Calls Tryz.prog 138 #[.slice A l.length c, .func (.func g) #[] cb] w fun e w' => e = .returned (.bool (l.any p)) ∧ Below w.heap.size w w' := by
  have HL := Lib.hid hl
  have HP := Lib.hid hp
  clear hl hp
  have HI : Hid (Calls Tryz.prog 162 #[.slice A l.length c, .func (.func g) #[] cb] w fun e w' => ∃ i : Int, e = .returned (.int .i64 i) ∧ decide (0 ≤ i) = l.any p ∧ Below w.heap.size w w') := by
    show Calls _ _ _ _ _
    go_enter Tryz.func162, Tryz.ntmps162
    go_wp2_with fail
    go_loopg [8] l.length (fun gf v wx => ∃ i : Nat, v = .int .i64 (i : Int) ∧ i + gf = l.length ∧ Hid (Below w.heap.size w wx) ∧ Hid (l.any p = (l.drop i).any p))
    case atStart => exact ⟨0, rfl, by omega, Below.refl _ _, by rw [List.drop_zero]; rfl⟩
    case round =>
      obtain ⟨i, rfl, hig, hb, HC⟩ := hrel
      cases gk with
      | zero =>
        have hn2 : ¬ (i : Int) < (l.length : Int) := by omega
        have HV : Hid (l.any p = false) := by show _ = _; rw [HC.out, List.drop_of_length_le (by omega)]; rfl
        go_wp2_with fail
        go_ret
        exact ⟨-1, rfl, by rw [HV.out]; rfl, hb.out⟩
      | succ g' =>
        have hn2 : (i : Int) < (l.length : Int) := by omega
        obtain ⟨b, off, rfl, k1⟩ := (HL.out.below hb.out) i (by omega)
        have ex : l.drop i = l.getD i ByteArray.empty :: l.drop (i + 1) := by
          rw [List.drop_eq_getElem_cons (by omega : i < l.length), List.getD_eq_getElem?_getD, List.getElem?_eq_getElem (by omega)]
          rfl
        have hm : l.getD i ByteArray.empty ∈ l := by rw [List.getD_eq_getElem?_getD, List.getElem?_eq_getElem (by omega)]; exact List.getElem_mem _
        obtain ⟨s, hs⟩ : ∃ s, l.getD i ByteArray.empty = s := ⟨_, rfl⟩
        rw [hs] at k1 ex hm
        have HV : Hid (l.any p = (p s || (l.drop (i + 1)).any p)) := by
          show _ = _
          rw [HC.out, ex]
          rfl
        have a1 : (0 : Int) ≤ (i : Int) := by omega
        have a3 : (i : Int).toNat = i := by omega
        have HPC := Lib.hid (HP.out wr s hb.out hm)
        clear HC ex hs hm
        go_wp2_with fail
        refine HPC.out.mono ?_
        rintro e w2 ⟨rfl, hb2⟩
        have hb3 := Lib.hid (hb.out.trans (hb2.mono hb.out.size))
        clear hb2 HPC
        obtain ⟨z, hz⟩ : ∃ z, p s = z := ⟨_, rfl⟩
        rw [hz] at HV ⊢
        clear hz
        cases z with
        | false =>
          have HV2 : Hid (l.any p = (l.drop (i + 1)).any p) := HV.out
          clear HV
          go_wp2_with fail
          go_roundg g'
          case measure => omega
          case rel => exact ⟨i + 1, rfl, by omega, hb3, HV2.out⟩
        | true =>
          have HV2 : Hid (l.any p = true) := HV.out
          clear HV
          go_wp2_with fail
          go_ret
          exact ⟨i, rfl, by rw [HV2.out]; exact decide_eq_true a1, hb3.out⟩
  go_enter Tryz.func138, Tryz.ntmps138
  go_wp2_with fail
  refine HI.out.mono ?_
  rintro e w2 ⟨i, rfl, hi, hb⟩
  have HIQ := Lib.hid hi
  have HBQ := Lib.hid hb
  clear hi hb
  go_wp2_with fail
  go_ret
  exact ⟨by rw [← HIQ.out]; rfl, HBQ.out⟩

set_option maxRecDepth 100000 in
set_option maxHeartbeats 1000000 in
theorem mistaken_any (k : ByteArray) (A : Option Addr) (c : Nat) (l : List ByteArray) (own : ByteArray) (w : World) (hl : StrsAt w A l) (hn : l.length ≤ 1000) (hs : ∀ s ∈ l, Nm s) (hk : 0 < k.size) :
    Calls Tryz.prog 114 #[.string k, .slice A l.length c, .string own] w fun e w' => e = .returned (.bool (l.any (mistB k own))) ∧ Below w.heap.size w w' := by
  obtain ⟨X, hX⟩ : ∃ X, (w.alloc (Obj.cells #[Value.string k] 90)).alloc (Obj.cells #[Value.string own] 90) = X := ⟨_, rfl⟩
  have hB : Below w.heap.size w X := by rw [← hX]; exact ((Below.refl _ w).alloc (Nat.le_refl _) _).alloc (by simp) _
  have b0 : Boxed X w.heap.size 90 (.string k) := by rw [← hX]; exact (Boxed.new w _ _).alloc _
  have b1 : Boxed X (w.heap.size + 1) 90 (.string own) := by
    rw [← hX]; have := Boxed.new (w.alloc (Obj.cells #[Value.string k] 90)) 90 (.string own); rwa [World.size_alloc] at this
  have HC := Lib.hid (contains_any 139 #[.pointer (some ⟨w.heap.size + 1, 0, none⟩), .pointer (some ⟨w.heap.size, 0, none⟩)] (enters_of Tryz.func139 (by kernel_rfl) rfl) (mistB k own) A c l X (hl.below hB) hn
    (fun W s hW hm => mist1_any _ _ own k s W (Boxed.cell (boxed_at b1 hW)) (Boxed.cell (boxed_at b0 hW)) hk (hs s hm)))
  have HB := Lib.hid hB
  clear hl hs b0 b1 hB
  go_enter Tryz.func114, Tryz.ntmps114
  go_wp2_with fail
  refine HC.out.mono ?_
  rintro e w2 ⟨rfl, hb⟩
  have HB2 := Lib.hid (HB.out.trans (hb.mono HB.out.size))
  clear hb HC
  go_wp2_with fail
  go_ret
  exact ⟨rfl, HB2.out⟩
end Go.Proofs.YtapikimhmjnjeaaGreatDoor

/- What the recursive closure within package name's cuts lays into its set: a contract of the program's own function. Sizes alone are asked. -/
namespace Go.Proofs.YtapikimhmjnjeaaGreatDoor
open Go.RowKit Go.Shelf

/-- The letters that the loop of grow lays down, n letters of the key being still to come. -/
def loopC (k : ByteArray) : Nat → ByteArray → Nat → List ByteArray
  | 0, _, _ => []
  | n + 1, now, i => ((if (now ++ k.extract i (i + 1)).size < k.size then [now ++ k.extract i (i + 1)] else []) ++ loopC k n (now ++ k.extract i (i + 1)) (i + 1)) ++ loopC k n now (i + 1)
def visitC (k : ByteArray) (n : Nat) (now : ByteArray) (i : Nat) : List ByteArray := (if now.size < k.size then [now] else []) ++ loopC k n now i
theorem loopC_succ (k : ByteArray) (n : Nat) (now : ByteArray) (i : Nat) : loopC k (n + 1) now i = visitC k n (now ++ k.extract i (i + 1)) (i + 1) ++ loopC k n now (i + 1) := rfl
theorem loopC_len (k : ByteArray) : ∀ (n : Nat) (now : ByteArray) (i : Nat), (loopC k n now i).length + 1 ≤ 2 ^ n
  | 0, _, _ => by simp [loopC]
  | n + 1, now, i => by
    have h1 := loopC_len k n (now ++ k.extract i (i + 1)) (i + 1)
    have h2 := loopC_len k n now (i + 1)
    rw [loopC_succ, List.length_append]
    unfold visitC
    rw [List.length_append, Nat.pow_succ]
    split <;> simp <;> omega
theorem visitC_len (k : ByteArray) (n : Nat) (now : ByteArray) (i : Nat) : (visitC k n now i).length ≤ 2 ^ n := by
  have := loopC_len k n now i
  unfold visitC
  rw [List.length_append]
  split <;> simp <;> omega

/-- The boxes of grow. -/
structure CEnv (W : World) (bk bm bg mb : Nat) (k : ByteArray) : Prop where
  k : Boxed W bk 90 (.string k)
  m : Boxed W bm 155 (.map (some mb))
  g : Boxed W bg 156 (.func (.func 140) #[] #[.pointer (some ⟨bk, 0, none⟩), .pointer (some ⟨bm, 0, none⟩), .pointer (some ⟨bg, 0, none⟩)])
theorem CEnv.keeps {W W' : World} {bk bm bg mb : Nat} {k : ByteArray} (h : CEnv W bk bm bg mb k) (hk : Keeps (fun q => q = mb) W W') (h1 : bk ≠ mb) (h2 : bm ≠ mb) (h3 : bg ≠ mb) : CEnv W' bk bm bg mb k :=
  ⟨(hk.block _ h.k.lt h1).trans h.k, (hk.block _ h.m.lt h2).trans h.m, (hk.block _ h.g.lt h3).trans h.g⟩

set_option maxRecDepth 100000 in
set_option maxHeartbeats 4000000 in
theorem cuts1_any (bk bm bg mb : Nat) (k : ByteArray) (hne : bk ≠ mb ∧ bm ≠ mb ∧ bg ≠ mb) (hks : k.size ≤ 20) :
    ∀ (n : Nat) (now : ByteArray) (i : Nat) (ks : List ByteArray) (W : World), i + n = k.size → now.size + n ≤ 1000 → CEnv W bk bm bg mb k → SetAt W mb ks → ks.length + 2 ^ n < 100000000 →
      Calls Tryz.prog 140 #[.string now, .int .i64 (i : Int), .pointer (some ⟨bk, 0, none⟩), .pointer (some ⟨bm, 0, none⟩), .pointer (some ⟨bg, 0, none⟩)] W fun e W' =>
        e = .returned (.tuple #[]) ∧ SetAt W' mb ((visitC k n now i).reverse ++ ks) ∧ Keeps (fun q => q = mb) W W' := by
  intro n
  induction n using Nat.strongRecOn with
  | _ n ih =>
  intro now i ks W hin hsz henv hset hlen
  have HIH := Lib.hid ih
  have HEN := Lib.hid henv
  have HNE := Lib.hid hne
  clear ih hne
  have main : ∀ (W1 : World) (ks1 : List ByteArray), (if now.size < k.size then [now] else []).reverse ++ ks = ks1 → SetAt W1 mb ks1 → Keeps (fun q => q = mb) W W1 → Hid (SetAt W1 mb ((if now.size < k.size then [now] else []).reverse ++ ks) ∧ Keeps (fun q => q = mb) W W1) :=
    fun W1 ks1 h1 h2 h3 => ⟨h1 ▸ h2, h3⟩
  have MAIN := Lib.hid main
  clear main
  have c1 := henv.k.cell
  have c2 := henv.m.cell
  have hmx : ks.length < maxLen := by
    have : 0 < 2 ^ n := Nat.two_pow_pos n
    unfold maxLen; omega
  have hi0 : (i : Int) + n = k.size := by omega
  by_cases hlt : (now.size : Int) < (k.size : Int)
  · obtain ⟨W1, hupd, hset1, hgr⟩ := hset.update now (by unfold maxLen; omega) hmx
    have HM := MAIN.out W1 (now :: ks) (by rw [if_pos (by omega)]; rfl) hset1 (Keeps.grown hgr (fun q hq => by cases hq; rfl))
    clear hset hset1 hgr henv
    go_enter Tryz.func140, Tryz.ntmps140
    go_wp2_with fail
    go_loopg [7] n (fun gf v wx => ∃ j : Nat, v = .int .i64 (j : Int) ∧ i ≤ j ∧ j + gf = k.size ∧ Hid (∃ done : List ByteArray, SetAt wx mb (done.reverse ++ ks) ∧ visitC k n now i = done ++ loopC k gf now j ∧ done.length + 2 ^ gf ≤ 2 ^ n + 1) ∧ Hid (Keeps (fun q => q = mb) W wx))
    case atStart => exact ⟨i, rfl, Nat.le_refl _, hin, ⟨if now.size < k.size then [now] else [], HM.out.1, rfl, by split <;> simp <;> omega⟩, HM.out.2⟩
    case round =>
      obtain ⟨j, rfl, hij, hjg, HS, HK⟩ := hrel
      have henv := HEN.out.keeps HK.out HNE.out.1 HNE.out.2.1 HNE.out.2.2
      have e1 := henv.k.cell
      have e3 := henv.g.cell
      clear henv
      cases gk with
      | zero =>
        have hn2 : ¬ (j : Int) < (k.size : Int) := by omega
        go_wp2_with fail
        go_end0
        obtain ⟨done, h1, h2, h3⟩ := HS.out
        rw [show visitC k n now i = done by rw [h2]; simp [loopC]]
        exact ⟨rfl, h1, HK.out⟩
      | succ g =>
        have hn2 : (j : Int) < (k.size : Int) := by omega
        have a1 : (0 : Int) ≤ (j : Int) := by omega
        have a2 : (j : Int) + 1 ≤ (k.size : Int) := by omega
        have a3 : (j : Int) ≤ (j : Int) + 1 := by omega
        have a4 : IntKind.i64.wrap ((j : Int) + 1) = (j : Int) + 1 := IntWalk.i64_in _ (by omega)
        have a5 : ((j : Int) + 1).toNat = j + 1 := by omega
        have a6 : (j : Int).toNat = j := by omega
        have a7 : (0 : Int) ≤ (j : Int) + 1 := by omega
        have a8 : ¬ 9223372036854775807 < now.size + (min (j + 1) k.size - j) := by omega
        go_wp2_with fail
        refine wp_region_still_tail 10 (by kernel_rfl) (by kernel_rfl) ?_
        simp only [List.take_succ_cons, List.take_zero, List.drop_succ_cons, List.drop_zero]
        have d1 : wr.drew.cell? ⟨bk, 0, none⟩ = some (.string k) := e1
        have d3 : wr.drew.cell? ⟨bg, 0, none⟩ = some (Value.func (Fn.func 140) #[] #[.pointer (some ⟨bk, 0, none⟩), .pointer (some ⟨bm, 0, none⟩), .pointer (some ⟨bg, 0, none⟩)]) := e3
        have HK2 : Hid (Keeps (fun q => q = mb) W wr.drew) := HK.out.drew
        have HS2 : Hid (∃ done : List ByteArray, SetAt wr.drew mb (done.reverse ++ ks) ∧ visitC k n now i = done ++ loopC k (g + 1) now j ∧ done.length + 2 ^ (g + 1) ≤ 2 ^ n + 1) := HS.out
        change wpStill _ _ wr.drew (fun a' => wpList _ _ _ _ a' wr.drew) _ _
        clear e1 e3 HK HS
        generalize wr.drew = w2 at HK2 HS2 d1 d3 ⊢
        repeat still_step
        refine wpStill_nil ?_
        go_wp2_with fail
        obtain ⟨done, hdone⟩ := HS2.out
        have HDN := Lib.hid hdone
        clear hdone HS2 d1 d3
        refine (HIH.out g (by omega) (now ++ k.extract j (j + 1)) (j + 1) (done.reverse ++ ks) w2 (by omega) (by simp only [ByteArray.size_append, ByteArray.size_extract]; omega) (HEN.out.keeps HK2.out HNE.out.1 HNE.out.2.1 HNE.out.2.2) HDN.out.1 (by
          have h1 := HDN.out.2.2
          have h2 := Nat.two_pow_pos g
          rw [Nat.pow_succ] at h1
          simp only [List.length_append, List.length_reverse]
          omega)).mono ?_
        rintro e w3 ⟨rfl, hs3, hk3⟩
        have HK3 := Lib.hid (HK2.out.trans hk3)
        have HS3 := Lib.hid hs3
        clear hs3 hk3
        go_wp2_with fail
        go_roundg g
        case measure => omega
        case rel =>
          refine ⟨j + 1, by go_num, by omega, by omega, ⟨done ++ visitC k g (now ++ k.extract j (j + 1)) (j + 1), ?_, ?_, ?_⟩, HK3⟩
          · rw [List.reverse_append, List.append_assoc]; exact HS3.out
          · rw [HDN.out.2.1, loopC_succ, List.append_assoc]
          · have h1 := HDN.out.2.2
            have h2 := visitC_len k g (now ++ k.extract j (j + 1)) (j + 1)
            rw [Nat.pow_succ] at h1
            rw [List.length_append]
            omega
  · have HM := MAIN.out W ks (by rw [if_neg (by omega)]; rfl) hset (Keeps.refl _ _)
    clear hset henv
    go_enter Tryz.func140, Tryz.ntmps140
    go_wp2_with fail
    go_loopg [7] n (fun gf v wx => ∃ j : Nat, v = .int .i64 (j : Int) ∧ i ≤ j ∧ j + gf = k.size ∧ Hid (∃ done : List ByteArray, SetAt wx mb (done.reverse ++ ks) ∧ visitC k n now i = done ++ loopC k gf now j ∧ done.length + 2 ^ gf ≤ 2 ^ n + 1) ∧ Hid (Keeps (fun q => q = mb) W wx))
    case atStart => exact ⟨i, rfl, Nat.le_refl _, hin, ⟨if now.size < k.size then [now] else [], HM.out.1, rfl, by split <;> simp <;> omega⟩, HM.out.2⟩
    case round =>
      obtain ⟨j, rfl, hij, hjg, HS, HK⟩ := hrel
      have henv := HEN.out.keeps HK.out HNE.out.1 HNE.out.2.1 HNE.out.2.2
      have e1 := henv.k.cell
      have e3 := henv.g.cell
      clear henv
      cases gk with
      | zero =>
        have hn2 : ¬ (j : Int) < (k.size : Int) := by omega
        go_wp2_with fail
        go_end0
        obtain ⟨done, h1, h2, h3⟩ := HS.out
        rw [show visitC k n now i = done by rw [h2]; simp [loopC]]
        exact ⟨rfl, h1, HK.out⟩
      | succ g =>
        have hn2 : (j : Int) < (k.size : Int) := by omega
        have a1 : (0 : Int) ≤ (j : Int) := by omega
        have a2 : (j : Int) + 1 ≤ (k.size : Int) := by omega
        have a3 : (j : Int) ≤ (j : Int) + 1 := by omega
        have a4 : IntKind.i64.wrap ((j : Int) + 1) = (j : Int) + 1 := IntWalk.i64_in _ (by omega)
        have a5 : ((j : Int) + 1).toNat = j + 1 := by omega
        have a6 : (j : Int).toNat = j := by omega
        have a7 : (0 : Int) ≤ (j : Int) + 1 := by omega
        have a8 : ¬ 9223372036854775807 < now.size + (min (j + 1) k.size - j) := by omega
        go_wp2_with fail
        refine wp_region_still_tail 10 (by kernel_rfl) (by kernel_rfl) ?_
        simp only [List.take_succ_cons, List.take_zero, List.drop_succ_cons, List.drop_zero]
        have d1 : wr.drew.cell? ⟨bk, 0, none⟩ = some (.string k) := e1
        have d3 : wr.drew.cell? ⟨bg, 0, none⟩ = some (Value.func (Fn.func 140) #[] #[.pointer (some ⟨bk, 0, none⟩), .pointer (some ⟨bm, 0, none⟩), .pointer (some ⟨bg, 0, none⟩)]) := e3
        have HK2 : Hid (Keeps (fun q => q = mb) W wr.drew) := HK.out.drew
        have HS2 : Hid (∃ done : List ByteArray, SetAt wr.drew mb (done.reverse ++ ks) ∧ visitC k n now i = done ++ loopC k (g + 1) now j ∧ done.length + 2 ^ (g + 1) ≤ 2 ^ n + 1) := HS.out
        change wpStill _ _ wr.drew (fun a' => wpList _ _ _ _ a' wr.drew) _ _
        clear e1 e3 HK HS
        generalize wr.drew = w2 at HK2 HS2 d1 d3 ⊢
        repeat still_step
        refine wpStill_nil ?_
        go_wp2_with fail
        obtain ⟨done, hdone⟩ := HS2.out
        have HDN := Lib.hid hdone
        clear hdone HS2 d1 d3
        refine (HIH.out g (by omega) (now ++ k.extract j (j + 1)) (j + 1) (done.reverse ++ ks) w2 (by omega) (by simp only [ByteArray.size_append, ByteArray.size_extract]; omega) (HEN.out.keeps HK2.out HNE.out.1 HNE.out.2.1 HNE.out.2.2) HDN.out.1 (by
          have h1 := HDN.out.2.2
          have h2 := Nat.two_pow_pos g
          rw [Nat.pow_succ] at h1
          simp only [List.length_append, List.length_reverse]
          omega)).mono ?_
        rintro e w3 ⟨rfl, hs3, hk3⟩
        have HK3 := Lib.hid (HK2.out.trans hk3)
        have HS3 := Lib.hid hs3
        clear hs3 hk3
        go_wp2_with fail
        go_roundg g
        case measure => omega
        case rel =>
          refine ⟨j + 1, by go_num, by omega, by omega, ⟨done ++ visitC k g (now ++ k.extract j (j + 1)) (j + 1), ?_, ?_, ?_⟩, HK3⟩
          · rw [List.reverse_append, List.append_assoc]; exact HS3.out
          · rw [HDN.out.2.1, loopC_succ, List.append_assoc]
          · have h1 := HDN.out.2.2
            have h2 := visitC_len k g (now ++ k.extract j (j + 1)) (j + 1)
            rw [Nat.pow_succ] at h1
            rw [List.length_append]
            omega
end Go.Proofs.YtapikimhmjnjeaaGreatDoor

/- A range over a call's own set of keys. No conditions but sizes. -/
namespace Go.Proofs.YtapikimhmjnjeaaGreatDoor
open Go.RowKit Go.Shelf Go.Maps

/-- The set at b is ranged over by the iterator at r: these keys have come; cnt are still to come. -/
def SetR (w : World) (b r : Nat) (ks came : List ByteArray) (cnt : Nat) : Prop :=
  ∃ (D : DataW Unit) (left : Lit → Bool), w.ranges Tryz.prog 90 (plainElem Tryz.prog 4) b r ks.length D left cnt ∧
    (∀ s : ByteArray, left (.string s.data.toList) = (memB s ks && !memB s came)) ∧ (∀ kl, left kl = true → ∃ s ∈ ks, kl = .string s.data.toList)

set_option maxRecDepth 10000 in
theorem keyOf90_inv {key : Value} {kl : Lit} (h : keyOf Tryz.prog 90 key = some kl) : ∃ s : ByteArray, key = .string s ∧ kl = .string s.data.toList := by
  cases key <;> simp [keyOf, Tryz.underlying90, mapKey] at h
  exact ⟨_, rfl, h.2.symm⟩

set_option maxRecDepth 10000 in
theorem SetAt.range {w : World} {b : Nat} {ks : List ByteArray} (h : SetAt w b ks) :
    ∃ w' cnt, (Instr.range 155 (.map (some b))).run Tryz.prog w = .ok (.pointer (some ⟨w.heap.size, 0, none⟩)) w' ∧ SetR w' b w.heap.size ks [] cnt ∧ w.grownBy w' none ∧ w'.heap.size = w.heap.size + 1 := by
  obtain ⟨D, ho, hm, ha, hh⟩ := h
  obtain ⟨w', hr, hg, hw, hs⟩ := ho.range (t := 155) keyed90 Tryz.underlying155
  refine ⟨w', _, hr, ⟨D, _, hg, fun s => ?_, hh⟩, hw, hs⟩
  cases hb : memB s ks with
  | true =>
    cases hc : has D (.string s.data.toList) with
    | true => rfl
    | false =>
      have h1 := ha s
      rw [atKey_of_not_has hc, hb] at h1
      cases h1
  | false =>
    cases hc : has D (.string s.data.toList) with
    | false => rfl
    | true =>
      obtain ⟨t, ht, e⟩ := hh _ hc
      have : s = t := ByteArray.ext (Array.toList_inj.1 ((Lit.string.injEq _ _).mp e))
      subst this
      rw [memB_iff.2 ht] at hb
      cases hb

theorem memB_snoc (x s : ByteArray) (ks : List ByteArray) : memB x (ks ++ [s]) = (memB x ks || (s.data.toList == x.data.toList)) := by simp [memB]

set_option maxRecDepth 10000 in
theorem SetR.next {w : World} {b r : Nat} {ks came : List ByteArray} {cnt : Nat} (h : SetR w b r ks came cnt) (ty : TypeId) :
    (cnt = 0 ∧ (∀ s, memB s ks = true → memB s came = true) ∧ (Instr.next (.pointer (some ⟨r, 0, none⟩)) false ty).run Tryz.prog w = .ok (.tuple #[.bool false]) w) ∨
    ∃ s v w' cnt', memB s ks = true ∧ memB s came = false ∧ (Instr.next (.pointer (some ⟨r, 0, none⟩)) false ty).run Tryz.prog w = .ok (.tuple #[.bool true, .string s, v]) w' ∧ SetR w' b r ks (came ++ [s]) cnt' ∧ cnt' < cnt ∧ w.grownBy w' (some r) ∧
      w'.heap.size = w.heap.size ∧ (Instr.entry (.pointer (some ⟨r, 0, none⟩))).run Tryz.prog w' = .ok (.tuple #[.string s, v]) w' := by
  obtain ⟨D, left, hr, hl, hk⟩ := h
  rcases hr.next keyed90 ty with ⟨h0, h1, h2⟩ | ⟨key, v, kl, y, w', cnt', hkey, hlk, hv, hat, hrun, hrg, hlt, hgr, hsz, hen⟩
  · refine .inl ⟨h0, fun s hs => ?_, h2⟩
    have := hl s
    rw [h1, hs] at this
    simpa using this
  · obtain ⟨s, rfl, rfl⟩ := keyOf90_inv hkey
    have h3 := hl s
    rw [hlk] at h3
    have h4 : memB s ks = true ∧ memB s came = false := by simpa using h3.symm
    refine .inr ⟨s, v, w', cnt', h4.1, h4.2, hrun, ⟨D, _, hrg, fun t => ?_, fun kl' hkl => hk kl' (by simp at hkl; exact hkl.1)⟩, hlt, hgr, hsz, hen⟩
    have h5 : (Lit.string t.data.toList).sameKey (Lit.string s.data.toList) = (s.data.toList == t.data.toList) := by
      cases hc : (s.data.toList == t.data.toList) with
      | true =>
        have : s.data.toList = t.data.toList := by simpa using hc
        rw [this]
        exact WideAt.sameKey_self (by simp [WideAt.IsKeyLit])
      | false =>
        cases hd : (Lit.string t.data.toList).sameKey (Lit.string s.data.toList) with
        | false => rfl
        | true =>
          have h6 := (WideAt.sameKey_iff (by simp [WideAt.IsKeyLit])).1 hd
          have h7 := (Lit.string.injEq _ _).mp h6
          rw [h7] at hc
          simp at hc
    simp only [hl t, h5, memB_snoc]
    cases memB t ks <;> cases memB t came <;> cases (s.data.toList == t.data.toList) <;> rfl

theorem SetR.kept {w w' : World} {b r : Nat} {ks came : List ByteArray} {cnt : Nat} (h : SetR w b r ks came cnt) {row : Option Nat} (hg : w.grownBy w' row) (hb : some b ≠ row) (hr : some r ≠ row) : SetR w' b r ks came cnt := by
  obtain ⟨D, left, h1, h2⟩ := h
  exact ⟨D, left, h1.kept hg hb hr, h2⟩
theorem SetR.lt {w : World} {b r : Nat} {ks came : List ByteArray} {cnt : Nat} (h : SetR w b r ks came cnt) : r < w.heap.size := by
  obtain ⟨D, left, h1, h2⟩ := h
  exact h1.lt
end Go.Proofs.YtapikimhmjnjeaaGreatDoor

/- What package name's cuts says: all letters that stand for a key, in some order: a contract of the program's own function. Sizes alone are asked. -/
namespace Go.Proofs.YtapikimhmjnjeaaGreatDoor
open Go.RowKit Go.Shelf

theorem run_store_fn2 {P : Program} {w : World} {a : Addr} {m : Mode} (fn : Fn) (first captured : Array Value) : (store a (.func fn first captured) m).run P w = stored P w a (.func fn first captured) m := run_store P w a _ m rfl
attribute [local go_sem] run_store_fn2

theorem memB_rev (x : ByteArray) (ks : List ByteArray) : memB x ks.reverse = memB x ks := by simp [memB]
/-- The keys that cuts lays down. -/
def cutsC (k : ByteArray) : List ByteArray := visitC k (k.size - 1) (k.extract 0 1) 1

set_option maxRecDepth 100000 in
set_option maxHeartbeats 4000000 in
theorem cuts_any (k : ByteArray) (w : World) (hk : 0 < k.size) (hks : k.size ≤ 20) :
    Calls Tryz.prog 115 #[.string k] w fun e w' => ∃ (v : Value) (xs : List ByteArray), e = .returned v ∧ w'.ownsRow w.heap.size 90 1 v xs.length (xs.map Value.string) ∧ (xs = [] → v = .slice none 0 0) ∧
      (∀ s, s ∈ xs ↔ s ∈ cutsC k) ∧ xs.length ≤ 2000000 ∧ Below w.heap.size w w' := by
  have hinfo : (Tryz.prog.info? 90).map (fun i => (i.zero, i.size, i.bytes)) = some (some (.string ⟨#[]⟩), 1, 16) := by kernel_rfl
  obtain ⟨i0, hi, hz0, hz1, hz2⟩ : ∃ i0, Tryz.prog.info? 90 = some i0 ∧ i0.zero = some (.string ⟨#[]⟩) ∧ i0.size = 1 ∧ i0.bytes = 16 := by
    cases h : Tryz.prog.info? 90 with
    | none => rw [h] at hinfo; cases hinfo
    | some i0 => rw [h] at hinfo; simp at hinfo; exact ⟨i0, rfl, hinfo.1, hinfo.2.1, hinfo.2.2⟩
  have HI := Lib.hid (And.intro hi (And.intro hz0 (And.intro hz1 hz2)))
  clear hinfo hi hz0 hz1 hz2
  obtain ⟨B, hB0⟩ : ∃ B, w.heap.size = B := ⟨_, rfl⟩
  obtain ⟨V, hV⟩ : ∃ V, ((((w.alloc (Obj.cells #[Value.string k] 90)).alloc (Obj.map #[] 0)).alloc (Obj.cells #[Value.map (some (B + 1))] 155)).alloc (Obj.cells #[Value.nilFunc] 156)).setCell ⟨B + 3, 0, none⟩
      (Value.func (Fn.func 140) #[] #[.pointer (some ⟨B, 0, none⟩), .pointer (some ⟨B + 2, 0, none⟩), .pointer (some ⟨B + 3, 0, none⟩)]) = V := ⟨_, rfl⟩
  have hVs : V.heap.size = B + 4 := by rw [← hV]; simp [World.setCell, hB0]
  have hBV : Below w.heap.size w V := by rw [← hV]; exact (((((Below.refl _ w).alloc (Nat.le_refl _) _).alloc (by simp) _).alloc (by simp; omega) _).alloc (by simp; omega) _).setCell (p := ⟨B + 3, 0, none⟩) (by simp; omega) _
  have v0 : Boxed V B 90 (.string k) := by rw [← hV, ← hB0]; exact ((((Boxed.new w _ _).alloc _).alloc _).alloc _).other (by omega) _
  have v1 : SetAt V (B + 1) [] := by
    have h0 := SetAt.made (w.alloc (Obj.cells #[Value.string k] 90))
    rw [World.size_alloc, hB0] at h0
    refine h0.kept ?_
    rw [← hV]
    have e1 : B + 1 ≠ B + 3 := by omega
    exact (Below.heap_setCell _ _ _ _ (by simp)).trans ((Below.heap_alloc _ _ _ (by simp; omega)).trans (Below.heap_alloc _ _ _ (by simp; omega)))
  have v2 : Boxed V (B + 2) 155 (.map (some (B + 1))) := by
    rw [← hV]
    have := ((Boxed.new ((w.alloc (Obj.cells #[Value.string k] 90)).alloc (Obj.map #[] 0)) 155 (.map (some (B + 1)))).alloc (Obj.cells #[Value.nilFunc] 156))
    rw [World.size_alloc, World.size_alloc, hB0] at this
    exact this.other (by omega) _
  have v3 : Boxed V (B + 3) 156 (Value.func (Fn.func 140) #[] #[.pointer (some ⟨B, 0, none⟩), .pointer (some ⟨B + 2, 0, none⟩), .pointer (some ⟨B + 3, 0, none⟩)]) := by
    rw [← hV]
    have := (Boxed.new (((w.alloc (Obj.cells #[Value.string k] 90)).alloc (Obj.map #[] 0)).alloc (Obj.cells #[Value.map (some (B + 1))] 155)) 156 Value.nilFunc)
    rw [World.size_alloc, World.size_alloc, World.size_alloc, hB0] at this
    exact this.set _
  have HG := Lib.hid (fun (W : World) (h : V.heap.size ≤ W.heap.size ∧ (∀ q, q < V.heap.size → W.heap[q]? = V.heap[q]?)) =>
    cuts1_any B (B + 2) (B + 3) (B + 1) k ⟨by omega, by omega, by omega⟩ hks (k.size - 1) (k.extract 0 1) 1 [] W (by omega) (by simp; omega)
      ⟨(h.2 B (by omega)).trans v0, (h.2 _ (by omega)).trans v2, (h.2 _ (by omega)).trans v3⟩ (v1.kept (h.2 _ (by omega)))
      (by have : 2 ^ (k.size - 1) ≤ 2 ^ 20 := Nat.pow_le_pow_right (by decide) (by omega); simp; omega))
  have HBV := Lib.hid hBV
  have HV2 := Lib.hid v2
  have c0 := v0.cell
  have c3 : V.cell? ⟨B + 1 + 1 + 1, 0, none⟩ = some (Value.func (Fn.func 140) #[] #[.pointer (some ⟨B, 0, none⟩), .pointer (some ⟨B + 2, 0, none⟩), .pointer (some ⟨B + 3, 0, none⟩)]) := v3.cell
  have hmm := @run_makeMap Tryz.prog
  clear hBV v0 v1 v2 v3
  have a1 : (1 : Int) ≤ (k.size : Int) := by omega
  go_enter Tryz.func115, Tryz.ntmps115
  go_wp2_with fail
  refine wp_region_still_tail 3 (by kernel_rfl) (by kernel_rfl) ?_
  simp only [List.take_succ_cons, List.take_zero, List.drop_succ_cons, List.drop_zero]
  have d0 : V.drew.cell? ⟨B, 0, none⟩ = some (.string k) := c0
  have d3 : V.drew.cell? ⟨B + 1 + 1 + 1, 0, none⟩ = some (Value.func (Fn.func 140) #[] #[.pointer (some ⟨B, 0, none⟩), .pointer (some ⟨B + 2, 0, none⟩), .pointer (some ⟨B + 3, 0, none⟩)]) := c3
  have HG2 := Lib.hid (HG.out V.drew ⟨Nat.le_refl _, fun _ _ => rfl⟩)
  have HBD : Hid (Below w.heap.size w V.drew ∧ Boxed V.drew (B + 2) 155 (.map (some (B + 1))) ∧ V.drew.heap.size = B + 4) := ⟨HBV.out.drew, HV2.out, hVs⟩
  change wpStill _ _ V.drew (fun a' => wpList _ _ _ _ a' V.drew) _ _
  clear c0 c3 HG HBV HV2 hV hmm hVs
  generalize V.drew = X at d0 d3 HG2 HBD ⊢
  repeat still_step
  refine wpStill_nil ?_
  clear d0 d3
  go_wp2_with fail
  refine HG2.out.mono ?_
  rintro e X2 ⟨rfl, hset, hkeep⟩
  rw [List.append_nil] at hset
  obtain ⟨X3, cnt, hrange, hR, hgr, hs3⟩ := hset.range
  have hB2 : Below w.heap.size w X2 := HBD.out.1.trans (hkeep.below (by have := HBD.out.1.size; omega) (fun q hq => by omega))
  have c2 : X2.cell? ⟨B + 1 + 1, 0, none⟩ = some (.map (some (B + 1))) := Boxed.cell (boxed_keep HBD.out.2.1 (hkeep.block _ (by rw [HBD.out.2.2]; omega) (by omega)))
  have hB3 : Below w.heap.size w X3 := hB2.trans ⟨hgr.os, hgr.tape, hgr.output, hgr.size, fun q hq => hgr.block q (Nat.lt_of_lt_of_le hq hB2.size) (by simp)⟩
  have hX2s : B + 4 ≤ X2.heap.size := by have := hkeep.size; have := HBD.out.2.2; omega
  obtain ⟨r, hr⟩ : ∃ r, X2.heap.size = r := ⟨_, rfl⟩
  rw [hr] at hR hrange
  have HR3 := Lib.hid (And.intro hR hB3)
  have HRS : Hid (B + 4 ≤ r ∧ X3.heap.size = r + 1) := ⟨by omega, by omega⟩
  have hkl : (visitC k (k.size - 1) (k.extract 0 1) 1).length ≤ 2 ^ 20 := Nat.le_trans (visitC_len _ _ _ _) (Nat.pow_le_pow_right (by decide) (by omega))
  have HKL := Lib.hid hkl
  have hcnt : cnt ≤ 1048576 := by
    obtain ⟨D, left, hrg, _⟩ := hR
    obtain ⟨es, clock, since, seen, c0', _, _, hes, _, _, _, hcc, _⟩ := hrg
    rw [List.length_reverse] at hes
    rw [← hcc]
    have h1 : (leftOf es seen).size ≤ es.size := by unfold leftOf; exact Array.size_filter_le
    have h2 : (2 : Nat) ^ 20 = 1048576 := by decide
    omega
  clear hset hkeep hgr hs3 hB2 hB3 hX2s hr hR hkl HG2 HBD
  go_wp2_with fail
  go_loopg [5] cnt (fun gf v wx => ∃ (came : List ByteArray) (cnt' : Nat), cnt' ≤ gf ∧ came.length + cnt' ≤ cnt ∧ Hid (SetR wx (B + 1) r (visitC k (k.size - 1) (k.extract 0 1) 1).reverse came cnt') ∧ Hid (wx.ownsRow (r + 1) 90 1 v came.length (came.map Value.string)) ∧ Hid (came = [] → v = .slice none 0 0) ∧
    Hid (∀ s ∈ came, memB s (visitC k (k.size - 1) (k.extract 0 1) 1).reverse = true) ∧ Hid (Below w.heap.size w wx))
  case atStart => exact ⟨[], cnt, Nat.le_refl _, by simp, HR3.out.1, ⟨by simp, .inl ⟨rfl, rfl⟩⟩, fun _ => rfl, fun s hs => absurd hs (by simp), HR3.out.2⟩
  case round =>
    obtain ⟨came, cnt', hcg, hcc, HSR, HOW, HNIL, HMEM, HBW⟩ := hrel
    rcases HSR.out.next 0 with ⟨h0, hall, hnx⟩ | ⟨s, v, W', cnt2, hsk, hsc, hnx, hSR2, hlt2, hgr2, hsz2, hen⟩
    · have HALL := Lib.hid hall
      clear hall
      go_wp2_with fail
      go_ret
      refine ⟨_, came, rfl, ?_, HNIL.out, ?_, by omega, HBW.out⟩
      · refine ⟨HOW.out.1, HOW.out.2.imp id ?_⟩
        rintro ⟨g, cap, cur, h1, h2, h3⟩
        exact ⟨g, cap, cur, h1, by have := HRS.out.1; omega, h3⟩
      · intro x
        have e1 : memB x (visitC k (k.size - 1) (k.extract 0 1) 1).reverse = memB x (cutsC k) := memB_rev x _
        constructor
        · intro hx
          exact memB_iff.1 (e1 ▸ HMEM.out x hx)
        · intro hx
          exact memB_iff.1 (HALL.out x (e1.trans (memB_iff.2 hx)))
    · obtain ⟨g', rfl⟩ : ∃ g', gk = g' + 1 := ⟨gk - 1, by omega⟩
      have HSRW := Lib.hid hSR2
      have HSK := Lib.hid hsk
      have hWr : r < W'.heap.size := hSR2.lt
      have HOW2 : Hid (W'.ownsRow (r + 1) 90 1 u5 came.length (came.map Value.string)) := by
        refine ⟨HOW.out.1, ?_⟩
        rcases HOW.out.2 with h1 | ⟨g, cap, cur, h1, h2, h3, h4⟩
        · exact .inl h1
        · exact .inr ⟨g, cap, cur, h1, h2, (hgr2.block g (Array.getElem?_eq_some_iff.1 h3).1 (fun e => by cases e; omega)).trans h3, h4⟩
      have HB2 : Hid (Below w.heap.size w W') := HBW.out.grown hgr2 HBW.out.size (fun q hq => by cases hq; have := HRS.out.1; omega)
      have hcl : came.length ≤ 1048576 := by omega
      clear hgr2 hSR2 hsk hsc HSR HOW HBW hsz2
      go_wp2_with (at_builtin; refine wpList_append_own _ rfl _ _ 124 rfl (r + 1) 90 i0 (.string ⟨#[]⟩) 1 16 Tryz.underlying124 HI.out.1 HI.out.2.1 HI.out.2.2.1 HI.out.2.2.2 rfl (by decide) _ _ _ rfl (HOW2.out.alloc _) ⟨W'.heap.size, 0, none⟩ 1 1 [.string s] rfl rfl (cell_one_new _ _ _) (by simp [Value.oneCell']) (by unfold maxLen; omega) (by omega) (by simp; omega) ?_
                   intro v2 w2 hown2 hg2 hnil2
                   have HG3 := Lib.hid hg2
                   have HO3 := Lib.hid hown2
                   clear hown2 hg2 hnil2)
      have hge := own_ge HOW2.out
      have hne1 : some (B + 1) ≠ u5.ownBlock := fun e => by have := hge _ e.symm; have := HRS.out.1; omega
      have hne2 : some r ≠ u5.ownBlock := fun e => by have := hge _ e.symm; omega
      go_roundg g'
      case measure => omega
      case rel =>
        refine ⟨came ++ [s], cnt2, by omega, by simp; omega, ?_, ?_, fun h => absurd h (by simp), ?_, ?_⟩
        · exact (HSRW.out.kept (World.grownBy_alloc W' _ none) (by simp) (by simp)).kept HG3.out hne1 hne2
        · have := HO3.out
          show World.ownsRow _ _ _ _ _ _ _
          rw [List.map_append, List.length_append]
          exact this
        · intro x hx
          rcases List.mem_append.1 hx with hx | hx
          · exact HMEM.out x hx
          · have : x = s := by simpa using hx
            rw [this]; exact HSK.out
        · exact (HB2.out.alloc HB2.out.size _).grown HG3.out (by have := HB2.out.size; simp; omega) (fun q hq => by have := hge q hq; have := HRS.out.1; omega)
end Go.Proofs.YtapikimhmjnjeaaGreatDoor

/- What slices.Values yields of a row of keys: an iterator's contract (the library's function as the program calls it). Sizes alone are asked. -/
namespace Go.Proofs.YtapikimhmjnjeaaGreatDoor
open Go.RowKit Go.Shelf
attribute [local go_sem] Oper.semAt_some

theorem cell_of_heap' {X Y : World} {b : Nat} (h : X.heap[b]? = Y.heap[b]?) (o : Nat) : X.cell? ⟨b, o, none⟩ = Y.cell? ⟨b, o, none⟩ := by simp [World.cell?, h]
theorem ownCell {X : World} {b0 : Nat} {e : TypeId} {x : List ByteArray} {v : Value} (h : X.ownsRow b0 e 1 v x.length (x.map Value.string)) (hx : x ≠ []) : ∃ g c, v = .slice (some ⟨g, 0, none⟩) x.length c ∧ b0 ≤ g ∧ g < X.heap.size ∧ x.length ≤ c ∧
    ∀ j, j < x.length → X.cell? ⟨g, j, none⟩ = some (.string (x.getD j ByteArray.empty)) := by
  rcases h.2 with ⟨rfl, hn⟩ | ⟨g, cap, cur, rfl, hg, hh, hc1, hc2, hc3, hc4⟩
  · exact absurd (List.length_eq_zero_iff.1 hn) hx
  · refine ⟨g, cap, rfl, hg, (Array.getElem?_eq_some_iff.1 hh).1, hc1, fun j hj => ?_⟩
    have h1 : cur[j]? = some (.string (x.getD j ByteArray.empty)) := by
      have e1 : (cur.toList.take (x.length * 1))[j]? = cur.toList[j]? := List.getElem?_take_of_lt (by omega)
      rw [hc4] at e1
      rw [← Array.getElem?_toList, ← e1, List.getElem?_map, List.getElem?_eq_getElem hj, List.getD_eq_getElem?_getD, List.getElem?_eq_getElem hj]
      rfl
    simp [World.cell?, hh, h1]
theorem ownSlice {X : World} {b0 n : Nat} {e : TypeId} {v : Value} {xs : List Value} (h : X.ownsRow b0 e 1 v n xs) : ∃ A c, v = .slice A n c := by
  rcases h.2 with ⟨rfl, hn⟩ | ⟨g, cap, cur, rfl, _⟩
  · exact ⟨none, 0, by rw [hn]⟩
  · exact ⟨_, _, rfl⟩

set_option maxRecDepth 100000 in
set_option maxHeartbeats 2000000 in
theorem values1_seq (b b0 : Nat) (xs : List ByteArray) (v : Value) (W0 : World) (h1 : Boxed W0 b 124 v) (h2 : W0.ownsRow b0 90 1 v xs.length (xs.map Value.string)) (hn : xs.length ≤ 4000000) (e : TypeId) :
    SeqAt Tryz.prog 141 #[.pointer (some ⟨b, 0, none⟩)] e (fun _ (x : ByteArray) u => u = .string x) xs (fun k => k = b ∨ v.ownBlock = some k) W0 := by
  intro W l may J Jx hd hsz hdm hmw hJ hJx hY h0
  have H1 := Lib.hid h1
  have H2 := Lib.hid h2
  have HD := Lib.hid hd
  have HM := Lib.hid hdm
  have HJ := Lib.hid hJ
  have HY := Lib.hid hY
  have HZ := Lib.hid hsz
  obtain ⟨A, c, hv⟩ := ownSlice h2
  have HVV := Lib.hid hv
  have c1 := (boxed_keep h1 (hd b (.inl rfl)).2).cell
  rw [hv] at c1
  have H0 := Lib.hid h0
  clear h1 h2 hd hdm hmw hJ hJx hY h0 hsz hv
  refine callsIn_of_wp Tryz.func141 rfl trivial ?_
  simp only [Tryz.ntmps141, List.size_toArray, List.length_cons, List.length_nil, Nat.reduceAdd, Nat.reduceSub, Array.replicate_succ, Array.replicate_zero, List.push_toArray, List.append_toArray, List.nil_append, List.cons_append]
  gi_wp2_with fail
  refine wpIn_wide.2 ?_
  go_loopg [7] xs.length (fun gf v wx => ∃ i : Nat, v = .int .i64 (i : Int) ∧ i + gf = xs.length ∧ W.heap.size ≤ wx.heap.size ∧ Hid (∀ k, (k = b ∨ Value.ownBlock (.slice A xs.length c) = some k) → wx.heap[k]? = W.heap[k]?) ∧ Hid (J (xs.take i) wx))
  case atStart => exact ⟨0, rfl, by omega, Nat.le_refl _, fun _ _ => rfl, by rw [List.take_zero]; exact H0.out⟩
  case round =>
    obtain ⟨i, rfl, hig, hsz, HK, HJJ⟩ := hrel
    refine (wpIn_wide (n := 0)).1 ?_
    cases gk with
    | zero =>
      have hn2 : ¬ (i : Int) < (xs.length : Int) := by omega
      gi_wp2_with fail
      go_end0
      have h3 := HJJ.out
      rw [List.take_of_length_le (by omega)] at h3
      exact ⟨⟨_, rfl⟩, .inl h3⟩
    | succ g =>
      have hn2 : (i : Int) < (xs.length : Int) := by omega
      obtain ⟨g0, c0, hv0, _, hg0, _, hcell⟩ := ownCell H2.out (by intro h; rw [h] at hn2; simp at hn2; omega)
      rw [HVV.out] at hv0
      obtain ⟨rfl, rfl⟩ : A = some ⟨g0, 0, none⟩ ∧ c = c0 := by injection hv0 with h1 _ h3; exact ⟨h1, h3⟩
      have hgd := HD.out g0 (.inr (by rw [HVV.out]; rfl))
      have k1 : wr.cell? ⟨g0, i, none⟩ = some (.string (xs.getD i ByteArray.empty)) := (cell_of_heap' ((HK.out g0 (.inr rfl)).trans hgd.2) i).trans (hcell i (by omega))
      have ht : xs.take i ++ [xs.getD i ByteArray.empty] = xs.take (i + 1) := by
        rw [List.take_succ_eq_append_getElem (by omega : i < xs.length), List.getD_eq_getElem?_getD, List.getElem?_eq_getElem (by omega)]
        rfl
      obtain ⟨x, hx⟩ : ∃ x, xs.getD i ByteArray.empty = x := ⟨_, rfl⟩
      rw [hx] at k1 ht
      have HT := Lib.hid ht
      have hp : xs.take i ++ [x] <+: xs := by rw [ht]; exact List.take_prefix _ _
      obtain ⟨fn, tmps, assign, body, hy, hR⟩ := HY.out (xs.take i) x (.string x) wr HJJ.out hp rfl hsz
      have a1 : (0 : Int) ≤ (i : Int) := by omega
      have a3 : (i : Int).toNat = i := by omega
      have HRR := Lib.hid hR
      clear hp ht hx hv0 hcell hgd hR
      gi_wp2_with fail
      refine ⟨rfl, ?_⟩
      refine HRR.out.mono ?_
      rintro en Y (⟨rfl, hj, hk⟩ | ⟨rfl, hj, hk⟩)
      · gi_wp2_with fail
        go_roundg g
        case measure => omega
        case rel =>
          refine ⟨i + 1, rfl, by omega, Nat.le_trans hsz hk.size, fun q hq => ?_, by rw [← HT.out]; exact hj⟩
          have hq' : q = b ∨ v.ownBlock = some q := by rw [HVV.out]; exact hq
          have := HD.out q hq'
          exact (hk.block q (Nat.lt_of_lt_of_le this.1 (Nat.le_trans HZ.out hsz)) (HM.out q hq')).trans (HK.out q hq)
      · gi_wp2_with fail
        refine bodyPost_ret (results_none rfl _ _ _) rfl ?_
        exact ⟨⟨_, rfl⟩, .inr hj⟩

set_option maxHeartbeats 1000000 in
/-- slices.Values hands an iterator out. -/
theorem values_any (A : Option Addr) (n c : Nat) (w : World) :
    Calls Tryz.prog 117 #[.slice A n c] w fun e w' =>
      e = .returned (.func (.func 141) #[] #[.pointer (some ⟨w.heap.size, 0, none⟩)]) ∧ w' = w.alloc (.cells #[.slice A n c] 124) := by
  go_enter Tryz.func117, Tryz.ntmps117
  go_wp2
  go_ret
  exact ⟨rfl, rfl⟩
end Go.Proofs.YtapikimhmjnjeaaGreatDoor

/- What package name's cut says: contracts of the program's own functions. Sizes alone are asked. -/
namespace Go.Proofs.YtapikimhmjnjeaaGreatDoor
open Go.RowKit Go.Shelf

theorem loopC_size (k : ByteArray) : ∀ (n : Nat) (now : ByteArray) (i : Nat) (s : ByteArray), s ∈ loopC k n now i → s.size < k.size ∧ now.size ≤ s.size
  | 0, _, _, s, h => by simp [loopC] at h
  | n + 1, now, i, s, h => by
    have e : now.size ≤ (now ++ k.extract i (i + 1)).size := by rw [ByteArray.size_append]; omega
    unfold loopC at h
    rcases List.mem_append.1 h with h | h
    · rcases List.mem_append.1 h with h | h
      · split at h
        · rename_i hs
          obtain rfl : s = now ++ k.extract i (i + 1) := by simpa using h
          exact ⟨hs, e⟩
        · simp at h
      · have := loopC_size k n _ _ s h
        omega
    · exact loopC_size k n _ _ s h
theorem cutsC_size {k s : ByteArray} (hk : 0 < k.size) (h : s ∈ cutsC k) : s.size < k.size ∧ 0 < s.size := by
  have e : (k.extract 0 1).size = 1 := by rw [ByteArray.size_extract]; omega
  unfold cutsC visitC at h
  rcases List.mem_append.1 h with h | h
  · split at h
    · rename_i hs
      obtain rfl : s = k.extract 0 1 := by simpa using h
      omega
    · simp at h
  · have := loopC_size k _ _ _ s h
    omega

/-- Two keys by their numbers of letters, then in lexicographic order. -/
def cutCf (dir : Int → Int → Int) (a b : ByteArray) : Int := orZ (dir a.size b.size) (cmpS a b)
/-- Letters that are no more than most, and stand for no other key of the list. -/
def cutGood (l : List ByteArray) (own : ByteArray) (most : Int) (s : ByteArray) : Bool := !(decide (most < s.size) || l.any (mistB s own))
/-- What cut finds. -/
def cutF (l : List ByteArray) (own : ByteArray) (most : Int) (dir : Int → Int → Int) : Option ByteArray := firstL (cutCf dir) ((cutsC own).filter (cutGood l own most))
def dirS (x y : Int) : Int := x - y
def dirF (x y : Int) : Int := y - x

theorem cutCf_lt {dir : Int → Int → Int} {a b : ByteArray} : cutCf dir a b < 0 ↔ dir a.size b.size < 0 ∨ (dir a.size b.size = 0 ∧ cmpS a b < 0) := by
  unfold cutCf orZ
  split
  · rename_i h; constructor
    · exact fun h1 => .inr ⟨h, h1⟩
    · rintro (h1 | h1)
      · omega
      · exact h1.2
  · rename_i h; constructor
    · exact fun h1 => .inl h1
    · rintro (h1 | h1)
      · exact h1
      · exact absurd h1.1 h
theorem strictS : Strict (cutCf dirS) (fun _ => True) := by
  refine ⟨fun a _ h => ?_, fun a b c _ _ _ h1 h2 => ?_, fun a b _ _ h => ?_⟩
  · rw [cutCf_lt] at h
    unfold dirS at h
    rcases h with h | h
    · omega
    · exact cmpS_irrefl a h.2
  · rw [cutCf_lt] at h1 h2 ⊢
    unfold dirS at *
    rcases h1 with h1 | h1
    · rcases h2 with h2 | h2
      · exact .inl (by omega)
      · exact .inl (by omega)
    · rcases h2 with h2 | h2
      · exact .inl (by omega)
      · exact .inr ⟨by omega, cmpS_trans h1.2 h2.2⟩
  · rw [cutCf_lt, cutCf_lt]
    unfold dirS
    rcases Int.lt_trichotomy a.size b.size with h1 | h1 | h1
    · exact .inl (.inl (by omega))
    · rcases cmpS_total h with h2 | h2
      · exact .inl (.inr ⟨by omega, h2⟩)
      · exact .inr (.inr ⟨by omega, h2⟩)
    · exact .inr (.inl (by omega))
theorem strictF : Strict (cutCf dirF) (fun _ => True) := by
  refine ⟨fun a _ h => ?_, fun a b c _ _ _ h1 h2 => ?_, fun a b _ _ h => ?_⟩
  · rw [cutCf_lt] at h
    unfold dirF at h
    rcases h with h | h
    · omega
    · exact cmpS_irrefl a h.2
  · rw [cutCf_lt] at h1 h2 ⊢
    unfold dirF at *
    rcases h1 with h1 | h1
    · rcases h2 with h2 | h2
      · exact .inl (by omega)
      · exact .inl (by omega)
    · rcases h2 with h2 | h2
      · exact .inl (by omega)
      · exact .inr ⟨by omega, cmpS_trans h1.2 h2.2⟩
  · rw [cutCf_lt, cutCf_lt]
    unfold dirF
    rcases Int.lt_trichotomy a.size b.size with h1 | h1 | h1
    · exact .inr (.inl (by omega))
    · rcases cmpS_total h with h2 | h2
      · exact .inl (.inr ⟨by omega, h2⟩)
      · exact .inr (.inr ⟨by omega, h2⟩)
    · exact .inl (.inl (by omega))

theorem own_at' {w w1 : World} {base : Nat} {e : TypeId} {size n : Nat} {v : Value} {xs : List Value} (h : w.ownsRow base e size v n xs) (hb : Below w.heap.size w w1) : w1.ownsRow base e size v n xs := by
  refine ⟨h.1, ?_⟩
  rcases h.2 with h2 | ⟨g, cap, cur, rfl, hg, hh, r⟩
  · exact .inl h2
  · exact .inr ⟨g, cap, cur, rfl, hg, (hb.block g (Array.getElem?_eq_some_iff.1 hh).1).trans hh, r⟩

theorem dirS_any (x y : Int) (w : World) (h : -1000000 ≤ x - y ∧ x - y ≤ 1000000) : Calls Tryz.prog 80 #[.int .i64 x, .int .i64 y] w fun e w' => e = .returned (.int .i64 (dirS x y)) ∧ w = w' := by
  have HX : Hid (dirS x y = x - y) := rfl
  have a1 : IntKind.i64.wrap (x - y) = x - y := IntWalk.i64_in _ (by omega)
  go_enter Tryz.func80, Tryz.ntmps80
  go_wp2_with fail
  go_ret
  exact ⟨by rw [HX.out]; rfl, rfl⟩
theorem dirF_any (x y : Int) (w : World) (h : -1000000 ≤ y - x ∧ y - x ≤ 1000000) : Calls Tryz.prog 83 #[.int .i64 x, .int .i64 y] w fun e w' => e = .returned (.int .i64 (dirF x y)) ∧ w = w' := by
  have HX : Hid (dirF x y = y - x) := rfl
  have a1 : IntKind.i64.wrap (y - x) = y - x := IntWalk.i64_in _ (by omega)
  go_enter Tryz.func83, Tryz.ntmps83
  go_wp2_with fail
  go_ret
  exact ⟨by rw [HX.out]; rfl, rfl⟩

set_option maxRecDepth 100000 in
set_option maxHeartbeats 1000000 in
theorem cut1_any (B og : Nat) (eg : ∀ args w, (callFunc og args).run Tryz.prog w = .ok (.enter og args) w) (dir : Int → Int → Int) (a b : ByteArray) (w : World) (hb : w.cell? ⟨B, 0, none⟩ = some (.func (.func og) #[] #[]))
    (ho : ∀ W, Calls Tryz.prog og #[.int .i64 a.size, .int .i64 b.size] W fun e w' => e = .returned (.int .i64 (dir a.size b.size)) ∧ W = w') :
    Calls Tryz.prog 118 #[.string a, .string b, .pointer (some ⟨B, 0, none⟩)] w fun e w' => e = .returned (.int .i64 (cutCf dir a b)) ∧ Below w.heap.size w w' := by
  have HO := Lib.hid ho
  have HX : Hid (cutCf dir a b = orZ (dir a.size b.size) (cmpS a b)) := rfl
  clear ho
  go_enter Tryz.func118, Tryz.ntmps118
  go_wp2_with fail
  refine (HO.out _).mono ?_
  rintro e w' ⟨rfl, rfl⟩
  obtain ⟨z, hz⟩ : ∃ z, dir a.size b.size = z := ⟨_, rfl⟩
  rw [hz] at HX ⊢
  clear hz HO
  go_wp2_with fail
  refine (cmp_key _ _ _).mono ?_
  rintro e w' ⟨rfl, rfl⟩
  obtain ⟨c1, hc1⟩ : ∃ c1, cmpS a b = c1 := ⟨_, rfl⟩
  rw [hc1] at HX ⊢
  clear hc1
  go_wp2_with fail
  refine (or_two _ z c1 _ (by simp) (by simp)).mono ?_
  rintro e w' ⟨rfl, rfl⟩
  go_wp2_with fail
  go_ret
  exact ⟨by rw [HX.out]; rfl, (Below.refl _ _).alloc (Nat.le_refl _) _⟩

set_option maxRecDepth 100000 in
set_option maxHeartbeats 4000000 in
theorem cut_any (A : Option Addr) (c : Nat) (l : List ByteArray) (own : ByteArray) (most : Int) (og : Nat) (eg : ∀ args w, (callFunc og args).run Tryz.prog w = .ok (.enter og args) w) (dir : Int → Int → Int) (hst : Strict (cutCf dir) (fun _ => True))
    (ho : ∀ W x y, 0 ≤ x → x ≤ 1000 → 0 ≤ y → y ≤ 1000 → Calls Tryz.prog og #[.int .i64 x, .int .i64 y] W fun e w' => e = .returned (.int .i64 (dir x y)) ∧ W = w') (w : World) (hl : StrsAt w A l) (hn : ∀ s ∈ l, Nm s) (hlen : l.length ≤ 1000) (hk : 0 < own.size) (hks : own.size ≤ 20) :
    Calls Tryz.prog 79 #[.slice A l.length c, .string own, .int .i64 most, .func (.func og) #[] #[]] w fun e w' =>
      e = .returned (.tuple #[.string ((cutF l own most dir).getD ByteArray.empty), .bool (cutF l own most dir).isSome]) ∧ Below w.heap.size w w' := by
  have HL := Lib.hid hl
  have HN := Lib.hid hn
  have HO := Lib.hid ho
  have HST := Lib.hid hst
  clear hl hn ho hst
  go_enter Tryz.func79, Tryz.ntmps79
  go_wp2_with fail
  go_step3
  go_wp2_with fail
  go_step3
  go_wp2_with fail
  obtain ⟨X, hX⟩ : ∃ X, w.alloc (Obj.cells #[Value.func (Fn.func og) #[] #[]] 32) = X := ⟨_, rfl⟩
  have hBX : Below w.heap.size w X := by rw [← hX]; exact (Below.refl _ w).alloc (Nat.le_refl _) _
  have hbox : Boxed X w.heap.size 32 (Value.func (Fn.func og) #[] #[]) := by rw [← hX]; exact Boxed.new w _ _
  have hXs : X.heap.size = w.heap.size + 1 := by rw [← hX]; simp
  rw [hX]
  clear hX
  refine (cuts_any own X hk hks).mono ?_
  rintro e w1 ⟨v0, xs, rfl, hown, hnil0, hmem, hxl, hb1⟩
  obtain ⟨A2, c2, rfl⟩ := ownSlice hown
  have HOWN := Lib.hid hown
  have HMEM := Lib.hid hmem
  have HBW1 : Hid (Below w.heap.size w w1 ∧ Boxed w1 w.heap.size 32 (Value.func (Fn.func og) #[] #[])) := ⟨hBX.trans (hb1.mono hBX.size), boxed_at hbox hb1⟩
  have HX1 : Hid (X.heap.size ≤ w1.heap.size) := hb1.size
  obtain ⟨R1, hR1⟩ : ∃ R1, w1.heap.size = R1 := ⟨_, rfl⟩
  have HR1 := Lib.hid hR1
  have HXS := Lib.hid hXs
  have hinfo : (Tryz.prog.info? 90).map (fun i => (i.zero, i.size, i.bytes)) = some (some (.string ⟨#[]⟩), 1, 16) := by kernel_rfl
  obtain ⟨i0, hi, hz0, hz1, hz2⟩ : ∃ i0, Tryz.prog.info? 90 = some i0 ∧ i0.zero = some (.string ⟨#[]⟩) ∧ i0.size = 1 ∧ i0.bytes = 16 := by
    cases h : Tryz.prog.info? 90 with
    | none => rw [h] at hinfo; cases hinfo
    | some i0 => rw [h] at hinfo; simp at hinfo; exact ⟨i0, rfl, hinfo.1, hinfo.2.1, hinfo.2.2⟩
  have HI := Lib.hid (And.intro hi (And.intro hz0 (And.intro hz1 hz2)))
  clear hinfo hi hz0 hz1 hz2 hown hnil0 hmem hb1 hBX hbox hR1 hXs
  go_wp2_with fail
  go_loopg [10, 17] xs.length (fun gf v10 v17 wx => ∃ i : Nat, v17 = .int .i64 (i : Int) ∧ i + gf = xs.length ∧ Hid (Below w.heap.size w wx ∧ Boxed wx w.heap.size 32 (Value.func (Fn.func og) #[] #[]) ∧ R1 ≤ wx.heap.size) ∧
    Hid (wx.ownsRow X.heap.size 90 1 (.slice A2 xs.length c2) xs.length (xs.map Value.string) ∧ (∀ q, (Value.slice A2 xs.length c2).ownBlock = some q → q < R1)) ∧
    Hid (wx.ownsRow R1 90 1 v10 ((xs.take i).filter (cutGood l own most)).length (((xs.take i).filter (cutGood l own most)).map Value.string)))
  case atStart =>
    refine ⟨0, rfl, by omega, ⟨HBW1.out.1, HBW1.out.2, by rw [HR1.out]; exact Nat.le_refl _⟩, ⟨HOWN.out, fun q hq => ?_⟩, ⟨by simp, .inl ⟨rfl, by simp⟩⟩⟩
    rw [← HR1.out]
    rcases HOWN.out.2 with ⟨h1, _⟩ | ⟨g, cap, cur, h1, h2, h3, _⟩
    · rw [h1] at hq; simp [Value.ownBlock] at hq
    · rw [h1] at hq
      have : g = q := by simpa [Value.ownBlock] using hq
      subst this
      exact (Array.getElem?_eq_some_iff.1 h3).1
  case round =>
    obtain ⟨i, rfl, hig, HB, HSRC, HOUT⟩ := hrel
    cases gk with
    | zero =>
      have hn2 : ¬ (i : Int) < (xs.length : Int) := by omega
      obtain ⟨A3, c3, hv3⟩ := ownSlice HOUT.out
      obtain ⟨ys, hys⟩ : ∃ ys, (xs.take i).filter (cutGood l own most) = ys := ⟨_, rfl⟩
      rw [hys] at HOUT hv3
      subst hv3
      rw [List.take_of_length_le (by omega)] at hys
      have HYS := Lib.hid hys
      clear hys
      obtain ⟨X4, hX4⟩ : ∃ X4, wr.alloc (Obj.cells #[Value.slice A3 ys.length c3] 124) = X4 := ⟨_, rfl⟩
      have hb4 : Below wr.heap.size wr X4 := by rw [← hX4]; exact (Below.refl _ wr).alloc (Nat.le_refl _) _
      have hbox4 : Boxed X4 wr.heap.size 124 (.slice A3 ys.length c3) := by rw [← hX4]; exact Boxed.new wr _ _
      have hown4 := own_at' HOUT.out hb4
      have hord4 : Boxed X4 w.heap.size 32 (Value.func (Fn.func og) #[] #[]) := boxed_at HB.out.2.1 hb4
      have hyl : ys.length ≤ 4000000 := by rw [← HYS.out]; exact Nat.le_trans (List.length_filter_le _ _) (by omega)
      have HSQ := Lib.hid (values1_seq wr.heap.size R1 ys (.slice A3 ys.length c3) X4 hbox4 hown4 hyl 9)
      have hys : ∀ x ∈ ys, x.size ≤ 1000 := fun x hx => by
        rw [← HYS.out] at hx
        have := (cutsC_size hk ((HMEM.out x).1 (List.mem_filter.1 hx).1)).1
        omega
      have HF := Lib.hid (firstKey_any 141 #[.pointer (some ⟨wr.heap.size, 0, none⟩)] (enters_of Tryz.func141 (by kernel_rfl) rfl) 118 #[.pointer (some ⟨w.heap.size, 0, none⟩)] (enters_of Tryz.func118 (by kernel_rfl) rfl)
        (cutCf dir) ys _ 9 X4 X4 HSQ.out
        (fun q hq => ⟨by
          rcases hq with rfl | hq
          · exact hbox4.lt
          · rcases hown4.2 with ⟨h1, _⟩ | ⟨g1, cap, cur, h5, h6, h7, h8⟩
            · rw [h1] at hq; simp [Value.ownBlock] at hq
            · rw [h5] at hq
              have : g1 = q := by simpa [Value.ownBlock] using hq
              subst this
              exact (Array.getElem?_eq_some_iff.1 h7).1, rfl⟩) (Nat.le_refl _)
        (fun W x y hW hx hy => cut1_any w.heap.size og eg dir x y W (Boxed.cell (boxed_at hord4 hW)) (fun W' => HO.out W' x.size y.size (by omega) (by have := hys x hx; omega) (by omega) (by have := hys y hy; omega))))
      have HB4 : Hid (Below w.heap.size w X4) := HB.out.1.trans (hb4.mono HB.out.1.size)
      have HEQ : Hid (firstL (cutCf dir) ys = cutF l own most dir) := by
        show _ = _
        unfold cutF
        rw [← HYS.out]
        refine firstL_same HST.out (fun _ _ => trivial) (fun x => ?_)
        rw [List.mem_filter, List.mem_filter, HMEM.out x]
      clear hbox4 hown4 hord4 hyl hys hb4 HSQ HOUT HSRC HB
      go_wp2_with fail
      refine (values_any A3 ys.length c3 wr).mono ?_
      rintro e w2 ⟨rfl, hw2⟩
      rw [hX4] at hw2
      subst hw2
      clear hX4
      go_wp2_with fail
      refine HF.out.mono ?_
      rintro e w3 ⟨rfl, hb3⟩
      have HB5 := Lib.hid (HB4.out.trans (hb3.mono HB4.out.size))
      rw [HEQ.out]
      clear hb3 HF HB4
      obtain ⟨r1, hr1⟩ : ∃ r1, (cutF l own most dir).getD ByteArray.empty = r1 := ⟨_, rfl⟩
      obtain ⟨r2, hr2⟩ : ∃ r2, (cutF l own most dir).isSome = r2 := ⟨_, rfl⟩
      have HRR := Lib.hid (And.intro hr1 hr2)
      rw [hr1, hr2]
      clear hr1 hr2 HEQ
      go_wp2_with fail
      rw [Exit.noGoto_ret]
      go_ret2
      exact ⟨by rw [HRR.out.1, HRR.out.2]; rfl, HB5.out⟩
    | succ g =>
      have hn2 : (i : Int) < (xs.length : Int) := by omega
      obtain ⟨g0, c0, hv0, _, hg0, _, hcell⟩ := ownCell HSRC.out.1 (by intro h; rw [h] at hn2; simp at hn2; omega)
      obtain ⟨rfl, rfl⟩ : A2 = some ⟨g0, 0, none⟩ ∧ c2 = c0 := by injection hv0 with h1 _ h3; exact ⟨h1, h3⟩
      have k1 := hcell i (by omega)
      have hm : xs.getD i ByteArray.empty ∈ xs := by rw [List.getD_eq_getElem?_getD, List.getElem?_eq_getElem (by omega)]; exact List.getElem_mem _
      have ht : xs.take (i + 1) = xs.take i ++ [xs.getD i ByteArray.empty] := by
        rw [List.take_succ_eq_append_getElem (by omega : i < xs.length), List.getD_eq_getElem?_getD, List.getElem?_eq_getElem (by omega)]
        rfl
      obtain ⟨s, hs⟩ : ∃ s, xs.getD i ByteArray.empty = s := ⟨_, rfl⟩
      rw [hs] at k1 ht hm
      have HSZ := Lib.hid (cutsC_size hk ((HMEM.out s).1 hm))
      have HT : Hid ((xs.take (i + 1)).filter (cutGood l own most) = (xs.take i).filter (cutGood l own most) ++ (if cutGood l own most s then [s] else [])) := by
        show _ = _
        rw [ht, List.filter_append]
        congr 1
        cases hg : cutGood l own most s <;> simp [hg]
      have HGD : Hid (cutGood l own most s = !(decide (most < s.size) || l.any (mistB s own))) := rfl
      have a1 : (0 : Int) ≤ (i : Int) := by omega
      have a3 : (i : Int).toNat = i := by omega
      clear hcell hv0 hs ht hm
      by_cases hmo : most < (s.size : Int)
      · have HTT : Hid ((xs.take (i + 1)).filter (cutGood l own most) = (xs.take i).filter (cutGood l own most)) := by
          show _ = _
          rw [HT.out, HGD.out, decide_eq_true hmo]
          simp
        clear HT HGD
        go_wp2_with fail
        go_roundg g
        case measure => omega
        case rel => exact ⟨i + 1, rfl, by omega, HB, HSRC, by rw [HTT.out]; exact HOUT.out⟩
      · have HGD2 : Hid (cutGood l own most s = !(l.any (mistB s own))) := by show _ = _; rw [HGD.out, decide_eq_false hmo]; simp
        clear HGD
        go_wp2_with fail
        refine (mistaken_any s A c l own wr (HL.out.below HB.out.1) hlen HN.out HSZ.out.2).mono ?_
        rintro e w2 ⟨rfl, hb2⟩
        have HB2 : Hid (Below w.heap.size w w2 ∧ Boxed w2 w.heap.size 32 (Value.func (Fn.func og) #[] #[]) ∧ R1 ≤ w2.heap.size) := ⟨HB.out.1.trans (hb2.mono HB.out.1.size), boxed_at HB.out.2.1 hb2, Nat.le_trans HB.out.2.2 hb2.size⟩
        have HS2 : Hid (w2.ownsRow X.heap.size 90 1 (.slice (some ⟨g0, 0, none⟩) xs.length c2) xs.length (xs.map Value.string) ∧ (∀ q, (Value.slice (some ⟨g0, 0, none⟩) xs.length c2).ownBlock = some q → q < R1)) := ⟨own_at' HSRC.out.1 hb2, HSRC.out.2⟩
        have HO2 := Lib.hid (own_at' HOUT.out hb2)
        clear hb2 HB HSRC HOUT
        obtain ⟨q, hq⟩ : ∃ q, l.any (mistB s own) = q := ⟨_, rfl⟩
        rw [hq] at HGD2 ⊢
        clear hq
        cases q with
        | true =>
          have HTT : Hid ((xs.take (i + 1)).filter (cutGood l own most) = (xs.take i).filter (cutGood l own most)) := by
            show _ = _
            rw [HT.out, HGD2.out]
            simp
          clear HT HGD2
          go_wp2_with fail
          go_roundg g
          case measure => omega
          case rel => exact ⟨i + 1, rfl, by omega, HB2, HS2, by rw [HTT.out]; exact HO2.out⟩
        | false =>
          have HTT : Hid ((xs.take (i + 1)).filter (cutGood l own most) = (xs.take i).filter (cutGood l own most) ++ [s]) := by
            show _ = _
            rw [HT.out, HGD2.out]
            simp
          have hfl : ((xs.take i).filter (cutGood l own most)).length ≤ 2000000 := Nat.le_trans (List.length_filter_le _ _) (by rw [List.length_take]; omega)
          clear HT HGD2
          go_wp2_with (at_builtin; refine wpList_append_own _ rfl _ _ 124 rfl R1 90 i0 (.string ⟨#[]⟩) 1 16 Tryz.underlying124 HI.out.1 HI.out.2.1 HI.out.2.2.1 HI.out.2.2.2 rfl (by decide) _ _ _ rfl (HO2.out.alloc _) ⟨w2.heap.size, 0, none⟩ 1 1 [.string s] rfl rfl (cell_one_new _ _ _) (by simp [Value.oneCell']) (by unfold maxLen; omega) (by omega) (by have := HB2.out.2.2; simp; omega) ?_
                       intro v2 w3 hown2 hg2 hnil2
                       have HG3 := Lib.hid hg2
                       have HO3 := Lib.hid hown2
                       clear hown2 hg2 hnil2)
          have hge := own_ge HO2.out
          go_roundg g
          case measure => omega
          case rel =>
            have hsz2 := HB2.out.1.size
            have hbx := HB2.out.2.1.lt
            have hR := HB2.out.2.2
            have h1s := HX1.out
            rw [HR1.out, HXS.out] at h1s
            refine ⟨i + 1, rfl, by omega, ⟨(HB2.out.1.alloc hsz2 _).grown HG3.out (by simp; omega) (fun q hq => by have := hge q hq; omega), ?_, Nat.le_trans hR (Nat.le_trans (by simp) HG3.out.size)⟩, ⟨?_, HS2.out.2⟩, ?_⟩
            · exact (HG3.out.block _ (by simp; omega) (fun e => by have := hge _ e.symm; omega)).trans (HB2.out.2.1.alloc _)
            · have h4 := HS2.out.1.alloc (Obj.cells #[Value.string s] 90)
              refine ⟨h4.1, ?_⟩
              rcases h4.2 with h5 | ⟨g1, cap, cur, h5, h6, h7, h8⟩
              · exact .inl h5
              · refine .inr ⟨g1, cap, cur, h5, h6, (HG3.out.block g1 (Array.getElem?_eq_some_iff.1 h7).1 (fun e => ?_)).trans h7, h8⟩
                have h9 := hge _ e.symm
                have h10 := HS2.out.2 g1 (by rw [h5]; rfl)
                omega
            · have := HO3.out
              rw [HTT.out]
              show World.ownsRow _ _ _ _ _ _ _
              rw [List.map_append, List.length_append]
              exact this
end Go.Proofs.YtapikimhmjnjeaaGreatDoor

/- What package name's indexed, Shortest and Fit say: contracts of the program's own functions. Sizes alone are asked. -/
namespace Go.Proofs.YtapikimhmjnjeaaGreatDoor
open Go.RowKit Go.Shelf

/-- The key of a name of a list, or the error of the list or of the index. -/
def indexF (l : List ByteArray) (at_ : Int) : ByteArray × Int :=
  if listedZ l = 0 then (if at_ < 0 ∨ (l.length : Int) ≤ at_ then (ByteArray.empty, 3) else (keyB (l.getD at_.toNat ByteArray.empty), 0)) else (ByteArray.empty, listedZ l)
def dotted (s : ByteArray) : ByteArray := s ++ ⟨#[46]⟩
def shortF (l : List ByteArray) (at_ : Int) : ByteArray × Int :=
  if (indexF l at_).2 = 0 then (match cutF l (indexF l at_).1 12 dirS with | some s => (dotted s, 0) | none => (ByteArray.empty, 11)) else (ByteArray.empty, (indexF l at_).2)
def fitF (l : List ByteArray) (at_ width : Int) : ByteArray × Int :=
  if (indexF l at_).2 = 0 then
    (if width < 1 then (ByteArray.empty, 1) else if ((indexF l at_).1.size : Int) ≤ width then ((indexF l at_).1, 0)
     else match cutF l (indexF l at_).1 (width - 1) dirF with | some s => (dotted s, 0) | none => (ByteArray.empty, 11))
  else (ByteArray.empty, (indexF l at_).2)

theorem listed_nm {l : List ByteArray} (h : listedZ l = 0) : l.length ≤ 6 ∧ ∀ s ∈ l, Nm s := by
  unfold listedZ at h
  split at h
  · cases h
  · exact ⟨by omega, chkL_nm h⟩

set_option maxRecDepth 100000 in
set_option maxHeartbeats 1000000 in
theorem indexed_any (A : Option Addr) (c : Nat) (l : List ByteArray) (at_ : Int) (w : World) (hl : StrsAt w A l) (hs : l.length ≤ 1000000 ∧ ∀ s ∈ l, s.size ≤ 1000000) :
    Calls Tryz.prog 78 #[.slice A l.length c, .int .i64 at_] w fun e w' => e = .returned (.tuple #[.string (indexF l at_).1, .int .i64 (indexF l at_).2]) ∧ Below w.heap.size w w' := by
  have HL := Lib.hid hl
  have HLI := Lib.hid (listed_any A c l w hl hs)
  clear hl hs
  by_cases h0 : listedZ l = 0
  · have HLN := Lib.hid (listed_nm h0)
    rw [h0] at HLI
    by_cases h1 : at_ < 0
    · have HX : Hid (indexF l at_ = (ByteArray.empty, 3)) := by show _ = _; unfold indexF; rw [if_pos h0, if_pos (.inl h1)]
      go_enter Tryz.func78, Tryz.ntmps78
      go_wp2_with fail
      refine HLI.out.mono ?_
      rintro e w2 ⟨rfl, hb⟩
      have HB := Lib.hid hb
      clear hb h0 HLI
      go_wp2_with fail
      go_ret2
      exact ⟨by rw [HX.out]; rfl, HB.out⟩
    · by_cases h2 : (l.length : Int) ≤ at_
      · have HX : Hid (indexF l at_ = (ByteArray.empty, 3)) := by show _ = _; unfold indexF; rw [if_pos h0, if_pos (.inr h2)]
        go_enter Tryz.func78, Tryz.ntmps78
        go_wp2_with fail
        refine HLI.out.mono ?_
        rintro e w2 ⟨rfl, hb⟩
        have HB := Lib.hid hb
        clear hb h0 HLI
        go_wp2_with fail
        go_ret2
        exact ⟨by rw [HX.out]; rfl, HB.out⟩
      · obtain ⟨i, rfl⟩ : ∃ i : Nat, at_ = (i : Int) := ⟨at_.toNat, by omega⟩
        have a3 : (i : Int).toNat = i := by omega
        have a4 : (i : Int) < (l.length : Int) := by omega
        have HX : Hid (indexF l i = (keyB (l.getD i ByteArray.empty), 0)) := by show _ = _; unfold indexF; rw [if_pos h0, if_neg (by omega), a3]
        have hm : l.getD i ByteArray.empty ∈ l := by rw [List.getD_eq_getElem?_getD, List.getElem?_eq_getElem (by omega)]; exact List.getElem_mem _
        have HN := Lib.hid (HLN.out.2 _ hm)
        clear hm
        go_enter Tryz.func78, Tryz.ntmps78
        go_wp2_with fail
        refine HLI.out.mono ?_
        rintro e w2 ⟨rfl, hb⟩
        have HB := Lib.hid hb
        obtain ⟨b, off, rfl, k1⟩ := (HL.out.below hb) i (by omega)
        obtain ⟨s, hs⟩ : ∃ s, l.getD i ByteArray.empty = s := ⟨_, rfl⟩
        rw [hs] at k1 HN HX
        clear hb h0 HLI hs
        go_wp2_with fail
        refine (of_any s _ HN.out.le HN.out.all).mono ?_
        rintro e w3 ⟨rfl, hb3⟩
        have HB3 := Lib.hid (HB.out.trans (hb3.mono HB.out.size))
        have HK : Hid ((⟨(keyL s.data.toList).toArray⟩ : ByteArray) = keyB s) := rfl
        clear hb3
        obtain ⟨ks, hks⟩ : ∃ ks, (⟨(keyL s.data.toList).toArray⟩ : ByteArray) = ks := ⟨_, rfl⟩
        rw [hks] at HK ⊢
        clear hks
        go_wp2_with fail
        go_ret2
        exact ⟨by rw [HX.out, ← HK.out]; rfl, HB3.out⟩
  · have HX : Hid (indexF l at_ = (ByteArray.empty, listedZ l)) := by show _ = _; unfold indexF; rw [if_neg h0]
    obtain ⟨z, hz⟩ : ∃ z, listedZ l = z := ⟨_, rfl⟩
    rw [hz] at HLI HX h0
    clear hz
    have h1 : (z == 0) = false := by simpa using h0
    go_enter Tryz.func78, Tryz.ntmps78
    go_wp2_with fail
    refine HLI.out.mono ?_
    rintro e w2 ⟨rfl, hb⟩
    have HB := Lib.hid hb
    clear hb HLI
    go_wp2_with fail
    go_ret2
    exact ⟨by rw [HX.out]; rfl, HB.out⟩

theorem indexF_ok {l : List ByteArray} {at_ : Int} (h : (indexF l at_).2 = 0) : listedZ l = 0 ∧ 0 ≤ at_ ∧ at_ < l.length ∧ (indexF l at_).1 = keyB (l.getD at_.toNat ByteArray.empty) ∧ Nm (l.getD at_.toNat ByteArray.empty) := by
  unfold indexF at h ⊢
  by_cases h0 : listedZ l = 0
  · rw [if_pos h0] at h ⊢
    by_cases h1 : at_ < 0 ∨ (l.length : Int) ≤ at_
    · rw [if_pos h1] at h; cases h
    · rw [if_neg h1]
      refine ⟨h0, by omega, by omega, rfl, (listed_nm h0).2 _ ?_⟩
      rw [List.getD_eq_getElem?_getD, List.getElem?_eq_getElem (by omega)]
      exact List.getElem_mem _
  · rw [if_neg h0] at h; exact absurd h h0

set_option maxRecDepth 100000 in
set_option maxHeartbeats 1000000 in
theorem shortest_any (A : Option Addr) (c : Nat) (l : List ByteArray) (at_ : Int) (w : World) (hl : StrsAt w A l) (hs : l.length ≤ 1000000 ∧ ∀ s ∈ l, s.size ≤ 1000000) :
    Calls Tryz.prog 29 #[.slice A l.length c, .int .i64 at_] w fun e w' => e = .returned (.tuple #[.string (shortF l at_).1, .int .i64 (shortF l at_).2]) ∧ Below w.heap.size w w' := by
  have HL := Lib.hid hl
  have HI := Lib.hid (indexed_any A c l at_ w hl hs)
  have HF : Hid (shortF l at_ = if (indexF l at_).2 = 0 then (match cutF l (indexF l at_).1 12 dirS with | some s => (dotted s, 0) | none => (ByteArray.empty, 11)) else (ByteArray.empty, (indexF l at_).2)) := rfl
  have HOK := Lib.hid (@indexF_ok l at_)
  clear hl hs
  obtain ⟨p, hp⟩ : ∃ p, indexF l at_ = p := ⟨_, rfl⟩
  rw [hp] at HI HF HOK
  clear hp
  obtain ⟨own, z⟩ := p
  by_cases h0 : z = 0
  · subst h0
    obtain ⟨g1, g2, g3, g4, g5⟩ := HOK.out rfl
    have hk1 := key_pos g5
    have hk2 := key_size g5
    rw [← g4] at hk1 hk2
    have hk1 : 0 < own.size := hk1
    have hk2 : own.size ≤ 12 := hk2
    have HC := Lib.hid (fun W (hW : StrsAt W A l) => cut_any A c l own 12 80 (enters_of Tryz.func80 (by kernel_rfl) rfl) dirS strictS (fun W x y h1 h2 h3 h4 => dirS_any x y W (by omega)) W hW (listed_nm g1).2 (by have := (listed_nm g1).1; omega) hk1 (by omega))
    have HF2 : Hid (shortF l at_ = match cutF l own 12 dirS with | some s => (dotted s, 0) | none => (ByteArray.empty, 11)) := HF.out
    have HCS : Hid (∀ s, cutF l own 12 dirS = some s → s.size ≤ 12) := fun s h => by
      have := firstL_mem _ _ _ h
      have := (cutsC_size hk1 (List.mem_filter.1 this).1).1
      omega
    clear g1 g2 g3 g4 g5 HF HOK
    go_enter Tryz.func29, Tryz.ntmps29
    go_wp2_with fail
    refine HI.out.mono ?_
    rintro e w2 ⟨rfl, hb⟩
    have HB := Lib.hid hb
    clear hb HI
    go_wp2_with fail
    refine (HC.out w2 (HL.out.below HB.out)).mono ?_
    rintro e w3 ⟨rfl, hb3⟩
    have HB3 := Lib.hid (HB.out.trans (hb3.mono HB.out.size))
    clear hb3 HC
    obtain ⟨o, ho⟩ : ∃ o, cutF l own 12 dirS = o := ⟨_, rfl⟩
    rw [ho] at HF2 HCS ⊢
    clear ho
    cases o with
    | none =>
      have HV : Hid (shortF l at_ = (ByteArray.empty, 11)) := HF2.out
      clear HF2
      go_wp2_with fail
      go_ret2
      exact ⟨by rw [HV.out]; rfl, HB3.out⟩
    | some s =>
      have HV : Hid (shortF l at_ = (dotted s, 0)) := HF2.out
      have hss := HCS.out s rfl
      have a9 : ¬ 9223372036854775807 < s.size + 1 := by omega
      clear HF2
      go_wp2_with fail
      go_ret2
      exact ⟨by rw [HV.out]; rfl, HB3.out⟩
  · have HV : Hid (shortF l at_ = (ByteArray.empty, z)) := by show _ = _; rw [HF.out, if_neg h0]
    have h1 : (z == 0) = false := by simpa using h0
    clear HF HOK
    go_enter Tryz.func29, Tryz.ntmps29
    go_wp2_with fail
    refine HI.out.mono ?_
    rintro e w2 ⟨rfl, hb⟩
    have HB := Lib.hid hb
    clear hb HI
    go_wp2_with fail
    go_ret2
    exact ⟨by rw [HV.out]; rfl, HB.out⟩
set_option maxRecDepth 100000 in
set_option maxHeartbeats 1000000 in
theorem fit_any (A : Option Addr) (c : Nat) (l : List ByteArray) (at_ width : Int) (w : World) (hl : StrsAt w A l) (hs : l.length ≤ 1000000 ∧ ∀ s ∈ l, s.size ≤ 1000000) :
    Calls Tryz.prog 31 #[.slice A l.length c, .int .i64 at_, .int .i64 width] w fun e w' => e = .returned (.tuple #[.string (fitF l at_ width).1, .int .i64 (fitF l at_ width).2]) ∧ Below w.heap.size w w' := by
  have HL := Lib.hid hl
  have HI := Lib.hid (indexed_any A c l at_ w hl hs)
  have HF : Hid (fitF l at_ width = (if (indexF l at_).2 = 0 then
    (if width < 1 then (ByteArray.empty, 1) else if ((indexF l at_).1.size : Int) ≤ width then ((indexF l at_).1, 0)
     else match cutF l (indexF l at_).1 (width - 1) dirF with | some s => (dotted s, 0) | none => (ByteArray.empty, 11))
  else (ByteArray.empty, (indexF l at_).2) : ByteArray × Int)) := rfl
  have HOK := Lib.hid (@indexF_ok l at_)
  clear hl hs
  obtain ⟨p, hp⟩ : ∃ p, indexF l at_ = p := ⟨_, rfl⟩
  rw [hp] at HI HF HOK
  clear hp
  obtain ⟨own, z⟩ := p
  by_cases h0 : z = 0
  · subst h0
    obtain ⟨g1, g2, g3, g4, g5⟩ := HOK.out rfl
    have hk1 := key_pos g5
    have hk2 := key_size g5
    rw [← g4] at hk1 hk2
    have hk1 : 0 < own.size := hk1
    have hk2 : own.size ≤ 12 := hk2
    have HF1 : Hid (fitF l at_ width = (if width < 1 then (ByteArray.empty, 1) else if (own.size : Int) ≤ width then (own, 0)
     else match cutF l own (width - 1) dirF with | some s => (dotted s, 0) | none => (ByteArray.empty, 11) : ByteArray × Int)) := HF.out
    by_cases hw1 : width < 1
    · have HV : Hid (fitF l at_ width = (ByteArray.empty, 1)) := by show _ = _; rw [HF1.out, if_pos hw1]
      clear HF HF1 HOK g1 g2 g3 g4 g5
      go_enter Tryz.func31, Tryz.ntmps31
      go_wp2_with fail
      refine HI.out.mono ?_
      rintro e w2 ⟨rfl, hb⟩
      have HB := Lib.hid hb
      clear hb HI
      go_wp2_with fail
      go_ret2
      exact ⟨by rw [HV.out]; rfl, HB.out⟩
    · by_cases hw2 : (own.size : Int) ≤ width
      · have HV : Hid (fitF l at_ width = (own, 0)) := by show _ = _; rw [HF1.out, if_neg hw1, if_pos hw2]
        clear HF HF1 HOK g1 g2 g3 g4 g5
        go_enter Tryz.func31, Tryz.ntmps31
        go_wp2_with fail
        refine HI.out.mono ?_
        rintro e w2 ⟨rfl, hb⟩
        have HB := Lib.hid hb
        clear hb HI
        go_wp2_with fail
        go_ret2
        exact ⟨by rw [HV.out]; rfl, HB.out⟩
      · have HC := Lib.hid (fun W (hW : StrsAt W A l) => cut_any A c l own (width - 1) 83 (enters_of Tryz.func83 (by kernel_rfl) rfl) dirF strictF (fun W x y h1 h2 h3 h4 => dirF_any x y W (by omega)) W hW (listed_nm g1).2 (by have := (listed_nm g1).1; omega) hk1 (by omega))
        have HF2 : Hid (fitF l at_ width = (match cutF l own (width - 1) dirF with | some s => (dotted s, 0) | none => (ByteArray.empty, 11) : ByteArray × Int)) := by show _ = _; rw [HF1.out, if_neg hw1, if_neg hw2]
        have HCS : Hid (∀ s, cutF l own (width - 1) dirF = some s → s.size ≤ 12) := fun s h => by
          have := firstL_mem _ _ _ h
          have := (cutsC_size hk1 (List.mem_filter.1 this).1).1
          omega
        have a1 : IntKind.i64.wrap (width - 1) = width - 1 := IntWalk.i64_in _ (by omega)
        clear g1 g2 g3 g4 g5 HF HF1 HOK
        go_enter Tryz.func31, Tryz.ntmps31
        go_wp2_with fail
        refine HI.out.mono ?_
        rintro e w2 ⟨rfl, hb⟩
        have HB := Lib.hid hb
        clear hb HI
        go_wp2_with fail
        refine (HC.out w2 (HL.out.below HB.out)).mono ?_
        rintro e w3 ⟨rfl, hb3⟩
        have HB3 := Lib.hid (HB.out.trans (hb3.mono HB.out.size))
        clear hb3 HC
        obtain ⟨o, ho⟩ : ∃ o, cutF l own (width - 1) dirF = o := ⟨_, rfl⟩
        rw [ho] at HF2 HCS ⊢
        clear ho
        cases o with
        | none =>
          have HV : Hid (fitF l at_ width = (ByteArray.empty, 11)) := HF2.out
          clear HF2
          go_wp2_with fail
          go_ret2
          exact ⟨by rw [HV.out]; rfl, HB3.out⟩
        | some s =>
          have HV : Hid (fitF l at_ width = (dotted s, 0)) := HF2.out
          have hss := HCS.out s rfl
          have a9 : ¬ 9223372036854775807 < s.size + 1 := by omega
          clear HF2
          go_wp2_with fail
          go_ret2
          exact ⟨by rw [HV.out]; rfl, HB3.out⟩
  · have HV : Hid (fitF l at_ width = (ByteArray.empty, z)) := by show _ = _; rw [HF.out, if_neg h0]
    have h1 : (z == 0) = false := by simpa using h0
    clear HF HOK
    go_enter Tryz.func31, Tryz.ntmps31
    go_wp2_with fail
    refine HI.out.mono ?_
    rintro e w2 ⟨rfl, hb⟩
    have HB := Lib.hid hb
    clear hb HI
    go_wp2_with fail
    go_ret2
    exact ⟨by rw [HV.out]; rfl, HB.out⟩
end Go.Proofs.YtapikimhmjnjeaaGreatDoor

