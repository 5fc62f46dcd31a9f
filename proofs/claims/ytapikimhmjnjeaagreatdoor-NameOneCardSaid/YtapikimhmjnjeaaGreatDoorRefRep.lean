/- What the reference's replaced yields: a contract of the verifier's own function. Sizes alone are asked. -/
import Derived.Test.YtapikimhmjnjeaaGreatDoorBaseB
import Derived.Lib.QuietBelow
import Derived.Deep.QuietTactic
import Derived.BigQuiet
import Derived.Deep.LoopGhost
set_option linter.unusedVariables false
set_option linter.unusedSimpArgs false
namespace Go.Proofs.YtapikimhmjnjeaaGreatDoor
open Go.RowKit Go.Shelf
attribute [local go_sem] Oper.semAt_some

/-- What a replacement at one place yields. -/
def refAt (s a b : ByteArray) (i : Nat) : List ByteArray :=
  if (s.extract i (i + a.size)).toList = a.toList then (if 1 ≤ (replT s a b i).size ∧ (replT s a b i).size ≤ 12 then [replT s a b i] else []) else []
def refN (s a b : ByteArray) : Nat → Nat → List ByteArray
  | 0, _ => []
  | n + 1, i => refAt s a b i ++ refN s a b n (i + 1)
/-- All strings in which one piece is replaced by another one, as the reference has it. -/
def refL (s a b : ByteArray) : List ByteArray := refN s a b (s.size + 1 - a.size) 0

theorem own_keep {w w1 : World} {base : Nat} {e : TypeId} {size n : Nat} {v : Value} {xs : List Value} (h : w.ownsRow base e size v n xs) (hb : Below w.heap.size w w1) : w1.ownsRow base e size v n xs := by
  rcases h with ⟨h0, h1 | ⟨g, cap, cur, h2, h3, h4, h5⟩⟩
  · exact ⟨h0, .inl h1⟩
  · exact ⟨h0, .inr ⟨g, cap, cur, h2, h3, (hb.block g (Array.getElem?_eq_some_iff.1 h4).1).trans h4, h5⟩⟩

set_option maxRecDepth 100000 in
set_option maxHeartbeats 2000000 in
theorem refRep_any (s a b : ByteArray) (w : World) (hs : s.size ≤ 1000) (ha : a.size ≤ 1000) (hbs : b.size ≤ 1000) :
    Calls Tryz.prog 89 #[.string s, .string a, .string b] w fun e w' => ∃ v, e = .returned v ∧ RowIs w.heap.size w' (refL s a b) v ∧ Below w.heap.size w w' := by
  have hinfo : (Tryz.prog.info? 9).map (fun i => (i.zero, i.size, i.bytes)) = some (some (.string ⟨#[]⟩), 1, 16) := by kernel_rfl
  obtain ⟨i0, hi, hz0, hz1, hz2⟩ : ∃ i0, Tryz.prog.info? 9 = some i0 ∧ i0.zero = some (.string ⟨#[]⟩) ∧ i0.size = 1 ∧ i0.bytes = 16 := by
    cases h : Tryz.prog.info? 9 with
    | none => rw [h] at hinfo; cases hinfo
    | some i0 => rw [h] at hinfo; simp at hinfo; exact ⟨i0, rfl, hinfo.1, hinfo.2.1, hinfo.2.2⟩
  have HI := Lib.hid (And.intro hi (And.intro hz0 (And.intro hz1 hz2)))
  clear hinfo hi hz0 hz1 hz2
  obtain ⟨R, hR⟩ : ∃ R, s.size + 1 - a.size = R := ⟨_, rfl⟩
  have HR := Lib.hid hR
  have hR1 : R ≤ s.size + 1 := by omega
  have hR2 : s.size + 1 ≤ R + a.size := by omega
  have hR3 : R = 0 ∨ R + a.size ≤ s.size + 1 := by omega
  have HR3 := Lib.hid hR3
  clear hR hR3
  go_enter Tryz.func89, Tryz.ntmps89
  go_wp2_with fail
  go_loopg [7, 8] R (fun gf v7 v8 wx => ∃ (i : Nat) (acc : List ByteArray), v8 = .int .i64 (i : Int) ∧ i + gf = R ∧ acc.length ≤ i ∧ Hid (Below w.heap.size w wx) ∧
    Hid (wx.ownsRow w.heap.size 9 1 v7 acc.length (acc.map Value.string)) ∧ Hid (acc = [] → v7 = .slice none 0 0) ∧ Hid (refL s a b = acc ++ refN s a b gf i))
  case atStart => exact ⟨0, [], rfl, by omega, by simp, Below.refl _ _, ⟨by simp, .inl ⟨rfl, rfl⟩⟩, fun _ => rfl, by show _ = _; unfold refL; rw [HR.out]; rfl⟩
  case round =>
    obtain ⟨i, acc, rfl, hig, hacc, HB, HO, HN, HL⟩ := hrel
    have a1 : IntKind.i64.wrap ((i : Int) + (a.size : Int)) = (i : Int) + (a.size : Int) := IntWalk.i64_in _ (by omega)
    cases gk with
    | zero =>
      have hn : ¬ (i : Int) + (a.size : Int) ≤ (s.size : Int) := by omega
      have HV : Hid (refL s a b = acc) := by show _ = _; rw [HL.out]; simp [refN]
      clear HL
      go_wp2_with fail
      go_ret
      refine ⟨_, rfl, ?_, HB.out⟩
      rw [HV.out]
      exact ⟨HO.out, HN.out⟩
    | succ g =>
      have hR4 := HR3.out
      have hn : (i : Int) + (a.size : Int) ≤ (s.size : Int) := by omega
      have a2 : (0 : Int) ≤ (i : Int) := by omega
      have a3 : (i : Int).toNat = i := by omega
      have a5 : (0 : Int) ≤ (i : Int) + (a.size : Int) := by omega
      have a6 : (i : Int) ≤ (i : Int) + (a.size : Int) := by omega
      have a7 : ((i : Int) + (a.size : Int)).toNat = i + a.size := by omega
      have a8 : (i : Int) ≤ (s.size : Int) := by omega
      clear hR4
      by_cases hp : (s.extract i (i + a.size)).toList = a.toList
      · have hpb : ((s.extract i (i + a.size)).toList != a.toList) = false := by simpa using hp
        have hpc : ((s.extract i (i + a.size)).toList == a.toList) = true := by simpa using hp
        have HT : Hid (refN s a b (g + 1) i = (if 1 ≤ (replT s a b i).size ∧ (replT s a b i).size ≤ 12 then [replT s a b i] else []) ++ refN s a b g (i + 1)) := by
          show _ = _
          rw [refN, refAt, if_pos hp]
        clear hp
        have b1 : ¬ 9223372036854775807 < min i s.size + b.size := by omega
        have b2 : ¬ 9223372036854775807 < min i s.size + b.size + (s.size - (i + a.size)) := by omega
        go_wp2_with fail
        refine wp_region_quiet_below (by kernel_rfl) (by kernel_rfl) ?_
        repeat (go_big_quiet_step (fail))
        refine wpQuiet_nil ?_
        intro _ hw'
        obtain ⟨⟨dq, osq⟩, hw''⟩ := hw'
        subst hw''
        have hBq := below_regrown wr dq osq
        generalize Go.Sort.grow (redrawn wr dq) osq = w1 at hBq ⊢
        have HB1 := Lib.hid (HB.out.trans (hBq.mono HB.out.size))
        have HO1 := Lib.hid (own_keep HO.out hBq)
        clear hBq HO HB
        have ht : (s.extract 0 i ++ b ++ s.extract (i + a.size) s.size) = replT s a b i := rfl
        obtain ⟨t, htt⟩ : ∃ t, replT s a b i = t := ⟨_, rfl⟩
        rw [htt] at ht HT
        simp only [ht]
        clear ht htt
        by_cases hz : 1 ≤ t.size ∧ t.size ≤ 12
        · have HT2 : Hid (refL s a b = (acc ++ [t]) ++ refN s a b g (i + 1)) := by
            show _ = _
            rw [HL.out, HT.out, if_pos hz]
            simp
          have z1 : 1 ≤ (t.size : Int) := by omega
          have z2 : (t.size : Int) ≤ 12 := by omega
          clear HT HL hz b1 b2
          go_wp2_with (at_builtin; refine wpList_append_own _ rfl _ _ 22 rfl w.heap.size 9 i0 (.string ⟨#[]⟩) 1 16 Tryz.underlying22 HI.out.1 HI.out.2.1 HI.out.2.2.1 HI.out.2.2.2 rfl (by decide) _ _ _ rfl (HO1.out.alloc _) ⟨w1.heap.size, 0, none⟩ 1 1 [.string t] rfl rfl (cell_one_new _ _ _) (by simp [Value.oneCell']) (by unfold maxLen; omega) (by omega) (by have := HB1.out.size; simp; omega) ?_
                       intro v2 w2 hown2 hg2 hnil2
                       have HB2 : Hid (Below w.heap.size w w2) := by
                         have hB3 : Below w.heap.size w1 w2 := Below.grown ((Below.refl _ w1).alloc HB1.out.size _) hg2 (by have := HB1.out.size; simp; omega) (own_ge HO1.out)
                         exact HB1.out.trans hB3
                       have HO2 := Lib.hid hown2
                       clear hown2 hg2 hnil2)
          go_roundg g
          case measure => omega
          case rel =>
            refine ⟨i + 1, acc ++ [t], by go_num, by omega, by simp; omega, HB2, ?_, fun h => absurd h (by simp), HT2.out⟩
            have := HO2.out
            show World.ownsRow _ _ _ _ _ _ _
            rw [List.map_append, List.length_append]
            exact this
        · have HT2 : Hid (refL s a b = acc ++ refN s a b g (i + 1)) := by
            show _ = _
            rw [HL.out, HT.out, if_neg hz]
            rfl
          clear HT HL b1 b2
          by_cases z1 : 1 ≤ (t.size : Int)
          · have z2 : ¬ (t.size : Int) ≤ 12 := by omega
            clear hz
            go_wp2_with fail
            go_roundg g
            case measure => omega
            case rel => exact ⟨i + 1, acc, by go_num, by omega, by omega, HB1, HO1, HN, HT2.out⟩
          · clear hz
            go_wp2_with fail
            go_roundg g
            case measure => omega
            case rel => exact ⟨i + 1, acc, by go_num, by omega, by omega, HB1, HO1, HN, HT2.out⟩
      · have hpb : ((s.extract i (i + a.size)).toList != a.toList) = true := by simpa using hp
        have hpc : ((s.extract i (i + a.size)).toList == a.toList) = false := by simpa using hp
        have HT : Hid (refL s a b = acc ++ refN s a b g (i + 1)) := by
          show _ = _
          rw [HL.out, refN, refAt, if_neg hp]; rfl
        clear hp HL
        go_wp2_with fail
        go_roundg g
        case measure => omega
        case rel => exact ⟨i + 1, acc, by go_num, by omega, by omega, HB, HO, HN, HT.out⟩
end Go.Proofs.YtapikimhmjnjeaaGreatDoor
