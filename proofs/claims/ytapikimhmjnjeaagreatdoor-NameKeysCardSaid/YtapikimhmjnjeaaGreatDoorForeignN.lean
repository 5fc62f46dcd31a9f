/- What package name's foreign says of a key: a contract of the program's own function. Sizes alone are asked. -/
import Derived.Test.YtapikimhmjnjeaaGreatDoorNameLaw
import Derived.Test.YtapikimhmjnjeaaGreatDoorBaseA
import Derived.Test.YtapikimhmjnjeaaGreatDoorBaseB
/- What package name's foreign says of a key: a contract of the program's own function. Sizes alone are asked. -/
set_option linter.unusedVariables false
set_option linter.unusedSimpArgs false
namespace Go.Proofs.YtapikimhmjnjeaaGreatDoor
open Go.RowKit Go.Shelf
attribute [local go_sem] Oper.semAt_some

theorem keyL_ge : ∀ l : L, l.length ≤ (keyL l).length
  | [] => by simp
  | b :: l => by
    have h1 := keyL_ge l
    have h2 := List.length_pos_iff.2 (snd_pos b)
    unfold keyL at h1 ⊢
    rw [List.flatMap_cons, List.length_append, List.length_cons]
    omega
theorem foreign_len {n : Nat} {k o : L} (h : foreignL n k = some o) : o.length ≤ k.length := by
  have := (foreign_key n k o h).1
  rw [← this]
  exact keyL_ge o
theorem caps_len : caps.length = 26 := by simp [caps]
theorem caps_at (j : Nat) (h : j < 26) : caps.drop j = UInt8.ofNat (j + 65) :: caps.drop (j + 1) := by
  rw [List.drop_eq_getElem_cons (by rw [caps_len]; exact h)]
  congr 1
  simp [caps]
/-- What one letter gives. -/
def forStep (n : Nat) (k : L) (c : UInt8) : Option L := if kindB c = 2 ∧ (snd c).isPrefixOf k = true then (foreignL n (k.drop (snd c).length)).map (c :: ·) else none
theorem foreign_succ (n : Nat) (a : UInt8) (k : L) : foreignL (n + 1) (a :: k) = caps.findSome? (forStep n (a :: k)) := rfl

set_option maxRecDepth 100000 in
set_option maxHeartbeats 2000000 in
theorem foreign_any : ∀ (n : Nat) (k : ByteArray) (w : World), k.size ≤ n → n ≤ 1000 →
    Calls Tryz.prog 90 #[.string k] w fun e w' => e = .returned (.tuple #[.string ⟨((foreignL n k.data.toList).getD []).toArray⟩, .bool (foreignL n k.data.toList).isSome]) ∧ Below w.heap.size w w' := by
  intro n
  induction n with
  | zero =>
    intro k w hk _
    have hl := ba_len k
    have hnil : k.data.toList = [] := List.length_eq_zero_iff.1 (by omega)
    have hks : k = ⟨#[]⟩ := ba_ext (by rw [hnil])
    subst hks
    go_enter Tryz.func90, Tryz.ntmps90
    go_wp2_with fail
    go_ret2
    exact ⟨rfl, Below.refl _ _⟩
  | succ n ih =>
    intro k w hk hn
    have IH := Lib.hid (fun k w hk => ih k w hk (by omega))
    clear ih
    cases hkl : k.data.toList with
    | nil =>
      have hks : k = ⟨#[]⟩ := ba_ext (by rw [hkl])
      subst hks
      clear hkl
      go_enter Tryz.func90, Tryz.ntmps90
      go_wp2_with fail
      go_ret2
      exact ⟨rfl, Below.refl _ _⟩
    | cons a kl =>
      have HF : Hid (foreignL (n + 1) (a :: kl) = caps.findSome? (forStep n (a :: kl))) := foreign_succ n a kl
      have HKL := Lib.hid hkl
      have hem : k.toList.isEmpty = false := by rw [ByteArray.toList_eq, hkl]; rfl
      have hem2 : (k.toList == []) = false := by rw [ByteArray.toList_eq, hkl]; rfl
      clear hkl
      obtain ⟨o, ho⟩ : ∃ o, foreignL (n + 1) (a :: kl) = o := ⟨_, rfl⟩
      rw [ho] at HF ⊢
      clear ho
      go_enter Tryz.func90, Tryz.ntmps90
      go_wp2_with fail
      go_loopg [4] 26 (fun gf v wx => ∃ j : Nat, v = .int .i32 ((65 + j : Nat) : Int) ∧ j + gf = 26 ∧ Hid (Below w.heap.size w wx) ∧ Hid (o = (caps.drop j).findSome? (forStep n (a :: kl))))
      case atStart => exact ⟨0, rfl, by omega, Below.refl _ _, by show _ = _; rw [List.drop_zero]; exact HF.out⟩
      case round =>
        obtain ⟨j, rfl, hj, HB, HO⟩ := hrel
        cases gk with
        | zero =>
          have hn2 : ¬ ((65 + j : Nat) : Int) ≤ 90 := by omega
          have HO2 : Hid (o = none) := by show _ = _; rw [HO.out, List.drop_of_length_le (by rw [caps_len]; omega)]; rfl
          go_wp2_with fail
          go_ret2
          exact ⟨by rw [HO2.out]; rfl, HB.out⟩
        | succ g =>
          have hn2 : ((65 + j : Nat) : Int) ≤ 90 := by omega
          obtain ⟨c, hc⟩ : ∃ c : UInt8, UInt8.ofNat (j + 65) = c := ⟨_, rfl⟩
          have hct : c.toNat = 65 + j := by rw [← hc, UInt8.toNat_ofNat']; omega
          have HO2 : Hid (o = match forStep n (a :: kl) c with | some x => some x | none => (caps.drop (j + 1)).findSome? (forStep n (a :: kl))) := by
            show _ = _
            rw [HO.out, caps_at j (by omega), hc, List.findSome?_cons]
            cases forStep n (a :: kl) c <;> rfl
          obtain ⟨p, hp⟩ : ∃ p : ByteArray, (⟨(snd c).toArray⟩ : ByteArray) = p := ⟨_, rfl⟩
          have hpl : p.data.toList = snd c := by rw [← hp]
          have hp1 : 1 ≤ p.size := by rw [← ba_len, hpl]; exact List.length_pos_iff.2 (snd_pos c)
          have hp2 : p.size ≤ 2 := by rw [← ba_len, hpl]; exact snd_len c
          have HSN := Lib.hid (fun W (h : kindB c ≠ 0) => sound_any c W h)
          rw [hct, hp] at HSN
          have HPL := Lib.hid hpl
          have HEN : Hid (Utf8.encode ((65 + j : Nat) : Int) = ⟨#[c]⟩) := by
            exact (encode_lo (65 + j) (by omega)).trans (by rw [← hc, Nat.add_comm 65 j]; try rfl)
          clear hpl hp
          have HKB : Hid (kindB c = kindZ ((65 + j : Nat) : Int)) := by show kindZ (c.toNat : Int) = _; rw [hct]
          have HCT := Lib.hid hct
          clear HO hc hct
          obtain ⟨z, hz⟩ : ∃ z : Int, ((65 + j : Nat) : Int) = z := ⟨_, rfl⟩
          rw [hz] at hn2 HSN HKB HEN ⊢
          have HZ := Lib.hid hz
          have hz0 : 65 ≤ z := by omega
          clear hz
          go_wp2_with fail
          refine (kind_any z wr).mono ?_
          rintro e W ⟨rfl, rfl⟩
          by_cases hk2 : kindZ z = 2
          · have HK2 : Hid (kindB c = 2) := HKB.out.trans hk2
            rw [hk2]
            clear hk2 HKB
            go_wp2_with fail
            refine (HSN.out wr (by rw [HK2.out]; decide)).mono ?_
            rintro e w1 ⟨rfl, hb1⟩
            have HB1 := Lib.hid (HB.out.trans (hb1.mono HB.out.size))
            clear hb1 HB
            go_wp2_with fail
            refine (Tryz.strings_HasPrefix _ _ _).mono ?_
            rintro e w2 ⟨rfl, rfl⟩
            have HFS : Hid (forStep n (a :: kl) c = if Lib.hasPrefix k.data.toList p.data.toList = true then (foreignL n (k.data.toList.drop p.size)).map (c :: ·) else none) := by
              show _ = _
              unfold forStep Lib.hasPrefix
              rw [HKL.out, HPL.out, ← ba_len p, HPL.out]
              by_cases h : (snd c).isPrefixOf (a :: kl) = true
              · rw [if_pos ⟨HK2.out, h⟩, if_pos h]
              · rw [if_neg (fun h2 => h h2.2), if_neg h]
            obtain ⟨q, hq⟩ : ∃ q, Lib.hasPrefix k.data.toList p.data.toList = q := ⟨_, rfl⟩
            have HLE : Hid (q = true → p.size ≤ k.size) := fun h => by
              rw [← hq] at h
              have := (List.isPrefixOf_iff_prefix.1 h).length_le
              rw [ba_len, ba_len] at this
              exact this
            rw [hq] at HFS ⊢
            clear hq
            cases q with
            | false =>
              have HO3 : Hid (o = (caps.drop (j + 1)).findSome? (forStep n (a :: kl))) := by
                show _ = _
                rw [HO2.out, HFS.out, if_neg (by decide)]
              clear HO2 HFS
              go_wp2_with fail
              go_roundg g
              case measure => omega
              case rel => exact ⟨j + 1, by rw [show ((65 + (j + 1) : Nat) : Int) = ((65 + j : Nat) : Int) + 1 by omega, HZ.out], by omega, HB1, HO3.out⟩
            | true =>
              have hle := HLE.out rfl
              have a1 : (0 : Int) ≤ (p.size : Int) := by omega
              have a2 : (p.size : Int) ≤ (k.size : Int) := by omega
              have a3 : (p.size : Int).toNat = p.size := by omega
              go_wp2_with fail
              refine (HSN.out w2 (by rw [HK2.out]; decide)).mono ?_
              rintro e w3 ⟨rfl, hb3⟩
              have HB3 := Lib.hid (HB1.out.trans (hb3.mono HB1.out.size))
              clear hb3 HB1
              go_wp2_with fail
              have HIH := Lib.hid (IH.out (k.extract p.size k.size) w3 (by rw [ByteArray.size_extract]; omega))
              rw [ba_from] at HIH
              refine HIH.out.mono ?_
              rintro e w4 ⟨rfl, hb4⟩
              have HB4 := Lib.hid (HB3.out.trans (hb4.mono HB3.out.size))
              have HLEN : Hid (∀ x, foreignL n (k.data.toList.drop p.size) = some x → x.length ≤ 1001) := fun x hx => by
                have h1 := foreign_len hx
                rw [List.length_drop, ba_len] at h1
                omega
              clear hb4 HB3 HIH
              obtain ⟨r, hr⟩ : ∃ r, foreignL n (k.data.toList.drop p.size) = r := ⟨_, rfl⟩
              rw [hr] at HFS HLEN ⊢
              clear hr
              cases r with
              | none =>
                have HO3 : Hid (o = (caps.drop (j + 1)).findSome? (forStep n (a :: kl))) := by
                  show _ = _
                  rw [HO2.out, HFS.out, if_pos trivial]
                  rfl
                clear HO2 HFS HLEN
                go_wp2_with fail
                go_roundg g
                case measure => omega
                case rel => exact ⟨j + 1, by rw [show ((65 + (j + 1) : Nat) : Int) = ((65 + j : Nat) : Int) + 1 by omega, HZ.out], by omega, HB4, HO3.out⟩
              | some x =>
                have HO3 : Hid (o = some (c :: x)) := by
                  show _ = _
                  rw [HO2.out, HFS.out, if_pos trivial]
                  rfl
                have hxl := HLEN.out x rfl
                obtain ⟨s, hs⟩ : ∃ s : ByteArray, (⟨((some x : Option L).getD []).toArray⟩ : ByteArray) = s := ⟨_, rfl⟩
                have hss : s.size ≤ 1001 := by rw [← hs]; exact hxl
                have HS := Lib.hid hs
                obtain ⟨t, ht⟩ : ∃ t : ByteArray, Utf8.encode z = t := ⟨_, rfl⟩
                have HTT : Hid (t = ⟨#[c]⟩) := ht.symm.trans HEN.out
                have hts : t.size = 1 := by rw [HTT.out]; rfl
                have a9 : ¬ 9223372036854775807 < t.size + s.size := by omega
                rw [hs]
                clear HO2 HFS HLEN hs hts
                go_wp2_with fail
                go_ret2
                refine ⟨?_, HB4.out⟩
                rw [HO3.out, HTT.out, ← HS.out]
                show Ending.returned (.tuple #[.string ((⟨#[c]⟩ : ByteArray) ++ ⟨x.toArray⟩), .bool true]) = Ending.returned (.tuple #[.string ⟨(c :: x).toArray⟩, .bool true])
                rw [show (⟨#[c]⟩ : ByteArray) = ⟨[c].toArray⟩ from rfl, bapp]
                rfl
          · have HO3 : Hid (o = (caps.drop (j + 1)).findSome? (forStep n (a :: kl))) := by
              show _ = _
              rw [HO2.out]
              unfold forStep
              rw [if_neg (fun h => hk2 (HKB.out.symm.trans h.1))]
            obtain ⟨q, hq⟩ : ∃ q, kindZ z = q := ⟨_, rfl⟩
            rw [hq] at hk2 ⊢
            clear hq HKB HO2
            have hk3 : (q == 2) = false := by simpa using hk2
            go_wp2_with fail
            go_roundg g
            case measure => omega
            case rel => exact ⟨j + 1, by rw [show ((65 + (j + 1) : Nat) : Int) = ((65 + j : Nat) : Int) + 1 by omega, HZ.out], by omega, HB, HO3.out⟩
end Go.Proofs.YtapikimhmjnjeaaGreatDoor

