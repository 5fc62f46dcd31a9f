/- Contracts and plain laws of the program's own functions: Plain, Kind, Check, Sound, Letters, Cmp, Sorted. -/
import Derived.Lib.TrimU
import Derived.Lib.OthersKept
import Derived.Test.YtapikimhmjnjeaaGreatDoorProg
import Derived.Test.YtapikimhmjnjeaaGreatDoorShelf
import Derived.WalkKit
import Derived.WalkSpells
import Derived.WalkLawsBesides
import Derived.Lib.Hide
import Derived.Deep.LoopGhost
import Derived.Laws.Runes
import Derived.LoopN
import Derived.StillTailTactics
/- Contracts and plain laws of the program's own functions: Plain, Kind, Check, Sound, Letters, Cmp, Sorted. -/
set_option linter.unusedVariables false
set_option linter.unusedSimpArgs false
/- Plain lemmas on letters, names and keys, and on the decoding of a rune: no program in sight. No conditions. -/
namespace Go.Proofs.YtapikimhmjnjeaaGreatDoor
open Go.RowKit

abbrev L := List UInt8

/-- 1: a Latin letter; 2: a letter of the other alphabet; 0: neither. -/
def kindZ (c : Int) : Int := if 97 ≤ c ∧ c ≤ 122 then 1 else if 65 ≤ c ∧ c ≤ 90 ∧ c ≠ 72 ∧ c ≠ 81 ∧ c ≠ 87 then 2 else 0
def kindB (b : UInt8) : Int := kindZ (b.toNat : Int)

/-- What a letter of a name stands for. -/
def snd (b : UInt8) : L :=
  if b = 67 then [99, 104] else if b = 74 then [106, 117] else if b = 89 then [106, 97] else if b = 88 then [115, 104]
  else if 65 ≤ b.toNat ∧ b.toNat ≤ 90 then [b + 32] else [b]

/-- The error of a name. -/
def chk (l : L) : Int :=
  if l.length = 0 then 7 else if 6 < l.length then 10
  else if (∀ b ∈ l, kindB b = 1) ∨ (∀ b ∈ l, kindB b = 2) then 0 else 2

/-- The key of a valid name. -/
def keyL (l : L) : L := l.flatMap snd

theorem kindZ_lat {c : Int} (h1 : 97 ≤ c) (h2 : c ≤ 122) : kindZ c = 1 := by unfold kindZ; rw [if_pos ⟨h1, h2⟩]
theorem kindZ_range (c : Int) : kindZ c = 0 ∨ kindZ c = 1 ∨ kindZ c = 2 := by unfold kindZ; split; · simp
                                                                              split <;> simp
theorem kindZ_hi {c : Int} (h : 123 ≤ c) : kindZ c = 0 := by unfold kindZ; rw [if_neg (by omega), if_neg (by omega)]

theorem get_bang (s : ByteArray) (i : Nat) (h : i < s.size) : s.get! i = s.data.toList[i]'(by simpa using h) := by
  obtain ⟨a⟩ := s
  have h' : i < a.size := h
  show a[i]! = a.toList[i]
  rw [getElem!_pos a i h']
  simp

theorem bapp (o q : L) : (⟨o.toArray⟩ : ByteArray) ++ ⟨q.toArray⟩ = ⟨(o ++ q).toArray⟩ := by
  apply ByteArray.ext
  simp [ByteArray.data_append]

theorem bself (s : ByteArray) : (⟨s.data.toList.toArray⟩ : ByteArray) = s := by apply ByteArray.ext; simp

theorem decode_lo (s : ByteArray) (i : Nat) (h : (s.get! i).toNat < 128) : Utf8.decode s i = ((s.get! i).toNat, 1) := by
  unfold Utf8.decode
  simp only [Nat.add_zero]
  rw [if_pos h]

theorem decode_hi (s : ByteArray) (i : Nat) (h : ¬ (s.get! i).toNat < 128) : 128 ≤ (Utf8.decode s i).1 := by
  unfold Utf8.decode
  simp only [Nat.add_zero]
  rw [if_neg h]
  split
  · split
    · assumption
    · decide
  · split
    · split
      · rename_i h1; simp only [Bool.and_eq_true, decide_eq_true_eq] at h1; exact Nat.le_trans (by decide) h1.1
      · decide
    · split
      · split
        · rename_i h1; simp only [Bool.and_eq_true, decide_eq_true_eq] at h1; exact Nat.le_trans (by decide) h1.1
        · decide
      · decide

/-- What holds at the head of Check's loop: pos bytes are letters of kind f. -/
structure ChkRel (l : L) (pos : Nat) (f : Int) : Prop where
  le : pos ≤ l.length
  zero : pos = 0 → f = 0
  all : ∀ b ∈ l.take pos, kindB b = f
  pos : 0 < pos → f ≠ 0

theorem ChkRel.start (l : L) : ChkRel l 0 0 := ⟨by omega, fun _ => rfl, by simp, by omega⟩

theorem ChkRel.step {l : L} {pos : Nat} {f k : Int} (h : ChkRel l pos f) (hlt : pos < l.length) (hk : kindB l[pos] = k) (h0 : k ≠ 0) (hf : f = 0 ∨ f = k) : ChkRel l (pos + 1) k := by
  refine ⟨by omega, by omega, fun b hb => ?_, fun _ => h0⟩
  rw [List.take_succ_eq_append_getElem hlt, List.mem_append, List.mem_singleton] at hb
  rcases hb with hb | rfl
  · rcases hf with hf | hf
    · have : pos = 0 := Nat.eq_zero_of_not_pos (fun hp => h.pos hp hf)
      subst this
      simp at hb
    · rw [h.all b hb, hf]
  · exact hk

theorem ChkRel.done {l : L} {f : Int} (h : ChkRel l l.length f) (h0 : l.length ≠ 0) (h6 : ¬ 6 < l.length) : chk l = 0 := by
  unfold chk
  rw [if_neg h0, if_neg h6, if_pos]
  have ha := h.all
  rw [List.take_length] at ha
  have hp := h.pos (by omega)
  obtain ⟨b, hb⟩ : ∃ b, b ∈ l := by
    cases l with
    | nil => simp at h0
    | cons b l => exact ⟨b, by simp⟩
  have := ha b hb
  rcases kindZ_range (b.toNat : Int) with hr | hr | hr
  · exact absurd (this.symm.trans hr) hp
  · exact .inl fun c hc => (ha c hc).trans (this.symm.trans hr)
  · exact .inr fun c hc => (ha c hc).trans (this.symm.trans hr)

theorem ChkRel.fail {l : L} {pos : Nat} {f : Int} (h : ChkRel l pos f) (hlt : pos < l.length) (h6 : ¬ 6 < l.length) (hk : kindB l[pos] = 0 ∨ (f ≠ 0 ∧ kindB l[pos] ≠ f)) : chk l = 2 := by
  unfold chk
  rw [if_neg (by omega), if_neg h6, if_neg]
  have hm : l[pos] ∈ l := List.getElem_mem hlt
  have main : ∀ z : Int, z ≠ 0 → ¬ ∀ b ∈ l, kindB b = z := by
    intro z hz ha
    rcases hk with hk | ⟨hf, hk⟩
    · exact hz ((ha _ hm).symm.trans hk)
    · have hp : 0 < pos := Nat.pos_of_ne_zero (fun e => hf (h.zero e))
      have h0 : l[0] ∈ l.take pos := by
        rw [List.mem_take_iff_getElem]
        exact ⟨0, by omega, rfl⟩
      have e1 := h.all _ h0
      have e2 := ha _ (List.getElem_mem (show 0 < l.length by omega))
      exact hk ((ha _ hm).trans (e2.symm.trans e1))
  rintro (ha | ha)
  · exact main 1 (by decide) ha
  · exact main 2 (by decide) ha

end Go.Proofs.YtapikimhmjnjeaaGreatDoor

/- What package name's function kind says of a letter, and what letters says of a string: contracts of the program's own functions. No conditions. -/
namespace Go.Proofs.YtapikimhmjnjeaaGreatDoor
open Go.RowKit

theorem hqw_index (r : Nat) (h : r < 128) : decide (0 ≤ Lib.indexByte [72, 81, 87] (r.toUInt8)) = (r == 72 || r == 81 || r == 87) := by
  revert h
  revert r
  decide +kernel

set_option maxHeartbeats 400000 in
theorem kind_any (c : Int) (w : World) :
    Calls Tryz.prog 92 #[.int .i32 c] w fun e w' => e = .returned (.int .i64 (kindZ c)) ∧ w = w' := by
  by_cases h1 : 97 ≤ c
  · by_cases h2 : c ≤ 122
    · go_enter Tryz.func92, Tryz.ntmps92
      go_wp2_with fail
      go_ret
      exact ⟨by rw [kindZ_lat h1 h2]; rfl, rfl⟩
    · go_enter Tryz.func92, Tryz.ntmps92
      go_wp2_with fail
      go_ret
      exact ⟨by rw [show kindZ c = 0 by unfold kindZ; rw [if_neg (by omega), if_neg (by omega)]]; rfl, rfl⟩
  · by_cases h3 : 65 ≤ c
    · by_cases h4 : c ≤ 90
      · obtain ⟨n, rfl⟩ := Int.eq_ofNat_of_zero_le (show 0 ≤ c by omega)
        have hx := hqw_index n (by omega)
        have HC := Lib.hid (Tryz.strings_ContainsRune_ascii ⟨#[72, 81, 87]⟩ (n : Int) w (by omega) (by omega))
        simp only [Int.toNat_natCast] at HC
        have HX := Lib.hid hx
        clear hx
        by_cases hq : n = 72 ∨ n = 81 ∨ n = 87
        · have hb : (n == 72 || n == 81 || n == 87) = true := by simpa [or_assoc] using hq
          have HB := Lib.hid hb
          clear hb
          go_enter Tryz.func92, Tryz.ntmps92
          go_wp2_with fail
          refine HC.out.mono ?_
          rintro e w' ⟨rfl, rfl⟩
          rw [HX.out, HB.out]
          go_wp2_with fail
          go_ret
          exact ⟨by rw [show kindZ (n : Int) = 0 by unfold kindZ; rw [if_neg (by omega), if_neg (by omega)]]; rfl, rfl⟩
        · have hb : (n == 72 || n == 81 || n == 87) = false := by simp [or_assoc] at hq ⊢; omega
          have HB := Lib.hid hb
          clear hb
          go_enter Tryz.func92, Tryz.ntmps92
          go_wp2_with fail
          refine HC.out.mono ?_
          rintro e w' ⟨rfl, rfl⟩
          rw [HX.out, HB.out]
          go_wp2_with fail
          go_ret
          exact ⟨by rw [show kindZ (n : Int) = 2 by unfold kindZ; rw [if_neg (by omega), if_pos (by omega)]]; rfl, rfl⟩
      · go_enter Tryz.func92, Tryz.ntmps92
        go_wp2_with fail
        go_ret
        exact ⟨by rw [show kindZ c = 0 by unfold kindZ; rw [if_neg (by omega), if_neg (by omega)]]; rfl, rfl⟩
    · go_enter Tryz.func92, Tryz.ntmps92
      go_wp2_with fail
      go_ret
      exact ⟨by rw [show kindZ c = 0 by unfold kindZ; rw [if_neg (by omega), if_neg (by omega)]]; rfl, rfl⟩

/-- The closure of letters: is a rune no Latin letter? -/
theorem letters1_any (c : Int) (w : World) :
    Calls Tryz.prog 145 #[.int .i32 c] w fun e w' => e = .returned (.bool (kindZ c != 1)) ∧ w = w' := by
  go_enter Tryz.func145, Tryz.ntmps145
  go_wp2_with fail
  refine (kind_any _ _).mono ?_
  rintro e w' ⟨rfl, rfl⟩
  go_wp2_with fail
  go_ret
  exact ⟨rfl, rfl⟩

theorem letters1_pred (w : World) : PredAt Tryz.prog 145 #[] encR (fun r => kindZ (r : Int) != 1) w := fun W r _ =>
  (letters1_any (r : Int) W).mono (by rintro e w' ⟨rfl, rfl⟩; exact ⟨rfl, 0, rfl⟩)

end Go.Proofs.YtapikimhmjnjeaaGreatDoor

/- What package name's Check says of a string: the first error of a name: a contract of the program's own function. Condition: none but the size that every string has. -/
namespace Go.Proofs.YtapikimhmjnjeaaGreatDoor
open Go.RowKit

set_option maxHeartbeats 1000000 in
theorem check_any (s : ByteArray) (w : World) (hs : s.size ≤ 140737488351232) :
    Calls Tryz.prog 44 #[.string s] w fun e w' => e = .returned (.int .i64 (chk s.data.toList)) ∧ Below w.heap.size w w' := by
  have hlen : s.data.toList.length = s.size := by simp
  by_cases h0 : s.size = 0
  · have HX := Lib.hid (show chk s.data.toList = 7 by unfold chk; rw [if_pos (by omega)])
    have hz : ((s.size : Int) == 0) = true := by simpa using h0
    clear hlen h0
    go_enter Tryz.func44, Tryz.ntmps44
    go_wp2_with fail
    go_ret
    exact ⟨by rw [HX.out]; rfl, Below.refl _ _⟩
  · have hz : ((s.size : Int) == 0) = false := by simpa using h0
    by_cases h6 : 6 < s.size
    · have HX := Lib.hid (show chk s.data.toList = 10 by unfold chk; rw [if_neg (by omega), if_pos (by omega)])
      clear hlen h0
      go_enter Tryz.func44, Tryz.ntmps44
      go_wp2_with fail
      go_ret
      exact ⟨by rw [HX.out]; rfl, Below.refl _ _⟩
    · have HL := Lib.hid hlen
      have H0 := Lib.hid h0
      clear hlen h0
      go_enter Tryz.func44, Tryz.ntmps44
      go_wp2_with fail
      go_loopg [3] s.size (fun gf v wx => ∃ (pos : Nat) (f : Int), v = .int .i64 f ∧ wx.heap[w.heap.size]? = some (.stringIter s pos) ∧ Below w.heap.size w wx ∧ Hid (ChkRel s.data.toList pos f) ∧ s.size ≤ pos + gf)
      case atStart => exact ⟨0, 0, rfl, World.iter_heap w s 0, (Below.refl _ w).alloc (Nat.le_refl _) _, ChkRel.start _, by omega⟩
      case round =>
        obtain ⟨pos, f, rfl, hit, hbw, HR, hfu⟩ := hrel
        by_cases hps : pos < s.size
        · obtain ⟨g', rfl⟩ : ∃ g', gk = g' + 1 := ⟨gk - 1, by omega⟩
          have hnx : ∀ ty, (Instr.next (.pointer (some ⟨w.heap.size, 0, none⟩)) true ty).run Tryz.prog wr = _ := fun ty => Lib.run_next_any_at wr w.heap.size s pos ty hit hps
          have hwd := Lib.width_pos s pos
          have HG : Hid (s.get! pos = s.data.toList[pos]'(by simpa using hps)) := get_bang s pos hps
          obtain ⟨R, hR⟩ : ∃ R, (Utf8.decode s pos).1 = R := ⟨_, rfl⟩
          obtain ⟨K, hK⟩ : ∃ K, (Utf8.decode s pos).2 = K := ⟨_, rfl⟩
          rw [hR, hK] at hnx
          have hit2 := Lib.iterAt_heap wr w.heap.size s pos (pos + K) hit
          have hbw2 := Lib.below_iterAt hbw (k := w.heap.size) (Nat.le_refl _) s (pos + K)
          obtain ⟨W, hWd⟩ : ∃ W, wr.iterAt w.heap.size s (pos + K) = W := ⟨_, rfl⟩
          rw [hWd] at hnx hit2 hbw2
          obtain ⟨kz, hkz⟩ : ∃ kz, kindZ (R : Int) = kz := ⟨_, rfl⟩
          have HB : Hid ((kz = 0 ∨ (f ≠ 0 ∧ kz ≠ f)) → chk s.data.toList = 2) := fun hb => by
            refine HR.out.fail (by rw [HL.out]; exact hps) (by rw [HL.out]; omega) ?_
            by_cases hlo : (s.get! pos).toNat < 128
            · rw [decode_lo s pos hlo] at hR
              simp only at hR
              have : kindB (s.data.toList[pos]'(by simpa using hps)) = kz := by unfold kindB; rw [← HG.out, hR, hkz]
              rw [this]; exact hb
            · left; unfold kindB; rw [← HG.out]; exact kindZ_hi (by omega)
          have HN : Hid (kz ≠ 0 → (f = 0 ∨ f = kz) → K = 1 ∧ ChkRel s.data.toList (pos + 1) kz) := fun hk hf => by
            by_cases hlo : (s.get! pos).toNat < 128
            · rw [decode_lo s pos hlo] at hR hK
              simp only at hR hK
              refine ⟨hK.symm, HR.out.step (by rw [HL.out]; exact hps) ?_ hk hf⟩
              unfold kindB; rw [← HG.out, hR, hkz]
            · have := decode_hi s pos hlo
              rw [hR] at this
              exact absurd (kindZ_hi (c := (R : Int)) (by omega)) (by rw [hkz]; exact hk)
          have HC := Lib.hid (kind_any (R : Int) W)
          rw [hkz] at HC
          clear hR hK hkz hWd hwd
          by_cases hf0 : f = 0
          · have f0 : (f == 0) = true := by simpa using hf0
            by_cases hk0 : kz = 0
            · have k0 : (kz == 0) = true := by simpa using hk0
              have HB' := Lib.hid (HB.out (.inl hk0))
              clear hf0 hk0 HB HN
              go_wp2_with (go_at_call 92; refine HC.out.mono ?_; rintro e w' ⟨rfl, rfl⟩)
              go_ret
              exact ⟨by rw [HB'.out]; rfl, hbw2⟩
            · have k0 : (kz == 0) = false := by simpa using hk0
              have kk : (kz != kz) = false := by simp
              have HN' := Lib.hid (HN.out hk0 (.inl hf0))
              clear hf0 hk0 HB HN
              go_wp2_with (go_at_call 92; refine HC.out.mono ?_; rintro e w' ⟨rfl, rfl⟩)
              go_roundg g'
              case measure => omega
              case rel => exact ⟨pos + 1, kz, rfl, by rw [← HN'.out.1]; exact hit2, hbw2, HN'.out.2, by omega⟩
          · have f0 : (f == 0) = false := by simpa using hf0
            by_cases hk0 : kz = 0
            · have k0 : (kz == 0) = true := by simpa using hk0
              have HB' := Lib.hid (HB.out (.inl hk0))
              clear hf0 hk0 HB HN
              go_wp2_with (go_at_call 92; refine HC.out.mono ?_; rintro e w' ⟨rfl, rfl⟩)
              go_ret
              exact ⟨by rw [HB'.out]; rfl, hbw2⟩
            · have k0 : (kz == 0) = false := by simpa using hk0
              by_cases hkf : kz = f
              · have kk : (kz != f) = false := by simpa using hkf
                have HN' := Lib.hid (HN.out hk0 (.inr hkf.symm))
                have HE := Lib.hid hkf
                clear hf0 hk0 HB HN hkf
                go_wp2_with (go_at_call 92; refine HC.out.mono ?_; rintro e w' ⟨rfl, rfl⟩)
                go_roundg g'
                case measure => omega
                case rel => exact ⟨pos + 1, f, rfl, by rw [← HN'.out.1]; exact hit2, hbw2, by rw [← HE.out]; exact HN'.out.2, by omega⟩
              · have kk : (kz != f) = true := by simpa using hkf
                have HB' := Lib.hid (HB.out (.inr ⟨hf0, hkf⟩))
                clear hf0 hk0 HB HN hkf
                go_wp2_with (go_at_call 92; refine HC.out.mono ?_; rintro e w' ⟨rfl, rfl⟩)
                go_ret
                exact ⟨by rw [HB'.out]; rfl, hbw2⟩
        · have hnx : ∀ ty, (Instr.next (.pointer (some ⟨w.heap.size, 0, none⟩)) true ty).run Tryz.prog wr = _ := fun ty => Lib.run_next_end_at wr w.heap.size s pos ty hit hps
          have HX : Hid (chk s.data.toList = 0) := by
            have e : pos = s.data.toList.length := Nat.le_antisymm HR.out.le (by rw [HL.out]; omega)
            subst e
            exact HR.out.done (by rw [HL.out]; exact H0.out) (by rw [HL.out]; omega)
          go_wp2_with fail
          go_ret
          exact ⟨by rw [HX.out]; rfl, hbw⟩

end Go.Proofs.YtapikimhmjnjeaaGreatDoor

/- What package name's sound says of a letter, and what of says of a valid name: contracts of the program's own functions. Condition: letters of one of the two alphabets. -/
namespace Go.Proofs.YtapikimhmjnjeaaGreatDoor
open Go.RowKit

theorem encode_lo : ∀ n : Nat, n < 128 → Utf8.encode (n : Int) = ⟨#[n.toUInt8]⟩ := by decide +kernel

theorem ne_num {b : UInt8} {n : Nat} (hn : n < 256) (h : b ≠ n.toUInt8) : ((b.toNat : Int) == (n : Int)) = false := by
  rw [beq_eq_false_iff_ne]
  intro e
  refine h ?_
  have : b.toNat = n := by omega
  rw [← this]
  exact UInt8.toNat_inj.1 (by simp [UInt8.toNat_ofNat'])

set_option maxHeartbeats 1000000 in
theorem sound_low (b : UInt8) (w : World) (h1 : 65 ≤ b.toNat) (h2 : b.toNat < 128) (h67 : b ≠ 67) (h74 : b ≠ 74) (h89 : b ≠ 89) (h88 : b ≠ 88) :
    Calls Tryz.prog 122 #[.int .i32 (b.toNat : Int)] w fun e w' => e = .returned (.string ⟨(snd b).toArray⟩) ∧ Below w.heap.size w w' := by
  have e67 : ((b.toNat : Int) == 67) = false := ne_num (n := 67) (by decide) h67
  have e74 : ((b.toNat : Int) == 74) = false := ne_num (n := 74) (by decide) h74
  have e89 : ((b.toNat : Int) == 89) = false := ne_num (n := 89) (by decide) h89
  have e88 : ((b.toNat : Int) == 88) = false := ne_num (n := 88) (by decide) h88
  have HS : Hid (Lib.toLowerA [b] = snd b) := by
    unfold snd Lib.toLowerA Lib.lowerB Lib.isUpperB
    rw [if_neg h67, if_neg h74, if_neg h89, if_neg h88]
    simp only [List.map_cons, List.map_nil, Bool.and_eq_true, decide_eq_true_eq, UInt8.le_iff_toNat_le]
    split <;> rename_i hc
    · rw [if_pos (show 65 ≤ b.toNat ∧ b.toNat ≤ 90 from hc)]; rfl
    · rw [if_neg (show ¬ (65 ≤ b.toNat ∧ b.toNat ≤ 90) from hc)]; rfl
  have HE : Hid (Utf8.encode (b.toNat : Int) = ⟨#[b]⟩) := by
    show _ = _
    rw [encode_lo _ h2]
    congr 2
    simp
  have HC := Lib.hid (Tryz.strings_ToLower_ascii ⟨#[b]⟩ w (by simp [ByteArray.size]) (fun j c hj => by
    cases j with
    | zero => simp at hj; subst hj; exact h2
    | succ j => simp at hj))
  clear h67 h74 h89 h88
  go_enter Tryz.func122, Tryz.ntmps122
  go_wp2_with fail
  rw [HE.out]
  refine HC.out.mono ?_
  rintro e w' ⟨rfl, hb⟩
  have hS := HS.out
  have hS' : Lib.toLowerA (ByteArray.mk #[b]).data.toList = snd b := hS
  rw [hS']
  have HB := Lib.hid hb
  clear hS hS' hb
  go_wp2_with fail
  go_ret
  exact ⟨rfl, HB.out⟩

set_option maxHeartbeats 400000 in
theorem sound_C (w : World) : Calls Tryz.prog 122 #[.int .i32 67] w fun e w' => e = .returned (.string ⟨#[99, 104]⟩) ∧ Below w.heap.size w w' := by
  go_enter Tryz.func122, Tryz.ntmps122
  go_wp2_with fail
  go_ret
  exact ⟨rfl, Below.refl _ _⟩
set_option maxHeartbeats 400000 in
theorem sound_X (w : World) : Calls Tryz.prog 122 #[.int .i32 88] w fun e w' => e = .returned (.string ⟨#[115, 104]⟩) ∧ Below w.heap.size w w' := by
  go_enter Tryz.func122, Tryz.ntmps122
  go_wp2_with fail
  go_ret
  exact ⟨rfl, Below.refl _ _⟩
set_option maxHeartbeats 400000 in
theorem sound_J (w : World) : Calls Tryz.prog 122 #[.int .i32 74] w fun e w' => e = .returned (.string ⟨#[106, 117]⟩) ∧ Below w.heap.size w w' := by
  go_enter Tryz.func122, Tryz.ntmps122
  go_wp2_with fail
  go_ret
  exact ⟨rfl, Below.refl _ _⟩
set_option maxHeartbeats 400000 in
theorem sound_Y (w : World) : Calls Tryz.prog 122 #[.int .i32 89] w fun e w' => e = .returned (.string ⟨#[106, 97]⟩) ∧ Below w.heap.size w w' := by
  go_enter Tryz.func122, Tryz.ntmps122
  go_wp2_with fail
  go_ret
  exact ⟨rfl, Below.refl _ _⟩

theorem kindB_range {b : UInt8} (h : kindB b ≠ 0) : 65 ≤ b.toNat ∧ b.toNat < 128 := by
  unfold kindB kindZ at h
  split at h
  · omega
  · split at h
    · omega
    · exact absurd rfl h

theorem sound_any (b : UInt8) (w : World) (h : kindB b ≠ 0) :
    Calls Tryz.prog 122 #[.int .i32 (b.toNat : Int)] w fun e w' => e = .returned (.string ⟨(snd b).toArray⟩) ∧ Below w.heap.size w w' := by
  by_cases h67 : b = 67
  · subst h67; exact sound_C w
  by_cases h74 : b = 74
  · subst h74; exact sound_J w
  by_cases h89 : b = 89
  · subst h89; exact sound_Y w
  by_cases h88 : b = 88
  · subst h88; exact sound_X w
  have := kindB_range h
  exact sound_low b w this.1 this.2 h67 h74 h89 h88

theorem keyL_snoc (l : L) (k : Nat) (h : k < l.length) : keyL (l.take (k + 1)) = keyL (l.take k) ++ snd l[k] := by
  unfold keyL
  rw [List.take_succ_eq_append_getElem h, List.flatMap_append]
  simp

theorem snd_len (b : UInt8) : (snd b).length ≤ 2 := by
  unfold snd
  repeat' split
  all_goals simp
theorem keyL_len (l : L) : (keyL l).length ≤ 2 * l.length := by
  induction l with
  | nil => simp [keyL]
  | cons b l ih => have := snd_len b; simp only [keyL, List.flatMap_cons, List.length_append, List.length_cons] at ih ⊢; omega

set_option maxHeartbeats 1000000 in
theorem of_any (s : ByteArray) (w : World) (hs : s.size ≤ 6) (hk : ∀ b ∈ s.data.toList, kindB b ≠ 0) :
    Calls Tryz.prog 85 #[.string s] w fun e w' => e = .returned (.string ⟨(keyL s.data.toList).toArray⟩) ∧ Below w.heap.size w w' := by
  have HL : Hid (s.data.toList.length = s.size) := by show _ = _; simp
  have HK := Lib.hid hk
  clear hk
  go_enter Tryz.func85, Tryz.ntmps85
  go_wp2_with fail
  go_loopg [3] s.size (fun gf v wx => ∃ (pos : Nat) (o : L), v = .string ⟨o.toArray⟩ ∧ o.length ≤ 2 * pos ∧ wx.heap[w.heap.size]? = some (.stringIter s pos) ∧ Below w.heap.size w wx ∧ Hid (o = keyL (s.data.toList.take pos)) ∧ pos ≤ s.size ∧ s.size ≤ pos + gf)
  case atStart => exact ⟨0, [], rfl, by simp, World.iter_heap w s 0, (Below.refl _ w).alloc (Nat.le_refl _) _, rfl, by omega, by omega⟩
  case round =>
    obtain ⟨pos, o, rfl, hol, hit, hbw, HO, hps0, hfu⟩ := hrel
    by_cases hps : pos < s.size
    · obtain ⟨g', rfl⟩ : ∃ g', gk = g' + 1 := ⟨gk - 1, by omega⟩
      have hnx : ∀ ty, (Instr.next (.pointer (some ⟨w.heap.size, 0, none⟩)) true ty).run Tryz.prog wr = _ := fun ty => Lib.run_next_any_at wr w.heap.size s pos ty hit hps
      have HG : Hid (s.get! pos = s.data.toList[pos]'(by simpa using hps)) := get_bang s pos hps
      obtain ⟨b, hb⟩ : ∃ b, s.data.toList[pos]'(by simpa using hps) = b := ⟨_, rfl⟩
      have hkb : kindB b ≠ 0 := HK.out b (by rw [← hb]; exact List.getElem_mem _)
      have hdec : Utf8.decode s pos = (b.toNat, 1) := by
        have h1 : s.get! pos = b := HG.out.trans hb
        rw [decode_lo s pos (by rw [h1]; exact (kindB_range hkb).2), h1]
      rw [hdec] at hnx
      simp only at hnx
      have hit2 := Lib.iterAt_heap wr w.heap.size s pos (pos + 1) hit
      have hbw2 := Lib.below_iterAt hbw (k := w.heap.size) (Nat.le_refl _) s (pos + 1)
      obtain ⟨W, hWd⟩ : ∃ W, wr.iterAt w.heap.size s (pos + 1) = W := ⟨_, rfl⟩
      rw [hWd] at hnx hit2 hbw2
      have HC := Lib.hid (sound_any b W hkb)
      have HN : Hid (o ++ snd b = keyL (s.data.toList.take (pos + 1))) := by
        show _ = _
        rw [keyL_snoc _ _ (by rw [HL.out]; exact hps), hb, HO.out]
      have hsl := snd_len b
      clear hb hkb hdec hWd
      go_wp2_with fail
      refine HC.out.mono ?_
      rintro e w' ⟨rfl, hb1⟩
      obtain ⟨q, hq⟩ : ∃ q, snd b = q := ⟨_, rfl⟩
      rw [hq] at hsl HN ⊢
      have hit3 := (hb1.block w.heap.size (Array.getElem?_eq_some_iff.1 hit2).1).trans hit2
      have hbw3 : Below w.heap.size w w' := hbw2.trans (hb1.mono hbw2.size)
      clear hq
      go_wp2_with fail
      go_roundg g'
      case measure => omega
      case rel => exact ⟨pos + 1, o ++ q, congrArg Value.string (bapp o q), by simp; omega, hit3, hbw3, HN.out, by omega, by omega⟩
    · have hnx : ∀ ty, (Instr.next (.pointer (some ⟨w.heap.size, 0, none⟩)) true ty).run Tryz.prog wr = _ := fun ty => Lib.run_next_end_at wr w.heap.size s pos ty hit hps
      have HX : Hid (o = keyL s.data.toList) := by
        show _ = _
        rw [HO.out, List.take_of_length_le (by rw [HL.out]; omega)]
      go_wp2_with fail
      go_ret
      exact ⟨by rw [← HX.out]; rfl, hbw⟩

end Go.Proofs.YtapikimhmjnjeaaGreatDoor

/- What package name's letters and rulesError say: contracts of the program's own functions. No conditions but sizes. -/
namespace Go.Proofs.YtapikimhmjnjeaaGreatDoor
open Go.RowKit

/-- Latin letters alone. -/
def latL (l : L) : Bool := l.all fun b => kindB b == 1

theorem idx_lat_from (s : ByteArray) : ∀ (f pos : Nat), s.size ≤ pos + f → pos ≤ s.size →
    decide (0 ≤ Lib.idxFuncFrom (fun r => kindZ (r : Int) != 1) true s f pos) = !(latL (s.data.toList.drop pos))
  | 0, pos, h, h2 => by
    have : s.data.toList.drop pos = [] := List.drop_of_length_le (by simp; omega)
    rw [this]; rfl
  | f + 1, pos, h, h2 => by
    unfold Lib.idxFuncFrom
    by_cases hp : pos < s.size
    · have hl : pos < s.data.toList.length := by simpa using hp
      rw [if_pos hp, List.drop_eq_getElem_cons hl]
      have hg := get_bang s pos hp
      by_cases hk : kindB (s.data.toList[pos]'hl) = 1
      · have hlo : (s.get! pos).toNat < 128 := by
          rw [hg]
          unfold kindB kindZ at hk
          split at hk
          · omega
          · split at hk
            · exact absurd hk (by decide)
            · exact absurd hk (by decide)
        rw [decode_lo s pos hlo, hg]
        have hk' : kindZ (((s.data.toList[pos]'hl).toNat : Nat) : Int) = 1 := hk
        simp only [hk']
        rw [if_neg (by decide), idx_lat_from s f (pos + 1) (by omega) (by omega)]
        simp only [latL, List.all_cons, hk]
        simp
      · have hne : kindZ (((Utf8.decode s pos).1 : Nat) : Int) ≠ 1 := by
          by_cases hlo : (s.get! pos).toNat < 128
          · rw [decode_lo s pos hlo, hg]; exact hk
          · have := decode_hi s pos hlo
            rw [kindZ_hi (by omega)]; decide
        rw [if_pos (by simpa using hne)]
        have hf : (kindB (s.data.toList[pos]'hl) == 1) = false := by rw [beq_eq_false_iff_ne]; exact hk
        simp only [latL, List.all_cons, hf, Bool.false_and, Bool.not_false]
        exact decide_eq_true (by omega)
    · rw [if_neg hp]
      have : s.data.toList.drop pos = [] := List.drop_of_length_le (by simp; omega)
      rw [this]; rfl

theorem idx_lat (s : ByteArray) : decide (0 ≤ Lib.idxFunc (fun r => kindZ (r : Int) != 1) true s) = !(latL s.data.toList) := by
  have := idx_lat_from s s.size 0 (by omega) (by omega)
  rw [List.drop_zero] at this
  exact this

/-- What letters says. -/
def lettersB (s : ByteArray) (a b : Int) : Bool := decide (a ≤ s.size ∧ (s.size : Int) ≤ b) && latL s.data.toList

set_option maxHeartbeats 1000000 in
theorem letters_any (s : ByteArray) (a b : Int) (w : World) :
    Calls Tryz.prog 123 #[.string s, .int .i64 a, .int .i64 b] w fun e w' => e = .returned (.bool (lettersB s a b)) ∧ Below w.heap.size w w' := by
  by_cases h1 : a ≤ s.size
  · by_cases h2 : (s.size : Int) ≤ b
    · have HC := Lib.hid (Tryz.strings_ContainsFunc 145 #[] (enters_of Tryz.func145 (by kernel_rfl) rfl) (fun r => kindZ (r : Int) != 1) s w (letters1_pred w))
      have HX : Hid (lettersB s a b = latL s.data.toList) := by
        show _ = _
        unfold lettersB
        rw [decide_eq_true ⟨h1, h2⟩, Bool.true_and]
      go_enter Tryz.func123, Tryz.ntmps123
      go_wp2_with fail
      refine HC.out.mono ?_
      rintro e w' ⟨rfl, hb⟩
      rw [idx_lat]
      have HB := Lib.hid hb
      clear hb
      obtain ⟨q, hq⟩ : ∃ q, latL s.data.toList = q := ⟨_, rfl⟩
      rw [hq] at HX ⊢
      clear hq
      cases q
      · go_wp2_with fail
        go_ret
        exact ⟨by rw [HX.out]; rfl, HB.out⟩
      · go_wp2_with fail
        go_ret
        exact ⟨by rw [HX.out]; rfl, HB.out⟩
    · have HX : Hid (lettersB s a b = false) := by
        show _ = _
        unfold lettersB
        rw [decide_eq_false (fun h => h2 h.2), Bool.false_and]
      go_enter Tryz.func123, Tryz.ntmps123
      go_wp2_with fail
      go_ret
      exact ⟨by rw [HX.out]; rfl, Below.refl _ _⟩
  · have HX : Hid (lettersB s a b = false) := by
      show _ = _
      unfold lettersB
      rw [decide_eq_false (fun h => h1 h.1), Bool.false_and]
    go_enter Tryz.func123, Tryz.ntmps123
    go_wp2_with fail
    go_ret
    exact ⟨by rw [HX.out]; rfl, Below.refl _ _⟩

end Go.Proofs.YtapikimhmjnjeaaGreatDoor

/- What the program's comparisons say: cmp.Compare of keys, cmp.Or of two numbers, package name's compare: contracts of the program's own functions. -/
namespace Go.Proofs.YtapikimhmjnjeaaGreatDoor
open Go.RowKit

/-- Two strings compared. -/
def cmpS (a b : ByteArray) : Int := if Op.bytesLess a.data.toList b.data.toList then -1 else if a.data.toList == b.data.toList then 0 else 1
theorem cmpS_eq (a b : ByteArray) : cmpS a b = if Op.bytesLess a.toList b.toList then -1 else if a.toList == b.toList then 0 else 1 := by
  unfold cmpS
  rw [ByteArray.toList_eq, ByteArray.toList_eq]

theorem nan_key (x : ByteArray) (w : World) :
    Calls Tryz.prog 142 #[.string x] w fun e w' => e = .returned (.bool false) ∧ w = w' := by
  go_enter Tryz.func142, Tryz.ntmps142
  go_wp2_with fail
  go_ret
  exact ⟨by simp, rfl⟩

set_option maxHeartbeats 400000 in
theorem cmp_key (x y : ByteArray) (w : World) :
    Calls Tryz.prog 120 #[.string x, .string y] w fun e w' => e = .returned (.int .i64 (cmpS x y)) ∧ w = w' := by
  by_cases h1 : Op.bytesLess x.toList y.toList = true
  · have HX := Lib.hid (show cmpS x y = -1 by rw [cmpS_eq]; rw [if_pos h1])
    go_enter Tryz.func120, Tryz.ntmps120
    go_wp2_with (go_at_call 142; refine (nan_key _ _).mono ?_; rintro e w' ⟨rfl, rfl⟩)
    go_ret
    exact ⟨by rw [HX.out]; rfl, rfl⟩
  · replace h1 : Op.bytesLess x.toList y.toList = false := by simpa using h1
    by_cases h2 : (x.toList == y.toList) = true
    · have HX := Lib.hid (show cmpS x y = 0 by rw [cmpS_eq]; rw [if_neg (by simp [h1]), if_pos h2])
      go_enter Tryz.func120, Tryz.ntmps120
      go_wp2_with (go_at_call 142; refine (nan_key _ _).mono ?_; rintro e w' ⟨rfl, rfl⟩)
      go_ret
      exact ⟨by rw [HX.out]; rfl, rfl⟩
    · replace h2 : (x.toList == y.toList) = false := by simpa using h2
      have HX := Lib.hid (show cmpS x y = 1 by rw [cmpS_eq]; rw [if_neg (by simp [h1]), if_neg (by simp [h2])])
      go_enter Tryz.func120, Tryz.ntmps120
      go_wp2_with (go_at_call 142; refine (nan_key _ _).mono ?_; rintro e w' ⟨rfl, rfl⟩)
      go_ret
      exact ⟨by rw [HX.out]; rfl, rfl⟩

/-- cmp.Or of two. -/
def orZ (x y : Int) : Int := if x = 0 then y else x

set_option maxHeartbeats 1000000 in
theorem or_two (b : Nat) (x y : Int) (w : World) (hb0 : w.cell? ⟨b, 0, none⟩ = some (.int .i64 x)) (hb1 : w.cell? ⟨b, 1, none⟩ = some (.int .i64 y)) :
    Calls Tryz.prog 119 #[.slice (some ⟨b, 0, none⟩) 2 2] w fun e w' => e = .returned (.int .i64 (orZ x y)) ∧ w = w' := by
  by_cases hx : x = 0
  · have ex : (x != 0) = false := by simpa using hx
    by_cases hy : y = 0
    · have ey : (y != 0) = false := by simpa using hy
      have HX := Lib.hid (show orZ x y = 0 by unfold orZ; rw [if_pos hx, hy])
      clear hx hy
      go_enter Tryz.func119, Tryz.ntmps119
      go_wp2_with fail
      refine wp_loop_rounds 3 ?_
      rw [rounds_succ]; go_wp2_with fail
      rw [rounds_succ]; go_wp2_with fail
      rw [rounds_succ]; go_wp2_with fail
      go_ret
      exact ⟨by rw [HX.out]; rfl, rfl⟩
    · have ey : (y != 0) = true := by simpa using hy
      have HX := Lib.hid (show orZ x y = y by unfold orZ; rw [if_pos hx])
      clear hx hy
      go_enter Tryz.func119, Tryz.ntmps119
      go_wp2_with fail
      refine wp_loop_rounds 3 ?_
      rw [rounds_succ]; go_wp2_with fail
      rw [rounds_succ]; go_wp2_with fail
      go_ret
      exact ⟨by rw [HX.out]; rfl, rfl⟩
  · have ex : (x != 0) = true := by simpa using hx
    have HX := Lib.hid (show orZ x y = x by unfold orZ; rw [if_neg hx])
    clear hx
    go_enter Tryz.func119, Tryz.ntmps119
    go_wp2_with fail
    refine wp_loop_rounds 3 ?_
    rw [rounds_succ]; go_wp2_with fail
    go_ret
    exact ⟨by rw [HX.out]; rfl, rfl⟩

/-- The script of a name: the kind of its first letter. -/
def scriptZ (s : ByteArray) : Int := match s.data.toList with | [] => 0 | b :: _ => kindB b

theorem script_any (s : ByteArray) (w : World) (h : 0 < s.size) :
    Calls Tryz.prog 129 #[.string s] w fun e w' => e = .returned (.int .i64 (scriptZ s)) ∧ w = w' := by
  have HX : Hid (scriptZ s = kindZ ((s[0]'h).toNat : Int)) := by
    show _ = _
    have hd : s.data.toList = s[0]'h :: s.data.toList.tail := by
      obtain ⟨⟨l⟩⟩ := s
      cases l with
      | nil => simp [ByteArray.size] at h
      | cons b l => rfl
    unfold scriptZ
    rw [hd]
    rfl
  have HW : Hid (wrap32 ((s[0]'h).toNat : Int) = ((s[0]'h).toNat : Int)) := by
    show _ = _
    have := (s[0]'h).toNat_lt
    unfold wrap32
    omega
  go_enter Tryz.func129, Tryz.ntmps129
  go_wp2_with fail
  refine (kind_any _ _).mono ?_
  rintro e w' ⟨rfl, rfl⟩
  go_wp2_with fail
  go_ret
  exact ⟨by rw [HX.out, ← congrArg kindZ HW.out]; rfl, rfl⟩

theorem cmp_int (x y : Int) (w : World) :
    Calls Tryz.prog 130 #[.int .i64 x, .int .i64 y] w fun e w' => e = .returned (.int .i64 (Lib.compareInt x y)) ∧ w = w' :=
  (Tryz.cmp_Compare_int x y w).mono (by rintro e w' ⟨rfl, rfl⟩; exact ⟨rfl, rfl⟩)

/-- A valid name. -/
structure Nm (s : ByteArray) : Prop where
  pos : 0 < s.size
  le : s.size ≤ 6
  all : ∀ b ∈ s.data.toList, kindB b ≠ 0
  one : (∀ b ∈ s.data.toList, kindB b = 1) ∨ (∀ b ∈ s.data.toList, kindB b = 2)

/-- Its key. -/
def keyB (s : ByteArray) : ByteArray := ⟨(keyL s.data.toList).toArray⟩

/-- compare, of valid names. -/
def cmpN (a b : ByteArray) : Int := orZ (cmpS (keyB a) (keyB b)) (Lib.compareInt (scriptZ a) (scriptZ b))

set_option maxHeartbeats 1000000 in
theorem compare_any (a b : ByteArray) (w : World) (ha : Nm a) (hb : Nm b) :
    Calls Tryz.prog 96 #[.string a, .string b] w fun e w' => e = .returned (.int .i64 (cmpN a b)) ∧ Below w.heap.size w w' := by
  have HA := Lib.hid ha
  have HB := Lib.hid hb
  clear ha hb
  go_enter Tryz.func96, Tryz.ntmps96
  go_wp2_with fail
  refine (of_any a _ HA.out.le HA.out.all).mono ?_
  rintro e w1 ⟨rfl, hb1⟩
  have HB1 := Lib.hid hb1
  clear hb1
  go_wp2_with fail
  refine (of_any b _ HB.out.le HB.out.all).mono ?_
  rintro e w2 ⟨rfl, hb2⟩
  have HB2 := Lib.hid (HB1.out.trans (hb2.mono HB1.out.size))
  clear hb2 HB1
  go_wp2_with fail
  refine (cmp_key _ _ _).mono ?_
  rintro e w' ⟨rfl, rfl⟩
  obtain ⟨c1, hc1⟩ : ∃ c1, cmpS ⟨(keyL a.data.toList).toArray⟩ ⟨(keyL b.data.toList).toArray⟩ = c1 := ⟨_, rfl⟩
  rw [hc1]
  have HC1 := Lib.hid hc1
  clear hc1
  go_wp2_with fail
  refine (script_any a _ HA.out.pos).mono ?_
  rintro e w' ⟨rfl, rfl⟩
  go_wp2_with fail
  refine (script_any b _ HB.out.pos).mono ?_
  rintro e w' ⟨rfl, rfl⟩
  go_wp2_with fail
  refine (cmp_int _ _ _).mono ?_
  rintro e w' ⟨rfl, rfl⟩
  obtain ⟨c2, hc2⟩ : ∃ c2, Lib.compareInt (scriptZ a) (scriptZ b) = c2 := ⟨_, rfl⟩
  rw [hc2]
  have HC2 := Lib.hid hc2
  clear hc2
  go_wp2_with fail
  refine (or_two _ c1 c2 _ (by simp) (by simp)).mono ?_
  rintro e w' ⟨rfl, rfl⟩
  go_wp2_with fail
  go_ret
  exact ⟨by unfold cmpN keyB; rw [HC1.out, HC2.out]; rfl, HB2.out.alloc HB2.out.size _⟩

end Go.Proofs.YtapikimhmjnjeaaGreatDoor

/- What slices.IsSortedFunc says of a list of valid names by package name's compare: contracts of the library's function as the program calls it. -/
namespace Go.Proofs.YtapikimhmjnjeaaGreatDoor
open Go.RowKit

/-- The strings of a list read at an address. -/
def StrsAt (w : World) (A : Option Addr) (l : List ByteArray) : Prop := ∀ i (_ : i < l.length), ∃ b off, A = some ⟨b, off, none⟩ ∧ w.cell? ⟨b, off + i, none⟩ = some (.string (l.getD i ByteArray.empty))

theorem StrsAt.below {w w1 : World} {A : Option Addr} {l : List ByteArray} (h : StrsAt w A l) (hb : Below w.heap.size w w1) : StrsAt w1 A l := fun i hi => by
  obtain ⟨b, off, e, hc⟩ := h i hi
  exact ⟨b, off, e, (hb.cell (World.block_lt_of_cell? w _ hc)).trans hc⟩

/-- From i down to 1: no name is less than the one ahead of it. -/
def downN (l : List ByteArray) : Nat → Bool
  | 0 => true
  | i + 1 => !decide (cmpN (l.getD (i + 1) ByteArray.empty) (l.getD i ByteArray.empty) < 0) && downN l i

set_option maxHeartbeats 1000000 in
set_option maxRecDepth 100000 in
theorem isSorted_any (A : Option Addr) (c : Nat) (l : List ByteArray) (w : World) (hl : StrsAt w A l) (hn : ∀ s ∈ l, Nm s) (hlen : l.length ≤ 6) :
    Calls Tryz.prog 101 #[.slice A l.length c, .func (.func 96) #[] #[]] w fun e w' => e = .returned (.bool (downN l (l.length - 1))) ∧ Below w.heap.size w w' := by
  have HL := Lib.hid hl
  have HN := Lib.hid hn
  clear hl hn
  go_enter Tryz.func101, Tryz.ntmps101
  go_wp2_with fail
  go_loopg [5] l.length (fun gf v wx => ∃ (i : Int), v = .int .i64 i ∧ i < l.length ∧ -1 ≤ i ∧ i ≤ gf ∧ Below w.heap.size w wx ∧ Hid (downN l (l.length - 1) = downN l i.toNat))
  case atStart => exact ⟨_, rfl, by omega, by omega, by omega, Below.refl _ _, by show _ = _; rw [show ((l.length : Int) - 1).toNat = l.length - 1 by omega]⟩
  case round =>
    obtain ⟨i, rfl, hi1, hi0, hig, hbw, HD⟩ := hrel
    by_cases hpos : 0 < i
    · obtain ⟨g', rfl⟩ : ∃ g', gk = g' + 1 := ⟨gk - 1, by omega⟩
      obtain ⟨j, rfl⟩ : ∃ j : Nat, i = (j : Int) + 1 := ⟨(i - 1).toNat, by omega⟩
      obtain ⟨b, off, rfl, hc1⟩ := (StrsAt.below HL.out hbw) (j + 1) (by omega)
      obtain ⟨b', off', e', hc0⟩ := (StrsAt.below HL.out hbw) j (by omega)
      obtain ⟨rfl, rfl⟩ : b' = b ∧ off' = off := by simpa using e'.symm
      clear e'
      have HM0 : Hid (Nm (l.getD j ByteArray.empty)) := by
        show Nm _
        rw [List.getD_eq_getElem?_getD, List.getElem?_eq_getElem (by omega)]
        exact HN.out _ (List.getElem_mem _)
      have HM1 : Hid (Nm (l.getD (j + 1) ByteArray.empty)) := by
        show Nm _
        rw [List.getD_eq_getElem?_getD, List.getElem?_eq_getElem (by omega)]
        exact HN.out _ (List.getElem_mem _)
      have HD' : Hid (downN l (l.length - 1) = (!decide (cmpN (l.getD (j + 1) ByteArray.empty) (l.getD j ByteArray.empty) < 0) && downN l j)) := by
        show _ = _
        rw [HD.out, show ((j : Int) + 1).toNat = j + 1 by omega]
        rfl
      clear HD
      obtain ⟨x0, hx0⟩ : ∃ x0, l.getD j ByteArray.empty = x0 := ⟨_, rfl⟩
      obtain ⟨x1, hx1⟩ : ∃ x1, l.getD (j + 1) ByteArray.empty = x1 := ⟨_, rfl⟩
      rw [hx0] at hc0 HM0 HD'
      rw [hx1] at hc1 HM1 HD'
      clear hx0 hx1
      have a1 : (0 : Int) ≤ (j : Int) + 1 := by omega
      have a2 : (j : Int) + 1 < (l.length : Int) := by omega
      have a3 : ((j : Int) + 1).toNat = j + 1 := by omega
      have a4 : IntKind.i64.wrap (j : Int) = (j : Int) := IntWalk.i64_in _ (by omega)
      have a5 : (j : Int) < (l.length : Int) := by omega
      go_wp2_with fail
      refine wp_region_still_tail 10 (by kernel_rfl) (by kernel_rfl) ?_
      simp only [List.take_succ_cons, List.take_zero, List.drop_succ_cons, List.drop_zero]
      have d0 : wr.drew.cell? ⟨b', off' + j, none⟩ = some (Value.string x0) := hc0
      have d1 : wr.drew.cell? ⟨b', off' + (j + 1), none⟩ = some (Value.string x1) := hc1
      have hbw2 : Below w.heap.size w wr.drew := hbw.drew
      change wpStill _ _ wr.drew (fun a' => wpList _ _ _ _ a' wr.drew) _ _
      generalize wr.drew = w2 at d0 d1 hbw2 ⊢
      repeat still_step
      refine wpStill_nil ?_
      clear a1 a3 a4 d0 d1 hc0 hc1
      go_wp2_with fail
      refine (compare_any x1 x0 _ HM1.out HM0.out).mono ?_
      rintro e w3 ⟨rfl, hb3⟩
      have hbw3 : Below w.heap.size w w3 := hbw2.trans (hb3.mono hbw2.size)
      clear hb3
      obtain ⟨cz, hcz⟩ : ∃ cz, cmpN x1 x0 = cz := ⟨_, rfl⟩
      rw [hcz] at HD' ⊢
      clear hcz
      by_cases hlt : cz < 0
      · have HX : Hid (downN l (l.length - 1) = false) := by
          show _ = _
          rw [HD'.out, decide_eq_true hlt]
          rfl
        clear HD'
        go_wp2_with fail
        go_ret
        exact ⟨by rw [HX.out]; rfl, hbw3⟩
      · have HX : Hid (downN l (l.length - 1) = downN l j) := by
          show _ = _
          rw [HD'.out, decide_eq_false hlt]
          rfl
        clear HD'
        go_wp2_with fail
        go_roundg g'
        case measure => omega
        case rel => exact ⟨j, rfl, by omega, by omega, by omega, hbw3, HX.out⟩
    · have HX : Hid (downN l (l.length - 1) = true) := by
        show _ = _
        rw [HD.out, show i.toNat = 0 by omega]
        rfl
      clear HD
      go_wp2_with fail
      go_ret
      exact ⟨by rw [HX.out]; rfl, hbw⟩

end Go.Proofs.YtapikimhmjnjeaaGreatDoor

