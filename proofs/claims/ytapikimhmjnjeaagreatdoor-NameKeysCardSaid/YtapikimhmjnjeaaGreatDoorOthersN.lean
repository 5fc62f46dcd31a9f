/- What the reference's others says of a string: all strings of letters of the other alphabet that stand for it. -/
import Derived.Test.YtapikimhmjnjeaaGreatDoorAppMore
import Derived.Test.YtapikimhmjnjeaaGreatDoorForeignN
import Derived.Test.YtapikimhmjnjeaaGreatDoorRefPure
import Derived.Lib.ConvBytes
/- What the reference's others says of a string: all strings of letters of the other alphabet that stand for it. -/
set_option linter.unusedVariables false
set_option linter.unusedSimpArgs false
namespace Go.Proofs.YtapikimhmjnjeaaGreatDoor
open Go.RowKit Go.Shelf Go.Proofs.YtapikimhmjnjeaaGreatDoor.Pr Go.Proofs.YtapikimhmjnjeaaGreatDoorW.PrintWords Go.Proofs.YtapikimhmjnjeaaGreatDoorW.PrintLast Go.Proofs.YtapikimhmjnjeaaGreatDoorW.PrintMore
attribute [local go_sem] Oper.semAt_some

mutual
/-- All strings of letters of the other alphabet that stand for a string, n being at least its length. -/
def othL : Nat → L → List L
  | _, [] => [[]]
  | 0, _ :: _ => []
  | n + 1, a :: k => caps.flatMap fun c => if kindB c = 2 ∧ (snd c).isPrefixOf (a :: k) = true then (othL n ((a :: k).drop (snd c).length)).map (c :: ·) else []
end
/-- What one letter gives. -/
def othStep (n : Nat) (k : L) (c : UInt8) : List L := if kindB c = 2 ∧ (snd c).isPrefixOf k = true then (othL n (k.drop (snd c).length)).map (c :: ·) else []
theorem othL_nil (n : Nat) : othL n [] = [[]] := by cases n <;> simp [othL]
theorem othL_succ (n : Nat) (a : UInt8) (k : L) : othL (n + 1) (a :: k) = caps.flatMap (othStep n (a :: k)) := by
  rw [othL]
  rfl
theorem oth_head : ∀ (n : Nat) (k : L), (othL n k).head? = foreignL n k
  | n, [] => by rw [othL_nil]; cases n <;> rfl
  | 0, a :: k => by simp [othL, foreignL]
  | n + 1, a :: k => by
    rw [othL_succ, foreign_succ, List.head?_flatMap]
    congr 1
    funext c
    unfold othStep forStep
    split
    · rw [List.head?_map, oth_head n]
    · rfl

theorem caps_nodup : (caps.map snd).Nodup := by decide
theorem snd_count (x : L) : (caps.filter fun c => snd c == x).length ≤ 1 := by
  have h := List.nodup_iff_count.1 caps_nodup x
  rw [List.count, List.countP_map, List.countP_eq_length_filter] at h
  exact h
theorem filter_or (p q : UInt8 → Bool) : ∀ l : L, (l.filter fun c => p c || q c).length ≤ (l.filter p).length + (l.filter q).length
  | [] => by simp
  | c :: l => by
    have := filter_or p q l
    rw [List.filter_cons, List.filter_cons, List.filter_cons]
    cases p c <;> cases q c <;> simp <;> omega
theorem filter_mono (p q : UInt8 → Bool) (h : ∀ c, p c = true → q c = true) : ∀ l : L, (l.filter p).length ≤ (l.filter q).length
  | [] => by simp
  | c :: l => by
    have := filter_mono p q h l
    rw [List.filter_cons, List.filter_cons]
    cases hp : p c with
    | false => cases q c <;> simp <;> omega
    | true => rw [h c hp]; simp; omega
theorem flat_le (f : UInt8 → List L) (p : UInt8 → Bool) (B : Nat) (h0 : ∀ c, p c = false → f c = []) (h1 : ∀ c, (f c).length ≤ B) : ∀ l : L, (l.flatMap f).length ≤ (l.filter p).length * B
  | [] => by simp
  | c :: l => by
    have ih := flat_le f p B h0 h1 l
    rw [List.flatMap_cons, List.length_append, List.filter_cons]
    cases hp : p c with
    | false => rw [h0 c hp]; simpa using ih
    | true =>
      have := h1 c
      simp only [if_true, List.length_cons, Nat.add_mul, Nat.one_mul]
      omega
theorem match_two (a : UInt8) (k : L) (c : UInt8) (h : (snd c).isPrefixOf (a :: k) = true) : snd c = [a] ∨ ∃ b r, k = b :: r ∧ snd c = [a, b] := by
  have h1 := List.isPrefixOf_iff_prefix.1 h
  obtain ⟨t, ht⟩ := h1
  have h2 := snd_len c
  have h3 := snd_pos c
  cases hs : snd c with
  | nil => exact absurd hs h3
  | cons x r =>
    rw [hs] at ht h2
    have e1 := (List.cons.inj ht).1
    have ht2 := (List.cons.inj ht).2
    subst e1
    cases r with
    | nil => exact .inl rfl
    | cons y r =>
      cases r with
      | nil =>
        right
        cases k with
        | nil => cases ht2
        | cons b k =>
          have e2 := (List.cons.inj ht2).1
          subst e2
          exact ⟨_, _, rfl, rfl⟩
      | cons z r => simp at h2
theorem match_count (a : UInt8) (k : L) : (caps.filter fun c => decide (kindB c = 2 ∧ (snd c).isPrefixOf (a :: k) = true)).length ≤ 2 := by
  cases k with
  | nil =>
    refine Nat.le_trans (filter_mono _ (fun c => snd c == [a]) (fun c hc => ?_) caps) (Nat.le_trans (snd_count [a]) (by omega))
    have := of_decide_eq_true hc
    rcases match_two a [] c this.2 with h | ⟨b, r, h, _⟩
    · rw [h]; simp
    · cases h
  | cons b r =>
    have h1 := filter_or (fun c => snd c == [a]) (fun c => snd c == [a, b]) caps
    have h2 := snd_count [a]
    have h3 := snd_count [a, b]
    refine Nat.le_trans (filter_mono _ (fun c => snd c == [a] || snd c == [a, b]) (fun c hc => ?_) caps) (by omega)
    have := of_decide_eq_true hc
    rcases match_two a (b :: r) c this.2 with h | ⟨b', r', h, h'⟩
    · rw [h]; simp
    · obtain ⟨rfl, rfl⟩ := List.cons.inj h
      rw [h']; simp
theorem oth_len : ∀ (n : Nat) (k : L), (othL n k).length ≤ 2 ^ n
  | n, [] => by rw [othL_nil]; exact Nat.one_le_two_pow
  | 0, a :: k => by simp [othL]
  | n + 1, a :: k => by
    rw [othL_succ]
    have h1 := flat_le (othStep n (a :: k)) (fun c => decide (kindB c = 2 ∧ (snd c).isPrefixOf (a :: k) = true)) (2 ^ n) (fun c hc => by
      unfold othStep
      rw [if_neg (of_decide_eq_false hc)]) (fun c => by
      unfold othStep
      split
      · rw [List.length_map]; exact oth_len n _
      · simp) caps
    have h2 := match_count a k
    have h3 : (caps.filter fun c => decide (kindB c = 2 ∧ (snd c).isPrefixOf (a :: k) = true)).length * 2 ^ n ≤ 2 * 2 ^ n := Nat.mul_le_mul_right _ h2
    rw [Nat.pow_succ, Nat.mul_comm (2 ^ n) 2]
    omega

theorem oth_mem_len : ∀ (n : Nat) (k o : L), o ∈ othL n k → o.length ≤ k.length
  | n, [], o, h => by rw [othL_nil] at h; rw [List.mem_singleton.1 h]; exact Nat.le_refl _
  | 0, a :: k, o, h => by simp [othL] at h
  | n + 1, a :: k, o, h => by
    rw [othL_succ] at h
    obtain ⟨c, _, hc⟩ := List.mem_flatMap.1 h
    unfold othStep at hc
    split at hc
    · rename_i hp
      obtain ⟨o', ho, rfl⟩ := List.mem_map.1 hc
      have h1 := oth_mem_len n _ o' ho
      have h2 := (List.isPrefixOf_iff_prefix.1 hp.2).length_le
      have h3 := List.length_pos_iff.2 (snd_pos c)
      rw [List.length_drop] at h1
      rw [List.length_cons]
      omega
    · cases hc

/-- Letters as a string. -/
def toB (l : L) : ByteArray := ⟨l.toArray⟩
/-- What the first j letters give. -/
def othJ (n : Nat) (k : L) (j : Nat) : List L := (caps.take j).flatMap (othStep n k)
theorem othJ_succ (n : Nat) (k : L) (j : Nat) (h : j < 26) : othJ n k (j + 1) = othJ n k j ++ othStep n k (UInt8.ofNat (j + 65)) := by
  unfold othJ
  have h1 : j < caps.length := by rw [caps_len]; exact h
  have h2 : caps[j] = UInt8.ofNat (j + 65) := by
    have := caps_at j h
    rw [List.drop_eq_getElem_cons h1] at this
    exact (List.cons.inj this).1
  rw [List.take_succ_eq_append_getElem h1, List.flatMap_append, h2]
  simp
theorem othJ_le (n : Nat) (k : L) (a : UInt8) (r : L) (hk : k = a :: r) (j : Nat) : (othJ n k j).length ≤ 2 ^ (n + 1) := by
  subst hk
  have h1 := oth_len (n + 1) (a :: r)
  rw [othL_succ] at h1
  refine Nat.le_trans (List.Sublist.length_le ?_) h1
  unfold othJ
  conv => rhs; rw [← List.take_append_drop j caps, List.flatMap_append]
  exact List.sublist_append_left _ _

set_option maxRecDepth 100000 in
set_option maxHeartbeats 1000000 in
theorem others_nil (n : Nat) (w : World) : Calls Tryz.prog 91 #[.string ⟨#[]⟩] w fun e w' => ∃ v, e = .returned v ∧ w'.ownsRow w.heap.size 9 1 v ((othL n []).map toB).length (((othL n []).map toB).map Value.string) ∧ Below w.heap.size w w' := by
  obtain ⟨ol, hol⟩ : ∃ ol, (othL n []).map toB = ol := ⟨_, rfl⟩
  have HOL : Hid (ol = [⟨#[]⟩]) := by show _ = _; rw [← hol, othL_nil]; rfl
  rw [hol]
  clear hol
  go_enter Tryz.func91, Tryz.ntmps91
  go_wp2_with fail
  go_ret
  refine ⟨_, rfl, ?_, (Below.refl _ w).alloc (Nat.le_refl _) _⟩
  rw [HOL.out]
  exact ⟨rfl, .inr ⟨w.heap.size, 1, #[.string ⟨#[]⟩], rfl, Nat.le_refl _, heap_alloc_new w _, Nat.le_refl _, by unfold maxLen; omega, rfl, rfl⟩⟩

set_option maxRecDepth 100000 in
set_option maxHeartbeats 4000000 in
theorem others_any : ∀ (n : Nat) (s : ByteArray) (w : World), s.size ≤ n → n ≤ 12 →
    Calls Tryz.prog 91 #[.string s] w fun e w' => ∃ v, e = .returned v ∧ w'.ownsRow w.heap.size 9 1 v ((othL n s.data.toList).map toB).length (((othL n s.data.toList).map toB).map Value.string) ∧ Below w.heap.size w w' := by
  intro n
  induction n with
  | zero =>
    intro s w hk _
    have hl := ba_len s
    have hnil : s.data.toList = [] := List.length_eq_zero_iff.1 (by omega)
    obtain rfl : s = ⟨#[]⟩ := ba_ext (by rw [hnil])
    exact others_nil 0 w
  | succ n ih =>
    intro s w hk hn
    have IH := Lib.hid (fun s w hk => ih s w hk (by omega))
    clear ih
    cases hkl : s.data.toList with
    | nil =>
      obtain rfl : s = ⟨#[]⟩ := ba_ext (by rw [hkl])
      exact others_nil (n + 1) w
    | cons a kl =>
      have hem : s.toList.isEmpty = false := by rw [ByteArray.toList_eq, hkl]; rfl
      have hem2 : (s.toList == []) = false := by rw [ByteArray.toList_eq, hkl]; rfl
      have HKL := Lib.hid hkl
      obtain ⟨ol, hol⟩ : ∃ ol, (othL (n + 1) (a :: kl)).map toB = ol := ⟨_, rfl⟩
      have HOL : Hid (ol = (othJ n (a :: kl) 26).map toB) := by show _ = _; rw [← hol, othL_succ]; unfold othJ; rw [List.take_of_length_le (by rw [caps_len]; omega)]
      rw [hol]
      clear hkl hol
      go_enter Tryz.func91, Tryz.ntmps91
      go_wp2_with fail
      obtain ⟨R, hR⟩ : ∃ R, w.heap.size = R := ⟨_, rfl⟩
      have HRR := Lib.hid hR
      clear hR
      go_loopg [3, 4] 26 (fun gf v3 v4 wx => ∃ j : Nat, v4 = .int .u8 ((65 + j : Nat) : Int) ∧ j + gf = 26 ∧ Hid (AppSt R w wx v3 ((othJ n (a :: kl) j).map toB)))
      case atStart => exact ⟨0, rfl, by omega, AppSt.nil (by rw [← HRR.out]; exact Below.refl _ _) (by rw [← HRR.out]; exact Nat.le_refl _)⟩
      case round =>
        obtain ⟨j, rfl, hj, HS⟩ := hrel
        cases gk with
        | zero =>
          have hn2 : ¬ ((65 + j : Nat) : Int) ≤ 90 := by omega
          obtain rfl : j = 26 := by omega
          have hle : w.heap.size ≤ R := by rw [HRR.out]; exact Nat.le_refl _
          go_wp2_with fail
          go_ret
          exact ⟨_, rfl, by rw [HOL.out, HRR.out]; exact HS.out.own, by rw [HRR.out]; exact HS.out.low⟩
        | succ g =>
          have hn2 : ((65 + j : Nat) : Int) ≤ 90 := by omega
          obtain ⟨c, hc⟩ : ∃ c : UInt8, UInt8.ofNat (j + 65) = c := ⟨_, rfl⟩
          have hct : c.toNat = 65 + j := by rw [← hc, UInt8.toNat_ofNat']; omega
          have HSN := Lib.hid (fun W => wayzgooseref03_stands.calls 1 (c.toNat : Int) (Pure.refS c) W (Pure.stands_f c 1 (Nat.le_refl _)))
          rw [hct] at HSN
          have HJS := Lib.hid (othJ_succ n (a :: kl) j (by omega))
          have HJL := Lib.hid (othJ_le n (a :: kl) a kl rfl (j + 1))
          rw [hc] at HJS
          obtain ⟨z, hz⟩ : ∃ z : Int, ((65 + j : Nat) : Int) = z := ⟨_, rfl⟩
          rw [hz] at hn2 HSN ⊢
          have HZ := Lib.hid hz
          have HCT := Lib.hid hct
          have hz0 : 65 ≤ z := by omega
          clear hz hct hc
          go_wp2_with fail
          refine (HSN.out wr).mono ?_
          rintro e w1 ⟨rfl, hb1⟩
          have HS1 := Lib.hid (HS.out.below hb1)
          clear hb1 HSN
          by_cases hk2 : kindB c = 2
          · have hp : Pure.refS c = ⟨(snd c).toArray⟩ := by unfold Pure.refS; rw [if_pos hk2]
            obtain ⟨p, hpp⟩ : ∃ p : ByteArray, Pure.refS c = p := ⟨_, rfl⟩
            rw [hpp] at hp ⊢
            have hpl : p.data.toList = snd c := by rw [hp]
            have hp1 : 1 ≤ p.size := by rw [← ba_len, hpl]; exact List.length_pos_iff.2 (snd_pos c)
            have hp2 : p.size ≤ 2 := by rw [← ba_len, hpl]; exact snd_len c
            have hpe : (p.toList == []) = false := by
              rw [ByteArray.toList_eq, hpl, beq_eq_false_iff_ne]
              exact snd_pos c
            have HPL := Lib.hid hpl
            clear hp hpp hpl
            by_cases hle : p.size ≤ s.size
            · have hle2 : ¬ s.size < p.size := by omega
              have hle3 : ¬ (s.size : Int) < (p.size : Int) := by omega
              obtain ⟨q, hq⟩ : ∃ q, ((s.extract 0 p.size).toList == p.toList) = q := ⟨_, rfl⟩
              have HQ : Hid (q = (snd c).isPrefixOf (a :: kl)) := by
                show _ = _
                rw [← hq, ByteArray.toList_eq, ByteArray.toList_eq, ba_upto, HKL.out, HPL.out, ← ba_len p, HPL.out]
                cases hpr : (snd c).isPrefixOf (a :: kl) with
                | true =>
                  obtain ⟨r, hr⟩ := List.isPrefixOf_iff_prefix.1 hpr
                  rw [← hr, List.take_left']
                  · simp
                  · rfl
                | false =>
                  rw [beq_eq_false_iff_ne]
                  intro e
                  have hap := List.take_append_drop (snd c).length (a :: kl)
                  rw [e] at hap
                  have : (snd c).isPrefixOf (a :: kl) = true := List.isPrefixOf_iff_prefix.2 ⟨_, hap⟩
                  rw [this] at hpr; cases hpr
              cases q with
              | true =>
                have HST : Hid (othStep n (a :: kl) c = (othL n ((a :: kl).drop (snd c).length)).map (c :: ·)) := by show _ = _; unfold othStep; rw [if_pos ⟨hk2, HQ.out.symm⟩]
                have HRL := Lib.hid (oth_len n ((a :: kl).drop (snd c).length))
                have HRM : Hid (∀ o ∈ othL n ((a :: kl).drop (snd c).length), o.length ≤ 12) := fun o ho => by
                  have h1 := oth_mem_len n _ o ho
                  rw [List.length_drop, ← HKL.out, ba_len] at h1
                  omega
                have HIH := Lib.hid (IH.out (s.extract p.size s.size) w1 (by rw [ByteArray.size_extract]; omega))
                have hdr : (s.extract p.size s.size).data.toList = (a :: kl).drop (snd c).length := by
                  have e8 : s.data.toList.take s.size = s.data.toList := List.take_of_length_le (by rw [ba_len]; exact Nat.le_refl _)
                  rw [ba_sub, e8, HKL.out, ← ba_len p, HPL.out]
                rw [hdr] at HIH
                have hpi : (p.size : Int) ≤ (s.size : Int) := by omega
                clear hdr
                obtain ⟨rl, hrl⟩ : ∃ rl, othL n ((a :: kl).drop (snd c).length) = rl := ⟨_, rfl⟩
                rw [hrl] at HIH HST HRL HRM
                clear hrl
                go_wp2_with fail
                refine HIH.out.mono ?_
                rintro e w2 ⟨v6, rfl, ho6, hb2⟩
                obtain ⟨A6, c6, rfl, hs6⟩ := own_strs ho6
                have HS6 := Lib.hid hs6
                have HS2 := Lib.hid (HS1.out.below hb2)
                have HAP : Hid (∀ ad, A6 = some ad → u3.ownBlock ≠ some ad.block) := fun ad e h3 => by
                  subst e
                  have h4 := HS1.out.lt h3
                  have h5 := own_ge ho6 ad.block rfl
                  omega
                clear HIH ho6 hs6 hb2 HS1 HS
                have hln : (rl.map toB).length = rl.length := by simp
                have hrlb : rl.length ≤ 4096 := Nat.le_trans HRL.out (Nat.pow_le_pow_right (n := 2) (i := n) (j := 12) (by omega) (by omega))
                have hjb : (othJ n (a :: kl) j).length ≤ 8192 := by
                  have h1 := HJL.out
                  rw [HJS.out, List.length_append] at h1
                  have h2 : 2 ^ (n + 1) ≤ 2 ^ 13 := Nat.pow_le_pow_right (by omega) (by omega)
                  omega
                go_wp2_with fail
                go_loopg [3, 7] rl.length (fun gf2 v3 v7 wx => ∃ m : Nat, v7 = .int .i64 (m : Int) ∧ m + gf2 = rl.length ∧ Hid (AppSt R w wx v3 ((othJ n (a :: kl) j ++ (rl.take m).map (c :: ·)).map toB)) ∧ Hid (StrsAt wx A6 (rl.map toB)) ∧ Hid (∀ ad, A6 = some ad → v3.ownBlock ≠ some ad.block))
                case atStart => exact ⟨0, rfl, by omega, by show AppSt _ _ _ _ _; rw [List.take_zero, List.map_nil, List.append_nil]; exact HS2.out, HS6.out, HAP.out⟩
                case round =>
                  obtain ⟨m, rfl, hmg, HSm, HSR, HAm⟩ := hrel
                  cases gk with
                  | zero =>
                    have hn5 : ¬ (m : Int) < (rl.length : Int) := by omega
                    obtain rfl : m = rl.length := by omega
                    go_wp2_with fail
                    go_roundg g
                    case measure => omega
                    case rel => exact ⟨j + 1, by rw [show ((65 + (j + 1) : Nat) : Int) = ((65 + j : Nat) : Int) + 1 by omega, HZ.out], by omega, by
                      show AppSt _ _ _ _ _
                      have h1 := HSm.out
                      rw [List.take_length] at h1
                      rw [HJS.out, HST.out]
                      exact h1⟩
                  | succ g2 =>
                    have hn5 : (m : Int) < (rl.length : Int) := by omega
                    have m1 : (0 : Int) ≤ (m : Int) := by omega
                    have m3 : (m : Int).toNat = m := by omega
                    obtain ⟨b6, off6, rfl, k5⟩ := HSR.out m (by omega)
                    obtain ⟨y, hy⟩ : ∃ y, (rl.map toB).getD m ByteArray.empty = y := ⟨_, rfl⟩
                    rw [hy] at k5
                    have HYL : Hid (y = toB (rl.getD m [])) := by
                      show _ = _
                      rw [← hy, List.getD_eq_getElem?_getD, List.getD_eq_getElem?_getD, List.getElem?_map, List.getElem?_eq_getElem (by omega)]
                      rfl
                    have HTK : Hid (rl.take (m + 1) = rl.take m ++ [rl.getD m []]) := by
                      show _ = _
                      rw [List.take_succ_eq_append_getElem (by omega), List.getD_eq_getElem?_getD, List.getElem?_eq_getElem (by omega)]
                      rfl
                    have k6 : ∀ o, (wr.alloc o).cell? ⟨b6, off6 + m, none⟩ = some (.string y) := fun o => (World.cell?_alloc_lt wr o ⟨b6, off6 + m, none⟩ (World.block_lt_of_cell? wr _ k5)).trans k5
                    clear hy
                    have hzc : (c.toNat : Int) = z := by have h1 := HZ.out; have h2 := HCT.out; omega
                    have hcv : ∀ W : World, W.cell? ⟨wr.heap.size, 0, none⟩ = some (.int .u8 z) → (convert 141 9 (.slice (some ⟨wr.heap.size, 0, none⟩) 1 1)).run Tryz.prog W = .ok (.string ⟨#[c]⟩) W := fun W hW =>
                      run_convert_bytes_back (P := Tryz.prog) W 141 9 5 ⟨wr.heap.size, 0, none⟩ 1 [c] Tryz.underlying141 Tryz.underlying5 Tryz.underlying9 (fun i hi => by
                        obtain rfl : i = 0 := by simpa using hi
                        simp only [List.getElem_cons_zero]
                        rw [hzc]
                        simpa [Addr.add] using hW)
                    clear hzc
                    have hb6 : b6 < wr.heap.size := World.block_lt_of_cell? wr _ k5
                    have hold : ∀ o1 o2, ((wr.alloc o1).alloc o2).drew.heap[b6]? = wr.heap[b6]? := fun o1 o2 => (heap_alloc_old (wr.alloc o1) o2 (by simp; omega)).trans (heap_alloc_old wr o1 hb6)
                    have hysz : ¬ 9223372036854775807 < 1 + y.size := by
                      have h1 : rl.getD m [] ∈ rl := by rw [List.getD_eq_getElem?_getD, List.getElem?_eq_getElem (by omega)]; exact List.getElem_mem _
                      have h2 := HRM.out _ h1
                      have h3 : y.size = (rl.getD m []).length := by rw [HYL.out, ← ba_len]; rfl
                      omega
                    go_wp2_with fail
                    go_region_law (first
                      | (refine step_app2 rfl (.tmp 45) (.tmp 54) rfl R w _ u3 ((othJ n (a :: kl) j ++ (rl.take m).map (c :: ·)).map toB) rfl (by first | exact ((HSm.out.alloc _).alloc _).drew | exact ((HSm.out.drew).alloc _).alloc _) (some ⟨wr.heap.size + 1, 0, none⟩) 1 1 [(⟨#[c]⟩ : ByteArray) ++ y] rfl (ReadS.one (by simp)) (by simp <;> omega) ?_; intro v1 W1 h1 f1 o1))
                    all_goals
                      have hW1 : W1.heap[b6]? = wr.heap[b6]? := (f1 b6 (by simp; omega) (HAm.out _ rfl)).trans (hold _ _)
                      have hsr : StrsAt W1 (some ⟨b6, off6, none⟩) (rl.map toB) := HSR.out.of_heap fun ad e => by
                        obtain rfl := Option.some.inj e.1
                        exact hW1
                      have ham : ∀ ad, some (⟨b6, off6, none⟩ : Addr) = some ad → v1.ownBlock ≠ some ad.block := fun ad e h3 => by
                        obtain rfl := Option.some.inj e
                        rcases o1 with o1 | o1
                        · exact HAm.out _ rfl (o1.symm.trans h3)
                        · rw [h3] at o1
                          have := Option.some.inj o1
                          simp at this
                          omega
                      have HW := Lib.hid (And.intro h1 (And.intro hsr ham))
                      clear h1 hsr ham f1 o1 hW1 hold
                      go_wp2_with fail
                      go_roundg g2
                      case measure => omega
                      case rel =>
                        refine ⟨m + 1, by go_num, by omega, ?_, HW.out.2.1, HW.out.2.2⟩
                        show AppSt _ _ _ _ _
                        have h2 := HW.out.1
                        have e1 : toB (c :: rl.getD m []) = (⟨#[c]⟩ : ByteArray) ++ y := ba_ext (by rw [HYL.out, ba_app]; rfl)
                        have e2 : (othJ n (a :: kl) j ++ (rl.take (m + 1)).map (c :: ·)).map toB = (othJ n (a :: kl) j ++ (rl.take m).map (c :: ·)).map toB ++ [(⟨#[c]⟩ : ByteArray) ++ y] := by
                          rw [HTK.out]
                          simp only [List.map_append, List.append_assoc, List.map_cons, List.map_nil]
                          rw [e1]
                        rw [e2]
                        exact h2
              | false =>
                have HST : Hid (othStep n (a :: kl) c = []) := by show _ = _; unfold othStep; rw [if_neg (fun h => by have := HQ.out; rw [h.2] at this; cases this)]
                go_wp2_with fail
                go_roundg g
                case measure => omega
                case rel => exact ⟨j + 1, by rw [show ((65 + (j + 1) : Nat) : Int) = ((65 + j : Nat) : Int) + 1 by omega, HZ.out], by omega, by show AppSt _ _ _ _ _; rw [HJS.out, HST.out, List.append_nil]; exact HS1.out⟩
            · have hle2 : s.size < p.size := by omega
              have hle3 : (s.size : Int) < (p.size : Int) := by omega
              have HST : Hid (othStep n (a :: kl) c = []) := by
                show _ = _
                unfold othStep
                rw [if_neg (fun h => by
                  have := (List.isPrefixOf_iff_prefix.1 h.2).length_le
                  rw [← HKL.out, ba_len, ← HPL.out, ba_len] at this
                  omega)]
              go_wp2_with fail
              go_roundg g
              case measure => omega
              case rel => exact ⟨j + 1, by rw [show ((65 + (j + 1) : Nat) : Int) = ((65 + j : Nat) : Int) + 1 by omega, HZ.out], by omega, by show AppSt _ _ _ _ _; rw [HJS.out, HST.out, List.append_nil]; exact HS1.out⟩
          · have hp : Pure.refS c = ⟨#[]⟩ := by unfold Pure.refS; rw [if_neg hk2]
            have HST : Hid (othStep n (a :: kl) c = []) := by show _ = _; unfold othStep; rw [if_neg (fun h => hk2 h.1)]
            rw [hp]
            go_wp2_with fail
            go_roundg g
            case measure => omega
            case rel => exact ⟨j + 1, by rw [show ((65 + (j + 1) : Nat) : Int) = ((65 + j : Nat) : Int) + 1 by omega, HZ.out], by omega, by show AppSt _ _ _ _ _; rw [HJS.out, HST.out, List.append_nil]; exact HS1.out⟩
end Go.Proofs.YtapikimhmjnjeaaGreatDoor

