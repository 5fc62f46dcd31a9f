/- What package name's Wrong says: its iterator's and its own contract. Sizes alone are asked. -/
import Derived.Test.YtapikimhmjnjeaaGreatDoorShorterN
import Derived.Test.YtapikimhmjnjeaaGreatDoorPlaceN
import Derived.Test.YtapikimhmjnjeaaGreatDoorBaseB
/- What package name's Wrong says: its iterator's and its own contract. Sizes alone are asked. -/
set_option linter.unusedVariables false
set_option linter.unusedSimpArgs false
namespace Go.Proofs.YtapikimhmjnjeaaGreatDoor
open Go.RowKit Go.Shelf
attribute [local go_sem] Oper.semAt_some

/-- The value v owns a row of the numbers x, in a block at or beyond b0. -/
def RowI (b0 : Nat) (X : World) (x : List Int) (v : Value) : Prop := X.ownsRow b0 3 1 v x.length (x.map (Value.int .i64)) ∧ (x = [] → v = .slice none 0 0)
theorem RowI.ext {b0 B : Nat} {X Y : World} {x : List Int} {v : Value} (h : RowI b0 X x v) (hE : Ext B 3 X Y) : RowI b0 Y x v := by
  refine ⟨⟨h.1.1, ?_⟩, h.2⟩
  rcases h.1.2 with h2 | ⟨g, cap, cur, rfl, hg, hh, r⟩
  · exact .inl h2
  · exact .inr ⟨g, cap, cur, rfl, hg, hE.same g _ hh (.inr (by simp [Obj.ofE])), r⟩
theorem RowI.slice {b0 : Nat} {X : World} {x : List Int} {v : Value} (h : RowI b0 X x v) : ∃ A c, v = .slice A x.length c := by
  rcases h.1.2 with ⟨rfl, hn⟩ | ⟨g, cap, cur, rfl, _⟩
  · exact ⟨none, 0, by rw [hn]⟩
  · exact ⟨_, _, rfl⟩
theorem RowI.read {b0 : Nat} {X : World} {x : List Int} {v : Value} (h : RowI b0 X x v) : ∃ A c, v = .slice A x.length c ∧ IntsAt X A x := by
  rcases h.1.2 with ⟨rfl, hn⟩ | ⟨g, cap, cur, rfl, hg, hh, hc1, hc2, hc3, hc4⟩
  · exact ⟨none, 0, by rw [hn], fun i hi => by omega⟩
  · refine ⟨_, cap, rfl, fun i hi => ⟨g, 0, rfl, ?_⟩⟩
    have h1 : cur[i]? = some (.int .i64 (x.getD i 0)) := by
      have e1 : (cur.toList.take (x.length * 1))[i]? = cur.toList[i]? := List.getElem?_take_of_lt (by omega)
      rw [hc4] at e1
      rw [← Array.getElem?_toList, ← e1, List.getElem?_map, List.getElem?_eq_getElem hi, List.getD_eq_getElem?_getD, List.getElem?_eq_getElem hi]
      rfl
    simp [World.cell?, hh, h1]
theorem own_strs {b0 : Nat} {X : World} {x : List ByteArray} {v : Value} (h : X.ownsRow b0 9 1 v x.length (x.map Value.string)) : ∃ A c, v = .slice A x.length c ∧ StrsAt X A x := by
  rcases h.2 with ⟨rfl, hn⟩ | ⟨g, cap, cur, rfl, hg, hh, hc1, hc2, hc3, hc4⟩
  · exact ⟨none, 0, by rw [hn], fun i hi => by omega⟩
  · refine ⟨_, cap, rfl, fun i hi => ⟨g, 0, rfl, ?_⟩⟩
    have h1 : cur[i]? = some (.string (x.getD i ByteArray.empty)) := by
      have e1 : (cur.toList.take (x.length * 1))[i]? = cur.toList[i]? := List.getElem?_take_of_lt (by omega)
      rw [hc4] at e1
      rw [← Array.getElem?_toList, ← e1, List.getElem?_map, List.getElem?_eq_getElem hi, List.getD_eq_getElem?_getD, List.getElem?_eq_getElem hi]
      rfl
    simp [World.cell?, hh, h1]
theorem StrsAt.of_heap {V X : World} {A : Option Addr} {l : List ByteArray} (h : StrsAt V A l) (hx : ∀ a, (A = some a ∧ l ≠ []) → X.heap[a.block]? = V.heap[a.block]?) : StrsAt X A l := fun i hi => by
  obtain ⟨b, off, rfl, h1⟩ := h i hi
  have := hx _ ⟨rfl, fun e => by rw [e] at hi; simp at hi⟩
  refine ⟨b, off, rfl, ?_⟩
  have e : X.cell? ⟨b, off + i, none⟩ = V.cell? ⟨b, off + i, none⟩ := by simp [World.cell?, show X.heap[b]? = V.heap[b]? from this]
  exact e.trans h1
theorem rights_pre (l : List ByteArray) : ∀ (d m : Nat), rightsL l m <+: rightsL l (m + d)
  | 0, m => List.prefix_rfl
  | d + 1, m => (rights_pre l d m).trans (by rw [show m + (d + 1) = (m + d) + 1 by omega, rightsL]; exact List.prefix_append _ _)

theorem own_apart {X Y : World} {bu bv n m : Nat} {eu ev : TypeId} {u v : Value} {xs ys : List Value} {o : Obj} (hu : X.ownsRow bu eu 1 u n xs) (hv : X.ownsRow bv ev 1 v m ys) (hne : eu ≠ ev) (hg : (X.alloc o).grownBy Y u.ownBlock) : Y.ownsRow bv ev 1 v m ys := by
  refine ⟨hv.1, ?_⟩
  rcases hv.2 with h2 | ⟨g, cap, cur, rfl, hb, hh, r⟩
  · exact .inl h2
  · refine .inr ⟨g, cap, cur, rfl, hb, ?_, r⟩
    have hlt := (Array.getElem?_eq_some_iff.1 hh).1
    have h1 : (X.alloc o).heap[g]? = X.heap[g]? := ((Below.refl X.heap.size X).alloc (Nat.le_refl _) o).block g hlt
    refine (hg.block g (by simp; omega) (fun e => ?_)).trans (h1.trans hh)
    rcases hu.2 with ⟨rfl, _⟩ | ⟨g', cap', cur', rfl, _, hh', _⟩
    · cases e
    · have : g' = g := by simpa [Value.ownBlock] using e.symm
      subst this
      rw [hh] at hh'
      have := Option.some.inj hh'
      injection this with _ h3
      exact hne h3.symm

theorem bit_test_fin : ∀ (s : Fin 64) (i : Fin 6), (bits BinOp.and IntKind.i64 ((s.val : Int) / 2 ^ i.val) 1 == 1) = s.val.testBit i.val := by decide +kernel
theorem bit_test {s i : Nat} (hs : s < 64) (hi : i < 6) : (bits BinOp.and IntKind.i64 ((s : Int) / 2 ^ i) 1 == 1) = s.testBit i := bit_test_fin ⟨s, hs⟩ ⟨i, hi⟩

set_option maxRecDepth 100000 in
set_option maxHeartbeats 4000000 in
theorem wrong1_seq (b1 : Nat) (A : Option Addr) (c : Nat) (l : List ByteArray) (W0 : World) (h1 : Boxed W0 b1 22 (.slice A l.length c)) (hl : StrsAt W0 A l) (hn : ∀ s ∈ l, Nm s) (hlen : l.length ≤ 6) (b0 : Nat) (hb0 : b0 ≤ W0.heap.size) :
    SeqAt Tryz.prog 100 #[.pointer (some ⟨b1, 0, none⟩)] 3 (RowI b0) (rightsL l (2 ^ l.length)) (fun k => k = b1 ∨ ∃ a, (A = some a ∧ l ≠ []) ∧ k = a.block) W0 := by
  intro W yl may J Jx hd hsz hdm hmw hJ hJx hY h0
  have H1 := Lib.hid h1
  have HL := Lib.hid hl
  have HN := Lib.hid hn
  have HD := Lib.hid hd
  have HM := Lib.hid hdm
  have HJ := Lib.hid hJ
  have HY := Lib.hid hY
  have H0 := Lib.hid h0
  have HZ := Lib.hid hsz
  have c1 := (boxed_keep H1.out (HD.out b1 (.inl rfl)).2).cell
  have hinfo : (Tryz.prog.info? 3).map (fun i => (i.zero, i.size, i.bytes)) = some (some (.int .i64 0), 1, 8) := by kernel_rfl
  obtain ⟨i0, hi, hz0, hz1, hz2⟩ : ∃ i0, Tryz.prog.info? 3 = some i0 ∧ i0.zero = some (.int .i64 0) ∧ i0.size = 1 ∧ i0.bytes = 8 := by
    cases h : Tryz.prog.info? 3 with
    | none => rw [h] at hinfo; cases hinfo
    | some i0 => rw [h] at hinfo; simp at hinfo; exact ⟨i0, rfl, hinfo.1, hinfo.2.1, hinfo.2.2⟩
  have HI := Lib.hid (And.intro hi (And.intro hz0 (And.intro hz1 hz2)))
  clear hinfo hi hz0 hz1 hz2
  have hinfo : (Tryz.prog.info? 9).map (fun i => (i.zero, i.size, i.bytes)) = some (some (.string ⟨#[]⟩), 1, 16) := by kernel_rfl
  obtain ⟨j0, hi, hz0, hz1, hz2⟩ : ∃ i0, Tryz.prog.info? 9 = some i0 ∧ i0.zero = some (.string ⟨#[]⟩) ∧ i0.size = 1 ∧ i0.bytes = 16 := by
    cases h : Tryz.prog.info? 9 with
    | none => rw [h] at hinfo; cases hinfo
    | some i0 => rw [h] at hinfo; simp at hinfo; exact ⟨i0, rfl, hinfo.1, hinfo.2.1, hinfo.2.2⟩
  have HIS := Lib.hid (And.intro hi (And.intro hz0 (And.intro hz1 hz2)))
  clear hinfo hi hz0 hz1 hz2
  clear h1 hl hn hd hdm hmw hJ hJx hY h0 hsz
  refine callsIn_of_wp Tryz.func100 rfl trivial ?_
  simp only [Tryz.ntmps100, List.size_toArray, List.length_cons, List.length_nil, Nat.reduceAdd, Nat.reduceSub, Array.replicate_succ, Array.replicate_zero, List.push_toArray, List.append_toArray, List.nil_append, List.cons_append]
  obtain ⟨Nn, hNn⟩ : ∃ Nn : Nat, 2 ^ l.length = Nn := ⟨_, rfl⟩
  have hNn6 : Nn ≤ 64 := by rw [← hNn]; exact Nat.le_trans (Nat.pow_le_pow_right (by omega) hlen) (by decide)
  have hpw : wrap64 (2 ^ l.length) = (Nn : Int) := by
    have : ((2 : Int) ^ l.length) = (Nn : Int) := by rw [← hNn]; simp
    rw [this]
    exact IntWalk.wrap64_in _ (by omega)
  rw [hNn]
  have HNn := Lib.hid hNn
  clear hNn
  gi_wp2_with fail
  refine wpIn_wide.2 ?_
  clear hpw
  go_loopg [11] Nn (fun gf v wx => ∃ set : Nat, v = .int .i64 (set : Int) ∧ set + gf = Nn ∧ W.heap.size ≤ wx.heap.size ∧ Hid (∀ k, (k = b1 ∨ ∃ a, (A = some a ∧ l ≠ []) ∧ k = a.block) → wx.heap[k]? = W.heap[k]?) ∧ Hid (J (rightsL l set) wx))
  case atStart => exact ⟨0, rfl, by omega, Nat.le_refl _, fun _ _ => rfl, H0.out⟩
  case round =>
    obtain ⟨set, rfl, hsg, hsz, HK, HJJ⟩ := hrel
    cases gk with
    | zero =>
      have hn2 : ¬ (set : Int) < (Nn : Int) := by omega
      refine (wpIn_wide (n := 0)).1 ?_
      gi_wp2_with fail
      go_end0
      have h3 := HJJ.out
      rw [show set = Nn by omega] at h3
      exact ⟨⟨_, rfl⟩, .inl h3⟩
    | succ g =>
      have hn2 : (set : Int) < (Nn : Int) := by omega
      have k1 := (boxed_keep H1.out ((HK.out b1 (.inl rfl)).trans (HD.out b1 (.inl rfl)).2)).cell
      have HLW : Hid (StrsAt wr A l) := HL.out.of_heap (fun a ha => (HK.out _ (.inr ⟨a, ha, rfl⟩)).trans (HD.out _ (.inr ⟨a, ha, rfl⟩)).2)
      obtain ⟨w0, rfl⟩ : ∃ w0 : World, w0 = wr := ⟨_, rfl⟩
      obtain ⟨R, hR⟩ : ∃ R, w0.heap.size = R := ⟨_, rfl⟩
      have HRR := Lib.hid hR
      clear hR
      go_wp2_with fail
      go_loopg [4, 5, 16] l.length (fun gf2 v4 v5 v16 wx => ∃ i : Nat, v16 = .int .i64 (i : Int) ∧ i + gf2 = l.length ∧ Hid (Below R w0 wx) ∧ Hid (wx.ownsRow R 3 1 v4 (outI set i).length ((outI set i).map (Value.int .i64))) ∧ Hid (outI set i = [] → v4 = .slice none 0 0) ∧
        Hid (wx.ownsRow R 9 1 v5 (restI l set i).length ((restI l set i).map Value.string)))
      case atStart => exact ⟨0, rfl, by omega, by rw [← HRR.out]; exact Below.refl _ _, ⟨by simp [outI], .inl ⟨rfl, rfl⟩⟩, fun _ => rfl, ⟨by simp [restI], .inl ⟨rfl, rfl⟩⟩⟩
      case round =>
        obtain ⟨i, rfl, hig, HB, HO, HON, HS⟩ := hrel
        cases gk with
        | zero =>
          have hn3 : ¬ (i : Int) < (l.length : Int) := by omega
          obtain rfl : i = l.length := by omega
          obtain ⟨A5, c5, hv5, hs5⟩ := own_strs HS.out
          subst hv5
          have HS5 := Lib.hid hs5
          have hrm := restI_mem (l := l) (set := set) (Nat.le_refl l.length)
          have hrl := restI_len l set l.length
          have HRM : Hid (∀ s ∈ restI l set l.length, Nm s) := fun s hs => HN.out s (hrm s hs)
          have hB : Below w0.heap.size w0 wr := by rw [HRR.out]; exact HB.out
          have HJ1 : Hid (J (rightsL l set) wr) := HJ.out _ _ _ HJJ.out hsz (Ext.of_below hB)
          have hszW : W.heap.size ≤ wr.heap.size := Nat.le_trans hsz hB.size
          have HKW : Hid (∀ k, (k = b1 ∨ ∃ a, (A = some a ∧ l ≠ []) ∧ k = a.block) → wr.heap[k]? = W.heap[k]?) := fun k hk =>
            (hB.block k (Nat.lt_of_lt_of_le (HD.out k hk).1 (Nat.le_trans HZ.out hsz))).trans (HK.out k hk)
          have HBR : Hid (b0 ≤ R) := by
            have h2 := HZ.out
            have h3 := HRR.out
            show _ ≤ _
            omega
          have HPRE : Hid (rightsL l (set + 1) <+: rightsL l Nn) := by
            have := rights_pre l (Nn - (set + 1)) (set + 1)
            rw [show set + 1 + (Nn - (set + 1)) = Nn by omega] at this
            exact this
          have HRS : Hid (rightsL l (set + 1) = rightsL l set ++ (if okN (restI l set l.length) then [outI set l.length] else [])) := rfl
          have HOK : Hid (okN (restI l set l.length) = downN (restI l set l.length) ((restI l set l.length).length - 1)) := rfl
          obtain ⟨rest, hrest⟩ : ∃ rest, restI l set l.length = rest := ⟨_, rfl⟩
          obtain ⟨out, hout⟩ : ∃ out, outI set l.length = out := ⟨_, rfl⟩
          rw [hrest] at HS5 HRM hrl HRS HOK ⊢
          rw [hout] at HO HON HRS
          clear hrest hout hB HS hrm hsz HK HJJ HLW
          refine (wpIn_wide (n := 0)).1 ?_
          gi_wp2_with fail
          refine (wpIn_wide (n := 0)).1 ?_
          gi_wp2_with fail
          refine ⟨trivial, rfl, ?_⟩
          refine (callsIn_wide.2 (isSorted_any A5 c5 rest wr HS5.out HRM.out (by omega))).mono ?_
          rintro en w3 ⟨rfl, hb3⟩
          have HK3 : Hid (∀ k, (k = b1 ∨ ∃ a, (A = some a ∧ l ≠ []) ∧ k = a.block) → w3.heap[k]? = W.heap[k]?) := fun k hk =>
            (hb3.block k (Nat.lt_of_lt_of_le (HD.out k hk).1 (Nat.le_trans HZ.out hszW))).trans (HKW.out k hk)
          have hsz3 : W.heap.size ≤ w3.heap.size := Nat.le_trans hszW hb3.size
          have HJ3 : Hid (J (rightsL l set) w3) := HJ.out _ _ _ HJ1.out hszW (Ext.of_below hb3)
          have HRI : Hid (RowI b0 w3 out u4) := by
            have h4 : RowI R wr out u4 := ⟨HO.out, HON.out⟩
            have h5 := h4.ext (Ext.of_below (B := 0) hb3)
            refine ⟨⟨h5.1.1, ?_⟩, h5.2⟩
            rcases h5.1.2 with h6 | ⟨g6, cap, cur, e6, hg6, r6⟩
            · exact .inl h6
            · exact .inr ⟨g6, cap, cur, e6, by have := HBR.out; omega, r6⟩
          clear hb3 HJ1 HKW hszW HO HON HB HS5 HRM
          obtain ⟨q, hq⟩ : ∃ q, downN rest (rest.length - 1) = q := ⟨_, rfl⟩
          rw [hq] at HOK ⊢
          clear hq
          cases q with
          | false =>
            have HRS2 : Hid (rightsL l (set + 1) = rightsL l set) := by show _ = _; rw [HRS.out, HOK.out]; simp
            clear HRS HOK
            gi_wp2_with fail
            refine ⟨fun _ h => (by cases h), ?_⟩
            gi_wp2_with fail
            go_wp2_with fail
            go_roundg g
            case measure => omega
            case rel => exact ⟨set + 1, by go_num, by omega, hsz3, HK3, by show J _ _; rw [HRS2.out]; exact HJ3.out⟩
          | true =>
            have HRS2 : Hid (rightsL l (set + 1) = rightsL l set ++ [out]) := by show _ = _; rw [HRS.out, HOK.out]; simp
            clear HRS HOK
            obtain ⟨fn, tmps, assign, body, hy, hR⟩ := HY.out (rightsL l set) out u4 w3 HJ3.out (by rw [← HRS2.out, HNn.out]; exact HPRE.out) HRI.out hsz3
            have HRR2 := Lib.hid hR
            clear hR
            gi_wp2_with fail
            refine ⟨rfl, ?_⟩
            refine HRR2.out.mono ?_
            rintro en Y (⟨rfl, hj, hk⟩ | ⟨rfl, hj, hk⟩)
            · gi_wp2_with fail
              go_wp2_with fail
              go_roundg g
              case measure => omega
              case rel =>
                exact ⟨set + 1, by go_num, by omega, Nat.le_trans hsz3 hk.size, fun k hkk => (hk.block k (Nat.lt_of_lt_of_le (HD.out k hkk).1 (Nat.le_trans HZ.out hsz3)) (HM.out k hkk)).trans (HK3.out k hkk), by show J _ _; rw [HRS2.out]; exact hj⟩
            · gi_wp2_with fail
              refine bodyPost_ret (results_none rfl _ _ _) rfl ?_
              exact ⟨⟨_, rfl⟩, .inr hj⟩
        | succ g2 =>
          have hn3 : (i : Int) < (l.length : Int) := by omega
          obtain ⟨b, off, rfl, k2⟩ := (HLW.out.below (by rw [HRR.out]; exact HB.out)) i (by omega)
          have a1 : (0 : Int) ≤ (i : Int) := by omega
          have a3 : (i : Int).toNat = i := by omega
          have HO' := Lib.hid (outI_succ set i)
          have HS' := Lib.hid (restI_succ l set i)
          have hol := outI_len set i
          have hrl := restI_len l set i
          have hRw : Hid (R ≤ wr.heap.size) := Nat.le_trans (by rw [HRR.out]; exact Nat.le_refl _) HB.out.size
          obtain ⟨x, hx⟩ : ∃ x, l.getD i ByteArray.empty = x := ⟨_, rfl⟩
          rw [hx] at k2 HS'
          have hbt := bit_test (s := set) (i := i) (by omega) (by omega)
          obtain ⟨q, hq⟩ : ∃ q, set.testBit i = q := ⟨_, rfl⟩
          rw [hq] at hbt HO' HS'
          clear hx hq
          cases q with
          | true =>
            have HO2 : Hid (outI set (i + 1) = outI set i ++ [(i : Int)]) := HO'.out
            have HS2 : Hid (restI l set (i + 1) = restI l set i) := by show _ = _; rw [HS'.out]; simp
            clear HO' HS'
            go_wp2_with (at_builtin; refine wpList_append_own _ rfl _ _ 23 rfl R 3 i0 (.int .i64 0) 1 8 Tryz.underlying23 HI.out.1 HI.out.2.1 HI.out.2.2.1 HI.out.2.2.2 rfl (by decide) _ _ _ rfl (HO.out.alloc _) ⟨wr.heap.size, 0, none⟩ 1 1 [.int .i64 (i : Int)] rfl rfl (cell_one_new _ _ _) (by simp [Value.oneCell']) (by unfold maxLen; omega) (by omega) (by have := hRw.out; simp; omega) ?_
                         intro v2 w2 hown2 hg2 hnil2
                         have HB2 : Hid (Below R w0 w2) := HB.out.trans (Below.grown ((Below.refl _ wr).alloc hRw.out _) hg2 (by have := hRw.out; simp; omega) (own_ge HO.out))
                         have HST2 := Lib.hid (own_apart HO.out HS.out (by decide) hg2)
                         have HON2 := Lib.hid hown2
                         clear hown2 hg2 hnil2)
            go_roundg g2
            case measure => omega
            case rel =>
              refine ⟨i + 1, by go_num, by omega, HB2, ?_, ?_, ?_⟩
              · have := HON2.out
                show World.ownsRow _ _ _ _ _ _ _
                rw [HO2.out, List.map_append, List.length_append]
                exact this
              · show outI set (i + 1) = [] → _
                rw [HO2.out]
                exact fun h => absurd h (by simp)
              · show World.ownsRow _ _ _ _ _ _ _
                rw [HS2.out]
                exact HST2.out
          | false =>
            have HO2 : Hid (outI set (i + 1) = outI set i) := by show _ = _; rw [HO'.out]; simp
            have HS2 : Hid (restI l set (i + 1) = restI l set i ++ [x]) := HS'.out
            clear HO' HS'
            go_wp2_with (at_builtin; refine wpList_append_own _ rfl _ _ 22 rfl R 9 j0 (.string ⟨#[]⟩) 1 16 Tryz.underlying22 HIS.out.1 HIS.out.2.1 HIS.out.2.2.1 HIS.out.2.2.2 rfl (by decide) _ _ _ rfl (HS.out.alloc _) ⟨wr.heap.size, 0, none⟩ 1 1 [.string x] rfl rfl (cell_one_new _ _ _) (by simp [Value.oneCell']) (by unfold maxLen; omega) (by omega) (by have := hRw.out; simp; omega) ?_
                         intro v2 w2 hown2 hg2 hnil2
                         have HB2 : Hid (Below R w0 w2) := HB.out.trans (Below.grown ((Below.refl _ wr).alloc hRw.out _) hg2 (by have := hRw.out; simp; omega) (own_ge HS.out))
                         have HOT2 := Lib.hid (own_apart HS.out HO.out (by decide) hg2)
                         have HSN2 := Lib.hid hown2
                         clear hown2 hg2 hnil2)
            go_roundg g2
            case measure => omega
            case rel =>
              refine ⟨i + 1, by go_num, by omega, HB2, ?_, ?_, ?_⟩
              · show World.ownsRow _ _ _ _ _ _ _
                rw [HO2.out]
                exact HOT2.out
              · show outI set (i + 1) = [] → _
                rw [HO2.out]
                exact HON.out
              · have := HSN2.out
                show World.ownsRow _ _ _ _ _ _ _
                rw [HS2.out, List.map_append, List.length_append]
                exact this

/-- What Wrong finds. -/
def wrongF (l : List ByteArray) : List Int × Int := if listedZ l = 0 then ((wrongL l).getD [], 0) else ([], listedZ l)
set_option maxRecDepth 100000 in
set_option maxHeartbeats 2000000 in
theorem wrong_any (A : Option Addr) (c : Nat) (l : List ByteArray) (w : World) (hl : StrsAt w A l) (hs : l.length ≤ 1000000 ∧ ∀ s ∈ l, s.size ≤ 1000000) :
    Calls Tryz.prog 56 #[.slice A l.length c] w fun e w' => ∃ v, e = .returned (.tuple #[v, .int .i64 (wrongF l).2]) ∧ RowI w.heap.size w' (wrongF l).1 v ∧ Below w.heap.size w w' := by
  have HL := Lib.hid hl
  have HLI := Lib.hid (fun W (hW : StrsAt W A l) => listed_any A c l W hW hs)
  clear hl hs
  obtain ⟨X, hX⟩ : ∃ X, w.alloc (Obj.cells #[Value.slice A l.length c] 22) = X := ⟨_, rfl⟩
  have hBX : Below w.heap.size w X := by rw [← hX]; exact (Below.refl _ w).alloc (Nat.le_refl _) _
  have hbox : Boxed X w.heap.size 22 (.slice A l.length c) := by rw [← hX]; exact Boxed.new w _ _
  have HCL := Lib.hid (HLI.out X (HL.out.below hBX))
  have HBX := Lib.hid (And.intro hBX hbox)
  have hcX := hbox.cell
  clear hBX hbox HLI
  by_cases h0 : listedZ l = 0
  · have HLN := Lib.hid (listed_nm2 h0)
    have HF : Hid (wrongF l = ((wrongL l).getD [], 0)) := by show _ = _; unfold wrongF; rw [if_pos h0]
    rw [h0] at HCL
    clear h0
    go_enter Tryz.func56, Tryz.ntmps56
    go_wp2_with fail
    clear hX
    refine HCL.out.mono ?_
    rintro e w1 ⟨rfl, hb1⟩
    have hbox1 : Boxed w1 w.heap.size 22 (.slice A l.length c) := (hb1.block _ HBX.out.2.lt).trans HBX.out.2
    have hB1 : Below w.heap.size w w1 := HBX.out.1.trans (hb1.mono HBX.out.1.size)
    have hs1 : StrsAt w1 A l := HL.out.below hB1
    have HSQ := Lib.hid (wrong1_seq w.heap.size A c l w1 hbox1 hs1 HLN.out.2 HLN.out.1 w.heap.size hB1.size)
    have HFI := Lib.hid (firstInts_any 100 #[.pointer (some ⟨w.heap.size, 0, none⟩)] (enters_of Tryz.func100 (by kernel_rfl) rfl) 103 (enters_of Tryz.func103 (by kernel_rfl) rfl)
      shorterF (RowI w.heap.size) (rightsL l (2 ^ l.length)) _ 3 w1 w1 HSQ.out
      (fun q hq => ⟨by
        rcases hq with rfl | ⟨a, ha, rfl⟩
        · exact hbox1.lt
        · obtain ⟨b, off, e1, k1⟩ := hs1 0 (List.length_pos_iff.2 ha.2)
          rw [ha.1] at e1
          obtain rfl := Option.some.inj e1
          exact World.block_lt_of_cell? w1 _ k1, rfl⟩) (Nat.le_refl _) (by decide) (by decide)
      (fun Y Z x v h hE => h.ext hE) (fun Y x v h => by obtain ⟨A9, c9, e9⟩ := h.slice; exact ⟨_, _, _, e9⟩)
      (fun W x y u v hW hx hy hu hv => by
        obtain ⟨sx, _, _, rfl⟩ := (mem_rightsL _).1 hx
        obtain ⟨sy, _, _, rfl⟩ := (mem_rightsL _).1 hy
        have lx := outI_len sx l.length
        have ly := outI_len sy l.length
        have l6 := HLN.out.1
        obtain ⟨Ax, cx, rfl, sx2⟩ := hu.read
        obtain ⟨Ay, cy, rfl, sy2⟩ := hv.read
        exact shorter_any Ax Ay cx cy _ _ W sx2 sy2 (by omega) (by omega)))
    have HB1 := Lib.hid hB1
    clear hbox1 hB1 hs1 hb1 HCL HSQ hcX
    go_wp2_with fail
    refine HFI.out.mono ?_
    rintro e w2 ⟨v2, rfl, hv2, hb2⟩
    have HB2 : Hid (Below w.heap.size w w2) := HB1.out.trans (hb2.mono HB1.out.size)
    have HV2 : Hid (RowI w.heap.size w2 (wrongF l).1 v2) := by
      show RowI _ _ _ _
      rw [HF.out]
      obtain ⟨x, hx⟩ := wrongL_some l
      have hx' : firstL shorterF (rightsL l (2 ^ l.length)) = some x := hx
      rw [hx'] at hv2
      rw [hx]
      exact hv2
    clear hv2 hb2 HB1 HFI
    go_wp2_with fail
    go_ret2
    exact ⟨_, by rw [HF.out]; rfl, HV2.out, HB2.out⟩
  · have HF : Hid (wrongF l = ([], listedZ l)) := by show _ = _; unfold wrongF; rw [if_neg h0]
    obtain ⟨z, hz⟩ : ∃ z, listedZ l = z := ⟨_, rfl⟩
    rw [hz] at HCL HF h0
    clear hz
    have h1 : (z == 0) = false := by simpa using h0
    go_enter Tryz.func56, Tryz.ntmps56
    go_wp2_with fail
    clear hX
    refine HCL.out.mono ?_
    rintro e w1 ⟨rfl, hb1⟩
    have HB1 : Hid (Below w.heap.size w w1) := HBX.out.1.trans (hb1.mono HBX.out.1.size)
    clear hb1 HCL hcX
    go_wp2_with fail
    go_ret2
    exact ⟨_, by rw [HF.out]; rfl, by rw [HF.out]; exact ⟨⟨by simp, .inl ⟨rfl, rfl⟩⟩, fun _ => rfl⟩, HB1.out⟩
end Go.Proofs.YtapikimhmjnjeaaGreatDoor

