/- Contracts and plain laws of the program's own functions: Grow, Chains, Chain. -/
import Derived.Test.YtapikimhmjnjeaaGreatDoorBaseB
import Derived.Maps.AppendAt
import Derived.Laws.Rows
import Derived.Carry
import Derived.Test.YtapikimhmjnjeaaGreatDoorBaseA
/- Contracts and plain laws of the program's own functions: Grow, Chains, Chain. -/
set_option linter.unusedVariables false
set_option linter.unusedSimpArgs false
/- What grow, the recursive function within package name's chains, hands to its yield. Sizes alone are asked. -/
namespace Go.Proofs.YtapikimhmjnjeaaGreatDoor
open Go.RowKit Go.Shelf
attribute [local go_sem] Oper.semAt_some

/-- Each string once, in the order in which they came. -/
def ddStep (acc : List ByteArray) (x : ByteArray) : List ByteArray := if memB x acc then acc else acc ++ [x]
def dd (xs : List ByteArray) : List ByteArray := xs.foldl ddStep []
theorem dd_snoc (xs : List ByteArray) (x : ByteArray) : dd (xs ++ [x]) = ddStep (dd xs) x := by simp [dd]
theorem dd_len (xs : List ByteArray) : (dd xs).length ≤ xs.length := by
  have : ∀ (ys acc : List ByteArray), (ys.foldl ddStep acc).length ≤ acc.length + ys.length := by
    intro ys
    induction ys with
    | nil => intro acc; simp
    | cons y ys ih =>
      intro acc
      have := ih (ddStep acc y)
      have h2 : (ddStep acc y).length ≤ acc.length + 1 := by unfold ddStep; split <;> simp
      simp only [List.foldl_cons, List.length_cons]
      omega
  have h := this xs []
  unfold dd
  simpa using h
theorem dd_pre {xs ys : List ByteArray} (h : xs <+: ys) : dd xs <+: dd ys := by
  obtain ⟨t, rfl⟩ := h
  have : ∀ (t acc : List ByteArray), acc <+: t.foldl ddStep acc := by
    intro t
    induction t with
    | nil => intro acc; exact List.prefix_rfl
    | cons y t ih => intro acc; exact List.IsPrefix.trans (by unfold ddStep; split; · exact List.prefix_rfl
                                                              · exact List.prefix_append ..) (ih _)
  unfold dd
  rw [List.foldl_append]
  exact this _ _
theorem memB_reverse (x : ByteArray) (ks : List ByteArray) : memB x ks.reverse = memB x ks := by simp [memB]

/-- What grow yields, with k uses still to come. -/
def growL (l : List Rl) (to : ByteArray) : Nat → ByteArray → List ByteArray → List (List ByteArray)
  | 0, now, before => if now.data.toList == to.data.toList then [before ++ [now]] else []
  | k + 1, now, before => (dd (usesL l now)).flatMap fun s => growL l to k s (before ++ [now])

theorem replAt_size {s a b x : ByteArray} {i : Nat} (h : x ∈ replAt s a b i) : x.size ≤ 12 := by
  unfold replAt at h
  split at h
  · split at h
    · rename_i hl
      obtain rfl : x = replT s a b i := by simpa using h
      unfold lettersB at hl
      simp only [Bool.and_eq_true, decide_eq_true_eq] at hl
      omega
    · simp at h
  · simp at h
theorem replN_size {s a b x : ByteArray} : ∀ (n i : Nat), x ∈ replN s a b n i → x.size ≤ 12
  | 0, _, h => by simp [replN] at h
  | n + 1, i, h => by
    unfold replN at h
    rcases List.mem_append.1 h with h | h
    · exact replAt_size h
    · exact replN_size n (i + 1) h
theorem usesL_size {l : List Rl} {s x : ByteArray} (h : x ∈ usesL l s) : x.size ≤ 12 := by
  unfold usesL at h
  obtain ⟨r, _, hr⟩ := List.mem_flatMap.1 h
  unfold useL at hr
  rcases List.mem_append.1 hr with h | h <;> exact replN_size _ _ h
theorem replN_len (s a b : ByteArray) : ∀ (n i : Nat), (replN s a b n i).length ≤ n
  | 0, _ => by simp [replN]
  | n + 1, i => by
    have := replN_len s a b n (i + 1)
    have h2 : (replAt s a b i).length ≤ 1 := by
      unfold replAt
      split
      · split <;> simp
      · simp
    simp only [replN, List.length_append]
    omega
theorem usesL_len (l : List Rl) (s : ByteArray) (hs : s.size ≤ 1000) (hl : l.length ≤ 1000) : (usesL l s).length ≤ 2002000 := by
  have : ∀ m : List Rl, (usesL m s).length ≤ m.length * 2002 := by
    intro m
    induction m with
    | nil => simp [usesL]
    | cons r m ih =>
      have h1 := replN_len s r.1 r.2 (s.size + 1) 0
      have h2 := replN_len s r.2 r.1 (s.size + 1) 0
      have e : usesL (r :: m) s = (replL s r.1 r.2 ++ replL s r.2 r.1) ++ usesL m s := rfl
      rw [e, List.length_append, List.length_append]
      unfold replL
      simp only [List.length_cons]
      omega
  have := this l
  omega

theorem RulesAt.of_heap {V X : World} {A : Option Addr} {l : List Rl} (h : RulesAt V A l) (hx : ∀ a, (A = some a ∧ l ≠ []) → X.heap[a.block]? = V.heap[a.block]?) : RulesAt X A l := fun i hi => by
  obtain ⟨b, off, rfl, h1, h2⟩ := h i hi
  have := hx _ ⟨rfl, by intro h; subst h; simp at hi⟩
  exact ⟨b, off, rfl, (cell_of_heap this _).trans h1, (cell_of_heap this _).trans h2⟩

/-- What the loop within grow keeps: the blocks on which it leans, and its own but the set's, as they lay in X6; the set; what the caller keeps. -/
structure GI (own : Nat → Prop) (may : Nat → Prop) (X X6 : World) (mb : Nat) (ks : List ByteArray) (J : World → Prop) (Z : World) : Prop where
  size : X6.heap.size ≤ Z.heap.size
  blk : ∀ q, own q → Z.heap[q]? = X6.heap[q]?
  set : SetAt Z mb ks
  j : J Z
  keep : Keeps may X Z
theorem GI.ext {own may : Nat → Prop} {X X6 Z Z2 : World} {mb B : Nat} {e : TypeId} {ks : List ByteArray} {J J2 : World → Prop} (h : GI own may X X6 mb ks J Z) (ho : ∀ q, own q → q < X6.heap.size) (hm : mb < X6.heap.size) (hX : X.heap.size ≤ X6.heap.size)
    (hE : Ext B e Z Z2) (hB : X6.heap.size ≤ B) (j : J2 Z2) : GI own may X X6 mb ks J2 Z2 where
  size := Nat.le_trans h.size hE.size
  blk := fun q hq => (hE.block (Array.getElem?_eq_getElem (Nat.lt_of_lt_of_le (ho q hq) h.size)) (.inl (by have := ho q hq; omega))).trans (h.blk q hq)
  set := h.set.kept (hE.block (Array.getElem?_eq_getElem (Nat.lt_of_lt_of_le hm h.size)) (.inl (by omega)))
  j := j
  keep := h.keep.ext hE (by omega)
theorem GI.keeps {own may : Nat → Prop} {X X6 Z Z2 : World} {mb : Nat} {ks : List ByteArray} {J J2 : World → Prop} (h : GI own may X X6 mb ks J Z) (ho : ∀ q, own q → q < X6.heap.size ∧ ¬ may q) (hm : mb < X6.heap.size ∧ ¬ may mb)
    (hE : Keeps may Z Z2) (j : J2 Z2) : GI own may X X6 mb ks J2 Z2 where
  size := Nat.le_trans h.size hE.size
  blk := fun q hq => (hE.block q (Nat.lt_of_lt_of_le (ho q hq).1 h.size) (ho q hq).2).trans (h.blk q hq)
  set := h.set.kept (hE.block mb (Nat.lt_of_lt_of_le hm.1 h.size) hm.2)
  j := j
  keep := h.keep.trans hE
theorem GI.upd {own may : Nat → Prop} {X X6 Z Z2 : World} {mb : Nat} {ks ks2 : List ByteArray} {J J2 : World → Prop} (h : GI own may X X6 mb ks J Z) (ho : ∀ q, own q → q < X6.heap.size) (hon : ¬ own mb) (hX : X.heap.size ≤ mb)
    (hg : Z.grownBy Z2 (some mb)) (hs : SetAt Z2 mb ks2) (j : J2 Z2) : GI own may X X6 mb ks2 J2 Z2 where
  size := Nat.le_trans h.size hg.size
  blk := fun q hq => (hg.block q (Nat.lt_of_lt_of_le (ho q hq) h.size) (fun e => hon (by cases e; exact hq))).trans (h.blk q hq)
  set := hs
  j := j
  keep := ⟨hg.os.trans h.keep.os, hg.tape.trans h.keep.tape, hg.output.trans h.keep.output, Nat.le_trans h.keep.size hg.size, fun q hq hm => (hg.block q (Nat.lt_of_lt_of_le hq h.keep.size) (fun e => by cases e; omega)).trans (h.keep.block q hq hm)⟩

theorem results_bool {fn : Func} {p : Tmp} (h : fn.results = #[.cell p 4]) (tmps : Array Value) (W : World) (g : Nat) (x : Bool) (hp : tmps.getD p undef = .pointer (some ⟨g, 0, none⟩)) (hb : Boxed W g 4 (.bool x)) :
    (results fn tmps).run Tryz.prog W = .ok (.bool x) W := by
  have hp' : tmps[p]?.getD undef = .pointer (some ⟨g, 0, none⟩) := by simpa using hp
  have hc := hb.cell
  have hu := Tryz.underlying4
  simp [results, h, hp', asAddr, go_sem, hc, hu]

/-- The boxes of grow. -/
structure GEnv (V : World) (yl bm bt yb bl gb : Nat) (many : Int) (to : ByteArray) (A : Option Addr) (c : Nat) (l : List Rl) : Prop where
  m : Boxed V bm 3 (.int .i64 many)
  t : Boxed V bt 90 (.string to)
  y : Boxed V yb 121 (.func (.yield yl) #[] #[])
  lv : Boxed V bl 42 (.slice A l.length c)
  g : Boxed V gb 159 (.func (.func 147) #[] #[.pointer (some ⟨bm, 0, none⟩), .pointer (some ⟨bt, 0, none⟩), .pointer (some ⟨yb, 0, none⟩), .pointer (some ⟨bl, 0, none⟩), .pointer (some ⟨gb, 0, none⟩)])
  r : RulesAt V A l
/-- The blocks on which grow leans. -/
def gdep (bm bt yb bl gb : Nat) (A : Option Addr) (l : List Rl) (k : Nat) : Prop := k = bm ∨ k = bt ∨ k = yb ∨ k = bl ∨ k = gb ∨ ∃ a, (A = some a ∧ l ≠ []) ∧ k = a.block

set_option maxRecDepth 100000 in
set_option maxHeartbeats 4000000 in
theorem grow_any (V : World) (yl bm bt yb bl gb : Nat) (many : Nat) (to : ByteArray) (A : Option Addr) (c : Nat) (l : List Rl) (henv : GEnv V yl bm bt yb bl gb (many : Int) to A c l)
    (b0 : Nat) (hb0 : b0 ≤ V.heap.size) (hmany : many ≤ 100) (hl : l.length ≤ 1000) (hr : ∀ r ∈ l, r.1.size ≤ 1000 ∧ r.2.size ≤ 1000)
    (may : Nat → Prop) (J : List (List ByteArray) → World → Prop) (Jx : World → Prop) (xs : List (List ByteArray))
    (hlt : ∀ k, gdep bm bt yb bl gb A l k → k < V.heap.size ∧ ¬ may k) (hmw : ∀ k, V.heap.size ≤ k → ¬ may k)
    (hJ : ∀ pre X Y, J pre X → V.heap.size ≤ X.heap.size → Ext V.heap.size 9 X Y → J pre Y) (hJx : ∀ X Y, Jx X → V.heap.size ≤ X.heap.size → Ext V.heap.size 9 X Y → Jx Y)
    (hY : ∀ pre x v X, J pre X → pre ++ [x] <+: xs → RowIs b0 X x v → V.heap.size ≤ X.heap.size → YieldAt Fence.wide 0 Tryz.prog yl #[v] X fun en Y =>
      (en = .returned (.bool true) ∧ J (pre ++ [x]) Y ∧ Keeps may X Y) ∨ (en = .returned (.bool false) ∧ Jx Y ∧ Keeps may X Y)) :
    ∀ (k : Nat) (now : ByteArray) (before : List ByteArray) (bv : Value) (pre : List (List ByteArray)) (X : World), before.length + k = many → now.size ≤ 1000 → V.heap.size ≤ X.heap.size →
      (∀ q, gdep bm bt yb bl gb A l q → X.heap[q]? = V.heap[q]?) → J pre X → pre ++ growL l to k now before <+: xs → RowIs b0 X before bv →
      CallsIn Fence.wide 0 Tryz.prog 147 #[.string now, bv, .pointer (some ⟨bm, 0, none⟩), .pointer (some ⟨bt, 0, none⟩), .pointer (some ⟨yb, 0, none⟩), .pointer (some ⟨bl, 0, none⟩), .pointer (some ⟨gb, 0, none⟩)] X fun en Y =>
        (en = .returned (.bool true) ∧ J (pre ++ growL l to k now before) Y ∧ Keeps may X Y) ∨ (en = .returned (.bool false) ∧ Jx Y ∧ Keeps may X Y) := by
  have HEN := Lib.hid henv
  have HL := Lib.hid hlt
  have HW := Lib.hid hmw
  have HJ := Lib.hid hJ
  have HX := Lib.hid hJx
  have HY := Lib.hid hY
  have HR := Lib.hid hr
  clear henv hlt hmw hJ hJx hY hr
  have hinfo : (Tryz.prog.info? 9).map (fun i => (i.zero, i.size, i.bytes)) = some (some (.string ⟨#[]⟩), 1, 16) := by kernel_rfl
  obtain ⟨i0, hi, hz0, hz1, hz2⟩ : ∃ i0, Tryz.prog.info? 9 = some i0 ∧ i0.zero = some (.string ⟨#[]⟩) ∧ i0.size = 1 ∧ i0.bytes = 16 := by
    cases h : Tryz.prog.info? 9 with
    | none => rw [h] at hinfo; cases hinfo
    | some i0 => rw [h] at hinfo; simp at hinfo; exact ⟨i0, rfl, hinfo.1, hinfo.2.1, hinfo.2.2⟩
  have HI := Lib.hid hi
  have HI0 := Lib.hid hz0
  have HI1 := Lib.hid hz1
  have HI2 := Lib.hid hz2
  clear hinfo hi hz0 hz1 hz2
  intro k
  induction k with
  | zero =>
    intro now before bv pre X hbk hnow hsz hdep hj hpre hrow
    have HDP := Lib.hid hdep
    have HJ0 := Lib.hid hj
    have HPRE := Lib.hid hpre
    have HROW := Lib.hid hrow
    have HC := Lib.hid (clone_any b0 before bv X hrow (by omega))
    clear hdep hj hpre hrow
    refine callsIn_of_wp_marks (n := 0) (F := Fence.wide) Tryz.func147 rfl trivial ?_
    simp only [Tryz.ntmps147, List.size_toArray, List.length_cons, List.length_nil, Nat.reduceAdd, Nat.reduceSub, Array.replicate_succ, Array.replicate_zero, List.push_toArray, List.append_toArray, List.nil_append, List.cons_append]
    cases hqe : (now.toList == to.toList) with
    | false =>
      have HG0 : Hid (growL l to 0 now before = []) := by
        show _ = _
        unfold growL; rw [← ByteArray.toList_eq, ← ByteArray.toList_eq, hqe]; rfl
      gi_wp2_with fail
      refine ⟨trivial, rfl, ?_⟩
      obtain ⟨X1, hX1⟩ : ∃ X1, X.alloc (Obj.cells #[Value.bool false] 4) = X1 := ⟨_, rfl⟩
      rw [hX1]
      have hs1 : X1.heap.size = X.heap.size + 1 := by rw [← hX1]; simp
      have hB1 : Below X.heap.size X X1 := by rw [← hX1]; exact (Below.refl _ X).alloc (Nat.le_refl _) _
      have r9 : Boxed X1 X.heap.size 4 (.bool false) := by rw [← hX1]; exact Boxed.new X _ _
      clear hX1
      refine (callsIn_wide.2 (clone_any b0 before bv X1 (HROW.out.below hB1) (by omega))).mono ?_
      rintro en w1 ⟨v1, rfl, hown, hb1⟩
      have hX1w : Hid (X1.heap.size ≤ w1.heap.size) := hb1.size
      gi_wp2_with (gi_at_builtin; refine wpListIn_append_own _ rfl _ _ 22 rfl X1.heap.size 9 i0 (.string ⟨#[]⟩) 1 16 Tryz.underlying22 HI.out HI0.out HI1.out HI2.out rfl (by decide) _ _ _ rfl (hown.alloc _) ⟨w1.heap.size, 0, none⟩ 1 1 [.string now] rfl rfl (cell_one_new _ _ _) (by simp [Value.oneCell']) (by unfold maxLen; omega) (by omega) (by have := hX1w.out; simp; omega) ?_
                   intro v2 w2 hown2 hg2 _
                   have hB2 : Below X1.heap.size X1 w2 := Below.grown (hb1.alloc hb1.size _) hg2 (by have := hX1w.out; simp; omega) (own_ge hown)
                   have hBX : Below X.heap.size X w2 := hB1.trans (hB2.mono (by omega))
                   have HBX := Lib.hid hBX
                   have r9' : Boxed w2 X.heap.size 4 (.bool false) := (hB2.block _ (by omega)).trans r9
                   have HR9 := Lib.hid r9'
                   have hsz2 : X.heap.size < w2.heap.size := by have := hB2.size; omega
                   obtain ⟨g2, cap2, rfl⟩ := ownsRow_succ hown2
                   have HROW2 : Hid (RowIs (X.heap.size + 1) w2 (before ++ [now]) (.slice (some ⟨g2, 0, none⟩) (before.length + 1) cap2)) := ⟨by rw [← hs1]; simpa using hown2, by simp⟩
                   have cm : w2.cell? ⟨bm, 0, none⟩ = some (.int .i64 (many : Int)) := (hBX.cell (p := ⟨bm, 0, none⟩) (by have := (HL.out bm (.inl rfl)).1; simp; omega)).trans ((cell_of_heap (HDP.out bm (.inl rfl)) 0).trans HEN.out.m.cell)
                   have hbm : bm < w2.heap.size := by have := (HL.out bm (.inl rfl)).1; omega
                   have ct : w2.cell? ⟨bt, 0, none⟩ = some (.string to) := (hBX.cell (p := ⟨bt, 0, none⟩) (by have := (HL.out bt (.inr (.inl rfl))).1; simp; omega)).trans ((cell_of_heap (HDP.out bt (.inr (.inl rfl))) 0).trans HEN.out.t.cell)
                   have hbt : bt < w2.heap.size := by have := (HL.out bt (.inr (.inl rfl))).1; omega
                   have cy : w2.cell? ⟨yb, 0, none⟩ = some (.func (.yield yl) #[] #[]) := (hBX.cell (p := ⟨yb, 0, none⟩) (by have := (HL.out yb (.inr (.inr (.inl rfl)))).1; simp; omega)).trans ((cell_of_heap (HDP.out yb (.inr (.inr (.inl rfl)))) 0).trans HEN.out.y.cell)
                   have hyb : yb < w2.heap.size := by have := (HL.out yb (.inr (.inr (.inl rfl)))).1; omega
                   have c9 := r9'.cell
                   have f9 := r9'.frozen
                   clear hown hown2 hb1 hg2 hB2 hBX r9' r9 hB1)
      refine ⟨fun _ h => (by cases h), ?_⟩
      gi_wp2_with fail
      refine ⟨_, results_bool rfl _ _ X.heap.size true rfl ((HR9.out.set _).alloc _), .inl ⟨rfl, ?_, ?_⟩⟩
      · rw [HG0.out, List.append_nil]
        exact HJ.out pre X _ HJ0.out hsz (((Ext.of_below HBX.out).trans (Ext.setCell HR9.out hsz (by decide) 0 _)).trans (Ext.alloc _ _ _ _))
      · exact (Keeps.of_below HBX.out).ext ((Ext.setCell (B := X.heap.size) (e := 9) HR9.out (Nat.le_refl _) (by decide) 0 _).trans (Ext.alloc _ _ _ _)) (Nat.le_refl _)
    | true =>
      have HG0 : Hid (growL l to 0 now before = [before ++ [now]]) := by
        show _ = _
        unfold growL; rw [← ByteArray.toList_eq, ← ByteArray.toList_eq, hqe]; rfl
      gi_wp2_with fail
      refine ⟨trivial, rfl, ?_⟩
      obtain ⟨X1, hX1⟩ : ∃ X1, X.alloc (Obj.cells #[Value.bool false] 4) = X1 := ⟨_, rfl⟩
      rw [hX1]
      have hs1 : X1.heap.size = X.heap.size + 1 := by rw [← hX1]; simp
      have hB1 : Below X.heap.size X X1 := by rw [← hX1]; exact (Below.refl _ X).alloc (Nat.le_refl _) _
      have r9 : Boxed X1 X.heap.size 4 (.bool false) := by rw [← hX1]; exact Boxed.new X _ _
      clear hX1
      refine (callsIn_wide.2 (clone_any b0 before bv X1 (HROW.out.below hB1) (by omega))).mono ?_
      rintro en w1 ⟨v1, rfl, hown, hb1⟩
      have hX1w : Hid (X1.heap.size ≤ w1.heap.size) := hb1.size
      gi_wp2_with (gi_at_builtin; refine wpListIn_append_own _ rfl _ _ 22 rfl X1.heap.size 9 i0 (.string ⟨#[]⟩) 1 16 Tryz.underlying22 HI.out HI0.out HI1.out HI2.out rfl (by decide) _ _ _ rfl (hown.alloc _) ⟨w1.heap.size, 0, none⟩ 1 1 [.string now] rfl rfl (cell_one_new _ _ _) (by simp [Value.oneCell']) (by unfold maxLen; omega) (by omega) (by have := hX1w.out; simp; omega) ?_
                   intro v2 w2 hown2 hg2 _
                   have hB2 : Below X1.heap.size X1 w2 := Below.grown (hb1.alloc hb1.size _) hg2 (by have := hX1w.out; simp; omega) (own_ge hown)
                   have hBX : Below X.heap.size X w2 := hB1.trans (hB2.mono (by omega))
                   have HBX := Lib.hid hBX
                   have r9' : Boxed w2 X.heap.size 4 (.bool false) := (hB2.block _ (by omega)).trans r9
                   have HR9 := Lib.hid r9'
                   have hsz2 : X.heap.size < w2.heap.size := by have := hB2.size; omega
                   obtain ⟨g2, cap2, rfl⟩ := ownsRow_succ hown2
                   have HROW2 : Hid (RowIs (X.heap.size + 1) w2 (before ++ [now]) (.slice (some ⟨g2, 0, none⟩) (before.length + 1) cap2)) := ⟨by rw [← hs1]; simpa using hown2, by simp⟩
                   have cm : w2.cell? ⟨bm, 0, none⟩ = some (.int .i64 (many : Int)) := (hBX.cell (p := ⟨bm, 0, none⟩) (by have := (HL.out bm (.inl rfl)).1; simp; omega)).trans ((cell_of_heap (HDP.out bm (.inl rfl)) 0).trans HEN.out.m.cell)
                   have hbm : bm < w2.heap.size := by have := (HL.out bm (.inl rfl)).1; omega
                   have ct : w2.cell? ⟨bt, 0, none⟩ = some (.string to) := (hBX.cell (p := ⟨bt, 0, none⟩) (by have := (HL.out bt (.inr (.inl rfl))).1; simp; omega)).trans ((cell_of_heap (HDP.out bt (.inr (.inl rfl))) 0).trans HEN.out.t.cell)
                   have hbt : bt < w2.heap.size := by have := (HL.out bt (.inr (.inl rfl))).1; omega
                   have cy : w2.cell? ⟨yb, 0, none⟩ = some (.func (.yield yl) #[] #[]) := (hBX.cell (p := ⟨yb, 0, none⟩) (by have := (HL.out yb (.inr (.inr (.inl rfl)))).1; simp; omega)).trans ((cell_of_heap (HDP.out yb (.inr (.inr (.inl rfl)))) 0).trans HEN.out.y.cell)
                   have hyb : yb < w2.heap.size := by have := (HL.out yb (.inr (.inr (.inl rfl)))).1; omega
                   have hBA := hBX.alloc hBX.size (Obj.cells #[Value.slice (some { block := g2, off := 0 }) (before.length + 1) cap2] 22)
                   have HJW := Lib.hid (HJ.out pre X _ HJ0.out hsz (Ext.of_below (B := V.heap.size) hBA))
                   obtain ⟨fn, tmps, assign, body, hy, hRd⟩ := HY.out pre (before ++ [now]) (.slice (some ⟨g2, 0, none⟩) (before.length + 1) cap2) (w2.alloc (Obj.cells #[Value.slice (some { block := g2, off := 0 }) (before.length + 1) cap2] 22)) HJW.out
                     (by have := HPRE.out; rw [HG0.out] at this; exact this) ((HROW2.out.below ((Below.refl _ _).alloc (Nat.le_refl _) _)).lower (by omega)) (by have := hBA.size; omega)
                   have HRD := Lib.hid hRd
                   clear hRd hBA
                   clear hown hown2 hb1 hg2 hB2 hBX r9' r9 hB1)
      have hBA := HBX.out.alloc HBX.out.size (Obj.cells #[Value.slice (some { block := g2, off := 0 }) (before.length + 1) cap2] 22)
      have b9 := HR9.out.alloc (Obj.cells #[Value.slice (some { block := g2, off := 0 }) (before.length + 1) cap2] 22)
      refine ⟨rfl, ?_⟩
      refine HRD.out.mono ?_
      have hX9 : X.heap.size < (w2.alloc (Obj.cells #[Value.slice (some { block := g2, off := 0 }) (before.length + 1) cap2] 22)).heap.size := by simp; omega
      clear hy
      generalize w2.alloc (Obj.cells #[Value.slice (some { block := g2, off := 0 }) (before.length + 1) cap2] 22) = WA at hBA b9 hX9 ⊢
      rintro en Y (⟨rfl, hj2, hk2⟩ | ⟨rfl, hj2, hk2⟩)
      · have h9 : Boxed Y X.heap.size 4 (.bool false) := boxed_keep b9 (hk2.block _ hX9 (HW.out _ hsz))
        have hc9 := h9.cell
        have hf9 := h9.frozen
        gi_wp2_with fail
        refine ⟨_, results_bool rfl _ _ X.heap.size true rfl (h9.set _), .inl ⟨rfl, ?_, ?_⟩⟩
        · rw [HG0.out]
          exact HJ.out _ _ _ hj2 (by have := hk2.size; have := hBA.size; omega) (Ext.setCell h9 hsz (by decide) 0 _)
        · exact ((Keeps.of_below hBA).trans hk2).ext (Ext.setCell (B := X.heap.size) (e := 9) h9 (Nat.le_refl _) (by decide) 0 _) (Nat.le_refl _)
      · have h9 : Boxed Y X.heap.size 4 (.bool false) := boxed_keep b9 (hk2.block _ hX9 (HW.out _ hsz))
        have hc9 := h9.cell
        have hf9 := h9.frozen
        gi_wp2_with fail
        refine ⟨_, results_bool rfl _ _ X.heap.size false rfl (h9.set _), .inr ⟨rfl, ?_, ?_⟩⟩
        · exact HX.out _ _ hj2 (by have := hk2.size; have := hBA.size; omega) (Ext.setCell h9 hsz (by decide) 0 _)
        · exact ((Keeps.of_below hBA).trans hk2).ext (Ext.setCell (B := X.heap.size) (e := 9) h9 (Nat.le_refl _) (by decide) 0 _) (Nat.le_refl _)
  | succ k ih =>
    intro now before bv pre X hbk hnow hsz hdep hj hpre hrow
    have HIH := Lib.hid ih
    have HDP := Lib.hid hdep
    have HJ0 := Lib.hid hj
    have HPRE := Lib.hid hpre
    have HROW := Lib.hid hrow
    have HC := Lib.hid (clone_any b0 before bv X hrow (by omega))
    clear ih hdep hj hpre hrow
    refine callsIn_of_wp_marks (n := 0) (F := Fence.wide) Tryz.func147 rfl trivial ?_
    simp only [Tryz.ntmps147, List.size_toArray, List.length_cons, List.length_nil, Nat.reduceAdd, Nat.reduceSub, Array.replicate_succ, Array.replicate_zero, List.push_toArray, List.append_toArray, List.nil_append, List.cons_append]
    gi_wp2_with fail
    refine ⟨trivial, rfl, ?_⟩
    obtain ⟨X1, hX1⟩ : ∃ X1, X.alloc (Obj.cells #[Value.bool false] 4) = X1 := ⟨_, rfl⟩
    rw [hX1]
    have hs1 : X1.heap.size = X.heap.size + 1 := by rw [← hX1]; simp
    have hB1 : Below X.heap.size X X1 := by rw [← hX1]; exact (Below.refl _ X).alloc (Nat.le_refl _) _
    have r9 : Boxed X1 X.heap.size 4 (.bool false) := by rw [← hX1]; exact Boxed.new X _ _
    clear hX1
    refine (callsIn_wide.2 (clone_any b0 before bv X1 (HROW.out.below hB1) (by omega))).mono ?_
    rintro en w1 ⟨v1, rfl, hown, hb1⟩
    have hX1w : Hid (X1.heap.size ≤ w1.heap.size) := hb1.size
    gi_wp2_with (gi_at_builtin; refine wpListIn_append_own _ rfl _ _ 22 rfl X1.heap.size 9 i0 (.string ⟨#[]⟩) 1 16 Tryz.underlying22 HI.out HI0.out HI1.out HI2.out rfl (by decide) _ _ _ rfl (hown.alloc _) ⟨w1.heap.size, 0, none⟩ 1 1 [.string now] rfl rfl (cell_one_new _ _ _) (by simp [Value.oneCell']) (by unfold maxLen; omega) (by omega) (by have := hX1w.out; simp; omega) ?_
                 intro v2 w2 hown2 hg2 _
                 have hB2 : Below X1.heap.size X1 w2 := Below.grown (hb1.alloc hb1.size _) hg2 (by have := hX1w.out; simp; omega) (own_ge hown)
                 have hBX : Below X.heap.size X w2 := hB1.trans (hB2.mono (by omega))
                 have HBX := Lib.hid hBX
                 have r9' : Boxed w2 X.heap.size 4 (.bool false) := (hB2.block _ (by omega)).trans r9
                 have HR9 := Lib.hid r9'
                 have hsz2 : X.heap.size < w2.heap.size := by have := hB2.size; omega
                 obtain ⟨g2, cap2, rfl⟩ := ownsRow_succ hown2
                 have HROW2 : Hid (RowIs (X.heap.size + 1) w2 (before ++ [now]) (.slice (some ⟨g2, 0, none⟩) (before.length + 1) cap2)) := ⟨by rw [← hs1]; simpa using hown2, by simp⟩
                 have cm : w2.cell? ⟨bm, 0, none⟩ = some (.int .i64 (many : Int)) := (hBX.cell (p := ⟨bm, 0, none⟩) (by have := (HL.out bm (.inl rfl)).1; simp; omega)).trans ((cell_of_heap (HDP.out bm (.inl rfl)) 0).trans HEN.out.m.cell)
                 have hbm : bm < w2.heap.size := by have := (HL.out bm (.inl rfl)).1; omega
                 have cl : w2.cell? ⟨bl, 0, none⟩ = some (.slice A l.length c) := (hBX.cell (p := ⟨bl, 0, none⟩) (by have := (HL.out bl (.inr (.inr (.inr (.inl rfl))))).1; simp; omega)).trans ((cell_of_heap (HDP.out bl (.inr (.inr (.inr (.inl rfl))))) 0).trans HEN.out.lv.cell)
                 have hbl : bl < w2.heap.size := by have := (HL.out bl (.inr (.inr (.inr (.inl rfl))))).1; omega
                 have hbl1 : bl < w2.heap.size + 1 := by omega
                 have hbl2 : bl < w2.heap.size + 1 + 1 := by omega
                 have hmm := @run_makeMap Tryz.prog
                 clear hown hown2 hb1 hg2 hB2 hBX r9' r9 hB1)
    refine ⟨trivial, rfl, ?_⟩
    obtain ⟨m10, hm10⟩ : ∃ m10, w2.heap.size = m10 := ⟨_, rfl⟩
    obtain ⟨mb, hmb⟩ : ∃ mb, m10 + 1 = mb := ⟨_, rfl⟩
    obtain ⟨m11, hm11⟩ : ∃ m11, m10 + 1 + 1 = m11 := ⟨_, rfl⟩
    obtain ⟨X5, hX5⟩ : ∃ X5, ((w2.alloc (Obj.cells #[Value.slice (some { block := g2, off := 0 }) (before.length + 1) cap2] 22)).alloc (Obj.map #[] 0)).alloc (Obj.cells #[Value.map (some (w2.heap.size + 1))] 155) = X5 := ⟨_, rfl⟩
    have hs5 : X5.heap.size = m10 + 3 := by rw [← hX5, ← hm10]; simp
    have hB5 : Below w2.heap.size w2 X5 := by rw [← hX5]; exact (((Below.refl _ w2).alloc (Nat.le_refl _) _).alloc (by simp) _).alloc (by simp; omega) _
    have r10 : Boxed X5 m10 22 (.slice (some { block := g2, off := 0 }) (before.length + 1) cap2) := by rw [← hX5, ← hm10]; exact ((Boxed.new w2 _ _).alloc _).alloc _
    have rS : SetAt X5 mb [] := by
      have h0 := SetAt.made (w2.alloc (Obj.cells #[Value.slice (some { block := g2, off := 0 }) (before.length + 1) cap2] 22))
      have h1 := h0.kept (w' := X5) (by rw [← hX5]; exact Below.heap_alloc _ _ _ (by simp))
      rwa [World.size_alloc, hm10, hmb] at h1
    have r11 : Boxed X5 m11 155 (.map (some mb)) := by
      have := Boxed.new ((w2.alloc (Obj.cells #[Value.slice (some { block := g2, off := 0 }) (before.length + 1) cap2] 22)).alloc (Obj.map #[] 0)) 155 (.map (some (w2.heap.size + 1)))
      rw [World.size_alloc, World.size_alloc, hX5, hm10, hm11, hmb] at this
      exact this
    rw [hX5, hm10, hm11, hmb]
    refine (callsIn_wide.2 (uses_any now A l.length c X5)).mono ?_
    rintro en X6 ⟨rfl, hX6⟩
    obtain ⟨q0, hq0⟩ : ∃ q0, X5.heap.size = q0 := ⟨_, rfl⟩
    have hs6 : X6.heap.size = q0 + 2 := by rw [hX6]; simp [hq0]
    have hB6 : Below X5.heap.size X5 X6 := by rw [hX6]; exact ((Below.refl _ X5).alloc (Nat.le_refl _) _).alloc (by simp) _
    have u0 : Boxed X6 q0 90 (.string now) := by rw [hX6, ← hq0]; exact (Boxed.new X5 _ _).alloc _
    have u1 : Boxed X6 (q0 + 1) 42 (.slice A l.length c) := by
      rw [hX6, ← hq0]; have := Boxed.new (X5.alloc (.cells #[.string now] 90)) 42 (.slice A l.length c); rwa [World.size_alloc] at this
    have hBX6 : Below X.heap.size X X6 := HBX.out.trans ((hB5.trans (hB6.mono (by omega))).mono (by omega))
    have hg2 := HROW2.out.blk
    have hVX : V.heap.size ≤ X.heap.size := hsz
    obtain ⟨own, hown⟩ : ∃ own : Nat → Prop, own = fun q => gdep bm bt yb bl gb A l q ∨ q = X.heap.size ∨ q = g2 ∨ q = m10 ∨ q = m11 := ⟨_, rfl⟩
    have HO : Hid (∀ q, own q → q < X6.heap.size ∧ ¬ may q) := fun q hq => by
      rw [hown] at hq
      rcases hq with hq | rfl | rfl | rfl | rfl
      · exact ⟨by have := (HL.out q hq).1; omega, (HL.out q hq).2⟩
      all_goals exact ⟨by omega, HW.out _ (by omega)⟩
    have HOM : Hid (¬ own mb) := fun hq => by
      rw [hown] at hq
      rcases hq with hq | hq | hq | hq | hq
      · have := (HL.out mb hq).1; omega
      all_goals omega
    have HMB : Hid (mb < X6.heap.size ∧ ¬ may mb ∧ X.heap.size ≤ mb) := ⟨by omega, HW.out _ (by omega), by omega⟩
    have HDEP6 : Hid (∀ q, gdep bm bt yb bl gb A l q → X6.heap[q]? = V.heap[q]?) := fun q hq => (hBX6.block q (Nat.lt_of_lt_of_le (HL.out q hq).1 hsz)).trans (HDP.out q hq)
    have HOG : Hid (∀ q, gdep bm bt yb bl gb A l q → own q) := fun q hq => by rw [hown]; exact .inl hq
    have HO9 : Hid (own X.heap.size) := by show own _; rw [hown]; exact .inr (.inl rfl)
    have HO2 : Hid (own g2) := by show own _; rw [hown]; exact .inr (.inr (.inl rfl))
    have HO10 : Hid (own m10) := by show own _; rw [hown]; exact .inr (.inr (.inr (.inl rfl)))
    have HO11 : Hid (own m11) := by show own _; rw [hown]; exact .inr (.inr (.inr (.inr rfl)))
    have HB9 : Hid (Boxed X6 X.heap.size 4 (.bool false)) := (hB6.block _ (by omega)).trans ((hB5.block _ (by omega)).trans HR9.out)
    have HB10 : Hid (Boxed X6 m10 22 (.slice (some { block := g2, off := 0 }) (before.length + 1) cap2)) := (hB6.block _ (by omega)).trans r10
    have HB11 : Hid (Boxed X6 m11 155 (.map (some mb))) := (hB6.block _ (by omega)).trans r11
    have HROW6 : Hid (RowIs b0 X6 (before ++ [now]) (.slice (some ⟨g2, 0, none⟩) (before.length + 1) cap2)) := ((HROW2.out.below hB5).below hB6).lower (by omega)
    have HGI : Hid (GI own may X X6 mb (dd []).reverse (J (pre ++ (dd []).flatMap fun s => growL l to k s (before ++ [now]))) X6) :=
      ⟨Nat.le_refl _, fun _ _ => rfl, rS.kept (hB6.block _ (by omega)), by
        have : (pre ++ (dd []).flatMap fun s => growL l to k s (before ++ [now])) = pre := by simp [dd]
        rw [this]
        exact HJ.out pre X X6 HJ0.out hsz (Ext.of_below (B := V.heap.size) hBX6), Keeps.of_below hBX6⟩
    have HU0 := Lib.hid u0
    have HU1 := Lib.hid u1
    have HS6 := Lib.hid hs6
    have HQ : Hid (X.heap.size < m10 ∧ m10 < mb ∧ mb < m11 ∧ m11 < q0) := ⟨by omega, by omega, by omega, by omega⟩
    have HRU : Hid (RulesAt X6 A l) := HEN.out.r.of_heap (fun a ha => HDEP6.out _ (.inr (.inr (.inr (.inr (.inr ⟨a, ha, rfl⟩))))))
    have HSZ := Lib.hid hsz
    have HBK := Lib.hid hbk
    rw [hq0]
    clear u0 u1 hX6 hs6 hB6 hB5 hX5 hs5 r10 rS r11 hg2 hVX hown hBX6 hm10 hmb hm11 HR9 HROW2 HBX hsz hsz2 cm cl hbm hbl hbl1 hbl2 hmm hs1 hX1w hq0 hbk
    obtain ⟨fv, hfv⟩ : ∃ fv, Value.func (Fn.func 170) #[] #[Value.pointer (some { block := q0 + 1, off := 0 }), Value.pointer (some { block := q0, off := 0 })] = fv := ⟨_, rfl⟩
    rw [hfv]
    gi_wp2_with fail
    refine wp_range (gf := 170) (lb := #[Value.pointer (some { block := q0 + 1, off := 0 }), Value.pointer (some { block := q0, off := 0 })]) (by rw [hfv]; rfl)
      (enters_of Tryz.func170 (by kernel_rfl) rfl) (uses1_seq (q0 + 1) q0 now A c l X6 HU1.out HU0.out HRU.out hnow hl HR.out 9)
      (fun q => may q ∨ q = mb ∨ q = X.heap.size)
      (fun q hq => ⟨by
        rcases hq with rfl | rfl | ⟨a, ha, rfl⟩
        · have := HS6.out; omega
        · have := HS6.out; omega
        · exact (HO.out _ (HOG.out _ (.inr (.inr (.inr (.inr (.inr ⟨a, ha, rfl⟩))))))).1, rfl⟩) (Nat.le_refl _)
      (fun q hq => by
        have h1 := HQ.out
        have h2 := HSZ.out
        rcases hq with rfl | rfl | ⟨a, ha, rfl⟩
        · rintro (h | h)
          · exact HW.out _ (by omega) h
          · omega
        · rintro (h | h)
          · exact HW.out _ (by omega) h
          · omega
        · have hgd : gdep bm bt yb bl gb A l a.block := .inr (.inr (.inr (.inr (.inr ⟨a, ha, rfl⟩))))
          rintro (h | h)
          · exact (HL.out _ hgd).2 h
          · have := (HL.out _ hgd).1; omega)
      (fun q hq => by
        have h1 := HQ.out
        have h2 := HSZ.out
        have h3 := HS6.out
        rintro (h | h)
        · exact HW.out _ (by omega) h
        · omega)
      (fun X Y x v hR _ _ => hR)
      (fun pre2 Z => GI own may X X6 mb (dd pre2).reverse (J (pre ++ (dd pre2).flatMap fun s => growL l to k s (before ++ [now]))) Z)
      (fun Z => X6.heap.size ≤ Z.heap.size ∧ Jx Z ∧ Keeps may X Z ∧ Boxed Z X.heap.size 4 (.bool false))
      (fun pre2 Z Z2 h hle hE => h.ext (fun q hq => (HO.out q hq).1) HMB.out.1 (by have := HS6.out; have := HQ.out; omega) hE (Nat.le_refl _) (HJ.out _ _ _ h.j (by have := h.size; have := HS6.out; have := HQ.out; have := HSZ.out; omega) (hE.mono (by have := HS6.out; have := HQ.out; have := HSZ.out; omega))))
      (fun Z Z2 h hle hE => ⟨Nat.le_trans h.1 hE.size, HX.out _ _ h.2.1 (by have := h.1; have := HS6.out; have := HQ.out; have := HSZ.out; omega) (hE.mono (by have := HS6.out; have := HQ.out; have := HSZ.out; omega)), h.2.2.1.ext hE (by have := HS6.out; have := HQ.out; omega),
        hE.same _ _ h.2.2.2 (.inl (by have := HS6.out; have := HQ.out; omega))⟩)
      HGI.out
      (fun v => { tmps := #[Value.string now, bv, Value.pointer (some { block := bm, off := 0 }), Value.pointer (some { block := bt, off := 0 }), Value.pointer (some { block := yb, off := 0 }), Value.pointer (some { block := bl, off := 0 }), Value.pointer (some { block := gb, off := 0 }), undef, undef, Value.pointer (some { block := X.heap.size, off := 0 }), Value.pointer (some { block := m10, off := 0 }), Value.pointer (some { block := m11, off := 0 }), v, bv, v1, Value.string now, Value.slice (some { block := w1.heap.size, off := 0 }) 1 1, Value.slice (some { block := g2, off := 0 }) (before.length + 1) cap2, Value.slice (some { block := g2, off := 0 }) (before.length + 1) cap2, Value.int IntKind.i64 (↑before.length + 1), Value.int IntKind.i64 ↑many, Value.bool (decide ((many : Int) < (before.length : Int) + 1)), undef, undef, undef, undef, undef, undef, undef, undef, Value.map (some mb), Value.string now, Value.slice A l.length c, fv, v, undef, undef, undef, undef, undef, undef, undef, undef, undef, undef], defers := [] }) ?assign ?body ?done ?stop
    case assign =>
      intro l2 v Z K hK
      gi_wp2_with fail
      exact hK
    case body =>
      rintro l2 pre2 z v Z hgi hpre rfl hle
      have hzm : z ∈ usesL l now := hpre.subset (by simp)
      have hzs := usesL_size hzm
      have c11 : Z.cell? ⟨m11, 0, none⟩ = some (.map (some mb)) := (cell_of_heap (hgi.blk m11 HO11.out) 0).trans HB11.out.cell
      have hlook := hgi.set.lookup z (by unfold maxLen; omega)
      have HDS := Lib.hid (dd_snoc pre2 z)
      obtain ⟨qb, hqb⟩ : ∃ qb, memB z (dd pre2).reverse = qb := ⟨_, rfl⟩
      rw [hqb] at hlook
      have HQB := Lib.hid hqb
      have HGZ := Lib.hid hgi
      have HPZ := Lib.hid hpre
      clear hqb hgi hpre hzm
      cases qb with
      | true =>
        gi_wp2_with fail
        refine ⟨Keeps.refl _ _, ?_⟩
        have e1 : dd (pre2 ++ [z]) = dd pre2 := by
          have h1 := HQB.out
          rw [memB_reverse] at h1
          rw [HDS.out]; unfold ddStep; rw [if_pos h1]
        show GI own may X X6 mb (dd (pre2 ++ [z])).reverse (J (pre ++ (dd (pre2 ++ [z])).flatMap fun s => growL l to k s (before ++ [now]))) Z
        rw [e1]; exact HGZ.out
      | false =>
        have hln : (dd pre2).reverse.length < maxLen := by
          have h1 := dd_len pre2
          have h2 := usesL_len l now hnow hl
          have h3 := HPZ.out.length_le
          rw [List.length_append] at h3
          rw [List.length_reverse]
          unfold maxLen
          omega
        obtain ⟨Z1, hupd, hset1, hgrow⟩ := HGZ.out.set.update z (by unfold maxLen; omega) hln
        have e1 : dd (pre2 ++ [z]) = dd pre2 ++ [z] := by
          have h1 := HQB.out
          rw [memB_reverse] at h1
          rw [HDS.out]; unfold ddStep; rw [h1]; rfl
        have hE1 : Ext V.heap.size 9 Z Z1 := Ext.grown hgrow (fun q hq => by
          cases hq
          refine ⟨by have := HMB.out.2.2; have := HSZ.out; omega, fun o ho => ?_⟩
          obtain ⟨es, clock, hes⟩ := HGZ.out.set.obj
          rw [ho] at hes
          cases hes
          rfl)
        have hZV : V.heap.size ≤ Z.heap.size := by have := HGZ.out.size; have := HMB.out; have := HSZ.out; omega
        have hj1 := HJ.out _ _ _ HGZ.out.j hZV hE1
        have HG1 : Hid (GI own may X X6 mb (z :: (dd pre2).reverse) (J (pre ++ (dd pre2).flatMap fun s => growL l to k s (before ++ [now]))) Z1) := HGZ.out.upd (fun q hq => (HO.out q hq).1) HOM.out HMB.out.2.2 hgrow hset1 hj1
        have HC1 := Lib.hid (HIH.out z (before ++ [now]) (.slice (some ⟨g2, 0, none⟩) (before.length + 1) cap2) (pre ++ (dd pre2).flatMap fun s => growL l to k s (before ++ [now])) Z1 (by have := HBK.out; simp; omega) (by omega)
          (by have := hgrow.size; omega) (fun q hq => (HG1.out.blk q (HOG.out q hq)).trans (HDEP6.out q hq)) hj1 (by
            refine List.IsPrefix.trans ?_ HPRE.out
            have h1 := dd_pre HPZ.out
            rw [e1] at h1
            obtain ⟨t2, ht2⟩ := h1
            refine ⟨t2.flatMap fun s => growL l to k s (before ++ [now]), ?_⟩
            simp only [growL, ← ht2, List.flatMap_append, List.append_assoc]
            simp) (HROW6.out.move (fun q hq => by
              have : g2 = q := by simpa [Value.ownBlock] using hq
              subst this
              exact HG1.out.blk _ HO2.out)))
        have cg : Z1.cell? ⟨gb, 0, none⟩ = some _ := (cell_of_heap ((HG1.out.blk gb (HOG.out gb (.inr (.inr (.inr (.inr (.inl rfl))))))).trans (HDEP6.out gb (.inr (.inr (.inr (.inr (.inl rfl))))))) 0).trans HEN.out.g.cell
        have c10 : Z1.cell? ⟨m10, 0, none⟩ = some (.slice (some { block := g2, off := 0 }) (before.length + 1) cap2) := (cell_of_heap (HG1.out.blk m10 HO10.out) 0).trans HB10.out.cell
        have HKZ : Hid (Keeps (fun q => may q ∨ q = mb ∨ q = X.heap.size) Z Z1) := Keeps.grown hgrow (fun q hq => by cases hq; exact .inr (.inl rfl))
        have HE1 := Lib.hid e1
        clear hgrow hset1 hE1 hj1 hln e1
        gi_wp2_with fail
        refine ⟨trivial, rfl, ?_⟩
        refine (CallsIn.inRound l2 HC1.out).mono ?_
        rintro en Y (⟨rfl, hj2, hk2⟩ | ⟨rfl, hj2, hk2⟩)
        · gi_wp2_with fail
          refine ⟨HKZ.out.trans (hk2.mono fun _ h => .inl h), ?_⟩
          show GI own may X X6 mb (dd (pre2 ++ [z])).reverse (J (pre ++ (dd (pre2 ++ [z])).flatMap fun s => growL l to k s (before ++ [now]))) Y
          rw [HE1.out, List.reverse_append]
          refine HG1.out.keeps HO.out ⟨HMB.out.1, HMB.out.2.1⟩ hk2 ?_
          have e2 : (pre ++ (dd pre2).flatMap fun s => growL l to k s (before ++ [now])) ++ growL l to k z (before ++ [now]) = (pre ++ (dd pre2 ++ [z]).flatMap fun s => growL l to k s (before ++ [now])) := by simp
          rw [← e2]; exact hj2
        · have hn9 : Y.heap[X.heap.size]? = X6.heap[X.heap.size]? := (hk2.block _ (Nat.lt_of_lt_of_le (HO.out _ HO9.out).1 HG1.out.size) (HO.out _ HO9.out).2).trans (HG1.out.blk _ HO9.out)
          have h9 : Boxed Y X.heap.size 4 (.bool false) := boxed_keep HB9.out hn9
          have hc9 := h9.cell
          have hf9 := h9.frozen
          gi_wp2_with fail
          have hVY : V.heap.size ≤ Y.heap.size := by have := HG1.out.size; have := hk2.size; have := HMB.out; have := HSZ.out; omega
          have hX6 : X.heap.size ≤ X6.heap.size := by have := (HO.out _ HO9.out).1; omega
          refine ⟨(HKZ.out.trans (hk2.mono fun _ h => .inl h)).trans (Keeps.setCell Y _ 0 _ (.inr (.inr rfl))), ?_, HX.out _ _ hj2 hVY (Ext.setCell h9 (by have := HSZ.out; omega) (by decide) 0 _), (HG1.out.keep.trans hk2).ext (Ext.setCell (B := X.heap.size) (e := 9) h9 (Nat.le_refl _) (by decide) 0 _) (Nat.le_refl _), h9.set _⟩
          have := HG1.out.size
          have := hk2.size
          have := (Keeps.setCell (may := fun _ => True) Y X.heap.size 0 (.bool false) trivial).size
          omega
    case done =>
      rintro Y hgi hle hK
      have h9 : Boxed Y X.heap.size 4 (.bool false) := boxed_keep HB9.out (hgi.blk _ HO9.out)
      have hc9 := h9.cell
      have hf9 := h9.frozen
      gi_wp2_with fail
      have hVY : V.heap.size ≤ Y.heap.size := by have := hgi.size; have := HMB.out; have := HSZ.out; omega
      have hK2 : (Y.setCell ⟨X.heap.size, 0, none⟩ (.bool true)).heap[X6.heap.size]? = some (.deferred (some [])) := (Below.heap_setCell Y _ _ _ (by have := (HO.out _ HO9.out).1; simp; omega)).trans hK
      have hE9 : Ext X.heap.size 9 Y (Y.setCell ⟨X.heap.size, 0, none⟩ (.bool true)) := Ext.setCell h9 (Nat.le_refl _) (by decide) 0 _
      have h9' : Boxed (Y.setCell ⟨X.heap.size, 0, none⟩ (.bool true)) X.heap.size 4 (.bool true) := h9.set _
      refine leaves_marks (N := X6.heap.size) 9 [X6.heap.size] _ ⟨by simp, by simp, by simpa using hK2⟩ (fun W' hE => ?_)
      have hlt9 := (HO.out _ HO9.out).1
      refine ⟨_, results_bool rfl _ _ X.heap.size true rfl (hE.same _ _ h9' (.inl hlt9)), .inl ⟨rfl, ?_, ?_⟩⟩
      · exact HJ.out _ _ _ hgi.j hVY ((hE9.mono HSZ.out).trans (hE.mono (by have := HSZ.out; omega)))
      · exact (hgi.keep.ext hE9 (Nat.le_refl _)).ext hE (by omega)
    case stop =>
      rintro Y ⟨hle1, hjx, hkp, hb9⟩ hle hK
      gi_wp2_with fail
      refine leaves_marks (N := X6.heap.size) 9 [X6.heap.size] _ ⟨by simp, by simp, by simpa using hK⟩ (fun W' hE => ?_)
      have hlt9 := (HO.out _ HO9.out).1
      refine ⟨_, results_bool rfl _ _ X.heap.size false rfl (hE.same _ _ hb9 (.inl hlt9)), .inr ⟨rfl, ?_, ?_⟩⟩
      · exact HX.out _ _ hjx (by have := HMB.out; have := HSZ.out; omega) (hE.mono (by have := HSZ.out; omega))
      · exact hkp.ext hE (by omega)
end Go.Proofs.YtapikimhmjnjeaaGreatDoor

/- What package name's chains yields: an iterator's contract (the program's own function). Sizes alone are asked. -/
namespace Go.Proofs.YtapikimhmjnjeaaGreatDoor
open Go.RowKit Go.Shelf
attribute [local go_sem] Oper.semAt_some

theorem run_store_fn {P : Program} {w : World} {a : Addr} {m : Mode} (fn : Fn) (first captured : Array Value) : (store a (.func fn first captured) m).run P w = stored P w a (.func fn first captured) m := run_store P w a _ m rfl
attribute [local go_sem] run_store_fn

set_option maxRecDepth 100000 in
set_option maxHeartbeats 2000000 in
theorem chains1_seq (bm bt bl bk : Nat) (many : Nat) (k to : ByteArray) (A : Option Addr) (c : Nat) (l : List Rl) (W0 : World) (h1 : Boxed W0 bm 3 (.int .i64 (many : Int))) (h2 : Boxed W0 bt 90 (.string to))
    (h3 : Boxed W0 bl 42 (.slice A l.length c)) (h4 : Boxed W0 bk 90 (.string k)) (h5 : RulesAt W0 A l) (hmany : many ≤ 100) (hl : l.length ≤ 1000) (hr : ∀ r ∈ l, r.1.size ≤ 1000 ∧ r.2.size ≤ 1000) (hk : k.size ≤ 1000)
    (b0 : Nat) (hb0 : b0 ≤ W0.heap.size) :
    SeqAt Tryz.prog 146 #[.pointer (some ⟨bm, 0, none⟩), .pointer (some ⟨bt, 0, none⟩), .pointer (some ⟨bl, 0, none⟩), .pointer (some ⟨bk, 0, none⟩)] 9 (RowIs b0) (growL l to many k [])
      (fun q => q = bm ∨ q = bt ∨ q = bl ∨ q = bk ∨ ∃ a, (A = some a ∧ l ≠ []) ∧ q = a.block) W0 := by
  intro W yl may J Jx hd hsz hdm hmw hJ hJx hY h0
  have hlt : ∀ q, (q = bm ∨ q = bt ∨ q = bl ∨ q = bk ∨ ∃ a, (A = some a ∧ l ≠ []) ∧ q = a.block) → q < W.heap.size ∧ W.heap[q]? = W0.heap[q]? := fun q hq => ⟨Nat.lt_of_lt_of_le (hd q hq).1 hsz, (hd q hq).2⟩
  obtain ⟨gv, hgv⟩ : ∃ gv : Value, Value.func (Fn.func 147) #[] #[.pointer (some ⟨bm, 0, none⟩), .pointer (some ⟨bt, 0, none⟩), .pointer (some ⟨W.heap.size, 0, none⟩), .pointer (some ⟨bl, 0, none⟩), .pointer (some ⟨W.heap.size + 1, 0, none⟩)] = gv := ⟨_, rfl⟩
  obtain ⟨V, hV⟩ : ∃ V, ((W.alloc (Obj.cells #[Value.func (Fn.yield yl) #[] #[]] 121)).alloc (Obj.cells #[Value.nilFunc] 159)).setCell ⟨W.heap.size + 1, 0, none⟩ gv = V := ⟨_, rfl⟩
  have hB : Below W.heap.size W V := by rw [← hV]; exact (((Below.refl _ W).alloc (Nat.le_refl _) _).alloc (by simp) _).setCell (p := ⟨W.heap.size + 1, 0, none⟩) (by simp) _
  have y1 : Boxed V W.heap.size 121 (.func (.yield yl) #[] #[]) := by rw [← hV]; exact ((Boxed.new W _ _).alloc _).other (by omega) _
  have g1 : Boxed V (W.heap.size + 1) 159 gv := by
    rw [← hV]
    have := Boxed.new (W.alloc (Obj.cells #[Value.func (Fn.yield yl) #[] #[]] 121)) 159 Value.nilFunc
    rw [World.size_alloc] at this
    exact this.set _
  have hVs := (Array.getElem?_eq_some_iff.1 g1).1
  have hold : ∀ {q : Nat} {t : TypeId} {v : Value}, (q = bm ∨ q = bt ∨ q = bl ∨ q = bk ∨ ∃ a, (A = some a ∧ l ≠ []) ∧ q = a.block) → Boxed W0 q t v → Boxed V q t v := fun hq hb => (hB.block _ (hlt _ hq).1).trans ((hlt _ hq).2.trans hb)
  have henv : GEnv V yl bm bt W.heap.size bl (W.heap.size + 1) (many : Int) to A c l := ⟨hold (.inl rfl) h1, hold (.inr (.inl rfl)) h2, y1, hold (.inr (.inr (.inl rfl))) h3, hgv ▸ g1,
    h5.of_heap (fun a ha => (hB.block _ (hlt _ (.inr (.inr (.inr (.inr ⟨a, ha, rfl⟩))))).1).trans (hlt _ (.inr (.inr (.inr (.inr ⟨a, ha, rfl⟩))))).2)⟩
  have HG := Lib.hid (grow_any V yl bm bt W.heap.size bl (W.heap.size + 1) many to A c l henv b0 (by omega) hmany hl hr may J Jx (growL l to many k [])
    (fun q hq => by
      rcases hq with rfl | rfl | rfl | rfl | rfl | ⟨a, ha, rfl⟩
      · exact ⟨by have := (hlt q (.inl rfl)).1; omega, hdm _ (.inl rfl)⟩
      · exact ⟨by have := (hlt q (.inr (.inl rfl))).1; omega, hdm _ (.inr (.inl rfl))⟩
      · exact ⟨by omega, hmw _ (Nat.le_refl _)⟩
      · exact ⟨by have := (hlt q (.inr (.inr (.inl rfl)))).1; omega, hdm _ (.inr (.inr (.inl rfl)))⟩
      · exact ⟨hVs, hmw _ (by omega)⟩
      · exact ⟨by have := (hlt _ (.inr (.inr (.inr (.inr ⟨a, ha, rfl⟩))))).1; omega, hdm _ (.inr (.inr (.inr (.inr ⟨a, ha, rfl⟩))))⟩)
    (fun q hq => hmw q (by omega)) (fun pre X Y h hle hE => hJ pre X Y h (by omega) (hE.mono (by omega))) (fun X Y h hle hE => hJx X Y h (by omega) (hE.mono (by omega)))
    (fun pre x v X h1 h2 h3 h4 => hY pre x v X h1 h2 h3 (by omega))
    many k [] (.slice none 0 0) [] V (by simp) hk (Nat.le_refl _) (fun _ _ => rfl) (hJ [] W V h0 (Nat.le_refl _) (Ext.of_below hB)) (by simp) (RowIs.nil _ _))
  have cg := g1.cell
  have ck := (hold (.inr (.inr (.inr (.inl rfl)))) h4).cell
  subst hgv
  clear hJ hJx hY h0 hold henv hd hdm hmw hlt hB y1 g1 h1 h2 h3 h4 h5
  refine callsIn_of_wp Tryz.func146 rfl trivial ?_
  simp only [Tryz.ntmps146, List.size_toArray, List.length_cons, List.length_nil, Nat.reduceAdd, Nat.reduceSub, Array.replicate_succ, Array.replicate_zero, List.push_toArray, List.append_toArray, List.nil_append, List.cons_append]
  gi_wp2_with fail
  refine ⟨trivial, rfl, ?_⟩
  refine HG.out.mono ?_
  rintro en Y (⟨rfl, hj2, _⟩ | ⟨rfl, hj2, _⟩)
  · gi_wp2_with fail
    go_end0
    rw [List.nil_append] at hj2
    exact ⟨⟨_, rfl⟩, .inl hj2⟩
  · gi_wp2_with fail
    go_end0
    exact ⟨⟨_, rfl⟩, .inr hj2⟩

set_option maxHeartbeats 1000000 in
/-- chains hands an iterator out. -/
theorem chains_any (k : ByteArray) (A : Option Addr) (n c : Nat) (to : ByteArray) (many : Int) (w : World) :
    Calls Tryz.prog 125 #[.string k, .slice A n c, .string to, .int .i64 many] w fun e w' =>
      e = .returned (.func (.func 146) #[] #[.pointer (some ⟨w.heap.size + 3, 0, none⟩), .pointer (some ⟨w.heap.size + 2, 0, none⟩), .pointer (some ⟨w.heap.size + 1, 0, none⟩), .pointer (some ⟨w.heap.size, 0, none⟩)]) ∧
      w' = (((w.alloc (.cells #[.string k] 90)).alloc (.cells #[.slice A n c] 42)).alloc (.cells #[.string to] 90)).alloc (.cells #[.int .i64 many] 3) := by
  go_enter Tryz.func125, Tryz.ntmps125
  go_wp2
  go_ret
  exact ⟨rfl, rfl⟩
end Go.Proofs.YtapikimhmjnjeaaGreatDoor

/- What slices.Compare at []string and package name's chain say: contracts. Sizes alone are asked. -/
namespace Go.Proofs.YtapikimhmjnjeaaGreatDoor
open Go.RowKit Go.Shelf

theorem nan_str (x : ByteArray) (w : World) :
    Calls Tryz.prog 172 #[.string x] w fun e w' => e = .returned (.bool false) ∧ w = w' := by
  go_enter Tryz.func172, Tryz.ntmps172
  go_wp2_with fail
  go_ret
  exact ⟨by simp, rfl⟩

set_option maxHeartbeats 400000 in
theorem cmp_str (x y : ByteArray) (w : World) :
    Calls Tryz.prog 150 #[.string x, .string y] w fun e w' => e = .returned (.int .i64 (cmpS x y)) ∧ w = w' := by
  by_cases h1 : Op.bytesLess x.toList y.toList = true
  · have HX := Lib.hid (show cmpS x y = -1 by rw [cmpS_eq]; rw [if_pos h1])
    go_enter Tryz.func150, Tryz.ntmps150
    go_wp2_with (go_at_call 172; refine (nan_str _ _).mono ?_; rintro e w' ⟨rfl, rfl⟩)
    go_ret
    exact ⟨by rw [HX.out]; rfl, rfl⟩
  · replace h1 : Op.bytesLess x.toList y.toList = false := by simpa using h1
    by_cases h2 : (x.toList == y.toList) = true
    · have HX := Lib.hid (show cmpS x y = 0 by rw [cmpS_eq]; rw [if_neg (by simp [h1]), if_pos h2])
      have h3 : Op.bytesLess y.toList x.toList = false := by
        have e : x.toList = y.toList := by simpa using h2
        rw [e] at h1 ⊢
        exact h1
      go_enter Tryz.func150, Tryz.ntmps150
      go_wp2_with (go_at_call 172; refine (nan_str _ _).mono ?_; rintro e w' ⟨rfl, rfl⟩)
      go_ret
      exact ⟨by rw [HX.out]; rfl, rfl⟩
    · replace h2 : (x.toList == y.toList) = false := by simpa using h2
      have HX := Lib.hid (show cmpS x y = 1 by rw [cmpS_eq]; rw [if_neg (by simp [h1]), if_neg (by simp [h2])])
      go_enter Tryz.func150, Tryz.ntmps150
      go_wp2_with (go_at_call 172; refine (nan_str _ _).mono ?_; rintro e w' ⟨rfl, rfl⟩)
      go_ret
      exact ⟨by rw [HX.out]; rfl, rfl⟩

/-- Two lists of strings in lexicographic order. -/
def cmpL : List ByteArray → List ByteArray → Int
  | [], [] => 0
  | [], _ :: _ => -1
  | _ :: _, [] => 1
  | x :: xs, y :: ys => if cmpS x y ≠ 0 then cmpS x y else cmpL xs ys

theorem RowIs.read {b0 : Nat} {X : World} {x : List ByteArray} {v : Value} (h : RowIs b0 X x v) : ∃ A c, v = .slice A x.length c ∧ StrsAt X A x := by
  cases x with
  | nil =>
    obtain rfl := h.2 rfl
    exact ⟨none, 0, rfl, fun i hi => absurd hi (by simp)⟩
  | cons s x =>
    obtain ⟨g, c, rfl, _, _, _, hc⟩ := h.cell (by simp)
    exact ⟨_, c, rfl, fun i hi => ⟨g, 0, rfl, hc i hi⟩⟩

set_option maxRecDepth 100000 in
set_option maxHeartbeats 1000000 in
theorem compareStrs_any (A B : Option Addr) (c d : Nat) (x y : List ByteArray) (w : World) (hx : StrsAt w A x) (hy : StrsAt w B y) (hxl : x.length ≤ 1000) (hyl : y.length ≤ 1000) :
    Calls Tryz.prog 126 #[.slice A x.length c, .slice B y.length d] w fun e w' => e = .returned (.int .i64 (cmpL x y)) ∧ w = w' := by
  have HX := Lib.hid hx
  have HY := Lib.hid hy
  clear hx hy
  go_enter Tryz.func126, Tryz.ntmps126
  go_wp2_with fail
  go_loopg [11] x.length (fun gf v wx => ∃ i : Nat, v = .int .i64 (i : Int) ∧ i + gf = x.length ∧ i ≤ y.length ∧ wx = w ∧ Hid (cmpL x y = cmpL (x.drop i) (y.drop i)))
  case atStart => exact ⟨0, rfl, by omega, by omega, rfl, rfl⟩
  case round =>
    obtain ⟨i, rfl, hig, hiy, rfl, HC⟩ := hrel
    cases gk with
    | zero =>
      have hn : ¬ (i : Int) < (x.length : Int) := by omega
      have ex : x.drop i = [] := List.drop_of_length_le (by omega)
      by_cases hlt : (x.length : Int) < (y.length : Int)
      · have HV : Hid (cmpL x y = -1) := by
          show _ = _
          rw [HC.out, ex, List.drop_eq_getElem_cons (by omega : i < y.length)]
          rfl
        go_wp2_with fail
        go_ret
        exact ⟨by rw [HV.out]; rfl, rfl⟩
      · have HV : Hid (cmpL x y = 0) := by
          show _ = _
          rw [HC.out, ex, List.drop_of_length_le (by omega : y.length ≤ i)]
          rfl
        go_wp2_with fail
        go_ret
        exact ⟨by rw [HV.out]; rfl, rfl⟩
    | succ g =>
      have hn : (i : Int) < (x.length : Int) := by omega
      obtain ⟨bx, ox, rfl, k1⟩ := HX.out i (by omega)
      have ex : x.drop i = x.getD i ByteArray.empty :: x.drop (i + 1) := by
        rw [List.drop_eq_getElem_cons (by omega : i < x.length), List.getD_eq_getElem?_getD, List.getElem?_eq_getElem (by omega)]
        rfl
      have a1 : (0 : Int) ≤ (i : Int) := by omega
      have a3 : (i : Int).toNat = i := by omega
      by_cases hge : (y.length : Int) ≤ (i : Int)
      · have HV : Hid (cmpL x y = 1) := by
          show _ = _
          rw [HC.out, ex, List.drop_of_length_le (by omega : y.length ≤ i)]
          rfl
        clear HC ex
        go_wp2_with fail
        go_ret
        exact ⟨by rw [HV.out]; rfl, rfl⟩
      · have hge2 : (i : Int) < (y.length : Int) := by omega
        obtain ⟨by_, oy, rfl, k2⟩ := HY.out i (by omega)
        have ey : y.drop i = y.getD i ByteArray.empty :: y.drop (i + 1) := by
          rw [List.drop_eq_getElem_cons (by omega : i < y.length), List.getD_eq_getElem?_getD, List.getElem?_eq_getElem (by omega)]
          rfl
        obtain ⟨sx, hsx⟩ : ∃ sx, x.getD i ByteArray.empty = sx := ⟨_, rfl⟩
        obtain ⟨sy, hsy⟩ : ∃ sy, y.getD i ByteArray.empty = sy := ⟨_, rfl⟩
        rw [hsx] at k1 ex
        rw [hsy] at k2 ey
        have HV : Hid (cmpL x y = if cmpS sx sy ≠ 0 then cmpS sx sy else cmpL (x.drop (i + 1)) (y.drop (i + 1))) := by
          show _ = _
          rw [HC.out, ex, ey]
          rfl
        clear HC ex ey hsx hsy
        go_wp2_with fail
        refine (cmp_str sx sy _).mono ?_
        rintro e w' ⟨rfl, rfl⟩
        obtain ⟨z, hz⟩ : ∃ z, cmpS sx sy = z := ⟨_, rfl⟩
        rw [hz] at HV ⊢
        clear hz
        by_cases h0 : z = 0
        · subst h0
          go_wp2_with fail
          go_roundg g
          case measure => omega
          case rel => exact ⟨i + 1, rfl, by omega, by omega, rfl, HV.out⟩
        · have HV2 : Hid (cmpL x y = z) := by
            show _ = _
            rw [HV.out, if_pos h0]
          clear HV
          go_wp2_with fail
          go_ret
          exact ⟨by rw [HV2.out]; rfl, rfl⟩
theorem growL_len {l : List Rl} {to : ByteArray} : ∀ (k : Nat) (now : ByteArray) (before x : List ByteArray), x ∈ growL l to k now before → x.length = before.length + k + 1
  | 0, now, before, x, h => by
    unfold growL at h
    split at h
    · obtain rfl : x = before ++ [now] := by simpa using h
      simp
    · simp at h
  | k + 1, now, before, x, h => by
    unfold growL at h
    obtain ⟨s, _, hs⟩ := List.mem_flatMap.1 h
    have := growL_len k s (before ++ [now]) x hs
    simp at this
    omega

/-- The first of the chains of so many uses. -/
def chainAt (l : List Rl) (k to : ByteArray) (n : Nat) : Option (List ByteArray) := firstL cmpL (growL l to n k [])
/-- From so many uses on. -/
def chainFrom (l : List Rl) (k to : ByteArray) : Nat → Nat → Option (List ByteArray)
  | 0, _ => none
  | g + 1, n => match chainAt l k to n with | some x => some x | none => chainFrom l k to g (n + 1)
/-- The first of the shortest chains of at most two uses. -/
def chainF (l : List Rl) (k to : ByteArray) : Option (List ByteArray) := chainFrom l k to 3 0

theorem RulesAt.below {V X : World} {A : Option Addr} {l : List Rl} (h : RulesAt V A l) (hb : Below V.heap.size V X) : RulesAt X A l := fun i hi => by
  obtain ⟨b, off, rfl, h1, h2⟩ := h i hi
  exact ⟨b, off, rfl, (hb.cell (World.block_lt_of_cell? V _ h1)).trans h1, (hb.cell (World.block_lt_of_cell? V _ h2)).trans h2⟩
theorem RulesAt.lt {V : World} {A : Option Addr} {l : List Rl} (h : RulesAt V A l) (hl : l ≠ []) : ∀ a, A = some a → a.block < V.heap.size := fun a ha => by
  obtain ⟨b, off, rfl, h1, h2⟩ := h 0 (List.length_pos_iff.2 hl)
  cases ha
  exact World.block_lt_of_cell? V _ h1

set_option maxRecDepth 100000 in
set_option maxHeartbeats 2000000 in
theorem chain_any (k : ByteArray) (A : Option Addr) (c : Nat) (l : List Rl) (to : ByteArray) (w : World) (hr : RulesAt w A l) (hl : l.length ≤ 1000) (hs : ∀ r ∈ l, r.1.size ≤ 1000 ∧ r.2.size ≤ 1000) (hk : k.size ≤ 1000) :
    Calls Tryz.prog 88 #[.string k, .slice A l.length c, .string to] w fun e w' =>
      ∃ v, e = .returned (.tuple #[v, .bool (chainF l k to).isSome]) ∧ BestIs (RowIs w.heap.size) w' (chainF l k to) v ∧ Below w.heap.size w w' := by
  have HR := Lib.hid hr
  have HS := Lib.hid hs
  clear hr hs
  go_enter Tryz.func88, Tryz.ntmps88
  go_wp2_with fail
  go_loopg [11] 3 (fun gf v wx => ∃ i : Nat, v = .int .i64 (i : Int) ∧ i + gf = 3 ∧ Below w.heap.size w wx ∧ Hid (chainF l k to = chainFrom l k to gf i))
  case atStart => exact ⟨0, rfl, by omega, Below.refl _ _, rfl⟩
  case round =>
    obtain ⟨i, rfl, hig, hb, HC⟩ := hrel
    cases gk with
    | zero =>
      have hn : ¬ (i : Int) < 3 := by omega
      have HV : Hid (chainF l k to = none) := HC.out
      go_wp2_with fail
      go_ret2
      exact ⟨_, by rw [HV.out]; rfl, by rw [HV.out]; rfl, hb⟩
    | succ g =>
      have hn : (i : Int) < 3 := by omega
      go_wp2_with fail
      refine (chains_any k A l.length c to (i : Int) wr).mono ?_
      rintro e X ⟨rfl, hX⟩
      obtain ⟨q, hq⟩ : ∃ q, wr.heap.size = q := ⟨_, rfl⟩
      have hsX : X.heap.size = q + 4 := by rw [hX]; simp [hq]
      have hBX : Below wr.heap.size wr X := by rw [hX]; exact ((((Below.refl _ wr).alloc (Nat.le_refl _) _).alloc (by simp) _).alloc (by simp; omega) _).alloc (by simp; omega) _
      have h0 : Boxed X q 90 (.string k) := by rw [hX, ← hq]; exact (((Boxed.new wr _ _).alloc _).alloc _).alloc _
      have h1 : Boxed X (q + 1) 42 (.slice A l.length c) := by
        rw [hX, ← hq]; have := ((Boxed.new (wr.alloc (.cells #[.string k] 90)) 42 (.slice A l.length c)).alloc (.cells #[.string to] 90)).alloc (.cells #[.int .i64 (i : Int)] 3); rwa [World.size_alloc] at this
      have h2 : Boxed X (q + 2) 90 (.string to) := by
        rw [hX, ← hq]; have := (Boxed.new ((wr.alloc (.cells #[.string k] 90)).alloc (.cells #[.slice A l.length c] 42)) 90 (.string to)).alloc (.cells #[.int .i64 (i : Int)] 3); rwa [World.size_alloc, World.size_alloc] at this
      have h3 : Boxed X (q + 3) 3 (.int .i64 (i : Int)) := by
        rw [hX, ← hq]; have := Boxed.new (((wr.alloc (.cells #[.string k] 90)).alloc (.cells #[.slice A l.length c] 42)).alloc (.cells #[.string to] 90)) 3 (.int .i64 (i : Int)); rwa [World.size_alloc, World.size_alloc, World.size_alloc] at this
      have hbX : Below w.heap.size w X := hb.trans (hBX.mono hb.size)
      have hRX : RulesAt X A l := HR.out.below hbX
      have HSEQ := Lib.hid (chains1_seq (q + 3) (q + 2) (q + 1) q i k to A c l X h3 h2 h1 h0 hRX (by omega) hl HS.out hk w.heap.size hbX.size)
      have HF := Lib.hid (firstStrs_any 146 _ (enters_of Tryz.func146 (by kernel_rfl) rfl) 126 (enters_of Tryz.func126 (by kernel_rfl) rfl)
        cmpL (RowIs w.heap.size) (growL l to i k []) _ 9 X X HSEQ.out
        (fun p hp => ⟨by
          rcases hp with rfl | rfl | rfl | rfl | ⟨a, ha, rfl⟩
          · omega
          · omega
          · omega
          · omega
          · exact hRX.lt ha.2 a ha.1, rfl⟩) (Nat.le_refl _) (by decide) (by decide)
        (fun Y Z x v h hE => h.ext hE) (fun Y x v h => ⟨_, _, _, h.slice.choose_spec.choose_spec⟩)
        (fun W x y u v hW hx hy hu hv => by
          have lx := growL_len _ _ _ _ hx
          have ly := growL_len _ _ _ _ hy
          simp only [List.length_nil] at lx ly
          obtain ⟨Ax, cx, rfl, sx⟩ := hu.read
          obtain ⟨Ay, cy, rfl, sy⟩ := hv.read
          refine (compareStrs_any Ax Ay cx cy x y W sx sy (by omega) (by omega)).mono ?_
          rintro e W' ⟨rfl, rfl⟩
          exact ⟨rfl, Below.refl _ _⟩))
      clear hX h0 h1 h2 h3 hRX HSEQ hBX
      rw [hq]
      go_wp2_with fail
      refine HF.out.mono ?_
      rintro e Y ⟨v, rfl, hbest, hBY⟩
      have HBE := Lib.hid hbest
      clear hbest
      have HCF : Hid (chainF l k to = match chainAt l k to i with | some x => some x | none => chainFrom l k to g (i + 1)) := HC.out
      have hbY : Below w.heap.size w Y := hbX.trans (hBY.mono (by have := hbX.size; omega))
      obtain ⟨o, ho⟩ : ∃ o, chainAt l k to i = o := ⟨_, rfl⟩
      have ho' : firstL cmpL (growL l to i k []) = o := ho
      rw [ho] at HCF
      rw [ho'] at HBE ⊢
      clear ho ho' HC
      cases o with
      | none =>
        have HV : Hid (chainF l k to = chainFrom l k to g (i + 1)) := HCF.out
        clear HCF
        go_wp2_with fail
        go_roundg g
        case measure => omega
        case rel => exact ⟨i + 1, rfl, by omega, hbY, HV.out⟩
      | some x =>
        have HV : Hid (chainF l k to = some x) := HCF.out
        clear HCF
        go_wp2_with fail
        go_ret2
        exact ⟨v, by rw [HV.out]; rfl, by rw [HV.out]; exact HBE.out, hbY⟩
end Go.Proofs.YtapikimhmjnjeaaGreatDoor

