/- Contracts and plain laws of the program's own functions: Seq, FirstKey, FirstStrs, FirstInts, Replaced, Marks, Uses, Sets, Clone, Order. -/
import Derived.RangeFuncBox
import Derived.RangeFuncCalls
import Derived.Shelf.Abstract
import Derived.Test.YtapikimhmjnjeaaGreatDoorBaseA
import Derived.RangeFuncNested
import Derived.RangeFuncLeaves
import Derived.Shelf.RegionOpen
import Derived.OwnWalkIn
import Derived.TacticsInMore
import Derived.LoopNIn
import Derived.LoopIn
import Derived.Deep.QuietTactic
import Derived.BigQuiet
import Derived.StillTailTactics
import Derived.Maps.Own
import Derived.Maps.Views
import Derived.Maps.Range
import Derived.Test.YtapikimhmjnjeaaGreatDoorShelf
/- Contracts and plain laws of the program's own functions: Seq, FirstKey, FirstStrs, FirstInts, Replaced, Marks, Uses, Sets, Clone, Order. -/
set_option linter.unusedVariables false
set_option linter.unusedSimpArgs false
/- A range over a function ('for x := range seq { body }'): what an iterator promises (SeqAt) and what the statement then does (wp_range). Plain lemmas over any program. No conditions. -/
namespace Go.Proofs.YtapikimhmjnjeaaGreatDoor
open Go.RowKit

/-- Blocks that bear cells of element type e. -/
def Obj.ofE (e : TypeId) : Obj → Bool
  | .cells _ t _ => t == e
  | _ => false

/-- What lay lies as it lay, but for the blocks of may. -/
structure Keeps (may : Nat → Prop) (W W' : World) : Prop where
  os : W'.os = W.os
  tape : W'.tape = W.tape
  output : W'.output = W.output
  size : W.heap.size ≤ W'.heap.size
  block : ∀ k, k < W.heap.size → ¬ may k → W'.heap[k]? = W.heap[k]?

theorem Keeps.refl (may : Nat → Prop) (W : World) : Keeps may W W := ⟨rfl, rfl, rfl, Nat.le_refl _, fun _ _ _ => rfl⟩
theorem Keeps.trans {may : Nat → Prop} {A B C : World} (h : Keeps may A B) (k : Keeps may B C) : Keeps may A C :=
  ⟨k.os.trans h.os, k.tape.trans h.tape, k.output.trans h.output, Nat.le_trans h.size k.size, fun i hi hm => (k.block i (Nat.lt_of_lt_of_le hi h.size) hm).trans (h.block i hi hm)⟩
theorem Keeps.mono {may may' : Nat → Prop} {A B : World} (h : Keeps may A B) (hm : ∀ k, may k → may' k) : Keeps may' A B :=
  ⟨h.os, h.tape, h.output, h.size, fun i hi hn => h.block i hi (fun x => hn (hm i x))⟩
theorem Keeps.of_below {may : Nat → Prop} {A B : World} (h : Below A.heap.size A B) : Keeps may A B := ⟨h.os, h.tape, h.output, h.size, fun i hi _ => h.block i hi⟩
theorem Keeps.below {n : Nat} {may : Nat → Prop} {A B : World} (h : Keeps may A B) (hn : n ≤ A.heap.size) (hm : ∀ k, may k → n ≤ k) : Below n A B :=
  ⟨h.os, h.tape, h.output, h.size, fun i hi => h.block i (by omega) (fun x => by have := hm i x; omega)⟩
theorem Keeps.putObj {may : Nat → Prop} (W : World) (l : Nat) (o : Obj) (hl : may l) : Keeps may W (W.putObj l o) :=
  ⟨rfl, rfl, rfl, by simp, fun k _ hk => World.putObj_heap_other (fun e => hk (e ▸ hl))⟩
theorem Keeps.setCell {may : Nat → Prop} (W : World) (b o : Nat) (v : Value) (hl : may b) : Keeps may W (W.setCell ⟨b, o, none⟩ v) :=
  ⟨rfl, rfl, rfl, by simp [World.setCell], fun k _ hk => Below.heap_setCell W _ v k (fun e => hk (e ▸ hl))⟩
theorem Keeps.grown {may : Nat → Prop} {W W' : World} {row : Option Nat} (hg : W.grownBy W' row) (hr : ∀ k, row = some k → may k) : Keeps may W W' :=
  ⟨hg.os, hg.tape, hg.output, hg.size, fun k hk hm => hg.block k hk (fun e => hm (hr k e.symm))⟩
theorem Keeps.drew {may : Nat → Prop} {A W : World} (h : Keeps may A W) : Keeps may A W.drew := ⟨h.os, h.tape, h.output, h.size, h.block⟩
theorem Keeps.alloc {may : Nat → Prop} {A W : World} (h : Keeps may A W) (o : Obj) : Keeps may A (W.alloc o) := h.trans (Keeps.of_below ((Below.refl _ W).alloc (Nat.le_refl _) o))

/-- The steps that an iterator takes between two rounds: new blocks; of those that lay none is turned but such as lie at or beyond B and bear no cells of type e. -/
structure Ext (B : Nat) (e : TypeId) (W W' : World) : Prop where
  os : W'.os = W.os
  tape : W'.tape = W.tape
  output : W'.output = W.output
  size : W.heap.size ≤ W'.heap.size
  same : ∀ k o, W.heap[k]? = some o → (k < B ∨ Obj.ofE e o = true) → W'.heap[k]? = some o

theorem Ext.refl (B : Nat) (e : TypeId) (W : World) : Ext B e W W := ⟨rfl, rfl, rfl, Nat.le_refl _, fun _ _ h _ => h⟩
theorem Ext.trans {B : Nat} {e : TypeId} {A C D : World} (h : Ext B e A C) (k : Ext B e C D) : Ext B e A D :=
  ⟨k.os.trans h.os, k.tape.trans h.tape, k.output.trans h.output, Nat.le_trans h.size k.size, fun i o hi hc => k.same i o (h.same i o hi hc) hc⟩
theorem Ext.mono {B B' : Nat} {e : TypeId} {A C : World} (h : Ext B' e A C) (hB : B ≤ B') : Ext B e A C :=
  ⟨h.os, h.tape, h.output, h.size, fun i o hi hc => h.same i o hi (hc.imp (fun x => by omega) id)⟩
theorem Ext.of_below {B : Nat} {e : TypeId} {A C : World} (h : Below A.heap.size A C) : Ext B e A C :=
  ⟨h.os, h.tape, h.output, h.size, fun i _ hi _ => (h.block i (Array.getElem?_eq_some_iff.1 hi).1).trans hi⟩
theorem Ext.alloc (B : Nat) (e : TypeId) (W : World) (o : Obj) : Ext B e W (W.alloc o) := Ext.of_below ((Below.refl _ W).alloc (Nat.le_refl _) o)
theorem Ext.drew (B : Nat) (e : TypeId) (W : World) : Ext B e W W.drew := ⟨rfl, rfl, rfl, Nat.le_refl _, fun _ _ h _ => h⟩
theorem Ext.putObj {B : Nat} {e : TypeId} {W : World} {l : Nat} {o : Obj} (o' : Obj) (hl : W.heap[l]? = some o) (hB : B ≤ l) (ho : Obj.ofE e o = false) : Ext B e W (W.putObj l o') :=
  ⟨rfl, rfl, rfl, by simp, fun k o2 hk hc => by
    by_cases e' : k = l
    · subst e'
      rw [hl] at hk
      obtain rfl : o = o2 := by simpa using hk
      rcases hc with hc | hc
      · omega
      · rw [ho] at hc; cases hc
    · exact (World.putObj_heap_other e').trans hk⟩
theorem Ext.setCell {B : Nat} {e : TypeId} {W : World} {b : Nat} {c : Array Value} {t : TypeId} {fz : Nat × Nat} (hl : W.heap[b]? = some (.cells c t fz)) (hB : B ≤ b) (ht : t ≠ e) (i : Nat) (v : Value) : Ext B e W (W.setCell ⟨b, i, none⟩ v) :=
  ⟨rfl, rfl, rfl, by simp [World.setCell], fun k o2 hk hc => by
    by_cases e' : k = b
    · subst e'
      rw [hl] at hk
      obtain rfl : Obj.cells c t fz = o2 := by simpa using hk
      rcases hc with hc | hc
      · omega
      · simp [Obj.ofE, ht] at hc
    · exact (Below.heap_setCell W _ v k e').trans hk⟩
theorem Ext.grown {B : Nat} {e : TypeId} {W W' : World} {row : Option Nat} (hg : W.grownBy W' row) (hr : ∀ k, row = some k → B ≤ k ∧ ∀ o, W.heap[k]? = some o → Obj.ofE e o = false) : Ext B e W W' :=
  ⟨hg.os, hg.tape, hg.output, hg.size, fun k o hk hc => by
    refine (hg.block k (Array.getElem?_eq_some_iff.1 hk).1 (fun e' => ?_)).trans hk
    obtain ⟨h1, h2⟩ := hr k e'.symm
    rcases hc with hc | hc
    · omega
    · rw [h2 o hk] at hc; cases hc⟩
/-- What an iterator's step does to a block that lies below B, or bears cells of type e. -/
theorem Ext.block {B : Nat} {e : TypeId} {A C : World} (h : Ext B e A C) {k : Nat} {o : Obj} (hk : A.heap[k]? = some o) (hc : k < B ∨ Obj.ofE e o = true) : C.heap[k]? = A.heap[k]? := (h.same k o hk hc).trans hk.symm
theorem Ext.below {n B : Nat} {e : TypeId} {w A C : World} (h : Ext B e A C) (hn : n ≤ B) (hb : Below n w A) (hs : n ≤ w.heap.size) : Below n w C :=
  hb.trans ⟨h.os, h.tape, h.output, h.size, fun k hk => by
    have hlt : k < A.heap.size := by have := hb.size; omega
    exact h.block (Array.getElem?_eq_getElem hlt) (.inl (by omega))⟩

/-- AN ITERATOR (function gf, bound to lb), made in W0, of whose blocks it leans on those of dep: called in a later world at the yield of whatever loop, with whatever invariant of the caller's: all of xs come, one by one, in their order; or a round has said 'no more'. -/
def SeqAt {α : Type} (P : Program) (gf : Nat) (lb : Array Value) (e : TypeId) (R : World → α → Value → Prop) (xs : List α) (dep : Nat → Prop) (W0 : World) : Prop :=
  ∀ (W : World) (l : Nat) (may : Nat → Prop) (J : List α → World → Prop) (Jx : World → Prop),
    (∀ k, dep k → k < W0.heap.size ∧ W.heap[k]? = W0.heap[k]?) → W0.heap.size ≤ W.heap.size → (∀ k, dep k → ¬ may k) → (∀ k, W.heap.size ≤ k → ¬ may k) →
    (∀ pre X Y, J pre X → W.heap.size ≤ X.heap.size → Ext W.heap.size e X Y → J pre Y) → (∀ X Y, Jx X → W.heap.size ≤ X.heap.size → Ext W.heap.size e X Y → Jx Y) →
    (∀ pre x v X, J pre X → pre ++ [x] <+: xs → R X x v → W.heap.size ≤ X.heap.size → YieldAt Fence.wide 0 P l #[v] X fun en Y =>
      (en = .returned (.bool true) ∧ J (pre ++ [x]) Y ∧ Keeps may X Y) ∨ (en = .returned (.bool false) ∧ Jx Y ∧ Keeps may X Y)) →
    J [] W →
    CallsIn Fence.wide 0 P gf (#[.func (.yield l) #[] #[]] ++ lb) W fun en Y => (∃ v, en = .returned v) ∧ (J xs Y ∨ Jx Y)

/-- How a round's body may be left. -/
def rangeBody {α : Type} (may : Nat → Prop) (I : List α → World → Prop) (Ix : World → Prop) (xs : List α) (X : World) : Exit → Act → World → Prop
  | .normal, _, Y => Keeps may X Y ∧ I xs Y
  | .ret, _, Y => Keeps may X Y ∧ Ix Y
  | _, _, _ => False

/-- **The statement.** -/
theorem wp_range {α : Type} {P : Program} {g : Operand} {p : Tmp} {assign body : Code} {Q : Exit → Act → World → Prop} {a : Act} {w : World}
    {gf : Nat} {lb : Array Value} (hg : a.eval g = .func (.func gf) #[] lb) (eg : ∀ args w, (callFunc gf args).run P w = .ok (.enter gf args) w)
    {e : TypeId} {R : World → α → Value → Prop} {xs : List α} {dep : Nat → Prop} {W0 : World} (hseq : SeqAt P gf lb e R xs dep W0)
    (may : Nat → Prop) (hd : ∀ k, dep k → k < W0.heap.size ∧ w.heap[k]? = W0.heap[k]?) (hs : W0.heap.size ≤ w.heap.size) (hdm : ∀ k, dep k → ¬ may k) (hmw : ∀ k, w.heap.size ≤ k → ¬ may k)
    (hR : ∀ X Y x v, R X x v → w.heap.size ≤ X.heap.size → Ext w.heap.size e X Y → R Y x v)
    (I : List α → World → Prop) (Ix : World → Prop)
    (hI : ∀ pre X Y, I pre X → w.heap.size ≤ X.heap.size → Ext w.heap.size e X Y → I pre Y) (hIx : ∀ X Y, Ix X → w.heap.size ≤ X.heap.size → Ext w.heap.size e X Y → Ix Y) (h0 : I [] w) (a₁ : Value → Act)
    (hassign : ∀ (l : Nat) (v : Value) (X : World) (K : Act → World → Prop), K (a₁ v) X →
      assign.wpIn (Fence.wide.inRound l) 0 P (Exit.then K (fun _ _ _ => False)) { tmps := a.tmps.setIfInBounds p v, defers := [] } X)
    (hbody : ∀ (l : Nat) (pre : List α) (x : α) (v : Value) (X : World), I pre X → pre ++ [x] <+: xs → R X x v → w.heap.size + 2 ≤ X.heap.size →
      body.wpIn (Fence.wide.inRound l) 0 P (rangeBody may I Ix (pre ++ [x]) X) (a₁ v) X)
    (hdone : ∀ (Y : World), I xs Y → w.heap.size + 2 ≤ Y.heap.size → Y.heap[w.heap.size]? = some (.deferred (some [])) → Q .normal { a with defers := { target := .collected w.heap.size, args := #[] } :: a.defers } Y)
    (hstop : ∀ (Y : World), Ix Y → w.heap.size + 2 ≤ Y.heap.size → Y.heap[w.heap.size]? = some (.deferred (some [])) → Code.ret.wpIn Fence.wide 0 P Q { a with defers := { target := .collected w.heap.size, args := #[] } :: a.defers } Y) :
    (Code.rangeFunc g #[p] assign body).wpIn Fence.wide 0 P Q a w := by
  refine wpIn_rangeFunc ?_
  intro fn hfn
  have hround : Fence.wide.round = none := rfl
  rw [hround]
  obtain ⟨rec, hrec⟩ : ∃ rec : LoopState → Option Code → Loop, rec = fun st pe => { state := st, pending := pe, fn, tmps := a.tmps, params := #[p], assign, body, defers := w.heap.size } := ⟨_, rfl⟩
  obtain ⟨W1, hW1⟩ : ∃ W1, (w.alloc (.deferred (some []))).alloc (.loop (rec .ready none)) = W1 := ⟨_, rfl⟩
  have hsz : W1.heap.size = w.heap.size + 2 := by rw [← hW1]; simp
  have hL1 : W1.heap[w.heap.size + 1]? = some (.loop (rec .ready none)) := by
    rw [← hW1]; have := World.alloc_heap_new (w.alloc (.deferred (some []))) (.loop (rec .ready none)); rwa [World.size_alloc] at this
  have hK1 : W1.heap[w.heap.size]? = some (.deferred (some [])) := by
    rw [← hW1]; exact (Below.heap_alloc _ _ _ (by simp)).trans (World.alloc_heap_new w _)
  have hwB : Below w.heap.size w W1 := by
    rw [← hW1]; exact ((Below.refl _ w).alloc (Nat.le_refl _) _).alloc (by simp) _
  have hI1 : I [] W1 := hI [] w W1 h0 (Nat.le_refl _) (Ext.of_below hwB)
  have hnm : ¬ may (w.heap.size + 1) := hmw _ (by omega)
  have hnd : ¬ may w.heap.size := hmw _ (Nat.le_refl _)
  refine ⟨w.heap.size + 1, [{ target := .collected w.heap.size, args := #[] }], W1, { target := .fn (.func gf) lb, args := #[.func (.yield (w.heap.size + 1)) #[] #[]] }, W1, gf,
    #[.func (.yield (w.heap.size + 1)) #[] #[]] ++ lb, W1, ?_, ?_, ?_, ?_, fun h => by simp [Fence.wide] at h, ?_⟩
  · rw [← hW1, hrec]; exact run_enterLoop_outer _ _ _ _ _
  · simp only [resolve, hg]
    simp [go_sem]
  · intro f' _; trivial
  · simp [invoke, go_sem, eg]
  · have key := hseq W1 (w.heap.size + 1) (fun k => may k ∨ k = w.heap.size + 1)
      (fun pre X => I pre X ∧ X.heap[w.heap.size + 1]? = some (.loop (rec .ready none)) ∧ X.heap[w.heap.size]? = some (.deferred (some [])))
      (fun X => Ix X ∧ X.heap[w.heap.size + 1]? = some (.loop (rec .done (some .ret))) ∧ X.heap[w.heap.size]? = some (.deferred (some [])))
      (fun k hk => ⟨(hd k hk).1, (hwB.block k (Nat.lt_of_lt_of_le (hd k hk).1 hs)).trans (hd k hk).2⟩) (by omega)
      (fun k hk => by
        rintro (h | h)
        · exact hdm k hk h
        · have := (hd k hk).1; omega)
      (fun k hk => by
        rintro (h | h)
        · exact hmw k (by omega) h
        · omega)
      (fun pre X Y hX hle hE => ⟨hI pre X Y hX.1 (by omega) (hE.mono (by omega)), (hE.same _ _ hX.2.1 (.inl (by omega))), (hE.same _ _ hX.2.2 (.inl (by omega)))⟩)
      (fun X Y hX hle hE => ⟨hIx X Y hX.1 (by omega) (hE.mono (by omega)), (hE.same _ _ hX.2.1 (.inl (by omega))), (hE.same _ _ hX.2.2 (.inl (by omega)))⟩)
      ?_ ⟨hI1, hL1, hK1⟩
    · refine key.mono ?_
      rintro en Y ⟨⟨v, rfl⟩, (⟨hi, hl, hk⟩ | ⟨hi, hl, hk⟩)⟩
      · have hlt := (Array.getElem?_eq_some_iff.1 hl).1
        refine ⟨none, _, by have := run_endLoop (P := P) hl (by rw [hrec]; simp); rw [hrec] at this; exact this, ?_⟩
        exact hdone _ (hI _ _ _ hi (by omega) (Ext.putObj _ hl (by omega) rfl)) (by simp; omega) ((World.putObj_heap_other (by omega)).trans hk)
      · have hlt := (Array.getElem?_eq_some_iff.1 hl).1
        refine ⟨some .ret, _, by have := run_endLoop (P := P) hl (by rw [hrec]; simp); rw [hrec] at this; exact this, ?_⟩
        exact hstop _ (hIx _ _ hi (by omega) (Ext.putObj _ hl (by omega) rfl)) (by simp; omega) ((World.putObj_heap_other (by omega)).trans hk)
    · rintro pre x v X ⟨hi, hl, hk⟩ hpre hRx hle
      have hlt := (Array.getElem?_eq_some_iff.1 hl).1
      have hy := run_yield (P := P) (args := #[v]) hl (by rw [hrec]; rfl)
      rw [hrec] at hy
      refine ⟨fn, _, assign, body, hy, roundIn_of_wpIn trivial ?_⟩
      have ht : (Array.foldl (fun (tmps : Array Value) (x : Tmp × Value) => tmps.setIfInBounds x.1 x.2) a.tmps (#[p].zip #[v])) = a.tmps.setIfInBounds p v := by simp
      show assign.wpIn _ _ _ _ { tmps := (Array.foldl (fun (tmps : Array Value) (x : Tmp × Value) => tmps.setIfInBounds x.1 x.2) a.tmps (#[p].zip #[v])), defers := [] } X
      rw [ht]
      refine hassign _ v X _ ?_
      refine ⟨_, run_beginRound hl (by rw [hrec]), ?_⟩
      have hl2 : (X.putObj (w.heap.size + 1) (.loop { rec .ready none with state := .busy })).heap[w.heap.size + 1]? = some (.loop { rec .ready none with state := .busy }) := World.putObj_heap_same hlt
      have hk2 : (X.putObj (w.heap.size + 1) (.loop { rec .ready none with state := .busy })).heap[w.heap.size]? = some (.deferred (some [])) := (World.putObj_heap_other (by omega)).trans hk
      have hE2 : Ext w.heap.size e X (X.putObj (w.heap.size + 1) (.loop { rec .ready none with state := .busy })) := Ext.putObj _ hl (by omega) rfl
      have hKp : Keeps (fun k => may k ∨ k = w.heap.size + 1) X (X.putObj (w.heap.size + 1) (.loop { rec .ready none with state := .busy })) := Keeps.putObj _ _ _ (.inr rfl)
      refine wpIn_mono (hbody _ pre x v _ (hI _ _ _ hi (by omega) hE2) hpre (hR _ _ _ _ hRx (by omega) hE2) (by simp; omega)) ?_
      have fin : ∀ (jump : Option Code) (X3 : World), Keeps may (X.putObj (w.heap.size + 1) (.loop { rec .ready none with state := .busy })) X3 →
          (Instr.endRound (w.heap.size + 1) jump).run P X3 = .ok (.bool jump.isNone) (X3.putObj (w.heap.size + 1) (.loop (rec (if jump.isNone then .ready else .done) jump))) ∧
          X3.heap[w.heap.size + 1]? = some (.loop { rec .ready none with state := .busy }) ∧
          (X3.putObj (w.heap.size + 1) (.loop (rec (if jump.isNone then .ready else .done) jump))).heap[w.heap.size + 1]? = some (.loop (rec (if jump.isNone then .ready else .done) jump)) ∧
          (X3.putObj (w.heap.size + 1) (.loop (rec (if jump.isNone then .ready else .done) jump))).heap[w.heap.size]? = some (.deferred (some [])) := fun jump X3 hk3 => by
        have hl3 := (hk3.block (w.heap.size + 1) (by simp; exact hlt) hnm).trans hl2
        have hk4 := (hk3.block w.heap.size (by simp; omega) hnd).trans hk2
        have := run_endRound (P := P) jump hl3
        rw [hrec] at this ⊢
        exact ⟨this, by rw [hrec] at hl3; exact hl3, World.putObj_heap_same (Array.getElem?_eq_some_iff.1 hl3).1, (World.putObj_heap_other (by omega)).trans hk4⟩
      rintro en a3 X3 hp
      cases en with
      | normal =>
        obtain ⟨hk3, hi3⟩ := hp
        obtain ⟨hr, hl3, hl4, hk4⟩ := fin none X3 hk3
        have h3 := hk3.size
        simp only [World.putObj_size] at h3
        exact ⟨_, _, hr, .inl ⟨rfl, ⟨hI _ _ _ hi3 (by omega) (Ext.putObj _ hl3 (by omega) rfl), hl4, hk4⟩, (hKp.trans (hk3.mono fun _ h => .inl h)).trans (Keeps.putObj _ _ _ (.inr rfl))⟩⟩
      | ret =>
        obtain ⟨hk3, hi3⟩ := hp
        obtain ⟨hr, hl3, hl4, hk4⟩ := fin (some .ret) X3 hk3
        have h3 := hk3.size
        simp only [World.putObj_size] at h3
        exact ⟨_, _, hr, .inr ⟨rfl, ⟨hIx _ _ hi3 (by omega) (Ext.putObj _ hl3 (by omega) rfl), hl4, hk4⟩, (hKp.trans (hk3.mono fun _ h => .inl h)).trans (Keeps.putObj _ _ _ (.inr rfl))⟩⟩
      | exit id => exact hp.elim
      | goto t => exact hp.elim
      | panic ch => exact hp.elim
      | outgrown => exact hp.elim

end Go.Proofs.YtapikimhmjnjeaaGreatDoor

/- What package name's generic first says of an iterator over keys: a contract of the program's own function. -/
namespace Go.Proofs.YtapikimhmjnjeaaGreatDoor
open Go.RowKit Go.Shelf
attribute [local go_sem] Oper.semAt_some

/-- The first of some things by an order, as the text goes. -/
def firstStep {α : Type} (cf : α → α → Int) : Option α → α → Option α
  | none, x => some x
  | some b, x => if cf x b < 0 then some x else some b
def firstL {α : Type} (cf : α → α → Int) (xs : List α) : Option α := xs.foldl (firstStep cf) none
theorem firstL_snoc {α : Type} (cf : α → α → Int) (xs : List α) (x : α) : firstL cf (xs ++ [x]) = firstStep cf (firstL cf xs) x := by simp [firstL]
theorem firstL_mem {α : Type} (cf : α → α → Int) (xs : List α) (b : α) (h : firstL cf xs = some b) : b ∈ xs := by
  have : ∀ (ys : List α) (o : Option α), (∀ c, o = some c → c ∈ xs) → (∀ y ∈ ys, y ∈ xs) → ∀ b, ys.foldl (firstStep cf) o = some b → b ∈ xs := by
    intro ys
    induction ys with
    | nil => intro o ho _ b hb; exact ho b hb
    | cons y ys ih =>
      intro o ho hy b hb
      refine ih (firstStep cf o y) ?_ (fun z hz => hy z (List.mem_cons_of_mem _ hz)) b hb
      intro c hc
      unfold firstStep at hc
      cases o with
      | none => simp at hc; subst hc; exact hy _ (List.mem_cons_self ..)
      | some d =>
        simp only at hc
        split at hc
        · simp at hc; subst hc; exact hy _ (List.mem_cons_self ..)
        · simp at hc; subst hc; exact ho _ rfl
  exact this xs none (fun c h => by cases h) (fun y h => h) b h

/-- The value that stands for the best thing so far. -/
def BestIs {α : Type} (R : World → α → Value → Prop) (w : World) (o : Option α) (v : Value) : Prop := match o with | none => v = .slice none 0 0 | some b => R w b v
theorem BestIs.imp {α : Type} {R : World → α → Value → Prop} {w w' : World} {o : Option α} {v : Value} (h : BestIs R w o v) (f : ∀ b, R w b v → R w' b v) : BestIs R w' o v := by
  cases o with
  | none => exact h
  | some b => exact f b h

set_option maxRecDepth 100000 in
set_option maxHeartbeats 2000000 in
theorem firstKey_any (gf : Nat) (lb : Array Value) (eg : ∀ args w, (callFunc gf args).run Tryz.prog w = .ok (.enter gf args) w) (go : Nat) (lo : Array Value) (ego : ∀ args w, (callFunc go args).run Tryz.prog w = .ok (.enter go args) w)
    (cf : ByteArray → ByteArray → Int) (xs : List ByteArray) (dep : Nat → Prop) (e : TypeId) (W0 w : World)
    (hseq : SeqAt Tryz.prog gf lb e (fun _ (x : ByteArray) v => v = .string x) xs dep W0)
    (hd : ∀ k, dep k → k < W0.heap.size ∧ w.heap[k]? = W0.heap[k]?) (hs : W0.heap.size ≤ w.heap.size)
    (hord : ∀ W x y, Below w.heap.size w W → x ∈ xs → y ∈ xs → Calls Tryz.prog go (#[.string x, .string y] ++ lo) W fun en W' => en = .returned (.int .i64 (cf x y)) ∧ Below W.heap.size W W') :
    Calls Tryz.prog 116 #[.func (.func gf) #[] lb, .func (.func go) #[] lo] w fun en w' =>
      en = .returned (.tuple #[.string ((firstL cf xs).getD ByteArray.empty), .bool (firstL cf xs).isSome]) ∧ Below w.heap.size w w' := by
  have HORD := Lib.hid hord
  have HSEQ := Lib.hid hseq
  have HD := Lib.hid hd
  clear hord hseq hd
  refine (callsIn_wide (n := 0)).1 ?_
  refine callsIn_of_wp_marks (n := 0) (F := Fence.wide) Tryz.func116 rfl trivial ?_
  simp only [Tryz.ntmps116, List.size_toArray, List.length_cons, List.length_nil, Nat.reduceAdd, Nat.reduceSub, Array.replicate_succ, Array.replicate_zero, List.push_toArray, List.append_toArray, List.nil_append, List.cons_append]
  gi_wp2
  obtain ⟨V, hV⟩ : ∃ V, (((w.alloc (Obj.cells #[Value.func (Fn.func go) #[] lo] 133)).alloc (Obj.cells #[Value.string { data := #[] }] 90)).alloc (Obj.cells #[Value.bool false] 4)) = V := ⟨_, rfl⟩
  rw [hV]
  have hVs : V.heap.size = w.heap.size + 3 := by rw [← hV]; simp
  have hVB : Below w.heap.size w V := by rw [← hV]; exact (((Below.refl _ w).alloc (Nat.le_refl _) _).alloc (by simp) _).alloc (by simp; omega) _
  have b0 : Boxed V w.heap.size 133 (Value.func (Fn.func go) #[] lo) := by rw [← hV]; exact ((Boxed.new w _ _).alloc _).alloc _
  have b1 : Boxed V (w.heap.size + 1) 90 (.string ⟨#[]⟩) := by rw [← hV]; have := (Boxed.new (w.alloc (Obj.cells #[Value.func (Fn.func go) #[] lo] 133)) 90 (.string ⟨#[]⟩)).alloc (Obj.cells #[Value.bool false] 4); rwa [World.size_alloc] at this
  have b2 : Boxed V (w.heap.size + 1 + 1) 4 (.bool false) := by rw [← hV]; have := (Boxed.new ((w.alloc (Obj.cells #[Value.func (Fn.func go) #[] lo] 133)).alloc (Obj.cells #[Value.string { data := #[] }] 90)) 4 (.bool false)); rwa [World.size_alloc, World.size_alloc] at this
  clear hV
  have hkeep : ∀ (B : Nat) (t : TypeId) (v : Value) (X Y : World), B < V.heap.size → Boxed X B t v → Ext V.heap.size e X Y → Boxed Y B t v := fun B t v X Y hB hb hE => hE.same _ _ hb (.inl hB)
  refine wp_range (gf := gf) (lb := lb) rfl eg HSEQ.out (fun k => k = w.heap.size + 1 ∨ k = w.heap.size + 1 + 1)
    (fun k hk => ⟨(HD.out k hk).1, (hVB.block k (Nat.lt_of_lt_of_le (HD.out k hk).1 hs)).trans (HD.out k hk).2⟩) (by omega) (fun k hk => by have := (HD.out k hk).1; omega) (fun k hk => by omega)
    (fun X Y x v hR _ _ => hR)
    (fun pre X => Below w.heap.size w X ∧ Boxed X w.heap.size 133 (Value.func (Fn.func go) #[] lo) ∧ Boxed X (w.heap.size + 1) 90 (.string ((firstL cf pre).getD ByteArray.empty)) ∧ Boxed X (w.heap.size + 1 + 1) 4 (.bool (firstL cf pre).isSome))
    (fun _ => False)
    (fun pre X Y h hle hE => ⟨hE.below (by omega) h.1 (Nat.le_refl _), hkeep _ _ _ X Y (by omega) h.2.1 hE, hkeep _ _ _ X Y (by omega) h.2.2.1 hE, hkeep _ _ _ X Y (by omega) h.2.2.2 hE⟩)
    (fun _ _ h _ _ => h) ⟨hVB, b0, b1, b2⟩
    (fun v => { tmps := #[Value.func (Fn.func gf) #[] lb, Value.func (Fn.func go) #[] lo, undef, Value.pointer (some { block := w.heap.size, off := 0 }), Value.string { data := #[] }, Value.bool false,
          Value.pointer (some { block := w.heap.size + 1, off := 0 }), Value.pointer (some { block := w.heap.size + 1 + 1, off := 0 }), v, Value.func (Fn.func gf) #[] lb, v,
          undef, undef, undef, undef, undef, undef, undef, undef, undef, undef, undef, undef], defers := [] }) ?assign ?body ?done ?stop
  case assign =>
    intro l v X K hK
    gi_wp2
    exact hK
  case body =>
    rintro l pre x v X ⟨hB, hb0, hb1, hb2⟩ hpre rfl hle
    have hx : x ∈ xs := hpre.subset (by simp)
    obtain ⟨o, ho⟩ : ∃ o, firstL cf pre = o := ⟨_, rfl⟩
    have HS := Lib.hid (firstL_snoc cf pre x)
    have HM : Hid (∀ b, o = some b → b ∈ xs) := fun b hb => hpre.subset (List.mem_append_left _ (firstL_mem cf pre b (ho.trans hb)))
    rw [ho] at hb1 hb2 HS
    clear ho
    have hc0 := hb0.cell
    have hc1 := hb1.cell
    have hc2 := hb2.cell
    have hf1 := hb1.frozen
    have hf2 := hb2.frozen
    cases o with
    | none =>
      have HS' : Hid (firstL cf (pre ++ [x]) = some x) := HS.out
      clear HS HM
      gi_wp2
      refine ⟨fun _ h => (by cases h), ?_⟩
      gi_wp2
      refine ⟨(Keeps.setCell X _ 0 _ (.inl rfl)).trans (Keeps.setCell _ _ 0 _ (.inr rfl)), (hB.setCell (p := ⟨w.heap.size + 1, 0, none⟩) (by simp) _).setCell (p := ⟨w.heap.size + 1 + 1, 0, none⟩) (by simp; omega) _,
        (hb0.other (by omega) _).other (by omega) _, ?_, ?_⟩
      · rw [HS'.out]; exact (hb1.set _).other (by omega) _
      · rw [HS'.out]; exact (hb2.other (by omega) _).set _
    | some b =>
      have HC := Lib.hid (HORD.out X x b hB hx (HM.out b rfl))
      by_cases hlt : cf x b < 0
      · have HS' : Hid (firstL cf (pre ++ [x]) = some x) := by
          show _ = _
          rw [HS.out]
          simp only [firstStep, if_pos hlt]
        clear HS HM
        gi_wp2_with fail
        refine ⟨trivial, rfl, ?_⟩
        refine (CallsIn.inRound l (callsIn_wide.2 HC.out)).mono ?_
        rintro en W' ⟨rfl, hb⟩
        have hbk : Keeps (fun k => k = w.heap.size + 1 ∨ k = w.heap.size + 1 + 1) X W' := Keeps.of_below hb
        have hB' : Below w.heap.size w W' := hB.trans (hb.mono hB.size)
        have hb0' : Boxed W' w.heap.size 133 (Value.func (Fn.func go) #[] lo) := (hb.block _ hb0.lt).trans hb0
        have hb1' : Boxed W' (w.heap.size + 1) 90 (.string b) := (hb.block _ hb1.lt).trans hb1
        have hb2' : Boxed W' (w.heap.size + 1 + 1) 4 (.bool true) := (hb.block _ hb2.lt).trans hb2
        have hc1' := hb1'.cell
        have hc2' := hb2'.cell
        have hf1' := hb1'.frozen
        have hf2' := hb2'.frozen
        clear hb hb0 hb1 hb2 hc0 hc1 hc2 hf1 hf2 hB
        gi_wp2_with fail
        refine ⟨(hbk.trans (Keeps.setCell W' _ 0 _ (.inl rfl))).trans (Keeps.setCell _ _ 0 _ (.inr rfl)), (hB'.setCell (p := ⟨w.heap.size + 1, 0, none⟩) (by simp) _).setCell (p := ⟨w.heap.size + 1 + 1, 0, none⟩) (by simp; omega) _,
          (hb0'.other (by omega) _).other (by omega) _, ?_, ?_⟩
        · rw [HS'.out]; exact (hb1'.set _).other (by omega) _
        · rw [HS'.out]; exact (hb2'.other (by omega) _).set _
      · have HS' : Hid (firstL cf (pre ++ [x]) = some b) := by
          show _ = _
          rw [HS.out]
          simp only [firstStep, if_neg hlt]
        clear HS HM
        gi_wp2_with fail
        refine ⟨trivial, rfl, ?_⟩
        refine (CallsIn.inRound l (callsIn_wide.2 HC.out)).mono ?_
        rintro en W' ⟨rfl, hb⟩
        have hbk : Keeps (fun k => k = w.heap.size + 1 ∨ k = w.heap.size + 1 + 1) X W' := Keeps.of_below hb
        have hB' : Below w.heap.size w W' := hB.trans (hb.mono hB.size)
        have hb0' : Boxed W' w.heap.size 133 (Value.func (Fn.func go) #[] lo) := (hb.block _ hb0.lt).trans hb0
        have hb1' : Boxed W' (w.heap.size + 1) 90 (.string b) := (hb.block _ hb1.lt).trans hb1
        have hb2' : Boxed W' (w.heap.size + 1 + 1) 4 (.bool true) := (hb.block _ hb2.lt).trans hb2
        clear hb hb0 hb1 hb2 hc0 hc1 hc2 hf1 hf2 hB
        gi_wp2_with fail
        refine ⟨hbk, hB', hb0', ?_, ?_⟩
        · rw [HS'.out]; exact hb1'
        · rw [HS'.out]; exact hb2'
  case done =>
    rintro Y ⟨hB, hb0, hb1, hb2⟩ hle hK
    have hc1 := hb1.cell
    have hc2 := hb2.cell
    gi_wp2_with fail
    gi_region
    all_goals gi_wp2
    refine ⟨by simp, .inl ⟨_, _, rfl, run_takeDeferred hK, ?_⟩⟩
    refine ⟨_, results_tmp2 rfl _ _ _, rfl, ?_⟩
    exact hB.drew.grown (grownBy_putObj' _ _ _) hB.size (fun k e' => by cases e'; omega)
  case stop =>
    intro Y h
    exact h.elim

end Go.Proofs.YtapikimhmjnjeaaGreatDoor

/- What package name's generic first says of an iterator over slices (Strs): a contract of the program's own function. -/
namespace Go.Proofs.YtapikimhmjnjeaaGreatDoor
open Go.RowKit Go.Shelf
attribute [local go_sem] Oper.semAt_some

set_option maxRecDepth 100000 in
set_option maxHeartbeats 2000000 in
theorem firstStrs_any {α : Type} (gf : Nat) (lb : Array Value) (eg : ∀ args w, (callFunc gf args).run Tryz.prog w = .ok (.enter gf args) w) (go : Nat) (ego : ∀ args w, (callFunc go args).run Tryz.prog w = .ok (.enter go args) w)
    (cf : α → α → Int) (R : World → α → Value → Prop) (xs : List α) (dep : Nat → Prop) (e : TypeId) (W0 w : World)
    (hseq : SeqAt Tryz.prog gf lb e R xs dep W0)
    (hd : ∀ k, dep k → k < W0.heap.size ∧ w.heap[k]? = W0.heap[k]?) (hs : W0.heap.size ≤ w.heap.size) (ne1 : (22 : TypeId) ≠ e) (ne2 : (4 : TypeId) ≠ e)
    (hR : ∀ X Y x v, R X x v → Ext w.heap.size e X Y → R Y x v) (hsl : ∀ X x v, R X x v → ∃ A n c, v = .slice A n c)
    (hord : ∀ W x y u v, Below w.heap.size w W → x ∈ xs → y ∈ xs → R W x u → R W y v → Calls Tryz.prog go #[u, v] W fun en W' => en = .returned (.int .i64 (cf x y)) ∧ Below W.heap.size W W') :
    Calls Tryz.prog 124 #[.func (.func gf) #[] lb, .func (.func go) #[] #[]] w fun en w' =>
      ∃ v, en = .returned (.tuple #[v, .bool (firstL cf xs).isSome]) ∧ BestIs R w' (firstL cf xs) v ∧ Below w.heap.size w w' := by
  have HORD := Lib.hid hord
  have HSEQ := Lib.hid hseq
  have HD := Lib.hid hd
  have HR := Lib.hid hR
  have HSL := Lib.hid hsl
  have NE1 := Lib.hid ne1
  have NE2 := Lib.hid ne2
  clear hord hseq hd hR hsl ne1 ne2
  refine (callsIn_wide (n := 0)).1 ?_
  refine callsIn_of_wp_marks (n := 0) (F := Fence.wide) Tryz.func124 rfl trivial ?_
  simp only [Tryz.ntmps124, List.size_toArray, List.length_cons, List.length_nil, Nat.reduceAdd, Nat.reduceSub, Array.replicate_succ, Array.replicate_zero, List.push_toArray, List.append_toArray, List.nil_append, List.cons_append]
  gi_wp2
  obtain ⟨V, hV⟩ : ∃ V, (((w.alloc (Obj.cells #[Value.func (Fn.func go) #[] #[]] 140)).alloc (Obj.cells #[Value.slice none 0 0] 22)).alloc (Obj.cells #[Value.bool false] 4)) = V := ⟨_, rfl⟩
  rw [hV]
  have hVs : V.heap.size = w.heap.size + 3 := by rw [← hV]; simp
  have hVB : Below w.heap.size w V := by rw [← hV]; exact (((Below.refl _ w).alloc (Nat.le_refl _) _).alloc (by simp) _).alloc (by simp; omega) _
  have b0 : Boxed V w.heap.size 140 (Value.func (Fn.func go) #[] #[]) := by rw [← hV]; exact ((Boxed.new w _ _).alloc _).alloc _
  have b1 : Boxed V (w.heap.size + 1) 22 (.slice none 0 0) := by rw [← hV]; have := (Boxed.new (w.alloc (Obj.cells #[Value.func (Fn.func go) #[] #[]] 140)) 22 (.slice none 0 0)).alloc (Obj.cells #[Value.bool false] 4); rwa [World.size_alloc] at this
  have b2 : Boxed V (w.heap.size + 1 + 1) 4 (.bool false) := by rw [← hV]; have := (Boxed.new ((w.alloc (Obj.cells #[Value.func (Fn.func go) #[] #[]] 140)).alloc (Obj.cells #[Value.slice none 0 0] 22)) 4 (.bool false)); rwa [World.size_alloc, World.size_alloc] at this
  clear hV
  have hkeep : ∀ (B : Nat) (t : TypeId) (v : Value) (X Y : World), B < V.heap.size → Boxed X B t v → Ext V.heap.size e X Y → Boxed Y B t v := fun B t v X Y hB hb hE => hE.same _ _ hb (.inl hB)
  refine wp_range (gf := gf) (lb := lb) rfl eg HSEQ.out (fun k => k = w.heap.size + 1 ∨ k = w.heap.size + 1 + 1)
    (fun k hk => ⟨(HD.out k hk).1, (hVB.block k (Nat.lt_of_lt_of_le (HD.out k hk).1 hs)).trans (HD.out k hk).2⟩) (by omega) (fun k hk => by have := (HD.out k hk).1; omega) (fun k hk => by omega)
    (fun X Y x v hR _ hE => HR.out X Y x v hR (hE.mono (by omega)))
    (fun pre X => Below w.heap.size w X ∧ Boxed X w.heap.size 140 (Value.func (Fn.func go) #[] #[]) ∧ (∃ v, Boxed X (w.heap.size + 1) 22 v ∧ BestIs R X (firstL cf pre) v) ∧ Boxed X (w.heap.size + 1 + 1) 4 (.bool (firstL cf pre).isSome))
    (fun _ => False)
    (fun pre X Y h hle hE => ⟨hE.below (by omega) h.1 (Nat.le_refl _), hkeep _ _ _ X Y (by omega) h.2.1 hE, (by
      obtain ⟨v, hv1, hv2⟩ := h.2.2.1
      refine ⟨v, hkeep _ _ _ X Y (by omega) hv1 hE, ?_⟩
      exact hv2.imp (fun b h => HR.out X Y b v h (hE.mono (by omega)))), hkeep _ _ _ X Y (by omega) h.2.2.2 hE⟩)
    (fun _ _ h _ _ => h) ⟨hVB, b0, ⟨_, b1, rfl⟩, b2⟩
    (fun v => { tmps := #[Value.func (Fn.func gf) #[] lb, Value.func (Fn.func go) #[] #[], undef, Value.pointer (some { block := w.heap.size, off := 0 }), Value.slice none 0 0, Value.bool false,
          Value.pointer (some { block := w.heap.size + 1, off := 0 }), Value.pointer (some { block := w.heap.size + 1 + 1, off := 0 }), v, Value.func (Fn.func gf) #[] lb, v,
          undef, undef, undef, undef, undef, undef, undef, undef, undef, undef, undef, undef], defers := [] }) ?assign ?body ?done ?stop
  case assign =>
    intro l v X K hK
    gi_wp2
    exact hK
  case body =>
    rintro l pre x v X ⟨hB, hb0, ⟨vb, hb1, hvb⟩, hb2⟩ hpre hRx hle
    obtain ⟨A, n, c, rfl⟩ := HSL.out X x v hRx
    have HX := Lib.hid hRx
    clear hRx
    have hx : x ∈ xs := hpre.subset (by simp)
    obtain ⟨o, ho⟩ : ∃ o, firstL cf pre = o := ⟨_, rfl⟩
    have HM : Hid (∀ b, o = some b → b ∈ xs) := fun b hb => hpre.subset (List.mem_append_left _ (firstL_mem cf pre b (ho.trans hb)))
    have HS := Lib.hid (firstL_snoc cf pre x)
    rw [ho] at hvb hb2 HS
    clear ho
    have step1 : ∀ (Y : World), Ext w.heap.size e X Y → Boxed Y (w.heap.size + 1) 22 vb → Boxed Y (w.heap.size + 1 + 1) 4 (.bool o.isSome) →
        R ((Y.setCell ⟨w.heap.size + 1, 0, none⟩ (.slice A n c)).setCell ⟨w.heap.size + 1 + 1, 0, none⟩ (.bool true)) x (.slice A n c) := fun Y hE h1 h2 =>
      HR.out X _ x _ HX.out ((hE.trans (Ext.setCell h1 (by omega) NE1.out 0 _)).trans (Ext.setCell (h2.other (by omega) _) (by omega) NE2.out 0 _))
    have HSTEP := Lib.hid step1
    clear step1
    have hc0 := hb0.cell
    have hc2 := hb2.cell
    have hf1 := hb1.frozen
    have hf2 := hb2.frozen
    cases o with
    | none =>
      have hvb : vb = .slice none 0 0 := hvb
      subst hvb
      have hc1 := hb1.cell
      have HS' : Hid (firstL cf (pre ++ [x]) = some x) := HS.out
      clear HS HM
      gi_wp2
      refine ⟨fun _ h => (by cases h), ?_⟩
      gi_wp2
      refine ⟨(Keeps.setCell X _ 0 _ (.inl rfl)).trans (Keeps.setCell _ _ 0 _ (.inr rfl)), (hB.setCell (p := ⟨w.heap.size + 1, 0, none⟩) (by simp) _).setCell (p := ⟨w.heap.size + 1 + 1, 0, none⟩) (by simp; omega) _,
        (hb0.other (by omega) _).other (by omega) _, ⟨_, (hb1.set _).other (by omega) _, ?_⟩, ?_⟩
      · rw [HS'.out]; exact HSTEP.out X (Ext.refl _ _ _) hb1 hb2
      · rw [HS'.out]; exact (hb2.other (by omega) _).set _
    | some b =>
      have hvb : R X b vb := hvb
      obtain ⟨A2, n2, c2, rfl⟩ := HSL.out X b vb hvb
      have HVB := Lib.hid hvb
      clear hvb
      have hc1 := hb1.cell
      have HC := Lib.hid (HORD.out X x b _ _ hB hx (HM.out b rfl) HX.out HVB.out)
      by_cases hlt : cf x b < 0
      · have HS' : Hid (firstL cf (pre ++ [x]) = some x) := by
          show _ = _
          rw [HS.out]
          simp only [firstStep, if_pos hlt]
        clear HS HM
        gi_wp2_with fail
        refine ⟨trivial, rfl, ?_⟩
        refine (CallsIn.inRound l (callsIn_wide.2 HC.out)).mono ?_
        rintro en W' ⟨rfl, hb⟩
        have hbk : Keeps (fun k => k = w.heap.size + 1 ∨ k = w.heap.size + 1 + 1) X W' := Keeps.of_below hb
        have hB' : Below w.heap.size w W' := hB.trans (hb.mono hB.size)
        have hb0' : Boxed W' w.heap.size 140 (Value.func (Fn.func go) #[] #[]) := (hb.block _ hb0.lt).trans hb0
        have hb1' : Boxed W' (w.heap.size + 1) 22 (.slice A2 n2 c2) := (hb.block _ hb1.lt).trans hb1
        have hb2' : Boxed W' (w.heap.size + 1 + 1) 4 (.bool true) := (hb.block _ hb2.lt).trans hb2
        have hE' : Hid (Ext w.heap.size e X W') := Ext.of_below hb
        have hc1' := hb1'.cell
        have hc2' := hb2'.cell
        have hf1' := hb1'.frozen
        have hf2' := hb2'.frozen
        clear hb hb0 hb1 hb2 hc0 hc1 hc2 hf1 hf2 hB
        gi_wp2_with fail
        refine ⟨(hbk.trans (Keeps.setCell W' _ 0 _ (.inl rfl))).trans (Keeps.setCell _ _ 0 _ (.inr rfl)), (hB'.setCell (p := ⟨w.heap.size + 1, 0, none⟩) (by simp) _).setCell (p := ⟨w.heap.size + 1 + 1, 0, none⟩) (by simp; omega) _,
          (hb0'.other (by omega) _).other (by omega) _, ⟨_, (hb1'.set _).other (by omega) _, ?_⟩, ?_⟩
        · rw [HS'.out]; exact HSTEP.out W' hE'.out hb1' hb2'
        · rw [HS'.out]; exact (hb2'.other (by omega) _).set _
      · have HS' : Hid (firstL cf (pre ++ [x]) = some b) := by
          show _ = _
          rw [HS.out]
          simp only [firstStep, if_neg hlt]
        clear HS HM HSTEP
        gi_wp2_with fail
        refine ⟨trivial, rfl, ?_⟩
        refine (CallsIn.inRound l (callsIn_wide.2 HC.out)).mono ?_
        rintro en W' ⟨rfl, hb⟩
        have hbk : Keeps (fun k => k = w.heap.size + 1 ∨ k = w.heap.size + 1 + 1) X W' := Keeps.of_below hb
        have hB' : Below w.heap.size w W' := hB.trans (hb.mono hB.size)
        have hb0' : Boxed W' w.heap.size 140 (Value.func (Fn.func go) #[] #[]) := (hb.block _ hb0.lt).trans hb0
        have hb1' : Boxed W' (w.heap.size + 1) 22 (.slice A2 n2 c2) := (hb.block _ hb1.lt).trans hb1
        have hb2' : Boxed W' (w.heap.size + 1 + 1) 4 (.bool true) := (hb.block _ hb2.lt).trans hb2
        have HVB' : Hid (R W' b (.slice A2 n2 c2)) := HR.out X W' b _ HVB.out (Ext.of_below hb)
        clear hb hb0 hb1 hb2 hc0 hc1 hc2 hf1 hf2 hB
        gi_wp2_with fail
        refine ⟨hbk, hB', hb0', ⟨_, hb1', ?_⟩, ?_⟩
        · rw [HS'.out]; exact HVB'.out
        · rw [HS'.out]; exact hb2'
  case done =>
    rintro Y ⟨hB, hb0, ⟨vb, hb1, hvb⟩, hb2⟩ hle hK
    have HVB := Lib.hid hvb
    clear hvb
    have hc1 := hb1.cell
    have hc2 := hb2.cell
    gi_wp2_with fail
    gi_region
    all_goals gi_wp2
    refine ⟨by simp, .inl ⟨_, _, rfl, run_takeDeferred hK, ?_⟩⟩
    refine ⟨_, results_tmp2 rfl _ _ _, vb, rfl, ?_, hB.drew.grown (grownBy_putObj' _ _ _) hB.size (fun k e' => by cases e'; omega)⟩
    exact HVB.out.imp (fun b h => HR.out Y _ b vb h ((Ext.drew _ _ Y).trans (Ext.putObj (W := Y.drew) _ hK (by omega) rfl)))
  case stop =>
    intro Y h
    exact h.elim

end Go.Proofs.YtapikimhmjnjeaaGreatDoor

/- What package name's generic first says of an iterator over slices (Ints): a contract of the program's own function. -/
namespace Go.Proofs.YtapikimhmjnjeaaGreatDoor
open Go.RowKit Go.Shelf
attribute [local go_sem] Oper.semAt_some

set_option maxRecDepth 100000 in
set_option maxHeartbeats 2000000 in
theorem firstInts_any {α : Type} (gf : Nat) (lb : Array Value) (eg : ∀ args w, (callFunc gf args).run Tryz.prog w = .ok (.enter gf args) w) (go : Nat) (ego : ∀ args w, (callFunc go args).run Tryz.prog w = .ok (.enter go args) w)
    (cf : α → α → Int) (R : World → α → Value → Prop) (xs : List α) (dep : Nat → Prop) (e : TypeId) (W0 w : World)
    (hseq : SeqAt Tryz.prog gf lb e R xs dep W0)
    (hd : ∀ k, dep k → k < W0.heap.size ∧ w.heap[k]? = W0.heap[k]?) (hs : W0.heap.size ≤ w.heap.size) (ne1 : (23 : TypeId) ≠ e) (ne2 : (4 : TypeId) ≠ e)
    (hR : ∀ X Y x v, R X x v → Ext w.heap.size e X Y → R Y x v) (hsl : ∀ X x v, R X x v → ∃ A n c, v = .slice A n c)
    (hord : ∀ W x y u v, Below w.heap.size w W → x ∈ xs → y ∈ xs → R W x u → R W y v → Calls Tryz.prog go #[u, v] W fun en W' => en = .returned (.int .i64 (cf x y)) ∧ Below W.heap.size W W') :
    Calls Tryz.prog 102 #[.func (.func gf) #[] lb, .func (.func go) #[] #[]] w fun en w' =>
      ∃ v, en = .returned (.tuple #[v, .bool (firstL cf xs).isSome]) ∧ BestIs R w' (firstL cf xs) v ∧ Below w.heap.size w w' := by
  have HORD := Lib.hid hord
  have HSEQ := Lib.hid hseq
  have HD := Lib.hid hd
  have HR := Lib.hid hR
  have HSL := Lib.hid hsl
  have NE1 := Lib.hid ne1
  have NE2 := Lib.hid ne2
  clear hord hseq hd hR hsl ne1 ne2
  refine (callsIn_wide (n := 0)).1 ?_
  refine callsIn_of_wp_marks (n := 0) (F := Fence.wide) Tryz.func102 rfl trivial ?_
  simp only [Tryz.ntmps102, List.size_toArray, List.length_cons, List.length_nil, Nat.reduceAdd, Nat.reduceSub, Array.replicate_succ, Array.replicate_zero, List.push_toArray, List.append_toArray, List.nil_append, List.cons_append]
  gi_wp2
  obtain ⟨V, hV⟩ : ∃ V, (((w.alloc (Obj.cells #[Value.func (Fn.func go) #[] #[]] 117)).alloc (Obj.cells #[Value.slice none 0 0] 23)).alloc (Obj.cells #[Value.bool false] 4)) = V := ⟨_, rfl⟩
  rw [hV]
  have hVs : V.heap.size = w.heap.size + 3 := by rw [← hV]; simp
  have hVB : Below w.heap.size w V := by rw [← hV]; exact (((Below.refl _ w).alloc (Nat.le_refl _) _).alloc (by simp) _).alloc (by simp; omega) _
  have b0 : Boxed V w.heap.size 117 (Value.func (Fn.func go) #[] #[]) := by rw [← hV]; exact ((Boxed.new w _ _).alloc _).alloc _
  have b1 : Boxed V (w.heap.size + 1) 23 (.slice none 0 0) := by rw [← hV]; have := (Boxed.new (w.alloc (Obj.cells #[Value.func (Fn.func go) #[] #[]] 117)) 23 (.slice none 0 0)).alloc (Obj.cells #[Value.bool false] 4); rwa [World.size_alloc] at this
  have b2 : Boxed V (w.heap.size + 1 + 1) 4 (.bool false) := by rw [← hV]; have := (Boxed.new ((w.alloc (Obj.cells #[Value.func (Fn.func go) #[] #[]] 117)).alloc (Obj.cells #[Value.slice none 0 0] 23)) 4 (.bool false)); rwa [World.size_alloc, World.size_alloc] at this
  clear hV
  have hkeep : ∀ (B : Nat) (t : TypeId) (v : Value) (X Y : World), B < V.heap.size → Boxed X B t v → Ext V.heap.size e X Y → Boxed Y B t v := fun B t v X Y hB hb hE => hE.same _ _ hb (.inl hB)
  refine wp_range (gf := gf) (lb := lb) rfl eg HSEQ.out (fun k => k = w.heap.size + 1 ∨ k = w.heap.size + 1 + 1)
    (fun k hk => ⟨(HD.out k hk).1, (hVB.block k (Nat.lt_of_lt_of_le (HD.out k hk).1 hs)).trans (HD.out k hk).2⟩) (by omega) (fun k hk => by have := (HD.out k hk).1; omega) (fun k hk => by omega)
    (fun X Y x v hR _ hE => HR.out X Y x v hR (hE.mono (by omega)))
    (fun pre X => Below w.heap.size w X ∧ Boxed X w.heap.size 117 (Value.func (Fn.func go) #[] #[]) ∧ (∃ v, Boxed X (w.heap.size + 1) 23 v ∧ BestIs R X (firstL cf pre) v) ∧ Boxed X (w.heap.size + 1 + 1) 4 (.bool (firstL cf pre).isSome))
    (fun _ => False)
    (fun pre X Y h hle hE => ⟨hE.below (by omega) h.1 (Nat.le_refl _), hkeep _ _ _ X Y (by omega) h.2.1 hE, (by
      obtain ⟨v, hv1, hv2⟩ := h.2.2.1
      refine ⟨v, hkeep _ _ _ X Y (by omega) hv1 hE, ?_⟩
      exact hv2.imp (fun b h => HR.out X Y b v h (hE.mono (by omega)))), hkeep _ _ _ X Y (by omega) h.2.2.2 hE⟩)
    (fun _ _ h _ _ => h) ⟨hVB, b0, ⟨_, b1, rfl⟩, b2⟩
    (fun v => { tmps := #[Value.func (Fn.func gf) #[] lb, Value.func (Fn.func go) #[] #[], undef, Value.pointer (some { block := w.heap.size, off := 0 }), Value.slice none 0 0, Value.bool false,
          Value.pointer (some { block := w.heap.size + 1, off := 0 }), Value.pointer (some { block := w.heap.size + 1 + 1, off := 0 }), v, Value.func (Fn.func gf) #[] lb, v,
          undef, undef, undef, undef, undef, undef, undef, undef, undef, undef, undef, undef], defers := [] }) ?assign ?body ?done ?stop
  case assign =>
    intro l v X K hK
    gi_wp2
    exact hK
  case body =>
    rintro l pre x v X ⟨hB, hb0, ⟨vb, hb1, hvb⟩, hb2⟩ hpre hRx hle
    obtain ⟨A, n, c, rfl⟩ := HSL.out X x v hRx
    have HX := Lib.hid hRx
    clear hRx
    have hx : x ∈ xs := hpre.subset (by simp)
    obtain ⟨o, ho⟩ : ∃ o, firstL cf pre = o := ⟨_, rfl⟩
    have HM : Hid (∀ b, o = some b → b ∈ xs) := fun b hb => hpre.subset (List.mem_append_left _ (firstL_mem cf pre b (ho.trans hb)))
    have HS := Lib.hid (firstL_snoc cf pre x)
    rw [ho] at hvb hb2 HS
    clear ho
    have step1 : ∀ (Y : World), Ext w.heap.size e X Y → Boxed Y (w.heap.size + 1) 23 vb → Boxed Y (w.heap.size + 1 + 1) 4 (.bool o.isSome) →
        R ((Y.setCell ⟨w.heap.size + 1, 0, none⟩ (.slice A n c)).setCell ⟨w.heap.size + 1 + 1, 0, none⟩ (.bool true)) x (.slice A n c) := fun Y hE h1 h2 =>
      HR.out X _ x _ HX.out ((hE.trans (Ext.setCell h1 (by omega) NE1.out 0 _)).trans (Ext.setCell (h2.other (by omega) _) (by omega) NE2.out 0 _))
    have HSTEP := Lib.hid step1
    clear step1
    have hc0 := hb0.cell
    have hc2 := hb2.cell
    have hf1 := hb1.frozen
    have hf2 := hb2.frozen
    cases o with
    | none =>
      have hvb : vb = .slice none 0 0 := hvb
      subst hvb
      have hc1 := hb1.cell
      have HS' : Hid (firstL cf (pre ++ [x]) = some x) := HS.out
      clear HS HM
      gi_wp2
      refine ⟨fun _ h => (by cases h), ?_⟩
      gi_wp2
      refine ⟨(Keeps.setCell X _ 0 _ (.inl rfl)).trans (Keeps.setCell _ _ 0 _ (.inr rfl)), (hB.setCell (p := ⟨w.heap.size + 1, 0, none⟩) (by simp) _).setCell (p := ⟨w.heap.size + 1 + 1, 0, none⟩) (by simp; omega) _,
        (hb0.other (by omega) _).other (by omega) _, ⟨_, (hb1.set _).other (by omega) _, ?_⟩, ?_⟩
      · rw [HS'.out]; exact HSTEP.out X (Ext.refl _ _ _) hb1 hb2
      · rw [HS'.out]; exact (hb2.other (by omega) _).set _
    | some b =>
      have hvb : R X b vb := hvb
      obtain ⟨A2, n2, c2, rfl⟩ := HSL.out X b vb hvb
      have HVB := Lib.hid hvb
      clear hvb
      have hc1 := hb1.cell
      have HC := Lib.hid (HORD.out X x b _ _ hB hx (HM.out b rfl) HX.out HVB.out)
      by_cases hlt : cf x b < 0
      · have HS' : Hid (firstL cf (pre ++ [x]) = some x) := by
          show _ = _
          rw [HS.out]
          simp only [firstStep, if_pos hlt]
        clear HS HM
        gi_wp2_with fail
        refine ⟨trivial, rfl, ?_⟩
        refine (CallsIn.inRound l (callsIn_wide.2 HC.out)).mono ?_
        rintro en W' ⟨rfl, hb⟩
        have hbk : Keeps (fun k => k = w.heap.size + 1 ∨ k = w.heap.size + 1 + 1) X W' := Keeps.of_below hb
        have hB' : Below w.heap.size w W' := hB.trans (hb.mono hB.size)
        have hb0' : Boxed W' w.heap.size 117 (Value.func (Fn.func go) #[] #[]) := (hb.block _ hb0.lt).trans hb0
        have hb1' : Boxed W' (w.heap.size + 1) 23 (.slice A2 n2 c2) := (hb.block _ hb1.lt).trans hb1
        have hb2' : Boxed W' (w.heap.size + 1 + 1) 4 (.bool true) := (hb.block _ hb2.lt).trans hb2
        have hE' : Hid (Ext w.heap.size e X W') := Ext.of_below hb
        have hc1' := hb1'.cell
        have hc2' := hb2'.cell
        have hf1' := hb1'.frozen
        have hf2' := hb2'.frozen
        clear hb hb0 hb1 hb2 hc0 hc1 hc2 hf1 hf2 hB
        gi_wp2_with fail
        refine ⟨(hbk.trans (Keeps.setCell W' _ 0 _ (.inl rfl))).trans (Keeps.setCell _ _ 0 _ (.inr rfl)), (hB'.setCell (p := ⟨w.heap.size + 1, 0, none⟩) (by simp) _).setCell (p := ⟨w.heap.size + 1 + 1, 0, none⟩) (by simp; omega) _,
          (hb0'.other (by omega) _).other (by omega) _, ⟨_, (hb1'.set _).other (by omega) _, ?_⟩, ?_⟩
        · rw [HS'.out]; exact HSTEP.out W' hE'.out hb1' hb2'
        · rw [HS'.out]; exact (hb2'.other (by omega) _).set _
      · have HS' : Hid (firstL cf (pre ++ [x]) = some b) := by
          show _ = _
          rw [HS.out]
          simp only [firstStep, if_neg hlt]
        clear HS HM HSTEP
        gi_wp2_with fail
        refine ⟨trivial, rfl, ?_⟩
        refine (CallsIn.inRound l (callsIn_wide.2 HC.out)).mono ?_
        rintro en W' ⟨rfl, hb⟩
        have hbk : Keeps (fun k => k = w.heap.size + 1 ∨ k = w.heap.size + 1 + 1) X W' := Keeps.of_below hb
        have hB' : Below w.heap.size w W' := hB.trans (hb.mono hB.size)
        have hb0' : Boxed W' w.heap.size 117 (Value.func (Fn.func go) #[] #[]) := (hb.block _ hb0.lt).trans hb0
        have hb1' : Boxed W' (w.heap.size + 1) 23 (.slice A2 n2 c2) := (hb.block _ hb1.lt).trans hb1
        have hb2' : Boxed W' (w.heap.size + 1 + 1) 4 (.bool true) := (hb.block _ hb2.lt).trans hb2
        have HVB' : Hid (R W' b (.slice A2 n2 c2)) := HR.out X W' b _ HVB.out (Ext.of_below hb)
        clear hb hb0 hb1 hb2 hc0 hc1 hc2 hf1 hf2 hB
        gi_wp2_with fail
        refine ⟨hbk, hB', hb0', ⟨_, hb1', ?_⟩, ?_⟩
        · rw [HS'.out]; exact HVB'.out
        · rw [HS'.out]; exact hb2'
  case done =>
    rintro Y ⟨hB, hb0, ⟨vb, hb1, hvb⟩, hb2⟩ hle hK
    have HVB := Lib.hid hvb
    clear hvb
    have hc1 := hb1.cell
    have hc2 := hb2.cell
    gi_wp2_with fail
    gi_region
    all_goals gi_wp2
    refine ⟨by simp, .inl ⟨_, _, rfl, run_takeDeferred hK, ?_⟩⟩
    refine ⟨_, results_tmp2 rfl _ _ _, vb, rfl, ?_, hB.drew.grown (grownBy_putObj' _ _ _) hB.size (fun k e' => by cases e'; omega)⟩
    exact HVB.out.imp (fun b h => HR.out Y _ b vb h ((Ext.drew _ _ Y).trans (Ext.putObj (W := Y.drew) _ hK (by omega) rfl)))
  case stop =>
    intro Y h
    exact h.elim

end Go.Proofs.YtapikimhmjnjeaaGreatDoor

/- What package name's replaced yields: an iterator's contract (the program's own function). Sizes alone are asked. -/
namespace Go.Proofs.YtapikimhmjnjeaaGreatDoor
open Go.RowKit Go.Shelf
attribute [local go_sem] Oper.semAt_some

/-- What a replacement at one place makes. -/
def replT (s a b : ByteArray) (i : Nat) : ByteArray := s.extract 0 i ++ b ++ s.extract (i + a.size) s.size
/-- What a replacement at one place yields. -/
def replAt (s a b : ByteArray) (i : Nat) : List ByteArray :=
  if Lib.hasPrefix (s.extract i s.size).data.toList a.data.toList then (if lettersB (replT s a b i) 1 12 then [replT s a b i] else []) else []
def replN (s a b : ByteArray) : Nat → Nat → List ByteArray
  | 0, _ => []
  | n + 1, i => replAt s a b i ++ replN s a b n (i + 1)
/-- All strings in which one piece is replaced by another one. -/
def replL (s a b : ByteArray) : List ByteArray := replN s a b (s.size + 1) 0

theorem prefix_size {s a : ByteArray} {i : Nat} (h : Lib.hasPrefix (s.extract i s.size).data.toList a.data.toList = true) (hi : i ≤ s.size) : i + a.size ≤ s.size := by
  have := (List.isPrefixOf_iff_prefix.1 h).length_le
  have e1 : (s.extract i s.size).data.toList.length = s.size - i := by
    rw [Array.length_toList]
    show (s.extract i s.size).size = _
    rw [ByteArray.size_extract]
    omega
  have e2 : a.data.toList.length = a.size := by rw [Array.length_toList]; rfl
  omega

theorem boxed_keep {W0 W : World} {B : Nat} {t : TypeId} {v : Value} (h : Boxed W0 B t v) (he : W.heap[B]? = W0.heap[B]?) : Boxed W B t v := he.trans h

set_option maxRecDepth 100000 in
set_option maxHeartbeats 2000000 in
theorem replaced1_seq (b1 b2 b3 : Nat) (s a b : ByteArray) (W0 : World) (h1 : Boxed W0 b1 90 (.string s)) (h2 : Boxed W0 b2 9 (.string a)) (h3 : Boxed W0 b3 9 (.string b)) (hs : s.size ≤ 1000) (hbs : b.size ≤ 1000) (e : TypeId) :
    SeqAt Tryz.prog 190 #[.pointer (some ⟨b1, 0, none⟩), .pointer (some ⟨b2, 0, none⟩), .pointer (some ⟨b3, 0, none⟩)] e (fun _ (x : ByteArray) v => v = .string x) (replL s a b)
      (fun k => k = b1 ∨ k = b2 ∨ k = b3) W0 := by
  intro W l may J Jx hd hsz hdm hmw hJ hJx hY h0
  have H1 := Lib.hid h1
  have H2 := Lib.hid h2
  have H3 := Lib.hid h3
  have HD := Lib.hid hd
  have HM := Lib.hid hdm
  have HJ := Lib.hid hJ
  have HY := Lib.hid hY
  have H0 := Lib.hid h0
  have HZ := Lib.hid hsz
  clear h1 h2 h3 hd hdm hmw hJ hJx hY h0 hsz
  refine callsIn_of_wp Tryz.func190 rfl trivial ?_
  simp only [Tryz.ntmps190, List.size_toArray, List.length_cons, List.length_nil, Nat.reduceAdd, Nat.reduceSub, Array.replicate_succ, Array.replicate_zero, List.push_toArray, List.append_toArray, List.nil_append, List.cons_append]
  have c1 := (boxed_keep H1.out (HD.out b1 (.inl rfl)).2).cell
  have a0 : IntKind.i64.wrap ((s.size : Int) + 1) = (s.size : Int) + 1 := IntWalk.i64_in _ (by omega)
  gi_wp2_with fail
  refine wpIn_wide.2 ?_
  have start : ∃ pre, J pre W ∧ replL s a b = pre ++ replN s a b (s.size + 1) 0 := ⟨[], H0.out, rfl⟩
  have HST := Lib.hid start
  clear start
  go_loopg [10] (s.size + 1) (fun gf v wx => ∃ i : Nat, v = .int .i64 (i : Int) ∧ i + gf = s.size + 1 ∧ W.heap.size ≤ wx.heap.size ∧ wx.heap[b1]? = W.heap[b1]? ∧ wx.heap[b2]? = W.heap[b2]? ∧ wx.heap[b3]? = W.heap[b3]? ∧
    Hid (∃ pre, J pre wx ∧ replL s a b = pre ++ replN s a b gf i))
  case atStart => exact ⟨0, rfl, by omega, Nat.le_refl _, rfl, rfl, rfl, HST.out⟩
  case round =>
    obtain ⟨i, rfl, hig, hsz, k1, k2, k3, HP⟩ := hrel
    refine (wpIn_wide (n := 0)).1 ?_
    cases gk with
    | zero =>
      have hn : ¬ (i : Int) < (s.size : Int) + 1 := by omega
      gi_wp2_with fail
      go_end0
      obtain ⟨pre, hj, hp⟩ := HP.out
      simp only [replN, List.append_nil] at hp
      exact ⟨⟨_, rfl⟩, .inl (hp ▸ hj)⟩
    | succ g =>
      have hn : (i : Int) < (s.size : Int) + 1 := by omega
      have x1 := (boxed_keep H1.out (k1.trans (HD.out b1 (.inl rfl)).2)).cell
      have x2 := (boxed_keep H2.out (k2.trans (HD.out b2 (.inr (.inl rfl))).2)).cell
      have x3 := (boxed_keep H3.out (k3.trans (HD.out b3 (.inr (.inr rfl))).2)).cell
      have a1 : (0 : Int) ≤ (i : Int) := by omega
      have a2 : (i : Int) ≤ (s.size : Int) := by omega
      have a3 : (i : Int).toNat = i := by omega
      gi_wp2_with fail
      refine wpIn_wide.2 ?_
      refine wp_region_still_tail 4 (by kernel_rfl) (by kernel_rfl) ?_
      simp only [List.take_succ_cons, List.take_zero, List.drop_succ_cons, List.drop_zero]
      have d1 : wr.drew.cell? ⟨b1, 0, none⟩ = some (Value.string s) := x1
      have d2 : wr.drew.cell? ⟨b2, 0, none⟩ = some (Value.string a) := x2
      have d3 : wr.drew.cell? ⟨b3, 0, none⟩ = some (Value.string b) := x3
      have hE : Hid (Ext W.heap.size e wr wr.drew) := Ext.drew _ _ _
      have HP2 : Hid (∃ pre, J pre wr.drew ∧ replL s a b = pre ++ replN s a b (g + 1) i) := by
        obtain ⟨pre, hj, hp⟩ := HP.out
        exact ⟨pre, HJ.out pre _ _ hj hsz hE.out, hp⟩
      change wpStill _ _ wr.drew (fun a' => wpList _ _ _ _ a' wr.drew) _ _
      have k1' : wr.drew.heap[b1]? = W.heap[b1]? := k1
      have k2' : wr.drew.heap[b2]? = W.heap[b2]? := k2
      have k3' : wr.drew.heap[b3]? = W.heap[b3]? := k3
      have hsz' : W.heap.size ≤ wr.drew.heap.size := hsz
      clear hE HP x1 x2 x3 k1 k2 k3 hsz
      generalize wr.drew = w2 at *
      repeat still_step
      refine wpStill_nil ?_
      go_wp2_with fail
      refine (Tryz.strings_HasPrefix _ _ _).mono ?_
      rintro en w3 ⟨rfl, rfl⟩
      obtain ⟨hp, hhp⟩ : ∃ hp, Lib.hasPrefix (s.extract i s.size).data.toList a.data.toList = hp := ⟨_, rfl⟩
      rw [hhp]
      have HHP := Lib.hid hhp
      clear hhp
      cases hp with
      | false =>
        go_wp2_with fail
        gi_wp2_with fail
        go_roundg g
        case measure => omega
        case rel =>
          refine ⟨i + 1, rfl, by omega, hsz', k1', k2', k3', ?_⟩
          obtain ⟨pre, hj, hp⟩ := HP2.out
          refine ⟨pre, hj, hp.trans ?_⟩
          simp only [replN, replAt, HHP.out]
          rfl
      | true =>
        have hle := prefix_size HHP.out (by omega : i ≤ s.size)
        have a4 : IntKind.i64.wrap ((i : Int) + (a.size : Int)) = (i : Int) + (a.size : Int) := IntWalk.i64_in _ (by omega)
        have a5 : (0 : Int) ≤ (i : Int) + (a.size : Int) := by omega
        have a6 : (i : Int) + (a.size : Int) ≤ (s.size : Int) := by omega
        have a7 : ((i : Int) + (a.size : Int)).toNat = i + a.size := by omega
        go_wp2_with fail
        gi_wp2_with fail
        refine wpIn_wide.2 ?_
        refine wp_region_still_tail 12 (by kernel_rfl) (by kernel_rfl) ?_
        simp only [List.take_succ_cons, List.take_zero, List.drop_succ_cons, List.drop_zero]
        have e1 : w3.drew.cell? ⟨b1, 0, none⟩ = some (Value.string s) := d1
        have e2 : w3.drew.cell? ⟨b2, 0, none⟩ = some (Value.string a) := d2
        have e3 : w3.drew.cell? ⟨b3, 0, none⟩ = some (Value.string b) := d3
        have hE : Hid (Ext W.heap.size e w3 w3.drew) := Ext.drew _ _ _
        have HP3 : Hid (∃ pre, J pre w3.drew ∧ replL s a b = pre ++ replN s a b (g + 1) i) := by
          obtain ⟨pre, hj, hp⟩ := HP2.out
          exact ⟨pre, HJ.out pre _ _ hj hsz' hE.out, hp⟩
        change wpStill _ _ w3.drew (fun a' => wpList _ _ _ _ a' w3.drew) _ _
        have k1 : w3.drew.heap[b1]? = W.heap[b1]? := k1'
        have k2 : w3.drew.heap[b2]? = W.heap[b2]? := k2'
        have k3 : w3.drew.heap[b3]? = W.heap[b3]? := k3'
        have hsz : W.heap.size ≤ w3.drew.heap.size := hsz'
        clear hE HP2 d1 d2 d3 k1' k2' k3' hsz'
        generalize w3.drew = w4 at *
        have a8 : ¬ 9223372036854775807 < min i s.size + b.size := by omega
        have a9 : ¬ 9223372036854775807 < min i s.size + b.size + (s.size - (i + a.size)) := by omega
        repeat still_step
        refine wpStill_nil ?_
        clear a1 a2 a3 a4 a5 a6 a7 a8 a9
        go_wp2_with fail
        gi_wp2_with fail
        have HT : Hid (replN s a b (g + 1) i = (if lettersB (replT s a b i) 1 12 then [replT s a b i] else []) ++ replN s a b g (i + 1)) := by
          show _ = _
          simp only [replN, replAt, HHP.out, if_true]
        refine ⟨trivial, rfl, ?_⟩
        unfold replT at HT
        obtain ⟨t, ht⟩ : ∃ t, s.extract 0 i ++ b ++ s.extract (i + a.size) s.size = t := ⟨_, rfl⟩
        rw [ht] at HT ⊢
        clear ht
        refine (callsIn_wide.2 (letters_any t 1 12 w4)).mono ?_
        rintro en w5 ⟨rfl, hb5⟩
        have j1 : w5.heap[b1]? = W.heap[b1]? := (hb5.block b1 (Nat.lt_of_lt_of_le (HD.out b1 (.inl rfl)).1 (Nat.le_trans HZ.out hsz))).trans k1
        have j2 : w5.heap[b2]? = W.heap[b2]? := (hb5.block b2 (Nat.lt_of_lt_of_le (HD.out b2 (.inr (.inl rfl))).1 (Nat.le_trans HZ.out hsz))).trans k2
        have j3 : w5.heap[b3]? = W.heap[b3]? := (hb5.block b3 (Nat.lt_of_lt_of_le (HD.out b3 (.inr (.inr rfl))).1 (Nat.le_trans HZ.out hsz))).trans k3
        have hsz5 : W.heap.size ≤ w5.heap.size := Nat.le_trans hsz hb5.size
        have HP5 : Hid (∃ pre, J pre w5 ∧ replL s a b = pre ++ replN s a b (g + 1) i) := by
          obtain ⟨pre, hj, hp⟩ := HP3.out
          exact ⟨pre, HJ.out pre _ _ hj hsz (Ext.of_below hb5), hp⟩
        clear hb5 HP3 k1 k2 k3 e1 e2 e3 hsz
        obtain ⟨q, hq⟩ : ∃ q, lettersB t 1 12 = q := ⟨_, rfl⟩
        rw [hq] at HT ⊢
        clear hq
        cases q with
        | false =>
          gi_wp2_with fail
          refine ⟨fun _ h => (by cases h), ?_⟩
          gi_wp2_with fail
          go_roundg g
          case measure => omega
          case rel =>
            refine ⟨i + 1, rfl, by omega, hsz5, j1, j2, j3, ?_⟩
            obtain ⟨pre, hj, hp⟩ := HP5.out
            exact ⟨pre, hj, hp.trans (by rw [HT.out]; rfl)⟩
        | true =>
          obtain ⟨pre, hpre⟩ := HP5.out
          have HPR := Lib.hid hpre
          have HTT : Hid (replL s a b = (pre ++ [t]) ++ replN s a b g (i + 1)) := by
            show _ = _
            rw [HPR.out.2, HT.out]
            simp
          clear hpre HP5 HT
          obtain ⟨fn, tmps, assign, body, hy, hR⟩ := HY.out pre t (.string t) w5 HPR.out.1 ⟨_, HTT.out.symm⟩ rfl hsz5
          gi_wp2_with fail
          refine ⟨rfl, ?_⟩
          refine hR.mono ?_
          rintro en Y (⟨rfl, hj, hk⟩ | ⟨rfl, hj, hk⟩)
          · gi_wp2_with fail
            go_roundg g
            case measure => omega
            case rel =>
              have m : ∀ k, (k = b1 ∨ k = b2 ∨ k = b3) → Y.heap[k]? = w5.heap[k]? := fun k hkk => hk.block k (Nat.lt_of_lt_of_le (HD.out k hkk).1 (Nat.le_trans HZ.out hsz5)) (HM.out k hkk)
              exact ⟨i + 1, rfl, by omega, Nat.le_trans hsz5 hk.size, (m _ (.inl rfl)).trans j1, (m _ (.inr (.inl rfl))).trans j2, (m _ (.inr (.inr rfl))).trans j3, pre ++ [t], hj, HTT.out⟩
          · gi_wp2_with fail
            refine bodyPost_ret (results_none rfl _ _ _) rfl ?_
            exact ⟨⟨_, rfl⟩, .inr hj⟩

set_option maxHeartbeats 1000000 in
/-- replaced hands an iterator out. -/
theorem replaced_any (s a b : ByteArray) (w : World) :
    Calls Tryz.prog 171 #[.string s, .string a, .string b] w fun e w' =>
      e = .returned (.func (.func 190) #[] #[.pointer (some ⟨w.heap.size, 0, none⟩), .pointer (some ⟨w.heap.size + 1, 0, none⟩), .pointer (some ⟨w.heap.size + 2, 0, none⟩)]) ∧
      w' = ((w.alloc (.cells #[.string s] 90)).alloc (.cells #[.string a] 9)).alloc (.cells #[.string b] 9) := by
  go_enter Tryz.func171, Tryz.ntmps171
  go_wp2
  go_ret
  exact ⟨rfl, rfl⟩
end Go.Proofs.YtapikimhmjnjeaaGreatDoor

/- The marks that several loops over iterators leave in one activation. No conditions. -/
namespace Go.Proofs.YtapikimhmjnjeaaGreatDoor
open Go.RowKit Go.Shelf

def mark (r : Nat) : Deferred := { target := .collected r, args := #[] }

/-- Blocks of loops that have ended: no call is laid in any. -/
structure MarksAt (N : Nat) (rs : List Nat) (X : World) : Prop where
  nodup : rs.Nodup
  ge : ∀ r ∈ rs, N ≤ r
  obj : ∀ r ∈ rs, X.heap[r]? = some (.deferred (some []))

theorem MarksAt.nil (N : Nat) (X : World) : MarksAt N [] X := ⟨List.nodup_nil, by simp, by simp⟩
theorem MarksAt.lt {N : Nat} {rs : List Nat} {X : World} (h : MarksAt N rs X) : ∀ r ∈ rs, r < X.heap.size := fun r hr => (Array.getElem?_eq_some_iff.1 (h.obj r hr)).1
theorem MarksAt.of {N : Nat} {rs : List Nat} {X Y : World} (h : MarksAt N rs X) (hk : ∀ r ∈ rs, Y.heap[r]? = X.heap[r]?) : MarksAt N rs Y := ⟨h.nodup, h.ge, fun r hr => (hk r hr).trans (h.obj r hr)⟩
theorem MarksAt.ext {N B : Nat} {e : TypeId} {rs : List Nat} {X Y : World} (h : MarksAt N rs X) (hE : Ext B e X Y) (hB : ∀ r ∈ rs, r < B) : MarksAt N rs Y :=
  h.of fun r hr => hE.block (h.obj r hr) (.inl (hB r hr))
theorem MarksAt.keeps {N : Nat} {may : Nat → Prop} {rs : List Nat} {X Y : World} (h : MarksAt N rs X) (hk : Keeps may X Y) (hm : ∀ r, N ≤ r → ¬ may r) : MarksAt N rs Y :=
  h.of fun r hr => hk.block r (h.lt r hr) (hm r (h.ge r hr))
theorem MarksAt.cons {N r : Nat} {rs : List Nat} {X : World} (h : MarksAt N rs X) (hr : X.heap[r]? = some (.deferred (some []))) (hN : N ≤ r) (hn : ∀ q ∈ rs, q < r) : MarksAt N (r :: rs) X :=
  ⟨List.nodup_cons.2 ⟨fun hm => Nat.lt_irrefl _ (hn r hm), h.nodup⟩, fun q hq => by rcases List.mem_cons.1 hq with rfl | hq; exact hN; exact h.ge q hq, fun q hq => by rcases List.mem_cons.1 hq with rfl | hq; exact hr; exact h.obj q hq⟩

/-- An activation with marks alone leaves. -/
theorem leaves_marks {P : Program} {fn : Func} {tmps : Array Value} {R : Ending → World → Prop} {N : Nat} (e : TypeId) : ∀ (rs : List Nat) (W : World), MarksAt N rs W →
    (∀ W', Ext N e W W' → LeavesIn Fence.wide 0 P fn tmps R [] .returning W') → LeavesInM Fence.wide 0 P fn tmps R (rs.map mark) .returning W
  | [], W, _, h => h W (Ext.refl _ _ _)
  | r :: rs, W, hm, h => by
    have hr := hm.obj r (List.mem_cons_self ..)
    refine ⟨by simp, .inl ⟨r, _, rfl, run_takeDeferred hr, ?_⟩⟩
    refine leaves_marks e rs _ ⟨(List.nodup_cons.1 hm.nodup).2, fun q hq => hm.ge q (List.mem_cons_of_mem _ hq), fun q hq => ?_⟩ ?_
    · exact (World.putObj_heap_other (fun e' => (List.nodup_cons.1 hm.nodup).1 (by first | exact (e' ▸ hq) | exact (e'.symm ▸ hq) | (subst e'; exact hq)))).trans (hm.obj q (List.mem_cons_of_mem _ hq))
    · intro W' hE
      exact h W' ((Ext.putObj _ hr (hm.ge r (List.mem_cons_self ..)) rfl).trans hE)
end Go.Proofs.YtapikimhmjnjeaaGreatDoor

/- What package name's uses yields: an iterator's contract (the program's own function). Sizes alone are asked. -/
namespace Go.Proofs.YtapikimhmjnjeaaGreatDoor
open Go.RowKit Go.Shelf
attribute [local go_sem] Oper.semAt_some

abbrev Rl := ByteArray × ByteArray
/-- All strings that a use makes. -/
def useL (s : ByteArray) (r : Rl) : List ByteArray := replL s r.1 r.2 ++ replL s r.2 r.1
def usesL (l : List Rl) (s : ByteArray) : List ByteArray := l.flatMap (useL s)

/-- The rules lie at A. -/
def RulesAt (w : World) (A : Option Addr) (l : List Rl) : Prop := ∀ i (_ : i < l.length), ∃ b off, A = some ⟨b, off, none⟩ ∧
  w.cell? ⟨b, off + i * 2, none⟩ = some (.string (l.getD i (ByteArray.empty, ByteArray.empty)).1) ∧ w.cell? ⟨b, off + i * 2 + 1, none⟩ = some (.string (l.getD i (ByteArray.empty, ByteArray.empty)).2)

theorem cell_of_heap {X Y : World} {b : Nat} (h : X.heap[b]? = Y.heap[b]?) (o : Nat) : X.cell? ⟨b, o, none⟩ = Y.cell? ⟨b, o, none⟩ := by simp [World.cell?, h]

/-- What is still to come of a rule's two directions. -/
def dirs (s f1 f2 : ByteArray) : Nat → List ByteArray
  | 0 => replL s f1 f2 ++ replL s f2 f1
  | 1 => replL s f2 f1
  | _ => []

/-- What an iterator's loop over iterators keeps: its own box of the yield, the blocks on which it leans, what the caller keeps, the marks. -/
structure UI (t : TypeId) (W : World) (yl : Nat) (dep : Nat → Prop) (J : World → Prop) (rs : List Nat) (X : World) : Prop where
  size : W.heap.size + 1 ≤ X.heap.size
  box : Boxed X W.heap.size t (.func (.yield yl) #[] #[])
  dep : ∀ k, dep k → X.heap[k]? = W.heap[k]?
  j : J X
  marks : MarksAt (W.heap.size + 1) rs X

theorem UI.ext {t : TypeId} {W X Y : World} {yl B : Nat} {dep : Nat → Prop} {J : World → Prop} {rs : List Nat} {e : TypeId} (h : UI t W yl dep J rs X) (hd : ∀ k, dep k → k < W.heap.size)
    (hJ : ∀ X Y, J X → W.heap.size ≤ X.heap.size → Ext W.heap.size e X Y → J Y) (hE : Ext B e X Y) (hB : W.heap.size + 1 ≤ B) (hr : ∀ r ∈ rs, r < B) : UI t W yl dep J rs Y where
  size := Nat.le_trans h.size hE.size
  box := hE.same _ _ h.box (.inl (by omega))
  dep := fun k hk => (hE.block (Array.getElem?_eq_getElem (show k < X.heap.size by have := hd k hk; have := h.size; omega)) (.inl (by have := hd k hk; omega))).trans (h.dep k hk)
  j := hJ X Y h.j (by have := h.size; omega) (hE.mono (by omega))
  marks := h.marks.ext hE hr
theorem UI.yield {t : TypeId} {W X Y : World} {yl : Nat} {dep may : Nat → Prop} {J J' : World → Prop} {rs : List Nat} (h : UI t W yl dep J rs X) (hd : ∀ k, dep k → k < W.heap.size) (hk : Keeps may X Y)
    (hm : ∀ k, dep k → ¬ may k) (hw : ∀ k, W.heap.size ≤ k → ¬ may k) (j : J' Y) : UI t W yl dep J' rs Y where
  size := Nat.le_trans h.size hk.size
  box := (hk.block _ (by have := h.size; omega) (hw _ (Nat.le_refl _))).trans h.box
  dep := fun k hk' => (hk.block k (by have := hd k hk'; have := h.size; omega) (hm k hk')).trans (h.dep k hk')
  j := j
  marks := h.marks.keeps hk (fun r hr => hw r (by omega))
theorem UI.below {t : TypeId} {W X Y : World} {yl : Nat} {dep : Nat → Prop} {J : World → Prop} {rs : List Nat} {e : TypeId} (h : UI t W yl dep J rs X) (hd : ∀ k, dep k → k < W.heap.size)
    (hJ : ∀ X Y, J X → W.heap.size ≤ X.heap.size → Ext W.heap.size e X Y → J Y) (hb : Below X.heap.size X Y) : UI t W yl dep J rs Y :=
  h.ext hd hJ (Ext.of_below (B := X.heap.size) hb) h.size h.marks.lt

set_option maxRecDepth 100000 in
set_option maxHeartbeats 2000000 in
theorem uses1_seq (b1 b2 : Nat) (s : ByteArray) (A : Option Addr) (c : Nat) (l : List Rl) (W0 : World) (h1 : Boxed W0 b1 42 (.slice A l.length c)) (h2 : Boxed W0 b2 90 (.string s)) (hl : RulesAt W0 A l)
    (hs : s.size ≤ 1000) (hn : l.length ≤ 1000) (hr : ∀ r ∈ l, r.1.size ≤ 1000 ∧ r.2.size ≤ 1000) (e : TypeId) :
    SeqAt Tryz.prog 170 #[.pointer (some ⟨b1, 0, none⟩), .pointer (some ⟨b2, 0, none⟩)] e (fun _ (x : ByteArray) v => v = .string x) (usesL l s)
      (fun k => k = b1 ∨ k = b2 ∨ ∃ a, (A = some a ∧ l ≠ []) ∧ k = a.block) W0 := by
  intro W yl may J Jx hd hsz hdm hmw hJ hJx hY h0
  have H1 := Lib.hid h1
  have H2 := Lib.hid h2
  have HL := Lib.hid hl
  have HR := Lib.hid hr
  have HD := Lib.hid hd
  have HM := Lib.hid hdm
  have HW := Lib.hid hmw
  have HJ := Lib.hid hJ
  have HX := Lib.hid hJx
  have HY := Lib.hid hY
  have H0 := Lib.hid h0
  have HZ := Lib.hid hsz
  clear h1 h2 hl hr hd hdm hmw hJ hJx hY h0 hsz
  refine callsIn_of_wp_marks (n := 0) (F := Fence.wide) Tryz.func170 rfl trivial ?_
  simp only [Tryz.ntmps170, List.size_toArray, List.length_cons, List.length_nil, Nat.reduceAdd, Nat.reduceSub, Array.replicate_succ, Array.replicate_zero, List.push_toArray, List.append_toArray, List.nil_append, List.cons_append]
  have c1 := (boxed_keep H1.out (HD.out b1 (.inl rfl)).2).cell
  have hlt1 : b1 < W.heap.size := Nat.lt_of_lt_of_le (HD.out b1 (.inl rfl)).1 HZ.out
  gi_wp2_with fail
  have hUI : UI 123 W yl (fun k => k = b1 ∨ k = b2 ∨ ∃ a, (A = some a ∧ l ≠ []) ∧ k = a.block) (J []) [] (W.alloc (Obj.cells #[Value.func (Fn.yield yl) #[] #[]] 123)) :=
    ⟨by simp, Boxed.new W _ _, fun k hk => Below.heap_alloc _ _ _ (Nat.lt_of_lt_of_le (HD.out k hk).1 HZ.out), HJ.out _ _ _ H0.out (Nat.le_refl _) (Ext.alloc _ _ _ _), MarksAt.nil _ _⟩
  have HU := Lib.hid hUI
  clear hUI c1
  obtain ⟨V, hV⟩ : ∃ V, W.alloc (Obj.cells #[Value.func (Fn.yield yl) #[] #[]] 123) = V := ⟨_, rfl⟩
  rw [hV] at HU ⊢
  clear hV
  have HDL : Hid (∀ k, (k = b1 ∨ k = b2 ∨ ∃ a, (A = some a ∧ l ≠ []) ∧ k = a.block) → k < W.heap.size) := fun k hk => Nat.lt_of_lt_of_le (HD.out k hk).1 HZ.out
  refine wpIn_wide.2 ?_
  refine wp_loop_ghost_k (fun gf a X => ∃ (u5 u7 u8 u11 u12 u13 u14 u15 u16 u17 u18 u19 u20 u21 u22 u23 u24 u25 u26 u27 u28 u29 u30 u31 u32 u33 u34 u35 u36 u37 u38 u39 u40 u41 u42 u43 : Value) (rs : List Nat), (∃ i : Nat, u11 = Value.int IntKind.i64 (i : Int) ∧ i + gf = l.length ∧ Hid (∃ pre, UI 123 W yl (fun k => k = b1 ∨ k = b2 ∨ ∃ a, (A = some a ∧ l ≠ []) ∧ k = a.block) (J pre) rs X ∧ usesL l s = pre ++ usesL (l.drop i) s)) ∧
    a = { tmps := #[Value.func (Fn.yield yl) #[] #[], Value.pointer (some { block := b1, off := 0 }), Value.pointer (some { block := b2, off := 0 }), Value.pointer (some { block := W.heap.size, off := 0 }), undef, u5, undef, u7, u8, Value.slice A l.length c, Value.int IntKind.i64 ↑l.length, u11, u12, u13, u14, u15, u16, u17, u18, u19, u20, u21, u22, u23, u24, u25, u26, u27, u28, u29, u30, u31, u32, u33, u34, u35, u36, u37, u38, u39, u40, u41, u42, u43], defers := rs.map mark }) l.length ?_ ?_
  · exact ⟨_, _, _, _, _, _, _, _, _, _, _, _, _, _, _, _, _, _, _, _, _, _, _, _, _, _, _, _, _, _, _, _, _, _, _, _, [], ⟨0, rfl, by omega, ⟨[], HU.out, by simp⟩⟩, rfl⟩
  rintro gk a0 wr ⟨u5, u7, u8, u11, u12, u13, u14, u15, u16, u17, u18, u19, u20, u21, u22, u23, u24, u25, u26, u27, u28, u29, u30, u31, u32, u33, u34, u35, u36, u37, u38, u39, u40, u41, u42, u43, rs, ⟨i, rfl, hig, HP⟩, rfl⟩ J1 K1 hJ1 hK1
  refine (wpIn_wide (n := 0)).1 ?_
  cases gk with
  | zero =>
    have hn2 : ¬ (i : Int) < (l.length : Int) := by omega
    gi_wp2_with fail
    obtain ⟨pre, hu, hp⟩ := HP.out
    obtain rfl : i = l.length := by omega
    have hp' : usesL l s = pre := by rw [hp]; simp [usesL]
    refine leaves_marks e rs wr hu.marks (fun W' hE => ?_)
    refine ⟨_, results_none rfl _ _ _, ⟨_, rfl⟩, .inl ?_⟩
    rw [hp']
    exact HJ.out pre wr W' hu.j (by have := hu.size; omega) (hE.mono (by omega))
  | succ g =>
    have hn2 : (i : Int) < (l.length : Int) := by omega
    obtain ⟨pre, hpre⟩ := HP.out
    have HPR := Lib.hid hpre
    clear hpre HP
    obtain ⟨bd, off, rfl, hc1, hc2⟩ := HL.out i (by omega)
    obtain ⟨r, hr⟩ : ∃ r, l.getD i (ByteArray.empty, ByteArray.empty) = r := ⟨_, rfl⟩
    have hg : l[i]? = some r := by
      rw [List.getD_eq_getElem?_getD, List.getElem?_eq_getElem (by omega)] at hr
      rw [List.getElem?_eq_getElem (by omega)]
      exact congrArg some hr
    have HRR : Hid (r.1.size ≤ 1000 ∧ r.2.size ≤ 1000) := HR.out r (List.mem_of_getElem? hg)
    have HUU : Hid (usesL l s = pre ++ (useL s r ++ usesL (l.drop (i + 1)) s)) := by
      show _ = _
      rw [HPR.out.2]
      have : l.drop i = r :: l.drop (i + 1) := by
        rw [List.getElem?_eq_getElem (by omega)] at hg
        rw [List.drop_eq_getElem_cons (by omega : i < l.length)]
        congr 1
        exact Option.some.inj hg
      rw [this]
      simp [usesL]
    rw [hr] at hc1 hc2
    clear hr hg
    obtain ⟨f1, f2⟩ := r
    have hne : l ≠ [] := by intro h; subst h; simp at hn2; omega
    have hkd : wr.heap[bd]? = W0.heap[bd]? := (HPR.out.1.dep bd (.inr (.inr ⟨_, ⟨rfl, hne⟩, rfl⟩))).trans (HD.out bd (.inr (.inr ⟨_, ⟨rfl, hne⟩, rfl⟩))).2
    have k1 : wr.cell? ⟨bd, off + i * 2, none⟩ = some (.string f1) := (cell_of_heap hkd _).trans hc1
    have k2 : wr.cell? ⟨bd, off + i * 2 + 1, none⟩ = some (.string f2) := (cell_of_heap hkd _).trans hc2
    clear hc1 hc2 hkd
    have a1 : (0 : Int) ≤ (i : Int) := by omega
    have a3 : (i : Int).toNat = i := by omega
    gi_wp2_with fail
    obtain ⟨ba, hba⟩ : ∃ ba, wr.heap.size + 1 = ba := ⟨_, rfl⟩
    obtain ⟨V2, hV2⟩ : ∃ V2, (wr.alloc (Obj.cells #[Value.string f1, Value.string f2] 83)).alloc (Obj.cells #[Value.string f1, Value.string f2, Value.string f2, Value.string f1] 189) = V2 := ⟨_, rfl⟩
    have hobj : V2.heap[ba]? = some (Obj.cells #[Value.string f1, Value.string f2, Value.string f2, Value.string f1] 189) := by
      rw [← hV2, ← hba]
      have := World.alloc_heap_new (wr.alloc (Obj.cells #[Value.string f1, Value.string f2] 83)) (Obj.cells #[Value.string f1, Value.string f2, Value.string f2, Value.string f1] 189)
      rwa [World.size_alloc] at this
    have hB2 : Below wr.heap.size wr V2 := by rw [← hV2]; exact ((Below.refl _ wr).alloc (Nat.le_refl _) _).alloc (by simp) _
    have HIN : Hid (∃ pre2, UI 123 W yl (fun k => k = b1 ∨ k = b2 ∨ ∃ a, (some (Addr.mk bd off none) = some a ∧ l ≠ []) ∧ k = a.block) (J pre2) rs V2 ∧ usesL l s = pre2 ++ (dirs s f1 f2 0 ++ usesL (l.drop (i + 1)) s)) :=
      ⟨pre, HPR.out.1.below HDL.out (HJ.out pre) hB2, HUU.out⟩
    have hbaw : Hid (W.heap.size + 1 ≤ ba) := by have := HPR.out.1.size; show _ ≤ _; omega
    rw [hba, hV2]
    clear hV2 hB2 hba k1 k2 HUU HPR a1 a3
    refine wpIn_wide.2 ?_
    refine wp_loop_ghost_k (fun gf a X => ∃ (u7 u8 u27 u28 u29 u30 u31 u32 u33 u34 u35 u36 u37 u38 u39 u40 u41 u42 u43 : Value) (rs : List Nat), (∃ j : Nat, u27 = Value.int IntKind.i64 (j : Int) ∧ j + gf = 2 ∧ X.heap[ba]? = some (Obj.cells #[Value.string f1, Value.string f2, Value.string f2, Value.string f1] 189) ∧
      Hid (∃ pre, UI 123 W yl (fun k => k = b1 ∨ k = b2 ∨ ∃ a, (some (Addr.mk bd off none) = some a ∧ l ≠ []) ∧ k = a.block) (J pre) rs X ∧ usesL l s = pre ++ (dirs s f1 f2 j ++ usesL (l.drop (i + 1)) s))) ∧
      a = { tmps := #[Value.func (Fn.yield yl) #[] #[], Value.pointer (some { block := b1, off := 0 }), Value.pointer (some { block := b2, off := 0 }), Value.pointer (some { block := W.heap.size, off := 0 }), undef, Value.pointer (some { block := wr.heap.size, off := 0 }), undef, u7, u8, Value.slice (some { block := bd, off := off }) l.length c, Value.int IntKind.i64 ↑l.length, Value.int IntKind.i64 (i : Int), Value.bool true, Value.pointer (some { block := bd, off := off + i * 2 }), Value.agg #[Value.string f1, Value.string f2], Value.pointer (some { block := wr.heap.size, off := 0 }), Value.string f1, Value.pointer (some { block := wr.heap.size, off := 1 }), Value.string f2, Value.agg #[Value.string f1, Value.string f2], Value.pointer (some { block := wr.heap.size, off := 1 }), Value.string f2, Value.pointer (some { block := wr.heap.size, off := 0 }), Value.string f1, Value.agg #[Value.string f2, Value.string f1], Value.slice (some { block := ba, off := 0 }) 2 2, Value.int IntKind.i64 2, u27, u28, u29, u30, u31, u32, u33, u34, u35, u36, u37, u38, u39, u40, u41, u42, u43], defers := rs.map mark }) 2 ?_ ?_
    · exact ⟨_, _, _, _, _, _, _, _, _, _, _, _, _, _, _, _, _, _, _, rs, ⟨0, rfl, by omega, hobj, HIN⟩, rfl⟩
    clear HIN hobj V2 rs
    rintro gk2 a2 X ⟨u7, u8, u27, u28, u29, u30, u31, u32, u33, u34, u35, u36, u37, u38, u39, u40, u41, u42, u43, rs, ⟨j, rfl, hjg, hobj, HP⟩, rfl⟩ J2 K2 hJ2 hK2
    refine (wpIn_wide (n := 0)).1 ?_
    cases gk2 with
    | zero =>
      have hn3 : ¬ (j : Int) < 2 := by omega
      gi_wp2_with fail
      go_roundg g
      case measure => omega
      case rel =>
        obtain ⟨pre, hu, hp⟩ := HP.out
        obtain rfl : j = 2 := by omega
        exact ⟨i + 1, rfl, by omega, pre, hu, by rw [hp]; rfl⟩
    | succ g2 =>
      have hn3 : (j : Int) < 2 := by omega
      obtain ⟨x, y, hx, hy, hdir, hxs, hys⟩ : ∃ x y, X.cell? ⟨ba, j * 2, none⟩ = some (.string x) ∧ X.cell? ⟨ba, j * 2 + 1, none⟩ = some (.string y) ∧ dirs s f1 f2 j = replL s x y ++ dirs s f1 f2 (j + 1) ∧ x.size ≤ 1000 ∧ y.size ≤ 1000 := by
        have hj : j = 0 ∨ j = 1 := by omega
        rcases hj with rfl | rfl
        · exact ⟨f1, f2, by simp [World.cell?, hobj], by simp [World.cell?, hobj], rfl, HRR.out.1, HRR.out.2⟩
        · exact ⟨f2, f1, by simp [World.cell?, hobj], by simp [World.cell?, hobj], by simp [dirs], HRR.out.2, HRR.out.1⟩
      have HDIR := Lib.hid hdir
      have HOB := Lib.hid hobj
      obtain ⟨pre, hpre⟩ := HP.out
      have HPR := Lib.hid hpre
      have k2 : X.cell? ⟨b2, 0, none⟩ = some (.string s) := (cell_of_heap ((HPR.out.1.dep b2 (.inr (.inl rfl))).trans (HD.out b2 (.inr (.inl rfl))).2) 0).trans H2.out.cell
      have hb2 : b2 < X.heap.size := by have := HDL.out b2 (.inr (.inl rfl)); have := HPR.out.1.size; omega
      clear hdir hobj hpre HP
      gi_wp2_with fail
      refine ⟨trivial, rfl, ?_⟩
      refine (callsIn_wide.2 (replaced_any s x y _)).mono ?_
      rintro en X3 ⟨rfl, hX3⟩
      obtain ⟨Y0, hY0⟩ : ∃ Y0, X.alloc (Obj.cells #[Value.string x, Value.string y] 189) = Y0 := ⟨_, rfl⟩
      rw [hY0] at hX3 ⊢
      have hs0 : Y0.heap.size = X.heap.size + 1 := by rw [← hY0]; simp
      have hB0 : Below X.heap.size X Y0 := by rw [← hY0]; exact (Below.refl _ X).alloc (Nat.le_refl _) _
      obtain ⟨q0, hq0⟩ : ∃ q0, Y0.heap.size = q0 := ⟨_, rfl⟩
      have hs3 : X3.heap.size = q0 + 3 := by rw [hX3]; simp [hq0]
      have hB3 : Below Y0.heap.size Y0 X3 := by rw [hX3]; exact (((Below.refl _ Y0).alloc (Nat.le_refl _) _).alloc (by simp) _).alloc (by simp; omega) _
      have g1 : Boxed X3 q0 90 (.string s) := by rw [hX3, ← hq0]; exact ((Boxed.new Y0 _ _).alloc _).alloc _
      have g2' : Boxed X3 (q0 + 1) 9 (.string x) := by
        rw [hX3, ← hq0]; have := (Boxed.new (Y0.alloc (.cells #[.string s] 90)) 9 (.string x)).alloc (.cells #[.string y] 9); rwa [World.size_alloc] at this
      have g3 : Boxed X3 (q0 + 2) 9 (.string y) := by
        rw [hX3, ← hq0]; have := (Boxed.new ((Y0.alloc (.cells #[.string s] 90)).alloc (.cells #[.string x] 9)) 9 (.string y)); rwa [World.size_alloc, World.size_alloc] at this
      have hXX : Below X.heap.size X X3 := hB0.trans (hB3.mono (by omega))
      have HU3 : Hid (UI 123 W yl (fun k => k = b1 ∨ k = b2 ∨ ∃ a, (some (Addr.mk bd off none) = some a ∧ l ≠ []) ∧ k = a.block) (J pre) rs X3) := HPR.out.1.below HDL.out (HJ.out pre) hXX
      have HO3 : Hid (X3.heap[ba]? = some (Obj.cells #[Value.string f1, Value.string f2, Value.string f2, Value.string f1] 189)) := (hXX.block ba (Array.getElem?_eq_some_iff.1 HOB.out).1).trans HOB.out
      have HG1 := Lib.hid g1
      have HG2 := Lib.hid g2'
      have HG3 := Lib.hid g3
      have HBA : Hid (ba < X3.heap.size) := (Array.getElem?_eq_some_iff.1 HO3.out).1
      have HQ0 : Hid (W.heap.size + 1 ≤ q0) := by have := HPR.out.1.size; show _ ≤ _; omega
      have HRS : Hid (∀ r ∈ rs, r < X3.heap.size) := HU3.out.marks.lt
      have HS3 := Lib.hid hs3
      have HPP := Lib.hid HPR.out.2
      rw [hq0]
      clear g1 g2' g3 hX3 hs0 hB0 hY0 hq0 hB3 hXX HPR HOB hx hy k2 hb2 hs3
      obtain ⟨fv, hfv⟩ : ∃ fv, Value.func (Fn.func 190) #[] #[Value.pointer (some { block := q0, off := 0 }), Value.pointer (some { block := q0 + 1, off := 0 }), Value.pointer (some { block := q0 + 2, off := 0 })] = fv := ⟨_, rfl⟩
      rw [hfv]
      gi_wp2_with fail
      refine wp_range (gf := 190) (lb := #[Value.pointer (some { block := q0, off := 0 }), Value.pointer (some { block := q0 + 1, off := 0 }), Value.pointer (some { block := q0 + 2, off := 0 })]) (by rw [hfv]; rfl)
        (enters_of Tryz.func190 (by kernel_rfl) rfl) (replaced1_seq q0 (q0 + 1) (q0 + 2) s x y X3 HG1.out HG2.out HG3.out hs hys e) may
        (fun k hk => ⟨by have := HS3.out; omega, rfl⟩) (Nat.le_refl _) (fun k hk => HW.out k (by have := HQ0.out; omega)) (fun k hk => HW.out k (by have := HS3.out; have := HQ0.out; omega))
        (fun X Y x v hR _ _ => hR)
        (fun pre2 Z => UI 123 W yl (fun k => k = b1 ∨ k = b2 ∨ ∃ a, (some (Addr.mk bd off none) = some a ∧ l ≠ []) ∧ k = a.block) (J (pre ++ pre2)) rs Z ∧ Z.heap[ba]? = some (Obj.cells #[Value.string f1, Value.string f2, Value.string f2, Value.string f1] 189))
        (fun Z => W.heap.size ≤ Z.heap.size ∧ Jx Z ∧ MarksAt (W.heap.size + 1) rs Z)
        (fun pre2 Z Z2 h hle hE => ⟨h.1.ext HDL.out (HJ.out _) hE (by have := HS3.out; have := HQ0.out; omega) HRS.out, hE.same _ _ h.2 (.inl HBA.out)⟩)
        (fun Z Z2 h hle hE => ⟨Nat.le_trans h.1 hE.size, HX.out _ _ h.2.1 h.1 (hE.mono (by have := HS3.out; have := HQ0.out; omega)), h.2.2.ext hE HRS.out⟩)
        ⟨by rw [List.append_nil]; exact HU3.out, HO3.out⟩
        (fun v => { tmps := #[Value.func (Fn.yield yl) #[] #[], Value.pointer (some { block := b1, off := 0 }), Value.pointer (some { block := b2, off := 0 }), Value.pointer (some { block := W.heap.size, off := 0 }), undef, Value.pointer (some { block := wr.heap.size, off := 0 }), undef, Value.pointer (some { block := X.heap.size, off := 0 }), v, Value.slice (some { block := bd, off := off }) l.length c, Value.int IntKind.i64 ↑l.length, Value.int IntKind.i64 (i : Int), Value.bool true, Value.pointer (some { block := bd, off := off + i * 2 }), Value.agg #[Value.string f1, Value.string f2], Value.pointer (some { block := wr.heap.size, off := 0 }), Value.string f1, Value.pointer (some { block := wr.heap.size, off := 1 }), Value.string f2, Value.agg #[Value.string f1, Value.string f2], Value.pointer (some { block := wr.heap.size, off := 1 }), Value.string f2, Value.pointer (some { block := wr.heap.size, off := 0 }), Value.string f1, Value.agg #[Value.string f2, Value.string f1], Value.slice (some { block := ba, off := 0 }) 2 2, Value.int IntKind.i64 2, Value.int IntKind.i64 (j : Int), Value.bool true, Value.pointer (some { block := ba, off := j * 2 }), Value.agg #[Value.string x, Value.string y], Value.string s, Value.pointer (some { block := X.heap.size, off := 0 }), Value.string x, Value.pointer (some { block := X.heap.size, off := 1 }), Value.string y, fv, v, u38, u39, u40, u41, u42, u43], defers := [] }) ?assign ?body ?done ?stop
      case assign =>
        intro l2 v Z K hK
        gi_wp2_with fail
        exact hK
      case body =>
        rintro l2 pre2 z v Z ⟨hu, hob⟩ hpre rfl hle
        have HP2 : Hid ((pre ++ pre2) ++ [z] <+: usesL l s) := by
          obtain ⟨t2, ht2⟩ := hpre
          refine ⟨t2 ++ dirs s f1 f2 (j + 1) ++ usesL (l.drop (i + 1)) s, ?_⟩
          rw [HPP.out, HDIR.out, ← ht2]
          simp
        have hcb := hu.box.cell
        obtain ⟨fn, tmps, assign, body, hy, hRd⟩ := HY.out (pre ++ pre2) z (.string z) Z hu.j HP2.out rfl (by have := hu.size; omega)
        have HU4 := Lib.hid hu
        have HO4 := Lib.hid hob
        clear hu hob hpre
        gi_wp2_with fail
        refine ⟨rfl, ?_⟩
        refine RoundIn.mono (show RoundIn (Fence.wide.inRound l2) 0 Tryz.prog yl fn tmps assign body Z _ from hRd) ?_
        rintro en Y (⟨rfl, hj, hk⟩ | ⟨rfl, hj, hk⟩)
        · gi_wp2_with fail
          refine ⟨hk, HU4.out.yield HDL.out hk HM.out HW.out (by rw [← List.append_assoc]; exact hj), ?_⟩
          exact (hk.block ba (Array.getElem?_eq_some_iff.1 HO4.out).1 (HW.out ba (by have := hbaw.out; omega))).trans HO4.out
        · gi_wp2_with fail
          exact ⟨hk, Nat.le_trans (by have := HU4.out.size; omega) hk.size, hj, HU4.out.marks.keeps hk (fun r hr => HW.out r (by omega))⟩
      case done =>
        rintro Y ⟨hu, hob⟩ hle hK
        gi_wp2_with fail
        refine Handed.intro g2 (by omega) (hJ2 _ _ _ ?_)
        refine ⟨_, _, _, _, _, _, _, _, _, _, _, _, _, _, _, _, _, _, _, X3.heap.size :: rs, ⟨j + 1, rfl, by omega, hob, pre ++ replL s x y, ?_, ?_⟩, rfl⟩
        · exact ⟨hu.size, hu.box, hu.dep, hu.j, hu.marks.cons hK (by have := HS3.out; have := HQ0.out; omega) HRS.out⟩
        · rw [HPP.out, HDIR.out]; simp
      case stop =>
        rintro Y ⟨hle1, hjx, hm⟩ hle hK
        gi_wp2_with fail
        refine leaves_marks e (X3.heap.size :: rs) Y (hm.cons hK (by have := HS3.out; have := HQ0.out; omega) HRS.out) (fun W' hE => ?_)
        refine ⟨_, results_none rfl _ _ _, ⟨_, rfl⟩, .inr ?_⟩
        exact HX.out Y W' hjx hle1 (hE.mono (by omega))

set_option maxHeartbeats 1000000 in
/-- uses hands an iterator out. -/
theorem uses_any (s : ByteArray) (A : Option Addr) (n c : Nat) (w : World) :
    Calls Tryz.prog 149 #[.string s, .slice A n c] w fun e w' =>
      e = .returned (.func (.func 170) #[] #[.pointer (some ⟨w.heap.size + 1, 0, none⟩), .pointer (some ⟨w.heap.size, 0, none⟩)]) ∧
      w' = (w.alloc (.cells #[.string s] 90)).alloc (.cells #[.slice A n c] 42) := by
  go_enter Tryz.func149, Tryz.ntmps149
  go_wp2
  go_ret
  exact ⟨rfl, rfl⟩
end Go.Proofs.YtapikimhmjnjeaaGreatDoor

/- A call's own set of keys (a map from keys to bool): made, looked up, stored into. No conditions but sizes. -/
namespace Go.Proofs.YtapikimhmjnjeaaGreatDoor
open Go.RowKit Go.Shelf Go.Maps

theorem keyed90 : Keyed Tryz.prog 90 := string_keyed Tryz.underlying90

/-- Whether a key is among some. -/
def memB (s : ByteArray) (ks : List ByteArray) : Bool := ks.any fun t => t.data.toList == s.data.toList
theorem memB_iff {s : ByteArray} {ks : List ByteArray} : memB s ks = true ↔ s ∈ ks := by
  simp only [memB, List.any_eq_true, beq_iff_eq]
  constructor
  · rintro ⟨t, ht, e⟩
    have : t = s := ByteArray.ext (Array.toList_inj.1 e)
    exact this ▸ ht
  · intro h
    exact ⟨s, h, rfl⟩

/-- Block b is a map that holds 'true' at the keys ks, and nothing else. -/
def SetAt (w : World) (b : Nat) (ks : List ByteArray) : Prop :=
  ∃ D : DataW Unit, w.ownsMap Tryz.prog 90 (plainElem Tryz.prog 4) b ks.length D ∧ IsMap D ∧
    (∀ s : ByteArray, D.atKey (.string s.data.toList) (.lit (.bool false)) = .lit (.bool (memB s ks))) ∧ (∀ kl, has D kl = true → ∃ s ∈ ks, kl = .string s.data.toList)

theorem SetAt.made (w : World) : SetAt (w.alloc (.map #[] 0)) w.heap.size [] :=
  ⟨.map [], World.ownsMap_made w _ _ _, isMap_empty, fun s => by simp [DataW.atKey, memB], fun kl h => by simp [has] at h⟩
theorem SetAt.lt {w : World} {b : Nat} {ks : List ByteArray} (h : SetAt w b ks) : b < w.heap.size := by obtain ⟨D, h, _⟩ := h; exact h.lt
theorem SetAt.kept {w w' : World} {b : Nat} {ks : List ByteArray} (h : SetAt w b ks) (he : w'.heap[b]? = w.heap[b]?) : SetAt w' b ks := by
  obtain ⟨D, ⟨es, clock, hb, F, hs, hD⟩, h2⟩ := h
  exact ⟨D, ⟨es, clock, he.trans hb, F, hs, hD⟩, h2⟩
theorem SetAt.obj {w : World} {b : Nat} {ks : List ByteArray} (h : SetAt w b ks) : ∃ es clock, w.heap[b]? = some (.map es clock) := by
  obtain ⟨D, ⟨es, clock, hb, _⟩, _⟩ := h; exact ⟨es, clock, hb⟩

set_option maxRecDepth 10000 in
theorem plainBool_inv {v : Value} {x : Bool} {ps : List MemPlace} (h : plainElem (H := Unit) Tryz.prog 4 v = some (.lit (.bool x), ps)) : v = .bool x := by
  unfold plainElem at h
  rw [Tryz.underlying4] at h
  cases v <;> simp at h
  exact congrArg Value.bool h.1

theorem SetAt.lookup {w : World} {b : Nat} {ks : List ByteArray} (h : SetAt w b ks) (s : ByteArray) (hs : s.size ≤ maxLen) :
    (Instr.lookup 155 (.map (some b)) (.string s) false).run Tryz.prog w = .ok (.bool (memB s ks)) w := by
  obtain ⟨D, ho, _, ha, _⟩ := h
  obtain ⟨v, ps, hr, hv⟩ := ho.lookup (t := 155) (z := .bool false) keyed90 Tryz.underlying155 (Tryz.zeroValue4 w) (plainElem_bool Tryz.underlying4 false) (WideMaps.keyOf_string_mk Tryz.underlying90 hs)
  rw [ha s] at hv
  rw [hr, plainBool_inv hv]

theorem has_put {D : DataW Unit} (hD : IsMap D) {k kl : Lit} {d : DataW Unit} (h : has (D.put k d) kl = true) : kl = k ∨ has D kl = true := by
  by_cases he : kl = k
  · exact .inl he
  · refine .inr ?_
    rcases hh : has D kl with _ | _
    · have : ∀ z, (D.put k d).atKey kl z = z := fun z => by rw [atKey_put_other he, atKey_of_not_has hh]
      rw [has_false_of_atKey this] at h
      cases h
    · rfl

set_option maxRecDepth 10000 in
theorem SetAt.update {w : World} {b : Nat} {ks : List ByteArray} (h : SetAt w b ks) (s : ByteArray) (hs : s.size ≤ maxLen) (hn : ks.length < maxLen) :
    ∃ w', (Instr.mapUpdate 155 (.map (some b)) (.string s) (.bool true)).run Tryz.prog w = .ok () w' ∧ SetAt w' b (s :: ks) ∧ w.grownBy w' (some b) := by
  obtain ⟨D, ho, hm, ha, hh⟩ := h
  obtain ⟨w', hr, ho', hg⟩ := ho.update (t := 155) (val := .bool true) keyed90 Tryz.underlying155 hn (WideMaps.keyOf_string_mk Tryz.underlying90 hs) (plainElem_bool Tryz.underlying4 true)
  refine ⟨w', hr, ⟨_, ho', hm.put _ _, fun t => ?_, fun kl hk => ?_⟩, hg⟩
  · by_cases he : t = s
    · subst he
      rw [atKey_put_same hm (by simp [WideAt.IsKeyLit])]
      simp [memB]
    · rw [atKey_put_other (fun e => he (by injection e with e; exact ByteArray.ext (Array.toList_inj.1 e))), ha t]
      have : memB t (s :: ks) = memB t ks := by
        have h1 : (s.data.toList == t.data.toList) = false := by
          rw [beq_eq_false_iff_ne]
          exact fun e => he (ByteArray.ext (Array.toList_inj.1 e.symm))
        unfold memB; rw [List.any_cons, h1, Bool.false_or]
      rw [this]
  · rcases has_put hm hk with rfl | hk
    · exact ⟨s, List.mem_cons_self .., rfl⟩
    · obtain ⟨t, ht, e⟩ := hh kl hk
      exact ⟨t, List.mem_cons_of_mem _ ht, e⟩
end Go.Proofs.YtapikimhmjnjeaaGreatDoor

/- A copy of a row of strings of the call's own, and what stays of such a row. No conditions but sizes. -/
namespace Go.Proofs.YtapikimhmjnjeaaGreatDoor
open Go.RowKit Go.Shelf

/-- The value v owns a row of the strings x, in a block at or beyond b0. -/
def RowIs (b0 : Nat) (X : World) (x : List ByteArray) (v : Value) : Prop := X.ownsRow b0 9 1 v x.length (x.map Value.string) ∧ (x = [] → v = .slice none 0 0)

theorem RowIs.nil (b0 : Nat) (X : World) : RowIs b0 X [] (.slice none 0 0) := ⟨⟨by simp, .inl ⟨rfl, rfl⟩⟩, fun _ => rfl⟩
theorem RowIs.slice {b0 : Nat} {X : World} {x : List ByteArray} {v : Value} (h : RowIs b0 X x v) : ∃ A c, v = .slice A x.length c := by
  rcases h.1.2 with ⟨rfl, hn⟩ | ⟨g, cap, cur, rfl, _⟩
  · exact ⟨none, 0, by rw [hn]⟩
  · exact ⟨_, _, rfl⟩
theorem RowIs.ext {b0 B : Nat} {X Y : World} {x : List ByteArray} {v : Value} (h : RowIs b0 X x v) (hE : Ext B 9 X Y) : RowIs b0 Y x v := by
  refine ⟨⟨h.1.1, ?_⟩, h.2⟩
  rcases h.1.2 with h2 | ⟨g, cap, cur, rfl, hg, hh, r⟩
  · exact .inl h2
  · exact .inr ⟨g, cap, cur, rfl, hg, hE.same g _ hh (.inr (by simp [Obj.ofE])), r⟩
theorem RowIs.below {b0 : Nat} {X Y : World} {x : List ByteArray} {v : Value} (h : RowIs b0 X x v) (hb : Below X.heap.size X Y) : RowIs b0 Y x v := h.ext (Ext.of_below (B := 0) hb)
theorem RowIs.cell {b0 : Nat} {X : World} {x : List ByteArray} {v : Value} (h : RowIs b0 X x v) (hx : x ≠ []) : ∃ g c, v = .slice (some ⟨g, 0, none⟩) x.length c ∧ b0 ≤ g ∧ g < X.heap.size ∧ x.length ≤ c ∧
    ∀ j, j < x.length → X.cell? ⟨g, 0 + j, none⟩ = some (.string (x.getD j ByteArray.empty)) := by
  rcases h.1.2 with ⟨rfl, hn⟩ | ⟨g, cap, cur, rfl, hg, hh, hc1, hc2, hc3, hc4⟩
  · exact absurd (List.length_eq_zero_iff.1 hn) hx
  · refine ⟨g, cap, rfl, hg, (Array.getElem?_eq_some_iff.1 hh).1, hc1, fun j hj => ?_⟩
    have h1 : cur[j]? = some (.string (x.getD j ByteArray.empty)) := by
      have e1 : (cur.toList.take (x.length * 1))[j]? = cur.toList[j]? := List.getElem?_take_of_lt (by omega)
      rw [hc4] at e1
      rw [← Array.getElem?_toList, ← e1, List.getElem?_map, List.getElem?_eq_getElem hj, List.getD_eq_getElem?_getD, List.getElem?_eq_getElem hj]
      rfl
    simp [World.cell?, hh, h1]

theorem RowIs.move {b0 : Nat} {X Y : World} {x : List ByteArray} {v : Value} (h : RowIs b0 X x v) (hm : ∀ k, v.ownBlock = some k → Y.heap[k]? = X.heap[k]?) : RowIs b0 Y x v := by
  refine ⟨⟨h.1.1, ?_⟩, h.2⟩
  rcases h.1.2 with h2 | ⟨g, cap, cur, rfl, hg, hh, r⟩
  · exact .inl h2
  · exact .inr ⟨g, cap, cur, rfl, hg, (hm g (by simp [Value.ownBlock])).trans hh, r⟩
theorem RowIs.lower {b0 b1 : Nat} {X : World} {x : List ByteArray} {v : Value} (h : RowIs b0 X x v) (hb : b1 ≤ b0) : RowIs b1 X x v := by
  refine ⟨⟨h.1.1, ?_⟩, h.2⟩
  rcases h.1.2 with h2 | ⟨g, cap, cur, rfl, hg, r⟩
  · exact .inl h2
  · exact .inr ⟨g, cap, cur, rfl, by omega, r⟩
theorem RowIs.blk {b0 g n c : Nat} {X : World} {x : List ByteArray} (h : RowIs b0 X x (.slice (some ⟨g, 0, none⟩) n c)) : b0 ≤ g ∧ g < X.heap.size := by
  rcases h.1.2 with h2 | ⟨g', cap, cur, e, hg, hh, r⟩
  · simp at h2
  · have : g = g' := by injection e with e; injection e with e; injection e
    subst this
    exact ⟨hg, (Array.getElem?_eq_some_iff.1 hh).1⟩
theorem Keeps.ext {may : Nat → Prop} {B : Nat} {e : TypeId} {X Z Z2 : World} (h : Keeps may X Z) (hE : Ext B e Z Z2) (hB : X.heap.size ≤ B) : Keeps may X Z2 :=
  ⟨hE.os.trans h.os, hE.tape.trans h.tape, hE.output.trans h.output, Nat.le_trans h.size hE.size, fun q hq hm => (hE.block (Array.getElem?_eq_getElem (Nat.lt_of_lt_of_le hq h.size)) (.inl (by omega))).trans (h.block q hq hm)⟩
theorem own_ge {w : World} {base : Nat} {e : TypeId} {size n : Nat} {v : Value} {xs : List Value} (h : w.ownsRow base e size v n xs) : ∀ q, v.ownBlock = some q → base ≤ q := by
  intro q hq
  rcases h.2 with ⟨rfl, _⟩ | ⟨g, cap, cur, rfl, hg, _⟩
  · simp [Value.ownBlock] at hq
  · have : g = q := by simpa [Value.ownBlock] using hq
    omega

/-- slices.Clone at []string. -/
theorem clone_any (b0 : Nat) (x : List ByteArray) (v : Value) (X : World) (h : RowIs b0 X x v) (hn : x.length ≤ 1000) :
    Calls Tryz.prog 148 #[v] X fun e w' => ∃ v', e = .returned v' ∧ w'.ownsRow X.heap.size 9 1 v' x.length (x.map Value.string) ∧ Below X.heap.size X w' := by
  cases x with
  | nil =>
    obtain rfl := h.2 rfl
    refine (Tryz.slices_Clone_string_nil 0 0 X).mono ?_
    rintro e w' ⟨rfl, rfl⟩
    exact ⟨_, rfl, ⟨by simp, .inl ⟨rfl, rfl⟩⟩, Below.refl _ _⟩
  | cons s x =>
    obtain ⟨g, c, rfl, _, _, _, hc⟩ := h.cell (by simp)
    refine (Tryz.slices_Clone_string g 0 (s :: x).length c (s :: x) X (Nat.le_refl _) (by omega) hc).mono ?_
    rintro e w' ⟨v', rfl, ho, _, hb⟩
    rw [List.take_length] at ho
    exact ⟨v', rfl, ho, hb⟩
end Go.Proofs.YtapikimhmjnjeaaGreatDoor

/- The orders of strings, and the first thing by an order, however the things stand: no program in sight. No conditions. -/
namespace Go.Proofs.YtapikimhmjnjeaaGreatDoor
open Go.RowKit

theorem bl_irrefl : ∀ a : L, Op.bytesLess a a = false
  | [] => rfl
  | a :: x => by simp [Op.bytesLess, bl_irrefl x]
theorem bl_trans : ∀ {a b c : L}, Op.bytesLess a b = true → Op.bytesLess b c = true → Op.bytesLess a c = true
  | _, [], _, h, _ => by simp [Op.bytesLess] at h
  | _, _ :: _, [], _, h => by simp [Op.bytesLess] at h
  | [], _ :: _, _ :: _, _, _ => by simp [Op.bytesLess]
  | a :: x, b :: y, c :: z, h1, h2 => by
    simp only [Op.bytesLess, Bool.or_eq_true, Bool.and_eq_true, decide_eq_true_eq, beq_iff_eq] at h1 h2 ⊢
    rcases h1 with h1 | ⟨rfl, h1⟩
    · rcases h2 with h2 | ⟨rfl, h2⟩
      · exact .inl (UInt8.lt_trans h1 h2)
      · exact .inl h1
    · rcases h2 with h2 | ⟨rfl, h2⟩
      · exact .inl h2
      · exact .inr ⟨rfl, bl_trans h1 h2⟩
theorem bl_total : ∀ {a b : L}, a ≠ b → Op.bytesLess a b = true ∨ Op.bytesLess b a = true
  | [], [], h => absurd rfl h
  | [], _ :: _, _ => .inl (by simp [Op.bytesLess])
  | _ :: _, [], _ => .inr (by simp [Op.bytesLess])
  | a :: x, b :: y, h => by
    simp only [Op.bytesLess, Bool.or_eq_true, Bool.and_eq_true, decide_eq_true_eq, beq_iff_eq]
    by_cases hab : a = b
    · subst hab
      have hxy : x ≠ y := fun e => h (by rw [e])
      rcases bl_total hxy with h1 | h1
      · exact .inl (.inr ⟨rfl, h1⟩)
      · exact .inr (.inr ⟨rfl, h1⟩)
    · rcases Nat.lt_or_gt_of_ne (fun e => hab (UInt8.toNat_inj.1 e)) with h1 | h1
      · exact .inl (.inl (UInt8.lt_iff_toNat_lt.2 h1))
      · exact .inr (.inl (UInt8.lt_iff_toNat_lt.2 h1))

theorem tl_inj {a b : ByteArray} (h : a.toList = b.toList) : a = b := by
  rw [ByteArray.toList_eq, ByteArray.toList_eq] at h
  exact ByteArray.ext (Array.toList_inj.1 h)

theorem cmpS_lt {a b : ByteArray} : cmpS a b < 0 ↔ Op.bytesLess a.toList b.toList = true := by
  rw [cmpS_eq]
  split
  · rename_i h; simp [h]
  · rename_i h
    split <;> simp [h]
theorem cmpS_zero {a b : ByteArray} : cmpS a b = 0 ↔ a = b := by
  rw [cmpS_eq]
  split
  · rename_i h
    constructor
    · intro h1; cases h1
    · rintro rfl; rw [bl_irrefl] at h; cases h
  · rename_i h
    split
    · rename_i h2
      exact ⟨fun _ => tl_inj (by simpa using h2), fun _ => rfl⟩
    · rename_i h2
      constructor
      · intro h1; cases h1
      · rintro rfl; simp at h2
theorem cmpS_trans {a b c : ByteArray} (h1 : cmpS a b < 0) (h2 : cmpS b c < 0) : cmpS a c < 0 := cmpS_lt.2 (bl_trans (cmpS_lt.1 h1) (cmpS_lt.1 h2))
theorem cmpS_irrefl (a : ByteArray) : ¬ cmpS a a < 0 := by rw [cmpS_zero.2 rfl]; decide
theorem cmpS_total {a b : ByteArray} (h : a ≠ b) : cmpS a b < 0 ∨ cmpS b a < 0 := by
  rcases bl_total (a := a.toList) (b := b.toList) (fun e => h (tl_inj e)) with h1 | h1
  · exact .inl (cmpS_lt.2 h1)
  · exact .inr (cmpS_lt.2 h1)
theorem cmpS_swap {a b : ByteArray} : 0 < cmpS a b ↔ cmpS b a < 0 := by
  constructor
  · intro h
    have hne : a ≠ b := fun e => by rw [cmpS_zero.2 e] at h; exact absurd h (by decide)
    rcases cmpS_total hne with h1 | h1
    · omega
    · exact h1
  · intro h
    have hne : a ≠ b := fun e => cmpS_irrefl b (e ▸ h)
    have h0 : cmpS a b ≠ 0 := fun e => hne (cmpS_zero.1 e)
    have h1 : ¬ cmpS a b < 0 := fun e => cmpS_irrefl a (cmpS_trans e h)
    omega
theorem cmpS_range (a b : ByteArray) : cmpS a b = -1 ∨ cmpS a b = 0 ∨ cmpS a b = 1 := by
  rw [cmpS_eq]
  split
  · exact .inl rfl
  · split
    · exact .inr (.inl rfl)
    · exact .inr (.inr rfl)

/-- A strict order in which of two different things one comes first. -/
structure Strict {α : Type} (cf : α → α → Int) (S : α → Prop) : Prop where
  irrefl : ∀ a, S a → ¬ cf a a < 0
  trans : ∀ a b c, S a → S b → S c → cf a b < 0 → cf b c < 0 → cf a c < 0
  total : ∀ a b, S a → S b → a ≠ b → cf a b < 0 ∨ cf b a < 0

theorem firstL_none {α : Type} (cf : α → α → Int) (xs : List α) : firstL cf xs = none ↔ xs = [] := by
  constructor
  · intro h
    cases hx : xs.reverse with
    | nil => simpa using hx
    | cons a l =>
      have : xs = l.reverse ++ [a] := by rw [← List.reverse_reverse xs, hx]; simp
      rw [this, firstL_snoc] at h
      unfold firstStep at h
      split at h
      · cases h
      · split at h <;> cases h
  · rintro rfl; rfl

theorem firstL_min {α : Type} {cf : α → α → Int} {S : α → Prop} (hs : Strict cf S) : ∀ (n : Nat) (xs : List α), xs.length = n → (∀ x ∈ xs, S x) → ∀ b, firstL cf xs = some b → b ∈ xs ∧ ∀ y ∈ xs, ¬ cf y b < 0 := by
  intro n
  induction n with
  | zero =>
    intro xs hn _ b h
    rw [List.length_eq_zero_iff.1 hn] at h
    cases h
  | succ n ih =>
    intro xs hn hS b h
    have hr : xs.reverse ≠ [] := fun e => by have := congrArg List.length e; simp at this; rw [this] at hn; simp at hn
    cases hx : xs.reverse with
    | nil => exact absurd hx hr
    | cons a l =>
      have e1 : xs = l.reverse ++ [a] := by rw [← List.reverse_reverse xs, hx]; simp
      have hl : l.reverse.length = n := by rw [e1] at hn; simp at hn; simpa using hn
      have hSl : ∀ x ∈ l.reverse, S x := fun x hx => hS x (by rw [e1]; exact List.mem_append_left _ hx)
      have hSa : S a := hS a (by rw [e1]; simp)
      rw [e1, firstL_snoc] at h
      cases ho : firstL cf l.reverse with
      | none =>
        rw [ho] at h
        obtain rfl : a = b := by simpa [firstStep] using h
        have hnil := (firstL_none cf _).1 ho
        rw [e1, hnil]
        exact ⟨by simp, fun y hy => by have : y = a := by simpa using hy
                                       rw [this]; exact hs.irrefl a hSa⟩
      | some c =>
        rw [ho] at h
        obtain ⟨hc, hm⟩ := ih l.reverse hl hSl c ho
        unfold firstStep at h
        simp only at h
        split at h
        · rename_i hlt
          obtain rfl : a = b := by simpa using h
          refine ⟨by rw [e1]; simp, fun y hy => ?_⟩
          rw [e1] at hy
          rcases List.mem_append.1 hy with hy | hy
          · exact fun hya => hm y hy (hs.trans y a c (hSl y hy) hSa (hSl c hc) hya hlt)
          · have : y = a := by simpa using hy
            rw [this]; exact hs.irrefl a hSa
        · rename_i hlt
          obtain rfl : c = b := by simpa using h
          refine ⟨by rw [e1]; exact List.mem_append_left _ hc, fun y hy => ?_⟩
          rw [e1] at hy
          rcases List.mem_append.1 hy with hy | hy
          · exact hm y hy
          · have : y = a := by simpa using hy
            rw [this]; exact hlt

/-- The first thing is the same however the things stand. -/
theorem firstL_same {α : Type} {cf : α → α → Int} {S : α → Prop} (hs : Strict cf S) {xs ys : List α} (hx : ∀ x ∈ xs, S x) (he : ∀ x, x ∈ xs ↔ x ∈ ys) : firstL cf xs = firstL cf ys := by
  have hy : ∀ y ∈ ys, S y := fun y h => hx y ((he y).2 h)
  cases h1 : firstL cf xs with
  | none =>
    have := (firstL_none cf xs).1 h1
    subst this
    have : ys = [] := by
      cases ys with
      | nil => rfl
      | cons a l => exact absurd ((he a).2 (List.mem_cons_self ..)) (by simp)
    rw [this]; rfl
  | some b =>
    obtain ⟨hb, hm⟩ := firstL_min hs _ xs rfl hx b h1
    cases h2 : firstL cf ys with
    | none =>
      have := (firstL_none cf ys).1 h2
      subst this
      exact absurd ((he b).1 hb) (by simp)
    | some c =>
      obtain ⟨hc, hm2⟩ := firstL_min hs _ ys rfl hy c h2
      by_cases hbc : b = c
      · rw [hbc]
      · rcases hs.total b c (hx b hb) (hy c hc) hbc with h3 | h3
        · exact absurd h3 (hm2 b ((he b).1 hb))
        · exact absurd h3 (hm c ((he c).2 hc))
end Go.Proofs.YtapikimhmjnjeaaGreatDoor

