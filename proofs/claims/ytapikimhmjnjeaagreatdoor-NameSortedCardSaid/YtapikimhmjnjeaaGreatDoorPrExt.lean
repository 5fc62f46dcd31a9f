/- My contracts in the form in which the print meets a function's contract. Sizes alone are asked. -/
import Derived.Test.YtapikimhmjnjeaaGreatDoorPr0
import Derived.Test.YtapikimhmjnjeaaGreatDoorBaseC
import Derived.Test.YtapikimhmjnjeaaGreatDoorBaseD
import Derived.Test.YtapikimhmjnjeaaGreatDoorBaseE
/- My contracts in the form in which the print meets a function's contract. Sizes alone are asked. -/
set_option linter.unusedVariables false
set_option linter.unusedSimpArgs false
namespace Go.Proofs.YtapikimhmjnjeaaGreatDoor.Pr
open Go.RowKit Go.Shelf Go.Proofs.YtapikimhmjnjeaaGreatDoor Go.Proofs.YtapikimhmjnjeaaGreatDoorW.PrintWords Go.Proofs.YtapikimhmjnjeaaGreatDoorW.PrintLast Go.Proofs.YtapikimhmjnjeaaGreatDoorW.PrintMore

theorem plain_of_cell {w : World} {ad : Addr} {v : Value} (h : w.cell? ad = some v) : ad = ⟨ad.block, ad.off, none⟩ := by
  obtain ⟨b, o, s⟩ := ad
  cases s with
  | none => rfl
  | some n =>
    unfold World.cell? at h
    simp only [Option.isSome_some, if_true] at h
    split at h <;> cases h

theorem strs_of_C {w : World} {A : Option Addr} {l : List ByteArray} (h : Kd.C Kd.string w A l.length l) : StrsAt w A l := by
  intro i hi
  obtain ⟨ad, hA, h0⟩ := Kd.at_string h 0 (by omega) (by omega)
  obtain ⟨ad', hA', h1⟩ := Kd.at_string h i (by omega) (by omega)
  rw [hA] at hA'
  cases hA'
  have hp := plain_of_cell (show w.cell? ad = _ from h0)
  refine ⟨ad.block, ad.off, by rw [hA, ← hp], ?_⟩
  rw [Int.toNat_natCast, hp] at h1
  have e : (⟨ad.block, ad.off, none⟩ : Addr).add i = ⟨ad.block, ad.off + i, none⟩ := by
    unfold Addr.add
    split
    · rename_i h; subst h; rfl
    · rfl
  rw [e] at h1
  rw [h1]
  rfl

def toRl (x : S83) : Rl := (x.f0, x.f1)

theorem rules_of_C {w : World} {A : Option Addr} {l : List S83} (h : Kd.C k83 w A l.length l) : RulesAt w A (l.map toRl) := by
  intro i hi
  rw [List.length_map] at hi
  obtain ⟨ad, hA, h0, _⟩ := at_T83 h 0 (by omega) (by omega)
  obtain ⟨ad', hA', h1, h2⟩ := at_T83 h i (by omega) (by omega)
  rw [hA] at hA'
  cases hA'
  have hp := plain_of_cell (show w.cell? ad = _ from h0)
  have e : (⟨ad.block, ad.off, none⟩ : Addr).add (i * 2) = ⟨ad.block, ad.off + i * 2, none⟩ := by
    unfold Addr.add
    split
    · rename_i h; rw [h]; rfl
    · rfl
  rw [Int.toNat_natCast, hp] at h1 h2
  rw [e] at h1 h2
  have hg : (l.map toRl).getD i (ByteArray.empty, ByteArray.empty) = toRl (rd_T83 l i) := by
    unfold rd_T83
    rw [Int.toNat_natCast, List.getD_eq_getElem?_getD, List.getD_eq_getElem?_getD, List.getElem?_map, List.getElem?_eq_getElem hi]
    rfl
  refine ⟨ad.block, ad.off, by rw [hA, ← hp], ?_, ?_⟩
  · rw [hg]; exact h1
  · rw [hg]; exact h2

def name_Check.f (a0 : ByteArray) : Option Int := if a0.size ≤ 140737488351232 then some (chk a0.data.toList) else none
theorem name_Check.calls (a0 : ByteArray) (r : Int) (w : World) (h : name_Check.f a0 = some r) :
    Calls Tryz.prog 44 #[.string a0] w fun e w' => e = .returned (.int .i64 r) ∧ Below w.heap.size w w' := by
  unfold name_Check.f at h
  split at h
  · rename_i hs
    cases h
    exact check_any a0 w hs
  · cases h

def name_of.f (a0 : ByteArray) : Option ByteArray := if chk a0.data.toList = 0 then some (keyB a0) else none
theorem name_of.calls (a0 : ByteArray) (r : ByteArray) (w : World) (h : name_of.f a0 = some r) :
    Calls Tryz.prog 85 #[.string a0] w fun e w' => e = .returned (.string r) ∧ Below w.heap.size w w' := by
  unfold name_of.f at h
  split at h
  · rename_i hs
    cases h
    have hn := chk_nm hs
    exact of_any a0 w hn.le hn.all
  · cases h

def name_letters.f (a0 : ByteArray) (a1 a2 : Int) : Option Bool := some (lettersB a0 a1 a2)
theorem name_letters.calls (a0 : ByteArray) (a1 a2 : Int) (r : Bool) (w : World) (h : name_letters.f a0 a1 a2 = some r) :
    Calls Tryz.prog 123 #[.string a0, .int .i64 a1, .int .i64 a2] w fun e w' => e = .returned (.bool r) ∧ Below w.heap.size w w' := by
  cases h
  exact letters_any a0 a1 a2 w

theorem row_R {w : World} {b0 : Nat} {x : List ByteArray} {v : Value} (h : RowIs b0 w x v) : Kd.R Kd.string 9 w b0 (fun _ => True) v x := Kd.R_of_own h.1 (fun _ _ => trivial)

def name_key_chain.f (a0 : ByteArray) (l1 : List S83) (a2 : ByteArray) : Option (List ByteArray × Bool) :=
  if l1.length ≤ 1000 ∧ (∀ r ∈ l1.map toRl, r.1.size ≤ 1000 ∧ r.2.size ≤ 1000) ∧ a0.size ≤ 1000 then some ((chainF (l1.map toRl) a0 a2).getD [], (chainF (l1.map toRl) a0 a2).isSome) else none
theorem name_key_chain.calls (a0 : ByteArray) (A1 : Option Addr) (c1 : Nat) (l1 : List S83) (a2 : ByteArray) (r1 : List ByteArray) (r2 : Bool) (w : World) (hr1 : Kd.C k83 w A1 l1.length l1) (hc1 : l1.length ≤ c1) (h : name_key_chain.f a0 l1 a2 = some (r1, r2)) :
    Calls Tryz.prog 88 #[.string a0, .slice A1 l1.length c1, .string a2] w fun e w' => ∃ v0_ : Value, e = .returned (.tuple #[v0_, .bool r2]) ∧ Kd.R Kd.string 9 w' w.heap.size (fun _ => True) v0_ r1 ∧ Below w.heap.size w w' := by
  unfold name_key_chain.f at h
  split at h
  · rename_i hs
    cases h
    have := chain_any a0 A1 c1 (l1.map toRl) a2 w (rules_of_C hr1) (by rw [List.length_map]; exact hs.1) hs.2.1 hs.2.2
    rw [List.length_map] at this
    refine this.mono ?_
    rintro e w' ⟨v, rfl, hb, hB⟩
    refine ⟨v, rfl, ?_, hB⟩
    cases ho : chainF (l1.map toRl) a0 a2 with
    | none =>
      rw [ho] at hb
      have hb : v = .slice none 0 0 := hb
      subst hb
      exact Kd.R_nil _ _ _ _ _
    | some x =>
      rw [ho] at hb
      exact row_R hb
  · cases h

def name_Sort.f (l0 : List ByteArray) : Option (List Int × Int) := if listedZ l0 = 0 then some (sortL l0, 0) else none
theorem name_Sort.calls (A0 : Option Addr) (c0 : Nat) (l0 : List ByteArray) (r1 : List Int) (r2 : Int) (w : World) (hr0 : Kd.C Kd.string w A0 l0.length l0) (hc0 : l0.length ≤ c0) (h : name_Sort.f l0 = some (r1, r2)) :
    Calls Tryz.prog 62 #[.slice A0 l0.length c0] w fun e w' => ∃ v0_ : Value, e = .returned (.tuple #[v0_, .int .i64 r2]) ∧ Kd.R (Kd.int .i64) 3 w' w.heap.size (fun _ => True) v0_ r1 ∧ Below w.heap.size w w' := by
  unfold name_Sort.f at h
  split at h
  · rename_i hs
    cases h
    have hn := listed_nm hs
    exact sort_ok A0 c0 l0 w (strs_of_C hr0) hn.1 hn.2
  · cases h

def name_Shortest.f (l0 : List ByteArray) (a1 : Int) : Option (ByteArray × Int) := if l0.length ≤ 1000000 ∧ ∀ s ∈ l0, s.size ≤ 1000000 then some (shortF l0 a1) else none
theorem name_Shortest.calls (A0 : Option Addr) (c0 : Nat) (l0 : List ByteArray) (a1 : Int) (r1 : ByteArray) (r2 : Int) (w : World) (hr0 : Kd.C Kd.string w A0 l0.length l0) (hc0 : l0.length ≤ c0) (h : name_Shortest.f l0 a1 = some (r1, r2)) :
    Calls Tryz.prog 29 #[.slice A0 l0.length c0, .int .i64 a1] w fun e w' => e = .returned (.tuple #[.string r1, .int .i64 r2]) ∧ Below w.heap.size w w' := by
  unfold name_Shortest.f at h
  split at h
  · rename_i hs
    have e := Option.some.inj h
    have := shortest_any A0 c0 l0 a1 w (strs_of_C hr0) hs
    rw [e] at this
    exact this
  · cases h

def name_Fit.f (l0 : List ByteArray) (a1 a2 : Int) : Option (ByteArray × Int) := if l0.length ≤ 1000000 ∧ ∀ s ∈ l0, s.size ≤ 1000000 then some (fitF l0 a1 a2) else none
theorem name_Fit.calls (A0 : Option Addr) (c0 : Nat) (l0 : List ByteArray) (a1 a2 : Int) (r1 : ByteArray) (r2 : Int) (w : World) (hr0 : Kd.C Kd.string w A0 l0.length l0) (hc0 : l0.length ≤ c0) (h : name_Fit.f l0 a1 a2 = some (r1, r2)) :
    Calls Tryz.prog 31 #[.slice A0 l0.length c0, .int .i64 a1, .int .i64 a2] w fun e w' => e = .returned (.tuple #[.string r1, .int .i64 r2]) ∧ Below w.heap.size w w' := by
  unfold name_Fit.f at h
  split at h
  · rename_i hs
    have e := Option.some.inj h
    have := fit_any A0 c0 l0 a1 a2 w (strs_of_C hr0) hs
    rw [e] at this
    exact this
  · cases h
end Go.Proofs.YtapikimhmjnjeaaGreatDoor.Pr

