/- What package name's parse and abbrError say: contracts of the program's own functions. -/
import Derived.Test.YtapikimhmjnjeaaGreatDoorAsN
import Derived.Test.YtapikimhmjnjeaaGreatDoorBaseA
/- What package name's parse and abbrError say: contracts of the program's own functions. -/
set_option linter.unusedVariables false
set_option linter.unusedSimpArgs false
namespace Go.Proofs.YtapikimhmjnjeaaGreatDoor
open Go.RowKit Go.Shelf
attribute [local go_sem] Oper.semAt_some

/-- An abbreviation without its point. -/
def cutDot (s : ByteArray) : ByteArray := ⟨(Lib.trimSuffix s.data.toList [46]).toArray⟩
/-- Whether a string is an abbreviation: letters and a point. -/
def isDot (s : ByteArray) : Bool := Lib.hasSuffix s.data.toList [46] && lettersB (cutDot s) 1 12
set_option maxRecDepth 100000 in
set_option maxHeartbeats 2000000 in
theorem parse_good (s : ByteArray) (w : World) (hs : s.size ≤ 140737488351232) (hd : isDot s = true) :
    Calls Tryz.prog 134 #[.string s] w fun e w' => e = .returned (.tuple #[.string (cutDot s), .nilIface]) ∧ Below w.heap.size w w' := by
  have HCS : Hid (∀ W, Calls Tryz.prog 156 #[.string s, .string ⟨#[46]⟩] W fun e w' => e = .returned (.tuple #[.string (cutDot s), .bool (Lib.hasSuffix s.data.toList [46])]) ∧ w' = W) := fun W => Tryz.strings_CutSuffix s ⟨#[46]⟩ W (by omega)
  unfold isDot at hd
  rw [Bool.and_eq_true] at hd
  obtain ⟨hq, hl⟩ := hd
  rw [hq] at HCS
  obtain ⟨t, ht⟩ : ∃ t, cutDot s = t := ⟨_, rfl⟩
  rw [ht] at HCS hl ⊢
  have HL := Lib.hid hl
  clear ht hq hl
  go_enter Tryz.func134, Tryz.ntmps134
  go_wp2_with fail
  refine (HCS.out _).mono ?_
  rintro e w2 ⟨rfl, rfl⟩
  clear HCS
  go_wp2_with fail
  refine (letters_any t 1 12 _).mono ?_
  rintro e w3 ⟨rfl, hb3⟩
  have HB := Lib.hid hb3
  clear hb3
  rw [HL.out]
  go_wp2_with fail
  go_ret2
  exact ⟨rfl, HB.out⟩

set_option maxRecDepth 100000 in
set_option maxHeartbeats 2000000 in
theorem abbr_good (s : ByteArray) (w : World) (hs : s.size ≤ 140737488351232) (hd : isDot s = true) :
    Calls Tryz.prog 110 #[.string s] w fun e w' => e = .returned (.tuple #[.string (cutDot s), .int .i64 0]) ∧ Below w.heap.size w w' := by
  have HP := Lib.hid (parse_good s w hs hd)
  obtain ⟨t, ht⟩ : ∃ t, cutDot s = t := ⟨_, rfl⟩
  rw [ht] at HP ⊢
  clear ht hd hs
  go_enter Tryz.func110, Tryz.ntmps110
  go_wp2_with fail
  refine HP.out.mono ?_
  rintro e w2 ⟨rfl, hb⟩
  have HB := Lib.hid hb
  clear hb HP
  go_wp2_with fail
  refine (as_nil _ _).mono ?_
  rintro e w3 ⟨rfl, rfl⟩
  go_wp2_with fail
  go_ret2
  exact ⟨rfl, HB.out.alloc HB.out.size _⟩

end Go.Proofs.YtapikimhmjnjeaaGreatDoor

