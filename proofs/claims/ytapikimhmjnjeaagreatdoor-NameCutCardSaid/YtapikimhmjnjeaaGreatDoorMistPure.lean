/- What the laws' mistaken says of an abbreviation and a name of a list: plain laws. -/
import Derived.Test.YtapikimhmjnjeaaGreatDoorRefPure
import Derived.Test.YtapikimhmjnjeaaGreatDoorPrExtStd
import Derived.Test.YtapikimhmjnjeaaGreatDoorCutLaw
import Derived.Test.YtapikimhmjnjeaaGreatDoorRefLaw
import Derived.Test.YtapikimhmjnjeaaGreatDoorPr14
/- What the laws' mistaken says of an abbreviation and a name of a list: plain laws. -/
set_option linter.unusedVariables false
set_option linter.unusedSimpArgs false
namespace Go.Proofs.YtapikimhmjnjeaaGreatDoor.Pure
open Go.RowKit Go.Proofs.YtapikimhmjnjeaaGreatDoor Go.Proofs.YtapikimhmjnjeaaGreatDoor.Pr Go.Proofs.YtapikimhmjnjeaaGreatDoorW.PrintWords Go.Proofs.YtapikimhmjnjeaaGreatDoorW.PrintLast

theorem mem_standI {a : ByteArray} {l : List ByteArray} {x : Int} : ∀ {n : Nat}, x ∈ standI a l n ↔ ∃ i : Nat, i < n ∧ x = (i : Int) ∧ standsB a (keyB (l.getD i ByteArray.empty)) = true
  | 0 => by simp [standI]
  | n + 1 => by
    rw [standI_succ, List.mem_append, mem_standI]
    constructor
    · rintro (⟨i, h1, h2, h3⟩ | h)
      · exact ⟨i, by omega, h2, h3⟩
      · split at h
        · rename_i h4
          exact ⟨n, by omega, by simpa using h, h4⟩
        · simp at h
    · rintro ⟨i, h1, h2, h3⟩
      by_cases e : i = n
      · subst e
        right
        rw [if_pos h3, h2]
        simp
      · exact .inl ⟨i, by omega, h2, h3⟩

theorem Stands_f {s : ByteArray} (hd : isDot s = true) (hs : s.size ≤ 1000) {l : List ByteArray} (hl : ∀ s ∈ l, Nm s) (hlen : l.length ≤ 6) : name_Stands.f s l = some (standI (cutDot s) l l.length, 0) := by
  have hz : listedZ l = 0 := by unfold listedZ; rw [if_neg (by omega)]; exact nm_chkL hl
  unfold name_Stands.f
  rw [if_pos ⟨⟨by omega, hd⟩, by omega, fun s hs => Nat.le_trans (hl s hs).le (by decide)⟩]
  unfold standF
  rw [if_pos hd, if_pos hz]

section
variable {l : List ByteArray} (hl : ∀ s ∈ l, Nm s) (hlen : l.length ≤ 6)
include hl hlen

end

theorem cutDot_dotted (t : ByteArray) : cutDot (dotted t) = t := by
  refine ba_ext ?_
  have e : (dotted t).data.toList = t.data.toList ++ [46] := by unfold dotted; rw [ba_app]
  show (Lib.trimSuffix (dotted t).data.toList [46]).toArray.toList = _
  rw [e, List.toList_toArray]
  unfold Lib.trimSuffix Lib.hasSuffix
  simp
theorem isDot_dotted {t : ByteArray} (h : lettersB t 1 12 = true) : isDot (dotted t) = true := by
  unfold isDot
  rw [cutDot_dotted, h]
  have e : (dotted t).data.toList = t.data.toList ++ [46] := by unfold dotted; rw [ba_app]
  rw [e]
  unfold Lib.hasSuffix
  simp
theorem dotted_size (t : ByteArray) : (dotted t).size = t.size + 1 := by unfold dotted; rw [ByteArray.size_append]; rfl
end Go.Proofs.YtapikimhmjnjeaaGreatDoor.Pure

