/-
  NARROWER THAN 'FOR EVERY INPUT', by the rows' own cells (each row's printed sentence says how): NameFits: laid · NameList: laid · NameBoth: laid · NameSteps: laid · NameRules: laid · NameKeys: laid · NameOne: laid · NameNear: laid · NameLine: laid · NameUses: laid · NameFewest: laid · NameOrders: laid · NameSorted: laid · NameLeast: laid · NameColumn: laid · NameShorts: laid · NameCut: laid · NameKnown: laid.
  DERIVED. THE GIVEN ROWS OF THIS SEAT. 18 by the template 'for every input the law returns true; each argument reads behind the call as it read before'; 0 by the template 'total and deterministic' (their statements: YtapikimhmjnjeaaGreatDoorTotals.lean).
  GIVEN WITH THE SEED: the statements are not yours to turn. If you find one false, say at which input.
  Laid BY PROGRAM, IN A SANDBOX (cutbox-rows.mjs): the forced cells as the released guide's own fill.sh prints them over the translation 6f8f97ae357834f0… (all of the seat's roots in one cut). By AI agents, Wed Nov 11 2026. No macro, syntax, notation, axiom, sorry.
-/
import Derived.Test.YtapikimhmjnjeaaGreatDoorChecked
import GoSem.PinnedTables
import GoSem.Claim
import GoSem.ClaimJoined
import GoSem.ClaimMapViews
import Derived.JoinedTies
import Derived.KernelRfl
namespace Go.Proofs.YtapikimhmjnjeaaGreatDoor
/- THE CELL 'sum', in the pinned program and in every row, IS THE sha256 OF THE DUMP (.gsa) THAT YtapikimhmjnjeaaGreatDoorProg.lean LOADS. Nothing in Lean hashes anything: it is a label: what it is worth is what the hold of that sum in a sandbox is worth. -/
noncomputable def Tryz.pinned : Pinned := { name := "ytapikimhmjnjeaagreatdoor", sum := "6f8f97ae357834f0a6ca57ed5eb18a05c9d6a1678d6557be95c4ae14154927a4", checked := Tryz.checked }
namespace Rows
def none {H : Type} : Left H := { results := [], args := [] }

/- WHAT THE LISTED PACKAGE-LEVEL VARIABLES READ AS WHEN THE CALL BEGINS. Each datum BY PROGRAM (the guide's laid-datum.mjs) off the statement by which the dump's own 'gosem.cut.vars' lays the variable. In a bare row this is a premise. The card (YtapikimhmjnjeaaGreatDoorCards.lean) ties it to the program's text. -/
def laid_unicode_utf8_acceptRanges {H : Type} : DataW H := .agg [.agg [.lit (.int .u8 128), .lit (.int .u8 191)], .agg [.lit (.int .u8 160), .lit (.int .u8 191)], .agg [.lit (.int .u8 128), .lit (.int .u8 159)], .agg [.lit (.int .u8 144), .lit (.int .u8 191)], .agg [.lit (.int .u8 128), .lit (.int .u8 143)], .agg [.lit (.int .u8 0), .lit (.int .u8 0)], .agg [.lit (.int .u8 0), .lit (.int .u8 0)], .agg [.lit (.int .u8 0), .lit (.int .u8 0)], .agg [.lit (.int .u8 0), .lit (.int .u8 0)], .agg [.lit (.int .u8 0), .lit (.int .u8 0)], .agg [.lit (.int .u8 0), .lit (.int .u8 0)], .agg [.lit (.int .u8 0), .lit (.int .u8 0)], .agg [.lit (.int .u8 0), .lit (.int .u8 0)], .agg [.lit (.int .u8 0), .lit (.int .u8 0)], .agg [.lit (.int .u8 0), .lit (.int .u8 0)], .agg [.lit (.int .u8 0), .lit (.int .u8 0)]]
/-- One of Go's own tables, pinned by name: the form's constant. -/
def laid_unicode_CaseRanges : DataW Unit := Go.Pinned.caseRanges
/-- One of Go's own tables, pinned by name: the form's constant. -/
def laid_unicode_utf8_first : DataW Unit := Go.Pinned.utf8First
def laid_errors_errorType {H : Type} : DataW H := .iface "internal/reflectlite.rtype" (.agg [.ptr (.lit (.string [101, 114, 114, 111, 114]))])

/-- 'wayzgooselaw03.NameFits': WHATEVER THE INPUT: true; the input reads as it did. -/
def nameFitsSpec : ChangeSpec := { name := "nameFits", fn := fun _ => fun
  | [d1, d2, d3, d4] => { results := [.lit (.bool true)], args := [d1, d2, d3, d4] }
  | _ => none }
def nameFitsRow : OpenClaim := { program := "ytapikimhmjnjeaagreatdoor", sum := "6f8f97ae357834f0a6ca57ed5eb18a05c9d6a1678d6557be95c4ae14154927a4", func := "wayzgoose/wayzgooselaw03.NameFits", spec := "nameFits", inPlace := ["internal/bytealg.IndexByteString", "internal/bytealg.IndexString", "internal/abi.NoEscape", "internal/bytealg.MakeNoZero"], unfollowed := true, recurses := true, named := ["unicode/utf8.first", "unicode/utf8.acceptRanges", "unicode.CaseRanges", "internal/bytealg.MaxLen"], apart := false, laid := [("unicode/utf8.acceptRanges", laid_unicode_utf8_acceptRanges), ("unicode.CaseRanges", laid_unicode_CaseRanges), ("unicode/utf8.first", laid_unicode_utf8_first)] }
def NameFitsSaid : Prop := nameFitsRow.holds Tryz.pinned (OpenSpec.ofChange nameFitsSpec)

/-- ITS FALSE NEIGHBOUR: 'it returns false'. Refute it at one input. -/
def nameFitsWrong : ChangeSpec := { name := "nameFits", fn := fun _ => fun
  | [d1, d2, d3, d4] => { results := [.lit (.bool false)], args := [d1, d2, d3, d4] }
  | _ => none }
def NameFitsWrongFalsely : Prop := nameFitsRow.holds Tryz.pinned (OpenSpec.ofChange nameFitsWrong)

/-- 'wayzgooselaw03.NameList': WHATEVER THE INPUT: true; the input reads as it did. -/
def nameListSpec : ChangeSpec := { name := "nameList", fn := fun _ => fun
  | [d] => { results := [.lit (.bool true)], args := [d] }
  | _ => none }
def nameListRow : OpenClaim := { program := "ytapikimhmjnjeaagreatdoor", sum := "6f8f97ae357834f0a6ca57ed5eb18a05c9d6a1678d6557be95c4ae14154927a4", func := "wayzgoose/wayzgooselaw03.NameList", spec := "nameList", inPlace := ["internal/bytealg.IndexByteString", "internal/bytealg.IndexString", "internal/abi.NoEscape", "internal/bytealg.MakeNoZero"], unfollowed := true, recurses := true, named := ["unicode/utf8.first", "unicode/utf8.acceptRanges", "unicode.CaseRanges", "internal/bytealg.MaxLen"], apart := false, laid := [("unicode/utf8.acceptRanges", laid_unicode_utf8_acceptRanges), ("unicode.CaseRanges", laid_unicode_CaseRanges), ("unicode/utf8.first", laid_unicode_utf8_first)] }
def NameListSaid : Prop := nameListRow.holds Tryz.pinned (OpenSpec.ofChange nameListSpec)

/-- ITS FALSE NEIGHBOUR: 'it returns false'. Refute it at one input. -/
def nameListWrong : ChangeSpec := { name := "nameList", fn := fun _ => fun
  | [d] => { results := [.lit (.bool false)], args := [d] }
  | _ => none }
def NameListWrongFalsely : Prop := nameListRow.holds Tryz.pinned (OpenSpec.ofChange nameListWrong)

/-- 'wayzgooselaw03.NameBoth': WHATEVER THE INPUT: true; the input reads as it did. -/
def nameBothSpec : ChangeSpec := { name := "nameBoth", fn := fun _ => fun
  | [d] => { results := [.lit (.bool true)], args := [d] }
  | _ => none }
def nameBothRow : OpenClaim := { program := "ytapikimhmjnjeaagreatdoor", sum := "6f8f97ae357834f0a6ca57ed5eb18a05c9d6a1678d6557be95c4ae14154927a4", func := "wayzgoose/wayzgooselaw03.NameBoth", spec := "nameBoth", inPlace := ["internal/bytealg.IndexByteString", "internal/bytealg.IndexString", "internal/abi.NoEscape", "internal/bytealg.MakeNoZero"], unfollowed := true, recurses := true, named := ["unicode/utf8.first", "unicode/utf8.acceptRanges", "unicode.CaseRanges", "internal/bytealg.MaxLen"], apart := false, laid := [("unicode/utf8.acceptRanges", laid_unicode_utf8_acceptRanges), ("unicode.CaseRanges", laid_unicode_CaseRanges), ("unicode/utf8.first", laid_unicode_utf8_first)] }
def NameBothSaid : Prop := nameBothRow.holds Tryz.pinned (OpenSpec.ofChange nameBothSpec)

/-- ITS FALSE NEIGHBOUR: 'it returns false'. Refute it at one input. -/
def nameBothWrong : ChangeSpec := { name := "nameBoth", fn := fun _ => fun
  | [d] => { results := [.lit (.bool false)], args := [d] }
  | _ => none }
def NameBothWrongFalsely : Prop := nameBothRow.holds Tryz.pinned (OpenSpec.ofChange nameBothWrong)

/-- 'wayzgooselaw03.NameSteps': WHATEVER THE INPUT: true; the input reads as it did. -/
def nameStepsSpec : ChangeSpec := { name := "nameSteps", fn := fun _ => fun
  | [d] => { results := [.lit (.bool true)], args := [d] }
  | _ => none }
def nameStepsRow : OpenClaim := { program := "ytapikimhmjnjeaagreatdoor", sum := "6f8f97ae357834f0a6ca57ed5eb18a05c9d6a1678d6557be95c4ae14154927a4", func := "wayzgoose/wayzgooselaw03.NameSteps", spec := "nameSteps", inPlace := ["internal/bytealg.IndexByteString", "internal/bytealg.IndexString", "internal/abi.NoEscape", "internal/bytealg.MakeNoZero"], unfollowed := true, recurses := true, named := ["unicode/utf8.first", "unicode/utf8.acceptRanges", "unicode.CaseRanges", "internal/bytealg.MaxLen"], apart := false, laid := [("unicode/utf8.acceptRanges", laid_unicode_utf8_acceptRanges), ("unicode.CaseRanges", laid_unicode_CaseRanges), ("unicode/utf8.first", laid_unicode_utf8_first)] }
def NameStepsSaid : Prop := nameStepsRow.holds Tryz.pinned (OpenSpec.ofChange nameStepsSpec)

/-- ITS FALSE NEIGHBOUR: 'it returns false'. Refute it at one input. -/
def nameStepsWrong : ChangeSpec := { name := "nameSteps", fn := fun _ => fun
  | [d] => { results := [.lit (.bool false)], args := [d] }
  | _ => none }
def NameStepsWrongFalsely : Prop := nameStepsRow.holds Tryz.pinned (OpenSpec.ofChange nameStepsWrong)

/-- 'wayzgooselaw03.NameRules': WHATEVER THE INPUT: true; the input reads as it did. -/
def nameRulesSpec : ChangeSpec := { name := "nameRules", fn := fun _ => fun
  | [d] => { results := [.lit (.bool true)], args := [d] }
  | _ => none }
def nameRulesRow : OpenClaim := { program := "ytapikimhmjnjeaagreatdoor", sum := "6f8f97ae357834f0a6ca57ed5eb18a05c9d6a1678d6557be95c4ae14154927a4", func := "wayzgoose/wayzgooselaw03.NameRules", spec := "nameRules", inPlace := ["internal/bytealg.IndexByteString", "internal/bytealg.IndexString", "internal/abi.NoEscape", "internal/bytealg.MakeNoZero"], unfollowed := true, recurses := true, named := ["unicode/utf8.first", "unicode/utf8.acceptRanges", "unicode.CaseRanges", "internal/bytealg.MaxLen"], apart := false, laid := [("unicode/utf8.acceptRanges", laid_unicode_utf8_acceptRanges), ("unicode.CaseRanges", laid_unicode_CaseRanges), ("unicode/utf8.first", laid_unicode_utf8_first)] }
def NameRulesSaid : Prop := nameRulesRow.holds Tryz.pinned (OpenSpec.ofChange nameRulesSpec)

/-- ITS FALSE NEIGHBOUR: 'it returns false'. Refute it at one input. -/
def nameRulesWrong : ChangeSpec := { name := "nameRules", fn := fun _ => fun
  | [d] => { results := [.lit (.bool false)], args := [d] }
  | _ => none }
def NameRulesWrongFalsely : Prop := nameRulesRow.holds Tryz.pinned (OpenSpec.ofChange nameRulesWrong)

/-- 'wayzgooselaw03.NameKeys': WHATEVER THE INPUT: true; the input reads as it did. -/
def nameKeysSpec : ChangeSpec := { name := "nameKeys", fn := fun _ => fun
  | [d1, d2] => { results := [.lit (.bool true)], args := [d1, d2] }
  | _ => none }
def nameKeysRow : OpenClaim := { program := "ytapikimhmjnjeaagreatdoor", sum := "6f8f97ae357834f0a6ca57ed5eb18a05c9d6a1678d6557be95c4ae14154927a4", func := "wayzgoose/wayzgooselaw03.NameKeys", spec := "nameKeys", inPlace := ["internal/bytealg.IndexByteString", "internal/bytealg.IndexString", "internal/abi.NoEscape", "internal/bytealg.MakeNoZero"], unfollowed := true, recurses := true, named := ["unicode/utf8.first", "unicode/utf8.acceptRanges", "unicode.CaseRanges", "internal/bytealg.MaxLen"], apart := false, laid := [("unicode/utf8.acceptRanges", laid_unicode_utf8_acceptRanges), ("unicode.CaseRanges", laid_unicode_CaseRanges), ("unicode/utf8.first", laid_unicode_utf8_first)] }
def NameKeysSaid : Prop := nameKeysRow.holds Tryz.pinned (OpenSpec.ofChange nameKeysSpec)

/-- ITS FALSE NEIGHBOUR: 'it returns false'. Refute it at one input. -/
def nameKeysWrong : ChangeSpec := { name := "nameKeys", fn := fun _ => fun
  | [d1, d2] => { results := [.lit (.bool false)], args := [d1, d2] }
  | _ => none }
def NameKeysWrongFalsely : Prop := nameKeysRow.holds Tryz.pinned (OpenSpec.ofChange nameKeysWrong)

/-- 'wayzgooselaw03.NameOne': WHATEVER THE INPUT: true; the input reads as it did. -/
def nameOneSpec : ChangeSpec := { name := "nameOne", fn := fun _ => fun
  | [d] => { results := [.lit (.bool true)], args := [d] }
  | _ => none }
def nameOneRow : OpenClaim := { program := "ytapikimhmjnjeaagreatdoor", sum := "6f8f97ae357834f0a6ca57ed5eb18a05c9d6a1678d6557be95c4ae14154927a4", func := "wayzgoose/wayzgooselaw03.NameOne", spec := "nameOne", inPlace := ["internal/bytealg.IndexByteString", "internal/bytealg.IndexString", "internal/abi.NoEscape", "internal/bytealg.MakeNoZero"], unfollowed := true, recurses := true, named := ["unicode/utf8.first", "unicode/utf8.acceptRanges", "unicode.CaseRanges", "internal/bytealg.MaxLen"], apart := false, laid := [("unicode/utf8.acceptRanges", laid_unicode_utf8_acceptRanges), ("unicode.CaseRanges", laid_unicode_CaseRanges), ("unicode/utf8.first", laid_unicode_utf8_first)] }
def NameOneSaid : Prop := nameOneRow.holds Tryz.pinned (OpenSpec.ofChange nameOneSpec)

/-- ITS FALSE NEIGHBOUR: 'it returns false'. Refute it at one input. -/
def nameOneWrong : ChangeSpec := { name := "nameOne", fn := fun _ => fun
  | [d] => { results := [.lit (.bool false)], args := [d] }
  | _ => none }
def NameOneWrongFalsely : Prop := nameOneRow.holds Tryz.pinned (OpenSpec.ofChange nameOneWrong)

/-- 'wayzgooselaw03.NameNear': WHATEVER THE INPUT: true; the input reads as it did. -/
def nameNearSpec : ChangeSpec := { name := "nameNear", fn := fun _ => fun
  | [d] => { results := [.lit (.bool true)], args := [d] }
  | _ => none }
def nameNearRow : OpenClaim := { program := "ytapikimhmjnjeaagreatdoor", sum := "6f8f97ae357834f0a6ca57ed5eb18a05c9d6a1678d6557be95c4ae14154927a4", func := "wayzgoose/wayzgooselaw03.NameNear", spec := "nameNear", inPlace := ["internal/bytealg.IndexByteString", "internal/bytealg.IndexString", "internal/abi.NoEscape", "internal/bytealg.MakeNoZero"], unfollowed := true, recurses := true, named := ["unicode/utf8.first", "unicode/utf8.acceptRanges", "unicode.CaseRanges", "internal/bytealg.MaxLen"], apart := false, laid := [("unicode/utf8.acceptRanges", laid_unicode_utf8_acceptRanges), ("unicode.CaseRanges", laid_unicode_CaseRanges), ("unicode/utf8.first", laid_unicode_utf8_first)] }
def NameNearSaid : Prop := nameNearRow.holds Tryz.pinned (OpenSpec.ofChange nameNearSpec)

/-- ITS FALSE NEIGHBOUR: 'it returns false'. Refute it at one input. -/
def nameNearWrong : ChangeSpec := { name := "nameNear", fn := fun _ => fun
  | [d] => { results := [.lit (.bool false)], args := [d] }
  | _ => none }
def NameNearWrongFalsely : Prop := nameNearRow.holds Tryz.pinned (OpenSpec.ofChange nameNearWrong)

/-- 'wayzgooselaw03.NameLine': WHATEVER THE INPUT: true; the input reads as it did. -/
def nameLineSpec : ChangeSpec := { name := "nameLine", fn := fun _ => fun
  | [d] => { results := [.lit (.bool true)], args := [d] }
  | _ => none }
def nameLineRow : OpenClaim := { program := "ytapikimhmjnjeaagreatdoor", sum := "6f8f97ae357834f0a6ca57ed5eb18a05c9d6a1678d6557be95c4ae14154927a4", func := "wayzgoose/wayzgooselaw03.NameLine", spec := "nameLine", inPlace := ["internal/bytealg.IndexByteString", "internal/bytealg.IndexString", "internal/abi.NoEscape", "internal/bytealg.MakeNoZero"], unfollowed := true, recurses := true, named := ["unicode/utf8.first", "unicode/utf8.acceptRanges", "unicode.CaseRanges", "internal/bytealg.MaxLen"], apart := false, laid := [("unicode/utf8.acceptRanges", laid_unicode_utf8_acceptRanges), ("unicode.CaseRanges", laid_unicode_CaseRanges), ("unicode/utf8.first", laid_unicode_utf8_first)] }
def NameLineSaid : Prop := nameLineRow.holds Tryz.pinned (OpenSpec.ofChange nameLineSpec)

/-- ITS FALSE NEIGHBOUR: 'it returns false'. Refute it at one input. -/
def nameLineWrong : ChangeSpec := { name := "nameLine", fn := fun _ => fun
  | [d] => { results := [.lit (.bool false)], args := [d] }
  | _ => none }
def NameLineWrongFalsely : Prop := nameLineRow.holds Tryz.pinned (OpenSpec.ofChange nameLineWrong)

/-- 'wayzgooselaw03.NameUses': WHATEVER THE INPUT: true; the input reads as it did. -/
def nameUsesSpec : ChangeSpec := { name := "nameUses", fn := fun _ => fun
  | [d1, d2, d3, d4, d5] => { results := [.lit (.bool true)], args := [d1, d2, d3, d4, d5] }
  | _ => none }
def nameUsesRow : OpenClaim := { program := "ytapikimhmjnjeaagreatdoor", sum := "6f8f97ae357834f0a6ca57ed5eb18a05c9d6a1678d6557be95c4ae14154927a4", func := "wayzgoose/wayzgooselaw03.NameUses", spec := "nameUses", inPlace := ["internal/bytealg.IndexByteString", "internal/bytealg.IndexString", "internal/abi.NoEscape", "internal/bytealg.MakeNoZero"], unfollowed := true, recurses := true, named := ["unicode/utf8.first", "unicode/utf8.acceptRanges", "unicode.CaseRanges", "internal/bytealg.MaxLen"], apart := false, laid := [("unicode/utf8.acceptRanges", laid_unicode_utf8_acceptRanges), ("unicode.CaseRanges", laid_unicode_CaseRanges), ("unicode/utf8.first", laid_unicode_utf8_first)] }
def NameUsesSaid : Prop := nameUsesRow.holds Tryz.pinned (OpenSpec.ofChange nameUsesSpec)

/-- ITS FALSE NEIGHBOUR: 'it returns false'. Refute it at one input. -/
def nameUsesWrong : ChangeSpec := { name := "nameUses", fn := fun _ => fun
  | [d1, d2, d3, d4, d5] => { results := [.lit (.bool false)], args := [d1, d2, d3, d4, d5] }
  | _ => none }
def NameUsesWrongFalsely : Prop := nameUsesRow.holds Tryz.pinned (OpenSpec.ofChange nameUsesWrong)

/-- 'wayzgooselaw03.NameFewest': WHATEVER THE INPUT: true; the input reads as it did. -/
def nameFewestSpec : ChangeSpec := { name := "nameFewest", fn := fun _ => fun
  | [d] => { results := [.lit (.bool true)], args := [d] }
  | _ => none }
def nameFewestRow : OpenClaim := { program := "ytapikimhmjnjeaagreatdoor", sum := "6f8f97ae357834f0a6ca57ed5eb18a05c9d6a1678d6557be95c4ae14154927a4", func := "wayzgoose/wayzgooselaw03.NameFewest", spec := "nameFewest", inPlace := ["internal/bytealg.IndexByteString", "internal/bytealg.IndexString", "internal/abi.NoEscape", "internal/bytealg.MakeNoZero"], unfollowed := true, recurses := true, named := ["unicode/utf8.first", "unicode/utf8.acceptRanges", "unicode.CaseRanges", "internal/bytealg.MaxLen"], apart := false, laid := [("unicode/utf8.acceptRanges", laid_unicode_utf8_acceptRanges), ("unicode.CaseRanges", laid_unicode_CaseRanges), ("unicode/utf8.first", laid_unicode_utf8_first)] }
def NameFewestSaid : Prop := nameFewestRow.holds Tryz.pinned (OpenSpec.ofChange nameFewestSpec)

/-- ITS FALSE NEIGHBOUR: 'it returns false'. Refute it at one input. -/
def nameFewestWrong : ChangeSpec := { name := "nameFewest", fn := fun _ => fun
  | [d] => { results := [.lit (.bool false)], args := [d] }
  | _ => none }
def NameFewestWrongFalsely : Prop := nameFewestRow.holds Tryz.pinned (OpenSpec.ofChange nameFewestWrong)

/-- 'wayzgooselaw03.NameOrders': WHATEVER THE INPUT: true; the input reads as it did. -/
def nameOrdersSpec : ChangeSpec := { name := "nameOrders", fn := fun _ => fun
  | [d1, d2, d3, d4] => { results := [.lit (.bool true)], args := [d1, d2, d3, d4] }
  | _ => none }
def nameOrdersRow : OpenClaim := { program := "ytapikimhmjnjeaagreatdoor", sum := "6f8f97ae357834f0a6ca57ed5eb18a05c9d6a1678d6557be95c4ae14154927a4", func := "wayzgoose/wayzgooselaw03.NameOrders", spec := "nameOrders", inPlace := ["internal/bytealg.IndexByteString", "internal/bytealg.IndexString", "internal/abi.NoEscape", "internal/bytealg.MakeNoZero"], unfollowed := true, recurses := true, named := ["unicode/utf8.first", "unicode/utf8.acceptRanges", "unicode.CaseRanges", "internal/bytealg.MaxLen"], apart := false, laid := [("unicode/utf8.acceptRanges", laid_unicode_utf8_acceptRanges), ("unicode.CaseRanges", laid_unicode_CaseRanges), ("unicode/utf8.first", laid_unicode_utf8_first)] }
def NameOrdersSaid : Prop := nameOrdersRow.holds Tryz.pinned (OpenSpec.ofChange nameOrdersSpec)

/-- ITS FALSE NEIGHBOUR: 'it returns false'. Refute it at one input. -/
def nameOrdersWrong : ChangeSpec := { name := "nameOrders", fn := fun _ => fun
  | [d1, d2, d3, d4] => { results := [.lit (.bool false)], args := [d1, d2, d3, d4] }
  | _ => none }
def NameOrdersWrongFalsely : Prop := nameOrdersRow.holds Tryz.pinned (OpenSpec.ofChange nameOrdersWrong)

/-- 'wayzgooselaw03.NameSorted': WHATEVER THE INPUT: true; the input reads as it did. -/
def nameSortedSpec : ChangeSpec := { name := "nameSorted", fn := fun _ => fun
  | [d] => { results := [.lit (.bool true)], args := [d] }
  | _ => none }
def nameSortedRow : OpenClaim := { program := "ytapikimhmjnjeaagreatdoor", sum := "6f8f97ae357834f0a6ca57ed5eb18a05c9d6a1678d6557be95c4ae14154927a4", func := "wayzgoose/wayzgooselaw03.NameSorted", spec := "nameSorted", inPlace := ["internal/bytealg.IndexByteString", "internal/bytealg.IndexString", "internal/abi.NoEscape", "internal/bytealg.MakeNoZero"], unfollowed := true, recurses := true, named := ["unicode/utf8.first", "unicode/utf8.acceptRanges", "unicode.CaseRanges", "internal/bytealg.MaxLen"], apart := false, laid := [("unicode/utf8.acceptRanges", laid_unicode_utf8_acceptRanges), ("unicode.CaseRanges", laid_unicode_CaseRanges), ("unicode/utf8.first", laid_unicode_utf8_first)] }
def NameSortedSaid : Prop := nameSortedRow.holds Tryz.pinned (OpenSpec.ofChange nameSortedSpec)

/-- ITS FALSE NEIGHBOUR: 'it returns false'. Refute it at one input. -/
def nameSortedWrong : ChangeSpec := { name := "nameSorted", fn := fun _ => fun
  | [d] => { results := [.lit (.bool false)], args := [d] }
  | _ => none }
def NameSortedWrongFalsely : Prop := nameSortedRow.holds Tryz.pinned (OpenSpec.ofChange nameSortedWrong)

/-- 'wayzgooselaw03.NameLeast': WHATEVER THE INPUT: true; the input reads as it did. -/
def nameLeastSpec : ChangeSpec := { name := "nameLeast", fn := fun _ => fun
  | [d] => { results := [.lit (.bool true)], args := [d] }
  | _ => none }
def nameLeastRow : OpenClaim := { program := "ytapikimhmjnjeaagreatdoor", sum := "6f8f97ae357834f0a6ca57ed5eb18a05c9d6a1678d6557be95c4ae14154927a4", func := "wayzgoose/wayzgooselaw03.NameLeast", spec := "nameLeast", inPlace := ["internal/bytealg.IndexByteString", "internal/bytealg.IndexString", "internal/abi.NoEscape", "internal/bytealg.MakeNoZero", "internal/reflectlite.ValueOf", "(internal/reflectlite.Value).Type", "(internal/reflectlite.Value).IsNil", "internal/reflectlite.TypeOf", "(internal/reflectlite.Value).Elem", "(internal/reflectlite.Value).Set"], unfollowed := true, recurses := true, named := ["unicode/utf8.first", "unicode/utf8.acceptRanges", "unicode.CaseRanges", "errors.errorType", "internal/bytealg.MaxLen"], apart := false, laid := [("unicode/utf8.acceptRanges", laid_unicode_utf8_acceptRanges), ("errors.errorType", laid_errors_errorType), ("unicode.CaseRanges", laid_unicode_CaseRanges), ("unicode/utf8.first", laid_unicode_utf8_first)] }
def NameLeastSaid : Prop := nameLeastRow.holds Tryz.pinned (OpenSpec.ofChange nameLeastSpec)

/-- ITS FALSE NEIGHBOUR: 'it returns false'. Refute it at one input. -/
def nameLeastWrong : ChangeSpec := { name := "nameLeast", fn := fun _ => fun
  | [d] => { results := [.lit (.bool false)], args := [d] }
  | _ => none }
def NameLeastWrongFalsely : Prop := nameLeastRow.holds Tryz.pinned (OpenSpec.ofChange nameLeastWrong)

/-- 'wayzgooselaw03.NameColumn': WHATEVER THE INPUT: true; the input reads as it did. -/
def nameColumnSpec : ChangeSpec := { name := "nameColumn", fn := fun _ => fun
  | [d] => { results := [.lit (.bool true)], args := [d] }
  | _ => none }
def nameColumnRow : OpenClaim := { program := "ytapikimhmjnjeaagreatdoor", sum := "6f8f97ae357834f0a6ca57ed5eb18a05c9d6a1678d6557be95c4ae14154927a4", func := "wayzgoose/wayzgooselaw03.NameColumn", spec := "nameColumn", inPlace := ["internal/bytealg.IndexByteString", "internal/bytealg.IndexString", "internal/abi.NoEscape", "internal/bytealg.MakeNoZero", "internal/reflectlite.ValueOf", "(internal/reflectlite.Value).Type", "(internal/reflectlite.Value).IsNil", "internal/reflectlite.TypeOf", "(internal/reflectlite.Value).Elem", "(internal/reflectlite.Value).Set"], unfollowed := true, recurses := true, named := ["unicode/utf8.first", "unicode/utf8.acceptRanges", "unicode.CaseRanges", "errors.errorType", "internal/bytealg.MaxLen"], apart := false, laid := [("unicode/utf8.acceptRanges", laid_unicode_utf8_acceptRanges), ("errors.errorType", laid_errors_errorType), ("unicode.CaseRanges", laid_unicode_CaseRanges), ("unicode/utf8.first", laid_unicode_utf8_first)] }
def NameColumnSaid : Prop := nameColumnRow.holds Tryz.pinned (OpenSpec.ofChange nameColumnSpec)

/-- ITS FALSE NEIGHBOUR: 'it returns false'. Refute it at one input. -/
def nameColumnWrong : ChangeSpec := { name := "nameColumn", fn := fun _ => fun
  | [d] => { results := [.lit (.bool false)], args := [d] }
  | _ => none }
def NameColumnWrongFalsely : Prop := nameColumnRow.holds Tryz.pinned (OpenSpec.ofChange nameColumnWrong)

/-- 'wayzgooselaw03.NameShorts': WHATEVER THE INPUT: true; the input reads as it did. -/
def nameShortsSpec : ChangeSpec := { name := "nameShorts", fn := fun _ => fun
  | [d1, d2, d3, d4] => { results := [.lit (.bool true)], args := [d1, d2, d3, d4] }
  | _ => none }
def nameShortsRow : OpenClaim := { program := "ytapikimhmjnjeaagreatdoor", sum := "6f8f97ae357834f0a6ca57ed5eb18a05c9d6a1678d6557be95c4ae14154927a4", func := "wayzgoose/wayzgooselaw03.NameShorts", spec := "nameShorts", inPlace := ["internal/bytealg.IndexByteString", "internal/bytealg.IndexString", "internal/abi.NoEscape", "internal/bytealg.MakeNoZero", "internal/reflectlite.ValueOf", "(internal/reflectlite.Value).Type", "(internal/reflectlite.Value).IsNil", "internal/reflectlite.TypeOf", "(internal/reflectlite.Value).Elem", "(internal/reflectlite.Value).Set"], unfollowed := true, recurses := true, named := ["unicode/utf8.first", "unicode/utf8.acceptRanges", "unicode.CaseRanges", "errors.errorType", "internal/bytealg.MaxLen"], apart := false, laid := [("unicode/utf8.acceptRanges", laid_unicode_utf8_acceptRanges), ("errors.errorType", laid_errors_errorType), ("unicode.CaseRanges", laid_unicode_CaseRanges), ("unicode/utf8.first", laid_unicode_utf8_first)] }
def NameShortsSaid : Prop := nameShortsRow.holds Tryz.pinned (OpenSpec.ofChange nameShortsSpec)

/-- ITS FALSE NEIGHBOUR: 'it returns false'. Refute it at one input. -/
def nameShortsWrong : ChangeSpec := { name := "nameShorts", fn := fun _ => fun
  | [d1, d2, d3, d4] => { results := [.lit (.bool false)], args := [d1, d2, d3, d4] }
  | _ => none }
def NameShortsWrongFalsely : Prop := nameShortsRow.holds Tryz.pinned (OpenSpec.ofChange nameShortsWrong)

/-- 'wayzgooselaw03.NameCut': WHATEVER THE INPUT: true; the input reads as it did. -/
def nameCutSpec : ChangeSpec := { name := "nameCut", fn := fun _ => fun
  | [d] => { results := [.lit (.bool true)], args := [d] }
  | _ => none }
def nameCutRow : OpenClaim := { program := "ytapikimhmjnjeaagreatdoor", sum := "6f8f97ae357834f0a6ca57ed5eb18a05c9d6a1678d6557be95c4ae14154927a4", func := "wayzgoose/wayzgooselaw03.NameCut", spec := "nameCut", inPlace := ["internal/bytealg.IndexByteString", "internal/bytealg.IndexString", "internal/reflectlite.ValueOf", "(internal/reflectlite.Value).Type", "(internal/reflectlite.Value).IsNil", "internal/reflectlite.TypeOf", "(internal/reflectlite.Value).Elem", "(internal/reflectlite.Value).Set", "internal/abi.NoEscape", "internal/bytealg.MakeNoZero"], unfollowed := true, recurses := true, named := ["errors.errorType", "unicode/utf8.first", "unicode/utf8.acceptRanges", "unicode.CaseRanges", "internal/bytealg.MaxLen"], apart := false, laid := [("unicode/utf8.acceptRanges", laid_unicode_utf8_acceptRanges), ("errors.errorType", laid_errors_errorType), ("unicode.CaseRanges", laid_unicode_CaseRanges), ("unicode/utf8.first", laid_unicode_utf8_first)] }
def NameCutSaid : Prop := nameCutRow.holds Tryz.pinned (OpenSpec.ofChange nameCutSpec)

/-- ITS FALSE NEIGHBOUR: 'it returns false'. Refute it at one input. -/
def nameCutWrong : ChangeSpec := { name := "nameCut", fn := fun _ => fun
  | [d] => { results := [.lit (.bool false)], args := [d] }
  | _ => none }
def NameCutWrongFalsely : Prop := nameCutRow.holds Tryz.pinned (OpenSpec.ofChange nameCutWrong)

/-- 'wayzgooselaw03.NameKnown': WHATEVER THE INPUT: true; the input reads as it did. -/
def nameKnownSpec : ChangeSpec := { name := "nameKnown", fn := fun _ => fun
  | [] => { results := [.lit (.bool true)], args := [] }
  | _ => none }
def nameKnownRow : OpenClaim := { program := "ytapikimhmjnjeaagreatdoor", sum := "6f8f97ae357834f0a6ca57ed5eb18a05c9d6a1678d6557be95c4ae14154927a4", func := "wayzgoose/wayzgooselaw03.NameKnown", spec := "nameKnown", inPlace := ["internal/bytealg.IndexByteString", "internal/bytealg.IndexString", "internal/abi.NoEscape", "internal/bytealg.MakeNoZero", "internal/reflectlite.ValueOf", "(internal/reflectlite.Value).Type", "(internal/reflectlite.Value).IsNil", "internal/reflectlite.TypeOf", "(internal/reflectlite.Value).Elem", "(internal/reflectlite.Value).Set"], unfollowed := true, recurses := true, named := ["unicode/utf8.first", "unicode/utf8.acceptRanges", "unicode.CaseRanges", "errors.errorType", "internal/bytealg.MaxLen"], apart := false, laid := [("unicode/utf8.acceptRanges", laid_unicode_utf8_acceptRanges), ("errors.errorType", laid_errors_errorType), ("unicode.CaseRanges", laid_unicode_CaseRanges), ("unicode/utf8.first", laid_unicode_utf8_first)] }
def NameKnownSaid : Prop := nameKnownRow.holds Tryz.pinned (OpenSpec.ofChange nameKnownSpec)

/-- ITS FALSE NEIGHBOUR: 'it returns false'. Refute it at one input. -/
def nameKnownWrong : ChangeSpec := { name := "nameKnown", fn := fun _ => fun
  | [] => { results := [.lit (.bool false)], args := [] }
  | _ => none }
def NameKnownWrongFalsely : Prop := nameKnownRow.holds Tryz.pinned (OpenSpec.ofChange nameKnownWrong)

/- THE SECOND FORM. 'bulk': how many values and letters a reading holds, each counted each time it is reached (what is shared counts as often as it is met; a slice's spare places count too). A statement '..UptoSaid' is the law's where the arguments, and the package variables that the reading takes, are together of bulk at most 1048576: NARROWER than '..Said'. Prove '..Said' where nothing that the law and all that it calls make is longer than what came in: it says more and counts as full. Else prove '..UptoSaid'. A law counts once. -/
mutual
def uptoBulk {H : Type} : DataW H → Nat
  | .lit (.string bytes) => bytes.length + 1
  | .lit _ => 1
  | .nil => 1
  | .ptr d => uptoBulk d + 1
  | .slice elems spare => uptoBulkAll elems + uptoBulkAll spare + 1
  | .agg parts => uptoBulkAll parts + 1
  | .iface _ d => uptoBulk d + 1
  | .map entries => uptoBulkEntries entries + 1
  | .held _ => 1
def uptoBulkAll {H : Type} : List (DataW H) → Nat
  | [] => 0
  | d :: r => uptoBulk d + uptoBulkAll r
def uptoBulkEntries {H : Type} : List (Lit × DataW H) → Nat
  | [] => 0
  | x :: r => uptoBulkEntry x + uptoBulkEntries r
def uptoBulkEntry {H : Type} : Lit × DataW H → Nat
  | (.string bytes, d) => bytes.length + uptoBulk d + 1
  | (_, d) => uptoBulk d + 1
 end
def uptoSmall : (H : Type) → List (DataW H) → Bool := fun _ ds => decide (uptoBulkAll ds ≤ 1048576)
def OpenSpec.upto (s : _root_.Go.ChangeSpec) : _root_.Go.OpenSpec := { _root_.Go.OpenSpec.ofChange s with cond := some uptoSmall }

/-- 'wayzgooselaw03.NameFits', WHERE WHAT IT READS IS OF BULK AT MOST 1048576: true; the input reads as it did. -/
def nameFitsUptoRow : OpenClaim := { program := "ytapikimhmjnjeaagreatdoor", sum := "6f8f97ae357834f0a6ca57ed5eb18a05c9d6a1678d6557be95c4ae14154927a4", func := "wayzgoose/wayzgooselaw03.NameFits", spec := "nameFits", inPlace := ["internal/bytealg.IndexByteString", "internal/bytealg.IndexString", "internal/abi.NoEscape", "internal/bytealg.MakeNoZero"], unfollowed := true, recurses := true, named := ["unicode/utf8.first", "unicode/utf8.acceptRanges", "unicode.CaseRanges", "internal/bytealg.MaxLen"], apart := false, laid := [("unicode/utf8.acceptRanges", laid_unicode_utf8_acceptRanges), ("unicode.CaseRanges", laid_unicode_CaseRanges), ("unicode/utf8.first", laid_unicode_utf8_first)], narrowed := true }
def NameFitsUptoSaid : Prop := nameFitsUptoRow.holds Tryz.pinned (OpenSpec.upto nameFitsSpec)

/-- 'wayzgooselaw03.NameList', WHERE WHAT IT READS IS OF BULK AT MOST 1048576: true; the input reads as it did. -/
def nameListUptoRow : OpenClaim := { program := "ytapikimhmjnjeaagreatdoor", sum := "6f8f97ae357834f0a6ca57ed5eb18a05c9d6a1678d6557be95c4ae14154927a4", func := "wayzgoose/wayzgooselaw03.NameList", spec := "nameList", inPlace := ["internal/bytealg.IndexByteString", "internal/bytealg.IndexString", "internal/abi.NoEscape", "internal/bytealg.MakeNoZero"], unfollowed := true, recurses := true, named := ["unicode/utf8.first", "unicode/utf8.acceptRanges", "unicode.CaseRanges", "internal/bytealg.MaxLen"], apart := false, laid := [("unicode/utf8.acceptRanges", laid_unicode_utf8_acceptRanges), ("unicode.CaseRanges", laid_unicode_CaseRanges), ("unicode/utf8.first", laid_unicode_utf8_first)], narrowed := true }
def NameListUptoSaid : Prop := nameListUptoRow.holds Tryz.pinned (OpenSpec.upto nameListSpec)

/-- 'wayzgooselaw03.NameBoth', WHERE WHAT IT READS IS OF BULK AT MOST 1048576: true; the input reads as it did. -/
def nameBothUptoRow : OpenClaim := { program := "ytapikimhmjnjeaagreatdoor", sum := "6f8f97ae357834f0a6ca57ed5eb18a05c9d6a1678d6557be95c4ae14154927a4", func := "wayzgoose/wayzgooselaw03.NameBoth", spec := "nameBoth", inPlace := ["internal/bytealg.IndexByteString", "internal/bytealg.IndexString", "internal/abi.NoEscape", "internal/bytealg.MakeNoZero"], unfollowed := true, recurses := true, named := ["unicode/utf8.first", "unicode/utf8.acceptRanges", "unicode.CaseRanges", "internal/bytealg.MaxLen"], apart := false, laid := [("unicode/utf8.acceptRanges", laid_unicode_utf8_acceptRanges), ("unicode.CaseRanges", laid_unicode_CaseRanges), ("unicode/utf8.first", laid_unicode_utf8_first)], narrowed := true }
def NameBothUptoSaid : Prop := nameBothUptoRow.holds Tryz.pinned (OpenSpec.upto nameBothSpec)

/-- 'wayzgooselaw03.NameSteps', WHERE WHAT IT READS IS OF BULK AT MOST 1048576: true; the input reads as it did. -/
def nameStepsUptoRow : OpenClaim := { program := "ytapikimhmjnjeaagreatdoor", sum := "6f8f97ae357834f0a6ca57ed5eb18a05c9d6a1678d6557be95c4ae14154927a4", func := "wayzgoose/wayzgooselaw03.NameSteps", spec := "nameSteps", inPlace := ["internal/bytealg.IndexByteString", "internal/bytealg.IndexString", "internal/abi.NoEscape", "internal/bytealg.MakeNoZero"], unfollowed := true, recurses := true, named := ["unicode/utf8.first", "unicode/utf8.acceptRanges", "unicode.CaseRanges", "internal/bytealg.MaxLen"], apart := false, laid := [("unicode/utf8.acceptRanges", laid_unicode_utf8_acceptRanges), ("unicode.CaseRanges", laid_unicode_CaseRanges), ("unicode/utf8.first", laid_unicode_utf8_first)], narrowed := true }
def NameStepsUptoSaid : Prop := nameStepsUptoRow.holds Tryz.pinned (OpenSpec.upto nameStepsSpec)

/-- 'wayzgooselaw03.NameRules', WHERE WHAT IT READS IS OF BULK AT MOST 1048576: true; the input reads as it did. -/
def nameRulesUptoRow : OpenClaim := { program := "ytapikimhmjnjeaagreatdoor", sum := "6f8f97ae357834f0a6ca57ed5eb18a05c9d6a1678d6557be95c4ae14154927a4", func := "wayzgoose/wayzgooselaw03.NameRules", spec := "nameRules", inPlace := ["internal/bytealg.IndexByteString", "internal/bytealg.IndexString", "internal/abi.NoEscape", "internal/bytealg.MakeNoZero"], unfollowed := true, recurses := true, named := ["unicode/utf8.first", "unicode/utf8.acceptRanges", "unicode.CaseRanges", "internal/bytealg.MaxLen"], apart := false, laid := [("unicode/utf8.acceptRanges", laid_unicode_utf8_acceptRanges), ("unicode.CaseRanges", laid_unicode_CaseRanges), ("unicode/utf8.first", laid_unicode_utf8_first)], narrowed := true }
def NameRulesUptoSaid : Prop := nameRulesUptoRow.holds Tryz.pinned (OpenSpec.upto nameRulesSpec)

/-- 'wayzgooselaw03.NameKeys', WHERE WHAT IT READS IS OF BULK AT MOST 1048576: true; the input reads as it did. -/
def nameKeysUptoRow : OpenClaim := { program := "ytapikimhmjnjeaagreatdoor", sum := "6f8f97ae357834f0a6ca57ed5eb18a05c9d6a1678d6557be95c4ae14154927a4", func := "wayzgoose/wayzgooselaw03.NameKeys", spec := "nameKeys", inPlace := ["internal/bytealg.IndexByteString", "internal/bytealg.IndexString", "internal/abi.NoEscape", "internal/bytealg.MakeNoZero"], unfollowed := true, recurses := true, named := ["unicode/utf8.first", "unicode/utf8.acceptRanges", "unicode.CaseRanges", "internal/bytealg.MaxLen"], apart := false, laid := [("unicode/utf8.acceptRanges", laid_unicode_utf8_acceptRanges), ("unicode.CaseRanges", laid_unicode_CaseRanges), ("unicode/utf8.first", laid_unicode_utf8_first)], narrowed := true }
def NameKeysUptoSaid : Prop := nameKeysUptoRow.holds Tryz.pinned (OpenSpec.upto nameKeysSpec)

/-- 'wayzgooselaw03.NameOne', WHERE WHAT IT READS IS OF BULK AT MOST 1048576: true; the input reads as it did. -/
def nameOneUptoRow : OpenClaim := { program := "ytapikimhmjnjeaagreatdoor", sum := "6f8f97ae357834f0a6ca57ed5eb18a05c9d6a1678d6557be95c4ae14154927a4", func := "wayzgoose/wayzgooselaw03.NameOne", spec := "nameOne", inPlace := ["internal/bytealg.IndexByteString", "internal/bytealg.IndexString", "internal/abi.NoEscape", "internal/bytealg.MakeNoZero"], unfollowed := true, recurses := true, named := ["unicode/utf8.first", "unicode/utf8.acceptRanges", "unicode.CaseRanges", "internal/bytealg.MaxLen"], apart := false, laid := [("unicode/utf8.acceptRanges", laid_unicode_utf8_acceptRanges), ("unicode.CaseRanges", laid_unicode_CaseRanges), ("unicode/utf8.first", laid_unicode_utf8_first)], narrowed := true }
def NameOneUptoSaid : Prop := nameOneUptoRow.holds Tryz.pinned (OpenSpec.upto nameOneSpec)

/-- 'wayzgooselaw03.NameNear', WHERE WHAT IT READS IS OF BULK AT MOST 1048576: true; the input reads as it did. -/
def nameNearUptoRow : OpenClaim := { program := "ytapikimhmjnjeaagreatdoor", sum := "6f8f97ae357834f0a6ca57ed5eb18a05c9d6a1678d6557be95c4ae14154927a4", func := "wayzgoose/wayzgooselaw03.NameNear", spec := "nameNear", inPlace := ["internal/bytealg.IndexByteString", "internal/bytealg.IndexString", "internal/abi.NoEscape", "internal/bytealg.MakeNoZero"], unfollowed := true, recurses := true, named := ["unicode/utf8.first", "unicode/utf8.acceptRanges", "unicode.CaseRanges", "internal/bytealg.MaxLen"], apart := false, laid := [("unicode/utf8.acceptRanges", laid_unicode_utf8_acceptRanges), ("unicode.CaseRanges", laid_unicode_CaseRanges), ("unicode/utf8.first", laid_unicode_utf8_first)], narrowed := true }
def NameNearUptoSaid : Prop := nameNearUptoRow.holds Tryz.pinned (OpenSpec.upto nameNearSpec)

/-- 'wayzgooselaw03.NameLine', WHERE WHAT IT READS IS OF BULK AT MOST 1048576: true; the input reads as it did. -/
def nameLineUptoRow : OpenClaim := { program := "ytapikimhmjnjeaagreatdoor", sum := "6f8f97ae357834f0a6ca57ed5eb18a05c9d6a1678d6557be95c4ae14154927a4", func := "wayzgoose/wayzgooselaw03.NameLine", spec := "nameLine", inPlace := ["internal/bytealg.IndexByteString", "internal/bytealg.IndexString", "internal/abi.NoEscape", "internal/bytealg.MakeNoZero"], unfollowed := true, recurses := true, named := ["unicode/utf8.first", "unicode/utf8.acceptRanges", "unicode.CaseRanges", "internal/bytealg.MaxLen"], apart := false, laid := [("unicode/utf8.acceptRanges", laid_unicode_utf8_acceptRanges), ("unicode.CaseRanges", laid_unicode_CaseRanges), ("unicode/utf8.first", laid_unicode_utf8_first)], narrowed := true }
def NameLineUptoSaid : Prop := nameLineUptoRow.holds Tryz.pinned (OpenSpec.upto nameLineSpec)

/-- 'wayzgooselaw03.NameUses', WHERE WHAT IT READS IS OF BULK AT MOST 1048576: true; the input reads as it did. -/
def nameUsesUptoRow : OpenClaim := { program := "ytapikimhmjnjeaagreatdoor", sum := "6f8f97ae357834f0a6ca57ed5eb18a05c9d6a1678d6557be95c4ae14154927a4", func := "wayzgoose/wayzgooselaw03.NameUses", spec := "nameUses", inPlace := ["internal/bytealg.IndexByteString", "internal/bytealg.IndexString", "internal/abi.NoEscape", "internal/bytealg.MakeNoZero"], unfollowed := true, recurses := true, named := ["unicode/utf8.first", "unicode/utf8.acceptRanges", "unicode.CaseRanges", "internal/bytealg.MaxLen"], apart := false, laid := [("unicode/utf8.acceptRanges", laid_unicode_utf8_acceptRanges), ("unicode.CaseRanges", laid_unicode_CaseRanges), ("unicode/utf8.first", laid_unicode_utf8_first)], narrowed := true }
def NameUsesUptoSaid : Prop := nameUsesUptoRow.holds Tryz.pinned (OpenSpec.upto nameUsesSpec)

/-- 'wayzgooselaw03.NameFewest', WHERE WHAT IT READS IS OF BULK AT MOST 1048576: true; the input reads as it did. -/
def nameFewestUptoRow : OpenClaim := { program := "ytapikimhmjnjeaagreatdoor", sum := "6f8f97ae357834f0a6ca57ed5eb18a05c9d6a1678d6557be95c4ae14154927a4", func := "wayzgoose/wayzgooselaw03.NameFewest", spec := "nameFewest", inPlace := ["internal/bytealg.IndexByteString", "internal/bytealg.IndexString", "internal/abi.NoEscape", "internal/bytealg.MakeNoZero"], unfollowed := true, recurses := true, named := ["unicode/utf8.first", "unicode/utf8.acceptRanges", "unicode.CaseRanges", "internal/bytealg.MaxLen"], apart := false, laid := [("unicode/utf8.acceptRanges", laid_unicode_utf8_acceptRanges), ("unicode.CaseRanges", laid_unicode_CaseRanges), ("unicode/utf8.first", laid_unicode_utf8_first)], narrowed := true }
def NameFewestUptoSaid : Prop := nameFewestUptoRow.holds Tryz.pinned (OpenSpec.upto nameFewestSpec)

/-- 'wayzgooselaw03.NameOrders', WHERE WHAT IT READS IS OF BULK AT MOST 1048576: true; the input reads as it did. -/
def nameOrdersUptoRow : OpenClaim := { program := "ytapikimhmjnjeaagreatdoor", sum := "6f8f97ae357834f0a6ca57ed5eb18a05c9d6a1678d6557be95c4ae14154927a4", func := "wayzgoose/wayzgooselaw03.NameOrders", spec := "nameOrders", inPlace := ["internal/bytealg.IndexByteString", "internal/bytealg.IndexString", "internal/abi.NoEscape", "internal/bytealg.MakeNoZero"], unfollowed := true, recurses := true, named := ["unicode/utf8.first", "unicode/utf8.acceptRanges", "unicode.CaseRanges", "internal/bytealg.MaxLen"], apart := false, laid := [("unicode/utf8.acceptRanges", laid_unicode_utf8_acceptRanges), ("unicode.CaseRanges", laid_unicode_CaseRanges), ("unicode/utf8.first", laid_unicode_utf8_first)], narrowed := true }
def NameOrdersUptoSaid : Prop := nameOrdersUptoRow.holds Tryz.pinned (OpenSpec.upto nameOrdersSpec)

/-- 'wayzgooselaw03.NameSorted', WHERE WHAT IT READS IS OF BULK AT MOST 1048576: true; the input reads as it did. -/
def nameSortedUptoRow : OpenClaim := { program := "ytapikimhmjnjeaagreatdoor", sum := "6f8f97ae357834f0a6ca57ed5eb18a05c9d6a1678d6557be95c4ae14154927a4", func := "wayzgoose/wayzgooselaw03.NameSorted", spec := "nameSorted", inPlace := ["internal/bytealg.IndexByteString", "internal/bytealg.IndexString", "internal/abi.NoEscape", "internal/bytealg.MakeNoZero"], unfollowed := true, recurses := true, named := ["unicode/utf8.first", "unicode/utf8.acceptRanges", "unicode.CaseRanges", "internal/bytealg.MaxLen"], apart := false, laid := [("unicode/utf8.acceptRanges", laid_unicode_utf8_acceptRanges), ("unicode.CaseRanges", laid_unicode_CaseRanges), ("unicode/utf8.first", laid_unicode_utf8_first)], narrowed := true }
def NameSortedUptoSaid : Prop := nameSortedUptoRow.holds Tryz.pinned (OpenSpec.upto nameSortedSpec)

/-- 'wayzgooselaw03.NameLeast', WHERE WHAT IT READS IS OF BULK AT MOST 1048576: true; the input reads as it did. -/
def nameLeastUptoRow : OpenClaim := { program := "ytapikimhmjnjeaagreatdoor", sum := "6f8f97ae357834f0a6ca57ed5eb18a05c9d6a1678d6557be95c4ae14154927a4", func := "wayzgoose/wayzgooselaw03.NameLeast", spec := "nameLeast", inPlace := ["internal/bytealg.IndexByteString", "internal/bytealg.IndexString", "internal/abi.NoEscape", "internal/bytealg.MakeNoZero", "internal/reflectlite.ValueOf", "(internal/reflectlite.Value).Type", "(internal/reflectlite.Value).IsNil", "internal/reflectlite.TypeOf", "(internal/reflectlite.Value).Elem", "(internal/reflectlite.Value).Set"], unfollowed := true, recurses := true, named := ["unicode/utf8.first", "unicode/utf8.acceptRanges", "unicode.CaseRanges", "errors.errorType", "internal/bytealg.MaxLen"], apart := false, laid := [("unicode/utf8.acceptRanges", laid_unicode_utf8_acceptRanges), ("errors.errorType", laid_errors_errorType), ("unicode.CaseRanges", laid_unicode_CaseRanges), ("unicode/utf8.first", laid_unicode_utf8_first)], narrowed := true }
def NameLeastUptoSaid : Prop := nameLeastUptoRow.holds Tryz.pinned (OpenSpec.upto nameLeastSpec)

/-- 'wayzgooselaw03.NameColumn', WHERE WHAT IT READS IS OF BULK AT MOST 1048576: true; the input reads as it did. -/
def nameColumnUptoRow : OpenClaim := { program := "ytapikimhmjnjeaagreatdoor", sum := "6f8f97ae357834f0a6ca57ed5eb18a05c9d6a1678d6557be95c4ae14154927a4", func := "wayzgoose/wayzgooselaw03.NameColumn", spec := "nameColumn", inPlace := ["internal/bytealg.IndexByteString", "internal/bytealg.IndexString", "internal/abi.NoEscape", "internal/bytealg.MakeNoZero", "internal/reflectlite.ValueOf", "(internal/reflectlite.Value).Type", "(internal/reflectlite.Value).IsNil", "internal/reflectlite.TypeOf", "(internal/reflectlite.Value).Elem", "(internal/reflectlite.Value).Set"], unfollowed := true, recurses := true, named := ["unicode/utf8.first", "unicode/utf8.acceptRanges", "unicode.CaseRanges", "errors.errorType", "internal/bytealg.MaxLen"], apart := false, laid := [("unicode/utf8.acceptRanges", laid_unicode_utf8_acceptRanges), ("errors.errorType", laid_errors_errorType), ("unicode.CaseRanges", laid_unicode_CaseRanges), ("unicode/utf8.first", laid_unicode_utf8_first)], narrowed := true }
def NameColumnUptoSaid : Prop := nameColumnUptoRow.holds Tryz.pinned (OpenSpec.upto nameColumnSpec)

/-- 'wayzgooselaw03.NameShorts', WHERE WHAT IT READS IS OF BULK AT MOST 1048576: true; the input reads as it did. -/
def nameShortsUptoRow : OpenClaim := { program := "ytapikimhmjnjeaagreatdoor", sum := "6f8f97ae357834f0a6ca57ed5eb18a05c9d6a1678d6557be95c4ae14154927a4", func := "wayzgoose/wayzgooselaw03.NameShorts", spec := "nameShorts", inPlace := ["internal/bytealg.IndexByteString", "internal/bytealg.IndexString", "internal/abi.NoEscape", "internal/bytealg.MakeNoZero", "internal/reflectlite.ValueOf", "(internal/reflectlite.Value).Type", "(internal/reflectlite.Value).IsNil", "internal/reflectlite.TypeOf", "(internal/reflectlite.Value).Elem", "(internal/reflectlite.Value).Set"], unfollowed := true, recurses := true, named := ["unicode/utf8.first", "unicode/utf8.acceptRanges", "unicode.CaseRanges", "errors.errorType", "internal/bytealg.MaxLen"], apart := false, laid := [("unicode/utf8.acceptRanges", laid_unicode_utf8_acceptRanges), ("errors.errorType", laid_errors_errorType), ("unicode.CaseRanges", laid_unicode_CaseRanges), ("unicode/utf8.first", laid_unicode_utf8_first)], narrowed := true }
def NameShortsUptoSaid : Prop := nameShortsUptoRow.holds Tryz.pinned (OpenSpec.upto nameShortsSpec)

/-- 'wayzgooselaw03.NameCut', WHERE WHAT IT READS IS OF BULK AT MOST 1048576: true; the input reads as it did. -/
def nameCutUptoRow : OpenClaim := { program := "ytapikimhmjnjeaagreatdoor", sum := "6f8f97ae357834f0a6ca57ed5eb18a05c9d6a1678d6557be95c4ae14154927a4", func := "wayzgoose/wayzgooselaw03.NameCut", spec := "nameCut", inPlace := ["internal/bytealg.IndexByteString", "internal/bytealg.IndexString", "internal/reflectlite.ValueOf", "(internal/reflectlite.Value).Type", "(internal/reflectlite.Value).IsNil", "internal/reflectlite.TypeOf", "(internal/reflectlite.Value).Elem", "(internal/reflectlite.Value).Set", "internal/abi.NoEscape", "internal/bytealg.MakeNoZero"], unfollowed := true, recurses := true, named := ["errors.errorType", "unicode/utf8.first", "unicode/utf8.acceptRanges", "unicode.CaseRanges", "internal/bytealg.MaxLen"], apart := false, laid := [("unicode/utf8.acceptRanges", laid_unicode_utf8_acceptRanges), ("errors.errorType", laid_errors_errorType), ("unicode.CaseRanges", laid_unicode_CaseRanges), ("unicode/utf8.first", laid_unicode_utf8_first)], narrowed := true }
def NameCutUptoSaid : Prop := nameCutUptoRow.holds Tryz.pinned (OpenSpec.upto nameCutSpec)

/-- 'wayzgooselaw03.NameKnown', WHERE WHAT IT READS IS OF BULK AT MOST 1048576: true; the input reads as it did. -/
def nameKnownUptoRow : OpenClaim := { program := "ytapikimhmjnjeaagreatdoor", sum := "6f8f97ae357834f0a6ca57ed5eb18a05c9d6a1678d6557be95c4ae14154927a4", func := "wayzgoose/wayzgooselaw03.NameKnown", spec := "nameKnown", inPlace := ["internal/bytealg.IndexByteString", "internal/bytealg.IndexString", "internal/abi.NoEscape", "internal/bytealg.MakeNoZero", "internal/reflectlite.ValueOf", "(internal/reflectlite.Value).Type", "(internal/reflectlite.Value).IsNil", "internal/reflectlite.TypeOf", "(internal/reflectlite.Value).Elem", "(internal/reflectlite.Value).Set"], unfollowed := true, recurses := true, named := ["unicode/utf8.first", "unicode/utf8.acceptRanges", "unicode.CaseRanges", "errors.errorType", "internal/bytealg.MaxLen"], apart := false, laid := [("unicode/utf8.acceptRanges", laid_unicode_utf8_acceptRanges), ("errors.errorType", laid_errors_errorType), ("unicode.CaseRanges", laid_unicode_CaseRanges), ("unicode/utf8.first", laid_unicode_utf8_first)], narrowed := true }
def NameKnownUptoSaid : Prop := nameKnownUptoRow.holds Tryz.pinned (OpenSpec.upto nameKnownSpec)

end Rows
end Go.Proofs.YtapikimhmjnjeaaGreatDoor
