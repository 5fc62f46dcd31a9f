/- The chapter's examples that the statements check: closed facts. -/
import Derived.Test.YtapikimhmjnjeaaGreatDoorBaseC
import Derived.Test.YtapikimhmjnjeaaGreatDoorBaseD
import Derived.Test.YtapikimhmjnjeaaGreatDoorBaseE
set_option linter.unusedVariables false
set_option linter.unusedSimpArgs false
namespace Go.Proofs.YtapikimhmjnjeaaGreatDoor
open Go.RowKit

def bs (l : L) : ByteArray := ⟨l.toArray⟩
set_option maxRecDepth 100000 in
theorem sp_sort : sortL [bs [99, 104, 97, 100], bs [67, 65, 68], bs [97, 110, 110, 97], bs [66, 69, 78]] = [2, 3, 0, 1] := by decide +kernel
set_option maxRecDepth 100000 in
theorem sp_listed : listedZ [bs [99, 104, 97, 100], bs [67, 65, 68], bs [97, 110, 110, 97], bs [66, 69, 78]] = 0 := by decide +kernel
def rulesX : List Rl := [(bs [112, 104], bs [102]), (bs [121], bs [105]), (bs [101], bs [])]
set_option maxRecDepth 100000 in
theorem sp_chain : (chainF rulesX (bs [115, 109, 121, 116, 104, 101]) (bs [115, 109, 105, 116, 104])).map (fun x => x.map fun s => s.data.toList) = some [[115, 109, 121, 116, 104, 101], [115, 109, 105, 116, 104, 101], [115, 109, 105, 116, 104]] := by decide +kernel
def smithsX : List ByteArray := [bs [115, 109, 105, 116, 104], bs [115, 109, 121, 116, 104], bs [115, 97, 109]]
set_option maxRecDepth 100000 in
theorem sp_short : (shortF smithsX 0).1.data.toList = [115, 105, 46] ∧ (shortF smithsX 0).2 = 0 := by decide +kernel
set_option maxRecDepth 100000 in
theorem sp_fit : (fitF smithsX 0 4).1.data.toList = [115, 105, 104, 46] ∧ (fitF smithsX 0 4).2 = 0 := by decide +kernel
end Go.Proofs.YtapikimhmjnjeaaGreatDoor
