/- The law NameSorted holds: for every input the call returns true, and each argument reads afterwards as it read before; the row's listed variables are tied to the program's text. -/
import Derived.Test.YtapikimhmjnjeaaGreatDoorRows
import Derived.Test.YtapikimhmjnjeaaGreatDoorPrLNameSorted
import Derived.Test.YtapikimhmjnjeaaGreatDoorSortedPure
import Derived.Test.YtapikimhmjnjeaaGreatDoorCards
import Derived.Test.YtapikimhmjnjeaaGreatDoorTie
import Derived.Test.YtapikimhmjnjeaaGreatDoorLaid
import Derived.LaidMore
import Derived.Lay
import Derived.Stop.Joined
import Derived.SevenTiedAt
import Derived.ClosedOfChecked
import Derived.WalkKit
import Derived.ProofKit
import Derived.OpenShut
import Derived.ShutString
import Derived.ChangeOld
import Derived.Below
import Derived.SizedLaws
import Derived.Test.YtapikimhmjnjeaaGreatDoorWords
/- The law NameSorted holds: for every input the call returns true, and each argument reads afterwards as it read before; the row's listed variables are tied to the program's text. -/
namespace Go.Proofs.YtapikimhmjnjeaaGreatDoor.nameSorted
open Go.ChangeShapes Go.WideShapes Go.ChangeAt Go.RowKit
open Go.ChangeMaps (open_string shut_string)
set_option linter.unusedVariables false
open Go.Proofs.YtapikimhmjnjeaaGreatDoorW
theorem laidOut : laidOutB Tryz.prog = true := three.1
def IsRow (k : IntKind) (w : World) (a : Option Addr) (len cap : Nat) (zs : List Int) : Prop :=
  (a = none ∧ len = 0 ∧ cap = 0 ∧ zs = []) ∨
  ∃ x, a = some x ∧ len ≤ cap ∧ cap ≤ maxLen ∧ zs.length = cap ∧ (∀ i, i < zs.length → w.cell? (x.add i) = some (.int k (zs.getD i 0))) ∧ ∀ n ∈ zs, (Lit.int k n).wf = true
set_option maxRecDepth 100000 in
theorem lifted (os : Os) (started : os.Started) (H : Type) (enc : TypeId × Value → H) :
    ReturnsInHanded {} Tryz.checked os 15 .any (fun w args => (Rows.nameSortedSpec.pre enc Tryz.prog Tryz.f15 Rows.nameSortedRow.domain false w args ∧ laidMetH Tryz.prog laid3 w) ∧ sizedMet enc Tryz.prog Tryz.f15 (OpenSpec.ofChange Rows.nameSortedSpec) false w args) (Rows.nameSortedSpec.post enc Tryz.prog Tryz.f15 false true false false) := by
  refine returnsInHanded_of_change_and (C := Tryz.checked) (X := fun w _ => laidMetH Tryz.prog laid3 w) (fun _ _ _ hh h => h.of_heap hh) own started (by kernel_rfl) Tryz.func15
    (ChangeSpec.witness_shaped (enc := enc) (C := Tryz.checked) (os := os) (X := fun w _ => laidMetH Tryz.prog laid3 w) false (World.laidAll Tryz.prog os laid3) #[.slice none 0 0] 8 (World.laidAll_os _ _ _)
      (laid3_shaped os _) (by kernel_rfl) (by kernel_rfl) (by kernel_rfl) (laid3_met os _)) ?_
  intro W base args ds gs before hval0 hW hcnd hsz0 hL _
  have hsz : (DataW.weightsEach Tryz.prog (Tryz.f15.params.toList ++ Rows.nameSortedSpec.plain.varTypes Tryz.prog) (ds ++ gs)).all (· ≤ reachBytes) = true := hsz0
  have hval : ∀ (j : Nat) t v, Tryz.f15.params[j]? = some t → args[j]? = some v → Value.okWide Tryz.prog W .any base t v := hval0
  have hW' := hW
  obtain ⟨p, q, hA0, hV, rfl, hfz, hnd⟩ := hW
  have hA : DataW.TrodAll enc Tryz.prog W 0 (fun _ => true) true Tryz.f15.params.toList args.toList ds p := hA0
  rw [Tryz.params15] at hA hval hsz
  obtain ⟨v0, vs0, d0, ds0, p0, q0, hargs, rfl, rfl, h0, r0⟩ := trodAll_cons hA
  obtain ⟨rfl, rfl, rfl⟩ := trodAll_nil r0
  obtain rfl : args = #[v0] := by cases args; simp_all
  obtain ⟨rfl, rfl⟩ := trodVars_none hV
  obtain ⟨a0, len0, cap0, rfl⟩ := okWide_slice Tryz.underlying23 (hval 0 23 v0 rfl rfl)
  have k0 := h0
  have lt0 : ∀ x ∈ p0, x.block < W.heap.size := by obtain ⟨m, hm⟩ := k0; exact DataW.trod_lt m _ _ _ hm
  obtain ⟨z0, w0⟩ : ∃ zs, IsRow .i64 W a0 len0 cap0 zs := by
    obtain ⟨fuel, hf⟩ := h0
    rcases open_ints Tryz.underlying23 Tryz.underlying3 (by kernel_rfl) hf with ⟨hcs, _⟩ | ⟨x, l, c, zs, hcs, _, hl, hm, hz, _, hcell, hwz⟩
    · simp [Value.cells] at hcs
      obtain ⟨rfl, rfl, rfl⟩ := hcs
      exact ⟨[], .inl ⟨rfl, rfl, rfl, rfl⟩⟩
    · simp [Value.cells] at hcs
      obtain ⟨rfl, rfl, rfl⟩ := hcs
      exact ⟨zs, .inr ⟨_, rfl, hl, hm, by simpa using hz, hcell, hwz⟩⟩
  have y0 : len0 * 8 ≤ 140737488351232 := PrintWords.sized_ints hsz (j := 0) (t := 23) rfl rfl Tryz.underlying23 Tryz.underlying3 (by kernel_rfl) (by kernel_rfl) h0
  clear hA0 hval0 hsz0 hsz
  refine (Pr.wayzgooselaw03_NameSorted.walk Pure.NameSorted a0 len0 cap0 z0 W w0 y0).mono fun e W' ⟨he, bel⟩ => ?_
  subst he
  exact ⟨_, rfl, _, _, _, [], _, [], hW', trodAll_mk1 (shut_bool Tryz.underlying4 _), (trodAll_cons_mk (Below.trod laidOut (by kernel_rfl) (of_decide_eq_true (by kernel_rfl)) k0 bel lt0) trodAll_mk0), rfl, bel.frame _, fun h => by cases h⟩
theorem both {a b : Bool} (h : a = true) (h2 : b = true) : (a && b) = true := by rw [h, h2]; rfl
theorem wft : Rows.nameSortedRow.wfByText (OpenSpec.ofChange Rows.nameSortedSpec) = true := by kernel_rfl
theorem lst : (Rows.nameSortedRow.laid.all fun x => Rows.nameSortedRow.namedList.contains x.1) = true := by kernel_rfl
theorem res : Tryz.f15.resultTypes.toList = [4] := by kernel_rfl
theorem noMap : Tryz.prog.mapsAmong [4] = false := by
  unfold Program.mapsAmong
  simp only [List.foldlM_cons, List.foldlM_nil, Program.noMapFrom, Tryz.underlying4]
  rfl
theorem k0 : (Rows.nameSortedRow.wf (OpenSpec.ofChange Rows.nameSortedSpec)) = true := (OpenClaim.wfByText_eq_wf lst).symm.trans wft
theorem k1 : (laidOutB Tryz.prog) = true := three.1
theorem k2 : (mapsRowed Tryz.prog) = true := three.2.1
theorem k3 : (Tryz.f15.params.all (Tryz.prog.readableRec ·)) = true := by kernel_rfl
theorem k4 : (namedTie Tryz.prog Rows.nameSortedRow.named Rows.nameSortedSpec.vars) = true := by kernel_rfl
theorem k5 : ((Rows.nameSortedRow.stops == [])) = true := by kernel_rfl
theorem k6 : ((Tryz.prog.stops == [])) = true := by kernel_rfl
theorem k7 : ((Rows.nameSortedRow.knobs == [])) = true := by kernel_rfl
theorem k8 : ((Tryz.prog.stopKnobs == [])) = true := by kernel_rfl
theorem k9 : ((Rows.nameSortedRow.inPlace == Tryz.prog.inPlace 15)) = true := by kernel_rfl
theorem k10 : ((Rows.nameSortedRow.unfollowed == Tryz.prog.unfollowed 15)) = true := by kernel_rfl
theorem k11 : ((Rows.nameSortedRow.recurses == Tryz.prog.recurses 15)) = true := by kernel_rfl
theorem k12 : ((Rows.nameSortedRow.named == Tryz.prog.varsNamed 15)) = true := by kernel_rfl
theorem k13 : ((Rows.nameSortedRow.maps == (Tryz.f15.params.toList ++ Rows.nameSortedSpec.plain.varTypes Tryz.prog).any (Tryz.prog.mapsRec ·))) = true := by kernel_rfl
theorem k14 : ((Rows.nameSortedRow.ifaces == (Tryz.f15.params.toList ++ Rows.nameSortedSpec.plain.varTypes Tryz.prog).any (Tryz.prog.ifacesRec ·))) = true := by kernel_rfl
theorem k15 : ((Rows.nameSortedRow.mapsOut == Tryz.prog.mapsAmong Tryz.f15.resultTypes.toList)) = true := by
  rw [res, noMap]
  rfl
theorem k16 : ((Rows.nameSortedRow.loops == (Tryz.f15.params.toList ++ Rows.nameSortedSpec.plain.varTypes Tryz.prog).any (Tryz.prog.loopsFrom ·))) = true := by kernel_rfl
theorem k17 : ((Rows.nameSortedRow.wideKeys == (Tryz.f15.params.toList ++ Rows.nameSortedSpec.plain.varTypes Tryz.prog ++ Tryz.f15.resultTypes.toList).any (Tryz.prog.wideKeysFrom ·))) = true := by kernel_rfl
theorem k18 : (Rows.nameSortedSpec.vars.all (Tryz.prog.varReadable ·)) = true := by kernel_rfl
theorem k19 : (Tryz.f15.resultTypes.all (fun t => Tryz.prog.readableRec t && decide (t < Tryz.prog.types.size))) = true := by kernel_rfl
theorem k20 : ((Rows.nameSortedRow.ifacesOut == Tryz.f15.resultTypes.toList.any (Tryz.prog.ifacesRec ·))) = true := by kernel_rfl
theorem k21 : ((Rows.nameSortedRow.loopsOut == Tryz.f15.resultTypes.toList.any (Tryz.prog.loopsFrom ·))) = true := by kernel_rfl
theorem k22 : ((Rows.nameSortedRow.plainKeys == Tryz.prog.plainKeys)) = true := by
  rw [show Tryz.prog.plainKeys = true from three.2.2]
  rfl
theorem k23 : (Rows.nameSortedRow.shortTexts.isNone) = true := by kernel_rfl
theorem k24 : (Tryz.prog.stopsHeard) = true := by kernel_rfl
theorem k25 : (Tryz.prog.mayEnter) = true := by kernel_rfl
theorem k26 : ((Rows.nameSortedRow.lifted == Tryz.prog.liftsFinal)) = true := by kernel_rfl
theorem k27 : ((Tryz.prog.make == some Rows.nameSortedRow.make)) = true := by kernel_rfl
theorem k28 : ((Rows.nameSortedRow.kinds == (if Rows.nameSortedRow.domain.isEmpty then [] else Tryz.f15.params.toList.map fun t => match Tryz.prog.underlying t with | some (.int k) => some k | _ => none))) = true := by kernel_rfl
theorem k29 : ((Rows.nameSortedRow.pinned == Rows.nameSortedRow.pinnedBy)) = true := by kernel_rfl
theorem k30 : ((Rows.nameSortedRow.veiled == (Tryz.f15.params.toList ++ Rows.nameSortedSpec.plain.varTypes Tryz.prog ++ Tryz.f15.resultTypes.toList).any (Tryz.prog.veiledRec ·))) = true := by kernel_rfl
theorem k31 : (Rows.nameSortedRow.veiledFits Tryz.prog Tryz.f15.params.toList (Tryz.f15.params.toList ++ Rows.nameSortedSpec.plain.varTypes Tryz.prog ++ Tryz.f15.resultTypes.toList)) = true := by kernel_rfl
set_option maxRecDepth 100000 in
theorem closed : joinedFacts Tryz.prog 15 Tryz.f15 Rows.nameSortedSpec Rows.nameSortedRow = true := by
  unfold joinedFacts
  exact both (both (both (both (both (both (both (both (both (both (both (both (both (both (both (both (both (both (both (both (both (both (both (both (both (both (both (both (both (both (both (k0) k1) k2) k3) k4) k5) k6) k7) k8) k9) k10) k11) k12) k13) k14) k15) k16) k17) k18) k19) k20) k21) k22) k23) k24) k25) k26) k27) k28) k29) k30) k31
theorem over : Rows.nameSortedRow.holds Tryz.pinned (OpenSpec.ofChange Rows.nameSortedSpec) :=
  OpenClaim.holds_of_wide 15 Tryz.f15 rfl rfl rfl rfl rfl rfl rfl ⟨rfl, rfl, rfl, rfl, rfl⟩ rfl rfl rfl rfl rfl (by kernel_rfl) Tryz.func15 closed
    (of_decide_eq_true (by kernel_rfl)) (by unfold Func.isWrapper; rw [if_neg (of_decide_eq_false (by kernel_rfl))]; exact ⟨rfl, rfl⟩)
    (fun os started H enc _ => lifted os started H enc)
theorem c_name : Tryz.prog.funcNamed "wayzgoose/wayzgooselaw03.NameSorted" = some 15 := by kernel_rfl
theorem c_stand : (([23] : List Nat).all fun u => !Tryz.prog.wantsStandIn u) = true := by kernel_rfl
theorem c_goes : false = Rows.nameSortedRow.goesBy Tryz.prog := by kernel_rfl
theorem card_holds : Rows.NameSortedCardSaid :=
  Claim7.holds_tied_plain_at .later [] [.data, .pinned, .pinned] true (true, "a35d37acb85f02e289d456e8645a9ced817af87ed611251526dd2826b257aa82") true over (fun _ h => by cases h) wft (fun _ h => by cases h) nameSorted_row_tie rfl ⟨rfl, rfl⟩ c_main rfl
    (fun g fn hg hgn => by
      obtain rfl : g = 15 := Option.some.inj (c_name.symm.trans hg) |>.symm
      obtain rfl : fn = Tryz.f15 := (Option.some.inj (Tryz.func15.symm.trans hgn)).symm
      exact ⟨c_looks, fun j t ht => by
        rw [Tryz.params15] at ht
        have hm : t ∈ ([23] : List Nat) := by simpa using Array.mem_of_getElem? ht
        exact (show Tryz.prog.wantsStandIn t = false by simpa using List.all_eq_true.1 c_stand t hm)⟩)
    c_goes
#print axioms card_holds
end Go.Proofs.YtapikimhmjnjeaaGreatDoor.nameSorted
namespace Go.Proofs.YtapikimhmjnjeaaGreatDoor
/-- The card, under a short name, for the claim. -/
theorem nameSorted_card : Rows.NameSortedCardSaid := nameSorted.card_holds
end Go.Proofs.YtapikimhmjnjeaaGreatDoor

