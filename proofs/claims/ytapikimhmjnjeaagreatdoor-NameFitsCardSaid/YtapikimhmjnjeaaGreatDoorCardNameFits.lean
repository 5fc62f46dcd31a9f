/- The law NameFits holds: for every input the call returns true, and each argument reads afterwards as it read before; the row's listed variables are tied to the program's text. -/
import Derived.Test.YtapikimhmjnjeaaGreatDoorRows
import Derived.Test.YtapikimhmjnjeaaGreatDoorFitsW
import Derived.Test.YtapikimhmjnjeaaGreatDoorLawKit
import Derived.Test.YtapikimhmjnjeaaGreatDoorCards
import Derived.Test.YtapikimhmjnjeaaGreatDoorTie
import Derived.Test.YtapikimhmjnjeaaGreatDoorLaid
import Derived.LaidMore
import Derived.Lay
import Derived.Stop.Joined
import Derived.SevenTiedAt
import Derived.ClosedOfChecked
import Derived.WalkKit
import Derived.ProofKit
import Derived.OpenShut
import Derived.ShutString
import Derived.ChangeOld
import Derived.Below
import Derived.SizedLaws
/- The law NameFits holds: for every input the call returns true, and each argument reads afterwards as it read before; the row's listed variables are tied to the program's text. -/
namespace Go.Proofs.YtapikimhmjnjeaaGreatDoor.nameFits
open Go.ChangeShapes Go.WideShapes Go.ChangeAt Go.RowKit
open Go.ChangeMaps (open_string shut_string)
set_option linter.unusedVariables false
open Go.Proofs.YtapikimhmjnjeaaGreatDoorW
theorem laidOut : laidOutB Tryz.prog = true := three.1
set_option maxRecDepth 100000 in
theorem lifted (os : Os) (started : os.Started) (H : Type) (enc : TypeId × Value → H) :
    ReturnsInHanded {} Tryz.checked os 3 .any (fun w args => (Rows.nameFitsSpec.pre enc Tryz.prog Tryz.f3 Rows.nameFitsRow.domain false w args ∧ laidMetH Tryz.prog laid3 w) ∧ sizedMet enc Tryz.prog Tryz.f3 (OpenSpec.ofChange Rows.nameFitsSpec) false w args) (Rows.nameFitsSpec.post enc Tryz.prog Tryz.f3 false true false false) := by
  refine returnsInHanded_of_change_and (C := Tryz.checked) (X := fun w _ => laidMetH Tryz.prog laid3 w) (fun _ _ _ hh h => h.of_heap hh) own started (by kernel_rfl) Tryz.func3
    (ChangeSpec.witness_shaped (enc := enc) (C := Tryz.checked) (os := os) (X := fun w _ => laidMetH Tryz.prog laid3 w) false (World.laidAll Tryz.prog os laid3) #[.slice none 0 0, .int .i64 0, .int .i64 0, .slice none 0 0] 8 (World.laidAll_os _ _ _)
      (laid3_shaped os _) (by kernel_rfl) (by kernel_rfl) (by kernel_rfl) (laid3_met os _)) ?_
  intro W base args ds gs before hval0 hW hcnd hsz0 hL _
  have hsz : (DataW.weightsEach Tryz.prog (Tryz.f3.params.toList ++ Rows.nameFitsSpec.plain.varTypes Tryz.prog) (ds ++ gs)).all (· ≤ reachBytes) = true := hsz0
  have hval : ∀ (j : Nat) t v, Tryz.f3.params[j]? = some t → args[j]? = some v → Value.okWide Tryz.prog W .any base t v := hval0
  have hW' := hW
  obtain ⟨p, q, hA0, hV, rfl, hfz, hnd⟩ := hW
  have hA : DataW.TrodAll enc Tryz.prog W 0 (fun _ => true) true Tryz.f3.params.toList args.toList ds p := hA0
  rw [Tryz.params3] at hA hval hsz
  obtain ⟨v0, vs0, d0, ds0, p0, q0, hargs, rfl, rfl, h0, r0⟩ := trodAll_cons hA
  obtain ⟨v1, vs1, d1, ds1, p1, q1, rfl, rfl, rfl, h1, r1⟩ := trodAll_cons r0
  obtain ⟨v2, vs2, d2, ds2, p2, q2, rfl, rfl, rfl, h2, r2⟩ := trodAll_cons r1
  obtain ⟨v3, vs3, d3, ds3, p3, q3, rfl, rfl, rfl, h3, r3⟩ := trodAll_cons r2
  obtain ⟨rfl, rfl, rfl⟩ := trodAll_nil r3
  obtain rfl : args = #[v0, v1, v2, v3] := by cases args; simp_all
  obtain ⟨rfl, rfl⟩ := trodVars_none hV
  obtain ⟨a0, len0, cap0, rfl⟩ := okWide_slice Tryz.underlying22 (hval 0 22 v0 rfl rfl)
  have k0 := h0
  have lt0 : ∀ x ∈ p0, x.block < W.heap.size := by obtain ⟨m, hm⟩ := k0; exact DataW.trod_lt m _ _ _ hm
  obtain ⟨l0, rfl, hC0, hc0, hm0, hs0⟩ := strs_open k0 Tryz.underlying22 Tryz.underlying9 (by kernel_rfl)
  obtain ⟨a1, rfl, rfl, rfl, w1⟩ := open_int Tryz.underlying3 (hval 1 3 v1 rfl rfl) h1
  obtain ⟨a2, rfl, rfl, rfl, w2⟩ := open_int Tryz.underlying3 (hval 2 3 v2 rfl rfl) h2
  obtain ⟨a3, len3, cap3, rfl⟩ := okWide_slice Tryz.underlying23 (hval 3 23 v3 rfl rfl)
  have k3 := h3
  have lt3 : ∀ x ∈ p3, x.block < W.heap.size := by obtain ⟨m, hm⟩ := k3; exact DataW.trod_lt m _ _ _ hm
  obtain ⟨l3, rfl, hC3, hc3, hm3⟩ := ints_open k3 Tryz.underlying23 Tryz.underlying3 (by kernel_rfl)
  clear hA0 hval0 hsz0 hsz
  refine (Pure.NameFits a0 cap0 l0 hC0 hc0 hm0 hs0 a1 a2 a3 cap3 l3 hC3 hc3 hm3).mono fun e W' ⟨he, bel⟩ => ?_
  subst he
  exact ⟨_, rfl, _, _, _, [], _, [], hW', trodAll_mk1 (shut_bool Tryz.underlying4 _), (trodAll_cons_mk (Below.trod laidOut (by kernel_rfl) (of_decide_eq_true (by kernel_rfl)) k0 bel lt0) (trodAll_cons_mk (shut_int Tryz.underlying3 w1) (trodAll_cons_mk (shut_int Tryz.underlying3 w2) (trodAll_cons_mk (Below.trod laidOut (by kernel_rfl) (of_decide_eq_true (by kernel_rfl)) k3 bel lt3) trodAll_mk0)))), rfl, bel.frame _, fun h => by cases h⟩
theorem both {a b : Bool} (h : a = true) (h2 : b = true) : (a && b) = true := by rw [h, h2]; rfl
theorem wft : Rows.nameFitsRow.wfByText (OpenSpec.ofChange Rows.nameFitsSpec) = true := by kernel_rfl
theorem lst : (Rows.nameFitsRow.laid.all fun x => Rows.nameFitsRow.namedList.contains x.1) = true := by kernel_rfl
theorem res : Tryz.f3.resultTypes.toList = [4] := by kernel_rfl
theorem noMap : Tryz.prog.mapsAmong [4] = false := by
  unfold Program.mapsAmong
  simp only [List.foldlM_cons, List.foldlM_nil, Program.noMapFrom, Tryz.underlying4]
  rfl
theorem k0 : (Rows.nameFitsRow.wf (OpenSpec.ofChange Rows.nameFitsSpec)) = true := (OpenClaim.wfByText_eq_wf lst).symm.trans wft
theorem k1 : (laidOutB Tryz.prog) = true := three.1
theorem k2 : (mapsRowed Tryz.prog) = true := three.2.1
theorem k3 : (Tryz.f3.params.all (Tryz.prog.readableRec ·)) = true := by kernel_rfl
theorem k4 : (namedTie Tryz.prog Rows.nameFitsRow.named Rows.nameFitsSpec.vars) = true := by kernel_rfl
theorem k5 : ((Rows.nameFitsRow.stops == [])) = true := by kernel_rfl
theorem k6 : ((Tryz.prog.stops == [])) = true := by kernel_rfl
theorem k7 : ((Rows.nameFitsRow.knobs == [])) = true := by kernel_rfl
theorem k8 : ((Tryz.prog.stopKnobs == [])) = true := by kernel_rfl
theorem k9 : ((Rows.nameFitsRow.inPlace == Tryz.prog.inPlace 3)) = true := by kernel_rfl
theorem k10 : ((Rows.nameFitsRow.unfollowed == Tryz.prog.unfollowed 3)) = true := by kernel_rfl
theorem k11 : ((Rows.nameFitsRow.recurses == Tryz.prog.recurses 3)) = true := by kernel_rfl
theorem k12 : ((Rows.nameFitsRow.named == Tryz.prog.varsNamed 3)) = true := by kernel_rfl
theorem k13 : ((Rows.nameFitsRow.maps == (Tryz.f3.params.toList ++ Rows.nameFitsSpec.plain.varTypes Tryz.prog).any (Tryz.prog.mapsRec ·))) = true := by kernel_rfl
theorem k14 : ((Rows.nameFitsRow.ifaces == (Tryz.f3.params.toList ++ Rows.nameFitsSpec.plain.varTypes Tryz.prog).any (Tryz.prog.ifacesRec ·))) = true := by kernel_rfl
theorem k15 : ((Rows.nameFitsRow.mapsOut == Tryz.prog.mapsAmong Tryz.f3.resultTypes.toList)) = true := by
  rw [res, noMap]
  rfl
theorem k16 : ((Rows.nameFitsRow.loops == (Tryz.f3.params.toList ++ Rows.nameFitsSpec.plain.varTypes Tryz.prog).any (Tryz.prog.loopsFrom ·))) = true := by kernel_rfl
theorem k17 : ((Rows.nameFitsRow.wideKeys == (Tryz.f3.params.toList ++ Rows.nameFitsSpec.plain.varTypes Tryz.prog ++ Tryz.f3.resultTypes.toList).any (Tryz.prog.wideKeysFrom ·))) = true := by kernel_rfl
theorem k18 : (Rows.nameFitsSpec.vars.all (Tryz.prog.varReadable ·)) = true := by kernel_rfl
theorem k19 : (Tryz.f3.resultTypes.all (fun t => Tryz.prog.readableRec t && decide (t < Tryz.prog.types.size))) = true := by kernel_rfl
theorem k20 : ((Rows.nameFitsRow.ifacesOut == Tryz.f3.resultTypes.toList.any (Tryz.prog.ifacesRec ·))) = true := by kernel_rfl
theorem k21 : ((Rows.nameFitsRow.loopsOut == Tryz.f3.resultTypes.toList.any (Tryz.prog.loopsFrom ·))) = true := by kernel_rfl
theorem k22 : ((Rows.nameFitsRow.plainKeys == Tryz.prog.plainKeys)) = true := by
  rw [show Tryz.prog.plainKeys = true from three.2.2]
  rfl
theorem k23 : (Rows.nameFitsRow.shortTexts.isNone) = true := by kernel_rfl
theorem k24 : (Tryz.prog.stopsHeard) = true := by kernel_rfl
theorem k25 : (Tryz.prog.mayEnter) = true := by kernel_rfl
theorem k26 : ((Rows.nameFitsRow.lifted == Tryz.prog.liftsFinal)) = true := by kernel_rfl
theorem k27 : ((Tryz.prog.make == some Rows.nameFitsRow.make)) = true := by kernel_rfl
theorem k28 : ((Rows.nameFitsRow.kinds == (if Rows.nameFitsRow.domain.isEmpty then [] else Tryz.f3.params.toList.map fun t => match Tryz.prog.underlying t with | some (.int k) => some k | _ => none))) = true := by kernel_rfl
theorem k29 : ((Rows.nameFitsRow.pinned == Rows.nameFitsRow.pinnedBy)) = true := by kernel_rfl
theorem k30 : ((Rows.nameFitsRow.veiled == (Tryz.f3.params.toList ++ Rows.nameFitsSpec.plain.varTypes Tryz.prog ++ Tryz.f3.resultTypes.toList).any (Tryz.prog.veiledRec ·))) = true := by kernel_rfl
theorem k31 : (Rows.nameFitsRow.veiledFits Tryz.prog Tryz.f3.params.toList (Tryz.f3.params.toList ++ Rows.nameFitsSpec.plain.varTypes Tryz.prog ++ Tryz.f3.resultTypes.toList)) = true := by kernel_rfl
set_option maxRecDepth 100000 in
theorem closed : joinedFacts Tryz.prog 3 Tryz.f3 Rows.nameFitsSpec Rows.nameFitsRow = true := by
  unfold joinedFacts
  exact both (both (both (both (both (both (both (both (both (both (both (both (both (both (both (both (both (both (both (both (both (both (both (both (both (both (both (both (both (both (both (k0) k1) k2) k3) k4) k5) k6) k7) k8) k9) k10) k11) k12) k13) k14) k15) k16) k17) k18) k19) k20) k21) k22) k23) k24) k25) k26) k27) k28) k29) k30) k31
theorem over : Rows.nameFitsRow.holds Tryz.pinned (OpenSpec.ofChange Rows.nameFitsSpec) :=
  OpenClaim.holds_of_wide 3 Tryz.f3 rfl rfl rfl rfl rfl rfl rfl ⟨rfl, rfl, rfl, rfl, rfl⟩ rfl rfl rfl rfl rfl (by kernel_rfl) Tryz.func3 closed
    (of_decide_eq_true (by kernel_rfl)) (by unfold Func.isWrapper; rw [if_neg (of_decide_eq_false (by kernel_rfl))]; exact ⟨rfl, rfl⟩)
    (fun os started H enc _ => lifted os started H enc)
theorem c_name : Tryz.prog.funcNamed "wayzgoose/wayzgooselaw03.NameFits" = some 3 := by kernel_rfl
theorem c_stand : (([22, 3, 3, 23] : List Nat).all fun u => !Tryz.prog.wantsStandIn u) = true := by kernel_rfl
theorem c_goes : false = Rows.nameFitsRow.goesBy Tryz.prog := by kernel_rfl
theorem card_holds : Rows.NameFitsCardSaid :=
  Claim7.holds_tied_plain_at .later [] [.data, .pinned, .pinned] true (true, "a35d37acb85f02e289d456e8645a9ced817af87ed611251526dd2826b257aa82") true over (fun _ h => by cases h) wft (fun _ h => by cases h) nameFits_row_tie rfl ⟨rfl, rfl⟩ c_main rfl
    (fun g fn hg hgn => by
      obtain rfl : g = 3 := Option.some.inj (c_name.symm.trans hg) |>.symm
      obtain rfl : fn = Tryz.f3 := (Option.some.inj (Tryz.func3.symm.trans hgn)).symm
      exact ⟨c_looks, fun j t ht => by
        rw [Tryz.params3] at ht
        have hm : t ∈ ([22, 3, 3, 23] : List Nat) := by simpa using Array.mem_of_getElem? ht
        exact (show Tryz.prog.wantsStandIn t = false by simpa using List.all_eq_true.1 c_stand t hm)⟩)
    c_goes
#print axioms card_holds
end Go.Proofs.YtapikimhmjnjeaaGreatDoor.nameFits
namespace Go.Proofs.YtapikimhmjnjeaaGreatDoor
/-- The card, under a short name, for the claim. -/
theorem nameFits_card : Rows.NameFitsCardSaid := nameFits.card_holds
end Go.Proofs.YtapikimhmjnjeaaGreatDoor

