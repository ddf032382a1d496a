/- The last part of the texts of a claim, joined by a program of ours; at its end stands the row: the law returns true for every input, and leaves it as it was. No condition. -/
import Derived.Test.YtaaajjinpppgeaaDoorP4ah
import Derived.Test.YtaaajjinpppgeaaDoorRows
import Derived.ProofKit
import Derived.Test.YtaaajjinpppgeaaDoorCards
import Derived.Test.YtaaajjinpppgeaaDoorTie
import Derived.OpenShut
import Derived.LaidMore
import Derived.Lay
import Derived.SevenTiedAt
import Derived.Stop.Joined
set_option linter.unusedVariables false
set_option linter.unusedSimpArgs false
set_option linter.unusedSectionVars false
namespace Go.Proofs.YtaaajjinpppgeaaDoor
open Go Go.RowKit
set_option maxRecDepth 100000
def headSigns : List Char := [.ofNat 104,.ofNat 97,.ofNat 114,.ofNat 110,.ofNat 101,.ofNat 115,.ofNat 115,.ofNat 32,.ofNat 100,.ofNat 98,.ofNat 51,.ofNat 97,.ofNat 54,.ofNat 49,.ofNat 100,.ofNat 56,.ofNat 56,.ofNat 98,.ofNat 52,.ofNat 52,.ofNat 99,.ofNat 53,.ofNat 53,.ofNat 49,.ofNat 98,.ofNat 98,.ofNat 99,.ofNat 57,.ofNat 98,.ofNat 55,.ofNat 53,.ofNat 48,.ofNat 51,.ofNat 54,.ofNat 50,.ofNat 51,.ofNat 48,.ofNat 100,.ofNat 97,.ofNat 97,.ofNat 48,.ofNat 51,.ofNat 53,.ofNat 98,.ofNat 98,.ofNat 56,.ofNat 48,.ofNat 101,.ofNat 48,.ofNat 99,.ofNat 57,.ofNat 101,.ofNat 101,.ofNat 56,.ofNat 48,.ofNat 100,.ofNat 54,.ofNat 52,.ofNat 53,.ofNat 97,.ofNat 54,.ofNat 54,.ofNat 97,.ofNat 56,.ofNat 99,.ofNat 99,.ofNat 53,.ofNat 98,.ofNat 97,.ofNat 100,.ofNat 54,.ofNat 102,.ofNat 32,.ofNat 99,.ofNat 117,.ofNat 116,.ofNat 32,.ofNat 97,.ofNat 116,.ofNat 32,.ofNat 108,.ofNat 111,.ofNat 111,.ofNat 112,.ofNat 46,.ofNat 101,.ofNat 120,.ofNat 97,.ofNat 109,.ofNat 112,.ofNat 108,.ofNat 101,.ofNat 47,.ofNat 103,.ofNat 48,.ofNat 48,.ofNat 50,.ofNat 51,.ofNat 53,.ofNat 47,.ofNat 108,.ofNat 97,.ofNat 119,.ofNat 115,.ofNat 46,.ofNat 70,.ofNat 110,.ofNat 69,.ofNat 120,.ofNat 97,.ofNat 99,.ofNat 116,.ofNat 83,.ofNat 112,.ofNat 108,.ofNat 105,.ofNat 116,.ofNat 80,.ofNat 97,.ofNat 116,.ofNat 104,.ofNat 32,.ofNat 108,.ofNat 111,.ofNat 111,.ofNat 112,.ofNat 46,.ofNat 101,.ofNat 120,.ofNat 97,.ofNat 109,.ofNat 112,.ofNat 108,.ofNat 101,.ofNat 47,.ofNat 103,.ofNat 48,.ofNat 48,.ofNat 50,.ofNat 51,.ofNat 53,.ofNat 47,.ofNat 108,.ofNat 97,.ofNat 119,.ofNat 115,.ofNat 46,.ofNat 70,.ofNat 110,.ofNat 77,.ofNat 97,.ofNat 110,.ofNat 121,.ofNat 78,.ofNat 97,.ofNat 109,.ofNat 101,.ofNat 115]
theorem head_text : Tryd.prog.initOrder = String.ofList headSigns := by kernel_rfl
theorem head_words : wordsSigns Tryd.prog.initOrder.toList = Go.Abs.wAcc headSigns [] [] := by
  rw [head_text, String.toList_ofList, Go.Abs.words_eq]
theorem head_behind : behindMainWord (wordsSigns Tryd.prog.initOrder.toList) = "cut".toList :: (Go.Abs.wAcc headSigns [] []).drop 3 := by
  rw [head_words]; kernel_rfl
theorem f_lays : Tryd.prog.laysLater = false := by kernel_rfl
theorem f_refl : Tryd.prog.bearsReflect = false := by kernel_rfl
theorem f_door : Tryd.prog.doorFits [] = true := by kernel_rfl
theorem f_mayEnter : Tryd.prog.mayEnter = true := Go.Abs.mayEnter_of head_behind f_lays f_refl f_door
theorem f_liftsFinal : Tryd.prog.liftsFinal = false := Go.Abs.liftsFinal_of head_behind
theorem f_make : Tryd.prog.make = some .cut := Go.Abs.make_of head_behind
theorem laidOut : laidOutB Tryd.prog = true := by kernel_rfl
theorem f_maps : mapsRowed Tryd.prog = true := by kernel_rfl
theorem f_stops : (Tryd.prog.stops == []) = true := by kernel_rfl
theorem f_knobs : (Tryd.prog.stopKnobs == []) = true := by kernel_rfl
theorem f_plain : (true == Tryd.prog.plainKeys) = true := by kernel_rfl
theorem f_heard : Tryd.prog.stopsHeard = true := by kernel_rfl
theorem own : ownKnob Tryd.prog.godebug = none := by kernel_rfl
end Go.Proofs.YtaaajjinpppgeaaDoor
namespace Go.Proofs.YtaaajjinpppgeaaDoor
open Go Go.Abs Go.ChangeShapes Go.WideShapes Go.ChangeAt Go.RowKit
set_option maxRecDepth 100000 in
theorem liftedFnManyNames (os : Os) (started : os.Started) (H : Type) (enc : TypeId × Value → H) :
    ReturnsInHanded {} Tryd.checked os 4 .any (fun w args => (Rows.fnManyNamesSpec.pre enc Tryd.prog Tryd.f4 Rows.fnManyNamesRow.domain false w args ∧ laidMetH Tryd.prog Rows.fnManyNamesRow.laid w) ∧ sizedMet enc Tryd.prog Tryd.f4 (OpenSpec.ofChange Rows.fnManyNamesSpec) false w args)
      (Rows.fnManyNamesSpec.post enc Tryd.prog Tryd.f4 false true false false) := by
  refine returnsInHanded_of_change_and (C := Tryd.checked) (X := fun w _ => laidMetH Tryd.prog Rows.fnManyNamesRow.laid w) (fun _ _ _ hh h => h.of_heap hh) own started (by kernel_rfl) Tryd.func4
    (ChangeSpec.witness_shaped (enc := enc) (C := Tryd.checked) (os := os) (X := fun w _ => laidMetH Tryd.prog Rows.fnManyNamesRow.laid w) false (World.laidAll Tryd.prog os Rows.fnManyNamesRow.laid) #[.slice none 0 0] 8 (World.laidAll_os _ _ _)
      (World.shaped_of_ZipB (by kernel_rfl) (by kernel_rfl)) (by kernel_rfl) (by kernel_rfl) (by kernel_rfl)
      (by rw [MakeChecks.laidMetH_plain _ _ _ (by kernel_rfl)]; exact laidMet_laidAll _ (by kernel_rfl) (by kernel_rfl))) ?_
  intro W base args ds gs before hval hW _ _ _ _
  obtain ⟨p, q, hA, hV, e, _, _⟩ := id hW
  refine (row_calls (P := Tryd.prog) (W := W) (n := 12) (shps := shFnManyNames) (fun avs h => calls (isFnManyNames h)) (ts := Tryd.f4.params.toList) (by kernel_rfl) (fun j t v h1 h2 => hval j t v (by simpa using h1) h2) hA).mono fun e W' ⟨he, hb⟩ => ?_
  refine ⟨_, he, row_post (tb := Tryd.f4.resultTypes.toList.headD 0) laidOut ?_ rfl (by kernel_rfl) (by kernel_rfl) ?_ hW hb⟩
  · exact List.all_eq_true.1 (show Tryd.f4.params.toList.all (fun t => Tryd.prog.readableRec t && decide (t < Tryd.prog.types.size)) = true by kernel_rfl) |> fun h t ht => by simpa using h t ht
  · have hl := trod_len hA
    match ds, hl with
    | [d0], _ => rfl
set_option maxHeartbeats 4000000 in
theorem factsFnManyNames : joinedFacts Tryd.prog 4 Tryd.f4 Rows.fnManyNamesSpec Rows.fnManyNamesRow = true :=
  facts_of (by kernel_rfl) laidOut f_maps (by kernel_rfl) (by kernel_rfl) rfl f_stops rfl f_knobs (by as_aux_lemma => kernel_rfl) (by as_aux_lemma => kernel_rfl) (by as_aux_lemma => kernel_rfl) (by as_aux_lemma => kernel_rfl)
    (by kernel_rfl) (by kernel_rfl) (by kernel_rfl) (by kernel_rfl) (by kernel_rfl) rfl (by kernel_rfl) (by kernel_rfl) (by kernel_rfl) f_plain rfl f_heard f_mayEnter (by rw [f_liftsFinal]; rfl) (by rw [f_make]; rfl) rfl rfl rfl (by kernel_rfl) (by kernel_rfl)
theorem wrapFnManyNames : Tryd.f4.isWrapper Tryd.prog Rows.fnManyNamesRow.wrapper Rows.fnManyNamesRow.mainSum := by
  unfold Func.isWrapper; rw [if_neg (by decide +kernel)]; exact ⟨rfl, rfl⟩
set_option maxHeartbeats 4000000 in
theorem overFnManyNames : Rows.fnManyNamesRow.holds Tryd.pinned (OpenSpec.ofChange Rows.fnManyNamesSpec) :=
  OpenClaim.holds_of_wide 4 Tryd.f4 rfl rfl rfl rfl rfl rfl rfl ⟨rfl, rfl, rfl, rfl, rfl⟩ rfl rfl rfl rfl rfl (by as_aux_lemma => kernel_rfl) Tryd.func4 factsFnManyNames
    (by as_aux_lemma => exact of_decide_eq_true (by kernel_rfl)) wrapFnManyNames
    (fun os started H enc _ => liftedFnManyNames os started H enc)
theorem FnManyNames_holds : Rows.FnManyNamesCardSaid :=
  Claim7.holds_tied_plain_at .later [] [.data, .pinned] true (true, "db3a61d88b44c551bbc9b75036230daa035bb80e0c9ee80d645a66a8cc5bad6f") false overFnManyNames (fun _ h => by cases h) (by kernel_rfl) (fun _ h => by cases h) fnManyNames_row_tie rfl ⟨rfl, rfl⟩ (by kernel_rfl) rfl
    (fun f fn hf hfn => by
      obtain rfl : f = 4 := Option.some.inj ((show Tryd.prog.funcNamed Rows.fnManyNamesRow.func = some 4 by kernel_rfl).symm.trans hf) |>.symm
      obtain rfl : fn = Tryd.f4 := (Option.some.inj (Tryd.func4.symm.trans hfn)).symm
      exact ⟨by kernel_rfl, fun j t ht => by
        have hm : t ∈ Tryd.f4.params.toList := by simpa using Array.mem_of_getElem? ht
        have hall : (Tryd.f4.params.toList.all fun u => !Tryd.prog.wantsStandIn u) = true := by kernel_rfl
        exact (show Tryd.prog.wantsStandIn t = false by simpa using List.all_eq_true.1 hall t hm)⟩)
    (by kernel_rfl)
end Go.Proofs.YtaaajjinpppgeaaDoor
