/- FnExactMendRest returns true for every input, and leaves it as it was. No condition. -/
import Derived.Test.YtaaajjinpppgeaaGreatRows
import Derived.Test.YtaaajjinpppgeaaGreatQ4
import Derived.Test.YtaaajjinpppgeaaGreatWd
import Derived.ProofKit
set_option linter.unusedVariables false
set_option linter.unusedSimpArgs false
set_option linter.unusedSectionVars false
namespace Go.Proofs.YtaaajjinpppgeaaGreat
open Go Go.Abs Go.ChangeShapes Go.WideShapes Go.ChangeAt Go.RowKit
set_option maxRecDepth 100000 in
theorem liftedFnExactMendRest (os : Os) (started : os.Started) (H : Type) (enc : TypeId × Value → H) :
    ReturnsInHanded {} Tryz.checked os 4 .any (Rows.fnExactMendRestSpec.pre6 enc Tryz.prog Tryz.f4 Rows.fnExactMendRestRow.domain false) (Rows.fnExactMendRestSpec.post enc Tryz.prog Tryz.f4 false true false false) := by
  refine returnsInHanded_of_change (C := Tryz.checked) own started (by kernel_rfl) Tryz.func4
    (ChangeSpec.witness6 (enc := enc) (C := Tryz.checked) false ⟨#[], #[.agg #[.slice none 0 0, .slice none 0 0, .slice none 0 0, .slice none 0 0]], []⟩ 8 (by kernel_rfl) (by kernel_rfl) (by kernel_rfl) (by kernel_rfl)) ?_
  intro W base args ds gs before hval hW _ _
  obtain ⟨p, q, hA, hV, e, _, _⟩ := id hW
  refine (row_calls (P := Tryz.prog) (W := W) (n := 12) (shps := shFnExactMendRest) (fun avs h => calls (isFnExactMendRest h)) (ts := Tryz.f4.params.toList) (by kernel_rfl) (fun j t v h1 h2 => hval j t v (by simpa using h1) h2) hA).mono fun e W' ⟨he, hb⟩ => ?_
  refine ⟨_, he, row_post (tb := Tryz.f4.resultTypes.toList.headD 0) laidOut ?_ rfl (by kernel_rfl) (by kernel_rfl) ?_ hW hb⟩
  · exact List.all_eq_true.1 (show Tryz.f4.params.toList.all (fun t => Tryz.prog.readableRec t && decide (t < Tryz.prog.types.size)) = true by kernel_rfl) |> fun h t ht => by simpa using h t ht
  · have hl := trod_len hA
    match ds, hl with
    | [d0], _ => rfl
set_option maxHeartbeats 4000000 in
theorem factsFnExactMendRest : joinedFacts Tryz.prog 4 Tryz.f4 Rows.fnExactMendRestSpec Rows.fnExactMendRestRow = true :=
  facts_of (by kernel_rfl) laidOut f_maps (by kernel_rfl) (by kernel_rfl) rfl f_stops rfl f_knobs (by as_aux_lemma => kernel_rfl) (by as_aux_lemma => kernel_rfl) (by as_aux_lemma => kernel_rfl) (by as_aux_lemma => kernel_rfl)
    (by kernel_rfl) (by kernel_rfl) (by kernel_rfl) (by kernel_rfl) (by kernel_rfl) rfl (by kernel_rfl) (by kernel_rfl) (by kernel_rfl) f_plain rfl f_heard f_mayEnter (by rw [f_liftsFinal]; rfl) (by rw [f_make]; rfl) rfl rfl rfl (by kernel_rfl) (by kernel_rfl)
theorem wrapFnExactMendRest : Tryz.f4.isWrapper Tryz.prog Rows.fnExactMendRestRow.wrapper Rows.fnExactMendRestRow.mainSum := by
  unfold Func.isWrapper; rw [if_neg (by decide +kernel)]; exact ⟨rfl, rfl⟩
set_option maxHeartbeats 4000000 in
theorem overFnExactMendRest : Rows.fnExactMendRestRow.holds Tryz.pinned (OpenSpec.ofChange Rows.fnExactMendRestSpec) :=
  OpenClaim.holds_of_wide 4 Tryz.f4 rfl rfl rfl rfl rfl rfl rfl ⟨rfl, rfl, rfl, rfl, rfl⟩ rfl rfl rfl rfl rfl (by as_aux_lemma => kernel_rfl) Tryz.func4 factsFnExactMendRest
    (by as_aux_lemma => exact of_decide_eq_true (by kernel_rfl)) wrapFnExactMendRest
    (fun os started H enc _ => liftedFnExactMendRest os started H enc)
theorem FnExactMendRest_holds : Rows.FnExactMendRestSaid := overFnExactMendRest
end Go.Proofs.YtaaajjinpppgeaaGreat
