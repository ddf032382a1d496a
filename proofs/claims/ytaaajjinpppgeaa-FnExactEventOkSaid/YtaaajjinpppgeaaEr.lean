/- FnExactEventOk returns true for every input, and leaves it as it was. No condition. -/
import Derived.Test.YtaaajjinpppgeaaRows
import Derived.Test.YtaaajjinpppgeaaEo
import Derived.Test.YtaaajjinpppgeaaWd
import Derived.ProofKit
set_option linter.unusedVariables false
set_option linter.unusedSimpArgs false
set_option linter.unusedSectionVars false
namespace Go.Proofs.Ytaaajjinpppgeaa
open Go Go.Abs Go.ChangeShapes Go.WideShapes Go.ChangeAt Go.RowKit
def shE : List Shp := [.struct [.int .i64, .str, .str, .int .i64, .str]]
theorem isE {avs : List AV} (h : IsAs shE avs) : ∃ a b c d e, avs = [.agg [.int .i64 a, .str b, .str c, .int .i64 d, .str e]] ∧ b.size ≤ maxLen ∧ c.size ≤ maxLen ∧ e.size ≤ maxLen := by
  cases h with | cons h t =>
  cases t
  obtain ⟨cs, h, rfl⟩ := h
  cases h with | struct h =>
  cases h with | cons h1 h =>
  cases h with | cons h2 h =>
  cases h with | cons h3 h =>
  cases h with | cons h4 h =>
  cases h with | cons h5 h =>
  cases h
  cases h1; cases h2; cases h3; cases h4; cases h5
  exact ⟨_, _, _, _, _, rfl, by assumption, by assumption, by assumption⟩
set_option maxRecDepth 100000 in
theorem eventOk_lifted (os : Os) (started : os.Started) (H : Type) (enc : TypeId × Value → H) :
    ReturnsInHanded {} Try.checked os 3 .any (Rows.fnExactEventOkSpec.pre6 enc Try.prog Try.f3 Rows.fnExactEventOkRow.domain false) (Rows.fnExactEventOkSpec.post enc Try.prog Try.f3 false true false false) := by
  refine returnsInHanded_of_change (C := Try.checked) own started (by kernel_rfl) Try.func3
    (ChangeSpec.witness6 (enc := enc) (C := Try.checked) false ⟨#[], #[.agg #[.int .i64 0, .string ⟨#[]⟩, .string ⟨#[]⟩, .int .i64 0, .string ⟨#[]⟩]], []⟩ 8 (by kernel_rfl) (by kernel_rfl) (by kernel_rfl) (by kernel_rfl)) ?_
  intro W base args ds gs before hval hW _ _
  obtain ⟨p, q, hA, hV, e, _, _⟩ := id hW
  have hp : Try.f3.params.toList = [Try.f3.params.toList.headD 0] := by kernel_rfl
  refine (row_calls (P := Try.prog) (W := W) (n := 8) (shps := shE) (fun avs h => ?_) (ts := Try.f3.params.toList) (by kernel_rfl) (fun j t v h1 h2 => hval j t v (by simpa using h1) h2) hA).mono fun e W' ⟨he, hb⟩ => ?_
  · obtain ⟨a, b, c, d, e, rfl, h1, h2, h3⟩ := isE h
    exact calls (e3 a b c d e h1 h2 h3)
  · refine ⟨_, he, row_post (tb := Try.f3.resultTypes.toList.headD 0) laidOut ?_ rfl (by kernel_rfl) (by kernel_rfl) ?_ hW hb⟩
    · exact List.all_eq_true.1 (show Try.f3.params.toList.all (fun t => Try.prog.readableRec t && decide (t < Try.prog.types.size)) = true by kernel_rfl) |> fun h t ht => by simpa using h t ht
    · have hl := trod_len hA
      match ds, hl with
      | [d], _ => rfl
set_option maxHeartbeats 4000000 in
theorem eventOk_facts : joinedFacts Try.prog 3 Try.f3 Rows.fnExactEventOkSpec Rows.fnExactEventOkRow = true :=
  facts_of (by kernel_rfl) laidOut f_maps (by kernel_rfl) (by kernel_rfl) rfl f_stops rfl f_knobs (by as_aux_lemma => kernel_rfl) (by as_aux_lemma => kernel_rfl) (by as_aux_lemma => kernel_rfl) (by as_aux_lemma => kernel_rfl)
    (by kernel_rfl) (by kernel_rfl) (by kernel_rfl) (by kernel_rfl) (by kernel_rfl) rfl (by kernel_rfl) (by kernel_rfl) (by kernel_rfl) f_plain rfl f_heard f_mayEnter (by rw [f_liftsFinal]; rfl) (by rw [f_make]; rfl) rfl rfl rfl (by kernel_rfl) (by kernel_rfl)
theorem eventOk_wrap : Try.f3.isWrapper Try.prog Rows.fnExactEventOkRow.wrapper Rows.fnExactEventOkRow.mainSum := by
  unfold Func.isWrapper; rw [if_neg (by decide +kernel)]; exact ⟨rfl, rfl⟩
set_option maxHeartbeats 4000000 in
theorem eventOk_over : Rows.fnExactEventOkRow.holds Try.pinned (OpenSpec.ofChange Rows.fnExactEventOkSpec) :=
  OpenClaim.holds_of_wide 3 Try.f3 rfl rfl rfl rfl rfl rfl rfl ⟨rfl, rfl, rfl, rfl, rfl⟩ rfl rfl rfl rfl rfl (by as_aux_lemma => kernel_rfl) Try.func3 eventOk_facts
    (by as_aux_lemma => exact of_decide_eq_true (by kernel_rfl)) eventOk_wrap
    (fun os started H enc _ => eventOk_lifted os started H enc)
theorem eventOk_holds : Rows.FnExactEventOkSaid := eventOk_over
end Go.Proofs.Ytaaajjinpppgeaa
