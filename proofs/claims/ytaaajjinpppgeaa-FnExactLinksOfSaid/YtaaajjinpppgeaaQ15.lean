/- FnExactLinksOf answers true for all arguments. Own work; no condition. -/
import Derived.Test.YtaaajjinpppgeaaMs
import Derived.Test.YtaaajjinpppgeaaGf
set_option linter.unusedVariables false
namespace Go.Proofs.Ytaaajjinpppgeaa
open Go Go.Abs
def shFnExactLinksOf : List Shp := [shD, .int .i64]
theorem isFnExactLinksOf {avs : List AV} (h : IsAs shFnExactLinksOf avs) : E T 15 avs [] = some (.bool true, []) := by
  cases h with | cons h1 h =>
  cases h with | cons h2 h =>
  cases h
  obtain ⟨x1, rfl, hx1⟩ := isD h1
  obtain ⟨cs, h2, rfl⟩ := h2
  cases h2 with | int hw2 =>
  rename_i n2
  have hb2 : -9223372036854775808 ≤ n2 ∧ n2 ≤ 9223372036854775807 := by
    have h3 : decide (IntKind.i64.min ≤ n2) = true ∧ decide (n2 ≤ IntKind.i64.max) = true := by simpa [Lit.wf] using hw2
    have e1 : IntKind.i64.min = -9223372036854775808 := by decide
    have e2 : IntKind.i64.max = 9223372036854775807 := by decide
    rw [e1, e2] at h3
    exact ⟨of_decide_eq_true h3.1, of_decide_eq_true h3.2⟩
  exact e15 x1 hx1 n2 hb2
end Go.Proofs.Ytaaajjinpppgeaa
