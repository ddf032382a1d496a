/- FnExactWrongKind answers true for all arguments. Own work; no condition. -/
import Derived.Test.YtaaajjinpppgeaaMs
import Derived.Test.YtaaajjinpppgeaaGp
set_option linter.unusedVariables false
namespace Go.Proofs.Ytaaajjinpppgeaa
open Go Go.Abs
def shFnExactWrongKind : List Shp := [shD]
theorem isFnExactWrongKind {avs : List AV} (h : IsAs shFnExactWrongKind avs) : E T 16 avs [] = some (.bool true, []) := by
  cases h with | cons h1 h =>
  cases h
  obtain ⟨x1, rfl, hx1⟩ := isD h1
  exact e16 x1 hx1
end Go.Proofs.Ytaaajjinpppgeaa
