/- FnExactReached answers true for all arguments. Own work; no condition. -/
import Derived.Test.YtaaajjinpppgeaaMs
import Derived.Test.YtaaajjinpppgeaaGd
set_option linter.unusedVariables false
namespace Go.Proofs.Ytaaajjinpppgeaa
open Go Go.Abs
def shFnExactReached : List Shp := [shD]
theorem isFnExactReached {avs : List AV} (h : IsAs shFnExactReached avs) : E T 23 avs [] = some (.bool true, []) := by
  cases h with | cons h1 h =>
  cases h
  obtain ⟨x1, rfl, hx1⟩ := isD h1
  exact e23 x1 hx1
end Go.Proofs.Ytaaajjinpppgeaa
