/- FnExactUnmarked answers true for all arguments. Own work; no condition. -/
import Derived.Test.YtaaajjinpppgeaaMs
import Derived.Test.YtaaajjinpppgeaaGn
set_option linter.unusedVariables false
namespace Go.Proofs.Ytaaajjinpppgeaa
open Go Go.Abs
def shFnExactUnmarked : List Shp := [shD]
theorem isFnExactUnmarked {avs : List AV} (h : IsAs shFnExactUnmarked avs) : E T 18 avs [] = some (.bool true, []) := by
  cases h with | cons h1 h =>
  cases h
  obtain ⟨x1, rfl, hx1⟩ := isD h1
  exact e18 x1 hx1
end Go.Proofs.Ytaaajjinpppgeaa
