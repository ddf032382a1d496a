/- FnExactDangling answers true for all arguments. Own work; no condition. -/
import Derived.Test.YtaaajjinpppgeaaMs
import Derived.Test.YtaaajjinpppgeaaGk
set_option linter.unusedVariables false
namespace Go.Proofs.Ytaaajjinpppgeaa
open Go Go.Abs
def shFnExactDangling : List Shp := [shD]
theorem isFnExactDangling {avs : List AV} (h : IsAs shFnExactDangling avs) : E T 14 avs [] = some (.bool true, []) := by
  cases h with | cons h1 h =>
  cases h
  obtain ⟨x1, rfl, hx1⟩ := isD h1
  exact e14 x1 hx1
end Go.Proofs.Ytaaajjinpppgeaa
