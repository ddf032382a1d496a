/- FnExactShort answers true for all arguments. Own work; no condition. -/
import Derived.Test.YtaaajjinpppgeaaMs
import Derived.Test.YtaaajjinpppgeaaGl
set_option linter.unusedVariables false
namespace Go.Proofs.Ytaaajjinpppgeaa
open Go Go.Abs
def shFnExactShort : List Shp := [shD]
theorem isFnExactShort {avs : List AV} (h : IsAs shFnExactShort avs) : E T 17 avs [] = some (.bool true, []) := by
  cases h with | cons h1 h =>
  cases h
  obtain ⟨x1, rfl, hx1⟩ := isD h1
  exact e17 x1 hx1
end Go.Proofs.Ytaaajjinpppgeaa
