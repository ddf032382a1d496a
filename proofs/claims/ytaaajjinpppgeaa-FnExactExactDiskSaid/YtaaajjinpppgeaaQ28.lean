/- FnExactExactDisk answers true for all arguments. Own work; no condition. -/
import Derived.Test.YtaaajjinpppgeaaMs
import Derived.Test.YtaaajjinpppgeaaGy
set_option linter.unusedVariables false
namespace Go.Proofs.Ytaaajjinpppgeaa
open Go Go.Abs
def shFnExactExactDisk : List Shp := [shD]
theorem isFnExactExactDisk {avs : List AV} (h : IsAs shFnExactExactDisk avs) : E T 28 avs [] = some (.bool true, []) := by
  cases h with | cons h1 h =>
  cases h
  obtain ⟨x1, rfl, hx1⟩ := isD h1
  exact e28 x1 hx1
end Go.Proofs.Ytaaajjinpppgeaa
