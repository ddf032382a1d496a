/- FnExactSafeDisk answers true for all arguments. Own work; no condition. -/
import Derived.Test.YtaaajjinpppgeaaMs
import Derived.Test.YtaaajjinpppgeaaGm
set_option linter.unusedVariables false
namespace Go.Proofs.Ytaaajjinpppgeaa
open Go Go.Abs
def shFnExactSafeDisk : List Shp := [shD]
theorem isFnExactSafeDisk {avs : List AV} (h : IsAs shFnExactSafeDisk avs) : E T 26 avs [] = some (.bool true, []) := by
  cases h with | cons h1 h =>
  cases h
  obtain ⟨x1, rfl, hx1⟩ := isD h1
  exact e26 x1 hx1
end Go.Proofs.Ytaaajjinpppgeaa
