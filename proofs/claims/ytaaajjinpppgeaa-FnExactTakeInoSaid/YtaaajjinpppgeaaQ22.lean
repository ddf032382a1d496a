/- FnExactTakeIno answers true for all arguments. Own work; no condition. -/
import Derived.Test.YtaaajjinpppgeaaMs
import Derived.Test.YtaaajjinpppgeaaHc
set_option linter.unusedVariables false
namespace Go.Proofs.Ytaaajjinpppgeaa
open Go Go.Abs
def shFnExactTakeIno : List Shp := [shM]
theorem isFnExactTakeIno {avs : List AV} (h : IsAs shFnExactTakeIno avs) : E T 22 avs [] = some (.bool true, []) := by
  cases h with | cons h1 h =>
  cases h
  obtain ⟨x1, rfl, hx1⟩ := isM h1
  exact e22 x1 hx1
end Go.Proofs.Ytaaajjinpppgeaa
