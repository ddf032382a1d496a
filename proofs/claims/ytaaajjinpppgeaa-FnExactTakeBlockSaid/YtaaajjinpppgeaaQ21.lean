/- FnExactTakeBlock answers true for all arguments. Own work; no condition. -/
import Derived.Test.YtaaajjinpppgeaaMs
import Derived.Test.YtaaajjinpppgeaaHc
set_option linter.unusedVariables false
namespace Go.Proofs.Ytaaajjinpppgeaa
open Go Go.Abs
def shFnExactTakeBlock : List Shp := [shM]
theorem isFnExactTakeBlock {avs : List AV} (h : IsAs shFnExactTakeBlock avs) : E T 21 avs [] = some (.bool true, []) := by
  cases h with | cons h1 h =>
  cases h
  obtain ⟨x1, rfl, hx1⟩ := isM h1
  exact e21 x1 hx1
end Go.Proofs.Ytaaajjinpppgeaa
