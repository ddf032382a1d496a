/- FnExactMemOk answers true for all arguments. Own work; no condition. -/
import Derived.Test.YtaaajjinpppgeaaMs
import Derived.Test.YtaaajjinpppgeaaOj
set_option linter.unusedVariables false
namespace Go.Proofs.Ytaaajjinpppgeaa
open Go Go.Abs
def shFnExactMemOk : List Shp := [shM]
theorem isFnExactMemOk {avs : List AV} (h : IsAs shFnExactMemOk avs) : E T 9 avs [] = some (.bool true, []) := by
  cases h with | cons h1 h =>
  cases h
  obtain ⟨x1, rfl, hx1⟩ := isM h1
  exact e9 x1 hx1
end Go.Proofs.Ytaaajjinpppgeaa
