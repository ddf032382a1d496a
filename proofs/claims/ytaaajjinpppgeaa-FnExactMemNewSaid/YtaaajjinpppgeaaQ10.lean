/- FnExactMemNew answers true for all arguments. Own work; no condition. -/
import Derived.Test.YtaaajjinpppgeaaMs
import Derived.Test.YtaaajjinpppgeaaPb
set_option linter.unusedVariables false
namespace Go.Proofs.Ytaaajjinpppgeaa
open Go Go.Abs
def shFnExactMemNew : List Shp := [shD]
theorem isFnExactMemNew {avs : List AV} (h : IsAs shFnExactMemNew avs) : E T 10 avs [] = some (.bool true, []) := by
  cases h with | cons h1 h =>
  cases h
  obtain ⟨x1, rfl, hx1⟩ := isD h1
  exact e10 x1 hx1
end Go.Proofs.Ytaaajjinpppgeaa
