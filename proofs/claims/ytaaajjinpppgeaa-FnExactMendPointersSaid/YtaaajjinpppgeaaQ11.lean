/- FnExactMendPointers answers true for all arguments. Own work; no condition. -/
import Derived.Test.YtaaajjinpppgeaaMs
import Derived.Test.YtaaajjinpppgeaaRd
set_option linter.unusedVariables false
namespace Go.Proofs.Ytaaajjinpppgeaa
open Go Go.Abs
def shFnExactMendPointers : List Shp := [shD]
theorem isFnExactMendPointers {avs : List AV} (h : IsAs shFnExactMendPointers avs) : E T 11 avs [] = some (.bool true, []) := by
  cases h with | cons h1 h =>
  cases h
  obtain ⟨x1, rfl, hx1⟩ := isD h1
  exact e11 x1 hx1
end Go.Proofs.Ytaaajjinpppgeaa
