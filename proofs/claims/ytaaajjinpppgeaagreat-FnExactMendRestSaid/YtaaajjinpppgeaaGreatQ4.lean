/- FnExactMendRest answers true for all arguments. Own work; no condition. -/
import Derived.Test.YtaaajjinpppgeaaGreatDs
import Derived.Test.YtaaajjinpppgeaaGreatHm
set_option linter.unusedVariables false
namespace Go.Proofs.YtaaajjinpppgeaaGreat
open Go Go.Abs
def shFnExactMendRest : List Shp := [shD]
theorem isFnExactMendRest {avs : List AV} (h : IsAs shFnExactMendRest avs) : E T 4 avs [] = some (.bool true, []) := by
  cases h with | cons h1 h =>
  cases h
  obtain ⟨x1, rfl, hx1⟩ := isD h1
  exact e4 x1 hx1
end Go.Proofs.YtaaajjinpppgeaaGreat
