/- FnExactFsOk answers true for all arguments. Own work; no condition. -/
import Derived.Test.YtaaajjinpppgeaaVs
import Derived.Test.YtaaajjinpppgeaaVb
set_option linter.unusedVariables false
namespace Go.Proofs.Ytaaajjinpppgeaa
open Go Go.Abs
def shFnExactFsOk : List Shp := [shF]
theorem isFnExactFsOk {avs : List AV} (h : IsAs shFnExactFsOk avs) : E T 12 avs [] = some (.bool true, []) := by
  cases h with | cons h1 h =>
  cases h
  obtain ⟨x1, rfl, hx1⟩ := isF h1
  exact e12 x1 hx1
end Go.Proofs.Ytaaajjinpppgeaa
