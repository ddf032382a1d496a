/- Shared answers true for each disk. Own work; no condition. -/
import Derived.Test.YtaaajjinpppgeaaDs
import Derived.Test.YtaaajjinpppgeaaDf
namespace Go.Proofs.Ytaaajjinpppgeaa
open Go Go.Abs
def shFnExactShared : List Shp := [shD]
theorem isFnExactShared {avs : List AV} (h : IsAs shFnExactShared avs) : E T 5 avs [] = some (.bool true, []) := by
  cases h with | cons h1 h =>
  cases h
  obtain ⟨x, rfl, hx⟩ := isD h1
  exact e5 x hx
end Go.Proofs.Ytaaajjinpppgeaa
