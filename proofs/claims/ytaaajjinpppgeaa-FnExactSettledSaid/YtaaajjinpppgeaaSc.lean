/- Settled answers true for each memory. Own work; no condition. -/
import Derived.Test.YtaaajjinpppgeaaMs
import Derived.Test.YtaaajjinpppgeaaMb
namespace Go.Proofs.Ytaaajjinpppgeaa
open Go Go.Abs
def shFnExactSettled : List Shp := [shM]
theorem isFnExactSettled {avs : List AV} (h : IsAs shFnExactSettled avs) : E T 6 avs [] = some (.bool true, []) := by
  cases h with | cons h1 h =>
  cases h
  obtain ⟨x, rfl, hx⟩ := isM h1
  exact e6 x hx
end Go.Proofs.Ytaaajjinpppgeaa
