/- Part 10 of the texts of a claim, joined by a program of ours (Mm0). No condition. -/
import Derived.Test.YtaaajjinpppgeaaGreatDoorP4ai
set_option linter.unusedVariables false
set_option linter.unusedSimpArgs false
set_option linter.unusedSectionVars false
namespace Go.Proofs.YtaaajjinpppgeaaGreatDoor
open Go Go.Abs
set_option maxRecDepth 100000
def A0 : List AV := []
def R0 : AV := D0
theorem m0 : E TB 7 A0 [] = some (R0, []) := crun_ok tblB_ok (fuel := 5000) (n := 60) (by kernel_rfl)
end Go.Proofs.YtaaajjinpppgeaaGreatDoor
