/- Part 18 of the texts of a claim, joined by a program of ours (Mm8). No condition. -/
import Derived.Test.YtaaajjinpppgeaaGreatDoorP4aq
set_option linter.unusedVariables false
set_option linter.unusedSimpArgs false
set_option linter.unusedSectionVars false
namespace Go.Proofs.YtaaajjinpppgeaaGreatDoor
open Go Go.Abs
set_option maxRecDepth 100000
def A8 : List AV := [D15, (.int .i64 (.ofNat 5))]
def R8 : AV := D16
theorem m8 : E TB 51 A8 [] = some (R8, []) := crun_ok tblB_ok (fuel := 5000) (n := 60) (by kernel_rfl)
end Go.Proofs.YtaaajjinpppgeaaGreatDoor
