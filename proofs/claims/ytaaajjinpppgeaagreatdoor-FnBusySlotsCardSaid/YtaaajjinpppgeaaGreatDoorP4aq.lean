/- Part 17 of the texts of a claim, joined by a program of ours (Mm7). No condition. -/
import Derived.Test.YtaaajjinpppgeaaGreatDoorP4ap
set_option linter.unusedVariables false
set_option linter.unusedSimpArgs false
set_option linter.unusedSectionVars false
namespace Go.Proofs.YtaaajjinpppgeaaGreatDoor
open Go Go.Abs
set_option maxRecDepth 100000
def A7 : List AV := [D13, (.int .i64 (.ofNat 1))]
def R7 : AV := D14
theorem m7 : E TB 51 A7 [] = some (R7, []) := crun_ok tblB_ok (fuel := 5000) (n := 60) (by kernel_rfl)
end Go.Proofs.YtaaajjinpppgeaaGreatDoor
