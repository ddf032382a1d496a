/- Part 14 of the texts of a claim, joined by a program of ours (Mm4). No condition. -/
import Derived.Test.YtaaajjinpppgeaaGreatDoorP4am
set_option linter.unusedVariables false
set_option linter.unusedSimpArgs false
set_option linter.unusedSectionVars false
namespace Go.Proofs.YtaaajjinpppgeaaGreatDoor
open Go Go.Abs
set_option maxRecDepth 100000
def A4 : List AV := [D7, (.int .i64 (.ofNat 1))]
def R4 : AV := D8
theorem m4 : E TB 51 A4 [] = some (R4, []) := crun_ok tblB_ok (fuel := 5000) (n := 60) (by kernel_rfl)
end Go.Proofs.YtaaajjinpppgeaaGreatDoor
