/- Part 26 of the texts of a claim, joined by a program of ours (Mm27). No condition. -/
import Derived.Test.YtaaajjinpppgeaaGreatDoorP4ay
set_option linter.unusedVariables false
set_option linter.unusedSimpArgs false
set_option linter.unusedSectionVars false
namespace Go.Proofs.YtaaajjinpppgeaaGreatDoor
open Go Go.Abs
set_option maxRecDepth 100000
def A27 : List AV := [D40, (.int .i64 (.ofNat 0))]
def R27 : AV := D41
theorem m27 : E TB 51 A27 [] = some (R27, []) := crun_ok tblB_ok (fuel := 5000) (n := 60) (by kernel_rfl)
end Go.Proofs.YtaaajjinpppgeaaGreatDoor
