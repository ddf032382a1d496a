/- Part 21 of the texts of a claim, joined by a program of ours (Mm15). No condition. -/
import Derived.Test.YtaaajjinpppgeaaGreatDoorP4at
set_option linter.unusedVariables false
set_option linter.unusedSimpArgs false
set_option linter.unusedSectionVars false
namespace Go.Proofs.YtaaajjinpppgeaaGreatDoor
open Go Go.Abs
set_option maxRecDepth 100000
def A15 : List AV := [D24, (.int .i64 (.ofNat 1))]
def R15 : AV := D25
theorem m15 : E TB 51 A15 [] = some (R15, []) := crun_ok tblB_ok (fuel := 5000) (n := 60) (by kernel_rfl)
end Go.Proofs.YtaaajjinpppgeaaGreatDoor
