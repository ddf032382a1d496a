/- Part 25 of the texts of a claim, joined by a program of ours (Mm26). No condition. -/
import Derived.Test.YtaaajjinpppgeaaGreatDoorP4ax
set_option linter.unusedVariables false
set_option linter.unusedSimpArgs false
set_option linter.unusedSectionVars false
namespace Go.Proofs.YtaaajjinpppgeaaGreatDoor
open Go Go.Abs
set_option maxRecDepth 100000
def A26 : List AV := [D38, (.int .i64 (.ofNat 2))]
def R26 : AV := D39
theorem m26 : E TB 51 A26 [] = some (R26, []) := crun_ok tblB_ok (fuel := 5000) (n := 60) (by kernel_rfl)
end Go.Proofs.YtaaajjinpppgeaaGreatDoor
