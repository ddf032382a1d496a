/- Part 24 of the texts of a claim, joined by a program of ours (Mm25). No condition. -/
import Derived.Test.YtaaajjinpppgeaaGreatDoorP4aw
set_option linter.unusedVariables false
set_option linter.unusedSimpArgs false
set_option linter.unusedSectionVars false
namespace Go.Proofs.YtaaajjinpppgeaaGreatDoor
open Go Go.Abs
set_option maxRecDepth 100000
def A25 : List AV := [D36, (.int .i64 (.ofNat 5))]
def R25 : AV := D37
theorem m25 : E TB 51 A25 [] = some (R25, []) := crun_ok tblB_ok (fuel := 5000) (n := 60) (by kernel_rfl)
end Go.Proofs.YtaaajjinpppgeaaGreatDoor
