/- Part 13 of the texts of a claim, joined by a program of ours (Mm3). No condition. -/
import Derived.Test.YtaaajjinpppgeaaGreatDoorP4al
set_option linter.unusedVariables false
set_option linter.unusedSimpArgs false
set_option linter.unusedSectionVars false
namespace Go.Proofs.YtaaajjinpppgeaaGreatDoor
open Go Go.Abs
set_option maxRecDepth 100000
def A3 : List AV := [D5, (.int .i64 (.ofNat 0))]
def R3 : AV := D6
theorem m3 : E TB 51 A3 [] = some (R3, []) := crun_ok tblB_ok (fuel := 5000) (n := 60) (by kernel_rfl)
end Go.Proofs.YtaaajjinpppgeaaGreatDoor
