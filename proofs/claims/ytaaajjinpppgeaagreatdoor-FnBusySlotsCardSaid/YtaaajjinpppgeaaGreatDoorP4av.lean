/- Part 22 of the texts of a claim, joined by a program of ours (Mm16). No condition. -/
import Derived.Test.YtaaajjinpppgeaaGreatDoorP4au
set_option linter.unusedVariables false
set_option linter.unusedSimpArgs false
set_option linter.unusedSectionVars false
namespace Go.Proofs.YtaaajjinpppgeaaGreatDoor
open Go Go.Abs
set_option maxRecDepth 100000
def A16 : List AV := [D26, (.int .i64 (.ofNat 0))]
def R16 : AV := D27
theorem m16 : E TB 51 A16 [] = some (R16, []) := crun_ok tblB_ok (fuel := 5000) (n := 60) (by kernel_rfl)
end Go.Proofs.YtaaajjinpppgeaaGreatDoor
