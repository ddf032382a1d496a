/- Part 15 of the texts of a claim, joined by a program of ours (Mm5). No condition. -/
import Derived.Test.YtaaajjinpppgeaaGreatDoorP4an
set_option linter.unusedVariables false
set_option linter.unusedSimpArgs false
set_option linter.unusedSectionVars false
namespace Go.Proofs.YtaaajjinpppgeaaGreatDoor
open Go Go.Abs
set_option maxRecDepth 100000
def A5 : List AV := [D9, (.int .i64 (.ofNat 2))]
def R5 : AV := D10
theorem m5 : E TB 51 A5 [] = some (R5, []) := crun_ok tblB_ok (fuel := 5000) (n := 60) (by kernel_rfl)
end Go.Proofs.YtaaajjinpppgeaaGreatDoor
