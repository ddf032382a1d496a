/- Part 16 of the texts of a claim, joined by a program of ours (Mm6). No condition. -/
import Derived.Test.YtaaajjinpppgeaaGreatDoorP4ao
set_option linter.unusedVariables false
set_option linter.unusedSimpArgs false
set_option linter.unusedSectionVars false
namespace Go.Proofs.YtaaajjinpppgeaaGreatDoor
open Go Go.Abs
set_option maxRecDepth 100000
def A6 : List AV := [D11, (.int .i64 (.ofNat 5))]
def R6 : AV := D12
theorem m6 : E TB 51 A6 [] = some (R6, []) := crun_ok tblB_ok (fuel := 5000) (n := 60) (by kernel_rfl)
end Go.Proofs.YtaaajjinpppgeaaGreatDoor
