/- Part 20 of the texts of a claim, joined by a program of ours (Mm10). No condition. -/
import Derived.Test.YtaaajjinpppgeaaGreatP9as
set_option linter.unusedVariables false
set_option linter.unusedSimpArgs false
set_option linter.unusedSectionVars false
namespace Go.Proofs.YtaaajjinpppgeaaGreat
open Go Go.Abs
set_option maxRecDepth 100000
def A10 : List AV := [D19, (.int .i64 (.ofNat 6))]
def R10 : AV := D20
theorem m10 : E TB 141 A10 [] = some (R10, []) := crun_ok tblB_ok (fuel := 5000) (n := 60) (by kernel_rfl)
end Go.Proofs.YtaaajjinpppgeaaGreat
