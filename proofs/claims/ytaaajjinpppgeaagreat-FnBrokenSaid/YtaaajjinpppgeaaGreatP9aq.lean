/- Part 17 of the texts of a claim, joined by a program of ours (Mm7). No condition. -/
import Derived.Test.YtaaajjinpppgeaaGreatP9ap
set_option linter.unusedVariables false
set_option linter.unusedSimpArgs false
set_option linter.unusedSectionVars false
namespace Go.Proofs.YtaaajjinpppgeaaGreat
open Go Go.Abs
set_option maxRecDepth 100000
def A7 : List AV := [D13, (.int .i64 (.ofNat 5))]
def R7 : AV := D14
theorem m7 : E TB 141 A7 [] = some (R7, []) := crun_ok tblB_ok (fuel := 5000) (n := 60) (by kernel_rfl)
end Go.Proofs.YtaaajjinpppgeaaGreat
