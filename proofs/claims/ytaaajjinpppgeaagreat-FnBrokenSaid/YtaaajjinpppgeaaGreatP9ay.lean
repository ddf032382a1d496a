/- Part 25 of the texts of a claim, joined by a program of ours (Mm25). No condition. -/
import Derived.Test.YtaaajjinpppgeaaGreatP9ax
set_option linter.unusedVariables false
set_option linter.unusedSimpArgs false
set_option linter.unusedSectionVars false
namespace Go.Proofs.YtaaajjinpppgeaaGreat
open Go Go.Abs
set_option maxRecDepth 100000
def A25 : List AV := [D32]
def R25 : AV := (.bool true)
theorem m25 : E TB 53 A25 [] = some (R25, []) := crun_ok tblB_ok (fuel := 5000) (n := 60) (by kernel_rfl)
end Go.Proofs.YtaaajjinpppgeaaGreat
