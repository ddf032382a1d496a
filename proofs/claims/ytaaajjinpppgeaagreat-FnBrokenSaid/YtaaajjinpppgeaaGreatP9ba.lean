/- Part 27 of the texts of a claim, joined by a program of ours (Mm63). No condition. -/
import Derived.Test.YtaaajjinpppgeaaGreatP9az
set_option linter.unusedVariables false
set_option linter.unusedSimpArgs false
set_option linter.unusedSectionVars false
namespace Go.Proofs.YtaaajjinpppgeaaGreat
open Go Go.Abs
set_option maxRecDepth 100000
def A63 : List AV := [D43]
def R63 : AV := (.bool true)
theorem m63 : E TB 53 A63 [] = some (R63, []) := crun_ok tblB_ok (fuel := 5000) (n := 60) (by kernel_rfl)
end Go.Proofs.YtaaajjinpppgeaaGreat
