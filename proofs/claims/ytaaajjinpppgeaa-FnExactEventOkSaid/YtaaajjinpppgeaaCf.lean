/- The table of the functions that the evaluator runs. Own work; no condition. -/
import Derived.Test.YtaaajjinpppgeaaTy
import Derived.Test.YtaaajjinpppgeaaA3
namespace Go.Proofs.Ytaaajjinpppgeaa
open Go Go.Abs
def pures : List FuncId := List.range 600
def hints : Hints := []
noncomputable def T : FuncId → Option EF := tableOf Try.prog tt pures hints
theorem hTT : ∀ t U, tt.get t = some U → tyOf Try.prog t = some U := Types.ok tt_rows
theorem calls {f : FuncId} {args : List AV} {res : AV} (h : E T f args [] = some (res, [])) : ACalls Try.prog f args res := E_calls mixed hTT (table_ok _ _ _ _) h
end Go.Proofs.Ytaaajjinpppgeaa
