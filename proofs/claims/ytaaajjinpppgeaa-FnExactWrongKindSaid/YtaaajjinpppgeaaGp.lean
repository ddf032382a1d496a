/- WrongKind: both answers are alike. Own work; no condition. -/
import Derived.Test.YtaaajjinpppgeaaGj
set_option linter.unusedVariables false
set_option linter.unusedSimpArgs false
set_option linter.unusedSectionVars false
namespace Go.Proofs.Ytaaajjinpppgeaa
open Go Go.Abs
set_option maxRecDepth 100000
theorem e16 (x : Dsk) (h : x.ok) : E T 16 [dsk x] [] = some (.bool true, []) := by
  rw [E_eq t16 (Nat.le_of_ble_eq_true rfl)]
  obtain ⟨r, h1, h4⟩ := e38t x h
  have c40 := fun h => e40 x h
  have cA := fun h k => e79 x h k
  have cB := fun h k => e80 x h k
  have c42 := e42 x x h
  generalize wrongs x = V at *
  simp only [dsk, dskO] at h1 c40 cA cB c42 ⊢
  simp only [F16, go_sem, seval, bnd_ite, h1]
  by_cases c1 : r < 0
  · rw [if_pos c1]
  rw [if_neg c1]
  have hm := h4 (by omega)
  simp only [go_sem, seval, bnd_ite, c40 hm.1, cA hm.1 hm.2, cB hm.1 hm.2, c42]
  simp
end Go.Proofs.Ytaaajjinpppgeaa
