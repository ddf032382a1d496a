/- MemOk: both answers are alike. Own work; no condition. -/
import Derived.Test.YtaaajjinpppgeaaOi
import Derived.Test.YtaaajjinpppgeaaMa
set_option linter.unusedVariables false
set_option linter.unusedSimpArgs false
set_option linter.unusedSectionVars false
namespace Go.Proofs.Ytaaajjinpppgeaa
open Go Go.Abs
set_option maxRecDepth 100000
theorem e9 (x : Mm) (h : x.ok) : E T 9 [mm x] [] = some (.bool true, []) := by
  rw [E_eq t9 (Nat.le_of_ble_eq_true rfl)]
  obtain ⟨r, h1, h2, h3, h4⟩ := e43 x 1048576 (by omega) (by omega) h
  have c45 := fun h => e45 x h
  have c59 := e59 x h
  have c60 := e60 x h
  have c47 := e47 x x h
  simp only [mm, mmO] at h1 c45 c59 c60 c47 ⊢
  simp only [F9, go_sem, seval, bnd_ite, h1]
  by_cases c1 : r < 0
  · rw [if_pos c1]
  rw [if_neg c1]
  have hm := h4 (by omega)
  simp only [go_sem, seval, bnd_ite, c45 hm, c59, c60, c47]
  cases memOk x <;> simp
end Go.Proofs.Ytaaajjinpppgeaa
