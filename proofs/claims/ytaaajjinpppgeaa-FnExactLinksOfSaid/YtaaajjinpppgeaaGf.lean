/- LinksOf: both answers are alike. Own work; no condition. -/
import Derived.Test.YtaaajjinpppgeaaGe
set_option linter.unusedVariables false
set_option linter.unusedSimpArgs false
set_option linter.unusedSectionVars false
namespace Go.Proofs.Ytaaajjinpppgeaa
open Go Go.Abs
set_option maxRecDepth 100000
theorem e15 (x : Dsk) (h : x.ok) (i : Int) (hi : -9223372036854775808 ≤ i ∧ i ≤ 9223372036854775807) : E T 15 [dsk x, .int .i64 i] [] = some (.bool true, []) := by
  rw [E_eq t15 (Nat.le_of_ble_eq_true rfl)]
  obtain ⟨r, h1, h4⟩ := e38t x h
  have c40 := fun h => e40 x h
  have cA := fun h k => e77 x h k i
  have cB := fun h k => e78 x h k i
  have c42 := e42 x x h
  generalize linksOf x i = V at *
  simp only [dsk, dskO] at h1 c40 cA cB c42 ⊢
  simp only [F15, go_sem, seval, bnd_ite, h1]
  by_cases c1 : r < 0
  · rw [if_pos c1]
  rw [if_neg c1]
  have hm := h4 (by omega)
  simp only [go_sem, seval, bnd_ite, c40 hm.1, cA hm.1 hm.2, cB hm.1 hm.2, c42]
  simp
end Go.Proofs.Ytaaajjinpppgeaa
