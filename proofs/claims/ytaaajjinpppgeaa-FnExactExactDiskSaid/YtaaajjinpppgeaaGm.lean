/- SafeDisk: both answers, and that they are alike. Own work; no condition. -/
import Derived.Test.YtaaajjinpppgeaaGg
import Derived.Test.YtaaajjinpppgeaaGh
import Derived.Test.YtaaajjinpppgeaaGj
import Derived.Test.YtaaajjinpppgeaaDf
import Derived.Test.YtaaajjinpppgeaaOe
set_option linter.unusedVariables false
set_option linter.unusedSimpArgs false
set_option linter.unusedSectionVars false
namespace Go.Proofs.Ytaaajjinpppgeaa
open Go Go.Abs
set_option maxRecDepth 100000
noncomputable def safe (x : Dsk) : Bool := dskOk x && decide ((inoOf x 1).kind = 2) && decide (dangling x = 0) && decide (shared x = 0) && decide (unmarked x = 0) && decide (short x = 0) && decide (wrongs x = 0)
theorem dskOk_inos {x : Dsk} (h : dskOk x = true) : x.inos.length = 8 := by
  unfold dskOk at h
  simp only [Bool.and_eq_true, decide_eq_true_eq] at h
  exact h.2.2.1.2
theorem e108 (x : Dsk) (hk : x.ok) (h : x.sm) (ht : tot x ≤ 1048576) : E T 108 [dsk x] [] = some (.bool (safe x), []) := by
  rw [E_eq t108 (Nat.le_of_ble_eq_true rfl)]
  have e0 := e153 x hk
  have edangling := e75 x h ht
  have eshared := e39 x h
  have eunmarked := e83 x h ht
  have eshort := e81 x h ht
  have ewrongs := e79 x h ht
  simp only [dsk] at e0 edangling eshared eunmarked eshort ewrongs ⊢
  cases h0 : dskOk x with
  | false =>
    have hs : safe x = false := by unfold safe; rw [h0]; rfl
    rw [h0] at e0
    simp only [F108, go_sem, seval, bnd_ite, e0, hs, Bool.not_false, Bool.true_or, if_true, Bool.false_eq_true, if_false]
  | true =>
  rw [h0] at e0
  have n8 := dskOk_inos h0
  have hc : inside 1 1 x.inos.length = true := by rw [n8]; rfl
  have hp := inoOf_mem hc
  have gp : (x.inos.map ino).getD 0 .undef = .agg [.int .i64 (inoOf x 1).kind, .int .i64 (inoOf x 1).links, .ro 1 ((inoOf x 1).ptrs.map iv)] := gD_map hp
  have b2 : (0 : Int) < (x.inos.length : Int) := by omega
  have b3 : 0 < x.inos.length := by omega
  have hs : safe x = (true && decide ((inoOf x 1).kind = 2) && decide (dangling x = 0) && decide (shared x = 0) && decide (unmarked x = 0) && decide (short x = 0) && decide (wrongs x = 0)) := by unfold safe; rw [h0]
  rw [hs]
  cases c0 : decide ((inoOf x 1).kind = 2) with
  | false =>
    simp only [F108, go_sem, seval, bnd_ite, e0, gp, b2, b3, c0, decide_true, if_true, Bool.not_true, Bool.not_false, Bool.false_or, Bool.true_and, Bool.and_true, Bool.and_false, Bool.false_and, Bool.and_self, Bool.false_eq_true, if_false]
    all_goals first | done | rfl
  | true =>
  cases c1 : decide (dangling x = 0) with
  | false =>
    simp only [F108, go_sem, seval, bnd_ite, e0, gp, b2, b3, edangling, c0, c1, decide_true, if_true, Bool.not_true, Bool.not_false, Bool.false_or, Bool.true_and, Bool.and_true, Bool.and_false, Bool.false_and, Bool.and_self, Bool.false_eq_true, if_false]
    all_goals first | done | rfl
  | true =>
  cases c2 : decide (shared x = 0) with
  | false =>
    simp only [F108, go_sem, seval, bnd_ite, e0, gp, b2, b3, edangling, eshared, c0, c1, c2, decide_true, if_true, Bool.not_true, Bool.not_false, Bool.false_or, Bool.true_and, Bool.and_true, Bool.and_false, Bool.false_and, Bool.and_self, Bool.false_eq_true, if_false]
    all_goals first | done | rfl
  | true =>
  cases c3 : decide (unmarked x = 0) with
  | false =>
    simp only [F108, go_sem, seval, bnd_ite, e0, gp, b2, b3, edangling, eshared, eunmarked, c0, c1, c2, c3, decide_true, if_true, Bool.not_true, Bool.not_false, Bool.false_or, Bool.true_and, Bool.and_true, Bool.and_false, Bool.false_and, Bool.and_self, Bool.false_eq_true, if_false]
    all_goals first | done | rfl
  | true =>
  cases c4 : decide (short x = 0) with
  | false =>
    simp only [F108, go_sem, seval, bnd_ite, e0, gp, b2, b3, edangling, eshared, eunmarked, eshort, c0, c1, c2, c3, c4, decide_true, if_true, Bool.not_true, Bool.not_false, Bool.false_or, Bool.true_and, Bool.and_true, Bool.and_false, Bool.false_and, Bool.and_self, Bool.false_eq_true, if_false]
    all_goals first | done | rfl
  | true =>
  cases c5 : decide (wrongs x = 0) with
  | false =>
    simp only [F108, go_sem, seval, bnd_ite, e0, gp, b2, b3, edangling, eshared, eunmarked, eshort, ewrongs, c0, c1, c2, c3, c4, c5, decide_true, if_true, Bool.not_true, Bool.not_false, Bool.false_or, Bool.true_and, Bool.and_true, Bool.and_false, Bool.false_and, Bool.and_self, Bool.false_eq_true, if_false]
    all_goals first | done | rfl
  | true =>
  simp only [F108, go_sem, seval, bnd_ite, e0, gp, b2, b3, edangling, eshared, eunmarked, eshort, ewrongs, c0, c1, c2, c3, c4, c5, decide_true, if_true, Bool.not_true, Bool.not_false, Bool.false_or, Bool.true_and, Bool.and_true, Bool.and_false, Bool.false_and, Bool.and_self, Bool.false_eq_true, if_false]
  all_goals first | done | rfl
theorem e109 (x : Dsk) (hk : x.ok) (h : x.sm) (ht : tot x ≤ 1048576) : E T 109 [dsk x] [] = some (.bool (safe x), []) := by
  rw [E_eq t109 (Nat.le_of_ble_eq_true rfl)]
  have e0 := e155 x hk
  have edangling := e76 x h ht
  have eshared := e41 x h
  have eunmarked := e84 x h ht
  have eshort := e82 x h ht
  have ewrongs := e80 x h ht
  simp only [dsk] at e0 edangling eshared eunmarked eshort ewrongs ⊢
  cases h0 : dskOk x with
  | false =>
    have hs : safe x = false := by unfold safe; rw [h0]; rfl
    rw [h0] at e0
    simp only [F109, go_sem, seval, bnd_ite, e0, hs, Bool.not_false, Bool.true_or, if_true, Bool.false_eq_true, if_false]
  | true =>
  rw [h0] at e0
  have n8 := dskOk_inos h0
  have hc : inside 1 1 x.inos.length = true := by rw [n8]; rfl
  have hp := inoOf_mem hc
  have gp : (x.inos.map ino).getD 0 .undef = .agg [.int .i64 (inoOf x 1).kind, .int .i64 (inoOf x 1).links, .ro 1 ((inoOf x 1).ptrs.map iv)] := gD_map hp
  have b2 : (0 : Int) < (x.inos.length : Int) := by omega
  have b3 : 0 < x.inos.length := by omega
  have hs : safe x = (true && decide ((inoOf x 1).kind = 2) && decide (dangling x = 0) && decide (shared x = 0) && decide (unmarked x = 0) && decide (short x = 0) && decide (wrongs x = 0)) := by unfold safe; rw [h0]
  rw [hs]
  cases c0 : decide ((inoOf x 1).kind = 2) with
  | false =>
    simp only [F109, go_sem, seval, bnd_ite, e0, gp, b2, b3, c0, decide_true, if_true, Bool.not_true, Bool.not_false, Bool.false_or, Bool.true_and, Bool.and_true, Bool.and_false, Bool.false_and, Bool.and_self, Bool.false_eq_true, if_false]
    all_goals first | done | rfl
  | true =>
  cases c1 : decide (dangling x = 0) with
  | false =>
    simp only [F109, go_sem, seval, bnd_ite, e0, gp, b2, b3, edangling, c0, c1, decide_true, if_true, Bool.not_true, Bool.not_false, Bool.false_or, Bool.true_and, Bool.and_true, Bool.and_false, Bool.false_and, Bool.and_self, Bool.false_eq_true, if_false]
    all_goals first | done | rfl
  | true =>
  cases c2 : decide (shared x = 0) with
  | false =>
    simp only [F109, go_sem, seval, bnd_ite, e0, gp, b2, b3, edangling, eshared, c0, c1, c2, decide_true, if_true, Bool.not_true, Bool.not_false, Bool.false_or, Bool.true_and, Bool.and_true, Bool.and_false, Bool.false_and, Bool.and_self, Bool.false_eq_true, if_false]
    all_goals first | done | rfl
  | true =>
  cases c3 : decide (unmarked x = 0) with
  | false =>
    simp only [F109, go_sem, seval, bnd_ite, e0, gp, b2, b3, edangling, eshared, eunmarked, c0, c1, c2, c3, decide_true, if_true, Bool.not_true, Bool.not_false, Bool.false_or, Bool.true_and, Bool.and_true, Bool.and_false, Bool.false_and, Bool.and_self, Bool.false_eq_true, if_false]
    all_goals first | done | rfl
  | true =>
  cases c4 : decide (short x = 0) with
  | false =>
    simp only [F109, go_sem, seval, bnd_ite, e0, gp, b2, b3, edangling, eshared, eunmarked, eshort, c0, c1, c2, c3, c4, decide_true, if_true, Bool.not_true, Bool.not_false, Bool.false_or, Bool.true_and, Bool.and_true, Bool.and_false, Bool.false_and, Bool.and_self, Bool.false_eq_true, if_false]
    all_goals first | done | rfl
  | true =>
  cases c5 : decide (wrongs x = 0) with
  | false =>
    simp only [F109, go_sem, seval, bnd_ite, e0, gp, b2, b3, edangling, eshared, eunmarked, eshort, ewrongs, c0, c1, c2, c3, c4, c5, decide_true, if_true, Bool.not_true, Bool.not_false, Bool.false_or, Bool.true_and, Bool.and_true, Bool.and_false, Bool.false_and, Bool.and_self, Bool.false_eq_true, if_false]
    all_goals first | done | rfl
  | true =>
  simp only [F109, go_sem, seval, bnd_ite, e0, gp, b2, b3, edangling, eshared, eunmarked, eshort, ewrongs, c0, c1, c2, c3, c4, c5, decide_true, if_true, Bool.not_true, Bool.not_false, Bool.false_or, Bool.true_and, Bool.and_true, Bool.and_false, Bool.false_and, Bool.and_self, Bool.false_eq_true, if_false]
  all_goals first | done | rfl
theorem e26 (x : Dsk) (h : x.ok) : E T 26 [dsk x] [] = some (.bool true, []) := by
  rw [E_eq t26 (Nat.le_of_ble_eq_true rfl)]
  obtain ⟨r, h1, h4⟩ := e38t x h
  have c40 := fun h => e40 x h
  have cA := fun hs k => e108 x h hs k
  have cB := fun hs k => e109 x h hs k
  have c42 := e42 x x h
  generalize safe x = V at *
  simp only [dsk, dskO] at h1 c40 cA cB c42 ⊢
  simp only [F26, go_sem, seval, bnd_ite, h1]
  by_cases c1 : r < 0
  · rw [if_pos c1]
  rw [if_neg c1]
  have hm := h4 (by omega)
  simp only [go_sem, seval, bnd_ite, c40 hm.1, cA hm.1 hm.2, cB hm.1 hm.2, c42]
  cases V <;> simp
end Go.Proofs.Ytaaajjinpppgeaa
