/- ImageInode: what is written of an inode. Own work; no condition. -/
import Derived.Test.YtaaajjinpppgeaaGreatFq
import Derived.Test.YtaaajjinpppgeaaGreatDc
set_option linter.unusedVariables false
set_option linter.unusedSimpArgs false
set_option linter.unusedSectionVars false
namespace Go.Proofs.YtaaajjinpppgeaaGreat
open Go Go.Abs
set_option maxRecDepth 100000
def inside (x a b : Int) : Bool := decide (a ≤ x) && decide (x ≤ b)
theorem e108i (x a b : Int) : E T 108 [.int .i64 x, .int .i64 a, .int .i64 b] [] = some (.bool (inside x a b), []) := by
  rw [E_eq t108 (Nat.le_of_ble_eq_true rfl)]; simp only [F108, go_sem, seval]; rfl
theorem e105i (x a b : Int) : E T 105 [.int .i64 x, .int .i64 a, .int .i64 b] [] = some (.bool (inside x a b), []) := by
  rw [E_eq t105 (Nat.le_of_ble_eq_true rfl)]; simp only [F105, go_sem, seval]; rfl
theorem e198 (l : List Int) (hl : l.length ≤ 1048576) : E T 198 [.ro 1 (l.map iv)] [] = some (.own 1 (l.map iv), []) := by
  rw [E_eqW t198 (Nat.le_of_ble_eq_true rfl)]
  cases l with
  | nil => simp only [F198, go_sem, seval, bnd_ite]
  | cons x xs =>
    have e := iv_mi
    have h : (xs.length + 1) * 8 ≤ 140737488355328 := by simp only [List.length_cons] at hl; omega
    simp only [F198, iv, go_sem, seval, bnd_ite, h]
theorem e55 : E T 55 [.int .i64 0] [] = some (.agg [.int .i64 0, .int .i64 0, .own 1 [.int .i64 0, .int .i64 0]], []) := by
  rw [E_eq t55 (Nat.le_of_ble_eq_true rfl)]
  simp only [F55, go_sem, seval, bnd_ite]
theorem e87 : E T 87 [.int .i64 0] [] = some (.agg [.int .i64 0, .int .i64 0, .own 1 [.int .i64 0, .int .i64 0]], []) := by
  rw [E_eq t87 (Nat.le_of_ble_eq_true rfl)]
  simp only [F87, go_sem, seval, bnd_ite]
theorem e106 (x : Ino) (h : x.sm) : E T 106 [ino x] [] = some (inoO x, []) := by
  rw [E_eqW t106 (Nat.le_of_ble_eq_true rfl)]
  have e1 := e198 x.ptrs h
  have htk : (List.map iv x.ptrs).take x.ptrs.length = List.map iv x.ptrs := List.take_of_length_le (by simp)
  simp only [ino, F106, go_sem, seval, bnd_ite, e1, inoO, htk]
theorem e109 (x : Ino) (h : x.sm) : E T 109 [ino x] [] = some (inoO x, []) := by
  rw [E_eqW t109 (Nat.le_of_ble_eq_true rfl)]
  obtain ⟨a, b, l⟩ := x
  cases l with
  | nil => simp only [ino, F109, go_sem, seval, bnd_ite, inoO]
  | cons y ys =>
    have h : (ys.length + 1) * 8 ≤ 140737488355328 := by unfold Ino.sm at h; simp only [List.length_cons] at h; omega
    simp only [ino, F109, iv, go_sem, seval, bnd_ite, h, inoO]
end Go.Proofs.YtaaajjinpppgeaaGreat
