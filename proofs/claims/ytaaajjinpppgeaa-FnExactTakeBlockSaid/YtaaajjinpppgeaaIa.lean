/- ImageInode: what is written of an inode. Own work; no condition. -/
import Derived.Test.YtaaajjinpppgeaaFq
import Derived.Test.YtaaajjinpppgeaaMa
set_option linter.unusedVariables false
set_option linter.unusedSimpArgs false
set_option linter.unusedSectionVars false
namespace Go.Proofs.Ytaaajjinpppgeaa
open Go Go.Abs
set_option maxRecDepth 100000
def inside (x a b : Int) : Bool := decide (a ≤ x) && decide (x ≤ b)
theorem e116i (x a b : Int) : E T 116 [.int .i64 x, .int .i64 a, .int .i64 b] [] = some (.bool (inside x a b), []) := by
  rw [E_eq t116 (Nat.le_of_ble_eq_true rfl)]; simp only [F116, go_sem, seval]; rfl
theorem e117i (x a b : Int) : E T 117 [.int .i64 x, .int .i64 a, .int .i64 b] [] = some (.bool (inside x a b), []) := by
  rw [E_eq t117 (Nat.le_of_ble_eq_true rfl)]; simp only [F117, go_sem, seval]; rfl
theorem e217 (l : List Int) (hl : l.length ≤ 1048576) : E T 217 [.ro 1 (l.map iv)] [] = some (.own 1 (l.map iv), []) := by
  rw [E_eqW t217 (Nat.le_of_ble_eq_true rfl)]
  cases l with
  | nil => simp only [F217, go_sem, seval, bnd_ite]
  | cons x xs =>
    have e := iv_mi
    have h : (xs.length + 1) * 8 ≤ 140737488355328 := by simp only [List.length_cons] at hl; omega
    simp only [F217, iv, go_sem, seval, bnd_ite, h]
theorem e141 : E T 141 [.int .i64 0] [] = some (.agg [.int .i64 0, .int .i64 0, .own 1 [.int .i64 0, .int .i64 0]], []) := by
  rw [E_eq t141 (Nat.le_of_ble_eq_true rfl)]
  simp only [F141, go_sem, seval, bnd_ite]
theorem e143 : E T 143 [.int .i64 0] [] = some (.agg [.int .i64 0, .int .i64 0, .own 1 [.int .i64 0, .int .i64 0]], []) := by
  rw [E_eq t143 (Nat.le_of_ble_eq_true rfl)]
  simp only [F143, go_sem, seval, bnd_ite]
theorem e144 (x : Ino) (h : x.sm) : E T 144 [ino x] [] = some (inoO x, []) := by
  rw [E_eqW t144 (Nat.le_of_ble_eq_true rfl)]
  have e1 := e217 x.ptrs h
  have htk : (List.map iv x.ptrs).take x.ptrs.length = List.map iv x.ptrs := List.take_of_length_le (by simp)
  simp only [ino, F144, go_sem, seval, bnd_ite, e1, inoO, htk]
theorem e142 (x : Ino) (h : x.sm) : E T 142 [ino x] [] = some (inoO x, []) := by
  rw [E_eqW t142 (Nat.le_of_ble_eq_true rfl)]
  obtain ⟨a, b, l⟩ := x
  cases l with
  | nil => simp only [ino, F142, go_sem, seval, bnd_ite, inoO]
  | cons y ys =>
    have h : (ys.length + 1) * 8 ≤ 140737488355328 := by unfold Ino.sm at h; simp only [List.length_cons] at h; omega
    simp only [ino, F142, iv, go_sem, seval, bnd_ite, h, inoO]
end Go.Proofs.Ytaaajjinpppgeaa
