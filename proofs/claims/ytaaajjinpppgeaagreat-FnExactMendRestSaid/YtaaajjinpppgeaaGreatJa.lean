/- ImageBlock: copies of blocks. Own work; no condition. -/
import Derived.Test.YtaaajjinpppgeaaGreatFr
import Derived.Test.YtaaajjinpppgeaaGreatIa
set_option linter.unusedVariables false
set_option linter.unusedSimpArgs false
set_option linter.unusedSectionVars false
namespace Go.Proofs.YtaaajjinpppgeaaGreat
open Go Go.Abs
set_option maxRecDepth 100000
def blk0 : Blk := ⟨false, [], ⟨#[]⟩⟩
theorem e110 (x : Blk) (h : x.sm) : E T 110 [blk x] [] = some (blkO x, []) := by
  rw [E_eqW t110 (Nat.le_of_ble_eq_true rfl)]
  obtain ⟨a, l, b⟩ := x
  cases l with
  | nil => simp only [blk, F110, go_sem, seval, bnd_ite, blkO]
  | cons y ys =>
    have h : (ys.length + 1) * 24 ≤ 140737488355328 := by unfold Blk.sm at h; simp only [List.length_cons] at h; omega
    simp only [blk, F110, slt, go_sem, seval, bnd_ite, h, blkO]
theorem e112 (x : Blk) (h : x.sm) : E T 112 [blk x] [] = some (blkO x, []) := by
  rw [E_eqW t112 (Nat.le_of_ble_eq_true rfl)]
  obtain ⟨a, l, b⟩ := x
  cases l with
  | nil => simp only [blk, F112, go_sem, seval, bnd_ite, blkO]
  | cons y ys =>
    have h : (ys.length + 1) * 24 ≤ 140737488355328 := by unfold Blk.sm at h; simp only [List.length_cons] at h; omega
    simp only [blk, F112, slt, go_sem, seval, bnd_ite, h, blkO]
theorem e111n (x : Dsk) (i : Int) (hc : inside i 1 x.blks.length = false) : E T 111 [dsk x, .int .i64 i] [] = some (blk blk0, []) := by
  rw [E_eqW t111 (Nat.le_of_ble_eq_true rfl)]
  simp only [dsk, F111, go_sem, seval, bnd_ite, e105i, hc, blk, blk0, List.map_nil]
theorem e111 (x : Dsk) (i : Int) (hl : x.blks.length ≤ 1048576) (hc : inside i 1 x.blks.length = true) (p : Blk) (hp : x.blks[(i - 1).toNat]? = some p) : E T 111 [dsk x, .int .i64 i] [] = some (blk p, []) := by
  rw [E_eqW t111 (Nat.le_of_ble_eq_true rfl)]
  have hc' := hc
  simp only [inside, Bool.and_eq_true, decide_eq_true_eq] at hc'
  have gp : (x.blks.map blk).getD (i - 1).toNat .undef = .agg [.bool p.dir, .ro 2 (p.slots.map slt), .str p.text] := gD_map hp
  have b1 : 0 ≤ i - 1 := by omega
  have b2 : i - 1 < (x.blks.length : Int) := by omega
  simp only [dsk, F111, go_sem, seval, bnd_ite, e105i, hc, gp, b1, b2, w_i64 (i - 1) (by omega), blk]
end Go.Proofs.YtaaajjinpppgeaaGreat
