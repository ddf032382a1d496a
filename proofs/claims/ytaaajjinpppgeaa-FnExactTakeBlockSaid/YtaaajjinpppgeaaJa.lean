/- ImageBlock: copies of blocks. Own work; no condition. -/
import Derived.Test.YtaaajjinpppgeaaFr
import Derived.Test.YtaaajjinpppgeaaIa
set_option linter.unusedVariables false
set_option linter.unusedSimpArgs false
set_option linter.unusedSectionVars false
namespace Go.Proofs.Ytaaajjinpppgeaa
open Go Go.Abs
set_option maxRecDepth 100000
def blk0 : Blk := ⟨false, [], ⟨#[]⟩⟩
theorem e148 (x : Blk) (h : x.sm) : E T 148 [blk x] [] = some (blkO x, []) := by
  rw [E_eqW t148 (Nat.le_of_ble_eq_true rfl)]
  obtain ⟨a, l, b⟩ := x
  cases l with
  | nil => simp only [blk, F148, go_sem, seval, bnd_ite, blkO]
  | cons y ys =>
    have h : (ys.length + 1) * 24 ≤ 140737488355328 := by unfold Blk.sm at h; simp only [List.length_cons] at h; omega
    simp only [blk, F148, slt, go_sem, seval, bnd_ite, h, blkO]
theorem e147 (x : Blk) (h : x.sm) : E T 147 [blk x] [] = some (blkO x, []) := by
  rw [E_eqW t147 (Nat.le_of_ble_eq_true rfl)]
  obtain ⟨a, l, b⟩ := x
  cases l with
  | nil => simp only [blk, F147, go_sem, seval, bnd_ite, blkO]
  | cons y ys =>
    have h : (ys.length + 1) * 24 ≤ 140737488355328 := by unfold Blk.sm at h; simp only [List.length_cons] at h; omega
    simp only [blk, F147, slt, go_sem, seval, bnd_ite, h, blkO]
theorem e149n (x : Dsk) (i : Int) (hc : inside i 1 x.blks.length = false) : E T 149 [dsk x, .int .i64 i] [] = some (blk blk0, []) := by
  rw [E_eqW t149 (Nat.le_of_ble_eq_true rfl)]
  simp only [dsk, F149, go_sem, seval, bnd_ite, e117i, hc, blk, blk0, List.map_nil]
theorem e149 (x : Dsk) (i : Int) (hl : x.blks.length ≤ 1048576) (hc : inside i 1 x.blks.length = true) (p : Blk) (hp : x.blks[(i - 1).toNat]? = some p) : E T 149 [dsk x, .int .i64 i] [] = some (blk p, []) := by
  rw [E_eqW t149 (Nat.le_of_ble_eq_true rfl)]
  have hc' := hc
  simp only [inside, Bool.and_eq_true, decide_eq_true_eq] at hc'
  have gp : (x.blks.map blk).getD (i - 1).toNat .undef = .agg [.bool p.dir, .ro 2 (p.slots.map slt), .str p.text] := gD_map hp
  have b1 : 0 ≤ i - 1 := by omega
  have b2 : i - 1 < (x.blks.length : Int) := by omega
  simp only [dsk, F149, go_sem, seval, bnd_ite, e117i, hc, gp, b1, b2, w_i64 (i - 1) (by omega), blk]
/-- What one thing that leans does to a block. -/
def ibStep (i : Int) (ss : List Slt) (d : Dp) : List Slt :=
  if d.block = i ∧ 0 ≤ d.slot ∧ d.slot < (ss.length : Int) then
    (if d.kind = 2 then ss.set d.slot.toNat ⟨⟨#[]⟩, 0⟩ else if d.kind = 4 ∧ 0 < d.after then ss.set d.slot.toNat ⟨d.name, d.ino⟩ else ss)
  else ss
theorem ibStep_len (i : Int) (ss : List Slt) (d : Dp) : (ibStep i ss d).length = ss.length := by unfold ibStep; (repeat' split) <;> simp
theorem ibFold_len (i : Int) (l : List Dp) : ∀ ss : List Slt, (l.foldl (ibStep i) ss).length = ss.length := by
  induction l with
  | nil => intro ss; rfl
  | cons d l ih => intro ss; rw [List.foldl_cons, ih, ibStep_len]
end Go.Proofs.Ytaaajjinpppgeaa
