/- ImageBlock: what both come to. Own work; no condition. -/
import Derived.Test.YtaaajjinpppgeaaJc
set_option linter.unusedVariables false
set_option linter.unusedSimpArgs false
set_option linter.unusedSectionVars false
namespace Go.Proofs.Ytaaajjinpppgeaa
open Go Go.Abs
set_option maxRecDepth 100000
def imageBlk (x : Mm) (i : Int) : Blk := if inside i 1 x.disk.blks.length then
    (match x.disk.blks[(i - 1).toNat]? with
    | some p => ⟨p.dir, x.deps.foldl (ibStep i) p.slots, p.text⟩
    | none => blk0)
  else blk0
theorem ibFold_nil (i : Int) (l : List Dp) : l.foldl (ibStep i) [] = [] := List.eq_nil_of_length_eq_zero (by rw [ibFold_len]; rfl)
theorem e55 (x : Mm) (h : x.sm) (i : Int) (hi : -9223372036854775808 ≤ i ∧ i ≤ 9223372036854775807) : E T 55 [mm x, .int .i64 i] [] = some (blkO (imageBlk x i), []) := by
  rw [E_eq t55 (Nat.le_of_ble_eq_true rfl)]
  have hdp := h.deps
  unfold imageBlk
  by_cases hc : inside i 1 x.disk.blks.length = true
  · have hc' := hc
    simp only [inside, Bool.and_eq_true, decide_eq_true_eq] at hc'
    obtain ⟨p, hp⟩ := get_at (show (i - 1).toNat < x.disk.blks.length by omega)
    have hps := h.disk.blk p (List.mem_of_getElem? hp)
    have e0 := e149 x.disk i h.disk.blks hc p hp
    have e1 := e148 p hps
    obtain ⟨e, m, k1, k2, k3⟩ := in55 x.deps hdp i p.dir p.text p.slots hps
    have hfl := ibFold_len i x.deps p.slots
    rw [if_pos hc, hp]
    show _ = some (blkO ⟨p.dir, x.deps.foldl (ibStep i) p.slots, p.text⟩, [])
    unfold dsk at e0
    rw [show blk p = .agg [.bool p.dir, .ro 2 (p.slots.map slt), .str p.text] from rfl] at e0
    unfold blk blkO at e1
    generalize hF : x.deps.foldl (ibStep i) p.slots = F at *
    have htk : (List.map slt F).take p.slots.length = List.map slt F := List.take_of_length_le (by simp [hfl])
    simp only [mm, F55, h55_3, go_sem, seval, bnd_ite, e0, e1, k1, k2, k3, blkO, hfl, htk]
  · have hc : inside i 1 x.disk.blks.length = false := by simpa using hc
    have e0 := e149n x.disk i hc
    have e1 := e148 blk0 (by show (0 : Nat) ≤ 1048576; decide)
    obtain ⟨e, m, k1, k2, k3⟩ := in55 x.deps hdp i false ⟨#[]⟩ [] (by simp)
    rw [ibFold_nil] at k1
    simp only [List.map_nil, List.length_nil, List.cons_append, List.nil_append] at k1
    unfold dsk at e0
    unfold blk0 blkO at e0
    unfold blk0 blk blkO at e1
    simp only [List.map_nil] at e0 e1
    rw [if_neg (by rw [hc]; simp)]
    simp only [mm, F55, h55_3, go_sem, seval, bnd_ite, e0, e1, k1, k2, k3, blkO, blk0]
    first | done | rfl
theorem e54 (x : Mm) (h : x.sm) (i : Int) (hi : -9223372036854775808 ≤ i ∧ i ≤ 9223372036854775807) : E T 54 [mm x, .int .i64 i] [] = some (blkO (imageBlk x i), []) := by
  rw [E_eqW t54 (Nat.le_of_ble_eq_true rfl)]
  have hdp := h.deps
  unfold imageBlk
  by_cases hc : inside i 1 x.disk.blks.length = true
  · have hc' := hc
    simp only [inside, Bool.and_eq_true, decide_eq_true_eq] at hc'
    obtain ⟨p, hp⟩ := get_at (show (i - 1).toNat < x.disk.blks.length by omega)
    have hps := h.disk.blk p (List.mem_of_getElem? hp)
    have gp : (x.disk.blks.map blk).getD (i - 1).toNat .undef = .agg [.bool p.dir, .ro 2 (p.slots.map slt), .str p.text] := gD_map hp
    have e1 := e147 p hps
    obtain ⟨⟨y, e, m⟩, k1, kx, ⟨m', km⟩, k2, k3⟩ := in54 x hdp i p.dir p.text p.slots hps
    simp only at kx km k2 k3; subst kx; subst km
    have hfl := ibFold_len i x.deps p.slots
    have b1 : 0 ≤ i - 1 := by omega
    have b2 : i - 1 < (x.disk.blks.length : Int) := by omega
    rw [if_pos hc, hp]
    show _ = some (blkO ⟨p.dir, x.deps.foldl (ibStep i) p.slots, p.text⟩, [])
    unfold blk blkO at e1
    unfold ibMem at k1
    generalize hF : x.deps.foldl (ibStep i) p.slots = F at *
    have htk : (List.map slt F).take p.slots.length = List.map slt F := List.take_of_length_le (by simp [hfl])
    simp only [mm, F54, h54_5, go_sem, seval, bnd_ite, e116i, hc, gp, e1, b1, b2, w_i64 (i - 1) (by omega), k1, k2, k3, blkO, hfl, htk]
  · have hc : inside i 1 x.disk.blks.length = false := by simpa using hc
    rw [if_neg (by rw [hc]; simp)]
    simp only [mm, F54, h54_5, go_sem, seval, bnd_ite, e116i, hc, blkO, blk0]
    first | done | rfl
end Go.Proofs.Ytaaajjinpppgeaa
