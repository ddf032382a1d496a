/- ImageInode: what both come to. Own work; no condition. -/
import Derived.Test.YtaaajjinpppgeaaIb
set_option linter.unusedVariables false
set_option linter.unusedSimpArgs false
set_option linter.unusedSectionVars false
namespace Go.Proofs.Ytaaajjinpppgeaa
open Go Go.Abs
set_option maxRecDepth 100000
def imageIno (x : Mm) (i : Int) : Ino := if inside i 1 x.disk.inos.length then
    (match x.disk.inos[(i - 1).toNat]? with
    | some p => ⟨p.kind, p.links, x.deps.foldl (imStep i) p.ptrs⟩
    | none => ⟨0, 0, [0, 0]⟩)
  else ⟨0, 0, [0, 0]⟩
theorem e49 (x : Mm) (h : x.sm) (i : Int) (hi : -9223372036854775808 ≤ i ∧ i ≤ 9223372036854775807) : E T 49 [mm x, .int .i64 i] [] = some (inoO (imageIno x i), []) := by
  rw [E_eq t49 (Nat.le_of_ble_eq_true rfl)]
  have hin := h.disk.inos
  have hdp := h.deps
  unfold imageIno
  by_cases hc : inside i 1 x.disk.inos.length = true
  · have hc' := hc
    simp only [inside, Bool.and_eq_true, decide_eq_true_eq] at hc'
    obtain ⟨p, hp⟩ := get_at (show (i - 1).toNat < x.disk.inos.length by omega)
    have gp : (x.disk.inos.map ino).getD (i - 1).toNat .undef = .agg [.int .i64 p.kind, .int .i64 p.links, .ro 1 (p.ptrs.map iv)] := gD_map hp
    have hps := h.disk.ino p (List.mem_of_getElem? hp)
    have e1 := e144 p hps
    obtain ⟨e, m, k1, k2, k3⟩ := in49 x.deps hdp i p.kind p.links p.ptrs hps
    have b1 : 0 ≤ i - 1 := by omega
    have b2 : i - 1 < (x.disk.inos.length : Int) := by omega
    have hfl := imFold_len i x.deps p.ptrs
    rw [if_pos hc, hp]
    show _ = some (inoO ⟨p.kind, p.links, x.deps.foldl (imStep i) p.ptrs⟩, [])
    unfold ino inoO at e1
    generalize hF : x.deps.foldl (imStep i) p.ptrs = F at *
    have htk : (List.map iv F).take p.ptrs.length = List.map iv F := List.take_of_length_le (by simp [hfl])
    simp only [mm, F49, h49_5, go_sem, seval, bnd_ite, e117i, hc, gp, e1, b1, b2, w_i64 (i - 1) (by omega), k1, k2, k3, inoO, hfl, htk]
  · have hc : inside i 1 x.disk.inos.length = false := by simpa using hc
    simp only [mm, F49, h49_5, go_sem, seval, bnd_ite, e117i, hc, e143, inoO, iv]
end Go.Proofs.Ytaaajjinpppgeaa
