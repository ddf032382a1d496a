/- ImageInode: what the reference's comes to. Own work; no condition. -/
import Derived.Test.YtaaajjinpppgeaaIc
set_option linter.unusedVariables false
set_option linter.unusedSimpArgs false
set_option linter.unusedSectionVars false
namespace Go.Proofs.Ytaaajjinpppgeaa
open Go Go.Abs
set_option maxRecDepth 100000
theorem in48 (x : Mm) (hl : x.deps.length ≤ 1048576) (i a b : Int) (ps : List Int) (hp : ps.length ≤ 1048576) :
    ∃ e m, XL T 0 H48_5 L48_5 ⟨[(1, .int .i64 i), (2, .ptr 0 0 0), (4, .ptr 1 0 0), (5, .ptr 2 0 0), (6, .int .i64 0)],
        [some (7, [.agg [.ro 1 (x.disk.used.map bv), .ro 1 (x.disk.taken.map bv), .ro 3 (x.disk.inos.map ino), .ro 3 (x.disk.blks.map blk), .ro 1 (x.dirty.map bv), .ro 11 (x.deps.map dp), .int .i64 x.next]]), some (3, [.agg [.int .i64 0, .int .i64 0, .nil]]), some (3, [.agg [.int .i64 a, .int .i64 b, .sl 3 0 ps.length]]), some (1, ps.map iv)]⟩ = some (.exit 0, ⟨e, [some (7, [.agg [.ro 1 (x.disk.used.map bv), .ro 1 (x.disk.taken.map bv), .ro 3 (x.disk.inos.map ino), .ro 3 (x.disk.blks.map blk), .ro 1 (x.dirty.map bv), .ro 11 (x.deps.map dp), .int .i64 x.next]]), some (3, [.agg [.int .i64 0, .int .i64 0, .nil]]), some (3, [.agg [.int .i64 a, .int .i64 b, .sl 3 0 ps.length]]), some (1, (x.deps.foldl (imStep i) ps).map iv)] ++ m⟩) ∧
      lookA e 4 = .ptr 1 0 0 ∧ lookA e 5 = .ptr 2 0 0 := by
  refine (XL_inv (T := T) (b := 0) (hd := H48_5) (x := L48_5) (β := List Int) (fun j q => ⟨[(1, .int .i64 i), (2, .ptr 0 0 0), (4, .ptr 1 0 0), (5, .ptr 2 0 0), (6, .int .i64 (j : Nat))],
        [some (7, [.agg [.ro 1 (x.disk.used.map bv), .ro 1 (x.disk.taken.map bv), .ro 3 (x.disk.inos.map ino), .ro 3 (x.disk.blks.map blk), .ro 1 (x.dirty.map bv), .ro 11 (x.deps.map dp), .int .i64 x.next]]), some (3, [.agg [.int .i64 0, .int .i64 0, .nil]]), some (3, [.agg [.int .i64 a, .int .i64 b, .sl 3 0 ps.length]]), some (1, q.map iv)]⟩)
    (fun j q => q = (x.deps.take j).foldl (imStep i) ps) x.deps.length (fun r => r.1 = .exit 0 ∧ (∃ m, r.2.mem = [some (7, [.agg [.ro 1 (x.disk.used.map bv), .ro 1 (x.disk.taken.map bv), .ro 3 (x.disk.inos.map ino), .ro 3 (x.disk.blks.map blk), .ro 1 (x.dirty.map bv), .ro 11 (x.deps.map dp), .int .i64 x.next]]), some (3, [.agg [.int .i64 0, .int .i64 0, .nil]]), some (3, [.agg [.int .i64 a, .int .i64 b, .sl 3 0 ps.length]]), some (1, (x.deps.foldl (imStep i) ps).map iv)] ++ m) ∧
      lookA r.2.env 4 = .ptr 1 0 0 ∧ lookA r.2.env 5 = .ptr 2 0 0) ?step ?last 0 ps (by omega) rfl).elim ?main
  case step =>
    intro j q hj hI
    obtain ⟨d, hd⟩ := get_at hj
    have hj1 : (j : Int) < (x.deps.length : Int) := by omega
    have hql : q.length = ps.length := by rw [hI]; exact imFold_len ..
    have gd : (x.deps.map dp).getD j .undef = .agg [.int .i64 d.id, .int .i64 d.kind, .int .i64 d.ino, .int .i64 d.ptr, .int .i64 d.block, .int .i64 d.slot, .str d.name, .bool d.bits, .bool d.other, .int .i64 d.after, .ro 1 (d.blocks.map iv)] := gD_map hd
    left
    refine ⟨imStep i q d, ?_, by rw [foldl_take' hd, hI]⟩
    unfold imStep
    by_cases hc : (d.kind = 1 ∧ d.ino = i) ∧ 0 ≤ d.ptr ∧ d.ptr < (q.length : Int)
    · rw [if_pos hc]
      obtain ⟨⟨c1, c2⟩, c3, c4⟩ := hc
      rw [hql] at c4
      have c5 : d.ptr ≤ (ps.length : Int) - 1 := by omega
      have c6 : d.ptr.toNat < ps.length := by omega
      obtain ⟨x0, hx0⟩ := get_at (show d.ptr.toNat < q.length by omega)
      have gq : (q.map iv).getD d.ptr.toNat .undef = .int .i64 x0 := gD_map hx0
      have sm : (q.map iv).set d.ptr.toNat (.int .i64 0) = (q.set d.ptr.toNat 0).map iv := set_map' (f := iv) (x := (0 : Int))
      simp only [XG, L48_5, h48_5, go_sem, seval, bnd_ite, hj1, gd, gq, sm, hql, e117i, inside, c1, c2, c3, c4, c5, c6, Int.natCast_nonneg, w_i64 ((j : Int) + 1) (by omega), decide_true, Bool.and_self]
      rfl
    · rw [if_neg hc]
      have hf : (decide (d.kind = 1) && decide (d.ino = i) && decide (0 ≤ d.ptr) && decide (d.ptr < (ps.length : Int))) = false := by
        rw [← Bool.not_eq_true]
        intro h
        simp only [Bool.and_eq_true, decide_eq_true_eq] at h
        exact hc ⟨h.1.1, h.1.2, by omega⟩
      simp only [XG, L48_5, h48_5, go_sem, seval, bnd_ite, hj1, gd, hql, e117i, inside, Int.natCast_nonneg, w_i64 ((j : Int) + 1) (by omega), hf, Bool.false_eq_true, if_false]
      rfl
  case last =>
    intro q hI
    rw [List.take_length] at hI
    simp only [XG, L48_5, h48_5, go_sem, seval, bnd_ite, Int.lt_irrefl, decide_false]
    exact .mk (by simp) ⟨rfl, ⟨[], by rw [← hI]⟩, rfl, rfl⟩
  case main =>
  rintro ⟨xx, e, m⟩ ⟨h1, h2, h3, ⟨m', h4⟩, h5⟩
  simp only at h3 h4; subst h3; subst h4
  exact ⟨e, m', h1, h5⟩
theorem e48 (x : Mm) (h : x.sm) (i : Int) (hi : -9223372036854775808 ≤ i ∧ i ≤ 9223372036854775807) : E T 48 [mm x, .int .i64 i] [] = some (inoO (imageIno x i), []) := by
  rw [E_eq t48 (Nat.le_of_ble_eq_true rfl)]
  have hin := h.disk.inos
  have hdp := h.deps
  unfold imageIno
  by_cases hc : inside i 1 x.disk.inos.length = true
  · have hc' := hc
    simp only [inside, Bool.and_eq_true, decide_eq_true_eq] at hc'
    obtain ⟨p, hp⟩ := get_at (show (i - 1).toNat < x.disk.inos.length by omega)
    have gp : (x.disk.inos.map ino).getD (i - 1).toNat .undef = .agg [.int .i64 p.kind, .int .i64 p.links, .ro 1 (p.ptrs.map iv)] := gD_map hp
    have hps := h.disk.ino p (List.mem_of_getElem? hp)
    have e1 := e142 p hps
    obtain ⟨e, m, k1, k2, k3⟩ := in48 x hdp i p.kind p.links p.ptrs hps
    have b1 : 0 ≤ i - 1 := by omega
    have b2 : i - 1 < (x.disk.inos.length : Int) := by omega
    have hfl := imFold_len i x.deps p.ptrs
    rw [if_pos hc, hp]
    show _ = some (inoO ⟨p.kind, p.links, x.deps.foldl (imStep i) p.ptrs⟩, [])
    unfold ino inoO at e1
    generalize hF : x.deps.foldl (imStep i) p.ptrs = F at *
    have htk : (List.map iv F).take p.ptrs.length = List.map iv F := List.take_of_length_le (by simp [hfl])
    simp only [mm, F48, h48_5, go_sem, seval, bnd_ite, e116i, hc, gp, e1, b1, b2, w_i64 (i - 1) (by omega), k1, k2, k3, inoO, hfl, htk]
  · have hc : inside i 1 x.disk.inos.length = false := by simpa using hc
    simp only [mm, F48, h48_5, go_sem, seval, bnd_ite, e116i, hc, e141, inoO, iv]
end Go.Proofs.Ytaaajjinpppgeaa
