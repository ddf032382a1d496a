/- What is right: one that leans, by the reference. Own work; no condition. -/
import Derived.Test.YtaaajjinpppgeaaOg
set_option linter.unusedVariables false
set_option linter.unusedSimpArgs false
set_option linter.unusedSectionVars false
namespace Go.Proofs.Ytaaajjinpppgeaa
open Go Go.Abs
set_option maxRecDepth 100000
theorem in154a (x : Mm) (d : Dp) (j : Nat) (hk : d.ok) : ∃ r, XL T 0 H154_5 L154_5 ⟨[(1, .int .i64 j), (2, .ptr 0 0 0), (5, .ptr 1 0 0), (6, .int .i64 0)], [some (7, [.agg (mmV x)]), some (11, [.agg (dpV d)])]⟩ = some r ∧
    (depBlocks d = true ∧ (r.1 = .exit 0 ∧ lookA r.2.env 1 = .int .i64 j ∧ lookA r.2.env 2 = .ptr 0 0 0 ∧ lookA r.2.env 5 = .ptr 1 0 0 ∧ r.2.mem = [some (7, [.agg (mmV x)]), some (11, [.agg (dpV d)])]) ∨ depBlocks d = false ∧ (r.1 = .ret ∧ lookA r.2.env 4 = .bool false)) := by
  have hl := hk.2
  unfold maxLen at hl
  refine XL_all d.blocks (fun p => inside p 1 16) (fun i => ⟨[(1, .int .i64 j), (2, .ptr 0 0 0), (5, .ptr 1 0 0), (6, .int .i64 (i : Nat))], [some (7, [.agg (mmV x)]), some (11, [.agg (dpV d)])]⟩)
    (fun r => r.1 = .exit 0 ∧ lookA r.2.env 1 = .int .i64 j ∧ lookA r.2.env 2 = .ptr 0 0 0 ∧ lookA r.2.env 5 = .ptr 1 0 0 ∧ r.2.mem = [some (7, [.agg (mmV x)]), some (11, [.agg (dpV d)])]) (fun r => r.1 = .ret ∧ lookA r.2.env 4 = .bool false) ?step ?hit ?last
  case step =>
    intro i p hp hi hP _
    have hi1 : (i : Int) < (d.blocks.length : Int) := by omega
    have gp : (d.blocks.map iv).getD i .undef = .int .i64 p := gD_map hp
    unfold mmV dpV
    simp only [XG, L154_5, h154_5, go_sem, seval, bnd_ite, hi1, gp, e116i, hP, Int.natCast_nonneg, w_i64 ((i : Int) + 1) (by omega), Bool.not_true, Bool.false_eq_true, if_false]
    first | done | rfl
  case hit =>
    intro i p hp hi hP _
    have hi1 : (i : Int) < (d.blocks.length : Int) := by omega
    have gp : (d.blocks.map iv).getD i .undef = .int .i64 p := gD_map hp
    unfold mmV dpV
    simp only [XG, L154_5, h154_5, go_sem, seval, bnd_ite, hi1, gp, e116i, hP, Int.natCast_nonneg, w_i64 ((i : Int) + 1) (by omega), Bool.not_false, if_true]
    exact .mk (by simp) ⟨rfl, rfl⟩
  case last =>
    intro _
    unfold mmV dpV
    simp only [XG, L154_5, h154_5, go_sem, seval, bnd_ite, Int.lt_irrefl, decide_false]
    exact .mk (by simp) ⟨rfl, rfl, rfl, rfl, rfl⟩
theorem in154b (x : Mm) (d : Dp) (j : Nat) (hj : j ≤ x.deps.length) (hl : x.deps.length ≤ 1048576) : ∃ r, XL T 0 H154_11 L154_11 ⟨[(1, .int .i64 j), (2, .ptr 0 0 0), (5, .ptr 1 0 0), (7, .int .i64 0)], [some (7, [.agg (mmV x)]), some (11, [.agg (dpV d)])]⟩ = some r ∧
    (newId x.deps j d = true ∧ (r.1 = .exit 2 ∧ lookA r.2.env 2 = .ptr 0 0 0 ∧ lookA r.2.env 5 = .ptr 1 0 0 ∧ r.2.mem = [some (7, [.agg (mmV x)]), some (11, [.agg (dpV d)])]) ∨ newId x.deps j d = false ∧ (r.1 = .ret ∧ lookA r.2.env 4 = .bool false)) := by
  have hlt : (x.deps.take j).length = j := by rw [List.length_take]; omega
  refine XL_all (x.deps.take j) (fun q => !decide (q.id = d.id)) (fun i => ⟨[(1, .int .i64 j), (2, .ptr 0 0 0), (5, .ptr 1 0 0), (7, .int .i64 (i : Nat))], [some (7, [.agg (mmV x)]), some (11, [.agg (dpV d)])]⟩)
    (fun r => r.1 = .exit 2 ∧ lookA r.2.env 2 = .ptr 0 0 0 ∧ lookA r.2.env 5 = .ptr 1 0 0 ∧ r.2.mem = [some (7, [.agg (mmV x)]), some (11, [.agg (dpV d)])]) (fun r => r.1 = .ret ∧ lookA r.2.env 4 = .bool false) ?step ?hit ?last
  case step =>
    intro i p hp hi hP _
    rw [hlt] at hi
    rw [List.getElem?_take_of_lt hi] at hp
    have hi1 : (i : Int) < (j : Int) := by omega
    have hi2 : (i : Int) < (x.deps.length : Int) := by omega
    have gp : (x.deps.map dp).getD i .undef = .agg (dpV p) := gD_map hp
    have hP : decide (p.id = d.id) = false := by simpa using hP
    unfold mmV dpV
    unfold dpV at gp
    simp only [XG, L154_11, h154_11, go_sem, seval, bnd_ite, hi1, hi2, gp, hP, Int.natCast_nonneg, w_i64 ((i : Int) + 1) (by omega), Bool.false_eq_true, if_false]
    first | done | rfl
  case hit =>
    intro i p hp hi hP _
    rw [hlt] at hi
    rw [List.getElem?_take_of_lt hi] at hp
    have hi1 : (i : Int) < (j : Int) := by omega
    have hi2 : (i : Int) < (x.deps.length : Int) := by omega
    have gp : (x.deps.map dp).getD i .undef = .agg (dpV p) := gD_map hp
    have hP : decide (p.id = d.id) = true := by simpa using hP
    unfold mmV dpV
    unfold dpV at gp
    simp only [XG, L154_11, h154_11, go_sem, seval, bnd_ite, hi1, hi2, gp, hP, Int.natCast_nonneg, w_i64 ((i : Int) + 1) (by omega), if_true]
    exact .mk (by simp) ⟨rfl, rfl⟩
  case last =>
    intro _
    unfold mmV dpV
    simp only [XG, L154_11, h154_11, go_sem, seval, bnd_ite, hlt, Int.lt_irrefl, decide_false]
    exact .mk (by simp) ⟨rfl, rfl, rfl, rfl⟩
set_option maxHeartbeats 1000000 in
theorem e154 (x : Mm) (j : Nat) (d : Dp) (hj : x.deps[j]? = some d) (hl : x.deps.length ≤ 1048576) (hx : x.ok) (hd : DskOk x.disk) (hn : 1 ≤ x.next ∧ x.next ≤ 100000) : E T 154 [mm x, .int .i64 j] [] = some (.bool (depBlocks d && (depBase x.next d && depAt x.disk d) && newId x.deps j d), []) := by
  rw [E_eq t154 (Nat.le_of_ble_eq_true rfl)]
  have hk := hx.dep d (List.mem_of_getElem? hj)
  have hjl := (List.getElem?_eq_some_iff.1 hj).1
  have gd : (x.deps.map dp).getD j .undef = .agg (dpV d) := gD_map hj
  unfold dpV at gd
  have j1 : (j : Int) < (x.deps.length : Int) := by omega
  have w1 := w_i64 (x.next - 1) (by omega)
  have j2 : (0 : Int) ≤ (j : Int) := Int.natCast_nonneg j
  by_cases hc : depBase x.next d = true
  case neg =>
    have hc : depBase x.next d = false := Bool.eq_false_iff.2 hc
    have hf : (!inside d.id 1 (x.next - 1) || !inside d.kind 1 6 || !inside d.ino 1 8 || !inside d.ptr 0 1 || !inside d.block 0 16 || !inside d.slot 0 3 || !inside d.after 0 (x.next - 1)) = true := by
      unfold depBase at hc
      rw [← Bool.not_and, ← Bool.not_and, ← Bool.not_and, ← Bool.not_and, ← Bool.not_and, ← Bool.not_and, hc]; rfl
    simp only [mm, F154, h154_5, go_sem, seval, bnd_ite, j1, j2, gd, w1, e116i, hf, hc, if_true, Bool.false_and, Bool.and_false]
  have hf : (!inside d.id 1 (x.next - 1) || !inside d.kind 1 6 || !inside d.ino 1 8 || !inside d.ptr 0 1 || !inside d.block 0 16 || !inside d.slot 0 3 || !inside d.after 0 (x.next - 1)) = false := by
    have h2 := hc
    unfold depBase at h2
    rw [← Bool.not_and, ← Bool.not_and, ← Bool.not_and, ← Bool.not_and, ← Bool.not_and, ← Bool.not_and, h2]; rfl
  rw [hc, Bool.true_and]
  obtain ⟨⟨y, e, m⟩, k1, k2⟩ := in154a x d j hk
  unfold mmV dpV at k1 k2
  rcases k2 with ⟨hb, kx, ki, k3, k4, km⟩ | ⟨hb, kx, k3⟩
  case inr =>
    simp only at kx k3; subst kx
    simp only [mm, F154, h154_5, go_sem, seval, bnd_ite, j1, j2, gd, w1, e116i, hf, k1, k3, hb, Bool.false_and, Bool.false_eq_true, if_false]
  simp only at kx ki k3 k4 km; subst kx; subst km
  obtain ⟨⟨y, e', m⟩, l1, l2⟩ := in154b x d j (by omega) hl
  unfold mmV dpV at l1 l2
  rcases l2 with ⟨hw, kx, l3, l4, km⟩ | ⟨hw, kx, l3⟩
  case inr =>
    simp only at kx l3; subst kx
    simp only [mm, F154, h154_5, h154_11, go_sem, seval, bnd_ite, j1, j2, gd, w1, e116i, hf, k1, ki, k3, k4, l1, l3, hb, hw, Bool.and_false, Bool.false_eq_true, if_false]
  simp only at kx l3 l4 km; subst kx; subst km
  rw [hb, hw, Bool.true_and, Bool.and_true]
  have B := depBase_iff.1 hc
  obtain ⟨b1, b2, b3, b4, b5, b6, b7⟩ := B
  have n1 := hd.inos
  have n2 := hd.blks
  obtain ⟨p, hp⟩ := get_at (show (d.ino - 1).toNat < x.disk.inos.length by omega)
  have gi : (x.disk.inos.map ino).getD (d.ino - 1).toNat .undef = .agg [.int .i64 p.kind, .int .i64 p.links, .ro 1 (p.ptrs.map iv)] := gD_map hp
  have i1 : 0 ≤ d.ino - 1 := by omega
  have i2 : d.ino - 1 < (x.disk.inos.length : Int) := by omega
  have w2 := w_i64 (d.ino - 1) (by omega)
  have w3 := w_i64 (d.block - 1) (by omega)
  have hpo := inoOk_iff.1 (hd.ino p (List.mem_of_getElem? hp))
  have ptwo := hpo.two
  have qn := e222 d.name hk.1
  have ai := inoAt_eq hp
  obtain ⟨p0, hp0⟩ := get_at (show d.ptr.toNat < p.ptrs.length by omega)
  have gp0 : (p.ptrs.map iv).getD d.ptr.toNat .undef = .int .i64 p0 := gD_map hp0
  have c4 : d.ptr < (p.ptrs.length : Int) := by omega
  have c6 : 0 ≤ d.ptr := by omega
  have gd0 : p.ptrs.getD d.ptr.toNat 0 = p0 := getD_at hp0
  unfold depAt
  rw [ai, gd0]
  by_cases h0 : 0 < d.block
  case neg =>
    by_cases t1 : d.kind = 1
    · have t : d.kind = 1 ∨ d.kind = 6 := .inl t1
      rw [if_pos t]
      have t1 : decide (d.kind = 1) = true := by simpa using t1
      simp only [mm, F154, h154_5, h154_11, go_sem, seval, bnd_ite, j1, j2, gd, w1, e116i, hf, k1, ki, k3, k4, l1, l3, l4, t1, h0, if_true, decide_false, Bool.false_and, Bool.false_eq_true, if_false]
    have d1 : decide (d.kind = 1) = false := by simpa using t1
    by_cases t2 : d.kind = 6
    · have t : d.kind = 1 ∨ d.kind = 6 := .inr t2
      rw [if_pos t]
      have t2 : decide (d.kind = 6) = true := by simpa using t2
      simp only [mm, F154, h154_5, h154_11, go_sem, seval, bnd_ite, j1, j2, gd, w1, e116i, hf, k1, ki, k3, k4, l1, l3, l4, d1, t2, h0, if_true, decide_false, Bool.false_and, Bool.false_eq_true, if_false]
    have d2 : decide (d.kind = 6) = false := by simpa using t2
    rw [if_neg (show ¬ (d.kind = 1 ∨ d.kind = 6) by omega)]
    by_cases t3 : d.kind = 2
    · rw [if_pos (.inl t3)]
      have t3 : decide (d.kind = 2) = true := by simpa using t3
      simp only [mm, F154, h154_5, h154_11, go_sem, seval, bnd_ite, j1, j2, gd, w1, e116i, hf, k1, ki, k3, k4, l1, l3, l4, d1, d2, t3, h0, if_true, decide_false, Bool.false_and, Bool.false_eq_true, if_false]
    have d3 : decide (d.kind = 2) = false := by simpa using t3
    by_cases t4 : d.kind = 3
    · rw [if_pos (.inr t4)]
      have t4 : decide (d.kind = 3) = true := by simpa using t4
      simp only [mm, F154, h154_5, h154_11, go_sem, seval, bnd_ite, j1, j2, gd, w1, e116i, hf, k1, ki, k3, k4, l1, l3, l4, d1, d2, d3, t4, h0, if_true, decide_false, Bool.false_and, Bool.false_eq_true, if_false]
    have d4 : decide (d.kind = 3) = false := by simpa using t4
    rw [if_neg (show ¬ (d.kind = 2 ∨ d.kind = 3) by omega)]
    by_cases t5 : d.kind = 4
    · rw [if_pos t5]
      have t5 : decide (d.kind = 4) = true := by simpa using t5
      simp only [mm, F154, h154_5, h154_11, go_sem, seval, bnd_ite, j1, j2, gd, w1, e116i, hf, k1, ki, k3, k4, l1, l3, l4, d1, d2, d3, d4, t5, h0, if_true, decide_false, Bool.false_and, Bool.false_eq_true, if_false]
    · rw [if_neg t5]
      have d5 : decide (d.kind = 4) = false := by simpa using t5
      simp only [mm, F154, h154_5, h154_11, go_sem, seval, bnd_ite, j1, j2, gd, w1, e116i, hf, k1, ki, k3, k4, l1, l3, l4, d1, d2, d3, d4, d5, h0, if_true, decide_false, Bool.false_and, Bool.false_eq_true, if_false]
  obtain ⟨b, hb0⟩ := get_at (show (d.block - 1).toNat < x.disk.blks.length by omega)
  have gb : (x.disk.blks.map blk).getD (d.block - 1).toNat .undef = .agg [.bool b.dir, .ro 2 (b.slots.map slt), .str b.text] := gD_map hb0
  have r1 : 0 ≤ d.block - 1 := by omega
  have r2 : d.block - 1 < (x.disk.blks.length : Int) := by omega
  have bo := hd.blk b (List.mem_of_getElem? hb0)
  rw [blkAt_eq hb0]
  by_cases t1 : d.kind = 1
  · have t : d.kind = 1 ∨ d.kind = 6 := .inl t1
    rw [if_pos t]
    have t1 : decide (d.kind = 1) = true := by simpa using t1
    simp only [mm, F154, h154_5, h154_11, go_sem, seval, bnd_ite, j1, j2, gd, w1, w2, gi, i1, i2, gp0, c4, c6, e116i, hf, k1, ki, k3, k4, l1, l3, l4, t1, h0, if_true, decide_true, Bool.true_and, Bool.false_eq_true, if_false]
  have d1 : decide (d.kind = 1) = false := by simpa using t1
  by_cases t2 : d.kind = 6
  · have t : d.kind = 1 ∨ d.kind = 6 := .inr t2
    rw [if_pos t]
    have t2 : decide (d.kind = 6) = true := by simpa using t2
    simp only [mm, F154, h154_5, h154_11, go_sem, seval, bnd_ite, j1, j2, gd, w1, w2, gi, i1, i2, gp0, c4, c6, e116i, hf, k1, ki, k3, k4, l1, l3, l4, d1, t2, h0, if_true, decide_true, Bool.true_and, Bool.false_eq_true, if_false]
  have d2 : decide (d.kind = 6) = false := by simpa using t2
  rw [if_neg (show ¬ (d.kind = 1 ∨ d.kind = 6) by omega)]
  have side : b.dir = true → ∃ s, b.slots[d.slot.toNat]? = some s := fun bd => by
    obtain ⟨s4, _, _⟩ := blkOk_dir bo bd
    exact get_at (by omega)
  have slen : b.dir = true → d.slot < (b.slots.length : Int) := fun bd => by
    obtain ⟨s4, _, _⟩ := blkOk_dir bo bd
    omega
  have c8 : 0 ≤ d.slot := by omega
  by_cases t3 : d.kind = 2
  · rw [if_pos (.inl t3)]
    have t3 : decide (d.kind = 2) = true := by simpa using t3
    cases bd : b.dir with
    | false => simp only [mm, F154, h154_5, h154_11, go_sem, seval, bnd_ite, j1, j2, gd, w1, w3, gb, r1, r2, bd, e116i, hf, k1, ki, k3, k4, l1, l3, l4, d1, d2, t3, h0, if_true, decide_true, Bool.true_and, Bool.false_and, Bool.and_false, Bool.false_eq_true, if_false]
    | true =>
      obtain ⟨s, hs⟩ := side bd
      have gs : (b.slots.map slt).getD d.slot.toNat .undef = .agg [.str s.name, .int .i64 s.ino] := gD_map hs
      have c7 := slen bd
      rw [show b.slots.getD d.slot.toNat slt0 = s from getD_at hs]
      simp only [mm, F154, h154_5, h154_11, go_sem, seval, bnd_ite, j1, j2, gd, w1, w3, gb, r1, r2, bd, gs, c7, c8, e116i, hf, k1, ki, k3, k4, l1, l3, l4, d1, d2, t3, h0, if_true, decide_true, Bool.true_and, Bool.false_and, Bool.and_false, Bool.false_eq_true, if_false]
  have d3 : decide (d.kind = 2) = false := by simpa using t3
  by_cases t4 : d.kind = 3
  · rw [if_pos (.inr t4)]
    have t4 : decide (d.kind = 3) = true := by simpa using t4
    cases bd : b.dir with
    | false => simp only [mm, F154, h154_5, h154_11, go_sem, seval, bnd_ite, j1, j2, gd, w1, w3, gb, r1, r2, bd, e116i, hf, k1, ki, k3, k4, l1, l3, l4, d1, d2, d3, t4, h0, if_true, decide_true, Bool.true_and, Bool.false_and, Bool.and_false, Bool.false_eq_true, if_false]
    | true =>
      obtain ⟨s, hs⟩ := side bd
      have gs : (b.slots.map slt).getD d.slot.toNat .undef = .agg [.str s.name, .int .i64 s.ino] := gD_map hs
      have c7 := slen bd
      rw [show b.slots.getD d.slot.toNat slt0 = s from getD_at hs]
      simp only [mm, F154, h154_5, h154_11, go_sem, seval, bnd_ite, j1, j2, gd, w1, w3, gb, r1, r2, bd, gs, c7, c8, e116i, hf, k1, ki, k3, k4, l1, l3, l4, d1, d2, d3, t4, h0, if_true, decide_true, Bool.true_and, Bool.false_and, Bool.and_false, Bool.false_eq_true, if_false]
  have d4 : decide (d.kind = 3) = false := by simpa using t4
  rw [if_neg (show ¬ (d.kind = 2 ∨ d.kind = 3) by omega)]
  by_cases t5 : d.kind = 4
  · rw [if_pos t5]
    have t5 : decide (d.kind = 4) = true := by simpa using t5
    simp only [mm, F154, h154_5, h154_11, go_sem, seval, bnd_ite, j1, j2, gd, w1, w3, gb, r1, r2, qn, e116i, hf, k1, ki, k3, k4, l1, l3, l4, d1, d2, d3, d4, t5, h0, if_true, decide_true, Bool.true_and, Bool.false_and, Bool.false_eq_true, if_false]
  · rw [if_neg t5]
    have d5 : decide (d.kind = 4) = false := by simpa using t5
    simp only [mm, F154, h154_5, h154_11, go_sem, seval, bnd_ite, j1, j2, gd, w1, e116i, hf, k1, ki, k3, k4, l1, l3, l4, d1, d2, d3, d4, d5, h0, if_true, decide_false, Bool.false_and, Bool.false_eq_true, if_false]
end Go.Proofs.Ytaaajjinpppgeaa
