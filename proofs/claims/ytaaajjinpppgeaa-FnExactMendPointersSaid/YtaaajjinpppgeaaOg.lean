/- What is right: one that leans, by the program. Own work; no condition. -/
import Derived.Test.YtaaajjinpppgeaaOf
set_option linter.unusedVariables false
set_option linter.unusedSimpArgs false
set_option linter.unusedSectionVars false
namespace Go.Proofs.Ytaaajjinpppgeaa
open Go Go.Abs
set_option maxRecDepth 100000
theorem blkAt_eq {x : Dsk} {i : Int} {p : Blk} (h : x.blks[(i - 1).toNat]? = some p) : blkAt x i = p := by unfold blkAt; rw [List.getD_eq_getElem?_getD, h]; rfl
theorem inoAt_eq {x : Dsk} {i : Int} {p : Ino} (h : x.inos[(i - 1).toNat]? = some p) : inoAt x i = p := by unfold inoAt; rw [List.getD_eq_getElem?_getD, h]; rfl
theorem getD_at {α : Type} {l : List α} {i : Nat} {p z : α} (h : l[i]? = some p) : l.getD i z = p := by simp [List.getD, h]
structure DepBase (n : Int) (d : Dp) : Prop where
  id : 1 ≤ d.id ∧ d.id ≤ n - 1
  kind : 1 ≤ d.kind ∧ d.kind ≤ 6
  ino : 1 ≤ d.ino ∧ d.ino ≤ 8
  ptr : 0 ≤ d.ptr ∧ d.ptr ≤ 1
  block : 0 ≤ d.block ∧ d.block ≤ 16
  slot : 0 ≤ d.slot ∧ d.slot ≤ 3
  after : 0 ≤ d.after ∧ d.after ≤ n - 1
theorem depBase_iff {n : Int} {d : Dp} : depBase n d = true ↔ DepBase n d := by
  unfold depBase inside
  simp only [Bool.and_eq_true, decide_eq_true_eq]
  exact ⟨fun ⟨⟨⟨⟨⟨⟨a, b⟩, c⟩, d⟩, e⟩, f⟩, g⟩ => ⟨a, b, c, d, e, f, g⟩, fun ⟨a, b, c, d, e, f, g⟩ => ⟨⟨⟨⟨⟨⟨a, b⟩, c⟩, d⟩, e⟩, f⟩, g⟩⟩
theorem in156 (x : Mm) (d : Dp) (hk : d.ok) : ∃ r, XL T 0 H156_2 L156_2 ⟨[(2, .ptr 0 0 0), (3, .ptr 1 0 0), (10, .ro 1 (d.blocks.map iv)), (11, .int .i64 d.blocks.length), (12, .int .i64 0)], [some (7, [.agg (mmV x)]), some (11, [.agg (dpV d)])]⟩ = some r ∧
    (depBlocks d = true ∧ (r.1 = .exit 0 ∧ lookA r.2.env 2 = .ptr 0 0 0 ∧ lookA r.2.env 3 = .ptr 1 0 0 ∧ r.2.mem = [some (7, [.agg (mmV x)]), some (11, [.agg (dpV d)])]) ∨ depBlocks d = false ∧ (r.1 = .ret ∧ lookA r.2.env 4 = .bool false)) := by
  have hl := hk.2
  unfold maxLen at hl
  refine XL_all d.blocks (fun p => inside p 1 16) (fun i => ⟨[(2, .ptr 0 0 0), (3, .ptr 1 0 0), (10, .ro 1 (d.blocks.map iv)), (11, .int .i64 d.blocks.length), (12, .int .i64 (i : Nat))], [some (7, [.agg (mmV x)]), some (11, [.agg (dpV d)])]⟩)
    (fun r => r.1 = .exit 0 ∧ lookA r.2.env 2 = .ptr 0 0 0 ∧ lookA r.2.env 3 = .ptr 1 0 0 ∧ r.2.mem = [some (7, [.agg (mmV x)]), some (11, [.agg (dpV d)])]) (fun r => r.1 = .ret ∧ lookA r.2.env 4 = .bool false) ?step ?hit ?last
  case step =>
    intro i p hp hi hP _
    have hi1 : (i : Int) < (d.blocks.length : Int) := by omega
    have gp : (d.blocks.map iv).getD i .undef = .int .i64 p := gD_map hp
    have e1 := e226 p
    unfold mmV dpV
    simp only [XG, L156_2, h156_2, go_sem, seval, bnd_ite, hi1, gp, e1, hP, Int.natCast_nonneg, w_i64 ((i : Int) + 1) (by omega), Bool.not_true, Bool.false_eq_true, if_false]
    first | done | rfl
  case hit =>
    intro i p hp hi hP _
    have hi1 : (i : Int) < (d.blocks.length : Int) := by omega
    have gp : (d.blocks.map iv).getD i .undef = .int .i64 p := gD_map hp
    have e1 := e226 p
    unfold mmV dpV
    simp only [XG, L156_2, h156_2, go_sem, seval, bnd_ite, hi1, gp, e1, hP, Int.natCast_nonneg, w_i64 ((i : Int) + 1) (by omega), Bool.not_false, if_true]
    exact .mk (by simp) ⟨rfl, rfl⟩
  case last =>
    intro _
    unfold mmV dpV
    simp only [XG, L156_2, h156_2, go_sem, seval, bnd_ite, Int.lt_irrefl, decide_false]
    exact .mk (by simp) ⟨rfl, rfl, rfl, rfl⟩
set_option maxHeartbeats 1000000 in
theorem e156 (x : Mm) (d : Dp) (hk : d.ok) (hx : x.ok) (hd : DskOk x.disk) (hn : 1 ≤ x.next ∧ x.next ≤ 100000) : E T 156 [mm x, dp d] [] = some (.bool (depBlocks d && (depBase x.next d && depAt x.disk d)), []) := by
  rw [E_eq t156 (Nat.le_of_ble_eq_true rfl)]
  obtain ⟨⟨y, e, m⟩, k1, k2⟩ := in156 x d hk
  unfold mmV dpV at k1 k2
  rcases k2 with ⟨hb, kx, k3, k4, km⟩ | ⟨hb, kx, k3⟩
  case inr =>
    simp only at kx k3; subst kx
    simp only [mm, dp, F156, h156_2, go_sem, seval, bnd_ite, k1, k3, hb, Bool.false_and]
  simp only at kx k3 k4 km; subst kx; subst km
  have w1 := w_i64 (x.next - 1) (by omega)
  have i7 := e227 d.ino
  rw [hb, Bool.true_and]
  by_cases hc : depBase x.next d = true
  case neg =>
    have hc : depBase x.next d = false := Bool.eq_false_iff.2 hc
    have hf : (!(inside d.id 1 (x.next - 1) && inside d.after 0 (x.next - 1)) || !inside d.kind 1 6 || !inside d.ino 1 8 || !inside d.ptr 0 1 || !inside d.block 0 16 || !inside d.slot 0 3) = true := by
      unfold depBase at hc
      rw [← Bool.not_and, ← Bool.not_and, ← Bool.not_and, ← Bool.not_and, ← Bool.not_and, Bool.not_eq_true', ← hc]
      cases inside d.id 1 (x.next - 1) <;> cases inside d.after 0 (x.next - 1) <;> simp
    simp only [mm, dp, F156, h156_2, go_sem, seval, bnd_ite, k1, k3, k4, w1, e117i, i7, hf, hc, if_true, Bool.false_and]
  have hf : (!(inside d.id 1 (x.next - 1) && inside d.after 0 (x.next - 1)) || !inside d.kind 1 6 || !inside d.ino 1 8 || !inside d.ptr 0 1 || !inside d.block 0 16 || !inside d.slot 0 3) = false := by
    have h2 := hc
    unfold depBase at h2
    simp only [Bool.and_eq_true] at h2
    obtain ⟨⟨⟨⟨⟨⟨a, b⟩, c⟩, dd⟩, ee⟩, f⟩, g⟩ := h2
    rw [a, b, c, dd, ee, f, g]; rfl
  have B := depBase_iff.1 hc
  obtain ⟨b1, b2, b3, b4, b5, b6, b7⟩ := B
  have n1 := hd.inos
  have n2 := hd.blks
  obtain ⟨p, hp⟩ := get_at (show (d.ino - 1).toNat < x.disk.inos.length by omega)
  have ip := e176 x.disk d.ino (by omega) (by simp [inside]; omega) p hp
  have hpo := inoOk_iff.1 (hd.ino p (List.mem_of_getElem? hp))
  have ptwo := hpo.two
  have q6 := e228 d
  have q7 := e229 d
  have qn := e230 d.name hk.1
  have ai := inoAt_eq hp
  have blkO : ∃ B : AV, E T 149 [dsk x.disk, .int .i64 d.block] [] = some (B, []) ∧ (B = .agg [.bool false, .ro 2 [], .str ⟨#[]⟩] ∧ d.block = 0 ∨ ∃ b : Blk, B = blk b ∧ 0 < d.block ∧ x.disk.blks[(d.block - 1).toNat]? = some b) := by
    by_cases c : d.block = 0
    · exact ⟨_, e149n x.disk d.block (by simp [inside, c]), .inl ⟨rfl, c⟩⟩
    · obtain ⟨b, hb⟩ := get_at (show (d.block - 1).toNat < x.disk.blks.length by omega)
      exact ⟨_, e149 x.disk d.block (by omega) (by simp [inside]; omega) b hb, .inr ⟨b, rfl, by omega, hb⟩⟩
  obtain ⟨p0, hp0⟩ := get_at (show d.ptr.toNat < p.ptrs.length by omega)
  have gp0 : (p.ptrs.map iv).getD d.ptr.toNat .undef = .int .i64 p0 := gD_map hp0
  have c4 : d.ptr < (p.ptrs.length : Int) := by omega
  have c6 : 0 ≤ d.ptr := by omega
  have gd0 : p.ptrs.getD d.ptr.toNat 0 = p0 := getD_at hp0
  rw [hc, Bool.true_and]
  unfold depAt
  rw [ai, gd0]
  rw [show ino p = .agg [.int .i64 p.kind, .int .i64 p.links, .ro 1 (p.ptrs.map iv)] from rfl] at ip
  unfold dsk at ip
  unfold dp at q6 q7
  obtain ⟨B, hB, hB2⟩ := blkO
  unfold dsk at hB
  rcases hB2 with ⟨rfl, h0⟩ | ⟨b, rfl, h0, hb0⟩
  · -- no block
    have hz : ¬ 0 < d.block := by omega
    by_cases t1 : d.kind = 1 ∨ d.kind = 6
    · have u1 : (decide (d.kind = 1) || decide (d.kind = 6)) = true := by simpa using t1
      simp only [mm, dp, F156, h156_2, go_sem, seval, bnd_ite, k1, k3, k4, w1, e117i, i7, hf, hB, q6, u1, hz, t1, if_true, Bool.false_and, decide_false, Bool.false_eq_true, if_false]
    have u1 : (decide (d.kind = 1) || decide (d.kind = 6)) = false := by simpa using t1
    by_cases t2 : d.kind = 2 ∨ d.kind = 3
    · have u2 : (decide (d.kind = 2) || decide (d.kind = 3)) = true := by simpa using t2
      simp only [mm, dp, F156, h156_2, go_sem, seval, bnd_ite, k1, k3, k4, w1, e117i, i7, hf, hB, q6, q7, u1, u2, hz, t1, t2, if_true, Bool.false_and, decide_false, Bool.false_eq_true, if_false]
    have u2 : (decide (d.kind = 2) || decide (d.kind = 3)) = false := by simpa using t2
    rw [if_neg t1, if_neg t2]
    by_cases t3 : d.kind = 4
    · rw [if_pos t3]
      have t3 : decide (d.kind = 4) = true := by simpa using t3
      simp only [mm, dp, F156, h156_2, go_sem, seval, bnd_ite, k1, k3, k4, w1, e117i, i7, hf, hB, q6, q7, u1, u2, hz, t1, t2, t3, if_true, Bool.false_and, decide_false, decide_true, Bool.false_eq_true, if_false]
    · simp only [mm, dp, F156, h156_2, go_sem, seval, bnd_ite, k1, k3, k4, w1, e117i, i7, hf, hB, q6, q7, u1, u2, hz, t1, t2, t3, if_true, Bool.false_and, decide_false, decide_true, Bool.false_eq_true, if_false]
  · have bo := hd.blk b (List.mem_of_getElem? hb0)
    rw [blkAt_eq hb0]
    rw [show blk b = .agg [.bool b.dir, .ro 2 (b.slots.map slt), .str b.text] from rfl] at hB
    by_cases t1 : d.kind = 1 ∨ d.kind = 6
    · have u1 : (decide (d.kind = 1) || decide (d.kind = 6)) = true := by simpa using t1
      simp only [mm, dp, F156, h156_2, go_sem, seval, bnd_ite, k1, k3, k4, w1, e117i, i7, hf, hB, ip, gp0, c4, c6, q6, u1, h0, t1, if_true, Bool.true_and, decide_true, Bool.false_eq_true, if_false]
    have u1 : (decide (d.kind = 1) || decide (d.kind = 6)) = false := by simpa using t1
    by_cases t2 : d.kind = 2 ∨ d.kind = 3
    · have u2 : (decide (d.kind = 2) || decide (d.kind = 3)) = true := by simpa using t2
      cases bd : b.dir with
      | false =>
        simp only [mm, dp, F156, h156_2, go_sem, seval, bnd_ite, k1, k3, k4, w1, e117i, i7, hf, hB, bd, q6, q7, u1, u2, h0, t1, t2, if_true, Bool.false_and, Bool.true_and, decide_false, decide_true, Bool.and_false, Bool.false_eq_true, if_false]
      | true =>
        obtain ⟨s4, _, sO⟩ := blkOk_dir bo bd
        obtain ⟨s, hs⟩ := get_at (show d.slot.toNat < b.slots.length by omega)
        have gs : (b.slots.map slt).getD d.slot.toNat .undef = .agg [.str s.name, .int .i64 s.ino] := gD_map hs
        have gs0 : b.slots.getD d.slot.toNat slt0 = s := getD_at hs
        have c7 : d.slot < (b.slots.length : Int) := by omega
        have c8 : 0 ≤ d.slot := by omega
        rw [gs0]
        have hso := sO _ s hs
        by_cases ne : s.name = ⟨#[]⟩
        · have : s.ino ≠ d.ino := by
            unfold slotOk bare at hso
            have nk : nameOk s.name = false := by rw [ne]; rfl
            rw [nk] at hso
            simp [ne] at hso
            omega
          simp only [mm, dp, F156, h156_2, go_sem, seval, bnd_ite, k1, k3, k4, w1, e117i, i7, hf, hB, bd, q6, q7, u1, u2, h0, t1, t2, gs, c7, c8, ne, this, if_true, Bool.false_and, Bool.true_and, decide_false, decide_true, Bool.not_true, Bool.and_false, Bool.and_self, Bool.false_eq_true, if_false]
        · simp only [mm, dp, F156, h156_2, go_sem, seval, bnd_ite, k1, k3, k4, w1, e117i, i7, hf, hB, bd, q6, q7, u1, u2, h0, t1, t2, gs, c7, c8, ne, if_true, Bool.false_and, Bool.true_and, decide_false, decide_true, Bool.not_false, Bool.and_self, Bool.false_eq_true, if_false]
    have u2 : (decide (d.kind = 2) || decide (d.kind = 3)) = false := by simpa using t2
    rw [if_neg t1, if_neg t2]
    by_cases t3 : d.kind = 4
    · rw [if_pos t3]
      have t3 : decide (d.kind = 4) = true := by simpa using t3
      simp only [mm, dp, F156, h156_2, go_sem, seval, bnd_ite, k1, k3, k4, w1, e117i, i7, hf, hB, q6, q7, qn, u1, u2, h0, t1, t2, t3, if_true, Bool.true_and, decide_true, Bool.false_eq_true, if_false]
    · simp only [mm, dp, F156, h156_2, go_sem, seval, bnd_ite, k1, k3, k4, w1, e117i, i7, hf, hB, q6, q7, u1, u2, h0, t1, t2, t3, if_true, Bool.false_and, decide_false, decide_true, Bool.false_eq_true, if_false]
end Go.Proofs.Ytaaajjinpppgeaa
