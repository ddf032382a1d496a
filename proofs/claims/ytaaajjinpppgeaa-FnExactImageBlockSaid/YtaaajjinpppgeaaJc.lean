/- ImageBlock: the reference's loop, and what both come to. Own work; no condition. -/
import Derived.Test.YtaaajjinpppgeaaJb
import Derived.Test.YtaaajjinpppgeaaId
import Derived.Test.YtaaajjinpppgeaaLp
set_option linter.unusedVariables false
set_option linter.unusedSimpArgs false
set_option linter.unusedSectionVars false
namespace Go.Proofs.Ytaaajjinpppgeaa
open Go Go.Abs
set_option maxRecDepth 100000
def ibMem (x : Mm) (a : Bool) (b : ByteArray) (n : Nat) (q : List Slt) : Mem := [some (7, [.agg [.ro 1 (x.disk.used.map bv), .ro 1 (x.disk.taken.map bv), .ro 3 (x.disk.inos.map ino), .ro 3 (x.disk.blks.map blk), .ro 1 (x.dirty.map bv), .ro 11 (x.deps.map dp), .int .i64 x.next]]), some (3, [.agg [.bool false, .nil, .str ⟨#[]⟩]]), some (3, [.agg [.bool a, .sl 3 0 n, .str b]]), some (2, q.map slt)]
theorem in54 (x : Mm) (hl : x.deps.length ≤ 1048576) (i : Int) (a : Bool) (b : ByteArray) (ps : List Slt) (hp : ps.length ≤ 1048576) :
    ∃ r, XL T 0 H54_5 L54_5 ⟨[(1, .int .i64 i), (2, .ptr 0 0 0), (4, .ptr 1 0 0), (5, .ptr 2 0 0), (6, .int .i64 0)], ibMem x a b ps.length ps⟩ = some r ∧ r.1 = .exit 0 ∧ (∃ m, r.2.mem = ibMem x a b ps.length (x.deps.foldl (ibStep i) ps) ++ m) ∧
      lookA r.2.env 4 = .ptr 1 0 0 ∧ lookA r.2.env 5 = .ptr 2 0 0 := by
  refine XL_each x.deps (ibStep i) (fun j q => ⟨[(1, .int .i64 i), (2, .ptr 0 0 0), (4, .ptr 1 0 0), (5, .ptr 2 0 0), (6, .int .i64 (j : Nat))], ibMem x a b ps.length q⟩) (fun _ q => q.length = ps.length)
    (fun q r => r.1 = .exit 0 ∧ (∃ m, r.2.mem = ibMem x a b ps.length q ++ m) ∧ lookA r.2.env 4 = .ptr 1 0 0 ∧ lookA r.2.env 5 = .ptr 2 0 0) ?step ?last ps rfl
  case step =>
    intro j q d hd hj hql
    have hj1 : (j : Int) < (x.deps.length : Int) := by omega
    have gd : (x.deps.map dp).getD j .undef = .agg [.int .i64 d.id, .int .i64 d.kind, .int .i64 d.ino, .int .i64 d.ptr, .int .i64 d.block, .int .i64 d.slot, .str d.name, .bool d.bits, .bool d.other, .int .i64 d.after, .ro 1 (d.blocks.map iv)] := gD_map hd
    refine ⟨?_, by rw [ibStep_len, hql]⟩
    unfold ibStep ibMem
    by_cases hc : d.block = i ∧ 0 ≤ d.slot ∧ d.slot < (q.length : Int)
    · rw [if_pos hc]
      obtain ⟨c1, c3, c4⟩ := hc
      rw [hql] at c4
      have c5 : ¬ d.slot < 0 := by omega
      have c7 : ¬ (ps.length : Int) ≤ d.slot := by omega
      have c6 : d.slot.toNat < ps.length := by omega
      obtain ⟨x0, hx0⟩ := get_at (show d.slot.toNat < q.length by omega)
      have gq : (q.map slt).getD d.slot.toNat .undef = .agg [.str x0.name, .int .i64 x0.ino] := gD_map hx0
      have sm : ∀ x : Slt, (q.map slt).set d.slot.toNat (.agg [.str x.name, .int .i64 x.ino]) = (q.set d.slot.toNat x).map slt := fun x => set_map' (f := slt) (x := x)
      have s0 := sm ⟨⟨#[]⟩, 0⟩
      have s1 := sm ⟨d.name, d.ino⟩
      simp only at s0 s1
      by_cases k2 : d.kind = 2
      · simp only [XG, L54_5, h54_5, go_sem, seval, bnd_ite, hj1, gd, gq, s0, s1, hql, c1, k2, c3, c4, c5, c6, c7, Int.natCast_nonneg, w_i64 ((j : Int) + 1) (by omega), decide_true, decide_false, Bool.and_self, Bool.not_true, Bool.or_self]
        rfl
      by_cases k4 : d.kind = 4
      · by_cases ha : 0 < d.after
        · simp only [XG, L54_5, h54_5, go_sem, seval, bnd_ite, hj1, gd, gq, s0, s1, hql, c1, k4, ha, c3, c4, c5, c6, c7, Int.natCast_nonneg, w_i64 ((j : Int) + 1) (by omega), decide_true, decide_false, Bool.and_self, Bool.not_true, Bool.or_self]
          rfl
        · simp only [XG, L54_5, h54_5, go_sem, seval, bnd_ite, hj1, gd, gq, s0, s1, hql, c1, k4, ha, c3, c4, c5, c6, c7, Int.natCast_nonneg, w_i64 ((j : Int) + 1) (by omega), decide_true, decide_false, Bool.and_self, Bool.not_true, Bool.or_self]
          rfl
      · simp only [XG, L54_5, h54_5, go_sem, seval, bnd_ite, hj1, gd, gq, s0, s1, hql, c1, k2, k4, c3, c4, c5, c6, c7, Int.natCast_nonneg, w_i64 ((j : Int) + 1) (by omega), decide_true, decide_false, Bool.and_self, Bool.not_true, Bool.or_self]
        rfl
    · rw [if_neg hc]
      have hf : (!decide (d.block = i) || decide (d.slot < 0) || decide ((ps.length : Int) ≤ d.slot)) = true := by
        rw [← Bool.not_eq_false]
        intro h
        simp only [Bool.or_eq_false_iff, Bool.not_eq_false', decide_eq_true_eq, decide_eq_false_iff_not] at h
        exact hc ⟨h.1.1, by omega, by omega⟩
      simp only [XG, L54_5, h54_5, go_sem, seval, bnd_ite, hj1, gd, hql, Int.natCast_nonneg, w_i64 ((j : Int) + 1) (by omega), hf, if_true]
      rfl
  case last =>
    intro q hI
    unfold ibMem
    simp only [XG, L54_5, h54_5, go_sem, seval, bnd_ite, Int.lt_irrefl, decide_false]
    exact .mk (by simp) ⟨rfl, ⟨[], rfl⟩, rfl, rfl⟩
end Go.Proofs.Ytaaajjinpppgeaa
