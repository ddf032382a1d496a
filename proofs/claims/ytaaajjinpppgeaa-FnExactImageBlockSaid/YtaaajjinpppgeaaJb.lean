/- ImageBlock: the program's loop. Own work; no condition. -/
import Derived.Test.YtaaajjinpppgeaaJa
import Derived.Test.YtaaajjinpppgeaaIb
set_option linter.unusedVariables false
set_option linter.unusedSimpArgs false
set_option linter.unusedSectionVars false
namespace Go.Proofs.Ytaaajjinpppgeaa
open Go Go.Abs
set_option maxRecDepth 100000
theorem in55 (deps : List Dp) (hl : deps.length ≤ 1048576) (i : Int) (a : Bool) (b : ByteArray) (ps : List Slt) (hp : ps.length ≤ 1048576) :
    ∃ e m, XL T 0 H55_3 L55_3 ⟨[(1, .int .i64 i), (4, .ptr 0 0 0), (5, .ptr 1 0 0), (14, .ro 11 (deps.map dp)), (15, .int .i64 deps.length), (16, .int .i64 0)],
        [some (3, [.agg [.bool false, .nil, .str ⟨#[]⟩]]), some (3, [.agg [.bool a, .sl 2 0 ps.length, .str b]]), some (2, ps.map slt)]⟩ = some (.exit 0, ⟨e, [some (3, [.agg [.bool false, .nil, .str ⟨#[]⟩]]), some (3, [.agg [.bool a, .sl 2 0 ps.length, .str b]]), some (2, (deps.foldl (ibStep i) ps).map slt)] ++ m⟩) ∧
      lookA e 4 = .ptr 0 0 0 ∧ lookA e 5 = .ptr 1 0 0 := by
  refine (XL_inv (T := T) (b := 0) (hd := H55_3) (x := L55_3) (β := List Slt) (fun j q => ⟨[(1, .int .i64 i), (4, .ptr 0 0 0), (5, .ptr 1 0 0), (14, .ro 11 (deps.map dp)), (15, .int .i64 deps.length), (16, .int .i64 (j : Nat))],
        [some (3, [.agg [.bool false, .nil, .str ⟨#[]⟩]]), some (3, [.agg [.bool a, .sl 2 0 ps.length, .str b]]), some (2, q.map slt)]⟩)
    (fun j q => q = (deps.take j).foldl (ibStep i) ps) deps.length (fun r => r.1 = .exit 0 ∧ (∃ m, r.2.mem = [some (3, [.agg [.bool false, .nil, .str ⟨#[]⟩]]), some (3, [.agg [.bool a, .sl 2 0 ps.length, .str b]]), some (2, (deps.foldl (ibStep i) ps).map slt)] ++ m) ∧
      lookA r.2.env 4 = .ptr 0 0 0 ∧ lookA r.2.env 5 = .ptr 1 0 0) ?step ?last 0 ps (by omega) rfl).elim ?main
  case step =>
    intro j q hj hI
    obtain ⟨d, hd⟩ := get_at hj
    have hj1 : (j : Int) < (deps.length : Int) := by omega
    have hql : q.length = ps.length := by rw [hI]; exact ibFold_len ..
    have gd : (deps.map dp).getD j .undef = .agg [.int .i64 d.id, .int .i64 d.kind, .int .i64 d.ino, .int .i64 d.ptr, .int .i64 d.block, .int .i64 d.slot, .str d.name, .bool d.bits, .bool d.other, .int .i64 d.after, .ro 1 (d.blocks.map iv)] := gD_map hd
    left
    refine ⟨ibStep i q d, ?_, by rw [foldl_take' hd, hI]⟩
    unfold ibStep
    by_cases hc : d.block = i ∧ 0 ≤ d.slot ∧ d.slot < (q.length : Int)
    · rw [if_pos hc]
      obtain ⟨c1, c3, c4⟩ := hc
      rw [hql] at c4
      have c5 : d.slot ≤ (ps.length : Int) - 1 := by omega
      have c6 : d.slot.toNat < ps.length := by omega
      obtain ⟨x0, hx0⟩ := get_at (show d.slot.toNat < q.length by omega)
      have gq : (q.map slt).getD d.slot.toNat .undef = .agg [.str x0.name, .int .i64 x0.ino] := gD_map hx0
      have sm : ∀ x : Slt, (q.map slt).set d.slot.toNat (.agg [.str x.name, .int .i64 x.ino]) = (q.set d.slot.toNat x).map slt := fun x => set_map' (f := slt) (x := x)
      have s0 := sm ⟨⟨#[]⟩, 0⟩
      have s1 := sm ⟨d.name, d.ino⟩
      simp only at s0 s1
      by_cases k2 : d.kind = 2
      · simp only [XG, L55_3, h55_3, go_sem, seval, bnd_ite, hj1, gd, gq, s0, s1, hql, e117i, inside, c1, k2, c3, c4, c5, c6, Int.natCast_nonneg, w_i64 ((j : Int) + 1) (by omega), w_i64 ((ps.length : Int) - 1) (by omega), decide_true, Bool.and_self, Bool.not_true]
        rfl
      by_cases k4 : d.kind = 4
      · by_cases ha : 0 < d.after
        · simp only [XG, L55_3, h55_3, go_sem, seval, bnd_ite, hj1, gd, gq, s0, s1, hql, e117i, inside, c1, k4, ha, c3, c4, c5, c6, Int.natCast_nonneg, w_i64 ((j : Int) + 1) (by omega), w_i64 ((ps.length : Int) - 1) (by omega), decide_true, Bool.and_self, Bool.not_true]
          rfl
        · simp only [XG, L55_3, h55_3, go_sem, seval, bnd_ite, hj1, gd, gq, s0, s1, hql, e117i, inside, c1, k4, ha, c3, c4, c5, c6, Int.natCast_nonneg, w_i64 ((j : Int) + 1) (by omega), w_i64 ((ps.length : Int) - 1) (by omega), decide_true, Bool.and_self, Bool.not_true]
          rfl
      · simp only [XG, L55_3, h55_3, go_sem, seval, bnd_ite, hj1, gd, gq, s0, s1, hql, e117i, inside, c1, k2, k4, c3, c4, c5, c6, Int.natCast_nonneg, w_i64 ((j : Int) + 1) (by omega), w_i64 ((ps.length : Int) - 1) (by omega), decide_true, decide_false, Bool.and_self, Bool.not_true]
        rfl
    · rw [if_neg hc]
      have hf : (!decide (d.block = i) || !(decide (0 ≤ d.slot) && decide (d.slot ≤ (ps.length : Int) - 1))) = true := by
        rw [← Bool.not_and, Bool.not_eq_true', ← Bool.not_eq_true]
        intro h
        simp only [Bool.and_eq_true, decide_eq_true_eq] at h
        exact hc ⟨h.1, h.2.1, by omega⟩
      simp only [XG, L55_3, h55_3, go_sem, seval, bnd_ite, hj1, gd, hql, e117i, inside, Int.natCast_nonneg, w_i64 ((j : Int) + 1) (by omega), w_i64 ((ps.length : Int) - 1) (by omega), hf, if_true]
      rfl
  case last =>
    intro q hI
    rw [List.take_length] at hI
    simp only [XG, L55_3, h55_3, go_sem, seval, bnd_ite, Int.lt_irrefl, decide_false]
    exact .mk (by simp) ⟨rfl, ⟨[], by rw [← hI]⟩, rfl, rfl⟩
  case main =>
  rintro ⟨x, e, m⟩ ⟨h1, h2, h3, ⟨m', h4⟩, h5⟩
  simp only at h3 h4; subst h3; subst h4
  exact ⟨e, m', h1, h5⟩
end Go.Proofs.Ytaaajjinpppgeaa
