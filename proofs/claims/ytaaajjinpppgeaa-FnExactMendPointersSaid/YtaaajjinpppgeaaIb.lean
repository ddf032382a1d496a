/- ImageInode: the loops. Own work; no condition. -/
import Derived.Test.YtaaajjinpppgeaaIa
set_option linter.unusedVariables false
set_option linter.unusedSimpArgs false
set_option linter.unusedSectionVars false
namespace Go.Proofs.Ytaaajjinpppgeaa
open Go Go.Abs
set_option maxRecDepth 100000
theorem foldl_take' {α β : Type} {f : β → α → β} {l : List α} {i : Nat} {x : α} {a : β} (h : l[i]? = some x) : (l.take (i + 1)).foldl f a = f ((l.take i).foldl f a) x := by
  rw [take_snoc h, List.foldl_append]; rfl
theorem set_map' {α : Type} {f : α → AV} {l : List α} {i : Nat} {x : α} : (l.map f).set i (f x) = (l.set i x).map f := by rw [List.map_set]
def imStep (i : Int) (ps : List Int) (d : Dp) : List Int := if (d.kind = 1 ∧ d.ino = i) ∧ 0 ≤ d.ptr ∧ d.ptr < (ps.length : Int) then ps.set d.ptr.toNat 0 else ps
theorem imStep_len (i : Int) (ps : List Int) (d : Dp) : (imStep i ps d).length = ps.length := by unfold imStep; split <;> simp
theorem imFold_len (i : Int) (l : List Dp) : ∀ ps : List Int, (l.foldl (imStep i) ps).length = ps.length := by
  induction l with
  | nil => intro ps; rfl
  | cons d l ih => intro ps; rw [List.foldl_cons, ih, imStep_len]
theorem in49 (deps : List Dp) (hl : deps.length ≤ 1048576) (i a b : Int) (ps : List Int) (hp : ps.length ≤ 1048576) :
    ∃ e m, XL T 0 H49_5 L49_5 ⟨[(1, .int .i64 i), (4, .ptr 0 0 0), (5, .ptr 1 0 0), (25, .ro 11 (deps.map dp)), (26, .int .i64 deps.length), (27, .int .i64 0)],
        [some (3, [.agg [.int .i64 0, .int .i64 0, .nil]]), some (3, [.agg [.int .i64 a, .int .i64 b, .sl 2 0 ps.length]]), some (1, ps.map iv)]⟩ = some (.exit 0, ⟨e, [some (3, [.agg [.int .i64 0, .int .i64 0, .nil]]), some (3, [.agg [.int .i64 a, .int .i64 b, .sl 2 0 ps.length]]), some (1, (deps.foldl (imStep i) ps).map iv)] ++ m⟩) ∧
      lookA e 4 = .ptr 0 0 0 ∧ lookA e 5 = .ptr 1 0 0 := by
  refine (XL_inv (T := T) (b := 0) (hd := H49_5) (x := L49_5) (β := List Int) (fun j q => ⟨[(1, .int .i64 i), (4, .ptr 0 0 0), (5, .ptr 1 0 0), (25, .ro 11 (deps.map dp)), (26, .int .i64 deps.length), (27, .int .i64 (j : Nat))],
        [some (3, [.agg [.int .i64 0, .int .i64 0, .nil]]), some (3, [.agg [.int .i64 a, .int .i64 b, .sl 2 0 ps.length]]), some (1, q.map iv)]⟩)
    (fun j q => q = (deps.take j).foldl (imStep i) ps) deps.length (fun r => r.1 = .exit 0 ∧ (∃ m, r.2.mem = [some (3, [.agg [.int .i64 0, .int .i64 0, .nil]]), some (3, [.agg [.int .i64 a, .int .i64 b, .sl 2 0 ps.length]]), some (1, (deps.foldl (imStep i) ps).map iv)] ++ m) ∧
      lookA r.2.env 4 = .ptr 0 0 0 ∧ lookA r.2.env 5 = .ptr 1 0 0) ?step ?last 0 ps (by omega) rfl).elim ?main
  case step =>
    intro j q hj hI
    obtain ⟨d, hd⟩ := get_at hj
    have hj1 : (j : Int) < (deps.length : Int) := by omega
    have hql : q.length = ps.length := by rw [hI]; exact imFold_len ..
    have gd : (deps.map dp).getD j .undef = .agg [.int .i64 d.id, .int .i64 d.kind, .int .i64 d.ino, .int .i64 d.ptr, .int .i64 d.block, .int .i64 d.slot, .str d.name, .bool d.bits, .bool d.other, .int .i64 d.after, .ro 1 (d.blocks.map iv)] := gD_map hd
    left
    refine ⟨imStep i q d, ?_, by rw [foldl_take' hd, hI]⟩
    unfold imStep
    by_cases hc : (d.kind = 1 ∧ d.ino = i) ∧ 0 ≤ d.ptr ∧ d.ptr < (q.length : Int)
    · rw [if_pos hc]
      obtain ⟨⟨c1, c2⟩, c3, c4⟩ := hc
      rw [hql] at c4
      have c5 : d.ptr ≤ (ps.length : Int) - 1 := by omega
      have c6 : d.ptr.toNat < ps.length := by omega
      obtain ⟨x0, hx0⟩ := get_at (show d.ptr.toNat < q.length by omega)
      have gq : (q.map iv).getD d.ptr.toNat .undef = .int .i64 x0 := gD_map hx0
      have sm : (q.map iv).set d.ptr.toNat (.int .i64 0) = (q.set d.ptr.toNat 0).map iv := set_map' (f := iv) (x := (0 : Int))
      simp only [XG, L49_5, h49_5, go_sem, seval, bnd_ite, hj1, gd, gq, sm, hql, e117i, inside, c1, c2, c3, c4, c5, c6, Int.natCast_nonneg, w_i64 ((j : Int) + 1) (by omega), w_i64 ((ps.length : Int) - 1) (by omega), decide_true, Bool.and_self]
      rfl
    · rw [if_neg hc]
      have hf : (decide (d.kind = 1) && decide (d.ino = i) && (decide (0 ≤ d.ptr) && decide (d.ptr ≤ (ps.length : Int) - 1))) = false := by
        rw [← Bool.not_eq_true]
        intro h
        simp only [Bool.and_eq_true, decide_eq_true_eq] at h
        exact hc ⟨h.1, h.2.1, by omega⟩
      simp only [XG, L49_5, h49_5, go_sem, seval, bnd_ite, hj1, gd, hql, e117i, inside, Int.natCast_nonneg, w_i64 ((j : Int) + 1) (by omega), w_i64 ((ps.length : Int) - 1) (by omega), hf, Bool.false_eq_true, if_false]
      rfl
  case last =>
    intro q hI
    rw [List.take_length] at hI
    simp only [XG, L49_5, h49_5, go_sem, seval, bnd_ite, Int.lt_irrefl, decide_false]
    exact .mk (by simp) ⟨rfl, ⟨[], by rw [← hI]⟩, rfl, rfl⟩
  case main =>
  rintro ⟨x, e, m⟩ ⟨h1, h2, h3, ⟨m', h4⟩, h5⟩
  simp only at h3 h4; subst h3; subst h4
  exact ⟨e, m', h1, h5⟩
end Go.Proofs.Ytaaajjinpppgeaa
