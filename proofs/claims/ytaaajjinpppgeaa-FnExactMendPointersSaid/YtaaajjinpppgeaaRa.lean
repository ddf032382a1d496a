/- MendPointers: what it does, and the program's inner loop. Own work; no condition. -/
import Derived.Test.YtaaajjinpppgeaaFx
import Derived.Test.YtaaajjinpppgeaaOg
import Derived.Test.YtaaajjinpppgeaaPb
import Derived.Test.YtaaajjinpppgeaaDd
import Derived.Test.YtaaajjinpppgeaaIb
set_option linter.unusedVariables false
set_option linter.unusedSimpArgs false
set_option linter.unusedSectionVars false
namespace Go.Proofs.Ytaaajjinpppgeaa
open Go Go.Abs
set_option maxRecDepth 100000
theorem e141k (k : Int) : E T 141 [.int .i64 k] [] = some (.agg [.int .i64 k, .int .i64 (if k = 0 then 0 else 1), .own 1 [.int .i64 0, .int .i64 0]], []) := by
  rw [E_eq t141 (Nat.le_of_ble_eq_true rfl)]
  by_cases h : k = 0
  · subst h; simp only [F141, go_sem, seval, bnd_ite]; try rfl
  · simp only [F141, go_sem, seval, bnd_ite, h, decide_false, if_false]; try rfl
theorem e143k (k : Int) : E T 143 [.int .i64 k] [] = some (.agg [.int .i64 k, .int .i64 (if k = 0 then 0 else 1), .own 1 [.int .i64 0, .int .i64 0]], []) := by
  rw [E_eq t143 (Nat.le_of_ble_eq_true rfl)]
  by_cases h : k = 0
  · subst h; simp only [F143, go_sem, seval, bnd_ite]; try rfl
  · simp only [F143, go_sem, seval, bnd_ite, h, decide_false, if_false]; try rfl
def mpStep (x : Dsk) (kind : Int) (st : List Int × List Int) (e : Int × Nat) : List Int × List Int :=
  if e.1 = 0 then st else if (!((blkAt x e.1).dir == decide (kind = 2)) || decide (e.1 ∈ st.2)) = true then (st.1.set e.2 0, st.2) else (st.1, st.2 ++ [e.1])
structure MpI (q0 : List Int) (h0 : Nat) (j : Nat) (st : List Int × List Int) : Prop where
  len : st.1.length = q0.length
  rest : ∀ k, j ≤ k → st.1[k]? = q0[k]?
  had : st.2.length ≤ h0 + j
theorem mpStep_inv {x : Dsk} {kind : Int} {q0 : List Int} {h0 j : Nat} {st : List Int × List Int} {p : Int} (h : MpI q0 h0 j st) : MpI q0 h0 (j + 1) (mpStep x kind st (p, j)) := by
  obtain ⟨h1, h2, h3⟩ := h
  unfold mpStep
  split
  · exact ⟨h1, fun k hk => h2 k (by omega), by omega⟩
  · split
    · refine ⟨by simpa using h1, fun k hk => ?_, by show st.2.length ≤ _; omega⟩
      rw [List.getElem?_set_ne (by show j ≠ k; omega)]; exact h2 k (by omega)
    · exact ⟨h1, fun k hk => h2 k (by omega), by simp; omega⟩
theorem set_self {α : Type} {l : List α} {i : Nat} {p : α} (h : l[i]? = some p) : l.set i p = l := by
  apply List.ext_getElem?
  intro k
  by_cases hk : i = k
  · subst hk
    have := (List.getElem?_eq_some_iff.1 h).1
    rw [List.getElem?_set_self this, h]
  · rw [List.getElem?_set_ne hk]
theorem e130' (xs : List Int) (y : Int) (ha : xs.length ≤ 1048576) : E T 130 [.ro 1 (xs.map iv), .int .i64 y] [] = some (.bool (decide (y ∈ xs)), []) := e130 xs y (by unfold maxLen; omega)
theorem dirAt {x : Dsk} (i : Int) (hx : DskOk x) (h0 : 0 < i) (h1 : i ≤ 16) : E T 149 [dsk x, .int .i64 i] [] = some (blk (blkAt x i), []) := by
  have n2 := hx.blks
  obtain ⟨b, hb⟩ := get_at (show (i - 1).toNat < x.blks.length by omega)
  rw [blkAt_eq hb]
  exact e149 x i (by omega) (by simp [inside]; omega) b hb
def mp66 (x : Dsk) (Q : List Ino) (i : Nat) (k l : Int) (n : Nat) (st : List Int × List Int) : Mem :=
  [some (4, [cpBox x]), some (4, [.agg [.nil, .nil, .nil, .nil]]), some (4, [.agg [.own 1 (x.used.map bv), .own 1 (x.taken.map bv), .sl 5 0 8, .own 3 (x.blks.map blkO)]]), some (1, st.2.map iv),
    some (3, [.agg [.int .i64 k, .int .i64 l, .sl 6 0 n]]), some (3, (Q.map inoO).set i (.agg [.int .i64 k, .int .i64 l, .sl 6 0 n])), some (1, st.1.map iv)]
theorem in66b (x : Dsk) (hx : DskOk x) (Q : List Ino) (i : Nat) (k l : Int) (q0 : List Int) (hq : q0.length = 2) (hp : ∀ p ∈ q0, 0 ≤ p ∧ p ≤ 16) (had : List Int) (hh : had.length ≤ 1000) :
    ∃ r, XL T 0 H66_13 L66_13 ⟨[(1, .ptr 0 0 0), (2, .ptr 1 0 0), (3, .ptr 2 0 0), (4, .sl 3 0 had.length), (6, .ptr 4 0 0), (27, .sl 5 0 8), (28, .int .i64 8), (29, .int .i64 i), (37, .sl 6 0 2), (38, .int .i64 2), (39, .int .i64 0)], mp66 x Q i k l 2 (q0, had)⟩ = some r ∧
      r.1 = .exit 2 ∧ lookA r.2.env 1 = .ptr 0 0 0 ∧ lookA r.2.env 2 = .ptr 1 0 0 ∧ lookA r.2.env 3 = .ptr 2 0 0 ∧ lookA r.2.env 4 = .sl 3 0 (q0.zipIdx.foldl (mpStep x k) (q0, had)).2.length ∧ lookA r.2.env 27 = .sl 5 0 8 ∧ lookA r.2.env 28 = .int .i64 8 ∧ lookA r.2.env 29 = .int .i64 i ∧
        r.2.mem = mp66 x Q i k l 2 (q0.zipIdx.foldl (mpStep x k) (q0, had)) := by
  refine XL_each q0.zipIdx (mpStep x k) (fun j st => ⟨[(1, .ptr 0 0 0), (2, .ptr 1 0 0), (3, .ptr 2 0 0), (4, .sl 3 0 st.2.length), (6, .ptr 4 0 0), (27, .sl 5 0 8), (28, .int .i64 8), (29, .int .i64 i), (37, .sl 6 0 2), (38, .int .i64 2), (39, .int .i64 (j : Nat))], mp66 x Q i k l 2 st⟩) (fun j st => MpI q0 had.length j st)
    (fun st r => r.1 = .exit 2 ∧ lookA r.2.env 1 = .ptr 0 0 0 ∧ lookA r.2.env 2 = .ptr 1 0 0 ∧ lookA r.2.env 3 = .ptr 2 0 0 ∧ lookA r.2.env 4 = .sl 3 0 st.2.length ∧ lookA r.2.env 27 = .sl 5 0 8 ∧ lookA r.2.env 28 = .int .i64 8 ∧ lookA r.2.env 29 = .int .i64 i ∧ r.2.mem = mp66 x Q i k l 2 st) ?step ?last (q0, had) ⟨rfl, fun _ _ => rfl, by show had.length ≤ _; omega⟩
  case step =>
    rintro j st ⟨p, jj⟩ he hj hI
    obtain ⟨hpj, hjj⟩ := zip_at he
    simp only at hpj hjj; subst hjj
    refine ⟨?_, mpStep_inv hI⟩
    rw [List.length_zipIdx, hq] at hj
    obtain ⟨h1, h2, h3⟩ := hI
    obtain ⟨q, hd⟩ := st
    simp only at h1 h2 h3
    have j1 : (jj : Int) < 2 := by omega
    have j2 : jj < 2 := hj
    have g1 : (q.map iv).getD jj .undef = .int .i64 p := gD_map ((h2 jj (Nat.le_refl _)).trans hpj)
    have hpr := hp p (List.mem_of_getElem? hpj)
    have hw := w_i64 ((jj : Int) + 1) (by omega)
    unfold mp66
    unfold mpStep
    by_cases c0 : p = 0
    · subst c0
      rw [if_pos rfl]
      simp only [cpBox, XG, L66_13, h66_13, go_sem, seval, bnd_ite, is_set, ite_self, j1, j2, h1, hq, g1, hw, Int.natCast_nonneg, decide_true, if_true]
      rfl
    rw [if_neg c0]
    have e1 := dirAt p hx (by omega) hpr.2
    unfold dsk at e1
    rw [show blk (blkAt x p) = .agg [.bool (blkAt x p).dir, .ro 2 ((blkAt x p).slots.map slt), .str (blkAt x p).text] from rfl] at e1
    have e2 := e130' hd p (by omega)
    have hap : (hd.length + 1) * 8 ≤ 140737488355328 := by omega
    have tk : (hd.map iv).take hd.length = hd.map iv := List.take_of_length_le (by simp)
    by_cases c1 : (!((blkAt x p).dir == decide (k = 2)) || decide (p ∈ hd)) = true
    · rw [if_pos c1]
      have sm : (q.map iv).set jj (.int .i64 0) = (q.set jj 0).map iv := set_map' (f := iv) (x := (0 : Int))
      simp only [cpBox, XG, L66_13, h66_13, go_sem, seval, bnd_ite, is_set, ite_self, j1, j2, h1, hq, g1, hw, c0, e1, e2, c1, sm, Int.natCast_nonneg, decide_false, Bool.false_eq_true, if_false, if_true]
      rfl
    · rw [if_neg c1]
      have c1 : (!((blkAt x p).dir == decide (k = 2)) || decide (p ∈ hd)) = false := Bool.eq_false_iff.2 c1
      simp only [cpBox, XG, L66_13, h66_13, go_sem, seval, bnd_ite, is_set, ite_self, j1, j2, h1, hq, g1, hw, c0, e1, e2, c1, hap, tk, Int.natCast_nonneg, decide_false, Bool.false_eq_true, if_false]
      simp only [List.map_append, List.map_cons, List.map_nil, List.length_append]
      rfl
  case last =>
    intro st hI
    rw [List.length_zipIdx, hq]
    unfold mp66
    have j1 : ¬ ((2 : Nat) : Int) < 2 := by omega
    simp only [cpBox, XG, L66_13, h66_13, go_sem, seval, bnd_ite, j1, decide_false]
    exact .mk (by simp) ⟨rfl, rfl, rfl, rfl, rfl, rfl, rfl, rfl, rfl⟩
end Go.Proofs.Ytaaajjinpppgeaa
