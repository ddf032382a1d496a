/- The blocks that inodes have; the bits that are not set. Own work; no condition. -/
import Derived.Test.YtaaajjinpppgeaaGreatGe
set_option linter.unusedVariables false
set_option linter.unusedSimpArgs false
set_option linter.unusedSectionVars false
namespace Go.Proofs.YtaaajjinpppgeaaGreat
open Go Go.Abs
set_option maxRecDepth 100000
theorem cnt_count {α : Type} (P : α → Bool) (l : List α) : ∀ n : Int, l.foldl (cnt P) n = n + (l.countP P : Nat) := by
  induction l with
  | nil => intro n; simp
  | cons a l ih =>
    intro n
    rw [List.foldl_cons, ih, List.countP_cons]
    unfold cnt; split <;> omega
theorem cnt_filter {α : Type} (P Q : α → Bool) (hPQ : ∀ a, P a = true → Q a = true) (l : List α) (n : Int) : (l.filter Q).foldl (cnt P) n = l.foldl (cnt P) n := by
  rw [cnt_count, cnt_count, List.countP_filter]
  have : l.countP (fun a => P a && Q a) = l.countP P := List.countP_congr fun a _ => by
    have := hPQ a; cases h : P a <;> simp_all
  rw [this]
def pos (p : Int) : Bool := decide (0 < p)
def hadOf (x : Dsk) (i : Int) : List Int := (inoOf x i).ptrs.filter pos
def hadStep (L : List Int) (p : Int) : List Int := if pos p then L ++ [p] else L
theorem hadStep_all (l : List Int) : ∀ L : List Int, l.foldl hadStep L = L ++ l.filter pos := by
  induction l with
  | nil => intro L; simp
  | cons s l ih => intro L; rw [List.foldl_cons, ih]; unfold hadStep; cases h : pos s <;> simp [h]
theorem hadOf_len (x : Dsk) (i : Int) : (hadOf x i).length ≤ ptrsN x i := List.length_filter_le ..
theorem in180 (x : Dsk) (l : List Int) (i : Nat) (q : List Int) (hq : q.length ≤ 1048576) (L : List Int) (hL : L.length ≤ 1099511627776) :
    ∃ r, XL T 0 H186_7 L186_7 ⟨[(2, .ptr 0 0 0), (5, .sl 1 0 L.length), (11, .ro 1 (l.map iv)), (12, .int .i64 l.length), (13, .int .i64 i), (20, .ro 1 (q.map iv)), (21, .int .i64 q.length), (22, .int .i64 0)], [some (4, [dskC x]), some (1, L.map iv)]⟩ = some r ∧
      r.1 = .exit 2 ∧ lookA r.2.env 2 = .ptr 0 0 0 ∧ lookA r.2.env 5 = .sl 1 0 (L ++ q.filter pos).length ∧ lookA r.2.env 11 = .ro 1 (l.map iv) ∧ lookA r.2.env 12 = .int .i64 l.length ∧ lookA r.2.env 13 = .int .i64 i ∧ r.2.mem = [some (4, [dskC x]), some (1, (L ++ q.filter pos).map iv)] := by
  rw [← hadStep_all]
  refine XL_each q hadStep (fun j M => ⟨[(2, .ptr 0 0 0), (5, .sl 1 0 M.length), (11, .ro 1 (l.map iv)), (12, .int .i64 l.length), (13, .int .i64 i), (20, .ro 1 (q.map iv)), (21, .int .i64 q.length), (22, .int .i64 (j : Nat))], [some (4, [dskC x]), some (1, M.map iv)]⟩) (fun j M => M.length ≤ L.length + j)
    (fun M r => r.1 = .exit 2 ∧ lookA r.2.env 2 = .ptr 0 0 0 ∧ lookA r.2.env 5 = .sl 1 0 M.length ∧ lookA r.2.env 11 = .ro 1 (l.map iv) ∧ lookA r.2.env 12 = .int .i64 l.length ∧ lookA r.2.env 13 = .int .i64 i ∧ r.2.mem = [some (4, [dskC x]), some (1, M.map iv)]) ?step ?last L (by omega)
  case step =>
    intro j M p hp hj hM
    refine ⟨?_, by unfold hadStep; split <;> (try simp only [List.length_append, List.length_cons, List.length_nil]) <;> omega⟩
    have j1 : (j : Int) < (q.length : Int) := by omega
    have gp : (q.map iv).getD j .undef = .int .i64 p := gD_map hp
    have hw := w_i64 ((j : Int) + 1) (by omega)
    have hap : (M.length + 1) * 8 ≤ 140737488355328 := by omega
    have tk : (M.map iv).take M.length = M.map iv := List.take_of_length_le (by simp)
    unfold dskC hadStep pos
    cases hc : decide (0 < p) with
    | true =>
      simp only [XG, L186_7, h186_7, go_sem, seval, bnd_ite, j1, hj, gp, hc, hw, hap, tk, Int.natCast_nonneg, decide_true, if_true, List.map_append, List.map_cons, List.map_nil, List.length_append]
      first | done | rfl
    | false =>
      simp only [XG, L186_7, h186_7, go_sem, seval, bnd_ite, j1, hj, gp, hc, hw, Int.natCast_nonneg, decide_true, if_true, Bool.false_eq_true, if_false]
      first | done | rfl
  case last =>
    intro M hM
    unfold dskC
    simp only [XG, L186_7, h186_7, go_sem, seval, bnd_ite, Int.lt_irrefl, decide_false]
    exact .mk (by simp) ⟨rfl, rfl, rfl, rfl, rfl, rfl, rfl⟩
theorem e186 (x : Dsk) (h : x.sm) (l : List Int) (hl : l.length ≤ 1048576) (ht : ptrsSum x l ≤ 1048576) : E T 186 [dsk x, .ro 1 (l.map iv)] [] = some (.own 1 ((l.flatMap (hadOf x)).map iv), []) := by
  rw [E_eqW t186 (Nat.le_of_ble_eq_true rfl)]
  have hs : l.flatMap (hadOf x) = l.foldl (fun L i => L ++ hadOf x i) [] := by
    have : ∀ (l : List Int) (L : List Int), l.foldl (fun L q => L ++ hadOf x q) L = L ++ l.flatMap (hadOf x) := by
      intro l
      induction l with
      | nil => intro L; simp
      | cons q l ih => intro L; rw [List.foldl_cons, ih]; simp
    rw [this]; simp
  have psum : ∀ i p, l[i]? = some p → ptrsSum x (l.take (i + 1)) = ptrsSum x (l.take i) + ptrsN x p := fun i p hp => by
    unfold ptrsSum; rw [take_snoc hp]; simp
  have ple : ∀ i, ptrsSum x (l.take i) ≤ ptrsSum x l := fun i => by
    have : ptrsSum x l = ptrsSum x (l.take i) + ptrsSum x (l.drop i) := by
      unfold ptrsSum; rw [← List.sum_append, ← List.map_append, List.take_append_drop]
    omega
  refine (XL_each (T := T) (b := 0) (hd := H186_3) (x := L186_3) l (fun L i => L ++ hadOf x i) (fun j L => ⟨[(2, .ptr 0 0 0), (5, .sl 1 0 L.length), (11, .ro 1 (l.map iv)), (12, .int .i64 l.length), (13, .int .i64 (j : Nat))], [some (4, [dskC x]), some (1, L.map iv)]⟩) (fun j L => L.length ≤ ptrsSum x (l.take j))
    (fun L r => r.1 = .exit 0 ∧ lookA r.2.env 5 = .sl 1 0 L.length ∧ r.2.mem = [some (4, [dskC x]), some (1, L.map iv)]) ?step ?last [] (by simp)).elim ?main
  case step =>
    intro j L i hi hj hL
    have hn := hadOf_len x i
    have hps := psum j i hi
    have hpl := ple (j + 1)
    refine ⟨?_, by rw [hps]; simp only [List.length_append]; omega⟩
    have j1 : (j : Int) < (l.length : Int) := by omega
    have gi : (l.map iv).getD j .undef = .int .i64 i := gD_map hi
    have e1 := e143u x h i
    have hsm := inoOf_sm h i
    unfold hadOf
    generalize inoOf x i = p at *
    unfold dsk at e1
    rw [show ino p = .agg [.int .i64 p.kind, .int .i64 p.links, .ro 1 (p.ptrs.map iv)] from rfl] at e1
    unfold Ino.sm at hsm
    obtain ⟨⟨y, e, m⟩, k1, kx, k2, k3, k4, k5, k6, km⟩ := in180 x l j p.ptrs hsm L (by omega)
    simp only at kx k2 k3 k4 k5 k6 km; subst kx; subst km
    unfold dskC at k1
    have hw := w_i64 ((j : Int) + 1) (by omega)
    simp only [XG, L186_3, h186_3, h186_7, dskC, go_sem, seval, bnd_ite, j1, gi, e1, hw, k1, k2, k3, k4, k5, k6, Int.natCast_nonneg, decide_true]
    first | done | rfl
  case last =>
    intro L hL
    unfold dskC
    simp only [XG, L186_3, h186_3, go_sem, seval, bnd_ite, Int.lt_irrefl, decide_false]
    exact .mk (by simp) ⟨rfl, rfl, rfl⟩
  case main =>
  rintro ⟨y, e, m⟩ ⟨k1, kx, k2, km⟩
  simp only at kx k2 km; subst kx; subst km
  have hs0 : ((0 : Nat) : Int) = 0 := rfl
  simp only [hs0, List.map_nil, List.length_nil] at k1
  rw [← hs] at k1 k2
  unfold dskC at k1
  generalize l.flatMap (hadOf x) = S at *
  have tk : (S.map iv).take S.length = S.map iv := List.take_of_length_le (by simp)
  simp only [dsk, F186, h186_3, dskC, go_sem, seval, bnd_ite, k1, k2, tk]
noncomputable def hadR (x : Dsk) : List Int := (reachL x).flatMap (hadOf x)
theorem hadBy_len (x : Dsk) (l : List Int) : (l.flatMap (hadOf x)).length ≤ ptrsSum x l := by
  induction l with
  | nil => simp
  | cons i l ih =>
    have := hadOf_len x i
    unfold ptrsSum at ih ⊢
    simp only [List.flatMap_cons, List.length_append, List.map_cons, List.sum_cons]; omega
theorem hadR_len {x : Dsk} (ht : tot x ≤ 1048576) : (hadR x).length ≤ 1048576 := Nat.le_trans (hadBy_len x _) (ptrs_reach ht)
theorem e186r (x : Dsk) (h : x.sm) (ht : tot x ≤ 1048576) : E T 186 [dsk x, .ro 1 ((reachL x).map iv)] [] = some (.own 1 ((hadR x).map iv), []) :=
  e186 x h (reachL x) (Nat.le_trans (reachL_len x) h.inos) (ptrs_reach ht)
def free (l : List Bool) (n : Int) : Bool := inside n 1 l.length && !(l.getD (n - 1).toNat false)
theorem e221 (l : List Bool) (hl : l.length ≤ 1048576) (n : Int) : E T 221 [.ro 1 (l.map bv), .int .i64 n] [] = some (.bool (free l n), []) := by
  rw [E_eq t221 (Nat.le_of_ble_eq_true rfl)]
  unfold free
  cases hc : inside n 1 l.length with
  | false => simp only [F221, go_sem, seval, bnd_ite, e105i, hc, Bool.false_and, Bool.false_eq_true, if_false]
  | true =>
    have hc' := hc
    simp only [inside, Bool.and_eq_true, decide_eq_true_eq] at hc'
    have b1 : 0 ≤ n - 1 := by omega
    have b2 : n - 1 < (l.length : Int) := by omega
    have w2 := w_i64 (n - 1) (by omega)
    obtain ⟨b, hb⟩ := get_at (show (n - 1).toNat < l.length by omega)
    have gb : (l.map bv).getD (n - 1).toNat .undef = .bool b := gD_map hb
    rw [getD_at hb]
    simp only [F221, go_sem, seval, bnd_ite, e105i, hc, b1, b2, w2, gb, Bool.true_and, if_true]
end Go.Proofs.YtaaajjinpppgeaaGreat
