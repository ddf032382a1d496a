/- The blocks that inodes have; the bits that are not set. Own work; no condition. -/
import Derived.Test.YtaaajjinpppgeaaGe
set_option linter.unusedVariables false
set_option linter.unusedSimpArgs false
set_option linter.unusedSectionVars false
namespace Go.Proofs.Ytaaajjinpppgeaa
open Go Go.Abs
set_option maxRecDepth 100000
theorem cnt_count {α : Type} (P : α → Bool) (l : List α) : ∀ n : Int, l.foldl (cnt P) n = n + (l.countP P : Nat) := by
  induction l with
  | nil => intro n; simp
  | cons a l ih =>
    intro n
    rw [List.foldl_cons, ih, List.countP_cons]
    unfold cnt; split <;> omega
theorem cnt_filter {α : Type} (P Q : α → Bool) (hPQ : ∀ a, P a = true → Q a = true) (l : List α) (n : Int) : (l.filter Q).foldl (cnt P) n = l.foldl (cnt P) n := by
  rw [cnt_count, cnt_count, List.countP_filter]
  have : l.countP (fun a => P a && Q a) = l.countP P := List.countP_congr fun a _ => by
    have := hPQ a; cases h : P a <;> simp_all
  rw [this]
def pos (p : Int) : Bool := decide (0 < p)
def hadOf (x : Dsk) (i : Int) : List Int := (inoOf x i).ptrs.filter pos
def hadStep (L : List Int) (p : Int) : List Int := if pos p then L ++ [p] else L
theorem hadStep_all (l : List Int) : ∀ L : List Int, l.foldl hadStep L = L ++ l.filter pos := by
  induction l with
  | nil => intro L; simp
  | cons s l ih => intro L; rw [List.foldl_cons, ih]; unfold hadStep; cases h : pos s <;> simp [h]
theorem hadOf_len (x : Dsk) (i : Int) : (hadOf x i).length ≤ ptrsN x i := List.length_filter_le ..
theorem in180 (x : Dsk) (l : List Int) (i : Nat) (q : List Int) (hq : q.length ≤ 1048576) (L : List Int) (hL : L.length ≤ 1099511627776) :
    ∃ r, XL T 0 H180_7 L180_7 ⟨[(2, .ptr 0 0 0), (5, .sl 1 0 L.length), (11, .ro 1 (l.map iv)), (12, .int .i64 l.length), (13, .int .i64 i), (20, .ro 1 (q.map iv)), (21, .int .i64 q.length), (22, .int .i64 0)], [some (4, [dskC x]), some (1, L.map iv)]⟩ = some r ∧
      r.1 = .exit 2 ∧ lookA r.2.env 2 = .ptr 0 0 0 ∧ lookA r.2.env 5 = .sl 1 0 (L ++ q.filter pos).length ∧ lookA r.2.env 11 = .ro 1 (l.map iv) ∧ lookA r.2.env 12 = .int .i64 l.length ∧ lookA r.2.env 13 = .int .i64 i ∧ r.2.mem = [some (4, [dskC x]), some (1, (L ++ q.filter pos).map iv)] := by
  rw [← hadStep_all]
  refine XL_each q hadStep (fun j M => ⟨[(2, .ptr 0 0 0), (5, .sl 1 0 M.length), (11, .ro 1 (l.map iv)), (12, .int .i64 l.length), (13, .int .i64 i), (20, .ro 1 (q.map iv)), (21, .int .i64 q.length), (22, .int .i64 (j : Nat))], [some (4, [dskC x]), some (1, M.map iv)]⟩) (fun j M => M.length ≤ L.length + j)
    (fun M r => r.1 = .exit 2 ∧ lookA r.2.env 2 = .ptr 0 0 0 ∧ lookA r.2.env 5 = .sl 1 0 M.length ∧ lookA r.2.env 11 = .ro 1 (l.map iv) ∧ lookA r.2.env 12 = .int .i64 l.length ∧ lookA r.2.env 13 = .int .i64 i ∧ r.2.mem = [some (4, [dskC x]), some (1, M.map iv)]) ?step ?last L (by omega)
  case step =>
    intro j M p hp hj hM
    refine ⟨?_, by unfold hadStep; split <;> (try simp only [List.length_append, List.length_cons, List.length_nil]) <;> omega⟩
    have j1 : (j : Int) < (q.length : Int) := by omega
    have gp : (q.map iv).getD j .undef = .int .i64 p := gD_map hp
    have hw := w_i64 ((j : Int) + 1) (by omega)
    have hap : (M.length + 1) * 8 ≤ 140737488355328 := by omega
    have tk : (M.map iv).take M.length = M.map iv := List.take_of_length_le (by simp)
    unfold dskC hadStep pos
    cases hc : decide (0 < p) with
    | true =>
      simp only [XG, L180_7, h180_7, go_sem, seval, bnd_ite, j1, hj, gp, hc, hw, hap, tk, Int.natCast_nonneg, decide_true, if_true, List.map_append, List.map_cons, List.map_nil, List.length_append]
      first | done | rfl
    | false =>
      simp only [XG, L180_7, h180_7, go_sem, seval, bnd_ite, j1, hj, gp, hc, hw, Int.natCast_nonneg, decide_true, if_true, Bool.false_eq_true, if_false]
      first | done | rfl
  case last =>
    intro M hM
    unfold dskC
    simp only [XG, L180_7, h180_7, go_sem, seval, bnd_ite, Int.lt_irrefl, decide_false]
    exact .mk (by simp) ⟨rfl, rfl, rfl, rfl, rfl, rfl, rfl⟩
theorem e180 (x : Dsk) (h : x.sm) (l : List Int) (hl : l.length ≤ 1048576) (ht : ptrsSum x l ≤ 1048576) : E T 180 [dsk x, .ro 1 (l.map iv)] [] = some (.own 1 ((l.flatMap (hadOf x)).map iv), []) := by
  rw [E_eqW t180 (Nat.le_of_ble_eq_true rfl)]
  have hs : l.flatMap (hadOf x) = l.foldl (fun L i => L ++ hadOf x i) [] := by
    have : ∀ (l : List Int) (L : List Int), l.foldl (fun L q => L ++ hadOf x q) L = L ++ l.flatMap (hadOf x) := by
      intro l
      induction l with
      | nil => intro L; simp
      | cons q l ih => intro L; rw [List.foldl_cons, ih]; simp
    rw [this]; simp
  have psum : ∀ i p, l[i]? = some p → ptrsSum x (l.take (i + 1)) = ptrsSum x (l.take i) + ptrsN x p := fun i p hp => by
    unfold ptrsSum; rw [take_snoc hp]; simp
  have ple : ∀ i, ptrsSum x (l.take i) ≤ ptrsSum x l := fun i => by
    have : ptrsSum x l = ptrsSum x (l.take i) + ptrsSum x (l.drop i) := by
      unfold ptrsSum; rw [← List.sum_append, ← List.map_append, List.take_append_drop]
    omega
  refine (XL_each (T := T) (b := 0) (hd := H180_3) (x := L180_3) l (fun L i => L ++ hadOf x i) (fun j L => ⟨[(2, .ptr 0 0 0), (5, .sl 1 0 L.length), (11, .ro 1 (l.map iv)), (12, .int .i64 l.length), (13, .int .i64 (j : Nat))], [some (4, [dskC x]), some (1, L.map iv)]⟩) (fun j L => L.length ≤ ptrsSum x (l.take j))
    (fun L r => r.1 = .exit 0 ∧ lookA r.2.env 5 = .sl 1 0 L.length ∧ r.2.mem = [some (4, [dskC x]), some (1, L.map iv)]) ?step ?last [] (by simp)).elim ?main
  case step =>
    intro j L i hi hj hL
    have hn := hadOf_len x i
    have hps := psum j i hi
    have hpl := ple (j + 1)
    refine ⟨?_, by rw [hps]; simp only [List.length_append]; omega⟩
    have j1 : (j : Int) < (l.length : Int) := by omega
    have gi : (l.map iv).getD j .undef = .int .i64 i := gD_map hi
    have e1 := e176u x h i
    have hsm := inoOf_sm h i
    unfold hadOf
    generalize inoOf x i = p at *
    unfold dsk at e1
    rw [show ino p = .agg [.int .i64 p.kind, .int .i64 p.links, .ro 1 (p.ptrs.map iv)] from rfl] at e1
    unfold Ino.sm at hsm
    obtain ⟨⟨y, e, m⟩, k1, kx, k2, k3, k4, k5, k6, km⟩ := in180 x l j p.ptrs hsm L (by omega)
    simp only at kx k2 k3 k4 k5 k6 km; subst kx; subst km
    unfold dskC at k1
    have hw := w_i64 ((j : Int) + 1) (by omega)
    simp only [XG, L180_3, h180_3, h180_7, dskC, go_sem, seval, bnd_ite, j1, gi, e1, hw, k1, k2, k3, k4, k5, k6, Int.natCast_nonneg, decide_true]
    first | done | rfl
  case last =>
    intro L hL
    unfold dskC
    simp only [XG, L180_3, h180_3, go_sem, seval, bnd_ite, Int.lt_irrefl, decide_false]
    exact .mk (by simp) ⟨rfl, rfl, rfl⟩
  case main =>
  rintro ⟨y, e, m⟩ ⟨k1, kx, k2, km⟩
  simp only at kx k2 km; subst kx; subst km
  have hs0 : ((0 : Nat) : Int) = 0 := rfl
  simp only [hs0, List.map_nil, List.length_nil] at k1
  rw [← hs] at k1 k2
  unfold dskC at k1
  generalize l.flatMap (hadOf x) = S at *
  have tk : (S.map iv).take S.length = S.map iv := List.take_of_length_le (by simp)
  simp only [dsk, F180, h180_3, dskC, go_sem, seval, bnd_ite, k1, k2, tk]
noncomputable def hadR (x : Dsk) : List Int := (reachL x).flatMap (hadOf x)
theorem hadBy_len (x : Dsk) (l : List Int) : (l.flatMap (hadOf x)).length ≤ ptrsSum x l := by
  induction l with
  | nil => simp
  | cons i l ih =>
    have := hadOf_len x i
    unfold ptrsSum at ih ⊢
    simp only [List.flatMap_cons, List.length_append, List.map_cons, List.sum_cons]; omega
theorem hadR_len {x : Dsk} (ht : tot x ≤ 1048576) : (hadR x).length ≤ 1048576 := Nat.le_trans (hadBy_len x _) (ptrs_reach ht)
theorem e180r (x : Dsk) (h : x.sm) (ht : tot x ≤ 1048576) : E T 180 [dsk x, .ro 1 ((reachL x).map iv)] [] = some (.own 1 ((hadR x).map iv), []) :=
  e180 x h (reachL x) (Nat.le_trans (reachL_len x) h.inos) (ptrs_reach ht)
def free (l : List Bool) (n : Int) : Bool := inside n 1 l.length && !(l.getD (n - 1).toNat false)
theorem e181 (l : List Bool) (hl : l.length ≤ 1048576) (n : Int) : E T 181 [.ro 1 (l.map bv), .int .i64 n] [] = some (.bool (free l n), []) := by
  rw [E_eq t181 (Nat.le_of_ble_eq_true rfl)]
  unfold free
  cases hc : inside n 1 l.length with
  | false => simp only [F181, go_sem, seval, bnd_ite, e117i, hc, Bool.false_and, Bool.false_eq_true, if_false]
  | true =>
    have hc' := hc
    simp only [inside, Bool.and_eq_true, decide_eq_true_eq] at hc'
    have b1 : 0 ≤ n - 1 := by omega
    have b2 : n - 1 < (l.length : Int) := by omega
    have w2 := w_i64 (n - 1) (by omega)
    obtain ⟨b, hb⟩ := get_at (show (n - 1).toNat < l.length by omega)
    have gb : (l.map bv).getD (n - 1).toNat .undef = .bool b := gD_map hb
    rw [getD_at hb]
    simp only [F181, go_sem, seval, bnd_ite, e117i, hc, b1, b2, w2, gb, Bool.true_and, if_true]
noncomputable def unmarked (x : Dsk) : Int := (reachL x).foldl (cnt (free x.taken)) ((hadR x).foldl (cnt (free x.used)) 0)
theorem lp84 (x : Dsk) (h : x.sm) (R H : List Int) (hH : H.length ≤ 1048576) :
    ∃ r, XL T 0 H84_4 L84_4 ⟨[(1, .ptr 0 0 0), (3, .int .i64 0), (4, .sl 1 0 R.length), (13, .sl 2 0 H.length), (14, .int .i64 H.length), (15, .int .i64 0)], [some (4, [dskC x]), some (1, R.map iv), some (1, H.map iv)]⟩ = some r ∧
      r.1 = .exit 0 ∧ lookA r.2.env 1 = .ptr 0 0 0 ∧ lookA r.2.env 3 = .int .i64 (H.foldl (cnt (free x.used)) 0) ∧ lookA r.2.env 4 = .sl 1 0 R.length ∧ r.2.mem = [some (4, [dskC x]), some (1, R.map iv), some (1, H.map iv)] := by
  refine XL_each H (cnt (free x.used)) (fun k n => ⟨[(1, .ptr 0 0 0), (3, .int .i64 n), (4, .sl 1 0 R.length), (13, .sl 2 0 H.length), (14, .int .i64 H.length), (15, .int .i64 (k : Nat))], [some (4, [dskC x]), some (1, R.map iv), some (1, H.map iv)]⟩) (fun k n => 0 ≤ n ∧ n ≤ k)
    (fun n r => r.1 = .exit 0 ∧ lookA r.2.env 1 = .ptr 0 0 0 ∧ lookA r.2.env 3 = .int .i64 n ∧ lookA r.2.env 4 = .sl 1 0 R.length ∧ r.2.mem = [some (4, [dskC x]), some (1, R.map iv), some (1, H.map iv)]) ?step ?last 0 (by omega)
  case step =>
    intro k n p hp hk hI
    refine ⟨?_, by unfold cnt; split <;> omega⟩
    have k1 : (k : Int) < (H.length : Int) := by omega
    have gp : (H.map iv).getD k .undef = .int .i64 p := gD_map hp
    have hw := w_i64 ((k : Int) + 1) (by omega)
    have hw2 := w_i64 (n + 1) (by omega)
    have e1 := e181 x.used h.used p
    unfold cnt dskC
    cases hc : free x.used p with
    | true =>
      rw [hc] at e1
      simp only [XG, L84_4, h84_4, go_sem, seval, bnd_ite, k1, hk, gp, e1, hw, hw2, Int.natCast_nonneg, decide_true, if_true]
      first | done | rfl
    | false =>
      rw [hc] at e1
      simp only [XG, L84_4, h84_4, go_sem, seval, bnd_ite, k1, hk, gp, e1, hw, hw2, Int.natCast_nonneg, decide_true, if_true, Bool.false_eq_true, if_false]
      first | done | rfl
  case last =>
    intro n hI
    unfold dskC
    simp only [XG, L84_4, h84_4, go_sem, seval, bnd_ite, Int.lt_irrefl, decide_false]
    exact .mk (by simp) ⟨rfl, rfl, rfl, rfl, rfl⟩
theorem lq84 (x : Dsk) (h : x.sm) (R : List Int) (hR : R.length ≤ 1048576) (n0 : Int) (hn : 0 ≤ n0 ∧ n0 ≤ 4611686018427387904) :
    ∃ r, XL T 0 H84_11 L84_11 ⟨[(1, .ptr 0 0 0), (3, .int .i64 n0), (27, .sl 1 0 R.length), (28, .int .i64 R.length), (29, .int .i64 0)], [some (4, [dskC x]), some (1, R.map iv)]⟩ = some r ∧
      r.1 = .exit 2 ∧ lookA r.2.env 3 = .int .i64 (R.foldl (cnt (free x.taken)) n0) := by
  refine XL_each R (cnt (free x.taken)) (fun k n => ⟨[(1, .ptr 0 0 0), (3, .int .i64 n), (27, .sl 1 0 R.length), (28, .int .i64 R.length), (29, .int .i64 (k : Nat))], [some (4, [dskC x]), some (1, R.map iv)]⟩) (fun k n => 0 ≤ n ∧ n ≤ n0 + k)
    (fun n r => r.1 = .exit 2 ∧ lookA r.2.env 3 = .int .i64 n) ?step ?last n0 (by omega)
  case step =>
    intro k n p hp hk hI
    refine ⟨?_, by unfold cnt; split <;> omega⟩
    have k1 : (k : Int) < (R.length : Int) := by omega
    have gp : (R.map iv).getD k .undef = .int .i64 p := gD_map hp
    have hw := w_i64 ((k : Int) + 1) (by omega)
    have hw2 := w_i64 (n + 1) (by omega)
    have e1 := e181 x.taken h.taken p
    unfold cnt dskC
    cases hc : free x.taken p with
    | true =>
      rw [hc] at e1
      simp only [XG, L84_11, h84_11, go_sem, seval, bnd_ite, k1, hk, gp, e1, hw, hw2, Int.natCast_nonneg, decide_true, if_true]
      first | done | rfl
    | false =>
      rw [hc] at e1
      simp only [XG, L84_11, h84_11, go_sem, seval, bnd_ite, k1, hk, gp, e1, hw, hw2, Int.natCast_nonneg, decide_true, if_true, Bool.false_eq_true, if_false]
      first | done | rfl
  case last =>
    intro n hI
    unfold dskC
    simp only [XG, L84_11, h84_11, go_sem, seval, bnd_ite, Int.lt_irrefl, decide_false]
    exact .mk (by simp) ⟨rfl, rfl⟩
theorem e84 (x : Dsk) (h : x.sm) (ht : tot x ≤ 1048576) : E T 84 [dsk x] [] = some (.int .i64 (unmarked x), []) := by
  rw [E_eq t84 (Nat.le_of_ble_eq_true rfl)]
  have e1 := e98 x h
  have e2 := e180r x h ht
  have hS := hadR_len ht
  have hR : (reachL x).length ≤ 1048576 := Nat.le_trans (reachL_len x) h.inos
  unfold unmarked
  generalize hadR x = H at *
  generalize reachL x = R at *
  obtain ⟨⟨y, e, m⟩, q1, qx, q2, q3, q4, qm⟩ := lp84 x h R H hS
  simp only at qx q2 q3 q4 qm; subst qx; subst qm
  have hcl := cnt_le (free x.used) H 0
  obtain ⟨⟨y', e', m'⟩, s1, sx, s2⟩ := lq84 x h R hR (H.foldl (cnt (free x.used)) 0) (by omega)
  simp only at sx s2; subst sx
  unfold dskC at q1 s1
  simp only [dsk] at e1 e2 ⊢
  simp only [F84, h84_4, h84_11, dskC, go_sem, seval, bnd_ite, e1, e2, q1, q2, q3, q4, s1, s2]
def unStep (x : Dsk) (n : Int) (i : Int) : Int := (inoOf x i).ptrs.foldl (cnt (free x.used)) (cnt (free x.taken) n i)
theorem un_eq (x : Dsk) (l : List Int) : ∀ n : Int, l.foldl (unStep x) n = l.foldl (cnt (free x.taken)) ((l.flatMap (hadOf x)).foldl (cnt (free x.used)) n) := by
  have key : ∀ (i n : Int), unStep x n i = n + (if free x.taken i then 1 else 0) + ((hadOf x i).countP (free x.used) : Nat) := by
    intro i n
    unfold unStep
    rw [← cnt_filter (free x.used) pos (fun a ha => by unfold free inside at ha; unfold pos; simp only [Bool.and_eq_true, decide_eq_true_eq] at ha ⊢; omega), cnt_count]
    show cnt (free x.taken) n i + ((hadOf x i).countP (free x.used) : Nat) = _
    unfold cnt; split <;> omega
  induction l with
  | nil => intro n; rfl
  | cons i l ih =>
    intro n
    rw [List.foldl_cons, ih, List.flatMap_cons, List.foldl_append, List.foldl_cons, key]
    simp only [cnt_count]
    unfold cnt; split <;> omega
theorem in83 (x : Dsk) (h : x.sm) (k : Nat) (R : List Int) (p : Ino) (hp : p.sm) (n0 : Int) (hn : 0 ≤ n0 ∧ n0 ≤ 4611686018427387904) :
    ∃ r, XL T 0 H83_11 L83_11 ⟨[(1, .ptr 0 0 0), (3, .int .i64 n0), (4, .sl 1 0 R.length), (5, .int .i64 k), (7, .ptr 2 0 0), (8, .int .i64 0)], [some (4, [dskC x]), some (1, R.map iv), some (3, [.agg [.int .i64 p.kind, .int .i64 p.links, .ro 1 (p.ptrs.map iv)]])]⟩ = some r ∧
      r.1 = .exit 2 ∧ lookA r.2.env 1 = .ptr 0 0 0 ∧ lookA r.2.env 3 = .int .i64 (p.ptrs.foldl (cnt (free x.used)) n0) ∧ lookA r.2.env 4 = .sl 1 0 R.length ∧ lookA r.2.env 5 = .int .i64 k ∧ r.2.mem = [some (4, [dskC x]), some (1, R.map iv), some (3, [.agg [.int .i64 p.kind, .int .i64 p.links, .ro 1 (p.ptrs.map iv)]])] := by
  have hN := h.used
  unfold Ino.sm at hp
  refine XL_each p.ptrs (cnt (free x.used)) (fun j n => ⟨[(1, .ptr 0 0 0), (3, .int .i64 n), (4, .sl 1 0 R.length), (5, .int .i64 k), (7, .ptr 2 0 0), (8, .int .i64 (j : Nat))], [some (4, [dskC x]), some (1, R.map iv), some (3, [.agg [.int .i64 p.kind, .int .i64 p.links, .ro 1 (p.ptrs.map iv)]])]⟩) (fun k n => 0 ≤ n ∧ n ≤ n0 + k)
    (fun n r => r.1 = .exit 2 ∧ lookA r.2.env 1 = .ptr 0 0 0 ∧ lookA r.2.env 3 = .int .i64 n ∧ lookA r.2.env 4 = .sl 1 0 R.length ∧ lookA r.2.env 5 = .int .i64 k ∧ r.2.mem = [some (4, [dskC x]), some (1, R.map iv), some (3, [.agg [.int .i64 p.kind, .int .i64 p.links, .ro 1 (p.ptrs.map iv)]])]) ?step ?last n0 (by omega)
  case step =>
    intro j n q hq hk hI
    refine ⟨?_, by unfold cnt; split <;> omega⟩
    have k1 : (j : Int) < (p.ptrs.length : Int) := by omega
    have gq : (p.ptrs.map iv).getD j .undef = .int .i64 q := gD_map hq
    have hw := w_i64 ((j : Int) + 1) (by omega)
    have hw2 := w_i64 (n + 1) (by omega)
    unfold cnt free dskC
    cases hc : inside q 1 x.used.length with
    | false =>
      simp only [XG, L83_11, h83_11, go_sem, seval, bnd_ite, k1, hk, gq, e116i, hc, hw, hw2, Int.natCast_nonneg, decide_true, if_true, Bool.false_and, Bool.false_eq_true, if_false]
      first | done | rfl
    | true =>
      have hc' := hc
      simp only [inside, Bool.and_eq_true, decide_eq_true_eq] at hc'
      have b1 : 0 ≤ q - 1 := by omega
      have b2 : q - 1 < (x.used.length : Int) := by omega
      have b3 : (q - 1).toNat < x.used.length := by omega
      have w2 := w_i64 (q - 1) (by omega)
      obtain ⟨b, hb⟩ := get_at b3
      have gb : (x.used.map bv).getD (q - 1).toNat .undef = .bool b := gD_map hb
      rw [getD_at hb]
      cases b with
      | true =>
        simp only [XG, L83_11, h83_11, go_sem, seval, bnd_ite, k1, hk, gq, e116i, hc, gb, b1, b2, b3, w2, hw, hw2, Int.natCast_nonneg, decide_true, if_true, Bool.not_true, Bool.and_false, Bool.false_eq_true, if_false]
        first | done | rfl
      | false =>
        simp only [XG, L83_11, h83_11, go_sem, seval, bnd_ite, k1, hk, gq, e116i, hc, gb, b1, b2, b3, w2, hw, hw2, Int.natCast_nonneg, decide_true, if_true, Bool.not_false, Bool.and_self]
        first | done | rfl
  case last =>
    intro n hI
    unfold dskC
    simp only [XG, L83_11, h83_11, go_sem, seval, bnd_ite, Int.lt_irrefl, decide_false]
    exact .mk (by simp) ⟨rfl, rfl, rfl, rfl, rfl, rfl⟩
theorem e83 (x : Dsk) (h : x.sm) (ht : tot x ≤ 1048576) : E T 83 [dsk x] [] = some (.int .i64 (unmarked x), []) := by
  rw [E_eq t83 (Nat.le_of_ble_eq_true rfl)]
  have e1 := e97 x h
  have hb := h.inos
  have hRl := reachL_len x
  have hRi : ∀ p ∈ reachL x, inside p 1 x.inos.length = true := fun p hp => by
    have := (mem_reachL.1 hp).1
    simp only [inside, Bool.and_eq_true, decide_eq_true_eq]; exact this
  unfold unmarked hadR
  rw [← un_eq]
  generalize reachL x = R at *
  refine (XL_each (T := T) (b := 0) (hd := H83_4) (x := L83_4) R (unStep x) (fun k n => ⟨[(1, .ptr 0 0 0), (3, .int .i64 n), (4, .sl 1 0 R.length), (5, .int .i64 (k : Nat))], [some (4, [dskC x]), some (1, R.map iv)]⟩) (fun k n => 0 ≤ n ∧ n ≤ k * 1048577)
    (fun n r => r.1 = .exit 0 ∧ lookA r.2.env 3 = .int .i64 n) ?step ?last 0 (by omega)).elim ?main
  case step =>
    intro k n p hp hk hI
    have hcl := cnt_le (free x.used) (inoOf x p).ptrs (cnt (free x.taken) n p)
    have hc2 : n ≤ cnt (free x.taken) n p ∧ cnt (free x.taken) n p ≤ n + 1 := by unfold cnt; split <;> omega
    have hsm := inoOf_sm h p
    refine ⟨?_, by unfold unStep; unfold Ino.sm at hsm; omega⟩
    have k1 : (k : Int) < (R.length : Int) := by omega
    have gp : (R.map iv).getD k .undef = .int .i64 p := gD_map hp
    have hw := w_i64 ((k : Int) + 1) (by omega)
    have hw2 := w_i64 (n + 1) (by omega)
    have hc0 := hRi p (List.mem_of_getElem? hp)
    have hpi := inoOf_mem hc0
    have gi : (x.inos.map ino).getD (p - 1).toNat .undef = .agg [.int .i64 (inoOf x p).kind, .int .i64 (inoOf x p).links, .ro 1 ((inoOf x p).ptrs.map iv)] := gD_map hpi
    simp only [inside, Bool.and_eq_true, decide_eq_true_eq] at hc0
    have b1 : 0 ≤ p - 1 := by omega
    have b2 : p - 1 < (x.inos.length : Int) := by omega
    have b3 : (p - 1).toNat < x.inos.length := by omega
    have w2 := w_i64 (p - 1) (by omega)
    unfold unStep
    generalize inoOf x p = I at *
    obtain ⟨⟨y, e, m⟩, q1, qx, q2, q3, q4, q5, qm⟩ := in83 x h k R I hsm (cnt (free x.taken) n p) (by omega)
    simp only at qx q2 q3 q4 q5 qm; subst qx; subst qm
    unfold dskC at q1
    by_cases c : p ≤ (x.taken.length : Int)
    · have d2 : p - 1 < (x.taken.length : Int) := by omega
      have d3 : (p - 1).toNat < x.taken.length := by omega
      obtain ⟨b, hb⟩ := get_at d3
      have gb : (x.taken.map bv).getD (p - 1).toNat .undef = .bool b := gD_map hb
      have hf : free x.taken p = !b := by
        have : inside p 1 x.taken.length = true := by simp only [inside, Bool.and_eq_true, decide_eq_true_eq]; omega
        unfold free; rw [this, getD_at hb]; rfl
      cases b with
      | true =>
        have hn' : cnt (free x.taken) n p = n := by unfold cnt; rw [hf]; rfl
        rw [hn'] at q1 q3 ⊢
        unfold dskC
        simp only [XG, L83_4, h83_4, h83_11, go_sem, seval, bnd_ite, k1, hk, gp, gi, b1, b2, b3, w2, c, d2, d3, gb, hw, hw2, q1, q2, q3, q4, q5, Int.natCast_nonneg, decide_true, if_true, Bool.not_true, Bool.false_eq_true, if_false]
        first | done | rfl
      | false =>
        have hn' : cnt (free x.taken) n p = n + 1 := by unfold cnt; rw [hf]; rfl
        rw [hn'] at q1 q3 ⊢
        unfold dskC
        simp only [XG, L83_4, h83_4, h83_11, go_sem, seval, bnd_ite, k1, hk, gp, gi, b1, b2, b3, w2, c, d2, d3, gb, hw, hw2, q1, q2, q3, q4, q5, Int.natCast_nonneg, decide_true, if_true, Bool.not_false]
        first | done | rfl
    · have hf : free x.taken p = false := by
        have : inside p 1 x.taken.length = false := by simp only [inside]; simp; omega
        unfold free; rw [this]; rfl
      have hn' : cnt (free x.taken) n p = n := by unfold cnt; rw [hf]; rfl
      rw [hn'] at q1 q3 ⊢
      unfold dskC
      simp only [XG, L83_4, h83_4, h83_11, go_sem, seval, bnd_ite, k1, hk, gp, gi, b1, b2, b3, w2, c, hw, hw2, q1, q2, q3, q4, q5, Int.natCast_nonneg, decide_true, decide_false, if_true, Bool.false_eq_true, if_false]
      first | done | rfl
  case last =>
    intro n hI
    unfold dskC
    simp only [XG, L83_4, h83_4, go_sem, seval, bnd_ite, Int.lt_irrefl, decide_false]
    exact .mk (by simp) ⟨rfl, rfl⟩
  case main =>
  rintro ⟨y, e, m⟩ ⟨q1, qx, q2⟩
  simp only at qx q2; subst qx
  have hs0 : ((0 : Nat) : Int) = 0 := rfl
  rw [hs0] at q1
  unfold dskC at q1
  simp only [dsk] at e1 ⊢
  simp only [F83, h83_4, go_sem, seval, bnd_ite, e1, q1, q2]
end Go.Proofs.Ytaaajjinpppgeaa
