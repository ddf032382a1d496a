/- Links: how many names an inode has. Own work; no condition. -/
import Derived.Test.YtaaajjinpppgeaaGreatGc
import Derived.Test.YtaaajjinpppgeaaGreatFz
set_option linter.unusedVariables false
set_option linter.unusedSimpArgs false
set_option linter.unusedSectionVars false
namespace Go.Proofs.YtaaajjinpppgeaaGreat
open Go Go.Abs
set_option maxRecDepth 100000
/-- The slots with a name of what is reached. -/
noncomputable def slotsR (x : Dsk) : List Slt := (reachL x).flatMap (slotsAt x)
theorem flat_sum {x : Dsk} (h : x.sm) (l : List Int) : (l.flatMap (slotsAt x)).length ≤ ptrsSum x l * 1048576 := by
  induction l with
  | nil => simp
  | cons i l ih =>
    have := slotsAt_len h i
    unfold ptrsSum at ih ⊢
    simp only [List.flatMap_cons, List.length_append, List.map_cons, List.sum_cons, Nat.add_mul]
    omega
theorem slotsR_len {x : Dsk} (h : x.sm) (ht : tot x ≤ 1048576) : (slotsR x).length ≤ 1099511627776 := by
  have h1 := flat_sum h (reachL x)
  have h2 := ptrs_reach ht
  unfold slotsR; omega
theorem e183r (x : Dsk) (h : x.sm) (ht : tot x ≤ 1048576) : E T 183 [dsk x, .ro 1 ((reachL x).map iv)] [] = some (.own 2 ((slotsR x).map slt), []) :=
  e183 x h (reachL x) (Nat.le_trans (reachL_len x) h.inos) (ptrs_reach ht)
theorem e175r (x : Dsk) (h : x.sm) {i : Int} (hi : i ∈ reachL x) : E T 175 [dsk x, .int .i64 i] [] = some (.own 2 ((slotsAt x i).map slt), []) := by
  have := (mem_reachL.1 hi).1
  have := h.inos
  exact e175 x h i (by omega)
/-- A count over rows of rows. -/
def cnt {α : Type} (P : α → Bool) (n : Int) (s : α) : Int := if P s then n + 1 else n
theorem cnt_flat {α β : Type} (P : α → Bool) (g : β → List α) (l : List β) : ∀ n : Int, (l.flatMap g).foldl (cnt P) n = l.foldl (fun n i => (g i).foldl (cnt P) n) n := by
  induction l with
  | nil => intro n; rfl
  | cons i l ih => intro n; rw [List.flatMap_cons, List.foldl_append, ih]; rfl
theorem cnt_le {α : Type} (P : α → Bool) (l : List α) : ∀ n : Int, n ≤ l.foldl (cnt P) n ∧ l.foldl (cnt P) n ≤ n + l.length := by
  induction l with
  | nil => intro n; simp
  | cons a l ih =>
    intro n
    have := ih (cnt P n a)
    have h2 : n ≤ cnt P n a ∧ cnt P n a ≤ n + 1 := by unfold cnt; split <;> omega
    rw [List.foldl_cons, List.length_cons]; omega
def isOf (i : Int) (s : Slt) : Bool := decide (s.ino = i)
noncomputable def linksOf (x : Dsk) (i : Int) : Int := (slotsR x).foldl (cnt (isOf i)) 0
theorem linksOf_le {x : Dsk} (h : x.sm) (ht : tot x ≤ 1048576) (i : Int) : 0 ≤ linksOf x i ∧ linksOf x i ≤ 1099511627776 := by
  have h1 := cnt_le (isOf i) (slotsR x) 0
  have h2 := slotsR_len h ht
  unfold linksOf; omega
theorem lp78 (i : Int) (S : List Slt) (hS : S.length ≤ 1099511627776) :
    ∃ r, XL T 0 H88_3 L88_3 ⟨[(1, .int .i64 i), (5, .int .i64 0), (11, .sl 0 0 S.length), (12, .int .i64 S.length), (13, .int .i64 0)], [some (2, S.map slt)]⟩ = some r ∧
      r.1 = .exit 0 ∧ lookA r.2.env 5 = .int .i64 (S.foldl (cnt (isOf i)) 0) := by
  refine XL_each S (cnt (isOf i)) (fun k n => ⟨[(1, .int .i64 i), (5, .int .i64 n), (11, .sl 0 0 S.length), (12, .int .i64 S.length), (13, .int .i64 (k : Nat))], [some (2, S.map slt)]⟩) (fun k n => 0 ≤ n ∧ n ≤ k)
    (fun n r => r.1 = .exit 0 ∧ lookA r.2.env 5 = .int .i64 n) ?step ?last 0 (by omega)
  case step =>
    intro k n s hs hk hI
    refine ⟨?_, by unfold cnt; split <;> omega⟩
    have k1 : (k : Int) < (S.length : Int) := by omega
    have gs : (S.map slt).getD k .undef = .agg [.str s.name, .int .i64 s.ino] := gD_map hs
    have hw := w_i64 ((k : Int) + 1) (by omega)
    have hw2 := w_i64 (n + 1) (by omega)
    unfold cnt isOf
    cases hc : decide (s.ino = i) with
    | true =>
      simp only [XG, L88_3, h88_3, go_sem, seval, bnd_ite, k1, hk, gs, hc, hw, hw2, Int.natCast_nonneg, decide_true, if_true]
      first | done | rfl
    | false =>
      simp only [XG, L88_3, h88_3, go_sem, seval, bnd_ite, k1, hk, gs, hc, hw, hw2, Int.natCast_nonneg, decide_true, if_true, Bool.false_eq_true, if_false]
      first | done | rfl
  case last =>
    intro n hI
    simp only [XG, L88_3, h88_3, go_sem, seval, bnd_ite, Int.lt_irrefl, decide_false]
    exact .mk (by simp) ⟨rfl, rfl⟩
theorem e88 (x : Dsk) (h : x.sm) (ht : tot x ≤ 1048576) (i : Int) : E T 88 [dsk x, .int .i64 i] [] = some (.int .i64 (linksOf x i), []) := by
  rw [E_eq t88 (Nat.le_of_ble_eq_true rfl)]
  have e1 := e85 x h
  have e2 := e183r x h ht
  have hS := slotsR_len h ht
  unfold linksOf
  generalize slotsR x = S at *
  generalize reachL x = R at *
  obtain ⟨⟨y, e, m⟩, q1, qx, q2⟩ := lp78 i S hS
  simp only at qx q2; subst qx
  simp only [dsk] at e1 e2 ⊢
  simp only [F88, h88_3, go_sem, seval, bnd_ite, e1, e2, q1, q2]
theorem in77 (x : Dsk) (i : Int) (k : Nat) (R : List Int) (S : List Slt) (hS : S.length ≤ 1099511627776) (n0 : Int) (hn : 0 ≤ n0 ∧ n0 ≤ 4611686018427387904) :
    ∃ r, XL T 0 H78_8 L78_8 ⟨[(1, .int .i64 i), (2, .ptr 0 0 0), (5, .int .i64 n0), (6, .sl 1 0 R.length), (7, .int .i64 k), (8, .sl 2 0 S.length), (9, .int .i64 0)], [some (4, [dskC x]), some (1, R.map iv), some (2, S.map slt)]⟩ = some r ∧
      r.1 = .exit 2 ∧ lookA r.2.env 1 = .int .i64 i ∧ lookA r.2.env 2 = .ptr 0 0 0 ∧ lookA r.2.env 5 = .int .i64 (S.foldl (cnt (isOf i)) n0) ∧ lookA r.2.env 6 = .sl 1 0 R.length ∧ lookA r.2.env 7 = .int .i64 k ∧ r.2.mem = [some (4, [dskC x]), some (1, R.map iv), some (2, S.map slt)] := by
  refine XL_each S (cnt (isOf i)) (fun j n => ⟨[(1, .int .i64 i), (2, .ptr 0 0 0), (5, .int .i64 n), (6, .sl 1 0 R.length), (7, .int .i64 k), (8, .sl 2 0 S.length), (9, .int .i64 (j : Nat))], [some (4, [dskC x]), some (1, R.map iv), some (2, S.map slt)]⟩) (fun k n => 0 ≤ n ∧ n ≤ n0 + k)
    (fun n r => r.1 = .exit 2 ∧ lookA r.2.env 1 = .int .i64 i ∧ lookA r.2.env 2 = .ptr 0 0 0 ∧ lookA r.2.env 5 = .int .i64 n ∧ lookA r.2.env 6 = .sl 1 0 R.length ∧ lookA r.2.env 7 = .int .i64 k ∧ r.2.mem = [some (4, [dskC x]), some (1, R.map iv), some (2, S.map slt)]) ?step ?last n0 (by omega)
  case step =>
    intro j n s hs hk hI
    refine ⟨?_, by unfold cnt; split <;> omega⟩
    have k1 : (j : Int) < (S.length : Int) := by omega
    have gs : (S.map slt).getD j .undef = .agg [.str s.name, .int .i64 s.ino] := gD_map hs
    have hw := w_i64 ((j : Int) + 1) (by omega)
    have hw2 := w_i64 (n + 1) (by omega)
    unfold cnt isOf dskC
    cases hc : decide (s.ino = i) with
    | true =>
      simp only [XG, L78_8, h78_8, go_sem, seval, bnd_ite, k1, hk, gs, hc, hw, hw2, Int.natCast_nonneg, decide_true, if_true]
      first | done | rfl
    | false =>
      simp only [XG, L78_8, h78_8, go_sem, seval, bnd_ite, k1, hk, gs, hc, hw, hw2, Int.natCast_nonneg, decide_true, if_true, Bool.false_eq_true, if_false]
      first | done | rfl
  case last =>
    intro n hI
    unfold dskC
    simp only [XG, L78_8, h78_8, go_sem, seval, bnd_ite, Int.lt_irrefl, decide_false]
    exact .mk (by simp) ⟨rfl, rfl, rfl, rfl, rfl, rfl, rfl⟩
theorem e78 (x : Dsk) (h : x.sm) (ht : tot x ≤ 1048576) (i : Int) : E T 78 [dsk x, .int .i64 i] [] = some (.int .i64 (linksOf x i), []) := by
  rw [E_eq t78 (Nat.le_of_ble_eq_true rfl)]
  have e1 := e76 x h
  have hb := h.inos
  have hRl := reachL_len x
  have hRm : ∀ p ∈ reachL x, E T 175 [dsk x, .int .i64 p] [] = some (.own 2 ((slotsAt x p).map slt), []) := fun p hp => e175r x h hp
  unfold linksOf slotsR
  rw [cnt_flat]
  generalize reachL x = R at *
  refine (XL_each (T := T) (b := 0) (hd := H78_4) (x := L78_4) R (fun n p => (slotsAt x p).foldl (cnt (isOf i)) n) (fun j n => ⟨[(1, .int .i64 i), (2, .ptr 0 0 0), (5, .int .i64 n), (6, .sl 1 0 R.length), (7, .int .i64 (j : Nat))], [some (4, [dskC x]), some (1, R.map iv)]⟩) (fun k n => 0 ≤ n ∧ n ≤ k * 1099511627776)
    (fun n r => r.1 = .exit 0 ∧ lookA r.2.env 5 = .int .i64 n) ?step ?last 0 (by omega)).elim ?main
  case step =>
    intro k n p hp hk hI
    have hsl := slot_len h p
    have hcl := cnt_le (isOf i) (slotsAt x p) n
    refine ⟨?_, by omega⟩
    have k1 : (k : Int) < (R.length : Int) := by omega
    have gp : (R.map iv).getD k .undef = .int .i64 p := gD_map hp
    have hw := w_i64 ((k : Int) + 1) (by omega)
    have e2 := hRm p (List.mem_of_getElem? hp)
    generalize slotsAt x p = S at *
    obtain ⟨⟨y, e, m⟩, q1, qx, q2, q3, q4, q5, q6, qm⟩ := in77 x i k R S hsl n (by omega)
    simp only at qx q2 q3 q4 q5 q6 qm; subst qx; subst qm
    simp only [dsk] at e2
    unfold dskC at q1
    unfold dskC
    simp only [XG, L78_4, h78_4, h78_8, go_sem, seval, bnd_ite, k1, hk, gp, hw, e2, q1, q2, q3, q4, q5, q6, Int.natCast_nonneg, decide_true, if_true]
    first | done | rfl
  case last =>
    intro n hI
    unfold dskC
    simp only [XG, L78_4, h78_4, go_sem, seval, bnd_ite, Int.lt_irrefl, decide_false]
    exact .mk (by simp) ⟨rfl, rfl⟩
  case main =>
  rintro ⟨y, e, m⟩ ⟨q1, qx, q2⟩
  simp only at qx q2; subst qx
  have hs0 : ((0 : Nat) : Int) = 0 := rfl
  rw [hs0] at q1
  unfold dskC at q1
  simp only [dsk] at e1 ⊢
  simp only [F78, h78_4, go_sem, seval, bnd_ite, e1, q1, q2]
end Go.Proofs.YtaaajjinpppgeaaGreat
