/- The slots with a name of some directories, by the program. Own work; no condition. -/
import Derived.Test.YtaaajjinpppgeaaGreatLb
import Derived.Test.YtaaajjinpppgeaaGreatGt
set_option linter.unusedVariables false
set_option linter.unusedSimpArgs false
set_option linter.unusedSectionVars false
namespace Go.Proofs.YtaaajjinpppgeaaGreat
open Go Go.Abs
set_option maxRecDepth 100000
def m179 (x : Dsk) (p : Ino) (L : List Slt) : Mem := [some (4, [dskC x]), some (2, L.map slt), some (3, [.agg [.int .i64 p.kind, .int .i64 p.links, .ro 1 (p.ptrs.map iv)]])]
def v179 (l : List Int) (i : Nat) (p : Ino) (j : Nat) : List (Nat × AV) := [(14, .ro 1 (l.map iv)), (15, .int .i64 l.length), (16, .int .i64 i), (24, .ro 1 (p.ptrs.map iv)), (25, .int .i64 p.ptrs.length), (26, .int .i64 j)]
theorem in179c (x : Dsk) (l : List Int) (i : Nat) (p : Ino) (j : Nat) (b : Blk) (hb : b.sm) (L : List Slt) (hL : L.length ≤ 2199023255552) :
    ∃ r, XL T 0 H183_13 L183_13 ⟨[(2, .ptr 0 0 0), (5, .sl 1 0 L.length), (8, .ptr 2 0 0), (14, .ro 1 (l.map iv)), (15, .int .i64 l.length), (16, .int .i64 i), (24, .ro 1 (p.ptrs.map iv)), (25, .int .i64 p.ptrs.length), (26, .int .i64 j), (43, .ro 2 (b.slots.map slt)), (44, .int .i64 b.slots.length), (45, .int .i64 0)], m179 x p L⟩ = some r ∧
      r.1 = .exit 4 ∧ lookA r.2.env 2 = .ptr 0 0 0 ∧ lookA r.2.env 5 = .sl 1 0 (L ++ b.slots.filter hasName).length ∧ lookA r.2.env 8 = .ptr 2 0 0 ∧ lookA r.2.env 14 = .ro 1 (l.map iv) ∧ lookA r.2.env 15 = .int .i64 l.length ∧ lookA r.2.env 16 = .int .i64 i ∧
        lookA r.2.env 24 = .ro 1 (p.ptrs.map iv) ∧ lookA r.2.env 25 = .int .i64 p.ptrs.length ∧ lookA r.2.env 26 = .int .i64 j ∧ r.2.mem = m179 x p (L ++ b.slots.filter hasName) := by
  unfold Blk.sm at hb
  rw [← pushN_all]
  refine XL_each b.slots pushN (fun k M => ⟨[(2, .ptr 0 0 0), (5, .sl 1 0 M.length), (8, .ptr 2 0 0), (14, .ro 1 (l.map iv)), (15, .int .i64 l.length), (16, .int .i64 i), (24, .ro 1 (p.ptrs.map iv)), (25, .int .i64 p.ptrs.length), (26, .int .i64 j), (43, .ro 2 (b.slots.map slt)), (44, .int .i64 b.slots.length), (45, .int .i64 (k : Nat))], m179 x p M⟩) (fun k M => M.length ≤ L.length + k)
    (fun M r => r.1 = .exit 4 ∧ lookA r.2.env 2 = .ptr 0 0 0 ∧ lookA r.2.env 5 = .sl 1 0 M.length ∧ lookA r.2.env 8 = .ptr 2 0 0 ∧ lookA r.2.env 14 = .ro 1 (l.map iv) ∧ lookA r.2.env 15 = .int .i64 l.length ∧ lookA r.2.env 16 = .int .i64 i ∧
        lookA r.2.env 24 = .ro 1 (p.ptrs.map iv) ∧ lookA r.2.env 25 = .int .i64 p.ptrs.length ∧ lookA r.2.env 26 = .int .i64 j ∧ r.2.mem = m179 x p M) ?step ?last L (by omega)
  case step =>
    intro k M s hs hk hM
    refine ⟨?_, by have := pushN_len M s; omega⟩
    have k1 : (k : Int) < (b.slots.length : Int) := by omega
    have gs : (b.slots.map slt).getD k .undef = .agg [.str s.name, .int .i64 s.ino] := gD_map hs
    have hap : (M.length + 1) * 24 ≤ 140737488355328 := by omega
    have tk : (M.map slt).take M.length = M.map slt := List.take_of_length_le (by simp)
    have hw := w_i64 ((k : Int) + 1) (by omega)
    unfold m179 dskC pushN
    cases hn : hasName s with
    | true =>
      have hn : decide (s.name = ⟨#[]⟩) = false := by simpa [hasName] using hn
      simp only [XG, L183_13, h183_13, go_sem, seval, bnd_ite, k1, gs, hn, hap, tk, hw, Int.natCast_nonneg, decide_true, Bool.not_false, if_true, List.map_append, List.map_cons, List.map_nil, List.length_append]
      rfl
    | false =>
      have hn : decide (s.name = ⟨#[]⟩) = true := by simpa [hasName] using hn
      simp only [XG, L183_13, h183_13, go_sem, seval, bnd_ite, k1, gs, hn, hw, Int.natCast_nonneg, decide_true, Bool.not_true, if_true, Bool.false_eq_true, if_false]
      rfl
  case last =>
    intro M hM
    unfold m179 dskC
    simp only [XG, L183_13, h183_13, go_sem, seval, bnd_ite, Int.lt_irrefl, decide_false]
    exact .mk (by simp) ⟨rfl, rfl, rfl, rfl, rfl, rfl, rfl, rfl, rfl, rfl, rfl⟩
theorem in179b (x : Dsk) (h : x.sm) (l : List Int) (i : Nat) (p : Ino) (hp : p.sm) (L : List Slt) (hL : L.length ≤ 1099511627776) :
    ∃ r, XL T 0 H183_8 L183_8 ⟨[(2, .ptr 0 0 0), (5, .sl 1 0 L.length), (8, .ptr 2 0 0), (14, .ro 1 (l.map iv)), (15, .int .i64 l.length), (16, .int .i64 i), (24, .ro 1 (p.ptrs.map iv)), (25, .int .i64 p.ptrs.length), (26, .int .i64 0)], m179 x p L⟩ = some r ∧
      r.1 = .exit 2 ∧ lookA r.2.env 2 = .ptr 0 0 0 ∧ lookA r.2.env 5 = .sl 1 0 (p.ptrs.foldl (fun L q => if p.kind = 2 then L ++ namedOf (blkOf x q) else L) L).length ∧ lookA r.2.env 14 = .ro 1 (l.map iv) ∧ lookA r.2.env 15 = .int .i64 l.length ∧ lookA r.2.env 16 = .int .i64 i ∧
        r.2.mem = m179 x p (p.ptrs.foldl (fun L q => if p.kind = 2 then L ++ namedOf (blkOf x q) else L) L) := by
  unfold Ino.sm at hp
  refine XL_each p.ptrs (fun L q => if p.kind = 2 then L ++ namedOf (blkOf x q) else L) (fun j M => ⟨[(2, .ptr 0 0 0), (5, .sl 1 0 M.length), (8, .ptr 2 0 0), (14, .ro 1 (l.map iv)), (15, .int .i64 l.length), (16, .int .i64 i), (24, .ro 1 (p.ptrs.map iv)), (25, .int .i64 p.ptrs.length), (26, .int .i64 (j : Nat))], m179 x p M⟩) (fun j M => M.length ≤ L.length + j * 1048576)
    (fun M r => r.1 = .exit 2 ∧ lookA r.2.env 2 = .ptr 0 0 0 ∧ lookA r.2.env 5 = .sl 1 0 M.length ∧ lookA r.2.env 14 = .ro 1 (l.map iv) ∧ lookA r.2.env 15 = .int .i64 l.length ∧ lookA r.2.env 16 = .int .i64 i ∧ r.2.mem = m179 x p M) ?step ?last L (by omega)
  case step =>
    intro j M q hq hj hM
    have hn := namedOf_len h q
    have hle : (if p.kind = 2 then M ++ namedOf (blkOf x q) else M).length ≤ M.length + 1048576 := by
      by_cases hk : p.kind = 2
      · rw [if_pos hk, List.length_append]; exact Nat.add_le_add_left hn _
      · rw [if_neg hk]; exact Nat.le_add_right _ _
    refine ⟨?_, Nat.le_trans hle (by rw [Nat.succ_mul]; exact Nat.le_trans (Nat.add_le_add_right hM _) (Nat.le_of_eq (Nat.add_assoc ..)))⟩
    have j1 : (j : Int) < (p.ptrs.length : Int) := by omega
    have gq : (p.ptrs.map iv).getD j .undef = .int .i64 q := gD_map hq
    have e1 := e111u x h q
    have hbs := blkOf_sm h q
    have hnm : namedOf (blkOf x q) = if (blkOf x q).dir then (blkOf x q).slots.filter hasName else [] := rfl
    generalize blkOf x q = b at *
    unfold dsk at e1
    rw [show blk b = .agg [.bool b.dir, .ro 2 (b.slots.map slt), .str b.text] from rfl] at e1
    have hw := w_i64 ((j : Int) + 1) (by omega)
    by_cases hk : p.kind = 2
    · rw [if_pos hk]
      have hk : decide (p.kind = 2) = true := by simpa using hk
      cases hd : b.dir with
      | false =>
        rw [hd] at hnm e1
        have : M ++ namedOf b = M := by rw [hnm]; simp
        rw [this]
        unfold m179
        simp only [XG, L183_8, h183_8, dskC, go_sem, seval, bnd_ite, j1, gq, e1, hk, hw, Int.natCast_nonneg, decide_true, Bool.not_true, Bool.not_false, Bool.or_true, Bool.or_self, if_true]
        first | done | rfl
      | true =>
        rw [hd] at hnm e1
        rw [hnm, if_pos rfl]
        obtain ⟨⟨y, e, m⟩, k1, kx, k2, k3, k4, k5, k6, k7, k8, k9, k10, km⟩ := in179c x l i p j b hbs M (by omega)
        simp only at kx k2 k3 k4 k5 k6 k7 k8 k9 k10 km; subst kx; subst km
        unfold m179 dskC at k1
        unfold m179
        simp only [XG, L183_8, h183_8, h183_13, dskC, m179, go_sem, seval, bnd_ite, j1, gq, e1, hk, hw, k1, k2, k3, k4, k5, k6, k7, k8, k9, k10, Int.natCast_nonneg, decide_true, Bool.not_true, Bool.or_self, Bool.false_eq_true, if_false]
        first | done | rfl
    · rw [if_neg hk]
      have hk : decide (p.kind = 2) = false := by simpa using hk
      unfold m179
      simp only [XG, L183_8, h183_8, dskC, go_sem, seval, bnd_ite, j1, gq, e1, hk, hw, Int.natCast_nonneg, decide_true, Bool.not_true, Bool.not_false, Bool.true_or, if_true]
      first | done | rfl
  case last =>
    intro M hM
    unfold m179 dskC
    simp only [XG, L183_8, h183_8, go_sem, seval, bnd_ite, Int.lt_irrefl, decide_false]
    exact .mk (by simp) ⟨rfl, rfl, rfl, rfl, rfl, rfl, rfl⟩
theorem slotsAt_fold (x : Dsk) (i : Int) (L : List Slt) : (inoOf x i).ptrs.foldl (fun L q => if (inoOf x i).kind = 2 then L ++ namedOf (blkOf x q) else L) L = L ++ slotsAt x i := by
  unfold slotsAt
  generalize inoOf x i = p
  by_cases hk : p.kind = 2
  · simp only [hk, if_true]
    have : ∀ (l : List Int) (L : List Slt), l.foldl (fun L q => L ++ namedOf (blkOf x q)) L = L ++ l.flatMap fun q => namedOf (blkOf x q) := by
      intro l
      induction l with
      | nil => intro L; simp
      | cons q l ih => intro L; rw [List.foldl_cons, ih]; simp
    exact this _ _
  · simp only [hk, if_false]
    have : ∀ (l : List Int) (L : List Slt), l.foldl (fun L q => L) L = L := by
      intro l
      induction l with
      | nil => intro L; rfl
      | cons q l ih => intro L; exact ih L
    rw [this]; simp
theorem e183 (x : Dsk) (h : x.sm) (l : List Int) (hl : l.length ≤ 1048576) (ht : ptrsSum x l ≤ 1048576) : E T 183 [dsk x, .ro 1 (l.map iv)] [] = some (.own 2 ((l.flatMap (slotsAt x)).map slt), []) := by
  rw [E_eqW t183 (Nat.le_of_ble_eq_true rfl)]
  have hs : l.flatMap (slotsAt x) = l.foldl (fun L i => L ++ slotsAt x i) [] := by
    have : ∀ (l : List Int) (L : List Slt), l.foldl (fun L q => L ++ slotsAt x q) L = L ++ l.flatMap (slotsAt x) := by
      intro l
      induction l with
      | nil => intro L; simp
      | cons q l ih => intro L; rw [List.foldl_cons, ih]; simp
    rw [this]; simp
  have psum : ∀ i p, l[i]? = some p → ptrsSum x (l.take (i + 1)) = ptrsSum x (l.take i) + ptrsN x p := fun i p hp => by
    unfold ptrsSum; rw [take_snoc hp]; simp
  have ple : ∀ i, ptrsSum x (l.take i) ≤ ptrsSum x l := fun i => by
    have : ptrsSum x l = ptrsSum x (l.take i) + ptrsSum x (l.drop i) := by
      unfold ptrsSum; rw [← List.sum_append, ← List.map_append, List.take_append_drop]
    omega
  refine (XL_each (T := T) (b := 0) (hd := H183_3) (x := L183_3) l (fun L i => L ++ slotsAt x i) (fun j L => ⟨[(2, .ptr 0 0 0), (5, .sl 1 0 L.length), (14, .ro 1 (l.map iv)), (15, .int .i64 l.length), (16, .int .i64 (j : Nat))], [some (4, [dskC x]), some (2, L.map slt)]⟩) (fun j L => L.length ≤ ptrsSum x (l.take j) * 1048576)
    (fun L r => r.1 = .exit 0 ∧ lookA r.2.env 5 = .sl 1 0 L.length ∧ r.2.mem = [some (4, [dskC x]), some (2, L.map slt)]) ?step ?last [] (by simp)).elim ?main
  case step =>
    intro j L i hi hj hL
    have hn := slotsAt_len h i
    have hps := psum j i hi
    have hpl := ple (j + 1)
    refine ⟨?_, by rw [hps]; simp only [List.length_append]; omega⟩
    have j1 : (j : Int) < (l.length : Int) := by omega
    have gi : (l.map iv).getD j .undef = .int .i64 i := gD_map hi
    have e1 := e143u x h i
    have hsm := inoOf_sm h i
    have hF := slotsAt_fold x i L
    generalize inoOf x i = p at *
    unfold dsk at e1
    rw [show ino p = .agg [.int .i64 p.kind, .int .i64 p.links, .ro 1 (p.ptrs.map iv)] from rfl] at e1
    obtain ⟨⟨y, e, m⟩, k1, kx, k2, k3, k4, k5, k6, km⟩ := in179b x h l j p hsm L (by omega)
    simp only at kx k2 k3 k4 k5 k6 km; subst kx; subst km
    rw [hF] at k1 k3
    unfold m179 dskC at k1
    have hw := w_i64 ((j : Int) + 1) (by omega)
    simp only [XG, L183_3, h183_3, h183_8, dskC, m179, go_sem, seval, bnd_ite, j1, gi, e1, hw, k1, k2, k3, k4, k5, k6, Int.natCast_nonneg, decide_true]
    first | done | rfl
  case last =>
    intro L hL
    unfold dskC
    simp only [XG, L183_3, h183_3, go_sem, seval, bnd_ite, Int.lt_irrefl, decide_false]
    exact .mk (by simp) ⟨rfl, rfl, rfl⟩
  case main =>
  rintro ⟨y, e, m⟩ ⟨k1, kx, k2, km⟩
  simp only at kx k2 km; subst kx; subst km
  have hs0 : ((0 : Nat) : Int) = 0 := rfl
  simp only [hs0, List.map_nil, List.length_nil] at k1
  rw [← hs] at k1 k2
  unfold dskC at k1
  generalize l.flatMap (slotsAt x) = S at *
  have tk : (S.map slt).take S.length = S.map slt := List.take_of_length_le (by simp)
  simp only [dsk, F183, h183_3, dskC, go_sem, seval, bnd_ite, k1, k2, tk]
end Go.Proofs.YtaaajjinpppgeaaGreat
