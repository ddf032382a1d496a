/- The slots with a name of a directory, by the reference. Own work; no condition. -/
import Derived.Test.YtaaajjinpppgeaaGreatFy
import Derived.Test.YtaaajjinpppgeaaGreatLa
set_option linter.unusedVariables false
set_option linter.unusedSimpArgs false
set_option linter.unusedSectionVars false
namespace Go.Proofs.YtaaajjinpppgeaaGreat
open Go Go.Abs
set_option maxRecDepth 100000
def pushN (L : List Slt) (s : Slt) : List Slt := if hasName s then L ++ [s] else L
theorem pushN_all (l : List Slt) : ∀ L : List Slt, l.foldl pushN L = L ++ l.filter hasName := by
  induction l with
  | nil => intro L; simp
  | cons s l ih =>
    intro L
    rw [List.foldl_cons, ih]
    unfold pushN
    cases h : hasName s <;> simp [h]
theorem pushN_len (L : List Slt) (s : Slt) : (pushN L s).length ≤ L.length + 1 := by unfold pushN; split <;> simp
def dskC (x : Dsk) : AV := .agg [.ro 1 (x.used.map bv), .ro 1 (x.taken.map bv), .ro 3 (x.inos.map ino), .ro 3 (x.blks.map blk)]
def sl178 (x : Dsk) (b : Blk) (L : List Slt) : Mem := [some (4, [dskC x]), some (2, L.map slt), some (3, [.agg [.bool b.dir, .ro 2 (b.slots.map slt), .str b.text]])]
theorem in178b (x : Dsk) (i : Int) (k : Nat) (b : Blk) (hb : b.sm) (L : List Slt) (hL : L.length ≤ 1099511627776) :
    ∃ r, XL T 0 H175_9 L175_9 ⟨[(1, .int .i64 i), (2, .ptr 0 0 0), (5, .sl 1 0 L.length), (6, .int .i64 k), (7, .ptr 2 0 0), (9, .int .i64 0)], sl178 x b L⟩ = some r ∧
      r.1 = .exit 2 ∧ lookA r.2.env 1 = .int .i64 i ∧ lookA r.2.env 2 = .ptr 0 0 0 ∧ lookA r.2.env 5 = .sl 1 0 (L ++ namedOf b).length ∧ lookA r.2.env 6 = .int .i64 k ∧ r.2.mem = sl178 x b (L ++ namedOf b) := by
  unfold Blk.sm at hb
  cases hd : b.dir with
  | false =>
    have e : L ++ namedOf b = L := by unfold namedOf; rw [hd]; simp
    rw [e]
    have key : Stops (XG T 0 H175_9 L175_9 ⟨[(1, .int .i64 i), (2, .ptr 0 0 0), (5, .sl 1 0 L.length), (6, .int .i64 k), (7, .ptr 2 0 0), (9, .int .i64 0)], sl178 x b L⟩)
        (fun r => r.1 = .exit 2 ∧ lookA r.2.env 1 = .int .i64 i ∧ lookA r.2.env 2 = .ptr 0 0 0 ∧ lookA r.2.env 5 = .sl 1 0 L.length ∧ lookA r.2.env 6 = .int .i64 k ∧ r.2.mem = sl178 x b L) := by
      unfold sl178 dskC
      by_cases h0 : 0 < (b.slots.length : Int)
      · simp only [XG, L175_9, h175_9, go_sem, seval, bnd_ite, hd, h0, decide_true, Bool.and_false, Bool.false_eq_true, if_false]
        exact .mk (by simp) ⟨rfl, rfl, rfl, rfl, rfl, rfl⟩
      · simp only [XG, L175_9, h175_9, go_sem, seval, bnd_ite, hd, h0, decide_false, Bool.false_and, Bool.false_eq_true, if_false]
        exact .mk (by simp) ⟨rfl, rfl, rfl, rfl, rfl, rfl⟩
    obtain ⟨r, h1, h2, h3⟩ := key
    exact ⟨r, XL_out h1 h2, h3⟩
  | true =>
    have e : L ++ namedOf b = b.slots.foldl pushN L := by unfold namedOf; rw [hd, if_pos rfl, pushN_all]
    rw [e]
    refine XL_each b.slots pushN (fun j M => ⟨[(1, .int .i64 i), (2, .ptr 0 0 0), (5, .sl 1 0 M.length), (6, .int .i64 k), (7, .ptr 2 0 0), (9, .int .i64 (j : Nat))], sl178 x b M⟩) (fun j M => M.length ≤ L.length + j)
      (fun M r => r.1 = .exit 2 ∧ lookA r.2.env 1 = .int .i64 i ∧ lookA r.2.env 2 = .ptr 0 0 0 ∧ lookA r.2.env 5 = .sl 1 0 M.length ∧ lookA r.2.env 6 = .int .i64 k ∧ r.2.mem = sl178 x b M) ?step ?last L (by omega)
    case step =>
      intro j M s hs hj hM
      refine ⟨?_, by have := pushN_len M s; omega⟩
      have j1 : (j : Int) < (b.slots.length : Int) := by omega
      have gs : (b.slots.map slt).getD j .undef = .agg [.str s.name, .int .i64 s.ino] := gD_map hs
      have hap : (M.length + 1) * 24 ≤ 140737488355328 := by omega
      have tk : (M.map slt).take M.length = M.map slt := List.take_of_length_le (by simp)
      have hw := w_i64 ((j : Int) + 1) (by omega)
      unfold sl178 dskC pushN
      cases hn : hasName s with
      | true =>
        have hn : decide (s.name = ⟨#[]⟩) = false := by simpa [hasName] using hn
        simp only [XG, L175_9, h175_9, go_sem, seval, bnd_ite, hd, j1, gs, hn, hap, tk, hw, Int.natCast_nonneg, decide_true, Bool.not_false, Bool.and_self, if_true, List.map_append, List.map_cons, List.map_nil, List.length_append]
        rfl
      | false =>
        have hn : decide (s.name = ⟨#[]⟩) = true := by simpa [hasName] using hn
        simp only [XG, L175_9, h175_9, go_sem, seval, bnd_ite, hd, j1, gs, hn, hw, Int.natCast_nonneg, decide_true, Bool.not_true, Bool.and_self, if_true, Bool.false_eq_true, if_false]
        rfl
    case last =>
      intro M hM
      unfold sl178 dskC
      simp only [XG, L175_9, h175_9, go_sem, seval, bnd_ite, hd, Int.lt_irrefl, decide_false, Bool.false_and]
      exact .mk (by simp) ⟨rfl, rfl, rfl, rfl, rfl, rfl⟩
theorem e175 (x : Dsk) (h : x.sm) (i : Int) (hi : -9223372036854775808 ≤ i ∧ i ≤ 9223372036854775807) : E T 175 [dsk x, .int .i64 i] [] = some (.own 2 ((slotsAt x i).map slt), []) := by
  rw [E_eqW t175 (Nat.le_of_ble_eq_true rfl)]
  have n1 := h.inos
  cases hc : inside i 1 x.inos.length with
  | false =>
    have : slotsAt x i = [] := by unfold slotsAt inoOf; rw [hc]; rfl
    rw [this]
    simp only [dsk, F175, h175_5, go_sem, seval, bnd_ite, e108i, hc, Bool.not_false, Bool.true_or, if_true, List.map_nil]
  | true =>
  have hc' := hc
  simp only [inside, Bool.and_eq_true, decide_eq_true_eq] at hc'
  have hp := inoOf_mem hc
  have hsm := inoOf_sm h i
  generalize hP : inoOf x i = p at *
  have gp : (x.inos.map ino).getD (i - 1).toNat .undef = .agg [.int .i64 p.kind, .int .i64 p.links, .ro 1 (p.ptrs.map iv)] := gD_map hp
  have b1 : 0 ≤ i - 1 := by omega
  have b2 : i - 1 < (x.inos.length : Int) := by omega
  have w1 := w_i64 (i - 1) (by omega)
  by_cases hk : p.kind = 2
  case neg =>
    have : slotsAt x i = [] := by unfold slotsAt; rw [hP, if_neg hk]
    rw [this]
    have hk : decide (p.kind = 2) = false := by simpa using hk
    simp only [dsk, F175, h175_5, go_sem, seval, bnd_ite, e108i, hc, w1, b1, b2, gp, hk, Bool.not_true, Bool.not_false, Bool.false_or, if_true, List.map_nil]
  have hs : slotsAt x i = p.ptrs.foldl (fun L q => L ++ namedOf (blkOf x q)) [] := by
    unfold slotsAt; rw [hP, if_pos hk]
    have : ∀ (l : List Int) (L : List Slt), l.foldl (fun L q => L ++ namedOf (blkOf x q)) L = L ++ l.flatMap fun q => namedOf (blkOf x q) := by
      intro l
      induction l with
      | nil => intro L; simp
      | cons q l ih => intro L; rw [List.foldl_cons, ih]; simp
    rw [this]; simp
  unfold Ino.sm at hsm
  refine (XL_each (T := T) (b := 0) (hd := H175_5) (x := L175_5) p.ptrs (fun L q => L ++ namedOf (blkOf x q)) (fun j L => ⟨[(1, .int .i64 i), (2, .ptr 0 0 0), (5, .sl 1 0 L.length), (6, .int .i64 (j : Nat))], [some (4, [dskC x]), some (2, L.map slt)]⟩) (fun j L => L.length ≤ j * 1048576)
    (fun L r => r.1 = .exit 0 ∧ lookA r.2.env 5 = .sl 1 0 L.length ∧ r.2.mem = [some (4, [dskC x]), some (2, L.map slt)]) ?step ?last [] (by simp)).elim ?main
  case step =>
    intro j L q hq hj hL
    have hn := namedOf_len h q
    refine ⟨?_, by simp only [List.length_append]; omega⟩
    have j1 : (j : Int) < (p.ptrs.length : Int) := by omega
    have gq : (p.ptrs.map iv).getD j .undef = .int .i64 q := gD_map hq
    have e1 := e193u x h q
    unfold dsk at e1
    rw [show blk (blkOf x q) = .agg [.bool (blkOf x q).dir, .ro 2 ((blkOf x q).slots.map slt), .str (blkOf x q).text] from rfl] at e1
    obtain ⟨⟨y, e, m⟩, k1, kx, k2, k3, k4, k5, km⟩ := in178b x i j (blkOf x q) (blkOf_sm h q) L (by omega)
    simp only at kx k2 k3 k4 k5 km; subst kx; subst km
    unfold sl178 dskC at k1
    have hw := w_i64 ((j : Int) + 1) (by omega)
    simp only [XG, L175_5, h175_5, h175_9, dskC, sl178, go_sem, seval, bnd_ite, w1, b1, b2, gp, j1, gq, e1, hw, k1, k2, k3, k4, k5, Int.natCast_nonneg, decide_true]
    first | done | rfl
  case last =>
    intro L hL
    unfold dskC
    simp only [XG, L175_5, h175_5, go_sem, seval, bnd_ite, w1, b1, b2, gp, Int.lt_irrefl, decide_false]
    exact .mk (by simp) ⟨rfl, rfl, rfl⟩
  case main =>
  rintro ⟨y, e, m⟩ ⟨k1, kx, k2, km⟩
  simp only at kx k2 km; subst kx; subst km
  have hs0 : ((0 : Nat) : Int) = 0 := rfl
  simp only [hs0, List.map_nil, List.length_nil] at k1
  rw [← hs] at k1 k2
  unfold dskC at k1
  have hk : decide (p.kind = 2) = true := by simpa using hk
  generalize slotsAt x i = S at *
  have tk : (S.map slt).take S.length = S.map slt := List.take_of_length_le (by simp)
  simp only [dsk, F175, h175_5, dskC, go_sem, seval, bnd_ite, e108i, hc, w1, b1, b2, gp, hk, k1, k2, tk, Bool.not_true, Bool.or_self, Bool.false_eq_true, if_false]
end Go.Proofs.YtaaajjinpppgeaaGreat
