/- ExactDisk: the bits of what is reached and had; both answers; that they are alike. Own work; no condition. -/
import Derived.Test.YtaaajjinpppgeaaGm
import Derived.Test.YtaaajjinpppgeaaOf
set_option linter.unusedVariables false
set_option linter.unusedSimpArgs false
set_option linter.unusedSectionVars false
namespace Go.Proofs.Ytaaajjinpppgeaa
open Go Go.Abs
set_option maxRecDepth 100000
theorem all_range {n : Nat} {P : Nat → Bool} : (List.range n).all P = true ↔ ∀ i, i < n → P i = true := by
  rw [List.all_eq_true]; exact ⟨fun h i hi => h i (List.mem_range.2 hi), fun h i hi => h i (List.mem_range.1 hi)⟩
theorem eq_range {a b : List Bool} (h : a.length = b.length) : decide (a = b) = (List.range a.length).all fun i => a.getD i false == b.getD i false := by
  rw [Bool.eq_iff_iff, decide_eq_true_eq, all_range]
  constructor
  · rintro rfl i hi; simp
  · intro hA
    refine List.ext_getElem h fun i p q => ?_
    have := hA i p
    rw [beq_iff_eq] at this
    simpa [List.getD_eq_getElem?_getD, List.getElem?_eq_getElem p, List.getElem?_eq_getElem q] using this
theorem e210 (a b : List Bool) (ha : a.length ≤ 1048576) : E T 210 [.ro 1 (a.map bv), .ro 1 (b.map bv)] [] = some (.bool (decide (a = b)), []) := by
  rw [E_eq t210 (Nat.le_of_ble_eq_true rfl)]
  by_cases hl : a.length = b.length
  case neg =>
    have h1 : decide ((a.length : Int) = (b.length : Int)) = false := by simp; omega
    have h2 : decide (a = b) = false := by simp; rintro rfl; exact hl rfl
    rw [h2]
    simp only [F210, h210_4, go_sem, seval, bnd_ite, h1, Bool.not_false, if_true]
  rw [eq_range hl]
  refine (XL_all (T := T) (b := 0) (hd := H210_4) (x := L210_4) (List.range a.length) (fun i => a.getD i false == b.getD i false) (fun i => ⟨[(0, .ro 1 (a.map bv)), (1, .ro 1 (b.map bv)), (12, .int .i64 a.length), (13, .int .i64 (i : Nat))], []⟩)
    (fun r => r.1 = .exit 0) (fun r => r.1 = .ret ∧ lookA r.2.env 4 = .bool false) ?step ?hit ?last).elim ?main
  case step =>
    intro i p hp hi hP _
    obtain ⟨rfl, hi⟩ := rangeAt hp
    obtain ⟨u, hu⟩ := get_at hi
    obtain ⟨w, hw⟩ := get_at (show p < b.length by omega)
    have g1 : (a.map bv).getD p .undef = .bool u := gD_map hu
    have g2 : (b.map bv).getD p .undef = .bool w := gD_map hw
    rw [getD_at hu, getD_at hw, beq_iff_eq] at hP
    subst hP
    have k1 : (p : Int) < (a.length : Int) := by omega
    have k2 : (p : Int) < (b.length : Int) := by omega
    have hww := w_i64 ((p : Int) + 1) (by omega)
    simp only [XG, L210_4, h210_4, go_sem, seval, bnd_ite, k1, k2, g1, g2, hww, Int.natCast_nonneg, decide_true, beq_self_eq_true, Bool.not_true, Bool.false_eq_true, if_false]
    first | done | rfl
  case hit =>
    intro i p hp hi hP _
    obtain ⟨rfl, hi⟩ := rangeAt hp
    obtain ⟨u, hu⟩ := get_at hi
    obtain ⟨w, hw⟩ := get_at (show p < b.length by omega)
    have g1 : (a.map bv).getD p .undef = .bool u := gD_map hu
    have g2 : (b.map bv).getD p .undef = .bool w := gD_map hw
    rw [getD_at hu, getD_at hw] at hP
    have hP : (u == w) = false := hP
    have k1 : (p : Int) < (a.length : Int) := by omega
    have k2 : (p : Int) < (b.length : Int) := by omega
    simp only [XG, L210_4, h210_4, go_sem, seval, bnd_ite, k1, k2, g1, g2, hP, Int.natCast_nonneg, decide_true, Bool.not_false, if_true]
    exact .mk (by simp) ⟨rfl, rfl⟩
  case last =>
    intro _
    simp only [XG, L210_4, h210_4, go_sem, seval, bnd_ite, List.length_range, Int.lt_irrefl, decide_false]
    exact .mk (by simp) rfl
  case main =>
  have h1 : decide ((a.length : Int) = (b.length : Int)) = true := by simp; omega
  have hs0 : ((0 : Nat) : Int) = 0 := rfl
  rintro ⟨y, e, m⟩ ⟨k1, ⟨hA, kx⟩ | ⟨hA, kx, k2⟩⟩ <;> rw [hs0] at k1
  · simp only at kx; subst kx
    rw [hA]
    simp only [F210, h210_4, go_sem, seval, bnd_ite, h1, k1, Bool.not_true, Bool.false_eq_true, if_false]
  · simp only at kx k2; subst kx
    rw [hA]
    simp only [F210, h210_4, go_sem, seval, bnd_ite, h1, k1, k2, Bool.not_true, Bool.false_eq_true, if_false]
/-! ### What is had, by the reference -/
theorem in208 (x : Dsk) (k : Nat) (R : List Int) (p : Ino) (hp : p.sm) (L : List Int) (hL : L.length ≤ 1099511627776) :
    ∃ r, XL T 0 H208_8 L208_8 ⟨[(1, .ptr 0 0 0), (3, .sl 1 0 L.length), (4, .sl 2 0 R.length), (5, .int .i64 k), (6, .ptr 3 0 0), (7, .int .i64 0)], [some (4, [dskC x]), some (1, L.map iv), some (1, R.map iv), some (3, [.agg [.int .i64 p.kind, .int .i64 p.links, .ro 1 (p.ptrs.map iv)]])]⟩ = some r ∧
      r.1 = .exit 2 ∧ lookA r.2.env 1 = .ptr 0 0 0 ∧ lookA r.2.env 3 = .sl 1 0 (L ++ p.ptrs.filter pos).length ∧ lookA r.2.env 4 = .sl 2 0 R.length ∧ lookA r.2.env 5 = .int .i64 k ∧ r.2.mem = [some (4, [dskC x]), some (1, (L ++ p.ptrs.filter pos).map iv), some (1, R.map iv), some (3, [.agg [.int .i64 p.kind, .int .i64 p.links, .ro 1 (p.ptrs.map iv)]])] := by
  unfold Ino.sm at hp
  rw [← hadStep_all]
  refine XL_each p.ptrs hadStep (fun j M => ⟨[(1, .ptr 0 0 0), (3, .sl 1 0 M.length), (4, .sl 2 0 R.length), (5, .int .i64 k), (6, .ptr 3 0 0), (7, .int .i64 (j : Nat))], [some (4, [dskC x]), some (1, M.map iv), some (1, R.map iv), some (3, [.agg [.int .i64 p.kind, .int .i64 p.links, .ro 1 (p.ptrs.map iv)]])]⟩) (fun j M => M.length ≤ L.length + j)
    (fun M r => r.1 = .exit 2 ∧ lookA r.2.env 1 = .ptr 0 0 0 ∧ lookA r.2.env 3 = .sl 1 0 M.length ∧ lookA r.2.env 4 = .sl 2 0 R.length ∧ lookA r.2.env 5 = .int .i64 k ∧ r.2.mem = [some (4, [dskC x]), some (1, M.map iv), some (1, R.map iv), some (3, [.agg [.int .i64 p.kind, .int .i64 p.links, .ro 1 (p.ptrs.map iv)]])]) ?step ?last L (by omega)
  case step =>
    intro j M q hq hj hM
    refine ⟨?_, by unfold hadStep; split <;> (try simp only [List.length_append, List.length_cons, List.length_nil]) <;> omega⟩
    have j1 : (j : Int) < (p.ptrs.length : Int) := by omega
    have gq : (p.ptrs.map iv).getD j .undef = .int .i64 q := gD_map hq
    have hw := w_i64 ((j : Int) + 1) (by omega)
    have hap : (M.length + 1) * 8 ≤ 140737488355328 := by omega
    have tk : (M.map iv).take M.length = M.map iv := List.take_of_length_le (by simp)
    unfold dskC hadStep pos
    cases hc : decide (0 < q) with
    | true =>
      simp only [XG, L208_8, h208_8, go_sem, seval, bnd_ite, j1, hj, gq, hc, hw, hap, tk, Int.natCast_nonneg, decide_true, if_true, List.map_append, List.map_cons, List.map_nil, List.length_append]
      first | done | rfl
    | false =>
      simp only [XG, L208_8, h208_8, go_sem, seval, bnd_ite, j1, hj, gq, hc, hw, Int.natCast_nonneg, decide_true, if_true, Bool.false_eq_true, if_false]
      first | done | rfl
  case last =>
    intro M hM
    unfold dskC
    simp only [XG, L208_8, h208_8, go_sem, seval, bnd_ite, Int.lt_irrefl, decide_false]
    exact .mk (by simp) ⟨rfl, rfl, rfl, rfl, rfl, rfl⟩
theorem e208 (x : Dsk) (h : x.sm) (ht : tot x ≤ 1048576) : E T 208 [dsk x] [] = some (.own 1 ((hadR x).map iv), []) := by
  rw [E_eqW t208 (Nat.le_of_ble_eq_true rfl)]
  have e1 := e97 x h
  have hb := h.inos
  have hRl := reachL_len x
  have hT := ptrs_reach ht
  have hRi : ∀ p ∈ reachL x, inside p 1 x.inos.length = true := fun p hp => by
    have := (mem_reachL.1 hp).1
    simp only [inside, Bool.and_eq_true, decide_eq_true_eq]; exact this
  unfold hadR
  generalize reachL x = l at *
  have hs : l.flatMap (hadOf x) = l.foldl (fun L i => L ++ hadOf x i) [] := by
    have : ∀ (l : List Int) (L : List Int), l.foldl (fun L q => L ++ hadOf x q) L = L ++ l.flatMap (hadOf x) := by
      intro l
      induction l with
      | nil => intro L; simp
      | cons q l ih => intro L; rw [List.foldl_cons, ih]; simp
    rw [this]; simp
  have psum : ∀ i p, l[i]? = some p → ptrsSum x (l.take (i + 1)) = ptrsSum x (l.take i) + ptrsN x p := fun i p hp => by
    unfold ptrsSum; rw [take_snoc hp]; simp
  have ple : ∀ i, ptrsSum x (l.take i) ≤ ptrsSum x l := fun i => by
    have : ptrsSum x l = ptrsSum x (l.take i) + ptrsSum x (l.drop i) := by
      unfold ptrsSum; rw [← List.sum_append, ← List.map_append, List.take_append_drop]
    omega
  refine (XL_each (T := T) (b := 0) (hd := H208_4) (x := L208_4) l (fun L i => L ++ hadOf x i) (fun j L => ⟨[(1, .ptr 0 0 0), (3, .sl 1 0 L.length), (4, .sl 2 0 l.length), (5, .int .i64 (j : Nat))], [some (4, [dskC x]), some (1, L.map iv), some (1, l.map iv)]⟩) (fun j L => L.length ≤ ptrsSum x (l.take j))
    (fun L r => r.1 = .exit 0 ∧ lookA r.2.env 3 = .sl 1 0 L.length ∧ r.2.mem = [some (4, [dskC x]), some (1, L.map iv), some (1, l.map iv)]) ?step ?last [] (by simp)).elim ?main
  case step =>
    intro j L p hp hj hL
    have hn := hadOf_len x p
    have hps := psum j p hp
    have hpl := ple (j + 1)
    refine ⟨?_, by rw [hps]; simp only [List.length_append]; omega⟩
    have j1 : (j : Int) < (l.length : Int) := by omega
    have gp : (l.map iv).getD j .undef = .int .i64 p := gD_map hp
    have hc0 := hRi p (List.mem_of_getElem? hp)
    have hpi := inoOf_mem hc0
    have gi : (x.inos.map ino).getD (p - 1).toNat .undef = .agg [.int .i64 (inoOf x p).kind, .int .i64 (inoOf x p).links, .ro 1 ((inoOf x p).ptrs.map iv)] := gD_map hpi
    simp only [inside, Bool.and_eq_true, decide_eq_true_eq] at hc0
    have b1 : 0 ≤ p - 1 := by omega
    have b2 : p - 1 < (x.inos.length : Int) := by omega
    have b3 : (p - 1).toNat < x.inos.length := by omega
    have w2 := w_i64 (p - 1) (by omega)
    have hsm := inoOf_sm h p
    unfold hadOf
    generalize inoOf x p = I at *
    obtain ⟨⟨y, e, m⟩, q1, qx, q2, q3, q4, q5, qm⟩ := in208 x j l I hsm L (by omega)
    simp only at qx q2 q3 q4 q5 qm; subst qx; subst qm
    unfold dskC at q1
    have hw := w_i64 ((j : Int) + 1) (by omega)
    simp only [XG, L208_4, h208_4, h208_8, dskC, go_sem, seval, bnd_ite, j1, hj, gp, gi, b1, b2, b3, w2, hw, q1, q2, q3, q4, q5, Int.natCast_nonneg, decide_true, if_true]
    first | done | rfl
  case last =>
    intro L hL
    unfold dskC
    simp only [XG, L208_4, h208_4, go_sem, seval, bnd_ite, Int.lt_irrefl, decide_false]
    exact .mk (by simp) ⟨rfl, rfl, rfl⟩
  case main =>
  rintro ⟨y, e, m⟩ ⟨k1, kx, k2, km⟩
  simp only at kx k2 km; subst kx; subst km
  have hs0 : ((0 : Nat) : Int) = 0 := rfl
  simp only [hs0, List.map_nil, List.length_nil] at k1
  rw [← hs] at k1 k2
  unfold dskC at k1
  generalize l.flatMap (hadOf x) = S at *
  have tk : (S.map iv).take S.length = S.map iv := List.take_of_length_le (by simp)
  simp only [dsk] at e1 ⊢
  simp only [F208, h208_4, dskC, go_sem, seval, bnd_ite, e1, k1, k2, tk]
/-! ### The bits, by the program -/
def setB (l : List Bool) (i : Int) : List Bool := l.set (i - 1).toNat true
theorem setB_fold_len (l : List Int) : ∀ b : List Bool, (l.foldl setB b).length = b.length := by
  induction l with
  | nil => intro b; rfl
  | cons i l ih => intro b; rw [List.foldl_cons, ih]; simp [setB]
theorem setB_at (l : List Int) : ∀ b : List Bool, (∀ i ∈ l, 1 ≤ i ∧ i ≤ (b.length : Int)) → ∀ k : Nat, k < b.length → (l.foldl setB b).getD k false = (b.getD k false || decide ((k : Int) + 1 ∈ l)) := by
  induction l with
  | nil => intro b _ k _; simp
  | cons i l ih =>
    intro b hi k hk
    have hl : (setB b i).length = b.length := by simp [setB]
    have h1 := hi i (by simp)
    rw [List.foldl_cons, ih _ (fun j hj => by rw [hl]; exact hi j (List.mem_cons_of_mem _ hj)) k (by omega)]
    unfold setB
    rw [gD_setB]
    by_cases c : (k : Int) + 1 = i
    · rw [if_pos ⟨by omega, by omega⟩]; simp [c]
    · rw [if_neg (by omega)]
      simp [c]
noncomputable def bitsI (x : Dsk) : List Bool := (reachL x).foldl setB (List.replicate 8 false)
noncomputable def bitsP (x : Dsk) : List Bool := (hadR x).foldl setB (List.replicate 16 false)
theorem had_in {x : Dsk} (h : dskOk x = true) : ∀ p ∈ hadR x, 1 ≤ p ∧ p ≤ 16 := by
  intro p hp
  unfold hadR at hp
  rw [List.mem_flatMap] at hp
  obtain ⟨i, hi, hp⟩ := hp
  unfold hadOf pos at hp
  rw [List.mem_filter, decide_eq_true_eq] at hp
  have hin : inside i 1 x.inos.length = true := by
    have := (mem_reachL.1 hi).1
    simp only [inside, Bool.and_eq_true, decide_eq_true_eq]; exact this
  have hm := List.mem_of_getElem? (inoOf_mem hin)
  have ha : x.inos.all inoOk = true := by
    unfold dskOk at h
    simp only [Bool.and_eq_true] at h
    exact h.1
  have := ((inoOk_iff.1 (List.all_eq_true.1 ha _ hm)).ptr p hp.1)
  omega
theorem reach_in8 {x : Dsk} (h : dskOk x = true) : ∀ p ∈ reachL x, 1 ≤ p ∧ p ≤ 8 := by
  intro p hp
  have := (mem_reachL.1 hp).1
  have := dskOk_inos h
  omega
theorem lp209 (x : Dsk) (R : List Int) (hR : ∀ i ∈ R, 1 ≤ i ∧ i ≤ 8) (hRl : R.length ≤ 1048576) (P : List Bool) (hP : P.length = 16) (b0 : List Bool) (hb0 : b0.length = 8) :
    ∃ r, XL T 0 H209_4 L209_4 ⟨[(1, .ptr 0 0 0), (2, .ptr 1 0 0), (3, .sl 2 0 R.length), (4, .ptr 3 0 0), (14, .sl 2 0 R.length), (15, .int .i64 R.length), (16, .int .i64 0)], [some (4, [dskC x]), some (2, [.agg [.nil, .nil]]), some (1, R.map iv), some (2, [.agg [.sl 4 0 16, .sl 5 0 8]]), some (1, P.map bv), some (1, b0.map bv)]⟩ = some r ∧
      r.1 = .exit 0 ∧ lookA r.2.env 1 = .ptr 0 0 0 ∧ lookA r.2.env 2 = .ptr 1 0 0 ∧ lookA r.2.env 3 = .sl 2 0 R.length ∧ lookA r.2.env 4 = .ptr 3 0 0 ∧ r.2.mem = [some (4, [dskC x]), some (2, [.agg [.nil, .nil]]), some (1, R.map iv), some (2, [.agg [.sl 4 0 16, .sl 5 0 8]]), some (1, P.map bv), some (1, (R.foldl setB b0).map bv)] := by
  refine XL_each R setB (fun k b => ⟨[(1, .ptr 0 0 0), (2, .ptr 1 0 0), (3, .sl 2 0 R.length), (4, .ptr 3 0 0), (14, .sl 2 0 R.length), (15, .int .i64 R.length), (16, .int .i64 (k : Nat))], [some (4, [dskC x]), some (2, [.agg [.nil, .nil]]), some (1, R.map iv), some (2, [.agg [.sl 4 0 16, .sl 5 0 8]]), some (1, P.map bv), some (1, b.map bv)]⟩) (fun k b => b.length = 8)
    (fun b r => r.1 = .exit 0 ∧ lookA r.2.env 1 = .ptr 0 0 0 ∧ lookA r.2.env 2 = .ptr 1 0 0 ∧ lookA r.2.env 3 = .sl 2 0 R.length ∧ lookA r.2.env 4 = .ptr 3 0 0 ∧ r.2.mem = [some (4, [dskC x]), some (2, [.agg [.nil, .nil]]), some (1, R.map iv), some (2, [.agg [.sl 4 0 16, .sl 5 0 8]]), some (1, P.map bv), some (1, b.map bv)]) ?step ?last b0 hb0
  case step =>
    intro k b p hp hk hI
    refine ⟨?_, by simp [setB, hI]⟩
    have k1 : (k : Int) < (R.length : Int) := by omega
    have gp : (R.map iv).getD k .undef = .int .i64 p := gD_map hp
    have hw := w_i64 ((k : Int) + 1) (by omega)
    have hpi := hR p (List.mem_of_getElem? hp)
    have b1 : 0 ≤ p - 1 := by omega
    have b2 : p - 1 < 8 := by omega
    have b3 : (p - 1).toNat < 8 := by omega
    have w2 := w_i64 (p - 1) (by omega)
    obtain ⟨u, hu⟩ := get_at (show (p - 1).toNat < b.length by omega)
    have gu : (b.map bv).getD (p - 1).toNat .undef = .bool u := gD_map hu
    have hset : (b.map bv).set (p - 1).toNat (.bool true) = (setB b p).map bv := by unfold setB; rw [List.map_set]; rfl
    unfold dskC
    simp only [XG, L209_4, h209_4, go_sem, seval, bnd_ite, k1, hk, gp, b1, b2, b3, w2, hw, hI, hP, gu, hset, Int.natCast_nonneg, decide_true, if_true]
    first | done | rfl
  case last =>
    intro n hI
    unfold dskC
    simp only [XG, L209_4, h209_4, go_sem, seval, bnd_ite, Int.lt_irrefl, decide_false]
    exact .mk (by simp) ⟨rfl, rfl, rfl, rfl, rfl, rfl⟩
theorem lq209 (H : List Int) (hH : ∀ i ∈ H, 1 ≤ i ∧ i ≤ 16) (hHl : H.length ≤ 1048576) (b1 : List Bool) (hb1 : b1.length = 8) (b0 : List Bool) (hb0 : b0.length = 16) :
    ∃ r, XL T 0 H209_10 L209_10 ⟨[(2, .ptr 0 0 0), (4, .ptr 1 0 0), (28, .sl 2 0 H.length), (29, .int .i64 H.length), (30, .int .i64 0)], [some (2, [.agg [.nil, .nil]]), some (2, [.agg [.sl 3 0 16, .sl 4 0 8]]), some (1, H.map iv), some (1, b0.map bv), some (1, b1.map bv)]⟩ = some r ∧
      r.1 = .exit 2 ∧ lookA r.2.env 2 = .ptr 0 0 0 ∧ lookA r.2.env 4 = .ptr 1 0 0 ∧ r.2.mem = [some (2, [.agg [.nil, .nil]]), some (2, [.agg [.sl 3 0 16, .sl 4 0 8]]), some (1, H.map iv), some (1, (H.foldl setB b0).map bv), some (1, b1.map bv)] := by
  refine XL_each H setB (fun k b => ⟨[(2, .ptr 0 0 0), (4, .ptr 1 0 0), (28, .sl 2 0 H.length), (29, .int .i64 H.length), (30, .int .i64 (k : Nat))], [some (2, [.agg [.nil, .nil]]), some (2, [.agg [.sl 3 0 16, .sl 4 0 8]]), some (1, H.map iv), some (1, b.map bv), some (1, b1.map bv)]⟩) (fun k b => b.length = 16)
    (fun b r => r.1 = .exit 2 ∧ lookA r.2.env 2 = .ptr 0 0 0 ∧ lookA r.2.env 4 = .ptr 1 0 0 ∧ r.2.mem = [some (2, [.agg [.nil, .nil]]), some (2, [.agg [.sl 3 0 16, .sl 4 0 8]]), some (1, H.map iv), some (1, b.map bv), some (1, b1.map bv)]) ?step ?last b0 hb0
  case step =>
    intro k b p hp hk hI
    refine ⟨?_, by simp [setB, hI]⟩
    have k1 : (k : Int) < (H.length : Int) := by omega
    have gp : (H.map iv).getD k .undef = .int .i64 p := gD_map hp
    have hw := w_i64 ((k : Int) + 1) (by omega)
    have hpi := hH p (List.mem_of_getElem? hp)
    have c1 : 0 ≤ p - 1 := by omega
    have c2 : p - 1 < 16 := by omega
    have c3 : (p - 1).toNat < 16 := by omega
    have w2 := w_i64 (p - 1) (by omega)
    obtain ⟨u, hu⟩ := get_at (show (p - 1).toNat < b.length by omega)
    have gu : (b.map bv).getD (p - 1).toNat .undef = .bool u := gD_map hu
    have hset : (b.map bv).set (p - 1).toNat (.bool true) = (setB b p).map bv := by unfold setB; rw [List.map_set]; rfl
    simp only [XG, L209_10, h209_10, go_sem, seval, bnd_ite, k1, hk, gp, c1, c2, c3, w2, hw, hI, hb1, gu, hset, Int.natCast_nonneg, decide_true, if_true]
    first | done | rfl
  case last =>
    intro n hI
    simp only [XG, L209_10, h209_10, go_sem, seval, bnd_ite, Int.lt_irrefl, decide_false]
    exact .mk (by simp) ⟨rfl, rfl, rfl, rfl⟩
theorem e209 (x : Dsk) (h : x.sm) (ht : tot x ≤ 1048576) (hd : dskOk x = true) : E T 209 [dsk x] [] = some (.agg [.own 1 ((bitsP x).map bv), .own 1 ((bitsI x).map bv)], []) := by
  rw [E_eq t209 (Nat.le_of_ble_eq_true rfl)]
  have e1 := e98 x h
  have e2 := e180r x h ht
  have hHl := hadR_len ht
  have hRl : (reachL x).length ≤ 1048576 := Nat.le_trans (reachL_len x) h.inos
  have hR8 := reach_in8 hd
  have hH16 := had_in hd
  unfold bitsP bitsI
  generalize hadR x = H at *
  generalize reachL x = R at *
  obtain ⟨⟨y, e, m⟩, q1, qx, q2, q3, q4, q5, qm⟩ := lp209 x R hR8 hRl (List.replicate 16 false) (by simp) (List.replicate 8 false) (by simp)
  simp only at qx q2 q3 q4 q5 qm; subst qx; subst qm
  have hl8 : (R.foldl setB (List.replicate 8 false)).length = 8 := by rw [setB_fold_len]; simp
  obtain ⟨⟨y', e', m'⟩, s1, sx, s2, s3, sm⟩ := lq209 H hH16 hHl (R.foldl setB (List.replicate 8 false)) hl8 (List.replicate 16 false) (by simp)
  simp only at sx s2 s3 sm; subst sx; subst sm
  have hl16 : (H.foldl setB (List.replicate 16 false)).length = 16 := by rw [setB_fold_len]; simp
  have r16 : List.replicate 16 (AV.bool false) = (List.replicate 16 false).map bv := by rw [List.map_replicate]; rfl
  have r8 : List.replicate 8 (AV.bool false) = (List.replicate 8 false).map bv := by rw [List.map_replicate]; rfl
  generalize R.foldl setB (List.replicate 8 false) = I1 at *
  generalize H.foldl setB (List.replicate 16 false) = P1 at *
  generalize List.replicate 16 false = P0 at *
  generalize List.replicate 8 false = I0 at *
  have tk1 : (P1.map bv).take 16 = P1.map bv := List.take_of_length_le (by simp [hl16])
  have tk2 : (I1.map bv).take 8 = I1.map bv := List.take_of_length_le (by simp [hl8])
  unfold dskC at q1
  simp only [dsk] at e1 e2 ⊢
  simp only [F209, h209_4, h209_10, dskC, go_sem, seval, bnd_ite, e1, e2, r16, r8, q1, q2, q3, q4, q5, s1, s2, s3, tk1, tk2, hl8, hl16]
  first | done | rfl
/-! ### What is exact -/
noncomputable def exI (x : Dsk) (k : Nat) : Bool :=
  if decide ((k : Int) + 1 ∈ reachL x) then (if decide ((k : Int) + 1 = 1) then decide (linksOf x ((k : Int) + 1) = 0) && decide ((inoOf x ((k : Int) + 1)).links = 1) else decide ((inoOf x ((k : Int) + 1)).links = linksOf x ((k : Int) + 1)) && !(decide ((inoOf x ((k : Int) + 1)).kind = 2) && !decide (linksOf x ((k : Int) + 1) = 1)))
  else decide ((inoOf x ((k : Int) + 1)).kind = 0)
noncomputable def exS (x : Dsk) (k : Nat) : Bool := (x.taken.getD k false == decide ((k : Int) + 1 ∈ reachL x)) && exI x k
noncomputable def exB (x : Dsk) (k : Nat) : Bool := x.used.getD k false == decide ((k : Int) + 1 ∈ hadR x)
noncomputable def exact' (x : Dsk) : Bool := safe x && (List.range 8).all (exS x) && (List.range 16).all (exB x)
theorem root_reach {x : Dsk} (hn : 0 < x.inos.length) : (1 : Int) ∈ reachL x := mem_reachL.2 ⟨by omega, .root⟩
theorem exact_eq (x : Dsk) : exact' x = (safe x && (List.range 8).all (exI x) && (decide (bitsP x = x.used) && decide (bitsI x = x.taken))) := by
  unfold exact'
  cases hs : safe x with
  | false => rfl
  | true =>
  have hd : dskOk x = true := by unfold safe at hs; simp only [Bool.and_eq_true] at hs; exact hs.1.1.1.1.1.1
  have hu : x.used.length = 16 := by unfold dskOk at hd; simp only [Bool.and_eq_true, decide_eq_true_eq] at hd; exact hd.2.2.1.1.1
  have hta : x.taken.length = 8 := by unfold dskOk at hd; simp only [Bool.and_eq_true, decide_eq_true_eq] at hd; exact hd.2.2.1.1.2
  have l16 : (bitsP x).length = 16 := by unfold bitsP; rw [setB_fold_len]; simp
  have l8 : (bitsI x).length = 8 := by unfold bitsI; rw [setB_fold_len]; simp
  have gP : ∀ k : Nat, k < 16 → (bitsP x).getD k false = decide ((k : Int) + 1 ∈ hadR x) := fun k hk => by
    unfold bitsP
    rw [setB_at _ _ (fun i hi => by have := had_in hd i hi; simpa using this) k (by simpa using hk), List.getD_eq_getElem?_getD, List.getElem?_replicate, if_pos hk]; rfl
  have gI : ∀ k : Nat, k < 8 → (bitsI x).getD k false = decide ((k : Int) + 1 ∈ reachL x) := fun k hk => by
    unfold bitsI
    rw [setB_at _ _ (fun i hi => by have := reach_in8 hd i hi; simpa using this) k (by simpa using hk), List.getD_eq_getElem?_getD, List.getElem?_replicate, if_pos hk]; rfl
  rw [eq_range (by omega), eq_range (by omega), l16, l8, Bool.true_and, Bool.true_and, Bool.eq_iff_iff]
  simp only [Bool.and_eq_true, all_range]
  constructor
  · rintro ⟨h1, h2⟩
    refine ⟨fun k hk => ?_, fun k hk => ?_, fun k hk => ?_⟩
    · have := h1 k hk; unfold exS at this; rw [Bool.and_eq_true] at this; exact this.2
    · have := h2 k hk; unfold exB at this; rw [beq_iff_eq] at this ⊢; rw [gP k hk, this]
    · have := h1 k hk; unfold exS at this; rw [Bool.and_eq_true, beq_iff_eq] at this; rw [beq_iff_eq, gI k hk, this.1]
  · rintro ⟨h1, h2, h3⟩
    refine ⟨fun k hk => ?_, fun k hk => ?_⟩
    · have := h3 k hk; rw [beq_iff_eq, gI k hk] at this
      unfold exS; rw [Bool.and_eq_true, beq_iff_eq]; exact ⟨this.symm, h1 k hk⟩
    · have := h2 k hk; rw [beq_iff_eq, gP k hk] at this
      unfold exB; rw [beq_iff_eq]; exact this.symm
theorem bq1 : (true == true) = true := rfl
theorem bq2 : (true == false) = false := rfl
theorem bq3 : (false == true) = false := rfl
theorem bq4 : (false == false) = true := rfl
theorem st114 (x : Dsk) (h : x.sm) (ht : tot x ≤ 1048576) (hd : dskOk x = true) (i : Nat) (hi : i < 8) :
    (exS x i = true ∧ XG T 0 H114_5 L114_5 ⟨[(1, .ptr 0 0 0), (3, .sl 1 0 (reachL x).length), (4, .int .i64 ((i : Int) + 1))], [some (4, [dskC x]), some (1, (reachL x).map iv)]⟩ = some (.normal, ⟨[(1, .ptr 0 0 0), (3, .sl 1 0 (reachL x).length), (4, .int .i64 (((i + 1 : Nat) : Int) + 1))], [some (4, [dskC x]), some (1, (reachL x).map iv)]⟩)) ∨
    (exS x i = false ∧ Stops (XG T 0 H114_5 L114_5 ⟨[(1, .ptr 0 0 0), (3, .sl 1 0 (reachL x).length), (4, .int .i64 ((i : Int) + 1))], [some (4, [dskC x]), some (1, (reachL x).map iv)]⟩) (fun r => r.1 = .ret ∧ lookA r.2.env 2 = .bool false)) := by
  have n8 := dskOk_inos hd
  have hta : x.taken.length = 8 := by unfold dskOk at hd; simp only [Bool.and_eq_true, decide_eq_true_eq] at hd; exact hd.2.2.1.1.2
  have hRl : (reachL x).length ≤ maxLen := by have := reachL_len x; unfold maxLen; omega
  have e1 := e126 (reachL x) ((i : Int) + 1) hRl
  have e2 := e77 x h ht ((i : Int) + 1)
  have e3 := e176u x h ((i : Int) + 1)
  have hroot := root_reach (x := x) (by omega)
  have hin : inside ((i : Int) + 1) 1 x.inos.length = true := by simp only [inside, Bool.and_eq_true, decide_eq_true_eq]; omega
  have hp := inoOf_mem hin
  have a1 : (i : Int) + 1 - 1 = i := by omega
  rw [a1, Int.toNat_natCast] at hp
  obtain ⟨tb, htb⟩ := get_at (show i < x.taken.length by omega)
  have gt : (x.taken.map bv).getD i .undef = .bool tb := gD_map htb
  have htd : x.taken.getD i false = tb := getD_at htb
  unfold exS exI
  rw [htd]
  generalize linksOf x ((i : Int) + 1) = L at *
  generalize inoOf x ((i : Int) + 1) = I at *
  have gi : (x.inos.map ino).getD i .undef = .agg [.int .i64 I.kind, .int .i64 I.links, .ro 1 (I.ptrs.map iv)] := gD_map hp
  unfold dsk at e2 e3
  rw [show ino I = .agg [.int .i64 I.kind, .int .i64 I.links, .ro 1 (I.ptrs.map iv)] from rfl] at e3
  generalize hRR : reachL x = R at *
  have w1 := w_i64 (i : Int) (by omega)
  have w2 := w_i64 ((i : Int) + 1 + 1) (by omega)
  have b1 : (i : Int) + 1 ≤ (x.inos.length : Int) := by omega
  have b2 : (i : Int) < (x.inos.length : Int) := by omega
  have b3 : i < x.inos.length := by omega
  have b4 : (i : Int) < (x.taken.length : Int) := by omega
  have b5 : i < x.taken.length := by omega
  have b6 : (i : Int) + 1 ≤ 8 := by omega
  unfold dskC
  cases hR : decide ((i : Int) + 1 ∈ R) with
  | false =>
    cases hk0 : decide (I.kind = 0) with
    | false =>
      right
      refine ⟨by simp [hR, hk0], ?_⟩
      simp only [XG, L114_5, h114_5, go_sem, seval, bnd_ite, a1, w1, w2, b1, b2, b3, b4, b5, b6, e1, e2, e3, gi, gt, Int.natCast_nonneg, hR, hk0, decide_true, beq_self_eq_true, bq1, bq2, bq3, bq4, decide_false, if_true, Bool.not_true, Bool.not_false, Bool.true_or, Bool.false_or, Bool.or_true, Bool.or_false, Bool.true_and, Bool.and_true, Bool.and_false, Bool.false_and, Bool.and_self, Bool.or_self, Bool.false_eq_true, if_false, bne_self_eq_false, Bool.true_bne, Bool.false_bne, Bool.bne_true, Bool.bne_false]
      exact .mk (by simp) ⟨rfl, rfl⟩
    | true =>
      cases tb with
      | false =>
        have h1 : decide ((i : Int) + 1 = 1) = false := by
          by_cases c : (i : Int) + 1 = 1
          · rw [c] at hR; rw [decide_eq_true hroot] at hR; cases hR
          · exact decide_eq_false c
        have hg : decide (1 < (i : Int) + 1) = true := by have := of_decide_eq_false h1; exact decide_eq_true (by omega)
        have hk2 : decide (I.kind = 2) = false := by have := of_decide_eq_true hk0; exact decide_eq_false (by omega)
        left
        refine ⟨by simp [hR, hk0, h1, hg, hk2], ?_⟩
        simp only [XG, L114_5, h114_5, go_sem, seval, bnd_ite, a1, w1, w2, b1, b2, b3, b4, b5, b6, e1, e2, e3, gi, gt, Int.natCast_nonneg, hR, hk0, h1, hg, hk2, decide_true, beq_self_eq_true, bq1, bq2, bq3, bq4, decide_false, if_true, Bool.not_true, Bool.not_false, Bool.true_or, Bool.false_or, Bool.or_true, Bool.or_false, Bool.true_and, Bool.and_true, Bool.and_false, Bool.false_and, Bool.and_self, Bool.or_self, Bool.false_eq_true, if_false, bne_self_eq_false, Bool.true_bne, Bool.false_bne, Bool.bne_true, Bool.bne_false]
        first | done | rfl
      | true =>
        right
        refine ⟨by simp [hR, hk0], ?_⟩
        simp only [XG, L114_5, h114_5, go_sem, seval, bnd_ite, a1, w1, w2, b1, b2, b3, b4, b5, b6, e1, e2, e3, gi, gt, Int.natCast_nonneg, hR, hk0, decide_true, beq_self_eq_true, bq1, bq2, bq3, bq4, decide_false, if_true, Bool.not_true, Bool.not_false, Bool.true_or, Bool.false_or, Bool.or_true, Bool.or_false, Bool.true_and, Bool.and_true, Bool.and_false, Bool.false_and, Bool.and_self, Bool.or_self, Bool.false_eq_true, if_false, bne_self_eq_false, Bool.true_bne, Bool.false_bne, Bool.bne_true, Bool.bne_false]
        exact .mk (by simp) ⟨rfl, rfl⟩
  | true =>
    cases tb with
    | false =>
      right
      refine ⟨by simp [hR], ?_⟩
      simp only [XG, L114_5, h114_5, go_sem, seval, bnd_ite, a1, w1, w2, b1, b2, b3, b4, b5, b6, e1, e2, e3, gi, gt, Int.natCast_nonneg, hR, decide_true, beq_self_eq_true, bq1, bq2, bq3, bq4, decide_false, if_true, Bool.not_true, Bool.not_false, Bool.true_or, Bool.false_or, Bool.or_true, Bool.or_false, Bool.true_and, Bool.and_true, Bool.and_false, Bool.false_and, Bool.and_self, Bool.or_self, Bool.false_eq_true, if_false, bne_self_eq_false, Bool.true_bne, Bool.false_bne, Bool.bne_true, Bool.bne_false]
      exact .mk (by simp) ⟨rfl, rfl⟩
    | true =>
      cases h1 : decide ((i : Int) + 1 = 1) with
      | false =>
        have hg : decide (1 < (i : Int) + 1) = true := by have := of_decide_eq_false h1; exact decide_eq_true (by omega)
        cases hLL : decide (I.links = L) with
        | false =>
          right
          refine ⟨by simp [hR, h1, hg, hLL], ?_⟩
          simp only [XG, L114_5, h114_5, go_sem, seval, bnd_ite, a1, w1, w2, b1, b2, b3, b4, b5, b6, e1, e2, e3, gi, gt, Int.natCast_nonneg, hR, h1, hg, hLL, decide_true, beq_self_eq_true, bq1, bq2, bq3, bq4, decide_false, if_true, Bool.not_true, Bool.not_false, Bool.true_or, Bool.false_or, Bool.or_true, Bool.or_false, Bool.true_and, Bool.and_true, Bool.and_false, Bool.false_and, Bool.and_self, Bool.or_self, Bool.false_eq_true, if_false, bne_self_eq_false, Bool.true_bne, Bool.false_bne, Bool.bne_true, Bool.bne_false]
          exact .mk (by simp) ⟨rfl, rfl⟩
        | true =>
          cases hk2 : decide (I.kind = 2) with
          | false =>
            left
            refine ⟨by simp [hR, h1, hg, hLL, hk2], ?_⟩
            simp only [XG, L114_5, h114_5, go_sem, seval, bnd_ite, a1, w1, w2, b1, b2, b3, b4, b5, b6, e1, e2, e3, gi, gt, Int.natCast_nonneg, hR, h1, hg, hLL, hk2, decide_true, beq_self_eq_true, bq1, bq2, bq3, bq4, decide_false, if_true, Bool.not_true, Bool.not_false, Bool.true_or, Bool.false_or, Bool.or_true, Bool.or_false, Bool.true_and, Bool.and_true, Bool.and_false, Bool.false_and, Bool.and_self, Bool.or_self, Bool.false_eq_true, if_false, bne_self_eq_false, Bool.true_bne, Bool.false_bne, Bool.bne_true, Bool.bne_false]
            first | done | rfl
          | true =>
            cases hL1 : decide (L = 1) with
            | false =>
              right
              refine ⟨by simp [hR, h1, hg, hLL, hk2, hL1], ?_⟩
              simp only [XG, L114_5, h114_5, go_sem, seval, bnd_ite, a1, w1, w2, b1, b2, b3, b4, b5, b6, e1, e2, e3, gi, gt, Int.natCast_nonneg, hR, h1, hg, hLL, hk2, hL1, decide_true, beq_self_eq_true, bq1, bq2, bq3, bq4, decide_false, if_true, Bool.not_true, Bool.not_false, Bool.true_or, Bool.false_or, Bool.or_true, Bool.or_false, Bool.true_and, Bool.and_true, Bool.and_false, Bool.false_and, Bool.and_self, Bool.or_self, Bool.false_eq_true, if_false, bne_self_eq_false, Bool.true_bne, Bool.false_bne, Bool.bne_true, Bool.bne_false]
              exact .mk (by simp) ⟨rfl, rfl⟩
            | true =>
              left
              refine ⟨by simp [hR, h1, hg, hLL, hk2, hL1], ?_⟩
              simp only [XG, L114_5, h114_5, go_sem, seval, bnd_ite, a1, w1, w2, b1, b2, b3, b4, b5, b6, e1, e2, e3, gi, gt, Int.natCast_nonneg, hR, h1, hg, hLL, hk2, hL1, decide_true, beq_self_eq_true, bq1, bq2, bq3, bq4, decide_false, if_true, Bool.not_true, Bool.not_false, Bool.true_or, Bool.false_or, Bool.or_true, Bool.or_false, Bool.true_and, Bool.and_true, Bool.and_false, Bool.false_and, Bool.and_self, Bool.or_self, Bool.false_eq_true, if_false, bne_self_eq_false, Bool.true_bne, Bool.false_bne, Bool.bne_true, Bool.bne_false]
              first | done | rfl
      | true =>
        have hg : decide (1 < (i : Int) + 1) = false := by have := of_decide_eq_true h1; exact decide_eq_false (by omega)
        cases hl1 : decide (I.links = 1) with
        | false =>
          right
          refine ⟨by simp [hR, h1, hg, hl1], ?_⟩
          simp only [XG, L114_5, h114_5, go_sem, seval, bnd_ite, a1, w1, w2, b1, b2, b3, b4, b5, b6, e1, e2, e3, gi, gt, Int.natCast_nonneg, hR, h1, hg, hl1, decide_true, beq_self_eq_true, bq1, bq2, bq3, bq4, decide_false, if_true, Bool.not_true, Bool.not_false, Bool.true_or, Bool.false_or, Bool.or_true, Bool.or_false, Bool.true_and, Bool.and_true, Bool.and_false, Bool.false_and, Bool.and_self, Bool.or_self, Bool.false_eq_true, if_false, bne_self_eq_false, Bool.true_bne, Bool.false_bne, Bool.bne_true, Bool.bne_false]
          exact .mk (by simp) ⟨rfl, rfl⟩
        | true =>
          cases hL0 : decide (L = 0) with
          | false =>
            right
            refine ⟨by simp [hR, h1, hg, hl1, hL0], ?_⟩
            simp only [XG, L114_5, h114_5, go_sem, seval, bnd_ite, a1, w1, w2, b1, b2, b3, b4, b5, b6, e1, e2, e3, gi, gt, Int.natCast_nonneg, hR, h1, hg, hl1, hL0, decide_true, beq_self_eq_true, bq1, bq2, bq3, bq4, decide_false, if_true, Bool.not_true, Bool.not_false, Bool.true_or, Bool.false_or, Bool.or_true, Bool.or_false, Bool.true_and, Bool.and_true, Bool.and_false, Bool.false_and, Bool.and_self, Bool.or_self, Bool.false_eq_true, if_false, bne_self_eq_false, Bool.true_bne, Bool.false_bne, Bool.bne_true, Bool.bne_false]
            exact .mk (by simp) ⟨rfl, rfl⟩
          | true =>
            left
            refine ⟨by simp [hR, h1, hg, hl1, hL0], ?_⟩
            simp only [XG, L114_5, h114_5, go_sem, seval, bnd_ite, a1, w1, w2, b1, b2, b3, b4, b5, b6, e1, e2, e3, gi, gt, Int.natCast_nonneg, hR, h1, hg, hl1, hL0, decide_true, beq_self_eq_true, bq1, bq2, bq3, bq4, decide_false, if_true, Bool.not_true, Bool.not_false, Bool.true_or, Bool.false_or, Bool.or_true, Bool.or_false, Bool.true_and, Bool.and_true, Bool.and_false, Bool.false_and, Bool.and_self, Bool.or_self, Bool.false_eq_true, if_false, bne_self_eq_false, Bool.true_bne, Bool.false_bne, Bool.bne_true, Bool.bne_false]
            first | done | rfl
theorem lp114 (x : Dsk) (h : x.sm) (ht : tot x ≤ 1048576) (hd : dskOk x = true) :
    ∃ r, XL T 0 H114_5 L114_5 ⟨[(1, .ptr 0 0 0), (3, .sl 1 0 (reachL x).length), (4, .int .i64 1)], [some (4, [dskC x]), some (1, (reachL x).map iv)]⟩ = some r ∧ ((List.range 8).all (exS x) = true ∧ (r.1 = .exit 0 ∧ lookA r.2.env 1 = .ptr 0 0 0 ∧ lookA r.2.env 3 = .sl 1 0 (reachL x).length ∧ r.2.mem = [some (4, [dskC x]), some (1, (reachL x).map iv)]) ∨ (List.range 8).all (exS x) = false ∧ (r.1 = .ret ∧ lookA r.2.env 2 = .bool false)) := by
  have n8 := dskOk_inos hd
  refine XL_all (List.range 8) (exS x) (fun i => ⟨[(1, .ptr 0 0 0), (3, .sl 1 0 (reachL x).length), (4, .int .i64 (((i : Nat) : Int) + 1))], [some (4, [dskC x]), some (1, (reachL x).map iv)]⟩)
    (fun r => r.1 = .exit 0 ∧ lookA r.2.env 1 = .ptr 0 0 0 ∧ lookA r.2.env 3 = .sl 1 0 (reachL x).length ∧ r.2.mem = [some (4, [dskC x]), some (1, (reachL x).map iv)]) (fun r => r.1 = .ret ∧ lookA r.2.env 2 = .bool false) ?step ?hit ?last
  case step =>
    intro i p hp hi hP _
    obtain ⟨rfl, hi⟩ := rangeAt hp
    rcases st114 x h ht hd p hi with ⟨h1, h2⟩ | ⟨h1, h2⟩
    · exact h2
    · rw [h1] at hP; cases hP
  case hit =>
    intro i p hp hi hP _
    obtain ⟨rfl, hi⟩ := rangeAt hp
    rcases st114 x h ht hd p hi with ⟨h1, h2⟩ | ⟨h1, h2⟩
    · rw [h1] at hP; cases hP
    · exact h2
  case last =>
    intro _
    have k1 : ¬ ((8 : Nat) : Int) + 1 ≤ (x.inos.length : Int) := by omega
    have k2 : ¬ ((8 : Nat) : Int) + 1 ≤ 8 := by omega
    have k3 : ¬ (8 : Int) + 1 ≤ (x.inos.length : Int) := by omega
    have k4 : ¬ (9 : Int) ≤ (x.inos.length : Int) := by omega
    have k5 : ¬ (8 : Int) + 1 ≤ 8 := by omega
    have k6 : ¬ (9 : Int) ≤ 8 := by omega
    have k7 : decide ((9 : Int) ≤ 8) = false := rfl
    have k8 : decide ((8 : Int) + 1 ≤ 8) = false := rfl
    have k9 : decide (((8 : Nat) : Int) + 1 ≤ 8) = false := rfl
    unfold dskC
    simp only [XG, L114_5, h114_5, go_sem, seval, bnd_ite, List.length_range, k1, k2, k3, k4, k5, k6, k7, k8, k9, decide_false]
    exact .mk (by simp) ⟨rfl, rfl, rfl, rfl⟩
theorem st115 (x : Dsk) (h : x.sm) (ht : tot x ≤ 1048576) (hd : dskOk x = true) (i : Nat) (hi : i < 8) :
    (exI x i = true ∧ XG T 0 H115_5 L115_5 ⟨[(1, .ptr 0 0 0), (3, .sl 1 0 (reachL x).length), (4, .int .i64 ((i : Int) + 1))], [some (4, [dskC x]), some (1, (reachL x).map iv)]⟩ = some (.normal, ⟨[(1, .ptr 0 0 0), (3, .sl 1 0 (reachL x).length), (4, .int .i64 (((i + 1 : Nat) : Int) + 1))], [some (4, [dskC x]), some (1, (reachL x).map iv)]⟩)) ∨
    (exI x i = false ∧ Stops (XG T 0 H115_5 L115_5 ⟨[(1, .ptr 0 0 0), (3, .sl 1 0 (reachL x).length), (4, .int .i64 ((i : Int) + 1))], [some (4, [dskC x]), some (1, (reachL x).map iv)]⟩) (fun r => r.1 = .ret ∧ lookA r.2.env 2 = .bool false)) := by
  have n8 := dskOk_inos hd
  have hta : x.taken.length = 8 := by unfold dskOk at hd; simp only [Bool.and_eq_true, decide_eq_true_eq] at hd; exact hd.2.2.1.1.2
  have hRl : (reachL x).length ≤ maxLen := by have := reachL_len x; unfold maxLen; omega
  have e1 := e130 (reachL x) ((i : Int) + 1) hRl
  have e2 := e78 x h ht ((i : Int) + 1)
  have e3 := e176u x h ((i : Int) + 1)
  have hroot := root_reach (x := x) (by omega)
  have hin : inside ((i : Int) + 1) 1 x.inos.length = true := by simp only [inside, Bool.and_eq_true, decide_eq_true_eq]; omega
  have hp := inoOf_mem hin
  have a1 : (i : Int) + 1 - 1 = i := by omega
  rw [a1, Int.toNat_natCast] at hp
  obtain ⟨tb, htb⟩ := get_at (show i < x.taken.length by omega)
  have gt : (x.taken.map bv).getD i .undef = .bool tb := gD_map htb
  have htd : x.taken.getD i false = tb := getD_at htb
  unfold exI
  generalize linksOf x ((i : Int) + 1) = L at *
  generalize inoOf x ((i : Int) + 1) = I at *
  have gi : (x.inos.map ino).getD i .undef = .agg [.int .i64 I.kind, .int .i64 I.links, .ro 1 (I.ptrs.map iv)] := gD_map hp
  unfold dsk at e2 e3
  rw [show ino I = .agg [.int .i64 I.kind, .int .i64 I.links, .ro 1 (I.ptrs.map iv)] from rfl] at e3
  generalize hRR : reachL x = R at *
  have w1 := w_i64 (i : Int) (by omega)
  have w2 := w_i64 ((i : Int) + 1 + 1) (by omega)
  have b1 : (i : Int) + 1 ≤ (x.inos.length : Int) := by omega
  have b2 : (i : Int) < (x.inos.length : Int) := by omega
  have b3 : i < x.inos.length := by omega
  have b4 : (i : Int) < (x.taken.length : Int) := by omega
  have b5 : i < x.taken.length := by omega
  have b6 : (i : Int) + 1 ≤ 8 := by omega
  unfold dskC
  cases hR : decide ((i : Int) + 1 ∈ R) with
  | false =>
    cases hk0 : decide (I.kind = 0) with
    | false =>
      right
      refine ⟨by simp [hR, hk0], ?_⟩
      simp only [XG, L115_5, h115_5, go_sem, seval, bnd_ite, a1, w1, w2, b1, b2, b3, b4, b5, b6, e1, e2, e3, gi, gt, Int.natCast_nonneg, hR, hk0, decide_true, beq_self_eq_true, bq1, bq2, bq3, bq4, decide_false, if_true, Bool.not_true, Bool.not_false, Bool.true_or, Bool.false_or, Bool.or_true, Bool.or_false, Bool.true_and, Bool.and_true, Bool.and_false, Bool.false_and, Bool.and_self, Bool.or_self, Bool.false_eq_true, if_false, bne_self_eq_false, Bool.true_bne, Bool.false_bne, Bool.bne_true, Bool.bne_false]
      exact .mk (by simp) ⟨rfl, rfl⟩
    | true =>
      left
      refine ⟨by simp [hR, hk0], ?_⟩
      simp only [XG, L115_5, h115_5, go_sem, seval, bnd_ite, a1, w1, w2, b1, b2, b3, b4, b5, b6, e1, e2, e3, gi, gt, Int.natCast_nonneg, hR, hk0, decide_true, beq_self_eq_true, bq1, bq2, bq3, bq4, decide_false, if_true, Bool.not_true, Bool.not_false, Bool.true_or, Bool.false_or, Bool.or_true, Bool.or_false, Bool.true_and, Bool.and_true, Bool.and_false, Bool.false_and, Bool.and_self, Bool.or_self, Bool.false_eq_true, if_false, bne_self_eq_false, Bool.true_bne, Bool.false_bne, Bool.bne_true, Bool.bne_false]
      first | done | rfl
  | true =>
    cases h1 : decide ((i : Int) + 1 = 1) with
    | false =>
      have hg : decide (1 < (i : Int) + 1) = true := by have := of_decide_eq_false h1; exact decide_eq_true (by omega)
      cases hLL : decide (I.links = L) with
      | false =>
        right
        refine ⟨by simp [hR, h1, hg, hLL], ?_⟩
        simp only [XG, L115_5, h115_5, go_sem, seval, bnd_ite, a1, w1, w2, b1, b2, b3, b4, b5, b6, e1, e2, e3, gi, gt, Int.natCast_nonneg, hR, h1, hg, hLL, decide_true, beq_self_eq_true, bq1, bq2, bq3, bq4, decide_false, if_true, Bool.not_true, Bool.not_false, Bool.true_or, Bool.false_or, Bool.or_true, Bool.or_false, Bool.true_and, Bool.and_true, Bool.and_false, Bool.false_and, Bool.and_self, Bool.or_self, Bool.false_eq_true, if_false, bne_self_eq_false, Bool.true_bne, Bool.false_bne, Bool.bne_true, Bool.bne_false]
        exact .mk (by simp) ⟨rfl, rfl⟩
      | true =>
        cases hk2 : decide (I.kind = 2) with
        | false =>
          left
          refine ⟨by simp [hR, h1, hg, hLL, hk2], ?_⟩
          simp only [XG, L115_5, h115_5, go_sem, seval, bnd_ite, a1, w1, w2, b1, b2, b3, b4, b5, b6, e1, e2, e3, gi, gt, Int.natCast_nonneg, hR, h1, hg, hLL, hk2, decide_true, beq_self_eq_true, bq1, bq2, bq3, bq4, decide_false, if_true, Bool.not_true, Bool.not_false, Bool.true_or, Bool.false_or, Bool.or_true, Bool.or_false, Bool.true_and, Bool.and_true, Bool.and_false, Bool.false_and, Bool.and_self, Bool.or_self, Bool.false_eq_true, if_false, bne_self_eq_false, Bool.true_bne, Bool.false_bne, Bool.bne_true, Bool.bne_false]
          first | done | rfl
        | true =>
          cases hL1 : decide (L = 1) with
          | false =>
            right
            refine ⟨by simp [hR, h1, hg, hLL, hk2, hL1], ?_⟩
            simp only [XG, L115_5, h115_5, go_sem, seval, bnd_ite, a1, w1, w2, b1, b2, b3, b4, b5, b6, e1, e2, e3, gi, gt, Int.natCast_nonneg, hR, h1, hg, hLL, hk2, hL1, decide_true, beq_self_eq_true, bq1, bq2, bq3, bq4, decide_false, if_true, Bool.not_true, Bool.not_false, Bool.true_or, Bool.false_or, Bool.or_true, Bool.or_false, Bool.true_and, Bool.and_true, Bool.and_false, Bool.false_and, Bool.and_self, Bool.or_self, Bool.false_eq_true, if_false, bne_self_eq_false, Bool.true_bne, Bool.false_bne, Bool.bne_true, Bool.bne_false]
            exact .mk (by simp) ⟨rfl, rfl⟩
          | true =>
            left
            refine ⟨by simp [hR, h1, hg, hLL, hk2, hL1], ?_⟩
            simp only [XG, L115_5, h115_5, go_sem, seval, bnd_ite, a1, w1, w2, b1, b2, b3, b4, b5, b6, e1, e2, e3, gi, gt, Int.natCast_nonneg, hR, h1, hg, hLL, hk2, hL1, decide_true, beq_self_eq_true, bq1, bq2, bq3, bq4, decide_false, if_true, Bool.not_true, Bool.not_false, Bool.true_or, Bool.false_or, Bool.or_true, Bool.or_false, Bool.true_and, Bool.and_true, Bool.and_false, Bool.false_and, Bool.and_self, Bool.or_self, Bool.false_eq_true, if_false, bne_self_eq_false, Bool.true_bne, Bool.false_bne, Bool.bne_true, Bool.bne_false]
            first | done | rfl
    | true =>
      have hg : decide (1 < (i : Int) + 1) = false := by have := of_decide_eq_true h1; exact decide_eq_false (by omega)
      cases hL0 : decide (L = 0) with
      | false =>
        right
        refine ⟨by simp [hR, h1, hg, hL0], ?_⟩
        simp only [XG, L115_5, h115_5, go_sem, seval, bnd_ite, a1, w1, w2, b1, b2, b3, b4, b5, b6, e1, e2, e3, gi, gt, Int.natCast_nonneg, hR, h1, hg, hL0, decide_true, beq_self_eq_true, bq1, bq2, bq3, bq4, decide_false, if_true, Bool.not_true, Bool.not_false, Bool.true_or, Bool.false_or, Bool.or_true, Bool.or_false, Bool.true_and, Bool.and_true, Bool.and_false, Bool.false_and, Bool.and_self, Bool.or_self, Bool.false_eq_true, if_false, bne_self_eq_false, Bool.true_bne, Bool.false_bne, Bool.bne_true, Bool.bne_false]
        exact .mk (by simp) ⟨rfl, rfl⟩
      | true =>
        cases hl1 : decide (I.links = 1) with
        | false =>
          right
          refine ⟨by simp [hR, h1, hg, hL0, hl1], ?_⟩
          simp only [XG, L115_5, h115_5, go_sem, seval, bnd_ite, a1, w1, w2, b1, b2, b3, b4, b5, b6, e1, e2, e3, gi, gt, Int.natCast_nonneg, hR, h1, hg, hL0, hl1, decide_true, beq_self_eq_true, bq1, bq2, bq3, bq4, decide_false, if_true, Bool.not_true, Bool.not_false, Bool.true_or, Bool.false_or, Bool.or_true, Bool.or_false, Bool.true_and, Bool.and_true, Bool.and_false, Bool.false_and, Bool.and_self, Bool.or_self, Bool.false_eq_true, if_false, bne_self_eq_false, Bool.true_bne, Bool.false_bne, Bool.bne_true, Bool.bne_false]
          exact .mk (by simp) ⟨rfl, rfl⟩
        | true =>
          left
          refine ⟨by simp [hR, h1, hg, hL0, hl1], ?_⟩
          simp only [XG, L115_5, h115_5, go_sem, seval, bnd_ite, a1, w1, w2, b1, b2, b3, b4, b5, b6, e1, e2, e3, gi, gt, Int.natCast_nonneg, hR, h1, hg, hL0, hl1, decide_true, beq_self_eq_true, bq1, bq2, bq3, bq4, decide_false, if_true, Bool.not_true, Bool.not_false, Bool.true_or, Bool.false_or, Bool.or_true, Bool.or_false, Bool.true_and, Bool.and_true, Bool.and_false, Bool.false_and, Bool.and_self, Bool.or_self, Bool.false_eq_true, if_false, bne_self_eq_false, Bool.true_bne, Bool.false_bne, Bool.bne_true, Bool.bne_false]
          first | done | rfl
theorem lp115 (x : Dsk) (h : x.sm) (ht : tot x ≤ 1048576) (hd : dskOk x = true) :
    ∃ r, XL T 0 H115_5 L115_5 ⟨[(1, .ptr 0 0 0), (3, .sl 1 0 (reachL x).length), (4, .int .i64 1)], [some (4, [dskC x]), some (1, (reachL x).map iv)]⟩ = some r ∧ ((List.range 8).all (exI x) = true ∧ (r.1 = .exit 0 ∧ lookA r.2.env 1 = .ptr 0 0 0 ∧ lookA r.2.env 3 = .sl 1 0 (reachL x).length ∧ r.2.mem = [some (4, [dskC x]), some (1, (reachL x).map iv)]) ∨ (List.range 8).all (exI x) = false ∧ (r.1 = .ret ∧ lookA r.2.env 2 = .bool false)) := by
  have n8 := dskOk_inos hd
  refine XL_all (List.range 8) (exI x) (fun i => ⟨[(1, .ptr 0 0 0), (3, .sl 1 0 (reachL x).length), (4, .int .i64 (((i : Nat) : Int) + 1))], [some (4, [dskC x]), some (1, (reachL x).map iv)]⟩)
    (fun r => r.1 = .exit 0 ∧ lookA r.2.env 1 = .ptr 0 0 0 ∧ lookA r.2.env 3 = .sl 1 0 (reachL x).length ∧ r.2.mem = [some (4, [dskC x]), some (1, (reachL x).map iv)]) (fun r => r.1 = .ret ∧ lookA r.2.env 2 = .bool false) ?step ?hit ?last
  case step =>
    intro i p hp hi hP _
    obtain ⟨rfl, hi⟩ := rangeAt hp
    rcases st115 x h ht hd p hi with ⟨h1, h2⟩ | ⟨h1, h2⟩
    · exact h2
    · rw [h1] at hP; cases hP
  case hit =>
    intro i p hp hi hP _
    obtain ⟨rfl, hi⟩ := rangeAt hp
    rcases st115 x h ht hd p hi with ⟨h1, h2⟩ | ⟨h1, h2⟩
    · rw [h1] at hP; cases hP
    · exact h2
  case last =>
    intro _
    have k1 : ¬ ((8 : Nat) : Int) + 1 ≤ (x.inos.length : Int) := by omega
    have k2 : ¬ ((8 : Nat) : Int) + 1 ≤ 8 := by omega
    have k3 : ¬ (8 : Int) + 1 ≤ (x.inos.length : Int) := by omega
    have k4 : ¬ (9 : Int) ≤ (x.inos.length : Int) := by omega
    have k5 : ¬ (8 : Int) + 1 ≤ 8 := by omega
    have k6 : ¬ (9 : Int) ≤ 8 := by omega
    have k7 : decide ((9 : Int) ≤ 8) = false := rfl
    have k8 : decide ((8 : Int) + 1 ≤ 8) = false := rfl
    have k9 : decide (((8 : Nat) : Int) + 1 ≤ 8) = false := rfl
    unfold dskC
    simp only [XG, L115_5, h115_5, go_sem, seval, bnd_ite, List.length_range, k1, k2, k3, k4, k5, k6, k7, k8, k9, decide_false]
    exact .mk (by simp) ⟨rfl, rfl, rfl, rfl⟩
theorem lq114 (x : Dsk) (hu : x.used.length = 16) (H : List Int) (hH : H.length ≤ 1048576) (Pr : Nat → Bool) (hPr : ∀ k, Pr k = (x.used.getD k false == decide ((k : Int) + 1 ∈ H))) :
    ∃ r, XL T 0 H114_17 L114_17 ⟨[(1, .ptr 0 0 0), (8, .sl 1 0 H.length), (9, .int .i64 1)], [some (4, [dskC x]), some (1, H.map iv)]⟩ = some r ∧ ((List.range 16).all Pr = true ∧ r.1 = .exit 2 ∨ (List.range 16).all Pr = false ∧ (r.1 = .ret ∧ lookA r.2.env 2 = .bool false)) := by
  refine XL_all (List.range 16) Pr (fun i => ⟨[(1, .ptr 0 0 0), (8, .sl 1 0 H.length), (9, .int .i64 (((i : Nat) : Int) + 1))], [some (4, [dskC x]), some (1, H.map iv)]⟩)
    (fun r => r.1 = .exit 2) (fun r => r.1 = .ret ∧ lookA r.2.env 2 = .bool false) ?step ?hit ?last
  case step =>
    intro i p hp hi hP _
    obtain ⟨rfl, hi⟩ := rangeAt hp
    rw [hPr] at hP
    obtain ⟨u, hu'⟩ := get_at (show p < x.used.length by omega)
    have gu : (x.used.map bv).getD p .undef = .bool u := gD_map hu'
    rw [getD_at hu', beq_iff_eq] at hP
    have hP := hP.symm
    have e1 := e126 H ((p : Int) + 1) (by unfold maxLen; omega)
    rw [hP] at e1
    have a1 : (p : Int) + 1 - 1 = p := by omega
    have w1 := w_i64 (p : Int) (by omega)
    have w2 := w_i64 ((p : Int) + 1 + 1) (by omega)
    have b1 : (p : Int) + 1 ≤ (x.used.length : Int) := by omega
    have b2 : (p : Int) < (x.used.length : Int) := by omega
    have b3 : p < x.used.length := by omega
    unfold dskC
    simp only [XG, L114_17, h114_17, go_sem, seval, bnd_ite, a1, w1, w2, b1, b2, b3, gu, e1, Int.natCast_nonneg, decide_true, beq_self_eq_true, bq1, bq2, bq3, bq4, decide_false, if_true, Bool.not_true, Bool.not_false, Bool.true_or, Bool.false_or, Bool.or_true, Bool.or_false, Bool.true_and, Bool.and_true, Bool.and_false, Bool.false_and, Bool.and_self, Bool.or_self, Bool.false_eq_true, if_false, bne_self_eq_false, Bool.true_bne, Bool.false_bne, Bool.bne_true, Bool.bne_false]
    first | done | rfl
  case hit =>
    intro i p hp hi hP _
    obtain ⟨rfl, hi⟩ := rangeAt hp
    rw [hPr] at hP
    obtain ⟨u, hu'⟩ := get_at (show p < x.used.length by omega)
    have gu : (x.used.map bv).getD p .undef = .bool u := gD_map hu'
    rw [getD_at hu'] at hP
    have e1 := e126 H ((p : Int) + 1) (by unfold maxLen; omega)
    generalize decide ((p : Int) + 1 ∈ H) = z at *
    have hP : (u == z) = false := hP
    have a1 : (p : Int) + 1 - 1 = p := by omega
    have w1 := w_i64 (p : Int) (by omega)
    have b1 : (p : Int) + 1 ≤ (x.used.length : Int) := by omega
    have b2 : (p : Int) < (x.used.length : Int) := by omega
    have b3 : p < x.used.length := by omega
    unfold dskC
    simp only [XG, L114_17, h114_17, go_sem, seval, bnd_ite, a1, w1, b1, b2, b3, gu, e1, hP, Int.natCast_nonneg, decide_true, Bool.not_false, if_true]
    exact .mk (by simp) ⟨rfl, rfl⟩
  case last =>
    intro _
    have k1 : ¬ ((16 : Nat) : Int) + 1 ≤ (x.used.length : Int) := by omega
    have k3 : ¬ (16 : Int) + 1 ≤ (x.used.length : Int) := by omega
    have k4 : ¬ (17 : Int) ≤ (x.used.length : Int) := by omega
    unfold dskC
    simp only [XG, L114_17, h114_17, go_sem, seval, bnd_ite, List.length_range, k1, k3, k4, decide_false]
    exact .mk (by simp) rfl
theorem e114 (x : Dsk) (hk : x.ok) (h : x.sm) (ht : tot x ≤ 1048576) : E T 114 [dsk x] [] = some (.bool (exact' x), []) := by
  rw [E_eq t114 (Nat.le_of_ble_eq_true rfl)]
  have e0 := e108 x hk h ht
  have e1 := e97 x h
  have e2 := e208 x h ht
  have hHl := hadR_len ht
  cases hs : safe x with
  | false =>
    have hx : exact' x = false := by unfold exact'; rw [hs]; rfl
    rw [hs] at e0; rw [hx]
    simp only [dsk] at e0 ⊢
    simp only [F114, go_sem, seval, bnd_ite, e0, Bool.not_false, if_true]
  | true =>
  rw [hs] at e0
  have hd : dskOk x = true := by unfold safe at hs; simp only [Bool.and_eq_true] at hs; exact hs.1.1.1.1.1.1
  have hu : x.used.length = 16 := by unfold dskOk at hd; simp only [Bool.and_eq_true, decide_eq_true_eq] at hd; exact hd.2.2.1.1.1
  have hx : exact' x = ((List.range 8).all (exS x) && (List.range 16).all (exB x)) := by unfold exact'; rw [hs, Bool.true_and]
  rw [hx]
  obtain ⟨⟨y, e, m⟩, q1, q2⟩ := lp114 x h ht hd
  have hB : ∀ k, exB x k = (x.used.getD k false == decide ((k : Int) + 1 ∈ hadR x)) := fun _ => rfl
  obtain ⟨⟨y', e', m'⟩, s1, s2⟩ := lq114 x hu (hadR x) hHl (exB x) hB
  generalize hadR x = H at *
  generalize reachL x = R at *
  unfold dskC at q1 s1
  simp only [dsk] at e0 e1 e2 ⊢
  rcases q2 with ⟨hA, qx, q2, q3, qm⟩ | ⟨hA, qx, q2⟩
  · simp only at qx q2 q3 qm; subst qx; subst qm
    rw [hA]
    rcases s2 with ⟨hC, sx⟩ | ⟨hC, sx, s2⟩
    · simp only at sx; subst sx
      rw [hC]
      simp only [F114, h114_5, h114_17, dskC, go_sem, seval, bnd_ite, e0, e1, e2, q1, q2, q3, s1, decide_true, beq_self_eq_true, bq1, bq2, bq3, bq4, decide_false, if_true, Bool.not_true, Bool.not_false, Bool.true_or, Bool.false_or, Bool.or_true, Bool.or_false, Bool.true_and, Bool.and_true, Bool.and_false, Bool.false_and, Bool.and_self, Bool.or_self, Bool.false_eq_true, if_false, bne_self_eq_false, Bool.true_bne, Bool.false_bne, Bool.bne_true, Bool.bne_false]
      first | done | rfl
    · simp only at sx s2; subst sx
      rw [hC]
      simp only [F114, h114_5, h114_17, dskC, go_sem, seval, bnd_ite, e0, e1, e2, q1, q2, q3, s1, s2, decide_true, beq_self_eq_true, bq1, bq2, bq3, bq4, decide_false, if_true, Bool.not_true, Bool.not_false, Bool.true_or, Bool.false_or, Bool.or_true, Bool.or_false, Bool.true_and, Bool.and_true, Bool.and_false, Bool.false_and, Bool.and_self, Bool.or_self, Bool.false_eq_true, if_false, bne_self_eq_false, Bool.true_bne, Bool.false_bne, Bool.bne_true, Bool.bne_false]
      first | done | rfl
  · simp only at qx q2; subst qx
    rw [hA]
    simp only [F114, h114_5, h114_17, dskC, go_sem, seval, bnd_ite, e0, e1, q1, q2, decide_true, beq_self_eq_true, bq1, bq2, bq3, bq4, decide_false, if_true, Bool.not_true, Bool.not_false, Bool.true_or, Bool.false_or, Bool.or_true, Bool.or_false, Bool.true_and, Bool.and_true, Bool.and_false, Bool.false_and, Bool.and_self, Bool.or_self, Bool.false_eq_true, if_false, bne_self_eq_false, Bool.true_bne, Bool.false_bne, Bool.bne_true, Bool.bne_false]
    first | done | rfl
theorem e115 (x : Dsk) (hk : x.ok) (h : x.sm) (ht : tot x ≤ 1048576) : E T 115 [dsk x] [] = some (.bool (exact' x), []) := by
  rw [E_eq t115 (Nat.le_of_ble_eq_true rfl), exact_eq]
  have e0 := e109 x hk h ht
  have e1 := e98 x h
  cases hs : safe x with
  | false =>
    rw [hs] at e0
    simp only [dsk] at e0 ⊢
    simp only [F115, go_sem, seval, bnd_ite, e0, Bool.not_false, if_true, Bool.false_and]
  | true =>
  rw [hs] at e0
  have hd : dskOk x = true := by unfold safe at hs; simp only [Bool.and_eq_true] at hs; exact hs.1.1.1.1.1.1
  have e2 := e209 x h ht hd
  have l16 : (bitsP x).length = 16 := by unfold bitsP; rw [setB_fold_len]; simp
  have l8 : (bitsI x).length = 8 := by unfold bitsI; rw [setB_fold_len]; simp
  have e3 := e210 (bitsP x) x.used (by omega)
  have e4 := e210 (bitsI x) x.taken (by omega)
  obtain ⟨⟨y, e, m⟩, q1, q2⟩ := lp115 x h ht hd
  generalize bitsP x = BP at *
  generalize bitsI x = BI at *
  generalize reachL x = R at *
  unfold dskC at q1
  have tk1 : (BP.map bv).take 16 = BP.map bv := List.take_of_length_le (by simp [l16])
  have tk2 : (BI.map bv).take 8 = BI.map bv := List.take_of_length_le (by simp [l8])
  simp only [dsk] at e0 e1 e2 ⊢
  rcases q2 with ⟨hA, qx, q2, q3, qm⟩ | ⟨hA, qx, q2⟩
  · simp only at qx q2 q3 qm; subst qx; subst qm
    rw [hA]
    cases c1 : decide (BP = x.used) with
    | false =>
      rw [c1] at e3
      simp only [F115, h115_5, dskC, go_sem, seval, bnd_ite, e0, e1, e2, q1, q2, q3, e3, l16, l8, tk1, tk2, decide_true, beq_self_eq_true, bq1, bq2, bq3, bq4, decide_false, if_true, Bool.not_true, Bool.not_false, Bool.true_or, Bool.false_or, Bool.or_true, Bool.or_false, Bool.true_and, Bool.and_true, Bool.and_false, Bool.false_and, Bool.and_self, Bool.or_self, Bool.false_eq_true, if_false, bne_self_eq_false, Bool.true_bne, Bool.false_bne, Bool.bne_true, Bool.bne_false]
      first | done | rfl
    | true =>
      rw [c1] at e3
      simp only [F115, h115_5, dskC, go_sem, seval, bnd_ite, e0, e1, e2, q1, q2, q3, e3, e4, l16, l8, tk1, tk2, decide_true, beq_self_eq_true, bq1, bq2, bq3, bq4, decide_false, if_true, Bool.not_true, Bool.not_false, Bool.true_or, Bool.false_or, Bool.or_true, Bool.or_false, Bool.true_and, Bool.and_true, Bool.and_false, Bool.false_and, Bool.and_self, Bool.or_self, Bool.false_eq_true, if_false, bne_self_eq_false, Bool.true_bne, Bool.false_bne, Bool.bne_true, Bool.bne_false]
      first | done | rfl
  · simp only at qx q2; subst qx
    rw [hA]
    simp only [F115, h115_5, dskC, go_sem, seval, bnd_ite, e0, e1, q1, q2, decide_true, beq_self_eq_true, bq1, bq2, bq3, bq4, decide_false, if_true, Bool.not_true, Bool.not_false, Bool.true_or, Bool.false_or, Bool.or_true, Bool.or_false, Bool.true_and, Bool.and_true, Bool.and_false, Bool.false_and, Bool.and_self, Bool.or_self, Bool.false_eq_true, if_false, bne_self_eq_false, Bool.true_bne, Bool.false_bne, Bool.bne_true, Bool.bne_false]
    first | done | rfl
theorem e28 (x : Dsk) (h : x.ok) : E T 28 [dsk x] [] = some (.bool true, []) := by
  rw [E_eq t28 (Nat.le_of_ble_eq_true rfl)]
  obtain ⟨r, h1, h4⟩ := e38t x h
  have c40 := fun h => e40 x h
  have cA := fun hs k => e114 x h hs k
  have cB := fun hs k => e115 x h hs k
  have c42 := e42 x x h
  generalize exact' x = V at *
  simp only [dsk, dskO] at h1 c40 cA cB c42 ⊢
  simp only [F28, go_sem, seval, bnd_ite, h1]
  by_cases c1 : r < 0
  · rw [if_pos c1]
  rw [if_neg c1]
  have hm := h4 (by omega)
  simp only [go_sem, seval, bnd_ite, c40 hm.1, cA hm.1 hm.2, cB hm.1 hm.2, c42]
  cases V <;> simp
end Go.Proofs.Ytaaajjinpppgeaa
