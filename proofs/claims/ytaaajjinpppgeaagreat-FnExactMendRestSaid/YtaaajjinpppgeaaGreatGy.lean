/- What is had, by the reference; the bits, by the program. Own work; no condition. -/
import Derived.Test.YtaaajjinpppgeaaGreatGi
import Derived.Test.YtaaajjinpppgeaaGreatOe
import Derived.Test.YtaaajjinpppgeaaGreatPa
set_option linter.unusedVariables false
set_option linter.unusedSimpArgs false
set_option linter.unusedSectionVars false
namespace Go.Proofs.YtaaajjinpppgeaaGreat
open Go Go.Abs
set_option maxRecDepth 100000
structure InoOk (x : Ino) : Prop where
  kind : 0 ≤ x.kind ∧ x.kind ≤ 2
  links : 0 ≤ x.links ∧ x.links ≤ 200
  two : x.ptrs.length = 2
  ptr : ∀ p ∈ x.ptrs, 0 ≤ p ∧ p ≤ 16 ∧ (x.kind = 0 → p = 0)
  none : x.kind = 0 → x.links = 0
theorem inoOk_iff {x : Ino} : inoOk x = true ↔ InoOk x := by
  unfold inoOk ptrOk inside
  simp only [Bool.and_eq_true, List.all_eq_true, decide_eq_true_eq, Bool.not_eq_true', Bool.and_eq_false_iff, decide_eq_false_iff_not, Bool.or_eq_true]
  constructor
  · rintro ⟨a, ⟨⟨b, c⟩, d⟩, e⟩
    refine ⟨b, c, d, fun p hp => ?_, fun h => ?_⟩
    · have := a p hp; omega
    · omega
  · rintro ⟨b, c, d, a, e⟩
    refine ⟨fun p hp => ?_, ⟨⟨b, c⟩, d⟩, ?_⟩
    · have := a p hp; omega
    · omega
theorem dskOk_inos {x : Dsk} (h : dskOk x = true) : x.inos.length = 8 := by
  unfold dskOk at h
  simp only [Bool.and_eq_true, decide_eq_true_eq] at h
  exact h.2.2.1.2
theorem all_range {n : Nat} {P : Nat → Bool} : (List.range n).all P = true ↔ ∀ i, i < n → P i = true := by
  rw [List.all_eq_true]; exact ⟨fun h i hi => h i (List.mem_range.2 hi), fun h i hi => h i (List.mem_range.1 hi)⟩
theorem eq_range {a b : List Bool} (h : a.length = b.length) : decide (a = b) = (List.range a.length).all fun i => a.getD i false == b.getD i false := by
  rw [Bool.eq_iff_iff, decide_eq_true_eq, all_range]
  constructor
  · rintro rfl i hi; simp
  · intro hA
    refine List.ext_getElem h fun i p q => ?_
    have := hA i p
    rw [beq_iff_eq] at this
    simpa [List.getD_eq_getElem?_getD, List.getElem?_eq_getElem p, List.getElem?_eq_getElem q] using this
/-! ### What is had, by the reference -/
theorem in208 (x : Dsk) (k : Nat) (R : List Int) (p : Ino) (hp : p.sm) (L : List Int) (hL : L.length ≤ 1099511627776) :
    ∃ r, XL T 0 H79_8 L79_8 ⟨[(1, .ptr 0 0 0), (3, .sl 1 0 L.length), (4, .sl 2 0 R.length), (5, .int .i64 k), (6, .ptr 3 0 0), (7, .int .i64 0)], [some (4, [dskC x]), some (1, L.map iv), some (1, R.map iv), some (3, [.agg [.int .i64 p.kind, .int .i64 p.links, .ro 1 (p.ptrs.map iv)]])]⟩ = some r ∧
      r.1 = .exit 2 ∧ lookA r.2.env 1 = .ptr 0 0 0 ∧ lookA r.2.env 3 = .sl 1 0 (L ++ p.ptrs.filter pos).length ∧ lookA r.2.env 4 = .sl 2 0 R.length ∧ lookA r.2.env 5 = .int .i64 k ∧ r.2.mem = [some (4, [dskC x]), some (1, (L ++ p.ptrs.filter pos).map iv), some (1, R.map iv), some (3, [.agg [.int .i64 p.kind, .int .i64 p.links, .ro 1 (p.ptrs.map iv)]])] := by
  unfold Ino.sm at hp
  rw [← hadStep_all]
  refine XL_each p.ptrs hadStep (fun j M => ⟨[(1, .ptr 0 0 0), (3, .sl 1 0 M.length), (4, .sl 2 0 R.length), (5, .int .i64 k), (6, .ptr 3 0 0), (7, .int .i64 (j : Nat))], [some (4, [dskC x]), some (1, M.map iv), some (1, R.map iv), some (3, [.agg [.int .i64 p.kind, .int .i64 p.links, .ro 1 (p.ptrs.map iv)]])]⟩) (fun j M => M.length ≤ L.length + j)
    (fun M r => r.1 = .exit 2 ∧ lookA r.2.env 1 = .ptr 0 0 0 ∧ lookA r.2.env 3 = .sl 1 0 M.length ∧ lookA r.2.env 4 = .sl 2 0 R.length ∧ lookA r.2.env 5 = .int .i64 k ∧ r.2.mem = [some (4, [dskC x]), some (1, M.map iv), some (1, R.map iv), some (3, [.agg [.int .i64 p.kind, .int .i64 p.links, .ro 1 (p.ptrs.map iv)]])]) ?step ?last L (by omega)
  case step =>
    intro j M q hq hj hM
    refine ⟨?_, by unfold hadStep; split <;> (try simp only [List.length_append, List.length_cons, List.length_nil]) <;> omega⟩
    have j1 : (j : Int) < (p.ptrs.length : Int) := by omega
    have gq : (p.ptrs.map iv).getD j .undef = .int .i64 q := gD_map hq
    have hw := w_i64 ((j : Int) + 1) (by omega)
    have hap : (M.length + 1) * 8 ≤ 140737488355328 := by omega
    have tk : (M.map iv).take M.length = M.map iv := List.take_of_length_le (by simp)
    unfold dskC hadStep pos
    cases hc : decide (0 < q) with
    | true =>
      simp only [XG, L79_8, h79_8, go_sem, seval, bnd_ite, j1, hj, gq, hc, hw, hap, tk, Int.natCast_nonneg, decide_true, if_true, List.map_append, List.map_cons, List.map_nil, List.length_append]
      first | done | rfl
    | false =>
      simp only [XG, L79_8, h79_8, go_sem, seval, bnd_ite, j1, hj, gq, hc, hw, Int.natCast_nonneg, decide_true, if_true, Bool.false_eq_true, if_false]
      first | done | rfl
  case last =>
    intro M hM
    unfold dskC
    simp only [XG, L79_8, h79_8, go_sem, seval, bnd_ite, Int.lt_irrefl, decide_false]
    exact .mk (by simp) ⟨rfl, rfl, rfl, rfl, rfl, rfl⟩
theorem e79 (x : Dsk) (h : x.sm) (ht : tot x ≤ 1048576) : E T 79 [dsk x] [] = some (.own 1 ((hadR x).map iv), []) := by
  rw [E_eqW t79 (Nat.le_of_ble_eq_true rfl)]
  have e1 := e76 x h
  have hb := h.inos
  have hRl := reachL_len x
  have hT := ptrs_reach ht
  have hRi : ∀ p ∈ reachL x, inside p 1 x.inos.length = true := fun p hp => by
    have := (mem_reachL.1 hp).1
    simp only [inside, Bool.and_eq_true, decide_eq_true_eq]; exact this
  unfold hadR
  generalize reachL x = l at *
  have hs : l.flatMap (hadOf x) = l.foldl (fun L i => L ++ hadOf x i) [] := by
    have : ∀ (l : List Int) (L : List Int), l.foldl (fun L q => L ++ hadOf x q) L = L ++ l.flatMap (hadOf x) := by
      intro l
      induction l with
      | nil => intro L; simp
      | cons q l ih => intro L; rw [List.foldl_cons, ih]; simp
    rw [this]; simp
  have psum : ∀ i p, l[i]? = some p → ptrsSum x (l.take (i + 1)) = ptrsSum x (l.take i) + ptrsN x p := fun i p hp => by
    unfold ptrsSum; rw [take_snoc hp]; simp
  have ple : ∀ i, ptrsSum x (l.take i) ≤ ptrsSum x l := fun i => by
    have : ptrsSum x l = ptrsSum x (l.take i) + ptrsSum x (l.drop i) := by
      unfold ptrsSum; rw [← List.sum_append, ← List.map_append, List.take_append_drop]
    omega
  refine (XL_each (T := T) (b := 0) (hd := H79_4) (x := L79_4) l (fun L i => L ++ hadOf x i) (fun j L => ⟨[(1, .ptr 0 0 0), (3, .sl 1 0 L.length), (4, .sl 2 0 l.length), (5, .int .i64 (j : Nat))], [some (4, [dskC x]), some (1, L.map iv), some (1, l.map iv)]⟩) (fun j L => L.length ≤ ptrsSum x (l.take j))
    (fun L r => r.1 = .exit 0 ∧ lookA r.2.env 3 = .sl 1 0 L.length ∧ r.2.mem = [some (4, [dskC x]), some (1, L.map iv), some (1, l.map iv)]) ?step ?last [] (by simp)).elim ?main
  case step =>
    intro j L p hp hj hL
    have hn := hadOf_len x p
    have hps := psum j p hp
    have hpl := ple (j + 1)
    refine ⟨?_, by rw [hps]; simp only [List.length_append]; omega⟩
    have j1 : (j : Int) < (l.length : Int) := by omega
    have gp : (l.map iv).getD j .undef = .int .i64 p := gD_map hp
    have hc0 := hRi p (List.mem_of_getElem? hp)
    have hpi := inoOf_mem hc0
    have gi : (x.inos.map ino).getD (p - 1).toNat .undef = .agg [.int .i64 (inoOf x p).kind, .int .i64 (inoOf x p).links, .ro 1 ((inoOf x p).ptrs.map iv)] := gD_map hpi
    simp only [inside, Bool.and_eq_true, decide_eq_true_eq] at hc0
    have b1 : 0 ≤ p - 1 := by omega
    have b2 : p - 1 < (x.inos.length : Int) := by omega
    have b3 : (p - 1).toNat < x.inos.length := by omega
    have w2 := w_i64 (p - 1) (by omega)
    have hsm := inoOf_sm h p
    unfold hadOf
    generalize inoOf x p = I at *
    obtain ⟨⟨y, e, m⟩, q1, qx, q2, q3, q4, q5, qm⟩ := in208 x j l I hsm L (by omega)
    simp only at qx q2 q3 q4 q5 qm; subst qx; subst qm
    unfold dskC at q1
    have hw := w_i64 ((j : Int) + 1) (by omega)
    simp only [XG, L79_4, h79_4, h79_8, dskC, go_sem, seval, bnd_ite, j1, hj, gp, gi, b1, b2, b3, w2, hw, q1, q2, q3, q4, q5, Int.natCast_nonneg, decide_true, if_true]
    first | done | rfl
  case last =>
    intro L hL
    unfold dskC
    simp only [XG, L79_4, h79_4, go_sem, seval, bnd_ite, Int.lt_irrefl, decide_false]
    exact .mk (by simp) ⟨rfl, rfl, rfl⟩
  case main =>
  rintro ⟨y, e, m⟩ ⟨k1, kx, k2, km⟩
  simp only at kx k2 km; subst kx; subst km
  have hs0 : ((0 : Nat) : Int) = 0 := rfl
  simp only [hs0, List.map_nil, List.length_nil] at k1
  rw [← hs] at k1 k2
  unfold dskC at k1
  generalize l.flatMap (hadOf x) = S at *
  have tk : (S.map iv).take S.length = S.map iv := List.take_of_length_le (by simp)
  simp only [dsk] at e1 ⊢
  simp only [F79, h79_4, dskC, go_sem, seval, bnd_ite, e1, k1, k2, tk]
/-! ### The bits, by the program -/
def setB (l : List Bool) (i : Int) : List Bool := l.set (i - 1).toNat true
theorem setB_fold_len (l : List Int) : ∀ b : List Bool, (l.foldl setB b).length = b.length := by
  induction l with
  | nil => intro b; rfl
  | cons i l ih => intro b; rw [List.foldl_cons, ih]; simp [setB]
theorem setB_at (l : List Int) : ∀ b : List Bool, (∀ i ∈ l, 1 ≤ i ∧ i ≤ (b.length : Int)) → ∀ k : Nat, k < b.length → (l.foldl setB b).getD k false = (b.getD k false || decide ((k : Int) + 1 ∈ l)) := by
  induction l with
  | nil => intro b _ k _; simp
  | cons i l ih =>
    intro b hi k hk
    have hl : (setB b i).length = b.length := by simp [setB]
    have h1 := hi i (by simp)
    rw [List.foldl_cons, ih _ (fun j hj => by rw [hl]; exact hi j (List.mem_cons_of_mem _ hj)) k (by omega)]
    unfold setB
    rw [gD_setB]
    by_cases c : (k : Int) + 1 = i
    · rw [if_pos ⟨by omega, by omega⟩]; simp [c]
    · rw [if_neg (by omega)]
      simp [c]
noncomputable def bitsI (x : Dsk) : List Bool := (reachL x).foldl setB (List.replicate 8 false)
noncomputable def bitsP (x : Dsk) : List Bool := (hadR x).foldl setB (List.replicate 16 false)
theorem had_in {x : Dsk} (h : dskOk x = true) : ∀ p ∈ hadR x, 1 ≤ p ∧ p ≤ 16 := by
  intro p hp
  unfold hadR at hp
  rw [List.mem_flatMap] at hp
  obtain ⟨i, hi, hp⟩ := hp
  unfold hadOf pos at hp
  rw [List.mem_filter, decide_eq_true_eq] at hp
  have hin : inside i 1 x.inos.length = true := by
    have := (mem_reachL.1 hi).1
    simp only [inside, Bool.and_eq_true, decide_eq_true_eq]; exact this
  have hm := List.mem_of_getElem? (inoOf_mem hin)
  have ha : x.inos.all inoOk = true := by
    unfold dskOk at h
    simp only [Bool.and_eq_true] at h
    exact h.1
  have := ((inoOk_iff.1 (List.all_eq_true.1 ha _ hm)).ptr p hp.1)
  omega
theorem reach_in8 {x : Dsk} (h : dskOk x = true) : ∀ p ∈ reachL x, 1 ≤ p ∧ p ≤ 8 := by
  intro p hp
  have := (mem_reachL.1 hp).1
  have := dskOk_inos h
  omega
theorem lp209 (x : Dsk) (R : List Int) (hR : ∀ i ∈ R, 1 ≤ i ∧ i ≤ 8) (hRl : R.length ≤ 1048576) (P : List Bool) (hP : P.length = 16) (b0 : List Bool) (hb0 : b0.length = 8) :
    ∃ r, XL T 0 H89_4 L89_4 ⟨[(1, .ptr 0 0 0), (2, .ptr 1 0 0), (3, .sl 2 0 R.length), (4, .ptr 3 0 0), (14, .sl 2 0 R.length), (15, .int .i64 R.length), (16, .int .i64 0)], [some (4, [dskC x]), some (2, [.agg [.nil, .nil]]), some (1, R.map iv), some (2, [.agg [.sl 4 0 16, .sl 5 0 8]]), some (1, P.map bv), some (1, b0.map bv)]⟩ = some r ∧
      r.1 = .exit 0 ∧ lookA r.2.env 1 = .ptr 0 0 0 ∧ lookA r.2.env 2 = .ptr 1 0 0 ∧ lookA r.2.env 3 = .sl 2 0 R.length ∧ lookA r.2.env 4 = .ptr 3 0 0 ∧ r.2.mem = [some (4, [dskC x]), some (2, [.agg [.nil, .nil]]), some (1, R.map iv), some (2, [.agg [.sl 4 0 16, .sl 5 0 8]]), some (1, P.map bv), some (1, (R.foldl setB b0).map bv)] := by
  refine XL_each R setB (fun k b => ⟨[(1, .ptr 0 0 0), (2, .ptr 1 0 0), (3, .sl 2 0 R.length), (4, .ptr 3 0 0), (14, .sl 2 0 R.length), (15, .int .i64 R.length), (16, .int .i64 (k : Nat))], [some (4, [dskC x]), some (2, [.agg [.nil, .nil]]), some (1, R.map iv), some (2, [.agg [.sl 4 0 16, .sl 5 0 8]]), some (1, P.map bv), some (1, b.map bv)]⟩) (fun k b => b.length = 8)
    (fun b r => r.1 = .exit 0 ∧ lookA r.2.env 1 = .ptr 0 0 0 ∧ lookA r.2.env 2 = .ptr 1 0 0 ∧ lookA r.2.env 3 = .sl 2 0 R.length ∧ lookA r.2.env 4 = .ptr 3 0 0 ∧ r.2.mem = [some (4, [dskC x]), some (2, [.agg [.nil, .nil]]), some (1, R.map iv), some (2, [.agg [.sl 4 0 16, .sl 5 0 8]]), some (1, P.map bv), some (1, b.map bv)]) ?step ?last b0 hb0
  case step =>
    intro k b p hp hk hI
    refine ⟨?_, by simp [setB, hI]⟩
    have k1 : (k : Int) < (R.length : Int) := by omega
    have gp : (R.map iv).getD k .undef = .int .i64 p := gD_map hp
    have hw := w_i64 ((k : Int) + 1) (by omega)
    have hpi := hR p (List.mem_of_getElem? hp)
    have b1 : 0 ≤ p - 1 := by omega
    have b2 : p - 1 < 8 := by omega
    have b3 : (p - 1).toNat < 8 := by omega
    have w2 := w_i64 (p - 1) (by omega)
    obtain ⟨u, hu⟩ := get_at (show (p - 1).toNat < b.length by omega)
    have gu : (b.map bv).getD (p - 1).toNat .undef = .bool u := gD_map hu
    have hset : (b.map bv).set (p - 1).toNat (.bool true) = (setB b p).map bv := by unfold setB; rw [List.map_set]; rfl
    unfold dskC
    simp only [XG, L89_4, h89_4, go_sem, seval, bnd_ite, k1, hk, gp, b1, b2, b3, w2, hw, hI, hP, gu, hset, Int.natCast_nonneg, decide_true, if_true]
    first | done | rfl
  case last =>
    intro n hI
    unfold dskC
    simp only [XG, L89_4, h89_4, go_sem, seval, bnd_ite, Int.lt_irrefl, decide_false]
    exact .mk (by simp) ⟨rfl, rfl, rfl, rfl, rfl, rfl⟩
theorem lq209 (H : List Int) (hH : ∀ i ∈ H, 1 ≤ i ∧ i ≤ 16) (hHl : H.length ≤ 1048576) (b1 : List Bool) (hb1 : b1.length = 8) (b0 : List Bool) (hb0 : b0.length = 16) :
    ∃ r, XL T 0 H89_10 L89_10 ⟨[(2, .ptr 0 0 0), (4, .ptr 1 0 0), (28, .sl 2 0 H.length), (29, .int .i64 H.length), (30, .int .i64 0)], [some (2, [.agg [.nil, .nil]]), some (2, [.agg [.sl 3 0 16, .sl 4 0 8]]), some (1, H.map iv), some (1, b0.map bv), some (1, b1.map bv)]⟩ = some r ∧
      r.1 = .exit 2 ∧ lookA r.2.env 2 = .ptr 0 0 0 ∧ lookA r.2.env 4 = .ptr 1 0 0 ∧ r.2.mem = [some (2, [.agg [.nil, .nil]]), some (2, [.agg [.sl 3 0 16, .sl 4 0 8]]), some (1, H.map iv), some (1, (H.foldl setB b0).map bv), some (1, b1.map bv)] := by
  refine XL_each H setB (fun k b => ⟨[(2, .ptr 0 0 0), (4, .ptr 1 0 0), (28, .sl 2 0 H.length), (29, .int .i64 H.length), (30, .int .i64 (k : Nat))], [some (2, [.agg [.nil, .nil]]), some (2, [.agg [.sl 3 0 16, .sl 4 0 8]]), some (1, H.map iv), some (1, b.map bv), some (1, b1.map bv)]⟩) (fun k b => b.length = 16)
    (fun b r => r.1 = .exit 2 ∧ lookA r.2.env 2 = .ptr 0 0 0 ∧ lookA r.2.env 4 = .ptr 1 0 0 ∧ r.2.mem = [some (2, [.agg [.nil, .nil]]), some (2, [.agg [.sl 3 0 16, .sl 4 0 8]]), some (1, H.map iv), some (1, b.map bv), some (1, b1.map bv)]) ?step ?last b0 hb0
  case step =>
    intro k b p hp hk hI
    refine ⟨?_, by simp [setB, hI]⟩
    have k1 : (k : Int) < (H.length : Int) := by omega
    have gp : (H.map iv).getD k .undef = .int .i64 p := gD_map hp
    have hw := w_i64 ((k : Int) + 1) (by omega)
    have hpi := hH p (List.mem_of_getElem? hp)
    have c1 : 0 ≤ p - 1 := by omega
    have c2 : p - 1 < 16 := by omega
    have c3 : (p - 1).toNat < 16 := by omega
    have w2 := w_i64 (p - 1) (by omega)
    obtain ⟨u, hu⟩ := get_at (show (p - 1).toNat < b.length by omega)
    have gu : (b.map bv).getD (p - 1).toNat .undef = .bool u := gD_map hu
    have hset : (b.map bv).set (p - 1).toNat (.bool true) = (setB b p).map bv := by unfold setB; rw [List.map_set]; rfl
    simp only [XG, L89_10, h89_10, go_sem, seval, bnd_ite, k1, hk, gp, c1, c2, c3, w2, hw, hI, hb1, gu, hset, Int.natCast_nonneg, decide_true, if_true]
    first | done | rfl
  case last =>
    intro n hI
    simp only [XG, L89_10, h89_10, go_sem, seval, bnd_ite, Int.lt_irrefl, decide_false]
    exact .mk (by simp) ⟨rfl, rfl, rfl, rfl⟩
theorem e89 (x : Dsk) (h : x.sm) (ht : tot x ≤ 1048576) (hd : dskOk x = true) : E T 89 [dsk x] [] = some (.agg [.own 1 ((bitsP x).map bv), .own 1 ((bitsI x).map bv)], []) := by
  rw [E_eq t89 (Nat.le_of_ble_eq_true rfl)]
  have e1 := e85 x h
  have e2 := e186r x h ht
  have hHl := hadR_len ht
  have hRl : (reachL x).length ≤ 1048576 := Nat.le_trans (reachL_len x) h.inos
  have hR8 := reach_in8 hd
  have hH16 := had_in hd
  unfold bitsP bitsI
  generalize hadR x = H at *
  generalize reachL x = R at *
  obtain ⟨⟨y, e, m⟩, q1, qx, q2, q3, q4, q5, qm⟩ := lp209 x R hR8 hRl (List.replicate 16 false) (by simp) (List.replicate 8 false) (by simp)
  simp only at qx q2 q3 q4 q5 qm; subst qx; subst qm
  have hl8 : (R.foldl setB (List.replicate 8 false)).length = 8 := by rw [setB_fold_len]; simp
  obtain ⟨⟨y', e', m'⟩, s1, sx, s2, s3, sm⟩ := lq209 H hH16 hHl (R.foldl setB (List.replicate 8 false)) hl8 (List.replicate 16 false) (by simp)
  simp only at sx s2 s3 sm; subst sx; subst sm
  have hl16 : (H.foldl setB (List.replicate 16 false)).length = 16 := by rw [setB_fold_len]; simp
  have r16 : List.replicate 16 (AV.bool false) = (List.replicate 16 false).map bv := by rw [List.map_replicate]; rfl
  have r8 : List.replicate 8 (AV.bool false) = (List.replicate 8 false).map bv := by rw [List.map_replicate]; rfl
  generalize R.foldl setB (List.replicate 8 false) = I1 at *
  generalize H.foldl setB (List.replicate 16 false) = P1 at *
  generalize List.replicate 16 false = P0 at *
  generalize List.replicate 8 false = I0 at *
  have tk1 : (P1.map bv).take 16 = P1.map bv := List.take_of_length_le (by simp [hl16])
  have tk2 : (I1.map bv).take 8 = I1.map bv := List.take_of_length_le (by simp [hl8])
  unfold dskC at q1
  simp only [dsk] at e1 e2 ⊢
  simp only [F89, h89_4, h89_10, dskC, go_sem, seval, bnd_ite, e1, e2, r16, r8, q1, q2, q3, q4, q5, s1, s2, s3, tk1, tk2, hl8, hl16]
  first | done | rfl
end Go.Proofs.YtaaajjinpppgeaaGreat
