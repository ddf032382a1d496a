/- MendRest. Own work; no condition. -/
import Derived.Test.YtaaajjinpppgeaaGreatGy
import Derived.Test.YtaaajjinpppgeaaGreatFg
import Derived.Test.YtaaajjinpppgeaaGreatKe
set_option linter.unusedVariables false
set_option linter.unusedSimpArgs false
set_option linter.unusedSectionVars false
namespace Go.Proofs.YtaaajjinpppgeaaGreat
open Go Go.Abs
set_option maxRecDepth 100000
noncomputable def mrIno (x : Dsk) (k : Nat) (p : Ino) : Ino :=
  if decide ((k : Int) + 1 ∈ reachL x) then (if decide ((k : Int) + 1 = 1) then { p with links := 1 } else { p with links := linksOf x ((k : Int) + 1) }) else ⟨0, 0, [0, 0]⟩
noncomputable def stI (x : Dsk) (Q : List Ino) (k : Nat) : List Ino := match Q[k]? with | some p => Q.set k (mrIno x k p) | none => Q
noncomputable def stT (x : Dsk) (B : List Bool) (k : Nat) : List Bool := B.set k (decide ((k : Int) + 1 ∈ reachL x))
noncomputable def stU (x : Dsk) (B : List Bool) (k : Nat) : List Bool := B.set k (decide ((k : Int) + 1 ∈ hadR x))
theorem stI_len (x : Dsk) (Q : List Ino) (k : Nat) : (stI x Q k).length = Q.length := by unfold stI; split <;> simp
theorem stT_len (x : Dsk) (B : List Bool) (k : Nat) : (stT x B k).length = B.length := by simp [stT]
theorem stU_len (x : Dsk) (B : List Bool) (k : Nat) : (stU x B k).length = B.length := by simp [stU]
def boxR (x : Dsk) (T : List Bool) (Q : List Ino) (R : List Int) : Mem :=
  [some (4, [dskC x]), some (4, [.agg [.nil, .nil, .nil, .nil]]), some (4, [.agg [.own 1 (x.used.map bv), .sl 4 0 8, .sl 5 0 8, .own 3 (x.blks.map blkO)]]), some (1, R.map iv), some (1, T.map bv), some (3, Q.map inoO)]
theorem lp20 (x : Dsk) (h : x.sm) (ht : tot x ≤ 1048576) (h8 : x.inos.length = 8) (hta : x.taken.length = 8) :
    ∃ r, XL T 0 H20_6 L20_6 ⟨[(1, .ptr 0 0 0), (2, .ptr 1 0 0), (3, .ptr 2 0 0), (4, .sl 3 0 (reachL x).length), (5, .int .i64 1)], boxR x x.taken x.inos (reachL x)⟩ = some r ∧
      r.1 = .exit 0 ∧ lookA r.2.env 1 = .ptr 0 0 0 ∧ lookA r.2.env 2 = .ptr 1 0 0 ∧ lookA r.2.env 3 = .ptr 2 0 0 ∧
        r.2.mem = boxR x ((List.range 8).foldl (fun s k => (stT x s.1 k, stI x s.2 k)) (x.taken, x.inos)).1 ((List.range 8).foldl (fun s k => (stT x s.1 k, stI x s.2 k)) (x.taken, x.inos)).2 (reachL x) := by
  refine XL_each (List.range 8) (fun (s : List Bool × List Ino) k => (stT x s.1 k, stI x s.2 k)) (fun k s => ⟨[(1, .ptr 0 0 0), (2, .ptr 1 0 0), (3, .ptr 2 0 0), (4, .sl 3 0 (reachL x).length), (5, .int .i64 (((k : Nat) : Int) + 1))], boxR x s.1 s.2 (reachL x)⟩) (fun k s => s.1.length = 8 ∧ s.2.length = 8)
    (fun s r => r.1 = .exit 0 ∧ lookA r.2.env 1 = .ptr 0 0 0 ∧ lookA r.2.env 2 = .ptr 1 0 0 ∧ lookA r.2.env 3 = .ptr 2 0 0 ∧ r.2.mem = boxR x s.1 s.2 (reachL x)) ?step ?last (x.taken, x.inos) ⟨hta, h8⟩
  case step =>
    rintro i ⟨B, Q⟩ k hk hi ⟨hT, hQ⟩
    obtain ⟨rfl, hi⟩ := rangeAt hk
    simp only at hT hQ
    refine ⟨?_, by rw [stT_len]; exact hT, by rw [stI_len]; exact hQ⟩
    obtain ⟨p, hp⟩ := get_at (show k < Q.length by omega)
    obtain ⟨b, hb⟩ := get_at (show k < B.length by omega)
    have gp : (Q.map inoO).getD k .undef = .agg [.int .i64 p.kind, .int .i64 p.links, .own 1 (p.ptrs.map iv)] := gD_map hp
    have gb : (B.map bv).getD k .undef = .bool b := gD_map hb
    have a1 : (k : Int) + 1 - 1 = k := by omega
    have w1 := w_i64 (k : Int) (by omega)
    have w2 := w_i64 ((k : Int) + 1 + 1) (by omega)
    have b1 : (k : Int) + 1 ≤ 8 := by omega
    have b2 : (k : Int) < 8 := by omega
    have hRl : (reachL x).length ≤ maxLen := by have := reachL_len x; unfold maxLen; omega
    have e1 := e77 (reachL x) ((k : Int) + 1) hRl
    have e2 := e78 x h ht ((k : Int) + 1)
    have e3 := e55
    unfold dsk at e2
    have hset : ∀ b : Bool, (B.map bv).set k (.bool b) = (B.set k b).map bv := fun b => by rw [List.map_set]; rfl
    have hsl : ∀ b : Bool, (B.set k b).length = 8 := fun b => by simp [hT]
    have hI : stI x Q k = Q.set k (mrIno x k p) := by unfold stI; rw [hp]
    simp only [hI]
    unfold stT boxR dskC mrIno
    cases hR : decide ((k : Int) + 1 ∈ reachL x) with
    | false =>
      rw [hR] at e1
      have hq : (Q.map inoO).set k (.agg [.int .i64 0, .int .i64 0, .own 1 [.int .i64 0, .int .i64 0]]) = (Q.set k ⟨0, 0, [0, 0]⟩).map inoO := by rw [List.map_set]; rfl
      simp only [XG, L20_6, h20_6, go_sem, seval, bnd_ite, hT, hQ, hi, a1, w1, w2, b1, b2, e1, e3, gp, gb, hset, hsl, hq, is_set, List.length_map, Int.natCast_nonneg, decide_true, if_true, Bool.not_false, Bool.false_eq_true, if_false]
      first | done | rfl
    | true =>
      rw [hR] at e1
      cases h1 : decide ((k : Int) + 1 = 1) with
      | true =>
        have k0 : k = 0 := by have := of_decide_eq_true h1; omega
        have gp0 : (Q.map inoO).getD 0 .undef = .agg [.int .i64 p.kind, .int .i64 p.links, .own 1 (p.ptrs.map iv)] := by have := gp; rwa [k0] at this
        have hq : ∀ v : Int, (Q.map inoO).set 0 (.agg [.int .i64 p.kind, .int .i64 v, .own 1 (p.ptrs.map iv)]) = (Q.set k { p with links := v }).map inoO := fun v => by rw [k0, List.map_set]; rfl
        simp only [XG, L20_6, h20_6, go_sem, seval, bnd_ite, hT, hQ, hi, h1, a1, w1, w2, b1, b2, e1, gp0, gb, hset, hsl, hq, is_set, List.length_map, Int.natCast_nonneg, decide_true, if_true, Bool.not_true, Bool.false_eq_true, if_false]
        first | done | rfl
      | false =>
        have hq : ∀ v : Int, (Q.map inoO).set k (.agg [.int .i64 p.kind, .int .i64 v, .own 1 (p.ptrs.map iv)]) = (Q.set k { p with links := v }).map inoO := fun v => by rw [List.map_set]; rfl
        simp only [XG, L20_6, h20_6, go_sem, seval, bnd_ite, hT, hQ, hi, h1, a1, w1, w2, b1, b2, e1, e2, gp, gb, hset, hsl, hq, is_set, List.length_map, Int.natCast_nonneg, decide_true, if_true, Bool.not_true, Bool.false_eq_true, if_false]
        first | done | rfl
  case last =>
    rintro ⟨B, Q⟩ ⟨hT, hQ⟩
    simp only at hT hQ
    have k1 : ¬ (9 : Int) ≤ 8 := by omega
    have k2 : ¬ ((8 : Nat) : Int) + 1 ≤ ((8 : Nat) : Int) := by omega
    have k3 : ¬ (8 : Int) + 1 ≤ 8 := by omega
    unfold boxR dskC
    simp only [XG, L20_6, h20_6, go_sem, seval, bnd_ite, List.length_range, hQ, k1, k2, k3, decide_false]
    exact .mk (by simp) ⟨rfl, rfl, rfl, rfl, rfl⟩
theorem lq20 (x : Dsk) (hu : x.used.length = 16) (H : List Int) (hHl : H.length ≤ 1048576) (f : List Bool → Nat → List Bool) (hf : ∀ B k, f B k = B.set k (decide ((k : Int) + 1 ∈ H))) (B1 : List Bool) (Q1 : List Ino) :
    ∃ r, XL T 0 H20_17 L20_17 ⟨[(2, .ptr 0 0 0), (3, .ptr 1 0 0), (6, .sl 2 0 H.length), (7, .int .i64 1)], [some (4, [.agg [.nil, .nil, .nil, .nil]]), some (4, [.agg [.sl 3 0 16, .own 1 (B1.map bv), .own 3 (Q1.map inoO), .own 3 (x.blks.map blkO)]]), some (1, H.map iv), some (1, x.used.map bv)]⟩ = some r ∧
      r.1 = .exit 2 ∧ lookA r.2.env 2 = .ptr 0 0 0 ∧ lookA r.2.env 3 = .ptr 1 0 0 ∧
        r.2.mem = [some (4, [.agg [.nil, .nil, .nil, .nil]]), some (4, [.agg [.sl 3 0 16, .own 1 (B1.map bv), .own 3 (Q1.map inoO), .own 3 (x.blks.map blkO)]]), some (1, H.map iv), some (1, ((List.range 16).foldl f x.used).map bv)] := by
  refine XL_each (List.range 16) f (fun k B => ⟨[(2, .ptr 0 0 0), (3, .ptr 1 0 0), (6, .sl 2 0 H.length), (7, .int .i64 (((k : Nat) : Int) + 1))], [some (4, [.agg [.nil, .nil, .nil, .nil]]), some (4, [.agg [.sl 3 0 16, .own 1 (B1.map bv), .own 3 (Q1.map inoO), .own 3 (x.blks.map blkO)]]), some (1, H.map iv), some (1, B.map bv)]⟩) (fun k B => B.length = 16)
    (fun B r => r.1 = .exit 2 ∧ lookA r.2.env 2 = .ptr 0 0 0 ∧ lookA r.2.env 3 = .ptr 1 0 0 ∧ r.2.mem = [some (4, [.agg [.nil, .nil, .nil, .nil]]), some (4, [.agg [.sl 3 0 16, .own 1 (B1.map bv), .own 3 (Q1.map inoO), .own 3 (x.blks.map blkO)]]), some (1, H.map iv), some (1, B.map bv)]) ?step ?last x.used hu
  case step =>
    rintro i B k hk hi hT
    obtain ⟨rfl, hi⟩ := rangeAt hk
    refine ⟨?_, by rw [hf]; simpa using hT⟩
    obtain ⟨b, hb⟩ := get_at (show k < B.length by omega)
    have gb : (B.map bv).getD k .undef = .bool b := gD_map hb
    have a1 : (k : Int) + 1 - 1 = k := by omega
    have w1 := w_i64 (k : Int) (by omega)
    have w2 := w_i64 ((k : Int) + 1 + 1) (by omega)
    have b1 : (k : Int) + 1 ≤ 16 := by omega
    have b2 : (k : Int) < 16 := by omega
    have e1 := e77 H ((k : Int) + 1) (by unfold maxLen; omega)
    rw [hf]
    generalize decide ((k : Int) + 1 ∈ H) = z at *
    have hset : (B.map bv).set k (.bool z) = (B.set k z).map bv := by rw [List.map_set]; rfl
    simp only [XG, L20_17, h20_17, go_sem, seval, bnd_ite, hT, hi, a1, w1, w2, b1, b2, e1, gb, hset, Int.natCast_nonneg, decide_true, if_true]
    first | done | rfl
  case last =>
    intro B hT
    have k1 : ¬ (17 : Int) ≤ 16 := by omega
    have k3 : ¬ (16 : Int) + 1 ≤ 16 := by omega
    have k2 : ¬ ((16 : Nat) : Int) + 1 ≤ 16 := by omega
    simp only [XG, L20_17, h20_17, go_sem, seval, bnd_ite, List.length_range, hT, k1, k2, k3, decide_false]
    exact .mk (by simp) ⟨rfl, rfl, rfl, rfl⟩
theorem fold_pair {α β γ : Type} (f : α → γ → α) (g : β → γ → β) (l : List γ) : ∀ a b, l.foldl (fun (s : α × β) k => (f s.1 k, g s.2 k)) (a, b) = (l.foldl f a, l.foldl g b) := by
  induction l with
  | nil => intro a b; rfl
  | cons c l ih => intro a b; exact ih _ _
noncomputable def mendR (x : Dsk) : Dsk :=
  if dskOk x then { x with used := (List.range 16).foldl (stU x) x.used, taken := (List.range 8).foldl (stT x) x.taken, inos := (List.range 8).foldl (stI x) x.inos } else x
theorem fold_len {α : Type} (f : List α → Nat → List α) (hf : ∀ a k, (f a k).length = a.length) (l : List Nat) : ∀ a, (l.foldl f a).length = a.length := by
  induction l with
  | nil => intro a; rfl
  | cons c l ih => intro a; rw [List.foldl_cons, ih, hf]
theorem dsk_lens {x : Dsk} (hd : dskOk x = true) : x.used.length = 16 ∧ x.taken.length = 8 ∧ x.inos.length = 8 ∧ x.blks.length = 16 := by
  unfold dskOk at hd; simp only [Bool.and_eq_true, decide_eq_true_eq] at hd; exact ⟨hd.2.2.1.1.1, hd.2.2.1.1.2, hd.2.2.1.2, hd.2.2.2⟩
theorem tkG {α : Type} {f : α → AV} {l : List α} {n : Nat} (h : l.length = n) : (l.map f).take n = l.map f := List.take_of_length_le (by rw [List.length_map, h]; exact Nat.le_refl _)
theorem e20 (x : Dsk) (hk : x.ok) (h : x.sm) (ht : tot x ≤ 1048576) : E T 20 [dsk x] [] = some (dskO (mendR x), []) := by
  rw [E_eq t20 (Nat.le_of_ble_eq_true rfl)]
  have e1 := e74 x h
  have e2 := e75 x hk
  have e3 := e76 x h
  have e4 := e79 x h ht
  have hHl := hadR_len ht
  unfold mendR
  cases hd : dskOk x with
  | false =>
    rw [hd] at e2
    rw [if_neg (by simp)]
    simp only [dsk, dskO] at e1 e2 ⊢
    simp only [F20, go_sem, seval, bnd_ite, e1, e2, tkG, Bool.not_false, if_true]
    first | done | rfl
  | true =>
    rw [hd] at e2
    rw [if_pos rfl]
    obtain ⟨n1, n2, n3, n4⟩ := dsk_lens hd
    obtain ⟨⟨y, e, m⟩, q1, qx, q2, q3, q4, qm⟩ := lp20 x h ht n3 n2
    simp only at qx q2 q3 q4 qm; subst qx; subst qm
    rw [fold_pair] at q1
    have l8 : ((List.range 8).foldl (stT x) x.taken).length = 8 := by rw [fold_len _ (stT_len x)]; exact n2
    have lI : ((List.range 8).foldl (stI x) x.inos).length = 8 := by rw [fold_len _ (stI_len x)]; exact n3
    have lU : ((List.range 16).foldl (stU x) x.used).length = 16 := by rw [fold_len _ (stU_len x)]; exact n1
    obtain ⟨⟨y', e', m'⟩, s1, sx, s2, s3, sm⟩ := lq20 x n1 (hadR x) hHl (stU x) (fun _ _ => rfl) ((List.range 8).foldl (stT x) x.taken) ((List.range 8).foldl (stI x) x.inos)
    simp only at sx s2 s3 sm; subst sx; subst sm
    simp only at q1
    generalize (List.range 8).foldl (stT x) x.taken = B1 at *
    generalize (List.range 8).foldl (stI x) x.inos = Q1 at *
    generalize (List.range 16).foldl (stU x) x.used = U1 at *
    generalize hadR x = H at *
    generalize reachL x = R at *
    unfold boxR dskC at q1
    simp only [dsk, dskO] at e1 e2 e3 e4 ⊢
    simp only [F20, h20_6, h20_17, boxR, dskC, go_sem, seval, bnd_ite, e1, e2, e3, e4, n1, n2, n3, n4, q1, q2, q3, q4, s1, s2, s3, l8, lI, lU, tkG, Bool.not_true, Bool.false_eq_true, if_false]
    first | done | rfl
/-! ### The program -/
def boxP (x : Dsk) (Q : List Ino) (R : List Int) : Mem :=
  [some (4, [dskC x]), some (4, [.agg [.nil, .nil, .nil, .nil]]), some (4, [.agg [.own 1 (x.used.map bv), .own 1 (x.taken.map bv), .sl 4 0 8, .own 3 (x.blks.map blkO)]]), some (1, R.map iv), some (3, Q.map inoO)]
theorem lp22 (x : Dsk) (h : x.sm) (ht : tot x ≤ 1048576) (h8 : x.inos.length = 8) :
    ∃ r, XL T 0 H22_6 L22_6 ⟨[(1, .ptr 0 0 0), (2, .ptr 1 0 0), (3, .ptr 2 0 0), (4, .sl 3 0 (reachL x).length), (5, .int .i64 1)], boxP x x.inos (reachL x)⟩ = some r ∧
      r.1 = .exit 0 ∧ lookA r.2.env 1 = .ptr 0 0 0 ∧ lookA r.2.env 2 = .ptr 1 0 0 ∧ lookA r.2.env 3 = .ptr 2 0 0 ∧ r.2.mem = boxP x ((List.range 8).foldl (stI x) x.inos) (reachL x) := by
  refine XL_each (List.range 8) (stI x) (fun k Q => ⟨[(1, .ptr 0 0 0), (2, .ptr 1 0 0), (3, .ptr 2 0 0), (4, .sl 3 0 (reachL x).length), (5, .int .i64 (((k : Nat) : Int) + 1))], boxP x Q (reachL x)⟩) (fun k Q => Q.length = 8)
    (fun Q r => r.1 = .exit 0 ∧ lookA r.2.env 1 = .ptr 0 0 0 ∧ lookA r.2.env 2 = .ptr 1 0 0 ∧ lookA r.2.env 3 = .ptr 2 0 0 ∧ r.2.mem = boxP x Q (reachL x)) ?step ?last x.inos h8
  case step =>
    intro i Q k hk hi hQ
    obtain ⟨rfl, hi⟩ := rangeAt hk
    refine ⟨?_, by rw [stI_len]; exact hQ⟩
    obtain ⟨p, hp⟩ := get_at (show k < Q.length by omega)
    have gp : (Q.map inoO).getD k .undef = .agg [.int .i64 p.kind, .int .i64 p.links, .own 1 (p.ptrs.map iv)] := gD_map hp
    have a1 : (k : Int) + 1 - 1 = k := by omega
    have w1 := w_i64 (k : Int) (by omega)
    have w2 := w_i64 ((k : Int) + 1 + 1) (by omega)
    have b1 : (k : Int) + 1 ≤ 8 := by omega
    have b2 : (k : Int) < 8 := by omega
    have hRl : (reachL x).length ≤ maxLen := by have := reachL_len x; unfold maxLen; omega
    have e1 := e86 (reachL x) ((k : Int) + 1) hRl
    have e2 := e88 x h ht ((k : Int) + 1)
    have e3 := e87
    unfold dsk at e2
    have hI : stI x Q k = Q.set k (mrIno x k p) := by unfold stI; rw [hp]
    rw [hI]
    unfold boxP dskC mrIno
    cases hR : decide ((k : Int) + 1 ∈ reachL x) with
    | false =>
      rw [hR] at e1
      have hq : (Q.map inoO).set k (.agg [.int .i64 0, .int .i64 0, .own 1 [.int .i64 0, .int .i64 0]]) = (Q.set k ⟨0, 0, [0, 0]⟩).map inoO := by rw [List.map_set]; rfl
      simp only [XG, L22_6, h22_6, go_sem, seval, bnd_ite, hQ, hi, a1, w1, w2, b1, b2, e1, e3, gp, hq, is_set, List.length_map, Int.natCast_nonneg, decide_true, if_true, Bool.not_false, Bool.false_eq_true, if_false]
      first | done | rfl
    | true =>
      rw [hR] at e1
      have hq : ∀ v : Int, (Q.map inoO).set k (.agg [.int .i64 p.kind, .int .i64 v, .own 1 (p.ptrs.map iv)]) = (Q.set k { p with links := v }).map inoO := fun v => by rw [List.map_set]; rfl
      cases h1 : decide ((k : Int) + 1 = 1) with
      | true =>
        simp only [XG, L22_6, h22_6, go_sem, seval, bnd_ite, hQ, hi, h1, a1, w1, w2, b1, b2, e1, gp, hq, is_set, List.length_map, Int.natCast_nonneg, decide_true, if_true, Bool.not_true, Bool.false_eq_true, if_false]
        first | done | rfl
      | false =>
        simp only [XG, L22_6, h22_6, go_sem, seval, bnd_ite, hQ, hi, h1, a1, w1, w2, b1, b2, e1, e2, gp, hq, is_set, List.length_map, Int.natCast_nonneg, decide_true, if_true, Bool.not_true, Bool.false_eq_true, if_false]
        first | done | rfl
  case last =>
    intro Q hQ
    have k1 : decide ((9 : Int) ≤ 8) = false := rfl
    have k2 : decide (((8 : Nat) : Int) + 1 ≤ 8) = false := rfl
    have k3 : decide ((8 : Int) + 1 ≤ 8) = false := rfl
    unfold boxP dskC
    simp only [XG, L22_6, h22_6, go_sem, seval, bnd_ite, List.length_range, hQ, k1, k2, k3]
    exact .mk (by simp) ⟨rfl, rfl, rfl, rfl, rfl⟩
theorem set_fold (P : Nat → Bool) (n : Nat) : ∀ m, m ≤ n → ∀ B : List Bool, B.length = n → ((List.range m).foldl (fun B k => B.set k (P k)) B).length = n ∧ ∀ k, ((List.range m).foldl (fun B k => B.set k (P k)) B).getD k false = if k < m then P k else B.getD k false := by
  intro m
  induction m with
  | zero => intro _ B hB; exact ⟨hB, fun k => by simp⟩
  | succ m ih =>
    intro hm B hB
    obtain ⟨h1, h2⟩ := ih (by omega) B hB
    rw [List.range_succ, List.foldl_append, List.foldl_cons, List.foldl_nil]
    generalize (List.range m).foldl (fun B k => B.set k (P k)) B = C at *
    refine ⟨by simpa using h1, fun k => ?_⟩
    simp only [List.getD_eq_getElem?_getD, List.getElem?_set] at h2 ⊢
    by_cases c : m = k
    · subst c; rw [if_pos rfl, if_pos (by omega), if_pos (by omega)]; rfl
    · rw [if_neg c, h2 k]
      by_cases c2 : k < m
      · rw [if_pos c2, if_pos (by omega)]
      · rw [if_neg c2, if_neg (by omega)]
theorem eq_getD {a b : List Bool} (h : a.length = b.length) (hA : ∀ k, k < a.length → a.getD k false = b.getD k false) : a = b := by
  have := eq_range h
  have h2 : (List.range a.length).all (fun i => a.getD i false == b.getD i false) = true := all_range.2 fun i hi => by rw [hA i hi]; simp
  rw [h2] at this
  exact of_decide_eq_true this
theorem bits_eq {x : Dsk} (hd : dskOk x = true) : (List.range 16).foldl (stU x) x.used = bitsP x ∧ (List.range 8).foldl (stT x) x.taken = bitsI x := by
  obtain ⟨n1, n2, n3, n4⟩ := dsk_lens hd
  have l16 : (bitsP x).length = 16 := by unfold bitsP; rw [setB_fold_len]; simp
  have l8 : (bitsI x).length = 8 := by unfold bitsI; rw [setB_fold_len]; simp
  constructor
  · have hf : stU x = fun B k => B.set k ((fun k : Nat => decide ((k : Int) + 1 ∈ hadR x)) k) := rfl
    obtain ⟨h1, h2⟩ := set_fold (fun k : Nat => decide ((k : Int) + 1 ∈ hadR x)) 16 16 (Nat.le_refl _) x.used n1
    rw [hf]
    refine eq_getD (by rw [h1, l16]) fun k hk => ?_
    rw [h1] at hk
    rw [h2 k, if_pos hk]
    unfold bitsP
    rw [setB_at _ _ (fun i hi => by have := had_in hd i hi; simpa using this) k (by simpa using hk), List.getD_eq_getElem?_getD, List.getElem?_replicate, if_pos hk]; rfl
  · have hf : stT x = fun B k => B.set k ((fun k : Nat => decide ((k : Int) + 1 ∈ reachL x)) k) := rfl
    obtain ⟨h1, h2⟩ := set_fold (fun k : Nat => decide ((k : Int) + 1 ∈ reachL x)) 8 8 (Nat.le_refl _) x.taken n2
    rw [hf]
    refine eq_getD (by rw [h1, l8]) fun k hk => ?_
    rw [h1] at hk
    rw [h2 k, if_pos hk]
    unfold bitsI
    rw [setB_at _ _ (fun i hi => by have := reach_in8 hd i hi; simpa using this) k (by simpa using hk), List.getD_eq_getElem?_getD, List.getElem?_replicate, if_pos hk]; rfl
theorem e22 (x : Dsk) (hk : x.ok) (h : x.sm) (ht : tot x ≤ 1048576) : E T 22 [dsk x] [] = some (dskO (mendR x), []) := by
  rw [E_eq t22 (Nat.le_of_ble_eq_true rfl)]
  have e1 := e83 x h
  have e2 := e84 x hk
  have e3 := e85 x h
  unfold mendR
  cases hd : dskOk x with
  | false =>
    rw [hd] at e2
    rw [if_neg (by simp)]
    simp only [dsk, dskO] at e1 e2 ⊢
    simp only [F22, go_sem, seval, bnd_ite, e1, e2, tkG, Bool.not_false, if_true]
    first | done | rfl
  | true =>
    rw [hd] at e2
    rw [if_pos rfl, (bits_eq hd).1, (bits_eq hd).2]
    have e4 := e89 x h ht hd
    obtain ⟨n1, n2, n3, n4⟩ := dsk_lens hd
    have l16 : (bitsP x).length = 16 := by unfold bitsP; rw [setB_fold_len]; simp
    have l8 : (bitsI x).length = 8 := by unfold bitsI; rw [setB_fold_len]; simp
    obtain ⟨⟨y, e, m⟩, q1, qx, q2, q3, q4, qm⟩ := lp22 x h ht n3
    simp only at qx q2 q3 q4 qm; subst qx; subst qm
    have lI : ((List.range 8).foldl (stI x) x.inos).length = 8 := by rw [fold_len _ (stI_len x)]; exact n3
    generalize (List.range 8).foldl (stI x) x.inos = Q1 at *
    generalize bitsP x = BP at *
    generalize bitsI x = BI at *
    generalize reachL x = R at *
    unfold boxP dskC at q1
    simp only [dsk, dskO] at e1 e2 e3 e4 ⊢
    simp only [F22, h22_6, boxP, dskC, go_sem, seval, bnd_ite, e1, e2, e3, e4, n1, n2, n3, n4, q1, q2, q3, q4, l8, l16, lI, tkG, Bool.not_true, Bool.false_eq_true, if_false]
    first | done | rfl
set_option maxRecDepth 100000
theorem stI_all (x : Dsk) (P : Ino → Prop) (hP : ∀ k p, P p → P (mrIno x k p)) (l : List Nat) : ∀ Q : List Ino, (∀ y ∈ Q, P y) → ∀ y ∈ l.foldl (stI x) Q, P y := by
  induction l with
  | nil => intro Q h; exact h
  | cons k l ih =>
    intro Q h
    refine ih _ (fun y hy => ?_)
    unfold stI at hy
    split at hy
    · rename_i p hp
      rcases List.mem_or_eq_of_mem_set hy with hy | rfl
      · exact h y hy
      · exact hP k p (h p (List.mem_of_getElem? hp))
    · exact h y hy
theorem mrIno_ptrs (x : Dsk) (k : Nat) (p : Ino) : (mrIno x k p).ptrs = p.ptrs ∨ (mrIno x k p).ptrs = [0, 0] := by
  unfold mrIno; split
  · split <;> exact .inl rfl
  · exact .inr rfl
theorem mendR_sm {x : Dsk} (h : x.sm) : (mendR x).sm := by
  unfold mendR; split
  · refine ⟨by rw [fold_len _ (stU_len x)]; exact h.used, by rw [fold_len _ (stT_len x)]; exact h.taken, by rw [fold_len _ (stI_len x)]; exact h.inos, h.blks, stI_all x Ino.sm (fun k p hp => ?_) _ _ h.ino, h.blk⟩
    unfold Ino.sm at hp ⊢
    rcases mrIno_ptrs x k p with e | e <;> rw [e]
    · exact hp
    · simp
  · exact h
theorem mendR_ok {x : Dsk} (h : x.ok) : (mendR x).ok := by
  unfold mendR; split
  · refine ⟨by rw [fold_len _ (stU_len x)]; exact h.used, by rw [fold_len _ (stT_len x)]; exact h.taken, by rw [fold_len _ (stI_len x)]; exact h.inos, h.blks, stI_all x Ino.ok (fun k p hp => ?_) _ _ h.ino, h.blk⟩
    unfold Ino.ok at hp ⊢
    rcases mrIno_ptrs x k p with e | e <;> rw [e]
    · exact hp
    · unfold maxLen; simp
  · exact h
set_option maxHeartbeats 4000000 in
theorem e4 (x : Dsk) (h : x.ok) : E T 4 [dsk x] [] = some (.bool true, []) := by
  rw [E_eq t4 (Nat.le_of_ble_eq_true rfl)]
  obtain ⟨r, h1, h4⟩ := e19t x h
  have c40 := fun h => e21 x h
  have c42 := e23 x x h
  have cA := fun hs k => e20 x h hs k
  have cB := fun hs k => e22 x h hs k
  have c63x := fun h => e24 x 1 (by omega) (by omega) h
  have cs := fun h => mendR_sm (x := x) h
  have ck := mendR_ok h
  generalize mendR x = N at *
  have c42n := e23 N N ck
  have c63 := fun h => e24 N 1 (by omega) (by omega) h
  have c67 := fun h => e25 N 1 (by omega) (by omega) h
  simp only [dsk, dskO, dskR, mkDsk, List.cons_append, List.nil_append] at h1 c40 c42 c42n cA cB c63 c63x c67 ⊢
  simp only [F4, go_sem, seval, bnd_ite, h1]
  by_cases c1 : r < 0
  · rw [if_pos c1]
  rw [if_neg c1]
  have hm := h4 (by omega)
  have hs := cs hm.1
  have n1 : ¬ (1 + (coDsk x : Int)) < 0 := by omega
  have n2 : ¬ (1 + (coDsk N : Int)) < 0 := by omega
  simp only [go_sem, seval, bnd_ite, c40 hm.1, c42, c42n, cA hm.1 hm.2, cB hm.1 hm.2, c63 hs, c63x hm.1, c67 hs, mkB_len, mkL_len, tkG, n1, n2, decide_true, decide_false, Bool.not_true, Bool.false_eq_true, if_false]
end Go.Proofs.YtaaajjinpppgeaaGreat
