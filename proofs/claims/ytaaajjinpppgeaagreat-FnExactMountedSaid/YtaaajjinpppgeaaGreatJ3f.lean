/- The last part of the texts of a claim, joined by a program of ours; at its end stands the row: the law returns true for every input, and leaves it as it was. No condition. -/
import Derived.Test.YtaaajjinpppgeaaGreatJ3e
import GoSem.ClaimOpenFrom
import GoSem.ClaimJoined
import Derived.JoinedOf
import Derived.ProofKit
import Derived.KernelRfl
import Derived.Test.YtaaajjinpppgeaaGreatRows
set_option linter.unusedVariables false
set_option linter.unusedSimpArgs false
set_option linter.unusedSectionVars false
/- Disks out of devices, and what is mounted. Own work; no condition. -/
set_option linter.unusedVariables false
set_option linter.unusedSimpArgs false
set_option linter.unusedSectionVars false
namespace Go.Proofs.YtaaajjinpppgeaaGreat
open Go Go.Abs
set_option maxRecDepth 100000
def dV (l : List ByteArray) (A B : List Bool) : Mem := [some (1, [.agg [.ro 1 (l.map sv)]]), some (4, [.agg [.nil, .nil, .nil, .nil]]), some (4, [.agg [.nil, .nil, .nil, .nil]]), some (2, [.agg [.sl 4 0 A.length, .sl 5 0 B.length]]), some (1, A.map bv), some (1, B.map bv)]
def sT (B : List Bool) (i : Nat) : List Bool := B.set i true
theorem bv_facts (A : List Bool) : ∃ M, A.map bv = M ∧ M.length = A.length ∧ (∀ g, mapIdL g M = M) ∧ (∀ u, idsL u M = []) := ⟨_, rfl, by simp, fun g => mi_map g bv A bv_cool, fun u => is_map u bv A bv_cool⟩
theorem lp59c (l : List ByteArray) (A B : List Bool) (hA : A.length = 16) :
    ∃ r, XL T 0 H59_8 L59_8 ⟨[(1, .ptr 0 0 0), (2, .ptr 1 0 0), (4, .ptr 2 0 0), (5, .ptr 3 0 0), (7, .int .i64 0)], dV l A B⟩ = some r ∧
      r.1 = .exit 0 ∧ lookA r.2.env 1 = .ptr 0 0 0 ∧ lookA r.2.env 2 = .ptr 1 0 0 ∧ lookA r.2.env 4 = .ptr 2 0 0 ∧ lookA r.2.env 5 = .ptr 3 0 0 ∧ r.2.mem = dV l ((List.range 16).foldl sT A) B := by
  have := XL_each (T := T) (b := 0) (hd := H59_8) (x := L59_8) (List.range 16) sT (fun i A => ⟨[(1, .ptr 0 0 0), (2, .ptr 1 0 0), (4, .ptr 2 0 0), (5, .ptr 3 0 0), (7, .int .i64 (i : Nat))], dV l A B⟩) (fun i A => A.length = 16)
    (fun A r => r.1 = .exit 0 ∧ lookA r.2.env 1 = .ptr 0 0 0 ∧ lookA r.2.env 2 = .ptr 1 0 0 ∧ lookA r.2.env 4 = .ptr 2 0 0 ∧ lookA r.2.env 5 = .ptr 3 0 0 ∧ r.2.mem = dV l A B) ?step ?last A hA
  case step =>
    intro i A j hj hi hA
    obtain ⟨rfl, hi⟩ := rangeAt hj
    unfold sT
    refine ⟨?_, by simp [hA]⟩
    have k1 : (j : Int) < 16 := by omega
    have x0 : (0 : Int) ≤ (j : Int) := by omega
    have xi : ((j : Nat) : Int).toNat = j := rfl
    have wi := w_i64 ((j : Int) + 1) (by omega)
    obtain ⟨M, hM, ml, mi, ms⟩ := bv_facts (A.set j true)
    obtain ⟨N, hN, nl, ni, ns⟩ := bv_facts B
    obtain ⟨K, hK, kl, ki, ks⟩ := bv_facts A
    obtain ⟨v, hv⟩ := get_at (show j < A.length by omega)
    have gv : K.getD j .undef = .bool v := by rw [← hK]; exact gD_map hv
    have st : K.set j (.bool true) = M := by rw [← hK, ← hM, List.map_set]; rfl
    have sl : (A.set j true).length = 16 := by simp [hA]
    have jl : j < 16 := hi
    rw [hA] at kl
    unfold dV
    simp only [hM, hN, hK, sl, hA]
    simp only [XG, L59_8, h59_8, go_sem, seval, bnd_ite, k1, x0, xi, wi, gv, st, mi, ms, ni, ns, ki, ks, kl, nl, hA, jl]
    first | done | rfl
  case last =>
    intro A hA
    have s16 : ((16 : Nat) : Int) = 16 := rfl
    rw [List.length_range]
    unfold dV
    simp only [XG, L59_8, h59_8, go_sem, seval, bnd_ite, s16, hA, Int.lt_irrefl, decide_false]
    exact .mk (by simp) ⟨rfl, rfl, rfl, rfl, rfl, rfl⟩
  exact this
theorem lp59d (l : List ByteArray) (A B : List Bool) (hB : B.length = 8) :
    ∃ r, XL T 0 H59_13 L59_13 ⟨[(1, .ptr 0 0 0), (2, .ptr 1 0 0), (4, .ptr 2 0 0), (5, .ptr 3 0 0), (8, .int .i64 0)], dV l A B⟩ = some r ∧
      r.1 = .exit 2 ∧ lookA r.2.env 1 = .ptr 0 0 0 ∧ lookA r.2.env 2 = .ptr 1 0 0 ∧ lookA r.2.env 4 = .ptr 2 0 0 ∧ lookA r.2.env 5 = .ptr 3 0 0 ∧ r.2.mem = dV l A ((List.range 8).foldl sT B) := by
  have := XL_each (T := T) (b := 0) (hd := H59_13) (x := L59_13) (List.range 8) sT (fun i B => ⟨[(1, .ptr 0 0 0), (2, .ptr 1 0 0), (4, .ptr 2 0 0), (5, .ptr 3 0 0), (8, .int .i64 (i : Nat))], dV l A B⟩) (fun i B => B.length = 8)
    (fun B r => r.1 = .exit 2 ∧ lookA r.2.env 1 = .ptr 0 0 0 ∧ lookA r.2.env 2 = .ptr 1 0 0 ∧ lookA r.2.env 4 = .ptr 2 0 0 ∧ lookA r.2.env 5 = .ptr 3 0 0 ∧ r.2.mem = dV l A B) ?step ?last B hB
  case step =>
    intro i B j hj hi hB
    obtain ⟨rfl, hi⟩ := rangeAt hj
    unfold sT
    refine ⟨?_, by simp [hB]⟩
    have k1 : (j : Int) < 8 := by omega
    have x0 : (0 : Int) ≤ (j : Int) := by omega
    have xi : ((j : Nat) : Int).toNat = j := rfl
    have wi := w_i64 ((j : Int) + 1) (by omega)
    obtain ⟨M, hM, ml, mi, ms⟩ := bv_facts (B.set j true)
    obtain ⟨N, hN, nl, ni, ns⟩ := bv_facts A
    obtain ⟨K, hK, kl, ki, ks⟩ := bv_facts B
    obtain ⟨v, hv⟩ := get_at (show j < B.length by omega)
    have gv : K.getD j .undef = .bool v := by rw [← hK]; exact gD_map hv
    have st : K.set j (.bool true) = M := by rw [← hK, ← hM, List.map_set]; rfl
    have sl : (B.set j true).length = 8 := by simp [hB]
    have jl : j < 8 := hi
    rw [hB] at kl
    unfold dV
    simp only [hM, hN, hK, sl, hB]
    simp only [XG, L59_13, h59_13, go_sem, seval, bnd_ite, k1, x0, xi, wi, gv, st, mi, ms, ni, ns, ki, ks, kl, nl, hB, jl]
    first | done | rfl
  case last =>
    intro B hB
    have s16 : ((8 : Nat) : Int) = 8 := rfl
    rw [List.length_range]
    unfold dV
    simp only [XG, L59_13, h59_13, go_sem, seval, bnd_ite, s16, hB, Int.lt_irrefl, decide_false]
    exact .mk (by simp) ⟨rfl, rfl, rfl, rfl, rfl, rfl⟩
  exact this
def bitsU (s : ByteArray) : List Bool := if s.size = 3 then un (s.data.toList.getD 0 0) ++ un (s.data.toList.getD 1 0) else List.replicate 16 true
def bitsV (s : ByteArray) : List Bool := if s.size = 3 then un (s.data.toList.getD 2 0) else List.replicate 8 true
def dskOf (l : List ByteArray) : Dsk := ⟨bitsU (l.getD 0 ⟨#[]⟩), bitsV (l.getD 0 ⟨#[]⟩), inosOf l, blksOf l⟩
theorem bitsU_len (s : ByteArray) : (bitsU s).length = 16 := by unfold bitsU; split <;> simp [un]
theorem bitsV_len (s : ByteArray) : (bitsV s).length = 8 := by unfold bitsV; split <;> simp [un]
def dkA (l : List ByteArray) : AV := if dvcOk l then .tup [dskO (dskOf l), .bool true] else .tup [.agg [.own 1 [], .own 1 [], .own 3 [], .own 3 []], .bool false]
theorem fold16 : (List.range 16).foldl sT dskNew.used = List.replicate 16 true := by decide
theorem fold8 : (List.range 8).foldl sT dskNew.taken = List.replicate 8 true := by decide
theorem e59 (l : List ByteArray) (hl : l.length ≤ maxLen) : E T 59 [dvc l] [] = some (dkA l, []) := by
  rw [E_eqW t59 (Nat.le_of_ble_eq_true rfl)]
  have e1 := e41 l hl
  unfold dkA
  unfold dvc at e1
  cases hok : dvcOk l with
  | false =>
    rw [hok] at e1
    simp only [dvc, F59, go_sem, seval, bnd_ite, e1, Bool.not_false, Bool.false_eq_true, if_false, if_true]
    first | done | rfl
  | true =>
    rw [hok] at e1
    have h21 : l.length = 21 := by unfold dvcOk at hok; simp only [Bool.and_eq_true, decide_eq_true_eq] at hok; exact hok.2
    obtain ⟨s0, h0⟩ := get_at (show 0 < l.length by omega)
    have g0 : (l.map sv).getD 0 .undef = .str s0 := gD_map h0
    have hs0 : l.getD 0 ⟨#[]⟩ = s0 := by rw [List.getD, h0]; rfl
    have p0 : (0 : Int) < 21 := by omega
    have hu := e151 s0
    unfold bitsO at hu
    have i8 : (inosOf l).length = 8 := by simp [inosOf]
    have b16 : (blksOf l).length = 16 := by simp [blksOf]
    have t3 : ((inosOf l).map inoO).take 8 = (inosOf l).map inoO := List.take_of_length_le (by simp [inosOf])
    have t4 : ((blksOf l).map blkO).take 16 = (blksOf l).map blkO := List.take_of_length_le (by simp [blksOf])
    by_cases h3 : s0.size = 3
    · rw [if_pos h3] at hu
      have hU : bitsU s0 = un (s0.data.toList.getD 0 0) ++ un (s0.data.toList.getD 1 0) := by unfold bitsU; rw [if_pos h3]
      have hV : bitsV s0 = un (s0.data.toList.getD 2 0) := by unfold bitsV; rw [if_pos h3]
      rw [← hU, ← hV] at hu
      have lU := bitsU_len s0
      have lV := bitsV_len s0
      obtain ⟨⟨y, e, m⟩, k1, kx, k2, k3, k4, km⟩ := lp59a l hok h21 (bitsU s0) (bitsV s0)
      obtain ⟨⟨y', e', m'⟩, j1, jx, j2, j3, jm⟩ := lp59b l hok h21 (bitsU s0) (bitsV s0) (inosOf l)
      simp only at kx k2 k3 k4 km jx j2 j3 jm
      subst kx; subst km; subst jx; subst jm
      simp only [dskOf, dskO, hs0]
      unfold dM at k1
      unfold dN at j1
      obtain ⟨A, hA, al, ai, az⟩ := bv_facts (bitsU s0)
      obtain ⟨B, hB, bl, bi, bs⟩ := bv_facts (bitsV s0)
      rw [lU] at al
      rw [lV] at bl
      simp only [hA, hB] at k1 j1 hu ⊢
      have tA : A.take 16 = A := List.take_of_length_le (by omega)
      have tB : B.take 8 = B := List.take_of_length_le (by omega)
      simp only [dvc, F59, h59_19, h59_30, go_sem, seval, bnd_ite, e1, g0, p0, hu, h21, al, bl, ai, bi, az, bs, tA, tB, k1, k2, k3, k4, j1, j2, j3, i8, b16, t3, t4, Bool.not_true, Bool.not_false, Bool.false_eq_true, if_false, if_true]
      first | done | rfl
    · rw [if_neg h3] at hu
      have hU : bitsU s0 = List.replicate 16 true := by unfold bitsU; rw [if_neg h3]
      have hV : bitsV s0 = List.replicate 8 true := by unfold bitsV; rw [if_neg h3]
      have lU := bitsU_len s0
      have lV := bitsV_len s0
      obtain ⟨⟨y1, f1, m1⟩, a1, ax, a2, a3, a4, a5, am⟩ := lp59c l dskNew.used dskNew.taken rfl
      obtain ⟨⟨y2, f2, m2⟩, b1, bx, b2, b3, b4, b5, bm⟩ := lp59d l (bitsU s0) dskNew.taken rfl
      rw [fold16, ← hU] at am
      rw [fold8, ← hV] at bm
      obtain ⟨⟨y, e, m⟩, k1, kx, k2, k3, k4, km⟩ := lp59a l hok h21 (bitsU s0) (bitsV s0)
      obtain ⟨⟨y', e', m'⟩, j1, jx, j2, j3, jm⟩ := lp59b l hok h21 (bitsU s0) (bitsV s0) (inosOf l)
      simp only at kx k2 k3 k4 km jx j2 j3 jm ax a2 a3 a4 a5 am bx b2 b3 b4 b5 bm
      subst kx; subst km; subst jx; subst jm; subst ax; subst am; subst bx; subst bm
      simp only [dskOf, dskO, hs0]
      unfold dM at k1
      unfold dN at j1
      unfold dV at a1 b1
      have e152' := e152
      obtain ⟨A, hA, al, ai, az⟩ := bv_facts (bitsU s0)
      obtain ⟨B, hB, bl, bi, bs⟩ := bv_facts (bitsV s0)
      obtain ⟨C, hC, cl, ci, cs⟩ := bv_facts dskNew.used
      obtain ⟨D, hD, dl, di, ds⟩ := bv_facts dskNew.taken
      have lC : dskNew.used.length = 16 := rfl
      have lD : dskNew.taken.length = 8 := rfl
      rw [lU] at al
      rw [lV] at bl
      rw [lC] at cl
      rw [lD] at dl
      simp only [hA, hB, hC, hD, lU, lV, lC, lD] at k1 j1 a1 b1 e152' ⊢
      have tA : A.take 16 = A := List.take_of_length_le (by omega)
      have tB : B.take 8 = B := List.take_of_length_le (by omega)
      have tC : C.take 16 = C := List.take_of_length_le (by omega)
      have tD : D.take 8 = D := List.take_of_length_le (by omega)
      simp only [dvc, F59, h59_8, h59_13, h59_19, h59_30, go_sem, seval, bnd_ite, e1, g0, p0, hu, h21, e152', al, bl, ai, bi, az, bs, cl, ci, cs, dl, di, ds, tA, tB, tC, tD, a1, a2, a3, a4, a5, b1, b2, b3, b4, b5, k1, k2, k3, k4, j1, j2, j3, i8, b16, t3, t4, Bool.not_true, Bool.not_false, Bool.false_eq_true, if_false, if_true]
      first | done | rfl
theorem e62 (l : List ByteArray) (hl : l.length ≤ maxLen) : E T 62 [dvc l] [] = some (dkA l, []) := by
  rw [E_eqW t62 (Nat.le_of_ble_eq_true rfl)]
  have e1 := e40 l hl
  unfold dkA
  unfold dvc at e1
  cases hok : dvcOk l with
  | false =>
    rw [hok] at e1
    simp only [dvc, F62, go_sem, seval, bnd_ite, e1, Bool.not_false, Bool.false_eq_true, if_false, if_true]
    first | done | rfl
  | true =>
    rw [hok] at e1
    have h21 : l.length = 21 := by unfold dvcOk at hok; simp only [Bool.and_eq_true, decide_eq_true_eq] at hok; exact hok.2
    obtain ⟨s0, h0⟩ := get_at (show 0 < l.length by omega)
    have g0 : (l.map sv).getD 0 .undef = .str s0 := gD_map h0
    have hs0 : l.getD 0 ⟨#[]⟩ = s0 := by rw [List.getD, h0]; rfl
    have p0 : (0 : Int) < 21 := by omega
    have hu := e155 s0
    unfold bitsO at hu
    have i8 : (inosOf l).length = 8 := by simp [inosOf]
    have b16 : (blksOf l).length = 16 := by simp [blksOf]
    have t3 : ((inosOf l).map inoO).take 8 = (inosOf l).map inoO := List.take_of_length_le (by simp [inosOf])
    have t4 : ((blksOf l).map blkO).take 16 = (blksOf l).map blkO := List.take_of_length_le (by simp [blksOf])
    have lU := bitsU_len s0
    have lV := bitsV_len s0
    have q4 : ((min 5 21 - 1 : Nat) : Int) = 4 := rfl
    have q16 : ((21 - 5 : Nat) : Int) = 16 := rfl
    obtain ⟨⟨y, e, m⟩, k1, kx, k2, k3, k4, km⟩ := lp62a l hok h21 (bitsU s0) (bitsV s0)
    obtain ⟨⟨y', e', m'⟩, j1, jx, j2, j3, jm⟩ := lp62b l hok h21 (bitsU s0) (bitsV s0) (inosOf l)
    simp only at kx k2 k3 k4 km jx j2 j3 jm
    subst kx; subst km; subst jx; subst jm
    simp only [dskOf, dskO, hs0]
    unfold dM at k1
    unfold dW at j1
    obtain ⟨A, hA, al, ai, az⟩ := bv_facts (bitsU s0)
    obtain ⟨B, hB, bl, bi, bs⟩ := bv_facts (bitsV s0)
    rw [lU] at al
    rw [lV] at bl
    have tA : A.take 16 = A := List.take_of_length_le (by omega)
    have tB : B.take 8 = B := List.take_of_length_le (by omega)
    by_cases h3 : s0.size = 3
    · rw [if_pos h3] at hu
      have hU : bitsU s0 = un (s0.data.toList.getD 0 0) ++ un (s0.data.toList.getD 1 0) := by unfold bitsU; rw [if_pos h3]
      have hV : bitsV s0 = un (s0.data.toList.getD 2 0) := by unfold bitsV; rw [if_pos h3]
      rw [← hU, ← hV] at hu
      simp only [hA, hB] at k1 j1 hu ⊢
      simp only [dvc, F62, h62_9, h62_17, go_sem, seval, bnd_ite, e1, g0, p0, hu, h21, q4, q16, lU, lV, al, bl, ai, bi, az, bs, tA, tB, k1, k2, k3, k4, j1, j2, j3, i8, b16, t3, t4, Bool.not_true, Bool.not_false, Bool.false_eq_true, if_false, if_true]
      first | done | rfl
    · rw [if_neg h3] at hu
      have hU : bitsU s0 = List.replicate 16 true := by unfold bitsU; rw [if_neg h3]
      have hV : bitsV s0 = List.replicate 8 true := by unfold bitsV; rw [if_neg h3]
      have rA : roFreeL A = true := by rw [← hA]; exact rf_map bv _ (fun _ => rfl)
      have rB : roFreeL B = true := by rw [← hB]; exact rf_map bv _ (fun _ => rfl)
      have r1 := e156a
      have r2 := e156b
      rw [← hU] at r1
      rw [← hV] at r2
      simp only [hA, hB] at k1 j1 r1 r2 ⊢
      simp only [dvc, F62, h62_9, h62_17, go_sem, seval, bnd_ite, e1, g0, p0, hu, h21, q4, q16, r1, r2, rA, rB, lU, lV, al, bl, ai, bi, az, bs, tA, tB, k1, k2, k3, k4, j1, j2, j3, i8, b16, t3, t4, Bool.not_true, Bool.not_false, Bool.false_eq_true, if_false, if_true]
      first | done | rfl
theorem slGo_small (s : ByteArray) : ∀ (m a : Nat) (acc l : List Slt), (∀ x ∈ acc, x.name.size ≤ s.size) → slGo s m a acc = some l → ∀ x ∈ l, x.name.size ≤ s.size
  | 0, a, acc, l, hx, h => by cases h; exact hx
  | m + 1, a, acc, l, hx, h => by
    unfold slGo at h
    split at h
    · rename_i nm nx hr
      refine slGo_small s m _ _ l (fun y hy => ?_) h
      rcases List.mem_append.1 hy with hy | hy
      · exact hx y hy
      · rw [List.mem_singleton.1 hy]; exact (rs_lt hr).2.2.2
    · cases h
theorem blkD_ok (s : ByteArray) (hs : s.size ≤ 60) : (blkD s).ok ∧ (blkD s).sm := by
  have z : (⟨false, [], ⟨#[]⟩⟩ : Blk).ok ∧ (⟨false, [], ⟨#[]⟩⟩ : Blk).sm := ⟨⟨(by show (0 : Nat) ≤ maxLen; decide), (by show (0 : Nat) ≤ maxLen; decide), by simp⟩, by show (0 : Nat) ≤ _; omega⟩
  unfold blkD blkP
  cases hr : blkR s with
  | none => exact z
  | some b =>
    simp only
    split
    · show b.ok ∧ b.sm
      unfold blkR at hr
      split at hr
      · cases hr
      · split at hr
        · cases ho : slGo s 4 1 [] with
          | none => rw [ho] at hr; cases hr
          | some l =>
            rw [ho] at hr
            cases hr
            have h4 := slGo_len s 4 1 [] l ho
            have hm := slGo_small s 4 1 [] l (by simp) ho
            simp only [List.length_nil] at h4
            exact ⟨⟨by unfold maxLen; show l.length ≤ _; omega, (by show (0 : Nat) ≤ maxLen; decide), fun x hx => by have := hm x hx; unfold Slt.ok maxLen; omega⟩, by show l.length ≤ _; omega⟩
        · cases hr
          refine ⟨⟨(by show (0 : Nat) ≤ maxLen; decide), ?_, by simp⟩, by show (0 : Nat) ≤ _; omega⟩
          show (s.extract 1 s.size).size ≤ _
          rw [ByteArray.size_extract]; unfold maxLen; omega
    · exact z
theorem inoU_ok (s : ByteArray) (j : Nat) : (inoU s j).ptrs.length = 2 := by
  unfold inoU
  split
  · unfold inoD inoP
    split <;> rfl
  · rfl
theorem dskOf_ok {l : List ByteArray} (h : dvcOk l = true) : (dskOf l).ok ∧ (dskOf l).sm := by
  have lU := bitsU_len (l.getD 0 ⟨#[]⟩)
  have lV := bitsV_len (l.getD 0 ⟨#[]⟩)
  have i8 : (inosOf l).length = 8 := by simp [inosOf]
  have b16 : (blksOf l).length = 16 := by simp [blksOf]
  have hi : ∀ y ∈ inosOf l, y.ptrs.length = 2 := fun y hy => by
    obtain ⟨i, _, rfl⟩ := List.mem_map.1 hy
    exact inoU_ok _ _
  have hb : ∀ y ∈ blksOf l, y.ok ∧ y.sm := fun y hy => by
    obtain ⟨i, _, rfl⟩ := List.mem_map.1 hy
    exact blkD_ok _ (unit_le h _)
  unfold dskOf
  exact ⟨⟨by simp only [lU]; decide, by simp only [lV]; decide, by simp only [i8]; decide, by simp only [b16]; decide, fun y hy => by unfold Ino.ok; rw [hi y hy]; decide, fun y hy => (hb y hy).1⟩,
    ⟨by simp only [lU]; omega, by simp only [lV]; omega, by simp only [i8]; omega, by simp only [b16]; omega, fun y hy => by unfold Ino.sm; rw [hi y hy]; omega, fun y hy => (hb y hy).2⟩⟩
def mnt (l : List ByteArray) : Fsy := if dvcOk l then ⟨memNew (dskOf l), l⟩ else ⟨⟨⟨[], [], [], []⟩, [], [], 0⟩, []⟩
def fsyO (x : Fsy) : AV := .agg [.own 1 (x.mem.disk.used.map bv), .own 1 (x.mem.disk.taken.map bv), .own 3 (x.mem.disk.inos.map inoO), .own 3 (x.mem.disk.blks.map blkO), .own 1 (x.mem.dirty.map bv), .own 11 (x.mem.deps.map dpO), .int .i64 x.mem.next, .own 1 (x.units.map sv)]
theorem e11 (l : List ByteArray) (hl : dvcOk' l) : E T 11 [dvc l] [] = some (.tup [fsyO (mnt l), .bool (dvcOk l)], []) := by
  rw [E_eqW t11 (Nat.le_of_ble_eq_true rfl)]
  have e1 := e59 l hl.1
  unfold dkA at e1
  unfold mnt
  cases hok : dvcOk l with
  | false =>
    rw [hok] at e1
    simp only [Bool.false_eq_true, if_false] at e1 ⊢
    unfold dvc at e1
    simp only [dvc, fsyO, List.map_nil, F11, go_sem, seval, bnd_ite, e1, Bool.not_false, if_true]
    first | done | rfl
  | true =>
    rw [hok] at e1
    simp only [if_true] at e1 ⊢
    have h21 : l.length = 21 := by unfold dvcOk at hok; simp only [Bool.and_eq_true, decide_eq_true_eq] at hok; exact hok.2
    have e2 := e60 (dskOf l) (dskOf_ok hok).2
    unfold dvc at e1
    have s1 : (dskOf l).used.length = 16 := bitsU_len _
    have s2 : (dskOf l).taken.length = 8 := bitsV_len _
    have s3 : (dskOf l).inos.length = 8 := by simp [dskOf, inosOf]
    have s4 : (dskOf l).blks.length = 16 := by simp [dskOf, blksOf]
    generalize dskOf l = D at *
    simp only [dsk, dskO, mmO] at e1 e2
    obtain ⟨z, zs, rfl⟩ : ∃ z zs, l = z :: zs := by
      cases l with
      | nil => cases h21
      | cons z zs => exact ⟨z, zs, rfl⟩
    have hap : (zs.length + 1) * 16 ≤ 140737488355328 := by simp only [List.length_cons] at h21; omega
    simp only [List.map_cons, sv] at e1
    have m1 : (memNew D).disk = D := rfl
    have m2 : (memNew D).dirty.length = 21 := by simp [memNew]
    have m3 : (memNew D).deps = [] := rfl
    have m4 : ((memNew D).dirty.map bv).take 21 = (memNew D).dirty.map bv := List.take_of_length_le (by simp [memNew])
    have t1 : (D.used.map bv).take 16 = D.used.map bv := List.take_of_length_le (by simp [s1])
    have t2 : (D.taken.map bv).take 8 = D.taken.map bv := List.take_of_length_le (by simp [s2])
    have t3 : (D.inos.map inoO).take 8 = D.inos.map inoO := List.take_of_length_le (by simp [s3])
    have t4 : (D.blks.map blkO).take 16 = D.blks.map blkO := List.take_of_length_le (by simp [s4])
    simp only [dvc, fsyO, F11, sv, go_sem, seval, bnd_ite, e1, e2, m1, m2, m3, m4, s1, s2, s3, s4, t1, t2, t3, t4, hap, Bool.not_true, Bool.false_eq_true, if_false]
    first | done | rfl
theorem e13 (l : List ByteArray) (hl : dvcOk' l) : E T 13 [dvc l] [] = some (.tup [fsyO (mnt l), .bool (dvcOk l)], []) := by
  rw [E_eqW t13 (Nat.le_of_ble_eq_true rfl)]
  have e1 := e62 l hl.1
  unfold dkA at e1
  unfold mnt
  cases hok : dvcOk l with
  | false =>
    rw [hok] at e1
    simp only [Bool.false_eq_true, if_false] at e1 ⊢
    unfold dvc at e1
    simp only [dvc, fsyO, List.map_nil, F13, go_sem, seval, bnd_ite, e1, Bool.not_false, if_true]
    first | done | rfl
  | true =>
    rw [hok] at e1
    simp only [if_true] at e1 ⊢
    have h21 : l.length = 21 := by unfold dvcOk at hok; simp only [Bool.and_eq_true, decide_eq_true_eq] at hok; exact hok.2
    have e2 := e63 (dskOf l) (dskOf_ok hok).2
    have e3 := e64 l (by unfold dvcSm; omega) (by intro h; rw [h] at h21; cases h21)
    unfold dvc dvcO at e3
    unfold dvc at e1
    have s1 : (dskOf l).used.length = 16 := bitsU_len _
    have s2 : (dskOf l).taken.length = 8 := bitsV_len _
    have s3 : (dskOf l).inos.length = 8 := by simp [dskOf, inosOf]
    have s4 : (dskOf l).blks.length = 16 := by simp [dskOf, blksOf]
    generalize dskOf l = D at *
    simp only [dsk, dskO, mmO] at e1 e2
    have m1 : (memNew D).disk = D := rfl
    have m2 : (memNew D).dirty.length = 21 := by simp [memNew]
    have m3 : (memNew D).deps = [] := rfl
    have m4 : ((memNew D).dirty.map bv).take 21 = (memNew D).dirty.map bv := List.take_of_length_le (by simp [memNew])
    have tl : (l.map sv).take 21 = l.map sv := List.take_of_length_le (by simp [h21])
    have t1 : (D.used.map bv).take 16 = D.used.map bv := List.take_of_length_le (by simp [s1])
    have t2 : (D.taken.map bv).take 8 = D.taken.map bv := List.take_of_length_le (by simp [s2])
    have t3 : (D.inos.map inoO).take 8 = D.inos.map inoO := List.take_of_length_le (by simp [s3])
    have t4 : (D.blks.map blkO).take 16 = D.blks.map blkO := List.take_of_length_le (by simp [s4])
    simp only [dvc, fsyO, F13, go_sem, seval, bnd_ite, e1, e2, e3, s1, s2, s3, s4, t1, t2, t3, t4, h21, tl, m1, m2, m3, m4, Bool.not_true, Bool.false_eq_true, if_false]
    first | done | rfl
end Go.Proofs.YtaaajjinpppgeaaGreat

/- The law of what is mounted. Own work; no condition. -/
set_option linter.unusedVariables false
set_option linter.unusedSimpArgs false
set_option linter.unusedSectionVars false
namespace Go.Proofs.YtaaajjinpppgeaaGreat
open Go Go.Abs
set_option maxRecDepth 100000
theorem mkT_len (k : Int) (n : Nat) : (mkT k n).length = n := by simp [mkT]
theorem tkO {α : Type} {f : α → AV} {l : List α} : (l.map f).take l.length = l.map f := List.take_of_length_le (by simp)
theorem tkN {α : Type} {f : α → AV} {l : List α} {n : Nat} (h : l.length = n) : (l.map f).take n = l.map f := List.take_of_length_le (by rw [List.length_map, h]; exact Nat.le_refl _)
theorem memNew_sm {x : Dsk} (h : x.sm) : (memNew x).sm := ⟨h, by show (List.replicate 21 false).length ≤ 1048576; simp, by show (0 : Nat) ≤ 1048576; omega, fun y hy => (by cases hy)⟩
theorem memNew_ok {x : Dsk} (h : x.ok) : (memNew x).ok := ⟨h, by show (List.replicate 21 false).length ≤ maxLen; unfold maxLen; simp, by show (0 : Nat) ≤ maxLen; unfold maxLen; omega, fun y hy => (by cases hy)⟩
theorem mnt_ok {l : List ByteArray} (h : dvcOk' l) (hs : dvcSm l) : (mnt l).ok ∧ (mnt l).sm := by
  unfold mnt
  cases hok : dvcOk l with
  | true =>
    rw [if_pos rfl]
    exact ⟨⟨memNew_ok (dskOf_ok hok).1, h⟩, ⟨memNew_sm (dskOf_ok hok).2, hs⟩⟩
  | false =>
    rw [if_neg (by simp)]
    have z : (0 : Nat) ≤ maxLen := by decide
    have z' : (0 : Nat) ≤ 1048576 := by omega
    have d1 : (⟨[], [], [], []⟩ : Dsk).ok := ⟨z, z, z, z, fun y hy => (by cases hy), fun y hy => (by cases hy)⟩
    have d2 : (⟨[], [], [], []⟩ : Dsk).sm := ⟨z', z', z', z', fun y hy => (by cases hy), fun y hy => (by cases hy)⟩
    have m1 : (⟨⟨[], [], [], []⟩, [], [], 0⟩ : Mm).ok := ⟨d1, z, z, fun y hy => (by cases hy)⟩
    have m2 : (⟨⟨[], [], [], []⟩, [], [], 0⟩ : Mm).sm := ⟨d2, z', z', fun y hy => (by cases hy)⟩
    exact ⟨⟨m1, ⟨z, fun y hy => (by cases hy)⟩⟩, ⟨m2, z'⟩⟩
set_option maxHeartbeats 4000000 in
theorem e3 (l : List ByteArray) (h : dvcOk' l) : E T 3 [dvc l] [] = some (.bool true, []) := by
  rw [E_eq t3 (Nat.le_of_ble_eq_true rfl)]
  obtain ⟨r, h1, h2, h3, h4⟩ := e10 l 1048576 (by omega) (by omega) h
  by_cases c0 : r < 0
  · have d0 : decide (r < 0) = true := decide_eq_true c0
    simp only [dvc] at h1 ⊢
    simp only [F3, go_sem, seval, bnd_ite, h1, d0, if_true]
    first | done | rfl
  · have d0 : decide (r < 0) = false := decide_eq_false c0
    have hm := h4 (by omega)
    have c12 := e12 l hm
    have c11 := e11 l h
    have c13 := e13 l h
    obtain ⟨hk, hs⟩ := mnt_ok h hm
    have c14 := e14 (mnt l) (mnt l) hk
    have c15 := e15 l l h
    have c16 := e16 l 1 (by omega) (by omega) hm
    have c17 := e17 (mnt l) 1 (by omega) (by omega) hs
    have c18 := e18 (mnt l) 1 (by omega) (by omega) hs
    generalize dvcOk l = ok at *
    generalize mnt l = N at *
    have n1 : ¬ (1 + (coFs N : Int)) < 0 := by omega
    have n2 : ¬ (1 + (l.length : Int)) < 0 := by omega
    have bb : (!(ok == ok)) = false := by cases ok <;> rfl
    simp only [dvc, dvcO, fsy, fsyO, fsR, mmR, dskR, mkFs, mkMm, mkDsk, List.cons_append, List.nil_append] at h1 c11 c12 c13 c14 c15 c16 c17 c18 ⊢
    simp only [F3, go_sem, seval, bnd_ite, h1, d0, c11, c12, c13, c14, c15, c16, c17, c18, bb, mkB_len, mkL_len, mkT_len, tkO, tkN, n1, n2, decide_true, decide_false, Bool.not_true, Bool.false_eq_true, if_false]
    first | done | rfl
end Go.Proofs.YtaaajjinpppgeaaGreat

/- FnExactMounted answers true for all arguments. Own work; no condition. -/
set_option linter.unusedVariables false
namespace Go.Proofs.YtaaajjinpppgeaaGreat
open Go Go.Abs
def shFnExactMounted : List Shp := [shV]
theorem isFnExactMounted {avs : List AV} (h : IsAs shFnExactMounted avs) : E T 3 avs [] = some (.bool true, []) := by
  cases h with | cons h1 h =>
  cases h
  obtain ⟨x1, rfl, hx1⟩ := isV h1
  exact e3 x1 hx1
end Go.Proofs.YtaaajjinpppgeaaGreat

/- The words of a program's head, split without waste. Own work; no condition. -/
set_option linter.unusedVariables false
set_option linter.unusedSimpArgs false
set_option linter.unusedSectionVars false
namespace Go.Abs
open Go
def wAcc : List Char → List Char → List (List Char) → List (List Char)
  | [], cur, acc => (cur.reverse :: acc).reverse
  | c :: r, cur, acc => if c.toNat = 32 then wAcc r [] (cur.reverse :: acc) else wAcc r (c :: cur) acc
def joinW (cur : List Char) : List (List Char) → List (List Char)
  | w :: ws => (cur ++ w) :: ws
  | [] => [cur]
theorem ws_c (c : Char) (r : List Char) : wordsSigns (c :: r) = if c.toNat = 32 then [] :: wordsSigns r else joinW [c] (wordsSigns r) := by
  by_cases h : c.toNat = 32
  · rw [if_pos h]
    have : c = Char.ofNat 32 := by
      apply Char.ext
      apply UInt32.toNat_inj.1
      exact h
    subst this; rfl
  · rw [if_neg h]
    rw [wordsSigns.eq_3 _ _ (fun e => h (by rw [e]; rfl))]
    cases wordsSigns r <;> rfl
theorem ws_ne (l : List Char) : wordsSigns l ≠ [] := by
  cases l with
  | nil => simp [wordsSigns]
  | cons c r =>
    rw [ws_c]
    split
    · simp
    · cases wordsSigns r <;> simp [joinW]
theorem wAcc_eq : ∀ (l cur : List Char) (acc : List (List Char)), wAcc l cur acc = acc.reverse ++ joinW cur.reverse (wordsSigns l) := by
  intro l
  induction l with
  | nil => intro cur acc; simp [wAcc, wordsSigns, joinW]
  | cons c r ih =>
    intro cur acc
    simp only [wAcc]
    rw [ws_c]
    by_cases h : c.toNat = 32
    · rw [if_pos h, if_pos h, ih]
      cases hr : wordsSigns r with
      | nil => exact absurd hr (ws_ne r)
      | cons w ws => simp [joinW]
    · rw [if_neg h, if_neg h, ih]
      cases wordsSigns r <;> simp [joinW]
theorem words_eq (l : List Char) : wordsSigns l = wAcc l [] [] := by
  rw [wAcc_eq]
  have := ws_ne l
  cases h : wordsSigns l with
  | nil => exact absurd h this
  | cons w ws => simp [joinW]
theorem strip_cut (r : List (List Char)) : stripLifts liftWords ("cut".toList :: r) = ([], "cut".toList :: r) := by kernel_rfl
theorem lifts_of {P : Program} {r : List (List Char)} (h : behindMainWord (wordsSigns P.initOrder.toList) = "cut".toList :: r) : P.headLifts = [] := by
  unfold Program.headLifts
  rw [h, strip_cut]; kernel_rfl
theorem liftsFinal_of {P : Program} {r : List (List Char)} (h : behindMainWord (wordsSigns P.initOrder.toList) = "cut".toList :: r) : P.liftsFinal = false := by
  unfold Program.liftsFinal
  rw [h, lifts_of h]; kernel_rfl
theorem make_of {P : Program} {r : List (List Char)} (h : behindMainWord (wordsSigns P.initOrder.toList) = "cut".toList :: r) : P.make = some .cut := by
  unfold Program.make
  rw [h]; kernel_rfl
theorem mayEnter_of {P : Program} {r : List (List Char)} (h : behindMainWord (wordsSigns P.initOrder.toList) = "cut".toList :: r) (h1 : P.laysLater = false) (h2 : P.bearsReflect = false) (h3 : P.doorFits [] = true) : P.mayEnter = true := by
  unfold Program.mayEnter
  rw [h]
  simp only [strip_cut, h1, h2, h3]
  kernel_rfl
open Go.RowKit in
/-- The closed facts of a row, one by one. -/
theorem facts_of {P : Program} {f : FuncId} {fn : Func} {s : ChangeSpec} {c : OpenClaim} (a1 : c.wf (OpenSpec.ofChange s) = true) (a2 : laidOutB P = true) (a3 : mapsRowed P = true)
    (a4 : fn.params.all (P.readableRec ·) = true) (a5 : namedTie P c.named s.vars = true) (a6 : (c.stops == []) = true) (a7 : (P.stops == []) = true) (a8 : (c.knobs == []) = true) (a9 : (P.stopKnobs == []) = true)
    (a10 : (c.inPlace == P.inPlace f) = true) (a11 : (c.unfollowed == P.unfollowed f) = true) (a12 : (c.recurses == P.recurses f) = true) (a13 : (c.named == P.varsNamed f) = true)
    (a14 : (c.maps == (fn.params.toList ++ s.plain.varTypes P).any (P.mapsRec ·)) = true) (a15 : (c.ifaces == (fn.params.toList ++ s.plain.varTypes P).any (P.ifacesRec ·)) = true) (a16 : (c.mapsOut == P.mapsAmong fn.resultTypes.toList) = true)
    (a17 : (c.loops == (fn.params.toList ++ s.plain.varTypes P).any (P.loopsFrom ·)) = true) (a18 : (c.wideKeys == (fn.params.toList ++ s.plain.varTypes P ++ fn.resultTypes.toList).any (P.wideKeysFrom ·)) = true)
    (a19 : s.vars.all (P.varReadable ·) = true) (a20 : fn.resultTypes.all (fun t => P.readableRec t && decide (t < P.types.size)) = true) (a21 : (c.ifacesOut == fn.resultTypes.toList.any (P.ifacesRec ·)) = true)
    (a22 : (c.loopsOut == fn.resultTypes.toList.any (P.loopsFrom ·)) = true) (a23 : (c.plainKeys == P.plainKeys) = true) (a24 : c.shortTexts.isNone = true) (a25 : P.stopsHeard = true) (a26 : P.mayEnter = true)
    (a27 : (c.lifted == P.liftsFinal) = true) (a28 : (P.make == some c.make) = true)
    (a29 : c.domain.isEmpty = true) (a29' : c.kinds = []) (a30 : (c.pinned == c.pinnedBy) = true)
    (a31 : (c.veiled == (fn.params.toList ++ s.plain.varTypes P ++ fn.resultTypes.toList).any (P.veiledRec ·)) = true) (a32 : c.veiledFits P fn.params.toList (fn.params.toList ++ s.plain.varTypes P ++ fn.resultTypes.toList) = true) :
    joinedFacts P f fn s c = true := by
  unfold joinedFacts
  rw [a1, a2, a3, a4, a5, a6, a7, a8, a9, a10, a11, a12, a13, a14, a15, a16, a17, a18, a19, a20, a21, a22, a23, a24, a25, a26, a27, a28, a29, a29', a30, a31, a32]
  rfl
end Go.Abs

/- The words of the program's head, and the facts that hang on them. Own work; no condition. -/
namespace Go.Proofs.YtaaajjinpppgeaaGreat
open Go Go.RowKit
set_option maxRecDepth 100000
def headSigns : List Char := [.ofNat 104, .ofNat 97, .ofNat 114, .ofNat 110, .ofNat 101, .ofNat 115, .ofNat 115, .ofNat 32, .ofNat 55, .ofNat 52, .ofNat 48, .ofNat 97, .ofNat 52, .ofNat 55, .ofNat 48, .ofNat 51, .ofNat 102, .ofNat 102, .ofNat 100, .ofNat 99, .ofNat 102, .ofNat 50, .ofNat 55, .ofNat 99, .ofNat 52, .ofNat 48, .ofNat 52, .ofNat 51, .ofNat 100, .ofNat 97, .ofNat 54, .ofNat 99, .ofNat 55, .ofNat 102, .ofNat 102, .ofNat 99, .ofNat 48, .ofNat 54, .ofNat 49, .ofNat 101, .ofNat 53, .ofNat 48, .ofNat 102, .ofNat 51, .ofNat 49, .ofNat 102, .ofNat 53, .ofNat 101, .ofNat 51, .ofNat 50, .ofNat 50, .ofNat 98, .ofNat 52, .ofNat 50, .ofNat 54, .ofNat 49, .ofNat 52, .ofNat 100, .ofNat 102, .ofNat 54, .ofNat 55, .ofNat 101, .ofNat 56, .ofNat 54, .ofNat 99, .ofNat 55, .ofNat 57, .ofNat 48, .ofNat 56, .ofNat 55, .ofNat 50, .ofNat 57, .ofNat 32, .ofNat 99, .ofNat 117, .ofNat 116, .ofNat 32, .ofNat 97, .ofNat 116, .ofNat 32, .ofNat 108, .ofNat 111, .ofNat 111, .ofNat 112, .ofNat 46, .ofNat 101, .ofNat 120, .ofNat 97, .ofNat 109, .ofNat 112, .ofNat 108, .ofNat 101, .ofNat 47, .ofNat 103, .ofNat 48, .ofNat 48, .ofNat 50, .ofNat 51, .ofNat 53, .ofNat 47, .ofNat 108, .ofNat 97, .ofNat 119, .ofNat 115, .ofNat 46, .ofNat 70, .ofNat 110, .ofNat 69, .ofNat 120, .ofNat 97, .ofNat 99, .ofNat 116, .ofNat 77, .ofNat 111, .ofNat 117, .ofNat 110, .ofNat 116, .ofNat 101, .ofNat 100, .ofNat 32, .ofNat 108, .ofNat 111, .ofNat 111, .ofNat 112, .ofNat 46, .ofNat 101, .ofNat 120, .ofNat 97, .ofNat 109, .ofNat 112, .ofNat 108, .ofNat 101, .ofNat 47, .ofNat 103, .ofNat 48, .ofNat 48, .ofNat 50, .ofNat 51, .ofNat 53, .ofNat 47, .ofNat 108, .ofNat 97, .ofNat 119, .ofNat 115, .ofNat 46, .ofNat 70, .ofNat 110, .ofNat 69, .ofNat 120, .ofNat 97, .ofNat 99, .ofNat 116, .ofNat 77, .ofNat 101, .ofNat 110, .ofNat 100, .ofNat 82, .ofNat 101, .ofNat 115, .ofNat 116, .ofNat 32, .ofNat 108, .ofNat 111, .ofNat 111, .ofNat 112, .ofNat 46, .ofNat 101, .ofNat 120, .ofNat 97, .ofNat 109, .ofNat 112, .ofNat 108, .ofNat 101, .ofNat 47, .ofNat 103, .ofNat 48, .ofNat 48, .ofNat 50, .ofNat 51, .ofNat 53, .ofNat 47, .ofNat 108, .ofNat 97, .ofNat 119, .ofNat 115, .ofNat 46, .ofNat 70, .ofNat 110, .ofNat 69, .ofNat 120, .ofNat 97, .ofNat 99, .ofNat 116, .ofNat 77, .ofNat 101, .ofNat 110, .ofNat 100, .ofNat 65, .ofNat 108, .ofNat 108, .ofNat 32, .ofNat 108, .ofNat 111, .ofNat 111, .ofNat 112, .ofNat 46, .ofNat 101, .ofNat 120, .ofNat 97, .ofNat 109, .ofNat 112, .ofNat 108, .ofNat 101, .ofNat 47, .ofNat 103, .ofNat 48, .ofNat 48, .ofNat 50, .ofNat 51, .ofNat 53, .ofNat 47, .ofNat 108, .ofNat 97, .ofNat 119, .ofNat 115, .ofNat 46, .ofNat 70, .ofNat 110, .ofNat 73, .ofNat 109, .ofNat 97, .ofNat 103, .ofNat 101, .ofNat 115, .ofNat 32, .ofNat 108, .ofNat 111, .ofNat 111, .ofNat 112, .ofNat 46, .ofNat 101, .ofNat 120, .ofNat 97, .ofNat 109, .ofNat 112, .ofNat 108, .ofNat 101, .ofNat 47, .ofNat 103, .ofNat 48, .ofNat 48, .ofNat 50, .ofNat 51, .ofNat 53, .ofNat 47, .ofNat 108, .ofNat 97, .ofNat 119, .ofNat 115, .ofNat 46, .ofNat 70, .ofNat 110, .ofNat 85, .ofNat 110, .ofNat 105, .ofNat 116, .ofNat 87, .ofNat 114, .ofNat 105, .ofNat 116, .ofNat 101, .ofNat 115, .ofNat 32, .ofNat 108, .ofNat 111, .ofNat 111, .ofNat 112, .ofNat 46, .ofNat 101, .ofNat 120, .ofNat 97, .ofNat 109, .ofNat 112, .ofNat 108, .ofNat 101, .ofNat 47, .ofNat 103, .ofNat 48, .ofNat 48, .ofNat 50, .ofNat 51, .ofNat 53, .ofNat 47, .ofNat 108, .ofNat 97, .ofNat 119, .ofNat 115, .ofNat 46, .ofNat 70, .ofNat 110, .ofNat 84, .ofNat 97, .ofNat 107, .ofNat 101, .ofNat 115, .ofNat 32, .ofNat 108, .ofNat 111, .ofNat 111, .ofNat 112, .ofNat 46, .ofNat 101, .ofNat 120, .ofNat 97, .ofNat 109, .ofNat 112, .ofNat 108, .ofNat 101, .ofNat 47, .ofNat 103, .ofNat 48, .ofNat 48, .ofNat 50, .ofNat 51, .ofNat 53, .ofNat 47, .ofNat 108, .ofNat 97, .ofNat 119, .ofNat 115, .ofNat 46, .ofNat 70, .ofNat 110, .ofNat 66, .ofNat 114, .ofNat 111, .ofNat 107, .ofNat 101, .ofNat 110]
theorem head_text : Tryz.prog.initOrder = String.ofList headSigns := by kernel_rfl
theorem head_words : wordsSigns Tryz.prog.initOrder.toList = Go.Abs.wAcc headSigns [] [] := by
  rw [head_text, String.toList_ofList, Go.Abs.words_eq]
theorem head_behind : behindMainWord (wordsSigns Tryz.prog.initOrder.toList) = "cut".toList :: (Go.Abs.wAcc headSigns [] []).drop 3 := by
  rw [head_words]; kernel_rfl
theorem f_lays : Tryz.prog.laysLater = false := by kernel_rfl
theorem f_refl : Tryz.prog.bearsReflect = false := by kernel_rfl
theorem f_door : Tryz.prog.doorFits [] = true := by kernel_rfl
theorem f_mayEnter : Tryz.prog.mayEnter = true := Go.Abs.mayEnter_of head_behind f_lays f_refl f_door
theorem f_liftsFinal : Tryz.prog.liftsFinal = false := Go.Abs.liftsFinal_of head_behind
theorem f_make : Tryz.prog.make = some .cut := Go.Abs.make_of head_behind
theorem laidOut : laidOutB Tryz.prog = true := by kernel_rfl
theorem f_maps : mapsRowed Tryz.prog = true := by kernel_rfl
theorem f_stops : (Tryz.prog.stops == []) = true := by kernel_rfl
theorem f_knobs : (Tryz.prog.stopKnobs == []) = true := by kernel_rfl
theorem f_plain : (true == Tryz.prog.plainKeys) = true := by kernel_rfl
theorem f_heard : Tryz.prog.stopsHeard = true := by kernel_rfl
theorem own : ownKnob Tryz.prog.godebug = none := by kernel_rfl
end Go.Proofs.YtaaajjinpppgeaaGreat

/- FnExactMounted returns true for every input, and leaves it as it was. No condition. -/
set_option linter.unusedVariables false
set_option linter.unusedSimpArgs false
set_option linter.unusedSectionVars false
namespace Go.Proofs.YtaaajjinpppgeaaGreat
open Go Go.Abs Go.ChangeShapes Go.WideShapes Go.ChangeAt Go.RowKit
set_option maxRecDepth 100000 in
theorem liftedFnExactMounted (os : Os) (started : os.Started) (H : Type) (enc : TypeId × Value → H) :
    ReturnsInHanded {} Tryz.checked os 3 .any (Rows.fnExactMountedSpec.pre6 enc Tryz.prog Tryz.f3 Rows.fnExactMountedRow.domain false) (Rows.fnExactMountedSpec.post enc Tryz.prog Tryz.f3 false true false false) := by
  refine returnsInHanded_of_change (C := Tryz.checked) own started (by kernel_rfl) Tryz.func3
    (ChangeSpec.witness6 (enc := enc) (C := Tryz.checked) false ⟨#[], #[.agg #[.slice none 0 0]], []⟩ 8 (by kernel_rfl) (by kernel_rfl) (by kernel_rfl) (by kernel_rfl)) ?_
  intro W base args ds gs before hval hW _ _
  obtain ⟨p, q, hA, hV, e, _, _⟩ := id hW
  refine (row_calls (P := Tryz.prog) (W := W) (n := 12) (shps := shFnExactMounted) (fun avs h => calls (isFnExactMounted h)) (ts := Tryz.f3.params.toList) (by kernel_rfl) (fun j t v h1 h2 => hval j t v (by simpa using h1) h2) hA).mono fun e W' ⟨he, hb⟩ => ?_
  refine ⟨_, he, row_post (tb := Tryz.f3.resultTypes.toList.headD 0) laidOut ?_ rfl (by kernel_rfl) (by kernel_rfl) ?_ hW hb⟩
  · exact List.all_eq_true.1 (show Tryz.f3.params.toList.all (fun t => Tryz.prog.readableRec t && decide (t < Tryz.prog.types.size)) = true by kernel_rfl) |> fun h t ht => by simpa using h t ht
  · have hl := trod_len hA
    match ds, hl with
    | [d0], _ => rfl
set_option maxHeartbeats 4000000 in
theorem factsFnExactMounted : joinedFacts Tryz.prog 3 Tryz.f3 Rows.fnExactMountedSpec Rows.fnExactMountedRow = true :=
  facts_of (by kernel_rfl) laidOut f_maps (by kernel_rfl) (by kernel_rfl) rfl f_stops rfl f_knobs (by as_aux_lemma => kernel_rfl) (by as_aux_lemma => kernel_rfl) (by as_aux_lemma => kernel_rfl) (by as_aux_lemma => kernel_rfl)
    (by kernel_rfl) (by kernel_rfl) (by kernel_rfl) (by kernel_rfl) (by kernel_rfl) rfl (by kernel_rfl) (by kernel_rfl) (by kernel_rfl) f_plain rfl f_heard f_mayEnter (by rw [f_liftsFinal]; rfl) (by rw [f_make]; rfl) rfl rfl rfl (by kernel_rfl) (by kernel_rfl)
theorem wrapFnExactMounted : Tryz.f3.isWrapper Tryz.prog Rows.fnExactMountedRow.wrapper Rows.fnExactMountedRow.mainSum := by
  unfold Func.isWrapper; rw [if_neg (by decide +kernel)]; exact ⟨rfl, rfl⟩
set_option maxHeartbeats 4000000 in
theorem overFnExactMounted : Rows.fnExactMountedRow.holds Tryz.pinned (OpenSpec.ofChange Rows.fnExactMountedSpec) :=
  OpenClaim.holds_of_wide 3 Tryz.f3 rfl rfl rfl rfl rfl rfl rfl ⟨rfl, rfl, rfl, rfl, rfl⟩ rfl rfl rfl rfl rfl (by as_aux_lemma => kernel_rfl) Tryz.func3 factsFnExactMounted
    (by as_aux_lemma => exact of_decide_eq_true (by kernel_rfl)) wrapFnExactMounted
    (fun os started H enc _ => liftedFnExactMounted os started H enc)
theorem FnExactMounted_holds : Rows.FnExactMountedSaid := overFnExactMounted
end Go.Proofs.YtaaajjinpppgeaaGreat

