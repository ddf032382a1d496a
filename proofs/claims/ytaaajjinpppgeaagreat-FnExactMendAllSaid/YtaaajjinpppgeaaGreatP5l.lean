/- The last part of the texts of a claim, joined by a program of ours; at its end stands the row: the law returns true for every input, and leaves it as it was. No condition. -/
import Derived.Test.YtaaajjinpppgeaaGreatP5k
import GoSem.ClaimOpenFrom
import GoSem.ClaimJoined
import Derived.JoinedOf
import Derived.ProofKit
import Derived.KernelRfl
import Derived.Test.YtaaajjinpppgeaaGreatRows
set_option linter.unusedVariables false
set_option linter.unusedSimpArgs false
set_option linter.unusedSectionVars false
namespace Go.Proofs.YtaaajjinpppgeaaGreat
open Go Go.Abs
set_option maxRecDepth 100000
def H89_4 : List Vw := [.tidy [1, 2, 3, 4, 14, 15, 16] [(1, none), (2, none), (3, none), (4, none), (14, none), (15, none), (16, none), (4, some 0), (4, some 1)]]
theorem h89_4 (b : Nat) (s : St) : vwL b H89_4 s = vwL b [.tidy [1, 2, 3, 4, 14, 15, 16] [(1, none), (2, none), (3, none), (4, none), (14, none), (15, none), (16, none), (4, some 0), (4, some 1)]] s := rfl
def L89_4 : EC := (.seq (.region [(.op (.bin .lss) [(.tmp 16),(.tmp 15)] (some 17) true)] false) (.seq (.cond (.tmp 17) .skip (.exit 0)) (.seq (.block 1 (.seq (.region [(.op (.iaddr 1) [(.tmp 14),(.tmp 16)] (some 18) true),(.op .load1 [(.tmp 18)] (some 19) true),(.op .mv [(.tmp 19)] (some 6) true)] false) (.region [(.op (.faddr 1) [(.tmp 4)] (some 20) true),(.op .load1 [(.tmp 20)] (some 21) true),(.op .mv [(.tmp 6)] (some 22) true),(.op (.bin .sub) [(.tmp 22),(.const (.int .i64 1))] (some 23) true),(.op (.iaddr 1) [(.tmp 21),(.tmp 23)] (some 24) true),(.op .store1 [(.tmp 24),(.const (.bool true))] none true)] false))) (.region [(.op (.bin .add) [(.tmp 16),(.const (.int .i64 1))] (some 25) true),(.op .mv [(.tmp 25)] (some 16) true)] false))))
def H89_10 : List Vw := [.tidy [2, 4, 28, 29, 30] [(2, none), (4, none), (28, none), (29, none), (30, none), (4, some 0), (4, some 1)]]
theorem h89_10 (b : Nat) (s : St) : vwL b H89_10 s = vwL b [.tidy [2, 4, 28, 29, 30] [(2, none), (4, none), (28, none), (29, none), (30, none), (4, some 0), (4, some 1)]] s := rfl
def L89_10 : EC := (.seq (.region [(.op (.bin .lss) [(.tmp 30),(.tmp 29)] (some 31) true)] false) (.seq (.cond (.tmp 31) .skip (.exit 2)) (.seq (.block 3 (.seq (.region [(.op (.iaddr 1) [(.tmp 28),(.tmp 30)] (some 32) true),(.op .load1 [(.tmp 32)] (some 33) true),(.op .mv [(.tmp 33)] (some 8) true)] false) (.region [(.op (.faddr 0) [(.tmp 4)] (some 34) true),(.op .load1 [(.tmp 34)] (some 35) true),(.op .mv [(.tmp 8)] (some 36) true),(.op (.bin .sub) [(.tmp 36),(.const (.int .i64 1))] (some 37) true),(.op (.iaddr 1) [(.tmp 35),(.tmp 37)] (some 38) true),(.op .store1 [(.tmp 38),(.const (.bool true))] none true)] false))) (.region [(.op (.bin .add) [(.tmp 30),(.const (.int .i64 1))] (some 39) true),(.op .mv [(.tmp 39)] (some 30) true)] false))))
def F89 : EF := ⟨(.seq (.region [(.op (.box 4) [(.tmp 0)] (some 1) true),(.op (.alloc (.agg [.nil,.nil])) [] (some 2) true)] false) (.seq (.region [(.op (.loadN 4) [(.tmp 1)] (some 9) true),(.pc (.const (.fn 85 [])) [(.tmp 9)] (some 10) true),(.op .mv [(.tmp 10)] (some 3) true)] false) (.seq (.region [(.op (.mkslice 1 1 (.bool false)) [(.const (.int .i64 16)),(.const (.int .i64 16))] (some 11) false),(.op (.mkslice 1 1 (.bool false)) [(.const (.int .i64 8)),(.const (.int .i64 8))] (some 12) false),(.op (.build [.nil,.nil] [(0,1),(1,1)]) [(.tmp 11),(.tmp 12)] (some 13) false),(.op (.alloc (.agg [.nil,.nil])) [] (some 4) false),(.op (.storeN 2) [(.tmp 4),(.tmp 13)] none true)] true) (.seq (.seq (.region [(.op .mv [(.tmp 3)] (some 14) true),(.op .len [(.tmp 14)] (some 15) true),(.op .mv [(.const (.int .i64 0))] (some 16) true)] false) (.block 0 (.loop H89_4 L89_4))) (.seq (.seq (.region [(.op (.loadN 4) [(.tmp 1)] (some 26) true),(.op .mv [(.tmp 3)] (some 27) true),(.pc (.const (.fn 186 [])) [(.tmp 26),(.tmp 27)] (some 28) true),(.op .len [(.tmp 28)] (some 29) true),(.op .mv [(.const (.int .i64 0))] (some 30) true)] false) (.block 2 (.loop H89_10 L89_10))) (.seq (.region [(.op (.loadN 2) [(.tmp 4)] (some 40) true),(.op (.storeN 2) [(.tmp 2),(.tmp 40)] none true)] false) .ret)))))),[(.cell 2 (.loadN 2))],41,.one,none⟩
theorem t89 : T 89 = some F89 := tab Tryz.func89 (by kernel_rfl) rfl
def H53_5 : List Vw := [.tidy [1, 3, 4] [(1, none), (3, none), (4, none)]]
def L53_5 : EC := (.seq (.seq (.region [(.op .mv [(.tmp 4)] (some 13) true),(.op (.bin .leq) [(.tmp 13),(.const (.int .i64 8))] (some 14) true)] false) (.cond (.tmp 14) .skip (.exit 0))) (.seq (.block 1 (.seq (.region [(.op (.loadN 4) [(.tmp 1)] (some 17) true),(.op .mv [(.tmp 4)] (some 18) true),(.pc (.const (.fn 143 [])) [(.tmp 17),(.tmp 18)] (some 19) true),(.op (.alloc (.agg [(.int .i64 0),(.int .i64 0),.nil])) [] (some 5) true),(.op (.storeN 3) [(.tmp 5),(.tmp 19)] none true)] false) (.seq (.region [(.op (.loadN 4) [(.tmp 1)] (some 20) true),(.op .mv [(.tmp 4)] (some 21) true),(.pc (.const (.fn 88 [])) [(.tmp 20),(.tmp 21)] (some 22) true),(.op .mv [(.tmp 22)] (some 6) true)] false) (.block 2 (.seq (.region [(.op .mv [(.tmp 3)] (some 24) true),(.op .mv [(.tmp 4)] (some 25) true),(.pc (.const (.fn 86 [])) [(.tmp 24),(.tmp 25)] (some 26) true),(.op .not [(.tmp 26)] (some 27) true),(.op .mv [(.tmp 27)] (some 23) true)] false) (.cond (.tmp 23) (.seq (.region [(.op (.faddr 0) [(.tmp 5)] (some 28) true),(.op .load1 [(.tmp 28)] (some 29) true),(.op (.bin .neq) [(.tmp 29),(.const (.int .i64 0))] (some 30) true)] false) (.cond (.tmp 30) (.seq (.region [(.op .mv [(.const (.bool false))] (some 2) true)] false) .ret) .skip)) (.seq (.region [(.op .mv [(.tmp 4)] (some 32) true),(.op (.bin .eql) [(.tmp 32),(.const (.int .i64 1))] (some 33) true),(.op .mv [(.tmp 33)] (some 31) true)] false) (.cond (.tmp 31) (.seq (.region [(.op .mv [(.tmp 6)] (some 34) true),(.op (.bin .neq) [(.tmp 34),(.const (.int .i64 0))] (some 35) true),(.op .mv [(.tmp 35)] (some 36) true),(.grp 36 false [(.op (.faddr 1) [(.tmp 5)] (some 37) true),(.op .load1 [(.tmp 37)] (some 38) true),(.op (.bin .neq) [(.tmp 38),(.const (.int .i64 1))] (some 39) true)] 39 40 true)] false) (.cond (.tmp 40) (.seq (.region [(.op .mv [(.const (.bool false))] (some 2) true)] false) .ret) .skip)) (.seq (.region [(.op (.faddr 1) [(.tmp 5)] (some 42) true),(.op .load1 [(.tmp 42)] (some 43) true),(.op .mv [(.tmp 6)] (some 44) true),(.op (.bin .neq) [(.tmp 43),(.tmp 44)] (some 45) true),(.op .mv [(.tmp 45)] (some 46) true),(.grp 46 false [(.op (.faddr 0) [(.tmp 5)] (some 47) true),(.op .load1 [(.tmp 47)] (some 48) true),(.op (.bin .eql) [(.tmp 48),(.const (.int .i64 2))] (some 49) true),(.op .mv [(.tmp 49)] (some 50) true),(.grp 50 true [(.op .mv [(.tmp 6)] (some 51) true),(.op (.bin .neq) [(.tmp 51),(.const (.int .i64 1))] (some 52) true)] 52 53 true)] 53 54 true),(.op .mv [(.tmp 54)] (some 41) true)] false) (.cond (.tmp 41) (.seq (.region [(.op .mv [(.const (.bool false))] (some 2) true)] false) .ret) .skip)))))))))) (.region [(.op .mv [(.tmp 4)] (some 15) true),(.op (.bin .add) [(.tmp 15),(.const (.int .i64 1))] (some 16) true),(.op .mv [(.tmp 16)] (some 4) true)] false)))
def F53 : EF := ⟨(.seq (.region [(.op (.box 4) [(.tmp 0)] (some 1) true),(.op .mv [(.const (.bool false))] (some 2) true)] false) (.seq (.seq (.region [(.op (.loadN 4) [(.tmp 1)] (some 8) true),(.pc (.const (.fn 57 [])) [(.tmp 8)] (some 9) true),(.op .not [(.tmp 9)] (some 10) true)] false) (.cond (.tmp 10) (.seq (.region [(.op .mv [(.const (.bool false))] (some 2) true)] false) .ret) .skip)) (.seq (.region [(.op (.loadN 4) [(.tmp 1)] (some 11) true),(.pc (.const (.fn 85 [])) [(.tmp 11)] (some 12) true),(.op .mv [(.tmp 12)] (some 3) true)] false) (.seq (.seq (.region [(.op .mv [(.const (.int .i64 1))] (some 4) true)] false) (.block 0 (.loop H53_5 L53_5))) (.seq (.region [(.op (.loadN 4) [(.tmp 1)] (some 55) true),(.pc (.const (.fn 89 [])) [(.tmp 55)] (some 56) true),(.op (.alloc (.agg [.nil,.nil])) [] (some 7) true),(.op (.storeN 2) [(.tmp 7),(.tmp 56)] none true)] false) (.seq (.view [.opn 7 none none 0 1,.opn 7 none none 1 1] (.region [(.op (.faddr 0) [(.tmp 7)] (some 57) true),(.op .load1 [(.tmp 57)] (some 58) true),(.op (.faddr 0) [(.tmp 1)] (some 59) true),(.op (.faddr 0) [(.tmp 59)] (some 60) true),(.op .load1 [(.tmp 60)] (some 61) true),(.pc (.const (.fn 144 [])) [(.tmp 58),(.tmp 61)] (some 62) true),(.op .mv [(.tmp 62)] (some 63) true),(.grp 63 true [(.op (.faddr 1) [(.tmp 7)] (some 64) true),(.op .load1 [(.tmp 64)] (some 65) true),(.op (.faddr 0) [(.tmp 1)] (some 66) true),(.op (.faddr 1) [(.tmp 66)] (some 67) true),(.op .load1 [(.tmp 67)] (some 68) true),(.pc (.const (.fn 144 [])) [(.tmp 65),(.tmp 68)] (some 69) true)] 69 70 true),(.op .mv [(.tmp 70)] (some 2) true)] false)) .ret)))))),[(.tmp 2)],71,.one,none⟩
theorem t53 : T 53 = some F53 := tab Tryz.func53 (by kernel_rfl) rfl
end Go.Proofs.YtaaajjinpppgeaaGreat
namespace Go.Proofs.YtaaajjinpppgeaaGreat
open Go Go.Abs
set_option maxRecDepth 100000
theorem sort191 (zs : List Int) (h : zs.length < 4611686018427387904) : E T 184 [.sl 0 0 zs.length] [some (1, zs.map iv)] = some (.tup [], [some (1, (sortI zs).map iv)]) := by
  rw [E_orc t184 rfl]
  unfold iv
  simp only [sortO, intsOf_map, h, and_self, if_true]
theorem bfsStep_len (x : Dsk) (L : List Int) (s : Slt) : (bfsStep x L s).length ≤ L.length + 1 := by unfold bfsStep; split <;> simp
theorem in98 (x : Dsk) (h : x.sm) (k : Nat) (l : List Slt) (hl : l.length ≤ 1099511627776) (L : List Int) (hL : L.length ≤ 1048576) :
    ∃ r, XL T 0 H85_8 L85_8 ⟨[(1, .ptr 0 0 0), (3, .sl 1 0 L.length), (4, .int .i64 k), (27, .sl 2 0 l.length), (28, .int .i64 l.length), (29, .int .i64 0)], [some (4, [dskC x]), some (1, L.map iv), some (2, l.map slt)]⟩ = some r ∧
      r.1 = .exit 2 ∧ lookA r.2.env 1 = .ptr 0 0 0 ∧ lookA r.2.env 3 = .sl 1 0 (l.foldl (bfsStep x) L).length ∧ lookA r.2.env 4 = .int .i64 k ∧ r.2.mem = [some (4, [dskC x]), some (1, (l.foldl (bfsStep x) L).map iv), some (2, l.map slt)] := by
  refine XL_each l (bfsStep x) (fun j M => ⟨[(1, .ptr 0 0 0), (3, .sl 1 0 M.length), (4, .int .i64 k), (27, .sl 2 0 l.length), (28, .int .i64 l.length), (29, .int .i64 (j : Nat))], [some (4, [dskC x]), some (1, M.map iv), some (2, l.map slt)]⟩) (fun j M => M.length ≤ L.length + j)
    (fun M r => r.1 = .exit 2 ∧ lookA r.2.env 1 = .ptr 0 0 0 ∧ lookA r.2.env 3 = .sl 1 0 M.length ∧ lookA r.2.env 4 = .int .i64 k ∧ r.2.mem = [some (4, [dskC x]), some (1, M.map iv), some (2, l.map slt)]) ?step ?last L (by omega)
  case step =>
    intro j M s hs hj hM
    refine ⟨?_, by have := bfsStep_len x M s; omega⟩
    have j1 : (j : Int) < (l.length : Int) := by omega
    have gs : (l.map slt).getD j .undef = .agg [.str s.name, .int .i64 s.ino] := gD_map hs
    have e1 := e143u x h s.ino
    unfold dsk at e1
    rw [show ino (inoOf x s.ino) = .agg [.int .i64 (inoOf x s.ino).kind, .int .i64 (inoOf x s.ino).links, .ro 1 ((inoOf x s.ino).ptrs.map iv)] from rfl] at e1
    have e2 := e86 M s.ino (by unfold maxLen; omega)
    have hap : (M.length + 1) * 8 ≤ 140737488355328 := by omega
    have tk : (M.map iv).take M.length = M.map iv := List.take_of_length_le (by simp)
    have hw := w_i64 ((j : Int) + 1) (by omega)
    have hgd : good x s.ino = !decide ((inoOf x s.ino).kind = 0) := rfl
    unfold dskC bfsStep
    cases hg : decide ((inoOf x s.ino).kind = 0) with
    | true =>
      rw [if_neg (by rw [hgd, hg]; simp)]
      simp only [XG, L85_8, h85_8, go_sem, seval, bnd_ite, j1, hj, gs, e1, hg, hw, tk, Int.natCast_nonneg, decide_true, Bool.not_true, Bool.false_eq_true, if_false, if_true]
      first | done | rfl
    | false =>
      by_cases hm : s.ino ∈ M
      · rw [if_neg (by simp [hm])]
        have hm : decide (s.ino ∈ M) = true := by simpa using hm
        simp only [XG, L85_8, h85_8, go_sem, seval, bnd_ite, j1, hj, gs, e1, e2, hg, hm, hw, tk, Int.natCast_nonneg, decide_true, Bool.not_true, Bool.not_false, Bool.false_eq_true, if_false, if_true]
        first | done | rfl
      · rw [if_pos ⟨by rw [hgd, hg]; rfl, hm⟩]
        have hm : decide (s.ino ∈ M) = false := by simpa using hm
        simp only [XG, L85_8, h85_8, go_sem, seval, bnd_ite, j1, hj, gs, e1, e2, hg, hm, hw, tk, hap, Int.natCast_nonneg, decide_true, Bool.not_true, Bool.not_false, if_true, List.map_append, List.map_cons, List.map_nil, List.length_append]
        first | done | rfl
  case last =>
    intro M hM
    unfold dskC
    simp only [XG, L85_8, h85_8, go_sem, seval, bnd_ite, Int.lt_irrefl, decide_false]
    exact .mk (by simp) ⟨rfl, rfl, rfl, rfl, rfl⟩
theorem slot_len {x : Dsk} (h : x.sm) (i : Int) : (slotsAt x i).length ≤ 1099511627776 := by
  have h1 := slotsAt_len h i
  have h2 := inoOf_sm h i
  unfold Ino.sm at h2
  unfold ptrsN at h1
  omega
theorem lp98 (x : Dsk) (h : x.sm) (hn : 0 < x.inos.length) :
    ∃ r, XL T 0 H85_5 L85_5 ⟨[(1, .ptr 0 0 0), (3, .sl 1 0 1), (4, .int .i64 0)], [some (4, [dskC x]), some (1, [.int .i64 1])]⟩ = some r ∧
      r.1 ≠ .normal ∧ r.1 = .exit 0 ∧ ∃ L : List Int, L.length ≤ x.inos.length ∧ sortI L = reachL x ∧ lookA r.2.env 3 = .sl 1 0 L.length ∧ r.2.mem = [some (4, [dskC x]), some (1, L.map iv)] := by
  have hN := h.inos
  refine XL_inv (fun k L => ⟨[(1, .ptr 0 0 0), (3, .sl 1 0 L.length), (4, .int .i64 (k : Nat))], [some (4, [dskC x]), some (1, L.map iv)]⟩) (fun k L => BInv x k L) x.inos.length
    (fun r => r.1 = .exit 0 ∧ ∃ L : List Int, L.length ≤ x.inos.length ∧ sortI L = reachL x ∧ lookA r.2.env 3 = .sl 1 0 L.length ∧ r.2.mem = [some (4, [dskC x]), some (1, L.map iv)]) ?step ?last 0 [1] (by omega) (.start x)
  case step =>
    intro k L hk hI
    have hlen := hI.len hn
    by_cases hc : k < L.length
    · left
      obtain ⟨i, hi⟩ := get_at hc
      refine ⟨_, ?_, hI.step hi⟩
      have k1 : (k : Int) < (L.length : Int) := by omega
      have k2 : (k : Int) ≤ (k : Int) + 1 := by omega
      have k3 : (k : Int) + 1 ≤ (L.length : Int) := by omega
      have k4 : (0 : Int) ≤ (k : Int) + 1 := by omega
      have hw := w_i64 ((k : Int) + 1) (by omega)
      have e1 := e183 x h [i] (by simp) (ptrs_one h i)
      rw [List.flatMap_cons, List.flatMap_nil, List.append_nil] at e1
      have hsl := slot_len h i
      generalize hS : slotsAt x i = S at *
      obtain ⟨⟨y, e, m⟩, q1, qx, q2, q3, q4, qm⟩ := in98 x h k S hsl L (by omega)
      simp only at qx q2 q3 q4 qm; subst qx; subst qm
      unfold dsk at e1
      unfold dskC at q1
      unfold dskC
      have hdr : ((L.map iv).drop k).take 1 = [.int .i64 i] := by
        rw [← List.map_drop, ← List.map_take, List.drop_eq_getElem_cons hc]
        have : L[k] = i := by rw [List.getElem?_eq_getElem hc] at hi; injection hi
        rw [this]; rfl
      have kk : ((k : Int) + 1).toNat = k + 1 := by omega
      have k6 : k + 1 - k = 1 := by omega
      have k7 : k + 1 ≤ L.length := by omega
      have e1 : E T 183 [.agg [.ro 1 (x.used.map bv), .ro 1 (x.taken.map bv), .ro 3 (x.inos.map ino), .ro 3 (x.blks.map blk)], .ro 1 [.int .i64 i]] [] = some (.own 2 (S.map slt), []) := e1
      simp only [XG, L85_5, h85_5, h85_8, go_sem, seval, bnd_ite, k1, k2, k3, k4, k6, k7, kk, hw, hdr, e1, q1, q2, q3, q4, Int.natCast_nonneg, decide_true, if_true]
      first | done | rfl
    · right
      have k1 : ¬ (k : Int) < (L.length : Int) := by omega
      unfold dskC
      simp only [XG, L85_5, h85_5, go_sem, seval, bnd_ite, k1, decide_false]
      exact .mk (by simp) ⟨rfl, L, hlen, hI.stop hn (by omega), rfl, rfl⟩
  case last =>
    intro L hI
    have hlen := hI.len hn
    have k1 : ¬ (x.inos.length : Int) < (L.length : Int) := by omega
    unfold dskC
    simp only [XG, L85_5, h85_5, go_sem, seval, bnd_ite, k1, decide_false]
    exact .mk (by simp) ⟨rfl, L, hlen, hI.stop hn hlen, rfl, rfl⟩
theorem e85 (x : Dsk) (h : x.sm) : E T 85 [dsk x] [] = some (.own 1 ((reachL x).map iv), []) := by
  rw [E_eqW t85 (Nat.le_of_ble_eq_true rfl)]
  have hN := h.inos
  by_cases hn : 0 < x.inos.length
  · obtain ⟨⟨y, e, m⟩, h1, _, hx, L, hl, hs, h2, hm⟩ := lp98 x h hn
    simp only at hx h2 hm; subst hx; subst hm
    unfold dskC at h1
    have e1 := sort191 L (by omega)
    rw [hs] at e1
    have rl : (reachL x).length = L.length := by rw [← hs, sortI_len]
    have c1 : (0 : Int) < (x.inos.length : Int) := by omega
    have tk : ((reachL x).map iv).take L.length = (reachL x).map iv := List.take_of_length_le (by simp; omega)
    have tl : L.length ≤ (reachL x).length := by omega
    simp only [dsk, F85, h85_5, dskC, go_sem, seval, bnd_ite, c1, h1, h2, e1, tk, tl, if_true]
    first | done | rfl
  · have h0 : x.inos.length = 0 := by omega
    have hr : reachL x = [] := List.length_eq_zero_iff.1 (by have := reachL_len x; omega)
    have c1 : ¬ (0 : Int) < (x.inos.length : Int) := by omega
    have lp : XL T 0 H85_5 L85_5 ⟨[(1, .ptr 0 0 0), (3, .sl 1 0 0), (4, .int .i64 0)], [some (4, [dskC x]), some (1, [])]⟩ = some (.exit 0, ⟨[(18, .bool false), (17, .int .i64 0), (16, .sl 1 0 0), (15, .int .i64 0), (1, .ptr 0 0 0), (3, .sl 1 0 0), (4, .int .i64 0)], [some (4, [dskC x]), some (1, [])]⟩) := by
      refine XL_out ?_ (by simp)
      unfold dskC
      simp only [XG, L85_5, h85_5, go_sem, seval, bnd_ite, Int.lt_irrefl, decide_false]
    unfold dskC at lp
    have e1 := sort191 [] (by decide)
    have : sortI [] = [] := by simp [sortI]
    simp only [this, List.map_nil, List.length_nil] at e1
    rw [hr]
    simp only [dsk, F85, h85_5, dskC, go_sem, seval, bnd_ite, c1, lp, e1]
end Go.Proofs.YtaaajjinpppgeaaGreat
namespace Go.Proofs.YtaaajjinpppgeaaGreat
open Go Go.Abs
set_option maxRecDepth 100000
theorem hasStep_len (x : Dsk) (h : List Bool) (s : Slt) : (hasStep x h s).length = h.length := (hasStep_le x h s).1.symm
theorem in97c (x : Dsk) (hx : x.sm) (r : Nat) (i : Nat) (hi : i < x.inos.length) (h : List Bool) (hl : h.length = x.inos.length) :
    ∃ q, XL T 0 H76_13 L76_13 ⟨[(1, .ptr 0 0 0), (3, .sl 1 0 x.inos.length), (4, .int .i64 r), (5, .int .i64 ((i : Int) + 1)), (6, .sl 2 0 (slotsAt x ((i : Int) + 1)).length), (7, .int .i64 0)], [some (4, [dskC x]), some (1, h.map bv), some (2, (slotsAt x ((i : Int) + 1)).map slt)]⟩ = some q ∧
      q.1 = .exit 4 ∧ lookA q.2.env 1 = .ptr 0 0 0 ∧ lookA q.2.env 3 = .sl 1 0 x.inos.length ∧ lookA q.2.env 4 = .int .i64 r ∧ lookA q.2.env 5 = .int .i64 ((i : Int) + 1) ∧ q.2.mem = [some (4, [dskC x]), some (1, (hasIno x h i).map bv), some (2, (slotsAt x ((i : Int) + 1)).map slt)] := by
  have hN := hx.inos
  have w1 := w_i64 (i : Int) (by omega)
  have a1 : (i : Int) + 1 - 1 = i := by omega
  have hi0 : (i : Int) < (x.inos.length : Int) := by omega
  have hsl := slot_len hx ((i : Int) + 1)
  unfold hasIno
  obtain ⟨b, hb⟩ := get_at (show i < h.length by omega)
  have gb : h.getD i false = b := getD_at hb
  have gv : (h.map bv).getD i .undef = .bool b := gD_map hb
  rw [gb]
  generalize slotsAt x ((i : Int) + 1) = S at *
  cases b with
  | false =>
    have e : (if false = true then S.foldl (hasStep x) h else h) = h := rfl
    rw [e]
    have key : Stops (XG T 0 H76_13 L76_13 ⟨[(1, .ptr 0 0 0), (3, .sl 1 0 x.inos.length), (4, .int .i64 r), (5, .int .i64 ((i : Int) + 1)), (6, .sl 2 0 S.length), (7, .int .i64 0)], [some (4, [dskC x]), some (1, h.map bv), some (2, S.map slt)]⟩)
        (fun q => q.1 = .exit 4 ∧ lookA q.2.env 1 = .ptr 0 0 0 ∧ lookA q.2.env 3 = .sl 1 0 x.inos.length ∧ lookA q.2.env 4 = .int .i64 r ∧ lookA q.2.env 5 = .int .i64 ((i : Int) + 1) ∧ q.2.mem = [some (4, [dskC x]), some (1, h.map bv), some (2, S.map slt)]) := by
      unfold dskC
      by_cases h0 : 0 < (S.length : Int)
      · simp only [XG, L76_13, h76_13, go_sem, seval, bnd_ite, h0, w1, a1, hl, hi, hi0, gv, Int.natCast_nonneg, decide_true, if_true]
        exact .mk (by simp) ⟨rfl, rfl, rfl, rfl, rfl, rfl⟩
      · simp only [XG, L76_13, h76_13, go_sem, seval, bnd_ite, h0, decide_false]
        exact .mk (by simp) ⟨rfl, rfl, rfl, rfl, rfl, rfl⟩
    obtain ⟨q, h1, h2, h3⟩ := key
    exact ⟨q, XL_out h1 h2, h3⟩
  | true =>
    rw [if_pos rfl]
    refine XL_each S (hasStep x) (fun k h => ⟨[(1, .ptr 0 0 0), (3, .sl 1 0 x.inos.length), (4, .int .i64 r), (5, .int .i64 ((i : Int) + 1)), (6, .sl 2 0 S.length), (7, .int .i64 (k : Nat))], [some (4, [dskC x]), some (1, h.map bv), some (2, S.map slt)]⟩) (fun k h => h.length = x.inos.length ∧ h.getD i false = true)
      (fun h q => q.1 = .exit 4 ∧ lookA q.2.env 1 = .ptr 0 0 0 ∧ lookA q.2.env 3 = .sl 1 0 x.inos.length ∧ lookA q.2.env 4 = .int .i64 r ∧ lookA q.2.env 5 = .int .i64 ((i : Int) + 1) ∧ q.2.mem = [some (4, [dskC x]), some (1, h.map bv), some (2, S.map slt)]) ?step ?last h ⟨hl, gb⟩
    case step =>
      clear hb gb gv hl
      rintro k h s hs hk ⟨hl, hg⟩
      refine ⟨?_, by rw [hasStep_len]; exact hl, (hasStep_le x h s).2 i hg⟩
      obtain ⟨b, hb⟩ := get_at (show i < h.length by omega)
      have gv : (h.map bv).getD i .undef = .bool true := by
        rw [getD_at hb] at hg; rw [hg] at hb; exact gD_map hb
      have k1 : (k : Int) < (S.length : Int) := by omega
      have gs : (S.map slt).getD k .undef = .agg [.str s.name, .int .i64 s.ino] := gD_map hs
      have hw := w_i64 ((k : Int) + 1) (by omega)
      have hgd : good x s.ino = !decide ((inoOf x s.ino).kind = 0) := rfl
      unfold hasStep dskC
      cases hc : inside s.ino 1 x.inos.length with
      | false =>
        have hng : ¬ good x s.ino = true := fun h => by rw [good_in h] at hc; cases hc
        rw [if_neg hng]
        simp only [XG, L76_13, h76_13, go_sem, seval, bnd_ite, k1, hk, gs, w1, a1, hl, hi, hi0, gv, hw, e108i, hc, Int.natCast_nonneg, decide_true, if_true]
        first | done | rfl
      | true =>
        have hp := inoOf_mem hc
        have gp : (x.inos.map ino).getD (s.ino - 1).toNat .undef = .agg [.int .i64 (inoOf x s.ino).kind, .int .i64 (inoOf x s.ino).links, .ro 1 ((inoOf x s.ino).ptrs.map iv)] := gD_map hp
        have hc' := hc
        simp only [inside, Bool.and_eq_true, decide_eq_true_eq] at hc'
        have b1 : 0 ≤ s.ino - 1 := by omega
        have b2 : s.ino - 1 < (x.inos.length : Int) := by omega
        have b3 : (s.ino - 1).toNat < x.inos.length := by omega
        have w2 := w_i64 (s.ino - 1) (by omega)
        rw [hgd]
        cases hz : decide ((inoOf x s.ino).kind = 0) with
        | true =>
          simp only [XG, L76_13, h76_13, go_sem, seval, bnd_ite, k1, hk, gs, w1, w2, a1, hl, hi, hi0, gv, gp, b1, b2, b3, hz, hw, e108i, hc, Int.natCast_nonneg, decide_true, if_true, Bool.not_true, Bool.false_eq_true, if_false]
          first | done | rfl
        | false =>
          obtain ⟨bt, hbt⟩ := get_at (show (s.ino - 1).toNat < h.length by omega)
          have gvt : (h.map bv).getD (s.ino - 1).toNat .undef = .bool bt := gD_map hbt
          have hset : (h.map bv).set (s.ino - 1).toNat (.bool true) = (h.set (s.ino - 1).toNat true).map bv := by rw [List.map_set]; rfl
          simp only [XG, L76_13, h76_13, go_sem, seval, bnd_ite, k1, hk, gs, w1, w2, a1, hl, hi, hi0, gv, gp, b1, b2, b3, hz, hw, e108i, hc, gvt, hset, Int.natCast_nonneg, decide_true, if_true, Bool.not_false]
          first | done | rfl
    case last =>
      rintro h ⟨hl, hg⟩
      unfold dskC
      simp only [XG, L76_13, h76_13, go_sem, seval, bnd_ite, Int.lt_irrefl, decide_false]
      exact .mk (by simp) ⟨rfl, rfl, rfl, rfl, rfl, rfl⟩
theorem hasIno_len (x : Dsk) (h : List Bool) (i : Nat) : (hasIno x h i).length = h.length := (hasIno_le x h i).1.symm
theorem hasRound_len (x : Dsk) (h : List Bool) : (hasRound x h).length = h.length := (hasRound_le x h).1.symm
theorem rangeAt {n i p : Nat} (h : (List.range n)[i]? = some p) : p = i ∧ i < n := by
  rw [List.getElem?_eq_some_iff] at h
  obtain ⟨h1, h2⟩ := h
  simp at h1 h2; exact ⟨h2.symm, h1⟩
theorem in97b (x : Dsk) (hx : x.sm) (r : Nat) (h : List Bool) (hl : h.length = x.inos.length) :
    ∃ q, XL T 0 H76_9 L76_9 ⟨[(1, .ptr 0 0 0), (3, .sl 1 0 x.inos.length), (4, .int .i64 r), (5, .int .i64 1)], [some (4, [dskC x]), some (1, h.map bv)]⟩ = some q ∧
      q.1 = .exit 2 ∧ lookA q.2.env 1 = .ptr 0 0 0 ∧ lookA q.2.env 3 = .sl 1 0 x.inos.length ∧ lookA q.2.env 4 = .int .i64 r ∧ q.2.mem = [some (4, [dskC x]), some (1, (hasRound x h).map bv)] := by
  have hN := hx.inos
  unfold hasRound
  refine XL_each (List.range x.inos.length) (hasIno x) (fun i h => ⟨[(1, .ptr 0 0 0), (3, .sl 1 0 x.inos.length), (4, .int .i64 r), (5, .int .i64 ((i : Int) + 1))], [some (4, [dskC x]), some (1, h.map bv)]⟩) (fun k h => h.length = x.inos.length)
      (fun h q => q.1 = .exit 2 ∧ lookA q.2.env 1 = .ptr 0 0 0 ∧ lookA q.2.env 3 = .sl 1 0 x.inos.length ∧ lookA q.2.env 4 = .int .i64 r ∧ q.2.mem = [some (4, [dskC x]), some (1, h.map bv)]) ?step ?last h hl
  case step =>
    intro i h p hp hi hl
    obtain ⟨rfl, hi⟩ := rangeAt hp
    refine ⟨?_, by rw [hasIno_len]; exact hl⟩
    have k1 : (p : Int) + 1 ≤ (x.inos.length : Int) := by omega
    have hw := w_i64 ((p : Int) + 1 + 1) (by omega)
    have e1 := e175 x hx ((p : Int) + 1) (by omega)
    obtain ⟨⟨y, e, m⟩, q1, qx, q2, q3, q4, q5, qm⟩ := in97c x hx r p hi h hl
    simp only at qx q2 q3 q4 q5 qm; subst qx; subst qm
    unfold dsk at e1
    unfold dskC at q1
    unfold dskC
    simp only [XG, L76_9, h76_9, h76_13, go_sem, seval, bnd_ite, k1, hw, e1, q1, q2, q3, q4, q5, Int.natCast_nonneg, decide_true]
    first | done | rfl
  case last =>
    intro h hl
    have k1 : ¬ (x.inos.length : Int) + 1 ≤ (x.inos.length : Int) := by omega
    unfold dskC
    simp only [XG, L76_9, h76_9, go_sem, seval, bnd_ite, List.length_range, k1, decide_false]
    exact .mk (by simp) ⟨rfl, rfl, rfl, rfl, rfl⟩
theorem lp97 (x : Dsk) (hx : x.sm) :
    ∃ q, XL T 0 H76_6 L76_6 ⟨[(1, .ptr 0 0 0), (3, .sl 1 0 x.inos.length), (4, .int .i64 0)], [some (4, [dskC x]), some (1, (has0 x).map bv)]⟩ = some q ∧
      q.1 = .exit 0 ∧ lookA q.2.env 3 = .sl 1 0 x.inos.length ∧ q.2.mem = [some (4, [dskC x]), some (1, (hasF x).map bv)] := by
  have hN := hx.inos
  have hf : hasF x = (List.range x.inos.length).foldl (fun h _ => hasRound x h) (has0 x) := (hasN_fold x _ _).symm
  rw [hf]
  refine XL_each (List.range x.inos.length) (fun h _ => hasRound x h) (fun i h => ⟨[(1, .ptr 0 0 0), (3, .sl 1 0 x.inos.length), (4, .int .i64 (i : Nat))], [some (4, [dskC x]), some (1, h.map bv)]⟩) (fun k h => h.length = x.inos.length)
      (fun h q => q.1 = .exit 0 ∧ lookA q.2.env 3 = .sl 1 0 x.inos.length ∧ q.2.mem = [some (4, [dskC x]), some (1, h.map bv)]) ?step ?last (has0 x) (by simp [has0])
  case step =>
    intro i h p hp hi hl
    obtain ⟨rfl, hi⟩ := rangeAt hp
    refine ⟨?_, by rw [hasRound_len]; exact hl⟩
    have k1 : (p : Int) < (x.inos.length : Int) := by omega
    have hw := w_i64 ((p : Int) + 1) (by omega)
    obtain ⟨⟨y, e, m⟩, q1, qx, q2, q3, q4, qm⟩ := in97b x hx p h hl
    simp only at qx q2 q3 q4 qm; subst qx; subst qm
    unfold dskC at q1
    unfold dskC
    simp only [XG, L76_6, h76_6, h76_9, go_sem, seval, bnd_ite, k1, hw, q1, q2, q3, q4, Int.natCast_nonneg, decide_true]
    first | done | rfl
  case last =>
    intro h hl
    unfold dskC
    simp only [XG, L76_6, h76_6, go_sem, seval, bnd_ite, List.length_range, Int.lt_irrefl, decide_false]
    exact .mk (by simp) ⟨rfl, rfl, rfl⟩
theorem lq97 (x : Dsk) (hx : x.sm) :
    ∃ q, XL T 0 H76_23 L76_23 ⟨[(3, .sl 0 0 x.inos.length), (9, .sl 1 0 0), (10, .int .i64 0)], [some (1, (hasF x).map bv), some (1, [])]⟩ = some q ∧
      q.1 = .exit 6 ∧ ∃ L : List Int, L = (List.range x.inos.length).foldl (outStep (hasF x)) [] ∧ lookA q.2.env 9 = .sl 1 0 L.length ∧ q.2.mem = [some (1, (hasF x).map bv), some (1, L.map iv)] := by
  have hN := hx.inos
  have hF := hasF_len x
  refine (XL_each (T := T) (b := 0) (hd := H76_23) (x := L76_23) (List.range x.inos.length) (outStep (hasF x)) (fun i L => ⟨[(3, .sl 0 0 x.inos.length), (9, .sl 1 0 L.length), (10, .int .i64 (i : Nat))], [some (1, (hasF x).map bv), some (1, L.map iv)]⟩) (fun k L => L.length ≤ k)
      (fun L q => q.1 = .exit 6 ∧ lookA q.2.env 9 = .sl 1 0 L.length ∧ q.2.mem = [some (1, (hasF x).map bv), some (1, L.map iv)]) ?step ?last [] (by simp)).elim fun q ⟨h1, h2, h3, h4⟩ => ⟨q, h1, h2, _, rfl, h3, h4⟩
  case step =>
    intro i L p hp hi hL
    obtain ⟨rfl, hi⟩ := rangeAt hp
    refine ⟨?_, by unfold outStep; split <;> (try simp only [List.length_append, List.length_cons, List.length_nil]) <;> omega⟩
    have k1 : (p : Int) < (x.inos.length : Int) := by omega
    have hw := w_i64 ((p : Int) + 1) (by omega)
    obtain ⟨b, hb⟩ := get_at (show p < (hasF x).length by omega)
    have gv : ((hasF x).map bv).getD p .undef = .bool b := gD_map hb
    have hap : (L.length + 1) * 8 ≤ 140737488355328 := by omega
    have tk : (L.map iv).take L.length = L.map iv := List.take_of_length_le (by simp)
    unfold outStep
    rw [getD_at hb]
    cases b with
    | true =>
      simp only [XG, L76_23, h76_23, go_sem, seval, bnd_ite, k1, hw, hF, hi, gv, hap, tk, Int.natCast_nonneg, decide_true, if_true, List.map_append, List.map_cons, List.map_nil, List.length_append]
      first | done | rfl
    | false =>
      simp only [XG, L76_23, h76_23, go_sem, seval, bnd_ite, k1, hw, hF, hi, gv, Int.natCast_nonneg, decide_true, if_true, Bool.false_eq_true, if_false]
      first | done | rfl
  case last =>
    intro L hL
    simp only [XG, L76_23, h76_23, go_sem, seval, bnd_ite, List.length_range, Int.lt_irrefl, decide_false]
    exact .mk (by simp) ⟨rfl, rfl, rfl⟩
theorem e76 (x : Dsk) (hx : x.sm) : E T 76 [dsk x] [] = some (.own 1 ((reachL x).map iv), []) := by
  rw [E_eqW t76 (Nat.le_of_ble_eq_true rfl)]
  have hN := hx.inos
  have hmk : 1 * (x.inos.length : Int) ≤ 140737488355328 := by omega
  have hmk2 : (x.inos.length : Int) ≤ 9223372036854775807 := by omega
  by_cases hn : 0 < x.inos.length
  · obtain ⟨⟨y, e, m⟩, h1, hx1, h2, hm⟩ := lp97 x hx
    obtain ⟨⟨y', e', m'⟩, g1, gx1, L, gL, g2, gm⟩ := lq97 x hx
    simp only at hx1 h2 hm gx1 g2 gm; subst hx1; subst hm; subst gx1; subst gm
    rw [out_reach hn] at gL
    subst gL
    unfold dskC at h1
    have c1 : ¬ (x.inos.length : Int) = 0 := by omega
    have c2 : (0 : Int) < (x.inos.length : Int) := by omega
    have tk : ((reachL x).map iv).take (reachL x).length = (reachL x).map iv := List.take_of_length_le (by simp)
    have hh : (List.replicate x.inos.length (AV.bool false)).set 0 (.bool true) = (has0 x).map bv := by unfold has0; rw [List.map_set, List.map_replicate]; rfl
    have gv0 : (List.replicate x.inos.length (AV.bool false)).getD 0 .undef = .bool false := by rw [List.getD_eq_getElem?_getD, List.getElem?_replicate, if_pos hn]; rfl
    simp only [dsk, F76, h76_6, h76_23, dskC, go_sem, seval, bnd_ite, c1, c2, hn, hmk, hmk2, gv0, Int.natCast_nonneg, hh, h1, h2, g1, g2, tk, if_true, decide_false]
  · have h0 : x.inos.length = 0 := by omega
    have hr : reachL x = [] := List.length_eq_zero_iff.1 (by have := reachL_len x; omega)
    have c1 : (x.inos.length : Int) = 0 := by omega
    rw [hr]
    simp only [dsk, F76, go_sem, seval, bnd_ite, c1, h0, hmk, hmk2, Int.natCast_nonneg, decide_true, if_true]
end Go.Proofs.YtaaajjinpppgeaaGreat
namespace Go.Proofs.YtaaajjinpppgeaaGreat
open Go Go.Abs
set_option maxRecDepth 100000
noncomputable def slotsR (x : Dsk) : List Slt := (reachL x).flatMap (slotsAt x)
theorem flat_sum {x : Dsk} (h : x.sm) (l : List Int) : (l.flatMap (slotsAt x)).length ≤ ptrsSum x l * 1048576 := by
  induction l with
  | nil => simp
  | cons i l ih =>
    have := slotsAt_len h i
    unfold ptrsSum at ih ⊢
    simp only [List.flatMap_cons, List.length_append, List.map_cons, List.sum_cons, Nat.add_mul]
    omega
theorem slotsR_len {x : Dsk} (h : x.sm) (ht : tot x ≤ 1048576) : (slotsR x).length ≤ 1099511627776 := by
  have h1 := flat_sum h (reachL x)
  have h2 := ptrs_reach ht
  unfold slotsR; omega
theorem e183r (x : Dsk) (h : x.sm) (ht : tot x ≤ 1048576) : E T 183 [dsk x, .ro 1 ((reachL x).map iv)] [] = some (.own 2 ((slotsR x).map slt), []) :=
  e183 x h (reachL x) (Nat.le_trans (reachL_len x) h.inos) (ptrs_reach ht)
theorem e175r (x : Dsk) (h : x.sm) {i : Int} (hi : i ∈ reachL x) : E T 175 [dsk x, .int .i64 i] [] = some (.own 2 ((slotsAt x i).map slt), []) := by
  have := (mem_reachL.1 hi).1
  have := h.inos
  exact e175 x h i (by omega)
def cnt {α : Type} (P : α → Bool) (n : Int) (s : α) : Int := if P s then n + 1 else n
theorem cnt_flat {α β : Type} (P : α → Bool) (g : β → List α) (l : List β) : ∀ n : Int, (l.flatMap g).foldl (cnt P) n = l.foldl (fun n i => (g i).foldl (cnt P) n) n := by
  induction l with
  | nil => intro n; rfl
  | cons i l ih => intro n; rw [List.flatMap_cons, List.foldl_append, ih]; rfl
theorem cnt_le {α : Type} (P : α → Bool) (l : List α) : ∀ n : Int, n ≤ l.foldl (cnt P) n ∧ l.foldl (cnt P) n ≤ n + l.length := by
  induction l with
  | nil => intro n; simp
  | cons a l ih =>
    intro n
    have := ih (cnt P n a)
    have h2 : n ≤ cnt P n a ∧ cnt P n a ≤ n + 1 := by unfold cnt; split <;> omega
    rw [List.foldl_cons, List.length_cons]; omega
def isOf (i : Int) (s : Slt) : Bool := decide (s.ino = i)
noncomputable def linksOf (x : Dsk) (i : Int) : Int := (slotsR x).foldl (cnt (isOf i)) 0
theorem lp78 (i : Int) (S : List Slt) (hS : S.length ≤ 1099511627776) :
    ∃ r, XL T 0 H88_3 L88_3 ⟨[(1, .int .i64 i), (5, .int .i64 0), (11, .sl 0 0 S.length), (12, .int .i64 S.length), (13, .int .i64 0)], [some (2, S.map slt)]⟩ = some r ∧
      r.1 = .exit 0 ∧ lookA r.2.env 5 = .int .i64 (S.foldl (cnt (isOf i)) 0) := by
  refine XL_each S (cnt (isOf i)) (fun k n => ⟨[(1, .int .i64 i), (5, .int .i64 n), (11, .sl 0 0 S.length), (12, .int .i64 S.length), (13, .int .i64 (k : Nat))], [some (2, S.map slt)]⟩) (fun k n => 0 ≤ n ∧ n ≤ k)
    (fun n r => r.1 = .exit 0 ∧ lookA r.2.env 5 = .int .i64 n) ?step ?last 0 (by omega)
  case step =>
    intro k n s hs hk hI
    refine ⟨?_, by unfold cnt; split <;> omega⟩
    have k1 : (k : Int) < (S.length : Int) := by omega
    have gs : (S.map slt).getD k .undef = .agg [.str s.name, .int .i64 s.ino] := gD_map hs
    have hw := w_i64 ((k : Int) + 1) (by omega)
    have hw2 := w_i64 (n + 1) (by omega)
    unfold cnt isOf
    cases hc : decide (s.ino = i) with
    | true =>
      simp only [XG, L88_3, h88_3, go_sem, seval, bnd_ite, k1, hk, gs, hc, hw, hw2, Int.natCast_nonneg, decide_true, if_true]
      first | done | rfl
    | false =>
      simp only [XG, L88_3, h88_3, go_sem, seval, bnd_ite, k1, hk, gs, hc, hw, hw2, Int.natCast_nonneg, decide_true, if_true, Bool.false_eq_true, if_false]
      first | done | rfl
  case last =>
    intro n hI
    simp only [XG, L88_3, h88_3, go_sem, seval, bnd_ite, Int.lt_irrefl, decide_false]
    exact .mk (by simp) ⟨rfl, rfl⟩
theorem e88 (x : Dsk) (h : x.sm) (ht : tot x ≤ 1048576) (i : Int) : E T 88 [dsk x, .int .i64 i] [] = some (.int .i64 (linksOf x i), []) := by
  rw [E_eq t88 (Nat.le_of_ble_eq_true rfl)]
  have e1 := e85 x h
  have e2 := e183r x h ht
  have hS := slotsR_len h ht
  unfold linksOf
  generalize slotsR x = S at *
  generalize reachL x = R at *
  obtain ⟨⟨y, e, m⟩, q1, qx, q2⟩ := lp78 i S hS
  simp only at qx q2; subst qx
  simp only [dsk] at e1 e2 ⊢
  simp only [F88, h88_3, go_sem, seval, bnd_ite, e1, e2, q1, q2]
theorem in77 (x : Dsk) (i : Int) (k : Nat) (R : List Int) (S : List Slt) (hS : S.length ≤ 1099511627776) (n0 : Int) (hn : 0 ≤ n0 ∧ n0 ≤ 4611686018427387904) :
    ∃ r, XL T 0 H78_8 L78_8 ⟨[(1, .int .i64 i), (2, .ptr 0 0 0), (5, .int .i64 n0), (6, .sl 1 0 R.length), (7, .int .i64 k), (8, .sl 2 0 S.length), (9, .int .i64 0)], [some (4, [dskC x]), some (1, R.map iv), some (2, S.map slt)]⟩ = some r ∧
      r.1 = .exit 2 ∧ lookA r.2.env 1 = .int .i64 i ∧ lookA r.2.env 2 = .ptr 0 0 0 ∧ lookA r.2.env 5 = .int .i64 (S.foldl (cnt (isOf i)) n0) ∧ lookA r.2.env 6 = .sl 1 0 R.length ∧ lookA r.2.env 7 = .int .i64 k ∧ r.2.mem = [some (4, [dskC x]), some (1, R.map iv), some (2, S.map slt)] := by
  refine XL_each S (cnt (isOf i)) (fun j n => ⟨[(1, .int .i64 i), (2, .ptr 0 0 0), (5, .int .i64 n), (6, .sl 1 0 R.length), (7, .int .i64 k), (8, .sl 2 0 S.length), (9, .int .i64 (j : Nat))], [some (4, [dskC x]), some (1, R.map iv), some (2, S.map slt)]⟩) (fun k n => 0 ≤ n ∧ n ≤ n0 + k)
    (fun n r => r.1 = .exit 2 ∧ lookA r.2.env 1 = .int .i64 i ∧ lookA r.2.env 2 = .ptr 0 0 0 ∧ lookA r.2.env 5 = .int .i64 n ∧ lookA r.2.env 6 = .sl 1 0 R.length ∧ lookA r.2.env 7 = .int .i64 k ∧ r.2.mem = [some (4, [dskC x]), some (1, R.map iv), some (2, S.map slt)]) ?step ?last n0 (by omega)
  case step =>
    intro j n s hs hk hI
    refine ⟨?_, by unfold cnt; split <;> omega⟩
    have k1 : (j : Int) < (S.length : Int) := by omega
    have gs : (S.map slt).getD j .undef = .agg [.str s.name, .int .i64 s.ino] := gD_map hs
    have hw := w_i64 ((j : Int) + 1) (by omega)
    have hw2 := w_i64 (n + 1) (by omega)
    unfold cnt isOf dskC
    cases hc : decide (s.ino = i) with
    | true =>
      simp only [XG, L78_8, h78_8, go_sem, seval, bnd_ite, k1, hk, gs, hc, hw, hw2, Int.natCast_nonneg, decide_true, if_true]
      first | done | rfl
    | false =>
      simp only [XG, L78_8, h78_8, go_sem, seval, bnd_ite, k1, hk, gs, hc, hw, hw2, Int.natCast_nonneg, decide_true, if_true, Bool.false_eq_true, if_false]
      first | done | rfl
  case last =>
    intro n hI
    unfold dskC
    simp only [XG, L78_8, h78_8, go_sem, seval, bnd_ite, Int.lt_irrefl, decide_false]
    exact .mk (by simp) ⟨rfl, rfl, rfl, rfl, rfl, rfl, rfl⟩
theorem e78 (x : Dsk) (h : x.sm) (ht : tot x ≤ 1048576) (i : Int) : E T 78 [dsk x, .int .i64 i] [] = some (.int .i64 (linksOf x i), []) := by
  rw [E_eq t78 (Nat.le_of_ble_eq_true rfl)]
  have e1 := e76 x h
  have hb := h.inos
  have hRl := reachL_len x
  have hRm : ∀ p ∈ reachL x, E T 175 [dsk x, .int .i64 p] [] = some (.own 2 ((slotsAt x p).map slt), []) := fun p hp => e175r x h hp
  unfold linksOf slotsR
  rw [cnt_flat]
  generalize reachL x = R at *
  refine (XL_each (T := T) (b := 0) (hd := H78_4) (x := L78_4) R (fun n p => (slotsAt x p).foldl (cnt (isOf i)) n) (fun j n => ⟨[(1, .int .i64 i), (2, .ptr 0 0 0), (5, .int .i64 n), (6, .sl 1 0 R.length), (7, .int .i64 (j : Nat))], [some (4, [dskC x]), some (1, R.map iv)]⟩) (fun k n => 0 ≤ n ∧ n ≤ k * 1099511627776)
    (fun n r => r.1 = .exit 0 ∧ lookA r.2.env 5 = .int .i64 n) ?step ?last 0 (by omega)).elim ?main
  case step =>
    intro k n p hp hk hI
    have hsl := slot_len h p
    have hcl := cnt_le (isOf i) (slotsAt x p) n
    refine ⟨?_, by omega⟩
    have k1 : (k : Int) < (R.length : Int) := by omega
    have gp : (R.map iv).getD k .undef = .int .i64 p := gD_map hp
    have hw := w_i64 ((k : Int) + 1) (by omega)
    have e2 := hRm p (List.mem_of_getElem? hp)
    generalize slotsAt x p = S at *
    obtain ⟨⟨y, e, m⟩, q1, qx, q2, q3, q4, q5, q6, qm⟩ := in77 x i k R S hsl n (by omega)
    simp only at qx q2 q3 q4 q5 q6 qm; subst qx; subst qm
    simp only [dsk] at e2
    unfold dskC at q1
    unfold dskC
    simp only [XG, L78_4, h78_4, h78_8, go_sem, seval, bnd_ite, k1, hk, gp, hw, e2, q1, q2, q3, q4, q5, q6, Int.natCast_nonneg, decide_true, if_true]
    first | done | rfl
  case last =>
    intro n hI
    unfold dskC
    simp only [XG, L78_4, h78_4, go_sem, seval, bnd_ite, Int.lt_irrefl, decide_false]
    exact .mk (by simp) ⟨rfl, rfl⟩
  case main =>
  rintro ⟨y, e, m⟩ ⟨q1, qx, q2⟩
  simp only at qx q2; subst qx
  have hs0 : ((0 : Nat) : Int) = 0 := rfl
  rw [hs0] at q1
  unfold dskC at q1
  simp only [dsk] at e1 ⊢
  simp only [F78, h78_4, go_sem, seval, bnd_ite, e1, q1, q2]
end Go.Proofs.YtaaajjinpppgeaaGreat
namespace Go.Proofs.YtaaajjinpppgeaaGreat
open Go Go.Abs
set_option maxRecDepth 100000
def pos (p : Int) : Bool := decide (0 < p)
def hadOf (x : Dsk) (i : Int) : List Int := (inoOf x i).ptrs.filter pos
def hadStep (L : List Int) (p : Int) : List Int := if pos p then L ++ [p] else L
theorem hadStep_all (l : List Int) : ∀ L : List Int, l.foldl hadStep L = L ++ l.filter pos := by
  induction l with
  | nil => intro L; simp
  | cons s l ih => intro L; rw [List.foldl_cons, ih]; unfold hadStep; cases h : pos s <;> simp [h]
theorem hadOf_len (x : Dsk) (i : Int) : (hadOf x i).length ≤ ptrsN x i := List.length_filter_le ..
theorem in180 (x : Dsk) (l : List Int) (i : Nat) (q : List Int) (hq : q.length ≤ 1048576) (L : List Int) (hL : L.length ≤ 1099511627776) :
    ∃ r, XL T 0 H186_7 L186_7 ⟨[(2, .ptr 0 0 0), (5, .sl 1 0 L.length), (11, .ro 1 (l.map iv)), (12, .int .i64 l.length), (13, .int .i64 i), (20, .ro 1 (q.map iv)), (21, .int .i64 q.length), (22, .int .i64 0)], [some (4, [dskC x]), some (1, L.map iv)]⟩ = some r ∧
      r.1 = .exit 2 ∧ lookA r.2.env 2 = .ptr 0 0 0 ∧ lookA r.2.env 5 = .sl 1 0 (L ++ q.filter pos).length ∧ lookA r.2.env 11 = .ro 1 (l.map iv) ∧ lookA r.2.env 12 = .int .i64 l.length ∧ lookA r.2.env 13 = .int .i64 i ∧ r.2.mem = [some (4, [dskC x]), some (1, (L ++ q.filter pos).map iv)] := by
  rw [← hadStep_all]
  refine XL_each q hadStep (fun j M => ⟨[(2, .ptr 0 0 0), (5, .sl 1 0 M.length), (11, .ro 1 (l.map iv)), (12, .int .i64 l.length), (13, .int .i64 i), (20, .ro 1 (q.map iv)), (21, .int .i64 q.length), (22, .int .i64 (j : Nat))], [some (4, [dskC x]), some (1, M.map iv)]⟩) (fun j M => M.length ≤ L.length + j)
    (fun M r => r.1 = .exit 2 ∧ lookA r.2.env 2 = .ptr 0 0 0 ∧ lookA r.2.env 5 = .sl 1 0 M.length ∧ lookA r.2.env 11 = .ro 1 (l.map iv) ∧ lookA r.2.env 12 = .int .i64 l.length ∧ lookA r.2.env 13 = .int .i64 i ∧ r.2.mem = [some (4, [dskC x]), some (1, M.map iv)]) ?step ?last L (by omega)
  case step =>
    intro j M p hp hj hM
    refine ⟨?_, by unfold hadStep; split <;> (try simp only [List.length_append, List.length_cons, List.length_nil]) <;> omega⟩
    have j1 : (j : Int) < (q.length : Int) := by omega
    have gp : (q.map iv).getD j .undef = .int .i64 p := gD_map hp
    have hw := w_i64 ((j : Int) + 1) (by omega)
    have hap : (M.length + 1) * 8 ≤ 140737488355328 := by omega
    have tk : (M.map iv).take M.length = M.map iv := List.take_of_length_le (by simp)
    unfold dskC hadStep pos
    cases hc : decide (0 < p) with
    | true =>
      simp only [XG, L186_7, h186_7, go_sem, seval, bnd_ite, j1, hj, gp, hc, hw, hap, tk, Int.natCast_nonneg, decide_true, if_true, List.map_append, List.map_cons, List.map_nil, List.length_append]
      first | done | rfl
    | false =>
      simp only [XG, L186_7, h186_7, go_sem, seval, bnd_ite, j1, hj, gp, hc, hw, Int.natCast_nonneg, decide_true, if_true, Bool.false_eq_true, if_false]
      first | done | rfl
  case last =>
    intro M hM
    unfold dskC
    simp only [XG, L186_7, h186_7, go_sem, seval, bnd_ite, Int.lt_irrefl, decide_false]
    exact .mk (by simp) ⟨rfl, rfl, rfl, rfl, rfl, rfl, rfl⟩
theorem e186 (x : Dsk) (h : x.sm) (l : List Int) (hl : l.length ≤ 1048576) (ht : ptrsSum x l ≤ 1048576) : E T 186 [dsk x, .ro 1 (l.map iv)] [] = some (.own 1 ((l.flatMap (hadOf x)).map iv), []) := by
  rw [E_eqW t186 (Nat.le_of_ble_eq_true rfl)]
  have hs : l.flatMap (hadOf x) = l.foldl (fun L i => L ++ hadOf x i) [] := by
    have : ∀ (l : List Int) (L : List Int), l.foldl (fun L q => L ++ hadOf x q) L = L ++ l.flatMap (hadOf x) := by
      intro l
      induction l with
      | nil => intro L; simp
      | cons q l ih => intro L; rw [List.foldl_cons, ih]; simp
    rw [this]; simp
  have psum : ∀ i p, l[i]? = some p → ptrsSum x (l.take (i + 1)) = ptrsSum x (l.take i) + ptrsN x p := fun i p hp => by
    unfold ptrsSum; rw [take_snoc hp]; simp
  have ple : ∀ i, ptrsSum x (l.take i) ≤ ptrsSum x l := fun i => by
    have : ptrsSum x l = ptrsSum x (l.take i) + ptrsSum x (l.drop i) := by
      unfold ptrsSum; rw [← List.sum_append, ← List.map_append, List.take_append_drop]
    omega
  refine (XL_each (T := T) (b := 0) (hd := H186_3) (x := L186_3) l (fun L i => L ++ hadOf x i) (fun j L => ⟨[(2, .ptr 0 0 0), (5, .sl 1 0 L.length), (11, .ro 1 (l.map iv)), (12, .int .i64 l.length), (13, .int .i64 (j : Nat))], [some (4, [dskC x]), some (1, L.map iv)]⟩) (fun j L => L.length ≤ ptrsSum x (l.take j))
    (fun L r => r.1 = .exit 0 ∧ lookA r.2.env 5 = .sl 1 0 L.length ∧ r.2.mem = [some (4, [dskC x]), some (1, L.map iv)]) ?step ?last [] (by simp)).elim ?main
  case step =>
    intro j L i hi hj hL
    have hn := hadOf_len x i
    have hps := psum j i hi
    have hpl := ple (j + 1)
    refine ⟨?_, by rw [hps]; simp only [List.length_append]; omega⟩
    have j1 : (j : Int) < (l.length : Int) := by omega
    have gi : (l.map iv).getD j .undef = .int .i64 i := gD_map hi
    have e1 := e143u x h i
    have hsm := inoOf_sm h i
    unfold hadOf
    generalize inoOf x i = p at *
    unfold dsk at e1
    rw [show ino p = .agg [.int .i64 p.kind, .int .i64 p.links, .ro 1 (p.ptrs.map iv)] from rfl] at e1
    unfold Ino.sm at hsm
    obtain ⟨⟨y, e, m⟩, k1, kx, k2, k3, k4, k5, k6, km⟩ := in180 x l j p.ptrs hsm L (by omega)
    simp only at kx k2 k3 k4 k5 k6 km; subst kx; subst km
    unfold dskC at k1
    have hw := w_i64 ((j : Int) + 1) (by omega)
    simp only [XG, L186_3, h186_3, h186_7, dskC, go_sem, seval, bnd_ite, j1, gi, e1, hw, k1, k2, k3, k4, k5, k6, Int.natCast_nonneg, decide_true]
    first | done | rfl
  case last =>
    intro L hL
    unfold dskC
    simp only [XG, L186_3, h186_3, go_sem, seval, bnd_ite, Int.lt_irrefl, decide_false]
    exact .mk (by simp) ⟨rfl, rfl, rfl⟩
  case main =>
  rintro ⟨y, e, m⟩ ⟨k1, kx, k2, km⟩
  simp only at kx k2 km; subst kx; subst km
  have hs0 : ((0 : Nat) : Int) = 0 := rfl
  simp only [hs0, List.map_nil, List.length_nil] at k1
  rw [← hs] at k1 k2
  unfold dskC at k1
  generalize l.flatMap (hadOf x) = S at *
  have tk : (S.map iv).take S.length = S.map iv := List.take_of_length_le (by simp)
  simp only [dsk, F186, h186_3, dskC, go_sem, seval, bnd_ite, k1, k2, tk]
noncomputable def hadR (x : Dsk) : List Int := (reachL x).flatMap (hadOf x)
theorem hadBy_len (x : Dsk) (l : List Int) : (l.flatMap (hadOf x)).length ≤ ptrsSum x l := by
  induction l with
  | nil => simp
  | cons i l ih =>
    have := hadOf_len x i
    unfold ptrsSum at ih ⊢
    simp only [List.flatMap_cons, List.length_append, List.map_cons, List.sum_cons]; omega
theorem hadR_len {x : Dsk} (ht : tot x ≤ 1048576) : (hadR x).length ≤ 1048576 := Nat.le_trans (hadBy_len x _) (ptrs_reach ht)
theorem e186r (x : Dsk) (h : x.sm) (ht : tot x ≤ 1048576) : E T 186 [dsk x, .ro 1 ((reachL x).map iv)] [] = some (.own 1 ((hadR x).map iv), []) :=
  e186 x h (reachL x) (Nat.le_trans (reachL_len x) h.inos) (ptrs_reach ht)
def free (l : List Bool) (n : Int) : Bool := inside n 1 l.length && !(l.getD (n - 1).toNat false)
end Go.Proofs.YtaaajjinpppgeaaGreat
namespace Go.Proofs.YtaaajjinpppgeaaGreat
open Go Go.Abs
set_option maxRecDepth 100000
theorem dskOk_inos {x : Dsk} (h : dskOk x = true) : x.inos.length = 8 := by
  unfold dskOk at h
  simp only [Bool.and_eq_true, decide_eq_true_eq] at h
  exact h.2.2.1.2
end Go.Proofs.YtaaajjinpppgeaaGreat
namespace Go.Proofs.YtaaajjinpppgeaaGreat
open Go Go.Abs
set_option maxRecDepth 100000
theorem all_range {n : Nat} {P : Nat → Bool} : (List.range n).all P = true ↔ ∀ i, i < n → P i = true := by
  rw [List.all_eq_true]; exact ⟨fun h i hi => h i (List.mem_range.2 hi), fun h i hi => h i (List.mem_range.1 hi)⟩
theorem eq_range {a b : List Bool} (h : a.length = b.length) : decide (a = b) = (List.range a.length).all fun i => a.getD i false == b.getD i false := by
  rw [Bool.eq_iff_iff, decide_eq_true_eq, all_range]
  constructor
  · rintro rfl i hi; simp
  · intro hA
    refine List.ext_getElem h fun i p q => ?_
    have := hA i p
    rw [beq_iff_eq] at this
    simpa [List.getD_eq_getElem?_getD, List.getElem?_eq_getElem p, List.getElem?_eq_getElem q] using this
theorem in208 (x : Dsk) (k : Nat) (R : List Int) (p : Ino) (hp : p.sm) (L : List Int) (hL : L.length ≤ 1099511627776) :
    ∃ r, XL T 0 H79_8 L79_8 ⟨[(1, .ptr 0 0 0), (3, .sl 1 0 L.length), (4, .sl 2 0 R.length), (5, .int .i64 k), (6, .ptr 3 0 0), (7, .int .i64 0)], [some (4, [dskC x]), some (1, L.map iv), some (1, R.map iv), some (3, [.agg [.int .i64 p.kind, .int .i64 p.links, .ro 1 (p.ptrs.map iv)]])]⟩ = some r ∧
      r.1 = .exit 2 ∧ lookA r.2.env 1 = .ptr 0 0 0 ∧ lookA r.2.env 3 = .sl 1 0 (L ++ p.ptrs.filter pos).length ∧ lookA r.2.env 4 = .sl 2 0 R.length ∧ lookA r.2.env 5 = .int .i64 k ∧ r.2.mem = [some (4, [dskC x]), some (1, (L ++ p.ptrs.filter pos).map iv), some (1, R.map iv), some (3, [.agg [.int .i64 p.kind, .int .i64 p.links, .ro 1 (p.ptrs.map iv)]])] := by
  unfold Ino.sm at hp
  rw [← hadStep_all]
  refine XL_each p.ptrs hadStep (fun j M => ⟨[(1, .ptr 0 0 0), (3, .sl 1 0 M.length), (4, .sl 2 0 R.length), (5, .int .i64 k), (6, .ptr 3 0 0), (7, .int .i64 (j : Nat))], [some (4, [dskC x]), some (1, M.map iv), some (1, R.map iv), some (3, [.agg [.int .i64 p.kind, .int .i64 p.links, .ro 1 (p.ptrs.map iv)]])]⟩) (fun j M => M.length ≤ L.length + j)
    (fun M r => r.1 = .exit 2 ∧ lookA r.2.env 1 = .ptr 0 0 0 ∧ lookA r.2.env 3 = .sl 1 0 M.length ∧ lookA r.2.env 4 = .sl 2 0 R.length ∧ lookA r.2.env 5 = .int .i64 k ∧ r.2.mem = [some (4, [dskC x]), some (1, M.map iv), some (1, R.map iv), some (3, [.agg [.int .i64 p.kind, .int .i64 p.links, .ro 1 (p.ptrs.map iv)]])]) ?step ?last L (by omega)
  case step =>
    intro j M q hq hj hM
    refine ⟨?_, by unfold hadStep; split <;> (try simp only [List.length_append, List.length_cons, List.length_nil]) <;> omega⟩
    have j1 : (j : Int) < (p.ptrs.length : Int) := by omega
    have gq : (p.ptrs.map iv).getD j .undef = .int .i64 q := gD_map hq
    have hw := w_i64 ((j : Int) + 1) (by omega)
    have hap : (M.length + 1) * 8 ≤ 140737488355328 := by omega
    have tk : (M.map iv).take M.length = M.map iv := List.take_of_length_le (by simp)
    unfold dskC hadStep pos
    cases hc : decide (0 < q) with
    | true =>
      simp only [XG, L79_8, h79_8, go_sem, seval, bnd_ite, j1, hj, gq, hc, hw, hap, tk, Int.natCast_nonneg, decide_true, if_true, List.map_append, List.map_cons, List.map_nil, List.length_append]
      first | done | rfl
    | false =>
      simp only [XG, L79_8, h79_8, go_sem, seval, bnd_ite, j1, hj, gq, hc, hw, Int.natCast_nonneg, decide_true, if_true, Bool.false_eq_true, if_false]
      first | done | rfl
  case last =>
    intro M hM
    unfold dskC
    simp only [XG, L79_8, h79_8, go_sem, seval, bnd_ite, Int.lt_irrefl, decide_false]
    exact .mk (by simp) ⟨rfl, rfl, rfl, rfl, rfl, rfl⟩
theorem e79 (x : Dsk) (h : x.sm) (ht : tot x ≤ 1048576) : E T 79 [dsk x] [] = some (.own 1 ((hadR x).map iv), []) := by
  rw [E_eqW t79 (Nat.le_of_ble_eq_true rfl)]
  have e1 := e76 x h
  have hb := h.inos
  have hRl := reachL_len x
  have hT := ptrs_reach ht
  have hRi : ∀ p ∈ reachL x, inside p 1 x.inos.length = true := fun p hp => by
    have := (mem_reachL.1 hp).1
    simp only [inside, Bool.and_eq_true, decide_eq_true_eq]; exact this
  unfold hadR
  generalize reachL x = l at *
  have hs : l.flatMap (hadOf x) = l.foldl (fun L i => L ++ hadOf x i) [] := by
    have : ∀ (l : List Int) (L : List Int), l.foldl (fun L q => L ++ hadOf x q) L = L ++ l.flatMap (hadOf x) := by
      intro l
      induction l with
      | nil => intro L; simp
      | cons q l ih => intro L; rw [List.foldl_cons, ih]; simp
    rw [this]; simp
  have psum : ∀ i p, l[i]? = some p → ptrsSum x (l.take (i + 1)) = ptrsSum x (l.take i) + ptrsN x p := fun i p hp => by
    unfold ptrsSum; rw [take_snoc hp]; simp
  have ple : ∀ i, ptrsSum x (l.take i) ≤ ptrsSum x l := fun i => by
    have : ptrsSum x l = ptrsSum x (l.take i) + ptrsSum x (l.drop i) := by
      unfold ptrsSum; rw [← List.sum_append, ← List.map_append, List.take_append_drop]
    omega
  refine (XL_each (T := T) (b := 0) (hd := H79_4) (x := L79_4) l (fun L i => L ++ hadOf x i) (fun j L => ⟨[(1, .ptr 0 0 0), (3, .sl 1 0 L.length), (4, .sl 2 0 l.length), (5, .int .i64 (j : Nat))], [some (4, [dskC x]), some (1, L.map iv), some (1, l.map iv)]⟩) (fun j L => L.length ≤ ptrsSum x (l.take j))
    (fun L r => r.1 = .exit 0 ∧ lookA r.2.env 3 = .sl 1 0 L.length ∧ r.2.mem = [some (4, [dskC x]), some (1, L.map iv), some (1, l.map iv)]) ?step ?last [] (by simp)).elim ?main
  case step =>
    intro j L p hp hj hL
    have hn := hadOf_len x p
    have hps := psum j p hp
    have hpl := ple (j + 1)
    refine ⟨?_, by rw [hps]; simp only [List.length_append]; omega⟩
    have j1 : (j : Int) < (l.length : Int) := by omega
    have gp : (l.map iv).getD j .undef = .int .i64 p := gD_map hp
    have hc0 := hRi p (List.mem_of_getElem? hp)
    have hpi := inoOf_mem hc0
    have gi : (x.inos.map ino).getD (p - 1).toNat .undef = .agg [.int .i64 (inoOf x p).kind, .int .i64 (inoOf x p).links, .ro 1 ((inoOf x p).ptrs.map iv)] := gD_map hpi
    simp only [inside, Bool.and_eq_true, decide_eq_true_eq] at hc0
    have b1 : 0 ≤ p - 1 := by omega
    have b2 : p - 1 < (x.inos.length : Int) := by omega
    have b3 : (p - 1).toNat < x.inos.length := by omega
    have w2 := w_i64 (p - 1) (by omega)
    have hsm := inoOf_sm h p
    unfold hadOf
    generalize inoOf x p = I at *
    obtain ⟨⟨y, e, m⟩, q1, qx, q2, q3, q4, q5, qm⟩ := in208 x j l I hsm L (by omega)
    simp only at qx q2 q3 q4 q5 qm; subst qx; subst qm
    unfold dskC at q1
    have hw := w_i64 ((j : Int) + 1) (by omega)
    simp only [XG, L79_4, h79_4, h79_8, dskC, go_sem, seval, bnd_ite, j1, hj, gp, gi, b1, b2, b3, w2, hw, q1, q2, q3, q4, q5, Int.natCast_nonneg, decide_true, if_true]
    first | done | rfl
  case last =>
    intro L hL
    unfold dskC
    simp only [XG, L79_4, h79_4, go_sem, seval, bnd_ite, Int.lt_irrefl, decide_false]
    exact .mk (by simp) ⟨rfl, rfl, rfl⟩
  case main =>
  rintro ⟨y, e, m⟩ ⟨k1, kx, k2, km⟩
  simp only at kx k2 km; subst kx; subst km
  have hs0 : ((0 : Nat) : Int) = 0 := rfl
  simp only [hs0, List.map_nil, List.length_nil] at k1
  rw [← hs] at k1 k2
  unfold dskC at k1
  generalize l.flatMap (hadOf x) = S at *
  have tk : (S.map iv).take S.length = S.map iv := List.take_of_length_le (by simp)
  simp only [dsk] at e1 ⊢
  simp only [F79, h79_4, dskC, go_sem, seval, bnd_ite, e1, k1, k2, tk]
def setB (l : List Bool) (i : Int) : List Bool := l.set (i - 1).toNat true
theorem setB_fold_len (l : List Int) : ∀ b : List Bool, (l.foldl setB b).length = b.length := by
  induction l with
  | nil => intro b; rfl
  | cons i l ih => intro b; rw [List.foldl_cons, ih]; simp [setB]
theorem setB_at (l : List Int) : ∀ b : List Bool, (∀ i ∈ l, 1 ≤ i ∧ i ≤ (b.length : Int)) → ∀ k : Nat, k < b.length → (l.foldl setB b).getD k false = (b.getD k false || decide ((k : Int) + 1 ∈ l)) := by
  induction l with
  | nil => intro b _ k _; simp
  | cons i l ih =>
    intro b hi k hk
    have hl : (setB b i).length = b.length := by simp [setB]
    have h1 := hi i (by simp)
    rw [List.foldl_cons, ih _ (fun j hj => by rw [hl]; exact hi j (List.mem_cons_of_mem _ hj)) k (by omega)]
    unfold setB
    rw [gD_setB]
    by_cases c : (k : Int) + 1 = i
    · rw [if_pos ⟨by omega, by omega⟩]; simp [c]
    · rw [if_neg (by omega)]
      simp [c]
noncomputable def bitsI (x : Dsk) : List Bool := (reachL x).foldl setB (List.replicate 8 false)
noncomputable def bitsP (x : Dsk) : List Bool := (hadR x).foldl setB (List.replicate 16 false)
theorem had_in {x : Dsk} (h : dskOk x = true) : ∀ p ∈ hadR x, 1 ≤ p ∧ p ≤ 16 := by
  intro p hp
  unfold hadR at hp
  rw [List.mem_flatMap] at hp
  obtain ⟨i, hi, hp⟩ := hp
  unfold hadOf pos at hp
  rw [List.mem_filter, decide_eq_true_eq] at hp
  have hin : inside i 1 x.inos.length = true := by
    have := (mem_reachL.1 hi).1
    simp only [inside, Bool.and_eq_true, decide_eq_true_eq]; exact this
  have hm := List.mem_of_getElem? (inoOf_mem hin)
  have ha : x.inos.all inoOk = true := by
    unfold dskOk at h
    simp only [Bool.and_eq_true] at h
    exact h.1
  have := ((inoOk_iff.1 (List.all_eq_true.1 ha _ hm)).ptr p hp.1)
  omega
theorem reach_in8 {x : Dsk} (h : dskOk x = true) : ∀ p ∈ reachL x, 1 ≤ p ∧ p ≤ 8 := by
  intro p hp
  have := (mem_reachL.1 hp).1
  have := dskOk_inos h
  omega
theorem lp209 (x : Dsk) (R : List Int) (hR : ∀ i ∈ R, 1 ≤ i ∧ i ≤ 8) (hRl : R.length ≤ 1048576) (P : List Bool) (hP : P.length = 16) (b0 : List Bool) (hb0 : b0.length = 8) :
    ∃ r, XL T 0 H89_4 L89_4 ⟨[(1, .ptr 0 0 0), (2, .ptr 1 0 0), (3, .sl 2 0 R.length), (4, .ptr 3 0 0), (14, .sl 2 0 R.length), (15, .int .i64 R.length), (16, .int .i64 0)], [some (4, [dskC x]), some (2, [.agg [.nil, .nil]]), some (1, R.map iv), some (2, [.agg [.sl 4 0 16, .sl 5 0 8]]), some (1, P.map bv), some (1, b0.map bv)]⟩ = some r ∧
      r.1 = .exit 0 ∧ lookA r.2.env 1 = .ptr 0 0 0 ∧ lookA r.2.env 2 = .ptr 1 0 0 ∧ lookA r.2.env 3 = .sl 2 0 R.length ∧ lookA r.2.env 4 = .ptr 3 0 0 ∧ r.2.mem = [some (4, [dskC x]), some (2, [.agg [.nil, .nil]]), some (1, R.map iv), some (2, [.agg [.sl 4 0 16, .sl 5 0 8]]), some (1, P.map bv), some (1, (R.foldl setB b0).map bv)] := by
  refine XL_each R setB (fun k b => ⟨[(1, .ptr 0 0 0), (2, .ptr 1 0 0), (3, .sl 2 0 R.length), (4, .ptr 3 0 0), (14, .sl 2 0 R.length), (15, .int .i64 R.length), (16, .int .i64 (k : Nat))], [some (4, [dskC x]), some (2, [.agg [.nil, .nil]]), some (1, R.map iv), some (2, [.agg [.sl 4 0 16, .sl 5 0 8]]), some (1, P.map bv), some (1, b.map bv)]⟩) (fun k b => b.length = 8)
    (fun b r => r.1 = .exit 0 ∧ lookA r.2.env 1 = .ptr 0 0 0 ∧ lookA r.2.env 2 = .ptr 1 0 0 ∧ lookA r.2.env 3 = .sl 2 0 R.length ∧ lookA r.2.env 4 = .ptr 3 0 0 ∧ r.2.mem = [some (4, [dskC x]), some (2, [.agg [.nil, .nil]]), some (1, R.map iv), some (2, [.agg [.sl 4 0 16, .sl 5 0 8]]), some (1, P.map bv), some (1, b.map bv)]) ?step ?last b0 hb0
  case step =>
    intro k b p hp hk hI
    refine ⟨?_, by simp [setB, hI]⟩
    have k1 : (k : Int) < (R.length : Int) := by omega
    have gp : (R.map iv).getD k .undef = .int .i64 p := gD_map hp
    have hw := w_i64 ((k : Int) + 1) (by omega)
    have hpi := hR p (List.mem_of_getElem? hp)
    have b1 : 0 ≤ p - 1 := by omega
    have b2 : p - 1 < 8 := by omega
    have b3 : (p - 1).toNat < 8 := by omega
    have w2 := w_i64 (p - 1) (by omega)
    obtain ⟨u, hu⟩ := get_at (show (p - 1).toNat < b.length by omega)
    have gu : (b.map bv).getD (p - 1).toNat .undef = .bool u := gD_map hu
    have hset : (b.map bv).set (p - 1).toNat (.bool true) = (setB b p).map bv := by unfold setB; rw [List.map_set]; rfl
    unfold dskC
    simp only [XG, L89_4, h89_4, go_sem, seval, bnd_ite, k1, hk, gp, b1, b2, b3, w2, hw, hI, hP, gu, hset, Int.natCast_nonneg, decide_true, if_true]
    first | done | rfl
  case last =>
    intro n hI
    unfold dskC
    simp only [XG, L89_4, h89_4, go_sem, seval, bnd_ite, Int.lt_irrefl, decide_false]
    exact .mk (by simp) ⟨rfl, rfl, rfl, rfl, rfl, rfl⟩
theorem lq209 (H : List Int) (hH : ∀ i ∈ H, 1 ≤ i ∧ i ≤ 16) (hHl : H.length ≤ 1048576) (b1 : List Bool) (hb1 : b1.length = 8) (b0 : List Bool) (hb0 : b0.length = 16) :
    ∃ r, XL T 0 H89_10 L89_10 ⟨[(2, .ptr 0 0 0), (4, .ptr 1 0 0), (28, .sl 2 0 H.length), (29, .int .i64 H.length), (30, .int .i64 0)], [some (2, [.agg [.nil, .nil]]), some (2, [.agg [.sl 3 0 16, .sl 4 0 8]]), some (1, H.map iv), some (1, b0.map bv), some (1, b1.map bv)]⟩ = some r ∧
      r.1 = .exit 2 ∧ lookA r.2.env 2 = .ptr 0 0 0 ∧ lookA r.2.env 4 = .ptr 1 0 0 ∧ r.2.mem = [some (2, [.agg [.nil, .nil]]), some (2, [.agg [.sl 3 0 16, .sl 4 0 8]]), some (1, H.map iv), some (1, (H.foldl setB b0).map bv), some (1, b1.map bv)] := by
  refine XL_each H setB (fun k b => ⟨[(2, .ptr 0 0 0), (4, .ptr 1 0 0), (28, .sl 2 0 H.length), (29, .int .i64 H.length), (30, .int .i64 (k : Nat))], [some (2, [.agg [.nil, .nil]]), some (2, [.agg [.sl 3 0 16, .sl 4 0 8]]), some (1, H.map iv), some (1, b.map bv), some (1, b1.map bv)]⟩) (fun k b => b.length = 16)
    (fun b r => r.1 = .exit 2 ∧ lookA r.2.env 2 = .ptr 0 0 0 ∧ lookA r.2.env 4 = .ptr 1 0 0 ∧ r.2.mem = [some (2, [.agg [.nil, .nil]]), some (2, [.agg [.sl 3 0 16, .sl 4 0 8]]), some (1, H.map iv), some (1, b.map bv), some (1, b1.map bv)]) ?step ?last b0 hb0
  case step =>
    intro k b p hp hk hI
    refine ⟨?_, by simp [setB, hI]⟩
    have k1 : (k : Int) < (H.length : Int) := by omega
    have gp : (H.map iv).getD k .undef = .int .i64 p := gD_map hp
    have hw := w_i64 ((k : Int) + 1) (by omega)
    have hpi := hH p (List.mem_of_getElem? hp)
    have c1 : 0 ≤ p - 1 := by omega
    have c2 : p - 1 < 16 := by omega
    have c3 : (p - 1).toNat < 16 := by omega
    have w2 := w_i64 (p - 1) (by omega)
    obtain ⟨u, hu⟩ := get_at (show (p - 1).toNat < b.length by omega)
    have gu : (b.map bv).getD (p - 1).toNat .undef = .bool u := gD_map hu
    have hset : (b.map bv).set (p - 1).toNat (.bool true) = (setB b p).map bv := by unfold setB; rw [List.map_set]; rfl
    simp only [XG, L89_10, h89_10, go_sem, seval, bnd_ite, k1, hk, gp, c1, c2, c3, w2, hw, hI, hb1, gu, hset, Int.natCast_nonneg, decide_true, if_true]
    first | done | rfl
  case last =>
    intro n hI
    simp only [XG, L89_10, h89_10, go_sem, seval, bnd_ite, Int.lt_irrefl, decide_false]
    exact .mk (by simp) ⟨rfl, rfl, rfl, rfl⟩
theorem e89 (x : Dsk) (h : x.sm) (ht : tot x ≤ 1048576) (hd : dskOk x = true) : E T 89 [dsk x] [] = some (.agg [.own 1 ((bitsP x).map bv), .own 1 ((bitsI x).map bv)], []) := by
  rw [E_eq t89 (Nat.le_of_ble_eq_true rfl)]
  have e1 := e85 x h
  have e2 := e186r x h ht
  have hHl := hadR_len ht
  have hRl : (reachL x).length ≤ 1048576 := Nat.le_trans (reachL_len x) h.inos
  have hR8 := reach_in8 hd
  have hH16 := had_in hd
  unfold bitsP bitsI
  generalize hadR x = H at *
  generalize reachL x = R at *
  obtain ⟨⟨y, e, m⟩, q1, qx, q2, q3, q4, q5, qm⟩ := lp209 x R hR8 hRl (List.replicate 16 false) (by simp) (List.replicate 8 false) (by simp)
  simp only at qx q2 q3 q4 q5 qm; subst qx; subst qm
  have hl8 : (R.foldl setB (List.replicate 8 false)).length = 8 := by rw [setB_fold_len]; simp
  obtain ⟨⟨y', e', m'⟩, s1, sx, s2, s3, sm⟩ := lq209 H hH16 hHl (R.foldl setB (List.replicate 8 false)) hl8 (List.replicate 16 false) (by simp)
  simp only at sx s2 s3 sm; subst sx; subst sm
  have hl16 : (H.foldl setB (List.replicate 16 false)).length = 16 := by rw [setB_fold_len]; simp
  have r16 : List.replicate 16 (AV.bool false) = (List.replicate 16 false).map bv := by rw [List.map_replicate]; rfl
  have r8 : List.replicate 8 (AV.bool false) = (List.replicate 8 false).map bv := by rw [List.map_replicate]; rfl
  generalize R.foldl setB (List.replicate 8 false) = I1 at *
  generalize H.foldl setB (List.replicate 16 false) = P1 at *
  generalize List.replicate 16 false = P0 at *
  generalize List.replicate 8 false = I0 at *
  have tk1 : (P1.map bv).take 16 = P1.map bv := List.take_of_length_le (by simp [hl16])
  have tk2 : (I1.map bv).take 8 = I1.map bv := List.take_of_length_le (by simp [hl8])
  unfold dskC at q1
  simp only [dsk] at e1 e2 ⊢
  simp only [F89, h89_4, h89_10, dskC, go_sem, seval, bnd_ite, e1, e2, r16, r8, q1, q2, q3, q4, q5, s1, s2, s3, tk1, tk2, hl8, hl16]
  first | done | rfl
end Go.Proofs.YtaaajjinpppgeaaGreat
namespace Go.Proofs.YtaaajjinpppgeaaGreat
open Go Go.Abs
set_option maxRecDepth 100000
theorem rowsOf {α : Type} {e : Shp} {enc : α → AV} {ok : α → Prop} (h : ∀ cs, Is e cs → ∃ x, e.elem cs = enc x ∧ ok x) : ∀ {css : List (List AV)}, (∀ cs ∈ css, Is e cs) → ∃ xs : List α, css.map e.elem = xs.map enc ∧ xs.length = css.length ∧ ∀ x ∈ xs, ok x := by
  intro css
  induction css with
  | nil => intro _; exact ⟨[], rfl, rfl, fun x hx => by cases hx⟩
  | cons cs css ih =>
    intro hc
    obtain ⟨x, h1, h2⟩ := h cs (hc cs (List.mem_cons_self ..))
    obtain ⟨xs, h3, h4, h5⟩ := ih (fun c hcc => hc c (List.mem_cons_of_mem _ hcc))
    exact ⟨x :: xs, by simp [h1, h3], by simp [h4], fun y hy => by rcases List.mem_cons.1 hy with rfl | hy; exact h2; exact h5 y hy⟩
theorem isSl {α : Type} {s : Nat} {e : Shp} {enc : α → AV} {ok : α → Prop} (h : ∀ cs, Is e cs → ∃ x, e.elem cs = enc x ∧ ok x) {cs : List AV} (hc : Is (.slice s e) cs) : ∃ xs : List α, cs = [.ro s (xs.map enc)] ∧ xs.length ≤ maxLen ∧ ∀ x ∈ xs, ok x := by
  cases hc with | slice h1 hl =>
  obtain ⟨xs, h3, h4, h5⟩ := rowsOf h h1
  exact ⟨xs, by rw [h3], by omega, h5⟩
theorem isIv (cs : List AV) (h : Is (.int .i64) cs) : ∃ x : Int, (Shp.int .i64).elem cs = iv x ∧ True := by cases h; exact ⟨_, rfl, trivial⟩
theorem isBv (cs : List AV) (h : Is .bool cs) : ∃ x : Bool, Shp.bool.elem cs = bv x ∧ True := by cases h; exact ⟨_, rfl, trivial⟩
def shS : Shp := .struct [.str, .int .i64]
def shI : Shp := .struct [.int .i64, .int .i64, .slice 1 (.int .i64)]
def shB : Shp := .struct [.bool, .slice 2 shS, .str]
def shT : Shp := .struct [.slice 1 .bool, .slice 1 .bool]
def shD : Shp := .struct [shT, .slice 3 shI, .slice 3 shB]
theorem isS (cs : List AV) (h : Is shS cs) : ∃ x : Slt, shS.elem cs = slt x ∧ x.ok := by
  cases h with | struct h =>
  cases h with | cons h1 h =>
  cases h with | cons h2 h =>
  cases h
  cases h1; cases h2
  exact ⟨⟨_, _⟩, rfl, by assumption⟩
theorem isI (cs : List AV) (h : Is shI cs) : ∃ x : Ino, shI.elem cs = ino x ∧ x.ok := by
  cases h with | struct h =>
  cases h with | cons h1 h =>
  cases h with | cons h2 h =>
  cases h with | cons h3 h =>
  cases h
  cases h1; cases h2
  obtain ⟨xs, rfl, h4, _⟩ := isSl isIv h3
  exact ⟨⟨_, _, xs⟩, rfl, h4⟩
theorem isB (cs : List AV) (h : Is shB cs) : ∃ x : Blk, shB.elem cs = blk x ∧ x.ok := by
  cases h with | struct h =>
  cases h with | cons h1 h =>
  cases h with | cons h2 h =>
  cases h with | cons h3 h =>
  cases h
  cases h1; cases h3
  obtain ⟨xs, rfl, h4, h5⟩ := isSl isS h2
  exact ⟨⟨_, xs, _⟩, rfl, h4, by assumption, h5⟩
theorem isT (cs : List AV) (h : Is shT cs) : ∃ a b : List Bool, cs = [.ro 1 (a.map bv), .ro 1 (b.map bv)] ∧ a.length ≤ maxLen ∧ b.length ≤ maxLen := by
  cases h with | struct h =>
  cases h with | cons h1 h =>
  cases h with | cons h2 h =>
  cases h
  obtain ⟨a, rfl, a1, _⟩ := isSl isBv h1
  obtain ⟨b, rfl, b1, _⟩ := isSl isBv h2
  exact ⟨a, b, rfl, a1, b1⟩
theorem isDc (cs : List AV) (h : Is shD cs) : ∃ x : Dsk, .agg cs = dsk x ∧ x.ok := by
  cases h with | struct h =>
  cases h with | cons h1 h =>
  cases h with | cons h2 h =>
  cases h with | cons h3 h =>
  cases h
  obtain ⟨a, b, rfl, a1, b1⟩ := isT _ h1
  obtain ⟨c, rfl, c1, c2⟩ := isSl isI h2
  obtain ⟨d, rfl, d1, d2⟩ := isSl isB h3
  exact ⟨⟨a, b, c, d⟩, rfl, ⟨a1, b1, c1, d1, c2, d2⟩⟩
theorem isD {av : AV} (h : IsA shD av) : ∃ x : Dsk, av = dsk x ∧ x.ok := by
  obtain ⟨cs, h, rfl⟩ := h
  exact isDc cs h
end Go.Proofs.YtaaajjinpppgeaaGreat
namespace Go.Proofs.YtaaajjinpppgeaaGreat
end Go.Proofs.YtaaajjinpppgeaaGreat
namespace Go.Proofs.YtaaajjinpppgeaaGreat
open Go Go.Abs
set_option maxRecDepth 100000
def H20_6 : List Vw := [.opn 3 none none 1 1, .opn 3 none none 2 3, .tidy [1, 2, 3, 4, 5] [(1, none), (2, none), (3, none), (4, none), (5, none), (3, some 1), (3, some 2)]]
theorem h20_6 (b : Nat) (s : St) : vwL b H20_6 s = vwL b [.opn 3 none none 1 1, .opn 3 none none 2 3, .tidy [1, 2, 3, 4, 5] [(1, none), (2, none), (3, none), (4, none), (5, none), (3, some 1), (3, some 2)]] s := rfl
def L20_6 : EC := (.seq (.seq (.region [(.op .mv [(.tmp 5)] (some 16) true),(.op (.faddr 2) [(.tmp 3)] (some 17) true),(.op .load1 [(.tmp 17)] (some 18) true),(.op .len [(.tmp 18)] (some 19) true),(.op (.bin .leq) [(.tmp 16),(.tmp 19)] (some 20) true)] false) (.cond (.tmp 20) .skip (.exit 0))) (.seq (.block 1 (.seq (.region [(.op (.faddr 0) [(.tmp 3)] (some 23) false),(.op (.faddr 1) [(.tmp 23)] (some 24) false),(.op .load1 [(.tmp 24)] (some 25) false),(.op .mv [(.tmp 5)] (some 26) false),(.op (.bin .sub) [(.tmp 26),(.const (.int .i64 1))] (some 27) false),(.op .mv [(.tmp 4)] (some 28) false),(.op .mv [(.tmp 5)] (some 29) false),(.pc (.const (.fn 77 [])) [(.tmp 28),(.tmp 29)] (some 30) false),(.op (.iaddr 1) [(.tmp 25),(.tmp 27)] (some 31) true),(.op .store1 [(.tmp 31),(.tmp 30)] none true)] true) (.seq (.region [(.op .mv [(.tmp 4)] (some 32) true),(.op .mv [(.tmp 5)] (some 33) true),(.pc (.const (.fn 77 [])) [(.tmp 32),(.tmp 33)] (some 34) true),(.op .not [(.tmp 34)] (some 35) true)] false) (.cond (.tmp 35) (.region [(.op (.faddr 2) [(.tmp 3)] (some 36) false),(.op .load1 [(.tmp 36)] (some 37) false),(.op .mv [(.tmp 5)] (some 38) false),(.op (.bin .sub) [(.tmp 38),(.const (.int .i64 1))] (some 39) false),(.pc (.const (.fn 55 [])) [(.const (.int .i64 0))] (some 40) false),(.op (.iaddr 3) [(.tmp 37),(.tmp 39)] (some 41) true),(.op (.storeN 3) [(.tmp 41),(.tmp 40)] none true)] true) (.seq (.region [(.op .mv [(.tmp 5)] (some 42) true),(.op (.bin .eql) [(.tmp 42),(.const (.int .i64 1))] (some 43) true)] false) (.cond (.tmp 43) (.region [(.op (.faddr 2) [(.tmp 3)] (some 44) true),(.op .load1 [(.tmp 44)] (some 45) true),(.op (.iaddr 3) [(.tmp 45),(.const (.int .i64 0))] (some 46) true),(.op (.faddr 1) [(.tmp 46)] (some 47) true),(.op .store1 [(.tmp 47),(.const (.int .i64 1))] none true)] false) (.region [(.op (.faddr 2) [(.tmp 3)] (some 48) false),(.op .load1 [(.tmp 48)] (some 49) false),(.op .mv [(.tmp 5)] (some 50) false),(.op (.bin .sub) [(.tmp 50),(.const (.int .i64 1))] (some 51) false),(.op (.loadN 4) [(.tmp 1)] (some 52) false),(.op .mv [(.tmp 5)] (some 53) false),(.pc (.const (.fn 78 [])) [(.tmp 52),(.tmp 53)] (some 54) false),(.op (.iaddr 3) [(.tmp 49),(.tmp 51)] (some 55) true),(.op (.faddr 1) [(.tmp 55)] (some 56) true),(.op .store1 [(.tmp 56),(.tmp 54)] none true)] true))))))) (.region [(.op .mv [(.tmp 5)] (some 21) true),(.op (.bin .add) [(.tmp 21),(.const (.int .i64 1))] (some 22) true),(.op .mv [(.tmp 22)] (some 5) true)] false)))
def H20_17 : List Vw := [.opn 3 none none 0 1, .tidy [2, 3, 6, 7] [(2, none), (3, none), (6, none), (7, none), (3, some 0)]]
theorem h20_17 (b : Nat) (s : St) : vwL b H20_17 s = vwL b [.opn 3 none none 0 1, .tidy [2, 3, 6, 7] [(2, none), (3, none), (6, none), (7, none), (3, some 0)]] s := rfl
def L20_17 : EC := (.seq (.seq (.region [(.op .mv [(.tmp 7)] (some 59) true),(.op (.faddr 0) [(.tmp 3)] (some 60) true),(.op (.faddr 0) [(.tmp 60)] (some 61) true),(.op .load1 [(.tmp 61)] (some 62) true),(.op .len [(.tmp 62)] (some 63) true),(.op (.bin .leq) [(.tmp 59),(.tmp 63)] (some 64) true)] false) (.cond (.tmp 64) .skip (.exit 2))) (.seq (.block 3 (.region [(.op (.faddr 0) [(.tmp 3)] (some 67) false),(.op (.faddr 0) [(.tmp 67)] (some 68) false),(.op .load1 [(.tmp 68)] (some 69) false),(.op .mv [(.tmp 7)] (some 70) false),(.op (.bin .sub) [(.tmp 70),(.const (.int .i64 1))] (some 71) false),(.op .mv [(.tmp 6)] (some 72) false),(.op .mv [(.tmp 7)] (some 73) false),(.pc (.const (.fn 77 [])) [(.tmp 72),(.tmp 73)] (some 74) false),(.op (.iaddr 1) [(.tmp 69),(.tmp 71)] (some 75) true),(.op .store1 [(.tmp 75),(.tmp 74)] none true)] true)) (.region [(.op .mv [(.tmp 7)] (some 65) true),(.op (.bin .add) [(.tmp 65),(.const (.int .i64 1))] (some 66) true),(.op .mv [(.tmp 66)] (some 7) true)] false)))
def F20 : EF := ⟨(.seq (.region [(.op (.box 4) [(.tmp 0)] (some 1) true),(.op (.alloc (.agg [.nil,.nil,.nil,.nil])) [] (some 2) true)] false) (.seq (.region [(.op (.loadN 4) [(.tmp 1)] (some 8) true),(.pc (.const (.fn 74 [])) [(.tmp 8)] (some 9) true),(.op (.alloc (.agg [.nil,.nil,.nil,.nil])) [] (some 3) true),(.op (.storeN 4) [(.tmp 3),(.tmp 9)] none true)] false) (.seq (.seq (.region [(.op (.loadN 4) [(.tmp 1)] (some 10) true),(.pc (.const (.fn 75 [])) [(.tmp 10)] (some 11) true),(.op .not [(.tmp 11)] (some 12) true)] false) (.cond (.tmp 12) (.seq (.region [(.op (.loadN 4) [(.tmp 3)] (some 13) true),(.op (.storeN 4) [(.tmp 2),(.tmp 13)] none true)] false) .ret) .skip)) (.seq (.region [(.op (.loadN 4) [(.tmp 1)] (some 14) true),(.pc (.const (.fn 76 [])) [(.tmp 14)] (some 15) true),(.op .mv [(.tmp 15)] (some 4) true)] false) (.seq (.seq (.region [(.op .mv [(.const (.int .i64 1))] (some 5) true)] false) (.block 0 (.loop H20_6 L20_6))) (.seq (.region [(.op (.loadN 4) [(.tmp 1)] (some 57) true),(.pc (.const (.fn 79 [])) [(.tmp 57)] (some 58) true),(.op .mv [(.tmp 58)] (some 6) true)] false) (.seq (.seq (.region [(.op .mv [(.const (.int .i64 1))] (some 7) true)] false) (.block 2 (.loop H20_17 L20_17))) (.seq (.view [.opn 3 none none 0 1,.opn 3 none none 1 1,.opn 3 none none 2 3,.opn 3 none none 3 3] (.region [(.op (.loadN 4) [(.tmp 3)] (some 76) true),(.op (.storeN 4) [(.tmp 2),(.tmp 76)] none true)] false)) .ret)))))))),[(.cell 2 (.loadN 4))],77,.one,none⟩
theorem t20 : T 20 = some F20 := tab Tryz.func20 (by kernel_rfl) rfl
def H22_6 : List Vw := [.opn 3 none none 2 3, .tidy [1, 2, 3, 4, 5] [(1, none), (2, none), (3, none), (4, none), (5, none), (3, some 2)]]
theorem h22_6 (b : Nat) (s : St) : vwL b H22_6 s = vwL b [.opn 3 none none 2 3, .tidy [1, 2, 3, 4, 5] [(1, none), (2, none), (3, none), (4, none), (5, none), (3, some 2)]] s := rfl
def L22_6 : EC := (.seq (.seq (.region [(.op .mv [(.tmp 5)] (some 14) true),(.op (.bin .leq) [(.tmp 14),(.const (.int .i64 8))] (some 15) true)] false) (.cond (.tmp 15) .skip (.exit 0))) (.seq (.block 1 (.block 2 (.seq (.region [(.op .mv [(.tmp 4)] (some 28) true),(.op .mv [(.tmp 5)] (some 29) true),(.pc (.const (.fn 86 [])) [(.tmp 28),(.tmp 29)] (some 30) true),(.op .not [(.tmp 30)] (some 31) true),(.op .mv [(.tmp 31)] (some 27) true)] false) (.cond (.tmp 27) (.region [(.op (.faddr 2) [(.tmp 3)] (some 32) false),(.op .load1 [(.tmp 32)] (some 33) false),(.op .mv [(.tmp 5)] (some 34) false),(.op (.bin .sub) [(.tmp 34),(.const (.int .i64 1))] (some 35) false),(.pc (.const (.fn 87 [])) [(.const (.int .i64 0))] (some 36) false),(.op (.iaddr 3) [(.tmp 33),(.tmp 35)] (some 37) true),(.op (.storeN 3) [(.tmp 37),(.tmp 36)] none true)] true) (.seq (.region [(.op .mv [(.tmp 5)] (some 39) true),(.op (.bin .eql) [(.tmp 39),(.const (.int .i64 1))] (some 40) true),(.op .mv [(.tmp 40)] (some 38) true)] false) (.cond (.tmp 38) (.region [(.op (.faddr 2) [(.tmp 3)] (some 41) true),(.op .load1 [(.tmp 41)] (some 42) true),(.op .mv [(.tmp 5)] (some 43) true),(.op (.bin .sub) [(.tmp 43),(.const (.int .i64 1))] (some 44) true),(.op (.iaddr 3) [(.tmp 42),(.tmp 44)] (some 45) true),(.op (.faddr 1) [(.tmp 45)] (some 46) true),(.op .store1 [(.tmp 46),(.const (.int .i64 1))] none true)] false) (.region [(.op (.faddr 2) [(.tmp 3)] (some 18) false),(.op .load1 [(.tmp 18)] (some 19) false),(.op .mv [(.tmp 5)] (some 20) false),(.op (.bin .sub) [(.tmp 20),(.const (.int .i64 1))] (some 21) false),(.op (.loadN 4) [(.tmp 1)] (some 22) false),(.op .mv [(.tmp 5)] (some 23) false),(.pc (.const (.fn 88 [])) [(.tmp 22),(.tmp 23)] (some 24) false),(.op (.iaddr 3) [(.tmp 19),(.tmp 21)] (some 25) true),(.op (.faddr 1) [(.tmp 25)] (some 26) true),(.op .store1 [(.tmp 26),(.tmp 24)] none true)] true))))))) (.region [(.op .mv [(.tmp 5)] (some 16) true),(.op (.bin .add) [(.tmp 16),(.const (.int .i64 1))] (some 17) true),(.op .mv [(.tmp 17)] (some 5) true)] false)))
def F22 : EF := ⟨(.seq (.region [(.op (.box 4) [(.tmp 0)] (some 1) true),(.op (.alloc (.agg [.nil,.nil,.nil,.nil])) [] (some 2) true)] false) (.seq (.region [(.op (.loadN 4) [(.tmp 1)] (some 6) true),(.pc (.const (.fn 83 [])) [(.tmp 6)] (some 7) true),(.op (.alloc (.agg [.nil,.nil,.nil,.nil])) [] (some 3) true),(.op (.storeN 4) [(.tmp 3),(.tmp 7)] none true)] false) (.seq (.seq (.region [(.op (.loadN 4) [(.tmp 1)] (some 8) true),(.pc (.const (.fn 84 [])) [(.tmp 8)] (some 9) true),(.op .not [(.tmp 9)] (some 10) true)] false) (.cond (.tmp 10) (.seq (.region [(.op (.loadN 4) [(.tmp 3)] (some 11) true),(.op (.storeN 4) [(.tmp 2),(.tmp 11)] none true)] false) .ret) .skip)) (.seq (.region [(.op (.loadN 4) [(.tmp 1)] (some 12) true),(.pc (.const (.fn 85 [])) [(.tmp 12)] (some 13) true),(.op .mv [(.tmp 13)] (some 4) true)] false) (.seq (.seq (.region [(.op .mv [(.const (.int .i64 1))] (some 5) true)] false) (.block 0 (.loop H22_6 L22_6))) (.seq (.region [(.op (.loadN 4) [(.tmp 1)] (some 47) true),(.pc (.const (.fn 89 [])) [(.tmp 47)] (some 48) true),(.op (.faddr 0) [(.tmp 3)] (some 49) true),(.op (.storeN 2) [(.tmp 49),(.tmp 48)] none true)] false) (.seq (.view [.opn 3 none none 0 1,.opn 3 none none 1 1,.opn 3 none none 2 3,.opn 3 none none 3 3] (.region [(.op (.loadN 4) [(.tmp 3)] (some 50) true),(.op (.storeN 4) [(.tmp 2),(.tmp 50)] none true)] false)) .ret))))))),[(.cell 2 (.loadN 4))],51,.one,none⟩
theorem t22 : T 22 = some F22 := tab Tryz.func22 (by kernel_rfl) rfl
end Go.Proofs.YtaaajjinpppgeaaGreat
namespace Go.Proofs.YtaaajjinpppgeaaGreat
open Go Go.Abs
set_option maxRecDepth 100000
noncomputable def mrIno (x : Dsk) (k : Nat) (p : Ino) : Ino :=
  if decide ((k : Int) + 1 ∈ reachL x) then (if decide ((k : Int) + 1 = 1) then { p with links := 1 } else { p with links := linksOf x ((k : Int) + 1) }) else ⟨0, 0, [0, 0]⟩
noncomputable def stI (x : Dsk) (Q : List Ino) (k : Nat) : List Ino := match Q[k]? with | some p => Q.set k (mrIno x k p) | none => Q
noncomputable def stT (x : Dsk) (B : List Bool) (k : Nat) : List Bool := B.set k (decide ((k : Int) + 1 ∈ reachL x))
noncomputable def stU (x : Dsk) (B : List Bool) (k : Nat) : List Bool := B.set k (decide ((k : Int) + 1 ∈ hadR x))
theorem stI_len (x : Dsk) (Q : List Ino) (k : Nat) : (stI x Q k).length = Q.length := by unfold stI; split <;> simp
theorem stT_len (x : Dsk) (B : List Bool) (k : Nat) : (stT x B k).length = B.length := by simp [stT]
theorem stU_len (x : Dsk) (B : List Bool) (k : Nat) : (stU x B k).length = B.length := by simp [stU]
def boxR (x : Dsk) (T : List Bool) (Q : List Ino) (R : List Int) : Mem :=
  [some (4, [dskC x]), some (4, [.agg [.nil, .nil, .nil, .nil]]), some (4, [.agg [.own 1 (x.used.map bv), .sl 4 0 8, .sl 5 0 8, .own 3 (x.blks.map blkO)]]), some (1, R.map iv), some (1, T.map bv), some (3, Q.map inoO)]
theorem lp20 (x : Dsk) (h : x.sm) (ht : tot x ≤ 1048576) (h8 : x.inos.length = 8) (hta : x.taken.length = 8) :
    ∃ r, XL T 0 H20_6 L20_6 ⟨[(1, .ptr 0 0 0), (2, .ptr 1 0 0), (3, .ptr 2 0 0), (4, .sl 3 0 (reachL x).length), (5, .int .i64 1)], boxR x x.taken x.inos (reachL x)⟩ = some r ∧
      r.1 = .exit 0 ∧ lookA r.2.env 1 = .ptr 0 0 0 ∧ lookA r.2.env 2 = .ptr 1 0 0 ∧ lookA r.2.env 3 = .ptr 2 0 0 ∧
        r.2.mem = boxR x ((List.range 8).foldl (fun s k => (stT x s.1 k, stI x s.2 k)) (x.taken, x.inos)).1 ((List.range 8).foldl (fun s k => (stT x s.1 k, stI x s.2 k)) (x.taken, x.inos)).2 (reachL x) := by
  refine XL_each (List.range 8) (fun (s : List Bool × List Ino) k => (stT x s.1 k, stI x s.2 k)) (fun k s => ⟨[(1, .ptr 0 0 0), (2, .ptr 1 0 0), (3, .ptr 2 0 0), (4, .sl 3 0 (reachL x).length), (5, .int .i64 (((k : Nat) : Int) + 1))], boxR x s.1 s.2 (reachL x)⟩) (fun k s => s.1.length = 8 ∧ s.2.length = 8)
    (fun s r => r.1 = .exit 0 ∧ lookA r.2.env 1 = .ptr 0 0 0 ∧ lookA r.2.env 2 = .ptr 1 0 0 ∧ lookA r.2.env 3 = .ptr 2 0 0 ∧ r.2.mem = boxR x s.1 s.2 (reachL x)) ?step ?last (x.taken, x.inos) ⟨hta, h8⟩
  case step =>
    rintro i ⟨B, Q⟩ k hk hi ⟨hT, hQ⟩
    obtain ⟨rfl, hi⟩ := rangeAt hk
    simp only at hT hQ
    refine ⟨?_, by rw [stT_len]; exact hT, by rw [stI_len]; exact hQ⟩
    obtain ⟨p, hp⟩ := get_at (show k < Q.length by omega)
    obtain ⟨b, hb⟩ := get_at (show k < B.length by omega)
    have gp : (Q.map inoO).getD k .undef = .agg [.int .i64 p.kind, .int .i64 p.links, .own 1 (p.ptrs.map iv)] := gD_map hp
    have gb : (B.map bv).getD k .undef = .bool b := gD_map hb
    have a1 : (k : Int) + 1 - 1 = k := by omega
    have w1 := w_i64 (k : Int) (by omega)
    have w2 := w_i64 ((k : Int) + 1 + 1) (by omega)
    have b1 : (k : Int) + 1 ≤ 8 := by omega
    have b2 : (k : Int) < 8 := by omega
    have hRl : (reachL x).length ≤ maxLen := by have := reachL_len x; unfold maxLen; omega
    have e1 := e77 (reachL x) ((k : Int) + 1) hRl
    have e2 := e78 x h ht ((k : Int) + 1)
    have e3 := e55
    unfold dsk at e2
    have hset : ∀ b : Bool, (B.map bv).set k (.bool b) = (B.set k b).map bv := fun b => by rw [List.map_set]; rfl
    have hsl : ∀ b : Bool, (B.set k b).length = 8 := fun b => by simp [hT]
    have hI : stI x Q k = Q.set k (mrIno x k p) := by unfold stI; rw [hp]
    simp only [hI]
    unfold stT boxR dskC mrIno
    cases hR : decide ((k : Int) + 1 ∈ reachL x) with
    | false =>
      rw [hR] at e1
      have hq : (Q.map inoO).set k (.agg [.int .i64 0, .int .i64 0, .own 1 [.int .i64 0, .int .i64 0]]) = (Q.set k ⟨0, 0, [0, 0]⟩).map inoO := by rw [List.map_set]; rfl
      simp only [XG, L20_6, h20_6, go_sem, seval, bnd_ite, hT, hQ, hi, a1, w1, w2, b1, b2, e1, e3, gp, gb, hset, hsl, hq, is_set, List.length_map, Int.natCast_nonneg, decide_true, if_true, Bool.not_false, Bool.false_eq_true, if_false]
      first | done | rfl
    | true =>
      rw [hR] at e1
      cases h1 : decide ((k : Int) + 1 = 1) with
      | true =>
        have k0 : k = 0 := by have := of_decide_eq_true h1; omega
        have gp0 : (Q.map inoO).getD 0 .undef = .agg [.int .i64 p.kind, .int .i64 p.links, .own 1 (p.ptrs.map iv)] := by have := gp; rwa [k0] at this
        have hq : ∀ v : Int, (Q.map inoO).set 0 (.agg [.int .i64 p.kind, .int .i64 v, .own 1 (p.ptrs.map iv)]) = (Q.set k { p with links := v }).map inoO := fun v => by rw [k0, List.map_set]; rfl
        simp only [XG, L20_6, h20_6, go_sem, seval, bnd_ite, hT, hQ, hi, h1, a1, w1, w2, b1, b2, e1, gp0, gb, hset, hsl, hq, is_set, List.length_map, Int.natCast_nonneg, decide_true, if_true, Bool.not_true, Bool.false_eq_true, if_false]
        first | done | rfl
      | false =>
        have hq : ∀ v : Int, (Q.map inoO).set k (.agg [.int .i64 p.kind, .int .i64 v, .own 1 (p.ptrs.map iv)]) = (Q.set k { p with links := v }).map inoO := fun v => by rw [List.map_set]; rfl
        simp only [XG, L20_6, h20_6, go_sem, seval, bnd_ite, hT, hQ, hi, h1, a1, w1, w2, b1, b2, e1, e2, gp, gb, hset, hsl, hq, is_set, List.length_map, Int.natCast_nonneg, decide_true, if_true, Bool.not_true, Bool.false_eq_true, if_false]
        first | done | rfl
  case last =>
    rintro ⟨B, Q⟩ ⟨hT, hQ⟩
    simp only at hT hQ
    have k1 : ¬ (9 : Int) ≤ 8 := by omega
    have k2 : ¬ ((8 : Nat) : Int) + 1 ≤ ((8 : Nat) : Int) := by omega
    have k3 : ¬ (8 : Int) + 1 ≤ 8 := by omega
    unfold boxR dskC
    simp only [XG, L20_6, h20_6, go_sem, seval, bnd_ite, List.length_range, hQ, k1, k2, k3, decide_false]
    exact .mk (by simp) ⟨rfl, rfl, rfl, rfl, rfl⟩
theorem lq20 (x : Dsk) (hu : x.used.length = 16) (H : List Int) (hHl : H.length ≤ 1048576) (f : List Bool → Nat → List Bool) (hf : ∀ B k, f B k = B.set k (decide ((k : Int) + 1 ∈ H))) (B1 : List Bool) (Q1 : List Ino) :
    ∃ r, XL T 0 H20_17 L20_17 ⟨[(2, .ptr 0 0 0), (3, .ptr 1 0 0), (6, .sl 2 0 H.length), (7, .int .i64 1)], [some (4, [.agg [.nil, .nil, .nil, .nil]]), some (4, [.agg [.sl 3 0 16, .own 1 (B1.map bv), .own 3 (Q1.map inoO), .own 3 (x.blks.map blkO)]]), some (1, H.map iv), some (1, x.used.map bv)]⟩ = some r ∧
      r.1 = .exit 2 ∧ lookA r.2.env 2 = .ptr 0 0 0 ∧ lookA r.2.env 3 = .ptr 1 0 0 ∧
        r.2.mem = [some (4, [.agg [.nil, .nil, .nil, .nil]]), some (4, [.agg [.sl 3 0 16, .own 1 (B1.map bv), .own 3 (Q1.map inoO), .own 3 (x.blks.map blkO)]]), some (1, H.map iv), some (1, ((List.range 16).foldl f x.used).map bv)] := by
  refine XL_each (List.range 16) f (fun k B => ⟨[(2, .ptr 0 0 0), (3, .ptr 1 0 0), (6, .sl 2 0 H.length), (7, .int .i64 (((k : Nat) : Int) + 1))], [some (4, [.agg [.nil, .nil, .nil, .nil]]), some (4, [.agg [.sl 3 0 16, .own 1 (B1.map bv), .own 3 (Q1.map inoO), .own 3 (x.blks.map blkO)]]), some (1, H.map iv), some (1, B.map bv)]⟩) (fun k B => B.length = 16)
    (fun B r => r.1 = .exit 2 ∧ lookA r.2.env 2 = .ptr 0 0 0 ∧ lookA r.2.env 3 = .ptr 1 0 0 ∧ r.2.mem = [some (4, [.agg [.nil, .nil, .nil, .nil]]), some (4, [.agg [.sl 3 0 16, .own 1 (B1.map bv), .own 3 (Q1.map inoO), .own 3 (x.blks.map blkO)]]), some (1, H.map iv), some (1, B.map bv)]) ?step ?last x.used hu
  case step =>
    rintro i B k hk hi hT
    obtain ⟨rfl, hi⟩ := rangeAt hk
    refine ⟨?_, by rw [hf]; simpa using hT⟩
    obtain ⟨b, hb⟩ := get_at (show k < B.length by omega)
    have gb : (B.map bv).getD k .undef = .bool b := gD_map hb
    have a1 : (k : Int) + 1 - 1 = k := by omega
    have w1 := w_i64 (k : Int) (by omega)
    have w2 := w_i64 ((k : Int) + 1 + 1) (by omega)
    have b1 : (k : Int) + 1 ≤ 16 := by omega
    have b2 : (k : Int) < 16 := by omega
    have e1 := e77 H ((k : Int) + 1) (by unfold maxLen; omega)
    rw [hf]
    generalize decide ((k : Int) + 1 ∈ H) = z at *
    have hset : (B.map bv).set k (.bool z) = (B.set k z).map bv := by rw [List.map_set]; rfl
    simp only [XG, L20_17, h20_17, go_sem, seval, bnd_ite, hT, hi, a1, w1, w2, b1, b2, e1, gb, hset, Int.natCast_nonneg, decide_true, if_true]
    first | done | rfl
  case last =>
    intro B hT
    have k1 : ¬ (17 : Int) ≤ 16 := by omega
    have k3 : ¬ (16 : Int) + 1 ≤ 16 := by omega
    have k2 : ¬ ((16 : Nat) : Int) + 1 ≤ 16 := by omega
    simp only [XG, L20_17, h20_17, go_sem, seval, bnd_ite, List.length_range, hT, k1, k2, k3, decide_false]
    exact .mk (by simp) ⟨rfl, rfl, rfl, rfl⟩
theorem fold_pair {α β γ : Type} (f : α → γ → α) (g : β → γ → β) (l : List γ) : ∀ a b, l.foldl (fun (s : α × β) k => (f s.1 k, g s.2 k)) (a, b) = (l.foldl f a, l.foldl g b) := by
  induction l with
  | nil => intro a b; rfl
  | cons c l ih => intro a b; exact ih _ _
noncomputable def mendR (x : Dsk) : Dsk :=
  if dskOk x then { x with used := (List.range 16).foldl (stU x) x.used, taken := (List.range 8).foldl (stT x) x.taken, inos := (List.range 8).foldl (stI x) x.inos } else x
theorem fold_lenR {α : Type} (f : List α → Nat → List α) (hf : ∀ a k, (f a k).length = a.length) (l : List Nat) : ∀ a, (l.foldl f a).length = a.length := by
  induction l with
  | nil => intro a; rfl
  | cons c l ih => intro a; rw [List.foldl_cons, ih, hf]
theorem dsk_lens {x : Dsk} (hd : dskOk x = true) : x.used.length = 16 ∧ x.taken.length = 8 ∧ x.inos.length = 8 ∧ x.blks.length = 16 := by
  unfold dskOk at hd; simp only [Bool.and_eq_true, decide_eq_true_eq] at hd; exact ⟨hd.2.2.1.1.1, hd.2.2.1.1.2, hd.2.2.1.2, hd.2.2.2⟩
theorem tkG {α : Type} {f : α → AV} {l : List α} {n : Nat} (h : l.length = n) : (l.map f).take n = l.map f := List.take_of_length_le (by rw [List.length_map, h]; exact Nat.le_refl _)
theorem e20 (x : Dsk) (hk : x.ok) (h : x.sm) (ht : tot x ≤ 1048576) : E T 20 [dsk x] [] = some (dskO (mendR x), []) := by
  rw [E_eq t20 (Nat.le_of_ble_eq_true rfl)]
  have e1 := e74 x h
  have e2 := e75 x hk
  have e3 := e76 x h
  have e4 := e79 x h ht
  have hHl := hadR_len ht
  unfold mendR
  cases hd : dskOk x with
  | false =>
    rw [hd] at e2
    rw [if_neg (by simp)]
    simp only [dsk, dskO] at e1 e2 ⊢
    simp only [F20, go_sem, seval, bnd_ite, e1, e2, tkG, Bool.not_false, if_true]
    first | done | rfl
  | true =>
    rw [hd] at e2
    rw [if_pos rfl]
    obtain ⟨n1, n2, n3, n4⟩ := dsk_lens hd
    obtain ⟨⟨y, e, m⟩, q1, qx, q2, q3, q4, qm⟩ := lp20 x h ht n3 n2
    simp only at qx q2 q3 q4 qm; subst qx; subst qm
    rw [fold_pair] at q1
    have l8 : ((List.range 8).foldl (stT x) x.taken).length = 8 := by rw [fold_lenR _ (stT_len x)]; exact n2
    have lI : ((List.range 8).foldl (stI x) x.inos).length = 8 := by rw [fold_lenR _ (stI_len x)]; exact n3
    have lU : ((List.range 16).foldl (stU x) x.used).length = 16 := by rw [fold_lenR _ (stU_len x)]; exact n1
    obtain ⟨⟨y', e', m'⟩, s1, sx, s2, s3, sm⟩ := lq20 x n1 (hadR x) hHl (stU x) (fun _ _ => rfl) ((List.range 8).foldl (stT x) x.taken) ((List.range 8).foldl (stI x) x.inos)
    simp only at sx s2 s3 sm; subst sx; subst sm
    simp only at q1
    generalize (List.range 8).foldl (stT x) x.taken = B1 at *
    generalize (List.range 8).foldl (stI x) x.inos = Q1 at *
    generalize (List.range 16).foldl (stU x) x.used = U1 at *
    generalize hadR x = H at *
    generalize reachL x = R at *
    unfold boxR dskC at q1
    simp only [dsk, dskO] at e1 e2 e3 e4 ⊢
    simp only [F20, h20_6, h20_17, boxR, dskC, go_sem, seval, bnd_ite, e1, e2, e3, e4, n1, n2, n3, n4, q1, q2, q3, q4, s1, s2, s3, l8, lI, lU, tkG, Bool.not_true, Bool.false_eq_true, if_false]
    first | done | rfl
def boxP (x : Dsk) (Q : List Ino) (R : List Int) : Mem :=
  [some (4, [dskC x]), some (4, [.agg [.nil, .nil, .nil, .nil]]), some (4, [.agg [.own 1 (x.used.map bv), .own 1 (x.taken.map bv), .sl 4 0 8, .own 3 (x.blks.map blkO)]]), some (1, R.map iv), some (3, Q.map inoO)]
theorem lp22 (x : Dsk) (h : x.sm) (ht : tot x ≤ 1048576) (h8 : x.inos.length = 8) :
    ∃ r, XL T 0 H22_6 L22_6 ⟨[(1, .ptr 0 0 0), (2, .ptr 1 0 0), (3, .ptr 2 0 0), (4, .sl 3 0 (reachL x).length), (5, .int .i64 1)], boxP x x.inos (reachL x)⟩ = some r ∧
      r.1 = .exit 0 ∧ lookA r.2.env 1 = .ptr 0 0 0 ∧ lookA r.2.env 2 = .ptr 1 0 0 ∧ lookA r.2.env 3 = .ptr 2 0 0 ∧ r.2.mem = boxP x ((List.range 8).foldl (stI x) x.inos) (reachL x) := by
  refine XL_each (List.range 8) (stI x) (fun k Q => ⟨[(1, .ptr 0 0 0), (2, .ptr 1 0 0), (3, .ptr 2 0 0), (4, .sl 3 0 (reachL x).length), (5, .int .i64 (((k : Nat) : Int) + 1))], boxP x Q (reachL x)⟩) (fun k Q => Q.length = 8)
    (fun Q r => r.1 = .exit 0 ∧ lookA r.2.env 1 = .ptr 0 0 0 ∧ lookA r.2.env 2 = .ptr 1 0 0 ∧ lookA r.2.env 3 = .ptr 2 0 0 ∧ r.2.mem = boxP x Q (reachL x)) ?step ?last x.inos h8
  case step =>
    intro i Q k hk hi hQ
    obtain ⟨rfl, hi⟩ := rangeAt hk
    refine ⟨?_, by rw [stI_len]; exact hQ⟩
    obtain ⟨p, hp⟩ := get_at (show k < Q.length by omega)
    have gp : (Q.map inoO).getD k .undef = .agg [.int .i64 p.kind, .int .i64 p.links, .own 1 (p.ptrs.map iv)] := gD_map hp
    have a1 : (k : Int) + 1 - 1 = k := by omega
    have w1 := w_i64 (k : Int) (by omega)
    have w2 := w_i64 ((k : Int) + 1 + 1) (by omega)
    have b1 : (k : Int) + 1 ≤ 8 := by omega
    have b2 : (k : Int) < 8 := by omega
    have hRl : (reachL x).length ≤ maxLen := by have := reachL_len x; unfold maxLen; omega
    have e1 := e86 (reachL x) ((k : Int) + 1) hRl
    have e2 := e88 x h ht ((k : Int) + 1)
    have e3 := e87
    unfold dsk at e2
    have hI : stI x Q k = Q.set k (mrIno x k p) := by unfold stI; rw [hp]
    rw [hI]
    unfold boxP dskC mrIno
    cases hR : decide ((k : Int) + 1 ∈ reachL x) with
    | false =>
      rw [hR] at e1
      have hq : (Q.map inoO).set k (.agg [.int .i64 0, .int .i64 0, .own 1 [.int .i64 0, .int .i64 0]]) = (Q.set k ⟨0, 0, [0, 0]⟩).map inoO := by rw [List.map_set]; rfl
      simp only [XG, L22_6, h22_6, go_sem, seval, bnd_ite, hQ, hi, a1, w1, w2, b1, b2, e1, e3, gp, hq, is_set, List.length_map, Int.natCast_nonneg, decide_true, if_true, Bool.not_false, Bool.false_eq_true, if_false]
      first | done | rfl
    | true =>
      rw [hR] at e1
      have hq : ∀ v : Int, (Q.map inoO).set k (.agg [.int .i64 p.kind, .int .i64 v, .own 1 (p.ptrs.map iv)]) = (Q.set k { p with links := v }).map inoO := fun v => by rw [List.map_set]; rfl
      cases h1 : decide ((k : Int) + 1 = 1) with
      | true =>
        simp only [XG, L22_6, h22_6, go_sem, seval, bnd_ite, hQ, hi, h1, a1, w1, w2, b1, b2, e1, gp, hq, is_set, List.length_map, Int.natCast_nonneg, decide_true, if_true, Bool.not_true, Bool.false_eq_true, if_false]
        first | done | rfl
      | false =>
        simp only [XG, L22_6, h22_6, go_sem, seval, bnd_ite, hQ, hi, h1, a1, w1, w2, b1, b2, e1, e2, gp, hq, is_set, List.length_map, Int.natCast_nonneg, decide_true, if_true, Bool.not_true, Bool.false_eq_true, if_false]
        first | done | rfl
  case last =>
    intro Q hQ
    have k1 : decide ((9 : Int) ≤ 8) = false := rfl
    have k2 : decide (((8 : Nat) : Int) + 1 ≤ 8) = false := rfl
    have k3 : decide ((8 : Int) + 1 ≤ 8) = false := rfl
    unfold boxP dskC
    simp only [XG, L22_6, h22_6, go_sem, seval, bnd_ite, List.length_range, hQ, k1, k2, k3]
    exact .mk (by simp) ⟨rfl, rfl, rfl, rfl, rfl⟩
theorem set_fold (P : Nat → Bool) (n : Nat) : ∀ m, m ≤ n → ∀ B : List Bool, B.length = n → ((List.range m).foldl (fun B k => B.set k (P k)) B).length = n ∧ ∀ k, ((List.range m).foldl (fun B k => B.set k (P k)) B).getD k false = if k < m then P k else B.getD k false := by
  intro m
  induction m with
  | zero => intro _ B hB; exact ⟨hB, fun k => by simp⟩
  | succ m ih =>
    intro hm B hB
    obtain ⟨h1, h2⟩ := ih (by omega) B hB
    rw [List.range_succ, List.foldl_append, List.foldl_cons, List.foldl_nil]
    generalize (List.range m).foldl (fun B k => B.set k (P k)) B = C at *
    refine ⟨by simpa using h1, fun k => ?_⟩
    simp only [List.getD_eq_getElem?_getD, List.getElem?_set] at h2 ⊢
    by_cases c : m = k
    · subst c; rw [if_pos rfl, if_pos (by omega), if_pos (by omega)]; rfl
    · rw [if_neg c, h2 k]
      by_cases c2 : k < m
      · rw [if_pos c2, if_pos (by omega)]
      · rw [if_neg c2, if_neg (by omega)]
theorem eq_getD {a b : List Bool} (h : a.length = b.length) (hA : ∀ k, k < a.length → a.getD k false = b.getD k false) : a = b := by
  have := eq_range h
  have h2 : (List.range a.length).all (fun i => a.getD i false == b.getD i false) = true := all_range.2 fun i hi => by rw [hA i hi]; simp
  rw [h2] at this
  exact of_decide_eq_true this
theorem bits_eq {x : Dsk} (hd : dskOk x = true) : (List.range 16).foldl (stU x) x.used = bitsP x ∧ (List.range 8).foldl (stT x) x.taken = bitsI x := by
  obtain ⟨n1, n2, n3, n4⟩ := dsk_lens hd
  have l16 : (bitsP x).length = 16 := by unfold bitsP; rw [setB_fold_len]; simp
  have l8 : (bitsI x).length = 8 := by unfold bitsI; rw [setB_fold_len]; simp
  constructor
  · have hf : stU x = fun B k => B.set k ((fun k : Nat => decide ((k : Int) + 1 ∈ hadR x)) k) := rfl
    obtain ⟨h1, h2⟩ := set_fold (fun k : Nat => decide ((k : Int) + 1 ∈ hadR x)) 16 16 (Nat.le_refl _) x.used n1
    rw [hf]
    refine eq_getD (by rw [h1, l16]) fun k hk => ?_
    rw [h1] at hk
    rw [h2 k, if_pos hk]
    unfold bitsP
    rw [setB_at _ _ (fun i hi => by have := had_in hd i hi; simpa using this) k (by simpa using hk), List.getD_eq_getElem?_getD, List.getElem?_replicate, if_pos hk]; rfl
  · have hf : stT x = fun B k => B.set k ((fun k : Nat => decide ((k : Int) + 1 ∈ reachL x)) k) := rfl
    obtain ⟨h1, h2⟩ := set_fold (fun k : Nat => decide ((k : Int) + 1 ∈ reachL x)) 8 8 (Nat.le_refl _) x.taken n2
    rw [hf]
    refine eq_getD (by rw [h1, l8]) fun k hk => ?_
    rw [h1] at hk
    rw [h2 k, if_pos hk]
    unfold bitsI
    rw [setB_at _ _ (fun i hi => by have := reach_in8 hd i hi; simpa using this) k (by simpa using hk), List.getD_eq_getElem?_getD, List.getElem?_replicate, if_pos hk]; rfl
theorem e22 (x : Dsk) (hk : x.ok) (h : x.sm) (ht : tot x ≤ 1048576) : E T 22 [dsk x] [] = some (dskO (mendR x), []) := by
  rw [E_eq t22 (Nat.le_of_ble_eq_true rfl)]
  have e1 := e83 x h
  have e2 := e84 x hk
  have e3 := e85 x h
  unfold mendR
  cases hd : dskOk x with
  | false =>
    rw [hd] at e2
    rw [if_neg (by simp)]
    simp only [dsk, dskO] at e1 e2 ⊢
    simp only [F22, go_sem, seval, bnd_ite, e1, e2, tkG, Bool.not_false, if_true]
    first | done | rfl
  | true =>
    rw [hd] at e2
    rw [if_pos rfl, (bits_eq hd).1, (bits_eq hd).2]
    have e4 := e89 x h ht hd
    obtain ⟨n1, n2, n3, n4⟩ := dsk_lens hd
    have l16 : (bitsP x).length = 16 := by unfold bitsP; rw [setB_fold_len]; simp
    have l8 : (bitsI x).length = 8 := by unfold bitsI; rw [setB_fold_len]; simp
    obtain ⟨⟨y, e, m⟩, q1, qx, q2, q3, q4, qm⟩ := lp22 x h ht n3
    simp only at qx q2 q3 q4 qm; subst qx; subst qm
    have lI : ((List.range 8).foldl (stI x) x.inos).length = 8 := by rw [fold_lenR _ (stI_len x)]; exact n3
    generalize (List.range 8).foldl (stI x) x.inos = Q1 at *
    generalize bitsP x = BP at *
    generalize bitsI x = BI at *
    generalize reachL x = R at *
    unfold boxP dskC at q1
    simp only [dsk, dskO] at e1 e2 e3 e4 ⊢
    simp only [F22, h22_6, boxP, dskC, go_sem, seval, bnd_ite, e1, e2, e3, e4, n1, n2, n3, n4, q1, q2, q3, q4, l8, l16, lI, tkG, Bool.not_true, Bool.false_eq_true, if_false]
    first | done | rfl
set_option maxRecDepth 100000
theorem stI_all (x : Dsk) (P : Ino → Prop) (hP : ∀ k p, P p → P (mrIno x k p)) (l : List Nat) : ∀ Q : List Ino, (∀ y ∈ Q, P y) → ∀ y ∈ l.foldl (stI x) Q, P y := by
  induction l with
  | nil => intro Q h; exact h
  | cons k l ih =>
    intro Q h
    refine ih _ (fun y hy => ?_)
    unfold stI at hy
    split at hy
    · rename_i p hp
      rcases List.mem_or_eq_of_mem_set hy with hy | rfl
      · exact h y hy
      · exact hP k p (h p (List.mem_of_getElem? hp))
    · exact h y hy
theorem mrIno_ptrs (x : Dsk) (k : Nat) (p : Ino) : (mrIno x k p).ptrs = p.ptrs ∨ (mrIno x k p).ptrs = [0, 0] := by
  unfold mrIno; split
  · split <;> exact .inl rfl
  · exact .inr rfl
theorem mendR_sm {x : Dsk} (h : x.sm) : (mendR x).sm := by
  unfold mendR; split
  · refine ⟨by rw [fold_lenR _ (stU_len x)]; exact h.used, by rw [fold_lenR _ (stT_len x)]; exact h.taken, by rw [fold_lenR _ (stI_len x)]; exact h.inos, h.blks, stI_all x Ino.sm (fun k p hp => ?_) _ _ h.ino, h.blk⟩
    unfold Ino.sm at hp ⊢
    rcases mrIno_ptrs x k p with e | e <;> rw [e]
    · exact hp
    · simp
  · exact h
theorem mendR_ok {x : Dsk} (h : x.ok) : (mendR x).ok := by
  unfold mendR; split
  · refine ⟨by rw [fold_lenR _ (stU_len x)]; exact h.used, by rw [fold_lenR _ (stT_len x)]; exact h.taken, by rw [fold_lenR _ (stI_len x)]; exact h.inos, h.blks, stI_all x Ino.ok (fun k p hp => ?_) _ _ h.ino, h.blk⟩
    unfold Ino.ok at hp ⊢
    rcases mrIno_ptrs x k p with e | e <;> rw [e]
    · exact hp
    · unfold maxLen; simp
  · exact h
end Go.Proofs.YtaaajjinpppgeaaGreat
namespace Go.Proofs.YtaaajjinpppgeaaGreat
open Go Go.Abs
set_option maxRecDepth 100000
noncomputable def mendA (x : Dsk) : Dsk := mendR (mendN (mendP x))
theorem tot_two {x : Dsk} (h8 : x.inos.length = 8) (h : ∀ y ∈ x.inos, y.ptrs.length = 2) : tot x ≤ 1048576 := by
  unfold tot
  have key : ∀ l : List Ino, (∀ y ∈ l, y.ptrs.length = 2) → (l.map fun p => p.ptrs.length).sum = 2 * l.length := by
    intro l
    induction l with
    | nil => intro _; rfl
    | cons y l ih =>
      intro h
      rw [List.map_cons, List.sum_cons, List.length_cons, h y (List.mem_cons_self ..), ih fun z hz => h z (List.mem_cons_of_mem _ hz)]
      omega
  rw [key x.inos h]; omega
theorem mendN_inos (x : Dsk) : (mendN x).inos = x.inos := by unfold mendN; split <;> rfl
theorem tot_NP {x : Dsk} (ht : tot x ≤ 1048576) : tot (mendN (mendP x)) ≤ 1048576 := by
  have e : tot (mendN (mendP x)) = tot (mendP x) := by unfold tot; rw [mendN_inos]
  rw [e]
  unfold mendP
  split
  · rename_i hd
    have hx := dskOk_iff.1 hd
    exact tot_two (by rw [mendPtrs_len]; exact hx.inos) (mendPtrs_two hx)
  · exact ht
theorem mendA_none {x : Dsk} (h : dskOk x = false) : mendA x = x := by
  have e1 : mendP x = x := by unfold mendP; rw [if_neg (by rw [h]; simp)]
  have e2 : mendN x = x := by unfold mendN; rw [if_neg (by rw [h]; simp)]
  have e3 : mendR x = x := by unfold mendR; rw [if_neg (by rw [h]; simp)]
  unfold mendA
  rw [e1, e2, e3]
theorem e26 (x : Dsk) (hk : x.ok) (h : x.sm) (ht : tot x ≤ 1048576) : E TN 26 [dsk x] [] = some (dskO (mendA x), []) := by
  rw [E_eq t26 (Nat.le_of_ble_eq_true rfl)]
  have hPs := mendP_sm h
  have hPk := mendP_ok hk h
  have hNs := mendN_sm hPs
  have hNk := mendN_ok hPk
  have c1 : E TN 100 [dsk x] [] = some (dskO (mendP x), []) := by
    rw [eN rfl t100, e100 x hk h]; unfold mendP; split <;> rfl
  have c2 := e99' (mendP x) hPs hPk
  have c3 : E TN 20 [dsk (mendN (mendP x))] [] = some (dskO (mendR (mendN (mendP x))), []) := by
    rw [eN rfl t20]; exact e20 _ hNk hNs (tot_NP ht)
  unfold mendA
  generalize mendR (mendN (mendP x)) = R at *
  generalize mendN (mendP x) = N at *
  generalize mendP x = P at *
  simp only [dsk, dskO] at c1 c2 c3 ⊢
  simp only [F26, go_sem, seval, bnd_ite, c1, c2, c3, mkB_len, mkL_len, tkG]
  first | done | rfl
theorem e27 (x : Dsk) (hk : x.ok) (h : x.sm) (ht : tot x ≤ 1048576) : E TN 27 [dsk x] [] = some (dskO (mendA x), []) := by
  rw [E_eq t27 (Nat.le_of_ble_eq_true rfl)]
  have hPs := mendP_sm h
  have hPk := mendP_ok hk h
  have hNs := mendN_sm hPs
  have hNk := mendN_ok hPk
  have c0 : E TN 84 [dsk x] [] = some (.bool (dskOk x), []) := by rw [eN rfl t84]; exact e84 x hk
  have c9 : E TN 83 [dsk x] [] = some (dskO x, []) := by rw [eN rfl t83]; exact e83 x h
  have c1 : E TN 102 [dsk x] [] = some (dskO (mendP x), []) := by
    rw [eN rfl t102, e102 x hk h]; unfold mendP; split <;> rfl
  have c2 := e101' (mendP x) hPs hPk
  have c3 : E TN 22 [dsk (mendN (mendP x))] [] = some (dskO (mendR (mendN (mendP x))), []) := by
    rw [eN rfl t22]; exact e22 _ hNk hNs (tot_NP ht)
  have cn := mendA_none (x := x)
  cases hd : dskOk x with
  | false =>
    rw [hd] at c0
    rw [cn hd]
    simp only [dsk, dskO] at c0 c9 ⊢
    simp only [F27, go_sem, seval, bnd_ite, c0, c9, mkB_len, mkL_len, tkG, Bool.not_false, if_true]
    first | done | rfl
  | true =>
    rw [hd] at c0
    unfold mendA
    generalize mendR (mendN (mendP x)) = R at *
    generalize mendN (mendP x) = N at *
    generalize mendP x = P at *
    simp only [dsk, dskO] at c0 c1 c2 c3 ⊢
    simp only [F27, go_sem, seval, bnd_ite, c0, c1, c2, c3, mkB_len, mkL_len, tkG, Bool.not_true, Bool.false_eq_true, if_false]
    first | done | rfl
theorem mendA_sm {x : Dsk} (h : x.sm) : (mendA x).sm := mendR_sm (mendN_sm (mendP_sm h))
theorem mendA_ok {x : Dsk} (hk : x.ok) (h : x.sm) : (mendA x).ok := mendR_ok (mendN_ok (mendP_ok hk h))
set_option maxHeartbeats 4000000 in
theorem e5 (x : Dsk) (h : x.ok) : E TN 5 [dsk x] [] = some (.bool true, []) := by
  rw [E_eq t5 (Nat.le_of_ble_eq_true rfl)]
  obtain ⟨r, h1, h4⟩ := e19t x h
  rw [← eN rfl t19] at h1
  have c40 : x.sm → E TN 21 [dsk x] [] = some (dskO x, []) := fun h => by rw [eN rfl t21]; exact e21 x h
  have c42 := e23 x x h
  rw [← eN rfl t23] at c42
  have cA := fun hs k => e26 x h hs k
  have cB := fun hs k => e27 x h hs k
  have c63x : x.sm → E TN 24 [.agg [.sl 0 0 x.used.length, .sl 1 0 x.taken.length, .sl 2 0 x.inos.length, .sl 3 0 x.blks.length], .int .i64 1] (dskR x) = some (.int .i64 (1 + coDsk x), dskR (mkDsk 1 x)) := fun h => by rw [eN rfl t24]; exact e24 x 1 (by omega) (by omega) h
  have cs := fun h => mendA_sm (x := x) h
  have ck := fun hs => mendA_ok h hs
  generalize mendA x = N at *
  have c42n : N.ok → E TN 23 [dsk N, dsk N] [] = some (.bool (decide (N = N)), []) := fun k => by rw [eN rfl t23]; exact e23 N N k
  have c63 : N.sm → E TN 24 [.agg [.sl 0 0 N.used.length, .sl 1 0 N.taken.length, .sl 2 0 N.inos.length, .sl 3 0 N.blks.length], .int .i64 1] (dskR N) = some (.int .i64 (1 + coDsk N), dskR (mkDsk 1 N)) := fun h => by rw [eN rfl t24]; exact e24 N 1 (by omega) (by omega) h
  have c67 : N.sm → E TN 25 [dsk (mkDsk 1 N), .int .i64 1] [] = some (.int .i64 (1 + coDsk N), []) := fun h => by rw [eN rfl t25]; exact e25 N 1 (by omega) (by omega) h
  simp only [dsk, dskO, dskR, mkDsk, List.cons_append, List.nil_append] at h1 c40 c42 c42n cA cB c63 c63x c67 ⊢
  simp only [F5, go_sem, seval, bnd_ite, h1]
  by_cases c1 : r < 0
  · rw [if_pos c1]
  rw [if_neg c1]
  have hm := h4 (by omega)
  have hs := cs hm.1
  have hk := ck hm.1
  have n1 : ¬ (1 + (coDsk x : Int)) < 0 := by omega
  have n2 : ¬ (1 + (coDsk N : Int)) < 0 := by omega
  simp only [go_sem, seval, bnd_ite, c40 hm.1, c42, c42n hk, cA hm.1 hm.2, cB hm.1 hm.2, c63 hs, c63x hm.1, c67 hs, mkB_len, mkL_len, tkG, n1, n2, decide_true, decide_false, Bool.not_true, Bool.false_eq_true, if_false]
end Go.Proofs.YtaaajjinpppgeaaGreat
namespace Go.Proofs.YtaaajjinpppgeaaGreat
open Go Go.Abs
def shFnExactMendAll : List Shp := [shD]
theorem isFnExactMendAll {avs : List AV} (h : IsAs shFnExactMendAll avs) : E TN 5 avs [] = some (.bool true, []) := by
  cases h with | cons h1 h =>
  cases h
  obtain ⟨x1, rfl, hx1⟩ := isD h1
  exact e5 x1 hx1
end Go.Proofs.YtaaajjinpppgeaaGreat
namespace Go.Abs
open Go
def wAcc : List Char → List Char → List (List Char) → List (List Char)
  | [], cur, acc => (cur.reverse :: acc).reverse
  | c :: r, cur, acc => if c.toNat = 32 then wAcc r [] (cur.reverse :: acc) else wAcc r (c :: cur) acc
def joinW (cur : List Char) : List (List Char) → List (List Char)
  | w :: ws => (cur ++ w) :: ws
  | [] => [cur]
theorem ws_c (c : Char) (r : List Char) : wordsSigns (c :: r) = if c.toNat = 32 then [] :: wordsSigns r else joinW [c] (wordsSigns r) := by
  by_cases h : c.toNat = 32
  · rw [if_pos h]
    have : c = Char.ofNat 32 := by
      apply Char.ext
      apply UInt32.toNat_inj.1
      exact h
    subst this; rfl
  · rw [if_neg h]
    rw [wordsSigns.eq_3 _ _ (fun e => h (by rw [e]; rfl))]
    cases wordsSigns r <;> rfl
theorem ws_ne (l : List Char) : wordsSigns l ≠ [] := by
  cases l with
  | nil => simp [wordsSigns]
  | cons c r =>
    rw [ws_c]
    split
    · simp
    · cases wordsSigns r <;> simp [joinW]
theorem wAcc_eq : ∀ (l cur : List Char) (acc : List (List Char)), wAcc l cur acc = acc.reverse ++ joinW cur.reverse (wordsSigns l) := by
  intro l
  induction l with
  | nil => intro cur acc; simp [wAcc, wordsSigns, joinW]
  | cons c r ih =>
    intro cur acc
    simp only [wAcc]
    rw [ws_c]
    by_cases h : c.toNat = 32
    · rw [if_pos h, if_pos h, ih]
      cases hr : wordsSigns r with
      | nil => exact absurd hr (ws_ne r)
      | cons w ws => simp [joinW]
    · rw [if_neg h, if_neg h, ih]
      cases wordsSigns r <;> simp [joinW]
theorem words_eq (l : List Char) : wordsSigns l = wAcc l [] [] := by
  rw [wAcc_eq]
  have := ws_ne l
  cases h : wordsSigns l with
  | nil => exact absurd h this
  | cons w ws => simp [joinW]
theorem strip_cut (r : List (List Char)) : stripLifts liftWords ("cut".toList :: r) = ([], "cut".toList :: r) := by kernel_rfl
theorem lifts_of {P : Program} {r : List (List Char)} (h : behindMainWord (wordsSigns P.initOrder.toList) = "cut".toList :: r) : P.headLifts = [] := by
  unfold Program.headLifts
  rw [h, strip_cut]; kernel_rfl
theorem liftsFinal_of {P : Program} {r : List (List Char)} (h : behindMainWord (wordsSigns P.initOrder.toList) = "cut".toList :: r) : P.liftsFinal = false := by
  unfold Program.liftsFinal
  rw [h, lifts_of h]; kernel_rfl
theorem make_of {P : Program} {r : List (List Char)} (h : behindMainWord (wordsSigns P.initOrder.toList) = "cut".toList :: r) : P.make = some .cut := by
  unfold Program.make
  rw [h]; kernel_rfl
theorem mayEnter_of {P : Program} {r : List (List Char)} (h : behindMainWord (wordsSigns P.initOrder.toList) = "cut".toList :: r) (h1 : P.laysLater = false) (h2 : P.bearsReflect = false) (h3 : P.doorFits [] = true) : P.mayEnter = true := by
  unfold Program.mayEnter
  rw [h]
  simp only [strip_cut, h1, h2, h3]
  kernel_rfl
open Go.RowKit in
theorem facts_of {P : Program} {f : FuncId} {fn : Func} {s : ChangeSpec} {c : OpenClaim} (a1 : c.wf (OpenSpec.ofChange s) = true) (a2 : laidOutB P = true) (a3 : mapsRowed P = true)
    (a4 : fn.params.all (P.readableRec ·) = true) (a5 : namedTie P c.named s.vars = true) (a6 : (c.stops == []) = true) (a7 : (P.stops == []) = true) (a8 : (c.knobs == []) = true) (a9 : (P.stopKnobs == []) = true)
    (a10 : (c.inPlace == P.inPlace f) = true) (a11 : (c.unfollowed == P.unfollowed f) = true) (a12 : (c.recurses == P.recurses f) = true) (a13 : (c.named == P.varsNamed f) = true)
    (a14 : (c.maps == (fn.params.toList ++ s.plain.varTypes P).any (P.mapsRec ·)) = true) (a15 : (c.ifaces == (fn.params.toList ++ s.plain.varTypes P).any (P.ifacesRec ·)) = true) (a16 : (c.mapsOut == P.mapsAmong fn.resultTypes.toList) = true)
    (a17 : (c.loops == (fn.params.toList ++ s.plain.varTypes P).any (P.loopsFrom ·)) = true) (a18 : (c.wideKeys == (fn.params.toList ++ s.plain.varTypes P ++ fn.resultTypes.toList).any (P.wideKeysFrom ·)) = true)
    (a19 : s.vars.all (P.varReadable ·) = true) (a20 : fn.resultTypes.all (fun t => P.readableRec t && decide (t < P.types.size)) = true) (a21 : (c.ifacesOut == fn.resultTypes.toList.any (P.ifacesRec ·)) = true)
    (a22 : (c.loopsOut == fn.resultTypes.toList.any (P.loopsFrom ·)) = true) (a23 : (c.plainKeys == P.plainKeys) = true) (a24 : c.shortTexts.isNone = true) (a25 : P.stopsHeard = true) (a26 : P.mayEnter = true)
    (a27 : (c.lifted == P.liftsFinal) = true) (a28 : (P.make == some c.make) = true)
    (a29 : c.domain.isEmpty = true) (a29' : c.kinds = []) (a30 : (c.pinned == c.pinnedBy) = true)
    (a31 : (c.veiled == (fn.params.toList ++ s.plain.varTypes P ++ fn.resultTypes.toList).any (P.veiledRec ·)) = true) (a32 : c.veiledFits P fn.params.toList (fn.params.toList ++ s.plain.varTypes P ++ fn.resultTypes.toList) = true) :
    joinedFacts P f fn s c = true := by
  unfold joinedFacts
  rw [a1, a2, a3, a4, a5, a6, a7, a8, a9, a10, a11, a12, a13, a14, a15, a16, a17, a18, a19, a20, a21, a22, a23, a24, a25, a26, a27, a28, a29, a29', a30, a31, a32]
  rfl
end Go.Abs
namespace Go.Proofs.YtaaajjinpppgeaaGreat
open Go Go.RowKit
set_option maxRecDepth 100000
def headSigns : List Char := [.ofNat 104,.ofNat 97,.ofNat 114,.ofNat 110,.ofNat 101,.ofNat 115,.ofNat 115,.ofNat 32,.ofNat 55,.ofNat 52,.ofNat 48,.ofNat 97,.ofNat 52,.ofNat 55,.ofNat 48,.ofNat 51,.ofNat 102,.ofNat 102,.ofNat 100,.ofNat 99,.ofNat 102,.ofNat 50,.ofNat 55,.ofNat 99,.ofNat 52,.ofNat 48,.ofNat 52,.ofNat 51,.ofNat 100,.ofNat 97,.ofNat 54,.ofNat 99,.ofNat 55,.ofNat 102,.ofNat 102,.ofNat 99,.ofNat 48,.ofNat 54,.ofNat 49,.ofNat 101,.ofNat 53,.ofNat 48,.ofNat 102,.ofNat 51,.ofNat 49,.ofNat 102,.ofNat 53,.ofNat 101,.ofNat 51,.ofNat 50,.ofNat 50,.ofNat 98,.ofNat 52,.ofNat 50,.ofNat 54,.ofNat 49,.ofNat 52,.ofNat 100,.ofNat 102,.ofNat 54,.ofNat 55,.ofNat 101,.ofNat 56,.ofNat 54,.ofNat 99,.ofNat 55,.ofNat 57,.ofNat 48,.ofNat 56,.ofNat 55,.ofNat 50,.ofNat 57,.ofNat 32,.ofNat 99,.ofNat 117,.ofNat 116,.ofNat 32,.ofNat 97,.ofNat 116,.ofNat 32,.ofNat 108,.ofNat 111,.ofNat 111,.ofNat 112,.ofNat 46,.ofNat 101,.ofNat 120,.ofNat 97,.ofNat 109,.ofNat 112,.ofNat 108,.ofNat 101,.ofNat 47,.ofNat 103,.ofNat 48,.ofNat 48,.ofNat 50,.ofNat 51,.ofNat 53,.ofNat 47,.ofNat 108,.ofNat 97,.ofNat 119,.ofNat 115,.ofNat 46,.ofNat 70,.ofNat 110,.ofNat 69,.ofNat 120,.ofNat 97,.ofNat 99,.ofNat 116,.ofNat 77,.ofNat 111,.ofNat 117,.ofNat 110,.ofNat 116,.ofNat 101,.ofNat 100,.ofNat 32,.ofNat 108,.ofNat 111,.ofNat 111,.ofNat 112,.ofNat 46,.ofNat 101,.ofNat 120,.ofNat 97,.ofNat 109,.ofNat 112,.ofNat 108,.ofNat 101,.ofNat 47,.ofNat 103,.ofNat 48,.ofNat 48,.ofNat 50,.ofNat 51,.ofNat 53,.ofNat 47,.ofNat 108,.ofNat 97,.ofNat 119,.ofNat 115,.ofNat 46,.ofNat 70,.ofNat 110,.ofNat 69,.ofNat 120,.ofNat 97,.ofNat 99,.ofNat 116,.ofNat 77,.ofNat 101,.ofNat 110,.ofNat 100,.ofNat 82,.ofNat 101,.ofNat 115,.ofNat 116,.ofNat 32,.ofNat 108,.ofNat 111,.ofNat 111,.ofNat 112,.ofNat 46,.ofNat 101,.ofNat 120,.ofNat 97,.ofNat 109,.ofNat 112,.ofNat 108,.ofNat 101,.ofNat 47,.ofNat 103,.ofNat 48,.ofNat 48,.ofNat 50,.ofNat 51,.ofNat 53,.ofNat 47,.ofNat 108,.ofNat 97,.ofNat 119,.ofNat 115,.ofNat 46,.ofNat 70,.ofNat 110,.ofNat 69,.ofNat 120,.ofNat 97,.ofNat 99,.ofNat 116,.ofNat 77,.ofNat 101,.ofNat 110,.ofNat 100,.ofNat 65,.ofNat 108,.ofNat 108,.ofNat 32,.ofNat 108,.ofNat 111,.ofNat 111,.ofNat 112,.ofNat 46,.ofNat 101,.ofNat 120,.ofNat 97,.ofNat 109,.ofNat 112,.ofNat 108,.ofNat 101,.ofNat 47,.ofNat 103,.ofNat 48,.ofNat 48,.ofNat 50,.ofNat 51,.ofNat 53,.ofNat 47,.ofNat 108,.ofNat 97,.ofNat 119,.ofNat 115,.ofNat 46,.ofNat 70,.ofNat 110,.ofNat 73,.ofNat 109,.ofNat 97,.ofNat 103,.ofNat 101,.ofNat 115,.ofNat 32,.ofNat 108,.ofNat 111,.ofNat 111,.ofNat 112,.ofNat 46,.ofNat 101,.ofNat 120,.ofNat 97,.ofNat 109,.ofNat 112,.ofNat 108,.ofNat 101,.ofNat 47,.ofNat 103,.ofNat 48,.ofNat 48,.ofNat 50,.ofNat 51,.ofNat 53,.ofNat 47,.ofNat 108,.ofNat 97,.ofNat 119,.ofNat 115,.ofNat 46,.ofNat 70,.ofNat 110,.ofNat 85,.ofNat 110,.ofNat 105,.ofNat 116,.ofNat 87,.ofNat 114,.ofNat 105,.ofNat 116,.ofNat 101,.ofNat 115,.ofNat 32,.ofNat 108,.ofNat 111,.ofNat 111,.ofNat 112,.ofNat 46,.ofNat 101,.ofNat 120,.ofNat 97,.ofNat 109,.ofNat 112,.ofNat 108,.ofNat 101,.ofNat 47,.ofNat 103,.ofNat 48,.ofNat 48,.ofNat 50,.ofNat 51,.ofNat 53,.ofNat 47,.ofNat 108,.ofNat 97,.ofNat 119,.ofNat 115,.ofNat 46,.ofNat 70,.ofNat 110,.ofNat 84,.ofNat 97,.ofNat 107,.ofNat 101,.ofNat 115,.ofNat 32,.ofNat 108,.ofNat 111,.ofNat 111,.ofNat 112,.ofNat 46,.ofNat 101,.ofNat 120,.ofNat 97,.ofNat 109,.ofNat 112,.ofNat 108,.ofNat 101,.ofNat 47,.ofNat 103,.ofNat 48,.ofNat 48,.ofNat 50,.ofNat 51,.ofNat 53,.ofNat 47,.ofNat 108,.ofNat 97,.ofNat 119,.ofNat 115,.ofNat 46,.ofNat 70,.ofNat 110,.ofNat 66,.ofNat 114,.ofNat 111,.ofNat 107,.ofNat 101,.ofNat 110]
theorem head_text : Tryz.prog.initOrder = String.ofList headSigns := by kernel_rfl
theorem head_words : wordsSigns Tryz.prog.initOrder.toList = Go.Abs.wAcc headSigns [] [] := by
  rw [head_text, String.toList_ofList, Go.Abs.words_eq]
theorem head_behind : behindMainWord (wordsSigns Tryz.prog.initOrder.toList) = "cut".toList :: (Go.Abs.wAcc headSigns [] []).drop 3 := by
  rw [head_words]; kernel_rfl
theorem f_lays : Tryz.prog.laysLater = false := by kernel_rfl
theorem f_refl : Tryz.prog.bearsReflect = false := by kernel_rfl
theorem f_door : Tryz.prog.doorFits [] = true := by kernel_rfl
theorem f_mayEnter : Tryz.prog.mayEnter = true := Go.Abs.mayEnter_of head_behind f_lays f_refl f_door
theorem f_liftsFinal : Tryz.prog.liftsFinal = false := Go.Abs.liftsFinal_of head_behind
theorem f_make : Tryz.prog.make = some .cut := Go.Abs.make_of head_behind
theorem laidOut : laidOutB Tryz.prog = true := by kernel_rfl
theorem f_maps : mapsRowed Tryz.prog = true := by kernel_rfl
theorem f_stops : (Tryz.prog.stops == []) = true := by kernel_rfl
theorem f_knobs : (Tryz.prog.stopKnobs == []) = true := by kernel_rfl
theorem f_plain : (true == Tryz.prog.plainKeys) = true := by kernel_rfl
theorem f_heard : Tryz.prog.stopsHeard = true := by kernel_rfl
theorem own : ownKnob Tryz.prog.godebug = none := by kernel_rfl
end Go.Proofs.YtaaajjinpppgeaaGreat
namespace Go.Proofs.YtaaajjinpppgeaaGreat
open Go Go.Abs Go.ChangeShapes Go.WideShapes Go.ChangeAt Go.RowKit
set_option maxRecDepth 100000 in
theorem liftedFnExactMendAll (os : Os) (started : os.Started) (H : Type) (enc : TypeId × Value → H) :
    ReturnsInHanded {} Tryz.checked os 5 .any (Rows.fnExactMendAllSpec.pre6 enc Tryz.prog Tryz.f5 Rows.fnExactMendAllRow.domain false) (Rows.fnExactMendAllSpec.post enc Tryz.prog Tryz.f5 false true false false) := by
  refine returnsInHanded_of_change (C := Tryz.checked) own started (by kernel_rfl) Tryz.func5
    (ChangeSpec.witness6 (enc := enc) (C := Tryz.checked) false ⟨#[], #[.agg #[.slice none 0 0, .slice none 0 0, .slice none 0 0, .slice none 0 0]], []⟩ 8 (by kernel_rfl) (by kernel_rfl) (by kernel_rfl) (by kernel_rfl)) ?_
  intro W base args ds gs before hval hW _ _
  obtain ⟨p, q, hA, hV, e, _, _⟩ := id hW
  refine (row_calls (P := Tryz.prog) (W := W) (n := 12) (shps := shFnExactMendAll) (fun avs h => callsN (isFnExactMendAll h)) (ts := Tryz.f5.params.toList) (by kernel_rfl) (fun j t v h1 h2 => hval j t v (by simpa using h1) h2) hA).mono fun e W' ⟨he, hb⟩ => ?_
  refine ⟨_, he, row_post (tb := Tryz.f5.resultTypes.toList.headD 0) laidOut ?_ rfl (by kernel_rfl) (by kernel_rfl) ?_ hW hb⟩
  · exact List.all_eq_true.1 (show Tryz.f5.params.toList.all (fun t => Tryz.prog.readableRec t && decide (t < Tryz.prog.types.size)) = true by kernel_rfl) |> fun h t ht => by simpa using h t ht
  · have hl := trod_len hA
    match ds, hl with
    | [d0], _ => rfl
set_option maxHeartbeats 4000000 in
theorem factsFnExactMendAll : joinedFacts Tryz.prog 5 Tryz.f5 Rows.fnExactMendAllSpec Rows.fnExactMendAllRow = true :=
  facts_of (by kernel_rfl) laidOut f_maps (by kernel_rfl) (by kernel_rfl) rfl f_stops rfl f_knobs (by as_aux_lemma => kernel_rfl) (by as_aux_lemma => kernel_rfl) (by as_aux_lemma => kernel_rfl) (by as_aux_lemma => kernel_rfl)
    (by kernel_rfl) (by kernel_rfl) (by kernel_rfl) (by kernel_rfl) (by kernel_rfl) rfl (by kernel_rfl) (by kernel_rfl) (by kernel_rfl) f_plain rfl f_heard f_mayEnter (by rw [f_liftsFinal]; rfl) (by rw [f_make]; rfl) rfl rfl rfl (by kernel_rfl) (by kernel_rfl)
theorem wrapFnExactMendAll : Tryz.f5.isWrapper Tryz.prog Rows.fnExactMendAllRow.wrapper Rows.fnExactMendAllRow.mainSum := by
  unfold Func.isWrapper; rw [if_neg (by decide +kernel)]; exact ⟨rfl, rfl⟩
set_option maxHeartbeats 4000000 in
theorem overFnExactMendAll : Rows.fnExactMendAllRow.holds Tryz.pinned (OpenSpec.ofChange Rows.fnExactMendAllSpec) :=
  OpenClaim.holds_of_wide 5 Tryz.f5 rfl rfl rfl rfl rfl rfl rfl ⟨rfl, rfl, rfl, rfl, rfl⟩ rfl rfl rfl rfl rfl (by as_aux_lemma => kernel_rfl) Tryz.func5 factsFnExactMendAll
    (by as_aux_lemma => exact of_decide_eq_true (by kernel_rfl)) wrapFnExactMendAll
    (fun os started H enc _ => liftedFnExactMendAll os started H enc)
theorem FnExactMendAll_holds : Rows.FnExactMendAllSaid := overFnExactMendAll
end Go.Proofs.YtaaajjinpppgeaaGreat
