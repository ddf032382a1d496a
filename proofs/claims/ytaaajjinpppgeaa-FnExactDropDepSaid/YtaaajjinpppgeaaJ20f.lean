/- The last part of the texts of a claim, joined by a program of ours; at its end stands the row: the law returns true for every input, and leaves it as it was. No condition. -/
import Derived.Test.YtaaajjinpppgeaaJ20e
import GoSem.ClaimOpenFrom
import GoSem.ClaimJoined
import Derived.JoinedOf
import Derived.ProofKit
import Derived.KernelRfl
import Derived.Test.YtaaajjinpppgeaaRows
set_option linter.unusedVariables false
set_option linter.unusedSimpArgs false
set_option linter.unusedSectionVars false
/- What is right: disks. Own work; no condition. -/
set_option linter.unusedVariables false
set_option linter.unusedSimpArgs false
set_option linter.unusedSectionVars false
namespace Go.Proofs.Ytaaajjinpppgeaa
open Go Go.Abs
set_option maxRecDepth 100000
def dskV (x : Dsk) : List AV := [.ro 1 (x.used.map bv), .ro 1 (x.taken.map bv), .ro 3 (x.inos.map ino), .ro 3 (x.blks.map blk)]
theorem in155a (x : Dsk) (hk : x.ok) : ∃ r, XL T 0 H155_2 L155_2 ⟨[(1, .ptr 0 0 0), (8, .ro 3 (x.inos.map ino)), (9, .int .i64 x.inos.length), (10, .int .i64 0)], [some (4, [.agg (dskV x)])]⟩ = some r ∧
    (x.inos.all inoOk = true ∧ (r.1 = .exit 0 ∧ lookA r.2.env 1 = .ptr 0 0 0 ∧ r.2.mem = [some (4, [.agg (dskV x)])]) ∨ x.inos.all inoOk = false ∧ (r.1 = .ret ∧ lookA r.2.env 2 = .bool false)) := by
  have hl := hk.inos
  unfold maxLen at hl
  refine XL_all x.inos inoOk (fun i => ⟨[(1, .ptr 0 0 0), (8, .ro 3 (x.inos.map ino)), (9, .int .i64 x.inos.length), (10, .int .i64 (i : Nat))], [some (4, [.agg (dskV x)])]⟩) (fun r => r.1 = .exit 0 ∧ lookA r.2.env 1 = .ptr 0 0 0 ∧ r.2.mem = [some (4, [.agg (dskV x)])]) (fun r => r.1 = .ret ∧ lookA r.2.env 2 = .bool false) ?step ?hit ?last
  case step =>
    intro i p hp hi hP _
    have hi1 : (i : Int) < (x.inos.length : Int) := by omega
    have gp : (x.inos.map ino).getD i .undef = .agg [.int .i64 p.kind, .int .i64 p.links, .ro 1 (p.ptrs.map iv)] := gD_map hp
    have e1 := e223 p (hk.ino p (List.mem_of_getElem? hp))
    unfold ino at e1
    unfold dskV
    simp only [XG, L155_2, h155_2, go_sem, seval, bnd_ite, hi1, gp, e1, hP, Int.natCast_nonneg, w_i64 ((i : Int) + 1) (by omega), Bool.not_true, Bool.false_eq_true, if_false]
    first | done | rfl
  case hit =>
    intro i p hp hi hP _
    have hi1 : (i : Int) < (x.inos.length : Int) := by omega
    have gp : (x.inos.map ino).getD i .undef = .agg [.int .i64 p.kind, .int .i64 p.links, .ro 1 (p.ptrs.map iv)] := gD_map hp
    have e1 := e223 p (hk.ino p (List.mem_of_getElem? hp))
    unfold ino at e1
    unfold dskV
    simp only [XG, L155_2, h155_2, go_sem, seval, bnd_ite, hi1, gp, e1, hP, Int.natCast_nonneg, w_i64 ((i : Int) + 1) (by omega), Bool.not_false, if_true]
    exact .mk (by simp) ⟨rfl, rfl⟩
  case last =>
    intro _
    unfold dskV
    simp only [XG, L155_2, h155_2, go_sem, seval, bnd_ite, Int.lt_irrefl, decide_false]
    exact .mk (by simp) ⟨rfl, rfl, rfl⟩
theorem in155b (x : Dsk) (hk : x.ok) : ∃ r, XL T 0 H155_9 L155_9 ⟨[(1, .ptr 0 0 0), (19, .ro 3 (x.blks.map blk)), (20, .int .i64 x.blks.length), (21, .int .i64 0)], [some (4, [.agg (dskV x)])]⟩ = some r ∧
    (x.blks.all blkOk = true ∧ (r.1 = .exit 2 ∧ lookA r.2.env 1 = .ptr 0 0 0 ∧ r.2.mem = [some (4, [.agg (dskV x)])]) ∨ x.blks.all blkOk = false ∧ (r.1 = .ret ∧ lookA r.2.env 2 = .bool false)) := by
  have hl := hk.blks
  unfold maxLen at hl
  refine XL_all x.blks blkOk (fun i => ⟨[(1, .ptr 0 0 0), (19, .ro 3 (x.blks.map blk)), (20, .int .i64 x.blks.length), (21, .int .i64 (i : Nat))], [some (4, [.agg (dskV x)])]⟩) (fun r => r.1 = .exit 2 ∧ lookA r.2.env 1 = .ptr 0 0 0 ∧ r.2.mem = [some (4, [.agg (dskV x)])]) (fun r => r.1 = .ret ∧ lookA r.2.env 2 = .bool false) ?step ?hit ?last
  case step =>
    intro i p hp hi hP _
    have hi1 : (i : Int) < (x.blks.length : Int) := by omega
    have gp : (x.blks.map blk).getD i .undef = .agg [.bool p.dir, .ro 2 (p.slots.map slt), .str p.text] := gD_map hp
    have e1 := e224 p (hk.blk p (List.mem_of_getElem? hp))
    unfold blk at e1
    unfold dskV
    simp only [XG, L155_9, h155_9, go_sem, seval, bnd_ite, hi1, gp, e1, hP, Int.natCast_nonneg, w_i64 ((i : Int) + 1) (by omega), Bool.not_true, Bool.false_eq_true, if_false]
    first | done | rfl
  case hit =>
    intro i p hp hi hP _
    have hi1 : (i : Int) < (x.blks.length : Int) := by omega
    have gp : (x.blks.map blk).getD i .undef = .agg [.bool p.dir, .ro 2 (p.slots.map slt), .str p.text] := gD_map hp
    have e1 := e224 p (hk.blk p (List.mem_of_getElem? hp))
    unfold blk at e1
    unfold dskV
    simp only [XG, L155_9, h155_9, go_sem, seval, bnd_ite, hi1, gp, e1, hP, Int.natCast_nonneg, w_i64 ((i : Int) + 1) (by omega), Bool.not_false, if_true]
    exact .mk (by simp) ⟨rfl, rfl⟩
  case last =>
    intro _
    unfold dskV
    simp only [XG, L155_9, h155_9, go_sem, seval, bnd_ite, Int.lt_irrefl, decide_false]
    exact .mk (by simp) ⟨rfl, rfl, rfl⟩
theorem e155 (x : Dsk) (hk : x.ok) : E T 155 [dsk x] [] = some (.bool (dskOk x), []) := by
  rw [E_eq t155 (Nat.le_of_ble_eq_true rfl)]
  have c1 : decide ((x.inos.length : Int) = 8) = decide (x.inos.length = 8) := by congr 1; apply propext; omega
  have c2 : decide ((x.blks.length : Int) = 16) = decide (x.blks.length = 16) := by congr 1; apply propext; omega
  obtain ⟨⟨y, e, m⟩, k1, k2⟩ := in155a x hk
  unfold dskOk
  unfold dskV at k1 k2
  rcases k2 with ⟨h, kx, k3, km⟩ | ⟨h, kx, k3⟩
  · simp only at kx k3 km; subst kx; subst km
    obtain ⟨⟨y, e', m⟩, k4, k5⟩ := in155b x hk
    unfold dskV at k4 k5
    rcases k5 with ⟨h', kx, k6, km⟩ | ⟨h', kx, k6⟩
    · simp only at kx k6 km; subst kx; subst km
      have e0 := e225 x.used x.taken
      simp only [dsk, F155, h155_2, h155_9, go_sem, seval, bnd_ite, k1, k3, k4, k6, h, h', c1, c2, e0, Bool.true_and]
    · simp only at kx k6; subst kx
      simp only [dsk, F155, h155_2, h155_9, go_sem, seval, bnd_ite, k1, k3, k4, k6, h, h', Bool.false_and, Bool.and_false]
  · simp only at kx k3; subst kx
    simp only [dsk, F155, h155_2, go_sem, seval, bnd_ite, k1, k3, h, Bool.false_and]
theorem in153a (x : Dsk) (hk : x.ok) : ∃ r, XL T 0 H153_4 L153_4 ⟨[(1, .ptr 0 0 0), (3, .int .i64 0)], [some (4, [.agg (dskV x)])]⟩ = some r ∧
    (x.inos.all inoOk = true ∧ (r.1 = .exit 0 ∧ lookA r.2.env 1 = .ptr 0 0 0 ∧ r.2.mem = [some (4, [.agg (dskV x)])]) ∨ x.inos.all inoOk = false ∧ (r.1 = .ret ∧ lookA r.2.env 2 = .bool false)) := by
  have hl := hk.inos
  unfold maxLen at hl
  refine XL_all x.inos inoOk (fun i => ⟨[(1, .ptr 0 0 0), (3, .int .i64 (i : Nat))], [some (4, [.agg (dskV x)])]⟩) (fun r => r.1 = .exit 0 ∧ lookA r.2.env 1 = .ptr 0 0 0 ∧ r.2.mem = [some (4, [.agg (dskV x)])]) (fun r => r.1 = .ret ∧ lookA r.2.env 2 = .bool false) ?step ?hit ?last
  case step =>
    intro i p hp hi hP _
    have hi1 : (i : Int) < (x.inos.length : Int) := by omega
    have gp : (x.inos.map ino).getD i .undef = .agg [.int .i64 p.kind, .int .i64 p.links, .ro 1 (p.ptrs.map iv)] := gD_map hp
    have e1 := e220 p (hk.ino p (List.mem_of_getElem? hp))
    unfold ino at e1
    unfold dskV
    simp only [XG, L153_4, h153_4, go_sem, seval, bnd_ite, hi1, gp, e1, hP, Int.natCast_nonneg, w_i64 ((i : Int) + 1) (by omega), Bool.not_true, Bool.false_eq_true, if_false]
    first | done | rfl
  case hit =>
    intro i p hp hi hP _
    have hi1 : (i : Int) < (x.inos.length : Int) := by omega
    have gp : (x.inos.map ino).getD i .undef = .agg [.int .i64 p.kind, .int .i64 p.links, .ro 1 (p.ptrs.map iv)] := gD_map hp
    have e1 := e220 p (hk.ino p (List.mem_of_getElem? hp))
    unfold ino at e1
    unfold dskV
    simp only [XG, L153_4, h153_4, go_sem, seval, bnd_ite, hi1, gp, e1, hP, Int.natCast_nonneg, w_i64 ((i : Int) + 1) (by omega), Bool.not_false, if_true]
    exact .mk (by simp) ⟨rfl, rfl⟩
  case last =>
    intro _
    unfold dskV
    simp only [XG, L153_4, h153_4, go_sem, seval, bnd_ite, Int.lt_irrefl, decide_false]
    exact .mk (by simp) ⟨rfl, rfl, rfl⟩
theorem in153b (x : Dsk) (hk : x.ok) : ∃ r, XL T 0 H153_10 L153_10 ⟨[(1, .ptr 0 0 0), (4, .int .i64 0)], [some (4, [.agg (dskV x)])]⟩ = some r ∧
    (x.blks.all blkOk = true ∧ (r.1 = .exit 2) ∨ x.blks.all blkOk = false ∧ (r.1 = .ret ∧ lookA r.2.env 2 = .bool false)) := by
  have hl := hk.blks
  unfold maxLen at hl
  refine XL_all x.blks blkOk (fun i => ⟨[(1, .ptr 0 0 0), (4, .int .i64 (i : Nat))], [some (4, [.agg (dskV x)])]⟩) (fun r => r.1 = .exit 2) (fun r => r.1 = .ret ∧ lookA r.2.env 2 = .bool false) ?step ?hit ?last
  case step =>
    intro i p hp hi hP _
    have hi1 : (i : Int) < (x.blks.length : Int) := by omega
    have gp : (x.blks.map blk).getD i .undef = .agg [.bool p.dir, .ro 2 (p.slots.map slt), .str p.text] := gD_map hp
    have e1 := e221 p (hk.blk p (List.mem_of_getElem? hp))
    unfold blk at e1
    unfold dskV
    simp only [XG, L153_10, h153_10, go_sem, seval, bnd_ite, hi1, gp, e1, hP, Int.natCast_nonneg, w_i64 ((i : Int) + 1) (by omega), Bool.not_true, Bool.false_eq_true, if_false]
    first | done | rfl
  case hit =>
    intro i p hp hi hP _
    have hi1 : (i : Int) < (x.blks.length : Int) := by omega
    have gp : (x.blks.map blk).getD i .undef = .agg [.bool p.dir, .ro 2 (p.slots.map slt), .str p.text] := gD_map hp
    have e1 := e221 p (hk.blk p (List.mem_of_getElem? hp))
    unfold blk at e1
    unfold dskV
    simp only [XG, L153_10, h153_10, go_sem, seval, bnd_ite, hi1, gp, e1, hP, Int.natCast_nonneg, w_i64 ((i : Int) + 1) (by omega), Bool.not_false, if_true]
    exact .mk (by simp) ⟨rfl, rfl⟩
  case last =>
    intro _
    unfold dskV
    simp only [XG, L153_10, h153_10, go_sem, seval, bnd_ite, Int.lt_irrefl, decide_false]
    exact .mk (by simp) rfl
theorem e153 (x : Dsk) (hk : x.ok) : E T 153 [dsk x] [] = some (.bool (dskOk x), []) := by
  rw [E_eq t153 (Nat.le_of_ble_eq_true rfl)]
  have c1 : decide ((x.inos.length : Int) = 8) = decide (x.inos.length = 8) := by congr 1; apply propext; omega
  have c2 : decide ((x.blks.length : Int) = 16) = decide (x.blks.length = 16) := by congr 1; apply propext; omega
  have e0 := e219 x.used x.taken
  by_cases hc : (((decide (x.used.length = 16) && decide (x.taken.length = 8)) && decide (x.inos.length = 8) && decide (x.blks.length = 16))) = true
  case neg =>
    have hr : dskOk x = false := by unfold dskOk; rw [Bool.eq_false_iff.2 hc, Bool.and_false, Bool.and_false]
    have hf : (!(decide (x.used.length = 16) && decide (x.taken.length = 8)) || !decide (x.inos.length = 8) || !decide (x.blks.length = 16)) = true := by
      rw [← Bool.not_and, ← Bool.not_and, Bool.eq_false_iff.2 hc]; rfl
    simp only [dsk, F153, h153_4, go_sem, seval, bnd_ite, e0, c1, c2, hf, hr, if_true]
  have hf : (!(decide (x.used.length = 16) && decide (x.taken.length = 8)) || !decide (x.inos.length = 8) || !decide (x.blks.length = 16)) = false := by
    rw [← Bool.not_and, ← Bool.not_and, hc]; rfl
  obtain ⟨⟨y, e, m⟩, k1, k2⟩ := in153a x hk
  unfold dskOk
  rw [hc, Bool.and_true]
  unfold dskV at k1 k2
  rcases k2 with ⟨h, kx, k3, km⟩ | ⟨h, kx, k3⟩
  · simp only at kx k3 km; subst kx; subst km
    obtain ⟨⟨y, e', m⟩, k4, k5⟩ := in153b x hk
    unfold dskV at k4
    rcases k5 with ⟨h', kx⟩ | ⟨h', kx, k6⟩
    · simp only at kx; subst kx
      simp only [dsk, F153, h153_4, h153_10, go_sem, seval, bnd_ite, k1, k3, k4, h, h', e0, c1, c2, hf, Bool.true_and, Bool.false_eq_true, if_false]
    · simp only at kx k6; subst kx
      simp only [dsk, F153, h153_4, h153_10, go_sem, seval, bnd_ite, k1, k3, k4, k6, h, h', e0, c1, c2, hf, Bool.and_false, Bool.false_eq_true, if_false]
  · simp only at kx k3; subst kx
    simp only [dsk, F153, h153_4, go_sem, seval, bnd_ite, k1, k3, h, e0, c1, c2, hf, Bool.false_and, Bool.false_eq_true, if_false]
end Go.Proofs.Ytaaajjinpppgeaa
/- The code of some functions, as the evaluator reads it (printed by a program of ours), checked against the program. Own work; no condition. -/
set_option linter.unusedVariables false
set_option linter.unusedSimpArgs false
set_option linter.unusedSectionVars false
namespace Go.Proofs.Ytaaajjinpppgeaa
open Go Go.Abs
set_option maxRecDepth 100000
def H65_12 : List Vw := [.tidy [2, 3, 4, 5, 6, 7] [(2, none), (3, none), (4, none), (5, none), (6, none), (7, none), (3, some 2), (6, some 2)]]
theorem h65_12 (b : Nat) (s : St) : vwL b H65_12 s = vwL b [.tidy [2, 3, 4, 5, 6, 7] [(2, none), (3, none), (4, none), (5, none), (6, none), (7, none), (3, some 2), (6, some 2)]] s := rfl
def L65_12 : EC := (.seq (.seq (.region [(.op .mv [(.tmp 7)] (some 39) true), (.op (.faddr 2) [(.tmp 6)] (some 40) true), (.op .load1 [(.tmp 40)] (some 41) true), (.op .len [(.tmp 41)] (some 42) true), (.op (.bin .lss) [(.tmp 39), (.tmp 42)] (some 43) true), (.op .mv [(.tmp 43)] (some 44) true), (.grp 44 true [(.op (.faddr 0) [(.tmp 6)] (some 45) true), (.op .load1 [(.tmp 45)] (some 46) true), (.op (.bin .neq) [(.tmp 46), (.const (.int .i64 0))] (some 47) true)] 47 48 true)] false) (.cond (.tmp 48) .skip (.exit 2))) (.seq (.block 3 (.seq (.view [.opn 3 none none 0 1, .opn 3 none none 1 1, .opn 3 none none 3 3] (.region [(.op (.loadN 4) [(.tmp 3)] (some 52) false), (.op (.faddr 2) [(.tmp 6)] (some 53) false), (.op .load1 [(.tmp 53)] (some 54) false), (.op .mv [(.tmp 7)] (some 55) false), (.op (.iaddr 1) [(.tmp 54), (.tmp 55)] (some 56) false), (.op .load1 [(.tmp 56)] (some 57) false), (.pc (.const (.fn 165 [])) [(.tmp 52), (.tmp 57)] (some 58) false), (.op .mv [(.tmp 58)] (some 51) false), (.op (.ext 0) [(.tmp 51)] (some 59) false), (.op (.ext 1) [(.tmp 51)] (some 60) false), (.op (.alloc (.agg [(.bool false), .nil, (.str ⟨#[]⟩)])) [] (some 8) false), (.op (.storeN 3) [(.tmp 8), (.tmp 59)] none true), (.op .mv [(.tmp 60)] (some 9) true)] true)) (.seq (.seq (.region [(.op .mv [(.tmp 9)] (some 61) true), (.op .not [(.tmp 61)] (some 62) true)] false) (.cond (.tmp 62) (.exit 3) .skip)) (.seq (.seq (.region [(.op (.faddr 0) [(.tmp 8)] (some 63) true), (.op .load1 [(.tmp 63)] (some 64) true), (.op (.faddr 0) [(.tmp 6)] (some 65) true), (.op .load1 [(.tmp 65)] (some 66) true), (.op (.bin .eql) [(.tmp 66), (.const (.int .i64 2))] (some 67) true), (.op (.binB true) [(.tmp 64), (.tmp 67)] (some 68) true), (.op .mv [(.tmp 68)] (some 69) true), (.grp 69 false [(.op .mv [(.tmp 4)] (some 70) true), (.op (.faddr 2) [(.tmp 6)] (some 71) true), (.op .load1 [(.tmp 71)] (some 72) true), (.op .mv [(.tmp 7)] (some 73) true), (.op (.iaddr 1) [(.tmp 72), (.tmp 73)] (some 74) true), (.op .load1 [(.tmp 74)] (some 75) true), (.pc (.const (.fn 126 [])) [(.tmp 70), (.tmp 75)] (some 76) true)] 76 77 true)] false) (.cond (.tmp 77) (.seq (.region [(.op (.faddr 2) [(.tmp 3)] (some 78) true), (.op .load1 [(.tmp 78)] (some 79) true), (.op .mv [(.tmp 5)] (some 80) true), (.op (.iaddr 3) [(.tmp 79), (.tmp 80)] (some 81) true), (.op (.faddr 2) [(.tmp 81)] (some 82) true), (.op .load1 [(.tmp 82)] (some 83) true), (.op .mv [(.tmp 7)] (some 84) true), (.op (.iaddr 1) [(.tmp 83), (.tmp 84)] (some 85) true), (.op .store1 [(.tmp 85), (.const (.int .i64 0))] none true)] false) (.exit 3)) .skip)) (.region [(.op .mv [(.tmp 4)] (some 86) true), (.op (.faddr 2) [(.tmp 6)] (some 87) true), (.op .load1 [(.tmp 87)] (some 88) true), (.op .mv [(.tmp 7)] (some 89) true), (.op (.iaddr 1) [(.tmp 88), (.tmp 89)] (some 90) true), (.op .load1 [(.tmp 90)] (some 91) true), (.op (.bslice 1 1 (.int .i64 0) [0]) [(.tmp 91)] (some 92) true), (.op (.append 1 8) [(.tmp 86), (.tmp 92)] (some 93) true), (.op .mv [(.tmp 93)] (some 4) true)] false))))) (.region [(.op .mv [(.tmp 7)] (some 49) true), (.op (.bin .add) [(.tmp 49), (.const (.int .i64 1))] (some 50) true), (.op .mv [(.tmp 50)] (some 7) true)] false)))
def H65_8 : List Vw := [.lay 4 1, .tidy [2, 3, 4, 5] [(2, none), (3, none), (4, none), (5, none), (3, some 2)]]
theorem h65_8 (b : Nat) (s : St) : vwL b H65_8 s = vwL b [.lay 4 1, .tidy [2, 3, 4, 5] [(2, none), (3, none), (4, none), (5, none), (3, some 2)]] s := rfl
def L65_8 : EC := (.seq (.seq (.region [(.op .mv [(.tmp 5)] (some 27) true), (.op (.faddr 2) [(.tmp 3)] (some 28) true), (.op .load1 [(.tmp 28)] (some 29) true), (.op .len [(.tmp 29)] (some 30) true), (.op (.bin .lss) [(.tmp 27), (.tmp 30)] (some 31) true)] false) (.cond (.tmp 31) .skip (.exit 0))) (.seq (.block 1 (.seq (.view [.opn 3 (some 2) (some (5, 0)) 2 1] (.region [(.op (.faddr 2) [(.tmp 3)] (some 34) true), (.op .load1 [(.tmp 34)] (some 35) true), (.op .mv [(.tmp 5)] (some 36) true), (.op (.iaddr 3) [(.tmp 35), (.tmp 36)] (some 37) true), (.op (.loadN 3) [(.tmp 37)] (some 38) true), (.op (.alloc (.agg [(.int .i64 0), (.int .i64 0), .nil])) [] (some 6) true), (.op (.storeN 3) [(.tmp 6), (.tmp 38)] none true)] false)) (.seq (.region [(.op .mv [(.const (.int .i64 0))] (some 7) true)] false) (.block 2 (.loop H65_12 L65_12))))) (.region [(.op .mv [(.tmp 5)] (some 32) true), (.op (.bin .add) [(.tmp 32), (.const (.int .i64 1))] (some 33) true), (.op .mv [(.tmp 33)] (some 5) true)] false)))
-- spec.MendPointers
def F65 : EF := ⟨(.seq (.region [(.op (.box 4) [(.tmp 0)] (some 1) true), (.op (.alloc (.agg [.nil, .nil, .nil, .nil])) [] (some 2) true)] false) (.seq (.region [(.op (.loadN 4) [(.tmp 1)] (some 10) true), (.pc (.const (.fn 158 [])) [(.tmp 10)] (some 11) true), (.op (.alloc (.agg [.nil, .nil, .nil, .nil])) [] (some 3) true), (.op (.storeN 4) [(.tmp 3), (.tmp 11)] none true)] false) (.seq (.seq (.region [(.op (.loadN 4) [(.tmp 1)] (some 12) true), (.pc (.const (.fn 153 [])) [(.tmp 12)] (some 13) true), (.op .not [(.tmp 13)] (some 14) true)] false) (.cond (.tmp 14) (.seq (.region [(.op (.loadN 4) [(.tmp 3)] (some 15) true), (.op (.storeN 4) [(.tmp 2), (.tmp 15)] none true)] false) .ret) .skip)) (.seq (.seq (.region [(.op (.faddr 2) [(.tmp 1)] (some 16) true), (.op .load1 [(.tmp 16)] (some 17) true), (.op (.iaddr 3) [(.tmp 17), (.const (.int .i64 0))] (some 18) true), (.op (.faddr 0) [(.tmp 18)] (some 19) true), (.op .load1 [(.tmp 19)] (some 20) true), (.op (.bin .neq) [(.tmp 20), (.const (.int .i64 2))] (some 21) true)] false) (.cond (.tmp 21) (.region [(.op (.faddr 2) [(.tmp 3)] (some 22) false), (.op .load1 [(.tmp 22)] (some 23) false), (.pc (.const (.fn 141 [])) [(.const (.int .i64 2))] (some 24) false), (.op (.iaddr 3) [(.tmp 23), (.const (.int .i64 0))] (some 25) true), (.op (.storeN 3) [(.tmp 25), (.tmp 24)] none true)] true) .skip)) (.seq (.region [(.op (.bslice 1 0 (.int .i64 0) []) [] (some 26) true), (.op .mv [(.tmp 26)] (some 4) true)] false) (.seq (.seq (.region [(.op .mv [(.const (.int .i64 0))] (some 5) true)] false) (.block 0 (.loop H65_8 L65_8))) (.seq (.view [.opn 3 none none 0 1, .opn 3 none none 1 1, .opn 3 none none 2 3, .opn 3 none none 3 3] (.region [(.op (.loadN 4) [(.tmp 3)] (some 94) true), (.op (.storeN 4) [(.tmp 2), (.tmp 94)] none true)] false)) .ret))))))), [(.cell 2 (.loadN 4))], 95, .one, none⟩
theorem t65 : T 65 = some F65 := tab Try.func65 (by kernel_rfl) rfl
def H66_13 : List Vw := [.tidy [1, 2, 3, 4, 6, 27, 28, 29, 37, 38, 39] [(1, none), (2, none), (3, none), (4, none), (6, none), (27, none), (28, none), (29, none), (37, none), (38, none), (39, none)]]
theorem h66_13 (b : Nat) (s : St) : vwL b H66_13 s = vwL b [.tidy [1, 2, 3, 4, 6, 27, 28, 29, 37, 38, 39] [(1, none), (2, none), (3, none), (4, none), (6, none), (27, none), (28, none), (29, none), (37, none), (38, none), (39, none)]] s := rfl
def L66_13 : EC := (.seq (.region [(.op (.bin .lss) [(.tmp 39), (.tmp 38)] (some 40) true)] false) (.seq (.cond (.tmp 40) .skip (.exit 2)) (.seq (.block 3 (.seq (.region [(.op .mv [(.tmp 39)] (some 41) true), (.op (.iaddr 1) [(.tmp 37), (.tmp 39)] (some 42) true), (.op .load1 [(.tmp 42)] (some 43) true), (.op .mv [(.tmp 41)] (some 7) true), (.op .mv [(.tmp 43)] (some 8) true)] false) (.seq (.seq (.region [(.op .mv [(.tmp 8)] (some 44) true), (.op (.bin .eql) [(.tmp 44), (.const (.int .i64 0))] (some 45) true)] false) (.cond (.tmp 45) (.exit 3) .skip)) (.seq (.region [(.op (.loadN 4) [(.tmp 1)] (some 46) false), (.op .mv [(.tmp 8)] (some 47) false), (.pc (.const (.fn 149 [])) [(.tmp 46), (.tmp 47)] (some 48) false), (.op (.field1 0) [(.tmp 48)] (some 49) false), (.op (.faddr 0) [(.tmp 6)] (some 50) false), (.op .load1 [(.tmp 50)] (some 51) false), (.op (.bin .eql) [(.tmp 51), (.const (.int .i64 2))] (some 52) false), (.op (.binB true) [(.tmp 49), (.tmp 52)] (some 53) true), (.op .mv [(.tmp 53)] (some 54) true), (.grp 54 false [(.op .mv [(.tmp 4)] (some 55) true), (.op .mv [(.tmp 8)] (some 56) true), (.pc (.const (.fn 130 [])) [(.tmp 55), (.tmp 56)] (some 57) true)] 57 58 true)] true) (.cond (.tmp 58) (.region [(.op (.faddr 2) [(.tmp 6)] (some 59) true), (.op .load1 [(.tmp 59)] (some 60) true), (.op .mv [(.tmp 7)] (some 61) true), (.op (.iaddr 1) [(.tmp 60), (.tmp 61)] (some 62) true), (.op .store1 [(.tmp 62), (.const (.int .i64 0))] none true)] false) (.region [(.op .mv [(.tmp 4)] (some 63) true), (.op .mv [(.tmp 8)] (some 64) true), (.op (.bslice 1 1 (.int .i64 0) [0]) [(.tmp 64)] (some 65) true), (.op (.append 1 8) [(.tmp 63), (.tmp 65)] (some 66) true), (.op .mv [(.tmp 66)] (some 4) true)] false)))))) (.region [(.op (.bin .add) [(.tmp 39), (.const (.int .i64 1))] (some 67) true), (.op .mv [(.tmp 67)] (some 39) true)] false))))
def H66_8 : List Vw := [.lay 4 1, .tidy [1, 2, 3, 4, 27, 28, 29] [(1, none), (2, none), (3, none), (4, none), (27, none), (28, none), (29, none)]]
theorem h66_8 (b : Nat) (s : St) : vwL b H66_8 s = vwL b [.lay 4 1, .tidy [1, 2, 3, 4, 27, 28, 29] [(1, none), (2, none), (3, none), (4, none), (27, none), (28, none), (29, none)]] s := rfl
def L66_8 : EC := (.seq (.region [(.op (.bin .lss) [(.tmp 29), (.tmp 28)] (some 30) true)] false) (.seq (.cond (.tmp 30) .skip (.exit 0)) (.seq (.block 1 (.seq (.view [.opn 27 none (some (29, 0)) 2 1] (.region [(.op (.iaddr 3) [(.tmp 27), (.tmp 29)] (some 31) true), (.op (.loadN 3) [(.tmp 31)] (some 32) true), (.op (.alloc (.agg [(.int .i64 0), (.int .i64 0), .nil])) [] (some 6) true), (.op (.storeN 3) [(.tmp 6), (.tmp 32)] none true)] false)) (.seq (.seq (.region [(.op (.faddr 0) [(.tmp 6)] (some 33) true), (.op .load1 [(.tmp 33)] (some 34) true), (.op (.bin .eql) [(.tmp 34), (.const (.int .i64 0))] (some 35) true)] false) (.cond (.tmp 35) (.exit 1) .skip)) (.seq (.region [(.op (.faddr 2) [(.tmp 6)] (some 36) true), (.op .load1 [(.tmp 36)] (some 37) true), (.op .len [(.tmp 37)] (some 38) true), (.op .mv [(.const (.int .i64 0))] (some 39) true)] false) (.block 2 (.loop H66_13 L66_13)))))) (.region [(.op (.bin .add) [(.tmp 29), (.const (.int .i64 1))] (some 68) true), (.op .mv [(.tmp 68)] (some 29) true)] false))))
-- impl.MendPointers
def F66 : EF := ⟨(.seq (.region [(.op (.box 4) [(.tmp 0)] (some 1) true), (.op (.alloc (.agg [.nil, .nil, .nil, .nil])) [] (some 2) true)] false) (.seq (.region [(.op (.loadN 4) [(.tmp 1)] (some 9) true), (.pc (.const (.fn 159 [])) [(.tmp 9)] (some 10) true), (.op (.alloc (.agg [.nil, .nil, .nil, .nil])) [] (some 3) true), (.op (.storeN 4) [(.tmp 3), (.tmp 10)] none true)] false) (.seq (.seq (.region [(.op (.loadN 4) [(.tmp 1)] (some 11) true), (.pc (.const (.fn 155 [])) [(.tmp 11)] (some 12) true), (.op .not [(.tmp 12)] (some 13) true)] false) (.cond (.tmp 13) (.seq (.region [(.op (.loadN 4) [(.tmp 3)] (some 14) true), (.op (.storeN 4) [(.tmp 2), (.tmp 14)] none true)] false) .ret) .skip)) (.seq (.seq (.region [(.op (.faddr 2) [(.tmp 3)] (some 15) true), (.op .load1 [(.tmp 15)] (some 16) true), (.op (.iaddr 3) [(.tmp 16), (.const (.int .i64 0))] (some 17) true), (.op (.faddr 0) [(.tmp 17)] (some 18) true), (.op .load1 [(.tmp 18)] (some 19) true), (.op (.bin .neq) [(.tmp 19), (.const (.int .i64 2))] (some 20) true)] false) (.cond (.tmp 20) (.region [(.op (.faddr 2) [(.tmp 3)] (some 21) false), (.op .load1 [(.tmp 21)] (some 22) false), (.pc (.const (.fn 143 [])) [(.const (.int .i64 2))] (some 23) false), (.op (.iaddr 3) [(.tmp 22), (.const (.int .i64 0))] (some 24) true), (.op (.storeN 3) [(.tmp 24), (.tmp 23)] none true)] true) .skip)) (.seq (.region [(.op (.bslice 1 0 (.int .i64 0) []) [] (some 25) true), (.op .mv [(.tmp 25)] (some 4) true)] false) (.seq (.seq (.region [(.op (.faddr 2) [(.tmp 3)] (some 26) true), (.op .load1 [(.tmp 26)] (some 27) true), (.op .len [(.tmp 27)] (some 28) true), (.op .mv [(.const (.int .i64 0))] (some 29) true)] false) (.block 0 (.loop H66_8 L66_8))) (.seq (.view [.opn 3 none none 0 1, .opn 3 none none 1 1, .opn 3 none none 2 3, .opn 3 none none 3 3] (.region [(.op (.loadN 4) [(.tmp 3)] (some 69) true), (.op (.storeN 4) [(.tmp 2), (.tmp 69)] none true)] false)) .ret))))))), [(.cell 2 (.loadN 4))], 70, .one, none⟩
theorem t66 : T 66 = some F66 := tab Try.func66 (by kernel_rfl) rfl
-- spec.l11Block
def F165 : EF := ⟨(.seq (.region [(.op (.box 4) [(.tmp 0)] (some 2) true), (.op (.alloc (.agg [(.bool false), .nil, (.str ⟨#[]⟩)])) [] (some 4) true), (.op .mv [(.const (.bool false))] (some 5) true)] false) (.seq (.seq (.region [(.op .mv [(.tmp 1)] (some 6) true), (.op (.faddr 3) [(.tmp 2)] (some 7) true), (.op .load1 [(.tmp 7)] (some 8) true), (.op .len [(.tmp 8)] (some 9) true), (.pc (.const (.fn 116 [])) [(.tmp 6), (.const (.int .i64 1)), (.tmp 9)] (some 10) true), (.op .not [(.tmp 10)] (some 11) true)] false) (.cond (.tmp 11) (.seq (.region [(.op (.build [(.bool false), .nil, (.str ⟨#[]⟩)] []) [] (some 12) true), (.op (.storeN 3) [(.tmp 4), (.tmp 12)] none true), (.op .mv [(.const (.bool false))] (some 5) true)] false) .ret) .skip)) (.seq (.region [(.op (.faddr 3) [(.tmp 2)] (some 13) true), (.op .load1 [(.tmp 13)] (some 14) true), (.op .mv [(.tmp 1)] (some 15) true), (.op (.bin .sub) [(.tmp 15), (.const (.int .i64 1))] (some 16) true), (.op (.iaddr 3) [(.tmp 14), (.tmp 16)] (some 17) true), (.op (.loadN 3) [(.tmp 17)] (some 18) true), (.op (.storeN 3) [(.tmp 4), (.tmp 18)] none true), (.op .mv [(.const (.bool true))] (some 5) true)] false) .ret))), [(.cell 4 (.loadN 3)), (.tmp 5)], 19, (.agg [(.agg [.one, .rrow 2, .one]), .one]), none⟩
theorem t165 : T 165 = some F165 := tab Try.func165 (by kernel_rfl) rfl
-- laws.FnExactMendPointers
def F11 : EF := ⟨(.seq (.region [(.op (.box 4) [(.tmp 0)] (some 1) true), (.op .mv [(.const (.bool false))] (some 2) true)] false) (.seq (.region [(.op .mv [(.const (.int .i64 1048576))] (some 3) true)] false) (.seq (.region [(.op (.loadN 4) [(.tmp 1)] (some 11) true), (.op .mv [(.tmp 3)] (some 12) true), (.pc (.const (.fn 38 [])) [(.tmp 11), (.tmp 12)] (some 13) true), (.op .mv [(.tmp 13)] (some 3) true)] false) (.seq (.seq (.region [(.op .mv [(.tmp 3)] (some 14) true), (.op (.bin .lss) [(.tmp 14), (.const (.int .i64 0))] (some 15) true)] false) (.cond (.tmp 15) (.seq (.region [(.op .mv [(.const (.bool true))] (some 2) true)] false) .ret) .skip)) (.seq (.region [(.op (.loadN 4) [(.tmp 1)] (some 16) true), (.pc (.const (.fn 40 [])) [(.tmp 16)] (some 17) true), (.pc (.const (.fn 65 [])) [(.tmp 17)] (some 18) true), (.op (.alloc (.agg [.nil, .nil, .nil, .nil])) [] (some 4) true), (.op (.storeN 4) [(.tmp 4), (.tmp 18)] none true)] false) (.seq (.region [(.op (.loadN 4) [(.tmp 1)] (some 19) true), (.pc (.const (.fn 40 [])) [(.tmp 19)] (some 20) true), (.op (.alloc (.agg [.nil, .nil, .nil, .nil])) [] (some 5) true), (.op (.storeN 4) [(.tmp 5), (.tmp 20)] none true)] false) (.seq (.region [(.op (.loadN 4) [(.tmp 5)] (some 21) true), (.pc (.const (.fn 66 [])) [(.tmp 21)] (some 22) true), (.op (.alloc (.agg [.nil, .nil, .nil, .nil])) [] (some 6) true), (.op (.storeN 4) [(.tmp 6), (.tmp 22)] none true)] false) (.seq (.seq (.region [(.op (.loadN 4) [(.tmp 6)] (some 23) true), (.op (.loadN 4) [(.tmp 4)] (some 24) true), (.pc (.const (.fn 42 [])) [(.tmp 23), (.tmp 24)] (some 25) true), (.op .not [(.tmp 25)] (some 26) true)] false) (.cond (.tmp 26) (.seq (.region [(.op .mv [(.const (.bool false))] (some 2) true)] false) .ret) .skip)) (.seq (.seq (.region [(.op (.loadN 4) [(.tmp 5)] (some 27) false), (.op (.loadN 4) [(.tmp 1)] (some 28) false), (.pc (.const (.fn 40 [])) [(.tmp 28)] (some 29) false), (.pc (.const (.fn 42 [])) [(.tmp 27), (.tmp 29)] (some 30) true), (.op .not [(.tmp 30)] (some 31) true)] true) (.cond (.tmp 31) (.seq (.region [(.op .mv [(.const (.bool false))] (some 2) true)] false) .ret) .skip)) (.seq (.region [(.op .mv [(.const (.int .i64 1))] (some 7) true)] false) (.seq (.region [(.op (.loadN 4) [(.tmp 5)] (some 32) true), (.op .mv [(.tmp 7)] (some 33) true), (.sc (.const (.fn 63 [])) [(.tmp 32), (.tmp 33)] (some 34) true), (.op .mv [(.tmp 34)] (some 7) true)] false) (.seq (.seq (.region [(.op .mv [(.tmp 7)] (some 35) true), (.op (.bin .lss) [(.tmp 35), (.const (.int .i64 0))] (some 36) true), (.op .mv [(.tmp 36)] (some 37) true), (.grp 37 false [(.op (.loadN 4) [(.tmp 6)] (some 38) true), (.op (.loadN 4) [(.tmp 4)] (some 39) true), (.pc (.const (.fn 42 [])) [(.tmp 38), (.tmp 39)] (some 40) true), (.op .not [(.tmp 40)] (some 41) true)] 41 42 true)] false) (.cond (.tmp 42) (.seq (.region [(.op .mv [(.const (.bool false))] (some 2) true)] false) .ret) .skip)) (.seq (.region [(.op .mv [(.const (.int .i64 1))] (some 8) true)] false) (.seq (.region [(.op (.loadN 4) [(.tmp 6)] (some 43) true), (.op .mv [(.tmp 8)] (some 44) true), (.sc (.const (.fn 63 [])) [(.tmp 43), (.tmp 44)] (some 45) true), (.op .mv [(.tmp 45)] (some 8) true)] false) (.seq (.region [(.op .mv [(.const (.int .i64 1))] (some 9) true)] false) (.seq (.region [(.op (.loadN 4) [(.tmp 6)] (some 46) true), (.op .mv [(.tmp 9)] (some 47) true), (.pc (.const (.fn 67 [])) [(.tmp 46), (.tmp 47)] (some 48) true), (.op .mv [(.tmp 48)] (some 9) true)] false) (.seq (.seq (.region [(.op .mv [(.tmp 9)] (some 49) true), (.op (.bin .lss) [(.tmp 49), (.const (.int .i64 0))] (some 50) true)] false) (.cond (.tmp 50) (.seq (.region [(.op .mv [(.const (.bool false))] (some 2) true)] false) .ret) .skip)) (.seq (.seq (.region [(.op .mv [(.tmp 9)] (some 51) true), (.op .mv [(.tmp 8)] (some 52) true), (.op (.bin .neq) [(.tmp 51), (.tmp 52)] (some 53) true)] false) (.cond (.tmp 53) (.seq (.region [(.op .mv [(.const (.bool false))] (some 2) true)] false) .ret) .skip)) (.seq (.region [(.op (.loadN 4) [(.tmp 1)] (some 54) true), (.pc (.const (.fn 40 [])) [(.tmp 54)] (some 55) true), (.pc (.const (.fn 66 [])) [(.tmp 55)] (some 56) true), (.op (.alloc (.agg [.nil, .nil, .nil, .nil])) [] (some 10) true), (.op (.storeN 4) [(.tmp 10), (.tmp 56)] none true)] false) (.seq (.seq (.region [(.op (.loadN 4) [(.tmp 10)] (some 57) true), (.op (.loadN 4) [(.tmp 4)] (some 58) true), (.pc (.const (.fn 42 [])) [(.tmp 57), (.tmp 58)] (some 59) true), (.op .not [(.tmp 59)] (some 60) true)] false) (.cond (.tmp 60) (.seq (.region [(.op .mv [(.const (.bool false))] (some 2) true)] false) .ret) .skip)) (.seq (.region [(.op .mv [(.const (.int .i64 1))] (some 9) true)] false) (.seq (.region [(.op (.loadN 4) [(.tmp 6)] (some 61) true), (.op .mv [(.tmp 9)] (some 62) true), (.pc (.const (.fn 67 [])) [(.tmp 61), (.tmp 62)] (some 63) true), (.op .mv [(.tmp 63)] (some 9) true)] false) (.seq (.seq (.region [(.op .mv [(.tmp 9)] (some 64) true), (.op (.bin .lss) [(.tmp 64), (.const (.int .i64 0))] (some 65) true)] false) (.cond (.tmp 65) (.seq (.region [(.op .mv [(.const (.bool false))] (some 2) true)] false) .ret) .skip)) (.seq (.seq (.region [(.op .mv [(.tmp 9)] (some 66) true), (.op .mv [(.tmp 8)] (some 67) true), (.op (.bin .neq) [(.tmp 66), (.tmp 67)] (some 68) true)] false) (.cond (.tmp 68) (.seq (.region [(.op .mv [(.const (.bool false))] (some 2) true)] false) .ret) .skip)) (.seq (.region [(.op .mv [(.const (.bool true))] (some 2) true)] false) .ret))))))))))))))))))))))))), [(.tmp 2)], 69, .one, none⟩
theorem t11 : T 11 = some F11 := tab Try.func11 (by kernel_rfl) rfl
end Go.Proofs.Ytaaajjinpppgeaa
/- Shared: what is seen twice. Own work; no condition. -/
set_option linter.unusedVariables false
set_option linter.unusedSimpArgs false
set_option linter.unusedSectionVars false
namespace Go.Proofs.Ytaaajjinpppgeaa
open Go Go.Abs
set_option maxRecDepth 100000
theorem e126 (xs : List Int) (y : Int) (ha : xs.length ≤ maxLen) : E T 126 [.ro 1 (xs.map iv), .int .i64 y] [] = some (.bool (decide (y ∈ xs)), []) := by
  rw [E_eq t126 (Nat.le_of_ble_eq_true rfl)]
  simp only [F126, h126_2, go_sem, seval, bnd_ite]
  unfold maxLen at ha
  refine (XL_inv (T := T) (b := 0) (hd := H126_2) (x := L126_2) (β := Unit) (fun i _ => ⟨[(0, .ro 1 (xs.map iv)), (1, .int .i64 y), (5, .int .i64 (i : Nat))], []⟩)
    (fun i _ => y ∉ xs.take i) xs.length (fun r => (r.1 = .exit 0 ∧ y ∉ xs) ∨ (r.1 = .ret ∧ lookA r.2.env 4 = .bool true ∧ y ∈ xs)) ?step ?last 0 () (by omega) (by simp)).elim ?main
  case step =>
    intro i _ hi hI
    obtain ⟨p, hp⟩ := get_at hi
    have hi1 : (i : Int) < (xs.length : Int) := by omega
    simp only [XG, L126_2, h126_2, go_sem, seval, bnd_ite, hi1, gD_map hp, iv, Int.natCast_nonneg, w_i64 ((i : Int) + 1) (by omega)]
    by_cases he : p = y
    · right
      simp only [he, decide_true, if_true]
      exact .mk (by simp) (.inr ⟨rfl, rfl, he ▸ List.mem_of_getElem? hp⟩)
    · left
      simp only [he, decide_false, Bool.false_eq_true, if_false]
      exact ⟨(), rfl, by rw [take_snoc hp]; simp [hI, Ne.symm he]⟩
  case last =>
    intro _ hI
    rw [List.take_length] at hI
    simp only [XG, L126_2, h126_2, go_sem, seval, bnd_ite, Int.lt_irrefl, decide_false]
    exact .mk (by simp) (.inl ⟨rfl, hI⟩)
  case main =>
  rintro ⟨x, st⟩ ⟨h1, h2, h3⟩
  have hs : ((0 : Nat) : Int) = 0 := rfl
  rw [hs] at h1
  simp only [h1]
  obtain ⟨e, m⟩ := st
  rcases h3 with ⟨hx, h4⟩ | ⟨hx, h4, h5⟩
  · simp only at hx; subst hx
    simp only [go_sem, seval]; simp [h4]
  · simp only at hx h4; subst hx
    simp only [go_sem, seval, h4]; simp [h5]
theorem e215 (xs : List Int) (y : Int) (ha : xs.length ≤ maxLen) : ∃ r : Int, E T 215 [.ro 1 (xs.map iv), .int .i64 y] [] = some (.int .i64 r, []) ∧ (0 ≤ r ↔ y ∈ xs) := by
  rw [E_eq t215 (Nat.le_of_ble_eq_true rfl)]
  simp only [F215, h215_2, go_sem, seval, bnd_ite]
  unfold maxLen at ha
  refine (XL_inv (T := T) (b := 0) (hd := H215_2) (x := L215_2) (β := Unit) (fun i _ => ⟨[(0, .ro 1 (xs.map iv)), (1, .int .i64 y), (7, .int .i64 xs.length), (8, .int .i64 (i : Nat))], []⟩)
    (fun i _ => y ∉ xs.take i) xs.length (fun r => (r.1 = .exit 0 ∧ y ∉ xs) ∨ (r.1 = .ret ∧ ∃ n : Nat, lookA r.2.env 4 = .int .i64 n ∧ y ∈ xs)) ?step ?last 0 () (by omega) (by simp)).elim ?main
  case step =>
    intro i _ hi hI
    obtain ⟨p, hp⟩ := get_at hi
    have hi1 : (i : Int) < (xs.length : Int) := by omega
    simp only [XG, L215_2, h215_2, go_sem, seval, bnd_ite, hi1, gD_map hp, iv, Int.natCast_nonneg, w_i64 ((i : Int) + 1) (by omega)]
    by_cases he : y = p
    · right
      simp only [he, decide_true, if_true]
      exact .mk (by simp) (.inr ⟨rfl, i, rfl, List.mem_of_getElem? hp⟩)
    · left
      simp only [he, decide_false, Bool.false_eq_true, if_false]
      exact ⟨(), rfl, by rw [take_snoc hp]; simp [hI, he]⟩
  case last =>
    intro _ hI
    rw [List.take_length] at hI
    simp only [XG, L215_2, h215_2, go_sem, seval, bnd_ite, Int.lt_irrefl, decide_false]
    exact .mk (by simp) (.inl ⟨rfl, hI⟩)
  case main =>
  rintro ⟨x, st⟩ ⟨h1, h2, h3⟩
  have hs : ((0 : Nat) : Int) = 0 := rfl
  rw [hs] at h1
  simp only [h1]
  obtain ⟨e, m⟩ := st
  rcases h3 with ⟨hx, h4⟩ | ⟨hx, n, h4, h5⟩
  · simp only at hx; subst hx
    simp only [go_sem, seval]; exact ⟨-1, rfl, by simp [h4]⟩
  · simp only at hx h4; subst hx
    simp only [go_sem, seval, h4]; exact ⟨n, rfl, by simp [h5]⟩
theorem e130 (xs : List Int) (y : Int) (ha : xs.length ≤ maxLen) : E T 130 [.ro 1 (xs.map iv), .int .i64 y] [] = some (.bool (decide (y ∈ xs)), []) := by
  rw [E_eq t130 (Nat.le_of_ble_eq_true rfl)]
  obtain ⟨r, h1, h2⟩ := e215 xs y ha
  simp only [F130, go_sem, seval, bnd_ite, h1, ← h2]
end Go.Proofs.Ytaaajjinpppgeaa
/- Inodes and blocks of a disk by their numbers, where they are. Own work; no condition. -/
set_option linter.unusedVariables false
set_option linter.unusedSimpArgs false
set_option linter.unusedSectionVars false
namespace Go.Proofs.Ytaaajjinpppgeaa
open Go Go.Abs
set_option maxRecDepth 100000
def ino0 : Ino := ⟨0, 0, []⟩
theorem getD_at {α : Type} {l : List α} {i : Nat} {p z : α} (h : l[i]? = some p) : l.getD i z = p := by simp [List.getD, h]
theorem e176n (x : Dsk) (i : Int) (hc : inside i 1 x.inos.length = false) : E T 176 [dsk x, .int .i64 i] [] = some (ino ino0, []) := by
  rw [E_eqW t176 (Nat.le_of_ble_eq_true rfl)]
  simp only [dsk, F176, go_sem, seval, bnd_ite, e117i, hc, ino, ino0, List.map_nil]
theorem e176 (x : Dsk) (i : Int) (hl : x.inos.length ≤ 1048576) (hc : inside i 1 x.inos.length = true) (p : Ino) (hp : x.inos[(i - 1).toNat]? = some p) : E T 176 [dsk x, .int .i64 i] [] = some (ino p, []) := by
  rw [E_eqW t176 (Nat.le_of_ble_eq_true rfl)]
  have hc' := hc
  simp only [inside, Bool.and_eq_true, decide_eq_true_eq] at hc'
  have gp : (x.inos.map ino).getD (i - 1).toNat .undef = .agg [.int .i64 p.kind, .int .i64 p.links, .ro 1 (p.ptrs.map iv)] := gD_map hp
  have b1 : 0 ≤ i - 1 := by omega
  have b2 : i - 1 < (x.inos.length : Int) := by omega
  simp only [dsk, F176, go_sem, seval, bnd_ite, e117i, hc, gp, b1, b2, w_i64 (i - 1) (by omega), ino]
theorem e165 (x : Dsk) (i : Int) (hl : x.blks.length ≤ 1048576) (hc : inside i 1 x.blks.length = true) (p : Blk) (hp : x.blks[(i - 1).toNat]? = some p) : E T 165 [dsk x, .int .i64 i] [] = some (.tup [blk p, .bool true], []) := by
  rw [E_eqW t165 (Nat.le_of_ble_eq_true rfl)]
  have hc' := hc
  simp only [inside, Bool.and_eq_true, decide_eq_true_eq] at hc'
  have gp : (x.blks.map blk).getD (i - 1).toNat .undef = .agg [.bool p.dir, .ro 2 (p.slots.map slt), .str p.text] := gD_map hp
  have b1 : 0 ≤ i - 1 := by omega
  have b2 : i - 1 < (x.blks.length : Int) := by omega
  simp only [dsk, F165, go_sem, seval, bnd_ite, e116i, hc, gp, b1, b2, w_i64 (i - 1) (by omega), blk]
theorem e165n (x : Dsk) (i : Int) (hc : inside i 1 x.blks.length = false) : E T 165 [dsk x, .int .i64 i] [] = some (.tup [.agg [.bool false, .ro 2 [], .str ⟨#[]⟩], .bool false], []) := by
  rw [E_eqW t165 (Nat.le_of_ble_eq_true rfl)]
  simp only [dsk, F165, go_sem, seval, bnd_ite, e116i, hc]
end Go.Proofs.Ytaaajjinpppgeaa
/- What is right: one that leans, small functions. Own work; no condition. -/
set_option linter.unusedVariables false
set_option linter.unusedSimpArgs false
set_option linter.unusedSectionVars false
namespace Go.Proofs.Ytaaajjinpppgeaa
open Go Go.Abs
set_option maxRecDepth 100000
def slt0 : Slt := ⟨⟨#[]⟩, 0⟩
def mmV (x : Mm) : List AV := [.ro 1 (x.disk.used.map bv), .ro 1 (x.disk.taken.map bv), .ro 3 (x.disk.inos.map ino), .ro 3 (x.disk.blks.map blk), .ro 1 (x.dirty.map bv), .ro 11 (x.deps.map dp), .int .i64 x.next]
def dpV (d : Dp) : List AV := [.int .i64 d.id, .int .i64 d.kind, .int .i64 d.ino, .int .i64 d.ptr, .int .i64 d.block, .int .i64 d.slot, .str d.name, .bool d.bits, .bool d.other, .int .i64 d.after, .ro 1 (d.blocks.map iv)]
structure DskOk (x : Dsk) : Prop where
  ino : ∀ p ∈ x.inos, inoOk p = true
  blk : ∀ p ∈ x.blks, blkOk p = true
  used : x.used.length = 16
  taken : x.taken.length = 8
  inos : x.inos.length = 8
  blks : x.blks.length = 16
theorem dskOk_iff {x : Dsk} : dskOk x = true ↔ DskOk x := by
  unfold dskOk
  simp only [Bool.and_eq_true, List.all_eq_true, decide_eq_true_eq]
  exact ⟨fun ⟨a, b, ⟨⟨c, d⟩, e⟩, f⟩ => ⟨a, b, c, d, e, f⟩, fun ⟨a, b, c, d, e, f⟩ => ⟨a, b, ⟨⟨c, d⟩, e⟩, f⟩⟩
structure InoOk (x : Ino) : Prop where
  kind : 0 ≤ x.kind ∧ x.kind ≤ 2
  links : 0 ≤ x.links ∧ x.links ≤ 200
  two : x.ptrs.length = 2
  ptr : ∀ p ∈ x.ptrs, 0 ≤ p ∧ p ≤ 16 ∧ (x.kind = 0 → p = 0)
  none : x.kind = 0 → x.links = 0
theorem inoOk_iff {x : Ino} : inoOk x = true ↔ InoOk x := by
  unfold inoOk ptrOk inside
  simp only [Bool.and_eq_true, List.all_eq_true, decide_eq_true_eq, Bool.not_eq_true', Bool.and_eq_false_iff, decide_eq_false_iff_not, Bool.or_eq_true]
  constructor
  · rintro ⟨a, ⟨⟨b, c⟩, d⟩, e⟩
    refine ⟨b, c, d, fun p hp => ?_, fun h => ?_⟩
    · have := a p hp; omega
    · omega
  · rintro ⟨b, c, d, a, e⟩
    refine ⟨fun p hp => ?_, ⟨⟨b, c⟩, d⟩, ?_⟩
    · have := a p hp; omega
    · omega
theorem blkOk_dir {x : Blk} (h : blkOk x = true) (hd : x.dir = true) : x.slots.length = 4 ∧ x.text = ⟨#[]⟩ ∧ ∀ (i : Nat) s, x.slots[i]? = some s → slotOk x.slots i s = true := by
  unfold blkOk at h
  rw [hd, if_pos rfl] at h
  simp only [Bool.and_eq_true, List.all_eq_true, decide_eq_true_eq] at h
  obtain ⟨h1, h2, h3⟩ := h
  refine ⟨h2, h3, fun i s hs => ?_⟩
  have := h1 (s, i) (List.mem_of_getElem? (i := i) (by rw [List.getElem?_zipIdx, hs]; simp))
  exact this
theorem blkOk_txt {x : Blk} (h : blkOk x = true) (hd : x.dir = false) : x.slots = [] ∧ x.text.size ≤ 16 := by
  rw [blk_nil hd] at h
  simp only [Bool.and_eq_true, decide_eq_true_eq] at h
  exact ⟨List.eq_nil_of_length_eq_zero h.1, h.2⟩
theorem e228 (d : Dp) : E T 228 [dp d] [] = some (.bool (decide (d.kind = 1) || decide (d.kind = 6)), []) := by
  rw [E_eq t228 (Nat.le_of_ble_eq_true rfl)]
  simp only [dp, F228, go_sem, seval, bnd_ite]
theorem e229 (d : Dp) : E T 229 [dp d] [] = some (.bool (decide (d.kind = 2) || decide (d.kind = 3)), []) := by
  rw [E_eq t229 (Nat.le_of_ble_eq_true rfl)]
  simp only [dp, F229, go_sem, seval, bnd_ite]
theorem e232 (d : Dp) (n : Int) : E T 232 [dp d, .rop [.int .i64 n]] [] = some (.bool (decide (d.id = n)), []) := by
  rw [E_eq t232 (Nat.le_of_ble_eq_true rfl)]
  simp only [dp, F232, go_sem, seval, bnd_ite]
def placeOf (l : List Dp) (n : Int) : Int := match l.findIdx? (fun d => decide (d.id = n)) with | some i => (i : Nat) | none => -1
theorem e231 (l : List Dp) (n : Int) (hl : l.length ≤ maxLen) : E T 231 [.ro 11 (l.map dp), .fn 232 [.rop [.int .i64 n]]] [] = some (.int .i64 (placeOf l n), []) := by
  rw [E_eq t231 (Nat.le_of_ble_eq_true rfl)]
  unfold maxLen at hl
  unfold placeOf
  refine (XL_find (T := T) (b := 0) (hd := H231_2) (x := L231_2) l (fun d => decide (d.id = n)) (fun i => ⟨[(0, .ro 11 (l.map dp)), (1, .fn 232 [.rop [.int .i64 n]]), (7, .int .i64 l.length), (8, .int .i64 (i : Nat))], []⟩)
    (fun o r => match o with | some i => r.1 = .ret ∧ lookA r.2.env 4 = .int .i64 (i : Nat) | none => r.1 = .exit 0) ?step ?hit ?last).elim ?main
  case step =>
    intro i d hp hi hP _
    have hi1 : (i : Int) < (l.length : Int) := by omega
    have gp : (l.map dp).getD i .undef = .agg (dpV d) := gD_map hp
    have e1 : E T 232 [.agg (dpV d), .rop [.int .i64 n]] [] = some (.bool (decide (d.id = n)), []) := e232 d n
    unfold dpV at gp e1
    simp only [XG, L231_2, h231_2, go_sem, seval, bnd_ite, hi1, gp, Int.natCast_nonneg, w_i64 ((i : Int) + 1) (by omega), e1, hP, Bool.false_eq_true, if_false]
    rfl
  case hit =>
    intro i d hp hi hP _
    have hi1 : (i : Int) < (l.length : Int) := by omega
    have gp : (l.map dp).getD i .undef = .agg (dpV d) := gD_map hp
    have e1 : E T 232 [.agg (dpV d), .rop [.int .i64 n]] [] = some (.bool (decide (d.id = n)), []) := e232 d n
    unfold dpV at gp e1
    simp only [XG, L231_2, h231_2, go_sem, seval, bnd_ite, hi1, gp, Int.natCast_nonneg, w_i64 ((i : Int) + 1) (by omega), e1, hP, if_true]
    exact .mk (by simp) ⟨rfl, rfl⟩
  case last =>
    intro _
    simp only [XG, L231_2, h231_2, go_sem, seval, bnd_ite, Int.lt_irrefl, decide_false]
    exact .mk (by simp) rfl
  case main =>
  rintro ⟨y, e, m⟩ ⟨k1, k2⟩
  have hs : ((0 : Nat) : Int) = 0 := rfl
  simp only [hs] at k1
  split at k2
  · rename_i o i heq
    obtain ⟨k2, k3⟩ := k2
    simp only at k2 k3; subst k2
    simp only [F231, h231_2, go_sem, seval, bnd_ite, k1, k3, heq]
  · rename_i o heq
    simp only at k2; subst k2
    simp only [F231, h231_2, go_sem, seval, bnd_ite, k1, heq]
theorem e157 (x : Mm) (n : Int) (hl : x.deps.length ≤ maxLen) : E T 157 [mm x, .int .i64 n] [] = some (.int .i64 (placeOf x.deps n), []) := by
  rw [E_eq t157 (Nat.le_of_ble_eq_true rfl)]
  have e1 := e231 x.deps n hl
  simp only [mm, F157, go_sem, seval, bnd_ite, e1]
def newId (l : List Dp) (i : Nat) (d : Dp) : Bool := (l.take i).all fun q => !decide (q.id = d.id)
theorem placeOf_at {l : List Dp} {i : Nat} {d : Dp} (h : l[i]? = some d) : placeOf l d.id = (i : Nat) ↔ newId l i d = true := by
  unfold placeOf newId
  obtain ⟨hi, rfl⟩ := List.getElem?_eq_some_iff.1 h
  cases e : l.findIdx? (fun x => decide (x.id = l[i].id)) with
  | none =>
    rw [find_none] at e
    have := e l[i] (List.getElem_mem hi)
    simp at this
  | some j =>
    rw [List.findIdx?_eq_some_iff_getElem] at e
    obtain ⟨hj, h1, h2⟩ := e
    simp only [decide_eq_true_eq] at h1
    constructor
    · intro hij
      have hij : ((j : Nat) : Int) = (i : Nat) := hij
      have : j = i := by omega
      subst this
      rw [List.all_eq_true]
      intro q hq
      obtain ⟨k, hk, rfl⟩ := List.mem_take_iff_getElem.1 hq
      have := h2 k (by omega)
      simpa using this
    · intro hall
      rw [List.all_eq_true] at hall
      by_cases c : j < i
      · have := hall l[j] (List.mem_take_iff_getElem.2 ⟨j, by omega, rfl⟩)
        simp [h1] at this
      · by_cases c2 : i < j
        · have := h2 i c2; simp at this
        · have : j = i := by omega
          rw [this]
def depBase (n : Int) (d : Dp) : Bool := inside d.id 1 (n - 1) && inside d.kind 1 6 && inside d.ino 1 8 && inside d.ptr 0 1 && inside d.block 0 16 && inside d.slot 0 3 && inside d.after 0 (n - 1)
def depBlocks (d : Dp) : Bool := d.blocks.all fun p => inside p 1 16
def blkAt (x : Dsk) (i : Int) : Blk := x.blks.getD (i - 1).toNat blk0
def inoAt (x : Dsk) (i : Int) : Ino := x.inos.getD (i - 1).toNat ino0
def depAt (x : Dsk) (d : Dp) : Bool :=
  if d.kind = 1 ∨ d.kind = 6 then decide (0 < d.block) && decide ((inoAt x d.ino).ptrs.getD d.ptr.toNat 0 = d.block)
  else if d.kind = 2 ∨ d.kind = 3 then decide (0 < d.block) && (blkAt x d.block).dir && decide (((blkAt x d.block).slots.getD d.slot.toNat slt0).ino = d.ino)
  else if d.kind = 4 then decide (0 < d.block) && (blkAt x d.block).dir && nameOk d.name
  else true
end Go.Proofs.Ytaaajjinpppgeaa
/- DropDep: the reference's side. Own work; no condition. -/
set_option linter.unusedVariables false
set_option linter.unusedSimpArgs false
set_option linter.unusedSectionVars false
namespace Go.Proofs.Ytaaajjinpppgeaa
open Go Go.Abs
set_option maxRecDepth 100000
/-- A dep whose row was handed on. -/
def gone (x : Dp) : AV := .agg [.int .i64 x.id, .int .i64 x.kind, .int .i64 x.ino, .int .i64 x.ptr, .int .i64 x.block, .int .i64 x.slot, .str x.name, .bool x.bits, .bool x.other, .int .i64 x.after, .undef]
theorem gone_cool (x : Dp) : coolX (gone x) = true := rfl
theorem gone_len (x : Dp) : (gone x).cells.length = 11 := rfl
def mixD (l : List Dp) (i : Nat) : List AV := (l.take i).map gone ++ (l.drop i).map dpO
theorem mixD_cool (l : List Dp) (i : Nat) : ∀ x ∈ mixD l i, coolX x = true := by
  intro x hx
  rcases List.mem_append.1 hx with h | h
  · obtain ⟨d, _, rfl⟩ := List.mem_map.1 h; exact gone_cool d
  · obtain ⟨d, _, rfl⟩ := List.mem_map.1 h; exact dpO_cool d
theorem cools_mi (g : Bool → Nat → Nat → Nat → AV) {L : List AV} (h : ∀ x ∈ L, coolX x = true) : mapIdL g L = L := by
  rw [mapIdL_map]
  exact (List.map_congr_left fun x hx => ((cool_ids g (fun _ _ _ _ => []) x).2 (h x hx)).1).trans (List.map_id' L)
theorem cools_is (u : Bool → Nat → Nat → Nat → List Nat) {L : List AV} (h : ∀ x ∈ L, coolX x = true) : idsL u L = [] := by
  rw [idsL_map]
  refine List.eq_nil_iff_forall_not_mem.2 fun y hy => ?_
  obtain ⟨x, hx, hy⟩ := List.mem_flatMap.1 hy
  rw [((cool_ids (fun _ _ _ _ => .undef) u x).2 (h x hx)).2] at hy
  cases hy
theorem mixD_facts {l : List Dp} {i : Nat} {p : Dp} (hp : l[i]? = some p) :
    ∃ L, mixD l i = L ∧ L.length = l.length ∧ (∀ g, mapIdL g L = L) ∧ (∀ u, idsL u L = []) ∧ L.getD i .undef = dpO p ∧ L.set i (gone p) = mixD l (i + 1) ∧
      (∀ y, (L.set i y).getD i .undef = y) ∧ (∀ y z, (L.set i y).set i z = L.set i z) := by
  have hi := (List.getElem?_eq_some_iff.1 hp).1
  have hpe := (List.getElem?_eq_some_iff.1 hp).2
  have hl : (mixD l i).length = l.length := by simp [mixD]; omega
  have hdr : l.drop i = p :: l.drop (i + 1) := by rw [← hpe]; exact List.drop_eq_getElem_cons hi
  have ht : ((l.take i).map gone).length = i := by simp; omega
  refine ⟨_, rfl, hl, fun g => cools_mi g (mixD_cool l i), fun u => cools_is u (mixD_cool l i), ?_, ?_, fun y => gD_set (by omega), fun y z => List.set_set ..⟩
  · unfold mixD
    rw [List.getD_eq_getElem?_getD, List.getElem?_append_right (by omega), ht, hdr]
    simp
  · unfold mixD
    rw [List.set_append_right _ _ (by omega), ht, hdr, take_snoc hp]
    simp
def dropStep (id : Int) (K : List Dp) (d : Dp) : List Dp := if d.id = id then K else K ++ [d]
theorem dropFold (id : Int) (l : List Dp) : ∀ K, l.foldl (dropStep id) K = K ++ l.filter (fun d => !decide (d.id = id)) := by
  induction l with
  | nil => intro K; simp
  | cons d l ih =>
    intro K
    rw [List.foldl_cons, ih]
    unfold dropStep
    by_cases h : d.id = id <;> simp [h]
def dropM (x : Mm) (id : Int) : Mm := { x with deps := x.deps.filter (fun d => !decide (d.id = id)) }
def mem91 (x : Mm) (i : Nat) (K : List Dp) : Mem := [some (7, [.agg [.nil, .nil, .nil, .nil, .nil, .nil, .int .i64 0]]),
  some (7, [.agg [.own 1 (x.disk.used.map bv), .own 1 (x.disk.taken.map bv), .own 3 (x.disk.inos.map inoO), .own 3 (x.disk.blks.map blkO), .own 1 (x.dirty.map bv), .sl 3 0 x.deps.length, .int .i64 x.next]]), some (11, K.map dpO), some (11, mixD x.deps i)]
theorem in91 (x : Mm) (h : x.sm) (id : Int) : ∃ r, XL T 0 H91_4 L91_4 ⟨[(1, .int .i64 id), (4, .ptr 0 0 0), (5, .ptr 1 0 0), (6, .sl 2 0 0), (7, .int .i64 0)], mem91 x 0 []⟩ = some r ∧
    r.1 = .exit 0 ∧ lookA r.2.env 4 = .ptr 0 0 0 ∧ lookA r.2.env 5 = .ptr 1 0 0 ∧ lookA r.2.env 6 = .sl 2 0 (x.deps.foldl (dropStep id) []).length ∧ r.2.mem = mem91 x x.deps.length (x.deps.foldl (dropStep id) []) := by
  have hl := h.deps
  refine XL_each x.deps (dropStep id) (fun i K => ⟨[(1, .int .i64 id), (4, .ptr 0 0 0), (5, .ptr 1 0 0), (6, .sl 2 0 K.length), (7, .int .i64 (i : Nat))], mem91 x i K⟩) (fun i K => K.length ≤ i)
    (fun K r => r.1 = .exit 0 ∧ lookA r.2.env 4 = .ptr 0 0 0 ∧ lookA r.2.env 5 = .ptr 1 0 0 ∧ lookA r.2.env 6 = .sl 2 0 K.length ∧ r.2.mem = mem91 x x.deps.length K) ?step ?last [] (Nat.le_refl _)
  case step =>
    intro i K d hd hi hI
    refine ⟨?_, by unfold dropStep; split; (· omega); (· simp; omega)⟩
    have k1 : (i : Int) < (x.deps.length : Int) := by omega
    obtain ⟨L, hL, ll, li, ls, lg, lf, lb, lc⟩ := mixD_facts hd
    have htk : (List.map iv d.blocks).take d.blocks.length = List.map iv d.blocks := List.take_of_length_le (by simp)
    have hap : (K.length + 1) * 104 ≤ 140737488355328 := by omega
    have hw := w_i64 ((i : Int) + 1) (by omega)
    have tu : (x.disk.used.map bv).take x.disk.used.length = x.disk.used.map bv := List.take_of_length_le (by simp)
    have tks : ∀ z : AV, (K.map dpO ++ [z]).take (K.length + 1) = K.map dpO ++ [z] := fun z => List.take_of_length_le (by simp)
    have tk : (K.map dpO).take K.length = K.map dpO := List.take_of_length_le (by simp)
    have sn := dps_snoc K d
    have li2 := fun g => cools_mi g (mixD_cool x.deps (i + 1))
    have ls2 := fun u => cools_is u (mixD_cool x.deps (i + 1))
    unfold gone at lf
    unfold dpO at lg
    unfold mem91 dropStep
    simp only [hL]
    by_cases c : d.id = id
    · rw [if_pos c]
      have c' : decide (d.id = id) = true := decide_eq_true c
      simp only [XG, L91_4, h91_4, go_sem, seval, bnd_ite, k1, ll, li, ls, lg, lf, lb, lc, li2, ls2, c', hw, hi, tk, tks, is_set, Int.add_zero, Int.natCast_nonneg, decide_true, Bool.not_true, Bool.false_eq_true, if_false]
      first | done | rfl
    · rw [if_neg c]
      have c' : decide (d.id = id) = false := decide_eq_false c
      simp only [XG, L91_4, h91_4, go_sem, seval, bnd_ite, k1, ll, li, ls, lg, lf, lb, lc, li2, ls2, c', hw, hi, hap, htk, tk, tks, sn, is_set, Int.add_zero, Int.natCast_nonneg, decide_true, Bool.not_false, if_true]
      first | done | rfl
  case last =>
    intro K hI
    unfold mem91
    simp only [XG, L91_4, h91_4, go_sem, seval, bnd_ite, Int.lt_irrefl, decide_false]
    exact .mk (by simp) ⟨rfl, rfl, rfl, rfl, rfl⟩
theorem mixD_0 (l : List Dp) : mixD l 0 = l.map dpO := by simp [mixD]
theorem mixD_n (l : List Dp) : mixD l l.length = l.map gone := by simp [mixD]
theorem gones_is (u : Bool → Nat → Nat → Nat → List Nat) (l : List Dp) : idsL u (l.map gone) = [] := cools_is u (fun x hx => by obtain ⟨d, _, rfl⟩ := List.mem_map.1 hx; exact gone_cool d)
theorem e91 (x : Mm) (h : x.sm) (id : Int) : E T 91 [mm x, .int .i64 id] [] = some (mmO (dropM x id), []) := by
  rw [E_eqW t91 (Nat.le_of_ble_eq_true rfl)]
  have e1 := e183 x h
  unfold mm mmO at e1
  have t1 : (x.disk.used.map bv).take x.disk.used.length = x.disk.used.map bv := List.take_of_length_le (by simp)
  have t2 : (x.disk.taken.map bv).take x.disk.taken.length = x.disk.taken.map bv := List.take_of_length_le (by simp)
  have t3 : (x.disk.inos.map inoO).take x.disk.inos.length = x.disk.inos.map inoO := List.take_of_length_le (by simp)
  have t4 : (x.disk.blks.map blkO).take x.disk.blks.length = x.disk.blks.map blkO := List.take_of_length_le (by simp)
  have t5 : (x.dirty.map bv).take x.dirty.length = x.dirty.map bv := List.take_of_length_le (by simp)
  have t6 : (x.deps.map dpO).take x.deps.length = x.deps.map dpO := List.take_of_length_le (by simp)
  obtain ⟨⟨y, e, m⟩, q1, qx, q2, q3, q4, qm⟩ := in91 x h id
  rw [dropFold, List.nil_append] at q4 qm
  unfold dropM
  generalize x.deps.filter (fun d => !decide (d.id = id)) = K at *
  have t7 : (K.map dpO).take K.length = K.map dpO := List.take_of_length_le (by simp)
  simp only at qx q2 q3 q4 qm; subst qx; subst qm
  unfold mem91 at q1
  rw [mixD_0] at q1
  simp only [List.map_nil] at q1
  simp only [mm, F91, h91_4, mem91, mixD_n, go_sem, seval, bnd_ite, e1, t1, t2, t3, t4, t5, t6, t7, q1, q2, q3, q4, gones_is, mmO]
  first | done | rfl
end Go.Proofs.Ytaaajjinpppgeaa
/- DropDep: the program's side, by slices.DeleteFunc. Own work; no condition. -/
set_option linter.unusedVariables false
set_option linter.unusedSimpArgs false
set_option linter.unusedSectionVars false
namespace Go.Proofs.Ytaaajjinpppgeaa
open Go Go.Abs
set_option maxRecDepth 100000
theorem e243 (d : Dp) (n : Int) : E T 243 [dp d, .rop [.int .i64 n]] [] = some (.bool (decide (d.id = n)), []) := by
  rw [E_eq t243 (Nat.le_of_ble_eq_true rfl)]
  simp only [dp, F243, go_sem, seval, bnd_ite]
theorem e231d (l : List Dp) (n : Int) (hl : l.length ≤ maxLen) : E T 231 [.ro 11 (l.map dp), .fn 243 [.rop [.int .i64 n]]] [] = some (.int .i64 (placeOf l n), []) := by
  rw [E_eq t231 (Nat.le_of_ble_eq_true rfl)]
  unfold maxLen at hl
  unfold placeOf
  refine (XL_find (T := T) (b := 0) (hd := H231_2) (x := L231_2) l (fun d => decide (d.id = n)) (fun i => ⟨[(0, .ro 11 (l.map dp)), (1, .fn 243 [.rop [.int .i64 n]]), (7, .int .i64 l.length), (8, .int .i64 (i : Nat))], []⟩)
    (fun o r => match o with | some i => r.1 = .ret ∧ lookA r.2.env 4 = .int .i64 (i : Nat) | none => r.1 = .exit 0) ?step ?hit ?last).elim ?main
  case step =>
    intro i d hp hi hP _
    have hi1 : (i : Int) < (l.length : Int) := by omega
    have gp : (l.map dp).getD i .undef = .agg (dpV d) := gD_map hp
    have e1 : E T 243 [.agg (dpV d), .rop [.int .i64 n]] [] = some (.bool (decide (d.id = n)), []) := e243 d n
    unfold dpV at gp e1
    simp only [XG, L231_2, h231_2, go_sem, seval, bnd_ite, hi1, gp, Int.natCast_nonneg, w_i64 ((i : Int) + 1) (by omega), e1, hP, Bool.false_eq_true, if_false]
    rfl
  case hit =>
    intro i d hp hi hP _
    have hi1 : (i : Int) < (l.length : Int) := by omega
    have gp : (l.map dp).getD i .undef = .agg (dpV d) := gD_map hp
    have e1 : E T 243 [.agg (dpV d), .rop [.int .i64 n]] [] = some (.bool (decide (d.id = n)), []) := e243 d n
    unfold dpV at gp e1
    simp only [XG, L231_2, h231_2, go_sem, seval, bnd_ite, hi1, gp, Int.natCast_nonneg, w_i64 ((i : Int) + 1) (by omega), e1, hP, if_true]
    exact .mk (by simp) ⟨rfl, rfl⟩
  case last =>
    intro _
    simp only [XG, L231_2, h231_2, go_sem, seval, bnd_ite, Int.lt_irrefl, decide_false]
    exact .mk (by simp) rfl
  case main =>
  rintro ⟨y, e, m⟩ ⟨k1, k2⟩
  have hs : ((0 : Nat) : Int) = 0 := rfl
  simp only [hs] at k1
  split at k2
  · rename_i o i heq
    obtain ⟨k2, k3⟩ := k2
    simp only at k2 k3; subst k2
    simp only [F231, h231_2, go_sem, seval, bnd_ite, k1, k3, heq]
  · rename_i o heq
    simp only at k2; subst k2
    simp only [F231, h231_2, go_sem, seval, bnd_ite, k1, heq]
/-! ### The rows of DeleteFunc -/
def zdp : AV := .agg [.int .i64 0, .int .i64 0, .int .i64 0, .int .i64 0, .int .i64 0, .int .i64 0, .str ⟨#[]⟩, .bool false, .bool false, .int .i64 0, .nil]
def delStep (n : Int) (st : List Dp × List AV) (d : Dp) : List Dp × List AV := if d.id = n then (st.1, st.2 ++ [gone d]) else (st.1 ++ [d], st.2.tail ++ [gone d])
def rowDel (B : List Dp) (j : Nat) (st : List Dp × List AV) : List AV := st.1.map dpO ++ st.2 ++ (B.drop j).map dpO
def ag11 (w : AV) : Prop := ∃ v0 v1 v2 v3 v4 v5 v6 v7 v8 v9 v10, w = .agg [v0, v1, v2, v3, v4, v5, v6, v7, v8, v9, v10]
theorem gone_ag (d : Dp) : ag11 (gone d) := ⟨_, _, _, _, _, _, _, _, _, _, _, rfl⟩
def DelI (a : Nat) (j : Nat) (st : List Dp × List AV) : Prop := st.1.length ≤ a + j ∧ st.1.length + st.2.length = a + 1 + j ∧ ∀ w ∈ st.2, coolX w = true ∧ ag11 w
theorem delStep_inv {n : Int} {a j : Nat} {st : List Dp × List AV} {d : Dp} (h : DelI a j st) : DelI a (j + 1) (delStep n st d) := by
  obtain ⟨K, W⟩ := st
  obtain ⟨h1, h2, h3⟩ := h
  simp only at h1 h2 h3
  unfold delStep DelI
  split
  · refine ⟨by simp; omega, by simp; omega, fun w hw => ?_⟩
    rcases List.mem_append.1 hw with hw | hw
    · exact h3 w hw
    · rw [List.mem_singleton.1 hw]; exact ⟨gone_cool d, gone_ag d⟩
  · refine ⟨by simp; omega, by simp; omega, fun w hw => ?_⟩
    rcases List.mem_append.1 hw with hw | hw
    · exact h3 w (List.mem_of_mem_tail hw)
    · rw [List.mem_singleton.1 hw]; exact ⟨gone_cool d, gone_ag d⟩
theorem rowDel_cool {B : List Dp} {j a : Nat} {st : List Dp × List AV} (h : DelI a j st) : ∀ x ∈ rowDel B j st, coolX x = true := by
  intro x hx
  unfold rowDel at hx
  rcases List.mem_append.1 hx with hx | hx
  · rcases List.mem_append.1 hx with hx | hx
    · obtain ⟨d, _, rfl⟩ := List.mem_map.1 hx; exact dpO_cool d
    · exact (h.2.2 x hx).1
  · obtain ⟨d, _, rfl⟩ := List.mem_map.1 hx; exact dpO_cool d
theorem delFold (n : Int) (B : List Dp) : ∀ K W, (B.foldl (delStep n) (K, W)).1 = K ++ B.filter (fun d => !decide (d.id = n)) := by
  induction B with
  | nil => intro K W; simp
  | cons d B ih =>
    intro K W
    by_cases h : d.id = n
    · rw [List.foldl_cons, show delStep n (K, W) d = (K, W ++ [gone d]) by simp [delStep, h], ih]; simp [h]
    · rw [List.foldl_cons, show delStep n (K, W) d = (K ++ [d], W.tail ++ [gone d]) by simp [delStep, h], ih]; simp [h]
theorem rowDel_facts {B : List Dp} {j a : Nat} {st : List Dp × List AV} {d : Dp} (hd : B[j]? = some d) (h : DelI a j st) :
    ∃ L Lx, rowDel B j st = L ∧ L.length = a + 1 + B.length ∧ (∀ g, mapIdL g L = L) ∧ (∀ u, idsL u L = []) ∧ L.getD (a + 1 + j) .undef = dpO d ∧
      L.set (a + 1 + j) (gone d) = Lx ∧ Lx.length = a + 1 + B.length ∧ (∀ g, mapIdL g Lx = Lx) ∧ (∀ u, idsL u Lx = []) ∧
      (∀ y, (L.set (a + 1 + j) y).getD (a + 1 + j) .undef = y) ∧ (∀ y z, ((L.set (a + 1 + j) y).set st.1.length z).getD (a + 1 + j) .undef = y) ∧
      (∀ y, (L.set (a + 1 + j) y).set (a + 1 + j) (gone d) = Lx) ∧ (∀ y z, ((L.set (a + 1 + j) y).set st.1.length z).set (a + 1 + j) (gone d) = Lx.set st.1.length z) ∧
      (∃ v0 v1 v2 v3 v4 v5 v6 v7 v8 v9 v10, ∀ y, (L.set (a + 1 + j) y).getD st.1.length .undef = .agg [v0, v1, v2, v3, v4, v5, v6, v7, v8, v9, v10]) ∧ Lx = rowDel B (j + 1) (st.1, st.2 ++ [gone d]) ∧ Lx.set st.1.length (dpO d) = rowDel B (j + 1) (st.1 ++ [d], st.2.tail ++ [gone d]) := by
  have hj := (List.getElem?_eq_some_iff.1 hd).1
  have hde := (List.getElem?_eq_some_iff.1 hd).2
  have hcool := rowDel_cool (B := B) h
  obtain ⟨K, W⟩ := st
  obtain ⟨h1, h2, h3⟩ := h
  simp only at h1 h2 h3
  have hdr : B.drop j = d :: B.drop (j + 1) := by rw [← hde]; exact List.drop_eq_getElem_cons hj
  have hlen : (rowDel B j (K, W)).length = a + 1 + B.length := by simp [rowDel]; omega
  have hKW : (K.map dpO ++ W).length = a + 1 + j := by simp; omega
  have e1 : (rowDel B j (K, W)).set (a + 1 + j) (gone d) = rowDel B (j + 1) (K, W ++ [gone d]) := by
    unfold rowDel
    simp only
    rw [List.set_append_right _ _ (by omega), hKW, hdr]
    simp
  have hcx : ∀ x ∈ rowDel B (j + 1) (K, W ++ [gone d]), coolX x = true := rowDel_cool (a := a) ⟨by show K.length ≤ _; omega, by show K.length + (W ++ [gone d]).length = _; simp; omega, fun w hw => by
    rcases List.mem_append.1 hw with hw | hw
    · exact h3 w hw
    · rw [List.mem_singleton.1 hw]; exact ⟨gone_cool d, gone_ag d⟩⟩
  have hne : K.length ≠ a + 1 + j := by omega
  refine ⟨_, _, rfl, hlen, fun g => cools_mi g hcool, fun u => cools_is u hcool, ?_, e1, ?_, fun g => cools_mi g hcx, fun u => cools_is u hcx, fun y => gD_set (by omega), fun y z => ?_, fun y => ?_, fun y z => ?_, ?_, rfl, ?_⟩
  · unfold rowDel
    simp only
    rw [List.getD_eq_getElem?_getD, List.getElem?_append_right (by omega), hKW, hdr]
    simp
  · rw [← e1, List.length_set, hlen]
  · rw [List.set_comm _ _ (Ne.symm hne)]; exact gD_set (by rw [List.length_set]; omega)
  · rw [List.set_set]; exact e1
  · rw [List.set_comm _ _ (Ne.symm hne), List.set_set, List.set_comm _ _ hne, e1]
  · cases W with
    | nil => simp at h2; omega
    | cons w W =>
      obtain ⟨_, v0, v1, v2, v3, v4, v5, v6, v7, v8, v9, v10, hw⟩ := h3 w (List.mem_cons_self ..)
      refine ⟨v0, v1, v2, v3, v4, v5, v6, v7, v8, v9, v10, fun y => ?_⟩
      rw [List.getD_eq_getElem?_getD, List.getElem?_set_ne (Ne.symm hne), ← hw]
      unfold rowDel
      simp only
      rw [List.append_assoc, List.getElem?_append_right (by simp)]
      simp
  · unfold rowDel
    simp only
    cases W with
    | nil => simp at h2; omega
    | cons w W =>
      rw [List.append_assoc, List.set_append_right _ _ (by simp), List.length_map, Nat.sub_self]
      simp
theorem in242 (n : Int) (a : Nat) (B : List Dp) (hB : a + 1 + B.length ≤ 1048576) (st0 : List Dp × List AV) (h0 : DelI a 0 st0) :
    ∃ r, XL T 2 H242_5 L242_5 ⟨[(0, .sl 0 0 (a + 1 + B.length)), (1, .fn 243 [.ptr 1 0 0]), (5, .int .i64 st0.1.length), (6, .int .i64 ((a + 1 + 0 : Nat) : Int))], [some (11, rowDel B 0 st0), some (1, [.int .i64 n])]⟩ = some r ∧
      r.1 = .exit 0 ∧ lookA r.2.env 0 = .sl 0 0 (a + 1 + B.length) ∧ lookA r.2.env 5 = .int .i64 (B.foldl (delStep n) st0).1.length ∧
      r.2.mem = [some (11, rowDel B B.length (B.foldl (delStep n) st0)), some (1, [.int .i64 n])] ∧ DelI a B.length (B.foldl (delStep n) st0) := by
  refine XL_each B (delStep n) (fun j st => ⟨[(0, .sl 0 0 (a + 1 + B.length)), (1, .fn 243 [.ptr 1 0 0]), (5, .int .i64 st.1.length), (6, .int .i64 ((a + 1 + j : Nat) : Int))], [some (11, rowDel B j st), some (1, [.int .i64 n])]⟩) (fun j st => DelI a j st)
    (fun st r => r.1 = .exit 0 ∧ lookA r.2.env 0 = .sl 0 0 (a + 1 + B.length) ∧ lookA r.2.env 5 = .int .i64 st.1.length ∧ r.2.mem = [some (11, rowDel B B.length st), some (1, [.int .i64 n])] ∧ DelI a B.length st) ?step ?last st0 h0
  case step =>
    intro j st d hd hj hI
    refine ⟨?_, delStep_inv hI⟩
    obtain ⟨L, Lx, hL, ll, li, ls, lg, lx, lxl, lxi, lxs, la, lb, lc, ld, ⟨v0, v1, v2, v3, v4, v5, v6, v7, v8, v9, v10, lk⟩, le, lf⟩ := rowDel_facts hd hI
    obtain ⟨i1, i2, _⟩ := hI
    obtain ⟨K, W⟩ := st
    simp only at i1 i2 lb ld le lf lk
    have hj1 : ((a + 1 + j : Nat) : Int) < ((a + 1 + B.length : Nat) : Int) := by omega
    have hJ : a + 1 + j < a + 1 + B.length := by omega
    have hk1 : ((K.length : Nat) : Int) < ((a + 1 + B.length : Nat) : Int) := by omega
    have hk2 : K.length < a + 1 + B.length := by omega
    have hw := w_i64 (((a + 1 + j : Nat) : Int) + 1) (by omega)
    have hwk := w_i64 ((K.length : Int) + 1) (by omega)
    have htk : (List.map iv d.blocks).take d.blocks.length = List.map iv d.blocks := List.take_of_length_le (by simp)
    have e1 := e243 d n
    unfold dp at e1
    unfold gone at lx lc ld
    unfold dpO at lg lf
    unfold delStep
    simp only [hL]
    by_cases c : d.id = n
    · rw [if_pos c]
      have c' : decide (d.id = n) = true := decide_eq_true c
      rw [c'] at e1
      simp only [XG, L242_5, h242_5, go_sem, seval, bnd_ite, hj1, ll, li, ls, lg, lx, lxl, lxi, lxs, la, lc, hJ, hw, e1, htk, is_set, Int.add_zero, Int.natCast_nonneg, decide_true, Bool.not_true, Bool.false_eq_true, if_false]
      rw [le]; rfl
    · rw [if_neg c]
      have c' : decide (d.id = n) = false := decide_eq_false c
      rw [c'] at e1
      simp only [XG, L242_5, h242_5, go_sem, seval, bnd_ite, hj1, hk1, hk2, ll, li, ls, lg, lx, lxl, lxi, lxs, la, lb, ld, lk, lf, hJ, hw, hwk, e1, htk, is_set, Int.add_zero, Int.natCast_nonneg, decide_true, Bool.not_false, if_true]
      first | rfl | done
  case last =>
    intro st hI
    simp only [XG, L242_5, h242_5, go_sem, seval, bnd_ite, Int.lt_irrefl, decide_false]
    exact .mk (by simp) ⟨rfl, rfl, rfl, rfl, hI⟩
end Go.Proofs.Ytaaajjinpppgeaa
/- DropDep: both answers are alike. Own work; no condition. -/
set_option linter.unusedVariables false
set_option linter.unusedSimpArgs false
set_option linter.unusedSectionVars false
namespace Go.Proofs.Ytaaajjinpppgeaa
open Go Go.Abs
set_option maxRecDepth 100000
theorem zdp_is (u : Bool → Nat → Nat → Nat → List Nat) (m : Nat) : idsL u (List.replicate m zdp) = [] := cools_is u (fun x hx => by rw [List.eq_of_mem_replicate hx]; rfl)
theorem zdp_coR (K : List Dp) (m : Nat) : coolR 11 (K.map dpO ++ List.replicate m zdp) = true := by
  rw [coolR_all]
  refine ⟨fun x hx => ?_, fun x hx => ?_⟩
  · rcases List.mem_append.1 hx with h | h
    · obtain ⟨d, _, rfl⟩ := List.mem_map.1 h; rfl
    · rw [List.eq_of_mem_replicate h]; rfl
  · rcases List.mem_append.1 hx with h | h
    · obtain ⟨d, _, rfl⟩ := List.mem_map.1 h; exact dpO_cool d
    · rw [List.eq_of_mem_replicate h]; rfl
theorem e242 (l : List Dp) (n : Int) (hl : l.length ≤ 1048576) : E T 242 [.sl 0 0 l.length, .fn 243 [.ptr 1 0 0]] [some (11, l.map dpO), some (1, [.int .i64 n])] =
    some (.sl 0 0 (l.filter (fun d => !decide (d.id = n))).length, [some (11, (l.filter (fun d => !decide (d.id = n))).map dpO ++ List.replicate (l.length - (l.filter (fun d => !decide (d.id = n))).length) zdp), some (1, [.int .i64 n])]) := by
  rw [E_eq t242 (Nat.le_of_ble_eq_true rfl)]
  have e1 := e231d l n (by unfold maxLen; omega)
  have tks : (l.map dpO).take l.length = l.map dpO := List.take_of_length_le (by simp)
  unfold placeOf at e1
  cases hf : l.findIdx? (fun d => decide (d.id = n)) with
  | none =>
    rw [hf] at e1
    have hK : l.filter (fun d => !decide (d.id = n)) = l := by
      rw [List.filter_eq_self]
      intro d hd
      have := List.findIdx?_eq_none_iff.1 hf d hd
      simp [this]
    rw [hK, Nat.sub_self, List.replicate_zero, List.append_nil]
    simp only [F242, go_sem, seval, bnd_ite, e1, tks, if_true]
  | some a =>
    rw [hf] at e1
    simp only at e1
    obtain ⟨ha, hpa, hbef⟩ := List.findIdx?_eq_some_iff_getElem.1 hf
    have hl1 : l = l.take a ++ l[a] :: l.drop (a + 1) := by rw [← List.drop_eq_getElem_cons ha, List.take_append_drop]
    generalize hA : l.take a = A at hl1
    generalize hd0 : l[a] = d0 at hl1 hpa
    generalize hB : l.drop (a + 1) = B at hl1
    have hAl : A.length = a := by rw [← hA, List.length_take]; omega
    have hAf : A.filter (fun d => !decide (d.id = n)) = A := by
      rw [List.filter_eq_self]
      intro d hd
      rw [← hA] at hd
      obtain ⟨j, hj, rfl⟩ := List.mem_iff_getElem.1 hd
      rw [List.length_take] at hj
      have := hbef j (by omega)
      rw [List.getElem_take]
      simpa using this
    have hrow : l.map dpO = rowDel B 0 (A, [dpO d0]) := by rw [hl1]; simp [rowDel]
    have hlen : l.length = a + 1 + B.length := by rw [hl1]; simp; omega
    have h0 : DelI a 0 (A, [dpO d0]) := ⟨by show A.length ≤ _; omega, by show A.length + 1 = _; omega, fun w hw => by rw [List.mem_singleton.1 hw]; exact ⟨dpO_cool d0, ⟨_, _, _, _, _, _, _, _, _, _, _, rfl⟩⟩⟩
    obtain ⟨⟨y, e, m⟩, q1, qx, q2, q3, qm, qI⟩ := in242 n a B (by omega) (A, [dpO d0]) h0
    have hK : (B.foldl (delStep n) (A, [dpO d0])).1 = l.filter (fun d => !decide (d.id = n)) := by
      rw [delFold, hl1, List.filter_append, hAf, List.filter_cons, hpa]; rfl
    rw [← hK]
    generalize B.foldl (delStep n) (A, [dpO d0]) = st at *
    obtain ⟨K, W⟩ := st
    obtain ⟨i1, i2, i3⟩ := qI
    simp only at qx q2 q3 qm i1 i2; subst qx; subst qm
    rw [← hrow] at q1
    rw [← hlen] at q1 q2
    have hs : ((a + 1 + 0 : Nat) : Int) = (a : Int) + 1 := rfl
    rw [hs] at q1
    simp only [hAl] at q1
    have hw := w_i64 ((a : Int) + 1) (by omega)
    have hr : rowDel B B.length (K, W) = K.map dpO ++ W := by simp [rowDel]
    have f1 : (K.map dpO ++ W).take K.length = K.map dpO := by rw [List.take_append_of_le_length (by simp), List.take_of_length_le (by simp)]
    have f2 : (K.map dpO ++ W).drop l.length = [] := List.drop_of_length_le (by simp; omega)
    have f3 : K.length + (l.length - K.length) = l.length := by omega
    have f4 : K.length + W.length = l.length := by omega
    have f5 : (K.length : Int) ≤ (l.length : Int) := by omega
    have hne : decide ((a : Int) = -1) = false := decide_eq_false (by omega)
    have zi := fun u => zdp_is u (l.length - K.length)
    unfold zdp at zi ⊢
    simp only [F242, h242_5, go_sem, seval, bnd_ite, e1, tks, hne, hw, q1, q2, q3, hr, f1, f2, f3, f4, f5, zi, Nat.le_refl, Int.natCast_nonneg, Bool.false_eq_true, if_false, if_true]
    first | done | rfl
theorem x187 (a b : AV) (mem : Mem) : E T 187 [a, b] mem = bnd (X T mem.length F187.body ⟨enumA 0 [a, b], mem⟩) (finE mem.length F187.results) := E_eq t187 (Nat.le_of_ble_eq_true rfl)
theorem e92 (x : Mm) (h : x.sm) (id : Int) : E T 92 [mm x, .int .i64 id] [] = some (mmO (dropM x id), []) := by
  rw [E_eq t92 (Nat.le_of_ble_eq_true rfl)]
  have e1 := e185 x h
  have e2 := e242 x.deps id h.deps
  unfold mm mmO at e1
  unfold dropM
  generalize x.deps.filter (fun d => !decide (d.id = id)) = K at *
  have t1 : (x.disk.used.map bv).take x.disk.used.length = x.disk.used.map bv := List.take_of_length_le (by simp)
  have t2 : (x.disk.taken.map bv).take x.disk.taken.length = x.disk.taken.map bv := List.take_of_length_le (by simp)
  have t3 : (x.disk.inos.map inoO).take x.disk.inos.length = x.disk.inos.map inoO := List.take_of_length_le (by simp)
  have t4 : (x.disk.blks.map blkO).take x.disk.blks.length = x.disk.blks.map blkO := List.take_of_length_le (by simp)
  have t5 : (x.dirty.map bv).take x.dirty.length = x.dirty.map bv := List.take_of_length_le (by simp)
  have f1 : ∀ W : List AV, (K.map dpO ++ W).take K.length = K.map dpO := fun W => by rw [List.take_append_of_le_length (by simp), List.take_of_length_le (by simp)]
  have zi := fun u => zdp_is u (x.deps.length - K.length)
  have zc := zdp_coR K (x.deps.length - K.length)
  unfold zdp at e2 zi zc
  simp only [mm, mmO, F92, x187, F187, go_sem, seval, bnd_ite, e1, e2, t1, t2, t3, t4, t5, f1, zi, zc, Nat.le_add_right, if_true]
  first | done | rfl
theorem dropM_sm {x : Mm} {id : Int} (h : x.sm) : (dropM x id).sm :=
  ⟨h.disk, h.dirty, Nat.le_trans (List.length_filter_le ..) h.deps, fun y hy => h.dep y ((List.mem_filter.1 hy).1)⟩
theorem dropM_ok {x : Mm} {id : Int} (h : x.ok) : (dropM x id).ok :=
  ⟨h.disk, h.dirty, Nat.le_trans (List.length_filter_le ..) h.deps, fun y hy => h.dep y ((List.mem_filter.1 hy).1)⟩
set_option maxHeartbeats 4000000 in
theorem e20 (x : Mm) (h : x.ok) (id : Int) (hb : -9223372036854775808 ≤ id ∧ id ≤ 9223372036854775807) : E T 20 [mm x, .int .i64 id] [] = some (.bool true, []) := by
  rw [E_eq t20 (Nat.le_of_ble_eq_true rfl)]
  obtain ⟨r, h1, h2, h3, h4⟩ := e43 x 1048576 (by omega) (by omega) h
  have c47 := e47 x x h
  have c45 := fun h => e45 x h
  have cA := fun h => e91 x h id
  have cB := fun h => e92 x h id
  have c51 := fun h => e51 x 1 (by omega) (by omega) h
  have cs := fun h => dropM_sm (x := x) (id := id) h
  have ck := dropM_ok (x := x) (id := id) h
  generalize dropM x id = N at *
  have c47n := e47 N N ck
  have c51n := fun h => e51 N 1 (by omega) (by omega) h
  have c64n := fun h => e64 N 1 (by omega) (by omega) h
  simp only [mm, mmO, mmR, dskR, mkMm, mkDsk, List.cons_append, List.nil_append] at h1 c45 c47 c47n cA cB c51 c51n c64n ⊢
  simp only [F20, go_sem, seval, bnd_ite, h1]
  by_cases c1 : r < 0
  · rw [if_pos c1]
  rw [if_neg c1]
  have hm := h4 (by omega)
  have hs := cs hm
  have n1 : ¬ (1 + (coMm x : Int)) < 0 := by omega
  have n2 : ¬ (1 + (coMm N : Int)) < 0 := by omega
  simp only [go_sem, seval, bnd_ite, c45 hm, cA hm, cB hm, c47, c47n, c51 hm, c51n hs, c64n hs, mkB_len, mkL_len, tkO, tkN, n1, n2, decide_true, decide_false, Bool.not_true, Bool.false_eq_true, if_false]
end Go.Proofs.Ytaaajjinpppgeaa
/- FnExactDropDep answers true for all arguments. Own work; no condition. -/
set_option linter.unusedVariables false
namespace Go.Proofs.Ytaaajjinpppgeaa
open Go Go.Abs
def shFnExactDropDep : List Shp := [shM, .int .i64]
theorem isFnExactDropDep {avs : List AV} (h : IsAs shFnExactDropDep avs) : E T 20 avs [] = some (.bool true, []) := by
  cases h with | cons h1 h =>
  cases h with | cons h2 h =>
  cases h
  obtain ⟨x1, rfl, hx1⟩ := isM h1
  obtain ⟨cs, h2, rfl⟩ := h2
  cases h2 with | int hw2 =>
  rename_i n2
  have hb2 : -9223372036854775808 ≤ n2 ∧ n2 ≤ 9223372036854775807 := by
    have h3 : decide (IntKind.i64.min ≤ n2) = true ∧ decide (n2 ≤ IntKind.i64.max) = true := by simpa [Lit.wf] using hw2
    have e1 : IntKind.i64.min = -9223372036854775808 := by decide
    have e2 : IntKind.i64.max = 9223372036854775807 := by decide
    rw [e1, e2] at h3
    exact ⟨of_decide_eq_true h3.1, of_decide_eq_true h3.2⟩
  exact e20 x1 hx1 n2 hb2
end Go.Proofs.Ytaaajjinpppgeaa
/- The words of a program's head, split without waste. Own work; no condition. -/
set_option linter.unusedVariables false
set_option linter.unusedSimpArgs false
set_option linter.unusedSectionVars false
namespace Go.Abs
open Go
def wAcc : List Char → List Char → List (List Char) → List (List Char)
  | [], cur, acc => (cur.reverse :: acc).reverse
  | c :: r, cur, acc => if c.toNat = 32 then wAcc r [] (cur.reverse :: acc) else wAcc r (c :: cur) acc
def joinW (cur : List Char) : List (List Char) → List (List Char)
  | w :: ws => (cur ++ w) :: ws
  | [] => [cur]
theorem ws_c (c : Char) (r : List Char) : wordsSigns (c :: r) = if c.toNat = 32 then [] :: wordsSigns r else joinW [c] (wordsSigns r) := by
  by_cases h : c.toNat = 32
  · rw [if_pos h]
    have : c = Char.ofNat 32 := by
      apply Char.ext
      apply UInt32.toNat_inj.1
      exact h
    subst this; rfl
  · rw [if_neg h]
    rw [wordsSigns.eq_3 _ _ (fun e => h (by rw [e]; rfl))]
    cases wordsSigns r <;> rfl
theorem ws_ne (l : List Char) : wordsSigns l ≠ [] := by
  cases l with
  | nil => simp [wordsSigns]
  | cons c r =>
    rw [ws_c]
    split
    · simp
    · cases wordsSigns r <;> simp [joinW]
theorem wAcc_eq : ∀ (l cur : List Char) (acc : List (List Char)), wAcc l cur acc = acc.reverse ++ joinW cur.reverse (wordsSigns l) := by
  intro l
  induction l with
  | nil => intro cur acc; simp [wAcc, wordsSigns, joinW]
  | cons c r ih =>
    intro cur acc
    simp only [wAcc]
    rw [ws_c]
    by_cases h : c.toNat = 32
    · rw [if_pos h, if_pos h, ih]
      cases hr : wordsSigns r with
      | nil => exact absurd hr (ws_ne r)
      | cons w ws => simp [joinW]
    · rw [if_neg h, if_neg h, ih]
      cases wordsSigns r <;> simp [joinW]
theorem words_eq (l : List Char) : wordsSigns l = wAcc l [] [] := by
  rw [wAcc_eq]
  have := ws_ne l
  cases h : wordsSigns l with
  | nil => exact absurd h this
  | cons w ws => simp [joinW]
theorem strip_cut (r : List (List Char)) : stripLifts liftWords ("cut".toList :: r) = ([], "cut".toList :: r) := by kernel_rfl
theorem lifts_of {P : Program} {r : List (List Char)} (h : behindMainWord (wordsSigns P.initOrder.toList) = "cut".toList :: r) : P.headLifts = [] := by
  unfold Program.headLifts
  rw [h, strip_cut]; kernel_rfl
theorem liftsFinal_of {P : Program} {r : List (List Char)} (h : behindMainWord (wordsSigns P.initOrder.toList) = "cut".toList :: r) : P.liftsFinal = false := by
  unfold Program.liftsFinal
  rw [h, lifts_of h]; kernel_rfl
theorem make_of {P : Program} {r : List (List Char)} (h : behindMainWord (wordsSigns P.initOrder.toList) = "cut".toList :: r) : P.make = some .cut := by
  unfold Program.make
  rw [h]; kernel_rfl
theorem mayEnter_of {P : Program} {r : List (List Char)} (h : behindMainWord (wordsSigns P.initOrder.toList) = "cut".toList :: r) (h1 : P.laysLater = false) (h2 : P.bearsReflect = false) (h3 : P.doorFits [] = true) : P.mayEnter = true := by
  unfold Program.mayEnter
  rw [h]
  simp only [strip_cut, h1, h2, h3]
  kernel_rfl
open Go.RowKit in
/-- The closed facts of a row, one by one. -/
theorem facts_of {P : Program} {f : FuncId} {fn : Func} {s : ChangeSpec} {c : OpenClaim} (a1 : c.wf (OpenSpec.ofChange s) = true) (a2 : laidOutB P = true) (a3 : mapsRowed P = true)
    (a4 : fn.params.all (P.readableRec ·) = true) (a5 : namedTie P c.named s.vars = true) (a6 : (c.stops == []) = true) (a7 : (P.stops == []) = true) (a8 : (c.knobs == []) = true) (a9 : (P.stopKnobs == []) = true)
    (a10 : (c.inPlace == P.inPlace f) = true) (a11 : (c.unfollowed == P.unfollowed f) = true) (a12 : (c.recurses == P.recurses f) = true) (a13 : (c.named == P.varsNamed f) = true)
    (a14 : (c.maps == (fn.params.toList ++ s.plain.varTypes P).any (P.mapsRec ·)) = true) (a15 : (c.ifaces == (fn.params.toList ++ s.plain.varTypes P).any (P.ifacesRec ·)) = true) (a16 : (c.mapsOut == P.mapsAmong fn.resultTypes.toList) = true)
    (a17 : (c.loops == (fn.params.toList ++ s.plain.varTypes P).any (P.loopsFrom ·)) = true) (a18 : (c.wideKeys == (fn.params.toList ++ s.plain.varTypes P ++ fn.resultTypes.toList).any (P.wideKeysFrom ·)) = true)
    (a19 : s.vars.all (P.varReadable ·) = true) (a20 : fn.resultTypes.all (fun t => P.readableRec t && decide (t < P.types.size)) = true) (a21 : (c.ifacesOut == fn.resultTypes.toList.any (P.ifacesRec ·)) = true)
    (a22 : (c.loopsOut == fn.resultTypes.toList.any (P.loopsFrom ·)) = true) (a23 : (c.plainKeys == P.plainKeys) = true) (a24 : c.shortTexts.isNone = true) (a25 : P.stopsHeard = true) (a26 : P.mayEnter = true)
    (a27 : (c.lifted == P.liftsFinal) = true) (a28 : (P.make == some c.make) = true)
    (a29 : c.domain.isEmpty = true) (a29' : c.kinds = []) (a30 : (c.pinned == c.pinnedBy) = true)
    (a31 : (c.veiled == (fn.params.toList ++ s.plain.varTypes P ++ fn.resultTypes.toList).any (P.veiledRec ·)) = true) (a32 : c.veiledFits P fn.params.toList (fn.params.toList ++ s.plain.varTypes P ++ fn.resultTypes.toList) = true) :
    joinedFacts P f fn s c = true := by
  unfold joinedFacts
  rw [a1, a2, a3, a4, a5, a6, a7, a8, a9, a10, a11, a12, a13, a14, a15, a16, a17, a18, a19, a20, a21, a22, a23, a24, a25, a26, a27, a28, a29, a29', a30, a31, a32]
  rfl
end Go.Abs
/- The words of the program's head, and the facts that hang on them. Own work; no condition. -/
namespace Go.Proofs.Ytaaajjinpppgeaa
open Go Go.RowKit
set_option maxRecDepth 100000
def headSigns : List Char := [.ofNat 104, .ofNat 97, .ofNat 114, .ofNat 110, .ofNat 101, .ofNat 115, .ofNat 115, .ofNat 32, .ofNat 52, .ofNat 98, .ofNat 53, .ofNat 51, .ofNat 53, .ofNat 101, .ofNat 99, .ofNat 100, .ofNat 102, .ofNat 57, .ofNat 49, .ofNat 100, .ofNat 98, .ofNat 56, .ofNat 56, .ofNat 56, .ofNat 52, .ofNat 101, .ofNat 99, .ofNat 51, .ofNat 56, .ofNat 57, .ofNat 101, .ofNat 56, .ofNat 100, .ofNat 100, .ofNat 99, .ofNat 53, .ofNat 52, .ofNat 98, .ofNat 54, .ofNat 49, .ofNat 51, .ofNat 48, .ofNat 48, .ofNat 97, .ofNat 102, .ofNat 99, .ofNat 48, .ofNat 53, .ofNat 48, .ofNat 48, .ofNat 55, .ofNat 56, .ofNat 48, .ofNat 101, .ofNat 101, .ofNat 102, .ofNat 98, .ofNat 102, .ofNat 55, .ofNat 101, .ofNat 53, .ofNat 102, .ofNat 51, .ofNat 54, .ofNat 97, .ofNat 52, .ofNat 48, .ofNat 57, .ofNat 101, .ofNat 100, .ofNat 100, .ofNat 53, .ofNat 32, .ofNat 99, .ofNat 117, .ofNat 116, .ofNat 32, .ofNat 97, .ofNat 116, .ofNat 32, .ofNat 108, .ofNat 111, .ofNat 111, .ofNat 112, .ofNat 46, .ofNat 101, .ofNat 120, .ofNat 97, .ofNat 109, .ofNat 112, .ofNat 108, .ofNat 101, .ofNat 47, .ofNat 103, .ofNat 48, .ofNat 48, .ofNat 50, .ofNat 51, .ofNat 53, .ofNat 47, .ofNat 108, .ofNat 97, .ofNat 119, .ofNat 115, .ofNat 46, .ofNat 70, .ofNat 110, .ofNat 69, .ofNat 120, .ofNat 97, .ofNat 99, .ofNat 116, .ofNat 69, .ofNat 118, .ofNat 101, .ofNat 110, .ofNat 116, .ofNat 79, .ofNat 107, .ofNat 32, .ofNat 108, .ofNat 111, .ofNat 111, .ofNat 112, .ofNat 46, .ofNat 101, .ofNat 120, .ofNat 97, .ofNat 109, .ofNat 112, .ofNat 108, .ofNat 101, .ofNat 47, .ofNat 103, .ofNat 48, .ofNat 48, .ofNat 50, .ofNat 51, .ofNat 53, .ofNat 47, .ofNat 108, .ofNat 97, .ofNat 119, .ofNat 115, .ofNat 46, .ofNat 70, .ofNat 110, .ofNat 69, .ofNat 120, .ofNat 97, .ofNat 99, .ofNat 116, .ofNat 83, .ofNat 97, .ofNat 109, .ofNat 101, .ofNat 84, .ofNat 114, .ofNat 101, .ofNat 101, .ofNat 32, .ofNat 108, .ofNat 111, .ofNat 111, .ofNat 112, .ofNat 46, .ofNat 101, .ofNat 120, .ofNat 97, .ofNat 109, .ofNat 112, .ofNat 108, .ofNat 101, .ofNat 47, .ofNat 103, .ofNat 48, .ofNat 48, .ofNat 50, .ofNat 51, .ofNat 53, .ofNat 47, .ofNat 108, .ofNat 97, .ofNat 119, .ofNat 115, .ofNat 46, .ofNat 70, .ofNat 110, .ofNat 69, .ofNat 120, .ofNat 97, .ofNat 99, .ofNat 116, .ofNat 83, .ofNat 104, .ofNat 97, .ofNat 114, .ofNat 101, .ofNat 100, .ofNat 32, .ofNat 108, .ofNat 111, .ofNat 111, .ofNat 112, .ofNat 46, .ofNat 101, .ofNat 120, .ofNat 97, .ofNat 109, .ofNat 112, .ofNat 108, .ofNat 101, .ofNat 47, .ofNat 103, .ofNat 48, .ofNat 48, .ofNat 50, .ofNat 51, .ofNat 53, .ofNat 47, .ofNat 108, .ofNat 97, .ofNat 119, .ofNat 115, .ofNat 46, .ofNat 70, .ofNat 110, .ofNat 69, .ofNat 120, .ofNat 97, .ofNat 99, .ofNat 116, .ofNat 83, .ofNat 101, .ofNat 116, .ofNat 116, .ofNat 108, .ofNat 101, .ofNat 100, .ofNat 32, .ofNat 108, .ofNat 111, .ofNat 111, .ofNat 112, .ofNat 46, .ofNat 101, .ofNat 120, .ofNat 97, .ofNat 109, .ofNat 112, .ofNat 108, .ofNat 101, .ofNat 47, .ofNat 103, .ofNat 48, .ofNat 48, .ofNat 50, .ofNat 51, .ofNat 53, .ofNat 47, .ofNat 108, .ofNat 97, .ofNat 119, .ofNat 115, .ofNat 46, .ofNat 70, .ofNat 110, .ofNat 69, .ofNat 120, .ofNat 97, .ofNat 99, .ofNat 116, .ofNat 73, .ofNat 109, .ofNat 97, .ofNat 103, .ofNat 101, .ofNat 73, .ofNat 110, .ofNat 111, .ofNat 100, .ofNat 101, .ofNat 32, .ofNat 108, .ofNat 111, .ofNat 111, .ofNat 112, .ofNat 46, .ofNat 101, .ofNat 120, .ofNat 97, .ofNat 109, .ofNat 112, .ofNat 108, .ofNat 101, .ofNat 47, .ofNat 103, .ofNat 48, .ofNat 48, .ofNat 50, .ofNat 51, .ofNat 53, .ofNat 47, .ofNat 108, .ofNat 97, .ofNat 119, .ofNat 115, .ofNat 46, .ofNat 70, .ofNat 110, .ofNat 69, .ofNat 120, .ofNat 97, .ofNat 99, .ofNat 116, .ofNat 73, .ofNat 109, .ofNat 97, .ofNat 103, .ofNat 101, .ofNat 66, .ofNat 108, .ofNat 111, .ofNat 99, .ofNat 107, .ofNat 32, .ofNat 108, .ofNat 111, .ofNat 111, .ofNat 112, .ofNat 46, .ofNat 101, .ofNat 120, .ofNat 97, .ofNat 109, .ofNat 112, .ofNat 108, .ofNat 101, .ofNat 47, .ofNat 103, .ofNat 48, .ofNat 48, .ofNat 50, .ofNat 51, .ofNat 53, .ofNat 47, .ofNat 108, .ofNat 97, .ofNat 119, .ofNat 115, .ofNat 46, .ofNat 70, .ofNat 110, .ofNat 69, .ofNat 120, .ofNat 97, .ofNat 99, .ofNat 116, .ofNat 77, .ofNat 101, .ofNat 109, .ofNat 79, .ofNat 107, .ofNat 32, .ofNat 108, .ofNat 111, .ofNat 111, .ofNat 112, .ofNat 46, .ofNat 101, .ofNat 120, .ofNat 97, .ofNat 109, .ofNat 112, .ofNat 108, .ofNat 101, .ofNat 47, .ofNat 103, .ofNat 48, .ofNat 48, .ofNat 50, .ofNat 51, .ofNat 53, .ofNat 47, .ofNat 108, .ofNat 97, .ofNat 119, .ofNat 115, .ofNat 46, .ofNat 70, .ofNat 110, .ofNat 69, .ofNat 120, .ofNat 97, .ofNat 99, .ofNat 116, .ofNat 77, .ofNat 101, .ofNat 109, .ofNat 78, .ofNat 101, .ofNat 119, .ofNat 32, .ofNat 108, .ofNat 111, .ofNat 111, .ofNat 112, .ofNat 46, .ofNat 101, .ofNat 120, .ofNat 97, .ofNat 109, .ofNat 112, .ofNat 108, .ofNat 101, .ofNat 47, .ofNat 103, .ofNat 48, .ofNat 48, .ofNat 50, .ofNat 51, .ofNat 53, .ofNat 47, .ofNat 108, .ofNat 97, .ofNat 119, .ofNat 115, .ofNat 46, .ofNat 70, .ofNat 110, .ofNat 69, .ofNat 120, .ofNat 97, .ofNat 99, .ofNat 116, .ofNat 77, .ofNat 101, .ofNat 110, .ofNat 100, .ofNat 80, .ofNat 111, .ofNat 105, .ofNat 110, .ofNat 116, .ofNat 101, .ofNat 114, .ofNat 115, .ofNat 32, .ofNat 108, .ofNat 111, .ofNat 111, .ofNat 112, .ofNat 46, .ofNat 101, .ofNat 120, .ofNat 97, .ofNat 109, .ofNat 112, .ofNat 108, .ofNat 101, .ofNat 47, .ofNat 103, .ofNat 48, .ofNat 48, .ofNat 50, .ofNat 51, .ofNat 53, .ofNat 47, .ofNat 108, .ofNat 97, .ofNat 119, .ofNat 115, .ofNat 46, .ofNat 70, .ofNat 110, .ofNat 69, .ofNat 120, .ofNat 97, .ofNat 99, .ofNat 116, .ofNat 70, .ofNat 115, .ofNat 79, .ofNat 107, .ofNat 32, .ofNat 108, .ofNat 111, .ofNat 111, .ofNat 112, .ofNat 46, .ofNat 101, .ofNat 120, .ofNat 97, .ofNat 109, .ofNat 112, .ofNat 108, .ofNat 101, .ofNat 47, .ofNat 103, .ofNat 48, .ofNat 48, .ofNat 50, .ofNat 51, .ofNat 53, .ofNat 47, .ofNat 108, .ofNat 97, .ofNat 119, .ofNat 115, .ofNat 46, .ofNat 70, .ofNat 110, .ofNat 69, .ofNat 120, .ofNat 97, .ofNat 99, .ofNat 116, .ofNat 77, .ofNat 101, .ofNat 110, .ofNat 100, .ofNat 78, .ofNat 97, .ofNat 109, .ofNat 101, .ofNat 115, .ofNat 32, .ofNat 108, .ofNat 111, .ofNat 111, .ofNat 112, .ofNat 46, .ofNat 101, .ofNat 120, .ofNat 97, .ofNat 109, .ofNat 112, .ofNat 108, .ofNat 101, .ofNat 47, .ofNat 103, .ofNat 48, .ofNat 48, .ofNat 50, .ofNat 51, .ofNat 53, .ofNat 47, .ofNat 108, .ofNat 97, .ofNat 119, .ofNat 115, .ofNat 46, .ofNat 70, .ofNat 110, .ofNat 69, .ofNat 120, .ofNat 97, .ofNat 99, .ofNat 116, .ofNat 68, .ofNat 97, .ofNat 110, .ofNat 103, .ofNat 108, .ofNat 105, .ofNat 110, .ofNat 103, .ofNat 32, .ofNat 108, .ofNat 111, .ofNat 111, .ofNat 112, .ofNat 46, .ofNat 101, .ofNat 120, .ofNat 97, .ofNat 109, .ofNat 112, .ofNat 108, .ofNat 101, .ofNat 47, .ofNat 103, .ofNat 48, .ofNat 48, .ofNat 50, .ofNat 51, .ofNat 53, .ofNat 47, .ofNat 108, .ofNat 97, .ofNat 119, .ofNat 115, .ofNat 46, .ofNat 70, .ofNat 110, .ofNat 69, .ofNat 120, .ofNat 97, .ofNat 99, .ofNat 116, .ofNat 76, .ofNat 105, .ofNat 110, .ofNat 107, .ofNat 115, .ofNat 79, .ofNat 102, .ofNat 32, .ofNat 108, .ofNat 111, .ofNat 111, .ofNat 112, .ofNat 46, .ofNat 101, .ofNat 120, .ofNat 97, .ofNat 109, .ofNat 112, .ofNat 108, .ofNat 101, .ofNat 47, .ofNat 103, .ofNat 48, .ofNat 48, .ofNat 50, .ofNat 51, .ofNat 53, .ofNat 47, .ofNat 108, .ofNat 97, .ofNat 119, .ofNat 115, .ofNat 46, .ofNat 70, .ofNat 110, .ofNat 69, .ofNat 120, .ofNat 97, .ofNat 99, .ofNat 116, .ofNat 87, .ofNat 114, .ofNat 111, .ofNat 110, .ofNat 103, .ofNat 75, .ofNat 105, .ofNat 110, .ofNat 100, .ofNat 32, .ofNat 108, .ofNat 111, .ofNat 111, .ofNat 112, .ofNat 46, .ofNat 101, .ofNat 120, .ofNat 97, .ofNat 109, .ofNat 112, .ofNat 108, .ofNat 101, .ofNat 47, .ofNat 103, .ofNat 48, .ofNat 48, .ofNat 50, .ofNat 51, .ofNat 53, .ofNat 47, .ofNat 108, .ofNat 97, .ofNat 119, .ofNat 115, .ofNat 46, .ofNat 70, .ofNat 110, .ofNat 69, .ofNat 120, .ofNat 97, .ofNat 99, .ofNat 116, .ofNat 83, .ofNat 104, .ofNat 111, .ofNat 114, .ofNat 116, .ofNat 32, .ofNat 108, .ofNat 111, .ofNat 111, .ofNat 112, .ofNat 46, .ofNat 101, .ofNat 120, .ofNat 97, .ofNat 109, .ofNat 112, .ofNat 108, .ofNat 101, .ofNat 47, .ofNat 103, .ofNat 48, .ofNat 48, .ofNat 50, .ofNat 51, .ofNat 53, .ofNat 47, .ofNat 108, .ofNat 97, .ofNat 119, .ofNat 115, .ofNat 46, .ofNat 70, .ofNat 110, .ofNat 69, .ofNat 120, .ofNat 97, .ofNat 99, .ofNat 116, .ofNat 85, .ofNat 110, .ofNat 109, .ofNat 97, .ofNat 114, .ofNat 107, .ofNat 101, .ofNat 100, .ofNat 32, .ofNat 108, .ofNat 111, .ofNat 111, .ofNat 112, .ofNat 46, .ofNat 101, .ofNat 120, .ofNat 97, .ofNat 109, .ofNat 112, .ofNat 108, .ofNat 101, .ofNat 47, .ofNat 103, .ofNat 48, .ofNat 48, .ofNat 50, .ofNat 51, .ofNat 53, .ofNat 47, .ofNat 108, .ofNat 97, .ofNat 119, .ofNat 115, .ofNat 46, .ofNat 70, .ofNat 110, .ofNat 69, .ofNat 120, .ofNat 97, .ofNat 99, .ofNat 116, .ofNat 80, .ofNat 117, .ofNat 116, .ofNat 68, .ofNat 101, .ofNat 112, .ofNat 32, .ofNat 108, .ofNat 111, .ofNat 111, .ofNat 112, .ofNat 46, .ofNat 101, .ofNat 120, .ofNat 97, .ofNat 109, .ofNat 112, .ofNat 108, .ofNat 101, .ofNat 47, .ofNat 103, .ofNat 48, .ofNat 48, .ofNat 50, .ofNat 51, .ofNat 53, .ofNat 47, .ofNat 108, .ofNat 97, .ofNat 119, .ofNat 115, .ofNat 46, .ofNat 70, .ofNat 110, .ofNat 69, .ofNat 120, .ofNat 97, .ofNat 99, .ofNat 116, .ofNat 68, .ofNat 114, .ofNat 111, .ofNat 112, .ofNat 68, .ofNat 101, .ofNat 112, .ofNat 32, .ofNat 108, .ofNat 111, .ofNat 111, .ofNat 112, .ofNat 46, .ofNat 101, .ofNat 120, .ofNat 97, .ofNat 109, .ofNat 112, .ofNat 108, .ofNat 101, .ofNat 47, .ofNat 103, .ofNat 48, .ofNat 48, .ofNat 50, .ofNat 51, .ofNat 53, .ofNat 47, .ofNat 108, .ofNat 97, .ofNat 119, .ofNat 115, .ofNat 46, .ofNat 70, .ofNat 110, .ofNat 69, .ofNat 120, .ofNat 97, .ofNat 99, .ofNat 116, .ofNat 84, .ofNat 97, .ofNat 107, .ofNat 101, .ofNat 66, .ofNat 108, .ofNat 111, .ofNat 99, .ofNat 107, .ofNat 32, .ofNat 108, .ofNat 111, .ofNat 111, .ofNat 112, .ofNat 46, .ofNat 101, .ofNat 120, .ofNat 97, .ofNat 109, .ofNat 112, .ofNat 108, .ofNat 101, .ofNat 47, .ofNat 103, .ofNat 48, .ofNat 48, .ofNat 50, .ofNat 51, .ofNat 53, .ofNat 47, .ofNat 108, .ofNat 97, .ofNat 119, .ofNat 115, .ofNat 46, .ofNat 70, .ofNat 110, .ofNat 69, .ofNat 120, .ofNat 97, .ofNat 99, .ofNat 116, .ofNat 84, .ofNat 97, .ofNat 107, .ofNat 101, .ofNat 73, .ofNat 110, .ofNat 111, .ofNat 32, .ofNat 108, .ofNat 111, .ofNat 111, .ofNat 112, .ofNat 46, .ofNat 101, .ofNat 120, .ofNat 97, .ofNat 109, .ofNat 112, .ofNat 108, .ofNat 101, .ofNat 47, .ofNat 103, .ofNat 48, .ofNat 48, .ofNat 50, .ofNat 51, .ofNat 53, .ofNat 47, .ofNat 108, .ofNat 97, .ofNat 119, .ofNat 115, .ofNat 46, .ofNat 70, .ofNat 110, .ofNat 69, .ofNat 120, .ofNat 97, .ofNat 99, .ofNat 116, .ofNat 82, .ofNat 101, .ofNat 97, .ofNat 99, .ofNat 104, .ofNat 101, .ofNat 100, .ofNat 32, .ofNat 108, .ofNat 111, .ofNat 111, .ofNat 112, .ofNat 46, .ofNat 101, .ofNat 120, .ofNat 97, .ofNat 109, .ofNat 112, .ofNat 108, .ofNat 101, .ofNat 47, .ofNat 103, .ofNat 48, .ofNat 48, .ofNat 50, .ofNat 51, .ofNat 53, .ofNat 47, .ofNat 108, .ofNat 97, .ofNat 119, .ofNat 115, .ofNat 46, .ofNat 70, .ofNat 110, .ofNat 69, .ofNat 120, .ofNat 97, .ofNat 99, .ofNat 116, .ofNat 70, .ofNat 115, .ofNat 78, .ofNat 101, .ofNat 119, .ofNat 32, .ofNat 108, .ofNat 111, .ofNat 111, .ofNat 112, .ofNat 46, .ofNat 101, .ofNat 120, .ofNat 97, .ofNat 109, .ofNat 112, .ofNat 108, .ofNat 101, .ofNat 47, .ofNat 103, .ofNat 48, .ofNat 48, .ofNat 50, .ofNat 51, .ofNat 53, .ofNat 47, .ofNat 108, .ofNat 97, .ofNat 119, .ofNat 115, .ofNat 46, .ofNat 70, .ofNat 110, .ofNat 69, .ofNat 120, .ofNat 97, .ofNat 99, .ofNat 116, .ofNat 73, .ofNat 109, .ofNat 97, .ofNat 103, .ofNat 101, .ofNat 85, .ofNat 110, .ofNat 105, .ofNat 116, .ofNat 32, .ofNat 108, .ofNat 111, .ofNat 111, .ofNat 112, .ofNat 46, .ofNat 101, .ofNat 120, .ofNat 97, .ofNat 109, .ofNat 112, .ofNat 108, .ofNat 101, .ofNat 47, .ofNat 103, .ofNat 48, .ofNat 48, .ofNat 50, .ofNat 51, .ofNat 53, .ofNat 47, .ofNat 108, .ofNat 97, .ofNat 119, .ofNat 115, .ofNat 46, .ofNat 70, .ofNat 110, .ofNat 69, .ofNat 120, .ofNat 97, .ofNat 99, .ofNat 116, .ofNat 83, .ofNat 97, .ofNat 102, .ofNat 101, .ofNat 68, .ofNat 105, .ofNat 115, .ofNat 107, .ofNat 32, .ofNat 108, .ofNat 111, .ofNat 111, .ofNat 112, .ofNat 46, .ofNat 101, .ofNat 120, .ofNat 97, .ofNat 109, .ofNat 112, .ofNat 108, .ofNat 101, .ofNat 47, .ofNat 103, .ofNat 48, .ofNat 48, .ofNat 50, .ofNat 51, .ofNat 53, .ofNat 47, .ofNat 108, .ofNat 97, .ofNat 119, .ofNat 115, .ofNat 46, .ofNat 70, .ofNat 110, .ofNat 69, .ofNat 120, .ofNat 97, .ofNat 99, .ofNat 116, .ofNat 84, .ofNat 114, .ofNat 101, .ofNat 101, .ofNat 79, .ofNat 102, .ofNat 32, .ofNat 108, .ofNat 111, .ofNat 111, .ofNat 112, .ofNat 46, .ofNat 101, .ofNat 120, .ofNat 97, .ofNat 109, .ofNat 112, .ofNat 108, .ofNat 101, .ofNat 47, .ofNat 103, .ofNat 48, .ofNat 48, .ofNat 50, .ofNat 51, .ofNat 53, .ofNat 47, .ofNat 108, .ofNat 97, .ofNat 119, .ofNat 115, .ofNat 46, .ofNat 70, .ofNat 110, .ofNat 69, .ofNat 120, .ofNat 97, .ofNat 99, .ofNat 116, .ofNat 69, .ofNat 120, .ofNat 97, .ofNat 99, .ofNat 116, .ofNat 68, .ofNat 105, .ofNat 115, .ofNat 107]
theorem head_text : Try.prog.initOrder = String.ofList headSigns := by kernel_rfl
theorem head_words : wordsSigns Try.prog.initOrder.toList = Go.Abs.wAcc headSigns [] [] := by
  rw [head_text, String.toList_ofList, Go.Abs.words_eq]
theorem head_behind : behindMainWord (wordsSigns Try.prog.initOrder.toList) = "cut".toList :: (Go.Abs.wAcc headSigns [] []).drop 3 := by
  rw [head_words]; kernel_rfl
theorem f_lays : Try.prog.laysLater = false := by kernel_rfl
theorem f_refl : Try.prog.bearsReflect = false := by kernel_rfl
theorem f_door : Try.prog.doorFits [] = true := by kernel_rfl
theorem f_mayEnter : Try.prog.mayEnter = true := Go.Abs.mayEnter_of head_behind f_lays f_refl f_door
theorem f_liftsFinal : Try.prog.liftsFinal = false := Go.Abs.liftsFinal_of head_behind
theorem f_make : Try.prog.make = some .cut := Go.Abs.make_of head_behind
theorem laidOut : laidOutB Try.prog = true := by kernel_rfl
theorem f_maps : mapsRowed Try.prog = true := by kernel_rfl
theorem f_stops : (Try.prog.stops == []) = true := by kernel_rfl
theorem f_knobs : (Try.prog.stopKnobs == []) = true := by kernel_rfl
theorem f_plain : (true == Try.prog.plainKeys) = true := by kernel_rfl
theorem f_heard : Try.prog.stopsHeard = true := by kernel_rfl
theorem own : ownKnob Try.prog.godebug = none := by kernel_rfl
end Go.Proofs.Ytaaajjinpppgeaa
/- FnExactDropDep returns true for every input, and leaves it as it was. No condition. -/
set_option linter.unusedVariables false
set_option linter.unusedSimpArgs false
set_option linter.unusedSectionVars false
namespace Go.Proofs.Ytaaajjinpppgeaa
open Go Go.Abs Go.ChangeShapes Go.WideShapes Go.ChangeAt Go.RowKit
set_option maxRecDepth 100000 in
theorem liftedFnExactDropDep (os : Os) (started : os.Started) (H : Type) (enc : TypeId × Value → H) :
    ReturnsInHanded {} Try.checked os 20 .any (Rows.fnExactDropDepSpec.pre6 enc Try.prog Try.f20 Rows.fnExactDropDepRow.domain false) (Rows.fnExactDropDepSpec.post enc Try.prog Try.f20 false true false false) := by
  refine returnsInHanded_of_change (C := Try.checked) own started (by kernel_rfl) Try.func20
    (ChangeSpec.witness6 (enc := enc) (C := Try.checked) false ⟨#[], #[.agg #[.slice none 0 0, .slice none 0 0, .slice none 0 0, .slice none 0 0, .slice none 0 0, .slice none 0 0, .int .i64 0], .int .i64 0], []⟩ 8 (by kernel_rfl) (by kernel_rfl) (by kernel_rfl) (by kernel_rfl)) ?_
  intro W base args ds gs before hval hW _ _
  obtain ⟨p, q, hA, hV, e, _, _⟩ := id hW
  refine (row_calls (P := Try.prog) (W := W) (n := 12) (shps := shFnExactDropDep) (fun avs h => calls (isFnExactDropDep h)) (ts := Try.f20.params.toList) (by kernel_rfl) (fun j t v h1 h2 => hval j t v (by simpa using h1) h2) hA).mono fun e W' ⟨he, hb⟩ => ?_
  refine ⟨_, he, row_post (tb := Try.f20.resultTypes.toList.headD 0) laidOut ?_ rfl (by kernel_rfl) (by kernel_rfl) ?_ hW hb⟩
  · exact List.all_eq_true.1 (show Try.f20.params.toList.all (fun t => Try.prog.readableRec t && decide (t < Try.prog.types.size)) = true by kernel_rfl) |> fun h t ht => by simpa using h t ht
  · have hl := trod_len hA
    match ds, hl with
    | [d0, d1], _ => rfl
set_option maxHeartbeats 4000000 in
theorem factsFnExactDropDep : joinedFacts Try.prog 20 Try.f20 Rows.fnExactDropDepSpec Rows.fnExactDropDepRow = true :=
  facts_of (by kernel_rfl) laidOut f_maps (by kernel_rfl) (by kernel_rfl) rfl f_stops rfl f_knobs (by as_aux_lemma => kernel_rfl) (by as_aux_lemma => kernel_rfl) (by as_aux_lemma => kernel_rfl) (by as_aux_lemma => kernel_rfl)
    (by kernel_rfl) (by kernel_rfl) (by kernel_rfl) (by kernel_rfl) (by kernel_rfl) rfl (by kernel_rfl) (by kernel_rfl) (by kernel_rfl) f_plain rfl f_heard f_mayEnter (by rw [f_liftsFinal]; rfl) (by rw [f_make]; rfl) rfl rfl rfl (by kernel_rfl) (by kernel_rfl)
theorem wrapFnExactDropDep : Try.f20.isWrapper Try.prog Rows.fnExactDropDepRow.wrapper Rows.fnExactDropDepRow.mainSum := by
  unfold Func.isWrapper; rw [if_neg (by decide +kernel)]; exact ⟨rfl, rfl⟩
set_option maxHeartbeats 4000000 in
theorem overFnExactDropDep : Rows.fnExactDropDepRow.holds Try.pinned (OpenSpec.ofChange Rows.fnExactDropDepSpec) :=
  OpenClaim.holds_of_wide 20 Try.f20 rfl rfl rfl rfl rfl rfl rfl ⟨rfl, rfl, rfl, rfl, rfl⟩ rfl rfl rfl rfl rfl (by as_aux_lemma => kernel_rfl) Try.func20 factsFnExactDropDep
    (by as_aux_lemma => exact of_decide_eq_true (by kernel_rfl)) wrapFnExactDropDep
    (fun os started H enc _ => liftedFnExactDropDep os started H enc)
theorem FnExactDropDep_holds : Rows.FnExactDropDepSaid := overFnExactDropDep
end Go.Proofs.Ytaaajjinpppgeaa
