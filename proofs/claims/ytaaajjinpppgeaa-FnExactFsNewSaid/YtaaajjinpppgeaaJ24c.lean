/- Part 3 of the texts of a claim, joined by a program of ours (Fv, Pa, Fp, Fo, Fl, Fk, Ka, Kb, Kc, Kd, Ke, Kf, Hb). No condition. -/
import Derived.Test.YtaaajjinpppgeaaJ24b
set_option linter.unusedVariables false
set_option linter.unusedSimpArgs false
set_option linter.unusedSectionVars false
/- The code of some functions, as the evaluator reads it (printed by a program of ours), checked against the program. Own work; no condition. -/
set_option linter.unusedVariables false
set_option linter.unusedSimpArgs false
set_option linter.unusedSectionVars false
namespace Go.Proofs.Ytaaajjinpppgeaa
open Go Go.Abs
set_option maxRecDepth 100000
def H158_3 : List Vw := [.opn 3 none none 2 3, .tidy [1, 2, 3, 4] [(1, none), (2, none), (3, none), (4, none), (3, some 2)]]
theorem h158_3 (b : Nat) (s : St) : vwL b H158_3 s = vwL b [.opn 3 none none 2 3, .tidy [1, 2, 3, 4] [(1, none), (2, none), (3, none), (4, none), (3, some 2)]] s := rfl
def L158_3 : EC := (.seq (.seq (.region [(.op .mv [(.tmp 4)] (some 10) true), (.op (.faddr 2) [(.tmp 1)] (some 11) true), (.op .load1 [(.tmp 11)] (some 12) true), (.op .len [(.tmp 12)] (some 13) true), (.op (.bin .lss) [(.tmp 10), (.tmp 13)] (some 14) true)] false) (.cond (.tmp 14) .skip (.exit 0))) (.seq (.block 1 (.region [(.op (.faddr 2) [(.tmp 3)] (some 17) false), (.op .load1 [(.tmp 17)] (some 18) false), (.op (.faddr 2) [(.tmp 1)] (some 19) false), (.op .load1 [(.tmp 19)] (some 20) false), (.op .mv [(.tmp 4)] (some 21) false), (.op (.iaddr 3) [(.tmp 20), (.tmp 21)] (some 22) false), (.op (.loadN 3) [(.tmp 22)] (some 23) false), (.pc (.const (.fn 142 [])) [(.tmp 23)] (some 24) false), (.op (.bslice 3 1 (.agg [(.int .i64 0), (.int .i64 0), .nil]) [0]) [(.tmp 24)] (some 25) false), (.op (.append 3 40) [(.tmp 18), (.tmp 25)] (some 26) true), (.op (.faddr 2) [(.tmp 3)] (some 27) true), (.op .store1 [(.tmp 27), (.tmp 26)] none true)] true)) (.region [(.op .mv [(.tmp 4)] (some 15) true), (.op (.bin .add) [(.tmp 15), (.const (.int .i64 1))] (some 16) true), (.op .mv [(.tmp 16)] (some 4) true)] false)))
def H158_8 : List Vw := [.opn 3 none none 3 3, .tidy [1, 2, 3, 5] [(1, none), (2, none), (3, none), (5, none), (3, some 3)]]
theorem h158_8 (b : Nat) (s : St) : vwL b H158_8 s = vwL b [.opn 3 none none 3 3, .tidy [1, 2, 3, 5] [(1, none), (2, none), (3, none), (5, none), (3, some 3)]] s := rfl
def L158_8 : EC := (.seq (.seq (.region [(.op .mv [(.tmp 5)] (some 28) true), (.op (.faddr 3) [(.tmp 1)] (some 29) true), (.op .load1 [(.tmp 29)] (some 30) true), (.op .len [(.tmp 30)] (some 31) true), (.op (.bin .lss) [(.tmp 28), (.tmp 31)] (some 32) true)] false) (.cond (.tmp 32) .skip (.exit 2))) (.seq (.block 3 (.region [(.op (.faddr 3) [(.tmp 3)] (some 35) false), (.op .load1 [(.tmp 35)] (some 36) false), (.op (.faddr 3) [(.tmp 1)] (some 37) false), (.op .load1 [(.tmp 37)] (some 38) false), (.op .mv [(.tmp 5)] (some 39) false), (.op (.iaddr 3) [(.tmp 38), (.tmp 39)] (some 40) false), (.op (.loadN 3) [(.tmp 40)] (some 41) false), (.pc (.const (.fn 147 [])) [(.tmp 41)] (some 42) false), (.op (.bslice 3 1 (.agg [(.bool false), .nil, (.str ⟨#[]⟩)]) [0]) [(.tmp 42)] (some 43) false), (.op (.append 3 48) [(.tmp 36), (.tmp 43)] (some 44) true), (.op (.faddr 3) [(.tmp 3)] (some 45) true), (.op .store1 [(.tmp 45), (.tmp 44)] none true)] true)) (.region [(.op .mv [(.tmp 5)] (some 33) true), (.op (.bin .add) [(.tmp 33), (.const (.int .i64 1))] (some 34) true), (.op .mv [(.tmp 34)] (some 5) true)] false)))
-- spec.l07Copy
def F158 : EF := ⟨(.seq (.region [(.op (.box 4) [(.tmp 0)] (some 1) true), (.op (.alloc (.agg [.nil, .nil, .nil, .nil])) [] (some 2) true)] false) (.seq (.region [(.op (.faddr 0) [(.tmp 1)] (some 6) true), (.op (.loadN 2) [(.tmp 6)] (some 7) true), (.pc (.const (.fn 233 [])) [(.tmp 7)] (some 8) true), (.op (.build [.nil, .nil, .nil, .nil] [(0, 2)]) [(.tmp 8)] (some 9) true), (.op (.alloc (.agg [.nil, .nil, .nil, .nil])) [] (some 3) true), (.op (.storeN 4) [(.tmp 3), (.tmp 9)] none true)] false) (.seq (.seq (.region [(.op .mv [(.const (.int .i64 0))] (some 4) true)] false) (.block 0 (.loop H158_3 L158_3))) (.seq (.seq (.region [(.op .mv [(.const (.int .i64 0))] (some 5) true)] false) (.block 2 (.loop H158_8 L158_8))) (.seq (.view [.opn 3 none none 0 1, .opn 3 none none 1 1, .opn 3 none none 2 3, .opn 3 none none 3 3] (.region [(.op (.loadN 4) [(.tmp 3)] (some 46) true), (.op (.storeN 4) [(.tmp 2), (.tmp 46)] none true)] false)) .ret))))), [(.cell 2 (.loadN 4))], 47, .one, none⟩
theorem t158 : T 158 = some F158 := tab Try.func158 (by kernel_rfl) rfl
def H159_3 : List Vw := [.opn 3 none none 2 3, .tidy [1, 2, 3, 13, 14, 15] [(1, none), (2, none), (3, none), (13, none), (14, none), (15, none), (3, some 2)]]
theorem h159_3 (b : Nat) (s : St) : vwL b H159_3 s = vwL b [.opn 3 none none 2 3, .tidy [1, 2, 3, 13, 14, 15] [(1, none), (2, none), (3, none), (13, none), (14, none), (15, none), (3, some 2)]] s := rfl
def L159_3 : EC := (.seq (.region [(.op (.bin .lss) [(.tmp 15), (.tmp 14)] (some 16) true)] false) (.seq (.cond (.tmp 16) .skip (.exit 0)) (.seq (.block 1 (.seq (.region [(.op (.iaddr 3) [(.tmp 13), (.tmp 15)] (some 17) true), (.op (.loadN 3) [(.tmp 17)] (some 18) true), (.op (.alloc (.agg [(.int .i64 0), (.int .i64 0), .nil])) [] (some 5) true), (.op (.storeN 3) [(.tmp 5), (.tmp 18)] none true)] false) (.region [(.op (.faddr 2) [(.tmp 3)] (some 19) false), (.op .load1 [(.tmp 19)] (some 20) false), (.op (.loadN 3) [(.tmp 5)] (some 21) false), (.pc (.const (.fn 144 [])) [(.tmp 21)] (some 22) false), (.op (.bslice 3 1 (.agg [(.int .i64 0), (.int .i64 0), .nil]) [0]) [(.tmp 22)] (some 23) false), (.op (.append 3 40) [(.tmp 20), (.tmp 23)] (some 24) true), (.op (.faddr 2) [(.tmp 3)] (some 25) true), (.op .store1 [(.tmp 25), (.tmp 24)] none true)] true))) (.region [(.op (.bin .add) [(.tmp 15), (.const (.int .i64 1))] (some 26) true), (.op .mv [(.tmp 26)] (some 15) true)] false))))
def H159_9 : List Vw := [.opn 3 none none 3 3, .tidy [2, 3, 28, 29, 30] [(2, none), (3, none), (28, none), (29, none), (30, none), (3, some 3)]]
theorem h159_9 (b : Nat) (s : St) : vwL b H159_9 s = vwL b [.opn 3 none none 3 3, .tidy [2, 3, 28, 29, 30] [(2, none), (3, none), (28, none), (29, none), (30, none), (3, some 3)]] s := rfl
def L159_9 : EC := (.seq (.region [(.op (.bin .lss) [(.tmp 30), (.tmp 29)] (some 31) true)] false) (.seq (.cond (.tmp 31) .skip (.exit 2)) (.seq (.block 3 (.seq (.region [(.op (.iaddr 3) [(.tmp 28), (.tmp 30)] (some 32) true), (.op (.loadN 3) [(.tmp 32)] (some 33) true), (.op (.alloc (.agg [(.bool false), .nil, (.str ⟨#[]⟩)])) [] (some 7) true), (.op (.storeN 3) [(.tmp 7), (.tmp 33)] none true)] false) (.region [(.op (.faddr 3) [(.tmp 3)] (some 34) false), (.op .load1 [(.tmp 34)] (some 35) false), (.op (.loadN 3) [(.tmp 7)] (some 36) false), (.pc (.const (.fn 148 [])) [(.tmp 36)] (some 37) false), (.op (.bslice 3 1 (.agg [(.bool false), .nil, (.str ⟨#[]⟩)]) [0]) [(.tmp 37)] (some 38) false), (.op (.append 3 48) [(.tmp 35), (.tmp 38)] (some 39) true), (.op (.faddr 3) [(.tmp 3)] (some 40) true), (.op .store1 [(.tmp 40), (.tmp 39)] none true)] true))) (.region [(.op (.bin .add) [(.tmp 30), (.const (.int .i64 1))] (some 41) true), (.op .mv [(.tmp 41)] (some 30) true)] false))))
-- impl.copyDisk
def F159 : EF := ⟨(.seq (.region [(.op (.box 4) [(.tmp 0)] (some 1) true), (.op (.alloc (.agg [.nil, .nil, .nil, .nil])) [] (some 2) true)] false) (.seq (.region [(.op (.faddr 0) [(.tmp 1)] (some 8) true), (.op (.loadN 2) [(.tmp 8)] (some 9) true), (.pc (.const (.fn 199 [])) [(.tmp 9)] (some 10) true), (.op (.build [.nil, .nil, .nil, .nil] [(0, 2)]) [(.tmp 10)] (some 11) true), (.op (.alloc (.agg [.nil, .nil, .nil, .nil])) [] (some 3) true), (.op (.storeN 4) [(.tmp 3), (.tmp 11)] none true)] false) (.seq (.seq (.region [(.op (.faddr 2) [(.tmp 1)] (some 12) true), (.op .load1 [(.tmp 12)] (some 13) true), (.op .len [(.tmp 13)] (some 14) true), (.op .mv [(.const (.int .i64 0))] (some 15) true)] false) (.block 0 (.loop H159_3 L159_3))) (.seq (.seq (.region [(.op (.faddr 3) [(.tmp 1)] (some 27) true), (.op .load1 [(.tmp 27)] (some 28) true), (.op .len [(.tmp 28)] (some 29) true), (.op .mv [(.const (.int .i64 0))] (some 30) true)] false) (.block 2 (.loop H159_9 L159_9))) (.seq (.view [.opn 3 none none 0 1, .opn 3 none none 1 1, .opn 3 none none 2 3, .opn 3 none none 3 3] (.region [(.op (.loadN 4) [(.tmp 3)] (some 42) true), (.op (.storeN 4) [(.tmp 2), (.tmp 42)] none true)] false)) .ret))))), [(.cell 2 (.loadN 4))], 43, .one, none⟩
theorem t159 : T 159 = some F159 := tab Try.func159 (by kernel_rfl) rfl
-- impl.copyBits
def F199 : EF := ⟨(.seq (.region [(.op (.box 2) [(.tmp 0)] (some 1) true), (.op (.alloc (.agg [.nil, .nil])) [] (some 2) true)] false) (.seq (.region [(.op (.faddr 0) [(.tmp 1)] (some 3) false), (.op .load1 [(.tmp 3)] (some 4) false), (.pc (.const (.fn 238 [])) [(.tmp 4)] (some 5) false), (.op (.faddr 1) [(.tmp 1)] (some 6) false), (.op .load1 [(.tmp 6)] (some 7) false), (.pc (.const (.fn 238 [])) [(.tmp 7)] (some 8) true), (.op (.build [.nil, .nil] [(0, 1), (1, 1)]) [(.tmp 5), (.tmp 8)] (some 9) true), (.op (.storeN 2) [(.tmp 2), (.tmp 9)] none true)] true) .ret)), [(.cell 2 (.loadN 2))], 10, (.agg [.row 1 .one, .row 1 .one]), none⟩
theorem t199 : T 199 = some F199 := tab Try.func199 (by kernel_rfl) rfl
-- spec.l05Copy
def F233 : EF := ⟨(.seq (.region [(.op (.box 2) [(.tmp 0)] (some 1) true), (.op (.alloc (.agg [.nil, .nil])) [] (some 2) true)] false) (.seq (.region [(.op (.bslice 1 0 (.bool false) []) [] (some 3) false), (.op (.faddr 0) [(.tmp 1)] (some 4) false), (.op .load1 [(.tmp 4)] (some 5) false), (.op (.append 1 1) [(.tmp 3), (.tmp 5)] (some 6) false), (.op (.bslice 1 0 (.bool false) []) [] (some 7) false), (.op (.faddr 1) [(.tmp 1)] (some 8) false), (.op .load1 [(.tmp 8)] (some 9) false), (.op (.append 1 1) [(.tmp 7), (.tmp 9)] (some 10) true), (.op (.build [.nil, .nil] [(0, 1), (1, 1)]) [(.tmp 6), (.tmp 10)] (some 11) true), (.op (.storeN 2) [(.tmp 2), (.tmp 11)] none true)] true) .ret)), [(.cell 2 (.loadN 2))], 12, (.agg [.row 1 .one, .row 1 .one]), none⟩
theorem t233 : T 233 = some F233 := tab Try.func233 (by kernel_rfl) rfl
-- impl.copyBools
def F238 : EF := ⟨(.seq (.region [(.op .mv [(.const .nil)] (some 2) true)] false) (.seq (.region [(.op (.bslice 1 0 (.bool false) []) [] (some 3) true), (.op .mv [(.tmp 0)] (some 4) true), (.op (.append 1 1) [(.tmp 3), (.tmp 4)] (some 5) true), (.op .mv [(.tmp 5)] (some 2) true)] false) .ret)), [(.tmp 2)], 6, (.row 1 .one), none⟩
theorem t238 : T 238 = some F238 := tab Try.func238 (by kernel_rfl) rfl
-- spec.MemNew
def F61 : EF := ⟨(.seq (.region [(.op (.box 4) [(.tmp 0)] (some 1) true), (.op (.alloc (.agg [.nil, .nil, .nil, .nil, .nil, .nil, (.int .i64 0)])) [] (some 2) true)] false) (.seq (.region [(.op (.loadN 4) [(.tmp 1)] (some 3) false), (.pc (.const (.fn 158 [])) [(.tmp 3)] (some 4) false), (.op (.mkslice 1 1 (.bool false)) [(.const (.int .i64 21)), (.const (.int .i64 21))] (some 5) false), (.op (.build [.nil, .nil, .nil, .nil, .nil, .nil, (.int .i64 0)] [(0, 4), (4, 1), (6, 1)]) [(.tmp 4), (.tmp 5), (.const (.int .i64 1))] (some 6) true), (.op (.storeN 7) [(.tmp 2), (.tmp 6)] none true)] true) .ret)), [(.cell 2 (.loadN 7))], 7, (.agg [.one, .one, .one, .one, .one, .row 11 .one, .one]), none⟩
theorem t61 : T 61 = some F61 := tab Try.func61 (by kernel_rfl) rfl
-- impl.MemNew
def F62 : EF := ⟨(.seq (.region [(.op (.box 4) [(.tmp 0)] (some 1) true), (.op (.alloc (.agg [.nil, .nil, .nil, .nil, .nil, .nil, (.int .i64 0)])) [] (some 2) true)] false) (.seq (.region [(.op (.loadN 4) [(.tmp 1)] (some 3) false), (.pc (.const (.fn 159 [])) [(.tmp 3)] (some 4) false), (.op (.mkslice 1 1 (.bool false)) [(.const (.int .i64 21)), (.const (.int .i64 21))] (some 5) false), (.op (.build [.nil, .nil, .nil, .nil, .nil, .nil, (.int .i64 0)] [(0, 4), (4, 1), (6, 1)]) [(.tmp 4), (.tmp 5), (.const (.int .i64 1))] (some 6) true), (.op (.storeN 7) [(.tmp 2), (.tmp 6)] none true)] true) .ret)), [(.cell 2 (.loadN 7))], 7, (.agg [.one, .one, .one, .one, .one, .row 11 .one, .one]), none⟩
theorem t62 : T 62 = some F62 := tab Try.func62 (by kernel_rfl) rfl
-- laws.FnExactMemNew
end Go.Proofs.Ytaaajjinpppgeaa

/- Copies of disks. Own work; no condition. -/
set_option linter.unusedVariables false
set_option linter.unusedSimpArgs false
set_option linter.unusedSectionVars false
namespace Go.Proofs.Ytaaajjinpppgeaa
open Go Go.Abs
set_option maxRecDepth 100000
theorem e238 (l : List Bool) (hl : l.length ≤ 1048576) : E T 238 [.ro 1 (l.map bv)] [] = some (.own 1 (l.map bv), []) := by
  rw [E_eqW t238 (Nat.le_of_ble_eq_true rfl)]
  cases l with
  | nil => simp only [F238, go_sem, seval, bnd_ite]
  | cons x xs =>
    have h : (xs.length + 1) * 1 ≤ 140737488355328 := by simp only [List.length_cons] at hl; omega
    simp only [F238, bv, go_sem, seval, bnd_ite, h]
theorem e199 (a b : List Bool) (ha : a.length ≤ 1048576) (hb : b.length ≤ 1048576) : E T 199 [.agg [.ro 1 (a.map bv), .ro 1 (b.map bv)]] [] = some (.agg [.own 1 (a.map bv), .own 1 (b.map bv)], []) := by
  rw [E_eqW t199 (Nat.le_of_ble_eq_true rfl)]
  have e1 := e238 a ha
  have e2 := e238 b hb
  have t1 : (a.map bv).take a.length = a.map bv := List.take_of_length_le (by simp)
  have t2 : (b.map bv).take b.length = b.map bv := List.take_of_length_le (by simp)
  simp only [F199, go_sem, seval, bnd_ite, e1, e2, t1, t2]
theorem e233 (a b : List Bool) (ha : a.length ≤ 1048576) (hb : b.length ≤ 1048576) : E T 233 [.agg [.ro 1 (a.map bv), .ro 1 (b.map bv)]] [] = some (.agg [.own 1 (a.map bv), .own 1 (b.map bv)], []) := by
  rw [E_eqW t233 (Nat.le_of_ble_eq_true rfl)]
  cases a with
  | nil =>
    cases b with
    | nil => simp only [F233, go_sem, seval, bnd_ite]
    | cons y ys =>
      have h : (ys.length + 1) * 1 ≤ 140737488355328 := by simp only [List.length_cons] at hb; omega
      simp only [F233, bv, go_sem, seval, bnd_ite, h]
  | cons x xs =>
    have h1 : (xs.length + 1) * 1 ≤ 140737488355328 := by simp only [List.length_cons] at ha; omega
    cases b with
    | nil => simp only [F233, bv, go_sem, seval, bnd_ite, h1]
    | cons y ys =>
      have h : (ys.length + 1) * 1 ≤ 140737488355328 := by simp only [List.length_cons] at hb; omega
      simp only [F233, bv, go_sem, seval, bnd_ite, h, h1]
theorem take_map {α : Type} {f : α → AV} {l : List α} {i : Nat} {p : α} (hp : l[i]? = some p) : (l.take i).map f ++ [f p] = (l.take (i + 1)).map f := by rw [take_snoc hp, List.map_append]; rfl
theorem takes_len {α : Type} {f : α → AV} {l : List α} {i : Nat} (hi : i ≤ l.length) : ((l.take i).map f).length = i := by rw [List.length_map, List.length_take]; omega
theorem cools_mi (g : Bool → Nat → Nat → Nat → AV) {L : List AV} (h : ∀ x ∈ L, coolX x = true) : mapIdL g L = L := by
  rw [mapIdL_map]
  exact (List.map_congr_left fun x hx => ((cool_ids g (fun _ _ _ _ => []) x).2 (h x hx)).1).trans (List.map_id' L)
theorem cools_is (u : Bool → Nat → Nat → Nat → List Nat) {L : List AV} (h : ∀ x ∈ L, coolX x = true) : idsL u L = [] := by
  rw [idsL_map]
  refine List.eq_nil_iff_forall_not_mem.2 fun y hy => ?_
  obtain ⟨x, hx, hy⟩ := List.mem_flatMap.1 hy
  rw [((cool_ids (fun _ _ _ _ => .undef) u x).2 (h x hx)).2] at hy
  cases hy
theorem snoc_facts {α : Type} {f : α → AV} (hc : ∀ x, coolX (f x) = true) {l : List α} {i : Nat} {p : α} (hp : l[i]? = some p) :
    ∃ M, (l.take i).map f = M ∧ M.length = i ∧ (∀ g, mapIdL g M = M) ∧ (∀ u, idsL u M = []) ∧ M.take i = M ∧ M ++ [f p] = (l.take (i + 1)).map f := by
  have hi := (List.getElem?_eq_some_iff.1 hp).1
  have hl : ((l.take i).map f).length = i := takes_len (Nat.le_of_lt hi)
  exact ⟨_, rfl, hl, fun g => mi_map g f _ hc, fun u => is_map u f _ hc, List.take_of_length_le (by omega), take_map hp⟩
def cpBox (x : Dsk) : AV := .agg [.ro 1 (x.used.map bv), .ro 1 (x.taken.map bv), .ro 3 (x.inos.map ino), .ro 3 (x.blks.map blk)]
theorem in159a (x : Dsk) (h : x.sm) : ∃ r, XL T 0 H159_3 L159_3 ⟨[(1, .ptr 0 0 0), (2, .ptr 1 0 0), (3, .ptr 2 0 0), (13, .ro 3 (x.inos.map ino)), (14, .int .i64 x.inos.length), (15, .int .i64 0)],
      [some (4, [cpBox x]), some (4, [.agg [.nil, .nil, .nil, .nil]]), some (4, [.agg [.own 1 (x.used.map bv), .own 1 (x.taken.map bv), .sl 3 0 0, .nil]]), some (3, [])]⟩ = some r ∧
    (r.1 = .exit 0 ∧ lookA r.2.env 1 = .ptr 0 0 0 ∧ lookA r.2.env 2 = .ptr 1 0 0 ∧ lookA r.2.env 3 = .ptr 2 0 0 ∧
      r.2.mem = [some (4, [cpBox x]), some (4, [.agg [.nil, .nil, .nil, .nil]]), some (4, [.agg [.own 1 (x.used.map bv), .own 1 (x.taken.map bv), .sl 3 0 x.inos.length, .nil]]), some (3, x.inos.map inoO)]) := by
  have hl := h.inos
  refine XL_each x.inos (fun (_ : Unit) _ => ()) (fun i _ => ⟨[(1, .ptr 0 0 0), (2, .ptr 1 0 0), (3, .ptr 2 0 0), (13, .ro 3 (x.inos.map ino)), (14, .int .i64 x.inos.length), (15, .int .i64 (i : Nat))],
      [some (4, [cpBox x]), some (4, [.agg [.nil, .nil, .nil, .nil]]), some (4, [.agg [.own 1 (x.used.map bv), .own 1 (x.taken.map bv), .sl 3 0 i, .nil]]), some (3, (x.inos.take i).map inoO)]⟩) (fun _ _ => True)
    (fun _ r => r.1 = .exit 0 ∧ lookA r.2.env 1 = .ptr 0 0 0 ∧ lookA r.2.env 2 = .ptr 1 0 0 ∧ lookA r.2.env 3 = .ptr 2 0 0 ∧
      r.2.mem = [some (4, [cpBox x]), some (4, [.agg [.nil, .nil, .nil, .nil]]), some (4, [.agg [.own 1 (x.used.map bv), .own 1 (x.taken.map bv), .sl 3 0 x.inos.length, .nil]]), some (3, x.inos.map inoO)]) ?step ?last () trivial
  case step =>
    intro i _ p hp hi _
    refine ⟨?_, trivial⟩
    have hi1 : (i : Int) < (x.inos.length : Int) := by omega
    have gp : (x.inos.map ino).getD i .undef = .agg [.int .i64 p.kind, .int .i64 p.links, .ro 1 (p.ptrs.map iv)] := gD_map hp
    have e1 := e144 p (h.ino p (List.mem_of_getElem? hp))
    unfold ino inoO at e1
    obtain ⟨M, hM, ml, mi, ms, mt, ma⟩ := snoc_facts inoO_cool hp
    unfold inoO at ma
    have htk : (List.map iv p.ptrs).take p.ptrs.length = List.map iv p.ptrs := List.take_of_length_le (by simp)
    have hap : (i + 1) * 40 ≤ 140737488355328 := by omega
    unfold cpBox
    simp only [hM]
    simp only [XG, L159_3, h159_3, go_sem, seval, bnd_ite, hi1, gp, e1, htk, ml, mi, ms, mt, ma, hap, Int.natCast_nonneg, w_i64 ((i : Int) + 1) (by omega)]
    rfl
  case last =>
    intro _ _
    unfold cpBox
    simp only [XG, L159_3, h159_3, go_sem, seval, bnd_ite, Int.lt_irrefl, decide_false]
    exact .mk (by simp) ⟨rfl, rfl, rfl, rfl, rfl⟩
theorem in159b (x : Dsk) (h : x.sm) : ∃ r, XL T 0 H159_9 L159_9 ⟨[(2, .ptr 0 0 0), (3, .ptr 1 0 0), (28, .ro 3 (x.blks.map blk)), (29, .int .i64 x.blks.length), (30, .int .i64 0)],
      [some (4, [.agg [.nil, .nil, .nil, .nil]]), some (4, [.agg [.own 1 (x.used.map bv), .own 1 (x.taken.map bv), .own 3 (x.inos.map inoO), .sl 2 0 0]]), some (3, [])]⟩ = some r ∧
    (r.1 = .exit 2 ∧ lookA r.2.env 2 = .ptr 0 0 0 ∧ lookA r.2.env 3 = .ptr 1 0 0 ∧
      r.2.mem = [some (4, [.agg [.nil, .nil, .nil, .nil]]), some (4, [.agg [.own 1 (x.used.map bv), .own 1 (x.taken.map bv), .own 3 (x.inos.map inoO), .sl 2 0 x.blks.length]]), some (3, x.blks.map blkO)]) := by
  have hl := h.blks
  refine XL_each x.blks (fun (_ : Unit) _ => ()) (fun i _ => ⟨[(2, .ptr 0 0 0), (3, .ptr 1 0 0), (28, .ro 3 (x.blks.map blk)), (29, .int .i64 x.blks.length), (30, .int .i64 (i : Nat))],
      [some (4, [.agg [.nil, .nil, .nil, .nil]]), some (4, [.agg [.own 1 (x.used.map bv), .own 1 (x.taken.map bv), .own 3 (x.inos.map inoO), .sl 2 0 i]]), some (3, (x.blks.take i).map blkO)]⟩) (fun _ _ => True)
    (fun _ r => r.1 = .exit 2 ∧ lookA r.2.env 2 = .ptr 0 0 0 ∧ lookA r.2.env 3 = .ptr 1 0 0 ∧
      r.2.mem = [some (4, [.agg [.nil, .nil, .nil, .nil]]), some (4, [.agg [.own 1 (x.used.map bv), .own 1 (x.taken.map bv), .own 3 (x.inos.map inoO), .sl 2 0 x.blks.length]]), some (3, x.blks.map blkO)]) ?step ?last () trivial
  case step =>
    intro i _ p hp hi _
    refine ⟨?_, trivial⟩
    have hi1 : (i : Int) < (x.blks.length : Int) := by omega
    have gp : (x.blks.map blk).getD i .undef = .agg [.bool p.dir, .ro 2 (p.slots.map slt), .str p.text] := gD_map hp
    have e1 := e148 p (h.blk p (List.mem_of_getElem? hp))
    unfold blk blkO at e1
    obtain ⟨M, hM, ml, mi, ms, mt, ma⟩ := snoc_facts blkO_cool hp
    unfold blkO at ma
    have htk : (List.map slt p.slots).take p.slots.length = List.map slt p.slots := List.take_of_length_le (by simp)
    have hap : (i + 1) * 48 ≤ 140737488355328 := by omega
    simp only [hM]
    simp only [XG, L159_9, h159_9, go_sem, seval, bnd_ite, hi1, gp, e1, htk, ml, mi, ms, mt, ma, hap, Int.natCast_nonneg, w_i64 ((i : Int) + 1) (by omega)]
    rfl
  case last =>
    intro _ _
    simp only [XG, L159_9, h159_9, go_sem, seval, bnd_ite, Int.lt_irrefl, decide_false]
    exact .mk (by simp) ⟨rfl, rfl, rfl, rfl⟩
theorem e159 (x : Dsk) (h : x.sm) : E T 159 [dsk x] [] = some (dskO x, []) := by
  rw [E_eq t159 (Nat.le_of_ble_eq_true rfl)]
  have e1 := e199 x.used x.taken h.used h.taken
  obtain ⟨⟨y, e, m⟩, k1, kx, k2, k3, k4, km⟩ := in159a x h
  simp only at kx k2 k3 k4 km; subst kx; subst km
  obtain ⟨⟨y, e', m⟩, l1, lx, l2, l3, lm⟩ := in159b x h
  simp only at lx l2 l3 lm; subst lx; subst lm
  unfold cpBox at k1
  have t1 : (x.used.map bv).take x.used.length = x.used.map bv := List.take_of_length_le (by simp)
  have t2 : (x.taken.map bv).take x.taken.length = x.taken.map bv := List.take_of_length_le (by simp)
  have t3 : (x.inos.map inoO).take x.inos.length = x.inos.map inoO := List.take_of_length_le (by simp)
  have t4 : (x.blks.map blkO).take x.blks.length = x.blks.map blkO := List.take_of_length_le (by simp)
  simp only [dsk, F159, cpBox, h159_3, h159_9, go_sem, seval, bnd_ite, e1, k1, k2, k3, k4, l1, l2, l3, dskO, t1, t2, t3, t4]
theorem in158a (x : Dsk) (h : x.sm) : ∃ r, XL T 0 H158_3 L158_3 ⟨[(1, .ptr 0 0 0), (2, .ptr 1 0 0), (3, .ptr 2 0 0), (4, .int .i64 0)],
      [some (4, [cpBox x]), some (4, [.agg [.nil, .nil, .nil, .nil]]), some (4, [.agg [.own 1 (x.used.map bv), .own 1 (x.taken.map bv), .sl 3 0 0, .nil]]), some (3, [])]⟩ = some r ∧
    (r.1 = .exit 0 ∧ lookA r.2.env 1 = .ptr 0 0 0 ∧ lookA r.2.env 2 = .ptr 1 0 0 ∧ lookA r.2.env 3 = .ptr 2 0 0 ∧
      r.2.mem = [some (4, [cpBox x]), some (4, [.agg [.nil, .nil, .nil, .nil]]), some (4, [.agg [.own 1 (x.used.map bv), .own 1 (x.taken.map bv), .sl 3 0 x.inos.length, .nil]]), some (3, x.inos.map inoO)]) := by
  have hl := h.inos
  refine XL_each x.inos (fun (_ : Unit) _ => ()) (fun i _ => ⟨[(1, .ptr 0 0 0), (2, .ptr 1 0 0), (3, .ptr 2 0 0), (4, .int .i64 (i : Nat))],
      [some (4, [cpBox x]), some (4, [.agg [.nil, .nil, .nil, .nil]]), some (4, [.agg [.own 1 (x.used.map bv), .own 1 (x.taken.map bv), .sl 3 0 i, .nil]]), some (3, (x.inos.take i).map inoO)]⟩) (fun _ _ => True)
    (fun _ r => r.1 = .exit 0 ∧ lookA r.2.env 1 = .ptr 0 0 0 ∧ lookA r.2.env 2 = .ptr 1 0 0 ∧ lookA r.2.env 3 = .ptr 2 0 0 ∧
      r.2.mem = [some (4, [cpBox x]), some (4, [.agg [.nil, .nil, .nil, .nil]]), some (4, [.agg [.own 1 (x.used.map bv), .own 1 (x.taken.map bv), .sl 3 0 x.inos.length, .nil]]), some (3, x.inos.map inoO)]) ?step ?last () trivial
  case step =>
    intro i _ p hp hi _
    refine ⟨?_, trivial⟩
    have hi1 : (i : Int) < (x.inos.length : Int) := by omega
    have gp : (x.inos.map ino).getD i .undef = .agg [.int .i64 p.kind, .int .i64 p.links, .ro 1 (p.ptrs.map iv)] := gD_map hp
    have e1 := e142 p (h.ino p (List.mem_of_getElem? hp))
    unfold ino inoO at e1
    obtain ⟨M, hM, ml, mi, ms, mt, ma⟩ := snoc_facts inoO_cool hp
    unfold inoO at ma
    have htk : (List.map iv p.ptrs).take p.ptrs.length = List.map iv p.ptrs := List.take_of_length_le (by simp)
    have hap : (i + 1) * 40 ≤ 140737488355328 := by omega
    unfold cpBox
    simp only [hM]
    simp only [XG, L158_3, h158_3, go_sem, seval, bnd_ite, hi1, gp, e1, htk, ml, mi, ms, mt, ma, hap, Int.natCast_nonneg, w_i64 ((i : Int) + 1) (by omega)]
    rfl
  case last =>
    intro _ _
    unfold cpBox
    simp only [XG, L158_3, h158_3, go_sem, seval, bnd_ite, Int.lt_irrefl, decide_false]
    exact .mk (by simp) ⟨rfl, rfl, rfl, rfl, rfl⟩
theorem in158b (x : Dsk) (h : x.sm) : ∃ r, XL T 0 H158_8 L158_8 ⟨[(1, .ptr 0 0 0), (2, .ptr 1 0 0), (3, .ptr 2 0 0), (5, .int .i64 0)],
      [some (4, [cpBox x]), some (4, [.agg [.nil, .nil, .nil, .nil]]), some (4, [.agg [.own 1 (x.used.map bv), .own 1 (x.taken.map bv), .own 3 (x.inos.map inoO), .sl 3 0 0]]), some (3, [])]⟩ = some r ∧
    (r.1 = .exit 2 ∧ lookA r.2.env 2 = .ptr 1 0 0 ∧ lookA r.2.env 3 = .ptr 2 0 0 ∧
      r.2.mem = [some (4, [cpBox x]), some (4, [.agg [.nil, .nil, .nil, .nil]]), some (4, [.agg [.own 1 (x.used.map bv), .own 1 (x.taken.map bv), .own 3 (x.inos.map inoO), .sl 3 0 x.blks.length]]), some (3, x.blks.map blkO)]) := by
  have hl := h.blks
  refine XL_each x.blks (fun (_ : Unit) _ => ()) (fun i _ => ⟨[(1, .ptr 0 0 0), (2, .ptr 1 0 0), (3, .ptr 2 0 0), (5, .int .i64 (i : Nat))],
      [some (4, [cpBox x]), some (4, [.agg [.nil, .nil, .nil, .nil]]), some (4, [.agg [.own 1 (x.used.map bv), .own 1 (x.taken.map bv), .own 3 (x.inos.map inoO), .sl 3 0 i]]), some (3, (x.blks.take i).map blkO)]⟩) (fun _ _ => True)
    (fun _ r => r.1 = .exit 2 ∧ lookA r.2.env 2 = .ptr 1 0 0 ∧ lookA r.2.env 3 = .ptr 2 0 0 ∧
      r.2.mem = [some (4, [cpBox x]), some (4, [.agg [.nil, .nil, .nil, .nil]]), some (4, [.agg [.own 1 (x.used.map bv), .own 1 (x.taken.map bv), .own 3 (x.inos.map inoO), .sl 3 0 x.blks.length]]), some (3, x.blks.map blkO)]) ?step ?last () trivial
  case step =>
    intro i _ p hp hi _
    refine ⟨?_, trivial⟩
    have hi1 : (i : Int) < (x.blks.length : Int) := by omega
    have gp : (x.blks.map blk).getD i .undef = .agg [.bool p.dir, .ro 2 (p.slots.map slt), .str p.text] := gD_map hp
    have e1 := e147 p (h.blk p (List.mem_of_getElem? hp))
    unfold blk blkO at e1
    obtain ⟨M, hM, ml, mi, ms, mt, ma⟩ := snoc_facts blkO_cool hp
    unfold blkO at ma
    have htk : (List.map slt p.slots).take p.slots.length = List.map slt p.slots := List.take_of_length_le (by simp)
    have hap : (i + 1) * 48 ≤ 140737488355328 := by omega
    unfold cpBox
    simp only [hM]
    simp only [XG, L158_8, h158_8, go_sem, seval, bnd_ite, hi1, gp, e1, htk, ml, mi, ms, mt, ma, hap, Int.natCast_nonneg, w_i64 ((i : Int) + 1) (by omega)]
    rfl
  case last =>
    intro _ _
    unfold cpBox
    simp only [XG, L158_8, h158_8, go_sem, seval, bnd_ite, Int.lt_irrefl, decide_false]
    exact .mk (by simp) ⟨rfl, rfl, rfl, rfl⟩
theorem e158 (x : Dsk) (h : x.sm) : E T 158 [dsk x] [] = some (dskO x, []) := by
  rw [E_eq t158 (Nat.le_of_ble_eq_true rfl)]
  have e1 := e233 x.used x.taken h.used h.taken
  obtain ⟨⟨y, e, m⟩, k1, kx, k2, k3, k4, km⟩ := in158a x h
  simp only at kx k2 k3 k4 km; subst kx; subst km
  obtain ⟨⟨y, e', m⟩, l1, lx, l2, l3, lm⟩ := in158b x h
  simp only at lx l2 l3 lm; subst lx; subst lm
  unfold cpBox at k1 l1
  have t1 : (x.used.map bv).take x.used.length = x.used.map bv := List.take_of_length_le (by simp)
  have t2 : (x.taken.map bv).take x.taken.length = x.taken.map bv := List.take_of_length_le (by simp)
  have t3 : (x.inos.map inoO).take x.inos.length = x.inos.map inoO := List.take_of_length_le (by simp)
  have t4 : (x.blks.map blkO).take x.blks.length = x.blks.map blkO := List.take_of_length_le (by simp)
  simp only [dsk, F158, cpBox, h158_3, h158_8, go_sem, seval, bnd_ite, e1, k1, k2, k3, k4, l1, l2, l3, dskO, t1, t2, t3, t4]
end Go.Proofs.Ytaaajjinpppgeaa

/- The code of some functions, as the evaluator reads it (printed by a program of ours), checked against the program. Own work; no condition. -/
set_option linter.unusedVariables false
set_option linter.unusedSimpArgs false
set_option linter.unusedSectionVars false
namespace Go.Proofs.Ytaaajjinpppgeaa
open Go Go.Abs
set_option maxRecDepth 100000
def H146_2 : List Vw := [.tidy [0, 1, 5] [(0, none), (1, none), (5, none)]]
theorem h146_2 (b : Nat) (s : St) : vwL b H146_2 s = vwL b [.tidy [0, 1, 5] [(0, none), (1, none), (5, none)]] s := rfl
def L146_2 : EC := (.seq (.seq (.region [(.op .mv [(.tmp 5)] (some 6) true), (.op .mv [(.tmp 0)] (some 7) true), (.op .len [(.tmp 7)] (some 8) true), (.op (.bin .lss) [(.tmp 6), (.tmp 8)] (some 9) true)] false) (.cond (.tmp 9) .skip (.exit 0))) (.seq (.block 1 (.seq (.region [(.op .mv [(.tmp 0)] (some 12) true), (.op .mv [(.tmp 5)] (some 13) true), (.op .mv [(.tmp 1)] (some 14) true), (.op (.iaddr 11) [(.tmp 12), (.tmp 13)] (some 15) true), (.op (.faddr 0) [(.tmp 15)] (some 16) true), (.op .store1 [(.tmp 16), (.tmp 14)] none true)] false) (.seq (.region [(.op .mv [(.tmp 1)] (some 17) true), (.op (.bin .add) [(.tmp 17), (.const (.int .i64 1))] (some 18) true), (.op .mv [(.tmp 18)] (some 1) true)] false) (.seq (.region [(.op .mv [(.tmp 0)] (some 19) true), (.op .mv [(.tmp 5)] (some 20) true), (.op .mv [(.tmp 1)] (some 21) true), (.op (.iaddr 11) [(.tmp 19), (.tmp 20)] (some 22) true), (.op (.faddr 1) [(.tmp 22)] (some 23) true), (.op .store1 [(.tmp 23), (.tmp 21)] none true)] false) (.seq (.region [(.op .mv [(.tmp 1)] (some 24) true), (.op (.bin .add) [(.tmp 24), (.const (.int .i64 1))] (some 25) true), (.op .mv [(.tmp 25)] (some 1) true)] false) (.seq (.region [(.op .mv [(.tmp 0)] (some 26) true), (.op .mv [(.tmp 5)] (some 27) true), (.op .mv [(.tmp 1)] (some 28) true), (.op (.iaddr 11) [(.tmp 26), (.tmp 27)] (some 29) true), (.op (.faddr 2) [(.tmp 29)] (some 30) true), (.op .store1 [(.tmp 30), (.tmp 28)] none true)] false) (.seq (.region [(.op .mv [(.tmp 1)] (some 31) true), (.op (.bin .add) [(.tmp 31), (.const (.int .i64 1))] (some 32) true), (.op .mv [(.tmp 32)] (some 1) true)] false) (.seq (.region [(.op .mv [(.tmp 0)] (some 33) true), (.op .mv [(.tmp 5)] (some 34) true), (.op .mv [(.tmp 1)] (some 35) true), (.op (.iaddr 11) [(.tmp 33), (.tmp 34)] (some 36) true), (.op (.faddr 3) [(.tmp 36)] (some 37) true), (.op .store1 [(.tmp 37), (.tmp 35)] none true)] false) (.seq (.region [(.op .mv [(.tmp 1)] (some 38) true), (.op (.bin .add) [(.tmp 38), (.const (.int .i64 1))] (some 39) true), (.op .mv [(.tmp 39)] (some 1) true)] false) (.seq (.region [(.op .mv [(.tmp 0)] (some 40) true), (.op .mv [(.tmp 5)] (some 41) true), (.op .mv [(.tmp 1)] (some 42) true), (.op (.iaddr 11) [(.tmp 40), (.tmp 41)] (some 43) true), (.op (.faddr 4) [(.tmp 43)] (some 44) true), (.op .store1 [(.tmp 44), (.tmp 42)] none true)] false) (.seq (.region [(.op .mv [(.tmp 1)] (some 45) true), (.op (.bin .add) [(.tmp 45), (.const (.int .i64 1))] (some 46) true), (.op .mv [(.tmp 46)] (some 1) true)] false) (.seq (.region [(.op .mv [(.tmp 0)] (some 47) true), (.op .mv [(.tmp 5)] (some 48) true), (.op .mv [(.tmp 1)] (some 49) true), (.op (.iaddr 11) [(.tmp 47), (.tmp 48)] (some 50) true), (.op (.faddr 5) [(.tmp 50)] (some 51) true), (.op .store1 [(.tmp 51), (.tmp 49)] none true)] false) (.seq (.region [(.op .mv [(.tmp 1)] (some 52) true), (.op (.bin .add) [(.tmp 52), (.const (.int .i64 1))] (some 53) true), (.op .mv [(.tmp 53)] (some 1) true)] false) (.seq (.region [(.op .mv [(.tmp 0)] (some 54) true), (.op .mv [(.tmp 5)] (some 55) true), (.op .mv [(.tmp 1)] (some 56) true), (.pc (.const (.fn 207 [])) [(.tmp 56)] (some 57) true), (.op (.iaddr 11) [(.tmp 54), (.tmp 55)] (some 58) true), (.op (.faddr 6) [(.tmp 58)] (some 59) true), (.op .store1 [(.tmp 59), (.tmp 57)] none true)] false) (.seq (.region [(.op .mv [(.tmp 1)] (some 60) true), (.op (.bin .add) [(.tmp 60), (.const (.int .i64 1))] (some 61) true), (.op .mv [(.tmp 61)] (some 1) true)] false) (.seq (.region [(.op .mv [(.tmp 0)] (some 62) true), (.op .mv [(.tmp 5)] (some 63) true), (.op .mv [(.tmp 1)] (some 64) true), (.op (.bin .rem) [(.tmp 64), (.const (.int .i64 3))] (some 65) true), (.op (.bin .eql) [(.tmp 65), (.const (.int .i64 0))] (some 66) true), (.op (.iaddr 11) [(.tmp 62), (.tmp 63)] (some 67) true), (.op (.faddr 7) [(.tmp 67)] (some 68) true), (.op .store1 [(.tmp 68), (.tmp 66)] none true)] false) (.seq (.region [(.op .mv [(.tmp 1)] (some 69) true), (.op (.bin .add) [(.tmp 69), (.const (.int .i64 1))] (some 70) true), (.op .mv [(.tmp 70)] (some 1) true)] false) (.seq (.region [(.op .mv [(.tmp 0)] (some 71) true), (.op .mv [(.tmp 5)] (some 72) true), (.op .mv [(.tmp 1)] (some 73) true), (.op (.bin .rem) [(.tmp 73), (.const (.int .i64 3))] (some 74) true), (.op (.bin .eql) [(.tmp 74), (.const (.int .i64 0))] (some 75) true), (.op (.iaddr 11) [(.tmp 71), (.tmp 72)] (some 76) true), (.op (.faddr 8) [(.tmp 76)] (some 77) true), (.op .store1 [(.tmp 77), (.tmp 75)] none true)] false) (.seq (.region [(.op .mv [(.tmp 1)] (some 78) true), (.op (.bin .add) [(.tmp 78), (.const (.int .i64 1))] (some 79) true), (.op .mv [(.tmp 79)] (some 1) true)] false) (.seq (.region [(.op .mv [(.tmp 0)] (some 80) true), (.op .mv [(.tmp 5)] (some 81) true), (.op .mv [(.tmp 1)] (some 82) true), (.op (.iaddr 11) [(.tmp 80), (.tmp 81)] (some 83) true), (.op (.faddr 9) [(.tmp 83)] (some 84) true), (.op .store1 [(.tmp 84), (.tmp 82)] none true)] false) (.seq (.region [(.op .mv [(.tmp 1)] (some 85) true), (.op (.bin .add) [(.tmp 85), (.const (.int .i64 1))] (some 86) true), (.op .mv [(.tmp 86)] (some 1) true)] false) (.view [.opn 0 none (some (5, 0)) 10 1] (.region [(.op .mv [(.tmp 0)] (some 87) true), (.op .mv [(.tmp 5)] (some 88) true), (.op (.iaddr 11) [(.tmp 87), (.tmp 88)] (some 89) true), (.op (.faddr 10) [(.tmp 89)] (some 90) true), (.op .load1 [(.tmp 90)] (some 91) true), (.op .mv [(.tmp 1)] (some 92) true), (.sc (.const (.fn 100 [])) [(.tmp 91), (.tmp 92)] (some 93) true), (.op .mv [(.tmp 93)] (some 1) true)] false))))))))))))))))))))))) (.region [(.op .mv [(.tmp 5)] (some 10) true), (.op (.bin .add) [(.tmp 10), (.const (.int .i64 1))] (some 11) true), (.op .mv [(.tmp 11)] (some 5) true)] false)))
-- laws.markDepS
def F146 : EF := ⟨(.seq (.region [(.op .mv [(.const (.int .i64 0))] (some 4) true)] false) (.seq (.seq (.region [(.op .mv [(.const (.int .i64 0))] (some 5) true)] false) (.block 0 (.loop H146_2 L146_2))) (.seq (.region [(.op .mv [(.tmp 1)] (some 94) true), (.op .mv [(.tmp 94)] (some 4) true)] false) .ret))), [(.tmp 4)], 95, .one, none⟩
theorem t146 : T 146 = some F146 := tab Try.func146 (by kernel_rfl) rfl
def H164_2 : List Vw := [.tidy [0, 1, 5] [(0, none), (1, none), (5, none)]]
theorem h164_2 (b : Nat) (s : St) : vwL b H164_2 s = vwL b [.tidy [0, 1, 5] [(0, none), (1, none), (5, none)]] s := rfl
def L164_2 : EC := (.seq (.seq (.region [(.op .mv [(.tmp 5)] (some 6) true), (.op .mv [(.tmp 0)] (some 7) true), (.op .len [(.tmp 7)] (some 8) true), (.op (.bin .lss) [(.tmp 6), (.tmp 8)] (some 9) true)] false) (.cond (.tmp 9) .skip (.exit 0))) (.seq (.block 1 (.seq (.seq (.region [(.op .mv [(.tmp 0)] (some 12) true), (.op .mv [(.tmp 5)] (some 13) true), (.op (.iaddr 11) [(.tmp 12), (.tmp 13)] (some 14) true), (.op (.faddr 0) [(.tmp 14)] (some 15) true), (.op .load1 [(.tmp 15)] (some 16) true), (.op .mv [(.tmp 1)] (some 17) true), (.op (.bin .neq) [(.tmp 16), (.tmp 17)] (some 18) true)] false) (.cond (.tmp 18) (.seq (.region [(.op .mv [(.const (.int .i64 (-1)))] (some 4) true)] false) .ret) .skip)) (.seq (.region [(.op .mv [(.tmp 1)] (some 19) true), (.op (.bin .add) [(.tmp 19), (.const (.int .i64 1))] (some 20) true), (.op .mv [(.tmp 20)] (some 1) true)] false) (.seq (.seq (.region [(.op .mv [(.tmp 0)] (some 21) true), (.op .mv [(.tmp 5)] (some 22) true), (.op (.iaddr 11) [(.tmp 21), (.tmp 22)] (some 23) true), (.op (.faddr 1) [(.tmp 23)] (some 24) true), (.op .load1 [(.tmp 24)] (some 25) true), (.op .mv [(.tmp 1)] (some 26) true), (.op (.bin .neq) [(.tmp 25), (.tmp 26)] (some 27) true)] false) (.cond (.tmp 27) (.seq (.region [(.op .mv [(.const (.int .i64 (-1)))] (some 4) true)] false) .ret) .skip)) (.seq (.region [(.op .mv [(.tmp 1)] (some 28) true), (.op (.bin .add) [(.tmp 28), (.const (.int .i64 1))] (some 29) true), (.op .mv [(.tmp 29)] (some 1) true)] false) (.seq (.seq (.region [(.op .mv [(.tmp 0)] (some 30) true), (.op .mv [(.tmp 5)] (some 31) true), (.op (.iaddr 11) [(.tmp 30), (.tmp 31)] (some 32) true), (.op (.faddr 2) [(.tmp 32)] (some 33) true), (.op .load1 [(.tmp 33)] (some 34) true), (.op .mv [(.tmp 1)] (some 35) true), (.op (.bin .neq) [(.tmp 34), (.tmp 35)] (some 36) true)] false) (.cond (.tmp 36) (.seq (.region [(.op .mv [(.const (.int .i64 (-1)))] (some 4) true)] false) .ret) .skip)) (.seq (.region [(.op .mv [(.tmp 1)] (some 37) true), (.op (.bin .add) [(.tmp 37), (.const (.int .i64 1))] (some 38) true), (.op .mv [(.tmp 38)] (some 1) true)] false) (.seq (.seq (.region [(.op .mv [(.tmp 0)] (some 39) true), (.op .mv [(.tmp 5)] (some 40) true), (.op (.iaddr 11) [(.tmp 39), (.tmp 40)] (some 41) true), (.op (.faddr 3) [(.tmp 41)] (some 42) true), (.op .load1 [(.tmp 42)] (some 43) true), (.op .mv [(.tmp 1)] (some 44) true), (.op (.bin .neq) [(.tmp 43), (.tmp 44)] (some 45) true)] false) (.cond (.tmp 45) (.seq (.region [(.op .mv [(.const (.int .i64 (-1)))] (some 4) true)] false) .ret) .skip)) (.seq (.region [(.op .mv [(.tmp 1)] (some 46) true), (.op (.bin .add) [(.tmp 46), (.const (.int .i64 1))] (some 47) true), (.op .mv [(.tmp 47)] (some 1) true)] false) (.seq (.seq (.region [(.op .mv [(.tmp 0)] (some 48) true), (.op .mv [(.tmp 5)] (some 49) true), (.op (.iaddr 11) [(.tmp 48), (.tmp 49)] (some 50) true), (.op (.faddr 4) [(.tmp 50)] (some 51) true), (.op .load1 [(.tmp 51)] (some 52) true), (.op .mv [(.tmp 1)] (some 53) true), (.op (.bin .neq) [(.tmp 52), (.tmp 53)] (some 54) true)] false) (.cond (.tmp 54) (.seq (.region [(.op .mv [(.const (.int .i64 (-1)))] (some 4) true)] false) .ret) .skip)) (.seq (.region [(.op .mv [(.tmp 1)] (some 55) true), (.op (.bin .add) [(.tmp 55), (.const (.int .i64 1))] (some 56) true), (.op .mv [(.tmp 56)] (some 1) true)] false) (.seq (.seq (.region [(.op .mv [(.tmp 0)] (some 57) true), (.op .mv [(.tmp 5)] (some 58) true), (.op (.iaddr 11) [(.tmp 57), (.tmp 58)] (some 59) true), (.op (.faddr 5) [(.tmp 59)] (some 60) true), (.op .load1 [(.tmp 60)] (some 61) true), (.op .mv [(.tmp 1)] (some 62) true), (.op (.bin .neq) [(.tmp 61), (.tmp 62)] (some 63) true)] false) (.cond (.tmp 63) (.seq (.region [(.op .mv [(.const (.int .i64 (-1)))] (some 4) true)] false) .ret) .skip)) (.seq (.region [(.op .mv [(.tmp 1)] (some 64) true), (.op (.bin .add) [(.tmp 64), (.const (.int .i64 1))] (some 65) true), (.op .mv [(.tmp 65)] (some 1) true)] false) (.seq (.seq (.region [(.op .mv [(.tmp 0)] (some 66) false), (.op .mv [(.tmp 5)] (some 67) false), (.op (.iaddr 11) [(.tmp 66), (.tmp 67)] (some 68) false), (.op (.faddr 6) [(.tmp 68)] (some 69) false), (.op .load1 [(.tmp 69)] (some 70) false), (.op .mv [(.tmp 1)] (some 71) false), (.pc (.const (.fn 207 [])) [(.tmp 71)] (some 72) false), (.op (.bin .neq) [(.tmp 70), (.tmp 72)] (some 73) true)] true) (.cond (.tmp 73) (.seq (.region [(.op .mv [(.const (.int .i64 (-1)))] (some 4) true)] false) .ret) .skip)) (.seq (.region [(.op .mv [(.tmp 1)] (some 74) true), (.op (.bin .add) [(.tmp 74), (.const (.int .i64 1))] (some 75) true), (.op .mv [(.tmp 75)] (some 1) true)] false) (.seq (.seq (.region [(.op .mv [(.tmp 0)] (some 76) true), (.op .mv [(.tmp 5)] (some 77) true), (.op (.iaddr 11) [(.tmp 76), (.tmp 77)] (some 78) true), (.op (.faddr 7) [(.tmp 78)] (some 79) true), (.op .load1 [(.tmp 79)] (some 80) true), (.op .mv [(.tmp 1)] (some 81) true), (.op (.bin .rem) [(.tmp 81), (.const (.int .i64 3))] (some 82) true), (.op (.bin .eql) [(.tmp 82), (.const (.int .i64 0))] (some 83) true), (.op (.binB true) [(.tmp 80), (.tmp 83)] (some 84) true)] false) (.cond (.tmp 84) (.seq (.region [(.op .mv [(.const (.int .i64 (-1)))] (some 4) true)] false) .ret) .skip)) (.seq (.region [(.op .mv [(.tmp 1)] (some 85) true), (.op (.bin .add) [(.tmp 85), (.const (.int .i64 1))] (some 86) true), (.op .mv [(.tmp 86)] (some 1) true)] false) (.seq (.seq (.region [(.op .mv [(.tmp 0)] (some 87) true), (.op .mv [(.tmp 5)] (some 88) true), (.op (.iaddr 11) [(.tmp 87), (.tmp 88)] (some 89) true), (.op (.faddr 8) [(.tmp 89)] (some 90) true), (.op .load1 [(.tmp 90)] (some 91) true), (.op .mv [(.tmp 1)] (some 92) true), (.op (.bin .rem) [(.tmp 92), (.const (.int .i64 3))] (some 93) true), (.op (.bin .eql) [(.tmp 93), (.const (.int .i64 0))] (some 94) true), (.op (.binB true) [(.tmp 91), (.tmp 94)] (some 95) true)] false) (.cond (.tmp 95) (.seq (.region [(.op .mv [(.const (.int .i64 (-1)))] (some 4) true)] false) .ret) .skip)) (.seq (.region [(.op .mv [(.tmp 1)] (some 96) true), (.op (.bin .add) [(.tmp 96), (.const (.int .i64 1))] (some 97) true), (.op .mv [(.tmp 97)] (some 1) true)] false) (.seq (.seq (.region [(.op .mv [(.tmp 0)] (some 98) true), (.op .mv [(.tmp 5)] (some 99) true), (.op (.iaddr 11) [(.tmp 98), (.tmp 99)] (some 100) true), (.op (.faddr 9) [(.tmp 100)] (some 101) true), (.op .load1 [(.tmp 101)] (some 102) true), (.op .mv [(.tmp 1)] (some 103) true), (.op (.bin .neq) [(.tmp 102), (.tmp 103)] (some 104) true)] false) (.cond (.tmp 104) (.seq (.region [(.op .mv [(.const (.int .i64 (-1)))] (some 4) true)] false) .ret) .skip)) (.seq (.region [(.op .mv [(.tmp 1)] (some 105) true), (.op (.bin .add) [(.tmp 105), (.const (.int .i64 1))] (some 106) true), (.op .mv [(.tmp 106)] (some 1) true)] false) (.seq (.region [(.op .mv [(.tmp 0)] (some 107) true), (.op .mv [(.tmp 5)] (some 108) true), (.op (.iaddr 11) [(.tmp 107), (.tmp 108)] (some 109) true), (.op (.faddr 10) [(.tmp 109)] (some 110) true), (.op .load1 [(.tmp 110)] (some 111) true), (.op .mv [(.tmp 1)] (some 112) true), (.pc (.const (.fn 101 [])) [(.tmp 111), (.tmp 112)] (some 113) true), (.op .mv [(.tmp 113)] (some 1) true)] false) (.seq (.region [(.op .mv [(.tmp 1)] (some 114) true), (.op (.bin .lss) [(.tmp 114), (.const (.int .i64 0))] (some 115) true)] false) (.cond (.tmp 115) (.seq (.region [(.op .mv [(.const (.int .i64 (-1)))] (some 4) true)] false) .ret) .skip)))))))))))))))))))))))) (.region [(.op .mv [(.tmp 5)] (some 10) true), (.op (.bin .add) [(.tmp 10), (.const (.int .i64 1))] (some 11) true), (.op .mv [(.tmp 11)] (some 5) true)] false)))
-- laws.heldDepS
def F164 : EF := ⟨(.seq (.region [(.op .mv [(.const (.int .i64 0))] (some 4) true)] false) (.seq (.seq (.region [(.op .mv [(.const (.int .i64 0))] (some 5) true)] false) (.block 0 (.loop H164_2 L164_2))) (.seq (.region [(.op .mv [(.tmp 1)] (some 116) true), (.op .mv [(.tmp 116)] (some 4) true)] false) .ret))), [(.tmp 4)], 117, .one, none⟩
theorem t164 : T 164 = some F164 := tab Try.func164 (by kernel_rfl) rfl
-- laws.markMem
def F51 : EF := ⟨(.seq (.region [(.op (.box 7) [(.tmp 0)] (some 2) true), (.op .mv [(.const (.int .i64 0))] (some 4) true)] false) (.seq (.region [(.op (.faddr 0) [(.tmp 2)] (some 5) true), (.op (.loadN 4) [(.tmp 5)] (some 6) true), (.op .mv [(.tmp 1)] (some 7) true), (.sc (.const (.fn 63 [])) [(.tmp 6), (.tmp 7)] (some 8) true), (.op .mv [(.tmp 8)] (some 1) true)] false) (.seq (.region [(.op (.faddr 4) [(.tmp 2)] (some 9) true), (.op .load1 [(.tmp 9)] (some 10) true), (.op .mv [(.tmp 1)] (some 11) true), (.sc (.const (.fn 145 [])) [(.tmp 10), (.tmp 11)] (some 12) true), (.op .mv [(.tmp 12)] (some 1) true)] false) (.seq (.region [(.op (.faddr 5) [(.tmp 2)] (some 13) true), (.op .load1 [(.tmp 13)] (some 14) true), (.op .mv [(.tmp 1)] (some 15) true), (.sc (.const (.fn 146 [])) [(.tmp 14), (.tmp 15)] (some 16) true), (.op .mv [(.tmp 16)] (some 1) true)] false) (.seq (.region [(.op .mv [(.tmp 1)] (some 17) true), (.op .mv [(.tmp 17)] (some 4) true)] false) .ret))))), [(.tmp 4)], 18, .one, none⟩
theorem t51 : T 51 = some F51 := tab Try.func51 (by kernel_rfl) rfl
-- laws.heldMem
def F64 : EF := ⟨(.seq (.region [(.op (.box 7) [(.tmp 0)] (some 2) true), (.op .mv [(.const (.int .i64 0))] (some 4) true)] false) (.seq (.region [(.op (.faddr 0) [(.tmp 2)] (some 5) true), (.op (.loadN 4) [(.tmp 5)] (some 6) true), (.op .mv [(.tmp 1)] (some 7) true), (.pc (.const (.fn 67 [])) [(.tmp 6), (.tmp 7)] (some 8) true), (.op .mv [(.tmp 8)] (some 1) true)] false) (.seq (.seq (.region [(.op .mv [(.tmp 1)] (some 9) true), (.op (.bin .lss) [(.tmp 9), (.const (.int .i64 0))] (some 10) true)] false) (.cond (.tmp 10) (.seq (.region [(.op .mv [(.const (.int .i64 (-1)))] (some 4) true)] false) .ret) .skip)) (.seq (.region [(.op (.faddr 4) [(.tmp 2)] (some 11) true), (.op .load1 [(.tmp 11)] (some 12) true), (.op .mv [(.tmp 1)] (some 13) true), (.pc (.const (.fn 163 [])) [(.tmp 12), (.tmp 13)] (some 14) true), (.op .mv [(.tmp 14)] (some 1) true)] false) (.seq (.seq (.region [(.op .mv [(.tmp 1)] (some 15) true), (.op (.bin .lss) [(.tmp 15), (.const (.int .i64 0))] (some 16) true)] false) (.cond (.tmp 16) (.seq (.region [(.op .mv [(.const (.int .i64 (-1)))] (some 4) true)] false) .ret) .skip)) (.seq (.region [(.op (.faddr 5) [(.tmp 2)] (some 17) true), (.op .load1 [(.tmp 17)] (some 18) true), (.op .mv [(.tmp 1)] (some 19) true), (.pc (.const (.fn 164 [])) [(.tmp 18), (.tmp 19)] (some 20) true), (.op .mv [(.tmp 20)] (some 1) true)] false) (.seq (.seq (.region [(.op .mv [(.tmp 1)] (some 21) true), (.op (.bin .lss) [(.tmp 21), (.const (.int .i64 0))] (some 22) true)] false) (.cond (.tmp 22) (.seq (.region [(.op .mv [(.const (.int .i64 (-1)))] (some 4) true)] false) .ret) .skip)) (.seq (.region [(.op .mv [(.tmp 1)] (some 23) true), (.op .mv [(.tmp 23)] (some 4) true)] false) .ret)))))))), [(.tmp 4)], 24, .one, none⟩
theorem t64 : T 64 = some F64 := tab Try.func64 (by kernel_rfl) rfl
end Go.Proofs.Ytaaajjinpppgeaa

/- The code of some functions, as the evaluator reads it (printed by a program of ours), checked against the program. Own work; no condition. -/
set_option linter.unusedVariables false
set_option linter.unusedSimpArgs false
set_option linter.unusedSectionVars false
namespace Go.Proofs.Ytaaajjinpppgeaa
open Go Go.Abs
set_option maxRecDepth 100000
def H161_2 : List Vw := [.tidy [0, 1, 5] [(0, none), (1, none), (5, none)]]
theorem h161_2 (b : Nat) (s : St) : vwL b H161_2 s = vwL b [.tidy [0, 1, 5] [(0, none), (1, none), (5, none)]] s := rfl
def L161_2 : EC := (.seq (.seq (.region [(.op .mv [(.tmp 5)] (some 6) true), (.op .mv [(.tmp 0)] (some 7) true), (.op .len [(.tmp 7)] (some 8) true), (.op (.bin .lss) [(.tmp 6), (.tmp 8)] (some 9) true)] false) (.cond (.tmp 9) .skip (.exit 0))) (.seq (.block 1 (.seq (.region [(.op .mv [(.tmp 0)] (some 12) true), (.op .mv [(.tmp 5)] (some 13) true), (.op .mv [(.tmp 1)] (some 14) true), (.op (.iaddr 3) [(.tmp 12), (.tmp 13)] (some 15) true), (.op (.faddr 0) [(.tmp 15)] (some 16) true), (.op .store1 [(.tmp 16), (.tmp 14)] none true)] false) (.seq (.region [(.op .mv [(.tmp 1)] (some 17) true), (.op (.bin .add) [(.tmp 17), (.const (.int .i64 1))] (some 18) true), (.op .mv [(.tmp 18)] (some 1) true)] false) (.seq (.region [(.op .mv [(.tmp 0)] (some 19) true), (.op .mv [(.tmp 5)] (some 20) true), (.op .mv [(.tmp 1)] (some 21) true), (.op (.iaddr 3) [(.tmp 19), (.tmp 20)] (some 22) true), (.op (.faddr 1) [(.tmp 22)] (some 23) true), (.op .store1 [(.tmp 23), (.tmp 21)] none true)] false) (.seq (.region [(.op .mv [(.tmp 1)] (some 24) true), (.op (.bin .add) [(.tmp 24), (.const (.int .i64 1))] (some 25) true), (.op .mv [(.tmp 25)] (some 1) true)] false) (.view [.opn 0 none (some (5, 0)) 2 1] (.region [(.op .mv [(.tmp 0)] (some 26) true), (.op .mv [(.tmp 5)] (some 27) true), (.op (.iaddr 3) [(.tmp 26), (.tmp 27)] (some 28) true), (.op (.faddr 2) [(.tmp 28)] (some 29) true), (.op .load1 [(.tmp 29)] (some 30) true), (.op .mv [(.tmp 1)] (some 31) true), (.sc (.const (.fn 100 [])) [(.tmp 30), (.tmp 31)] (some 32) true), (.op .mv [(.tmp 32)] (some 1) true)] false))))))) (.region [(.op .mv [(.tmp 5)] (some 10) true), (.op (.bin .add) [(.tmp 10), (.const (.int .i64 1))] (some 11) true), (.op .mv [(.tmp 11)] (some 5) true)] false)))
-- laws.markInodeS
def F161 : EF := ⟨(.seq (.region [(.op .mv [(.const (.int .i64 0))] (some 4) true)] false) (.seq (.seq (.region [(.op .mv [(.const (.int .i64 0))] (some 5) true)] false) (.block 0 (.loop H161_2 L161_2))) (.seq (.region [(.op .mv [(.tmp 1)] (some 33) true), (.op .mv [(.tmp 33)] (some 4) true)] false) .ret))), [(.tmp 4)], 34, .one, none⟩
theorem t161 : T 161 = some F161 := tab Try.func161 (by kernel_rfl) rfl
def H162_2 : List Vw := [.tidy [0, 1, 5] [(0, none), (1, none), (5, none)]]
theorem h162_2 (b : Nat) (s : St) : vwL b H162_2 s = vwL b [.tidy [0, 1, 5] [(0, none), (1, none), (5, none)]] s := rfl
def L162_2 : EC := (.seq (.seq (.region [(.op .mv [(.tmp 5)] (some 6) true), (.op .mv [(.tmp 0)] (some 7) true), (.op .len [(.tmp 7)] (some 8) true), (.op (.bin .lss) [(.tmp 6), (.tmp 8)] (some 9) true)] false) (.cond (.tmp 9) .skip (.exit 0))) (.seq (.block 1 (.seq (.region [(.op .mv [(.tmp 0)] (some 12) true), (.op .mv [(.tmp 5)] (some 13) true), (.op .mv [(.tmp 1)] (some 14) true), (.op (.bin .rem) [(.tmp 14), (.const (.int .i64 3))] (some 15) true), (.op (.bin .eql) [(.tmp 15), (.const (.int .i64 0))] (some 16) true), (.op (.iaddr 3) [(.tmp 12), (.tmp 13)] (some 17) true), (.op (.faddr 0) [(.tmp 17)] (some 18) true), (.op .store1 [(.tmp 18), (.tmp 16)] none true)] false) (.seq (.region [(.op .mv [(.tmp 1)] (some 19) true), (.op (.bin .add) [(.tmp 19), (.const (.int .i64 1))] (some 20) true), (.op .mv [(.tmp 20)] (some 1) true)] false) (.seq (.view [.opn 0 none (some (5, 0)) 1 2] (.region [(.op .mv [(.tmp 0)] (some 21) true), (.op .mv [(.tmp 5)] (some 22) true), (.op (.iaddr 3) [(.tmp 21), (.tmp 22)] (some 23) true), (.op (.faddr 1) [(.tmp 23)] (some 24) true), (.op .load1 [(.tmp 24)] (some 25) true), (.op .mv [(.tmp 1)] (some 26) true), (.sc (.const (.fn 151 [])) [(.tmp 25), (.tmp 26)] (some 27) true), (.op .mv [(.tmp 27)] (some 1) true)] false)) (.seq (.region [(.op .mv [(.tmp 0)] (some 28) true), (.op .mv [(.tmp 5)] (some 29) true), (.op .mv [(.tmp 1)] (some 30) true), (.pc (.const (.fn 207 [])) [(.tmp 30)] (some 31) true), (.op (.iaddr 3) [(.tmp 28), (.tmp 29)] (some 32) true), (.op (.faddr 2) [(.tmp 32)] (some 33) true), (.op .store1 [(.tmp 33), (.tmp 31)] none true)] false) (.region [(.op .mv [(.tmp 1)] (some 34) true), (.op (.bin .add) [(.tmp 34), (.const (.int .i64 1))] (some 35) true), (.op .mv [(.tmp 35)] (some 1) true)] false)))))) (.region [(.op .mv [(.tmp 5)] (some 10) true), (.op (.bin .add) [(.tmp 10), (.const (.int .i64 1))] (some 11) true), (.op .mv [(.tmp 11)] (some 5) true)] false)))
-- laws.markBlockS
def F162 : EF := ⟨(.seq (.region [(.op .mv [(.const (.int .i64 0))] (some 4) true)] false) (.seq (.seq (.region [(.op .mv [(.const (.int .i64 0))] (some 5) true)] false) (.block 0 (.loop H162_2 L162_2))) (.seq (.region [(.op .mv [(.tmp 1)] (some 36) true), (.op .mv [(.tmp 36)] (some 4) true)] false) .ret))), [(.tmp 4)], 37, .one, none⟩
theorem t162 : T 162 = some F162 := tab Try.func162 (by kernel_rfl) rfl
def H167_2 : List Vw := [.tidy [0, 1, 5] [(0, none), (1, none), (5, none)]]
theorem h167_2 (b : Nat) (s : St) : vwL b H167_2 s = vwL b [.tidy [0, 1, 5] [(0, none), (1, none), (5, none)]] s := rfl
def L167_2 : EC := (.seq (.seq (.region [(.op .mv [(.tmp 5)] (some 6) true), (.op .mv [(.tmp 0)] (some 7) true), (.op .len [(.tmp 7)] (some 8) true), (.op (.bin .lss) [(.tmp 6), (.tmp 8)] (some 9) true)] false) (.cond (.tmp 9) .skip (.exit 0))) (.seq (.block 1 (.seq (.seq (.region [(.op .mv [(.tmp 0)] (some 12) true), (.op .mv [(.tmp 5)] (some 13) true), (.op (.iaddr 3) [(.tmp 12), (.tmp 13)] (some 14) true), (.op (.faddr 0) [(.tmp 14)] (some 15) true), (.op .load1 [(.tmp 15)] (some 16) true), (.op .mv [(.tmp 1)] (some 17) true), (.op (.bin .neq) [(.tmp 16), (.tmp 17)] (some 18) true)] false) (.cond (.tmp 18) (.seq (.region [(.op .mv [(.const (.int .i64 (-1)))] (some 4) true)] false) .ret) .skip)) (.seq (.region [(.op .mv [(.tmp 1)] (some 19) true), (.op (.bin .add) [(.tmp 19), (.const (.int .i64 1))] (some 20) true), (.op .mv [(.tmp 20)] (some 1) true)] false) (.seq (.seq (.region [(.op .mv [(.tmp 0)] (some 21) true), (.op .mv [(.tmp 5)] (some 22) true), (.op (.iaddr 3) [(.tmp 21), (.tmp 22)] (some 23) true), (.op (.faddr 1) [(.tmp 23)] (some 24) true), (.op .load1 [(.tmp 24)] (some 25) true), (.op .mv [(.tmp 1)] (some 26) true), (.op (.bin .neq) [(.tmp 25), (.tmp 26)] (some 27) true)] false) (.cond (.tmp 27) (.seq (.region [(.op .mv [(.const (.int .i64 (-1)))] (some 4) true)] false) .ret) .skip)) (.seq (.region [(.op .mv [(.tmp 1)] (some 28) true), (.op (.bin .add) [(.tmp 28), (.const (.int .i64 1))] (some 29) true), (.op .mv [(.tmp 29)] (some 1) true)] false) (.seq (.region [(.op .mv [(.tmp 0)] (some 30) true), (.op .mv [(.tmp 5)] (some 31) true), (.op (.iaddr 3) [(.tmp 30), (.tmp 31)] (some 32) true), (.op (.faddr 2) [(.tmp 32)] (some 33) true), (.op .load1 [(.tmp 33)] (some 34) true), (.op .mv [(.tmp 1)] (some 35) true), (.pc (.const (.fn 101 [])) [(.tmp 34), (.tmp 35)] (some 36) true), (.op .mv [(.tmp 36)] (some 1) true)] false) (.seq (.region [(.op .mv [(.tmp 1)] (some 37) true), (.op (.bin .lss) [(.tmp 37), (.const (.int .i64 0))] (some 38) true)] false) (.cond (.tmp 38) (.seq (.region [(.op .mv [(.const (.int .i64 (-1)))] (some 4) true)] false) .ret) .skip)))))))) (.region [(.op .mv [(.tmp 5)] (some 10) true), (.op (.bin .add) [(.tmp 10), (.const (.int .i64 1))] (some 11) true), (.op .mv [(.tmp 11)] (some 5) true)] false)))
-- laws.heldInodeS
def F167 : EF := ⟨(.seq (.region [(.op .mv [(.const (.int .i64 0))] (some 4) true)] false) (.seq (.seq (.region [(.op .mv [(.const (.int .i64 0))] (some 5) true)] false) (.block 0 (.loop H167_2 L167_2))) (.seq (.region [(.op .mv [(.tmp 1)] (some 39) true), (.op .mv [(.tmp 39)] (some 4) true)] false) .ret))), [(.tmp 4)], 40, .one, none⟩
theorem t167 : T 167 = some F167 := tab Try.func167 (by kernel_rfl) rfl
def H168_2 : List Vw := [.tidy [0, 1, 5] [(0, none), (1, none), (5, none)]]
theorem h168_2 (b : Nat) (s : St) : vwL b H168_2 s = vwL b [.tidy [0, 1, 5] [(0, none), (1, none), (5, none)]] s := rfl
def L168_2 : EC := (.seq (.seq (.region [(.op .mv [(.tmp 5)] (some 6) true), (.op .mv [(.tmp 0)] (some 7) true), (.op .len [(.tmp 7)] (some 8) true), (.op (.bin .lss) [(.tmp 6), (.tmp 8)] (some 9) true)] false) (.cond (.tmp 9) .skip (.exit 0))) (.seq (.block 1 (.seq (.seq (.region [(.op .mv [(.tmp 0)] (some 12) true), (.op .mv [(.tmp 5)] (some 13) true), (.op (.iaddr 3) [(.tmp 12), (.tmp 13)] (some 14) true), (.op (.faddr 0) [(.tmp 14)] (some 15) true), (.op .load1 [(.tmp 15)] (some 16) true), (.op .mv [(.tmp 1)] (some 17) true), (.op (.bin .rem) [(.tmp 17), (.const (.int .i64 3))] (some 18) true), (.op (.bin .eql) [(.tmp 18), (.const (.int .i64 0))] (some 19) true), (.op (.binB true) [(.tmp 16), (.tmp 19)] (some 20) true)] false) (.cond (.tmp 20) (.seq (.region [(.op .mv [(.const (.int .i64 (-1)))] (some 4) true)] false) .ret) .skip)) (.seq (.region [(.op .mv [(.tmp 1)] (some 21) true), (.op (.bin .add) [(.tmp 21), (.const (.int .i64 1))] (some 22) true), (.op .mv [(.tmp 22)] (some 1) true)] false) (.seq (.region [(.op .mv [(.tmp 0)] (some 23) true), (.op .mv [(.tmp 5)] (some 24) true), (.op (.iaddr 3) [(.tmp 23), (.tmp 24)] (some 25) true), (.op (.faddr 1) [(.tmp 25)] (some 26) true), (.op .load1 [(.tmp 26)] (some 27) true), (.op .mv [(.tmp 1)] (some 28) true), (.pc (.const (.fn 152 [])) [(.tmp 27), (.tmp 28)] (some 29) true), (.op .mv [(.tmp 29)] (some 1) true)] false) (.seq (.seq (.region [(.op .mv [(.tmp 1)] (some 30) true), (.op (.bin .lss) [(.tmp 30), (.const (.int .i64 0))] (some 31) true)] false) (.cond (.tmp 31) (.seq (.region [(.op .mv [(.const (.int .i64 (-1)))] (some 4) true)] false) .ret) .skip)) (.seq (.seq (.region [(.op .mv [(.tmp 0)] (some 32) false), (.op .mv [(.tmp 5)] (some 33) false), (.op (.iaddr 3) [(.tmp 32), (.tmp 33)] (some 34) false), (.op (.faddr 2) [(.tmp 34)] (some 35) false), (.op .load1 [(.tmp 35)] (some 36) false), (.op .mv [(.tmp 1)] (some 37) false), (.pc (.const (.fn 207 [])) [(.tmp 37)] (some 38) false), (.op (.bin .neq) [(.tmp 36), (.tmp 38)] (some 39) true)] true) (.cond (.tmp 39) (.seq (.region [(.op .mv [(.const (.int .i64 (-1)))] (some 4) true)] false) .ret) .skip)) (.region [(.op .mv [(.tmp 1)] (some 40) true), (.op (.bin .add) [(.tmp 40), (.const (.int .i64 1))] (some 41) true), (.op .mv [(.tmp 41)] (some 1) true)] false))))))) (.region [(.op .mv [(.tmp 5)] (some 10) true), (.op (.bin .add) [(.tmp 10), (.const (.int .i64 1))] (some 11) true), (.op .mv [(.tmp 11)] (some 5) true)] false)))
-- laws.heldBlockS
def F168 : EF := ⟨(.seq (.region [(.op .mv [(.const (.int .i64 0))] (some 4) true)] false) (.seq (.seq (.region [(.op .mv [(.const (.int .i64 0))] (some 5) true)] false) (.block 0 (.loop H168_2 L168_2))) (.seq (.region [(.op .mv [(.tmp 1)] (some 42) true), (.op .mv [(.tmp 42)] (some 4) true)] false) .ret))), [(.tmp 4)], 43, .one, none⟩
theorem t168 : T 168 = some F168 := tab Try.func168 (by kernel_rfl) rfl
-- laws.markBits
def F160 : EF := ⟨(.seq (.region [(.op (.box 2) [(.tmp 0)] (some 2) true), (.op .mv [(.const (.int .i64 0))] (some 4) true)] false) (.seq (.region [(.op (.faddr 0) [(.tmp 2)] (some 5) true), (.op .load1 [(.tmp 5)] (some 6) true), (.op .mv [(.tmp 1)] (some 7) true), (.sc (.const (.fn 145 [])) [(.tmp 6), (.tmp 7)] (some 8) true), (.op .mv [(.tmp 8)] (some 1) true)] false) (.seq (.region [(.op (.faddr 1) [(.tmp 2)] (some 9) true), (.op .load1 [(.tmp 9)] (some 10) true), (.op .mv [(.tmp 1)] (some 11) true), (.sc (.const (.fn 145 [])) [(.tmp 10), (.tmp 11)] (some 12) true), (.op .mv [(.tmp 12)] (some 1) true)] false) (.seq (.region [(.op .mv [(.tmp 1)] (some 13) true), (.op .mv [(.tmp 13)] (some 4) true)] false) .ret)))), [(.tmp 4)], 14, .one, none⟩
theorem t160 : T 160 = some F160 := tab Try.func160 (by kernel_rfl) rfl
-- laws.heldBits
def F166 : EF := ⟨(.seq (.region [(.op (.box 2) [(.tmp 0)] (some 2) true), (.op .mv [(.const (.int .i64 0))] (some 4) true)] false) (.seq (.region [(.op (.faddr 0) [(.tmp 2)] (some 5) true), (.op .load1 [(.tmp 5)] (some 6) true), (.op .mv [(.tmp 1)] (some 7) true), (.pc (.const (.fn 163 [])) [(.tmp 6), (.tmp 7)] (some 8) true), (.op .mv [(.tmp 8)] (some 1) true)] false) (.seq (.seq (.region [(.op .mv [(.tmp 1)] (some 9) true), (.op (.bin .lss) [(.tmp 9), (.const (.int .i64 0))] (some 10) true)] false) (.cond (.tmp 10) (.seq (.region [(.op .mv [(.const (.int .i64 (-1)))] (some 4) true)] false) .ret) .skip)) (.seq (.region [(.op (.faddr 1) [(.tmp 2)] (some 11) true), (.op .load1 [(.tmp 11)] (some 12) true), (.op .mv [(.tmp 1)] (some 13) true), (.pc (.const (.fn 163 [])) [(.tmp 12), (.tmp 13)] (some 14) true), (.op .mv [(.tmp 14)] (some 1) true)] false) (.seq (.seq (.region [(.op .mv [(.tmp 1)] (some 15) true), (.op (.bin .lss) [(.tmp 15), (.const (.int .i64 0))] (some 16) true)] false) (.cond (.tmp 16) (.seq (.region [(.op .mv [(.const (.int .i64 (-1)))] (some 4) true)] false) .ret) .skip)) (.seq (.region [(.op .mv [(.tmp 1)] (some 17) true), (.op .mv [(.tmp 17)] (some 4) true)] false) .ret)))))), [(.tmp 4)], 18, .one, none⟩
theorem t166 : T 166 = some F166 := tab Try.func166 (by kernel_rfl) rfl
-- laws.markDisk
def F63 : EF := ⟨(.seq (.region [(.op (.box 4) [(.tmp 0)] (some 2) true), (.op .mv [(.const (.int .i64 0))] (some 4) true)] false) (.seq (.region [(.op (.faddr 0) [(.tmp 2)] (some 5) true), (.op (.loadN 2) [(.tmp 5)] (some 6) true), (.op .mv [(.tmp 1)] (some 7) true), (.sc (.const (.fn 160 [])) [(.tmp 6), (.tmp 7)] (some 8) true), (.op .mv [(.tmp 8)] (some 1) true)] false) (.seq (.region [(.op (.faddr 2) [(.tmp 2)] (some 9) true), (.op .load1 [(.tmp 9)] (some 10) true), (.op .mv [(.tmp 1)] (some 11) true), (.sc (.const (.fn 161 [])) [(.tmp 10), (.tmp 11)] (some 12) true), (.op .mv [(.tmp 12)] (some 1) true)] false) (.seq (.region [(.op (.faddr 3) [(.tmp 2)] (some 13) true), (.op .load1 [(.tmp 13)] (some 14) true), (.op .mv [(.tmp 1)] (some 15) true), (.sc (.const (.fn 162 [])) [(.tmp 14), (.tmp 15)] (some 16) true), (.op .mv [(.tmp 16)] (some 1) true)] false) (.seq (.region [(.op .mv [(.tmp 1)] (some 17) true), (.op .mv [(.tmp 17)] (some 4) true)] false) .ret))))), [(.tmp 4)], 18, .one, none⟩
theorem t63 : T 63 = some F63 := tab Try.func63 (by kernel_rfl) rfl
-- laws.heldDisk
def F67 : EF := ⟨(.seq (.region [(.op (.box 4) [(.tmp 0)] (some 2) true), (.op .mv [(.const (.int .i64 0))] (some 4) true)] false) (.seq (.region [(.op (.faddr 0) [(.tmp 2)] (some 5) true), (.op (.loadN 2) [(.tmp 5)] (some 6) true), (.op .mv [(.tmp 1)] (some 7) true), (.pc (.const (.fn 166 [])) [(.tmp 6), (.tmp 7)] (some 8) true), (.op .mv [(.tmp 8)] (some 1) true)] false) (.seq (.seq (.region [(.op .mv [(.tmp 1)] (some 9) true), (.op (.bin .lss) [(.tmp 9), (.const (.int .i64 0))] (some 10) true)] false) (.cond (.tmp 10) (.seq (.region [(.op .mv [(.const (.int .i64 (-1)))] (some 4) true)] false) .ret) .skip)) (.seq (.region [(.op (.faddr 2) [(.tmp 2)] (some 11) true), (.op .load1 [(.tmp 11)] (some 12) true), (.op .mv [(.tmp 1)] (some 13) true), (.pc (.const (.fn 167 [])) [(.tmp 12), (.tmp 13)] (some 14) true), (.op .mv [(.tmp 14)] (some 1) true)] false) (.seq (.seq (.region [(.op .mv [(.tmp 1)] (some 15) true), (.op (.bin .lss) [(.tmp 15), (.const (.int .i64 0))] (some 16) true)] false) (.cond (.tmp 16) (.seq (.region [(.op .mv [(.const (.int .i64 (-1)))] (some 4) true)] false) .ret) .skip)) (.seq (.region [(.op (.faddr 3) [(.tmp 2)] (some 17) true), (.op .load1 [(.tmp 17)] (some 18) true), (.op .mv [(.tmp 1)] (some 19) true), (.pc (.const (.fn 168 [])) [(.tmp 18), (.tmp 19)] (some 20) true), (.op .mv [(.tmp 20)] (some 1) true)] false) (.seq (.seq (.region [(.op .mv [(.tmp 1)] (some 21) true), (.op (.bin .lss) [(.tmp 21), (.const (.int .i64 0))] (some 22) true)] false) (.cond (.tmp 22) (.seq (.region [(.op .mv [(.const (.int .i64 (-1)))] (some 4) true)] false) .ret) .skip)) (.seq (.region [(.op .mv [(.tmp 1)] (some 23) true), (.op .mv [(.tmp 23)] (some 4) true)] false) .ret)))))))), [(.tmp 4)], 24, .one, none⟩
theorem t67 : T 67 = some F67 := tab Try.func67 (by kernel_rfl) rfl
end Go.Proofs.Ytaaajjinpppgeaa

/- The code of some functions, as the evaluator reads it (printed by a program of ours), checked against the program. Own work; no condition. -/
set_option linter.unusedVariables false
set_option linter.unusedSimpArgs false
set_option linter.unusedSectionVars false
namespace Go.Proofs.Ytaaajjinpppgeaa
open Go Go.Abs
set_option maxRecDepth 100000
def H207_4 : List Vw := [.tidy [0, 3] [(0, none), (3, none)]]
theorem h207_4 (b : Nat) (s : St) : vwL b H207_4 s = vwL b [.tidy [0, 3] [(0, none), (3, none)]] s := rfl
def L207_4 : EC := (.seq (.seq (.region [(.op .mv [(.tmp 0)] (some 6) true), (.op (.bin .gtr) [(.tmp 6), (.const (.int .i64 0))] (some 7) true)] false) (.cond (.tmp 7) .skip (.exit 0))) (.block 1 (.seq (.region [(.op .mv [(.tmp 0)] (some 8) true), (.op (.bin .rem) [(.tmp 8), (.const (.int .i64 10))] (some 9) true), (.op (.bin .add) [(.const (.int .i64 48)), (.tmp 9)] (some 10) true), (.op (.conv .u8) [(.tmp 10)] (some 11) true), (.op (.bslice 1 1 (.int .u8 0) [0]) [(.tmp 11)] (some 12) true), (.op .b2s [(.tmp 12)] (some 13) true), (.op .mv [(.tmp 3)] (some 14) true), (.op (.bin .add) [(.tmp 13), (.tmp 14)] (some 15) true), (.op .mv [(.tmp 15)] (some 3) true)] false) (.region [(.op .mv [(.tmp 0)] (some 16) true), (.op (.bin .quo) [(.tmp 16), (.const (.int .i64 10))] (some 17) true), (.op .mv [(.tmp 17)] (some 0) true)] false))))
-- laws.markText
def F207 : EF := ⟨(.seq (.region [(.op .mv [(.const (.str ⟨#[]⟩))] (some 2) true)] false) (.seq (.seq (.region [(.op .mv [(.tmp 0)] (some 4) true), (.op (.bin .leq) [(.tmp 4), (.const (.int .i64 0))] (some 5) true)] false) (.cond (.tmp 5) (.seq (.region [(.op .mv [(.const (.str ⟨#[109, 48]⟩))] (some 2) true)] false) .ret) .skip)) (.seq (.region [(.op .mv [(.const (.str ⟨#[]⟩))] (some 3) true)] false) (.seq (.block 0 (.loop H207_4 L207_4)) (.seq (.region [(.op .mv [(.tmp 3)] (some 18) true), (.op (.bin .add) [(.const (.str ⟨#[109]⟩)), (.tmp 18)] (some 19) true), (.op .mv [(.tmp 19)] (some 2) true)] false) .ret))))), [(.tmp 2)], 20, .one, none⟩
theorem t207 : T 207 = some F207 := tab Try.func207 (by kernel_rfl) rfl
def H151_2 : List Vw := [.tidy [0, 1, 5] [(0, none), (1, none), (5, none)]]
theorem h151_2 (b : Nat) (s : St) : vwL b H151_2 s = vwL b [.tidy [0, 1, 5] [(0, none), (1, none), (5, none)]] s := rfl
def L151_2 : EC := (.seq (.seq (.region [(.op .mv [(.tmp 5)] (some 6) true), (.op .mv [(.tmp 0)] (some 7) true), (.op .len [(.tmp 7)] (some 8) true), (.op (.bin .lss) [(.tmp 6), (.tmp 8)] (some 9) true)] false) (.cond (.tmp 9) .skip (.exit 0))) (.seq (.block 1 (.seq (.region [(.op .mv [(.tmp 0)] (some 12) true), (.op .mv [(.tmp 5)] (some 13) true), (.op .mv [(.tmp 1)] (some 14) true), (.pc (.const (.fn 207 [])) [(.tmp 14)] (some 15) true), (.op (.iaddr 2) [(.tmp 12), (.tmp 13)] (some 16) true), (.op (.faddr 0) [(.tmp 16)] (some 17) true), (.op .store1 [(.tmp 17), (.tmp 15)] none true)] false) (.seq (.region [(.op .mv [(.tmp 1)] (some 18) true), (.op (.bin .add) [(.tmp 18), (.const (.int .i64 1))] (some 19) true), (.op .mv [(.tmp 19)] (some 1) true)] false) (.seq (.region [(.op .mv [(.tmp 0)] (some 20) true), (.op .mv [(.tmp 5)] (some 21) true), (.op .mv [(.tmp 1)] (some 22) true), (.op (.iaddr 2) [(.tmp 20), (.tmp 21)] (some 23) true), (.op (.faddr 1) [(.tmp 23)] (some 24) true), (.op .store1 [(.tmp 24), (.tmp 22)] none true)] false) (.region [(.op .mv [(.tmp 1)] (some 25) true), (.op (.bin .add) [(.tmp 25), (.const (.int .i64 1))] (some 26) true), (.op .mv [(.tmp 26)] (some 1) true)] false))))) (.region [(.op .mv [(.tmp 5)] (some 10) true), (.op (.bin .add) [(.tmp 10), (.const (.int .i64 1))] (some 11) true), (.op .mv [(.tmp 11)] (some 5) true)] false)))
-- laws.markSlotS
def F151 : EF := ⟨(.seq (.region [(.op .mv [(.const (.int .i64 0))] (some 4) true)] false) (.seq (.seq (.region [(.op .mv [(.const (.int .i64 0))] (some 5) true)] false) (.block 0 (.loop H151_2 L151_2))) (.seq (.region [(.op .mv [(.tmp 1)] (some 27) true), (.op .mv [(.tmp 27)] (some 4) true)] false) .ret))), [(.tmp 4)], 28, .one, none⟩
theorem t151 : T 151 = some F151 := tab Try.func151 (by kernel_rfl) rfl
def H152_2 : List Vw := [.tidy [0, 1, 5] [(0, none), (1, none), (5, none)]]
theorem h152_2 (b : Nat) (s : St) : vwL b H152_2 s = vwL b [.tidy [0, 1, 5] [(0, none), (1, none), (5, none)]] s := rfl
def L152_2 : EC := (.seq (.seq (.region [(.op .mv [(.tmp 5)] (some 6) true), (.op .mv [(.tmp 0)] (some 7) true), (.op .len [(.tmp 7)] (some 8) true), (.op (.bin .lss) [(.tmp 6), (.tmp 8)] (some 9) true)] false) (.cond (.tmp 9) .skip (.exit 0))) (.seq (.block 1 (.seq (.seq (.region [(.op .mv [(.tmp 0)] (some 12) false), (.op .mv [(.tmp 5)] (some 13) false), (.op (.iaddr 2) [(.tmp 12), (.tmp 13)] (some 14) false), (.op (.faddr 0) [(.tmp 14)] (some 15) false), (.op .load1 [(.tmp 15)] (some 16) false), (.op .mv [(.tmp 1)] (some 17) false), (.pc (.const (.fn 207 [])) [(.tmp 17)] (some 18) false), (.op (.bin .neq) [(.tmp 16), (.tmp 18)] (some 19) true)] true) (.cond (.tmp 19) (.seq (.region [(.op .mv [(.const (.int .i64 (-1)))] (some 4) true)] false) .ret) .skip)) (.seq (.region [(.op .mv [(.tmp 1)] (some 20) true), (.op (.bin .add) [(.tmp 20), (.const (.int .i64 1))] (some 21) true), (.op .mv [(.tmp 21)] (some 1) true)] false) (.seq (.seq (.region [(.op .mv [(.tmp 0)] (some 22) true), (.op .mv [(.tmp 5)] (some 23) true), (.op (.iaddr 2) [(.tmp 22), (.tmp 23)] (some 24) true), (.op (.faddr 1) [(.tmp 24)] (some 25) true), (.op .load1 [(.tmp 25)] (some 26) true), (.op .mv [(.tmp 1)] (some 27) true), (.op (.bin .neq) [(.tmp 26), (.tmp 27)] (some 28) true)] false) (.cond (.tmp 28) (.seq (.region [(.op .mv [(.const (.int .i64 (-1)))] (some 4) true)] false) .ret) .skip)) (.region [(.op .mv [(.tmp 1)] (some 29) true), (.op (.bin .add) [(.tmp 29), (.const (.int .i64 1))] (some 30) true), (.op .mv [(.tmp 30)] (some 1) true)] false))))) (.region [(.op .mv [(.tmp 5)] (some 10) true), (.op (.bin .add) [(.tmp 10), (.const (.int .i64 1))] (some 11) true), (.op .mv [(.tmp 11)] (some 5) true)] false)))
-- laws.heldSlotS
def F152 : EF := ⟨(.seq (.region [(.op .mv [(.const (.int .i64 0))] (some 4) true)] false) (.seq (.seq (.region [(.op .mv [(.const (.int .i64 0))] (some 5) true)] false) (.block 0 (.loop H152_2 L152_2))) (.seq (.region [(.op .mv [(.tmp 1)] (some 31) true), (.op .mv [(.tmp 31)] (some 4) true)] false) .ret))), [(.tmp 4)], 32, .one, none⟩
theorem t152 : T 152 = some F152 := tab Try.func152 (by kernel_rfl) rfl
-- laws.markBlock
-- laws.heldBlock
-- laws.markInode
-- laws.heldInode
def F53 : EF := ⟨(.seq (.region [(.op (.box 3) [(.tmp 0)] (some 2) true), (.op .mv [(.const (.int .i64 0))] (some 4) true)] false) (.seq (.region [(.op (.faddr 2) [(.tmp 2)] (some 5) true), (.op .load1 [(.tmp 5)] (some 6) true), (.op .mv [(.tmp 1)] (some 7) true), (.pc (.const (.fn 101 [])) [(.tmp 6), (.tmp 7)] (some 8) true), (.op .mv [(.tmp 8)] (some 1) true)] false) (.seq (.seq (.region [(.op .mv [(.tmp 1)] (some 9) true), (.op (.bin .lss) [(.tmp 9), (.const (.int .i64 0))] (some 10) true)] false) (.cond (.tmp 10) (.seq (.region [(.op .mv [(.const (.int .i64 (-1)))] (some 4) true)] false) .ret) .skip)) (.seq (.region [(.op .mv [(.tmp 1)] (some 11) true), (.op .mv [(.tmp 11)] (some 4) true)] false) .ret)))), [(.tmp 4)], 12, .one, none⟩
theorem t53 : T 53 = some F53 := tab Try.func53 (by kernel_rfl) rfl
end Go.Proofs.Ytaaajjinpppgeaa

/- The code of some functions, as the evaluator reads it (printed by a program of ours), checked against the program. Own work; no condition. -/
set_option linter.unusedVariables false
set_option linter.unusedSimpArgs false
set_option linter.unusedSectionVars false
namespace Go.Proofs.Ytaaajjinpppgeaa
open Go Go.Abs
set_option maxRecDepth 100000
def H100_2 : List Vw := [.tidy [0, 1, 5] [(0, none), (1, none), (5, none)]]
theorem h100_2 (b : Nat) (s : St) : vwL b H100_2 s = vwL b [.tidy [0, 1, 5] [(0, none), (1, none), (5, none)]] s := rfl
def L100_2 : EC := (.seq (.seq (.region [(.op .mv [(.tmp 5)] (some 6) true), (.op .mv [(.tmp 0)] (some 7) true), (.op .len [(.tmp 7)] (some 8) true), (.op (.bin .lss) [(.tmp 6), (.tmp 8)] (some 9) true)] false) (.cond (.tmp 9) .skip (.exit 0))) (.seq (.block 1 (.seq (.region [(.op .mv [(.tmp 0)] (some 12) true), (.op .mv [(.tmp 5)] (some 13) true), (.op .mv [(.tmp 1)] (some 14) true), (.op (.iaddr 1) [(.tmp 12), (.tmp 13)] (some 15) true), (.op .store1 [(.tmp 15), (.tmp 14)] none true)] false) (.region [(.op .mv [(.tmp 1)] (some 16) true), (.op (.bin .add) [(.tmp 16), (.const (.int .i64 1))] (some 17) true), (.op .mv [(.tmp 17)] (some 1) true)] false))) (.region [(.op .mv [(.tmp 5)] (some 10) true), (.op (.bin .add) [(.tmp 10), (.const (.int .i64 1))] (some 11) true), (.op .mv [(.tmp 11)] (some 5) true)] false)))
-- laws.markIntS
def F100 : EF := ⟨(.seq (.region [(.op .mv [(.const (.int .i64 0))] (some 4) true)] false) (.seq (.seq (.region [(.op .mv [(.const (.int .i64 0))] (some 5) true)] false) (.block 0 (.loop H100_2 L100_2))) (.seq (.region [(.op .mv [(.tmp 1)] (some 18) true), (.op .mv [(.tmp 18)] (some 4) true)] false) .ret))), [(.tmp 4)], 19, .one, none⟩
theorem t100 : T 100 = some F100 := tab Try.func100 (by kernel_rfl) rfl
def H101_2 : List Vw := [.tidy [0, 1, 5] [(0, none), (1, none), (5, none)]]
theorem h101_2 (b : Nat) (s : St) : vwL b H101_2 s = vwL b [.tidy [0, 1, 5] [(0, none), (1, none), (5, none)]] s := rfl
def L101_2 : EC := (.seq (.seq (.region [(.op .mv [(.tmp 5)] (some 6) true), (.op .mv [(.tmp 0)] (some 7) true), (.op .len [(.tmp 7)] (some 8) true), (.op (.bin .lss) [(.tmp 6), (.tmp 8)] (some 9) true)] false) (.cond (.tmp 9) .skip (.exit 0))) (.seq (.block 1 (.seq (.seq (.region [(.op .mv [(.tmp 0)] (some 12) true), (.op .mv [(.tmp 5)] (some 13) true), (.op (.iaddr 1) [(.tmp 12), (.tmp 13)] (some 14) true), (.op .load1 [(.tmp 14)] (some 15) true), (.op .mv [(.tmp 1)] (some 16) true), (.op (.bin .neq) [(.tmp 15), (.tmp 16)] (some 17) true)] false) (.cond (.tmp 17) (.seq (.region [(.op .mv [(.const (.int .i64 (-1)))] (some 4) true)] false) .ret) .skip)) (.region [(.op .mv [(.tmp 1)] (some 18) true), (.op (.bin .add) [(.tmp 18), (.const (.int .i64 1))] (some 19) true), (.op .mv [(.tmp 19)] (some 1) true)] false))) (.region [(.op .mv [(.tmp 5)] (some 10) true), (.op (.bin .add) [(.tmp 10), (.const (.int .i64 1))] (some 11) true), (.op .mv [(.tmp 11)] (some 5) true)] false)))
-- laws.heldIntS
def F101 : EF := ⟨(.seq (.region [(.op .mv [(.const (.int .i64 0))] (some 4) true)] false) (.seq (.seq (.region [(.op .mv [(.const (.int .i64 0))] (some 5) true)] false) (.block 0 (.loop H101_2 L101_2))) (.seq (.region [(.op .mv [(.tmp 1)] (some 20) true), (.op .mv [(.tmp 20)] (some 4) true)] false) .ret))), [(.tmp 4)], 21, .one, none⟩
theorem t101 : T 101 = some F101 := tab Try.func101 (by kernel_rfl) rfl
def H145_2 : List Vw := [.tidy [0, 1, 5] [(0, none), (1, none), (5, none)]]
theorem h145_2 (b : Nat) (s : St) : vwL b H145_2 s = vwL b [.tidy [0, 1, 5] [(0, none), (1, none), (5, none)]] s := rfl
def L145_2 : EC := (.seq (.seq (.region [(.op .mv [(.tmp 5)] (some 6) true), (.op .mv [(.tmp 0)] (some 7) true), (.op .len [(.tmp 7)] (some 8) true), (.op (.bin .lss) [(.tmp 6), (.tmp 8)] (some 9) true)] false) (.cond (.tmp 9) .skip (.exit 0))) (.seq (.block 1 (.seq (.region [(.op .mv [(.tmp 0)] (some 12) true), (.op .mv [(.tmp 5)] (some 13) true), (.op .mv [(.tmp 1)] (some 14) true), (.op (.bin .rem) [(.tmp 14), (.const (.int .i64 3))] (some 15) true), (.op (.bin .eql) [(.tmp 15), (.const (.int .i64 0))] (some 16) true), (.op (.iaddr 1) [(.tmp 12), (.tmp 13)] (some 17) true), (.op .store1 [(.tmp 17), (.tmp 16)] none true)] false) (.region [(.op .mv [(.tmp 1)] (some 18) true), (.op (.bin .add) [(.tmp 18), (.const (.int .i64 1))] (some 19) true), (.op .mv [(.tmp 19)] (some 1) true)] false))) (.region [(.op .mv [(.tmp 5)] (some 10) true), (.op (.bin .add) [(.tmp 10), (.const (.int .i64 1))] (some 11) true), (.op .mv [(.tmp 11)] (some 5) true)] false)))
-- laws.markBoolS
def F145 : EF := ⟨(.seq (.region [(.op .mv [(.const (.int .i64 0))] (some 4) true)] false) (.seq (.seq (.region [(.op .mv [(.const (.int .i64 0))] (some 5) true)] false) (.block 0 (.loop H145_2 L145_2))) (.seq (.region [(.op .mv [(.tmp 1)] (some 20) true), (.op .mv [(.tmp 20)] (some 4) true)] false) .ret))), [(.tmp 4)], 21, .one, none⟩
theorem t145 : T 145 = some F145 := tab Try.func145 (by kernel_rfl) rfl
def H163_2 : List Vw := [.tidy [0, 1, 5] [(0, none), (1, none), (5, none)]]
theorem h163_2 (b : Nat) (s : St) : vwL b H163_2 s = vwL b [.tidy [0, 1, 5] [(0, none), (1, none), (5, none)]] s := rfl
def L163_2 : EC := (.seq (.seq (.region [(.op .mv [(.tmp 5)] (some 6) true), (.op .mv [(.tmp 0)] (some 7) true), (.op .len [(.tmp 7)] (some 8) true), (.op (.bin .lss) [(.tmp 6), (.tmp 8)] (some 9) true)] false) (.cond (.tmp 9) .skip (.exit 0))) (.seq (.block 1 (.seq (.seq (.region [(.op .mv [(.tmp 0)] (some 12) true), (.op .mv [(.tmp 5)] (some 13) true), (.op (.iaddr 1) [(.tmp 12), (.tmp 13)] (some 14) true), (.op .load1 [(.tmp 14)] (some 15) true), (.op .mv [(.tmp 1)] (some 16) true), (.op (.bin .rem) [(.tmp 16), (.const (.int .i64 3))] (some 17) true), (.op (.bin .eql) [(.tmp 17), (.const (.int .i64 0))] (some 18) true), (.op (.binB true) [(.tmp 15), (.tmp 18)] (some 19) true)] false) (.cond (.tmp 19) (.seq (.region [(.op .mv [(.const (.int .i64 (-1)))] (some 4) true)] false) .ret) .skip)) (.region [(.op .mv [(.tmp 1)] (some 20) true), (.op (.bin .add) [(.tmp 20), (.const (.int .i64 1))] (some 21) true), (.op .mv [(.tmp 21)] (some 1) true)] false))) (.region [(.op .mv [(.tmp 5)] (some 10) true), (.op (.bin .add) [(.tmp 10), (.const (.int .i64 1))] (some 11) true), (.op .mv [(.tmp 11)] (some 5) true)] false)))
-- laws.heldBoolS
def F163 : EF := ⟨(.seq (.region [(.op .mv [(.const (.int .i64 0))] (some 4) true)] false) (.seq (.seq (.region [(.op .mv [(.const (.int .i64 0))] (some 5) true)] false) (.block 0 (.loop H163_2 L163_2))) (.seq (.region [(.op .mv [(.tmp 1)] (some 22) true), (.op .mv [(.tmp 22)] (some 4) true)] false) .ret))), [(.tmp 4)], 23, .one, none⟩
theorem t163 : T 163 = some F163 := tab Try.func163 (by kernel_rfl) rfl
end Go.Proofs.Ytaaajjinpppgeaa

/- Marking rows of numbers and of truth values. Own work; no condition. -/
set_option linter.unusedVariables false
set_option linter.unusedSimpArgs false
set_option linter.unusedSectionVars false
namespace Go.Proofs.Ytaaajjinpppgeaa
open Go Go.Abs
set_option maxRecDepth 100000
/-- What a row is behind the first marks: each mark is told by its number. -/
def marks {α : Type} (f : Nat → α) (l : List α) (i : Nat) : List α := (List.range i).map f ++ l.drop i
section
variable {α : Type} {f : Nat → α} {l : List α} {i : Nat}
theorem marks_0 : marks f l 0 = l := by simp [marks]
theorem marks_all : marks f l l.length = (List.range l.length).map f := by simp [marks]
theorem marks_len (h : i ≤ l.length) : (marks f l i).length = l.length := by simp [marks]; omega
theorem marks_get {x : α} (h : l[i]? = some x) : (marks f l i)[i]? = some x := by
  unfold marks
  rw [List.getElem?_append_right (by simp)]
  simp [h]
theorem marks_set (h : i < l.length) : (marks f l i).set i (f i) = marks f l (i + 1) := by
  unfold marks
  rw [List.set_append_right _ _ (by simp)]
  have e : i - ((List.range i).map f).length = 0 := by simp
  rw [e, List.drop_eq_getElem_cons h, List.set_cons_zero, List.range_succ, List.map_append, List.append_assoc]
  rfl
end
theorem set_map {α : Type} {f : α → AV} {l : List α} {i : Nat} {x : α} : (l.map f).set i (f x) = (l.set i x).map f := by rw [List.map_set]
theorem e100 (l : List Int) (k : Int) (h0 : 0 ≤ k) (hk : k ≤ 4611686018427387904) (hl : l.length ≤ 1048576) :
    E T 100 [.sl 0 0 l.length, .int .i64 k] [some (1, l.map iv)] = some (.int .i64 (k + l.length), [some (1, ((List.range l.length).map fun i => k + (i : Nat)).map iv)]) := by
  rw [E_eq t100 (Nat.le_of_ble_eq_true rfl)]
  simp only [F100, h100_2, go_sem, seval, bnd_ite]
  refine (XL_inv (T := T) (b := 1) (hd := H100_2) (x := L100_2) (β := Unit) (fun i _ => ⟨[(0, .sl 0 0 l.length), (1, .int .i64 (k + (i : Nat))), (5, .int .i64 (i : Nat))], [some (1, (marks (fun i => k + (i : Nat)) l i).map iv)]⟩)
    (fun i _ => True) l.length (fun r => r.1 = .exit 0 ∧ r.2.mem = [some (1, (marks (fun i => k + (i : Nat)) l l.length).map iv)] ∧ lookA r.2.env 1 = .int .i64 (k + l.length)) ?step ?last 0 () (by omega) trivial).elim ?main
  case step =>
    intro i _ hi _
    obtain ⟨p, hp⟩ := get_at hi
    have hi1 : (i : Int) < (l.length : Int) := by omega
    left
    refine ⟨(), ?_, trivial⟩
    have ms := marks_set (f := fun i => k + (i : Nat)) hi
    have sm : ∀ m : List Int, (m.map iv).set i (AV.int .i64 (k + (i : Nat))) = (m.set i (k + (i : Nat))).map iv := fun m => set_map (f := iv)
    have hml : (marks (fun i => k + (i : Nat)) l i).length = l.length := marks_len (by omega)
    have gx : ((marks (fun i => k + (i : Nat)) l i).map iv).getD i .undef = AV.int .i64 p := gD_map (marks_get hp)
    simp only [XG, L100_2, h100_2, go_sem, seval, bnd_ite, hi1, hml, hi, gx, Int.natCast_nonneg, w_i64 ((i : Int) + 1) (by omega), w_i64 (k + (i : Int) + 1) (by omega), sm, ms]
    rw [Int.add_assoc]; rfl
  case last =>
    intro _ _
    have hml : (marks (fun i => k + (i : Nat)) l l.length).length = l.length := marks_len (by omega)
    simp only [XG, L100_2, h100_2, go_sem, seval, bnd_ite, hml, Int.lt_irrefl, decide_false]
    exact .mk (by simp) ⟨rfl, rfl, rfl⟩
  case main =>
  rintro ⟨x, e, m⟩ ⟨h1, h2, h3, h4, h5⟩
  have hs : ((0 : Nat) : Int) = 0 := rfl
  rw [marks_0, hs, Int.add_zero] at h1
  simp only at h3 h4 h5; subst h3; subst h4
  simp only [h1, go_sem, seval, h5, marks_all]
/-- The mark of a truth value. -/
def mb (k : Int) : Bool := decide (k.tmod 3 = 0)
theorem e145 (l : List Bool) (k : Int) (h0 : 0 ≤ k) (hk : k ≤ 4611686018427387904) (hl : l.length ≤ 1048576) :
    E T 145 [.sl 0 0 l.length, .int .i64 k] [some (1, l.map bv)] = some (.int .i64 (k + l.length), [some (1, ((List.range l.length).map fun i => mb (k + (i : Nat))).map bv)]) := by
  rw [E_eq t145 (Nat.le_of_ble_eq_true rfl)]
  simp only [F145, h145_2, go_sem, seval, bnd_ite]
  refine (XL_inv (T := T) (b := 1) (hd := H145_2) (x := L145_2) (β := Unit) (fun i _ => ⟨[(0, .sl 0 0 l.length), (1, .int .i64 (k + (i : Nat))), (5, .int .i64 (i : Nat))], [some (1, (marks (fun i => mb (k + (i : Nat))) l i).map bv)]⟩)
    (fun i _ => True) l.length (fun r => r.1 = .exit 0 ∧ r.2.mem = [some (1, (marks (fun i => mb (k + (i : Nat))) l l.length).map bv)] ∧ lookA r.2.env 1 = .int .i64 (k + l.length)) ?step ?last 0 () (by omega) trivial).elim ?main
  case step =>
    intro i _ hi _
    obtain ⟨p, hp⟩ := get_at hi
    have hi1 : (i : Int) < (l.length : Int) := by omega
    left
    refine ⟨(), ?_, trivial⟩
    have ms := marks_set (f := fun i => mb (k + (i : Nat))) hi
    have sm : ∀ m : List Bool, (m.map bv).set i (AV.bool (decide ((k + (i : Nat)).tmod 3 = 0))) = (m.set i (mb (k + (i : Nat)))).map bv := fun m => set_map (f := bv)
    have hml : (marks (fun i => mb (k + (i : Nat))) l i).length = l.length := marks_len (by omega)
    have gx : ((marks (fun i => mb (k + (i : Nat))) l i).map bv).getD i .undef = AV.bool p := gD_map (marks_get hp)
    simp only [XG, L145_2, h145_2, go_sem, seval, bnd_ite, hi1, hml, hi, gx, Int.natCast_nonneg, w_i64 ((i : Int) + 1) (by omega), w_i64 (k + (i : Int) + 1) (by omega), sm, ms]
    rw [Int.add_assoc]; rfl
  case last =>
    intro _ _
    have hml : (marks (fun i => mb (k + (i : Nat))) l l.length).length = l.length := marks_len (by omega)
    simp only [XG, L145_2, h145_2, go_sem, seval, bnd_ite, hml, Int.lt_irrefl, decide_false]
    exact .mk (by simp) ⟨rfl, rfl, rfl⟩
  case main =>
  rintro ⟨x, e, m⟩ ⟨h1, h2, h3, h4, h5⟩
  have hs : ((0 : Nat) : Int) = 0 := rfl
  rw [marks_0, hs, Int.add_zero] at h1
  simp only at h3 h4 h5; subst h3; subst h4
  simp only [h1, go_sem, seval, h5, marks_all]
theorem range_at {α : Type} (f : Nat → α) {n i : Nat} (h : i < n) : ((List.range n).map f)[i]? = some (f i) := by simp [h]
theorem e101 (n : Nat) (k : Int) (h0 : 0 ≤ k) (hk : k ≤ 4611686018427387904) (hl : n ≤ 1048576) :
    E T 101 [.ro 1 (((List.range n).map fun i => k + (i : Nat)).map iv), .int .i64 k] [] = some (.int .i64 (k + n), []) := by
  rw [E_eq t101 (Nat.le_of_ble_eq_true rfl)]
  simp only [F101, h101_2, go_sem, seval, bnd_ite]
  generalize hL : ((List.range n).map fun i => k + (i : Nat)) = L
  have hln : L.length = n := by rw [← hL]; simp
  refine (XL_inv (T := T) (b := 0) (hd := H101_2) (x := L101_2) (β := Unit) (fun i _ => ⟨[(0, .ro 1 (L.map iv)), (1, .int .i64 (k + (i : Nat))), (5, .int .i64 (i : Nat))], []⟩)
    (fun i _ => True) n (fun r => r.1 = .exit 0 ∧ lookA r.2.env 1 = .int .i64 (k + n)) ?step ?last 0 () (by omega) trivial).elim ?main
  case step =>
    intro i _ hi _
    have hi1 : (i : Int) < (n : Int) := by omega
    have hat : L[i]? = some (k + (i : Nat)) := by rw [← hL]; exact range_at _ hi
    left
    refine ⟨(), ?_, trivial⟩
    simp only [XG, L101_2, h101_2, go_sem, seval, bnd_ite, hln, hi1, hi, gD_map hat, iv, bdec, bne_dec, decide_true, Bool.not_true, Bool.false_eq_true, if_false, Int.natCast_nonneg, w_i64 ((i : Int) + 1) (by omega), w_i64 (k + (i : Int) + 1) (by omega)]
    rw [Int.add_assoc]; rfl
  case last =>
    intro _ _
    simp only [XG, L101_2, h101_2, go_sem, seval, bnd_ite, hln, Int.lt_irrefl, decide_false]
    exact .mk (by simp) ⟨rfl, rfl⟩
  case main =>
  rintro ⟨x, e, m⟩ ⟨h1, h2, h3, h4⟩
  have hs : ((0 : Nat) : Int) = 0 := rfl
  rw [hs, Int.add_zero] at h1
  simp only at h3 h4; subst h3
  simp only [h1, go_sem, seval, h4]
theorem e163 (n : Nat) (k : Int) (h0 : 0 ≤ k) (hk : k ≤ 4611686018427387904) (hl : n ≤ 1048576) :
    E T 163 [.ro 1 (((List.range n).map fun i => mb (k + (i : Nat))).map bv), .int .i64 k] [] = some (.int .i64 (k + n), []) := by
  rw [E_eq t163 (Nat.le_of_ble_eq_true rfl)]
  simp only [F163, h163_2, go_sem, seval, bnd_ite]
  generalize hL : ((List.range n).map fun i => mb (k + (i : Nat))) = L
  have hln : L.length = n := by rw [← hL]; simp
  refine (XL_inv (T := T) (b := 0) (hd := H163_2) (x := L163_2) (β := Unit) (fun i _ => ⟨[(0, .ro 1 (L.map bv)), (1, .int .i64 (k + (i : Nat))), (5, .int .i64 (i : Nat))], []⟩)
    (fun i _ => True) n (fun r => r.1 = .exit 0 ∧ lookA r.2.env 1 = .int .i64 (k + n)) ?step ?last 0 () (by omega) trivial).elim ?main
  case step =>
    intro i _ hi _
    have hi1 : (i : Int) < (n : Int) := by omega
    have hat : L[i]? = some (mb (k + (i : Nat))) := by rw [← hL]; exact range_at _ hi
    left
    refine ⟨(), ?_, trivial⟩
    simp only [XG, L163_2, h163_2, go_sem, seval, bnd_ite, hln, hi1, hi, gD_map hat, bv, mb, bdec, bne_dec, decide_true, Bool.not_true, Bool.false_eq_true, if_false, Int.natCast_nonneg, w_i64 ((i : Int) + 1) (by omega), w_i64 (k + (i : Int) + 1) (by omega)]
    rw [Int.add_assoc]; rfl
  case last =>
    intro _ _
    simp only [XG, L163_2, h163_2, go_sem, seval, bnd_ite, hln, Int.lt_irrefl, decide_false]
    exact .mk (by simp) ⟨rfl, rfl⟩
  case main =>
  rintro ⟨x, e, m⟩ ⟨h1, h2, h3, h4⟩
  have hs : ((0 : Nat) : Int) = 0 := rfl
  rw [hs, Int.add_zero] at h1
  simp only at h3 h4; subst h3
  simp only [h1, go_sem, seval, h4]
end Go.Proofs.Ytaaajjinpppgeaa

/- Marking texts and slots. Own work; no condition. -/
set_option linter.unusedVariables false
set_option linter.unusedSimpArgs false
set_option linter.unusedSectionVars false
namespace Go.Proofs.Ytaaajjinpppgeaa
open Go Go.Abs
set_option maxRecDepth 100000
theorem e207' (k : Int) (h0 : 0 ≤ k) (hk : k ≤ 4611686018427387904) : ∃ s, E T 207 [.int .i64 k] [] = some (.str s, []) := by
  rw [E_eq t207 (Nat.le_of_ble_eq_true rfl)]
  simp only [F207, h207_4, go_sem, seval, bnd_ite]
  by_cases c1 : k ≤ 0
  · rw [if_pos c1]; exact ⟨_, rfl⟩
  rw [if_neg c1]
  refine (XL_inv (T := T) (b := 0) (hd := H207_4) (x := L207_4) (β := Int × ByteArray) (fun i a => ⟨[(0, .int .i64 a.1), (3, .str a.2)], []⟩)
    (fun i a => 0 ≤ a.1 ∧ a.1 + i ≤ k ∧ a.2.size ≤ i) k.toNat (fun r => r.1 = .exit 0 ∧ ∃ s : ByteArray, lookA r.2.env 3 = .str s ∧ (s.size : Int) ≤ k) ?step ?last 0 (k, ⟨#[]⟩) (by omega) ⟨h0, by simp, Nat.le_refl 0⟩).elim ?main
  case step =>
    intro i a hi ⟨hI1, hI2, hI3⟩
    by_cases hp : 0 < a.1
    · left
      have hq : a.1.tdiv 10 = a.1 / 10 := Int.tdiv_eq_ediv_of_nonneg hI1
      simp only [XG, L207_4, h207_4, go_sem, seval, bnd_ite, hp, decide_true, hq, w_i64 (a.1 / 10) (by omega)]
      have sz : ∀ c : UInt8, (⟨#[c]⟩ : ByteArray).size = 1 := fun _ => rfl
      rw [if_pos (by first | (rw [sz]; omega) | (simp only [List.size_toArray, List.length_cons, List.length_nil]; omega))]
      exact ⟨(_, _), rfl, by show 0 ≤ a.1 / 10; omega, by show a.1 / 10 + ((i + 1 : Nat) : Int) ≤ k; omega, by rw [ByteArray.size_append, sz]; omega⟩
    · right
      simp only [XG, L207_4, h207_4, go_sem, seval, bnd_ite, hp, decide_false, Bool.false_eq_true, if_false]
      exact .mk (by simp) ⟨rfl, a.2, rfl, by omega⟩
  case last =>
    intro a ⟨hI1, hI2, hI3⟩
    have hp : ¬ 0 < a.1 := by omega
    simp only [XG, L207_4, h207_4, go_sem, seval, bnd_ite, hp, decide_false, Bool.false_eq_true, if_false]
    exact .mk (by simp) ⟨rfl, a.2, rfl, by omega⟩
  case main =>
  rintro ⟨x, e, m⟩ ⟨h1, h2, h3, s, h4, h5⟩
  simp only at h1 h3 h4; subst h3
  have sz : ∀ c : UInt8, (⟨#[c]⟩ : ByteArray).size = 1 := fun _ => rfl
  simp only [h1, go_sem, seval, h4]
  rw [if_pos (by first | (rw [sz]; omega) | (simp only [List.size_toArray, List.length_cons, List.length_nil]; omega))]
  simp only [go_sem, seval]
  exact ⟨_, rfl⟩
/-- The text of a mark. -/
noncomputable def mtext (k : Int) : ByteArray := match E T 207 [.int .i64 k] [] with
  | some (.str s, _) => s
  | _ => ⟨#[]⟩
theorem e207 (k : Int) (h0 : 0 ≤ k) (hk : k ≤ 4611686018427387904) : E T 207 [.int .i64 k] [] = some (.str (mtext k), []) := by
  obtain ⟨s, h⟩ := e207' k h0 hk
  unfold mtext; rw [h]
end Go.Proofs.Ytaaajjinpppgeaa

/- Marking rows of structs; slots. Own work; no condition. -/
set_option linter.unusedVariables false
set_option linter.unusedSimpArgs false
set_option linter.unusedSectionVars false
namespace Go.Proofs.Ytaaajjinpppgeaa
open Go Go.Abs
set_option maxRecDepth 100000
section
variable {α : Type} (st : Int → α → α) (cost : α → Nat)
/-- A row that is marked from a number on; what one thing takes up of the numbers. -/
def mkL : Int → List α → List α
  | _, [] => []
  | k, x :: xs => st k x :: mkL (k + cost x) xs
def costL : List α → Nat
  | [] => 0
  | x :: xs => cost x + costL xs
def mkP (k : Int) (l : List α) (i : Nat) : List α := mkL st cost k (l.take i) ++ l.drop i
variable {st cost} {k : Int} {l : List α} {i : Nat} {x : α}
theorem mkL_len : ∀ {k : Int} {l : List α}, (mkL st cost k l).length = l.length := by
  intro k l
  induction l generalizing k with
  | nil => rfl
  | cons x xs ih => simp [mkL, ih]
theorem costL_app (a b : List α) : costL cost (a ++ b) = costL cost a + costL cost b := by
  induction a with
  | nil => simp [costL]
  | cons x xs ih => simp [costL, ih]; omega
theorem mkL_app (a b : List α) : ∀ k, mkL st cost k (a ++ b) = mkL st cost k a ++ mkL st cost (k + costL cost a) b := by
  induction a with
  | nil => intro k; simp [mkL, costL]
  | cons x xs ih =>
    intro k
    simp only [List.cons_append, mkL, costL, ih]
    rw [show k + ((cost x + costL cost xs : Nat) : Int) = k + (cost x : Int) + (costL cost xs : Int) by omega]
theorem costL_succ (h : l[i]? = some x) : costL cost (l.take (i + 1)) = costL cost (l.take i) + cost x := by
  rw [take_snoc h, costL_app]; simp [costL]
theorem costL_le {C : Nat} : ∀ {l : List α}, (∀ x ∈ l, cost x ≤ C) → costL cost l ≤ l.length * C := by
  intro l
  induction l with
  | nil => intro _; simp [costL]
  | cons x xs ih =>
    intro h
    have h1 := ih (fun y hy => h y (List.mem_cons_of_mem _ hy))
    have h2 := h x (List.mem_cons_self ..)
    simp only [costL, List.length_cons, Nat.add_mul, Nat.one_mul]; omega
theorem mkP_0 : mkP st cost k l 0 = l := by simp [mkP, mkL]
theorem mkP_all : mkP st cost k l l.length = mkL st cost k l := by simp [mkP]
theorem mkP_len : (mkP st cost k l i).length = l.length := by simp [mkP, mkL_len]; omega
theorem mkP_get (h : l[i]? = some x) : (mkP st cost k l i)[i]? = some x := by
  have hi := (List.getElem?_eq_some_iff.1 h).1
  unfold mkP
  rw [List.getElem?_append_right (by rw [mkL_len, List.length_take]; exact Nat.min_le_left ..)]
  simp [mkL_len, Nat.min_eq_left (Nat.le_of_lt hi), h]
theorem mkP_set (h : l[i]? = some x) : (mkP st cost k l i).set i (st (k + costL cost (l.take i)) x) = mkP st cost k l (i + 1) := by
  have hi := (List.getElem?_eq_some_iff.1 h).1
  obtain ⟨_, hx⟩ := List.getElem?_eq_some_iff.1 h
  unfold mkP
  rw [take_snoc h, mkL_app, List.set_append_right _ _ (by rw [mkL_len, List.length_take]; exact Nat.min_le_left ..)]
  have e : i - (mkL st cost k (l.take i)).length = 0 := by rw [mkL_len]; simp; omega
  rw [e, List.drop_eq_getElem_cons hi, List.set_cons_zero, List.append_assoc]
  rfl
theorem mkL_at : ∀ {l : List α} {k : Int} {i : Nat} {x : α}, l[i]? = some x → (mkL st cost k l)[i]? = some (st (k + costL cost (l.take i)) x) := by
  intro l
  induction l with
  | nil => intro k i x h; simp at h
  | cons y ys ih =>
    intro k i x h
    cases i with
    | zero => simp only [List.getElem?_cons_zero, Option.some.injEq] at h; subst h; simp [mkL, costL]
    | succ i =>
      simp only [List.getElem?_cons_succ] at h
      simp only [mkL, List.getElem?_cons_succ, ih h, List.take_succ_cons, costL]
      rw [show k + ((cost y + costL cost (ys.take i) : Nat) : Int) = k + (cost y : Int) + (costL cost (ys.take i) : Int) by omega]
end
theorem getD_set {l : List AV} {i : Nat} (h : i < l.length) (v : AV) : (l.set i v).getD i .undef = v := by simp [h]
noncomputable def mkSlt (k : Int) (_ : Slt) : Slt := ⟨mtext k, k + 1⟩
theorem e151 (l : List Slt) (k : Int) (h0 : 0 ≤ k) (hk : k ≤ 1152921504606846976) (hl : l.length ≤ 1048576) :
    E T 151 [.sl 0 0 l.length, .int .i64 k] [some (2, l.map slt)] = some (.int .i64 (k + costL (fun _ => 2) l), [some (2, (mkL mkSlt (fun _ => 2) k l).map slt)]) := by
  rw [E_eq t151 (Nat.le_of_ble_eq_true rfl)]
  simp only [F151, h151_2, go_sem, seval, bnd_ite]
  have hc : ∀ i, costL (fun _ => 2) (l.take i) ≤ 2097152 := fun i => by
    have h1 := costL_le (cost := fun _ : Slt => 2) (C := 2) (l := l.take i) (fun _ _ => Nat.le_refl _)
    have h2 : (l.take i).length ≤ l.length := by simp; omega
    omega
  refine (XL_inv (T := T) (b := 1) (hd := H151_2) (x := L151_2) (β := Unit) (fun i _ => ⟨[(0, .sl 0 0 l.length), (1, .int .i64 (k + (costL (fun _ => 2) (l.take i) : Nat))), (5, .int .i64 (i : Nat))], [some (2, (mkP mkSlt (fun _ => 2) k l i).map slt)]⟩)
    (fun i _ => True) l.length (fun r => r.1 = .exit 0 ∧ r.2.mem = [some (2, (mkL mkSlt (fun _ => 2) k l).map slt)] ∧ lookA r.2.env 1 = .int .i64 (k + (costL (fun _ => 2) l : Nat))) ?step ?last 0 () (by omega) trivial).elim ?main
  case step =>
    intro i _ hi _
    obtain ⟨p, hp⟩ := get_at hi
    have hi1 : (i : Int) < (l.length : Int) := by omega
    have hci := hc i
    left
    refine ⟨(), ?_, trivial⟩
    have ms := mkP_set (st := mkSlt) (cost := fun _ => 2) (k := k) hp
    have cs := costL_succ (cost := fun _ : Slt => 2) hp
    have gx : ((mkP mkSlt (fun _ => 2) k l i).map slt).getD i .undef = slt p := gD_map (mkP_get hp)
    generalize hR : mkP mkSlt (fun _ => 2) k l i = R at *
    have hml : R.length = l.length := by rw [← hR]; exact mkP_len
    have hmi : i < (R.map slt).length := by rw [List.length_map, hml]; exact hi
    have e1 := e207 (k + (costL (fun _ => 2) (l.take i) : Nat)) (by omega) (by omega)
    generalize hK : k + (costL (fun _ => 2) (l.take i) : Int) = K at *
    have sm : (R.map slt).set i (.agg [.str (mtext K), .int .i64 (K + 1)]) = (mkP mkSlt (fun _ => 2) k l (i + 1)).map slt := by rw [← ms]; exact set_map (f := slt) (x := mkSlt K p)
    have e2 : k + ((costL (fun _ => 2) (l.take (i + 1)) : Nat) : Int) = K + 1 + 1 := by rw [cs]; omega
    simp only [XG, L151_2, h151_2, go_sem, seval, bnd_ite, hi1, hml, hi, gx, sm, slt, e1, getD_set hmi, List.set_set, Int.natCast_nonneg, w_i64 ((i : Int) + 1) (by omega), w_i64 (K + 1) (by omega), w_i64 (K + 1 + 1) (by omega)]
    rw [e2]; rfl
  case last =>
    intro _ _
    have hml : (mkP mkSlt (fun _ => 2) k l l.length).length = l.length := mkP_len
    simp only [XG, L151_2, h151_2, go_sem, seval, bnd_ite, hml, Int.lt_irrefl, decide_false]
    exact .mk (by simp) ⟨rfl, by rw [mkP_all], rfl⟩
  case main =>
  rintro ⟨x, e, m⟩ ⟨h1, h2, h3, h4, h5⟩
  have hs : ((0 : Nat) : Int) = 0 := rfl
  simp only [mkP_0, List.take_zero, costL, hs, Int.add_zero] at h1
  simp only at h3 h4 h5; subst h3; subst h4
  simp only [h1, go_sem, seval, h5]
theorem e152 (l : List Slt) (k : Int) (h0 : 0 ≤ k) (hk : k ≤ 1152921504606846976) (hl : l.length ≤ 1048576) :
    E T 152 [.ro 2 ((mkL mkSlt (fun _ => 2) k l).map slt), .int .i64 k] [] = some (.int .i64 (k + costL (fun _ => 2) l), []) := by
  rw [E_eq t152 (Nat.le_of_ble_eq_true rfl)]
  simp only [F152, h152_2, go_sem, seval, bnd_ite]
  have hc : ∀ i, costL (fun _ => 2) (l.take i) ≤ 2097152 := fun i => by
    have h1 := costL_le (cost := fun _ : Slt => 2) (C := 2) (l := l.take i) (fun _ _ => Nat.le_refl _)
    have h2 : (l.take i).length ≤ l.length := by simp; omega
    omega
  generalize hL : mkL mkSlt (fun _ => 2) k l = L
  have hln : L.length = l.length := by rw [← hL]; exact mkL_len
  refine (XL_inv (T := T) (b := 0) (hd := H152_2) (x := L152_2) (β := Unit) (fun i _ => ⟨[(0, .ro 2 (L.map slt)), (1, .int .i64 (k + (costL (fun _ => 2) (l.take i) : Nat))), (5, .int .i64 (i : Nat))], []⟩)
    (fun i _ => True) l.length (fun r => r.1 = .exit 0 ∧ lookA r.2.env 1 = .int .i64 (k + (costL (fun _ => 2) l : Nat))) ?step ?last 0 () (by omega) trivial).elim ?main
  case step =>
    intro i _ hi _
    obtain ⟨p, hp⟩ := get_at hi
    have hi1 : (i : Int) < (l.length : Int) := by omega
    have hci := hc i
    left
    refine ⟨(), ?_, trivial⟩
    have cs := costL_succ (cost := fun _ : Slt => 2) hp
    have hat : L[i]? = some (mkSlt (k + costL (fun _ => 2) (l.take i)) p) := by rw [← hL]; exact mkL_at hp
    have e1 := e207 (k + (costL (fun _ => 2) (l.take i) : Nat)) (by omega) (by omega)
    generalize hK : k + (costL (fun _ => 2) (l.take i) : Int) = K at *
    have gx : (L.map slt).getD i .undef = .agg [.str (mtext K), .int .i64 (K + 1)] := gD_map hat
    have e2 : k + ((costL (fun _ => 2) (l.take (i + 1)) : Nat) : Int) = K + 1 + 1 := by rw [cs]; omega
    simp only [XG, L152_2, h152_2, go_sem, seval, bnd_ite, hi1, hln, hi, gx, e1, decide_true, Bool.not_true, Bool.false_eq_true, if_false, Int.natCast_nonneg, w_i64 ((i : Int) + 1) (by omega), w_i64 (K + 1) (by omega), w_i64 (K + 1 + 1) (by omega)]
    rw [e2]; rfl
  case last =>
    intro _ _
    simp only [XG, L152_2, h152_2, go_sem, seval, bnd_ite, hln, Int.lt_irrefl, decide_false]
    exact .mk (by simp) ⟨rfl, rfl⟩
  case main =>
  rintro ⟨x, e, m⟩ ⟨h1, h2, h3, h4⟩
  have hs : ((0 : Nat) : Int) = 0 := rfl
  simp only [List.take_zero, costL, hs, Int.add_zero] at h1
  simp only at h3 h4; subst h3
  simp only [h1, go_sem, seval, h4]
end Go.Proofs.Ytaaajjinpppgeaa

/- Marking inodes and blocks. Own work; no condition. -/
set_option linter.unusedVariables false
set_option linter.unusedSimpArgs false
set_option linter.unusedSectionVars false
namespace Go.Proofs.Ytaaajjinpppgeaa
open Go Go.Abs
set_option maxRecDepth 100000
def mkIno (k : Int) (x : Ino) : Ino := ⟨k, k + 1, (List.range x.ptrs.length).map fun i => k + 1 + 1 + (i : Nat)⟩
def coIno (x : Ino) : Nat := 2 + x.ptrs.length
theorem costIno {l : List Ino} (hl : l.length ≤ 1048576) (hs : ∀ x ∈ l, x.sm) (i : Nat) : costL coIno (l.take i) ≤ 1099513724928 := by
  have h1 := costL_le (cost := coIno) (C := 1048578) (l := l.take i) (fun x hx => by have := hs x (List.mem_of_mem_take hx); unfold Ino.sm at this; unfold coIno; omega)
  have h2 : (l.take i).length ≤ l.length := by simp; omega
  have h3 : (l.take i).length * 1048578 ≤ 1048576 * 1048578 := Nat.mul_le_mul_right _ (by omega)
  omega
theorem e161 (l : List Ino) (k : Int) (h0 : 0 ≤ k) (hk : k ≤ 1152921504606846976) (hl : l.length ≤ 1048576) (hs : ∀ x ∈ l, x.sm) :
    E T 161 [.sl 0 0 l.length, .int .i64 k] [some (3, l.map inoO)] = some (.int .i64 (k + costL coIno l), [some (3, (mkL mkIno coIno k l).map inoO)]) := by
  rw [E_eq t161 (Nat.le_of_ble_eq_true rfl)]
  simp only [F161, h161_2, go_sem, seval, bnd_ite]
  refine (XL_inv (T := T) (b := 1) (hd := H161_2) (x := L161_2) (β := Unit) (fun i _ => ⟨[(0, .sl 0 0 l.length), (1, .int .i64 (k + (costL coIno (l.take i) : Nat))), (5, .int .i64 (i : Nat))], [some (3, (mkP mkIno coIno k l i).map inoO)]⟩)
    (fun i _ => True) l.length (fun r => r.1 = .exit 0 ∧ r.2.mem = [some (3, (mkL mkIno coIno k l).map inoO)] ∧ lookA r.2.env 1 = .int .i64 (k + (costL coIno l : Nat))) ?step ?last 0 () (by omega) trivial).elim ?main
  case step =>
    intro i _ hi _
    obtain ⟨p, hp⟩ := get_at hi
    have hi1 : (i : Int) < (l.length : Int) := by omega
    have hci := costIno hl hs i
    have hps := hs p (List.mem_of_getElem? hp)
    unfold Ino.sm at hps
    left
    refine ⟨(), ?_, trivial⟩
    have ms := mkP_set (st := mkIno) (cost := coIno) (k := k) hp
    have cs := costL_succ (cost := coIno) hp
    have gx : ((mkP mkIno coIno k l i).map inoO).getD i .undef = .agg [.int .i64 p.kind, .int .i64 p.links, .own 1 (p.ptrs.map iv)] := gD_map (mkP_get hp)
    generalize hR : mkP mkIno coIno k l i = R at *
    have hml : R.length = l.length := by rw [← hR]; exact mkP_len
    have hmi : i < (R.map inoO).length := by rw [List.length_map, hml]; exact hi
    generalize hK : k + (costL coIno (l.take i) : Int) = K at *
    have e1 := e100 p.ptrs (K + 1 + 1) (by omega) (by omega) hps
    have sm : (R.map inoO).set i (.agg [.int .i64 K, .int .i64 (K + 1), .own 1 (((List.range p.ptrs.length).map fun i => K + 1 + 1 + (i : Nat)).map iv)]) = (mkP mkIno coIno k l (i + 1)).map inoO := by rw [← ms]; exact set_map (f := inoO) (x := mkIno K p)
    have e2 : k + ((costL coIno (l.take (i + 1)) : Nat) : Int) = K + 1 + 1 + (p.ptrs.length : Int) := by rw [cs, coIno]; omega
    have it : ((i : Int) + 0).toNat = i := by omega
    have htk : (List.map iv ((List.range p.ptrs.length).map fun i => K + 1 + 1 + (i : Nat))).take p.ptrs.length = List.map iv ((List.range p.ptrs.length).map fun i => K + 1 + 1 + (i : Nat)) := List.take_of_length_le (by simp)
    simp only [XG, L161_2, h161_2, it, go_sem, seval, bnd_ite, hi1, hml, hi, gx, getD_set hmi, List.set_set, Int.natCast_nonneg, w_i64 ((i : Int) + 1) (by omega), w_i64 (K + 1) (by omega), w_i64 (K + 1 + 1) (by omega), e1, is_set, inoO_is, List.length_range, htk, sm]
    rw [e2]; rfl
  case last =>
    intro _ _
    have hml : (mkP mkIno coIno k l l.length).length = l.length := mkP_len
    simp only [XG, L161_2, h161_2, go_sem, seval, bnd_ite, hml, Int.lt_irrefl, decide_false]
    exact .mk (by simp) ⟨rfl, by rw [mkP_all], rfl⟩
  case main =>
  rintro ⟨x, e, m⟩ ⟨h1, h2, h3, h4, h5⟩
  have h0' : ((0 : Nat) : Int) = 0 := rfl
  simp only [mkP_0, List.take_zero, costL, h0', Int.add_zero] at h1
  simp only at h3 h4 h5; subst h3; subst h4
  simp only [h1, go_sem, seval, h5]
theorem e167 (l : List Ino) (k : Int) (h0 : 0 ≤ k) (hk : k ≤ 1152921504606846976) (hl : l.length ≤ 1048576) (hs : ∀ x ∈ l, x.sm) :
    E T 167 [.ro 3 ((mkL mkIno coIno k l).map ino), .int .i64 k] [] = some (.int .i64 (k + costL coIno l), []) := by
  rw [E_eq t167 (Nat.le_of_ble_eq_true rfl)]
  simp only [F167, h167_2, go_sem, seval, bnd_ite]
  generalize hL : mkL mkIno coIno k l = L
  have hln : L.length = l.length := by rw [← hL]; exact mkL_len
  refine (XL_inv (T := T) (b := 0) (hd := H167_2) (x := L167_2) (β := Unit) (fun i _ => ⟨[(0, .ro 3 (L.map ino)), (1, .int .i64 (k + (costL coIno (l.take i) : Nat))), (5, .int .i64 (i : Nat))], []⟩)
    (fun i _ => True) l.length (fun r => r.1 = .exit 0 ∧ lookA r.2.env 1 = .int .i64 (k + (costL coIno l : Nat))) ?step ?last 0 () (by omega) trivial).elim ?main
  case step =>
    intro i _ hi _
    obtain ⟨p, hp⟩ := get_at hi
    have hi1 : (i : Int) < (l.length : Int) := by omega
    have hci := costIno hl hs i
    have hps := hs p (List.mem_of_getElem? hp)
    unfold Ino.sm at hps
    left
    refine ⟨(), ?_, trivial⟩
    have cs := costL_succ (cost := coIno) hp
    have hat : L[i]? = some (mkIno (k + costL coIno (l.take i)) p) := by rw [← hL]; exact mkL_at hp
    generalize hK : k + (costL coIno (l.take i) : Int) = K at *
    have gx : (L.map ino).getD i .undef = .agg [.int .i64 K, .int .i64 (K + 1), .ro 1 (((List.range p.ptrs.length).map fun i => K + 1 + 1 + (i : Nat)).map iv)] := gD_map hat
    have e1 := e101 p.ptrs.length (K + 1 + 1) (by omega) (by omega) hps
    have e2 : k + ((costL coIno (l.take (i + 1)) : Nat) : Int) = K + 1 + 1 + (p.ptrs.length : Int) := by rw [cs, coIno]; omega
    have e3 : ¬ K + 1 + 1 + (p.ptrs.length : Int) < 0 := by omega
    generalize hM : ((List.range p.ptrs.length).map fun i => K + 1 + 1 + (i : Nat)) = M at *
    simp only [XG, L167_2, h167_2, go_sem, seval, bnd_ite, hi1, hln, hi, gx, e1, e3, decide_true, decide_false, Bool.not_true, Bool.false_eq_true, if_false, Int.natCast_nonneg, w_i64 ((i : Int) + 1) (by omega), w_i64 (K + 1) (by omega), w_i64 (K + 1 + 1) (by omega)]
    rw [e2]; rfl
  case last =>
    intro _ _
    simp only [XG, L167_2, h167_2, go_sem, seval, bnd_ite, hln, Int.lt_irrefl, decide_false]
    exact .mk (by simp) ⟨rfl, rfl⟩
  case main =>
  rintro ⟨x, e, m⟩ ⟨h1, h2, h3, h4⟩
  have hs : ((0 : Nat) : Int) = 0 := rfl
  simp only [List.take_zero, costL, hs, Int.add_zero] at h1
  simp only at h3 h4; subst h3
  simp only [h1, go_sem, seval, h4]

noncomputable def mkBlk (k : Int) (x : Blk) : Blk := ⟨mb k, mkL mkSlt (fun _ => 2) (k + 1) x.slots, mtext (k + 1 + costL (fun _ => 2) x.slots)⟩
def coBlk (x : Blk) : Nat := 2 + costL (fun _ => 2) x.slots
theorem costSlt {l : List Slt} (hl : l.length ≤ 1048576) : costL (fun _ => 2) l ≤ 2097152 := by
  have h1 := costL_le (cost := fun _ : Slt => 2) (C := 2) (l := l) (fun _ _ => Nat.le_refl _)
  omega
theorem costBlk {l : List Blk} (hl : l.length ≤ 1048576) (hs : ∀ x ∈ l, x.sm) (i : Nat) : costL coBlk (l.take i) ≤ 2199025352704 := by
  have h1 := costL_le (cost := coBlk) (C := 2097154) (l := l.take i) (fun x hx => by have := costSlt (hs x (List.mem_of_mem_take hx)); unfold coBlk; omega)
  have h2 : (l.take i).length ≤ l.length := by simp; omega
  have h3 : (l.take i).length * 2097154 ≤ 1048576 * 2097154 := Nat.mul_le_mul_right _ (by omega)
  omega
theorem e162 (l : List Blk) (k : Int) (h0 : 0 ≤ k) (hk : k ≤ 1125899906842624) (hl : l.length ≤ 1048576) (hs : ∀ x ∈ l, x.sm) :
    E T 162 [.sl 0 0 l.length, .int .i64 k] [some (3, l.map blkO)] = some (.int .i64 (k + costL coBlk l), [some (3, (mkL mkBlk coBlk k l).map blkO)]) := by
  rw [E_eq t162 (Nat.le_of_ble_eq_true rfl)]
  simp only [F162, h162_2, go_sem, seval, bnd_ite]
  refine (XL_inv (T := T) (b := 1) (hd := H162_2) (x := L162_2) (β := Unit) (fun i _ => ⟨[(0, .sl 0 0 l.length), (1, .int .i64 (k + (costL coBlk (l.take i) : Nat))), (5, .int .i64 (i : Nat))], [some (3, (mkP mkBlk coBlk k l i).map blkO)]⟩)
    (fun i _ => True) l.length (fun r => r.1 = .exit 0 ∧ r.2.mem = [some (3, (mkL mkBlk coBlk k l).map blkO)] ∧ lookA r.2.env 1 = .int .i64 (k + (costL coBlk l : Nat))) ?step ?last 0 () (by omega) trivial).elim ?main
  case step =>
    intro i _ hi _
    obtain ⟨p, hp⟩ := get_at hi
    have hi1 : (i : Int) < (l.length : Int) := by omega
    have hci := costBlk hl hs i
    have hps := hs p (List.mem_of_getElem? hp)
    unfold Blk.sm at hps
    have hcs := costSlt hps
    left
    refine ⟨(), ?_, trivial⟩
    have ms := mkP_set (st := mkBlk) (cost := coBlk) (k := k) hp
    have cs := costL_succ (cost := coBlk) hp
    have gx : ((mkP mkBlk coBlk k l i).map blkO).getD i .undef = .agg [.bool p.dir, .own 2 (p.slots.map slt), .str p.text] := gD_map (mkP_get hp)
    generalize hR : mkP mkBlk coBlk k l i = R at *
    have hml : R.length = l.length := by rw [← hR]; exact mkP_len
    have hmi : i < (R.map blkO).length := by rw [List.length_map, hml]; exact hi
    generalize hK : k + (costL coBlk (l.take i) : Int) = K at *
    have e1 := e151 p.slots (K + 1) (by omega) (by omega) hps
    have sm : (R.map blkO).set i (.agg [.bool (mb K), .own 2 ((mkL mkSlt (fun _ => 2) (K + 1) p.slots).map slt), .str (mtext (K + 1 + costL (fun _ => 2) p.slots))]) = (mkP mkBlk coBlk k l (i + 1)).map blkO := by rw [← ms]; exact set_map (f := blkO) (x := mkBlk K p)
    have e2 : k + ((costL coBlk (l.take (i + 1)) : Nat) : Int) = K + 1 + (costL (fun _ => 2) p.slots : Nat) + 1 := by rw [cs, coBlk]; omega
    generalize hS : costL (fun _ => 2) p.slots = S at *
    have e4 := e207 (K + 1 + S) (by omega) (by omega)
    have it : ((i : Int) + 0).toNat = i := by omega
    have hmk : (mkL mkSlt (fun _ => 2) (K + 1) p.slots).length = p.slots.length := mkL_len
    generalize hM : mkL mkSlt (fun _ => 2) (K + 1) p.slots = M at *
    have htk : (List.map slt M).take p.slots.length = List.map slt M := List.take_of_length_le (by simp [hmk])
    unfold mb at sm
    simp only [XG, L162_2, h162_2, it, go_sem, seval, bnd_ite, hi1, hml, hi, gx, getD_set hmi, List.set_set, Int.natCast_nonneg, w_i64 ((i : Int) + 1) (by omega), w_i64 (K + 1) (by omega), w_i64 (K + 1 + S + 1) (by omega), e1, e4, is_set, blkO_is, hmk, htk, sm]
    rw [e2]; rfl
  case last =>
    intro _ _
    have hml : (mkP mkBlk coBlk k l l.length).length = l.length := mkP_len
    simp only [XG, L162_2, h162_2, go_sem, seval, bnd_ite, hml, Int.lt_irrefl, decide_false]
    exact .mk (by simp) ⟨rfl, by rw [mkP_all], rfl⟩
  case main =>
  rintro ⟨x, e, m⟩ ⟨h1, h2, h3, h4, h5⟩
  have h0' : ((0 : Nat) : Int) = 0 := rfl
  simp only [mkP_0, List.take_zero, costL, h0', Int.add_zero] at h1
  simp only at h3 h4 h5; subst h3; subst h4
  simp only [h1, go_sem, seval, h5]
end Go.Proofs.Ytaaajjinpppgeaa

/- Marking disks. Own work; no condition. -/
set_option linter.unusedVariables false
set_option linter.unusedSimpArgs false
set_option linter.unusedSectionVars false
namespace Go.Proofs.Ytaaajjinpppgeaa
open Go Go.Abs
set_option maxRecDepth 100000
theorem e168 (l : List Blk) (k : Int) (h0 : 0 ≤ k) (hk : k ≤ 1125899906842624) (hl : l.length ≤ 1048576) (hs : ∀ x ∈ l, x.sm) :
    E T 168 [.ro 3 ((mkL mkBlk coBlk k l).map blk), .int .i64 k] [] = some (.int .i64 (k + costL coBlk l), []) := by
  rw [E_eq t168 (Nat.le_of_ble_eq_true rfl)]
  simp only [F168, h168_2, go_sem, seval, bnd_ite]
  generalize hL : mkL mkBlk coBlk k l = L
  have hln : L.length = l.length := by rw [← hL]; exact mkL_len
  refine (XL_inv (T := T) (b := 0) (hd := H168_2) (x := L168_2) (β := Unit) (fun i _ => ⟨[(0, .ro 3 (L.map blk)), (1, .int .i64 (k + (costL coBlk (l.take i) : Nat))), (5, .int .i64 (i : Nat))], []⟩)
    (fun i _ => True) l.length (fun r => r.1 = .exit 0 ∧ lookA r.2.env 1 = .int .i64 (k + (costL coBlk l : Nat))) ?step ?last 0 () (by omega) trivial).elim ?main
  case step =>
    intro i _ hi _
    obtain ⟨p, hp⟩ := get_at hi
    have hi1 : (i : Int) < (l.length : Int) := by omega
    have hci := costBlk hl hs i
    have hps := hs p (List.mem_of_getElem? hp)
    unfold Blk.sm at hps
    have hcs := costSlt hps
    left
    refine ⟨(), ?_, trivial⟩
    have cs := costL_succ (cost := coBlk) hp
    have hat : L[i]? = some (mkBlk (k + costL coBlk (l.take i)) p) := by rw [← hL]; exact mkL_at hp
    generalize hK : k + (costL coBlk (l.take i) : Int) = K at *
    have gx : (L.map blk).getD i .undef = .agg [.bool (mb K), .ro 2 ((mkL mkSlt (fun _ => 2) (K + 1) p.slots).map slt), .str (mtext (K + 1 + costL (fun _ => 2) p.slots))] := gD_map hat
    have e1 := e152 p.slots (K + 1) (by omega) (by omega) hps
    have e2 : k + ((costL coBlk (l.take (i + 1)) : Nat) : Int) = K + 1 + (costL (fun _ => 2) p.slots : Nat) + 1 := by rw [cs, coBlk]; omega
    generalize hS : costL (fun _ => 2) p.slots = S at *
    have e4 := e207 (K + 1 + S) (by omega) (by omega)
    have e3 : ¬ K + 1 + (S : Int) < 0 := by omega
    generalize hM : mkL mkSlt (fun _ => 2) (K + 1) p.slots = M at *
    unfold mb at gx
    simp only [XG, L168_2, h168_2, go_sem, seval, bnd_ite, hi1, hln, hi, gx, e1, e3, e4, bdec, bne_dec, decide_true, decide_false, Bool.not_true, Bool.false_eq_true, if_false, Int.natCast_nonneg, w_i64 ((i : Int) + 1) (by omega), w_i64 (K + 1) (by omega), w_i64 (K + 1 + S + 1) (by omega)]
    rw [e2]; rfl
  case last =>
    intro _ _
    simp only [XG, L168_2, h168_2, go_sem, seval, bnd_ite, hln, Int.lt_irrefl, decide_false]
    exact .mk (by simp) ⟨rfl, rfl⟩
  case main =>
  rintro ⟨x, e, m⟩ ⟨h1, h2, h3, h4⟩
  have hs : ((0 : Nat) : Int) = 0 := rfl
  simp only [List.take_zero, costL, hs, Int.add_zero] at h1
  simp only at h3 h4; subst h3
  simp only [h1, go_sem, seval, h4]
/-- The marks of a row of truth values. -/
def mkB (k : Int) (n : Nat) : List Bool := (List.range n).map fun i => mb (k + (i : Nat))
theorem mkB_len (k : Int) (n : Nat) : (mkB k n).length = n := by simp [mkB]
theorem e145' (l : List Bool) (k : Int) (h0 : 0 ≤ k) (hk : k ≤ 4611686018427387904) (hl : l.length ≤ 1048576) :
    E T 145 [.sl 0 0 l.length, .int .i64 k] [some (1, l.map bv)] = some (.int .i64 (k + l.length), [some (1, (mkB k l.length).map bv)]) := e145 l k h0 hk hl
theorem e163' (n : Nat) (k : Int) (h0 : 0 ≤ k) (hk : k ≤ 4611686018427387904) (hl : n ≤ 1048576) :
    E T 163 [.ro 1 ((mkB k n).map bv), .int .i64 k] [] = some (.int .i64 (k + n), []) := e163 n k h0 hk hl
theorem e160 (a b : List Bool) (k : Int) (h0 : 0 ≤ k) (hk : k ≤ 1152921504606846976) (ha : a.length ≤ 1048576) (hb : b.length ≤ 1048576) :
    E T 160 [.agg [.sl 0 0 a.length, .sl 1 0 b.length], .int .i64 k] [some (1, a.map bv), some (1, b.map bv)] = some (.int .i64 (k + a.length + b.length), [some (1, (mkB k a.length).map bv), some (1, (mkB (k + a.length) b.length).map bv)]) := by
  rw [E_eq t160 (Nat.le_of_ble_eq_true rfl)]
  simp only [F160, go_sem, seval, bnd_ite, e145' a k h0 (by omega) ha, e145' b (k + a.length) (by omega) (by omega) hb]
theorem e166 (a b : Nat) (k : Int) (h0 : 0 ≤ k) (hk : k ≤ 1152921504606846976) (ha : a ≤ 1048576) (hb : b ≤ 1048576) :
    E T 166 [.agg [.ro 1 ((mkB k a).map bv), .ro 1 ((mkB (k + a) b).map bv)], .int .i64 k] [] = some (.int .i64 (k + a + b), []) := by
  rw [E_eq t166 (Nat.le_of_ble_eq_true rfl)]
  have n1 : ¬ k + (a : Int) < 0 := by omega
  have n2 : ¬ k + (a : Int) + (b : Int) < 0 := by omega
  simp only [F166, go_sem, seval, bnd_ite, e163' a k h0 (by omega) ha, e163' b (k + a) (by omega) (by omega) hb, n1, n2, if_false]
def coDsk (x : Dsk) : Nat := x.used.length + x.taken.length + costL coIno x.inos + costL coBlk x.blks
noncomputable def mkDsk (k : Int) (x : Dsk) : Dsk :=
  ⟨mkB k x.used.length, mkB (k + x.used.length) x.taken.length, mkL mkIno coIno (k + x.used.length + x.taken.length) x.inos, mkL mkBlk coBlk (k + x.used.length + x.taken.length + costL coIno x.inos) x.blks⟩
theorem coDsk_le {x : Dsk} (h : x.sm) : costL coIno x.inos ≤ 1099513724928 ∧ costL coBlk x.blks ≤ 2199025352704 := by
  have h1 := costIno h.inos h.ino x.inos.length
  have h2 := costBlk h.blks h.blk x.blks.length
  rw [List.take_length] at h1 h2
  exact ⟨h1, h2⟩
/-- The rows of a disk's own memory. -/
def dskR (x : Dsk) : Mem := [some (1, x.used.map bv), some (1, x.taken.map bv), some (3, x.inos.map inoO), some (3, x.blks.map blkO)]
theorem e63 (x : Dsk) (k : Int) (h0 : 0 ≤ k) (hk : k ≤ 562949953421312) (h : x.sm) :
    E T 63 [.agg [.sl 0 0 x.used.length, .sl 1 0 x.taken.length, .sl 2 0 x.inos.length, .sl 3 0 x.blks.length], .int .i64 k] (dskR x) = some (.int .i64 (k + coDsk x), dskR (mkDsk k x)) := by
  rw [E_eq t63 (Nat.le_of_ble_eq_true rfl)]
  obtain ⟨c1, c2⟩ := coDsk_le h
  have u1 := h.used
  have u2 := h.taken
  have e1 := e160 x.used x.taken k h0 (by omega) h.used h.taken
  have e2 := e161 x.inos (k + x.used.length + x.taken.length) (by omega) (by omega) h.inos h.ino
  have e3 := e162 x.blks (k + x.used.length + x.taken.length + costL coIno x.inos) (by omega) (by omega) h.blks h.blk
  have e4 : k + (coDsk x : Int) = k + x.used.length + x.taken.length + costL coIno x.inos + costL coBlk x.blks := by unfold coDsk; omega
  simp only [dskR, mkDsk, F63, go_sem, seval, bnd_ite, e1, e2, e3, e4]
theorem e67 (x : Dsk) (k : Int) (h0 : 0 ≤ k) (hk : k ≤ 562949953421312) (h : x.sm) : E T 67 [dsk (mkDsk k x), .int .i64 k] [] = some (.int .i64 (k + coDsk x), []) := by
  rw [E_eq t67 (Nat.le_of_ble_eq_true rfl)]
  obtain ⟨c1, c2⟩ := coDsk_le h
  have u1 := h.used
  have u2 := h.taken
  have e1 := e166 x.used.length x.taken.length k h0 (by omega) h.used h.taken
  have e2 := e167 x.inos (k + x.used.length + x.taken.length) (by omega) (by omega) h.inos h.ino
  have e3 := e168 x.blks (k + x.used.length + x.taken.length + costL coIno x.inos) (by omega) (by omega) h.blks h.blk
  have e4 : k + (coDsk x : Int) = k + x.used.length + x.taken.length + costL coIno x.inos + costL coBlk x.blks := by unfold coDsk; omega
  have n1 : ¬ k + (x.used.length : Int) + x.taken.length < 0 := by omega
  have n2 : ¬ k + (x.used.length : Int) + x.taken.length + costL coIno x.inos < 0 := by omega
  have n3 : ¬ k + (x.used.length : Int) + x.taken.length + costL coIno x.inos + costL coBlk x.blks < 0 := by omega
  simp only [dsk, mkDsk, F67, go_sem, seval, bnd_ite, e1, e2, e3, e4, n1, n2, n3, if_false]
end Go.Proofs.Ytaaajjinpppgeaa

/- Marking dependencies and memories. Own work; no condition. -/
set_option linter.unusedVariables false
set_option linter.unusedSimpArgs false
set_option linter.unusedSectionVars false
namespace Go.Proofs.Ytaaajjinpppgeaa
open Go Go.Abs
set_option maxRecDepth 100000
noncomputable def mkDp (k : Int) (x : Dp) : Dp := ⟨k, k + 1, k + 1 + 1, k + 1 + 1 + 1, k + 1 + 1 + 1 + 1, k + 1 + 1 + 1 + 1 + 1, mtext (k + 1 + 1 + 1 + 1 + 1 + 1), mb (k + 1 + 1 + 1 + 1 + 1 + 1 + 1), mb (k + 1 + 1 + 1 + 1 + 1 + 1 + 1 + 1), k + 1 + 1 + 1 + 1 + 1 + 1 + 1 + 1 + 1, (List.range x.blocks.length).map fun i => k + 1 + 1 + 1 + 1 + 1 + 1 + 1 + 1 + 1 + 1 + (i : Nat)⟩
def coDp (x : Dp) : Nat := 10 + x.blocks.length
theorem costDp {l : List Dp} (hl : l.length ≤ 1048576) (hs : ∀ x ∈ l, x.sm) (i : Nat) : costL coDp (l.take i) ≤ 1099522113536 := by
  have h1 := costL_le (cost := coDp) (C := 1048586) (l := l.take i) (fun x hx => by have := hs x (List.mem_of_mem_take hx); unfold Dp.sm at this; unfold coDp; omega)
  have h2 : (l.take i).length ≤ l.length := by simp; omega
  have h3 : (l.take i).length * 1048586 ≤ 1048576 * 1048586 := Nat.mul_le_mul_right _ (by omega)
  omega
set_option maxHeartbeats 1000000 in
theorem e146 (l : List Dp) (k : Int) (h0 : 0 ≤ k) (hk : k ≤ 1125899906842624) (hl : l.length ≤ 1048576) (hs : ∀ x ∈ l, x.sm) :
    E T 146 [.sl 0 0 l.length, .int .i64 k] [some (11, l.map dpO)] = some (.int .i64 (k + costL coDp l), [some (11, (mkL mkDp coDp k l).map dpO)]) := by
  rw [E_eq t146 (Nat.le_of_ble_eq_true rfl)]
  simp only [F146, h146_2, go_sem, seval, bnd_ite]
  refine (XL_inv (T := T) (b := 1) (hd := H146_2) (x := L146_2) (β := Unit) (fun i _ => ⟨[(0, .sl 0 0 l.length), (1, .int .i64 (k + (costL coDp (l.take i) : Nat))), (5, .int .i64 (i : Nat))], [some (11, (mkP mkDp coDp k l i).map dpO)]⟩)
    (fun i _ => True) l.length (fun r => r.1 = .exit 0 ∧ r.2.mem = [some (11, (mkL mkDp coDp k l).map dpO)] ∧ lookA r.2.env 1 = .int .i64 (k + (costL coDp l : Nat))) ?step ?last 0 () (by omega) trivial).elim ?main
  case step =>
    intro i _ hi _
    obtain ⟨p, hp⟩ := get_at hi
    have hi1 : (i : Int) < (l.length : Int) := by omega
    have hci := costDp hl hs i
    have hps := hs p (List.mem_of_getElem? hp)
    unfold Dp.sm at hps
    left
    refine ⟨(), ?_, trivial⟩
    have ms := mkP_set (st := mkDp) (cost := coDp) (k := k) hp
    have cs := costL_succ (cost := coDp) hp
    have gx : ((mkP mkDp coDp k l i).map dpO).getD i .undef = .agg [.int .i64 p.id, .int .i64 p.kind, .int .i64 p.ino, .int .i64 p.ptr, .int .i64 p.block, .int .i64 p.slot, .str p.name, .bool p.bits, .bool p.other, .int .i64 p.after, .own 1 (p.blocks.map iv)] := gD_map (mkP_get hp)
    generalize hR : mkP mkDp coDp k l i = R at *
    have hml : R.length = l.length := by rw [← hR]; exact mkP_len
    have hmi : i < (R.map dpO).length := by rw [List.length_map, hml]; exact hi
    generalize hK : k + (costL coDp (l.take i) : Int) = K at *
    have e1 := e100 p.blocks (K + 1 + 1 + 1 + 1 + 1 + 1 + 1 + 1 + 1 + 1) (by omega) (by omega) hps
    have e4 := e207 (K + 1 + 1 + 1 + 1 + 1 + 1) (by omega) (by omega)
    have sm : (R.map dpO).set i (.agg [.int .i64 K, .int .i64 (K + 1), .int .i64 (K + 1 + 1), .int .i64 (K + 1 + 1 + 1), .int .i64 (K + 1 + 1 + 1 + 1), .int .i64 (K + 1 + 1 + 1 + 1 + 1), .str (mtext (K + 1 + 1 + 1 + 1 + 1 + 1)), .bool (mb (K + 1 + 1 + 1 + 1 + 1 + 1 + 1)), .bool (mb (K + 1 + 1 + 1 + 1 + 1 + 1 + 1 + 1)), .int .i64 (K + 1 + 1 + 1 + 1 + 1 + 1 + 1 + 1 + 1), .own 1 (((List.range p.blocks.length).map fun i => K + 1 + 1 + 1 + 1 + 1 + 1 + 1 + 1 + 1 + 1 + (i : Nat)).map iv)]) = (mkP mkDp coDp k l (i + 1)).map dpO := by rw [← ms]; exact set_map (f := dpO) (x := mkDp K p)
    have e2 : k + ((costL coDp (l.take (i + 1)) : Nat) : Int) = K + 1 + 1 + 1 + 1 + 1 + 1 + 1 + 1 + 1 + 1 + (p.blocks.length : Int) := by rw [cs, coDp]; omega
    have it : ((i : Int) + 0).toNat = i := by omega
    generalize hM : ((List.range p.blocks.length).map fun i => K + 1 + 1 + 1 + 1 + 1 + 1 + 1 + 1 + 1 + 1 + (i : Nat)) = M at *
    have hmk : M.length = p.blocks.length := by rw [← hM]; simp
    have htk : (List.map iv M).take p.blocks.length = List.map iv M := List.take_of_length_le (by simp [hmk])
    unfold mb at sm
    simp only [XG, L146_2, h146_2, it, go_sem, seval, bnd_ite, hi1, hml, hi, gx, getD_set hmi, List.set_set, Int.natCast_nonneg, w_i64 ((i : Int) + 1) (by omega), w_i64 (K + 1) (by omega), w_i64 (K + 1 + 1) (by omega), w_i64 (K + 1 + 1 + 1) (by omega), w_i64 (K + 1 + 1 + 1 + 1) (by omega), w_i64 (K + 1 + 1 + 1 + 1 + 1) (by omega), w_i64 (K + 1 + 1 + 1 + 1 + 1 + 1) (by omega), w_i64 (K + 1 + 1 + 1 + 1 + 1 + 1 + 1) (by omega), w_i64 (K + 1 + 1 + 1 + 1 + 1 + 1 + 1 + 1) (by omega), w_i64 (K + 1 + 1 + 1 + 1 + 1 + 1 + 1 + 1 + 1) (by omega), w_i64 (K + 1 + 1 + 1 + 1 + 1 + 1 + 1 + 1 + 1 + 1) (by omega), e1, e4, is_set, dpO_is, hmk, htk, sm]
    rw [e2]; rfl
  case last =>
    intro _ _
    have hml : (mkP mkDp coDp k l l.length).length = l.length := mkP_len
    simp only [XG, L146_2, h146_2, go_sem, seval, bnd_ite, hml, Int.lt_irrefl, decide_false]
    exact .mk (by simp) ⟨rfl, by rw [mkP_all], rfl⟩
  case main =>
  rintro ⟨x, e, m⟩ ⟨h1, h2, h3, h4, h5⟩
  have h0' : ((0 : Nat) : Int) = 0 := rfl
  simp only [mkP_0, List.take_zero, costL, h0', Int.add_zero] at h1
  simp only at h3 h4 h5; subst h3; subst h4
  simp only [h1, go_sem, seval, h5]
set_option maxHeartbeats 1000000 in
theorem e164 (l : List Dp) (k : Int) (h0 : 0 ≤ k) (hk : k ≤ 1125899906842624) (hl : l.length ≤ 1048576) (hs : ∀ x ∈ l, x.sm) :
    E T 164 [.ro 11 ((mkL mkDp coDp k l).map dp), .int .i64 k] [] = some (.int .i64 (k + costL coDp l), []) := by
  rw [E_eq t164 (Nat.le_of_ble_eq_true rfl)]
  simp only [F164, h164_2, go_sem, seval, bnd_ite]
  generalize hL : mkL mkDp coDp k l = L
  have hln : L.length = l.length := by rw [← hL]; exact mkL_len
  refine (XL_inv (T := T) (b := 0) (hd := H164_2) (x := L164_2) (β := Unit) (fun i _ => ⟨[(0, .ro 11 (L.map dp)), (1, .int .i64 (k + (costL coDp (l.take i) : Nat))), (5, .int .i64 (i : Nat))], []⟩)
    (fun i _ => True) l.length (fun r => r.1 = .exit 0 ∧ lookA r.2.env 1 = .int .i64 (k + (costL coDp l : Nat))) ?step ?last 0 () (by omega) trivial).elim ?main
  case step =>
    intro i _ hi _
    obtain ⟨p, hp⟩ := get_at hi
    have hi1 : (i : Int) < (l.length : Int) := by omega
    have hci := costDp hl hs i
    have hps := hs p (List.mem_of_getElem? hp)
    unfold Dp.sm at hps
    left
    refine ⟨(), ?_, trivial⟩
    have cs := costL_succ (cost := coDp) hp
    have hat : L[i]? = some (mkDp (k + costL coDp (l.take i)) p) := by rw [← hL]; exact mkL_at hp
    generalize hK : k + (costL coDp (l.take i) : Int) = K at *
    have gx : (L.map dp).getD i .undef = .agg [.int .i64 K, .int .i64 (K + 1), .int .i64 (K + 1 + 1), .int .i64 (K + 1 + 1 + 1), .int .i64 (K + 1 + 1 + 1 + 1), .int .i64 (K + 1 + 1 + 1 + 1 + 1), .str (mtext (K + 1 + 1 + 1 + 1 + 1 + 1)), .bool (mb (K + 1 + 1 + 1 + 1 + 1 + 1 + 1)), .bool (mb (K + 1 + 1 + 1 + 1 + 1 + 1 + 1 + 1)), .int .i64 (K + 1 + 1 + 1 + 1 + 1 + 1 + 1 + 1 + 1), .ro 1 (((List.range p.blocks.length).map fun i => K + 1 + 1 + 1 + 1 + 1 + 1 + 1 + 1 + 1 + 1 + (i : Nat)).map iv)] := gD_map hat
    have e1 := e101 p.blocks.length (K + 1 + 1 + 1 + 1 + 1 + 1 + 1 + 1 + 1 + 1) (by omega) (by omega) hps
    have e4 := e207 (K + 1 + 1 + 1 + 1 + 1 + 1) (by omega) (by omega)
    have e2 : k + ((costL coDp (l.take (i + 1)) : Nat) : Int) = K + 1 + 1 + 1 + 1 + 1 + 1 + 1 + 1 + 1 + 1 + (p.blocks.length : Int) := by rw [cs, coDp]; omega
    have e3 : ¬ K + 1 + 1 + 1 + 1 + 1 + 1 + 1 + 1 + 1 + 1 + (p.blocks.length : Int) < 0 := by omega
    generalize hM : ((List.range p.blocks.length).map fun i => K + 1 + 1 + 1 + 1 + 1 + 1 + 1 + 1 + 1 + 1 + (i : Nat)) = M at *
    unfold mb at gx
    simp only [XG, L164_2, h164_2, go_sem, seval, bnd_ite, hi1, hln, hi, gx, e1, e3, e4, bdec, bne_dec, decide_true, decide_false, Bool.not_true, Bool.false_eq_true, if_false, Int.natCast_nonneg, w_i64 ((i : Int) + 1) (by omega), w_i64 (K + 1) (by omega), w_i64 (K + 1 + 1) (by omega), w_i64 (K + 1 + 1 + 1) (by omega), w_i64 (K + 1 + 1 + 1 + 1) (by omega), w_i64 (K + 1 + 1 + 1 + 1 + 1) (by omega), w_i64 (K + 1 + 1 + 1 + 1 + 1 + 1) (by omega), w_i64 (K + 1 + 1 + 1 + 1 + 1 + 1 + 1) (by omega), w_i64 (K + 1 + 1 + 1 + 1 + 1 + 1 + 1 + 1) (by omega), w_i64 (K + 1 + 1 + 1 + 1 + 1 + 1 + 1 + 1 + 1) (by omega), w_i64 (K + 1 + 1 + 1 + 1 + 1 + 1 + 1 + 1 + 1 + 1) (by omega)]
    rw [e2]; rfl
  case last =>
    intro _ _
    simp only [XG, L164_2, h164_2, go_sem, seval, bnd_ite, hln, Int.lt_irrefl, decide_false]
    exact .mk (by simp) ⟨rfl, rfl⟩
  case main =>
  rintro ⟨x, e, m⟩ ⟨h1, h2, h3, h4⟩
  have hs : ((0 : Nat) : Int) = 0 := rfl
  simp only [List.take_zero, costL, hs, Int.add_zero] at h1
  simp only at h3 h4; subst h3
  simp only [h1, go_sem, seval, h4]
def coMm (x : Mm) : Nat := coDsk x.disk + x.dirty.length + costL coDp x.deps
noncomputable def mkMm (k : Int) (x : Mm) : Mm := ⟨mkDsk k x.disk, mkB (k + coDsk x.disk) x.dirty.length, mkL mkDp coDp (k + coDsk x.disk + x.dirty.length) x.deps, x.next⟩
/-- The rows of a memory's own memory. -/
def mmR (x : Mm) : Mem := dskR x.disk ++ [some (1, x.dirty.map bv), some (11, x.deps.map dpO)]
theorem coDsk_le' {x : Dsk} (h : x.sm) : coDsk x ≤ 4398046511104 := by
  obtain ⟨c1, c2⟩ := coDsk_le h
  have u1 := h.used
  have u2 := h.taken
  unfold coDsk; omega
theorem e51 (x : Mm) (k : Int) (h0 : 0 ≤ k) (hk : k ≤ 281474976710656) (h : x.sm) :
    E T 51 [.agg [.sl 0 0 x.disk.used.length, .sl 1 0 x.disk.taken.length, .sl 2 0 x.disk.inos.length, .sl 3 0 x.disk.blks.length, .sl 4 0 x.dirty.length, .sl 5 0 x.deps.length, .int .i64 x.next], .int .i64 k] (mmR x) = some (.int .i64 (k + coMm x), mmR (mkMm k x)) := by
  rw [E_eq t51 (Nat.le_of_ble_eq_true rfl)]
  have c1 := coDsk_le' h.disk
  have c2 := costDp h.deps h.dep x.deps.length
  rw [List.take_length] at c2
  have u1 := h.dirty
  have e1 := e63 x.disk k h0 (by omega) h.disk
  have e2 := e145' x.dirty (k + coDsk x.disk) (by omega) (by omega) h.dirty
  have e3 := e146 x.deps (k + coDsk x.disk + x.dirty.length) (by omega) (by omega) h.deps h.dep
  have e4 : k + (coMm x : Int) = k + coDsk x.disk + x.dirty.length + costL coDp x.deps := by unfold coMm; omega
  simp only [mmR, dskR, List.cons_append, List.nil_append] at e1 ⊢
  simp only [mkMm, F51, go_sem, seval, bnd_ite, e1, e2, e3, e4, mkDsk, mkB_len, mkL_len]
theorem e64 (x : Mm) (k : Int) (h0 : 0 ≤ k) (hk : k ≤ 281474976710656) (h : x.sm) : E T 64 [mm (mkMm k x), .int .i64 k] [] = some (.int .i64 (k + coMm x), []) := by
  rw [E_eq t64 (Nat.le_of_ble_eq_true rfl)]
  have c1 := coDsk_le' h.disk
  have c2 := costDp h.deps h.dep x.deps.length
  rw [List.take_length] at c2
  have u1 := h.dirty
  have e1 := e67 x.disk k h0 (by omega) h.disk
  have e2 := e163' x.dirty.length (k + coDsk x.disk) (by omega) (by omega) h.dirty
  have e3 := e164 x.deps (k + coDsk x.disk + x.dirty.length) (by omega) (by omega) h.deps h.dep
  have e4 : k + (coMm x : Int) = k + coDsk x.disk + x.dirty.length + costL coDp x.deps := by unfold coMm; omega
  have n1 : ¬ k + (coDsk x.disk : Int) < 0 := by omega
  have n2 : ¬ k + (coDsk x.disk : Int) + x.dirty.length < 0 := by omega
  have n3 : ¬ k + (coDsk x.disk : Int) + x.dirty.length + costL coDp x.deps < 0 := by omega
  unfold dsk at e1
  simp only [mm, mkMm, F64, go_sem, seval, bnd_ite, e1, e2, e3, e4, n1, n2, n3, if_false]
end Go.Proofs.Ytaaajjinpppgeaa

/- TakeBlock and TakeIno. Own work; no condition. -/
set_option linter.unusedVariables false
set_option linter.unusedSimpArgs false
set_option linter.unusedSectionVars false
namespace Go.Proofs.Ytaaajjinpppgeaa
open Go Go.Abs
set_option maxRecDepth 100000
theorem tkO {α : Type} {f : α → AV} {l : List α} : (l.map f).take l.length = l.map f := List.take_of_length_le (by simp)
theorem tkN {α : Type} {f : α → AV} {l : List α} {n : Nat} (h : l.length = n) : (l.map f).take n = l.map f := List.take_of_length_le (by rw [List.length_map, h]; exact Nat.le_refl _)
end Go.Proofs.Ytaaajjinpppgeaa

