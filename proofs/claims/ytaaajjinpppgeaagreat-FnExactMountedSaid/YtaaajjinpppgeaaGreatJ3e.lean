/- Part 5 of the texts of a claim, joined by a program of ours (Xb, Xe, Xc, Xd, Fm2, Xf). No condition. -/
import Derived.Test.YtaaajjinpppgeaaGreatJ3d
set_option linter.unusedVariables false
set_option linter.unusedSimpArgs false
set_option linter.unusedSectionVars false
/- Numbers in texts: the walks. Own work; no condition. -/
set_option linter.unusedVariables false
set_option linter.unusedSimpArgs false
set_option linter.unusedSectionVars false
namespace Go.Proofs.YtaaajjinpppgeaaGreat
open Go Go.Abs
set_option maxRecDepth 100000
theorem XL_nx {b : Nat} {hd : List Vw} {x : EC} {s s' : St} (h : XG T b hd x s = some (.normal, s')) : XL T b hd x s = XL T b hd x s' := by rw [XL_eq, h]; rfl
theorem stop_out {b : Nat} {hd : List Vw} {x : EC} {s : St} {Φ : AX × St → Prop} (h : Stops (XG T b hd x s) Φ) : ∃ r, XL T b hd x s = some r ∧ Φ r := by
  obtain ⟨r, h1, h2, h3⟩ := h
  exact ⟨r, XL_out h1 h2, h3⟩
def natI (l : List Nat) : List Int := l.map Int.ofNat
theorem natI_cons (a : Nat) (l : List Nat) : natI (a :: l) = (a : Int) :: natI l := rfl
theorem natI_app (a b : List Nat) : natI (a ++ b) = natI a ++ natI b := List.map_append
theorem varI_len (n : Nat) (h : n ≤ 1000000000) : (varI n).length ≤ 4 := by
  have := varL_len 4 n (by omega)
  unfold varL at this; simp at this; omega
theorem lp255 (n : Nat) (acc : List Int) (hn : n ≤ 1000000000) (ha : acc.length + n ≤ 2000000000) : XL T 0 H255_2 L255_2 ⟨[(0, .int .i64 n), (3, .sl 0 0 acc.length)], [some (1, acc.map ub)]⟩ =
    some (.exit 0, ⟨[(6, .bool false), (5, .int .i64 (varF n)), (0, .int .i64 (varF n)), (3, .sl 0 0 (acc ++ natI (varI n)).length)], [some (1, (acc ++ natI (varI n)).map ub)]⟩) := by
  by_cases h : n > 127
  · have c : decide ((n : Int) > 127) = true := decide_eq_true (by omega)
    have q1 : Int.tmod (n : Int) 128 = ((n % 128 : Nat) : Int) := rfl
    have q2 : Int.tdiv (n : Int) 128 = ((n / 128 : Nat) : Int) := rfl
    have w1 := w_i64 (((n % 128 : Nat) : Int) + 128) (by omega)
    have w2 := w_i64 ((n / 128 : Nat) : Int) (by omega)
    have ih := lp255 (n / 128) (acc ++ [((n % 128 : Nat) : Int) + 128]) (by omega) (by rw [List.length_append, List.length_singleton]; omega)
    have hM : ∃ M, acc.map ub = M := ⟨_, rfl⟩
    obtain ⟨M, hM⟩ := hM
    have ml : M.length = acc.length := by rw [← hM]; simp
    have mi : ∀ g, mapIdL g M = M := fun g => by rw [← hM]; exact ub_mi g acc
    have ms : ∀ u, idsL u M = [] := fun u => by rw [← hM]; exact ub_is u acc
    have mt : M.take acc.length = M := by rw [← ml]; exact List.take_length
    have ma : M ++ [AV.int .u8 (IntKind.u8.wrap (((n % 128 : Nat) : Int) + 128))] = (acc ++ [((n % 128 : Nat) : Int) + 128]).map ub := by rw [← hM, List.map_append]; rfl
    have hap : (acc.length + 1) * 1 ≤ 140737488355328 := by omega
    have al : (acc ++ [((n % 128 : Nat) : Int) + 128]).length = acc.length + 1 := by simp
    have st : XG T 0 H255_2 L255_2 ⟨[(0, .int .i64 n), (3, .sl 0 0 acc.length)], [some (1, acc.map ub)]⟩ = some (.normal, ⟨[(0, .int .i64 ((n / 128 : Nat) : Int)), (3, .sl 0 0 (acc ++ [((n % 128 : Nat) : Int) + 128]).length)], [some (1, (acc ++ [((n % 128 : Nat) : Int) + 128]).map ub)]⟩) := by
      rw [al]
      simp only [hM]
      simp only [XG, L255_2, h255_2, go_sem, seval, bnd_ite, c, q1, q2, w1, w2, ml, mi, ms, mt, ma, hap]
      first | done | rfl
    rw [XL_nx st, ih, varI_hi h, varF_hi h, natI_cons, List.append_assoc]; rfl
  · have c : decide ((n : Int) > 127) = false := decide_eq_false (by omega)
    rw [varI_lo h, varF_lo h]
    simp only [natI, List.map_nil, List.append_nil]
    refine XL_out ?_ (by simp)
    simp only [XG, L255_2, h255_2, go_sem, seval, bnd_ite, c, Bool.false_eq_true, if_false]
    first | done | rfl
termination_by n
decreasing_by omega
theorem varT_eq (n : Nat) : (natI (varI n) ++ [(varF n : Int)]) = natI (varL n) := by unfold varL; rw [natI_app]; rfl
theorem e255v (n : Nat) (hn : n ≤ 1000000000) : E T 255 [.int .i64 n] [] = some (.str (byteT (natI (varL n))), []) := by
  rw [E_eq t255 (Nat.le_of_ble_eq_true rfl)]
  have key := lp255 n [] hn (by rw [List.length_nil]; omega)
  have hs0 : ([] : List Int).length = 0 := rfl
  rw [List.nil_append, hs0, List.map_nil] at key
  have hl := varI_len n hn
  generalize hM : (natI (varI n)).map ub = M at key
  have ml : (natI (varI n)).length = (varI n).length := by simp [natI]
  rw [ml] at key
  have mt : M.take (varI n).length = M := by rw [← ml, ← hM, List.take_of_length_le (by simp)]
  have ma : M ++ [AV.int .u8 (IntKind.u8.wrap (varF n : Int))] = (natI (varL n)).map ub := by rw [← hM, ← varT_eq, List.map_append]; rfl
  have mlen : M.length = (varI n).length := by rw [← hM]; simp [natI]
  have hap : ((varI n).length + 1) * 1 ≤ 140737488355328 := by omega
  have hb := bytesOf_ub (natI (varL n))
  have hno : ((natI (varL n)).map ub).all (fun x => x.cells.all noOwnC) = true := no_map ub _ ub_no
  have hll : (natI (varL n)).length = (varI n).length + 1 := by simp [natI, varL]
  have tk : ((natI (varL n)).map ub).take ((varI n).length + 1) = (natI (varL n)).map ub := by rw [← hll]; exact List.take_of_length_le (by simp)
  simp only [F255, h255_2, go_sem, seval, bnd_ite, key, mt, mlen, ma, hap, hb, hno, hll, tk]
  first | done | rfl
theorem shl7 (c i : Nat) (hi : i < 5) : IntKind.i64.wrap (((c % 128 : Nat) : Int) * 2 ^ (Nat.min (7 * (i : Int)).toNat 64)) = ((c % 128 * 128 ^ i : Nat) : Int) := by
  have hc : c % 128 < 128 := Nat.mod_lt _ (by omega)
  generalize c % 128 = d at hc
  match i, hi with
  | 0, _ => show IntKind.i64.wrap ((d : Int) * 1) = ((d * 1 : Nat) : Int); rw [w_i64 _ (by omega)]; omega
  | 1, _ => show IntKind.i64.wrap ((d : Int) * 128) = ((d * 128 : Nat) : Int); rw [w_i64 _ (by omega)]; omega
  | 2, _ => show IntKind.i64.wrap ((d : Int) * 16384) = ((d * 16384 : Nat) : Int); rw [w_i64 _ (by omega)]; omega
  | 3, _ => show IntKind.i64.wrap ((d : Int) * 2097152) = ((d * 2097152 : Nat) : Int); rw [w_i64 _ (by omega)]; omega
  | 4, _ => show IntKind.i64.wrap ((d : Int) * 268435456) = ((d * 268435456 : Nat) : Int); rw [w_i64 _ (by omega)]; omega
def rvQ (o : Option (Nat × Nat)) (r : AX × St) : Prop := r.2.mem = [] ∧ match o with
  | some (v, p) => r.1 = .ret ∧ lookA r.2.env 4 = .int .i64 v ∧ lookA r.2.env 5 = .int .i64 p ∧ lookA r.2.env 6 = .bool true
  | none => (r.1 = .ret ∧ lookA r.2.env 4 = .int .i64 0 ∧ lookA r.2.env 5 = .int .i64 0 ∧ lookA r.2.env 6 = .bool false) ∨ r.1 = .exit 0
def rvA (o : Option (Nat × Nat)) : AV := match o with
  | some (v, p) => .tup [.int .i64 v, .int .i64 p, .bool true]
  | none => .tup [.int .i64 0, .int .i64 0, .bool false]
theorem lp258 (s : ByteArray) (hs : s.size ≤ 1048576) (a : Nat) (ha : a ≤ s.size) : ∀ (f i n : Nat), i + f = 5 → n < 128 ^ i →
    ∃ r, XL T 0 H258_5 L258_5 ⟨[(0, .str s), (1, .int .i64 a), (7, .int .i64 n), (8, .int .i64 i)], []⟩ = some r ∧ rvQ (rvGo s.data.toList a f i n) r := by
  have hn := ba_len s
  intro f
  induction f with
  | zero =>
    intro i n hi hlt
    obtain rfl : i = 5 := by omega
    have c1 : decide (((5 : Nat) : Int) < 5) = false := rfl
    unfold rvGo
    refine stop_out ?_
    simp only [XG, L258_5, h258_5, go_sem, seval, bnd_ite, c1, Bool.false_eq_true, if_false]
    exact .mk (by simp) ⟨rfl, .inr rfl⟩
  | succ f ih =>
    intro i n hi hlt
    have i5 : i < 5 := by omega
    have hp : 128 ^ i ≤ 268435456 := by
      match i, i5 with
      | 0, _ | 1, _ | 2, _ | 3, _ | 4, _ => decide
    have c1 : decide ((i : Int) < 5) = true := decide_eq_true (by omega)
    have w1 := w_i64 ((a : Int) + (i : Int)) (by omega)
    have x1 : ((a : Int) + (i : Int)).toNat = a + i := by omega
    have p1 : (0 : Int) ≤ (a : Int) + (i : Int) := by omega
    by_cases hlen : a + i < s.data.toList.length
    · have k1 : (a : Int) + (i : Int) < (s.size : Int) := by omega
      obtain ⟨c, hc⟩ : ∃ c, s.data.toList.getD (a + i) 0 = c := ⟨_, rfl⟩
      have c255 := c.toNat_lt
      have hm : c.toNat % 128 < 128 := Nat.mod_lt _ (by omega)
      have hmm : c.toNat % 128 * 128 ^ i ≤ 127 * 268435456 := Nat.mul_le_mul (by omega) hp
      have wc := w_i64 (c.toNat : Int) (by omega)
      have q1 : Int.tmod (c.toNat : Int) 128 = ((c.toNat % 128 : Nat) : Int) := rfl
      have w7 := w_i64 (7 * (i : Int)) (by omega)
      have n7 : ¬ (7 * (i : Int)) < 0 := by omega
      have sh := shl7 c.toNat i i5
      have wn := w_i64 ((n : Int) + ((c.toNat % 128 * 128 ^ i : Nat) : Int)) (by omega)
      have wi := w_i64 ((i : Int) + 1) (by omega)
      have en : (n : Int) + ((c.toNat % 128 * 128 ^ i : Nat) : Int) = ((n + c.toNat % 128 * 128 ^ i : Nat) : Int) := by omega
      have ei : (i : Int) + 1 = ((i + 1 : Nat) : Int) := by omega
      unfold rvGo
      rw [if_pos hlen, hc]
      by_cases h127 : c.toNat > 127
      · rw [if_pos h127]
        have d1 : decide ((c.toNat : Int) > 127) = true := decide_eq_true (by omega)
        obtain ⟨r, e1, e2⟩ := ih (i + 1) (n + c.toNat % 128 * 128 ^ i) (by omega) (by
          rw [Nat.pow_succ]
          have : c.toNat % 128 * 128 ^ i ≤ 127 * 128 ^ i := Nat.mul_le_mul (by omega) (Nat.le_refl _)
          omega)
        refine ⟨r, ?_, e2⟩
        rw [← e1]
        refine XL_nx ?_
        rw [← en, ← ei]
        simp only [XG, L258_5, h258_5, b_shl, b_rem, go_sem, seval, bnd_ite, c1, w1, x1, p1, k1, hc, wc, q1, w7, n7, sh, wn, wi, d1, if_true, if_false]
        first | done | rfl
      · rw [if_neg h127]
        have d1 : decide ((c.toNat : Int) > 127) = false := decide_eq_false (by omega)
        by_cases hbad : (i > 0 ∧ c.toNat = 0) ∨ n + c.toNat % 128 * 128 ^ i > 1000000000
        · rw [if_pos hbad]
          have d2 : ((decide ((i : Int) > 0) && decide ((c.toNat : Int) = 0)) || decide ((n : Int) + ((c.toNat % 128 * 128 ^ i : Nat) : Int) > 1000000000)) = true := by
            simp only [Bool.or_eq_true, Bool.and_eq_true, decide_eq_true_eq]; omega
          refine stop_out ?_
          simp only [XG, L258_5, h258_5, b_shl, b_rem, go_sem, seval, bnd_ite, c1, w1, x1, p1, k1, hc, wc, q1, w7, n7, sh, wn, wi, d1, d2, if_true, if_false, Bool.false_eq_true]
          exact .mk (by simp) ⟨rfl, .inl ⟨rfl, rfl, rfl, rfl⟩⟩
        · rw [if_neg hbad]
          have d2 : ((decide ((i : Int) > 0) && decide ((c.toNat : Int) = 0)) || decide ((n : Int) + ((c.toNat % 128 * 128 ^ i : Nat) : Int) > 1000000000)) = false := by
            rw [← Bool.not_eq_true]; simp only [Bool.or_eq_true, Bool.and_eq_true, decide_eq_true_eq]; omega
          have wa := w_i64 ((a : Int) + (i : Int) + 1) (by omega)
          refine stop_out ?_
          simp only [XG, L258_5, h258_5, b_shl, b_rem, go_sem, seval, bnd_ite, c1, w1, x1, p1, k1, hc, wc, q1, w7, n7, sh, wn, wi, wa, d1, d2, if_true, if_false, Bool.false_eq_true]
          refine .mk (by simp) ⟨rfl, rfl, ?_, ?_, rfl⟩
          · show AV.int .i64 _ = _; rw [en]
          · show AV.int .i64 _ = _; congr 1
    · have k1 : decide ((a : Int) + (i : Int) < (s.size : Int)) = false := decide_eq_false (by omega)
      unfold rvGo
      rw [if_neg hlen]
      refine stop_out ?_
      simp only [XG, L258_5, h258_5, go_sem, seval, bnd_ite, c1, w1, k1, Bool.false_eq_true, if_false]
      exact .mk (by simp) ⟨rfl, .inr rfl⟩
theorem e258 (s : ByteArray) (hs : s.size ≤ 1048576) (a : Int) : E T 258 [.str s, .int .i64 a] [] = some (rvA (rv s.data.toList a), []) := by
  rw [E_eq t258 (Nat.le_of_ble_eq_true rfl)]
  have hn := ba_len s
  by_cases hin : 0 ≤ a ∧ a ≤ s.data.toList.length
  · have hI : inside a 0 s.size = true := by unfold inside; simp; omega
    obtain ⟨b, rfl⟩ : ∃ b : Nat, a = b := ⟨a.toNat, by omega⟩
    obtain ⟨⟨y, e, m⟩, k1, k2, k3⟩ := lp258 s hs b (by omega) 5 0 0 rfl (by decide)
    unfold rv
    rw [if_pos hin, Int.toNat_natCast]
    obtain rfl : m = [] := k2
    have hs0 : ((0 : Nat) : Int) = 0 := rfl
    simp only [hs0] at k1
    cases ho : rvGo s.data.toList b 5 0 0 with
    | none =>
      rw [ho] at k3
      rcases k3 with ⟨k3, k4, k5, k6⟩ | k3
      · obtain rfl : y = .ret := k3
        replace k4 : lookA e 4 = _ := k4
        replace k5 : lookA e 5 = _ := k5
        replace k6 : lookA e 6 = _ := k6
        simp only [F258, h258_5, go_sem, seval, bnd_ite, e105i, hI, k1, k4, k5, k6, Bool.not_true, Bool.false_eq_true, if_false]
        first | done | rfl
      · obtain rfl : y = .exit 0 := k3
        simp only [F258, h258_5, go_sem, seval, bnd_ite, e105i, hI, k1, Bool.not_true, Bool.false_eq_true, if_false]
        first | done | rfl
    | some x =>
      obtain ⟨v, p⟩ := x
      rw [ho] at k3
      obtain ⟨k3, k4, k5, k6⟩ := k3
      obtain rfl : y = .ret := k3
      replace k4 : lookA e 4 = _ := k4
      replace k5 : lookA e 5 = _ := k5
      replace k6 : lookA e 6 = _ := k6
      simp only [F258, h258_5, go_sem, seval, bnd_ite, e105i, hI, k1, k4, k5, k6, Bool.not_true, Bool.false_eq_true, if_false]
      first | done | rfl
  · have hI : inside a 0 s.size = false := by rw [← Bool.not_eq_true]; unfold inside; simp; omega
    unfold rv
    rw [if_neg hin]
    simp only [F258, h258_5, go_sem, seval, bnd_ite, e105i, hI, Bool.not_false, if_true]
    first | done | rfl
theorem toB_nat (n : Nat) (h : n < 256) : toB (Int.ofNat n) = UInt8.ofNat n := by
  unfold toB
  rw [w_u8 (Int.ofNat n) (by show (0 : Int) ≤ (n : Int) ∧ (n : Int) ≤ 255; omega)]; rfl
theorem toB_list (l : List UInt8) : (natI (l.map UInt8.toNat)).map toB = l := by
  induction l with
  | nil => rfl
  | cons c l ih =>
    rw [List.map_cons, natI_cons, List.map_cons, ih]
    congr 1
    have h := toB_nat c.toNat c.toNat_lt
    rw [show ((c.toNat : Nat) : Int) = Int.ofNat c.toNat from rfl, h]; simp
theorem toB_inj : ∀ (x y : List Nat), (∀ b ∈ x, b < 256) → (∀ b ∈ y, b < 256) → (natI x).map toB = (natI y).map toB → x = y
  | [], [], _, _, _ => rfl
  | [], _ :: _, _, _, h => by cases h
  | _ :: _, [], _, _, h => by cases h
  | a :: x, b :: y, hx, hy, h => by
    rw [natI_cons, natI_cons, List.map_cons, List.map_cons, List.cons.injEq] at h
    have h1 := hx a (List.mem_cons_self ..)
    have h2 := hy b (List.mem_cons_self ..)
    have e : UInt8.ofNat a = UInt8.ofNat b := by
      have := h.1
      rw [show ((a : Nat) : Int) = Int.ofNat a from rfl, show ((b : Nat) : Int) = Int.ofNat b from rfl, toB_nat a h1, toB_nat b h2] at this
      exact this
    have e2 := congrArg UInt8.toNat e
    rw [UInt8.toNat_ofNat', UInt8.toNat_ofNat'] at e2
    have e3 : a = b := by omega
    rw [e3, toB_inj x y (fun z hz => hx z (List.mem_cons_of_mem _ hz)) (fun z hz => hy z (List.mem_cons_of_mem _ hz)) h.2]
theorem ext_list (s : ByteArray) (a b : Nat) : (s.extract a b).data.toList = (s.data.toList.drop a).take (b - a) := by
  rw [ByteArray.data_extract, Array.toList_extract]
theorem pre_succ {l : List UInt8} {a i : Nat} {c : UInt8} (h : a + i < l.length) (hc : l.getD (a + i) 0 = c) : ((l.drop a).take (i + 1)).map UInt8.toNat = ((l.drop a).take i).map UInt8.toNat ++ [c.toNat] := by
  have e : (l.drop a)[i]? = some c := by
    rw [List.getElem?_drop, List.getElem?_eq_getElem h]
    rw [List.getD, List.getElem?_eq_getElem h] at hc
    simpa using hc
  rw [List.take_add_one, e, List.map_append]; rfl
/-- The figures that were read are those of the number. -/
theorem same_text {s : ByteArray} {a i : Nat} {c : UInt8} (h : a + i < s.data.toList.length) (hc : s.data.toList.getD (a + i) 0 = c) (h128 : c.toNat < 128)
    (hp : ∀ b ∈ ((s.data.toList.drop a).take i).map UInt8.toNat, 128 ≤ b ∧ b < 256) :
    decide (byteT (natI (varL (val (((s.data.toList.drop a).take i).map UInt8.toNat) + c.toNat % 128 * 128 ^ i))) = s.extract a (a + i + 1)) = !(decide (i > 0) && decide (c.toNat = 0)) := by
  have hl : (((s.data.toList.drop a).take i).map UInt8.toNat).length = i := by rw [List.length_map, List.length_take, List.length_drop]; omega
  have key := var_same (((s.data.toList.drop a).take i).map UInt8.toNat) c.toNat hp h128
  rw [hl] at key
  rw [Nat.mod_eq_of_lt h128, Bool.eq_iff_iff, decide_eq_true_eq]
  have e1 : (byteT (natI (varL (val (((s.data.toList.drop a).take i).map UInt8.toNat) + c.toNat * 128 ^ i))) = s.extract a (a + i + 1)) ↔
      varL (val (((s.data.toList.drop a).take i).map UInt8.toNat) + c.toNat * 128 ^ i) = ((s.data.toList.drop a).take i).map UInt8.toNat ++ [c.toNat] := by
    rw [← pre_succ h hc]
    have e2 : (s.extract a (a + i + 1)).data.toList = (natI (((s.data.toList.drop a).take (i + 1)).map UInt8.toNat)).map toB := by
      rw [toB_list, ext_list, show a + i + 1 - a = i + 1 by omega]
    constructor
    · intro hh
      have h3 := congrArg (fun b => b.data.toList) hh
      simp only [byteT] at h3
      rw [e2] at h3
      exact toB_inj _ _ (varL_lt _) (fun b hb => by
        obtain ⟨u, _, rfl⟩ := List.mem_map.1 hb
        exact u.toNat_lt) h3
    · intro hh
      rw [hh]
      apply ByteArray.ext
      apply Array.ext'
      rw [e2]
      simp [byteT]
  rw [e1, key]
  simp only [Bool.not_eq_true', Bool.and_eq_false_iff, decide_eq_false_iff_not]
  omega
theorem lp254 (s : ByteArray) (hs : s.size ≤ 1048576) (a : Nat) (ha : a ≤ s.size) : ∀ (f i n : Nat), i + f = 5 → n < 128 ^ i → a + i ≤ s.size → (∀ b ∈ ((s.data.toList.drop a).take i).map UInt8.toNat, 128 ≤ b ∧ b < 256) → n = val (((s.data.toList.drop a).take i).map UInt8.toNat) →
    ∃ r, XL T 0 H254_6 L254_6 ⟨[(0, .str s), (1, .int .i64 a), (7, .int .i64 n), (8, .int .i64 ((128 ^ i : Nat) : Int)), (9, .int .i64 ((a : Int) + (i : Int)))], []⟩ = some r ∧ rvQ (rvGo s.data.toList a f i n) r := by
  have hn := ba_len s
  intro f
  induction f with
  | zero =>
    intro i n hi hlt hai hpre hval
    obtain rfl : i = 5 := by omega
    have c1 : decide ((a : Int) + 5 < (a : Int) + 5) = false := decide_eq_false (by omega)
    have s5 : ((5 : Nat) : Int) = 5 := rfl
    have w5 := w_i64 ((a : Int) + 5) (by omega)
    unfold rvGo
    refine stop_out ?_
    simp only [s5]
    cases k1 : decide ((a : Int) + 5 < (s.size : Int)) with
    | true =>
      simp only [XG, L254_6, h254_6, go_sem, seval, bnd_ite, c1, k1, w5, Bool.false_eq_true, if_false, if_true]
      exact .mk (by simp) ⟨rfl, .inr rfl⟩
    | false =>
      simp only [XG, L254_6, h254_6, go_sem, seval, bnd_ite, c1, k1, w5, Bool.false_eq_true, if_false]
      exact .mk (by simp) ⟨rfl, .inr rfl⟩
  | succ f ih =>
    intro i n hi hlt hai hpre hval
    have i5 : i < 5 := by omega
    have hp : 128 ^ i ≤ 268435456 := by
      match i, i5 with
      | 0, _ | 1, _ | 2, _ | 3, _ | 4, _ => decide
    have w5 := w_i64 ((a : Int) + 5) (by omega)
    have c1 : decide ((a : Int) + (i : Int) < (a : Int) + 5) = true := decide_eq_true (by omega)
    have x1 : ((a : Int) + (i : Int)).toNat = a + i := by omega
    have p1 : (0 : Int) ≤ (a : Int) + (i : Int) := by omega
    by_cases hlen : a + i < s.data.toList.length
    · have k1 : decide ((a : Int) + (i : Int) < (s.size : Int)) = true := decide_eq_true (by omega)
      have k1' : (a : Int) + (i : Int) < (s.size : Int) := by omega
      obtain ⟨c, hc⟩ : ∃ c, s.data.toList.getD (a + i) 0 = c := ⟨_, rfl⟩
      have c255 := c.toNat_lt
      have hm : c.toNat % 128 < 128 := Nat.mod_lt _ (by omega)
      have hmm : c.toNat % 128 * 128 ^ i ≤ 127 * 268435456 := Nat.mul_le_mul (by omega) hp
      have wc := w_i64 (c.toNat : Int) (by omega)
      have q1 : Int.tmod (c.toNat : Int) 128 = ((c.toNat % 128 : Nat) : Int) := rfl
      have sh : ((c.toNat % 128 : Nat) : Int) * ((128 ^ i : Nat) : Int) = ((c.toNat % 128 * 128 ^ i : Nat) : Int) := by rw [Int.natCast_mul]
      have ws := w_i64 ((c.toNat % 128 * 128 ^ i : Nat) : Int) (by omega)
      have wn := w_i64 ((n : Int) + ((c.toNat % 128 * 128 ^ i : Nat) : Int)) (by omega)
      have en : (n : Int) + ((c.toNat % 128 * 128 ^ i : Nat) : Int) = ((n + c.toNat % 128 * 128 ^ i : Nat) : Int) := by omega
      have wp := w_i64 (((128 ^ i : Nat) : Int) * 128) (by omega)
      have ep : ((128 ^ i : Nat) : Int) * 128 = ((128 ^ (i + 1) : Nat) : Int) := by rw [Nat.pow_succ, Int.natCast_mul]; rfl
      have wi := w_i64 ((a : Int) + (i : Int) + 1) (by omega)
      have ei : (a : Int) + (i : Int) + 1 = (a : Int) + ((i + 1 : Nat) : Int) := by omega
      have pre1 := pre_succ hlen hc
      unfold rvGo
      rw [if_pos hlen, hc]
      by_cases h127 : c.toNat > 127
      · rw [if_pos h127]
        have d1 : decide ((c.toNat : Int) < 128) = false := decide_eq_false (by omega)
        obtain ⟨r, e1, e2⟩ := ih (i + 1) (n + c.toNat % 128 * 128 ^ i) (by omega) (by
          rw [Nat.pow_succ]
          have : c.toNat % 128 * 128 ^ i ≤ 127 * 128 ^ i := Nat.mul_le_mul (by omega) (Nat.le_refl _)
          omega) (by omega) (by
          rw [pre1]
          intro b hb
          rcases List.mem_append.1 hb with hb | hb
          · exact hpre b hb
          · rw [List.mem_singleton.1 hb]; omega) (by
          have hl0 : (((s.data.toList.drop a).take i).map UInt8.toNat).length = i := by rw [List.length_map, List.length_take, List.length_drop]; omega
          rw [pre1, val_app, ← hval, hl0])
        refine ⟨r, ?_, e2⟩
        rw [← e1]
        refine XL_nx ?_
        rw [← en, ← ei, ← ep]
        simp only [XG, L254_6, h254_6, b_rem, go_sem, seval, bnd_ite, c1, w5, x1, p1, k1, k1', hc, wc, q1, sh, ws, wn, wp, wi, d1, if_true, if_false, Bool.false_eq_true]
        first | done | rfl
      · rw [if_neg h127]
        have d1 : decide ((c.toNat : Int) < 128) = true := decide_eq_true (by omega)
        have same := same_text hlen hc (by omega) hpre
        rw [← hval] at same
        by_cases hbig : n + c.toNat % 128 * 128 ^ i > 1000000000
        · have d2 : decide ((n : Int) + ((c.toNat % 128 * 128 ^ i : Nat) : Int) > 1000000000) = true := decide_eq_true (by omega)
          rw [if_pos (.inr hbig)]
          refine stop_out ?_
          simp only [XG, L254_6, h254_6, b_rem, go_sem, seval, bnd_ite, c1, w5, x1, p1, k1, k1', hc, wc, q1, sh, ws, wn, wp, wi, d1, d2, if_true, if_false, Bool.false_eq_true]
          exact .mk (by simp) ⟨rfl, .inl ⟨rfl, rfl, rfl, rfl⟩⟩
        · have d2 : decide ((n : Int) + ((c.toNat % 128 * 128 ^ i : Nat) : Int) > 1000000000) = false := decide_eq_false (by omega)
          have ev := e255v (n + c.toNat % 128 * 128 ^ i) (by omega)
          rw [← en] at ev
          have xa : ((a : Nat) : Int).toNat = a := rfl
          have x2 : ((a : Int) + (i : Int) + 1).toNat = a + i + 1 := by omega
          have g3 : (0 : Int) ≤ (a : Int) ∧ (a : Int) ≤ (a : Int) + (i : Int) + 1 ∧ (a : Int) + (i : Int) + 1 ≤ (s.size : Int) := by omega
          by_cases hz : i > 0 ∧ c.toNat = 0
          · rw [if_pos (.inl hz)]
            have same' : decide (byteT (natI (varL (n + c.toNat % 128 * 128 ^ i))) = s.extract a (a + i + 1)) = false := by rw [same]; simp [hz]
            refine stop_out ?_
            simp only [XG, L254_6, h254_6, b_rem, go_sem, seval, bnd_ite, c1, w5, x1, p1, k1, k1', hc, wc, q1, sh, ws, wn, wp, wi, d1, d2, ev, xa, x2, g3, and_self, same', if_true, if_false, Bool.false_eq_true, Bool.not_false]
            exact .mk (by simp) ⟨rfl, .inl ⟨rfl, rfl, rfl, rfl⟩⟩
          · rw [if_neg (by omega)]
            have same' : decide (byteT (natI (varL (n + c.toNat % 128 * 128 ^ i))) = s.extract a (a + i + 1)) = true := by rw [same]; simp; omega
            refine stop_out ?_
            simp only [XG, L254_6, h254_6, b_rem, go_sem, seval, bnd_ite, c1, w5, x1, p1, k1, k1', hc, wc, q1, sh, ws, wn, wp, wi, d1, d2, ev, xa, x2, g3, and_self, same', if_true, if_false, Bool.false_eq_true, Bool.not_true]
            refine .mk (by simp) ⟨rfl, rfl, ?_, ?_, rfl⟩
            · show AV.int .i64 _ = _; rw [en]
            · show AV.int .i64 _ = _; congr 1
    · have k1 : decide ((a : Int) + (i : Int) < (s.size : Int)) = false := decide_eq_false (by omega)
      unfold rvGo
      rw [if_neg hlen]
      refine stop_out ?_
      simp only [XG, L254_6, h254_6, go_sem, seval, bnd_ite, c1, w5, k1, Bool.false_eq_true, if_false]
      exact .mk (by simp) ⟨rfl, .inr rfl⟩
theorem e254 (s : ByteArray) (hs : s.size ≤ 1048576) (a : Int) : E T 254 [.str s, .int .i64 a] [] = some (rvA (rv s.data.toList a), []) := by
  rw [E_eq t254 (Nat.le_of_ble_eq_true rfl)]
  have hn := ba_len s
  by_cases hin : 0 ≤ a ∧ a ≤ s.data.toList.length
  · have hI : inside a 0 s.size = true := by unfold inside; simp; omega
    obtain ⟨b, rfl⟩ : ∃ b : Nat, a = b := ⟨a.toNat, by omega⟩
    obtain ⟨⟨y, e, m⟩, k1, k2, k3⟩ := lp254 s hs b (by omega) 5 0 0 rfl (by decide) (by omega) (by simp) rfl
    unfold rv
    rw [if_pos hin, Int.toNat_natCast]
    obtain rfl : m = [] := k2
    have hp0 : ((128 ^ 0 : Nat) : Int) = 1 := rfl
    have hs0 : ((0 : Nat) : Int) = 0 := rfl
    simp only [hs0, hp0, Int.add_zero] at k1
    cases ho : rvGo s.data.toList b 5 0 0 with
    | none =>
      rw [ho] at k3
      rcases k3 with ⟨k3, k4, k5, k6⟩ | k3
      · obtain rfl : y = .ret := k3
        replace k4 : lookA e 4 = _ := k4
        replace k5 : lookA e 5 = _ := k5
        replace k6 : lookA e 6 = _ := k6
        simp only [F254, h254_6, go_sem, seval, bnd_ite, e108i, hI, k1, k4, k5, k6, Bool.not_true, Bool.false_eq_true, if_false]
        first | done | rfl
      · obtain rfl : y = .exit 0 := k3
        simp only [F254, h254_6, go_sem, seval, bnd_ite, e108i, hI, k1, Bool.not_true, Bool.false_eq_true, if_false]
        first | done | rfl
    | some x =>
      obtain ⟨v, p⟩ := x
      rw [ho] at k3
      obtain ⟨k3, k4, k5, k6⟩ := k3
      obtain rfl : y = .ret := k3
      replace k4 : lookA e 4 = _ := k4
      replace k5 : lookA e 5 = _ := k5
      replace k6 : lookA e 6 = _ := k6
      simp only [F254, h254_6, go_sem, seval, bnd_ite, e108i, hI, k1, k4, k5, k6, Bool.not_true, Bool.false_eq_true, if_false]
      first | done | rfl
  · have hI : inside a 0 s.size = false := by rw [← Bool.not_eq_true]; unfold inside; simp; omega
    unfold rv
    rw [if_neg hin]
    simp only [F254, h254_6, go_sem, seval, bnd_ite, e108i, hI, Bool.not_false, if_true]
    first | done | rfl
def rsA (o : Option (ByteArray × Nat)) : AV := match o with
  | some (v, p) => .tup [.str v, .int .i64 p, .bool true]
  | none => .tup [.str ⟨#[]⟩, .int .i64 0, .bool false]
theorem e228 (s : ByteArray) (hs : s.size ≤ 1048576) (a : Int) : E T 228 [.str s, .int .i64 a] [] = some (rsA (rs s a), []) := by
  rw [E_eq t228 (Nat.le_of_ble_eq_true rfl)]
  have hn := ba_len s
  have ev := e258 s hs a
  unfold rs
  cases ho : rv s.data.toList a with
  | none =>
    rw [ho] at ev
    unfold rvA at ev
    simp only [F228, go_sem, seval, bnd_ite, ev, Bool.not_false, if_true]
    first | done | rfl
  | some x =>
    obtain ⟨n, b⟩ := x
    rw [ho] at ev
    unfold rvA at ev
    obtain ⟨r1, r2, r3, r4⟩ := rv_lt ho
    simp only at r1 r2 r3
    have ws := w_i64 ((s.size : Int) - (b : Int)) (by omega)
    have es : (s.size : Int) - (b : Int) = ((s.size - b : Nat) : Int) := by omega
    by_cases hbig : n > 20000
    · have d1 : decide ((n : Int) > 20000) = true := decide_eq_true (by omega)
      simp only
      rw [if_pos (.inl hbig)]
      simp only [F228, go_sem, seval, bnd_ite, ev, d1, Bool.not_true, Bool.false_eq_true, if_false, if_true]
      first | done | rfl
    · have d1 : decide ((n : Int) > 20000) = false := decide_eq_false (by omega)
      by_cases hlong : n > s.size - b
      · have d2 : decide ((n : Int) > (s.size : Int) - (b : Int)) = true := decide_eq_true (by omega)
        simp only
        rw [if_pos (.inr hlong)]
        simp only [F228, go_sem, seval, bnd_ite, ev, d1, d2, ws, Bool.not_true, Bool.false_eq_true, if_false, if_true]
        first | done | rfl
      · have d2 : decide ((n : Int) > (s.size : Int) - (b : Int)) = false := decide_eq_false (by omega)
        have wn := w_i64 ((b : Int) + (n : Int)) (by omega)
        have g3 : (0 : Int) ≤ (b : Int) ∧ (b : Int) ≤ (b : Int) + (n : Int) ∧ (b : Int) + (n : Int) ≤ (s.size : Int) := by omega
        have x1 : ((b : Nat) : Int).toNat = b := rfl
        have x2 : ((b : Int) + (n : Int)).toNat = b + n := by omega
        have e2 : (b : Int) + (n : Int) = ((b + n : Nat) : Int) := by omega
        simp only
        rw [if_neg (by omega)]
        simp only [F228, go_sem, seval, bnd_ite, ev, d1, d2, ws, wn, g3, x1, x2, and_self, Bool.not_true, Bool.false_eq_true, if_false, if_true]
        rw [e2]
        first | done | rfl
theorem e222 (s : ByteArray) (hs : s.size ≤ 1048576) (a : Int) : E T 222 [.str s, .int .i64 a] [] = some (rsA (rs s a), []) := by
  rw [E_eq t222 (Nat.le_of_ble_eq_true rfl)]
  have hn := ba_len s
  have ev := e254 s hs a
  unfold rs
  cases ho : rv s.data.toList a with
  | none =>
    rw [ho] at ev
    unfold rvA at ev
    simp only [F222, go_sem, seval, bnd_ite, ev, Bool.not_false, if_true]
    first | done | rfl
  | some x =>
    obtain ⟨n, b⟩ := x
    rw [ho] at ev
    unfold rvA at ev
    obtain ⟨r1, r2, r3, r4⟩ := rv_lt ho
    simp only at r1 r2 r3
    have ws := w_i64 ((s.size : Int) - (b : Int)) (by omega)
    have es : (s.size : Int) - (b : Int) = ((s.size - b : Nat) : Int) := by omega
    by_cases hbig : n > 20000
    · have d1 : decide ((n : Int) > 20000) = true := decide_eq_true (by omega)
      simp only
      rw [if_pos (.inl hbig)]
      simp only [F222, go_sem, seval, bnd_ite, ev, d1, Bool.not_true, Bool.false_eq_true, if_false, if_true]
      first | done | rfl
    · have d1 : decide ((n : Int) > 20000) = false := decide_eq_false (by omega)
      by_cases hlong : n > s.size - b
      · have d2 : decide ((n : Int) > (s.size : Int) - (b : Int)) = true := decide_eq_true (by omega)
        simp only
        rw [if_pos (.inr hlong)]
        simp only [F222, go_sem, seval, bnd_ite, ev, d1, d2, ws, Bool.not_true, Bool.false_eq_true, if_false, if_true]
        first | done | rfl
      · have d2 : decide ((n : Int) > (s.size : Int) - (b : Int)) = false := decide_eq_false (by omega)
        have wn := w_i64 ((b : Int) + (n : Int)) (by omega)
        have g3 : (0 : Int) ≤ (b : Int) ∧ (b : Int) ≤ (b : Int) + (n : Int) ∧ (b : Int) + (n : Int) ≤ (s.size : Int) := by omega
        have x1 : ((b : Nat) : Int).toNat = b := rfl
        have x2 : ((b : Int) + (n : Int)).toNat = b + n := by omega
        have e2 : (b : Int) + (n : Int) = ((b + n : Nat) : Int) := by omega
        simp only
        rw [if_neg (by omega)]
        simp only [F222, go_sem, seval, bnd_ite, ev, d1, d2, ws, wn, g3, x1, x2, and_self, Bool.not_true, Bool.false_eq_true, if_false, if_true]
        rw [e2]
        first | done | rfl
end Go.Proofs.YtaaajjinpppgeaaGreat

/- Rows of one bit, copies of a device. Own work; no condition. -/
set_option linter.unusedVariables false
set_option linter.unusedSimpArgs false
set_option linter.unusedSectionVars false
namespace Go.Proofs.YtaaajjinpppgeaaGreat
open Go Go.Abs
set_option maxRecDepth 100000
theorem e225a : E T 225 [.int .u64 1, .int .u64 16] [] = some (.tup [.int .u64 0, .int .u64 16], []) := by
  have e257 : E T 257 [.int .u64 1, .int .u64 16] [] = some (.tup [.int .u64 0, .int .u64 16], []) := by
    rw [E_eq t257 (Nat.le_of_ble_eq_true rfl)]
    simp only [F257, b_shr, b_and, b_shl, go_sem, seval, bnd_ite]
    first | done | rfl | decide +kernel
  rw [E_eq t225 (Nat.le_of_ble_eq_true rfl)]
  simp only [F225, go_sem, seval, bnd_ite, e257, Bool.false_eq_true, if_false]
  first | done | rfl
theorem e225b : E T 225 [.int .u64 1, .int .u64 8] [] = some (.tup [.int .u64 0, .int .u64 8], []) := by
  have e257 : E T 257 [.int .u64 1, .int .u64 8] [] = some (.tup [.int .u64 0, .int .u64 8], []) := by
    rw [E_eq t257 (Nat.le_of_ble_eq_true rfl)]
    simp only [F257, b_shr, b_and, b_shl, go_sem, seval, bnd_ite]
    first | done | rfl | decide +kernel
  rw [E_eq t225 (Nat.le_of_ble_eq_true rfl)]
  simp only [F225, go_sem, seval, bnd_ite, e257, Bool.false_eq_true, if_false]
  first | done | rfl
def trB (k n : Nat) : List Bool := List.replicate k true ++ List.replicate (n - k) false
theorem st156 (k n m : Nat) (hk : 0 < k) (h2 : k + k ≤ n) (hn : n ≤ 16) (hm : m = k + k) : XG T 0 H156_8 L156_8 ⟨[(7, .sl 0 0 n), (8, .int .i64 (k : Nat))], [some (1, (trB k n).map bv)]⟩ = some (.normal, ⟨[(7, .sl 0 0 n), (8, .int .i64 (m : Nat))], [some (1, (trB m n).map bv)]⟩) := by
  subst hm
  have d1 : decide ((k : Int) < (n : Int)) = true := decide_eq_true (by omega)
  have g1 : (0 : Int) ≤ (k : Int) ∧ (k : Int) ≤ (n : Int) := by omega
  have x1 : ((k : Nat) : Int).toNat = k := rfl
  have wk := w_i64 ((k : Int) + (k : Int)) (by omega)
  have tl : (trB k n).length = n := by unfold trB; simp; omega
  obtain ⟨R, hR⟩ : ∃ R, (trB k n).map bv = R := ⟨_, rfl⟩
  obtain ⟨e, he⟩ : ∃ e, (List.replicate k true).map bv = e := ⟨_, rfl⟩
  have r1 : R.length = n := by rw [← hR]; simp [tl]
  have r2 : R.take k = e := by
    rw [← hR, ← he, ← List.map_take]; congr 1
    unfold trB; rw [List.take_append_of_le_length (by simp)]; simp
  have e1 : e.length = k := by rw [← he]; simp
  have e2 : (e.all fun x => x.cells.all noOwnC) = true := by rw [← he]; exact no_map bv _ (fun _ => rfl)
  have e3 : e.take (n - k) = e := List.take_of_length_le (by omega)
  have e4 : ∀ live, (e.all (okC live)) = true := fun live => by
    rw [← he, List.all_eq_true]
    intro x hx
    obtain ⟨b, _, rfl⟩ := List.mem_map.1 hx
    rfl
  have m1 : min (n - k) k = k := by omega
  have n1 : k + (n - k) ≤ n := by omega
  have n2 : 0 < n - k := by omega
  have n3 : k ≤ n := by omega
  have fin : e ++ e ++ R.drop (k + k) = (trB (k + k) n).map bv := by
    rw [← hR, ← he, ← List.map_drop, ← List.map_append, ← List.map_append]; congr 1
    unfold trB
    rw [List.drop_append, List.drop_eq_nil_of_le (by simp)]
    simp
    omega
  have si : ∀ g, mapIdL g ((trB (k + k) n).map bv) = (trB (k + k) n).map bv := fun g => mi_map g bv _ bv_cool
  have ss : ∀ u, idsL u ((trB (k + k) n).map bv) = [] := fun u => is_map u bv _ bv_cool
  simp only [hR]
  simp only [XG, L156_8, h156_8, go_sem, seval, bnd_ite, d1, g1, x1, wk, r1, r2, e1, e2, e3, e4, m1, n1, n2, n3, hk, fin, si, ss, and_self, if_true]
  first | done | rfl
theorem end156 (n : Nat) : ∃ r, XL T 0 H156_8 L156_8 ⟨[(7, .sl 0 0 n), (8, .int .i64 (n : Nat))], [some (1, (trB n n).map bv)]⟩ = some r ∧ r.1 = .exit 0 ∧ lookA r.2.env 7 = .sl 0 0 n ∧ r.2.mem = [some (1, (trB n n).map bv)] := by
  refine stop_out ?_
  simp only [XG, L156_8, h156_8, go_sem, seval, bnd_ite, Int.lt_irrefl, decide_false]
  exact .mk (by simp) ⟨rfl, rfl, rfl⟩
theorem e156a : E T 156 [.ro 1 [.bool true], .int .i64 16] [] = some (.own 1 ((List.replicate 16 true).map bv), []) := by
  rw [E_eq t156 (Nat.le_of_ble_eq_true rfl)]
  have u1 : IntKind.u64.wrap 1 = 1 := by decide
  have u2 : IntKind.u64.wrap 16 = 16 := by decide
  have v2 : IntKind.i64.wrap 16 = 16 := by decide
  obtain ⟨⟨y, e, m⟩, k1, kx, k2, km⟩ := end156 16
  simp only at kx k2 km; subst kx; subst km
  have key := (XL_nx (st156 1 16 2 (by omega) (by omega) (by omega) rfl)).trans ((XL_nx (st156 2 16 4 (by omega) (by omega) (by omega) rfl)).trans ((XL_nx (st156 4 16 8 (by omega) (by omega) (by omega) rfl)).trans ((XL_nx (st156 8 16 16 (by omega) (by omega) (by omega) rfl)).trans k1)))
  have i1 : (trB 1 16).map bv = [AV.bool true, AV.bool false, AV.bool false, AV.bool false, AV.bool false, AV.bool false, AV.bool false, AV.bool false, AV.bool false, AV.bool false, AV.bool false, AV.bool false, AV.bool false, AV.bool false, AV.bool false, AV.bool false] := rfl
  have i16 : (trB 16 16).map bv = (List.replicate 16 true).map bv := rfl
  have h1 : ((1 : Nat) : Int) = 1 := rfl
  rw [i1, i16] at key
  simp only [h1] at key
  have tk : ((List.replicate 16 true).map bv).take 16 = (List.replicate 16 true).map bv := List.take_of_length_le (by simp)
  have ss : ∀ u, idsL u ((List.replicate 16 true).map bv) = [] := fun u => is_map u bv _ bv_cool
  have si : ∀ g, mapIdL g ((List.replicate 16 true).map bv) = (List.replicate 16 true).map bv := fun g => mi_map g bv _ bv_cool
  have lq : ((List.replicate 16 true).map bv).length = 16 := by simp
  generalize hQ : (List.replicate 16 true).map bv = Q at key tk ss si lq ⊢
  simp only [F156, h156_8, go_sem, seval, bnd_ite, u1, u2, v2, e225a, key, k2, tk, ss, si, lq, List.replicate, decide_false, Bool.or_self, Bool.false_eq_true, if_false, List.take_nil, List.all_nil, if_true]
  first | done | rfl
theorem e156b : E T 156 [.ro 1 [.bool true], .int .i64 8] [] = some (.own 1 ((List.replicate 8 true).map bv), []) := by
  rw [E_eq t156 (Nat.le_of_ble_eq_true rfl)]
  have u1 : IntKind.u64.wrap 1 = 1 := by decide
  have u2 : IntKind.u64.wrap 8 = 8 := by decide
  have v2 : IntKind.i64.wrap 8 = 8 := by decide
  obtain ⟨⟨y, e, m⟩, k1, kx, k2, km⟩ := end156 8
  simp only at kx k2 km; subst kx; subst km
  have key := (XL_nx (st156 1 8 2 (by omega) (by omega) (by omega) rfl)).trans ((XL_nx (st156 2 8 4 (by omega) (by omega) (by omega) rfl)).trans ((XL_nx (st156 4 8 8 (by omega) (by omega) (by omega) rfl)).trans k1))
  have i1 : (trB 1 8).map bv = [AV.bool true, AV.bool false, AV.bool false, AV.bool false, AV.bool false, AV.bool false, AV.bool false, AV.bool false] := rfl
  have i16 : (trB 8 8).map bv = (List.replicate 8 true).map bv := rfl
  have h1 : ((1 : Nat) : Int) = 1 := rfl
  rw [i1, i16] at key
  simp only [h1] at key
  have tk : ((List.replicate 8 true).map bv).take 8 = (List.replicate 8 true).map bv := List.take_of_length_le (by simp)
  have ss : ∀ u, idsL u ((List.replicate 8 true).map bv) = [] := fun u => is_map u bv _ bv_cool
  have si : ∀ g, mapIdL g ((List.replicate 8 true).map bv) = (List.replicate 8 true).map bv := fun g => mi_map g bv _ bv_cool
  have lq : ((List.replicate 8 true).map bv).length = 8 := by simp
  generalize hQ : (List.replicate 8 true).map bv = Q at key tk ss si lq ⊢
  simp only [F156, h156_8, go_sem, seval, bnd_ite, u1, u2, v2, e225b, key, k2, tk, ss, si, lq, List.replicate, decide_false, Bool.or_self, Bool.false_eq_true, if_false, List.take_nil, List.all_nil, if_true]
  first | done | rfl
theorem e64 (l : List ByteArray) (h : dvcSm l) (h0 : l ≠ []) : E T 64 [dvc l] [] = some (dvcO l, []) := by
  rw [E_eq t64 (Nat.le_of_ble_eq_true rfl)]
  have hap : l.length * 16 ≤ 140737488355328 := by unfold dvcSm at h; omega
  cases l with
  | nil => exact absurd rfl h0
  | cons y ys =>
    have hap : (ys.length + 1) * 16 ≤ 140737488355328 := by simp only [List.length_cons] at hap; omega
    simp only [dvc, dvcO, F64, sv, go_sem, seval, bnd_ite, hap]
    first | done | rfl
end Go.Proofs.YtaaajjinpppgeaaGreat

/- Bits and inodes out of texts. Own work; no condition. -/
set_option linter.unusedVariables false
set_option linter.unusedSimpArgs false
set_option linter.unusedSectionVars false
namespace Go.Proofs.YtaaajjinpppgeaaGreat
open Go Go.Abs
set_option maxRecDepth 100000
def bitAt (c i : Nat) : Bool := decide (c / 2 ^ i % 2 = 1)
def un (c : UInt8) : List Bool := (List.range 8).map (bitAt c.toNat)
theorem bit_and : ∀ i : Fin 8, ∀ c : Fin 256, decide (IntKind.u8.wrap ((BitVec.ofInt 8 (Int.fdiv ((c.val : Nat) : Int) (2 ^ (Nat.min i.val 8))) &&& 1#8).toNat : Nat) = 1) = bitAt c.val i.val := by decide +kernel
theorem un_at {c : UInt8} {i : Nat} {d : Bool} (h : (un c)[i]? = some d) : i < 8 ∧ d = bitAt c.toNat i := by
  unfold un at h
  rw [List.getElem?_map] at h
  by_cases hi : i < 8
  · rw [List.getElem?_range hi] at h
    exact ⟨hi, by simpa using h.symm⟩
  · rw [List.getElem?_eq_none (by simp; omega)] at h; cases h
theorem un_len (c : UInt8) : (un c).length = 8 := by simp [un]
theorem e224 (c : UInt8) : E T 224 [.int .u8 c.toNat] [] = some (.own 1 ((un c).map bv), []) := by
  rw [E_eq t224 (Nat.le_of_ble_eq_true rfl)]
  have h8 := un_len c
  refine (XL_each (T := T) (b := 0) (hd := H224_3) (x := L224_3) (un c) (fun (_ : Unit) _ => ()) (fun i _ => ⟨[(0, .int .u8 c.toNat), (3, .sl 0 0 i), (6, .int .i64 (i : Nat))], [some (1, ((un c).take i).map bv)]⟩) (fun _ _ => True)
    (fun _ r => r.1 = .exit 0 ∧ lookA r.2.env 3 = .sl 0 0 8 ∧ r.2.mem = [some (1, (un c).map bv)]) ?step ?last () trivial).elim ?main
  case step =>
    intro i _ d hd hi _
    refine ⟨?_, trivial⟩
    obtain ⟨hi8, hdd⟩ := un_at hd
    have k1 : decide ((i : Int) < 8) = true := decide_eq_true (by omega)
    obtain ⟨M, hM, ml, mi, ms, mt, ma⟩ := snoc_facts bv_cool hd
    have hap : (i + 1) * 1 ≤ 140737488355328 := by omega
    have hw := w_i64 ((i : Int) + 1) (by omega)
    have n1 : ¬ (i : Int) < 0 := by omega
    have x1 : ((i : Nat) : Int).toNat = i := rfl
    have hb := bit_and ⟨i, hi8⟩ ⟨c.toNat, c.toNat_lt⟩
    simp only at hb
    have ma : M ++ [AV.bool d] = ((un c).take (i + 1)).map bv := ma
    rw [hdd] at ma
    have hmin : min (i + 1) (un c).length = i + 1 := by omega
    simp only [hM]
    simp only [XG, L224_3, h224_3, b_shr, b_and, go_sem, seval, bnd_ite, k1, n1, x1, ml, mi, ms, mt, hap, hw, hmin, if_false, if_true]
    rw [← ma, ← hb]
    rfl
  case last =>
    intro _ _
    have k1 : decide ((((un c).length : Nat) : Int) < 8) = false := by rw [h8]; rfl
    simp only [XG, L224_3, h224_3, go_sem, seval, bnd_ite, k1, Bool.false_eq_true, if_false]
    exact .mk (by simp) ⟨rfl, by show AV.sl 0 0 _ = _; rw [h8], by simp⟩
  case main =>
  have hs0 : ((0 : Nat) : Int) = 0 := rfl
  rintro ⟨y, e, m⟩ ⟨k1, kx, k2, km⟩
  simp only at kx k2 km; subst kx; subst km
  simp only [hs0, List.take_zero, List.map_nil] at k1
  have tk : ((un c).map bv).take 8 = (un c).map bv := List.take_of_length_le (by simp [h8])
  simp only [F224, h224_3, go_sem, seval, bnd_ite, k1, k2, tk]
  first | done | rfl
theorem bv_ok (live : Live) (l : List Bool) : (l.map bv).all (fun x => x.cells.all (okC live)) = true := by
  rw [List.all_eq_true]
  intro x hx
  obtain ⟨b, _, rfl⟩ := List.mem_map.1 hx
  rfl
theorem at_idx (s : ByteArray) (i : Nat) : ∃ c, s.data.toList.getD i 0 = c := ⟨_, rfl⟩
def bitsO (s : ByteArray) : AV := if s.size = 3 then .tup [.agg [.own 1 ((un (s.data.toList.getD 0 0) ++ un (s.data.toList.getD 1 0)).map bv), .own 1 ((un (s.data.toList.getD 2 0)).map bv)], .bool true] else .tup [.agg [.own 1 [], .own 1 []], .bool false]
theorem e155 (s : ByteArray) : E T 155 [.str s] [] = some (bitsO s, []) := by
  rw [E_eqW t155 (Nat.le_of_ble_eq_true rfl)]
  unfold bitsO
  by_cases h : s.size = 3
  · have d1 : decide ((s.size : Int) = 3) = true := decide_eq_true (by omega)
    have n1 : (0 : Int) < (s.size : Int) := by omega
    have n2 : (1 : Int) < (s.size : Int) := by omega
    have n3 : (2 : Int) < (s.size : Int) := by omega
    obtain ⟨c0, h0⟩ := at_idx s 0
    obtain ⟨c1, h1⟩ := at_idx s 1
    obtain ⟨c2, h2⟩ := at_idx s 2
    have e0 := e224 c0
    have e1 := e224 c1
    have e2 := e224 c2
    rw [if_pos h]
    simp only [F155, go_sem, seval, bnd_ite, d1, n1, n2, n3, h0, h1, h2, e0, e1, e2, Bool.not_true, Bool.false_eq_true, if_false]
    have l0 := un_len c0
    have l1 := un_len c1
    have l2 := un_len c2
    have hm : (un c0).map bv ++ (un c1).map bv = (un c0 ++ un c1).map bv := List.map_append.symm
    have ms : ∀ u, idsL u ((un c0 ++ un c1).map bv) = [] := fun u => is_map u bv _ bv_cool
    have tk : ((un c0 ++ un c1).map bv).take (8 + 8) = (un c0 ++ un c1).map bv := List.take_of_length_le (by simp [l0, l1])
    simp only [l0, l1, l2, hm, tk, ms, bv_ok, List.nil_append]
    first | done | rfl
  · have d1 : decide ((s.size : Int) = 3) = false := decide_eq_false (by omega)
    rw [if_neg h]
    simp only [F155, go_sem, seval, bnd_ite, d1, Bool.not_false, if_true]
    first | done | rfl
theorem rangeAt {m i j : Nat} (h : (List.range m)[i]? = some j) : j = i ∧ j < m := by
  have hi := (List.getElem?_eq_some_iff.1 h).1
  rw [List.length_range] at hi
  rw [List.getElem?_range hi] at h
  cases h
  exact ⟨rfl, hi⟩
def bM (A B : List Bool) : Mem := [some (2, [.agg [.nil, .nil]]), some (2, [.agg [.sl 2 0 A.length, .sl 3 0 B.length]]), some (1, A.map bv), some (1, B.map bv)]
theorem halves (n : Nat) : ∀ m, (List.range m).foldl (fun (n : Nat) _ => n / 2) n = n / 2 ^ m
  | 0 => by simp
  | m + 1 => by rw [List.range_succ, List.foldl_append, halves n m]; simp only [List.foldl_cons, List.foldl_nil]; rw [Nat.div_div_eq_div_mul, Nat.pow_succ]
theorem lp151k (s : ByteArray) (n i : Nat) (hn : n < 256) (hi : i < 24) (A B : List Bool) :
    ∃ r, XL T 0 H151_9 L151_9 ⟨[(0, .str s), (2, .ptr 0 0 0), (4, .ptr 1 0 0), (5, .int .i64 (i : Nat)), (6, .int .i64 n), (7, .int .i64 0)], bM A B⟩ = some r ∧
      r.1 = .exit 2 ∧ lookA r.2.env 0 = .str s ∧ lookA r.2.env 2 = .ptr 0 0 0 ∧ lookA r.2.env 4 = .ptr 1 0 0 ∧ lookA r.2.env 5 = .int .i64 (i : Nat) ∧ lookA r.2.env 6 = .int .i64 ((n / 2 ^ (i % 8) : Nat) : Int) ∧ r.2.mem = bM A B := by
  have q8 : Int.tmod (i : Int) 8 = ((i % 8 : Nat) : Int) := rfl
  have hs0 : ((0 : Nat) : Int) = 0 := rfl
  rw [← halves]
  have := XL_each (T := T) (b := 0) (hd := H151_9) (x := L151_9) (List.range (i % 8)) (fun (n : Nat) _ => n / 2) (fun k n => ⟨[(0, .str s), (2, .ptr 0 0 0), (4, .ptr 1 0 0), (5, .int .i64 (i : Nat)), (6, .int .i64 (n : Nat)), (7, .int .i64 (k : Nat))], bM A B⟩) (fun _ n => n < 256)
    (fun n r => r.1 = .exit 2 ∧ lookA r.2.env 0 = .str s ∧ lookA r.2.env 2 = .ptr 0 0 0 ∧ lookA r.2.env 4 = .ptr 1 0 0 ∧ lookA r.2.env 5 = .int .i64 (i : Nat) ∧ lookA r.2.env 6 = .int .i64 ((n : Nat) : Int) ∧ r.2.mem = bM A B) ?step ?last n hn
  case step =>
    intro k n _ _ hk hn
    refine ⟨?_, by omega⟩
    rw [List.length_range] at hk
    have k1 : decide ((k : Int) < ((i % 8 : Nat) : Int)) = true := decide_eq_true (by omega)
    have q2 : Int.tdiv (n : Int) 2 = ((n / 2 : Nat) : Int) := rfl
    have w1 := w_i64 ((n / 2 : Nat) : Int) (by omega)
    have w2 := w_i64 ((k : Int) + 1) (by omega)
    unfold bM
    simp only [XG, L151_9, h151_9, go_sem, seval, bnd_ite, q8, k1, q2, w1, w2]
    first | done | rfl
  case last =>
    intro n hn
    rw [List.length_range]
    have k1 : decide (((i % 8 : Nat) : Int) < ((i % 8 : Nat) : Int)) = false := decide_eq_false (by omega)
    simp only [XG, L151_9, h151_9, go_sem, seval, bnd_ite, q8, k1, Bool.false_eq_true, if_false]
    exact .mk (by simp) ⟨rfl, rfl, rfl, rfl, rfl, rfl, rfl⟩
  simp only [hs0] at this
  exact this
def bitG (s : ByteArray) (st : List Bool × List Bool) (i : Nat) : List Bool × List Bool :=
  if i < 16 then (st.1 ++ [bitAt (s.data.toList.getD (i / 8) 0).toNat (i % 8)], st.2) else (st.1, st.2 ++ [bitAt (s.data.toList.getD (i / 8) 0).toNat (i % 8)])
theorem bitG_all (s : ByteArray) : (List.range 24).foldl (bitG s) ([], []) = (un (s.data.toList.getD 0 0) ++ un (s.data.toList.getD 1 0), un (s.data.toList.getD 2 0)) := rfl
theorem snoc2 (A : List Bool) (d : Bool) : ∃ M, A.map bv = M ∧ M.length = A.length ∧ (∀ g, mapIdL g M = M) ∧ (∀ u, idsL u M = []) ∧ M.take A.length = M ∧ M ++ [AV.bool d] = (A ++ [d]).map bv :=
  ⟨_, rfl, by simp, fun g => mi_map g bv A bv_cool, fun u => is_map u bv A bv_cool, List.take_of_length_le (by simp), by rw [List.map_append]; rfl⟩
theorem e151 (s : ByteArray) : E T 151 [.str s] [] = some (bitsO s, []) := by
  rw [E_eqW t151 (Nat.le_of_ble_eq_true rfl)]
  unfold bitsO
  by_cases h : s.size = 3
  · have d1 : decide ((s.size : Int) = 3) = true := decide_eq_true (by omega)
    rw [if_pos h]
    have hs0 : ((0 : Nat) : Int) = 0 := rfl
    obtain ⟨⟨y, e, m⟩, k1, kx, k2, km⟩ := XL_each (T := T) (b := 0) (hd := H151_5) (x := L151_5) (List.range 24) (bitG s) (fun i st => ⟨[(0, .str s), (2, .ptr 0 0 0), (4, .ptr 1 0 0), (5, .int .i64 (i : Nat))], bM st.1 st.2⟩) (fun i st => st.1.length = min i 16 ∧ st.2.length = i - 16)
      (fun st r => r.1 = .exit 0 ∧ (lookA r.2.env 2 = .ptr 0 0 0 ∧ lookA r.2.env 4 = .ptr 1 0 0) ∧ r.2.mem = bM st.1 st.2) (by
        intro i st j hj hi hI
        obtain ⟨rfl, hi⟩ := rangeAt hj
        obtain ⟨A, B⟩ := st
        obtain ⟨h1, h2⟩ := hI
        simp only at h1 h2
        obtain ⟨c, hc⟩ := at_idx s (j / 8)
        have c255 := c.toNat_lt
        have kk : decide ((j : Int) < 24) = true := decide_eq_true (by omega)
        have q1 : Int.tdiv (j : Int) 8 = ((j / 8 : Nat) : Int) := rfl
        have wq := w_i64 ((j / 8 : Nat) : Int) (by omega)
        have p1 : ((j / 8 : Nat) : Int) < (s.size : Int) := by omega
        have p0 : (0 : Int) ≤ ((j / 8 : Nat) : Int) := by omega
        have wc := w_i64 (c.toNat : Int) (by omega)
        obtain ⟨⟨y, e, m⟩, k1, kx, k2, k3, k4, k5, k6, km⟩ := lp151k s c.toNat j c255 hi A B
        simp only at kx k2 k3 k4 k5 k6 km
        subst kx; subst km
        have w2 := w_i64 ((j : Int) + 1) (by omega)
        have qb : Int.tmod ((c.toNat / 2 ^ (j % 8) : Nat) : Int) 2 = ((c.toNat / 2 ^ (j % 8) % 2 : Nat) : Int) := rfl
        have bb : decide (((c.toNat / 2 ^ (j % 8) % 2 : Nat) : Int) = 1) = bitAt c.toNat (j % 8) := by unfold bitAt; exact decide_eq_decide.2 (by omega)
        unfold bitG
        rw [hc]
        obtain ⟨M, hM, ml, mi, ms, mt, ma⟩ := snoc2 A (bitAt c.toNat (j % 8))
        obtain ⟨N, hN, nl, ni, ns, nt, na⟩ := snoc2 B (bitAt c.toNat (j % 8))
        by_cases h16 : j < 16
        · have d16 : decide ((j : Int) < 16) = true := decide_eq_true (by omega)
          rw [if_pos h16]
          refine ⟨?_, by simp; omega, by simp; omega⟩
          have hap : (A.length + 1) * 1 ≤ 140737488355328 := by omega
          have al : (A ++ [bitAt c.toNat (j % 8)]).length = A.length + 1 := by simp
          simp only [bM, hM, hN] at k1
          simp only [bM, hM, hN, ← ma, al]
          simp only [XG, L151_5, h151_5, h151_9, go_sem, seval, bnd_ite, kk, q1, wq, p0, p1, hc, wc, k1, k2, k3, k4, k5, k6, d16, qb, bb, ml, mi, ms, mt, nl, ni, ns, nt, hap, w2, if_true]
          first | done | rfl
        · have d16 : decide ((j : Int) < 16) = false := decide_eq_false (by omega)
          rw [if_neg h16]
          refine ⟨?_, by simp; omega, by simp; omega⟩
          have hap : (B.length + 1) * 1 ≤ 140737488355328 := by omega
          have al : (B ++ [bitAt c.toNat (j % 8)]).length = B.length + 1 := by simp
          simp only [bM, hM, hN] at k1
          simp only [bM, hM, hN, ← na, al]
          simp only [XG, L151_5, h151_5, h151_9, go_sem, seval, bnd_ite, kk, q1, wq, p0, p1, hc, wc, k1, k2, k3, k4, k5, k6, d16, qb, bb, ml, mi, ms, mt, nl, ni, ns, nt, hap, w2, if_false, Bool.false_eq_true]
          first | done | rfl) (by
        rintro ⟨A, B⟩ hI
        simp only [XG, L151_5, h151_5, go_sem, seval, bnd_ite, List.length_range, Int.lt_irrefl, decide_false]
        exact .mk (by simp) ⟨rfl, ⟨rfl, rfl⟩, rfl⟩) ([], []) ⟨rfl, rfl⟩
    rw [bitG_all] at km
    simp only at kx k2 km
    obtain ⟨k2, k3⟩ := k2
    subst kx; subst km
    unfold bM at k1
    simp only [hs0, List.map_nil, List.length_nil] at k1
    simp only [F151, h151_5, go_sem, seval, bnd_ite, d1, k1, k2, k3, Bool.not_true, Bool.false_eq_true, if_false]
    obtain ⟨c0, h0⟩ := at_idx s 0
    obtain ⟨c1, h1⟩ := at_idx s 1
    obtain ⟨c2, h2⟩ := at_idx s 2
    rw [h0, h1, h2]
    have l0 := un_len c0
    have l1 := un_len c1
    have l2 := un_len c2
    have ms : ∀ u, idsL u ((un c0 ++ un c1).map bv) = [] := fun u => is_map u bv _ bv_cool
    have tk : ((un c0 ++ un c1).map bv).take (8 + 8) = (un c0 ++ un c1).map bv := List.take_of_length_le (by simp [l0, l1])
    have ms2 : ∀ u, idsL u ((un c2).map bv) = [] := fun u => is_map u bv _ bv_cool
    have tk2 : ((un c2).map bv).take 8 = (un c2).map bv := List.take_of_length_le (by simp [l2])
    simp only [l0, l1, l2, tk, ms, tk2, ms2, List.nil_append]
    first | done | rfl
  · have d1 : decide ((s.size : Int) = 3) = false := decide_eq_false (by omega)
    rw [if_neg h]
    simp only [F151, go_sem, seval, bnd_ite, d1, Bool.not_false, if_true]
    first | done | rfl
end Go.Proofs.YtaaajjinpppgeaaGreat

/- Inodes and blocks out of texts. Own work; no condition. -/
set_option linter.unusedVariables false
set_option linter.unusedSimpArgs false
set_option linter.unusedSectionVars false
namespace Go.Proofs.YtaaajjinpppgeaaGreat
open Go Go.Abs
set_option maxRecDepth 100000
theorem at_idx' (s : ByteArray) (i : Nat) : ∃ c, s.data.toList.getD i 0 = c := ⟨_, rfl⟩
def getI (s : ByteArray) (i : Nat) : Int := ((s.data.toList.getD i 0).toNat : Int)
def ino4 (s : ByteArray) : Ino := ⟨getI s 0, getI s 1, [getI s 2, getI s 3]⟩
def inoP (s : ByteArray) : Option Ino := if s.size = 4 ∧ inoOk (ino4 s) = true then some (ino4 s) else none
def inoA (o : Option Ino) : AV := match o with
  | some x => .tup [inoO x, .bool true]
  | none => .tup [.agg [.int .i64 0, .int .i64 0, .own 1 []], .bool false]
theorem e153 (s : ByteArray) : E T 153 [.str s] [] = some (inoA (inoP s), []) := by
  rw [E_eqW t153 (Nat.le_of_ble_eq_true rfl)]
  unfold inoP
  by_cases h : s.size = 4
  · have d1 : decide ((s.size : Int) = 4) = true := decide_eq_true (by omega)
    have n0 : (0 : Int) < (s.size : Int) := by omega
    have n1 : (1 : Int) < (s.size : Int) := by omega
    have n2 : (2 : Int) < (s.size : Int) := by omega
    have n3 : (3 : Int) < (s.size : Int) := by omega
    obtain ⟨c0, h0⟩ := at_idx' s 0
    obtain ⟨c1, h1⟩ := at_idx' s 1
    obtain ⟨c2, h2⟩ := at_idx' s 2
    obtain ⟨c3, h3⟩ := at_idx' s 3
    have hx : ino4 s = ⟨(c0.toNat : Int), (c1.toNat : Int), [(c2.toNat : Int), (c3.toNat : Int)]⟩ := by unfold ino4 getI; rw [h0, h1, h2, h3]
    rw [hx]
    have l0 := c0.toNat_lt
    have l1 := c1.toNat_lt
    have l2 := c2.toNat_lt
    have l3 := c3.toNat_lt
    have w0 := w_i64 (c0.toNat : Int) (by omega)
    have w1 := w_i64 (c1.toNat : Int) (by omega)
    have w2 := w_i64 (c2.toNat : Int) (by omega)
    have w3 := w_i64 (c3.toNat : Int) (by omega)
    have ev := e173 ⟨(c0.toNat : Int), (c1.toNat : Int), [(c2.toNat : Int), (c3.toNat : Int)]⟩ (by show (2 : Nat) ≤ maxLen; decide)
    cases hk : inoOk ⟨(c0.toNat : Int), (c1.toNat : Int), [(c2.toNat : Int), (c3.toNat : Int)]⟩ with
    | true =>
      rw [hk] at ev
      simp only [ino, List.map_cons, List.map_nil, iv] at ev
      rw [if_pos ⟨h, rfl⟩]
      simp only [F153, go_sem, seval, bnd_ite, d1, n0, n1, n2, n3, h0, h1, h2, h3, w0, w1, w2, w3, ev, Bool.not_true, Bool.false_eq_true, if_false]
      first | done | rfl
    | false =>
      rw [hk] at ev
      simp only [ino, List.map_cons, List.map_nil, iv] at ev
      rw [if_neg (by simp)]
      simp only [F153, go_sem, seval, bnd_ite, d1, n0, n1, n2, n3, h0, h1, h2, h3, w0, w1, w2, w3, ev, Bool.not_true, Bool.not_false, Bool.false_eq_true, if_false, if_true]
      first | done | rfl
  · have d1 : decide ((s.size : Int) = 4) = false := decide_eq_false (by omega)
    rw [if_neg (fun hh => h hh.1)]
    simp only [F153, go_sem, seval, bnd_ite, d1, Bool.not_false, if_true]
    first | done | rfl
theorem e226 (s : ByteArray) : E T 226 [.str s] [] = some (inoA (inoP s), []) := by
  rw [E_eqW t226 (Nat.le_of_ble_eq_true rfl)]
  unfold inoP
  by_cases h : s.size = 4
  · have d1 : decide ((s.size : Int) = 4) = true := decide_eq_true (by omega)
    have n0 : (0 : Int) < (s.size : Int) := by omega
    have n1 : (1 : Int) < (s.size : Int) := by omega
    have n2 : (2 : Int) < (s.size : Int) := by omega
    have n3 : (3 : Int) < (s.size : Int) := by omega
    obtain ⟨c0, h0⟩ := at_idx' s 0
    obtain ⟨c1, h1⟩ := at_idx' s 1
    obtain ⟨c2, h2⟩ := at_idx' s 2
    obtain ⟨c3, h3⟩ := at_idx' s 3
    have hx : ino4 s = ⟨(c0.toNat : Int), (c1.toNat : Int), [(c2.toNat : Int), (c3.toNat : Int)]⟩ := by unfold ino4 getI; rw [h0, h1, h2, h3]
    rw [hx]
    have l0 := c0.toNat_lt
    have l1 := c1.toNat_lt
    have l2 := c2.toNat_lt
    have l3 := c3.toNat_lt
    have w0 := w_i64 (c0.toNat : Int) (by omega)
    have w1 := w_i64 (c1.toNat : Int) (by omega)
    have w2 := w_i64 (c2.toNat : Int) (by omega)
    have w3 := w_i64 (c3.toNat : Int) (by omega)
    have ev := e180 ⟨(c0.toNat : Int), (c1.toNat : Int), [(c2.toNat : Int), (c3.toNat : Int)]⟩ (by show (2 : Nat) ≤ maxLen; decide)
    simp only [ino, List.map_cons, List.map_nil, iv] at ev
    have v1 := w_i64 1 (by omega)
    have v2 := w_i64 2 (by omega)
    have v3 := w_i64 3 (by omega)
    have s1 : XG T 0 H226_5 L226_5 ⟨[(0, .str s), (2, .ptr 0 0 0), (4, .ptr 1 0 0), (17, .int .i64 0)], [some (3, [.agg [.int .i64 0, .int .i64 0, .nil]]), some (3, [.agg [.int .i64 c0.toNat, .int .i64 c1.toNat, .sl 2 0 0]]), some (1, [])]⟩ =
        some (.normal, ⟨[(0, .str s), (2, .ptr 0 0 0), (4, .ptr 1 0 0), (17, .int .i64 1)], [some (3, [.agg [.int .i64 0, .int .i64 0, .nil]]), some (3, [.agg [.int .i64 c0.toNat, .int .i64 c1.toNat, .sl 2 0 1]]), some (1, [.int .i64 c2.toNat])]⟩) := by
      simp only [XG, L226_5, h226_5, go_sem, seval, bnd_ite, v1, v2, v3, n2, h2, w2]
      first | done | rfl
    have s2 : XG T 0 H226_5 L226_5 ⟨[(0, .str s), (2, .ptr 0 0 0), (4, .ptr 1 0 0), (17, .int .i64 1)], [some (3, [.agg [.int .i64 0, .int .i64 0, .nil]]), some (3, [.agg [.int .i64 c0.toNat, .int .i64 c1.toNat, .sl 2 0 1]]), some (1, [.int .i64 c2.toNat])]⟩ =
        some (.normal, ⟨[(0, .str s), (2, .ptr 0 0 0), (4, .ptr 1 0 0), (17, .int .i64 2)], [some (3, [.agg [.int .i64 0, .int .i64 0, .nil]]), some (3, [.agg [.int .i64 c0.toNat, .int .i64 c1.toNat, .sl 2 0 2]]), some (1, [.int .i64 c2.toNat, .int .i64 c3.toNat])]⟩) := by
      simp only [XG, L226_5, h226_5, go_sem, seval, bnd_ite, v1, v2, v3, n3, h3, w3]
      first | done | rfl
    obtain ⟨⟨y, e, m⟩, k1, kx, k2, k4, km⟩ : ∃ r, XL T 0 H226_5 L226_5 ⟨[(0, .str s), (2, .ptr 0 0 0), (4, .ptr 1 0 0), (17, .int .i64 2)], [some (3, [.agg [.int .i64 0, .int .i64 0, .nil]]), some (3, [.agg [.int .i64 c0.toNat, .int .i64 c1.toNat, .sl 2 0 2]]), some (1, [.int .i64 c2.toNat, .int .i64 c3.toNat])]⟩ = some r ∧
        r.1 = .exit 0 ∧ lookA r.2.env 2 = .ptr 0 0 0 ∧ lookA r.2.env 4 = .ptr 1 0 0 ∧ r.2.mem = [some (3, [.agg [.int .i64 0, .int .i64 0, .nil]]), some (3, [.agg [.int .i64 c0.toNat, .int .i64 c1.toNat, .sl 2 0 2]]), some (1, [.int .i64 c2.toNat, .int .i64 c3.toNat])] := by
      refine stop_out ?_
      simp only [XG, L226_5, h226_5, go_sem, seval, bnd_ite]
      exact .mk (by simp) ⟨rfl, rfl, rfl, rfl⟩
    simp only at kx k2 k4 km
    subst kx; subst km
    have key := (XL_nx s1).trans ((XL_nx s2).trans k1)
    cases hk : inoOk ⟨(c0.toNat : Int), (c1.toNat : Int), [(c2.toNat : Int), (c3.toNat : Int)]⟩ with
    | true =>
      rw [hk] at ev
      rw [if_pos ⟨h, rfl⟩]
      simp only [F226, h226_5, go_sem, seval, bnd_ite, d1, n0, n1, h0, h1, w0, w1, key, k2, k4, ev, Bool.not_true, Bool.false_eq_true, if_false]
      first | done | rfl
    | false =>
      rw [hk] at ev
      rw [if_neg (by simp)]
      simp only [F226, h226_5, go_sem, seval, bnd_ite, d1, n0, n1, h0, h1, w0, w1, key, k2, k4, ev, Bool.not_true, Bool.not_false, Bool.false_eq_true, if_false, if_true]
      first | done | rfl
  · have d1 : decide ((s.size : Int) = 4) = false := decide_eq_false (by omega)
    rw [if_neg (fun hh => h hh.1)]
    simp only [F226, go_sem, seval, bnd_ite, d1, Bool.not_false, if_true]
    first | done | rfl
def inoD (s : ByteArray) : Ino := (inoP s).getD ⟨0, 0, [0, 0]⟩
theorem e158 (s : ByteArray) : E T 158 [.str s] [] = some (inoO (inoD s), []) := by
  rw [E_eqW t158 (Nat.le_of_ble_eq_true rfl)]
  have e1 := e226 s
  unfold inoD
  cases hp : inoP s with
  | none =>
    rw [hp] at e1
    unfold inoA at e1
    simp only [F158, go_sem, seval, bnd_ite, e1, e87, Bool.not_false, if_true]
    first | done | rfl
  | some x =>
    rw [hp] at e1
    have hx : x.ptrs = [getI s 2, getI s 3] := by
      unfold inoP at hp
      split at hp
      · cases hp; rfl
      · cases hp
    unfold inoA at e1
    simp only [inoO, hx, List.map_cons, List.map_nil, iv] at e1
    simp only [F158, go_sem, seval, bnd_ite, e1, Bool.not_true, Bool.false_eq_true, if_false]
    show _ = some (inoO x, [])
    simp only [inoO, hx, List.map_cons, List.map_nil, iv]
    first | done | rfl
theorem e227 : E T 227 [] [] = some (.agg [.bool true, .own 2 [.agg [.str ⟨#[]⟩, .int .i64 0], .agg [.str ⟨#[]⟩, .int .i64 0], .agg [.str ⟨#[]⟩, .int .i64 0], .agg [.str ⟨#[]⟩, .int .i64 0]], .str ⟨#[]⟩], []) := by
  rw [E_eq t227 (Nat.le_of_ble_eq_true rfl)]
  simp only [F227, go_sem, seval, bnd_ite]
  first | done | rfl
/-- The slots that stand in a text, one behind the other. -/
def slGo (s : ByteArray) : Nat → Nat → List Slt → Option (List Slt)
  | 0, _, acc => some acc
  | m + 1, a, acc => match rs s ((a : Int) + 1) with
    | some (nm, nx) => slGo s m nx (acc ++ [⟨nm, getI s a⟩])
    | none => none
theorem slGo_len (s : ByteArray) : ∀ (m a : Nat) (acc l : List Slt), slGo s m a acc = some l → l.length = acc.length + m
  | 0, a, acc, l, h => by cases h; rfl
  | m + 1, a, acc, l, h => by
    unfold slGo at h
    split at h
    · have := slGo_len s m _ _ l h
      rw [List.length_append, List.length_singleton] at this; omega
    · cases h
def blkR (s : ByteArray) : Option Blk := if s.size = 0 then none else if getI s 0 = 100 then (slGo s 4 1 []).map (fun l => ⟨true, l, ⟨#[]⟩⟩) else some ⟨false, [], s.extract 1 s.size⟩
def blkP (s : ByteArray) : Option Blk := match blkR s with
  | some b => if blkOk b = true ∧ blkT b = s then some b else none
  | none => none
def blkA (o : Option Blk) : AV := match o with
  | some x => .tup [blkO x, .bool true]
  | none => .tup [.agg [.bool false, .own 2 [], .str ⟨#[]⟩], .bool false]
theorem rs_lt {s : ByteArray} {a : Int} {nm : ByteArray} {nx : Nat} (h : rs s a = some (nm, nx)) : nx ≤ s.size ∧ a < nx ∧ 0 ≤ a ∧ nm.size ≤ s.size := by
  have hn := ba_len s
  unfold rs at h
  split at h
  · rename_i n b hr
    have := rv_lt hr
    simp only at this
    split at h
    · cases h
    · cases h
      refine ⟨by omega, by omega, by omega, ?_⟩
      rw [ByteArray.size_extract]; omega
  · cases h
theorem snocS (A : List Slt) (d : Slt) : ∃ M, A.map slt = M ∧ M.length = A.length ∧ (∀ g, mapIdL g M = M) ∧ (∀ u, idsL u M = []) ∧ M.take A.length = M ∧ M ++ [AV.agg [.str d.name, .int .i64 d.ino]] = (A ++ [d]).map slt :=
  ⟨_, rfl, by simp, fun g => slt_mi g A, fun u => slt_is u A, List.take_of_length_le (by simp), by rw [List.map_append]; rfl⟩
def xM (l : List Slt) : Mem := [some (3, [.agg [.bool false, .nil, .str ⟨#[]⟩]]), some (3, [.agg [.bool true, .sl 2 0 l.length, .str ⟨#[]⟩]]), some (2, l.map slt)]
def slQ (s : ByteArray) (o : Option (List Slt)) (r : AX × St) : Prop := lookA r.2.env 2 = .ptr 0 0 0 ∧ match o with
  | some l => r.1 = .exit 0 ∧ lookA r.2.env 0 = .str s ∧ lookA r.2.env 4 = .ptr 1 0 0 ∧ r.2.mem = xM l ∧ ∀ x ∈ l, x.name.size ≤ s.size
  | none => ∃ l, r.2.mem = xM l ∧ (∀ x ∈ l, x.name.size ≤ s.size) ∧ ((r.1 = .ret ∧ lookA r.2.env 3 = .bool false) ∨ (r.1 = .exit 0 ∧ l.length < 4 ∧ lookA r.2.env 0 = .str s ∧ lookA r.2.env 4 = .ptr 1 0 0))
theorem lp154 (s : ByteArray) (hs : s.size ≤ 1048576) : ∀ (m a i : Nat) (acc : List Slt), m + i = 4 → acc.length = i → a ≤ s.size → (∀ x ∈ acc, x.name.size ≤ s.size) →
    ∃ r, XL T 0 H154_8 L154_8 ⟨[(0, .str s), (2, .ptr 0 0 0), (4, .ptr 1 0 0), (5, .int .i64 (a : Nat)), (6, .int .i64 (i : Nat))], xM acc⟩ = some r ∧ slQ s (slGo s m a acc) r := by
  intro m
  induction m with
  | zero =>
    intro a i acc hi hl ha hx
    obtain rfl : i = 4 := by omega
    have s4 : ((4 : Nat) : Int) = 4 := rfl
    refine stop_out ?_
    simp only [XG, L154_8, h154_8, go_sem, seval, bnd_ite, s4, Int.lt_irrefl, decide_false]
    exact .mk (by simp) ⟨rfl, rfl, rfl, rfl, rfl, hx⟩
  | succ m ih =>
    intro a i acc hi hl ha hx
    have k4 : decide ((i : Int) < 4) = true := decide_eq_true (by omega)
    have wa := w_i64 ((a : Int) + 1) (by omega)
    have wi := w_i64 ((i : Int) + 1) (by omega)
    have ev := e222 s hs ((a : Int) + 1)
    unfold slGo
    by_cases hlen : a < s.size
    · have k1 : decide ((a : Int) < (s.size : Int)) = true := decide_eq_true (by omega)
      cases ho : rs s ((a : Int) + 1) with
      | none =>
        rw [ho] at ev
        unfold rsA at ev
        simp only
        refine stop_out ?_
        unfold xM
        simp only [XG, L154_8, h154_8, go_sem, seval, bnd_ite, k4, k1, wa, ev, Bool.not_false, if_true]
        exact .mk (by simp) ⟨rfl, acc, rfl, hx, .inl ⟨rfl, rfl⟩⟩
      | some x =>
        obtain ⟨nm, nx⟩ := x
        rw [ho] at ev
        unfold rsA at ev
        obtain ⟨r1, r2, r3, r4⟩ := rs_lt ho
        obtain ⟨c, hc⟩ := at_idx' s a
        have c255 := c.toNat_lt
        have wc := w_i64 (c.toNat : Int) (by omega)
        have gi : getI s a = (c.toNat : Int) := by unfold getI; rw [hc]
        have k1' : (a : Int) < (s.size : Int) := by omega
        have a0 : (0 : Int) ≤ (a : Int) := by omega
        have xa : ((a : Nat) : Int).toNat = a := rfl
        obtain ⟨r, e1, e2⟩ := ih nx (i + 1) (acc ++ [⟨nm, getI s a⟩]) (by omega) (by simp [hl]) r1 (by
          intro y hy
          rcases List.mem_append.1 hy with hy | hy
          · exact hx y hy
          · rw [List.mem_singleton.1 hy]; exact r4)
        refine ⟨r, ?_, e2⟩
        rw [← e1]
        refine XL_nx ?_
        obtain ⟨M, hM, ml, mi, ms, mt, ma⟩ := snocS acc ⟨nm, getI s a⟩
        simp only [gi] at ma
        have hap : (acc.length + 1) * 24 ≤ 140737488355328 := by omega
        have al : (acc ++ [(⟨nm, (c.toNat : Int)⟩ : Slt)]).length = acc.length + 1 := by simp
        unfold xM
        rw [gi]
        simp only [hM, ← ma, al]
        simp only [XG, L154_8, h154_8, go_sem, seval, bnd_ite, k4, k1, k1', a0, xa, wa, ev, hc, wc, wi, ml, mi, ms, mt, hap, Bool.not_true, Bool.false_eq_true, if_false, if_true]
        first | done | rfl
    · have k1 : decide ((a : Int) < (s.size : Int)) = false := decide_eq_false (by omega)
      have ho : rs s ((a : Int) + 1) = none := by
        cases ho : rs s ((a : Int) + 1) with
        | none => rfl
        | some x => have := rs_lt (nm := x.1) (nx := x.2) ho; omega
      rw [ho]
      simp only
      refine stop_out ?_
      unfold xM
      simp only [XG, L154_8, h154_8, go_sem, seval, bnd_ite, k4, k1, Bool.false_eq_true, if_false]
      exact .mk (by simp) ⟨rfl, acc, rfl, hx, .inr ⟨rfl, by omega, rfl, rfl⟩⟩
theorem e154 (s : ByteArray) (hs : s.size ≤ 1048576) : E T 154 [.str s] [] = some (blkA (blkP s), []) := by
  rw [E_eqW t154 (Nat.le_of_ble_eq_true rfl)]
  have hn := ba_len s
  unfold blkP blkR
  have hE : (⟨#[]⟩ : ByteArray).size = 0 := rfl
  have emp : decide (s = ⟨#[]⟩) = decide (s.size = 0) := by
    refine decide_eq_decide.2 ⟨fun h => by rw [h]; rfl, fun h => ?_⟩
    apply ByteArray.ext
    exact Array.eq_empty_of_size_eq_zero h
  by_cases h0 : s.size = 0
  · have d1 : decide (s = ⟨#[]⟩) = true := by rw [emp]; exact decide_eq_true h0
    rw [if_pos h0]
    simp only [F154, go_sem, seval, bnd_ite, d1, if_true]
    first | done | rfl
  · have d1 : decide (s = ⟨#[]⟩) = false := by rw [emp]; exact decide_eq_false h0
    have n0 : (0 : Int) < (s.size : Int) := by omega
    have n1 : (1 : Int) ≤ (s.size : Int) := by omega
    have wz := w_i64 (s.size : Int) (by omega)
    obtain ⟨c, hc⟩ := at_idx' s 0
    have gi : getI s 0 = (c.toNat : Int) := by unfold getI; rw [hc]
    rw [if_neg h0, gi]
    -- what comes behind
    have hxt : (s.extract 1 s.size).size ≤ maxLen := by rw [ByteArray.size_extract]; unfold maxLen; omega
    by_cases hd : (c.toNat : Int) = 100
    · have d2 : decide ((c.toNat : Int) = 100) = true := decide_eq_true hd
      rw [if_pos hd]
      obtain ⟨⟨y, e, m⟩, k1, k2, k3⟩ := lp154 s hs 4 1 0 [] rfl rfl (by omega) (by simp)
      unfold xM at k1
      have hs0 : ((0 : Nat) : Int) = 0 := rfl
      have hs1 : ((1 : Nat) : Int) = 1 := rfl
      simp only [hs0, hs1, List.map_nil, List.length_nil] at k1
      replace k2 : lookA e 2 = _ := k2
      have fin : ∀ l : List Slt, (∀ x ∈ l, x.name.size ≤ s.size) → l.length ≤ 4 → y = .exit 0 → lookA e 0 = .str s → lookA e 4 = .ptr 1 0 0 → m = xM l → slGo s 4 1 [] = some l ∨ l.length < 4 →
          (slGo s 4 1 [] = none → l.length < 4) → E T 154 [.str s] [] = some (blkA (if blkOk ⟨true, l, ⟨#[]⟩⟩ = true ∧ blkT ⟨true, l, ⟨#[]⟩⟩ = s then some ⟨true, l, ⟨#[]⟩⟩ else none), []) := by
        intro l hx hl4 hy k4 k5 km _ _
        subst hy; subst km
        rw [E_eqW t154 (Nat.le_of_ble_eq_true rfl)]
        have ev := e223 ⟨true, l, ⟨#[]⟩⟩ ⟨by unfold maxLen; show l.length ≤ _; omega, (by show (0 : Nat) ≤ maxLen; decide), fun x hxx => by have := hx x hxx; unfold Slt.ok maxLen; omega⟩
        unfold blk at ev
        have ms := fun u => slt_is u l
        have tk : (l.map slt).take l.length = l.map slt := List.take_of_length_le (by simp)
        unfold xM at k1
        cases hok : blkOk ⟨true, l, ⟨#[]⟩⟩ with
        | false =>
          rw [hok] at ev
          simp only [Bool.false_eq_true, if_false] at ev
          rw [if_neg (by simp)]
          simp only [F154, h154_8, go_sem, seval, bnd_ite, d1, d2, n0, n1, hc, wz, k1, k2, k4, k5, ms, tk, ev, Bool.not_false, Bool.not_true, if_true, Bool.false_eq_true, if_false]
          first | done | rfl
        | true =>
          rw [hok] at ev
          simp only [if_true] at ev
          by_cases hT : blkT ⟨true, l, ⟨#[]⟩⟩ = s
          · have d3 : decide (blkT ⟨true, l, ⟨#[]⟩⟩ = s) = true := decide_eq_true hT
            rw [if_pos ⟨rfl, hT⟩]
            simp only [F154, h154_8, go_sem, seval, bnd_ite, d1, d2, d3, n0, n1, hc, wz, k1, k2, k4, k5, ms, tk, ev, Bool.not_true, Bool.false_eq_true, if_false, if_true]
            first | done | rfl
          · have d3 : decide (blkT ⟨true, l, ⟨#[]⟩⟩ = s) = false := decide_eq_false hT
            rw [if_neg (fun hh => hT hh.2)]
            simp only [F154, h154_8, go_sem, seval, bnd_ite, d1, d2, d3, n0, n1, hc, wz, k1, k2, k4, k5, ms, tk, ev, Bool.not_true, Bool.not_false, Bool.false_eq_true, if_false, if_true]
            first | done | rfl
      rw [E_eqW t154 (Nat.le_of_ble_eq_true rfl)] at fin
      cases ho : slGo s 4 1 [] with
      | some l =>
        rw [ho] at k3 fin
        obtain ⟨k3, k4, k5, k6, k7⟩ := k3
        simp only [Option.map_some]
        have hl4 : l.length = 4 := by have := slGo_len s 4 1 [] l ho; simpa using this
        exact fin l k7 (by omega) k3 k4 k5 k6 (.inl rfl) (fun h => by cases h)
      | none =>
        rw [ho] at k3 fin
        simp only [Option.map_none]
        obtain ⟨l, km, hx, ⟨k3, k4⟩ | ⟨k3, hl4, k4, k5⟩⟩ := k3
        · obtain rfl : y = .ret := k3
          obtain rfl : m = xM l := km
          replace k4 : lookA e 3 = _ := k4
          unfold xM at k1
          simp only [F154, h154_8, go_sem, seval, bnd_ite, d1, d2, n0, n1, hc, wz, k1, k2, k4, if_true, Bool.false_eq_true, if_false]
          first | done | rfl
        · have := fin l hx (by omega) k3 k4 k5 km (.inr hl4) (fun _ => hl4)
          rw [this]
          have hb : blkOk ⟨true, l, ⟨#[]⟩⟩ = false := by
            unfold blkOk
            simp only [if_true, Bool.and_eq_false_iff, decide_eq_false_iff_not]
            exact .inr (.inl (by omega))
          rw [hb, if_neg (by simp)]
    · have d2 : decide ((c.toNat : Int) = 100) = false := decide_eq_false hd
      rw [if_neg hd]
      have ev := e223 ⟨false, [], s.extract 1 s.size⟩ ⟨(by show (0 : Nat) ≤ maxLen; decide), hxt, by simp⟩
      unfold blk at ev
      simp only [List.map_nil] at ev
      have x1 : (1 : Int).toNat = 1 := rfl
      cases hok : blkOk ⟨false, [], s.extract 1 s.size⟩ with
      | false =>
        rw [hok] at ev
        simp only [Bool.false_eq_true, if_false] at ev
        simp only [hok]
        rw [if_neg (by simp)]
        simp only [F154, go_sem, seval, bnd_ite, d1, d2, n0, n1, x1, hc, wz, ev, Bool.not_false, if_true, Bool.false_eq_true, if_false]
        first | done | rfl
      | true =>
        rw [hok] at ev
        simp only [if_true] at ev
        simp only [hok]
        by_cases hT : blkT ⟨false, [], s.extract 1 s.size⟩ = s
        · have d3 : decide (blkT ⟨false, [], s.extract 1 s.size⟩ = s) = true := decide_eq_true hT
          rw [if_pos ⟨trivial, hT⟩]
          simp only [F154, go_sem, seval, bnd_ite, d1, d2, d3, n0, n1, x1, hc, wz, ev, Bool.not_true, Bool.false_eq_true, if_false]
          first | done | rfl
        · have d3 : decide (blkT ⟨false, [], s.extract 1 s.size⟩ = s) = false := decide_eq_false hT
          rw [if_neg (fun hh => hT hh.2)]
          simp only [F154, go_sem, seval, bnd_ite, d1, d2, d3, n0, n1, x1, hc, wz, ev, Bool.not_true, Bool.not_false, Bool.false_eq_true, if_false, if_true]
          first | done | rfl
def pad (l : List Slt) : List Slt := l ++ List.replicate (4 - l.length) ⟨⟨#[]⟩, 0⟩
theorem pad_len (l : List Slt) (h : l.length ≤ 4) : (pad l).length = 4 := by unfold pad; simp; omega
theorem pad_all (l : List Slt) (h : l.length = 4) : pad l = l := by unfold pad; rw [h]; simp
theorem pad_set (l : List Slt) (x : Slt) (h : l.length < 4) : (pad l).set l.length x = pad (l ++ [x]) := by
  unfold pad
  rw [List.set_append_right _ _ (Nat.le_refl _), Nat.sub_self, List.append_assoc]
  congr 1
  rw [show 4 - l.length = (4 - (l ++ [x]).length) + 1 by simp; omega, List.replicate_succ]
  rfl
theorem pad_at (l : List Slt) (h : l.length < 4) : (pad l)[l.length]? = some ⟨⟨#[]⟩, 0⟩ := by
  unfold pad
  rw [List.getElem?_append_right (Nat.le_refl _), Nat.sub_self, List.getElem?_replicate, if_pos (by omega)]
def yM (l : List Slt) : Mem := [some (3, [.agg [.bool false, .nil, .str ⟨#[]⟩]]), some (3, [.agg [.bool true, .sl 2 0 4, .str ⟨#[]⟩]]), some (2, (pad l).map slt)]
def slY (s : ByteArray) (o : Option (List Slt)) (r : AX × St) : Prop := lookA r.2.env 2 = .ptr 0 0 0 ∧ match o with
  | some l => r.1 = .exit 0 ∧ lookA r.2.env 0 = .str s ∧ lookA r.2.env 4 = .ptr 1 0 0 ∧ r.2.mem = yM l ∧ ∀ x ∈ l, x.name.size ≤ s.size
  | none => ∃ l, r.2.mem = yM l ∧ r.1 = .ret ∧ lookA r.2.env 3 = .bool false
theorem lp159 (s : ByteArray) (hs : s.size ≤ 1048576) : ∀ (m a : Nat) (acc : List Slt), m + acc.length = 4 → a ≤ s.size → (∀ x ∈ acc, x.name.size ≤ s.size) →
    ∃ r, XL T 0 H159_8 L159_8 ⟨[(0, .str s), (2, .ptr 0 0 0), (4, .ptr 1 0 0), (5, .int .i64 (a : Nat)), (24, .int .i64 4), (25, .int .i64 (acc.length : Nat))], yM acc⟩ = some r ∧ slY s (slGo s m a acc) r := by
  intro m
  induction m with
  | zero =>
    intro a acc hl ha hx
    have hl : acc.length = 4 := by omega
    have s4 : ((4 : Nat) : Int) = 4 := rfl
    refine stop_out ?_
    rw [hl]
    simp only [XG, L159_8, h159_8, go_sem, seval, bnd_ite, s4, Int.lt_irrefl, decide_false]
    exact .mk (by simp) ⟨rfl, rfl, rfl, rfl, rfl, hx⟩
  | succ m ih =>
    intro a acc hl ha hx
    have k4 : decide (((acc.length : Nat) : Int) < 4) = true := decide_eq_true (by omega)
    have wa := w_i64 ((a : Int) + 1) (by omega)
    have wi := w_i64 (((acc.length : Nat) : Int) + 1) (by omega)
    have ev := e228 s hs ((a : Int) + 1)
    unfold slGo
    cases ho : rs s ((a : Int) + 1) with
    | none =>
      rw [ho] at ev
      unfold rsA at ev
      simp only
      refine stop_out ?_
      unfold yM
      simp only [XG, L159_8, h159_8, go_sem, seval, bnd_ite, k4, wa, ev, Bool.not_false, if_true]
      exact .mk (by simp) ⟨rfl, acc, rfl, rfl, rfl⟩
    | some x =>
      obtain ⟨nm, nx⟩ := x
      rw [ho] at ev
      unfold rsA at ev
      obtain ⟨r1, r2, r3, r4⟩ := rs_lt ho
      obtain ⟨c, hc⟩ := at_idx' s a
      have c255 := c.toNat_lt
      have wc := w_i64 (c.toNat : Int) (by omega)
      have gi : getI s a = (c.toNat : Int) := by unfold getI; rw [hc]
      have k1' : (a : Int) < (s.size : Int) := by omega
      have a0 : (0 : Int) ≤ (a : Int) := by omega
      have xa : ((a : Nat) : Int).toNat = a := rfl
      obtain ⟨r, e1, e2⟩ := ih nx (acc ++ [⟨nm, getI s a⟩]) (by simp; omega) r1 (by
        intro y hy
        rcases List.mem_append.1 hy with hy | hy
        · exact hx y hy
        · rw [List.mem_singleton.1 hy]; exact r4)
      refine ⟨r, ?_, e2⟩
      rw [← e1]
      refine XL_nx ?_
      have al : (acc ++ [(⟨nm, (c.toNat : Int)⟩ : Slt)]).length = acc.length + 1 := by simp
      have p1 := pad_len acc (by omega)
      have p2 := pad_set acc ⟨nm, (c.toNat : Int)⟩ (by omega)
      have p3 := pad_at acc (by omega)
      obtain ⟨R, hR⟩ : ∃ R, (pad acc).map slt = R := ⟨_, rfl⟩
      have gR : R.getD acc.length .undef = .agg [.str ⟨#[]⟩, .int .i64 0] := by rw [← hR]; exact gD_map p3
      have ml : R.length = 4 := by rw [← hR]; simp [p1]
      have mi : ∀ g, mapIdL g R = R := fun g => by rw [← hR]; exact slt_mi g _
      have ms : ∀ u, idsL u R = [] := fun u => by rw [← hR]; exact slt_is u _
      have mset : R.set acc.length (.agg [.str nm, .int .i64 (c.toNat : Int)]) = (pad (acc ++ [⟨nm, (c.toNat : Int)⟩])).map slt := by rw [← hR, ← p2, List.map_set]; rfl
      have si : ∀ g, mapIdL g ((pad (acc ++ [⟨nm, (c.toNat : Int)⟩])).map slt) = (pad (acc ++ [⟨nm, (c.toNat : Int)⟩])).map slt := fun g => slt_mi g _
      have ss : ∀ u, idsL u ((pad (acc ++ [⟨nm, (c.toNat : Int)⟩])).map slt) = [] := fun u => slt_is u _
      have i0 : (0 : Int) ≤ ((acc.length : Nat) : Int) := by omega
      have i4 : ((acc.length : Nat) : Int) < 4 := by omega
      have i4n : acc.length < 4 := by omega
      have xi : (((acc.length : Nat) : Int)).toNat = acc.length := rfl
      unfold yM
      rw [gi]
      simp only [hR, al]
      simp only [XG, L159_8, h159_8, go_sem, seval, bnd_ite, k4, k1', a0, xa, wa, ev, hc, wc, wi, gR, ml, mi, ms, mset, si, ss, i0, i4, i4n, xi, Bool.not_true, Bool.false_eq_true, if_false, if_true]
      first | done | rfl
theorem e159 (s : ByteArray) (hs : s.size ≤ 1048576) : E T 159 [.str s] [] = some (blkA (blkP s), []) := by
  rw [E_eqW t159 (Nat.le_of_ble_eq_true rfl)]
  have hn := ba_len s
  unfold blkP blkR
  have hE : (⟨#[]⟩ : ByteArray).size = 0 := rfl
  have emp : decide (s = ⟨#[]⟩) = decide (s.size = 0) := by
    refine decide_eq_decide.2 ⟨fun h => by rw [h]; rfl, fun h => ?_⟩
    apply ByteArray.ext
    exact Array.eq_empty_of_size_eq_zero h
  by_cases h0 : s.size = 0
  · have d1 : decide (s = ⟨#[]⟩) = true := by rw [emp]; exact decide_eq_true h0
    rw [if_pos h0]
    simp only [F159, go_sem, seval, bnd_ite, d1, if_true]
    first | done | rfl
  · have d1 : decide (s = ⟨#[]⟩) = false := by rw [emp]; exact decide_eq_false h0
    have n0 : (0 : Int) < (s.size : Int) := by omega
    have n1 : (1 : Int) ≤ (s.size : Int) := by omega
    have wz := w_i64 (s.size : Int) (by omega)
    obtain ⟨c, hc⟩ := at_idx' s 0
    have gi : getI s 0 = (c.toNat : Int) := by unfold getI; rw [hc]
    rw [if_neg h0, gi]
    -- what comes behind
    have hxt : (s.extract 1 s.size).size ≤ maxLen := by rw [ByteArray.size_extract]; unfold maxLen; omega
    by_cases hd : (c.toNat : Int) = 100
    · have d2 : decide ((c.toNat : Int) = 100) = true := decide_eq_true hd
      rw [if_pos hd]
      obtain ⟨⟨y, e, m⟩, k1, k2, k3⟩ := lp159 s hs 4 1 [] rfl (by omega) (by simp)
      have hp0 : (pad []).map slt = [.agg [.str ⟨#[]⟩, .int .i64 0], .agg [.str ⟨#[]⟩, .int .i64 0], .agg [.str ⟨#[]⟩, .int .i64 0], .agg [.str ⟨#[]⟩, .int .i64 0]] := rfl
      unfold yM at k1
      have hs0 : ((0 : Nat) : Int) = 0 := rfl
      have hs1 : ((1 : Nat) : Int) = 1 := rfl
      simp only [hp0, hs0, hs1, List.length_nil] at k1
      replace k2 : lookA e 2 = _ := k2
      cases ho : slGo s 4 1 [] with
      | some l =>
        rw [ho] at k3
        obtain ⟨k3, k4, k5, km, hx⟩ := k3
        have hl4 : l.length = 4 := by have := slGo_len s 4 1 [] l ho; simpa using this
        have hpl := pad_all l hl4
        obtain rfl : y = .exit 0 := k3
        obtain rfl : m = yM l := km
        replace k4 : lookA e 0 = _ := k4
        replace k5 : lookA e 4 = _ := k5
        simp only [Option.map_some]
        have ev := e229 ⟨true, l, ⟨#[]⟩⟩ ⟨by unfold maxLen; show l.length ≤ _; omega, (by show (0 : Nat) ≤ maxLen; decide), fun x hxx => by have := hx x hxx; unfold Slt.ok maxLen; omega⟩
        unfold blk at ev
        have ms := fun u => slt_is u l
        have tk : (l.map slt).take 4 = l.map slt := List.take_of_length_le (by simp [hl4])
        unfold yM at k1
        rw [hpl] at k1
        cases hok : blkOk ⟨true, l, ⟨#[]⟩⟩ with
        | false =>
          rw [hok] at ev
          simp only [Bool.false_eq_true, if_false] at ev
          rw [if_neg (by simp)]
          simp only [F159, h159_8, go_sem, seval, bnd_ite, e227, d1, d2, n0, n1, hc, wz, k1, k2, k4, k5, hl4, ms, tk, ev, Bool.not_false, Bool.not_true, if_true, Bool.false_eq_true, if_false]
          first | done | rfl
        | true =>
          rw [hok] at ev
          simp only [if_true] at ev
          by_cases hT : blkT ⟨true, l, ⟨#[]⟩⟩ = s
          · have d3 : decide (blkT ⟨true, l, ⟨#[]⟩⟩ = s) = true := decide_eq_true hT
            rw [if_pos ⟨rfl, hT⟩]
            simp only [F159, h159_8, go_sem, seval, bnd_ite, e227, d1, d2, d3, n0, n1, hc, wz, k1, k2, k4, k5, hl4, ms, tk, ev, Bool.not_true, Bool.false_eq_true, if_false, if_true]
            first | done | rfl
          · have d3 : decide (blkT ⟨true, l, ⟨#[]⟩⟩ = s) = false := decide_eq_false hT
            rw [if_neg (fun hh => hT hh.2)]
            simp only [F159, h159_8, go_sem, seval, bnd_ite, e227, d1, d2, d3, n0, n1, hc, wz, k1, k2, k4, k5, hl4, ms, tk, ev, Bool.not_true, Bool.not_false, Bool.false_eq_true, if_false, if_true]
            first | done | rfl
      | none =>
        rw [ho] at k3
        simp only [Option.map_none]
        obtain ⟨l, km, k3, k4⟩ := k3
        obtain rfl : y = .ret := k3
        obtain rfl : m = yM l := km
        replace k4 : lookA e 3 = _ := k4
        unfold yM at k1
        simp only [F159, h159_8, go_sem, seval, bnd_ite, e227, d1, d2, n0, n1, hc, wz, k1, k2, k4, if_true, Bool.false_eq_true, if_false]
        first | done | rfl
    · have d2 : decide ((c.toNat : Int) = 100) = false := decide_eq_false hd
      rw [if_neg hd]
      have ev := e229 ⟨false, [], s.extract 1 s.size⟩ ⟨(by show (0 : Nat) ≤ maxLen; decide), hxt, by simp⟩
      unfold blk at ev
      simp only [List.map_nil] at ev
      have x1 : (1 : Int).toNat = 1 := rfl
      cases hok : blkOk ⟨false, [], s.extract 1 s.size⟩ with
      | false =>
        rw [hok] at ev
        simp only [Bool.false_eq_true, if_false] at ev
        simp only [hok]
        rw [if_neg (by simp)]
        simp only [F159, go_sem, seval, bnd_ite, d1, d2, n0, n1, x1, hc, wz, ev, Bool.not_false, if_true, Bool.false_eq_true, if_false]
        first | done | rfl
      | true =>
        rw [hok] at ev
        simp only [if_true] at ev
        simp only [hok]
        by_cases hT : blkT ⟨false, [], s.extract 1 s.size⟩ = s
        · have d3 : decide (blkT ⟨false, [], s.extract 1 s.size⟩ = s) = true := decide_eq_true hT
          rw [if_pos ⟨trivial, hT⟩]
          simp only [F159, go_sem, seval, bnd_ite, d1, d2, d3, n0, n1, x1, hc, wz, ev, Bool.not_true, Bool.false_eq_true, if_false]
          first | done | rfl
        · have d3 : decide (blkT ⟨false, [], s.extract 1 s.size⟩ = s) = false := decide_eq_false hT
          rw [if_neg (fun hh => hT hh.2)]
          simp only [F159, go_sem, seval, bnd_ite, d1, d2, d3, n0, n1, x1, hc, wz, ev, Bool.not_true, Bool.not_false, Bool.false_eq_true, if_false, if_true]
          first | done | rfl
end Go.Proofs.YtaaajjinpppgeaaGreat

/- The code of some functions, as the evaluator reads it (printed by a program of ours), checked against the program. Own work; no condition. -/
set_option linter.unusedVariables false
set_option linter.unusedSimpArgs false
set_option linter.unusedSectionVars false
namespace Go.Proofs.YtaaajjinpppgeaaGreat
open Go Go.Abs
set_option maxRecDepth 100000
def H59_8 : List Vw := [.opn 5 none none 0 1, .opn 5 none none 1 1, .tidy [1, 2, 4, 5, 7] [(1, none), (2, none), (4, none), (5, none), (7, none), (5, some 0), (5, some 1)]]
theorem h59_8 (b : Nat) (s : St) : vwL b H59_8 s = vwL b [.opn 5 none none 0 1, .opn 5 none none 1 1, .tidy [1, 2, 4, 5, 7] [(1, none), (2, none), (4, none), (5, none), (7, none), (5, some 0), (5, some 1)]] s := rfl
def L59_8 : EC := (.seq (.seq (.region [(.op .mv [(.tmp 7)] (some 33) true), (.op (.faddr 0) [(.tmp 5)] (some 34) true), (.op .load1 [(.tmp 34)] (some 35) true), (.op .len [(.tmp 35)] (some 36) true), (.op (.bin .lss) [(.tmp 33), (.tmp 36)] (some 37) true)] false) (.cond (.tmp 37) .skip (.exit 0))) (.seq (.block 1 (.region [(.op (.faddr 0) [(.tmp 5)] (some 40) true), (.op .load1 [(.tmp 40)] (some 41) true), (.op .mv [(.tmp 7)] (some 42) true), (.op (.iaddr 1) [(.tmp 41), (.tmp 42)] (some 43) true), (.op .store1 [(.tmp 43), (.const (.bool true))] none true)] false)) (.region [(.op .mv [(.tmp 7)] (some 38) true), (.op (.bin .add) [(.tmp 38), (.const (.int .i64 1))] (some 39) true), (.op .mv [(.tmp 39)] (some 7) true)] false)))
def H59_13 : List Vw := [.opn 5 none none 0 1, .opn 5 none none 1 1, .tidy [1, 2, 4, 5, 8] [(1, none), (2, none), (4, none), (5, none), (8, none), (5, some 0), (5, some 1)]]
theorem h59_13 (b : Nat) (s : St) : vwL b H59_13 s = vwL b [.opn 5 none none 0 1, .opn 5 none none 1 1, .tidy [1, 2, 4, 5, 8] [(1, none), (2, none), (4, none), (5, none), (8, none), (5, some 0), (5, some 1)]] s := rfl
def L59_13 : EC := (.seq (.seq (.region [(.op .mv [(.tmp 8)] (some 44) true), (.op (.faddr 1) [(.tmp 5)] (some 45) true), (.op .load1 [(.tmp 45)] (some 46) true), (.op .len [(.tmp 46)] (some 47) true), (.op (.bin .lss) [(.tmp 44), (.tmp 47)] (some 48) true)] false) (.cond (.tmp 48) .skip (.exit 2))) (.seq (.block 3 (.region [(.op (.faddr 1) [(.tmp 5)] (some 51) true), (.op .load1 [(.tmp 51)] (some 52) true), (.op .mv [(.tmp 8)] (some 53) true), (.op (.iaddr 1) [(.tmp 52), (.tmp 53)] (some 54) true), (.op .store1 [(.tmp 54), (.const (.bool true))] none true)] false)) (.region [(.op .mv [(.tmp 8)] (some 49) true), (.op (.bin .add) [(.tmp 49), (.const (.int .i64 1))] (some 50) true), (.op .mv [(.tmp 50)] (some 8) true)] false)))
def H59_19 : List Vw := [.opn 4 none none 2 3, .tidy [1, 2, 4, 9] [(1, none), (2, none), (4, none), (9, none), (4, some 2)]]
theorem h59_19 (b : Nat) (s : St) : vwL b H59_19 s = vwL b [.opn 4 none none 2 3, .tidy [1, 2, 4, 9] [(1, none), (2, none), (4, none), (9, none), (4, some 2)]] s := rfl
def L59_19 : EC := (.seq (.seq (.region [(.op .mv [(.tmp 9)] (some 57) true), (.op (.bin .lss) [(.tmp 57), (.const (.int .i64 8))] (some 58) true)] false) (.cond (.tmp 58) .skip (.exit 4))) (.seq (.block 5 (.seq (.region [(.op (.faddr 0) [(.tmp 1)] (some 61) true), (.op .load1 [(.tmp 61)] (some 62) true), (.op .mv [(.tmp 9)] (some 63) true), (.op (.bin .quo) [(.tmp 63), (.const (.int .i64 2))] (some 64) true), (.op (.bin .add) [(.const (.int .i64 1)), (.tmp 64)] (some 65) true), (.op (.iaddr 1) [(.tmp 62), (.tmp 65)] (some 66) true), (.op .load1 [(.tmp 66)] (some 67) true), (.op .mv [(.tmp 67)] (some 10) true)] false) (.seq (.region [(.pc (.const (.fn 55 [])) [(.const (.int .i64 0))] (some 68) true), (.op (.alloc (.agg [(.int .i64 0), (.int .i64 0), .nil])) [] (some 11) true), (.op (.storeN 3) [(.tmp 11), (.tmp 68)] none true)] false) (.seq (.seq (.region [(.op .mv [(.tmp 10)] (some 69) true), (.op .lenStr [(.tmp 69)] (some 70) true), (.op (.bin .eql) [(.tmp 70), (.const (.int .i64 8))] (some 71) true)] false) (.cond (.tmp 71) (.seq (.region [(.op .mv [(.tmp 10)] (some 73) true), (.op .mv [(.tmp 9)] (some 74) true), (.op (.bin .rem) [(.tmp 74), (.const (.int .i64 2))] (some 75) true), (.op (.bin .mul) [(.const (.int .i64 4)), (.tmp 75)] (some 76) true), (.op .mv [(.tmp 9)] (some 77) true), (.op (.bin .rem) [(.tmp 77), (.const (.int .i64 2))] (some 78) true), (.op (.bin .mul) [(.const (.int .i64 4)), (.tmp 78)] (some 79) true), (.op (.bin .add) [(.tmp 79), (.const (.int .i64 4))] (some 80) true), (.op (.sliceStr true true) [(.tmp 73), (.tmp 76), (.tmp 80)] (some 81) true), (.pc (.const (.fn 153 [])) [(.tmp 81)] (some 82) true), (.op .mv [(.tmp 82)] (some 72) true), (.op (.ext 0) [(.tmp 72)] (some 83) true), (.op (.ext 1) [(.tmp 72)] (some 84) true), (.op (.alloc (.agg [(.int .i64 0), (.int .i64 0), .nil])) [] (some 12) true), (.op (.storeN 3) [(.tmp 12), (.tmp 83)] none true), (.op .mv [(.tmp 84)] (some 13) true)] false) (.seq (.region [(.op .mv [(.tmp 13)] (some 85) true)] false) (.cond (.tmp 85) (.view [.opn 12 none none 2 1] (.region [(.op (.loadN 3) [(.tmp 12)] (some 86) true), (.op (.storeN 3) [(.tmp 11), (.tmp 86)] none true)] false)) .skip))) .skip)) (.view [.opn 11 none none 2 1] (.region [(.op (.faddr 2) [(.tmp 4)] (some 87) true), (.op .load1 [(.tmp 87)] (some 88) true), (.op (.loadN 3) [(.tmp 11)] (some 89) true), (.op (.bslice 3 1 (.agg [(.int .i64 0), (.int .i64 0), .nil]) [0]) [(.tmp 89)] (some 90) true), (.op (.append 3 40) [(.tmp 88), (.tmp 90)] (some 91) true), (.op (.faddr 2) [(.tmp 4)] (some 92) true), (.op .store1 [(.tmp 92), (.tmp 91)] none true)] false)))))) (.region [(.op .mv [(.tmp 9)] (some 59) true), (.op (.bin .add) [(.tmp 59), (.const (.int .i64 1))] (some 60) true), (.op .mv [(.tmp 60)] (some 9) true)] false)))
def H59_30 : List Vw := [.opn 4 none none 3 3, .tidy [1, 2, 4, 14] [(1, none), (2, none), (4, none), (14, none), (4, some 3)]]
theorem h59_30 (b : Nat) (s : St) : vwL b H59_30 s = vwL b [.opn 4 none none 3 3, .tidy [1, 2, 4, 14] [(1, none), (2, none), (4, none), (14, none), (4, some 3)]] s := rfl
def L59_30 : EC := (.seq (.seq (.region [(.op .mv [(.tmp 14)] (some 93) true), (.op (.bin .lss) [(.tmp 93), (.const (.int .i64 16))] (some 94) true)] false) (.cond (.tmp 94) .skip (.exit 6))) (.seq (.block 7 (.seq (.region [(.op (.faddr 0) [(.tmp 1)] (some 98) true), (.op .load1 [(.tmp 98)] (some 99) true), (.op .mv [(.tmp 14)] (some 100) true), (.op (.bin .add) [(.const (.int .i64 5)), (.tmp 100)] (some 101) true), (.op (.iaddr 1) [(.tmp 99), (.tmp 101)] (some 102) true), (.op .load1 [(.tmp 102)] (some 103) true), (.pc (.const (.fn 154 [])) [(.tmp 103)] (some 104) true), (.op .mv [(.tmp 104)] (some 97) true), (.op (.ext 0) [(.tmp 97)] (some 105) true), (.op (.ext 1) [(.tmp 97)] (some 106) true), (.op (.alloc (.agg [(.bool false), .nil, (.str ⟨#[]⟩)])) [] (some 15) true), (.op (.storeN 3) [(.tmp 15), (.tmp 105)] none true), (.op .mv [(.tmp 106)] (some 16) true)] false) (.view [.opn 15 none none 1 2] (.region [(.op (.faddr 3) [(.tmp 4)] (some 107) true), (.op .load1 [(.tmp 107)] (some 108) true), (.op (.loadN 3) [(.tmp 15)] (some 109) true), (.op (.bslice 3 1 (.agg [(.bool false), .nil, (.str ⟨#[]⟩)]) [0]) [(.tmp 109)] (some 110) true), (.op (.append 3 48) [(.tmp 108), (.tmp 110)] (some 111) true), (.op (.faddr 3) [(.tmp 4)] (some 112) true), (.op .store1 [(.tmp 112), (.tmp 111)] none true)] false)))) (.region [(.op .mv [(.tmp 14)] (some 95) true), (.op (.bin .add) [(.tmp 95), (.const (.int .i64 1))] (some 96) true), (.op .mv [(.tmp 96)] (some 14) true)] false)))
-- spec.DiskOf
def F59 : EF := ⟨(.seq (.region [(.op (.box 1) [(.tmp 0)] (some 1) true), (.op (.alloc (.agg [.nil, .nil, .nil, .nil])) [] (some 2) true), (.op .mv [(.const (.bool false))] (some 3) true)] false) (.seq (.seq (.region [(.op (.loadN 1) [(.tmp 1)] (some 17) true), (.pc (.const (.fn 41 [])) [(.tmp 17)] (some 18) true), (.op .not [(.tmp 18)] (some 19) true)] false) (.cond (.tmp 19) (.seq (.region [(.op (.build [.nil, .nil, .nil, .nil] []) [] (some 20) true), (.op (.storeN 4) [(.tmp 2), (.tmp 20)] none true), (.op .mv [(.const (.bool false))] (some 3) true)] false) .ret) .skip)) (.seq (.region [(.op (.build [.nil, .nil, .nil, .nil] []) [] (some 21) true), (.op (.alloc (.agg [.nil, .nil, .nil, .nil])) [] (some 4) true), (.op (.storeN 4) [(.tmp 4), (.tmp 21)] none true)] false) (.seq (.region [(.op (.faddr 0) [(.tmp 1)] (some 23) true), (.op .load1 [(.tmp 23)] (some 24) true), (.op (.iaddr 1) [(.tmp 24), (.const (.int .i64 0))] (some 25) true), (.op .load1 [(.tmp 25)] (some 26) true), (.pc (.const (.fn 151 [])) [(.tmp 26)] (some 27) true), (.op .mv [(.tmp 27)] (some 22) true), (.op (.ext 0) [(.tmp 22)] (some 28) true), (.op (.ext 1) [(.tmp 22)] (some 29) true), (.op (.alloc (.agg [.nil, .nil])) [] (some 5) true), (.op (.storeN 2) [(.tmp 5), (.tmp 28)] none true), (.op .mv [(.tmp 29)] (some 6) true)] false) (.seq (.seq (.region [(.op .mv [(.tmp 6)] (some 30) true), (.op .not [(.tmp 30)] (some 31) true)] false) (.cond (.tmp 31) (.seq (.region [(.pc (.const (.fn 152 [])) [] (some 32) true), (.op (.storeN 2) [(.tmp 5), (.tmp 32)] none true)] false) (.seq (.seq (.region [(.op .mv [(.const (.int .i64 0))] (some 7) true)] false) (.block 0 (.loop H59_8 L59_8))) (.seq (.region [(.op .mv [(.const (.int .i64 0))] (some 8) true)] false) (.block 2 (.loop H59_13 L59_13))))) .skip)) (.seq (.view [.opn 5 none none 0 1, .opn 5 none none 1 1] (.region [(.op (.loadN 2) [(.tmp 5)] (some 55) true), (.op (.faddr 0) [(.tmp 4)] (some 56) true), (.op (.storeN 2) [(.tmp 56), (.tmp 55)] none true)] false)) (.seq (.seq (.region [(.op .mv [(.const (.int .i64 0))] (some 9) true)] false) (.block 4 (.loop H59_19 L59_19))) (.seq (.seq (.region [(.op .mv [(.const (.int .i64 0))] (some 14) true)] false) (.block 6 (.loop H59_30 L59_30))) (.seq (.view [.opn 4 none none 0 1, .opn 4 none none 1 1, .opn 4 none none 2 3, .opn 4 none none 3 3] (.region [(.op (.loadN 4) [(.tmp 4)] (some 113) true), (.op (.storeN 4) [(.tmp 2), (.tmp 113)] none true), (.op .mv [(.const (.bool true))] (some 3) true)] false)) .ret))))))))), [(.cell 2 (.loadN 4)), (.tmp 3)], 114, (.agg [(.agg [.row 1 .one, .row 1 .one, .row 3 .one, .row 3 .one]), .one]), none⟩
theorem t59 : T 59 = some F59 := tab Tryz.func59 (by kernel_rfl) rfl
def H62_9 : List Vw := [.opn 4 none none 2 3, .tidy [1, 2, 4, 37, 38, 39] [(1, none), (2, none), (4, none), (37, none), (38, none), (39, none), (4, some 2)]]
theorem h62_9 (b : Nat) (s : St) : vwL b H62_9 s = vwL b [.opn 4 none none 2 3, .tidy [1, 2, 4, 37, 38, 39] [(1, none), (2, none), (4, none), (37, none), (38, none), (39, none), (4, some 2)]] s := rfl
def L62_9 : EC := (.seq (.region [(.op (.bin .lss) [(.tmp 39), (.tmp 38)] (some 40) true)] false) (.seq (.cond (.tmp 40) .skip (.exit 0)) (.seq (.block 1 (.seq (.region [(.op (.iaddr 1) [(.tmp 37), (.tmp 39)] (some 41) true), (.op .load1 [(.tmp 41)] (some 42) true), (.op .mv [(.tmp 42)] (some 8) true)] false) (.seq (.seq (.region [(.op .mv [(.tmp 8)] (some 43) true), (.op .lenStr [(.tmp 43)] (some 44) true), (.op (.bin .neq) [(.tmp 44), (.const (.int .i64 8))] (some 45) true)] false) (.cond (.tmp 45) (.region [(.op (.bslice 1 8 (.int .i64 0) [0, 1, 2, 3, 4, 5, 6, 7]) [(.const (.int .i64 0)), (.const (.int .i64 0)), (.const (.int .i64 0)), (.const (.int .i64 0)), (.const (.int .i64 0)), (.const (.int .i64 0)), (.const (.int .i64 0)), (.const (.int .i64 0))] (some 46) true), (.pc (.const (.fn 157 [])) [(.tmp 46)] (some 47) true), (.op .mv [(.tmp 47)] (some 8) true)] false) .skip)) (.region [(.op (.faddr 2) [(.tmp 4)] (some 48) false), (.op .load1 [(.tmp 48)] (some 49) false), (.op .mv [(.tmp 8)] (some 50) false), (.op (.sliceStr false true) [(.tmp 50), (.const (.int .i64 4))] (some 51) false), (.pc (.const (.fn 158 [])) [(.tmp 51)] (some 52) false), (.op .mv [(.tmp 8)] (some 53) false), (.op (.sliceStr true false) [(.tmp 53), (.const (.int .i64 4))] (some 54) false), (.pc (.const (.fn 158 [])) [(.tmp 54)] (some 55) false), (.op (.bslice 3 2 (.agg [(.int .i64 0), (.int .i64 0), .nil]) [0, 1]) [(.tmp 52), (.tmp 55)] (some 56) false), (.op (.append 3 40) [(.tmp 49), (.tmp 56)] (some 57) true), (.op (.faddr 2) [(.tmp 4)] (some 58) true), (.op .store1 [(.tmp 58), (.tmp 57)] none true)] true)))) (.region [(.op (.bin .add) [(.tmp 39), (.const (.int .i64 1))] (some 59) true), (.op .mv [(.tmp 59)] (some 39) true)] false))))
def H62_17 : List Vw := [.opn 4 none none 3 3, .tidy [2, 4, 62, 63, 64] [(2, none), (4, none), (62, none), (63, none), (64, none), (4, some 3)]]
theorem h62_17 (b : Nat) (s : St) : vwL b H62_17 s = vwL b [.opn 4 none none 3 3, .tidy [2, 4, 62, 63, 64] [(2, none), (4, none), (62, none), (63, none), (64, none), (4, some 3)]] s := rfl
def L62_17 : EC := (.seq (.region [(.op (.bin .lss) [(.tmp 64), (.tmp 63)] (some 65) true)] false) (.seq (.cond (.tmp 65) .skip (.exit 2)) (.seq (.block 3 (.seq (.region [(.op (.iaddr 1) [(.tmp 62), (.tmp 64)] (some 66) true), (.op .load1 [(.tmp 66)] (some 67) true), (.op .mv [(.tmp 67)] (some 10) true)] false) (.seq (.region [(.op .mv [(.tmp 10)] (some 69) true), (.pc (.const (.fn 159 [])) [(.tmp 69)] (some 70) true), (.op .mv [(.tmp 70)] (some 68) true), (.op (.ext 0) [(.tmp 68)] (some 71) true), (.op (.ext 1) [(.tmp 68)] (some 72) true), (.op (.alloc (.agg [(.bool false), .nil, (.str ⟨#[]⟩)])) [] (some 11) true), (.op (.storeN 3) [(.tmp 11), (.tmp 71)] none true), (.op .mv [(.tmp 72)] (some 12) true)] false) (.view [.opn 11 none none 1 2] (.region [(.op (.faddr 3) [(.tmp 4)] (some 73) true), (.op .load1 [(.tmp 73)] (some 74) true), (.op (.loadN 3) [(.tmp 11)] (some 75) true), (.op (.bslice 3 1 (.agg [(.bool false), .nil, (.str ⟨#[]⟩)]) [0]) [(.tmp 75)] (some 76) true), (.op (.append 3 48) [(.tmp 74), (.tmp 76)] (some 77) true), (.op (.faddr 3) [(.tmp 4)] (some 78) true), (.op .store1 [(.tmp 78), (.tmp 77)] none true)] false))))) (.region [(.op (.bin .add) [(.tmp 64), (.const (.int .i64 1))] (some 79) true), (.op .mv [(.tmp 79)] (some 64) true)] false))))
-- impl.DiskOf
def F62 : EF := ⟨(.seq (.region [(.op (.box 1) [(.tmp 0)] (some 1) true), (.op (.alloc (.agg [.nil, .nil, .nil, .nil])) [] (some 2) true), (.op .mv [(.const (.bool false))] (some 3) true)] false) (.seq (.seq (.region [(.op (.loadN 1) [(.tmp 1)] (some 13) true), (.pc (.const (.fn 40 [])) [(.tmp 13)] (some 14) true), (.op .not [(.tmp 14)] (some 15) true)] false) (.cond (.tmp 15) (.seq (.region [(.op (.build [.nil, .nil, .nil, .nil] []) [] (some 16) true), (.op (.storeN 4) [(.tmp 2), (.tmp 16)] none true), (.op .mv [(.const (.bool false))] (some 3) true)] false) .ret) .skip)) (.seq (.region [(.op (.build [.nil, .nil, .nil, .nil] []) [] (some 17) true), (.op (.alloc (.agg [.nil, .nil, .nil, .nil])) [] (some 4) true), (.op (.storeN 4) [(.tmp 4), (.tmp 17)] none true)] false) (.seq (.region [(.op (.faddr 0) [(.tmp 1)] (some 19) true), (.op .load1 [(.tmp 19)] (some 20) true), (.op (.iaddr 1) [(.tmp 20), (.const (.int .i64 0))] (some 21) true), (.op .load1 [(.tmp 21)] (some 22) true), (.pc (.const (.fn 155 [])) [(.tmp 22)] (some 23) true), (.op .mv [(.tmp 23)] (some 18) true), (.op (.ext 0) [(.tmp 18)] (some 24) true), (.op (.ext 1) [(.tmp 18)] (some 25) true), (.op (.alloc (.agg [.nil, .nil])) [] (some 5) true), (.op (.storeN 2) [(.tmp 5), (.tmp 24)] none true), (.op .mv [(.tmp 25)] (some 6) true)] false) (.seq (.seq (.region [(.op .mv [(.tmp 6)] (some 26) true), (.op .not [(.tmp 26)] (some 27) true)] false) (.cond (.tmp 27) (.region [(.op (.bslice 1 1 (.bool false) [0]) [(.const (.bool true))] (some 28) true), (.pc (.const (.fn 156 [])) [(.tmp 28), (.const (.int .i64 16))] (some 29) true), (.op (.bslice 1 1 (.bool false) [0]) [(.const (.bool true))] (some 30) true), (.pc (.const (.fn 156 [])) [(.tmp 30), (.const (.int .i64 8))] (some 31) true), (.op (.build [.nil, .nil] [(0, 1), (1, 1)]) [(.tmp 29), (.tmp 31)] (some 32) true), (.op (.storeN 2) [(.tmp 5), (.tmp 32)] none true)] false) .skip)) (.seq (.view [.opn 5 none none 0 1, .opn 5 none none 1 1] (.region [(.op (.loadN 2) [(.tmp 5)] (some 33) true), (.op (.faddr 0) [(.tmp 4)] (some 34) true), (.op (.storeN 2) [(.tmp 34), (.tmp 33)] none true)] false)) (.seq (.seq (.region [(.op (.faddr 0) [(.tmp 1)] (some 35) true), (.op .load1 [(.tmp 35)] (some 36) true), (.op (.slice 1 true true) [(.tmp 36), (.const (.int .i64 1)), (.const (.int .i64 5))] (some 37) true), (.op .len [(.tmp 37)] (some 38) true), (.op .mv [(.const (.int .i64 0))] (some 39) true)] false) (.block 0 (.loop H62_9 L62_9))) (.seq (.seq (.region [(.op (.faddr 0) [(.tmp 1)] (some 60) true), (.op .load1 [(.tmp 60)] (some 61) true), (.op (.slice 1 true false) [(.tmp 61), (.const (.int .i64 5))] (some 62) true), (.op .len [(.tmp 62)] (some 63) true), (.op .mv [(.const (.int .i64 0))] (some 64) true)] false) (.block 2 (.loop H62_17 L62_17))) (.seq (.view [.opn 4 none none 0 1, .opn 4 none none 1 1, .opn 4 none none 2 3, .opn 4 none none 3 3] (.region [(.op (.loadN 4) [(.tmp 4)] (some 80) true), (.op (.storeN 4) [(.tmp 2), (.tmp 80)] none true), (.op .mv [(.const (.bool true))] (some 3) true)] false)) .ret))))))))), [(.cell 2 (.loadN 4)), (.tmp 3)], 81, (.agg [(.agg [.row 1 .one, .row 1 .one, .row 3 .one, .row 3 .one]), .one]), none⟩
theorem t62 : T 62 = some F62 := tab Tryz.func62 (by kernel_rfl) rfl
-- spec.Mounted
def F11 : EF := ⟨(.seq (.region [(.op (.box 1) [(.tmp 0)] (some 1) true), (.op (.alloc (.agg [.nil, .nil, .nil, .nil, .nil, .nil, (.int .i64 0), .nil])) [] (some 2) true), (.op .mv [(.const (.bool false))] (some 3) true)] false) (.seq (.region [(.op (.loadN 1) [(.tmp 1)] (some 7) true), (.pc (.const (.fn 59 [])) [(.tmp 7)] (some 8) true), (.op .mv [(.tmp 8)] (some 6) true), (.op (.ext 0) [(.tmp 6)] (some 9) true), (.op (.ext 1) [(.tmp 6)] (some 10) true), (.op (.alloc (.agg [.nil, .nil, .nil, .nil])) [] (some 4) true), (.op (.storeN 4) [(.tmp 4), (.tmp 9)] none true), (.op .mv [(.tmp 10)] (some 5) true)] false) (.seq (.seq (.region [(.op .mv [(.tmp 5)] (some 11) true), (.op .not [(.tmp 11)] (some 12) true)] false) (.cond (.tmp 12) (.seq (.region [(.op (.build [.nil, .nil, .nil, .nil, .nil, .nil, (.int .i64 0), .nil] []) [] (some 13) true), (.op (.storeN 8) [(.tmp 2), (.tmp 13)] none true), (.op .mv [(.const (.bool false))] (some 3) true)] false) .ret) .skip)) (.seq (.region [(.op (.loadN 4) [(.tmp 4)] (some 14) false), (.pc (.const (.fn 60 [])) [(.tmp 14)] (some 15) false), (.op (.bslice 1 0 (.str ⟨#[]⟩) []) [] (some 16) false), (.op (.faddr 0) [(.tmp 1)] (some 17) false), (.op .load1 [(.tmp 17)] (some 18) false), (.op (.append 1 16) [(.tmp 16), (.tmp 18)] (some 19) true), (.op (.build [.nil] [(0, 1)]) [(.tmp 19)] (some 20) true), (.op (.build [.nil, .nil, .nil, .nil, .nil, .nil, (.int .i64 0), .nil] [(0, 7), (7, 1)]) [(.tmp 15), (.tmp 20)] (some 21) true), (.op (.storeN 8) [(.tmp 2), (.tmp 21)] none true), (.op .mv [(.const (.bool true))] (some 3) true)] true) .ret)))), [(.cell 2 (.loadN 8)), (.tmp 3)], 22, (.agg [(.agg [.row 1 .one, .row 1 .one, .row 3 .one, .row 3 .one, .row 1 .one, .row 11 .one, .one, .row 1 .one]), .one]), none⟩
theorem t11 : T 11 = some F11 := tab Tryz.func11 (by kernel_rfl) rfl
-- impl.Mounted
def F13 : EF := ⟨(.seq (.region [(.op (.box 1) [(.tmp 0)] (some 1) true), (.op (.alloc (.agg [.nil, .nil, .nil, .nil, .nil, .nil, (.int .i64 0), .nil])) [] (some 2) true), (.op .mv [(.const (.bool false))] (some 3) true)] false) (.seq (.region [(.op (.loadN 1) [(.tmp 1)] (some 7) true), (.pc (.const (.fn 62 [])) [(.tmp 7)] (some 8) true), (.op .mv [(.tmp 8)] (some 6) true), (.op (.ext 0) [(.tmp 6)] (some 9) true), (.op (.ext 1) [(.tmp 6)] (some 10) true), (.op (.alloc (.agg [.nil, .nil, .nil, .nil])) [] (some 4) true), (.op (.storeN 4) [(.tmp 4), (.tmp 9)] none true), (.op .mv [(.tmp 10)] (some 5) true)] false) (.seq (.seq (.region [(.op .mv [(.tmp 5)] (some 11) true), (.op .not [(.tmp 11)] (some 12) true)] false) (.cond (.tmp 12) (.seq (.region [(.op (.build [.nil, .nil, .nil, .nil, .nil, .nil, (.int .i64 0), .nil] []) [] (some 13) true), (.op (.storeN 8) [(.tmp 2), (.tmp 13)] none true), (.op .mv [(.const (.bool false))] (some 3) true)] false) .ret) .skip)) (.seq (.region [(.op (.loadN 4) [(.tmp 4)] (some 14) false), (.pc (.const (.fn 63 [])) [(.tmp 14)] (some 15) false), (.op (.loadN 1) [(.tmp 1)] (some 16) false), (.pc (.const (.fn 64 [])) [(.tmp 16)] (some 17) true), (.op (.build [.nil, .nil, .nil, .nil, .nil, .nil, (.int .i64 0), .nil] [(0, 7), (7, 1)]) [(.tmp 15), (.tmp 17)] (some 18) true), (.op (.storeN 8) [(.tmp 2), (.tmp 18)] none true), (.op .mv [(.const (.bool true))] (some 3) true)] true) .ret)))), [(.cell 2 (.loadN 8)), (.tmp 3)], 19, (.agg [(.agg [.row 1 .one, .row 1 .one, .row 3 .one, .row 3 .one, .row 1 .one, .row 11 .one, .one, .row 1 .one]), .one]), none⟩
theorem t13 : T 13 = some F13 := tab Tryz.func13 (by kernel_rfl) rfl
-- laws.FnExactMounted
def F3 : EF := ⟨(.seq (.region [(.op (.box 1) [(.tmp 0)] (some 1) true), (.op .mv [(.const (.bool false))] (some 2) true)] false) (.seq (.region [(.op .mv [(.const (.int .i64 1048576))] (some 3) true)] false) (.seq (.region [(.op (.loadN 1) [(.tmp 1)] (some 14) true), (.op .mv [(.tmp 3)] (some 15) true), (.pc (.const (.fn 10 [])) [(.tmp 14), (.tmp 15)] (some 16) true), (.op .mv [(.tmp 16)] (some 3) true)] false) (.seq (.seq (.region [(.op .mv [(.tmp 3)] (some 17) true), (.op (.bin .lss) [(.tmp 17), (.const (.int .i64 0))] (some 18) true)] false) (.cond (.tmp 18) (.seq (.region [(.op .mv [(.const (.bool true))] (some 2) true)] false) .ret) .skip)) (.seq (.region [(.op (.loadN 1) [(.tmp 1)] (some 20) true), (.pc (.const (.fn 12 [])) [(.tmp 20)] (some 21) true), (.pc (.const (.fn 11 [])) [(.tmp 21)] (some 22) true), (.op .mv [(.tmp 22)] (some 19) true), (.op (.ext 0) [(.tmp 19)] (some 23) true), (.op (.ext 1) [(.tmp 19)] (some 24) true), (.op (.alloc (.agg [.nil, .nil, .nil, .nil, .nil, .nil, (.int .i64 0), .nil])) [] (some 4) true), (.op (.storeN 8) [(.tmp 4), (.tmp 23)] none true), (.op .mv [(.tmp 24)] (some 5) true)] false) (.seq (.region [(.op (.loadN 1) [(.tmp 1)] (some 25) true), (.pc (.const (.fn 12 [])) [(.tmp 25)] (some 26) true), (.op (.alloc (.agg [.nil])) [] (some 6) true), (.op (.storeN 1) [(.tmp 6), (.tmp 26)] none true)] false) (.seq (.region [(.op (.loadN 1) [(.tmp 6)] (some 28) true), (.pc (.const (.fn 13 [])) [(.tmp 28)] (some 29) true), (.op .mv [(.tmp 29)] (some 27) true), (.op (.ext 0) [(.tmp 27)] (some 30) true), (.op (.ext 1) [(.tmp 27)] (some 31) true), (.op (.alloc (.agg [.nil, .nil, .nil, .nil, .nil, .nil, (.int .i64 0), .nil])) [] (some 7) true), (.op (.storeN 8) [(.tmp 7), (.tmp 30)] none true), (.op .mv [(.tmp 31)] (some 8) true)] false) (.seq (.seq (.region [(.op (.loadN 8) [(.tmp 7)] (some 32) true), (.op (.loadN 8) [(.tmp 4)] (some 33) true), (.pc (.const (.fn 14 [])) [(.tmp 32), (.tmp 33)] (some 34) true), (.op .not [(.tmp 34)] (some 35) true), (.op .mv [(.tmp 35)] (some 36) true), (.grp 36 false [(.op .mv [(.tmp 8)] (some 37) true), (.op .mv [(.tmp 5)] (some 38) true), (.op (.binB true) [(.tmp 37), (.tmp 38)] (some 39) true)] 39 40 true)] false) (.cond (.tmp 40) (.seq (.region [(.op .mv [(.const (.bool false))] (some 2) true)] false) .ret) .skip)) (.seq (.seq (.region [(.op (.loadN 1) [(.tmp 6)] (some 41) false), (.op (.loadN 1) [(.tmp 1)] (some 42) false), (.pc (.const (.fn 12 [])) [(.tmp 42)] (some 43) false), (.pc (.const (.fn 15 [])) [(.tmp 41), (.tmp 43)] (some 44) true), (.op .not [(.tmp 44)] (some 45) true)] true) (.cond (.tmp 45) (.seq (.region [(.op .mv [(.const (.bool false))] (some 2) true)] false) .ret) .skip)) (.seq (.region [(.op .mv [(.const (.int .i64 1))] (some 9) true)] false) (.seq (.region [(.op (.loadN 1) [(.tmp 6)] (some 46) true), (.op .mv [(.tmp 9)] (some 47) true), (.sc (.const (.fn 16 [])) [(.tmp 46), (.tmp 47)] (some 48) true), (.op .mv [(.tmp 48)] (some 9) true)] false) (.seq (.seq (.region [(.op .mv [(.tmp 9)] (some 49) true), (.op (.bin .lss) [(.tmp 49), (.const (.int .i64 0))] (some 50) true), (.op .mv [(.tmp 50)] (some 51) true), (.grp 51 false [(.op (.loadN 8) [(.tmp 7)] (some 52) true), (.op (.loadN 8) [(.tmp 4)] (some 53) true), (.pc (.const (.fn 14 [])) [(.tmp 52), (.tmp 53)] (some 54) true), (.op .not [(.tmp 54)] (some 55) true)] 55 56 true), (.op .mv [(.tmp 56)] (some 57) true), (.grp 57 false [(.op .mv [(.tmp 8)] (some 58) true), (.op .mv [(.tmp 5)] (some 59) true), (.op (.binB true) [(.tmp 58), (.tmp 59)] (some 60) true)] 60 61 true)] false) (.cond (.tmp 61) (.seq (.region [(.op .mv [(.const (.bool false))] (some 2) true)] false) .ret) .skip)) (.seq (.region [(.op .mv [(.const (.int .i64 1))] (some 10) true)] false) (.seq (.region [(.op (.loadN 8) [(.tmp 7)] (some 62) true), (.op .mv [(.tmp 10)] (some 63) true), (.sc (.const (.fn 17 [])) [(.tmp 62), (.tmp 63)] (some 64) true), (.op .mv [(.tmp 64)] (some 10) true)] false) (.seq (.region [(.op .mv [(.const (.int .i64 1))] (some 11) true)] false) (.seq (.region [(.op (.loadN 8) [(.tmp 7)] (some 65) true), (.op .mv [(.tmp 11)] (some 66) true), (.pc (.const (.fn 18 [])) [(.tmp 65), (.tmp 66)] (some 67) true), (.op .mv [(.tmp 67)] (some 11) true)] false) (.seq (.seq (.region [(.op .mv [(.tmp 11)] (some 68) true), (.op (.bin .lss) [(.tmp 68), (.const (.int .i64 0))] (some 69) true)] false) (.cond (.tmp 69) (.seq (.region [(.op .mv [(.const (.bool false))] (some 2) true)] false) .ret) .skip)) (.seq (.seq (.region [(.op .mv [(.tmp 11)] (some 70) true), (.op .mv [(.tmp 10)] (some 71) true), (.op (.bin .neq) [(.tmp 70), (.tmp 71)] (some 72) true)] false) (.cond (.tmp 72) (.seq (.region [(.op .mv [(.const (.bool false))] (some 2) true)] false) .ret) .skip)) (.seq (.region [(.op (.loadN 1) [(.tmp 1)] (some 74) true), (.pc (.const (.fn 12 [])) [(.tmp 74)] (some 75) true), (.pc (.const (.fn 13 [])) [(.tmp 75)] (some 76) true), (.op .mv [(.tmp 76)] (some 73) true), (.op (.ext 0) [(.tmp 73)] (some 77) true), (.op (.ext 1) [(.tmp 73)] (some 78) true), (.op (.alloc (.agg [.nil, .nil, .nil, .nil, .nil, .nil, (.int .i64 0), .nil])) [] (some 12) true), (.op (.storeN 8) [(.tmp 12), (.tmp 77)] none true), (.op .mv [(.tmp 78)] (some 13) true)] false) (.seq (.seq (.region [(.op (.loadN 8) [(.tmp 12)] (some 79) true), (.op (.loadN 8) [(.tmp 4)] (some 80) true), (.pc (.const (.fn 14 [])) [(.tmp 79), (.tmp 80)] (some 81) true), (.op .not [(.tmp 81)] (some 82) true), (.op .mv [(.tmp 82)] (some 83) true), (.grp 83 false [(.op .mv [(.tmp 13)] (some 84) true), (.op .mv [(.tmp 5)] (some 85) true), (.op (.binB true) [(.tmp 84), (.tmp 85)] (some 86) true)] 86 87 true)] false) (.cond (.tmp 87) (.seq (.region [(.op .mv [(.const (.bool false))] (some 2) true)] false) .ret) .skip)) (.seq (.region [(.op .mv [(.const (.int .i64 1))] (some 11) true)] false) (.seq (.region [(.op (.loadN 8) [(.tmp 7)] (some 88) true), (.op .mv [(.tmp 11)] (some 89) true), (.pc (.const (.fn 18 [])) [(.tmp 88), (.tmp 89)] (some 90) true), (.op .mv [(.tmp 90)] (some 11) true)] false) (.seq (.seq (.region [(.op .mv [(.tmp 11)] (some 91) true), (.op (.bin .lss) [(.tmp 91), (.const (.int .i64 0))] (some 92) true)] false) (.cond (.tmp 92) (.seq (.region [(.op .mv [(.const (.bool false))] (some 2) true)] false) .ret) .skip)) (.seq (.seq (.region [(.op .mv [(.tmp 11)] (some 93) true), (.op .mv [(.tmp 10)] (some 94) true), (.op (.bin .neq) [(.tmp 93), (.tmp 94)] (some 95) true)] false) (.cond (.tmp 95) (.seq (.region [(.op .mv [(.const (.bool false))] (some 2) true)] false) .ret) .skip)) (.seq (.region [(.op .mv [(.const (.bool true))] (some 2) true)] false) .ret))))))))))))))))))))))))), [(.tmp 2)], 96, .one, none⟩
theorem t3 : T 3 = some F3 := tab Tryz.func3 (by kernel_rfl) rfl
end Go.Proofs.YtaaajjinpppgeaaGreat

/- Disks out of devices. Own work; no condition. -/
set_option linter.unusedVariables false
set_option linter.unusedSimpArgs false
set_option linter.unusedSectionVars false
namespace Go.Proofs.YtaaajjinpppgeaaGreat
open Go Go.Abs
set_option maxRecDepth 100000
def inoZ : Ino := ⟨0, 0, [0, 0]⟩
def inoU (s : ByteArray) (j : Nat) : Ino := if s.size = 8 then inoD (s.extract (4 * j) (4 * j + 4)) else inoZ
def inosOf (l : List ByteArray) : List Ino := (List.range 8).map fun i => inoU (l.getD (1 + i / 2) ⟨#[]⟩) (i % 2)
def blkD (s : ByteArray) : Blk := (blkP s).getD ⟨false, [], ⟨#[]⟩⟩
def blksOf (l : List ByteArray) : List Blk := (List.range 16).map fun i => blkD (l.getD (5 + i) ⟨#[]⟩)
theorem inosOf_at {l : List ByteArray} {i : Nat} {p : Ino} (h : (inosOf l)[i]? = some p) : i < 8 ∧ p = inoU (l.getD (1 + i / 2) ⟨#[]⟩) (i % 2) := by
  unfold inosOf at h
  rw [List.getElem?_map] at h
  by_cases hi : i < 8
  · rw [List.getElem?_range hi] at h
    exact ⟨hi, by simpa using h.symm⟩
  · rw [List.getElem?_eq_none (by simp; omega)] at h; cases h
theorem blksOf_at {l : List ByteArray} {i : Nat} {p : Blk} (h : (blksOf l)[i]? = some p) : i < 16 ∧ p = blkD (l.getD (5 + i) ⟨#[]⟩) := by
  unfold blksOf at h
  rw [List.getElem?_map] at h
  by_cases hi : i < 16
  · rw [List.getElem?_range hi] at h
    exact ⟨hi, by simpa using h.symm⟩
  · rw [List.getElem?_eq_none (by simp; omega)] at h; cases h
theorem blkA_eq (o : Option Blk) : blkA o = .tup [blkO (o.getD ⟨false, [], ⟨#[]⟩⟩), .bool o.isSome] := by cases o <;> rfl
theorem unit_at (l : List ByteArray) (i : Nat) (h : i < l.length) : (l.map sv).getD i .undef = .str (l.getD i ⟨#[]⟩) := by
  obtain ⟨s, hs⟩ := get_at h
  rw [gD_map hs, List.getD, hs]; rfl
theorem unit_le {l : List ByteArray} (h : dvcOk l = true) (i : Nat) : (l.getD i ⟨#[]⟩).size ≤ 60 := by
  unfold dvcOk shortS at h
  simp only [Bool.and_eq_true, List.all_eq_true, decide_eq_true_eq] at h
  cases hs : l[i]? with
  | none => rw [List.getD, hs]; decide
  | some s => rw [List.getD, hs]; exact h.1 s (List.mem_of_getElem? hs)
def dM (l : List ByteArray) (a b : List Bool) (i : Nat) (R : List AV) : Mem := [some (1, [.agg [.ro 1 (l.map sv)]]), some (4, [.agg [.nil, .nil, .nil, .nil]]), some (4, [.agg [.own 1 (a.map bv), .own 1 (b.map bv), .sl 3 0 i, .nil]]), some (3, R)]
def dN (l : List ByteArray) (a b : List Bool) (N : List Ino) (i : Nat) (R : List AV) : Mem := [some (1, [.agg [.ro 1 (l.map sv)]]), some (4, [.agg [.nil, .nil, .nil, .nil]]), some (4, [.agg [.own 1 (a.map bv), .own 1 (b.map bv), .own 3 (N.map inoO), .sl 3 0 i]]), some (3, R)]
theorem lp59a (l : List ByteArray) (hl : dvcOk l = true) (h21 : l.length = 21) (a b : List Bool) :
    ∃ r, XL T 0 H59_19 L59_19 ⟨[(1, .ptr 0 0 0), (2, .ptr 1 0 0), (4, .ptr 2 0 0), (9, .int .i64 0)], dM l a b 0 []⟩ = some r ∧ r.1 = .exit 4 ∧ lookA r.2.env 1 = .ptr 0 0 0 ∧ lookA r.2.env 2 = .ptr 1 0 0 ∧ lookA r.2.env 4 = .ptr 2 0 0 ∧ r.2.mem = dM l a b 8 ((inosOf l).map inoO) := by
  have h8 : (inosOf l).length = 8 := by simp [inosOf]
  have := XL_each (T := T) (b := 0) (hd := H59_19) (x := L59_19) (inosOf l) (fun (_ : Unit) _ => ()) (fun i _ => ⟨[(1, .ptr 0 0 0), (2, .ptr 1 0 0), (4, .ptr 2 0 0), (9, .int .i64 (i : Nat))], dM l a b i (((inosOf l).take i).map inoO)⟩) (fun _ _ => True)
    (fun _ r => r.1 = .exit 4 ∧ lookA r.2.env 1 = .ptr 0 0 0 ∧ lookA r.2.env 2 = .ptr 1 0 0 ∧ lookA r.2.env 4 = .ptr 2 0 0 ∧ r.2.mem = dM l a b 8 ((inosOf l).map inoO)) ?step ?last () trivial
  case step =>
    intro i _ p hp hi _
    refine ⟨?_, trivial⟩
    obtain ⟨hi8, hpp⟩ := inosOf_at hp
    obtain ⟨M, hM, ml, mi, ms, mt, ma⟩ := snoc_facts inoO_cool hp
    have k1 : decide ((i : Int) < 8) = true := decide_eq_true (by omega)
    have q1 : Int.tdiv (i : Int) 2 = ((i / 2 : Nat) : Int) := rfl
    have wq := w_i64 ((i / 2 : Nat) : Int) (by omega)
    have w1 := w_i64 (1 + ((i / 2 : Nat) : Int)) (by omega)
    have x1 : (1 + ((i / 2 : Nat) : Int)).toNat = 1 + i / 2 := by omega
    have p0 : (0 : Int) ≤ 1 + ((i / 2 : Nat) : Int) := by omega
    have p1 : 1 + ((i / 2 : Nat) : Int) < 21 := by omega
    have g := unit_at l (1 + i / 2) (by omega)
    generalize hs : l.getD (1 + i / 2) ⟨#[]⟩ = s at g hpp
    have hs60 : s.size ≤ 60 := by rw [← hs]; exact unit_le hl _
    have wi := w_i64 ((i : Int) + 1) (by omega)
    have hap : (i + 1) * 40 ≤ 140737488355328 := by omega
    unfold inoU at hpp
    unfold dM
    simp only [hM]
    rw [← ma]
    by_cases h8 : s.size = 8
    · have d8 : decide ((s.size : Int) = 8) = true := decide_eq_true (by omega)
      rw [if_pos h8] at hpp
      have qr : Int.tmod (i : Int) 2 = ((i % 2 : Nat) : Int) := rfl
      have wr := w_i64 (4 * ((i % 2 : Nat) : Int)) (by omega)
      have wr4 := w_i64 (4 * ((i % 2 : Nat) : Int) + 4) (by omega)
      have g3 : (0 : Int) ≤ 4 * ((i % 2 : Nat) : Int) ∧ 4 * ((i % 2 : Nat) : Int) ≤ 4 * ((i % 2 : Nat) : Int) + 4 ∧ 4 * ((i % 2 : Nat) : Int) + 4 ≤ (s.size : Int) := by omega
      have y1 : (4 * ((i % 2 : Nat) : Int)).toNat = 4 * (i % 2) := by omega
      have y2 : (4 * ((i % 2 : Nat) : Int) + 4).toNat = 4 * (i % 2) + 4 := by omega
      have ev := e153 (s.extract (4 * (i % 2)) (4 * (i % 2) + 4))
      unfold inoD at hpp
      cases ho : inoP (s.extract (4 * (i % 2)) (4 * (i % 2) + 4)) with
      | none =>
        rw [ho] at ev hpp
        unfold inoA at ev
        rw [hpp]
        simp only [XG, L59_19, h59_19, go_sem, seval, bnd_ite, k1, q1, wq, w1, x1, p0, p1, g, h21, e55, d8, qr, wr, wr4, g3, y1, y2, ev, ml, mi, ms, mt, hap, wi, and_self, if_true, if_false, Bool.false_eq_true]
        first | done | rfl
      | some z =>
        rw [ho] at ev hpp
        unfold inoA inoO at ev
        obtain rfl : p = z := hpp
        have htk : (List.map iv p.ptrs).take p.ptrs.length = List.map iv p.ptrs := List.take_of_length_le (by simp)
        unfold inoO
        simp only [XG, L59_19, h59_19, go_sem, seval, bnd_ite, k1, q1, wq, w1, x1, p0, p1, g, h21, e55, d8, qr, wr, wr4, g3, y1, y2, ev, ml, mi, ms, mt, htk, hap, wi, and_self, if_true, if_false, Bool.false_eq_true]
        first | done | rfl
    · have d8 : decide ((s.size : Int) = 8) = false := decide_eq_false (by omega)
      rw [if_neg h8] at hpp
      rw [hpp]
      simp only [XG, L59_19, h59_19, go_sem, seval, bnd_ite, k1, q1, wq, w1, x1, p0, p1, g, h21, e55, d8, ml, mi, ms, mt, hap, wi, if_true, if_false, Bool.false_eq_true]
      first | done | rfl
  case last =>
    intro _ _
    rw [h8]
    have s8 : ((8 : Nat) : Int) = 8 := rfl
    have tk : (inosOf l).take 8 = inosOf l := List.take_of_length_le (by omega)
    unfold dM
    simp only [XG, L59_19, h59_19, go_sem, seval, bnd_ite, s8, tk, Int.lt_irrefl, decide_false]
    exact .mk (by simp) ⟨rfl, rfl, rfl, rfl, rfl⟩
  simpa using this
theorem lp59b (l : List ByteArray) (hl : dvcOk l = true) (h21 : l.length = 21) (a b : List Bool) (N : List Ino) :
    ∃ r, XL T 0 H59_30 L59_30 ⟨[(1, .ptr 0 0 0), (2, .ptr 1 0 0), (4, .ptr 2 0 0), (14, .int .i64 0)], dN l a b N 0 []⟩ = some r ∧ r.1 = .exit 6 ∧ lookA r.2.env 2 = .ptr 1 0 0 ∧ lookA r.2.env 4 = .ptr 2 0 0 ∧ r.2.mem = dN l a b N 16 ((blksOf l).map blkO) := by
  have h8 : (blksOf l).length = 16 := by simp [blksOf]
  have := XL_each (T := T) (b := 0) (hd := H59_30) (x := L59_30) (blksOf l) (fun (_ : Unit) _ => ()) (fun i _ => ⟨[(1, .ptr 0 0 0), (2, .ptr 1 0 0), (4, .ptr 2 0 0), (14, .int .i64 (i : Nat))], dN l a b N i (((blksOf l).take i).map blkO)⟩) (fun _ _ => True)
    (fun _ r => r.1 = .exit 6 ∧ lookA r.2.env 2 = .ptr 1 0 0 ∧ lookA r.2.env 4 = .ptr 2 0 0 ∧ r.2.mem = dN l a b N 16 ((blksOf l).map blkO)) ?step ?last () trivial
  case step =>
    intro i _ p hp hi _
    refine ⟨?_, trivial⟩
    obtain ⟨hi8, hpp⟩ := blksOf_at hp
    obtain ⟨M, hM, ml, mi, ms, mt, ma⟩ := snoc_facts blkO_cool hp
    have k1 : decide ((i : Int) < 16) = true := decide_eq_true (by omega)
    have w1 := w_i64 (5 + (i : Int)) (by omega)
    have x1 : (5 + (i : Int)).toNat = 5 + i := by omega
    have p0 : (0 : Int) ≤ 5 + (i : Int) := by omega
    have p1 : 5 + (i : Int) < 21 := by omega
    have g := unit_at l (5 + i) (by omega)
    generalize hs : l.getD (5 + i) ⟨#[]⟩ = s at g hpp
    have hs60 : s.size ≤ 60 := by rw [← hs]; exact unit_le hl _
    have wi := w_i64 ((i : Int) + 1) (by omega)
    have hap : (i + 1) * 48 ≤ 140737488355328 := by omega
    have ev := e154 s (by omega)
    have eb : (blkP s).getD ⟨false, [], ⟨#[]⟩⟩ = p := hpp.symm
    rw [blkA_eq, eb] at ev
    have htk : (List.map slt p.slots).take p.slots.length = List.map slt p.slots := List.take_of_length_le (by simp)
    unfold dN
    simp only [hM]
    rw [← ma]
    unfold blkO at ev ⊢
    simp only [XG, L59_30, h59_30, go_sem, seval, bnd_ite, k1, w1, x1, p0, p1, g, h21, ev, ml, mi, ms, mt, htk, hap, wi, if_true, if_false, Bool.false_eq_true]
    first | done | rfl
  case last =>
    intro _ _
    rw [h8]
    have s8 : ((16 : Nat) : Int) = 16 := rfl
    have tk : (blksOf l).take 16 = blksOf l := List.take_of_length_le (by omega)
    unfold dN
    simp only [XG, L59_30, h59_30, go_sem, seval, bnd_ite, s8, tk, Int.lt_irrefl, decide_false]
    exact .mk (by simp) ⟨rfl, rfl, rfl, rfl⟩
  simpa using this
theorem lp62a (l : List ByteArray) (hl : dvcOk l = true) (h21 : l.length = 21) (a b : List Bool) :
    ∃ r, XL T 0 H62_9 L62_9 ⟨[(1, .ptr 0 0 0), (2, .ptr 1 0 0), (4, .ptr 2 0 0), (37, .ro 1 (((l.map sv).take 5).drop 1)), (38, .int .i64 4), (39, .int .i64 0)], dM l a b 0 []⟩ = some r ∧ r.1 = .exit 0 ∧ lookA r.2.env 1 = .ptr 0 0 0 ∧ lookA r.2.env 2 = .ptr 1 0 0 ∧ lookA r.2.env 4 = .ptr 2 0 0 ∧ r.2.mem = dM l a b 8 ((inosOf l).map inoO) := by
  have h8 : (inosOf l).length = 8 := by simp [inosOf]
  have := XL_each (T := T) (b := 0) (hd := H62_9) (x := L62_9) (List.range 4) (fun (_ : Unit) _ => ()) (fun i _ => ⟨[(1, .ptr 0 0 0), (2, .ptr 1 0 0), (4, .ptr 2 0 0), (37, .ro 1 (((l.map sv).take 5).drop 1)), (38, .int .i64 4), (39, .int .i64 (i : Nat))], dM l a b (2 * i) (((inosOf l).take (2 * i)).map inoO)⟩) (fun _ _ => True)
    (fun _ r => r.1 = .exit 0 ∧ lookA r.2.env 1 = .ptr 0 0 0 ∧ lookA r.2.env 2 = .ptr 1 0 0 ∧ lookA r.2.env 4 = .ptr 2 0 0 ∧ r.2.mem = dM l a b 8 ((inosOf l).map inoO)) ?step ?last () trivial
  case step =>
    intro i _ j hj hi _
    refine ⟨?_, trivial⟩
    rw [List.length_range] at hi
    obtain ⟨p, hp⟩ := get_at (show 2 * i < (inosOf l).length by omega)
    obtain ⟨q, hq⟩ := get_at (show 2 * i + 1 < (inosOf l).length by omega)
    obtain ⟨_, hpp⟩ := inosOf_at hp
    obtain ⟨_, hqq⟩ := inosOf_at hq
    rw [show 1 + 2 * i / 2 = 1 + i by omega, show 2 * i % 2 = 0 by omega] at hpp
    rw [show 1 + (2 * i + 1) / 2 = 1 + i by omega, show (2 * i + 1) % 2 = 1 by omega] at hqq
    obtain ⟨M, hM, ml, mi, ms, mt, ma⟩ := snoc_facts inoO_cool hp
    obtain ⟨M', hM', ml', mi', ms', mt', ma'⟩ := snoc_facts inoO_cool hq
    rw [hM'] at ma
    rw [← ma, List.append_assoc, List.singleton_append] at ma'
    have k1 : decide ((i : Int) < 4) = true := decide_eq_true (by omega)
    have k1' : (i : Int) < 4 := by omega
    have x0 : (0 : Int) ≤ (i : Int) := by omega
    have xi : ((i : Nat) : Int).toNat = i := rfl
    have ll : (((l.map sv).take 5).drop 1).length = 4 := by simp [h21]
    have g := unit_at l (1 + i) (by omega)
    have gd : (((l.map sv).take 5).drop 1).getD i .undef = (l.map sv).getD (1 + i) .undef := by
      rw [List.getD, List.getD, List.getElem?_drop, List.getElem?_take, if_pos (by omega)]
    rw [g] at gd
    obtain ⟨U, hU⟩ : ∃ U, ((l.map sv).take 5).drop 1 = U := ⟨_, rfl⟩
    rw [hU] at ll gd
    generalize hs : l.getD (1 + i) ⟨#[]⟩ = s at gd hpp hqq
    have hs60 : s.size ≤ 60 := by rw [← hs]; exact unit_le hl _
    have wi := w_i64 ((i : Int) + 1) (by omega)
    have hap : (2 * i + 2) * 40 ≤ 140737488355328 := by omega
    have e2 : 2 * (i + 1) = 2 * i + 1 + 1 := by omega
    have m2 : (M ++ [inoO p, inoO q]).length = 2 * i + 1 + 1 := by simp [ml]
    unfold inoU at hpp hqq
    unfold dM
    rw [e2]
    simp only [hM, hU]
    rw [← ma']
    unfold inoO
    by_cases h8 : s.size = 8
    · have d8 : decide ((s.size : Int) = 8) = true := decide_eq_true (by omega)
      rw [if_pos h8] at hpp hqq
      have e0 := e158 (s.extract 0 4)
      have e1 := e158 (s.extract 4 s.size)
      have ex : s.extract 4 s.size = s.extract (4 * 1) (4 * 1 + 4) := by rw [h8]
      rw [ex, ← hqq] at e1
      rw [← show inoD (s.extract (4 * 0) (4 * 0 + 4)) = inoD (s.extract 0 4) from rfl, ← hpp] at e0
      rw [← ex] at e1
      have g4 : (0 : Int) ≤ 4 ∧ (4 : Int) ≤ (s.size : Int) := by omega
      have x4 : (4 : Int).toNat = 4 := rfl
      unfold inoO at e0 e1
      have ht1 : (List.map iv p.ptrs).take p.ptrs.length = List.map iv p.ptrs := List.take_of_length_le (by simp)
      have ht2 : (List.map iv q.ptrs).take q.ptrs.length = List.map iv q.ptrs := List.take_of_length_le (by simp)
      simp only [XG, L62_9, h62_9, go_sem, seval, bnd_ite, k1, k1', x0, xi, ll, gd, d8, e0, e1, g4, x4, ml, mi, ms, mt, ht1, ht2, hap, wi, and_self, Bool.not_true, Bool.false_eq_true, if_false, if_true]
      first | done | rfl
    · have d8 : decide ((s.size : Int) = 8) = false := decide_eq_false (by omega)
      rw [if_neg h8] at hpp hqq
      subst hpp; subst hqq
      have eb := e157 [0, 0, 0, 0, 0, 0, 0, 0] (by simp)
      simp only [List.map_cons, List.map_nil, iv] at eb
      have sz : (byteT [0, 0, 0, 0, 0, 0, 0, 0]).size = 8 := rfl
      have e0 := e158 ((byteT [0, 0, 0, 0, 0, 0, 0, 0]).extract 0 4)
      have e1 := e158 ((byteT [0, 0, 0, 0, 0, 0, 0, 0]).extract 4 8)
      have z0 : inoD ((byteT [0, 0, 0, 0, 0, 0, 0, 0]).extract 0 4) = inoZ := by decide +kernel
      have z1 : inoD ((byteT [0, 0, 0, 0, 0, 0, 0, 0]).extract 4 8) = inoZ := by decide +kernel
      rw [z0] at e0
      rw [z1] at e1
      generalize byteT [0, 0, 0, 0, 0, 0, 0, 0] = B at eb sz e0 e1
      have g4 : (0 : Int) ≤ 4 ∧ (4 : Int) ≤ 8 := by omega
      have x4 : (4 : Int).toNat = 4 := rfl
      simp only [inoO, inoZ, List.map_cons, List.map_nil, iv] at e0 e1
      simp only [inoZ, List.map_cons, List.map_nil, iv]
      simp only [XG, L62_9, h62_9, go_sem, seval, bnd_ite, k1, k1', x0, xi, ll, gd, d8, eb, sz, e0, e1, g4, x4, ml, mi, ms, mt, hap, wi, and_self, Bool.not_true, Bool.not_false, Bool.false_eq_true, if_false, if_true]
      first | done | rfl
  case last =>
    intro _ _
    have s8 : ((4 : Nat) : Int) = 4 := rfl
    have tk : (inosOf l).take 8 = inosOf l := List.take_of_length_le (by omega)
    rw [List.length_range]
    unfold dM
    simp only [XG, L62_9, h62_9, go_sem, seval, bnd_ite, s8, Int.lt_irrefl, decide_false]
    exact .mk (by simp) ⟨rfl, rfl, rfl, rfl, by rw [tk]⟩
  simpa using this
def dW (a b : List Bool) (N : List Ino) (i : Nat) (R : List AV) : Mem := [some (4, [.agg [.nil, .nil, .nil, .nil]]), some (4, [.agg [.own 1 (a.map bv), .own 1 (b.map bv), .own 3 (N.map inoO), .sl 2 0 i]]), some (3, R)]
theorem lp62b (l : List ByteArray) (hl : dvcOk l = true) (h21 : l.length = 21) (a b : List Bool) (N : List Ino) :
    ∃ r, XL T 0 H62_17 L62_17 ⟨[(2, .ptr 0 0 0), (4, .ptr 1 0 0), (62, .ro 1 ((l.map sv).drop 5)), (63, .int .i64 16), (64, .int .i64 0)], dW a b N 0 []⟩ = some r ∧ r.1 = .exit 2 ∧ lookA r.2.env 2 = .ptr 0 0 0 ∧ lookA r.2.env 4 = .ptr 1 0 0 ∧ r.2.mem = dW a b N 16 ((blksOf l).map blkO) := by
  have h8 : (blksOf l).length = 16 := by simp [blksOf]
  have := XL_each (T := T) (b := 0) (hd := H62_17) (x := L62_17) (blksOf l) (fun (_ : Unit) _ => ()) (fun i _ => ⟨[(2, .ptr 0 0 0), (4, .ptr 1 0 0), (62, .ro 1 ((l.map sv).drop 5)), (63, .int .i64 16), (64, .int .i64 (i : Nat))], dW a b N i (((blksOf l).take i).map blkO)⟩) (fun _ _ => True)
    (fun _ r => r.1 = .exit 2 ∧ lookA r.2.env 2 = .ptr 0 0 0 ∧ lookA r.2.env 4 = .ptr 1 0 0 ∧ r.2.mem = dW a b N 16 ((blksOf l).map blkO)) ?step ?last () trivial
  case step =>
    intro i _ p hp hi _
    refine ⟨?_, trivial⟩
    obtain ⟨hi8, hpp⟩ := blksOf_at hp
    obtain ⟨M, hM, ml, mi, ms, mt, ma⟩ := snoc_facts blkO_cool hp
    have k1 : decide ((i : Int) < 16) = true := decide_eq_true (by omega)
    have k1' : (i : Int) < 16 := by omega
    have x0 : (0 : Int) ≤ (i : Int) := by omega
    have xi : ((i : Nat) : Int).toNat = i := rfl
    have ll : ((l.map sv).drop 5).length = 16 := by simp [h21]
    have g := unit_at l (5 + i) (by omega)
    have gd : ((l.map sv).drop 5).getD i .undef = (l.map sv).getD (5 + i) .undef := by
      rw [List.getD, List.getD, List.getElem?_drop]
    rw [g] at gd
    obtain ⟨U, hU⟩ : ∃ U, (l.map sv).drop 5 = U := ⟨_, rfl⟩
    rw [hU] at ll gd
    generalize hs : l.getD (5 + i) ⟨#[]⟩ = s at gd hpp
    have hs60 : s.size ≤ 60 := by rw [← hs]; exact unit_le hl _
    have wi := w_i64 ((i : Int) + 1) (by omega)
    have hap : (i + 1) * 48 ≤ 140737488355328 := by omega
    have ev := e159 s (by omega)
    have eb : (blkP s).getD ⟨false, [], ⟨#[]⟩⟩ = p := hpp.symm
    rw [blkA_eq, eb] at ev
    have htk : (List.map slt p.slots).take p.slots.length = List.map slt p.slots := List.take_of_length_le (by simp)
    unfold dW
    simp only [hM, hU]
    rw [← ma]
    unfold blkO at ev ⊢
    simp only [XG, L62_17, h62_17, go_sem, seval, bnd_ite, k1, k1', x0, xi, ll, gd, ev, ml, mi, ms, mt, htk, hap, wi, if_true, if_false, Bool.false_eq_true]
    first | done | rfl
  case last =>
    intro _ _
    rw [h8]
    have s8 : ((16 : Nat) : Int) = 16 := rfl
    have tk : (blksOf l).take 16 = blksOf l := List.take_of_length_le (by omega)
    unfold dW
    simp only [XG, L62_17, h62_17, go_sem, seval, bnd_ite, s8, tk, Int.lt_irrefl, decide_false]
    exact .mk (by simp) ⟨rfl, rfl, rfl, rfl⟩
  simpa using this
end Go.Proofs.YtaaajjinpppgeaaGreat

