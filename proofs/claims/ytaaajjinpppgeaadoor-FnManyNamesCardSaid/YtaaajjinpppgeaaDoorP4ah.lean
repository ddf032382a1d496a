/- Part 8 of the texts of a claim, joined by a program of ours (Sr, Wk, Mp, Mq, Mr, Ms, Mt, Mv, Mw, Mx, My, Mz, Q4, Wa). No condition. -/
import Derived.Test.YtaaajjinpppgeaaDoorP4ag
import GoSem.ClaimOpenFrom
import GoSem.ClaimJoined
import Derived.JoinedOf
import Derived.ProofKit
import Derived.KernelRfl
set_option linter.unusedVariables false
set_option linter.unusedSimpArgs false
set_option linter.unusedSectionVars false
namespace Go.Proofs.YtaaajjinpppgeaaDoor
open Go Go.Abs
set_option maxRecDepth 100000
theorem XL_to {T : FuncId → Option EF} {b : Nat} {hd : List Vw} {x : EC} {β γ : Type} (S : β → St) (I : β → Prop) (μ : β → Nat) (G : β → γ) (Q : γ → AX × St → Prop)
    (h : ∀ a, I a → (∃ a', XG T b hd x (S a) = some (.normal, S a') ∧ I a' ∧ μ a' < μ a ∧ G a' = G a) ∨ Stops (XG T b hd x (S a)) (Q (G a))) : ∀ a, I a → ∃ r, XL T b hd x (S a) = some r ∧ Q (G a) r := by
  have key : ∀ n a, μ a ≤ n → I a → ∃ r, XL T b hd x (S a) = some r ∧ Q (G a) r := by
    intro n
    induction n with
    | zero =>
      intro a hn ha
      rcases h a ha with ⟨a', _, _, h3, _⟩ | ⟨r, h1, h2, h3⟩
      · omega
      · exact ⟨r, XL_out h1 h2, h3⟩
    | succ n ih =>
      intro a hn ha
      rcases h a ha with ⟨a', h1, h2, h3, h4⟩ | ⟨r, h1, h2, h3⟩
      · obtain ⟨r, k1, k2⟩ := ih a' (by omega) h2
        refine ⟨r, ?_, h4 ▸ k2⟩
        rw [XL_eq, h1]; exact k1
      · exact ⟨r, XL_out h1 h2, h3⟩
  exact fun a => key (μ a) a (Nat.le_refl _)
def ba (l : List UInt8) : ByteArray := ⟨l.toArray⟩
theorem ba_ex (p : ByteArray) (i j : Nat) : p.extract i j = ba ((p.data.toList.take j).drop i) := by
  have h : (p.extract i j).data.toList = (p.data.toList.take j).drop i := by
    rw [ByteArray.data_extract, Array.toList_extract, List.extract_eq_drop_take', List.drop_take]
  unfold ba
  rw [← h]
def namesOf (p : ByteArray) : Option (List ByteArray) := match p.data.toList with
  | [] => none
  | b :: r => if b = 47 then (if r = [] then some [] else if (pieces 47 r).all nameOk && decide ((pieces 47 r).length ≤ 4) then some (pieces 47 r) else none) else none
theorem sz_ba (L : List UInt8) : (ba L).size = L.length := by simp [ba, ByteArray.size]
theorem ex_ba (L : List UInt8) (i j : Nat) : (ba L).extract i j = ba ((L.take j).drop i) := by
  have := ba_ex (ba L) i j
  simpa [ba] using this
theorem ba_inj {a b : List UInt8} : ba a = ba b ↔ a = b := by
  constructor
  · intro h; have := congrArg (fun x : ByteArray => x.data.toList) h; simpa [ba] using this
  · intro h; rw [h]
theorem ba_of (s : ByteArray) : s = ba s.data.toList := by cases s; rfl
theorem ba_l (L : List UInt8) : (ba L).data.toList = L := by simp [ba]
theorem sl_ba : (⟨#[47]⟩ : ByteArray) = ba [47] := rfl
theorem ba_nil (r : List UInt8) : (ba r = ⟨#[]⟩) = (r = []) := propext (ba_inj (b := []))
theorem sl_sz : (⟨#[47]⟩ : ByteArray).size = 1 := rfl
def starts (L : List UInt8) : Bool := match L with
  | [] => false
  | b :: _ => decide (b = 47)
theorem e84 (L : List UInt8) (hl : L.length ≤ maxLen) : E T 84 [.str (ba L), .str ⟨#[47]⟩] [] = some (.bool (starts L), []) := by
  rw [E_eq t84 (Nat.le_of_ble_eq_true rfl)]
  unfold maxLen at hl
  cases L with
  | nil =>
    simp only [F84, go_sem, seval, bnd_ite, sz_ba, sl_sz]
    first | done | rfl
  | cons b r =>
    have h1 : (1 : Int) ≤ ((r.length + 1 : Nat) : Int) := by omega
    simp only [F84, go_sem, seval, bnd_ite, sz_ba, sl_sz, List.length_cons, ex_ba, sl_ba, ba_inj]
    rw [if_pos (by omega), if_pos (by omega)]
    simp [starts]
theorem e52 (L : List UInt8) (hl : L.length ≤ maxLen) : E T 52 [.str (ba L), .str ⟨#[47]⟩] [] = some (.tup [.str (if starts L = true then ba (L.drop 1) else ba L), .bool (starts L)], []) := by
  rw [E_eq t52 (Nat.le_of_ble_eq_true rfl)]
  have h := e84 L hl
  unfold maxLen at hl
  simp only [F52, go_sem, seval, bnd_ite, h, sz_ba, sl_sz]
  cases hs : starts L with
  | false => simp
  | true =>
    have h1 : 1 ≤ L.length := by cases L with | nil => simp [starts] at hs | cons b r => simp
    simp only [Bool.not_true, Bool.false_eq_true, if_false, if_true]
    rw [if_pos (by omega), ex_ba, List.take_of_length_le (by first | exact Nat.le_refl _ | omega)]
    first | done | rfl
theorem e21 (L : List UInt8) (hl : L.length ≤ maxLen) : E T 21 [.str (ba L), .str ⟨#[47]⟩] [] = some (.tup [.str (if starts L = true then ba (L.drop 1) else ba L), .bool (starts L)], []) := by
  rw [E_eq t21 (Nat.le_of_ble_eq_true rfl)]
  simp only [F21, go_sem, seval, bnd_ite, e52 L hl]
theorem e22 (r : List UInt8) (h : r.length ≤ 1048576) : E T 22 [.str (ba r), .str ⟨#[47]⟩] [] = some (.own 1 ((pieces 47 r).map sv), []) := by
  rw [E_orc (T := T) (f := 22) (F := ⟨.ret, [], 0, .one, some splitO⟩) (g := splitO) t22 rfl]
  show cond (Nat.blt (ba r).size 4294967281) (some ((AV.own 1 ((pieces 47 (ba r).data.toList).map AV.str) : AV), ([] : Mem))) none = _
  rw [sz_ba, ba_l, show Nat.blt r.length 4294967281 = true by rw [Nat.blt_eq]; omega]
  rfl
theorem cut_le (c : UInt8) : ∀ (r cur : List UInt8), ∀ x ∈ cutS c cur r, x.length ≤ cur.length + r.length
  | [], cur, x, h => by simp [cutS] at h; subst h; simp
  | b :: r, cur, x, h => by
    unfold cutS at h
    split at h
    · rcases List.mem_cons.1 h with rfl | h
      · simp
      · have := cut_le c r [] x h; simp at this ⊢; omega
    · have := cut_le c r (cur ++ [b]) x h; simp at this ⊢; omega
theorem pieces_le {r : List UInt8} {q : ByteArray} (h : q ∈ pieces 47 r) : q.size ≤ r.length := by
  obtain ⟨x, hx, rfl⟩ := List.mem_map.1 h
  have := cut_le 47 r [] x hx
  simpa [ByteArray.size] using this
theorem cut_len (c : UInt8) : ∀ (r cur : List UInt8), (cutS c cur r).length ≤ r.length + 1
  | [], cur => by simp [cutS]
  | b :: r, cur => by
    unfold cutS
    split
    · have := cut_len c r []; simp; omega
    · have := cut_len c r (cur ++ [b]); simp; omega
theorem pieces_len (r : List UInt8) : (pieces 47 r).length ≤ r.length + 1 := by
  unfold pieces; rw [List.length_map]; exact cut_len 47 r []
def outN (o : Option (List ByteArray)) : AV := .tup [.own 1 ((o.getD []).map sv), .bool o.isSome]
theorem e6 (p : ByteArray) (hl : p.size ≤ 1048576) : E T 6 [.str p] [] = some (outN (namesOf p), []) := by
  rw [ba_of p] at hl ⊢
  unfold namesOf
  rw [ba_l]
  rw [sz_ba] at hl
  generalize p.data.toList = L at *
  rw [E_eqW t6 (Nat.le_of_ble_eq_true rfl)]
  have h1 := e21 L (by unfold maxLen; omega)
  cases L with
  | nil =>
    simp only [F6, go_sem, seval, bnd_ite, h1, starts]
    first | done | rfl
  | cons b r =>
    by_cases hb : b = 47
    case neg =>
      simp only [F6, go_sem, seval, bnd_ite, h1, starts, hb, decide_false, if_false]
      first | done | rfl
    case pos =>
    subst hb
    simp only [List.length_cons] at hl
    have h2 := e22 r (by omega)
    have h1' : E T 21 [.str (ba (47 :: r)), .str ⟨#[47]⟩] [] = some (.tup [.str (ba r), .bool true], []) := h1
    simp only [F6, h6_8, go_sem, seval, bnd_ite, h1', h2, ba_nil, if_true]
    by_cases hr : r = []
    · subst hr
      simp only [go_sem, seval, if_true]
      first | done | rfl
    rw [if_neg (by simpa using hr)]
    simp only [hr, if_false, go_sem, seval, bnd_ite]
    have hpl := pieces_len r
    have hps : ∀ q ∈ pieces 47 r, q.size ≤ r.length := fun q hq => pieces_le hq
    generalize pieces 47 r = l at *
    obtain ⟨⟨y, e, m⟩, k1, k2⟩ := XL_all (T := T) (b := 0) (hd := H6_8) (x := L6_8) l nameOk (fun i => ⟨[(6, .sl 0 0 l.length), (20, .sl 0 0 l.length), (21, .int .i64 l.length), (22, .int .i64 (i : Nat))], [some (1, l.map sv)]⟩)
      (fun r => r.1 = .exit 0 ∧ lookA r.2.env 6 = .sl 0 0 l.length ∧ r.2.mem = [some (1, l.map sv)]) (fun r => r.1 = .ret ∧ lookA r.2.env 2 = .nil ∧ lookA r.2.env 3 = .bool false ∧ r.2.mem = [some (1, l.map sv)])
      (by
        intro i q hq hi hp _
        have hi1 : (i : Int) < (l.length : Int) := by omega
        have hz := hps q (List.mem_of_getElem? hq)
        have e1 := e23 q (by unfold maxLen; omega)
        simp only [XG, L6_8, h6_8, go_sem, seval, bnd_ite, hi1, hi, gD_map hq, sv, e1, hp, Int.natCast_nonneg, w_i64 ((i : Int) + 1) (by omega)]
        first | done | rfl)
      (by
        intro i q hq hi hp _
        have hi1 : (i : Int) < (l.length : Int) := by omega
        have hz := hps q (List.mem_of_getElem? hq)
        have e1 := e23 q (by unfold maxLen; omega)
        simp only [XG, L6_8, h6_8, go_sem, seval, bnd_ite, hi1, hi, gD_map hq, sv, e1, hp, Int.natCast_nonneg, w_i64 ((i : Int) + 1) (by omega)]
        exact .mk (by simp) ⟨rfl, rfl, rfl, rfl⟩)
      (by
        intro _
        simp only [XG, L6_8, h6_8, go_sem, seval, bnd_ite, Int.lt_irrefl, decide_false]
        exact .mk (by simp) ⟨rfl, rfl, rfl⟩)
    have hs : ((0 : Nat) : Int) = 0 := rfl
    simp only [hs] at k1
    rcases k2 with ⟨h, q1, q2, q3⟩ | ⟨h, q1, q2, q3, q4⟩ <;> simp only at q1 q2 q3 <;> subst q1
    · subst q3
      simp only [k1, h, go_sem, seval, bnd_ite, q2, Bool.true_and]
      by_cases h4 : l.length ≤ 4
      · have h4' : ¬ (4 : Int) < (l.length : Int) := by omega
        simp only [h4, h4', decide_true, decide_false, if_true, go_sem, seval, bnd_ite, q2]
        first | done | rfl
      · have h4' : (4 : Int) < (l.length : Int) := by omega
        simp only [h4, h4', decide_true, decide_false, if_true, go_sem, seval, bnd_ite, q2]
        first | done | rfl
    · simp only at q4; subst q4
      simp only [k1, h, go_sem, seval, bnd_ite, q2, q3, Bool.false_and]
      first | done | rfl
theorem names_len (p : ByteArray) : ((namesOf p).getD []).length ≤ 4 := by
  unfold namesOf
  split
  · simp
  · rename_i b r _
    split
    · split
      · simp
      · split
        · rename_i h; simp at h; simpa using h.2
        · simp
    · simp
end Go.Proofs.YtaaajjinpppgeaaDoor
namespace Go.Proofs.YtaaajjinpppgeaaDoor
open Go Go.Abs
set_option maxRecDepth 100000
def dskC (x : Dsk) : AV := .agg [.ro 1 (x.used.map bv), .ro 1 (x.taken.map bv), .ro 3 (x.inos.map ino), .ro 3 (x.blks.map blk)]
theorem slot_at {l : List Slt} {n : ByteArray} (h : 0 ≤ slotOf l n) : ∃ (k : Nat) (s : Slt), slotOf l n = (k : Nat) ∧ l[k]? = some s ∧ s.name = n ∧ n.size ≠ 0 := by
  unfold slotOf at h ⊢
  by_cases hn : n.size = 0
  · rw [if_pos hn] at h; omega
  · rw [if_neg hn] at h ⊢
    cases hf : l.findIdx? (fun x => decide (x.name = n)) with
    | none => rw [hf] at h; simp only at h; omega
    | some k =>
      obtain ⟨h1, h2, _⟩ := List.findIdx?_eq_some_iff_getElem.1 hf
      exact ⟨k, l[k], rfl, List.getElem?_eq_getElem h1, by simpa using h2, hn⟩
theorem slot_dir {x : Dsk} (hx : DskOk x) {p : Int} {n : ByteArray} (h : 0 ≤ slotOf (blkOf x p).slots n) : (blkOf x p).dir = true ∧ inside p 1 x.blks.length = true := by
  obtain ⟨k, s, _, h2, _⟩ := slot_at h
  cases hc : inside p 1 x.blks.length with
  | false =>
    unfold blkOf at h2; rw [hc] at h2
    simp [blk0] at h2
  | true =>
    refine ⟨?_, rfl⟩
    have hm := List.mem_of_getElem? (blkOf_mem hc)
    have hb := hx.blk _ hm
    generalize blkOf x p = b at *
    unfold blkOk at hb
    cases hd : b.dir with
    | true => rfl
    | false =>
      rw [hd] at hb
      simp at hb
      have : b.slots = [] := List.length_eq_zero_iff.1 (by simpa using hb.1)
      rw [this] at h2; simp at h2
def stepN (x : Dsk) (i : Int) (n : ByteArray) : Option (Int × Int × Int) :=
  if (inoOf x i).kind = 2 then
    match (inoOf x i).ptrs.findIdx? (fun p => decide (0 ≤ slotOf (blkOf x p).slots n)) with
    | some j => some ((inoOf x i).ptrs.getD j 0, slotOf (blkOf x ((inoOf x i).ptrs.getD j 0)).slots n, ((blkOf x ((inoOf x i).ptrs.getD j 0)).slots.getD (slotOf (blkOf x ((inoOf x i).ptrs.getD j 0)).slots n).toNat slt0).ino)
    | none => none
  else none
def walkN (x : Dsk) : Int → List ByteArray → Int
  | i, [] => i
  | i, n :: r => match stepN x i n with
    | some q => walkN x q.2.2 r
    | none => 0
def pair2 (o : Option (Int × Int × Int)) : AV := match o with
  | some q => .tup [.int .i64 q.1, .int .i64 q.2.1]
  | none => .tup [.int .i64 0, .int .i64 0]
theorem e60 (x : Dsk) (h : x.sm) (i : Int) (n : ByteArray) : E T 60 [dsk x, .int .i64 i, .str n] [] = some (pair2 (stepN x i n), []) := by
  rw [E_eq t60 (Nat.le_of_ble_eq_true rfl)]
  have e1 := e32u x h i
  have hp := inoOf_sm h i
  unfold stepN
  generalize inoOf x i = p at *
  obtain ⟨pk, pl, l⟩ := p
  unfold Ino.sm at hp
  simp only at hp
  unfold dsk at e1 ⊢
  rw [show ino ⟨pk, pl, l⟩ = .agg [.int .i64 pk, .int .i64 pl, .ro 1 (l.map iv)] from rfl] at e1
  by_cases hk : pk = 2
  case neg =>
    simp only [F60, go_sem, seval, bnd_ite, e1, hk, decide_false, Bool.not_false, if_true, if_false]
    first | done | rfl
  case pos =>
    simp only [F60, h60_5, go_sem, seval, bnd_ite, e1, hk, decide_true, Bool.not_true, Bool.false_eq_true, if_true, if_false]
    obtain ⟨⟨y, e, m⟩, k1, k2⟩ := XL_find (T := T) (b := 0) (hd := H60_5) (x := L60_5) l (fun q => decide (0 ≤ slotOf (blkOf x q).slots n)) (fun j => ⟨[(2, .str n), (3, .ptr 0 0 0), (19, .ro 1 (l.map iv)), (20, .int .i64 l.length), (21, .int .i64 (j : Nat))], [some (4, [dskC x])]⟩)
      (fun o r => match o with
        | some j => r.1 = .ret ∧ lookA r.2.env 6 = .int .i64 (l.getD j 0) ∧ lookA r.2.env 7 = .int .i64 (slotOf (blkOf x (l.getD j 0)).slots n) ∧ r.2.mem = [some (4, [dskC x])]
        | none => r.1 = .exit 0 ∧ r.2.mem = [some (4, [dskC x])])
      (by
        intro j q hq hj hP _
        have j1 : (j : Int) < (l.length : Int) := by omega
        have gq : (l.map iv).getD j .undef = .int .i64 q := gD_map hq
        have e2 := e46u x h q
        have hb := blkOf_sm h q
        have hw := w_i64 ((j : Int) + 1) (by omega)
        generalize blkOf x q = b at *
        have e3 := e92 b n (by unfold Blk.sm at hb; unfold maxLen; omega)
        unfold dsk at e2
        rw [show blk b = .agg [.bool b.dir, .ro 2 (b.slots.map slt), .str b.text] from rfl] at e2 e3
        have hP : ¬ 0 ≤ slotOf b.slots n := by simpa using hP
        unfold dskC
        simp only [XG, L60_5, h60_5, go_sem, seval, bnd_ite, j1, gq, e2, e3, hP, hw, Int.natCast_nonneg, decide_false, decide_true, if_true, if_false, Bool.false_eq_true]
        first | done | rfl)
      (by
        intro j q hq hj hP _
        have j1 : (j : Int) < (l.length : Int) := by omega
        have gq : (l.map iv).getD j .undef = .int .i64 q := gD_map hq
        have gl : l.getD j 0 = q := getD_at hq
        have e2 := e46u x h q
        have hb := blkOf_sm h q
        have hw := w_i64 ((j : Int) + 1) (by omega)
        simp only [gl]
        generalize blkOf x q = b at *
        have e3 := e92 b n (by unfold Blk.sm at hb; unfold maxLen; omega)
        unfold dsk at e2
        rw [show blk b = .agg [.bool b.dir, .ro 2 (b.slots.map slt), .str b.text] from rfl] at e2 e3
        have hP : 0 ≤ slotOf b.slots n := by simpa using hP
        unfold dskC
        simp only [XG, L60_5, h60_5, go_sem, seval, bnd_ite, j1, gq, e2, e3, hP, hw, Int.natCast_nonneg, decide_false, decide_true, if_true, if_false, Bool.false_eq_true]
        exact .mk (by simp) ⟨rfl, rfl, rfl, rfl⟩)
      (by
        intro _
        unfold dskC
        simp only [XG, L60_5, h60_5, go_sem, seval, bnd_ite, Int.lt_irrefl, decide_false]
        exact .mk (by simp) ⟨rfl, rfl⟩)
    have hs : ((0 : Nat) : Int) = 0 := rfl
    unfold dskC at k1
    simp only [hs] at k1
    cases hf : l.findIdx? (fun q => decide (0 ≤ slotOf (blkOf x q).slots n)) with
    | none =>
      rw [hf] at k2
      obtain ⟨q1, q2⟩ := k2
      simp only at q1 q2
      subst q1
      simp only [k1, go_sem, seval, bnd_ite, q2]
      first | done | rfl
    | some j =>
      rw [hf] at k2
      obtain ⟨q1, q2, q3, q4⟩ := k2
      simp only at q1 q2 q3 q4
      subst q1
      simp only [k1, go_sem, seval, bnd_ite, q2, q3, q4]
      first | done | rfl
theorem drop_at {α : Type} {l : List α} {i : Nat} {a : α} (h : l[i]? = some a) : l.drop i = a :: l.drop (i + 1) := by
  obtain ⟨hi, rfl⟩ := List.getElem?_eq_some_iff.1 h
  exact List.drop_eq_getElem_cons hi
theorem stepN_some {x : Dsk} (hx : DskOk x) {i : Int} {n : ByteArray} {q : Int × Int × Int} (h : stepN x i n = some q) :
    inside q.1 1 x.blks.length = true ∧ (blkOf x q.1).dir = true ∧ ∃ (k : Nat) (s : Slt), q.2.1 = (k : Nat) ∧ (blkOf x q.1).slots[k]? = some s ∧ q.2.2 = s.ino ∧ s.name = n ∧ n.size ≠ 0 := by
  unfold stepN at h
  split at h
  case isFalse => cases h
  split at h
  case h_2 => cases h
  rename_i j hf
  cases h
  obtain ⟨h1, h2, _⟩ := List.findIdx?_eq_some_iff_getElem.1 hf
  have hp : (inoOf x i).ptrs.getD j 0 = (inoOf x i).ptrs[j] := by simp [List.getD, h1]
  have h3 : 0 ≤ slotOf (blkOf x ((inoOf x i).ptrs.getD j 0)).slots n := by rw [hp]; simpa using h2
  obtain ⟨d1, d2⟩ := slot_dir hx h3
  obtain ⟨k, s, s1, s2, s3, s4⟩ := slot_at h3
  refine ⟨d2, d1, k, s, s1, s2, ?_, s3, s4⟩
  show ((blkOf x ((inoOf x i).ptrs.getD j 0)).slots.getD (slotOf (blkOf x ((inoOf x i).ptrs.getD j 0)).slots n).toNat slt0).ino = s.ino
  rw [s1, Int.toNat_natCast, getD_at s2]
def endW (x : Dsk) (g : Int) (r : AX × St) : Prop :=
  (r.1 = .exit 0 ∧ lookA r.2.env 5 = .int .i64 g ∧ r.2.mem = [some (4, [dskC x])]) ∨ (r.1 = .ret ∧ g = 0 ∧ lookA r.2.env 4 = .int .i64 0 ∧ r.2.mem = [some (4, [dskC x])])
theorem e31 (x : Dsk) (h : x.sm) (hx : DskOk x) (l : List ByteArray) (hl : l.length ≤ 1048576) : E T 31 [dsk x, .ro 1 (l.map sv)] [] = some (.int .i64 (walkN x 1 l), []) := by
  rw [E_eq t31 (Nat.le_of_ble_eq_true rfl)]
  have hi8 := hx.inos
  have hb16 := hx.blks
  have n0 : ¬ ((x.inos.length : Int) = 0) := by omega
  unfold dsk
  simp only [F31, h31_5, go_sem, seval, bnd_ite, n0, decide_false, Bool.false_eq_true, if_false]
  obtain ⟨⟨y, e, m⟩, k1, k2⟩ := XL_to (T := T) (b := 0) (hd := H31_5) (x := L31_5) (fun a : Nat × Int => ⟨[(2, .ptr 0 0 0), (5, .int .i64 a.2), (14, .ro 1 (l.map sv)), (15, .int .i64 l.length), (16, .int .i64 (a.1 : Nat))], [some (4, [dskC x])]⟩)
    (fun a => a.1 ≤ l.length) (fun a => l.length + 1 - a.1) (fun a => walkN x a.2 (l.drop a.1)) (endW x) (by
      rintro ⟨i, at_⟩ hi
      simp only at hi
      by_cases h1 : i < l.length
      case neg =>
        right
        have ei : i = l.length := by omega
        subst ei
        unfold dskC
        simp only [XG, L31_5, h31_5, go_sem, seval, bnd_ite, Int.lt_irrefl, decide_false, List.drop_length, walkN]
        exact .mk (by simp) (.inl ⟨rfl, rfl, rfl⟩)
      case pos =>
        obtain ⟨n, hn⟩ := get_at h1
        have i1 : (i : Int) < (l.length : Int) := by omega
        have gn : (l.map sv).getD i .undef = .str n := gD_map hn
        have e1 := e60 x h at_ n
        have wi := w_i64 ((i : Int) + 1) (by omega)
        have hd := drop_at hn
        unfold dsk at e1
        cases hq : stepN x at_ n with
        | none =>
          right
          rw [hq] at e1
          unfold pair2 at e1
          simp only at e1
          unfold dskC
          simp only [XG, L31_5, h31_5, go_sem, seval, bnd_ite, i1, gn, e1, Int.natCast_nonneg, decide_true, if_true, hd]
          exact .mk (by simp) (.inr ⟨rfl, by simp [walkN, hq], rfl, rfl⟩)
        | some q =>
          left
          rw [hq] at e1
          obtain ⟨c1, _, k, s, c2, c3, c4, _⟩ := stepN_some hx hq
          obtain ⟨q1, q2, q3⟩ := q
          simp only at c1 c2 c3 c4
          unfold pair2 at e1
          simp only at e1
          have gb : (x.blks.map blk).getD (q1 - 1).toNat .undef = .agg [.bool (blkOf x q1).dir, .ro 2 ((blkOf x q1).slots.map slt), .str (blkOf x q1).text] := gD_map (blkOf_mem c1)
          have hsm := blkOf_sm h q1
          unfold Blk.sm at hsm
          have hk := (List.getElem?_eq_some_iff.1 c3).1
          simp only [inside, Bool.and_eq_true, decide_eq_true_eq] at c1
          have z0 : ¬ q1 = 0 := by omega
          have z1 : 0 ≤ q1 - 1 := by omega
          have z2 : q1 - 1 < (x.blks.length : Int) := by omega
          have wq := w_i64 (q1 - 1) (by omega)
          subst c2
          have z3 : (k : Int) < ((blkOf x q1).slots.length : Int) := by omega
          have gs : ((blkOf x q1).slots.map slt).getD k .undef = .agg [.str s.name, .int .i64 s.ino] := gD_map c3
          refine ⟨(i + 1, q3), ?_, by show i + 1 ≤ l.length; omega, by show l.length + 1 - (i + 1) < l.length + 1 - i; omega, ?_⟩
          · unfold dskC
            simp only [XG, L31_5, h31_5, go_sem, seval, bnd_ite, i1, gn, e1, z0, z1, z2, z3, wq, wi, gb, gs, Int.toNat_natCast, Int.natCast_nonneg, decide_true, decide_false, if_true, if_false, Bool.false_eq_true]
            rw [c4]
            first | done | rfl
          · show walkN x q3 (l.drop (i + 1)) = walkN x at_ (l.drop i)
            rw [hd]; simp [walkN, hq]) (0, 1) (Nat.zero_le _)
  have hs : ((0 : Nat) : Int) = 0 := rfl
  unfold dskC at k1
  simp only [hs] at k1
  simp only [List.drop_zero] at k2
  rcases k2 with ⟨q1, q2, q3⟩ | ⟨q1, q2, q3, q4⟩ <;> simp only at q1 <;> subst q1
  · simp only at q2 q3; subst q3
    simp only [k1, go_sem, seval, bnd_ite, q2]
    first | done | rfl
  · simp only at q3 q4; subst q4
    simp only [k1, go_sem, seval, bnd_ite, q2, q3]
    first | done | rfl
end Go.Proofs.YtaaajjinpppgeaaDoor
namespace Go.Proofs.YtaaajjinpppgeaaDoor
open Go Go.Abs
set_option maxRecDepth 100000
def unitB (p : Int) : Int := if inside p 1 16 then p + 4 else -1
def unitI (i : Int) : Int := if inside i 1 8 then 1 + (i - 1).tdiv 2 else -1
theorem e70 (p : Int) : E T 70 [.int .i64 p] [] = some (.int .i64 (unitB p), []) := by
  rw [E_eq t70 (Nat.le_of_ble_eq_true rfl)]
  have e1 := e78 p
  unfold unitB
  cases hc : inside p 1 16 with
  | false =>
    rw [hc] at e1
    simp only [F70, go_sem, seval, bnd_ite, e1, Bool.not_false, if_true]
    first | done | rfl
  | true =>
    rw [hc] at e1
    simp only [inside, Bool.and_eq_true, decide_eq_true_eq] at hc
    have w1 := w_i64 (p + 5) (by omega)
    have w2 := w_i64 (p + 5 - 1) (by omega)
    simp only [F70, go_sem, seval, bnd_ite, e1, w1, w2, Bool.not_true, Bool.false_eq_true, if_false, if_true]
    rw [show p + 5 - 1 = p + 4 by omega]
    first | done | rfl
theorem e69 (i : Int) : E T 69 [.int .i64 i] [] = some (.int .i64 (unitI i), []) := by
  rw [E_eq t69 (Nat.le_of_ble_eq_true rfl)]
  have e1 := e79 i
  unfold unitI
  cases hc : inside i 1 8 with
  | false =>
    rw [hc] at e1
    simp only [F69, go_sem, seval, bnd_ite, e1, Bool.not_false, if_true]
    first | done | rfl
  | true =>
    rw [hc] at e1
    simp only [inside, Bool.and_eq_true, decide_eq_true_eq] at hc
    have w1 := w_i64 (i - 1) (by omega)
    have hq : (i - 1).tdiv 2 = (i - 1) / 2 := Int.tdiv_eq_ediv_of_nonneg (by omega)
    have w2 := w_i64 ((i - 1) / 2) (by omega)
    have w3 := w_i64 (1 + (i - 1) / 2) (by omega)
    simp only [F69, go_sem, seval, bnd_ite, e1, w1, hq, w2, w3, Bool.not_true, Bool.false_eq_true, if_false, if_true]
    first | done | rfl
def roomM (x : Mm) : Bool := decide (x.deps.length ≤ 32) && decide (x.next ≤ 99000)
theorem e36 (x : Mm) (h : x.sm) : E T 36 [mm x] [] = some (.bool (!roomM x), []) := by
  rw [E_eq t36 (Nat.le_of_ble_eq_true rfl)]
  unfold roomM
  by_cases h1 : x.deps.length ≤ 32
  · have c1 : ¬ (32 : Int) < (x.deps.length : Int) := by omega
    by_cases h2 : x.next ≤ 99000
    · have c2 : ¬ (99000 : Int) < x.next := by omega
      simp only [mm, F36, go_sem, seval, bnd_ite, c1, c2, h1, h2, decide_true, decide_false, Bool.false_eq_true, if_false, Bool.and_self, Bool.not_true]
      first | done | rfl | trace_state
    · have c2 : (99000 : Int) < x.next := by omega
      simp only [mm, F36, go_sem, seval, bnd_ite, c1, c2, h1, h2, decide_true, decide_false, Bool.false_eq_true, if_false, Bool.and_false, Bool.not_false]
      first | done | rfl | trace_state
  · have c1 : (32 : Int) < (x.deps.length : Int) := by omega
    simp only [mm, F36, go_sem, seval, bnd_ite, c1, h1, decide_true, decide_false, if_true, Bool.false_and, Bool.not_false]
    first | done | rfl | trace_state
def idxOf (l : List Int) (n : Int) : Int := match l.findIdx? (fun a => decide (n = a)) with
  | some j => (j : Nat)
  | none => -1
theorem e67i (l : List Int) (n : Int) (hl : l.length ≤ maxLen) : E T 67 [.ro 1 (l.map iv), .int .i64 n] [] = some (.int .i64 (idxOf l n), []) := by
  rw [E_eq t67 (Nat.le_of_ble_eq_true rfl)]
  unfold maxLen at hl
  unfold idxOf
  refine (XL_find (T := T) (b := 0) (hd := H67_2) (x := L67_2) l (fun a => decide (n = a)) (fun i => ⟨[(0, .ro 1 (l.map iv)), (1, .int .i64 n), (7, .int .i64 l.length), (8, .int .i64 (i : Nat))], []⟩)
    (fun o r => match o with | some i => r.1 = .ret ∧ lookA r.2.env 4 = .int .i64 (i : Nat) | none => r.1 = .exit 0) ?step ?hit ?last).elim ?main
  case step =>
    intro i d hp hi hP _
    have hi1 : (i : Int) < (l.length : Int) := by omega
    have gp : (l.map iv).getD i .undef = .int .i64 d := gD_map hp
    simp only [XG, L67_2, h67_2, go_sem, seval, bnd_ite, hi1, gp, Int.natCast_nonneg, w_i64 ((i : Int) + 1) (by omega), hP, Bool.false_eq_true, if_false]
    rfl
  case hit =>
    intro i d hp hi hP _
    have hi1 : (i : Int) < (l.length : Int) := by omega
    have gp : (l.map iv).getD i .undef = .int .i64 d := gD_map hp
    simp only [XG, L67_2, h67_2, go_sem, seval, bnd_ite, hi1, gp, Int.natCast_nonneg, w_i64 ((i : Int) + 1) (by omega), hP, if_true]
    exact .mk (by simp) ⟨rfl, rfl⟩
  case last =>
    intro _
    simp only [XG, L67_2, h67_2, go_sem, seval, bnd_ite, Int.lt_irrefl, decide_false]
    exact .mk (by simp) rfl
  case main =>
  rintro ⟨y, e, m⟩ ⟨k1, k2⟩
  have hs : ((0 : Nat) : Int) = 0 := rfl
  simp only [hs] at k1
  split at k2
  · rename_i o i heq
    obtain ⟨k2, k3⟩ := k2
    simp only at k2 k3; subst k2
    simp only [F67, h67_2, go_sem, seval, bnd_ite, k1, k3, heq]
    first | done | rfl | trace_state
  · rename_i o heq
    simp only at k2; subst k2
    simp only [F67, h67_2, go_sem, seval, bnd_ite, k1, heq]
    first | done | rfl | trace_state
def hasSlot (x : Mm) (dir : Int) : Bool := decide (0 < (freeSlot x dir).1) || (decide (0 ∈ (inoOf x.disk dir).ptrs) && decide (0 < ffree x.disk.used))
theorem e35 (x : Mm) (h : x.sm) (dir : Int) : E T 35 [mm x, .int .i64 dir] [] = some (.bool (hasSlot x dir), []) := by
  rw [E_eq t35 (Nat.le_of_ble_eq_true rfl)]
  have e1 := e64 x h dir
  have e2 := e32u x.disk h.disk dir
  have hp := inoOf_sm h.disk dir
  have e4 := e34 x.disk.used h.disk.used
  unfold hasSlot
  generalize inoOf x.disk dir = q at *
  obtain ⟨pk, pl, l⟩ := q
  unfold Ino.sm at hp
  simp only at hp
  have e3 := e63 l 0 (by unfold maxLen; omega)
  rw [show ino ⟨pk, pl, l⟩ = .agg [.int .i64 pk, .int .i64 pl, .ro 1 (l.map iv)] from rfl] at e2
  unfold dsk at e2
  unfold mm at e1 ⊢
  simp only
  generalize freeSlot x dir = f at *
  cases c1 : decide (0 < f.1) with
  | true =>
    simp only [F35, go_sem, seval, bnd_ite, e1, c1, if_true, Bool.true_or]
    first | done | rfl | trace_state
  | false =>
    cases c2 : decide (0 ∈ l) with
    | false =>
      rw [c2] at e3
      simp only [F35, go_sem, seval, bnd_ite, e1, e2, e3, c1, Bool.false_eq_true, if_false, Bool.false_or, Bool.false_and]
      first | done | rfl | trace_state
    | true =>
      rw [c2] at e3
      simp only [F35, go_sem, seval, bnd_ite, e1, e2, e3, e4, c1, Bool.false_eq_true, if_false, if_true, Bool.false_or, Bool.true_and]
      first | done | rfl | trace_state
theorem e68 : E T 68 [] [] = some (.agg [.bool true, .own 2 (List.replicate 4 (.agg [.str ⟨#[]⟩, .int .i64 0])), .str ⟨#[]⟩], []) := by
  rw [E_eq t68 (Nat.le_of_ble_eq_true rfl)]
  simp only [F68, go_sem, seval, bnd_ite]
  first | done | rfl | trace_state
theorem e29 (p : ByteArray) (hp : p.size ≤ 1048576) : E T 29 [.str p] [] = some (.tup [.own 1 (((namesOf p).getD []).map sv), .bool ((namesOf p).isSome && decide (0 < ((namesOf p).getD []).length))], []) := by
  rw [E_eq t29 (Nat.le_of_ble_eq_true rfl)]
  have e1 := e6 p hp
  unfold outN at e1
  generalize (namesOf p).getD [] = l at *
  cases hq : (namesOf p).isSome with
  | false =>
    rw [hq] at e1
    simp only [F29, go_sem, seval, bnd_ite, e1, Bool.false_and, Bool.false_eq_true, if_false, tkO]
    first | done | rfl | trace_state
  | true =>
    rw [hq] at e1
    have hc : decide ((0 : Int) < (l.length : Int)) = decide (0 < l.length) := by congr 1; apply propext; omega
    simp only [F29, go_sem, seval, bnd_ite, e1, Bool.true_and, if_true, tkO, hc]
    first | done | rfl | trace_state
theorem e17 (x : Dsk) (h : x.sm) (hx : DskOk x) (p : ByteArray) (hp : p.size ≤ 1048576) (l : List ByteArray) (hl : namesOf p = some l) : E T 17 [dsk x, .str p] [] = some (.int .i64 (walkN x 1 l), []) := by
  rw [E_eq t17 (Nat.le_of_ble_eq_true rfl)]
  have e1 := e6 p hp
  have hn := names_len p
  unfold outN at e1
  rw [hl] at e1 hn
  simp only [Option.getD_some, Option.isSome_some] at e1 hn
  have e2 := e31 x h hx l (by omega)
  unfold dsk at e2 ⊢
  simp only [F17, go_sem, seval, bnd_ite, e1, e2, Bool.not_true, Bool.false_eq_true, if_false, tkO]
  first | done | rfl | trace_state
end Go.Proofs.YtaaajjinpppgeaaDoor
namespace Go.Proofs.YtaaajjinpppgeaaDoor
open Go Go.Abs
set_option maxRecDepth 100000
theorem e62 (d : Dp) (hk : d.kind ≠ 4) (a b c s : AV) : E T 62 [dp d, .rop [a, b, c], .rop [s]] [] = some (.bool false, []) := by
  rw [E_eq t62 (Nat.le_of_ble_eq_true rfl)]
  simp only [dp, F62, go_sem, seval, bnd_ite, hk, decide_false, Bool.false_eq_true, if_false]
  first | done | rfl | trace_state
theorem e82s (l : List Dp) (a b c s : AV) (hl : l.length ≤ maxLen) (hk : ∀ d ∈ l, d.kind ≠ 4) : E T 82 [.ro 11 (l.map dp), .fn 62 [.rop [a, b, c], .rop [s]]] [] = some (.int .i64 (-1), []) := by
  rw [E_eq t82 (Nat.le_of_ble_eq_true rfl)]
  unfold maxLen at hl
  refine (XL_find (T := T) (b := 0) (hd := H82_2) (x := L82_2) l (fun d => decide (d.kind = 4)) (fun i => ⟨[(0, .ro 11 (l.map dp)), (1, .fn 62 [.rop [a, b, c], .rop [s]]), (7, .int .i64 l.length), (8, .int .i64 (i : Nat))], []⟩)
    (fun o r => match o with | some i => True | none => r.1 = .exit 0) ?step ?hit ?last).elim ?main
  case step =>
    intro i d hp hi hP _
    have hi1 : (i : Int) < (l.length : Int) := by omega
    have gp : (l.map dp).getD i .undef = .agg (dpV d) := gD_map hp
    have e1 : E T 62 [.agg (dpV d), .rop [a, b, c], .rop [s]] [] = some (.bool false, []) := e62 d (by simpa using hP) a b c s
    unfold dpV at gp e1
    simp only [XG, L82_2, h82_2, go_sem, seval, bnd_ite, hi1, gp, Int.natCast_nonneg, w_i64 ((i : Int) + 1) (by omega), e1, Bool.false_eq_true, if_false]
    first | done | rfl | trace_state
  case hit =>
    intro i d hp hi hP _
    exact absurd (by simpa using hP) (hk d (List.mem_of_getElem? hp))
  case last =>
    intro _
    simp only [XG, L82_2, h82_2, go_sem, seval, bnd_ite, Int.lt_irrefl, decide_false]
    exact .mk (by simp) rfl
  case main =>
  rintro ⟨y, e, m⟩ ⟨k1, k2⟩
  have hs : ((0 : Nat) : Int) = 0 := rfl
  simp only [hs] at k1
  have hf : l.findIdx? (fun d => decide (d.kind = 4)) = none := find_none.2 fun q hq => decide_eq_false (hk q hq)
  rw [hf] at k2
  simp only at k2; subst k2
  simp only [F82, h82_2, go_sem, seval, bnd_ite, k1]
  first | done | rfl | trace_state
theorem e33 (x : Mm) (h : x.sm) (dir : Int) (s : ByteArray) (hk : ∀ d ∈ x.deps, d.kind ≠ 4) : E T 33 [mm x, .int .i64 dir, .str s] [] = some (.bool false, []) := by
  rw [E_eq t33 (Nat.le_of_ble_eq_true rfl)]
  have e2 := e32u x.disk h.disk dir
  have hl := h.deps
  generalize inoOf x.disk dir = q at *
  obtain ⟨pk, pl, l⟩ := q
  rw [show ino ⟨pk, pl, l⟩ = .agg [.int .i64 pk, .int .i64 pl, .ro 1 (l.map iv)] from rfl] at e2
  have e3 := e82s x.deps (.int .i64 pk) (.int .i64 pl) (.ro 1 (l.map iv)) (.str s) (by unfold maxLen; omega) hk
  have e4 : E T 61 [.ro 11 (x.deps.map dp), .fn 62 [.rop [.int .i64 pk, .int .i64 pl, .ro 1 (l.map iv)], .rop [.str s]]] [] = some (.bool false, []) := by
    rw [E_eq t61 (Nat.le_of_ble_eq_true rfl)]
    simp only [F61, go_sem, seval, bnd_ite, e3]
    first | done | rfl | trace_state
  unfold dsk at e2
  unfold mm
  simp only [F33, go_sem, seval, bnd_ite, e2, e4]
  first | done | rfl | trace_state
theorem x30 (a : AV) (mem : Mem) : E T 30 [a] mem = bnd (X T mem.length F30.body ⟨enumA 0 [a], mem⟩) (finE mem.length F30.results) := E_eq t30 (Nat.le_of_ble_eq_true rfl)
end Go.Proofs.YtaaajjinpppgeaaDoor
namespace Go.Proofs.YtaaajjinpppgeaaDoor
open Go Go.Abs
set_option maxRecDepth 100000
structure Mk (x : Mm) (p nm : ByteArray) (k : Int) : Prop where
  sm : x.sm
  ok : x.ok
  mem : memOk x = true
  psz : p.size ≤ 1048576
  names : namesOf p = some [nm]
  away : walkN x.disk 1 [nm] = 0
  dir : (inoOf x.disk 1).kind = 2
  deps : ∀ d ∈ x.deps, d.kind ≠ 4
  kind : k = 1 ∨ k = 2
set_option maxHeartbeats 1000000 in
theorem e13f (x : Mm) (p nm : ByteArray) (k : Int) (h : Mk x p nm k) (hf : ffree x.disk.taken = 0) : E T 13 [mm x, .str p, .int .i64 k] [] = some (.tup [mmO x, .int .i64 4], []) := by
  rw [E_eq t13 (Nat.le_of_ble_eq_true rfl)]
  have e1 := e28 x h.sm
  have e2 := e29 p h.psz
  have e3 := e19 x h.ok
  rw [h.mem] at e3
  rw [h.names] at e2
  simp only [Option.getD_some, Option.isSome_some, List.map_cons, List.map_nil, Bool.true_and] at e2
  obtain ⟨hd, hdl, hdp, hn1, hn2⟩ := memHead_use (show memHead x = true by have hm := h.mem; unfold memOk at hm; simp only [Bool.and_eq_true] at hm; exact hm.1)
  have e4 := e31 x.disk h.sm.disk hd [] (by simp)
  have e5 := e31 x.disk h.sm.disk hd [nm] (by simp)
  rw [h.away] at e5
  simp only [List.map_nil, List.map_cons, walkN] at e4 e5
  have e6 := e32u x.disk h.sm.disk 1
  have hk := h.dir
  have e7 := e33 x h.sm 1 nm h.deps
  have e8 := e34 x.disk.taken h.sm.disk.taken
  rw [hf] at e8
  have c1 : (!decide (k = 1) && !decide (k = 2)) = false := by
    rcases h.kind with hh | hh <;> simp [hh]
  have w0 : IntKind.i64.wrap 0 = 0 := rfl
  simp only [dsk, ino] at e4 e5 e6
  simp only [mm, mmO, sv, List.length_cons, List.length_nil] at e1 e2 e3 e5 e7 ⊢
  simp only [F13, x30, F30, go_sem, seval, bnd_ite, e1, e2, e3, e4, e5, e6, e7, e8, c1, hk, w0, Int.toNat_zero, List.getD_cons_zero, decide_true, decide_false, Bool.not_true, Bool.false_eq_true, if_false, if_true, tkO, Bool.true_and, Bool.false_and]
  first | done | rfl | trace_state
end Go.Proofs.YtaaajjinpppgeaaDoor
namespace Go.Proofs.YtaaajjinpppgeaaDoor
open Go Go.Abs
set_option maxRecDepth 100000
theorem x39 (a b c d : AV) (mem : Mem) : E T 39 [a, b, c, d] mem = bnd (X T mem.length F39.body ⟨enumA 0 [a, b, c, d], mem⟩) (finE mem.length F39.results) := E_eq t39 (Nat.le_of_ble_eq_true rfl)
theorem x66 (a b c d : AV) (mem : Mem) : E T 66 [a, b, c, d] mem = bnd (X T mem.length F66.body ⟨enumA 0 [a, b, c, d], mem⟩) (finE mem.length F66.results) := E_eq t66 (Nat.le_of_ble_eq_true rfl)
theorem x94 (a : AV) : E T 94 [a] [] = bnd (X T 0 F94.body ⟨enumA 0 [a], []⟩) (finE 0 F94.results) := E_eq t94 (Nat.le_of_ble_eq_true rfl)
theorem set_map {α : Type} {f : α → AV} {l : List α} {i : Nat} {x : α} : (l.map f).set i (f x) = (l.set i x).map f := by rw [List.map_set]
theorem getD_set {l : List AV} {i : Nat} (h : i < l.length) (v : AV) : (l.set i v).getD i .undef = v := by simp [List.getD, h]
theorem setiv (l : List Int) (k : Nat) (n : Int) : (l.map iv).set k (.int .i64 n) = (l.set k n).map iv := by rw [List.map_set]; rfl
theorem e99n : E T 99 [.nil] [] = some (.own 1 [], []) := by
  rw [E_eqW t99 (Nat.le_of_ble_eq_true rfl)]
  simp only [F99, go_sem, seval, bnd_ite]
  first | done | rfl
theorem e91n (id k i q b s : Int) : E T 91 [.agg [.int .i64 id, .int .i64 k, .int .i64 i, .int .i64 q, .int .i64 b, .int .i64 s, .str ⟨#[]⟩, .bool false, .bool false, .int .i64 0, .nil]] [] = some (.agg [.int .i64 id, .int .i64 k, .int .i64 i, .int .i64 q, .int .i64 b, .int .i64 s, .str ⟨#[]⟩, .bool false, .bool false, .int .i64 0, .own 1 []], []) := by
  rw [E_eq t91 (Nat.le_of_ble_eq_true rfl)]
  simp only [F91, go_sem, seval, bnd_ite, e99n]
  first | done | rfl
theorem ffree_le (l : List Bool) : ffree l = 0 ∨ (1 ≤ ffree l ∧ ffree l ≤ (l.length : Int)) := by
  unfold ffree
  cases hf : l.findIdx? (fun b => !b) with
  | none => exact .inl rfl
  | some i =>
    right
    have := (List.findIdx?_eq_some_iff_getElem.1 hf).1
    simp only; omega
def depA (id i b s : Int) : Dp := ⟨id, 2, i, 0, b, s, ⟨#[]⟩, false, false, 0, []⟩
def nodeN (x : Mm) (k : Int) : Mm := { x with disk := { x.disk with taken := x.disk.taken.set (ffree x.disk.taken - 1).toNat true, inos := x.disk.inos.set (ffree x.disk.taken - 1).toNat ⟨k, 1, [0, 0]⟩ }, dirty := x.dirty.set 0 true }
def nameN (y : Mm) (nm : ByteArray) (i p s : Int) : Mm := { disk := { y.disk with blks := y.disk.blks.set (p - 1).toNat { blkOf y.disk p with slots := (blkOf y.disk p).slots.set s.toNat ⟨nm, i⟩ } }, dirty := ((y.dirty.set 0 true).set (unitI i).toNat true).set (unitB p).toNat true, deps := y.deps ++ [depA y.next i p s], next := y.next + 1 }
theorem freeIn_some {x : Mm} {p : Int} {k : Nat} (h : freeIn x p = some k) : k < (blkOf x.disk p).slots.length ∧ inside p 1 x.disk.blks.length = true := by
  unfold freeIn at h
  obtain ⟨h1, _, _⟩ := List.findIdx?_eq_some_iff_getElem.1 h
  rw [List.length_range] at h1
  refine ⟨h1, ?_⟩
  cases hc : inside p 1 x.disk.blks.length with
  | true => rfl
  | false => unfold blkOf at h1; rw [hc] at h1; simp [blk0] at h1
theorem freeSlot_some {x : Mm} {d : Int} (h : 0 < (freeSlot x d).1) : ∃ k : Nat, (freeSlot x d).2 = (k : Nat) ∧ k < (blkOf x.disk (freeSlot x d).1).slots.length ∧ inside (freeSlot x d).1 1 x.disk.blks.length = true := by
  unfold freeSlot at h ⊢
  cases hf : (inoOf x.disk d).ptrs.findIdx? (fun p => (freeIn x p).isSome) with
  | none => rw [hf] at h; simp at h
  | some j =>
    obtain ⟨h1, h2, _⟩ := List.findIdx?_eq_some_iff_getElem.1 hf
    have hp : (inoOf x.disk d).ptrs.getD j 0 = (inoOf x.disk d).ptrs[j] := by simp [List.getD, h1]
    obtain ⟨k, hk⟩ := Option.isSome_iff_exists.1 h2
    obtain ⟨h3, h4⟩ := freeIn_some hk
    simp only [hp, hk, Option.getD_some]
    exact ⟨k, rfl, h3, h4⟩
set_option maxHeartbeats 4000000 in
theorem e13a (x : Mm) (p nm : ByteArray) (k : Int) (h : Mk x p nm k) (hf : ffree x.disk.taken ≠ 0) (hro : roomM x = true) (hs : hasSlot x 1 = true) (hp : 0 < (freeSlot (nodeN x k) 1).1) :
    E T 13 [mm x, .str p, .int .i64 k] [] = some (.tup [mmO (nameN (nodeN x k) nm (ffree x.disk.taken) (freeSlot (nodeN x k) 1).1 (freeSlot (nodeN x k) 1).2), .int .i64 0], []) := by
  rw [E_eq t13 (Nat.le_of_ble_eq_true rfl)]
  have hb1 := freeSlot_some hp
  have e1 := e28 x h.sm
  have e2 := e29 p h.psz
  have e3 := e19 x h.ok
  rw [h.mem] at e3
  rw [h.names] at e2
  simp only [Option.getD_some, Option.isSome_some, List.map_cons, List.map_nil, Bool.true_and] at e2
  obtain ⟨hd, hdl, hdp, hn1, hn2⟩ := memHead_use (show memHead x = true by have hm := h.mem; unfold memOk at hm; simp only [Bool.and_eq_true] at hm; exact hm.1)
  have e4 := e31 x.disk h.sm.disk hd [] (by simp)
  have e5 := e31 x.disk h.sm.disk hd [nm] (by simp)
  rw [h.away] at e5
  simp only [List.map_nil, List.map_cons, walkN] at e4 e5
  have e6 := e32u x.disk h.sm.disk 1
  have hk := h.dir
  have e7 := e33 x h.sm 1 nm h.deps
  have e8 := e34 x.disk.taken h.sm.disk.taken
  have e9 := e35 x h.sm 1
  rw [hs] at e9
  have e10 := e36 x h.sm
  rw [hro] at e10
  have c1 : (!decide (k = 1) && !decide (k = 2)) = false := by
    rcases h.kind with hh | hh <;> simp [hh]
  have hk0 : k ≠ 0 := by rcases h.kind with hh | hh <;> omega
  have e11 := e38k k
  rw [if_neg hk0] at e11
  have w0 : IntKind.i64.wrap 0 = 0 := rfl
  rcases ffree_le x.disk.taken with h0 | ⟨f1, f2⟩
  · exact absurd h0 hf
  have u16 := hd.used
  have t8 := hd.taken
  have b16 := hd.blks
  have i8 := hd.inos
  have hdepsm := h.sm.dep
  have hysm : (nodeN x k).sm := ⟨⟨h.sm.disk.used, by simpa [nodeN] using h.sm.disk.taken, by simpa [nodeN] using h.sm.disk.inos, h.sm.disk.blks, fun q hq => by
    rcases List.mem_or_eq_of_mem_set hq with hq | rfl
    · exact h.sm.disk.ino q hq
    · exact (by decide : (2 : Nat) ≤ 1048576), h.sm.disk.blk⟩, by simpa [nodeN] using h.sm.dirty, h.sm.deps, h.sm.dep⟩
  have e12 := e64 (nodeN x k) hysm 1
  generalize hP : freeSlot (nodeN x k) 1 = P at *
  obtain ⟨p1, p2⟩ := P
  simp only at hp hb1 ⊢
  obtain ⟨s, rfl, hs1, hs2⟩ := hb1
  have hbo : blkOf (nodeN x k).disk p1 = blkOf x.disk p1 := rfl
  rw [hbo] at hs1
  have hs2 : inside p1 1 x.disk.blks.length = true := hs2
  generalize hnn : ffree x.disk.taken = n at *
  unfold nodeN at e12
  rw [hnn] at e12
  have n0 : 0 < n := by omega
  have nz : ¬ n = 0 := by omega
  have n1 : 0 ≤ n - 1 := by omega
  have n2 : n - 1 < (x.disk.taken.length : Int) := by omega
  have n3 : (n - 1).toNat < x.disk.taken.length := by omega
  have n4 : n - 1 < (x.disk.inos.length : Int) := by omega
  have n5 : (n - 1).toNat < x.disk.inos.length := by omega
  have wn := w_i64 (n - 1) (by omega)
  obtain ⟨u, hu1⟩ := get_at n3
  have gu : (x.disk.taken.map bv).getD (n - 1).toNat .undef = .bool u := gD_map hu1
  obtain ⟨I, hI⟩ := get_at n5
  have gI : (x.disk.inos.map inoO).getD (n - 1).toNat .undef = .agg [.int .i64 I.kind, .int .i64 I.links, .own 1 (I.ptrs.map iv)] := gD_map hI
  have m0 := e48i 0 0 ((x.dirty.length : Int) - 1)
  rw [show inside 0 0 ((x.dirty.length : Int) - 1) = true by simp [inside]; omega] at m0
  have wd := w_i64 ((x.dirty.length : Int) - 1) (by omega)
  have dz : 0 < x.dirty.length := by omega
  have dz1 : (0 : Int) < (x.dirty.length : Int) := by omega
  obtain ⟨v0, hv0⟩ := get_at dz
  have gv0 : (x.dirty.map bv).getD 0 .undef = .bool v0 := gD_map hv0
  have tku : List.take x.disk.taken.length (List.map bv (x.disk.taken.set (n - 1).toNat true)) = List.map bv (x.disk.taken.set (n - 1).toNat true) := List.take_of_length_le (by simp)
  have tkd0 : List.take x.dirty.length (List.map bv (x.dirty.set 0 true)) = List.map bv (x.dirty.set 0 true) := List.take_of_length_le (by simp)
  have hio : (x.disk.inos.map inoO).set (n - 1).toNat (.agg [.int .i64 k, .int .i64 1, .own 1 [.int .i64 0, .int .i64 0]]) = (x.disk.inos.set (n - 1).toNat ⟨k, 1, [0, 0]⟩).map inoO := by
    have e : (x.disk.inos.map inoO).set (n - 1).toNat (inoO ⟨k, 1, [0, 0]⟩) = (x.disk.inos.set (n - 1).toNat ⟨k, 1, [0, 0]⟩).map inoO := set_map (f := inoO)
    exact e
  have tki : ∀ P : Ino, List.take x.disk.inos.length ((x.disk.inos.set (n - 1).toNat P).map inoO) = (x.disk.inos.set (n - 1).toNat P).map inoO := fun P => List.take_of_length_le (by simp)
  have tkz : ∀ z : AV, List.take x.disk.inos.length ((x.disk.inos.map inoO).set (n - 1).toNat z) = (x.disk.inos.map inoO).set (n - 1).toNat z := fun z => List.take_of_length_le (by simp)
  have hls : ∀ v : AV, ((x.disk.inos.map inoO).set (n - 1).toNat v).length = x.disk.inos.length := fun v => by simp
  have hgs : ∀ v : AV, ((x.disk.inos.map inoO).set (n - 1).toNat v).getD (n - 1).toNat .undef = v := fun v => getD_set (by rw [List.length_map]; exact n5) v
  have isi : ∀ u (z : AV), idsL u ((x.disk.inos.map inoO).set (n - 1).toNat z) = idsV u z := fun u z => by
    rw [is_set _ _ _ _ (inoO_is u _), if_pos (by rw [List.length_map]; exact n5)]
  have lu : (x.disk.taken.set (n - 1).toNat true).length = x.disk.taken.length := by simp
  have ld : (x.dirty.set 0 true).length = x.dirty.length := by simp
  have hps := hs2
  simp only [inside, Bool.and_eq_true, decide_eq_true_eq] at hps
  have p0 : ¬ p1 = 0 := by omega
  have b1 : 0 ≤ p1 - 1 := by omega
  have b2 : p1 - 1 < (x.disk.blks.length : Int) := by omega
  have b3 : (p1 - 1).toNat < x.disk.blks.length := by omega
  have wb := w_i64 (p1 - 1) (by omega)
  have gB : (x.disk.blks.map blkO).getD (p1 - 1).toNat .undef = .agg [.bool (blkOf x.disk p1).dir, .own 2 ((blkOf x.disk p1).slots.map slt), .str (blkOf x.disk p1).text] := gD_map (blkOf_mem hs2)
  have s1 : (s : Int) < ((blkOf x.disk p1).slots.length : Int) := by omega
  obtain ⟨S, hS⟩ := get_at hs1
  have gS : ((blkOf x.disk p1).slots.map slt).getD s .undef = .agg [.str S.name, .int .i64 S.ino] := gD_map hS
  have hso : ((blkOf x.disk p1).slots.map slt).set s (.agg [.str nm, .int .i64 n]) = ((blkOf x.disk p1).slots.set s ⟨nm, n⟩).map slt := by
    have e : ((blkOf x.disk p1).slots.map slt).set s (slt ⟨nm, n⟩) = ((blkOf x.disk p1).slots.set s ⟨nm, n⟩).map slt := set_map (f := slt)
    exact e
  have tkS : List.take (blkOf x.disk p1).slots.length (((blkOf x.disk p1).slots.set s ⟨nm, n⟩).map slt) = ((blkOf x.disk p1).slots.set s ⟨nm, n⟩).map slt := List.take_of_length_le (by simp)
  have hlb : ∀ v : AV, ((x.disk.blks.map blkO).set (p1 - 1).toNat v).length = x.disk.blks.length := fun v => by simp
  have hgb : ∀ v : AV, ((x.disk.blks.map blkO).set (p1 - 1).toNat v).getD (p1 - 1).toNat .undef = v := fun v => getD_set (by rw [List.length_map]; exact b3) v
  have isb : ∀ u (z : AV), idsL u ((x.disk.blks.map blkO).set (p1 - 1).toNat z) = idsV u z := fun u z => by
    rw [is_set _ _ _ _ (blkO_is u _), if_pos (by rw [List.length_map]; exact b3)]
  have hbk : (x.disk.blks.map blkO).set (p1 - 1).toNat (.agg [.bool (blkOf x.disk p1).dir, .own 2 (((blkOf x.disk p1).slots.set s ⟨nm, n⟩).map slt), .str (blkOf x.disk p1).text]) = (x.disk.blks.set (p1 - 1).toNat { blkOf x.disk p1 with slots := (blkOf x.disk p1).slots.set s ⟨nm, n⟩ }).map blkO := by
    have e : (x.disk.blks.map blkO).set (p1 - 1).toNat (blkO { blkOf x.disk p1 with slots := (blkOf x.disk p1).slots.set s ⟨nm, n⟩ }) = (x.disk.blks.set (p1 - 1).toNat { blkOf x.disk p1 with slots := (blkOf x.disk p1).slots.set s ⟨nm, n⟩ }).map blkO := set_map (f := blkO)
    exact e
  have tkb : ∀ P : Blk, List.take x.disk.blks.length ((x.disk.blks.set (p1 - 1).toNat P).map blkO) = (x.disk.blks.set (p1 - 1).toNat P).map blkO := fun P => List.take_of_length_le (by simp)
  have im : p1 + -1 = p1 - 1 := rfl
  have eu := e69 n
  have eb := e70 p1
  have hui : unitI n = 1 + (n - 1) / 2 := by
    unfold unitI; rw [show inside n 1 8 = true by simp [inside]; omega]
    rw [if_pos rfl, Int.tdiv_eq_ediv_of_nonneg (by omega)]
  have hub : unitB p1 = p1 + 4 := by unfold unitB; rw [show inside p1 1 16 = true by simp [inside]; omega]; rfl
  have ui2 : 0 ≤ unitI n := by rw [hui]; omega
  have ui3 : unitI n < (x.dirty.length : Int) := by rw [hui]; omega
  have ub2 : 0 ≤ unitB p1 := by rw [hub]; omega
  have ub3 : unitB p1 < (x.dirty.length : Int) := by rw [hub]; omega
  have m1 := e48i (unitI n) 0 ((x.dirty.length : Int) - 1)
  rw [show inside (unitI n) 0 ((x.dirty.length : Int) - 1) = true by simp [inside]; omega] at m1
  have m2 := e48i (unitB p1) 0 ((x.dirty.length : Int) - 1)
  rw [show inside (unitB p1) 0 ((x.dirty.length : Int) - 1) = true by simp [inside]; omega] at m2
  have ui4 : (unitI n).toNat < x.dirty.length := by omega
  have ub4 : (unitB p1).toNat < x.dirty.length := by omega
  have dd : (x.dirty.set 0 true).set 0 true = x.dirty.set 0 true := List.set_set ..
  have gv00 : ((x.dirty.set 0 true).map bv).getD 0 .undef = .bool true := by
    rw [← setv]; exact getD_set (by rw [List.length_map]; exact dz) _
  obtain ⟨v1, hv1⟩ := get_at (show (unitI n).toNat < (x.dirty.set 0 true).length by rw [List.length_set]; exact ui4)
  have gv1 : ((x.dirty.set 0 true).map bv).getD (unitI n).toNat .undef = .bool v1 := gD_map hv1
  obtain ⟨v2, hv2⟩ := get_at (show (unitB p1).toNat < ((x.dirty.set 0 true).set (unitI n).toNat true).length by rw [List.length_set, List.length_set]; exact ub4)
  have gv2 : (((x.dirty.set 0 true).set (unitI n).toNat true).map bv).getD (unitB p1).toNat .undef = .bool v2 := gD_map hv2
  have tkd1 : List.take x.dirty.length (List.map bv ((x.dirty.set 0 true).set (unitI n).toNat true)) = List.map bv ((x.dirty.set 0 true).set (unitI n).toNat true) := List.take_of_length_le (by simp)
  have tkd2 : List.take x.dirty.length (List.map bv (((x.dirty.set 0 true).set (unitI n).toNat true).set (unitB p1).toNat true)) = List.map bv (((x.dirty.set 0 true).set (unitI n).toNat true).set (unitB p1).toNat true) := List.take_of_length_le (by simp)
  have tks : ∀ z : AV, (x.deps.map dpO ++ [z]).take (x.deps.length + 1) = x.deps.map dpO ++ [z] := fun z => List.take_of_length_le (by simp)
  have sn : x.deps.map dpO ++ [.agg [.int .i64 x.next, .int .i64 2, .int .i64 n, .int .i64 0, .int .i64 p1, .int .i64 s, .str ⟨#[]⟩, .bool false, .bool false, .int .i64 0, .own 1 []]] = (x.deps ++ [depA x.next n p1 s]).map dpO := by simp [dpO, depA]
  have tl : ((x.deps ++ [depA x.next n p1 s]).map dpO).take (x.deps.length + 1) = (x.deps ++ [depA x.next n p1 s]).map dpO := List.take_of_length_le (by simp)
  have hnx : x.next ≤ 99000 := by unfold roomM at hro; simp at hro; exact hro.2
  have hdx : x.deps.length ≤ 32 := by unfold roomM at hro; simp at hro; exact hro.1
  have w1 := w_i64 (x.next + 1) (by omega)
  have q1 : (x.deps.length : Int) < 40 := by omega
  have q2 := e48i x.next 1 99999
  rw [show inside x.next 1 99999 = true by simp [inside]; omega] at q2
  have q3 : (x.deps.length + 1) * 104 ≤ 140737488355328 := by omega
  have hN : nameN (nodeN x k) nm n p1 (s : Nat) = ⟨⟨x.disk.used, x.disk.taken.set (n - 1).toNat true, x.disk.inos.set (n - 1).toNat ⟨k, 1, [0, 0]⟩, x.disk.blks.set (p1 - 1).toNat ⟨(blkOf x.disk p1).dir, (blkOf x.disk p1).slots.set s ⟨nm, n⟩, (blkOf x.disk p1).text⟩⟩, ((x.dirty.set 0 true).set (unitI n).toNat true).set (unitB p1).toNat true, x.deps ++ [depA x.next n p1 (s : Nat)], x.next + 1⟩ := by
    have h0 : (nodeN x k).dirty.set 0 true = x.dirty.set 0 true := dd
    have h1 : nodeN x k = { x with disk := { x.disk with taken := x.disk.taken.set (n - 1).toNat true, inos := x.disk.inos.set (n - 1).toNat ⟨k, 1, [0, 0]⟩ }, dirty := x.dirty.set 0 true } := by unfold nodeN; rw [hnn]
    unfold nameN
    rw [h0, h1]
    rfl
  rw [hN]
  simp only [dsk, ino] at e4 e5 e6
  simp only [mm, mmO, sv, List.length_cons, List.length_nil] at e1 e2 e3 e5 e7 e9 e10 e12 ⊢
  simp only [F13, x30, F30, x37, F37, x65, F65, x39, F39, x71, F71, x94, F94, e91n, go_sem, seval, bnd_ite, e1, e2, e3, e4, e5, e6, e7, e8, e9, e10, e11, e12, c1, hk, w0, nz, n0, n1, n2, n3, n4, n5, wn, gu, gI, m0, wd, dz, dz1, gv0, setv, tku, tkd0, hio, tki, tkz, hls, hgs, isi, lu, ld, p0, b1, b2, b3, wb, gB, s1, hs1, gS, hso, tkS, hbk, tkb, hlb, hgb, isb, im, eu, eb, ui2, ui3, ub2, ub3, ui4, ub4, m1, m2, dd, gv00, gv1, gv2, tkd1, tkd2, tks, sn, tl, w1, q1, q2, q3, List.length_map, List.length_set, Int.toNat_zero, Int.toNat_natCast, Int.natCast_nonneg, List.getD_cons_zero, decide_true, decide_false, Bool.not_true, Bool.false_eq_true, if_false, if_true, tkO, Bool.true_and, Bool.false_and, Bool.or_self]
end Go.Proofs.YtaaajjinpppgeaaDoor
namespace Go.Proofs.YtaaajjinpppgeaaDoor
open Go Go.Abs
set_option maxRecDepth 100000
def depN (id i k n : Int) : Dp := ⟨id, 1, i, k, n, 0, ⟨#[]⟩, false, false, 0, []⟩
def newD : Blk := ⟨true, [⟨⟨#[]⟩, 0⟩, ⟨⟨#[]⟩, 0⟩, ⟨⟨#[]⟩, 0⟩, ⟨⟨#[]⟩, 0⟩], ⟨#[]⟩⟩
def growD (y : Mm) (i k : Int) : Mm :=
  { disk := { y.disk with
      used := y.disk.used.set (ffree y.disk.used - 1).toNat true
      inos := y.disk.inos.set (i - 1).toNat { inoOf y.disk i with ptrs := (inoOf y.disk i).ptrs.set k.toNat (ffree y.disk.used) }
      blks := y.disk.blks.set (ffree y.disk.used - 1).toNat newD }
    dirty := ((y.dirty.set 0 true).set (unitI i).toNat true).set (unitB (ffree y.disk.used)).toNat true
    deps := y.deps ++ [depN y.next i k (ffree y.disk.used)], next := y.next + 1 }
theorem q42 {a : Nat} (h : a ≤ 32) : (a + 1 + 1) * 104 ≤ 140737488355328 := by omega
theorem q41 {a : Nat} (h : a ≤ 32) : (a + 1) * 104 ≤ 140737488355328 := by omega
theorem q40 {a : Nat} (h : a ≤ 32) : ((a + 1 : Nat) : Int) < 40 := by omega
theorem q39 {a : Nat} (h : a ≤ 32) : (a : Int) < 40 := by omega
theorem gdb {D : List Bool} {i : Nat} (h : i < D.length) : (D.map bv).getD i .undef = .bool (D.getD i false) := by
  simp [List.getD, h, bv]
theorem is_set2 (u : Bool → Nat → Nat → Nat → List Nat) (l : List AV) (i : Nat) (z w : AV) (h : idsL u l = []) (h0 : 0 < i) (h1 : i < l.length) : idsL u ((l.set i z).set 0 w) = idsV u w ++ idsV u z := by
  cases l with
  | nil => simp at h1
  | cons a l =>
    cases i with
    | zero => omega
    | succ i =>
      have ha : idsV u a ++ idsL u l = [] := h
      have hl : idsL u l = [] := (List.append_eq_nil_iff.1 ha).2
      show idsV u w ++ idsL u (l.set i z) = _
      rw [is_set u l i z hl, if_pos (by simpa using h1)]
set_option maxHeartbeats 4000000 in
theorem e13b (x : Mm) (p nm : ByteArray) (k : Int) (h : Mk x p nm k) (hf : ffree x.disk.taken ≠ 0) (hro : roomM x = true) (hs : hasSlot x 1 = true) (hp : freeSlot (nodeN x k) 1 = (0, 0)) (hn1' : ffree x.disk.taken ≠ 1) (j : Nat) (hj : (inoOf x.disk 1).ptrs.findIdx? (fun a => decide (0 = a)) = some j) (hfu : ffree x.disk.used ≠ 0) :
    E T 13 [mm x, .str p, .int .i64 k] [] = some (.tup [mmO (nameN (growD (nodeN x k) 1 (j : Nat)) nm (ffree x.disk.taken) (ffree x.disk.used) 0), .int .i64 0], []) := by
  rw [E_eq t13 (Nat.le_of_ble_eq_true rfl)]
  have e1 := e28 x h.sm
  have e2 := e29 p h.psz
  have e3 := e19 x h.ok
  rw [h.mem] at e3
  rw [h.names] at e2
  simp only [Option.getD_some, Option.isSome_some, List.map_cons, List.map_nil, Bool.true_and] at e2
  obtain ⟨hd, hdl, hdp, hn1, hn2⟩ := memHead_use (show memHead x = true by have hm := h.mem; unfold memOk at hm; simp only [Bool.and_eq_true] at hm; exact hm.1)
  have e4 := e31 x.disk h.sm.disk hd [] (by simp)
  have e5 := e31 x.disk h.sm.disk hd [nm] (by simp)
  rw [h.away] at e5
  simp only [List.map_nil, List.map_cons, walkN] at e4 e5
  have e6 := e32u x.disk h.sm.disk 1
  have hk := h.dir
  have e7 := e33 x h.sm 1 nm h.deps
  have e8 := e34 x.disk.taken h.sm.disk.taken
  have e9 := e35 x h.sm 1
  rw [hs] at e9
  have e10 := e36 x h.sm
  rw [hro] at e10
  have c1 : (!decide (k = 1) && !decide (k = 2)) = false := by
    rcases h.kind with hh | hh <;> simp [hh]
  have hk0 : k ≠ 0 := by rcases h.kind with hh | hh <;> omega
  have e11 := e38k k
  rw [if_neg hk0] at e11
  have w0 : IntKind.i64.wrap 0 = 0 := rfl
  rcases ffree_le x.disk.taken with h0 | ⟨f1, f2⟩
  · exact absurd h0 hf
  have u16 := hd.used
  have t8 := hd.taken
  have b16 := hd.blks
  have i8 := hd.inos
  have hdepsm := h.sm.dep
  have hysm : (nodeN x k).sm := ⟨⟨h.sm.disk.used, by simpa [nodeN] using h.sm.disk.taken, by simpa [nodeN] using h.sm.disk.inos, h.sm.disk.blks, fun q hq => by
    rcases List.mem_or_eq_of_mem_set hq with hq | rfl
    · exact h.sm.disk.ino q hq
    · exact (by decide : (2 : Nat) ≤ 1048576), h.sm.disk.blk⟩, by simpa [nodeN] using h.sm.dirty, h.sm.deps, h.sm.dep⟩
  have e12 := e64 (nodeN x k) hysm 1
  rw [hp] at e12
  rcases ffree_le x.disk.used with h0 | ⟨g1, g2⟩
  · exact absurd h0 hfu
  have e13 := e34 x.disk.used h.sm.disk.used
  generalize hmm : ffree x.disk.used = p1 at *
  generalize hnn : ffree x.disk.taken = n at *
  unfold nodeN at e12
  rw [hnn] at e12
  have n0 : 0 < n := by omega
  have nz : ¬ n = 0 := by omega
  have n1 : 0 ≤ n - 1 := by omega
  have n2 : n - 1 < (x.disk.taken.length : Int) := by omega
  have n3 : (n - 1).toNat < x.disk.taken.length := by omega
  have n4 : n - 1 < (x.disk.inos.length : Int) := by omega
  have n5 : (n - 1).toNat < x.disk.inos.length := by omega
  have wn := w_i64 (n - 1) (by omega)
  obtain ⟨u, hu1⟩ := get_at n3
  have gu : (x.disk.taken.map bv).getD (n - 1).toNat .undef = .bool u := gD_map hu1
  obtain ⟨I, hI⟩ := get_at n5
  have gI : (x.disk.inos.map inoO).getD (n - 1).toNat .undef = .agg [.int .i64 I.kind, .int .i64 I.links, .own 1 (I.ptrs.map iv)] := gD_map hI
  have m0 := e48i 0 0 ((x.dirty.length : Int) - 1)
  rw [show inside 0 0 ((x.dirty.length : Int) - 1) = true by simp [inside]; omega] at m0
  have wd := w_i64 ((x.dirty.length : Int) - 1) (by omega)
  have dz : 0 < x.dirty.length := by omega
  have dz1 : (0 : Int) < (x.dirty.length : Int) := by omega
  obtain ⟨v0, hv0⟩ := get_at dz
  have gv0 : (x.dirty.map bv).getD 0 .undef = .bool v0 := gD_map hv0
  have tku : List.take x.disk.taken.length (List.map bv (x.disk.taken.set (n - 1).toNat true)) = List.map bv (x.disk.taken.set (n - 1).toNat true) := List.take_of_length_le (by simp)
  have tkd0 : List.take x.dirty.length (List.map bv (x.dirty.set 0 true)) = List.map bv (x.dirty.set 0 true) := List.take_of_length_le (by simp)
  have hio : (x.disk.inos.map inoO).set (n - 1).toNat (.agg [.int .i64 k, .int .i64 1, .own 1 [.int .i64 0, .int .i64 0]]) = (x.disk.inos.set (n - 1).toNat ⟨k, 1, [0, 0]⟩).map inoO := by
    have e : (x.disk.inos.map inoO).set (n - 1).toNat (inoO ⟨k, 1, [0, 0]⟩) = (x.disk.inos.set (n - 1).toNat ⟨k, 1, [0, 0]⟩).map inoO := set_map (f := inoO)
    exact e
  have tki : ∀ P : Ino, List.take x.disk.inos.length ((x.disk.inos.set (n - 1).toNat P).map inoO) = (x.disk.inos.set (n - 1).toNat P).map inoO := fun P => List.take_of_length_le (by simp)
  have tkz : ∀ z : AV, List.take x.disk.inos.length ((x.disk.inos.map inoO).set (n - 1).toNat z) = (x.disk.inos.map inoO).set (n - 1).toNat z := fun z => List.take_of_length_le (by simp)
  have hls : ∀ v : AV, ((x.disk.inos.map inoO).set (n - 1).toNat v).length = x.disk.inos.length := fun v => by simp
  have hgs : ∀ v : AV, ((x.disk.inos.map inoO).set (n - 1).toNat v).getD (n - 1).toNat .undef = v := fun v => getD_set (by rw [List.length_map]; exact n5) v
  have isi : ∀ u (z : AV), idsL u ((x.disk.inos.map inoO).set (n - 1).toNat z) = idsV u z := fun u z => by
    rw [is_set _ _ _ _ (inoO_is u _), if_pos (by rw [List.length_map]; exact n5)]
  have lu : (x.disk.taken.set (n - 1).toNat true).length = x.disk.taken.length := by simp
  have ld : (x.dirty.set 0 true).length = x.dirty.length := by simp
  have p0 : ¬ p1 = 0 := by omega
  have pg : 0 < p1 := by omega
  have b1 : 0 ≤ p1 - 1 := by omega
  have b2 : p1 - 1 < (x.disk.blks.length : Int) := by omega
  have b3 : (p1 - 1).toNat < x.disk.blks.length := by omega
  have b4 : p1 - 1 < (x.disk.used.length : Int) := by omega
  have b5 : (p1 - 1).toNat < x.disk.used.length := by omega
  have wb := w_i64 (p1 - 1) (by omega)
  obtain ⟨B, hB⟩ := get_at b3
  have gB : (x.disk.blks.map blkO).getD (p1 - 1).toNat .undef = .agg [.bool B.dir, .own 2 (B.slots.map slt), .str B.text] := gD_map hB
  obtain ⟨uu, huu⟩ := get_at b5
  have guu : (x.disk.used.map bv).getD (p1 - 1).toNat .undef = .bool uu := gD_map huu
  have hlb : ∀ v : AV, ((x.disk.blks.map blkO).set (p1 - 1).toNat v).length = x.disk.blks.length := fun v => by simp
  have hgb : ∀ v : AV, ((x.disk.blks.map blkO).set (p1 - 1).toNat v).getD (p1 - 1).toNat .undef = v := fun v => getD_set (by rw [List.length_map]; exact b3) v
  have isb : ∀ u (z : AV), idsL u ((x.disk.blks.map blkO).set (p1 - 1).toNat z) = idsV u z := fun u z => by
    rw [is_set _ _ _ _ (blkO_is u _), if_pos (by rw [List.length_map]; exact b3)]
  have tkb : ∀ P : Blk, List.take x.disk.blks.length ((x.disk.blks.set (p1 - 1).toNat P).map blkO) = (x.disk.blks.set (p1 - 1).toNat P).map blkO := fun P => List.take_of_length_le (by simp)
  have tkw : ∀ z : AV, List.take x.disk.blks.length ((x.disk.blks.map blkO).set (p1 - 1).toNat z) = (x.disk.blks.map blkO).set (p1 - 1).toNat z := fun z => List.take_of_length_le (by simp)
  have tkv : List.take x.disk.used.length (List.map bv (x.disk.used.set (p1 - 1).toNat true)) = List.map bv (x.disk.used.set (p1 - 1).toNat true) := List.take_of_length_le (by simp)
  have e14 := e68
  have hr8 : inside 1 1 x.disk.inos.length = true := by simp [inside]; omega
  have hR := inoOf_mem hr8
  generalize hRR : inoOf x.disk 1 = R at *
  obtain ⟨rk, rl, rp⟩ := R
  simp only at hk hj
  subst hk
  have hq1 := inoOk_iff.1 (hd.ino _ (List.mem_of_getElem? hR))
  have hrp := hq1.two
  simp only at hrp
  obtain ⟨hj1, hj2, _⟩ := List.findIdx?_eq_some_iff_getElem.1 hj
  have e15 := e67i rp 0 (by unfold maxLen; omega)
  have hix : idxOf rp 0 = (j : Nat) := by unfold idxOf; rw [hj]
  rw [hix] at e15
  have i0 : (0 : Int) < (x.disk.inos.length : Int) := by omega
  have i0' : 0 < x.disk.inos.length := by omega
  have hn0 : 0 < (n - 1).toNat := by omega
  have hR0 : x.disk.inos[0]? = some ⟨2, rl, rp⟩ := hR
  have gR : (x.disk.inos.map inoO).getD 0 .undef = .agg [.int .i64 2, .int .i64 rl, .own 1 (rp.map iv)] := gD_map hR0
  have gr0 : ∀ z : AV, ((x.disk.inos.map inoO).set (n - 1).toNat z).getD 0 .undef = .agg [.int .i64 2, .int .i64 rl, .own 1 (rp.map iv)] := fun z => by
    rw [← gR]; simp only [List.getD]; rw [List.getElem?_set_ne (by omega)]
  have gr1 : ∀ z w : AV, (((x.disk.inos.map inoO).set (n - 1).toNat z).set 0 w).getD 0 .undef = w := fun z w => getD_set (by rw [List.length_set, List.length_map]; exact i0') w
  have gr2 : ∀ z w : AV, (((x.disk.inos.map inoO).set (n - 1).toNat z).set 0 w).length = x.disk.inos.length := fun z w => by simp
  have gr3 : ∀ u (z w : AV), idsL u (((x.disk.inos.map inoO).set (n - 1).toNat z).set 0 w) = idsV u w ++ idsV u z := fun u z w => is_set2 u _ _ z w (inoO_is u _) hn0 (by rw [List.length_map]; exact n5)
  have gr4 : ∀ z w : AV, List.take x.disk.inos.length (((x.disk.inos.map inoO).set (n - 1).toNat z).set 0 w) = ((x.disk.inos.map inoO).set (n - 1).toNat z).set 0 w := fun z w => List.take_of_length_le (by simp)
  have gr5 : ∀ z w : Ino, List.take x.disk.inos.length (((x.disk.inos.set (n - 1).toNat z).set 0 w).map inoO) = ((x.disk.inos.set (n - 1).toNat z).set 0 w).map inoO := fun z w => List.take_of_length_le (by simp)
  have hio2 : ∀ z : Ino, ((x.disk.inos.set (n - 1).toNat z).map inoO).set 0 (.agg [.int .i64 2, .int .i64 rl, .own 1 ((rp.set j p1).map iv)]) = ((x.disk.inos.set (n - 1).toNat z).set 0 ⟨2, rl, rp.set j p1⟩).map inoO := fun z => by
    have e : ((x.disk.inos.set (n - 1).toNat z).map inoO).set 0 (inoO ⟨2, rl, rp.set j p1⟩) = ((x.disk.inos.set (n - 1).toNat z).set 0 ⟨2, rl, rp.set j p1⟩).map inoO := set_map (f := inoO)
    exact e
  have j1 : (j : Int) < (rp.length : Int) := by omega
  obtain ⟨rv, hrv⟩ := get_at hj1
  have gj : (rp.map iv).getD j .undef = .int .i64 rv := gD_map hrv
  have tkj : List.take rp.length ((rp.set j p1).map iv) = (rp.set j p1).map iv := List.take_of_length_le (by simp)
  have e16 := e69 1
  have hu1' : unitI 1 = 1 := rfl
  rw [hu1'] at e16
  have m3 := e48i 1 0 ((x.dirty.length : Int) - 1)
  rw [show inside 1 0 ((x.dirty.length : Int) - 1) = true by simp [inside]; omega] at m3
  have d1 : (1 : Int) < (x.dirty.length : Int) := by omega
  have d1' : 1 < x.dirty.length := by omega
  have im : p1 + -1 = p1 - 1 := rfl
  have eu := e69 n
  have eb := e70 p1
  have hui : unitI n = 1 + (n - 1) / 2 := by
    unfold unitI; rw [show inside n 1 8 = true by simp [inside]; omega]
    rw [if_pos rfl, Int.tdiv_eq_ediv_of_nonneg (by omega)]
  have hub : unitB p1 = p1 + 4 := by unfold unitB; rw [show inside p1 1 16 = true by simp [inside]; omega]; rfl
  have ui2 : 0 ≤ unitI n := by rw [hui]; omega
  have ui3 : unitI n < (x.dirty.length : Int) := by rw [hui]; omega
  have ub2 : 0 ≤ unitB p1 := by rw [hub]; omega
  have ub3 : unitB p1 < (x.dirty.length : Int) := by rw [hub]; omega
  have m1 := e48i (unitI n) 0 ((x.dirty.length : Int) - 1)
  rw [show inside (unitI n) 0 ((x.dirty.length : Int) - 1) = true by simp [inside]; omega] at m1
  have m2 := e48i (unitB p1) 0 ((x.dirty.length : Int) - 1)
  rw [show inside (unitB p1) 0 ((x.dirty.length : Int) - 1) = true by simp [inside]; omega] at m2
  have ui4 : (unitI n).toNat < x.dirty.length := by omega
  have ub4 : (unitB p1).toNat < x.dirty.length := by omega
  have dd : (x.dirty.set 0 true).set 0 true = x.dirty.set 0 true := List.set_set ..
  have gv00 : ((x.dirty.set 0 true).map bv).getD 0 .undef = .bool true := by
    rw [← setv]; exact getD_set (by rw [List.length_map]; exact dz) _
  have D1 : (List.map bv (x.dirty.set 0 true)).getD 1 .undef = _ := gdb (by simpa using d1')
  have D2 : (List.map bv ((x.dirty.set 0 true).set 1 true)).getD (unitB p1).toNat .undef = _ := gdb (by simpa using ub4)
  have D3 : (List.map bv (((x.dirty.set 0 true).set 1 true).set (unitB p1).toNat true)).getD 0 .undef = _ := gdb (by simpa using dz)
  have D4 : (List.map bv ((((x.dirty.set 0 true).set 1 true).set (unitB p1).toNat true).set 0 true)).getD (unitI n).toNat .undef = _ := gdb (by simpa using ui4)
  have D5 : (List.map bv (((((x.dirty.set 0 true).set 1 true).set (unitB p1).toNat true).set 0 true).set (unitI n).toNat true)).getD (unitB p1).toNat .undef = _ := gdb (by simpa using ub4)
  have T1 : List.take x.dirty.length (List.map bv ((x.dirty.set 0 true).set 1 true)) = _ := tkN (by simp)
  have T2 : List.take x.dirty.length (List.map bv (((x.dirty.set 0 true).set 1 true).set (unitB p1).toNat true)) = _ := tkN (by simp)
  have T3 : List.take x.dirty.length (List.map bv ((((x.dirty.set 0 true).set 1 true).set (unitB p1).toNat true).set 0 true)) = _ := tkN (by simp)
  have T4 : List.take x.dirty.length (List.map bv (((((x.dirty.set 0 true).set 1 true).set (unitB p1).toNat true).set 0 true).set (unitI n).toNat true)) = _ := tkN (by simp)
  have T5 : List.take x.dirty.length (List.map bv ((((((x.dirty.set 0 true).set 1 true).set (unitB p1).toNat true).set 0 true).set (unitI n).toNat true).set (unitB p1).toNat true)) = _ := tkN (by simp)
  have zsl : AV.agg [.str ⟨#[]⟩, .int .i64 0] = slt ⟨⟨#[]⟩, 0⟩ := rfl
  have hbk0 : (x.disk.blks.map blkO).set (p1 - 1).toNat (.agg [.bool true, .own 2 [.agg [.str ⟨#[]⟩, .int .i64 0], .agg [.str ⟨#[]⟩, .int .i64 0], .agg [.str ⟨#[]⟩, .int .i64 0], .agg [.str ⟨#[]⟩, .int .i64 0]], .str ⟨#[]⟩]) = (x.disk.blks.set (p1 - 1).toNat newD).map blkO := by
    have e : (x.disk.blks.map blkO).set (p1 - 1).toNat (blkO newD) = (x.disk.blks.set (p1 - 1).toNat newD).map blkO := set_map (f := blkO)
    exact e
  have hbk1 : (x.disk.blks.map blkO).set (p1 - 1).toNat (.agg [.bool true, .own 2 [.agg [.str nm, .int .i64 n], .agg [.str ⟨#[]⟩, .int .i64 0], .agg [.str ⟨#[]⟩, .int .i64 0], .agg [.str ⟨#[]⟩, .int .i64 0]], .str ⟨#[]⟩]) = (x.disk.blks.set (p1 - 1).toNat ⟨true, newD.slots.set 0 ⟨nm, n⟩, ⟨#[]⟩⟩).map blkO := by
    have e : (x.disk.blks.map blkO).set (p1 - 1).toNat (blkO ⟨true, newD.slots.set 0 ⟨nm, n⟩, ⟨#[]⟩⟩) = (x.disk.blks.set (p1 - 1).toNat ⟨true, newD.slots.set 0 ⟨nm, n⟩, ⟨#[]⟩⟩).map blkO := set_map (f := blkO)
    exact e
  have tks0 : ∀ z : AV, (x.deps.map dpO ++ [z]).take (x.deps.length + 1) = x.deps.map dpO ++ [z] := fun z => List.take_of_length_le (by simp)
  have sn0 : x.deps.map dpO ++ [.agg [.int .i64 x.next, .int .i64 1, .int .i64 1, .int .i64 j, .int .i64 p1, .int .i64 0, .str ⟨#[]⟩, .bool false, .bool false, .int .i64 0, .own 1 []]] = (x.deps ++ [depN x.next 1 j p1]).map dpO := by simp [dpO, depN]
  have tl0 : ((x.deps ++ [depN x.next 1 j p1]).map dpO).take (x.deps.length + 1) = (x.deps ++ [depN x.next 1 j p1]).map dpO := List.take_of_length_le (by simp)
  have tks1 : ∀ z : AV, ((x.deps ++ [depN x.next 1 j p1]).map dpO ++ [z]).take (x.deps.length + 1 + 1) = (x.deps ++ [depN x.next 1 j p1]).map dpO ++ [z] := fun z => List.take_of_length_le (by simp)
  have sn1 : (x.deps ++ [depN x.next 1 j p1]).map dpO ++ [.agg [.int .i64 (x.next + 1), .int .i64 2, .int .i64 n, .int .i64 0, .int .i64 p1, .int .i64 0, .str ⟨#[]⟩, .bool false, .bool false, .int .i64 0, .own 1 []]] = ((x.deps ++ [depN x.next 1 j p1]) ++ [depA (x.next + 1) n p1 0]).map dpO := by rw [List.map_append (l₁ := x.deps ++ [depN x.next 1 j p1])]; rfl
  have tl1 : (((x.deps ++ [depN x.next 1 j p1]) ++ [depA (x.next + 1) n p1 0]).map dpO).take (x.deps.length + 1 + 1) = ((x.deps ++ [depN x.next 1 j p1]) ++ [depA (x.next + 1) n p1 0]).map dpO := List.take_of_length_le (by simp)
  have hnx : x.next ≤ 99000 := by unfold roomM at hro; simp at hro; exact hro.2
  have hdx : x.deps.length ≤ 32 := by unfold roomM at hro; simp at hro; exact hro.1
  have w1 := w_i64 (x.next + 1) (by omega)
  have w2 := w_i64 (x.next + 1 + 1) (by omega)
  have q1 := q39 hdx
  have q1' := q40 hdx
  have q2 := e48i x.next 1 99999
  rw [show inside x.next 1 99999 = true by simp [inside]; omega] at q2
  have q2' := e48i (x.next + 1) 1 99999
  rw [show inside (x.next + 1) 1 99999 = true by simp [inside]; omega] at q2'
  have q3 := q41 hdx
  have q3' := q42 hdx
  have hN : nameN (growD (nodeN x k) 1 (j : Nat)) nm n p1 0 = ⟨⟨x.disk.used.set (p1 - 1).toNat true, x.disk.taken.set (n - 1).toNat true, (x.disk.inos.set (n - 1).toNat ⟨k, 1, [0, 0]⟩).set 0 ⟨2, rl, rp.set j p1⟩, x.disk.blks.set (p1 - 1).toNat ⟨true, newD.slots.set 0 ⟨nm, n⟩, ⟨#[]⟩⟩⟩, (((((x.dirty.set 0 true).set 1 true).set (unitB p1).toNat true).set 0 true).set (unitI n).toNat true).set (unitB p1).toNat true, (x.deps ++ [depN x.next 1 (j : Nat) p1]) ++ [depA (x.next + 1) n p1 0], x.next + 1 + 1⟩ := by
    have h0 : (nodeN x k).dirty.set 0 true = x.dirty.set 0 true := dd
    have h1 : nodeN x k = { x with disk := { x.disk with taken := x.disk.taken.set (n - 1).toNat true, inos := x.disk.inos.set (n - 1).toNat ⟨k, 1, [0, 0]⟩ }, dirty := x.dirty.set 0 true } := by unfold nodeN; rw [hnn]
    have h2 : inoOf (nodeN x k).disk 1 = ⟨2, rl, rp⟩ := by
      rw [h1]
      unfold inoOf
      simp only [List.length_set, hr8, if_true]
      rw [show ((1 : Int) - 1).toNat = 0 from rfl]
      simp only [List.getD]
      rw [List.getElem?_set_ne (by omega), hR0]; rfl
    have h3 : ffree (nodeN x k).disk.used = p1 := by rw [h1]; exact hmm
    have h4 : growD (nodeN x k) 1 (j : Nat) = ⟨⟨x.disk.used.set (p1 - 1).toNat true, x.disk.taken.set (n - 1).toNat true, (x.disk.inos.set (n - 1).toNat ⟨k, 1, [0, 0]⟩).set 0 ⟨2, rl, rp.set j p1⟩, x.disk.blks.set (p1 - 1).toNat newD⟩, ((x.dirty.set 0 true).set 1 true).set (unitB p1).toNat true, x.deps ++ [depN x.next 1 (j : Nat) p1], x.next + 1⟩ := by
      unfold growD
      rw [h0, h2, h3, h1]
      rfl
    have h5 : blkOf (growD (nodeN x k) 1 (j : Nat)).disk p1 = newD := by
      rw [h4]
      unfold blkOf
      simp only [List.length_set]
      rw [show inside p1 1 x.disk.blks.length = true by simp [inside]; omega]
      rw [if_pos rfl]
      simp only [List.getD]
      rw [List.getElem?_set_self b3]; rfl
    unfold nameN
    rw [h5, h4]
    simp only [List.set_set]
    rfl
  rw [hN]
  simp only [dsk, ino] at e4 e5 e6
  simp only [mm, mmO, sv, List.length_cons, List.length_nil] at e1 e2 e3 e5 e7 e9 e10 e12 ⊢
  simp only [F13, x30, F30, x37, F37, x65, F65, x39, F39, x66, F66, x71, F71, x94, F94, e91n, go_sem, seval, bnd_ite, e1, e2, e3, e4, e5, e6, e7, e8, e9, e10, e11, e12, c1, w0, nz, n0, n1, n2, n3, n4, n5, wn, gu, gI, m0, wd, dz, dz1, gv0, setv, tku, tkd0, hio, tki, tkz, hls, hgs, isi, lu, ld, p0, b1, b2, b3, wb, gB, pg, setiv, i0, i0', gr0, gr1, gr2, gr3, gr4, gr5, hio2, j1, hj1, gj, tkj, e15, e16, m3, d1, d1', b4, b5, guu, tkw, tkv, e13, e14, tkb, hlb, hgb, isb, im, eu, eb, ui2, ui3, ub2, ub3, ui4, ub4, m1, m2, dd, gv00, D1, D2, D3, D4, D5, T1, T2, T3, T4, T5, hbk0, hbk1, tks0, sn0, tl0, tks1, sn1, tl1, w1, w2, q1, q1', q2, q2', q3, q3', List.length_map, List.length_set, Int.toNat_zero, Int.toNat_natCast, Int.natCast_nonneg, List.getD_cons_zero, decide_true, decide_false, Bool.not_true, Bool.false_eq_true, if_false, if_true, tkO, Bool.true_and, Bool.false_and, Bool.or_self]
end Go.Proofs.YtaaajjinpppgeaaDoor
namespace Go.Proofs.YtaaajjinpppgeaaDoor
open Go Go.Abs
set_option maxRecDepth 100000
theorem and255 (a : Int) : 0 ≤ IntKind.i64.wrap ((BitVec.ofInt IntKind.i64.bits a &&& BitVec.ofInt IntKind.i64.bits 255).toNat : Int) ∧ IntKind.i64.wrap ((BitVec.ofInt IntKind.i64.bits a &&& BitVec.ofInt IntKind.i64.bits 255).toNat : Int) ≤ 255 := by
  have h : (BitVec.ofInt IntKind.i64.bits a &&& BitVec.ofInt IntKind.i64.bits 255).toNat ≤ 255 := by
    rw [BitVec.toNat_and]
    exact Nat.le_trans Nat.and_le_right (by decide)
  rw [w_i64 _ (by omega)]
  omega
theorem shr33 (a : Int) : binV .shr (.int .i64 a) (.int .u64 33) = some (.int .i64 (a.fdiv (2 ^ (Nat.min (33 : Int).toNat IntKind.i64.bits)))) := rfl
theorem shr45 (a : Int) : binV .shr (.int .i64 a) (.int .u64 45) = some (.int .i64 (a.fdiv (2 ^ (Nat.min (45 : Int).toNat IntKind.i64.bits)))) := rfl
theorem xorI (a b : Int) : binV .xor (.int .i64 a) (.int .i64 b) = some (.int .i64 (IntKind.i64.wrap (BitVec.ofInt IntKind.i64.bits a ^^^ BitVec.ofInt IntKind.i64.bits b).toNat)) := rfl
theorem andI (a b : Int) : binV .and (.int .i64 a) (.int .i64 b) = some (.int .i64 (IntKind.i64.wrap (BitVec.ofInt IntKind.i64.bits a &&& BitVec.ofInt IntKind.i64.bits b).toNat)) := rfl
def by8 (l : List Int) : AV := .ro 1 (l.map (AV.int .u8))
def gm (l : List Int) (i : Nat) (s : Int) : Mem := [some (3, [.agg [by8 l, .int .i64 (i : Nat), .int .i64 s]])]
theorem e42 (l : List Int) (hl : l.length ≤ 1048576) (i : Nat) (s : Int) (hi : i ≤ 1048576) : ∃ (b : Int) (i' : Nat) (s' : Int), E T 42 [.ptr 0 0 0] (gm l i s) = some (.int .i64 b, gm l i' s') ∧ 0 ≤ b ∧ b ≤ 255 ∧ i' ≤ 1048576 := by
  rw [E_eq t42 (Nat.le_of_ble_eq_true rfl)]
  by_cases hh : i < l.length
  · obtain ⟨p, hp⟩ := Go.Abs.get_at hh
    have hh' : (i : Int) < (l.length : Int) := by omega
    simp only [F42, gm, by8, shr33, shr45, xorI, andI, go_sem, seval, bnd_ite, hh', gD_map hp, Int.natCast_nonneg, w_i64 ((i : Int) + 1) (by omega), List.length_map, decide_true]
    exact ⟨_, i + 1, _, rfl, (and255 _).1, (and255 _).2, by omega⟩
  · have hh' : ¬ (i : Int) < (l.length : Int) := by omega
    simp only [F42, gm, by8, shr33, shr45, xorI, andI, go_sem, seval, bnd_ite, hh', Int.natCast_nonneg, List.length_map, decide_false]
    exact ⟨_, i, _, rfl, (and255 _).1, (and255 _).2, hi⟩
theorem e43 (l : List Int) (hl : l.length ≤ 1048576) (i : Nat) (s : Int) (hi : i ≤ 1048576) : ∃ (v : Int) (i' : Nat) (s' : Int), E T 43 [.ptr 0 0 0, .int .i64 10000] (gm l i s) = some (.int .i64 v, gm l i' s') ∧ 0 ≤ v ∧ v ≤ 9999 ∧ i' ≤ 1048576 := by
  obtain ⟨b1, i1, s1, h1, p1, q1, r1⟩ := e42 l hl i s hi
  obtain ⟨b2, i2, s2, h2, p2, q2, r2⟩ := e42 l hl i1 s1 r1
  obtain ⟨b3, i3, s3, h3, p3, q3, r3⟩ := e42 l hl i2 s2 r2
  obtain ⟨b4, i4, s4, h4, p4, q4, r4⟩ := e42 l hl i3 s3 r3
  rw [E_eq t43 (Nat.le_of_ble_eq_true rfl)]
  simp only [gm, by8] at h1 h2 h3 h4
  have w1 := w_i64 (b1 * 16777216) (by omega)
  have w2 := w_i64 (b2 * 65536) (by omega)
  have w3 := w_i64 (b1 * 16777216 + b2 * 65536) (by omega)
  have w4 := w_i64 (b3 * 256) (by omega)
  have w5 := w_i64 (b1 * 16777216 + b2 * 65536 + b3 * 256) (by omega)
  have w6 := w_i64 (b1 * 16777216 + b2 * 65536 + b3 * 256 + b4) (by omega)
  simp only [F43, gm, by8, go_sem, seval, bnd_ite, h1, h2, h3, h4, w1, w2, w3, w4, w5, w6]
  refine ⟨_, i4, s4, rfl, ?_, ?_, r4⟩
  · exact Int.tmod_nonneg _ (by omega)
  · have := Int.tmod_lt_of_pos (b1 * 16777216 + b2 * 65536 + b3 * 256 + b4) (show (0 : Int) < 10000 by omega)
    omega
theorem e41 (l : List Int) (hl : l.length ≤ 1048576) : ∃ s : Int, E T 41 [by8 l] [] = some (.box (.agg [by8 l, .int .i64 0, .int .i64 s]), []) := by
  rw [E_eq t41 (Nat.le_of_ble_eq_true rfl)]
  have w0 := w_i64 (37701 + (l.length : Int)) (by omega)
  simp only [F41, by8, h41_3, go_sem, seval, bnd_ite, List.length_map, w0]
  obtain ⟨⟨z, e, m⟩, k1, kx, k2, km, k0, hh, k3⟩ := XL_inv (T := T) (b := 0) (hd := H41_3) (x := L41_3) (β := Int) (fun i h => ⟨[(0, .ro 1 (l.map (AV.int .u8))), (3, .int .i64 h), (4, .int .i64 (i : Nat))], []⟩) (fun _ _ => True) (min l.length 4000)
    (fun r => r.1 = .exit 0 ∧ r.2.mem = [] ∧ lookA r.2.env 0 = .ro 1 (l.map (AV.int .u8)) ∧ ∃ h, lookA r.2.env 3 = .int .i64 h) (by
      intro i a hi _
      left
      have hi' : i < l.length := by omega
      obtain ⟨p, hp⟩ := Go.Abs.get_at hi'
      have c1 : (i : Int) < (l.length : Int) := by omega
      have c2 : (i : Int) < 4000 := by omega
      have hc : ((i + 1 : Nat) : Int) = (i : Int) + 1 := by omega
      simp only [hc, XG, L41_3, h41_3, go_sem, seval, bnd_ite, List.length_map, c1, c2, gD_map hp, andI, Int.natCast_nonneg, w_i64 ((i : Int) + 1) (by omega), decide_true]
      first | exact ⟨_, rfl, trivial⟩ | exact ⟨_, rfl⟩) (by
      intro a _
      by_cases hc : l.length ≤ 4000
      · have e1 : min l.length 4000 = l.length := by omega
        rw [e1]
        have c1 : ¬ (l.length : Int) < (l.length : Int) := by omega
        simp only [XG, L41_3, h41_3, go_sem, seval, bnd_ite, List.length_map, c1, decide_false]
        exact .mk (by simp) ⟨rfl, rfl, rfl, a, rfl⟩
      · have e1 : min l.length 4000 = 4000 := by omega
        rw [e1]
        have c1 : ((4000 : Nat) : Int) < (l.length : Int) := by omega
        have c2 : ¬ ((4000 : Nat) : Int) < 4000 := by omega
        simp only [XG, L41_3, h41_3, go_sem, seval, bnd_ite, List.length_map, c1, c2, decide_true, decide_false]
        exact .mk (by simp) ⟨rfl, rfl, rfl, a, rfl⟩) 0 (37701 + (l.length : Int)) (by omega) trivial
  have hs0 : ((0 : Nat) : Int) = 0 := rfl
  rw [hs0] at k1
  rw [k1]
  simp only at kx k2 km k0 k3
  subst k2 km
  simp only [go_sem, seval, bnd_ite, k0, k3]
  exact ⟨hh, rfl⟩
def iw (z : Int) : AV := .int .i64 z
theorem iw_cool (x : Int) : coolX (iw x) = true := rfl
theorem iwf (A : List Int) (d : Int) : ∃ M, A.map iw = M ∧ M.length = A.length ∧ (∀ g, mapIdL g M = M) ∧ (∀ u, idsL u M = []) ∧ M.take A.length = M ∧ M ++ [AV.int .i64 d] = (A ++ [d]).map iw ∧ coolR 1 M = true ∧ iceL M = M :=
  ⟨_, rfl, by simp, fun g => mi_map g iw A iw_cool, fun u => is_map u iw A iw_cool, List.take_of_length_le (by simp), by rw [List.map_append]; rfl, coR_map 1 iw A (fun _ => rfl) iw_cool, by rw [ice_m]; exact List.map_congr_left fun x _ => rfl⟩
theorem e15 (l : List Int) (hl : l.length ≤ 1048576) : ∃ xs : List Int, xs.length = 12 ∧ (∀ x ∈ xs, 0 ≤ x ∧ x ≤ 9999) ∧ E T 15 [by8 l] [] = some (.own 1 (xs.map (AV.int .i64)), []) := by
  obtain ⟨s, hs⟩ := e41 l hl
  obtain ⟨b0, i0, s0, h0, -, -, r0⟩ := e42 l hl 0 s (by omega)
  rw [E_eq t15 (Nat.le_of_ble_eq_true rfl)]
  simp only [gm, by8] at hs h0
  have hz : ((0 : Nat) : Int) = 0 := rfl
  rw [hz] at h0
  simp only [F15, by8, h15_5, go_sem, seval, bnd_ite, hs, h0]
  obtain ⟨⟨z, e, m⟩, k1, kx, k2, xs, ka, kb, kc, i9, s9, km⟩ := XL_inv (T := T) (b := 0) (hd := H15_5) (x := L15_5) (β := Nat × Int × List Int)
    (fun k a => ⟨[(3, .ptr 0 0 0), (4, .sl 1 0 k), (5, .int .i64 (k : Nat))], [some (3, [.agg [.ro 1 (l.map (AV.int .u8)), .int .i64 (a.1 : Nat), .int .i64 a.2.1]]), some (1, a.2.2.map iw)]⟩)
    (fun k a => a.1 ≤ 1048576 ∧ a.2.2.length = k ∧ ∀ x ∈ a.2.2, 0 ≤ x ∧ x ≤ 9999) 12
    (fun r => r.1 = .exit 0 ∧ ∃ xs : List Int, xs.length = 12 ∧ (∀ x ∈ xs, 0 ≤ x ∧ x ≤ 9999) ∧ lookA r.2.env 4 = .sl 1 0 12 ∧ ∃ (i : Nat) (s : Int), r.2.mem = [some (3, [.agg [.ro 1 (l.map (AV.int .u8)), .int .i64 (i : Nat), .int .i64 s]]), some (1, xs.map iw)]) (by
      rintro k ⟨i, s, vs⟩ hk ⟨hi, hv, hb⟩
      simp only at hi hv hb
      left
      obtain ⟨v, i', s', h1, p1, q1, r1⟩ := e43 l hl i s hi
      simp only [gm, by8] at h1
      have c1 : (k : Int) < 12 := by omega
      have hc : ((k + 1 : Nat) : Int) = (k : Int) + 1 := by omega
      obtain ⟨M, hM, ml, mi, ms, mt, ma, mc, mx⟩ := iwf vs v
      rw [hv] at ml mt
      have hap : (k + 1) * 8 ≤ 140737488355328 := by omega
      refine ⟨(i', s', vs ++ [v]), ?_, r1, by simp [hv], fun x hx => ?_⟩
      · simp only [hM, ← ma, hc]
        simp only [XG, L15_5, h15_5, go_sem, seval, bnd_ite, c1, h1, w_i64 ((k : Int) + 1) (by omega), ml, mi, ms, mt, mc, mx, hap, decide_true]
        first | done | rfl
      · rw [List.mem_append, List.mem_singleton] at hx
        rcases hx with hx | rfl
        · exact hb x hx
        · exact ⟨p1, q1⟩) (by
      rintro ⟨i, s, vs⟩ ⟨hi, hv, hb⟩
      have c1 : ¬ ((12 : Nat) : Int) < 12 := by omega
      simp only [XG, L15_5, h15_5, go_sem, seval, bnd_ite, c1, decide_false]
      exact .mk (by simp) ⟨rfl, vs, hv, hb, rfl, i, s, rfl⟩) 0 (i0, s0, []) (by omega) ⟨r0, rfl, fun x hx => by cases hx⟩
  rw [hz] at k1
  rw [show (i0, s0, ([] : List Int)).2.2.map iw = [] from rfl] at k1
  simp only at k1
  rw [k1]
  simp only at kx k2 km kc
  subst k2 km
  obtain ⟨M, hM, ml, mi, ms, mt, ma, mc, mx⟩ := iwf xs 0
  rw [ka] at ml mt
  refine ⟨xs, ka, kb, ?_⟩
  show _ = some (AV.own 1 (xs.map iw), [])
  simp only [hM]
  simp only [go_sem, seval, bnd_ite, kc, ml, mi, ms, mt, mc, mx]
  first | done | rfl
end Go.Proofs.YtaaajjinpppgeaaDoor
namespace Go.Proofs.YtaaajjinpppgeaaDoor
open Go Go.Abs
set_option maxRecDepth 100000
theorem e45r (l : List Int) (hl : l.length ≤ 1048576) : E T 45 [.ro 1 (l.map iv), .ro 1 (l.map iv)] [] = some (.bool true, []) := by
  rw [E_eq t45 (Nat.le_of_ble_eq_true rfl)]
  obtain ⟨⟨y1, v1, m1⟩, k1, j1⟩ := XL_find (T := T) (b := 0) (hd := H45_4) (x := L45_4) (l) (fun _ => false) (fun i => ⟨[(0, .ro 1 (l.map iv)), (1, .ro 1 (l.map iv)), (5, .int .i64 (i : Nat))], []⟩)
    (fun o r => match o with | some _ => True | none => r.1 = .exit 0 ∧ r.2.mem = [])
    (by
      intro i p hp hi _ _
      have hi1 : (i : Int) < ((l).length : Int) := by omega
      have hw := w_i64 ((i : Int) + 1) (by omega)
      have gp : (l.map iv).getD i .undef = .int .i64 p := gD_map hp
      simp only [XG, L45_4, h45_4, go_sem, seval, bnd_ite, hi1, hw, gp, beq_self_eq_true, Bool.not_true, Bool.not_false, decide_true, decide_false, Bool.false_eq_true, if_true, if_false, Bool.or_self, Int.natCast_nonneg]
      first | done | rfl | trace_state)
    (by intro i p hp hi hP _; cases hP)
    (by
      intro _
      simp only [XG, L45_4, h45_4, go_sem, seval, bnd_ite, Int.lt_irrefl, decide_false]
      first | exact .mk (by simp) ⟨rfl, rfl⟩ | trace_state)
  rw [show (l).findIdx? (fun _ => false) = none from find_none.2 fun q _ => rfl] at j1
  obtain ⟨q1, q2⟩ := j1
  simp only at q1 q2; subst q1; subst q2
  simp only [show ((0 : Nat) : Int) = 0 from rfl] at k1
  simp only [F45, h45_4, go_sem, seval, bnd_ite, k1, beq_self_eq_true, Bool.not_true, Bool.not_false, decide_true, decide_false, Bool.false_eq_true, if_true, if_false, Bool.or_self, Int.natCast_nonneg]
  first | done | rfl | trace_state
theorem e72r (l : List Bool) (hl : l.length ≤ 1048576) : E T 72 [.ro 1 (l.map bv), .ro 1 (l.map bv)] [] = some (.bool true, []) := by
  rw [E_eq t72 (Nat.le_of_ble_eq_true rfl)]
  obtain ⟨⟨y1, v1, m1⟩, k1, j1⟩ := XL_find (T := T) (b := 0) (hd := H72_4) (x := L72_4) (l) (fun _ => false) (fun i => ⟨[(0, .ro 1 (l.map bv)), (1, .ro 1 (l.map bv)), (5, .int .i64 (i : Nat))], []⟩)
    (fun o r => match o with | some _ => True | none => r.1 = .exit 0 ∧ r.2.mem = [])
    (by
      intro i p hp hi _ _
      have hi1 : (i : Int) < ((l).length : Int) := by omega
      have hw := w_i64 ((i : Int) + 1) (by omega)
      have gp : (l.map bv).getD i .undef = .bool p := gD_map hp
      simp only [XG, L72_4, h72_4, go_sem, seval, bnd_ite, hi1, hw, gp, beq_self_eq_true, Bool.not_true, Bool.not_false, decide_true, decide_false, Bool.false_eq_true, if_true, if_false, Bool.or_self, Int.natCast_nonneg]
      first | done | rfl | trace_state)
    (by intro i p hp hi hP _; cases hP)
    (by
      intro _
      simp only [XG, L72_4, h72_4, go_sem, seval, bnd_ite, Int.lt_irrefl, decide_false]
      first | exact .mk (by simp) ⟨rfl, rfl⟩ | trace_state)
  rw [show (l).findIdx? (fun _ => false) = none from find_none.2 fun q _ => rfl] at j1
  obtain ⟨q1, q2⟩ := j1
  simp only at q1 q2; subst q1; subst q2
  simp only [show ((0 : Nat) : Int) = 0 from rfl] at k1
  simp only [F72, h72_4, go_sem, seval, bnd_ite, k1, beq_self_eq_true, Bool.not_true, Bool.not_false, decide_true, decide_false, Bool.false_eq_true, if_true, if_false, Bool.or_self, Int.natCast_nonneg]
  first | done | rfl | trace_state
theorem e73r (a b : Int) (l : List Int) (hl : l.length ≤ 1048576) : E T 73 [.agg [.int .i64 a, .int .i64 b, .ro 1 (l.map iv)], .agg [.int .i64 a, .int .i64 b, .ro 1 (l.map iv)]] [] = some (.bool true, []) := by
  rw [E_eq t73 (Nat.le_of_ble_eq_true rfl)]
  obtain ⟨⟨y1, v1, m1⟩, k1, j1⟩ := XL_find (T := T) (b := 0) (hd := H73_4) (x := L73_4) (l) (fun _ => false) (fun i => ⟨[(2, .ptr 0 0 0), (3, .ptr 1 0 0), (5, .int .i64 (i : Nat))], [some (3, [.agg [.int .i64 a, .int .i64 b, .ro 1 (l.map iv)]]), some (3, [.agg [.int .i64 a, .int .i64 b, .ro 1 (l.map iv)]])]⟩)
    (fun o r => match o with | some _ => True | none => r.1 = .exit 0 ∧ r.2.mem = [some (3, [.agg [.int .i64 a, .int .i64 b, .ro 1 (l.map iv)]]), some (3, [.agg [.int .i64 a, .int .i64 b, .ro 1 (l.map iv)]])] ∧ lookA r.2.env 2 = .ptr 0 0 0 ∧ lookA r.2.env 3 = .ptr 1 0 0)
    (by
      intro i p hp hi _ _
      have hi1 : (i : Int) < ((l).length : Int) := by omega
      have hw := w_i64 ((i : Int) + 1) (by omega)
      have gp : (l.map iv).getD i .undef = .int .i64 p := gD_map hp
      simp only [XG, L73_4, h73_4, go_sem, seval, bnd_ite, hi1, hw, gp, beq_self_eq_true, Bool.not_true, Bool.not_false, decide_true, decide_false, Bool.false_eq_true, if_true, if_false, Bool.or_self, Int.natCast_nonneg]
      first | done | rfl | trace_state)
    (by intro i p hp hi hP _; cases hP)
    (by
      intro _
      simp only [XG, L73_4, h73_4, go_sem, seval, bnd_ite, Int.lt_irrefl, decide_false]
      first | exact .mk (by simp) ⟨rfl, rfl, rfl, rfl⟩ | trace_state)
  rw [show (l).findIdx? (fun _ => false) = none from find_none.2 fun q _ => rfl] at j1
  obtain ⟨q1, q2, u1, w1⟩ := j1
  simp only at q1 q2 u1 w1; subst q1; subst q2
  simp only [show ((0 : Nat) : Int) = 0 from rfl] at k1
  simp only [F73, h73_4, go_sem, seval, bnd_ite, k1, beq_self_eq_true, Bool.not_true, Bool.not_false, decide_true, decide_false, Bool.false_eq_true, if_true, if_false, Bool.or_self, Int.natCast_nonneg]
  first | done | rfl | trace_state
theorem e74r (a : Bool) (l : List Slt) (b : ByteArray) (hl : l.length ≤ 1048576) : E T 74 [.agg [.bool a, .ro 2 (l.map slt), .str b], .agg [.bool a, .ro 2 (l.map slt), .str b]] [] = some (.bool true, []) := by
  rw [E_eq t74 (Nat.le_of_ble_eq_true rfl)]
  obtain ⟨⟨y1, v1, m1⟩, k1, j1⟩ := XL_find (T := T) (b := 0) (hd := H74_4) (x := L74_4) (l) (fun _ => false) (fun i => ⟨[(2, .ptr 0 0 0), (3, .ptr 1 0 0), (5, .int .i64 (i : Nat))], [some (3, [.agg [.bool a, .ro 2 (l.map slt), .str b]]), some (3, [.agg [.bool a, .ro 2 (l.map slt), .str b]])]⟩)
    (fun o r => match o with | some _ => True | none => r.1 = .exit 0 ∧ r.2.mem = [some (3, [.agg [.bool a, .ro 2 (l.map slt), .str b]]), some (3, [.agg [.bool a, .ro 2 (l.map slt), .str b]])] ∧ lookA r.2.env 2 = .ptr 0 0 0 ∧ lookA r.2.env 3 = .ptr 1 0 0)
    (by
      intro i p hp hi _ _
      have hi1 : (i : Int) < ((l).length : Int) := by omega
      have hw := w_i64 ((i : Int) + 1) (by omega)
      have gp : (l.map slt).getD i .undef = .agg [.str p.name, .int .i64 p.ino] := gD_map hp
      simp only [XG, L74_4, h74_4, go_sem, seval, bnd_ite, hi1, hw, gp, beq_self_eq_true, Bool.not_true, Bool.not_false, decide_true, decide_false, Bool.false_eq_true, if_true, if_false, Bool.or_self, Int.natCast_nonneg]
      first | done | rfl | trace_state)
    (by intro i p hp hi hP _; cases hP)
    (by
      intro _
      simp only [XG, L74_4, h74_4, go_sem, seval, bnd_ite, Int.lt_irrefl, decide_false]
      first | exact .mk (by simp) ⟨rfl, rfl, rfl, rfl⟩ | trace_state)
  rw [show (l).findIdx? (fun _ => false) = none from find_none.2 fun q _ => rfl] at j1
  obtain ⟨q1, q2, u1, w1⟩ := j1
  simp only at q1 q2 u1 w1; subst q1; subst q2
  simp only [show ((0 : Nat) : Int) = 0 from rfl] at k1
  simp only [F74, h74_4, go_sem, seval, bnd_ite, k1, beq_self_eq_true, Bool.not_true, Bool.not_false, decide_true, decide_false, Bool.false_eq_true, if_true, if_false, Bool.or_self, Int.natCast_nonneg]
  first | done | rfl | trace_state
theorem e44r (x : Dsk) (h : x.sm) : E T 44 [dsk x, dsk x] [] = some (.bool true, []) := by
  rw [E_eq t44 (Nat.le_of_ble_eq_true rfl)]
  have e1 := e72r x.used h.used
  have e2 := e72r x.taken h.taken
  have hI := h.ino
  have hB := h.blk
  have hi8 := h.inos
  have hb8 := h.blks
  obtain ⟨⟨y1, v1, m1⟩, k1, j1⟩ := XL_find (T := T) (b := 0) (hd := H44_4) (x := L44_4) (x.inos) (fun _ => false) (fun i => ⟨[(2, .ptr 0 0 0), (3, .ptr 1 0 0), (5, .int .i64 (i : Nat))], [some (4, [.agg [.ro 1 (x.used.map bv), .ro 1 (x.taken.map bv), .ro 3 (x.inos.map ino), .ro 3 (x.blks.map blk)]]), some (4, [.agg [.ro 1 (x.used.map bv), .ro 1 (x.taken.map bv), .ro 3 (x.inos.map ino), .ro 3 (x.blks.map blk)]])]⟩)
    (fun o r => match o with | some _ => True | none => r.1 = .exit 0 ∧ r.2.mem = [some (4, [.agg [.ro 1 (x.used.map bv), .ro 1 (x.taken.map bv), .ro 3 (x.inos.map ino), .ro 3 (x.blks.map blk)]]), some (4, [.agg [.ro 1 (x.used.map bv), .ro 1 (x.taken.map bv), .ro 3 (x.inos.map ino), .ro 3 (x.blks.map blk)]])] ∧ lookA r.2.env 2 = .ptr 0 0 0 ∧ lookA r.2.env 3 = .ptr 1 0 0)
    (by
      intro i p hp hi _ _
      have hi1 : (i : Int) < ((x.inos).length : Int) := by omega
      have hw := w_i64 ((i : Int) + 1) (by omega)
      have gp : (x.inos.map ino).getD i .undef = .agg [.int .i64 p.kind, .int .i64 p.links, .ro 1 (p.ptrs.map iv)] := gD_map hp
      have e3 := e73r p.kind p.links p.ptrs (hI p (List.mem_of_getElem? hp))
      simp only [XG, L44_4, h44_4, go_sem, seval, bnd_ite, hi1, hw, gp, e3, beq_self_eq_true, Bool.not_true, Bool.not_false, decide_true, decide_false, Bool.false_eq_true, if_true, if_false, Bool.or_self, Int.natCast_nonneg]
      first | done | rfl | trace_state)
    (by intro i p hp hi hP _; cases hP)
    (by
      intro _
      simp only [XG, L44_4, h44_4, go_sem, seval, bnd_ite, Int.lt_irrefl, decide_false]
      first | exact .mk (by simp) ⟨rfl, rfl, rfl, rfl⟩ | trace_state)
  rw [show (x.inos).findIdx? (fun _ => false) = none from find_none.2 fun q _ => rfl] at j1
  obtain ⟨q1, q2, u1, w1⟩ := j1
  simp only at q1 q2 u1 w1; subst q1; subst q2
  simp only [show ((0 : Nat) : Int) = 0 from rfl] at k1
  obtain ⟨⟨y2, v2, m2⟩, k2, j2⟩ := XL_find (T := T) (b := 0) (hd := H44_10) (x := L44_10) (x.blks) (fun _ => false) (fun i => ⟨[(2, .ptr 0 0 0), (3, .ptr 1 0 0), (6, .int .i64 (i : Nat))], [some (4, [.agg [.ro 1 (x.used.map bv), .ro 1 (x.taken.map bv), .ro 3 (x.inos.map ino), .ro 3 (x.blks.map blk)]]), some (4, [.agg [.ro 1 (x.used.map bv), .ro 1 (x.taken.map bv), .ro 3 (x.inos.map ino), .ro 3 (x.blks.map blk)]])]⟩)
    (fun o r => match o with | some _ => True | none => r.1 = .exit 2 ∧ r.2.mem = [some (4, [.agg [.ro 1 (x.used.map bv), .ro 1 (x.taken.map bv), .ro 3 (x.inos.map ino), .ro 3 (x.blks.map blk)]]), some (4, [.agg [.ro 1 (x.used.map bv), .ro 1 (x.taken.map bv), .ro 3 (x.inos.map ino), .ro 3 (x.blks.map blk)]])] ∧ lookA r.2.env 2 = .ptr 0 0 0 ∧ lookA r.2.env 3 = .ptr 1 0 0)
    (by
      intro i p hp hi _ _
      have hi1 : (i : Int) < ((x.blks).length : Int) := by omega
      have hw := w_i64 ((i : Int) + 1) (by omega)
      have gp : (x.blks.map blk).getD i .undef = .agg [.bool p.dir, .ro 2 (p.slots.map slt), .str p.text] := gD_map hp
      have e3 := e74r p.dir p.slots p.text (hB p (List.mem_of_getElem? hp))
      simp only [XG, L44_10, h44_10, go_sem, seval, bnd_ite, hi1, hw, gp, e3, beq_self_eq_true, Bool.not_true, Bool.not_false, decide_true, decide_false, Bool.false_eq_true, if_true, if_false, Bool.or_self, Int.natCast_nonneg]
      first | done | rfl | trace_state)
    (by intro i p hp hi hP _; cases hP)
    (by
      intro _
      simp only [XG, L44_10, h44_10, go_sem, seval, bnd_ite, Int.lt_irrefl, decide_false]
      first | exact .mk (by simp) ⟨rfl, rfl, rfl, rfl⟩ | trace_state)
  rw [show (x.blks).findIdx? (fun _ => false) = none from find_none.2 fun q _ => rfl] at j2
  obtain ⟨q1, q2, u2, w2⟩ := j2
  simp only at q1 q2 u2 w2; subst q1; subst q2
  simp only [show ((0 : Nat) : Int) = 0 from rfl] at k2
  unfold dsk
  simp only [F44, h44_4, h44_10, go_sem, seval, bnd_ite, e1, e2, k1, k2, u1, w1, u2, w2, beq_self_eq_true, Bool.not_true, Bool.not_false, decide_true, decide_false, Bool.false_eq_true, if_true, if_false, Bool.or_self, Int.natCast_nonneg]
  first | done | rfl | trace_state
theorem e16r (x : Mm) (h : x.sm) : E T 16 [mm x, mm x] [] = some (.bool true, []) := by
  rw [E_eq t16 (Nat.le_of_ble_eq_true rfl)]
  have e1 := e44r x.disk h.disk
  have hD := h.dep
  have hd8 := h.dirty
  have hp8 := h.deps
  unfold dsk at e1
  obtain ⟨⟨y1, v1, m1⟩, k1, j1⟩ := XL_find (T := T) (b := 0) (hd := H16_4) (x := L16_4) (x.dirty) (fun _ => false) (fun i => ⟨[(2, .ptr 0 0 0), (3, .ptr 1 0 0), (5, .int .i64 (i : Nat))], [some (7, [.agg (mmV x)]), some (7, [.agg (mmV x)])]⟩)
    (fun o r => match o with | some _ => True | none => r.1 = .exit 0 ∧ r.2.mem = [some (7, [.agg (mmV x)]), some (7, [.agg (mmV x)])] ∧ lookA r.2.env 2 = .ptr 0 0 0 ∧ lookA r.2.env 3 = .ptr 1 0 0)
    (by
      intro i p hp hi _ _
      have hi1 : (i : Int) < ((x.dirty).length : Int) := by omega
      have hw := w_i64 ((i : Int) + 1) (by omega)
      have gp : (x.dirty.map bv).getD i .undef = .bool p := gD_map hp
      unfold mmV
      simp only [XG, L16_4, h16_4, go_sem, seval, bnd_ite, hi1, hw, gp, beq_self_eq_true, Bool.not_true, Bool.not_false, decide_true, decide_false, Bool.false_eq_true, if_true, if_false, Bool.or_self, Int.natCast_nonneg]
      first | done | rfl | trace_state)
    (by intro i p hp hi hP _; cases hP)
    (by
      intro _
      unfold mmV
      simp only [XG, L16_4, h16_4, go_sem, seval, bnd_ite, Int.lt_irrefl, decide_false]
      first | exact .mk (by simp) ⟨rfl, rfl, rfl, rfl⟩ | trace_state)
  rw [show (x.dirty).findIdx? (fun _ => false) = none from find_none.2 fun q _ => rfl] at j1
  obtain ⟨q1, q2, u1, w1⟩ := j1
  simp only at q1 q2 u1 w1; subst q1; subst q2
  simp only [show ((0 : Nat) : Int) = 0 from rfl] at k1
  obtain ⟨⟨y2, v2, m2⟩, k2, j2⟩ := XL_find (T := T) (b := 0) (hd := H16_10) (x := L16_10) (x.deps) (fun _ => false) (fun i => ⟨[(2, .ptr 0 0 0), (3, .ptr 1 0 0), (6, .int .i64 (i : Nat))], [some (7, [.agg (mmV x)]), some (7, [.agg (mmV x)])]⟩)
    (fun o r => match o with | some _ => True | none => r.1 = .exit 2 ∧ r.2.mem = [some (7, [.agg (mmV x)]), some (7, [.agg (mmV x)])] ∧ lookA r.2.env 2 = .ptr 0 0 0 ∧ lookA r.2.env 3 = .ptr 1 0 0)
    (by
      intro i p hp hi _ _
      have hi1 : (i : Int) < ((x.deps).length : Int) := by omega
      have hw := w_i64 ((i : Int) + 1) (by omega)
      have gp : (x.deps.map dp).getD i .undef = .agg (dpV p) := gD_map hp
      have e3 := e45r p.blocks (hD p (List.mem_of_getElem? hp))
      unfold dpV at gp
      unfold mmV
      simp only [XG, L16_10, h16_10, go_sem, seval, bnd_ite, hi1, hw, gp, e3, beq_self_eq_true, Bool.not_true, Bool.not_false, decide_true, decide_false, Bool.false_eq_true, if_true, if_false, Bool.or_self, Int.natCast_nonneg]
      first | done | rfl | trace_state)
    (by intro i p hp hi hP _; cases hP)
    (by
      intro _
      unfold mmV
      simp only [XG, L16_10, h16_10, go_sem, seval, bnd_ite, Int.lt_irrefl, decide_false]
      first | exact .mk (by simp) ⟨rfl, rfl, rfl, rfl⟩ | trace_state)
  rw [show (x.deps).findIdx? (fun _ => false) = none from find_none.2 fun q _ => rfl] at j2
  obtain ⟨q1, q2, u2, w2⟩ := j2
  simp only at q1 q2 u2 w2; subst q1; subst q2
  simp only [show ((0 : Nat) : Int) = 0 from rfl] at k2
  unfold mmV at k1 k2
  unfold mm
  simp only [F16, h16_4, h16_10, go_sem, seval, bnd_ite, e1, k1, k2, u1, w1, u2, w2, beq_self_eq_true, Bool.not_true, Bool.not_false, decide_true, decide_false, Bool.false_eq_true, if_true, if_false, Bool.or_self, Int.natCast_nonneg]
  first | done | rfl | trace_state
end Go.Proofs.YtaaajjinpppgeaaDoor
namespace Go.Proofs.YtaaajjinpppgeaaDoor
open Go Go.Abs
set_option maxRecDepth 100000
def dig (i : Int) : ByteArray := ⟨#[UInt8.ofNat (48 + i.toNat)]⟩
theorem e40 (i : Int) (h0 : 0 ≤ i) (h9 : i < 10) : E T 40 [.int .i64 i] [] = some (.int .u8 (48 + i), []) := by
  rw [E_eq t40 (Nat.le_of_ble_eq_true rfl)]
  have w1 := w_i64 (48 + i) (by omega)
  have w2 : IntKind.u8.wrap (48 + i) = 48 + i := by
    show (48 + i) % (2 ^ 8 : Int) = _
    omega
  simp only [F40, go_sem, seval, bnd_ite, h9, w1, w2, decide_true, if_true]
  first | done | rfl | trace_state
theorem e14 (i : Int) (h0 : 0 ≤ i) (h9 : i < 10) : E T 14 [.int .i64 i] [] = some (.str (dig i), []) := by
  rw [E_eq t14 (Nat.le_of_ble_eq_true rfl)]
  by_cases hz : i = 0
  · subst hz
    simp only [F14, go_sem, seval, bnd_ite, decide_true, if_true]
    first | done | rfl | trace_state
  · have e1 := e40 i h0 h9
    have hr : i.tmod 10 = i := Int.tmod_eq_of_lt h0 h9
    have hq : i.tdiv 10 = 0 := Int.tdiv_eq_zero_of_lt h0 h9
    have wr := w_i64 i (by omega)
    have hn : ¬ i < 0 := by omega
    have w0 : IntKind.i64.wrap 0 = 0 := rfl
    simp only [F14, h14_5, go_sem, seval, bnd_ite, hz, hn, decide_false, Bool.false_eq_true, if_false]
    rw [XL_eq]
    simp only [XG, L14_5, h14_5, go_sem, seval, bnd_ite, hz, hn, hr, hq, wr, w0, e1, decide_false, decide_true, Bool.not_false, Bool.not_true, Bool.false_eq_true, if_false, if_true]
    have hd : (⟨#[UInt8.ofNat (48 + i).toNat]⟩ : ByteArray) ++ ⟨#[]⟩ = dig i := by
      unfold dig
      rw [show (48 + i).toNat = 48 + i.toNat by omega]
      rfl
    rw [hd, if_pos (show ((#[UInt8.ofNat (48 + i).toNat].size + (#[] : Array UInt8).size : Nat) : Int) ≤ 9223372036854775807 by simp), XL_eq]
    simp only [XG, h14_5, go_sem, seval, bnd_ite, hz, hn, hr, hq, wr, w0, e1, decide_false, decide_true, Bool.not_false, Bool.not_true, Bool.false_eq_true, if_false, if_true]
    first | done | rfl | trace_state
def nmE (l : List ByteArray) (s : Slt) : List ByteArray := if s.name = ⟨#[]⟩ then l else l ++ [s.name]
theorem nmE_len : ∀ (l : List Slt) (a : List ByteArray), (l.foldl nmE a).length ≤ a.length + l.length
  | [], a => Nat.le_refl _
  | s :: l, a => by
    rw [List.foldl_cons]
    refine Nat.le_trans (nmE_len l _) ?_
    have : (nmE a s).length ≤ a.length + 1 := by unfold nmE; split <;> simp
    simp only [List.length_cons]; omega
theorem slots4 {x : Dsk} (h : DskOk x) (p : Int) : (blkOf x p).slots.length ≤ 4 := by
  cases hc : inside p 1 x.blks.length with
  | false => unfold blkOf; rw [hc]; simp [blk0]
  | true =>
    have hb := h.blk _ (List.mem_of_getElem? (blkOf_mem hc))
    unfold blkOk at hb
    split at hb
    · simp only [Bool.and_eq_true, decide_eq_true_eq] at hb; omega
    · simp only [Bool.and_eq_true, decide_eq_true_eq] at hb; omega
theorem ptrs2 {x : Dsk} (h : DskOk x) (i : Int) : (inoOf x i).ptrs.length ≤ 2 := by
  cases hc : inside i 1 x.inos.length with
  | false => unfold inoOf; rw [hc]; simp [ino0]
  | true => have := (inoOk_iff.1 (h.ino _ (List.mem_of_getElem? (inoOf_mem hc)))).two; omega
theorem in18 (x : Dsk) (h : DskOk x) (l : List Int) (p : Int) (k : Nat) (a : List ByteArray) (ha : a.length ≤ 4 * k) (hk : k ≤ 2) : ∃ r, XL T 0 H18_10 L18_10 ⟨[(2, .ptr 0 0 0), (5, .sl 1 0 a.length), (20, .ro 1 (l.map iv)), (21, .int .i64 l.length), (22, .int .i64 (k : Nat)), (29, .ro 2 ((blkOf x p).slots.map slt)), (30, .int .i64 (blkOf x p).slots.length), (31, .int .i64 0)], [some (4, [dskC x]), some (1, a.map sv)]⟩ = some r ∧
    r.1 = .exit 2 ∧ r.2.mem = [some (4, [dskC x]), some (1, ((blkOf x p).slots.foldl nmE a).map sv)] ∧ lookA r.2.env 2 = .ptr 0 0 0 ∧ lookA r.2.env 5 = .sl 1 0 ((blkOf x p).slots.foldl nmE a).length ∧ lookA r.2.env 20 = .ro 1 (l.map iv) ∧ lookA r.2.env 21 = .int .i64 l.length ∧ lookA r.2.env 22 = .int .i64 (k : Nat) := by
  have h4 := slots4 h p
  refine XL_each (T := T) (b := 0) (hd := H18_10) (x := L18_10) (blkOf x p).slots nmE (fun i a => ⟨[(2, .ptr 0 0 0), (5, .sl 1 0 a.length), (20, .ro 1 (l.map iv)), (21, .int .i64 l.length), (22, .int .i64 (k : Nat)), (29, .ro 2 ((blkOf x p).slots.map slt)), (30, .int .i64 (blkOf x p).slots.length), (31, .int .i64 (i : Nat))], [some (4, [dskC x]), some (1, a.map sv)]⟩)
    (fun i a => a.length ≤ 4 * k + i) (fun a r => r.1 = .exit 2 ∧ r.2.mem = [some (4, [dskC x]), some (1, a.map sv)] ∧ lookA r.2.env 2 = .ptr 0 0 0 ∧ lookA r.2.env 5 = .sl 1 0 a.length ∧ lookA r.2.env 20 = .ro 1 (l.map iv) ∧ lookA r.2.env 21 = .int .i64 l.length ∧ lookA r.2.env 22 = .int .i64 (k : Nat)) ?_ ?_ a (by simpa using ha)
  · intro i a s hs hi ha
    have hi1 : (i : Int) < ((blkOf x p).slots.length : Int) := by omega
    have gs : ((blkOf x p).slots.map slt).getD i .undef = .agg [.str s.name, .int .i64 s.ino] := gD_map hs
    have hw := w_i64 ((i : Int) + 1) (by omega)
    have hap : (a.length + 1) * 16 ≤ 140737488355328 := by omega
    have tka : (a.map sv).take a.length = a.map sv := tkO
    have sa : a.map sv ++ [AV.str s.name] = (a ++ [s.name]).map sv := by rw [List.map_append]; rfl
    have tks : ((a ++ [s.name]).map sv).take (a.length + 1) = (a ++ [s.name]).map sv := tkN (by simp)
    unfold dskC
    by_cases hn : s.name = ⟨#[]⟩
    · refine ⟨?_, ?_⟩
      · simp only [XG, L18_10, h18_10, go_sem, seval, bnd_ite, hi1, gs, hw, hn, decide_true, Bool.not_true, Bool.false_eq_true, if_false, if_true, Int.natCast_nonneg, nmE, tka, tkO]
        first | done | rfl | trace_state
      · unfold nmE; rw [if_pos hn]; omega
    · refine ⟨?_, ?_⟩
      · simp only [XG, L18_10, h18_10, go_sem, seval, bnd_ite, hi1, gs, hw, hn, decide_false, decide_true, Bool.not_false, Bool.false_eq_true, if_false, if_true, Int.natCast_nonneg, nmE, hap, tka, sa, tks, tkO, List.length_append, List.length_cons, List.length_nil, List.length_map]
        first | done | rfl | trace_state
      · unfold nmE; rw [if_neg hn]; simp; omega
  · intro a ha
    have tka : (a.map sv).take a.length = a.map sv := tkO
    unfold dskC
    simp only [XG, L18_10, h18_10, go_sem, seval, bnd_ite, Int.lt_irrefl, decide_false, tka]
    first | exact .mk (by simp) ⟨rfl, rfl, rfl, rfl, rfl, rfl, rfl⟩ | trace_state
def nmP (x : Dsk) (a : List ByteArray) (p : Int) : List ByteArray := (blkOf x p).slots.foldl nmE a
theorem e18 (x : Dsk) (h : x.sm) (hx : DskOk x) (i : Int) (hk : (inoOf x i).kind = 2) : E T 18 [dsk x, .int .i64 i] [] = some (.own 1 (((inoOf x i).ptrs.foldl (nmP x) []).map sv), []) := by
  rw [E_eqW t18 (Nat.le_of_ble_eq_true rfl)]
  have e1 := e32u x h i
  have hp2 := ptrs2 hx i
  generalize inoOf x i = q at *
  obtain ⟨pk, pl, l⟩ := q
  simp only at hk hp2 ⊢
  subst hk
  rw [show ino ⟨2, pl, l⟩ = .agg [.int .i64 2, .int .i64 pl, .ro 1 (l.map iv)] from rfl] at e1
  obtain ⟨⟨y, e, m⟩, k1, k2⟩ := XL_each (T := T) (b := 0) (hd := H18_6) (x := L18_6) l (nmP x) (fun k a => ⟨[(2, .ptr 0 0 0), (5, .sl 1 0 a.length), (20, .ro 1 (l.map iv)), (21, .int .i64 l.length), (22, .int .i64 (k : Nat))], [some (4, [dskC x]), some (1, a.map sv)]⟩)
    (fun k a => a.length ≤ 4 * k) (fun a r => r.1 = .exit 0 ∧ r.2.mem = [some (4, [dskC x]), some (1, a.map sv)] ∧ lookA r.2.env 5 = .sl 1 0 a.length)
    (by
      intro k a p hq hk ha
      have k1' : (k : Int) < (l.length : Int) := by omega
      have gp : (l.map iv).getD k .undef = .int .i64 p := gD_map hq
      have e2 := e46u x h p
      have hw := w_i64 ((k : Int) + 1) (by omega)
      have h4 := slots4 hx p
      obtain ⟨⟨y, e, m⟩, r1, r2, r3, r4, r5, r6, r7, r8⟩ := in18 x hx l p k a ha (by omega)
      have hlen := nmE_len (blkOf x p).slots a
      unfold nmP
      generalize hg : (blkOf x p).slots.foldl nmE a = a' at *
      simp only at r2 r3 r4 r5 r6 r7 r8
      subst r2 r3
      generalize hb : blkOf x p = b at *
      rw [show blk b = .agg [.bool b.dir, .ro 2 (b.slots.map slt), .str b.text] from rfl] at e2
      unfold dsk at e2
      have tka : (a.map sv).take a.length = a.map sv := tkO
      refine ⟨?_, by omega⟩
      unfold dskC at r1 ⊢
      simp only [XG, L18_6, h18_6, h18_10, go_sem, seval, bnd_ite, k1', gp, e2, r1, r4, r5, r6, r7, r8, hw, tka, Int.natCast_nonneg, decide_true, if_true]
      first | done | rfl | trace_state)
    (by
      intro a ha
      have tka : (a.map sv).take a.length = a.map sv := tkO
      unfold dskC
      simp only [XG, L18_6, h18_6, go_sem, seval, bnd_ite, Int.lt_irrefl, decide_false, tka]
      first | exact .mk (by simp) ⟨rfl, rfl, rfl⟩ | trace_state) [] (by simp)
  generalize l.foldl (nmP x) [] = A at *
  obtain ⟨r2, r3, r4⟩ := k2
  simp only at r2 r3 r4
  subst r2 r3
  have hs : ((0 : Nat) : Int) = 0 := rfl
  unfold dskC at k1
  simp only [hs, List.length_nil, List.map_nil] at k1
  unfold dsk at e1 ⊢
  have tka : (A.map sv).take A.length = A.map sv := tkO
  have wsv : (A.map sv).map (wid .one) = A.map sv := by rw [List.map_map]; exact List.map_congr_left fun x _ => rfl
  simp only [F18, h18_6, go_sem, seval, bnd_ite, e1, k1, r4, tka, wsv, decide_true, Bool.not_true, Bool.false_eq_true, if_false, if_true]
  first | done | rfl | trace_state
end Go.Proofs.YtaaajjinpppgeaaDoor
namespace Go.Proofs.YtaaajjinpppgeaaDoor
open Go Go.Abs
set_option maxRecDepth 100000
def makeS (x : Mm) (nm : ByteArray) (k : Int) : Mm :=
  if 0 < (freeSlot (nodeN x k) 1).1 then nameN (nodeN x k) nm (ffree x.disk.taken) (freeSlot (nodeN x k) 1).1 (freeSlot (nodeN x k) 1).2
  else nameN (growD (nodeN x k) 1 (idxOf (inoOf x.disk 1).ptrs 0)) nm (ffree x.disk.taken) (ffree x.disk.used) 0
def nmI (i : Nat) : ByteArray := ⟨#[102]⟩ ++ dig (i : Int)
def pthI (i : Nat) : ByteArray := ⟨#[47, 102]⟩ ++ dig (i : Int)
def kB (b : Bool) : Int := if b then 2 else 1
def stB (bs : Nat → Bool) : Nat → Mm
  | 0 => memNew dskNew
  | i + 1 => makeS (stB bs i) (nmI i) (kB (bs i))
def smI (x : Ino) : Bool := Nat.ble x.ptrs.length 64
def smS (x : Slt) : Bool := Nat.ble x.name.size 64
def smK (x : Blk) : Bool := Nat.ble x.slots.length 64 && Nat.ble x.text.size 64 && x.slots.all smS
def smD (x : Dp) : Bool := Nat.ble x.name.size 64 && Nat.ble x.blocks.length 64
def smM (x : Mm) : Bool := Nat.ble x.disk.used.length 64 && Nat.ble x.disk.taken.length 64 && Nat.ble x.disk.inos.length 64 && Nat.ble x.disk.blks.length 64 && x.disk.inos.all smI && x.disk.blks.all smK && Nat.ble x.dirty.length 64 && Nat.ble x.deps.length 64 && x.deps.all smD
theorem smM_sm {x : Mm} (h : smM x = true) : x.sm ∧ x.ok := by
  unfold smM at h
  simp only [Bool.and_eq_true, List.all_eq_true, Nat.ble_eq] at h
  obtain ⟨⟨⟨⟨⟨⟨⟨⟨h1, h2⟩, h3⟩, h4⟩, h5⟩, h6⟩, h7⟩, h8⟩, h9⟩ := h
  have b5 : ∀ y ∈ x.disk.inos, y.ptrs.length ≤ 64 := fun y hy => by have := h5 y hy; unfold smI at this; rwa [Nat.ble_eq] at this
  have b6 : ∀ y ∈ x.disk.blks, y.slots.length ≤ 64 ∧ y.text.size ≤ 64 ∧ ∀ s ∈ y.slots, s.name.size ≤ 64 := fun y hy => by
    have := h6 y hy; unfold smK at this
    simp only [Bool.and_eq_true, List.all_eq_true, Nat.ble_eq] at this
    exact ⟨this.1.1, this.1.2, fun s hs => by have := this.2 s hs; unfold smS at this; rwa [Nat.ble_eq] at this⟩
  have b9 : ∀ y ∈ x.deps, y.name.size ≤ 64 ∧ y.blocks.length ≤ 64 := fun y hy => by
    have := h9 y hy; unfold smD at this
    simpa only [Bool.and_eq_true, Nat.ble_eq] using this
  have m : (64 : Nat) ≤ maxLen := by decide
  have n : (64 : Nat) ≤ 1048576 := by decide
  exact ⟨⟨⟨by omega, by omega, by omega, by omega, fun y hy => Nat.le_trans (b5 y hy) n, fun y hy => Nat.le_trans (b6 y hy).1 n⟩, by omega, by omega, fun y hy => Nat.le_trans (b9 y hy).2 n⟩,
    ⟨⟨Nat.le_trans h1 m, Nat.le_trans h2 m, Nat.le_trans h3 m, Nat.le_trans h4 m, fun y hy => Nat.le_trans (b5 y hy) m, fun y hy => ⟨Nat.le_trans (b6 y hy).1 m, Nat.le_trans (b6 y hy).2.1 m, fun s hs => Nat.le_trans ((b6 y hy).2.2 s hs) m⟩⟩, Nat.le_trans h7 m, Nat.le_trans h8 m, fun y hy => ⟨Nat.le_trans (b9 y hy).1 m, Nat.le_trans (b9 y hy).2 m⟩⟩⟩
def mkB (x : Mm) (p nm : ByteArray) : Bool :=
  smM x && memOk x && decide (p.size ≤ 1048576) && decide (namesOf p = some [nm]) && decide (walkN x.disk 1 [nm] = 0) && decide ((inoOf x.disk 1).kind = 2) && x.deps.all fun d => !decide (d.kind = 4)
theorem mkB_mk {x : Mm} {p nm : ByteArray} {k : Int} (h : mkB x p nm = true) (hk : k = 1 ∨ k = 2) : Mk x p nm k := by
  unfold mkB at h
  simp only [Bool.and_eq_true, decide_eq_true_eq, List.all_eq_true] at h
  obtain ⟨⟨⟨⟨⟨⟨h1, h2⟩, h3⟩, h4⟩, h5⟩, h6⟩, h7⟩ := h
  exact ⟨(smM_sm h1).1, (smM_sm h1).2, h2, h3, h4, h5, h6, fun d hd => by simpa using h7 d hd, hk⟩
def goB (x : Mm) (k : Int) : Bool :=
  !decide (ffree x.disk.taken = 0) && roomM x && hasSlot x 1 && (decide (0 < (freeSlot (nodeN x k) 1).1) ||
    (decide (freeSlot (nodeN x k) 1 = (0, 0)) && !decide (ffree x.disk.taken = 1) && decide (0 ∈ (inoOf x.disk 1).ptrs) && !decide (ffree x.disk.used = 0)))
theorem goB_make {x : Mm} {p nm : ByteArray} {k : Int} (h : Mk x p nm k) (hg : goB x k = true) : E T 13 [mm x, .str p, .int .i64 k] [] = some (.tup [mmO (makeS x nm k), .int .i64 0], []) := by
  unfold goB at hg
  simp only [Bool.and_eq_true, Bool.or_eq_true, Bool.not_eq_true', decide_eq_true_eq, decide_eq_false_iff_not] at hg
  obtain ⟨⟨⟨g1, g2⟩, g3⟩, g4⟩ := hg
  unfold makeS
  by_cases hp : 0 < (freeSlot (nodeN x k) 1).1
  · rw [if_pos hp]
    exact e13a x p nm k h g1 g2 g3 hp
  · rw [if_neg hp]
    obtain ⟨⟨⟨q1, q2⟩, q3⟩, q4⟩ := g4.resolve_left hp
    cases hf : (inoOf x.disk 1).ptrs.findIdx? (fun a => decide (0 = a)) with
    | none =>
      have := List.findIdx?_eq_none_iff.1 hf 0 q3
      simp at this
    | some j =>
      have hi : idxOf (inoOf x.disk 1).ptrs 0 = (j : Nat) := by unfold idxOf; rw [hf]
      rw [hi]
      exact e13b x p nm k h g1 g2 g3 q1 q2 j hf q4
def stepB (bs : Nat → Bool) (i : Nat) : Bool := mkB (stB bs i) (pthI i) (nmI i) && goB (stB bs i) (kB (bs i))
def endB (x : Mm) : Bool := mkB x (pthI 7) (nmI 7) && decide (ffree x.disk.taken = 0) && (List.range 7).all (fun i => decide (walkN x.disk 1 [nmI i] = (i : Int) + 2) && decide (namesOf (pthI i) = some [nmI i])) && decide (((inoOf x.disk 1).ptrs.foldl (nmP x.disk) []).length = 7)
def lB (l : List Bool) (i : Nat) : Bool := l.getD i false
def chkB (l : List Bool) : Bool := (List.range 7).all (stepB (lB l)) && endB (stB (lB l) 7)
def allL : Nat → List (List Bool)
  | 0 => [[]]
  | n + 1 => (allL n).flatMap fun l => [false :: l, true :: l]
theorem allL_mem : ∀ (l : List Bool), l ∈ allL l.length
  | [] => List.mem_singleton.2 rfl
  | b :: l => by
    unfold allL
    rw [List.length_cons, List.mem_flatMap]
    exact ⟨l, allL_mem l, by cases b <;> simp⟩
set_option maxRecDepth 1000000 in
theorem chk_all : (allL 7).all chkB = true := by decide +kernel
end Go.Proofs.YtaaajjinpppgeaaDoor
namespace Go.Proofs.YtaaajjinpppgeaaDoor
open Go Go.Abs
set_option maxRecDepth 100000
theorem e10 (l : List Int) : E T 10 [by8 l] [] = some (.bool (decide ((1048576 : Int) < (l.length : Int))), []) := by
  rw [E_eq t10 (Nat.le_of_ble_eq_true rfl)]
  unfold by8
  simp only [F10, go_sem, seval, bnd_ite, List.length_map]
  first | done | rfl | trace_state
theorem chk_use (bs : Nat → Bool) : (∀ i < 7, stepB bs i = true) ∧ endB (stB bs 7) = true := by
  have h := List.all_eq_true.1 chk_all ((List.range 7).map bs) (by simpa using allL_mem ((List.range 7).map bs))
  unfold chkB at h
  simp only [Bool.and_eq_true, List.all_eq_true, List.mem_range] at h
  have hb : ∀ i, i < 7 → lB ((List.range 7).map bs) i = bs i := fun i hi => by unfold lB; simp [List.getD, hi]
  have hs : ∀ i, i ≤ 7 → stB (lB ((List.range 7).map bs)) i = stB bs i := fun i => by
    induction i with
    | zero => intro _; rfl
    | succ i ih => intro hi; show makeS _ _ _ = makeS _ _ _; rw [ih (by omega), hb i (by omega)]
  refine ⟨fun i hi => ?_, ?_⟩
  · have := h.1 i hi
    unfold stepB at this ⊢
    rwa [hs i (by omega), hb i hi] at this
  · rw [← hs 7 (by omega)]; exact h.2
theorem kB_mod (v : Int) (h : 0 ≤ v) : 1 + v.tmod 2 = kB (decide (v.tmod 2 = 1)) := by
  have h1 := Int.tmod_nonneg 2 h
  have h2 := Int.tmod_lt_of_pos v (show (0 : Int) < 2 by omega)
  unfold kB
  by_cases hh : v.tmod 2 = 1 <;> simp [hh] <;> omega
set_option maxHeartbeats 2000000 in
theorem e4 (l : List Int) : E T 4 [by8 l] [] = some (.bool true, []) := by
  rw [E_eq t4 (Nat.le_of_ble_eq_true rfl)]
  have e1 := e10 l
  by_cases hbig : (1048576 : Int) < (l.length : Int)
  · rw [decide_eq_true hbig] at e1
    unfold by8 at e1 ⊢
    simp only [F4, go_sem, seval, bnd_ite, e1, if_true]
    first | done | rfl | trace_state
  rw [decide_eq_false hbig] at e1
  obtain ⟨xs, hx12, hxr, e2⟩ := e15 l (by omega)
  let bs : Nat → Bool := fun i => decide ((xs.getD i 0).tmod 2 = 1)
  obtain ⟨hst, hend⟩ := chk_use bs
  have e3 := e12
  have e4' := e11 dskNew (smM_sm (x := memNew dskNew) (by decide +kernel)).1.disk
  have hk12 : ∀ b, kB b = 1 ∨ kB b = 2 := fun b => by cases b <;> simp [kB]
  have hx0 : ∀ i, i < 12 → ∃ v, xs[i]? = some v ∧ 0 ≤ v ∧ v ≤ 9999 := fun i hi => by
    obtain ⟨v, hv⟩ := get_at (show i < xs.length by omega)
    exact ⟨v, hv, hxr v (List.mem_of_getElem? hv)⟩
  have hpth : ∀ i : Nat, AV.str (⟨#[47, 102]⟩ ++ dig (i : Int)) = .str (pthI i) := fun i => rfl
  unfold endB at hend
  simp only [Bool.and_eq_true, decide_eq_true_eq, List.all_eq_true, List.mem_range] at hend
  obtain ⟨⟨⟨en1, en2⟩, en3⟩, en4⟩ := hend
  generalize hX : stB bs 7 = X at *
  obtain ⟨⟨z, v, m⟩, k1, j0, j1, j2, j3, j4⟩ := XL_inv (T := T) (b := 0) (hd := H4_6) (x := L4_6) (β := Unit) (fun i _ => ⟨[(0, by8 l), (3, .ptr 0 0 0), (4, .int .i64 (min i 7 : Nat)), (5, .int .i64 (i : Nat))], [some (7, [mmO (stB bs (min i 7))])]⟩)
    (fun _ _ => True) 8 (fun r => r.1 = .exit 0 ∧ r.2.mem = [some (7, [mmO X])] ∧ lookA r.2.env 3 = .ptr 0 0 0 ∧ lookA r.2.env 4 = .int .i64 7) (by
      intro i _ hi _
      left
      refine ⟨(), ?_, trivial⟩
      have hi8 : (i : Int) < 8 := by omega
      have e5 := e14 (i : Nat) (by omega) (by omega)
      obtain ⟨v, hv, v0, v9⟩ := hx0 i (by omega)
      have gv : (xs.map (AV.int .i64)).getD i .undef = .int .i64 v := gD_map hv
      have hi12 : (i : Int) < (xs.length : Int) := by omega
      have h12n : i < xs.length := by omega
      have hc : ((i + 1 : Nat) : Int) = (i : Int) + 1 := by omega
      have gx : xs.getD i 0 = v := getD_at hv
      have hkv := kB_mod v v0
      have hbi : bs i = decide (v.tmod 2 = 1) := by show decide ((xs.getD i 0).tmod 2 = 1) = _; rw [gx]
      rw [← hbi] at hkv
      have wk := w_i64 (1 + v.tmod 2) (by have := Int.tmod_nonneg 2 v0; have := Int.tmod_lt_of_pos v (show (0 : Int) < 2 by omega); omega)
      have wi := w_i64 ((i : Int) + 1) (by omega)
      have hn2 : ((#[47, 102] : Array UInt8).size + (dig (i : Nat)).size : Nat) = 3 := rfl
      by_cases h7 : i < 7
      · have hs := hst i h7
        unfold stepB at hs
        rw [Bool.and_eq_true] at hs
        have e6 := goB_make (mkB_mk hs.1 (hk12 (bs i))) hs.2
        have m1 : min i 7 = i := by omega
        have m2 : min (i + 1) 7 = i + 1 := by omega
        rw [m1, m2, hc]
        have hS : stB bs (i + 1) = makeS (stB bs i) (nmI i) (kB (bs i)) := rfl
        rw [hS]
        unfold pthI at e6
        generalize makeS (stB bs i) (nmI i) (kB (bs i)) = Y at *
        generalize stB bs i = Z at *
        rw [← hkv] at e6
        unfold by8 at e2 ⊢
        unfold mm at e6
        unfold mmO at e6 ⊢
        simp only [XG, L4_6, h4_6, go_sem, seval, bnd_ite, hi8, hi12, h12n, e2, e5, e6, gv, wk, wi, hn2, Int.natCast_nonneg, decide_true, decide_false, Bool.not_true, Bool.not_false, Bool.false_eq_true, if_true, if_false, tkO, List.length_map]
        first | done | rfl | trace_state
      · have hi7 : i = 7 := by omega
        subst hi7
        have c7 : ((7 : Nat) : Int) = 7 := rfl
        rw [c7] at e5 wi hn2 hi8 hi12
        have e6 := e13f X (pthI 7) (nmI 7) (kB (bs 7)) (mkB_mk en1 (hk12 _)) en2
        have e7 := e16r X (mkB_mk en1 (hk12 (bs 7))).sm
        rw [show min 7 7 = 7 from rfl, show min (7 + 1) 7 = 7 from rfl, hX, hc, c7]
        rw [← hkv] at e6
        unfold pthI at e6
        rw [c7] at e6
        unfold by8 at e2 ⊢
        unfold mm at e6 e7
        unfold mmO at e6 ⊢
        simp only [XG, L4_6, h4_6, go_sem, seval, bnd_ite, hi8, hi12, h12n, e2, e5, e6, e7, gv, wk, wi, hn2, Int.natCast_nonneg, decide_true, decide_false, Bool.not_true, Bool.not_false, Bool.false_eq_true, if_true, if_false, tkO, List.length_map]
        first | done | rfl | trace_state) (by
      intro _ _
      rw [show min 8 7 = 7 from rfl, hX]
      unfold by8 mmO
      simp only [XG, L4_6, h4_6, go_sem, seval, bnd_ite, Int.lt_irrefl, decide_false, tkO]
      first | exact .mk (by simp) ⟨rfl, rfl, rfl, rfl⟩ | trace_state) 0 () (by omega) trivial
  have hs0 : ((0 : Nat) : Int) = 0 := rfl
  have hz0 : stB bs (min 0 7) = memNew dskNew := rfl
  simp only at k1 j1 j2 j3 j4
  rw [hz0, show min 0 7 = 0 from rfl, hs0] at k1
  subst j1 j2
  have hmk := mkB_mk en1 (hk12 true)
  have hsm := hmk.sm
  obtain ⟨hd, hdl, hdp, hn1, hn2⟩ := memHead_use (show memHead X = true by have hm := hmk.mem; unfold memOk at hm; simp only [Bool.and_eq_true] at hm; exact hm.1)
  obtain ⟨⟨z2, v2, m2⟩, k2, i0, i1, i2, i3, i4⟩ := XL_inv (T := T) (b := 0) (hd := H4_16) (x := L4_16) (β := Unit) (fun i _ => ⟨[(3, .ptr 0 0 0), (4, .int .i64 7), (8, .int .i64 (i : Nat))], [some (7, [mmO X])]⟩)
    (fun _ _ => True) 7 (fun r => r.1 = .exit 2 ∧ r.2.mem = [some (7, [mmO X])] ∧ lookA r.2.env 3 = .ptr 0 0 0 ∧ lookA r.2.env 4 = .int .i64 7) (by
      intro i _ hi _
      left
      refine ⟨(), ?_, trivial⟩
      have hi7 : (i : Int) < 7 := by omega
      have e5 := e14 (i : Nat) (by omega) (by omega)
      obtain ⟨w1, w2⟩ := en3 i hi
      have e6 := e17 X.disk hsm.disk hd (pthI i) (Nat.le_trans (show (pthI i).size ≤ 3 from Nat.le_refl _) (by decide)) [nmI i] w2
      rw [w1] at e6
      have hn2 : ((#[47, 102] : Array UInt8).size + (dig (i : Nat)).size : Nat) = 3 := rfl
      have wi := w_i64 ((i : Int) + 1) (by omega)
      have wi2 := w_i64 ((i : Int) + 2) (by omega)
      have hc : ((i + 1 : Nat) : Int) = (i : Int) + 1 := by omega
      rw [hc]
      unfold pthI dsk at e6
      unfold mmO
      simp only [XG, L4_16, h4_16, go_sem, seval, bnd_ite, hi7, e5, e6, wi, wi2, hn2, Int.natCast_nonneg, decide_true, decide_false, Bool.not_true, Bool.not_false, Bool.false_eq_true, if_true, if_false, tkO, List.length_map]
      first | done | rfl | trace_state) (by
      intro _ _
      unfold mmO
      simp only [XG, L4_16, h4_16, go_sem, seval, bnd_ite, Int.lt_irrefl, decide_false, tkO]
      first | exact .mk (by simp) ⟨rfl, rfl, rfl, rfl⟩ | trace_state) 0 () (by omega) trivial
  simp only at k2 i1 i2 i3 i4
  rw [hs0] at k2
  subst i1 i2
  have e5 := e18 X.disk hsm.disk hd 1 hmk.dir
  have e6 := e19 X hmk.ok
  rw [hmk.mem] at e6
  generalize hL : (inoOf X.disk 1).ptrs.foldl (nmP X.disk) [] = L at *
  have hL7 : (L.length : Int) = 7 := by omega
  unfold by8 at e1 k1 ⊢
  unfold dskO at e3
  unfold dsk at e4' e5
  unfold mm at e6
  unfold mmO at e4' k1 k2
  simp only [F4, h4_6, h4_16, go_sem, seval, bnd_ite, e1, e3, e4', e5, e6, k1, k2, j3, j4, i3, i4, en4, hL7, decide_true, decide_false, Bool.not_true, Bool.not_false, Bool.false_eq_true, if_true, if_false, tkO, List.length_map, Bool.and_self, Bool.true_and]
  first | done | rfl | trace_state
end Go.Proofs.YtaaajjinpppgeaaDoor
namespace Go.Proofs.YtaaajjinpppgeaaDoor
open Go Go.Abs
theorem u8s : ∀ css : List (List AV), (∀ cs ∈ css, Is (.int .u8) cs) → ∃ l : List Int, css.map (Shp.int .u8).elem = l.map (AV.int .u8)
  | [], _ => ⟨[], rfl⟩
  | cs :: css, h => by
    obtain ⟨l, hl⟩ := u8s css fun c hc => h c (List.mem_cons_of_mem _ hc)
    have h1 := h cs (List.mem_cons_self ..)
    cases h1
    rename_i n hn
    exact ⟨n :: l, by rw [List.map_cons, List.map_cons, hl]; rfl⟩
def shFnManyNames : List Shp := [.slice 1 (.int .u8)]
theorem isFnManyNames {avs : List AV} (h : IsAs shFnManyNames avs) : E T 4 avs [] = some (.bool true, []) := by
  cases h with | cons h1 h =>
  cases h
  obtain ⟨cs, h1, rfl⟩ := h1
  cases h1 with | slice h1 hl =>
  obtain ⟨l, hl⟩ := u8s _ h1
  show E T 4 [.ro 1 (List.map _ _)] [] = _
  rw [hl]
  exact e4 l
end Go.Proofs.YtaaajjinpppgeaaDoor
namespace Go.Abs
open Go
def wAcc : List Char → List Char → List (List Char) → List (List Char)
  | [], cur, acc => (cur.reverse :: acc).reverse
  | c :: r, cur, acc => if c.toNat = 32 then wAcc r [] (cur.reverse :: acc) else wAcc r (c :: cur) acc
def joinW (cur : List Char) : List (List Char) → List (List Char)
  | w :: ws => (cur ++ w) :: ws
  | [] => [cur]
theorem ws_c (c : Char) (r : List Char) : wordsSigns (c :: r) = if c.toNat = 32 then [] :: wordsSigns r else joinW [c] (wordsSigns r) := by
  by_cases h : c.toNat = 32
  · rw [if_pos h]
    have : c = Char.ofNat 32 := by
      apply Char.ext
      apply UInt32.toNat_inj.1
      exact h
    subst this; rfl
  · rw [if_neg h]
    rw [wordsSigns.eq_3 _ _ (fun e => h (by rw [e]; rfl))]
    cases wordsSigns r <;> rfl
theorem ws_ne (l : List Char) : wordsSigns l ≠ [] := by
  cases l with
  | nil => simp [wordsSigns]
  | cons c r =>
    rw [ws_c]
    split
    · simp
    · cases wordsSigns r <;> simp [joinW]
theorem wAcc_eq : ∀ (l cur : List Char) (acc : List (List Char)), wAcc l cur acc = acc.reverse ++ joinW cur.reverse (wordsSigns l) := by
  intro l
  induction l with
  | nil => intro cur acc; simp [wAcc, wordsSigns, joinW]
  | cons c r ih =>
    intro cur acc
    simp only [wAcc]
    rw [ws_c]
    by_cases h : c.toNat = 32
    · rw [if_pos h, if_pos h, ih]
      cases hr : wordsSigns r with
      | nil => exact absurd hr (ws_ne r)
      | cons w ws => simp [joinW]
    · rw [if_neg h, if_neg h, ih]
      cases wordsSigns r <;> simp [joinW]
theorem words_eq (l : List Char) : wordsSigns l = wAcc l [] [] := by
  rw [wAcc_eq]
  have := ws_ne l
  cases h : wordsSigns l with
  | nil => exact absurd h this
  | cons w ws => simp [joinW]
theorem strip_cut (r : List (List Char)) : stripLifts liftWords ("cut".toList :: r) = ([], "cut".toList :: r) := by kernel_rfl
theorem lifts_of {P : Program} {r : List (List Char)} (h : behindMainWord (wordsSigns P.initOrder.toList) = "cut".toList :: r) : P.headLifts = [] := by
  unfold Program.headLifts
  rw [h, strip_cut]; kernel_rfl
theorem liftsFinal_of {P : Program} {r : List (List Char)} (h : behindMainWord (wordsSigns P.initOrder.toList) = "cut".toList :: r) : P.liftsFinal = false := by
  unfold Program.liftsFinal
  rw [h, lifts_of h]; kernel_rfl
theorem make_of {P : Program} {r : List (List Char)} (h : behindMainWord (wordsSigns P.initOrder.toList) = "cut".toList :: r) : P.make = some .cut := by
  unfold Program.make
  rw [h]; kernel_rfl
theorem mayEnter_of {P : Program} {r : List (List Char)} (h : behindMainWord (wordsSigns P.initOrder.toList) = "cut".toList :: r) (h1 : P.laysLater = false) (h2 : P.bearsReflect = false) (h3 : P.doorFits [] = true) : P.mayEnter = true := by
  unfold Program.mayEnter
  rw [h]
  simp only [strip_cut, h1, h2, h3]
  kernel_rfl
open Go.RowKit in
theorem facts_of {P : Program} {f : FuncId} {fn : Func} {s : ChangeSpec} {c : OpenClaim} (a1 : c.wf (OpenSpec.ofChange s) = true) (a2 : laidOutB P = true) (a3 : mapsRowed P = true)
    (a4 : fn.params.all (P.readableRec ·) = true) (a5 : namedTie P c.named s.vars = true) (a6 : (c.stops == []) = true) (a7 : (P.stops == []) = true) (a8 : (c.knobs == []) = true) (a9 : (P.stopKnobs == []) = true)
    (a10 : (c.inPlace == P.inPlace f) = true) (a11 : (c.unfollowed == P.unfollowed f) = true) (a12 : (c.recurses == P.recurses f) = true) (a13 : (c.named == P.varsNamed f) = true)
    (a14 : (c.maps == (fn.params.toList ++ s.plain.varTypes P).any (P.mapsRec ·)) = true) (a15 : (c.ifaces == (fn.params.toList ++ s.plain.varTypes P).any (P.ifacesRec ·)) = true) (a16 : (c.mapsOut == P.mapsAmong fn.resultTypes.toList) = true)
    (a17 : (c.loops == (fn.params.toList ++ s.plain.varTypes P).any (P.loopsFrom ·)) = true) (a18 : (c.wideKeys == (fn.params.toList ++ s.plain.varTypes P ++ fn.resultTypes.toList).any (P.wideKeysFrom ·)) = true)
    (a19 : s.vars.all (P.varReadable ·) = true) (a20 : fn.resultTypes.all (fun t => P.readableRec t && decide (t < P.types.size)) = true) (a21 : (c.ifacesOut == fn.resultTypes.toList.any (P.ifacesRec ·)) = true)
    (a22 : (c.loopsOut == fn.resultTypes.toList.any (P.loopsFrom ·)) = true) (a23 : (c.plainKeys == P.plainKeys) = true) (a24 : c.shortTexts.isNone = true) (a25 : P.stopsHeard = true) (a26 : P.mayEnter = true)
    (a27 : (c.lifted == P.liftsFinal) = true) (a28 : (P.make == some c.make) = true)
    (a29 : c.domain.isEmpty = true) (a29' : c.kinds = []) (a30 : (c.pinned == c.pinnedBy) = true)
    (a31 : (c.veiled == (fn.params.toList ++ s.plain.varTypes P ++ fn.resultTypes.toList).any (P.veiledRec ·)) = true) (a32 : c.veiledFits P fn.params.toList (fn.params.toList ++ s.plain.varTypes P ++ fn.resultTypes.toList) = true) :
    joinedFacts P f fn s c = true := by
  unfold joinedFacts
  rw [a1, a2, a3, a4, a5, a6, a7, a8, a9, a10, a11, a12, a13, a14, a15, a16, a17, a18, a19, a20, a21, a22, a23, a24, a25, a26, a27, a28, a29, a29', a30, a31, a32]
  rfl
end Go.Abs
