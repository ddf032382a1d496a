/- The last part of the texts of a claim, joined by a program of ours; at its end stands the row: the law returns true for every input, and leaves it as it was. No condition. -/
import Derived.Test.YtaaajjinpppgeaaJ24c
import GoSem.ClaimOpenFrom
import GoSem.ClaimJoined
import Derived.JoinedOf
import Derived.ProofKit
import Derived.KernelRfl
import Derived.Test.YtaaajjinpppgeaaRows
set_option linter.unusedVariables false
set_option linter.unusedSimpArgs false
set_option linter.unusedSectionVars false
/- The texts of bytes, inodes and bits. Own work; no condition. -/
set_option linter.unusedVariables false
set_option linter.unusedSimpArgs false
set_option linter.unusedSectionVars false
namespace Go.Proofs.Ytaaajjinpppgeaa
open Go Go.Abs
set_option maxRecDepth 100000
def ub (n : Int) : AV := .int .u8 (IntKind.u8.wrap n)
def toB (n : Int) : UInt8 := UInt8.ofNat (IntKind.u8.wrap n).toNat
def byteT (ns : List Int) : ByteArray := ⟨(ns.map toB).toArray⟩
theorem ub_cool (n : Int) : coolX (ub n) = true := rfl
theorem ub_no (n : Int) : (ub n).cells.all noOwnC = true := rfl
theorem ub_mi (g : Bool → Nat → Nat → Nat → AV) (l : List Int) : mapIdL g (l.map ub) = l.map ub := mi_map g ub l ub_cool
theorem ub_is (u : Bool → Nat → Nat → Nat → List Nat) (l : List Int) : idsL u (l.map ub) = [] := is_map u ub l ub_cool
attribute [go_sem] ub_mi ub_is
theorem bytesOf_ub (ns : List Int) : bytesOf (ns.map ub) = some (ns.map toB) := by
  induction ns with
  | nil => rfl
  | cons n ns ih => rw [List.map_cons, List.map_cons]; unfold ub; rw [by_c]; unfold ub at ih; rw [ih]; rfl
theorem ba_app (a b : List UInt8) : (⟨a.toArray⟩ : ByteArray) ++ ⟨b.toArray⟩ = ⟨(a ++ b).toArray⟩ := by
  apply ByteArray.ext
  rw [ByteArray.data_append]
  simp
theorem byteT_app (a b : List Int) : byteT a ++ byteT b = byteT (a ++ b) := by unfold byteT; rw [ba_app, List.map_append]
theorem byteT_size (a : List Int) : (byteT a).size = a.length := by simp [byteT, ByteArray.size]
theorem e280 (ns : List Int) (hn : ns.length ≤ 1048576) : E T 280 [.ro 1 (ns.map iv)] [] = some (.str (byteT ns), []) := by
  rw [E_eq t280 (Nat.le_of_ble_eq_true rfl)]
  refine (XL_each (T := T) (b := 0) (hd := H280_3) (x := L280_3) ns (fun (_ : Unit) _ => ()) (fun i _ => ⟨[(3, .sl 0 0 i), (7, .ro 1 (ns.map iv)), (8, .int .i64 ns.length), (9, .int .i64 (i : Nat))], [some (1, (ns.take i).map ub)]⟩) (fun _ _ => True)
    (fun _ r => r.1 = .exit 0 ∧ lookA r.2.env 3 = .sl 0 0 ns.length ∧ r.2.mem = [some (1, ns.map ub)]) ?step ?last () trivial).elim ?main
  case step =>
    intro i _ d hd hi _
    refine ⟨?_, trivial⟩
    have k1 : (i : Int) < (ns.length : Int) := by omega
    have gd : (ns.map iv).getD i .undef = .int .i64 d := gD_map hd
    obtain ⟨M, hM, ml, mi, ms, mt, ma⟩ := snoc_facts ub_cool hd
    have hap : (i + 1) * 1 ≤ 140737488355328 := by omega
    have hw := w_i64 ((i : Int) + 1) (by omega)
    have ma : M ++ [AV.int .u8 (IntKind.u8.wrap d)] = (ns.take (i + 1)).map ub := ma
    have hmin : min (i + 1) ns.length = i + 1 := by omega
    simp only [hM]
    simp only [XG, L280_3, h280_3, go_sem, seval, bnd_ite, k1, gd, ml, mi, ms, mt, ma, hap, hw, hmin, Int.natCast_nonneg]
    first | done | rfl
  case last =>
    intro _ _
    simp only [XG, L280_3, h280_3, go_sem, seval, bnd_ite, Int.lt_irrefl, decide_false]
    exact .mk (by simp) ⟨rfl, rfl, by simp⟩
  case main =>
  have hs0 : ((0 : Nat) : Int) = 0 := rfl
  rintro ⟨y, e, m⟩ ⟨k1, kx, k2, km⟩
  simp only at kx k2 km; subst kx; subst km
  simp only [hs0, List.take_zero, List.map_nil] at k1
  have tk : (ns.map ub).take ns.length = ns.map ub := List.take_of_length_le (by simp)
  have hno : (ns.map ub).all (fun x => x.cells.all noOwnC) = true := no_map ub ns ub_no
  have hb := bytesOf_ub ns
  simp only [F280, h280_3, go_sem, seval, bnd_ite, k1, k2, tk, hno, hb]
  rfl
/-- One byte is the length of a short text. -/
theorem e303 (n : Int) (h : 0 ≤ n ∧ n ≤ 127) : E T 303 [.int .i64 n] [] = some (.str (byteT [n]), []) := by
  rw [E_eq t303 (Nat.le_of_ble_eq_true rfl)]
  have c : decide (n > 127) = false := decide_eq_false (by omega)
  have key : XL T 0 H303_2 L303_2 ⟨[(0, .int .i64 n), (3, .sl 0 0 0)], [some (1, [])]⟩ = some (.exit 0, ⟨[(6, .bool false), (5, .int .i64 n), (0, .int .i64 n), (3, .sl 0 0 0)], [some (1, [])]⟩) := by
    refine XL_out ?_ (by simp)
    simp only [XG, L303_2, h303_2, go_sem, seval, bnd_ite, c, Bool.false_eq_true, if_false]
  simp only [F303, h303_2, go_sem, seval, bnd_ite, key]
  rfl
theorem e304 (n : Int) (h : 0 ≤ n ∧ n ≤ 127) : E T 304 [.int .i64 n] [] = some (.tup [.str (byteT [n]), .bool true], []) := by
  rw [E_eq t304 (Nat.le_of_ble_eq_true rfl)]
  have c : decide (n > 127) = false := decide_eq_false (by omega)
  have c2 : inside n 0 1000000000 = true := by simp [inside]; omega
  have key : XL T 0 H304_4 L304_4 ⟨[(0, .int .i64 n), (4, .sl 0 0 0)], [some (1, [])]⟩ = some (.exit 0, ⟨[(10, .bool false), (9, .int .i64 n), (0, .int .i64 n), (4, .sl 0 0 0)], [some (1, [])]⟩) := by
    refine XL_out ?_ (by simp)
    simp only [XG, L304_4, h304_4, go_sem, seval, bnd_ite, c, Bool.false_eq_true, if_false]
  simp only [F304, h304_4, go_sem, seval, bnd_ite, e117i, c2, key, Bool.not_true, Bool.false_eq_true, if_false]
  rfl
theorem e282 (s : ByteArray) (h : s.size ≤ 127) : E T 282 [.str s] [] = some (.tup [.str (byteT [(s.size : Int)] ++ s), .bool true], []) := by
  rw [E_eq t282 (Nat.le_of_ble_eq_true rfl)]
  have c : decide ((s.size : Int) > 20000) = false := decide_eq_false (by omega)
  have e1 := e304 s.size (by omega)
  have hs := byteT_size [(s.size : Int)]
  have hb : (((byteT [(s.size : Int)]).size + s.size : Nat) : Int) ≤ 9223372036854775807 := by rw [hs]; simp; omega
  simp only [F282, go_sem, seval, bnd_ite, c, e1, hb, Bool.false_eq_true, if_false, if_true]
def inoT (x : Ino) : ByteArray := byteT (x.kind :: x.links :: x.ptrs)
theorem e278 (x : Ino) (hk : x.ok) : E T 278 [ino x] [] = some (.tup [.str (if inoOk x then inoT x else ⟨#[]⟩), .bool (inoOk x)], []) := by
  rw [E_eq t278 (Nat.le_of_ble_eq_true rfl)]
  have e1 := e220 x hk
  unfold ino at e1
  cases hx : inoOk x with
  | false =>
    rw [hx] at e1
    simp only [ino, F278, go_sem, seval, bnd_ite, e1, Bool.not_false, if_true, Bool.false_eq_true, if_false]
  | true =>
    rw [hx] at e1
    obtain ⟨p, q, hp⟩ : ∃ p q, x.ptrs = [p, q] := by
      have := (inoOk_iff.1 hx).two
      match h : x.ptrs, this with
      | [p, q], _ => exact ⟨p, q, rfl⟩
    rw [hp] at e1
    simp only [List.map_cons, List.map_nil, iv] at e1
    unfold inoT
    rw [hp]
    simp only [ino, hp, iv, F278, go_sem, seval, bnd_ite, e1, Bool.not_true, Bool.false_eq_true, if_false, if_true]
    rfl
theorem e255 (x : Ino) (hk : x.ok) : E T 255 [ino x] [] = some (.tup [.str (if inoOk x then inoT x else ⟨#[]⟩), .bool (inoOk x)], []) := by
  rw [E_eq t255 (Nat.le_of_ble_eq_true rfl)]
  have e1 := e223 x hk
  unfold ino at e1
  cases hx : inoOk x with
  | false =>
    rw [hx] at e1
    simp only [ino, F255, go_sem, seval, bnd_ite, e1, Bool.not_false, if_true, Bool.false_eq_true, if_false]
  | true =>
    rw [hx] at e1
    have h2 := (inoOk_iff.1 hx).two
    have e2 := e280 [x.kind, x.links] (by simp)
    have e3 := e280 x.ptrs (by omega)
    simp only [List.map_cons, List.map_nil, iv] at e2
    have hb : (((byteT [x.kind, x.links]).size + (byteT x.ptrs).size : Nat) : Int) ≤ 9223372036854775807 := by rw [byteT_size, byteT_size]; simp; omega
    simp only [ino, F255, go_sem, seval, bnd_ite, e1, e2, e3, hb, Bool.not_true, Bool.false_eq_true, if_false, if_true]
    rw [byteT_app]; rfl
end Go.Proofs.Ytaaajjinpppgeaa

/- The texts of bits and blocks. Own work; no condition. -/
set_option linter.unusedVariables false
set_option linter.unusedSimpArgs false
set_option linter.unusedSectionVars false
namespace Go.Proofs.Ytaaajjinpppgeaa
open Go Go.Abs
set_option maxRecDepth 100000
def byStep (st : Int × Int) (b : Bool) : Int × Int := (if b then IntKind.i64.wrap (st.1 + st.2) else st.1, IntKind.i64.wrap (2 * st.2))
def byteI (l : List Bool) : Int := IntKind.u8.wrap (l.foldl byStep (0, 1)).1
theorem e302 (l : List Bool) (hl : l.length ≤ 1048576) : E T 302 [.ro 1 (l.map bv)] [] = some (.int .u8 (byteI l), []) := by
  rw [E_eq t302 (Nat.le_of_ble_eq_true rfl)]
  refine (XL_each (T := T) (b := 0) (hd := H302_4) (x := L302_4) l byStep (fun i st => ⟨[(0, .ro 1 (l.map bv)), (3, .int .i64 st.1), (4, .int .i64 st.2), (5, .int .i64 (i : Nat))], []⟩) (fun _ _ => True)
    (fun st r => r.1 = .exit 0 ∧ lookA r.2.env 3 = .int .i64 st.1) ?step ?last (0, 1) trivial).elim ?main
  case step =>
    intro i st d hd hi _
    refine ⟨?_, trivial⟩
    have k1 : (i : Int) < (l.length : Int) := by omega
    have gd : (l.map bv).getD i .undef = .bool d := gD_map hd
    have hw := w_i64 ((i : Int) + 1) (by omega)
    unfold byStep
    cases d
    · simp only [XG, L302_4, h302_4, go_sem, seval, bnd_ite, k1, gd, hw, Int.natCast_nonneg, Bool.false_eq_true, if_false]
      first | done | rfl
    · simp only [XG, L302_4, h302_4, go_sem, seval, bnd_ite, k1, gd, hw, Int.natCast_nonneg, if_true]
      first | done | rfl
  case last =>
    intro st _
    simp only [XG, L302_4, h302_4, go_sem, seval, bnd_ite, Int.lt_irrefl, decide_false]
    exact .mk (by simp) ⟨rfl, rfl⟩
  case main =>
  have hs0 : ((0 : Nat) : Int) = 0 := rfl
  rintro ⟨y, e, m⟩ ⟨k1, kx, k2⟩
  simp only at kx k2; subst kx
  simp only [hs0] at k1
  simp only [F302, h302_4, go_sem, seval, bnd_ite, k1, k2]
  rfl
def pkStep (v : Int) (p : Bool × Nat) : Int := if p.1 then IntKind.i64.wrap (BitVec.ofInt IntKind.i64.bits v ||| BitVec.ofInt IntKind.i64.bits (IntKind.i64.wrap (1 * 2 ^ (Nat.min p.2 IntKind.i64.bits)))).toNat else v
def packI (l : List Bool) : Int := l.zipIdx.foldl pkStep 0
theorem e281 (l : List Bool) (hl : l.length ≤ 1048576) : E T 281 [.ro 1 (l.map bv)] [] = some (.int .i64 (packI l), []) := by
  rw [E_eq t281 (Nat.le_of_ble_eq_true rfl)]
  refine (XL_each (T := T) (b := 0) (hd := H281_3) (x := L281_3) l.zipIdx pkStep (fun i v => ⟨[(3, .int .i64 v), (6, .ro 1 (l.map bv)), (7, .int .i64 l.length), (8, .int .i64 (i : Nat))], []⟩) (fun _ _ => True)
    (fun v r => r.1 = .exit 0 ∧ lookA r.2.env 3 = .int .i64 v) ?step ?last 0 trivial).elim ?main
  case step =>
    rintro i v ⟨d, j⟩ he hi _
    obtain ⟨hd, hj⟩ := zip_at he
    simp only at hd hj; subst hj
    rw [List.length_zipIdx] at hi
    refine ⟨?_, trivial⟩
    have k1 : (j : Int) < (l.length : Int) := by omega
    have k2 : ¬ (j : Int) < 0 := by omega
    have gd : (l.map bv).getD j .undef = .bool d := gD_map hd
    have hw := w_i64 ((j : Int) + 1) (by omega)
    unfold pkStep
    cases d
    · simp only [XG, L281_3, h281_3, go_sem, seval, bnd_ite, k1, gd, hw, Int.natCast_nonneg, Bool.false_eq_true, if_false]
      first | done | rfl
    · simp only [XG, L281_3, h281_3, b_or, b_shl, go_sem, seval, bnd_ite, k1, k2, gd, hw, Int.natCast_nonneg, if_true, if_false]
      first | done | rfl
  case last =>
    intro v _
    rw [List.length_zipIdx]
    simp only [XG, L281_3, h281_3, go_sem, seval, bnd_ite, Int.lt_irrefl, decide_false]
    exact .mk (by simp) ⟨rfl, rfl⟩
  case main =>
  have hs0 : ((0 : Nat) : Int) = 0 := rfl
  rintro ⟨y, e, m⟩ ⟨k1, kx, k2⟩
  simp only at kx k2; subst kx
  simp only [hs0] at k1
  simp only [F281, h281_3, go_sem, seval, bnd_ite, k1, k2]
  rfl
theorem bits8 : ∀ a b c d e f g h : Bool, IntKind.u8.wrap (packI [a, b, c, d, e, f, g, h]) = byteI [a, b, c, d, e, f, g, h] ∧ IntKind.u8.wrap (byteI [a, b, c, d, e, f, g, h]) = byteI [a, b, c, d, e, f, g, h] := by decide +kernel
theorem bits_eq {l : List Bool} (h : l.length = 8) : UInt8.ofNat (byteI l).toNat = toB (packI l) := by
  match l, h with
  | [a, b, c, d, e, f, g, k], _ => unfold toB; rw [(bits8 a b c d e f g k).1]
def bitsT (u t : List Bool) : ByteArray := byteT [packI (u.take 8), packI (u.drop 8), packI t]
theorem e277 (u t : List Bool) : E T 277 [.agg [.ro 1 (u.map bv), .ro 1 (t.map bv)]] [] =
    some (.tup [.str (if decide (u.length = 16) && decide (t.length = 8) then bitsT u t else ⟨#[]⟩), .bool (decide (u.length = 16) && decide (t.length = 8))], []) := by
  rw [E_eq t277 (Nat.le_of_ble_eq_true rfl)]
  have e1 := e219 u t
  cases hc : decide (u.length = 16) && decide (t.length = 8) with
  | false =>
    rw [hc] at e1
    simp only [F277, go_sem, seval, bnd_ite, e1, Bool.not_false, if_true, Bool.false_eq_true, if_false]
  | true =>
    rw [hc] at e1
    simp only [Bool.and_eq_true, decide_eq_true_eq] at hc
    obtain ⟨h1, h2⟩ := hc
    have c1 := e302 (u.take 8) (by simp; omega)
    have c2 := e302 (u.drop 8) (by simp; omega)
    have c3 := e302 t (by omega)
    have l1 : (u.take 8).length = 8 := by simp; omega
    have l2 : (u.drop 8).length = 8 := by simp; omega
    have g1 : (u.map bv).take 8 = (u.take 8).map bv := by rw [List.map_take]
    have g2 : (u.map bv).drop 8 = (u.drop 8).map bv := by rw [List.map_drop]
    have k8 : (8 : Int) ≤ (u.length : Int) := by omega
    simp only [F277, go_sem, seval, bnd_ite, e1, g1, g2, c1, c2, c3, k8, Bool.not_true, Bool.false_eq_true, if_false, if_true]
    unfold bitsT byteT
    simp only [List.map_cons, List.map_nil, ← bits_eq l1, ← bits_eq l2, ← bits_eq h2]
    try rfl
theorem e253 (u t : List Bool) : E T 253 [.agg [.ro 1 (u.map bv), .ro 1 (t.map bv)]] [] =
    some (.tup [.str (if decide (u.length = 16) && decide (t.length = 8) then bitsT u t else ⟨#[]⟩), .bool (decide (u.length = 16) && decide (t.length = 8))], []) := by
  rw [E_eq t253 (Nat.le_of_ble_eq_true rfl)]
  have e1 := e225 u t
  cases hc : decide (u.length = 16) && decide (t.length = 8) with
  | false =>
    rw [hc] at e1
    simp only [F253, go_sem, seval, bnd_ite, e1, Bool.not_false, if_true, Bool.false_eq_true, if_false]
  | true =>
    rw [hc] at e1
    simp only [Bool.and_eq_true, decide_eq_true_eq] at hc
    obtain ⟨h1, h2⟩ := hc
    have c1 := e281 (u.take 8) (by simp; omega)
    have c2 := e281 (u.drop 8) (by simp; omega)
    have c3 := e281 t (by omega)
    have c4 := e280 [packI (u.take 8), packI (u.drop 8), packI t] (by simp)
    simp only [List.map_cons, List.map_nil, iv] at c4
    have g1 : (u.map bv).take 8 = (u.take 8).map bv := by rw [List.map_take]
    have g2 : (u.map bv).drop 8 = (u.drop 8).map bv := by rw [List.map_drop]
    have k8 : (8 : Int) ≤ (u.length : Int) := by omega
    simp only [F253, go_sem, seval, bnd_ite, e1, g1, g2, c1, c2, c3, c4, k8, Bool.not_true, Bool.false_eq_true, if_false, if_true]
    try rfl
end Go.Proofs.Ytaaajjinpppgeaa

/- The texts of blocks and of units. Own work; no condition. -/
set_option linter.unusedVariables false
set_option linter.unusedSimpArgs false
set_option linter.unusedSectionVars false
namespace Go.Proofs.Ytaaajjinpppgeaa
open Go Go.Abs
set_option maxRecDepth 100000
def slotT (s : Slt) : ByteArray := byteT [s.ino] ++ (byteT [(s.name.size : Int)] ++ s.name)
def slotsT (l : List Slt) : ByteArray := l.foldl (fun acc s => acc ++ slotT s) ⟨#[100]⟩
def blkT (x : Blk) : ByteArray := if x.dir then slotsT x.slots else ⟨#[116]⟩ ++ x.text
theorem slotOk_size {l : List Slt} {i : Nat} {s : Slt} (h : slotOk l i s = true) : s.name.size ≤ 6 := by
  unfold slotOk bare nameOk inside at h
  simp only [Bool.or_eq_true, Bool.and_eq_true, decide_eq_true_eq] at h
  rcases h with h | h
  · rw [h.1]; decide
  · omega
theorem one_byte (n : Int) : (⟨[UInt8.ofNat (IntKind.u8.wrap n).toNat].toArray⟩ : ByteArray) = byteT [n] := rfl
theorem e279 (x : Blk) (hk : x.ok) : E T 279 [blk x] [] = some (.tup [.str (if blkOk x then blkT x else ⟨#[]⟩), .bool (blkOk x)], []) := by
  rw [E_eq t279 (Nat.le_of_ble_eq_true rfl)]
  have e1 := e221 x hk
  cases hx : blkOk x with
  | false =>
    rw [hx] at e1
    unfold blk at e1
    simp only [blk, F279, go_sem, seval, bnd_ite, e1, Bool.not_false, if_true, Bool.false_eq_true, if_false]
  | true =>
    rw [hx] at e1
    unfold blk at e1
    cases hd : x.dir with
    | false =>
      rw [hd] at e1
      obtain ⟨_, h2⟩ := blkOk_txt hx hd
      unfold blkT
      simp only [blk, hd, F279, go_sem, seval, bnd_ite, e1, Bool.not_true, Bool.not_false, if_true, Bool.false_eq_true, if_false]
      rw [if_pos (by show (((1 : Nat) + x.text.size : Nat) : Int) ≤ _; omega)]
    | true =>
      rw [hd] at e1
      obtain ⟨h1, h2, h3⟩ := blkOk_dir hx hd
      obtain ⟨⟨y, e, m⟩, q1, qx, q2⟩ := XL_each (T := T) (b := 0) (hd := H279_7) (x := L279_7) x.slots (fun acc s => acc ++ slotT s) (fun i acc => ⟨[(1, .ptr 0 0 0), (4, .str acc), (5, .int .i64 (i : Nat))], [some (3, [.agg [.bool true, .ro 2 (x.slots.map slt), .str x.text]])]⟩)
        (fun i acc => acc.size ≤ 1 + 8 * i) (fun acc r => r.1 = .exit 0 ∧ lookA r.2.env 4 = .str acc) (by
          intro i acc s hs hi hI
          have hn := slotOk_size (h3 i s hs)
          have z1 := byteT_size [s.ino]
          have z2 := byteT_size [(s.name.size : Int)]
          simp only [List.length_cons, List.length_nil] at z1 z2
          refine ⟨?_, by unfold slotT; rw [ByteArray.size_append, ByteArray.size_append, ByteArray.size_append, z1, z2]; omega⟩
          have k1 : (i : Int) < 4 := by omega
          have gs : (x.slots.map slt).getD i .undef = .agg [.str s.name, .int .i64 s.ino] := gD_map hs
          have hw := w_i64 ((i : Int) + 1) (by omega)
          have e2 := e303 (s.name.size : Int) (by omega)
          have b1 : ((acc.size + (byteT [s.ino]).size : Nat) : Int) ≤ 9223372036854775807 := by omega
          have b2 : (((acc ++ byteT [s.ino]).size + (byteT [(s.name.size : Int)]).size : Nat) : Int) ≤ 9223372036854775807 := by rw [ByteArray.size_append]; omega
          have b3 : (((acc ++ byteT [s.ino] ++ byteT [(s.name.size : Int)]).size + s.name.size : Nat) : Int) ≤ 9223372036854775807 := by rw [ByteArray.size_append, ByteArray.size_append]; omega
          have k2 : (i : Int) < (x.slots.length : Int) := by omega
          simp only [XG, L279_7, h279_7, go_sem, seval, bnd_ite, k1, k2, gs, hw, e2, one_byte, Int.natCast_nonneg]
          rw [if_pos (by omega), if_pos (by omega), if_pos (by omega)]
          unfold slotT
          rw [ByteArray.append_assoc, ByteArray.append_assoc]; rfl) (by
          intro acc hI
          have k1 : ¬ ((x.slots.length : Nat) : Int) < 4 := by omega
          simp only [XG, L279_7, h279_7, go_sem, seval, bnd_ite, k1, decide_false, Bool.false_eq_true, if_false]
          exact .mk (by simp) ⟨rfl, rfl⟩) ⟨#[100]⟩ (by show (1 : Nat) ≤ _; omega)
      simp only at qx q2; subst qx
      have hs0 : ((0 : Nat) : Int) = 0 := rfl
      simp only [hs0] at q1
      unfold blkT slotsT
      simp only [blk, hd, F279, h279_7, go_sem, seval, bnd_ite, e1, q1, q2, Bool.not_true, Bool.not_false, if_true, Bool.false_eq_true, if_false]
theorem e254 (x : Blk) (hk : x.ok) : E T 254 [blk x] [] = some (.tup [.str (if blkOk x then blkT x else ⟨#[]⟩), .bool (blkOk x)], []) := by
  rw [E_eq t254 (Nat.le_of_ble_eq_true rfl)]
  have e1 := e224 x hk
  cases hx : blkOk x with
  | false =>
    rw [hx] at e1
    unfold blk at e1
    simp only [blk, F254, go_sem, seval, bnd_ite, e1, Bool.not_false, if_true, Bool.false_eq_true, if_false]
  | true =>
    rw [hx] at e1
    unfold blk at e1
    cases hd : x.dir with
    | false =>
      rw [hd] at e1
      obtain ⟨_, h2⟩ := blkOk_txt hx hd
      unfold blkT
      simp only [blk, hd, F254, go_sem, seval, bnd_ite, e1, Bool.not_true, Bool.not_false, if_true, Bool.false_eq_true, if_false]
      rw [if_pos (by show (((1 : Nat) + x.text.size : Nat) : Int) ≤ _; omega)]
    | true =>
      rw [hd] at e1
      obtain ⟨h1, h2, h3⟩ := blkOk_dir hx hd
      obtain ⟨⟨y, e, m⟩, q1, qx, q2⟩ := XL_each (T := T) (b := 0) (hd := H254_7) (x := L254_7) x.slots (fun acc s => acc ++ slotT s) (fun i acc => ⟨[(4, .str acc), (19, .ro 2 (x.slots.map slt)), (20, .int .i64 x.slots.length), (21, .int .i64 (i : Nat))], []⟩)
        (fun i acc => acc.size ≤ 1 + 8 * i) (fun acc r => r.1 = .exit 0 ∧ lookA r.2.env 4 = .str acc) (by
          intro i acc s hs hi hI
          have hn := slotOk_size (h3 i s hs)
          have z1 := byteT_size [s.ino]
          have z2 := byteT_size [(s.name.size : Int)]
          simp only [List.length_cons, List.length_nil] at z1 z2
          refine ⟨?_, by unfold slotT; rw [ByteArray.size_append, ByteArray.size_append, ByteArray.size_append, z1, z2]; omega⟩
          have gs : (x.slots.map slt).getD i .undef = .agg [.str s.name, .int .i64 s.ino] := gD_map hs
          have hw := w_i64 ((i : Int) + 1) (by omega)
          have e2 := e282 s.name (by omega)
          have e3 := e280 [s.ino] (by simp)
          simp only [List.map_cons, List.map_nil, iv] at e3
          have b1 : (((byteT [s.ino]).size + (byteT [(s.name.size : Int)] ++ s.name).size : Nat) : Int) ≤ 9223372036854775807 := by rw [ByteArray.size_append]; omega
          have b2 : ((acc.size + (byteT [s.ino] ++ (byteT [(s.name.size : Int)] ++ s.name)).size : Nat) : Int) ≤ 9223372036854775807 := by rw [ByteArray.size_append, ByteArray.size_append]; omega
          have k2 : (i : Int) < (x.slots.length : Int) := by omega
          simp only [XG, L254_7, h254_7, go_sem, seval, bnd_ite, k2, gs, hw, e2, e3, Int.natCast_nonneg]
          rw [if_pos (by omega), if_pos (by omega)]; rfl) (by
          intro acc hI
          simp only [XG, L254_7, h254_7, go_sem, seval, bnd_ite, Int.lt_irrefl, decide_false, Bool.false_eq_true, if_false]
          exact .mk (by simp) ⟨rfl, rfl⟩) ⟨#[100]⟩ (by show (1 : Nat) ≤ _; omega)
      simp only at qx q2; subst qx
      have hs0 : ((0 : Nat) : Int) = 0 := rfl
      simp only [hs0] at q1
      unfold blkT slotsT
      simp only [blk, hd, F254, h254_7, go_sem, seval, bnd_ite, e1, q1, q2, Bool.not_true, Bool.not_false, if_true, Bool.false_eq_true, if_false]
end Go.Proofs.Ytaaajjinpppgeaa

/- The code of some functions, as the evaluator reads it (printed by a program of ours), checked against the program. Own work; no condition. -/
set_option linter.unusedVariables false
set_option linter.unusedSimpArgs false
set_option linter.unusedSectionVars false
namespace Go.Proofs.Ytaaajjinpppgeaa
open Go Go.Abs
set_option maxRecDepth 100000
-- impl.isUnit
def F118 : EF := ⟨(.seq (.region [(.op .mv [(.const (.bool false))] (some 2) true)] false) (.seq (.region [(.op .mv [(.tmp 0)] (some 3) true), (.pc (.const (.fn 117 [])) [(.tmp 3), (.const (.int .i64 0)), (.const (.int .i64 20))] (some 4) true), (.op .mv [(.tmp 4)] (some 2) true)] false) .ret)), [(.tmp 2)], 5, .one, none⟩
theorem t118 : T 118 = some F118 := tab Try.func118 (by kernel_rfl) rfl
-- laws.FnExactFsNew
def F24 : EF := ⟨(.seq (.region [(.op .mv [(.const (.bool false))] (some 0) true)] false) (.seq (.region [(.pc (.const (.fn 102 [])) [] (some 6) true), (.op (.alloc (.agg [.nil, .nil, .nil, .nil, .nil, .nil, (.int .i64 0), .nil])) [] (some 1) true), (.op (.storeN 8) [(.tmp 1), (.tmp 6)] none true)] false) (.seq (.region [(.pc (.const (.fn 103 [])) [] (some 7) true), (.op (.alloc (.agg [.nil, .nil, .nil, .nil, .nil, .nil, (.int .i64 0), .nil])) [] (some 2) true), (.op (.storeN 8) [(.tmp 2), (.tmp 7)] none true)] false) (.seq (.seq (.region [(.op (.loadN 8) [(.tmp 2)] (some 8) true), (.op (.loadN 8) [(.tmp 1)] (some 9) true), (.pc (.const (.fn 72 [])) [(.tmp 8), (.tmp 9)] (some 10) true), (.op .not [(.tmp 10)] (some 11) true)] false) (.cond (.tmp 11) (.seq (.region [(.op .mv [(.const (.bool false))] (some 0) true)] false) .ret) .skip)) (.seq (.region [(.op .mv [(.const (.int .i64 1))] (some 3) true)] false) (.seq (.region [(.op (.loadN 8) [(.tmp 2)] (some 12) true), (.op .mv [(.tmp 3)] (some 13) true), (.sc (.const (.fn 104 [])) [(.tmp 12), (.tmp 13)] (some 14) true), (.op .mv [(.tmp 14)] (some 3) true)] false) (.seq (.region [(.op .mv [(.const (.int .i64 1))] (some 4) true)] false) (.seq (.region [(.op (.loadN 8) [(.tmp 2)] (some 15) true), (.op .mv [(.tmp 4)] (some 16) true), (.pc (.const (.fn 105 [])) [(.tmp 15), (.tmp 16)] (some 17) true), (.op .mv [(.tmp 17)] (some 4) true)] false) (.seq (.seq (.region [(.op .mv [(.tmp 4)] (some 18) true), (.op (.bin .lss) [(.tmp 18), (.const (.int .i64 0))] (some 19) true)] false) (.cond (.tmp 19) (.seq (.region [(.op .mv [(.const (.bool false))] (some 0) true)] false) .ret) .skip)) (.seq (.seq (.region [(.op .mv [(.tmp 4)] (some 20) true), (.op .mv [(.tmp 3)] (some 21) true), (.op (.bin .neq) [(.tmp 20), (.tmp 21)] (some 22) true)] false) (.cond (.tmp 22) (.seq (.region [(.op .mv [(.const (.bool false))] (some 0) true)] false) .ret) .skip)) (.seq (.region [(.pc (.const (.fn 103 [])) [] (some 23) true), (.op (.alloc (.agg [.nil, .nil, .nil, .nil, .nil, .nil, (.int .i64 0), .nil])) [] (some 5) true), (.op (.storeN 8) [(.tmp 5), (.tmp 23)] none true)] false) (.seq (.seq (.region [(.op (.loadN 8) [(.tmp 5)] (some 24) true), (.op (.loadN 8) [(.tmp 1)] (some 25) true), (.pc (.const (.fn 72 [])) [(.tmp 24), (.tmp 25)] (some 26) true), (.op .not [(.tmp 26)] (some 27) true)] false) (.cond (.tmp 27) (.seq (.region [(.op .mv [(.const (.bool false))] (some 0) true)] false) .ret) .skip)) (.seq (.region [(.op .mv [(.const (.int .i64 1))] (some 4) true)] false) (.seq (.region [(.op (.loadN 8) [(.tmp 2)] (some 28) true), (.op .mv [(.tmp 4)] (some 29) true), (.pc (.const (.fn 105 [])) [(.tmp 28), (.tmp 29)] (some 30) true), (.op .mv [(.tmp 30)] (some 4) true)] false) (.seq (.seq (.region [(.op .mv [(.tmp 4)] (some 31) true), (.op (.bin .lss) [(.tmp 31), (.const (.int .i64 0))] (some 32) true)] false) (.cond (.tmp 32) (.seq (.region [(.op .mv [(.const (.bool false))] (some 0) true)] false) .ret) .skip)) (.seq (.seq (.region [(.op .mv [(.tmp 4)] (some 33) true), (.op .mv [(.tmp 3)] (some 34) true), (.op (.bin .neq) [(.tmp 33), (.tmp 34)] (some 35) true)] false) (.cond (.tmp 35) (.seq (.region [(.op .mv [(.const (.bool false))] (some 0) true)] false) .ret) .skip)) (.seq (.region [(.op .mv [(.const (.bool true))] (some 0) true)] false) .ret))))))))))))))))), [(.tmp 0)], 36, .one, none⟩
theorem t24 : T 24 = some F24 := tab Try.func24 (by kernel_rfl) rfl
-- spec.FsNew
def F102 : EF := ⟨(.seq (.region [(.op (.alloc (.agg [.nil, .nil, .nil, .nil, .nil, .nil, (.int .i64 0), .nil])) [] (some 0) true)] false) (.seq (.region [(.pc (.const (.fn 193 [])) [] (some 4) true), (.pc (.const (.fn 192 [])) [(.tmp 4)] (some 5) true), (.op .mv [(.tmp 5)] (some 3) true), (.op (.ext 0) [(.tmp 3)] (some 6) true), (.op (.ext 1) [(.tmp 3)] (some 7) true), (.op (.alloc (.agg [.nil])) [] (some 1) true), (.op (.storeN 1) [(.tmp 1), (.tmp 6)] none true), (.op .mv [(.tmp 7)] (some 2) true)] false) (.seq (.region [(.pc (.const (.fn 193 [])) [] (some 8) false), (.pc (.const (.fn 61 [])) [(.tmp 8)] (some 9) false), (.op (.loadN 1) [(.tmp 1)] (some 10) false), (.op (.build [.nil, .nil, .nil, .nil, .nil, .nil, (.int .i64 0), .nil] [(0, 7), (7, 1)]) [(.tmp 9), (.tmp 10)] (some 11) true), (.op (.storeN 8) [(.tmp 0), (.tmp 11)] none true)] true) .ret))), [(.cell 0 (.loadN 8))], 12, .one, none⟩
theorem t102 : T 102 = some F102 := tab Try.func102 (by kernel_rfl) rfl
-- impl.FsNew
def F103 : EF := ⟨(.seq (.region [(.op (.alloc (.agg [.nil, .nil, .nil, .nil, .nil, .nil, (.int .i64 0), .nil])) [] (some 0) true)] false) (.seq (.region [(.pc (.const (.fn 194 [])) [] (some 4) true), (.op (.alloc (.agg [.nil, .nil, .nil, .nil])) [] (some 1) true), (.op (.storeN 4) [(.tmp 1), (.tmp 4)] none true)] false) (.seq (.region [(.op (.loadN 4) [(.tmp 1)] (some 6) true), (.pc (.const (.fn 195 [])) [(.tmp 6)] (some 7) true), (.op .mv [(.tmp 7)] (some 5) true), (.op (.ext 0) [(.tmp 5)] (some 8) true), (.op (.ext 1) [(.tmp 5)] (some 9) true), (.op (.alloc (.agg [.nil])) [] (some 2) true), (.op (.storeN 1) [(.tmp 2), (.tmp 8)] none true), (.op .mv [(.tmp 9)] (some 3) true)] false) (.seq (.region [(.op (.loadN 4) [(.tmp 1)] (some 10) false), (.pc (.const (.fn 62 [])) [(.tmp 10)] (some 11) false), (.op (.loadN 1) [(.tmp 2)] (some 12) false), (.op (.build [.nil, .nil, .nil, .nil, .nil, .nil, (.int .i64 0), .nil] [(0, 7), (7, 1)]) [(.tmp 11), (.tmp 12)] (some 13) true), (.op (.storeN 8) [(.tmp 0), (.tmp 13)] none true)] true) .ret)))), [(.cell 0 (.loadN 8))], 14, .one, none⟩
theorem t103 : T 103 = some F103 := tab Try.func103 (by kernel_rfl) rfl
-- laws.markFs
def F104 : EF := ⟨(.seq (.region [(.op (.box 8) [(.tmp 0)] (some 2) true), (.op .mv [(.const (.int .i64 0))] (some 4) true)] false) (.seq (.region [(.op (.faddr 0) [(.tmp 2)] (some 5) true), (.op (.loadN 7) [(.tmp 5)] (some 6) true), (.op .mv [(.tmp 1)] (some 7) true), (.sc (.const (.fn 51 [])) [(.tmp 6), (.tmp 7)] (some 8) true), (.op .mv [(.tmp 8)] (some 1) true)] false) (.seq (.region [(.op (.faddr 7) [(.tmp 2)] (some 9) true), (.op (.loadN 1) [(.tmp 9)] (some 10) true), (.op .mv [(.tmp 1)] (some 11) true), (.sc (.const (.fn 196 [])) [(.tmp 10), (.tmp 11)] (some 12) true), (.op .mv [(.tmp 12)] (some 1) true)] false) (.seq (.region [(.op .mv [(.tmp 1)] (some 13) true), (.op .mv [(.tmp 13)] (some 4) true)] false) .ret)))), [(.tmp 4)], 14, .one, none⟩
theorem t104 : T 104 = some F104 := tab Try.func104 (by kernel_rfl) rfl
-- laws.heldFs
def F105 : EF := ⟨(.seq (.region [(.op (.box 8) [(.tmp 0)] (some 2) true), (.op .mv [(.const (.int .i64 0))] (some 4) true)] false) (.seq (.region [(.op (.faddr 0) [(.tmp 2)] (some 5) true), (.op (.loadN 7) [(.tmp 5)] (some 6) true), (.op .mv [(.tmp 1)] (some 7) true), (.pc (.const (.fn 64 [])) [(.tmp 6), (.tmp 7)] (some 8) true), (.op .mv [(.tmp 8)] (some 1) true)] false) (.seq (.seq (.region [(.op .mv [(.tmp 1)] (some 9) true), (.op (.bin .lss) [(.tmp 9), (.const (.int .i64 0))] (some 10) true)] false) (.cond (.tmp 10) (.seq (.region [(.op .mv [(.const (.int .i64 (-1)))] (some 4) true)] false) .ret) .skip)) (.seq (.region [(.op (.faddr 7) [(.tmp 2)] (some 11) true), (.op (.loadN 1) [(.tmp 11)] (some 12) true), (.op .mv [(.tmp 1)] (some 13) true), (.pc (.const (.fn 197 [])) [(.tmp 12), (.tmp 13)] (some 14) true), (.op .mv [(.tmp 14)] (some 1) true)] false) (.seq (.seq (.region [(.op .mv [(.tmp 1)] (some 15) true), (.op (.bin .lss) [(.tmp 15), (.const (.int .i64 0))] (some 16) true)] false) (.cond (.tmp 16) (.seq (.region [(.op .mv [(.const (.int .i64 (-1)))] (some 4) true)] false) .ret) .skip)) (.seq (.region [(.op .mv [(.tmp 1)] (some 17) true), (.op .mv [(.tmp 17)] (some 4) true)] false) .ret)))))), [(.tmp 4)], 18, .one, none⟩
theorem t105 : T 105 = some F105 := tab Try.func105 (by kernel_rfl) rfl
def H192_5 : List Vw := [.opn 4 none none 0 1, .tidy [1, 2, 4, 5] [(1, none), (2, none), (4, none), (5, none), (4, some 0)]]
theorem h192_5 (b : Nat) (s : St) : vwL b H192_5 s = vwL b [.opn 4 none none 0 1, .tidy [1, 2, 4, 5] [(1, none), (2, none), (4, none), (5, none), (4, some 0)]] s := rfl
def L192_5 : EC := (.seq (.seq (.region [(.op .mv [(.tmp 5)] (some 11) true), (.op (.bin .lss) [(.tmp 11), (.const (.int .i64 21))] (some 12) true)] false) (.cond (.tmp 12) .skip (.exit 0))) (.seq (.block 1 (.region [(.op (.faddr 0) [(.tmp 4)] (some 15) false), (.op .load1 [(.tmp 15)] (some 16) false), (.op (.loadN 4) [(.tmp 1)] (some 17) false), (.op .mv [(.tmp 5)] (some 18) false), (.pc (.const (.fn 248 [])) [(.tmp 17), (.tmp 18)] (some 19) false), (.op (.bslice 1 1 (.str ⟨#[]⟩) [0]) [(.tmp 19)] (some 20) false), (.op (.append 1 16) [(.tmp 16), (.tmp 20)] (some 21) true), (.op (.faddr 0) [(.tmp 4)] (some 22) true), (.op .store1 [(.tmp 22), (.tmp 21)] none true)] true)) (.region [(.op .mv [(.tmp 5)] (some 13) true), (.op (.bin .add) [(.tmp 13), (.const (.int .i64 1))] (some 14) true), (.op .mv [(.tmp 14)] (some 5) true)] false)))
-- spec.DeviceOf
def F192 : EF := ⟨(.seq (.region [(.op (.box 4) [(.tmp 0)] (some 1) true), (.op (.alloc (.agg [.nil])) [] (some 2) true), (.op .mv [(.const (.bool false))] (some 3) true)] false) (.seq (.seq (.region [(.op (.loadN 4) [(.tmp 1)] (some 6) true), (.pc (.const (.fn 153 [])) [(.tmp 6)] (some 7) true), (.op .not [(.tmp 7)] (some 8) true)] false) (.cond (.tmp 8) (.seq (.region [(.op (.build [.nil] []) [] (some 9) true), (.op (.storeN 1) [(.tmp 2), (.tmp 9)] none true), (.op .mv [(.const (.bool false))] (some 3) true)] false) .ret) .skip)) (.seq (.region [(.op (.build [.nil] []) [] (some 10) true), (.op (.alloc (.agg [.nil])) [] (some 4) true), (.op (.storeN 1) [(.tmp 4), (.tmp 10)] none true)] false) (.seq (.seq (.region [(.op .mv [(.const (.int .i64 0))] (some 5) true)] false) (.block 0 (.loop H192_5 L192_5))) (.seq (.view [.opn 4 none none 0 1] (.region [(.op (.loadN 1) [(.tmp 4)] (some 23) true), (.op (.storeN 1) [(.tmp 2), (.tmp 23)] none true), (.op .mv [(.const (.bool true))] (some 3) true)] false)) .ret))))), [(.cell 2 (.loadN 1)), (.tmp 3)], 24, (.agg [(.agg [.row 1 .one]), .one]), none⟩
theorem t192 : T 192 = some F192 := tab Try.func192 (by kernel_rfl) rfl
def H193_3 : List Vw := [.opn 1 none none 2 3, .tidy [0, 1, 2] [(0, none), (1, none), (2, none), (1, some 2)]]
theorem h193_3 (b : Nat) (s : St) : vwL b H193_3 s = vwL b [.opn 1 none none 2 3, .tidy [0, 1, 2] [(0, none), (1, none), (2, none), (1, some 2)]] s := rfl
def L193_3 : EC := (.seq (.seq (.region [(.op .mv [(.tmp 2)] (some 5) true), (.op (.bin .lss) [(.tmp 5), (.const (.int .i64 8))] (some 6) true)] false) (.cond (.tmp 6) .skip (.exit 0))) (.seq (.block 1 (.region [(.op (.faddr 2) [(.tmp 1)] (some 9) false), (.op .load1 [(.tmp 9)] (some 10) false), (.pc (.const (.fn 141 [])) [(.const (.int .i64 0))] (some 11) false), (.op (.bslice 3 1 (.agg [(.int .i64 0), (.int .i64 0), .nil]) [0]) [(.tmp 11)] (some 12) false), (.op (.append 3 40) [(.tmp 10), (.tmp 12)] (some 13) true), (.op (.faddr 2) [(.tmp 1)] (some 14) true), (.op .store1 [(.tmp 14), (.tmp 13)] none true)] true)) (.region [(.op .mv [(.tmp 2)] (some 7) true), (.op (.bin .add) [(.tmp 7), (.const (.int .i64 1))] (some 8) true), (.op .mv [(.tmp 8)] (some 2) true)] false)))
-- spec.DiskNew
def F193 : EF := ⟨(.seq (.region [(.op (.alloc (.agg [.nil, .nil, .nil, .nil])) [] (some 0) true)] false) (.seq (.region [(.pc (.const (.fn 249 [])) [] (some 3) true), (.op (.build [.nil, .nil, .nil, .nil] [(0, 2)]) [(.tmp 3)] (some 4) true), (.op (.alloc (.agg [.nil, .nil, .nil, .nil])) [] (some 1) true), (.op (.storeN 4) [(.tmp 1), (.tmp 4)] none true)] false) (.seq (.seq (.region [(.op .mv [(.const (.int .i64 0))] (some 2) true)] false) (.block 0 (.loop H193_3 L193_3))) (.seq (.region [(.op (.faddr 2) [(.tmp 1)] (some 15) false), (.op .load1 [(.tmp 15)] (some 16) false), (.pc (.const (.fn 141 [])) [(.const (.int .i64 2))] (some 17) false), (.op (.iaddr 3) [(.tmp 16), (.const (.int .i64 0))] (some 18) true), (.op (.storeN 3) [(.tmp 18), (.tmp 17)] none true)] true) (.seq (.region [(.op (.mkslice 3 48 (.agg [(.bool false), .nil, (.str ⟨#[]⟩)])) [(.const (.int .i64 16)), (.const (.int .i64 16))] (some 19) true), (.op (.faddr 3) [(.tmp 1)] (some 20) true), (.op .store1 [(.tmp 20), (.tmp 19)] none true)] false) (.seq (.view [.opn 1 none none 0 1, .opn 1 none none 1 1, .opn 1 none none 2 3, .opn 1 none none 3 3] (.region [(.op (.loadN 4) [(.tmp 1)] (some 21) true), (.op (.storeN 4) [(.tmp 0), (.tmp 21)] none true)] false)) .ret)))))), [(.cell 0 (.loadN 4))], 22, (.agg [.row 1 .one, .row 1 .one, .row 3 .one, .row 3 (.agg [.one, .row 2 .one, .one])]), none⟩
theorem t193 : T 193 = some F193 := tab Try.func193 (by kernel_rfl) rfl
def H194_3 : List Vw := [.opn 1 none none 2 3, .tidy [0, 1, 7] [(0, none), (1, none), (7, none), (1, some 2)]]
theorem h194_3 (b : Nat) (s : St) : vwL b H194_3 s = vwL b [.opn 1 none none 2 3, .tidy [0, 1, 7] [(0, none), (1, none), (7, none), (1, some 2)]] s := rfl
def L194_3 : EC := (.seq (.region [(.op (.bin .lss) [(.tmp 7), (.const (.int .i64 8))] (some 8) true)] false) (.seq (.cond (.tmp 8) .skip (.exit 0)) (.seq (.block 1 (.seq (.region [(.op .mv [(.tmp 7)] (some 9) true), (.op .mv [(.tmp 9)] (some 2) true)] false) (.seq (.region [(.op .mv [(.const (.int .i64 0))] (some 3) true)] false) (.seq (.seq (.region [(.op .mv [(.tmp 2)] (some 10) true), (.op (.bin .eql) [(.tmp 10), (.const (.int .i64 0))] (some 11) true)] false) (.cond (.tmp 11) (.region [(.op .mv [(.const (.int .i64 2))] (some 3) true)] false) .skip)) (.region [(.op (.faddr 2) [(.tmp 1)] (some 12) false), (.op .load1 [(.tmp 12)] (some 13) false), (.op .mv [(.tmp 3)] (some 14) false), (.pc (.const (.fn 143 [])) [(.tmp 14)] (some 15) false), (.op (.bslice 3 1 (.agg [(.int .i64 0), (.int .i64 0), .nil]) [0]) [(.tmp 15)] (some 16) false), (.op (.append 3 40) [(.tmp 13), (.tmp 16)] (some 17) true), (.op (.faddr 2) [(.tmp 1)] (some 18) true), (.op .store1 [(.tmp 18), (.tmp 17)] none true)] true))))) (.region [(.op (.bin .add) [(.tmp 7), (.const (.int .i64 1))] (some 19) true), (.op .mv [(.tmp 19)] (some 7) true)] false))))
-- impl.DiskNew
def F194 : EF := ⟨(.seq (.region [(.op (.alloc (.agg [.nil, .nil, .nil, .nil])) [] (some 0) true)] false) (.seq (.region [(.pc (.const (.fn 250 [])) [] (some 4) false), (.op (.mkslice 3 48 (.agg [(.bool false), .nil, (.str ⟨#[]⟩)])) [(.const (.int .i64 16)), (.const (.int .i64 16))] (some 5) false), (.op (.build [.nil, .nil, .nil, .nil] [(0, 2), (3, 1)]) [(.tmp 4), (.tmp 5)] (some 6) false), (.op (.alloc (.agg [.nil, .nil, .nil, .nil])) [] (some 1) false), (.op (.storeN 4) [(.tmp 1), (.tmp 6)] none true)] true) (.seq (.seq (.region [(.op .mv [(.const (.int .i64 0))] (some 7) true)] false) (.block 0 (.loop H194_3 L194_3))) (.seq (.view [.opn 1 none none 0 1, .opn 1 none none 1 1, .opn 1 none none 2 3, .opn 1 none none 3 3] (.region [(.op (.loadN 4) [(.tmp 1)] (some 20) true), (.op (.storeN 4) [(.tmp 0), (.tmp 20)] none true)] false)) .ret)))), [(.cell 0 (.loadN 4))], 21, (.agg [.row 1 .one, .row 1 .one, .row 3 .one, .row 3 (.agg [.one, .row 2 .one, .one])]), none⟩
theorem t194 : T 194 = some F194 := tab Try.func194 (by kernel_rfl) rfl
def H195_5 : List Vw := [.opn 4 none none 0 1, .tidy [1, 2, 4, 13] [(1, none), (2, none), (4, none), (13, none), (4, some 0)]]
theorem h195_5 (b : Nat) (s : St) : vwL b H195_5 s = vwL b [.opn 4 none none 0 1, .tidy [1, 2, 4, 13] [(1, none), (2, none), (4, none), (13, none), (4, some 0)]] s := rfl
def L195_5 : EC := (.seq (.region [(.op (.bin .lss) [(.tmp 13), (.const (.int .i64 21))] (some 14) true)] false) (.seq (.cond (.tmp 14) .skip (.exit 0)) (.seq (.block 1 (.seq (.region [(.op .mv [(.tmp 13)] (some 15) true), (.op .mv [(.tmp 15)] (some 5) true)] false) (.seq (.region [(.op (.loadN 4) [(.tmp 1)] (some 17) true), (.op .mv [(.tmp 5)] (some 18) true), (.pc (.const (.fn 200 [])) [(.tmp 17), (.tmp 18)] (some 19) true), (.op .mv [(.tmp 19)] (some 16) true), (.op (.ext 0) [(.tmp 16)] (some 20) true), (.op (.ext 1) [(.tmp 16)] (some 21) true), (.op .mv [(.tmp 20)] (some 6) true), (.op .mv [(.tmp 21)] (some 7) true)] false) (.region [(.op (.faddr 0) [(.tmp 4)] (some 22) true), (.op .load1 [(.tmp 22)] (some 23) true), (.op .mv [(.tmp 6)] (some 24) true), (.op (.bslice 1 1 (.str ⟨#[]⟩) [0]) [(.tmp 24)] (some 25) true), (.op (.append 1 16) [(.tmp 23), (.tmp 25)] (some 26) true), (.op (.faddr 0) [(.tmp 4)] (some 27) true), (.op .store1 [(.tmp 27), (.tmp 26)] none true)] false)))) (.region [(.op (.bin .add) [(.tmp 13), (.const (.int .i64 1))] (some 28) true), (.op .mv [(.tmp 28)] (some 13) true)] false))))
-- impl.DeviceOf
def F195 : EF := ⟨(.seq (.region [(.op (.box 4) [(.tmp 0)] (some 1) true), (.op (.alloc (.agg [.nil])) [] (some 2) true), (.op .mv [(.const (.bool false))] (some 3) true)] false) (.seq (.seq (.region [(.op (.loadN 4) [(.tmp 1)] (some 8) true), (.pc (.const (.fn 155 [])) [(.tmp 8)] (some 9) true), (.op .not [(.tmp 9)] (some 10) true)] false) (.cond (.tmp 10) (.seq (.region [(.op (.build [.nil] []) [] (some 11) true), (.op (.storeN 1) [(.tmp 2), (.tmp 11)] none true), (.op .mv [(.const (.bool false))] (some 3) true)] false) .ret) .skip)) (.seq (.region [(.op (.build [.nil] []) [] (some 12) true), (.op (.alloc (.agg [.nil])) [] (some 4) true), (.op (.storeN 1) [(.tmp 4), (.tmp 12)] none true)] false) (.seq (.seq (.region [(.op .mv [(.const (.int .i64 0))] (some 13) true)] false) (.block 0 (.loop H195_5 L195_5))) (.seq (.view [.opn 4 none none 0 1] (.region [(.op (.loadN 1) [(.tmp 4)] (some 29) true), (.op (.storeN 1) [(.tmp 2), (.tmp 29)] none true), (.op .mv [(.const (.bool true))] (some 3) true)] false)) .ret))))), [(.cell 2 (.loadN 1)), (.tmp 3)], 30, (.agg [(.agg [.row 1 .one]), .one]), none⟩
theorem t195 : T 195 = some F195 := tab Try.func195 (by kernel_rfl) rfl
-- laws.markDevice
def F196 : EF := ⟨(.seq (.region [(.op (.box 1) [(.tmp 0)] (some 2) true), (.op .mv [(.const (.int .i64 0))] (some 4) true)] false) (.seq (.region [(.op (.faddr 0) [(.tmp 2)] (some 5) true), (.op .load1 [(.tmp 5)] (some 6) true), (.op .mv [(.tmp 1)] (some 7) true), (.sc (.const (.fn 251 [])) [(.tmp 6), (.tmp 7)] (some 8) true), (.op .mv [(.tmp 8)] (some 1) true)] false) (.seq (.region [(.op .mv [(.tmp 1)] (some 9) true), (.op .mv [(.tmp 9)] (some 4) true)] false) .ret))), [(.tmp 4)], 10, .one, none⟩
theorem t196 : T 196 = some F196 := tab Try.func196 (by kernel_rfl) rfl
-- laws.heldDevice
def F197 : EF := ⟨(.seq (.region [(.op (.box 1) [(.tmp 0)] (some 2) true), (.op .mv [(.const (.int .i64 0))] (some 4) true)] false) (.seq (.region [(.op (.faddr 0) [(.tmp 2)] (some 5) true), (.op .load1 [(.tmp 5)] (some 6) true), (.op .mv [(.tmp 1)] (some 7) true), (.pc (.const (.fn 252 [])) [(.tmp 6), (.tmp 7)] (some 8) true), (.op .mv [(.tmp 8)] (some 1) true)] false) (.seq (.seq (.region [(.op .mv [(.tmp 1)] (some 9) true), (.op (.bin .lss) [(.tmp 9), (.const (.int .i64 0))] (some 10) true)] false) (.cond (.tmp 10) (.seq (.region [(.op .mv [(.const (.int .i64 (-1)))] (some 4) true)] false) .ret) .skip)) (.seq (.region [(.op .mv [(.tmp 1)] (some 11) true), (.op .mv [(.tmp 11)] (some 4) true)] false) .ret)))), [(.tmp 4)], 12, .one, none⟩
theorem t197 : T 197 = some F197 := tab Try.func197 (by kernel_rfl) rfl
-- spec.BitsNew
def F249 : EF := ⟨(.seq (.region [(.op (.alloc (.agg [.nil, .nil])) [] (some 0) true)] false) (.seq (.region [(.op (.mkslice 1 1 (.bool false)) [(.const (.int .i64 16)), (.const (.int .i64 16))] (some 2) false), (.op (.mkslice 1 1 (.bool false)) [(.const (.int .i64 8)), (.const (.int .i64 8))] (some 3) false), (.op (.build [.nil, .nil] [(0, 1), (1, 1)]) [(.tmp 2), (.tmp 3)] (some 4) false), (.op (.alloc (.agg [.nil, .nil])) [] (some 1) false), (.op (.storeN 2) [(.tmp 1), (.tmp 4)] none true)] true) (.seq (.region [(.op (.faddr 1) [(.tmp 1)] (some 5) true), (.op .load1 [(.tmp 5)] (some 6) true), (.op (.iaddr 1) [(.tmp 6), (.const (.int .i64 0))] (some 7) true), (.op .store1 [(.tmp 7), (.const (.bool true))] none true)] false) (.seq (.region [(.op (.loadN 2) [(.tmp 1)] (some 8) true), (.op (.storeN 2) [(.tmp 0), (.tmp 8)] none true)] false) .ret)))), [(.cell 0 (.loadN 2))], 9, .one, none⟩
theorem t249 : T 249 = some F249 := tab Try.func249 (by kernel_rfl) rfl
-- impl.BitsNew
def F250 : EF := ⟨(.seq (.region [(.op (.alloc (.agg [.nil, .nil])) [] (some 0) true)] false) (.seq (.region [(.op (.mkslice 1 1 (.bool false)) [(.const (.int .i64 16)), (.const (.int .i64 16))] (some 2) false), (.op (.mkslice 1 1 (.bool false)) [(.const (.int .i64 8)), (.const (.int .i64 8))] (some 3) false), (.op (.build [.nil, .nil] [(0, 1), (1, 1)]) [(.tmp 2), (.tmp 3)] (some 4) false), (.op (.alloc (.agg [.nil, .nil])) [] (some 1) false), (.op (.storeN 2) [(.tmp 1), (.tmp 4)] none true)] true) (.seq (.region [(.op (.faddr 1) [(.tmp 1)] (some 5) true), (.op .load1 [(.tmp 5)] (some 6) true), (.op (.iaddr 1) [(.tmp 6), (.const (.int .i64 0))] (some 7) true), (.op .store1 [(.tmp 7), (.const (.bool true))] none true)] false) (.seq (.region [(.op (.loadN 2) [(.tmp 1)] (some 8) true), (.op (.storeN 2) [(.tmp 0), (.tmp 8)] none true)] false) .ret)))), [(.cell 0 (.loadN 2))], 9, .one, none⟩
theorem t250 : T 250 = some F250 := tab Try.func250 (by kernel_rfl) rfl
def H251_2 : List Vw := [.tidy [0, 1, 5] [(0, none), (1, none), (5, none)]]
theorem h251_2 (b : Nat) (s : St) : vwL b H251_2 s = vwL b [.tidy [0, 1, 5] [(0, none), (1, none), (5, none)]] s := rfl
def L251_2 : EC := (.seq (.seq (.region [(.op .mv [(.tmp 5)] (some 6) true), (.op .mv [(.tmp 0)] (some 7) true), (.op .len [(.tmp 7)] (some 8) true), (.op (.bin .lss) [(.tmp 6), (.tmp 8)] (some 9) true)] false) (.cond (.tmp 9) .skip (.exit 0))) (.seq (.block 1 (.seq (.region [(.op .mv [(.tmp 0)] (some 12) true), (.op .mv [(.tmp 5)] (some 13) true), (.op .mv [(.tmp 1)] (some 14) true), (.pc (.const (.fn 207 [])) [(.tmp 14)] (some 15) true), (.op (.iaddr 1) [(.tmp 12), (.tmp 13)] (some 16) true), (.op .store1 [(.tmp 16), (.tmp 15)] none true)] false) (.region [(.op .mv [(.tmp 1)] (some 17) true), (.op (.bin .add) [(.tmp 17), (.const (.int .i64 1))] (some 18) true), (.op .mv [(.tmp 18)] (some 1) true)] false))) (.region [(.op .mv [(.tmp 5)] (some 10) true), (.op (.bin .add) [(.tmp 10), (.const (.int .i64 1))] (some 11) true), (.op .mv [(.tmp 11)] (some 5) true)] false)))
-- laws.markStringS
def F251 : EF := ⟨(.seq (.region [(.op .mv [(.const (.int .i64 0))] (some 4) true)] false) (.seq (.seq (.region [(.op .mv [(.const (.int .i64 0))] (some 5) true)] false) (.block 0 (.loop H251_2 L251_2))) (.seq (.region [(.op .mv [(.tmp 1)] (some 19) true), (.op .mv [(.tmp 19)] (some 4) true)] false) .ret))), [(.tmp 4)], 20, .one, none⟩
theorem t251 : T 251 = some F251 := tab Try.func251 (by kernel_rfl) rfl
def H252_2 : List Vw := [.tidy [0, 1, 5] [(0, none), (1, none), (5, none)]]
theorem h252_2 (b : Nat) (s : St) : vwL b H252_2 s = vwL b [.tidy [0, 1, 5] [(0, none), (1, none), (5, none)]] s := rfl
def L252_2 : EC := (.seq (.seq (.region [(.op .mv [(.tmp 5)] (some 6) true), (.op .mv [(.tmp 0)] (some 7) true), (.op .len [(.tmp 7)] (some 8) true), (.op (.bin .lss) [(.tmp 6), (.tmp 8)] (some 9) true)] false) (.cond (.tmp 9) .skip (.exit 0))) (.seq (.block 1 (.seq (.seq (.region [(.op .mv [(.tmp 0)] (some 12) false), (.op .mv [(.tmp 5)] (some 13) false), (.op (.iaddr 1) [(.tmp 12), (.tmp 13)] (some 14) false), (.op .load1 [(.tmp 14)] (some 15) false), (.op .mv [(.tmp 1)] (some 16) false), (.pc (.const (.fn 207 [])) [(.tmp 16)] (some 17) false), (.op (.bin .neq) [(.tmp 15), (.tmp 17)] (some 18) true)] true) (.cond (.tmp 18) (.seq (.region [(.op .mv [(.const (.int .i64 (-1)))] (some 4) true)] false) .ret) .skip)) (.region [(.op .mv [(.tmp 1)] (some 19) true), (.op (.bin .add) [(.tmp 19), (.const (.int .i64 1))] (some 20) true), (.op .mv [(.tmp 20)] (some 1) true)] false))) (.region [(.op .mv [(.tmp 5)] (some 10) true), (.op (.bin .add) [(.tmp 10), (.const (.int .i64 1))] (some 11) true), (.op .mv [(.tmp 11)] (some 5) true)] false)))
-- laws.heldStringS
def F252 : EF := ⟨(.seq (.region [(.op .mv [(.const (.int .i64 0))] (some 4) true)] false) (.seq (.seq (.region [(.op .mv [(.const (.int .i64 0))] (some 5) true)] false) (.block 0 (.loop H252_2 L252_2))) (.seq (.region [(.op .mv [(.tmp 1)] (some 21) true), (.op .mv [(.tmp 21)] (some 4) true)] false) .ret))), [(.tmp 4)], 22, .one, none⟩
theorem t252 : T 252 = some F252 := tab Try.func252 (by kernel_rfl) rfl
end Go.Proofs.Ytaaajjinpppgeaa

/- The text of a unit. Own work; no condition. -/
set_option linter.unusedVariables false
set_option linter.unusedSimpArgs false
set_option linter.unusedSectionVars false
namespace Go.Proofs.Ytaaajjinpppgeaa
open Go Go.Abs
set_option maxRecDepth 100000
def unitT (x : Dsk) (u : Int) : ByteArray :=
  if u = 0 then bitsT x.used x.taken
  else if u ≤ 4 then inoT (x.inos.getD (2 * u - 2).toNat ino0) ++ inoT (x.inos.getD (2 * u - 1).toNat ino0)
  else blkT (x.blks.getD (u - 5).toNat blk0)
theorem inoT_size {x : Ino} (h : inoOk x = true) : (inoT x).size = 4 := by
  have := (inoOk_iff.1 h).two
  unfold inoT
  rw [byteT_size]; simp; omega
theorem e248 (x : Dsk) (hk : x.ok) (hx : DskOk x) (u : Int) (hu : 0 ≤ u ∧ u ≤ 20) : E T 248 [dsk x, .int .i64 u] [] = some (.str (unitT x u), []) := by
  rw [E_eq t248 (Nat.le_of_ble_eq_true rfl)]
  unfold unitT
  have n1 := hx.inos
  have n2 := hx.blks
  by_cases c0 : u = 0
  · subst c0
    have e1 := e277 x.used x.taken
    rw [hx.used, hx.taken] at e1
    simp only [decide_true, Bool.and_self, if_true] at e1
    simp only [dsk, F248, go_sem, seval, bnd_ite, e1, decide_true, if_true]
  rw [if_neg c0]
  have d0 : decide (u = 0) = false := decide_eq_false c0
  by_cases c1 : u ≤ 4
  · rw [if_pos c1]
    obtain ⟨a, ha⟩ := get_at (show (2 * u - 2).toNat < x.inos.length by omega)
    obtain ⟨b, hb⟩ := get_at (show (2 * u - 1).toNat < x.inos.length by omega)
    have oa := hx.ino a (List.mem_of_getElem? ha)
    have ob := hx.ino b (List.mem_of_getElem? hb)
    have ea := e278 a (hk.ino a (List.mem_of_getElem? ha))
    have eb := e278 b (hk.ino b (List.mem_of_getElem? hb))
    rw [oa, if_pos rfl] at ea
    rw [ob, if_pos rfl] at eb
    rw [getD_at ha, getD_at hb]
    have ga : (x.inos.map ino).getD (2 * u - 2).toNat .undef = .agg [.int .i64 a.kind, .int .i64 a.links, .ro 1 (a.ptrs.map iv)] := gD_map ha
    have gb : (x.inos.map ino).getD (2 * u - 1).toNat .undef = .agg [.int .i64 b.kind, .int .i64 b.links, .ro 1 (b.ptrs.map iv)] := gD_map hb
    unfold ino at ea eb
    have i1 : 0 ≤ 2 * u - 2 := by omega
    have i2 : 0 ≤ 2 * u - 1 := by omega
    have i3 : 2 * u - 2 < (x.inos.length : Int) := by omega
    have i4 : 2 * u - 1 < (x.inos.length : Int) := by omega
    have sa := inoT_size oa
    have sb := inoT_size ob
    have d1 : decide (u ≤ 4) = true := decide_eq_true c1
    simp only [dsk, F248, go_sem, seval, bnd_ite, d0, d1, ea, eb, ga, gb, i1, i2, i3, i4, sa, sb, w_i64 (2 * u) (by omega), w_i64 (2 * u - 2) (by omega), w_i64 (2 * u - 1) (by omega), Bool.false_eq_true, if_false, if_true]
    first | done | (rw [if_pos (by decide)])
  · rw [if_neg c1]
    obtain ⟨a, ha⟩ := get_at (show (u - 5).toNat < x.blks.length by omega)
    have oa := hx.blk a (List.mem_of_getElem? ha)
    have ea := e279 a (hk.blk a (List.mem_of_getElem? ha))
    rw [oa, if_pos rfl] at ea
    rw [getD_at ha]
    have ga : (x.blks.map blk).getD (u - 5).toNat .undef = .agg [.bool a.dir, .ro 2 (a.slots.map slt), .str a.text] := gD_map ha
    unfold blk at ea
    have i1 : 0 ≤ u - 5 := by omega
    have i3 : u - 5 < (x.blks.length : Int) := by omega
    have d1 : decide (u ≤ 4) = false := decide_eq_false c1
    simp only [dsk, F248, go_sem, seval, bnd_ite, d0, d1, ea, ga, i1, i3, w_i64 (u - 5) (by omega), Bool.false_eq_true, if_false]
def unitOk (x : Dsk) (u : Int) : Bool := dskOk x && inside u 0 20
theorem e118i (x : Int) : E T 118 [.int .i64 x] [] = some (.bool (inside x 0 20), []) := by
  rw [E_eq t118 (Nat.le_of_ble_eq_true rfl)]; simp only [F118, go_sem, seval, e117i]
set_option maxHeartbeats 1000000 in
theorem e200 (x : Dsk) (hk : x.ok) (u : Int) : E T 200 [dsk x, .int .i64 u] [] = some (.tup [.str (if unitOk x u then unitT x u else ⟨#[]⟩), .bool (unitOk x u)], []) := by
  rw [E_eq t200 (Nat.le_of_ble_eq_true rfl)]
  have e1 := e155 x hk
  unfold unitOk
  cases hd : dskOk x with
  | false =>
    rw [hd] at e1
    unfold dsk at e1
    simp only [dsk, F200, go_sem, seval, bnd_ite, e1, Bool.not_false, Bool.false_and, if_true, Bool.false_eq_true, if_false]
  | true =>
    rw [hd] at e1
    unfold dsk at e1
    cases hi : inside u 0 20 with
    | false => simp only [dsk, F200, go_sem, seval, bnd_ite, e1, e118i, hi, Bool.not_false, Bool.not_true, Bool.and_false, if_true, Bool.false_eq_true, if_false]
    | true =>
      have hu := hi
      simp only [inside, Bool.and_eq_true, decide_eq_true_eq] at hu
      have hx := dskOk_iff.1 hd
      have n1 := hx.inos
      have n2 := hx.blks
      unfold unitT
      by_cases c0 : u = 0
      · subst c0
        have e2 := e253 x.used x.taken
        rw [hx.used, hx.taken] at e2
        simp only [decide_true, Bool.and_self, if_true] at e2
        simp only [dsk, F200, go_sem, seval, bnd_ite, e1, e2, e118i, hi, decide_true, Bool.not_true, Bool.and_self, Bool.false_eq_true, if_false, if_true]
      rw [if_neg c0]
      have d0 : decide (u = 0) = false := decide_eq_false c0
      by_cases c1 : u ≤ 4
      · rw [if_pos c1]
        obtain ⟨a, ha⟩ := get_at (show (2 * u - 2).toNat < x.inos.length by omega)
        obtain ⟨b, hb⟩ := get_at (show (2 * u - 1).toNat < x.inos.length by omega)
        have oa := hx.ino a (List.mem_of_getElem? ha)
        have ob := hx.ino b (List.mem_of_getElem? hb)
        have ea := e255 a (hk.ino a (List.mem_of_getElem? ha))
        have eb := e255 b (hk.ino b (List.mem_of_getElem? hb))
        rw [oa, if_pos rfl] at ea
        rw [ob, if_pos rfl] at eb
        rw [getD_at ha, getD_at hb]
        have ga : (x.inos.map ino).getD (2 * u - 2).toNat .undef = .agg [.int .i64 a.kind, .int .i64 a.links, .ro 1 (a.ptrs.map iv)] := gD_map ha
        have gb : (x.inos.map ino).getD (2 * u - 1).toNat .undef = .agg [.int .i64 b.kind, .int .i64 b.links, .ro 1 (b.ptrs.map iv)] := gD_map hb
        unfold ino at ea eb
        have i1 : 0 ≤ 2 * u - 2 := by omega
        have i2 : 0 ≤ 2 * u - 1 := by omega
        have i3 : 2 * u - 2 < (x.inos.length : Int) := by omega
        have i4 : 2 * u - 1 < (x.inos.length : Int) := by omega
        have sa := inoT_size oa
        have sb := inoT_size ob
        have d1 : decide (5 ≤ u) = false := decide_eq_false (by omega)
        simp only [dsk, F200, go_sem, seval, bnd_ite, e1, e118i, hi, d0, d1, ea, eb, ga, gb, i1, i2, i3, i4, sa, sb, w_i64 (2 * u) (by omega), w_i64 (2 * u - 2) (by omega), w_i64 (2 * u - 1) (by omega), Bool.not_true, Bool.and_self, Bool.false_eq_true, if_false, if_true]
        first | done | (rw [if_pos (by decide)])
      · rw [if_neg c1]
        obtain ⟨a, ha⟩ := get_at (show (u - 5).toNat < x.blks.length by omega)
        have oa := hx.blk a (List.mem_of_getElem? ha)
        have ea := e254 a (hk.blk a (List.mem_of_getElem? ha))
        rw [oa, if_pos rfl] at ea
        rw [getD_at ha]
        have ga : (x.blks.map blk).getD (u - 5).toNat .undef = .agg [.bool a.dir, .ro 2 (a.slots.map slt), .str a.text] := gD_map ha
        unfold blk at ea
        have i1 : 0 ≤ u - 5 := by omega
        have i3 : u - 5 < (x.blks.length : Int) := by omega
        have d1 : decide (5 ≤ u) = true := decide_eq_true (by omega)
        simp only [dsk, F200, go_sem, seval, bnd_ite, e1, e118i, hi, d0, d1, ea, ga, i1, i3, w_i64 (u - 5) (by omega), Bool.not_true, Bool.and_self, Bool.false_eq_true, if_false, if_true]
end Go.Proofs.Ytaaajjinpppgeaa

/- The code of some functions, as the evaluator reads it (printed by a program of ours), checked against the program. Own work; no condition. -/
set_option linter.unusedVariables false
set_option linter.unusedSimpArgs false
set_option linter.unusedSectionVars false
namespace Go.Proofs.Ytaaajjinpppgeaa
open Go Go.Abs
set_option maxRecDepth 100000
-- laws.szDevice
-- spec.DeviceOk
-- laws.toDevice
-- impl.DeviceOk
-- laws.eqDevice
def F173 : EF := ⟨(.seq (.region [(.op (.box 1) [(.tmp 0)] (some 2) true), (.op (.box 1) [(.tmp 1)] (some 3) true), (.op .mv [(.const (.bool false))] (some 4) true)] false) (.seq (.seq (.region [(.op (.faddr 0) [(.tmp 2)] (some 5) true), (.op .load1 [(.tmp 5)] (some 6) true), (.op (.faddr 0) [(.tmp 3)] (some 7) true), (.op .load1 [(.tmp 7)] (some 8) true), (.pc (.const (.fn 236 [])) [(.tmp 6), (.tmp 8)] (some 9) true), (.op .not [(.tmp 9)] (some 10) true)] false) (.cond (.tmp 10) (.seq (.region [(.op .mv [(.const (.bool false))] (some 4) true)] false) .ret) .skip)) (.seq (.region [(.op .mv [(.const (.bool true))] (some 4) true)] false) .ret))), [(.tmp 4)], 11, .one, none⟩
theorem t173 : T 173 = some F173 := tab Try.func173 (by kernel_rfl) rfl
-- laws.szStringS
-- laws.toStringS
def H236_4 : List Vw := [.tidy [0, 1, 5] [(0, none), (1, none), (5, none)]]
theorem h236_4 (b : Nat) (s : St) : vwL b H236_4 s = vwL b [.tidy [0, 1, 5] [(0, none), (1, none), (5, none)]] s := rfl
def L236_4 : EC := (.seq (.seq (.region [(.op .mv [(.tmp 5)] (some 11) true), (.op .mv [(.tmp 0)] (some 12) true), (.op .len [(.tmp 12)] (some 13) true), (.op (.bin .lss) [(.tmp 11), (.tmp 13)] (some 14) true)] false) (.cond (.tmp 14) .skip (.exit 0))) (.seq (.block 1 (.seq (.region [(.op .mv [(.tmp 0)] (some 17) false), (.op .mv [(.tmp 5)] (some 18) false), (.op (.iaddr 1) [(.tmp 17), (.tmp 18)] (some 19) false), (.op .load1 [(.tmp 19)] (some 20) false), (.op .mv [(.tmp 1)] (some 21) false), (.op .mv [(.tmp 5)] (some 22) false), (.op (.iaddr 1) [(.tmp 21), (.tmp 22)] (some 23) false), (.op .load1 [(.tmp 23)] (some 24) false), (.op (.bin .neq) [(.tmp 20), (.tmp 24)] (some 25) true)] true) (.cond (.tmp 25) (.seq (.region [(.op .mv [(.const (.bool false))] (some 4) true)] false) .ret) .skip))) (.region [(.op .mv [(.tmp 5)] (some 15) true), (.op (.bin .add) [(.tmp 15), (.const (.int .i64 1))] (some 16) true), (.op .mv [(.tmp 16)] (some 5) true)] false)))
-- laws.eqStringS
def F236 : EF := ⟨(.seq (.region [(.op .mv [(.const (.bool false))] (some 4) true)] false) (.seq (.seq (.region [(.op .mv [(.tmp 0)] (some 6) true), (.op .len [(.tmp 6)] (some 7) true), (.op .mv [(.tmp 1)] (some 8) true), (.op .len [(.tmp 8)] (some 9) true), (.op (.bin .neq) [(.tmp 7), (.tmp 9)] (some 10) true)] false) (.cond (.tmp 10) (.seq (.region [(.op .mv [(.const (.bool false))] (some 4) true)] false) .ret) .skip)) (.seq (.seq (.region [(.op .mv [(.const (.int .i64 0))] (some 5) true)] false) (.block 0 (.loop H236_4 L236_4))) (.seq (.region [(.op .mv [(.const (.bool true))] (some 4) true)] false) .ret)))), [(.tmp 4)], 26, .one, none⟩
theorem t236 : T 236 = some F236 := tab Try.func236 (by kernel_rfl) rfl
-- laws.szFs
-- spec.FsOk
-- laws.toFs
-- impl.FsOk
-- laws.eqFs
def F72 : EF := ⟨(.seq (.region [(.op (.box 8) [(.tmp 0)] (some 2) true), (.op (.box 8) [(.tmp 1)] (some 3) true), (.op .mv [(.const (.bool false))] (some 4) true)] false) (.seq (.seq (.region [(.op (.faddr 0) [(.tmp 2)] (some 5) true), (.op (.loadN 7) [(.tmp 5)] (some 6) true), (.op (.faddr 0) [(.tmp 3)] (some 7) true), (.op (.loadN 7) [(.tmp 7)] (some 8) true), (.pc (.const (.fn 47 [])) [(.tmp 6), (.tmp 8)] (some 9) true), (.op .not [(.tmp 9)] (some 10) true)] false) (.cond (.tmp 10) (.seq (.region [(.op .mv [(.const (.bool false))] (some 4) true)] false) .ret) .skip)) (.seq (.seq (.region [(.op (.faddr 7) [(.tmp 2)] (some 11) true), (.op (.loadN 1) [(.tmp 11)] (some 12) true), (.op (.faddr 7) [(.tmp 3)] (some 13) true), (.op (.loadN 1) [(.tmp 13)] (some 14) true), (.pc (.const (.fn 173 [])) [(.tmp 12), (.tmp 14)] (some 15) true), (.op .not [(.tmp 15)] (some 16) true)] false) (.cond (.tmp 16) (.seq (.region [(.op .mv [(.const (.bool false))] (some 4) true)] false) .ret) .skip)) (.seq (.region [(.op .mv [(.const (.bool true))] (some 4) true)] false) .ret)))), [(.tmp 4)], 17, .one, none⟩
theorem t72 : T 72 = some F72 := tab Try.func72 (by kernel_rfl) rfl
-- laws.FnExactFsOk
end Go.Proofs.Ytaaajjinpppgeaa

/- Devices and file systems: counting, copying, comparing. Own work; no condition. -/
set_option linter.unusedVariables false
set_option linter.unusedSimpArgs false
set_option linter.unusedSectionVars false
namespace Go.Proofs.Ytaaajjinpppgeaa
open Go Go.Abs
set_option maxRecDepth 100000
def sv (s : ByteArray) : AV := .str s

theorem sv_cool (x : ByteArray) : coolX (sv x) = true := rfl
theorem sv_len (x : ByteArray) : (sv x).cells.length = 1 := rfl
theorem sv_mi (g : Bool → Nat → Nat → Nat → AV) (l : List ByteArray) : mapIdL g (l.map sv) = l.map sv := mi_map g sv l sv_cool
theorem sv_is (u : Bool → Nat → Nat → Nat → List Nat) (l : List ByteArray) : idsL u (l.map sv) = [] := is_map u sv l sv_cool
theorem sv_coR (l : List ByteArray) : coolR 1 (l.map sv) = true := coR_map 1 sv l sv_len sv_cool
theorem sv_ice (x : ByteArray) : ice (sv x) = sv x := rfl
theorem sv_ic (l : List ByteArray) : iceL (l.map sv) = l.map sv := by rw [ice_m]; exact List.map_congr_left fun x _ => sv_ice x
theorem sv_rf (x : ByteArray) : (sv x).roFree = true := rfl
theorem sv_rfL (l : List ByteArray) : roFreeL (l.map sv) = true := rf_map sv l sv_rf
theorem sv_no (x : ByteArray) : (sv x).cells.all noOwnC = true := rfl
theorem sv_noL (l : List ByteArray) : (l.map sv).all (fun x => x.cells.all noOwnC) = true := no_map sv l sv_no
attribute [go_sem] sv_mi sv_is sv_coR sv_ic sv_ice sv_rfL sv_noL

theorem e236 (xs ys : List ByteArray) (ha : xs.length ≤ maxLen) : E T 236 [.ro 1 (xs.map sv), .ro 1 (ys.map sv)] [] = some (.bool (decide (xs = ys)), []) := by
  rw [E_eq t236 (Nat.le_of_ble_eq_true rfl)]
  simp only [F236, h236_4, go_sem, seval, bnd_ite]
  unfold maxLen at ha
  by_cases hl : xs.length = ys.length
  case neg =>
    have : xs ≠ ys := fun e => hl (by rw [e])
    simp [this, show ¬ (xs.length : Int) = ys.length by omega]
  refine (XL_inv (T := T) (b := 0) (hd := H236_4) (x := L236_4) (β := Unit) (fun i _ => ⟨[(0, .ro 1 (xs.map sv)), (1, .ro 1 (ys.map sv)), (5, .int .i64 (i : Nat))], []⟩)
    (fun i _ => xs.take i = ys.take i) xs.length (fun r => (r.1 = .exit 0 ∧ xs = ys) ∨ (r.1 = .ret ∧ lookA r.2.env 4 = .bool false ∧ xs ≠ ys)) ?step ?last 0 () (by omega) rfl).elim ?main
  case step =>
    intro i _ hi hI
    obtain ⟨p, hp⟩ := get_at hi
    obtain ⟨q, hq⟩ := get_at (show i < ys.length by omega)
    have hi1 : (i : Int) < (xs.length : Int) := by omega
    have hi2 : (i : Int) < (ys.length : Int) := by omega
    simp only [XG, L236_4, h236_4, go_sem, seval, bnd_ite, hi1, hi2, gD_map hp, gD_map hq, sv, bdec, bne_dec, Int.natCast_nonneg, w_i64 ((i : Int) + 1) (by omega)]
    by_cases he : p = q
    · left
      subst he
      exact ⟨(), by simp, by rw [take_eq_snoc hp hq]; exact ⟨hI, rfl⟩⟩
    · right
      have hne : xs ≠ ys := fun e => he (by rw [e] at hp; rw [hp] at hq; exact Option.some.inj hq)
      simp only [he, decide_false, Bool.not_false, if_true]
      exact .mk (by simp) (.inr ⟨rfl, rfl, hne⟩)
  case last =>
    intro _ hI
    have e : xs = ys := by rw [List.take_length] at hI; rw [hI, hl, List.take_length]
    simp only [XG, L236_4, h236_4, go_sem, seval, bnd_ite, Int.lt_irrefl, decide_false]
    exact .mk (by simp) (.inl ⟨rfl, e⟩)
  case main =>
  rintro ⟨x, st⟩ ⟨h1, h2, h3⟩
  have hs : (0 : Int) = ((0 : Nat) : Int) := rfl
  simp only [hl, decide_true, Bool.not_true, Bool.false_eq_true, if_false]
  rw [hs, h1]
  obtain ⟨e, m⟩ := st
  rcases h3 with ⟨hx, h4⟩ | ⟨hx, h4, h5⟩
  · simp only at hx; subst hx; subst h4
    simp only [go_sem, seval]; simp
  · simp only at hx h4; subst hx
    simp only [go_sem, seval, h4]; simp [h5]
end Go.Proofs.Ytaaajjinpppgeaa

/- MemNew. Own work; no condition. -/
set_option linter.unusedVariables false
set_option linter.unusedSimpArgs false
set_option linter.unusedSectionVars false
namespace Go.Proofs.Ytaaajjinpppgeaa
open Go Go.Abs
set_option maxRecDepth 100000
def memNew (x : Dsk) : Mm := ⟨x, List.replicate 21 false, [], 1⟩
theorem memNew_sm {x : Dsk} (h : x.sm) : (memNew x).sm := ⟨h, by show (List.replicate 21 false).length ≤ 1048576; simp, by show (0 : Nat) ≤ 1048576; omega, fun y hy => by cases hy⟩
theorem memNew_ok {x : Dsk} (h : x.ok) : (memNew x).ok := ⟨h, by show (List.replicate 21 false).length ≤ maxLen; unfold maxLen; simp, by show (0 : Nat) ≤ maxLen; unfold maxLen; omega, fun y hy => by cases hy⟩
theorem e61 (x : Dsk) (h : x.sm) : E T 61 [dsk x] [] = some (mmO (memNew x), []) := by
  rw [E_eqW t61 (Nat.le_of_ble_eq_true rfl)]
  have e1 := e158 x h
  unfold dsk dskO at e1
  have t1 : (x.used.map bv).take x.used.length = x.used.map bv := List.take_of_length_le (by simp)
  have t2 : (x.taken.map bv).take x.taken.length = x.taken.map bv := List.take_of_length_le (by simp)
  have t3 : (x.inos.map inoO).take x.inos.length = x.inos.map inoO := List.take_of_length_le (by simp)
  have t4 : (x.blks.map blkO).take x.blks.length = x.blks.map blkO := List.take_of_length_le (by simp)
  simp only [dsk, F61, go_sem, seval, bnd_ite, e1, t1, t2, t3, t4, mmO, memNew, bv]
theorem e62 (x : Dsk) (h : x.sm) : E T 62 [dsk x] [] = some (mmO (memNew x), []) := by
  rw [E_eqW t62 (Nat.le_of_ble_eq_true rfl)]
  have e1 := e159 x h
  unfold dsk dskO at e1
  have t1 : (x.used.map bv).take x.used.length = x.used.map bv := List.take_of_length_le (by simp)
  have t2 : (x.taken.map bv).take x.taken.length = x.taken.map bv := List.take_of_length_le (by simp)
  have t3 : (x.inos.map inoO).take x.inos.length = x.inos.map inoO := List.take_of_length_le (by simp)
  have t4 : (x.blks.map blkO).take x.blks.length = x.blks.map blkO := List.take_of_length_le (by simp)
  simp only [dsk, F62, go_sem, seval, bnd_ite, e1, t1, t2, t3, t4, mmO, memNew, bv]
end Go.Proofs.Ytaaajjinpppgeaa

/- Devices and file systems: what is right; FsOk. Own work; no condition. -/
set_option linter.unusedVariables false
set_option linter.unusedSimpArgs false
set_option linter.unusedSectionVars false
namespace Go.Proofs.Ytaaajjinpppgeaa
open Go Go.Abs
set_option maxRecDepth 100000
def dvc (l : List ByteArray) : AV := .agg [.ro 1 (l.map sv)]
def dvcSm (l : List ByteArray) : Prop := l.length ≤ 1048576
def dvcOk' (l : List ByteArray) : Prop := l.length ≤ maxLen ∧ ∀ x ∈ l, x.size ≤ maxLen
theorem e173 (a b : List ByteArray) (h : dvcOk' a) : E T 173 [dvc a, dvc b] [] = some (.bool (decide (a = b)), []) := by
  rw [E_eq t173 (Nat.le_of_ble_eq_true rfl)]
  have e1 := e236 a b h.1
  simp only [dvc, F173, go_sem, seval, bnd_ite, e1]
  by_cases h : a = b <;> simp [h]
def short (s : ByteArray) : Bool := decide (s.size ≤ 60)
structure Fsy where
  mem : Mm
  units : List ByteArray
  deriving DecidableEq
def fsy (x : Fsy) : AV := .agg [.ro 1 (x.mem.disk.used.map bv), .ro 1 (x.mem.disk.taken.map bv), .ro 3 (x.mem.disk.inos.map ino), .ro 3 (x.mem.disk.blks.map blk), .ro 1 (x.mem.dirty.map bv), .ro 11 (x.mem.deps.map dp), .int .i64 x.mem.next, .ro 1 (x.units.map sv)]
def fsyO (x : Fsy) : AV := .agg [.own 1 (x.mem.disk.used.map bv), .own 1 (x.mem.disk.taken.map bv), .own 3 (x.mem.disk.inos.map inoO), .own 3 (x.mem.disk.blks.map blkO), .own 1 (x.mem.dirty.map bv), .own 11 (x.mem.deps.map dpO), .int .i64 x.mem.next, .own 1 (x.units.map sv)]
structure Fsy.ok (x : Fsy) : Prop where
  mem : x.mem.ok
  dev : dvcOk' x.units
structure Fsy.sm (x : Fsy) : Prop where
  mem : x.mem.sm
  dev : dvcSm x.units
theorem e72 (x y : Fsy) (h : x.ok) : E T 72 [fsy x, fsy y] [] = some (.bool (decide (x = y)), []) := by
  rw [E_eq t72 (Nat.le_of_ble_eq_true rfl)]
  have e1 := e47 x.mem y.mem h.mem
  have e2 := e173 x.units y.units h.dev
  unfold mm at e1
  unfold dvc at e2
  simp only [fsy, F72, go_sem, seval, bnd_ite, e1, e2]
  cases x with | mk a b =>
  cases y with | mk c d =>
  by_cases h1 : a = c <;> by_cases h2 : b = d <;> simp_all
end Go.Proofs.Ytaaajjinpppgeaa

/- MendPointers: what it does, and the program's inner loop. Own work; no condition. -/
set_option linter.unusedVariables false
set_option linter.unusedSimpArgs false
set_option linter.unusedSectionVars false
namespace Go.Proofs.Ytaaajjinpppgeaa
open Go Go.Abs
set_option maxRecDepth 100000
theorem e141k (k : Int) : E T 141 [.int .i64 k] [] = some (.agg [.int .i64 k, .int .i64 (if k = 0 then 0 else 1), .own 1 [.int .i64 0, .int .i64 0]], []) := by
  rw [E_eq t141 (Nat.le_of_ble_eq_true rfl)]
  by_cases h : k = 0
  · subst h; simp only [F141, go_sem, seval, bnd_ite]; try rfl
  · simp only [F141, go_sem, seval, bnd_ite, h, decide_false, if_false]; try rfl
theorem e143k (k : Int) : E T 143 [.int .i64 k] [] = some (.agg [.int .i64 k, .int .i64 (if k = 0 then 0 else 1), .own 1 [.int .i64 0, .int .i64 0]], []) := by
  rw [E_eq t143 (Nat.le_of_ble_eq_true rfl)]
  by_cases h : k = 0
  · subst h; simp only [F143, go_sem, seval, bnd_ite]; try rfl
  · simp only [F143, go_sem, seval, bnd_ite, h, decide_false, if_false]; try rfl
end Go.Proofs.Ytaaajjinpppgeaa

/- Devices of disks; file systems: marks. Own work; no condition. -/
set_option linter.unusedVariables false
set_option linter.unusedSimpArgs false
set_option linter.unusedSectionVars false
namespace Go.Proofs.Ytaaajjinpppgeaa
open Go Go.Abs
set_option maxRecDepth 100000
/-! ### Marks of texts -/
noncomputable def mkT (k : Int) (n : Nat) : List ByteArray := (List.range n).map fun i => mtext (k + (i : Nat))
theorem mkT_len (k : Int) (n : Nat) : (mkT k n).length = n := by simp [mkT]
theorem e251 (l : List ByteArray) (k : Int) (h0 : 0 ≤ k) (hk : k ≤ 281474976710656) (hl : l.length ≤ 1048576) :
    E T 251 [.sl 0 0 l.length, .int .i64 k] [some (1, l.map sv)] = some (.int .i64 (k + l.length), [some (1, (mkT k l.length).map sv)]) := by
  rw [E_eq t251 (Nat.le_of_ble_eq_true rfl)]
  unfold mkT
  simp only [F251, h251_2, go_sem, seval, bnd_ite]
  refine (XL_inv (T := T) (b := 1) (hd := H251_2) (x := L251_2) (β := Unit) (fun i _ => ⟨[(0, .sl 0 0 l.length), (1, .int .i64 (k + (i : Nat))), (5, .int .i64 (i : Nat))], [some (1, (marks (fun i => mtext (k + (i : Nat))) l i).map sv)]⟩)
    (fun i _ => True) l.length (fun r => r.1 = .exit 0 ∧ r.2.mem = [some (1, (marks (fun i => mtext (k + (i : Nat))) l l.length).map sv)] ∧ lookA r.2.env 1 = .int .i64 (k + l.length)) ?step ?last 0 () (by omega) trivial).elim ?main
  case step =>
    intro i _ hi _
    obtain ⟨p, hp⟩ := get_at hi
    have hi1 : (i : Int) < (l.length : Int) := by omega
    left
    refine ⟨(), ?_, trivial⟩
    have ms := marks_set (f := fun i => mtext (k + (i : Nat))) hi
    have e1 := e207 (k + (i : Nat)) (by omega) (by omega)
    have sm : ∀ m : List ByteArray, (m.map sv).set i (AV.str (mtext (k + (i : Nat)))) = (m.set i (mtext (k + (i : Nat)))).map sv := fun m => set_map (f := sv)
    have hml : (marks (fun i => mtext (k + (i : Nat))) l i).length = l.length := marks_len (by omega)
    have gx : ((marks (fun i => mtext (k + (i : Nat))) l i).map sv).getD i .undef = AV.str p := gD_map (marks_get hp)
    simp only [XG, L251_2, h251_2, go_sem, seval, bnd_ite, hi1, hml, hi, gx, e1, Int.natCast_nonneg, w_i64 ((i : Int) + 1) (by omega), w_i64 (k + (i : Int) + 1) (by omega), sm, ms]
    rw [Int.add_assoc]; rfl
  case last =>
    intro _ _
    have hml : (marks (fun i => mtext (k + (i : Nat))) l l.length).length = l.length := marks_len (by omega)
    simp only [XG, L251_2, h251_2, go_sem, seval, bnd_ite, hml, Int.lt_irrefl, decide_false]
    exact .mk (by simp) ⟨rfl, rfl, rfl⟩
  case main =>
  rintro ⟨x, e, m⟩ ⟨h1, h2, h3, h4, h5⟩
  have hs : ((0 : Nat) : Int) = 0 := rfl
  rw [marks_0, hs, Int.add_zero] at h1
  simp only at h3 h4 h5; subst h3; subst h4
  simp only [h1, go_sem, seval, h5, marks_all]
theorem e252 (n : Nat) (k : Int) (h0 : 0 ≤ k) (hk : k ≤ 281474976710656) (hl : n ≤ 1048576) :
    E T 252 [.ro 1 ((mkT k n).map sv), .int .i64 k] [] = some (.int .i64 (k + n), []) := by
  rw [E_eq t252 (Nat.le_of_ble_eq_true rfl)]
  unfold mkT
  simp only [F252, h252_2, go_sem, seval, bnd_ite]
  generalize hL : ((List.range n).map fun i => mtext (k + (i : Nat))) = L
  have hln : L.length = n := by rw [← hL]; simp
  refine (XL_inv (T := T) (b := 0) (hd := H252_2) (x := L252_2) (β := Unit) (fun i _ => ⟨[(0, .ro 1 (L.map sv)), (1, .int .i64 (k + (i : Nat))), (5, .int .i64 (i : Nat))], []⟩)
    (fun i _ => True) n (fun r => r.1 = .exit 0 ∧ lookA r.2.env 1 = .int .i64 (k + n)) ?step ?last 0 () (by omega) trivial).elim ?main
  case step =>
    intro i _ hi _
    have hi1 : (i : Int) < (n : Int) := by omega
    have hat : L[i]? = some (mtext (k + (i : Nat))) := by rw [← hL]; exact range_at _ hi
    have e1 := e207 (k + (i : Nat)) (by omega) (by omega)
    left
    refine ⟨(), ?_, trivial⟩
    simp only [XG, L252_2, h252_2, go_sem, seval, bnd_ite, hln, hi1, hi, gD_map hat, sv, e1, decide_true, Bool.not_true, Bool.false_eq_true, if_false, Int.natCast_nonneg, w_i64 ((i : Int) + 1) (by omega), w_i64 (k + (i : Int) + 1) (by omega)]
    rw [Int.add_assoc]; rfl
  case last =>
    intro _ _
    simp only [XG, L252_2, h252_2, go_sem, seval, bnd_ite, hln, Int.lt_irrefl, decide_false]
    exact .mk (by simp) ⟨rfl, rfl⟩
  case main =>
  rintro ⟨x, e, m⟩ ⟨h1, h2, h3, h4⟩
  have hs : ((0 : Nat) : Int) = 0 := rfl
  rw [hs, Int.add_zero] at h1
  simp only at h3 h4; subst h3
  simp only [h1, go_sem, seval, h4]
theorem e196 (l : List ByteArray) (k : Int) (h0 : 0 ≤ k) (hk : k ≤ 281474976710656) (hl : l.length ≤ 1048576) :
    E T 196 [.agg [.sl 0 0 l.length], .int .i64 k] [some (1, l.map sv)] = some (.int .i64 (k + l.length), [some (1, (mkT k l.length).map sv)]) := by
  rw [E_eq t196 (Nat.le_of_ble_eq_true rfl)]
  have e1 := e251 l k h0 hk hl
  simp only [F196, go_sem, seval, bnd_ite, e1]
theorem e197 (n : Nat) (k : Int) (h0 : 0 ≤ k) (hk : k ≤ 281474976710656) (hl : n ≤ 1048576) :
    E T 197 [.agg [.ro 1 ((mkT k n).map sv)], .int .i64 k] [] = some (.int .i64 (k + n), []) := by
  rw [E_eq t197 (Nat.le_of_ble_eq_true rfl)]
  have e1 := e252 n k h0 hk hl
  have n1 : ¬ (k + (n : Int)) < 0 := by omega
  simp only [F197, go_sem, seval, bnd_ite, e1, n1, if_false]
def coFs (x : Fsy) : Nat := coMm x.mem + x.units.length
noncomputable def mkFs (k : Int) (x : Fsy) : Fsy := ⟨mkMm k x.mem, mkT (k + coMm x.mem) x.units.length⟩
theorem coMm_le {x : Mm} (h : x.sm) : (coMm x : Int) ≤ 140737488355328 := by
  have c1 := coDsk_le' h.disk
  have c2 := costDp h.deps h.dep x.deps.length
  rw [List.take_length] at c2
  have u1 := h.dirty
  unfold coMm; omega
/-- The rows of a file system's own memory. -/
def fsR (x : Fsy) : Mem := mmR x.mem ++ [some (1, x.units.map sv)]
theorem e104 (x : Fsy) (k : Int) (h0 : 0 ≤ k) (hk : k ≤ 1048576) (h : x.sm) :
    E T 104 [.agg [.sl 0 0 x.mem.disk.used.length, .sl 1 0 x.mem.disk.taken.length, .sl 2 0 x.mem.disk.inos.length, .sl 3 0 x.mem.disk.blks.length, .sl 4 0 x.mem.dirty.length, .sl 5 0 x.mem.deps.length, .int .i64 x.mem.next, .sl 6 0 x.units.length], .int .i64 k] (fsR x) =
      some (.int .i64 (k + coFs x), fsR (mkFs k x)) := by
  rw [E_eq t104 (Nat.le_of_ble_eq_true rfl)]
  have c1 := coMm_le h.mem
  have hd := h.dev
  unfold dvcSm at hd
  have e1 := e51 x.mem k h0 (by omega) h.mem
  have e2 := e196 x.units (k + coMm x.mem) (by omega) (by omega) hd
  have e3 : k + (coFs x : Int) = k + coMm x.mem + x.units.length := by unfold coFs; omega
  simp only [fsR, mmR, dskR, mkMm, mkDsk, List.cons_append, List.nil_append] at e1 ⊢
  simp only [mkFs, mkMm, mkDsk, F104, go_sem, seval, bnd_ite, e1, e2, e3, mkB_len, mkL_len]
theorem e105 (x : Fsy) (k : Int) (h0 : 0 ≤ k) (hk : k ≤ 1048576) (h : x.sm) : E T 105 [fsy (mkFs k x), .int .i64 k] [] = some (.int .i64 (k + coFs x), []) := by
  rw [E_eq t105 (Nat.le_of_ble_eq_true rfl)]
  have c1 := coMm_le h.mem
  have hd := h.dev
  unfold dvcSm at hd
  have e1 := e64 x.mem k h0 (by omega) h.mem
  have e2 := e197 x.units.length (k + coMm x.mem) (by omega) (by omega) hd
  have e3 : k + (coFs x : Int) = k + coMm x.mem + x.units.length := by unfold coFs; omega
  have n1 : ¬ (k + (coMm x.mem : Int)) < 0 := by omega
  have n2 : ¬ (k + (coMm x.mem : Int) + x.units.length) < 0 := by omega
  unfold mm at e1
  simp only [fsy, mkFs, F105, go_sem, seval, bnd_ite, e1, e2, e3, n1, n2, if_false]
end Go.Proofs.Ytaaajjinpppgeaa

/- New disks, their devices, and new file systems: both answers are alike. Own work; no condition. -/
set_option linter.unusedVariables false
set_option linter.unusedSimpArgs false
set_option linter.unusedSectionVars false
namespace Go.Proofs.Ytaaajjinpppgeaa
open Go Go.Abs
set_option maxRecDepth 100000
def inoN (k : Int) : Ino := ⟨k, if k = 0 then 0 else 1, [0, 0]⟩
def dskNew : Dsk := ⟨[false, false, false, false, false, false, false, false, false, false, false, false, false, false, false, false],
  [true, false, false, false, false, false, false, false], inoN 2 :: List.replicate 7 (inoN 0), List.replicate 16 blk0⟩
theorem e249 : E T 249 [] [] = some (.agg [.own 1 (dskNew.used.map bv), .own 1 (dskNew.taken.map bv)], []) := by
  rw [E_eq t249 (Nat.le_of_ble_eq_true rfl)]
  simp only [F249, dskNew, bv, go_sem, seval, bnd_ite]
theorem e250 : E T 250 [] [] = some (.agg [.own 1 (dskNew.used.map bv), .own 1 (dskNew.taken.map bv)], []) := by
  rw [E_eq t250 (Nat.le_of_ble_eq_true rfl)]
  simp only [F250, dskNew, bv, go_sem, seval, bnd_ite]
theorem in193 : ∃ r, XL T 0 H193_3 L193_3 ⟨[(0, .ptr 0 0 0), (1, .ptr 1 0 0), (2, .int .i64 0)], [some (4, [.agg [.nil, .nil, .nil, .nil]]), some (4, [.agg [.own 1 (dskNew.used.map bv), .own 1 (dskNew.taken.map bv), .sl 2 0 0, .nil]]), some (3, [])]⟩ = some r ∧
    r.1 = .exit 0 ∧ lookA r.2.env 0 = .ptr 0 0 0 ∧ lookA r.2.env 1 = .ptr 1 0 0 ∧ r.2.mem = [some (4, [.agg [.nil, .nil, .nil, .nil]]), some (4, [.agg [.own 1 (dskNew.used.map bv), .own 1 (dskNew.taken.map bv), .sl 2 0 8, .nil]]), some (3, (List.replicate 8 (inoN 0)).map inoO)] := by
  have e1 := e141k 0
  rw [if_pos rfl] at e1
  generalize dskNew.used = U
  generalize dskNew.taken = W
  refine XL_each (List.replicate 8 (inoN 0)) (fun (_ : Unit) _ => ()) (fun i _ => ⟨[(0, .ptr 0 0 0), (1, .ptr 1 0 0), (2, .int .i64 (i : Nat))], [some (4, [.agg [.nil, .nil, .nil, .nil]]), some (4, [.agg [.own 1 (U.map bv), .own 1 (W.map bv), .sl 2 0 i, .nil]]), some (3, ((List.replicate 8 (inoN 0)).take i).map inoO)]⟩) (fun _ _ => True)
    (fun _ r => r.1 = .exit 0 ∧ lookA r.2.env 0 = .ptr 0 0 0 ∧ lookA r.2.env 1 = .ptr 1 0 0 ∧ r.2.mem = [some (4, [.agg [.nil, .nil, .nil, .nil]]), some (4, [.agg [.own 1 (U.map bv), .own 1 (W.map bv), .sl 2 0 8, .nil]]), some (3, (List.replicate 8 (inoN 0)).map inoO)]) ?step ?last () trivial
  case step =>
    intro i _ p hp hi _
    refine ⟨?_, trivial⟩
    have hi8 : i < 8 := by simpa using hi
    have hpe : p = inoN 0 := List.eq_of_mem_replicate (List.mem_of_getElem? hp)
    obtain ⟨M, hM, ml, mi, ms, mt, ma⟩ := snoc_facts inoO_cool hp
    rw [hpe] at ma
    have ma : M ++ [.agg [.int .i64 0, .int .i64 0, .own 1 [.int .i64 0, .int .i64 0]]] = ((List.replicate 8 (inoN 0)).take (i + 1)).map inoO := ma
    have k1 : (i : Int) < 8 := by omega
    have hap : (i + 1) * 40 ≤ 140737488355328 := by omega
    have hw := w_i64 ((i : Int) + 1) (by omega)
    generalize List.replicate 8 (inoN 0) = R at *
    simp only [hM]
    simp only [XG, L193_3, h193_3, go_sem, seval, bnd_ite, k1, e1, ml, mi, ms, mt, ma, hap, hw, Int.natCast_nonneg]
    first | done | rfl
  case last =>
    intro _ _
    have hR : (List.replicate 8 (inoN 0)).length = 8 := List.length_replicate
    rw [hR]
    generalize List.replicate 8 (inoN 0) = R at *
    have tR : (R.map inoO).take 8 = R.map inoO := List.take_of_length_le (by simp; omega)
    have k1 : ¬ ((8 : Nat) : Int) < 8 := by omega
    simp only [XG, L193_3, h193_3, go_sem, seval, bnd_ite, k1, decide_false]
    exact .mk (by simp) ⟨rfl, rfl, rfl, by rw [← List.map_take] at tR; simp only [tR]⟩
theorem e193 : E T 193 [] [] = some (dskO dskNew, []) := by
  rw [E_eqW t193 (Nat.le_of_ble_eq_true rfl)]
  have e1 := e249
  have e2 := e141k 2
  rw [if_neg (by decide)] at e2
  obtain ⟨⟨y, e, m⟩, q1, qx, q2, q3, qm⟩ := in193
  simp only at qx q2 q3 qm; subst qx; subst qm
  have hu : (dskNew.used.map bv).length = 16 := rfl
  have ht : (dskNew.taken.map bv).length = 8 := rfl
  have tu : (dskNew.used.map bv).take 16 = dskNew.used.map bv := rfl
  have tt : (dskNew.taken.map bv).take 8 = dskNew.taken.map bv := rfl
  have h1 : dskO dskNew = .agg [.own 1 (dskNew.used.map bv), .own 1 (dskNew.taken.map bv), .own 3 (dskNew.inos.map inoO), .own 3 (dskNew.blks.map blkO)] := rfl
  have h2 : dskNew.inos.map inoO = .agg [.int .i64 2, .int .i64 1, .own 1 [.int .i64 0, .int .i64 0]] :: (List.replicate 7 (inoN 0)).map inoO := rfl
  have h3 : dskNew.blks.map blkO = List.replicate 16 (.agg [.bool false, .own 2 [], .str ⟨#[]⟩]) := rfl
  have h4 : (List.replicate 8 (inoN 0)).map inoO = .agg [.int .i64 0, .int .i64 0, .own 1 [.int .i64 0, .int .i64 0]] :: (List.replicate 7 (inoN 0)).map inoO := rfl
  have h5 : ((List.replicate 7 (inoN 0)).map inoO).length = 7 := rfl
  have h6 : ((List.replicate 7 (inoN 0)).map inoO).take 7 = (List.replicate 7 (inoN 0)).map inoO := rfl
  rw [h1, h2, h3]
  rw [h4] at q1
  generalize (List.replicate 7 (inoN 0)) = R at *
  generalize dskNew.used = U at *
  generalize dskNew.taken = W at *
  simp only [List.length_map] at hu ht h5
  simp only [F193, h193_3, go_sem, seval, bnd_ite, e1, e2, q1, q2, q3, hu, ht, tu, tt, h5, h6]
  first | done | rfl
theorem inos_at {i : Nat} {p : Ino} (h : dskNew.inos[i]? = some p) : p = inoN (if i = 0 then 2 else 0) := by
  cases i with
  | zero => simp [dskNew] at h; rw [← h]; rfl
  | succ i =>
    have h : (List.replicate 7 (inoN 0))[i]? = some p := h
    rw [List.eq_of_mem_replicate (List.mem_of_getElem? h)]; rfl
theorem in194 : ∃ r, XL T 0 H194_3 L194_3 ⟨[(0, .ptr 0 0 0), (1, .ptr 1 0 0), (7, .int .i64 0)], [some (4, [.agg [.nil, .nil, .nil, .nil]]), some (4, [.agg [.own 1 (dskNew.used.map bv), .own 1 (dskNew.taken.map bv), .sl 2 0 0, .own 3 (List.replicate 16 (.agg [.bool false, .nil, .str ⟨#[]⟩]))]]), some (3, [])]⟩ = some r ∧
    r.1 = .exit 0 ∧ lookA r.2.env 0 = .ptr 0 0 0 ∧ lookA r.2.env 1 = .ptr 1 0 0 ∧ r.2.mem = [some (4, [.agg [.nil, .nil, .nil, .nil]]), some (4, [.agg [.own 1 (dskNew.used.map bv), .own 1 (dskNew.taken.map bv), .sl 2 0 8, .own 3 (List.replicate 16 (.agg [.bool false, .nil, .str ⟨#[]⟩]))]]), some (3, dskNew.inos.map inoO)] := by
  have hc : ∀ x ∈ List.replicate 16 (AV.agg [.bool false, .nil, .str ⟨#[]⟩]), coolX x = true := fun x hx => by rw [List.eq_of_mem_replicate hx]; rfl
  have zi := fun g => cools_mi g hc
  have zs := fun u => cools_is u hc
  have hZ : (List.replicate 16 (AV.agg [.bool false, .nil, .str ⟨#[]⟩])).length = 16 := List.length_replicate
  generalize List.replicate 16 (AV.agg [.bool false, .nil, .str ⟨#[]⟩]) = Z at *
  generalize hI : dskNew.inos = R
  have hR : R.length = 8 := by rw [← hI]; rfl
  have hat : ∀ i p, R[i]? = some p → p = inoN (if i = 0 then 2 else 0) := fun i p h => inos_at (by rw [hI]; exact h)
  generalize dskNew.used = U
  generalize dskNew.taken = W
  refine XL_each R (fun (_ : Unit) _ => ()) (fun i _ => ⟨[(0, .ptr 0 0 0), (1, .ptr 1 0 0), (7, .int .i64 (i : Nat))], [some (4, [.agg [.nil, .nil, .nil, .nil]]), some (4, [.agg [.own 1 (U.map bv), .own 1 (W.map bv), .sl 2 0 i, .own 3 Z]]), some (3, (R.take i).map inoO)]⟩) (fun _ _ => True)
    (fun _ r => r.1 = .exit 0 ∧ lookA r.2.env 0 = .ptr 0 0 0 ∧ lookA r.2.env 1 = .ptr 1 0 0 ∧ r.2.mem = [some (4, [.agg [.nil, .nil, .nil, .nil]]), some (4, [.agg [.own 1 (U.map bv), .own 1 (W.map bv), .sl 2 0 8, .own 3 Z]]), some (3, R.map inoO)]) ?step ?last () trivial
  case step =>
    intro i _ p hp hi _
    refine ⟨?_, trivial⟩
    have hpe := hat i p hp
    obtain ⟨M, hM, ml, mi, ms, mt, ma⟩ := snoc_facts inoO_cool hp
    rw [hpe] at ma
    have k1 : (i : Int) < 8 := by omega
    have hap : (i + 1) * 40 ≤ 140737488355328 := by omega
    have hw := w_i64 ((i : Int) + 1) (by omega)
    have hmin : min (i + 1) 8 = i + 1 := by omega
    simp only [hM]
    by_cases c : i = 0
    · subst c
      have e1 := e141k 2
      have e1 := e143k 2
      rw [if_neg (by decide)] at e1
      have ma : M ++ [.agg [.int .i64 2, .int .i64 1, .own 1 [.int .i64 0, .int .i64 0]]] = (R.take (0 + 1)).map inoO := ma
      have c0 : decide (((0 : Nat) : Int) = 0) = true := rfl
      simp only [XG, L194_3, h194_3, go_sem, seval, bnd_ite, k1, c0, e1, ml, mi, ms, mt, ma, hap, hw, zi, zs, Int.natCast_nonneg, if_true]
      first | done | rfl
    · have e1 := e143k 0
      rw [if_pos rfl] at e1
      rw [if_neg c] at ma
      have ma : M ++ [.agg [.int .i64 0, .int .i64 0, .own 1 [.int .i64 0, .int .i64 0]]] = (R.take (i + 1)).map inoO := ma
      have c0 : decide ((i : Int) = 0) = false := decide_eq_false (by omega)
      simp only [XG, L194_3, h194_3, go_sem, seval, bnd_ite, k1, c0, e1, ml, mi, ms, mt, ma, hap, hw, zi, zs, Int.natCast_nonneg, Bool.false_eq_true, if_false]
      first | done | rfl
  case last =>
    intro _ _
    rw [hR]
    have tR : (R.map inoO).take 8 = R.map inoO := List.take_of_length_le (by simp; omega)
    have k1 : ¬ ((8 : Nat) : Int) < 8 := by omega
    simp only [XG, L194_3, h194_3, go_sem, seval, bnd_ite, k1, decide_false]
    exact .mk (by simp) ⟨rfl, rfl, rfl, by rw [← List.map_take] at tR; simp only [tR]⟩
theorem e194 : E T 194 [] [] = some (dskO dskNew, []) := by
  rw [E_eqW t194 (Nat.le_of_ble_eq_true rfl)]
  have e1 := e250
  obtain ⟨⟨y, e, m⟩, q1, qx, q2, q3, qm⟩ := in194
  simp only at qx q2 q3 qm; subst qx; subst qm
  have hu : (dskNew.used.map bv).length = 16 := rfl
  have ht : (dskNew.taken.map bv).length = 8 := rfl
  have tu : (dskNew.used.map bv).take 16 = dskNew.used.map bv := rfl
  have tt : (dskNew.taken.map bv).take 8 = dskNew.taken.map bv := rfl
  have h1 : dskO dskNew = .agg [.own 1 (dskNew.used.map bv), .own 1 (dskNew.taken.map bv), .own 3 (dskNew.inos.map inoO), .own 3 (dskNew.blks.map blkO)] := rfl
  have h3 : dskNew.blks.map blkO = List.replicate 16 (.agg [.bool false, .own 2 [], .str ⟨#[]⟩]) := rfl
  have h5 : (dskNew.inos.map inoO).length = 8 := rfl
  have h6 : (dskNew.inos.map inoO).take 8 = dskNew.inos.map inoO := rfl
  rw [h1, h3]
  generalize dskNew.inos = R at *
  generalize dskNew.used = U at *
  generalize dskNew.taken = W at *
  simp only [List.length_map] at hu ht h5
  simp only [List.replicate_succ, List.replicate_zero] at q1
  simp only [F194, h194_3, go_sem, seval, bnd_ite, e1, q1, q2, q3, hu, ht, tu, tt, h5, h6]
  first | done | rfl
end Go.Proofs.Ytaaajjinpppgeaa

/- Devices of disks, and new file systems: both answers are alike. Own work; no condition. -/
set_option linter.unusedVariables false
set_option linter.unusedSimpArgs false
set_option linter.unusedSectionVars false
namespace Go.Proofs.Ytaaajjinpppgeaa
open Go Go.Abs
set_option maxRecDepth 100000
def devT (x : Dsk) : List ByteArray := (List.range 21).map fun (u : Nat) => unitT x (u : Int)
theorem devT_len (x : Dsk) : (devT x).length = 21 := by simp [devT]
theorem devT_at {x : Dsk} {i : Nat} {p : ByteArray} (h : (devT x)[i]? = some p) : i < 21 ∧ p = unitT x (i : Nat) := by
  unfold devT at h
  have hi : i < 21 := by
    have := (List.getElem?_eq_some_iff.1 h).1
    simpa using this
  rw [range_at _ hi] at h
  exact ⟨hi, by simpa using h.symm⟩
theorem e192 (x : Dsk) (hk : x.ok) : E T 192 [dsk x] [] = some (.tup [.agg [.own 1 ((if dskOk x then devT x else []).map sv)], .bool (dskOk x)], []) := by
  rw [E_eqW t192 (Nat.le_of_ble_eq_true rfl)]
  have e1 := e153 x hk
  cases hx : dskOk x with
  | false =>
    rw [hx] at e1
    unfold dsk at e1
    simp only [dsk, F192, go_sem, seval, bnd_ite, e1, Bool.not_false, if_true, Bool.false_eq_true, if_false, List.map_nil]
  | true =>
    rw [hx] at e1
    have hX := dskOk_iff.1 hx
    have hc : coolX (dsk x) = true := rfl
    generalize hD : devT x = D
    have hDl : D.length = 21 := by rw [← hD]; exact devT_len x
    have hDa : ∀ i p, D[i]? = some p → p = unitT x (i : Nat) := fun i p h => (devT_at (by rw [hD]; exact h)).2
    have e3 : ∀ i : Nat, i < 21 → E T 248 [dsk x, .int .i64 (i : Int)] [] = some (.str (unitT x (i : Int)), []) := fun i hi => e248 x hk hX i (by omega)
    unfold dsk at e1 e3
    obtain ⟨⟨y, e, m⟩, q1, qx, q2, q3, qm⟩ := XL_each (T := T) (b := 0) (hd := H192_5) (x := L192_5) D (fun (_ : Unit) _ => ()) (fun i _ => ⟨[(1, .ptr 0 0 0), (2, .ptr 1 0 0), (4, .ptr 2 0 0), (5, .int .i64 (i : Nat))],
        [some (4, [.agg [.ro 1 (x.used.map bv), .ro 1 (x.taken.map bv), .ro 3 (x.inos.map ino), .ro 3 (x.blks.map blk)]]), some (1, [.agg [.nil]]), some (1, [.agg [.sl 3 0 i]]), some (1, (D.take i).map sv)]⟩) (fun _ _ => True)
      (fun _ r => r.1 = .exit 0 ∧ lookA r.2.env 2 = .ptr 1 0 0 ∧ lookA r.2.env 4 = .ptr 2 0 0 ∧ r.2.mem = [some (4, [.agg [.ro 1 (x.used.map bv), .ro 1 (x.taken.map bv), .ro 3 (x.inos.map ino), .ro 3 (x.blks.map blk)]]), some (1, [.agg [.nil]]), some (1, [.agg [.sl 3 0 21]]), some (1, D.map sv)]) (by
        intro i _ p hp hi _
        refine ⟨?_, trivial⟩
        have hpe := hDa i p hp
        have e2 := e3 i (by omega)
        rw [← hpe] at e2
        obtain ⟨M, hM, ml, mi, ms, mt, ma⟩ := snoc_facts sv_cool hp
        have ma : M ++ [.str p] = (D.take (i + 1)).map sv := ma
        have k1 : (i : Int) < 21 := by omega
        have hap : (i + 1) * 16 ≤ 140737488355328 := by omega
        have hw := w_i64 ((i : Int) + 1) (by omega)
        have hmin : min (i + 1) D.length = i + 1 := by omega
        simp only [hM]
        simp only [XG, L192_5, h192_5, go_sem, seval, bnd_ite, k1, e2, ml, mi, ms, mt, ma, hap, hw, hmin, Int.natCast_nonneg]
        first | done | rfl) (by
        intro _ _
        rw [hDl]
        have k1 : ¬ ((21 : Nat) : Int) < 21 := by omega
        have tD : (D.map sv).take 21 = D.map sv := List.take_of_length_le (by simp; omega)
        simp only [XG, L192_5, h192_5, go_sem, seval, bnd_ite, k1, decide_false]
        exact .mk (by simp) ⟨rfl, rfl, rfl, by rw [← List.map_take] at tD; simp only [tD]⟩) () trivial
    simp only at qx q2 q3 qm; subst qx; subst qm
    have hs0 : ((0 : Nat) : Int) = 0 := rfl
    simp only [hs0, List.take_zero, List.map_nil] at q1
    have tD : (D.map sv).take 21 = D.map sv := List.take_of_length_le (by simp; omega)
    simp only [dsk, F192, h192_5, go_sem, seval, bnd_ite, e1, q1, q2, q3, tD, hDl, Bool.not_true, if_true, Bool.false_eq_true, if_false]
    first | done | rfl
theorem e195 (x : Dsk) (hk : x.ok) : E T 195 [dsk x] [] = some (.tup [.agg [.own 1 ((if dskOk x then devT x else []).map sv)], .bool (dskOk x)], []) := by
  rw [E_eqW t195 (Nat.le_of_ble_eq_true rfl)]
  have e1 := e155 x hk
  cases hx : dskOk x with
  | false =>
    rw [hx] at e1
    unfold dsk at e1
    simp only [dsk, F195, go_sem, seval, bnd_ite, e1, Bool.not_false, if_true, Bool.false_eq_true, if_false, List.map_nil]
  | true =>
    rw [hx] at e1
    have hX := dskOk_iff.1 hx
    generalize hD : devT x = D
    have hDl : D.length = 21 := by rw [← hD]; exact devT_len x
    have hDa : ∀ i p, D[i]? = some p → p = unitT x (i : Nat) := fun i p h => (devT_at (by rw [hD]; exact h)).2
    have e3 : ∀ i : Nat, i < 21 → E T 200 [dsk x, .int .i64 (i : Int)] [] = some (.tup [.str (unitT x (i : Int)), .bool true], []) := fun i hi => by
      have := e200 x hk i
      unfold unitOk inside at this
      rw [hx, decide_eq_true (show (0 : Int) ≤ (i : Int) by omega), decide_eq_true (show (i : Int) ≤ 20 by omega)] at this
      exact this
    unfold dsk at e1 e3
    obtain ⟨⟨y, e, m⟩, q1, qx, q2, q3, qm⟩ := XL_each (T := T) (b := 0) (hd := H195_5) (x := L195_5) D (fun (_ : Unit) _ => ()) (fun i _ => ⟨[(1, .ptr 0 0 0), (2, .ptr 1 0 0), (4, .ptr 2 0 0), (13, .int .i64 (i : Nat))],
        [some (4, [.agg [.ro 1 (x.used.map bv), .ro 1 (x.taken.map bv), .ro 3 (x.inos.map ino), .ro 3 (x.blks.map blk)]]), some (1, [.agg [.nil]]), some (1, [.agg [.sl 3 0 i]]), some (1, (D.take i).map sv)]⟩) (fun _ _ => True)
      (fun _ r => r.1 = .exit 0 ∧ lookA r.2.env 2 = .ptr 1 0 0 ∧ lookA r.2.env 4 = .ptr 2 0 0 ∧ r.2.mem = [some (4, [.agg [.ro 1 (x.used.map bv), .ro 1 (x.taken.map bv), .ro 3 (x.inos.map ino), .ro 3 (x.blks.map blk)]]), some (1, [.agg [.nil]]), some (1, [.agg [.sl 3 0 21]]), some (1, D.map sv)]) (by
        intro i _ p hp hi _
        refine ⟨?_, trivial⟩
        have hpe := hDa i p hp
        have e2 := e3 i (by omega)
        rw [← hpe] at e2
        obtain ⟨M, hM, ml, mi, ms, mt, ma⟩ := snoc_facts sv_cool hp
        have ma : M ++ [.str p] = (D.take (i + 1)).map sv := ma
        have k1 : (i : Int) < 21 := by omega
        have hap : (i + 1) * 16 ≤ 140737488355328 := by omega
        have hw := w_i64 ((i : Int) + 1) (by omega)
        have hmin : min (i + 1) D.length = i + 1 := by omega
        simp only [hM]
        simp only [XG, L195_5, h195_5, go_sem, seval, bnd_ite, k1, e2, ml, mi, ms, mt, ma, hap, hw, hmin, Int.natCast_nonneg]
        first | done | rfl) (by
        intro _ _
        rw [hDl]
        have k1 : ¬ ((21 : Nat) : Int) < 21 := by omega
        have tD : (D.map sv).take 21 = D.map sv := List.take_of_length_le (by simp; omega)
        simp only [XG, L195_5, h195_5, go_sem, seval, bnd_ite, k1, decide_false]
        exact .mk (by simp) ⟨rfl, rfl, rfl, by rw [← List.map_take] at tD; simp only [tD]⟩) () trivial
    simp only at qx q2 q3 qm; subst qx; subst qm
    have hs0 : ((0 : Nat) : Int) = 0 := rfl
    simp only [hs0, List.take_zero, List.map_nil] at q1
    have tD : (D.map sv).take 21 = D.map sv := List.take_of_length_le (by simp; omega)
    simp only [dsk, F195, h195_5, go_sem, seval, bnd_ite, e1, q1, q2, q3, tD, hDl, Bool.not_true, if_true, Bool.false_eq_true, if_false]
    first | done | rfl
theorem dskNew_ok : dskOk dskNew = true := by decide +kernel
theorem blk0_ok : blk0.ok := ⟨by show (0 : Nat) ≤ maxLen; unfold maxLen; omega, by show (0 : Nat) ≤ maxLen; unfold maxLen; omega, fun s hs => by cases hs⟩
theorem dskNew_k : dskNew.ok := by
  refine ⟨?_, ?_, ?_, ?_, fun y hy => ?_, fun y hy => ?_⟩
  · show (16 : Nat) ≤ maxLen; unfold maxLen; omega
  · show (8 : Nat) ≤ maxLen; unfold maxLen; omega
  · show (8 : Nat) ≤ maxLen; unfold maxLen; omega
  · show (16 : Nat) ≤ maxLen; unfold maxLen; omega
  · have h := (dskOk_iff.1 dskNew_ok).ino y hy
    have := (inoOk_iff.1 h).two
    unfold Ino.ok maxLen; omega
  · rw [List.eq_of_mem_replicate (show y ∈ List.replicate 16 blk0 from hy)]; exact blk0_ok
theorem dskNew_s : dskNew.sm := by
  refine ⟨?_, ?_, ?_, ?_, fun y hy => ?_, fun y hy => ?_⟩
  · show (16 : Nat) ≤ _; omega
  · show (8 : Nat) ≤ _; omega
  · show (8 : Nat) ≤ _; omega
  · show (16 : Nat) ≤ _; omega
  · have h := (dskOk_iff.1 dskNew_ok).ino y hy
    have := (inoOk_iff.1 h).two
    unfold Ino.sm; omega
  · rw [List.eq_of_mem_replicate (show y ∈ List.replicate 16 blk0 from hy)]; show (0 : Nat) ≤ _; omega
def fsNew : Fsy := ⟨memNew dskNew, devT dskNew⟩
theorem e102 : E T 102 [] [] = some (fsyO fsNew, []) := by
  rw [E_eq t102 (Nat.le_of_ble_eq_true rfl)]
  have e1 := e193
  have e2 := e192 dskNew dskNew_k
  have e3 := e61 dskNew dskNew_s
  rw [dskNew_ok, if_pos rfl] at e2
  have hl := devT_len dskNew
  have hN : fsNew = ⟨memNew dskNew, devT dskNew⟩ := rfl
  rw [hN]
  generalize memNew dskNew = N at *
  generalize devT dskNew = D at *
  generalize dskNew = x at *
  unfold dsk dskO at *
  have t1 : (x.used.map bv).take x.used.length = x.used.map bv := List.take_of_length_le (by simp)
  have t2 : (x.taken.map bv).take x.taken.length = x.taken.map bv := List.take_of_length_le (by simp)
  have t3 : (x.inos.map inoO).take x.inos.length = x.inos.map inoO := List.take_of_length_le (by simp)
  have t4 : (x.blks.map blkO).take x.blks.length = x.blks.map blkO := List.take_of_length_le (by simp)
  have s1 : (N.disk.used.map bv).take N.disk.used.length = N.disk.used.map bv := List.take_of_length_le (by simp)
  have s2 : (N.disk.taken.map bv).take N.disk.taken.length = N.disk.taken.map bv := List.take_of_length_le (by simp)
  have s3 : (N.disk.inos.map inoO).take N.disk.inos.length = N.disk.inos.map inoO := List.take_of_length_le (by simp)
  have s4 : (N.disk.blks.map blkO).take N.disk.blks.length = N.disk.blks.map blkO := List.take_of_length_le (by simp)
  have s5 : (N.dirty.map bv).take N.dirty.length = N.dirty.map bv := List.take_of_length_le (by simp)
  have s6 : (N.deps.map dpO).take N.deps.length = N.deps.map dpO := List.take_of_length_le (by simp)
  have s7 : (D.map sv).take D.length = D.map sv := List.take_of_length_le (by simp)
  unfold mmO at e3
  simp only [fsyO, F102, go_sem, seval, bnd_ite, e1, e2, e3, t1, t2, t3, t4, s1, s2, s3, s4, s5, s6, s7]
  first | done | rfl
theorem e103 : E T 103 [] [] = some (fsyO fsNew, []) := by
  rw [E_eq t103 (Nat.le_of_ble_eq_true rfl)]
  have e1 := e194
  have e2 := e195 dskNew dskNew_k
  have e3 := e62 dskNew dskNew_s
  rw [dskNew_ok, if_pos rfl] at e2
  have hl := devT_len dskNew
  have hN : fsNew = ⟨memNew dskNew, devT dskNew⟩ := rfl
  rw [hN]
  generalize memNew dskNew = N at *
  generalize devT dskNew = D at *
  generalize dskNew = x at *
  unfold dsk dskO at *
  have t1 : (x.used.map bv).take x.used.length = x.used.map bv := List.take_of_length_le (by simp)
  have t2 : (x.taken.map bv).take x.taken.length = x.taken.map bv := List.take_of_length_le (by simp)
  have t3 : (x.inos.map inoO).take x.inos.length = x.inos.map inoO := List.take_of_length_le (by simp)
  have t4 : (x.blks.map blkO).take x.blks.length = x.blks.map blkO := List.take_of_length_le (by simp)
  have s1 : (N.disk.used.map bv).take N.disk.used.length = N.disk.used.map bv := List.take_of_length_le (by simp)
  have s2 : (N.disk.taken.map bv).take N.disk.taken.length = N.disk.taken.map bv := List.take_of_length_le (by simp)
  have s3 : (N.disk.inos.map inoO).take N.disk.inos.length = N.disk.inos.map inoO := List.take_of_length_le (by simp)
  have s4 : (N.disk.blks.map blkO).take N.disk.blks.length = N.disk.blks.map blkO := List.take_of_length_le (by simp)
  have s5 : (N.dirty.map bv).take N.dirty.length = N.dirty.map bv := List.take_of_length_le (by simp)
  have s6 : (N.deps.map dpO).take N.deps.length = N.deps.map dpO := List.take_of_length_le (by simp)
  have s7 : (D.map sv).take D.length = D.map sv := List.take_of_length_le (by simp)
  unfold mmO at e3
  simp only [fsyO, F103, go_sem, seval, bnd_ite, e1, e2, e3, t1, t2, t3, t4, s1, s2, s3, s4, s5, s6, s7]
  first | done | rfl
theorem fsNew_s : fsNew.sm := ⟨memNew_sm dskNew_s, by show (devT dskNew).length ≤ _; rw [devT_len]; omega⟩
theorem fsNew_len : (devT dskNew).all (fun p => decide (p.size ≤ 60)) = true := by decide +kernel
theorem fsNew_k : fsNew.ok := by
  refine ⟨memNew_ok dskNew_k, ?_, fun p hp => ?_⟩
  · show (devT dskNew).length ≤ _; rw [devT_len]; unfold maxLen; omega
  · have := List.all_eq_true.1 fsNew_len p hp
    simp only [decide_eq_true_eq] at this
    unfold maxLen; omega
set_option maxHeartbeats 4000000 in
theorem e24 : E T 24 [] [] = some (.bool true, []) := by
  rw [E_eq t24 (Nat.le_of_ble_eq_true rfl)]
  have c1 := e102
  have c2 := e103
  have c3 := e72 fsNew fsNew fsNew_k
  have c4 := e104 fsNew 1 (by omega) (by omega) fsNew_s
  have c5 := e105 fsNew 1 (by omega) (by omega) fsNew_s
  generalize fsNew = N at *
  have n1 : ¬ (1 + (coFs N : Int)) < 0 := by omega
  simp only [fsy, fsyO, fsR, mmR, dskR, mkFs, mkMm, mkDsk, List.cons_append, List.nil_append] at c1 c2 c3 c4 c5 ⊢
  simp only [F24, go_sem, seval, bnd_ite, c1, c2, c3, c4, c5, mkB_len, mkL_len, mkT_len, tkO, tkN, n1, decide_true, decide_false, Bool.not_true, Bool.false_eq_true, if_false]
end Go.Proofs.Ytaaajjinpppgeaa

/- FnExactFsNew answers true for all arguments. Own work; no condition. -/
set_option linter.unusedVariables false
namespace Go.Proofs.Ytaaajjinpppgeaa
open Go Go.Abs
def shFnExactFsNew : List Shp := []
theorem isFnExactFsNew {avs : List AV} (h : IsAs shFnExactFsNew avs) : E T 24 avs [] = some (.bool true, []) := by
  cases h
  exact e24 
end Go.Proofs.Ytaaajjinpppgeaa

/- The words of a program's head, split without waste. Own work; no condition. -/
set_option linter.unusedVariables false
set_option linter.unusedSimpArgs false
set_option linter.unusedSectionVars false
namespace Go.Abs
open Go
def wAcc : List Char → List Char → List (List Char) → List (List Char)
  | [], cur, acc => (cur.reverse :: acc).reverse
  | c :: r, cur, acc => if c.toNat = 32 then wAcc r [] (cur.reverse :: acc) else wAcc r (c :: cur) acc
def joinW (cur : List Char) : List (List Char) → List (List Char)
  | w :: ws => (cur ++ w) :: ws
  | [] => [cur]
theorem ws_c (c : Char) (r : List Char) : wordsSigns (c :: r) = if c.toNat = 32 then [] :: wordsSigns r else joinW [c] (wordsSigns r) := by
  by_cases h : c.toNat = 32
  · rw [if_pos h]
    have : c = Char.ofNat 32 := by
      apply Char.ext
      apply UInt32.toNat_inj.1
      exact h
    subst this; rfl
  · rw [if_neg h]
    rw [wordsSigns.eq_3 _ _ (fun e => h (by rw [e]; rfl))]
    cases wordsSigns r <;> rfl
theorem ws_ne (l : List Char) : wordsSigns l ≠ [] := by
  cases l with
  | nil => simp [wordsSigns]
  | cons c r =>
    rw [ws_c]
    split
    · simp
    · cases wordsSigns r <;> simp [joinW]
theorem wAcc_eq : ∀ (l cur : List Char) (acc : List (List Char)), wAcc l cur acc = acc.reverse ++ joinW cur.reverse (wordsSigns l) := by
  intro l
  induction l with
  | nil => intro cur acc; simp [wAcc, wordsSigns, joinW]
  | cons c r ih =>
    intro cur acc
    simp only [wAcc]
    rw [ws_c]
    by_cases h : c.toNat = 32
    · rw [if_pos h, if_pos h, ih]
      cases hr : wordsSigns r with
      | nil => exact absurd hr (ws_ne r)
      | cons w ws => simp [joinW]
    · rw [if_neg h, if_neg h, ih]
      cases wordsSigns r <;> simp [joinW]
theorem words_eq (l : List Char) : wordsSigns l = wAcc l [] [] := by
  rw [wAcc_eq]
  have := ws_ne l
  cases h : wordsSigns l with
  | nil => exact absurd h this
  | cons w ws => simp [joinW]
theorem strip_cut (r : List (List Char)) : stripLifts liftWords ("cut".toList :: r) = ([], "cut".toList :: r) := by kernel_rfl
theorem lifts_of {P : Program} {r : List (List Char)} (h : behindMainWord (wordsSigns P.initOrder.toList) = "cut".toList :: r) : P.headLifts = [] := by
  unfold Program.headLifts
  rw [h, strip_cut]; kernel_rfl
theorem liftsFinal_of {P : Program} {r : List (List Char)} (h : behindMainWord (wordsSigns P.initOrder.toList) = "cut".toList :: r) : P.liftsFinal = false := by
  unfold Program.liftsFinal
  rw [h, lifts_of h]; kernel_rfl
theorem make_of {P : Program} {r : List (List Char)} (h : behindMainWord (wordsSigns P.initOrder.toList) = "cut".toList :: r) : P.make = some .cut := by
  unfold Program.make
  rw [h]; kernel_rfl
theorem mayEnter_of {P : Program} {r : List (List Char)} (h : behindMainWord (wordsSigns P.initOrder.toList) = "cut".toList :: r) (h1 : P.laysLater = false) (h2 : P.bearsReflect = false) (h3 : P.doorFits [] = true) : P.mayEnter = true := by
  unfold Program.mayEnter
  rw [h]
  simp only [strip_cut, h1, h2, h3]
  kernel_rfl
open Go.RowKit in
/-- The closed facts of a row, one by one. -/
theorem facts_of {P : Program} {f : FuncId} {fn : Func} {s : ChangeSpec} {c : OpenClaim} (a1 : c.wf (OpenSpec.ofChange s) = true) (a2 : laidOutB P = true) (a3 : mapsRowed P = true)
    (a4 : fn.params.all (P.readableRec ·) = true) (a5 : namedTie P c.named s.vars = true) (a6 : (c.stops == []) = true) (a7 : (P.stops == []) = true) (a8 : (c.knobs == []) = true) (a9 : (P.stopKnobs == []) = true)
    (a10 : (c.inPlace == P.inPlace f) = true) (a11 : (c.unfollowed == P.unfollowed f) = true) (a12 : (c.recurses == P.recurses f) = true) (a13 : (c.named == P.varsNamed f) = true)
    (a14 : (c.maps == (fn.params.toList ++ s.plain.varTypes P).any (P.mapsRec ·)) = true) (a15 : (c.ifaces == (fn.params.toList ++ s.plain.varTypes P).any (P.ifacesRec ·)) = true) (a16 : (c.mapsOut == P.mapsAmong fn.resultTypes.toList) = true)
    (a17 : (c.loops == (fn.params.toList ++ s.plain.varTypes P).any (P.loopsFrom ·)) = true) (a18 : (c.wideKeys == (fn.params.toList ++ s.plain.varTypes P ++ fn.resultTypes.toList).any (P.wideKeysFrom ·)) = true)
    (a19 : s.vars.all (P.varReadable ·) = true) (a20 : fn.resultTypes.all (fun t => P.readableRec t && decide (t < P.types.size)) = true) (a21 : (c.ifacesOut == fn.resultTypes.toList.any (P.ifacesRec ·)) = true)
    (a22 : (c.loopsOut == fn.resultTypes.toList.any (P.loopsFrom ·)) = true) (a23 : (c.plainKeys == P.plainKeys) = true) (a24 : c.shortTexts.isNone = true) (a25 : P.stopsHeard = true) (a26 : P.mayEnter = true)
    (a27 : (c.lifted == P.liftsFinal) = true) (a28 : (P.make == some c.make) = true)
    (a29 : c.domain.isEmpty = true) (a29' : c.kinds = []) (a30 : (c.pinned == c.pinnedBy) = true)
    (a31 : (c.veiled == (fn.params.toList ++ s.plain.varTypes P ++ fn.resultTypes.toList).any (P.veiledRec ·)) = true) (a32 : c.veiledFits P fn.params.toList (fn.params.toList ++ s.plain.varTypes P ++ fn.resultTypes.toList) = true) :
    joinedFacts P f fn s c = true := by
  unfold joinedFacts
  rw [a1, a2, a3, a4, a5, a6, a7, a8, a9, a10, a11, a12, a13, a14, a15, a16, a17, a18, a19, a20, a21, a22, a23, a24, a25, a26, a27, a28, a29, a29', a30, a31, a32]
  rfl
end Go.Abs

/- The words of the program's head, and the facts that hang on them. Own work; no condition. -/
namespace Go.Proofs.Ytaaajjinpppgeaa
open Go Go.RowKit
set_option maxRecDepth 100000
def headSigns : List Char := [.ofNat 104, .ofNat 97, .ofNat 114, .ofNat 110, .ofNat 101, .ofNat 115, .ofNat 115, .ofNat 32, .ofNat 52, .ofNat 98, .ofNat 53, .ofNat 51, .ofNat 53, .ofNat 101, .ofNat 99, .ofNat 100, .ofNat 102, .ofNat 57, .ofNat 49, .ofNat 100, .ofNat 98, .ofNat 56, .ofNat 56, .ofNat 56, .ofNat 52, .ofNat 101, .ofNat 99, .ofNat 51, .ofNat 56, .ofNat 57, .ofNat 101, .ofNat 56, .ofNat 100, .ofNat 100, .ofNat 99, .ofNat 53, .ofNat 52, .ofNat 98, .ofNat 54, .ofNat 49, .ofNat 51, .ofNat 48, .ofNat 48, .ofNat 97, .ofNat 102, .ofNat 99, .ofNat 48, .ofNat 53, .ofNat 48, .ofNat 48, .ofNat 55, .ofNat 56, .ofNat 48, .ofNat 101, .ofNat 101, .ofNat 102, .ofNat 98, .ofNat 102, .ofNat 55, .ofNat 101, .ofNat 53, .ofNat 102, .ofNat 51, .ofNat 54, .ofNat 97, .ofNat 52, .ofNat 48, .ofNat 57, .ofNat 101, .ofNat 100, .ofNat 100, .ofNat 53, .ofNat 32, .ofNat 99, .ofNat 117, .ofNat 116, .ofNat 32, .ofNat 97, .ofNat 116, .ofNat 32, .ofNat 108, .ofNat 111, .ofNat 111, .ofNat 112, .ofNat 46, .ofNat 101, .ofNat 120, .ofNat 97, .ofNat 109, .ofNat 112, .ofNat 108, .ofNat 101, .ofNat 47, .ofNat 103, .ofNat 48, .ofNat 48, .ofNat 50, .ofNat 51, .ofNat 53, .ofNat 47, .ofNat 108, .ofNat 97, .ofNat 119, .ofNat 115, .ofNat 46, .ofNat 70, .ofNat 110, .ofNat 69, .ofNat 120, .ofNat 97, .ofNat 99, .ofNat 116, .ofNat 69, .ofNat 118, .ofNat 101, .ofNat 110, .ofNat 116, .ofNat 79, .ofNat 107, .ofNat 32, .ofNat 108, .ofNat 111, .ofNat 111, .ofNat 112, .ofNat 46, .ofNat 101, .ofNat 120, .ofNat 97, .ofNat 109, .ofNat 112, .ofNat 108, .ofNat 101, .ofNat 47, .ofNat 103, .ofNat 48, .ofNat 48, .ofNat 50, .ofNat 51, .ofNat 53, .ofNat 47, .ofNat 108, .ofNat 97, .ofNat 119, .ofNat 115, .ofNat 46, .ofNat 70, .ofNat 110, .ofNat 69, .ofNat 120, .ofNat 97, .ofNat 99, .ofNat 116, .ofNat 83, .ofNat 97, .ofNat 109, .ofNat 101, .ofNat 84, .ofNat 114, .ofNat 101, .ofNat 101, .ofNat 32, .ofNat 108, .ofNat 111, .ofNat 111, .ofNat 112, .ofNat 46, .ofNat 101, .ofNat 120, .ofNat 97, .ofNat 109, .ofNat 112, .ofNat 108, .ofNat 101, .ofNat 47, .ofNat 103, .ofNat 48, .ofNat 48, .ofNat 50, .ofNat 51, .ofNat 53, .ofNat 47, .ofNat 108, .ofNat 97, .ofNat 119, .ofNat 115, .ofNat 46, .ofNat 70, .ofNat 110, .ofNat 69, .ofNat 120, .ofNat 97, .ofNat 99, .ofNat 116, .ofNat 83, .ofNat 104, .ofNat 97, .ofNat 114, .ofNat 101, .ofNat 100, .ofNat 32, .ofNat 108, .ofNat 111, .ofNat 111, .ofNat 112, .ofNat 46, .ofNat 101, .ofNat 120, .ofNat 97, .ofNat 109, .ofNat 112, .ofNat 108, .ofNat 101, .ofNat 47, .ofNat 103, .ofNat 48, .ofNat 48, .ofNat 50, .ofNat 51, .ofNat 53, .ofNat 47, .ofNat 108, .ofNat 97, .ofNat 119, .ofNat 115, .ofNat 46, .ofNat 70, .ofNat 110, .ofNat 69, .ofNat 120, .ofNat 97, .ofNat 99, .ofNat 116, .ofNat 83, .ofNat 101, .ofNat 116, .ofNat 116, .ofNat 108, .ofNat 101, .ofNat 100, .ofNat 32, .ofNat 108, .ofNat 111, .ofNat 111, .ofNat 112, .ofNat 46, .ofNat 101, .ofNat 120, .ofNat 97, .ofNat 109, .ofNat 112, .ofNat 108, .ofNat 101, .ofNat 47, .ofNat 103, .ofNat 48, .ofNat 48, .ofNat 50, .ofNat 51, .ofNat 53, .ofNat 47, .ofNat 108, .ofNat 97, .ofNat 119, .ofNat 115, .ofNat 46, .ofNat 70, .ofNat 110, .ofNat 69, .ofNat 120, .ofNat 97, .ofNat 99, .ofNat 116, .ofNat 73, .ofNat 109, .ofNat 97, .ofNat 103, .ofNat 101, .ofNat 73, .ofNat 110, .ofNat 111, .ofNat 100, .ofNat 101, .ofNat 32, .ofNat 108, .ofNat 111, .ofNat 111, .ofNat 112, .ofNat 46, .ofNat 101, .ofNat 120, .ofNat 97, .ofNat 109, .ofNat 112, .ofNat 108, .ofNat 101, .ofNat 47, .ofNat 103, .ofNat 48, .ofNat 48, .ofNat 50, .ofNat 51, .ofNat 53, .ofNat 47, .ofNat 108, .ofNat 97, .ofNat 119, .ofNat 115, .ofNat 46, .ofNat 70, .ofNat 110, .ofNat 69, .ofNat 120, .ofNat 97, .ofNat 99, .ofNat 116, .ofNat 73, .ofNat 109, .ofNat 97, .ofNat 103, .ofNat 101, .ofNat 66, .ofNat 108, .ofNat 111, .ofNat 99, .ofNat 107, .ofNat 32, .ofNat 108, .ofNat 111, .ofNat 111, .ofNat 112, .ofNat 46, .ofNat 101, .ofNat 120, .ofNat 97, .ofNat 109, .ofNat 112, .ofNat 108, .ofNat 101, .ofNat 47, .ofNat 103, .ofNat 48, .ofNat 48, .ofNat 50, .ofNat 51, .ofNat 53, .ofNat 47, .ofNat 108, .ofNat 97, .ofNat 119, .ofNat 115, .ofNat 46, .ofNat 70, .ofNat 110, .ofNat 69, .ofNat 120, .ofNat 97, .ofNat 99, .ofNat 116, .ofNat 77, .ofNat 101, .ofNat 109, .ofNat 79, .ofNat 107, .ofNat 32, .ofNat 108, .ofNat 111, .ofNat 111, .ofNat 112, .ofNat 46, .ofNat 101, .ofNat 120, .ofNat 97, .ofNat 109, .ofNat 112, .ofNat 108, .ofNat 101, .ofNat 47, .ofNat 103, .ofNat 48, .ofNat 48, .ofNat 50, .ofNat 51, .ofNat 53, .ofNat 47, .ofNat 108, .ofNat 97, .ofNat 119, .ofNat 115, .ofNat 46, .ofNat 70, .ofNat 110, .ofNat 69, .ofNat 120, .ofNat 97, .ofNat 99, .ofNat 116, .ofNat 77, .ofNat 101, .ofNat 109, .ofNat 78, .ofNat 101, .ofNat 119, .ofNat 32, .ofNat 108, .ofNat 111, .ofNat 111, .ofNat 112, .ofNat 46, .ofNat 101, .ofNat 120, .ofNat 97, .ofNat 109, .ofNat 112, .ofNat 108, .ofNat 101, .ofNat 47, .ofNat 103, .ofNat 48, .ofNat 48, .ofNat 50, .ofNat 51, .ofNat 53, .ofNat 47, .ofNat 108, .ofNat 97, .ofNat 119, .ofNat 115, .ofNat 46, .ofNat 70, .ofNat 110, .ofNat 69, .ofNat 120, .ofNat 97, .ofNat 99, .ofNat 116, .ofNat 77, .ofNat 101, .ofNat 110, .ofNat 100, .ofNat 80, .ofNat 111, .ofNat 105, .ofNat 110, .ofNat 116, .ofNat 101, .ofNat 114, .ofNat 115, .ofNat 32, .ofNat 108, .ofNat 111, .ofNat 111, .ofNat 112, .ofNat 46, .ofNat 101, .ofNat 120, .ofNat 97, .ofNat 109, .ofNat 112, .ofNat 108, .ofNat 101, .ofNat 47, .ofNat 103, .ofNat 48, .ofNat 48, .ofNat 50, .ofNat 51, .ofNat 53, .ofNat 47, .ofNat 108, .ofNat 97, .ofNat 119, .ofNat 115, .ofNat 46, .ofNat 70, .ofNat 110, .ofNat 69, .ofNat 120, .ofNat 97, .ofNat 99, .ofNat 116, .ofNat 70, .ofNat 115, .ofNat 79, .ofNat 107, .ofNat 32, .ofNat 108, .ofNat 111, .ofNat 111, .ofNat 112, .ofNat 46, .ofNat 101, .ofNat 120, .ofNat 97, .ofNat 109, .ofNat 112, .ofNat 108, .ofNat 101, .ofNat 47, .ofNat 103, .ofNat 48, .ofNat 48, .ofNat 50, .ofNat 51, .ofNat 53, .ofNat 47, .ofNat 108, .ofNat 97, .ofNat 119, .ofNat 115, .ofNat 46, .ofNat 70, .ofNat 110, .ofNat 69, .ofNat 120, .ofNat 97, .ofNat 99, .ofNat 116, .ofNat 77, .ofNat 101, .ofNat 110, .ofNat 100, .ofNat 78, .ofNat 97, .ofNat 109, .ofNat 101, .ofNat 115, .ofNat 32, .ofNat 108, .ofNat 111, .ofNat 111, .ofNat 112, .ofNat 46, .ofNat 101, .ofNat 120, .ofNat 97, .ofNat 109, .ofNat 112, .ofNat 108, .ofNat 101, .ofNat 47, .ofNat 103, .ofNat 48, .ofNat 48, .ofNat 50, .ofNat 51, .ofNat 53, .ofNat 47, .ofNat 108, .ofNat 97, .ofNat 119, .ofNat 115, .ofNat 46, .ofNat 70, .ofNat 110, .ofNat 69, .ofNat 120, .ofNat 97, .ofNat 99, .ofNat 116, .ofNat 68, .ofNat 97, .ofNat 110, .ofNat 103, .ofNat 108, .ofNat 105, .ofNat 110, .ofNat 103, .ofNat 32, .ofNat 108, .ofNat 111, .ofNat 111, .ofNat 112, .ofNat 46, .ofNat 101, .ofNat 120, .ofNat 97, .ofNat 109, .ofNat 112, .ofNat 108, .ofNat 101, .ofNat 47, .ofNat 103, .ofNat 48, .ofNat 48, .ofNat 50, .ofNat 51, .ofNat 53, .ofNat 47, .ofNat 108, .ofNat 97, .ofNat 119, .ofNat 115, .ofNat 46, .ofNat 70, .ofNat 110, .ofNat 69, .ofNat 120, .ofNat 97, .ofNat 99, .ofNat 116, .ofNat 76, .ofNat 105, .ofNat 110, .ofNat 107, .ofNat 115, .ofNat 79, .ofNat 102, .ofNat 32, .ofNat 108, .ofNat 111, .ofNat 111, .ofNat 112, .ofNat 46, .ofNat 101, .ofNat 120, .ofNat 97, .ofNat 109, .ofNat 112, .ofNat 108, .ofNat 101, .ofNat 47, .ofNat 103, .ofNat 48, .ofNat 48, .ofNat 50, .ofNat 51, .ofNat 53, .ofNat 47, .ofNat 108, .ofNat 97, .ofNat 119, .ofNat 115, .ofNat 46, .ofNat 70, .ofNat 110, .ofNat 69, .ofNat 120, .ofNat 97, .ofNat 99, .ofNat 116, .ofNat 87, .ofNat 114, .ofNat 111, .ofNat 110, .ofNat 103, .ofNat 75, .ofNat 105, .ofNat 110, .ofNat 100, .ofNat 32, .ofNat 108, .ofNat 111, .ofNat 111, .ofNat 112, .ofNat 46, .ofNat 101, .ofNat 120, .ofNat 97, .ofNat 109, .ofNat 112, .ofNat 108, .ofNat 101, .ofNat 47, .ofNat 103, .ofNat 48, .ofNat 48, .ofNat 50, .ofNat 51, .ofNat 53, .ofNat 47, .ofNat 108, .ofNat 97, .ofNat 119, .ofNat 115, .ofNat 46, .ofNat 70, .ofNat 110, .ofNat 69, .ofNat 120, .ofNat 97, .ofNat 99, .ofNat 116, .ofNat 83, .ofNat 104, .ofNat 111, .ofNat 114, .ofNat 116, .ofNat 32, .ofNat 108, .ofNat 111, .ofNat 111, .ofNat 112, .ofNat 46, .ofNat 101, .ofNat 120, .ofNat 97, .ofNat 109, .ofNat 112, .ofNat 108, .ofNat 101, .ofNat 47, .ofNat 103, .ofNat 48, .ofNat 48, .ofNat 50, .ofNat 51, .ofNat 53, .ofNat 47, .ofNat 108, .ofNat 97, .ofNat 119, .ofNat 115, .ofNat 46, .ofNat 70, .ofNat 110, .ofNat 69, .ofNat 120, .ofNat 97, .ofNat 99, .ofNat 116, .ofNat 85, .ofNat 110, .ofNat 109, .ofNat 97, .ofNat 114, .ofNat 107, .ofNat 101, .ofNat 100, .ofNat 32, .ofNat 108, .ofNat 111, .ofNat 111, .ofNat 112, .ofNat 46, .ofNat 101, .ofNat 120, .ofNat 97, .ofNat 109, .ofNat 112, .ofNat 108, .ofNat 101, .ofNat 47, .ofNat 103, .ofNat 48, .ofNat 48, .ofNat 50, .ofNat 51, .ofNat 53, .ofNat 47, .ofNat 108, .ofNat 97, .ofNat 119, .ofNat 115, .ofNat 46, .ofNat 70, .ofNat 110, .ofNat 69, .ofNat 120, .ofNat 97, .ofNat 99, .ofNat 116, .ofNat 80, .ofNat 117, .ofNat 116, .ofNat 68, .ofNat 101, .ofNat 112, .ofNat 32, .ofNat 108, .ofNat 111, .ofNat 111, .ofNat 112, .ofNat 46, .ofNat 101, .ofNat 120, .ofNat 97, .ofNat 109, .ofNat 112, .ofNat 108, .ofNat 101, .ofNat 47, .ofNat 103, .ofNat 48, .ofNat 48, .ofNat 50, .ofNat 51, .ofNat 53, .ofNat 47, .ofNat 108, .ofNat 97, .ofNat 119, .ofNat 115, .ofNat 46, .ofNat 70, .ofNat 110, .ofNat 69, .ofNat 120, .ofNat 97, .ofNat 99, .ofNat 116, .ofNat 68, .ofNat 114, .ofNat 111, .ofNat 112, .ofNat 68, .ofNat 101, .ofNat 112, .ofNat 32, .ofNat 108, .ofNat 111, .ofNat 111, .ofNat 112, .ofNat 46, .ofNat 101, .ofNat 120, .ofNat 97, .ofNat 109, .ofNat 112, .ofNat 108, .ofNat 101, .ofNat 47, .ofNat 103, .ofNat 48, .ofNat 48, .ofNat 50, .ofNat 51, .ofNat 53, .ofNat 47, .ofNat 108, .ofNat 97, .ofNat 119, .ofNat 115, .ofNat 46, .ofNat 70, .ofNat 110, .ofNat 69, .ofNat 120, .ofNat 97, .ofNat 99, .ofNat 116, .ofNat 84, .ofNat 97, .ofNat 107, .ofNat 101, .ofNat 66, .ofNat 108, .ofNat 111, .ofNat 99, .ofNat 107, .ofNat 32, .ofNat 108, .ofNat 111, .ofNat 111, .ofNat 112, .ofNat 46, .ofNat 101, .ofNat 120, .ofNat 97, .ofNat 109, .ofNat 112, .ofNat 108, .ofNat 101, .ofNat 47, .ofNat 103, .ofNat 48, .ofNat 48, .ofNat 50, .ofNat 51, .ofNat 53, .ofNat 47, .ofNat 108, .ofNat 97, .ofNat 119, .ofNat 115, .ofNat 46, .ofNat 70, .ofNat 110, .ofNat 69, .ofNat 120, .ofNat 97, .ofNat 99, .ofNat 116, .ofNat 84, .ofNat 97, .ofNat 107, .ofNat 101, .ofNat 73, .ofNat 110, .ofNat 111, .ofNat 32, .ofNat 108, .ofNat 111, .ofNat 111, .ofNat 112, .ofNat 46, .ofNat 101, .ofNat 120, .ofNat 97, .ofNat 109, .ofNat 112, .ofNat 108, .ofNat 101, .ofNat 47, .ofNat 103, .ofNat 48, .ofNat 48, .ofNat 50, .ofNat 51, .ofNat 53, .ofNat 47, .ofNat 108, .ofNat 97, .ofNat 119, .ofNat 115, .ofNat 46, .ofNat 70, .ofNat 110, .ofNat 69, .ofNat 120, .ofNat 97, .ofNat 99, .ofNat 116, .ofNat 82, .ofNat 101, .ofNat 97, .ofNat 99, .ofNat 104, .ofNat 101, .ofNat 100, .ofNat 32, .ofNat 108, .ofNat 111, .ofNat 111, .ofNat 112, .ofNat 46, .ofNat 101, .ofNat 120, .ofNat 97, .ofNat 109, .ofNat 112, .ofNat 108, .ofNat 101, .ofNat 47, .ofNat 103, .ofNat 48, .ofNat 48, .ofNat 50, .ofNat 51, .ofNat 53, .ofNat 47, .ofNat 108, .ofNat 97, .ofNat 119, .ofNat 115, .ofNat 46, .ofNat 70, .ofNat 110, .ofNat 69, .ofNat 120, .ofNat 97, .ofNat 99, .ofNat 116, .ofNat 70, .ofNat 115, .ofNat 78, .ofNat 101, .ofNat 119, .ofNat 32, .ofNat 108, .ofNat 111, .ofNat 111, .ofNat 112, .ofNat 46, .ofNat 101, .ofNat 120, .ofNat 97, .ofNat 109, .ofNat 112, .ofNat 108, .ofNat 101, .ofNat 47, .ofNat 103, .ofNat 48, .ofNat 48, .ofNat 50, .ofNat 51, .ofNat 53, .ofNat 47, .ofNat 108, .ofNat 97, .ofNat 119, .ofNat 115, .ofNat 46, .ofNat 70, .ofNat 110, .ofNat 69, .ofNat 120, .ofNat 97, .ofNat 99, .ofNat 116, .ofNat 73, .ofNat 109, .ofNat 97, .ofNat 103, .ofNat 101, .ofNat 85, .ofNat 110, .ofNat 105, .ofNat 116, .ofNat 32, .ofNat 108, .ofNat 111, .ofNat 111, .ofNat 112, .ofNat 46, .ofNat 101, .ofNat 120, .ofNat 97, .ofNat 109, .ofNat 112, .ofNat 108, .ofNat 101, .ofNat 47, .ofNat 103, .ofNat 48, .ofNat 48, .ofNat 50, .ofNat 51, .ofNat 53, .ofNat 47, .ofNat 108, .ofNat 97, .ofNat 119, .ofNat 115, .ofNat 46, .ofNat 70, .ofNat 110, .ofNat 69, .ofNat 120, .ofNat 97, .ofNat 99, .ofNat 116, .ofNat 83, .ofNat 97, .ofNat 102, .ofNat 101, .ofNat 68, .ofNat 105, .ofNat 115, .ofNat 107, .ofNat 32, .ofNat 108, .ofNat 111, .ofNat 111, .ofNat 112, .ofNat 46, .ofNat 101, .ofNat 120, .ofNat 97, .ofNat 109, .ofNat 112, .ofNat 108, .ofNat 101, .ofNat 47, .ofNat 103, .ofNat 48, .ofNat 48, .ofNat 50, .ofNat 51, .ofNat 53, .ofNat 47, .ofNat 108, .ofNat 97, .ofNat 119, .ofNat 115, .ofNat 46, .ofNat 70, .ofNat 110, .ofNat 69, .ofNat 120, .ofNat 97, .ofNat 99, .ofNat 116, .ofNat 84, .ofNat 114, .ofNat 101, .ofNat 101, .ofNat 79, .ofNat 102, .ofNat 32, .ofNat 108, .ofNat 111, .ofNat 111, .ofNat 112, .ofNat 46, .ofNat 101, .ofNat 120, .ofNat 97, .ofNat 109, .ofNat 112, .ofNat 108, .ofNat 101, .ofNat 47, .ofNat 103, .ofNat 48, .ofNat 48, .ofNat 50, .ofNat 51, .ofNat 53, .ofNat 47, .ofNat 108, .ofNat 97, .ofNat 119, .ofNat 115, .ofNat 46, .ofNat 70, .ofNat 110, .ofNat 69, .ofNat 120, .ofNat 97, .ofNat 99, .ofNat 116, .ofNat 69, .ofNat 120, .ofNat 97, .ofNat 99, .ofNat 116, .ofNat 68, .ofNat 105, .ofNat 115, .ofNat 107]
theorem head_text : Try.prog.initOrder = String.ofList headSigns := by kernel_rfl
theorem head_words : wordsSigns Try.prog.initOrder.toList = Go.Abs.wAcc headSigns [] [] := by
  rw [head_text, String.toList_ofList, Go.Abs.words_eq]
theorem head_behind : behindMainWord (wordsSigns Try.prog.initOrder.toList) = "cut".toList :: (Go.Abs.wAcc headSigns [] []).drop 3 := by
  rw [head_words]; kernel_rfl
theorem f_lays : Try.prog.laysLater = false := by kernel_rfl
theorem f_refl : Try.prog.bearsReflect = false := by kernel_rfl
theorem f_door : Try.prog.doorFits [] = true := by kernel_rfl
theorem f_mayEnter : Try.prog.mayEnter = true := Go.Abs.mayEnter_of head_behind f_lays f_refl f_door
theorem f_liftsFinal : Try.prog.liftsFinal = false := Go.Abs.liftsFinal_of head_behind
theorem f_make : Try.prog.make = some .cut := Go.Abs.make_of head_behind
theorem laidOut : laidOutB Try.prog = true := by kernel_rfl
theorem f_maps : mapsRowed Try.prog = true := by kernel_rfl
theorem f_stops : (Try.prog.stops == []) = true := by kernel_rfl
theorem f_knobs : (Try.prog.stopKnobs == []) = true := by kernel_rfl
theorem f_plain : (true == Try.prog.plainKeys) = true := by kernel_rfl
theorem f_heard : Try.prog.stopsHeard = true := by kernel_rfl
theorem own : ownKnob Try.prog.godebug = none := by kernel_rfl
end Go.Proofs.Ytaaajjinpppgeaa

/- FnExactFsNew returns true for every input, and leaves it as it was. No condition. -/
set_option linter.unusedVariables false
set_option linter.unusedSimpArgs false
set_option linter.unusedSectionVars false
namespace Go.Proofs.Ytaaajjinpppgeaa
open Go Go.Abs Go.ChangeShapes Go.WideShapes Go.ChangeAt Go.RowKit
set_option maxRecDepth 100000 in
theorem liftedFnExactFsNew (os : Os) (started : os.Started) (H : Type) (enc : TypeId × Value → H) :
    ReturnsInHanded {} Try.checked os 24 .any (Rows.fnExactFsNewSpec.pre6 enc Try.prog Try.f24 Rows.fnExactFsNewRow.domain false) (Rows.fnExactFsNewSpec.post enc Try.prog Try.f24 false true false false) := by
  refine returnsInHanded_of_change (C := Try.checked) own started (by kernel_rfl) Try.func24
    (ChangeSpec.witness6 (enc := enc) (C := Try.checked) false ⟨#[], #[], []⟩ 8 (by kernel_rfl) (by kernel_rfl) (by kernel_rfl) (by kernel_rfl)) ?_
  intro W base args ds gs before hval hW _ _
  obtain ⟨p, q, hA, hV, e, _, _⟩ := id hW
  refine (row_calls (P := Try.prog) (W := W) (n := 12) (shps := shFnExactFsNew) (fun avs h => calls (isFnExactFsNew h)) (ts := Try.f24.params.toList) (by kernel_rfl) (fun j t v h1 h2 => hval j t v (by simp at h1) h2) hA).mono fun e W' ⟨he, hb⟩ => ?_
  refine ⟨_, he, row_post (tb := Try.f24.resultTypes.toList.headD 0) laidOut ?_ rfl (by kernel_rfl) (by kernel_rfl) ?_ hW hb⟩
  · exact List.all_eq_true.1 (show Try.f24.params.toList.all (fun t => Try.prog.readableRec t && decide (t < Try.prog.types.size)) = true by kernel_rfl) |> fun h t ht => by simpa using h t ht
  · have hl := trod_len hA
    match ds, hl with
    | [], _ => rfl
set_option maxHeartbeats 4000000 in
theorem factsFnExactFsNew : joinedFacts Try.prog 24 Try.f24 Rows.fnExactFsNewSpec Rows.fnExactFsNewRow = true :=
  facts_of (by kernel_rfl) laidOut f_maps (by kernel_rfl) (by kernel_rfl) rfl f_stops rfl f_knobs (by as_aux_lemma => kernel_rfl) (by as_aux_lemma => kernel_rfl) (by as_aux_lemma => kernel_rfl) (by as_aux_lemma => kernel_rfl)
    (by kernel_rfl) (by kernel_rfl) (by kernel_rfl) (by kernel_rfl) (by kernel_rfl) rfl (by kernel_rfl) (by kernel_rfl) (by kernel_rfl) f_plain rfl f_heard f_mayEnter (by rw [f_liftsFinal]; rfl) (by rw [f_make]; rfl) rfl rfl rfl (by kernel_rfl) (by kernel_rfl)
theorem wrapFnExactFsNew : Try.f24.isWrapper Try.prog Rows.fnExactFsNewRow.wrapper Rows.fnExactFsNewRow.mainSum := by
  unfold Func.isWrapper; rw [if_neg (by decide +kernel)]; exact ⟨rfl, rfl⟩
set_option maxHeartbeats 4000000 in
theorem overFnExactFsNew : Rows.fnExactFsNewRow.holds Try.pinned (OpenSpec.ofChange Rows.fnExactFsNewSpec) :=
  OpenClaim.holds_of_wide 24 Try.f24 rfl rfl rfl rfl rfl rfl rfl ⟨rfl, rfl, rfl, rfl, rfl⟩ rfl rfl rfl rfl rfl (by as_aux_lemma => kernel_rfl) Try.func24 factsFnExactFsNew
    (by as_aux_lemma => exact of_decide_eq_true (by kernel_rfl)) wrapFnExactFsNew
    (fun os started H enc _ => liftedFnExactFsNew os started H enc)
theorem FnExactFsNew_holds : Rows.FnExactFsNewSaid := overFnExactFsNew
end Go.Proofs.Ytaaajjinpppgeaa

