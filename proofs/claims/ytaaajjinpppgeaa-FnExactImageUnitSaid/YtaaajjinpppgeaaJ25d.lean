/- Part 4 of the texts of a claim, joined by a program of ours (Ub, Uc, Og, Oh, Oi, Fh, Ud, Ib, Jb, Ic, Id, Jc, Jd, Je, Ie, Uh, Ui, Q25, Wa). No condition. -/
import Derived.Test.YtaaajjinpppgeaaJ25c
import GoSem.ClaimOpenFrom
import GoSem.ClaimJoined
import Derived.JoinedOf
import Derived.ProofKit
import Derived.KernelRfl
set_option linter.unusedVariables false
set_option linter.unusedSimpArgs false
set_option linter.unusedSectionVars false
/- The texts of bits and blocks. Own work; no condition. -/
set_option linter.unusedVariables false
set_option linter.unusedSimpArgs false
set_option linter.unusedSectionVars false
namespace Go.Proofs.Ytaaajjinpppgeaa
open Go Go.Abs
set_option maxRecDepth 100000
def byStep (st : Int × Int) (b : Bool) : Int × Int := (if b then IntKind.i64.wrap (st.1 + st.2) else st.1, IntKind.i64.wrap (2 * st.2))
def byteI (l : List Bool) : Int := IntKind.u8.wrap (l.foldl byStep (0, 1)).1
theorem e302 (l : List Bool) (hl : l.length ≤ 1048576) : E T 302 [.ro 1 (l.map bv)] [] = some (.int .u8 (byteI l), []) := by
  rw [E_eq t302 (Nat.le_of_ble_eq_true rfl)]
  refine (XL_each (T := T) (b := 0) (hd := H302_4) (x := L302_4) l byStep (fun i st => ⟨[(0, .ro 1 (l.map bv)), (3, .int .i64 st.1), (4, .int .i64 st.2), (5, .int .i64 (i : Nat))], []⟩) (fun _ _ => True)
    (fun st r => r.1 = .exit 0 ∧ lookA r.2.env 3 = .int .i64 st.1) ?step ?last (0, 1) trivial).elim ?main
  case step =>
    intro i st d hd hi _
    refine ⟨?_, trivial⟩
    have k1 : (i : Int) < (l.length : Int) := by omega
    have gd : (l.map bv).getD i .undef = .bool d := gD_map hd
    have hw := w_i64 ((i : Int) + 1) (by omega)
    unfold byStep
    cases d
    · simp only [XG, L302_4, h302_4, go_sem, seval, bnd_ite, k1, gd, hw, Int.natCast_nonneg, Bool.false_eq_true, if_false]
      first | done | rfl
    · simp only [XG, L302_4, h302_4, go_sem, seval, bnd_ite, k1, gd, hw, Int.natCast_nonneg, if_true]
      first | done | rfl
  case last =>
    intro st _
    simp only [XG, L302_4, h302_4, go_sem, seval, bnd_ite, Int.lt_irrefl, decide_false]
    exact .mk (by simp) ⟨rfl, rfl⟩
  case main =>
  have hs0 : ((0 : Nat) : Int) = 0 := rfl
  rintro ⟨y, e, m⟩ ⟨k1, kx, k2⟩
  simp only at kx k2; subst kx
  simp only [hs0] at k1
  simp only [F302, h302_4, go_sem, seval, bnd_ite, k1, k2]
  rfl
def pkStep (v : Int) (p : Bool × Nat) : Int := if p.1 then IntKind.i64.wrap (BitVec.ofInt IntKind.i64.bits v ||| BitVec.ofInt IntKind.i64.bits (IntKind.i64.wrap (1 * 2 ^ (Nat.min p.2 IntKind.i64.bits)))).toNat else v
def packI (l : List Bool) : Int := l.zipIdx.foldl pkStep 0
theorem e281 (l : List Bool) (hl : l.length ≤ 1048576) : E T 281 [.ro 1 (l.map bv)] [] = some (.int .i64 (packI l), []) := by
  rw [E_eq t281 (Nat.le_of_ble_eq_true rfl)]
  refine (XL_each (T := T) (b := 0) (hd := H281_3) (x := L281_3) l.zipIdx pkStep (fun i v => ⟨[(3, .int .i64 v), (6, .ro 1 (l.map bv)), (7, .int .i64 l.length), (8, .int .i64 (i : Nat))], []⟩) (fun _ _ => True)
    (fun v r => r.1 = .exit 0 ∧ lookA r.2.env 3 = .int .i64 v) ?step ?last 0 trivial).elim ?main
  case step =>
    rintro i v ⟨d, j⟩ he hi _
    obtain ⟨hd, hj⟩ := zip_at he
    simp only at hd hj; subst hj
    rw [List.length_zipIdx] at hi
    refine ⟨?_, trivial⟩
    have k1 : (j : Int) < (l.length : Int) := by omega
    have k2 : ¬ (j : Int) < 0 := by omega
    have gd : (l.map bv).getD j .undef = .bool d := gD_map hd
    have hw := w_i64 ((j : Int) + 1) (by omega)
    unfold pkStep
    cases d
    · simp only [XG, L281_3, h281_3, go_sem, seval, bnd_ite, k1, gd, hw, Int.natCast_nonneg, Bool.false_eq_true, if_false]
      first | done | rfl
    · simp only [XG, L281_3, h281_3, b_or, b_shl, go_sem, seval, bnd_ite, k1, k2, gd, hw, Int.natCast_nonneg, if_true, if_false]
      first | done | rfl
  case last =>
    intro v _
    rw [List.length_zipIdx]
    simp only [XG, L281_3, h281_3, go_sem, seval, bnd_ite, Int.lt_irrefl, decide_false]
    exact .mk (by simp) ⟨rfl, rfl⟩
  case main =>
  have hs0 : ((0 : Nat) : Int) = 0 := rfl
  rintro ⟨y, e, m⟩ ⟨k1, kx, k2⟩
  simp only at kx k2; subst kx
  simp only [hs0] at k1
  simp only [F281, h281_3, go_sem, seval, bnd_ite, k1, k2]
  rfl
theorem bits8 : ∀ a b c d e f g h : Bool, IntKind.u8.wrap (packI [a, b, c, d, e, f, g, h]) = byteI [a, b, c, d, e, f, g, h] ∧ IntKind.u8.wrap (byteI [a, b, c, d, e, f, g, h]) = byteI [a, b, c, d, e, f, g, h] := by decide +kernel
theorem bits_eq {l : List Bool} (h : l.length = 8) : UInt8.ofNat (byteI l).toNat = toB (packI l) := by
  match l, h with
  | [a, b, c, d, e, f, g, k], _ => unfold toB; rw [(bits8 a b c d e f g k).1]
def bitsT (u t : List Bool) : ByteArray := byteT [packI (u.take 8), packI (u.drop 8), packI t]
theorem e277 (u t : List Bool) : E T 277 [.agg [.ro 1 (u.map bv), .ro 1 (t.map bv)]] [] =
    some (.tup [.str (if decide (u.length = 16) && decide (t.length = 8) then bitsT u t else ⟨#[]⟩), .bool (decide (u.length = 16) && decide (t.length = 8))], []) := by
  rw [E_eq t277 (Nat.le_of_ble_eq_true rfl)]
  have e1 := e219 u t
  cases hc : decide (u.length = 16) && decide (t.length = 8) with
  | false =>
    rw [hc] at e1
    simp only [F277, go_sem, seval, bnd_ite, e1, Bool.not_false, if_true, Bool.false_eq_true, if_false]
  | true =>
    rw [hc] at e1
    simp only [Bool.and_eq_true, decide_eq_true_eq] at hc
    obtain ⟨h1, h2⟩ := hc
    have c1 := e302 (u.take 8) (by simp; omega)
    have c2 := e302 (u.drop 8) (by simp; omega)
    have c3 := e302 t (by omega)
    have l1 : (u.take 8).length = 8 := by simp; omega
    have l2 : (u.drop 8).length = 8 := by simp; omega
    have g1 : (u.map bv).take 8 = (u.take 8).map bv := by rw [List.map_take]
    have g2 : (u.map bv).drop 8 = (u.drop 8).map bv := by rw [List.map_drop]
    have k8 : (8 : Int) ≤ (u.length : Int) := by omega
    simp only [F277, go_sem, seval, bnd_ite, e1, g1, g2, c1, c2, c3, k8, Bool.not_true, Bool.false_eq_true, if_false, if_true]
    unfold bitsT byteT
    simp only [List.map_cons, List.map_nil, ← bits_eq l1, ← bits_eq l2, ← bits_eq h2]
    try rfl
theorem e253 (u t : List Bool) : E T 253 [.agg [.ro 1 (u.map bv), .ro 1 (t.map bv)]] [] =
    some (.tup [.str (if decide (u.length = 16) && decide (t.length = 8) then bitsT u t else ⟨#[]⟩), .bool (decide (u.length = 16) && decide (t.length = 8))], []) := by
  rw [E_eq t253 (Nat.le_of_ble_eq_true rfl)]
  have e1 := e225 u t
  cases hc : decide (u.length = 16) && decide (t.length = 8) with
  | false =>
    rw [hc] at e1
    simp only [F253, go_sem, seval, bnd_ite, e1, Bool.not_false, if_true, Bool.false_eq_true, if_false]
  | true =>
    rw [hc] at e1
    simp only [Bool.and_eq_true, decide_eq_true_eq] at hc
    obtain ⟨h1, h2⟩ := hc
    have c1 := e281 (u.take 8) (by simp; omega)
    have c2 := e281 (u.drop 8) (by simp; omega)
    have c3 := e281 t (by omega)
    have c4 := e280 [packI (u.take 8), packI (u.drop 8), packI t] (by simp)
    simp only [List.map_cons, List.map_nil, iv] at c4
    have g1 : (u.map bv).take 8 = (u.take 8).map bv := by rw [List.map_take]
    have g2 : (u.map bv).drop 8 = (u.drop 8).map bv := by rw [List.map_drop]
    have k8 : (8 : Int) ≤ (u.length : Int) := by omega
    simp only [F253, go_sem, seval, bnd_ite, e1, g1, g2, c1, c2, c3, c4, k8, Bool.not_true, Bool.false_eq_true, if_false, if_true]
    try rfl
end Go.Proofs.Ytaaajjinpppgeaa

/- The texts of blocks and of units. Own work; no condition. -/
set_option linter.unusedVariables false
set_option linter.unusedSimpArgs false
set_option linter.unusedSectionVars false
namespace Go.Proofs.Ytaaajjinpppgeaa
open Go Go.Abs
set_option maxRecDepth 100000
def slotT (s : Slt) : ByteArray := byteT [s.ino] ++ (byteT [(s.name.size : Int)] ++ s.name)
def slotsT (l : List Slt) : ByteArray := l.foldl (fun acc s => acc ++ slotT s) ⟨#[100]⟩
def blkT (x : Blk) : ByteArray := if x.dir then slotsT x.slots else ⟨#[116]⟩ ++ x.text
theorem slotOk_size {l : List Slt} {i : Nat} {s : Slt} (h : slotOk l i s = true) : s.name.size ≤ 6 := by
  unfold slotOk bare nameOk inside at h
  simp only [Bool.or_eq_true, Bool.and_eq_true, decide_eq_true_eq] at h
  rcases h with h | h
  · rw [h.1]; decide
  · omega
theorem one_byte (n : Int) : (⟨[UInt8.ofNat (IntKind.u8.wrap n).toNat].toArray⟩ : ByteArray) = byteT [n] := rfl
theorem e279 (x : Blk) (hk : x.ok) : E T 279 [blk x] [] = some (.tup [.str (if blkOk x then blkT x else ⟨#[]⟩), .bool (blkOk x)], []) := by
  rw [E_eq t279 (Nat.le_of_ble_eq_true rfl)]
  have e1 := e221 x hk
  cases hx : blkOk x with
  | false =>
    rw [hx] at e1
    unfold blk at e1
    simp only [blk, F279, go_sem, seval, bnd_ite, e1, Bool.not_false, if_true, Bool.false_eq_true, if_false]
  | true =>
    rw [hx] at e1
    unfold blk at e1
    cases hd : x.dir with
    | false =>
      rw [hd] at e1
      obtain ⟨_, h2⟩ := blkOk_txt hx hd
      unfold blkT
      simp only [blk, hd, F279, go_sem, seval, bnd_ite, e1, Bool.not_true, Bool.not_false, if_true, Bool.false_eq_true, if_false]
      rw [if_pos (by show (((1 : Nat) + x.text.size : Nat) : Int) ≤ _; omega)]
    | true =>
      rw [hd] at e1
      obtain ⟨h1, h2, h3⟩ := blkOk_dir hx hd
      obtain ⟨⟨y, e, m⟩, q1, qx, q2⟩ := XL_each (T := T) (b := 0) (hd := H279_7) (x := L279_7) x.slots (fun acc s => acc ++ slotT s) (fun i acc => ⟨[(1, .ptr 0 0 0), (4, .str acc), (5, .int .i64 (i : Nat))], [some (3, [.agg [.bool true, .ro 2 (x.slots.map slt), .str x.text]])]⟩)
        (fun i acc => acc.size ≤ 1 + 8 * i) (fun acc r => r.1 = .exit 0 ∧ lookA r.2.env 4 = .str acc) (by
          intro i acc s hs hi hI
          have hn := slotOk_size (h3 i s hs)
          have z1 := byteT_size [s.ino]
          have z2 := byteT_size [(s.name.size : Int)]
          simp only [List.length_cons, List.length_nil] at z1 z2
          refine ⟨?_, by unfold slotT; rw [ByteArray.size_append, ByteArray.size_append, ByteArray.size_append, z1, z2]; omega⟩
          have k1 : (i : Int) < 4 := by omega
          have gs : (x.slots.map slt).getD i .undef = .agg [.str s.name, .int .i64 s.ino] := gD_map hs
          have hw := w_i64 ((i : Int) + 1) (by omega)
          have e2 := e303 (s.name.size : Int) (by omega)
          have b1 : ((acc.size + (byteT [s.ino]).size : Nat) : Int) ≤ 9223372036854775807 := by omega
          have b2 : (((acc ++ byteT [s.ino]).size + (byteT [(s.name.size : Int)]).size : Nat) : Int) ≤ 9223372036854775807 := by rw [ByteArray.size_append]; omega
          have b3 : (((acc ++ byteT [s.ino] ++ byteT [(s.name.size : Int)]).size + s.name.size : Nat) : Int) ≤ 9223372036854775807 := by rw [ByteArray.size_append, ByteArray.size_append]; omega
          have k2 : (i : Int) < (x.slots.length : Int) := by omega
          simp only [XG, L279_7, h279_7, go_sem, seval, bnd_ite, k1, k2, gs, hw, e2, one_byte, Int.natCast_nonneg]
          rw [if_pos (by omega), if_pos (by omega), if_pos (by omega)]
          unfold slotT
          rw [ByteArray.append_assoc, ByteArray.append_assoc]; rfl) (by
          intro acc hI
          have k1 : ¬ ((x.slots.length : Nat) : Int) < 4 := by omega
          simp only [XG, L279_7, h279_7, go_sem, seval, bnd_ite, k1, decide_false, Bool.false_eq_true, if_false]
          exact .mk (by simp) ⟨rfl, rfl⟩) ⟨#[100]⟩ (by show (1 : Nat) ≤ _; omega)
      simp only at qx q2; subst qx
      have hs0 : ((0 : Nat) : Int) = 0 := rfl
      simp only [hs0] at q1
      unfold blkT slotsT
      simp only [blk, hd, F279, h279_7, go_sem, seval, bnd_ite, e1, q1, q2, Bool.not_true, Bool.not_false, if_true, Bool.false_eq_true, if_false]
theorem e254 (x : Blk) (hk : x.ok) : E T 254 [blk x] [] = some (.tup [.str (if blkOk x then blkT x else ⟨#[]⟩), .bool (blkOk x)], []) := by
  rw [E_eq t254 (Nat.le_of_ble_eq_true rfl)]
  have e1 := e224 x hk
  cases hx : blkOk x with
  | false =>
    rw [hx] at e1
    unfold blk at e1
    simp only [blk, F254, go_sem, seval, bnd_ite, e1, Bool.not_false, if_true, Bool.false_eq_true, if_false]
  | true =>
    rw [hx] at e1
    unfold blk at e1
    cases hd : x.dir with
    | false =>
      rw [hd] at e1
      obtain ⟨_, h2⟩ := blkOk_txt hx hd
      unfold blkT
      simp only [blk, hd, F254, go_sem, seval, bnd_ite, e1, Bool.not_true, Bool.not_false, if_true, Bool.false_eq_true, if_false]
      rw [if_pos (by show (((1 : Nat) + x.text.size : Nat) : Int) ≤ _; omega)]
    | true =>
      rw [hd] at e1
      obtain ⟨h1, h2, h3⟩ := blkOk_dir hx hd
      obtain ⟨⟨y, e, m⟩, q1, qx, q2⟩ := XL_each (T := T) (b := 0) (hd := H254_7) (x := L254_7) x.slots (fun acc s => acc ++ slotT s) (fun i acc => ⟨[(4, .str acc), (19, .ro 2 (x.slots.map slt)), (20, .int .i64 x.slots.length), (21, .int .i64 (i : Nat))], []⟩)
        (fun i acc => acc.size ≤ 1 + 8 * i) (fun acc r => r.1 = .exit 0 ∧ lookA r.2.env 4 = .str acc) (by
          intro i acc s hs hi hI
          have hn := slotOk_size (h3 i s hs)
          have z1 := byteT_size [s.ino]
          have z2 := byteT_size [(s.name.size : Int)]
          simp only [List.length_cons, List.length_nil] at z1 z2
          refine ⟨?_, by unfold slotT; rw [ByteArray.size_append, ByteArray.size_append, ByteArray.size_append, z1, z2]; omega⟩
          have gs : (x.slots.map slt).getD i .undef = .agg [.str s.name, .int .i64 s.ino] := gD_map hs
          have hw := w_i64 ((i : Int) + 1) (by omega)
          have e2 := e282 s.name (by omega)
          have e3 := e280 [s.ino] (by simp)
          simp only [List.map_cons, List.map_nil, iv] at e3
          have b1 : (((byteT [s.ino]).size + (byteT [(s.name.size : Int)] ++ s.name).size : Nat) : Int) ≤ 9223372036854775807 := by rw [ByteArray.size_append]; omega
          have b2 : ((acc.size + (byteT [s.ino] ++ (byteT [(s.name.size : Int)] ++ s.name)).size : Nat) : Int) ≤ 9223372036854775807 := by rw [ByteArray.size_append, ByteArray.size_append]; omega
          have k2 : (i : Int) < (x.slots.length : Int) := by omega
          simp only [XG, L254_7, h254_7, go_sem, seval, bnd_ite, k2, gs, hw, e2, e3, Int.natCast_nonneg]
          rw [if_pos (by omega), if_pos (by omega)]; rfl) (by
          intro acc hI
          simp only [XG, L254_7, h254_7, go_sem, seval, bnd_ite, Int.lt_irrefl, decide_false, Bool.false_eq_true, if_false]
          exact .mk (by simp) ⟨rfl, rfl⟩) ⟨#[100]⟩ (by show (1 : Nat) ≤ _; omega)
      simp only at qx q2; subst qx
      have hs0 : ((0 : Nat) : Int) = 0 := rfl
      simp only [hs0] at q1
      unfold blkT slotsT
      simp only [blk, hd, F254, h254_7, go_sem, seval, bnd_ite, e1, q1, q2, Bool.not_true, Bool.not_false, if_true, Bool.false_eq_true, if_false]
end Go.Proofs.Ytaaajjinpppgeaa

/- What is right: one that leans, by the program. Own work; no condition. -/
set_option linter.unusedVariables false
set_option linter.unusedSimpArgs false
set_option linter.unusedSectionVars false
namespace Go.Proofs.Ytaaajjinpppgeaa
open Go Go.Abs
set_option maxRecDepth 100000
theorem blkAt_eq {x : Dsk} {i : Int} {p : Blk} (h : x.blks[(i - 1).toNat]? = some p) : blkAt x i = p := by unfold blkAt; rw [List.getD_eq_getElem?_getD, h]; rfl
theorem inoAt_eq {x : Dsk} {i : Int} {p : Ino} (h : x.inos[(i - 1).toNat]? = some p) : inoAt x i = p := by unfold inoAt; rw [List.getD_eq_getElem?_getD, h]; rfl
structure DepBase (n : Int) (d : Dp) : Prop where
  id : 1 ≤ d.id ∧ d.id ≤ n - 1
  kind : 1 ≤ d.kind ∧ d.kind ≤ 6
  ino : 1 ≤ d.ino ∧ d.ino ≤ 8
  ptr : 0 ≤ d.ptr ∧ d.ptr ≤ 1
  block : 0 ≤ d.block ∧ d.block ≤ 16
  slot : 0 ≤ d.slot ∧ d.slot ≤ 3
  after : 0 ≤ d.after ∧ d.after ≤ n - 1
theorem depBase_iff {n : Int} {d : Dp} : depBase n d = true ↔ DepBase n d := by
  unfold depBase inside
  simp only [Bool.and_eq_true, decide_eq_true_eq]
  exact ⟨fun ⟨⟨⟨⟨⟨⟨a, b⟩, c⟩, d⟩, e⟩, f⟩, g⟩ => ⟨a, b, c, d, e, f, g⟩, fun ⟨a, b, c, d, e, f, g⟩ => ⟨⟨⟨⟨⟨⟨a, b⟩, c⟩, d⟩, e⟩, f⟩, g⟩⟩
theorem in156 (x : Mm) (d : Dp) (hk : d.ok) : ∃ r, XL T 0 H156_2 L156_2 ⟨[(2, .ptr 0 0 0), (3, .ptr 1 0 0), (10, .ro 1 (d.blocks.map iv)), (11, .int .i64 d.blocks.length), (12, .int .i64 0)], [some (7, [.agg (mmV x)]), some (11, [.agg (dpV d)])]⟩ = some r ∧
    (depBlocks d = true ∧ (r.1 = .exit 0 ∧ lookA r.2.env 2 = .ptr 0 0 0 ∧ lookA r.2.env 3 = .ptr 1 0 0 ∧ r.2.mem = [some (7, [.agg (mmV x)]), some (11, [.agg (dpV d)])]) ∨ depBlocks d = false ∧ (r.1 = .ret ∧ lookA r.2.env 4 = .bool false)) := by
  have hl := hk.2
  unfold maxLen at hl
  refine XL_all d.blocks (fun p => inside p 1 16) (fun i => ⟨[(2, .ptr 0 0 0), (3, .ptr 1 0 0), (10, .ro 1 (d.blocks.map iv)), (11, .int .i64 d.blocks.length), (12, .int .i64 (i : Nat))], [some (7, [.agg (mmV x)]), some (11, [.agg (dpV d)])]⟩)
    (fun r => r.1 = .exit 0 ∧ lookA r.2.env 2 = .ptr 0 0 0 ∧ lookA r.2.env 3 = .ptr 1 0 0 ∧ r.2.mem = [some (7, [.agg (mmV x)]), some (11, [.agg (dpV d)])]) (fun r => r.1 = .ret ∧ lookA r.2.env 4 = .bool false) ?step ?hit ?last
  case step =>
    intro i p hp hi hP _
    have hi1 : (i : Int) < (d.blocks.length : Int) := by omega
    have gp : (d.blocks.map iv).getD i .undef = .int .i64 p := gD_map hp
    have e1 := e226 p
    unfold mmV dpV
    simp only [XG, L156_2, h156_2, go_sem, seval, bnd_ite, hi1, gp, e1, hP, Int.natCast_nonneg, w_i64 ((i : Int) + 1) (by omega), Bool.not_true, Bool.false_eq_true, if_false]
    first | done | rfl
  case hit =>
    intro i p hp hi hP _
    have hi1 : (i : Int) < (d.blocks.length : Int) := by omega
    have gp : (d.blocks.map iv).getD i .undef = .int .i64 p := gD_map hp
    have e1 := e226 p
    unfold mmV dpV
    simp only [XG, L156_2, h156_2, go_sem, seval, bnd_ite, hi1, gp, e1, hP, Int.natCast_nonneg, w_i64 ((i : Int) + 1) (by omega), Bool.not_false, if_true]
    exact .mk (by simp) ⟨rfl, rfl⟩
  case last =>
    intro _
    unfold mmV dpV
    simp only [XG, L156_2, h156_2, go_sem, seval, bnd_ite, Int.lt_irrefl, decide_false]
    exact .mk (by simp) ⟨rfl, rfl, rfl, rfl⟩
set_option maxHeartbeats 1000000 in
theorem e156 (x : Mm) (d : Dp) (hk : d.ok) (hx : x.ok) (hd : DskOk x.disk) (hn : 1 ≤ x.next ∧ x.next ≤ 100000) : E T 156 [mm x, dp d] [] = some (.bool (depBlocks d && (depBase x.next d && depAt x.disk d)), []) := by
  rw [E_eq t156 (Nat.le_of_ble_eq_true rfl)]
  obtain ⟨⟨y, e, m⟩, k1, k2⟩ := in156 x d hk
  unfold mmV dpV at k1 k2
  rcases k2 with ⟨hb, kx, k3, k4, km⟩ | ⟨hb, kx, k3⟩
  case inr =>
    simp only at kx k3; subst kx
    simp only [mm, dp, F156, h156_2, go_sem, seval, bnd_ite, k1, k3, hb, Bool.false_and]
  simp only at kx k3 k4 km; subst kx; subst km
  have w1 := w_i64 (x.next - 1) (by omega)
  have i7 := e227 d.ino
  rw [hb, Bool.true_and]
  by_cases hc : depBase x.next d = true
  case neg =>
    have hc : depBase x.next d = false := Bool.eq_false_iff.2 hc
    have hf : (!(inside d.id 1 (x.next - 1) && inside d.after 0 (x.next - 1)) || !inside d.kind 1 6 || !inside d.ino 1 8 || !inside d.ptr 0 1 || !inside d.block 0 16 || !inside d.slot 0 3) = true := by
      unfold depBase at hc
      rw [← Bool.not_and, ← Bool.not_and, ← Bool.not_and, ← Bool.not_and, ← Bool.not_and, Bool.not_eq_true', ← hc]
      cases inside d.id 1 (x.next - 1) <;> cases inside d.after 0 (x.next - 1) <;> simp
    simp only [mm, dp, F156, h156_2, go_sem, seval, bnd_ite, k1, k3, k4, w1, e117i, i7, hf, hc, if_true, Bool.false_and]
  have hf : (!(inside d.id 1 (x.next - 1) && inside d.after 0 (x.next - 1)) || !inside d.kind 1 6 || !inside d.ino 1 8 || !inside d.ptr 0 1 || !inside d.block 0 16 || !inside d.slot 0 3) = false := by
    have h2 := hc
    unfold depBase at h2
    simp only [Bool.and_eq_true] at h2
    obtain ⟨⟨⟨⟨⟨⟨a, b⟩, c⟩, dd⟩, ee⟩, f⟩, g⟩ := h2
    rw [a, b, c, dd, ee, f, g]; rfl
  have B := depBase_iff.1 hc
  obtain ⟨b1, b2, b3, b4, b5, b6, b7⟩ := B
  have n1 := hd.inos
  have n2 := hd.blks
  obtain ⟨p, hp⟩ := get_at (show (d.ino - 1).toNat < x.disk.inos.length by omega)
  have ip := e176 x.disk d.ino (by omega) (by simp [inside]; omega) p hp
  have hpo := inoOk_iff.1 (hd.ino p (List.mem_of_getElem? hp))
  have ptwo := hpo.two
  have q6 := e228 d
  have q7 := e229 d
  have qn := e230 d.name hk.1
  have ai := inoAt_eq hp
  have blkO : ∃ B : AV, E T 149 [dsk x.disk, .int .i64 d.block] [] = some (B, []) ∧ (B = .agg [.bool false, .ro 2 [], .str ⟨#[]⟩] ∧ d.block = 0 ∨ ∃ b : Blk, B = blk b ∧ 0 < d.block ∧ x.disk.blks[(d.block - 1).toNat]? = some b) := by
    by_cases c : d.block = 0
    · exact ⟨_, e149n x.disk d.block (by simp [inside, c]), .inl ⟨rfl, c⟩⟩
    · obtain ⟨b, hb⟩ := get_at (show (d.block - 1).toNat < x.disk.blks.length by omega)
      exact ⟨_, e149 x.disk d.block (by omega) (by simp [inside]; omega) b hb, .inr ⟨b, rfl, by omega, hb⟩⟩
  obtain ⟨p0, hp0⟩ := get_at (show d.ptr.toNat < p.ptrs.length by omega)
  have gp0 : (p.ptrs.map iv).getD d.ptr.toNat .undef = .int .i64 p0 := gD_map hp0
  have c4 : d.ptr < (p.ptrs.length : Int) := by omega
  have c6 : 0 ≤ d.ptr := by omega
  have gd0 : p.ptrs.getD d.ptr.toNat 0 = p0 := getD_at hp0
  rw [hc, Bool.true_and]
  unfold depAt
  rw [ai, gd0]
  rw [show ino p = .agg [.int .i64 p.kind, .int .i64 p.links, .ro 1 (p.ptrs.map iv)] from rfl] at ip
  unfold dsk at ip
  unfold dp at q6 q7
  obtain ⟨B, hB, hB2⟩ := blkO
  unfold dsk at hB
  rcases hB2 with ⟨rfl, h0⟩ | ⟨b, rfl, h0, hb0⟩
  · -- no block
    have hz : ¬ 0 < d.block := by omega
    by_cases t1 : d.kind = 1 ∨ d.kind = 6
    · have u1 : (decide (d.kind = 1) || decide (d.kind = 6)) = true := by simpa using t1
      simp only [mm, dp, F156, h156_2, go_sem, seval, bnd_ite, k1, k3, k4, w1, e117i, i7, hf, hB, q6, u1, hz, t1, if_true, Bool.false_and, decide_false, Bool.false_eq_true, if_false]
    have u1 : (decide (d.kind = 1) || decide (d.kind = 6)) = false := by simpa using t1
    by_cases t2 : d.kind = 2 ∨ d.kind = 3
    · have u2 : (decide (d.kind = 2) || decide (d.kind = 3)) = true := by simpa using t2
      simp only [mm, dp, F156, h156_2, go_sem, seval, bnd_ite, k1, k3, k4, w1, e117i, i7, hf, hB, q6, q7, u1, u2, hz, t1, t2, if_true, Bool.false_and, decide_false, Bool.false_eq_true, if_false]
    have u2 : (decide (d.kind = 2) || decide (d.kind = 3)) = false := by simpa using t2
    rw [if_neg t1, if_neg t2]
    by_cases t3 : d.kind = 4
    · rw [if_pos t3]
      have t3 : decide (d.kind = 4) = true := by simpa using t3
      simp only [mm, dp, F156, h156_2, go_sem, seval, bnd_ite, k1, k3, k4, w1, e117i, i7, hf, hB, q6, q7, u1, u2, hz, t1, t2, t3, if_true, Bool.false_and, decide_false, decide_true, Bool.false_eq_true, if_false]
    · simp only [mm, dp, F156, h156_2, go_sem, seval, bnd_ite, k1, k3, k4, w1, e117i, i7, hf, hB, q6, q7, u1, u2, hz, t1, t2, t3, if_true, Bool.false_and, decide_false, decide_true, Bool.false_eq_true, if_false]
  · have bo := hd.blk b (List.mem_of_getElem? hb0)
    rw [blkAt_eq hb0]
    rw [show blk b = .agg [.bool b.dir, .ro 2 (b.slots.map slt), .str b.text] from rfl] at hB
    by_cases t1 : d.kind = 1 ∨ d.kind = 6
    · have u1 : (decide (d.kind = 1) || decide (d.kind = 6)) = true := by simpa using t1
      simp only [mm, dp, F156, h156_2, go_sem, seval, bnd_ite, k1, k3, k4, w1, e117i, i7, hf, hB, ip, gp0, c4, c6, q6, u1, h0, t1, if_true, Bool.true_and, decide_true, Bool.false_eq_true, if_false]
    have u1 : (decide (d.kind = 1) || decide (d.kind = 6)) = false := by simpa using t1
    by_cases t2 : d.kind = 2 ∨ d.kind = 3
    · have u2 : (decide (d.kind = 2) || decide (d.kind = 3)) = true := by simpa using t2
      cases bd : b.dir with
      | false =>
        simp only [mm, dp, F156, h156_2, go_sem, seval, bnd_ite, k1, k3, k4, w1, e117i, i7, hf, hB, bd, q6, q7, u1, u2, h0, t1, t2, if_true, Bool.false_and, Bool.true_and, decide_false, decide_true, Bool.and_false, Bool.false_eq_true, if_false]
      | true =>
        obtain ⟨s4, _, sO⟩ := blkOk_dir bo bd
        obtain ⟨s, hs⟩ := get_at (show d.slot.toNat < b.slots.length by omega)
        have gs : (b.slots.map slt).getD d.slot.toNat .undef = .agg [.str s.name, .int .i64 s.ino] := gD_map hs
        have gs0 : b.slots.getD d.slot.toNat slt0 = s := getD_at hs
        have c7 : d.slot < (b.slots.length : Int) := by omega
        have c8 : 0 ≤ d.slot := by omega
        rw [gs0]
        have hso := sO _ s hs
        by_cases ne : s.name = ⟨#[]⟩
        · have : s.ino ≠ d.ino := by
            unfold slotOk bare at hso
            have nk : nameOk s.name = false := by rw [ne]; rfl
            rw [nk] at hso
            simp [ne] at hso
            omega
          simp only [mm, dp, F156, h156_2, go_sem, seval, bnd_ite, k1, k3, k4, w1, e117i, i7, hf, hB, bd, q6, q7, u1, u2, h0, t1, t2, gs, c7, c8, ne, this, if_true, Bool.false_and, Bool.true_and, decide_false, decide_true, Bool.not_true, Bool.and_false, Bool.and_self, Bool.false_eq_true, if_false]
        · simp only [mm, dp, F156, h156_2, go_sem, seval, bnd_ite, k1, k3, k4, w1, e117i, i7, hf, hB, bd, q6, q7, u1, u2, h0, t1, t2, gs, c7, c8, ne, if_true, Bool.false_and, Bool.true_and, decide_false, decide_true, Bool.not_false, Bool.and_self, Bool.false_eq_true, if_false]
    have u2 : (decide (d.kind = 2) || decide (d.kind = 3)) = false := by simpa using t2
    rw [if_neg t1, if_neg t2]
    by_cases t3 : d.kind = 4
    · rw [if_pos t3]
      have t3 : decide (d.kind = 4) = true := by simpa using t3
      simp only [mm, dp, F156, h156_2, go_sem, seval, bnd_ite, k1, k3, k4, w1, e117i, i7, hf, hB, q6, q7, qn, u1, u2, h0, t1, t2, t3, if_true, Bool.true_and, decide_true, Bool.false_eq_true, if_false]
    · simp only [mm, dp, F156, h156_2, go_sem, seval, bnd_ite, k1, k3, k4, w1, e117i, i7, hf, hB, q6, q7, u1, u2, h0, t1, t2, t3, if_true, Bool.false_and, decide_false, decide_true, Bool.false_eq_true, if_false]
end Go.Proofs.Ytaaajjinpppgeaa

/- What is right: one that leans, by the reference. Own work; no condition. -/
set_option linter.unusedVariables false
set_option linter.unusedSimpArgs false
set_option linter.unusedSectionVars false
namespace Go.Proofs.Ytaaajjinpppgeaa
open Go Go.Abs
set_option maxRecDepth 100000
theorem in154a (x : Mm) (d : Dp) (j : Nat) (hk : d.ok) : ∃ r, XL T 0 H154_5 L154_5 ⟨[(1, .int .i64 j), (2, .ptr 0 0 0), (5, .ptr 1 0 0), (6, .int .i64 0)], [some (7, [.agg (mmV x)]), some (11, [.agg (dpV d)])]⟩ = some r ∧
    (depBlocks d = true ∧ (r.1 = .exit 0 ∧ lookA r.2.env 1 = .int .i64 j ∧ lookA r.2.env 2 = .ptr 0 0 0 ∧ lookA r.2.env 5 = .ptr 1 0 0 ∧ r.2.mem = [some (7, [.agg (mmV x)]), some (11, [.agg (dpV d)])]) ∨ depBlocks d = false ∧ (r.1 = .ret ∧ lookA r.2.env 4 = .bool false)) := by
  have hl := hk.2
  unfold maxLen at hl
  refine XL_all d.blocks (fun p => inside p 1 16) (fun i => ⟨[(1, .int .i64 j), (2, .ptr 0 0 0), (5, .ptr 1 0 0), (6, .int .i64 (i : Nat))], [some (7, [.agg (mmV x)]), some (11, [.agg (dpV d)])]⟩)
    (fun r => r.1 = .exit 0 ∧ lookA r.2.env 1 = .int .i64 j ∧ lookA r.2.env 2 = .ptr 0 0 0 ∧ lookA r.2.env 5 = .ptr 1 0 0 ∧ r.2.mem = [some (7, [.agg (mmV x)]), some (11, [.agg (dpV d)])]) (fun r => r.1 = .ret ∧ lookA r.2.env 4 = .bool false) ?step ?hit ?last
  case step =>
    intro i p hp hi hP _
    have hi1 : (i : Int) < (d.blocks.length : Int) := by omega
    have gp : (d.blocks.map iv).getD i .undef = .int .i64 p := gD_map hp
    unfold mmV dpV
    simp only [XG, L154_5, h154_5, go_sem, seval, bnd_ite, hi1, gp, e116i, hP, Int.natCast_nonneg, w_i64 ((i : Int) + 1) (by omega), Bool.not_true, Bool.false_eq_true, if_false]
    first | done | rfl
  case hit =>
    intro i p hp hi hP _
    have hi1 : (i : Int) < (d.blocks.length : Int) := by omega
    have gp : (d.blocks.map iv).getD i .undef = .int .i64 p := gD_map hp
    unfold mmV dpV
    simp only [XG, L154_5, h154_5, go_sem, seval, bnd_ite, hi1, gp, e116i, hP, Int.natCast_nonneg, w_i64 ((i : Int) + 1) (by omega), Bool.not_false, if_true]
    exact .mk (by simp) ⟨rfl, rfl⟩
  case last =>
    intro _
    unfold mmV dpV
    simp only [XG, L154_5, h154_5, go_sem, seval, bnd_ite, Int.lt_irrefl, decide_false]
    exact .mk (by simp) ⟨rfl, rfl, rfl, rfl, rfl⟩
theorem in154b (x : Mm) (d : Dp) (j : Nat) (hj : j ≤ x.deps.length) (hl : x.deps.length ≤ 1048576) : ∃ r, XL T 0 H154_11 L154_11 ⟨[(1, .int .i64 j), (2, .ptr 0 0 0), (5, .ptr 1 0 0), (7, .int .i64 0)], [some (7, [.agg (mmV x)]), some (11, [.agg (dpV d)])]⟩ = some r ∧
    (newId x.deps j d = true ∧ (r.1 = .exit 2 ∧ lookA r.2.env 2 = .ptr 0 0 0 ∧ lookA r.2.env 5 = .ptr 1 0 0 ∧ r.2.mem = [some (7, [.agg (mmV x)]), some (11, [.agg (dpV d)])]) ∨ newId x.deps j d = false ∧ (r.1 = .ret ∧ lookA r.2.env 4 = .bool false)) := by
  have hlt : (x.deps.take j).length = j := by rw [List.length_take]; omega
  refine XL_all (x.deps.take j) (fun q => !decide (q.id = d.id)) (fun i => ⟨[(1, .int .i64 j), (2, .ptr 0 0 0), (5, .ptr 1 0 0), (7, .int .i64 (i : Nat))], [some (7, [.agg (mmV x)]), some (11, [.agg (dpV d)])]⟩)
    (fun r => r.1 = .exit 2 ∧ lookA r.2.env 2 = .ptr 0 0 0 ∧ lookA r.2.env 5 = .ptr 1 0 0 ∧ r.2.mem = [some (7, [.agg (mmV x)]), some (11, [.agg (dpV d)])]) (fun r => r.1 = .ret ∧ lookA r.2.env 4 = .bool false) ?step ?hit ?last
  case step =>
    intro i p hp hi hP _
    rw [hlt] at hi
    rw [List.getElem?_take_of_lt hi] at hp
    have hi1 : (i : Int) < (j : Int) := by omega
    have hi2 : (i : Int) < (x.deps.length : Int) := by omega
    have gp : (x.deps.map dp).getD i .undef = .agg (dpV p) := gD_map hp
    have hP : decide (p.id = d.id) = false := by simpa using hP
    unfold mmV dpV
    unfold dpV at gp
    simp only [XG, L154_11, h154_11, go_sem, seval, bnd_ite, hi1, hi2, gp, hP, Int.natCast_nonneg, w_i64 ((i : Int) + 1) (by omega), Bool.false_eq_true, if_false]
    first | done | rfl
  case hit =>
    intro i p hp hi hP _
    rw [hlt] at hi
    rw [List.getElem?_take_of_lt hi] at hp
    have hi1 : (i : Int) < (j : Int) := by omega
    have hi2 : (i : Int) < (x.deps.length : Int) := by omega
    have gp : (x.deps.map dp).getD i .undef = .agg (dpV p) := gD_map hp
    have hP : decide (p.id = d.id) = true := by simpa using hP
    unfold mmV dpV
    unfold dpV at gp
    simp only [XG, L154_11, h154_11, go_sem, seval, bnd_ite, hi1, hi2, gp, hP, Int.natCast_nonneg, w_i64 ((i : Int) + 1) (by omega), if_true]
    exact .mk (by simp) ⟨rfl, rfl⟩
  case last =>
    intro _
    unfold mmV dpV
    simp only [XG, L154_11, h154_11, go_sem, seval, bnd_ite, hlt, Int.lt_irrefl, decide_false]
    exact .mk (by simp) ⟨rfl, rfl, rfl, rfl⟩
set_option maxHeartbeats 1000000 in
theorem e154 (x : Mm) (j : Nat) (d : Dp) (hj : x.deps[j]? = some d) (hl : x.deps.length ≤ 1048576) (hx : x.ok) (hd : DskOk x.disk) (hn : 1 ≤ x.next ∧ x.next ≤ 100000) : E T 154 [mm x, .int .i64 j] [] = some (.bool (depBlocks d && (depBase x.next d && depAt x.disk d) && newId x.deps j d), []) := by
  rw [E_eq t154 (Nat.le_of_ble_eq_true rfl)]
  have hk := hx.dep d (List.mem_of_getElem? hj)
  have hjl := (List.getElem?_eq_some_iff.1 hj).1
  have gd : (x.deps.map dp).getD j .undef = .agg (dpV d) := gD_map hj
  unfold dpV at gd
  have j1 : (j : Int) < (x.deps.length : Int) := by omega
  have w1 := w_i64 (x.next - 1) (by omega)
  have j2 : (0 : Int) ≤ (j : Int) := Int.natCast_nonneg j
  by_cases hc : depBase x.next d = true
  case neg =>
    have hc : depBase x.next d = false := Bool.eq_false_iff.2 hc
    have hf : (!inside d.id 1 (x.next - 1) || !inside d.kind 1 6 || !inside d.ino 1 8 || !inside d.ptr 0 1 || !inside d.block 0 16 || !inside d.slot 0 3 || !inside d.after 0 (x.next - 1)) = true := by
      unfold depBase at hc
      rw [← Bool.not_and, ← Bool.not_and, ← Bool.not_and, ← Bool.not_and, ← Bool.not_and, ← Bool.not_and, hc]; rfl
    simp only [mm, F154, h154_5, go_sem, seval, bnd_ite, j1, j2, gd, w1, e116i, hf, hc, if_true, Bool.false_and, Bool.and_false]
  have hf : (!inside d.id 1 (x.next - 1) || !inside d.kind 1 6 || !inside d.ino 1 8 || !inside d.ptr 0 1 || !inside d.block 0 16 || !inside d.slot 0 3 || !inside d.after 0 (x.next - 1)) = false := by
    have h2 := hc
    unfold depBase at h2
    rw [← Bool.not_and, ← Bool.not_and, ← Bool.not_and, ← Bool.not_and, ← Bool.not_and, ← Bool.not_and, h2]; rfl
  rw [hc, Bool.true_and]
  obtain ⟨⟨y, e, m⟩, k1, k2⟩ := in154a x d j hk
  unfold mmV dpV at k1 k2
  rcases k2 with ⟨hb, kx, ki, k3, k4, km⟩ | ⟨hb, kx, k3⟩
  case inr =>
    simp only at kx k3; subst kx
    simp only [mm, F154, h154_5, go_sem, seval, bnd_ite, j1, j2, gd, w1, e116i, hf, k1, k3, hb, Bool.false_and, Bool.false_eq_true, if_false]
  simp only at kx ki k3 k4 km; subst kx; subst km
  obtain ⟨⟨y, e', m⟩, l1, l2⟩ := in154b x d j (by omega) hl
  unfold mmV dpV at l1 l2
  rcases l2 with ⟨hw, kx, l3, l4, km⟩ | ⟨hw, kx, l3⟩
  case inr =>
    simp only at kx l3; subst kx
    simp only [mm, F154, h154_5, h154_11, go_sem, seval, bnd_ite, j1, j2, gd, w1, e116i, hf, k1, ki, k3, k4, l1, l3, hb, hw, Bool.and_false, Bool.false_eq_true, if_false]
  simp only at kx l3 l4 km; subst kx; subst km
  rw [hb, hw, Bool.true_and, Bool.and_true]
  have B := depBase_iff.1 hc
  obtain ⟨b1, b2, b3, b4, b5, b6, b7⟩ := B
  have n1 := hd.inos
  have n2 := hd.blks
  obtain ⟨p, hp⟩ := get_at (show (d.ino - 1).toNat < x.disk.inos.length by omega)
  have gi : (x.disk.inos.map ino).getD (d.ino - 1).toNat .undef = .agg [.int .i64 p.kind, .int .i64 p.links, .ro 1 (p.ptrs.map iv)] := gD_map hp
  have i1 : 0 ≤ d.ino - 1 := by omega
  have i2 : d.ino - 1 < (x.disk.inos.length : Int) := by omega
  have w2 := w_i64 (d.ino - 1) (by omega)
  have w3 := w_i64 (d.block - 1) (by omega)
  have hpo := inoOk_iff.1 (hd.ino p (List.mem_of_getElem? hp))
  have ptwo := hpo.two
  have qn := e222 d.name hk.1
  have ai := inoAt_eq hp
  obtain ⟨p0, hp0⟩ := get_at (show d.ptr.toNat < p.ptrs.length by omega)
  have gp0 : (p.ptrs.map iv).getD d.ptr.toNat .undef = .int .i64 p0 := gD_map hp0
  have c4 : d.ptr < (p.ptrs.length : Int) := by omega
  have c6 : 0 ≤ d.ptr := by omega
  have gd0 : p.ptrs.getD d.ptr.toNat 0 = p0 := getD_at hp0
  unfold depAt
  rw [ai, gd0]
  by_cases h0 : 0 < d.block
  case neg =>
    by_cases t1 : d.kind = 1
    · have t : d.kind = 1 ∨ d.kind = 6 := .inl t1
      rw [if_pos t]
      have t1 : decide (d.kind = 1) = true := by simpa using t1
      simp only [mm, F154, h154_5, h154_11, go_sem, seval, bnd_ite, j1, j2, gd, w1, e116i, hf, k1, ki, k3, k4, l1, l3, l4, t1, h0, if_true, decide_false, Bool.false_and, Bool.false_eq_true, if_false]
    have d1 : decide (d.kind = 1) = false := by simpa using t1
    by_cases t2 : d.kind = 6
    · have t : d.kind = 1 ∨ d.kind = 6 := .inr t2
      rw [if_pos t]
      have t2 : decide (d.kind = 6) = true := by simpa using t2
      simp only [mm, F154, h154_5, h154_11, go_sem, seval, bnd_ite, j1, j2, gd, w1, e116i, hf, k1, ki, k3, k4, l1, l3, l4, d1, t2, h0, if_true, decide_false, Bool.false_and, Bool.false_eq_true, if_false]
    have d2 : decide (d.kind = 6) = false := by simpa using t2
    rw [if_neg (show ¬ (d.kind = 1 ∨ d.kind = 6) by omega)]
    by_cases t3 : d.kind = 2
    · rw [if_pos (.inl t3)]
      have t3 : decide (d.kind = 2) = true := by simpa using t3
      simp only [mm, F154, h154_5, h154_11, go_sem, seval, bnd_ite, j1, j2, gd, w1, e116i, hf, k1, ki, k3, k4, l1, l3, l4, d1, d2, t3, h0, if_true, decide_false, Bool.false_and, Bool.false_eq_true, if_false]
    have d3 : decide (d.kind = 2) = false := by simpa using t3
    by_cases t4 : d.kind = 3
    · rw [if_pos (.inr t4)]
      have t4 : decide (d.kind = 3) = true := by simpa using t4
      simp only [mm, F154, h154_5, h154_11, go_sem, seval, bnd_ite, j1, j2, gd, w1, e116i, hf, k1, ki, k3, k4, l1, l3, l4, d1, d2, d3, t4, h0, if_true, decide_false, Bool.false_and, Bool.false_eq_true, if_false]
    have d4 : decide (d.kind = 3) = false := by simpa using t4
    rw [if_neg (show ¬ (d.kind = 2 ∨ d.kind = 3) by omega)]
    by_cases t5 : d.kind = 4
    · rw [if_pos t5]
      have t5 : decide (d.kind = 4) = true := by simpa using t5
      simp only [mm, F154, h154_5, h154_11, go_sem, seval, bnd_ite, j1, j2, gd, w1, e116i, hf, k1, ki, k3, k4, l1, l3, l4, d1, d2, d3, d4, t5, h0, if_true, decide_false, Bool.false_and, Bool.false_eq_true, if_false]
    · rw [if_neg t5]
      have d5 : decide (d.kind = 4) = false := by simpa using t5
      simp only [mm, F154, h154_5, h154_11, go_sem, seval, bnd_ite, j1, j2, gd, w1, e116i, hf, k1, ki, k3, k4, l1, l3, l4, d1, d2, d3, d4, d5, h0, if_true, decide_false, Bool.false_and, Bool.false_eq_true, if_false]
  obtain ⟨b, hb0⟩ := get_at (show (d.block - 1).toNat < x.disk.blks.length by omega)
  have gb : (x.disk.blks.map blk).getD (d.block - 1).toNat .undef = .agg [.bool b.dir, .ro 2 (b.slots.map slt), .str b.text] := gD_map hb0
  have r1 : 0 ≤ d.block - 1 := by omega
  have r2 : d.block - 1 < (x.disk.blks.length : Int) := by omega
  have bo := hd.blk b (List.mem_of_getElem? hb0)
  rw [blkAt_eq hb0]
  by_cases t1 : d.kind = 1
  · have t : d.kind = 1 ∨ d.kind = 6 := .inl t1
    rw [if_pos t]
    have t1 : decide (d.kind = 1) = true := by simpa using t1
    simp only [mm, F154, h154_5, h154_11, go_sem, seval, bnd_ite, j1, j2, gd, w1, w2, gi, i1, i2, gp0, c4, c6, e116i, hf, k1, ki, k3, k4, l1, l3, l4, t1, h0, if_true, decide_true, Bool.true_and, Bool.false_eq_true, if_false]
  have d1 : decide (d.kind = 1) = false := by simpa using t1
  by_cases t2 : d.kind = 6
  · have t : d.kind = 1 ∨ d.kind = 6 := .inr t2
    rw [if_pos t]
    have t2 : decide (d.kind = 6) = true := by simpa using t2
    simp only [mm, F154, h154_5, h154_11, go_sem, seval, bnd_ite, j1, j2, gd, w1, w2, gi, i1, i2, gp0, c4, c6, e116i, hf, k1, ki, k3, k4, l1, l3, l4, d1, t2, h0, if_true, decide_true, Bool.true_and, Bool.false_eq_true, if_false]
  have d2 : decide (d.kind = 6) = false := by simpa using t2
  rw [if_neg (show ¬ (d.kind = 1 ∨ d.kind = 6) by omega)]
  have side : b.dir = true → ∃ s, b.slots[d.slot.toNat]? = some s := fun bd => by
    obtain ⟨s4, _, _⟩ := blkOk_dir bo bd
    exact get_at (by omega)
  have slen : b.dir = true → d.slot < (b.slots.length : Int) := fun bd => by
    obtain ⟨s4, _, _⟩ := blkOk_dir bo bd
    omega
  have c8 : 0 ≤ d.slot := by omega
  by_cases t3 : d.kind = 2
  · rw [if_pos (.inl t3)]
    have t3 : decide (d.kind = 2) = true := by simpa using t3
    cases bd : b.dir with
    | false => simp only [mm, F154, h154_5, h154_11, go_sem, seval, bnd_ite, j1, j2, gd, w1, w3, gb, r1, r2, bd, e116i, hf, k1, ki, k3, k4, l1, l3, l4, d1, d2, t3, h0, if_true, decide_true, Bool.true_and, Bool.false_and, Bool.and_false, Bool.false_eq_true, if_false]
    | true =>
      obtain ⟨s, hs⟩ := side bd
      have gs : (b.slots.map slt).getD d.slot.toNat .undef = .agg [.str s.name, .int .i64 s.ino] := gD_map hs
      have c7 := slen bd
      rw [show b.slots.getD d.slot.toNat slt0 = s from getD_at hs]
      simp only [mm, F154, h154_5, h154_11, go_sem, seval, bnd_ite, j1, j2, gd, w1, w3, gb, r1, r2, bd, gs, c7, c8, e116i, hf, k1, ki, k3, k4, l1, l3, l4, d1, d2, t3, h0, if_true, decide_true, Bool.true_and, Bool.false_and, Bool.and_false, Bool.false_eq_true, if_false]
  have d3 : decide (d.kind = 2) = false := by simpa using t3
  by_cases t4 : d.kind = 3
  · rw [if_pos (.inr t4)]
    have t4 : decide (d.kind = 3) = true := by simpa using t4
    cases bd : b.dir with
    | false => simp only [mm, F154, h154_5, h154_11, go_sem, seval, bnd_ite, j1, j2, gd, w1, w3, gb, r1, r2, bd, e116i, hf, k1, ki, k3, k4, l1, l3, l4, d1, d2, d3, t4, h0, if_true, decide_true, Bool.true_and, Bool.false_and, Bool.and_false, Bool.false_eq_true, if_false]
    | true =>
      obtain ⟨s, hs⟩ := side bd
      have gs : (b.slots.map slt).getD d.slot.toNat .undef = .agg [.str s.name, .int .i64 s.ino] := gD_map hs
      have c7 := slen bd
      rw [show b.slots.getD d.slot.toNat slt0 = s from getD_at hs]
      simp only [mm, F154, h154_5, h154_11, go_sem, seval, bnd_ite, j1, j2, gd, w1, w3, gb, r1, r2, bd, gs, c7, c8, e116i, hf, k1, ki, k3, k4, l1, l3, l4, d1, d2, d3, t4, h0, if_true, decide_true, Bool.true_and, Bool.false_and, Bool.and_false, Bool.false_eq_true, if_false]
  have d4 : decide (d.kind = 3) = false := by simpa using t4
  rw [if_neg (show ¬ (d.kind = 2 ∨ d.kind = 3) by omega)]
  by_cases t5 : d.kind = 4
  · rw [if_pos t5]
    have t5 : decide (d.kind = 4) = true := by simpa using t5
    simp only [mm, F154, h154_5, h154_11, go_sem, seval, bnd_ite, j1, j2, gd, w1, w3, gb, r1, r2, qn, e116i, hf, k1, ki, k3, k4, l1, l3, l4, d1, d2, d3, d4, t5, h0, if_true, decide_true, Bool.true_and, Bool.false_and, Bool.false_eq_true, if_false]
  · rw [if_neg t5]
    have d5 : decide (d.kind = 4) = false := by simpa using t5
    simp only [mm, F154, h154_5, h154_11, go_sem, seval, bnd_ite, j1, j2, gd, w1, e116i, hf, k1, ki, k3, k4, l1, l3, l4, d1, d2, d3, d4, d5, h0, if_true, decide_false, Bool.false_and, Bool.false_eq_true, if_false]
end Go.Proofs.Ytaaajjinpppgeaa

/- What is right: memories; MemOk. Own work; no condition. -/
set_option linter.unusedVariables false
set_option linter.unusedSimpArgs false
set_option linter.unusedSectionVars false
namespace Go.Proofs.Ytaaajjinpppgeaa
open Go Go.Abs
set_option maxRecDepth 100000
def depRight (x : Mm) (p : Dp × Nat) : Bool := depBlocks p.1 && (depBase x.next p.1 && depAt x.disk p.1) && newId x.deps p.2 p.1
def memHead (x : Mm) : Bool := dskOk x.disk && decide (x.dirty.length = 21) && decide (x.deps.length ≤ 40) && inside x.next 1 100000
def memOk (x : Mm) : Bool := memHead x && x.deps.zipIdx.all (depRight x)
theorem memHead_use {x : Mm} (h : memHead x = true) : DskOk x.disk ∧ x.dirty.length = 21 ∧ x.deps.length ≤ 40 ∧ 1 ≤ x.next ∧ x.next ≤ 100000 := by
  unfold memHead inside at h
  simp only [Bool.and_eq_true, decide_eq_true_eq, dskOk_iff] at h
  exact ⟨h.1.1.1, h.1.1.2, h.1.2, h.2⟩
theorem headN (x : Mm) : (!dskOk x.disk || !decide ((x.dirty.length : Int) = 21) || decide ((40 : Int) < x.deps.length) || !inside x.next 1 100000) = !memHead x := by
  unfold memHead
  have c1 : decide ((x.dirty.length : Int) = 21) = decide (x.dirty.length = 21) := by congr 1; apply propext; omega
  have c2 : decide ((40 : Int) < x.deps.length) = !decide (x.deps.length ≤ 40) := by
    by_cases h : x.deps.length ≤ 40
    · have : ¬ (40 : Int) < x.deps.length := by omega
      simp [h, this]
    · have : (40 : Int) < x.deps.length := by omega
      simp [h, this]
  rw [c1, c2, ← Bool.not_and, ← Bool.not_and, ← Bool.not_and]
theorem e59 (x : Mm) (hx : x.ok) : E T 59 [mm x] [] = some (.bool (memOk x), []) := by
  rw [E_eq t59 (Nat.le_of_ble_eq_true rfl)]
  have e0 := e153 x.disk hx.disk
  have hN := headN x
  unfold dsk at e0
  unfold memOk
  cases hh : memHead x with
  | false =>
    rw [hh] at hN
    simp only [mm, F59, h59_4, go_sem, seval, bnd_ite, e0, e116i, hN, if_true, Bool.not_false, Bool.false_and]
  | true =>
  rw [hh, Bool.not_true] at hN
  obtain ⟨hd, h1, h2, h3⟩ := memHead_use hh
  rw [Bool.true_and]
  refine (XL_all (T := T) (b := 0) (hd := H59_4) (x := L59_4) x.deps.zipIdx (depRight x) (fun i => ⟨[(1, .ptr 0 0 0), (3, .int .i64 (i : Nat))], [some (7, [.agg (mmV x)])]⟩)
    (fun r => r.1 = .exit 0) (fun r => r.1 = .ret ∧ lookA r.2.env 2 = .bool false) ?step ?hit ?last).elim ?main
  case step =>
    rintro i ⟨d, j⟩ hp hi hP _
    obtain ⟨hp, hj⟩ := zip_at hp
    simp only at hp hj; subst hj
    rw [List.length_zipIdx] at hi
    have hi1 : (j : Int) < (x.deps.length : Int) := by omega
    have e1 := e154 x j d hp (by omega) hx hd h3
    unfold depRight at hP
    rw [hP] at e1
    unfold mm at e1
    unfold mmV
    simp only [XG, L59_4, h59_4, go_sem, seval, bnd_ite, hi1, e1, Int.natCast_nonneg, w_i64 ((j : Int) + 1) (by omega), Bool.not_true, Bool.false_eq_true, if_false]
    first | done | rfl
  case hit =>
    rintro i ⟨d, j⟩ hp hi hP _
    obtain ⟨hp, hj⟩ := zip_at hp
    simp only at hp hj; subst hj
    rw [List.length_zipIdx] at hi
    have hi1 : (j : Int) < (x.deps.length : Int) := by omega
    have e1 := e154 x j d hp (by omega) hx hd h3
    unfold depRight at hP
    rw [hP] at e1
    unfold mm at e1
    unfold mmV
    simp only [XG, L59_4, h59_4, go_sem, seval, bnd_ite, hi1, e1, Int.natCast_nonneg, w_i64 ((j : Int) + 1) (by omega), Bool.not_false, if_true]
    exact .mk (by simp) ⟨rfl, rfl⟩
  case last =>
    intro _
    unfold mmV
    simp only [XG, L59_4, h59_4, go_sem, seval, bnd_ite, List.length_zipIdx, Int.lt_irrefl, decide_false]
    exact .mk (by simp) rfl
  case main =>
  rintro ⟨y, e, m⟩ ⟨k1, k2⟩
  have hs : ((0 : Nat) : Int) = 0 := rfl
  unfold mmV at k1
  simp only [hs] at k1
  rcases k2 with ⟨h, k2⟩ | ⟨h, k2, k3⟩ <;> simp only at k2 <;> subst k2
  · simp only [mm, F59, h59_4, go_sem, seval, bnd_ite, e0, e116i, hN, k1, h, Bool.false_eq_true, if_false]
  · simp only at k3
    simp only [mm, F59, h59_4, go_sem, seval, bnd_ite, e0, e116i, hN, k1, k3, h, Bool.false_eq_true, if_false]
theorem e60 (x : Mm) (hx : x.ok) : E T 60 [mm x] [] = some (.bool (memOk x), []) := by
  rw [E_eq t60 (Nat.le_of_ble_eq_true rfl)]
  have e0 := e155 x.disk hx.disk
  have hN := headN x
  unfold dsk at e0
  unfold memOk
  cases hh : memHead x with
  | false =>
    rw [hh] at hN
    simp only [mm, F60, h60_4, go_sem, seval, bnd_ite, e0, e117i, hN, if_true, Bool.not_false, Bool.false_and]
  | true =>
  rw [hh, Bool.not_true] at hN
  obtain ⟨hd, h1, h2, h3⟩ := memHead_use hh
  rw [Bool.true_and]
  refine (XL_all (T := T) (b := 0) (hd := H60_4) (x := L60_4) x.deps.zipIdx (depRight x) (fun i => ⟨[(1, .ptr 0 0 0), (28, .ro 11 (x.deps.map dp)), (29, .int .i64 x.deps.length), (30, .int .i64 (i : Nat))], [some (7, [.agg (mmV x)])]⟩)
    (fun r => r.1 = .exit 0) (fun r => r.1 = .ret ∧ lookA r.2.env 2 = .bool false) ?step ?hit ?last).elim ?main
  case step =>
    rintro i ⟨d, j⟩ hp hi hP _
    obtain ⟨hp, hj⟩ := zip_at hp
    simp only at hp hj; subst hj
    rw [List.length_zipIdx] at hi
    have hi1 : (j : Int) < (x.deps.length : Int) := by omega
    have gd : (x.deps.map dp).getD j .undef = .agg (dpV d) := gD_map hp
    have e1 : E T 156 [.agg (mmV x), .agg (dpV d)] [] = _ := e156 x d (hx.dep d (List.mem_of_getElem? hp)) hx hd h3
    have e2 := e157 x d.id hx.deps
    unfold depRight at hP
    rw [Bool.and_eq_true] at hP
    have e3 := (placeOf_at hp).2 hP.2
    rw [hP.1] at e1
    rw [e3] at e2
    unfold mm at e2
    unfold mmV dpV at e1
    unfold dpV at gd
    unfold mmV
    simp only [XG, L60_4, h60_4, go_sem, seval, bnd_ite, hi1, gd, e1, e2, Int.natCast_nonneg, w_i64 ((j : Int) + 1) (by omega), decide_true, Bool.not_true, Bool.or_self, Bool.false_eq_true, if_false]
    first | done | rfl
  case hit =>
    rintro i ⟨d, j⟩ hp hi hP _
    obtain ⟨hp, hj⟩ := zip_at hp
    simp only at hp hj; subst hj
    rw [List.length_zipIdx] at hi
    have hi1 : (j : Int) < (x.deps.length : Int) := by omega
    have gd : (x.deps.map dp).getD j .undef = .agg (dpV d) := gD_map hp
    have e1 : E T 156 [.agg (mmV x), .agg (dpV d)] [] = _ := e156 x d (hx.dep d (List.mem_of_getElem? hp)) hx hd h3
    have e2 := e157 x d.id hx.deps
    have hf : (!(depBlocks d && (depBase x.next d && depAt x.disk d)) || !decide (placeOf x.deps d.id = (j : Nat))) = true := by
      unfold depRight at hP
      have : decide (placeOf x.deps d.id = (j : Nat)) = newId x.deps j d := by
        have := placeOf_at hp
        cases h : newId x.deps j d with
        | true => simpa using this.2 h
        | false => simp only [decide_eq_false_iff_not]; intro hh; rw [this.1 hh] at h; cases h
      rw [this, ← Bool.not_and, hP]; rfl
    unfold mm at e2
    unfold mmV dpV at e1
    unfold dpV at gd
    unfold mmV
    simp only [XG, L60_4, h60_4, go_sem, seval, bnd_ite, hi1, gd, e1, e2, hf, Int.natCast_nonneg, w_i64 ((j : Int) + 1) (by omega), if_true]
    exact .mk (by simp) ⟨rfl, rfl⟩
  case last =>
    intro _
    unfold mmV
    simp only [XG, L60_4, h60_4, go_sem, seval, bnd_ite, List.length_zipIdx, Int.lt_irrefl, decide_false]
    exact .mk (by simp) rfl
  case main =>
  rintro ⟨y, e, m⟩ ⟨k1, k2⟩
  have hs : ((0 : Nat) : Int) = 0 := rfl
  unfold mmV at k1
  simp only [hs] at k1
  rcases k2 with ⟨h, k2⟩ | ⟨h, k2, k3⟩ <;> simp only at k2 <;> subst k2
  · simp only [mm, F60, h60_4, go_sem, seval, bnd_ite, e0, e117i, hN, k1, h, Bool.false_eq_true, if_false]
  · simp only at k3
    simp only [mm, F60, h60_4, go_sem, seval, bnd_ite, e0, e117i, hN, k1, k3, h, Bool.false_eq_true, if_false]
end Go.Proofs.Ytaaajjinpppgeaa

/- The code of some functions, as the evaluator reads it (printed by a program of ours), checked against the program. Own work; no condition. -/
set_option linter.unusedVariables false
set_option linter.unusedSimpArgs false
set_option linter.unusedSectionVars false
namespace Go.Proofs.Ytaaajjinpppgeaa
open Go Go.Abs
set_option maxRecDepth 100000
-- impl.isUnit
def F118 : EF := ⟨(.seq (.region [(.op .mv [(.const (.bool false))] (some 2) true)] false) (.seq (.region [(.op .mv [(.tmp 0)] (some 3) true), (.pc (.const (.fn 117 [])) [(.tmp 3), (.const (.int .i64 0)), (.const (.int .i64 20))] (some 4) true), (.op .mv [(.tmp 4)] (some 2) true)] false) .ret)), [(.tmp 2)], 5, .one, none⟩
theorem t118 : T 118 = some F118 := tab Try.func118 (by kernel_rfl) rfl
-- laws.FnExactFsNew
-- spec.FsNew
-- impl.FsNew
-- laws.markFs
-- laws.heldFs
-- spec.DeviceOf
-- spec.DiskNew
-- impl.DiskNew
-- impl.DeviceOf
-- laws.markDevice
-- laws.heldDevice
-- spec.BitsNew
-- impl.BitsNew
-- laws.markStringS
-- laws.heldStringS
end Go.Proofs.Ytaaajjinpppgeaa

/- The text of a unit. Own work; no condition. -/
set_option linter.unusedVariables false
set_option linter.unusedSimpArgs false
set_option linter.unusedSectionVars false
namespace Go.Proofs.Ytaaajjinpppgeaa
open Go Go.Abs
set_option maxRecDepth 100000
def unitT (x : Dsk) (u : Int) : ByteArray :=
  if u = 0 then bitsT x.used x.taken
  else if u ≤ 4 then inoT (x.inos.getD (2 * u - 2).toNat ino0) ++ inoT (x.inos.getD (2 * u - 1).toNat ino0)
  else blkT (x.blks.getD (u - 5).toNat blk0)
theorem inoT_size {x : Ino} (h : inoOk x = true) : (inoT x).size = 4 := by
  have := (inoOk_iff.1 h).two
  unfold inoT
  rw [byteT_size]; simp; omega
theorem e248 (x : Dsk) (hk : x.ok) (hx : DskOk x) (u : Int) (hu : 0 ≤ u ∧ u ≤ 20) : E T 248 [dsk x, .int .i64 u] [] = some (.str (unitT x u), []) := by
  rw [E_eq t248 (Nat.le_of_ble_eq_true rfl)]
  unfold unitT
  have n1 := hx.inos
  have n2 := hx.blks
  by_cases c0 : u = 0
  · subst c0
    have e1 := e277 x.used x.taken
    rw [hx.used, hx.taken] at e1
    simp only [decide_true, Bool.and_self, if_true] at e1
    simp only [dsk, F248, go_sem, seval, bnd_ite, e1, decide_true, if_true]
  rw [if_neg c0]
  have d0 : decide (u = 0) = false := decide_eq_false c0
  by_cases c1 : u ≤ 4
  · rw [if_pos c1]
    obtain ⟨a, ha⟩ := get_at (show (2 * u - 2).toNat < x.inos.length by omega)
    obtain ⟨b, hb⟩ := get_at (show (2 * u - 1).toNat < x.inos.length by omega)
    have oa := hx.ino a (List.mem_of_getElem? ha)
    have ob := hx.ino b (List.mem_of_getElem? hb)
    have ea := e278 a (hk.ino a (List.mem_of_getElem? ha))
    have eb := e278 b (hk.ino b (List.mem_of_getElem? hb))
    rw [oa, if_pos rfl] at ea
    rw [ob, if_pos rfl] at eb
    rw [getD_at ha, getD_at hb]
    have ga : (x.inos.map ino).getD (2 * u - 2).toNat .undef = .agg [.int .i64 a.kind, .int .i64 a.links, .ro 1 (a.ptrs.map iv)] := gD_map ha
    have gb : (x.inos.map ino).getD (2 * u - 1).toNat .undef = .agg [.int .i64 b.kind, .int .i64 b.links, .ro 1 (b.ptrs.map iv)] := gD_map hb
    unfold ino at ea eb
    have i1 : 0 ≤ 2 * u - 2 := by omega
    have i2 : 0 ≤ 2 * u - 1 := by omega
    have i3 : 2 * u - 2 < (x.inos.length : Int) := by omega
    have i4 : 2 * u - 1 < (x.inos.length : Int) := by omega
    have sa := inoT_size oa
    have sb := inoT_size ob
    have d1 : decide (u ≤ 4) = true := decide_eq_true c1
    simp only [dsk, F248, go_sem, seval, bnd_ite, d0, d1, ea, eb, ga, gb, i1, i2, i3, i4, sa, sb, w_i64 (2 * u) (by omega), w_i64 (2 * u - 2) (by omega), w_i64 (2 * u - 1) (by omega), Bool.false_eq_true, if_false, if_true]
    first | done | (rw [if_pos (by decide)])
  · rw [if_neg c1]
    obtain ⟨a, ha⟩ := get_at (show (u - 5).toNat < x.blks.length by omega)
    have oa := hx.blk a (List.mem_of_getElem? ha)
    have ea := e279 a (hk.blk a (List.mem_of_getElem? ha))
    rw [oa, if_pos rfl] at ea
    rw [getD_at ha]
    have ga : (x.blks.map blk).getD (u - 5).toNat .undef = .agg [.bool a.dir, .ro 2 (a.slots.map slt), .str a.text] := gD_map ha
    unfold blk at ea
    have i1 : 0 ≤ u - 5 := by omega
    have i3 : u - 5 < (x.blks.length : Int) := by omega
    have d1 : decide (u ≤ 4) = false := decide_eq_false c1
    simp only [dsk, F248, go_sem, seval, bnd_ite, d0, d1, ea, ga, i1, i3, w_i64 (u - 5) (by omega), Bool.false_eq_true, if_false]
def unitOk (x : Dsk) (u : Int) : Bool := dskOk x && inside u 0 20
theorem e118i (x : Int) : E T 118 [.int .i64 x] [] = some (.bool (inside x 0 20), []) := by
  rw [E_eq t118 (Nat.le_of_ble_eq_true rfl)]; simp only [F118, go_sem, seval, e117i]
theorem e198 (x : Dsk) (hk : x.ok) (u : Int) : E T 198 [dsk x, .int .i64 u] [] = some (.tup [.str (if unitOk x u then unitT x u else ⟨#[]⟩), .bool (unitOk x u)], []) := by
  rw [E_eq t198 (Nat.le_of_ble_eq_true rfl)]
  have e1 := e153 x hk
  unfold unitOk
  cases hd : dskOk x with
  | false =>
    rw [hd] at e1
    unfold dsk at e1
    simp only [dsk, F198, go_sem, seval, bnd_ite, e1, Bool.not_false, Bool.false_and, if_true, Bool.false_eq_true, if_false]
  | true =>
    rw [hd] at e1
    unfold dsk at e1
    cases hi : inside u 0 20 with
    | false => simp only [dsk, F198, go_sem, seval, bnd_ite, e1, e116i, hi, Bool.not_false, Bool.not_true, Bool.and_false, if_true, Bool.false_eq_true, if_false]
    | true =>
      have hb := hi
      simp only [inside, Bool.and_eq_true, decide_eq_true_eq] at hb
      have e2 := e248 x hk (dskOk_iff.1 hd) u hb
      unfold dsk at e2
      simp only [dsk, F198, go_sem, seval, bnd_ite, e1, e2, e116i, hi, Bool.not_true, Bool.and_self, if_true, Bool.false_eq_true, if_false]
set_option maxHeartbeats 1000000 in
theorem e200 (x : Dsk) (hk : x.ok) (u : Int) : E T 200 [dsk x, .int .i64 u] [] = some (.tup [.str (if unitOk x u then unitT x u else ⟨#[]⟩), .bool (unitOk x u)], []) := by
  rw [E_eq t200 (Nat.le_of_ble_eq_true rfl)]
  have e1 := e155 x hk
  unfold unitOk
  cases hd : dskOk x with
  | false =>
    rw [hd] at e1
    unfold dsk at e1
    simp only [dsk, F200, go_sem, seval, bnd_ite, e1, Bool.not_false, Bool.false_and, if_true, Bool.false_eq_true, if_false]
  | true =>
    rw [hd] at e1
    unfold dsk at e1
    cases hi : inside u 0 20 with
    | false => simp only [dsk, F200, go_sem, seval, bnd_ite, e1, e118i, hi, Bool.not_false, Bool.not_true, Bool.and_false, if_true, Bool.false_eq_true, if_false]
    | true =>
      have hu := hi
      simp only [inside, Bool.and_eq_true, decide_eq_true_eq] at hu
      have hx := dskOk_iff.1 hd
      have n1 := hx.inos
      have n2 := hx.blks
      unfold unitT
      by_cases c0 : u = 0
      · subst c0
        have e2 := e253 x.used x.taken
        rw [hx.used, hx.taken] at e2
        simp only [decide_true, Bool.and_self, if_true] at e2
        simp only [dsk, F200, go_sem, seval, bnd_ite, e1, e2, e118i, hi, decide_true, Bool.not_true, Bool.and_self, Bool.false_eq_true, if_false, if_true]
      rw [if_neg c0]
      have d0 : decide (u = 0) = false := decide_eq_false c0
      by_cases c1 : u ≤ 4
      · rw [if_pos c1]
        obtain ⟨a, ha⟩ := get_at (show (2 * u - 2).toNat < x.inos.length by omega)
        obtain ⟨b, hb⟩ := get_at (show (2 * u - 1).toNat < x.inos.length by omega)
        have oa := hx.ino a (List.mem_of_getElem? ha)
        have ob := hx.ino b (List.mem_of_getElem? hb)
        have ea := e255 a (hk.ino a (List.mem_of_getElem? ha))
        have eb := e255 b (hk.ino b (List.mem_of_getElem? hb))
        rw [oa, if_pos rfl] at ea
        rw [ob, if_pos rfl] at eb
        rw [getD_at ha, getD_at hb]
        have ga : (x.inos.map ino).getD (2 * u - 2).toNat .undef = .agg [.int .i64 a.kind, .int .i64 a.links, .ro 1 (a.ptrs.map iv)] := gD_map ha
        have gb : (x.inos.map ino).getD (2 * u - 1).toNat .undef = .agg [.int .i64 b.kind, .int .i64 b.links, .ro 1 (b.ptrs.map iv)] := gD_map hb
        unfold ino at ea eb
        have i1 : 0 ≤ 2 * u - 2 := by omega
        have i2 : 0 ≤ 2 * u - 1 := by omega
        have i3 : 2 * u - 2 < (x.inos.length : Int) := by omega
        have i4 : 2 * u - 1 < (x.inos.length : Int) := by omega
        have sa := inoT_size oa
        have sb := inoT_size ob
        have d1 : decide (5 ≤ u) = false := decide_eq_false (by omega)
        simp only [dsk, F200, go_sem, seval, bnd_ite, e1, e118i, hi, d0, d1, ea, eb, ga, gb, i1, i2, i3, i4, sa, sb, w_i64 (2 * u) (by omega), w_i64 (2 * u - 2) (by omega), w_i64 (2 * u - 1) (by omega), Bool.not_true, Bool.and_self, Bool.false_eq_true, if_false, if_true]
        first | done | (rw [if_pos (by decide)])
      · rw [if_neg c1]
        obtain ⟨a, ha⟩ := get_at (show (u - 5).toNat < x.blks.length by omega)
        have oa := hx.blk a (List.mem_of_getElem? ha)
        have ea := e254 a (hk.blk a (List.mem_of_getElem? ha))
        rw [oa, if_pos rfl] at ea
        rw [getD_at ha]
        have ga : (x.blks.map blk).getD (u - 5).toNat .undef = .agg [.bool a.dir, .ro 2 (a.slots.map slt), .str a.text] := gD_map ha
        unfold blk at ea
        have i1 : 0 ≤ u - 5 := by omega
        have i3 : u - 5 < (x.blks.length : Int) := by omega
        have d1 : decide (5 ≤ u) = true := decide_eq_true (by omega)
        simp only [dsk, F200, go_sem, seval, bnd_ite, e1, e118i, hi, d0, d1, ea, ga, i1, i3, w_i64 (u - 5) (by omega), Bool.not_true, Bool.and_self, Bool.false_eq_true, if_false, if_true]
end Go.Proofs.Ytaaajjinpppgeaa

/- ImageInode: the loops. Own work; no condition. -/
set_option linter.unusedVariables false
set_option linter.unusedSimpArgs false
set_option linter.unusedSectionVars false
namespace Go.Proofs.Ytaaajjinpppgeaa
open Go Go.Abs
set_option maxRecDepth 100000
theorem foldl_take' {α β : Type} {f : β → α → β} {l : List α} {i : Nat} {x : α} {a : β} (h : l[i]? = some x) : (l.take (i + 1)).foldl f a = f ((l.take i).foldl f a) x := by
  rw [take_snoc h, List.foldl_append]; rfl
theorem set_map' {α : Type} {f : α → AV} {l : List α} {i : Nat} {x : α} : (l.map f).set i (f x) = (l.set i x).map f := by rw [List.map_set]
def imStep (i : Int) (ps : List Int) (d : Dp) : List Int := if (d.kind = 1 ∧ d.ino = i) ∧ 0 ≤ d.ptr ∧ d.ptr < (ps.length : Int) then ps.set d.ptr.toNat 0 else ps
theorem imStep_len (i : Int) (ps : List Int) (d : Dp) : (imStep i ps d).length = ps.length := by unfold imStep; split <;> simp
theorem imFold_len (i : Int) (l : List Dp) : ∀ ps : List Int, (l.foldl (imStep i) ps).length = ps.length := by
  induction l with
  | nil => intro ps; rfl
  | cons d l ih => intro ps; rw [List.foldl_cons, ih, imStep_len]
theorem in49 (deps : List Dp) (hl : deps.length ≤ 1048576) (i a b : Int) (ps : List Int) (hp : ps.length ≤ 1048576) :
    ∃ e m, XL T 0 H49_5 L49_5 ⟨[(1, .int .i64 i), (4, .ptr 0 0 0), (5, .ptr 1 0 0), (25, .ro 11 (deps.map dp)), (26, .int .i64 deps.length), (27, .int .i64 0)],
        [some (3, [.agg [.int .i64 0, .int .i64 0, .nil]]), some (3, [.agg [.int .i64 a, .int .i64 b, .sl 2 0 ps.length]]), some (1, ps.map iv)]⟩ = some (.exit 0, ⟨e, [some (3, [.agg [.int .i64 0, .int .i64 0, .nil]]), some (3, [.agg [.int .i64 a, .int .i64 b, .sl 2 0 ps.length]]), some (1, (deps.foldl (imStep i) ps).map iv)] ++ m⟩) ∧
      lookA e 4 = .ptr 0 0 0 ∧ lookA e 5 = .ptr 1 0 0 := by
  refine (XL_inv (T := T) (b := 0) (hd := H49_5) (x := L49_5) (β := List Int) (fun j q => ⟨[(1, .int .i64 i), (4, .ptr 0 0 0), (5, .ptr 1 0 0), (25, .ro 11 (deps.map dp)), (26, .int .i64 deps.length), (27, .int .i64 (j : Nat))],
        [some (3, [.agg [.int .i64 0, .int .i64 0, .nil]]), some (3, [.agg [.int .i64 a, .int .i64 b, .sl 2 0 ps.length]]), some (1, q.map iv)]⟩)
    (fun j q => q = (deps.take j).foldl (imStep i) ps) deps.length (fun r => r.1 = .exit 0 ∧ (∃ m, r.2.mem = [some (3, [.agg [.int .i64 0, .int .i64 0, .nil]]), some (3, [.agg [.int .i64 a, .int .i64 b, .sl 2 0 ps.length]]), some (1, (deps.foldl (imStep i) ps).map iv)] ++ m) ∧
      lookA r.2.env 4 = .ptr 0 0 0 ∧ lookA r.2.env 5 = .ptr 1 0 0) ?step ?last 0 ps (by omega) rfl).elim ?main
  case step =>
    intro j q hj hI
    obtain ⟨d, hd⟩ := get_at hj
    have hj1 : (j : Int) < (deps.length : Int) := by omega
    have hql : q.length = ps.length := by rw [hI]; exact imFold_len ..
    have gd : (deps.map dp).getD j .undef = .agg [.int .i64 d.id, .int .i64 d.kind, .int .i64 d.ino, .int .i64 d.ptr, .int .i64 d.block, .int .i64 d.slot, .str d.name, .bool d.bits, .bool d.other, .int .i64 d.after, .ro 1 (d.blocks.map iv)] := gD_map hd
    left
    refine ⟨imStep i q d, ?_, by rw [foldl_take' hd, hI]⟩
    unfold imStep
    by_cases hc : (d.kind = 1 ∧ d.ino = i) ∧ 0 ≤ d.ptr ∧ d.ptr < (q.length : Int)
    · rw [if_pos hc]
      obtain ⟨⟨c1, c2⟩, c3, c4⟩ := hc
      rw [hql] at c4
      have c5 : d.ptr ≤ (ps.length : Int) - 1 := by omega
      have c6 : d.ptr.toNat < ps.length := by omega
      obtain ⟨x0, hx0⟩ := get_at (show d.ptr.toNat < q.length by omega)
      have gq : (q.map iv).getD d.ptr.toNat .undef = .int .i64 x0 := gD_map hx0
      have sm : (q.map iv).set d.ptr.toNat (.int .i64 0) = (q.set d.ptr.toNat 0).map iv := set_map' (f := iv) (x := (0 : Int))
      simp only [XG, L49_5, h49_5, go_sem, seval, bnd_ite, hj1, gd, gq, sm, hql, e117i, inside, c1, c2, c3, c4, c5, c6, Int.natCast_nonneg, w_i64 ((j : Int) + 1) (by omega), w_i64 ((ps.length : Int) - 1) (by omega), decide_true, Bool.and_self]
      rfl
    · rw [if_neg hc]
      have hf : (decide (d.kind = 1) && decide (d.ino = i) && (decide (0 ≤ d.ptr) && decide (d.ptr ≤ (ps.length : Int) - 1))) = false := by
        rw [← Bool.not_eq_true]
        intro h
        simp only [Bool.and_eq_true, decide_eq_true_eq] at h
        exact hc ⟨h.1, h.2.1, by omega⟩
      simp only [XG, L49_5, h49_5, go_sem, seval, bnd_ite, hj1, gd, hql, e117i, inside, Int.natCast_nonneg, w_i64 ((j : Int) + 1) (by omega), w_i64 ((ps.length : Int) - 1) (by omega), hf, Bool.false_eq_true, if_false]
      rfl
  case last =>
    intro q hI
    rw [List.take_length] at hI
    simp only [XG, L49_5, h49_5, go_sem, seval, bnd_ite, Int.lt_irrefl, decide_false]
    exact .mk (by simp) ⟨rfl, ⟨[], by rw [← hI]⟩, rfl, rfl⟩
  case main =>
  rintro ⟨x, e, m⟩ ⟨h1, h2, h3, ⟨m', h4⟩, h5⟩
  simp only at h3 h4; subst h3; subst h4
  exact ⟨e, m', h1, h5⟩
end Go.Proofs.Ytaaajjinpppgeaa

/- ImageBlock: the program's loop. Own work; no condition. -/
set_option linter.unusedVariables false
set_option linter.unusedSimpArgs false
set_option linter.unusedSectionVars false
namespace Go.Proofs.Ytaaajjinpppgeaa
open Go Go.Abs
set_option maxRecDepth 100000
theorem in55 (deps : List Dp) (hl : deps.length ≤ 1048576) (i : Int) (a : Bool) (b : ByteArray) (ps : List Slt) (hp : ps.length ≤ 1048576) :
    ∃ e m, XL T 0 H55_3 L55_3 ⟨[(1, .int .i64 i), (4, .ptr 0 0 0), (5, .ptr 1 0 0), (14, .ro 11 (deps.map dp)), (15, .int .i64 deps.length), (16, .int .i64 0)],
        [some (3, [.agg [.bool false, .nil, .str ⟨#[]⟩]]), some (3, [.agg [.bool a, .sl 2 0 ps.length, .str b]]), some (2, ps.map slt)]⟩ = some (.exit 0, ⟨e, [some (3, [.agg [.bool false, .nil, .str ⟨#[]⟩]]), some (3, [.agg [.bool a, .sl 2 0 ps.length, .str b]]), some (2, (deps.foldl (ibStep i) ps).map slt)] ++ m⟩) ∧
      lookA e 4 = .ptr 0 0 0 ∧ lookA e 5 = .ptr 1 0 0 := by
  refine (XL_inv (T := T) (b := 0) (hd := H55_3) (x := L55_3) (β := List Slt) (fun j q => ⟨[(1, .int .i64 i), (4, .ptr 0 0 0), (5, .ptr 1 0 0), (14, .ro 11 (deps.map dp)), (15, .int .i64 deps.length), (16, .int .i64 (j : Nat))],
        [some (3, [.agg [.bool false, .nil, .str ⟨#[]⟩]]), some (3, [.agg [.bool a, .sl 2 0 ps.length, .str b]]), some (2, q.map slt)]⟩)
    (fun j q => q = (deps.take j).foldl (ibStep i) ps) deps.length (fun r => r.1 = .exit 0 ∧ (∃ m, r.2.mem = [some (3, [.agg [.bool false, .nil, .str ⟨#[]⟩]]), some (3, [.agg [.bool a, .sl 2 0 ps.length, .str b]]), some (2, (deps.foldl (ibStep i) ps).map slt)] ++ m) ∧
      lookA r.2.env 4 = .ptr 0 0 0 ∧ lookA r.2.env 5 = .ptr 1 0 0) ?step ?last 0 ps (by omega) rfl).elim ?main
  case step =>
    intro j q hj hI
    obtain ⟨d, hd⟩ := get_at hj
    have hj1 : (j : Int) < (deps.length : Int) := by omega
    have hql : q.length = ps.length := by rw [hI]; exact ibFold_len ..
    have gd : (deps.map dp).getD j .undef = .agg [.int .i64 d.id, .int .i64 d.kind, .int .i64 d.ino, .int .i64 d.ptr, .int .i64 d.block, .int .i64 d.slot, .str d.name, .bool d.bits, .bool d.other, .int .i64 d.after, .ro 1 (d.blocks.map iv)] := gD_map hd
    left
    refine ⟨ibStep i q d, ?_, by rw [foldl_take' hd, hI]⟩
    unfold ibStep
    by_cases hc : d.block = i ∧ 0 ≤ d.slot ∧ d.slot < (q.length : Int)
    · rw [if_pos hc]
      obtain ⟨c1, c3, c4⟩ := hc
      rw [hql] at c4
      have c5 : d.slot ≤ (ps.length : Int) - 1 := by omega
      have c6 : d.slot.toNat < ps.length := by omega
      obtain ⟨x0, hx0⟩ := get_at (show d.slot.toNat < q.length by omega)
      have gq : (q.map slt).getD d.slot.toNat .undef = .agg [.str x0.name, .int .i64 x0.ino] := gD_map hx0
      have sm : ∀ x : Slt, (q.map slt).set d.slot.toNat (.agg [.str x.name, .int .i64 x.ino]) = (q.set d.slot.toNat x).map slt := fun x => set_map' (f := slt) (x := x)
      have s0 := sm ⟨⟨#[]⟩, 0⟩
      have s1 := sm ⟨d.name, d.ino⟩
      simp only at s0 s1
      by_cases k2 : d.kind = 2
      · simp only [XG, L55_3, h55_3, go_sem, seval, bnd_ite, hj1, gd, gq, s0, s1, hql, e117i, inside, c1, k2, c3, c4, c5, c6, Int.natCast_nonneg, w_i64 ((j : Int) + 1) (by omega), w_i64 ((ps.length : Int) - 1) (by omega), decide_true, Bool.and_self, Bool.not_true]
        rfl
      by_cases k4 : d.kind = 4
      · by_cases ha : 0 < d.after
        · simp only [XG, L55_3, h55_3, go_sem, seval, bnd_ite, hj1, gd, gq, s0, s1, hql, e117i, inside, c1, k4, ha, c3, c4, c5, c6, Int.natCast_nonneg, w_i64 ((j : Int) + 1) (by omega), w_i64 ((ps.length : Int) - 1) (by omega), decide_true, Bool.and_self, Bool.not_true]
          rfl
        · simp only [XG, L55_3, h55_3, go_sem, seval, bnd_ite, hj1, gd, gq, s0, s1, hql, e117i, inside, c1, k4, ha, c3, c4, c5, c6, Int.natCast_nonneg, w_i64 ((j : Int) + 1) (by omega), w_i64 ((ps.length : Int) - 1) (by omega), decide_true, Bool.and_self, Bool.not_true]
          rfl
      · simp only [XG, L55_3, h55_3, go_sem, seval, bnd_ite, hj1, gd, gq, s0, s1, hql, e117i, inside, c1, k2, k4, c3, c4, c5, c6, Int.natCast_nonneg, w_i64 ((j : Int) + 1) (by omega), w_i64 ((ps.length : Int) - 1) (by omega), decide_true, decide_false, Bool.and_self, Bool.not_true]
        rfl
    · rw [if_neg hc]
      have hf : (!decide (d.block = i) || !(decide (0 ≤ d.slot) && decide (d.slot ≤ (ps.length : Int) - 1))) = true := by
        rw [← Bool.not_and, Bool.not_eq_true', ← Bool.not_eq_true]
        intro h
        simp only [Bool.and_eq_true, decide_eq_true_eq] at h
        exact hc ⟨h.1, h.2.1, by omega⟩
      simp only [XG, L55_3, h55_3, go_sem, seval, bnd_ite, hj1, gd, hql, e117i, inside, Int.natCast_nonneg, w_i64 ((j : Int) + 1) (by omega), w_i64 ((ps.length : Int) - 1) (by omega), hf, if_true]
      rfl
  case last =>
    intro q hI
    rw [List.take_length] at hI
    simp only [XG, L55_3, h55_3, go_sem, seval, bnd_ite, Int.lt_irrefl, decide_false]
    exact .mk (by simp) ⟨rfl, ⟨[], by rw [← hI]⟩, rfl, rfl⟩
  case main =>
  rintro ⟨x, e, m⟩ ⟨h1, h2, h3, ⟨m', h4⟩, h5⟩
  simp only at h3 h4; subst h3; subst h4
  exact ⟨e, m', h1, h5⟩
end Go.Proofs.Ytaaajjinpppgeaa

/- ImageInode: what both come to. Own work; no condition. -/
set_option linter.unusedVariables false
set_option linter.unusedSimpArgs false
set_option linter.unusedSectionVars false
namespace Go.Proofs.Ytaaajjinpppgeaa
open Go Go.Abs
set_option maxRecDepth 100000
def imageIno (x : Mm) (i : Int) : Ino := if inside i 1 x.disk.inos.length then
    (match x.disk.inos[(i - 1).toNat]? with
    | some p => ⟨p.kind, p.links, x.deps.foldl (imStep i) p.ptrs⟩
    | none => ⟨0, 0, [0, 0]⟩)
  else ⟨0, 0, [0, 0]⟩
theorem e49 (x : Mm) (h : x.sm) (i : Int) (hi : -9223372036854775808 ≤ i ∧ i ≤ 9223372036854775807) : E T 49 [mm x, .int .i64 i] [] = some (inoO (imageIno x i), []) := by
  rw [E_eq t49 (Nat.le_of_ble_eq_true rfl)]
  have hin := h.disk.inos
  have hdp := h.deps
  unfold imageIno
  by_cases hc : inside i 1 x.disk.inos.length = true
  · have hc' := hc
    simp only [inside, Bool.and_eq_true, decide_eq_true_eq] at hc'
    obtain ⟨p, hp⟩ := get_at (show (i - 1).toNat < x.disk.inos.length by omega)
    have gp : (x.disk.inos.map ino).getD (i - 1).toNat .undef = .agg [.int .i64 p.kind, .int .i64 p.links, .ro 1 (p.ptrs.map iv)] := gD_map hp
    have hps := h.disk.ino p (List.mem_of_getElem? hp)
    have e1 := e144 p hps
    obtain ⟨e, m, k1, k2, k3⟩ := in49 x.deps hdp i p.kind p.links p.ptrs hps
    have b1 : 0 ≤ i - 1 := by omega
    have b2 : i - 1 < (x.disk.inos.length : Int) := by omega
    have hfl := imFold_len i x.deps p.ptrs
    rw [if_pos hc, hp]
    show _ = some (inoO ⟨p.kind, p.links, x.deps.foldl (imStep i) p.ptrs⟩, [])
    unfold ino inoO at e1
    generalize hF : x.deps.foldl (imStep i) p.ptrs = F at *
    have htk : (List.map iv F).take p.ptrs.length = List.map iv F := List.take_of_length_le (by simp [hfl])
    simp only [mm, F49, h49_5, go_sem, seval, bnd_ite, e117i, hc, gp, e1, b1, b2, w_i64 (i - 1) (by omega), k1, k2, k3, inoO, hfl, htk]
  · have hc : inside i 1 x.disk.inos.length = false := by simpa using hc
    simp only [mm, F49, h49_5, go_sem, seval, bnd_ite, e117i, hc, e143, inoO, iv]
end Go.Proofs.Ytaaajjinpppgeaa

/- ImageInode: what the reference's comes to. Own work; no condition. -/
set_option linter.unusedVariables false
set_option linter.unusedSimpArgs false
set_option linter.unusedSectionVars false
namespace Go.Proofs.Ytaaajjinpppgeaa
open Go Go.Abs
set_option maxRecDepth 100000
theorem in48 (x : Mm) (hl : x.deps.length ≤ 1048576) (i a b : Int) (ps : List Int) (hp : ps.length ≤ 1048576) :
    ∃ e m, XL T 0 H48_5 L48_5 ⟨[(1, .int .i64 i), (2, .ptr 0 0 0), (4, .ptr 1 0 0), (5, .ptr 2 0 0), (6, .int .i64 0)],
        [some (7, [.agg [.ro 1 (x.disk.used.map bv), .ro 1 (x.disk.taken.map bv), .ro 3 (x.disk.inos.map ino), .ro 3 (x.disk.blks.map blk), .ro 1 (x.dirty.map bv), .ro 11 (x.deps.map dp), .int .i64 x.next]]), some (3, [.agg [.int .i64 0, .int .i64 0, .nil]]), some (3, [.agg [.int .i64 a, .int .i64 b, .sl 3 0 ps.length]]), some (1, ps.map iv)]⟩ = some (.exit 0, ⟨e, [some (7, [.agg [.ro 1 (x.disk.used.map bv), .ro 1 (x.disk.taken.map bv), .ro 3 (x.disk.inos.map ino), .ro 3 (x.disk.blks.map blk), .ro 1 (x.dirty.map bv), .ro 11 (x.deps.map dp), .int .i64 x.next]]), some (3, [.agg [.int .i64 0, .int .i64 0, .nil]]), some (3, [.agg [.int .i64 a, .int .i64 b, .sl 3 0 ps.length]]), some (1, (x.deps.foldl (imStep i) ps).map iv)] ++ m⟩) ∧
      lookA e 4 = .ptr 1 0 0 ∧ lookA e 5 = .ptr 2 0 0 := by
  refine (XL_inv (T := T) (b := 0) (hd := H48_5) (x := L48_5) (β := List Int) (fun j q => ⟨[(1, .int .i64 i), (2, .ptr 0 0 0), (4, .ptr 1 0 0), (5, .ptr 2 0 0), (6, .int .i64 (j : Nat))],
        [some (7, [.agg [.ro 1 (x.disk.used.map bv), .ro 1 (x.disk.taken.map bv), .ro 3 (x.disk.inos.map ino), .ro 3 (x.disk.blks.map blk), .ro 1 (x.dirty.map bv), .ro 11 (x.deps.map dp), .int .i64 x.next]]), some (3, [.agg [.int .i64 0, .int .i64 0, .nil]]), some (3, [.agg [.int .i64 a, .int .i64 b, .sl 3 0 ps.length]]), some (1, q.map iv)]⟩)
    (fun j q => q = (x.deps.take j).foldl (imStep i) ps) x.deps.length (fun r => r.1 = .exit 0 ∧ (∃ m, r.2.mem = [some (7, [.agg [.ro 1 (x.disk.used.map bv), .ro 1 (x.disk.taken.map bv), .ro 3 (x.disk.inos.map ino), .ro 3 (x.disk.blks.map blk), .ro 1 (x.dirty.map bv), .ro 11 (x.deps.map dp), .int .i64 x.next]]), some (3, [.agg [.int .i64 0, .int .i64 0, .nil]]), some (3, [.agg [.int .i64 a, .int .i64 b, .sl 3 0 ps.length]]), some (1, (x.deps.foldl (imStep i) ps).map iv)] ++ m) ∧
      lookA r.2.env 4 = .ptr 1 0 0 ∧ lookA r.2.env 5 = .ptr 2 0 0) ?step ?last 0 ps (by omega) rfl).elim ?main
  case step =>
    intro j q hj hI
    obtain ⟨d, hd⟩ := get_at hj
    have hj1 : (j : Int) < (x.deps.length : Int) := by omega
    have hql : q.length = ps.length := by rw [hI]; exact imFold_len ..
    have gd : (x.deps.map dp).getD j .undef = .agg [.int .i64 d.id, .int .i64 d.kind, .int .i64 d.ino, .int .i64 d.ptr, .int .i64 d.block, .int .i64 d.slot, .str d.name, .bool d.bits, .bool d.other, .int .i64 d.after, .ro 1 (d.blocks.map iv)] := gD_map hd
    left
    refine ⟨imStep i q d, ?_, by rw [foldl_take' hd, hI]⟩
    unfold imStep
    by_cases hc : (d.kind = 1 ∧ d.ino = i) ∧ 0 ≤ d.ptr ∧ d.ptr < (q.length : Int)
    · rw [if_pos hc]
      obtain ⟨⟨c1, c2⟩, c3, c4⟩ := hc
      rw [hql] at c4
      have c5 : d.ptr ≤ (ps.length : Int) - 1 := by omega
      have c6 : d.ptr.toNat < ps.length := by omega
      obtain ⟨x0, hx0⟩ := get_at (show d.ptr.toNat < q.length by omega)
      have gq : (q.map iv).getD d.ptr.toNat .undef = .int .i64 x0 := gD_map hx0
      have sm : (q.map iv).set d.ptr.toNat (.int .i64 0) = (q.set d.ptr.toNat 0).map iv := set_map' (f := iv) (x := (0 : Int))
      simp only [XG, L48_5, h48_5, go_sem, seval, bnd_ite, hj1, gd, gq, sm, hql, e117i, inside, c1, c2, c3, c4, c5, c6, Int.natCast_nonneg, w_i64 ((j : Int) + 1) (by omega), decide_true, Bool.and_self]
      rfl
    · rw [if_neg hc]
      have hf : (decide (d.kind = 1) && decide (d.ino = i) && decide (0 ≤ d.ptr) && decide (d.ptr < (ps.length : Int))) = false := by
        rw [← Bool.not_eq_true]
        intro h
        simp only [Bool.and_eq_true, decide_eq_true_eq] at h
        exact hc ⟨h.1.1, h.1.2, by omega⟩
      simp only [XG, L48_5, h48_5, go_sem, seval, bnd_ite, hj1, gd, hql, e117i, inside, Int.natCast_nonneg, w_i64 ((j : Int) + 1) (by omega), hf, Bool.false_eq_true, if_false]
      rfl
  case last =>
    intro q hI
    rw [List.take_length] at hI
    simp only [XG, L48_5, h48_5, go_sem, seval, bnd_ite, Int.lt_irrefl, decide_false]
    exact .mk (by simp) ⟨rfl, ⟨[], by rw [← hI]⟩, rfl, rfl⟩
  case main =>
  rintro ⟨xx, e, m⟩ ⟨h1, h2, h3, ⟨m', h4⟩, h5⟩
  simp only at h3 h4; subst h3; subst h4
  exact ⟨e, m', h1, h5⟩
theorem e48 (x : Mm) (h : x.sm) (i : Int) (hi : -9223372036854775808 ≤ i ∧ i ≤ 9223372036854775807) : E T 48 [mm x, .int .i64 i] [] = some (inoO (imageIno x i), []) := by
  rw [E_eq t48 (Nat.le_of_ble_eq_true rfl)]
  have hin := h.disk.inos
  have hdp := h.deps
  unfold imageIno
  by_cases hc : inside i 1 x.disk.inos.length = true
  · have hc' := hc
    simp only [inside, Bool.and_eq_true, decide_eq_true_eq] at hc'
    obtain ⟨p, hp⟩ := get_at (show (i - 1).toNat < x.disk.inos.length by omega)
    have gp : (x.disk.inos.map ino).getD (i - 1).toNat .undef = .agg [.int .i64 p.kind, .int .i64 p.links, .ro 1 (p.ptrs.map iv)] := gD_map hp
    have hps := h.disk.ino p (List.mem_of_getElem? hp)
    have e1 := e142 p hps
    obtain ⟨e, m, k1, k2, k3⟩ := in48 x hdp i p.kind p.links p.ptrs hps
    have b1 : 0 ≤ i - 1 := by omega
    have b2 : i - 1 < (x.disk.inos.length : Int) := by omega
    have hfl := imFold_len i x.deps p.ptrs
    rw [if_pos hc, hp]
    show _ = some (inoO ⟨p.kind, p.links, x.deps.foldl (imStep i) p.ptrs⟩, [])
    unfold ino inoO at e1
    generalize hF : x.deps.foldl (imStep i) p.ptrs = F at *
    have htk : (List.map iv F).take p.ptrs.length = List.map iv F := List.take_of_length_le (by simp [hfl])
    simp only [mm, F48, h48_5, go_sem, seval, bnd_ite, e116i, hc, gp, e1, b1, b2, w_i64 (i - 1) (by omega), k1, k2, k3, inoO, hfl, htk]
  · have hc : inside i 1 x.disk.inos.length = false := by simpa using hc
    simp only [mm, F48, h48_5, go_sem, seval, bnd_ite, e116i, hc, e141, inoO, iv]
end Go.Proofs.Ytaaajjinpppgeaa

/- ImageBlock: the reference's loop, and what both come to. Own work; no condition. -/
set_option linter.unusedVariables false
set_option linter.unusedSimpArgs false
set_option linter.unusedSectionVars false
namespace Go.Proofs.Ytaaajjinpppgeaa
open Go Go.Abs
set_option maxRecDepth 100000
def ibMem (x : Mm) (a : Bool) (b : ByteArray) (n : Nat) (q : List Slt) : Mem := [some (7, [.agg [.ro 1 (x.disk.used.map bv), .ro 1 (x.disk.taken.map bv), .ro 3 (x.disk.inos.map ino), .ro 3 (x.disk.blks.map blk), .ro 1 (x.dirty.map bv), .ro 11 (x.deps.map dp), .int .i64 x.next]]), some (3, [.agg [.bool false, .nil, .str ⟨#[]⟩]]), some (3, [.agg [.bool a, .sl 3 0 n, .str b]]), some (2, q.map slt)]
theorem in54 (x : Mm) (hl : x.deps.length ≤ 1048576) (i : Int) (a : Bool) (b : ByteArray) (ps : List Slt) (hp : ps.length ≤ 1048576) :
    ∃ r, XL T 0 H54_5 L54_5 ⟨[(1, .int .i64 i), (2, .ptr 0 0 0), (4, .ptr 1 0 0), (5, .ptr 2 0 0), (6, .int .i64 0)], ibMem x a b ps.length ps⟩ = some r ∧ r.1 = .exit 0 ∧ (∃ m, r.2.mem = ibMem x a b ps.length (x.deps.foldl (ibStep i) ps) ++ m) ∧
      lookA r.2.env 4 = .ptr 1 0 0 ∧ lookA r.2.env 5 = .ptr 2 0 0 := by
  refine XL_each x.deps (ibStep i) (fun j q => ⟨[(1, .int .i64 i), (2, .ptr 0 0 0), (4, .ptr 1 0 0), (5, .ptr 2 0 0), (6, .int .i64 (j : Nat))], ibMem x a b ps.length q⟩) (fun _ q => q.length = ps.length)
    (fun q r => r.1 = .exit 0 ∧ (∃ m, r.2.mem = ibMem x a b ps.length q ++ m) ∧ lookA r.2.env 4 = .ptr 1 0 0 ∧ lookA r.2.env 5 = .ptr 2 0 0) ?step ?last ps rfl
  case step =>
    intro j q d hd hj hql
    have hj1 : (j : Int) < (x.deps.length : Int) := by omega
    have gd : (x.deps.map dp).getD j .undef = .agg [.int .i64 d.id, .int .i64 d.kind, .int .i64 d.ino, .int .i64 d.ptr, .int .i64 d.block, .int .i64 d.slot, .str d.name, .bool d.bits, .bool d.other, .int .i64 d.after, .ro 1 (d.blocks.map iv)] := gD_map hd
    refine ⟨?_, by rw [ibStep_len, hql]⟩
    unfold ibStep ibMem
    by_cases hc : d.block = i ∧ 0 ≤ d.slot ∧ d.slot < (q.length : Int)
    · rw [if_pos hc]
      obtain ⟨c1, c3, c4⟩ := hc
      rw [hql] at c4
      have c5 : ¬ d.slot < 0 := by omega
      have c7 : ¬ (ps.length : Int) ≤ d.slot := by omega
      have c6 : d.slot.toNat < ps.length := by omega
      obtain ⟨x0, hx0⟩ := get_at (show d.slot.toNat < q.length by omega)
      have gq : (q.map slt).getD d.slot.toNat .undef = .agg [.str x0.name, .int .i64 x0.ino] := gD_map hx0
      have sm : ∀ x : Slt, (q.map slt).set d.slot.toNat (.agg [.str x.name, .int .i64 x.ino]) = (q.set d.slot.toNat x).map slt := fun x => set_map' (f := slt) (x := x)
      have s0 := sm ⟨⟨#[]⟩, 0⟩
      have s1 := sm ⟨d.name, d.ino⟩
      simp only at s0 s1
      by_cases k2 : d.kind = 2
      · simp only [XG, L54_5, h54_5, go_sem, seval, bnd_ite, hj1, gd, gq, s0, s1, hql, c1, k2, c3, c4, c5, c6, c7, Int.natCast_nonneg, w_i64 ((j : Int) + 1) (by omega), decide_true, decide_false, Bool.and_self, Bool.not_true, Bool.or_self]
        rfl
      by_cases k4 : d.kind = 4
      · by_cases ha : 0 < d.after
        · simp only [XG, L54_5, h54_5, go_sem, seval, bnd_ite, hj1, gd, gq, s0, s1, hql, c1, k4, ha, c3, c4, c5, c6, c7, Int.natCast_nonneg, w_i64 ((j : Int) + 1) (by omega), decide_true, decide_false, Bool.and_self, Bool.not_true, Bool.or_self]
          rfl
        · simp only [XG, L54_5, h54_5, go_sem, seval, bnd_ite, hj1, gd, gq, s0, s1, hql, c1, k4, ha, c3, c4, c5, c6, c7, Int.natCast_nonneg, w_i64 ((j : Int) + 1) (by omega), decide_true, decide_false, Bool.and_self, Bool.not_true, Bool.or_self]
          rfl
      · simp only [XG, L54_5, h54_5, go_sem, seval, bnd_ite, hj1, gd, gq, s0, s1, hql, c1, k2, k4, c3, c4, c5, c6, c7, Int.natCast_nonneg, w_i64 ((j : Int) + 1) (by omega), decide_true, decide_false, Bool.and_self, Bool.not_true, Bool.or_self]
        rfl
    · rw [if_neg hc]
      have hf : (!decide (d.block = i) || decide (d.slot < 0) || decide ((ps.length : Int) ≤ d.slot)) = true := by
        rw [← Bool.not_eq_false]
        intro h
        simp only [Bool.or_eq_false_iff, Bool.not_eq_false', decide_eq_true_eq, decide_eq_false_iff_not] at h
        exact hc ⟨h.1.1, by omega, by omega⟩
      simp only [XG, L54_5, h54_5, go_sem, seval, bnd_ite, hj1, gd, hql, Int.natCast_nonneg, w_i64 ((j : Int) + 1) (by omega), hf, if_true]
      rfl
  case last =>
    intro q hI
    unfold ibMem
    simp only [XG, L54_5, h54_5, go_sem, seval, bnd_ite, Int.lt_irrefl, decide_false]
    exact .mk (by simp) ⟨rfl, ⟨[], rfl⟩, rfl, rfl⟩
end Go.Proofs.Ytaaajjinpppgeaa

/- ImageBlock: what both come to. Own work; no condition. -/
set_option linter.unusedVariables false
set_option linter.unusedSimpArgs false
set_option linter.unusedSectionVars false
namespace Go.Proofs.Ytaaajjinpppgeaa
open Go Go.Abs
set_option maxRecDepth 100000
def imageBlk (x : Mm) (i : Int) : Blk := if inside i 1 x.disk.blks.length then
    (match x.disk.blks[(i - 1).toNat]? with
    | some p => ⟨p.dir, x.deps.foldl (ibStep i) p.slots, p.text⟩
    | none => blk0)
  else blk0
theorem ibFold_nil (i : Int) (l : List Dp) : l.foldl (ibStep i) [] = [] := List.eq_nil_of_length_eq_zero (by rw [ibFold_len]; rfl)
theorem e55 (x : Mm) (h : x.sm) (i : Int) (hi : -9223372036854775808 ≤ i ∧ i ≤ 9223372036854775807) : E T 55 [mm x, .int .i64 i] [] = some (blkO (imageBlk x i), []) := by
  rw [E_eq t55 (Nat.le_of_ble_eq_true rfl)]
  have hdp := h.deps
  unfold imageBlk
  by_cases hc : inside i 1 x.disk.blks.length = true
  · have hc' := hc
    simp only [inside, Bool.and_eq_true, decide_eq_true_eq] at hc'
    obtain ⟨p, hp⟩ := get_at (show (i - 1).toNat < x.disk.blks.length by omega)
    have hps := h.disk.blk p (List.mem_of_getElem? hp)
    have e0 := e149 x.disk i h.disk.blks hc p hp
    have e1 := e148 p hps
    obtain ⟨e, m, k1, k2, k3⟩ := in55 x.deps hdp i p.dir p.text p.slots hps
    have hfl := ibFold_len i x.deps p.slots
    rw [if_pos hc, hp]
    show _ = some (blkO ⟨p.dir, x.deps.foldl (ibStep i) p.slots, p.text⟩, [])
    unfold dsk at e0
    rw [show blk p = .agg [.bool p.dir, .ro 2 (p.slots.map slt), .str p.text] from rfl] at e0
    unfold blk blkO at e1
    generalize hF : x.deps.foldl (ibStep i) p.slots = F at *
    have htk : (List.map slt F).take p.slots.length = List.map slt F := List.take_of_length_le (by simp [hfl])
    simp only [mm, F55, h55_3, go_sem, seval, bnd_ite, e0, e1, k1, k2, k3, blkO, hfl, htk]
  · have hc : inside i 1 x.disk.blks.length = false := by simpa using hc
    have e0 := e149n x.disk i hc
    have e1 := e148 blk0 (by show (0 : Nat) ≤ 1048576; decide)
    obtain ⟨e, m, k1, k2, k3⟩ := in55 x.deps hdp i false ⟨#[]⟩ [] (by simp)
    rw [ibFold_nil] at k1
    simp only [List.map_nil, List.length_nil, List.cons_append, List.nil_append] at k1
    unfold dsk at e0
    unfold blk0 blk at e0
    rw [show (List.map (fun x => AV.agg [AV.bool x.dir, AV.ro 2 (List.map slt x.slots), AV.str x.text]) x.disk.blks) = x.disk.blks.map blk from rfl] at e0
    unfold blk0 blk blkO at e1
    simp only [List.map_nil] at e0 e1
    rw [if_neg (by rw [hc]; simp)]
    simp only [mm, F55, h55_3, go_sem, seval, bnd_ite, e0, e1, k1, k2, k3, blkO, blk0]
    first | done | rfl
theorem e54 (x : Mm) (h : x.sm) (i : Int) (hi : -9223372036854775808 ≤ i ∧ i ≤ 9223372036854775807) : E T 54 [mm x, .int .i64 i] [] = some (blkO (imageBlk x i), []) := by
  rw [E_eqW t54 (Nat.le_of_ble_eq_true rfl)]
  have hdp := h.deps
  unfold imageBlk
  by_cases hc : inside i 1 x.disk.blks.length = true
  · have hc' := hc
    simp only [inside, Bool.and_eq_true, decide_eq_true_eq] at hc'
    obtain ⟨p, hp⟩ := get_at (show (i - 1).toNat < x.disk.blks.length by omega)
    have hps := h.disk.blk p (List.mem_of_getElem? hp)
    have gp : (x.disk.blks.map blk).getD (i - 1).toNat .undef = .agg [.bool p.dir, .ro 2 (p.slots.map slt), .str p.text] := gD_map hp
    have e1 := e147 p hps
    obtain ⟨⟨y, e, m⟩, k1, kx, ⟨m', km⟩, k2, k3⟩ := in54 x hdp i p.dir p.text p.slots hps
    simp only at kx km k2 k3; subst kx; subst km
    have hfl := ibFold_len i x.deps p.slots
    have b1 : 0 ≤ i - 1 := by omega
    have b2 : i - 1 < (x.disk.blks.length : Int) := by omega
    rw [if_pos hc, hp]
    show _ = some (blkO ⟨p.dir, x.deps.foldl (ibStep i) p.slots, p.text⟩, [])
    unfold blk blkO at e1
    unfold ibMem at k1
    generalize hF : x.deps.foldl (ibStep i) p.slots = F at *
    have htk : (List.map slt F).take p.slots.length = List.map slt F := List.take_of_length_le (by simp [hfl])
    simp only [mm, F54, h54_5, go_sem, seval, bnd_ite, e116i, hc, gp, e1, b1, b2, w_i64 (i - 1) (by omega), k1, k2, k3, blkO, hfl, htk]
  · have hc : inside i 1 x.disk.blks.length = false := by simpa using hc
    rw [if_neg (by rw [hc]; simp)]
    simp only [mm, F54, h54_5, go_sem, seval, bnd_ite, e116i, hc, blkO, blk0]
    first | done | rfl
end Go.Proofs.Ytaaajjinpppgeaa

/- ImageBlock: both answers are alike. Own work; no condition. -/
set_option linter.unusedVariables false
set_option linter.unusedSimpArgs false
set_option linter.unusedSectionVars false
namespace Go.Proofs.Ytaaajjinpppgeaa
open Go Go.Abs
set_option maxRecDepth 100000
theorem imageBlk_sm (x : Mm) (h : x.sm) (i : Int) : (imageBlk x i).sm := by
  unfold imageBlk
  split
  · split
    · rename_i p hp
      show (x.deps.foldl (ibStep i) p.slots).length ≤ 1048576
      rw [ibFold_len]; exact h.disk.blk p (List.mem_of_getElem? hp)
    · exact (by decide : (0 : Nat) ≤ 1048576)
  · exact (by decide : (0 : Nat) ≤ 1048576)
theorem ibFold_name (i : Int) (n : Nat) (l : List Dp) : ∀ ss : List Slt, (∀ s ∈ ss, s.name.size ≤ n) → (∀ d ∈ l, d.name.size ≤ n) → ∀ s ∈ l.foldl (ibStep i) ss, s.name.size ≤ n := by
  induction l with
  | nil => intro ss h _; exact h
  | cons d l ih =>
    intro ss h hd
    rw [List.foldl_cons]
    refine ih _ ?_ (fun y hy => hd y (List.mem_cons_of_mem _ hy))
    intro s hs
    unfold ibStep at hs
    have h1 := hd d (List.mem_cons_self ..)
    split at hs
    · split at hs
      · rcases List.mem_or_eq_of_mem_set hs with h2 | h2
        · exact h s h2
        · rw [h2]; exact Nat.zero_le _
      · split at hs
        · rcases List.mem_or_eq_of_mem_set hs with h2 | h2
          · exact h s h2
          · rw [h2]; exact h1
        · exact h s hs
    · exact h s hs
theorem imageBlk_ok (x : Mm) (h : x.ok) (hs : x.sm) (i : Int) : (imageBlk x i).ok := by
  have h1 := imageBlk_sm x hs i
  refine ⟨by unfold Blk.sm at h1; unfold maxLen; omega, ?_, ?_⟩
  · unfold imageBlk
    split
    · split
      · rename_i p hp; exact (h.disk.blk p (List.mem_of_getElem? hp)).2.1
      · exact Nat.zero_le _
    · exact Nat.zero_le _
  · unfold imageBlk
    split
    · split
      · rename_i p hp
        exact ibFold_name i maxLen x.deps p.slots (h.disk.blk p (List.mem_of_getElem? hp)).2.2 (fun d hd => (h.dep d hd).1)
      · intro s hs; cases hs
    · intro s hs; cases hs
end Go.Proofs.Ytaaajjinpppgeaa

/- ImageInode: both answers are alike. Own work; no condition. -/
set_option linter.unusedVariables false
set_option linter.unusedSimpArgs false
set_option linter.unusedSectionVars false
namespace Go.Proofs.Ytaaajjinpppgeaa
open Go Go.Abs
set_option maxRecDepth 100000
theorem imageIno_sm (x : Mm) (h : x.sm) (i : Int) : (imageIno x i).sm := by
  unfold imageIno
  split
  · split
    · rename_i p hp
      show (x.deps.foldl (imStep i) p.ptrs).length ≤ 1048576
      rw [imFold_len]; exact h.disk.ino p (List.mem_of_getElem? hp)
    · exact (by decide : (2 : Nat) ≤ 1048576)
  · exact (by decide : (2 : Nat) ≤ 1048576)
end Go.Proofs.Ytaaajjinpppgeaa

/- ImageUnit: the program's side. Own work; no condition. -/
set_option linter.unusedVariables false
set_option linter.unusedSimpArgs false
set_option linter.unusedSectionVars false
namespace Go.Proofs.Ytaaajjinpppgeaa
open Go Go.Abs
set_option maxRecDepth 100000
def imgI (x : Mm) : List Ino := (List.range 8).map fun (i : Nat) => imageIno x ((i : Int) + 1)
def imgB (x : Mm) : List Blk := (List.range 16).map fun (i : Nat) => imageBlk x ((i : Int) + 1)
theorem imgI_len (x : Mm) : (imgI x).length = 8 := by simp [imgI]
theorem imgB_len (x : Mm) : (imgB x).length = 16 := by simp [imgB]
theorem imgI_at {x : Mm} {i : Nat} {p : Ino} (h : (imgI x)[i]? = some p) : i < 8 ∧ p = imageIno x ((i : Int) + 1) := by
  unfold imgI at h
  have hi : i < 8 := by
    have := (List.getElem?_eq_some_iff.1 h).1
    simpa using this
  rw [range_at _ hi] at h
  exact ⟨hi, by simpa using h.symm⟩
theorem imgB_at {x : Mm} {i : Nat} {p : Blk} (h : (imgB x)[i]? = some p) : i < 16 ∧ p = imageBlk x ((i : Int) + 1) := by
  unfold imgB at h
  have hi : i < 16 := by
    have := (List.getElem?_eq_some_iff.1 h).1
    simpa using this
  rw [range_at _ hi] at h
  exact ⟨hi, by simpa using h.symm⟩
def imgD (x : Mm) : Dsk := ⟨x.disk.used, x.disk.taken, imgI x, imgB x⟩
theorem imgD_ok {x : Mm} (h : x.ok) (hs : x.sm) : (imgD x).ok := by
  refine ⟨h.disk.used, h.disk.taken, ?_, ?_, fun y hy => ?_, fun y hy => ?_⟩
  · show (imgI x).length ≤ _; rw [imgI_len]; unfold maxLen; omega
  · show (imgB x).length ≤ _; rw [imgB_len]; unfold maxLen; omega
  · obtain ⟨i, _, rfl⟩ := List.mem_map.1 (show y ∈ imgI x from hy)
    have := imageIno_sm x hs ((i : Int) + 1)
    unfold Ino.sm at this
    unfold Ino.ok maxLen; omega
  · obtain ⟨i, _, rfl⟩ := List.mem_map.1 (show y ∈ imgB x from hy)
    exact imageBlk_ok x h hs _
def box107 (x : Mm) : AV := .agg [.ro 1 (x.disk.used.map bv), .ro 1 (x.disk.taken.map bv), .ro 3 (x.disk.inos.map ino), .ro 3 (x.disk.blks.map blk), .ro 1 (x.dirty.map bv), .ro 11 (x.deps.map dp), .int .i64 x.next]
def mi107 (x : Mm) (i : Nat) (R : List AV) : Mem := [some (7, [box107 x]), some (4, [.agg [.own 1 (x.disk.used.map bv), .own 1 (x.disk.taken.map bv), .sl 2 0 i, .nil]]), some (3, R)]
def mb107 (x : Mm) (i : Nat) (R : List AV) : Mem := [some (7, [box107 x]), some (4, [.agg [.own 1 (x.disk.used.map bv), .own 1 (x.disk.taken.map bv), .own 3 ((imgI x).map inoO), .sl 2 0 i]]), some (3, R)]
theorem in107a (x : Mm) (h : x.sm) (u : Int) : ∃ r, XL T 0 H107_5 L107_5 ⟨[(1, .int .i64 u), (2, .ptr 0 0 0), (6, .ptr 1 0 0), (22, .int .i64 0)], mi107 x 0 []⟩ = some r ∧
    r.1 = .exit 0 ∧ lookA r.2.env 1 = .int .i64 u ∧ lookA r.2.env 2 = .ptr 0 0 0 ∧ lookA r.2.env 6 = .ptr 1 0 0 ∧ r.2.mem = mi107 x 8 ((imgI x).map inoO) := by
  generalize hR : imgI x = R
  have hRl : R.length = 8 := by rw [← hR]; exact imgI_len x
  have hat : ∀ (i : Nat) p, R[i]? = some p → p = imageIno x ((i : Int) + 1) := fun i p h => (imgI_at (by rw [hR]; exact h)).2
  have e3 : ∀ i : Nat, i < 8 → E T 49 [mm x, .int .i64 ((i : Int) + 1)] [] = some (inoO (imageIno x ((i : Int) + 1)), []) := fun i hi => e49 x h _ (by omega)
  unfold mm at e3
  refine XL_each R (fun (_ : Unit) _ => ()) (fun i _ => ⟨[(1, .int .i64 u), (2, .ptr 0 0 0), (6, .ptr 1 0 0), (22, .int .i64 (i : Nat))], mi107 x i ((R.take i).map inoO)⟩) (fun _ _ => True)
    (fun _ r => r.1 = .exit 0 ∧ lookA r.2.env 1 = .int .i64 u ∧ lookA r.2.env 2 = .ptr 0 0 0 ∧ lookA r.2.env 6 = .ptr 1 0 0 ∧ r.2.mem = mi107 x 8 (R.map inoO)) ?step ?last () trivial
  case step =>
    intro i _ p hp hi _
    refine ⟨?_, trivial⟩
    have hpe := hat i p hp
    have e2 := e3 i (by omega)
    rw [← hpe] at e2
    unfold inoO at e2
    obtain ⟨M, hM, ml, mi, ms, mt, ma⟩ := snoc_facts inoO_cool hp
    have ma : M ++ [.agg [.int .i64 p.kind, .int .i64 p.links, .own 1 (p.ptrs.map iv)]] = (R.take (i + 1)).map inoO := ma
    have htk : (p.ptrs.map iv).take p.ptrs.length = p.ptrs.map iv := List.take_of_length_le (by simp)
    have k1 : (i : Int) < 8 := by omega
    have hap : (i + 1) * 40 ≤ 140737488355328 := by omega
    have hw := w_i64 ((i : Int) + 1) (by omega)
    have hmin : min (i + 1) R.length = i + 1 := by omega
    unfold mi107 box107
    simp only [hM]
    simp only [XG, L107_5, h107_5, go_sem, seval, bnd_ite, k1, e2, htk, ml, mi, ms, mt, ma, hap, hw, hmin, Int.natCast_nonneg]
    first | done | rfl
  case last =>
    intro _ _
    rw [hRl]
    have tR : (R.map inoO).take 8 = R.map inoO := List.take_of_length_le (by simp; omega)
    have k1 : ¬ ((8 : Nat) : Int) < 8 := by omega
    unfold mi107 box107
    simp only [XG, L107_5, h107_5, go_sem, seval, bnd_ite, k1, decide_false]
    exact .mk (by simp) ⟨rfl, rfl, rfl, rfl, by rw [← List.map_take] at tR; simp only [tR]⟩
theorem in107b (x : Mm) (h : x.sm) (u : Int) : ∃ r, XL T 0 H107_11 L107_11 ⟨[(1, .int .i64 u), (2, .ptr 0 0 0), (6, .ptr 1 0 0), (35, .int .i64 0)], mb107 x 0 []⟩ = some r ∧
    r.1 = .exit 2 ∧ lookA r.2.env 1 = .int .i64 u ∧ lookA r.2.env 6 = .ptr 1 0 0 ∧ r.2.mem = mb107 x 16 ((imgB x).map blkO) := by
  generalize hR : imgB x = R
  have hRl : R.length = 16 := by rw [← hR]; exact imgB_len x
  have hat : ∀ (i : Nat) p, R[i]? = some p → p = imageBlk x ((i : Int) + 1) := fun i p h => (imgB_at (by rw [hR]; exact h)).2
  have e3 : ∀ i : Nat, i < 16 → E T 55 [mm x, .int .i64 ((i : Int) + 1)] [] = some (blkO (imageBlk x ((i : Int) + 1)), []) := fun i hi => e55 x h _ (by omega)
  unfold mm at e3
  unfold mb107
  generalize imgI x = I
  refine XL_each R (fun (_ : Unit) _ => ()) (fun i _ => ⟨[(1, .int .i64 u), (2, .ptr 0 0 0), (6, .ptr 1 0 0), (35, .int .i64 (i : Nat))], [some (7, [box107 x]), some (4, [.agg [.own 1 (x.disk.used.map bv), .own 1 (x.disk.taken.map bv), .own 3 (I.map inoO), .sl 2 0 i]]), some (3, (R.take i).map blkO)]⟩) (fun _ _ => True)
    (fun _ r => r.1 = .exit 2 ∧ lookA r.2.env 1 = .int .i64 u ∧ lookA r.2.env 6 = .ptr 1 0 0 ∧ r.2.mem = [some (7, [box107 x]), some (4, [.agg [.own 1 (x.disk.used.map bv), .own 1 (x.disk.taken.map bv), .own 3 (I.map inoO), .sl 2 0 16]]), some (3, R.map blkO)]) ?step ?last () trivial
  case step =>
    intro i _ p hp hi _
    refine ⟨?_, trivial⟩
    have hpe := hat i p hp
    have e2 := e3 i (by omega)
    rw [← hpe] at e2
    unfold blkO at e2
    obtain ⟨M, hM, ml, mi, ms, mt, ma⟩ := snoc_facts blkO_cool hp
    have ma : M ++ [.agg [.bool p.dir, .own 2 (p.slots.map slt), .str p.text]] = (R.take (i + 1)).map blkO := ma
    have htk : (p.slots.map slt).take p.slots.length = p.slots.map slt := List.take_of_length_le (by simp)
    have k1 : (i : Int) < 16 := by omega
    have hap : (i + 1) * 48 ≤ 140737488355328 := by omega
    have hw := w_i64 ((i : Int) + 1) (by omega)
    have hmin : min (i + 1) R.length = i + 1 := by omega
    unfold box107
    simp only [hM]
    simp only [XG, L107_11, h107_11, go_sem, seval, bnd_ite, k1, e2, htk, ml, mi, ms, mt, ma, hap, hw, hmin, Int.natCast_nonneg]
    first | done | rfl
  case last =>
    intro _ _
    rw [hRl]
    have tR : (R.map blkO).take 16 = R.map blkO := List.take_of_length_le (by simp; omega)
    have k1 : ¬ ((16 : Nat) : Int) < 16 := by omega
    unfold box107
    simp only [XG, L107_11, h107_11, go_sem, seval, bnd_ite, k1, decide_false]
    exact .mk (by simp) ⟨rfl, rfl, rfl, by rw [← List.map_take] at tR; simp only [tR]⟩
def iuOk (x : Mm) (u : Int) : Bool := (memOk x && inside u 0 20) && unitOk (imgD x) u
theorem e107 (x : Mm) (hk : x.ok) (h : x.sm) (u : Int) : E T 107 [mm x, .int .i64 u] [] = some (.tup [.str (if iuOk x u then unitT (imgD x) u else ⟨#[]⟩), .bool (iuOk x u)], []) := by
  rw [E_eq t107 (Nat.le_of_ble_eq_true rfl)]
  have e1 := e60 x hk
  unfold iuOk
  cases hm : memOk x with
  | false =>
    rw [hm] at e1
    unfold mm at e1
    simp only [mm, F107, go_sem, seval, bnd_ite, e1, Bool.not_false, Bool.false_and, if_true, Bool.false_eq_true, if_false]
  | true =>
    rw [hm] at e1
    unfold mm at e1
    cases hi : inside u 0 20 with
    | false => simp only [mm, F107, go_sem, seval, bnd_ite, e1, e118i, hi, Bool.not_false, Bool.not_true, Bool.and_false, Bool.false_and, if_true, Bool.false_eq_true, if_false]
    | true =>
      have hh := memHead_use (x := x) (by
        unfold memOk at hm
        rw [Bool.and_eq_true] at hm
        exact hm.1)
      have e2 := e199 x.disk.used x.disk.taken h.disk.used h.disk.taken
      obtain ⟨⟨y, e, m⟩, q1, qx, q2, q3, q4, qm⟩ := in107a x h u
      simp only at qx q2 q3 q4 qm; subst qx; subst qm
      obtain ⟨⟨y', e', m'⟩, p1, px, p2, p3, pm⟩ := in107b x h u
      simp only at px p2 p3 pm; subst px; subst pm
      have e3 := e200 (imgD x) (imgD_ok hk h) u
      unfold dsk imgD at e3
      simp only at e3
      rw [show (⟨x.disk.used, x.disk.taken, imgI x, imgB x⟩ : Dsk) = imgD x from rfl] at e3
      unfold mi107 box107 at q1
      unfold mb107 box107 at p1
      have u1 : (x.disk.used.map bv).take x.disk.used.length = x.disk.used.map bv := List.take_of_length_le (by simp)
      have u2 : (x.disk.taken.map bv).take x.disk.taken.length = x.disk.taken.map bv := List.take_of_length_le (by simp)
      have u3 : ((imgI x).map inoO).take 8 = (imgI x).map inoO := List.take_of_length_le (by simp [imgI_len])
      have u4 : ((imgB x).map blkO).take 16 = (imgB x).map blkO := List.take_of_length_le (by simp [imgB_len])
      have hI := imgI_len x
      have hB := imgB_len x
      generalize unitOk (imgD x) u = O at *
      generalize unitT (imgD x) u = S at *
      generalize imgI x = I at *
      generalize imgB x = B at *
      simp only [mm, F107, h107_5, h107_11, mi107, mb107, box107, go_sem, seval, bnd_ite, e1, e2, e3, e118i, hi, q1, q2, q3, q4, p1, p2, p3, u1, u2, u3, u4, hI, hB, Bool.not_true, Bool.and_self, Bool.true_and, if_true, Bool.false_eq_true, if_false]
      first | done | rfl
end Go.Proofs.Ytaaajjinpppgeaa

/- ImageUnit: the reference's side; both answers are alike. Own work; no condition. -/
set_option linter.unusedVariables false
set_option linter.unusedSimpArgs false
set_option linter.unusedSectionVars false
namespace Go.Proofs.Ytaaajjinpppgeaa
open Go Go.Abs
set_option maxRecDepth 100000
theorem mix_facts {α : Type} {f : α → AV} (hc : ∀ x, coolX (f x) = true) {L D : List α} (hl : L.length = D.length) {i : Nat} {p : α} (hp : L[i]? = some p) :
    ∃ M q, (L.take i ++ D.drop i).map f = M ∧ M.length = D.length ∧ (∀ g, mapIdL g M = M) ∧ (∀ u, idsL u M = []) ∧ M.getD i .undef = f q ∧ M.set i (f p) = (L.take (i + 1) ++ D.drop (i + 1)).map f := by
  have hi := (List.getElem?_eq_some_iff.1 hp).1
  have hiD : i < D.length := by omega
  have hdr : D.drop i = D[i] :: D.drop (i + 1) := List.drop_eq_getElem_cons hiD
  have ht : (L.take i).length = i := by rw [List.length_take]; omega
  refine ⟨_, D[i], rfl, ?_, fun g => mi_map g f _ hc, fun u => is_map u f _ hc, ?_, ?_⟩
  · simp; omega
  · refine gD_map ?_
    rw [List.getElem?_append_right (by omega), ht, Nat.sub_self, hdr]; rfl
  · rw [← List.map_set, List.set_append_right _ _ (by omega), ht, Nat.sub_self, hdr, take_snoc hp]
    simp only [List.set_cons_zero, List.map_append, List.map_cons, List.map_nil, List.append_assoc, List.cons_append, List.nil_append]
theorem mix_0 {α : Type} (L D : List α) : L.take 0 ++ D.drop 0 = D := by simp
theorem mix_n {α : Type} (L D : List α) {n : Nat} (h1 : L.length = n) (h2 : D.length = n) : L.take n ++ D.drop n = L := by
  rw [List.take_of_length_le (by omega), List.drop_of_length_le (by omega), List.append_nil]
def mi106 (x : Mm) (R : List AV) : Mem := [some (7, [box107 x]), some (4, [.agg [.own 1 (x.disk.used.map bv), .own 1 (x.disk.taken.map bv), .sl 2 0 8, .own 3 (x.disk.blks.map blkO)]]), some (3, R)]
def mb106 (x : Mm) (R : List AV) : Mem := [some (7, [box107 x]), some (4, [.agg [.own 1 (x.disk.used.map bv), .own 1 (x.disk.taken.map bv), .own 3 ((imgI x).map inoO), .sl 2 0 16]]), some (3, R)]
theorem in106a (x : Mm) (h : x.sm) (hx : DskOk x.disk) (u : Int) : ∃ r, XL T 0 H106_5 L106_5 ⟨[(1, .int .i64 u), (2, .ptr 0 0 0), (6, .ptr 1 0 0), (7, .int .i64 ((0 + 1 : Nat) : Int))], mi106 x (x.disk.inos.map inoO)⟩ = some r ∧
    r.1 = .exit 0 ∧ lookA r.2.env 1 = .int .i64 u ∧ lookA r.2.env 2 = .ptr 0 0 0 ∧ lookA r.2.env 6 = .ptr 1 0 0 ∧ r.2.mem = mi106 x ((imgI x).map inoO) := by
  generalize hR : imgI x = R
  have hRl : R.length = 8 := by rw [← hR]; exact imgI_len x
  have hDl := hx.inos
  have hat : ∀ (i : Nat) p, R[i]? = some p → p = imageIno x ((i : Int) + 1) := fun i p h => (imgI_at (by rw [hR]; exact h)).2
  have e3 : ∀ i : Nat, i < 8 → E T 48 [mm x, .int .i64 ((i : Int) + 1)] [] = some (inoO (imageIno x ((i : Int) + 1)), []) := fun i hi => e48 x h _ (by omega)
  unfold mm at e3
  have main := XL_each (T := T) (b := 0) (hd := H106_5) (x := L106_5) R (fun (_ : Unit) _ => ()) (fun i _ => ⟨[(1, .int .i64 u), (2, .ptr 0 0 0), (6, .ptr 1 0 0), (7, .int .i64 ((i + 1 : Nat) : Int))], mi106 x ((R.take i ++ x.disk.inos.drop i).map inoO)⟩) (fun _ _ => True)
    (fun _ r => r.1 = .exit 0 ∧ lookA r.2.env 1 = .int .i64 u ∧ lookA r.2.env 2 = .ptr 0 0 0 ∧ lookA r.2.env 6 = .ptr 1 0 0 ∧ r.2.mem = mi106 x (R.map inoO)) ?step ?last () trivial
  · rw [mix_0] at main; exact main
  case step =>
    intro i _ p hp hi _
    refine ⟨?_, trivial⟩
    have hpe := hat i p hp
    have e2 := e3 i (by omega)
    rw [← hpe] at e2
    unfold inoO at e2
    obtain ⟨M, q, hM, ml, mi, ms, mg, mt⟩ := mix_facts inoO_cool (hRl.trans hDl.symm) hp
    have mt : M.set i (.agg [.int .i64 p.kind, .int .i64 p.links, .own 1 (p.ptrs.map iv)]) = (R.take (i + 1) ++ x.disk.inos.drop (i + 1)).map inoO := mt
    have mg : M.getD i .undef = .agg [.int .i64 q.kind, .int .i64 q.links, .own 1 (q.ptrs.map iv)] := mg
    have htk : (p.ptrs.map iv).take p.ptrs.length = p.ptrs.map iv := List.take_of_length_le (by simp)
    have k1 : ((i + 1 : Nat) : Int) ≤ 8 := by omega
    have k2 : ((i + 1 : Nat) : Int) - 1 = (i : Int) := by omega
    have k3 : (i : Int) < 8 := by omega
    have k4 : i < 8 := by omega
    have k5 : ((i : Nat) : Int) + 1 = ((i + 1 : Nat) : Int) := rfl
    have hw := w_i64 (((i + 1 : Nat) : Int) + 1) (by omega)
    have hw2 := w_i64 (i : Int) (by omega)
    rw [k5] at e2
    rw [hDl] at ml
    unfold mi106 box107
    simp only [hM]
    simp only [XG, L106_5, h106_5, go_sem, seval, bnd_ite, is_set, k1, k2, k3, k4, e2, htk, ml, mi, ms, mg, mt, hw, hw2, Int.natCast_nonneg, if_true]
    first | done | rfl
  case last =>
    intro _ _
    rw [hRl, mix_n _ _ hRl hDl]
    have k1 : ¬ ((8 + 1 : Nat) : Int) ≤ 8 := by omega
    unfold mi106 box107
    simp only [XG, L106_5, h106_5, go_sem, seval, bnd_ite, k1, decide_false]
    exact .mk (by simp) ⟨rfl, rfl, rfl, rfl, rfl⟩
theorem in106b (x : Mm) (h : x.sm) (hx : DskOk x.disk) (u : Int) : ∃ r, XL T 0 H106_10 L106_10 ⟨[(1, .int .i64 u), (2, .ptr 0 0 0), (6, .ptr 1 0 0), (8, .int .i64 ((0 + 1 : Nat) : Int))], mb106 x (x.disk.blks.map blkO)⟩ = some r ∧
    r.1 = .exit 2 ∧ lookA r.2.env 1 = .int .i64 u ∧ lookA r.2.env 6 = .ptr 1 0 0 ∧ r.2.mem = mb106 x ((imgB x).map blkO) := by
  generalize hR : imgB x = R
  have hRl : R.length = 16 := by rw [← hR]; exact imgB_len x
  have hDl := hx.blks
  have hat : ∀ (i : Nat) p, R[i]? = some p → p = imageBlk x ((i : Int) + 1) := fun i p h => (imgB_at (by rw [hR]; exact h)).2
  have e3 : ∀ i : Nat, i < 16 → E T 54 [mm x, .int .i64 ((i : Int) + 1)] [] = some (blkO (imageBlk x ((i : Int) + 1)), []) := fun i hi => e54 x h _ (by omega)
  unfold mm at e3
  unfold mb106
  generalize imgI x = I
  have main := XL_each (T := T) (b := 0) (hd := H106_10) (x := L106_10) R (fun (_ : Unit) _ => ()) (fun i _ => ⟨[(1, .int .i64 u), (2, .ptr 0 0 0), (6, .ptr 1 0 0), (8, .int .i64 ((i + 1 : Nat) : Int))], [some (7, [box107 x]), some (4, [.agg [.own 1 (x.disk.used.map bv), .own 1 (x.disk.taken.map bv), .own 3 (I.map inoO), .sl 2 0 16]]), some (3, (R.take i ++ x.disk.blks.drop i).map blkO)]⟩) (fun _ _ => True)
    (fun _ r => r.1 = .exit 2 ∧ lookA r.2.env 1 = .int .i64 u ∧ lookA r.2.env 6 = .ptr 1 0 0 ∧ r.2.mem = [some (7, [box107 x]), some (4, [.agg [.own 1 (x.disk.used.map bv), .own 1 (x.disk.taken.map bv), .own 3 (I.map inoO), .sl 2 0 16]]), some (3, R.map blkO)]) ?step ?last () trivial
  · rw [mix_0] at main; exact main
  case step =>
    intro i _ p hp hi _
    refine ⟨?_, trivial⟩
    have hpe := hat i p hp
    have e2 := e3 i (by omega)
    rw [← hpe] at e2
    unfold blkO at e2
    obtain ⟨M, q, hM, ml, mi, ms, mg, mt⟩ := mix_facts blkO_cool (hRl.trans hDl.symm) hp
    have mt : M.set i (.agg [.bool p.dir, .own 2 (p.slots.map slt), .str p.text]) = (R.take (i + 1) ++ x.disk.blks.drop (i + 1)).map blkO := mt
    have mg : M.getD i .undef = .agg [.bool q.dir, .own 2 (q.slots.map slt), .str q.text] := mg
    have htk : (p.slots.map slt).take p.slots.length = p.slots.map slt := List.take_of_length_le (by simp)
    have k1 : ((i + 1 : Nat) : Int) ≤ 16 := by omega
    have k2 : ((i + 1 : Nat) : Int) - 1 = (i : Int) := by omega
    have k3 : (i : Int) < 16 := by omega
    have k4 : i < 16 := by omega
    have k5 : ((i : Nat) : Int) + 1 = ((i + 1 : Nat) : Int) := rfl
    have hw := w_i64 (((i + 1 : Nat) : Int) + 1) (by omega)
    have hw2 := w_i64 (i : Int) (by omega)
    rw [k5] at e2
    rw [hDl] at ml
    unfold box107
    simp only [hM]
    simp only [XG, L106_10, h106_10, go_sem, seval, bnd_ite, is_set, k1, k2, k3, k4, e2, htk, ml, mi, ms, mg, mt, hw, hw2, Int.natCast_nonneg, if_true]
    first | done | rfl
  case last =>
    intro _ _
    rw [hRl, mix_n _ _ hRl hDl]
    have k1 : ¬ ((16 + 1 : Nat) : Int) ≤ 16 := by omega
    unfold box107
    simp only [XG, L106_10, h106_10, go_sem, seval, bnd_ite, k1, decide_false]
    exact .mk (by simp) ⟨rfl, rfl, rfl, rfl⟩
theorem e106 (x : Mm) (hk : x.ok) (h : x.sm) (u : Int) : E T 106 [mm x, .int .i64 u] [] = some (.tup [.str (if iuOk x u then unitT (imgD x) u else ⟨#[]⟩), .bool (iuOk x u)], []) := by
  rw [E_eq t106 (Nat.le_of_ble_eq_true rfl)]
  have e1 := e59 x hk
  unfold iuOk
  cases hm : memOk x with
  | false =>
    rw [hm] at e1
    unfold mm at e1
    simp only [mm, F106, go_sem, seval, bnd_ite, e1, Bool.not_false, Bool.false_and, if_true, Bool.false_eq_true, if_false]
  | true =>
    rw [hm] at e1
    unfold mm at e1
    cases hi : inside u 0 20 with
    | false => simp only [mm, F106, go_sem, seval, bnd_ite, e1, e116i, hi, Bool.not_false, Bool.not_true, Bool.and_false, Bool.false_and, if_true, Bool.false_eq_true, if_false]
    | true =>
      have hh := memHead_use (x := x) (by
        unfold memOk at hm
        rw [Bool.and_eq_true] at hm
        exact hm.1)
      have e2 := e158 x.disk h.disk
      obtain ⟨⟨y, e, m⟩, q1, qx, q2, q3, q4, qm⟩ := in106a x h hh.1 u
      simp only at qx q2 q3 q4 qm; subst qx; subst qm
      obtain ⟨⟨y', e', m'⟩, p1, px, p2, p3, pm⟩ := in106b x h hh.1 u
      simp only at px p2 p3 pm; subst px; subst pm
      have e3 := e198 (imgD x) (imgD_ok hk h) u
      unfold dsk imgD at e3
      simp only at e3
      rw [show (⟨x.disk.used, x.disk.taken, imgI x, imgB x⟩ : Dsk) = imgD x from rfl] at e3
      have hs1 : ((0 + 1 : Nat) : Int) = 1 := rfl
      rw [hs1] at q1 p1
      unfold mi106 box107 at q1
      unfold mb106 box107 at p1
      unfold dsk dskO at e2
      have u1 : (x.disk.used.map bv).take x.disk.used.length = x.disk.used.map bv := List.take_of_length_le (by simp)
      have u2 : (x.disk.taken.map bv).take x.disk.taken.length = x.disk.taken.map bv := List.take_of_length_le (by simp)
      have u3 : ((imgI x).map inoO).take 8 = (imgI x).map inoO := List.take_of_length_le (by simp [imgI_len])
      have u4 : ((imgB x).map blkO).take 16 = (imgB x).map blkO := List.take_of_length_le (by simp [imgB_len])
      have u5 : (x.disk.inos.map inoO).take 8 = x.disk.inos.map inoO := List.take_of_length_le (by simp [hh.1.inos])
      have u6 : (x.disk.blks.map blkO).take 16 = x.disk.blks.map blkO := List.take_of_length_le (by simp [hh.1.blks])
      have hI := imgI_len x
      have hB := imgB_len x
      have nI := hh.1.inos
      have nB := hh.1.blks
      generalize unitOk (imgD x) u = O at *
      generalize unitT (imgD x) u = S at *
      generalize imgI x = I at *
      generalize imgB x = B at *
      simp only [mm, F106, h106_5, h106_10, mi106, mb106, box107, go_sem, seval, bnd_ite, e1, e2, e3, e116i, hi, q1, q2, q3, q4, p1, p2, p3, u1, u2, u3, u4, u5, u6, hI, hB, nI, nB, Bool.not_true, Bool.and_self, Bool.true_and, if_true, Bool.false_eq_true, if_false]
      first | done | rfl
set_option maxHeartbeats 4000000 in
theorem e25 (x : Mm) (h : x.ok) (u : Int) (hb : -9223372036854775808 ≤ u ∧ u ≤ 9223372036854775807) : E T 25 [mm x, .int .i64 u] [] = some (.bool true, []) := by
  rw [E_eq t25 (Nat.le_of_ble_eq_true rfl)]
  obtain ⟨r, h1, h2, h3, h4⟩ := e43 x 1048576 (by omega) (by omega) h
  have c47 := e47 x x h
  have c45 := fun h => e45 x h
  have cA := fun hs => e106 x h hs u
  have cB := fun hs => e107 x h hs u
  simp only [mm, mmO] at h1 c45 c47 cA cB ⊢
  simp only [F25, go_sem, seval, bnd_ite, h1]
  by_cases c1 : r < 0
  · rw [if_pos c1]
  rw [if_neg c1]
  have hm := h4 (by omega)
  simp only [go_sem, seval, bnd_ite, c45 hm, cA hm, cB hm, c47, decide_true, decide_false, Bool.not_true, Bool.false_eq_true, if_false]
  first | done | (cases iuOk x u <;> simp) | skip
end Go.Proofs.Ytaaajjinpppgeaa

/- FnExactImageUnit answers true for all arguments. Own work; no condition. -/
set_option linter.unusedVariables false
namespace Go.Proofs.Ytaaajjinpppgeaa
open Go Go.Abs
def shFnExactImageUnit : List Shp := [shM, .int .i64]
theorem isFnExactImageUnit {avs : List AV} (h : IsAs shFnExactImageUnit avs) : E T 25 avs [] = some (.bool true, []) := by
  cases h with | cons h1 h =>
  cases h with | cons h2 h =>
  cases h
  obtain ⟨x1, rfl, hx1⟩ := isM h1
  obtain ⟨cs, h2, rfl⟩ := h2
  cases h2 with | int hw2 =>
  rename_i n2
  have hb2 : -9223372036854775808 ≤ n2 ∧ n2 ≤ 9223372036854775807 := by
    have h3 : decide (IntKind.i64.min ≤ n2) = true ∧ decide (n2 ≤ IntKind.i64.max) = true := by simpa [Lit.wf] using hw2
    have e1 : IntKind.i64.min = -9223372036854775808 := by decide
    have e2 : IntKind.i64.max = 9223372036854775807 := by decide
    rw [e1, e2] at h3
    exact ⟨of_decide_eq_true h3.1, of_decide_eq_true h3.2⟩
  exact e25 x1 hx1 n2 hb2
end Go.Proofs.Ytaaajjinpppgeaa

/- The words of a program's head, split without waste. Own work; no condition. -/
set_option linter.unusedVariables false
set_option linter.unusedSimpArgs false
set_option linter.unusedSectionVars false
namespace Go.Abs
open Go
def wAcc : List Char → List Char → List (List Char) → List (List Char)
  | [], cur, acc => (cur.reverse :: acc).reverse
  | c :: r, cur, acc => if c.toNat = 32 then wAcc r [] (cur.reverse :: acc) else wAcc r (c :: cur) acc
def joinW (cur : List Char) : List (List Char) → List (List Char)
  | w :: ws => (cur ++ w) :: ws
  | [] => [cur]
theorem ws_c (c : Char) (r : List Char) : wordsSigns (c :: r) = if c.toNat = 32 then [] :: wordsSigns r else joinW [c] (wordsSigns r) := by
  by_cases h : c.toNat = 32
  · rw [if_pos h]
    have : c = Char.ofNat 32 := by
      apply Char.ext
      apply UInt32.toNat_inj.1
      exact h
    subst this; rfl
  · rw [if_neg h]
    rw [wordsSigns.eq_3 _ _ (fun e => h (by rw [e]; rfl))]
    cases wordsSigns r <;> rfl
theorem ws_ne (l : List Char) : wordsSigns l ≠ [] := by
  cases l with
  | nil => simp [wordsSigns]
  | cons c r =>
    rw [ws_c]
    split
    · simp
    · cases wordsSigns r <;> simp [joinW]
theorem wAcc_eq : ∀ (l cur : List Char) (acc : List (List Char)), wAcc l cur acc = acc.reverse ++ joinW cur.reverse (wordsSigns l) := by
  intro l
  induction l with
  | nil => intro cur acc; simp [wAcc, wordsSigns, joinW]
  | cons c r ih =>
    intro cur acc
    simp only [wAcc]
    rw [ws_c]
    by_cases h : c.toNat = 32
    · rw [if_pos h, if_pos h, ih]
      cases hr : wordsSigns r with
      | nil => exact absurd hr (ws_ne r)
      | cons w ws => simp [joinW]
    · rw [if_neg h, if_neg h, ih]
      cases wordsSigns r <;> simp [joinW]
theorem words_eq (l : List Char) : wordsSigns l = wAcc l [] [] := by
  rw [wAcc_eq]
  have := ws_ne l
  cases h : wordsSigns l with
  | nil => exact absurd h this
  | cons w ws => simp [joinW]
theorem strip_cut (r : List (List Char)) : stripLifts liftWords ("cut".toList :: r) = ([], "cut".toList :: r) := by kernel_rfl
theorem lifts_of {P : Program} {r : List (List Char)} (h : behindMainWord (wordsSigns P.initOrder.toList) = "cut".toList :: r) : P.headLifts = [] := by
  unfold Program.headLifts
  rw [h, strip_cut]; kernel_rfl
theorem liftsFinal_of {P : Program} {r : List (List Char)} (h : behindMainWord (wordsSigns P.initOrder.toList) = "cut".toList :: r) : P.liftsFinal = false := by
  unfold Program.liftsFinal
  rw [h, lifts_of h]; kernel_rfl
theorem make_of {P : Program} {r : List (List Char)} (h : behindMainWord (wordsSigns P.initOrder.toList) = "cut".toList :: r) : P.make = some .cut := by
  unfold Program.make
  rw [h]; kernel_rfl
theorem mayEnter_of {P : Program} {r : List (List Char)} (h : behindMainWord (wordsSigns P.initOrder.toList) = "cut".toList :: r) (h1 : P.laysLater = false) (h2 : P.bearsReflect = false) (h3 : P.doorFits [] = true) : P.mayEnter = true := by
  unfold Program.mayEnter
  rw [h]
  simp only [strip_cut, h1, h2, h3]
  kernel_rfl
open Go.RowKit in
/-- The closed facts of a row, one by one. -/
theorem facts_of {P : Program} {f : FuncId} {fn : Func} {s : ChangeSpec} {c : OpenClaim} (a1 : c.wf (OpenSpec.ofChange s) = true) (a2 : laidOutB P = true) (a3 : mapsRowed P = true)
    (a4 : fn.params.all (P.readableRec ·) = true) (a5 : namedTie P c.named s.vars = true) (a6 : (c.stops == []) = true) (a7 : (P.stops == []) = true) (a8 : (c.knobs == []) = true) (a9 : (P.stopKnobs == []) = true)
    (a10 : (c.inPlace == P.inPlace f) = true) (a11 : (c.unfollowed == P.unfollowed f) = true) (a12 : (c.recurses == P.recurses f) = true) (a13 : (c.named == P.varsNamed f) = true)
    (a14 : (c.maps == (fn.params.toList ++ s.plain.varTypes P).any (P.mapsRec ·)) = true) (a15 : (c.ifaces == (fn.params.toList ++ s.plain.varTypes P).any (P.ifacesRec ·)) = true) (a16 : (c.mapsOut == P.mapsAmong fn.resultTypes.toList) = true)
    (a17 : (c.loops == (fn.params.toList ++ s.plain.varTypes P).any (P.loopsFrom ·)) = true) (a18 : (c.wideKeys == (fn.params.toList ++ s.plain.varTypes P ++ fn.resultTypes.toList).any (P.wideKeysFrom ·)) = true)
    (a19 : s.vars.all (P.varReadable ·) = true) (a20 : fn.resultTypes.all (fun t => P.readableRec t && decide (t < P.types.size)) = true) (a21 : (c.ifacesOut == fn.resultTypes.toList.any (P.ifacesRec ·)) = true)
    (a22 : (c.loopsOut == fn.resultTypes.toList.any (P.loopsFrom ·)) = true) (a23 : (c.plainKeys == P.plainKeys) = true) (a24 : c.shortTexts.isNone = true) (a25 : P.stopsHeard = true) (a26 : P.mayEnter = true)
    (a27 : (c.lifted == P.liftsFinal) = true) (a28 : (P.make == some c.make) = true)
    (a29 : c.domain.isEmpty = true) (a29' : c.kinds = []) (a30 : (c.pinned == c.pinnedBy) = true)
    (a31 : (c.veiled == (fn.params.toList ++ s.plain.varTypes P ++ fn.resultTypes.toList).any (P.veiledRec ·)) = true) (a32 : c.veiledFits P fn.params.toList (fn.params.toList ++ s.plain.varTypes P ++ fn.resultTypes.toList) = true) :
    joinedFacts P f fn s c = true := by
  unfold joinedFacts
  rw [a1, a2, a3, a4, a5, a6, a7, a8, a9, a10, a11, a12, a13, a14, a15, a16, a17, a18, a19, a20, a21, a22, a23, a24, a25, a26, a27, a28, a29, a29', a30, a31, a32]
  rfl
end Go.Abs

