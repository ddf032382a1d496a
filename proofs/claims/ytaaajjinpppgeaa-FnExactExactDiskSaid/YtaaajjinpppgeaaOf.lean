/- What is right: one that leans, small functions. Own work; no condition. -/
import Derived.Test.YtaaajjinpppgeaaFu
import Derived.Test.YtaaajjinpppgeaaFr
import Derived.Test.YtaaajjinpppgeaaOe
import Derived.Test.YtaaajjinpppgeaaLz
import Derived.Test.YtaaajjinpppgeaaJa
set_option linter.unusedVariables false
set_option linter.unusedSimpArgs false
set_option linter.unusedSectionVars false
namespace Go.Proofs.Ytaaajjinpppgeaa
open Go Go.Abs
set_option maxRecDepth 100000
def slt0 : Slt := ⟨⟨#[]⟩, 0⟩
def mmV (x : Mm) : List AV := [.ro 1 (x.disk.used.map bv), .ro 1 (x.disk.taken.map bv), .ro 3 (x.disk.inos.map ino), .ro 3 (x.disk.blks.map blk), .ro 1 (x.dirty.map bv), .ro 11 (x.deps.map dp), .int .i64 x.next]
def dpV (d : Dp) : List AV := [.int .i64 d.id, .int .i64 d.kind, .int .i64 d.ino, .int .i64 d.ptr, .int .i64 d.block, .int .i64 d.slot, .str d.name, .bool d.bits, .bool d.other, .int .i64 d.after, .ro 1 (d.blocks.map iv)]
structure DskOk (x : Dsk) : Prop where
  ino : ∀ p ∈ x.inos, inoOk p = true
  blk : ∀ p ∈ x.blks, blkOk p = true
  used : x.used.length = 16
  taken : x.taken.length = 8
  inos : x.inos.length = 8
  blks : x.blks.length = 16
theorem dskOk_iff {x : Dsk} : dskOk x = true ↔ DskOk x := by
  unfold dskOk
  simp only [Bool.and_eq_true, List.all_eq_true, decide_eq_true_eq]
  exact ⟨fun ⟨a, b, ⟨⟨c, d⟩, e⟩, f⟩ => ⟨a, b, c, d, e, f⟩, fun ⟨a, b, c, d, e, f⟩ => ⟨a, b, ⟨⟨c, d⟩, e⟩, f⟩⟩
structure InoOk (x : Ino) : Prop where
  kind : 0 ≤ x.kind ∧ x.kind ≤ 2
  links : 0 ≤ x.links ∧ x.links ≤ 200
  two : x.ptrs.length = 2
  ptr : ∀ p ∈ x.ptrs, 0 ≤ p ∧ p ≤ 16 ∧ (x.kind = 0 → p = 0)
  none : x.kind = 0 → x.links = 0
theorem inoOk_iff {x : Ino} : inoOk x = true ↔ InoOk x := by
  unfold inoOk ptrOk inside
  simp only [Bool.and_eq_true, List.all_eq_true, decide_eq_true_eq, Bool.not_eq_true', Bool.and_eq_false_iff, decide_eq_false_iff_not, Bool.or_eq_true]
  constructor
  · rintro ⟨a, ⟨⟨b, c⟩, d⟩, e⟩
    refine ⟨b, c, d, fun p hp => ?_, fun h => ?_⟩
    · have := a p hp; omega
    · omega
  · rintro ⟨b, c, d, a, e⟩
    refine ⟨fun p hp => ?_, ⟨⟨b, c⟩, d⟩, ?_⟩
    · have := a p hp; omega
    · omega
theorem blkOk_dir {x : Blk} (h : blkOk x = true) (hd : x.dir = true) : x.slots.length = 4 ∧ x.text = ⟨#[]⟩ ∧ ∀ (i : Nat) s, x.slots[i]? = some s → slotOk x.slots i s = true := by
  unfold blkOk at h
  rw [hd, if_pos rfl] at h
  simp only [Bool.and_eq_true, List.all_eq_true, decide_eq_true_eq] at h
  obtain ⟨h1, h2, h3⟩ := h
  refine ⟨h2, h3, fun i s hs => ?_⟩
  have := h1 (s, i) (List.mem_of_getElem? (i := i) (by rw [List.getElem?_zipIdx, hs]; simp))
  exact this
theorem blkOk_txt {x : Blk} (h : blkOk x = true) (hd : x.dir = false) : x.slots = [] ∧ x.text.size ≤ 16 := by
  rw [blk_nil hd] at h
  simp only [Bool.and_eq_true, decide_eq_true_eq] at h
  exact ⟨List.eq_nil_of_length_eq_zero h.1, h.2⟩
theorem e228 (d : Dp) : E T 228 [dp d] [] = some (.bool (decide (d.kind = 1) || decide (d.kind = 6)), []) := by
  rw [E_eq t228 (Nat.le_of_ble_eq_true rfl)]
  simp only [dp, F228, go_sem, seval, bnd_ite]
theorem e229 (d : Dp) : E T 229 [dp d] [] = some (.bool (decide (d.kind = 2) || decide (d.kind = 3)), []) := by
  rw [E_eq t229 (Nat.le_of_ble_eq_true rfl)]
  simp only [dp, F229, go_sem, seval, bnd_ite]
theorem e232 (d : Dp) (n : Int) : E T 232 [dp d, .rop [.int .i64 n]] [] = some (.bool (decide (d.id = n)), []) := by
  rw [E_eq t232 (Nat.le_of_ble_eq_true rfl)]
  simp only [dp, F232, go_sem, seval, bnd_ite]
def placeOf (l : List Dp) (n : Int) : Int := match l.findIdx? (fun d => decide (d.id = n)) with | some i => (i : Nat) | none => -1
theorem e231 (l : List Dp) (n : Int) (hl : l.length ≤ maxLen) : E T 231 [.ro 11 (l.map dp), .fn 232 [.rop [.int .i64 n]]] [] = some (.int .i64 (placeOf l n), []) := by
  rw [E_eq t231 (Nat.le_of_ble_eq_true rfl)]
  unfold maxLen at hl
  unfold placeOf
  refine (XL_find (T := T) (b := 0) (hd := H231_2) (x := L231_2) l (fun d => decide (d.id = n)) (fun i => ⟨[(0, .ro 11 (l.map dp)), (1, .fn 232 [.rop [.int .i64 n]]), (7, .int .i64 l.length), (8, .int .i64 (i : Nat))], []⟩)
    (fun o r => match o with | some i => r.1 = .ret ∧ lookA r.2.env 4 = .int .i64 (i : Nat) | none => r.1 = .exit 0) ?step ?hit ?last).elim ?main
  case step =>
    intro i d hp hi hP _
    have hi1 : (i : Int) < (l.length : Int) := by omega
    have gp : (l.map dp).getD i .undef = .agg (dpV d) := gD_map hp
    have e1 : E T 232 [.agg (dpV d), .rop [.int .i64 n]] [] = some (.bool (decide (d.id = n)), []) := e232 d n
    unfold dpV at gp e1
    simp only [XG, L231_2, h231_2, go_sem, seval, bnd_ite, hi1, gp, Int.natCast_nonneg, w_i64 ((i : Int) + 1) (by omega), e1, hP, Bool.false_eq_true, if_false]
    rfl
  case hit =>
    intro i d hp hi hP _
    have hi1 : (i : Int) < (l.length : Int) := by omega
    have gp : (l.map dp).getD i .undef = .agg (dpV d) := gD_map hp
    have e1 : E T 232 [.agg (dpV d), .rop [.int .i64 n]] [] = some (.bool (decide (d.id = n)), []) := e232 d n
    unfold dpV at gp e1
    simp only [XG, L231_2, h231_2, go_sem, seval, bnd_ite, hi1, gp, Int.natCast_nonneg, w_i64 ((i : Int) + 1) (by omega), e1, hP, if_true]
    exact .mk (by simp) ⟨rfl, rfl⟩
  case last =>
    intro _
    simp only [XG, L231_2, h231_2, go_sem, seval, bnd_ite, Int.lt_irrefl, decide_false]
    exact .mk (by simp) rfl
  case main =>
  rintro ⟨y, e, m⟩ ⟨k1, k2⟩
  have hs : ((0 : Nat) : Int) = 0 := rfl
  simp only [hs] at k1
  split at k2
  · rename_i o i heq
    obtain ⟨k2, k3⟩ := k2
    simp only at k2 k3; subst k2
    simp only [F231, h231_2, go_sem, seval, bnd_ite, k1, k3, heq]
  · rename_i o heq
    simp only at k2; subst k2
    simp only [F231, h231_2, go_sem, seval, bnd_ite, k1, heq]
theorem e157 (x : Mm) (n : Int) (hl : x.deps.length ≤ maxLen) : E T 157 [mm x, .int .i64 n] [] = some (.int .i64 (placeOf x.deps n), []) := by
  rw [E_eq t157 (Nat.le_of_ble_eq_true rfl)]
  have e1 := e231 x.deps n hl
  simp only [mm, F157, go_sem, seval, bnd_ite, e1]
def newId (l : List Dp) (i : Nat) (d : Dp) : Bool := (l.take i).all fun q => !decide (q.id = d.id)
theorem placeOf_at {l : List Dp} {i : Nat} {d : Dp} (h : l[i]? = some d) : placeOf l d.id = (i : Nat) ↔ newId l i d = true := by
  unfold placeOf newId
  obtain ⟨hi, rfl⟩ := List.getElem?_eq_some_iff.1 h
  cases e : l.findIdx? (fun x => decide (x.id = l[i].id)) with
  | none =>
    rw [find_none] at e
    have := e l[i] (List.getElem_mem hi)
    simp at this
  | some j =>
    rw [List.findIdx?_eq_some_iff_getElem] at e
    obtain ⟨hj, h1, h2⟩ := e
    simp only [decide_eq_true_eq] at h1
    constructor
    · intro hij
      have hij : ((j : Nat) : Int) = (i : Nat) := hij
      have : j = i := by omega
      subst this
      rw [List.all_eq_true]
      intro q hq
      obtain ⟨k, hk, rfl⟩ := List.mem_take_iff_getElem.1 hq
      have := h2 k (by omega)
      simpa using this
    · intro hall
      rw [List.all_eq_true] at hall
      by_cases c : j < i
      · have := hall l[j] (List.mem_take_iff_getElem.2 ⟨j, by omega, rfl⟩)
        simp [h1] at this
      · by_cases c2 : i < j
        · have := h2 i c2; simp at this
        · have : j = i := by omega
          rw [this]
def depBase (n : Int) (d : Dp) : Bool := inside d.id 1 (n - 1) && inside d.kind 1 6 && inside d.ino 1 8 && inside d.ptr 0 1 && inside d.block 0 16 && inside d.slot 0 3 && inside d.after 0 (n - 1)
def depBlocks (d : Dp) : Bool := d.blocks.all fun p => inside p 1 16
def blkAt (x : Dsk) (i : Int) : Blk := x.blks.getD (i - 1).toNat blk0
def inoAt (x : Dsk) (i : Int) : Ino := x.inos.getD (i - 1).toNat ino0
def depAt (x : Dsk) (d : Dp) : Bool :=
  if d.kind = 1 ∨ d.kind = 6 then decide (0 < d.block) && decide ((inoAt x d.ino).ptrs.getD d.ptr.toNat 0 = d.block)
  else if d.kind = 2 ∨ d.kind = 3 then decide (0 < d.block) && (blkAt x d.block).dir && decide (((blkAt x d.block).slots.getD d.slot.toNat slt0).ino = d.ino)
  else if d.kind = 4 then decide (0 < d.block) && (blkAt x d.block).dir && nameOk d.name
  else true
end Go.Proofs.Ytaaajjinpppgeaa
