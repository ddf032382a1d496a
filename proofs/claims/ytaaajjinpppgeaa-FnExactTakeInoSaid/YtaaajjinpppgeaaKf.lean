/- Marking dependencies and memories. Own work; no condition. -/
import Derived.Test.YtaaajjinpppgeaaFp
import Derived.Test.YtaaajjinpppgeaaKe
import Derived.Test.YtaaajjinpppgeaaMa
set_option linter.unusedVariables false
set_option linter.unusedSimpArgs false
set_option linter.unusedSectionVars false
namespace Go.Proofs.Ytaaajjinpppgeaa
open Go Go.Abs
set_option maxRecDepth 100000
noncomputable def mkDp (k : Int) (x : Dp) : Dp := ⟨k, k + 1, k + 1 + 1, k + 1 + 1 + 1, k + 1 + 1 + 1 + 1, k + 1 + 1 + 1 + 1 + 1, mtext (k + 1 + 1 + 1 + 1 + 1 + 1), mb (k + 1 + 1 + 1 + 1 + 1 + 1 + 1), mb (k + 1 + 1 + 1 + 1 + 1 + 1 + 1 + 1), k + 1 + 1 + 1 + 1 + 1 + 1 + 1 + 1 + 1, (List.range x.blocks.length).map fun i => k + 1 + 1 + 1 + 1 + 1 + 1 + 1 + 1 + 1 + 1 + (i : Nat)⟩
def coDp (x : Dp) : Nat := 10 + x.blocks.length
theorem costDp {l : List Dp} (hl : l.length ≤ 1048576) (hs : ∀ x ∈ l, x.sm) (i : Nat) : costL coDp (l.take i) ≤ 1099522113536 := by
  have h1 := costL_le (cost := coDp) (C := 1048586) (l := l.take i) (fun x hx => by have := hs x (List.mem_of_mem_take hx); unfold Dp.sm at this; unfold coDp; omega)
  have h2 : (l.take i).length ≤ l.length := by simp; omega
  have h3 : (l.take i).length * 1048586 ≤ 1048576 * 1048586 := Nat.mul_le_mul_right _ (by omega)
  omega
set_option maxHeartbeats 1000000 in
theorem e146 (l : List Dp) (k : Int) (h0 : 0 ≤ k) (hk : k ≤ 1125899906842624) (hl : l.length ≤ 1048576) (hs : ∀ x ∈ l, x.sm) :
    E T 146 [.sl 0 0 l.length, .int .i64 k] [some (11, l.map dpO)] = some (.int .i64 (k + costL coDp l), [some (11, (mkL mkDp coDp k l).map dpO)]) := by
  rw [E_eq t146 (Nat.le_of_ble_eq_true rfl)]
  simp only [F146, h146_2, go_sem, seval, bnd_ite]
  refine (XL_inv (T := T) (b := 1) (hd := H146_2) (x := L146_2) (β := Unit) (fun i _ => ⟨[(0, .sl 0 0 l.length), (1, .int .i64 (k + (costL coDp (l.take i) : Nat))), (5, .int .i64 (i : Nat))], [some (11, (mkP mkDp coDp k l i).map dpO)]⟩)
    (fun i _ => True) l.length (fun r => r.1 = .exit 0 ∧ r.2.mem = [some (11, (mkL mkDp coDp k l).map dpO)] ∧ lookA r.2.env 1 = .int .i64 (k + (costL coDp l : Nat))) ?step ?last 0 () (by omega) trivial).elim ?main
  case step =>
    intro i _ hi _
    obtain ⟨p, hp⟩ := get_at hi
    have hi1 : (i : Int) < (l.length : Int) := by omega
    have hci := costDp hl hs i
    have hps := hs p (List.mem_of_getElem? hp)
    unfold Dp.sm at hps
    left
    refine ⟨(), ?_, trivial⟩
    have ms := mkP_set (st := mkDp) (cost := coDp) (k := k) hp
    have cs := costL_succ (cost := coDp) hp
    have gx : ((mkP mkDp coDp k l i).map dpO).getD i .undef = .agg [.int .i64 p.id, .int .i64 p.kind, .int .i64 p.ino, .int .i64 p.ptr, .int .i64 p.block, .int .i64 p.slot, .str p.name, .bool p.bits, .bool p.other, .int .i64 p.after, .own 1 (p.blocks.map iv)] := gD_map (mkP_get hp)
    generalize hR : mkP mkDp coDp k l i = R at *
    have hml : R.length = l.length := by rw [← hR]; exact mkP_len
    have hmi : i < (R.map dpO).length := by rw [List.length_map, hml]; exact hi
    generalize hK : k + (costL coDp (l.take i) : Int) = K at *
    have e1 := e100 p.blocks (K + 1 + 1 + 1 + 1 + 1 + 1 + 1 + 1 + 1 + 1) (by omega) (by omega) hps
    have e4 := e207 (K + 1 + 1 + 1 + 1 + 1 + 1) (by omega) (by omega)
    have sm : (R.map dpO).set i (.agg [.int .i64 K, .int .i64 (K + 1), .int .i64 (K + 1 + 1), .int .i64 (K + 1 + 1 + 1), .int .i64 (K + 1 + 1 + 1 + 1), .int .i64 (K + 1 + 1 + 1 + 1 + 1), .str (mtext (K + 1 + 1 + 1 + 1 + 1 + 1)), .bool (mb (K + 1 + 1 + 1 + 1 + 1 + 1 + 1)), .bool (mb (K + 1 + 1 + 1 + 1 + 1 + 1 + 1 + 1)), .int .i64 (K + 1 + 1 + 1 + 1 + 1 + 1 + 1 + 1 + 1), .own 1 (((List.range p.blocks.length).map fun i => K + 1 + 1 + 1 + 1 + 1 + 1 + 1 + 1 + 1 + 1 + (i : Nat)).map iv)]) = (mkP mkDp coDp k l (i + 1)).map dpO := by rw [← ms]; exact set_map (f := dpO) (x := mkDp K p)
    have e2 : k + ((costL coDp (l.take (i + 1)) : Nat) : Int) = K + 1 + 1 + 1 + 1 + 1 + 1 + 1 + 1 + 1 + 1 + (p.blocks.length : Int) := by rw [cs, coDp]; omega
    have it : ((i : Int) + 0).toNat = i := by omega
    generalize hM : ((List.range p.blocks.length).map fun i => K + 1 + 1 + 1 + 1 + 1 + 1 + 1 + 1 + 1 + 1 + (i : Nat)) = M at *
    have hmk : M.length = p.blocks.length := by rw [← hM]; simp
    have htk : (List.map iv M).take p.blocks.length = List.map iv M := List.take_of_length_le (by simp [hmk])
    unfold mb at sm
    simp only [XG, L146_2, h146_2, it, go_sem, seval, bnd_ite, hi1, hml, hi, gx, getD_set hmi, List.set_set, Int.natCast_nonneg, w_i64 ((i : Int) + 1) (by omega), w_i64 (K + 1) (by omega), w_i64 (K + 1 + 1) (by omega), w_i64 (K + 1 + 1 + 1) (by omega), w_i64 (K + 1 + 1 + 1 + 1) (by omega), w_i64 (K + 1 + 1 + 1 + 1 + 1) (by omega), w_i64 (K + 1 + 1 + 1 + 1 + 1 + 1) (by omega), w_i64 (K + 1 + 1 + 1 + 1 + 1 + 1 + 1) (by omega), w_i64 (K + 1 + 1 + 1 + 1 + 1 + 1 + 1 + 1) (by omega), w_i64 (K + 1 + 1 + 1 + 1 + 1 + 1 + 1 + 1 + 1) (by omega), w_i64 (K + 1 + 1 + 1 + 1 + 1 + 1 + 1 + 1 + 1 + 1) (by omega), e1, e4, is_set, dpO_is, hmk, htk, sm]
    rw [e2]; rfl
  case last =>
    intro _ _
    have hml : (mkP mkDp coDp k l l.length).length = l.length := mkP_len
    simp only [XG, L146_2, h146_2, go_sem, seval, bnd_ite, hml, Int.lt_irrefl, decide_false]
    exact .mk (by simp) ⟨rfl, by rw [mkP_all], rfl⟩
  case main =>
  rintro ⟨x, e, m⟩ ⟨h1, h2, h3, h4, h5⟩
  have h0' : ((0 : Nat) : Int) = 0 := rfl
  simp only [mkP_0, List.take_zero, costL, h0', Int.add_zero] at h1
  simp only at h3 h4 h5; subst h3; subst h4
  simp only [h1, go_sem, seval, h5]
set_option maxHeartbeats 1000000 in
theorem e164 (l : List Dp) (k : Int) (h0 : 0 ≤ k) (hk : k ≤ 1125899906842624) (hl : l.length ≤ 1048576) (hs : ∀ x ∈ l, x.sm) :
    E T 164 [.ro 11 ((mkL mkDp coDp k l).map dp), .int .i64 k] [] = some (.int .i64 (k + costL coDp l), []) := by
  rw [E_eq t164 (Nat.le_of_ble_eq_true rfl)]
  simp only [F164, h164_2, go_sem, seval, bnd_ite]
  generalize hL : mkL mkDp coDp k l = L
  have hln : L.length = l.length := by rw [← hL]; exact mkL_len
  refine (XL_inv (T := T) (b := 0) (hd := H164_2) (x := L164_2) (β := Unit) (fun i _ => ⟨[(0, .ro 11 (L.map dp)), (1, .int .i64 (k + (costL coDp (l.take i) : Nat))), (5, .int .i64 (i : Nat))], []⟩)
    (fun i _ => True) l.length (fun r => r.1 = .exit 0 ∧ lookA r.2.env 1 = .int .i64 (k + (costL coDp l : Nat))) ?step ?last 0 () (by omega) trivial).elim ?main
  case step =>
    intro i _ hi _
    obtain ⟨p, hp⟩ := get_at hi
    have hi1 : (i : Int) < (l.length : Int) := by omega
    have hci := costDp hl hs i
    have hps := hs p (List.mem_of_getElem? hp)
    unfold Dp.sm at hps
    left
    refine ⟨(), ?_, trivial⟩
    have cs := costL_succ (cost := coDp) hp
    have hat : L[i]? = some (mkDp (k + costL coDp (l.take i)) p) := by rw [← hL]; exact mkL_at hp
    generalize hK : k + (costL coDp (l.take i) : Int) = K at *
    have gx : (L.map dp).getD i .undef = .agg [.int .i64 K, .int .i64 (K + 1), .int .i64 (K + 1 + 1), .int .i64 (K + 1 + 1 + 1), .int .i64 (K + 1 + 1 + 1 + 1), .int .i64 (K + 1 + 1 + 1 + 1 + 1), .str (mtext (K + 1 + 1 + 1 + 1 + 1 + 1)), .bool (mb (K + 1 + 1 + 1 + 1 + 1 + 1 + 1)), .bool (mb (K + 1 + 1 + 1 + 1 + 1 + 1 + 1 + 1)), .int .i64 (K + 1 + 1 + 1 + 1 + 1 + 1 + 1 + 1 + 1), .ro 1 (((List.range p.blocks.length).map fun i => K + 1 + 1 + 1 + 1 + 1 + 1 + 1 + 1 + 1 + 1 + (i : Nat)).map iv)] := gD_map hat
    have e1 := e101 p.blocks.length (K + 1 + 1 + 1 + 1 + 1 + 1 + 1 + 1 + 1 + 1) (by omega) (by omega) hps
    have e4 := e207 (K + 1 + 1 + 1 + 1 + 1 + 1) (by omega) (by omega)
    have e2 : k + ((costL coDp (l.take (i + 1)) : Nat) : Int) = K + 1 + 1 + 1 + 1 + 1 + 1 + 1 + 1 + 1 + 1 + (p.blocks.length : Int) := by rw [cs, coDp]; omega
    have e3 : ¬ K + 1 + 1 + 1 + 1 + 1 + 1 + 1 + 1 + 1 + 1 + (p.blocks.length : Int) < 0 := by omega
    generalize hM : ((List.range p.blocks.length).map fun i => K + 1 + 1 + 1 + 1 + 1 + 1 + 1 + 1 + 1 + 1 + (i : Nat)) = M at *
    unfold mb at gx
    simp only [XG, L164_2, h164_2, go_sem, seval, bnd_ite, hi1, hln, hi, gx, e1, e3, e4, bdec, bne_dec, decide_true, decide_false, Bool.not_true, Bool.false_eq_true, if_false, Int.natCast_nonneg, w_i64 ((i : Int) + 1) (by omega), w_i64 (K + 1) (by omega), w_i64 (K + 1 + 1) (by omega), w_i64 (K + 1 + 1 + 1) (by omega), w_i64 (K + 1 + 1 + 1 + 1) (by omega), w_i64 (K + 1 + 1 + 1 + 1 + 1) (by omega), w_i64 (K + 1 + 1 + 1 + 1 + 1 + 1) (by omega), w_i64 (K + 1 + 1 + 1 + 1 + 1 + 1 + 1) (by omega), w_i64 (K + 1 + 1 + 1 + 1 + 1 + 1 + 1 + 1) (by omega), w_i64 (K + 1 + 1 + 1 + 1 + 1 + 1 + 1 + 1 + 1) (by omega), w_i64 (K + 1 + 1 + 1 + 1 + 1 + 1 + 1 + 1 + 1 + 1) (by omega)]
    rw [e2]; rfl
  case last =>
    intro _ _
    simp only [XG, L164_2, h164_2, go_sem, seval, bnd_ite, hln, Int.lt_irrefl, decide_false]
    exact .mk (by simp) ⟨rfl, rfl⟩
  case main =>
  rintro ⟨x, e, m⟩ ⟨h1, h2, h3, h4⟩
  have hs : ((0 : Nat) : Int) = 0 := rfl
  simp only [List.take_zero, costL, hs, Int.add_zero] at h1
  simp only at h3 h4; subst h3
  simp only [h1, go_sem, seval, h4]
def coMm (x : Mm) : Nat := coDsk x.disk + x.dirty.length + costL coDp x.deps
noncomputable def mkMm (k : Int) (x : Mm) : Mm := ⟨mkDsk k x.disk, mkB (k + coDsk x.disk) x.dirty.length, mkL mkDp coDp (k + coDsk x.disk + x.dirty.length) x.deps, x.next⟩
/-- The rows of a memory's own memory. -/
def mmR (x : Mm) : Mem := dskR x.disk ++ [some (1, x.dirty.map bv), some (11, x.deps.map dpO)]
theorem coDsk_le' {x : Dsk} (h : x.sm) : coDsk x ≤ 4398046511104 := by
  obtain ⟨c1, c2⟩ := coDsk_le h
  have u1 := h.used
  have u2 := h.taken
  unfold coDsk; omega
theorem e51 (x : Mm) (k : Int) (h0 : 0 ≤ k) (hk : k ≤ 281474976710656) (h : x.sm) :
    E T 51 [.agg [.sl 0 0 x.disk.used.length, .sl 1 0 x.disk.taken.length, .sl 2 0 x.disk.inos.length, .sl 3 0 x.disk.blks.length, .sl 4 0 x.dirty.length, .sl 5 0 x.deps.length, .int .i64 x.next], .int .i64 k] (mmR x) = some (.int .i64 (k + coMm x), mmR (mkMm k x)) := by
  rw [E_eq t51 (Nat.le_of_ble_eq_true rfl)]
  have c1 := coDsk_le' h.disk
  have c2 := costDp h.deps h.dep x.deps.length
  rw [List.take_length] at c2
  have u1 := h.dirty
  have e1 := e63 x.disk k h0 (by omega) h.disk
  have e2 := e145' x.dirty (k + coDsk x.disk) (by omega) (by omega) h.dirty
  have e3 := e146 x.deps (k + coDsk x.disk + x.dirty.length) (by omega) (by omega) h.deps h.dep
  have e4 : k + (coMm x : Int) = k + coDsk x.disk + x.dirty.length + costL coDp x.deps := by unfold coMm; omega
  simp only [mmR, dskR, List.cons_append, List.nil_append] at e1 ⊢
  simp only [mkMm, F51, go_sem, seval, bnd_ite, e1, e2, e3, e4, mkDsk, mkB_len, mkL_len]
theorem e64 (x : Mm) (k : Int) (h0 : 0 ≤ k) (hk : k ≤ 281474976710656) (h : x.sm) : E T 64 [mm (mkMm k x), .int .i64 k] [] = some (.int .i64 (k + coMm x), []) := by
  rw [E_eq t64 (Nat.le_of_ble_eq_true rfl)]
  have c1 := coDsk_le' h.disk
  have c2 := costDp h.deps h.dep x.deps.length
  rw [List.take_length] at c2
  have u1 := h.dirty
  have e1 := e67 x.disk k h0 (by omega) h.disk
  have e2 := e163' x.dirty.length (k + coDsk x.disk) (by omega) (by omega) h.dirty
  have e3 := e164 x.deps (k + coDsk x.disk + x.dirty.length) (by omega) (by omega) h.deps h.dep
  have e4 : k + (coMm x : Int) = k + coDsk x.disk + x.dirty.length + costL coDp x.deps := by unfold coMm; omega
  have n1 : ¬ k + (coDsk x.disk : Int) < 0 := by omega
  have n2 : ¬ k + (coDsk x.disk : Int) + x.dirty.length < 0 := by omega
  have n3 : ¬ k + (coDsk x.disk : Int) + x.dirty.length + costL coDp x.deps < 0 := by omega
  unfold dsk at e1
  simp only [mm, mkMm, F64, go_sem, seval, bnd_ite, e1, e2, e3, e4, n1, n2, n3, if_false]
end Go.Proofs.Ytaaajjinpppgeaa
