/- Marking disks. Own work; no condition. -/
import Derived.Test.YtaaajjinpppgeaaGreatKd
set_option linter.unusedVariables false
set_option linter.unusedSimpArgs false
set_option linter.unusedSectionVars false
namespace Go.Proofs.YtaaajjinpppgeaaGreat
open Go Go.Abs
set_option maxRecDepth 100000
theorem e98 (l : List Blk) (k : Int) (h0 : 0 ≤ k) (hk : k ≤ 1125899906842624) (hl : l.length ≤ 1048576) (hs : ∀ x ∈ l, x.sm) :
    E T 98 [.ro 3 ((mkL mkBlk coBlk k l).map blk), .int .i64 k] [] = some (.int .i64 (k + costL coBlk l), []) := by
  rw [E_eq t98 (Nat.le_of_ble_eq_true rfl)]
  simp only [F98, h98_2, go_sem, seval, bnd_ite]
  generalize hL : mkL mkBlk coBlk k l = L
  have hln : L.length = l.length := by rw [← hL]; exact mkL_len
  refine (XL_inv (T := T) (b := 0) (hd := H98_2) (x := L98_2) (β := Unit) (fun i _ => ⟨[(0, .ro 3 (L.map blk)), (1, .int .i64 (k + (costL coBlk (l.take i) : Nat))), (5, .int .i64 (i : Nat))], []⟩)
    (fun i _ => True) l.length (fun r => r.1 = .exit 0 ∧ lookA r.2.env 1 = .int .i64 (k + (costL coBlk l : Nat))) ?step ?last 0 () (by omega) trivial).elim ?main
  case step =>
    intro i _ hi _
    obtain ⟨p, hp⟩ := get_at hi
    have hi1 : (i : Int) < (l.length : Int) := by omega
    have hci := costBlk hl hs i
    have hps := hs p (List.mem_of_getElem? hp)
    unfold Blk.sm at hps
    have hcs := costSlt hps
    left
    refine ⟨(), ?_, trivial⟩
    have cs := costL_succ (cost := coBlk) hp
    have hat : L[i]? = some (mkBlk (k + costL coBlk (l.take i)) p) := by rw [← hL]; exact mkL_at hp
    generalize hK : k + (costL coBlk (l.take i) : Int) = K at *
    have gx : (L.map blk).getD i .undef = .agg [.bool (mb K), .ro 2 ((mkL mkSlt (fun _ => 2) (K + 1) p.slots).map slt), .str (mtext (K + 1 + costL (fun _ => 2) p.slots))] := gD_map hat
    have e1 := e192 p.slots (K + 1) (by omega) (by omega) hps
    have e2 : k + ((costL coBlk (l.take (i + 1)) : Nat) : Int) = K + 1 + (costL (fun _ => 2) p.slots : Nat) + 1 := by rw [cs, coBlk]; omega
    generalize hS : costL (fun _ => 2) p.slots = S at *
    have e4 := e162 (K + 1 + S) (by omega) (by omega)
    have e3 : ¬ K + 1 + (S : Int) < 0 := by omega
    generalize hM : mkL mkSlt (fun _ => 2) (K + 1) p.slots = M at *
    unfold mb at gx
    simp only [XG, L98_2, h98_2, go_sem, seval, bnd_ite, hi1, hln, hi, gx, e1, e3, e4, bdec, bne_dec, decide_true, decide_false, Bool.not_true, Bool.false_eq_true, if_false, Int.natCast_nonneg, w_i64 ((i : Int) + 1) (by omega), w_i64 (K + 1) (by omega), w_i64 (K + 1 + S + 1) (by omega)]
    rw [e2]; rfl
  case last =>
    intro _ _
    simp only [XG, L98_2, h98_2, go_sem, seval, bnd_ite, hln, Int.lt_irrefl, decide_false]
    exact .mk (by simp) ⟨rfl, rfl⟩
  case main =>
  rintro ⟨x, e, m⟩ ⟨h1, h2, h3, h4⟩
  have hs : ((0 : Nat) : Int) = 0 := rfl
  simp only [List.take_zero, costL, hs, Int.add_zero] at h1
  simp only at h3 h4; subst h3
  simp only [h1, go_sem, seval, h4]
/-- The marks of a row of truth values. -/
def mkB (k : Int) (n : Nat) : List Bool := (List.range n).map fun i => mb (k + (i : Nat))
theorem mkB_len (k : Int) (n : Nat) : (mkB k n).length = n := by simp [mkB]
theorem e163' (l : List Bool) (k : Int) (h0 : 0 ≤ k) (hk : k ≤ 4611686018427387904) (hl : l.length ≤ 1048576) :
    E T 163 [.sl 0 0 l.length, .int .i64 k] [some (1, l.map bv)] = some (.int .i64 (k + l.length), [some (1, (mkB k l.length).map bv)]) := e163 l k h0 hk hl
theorem e165' (n : Nat) (k : Int) (h0 : 0 ≤ k) (hk : k ≤ 4611686018427387904) (hl : n ≤ 1048576) :
    E T 165 [.ro 1 ((mkB k n).map bv), .int .i64 k] [] = some (.int .i64 (k + n), []) := e165 n k h0 hk hl
theorem e93 (a b : List Bool) (k : Int) (h0 : 0 ≤ k) (hk : k ≤ 1152921504606846976) (ha : a.length ≤ 1048576) (hb : b.length ≤ 1048576) :
    E T 93 [.agg [.sl 0 0 a.length, .sl 1 0 b.length], .int .i64 k] [some (1, a.map bv), some (1, b.map bv)] = some (.int .i64 (k + a.length + b.length), [some (1, (mkB k a.length).map bv), some (1, (mkB (k + a.length) b.length).map bv)]) := by
  rw [E_eq t93 (Nat.le_of_ble_eq_true rfl)]
  simp only [F93, go_sem, seval, bnd_ite, e163' a k h0 (by omega) ha, e163' b (k + a.length) (by omega) (by omega) hb]
theorem e96 (a b : Nat) (k : Int) (h0 : 0 ≤ k) (hk : k ≤ 1152921504606846976) (ha : a ≤ 1048576) (hb : b ≤ 1048576) :
    E T 96 [.agg [.ro 1 ((mkB k a).map bv), .ro 1 ((mkB (k + a) b).map bv)], .int .i64 k] [] = some (.int .i64 (k + a + b), []) := by
  rw [E_eq t96 (Nat.le_of_ble_eq_true rfl)]
  have n1 : ¬ k + (a : Int) < 0 := by omega
  have n2 : ¬ k + (a : Int) + (b : Int) < 0 := by omega
  simp only [F96, go_sem, seval, bnd_ite, e165' a k h0 (by omega) ha, e165' b (k + a) (by omega) (by omega) hb, n1, n2, if_false]
def coDsk (x : Dsk) : Nat := x.used.length + x.taken.length + costL coIno x.inos + costL coBlk x.blks
noncomputable def mkDsk (k : Int) (x : Dsk) : Dsk :=
  ⟨mkB k x.used.length, mkB (k + x.used.length) x.taken.length, mkL mkIno coIno (k + x.used.length + x.taken.length) x.inos, mkL mkBlk coBlk (k + x.used.length + x.taken.length + costL coIno x.inos) x.blks⟩
theorem coDsk_le {x : Dsk} (h : x.sm) : costL coIno x.inos ≤ 1099513724928 ∧ costL coBlk x.blks ≤ 2199025352704 := by
  have h1 := costIno h.inos h.ino x.inos.length
  have h2 := costBlk h.blks h.blk x.blks.length
  rw [List.take_length] at h1 h2
  exact ⟨h1, h2⟩
/-- The rows of a disk's own memory. -/
def dskR (x : Dsk) : Mem := [some (1, x.used.map bv), some (1, x.taken.map bv), some (3, x.inos.map inoO), some (3, x.blks.map blkO)]
theorem e24 (x : Dsk) (k : Int) (h0 : 0 ≤ k) (hk : k ≤ 562949953421312) (h : x.sm) :
    E T 24 [.agg [.sl 0 0 x.used.length, .sl 1 0 x.taken.length, .sl 2 0 x.inos.length, .sl 3 0 x.blks.length], .int .i64 k] (dskR x) = some (.int .i64 (k + coDsk x), dskR (mkDsk k x)) := by
  rw [E_eq t24 (Nat.le_of_ble_eq_true rfl)]
  obtain ⟨c1, c2⟩ := coDsk_le h
  have u1 := h.used
  have u2 := h.taken
  have e1 := e93 x.used x.taken k h0 (by omega) h.used h.taken
  have e2 := e94 x.inos (k + x.used.length + x.taken.length) (by omega) (by omega) h.inos h.ino
  have e3 := e95 x.blks (k + x.used.length + x.taken.length + costL coIno x.inos) (by omega) (by omega) h.blks h.blk
  have e4 : k + (coDsk x : Int) = k + x.used.length + x.taken.length + costL coIno x.inos + costL coBlk x.blks := by unfold coDsk; omega
  simp only [dskR, mkDsk, F24, go_sem, seval, bnd_ite, e1, e2, e3, e4]
theorem e25 (x : Dsk) (k : Int) (h0 : 0 ≤ k) (hk : k ≤ 562949953421312) (h : x.sm) : E T 25 [dsk (mkDsk k x), .int .i64 k] [] = some (.int .i64 (k + coDsk x), []) := by
  rw [E_eq t25 (Nat.le_of_ble_eq_true rfl)]
  obtain ⟨c1, c2⟩ := coDsk_le h
  have u1 := h.used
  have u2 := h.taken
  have e1 := e96 x.used.length x.taken.length k h0 (by omega) h.used h.taken
  have e2 := e97 x.inos (k + x.used.length + x.taken.length) (by omega) (by omega) h.inos h.ino
  have e3 := e98 x.blks (k + x.used.length + x.taken.length + costL coIno x.inos) (by omega) (by omega) h.blks h.blk
  have e4 : k + (coDsk x : Int) = k + x.used.length + x.taken.length + costL coIno x.inos + costL coBlk x.blks := by unfold coDsk; omega
  have n1 : ¬ k + (x.used.length : Int) + x.taken.length < 0 := by omega
  have n2 : ¬ k + (x.used.length : Int) + x.taken.length + costL coIno x.inos < 0 := by omega
  have n3 : ¬ k + (x.used.length : Int) + x.taken.length + costL coIno x.inos + costL coBlk x.blks < 0 := by omega
  simp only [dsk, mkDsk, F25, go_sem, seval, bnd_ite, e1, e2, e3, e4, n1, n2, n3, if_false]
end Go.Proofs.YtaaajjinpppgeaaGreat
