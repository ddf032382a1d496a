/- Part 4 of the texts of a claim, joined by a program of ours (Kd, Ke, Pb, Ra, La, Fa, Nb, Fj, Va, Nd, Nc, Nn, Ne, No, Ng, Nh, Np, Nq, Nr, Ns, Ni, Nj, Nk, Nt). No condition. -/
import Derived.Test.YtaaajjinpppgeaaJ13c
set_option linter.unusedVariables false
set_option linter.unusedSimpArgs false
set_option linter.unusedSectionVars false
/- Marking inodes and blocks. Own work; no condition. -/
set_option linter.unusedVariables false
set_option linter.unusedSimpArgs false
set_option linter.unusedSectionVars false
namespace Go.Proofs.Ytaaajjinpppgeaa
open Go Go.Abs
set_option maxRecDepth 100000
def mkIno (k : Int) (x : Ino) : Ino := ⟨k, k + 1, (List.range x.ptrs.length).map fun i => k + 1 + 1 + (i : Nat)⟩
def coIno (x : Ino) : Nat := 2 + x.ptrs.length
theorem costIno {l : List Ino} (hl : l.length ≤ 1048576) (hs : ∀ x ∈ l, x.sm) (i : Nat) : costL coIno (l.take i) ≤ 1099513724928 := by
  have h1 := costL_le (cost := coIno) (C := 1048578) (l := l.take i) (fun x hx => by have := hs x (List.mem_of_mem_take hx); unfold Ino.sm at this; unfold coIno; omega)
  have h2 : (l.take i).length ≤ l.length := by simp; omega
  have h3 : (l.take i).length * 1048578 ≤ 1048576 * 1048578 := Nat.mul_le_mul_right _ (by omega)
  omega
theorem e161 (l : List Ino) (k : Int) (h0 : 0 ≤ k) (hk : k ≤ 1152921504606846976) (hl : l.length ≤ 1048576) (hs : ∀ x ∈ l, x.sm) :
    E T 161 [.sl 0 0 l.length, .int .i64 k] [some (3, l.map inoO)] = some (.int .i64 (k + costL coIno l), [some (3, (mkL mkIno coIno k l).map inoO)]) := by
  rw [E_eq t161 (Nat.le_of_ble_eq_true rfl)]
  simp only [F161, h161_2, go_sem, seval, bnd_ite]
  refine (XL_inv (T := T) (b := 1) (hd := H161_2) (x := L161_2) (β := Unit) (fun i _ => ⟨[(0, .sl 0 0 l.length), (1, .int .i64 (k + (costL coIno (l.take i) : Nat))), (5, .int .i64 (i : Nat))], [some (3, (mkP mkIno coIno k l i).map inoO)]⟩)
    (fun i _ => True) l.length (fun r => r.1 = .exit 0 ∧ r.2.mem = [some (3, (mkL mkIno coIno k l).map inoO)] ∧ lookA r.2.env 1 = .int .i64 (k + (costL coIno l : Nat))) ?step ?last 0 () (by omega) trivial).elim ?main
  case step =>
    intro i _ hi _
    obtain ⟨p, hp⟩ := get_at hi
    have hi1 : (i : Int) < (l.length : Int) := by omega
    have hci := costIno hl hs i
    have hps := hs p (List.mem_of_getElem? hp)
    unfold Ino.sm at hps
    left
    refine ⟨(), ?_, trivial⟩
    have ms := mkP_set (st := mkIno) (cost := coIno) (k := k) hp
    have cs := costL_succ (cost := coIno) hp
    have gx : ((mkP mkIno coIno k l i).map inoO).getD i .undef = .agg [.int .i64 p.kind, .int .i64 p.links, .own 1 (p.ptrs.map iv)] := gD_map (mkP_get hp)
    generalize hR : mkP mkIno coIno k l i = R at *
    have hml : R.length = l.length := by rw [← hR]; exact mkP_len
    have hmi : i < (R.map inoO).length := by rw [List.length_map, hml]; exact hi
    generalize hK : k + (costL coIno (l.take i) : Int) = K at *
    have e1 := e100 p.ptrs (K + 1 + 1) (by omega) (by omega) hps
    have sm : (R.map inoO).set i (.agg [.int .i64 K, .int .i64 (K + 1), .own 1 (((List.range p.ptrs.length).map fun i => K + 1 + 1 + (i : Nat)).map iv)]) = (mkP mkIno coIno k l (i + 1)).map inoO := by rw [← ms]; exact set_map (f := inoO) (x := mkIno K p)
    have e2 : k + ((costL coIno (l.take (i + 1)) : Nat) : Int) = K + 1 + 1 + (p.ptrs.length : Int) := by rw [cs, coIno]; omega
    have it : ((i : Int) + 0).toNat = i := by omega
    have htk : (List.map iv ((List.range p.ptrs.length).map fun i => K + 1 + 1 + (i : Nat))).take p.ptrs.length = List.map iv ((List.range p.ptrs.length).map fun i => K + 1 + 1 + (i : Nat)) := List.take_of_length_le (by simp)
    simp only [XG, L161_2, h161_2, it, go_sem, seval, bnd_ite, hi1, hml, hi, gx, getD_set hmi, List.set_set, Int.natCast_nonneg, w_i64 ((i : Int) + 1) (by omega), w_i64 (K + 1) (by omega), w_i64 (K + 1 + 1) (by omega), e1, is_set, inoO_is, List.length_range, htk, sm]
    rw [e2]; rfl
  case last =>
    intro _ _
    have hml : (mkP mkIno coIno k l l.length).length = l.length := mkP_len
    simp only [XG, L161_2, h161_2, go_sem, seval, bnd_ite, hml, Int.lt_irrefl, decide_false]
    exact .mk (by simp) ⟨rfl, by rw [mkP_all], rfl⟩
  case main =>
  rintro ⟨x, e, m⟩ ⟨h1, h2, h3, h4, h5⟩
  have h0' : ((0 : Nat) : Int) = 0 := rfl
  simp only [mkP_0, List.take_zero, costL, h0', Int.add_zero] at h1
  simp only at h3 h4 h5; subst h3; subst h4
  simp only [h1, go_sem, seval, h5]
theorem e167 (l : List Ino) (k : Int) (h0 : 0 ≤ k) (hk : k ≤ 1152921504606846976) (hl : l.length ≤ 1048576) (hs : ∀ x ∈ l, x.sm) :
    E T 167 [.ro 3 ((mkL mkIno coIno k l).map ino), .int .i64 k] [] = some (.int .i64 (k + costL coIno l), []) := by
  rw [E_eq t167 (Nat.le_of_ble_eq_true rfl)]
  simp only [F167, h167_2, go_sem, seval, bnd_ite]
  generalize hL : mkL mkIno coIno k l = L
  have hln : L.length = l.length := by rw [← hL]; exact mkL_len
  refine (XL_inv (T := T) (b := 0) (hd := H167_2) (x := L167_2) (β := Unit) (fun i _ => ⟨[(0, .ro 3 (L.map ino)), (1, .int .i64 (k + (costL coIno (l.take i) : Nat))), (5, .int .i64 (i : Nat))], []⟩)
    (fun i _ => True) l.length (fun r => r.1 = .exit 0 ∧ lookA r.2.env 1 = .int .i64 (k + (costL coIno l : Nat))) ?step ?last 0 () (by omega) trivial).elim ?main
  case step =>
    intro i _ hi _
    obtain ⟨p, hp⟩ := get_at hi
    have hi1 : (i : Int) < (l.length : Int) := by omega
    have hci := costIno hl hs i
    have hps := hs p (List.mem_of_getElem? hp)
    unfold Ino.sm at hps
    left
    refine ⟨(), ?_, trivial⟩
    have cs := costL_succ (cost := coIno) hp
    have hat : L[i]? = some (mkIno (k + costL coIno (l.take i)) p) := by rw [← hL]; exact mkL_at hp
    generalize hK : k + (costL coIno (l.take i) : Int) = K at *
    have gx : (L.map ino).getD i .undef = .agg [.int .i64 K, .int .i64 (K + 1), .ro 1 (((List.range p.ptrs.length).map fun i => K + 1 + 1 + (i : Nat)).map iv)] := gD_map hat
    have e1 := e101 p.ptrs.length (K + 1 + 1) (by omega) (by omega) hps
    have e2 : k + ((costL coIno (l.take (i + 1)) : Nat) : Int) = K + 1 + 1 + (p.ptrs.length : Int) := by rw [cs, coIno]; omega
    have e3 : ¬ K + 1 + 1 + (p.ptrs.length : Int) < 0 := by omega
    generalize hM : ((List.range p.ptrs.length).map fun i => K + 1 + 1 + (i : Nat)) = M at *
    simp only [XG, L167_2, h167_2, go_sem, seval, bnd_ite, hi1, hln, hi, gx, e1, e3, decide_true, decide_false, Bool.not_true, Bool.false_eq_true, if_false, Int.natCast_nonneg, w_i64 ((i : Int) + 1) (by omega), w_i64 (K + 1) (by omega), w_i64 (K + 1 + 1) (by omega)]
    rw [e2]; rfl
  case last =>
    intro _ _
    simp only [XG, L167_2, h167_2, go_sem, seval, bnd_ite, hln, Int.lt_irrefl, decide_false]
    exact .mk (by simp) ⟨rfl, rfl⟩
  case main =>
  rintro ⟨x, e, m⟩ ⟨h1, h2, h3, h4⟩
  have hs : ((0 : Nat) : Int) = 0 := rfl
  simp only [List.take_zero, costL, hs, Int.add_zero] at h1
  simp only at h3 h4; subst h3
  simp only [h1, go_sem, seval, h4]

noncomputable def mkBlk (k : Int) (x : Blk) : Blk := ⟨mb k, mkL mkSlt (fun _ => 2) (k + 1) x.slots, mtext (k + 1 + costL (fun _ => 2) x.slots)⟩
def coBlk (x : Blk) : Nat := 2 + costL (fun _ => 2) x.slots
theorem costSlt {l : List Slt} (hl : l.length ≤ 1048576) : costL (fun _ => 2) l ≤ 2097152 := by
  have h1 := costL_le (cost := fun _ : Slt => 2) (C := 2) (l := l) (fun _ _ => Nat.le_refl _)
  omega
theorem costBlk {l : List Blk} (hl : l.length ≤ 1048576) (hs : ∀ x ∈ l, x.sm) (i : Nat) : costL coBlk (l.take i) ≤ 2199025352704 := by
  have h1 := costL_le (cost := coBlk) (C := 2097154) (l := l.take i) (fun x hx => by have := costSlt (hs x (List.mem_of_mem_take hx)); unfold coBlk; omega)
  have h2 : (l.take i).length ≤ l.length := by simp; omega
  have h3 : (l.take i).length * 2097154 ≤ 1048576 * 2097154 := Nat.mul_le_mul_right _ (by omega)
  omega
theorem e162 (l : List Blk) (k : Int) (h0 : 0 ≤ k) (hk : k ≤ 1125899906842624) (hl : l.length ≤ 1048576) (hs : ∀ x ∈ l, x.sm) :
    E T 162 [.sl 0 0 l.length, .int .i64 k] [some (3, l.map blkO)] = some (.int .i64 (k + costL coBlk l), [some (3, (mkL mkBlk coBlk k l).map blkO)]) := by
  rw [E_eq t162 (Nat.le_of_ble_eq_true rfl)]
  simp only [F162, h162_2, go_sem, seval, bnd_ite]
  refine (XL_inv (T := T) (b := 1) (hd := H162_2) (x := L162_2) (β := Unit) (fun i _ => ⟨[(0, .sl 0 0 l.length), (1, .int .i64 (k + (costL coBlk (l.take i) : Nat))), (5, .int .i64 (i : Nat))], [some (3, (mkP mkBlk coBlk k l i).map blkO)]⟩)
    (fun i _ => True) l.length (fun r => r.1 = .exit 0 ∧ r.2.mem = [some (3, (mkL mkBlk coBlk k l).map blkO)] ∧ lookA r.2.env 1 = .int .i64 (k + (costL coBlk l : Nat))) ?step ?last 0 () (by omega) trivial).elim ?main
  case step =>
    intro i _ hi _
    obtain ⟨p, hp⟩ := get_at hi
    have hi1 : (i : Int) < (l.length : Int) := by omega
    have hci := costBlk hl hs i
    have hps := hs p (List.mem_of_getElem? hp)
    unfold Blk.sm at hps
    have hcs := costSlt hps
    left
    refine ⟨(), ?_, trivial⟩
    have ms := mkP_set (st := mkBlk) (cost := coBlk) (k := k) hp
    have cs := costL_succ (cost := coBlk) hp
    have gx : ((mkP mkBlk coBlk k l i).map blkO).getD i .undef = .agg [.bool p.dir, .own 2 (p.slots.map slt), .str p.text] := gD_map (mkP_get hp)
    generalize hR : mkP mkBlk coBlk k l i = R at *
    have hml : R.length = l.length := by rw [← hR]; exact mkP_len
    have hmi : i < (R.map blkO).length := by rw [List.length_map, hml]; exact hi
    generalize hK : k + (costL coBlk (l.take i) : Int) = K at *
    have e1 := e151 p.slots (K + 1) (by omega) (by omega) hps
    have sm : (R.map blkO).set i (.agg [.bool (mb K), .own 2 ((mkL mkSlt (fun _ => 2) (K + 1) p.slots).map slt), .str (mtext (K + 1 + costL (fun _ => 2) p.slots))]) = (mkP mkBlk coBlk k l (i + 1)).map blkO := by rw [← ms]; exact set_map (f := blkO) (x := mkBlk K p)
    have e2 : k + ((costL coBlk (l.take (i + 1)) : Nat) : Int) = K + 1 + (costL (fun _ => 2) p.slots : Nat) + 1 := by rw [cs, coBlk]; omega
    generalize hS : costL (fun _ => 2) p.slots = S at *
    have e4 := e207 (K + 1 + S) (by omega) (by omega)
    have it : ((i : Int) + 0).toNat = i := by omega
    have hmk : (mkL mkSlt (fun _ => 2) (K + 1) p.slots).length = p.slots.length := mkL_len
    generalize hM : mkL mkSlt (fun _ => 2) (K + 1) p.slots = M at *
    have htk : (List.map slt M).take p.slots.length = List.map slt M := List.take_of_length_le (by simp [hmk])
    unfold mb at sm
    simp only [XG, L162_2, h162_2, it, go_sem, seval, bnd_ite, hi1, hml, hi, gx, getD_set hmi, List.set_set, Int.natCast_nonneg, w_i64 ((i : Int) + 1) (by omega), w_i64 (K + 1) (by omega), w_i64 (K + 1 + S + 1) (by omega), e1, e4, is_set, blkO_is, hmk, htk, sm]
    rw [e2]; rfl
  case last =>
    intro _ _
    have hml : (mkP mkBlk coBlk k l l.length).length = l.length := mkP_len
    simp only [XG, L162_2, h162_2, go_sem, seval, bnd_ite, hml, Int.lt_irrefl, decide_false]
    exact .mk (by simp) ⟨rfl, by rw [mkP_all], rfl⟩
  case main =>
  rintro ⟨x, e, m⟩ ⟨h1, h2, h3, h4, h5⟩
  have h0' : ((0 : Nat) : Int) = 0 := rfl
  simp only [mkP_0, List.take_zero, costL, h0', Int.add_zero] at h1
  simp only at h3 h4 h5; subst h3; subst h4
  simp only [h1, go_sem, seval, h5]
end Go.Proofs.Ytaaajjinpppgeaa

/- Marking disks. Own work; no condition. -/
set_option linter.unusedVariables false
set_option linter.unusedSimpArgs false
set_option linter.unusedSectionVars false
namespace Go.Proofs.Ytaaajjinpppgeaa
open Go Go.Abs
set_option maxRecDepth 100000
theorem e168 (l : List Blk) (k : Int) (h0 : 0 ≤ k) (hk : k ≤ 1125899906842624) (hl : l.length ≤ 1048576) (hs : ∀ x ∈ l, x.sm) :
    E T 168 [.ro 3 ((mkL mkBlk coBlk k l).map blk), .int .i64 k] [] = some (.int .i64 (k + costL coBlk l), []) := by
  rw [E_eq t168 (Nat.le_of_ble_eq_true rfl)]
  simp only [F168, h168_2, go_sem, seval, bnd_ite]
  generalize hL : mkL mkBlk coBlk k l = L
  have hln : L.length = l.length := by rw [← hL]; exact mkL_len
  refine (XL_inv (T := T) (b := 0) (hd := H168_2) (x := L168_2) (β := Unit) (fun i _ => ⟨[(0, .ro 3 (L.map blk)), (1, .int .i64 (k + (costL coBlk (l.take i) : Nat))), (5, .int .i64 (i : Nat))], []⟩)
    (fun i _ => True) l.length (fun r => r.1 = .exit 0 ∧ lookA r.2.env 1 = .int .i64 (k + (costL coBlk l : Nat))) ?step ?last 0 () (by omega) trivial).elim ?main
  case step =>
    intro i _ hi _
    obtain ⟨p, hp⟩ := get_at hi
    have hi1 : (i : Int) < (l.length : Int) := by omega
    have hci := costBlk hl hs i
    have hps := hs p (List.mem_of_getElem? hp)
    unfold Blk.sm at hps
    have hcs := costSlt hps
    left
    refine ⟨(), ?_, trivial⟩
    have cs := costL_succ (cost := coBlk) hp
    have hat : L[i]? = some (mkBlk (k + costL coBlk (l.take i)) p) := by rw [← hL]; exact mkL_at hp
    generalize hK : k + (costL coBlk (l.take i) : Int) = K at *
    have gx : (L.map blk).getD i .undef = .agg [.bool (mb K), .ro 2 ((mkL mkSlt (fun _ => 2) (K + 1) p.slots).map slt), .str (mtext (K + 1 + costL (fun _ => 2) p.slots))] := gD_map hat
    have e1 := e152 p.slots (K + 1) (by omega) (by omega) hps
    have e2 : k + ((costL coBlk (l.take (i + 1)) : Nat) : Int) = K + 1 + (costL (fun _ => 2) p.slots : Nat) + 1 := by rw [cs, coBlk]; omega
    generalize hS : costL (fun _ => 2) p.slots = S at *
    have e4 := e207 (K + 1 + S) (by omega) (by omega)
    have e3 : ¬ K + 1 + (S : Int) < 0 := by omega
    generalize hM : mkL mkSlt (fun _ => 2) (K + 1) p.slots = M at *
    unfold mb at gx
    simp only [XG, L168_2, h168_2, go_sem, seval, bnd_ite, hi1, hln, hi, gx, e1, e3, e4, bdec, bne_dec, decide_true, decide_false, Bool.not_true, Bool.false_eq_true, if_false, Int.natCast_nonneg, w_i64 ((i : Int) + 1) (by omega), w_i64 (K + 1) (by omega), w_i64 (K + 1 + S + 1) (by omega)]
    rw [e2]; rfl
  case last =>
    intro _ _
    simp only [XG, L168_2, h168_2, go_sem, seval, bnd_ite, hln, Int.lt_irrefl, decide_false]
    exact .mk (by simp) ⟨rfl, rfl⟩
  case main =>
  rintro ⟨x, e, m⟩ ⟨h1, h2, h3, h4⟩
  have hs : ((0 : Nat) : Int) = 0 := rfl
  simp only [List.take_zero, costL, hs, Int.add_zero] at h1
  simp only at h3 h4; subst h3
  simp only [h1, go_sem, seval, h4]
/-- The marks of a row of truth values. -/
def mkB (k : Int) (n : Nat) : List Bool := (List.range n).map fun i => mb (k + (i : Nat))
theorem mkB_len (k : Int) (n : Nat) : (mkB k n).length = n := by simp [mkB]
theorem e145' (l : List Bool) (k : Int) (h0 : 0 ≤ k) (hk : k ≤ 4611686018427387904) (hl : l.length ≤ 1048576) :
    E T 145 [.sl 0 0 l.length, .int .i64 k] [some (1, l.map bv)] = some (.int .i64 (k + l.length), [some (1, (mkB k l.length).map bv)]) := e145 l k h0 hk hl
theorem e163' (n : Nat) (k : Int) (h0 : 0 ≤ k) (hk : k ≤ 4611686018427387904) (hl : n ≤ 1048576) :
    E T 163 [.ro 1 ((mkB k n).map bv), .int .i64 k] [] = some (.int .i64 (k + n), []) := e163 n k h0 hk hl
theorem e160 (a b : List Bool) (k : Int) (h0 : 0 ≤ k) (hk : k ≤ 1152921504606846976) (ha : a.length ≤ 1048576) (hb : b.length ≤ 1048576) :
    E T 160 [.agg [.sl 0 0 a.length, .sl 1 0 b.length], .int .i64 k] [some (1, a.map bv), some (1, b.map bv)] = some (.int .i64 (k + a.length + b.length), [some (1, (mkB k a.length).map bv), some (1, (mkB (k + a.length) b.length).map bv)]) := by
  rw [E_eq t160 (Nat.le_of_ble_eq_true rfl)]
  simp only [F160, go_sem, seval, bnd_ite, e145' a k h0 (by omega) ha, e145' b (k + a.length) (by omega) (by omega) hb]
theorem e166 (a b : Nat) (k : Int) (h0 : 0 ≤ k) (hk : k ≤ 1152921504606846976) (ha : a ≤ 1048576) (hb : b ≤ 1048576) :
    E T 166 [.agg [.ro 1 ((mkB k a).map bv), .ro 1 ((mkB (k + a) b).map bv)], .int .i64 k] [] = some (.int .i64 (k + a + b), []) := by
  rw [E_eq t166 (Nat.le_of_ble_eq_true rfl)]
  have n1 : ¬ k + (a : Int) < 0 := by omega
  have n2 : ¬ k + (a : Int) + (b : Int) < 0 := by omega
  simp only [F166, go_sem, seval, bnd_ite, e163' a k h0 (by omega) ha, e163' b (k + a) (by omega) (by omega) hb, n1, n2, if_false]
def coDsk (x : Dsk) : Nat := x.used.length + x.taken.length + costL coIno x.inos + costL coBlk x.blks
noncomputable def mkDsk (k : Int) (x : Dsk) : Dsk :=
  ⟨mkB k x.used.length, mkB (k + x.used.length) x.taken.length, mkL mkIno coIno (k + x.used.length + x.taken.length) x.inos, mkL mkBlk coBlk (k + x.used.length + x.taken.length + costL coIno x.inos) x.blks⟩
theorem coDsk_le {x : Dsk} (h : x.sm) : costL coIno x.inos ≤ 1099513724928 ∧ costL coBlk x.blks ≤ 2199025352704 := by
  have h1 := costIno h.inos h.ino x.inos.length
  have h2 := costBlk h.blks h.blk x.blks.length
  rw [List.take_length] at h1 h2
  exact ⟨h1, h2⟩
/-- The rows of a disk's own memory. -/
def dskR (x : Dsk) : Mem := [some (1, x.used.map bv), some (1, x.taken.map bv), some (3, x.inos.map inoO), some (3, x.blks.map blkO)]
theorem e63 (x : Dsk) (k : Int) (h0 : 0 ≤ k) (hk : k ≤ 562949953421312) (h : x.sm) :
    E T 63 [.agg [.sl 0 0 x.used.length, .sl 1 0 x.taken.length, .sl 2 0 x.inos.length, .sl 3 0 x.blks.length], .int .i64 k] (dskR x) = some (.int .i64 (k + coDsk x), dskR (mkDsk k x)) := by
  rw [E_eq t63 (Nat.le_of_ble_eq_true rfl)]
  obtain ⟨c1, c2⟩ := coDsk_le h
  have u1 := h.used
  have u2 := h.taken
  have e1 := e160 x.used x.taken k h0 (by omega) h.used h.taken
  have e2 := e161 x.inos (k + x.used.length + x.taken.length) (by omega) (by omega) h.inos h.ino
  have e3 := e162 x.blks (k + x.used.length + x.taken.length + costL coIno x.inos) (by omega) (by omega) h.blks h.blk
  have e4 : k + (coDsk x : Int) = k + x.used.length + x.taken.length + costL coIno x.inos + costL coBlk x.blks := by unfold coDsk; omega
  simp only [dskR, mkDsk, F63, go_sem, seval, bnd_ite, e1, e2, e3, e4]
theorem e67 (x : Dsk) (k : Int) (h0 : 0 ≤ k) (hk : k ≤ 562949953421312) (h : x.sm) : E T 67 [dsk (mkDsk k x), .int .i64 k] [] = some (.int .i64 (k + coDsk x), []) := by
  rw [E_eq t67 (Nat.le_of_ble_eq_true rfl)]
  obtain ⟨c1, c2⟩ := coDsk_le h
  have u1 := h.used
  have u2 := h.taken
  have e1 := e166 x.used.length x.taken.length k h0 (by omega) h.used h.taken
  have e2 := e167 x.inos (k + x.used.length + x.taken.length) (by omega) (by omega) h.inos h.ino
  have e3 := e168 x.blks (k + x.used.length + x.taken.length + costL coIno x.inos) (by omega) (by omega) h.blks h.blk
  have e4 : k + (coDsk x : Int) = k + x.used.length + x.taken.length + costL coIno x.inos + costL coBlk x.blks := by unfold coDsk; omega
  have n1 : ¬ k + (x.used.length : Int) + x.taken.length < 0 := by omega
  have n2 : ¬ k + (x.used.length : Int) + x.taken.length + costL coIno x.inos < 0 := by omega
  have n3 : ¬ k + (x.used.length : Int) + x.taken.length + costL coIno x.inos + costL coBlk x.blks < 0 := by omega
  simp only [dsk, mkDsk, F67, go_sem, seval, bnd_ite, e1, e2, e3, e4, n1, n2, n3, if_false]
end Go.Proofs.Ytaaajjinpppgeaa

/- MemNew. Own work; no condition. -/
set_option linter.unusedVariables false
set_option linter.unusedSimpArgs false
set_option linter.unusedSectionVars false
namespace Go.Proofs.Ytaaajjinpppgeaa
open Go Go.Abs
set_option maxRecDepth 100000
theorem tk_len {α : Type} {f : α → AV} {l : List α} {n : Nat} (h : l.length = n) : (l.map f).take n = l.map f := List.take_of_length_le (by rw [List.length_map, h]; exact Nat.le_refl _)
end Go.Proofs.Ytaaajjinpppgeaa

/- MendPointers: what it does, and the program's inner loop. Own work; no condition. -/
set_option linter.unusedVariables false
set_option linter.unusedSimpArgs false
set_option linter.unusedSectionVars false
namespace Go.Proofs.Ytaaajjinpppgeaa
open Go Go.Abs
set_option maxRecDepth 100000
theorem set_self {α : Type} {l : List α} {i : Nat} {p : α} (h : l[i]? = some p) : l.set i p = l := by
  apply List.ext_getElem?
  intro k
  by_cases hk : i = k
  · subst hk
    have := (List.getElem?_eq_some_iff.1 h).1
    rw [List.getElem?_set_self this, h]
  · rw [List.getElem?_set_ne hk]
theorem e130' (xs : List Int) (y : Int) (ha : xs.length ≤ 1048576) : E T 130 [.ro 1 (xs.map iv), .int .i64 y] [] = some (.bool (decide (y ∈ xs)), []) := e130 xs y (by unfold maxLen; omega)
end Go.Proofs.Ytaaajjinpppgeaa

/- Inodes and blocks by their numbers; the slots with a name of a directory. Own work; no condition. -/
set_option linter.unusedVariables false
set_option linter.unusedSimpArgs false
set_option linter.unusedSectionVars false
namespace Go.Proofs.Ytaaajjinpppgeaa
open Go Go.Abs
set_option maxRecDepth 100000
def inoOf (x : Dsk) (i : Int) : Ino := if inside i 1 x.inos.length then x.inos.getD (i - 1).toNat ino0 else ino0
theorem inoOf_mem {x : Dsk} {i : Int} (h : inside i 1 x.inos.length = true) : x.inos[(i - 1).toNat]? = some (inoOf x i) := by
  have h2 := h
  simp only [inside, Bool.and_eq_true, decide_eq_true_eq] at h2
  obtain ⟨p, hp⟩ := get_at (show (i - 1).toNat < x.inos.length by omega)
  unfold inoOf; rw [if_pos h, getD_at hp]; exact hp
theorem e176u (x : Dsk) (h : x.sm) (i : Int) : E T 176 [dsk x, .int .i64 i] [] = some (ino (inoOf x i), []) := by
  cases hc : inside i 1 x.inos.length with
  | true => exact e176 x i h.inos hc _ (inoOf_mem hc)
  | false => rw [e176n x i hc]; unfold inoOf; rw [hc]; rfl
end Go.Proofs.Ytaaajjinpppgeaa

/- The code of some functions, as the evaluator reads it (printed by a program of ours), checked against the program. Own work; no condition. -/
set_option linter.unusedVariables false
set_option linter.unusedSimpArgs false
set_option linter.unusedSectionVars false
namespace Go.Proofs.Ytaaajjinpppgeaa
open Go Go.Abs
set_option maxRecDepth 100000
-- laws.FnExactPutDep
-- laws.FnExactTakeBlock
-- laws.FnExactTakeIno
-- spec.PutDep
-- impl.PutDep
-- spec.TakeBlock
-- impl.TakeBlock
-- spec.TakeIno
-- impl.TakeIno
def H183_3 : List Vw := [.opn 3 none none 4 1, .opn 3 none none 5 11, .tidy [1, 2, 3, 4] [(1, none), (2, none), (3, none), (4, none), (3, some 5)]]
def L183_3 : EC := (.seq (.seq (.region [(.op .mv [(.tmp 4)] (some 16) true), (.op (.faddr 5) [(.tmp 1)] (some 17) true), (.op .load1 [(.tmp 17)] (some 18) true), (.op .len [(.tmp 18)] (some 19) true), (.op (.bin .lss) [(.tmp 16), (.tmp 19)] (some 20) true)] false) (.cond (.tmp 20) .skip (.exit 0))) (.seq (.block 1 (.seq (.region [(.op (.faddr 5) [(.tmp 1)] (some 23) true), (.op .load1 [(.tmp 23)] (some 24) true), (.op .mv [(.tmp 4)] (some 25) true), (.op (.iaddr 11) [(.tmp 24), (.tmp 25)] (some 26) true), (.op (.loadN 11) [(.tmp 26)] (some 27) true), (.op (.alloc (.agg [(.int .i64 0), (.int .i64 0), (.int .i64 0), (.int .i64 0), (.int .i64 0), (.int .i64 0), (.str ⟨#[]⟩), (.bool false), (.bool false), (.int .i64 0), .nil])) [] (some 5) true), (.op (.storeN 11) [(.tmp 5), (.tmp 27)] none true)] false) (.seq (.region [(.op (.bslice 1 0 (.int .i64 0) []) [] (some 28) true), (.op (.faddr 10) [(.tmp 5)] (some 29) true), (.op .load1 [(.tmp 29)] (some 30) true), (.op (.append 1 8) [(.tmp 28), (.tmp 30)] (some 31) true), (.op (.faddr 10) [(.tmp 5)] (some 32) true), (.op .store1 [(.tmp 32), (.tmp 31)] none true)] false) (.view [.opn 5 none none 10 1] (.region [(.op (.faddr 5) [(.tmp 3)] (some 33) true), (.op .load1 [(.tmp 33)] (some 34) true), (.op (.loadN 11) [(.tmp 5)] (some 35) true), (.op (.bslice 11 1 (.agg [(.int .i64 0), (.int .i64 0), (.int .i64 0), (.int .i64 0), (.int .i64 0), (.int .i64 0), (.str ⟨#[]⟩), (.bool false), (.bool false), (.int .i64 0), .nil]) [0]) [(.tmp 35)] (some 36) true), (.op (.append 11 104) [(.tmp 34), (.tmp 36)] (some 37) true), (.op (.faddr 5) [(.tmp 3)] (some 38) true), (.op .store1 [(.tmp 38), (.tmp 37)] none true)] false))))) (.region [(.op .mv [(.tmp 4)] (some 21) true), (.op (.bin .add) [(.tmp 21), (.const (.int .i64 1))] (some 22) true), (.op .mv [(.tmp 22)] (some 4) true)] false)))
-- spec.l08Copy
def F183 : EF := ⟨(.seq (.region [(.op (.box 7) [(.tmp 0)] (some 1) true), (.op (.alloc (.agg [.nil, .nil, .nil, .nil, .nil, .nil, (.int .i64 0)])) [] (some 2) true)] false) (.seq (.region [(.op (.faddr 0) [(.tmp 1)] (some 6) false), (.op (.loadN 4) [(.tmp 6)] (some 7) false), (.pc (.const (.fn 158 [])) [(.tmp 7)] (some 8) false), (.op (.bslice 1 0 (.bool false) []) [] (some 9) false), (.op (.faddr 4) [(.tmp 1)] (some 10) false), (.op .load1 [(.tmp 10)] (some 11) false), (.op (.append 1 1) [(.tmp 9), (.tmp 11)] (some 12) false), (.op (.faddr 6) [(.tmp 1)] (some 13) false), (.op .load1 [(.tmp 13)] (some 14) false), (.op (.build [.nil, .nil, .nil, .nil, .nil, .nil, (.int .i64 0)] [(0, 4), (4, 1), (6, 1)]) [(.tmp 8), (.tmp 12), (.tmp 14)] (some 15) false), (.op (.alloc (.agg [.nil, .nil, .nil, .nil, .nil, .nil, (.int .i64 0)])) [] (some 3) false), (.op (.storeN 7) [(.tmp 3), (.tmp 15)] none true)] true) (.seq (.seq (.region [(.op .mv [(.const (.int .i64 0))] (some 4) true)] false) (.block 0 (.loop H183_3 L183_3))) (.seq (.view [.opn 3 none none 0 1, .opn 3 none none 1 1, .opn 3 none none 2 3, .opn 3 none none 3 3, .opn 3 none none 4 1, .opn 3 none none 5 11] (.region [(.op (.loadN 7) [(.tmp 3)] (some 39) true), (.op (.storeN 7) [(.tmp 2), (.tmp 39)] none true)] false)) .ret)))), [(.cell 2 (.loadN 7))], 40, (.agg [.one, .one, .one, .one, .one, .row 11 .one, .one]), none⟩
theorem t183 : T 183 = some F183 := tab Try.func183 (by kernel_rfl) rfl
-- impl.copyMem
-- (*impl.Mem).put
-- spec.FirstFree
-- spec.l08Mark
-- (*impl.Mem).take
-- impl.copyDeps
-- impl.mayPut
-- impl.copyDep
-- impl.FirstFree
-- (*impl.Mem).mark
end Go.Proofs.Ytaaajjinpppgeaa

/- The sweep over names: the program's way. Own work; no condition. -/
set_option linter.unusedVariables false
set_option linter.unusedSimpArgs false
set_option linter.unusedSectionVars false
namespace Go.Proofs.Ytaaajjinpppgeaa
open Go Go.Abs
set_option maxRecDepth 100000
theorem n130 (xs : List Int) (y : Int) (ha : xs.length ≤ 1048576) : E TN 130 [.ro 1 (xs.map iv), .int .i64 y] [] = some (.bool (decide (y ∈ xs)), []) := by
  rw [eN rfl t130]; exact e130' xs y ha
theorem n176 (x : Dsk) (h : x.sm) (i : Int) : E TN 176 [dsk x, .int .i64 i] [] = some (ino (inoOf x i), []) := by
  rw [eN rfl t176]; exact e176u x h i
def dirStep (k : Int) (ahead l : List Int) (p : Int) : List Int := if ((decide (k = 2) && decide (p > 0)) && !decide (p ∈ ahead)) && !decide (p ∈ l) then l ++ [p] else l
theorem dirStep_len {k : Int} {ahead l : List Int} {p : Int} {i : Nat} (h : l.length ≤ i) : (dirStep k ahead l p).length ≤ i + 1 := by
  unfold dirStep
  split
  · rw [List.length_append, List.length_singleton]; omega
  · omega
def dirB (x : Ino) (ahead : List Int) : List Int := x.ptrs.foldl (dirStep x.kind ahead) []
theorem ivf (A : List Int) (d : Int) : ∃ M, A.map iv = M ∧ M.length = A.length ∧ (∀ g, mapIdL g M = M) ∧ (∀ u, idsL u M = []) ∧ M.take A.length = M ∧ M ++ [AV.int .i64 d] = (A ++ [d]).map iv ∧ coolR 1 M = true ∧ iceL M = M :=
  ⟨_, rfl, by simp, fun g => mi_map g iv A iv_cool, fun u => is_map u iv A iv_cool, List.take_of_length_le (by simp), by rw [List.map_append]; rfl, iv_coR A, iv_ic A⟩
theorem e175 (x : Dsk) (h : x.sm) (i : Int) (ahead : List Int) (ha : ahead.length ≤ 1048576) (hp : (inoOf x i).ptrs.length ≤ 1048576) : E TN 175 [dsk x, .int .i64 i, .ro 1 (ahead.map iv)] [] = some (.own 1 ((dirB (inoOf x i) ahead).map iv), []) := by
  rw [E_eqW t175 (Nat.le_of_ble_eq_true rfl)]
  have e1 := n176 x h i
  generalize inoOf x i = y at *
  unfold dsk at e1
  simp only [ino] at e1
  have hs0 : ((0 : Nat) : Int) = 0 := rfl
  obtain ⟨⟨z, e, m⟩, k1, kx, k2, km, kl⟩ := XL_each (T := TN) (b := 0) (hd := H175_4) (x := L175_4) y.ptrs (dirStep y.kind ahead) (fun i l => ⟨[(2, .ro 1 (ahead.map iv)), (7, .sl 0 0 l.length), (8, .ptr 1 0 0), (16, .ro 1 (y.ptrs.map iv)), (17, .int .i64 y.ptrs.length), (18, .int .i64 (i : Nat))], [some (1, l.map iv), some (3, [.agg [.int .i64 y.kind, .int .i64 y.links, .ro 1 (y.ptrs.map iv)]])]⟩) (fun i l => l.length ≤ i)
    (fun l r => r.1 = .exit 0 ∧ lookA r.2.env 7 = .sl 0 0 l.length ∧ r.2.mem = [some (1, l.map iv), some (3, [.agg [.int .i64 y.kind, .int .i64 y.links, .ro 1 (y.ptrs.map iv)]])] ∧ l.length ≤ y.ptrs.length) (by
      intro i l p hp hi hl
      refine ⟨?_, dirStep_len hl⟩
      have k1 : (i : Int) < (y.ptrs.length : Int) := by omega
      have gp : (y.ptrs.map iv).getD i .undef = .int .i64 p := gD_map hp
      have hw := w_i64 ((i : Int) + 1) (by omega)
      have c3 := n130 ahead p ha
      have c4 := n130 l p (by omega)
      obtain ⟨M, hM, ml, mi, ms, mt, ma, mc, mx⟩ := ivf l p
      rw [hM] at c4
      have hap : (l.length + 1) * 8 ≤ 140737488355328 := by omega
      have al : (l ++ [p]).length = l.length + 1 := by simp
      unfold dirStep
      simp only [hM]
      cases d1 : decide (y.kind = 2) with
      | false =>
        simp only [Bool.false_and, Bool.false_eq_true, if_false]
        rw [hM]
        simp only [XG, L175_4, h175_4, go_sem, seval, bnd_ite, k1, gp, hw, d1, ml, mi, ms, mt, Int.natCast_nonneg, Bool.false_eq_true, if_false]
        first | done | rfl
      | true =>
        cases d2 : decide (p > 0) with
        | false =>
          simp only [Bool.and_false, Bool.false_and, Bool.false_eq_true, if_false]
          rw [hM]
          simp only [XG, L175_4, h175_4, go_sem, seval, bnd_ite, k1, gp, hw, d1, d2, ml, mi, ms, mt, Int.natCast_nonneg, Bool.false_eq_true, if_false, if_true]
          first | done | rfl
        | true =>
          cases d3 : decide (p ∈ ahead) with
          | true =>
            rw [d3] at c3
            simp only [Bool.and_false, Bool.not_true, Bool.false_and, Bool.false_eq_true, if_false]
            rw [hM]
            simp only [XG, L175_4, h175_4, go_sem, seval, bnd_ite, k1, gp, hw, d1, d2, c3, ml, mi, ms, mt, Int.natCast_nonneg, Bool.not_true, Bool.false_eq_true, if_false, if_true]
            first | done | rfl
          | false =>
            rw [d3] at c3
            cases d4 : decide (p ∈ l) with
            | true =>
              rw [d4] at c4
              simp only [Bool.and_false, Bool.not_true, Bool.not_false, Bool.and_true, Bool.false_eq_true, if_false]
              rw [hM]
              simp only [XG, L175_4, h175_4, go_sem, seval, bnd_ite, k1, gp, hw, d1, d2, c3, c4, mc, mx, ml, mi, ms, mt, Int.natCast_nonneg, Bool.not_true, Bool.not_false, Bool.false_eq_true, if_false, if_true]
              first | done | rfl
            | false =>
              rw [d4] at c4
              simp only [Bool.not_false, Bool.and_true, if_true]
              rw [← ma, al]
              simp only [XG, L175_4, h175_4, go_sem, seval, bnd_ite, k1, gp, hw, d1, d2, c3, c4, mc, mx, ml, mi, ms, mt, hap, Int.natCast_nonneg, Bool.not_true, Bool.not_false, Bool.false_eq_true, if_false, if_true]
              first | done | rfl) (by
      intro l hl
      simp only [XG, L175_4, h175_4, go_sem, seval, bnd_ite, Int.lt_irrefl, decide_false]
      exact .mk (by simp) ⟨rfl, rfl, rfl, hl⟩) [] (Nat.le_refl _)
  simp only at kx k2 km kl; subst kx; subst km
  simp only [hs0, List.map_nil, List.length_nil] at k1
  unfold dirB
  generalize y.ptrs.foldl (dirStep y.kind ahead) [] = Q at *
  have tk : (Q.map iv).take Q.length = Q.map iv := List.take_of_length_le (by simp)
  have ms := fun u => is_map u iv Q iv_cool
  simp only [dsk, F175, h175_4, go_sem, seval, bnd_ite, e1, k1, k2, tk, ms]
  first | done | rfl
end Go.Proofs.Ytaaajjinpppgeaa

/- The code of some functions, as the evaluator reads it (printed by a program of ours), checked against the program. Own work; no condition. -/
set_option linter.unusedVariables false
set_option linter.unusedSimpArgs false
set_option linter.unusedSectionVars false
namespace Go.Proofs.Ytaaajjinpppgeaa
open Go Go.Abs
set_option maxRecDepth 100000
-- slices.Contains[[]string,string]
def F177 : EF := ⟨(.seq (.region [(.op .mv [(.const (.bool false))] (some 4) true)] false) (.seq (.region [(.op .mv [(.tmp 0)] (some 5) true), (.op .mv [(.tmp 1)] (some 6) true), (.pc (.const (.fn 237 [])) [(.tmp 5), (.tmp 6)] (some 7) true), (.op (.bin .geq) [(.tmp 7), (.const (.int .i64 0))] (some 8) true), (.op .mv [(.tmp 8)] (some 4) true)] false) .ret)), [(.tmp 4)], 9, .one, none⟩
theorem t177 : T 177 = some F177 := tab Try.func177 (by kernel_rfl) rfl
def H237_2 : List Vw := [.tidy [0, 1, 7, 8] [(0, none), (1, none), (7, none), (8, none)]]
theorem h237_2 (b : Nat) (s : St) : vwL b H237_2 s = vwL b [.tidy [0, 1, 7, 8] [(0, none), (1, none), (7, none), (8, none)]] s := rfl
def L237_2 : EC := (.seq (.region [(.op (.bin .lss) [(.tmp 8), (.tmp 7)] (some 9) true)] false) (.seq (.cond (.tmp 9) .skip (.exit 0)) (.seq (.block 1 (.seq (.region [(.op .mv [(.tmp 8)] (some 10) true), (.op .mv [(.tmp 10)] (some 5) true)] false) (.seq (.region [(.op .mv [(.tmp 1)] (some 11) true), (.op .mv [(.tmp 0)] (some 12) true), (.op .mv [(.tmp 5)] (some 13) true), (.op (.iaddr 1) [(.tmp 12), (.tmp 13)] (some 14) true), (.op .load1 [(.tmp 14)] (some 15) true), (.op (.bin .eql) [(.tmp 11), (.tmp 15)] (some 16) true)] false) (.cond (.tmp 16) (.seq (.region [(.op .mv [(.tmp 5)] (some 17) true), (.op .mv [(.tmp 17)] (some 4) true)] false) .ret) .skip)))) (.region [(.op (.bin .add) [(.tmp 8), (.const (.int .i64 1))] (some 18) true), (.op .mv [(.tmp 18)] (some 8) true)] false))))
-- slices.Index[[]string,string]
def F237 : EF := ⟨(.seq (.region [(.op .mv [(.const (.int .i64 0))] (some 4) true)] false) (.seq (.seq (.region [(.op .mv [(.tmp 0)] (some 6) true), (.op .len [(.tmp 6)] (some 7) true), (.op .mv [(.const (.int .i64 0))] (some 8) true)] false) (.block 0 (.loop H237_2 L237_2))) (.seq (.region [(.op .mv [(.const (.int .i64 (-1)))] (some 4) true)] false) .ret))), [(.tmp 4)], 19, .one, none⟩
theorem t237 : T 237 = some F237 := tab Try.func237 (by kernel_rfl) rfl
end Go.Proofs.Ytaaajjinpppgeaa

/- Devices and file systems: counting, copying, comparing. Own work; no condition. -/
set_option linter.unusedVariables false
set_option linter.unusedSimpArgs false
set_option linter.unusedSectionVars false
namespace Go.Proofs.Ytaaajjinpppgeaa
open Go Go.Abs
set_option maxRecDepth 100000
def sv (s : ByteArray) : AV := .str s

theorem sv_cool (x : ByteArray) : coolX (sv x) = true := rfl
theorem sv_len (x : ByteArray) : (sv x).cells.length = 1 := rfl
theorem sv_mi (g : Bool → Nat → Nat → Nat → AV) (l : List ByteArray) : mapIdL g (l.map sv) = l.map sv := mi_map g sv l sv_cool
theorem sv_is (u : Bool → Nat → Nat → Nat → List Nat) (l : List ByteArray) : idsL u (l.map sv) = [] := is_map u sv l sv_cool
theorem sv_coR (l : List ByteArray) : coolR 1 (l.map sv) = true := coR_map 1 sv l sv_len sv_cool
theorem sv_ice (x : ByteArray) : ice (sv x) = sv x := rfl
theorem sv_ic (l : List ByteArray) : iceL (l.map sv) = l.map sv := by rw [ice_m]; exact List.map_congr_left fun x _ => sv_ice x
theorem sv_rf (x : ByteArray) : (sv x).roFree = true := rfl
theorem sv_rfL (l : List ByteArray) : roFreeL (l.map sv) = true := rf_map sv l sv_rf
theorem sv_no (x : ByteArray) : (sv x).cells.all noOwnC = true := rfl
theorem sv_noL (l : List ByteArray) : (l.map sv).all (fun x => x.cells.all noOwnC) = true := no_map sv l sv_no
attribute [go_sem] sv_mi sv_is sv_coR sv_ic sv_ice sv_rfL sv_noL

end Go.Proofs.Ytaaajjinpppgeaa

/- Rows of texts that hold a text. Own work; no condition. -/
set_option linter.unusedVariables false
set_option linter.unusedSimpArgs false
set_option linter.unusedSectionVars false
namespace Go.Proofs.Ytaaajjinpppgeaa
open Go Go.Abs
set_option maxRecDepth 100000
theorem e237 (xs : List ByteArray) (y : ByteArray) (ha : xs.length ≤ maxLen) : ∃ r : Int, E T 237 [.ro 1 (xs.map sv), .str y] [] = some (.int .i64 r, []) ∧ (0 ≤ r ↔ y ∈ xs) := by
  rw [E_eq t237 (Nat.le_of_ble_eq_true rfl)]
  simp only [F237, h237_2, go_sem, seval, bnd_ite]
  unfold maxLen at ha
  refine (XL_inv (T := T) (b := 0) (hd := H237_2) (x := L237_2) (β := Unit) (fun i _ => ⟨[(0, .ro 1 (xs.map sv)), (1, .str y), (7, .int .i64 xs.length), (8, .int .i64 (i : Nat))], []⟩)
    (fun i _ => y ∉ xs.take i) xs.length (fun r => (r.1 = .exit 0 ∧ y ∉ xs) ∨ (r.1 = .ret ∧ ∃ n : Nat, lookA r.2.env 4 = .int .i64 n ∧ y ∈ xs)) ?step ?last 0 () (by omega) (by simp)).elim ?main
  case step =>
    intro i _ hi hI
    obtain ⟨p, hp⟩ := get_at hi
    have hi1 : (i : Int) < (xs.length : Int) := by omega
    simp only [XG, L237_2, h237_2, go_sem, seval, bnd_ite, hi1, gD_map hp, sv, Int.natCast_nonneg, w_i64 ((i : Int) + 1) (by omega)]
    by_cases he : y = p
    · right
      simp only [he, decide_true, if_true]
      exact .mk (by simp) (.inr ⟨rfl, i, rfl, List.mem_of_getElem? hp⟩)
    · left
      simp only [he, decide_false, Bool.false_eq_true, if_false]
      exact ⟨(), rfl, by rw [take_snoc hp]; simp [hI, he]⟩
  case last =>
    intro _ hI
    rw [List.take_length] at hI
    simp only [XG, L237_2, h237_2, go_sem, seval, bnd_ite, Int.lt_irrefl, decide_false]
    exact .mk (by simp) (.inl ⟨rfl, hI⟩)
  case main =>
  rintro ⟨x, st⟩ ⟨h1, h2, h3⟩
  have hs : ((0 : Nat) : Int) = 0 := rfl
  rw [hs] at h1
  simp only [h1]
  obtain ⟨e, m⟩ := st
  rcases h3 with ⟨hx, h4⟩ | ⟨hx, n, h4, h5⟩
  · simp only at hx; subst hx
    simp only [go_sem, seval]; exact ⟨-1, rfl, by simp [h4]⟩
  · simp only at hx h4; subst hx
    simp only [go_sem, seval, h4]; exact ⟨n, rfl, by simp [h5]⟩
theorem e177 (xs : List ByteArray) (y : ByteArray) (ha : xs.length ≤ maxLen) : E T 177 [.ro 1 (xs.map sv), .str y] [] = some (.bool (xs.any fun n => decide (n = y)), []) := by
  rw [E_eq t177 (Nat.le_of_ble_eq_true rfl)]
  obtain ⟨r, h1, h2⟩ := e237 xs y ha
  have h3 : decide (0 ≤ r) = xs.any fun n => decide (n = y) := by
    rw [Bool.eq_iff_iff, decide_eq_true_eq, List.any_eq_true]
    constructor
    · intro h
      exact ⟨y, h2.1 h, by simp⟩
    · rintro ⟨n, hn, he⟩
      have : n = y := by simpa using he
      subst this; exact h2.2 hn
  simp only [F177, go_sem, seval, bnd_ite, h1]
  rw [← h3]
  try rfl
end Go.Proofs.Ytaaajjinpppgeaa

/- The sweep over names: the program's loop over slots. Own work; no condition. -/
set_option linter.unusedVariables false
set_option linter.unusedSimpArgs false
set_option linter.unusedSectionVars false
namespace Go.Proofs.Ytaaajjinpppgeaa
open Go Go.Abs
set_option maxRecDepth 100000
/-- inodeAt reads the row of inodes alone. -/
theorem n176g (inos : List Ino) (U V R : List AV) (i : Int) (hl : inos.length ≤ 1048576) (hc : inside i 1 inos.length = true) (p : Ino) (hp : inos[(i - 1).toNat]? = some p) : E TN 176 [.agg [.ro 1 U, .ro 1 V, .ro 3 (inos.map ino), .ro 3 R], .int .i64 i] [] = some (ino p, []) := by
  rw [eN rfl t176, E_eqW t176 (Nat.le_of_ble_eq_true rfl)]
  have hc' := hc
  simp only [inside, Bool.and_eq_true, decide_eq_true_eq] at hc'
  have gp : (inos.map ino).getD (i - 1).toNat .undef = .agg [.int .i64 p.kind, .int .i64 p.links, .ro 1 (p.ptrs.map iv)] := gD_map hp
  have b1 : 0 ≤ i - 1 := by omega
  have b2 : i - 1 < (inos.length : Int) := by omega
  simp only [F176, go_sem, seval, bnd_ite, e117i, hc, gp, b1, b2, w_i64 (i - 1) (by omega), ino]
def m16 (x : Dsk) (R : List AV) (ahead dirs bs : List Int) (names : List ByteArray) (S : List Slt) : Mem :=
  [some (4, [.agg [.nil, .nil, .nil, .nil]]), some (4, [.agg [.own 1 (x.used.map bv), .own 1 (x.taken.map bv), .own 3 (x.inos.map inoO), .own 3 R]]), some (1, ahead.map iv), some (1, dirs.map iv), some (1, names.map sv), some (1, bs.map iv), some (2, S.map slt)]
theorem n177 (xs : List ByteArray) (y : ByteArray) (ha : xs.length ≤ 1048576) : E TN 177 [.ro 1 (xs.map sv), .str y] [] = some (.bool (xs.any fun n => decide (n = y)), []) := by
  rw [eN rfl t177]; exact e177 xs y (by unfold maxLen; omega)
def s16 (x : Dsk) (B : List AV) (k : Nat) (b : Blk) (ahead bs : List Int) (p io j : Int) (names : List ByteArray) (dirs : List Int) (S : List Slt) (q : Nat) : St :=
  ⟨[(2, .ptr 0 0 0), (3, .ptr 1 0 0), (4, .sl 2 0 ahead.length), (5, .sl 3 0 dirs.length), (6, .int .i64 io), (7, .sl 4 0 names.length), (8, .sl 5 0 bs.length), (10, .int .i64 p), (31, .sl 5 0 bs.length), (32, .int .i64 bs.length), (33, .int .i64 j), (43, .sl 6 0 S.length), (44, .int .i64 S.length), (45, .int .i64 (q : Nat))],
   m16 x (B.set k (.agg [.bool b.dir, .sl 6 0 S.length, .str b.text])) ahead dirs bs names S⟩
def NmP (x : Dsk) (y : Ino) (s : Slt) (S : List Slt) (q : Nat) (names : List ByteArray) (dirs : List Int) : List Slt × List ByteArray × List Int :=
  if ((decide (y.kind = 0) || decide (s.ino = 1)) || (names.any fun n => decide (n = s.name))) || decide (s.ino ∈ dirs) then (S.set q ⟨⟨#[]⟩, 0⟩, names, dirs)
  else (S, names ++ [s.name], if decide (y.kind = 2) then dirs ++ [s.ino] else dirs)
theorem st16 (x : Dsk) (hl : x.inos.length = 8) (blks : List Blk) (k : Nat) (hk : k < 16) (hb : blks.length = 16) (b : Blk) (ahead dirs bs : List Int) (names : List ByteArray) (S : List Slt) (p io j : Int) (hp : p = (k : Int) + 1) (q : Nat) (s : Slt) (hs : S[q]? = some s) (hne : decide (s.name = ⟨#[]⟩) = false)
    (hS : S.length ≤ 1000) (hnl : names.length ≤ 100000) (hdl : dirs.length ≤ 100000) (y : Ino) (hin : inside s.ino 1 8 = true) (hy : x.inos[(s.ino - 1).toNat]? = some y) :
    XG TN 0 H74_16 L74_16 (s16 x (blks.map blkO) k b ahead bs p io j names dirs S q) = some (.normal, s16 x (blks.map blkO) k b ahead bs p io j (NmP x y s S q names dirs).2.1 (NmP x y s S q names dirs).2.2 (NmP x y s S q names dirs).1 (q + 1)) := by
  have hq := (List.getElem?_eq_some_iff.1 hs).1
  have k1 : (q : Int) < (S.length : Int) := by omega
  have gs : (S.map slt).getD q .undef = .agg [.str s.name, .int .i64 s.ino] := gD_map hs
  have tkS : (S.map slt).take S.length = S.map slt := List.take_of_length_le (by simp)
  obtain ⟨Q, hQ⟩ : ∃ Q, (blks.set k { b with slots := S }).map blkO = Q := ⟨_, rfl⟩
  have hset : (blks.map blkO).set k (.agg [.bool b.dir, .own 2 (S.map slt), .str b.text]) = Q := by rw [← hQ, List.map_set]; rfl
  have qc : coolR 3 Q = true := by rw [← hQ]; exact blkO_coR _
  have qi : iceL Q = (blks.set k { b with slots := S }).map blk := by rw [← hQ]; exact blkO_ic _
  obtain ⟨B, hB⟩ : ∃ B, blks.map blkO = B := ⟨_, rfl⟩
  have bmi : ∀ g, mapIdL g B = B := fun g => by rw [← hB]; exact mi_map g blkO blks blkO_cool
  have bms : ∀ u, idsL u B = [] := fun u => by rw [← hB]; exact is_map u blkO blks blkO_cool
  have bl : B.length = 16 := by rw [← hB]; simp [hb]
  rw [hB] at hset
  have tQ : Q.take 16 = Q := List.take_of_length_le (by rw [← hQ]; simp [hb])
  have e1 := n176g x.inos (x.used.map bv) (x.taken.map bv) ((blks.set k { b with slots := S }).map blk) s.ino (by omega) (by rw [hl]; exact hin) y hy
  simp only [ino] at e1
  have e2 := n177 names s.name (by omega)
  have e3 := n130 dirs s.ino (by omega)
  have hw := w_i64 ((q : Int) + 1) (by omega)
  have tn : (names.map sv).take names.length = names.map sv := List.take_of_length_le (by simp)
  have td : (dirs.map iv).take dirs.length = dirs.map iv := List.take_of_length_le (by simp)
  have nc := sv_coR names
  have ni := sv_ic names
  have dc := iv_coR dirs
  have di := iv_ic dirs
  have pk : (p + -1).toNat = k := by omega
  have pk2 : (p - 1).toNat = k := by omega
  have wp := w_i64 (p - 1) (by omega)
  have p0 : (0 : Int) ≤ p - 1 := by omega
  have p16 : p - 1 < 16 := by omega
  have sg : ∀ v : AV, (B.set k v).getD k .undef = v := fun v => by
    rw [List.getD, List.getElem?_set_self (by omega)]; rfl
  have ss : ∀ v w : AV, (B.set k v).set k w = B.set k w := fun v w => by rw [List.set_set]
  have tB : ∀ v : AV, (B.set k v).take 16 = B.set k v := fun v => List.take_of_length_le (by simp [bl])
  have na : names.map sv ++ [AV.str s.name] = (names ++ [s.name]).map sv := by rw [List.map_append]; rfl
  have da : dirs.map iv ++ [AV.int .i64 s.ino] = (dirs ++ [s.ino]).map iv := by rw [List.map_append]; rfl
  have nal : (names ++ [s.name]).length = names.length + 1 := by simp
  have dal : (dirs ++ [s.ino]).length = dirs.length + 1 := by simp
  have tn' : ((names ++ [s.name]).map sv).take (names.length + 1) = (names ++ [s.name]).map sv := List.take_of_length_le (by simp)
  have td' : ((dirs ++ [s.ino]).map iv).take (dirs.length + 1) = (dirs ++ [s.ino]).map iv := List.take_of_length_le (by simp)
  have hset2 : (S.map slt).set q (.agg [.str ⟨#[]⟩, .int .i64 0]) = (S.set q ⟨⟨#[]⟩, 0⟩).map slt := by rw [List.map_set]; rfl
  have sl2 : (S.set q (⟨⟨#[]⟩, 0⟩ : Slt)).length = S.length := List.length_set
  have nm := sv_mi
  have nis := sv_is
  have hap1 : (names.length + 1) * 16 ≤ 140737488355328 := by omega
  have hap2 : (dirs.length + 1) * 8 ≤ 140737488355328 := by omega
  unfold s16 NmP m16
  rw [hB]
  cases d1 : decide (y.kind = 0) with
  | true =>
    simp only [Bool.true_or, if_true]
    simp only [XG, L74_16, h74_16, go_sem, seval, bnd_ite, k1, hq, gs, hne, tkS, bmi, bms, bl, hset, tQ, qc, qi, e1, e2, e3, hw, tn, td, nc, ni, dc, di, pk, pk2, wp, p0, p16, hk, sg, ss, tB, is_set, na, da, nal, dal, tn', td', hap1, hap2, Int.natCast_nonneg, Bool.or_self, Bool.false_eq_true, if_false, if_true, d1, Bool.or_true, Bool.true_or, hset2, sl2, Bool.not_true, Bool.not_false]
    first | done | rfl
  | false =>
    cases d2 : decide (s.ino = 1) with
    | true =>
      simp only [Bool.true_or, Bool.or_true, if_true]
      simp only [XG, L74_16, h74_16, go_sem, seval, bnd_ite, k1, hq, gs, hne, tkS, bmi, bms, bl, hset, tQ, qc, qi, e1, e2, e3, hw, tn, td, nc, ni, dc, di, pk, pk2, wp, p0, p16, hk, sg, ss, tB, is_set, na, da, nal, dal, tn', td', hap1, hap2, Int.natCast_nonneg, Bool.or_self, Bool.false_eq_true, if_false, if_true, d1, d2, Bool.or_true, Bool.true_or, hset2, sl2, Bool.not_true, Bool.not_false]
      first | done | rfl
    | false =>
      cases d3 : (names.any fun n => decide (n = s.name)) with
      | true =>
        rw [d3] at e2
        simp only [Bool.true_or, Bool.or_true, if_true]
        simp only [XG, L74_16, h74_16, go_sem, seval, bnd_ite, k1, hq, gs, hne, tkS, bmi, bms, bl, hset, tQ, qc, qi, e1, e2, e3, hw, tn, td, nc, ni, dc, di, pk, pk2, wp, p0, p16, hk, sg, ss, tB, is_set, na, da, nal, dal, tn', td', hap1, hap2, Int.natCast_nonneg, Bool.or_self, Bool.false_eq_true, if_false, if_true, d1, d2, Bool.or_true, Bool.true_or, hset2, sl2, Bool.not_true, Bool.not_false]
        first | done | rfl
      | false =>
        rw [d3] at e2
        cases d4 : decide (s.ino ∈ dirs) with
        | true =>
          rw [d4] at e3
          simp only [Bool.true_or, Bool.or_true, if_true]
          simp only [XG, L74_16, h74_16, go_sem, seval, bnd_ite, k1, hq, gs, hne, tkS, bmi, bms, bl, hset, tQ, qc, qi, e1, e2, e3, hw, tn, td, nc, ni, dc, di, pk, pk2, wp, p0, p16, hk, sg, ss, tB, is_set, na, da, nal, dal, tn', td', hap1, hap2, Int.natCast_nonneg, Bool.or_self, Bool.false_eq_true, if_false, if_true, d1, d2, Bool.or_true, Bool.true_or, hset2, sl2, Bool.not_true, Bool.not_false]
          first | done | rfl
        | false =>
          rw [d4] at e3
          simp only [Bool.or_self, Bool.false_eq_true, if_false]
          cases d5 : decide (y.kind = 2) with
          | true =>
            simp only [if_true]
            simp only [XG, L74_16, h74_16, go_sem, seval, bnd_ite, k1, hq, gs, hne, tkS, bmi, bms, bl, hset, tQ, qc, qi, e1, e2, e3, hw, tn, td, nc, ni, dc, di, pk, pk2, wp, p0, p16, hk, sg, ss, tB, is_set, na, da, nal, dal, tn', td', hap1, hap2, Int.natCast_nonneg, Bool.or_self, Bool.false_eq_true, if_false, if_true, d1, d2, d5, Bool.or_true, Bool.true_or, hset2, sl2, Bool.not_true, Bool.not_false]
            first | done | rfl
          | false =>
            simp only [Bool.false_eq_true, if_false]
            simp only [XG, L74_16, h74_16, go_sem, seval, bnd_ite, k1, hq, gs, hne, tkS, bmi, bms, bl, hset, tQ, qc, qi, e1, e2, e3, hw, tn, td, nc, ni, dc, di, pk, pk2, wp, p0, p16, hk, sg, ss, tB, is_set, na, da, nal, dal, tn', td', hap1, hap2, Int.natCast_nonneg, Bool.or_self, Bool.false_eq_true, if_false, if_true, d1, d2, d5, Bool.or_true, Bool.true_or, hset2, sl2, Bool.not_true, Bool.not_false]
            first | done | rfl
end Go.Proofs.Ytaaajjinpppgeaa

/- The sweep over names: may a slot stay, as the reference asks. Own work; no condition. -/
set_option linter.unusedVariables false
set_option linter.unusedSimpArgs false
set_option linter.unusedSectionVars false
namespace Go.Proofs.Ytaaajjinpppgeaa
open Go Go.Abs
set_option maxRecDepth 100000
theorem n126 (xs : List Int) (y : Int) (ha : xs.length ≤ maxLen) : E TN 126 [.ro 1 (xs.map iv), .int .i64 y] [] = some (.bool (decide (y ∈ xs)), []) := by rw [eN rfl t126]; exact e126 xs y ha
theorem k174 (inos : List Ino) (U V R : List AV) (s : Slt) (names : List ByteArray) (dirs : List Int) (hl : inos.length = 8) (hin : inside s.ino 1 8 = true) (y : Ino) (hy : inos[(s.ino - 1).toNat]? = some y) (hn : names.length ≤ 100000) (hd : dirs.length ≤ 100000) :
    E TN 174 [.agg [.ro 1 U, .ro 1 V, .ro 3 (inos.map ino), .ro 3 R], .agg [.str s.name, .int .i64 s.ino], .ro 1 (names.map sv), .ro 1 (dirs.map iv)] [] = some (.bool (keepS inos names dirs s), []) := by
  rw [E_eq t174 (Nat.le_of_ble_eq_true rfl)]
  have e1 := n126 dirs s.ino (by unfold maxLen; omega)
  have hin' := hin
  simp only [inside, Bool.and_eq_true, decide_eq_true_eq] at hin'
  have gp : (inos.map ino).getD (s.ino - 1).toNat .undef = .agg [.int .i64 y.kind, .int .i64 y.links, .ro 1 (y.ptrs.map iv)] := gD_map hy
  have b1 : 0 ≤ s.ino - 1 := by omega
  have b2 : s.ino - 1 < 8 := by omega
  have w := w_i64 (s.ino - 1) (by omega)
  have gy : inos.getD (s.ino - 1).toNat ⟨0, 0, []⟩ = y := by rw [List.getD, hy]; rfl
  unfold keepS
  rw [gy]
  have hs : ((0 : Nat) : Int) = 0 := rfl
  have lp := XL_inv (T := TN) (b := 0) (hd := H174_4) (x := L174_4) (β := Unit) (fun i _ => ⟨[(2, .ro 1 (names.map sv)), (5, .ptr 0 0 0), (9, .int .i64 (i : Nat))], [some (2, [.agg [.str s.name, .int .i64 s.ino]])]⟩)
    (fun i _ => (names.take i).any (fun n => decide (n = s.name)) = false) names.length (fun r => (r.1 = .exit 0 ∧ (names.any fun n => decide (n = s.name)) = false ∧ r.2.mem = [some (2, [.agg [.str s.name, .int .i64 s.ino]])]) ∨ (r.1 = .ret ∧ lookA r.2.env 8 = .bool false ∧ (names.any fun n => decide (n = s.name)) = true)) (by
      intro i _ hi hI
      obtain ⟨p, hp⟩ := get_at hi
      have hi1 : (i : Int) < (names.length : Int) := by omega
      simp only [XG, L174_4, h174_4, go_sem, seval, bnd_ite, hi1, gD_map hp, sv, Int.natCast_nonneg, w_i64 ((i : Int) + 1) (by omega)]
      by_cases he : p = s.name
      · right
        simp only [he, decide_true, if_true]
        exact .mk (by simp) (.inr ⟨rfl, rfl, by rw [List.any_eq_true]; exact ⟨p, List.mem_of_getElem? hp, by simp [he]⟩⟩)
      · left
        simp only [he, decide_false, Bool.false_eq_true, if_false]
        exact ⟨(), rfl, by rw [take_snoc hp, List.any_append, hI]; simp [he]⟩) (by
      intro _ hI
      rw [List.take_length] at hI
      simp only [XG, L174_4, h174_4, go_sem, seval, bnd_ite, Int.lt_irrefl, decide_false]
      exact .mk (by simp) (.inl ⟨rfl, hI, rfl⟩)) 0 () (by omega) (by simp)
  obtain ⟨⟨x, e, m⟩, h1, h2, h3⟩ := lp
  rw [hs] at h1
  cases d1 : decide (s.ino = 1) with
  | true =>
    simp only [F174, h174_4, go_sem, seval, bnd_ite, d1, e1, gp, b1, b2, w, hl, Bool.true_or, Bool.not_true, Bool.false_and, if_true]
    try rfl
  | false =>
    cases d2 : decide (y.kind = 0) with
    | true =>
      simp only [F174, h174_4, go_sem, seval, bnd_ite, d1, d2, e1, gp, b1, b2, w, hl, Bool.true_or, Bool.or_true, Bool.not_true, Bool.false_and, if_true]
      try rfl
    | false =>
      cases d3 : decide (s.ino ∈ dirs) with
      | true =>
        rw [d3] at e1
        simp only [F174, h174_4, go_sem, seval, bnd_ite, d1, d2, e1, gp, b1, b2, w, hl, Bool.true_or, Bool.or_true, Bool.not_true, Bool.false_and, if_true]
        try rfl
      | false =>
        rw [d3] at e1
        rcases h3 with ⟨hx, h4, h5⟩ | ⟨hx, h4, h5⟩
        · simp only at hx h5; subst hx; subst h5
          simp only [F174, h174_4, go_sem, seval, bnd_ite, d1, d2, e1, gp, b1, b2, w, hl, h1, h4, Bool.or_self, Bool.not_false, Bool.true_and, Bool.and_true, Bool.false_eq_true, if_false]
          try rfl
        · simp only at hx h4; subst hx
          simp only [F174, h174_4, go_sem, seval, bnd_ite, d1, d2, e1, gp, b1, b2, w, hl, h1, h4, h5, Bool.or_self, Bool.not_false, Bool.not_true, Bool.true_and, Bool.and_false, Bool.and_true, Bool.false_eq_true, if_false]
          try rfl
end Go.Proofs.Ytaaajjinpppgeaa

/- The sweep over names: the program's loop over the slots of a block. Own work; no condition. -/
set_option linter.unusedVariables false
set_option linter.unusedSimpArgs false
set_option linter.unusedSectionVars false
namespace Go.Proofs.Ytaaajjinpppgeaa
open Go Go.Abs
set_option maxRecDepth 100000
theorem st16e (x : Dsk) (blks : List Blk) (k : Nat) (hk : k < 16) (hb : blks.length = 16) (b : Blk) (ahead dirs bs : List Int) (names : List ByteArray) (S : List Slt) (p io j : Int) (hp : p = (k : Int) + 1) (q : Nat) (s : Slt) (hs : S[q]? = some s) (hne : decide (s.name = ⟨#[]⟩) = true) (hS : S.length ≤ 1000) :
    XG TN 0 H74_16 L74_16 (s16 x (blks.map blkO) k b ahead bs p io j names dirs S q) = some (.normal, s16 x (blks.map blkO) k b ahead bs p io j names dirs S (q + 1)) := by
  have hq := (List.getElem?_eq_some_iff.1 hs).1
  have k1 : (q : Int) < (S.length : Int) := by omega
  have gs : (S.map slt).getD q .undef = .agg [.str s.name, .int .i64 s.ino] := gD_map hs
  obtain ⟨B, hB⟩ : ∃ B, blks.map blkO = B := ⟨_, rfl⟩
  have bmi : ∀ g, mapIdL g B = B := fun g => by rw [← hB]; exact mi_map g blkO blks blkO_cool
  have bms : ∀ u, idsL u B = [] := fun u => by rw [← hB]; exact is_map u blkO blks blkO_cool
  have bl : B.length = 16 := by rw [← hB]; simp [hb]
  have hw := w_i64 ((q : Int) + 1) (by omega)
  have tkS : (S.map slt).take S.length = S.map slt := List.take_of_length_le (by simp)
  have pk : (p + -1).toNat = k := by omega
  have pk2 : (p - 1).toNat = k := by omega
  have sg : ∀ v : AV, (B.set k v).getD k .undef = v := fun v => by
    rw [List.getD, List.getElem?_set_self (by omega)]; rfl
  have ss : ∀ v w : AV, (B.set k v).set k w = B.set k w := fun v w => by rw [List.set_set]
  have tB : ∀ v : AV, (B.set k v).take 16 = B.set k v := fun v => List.take_of_length_le (by simp [bl])
  unfold s16 m16
  rw [hB]
  simp only [XG, L74_16, h74_16, go_sem, seval, bnd_ite, k1, hq, gs, hne, tkS, bmi, bms, bl, hw, pk, pk2, hk, sg, ss, tB, is_set, Int.natCast_nonneg, if_true]
  first | done | rfl
theorem slStep_len (inos : List Ino) (st : NmS) (s : Slt) : (slStep inos st s).out.length = st.out.length + 1 ∧ (slStep inos st s).names.length ≤ st.names.length + 1 ∧ (slStep inos st s).dirs.length ≤ st.dirs.length + 1 := by
  unfold slStep
  split
  · simp
  · split
    · simp only [List.length_append, List.length_singleton, Nat.le_refl, true_and]
      split <;> simp
    · simp
theorem lp16 (x : Dsk) (hl : x.inos.length = 8) (blks : List Blk) (k : Nat) (hk : k < 16) (hb : blks.length = 16) (b : Blk) (ahead bs : List Int) (p io j : Int) (hp : p = (k : Int) + 1) (S0 : List Slt) (hS : S0.length = 4 ∨ S0.length = 0) (hin : ∀ s ∈ S0, s.name ≠ ⟨#[]⟩ → inside s.ino 1 8 = true) (names : List ByteArray) (dirs : List Int) (hn : names.length ≤ 1000) (hd : dirs.length ≤ 1000) :
    ∃ r, XL TN 0 H74_16 L74_16 (s16 x (blks.map blkO) k b ahead bs p io j names dirs S0 0) = some r ∧ r.1 = .exit 4 ∧
      ∃ e, r.2 = ⟨e, m16 x ((blks.map blkO).set k (.agg [.bool b.dir, .sl 6 0 S0.length, .str b.text])) ahead (S0.foldl (slStep x.inos) ⟨[], names, dirs⟩).dirs bs (S0.foldl (slStep x.inos) ⟨[], names, dirs⟩).names (S0.foldl (slStep x.inos) ⟨[], names, dirs⟩).out⟩ ∧
        lookA e 2 = .ptr 0 0 0 ∧ lookA e 3 = .ptr 1 0 0 ∧ lookA e 4 = .sl 2 0 ahead.length ∧ lookA e 5 = .sl 3 0 (S0.foldl (slStep x.inos) ⟨[], names, dirs⟩).dirs.length ∧ lookA e 6 = .int .i64 io ∧ lookA e 7 = .sl 4 0 (S0.foldl (slStep x.inos) ⟨[], names, dirs⟩).names.length ∧ lookA e 8 = .sl 5 0 bs.length ∧ lookA e 31 = .sl 5 0 bs.length ∧ lookA e 32 = .int .i64 bs.length ∧ lookA e 33 = .int .i64 j := by
  have h4 : S0.length ≤ 4 := by omega
  have := XL_each (T := TN) (b := 0) (hd := H74_16) (x := L74_16) S0 (slStep x.inos) (fun q st => s16 x (blks.map blkO) k b ahead bs p io j st.names st.dirs (st.out ++ S0.drop q) q) (fun q st => st.out.length = q ∧ st.names.length ≤ 1000 + q ∧ st.dirs.length ≤ 1000 + q)
    (fun st r => r.1 = .exit 4 ∧ ∃ e, r.2 = ⟨e, m16 x ((blks.map blkO).set k (.agg [.bool b.dir, .sl 6 0 S0.length, .str b.text])) ahead st.dirs bs st.names st.out⟩ ∧
        lookA e 2 = .ptr 0 0 0 ∧ lookA e 3 = .ptr 1 0 0 ∧ lookA e 4 = .sl 2 0 ahead.length ∧ lookA e 5 = .sl 3 0 st.dirs.length ∧ lookA e 6 = .int .i64 io ∧ lookA e 7 = .sl 4 0 st.names.length ∧ lookA e 8 = .sl 5 0 bs.length ∧ lookA e 31 = .sl 5 0 bs.length ∧ lookA e 32 = .int .i64 bs.length ∧ lookA e 33 = .int .i64 j) (by
      intro q st s hs hq hI
      obtain ⟨i1, i2, i3⟩ := hI
      obtain ⟨g1, g2, g3⟩ := slStep_len x.inos st s
      refine ⟨?_, by omega, by omega, by omega⟩
      have hs' : (st.out ++ S0.drop q)[q]? = some s := by
        rw [List.getElem?_append_right (by omega), i1, Nat.sub_self, List.getElem?_drop]; exact hs
      have hdrop : S0.drop q = s :: S0.drop (q + 1) := by
        obtain ⟨hh, rfl⟩ := List.getElem?_eq_some_iff.1 hs
        exact List.drop_eq_getElem_cons hh
      have hlen : (st.out ++ S0.drop q).length ≤ 1000 := by simp; omega
      have happ : ∀ v : Slt, (st.out ++ S0.drop q).set q v = (st.out ++ [v]) ++ S0.drop (q + 1) := fun v => by
        rw [hdrop, List.set_append_right _ _ (by omega), i1, Nat.sub_self, List.append_assoc]; rfl
      by_cases hne : s.name = ⟨#[]⟩
      · have e := st16e x blks k hk hb b ahead st.dirs bs st.names (st.out ++ S0.drop q) p io j hp q s hs' (decide_eq_true hne) hlen
        unfold slStep
        rw [if_pos hne, e]
        have : st.out ++ S0.drop q = (st.out ++ [s]) ++ S0.drop (q + 1) := by rw [hdrop, List.append_assoc]; rfl
        rw [this]
      · have hi := hin s (List.mem_of_getElem? hs) hne
        have hi' := hi
        simp only [inside, Bool.and_eq_true, decide_eq_true_eq] at hi'
        obtain ⟨y, hy⟩ := get_at (show (s.ino - 1).toNat < x.inos.length by omega)
        have e := st16 x hl blks k hk hb b ahead st.dirs bs st.names (st.out ++ S0.drop q) p io j hp q s hs' (decide_eq_false hne) hlen (by omega) (by omega) y hi hy
        rw [e]
        have gy : x.inos.getD (s.ino - 1).toNat ⟨0, 0, []⟩ = y := by rw [List.getD, hy]; rfl
        unfold slStep NmP keepS
        rw [if_neg hne, gy]
        have hadd : st.out ++ S0.drop q = (st.out ++ [s]) ++ S0.drop (q + 1) := by rw [hdrop, List.append_assoc]; rfl
        cases d1 : decide (y.kind = 0) <;> cases d2 : decide (s.ino = 1) <;> cases d3 : (st.names.any fun n => decide (n = s.name)) <;> cases d4 : decide (s.ino ∈ st.dirs) <;>
          simp only [Bool.or_self, Bool.or_true, Bool.true_or, Bool.or_false, Bool.false_or, Bool.not_true, Bool.not_false, Bool.and_true, Bool.and_false, Bool.true_and, Bool.false_and, Bool.and_self, Bool.false_eq_true, if_true, if_false, happ, slt0] <;>
          first
            | rfl
            | (rw [hadd]; by_cases d5 : y.kind = 2 <;> simp [d5])) (by
      intro st hI
      obtain ⟨i1, i2, i3⟩ := hI
      have hd0 : S0.drop S0.length = [] := List.drop_length
      rw [hd0, List.append_nil]
      unfold s16 m16
      simp only [XG, L74_16, h74_16, go_sem, seval, bnd_ite, i1, Int.lt_irrefl, decide_false]
      exact .mk (by simp) ⟨rfl, _, rfl, rfl, rfl, rfl, rfl, rfl, rfl, rfl, rfl, rfl, rfl⟩) ⟨[], names, dirs⟩ ⟨rfl, by omega, by omega⟩
  simpa using this
end Go.Proofs.Ytaaajjinpppgeaa

/- The sweep over names: a slot, as the reference sweeps it. Own work; no condition. -/
set_option linter.unusedVariables false
set_option linter.unusedSimpArgs false
set_option linter.unusedSectionVars false
namespace Go.Proofs.Ytaaajjinpppgeaa
open Go Go.Abs
set_option maxRecDepth 100000
/-- The store while the slots of a block are swept. -/
def m18 (x : Dsk) (I B : List AV) (y : Ino) (tx : ByteArray) (dirs seen : List Int) (names : List ByteArray) (S : List Slt) : Mem :=
  [some (4, [.agg [.nil, .nil, .nil, .nil]]), some (4, [.agg [.own 1 (x.used.map bv), .own 1 (x.taken.map bv), .sl 7 0 8, .sl 8 0 16]]), some (1, dirs.map iv), some (1, seen.map iv), some (3, [.agg [.int .i64 y.kind, .int .i64 y.links, .sl 9 0 2]]), some (1, names.map sv),
    some (3, [.agg [.bool true, .sl 10 0 4, .str tx]]), some (3, I), some (3, B), some (1, y.ptrs.map iv), some (2, S.map slt)]
def s18 (x : Dsk) (I B : List AV) (i : Nat) (y : Ino) (kk : Nat) (tx : ByteArray) (k : Nat) (dirs seen : List Int) (names : List ByteArray) (S : List Slt) (q : Nat) : St :=
  ⟨[(2, .ptr 0 0 0), (3, .ptr 1 0 0), (4, .sl 2 0 dirs.length), (5, .sl 3 0 seen.length), (6, .int .i64 (i : Nat)), (7, .ptr 4 0 0), (8, .sl 5 0 names.length), (9, .int .i64 (k : Nat)), (10, .ptr 6 0 0), (12, .int .i64 (q : Nat))],
   m18 x (I.set i (.agg [.int .i64 y.kind, .int .i64 y.links, .sl 9 0 2])) (B.set kk (.agg [.bool true, .sl 10 0 4, .str tx])) y tx dirs seen names S⟩
theorem st18e (x : Dsk) (hl : x.inos.length = 8) (blks : List Blk) (i : Nat) (hi : i < 8) (y : Ino) (hy2 : y.ptrs.length = 2) (kk : Nat) (hk : kk < 16) (hb : blks.length = 16) (tx : ByteArray) (k : Nat) (hk2 : k < 2) (dirs seen : List Int) (names : List ByteArray) (S : List Slt) (hS : S.length = 4) (q : Nat) (s : Slt) (hs : S[q]? = some s) (hne : decide (s.name = ⟨#[]⟩) = true) :
    XG TN 0 H73_18 L73_18 (s18 x (x.inos.map inoO) (blks.map blkO) i y kk tx k dirs seen names S q) = some (.normal, s18 x (x.inos.map inoO) (blks.map blkO) i y kk tx k dirs seen names S (q + 1)) := by
  have hq := (List.getElem?_eq_some_iff.1 hs).1
  have k1 : (q : Int) < (4 : Int) := by omega
  have q4 : q < 4 := by omega
  have gs : (S.map slt).getD q .undef = .agg [.str s.name, .int .i64 s.ino] := gD_map hs
  obtain ⟨I, hI⟩ : ∃ I, x.inos.map inoO = I := ⟨_, rfl⟩
  have imi : ∀ g, mapIdL g I = I := fun g => by rw [← hI]; exact mi_map g inoO x.inos inoO_cool
  have ims : ∀ u, idsL u I = [] := fun u => by rw [← hI]; exact is_map u inoO x.inos inoO_cool
  have il : I.length = 8 := by rw [← hI]; simp [hl]
  have isg : ∀ v : AV, (I.set i v).getD i .undef = v := fun v => by rw [List.getD, List.getElem?_set_self (by omega)]; rfl
  have iss : ∀ v w : AV, (I.set i v).set i w = I.set i w := fun v w => by rw [List.set_set]
  obtain ⟨B, hB⟩ : ∃ B, blks.map blkO = B := ⟨_, rfl⟩
  have bmi : ∀ g, mapIdL g B = B := fun g => by rw [← hB]; exact mi_map g blkO blks blkO_cool
  have bms : ∀ u, idsL u B = [] := fun u => by rw [← hB]; exact is_map u blkO blks blkO_cool
  have bl : B.length = 16 := by rw [← hB]; simp [hb]
  have hw := w_i64 ((q : Int) + 1) (by omega)
  have sg : ∀ v : AV, (B.set kk v).getD kk .undef = v := fun v => by rw [List.getD, List.getElem?_set_self (by omega)]; rfl
  have ss : ∀ v w : AV, (B.set kk v).set kk w = B.set kk w := fun v w => by rw [List.set_set]
  unfold s18 m18
  rw [hB, hI]
  simp only [XG, L73_18, h73_18, go_sem, seval, bnd_ite, k1, q4, hq, hS, gs, hne, imi, ims, il, isg, iss, bmi, bms, bl, hw, hk, hi, sg, ss, is_set, Int.natCast_nonneg, if_true]
  first | done | rfl
theorem st18 (x : Dsk) (hl : x.inos.length = 8) (blks : List Blk) (i : Nat) (hi : i < 8) (y : Ino) (hyi : x.inos[i]? = some y) (hy2 : y.ptrs.length = 2) (kk : Nat) (hk : kk < 16) (hb : blks.length = 16) (b : Blk) (hbd : b.dir = true) (p : Int) (hp : p = (kk : Int) + 1) (k : Nat) (hpk : y.ptrs[k]? = some p) (dirs seen : List Int) (names : List ByteArray) (S : List Slt) (hS : S.length = 4) (q : Nat) (s : Slt) (hs : S[q]? = some s) (hne : decide (s.name = ⟨#[]⟩) = false)
    (hnl : names.length ≤ 100000) (hdl : dirs.length ≤ 100000) (z : Ino) (hin : inside s.ino 1 8 = true) (hz : x.inos[(s.ino - 1).toNat]? = some z) :
    XG TN 0 H73_18 L73_18 (s18 x (x.inos.map inoO) (blks.map blkO) i y kk b.text k dirs seen names S q) = some (.normal, s18 x (x.inos.map inoO) (blks.map blkO) i y kk b.text k (if keepS x.inos names dirs s then (if z.kind = 2 then dirs ++ [s.ino] else dirs) else dirs) seen (if keepS x.inos names dirs s then names ++ [s.name] else names) (if keepS x.inos names dirs s then S else S.set q ⟨⟨#[]⟩, 0⟩) (q + 1)) := by
  have hq := (List.getElem?_eq_some_iff.1 hs).1
  have hk2 : k < 2 := by have := (List.getElem?_eq_some_iff.1 hpk).1; omega
  have k1 : (q : Int) < (4 : Int) := by omega
  have q4 : q < 4 := by omega
  have k2 : (k : Int) < (2 : Int) := by omega
  have gs : (S.map slt).getD q .undef = .agg [.str s.name, .int .i64 s.ino] := gD_map hs
  have gpp : (y.ptrs.map iv).getD k .undef = .int .i64 p := gD_map hpk
  have tkS : (S.map slt).take 4 = S.map slt := List.take_of_length_le (by simp [hS])
  have tkP : (y.ptrs.map iv).take 2 = y.ptrs.map iv := List.take_of_length_le (by simp [hy2])
  have hin' := hin
  simp only [inside, Bool.and_eq_true, decide_eq_true_eq] at hin'
  obtain ⟨w, gw⟩ : ∃ w, ((x.inos.map inoO).set i (.agg [.int .i64 y.kind, .int .i64 y.links, .sl 9 0 2])).getD (s.ino - 1).toNat .undef = .agg [.int .i64 z.kind, .int .i64 z.links, w] := by
    by_cases e : i = (s.ino - 1).toNat
    · have hyz : y = z := by rw [← e, hyi] at hz; exact Option.some.inj hz
      subst hyz
      refine ⟨.sl 9 0 2, ?_⟩
      rw [← e, List.getD, List.getElem?_set_self (by simp [hl]; omega)]; rfl
    · refine ⟨.own 1 (z.ptrs.map iv), ?_⟩
      rw [List.getD, List.getElem?_set_ne e, List.getElem?_map, hz]; rfl
  obtain ⟨I, hI⟩ : ∃ I, x.inos.map inoO = I := ⟨_, rfl⟩
  have imi : ∀ g, mapIdL g I = I := fun g => by rw [← hI]; exact mi_map g inoO x.inos inoO_cool
  have ims : ∀ u, idsL u I = [] := fun u => by rw [← hI]; exact is_map u inoO x.inos inoO_cool
  have il : I.length = 8 := by rw [← hI]; simp [hl]
  have isg : ∀ v : AV, (I.set i v).getD i .undef = v := fun v => by rw [List.getD, List.getElem?_set_self (by omega)]; rfl
  have iss : ∀ v w : AV, (I.set i v).set i w = I.set i w := fun v w => by rw [List.set_set]
  have iset : I.set i (.agg [.int .i64 y.kind, .int .i64 y.links, .own 1 (y.ptrs.map iv)]) = I := by
    rw [← hI]; exact set_self (by rw [List.getElem?_map, hyi]; rfl)
  have iqc : coolR 3 I = true := by rw [← hI]; exact inoO_coR _
  have iqi : iceL I = x.inos.map ino := by rw [← hI]; exact inoO_ic _
  have tI : I.take 8 = I := List.take_of_length_le (by omega)
  obtain ⟨Q, hQ⟩ : ∃ Q, (blks.set kk { b with slots := S }).map blkO = Q := ⟨_, rfl⟩
  have hset : (blks.map blkO).set kk (.agg [.bool true, .own 2 (S.map slt), .str b.text]) = Q := by rw [← hQ, List.map_set, ← hbd]; rfl
  have qc : coolR 3 Q = true := by rw [← hQ]; exact blkO_coR _
  have qi : iceL Q = (blks.set kk { b with slots := S }).map blk := by rw [← hQ]; exact blkO_ic _
  have tQ : Q.take 16 = Q := List.take_of_length_le (by rw [← hQ]; simp [hb])
  obtain ⟨B, hB⟩ : ∃ B, blks.map blkO = B := ⟨_, rfl⟩
  rw [hB] at hset
  have bmi : ∀ g, mapIdL g B = B := fun g => by rw [← hB]; exact mi_map g blkO blks blkO_cool
  have bms : ∀ u, idsL u B = [] := fun u => by rw [← hB]; exact is_map u blkO blks blkO_cool
  have bl : B.length = 16 := by rw [← hB]; simp [hb]
  have hw := w_i64 ((q : Int) + 1) (by omega)
  have sg : ∀ v : AV, (B.set kk v).getD kk .undef = v := fun v => by rw [List.getD, List.getElem?_set_self (by omega)]; rfl
  have ss : ∀ v w : AV, (B.set kk v).set kk w = B.set kk w := fun v w => by rw [List.set_set]
  have tB : ∀ v : AV, (B.set kk v).take 16 = B.set kk v := fun v => List.take_of_length_le (by simp [bl])
  have e1 := k174 x.inos (x.used.map bv) (x.taken.map bv) ((blks.set kk { b with slots := S }).map blk) s names dirs hl hin z hz hnl hdl
  have tn : (names.map sv).take names.length = names.map sv := List.take_of_length_le (by simp)
  have td : (dirs.map iv).take dirs.length = dirs.map iv := List.take_of_length_le (by simp)
  have nc := sv_coR names
  have ni := sv_ic names
  have dc := iv_coR dirs
  have di := iv_ic dirs
  have pk : (p - 1).toNat = kk := by omega
  have pk' : (p + -1).toNat = kk := by omega
  have wp := w_i64 (p - 1) (by omega)
  have p0 : (0 : Int) ≤ p - 1 := by omega
  have p16 : p - 1 < 16 := by omega
  have wi := w_i64 (s.ino - 1) (by omega)
  have i0 : (0 : Int) ≤ s.ino - 1 := by omega
  have i8 : s.ino - 1 < 8 := by omega
  have n8 : (s.ino - 1).toNat < 8 := by omega
  have na : names.map sv ++ [AV.str s.name] = (names ++ [s.name]).map sv := by rw [List.map_append]; rfl
  have da : dirs.map iv ++ [AV.int .i64 s.ino] = (dirs ++ [s.ino]).map iv := by rw [List.map_append]; rfl
  have nal : (names ++ [s.name]).length = names.length + 1 := by simp
  have dal : (dirs ++ [s.ino]).length = dirs.length + 1 := by simp
  have hap1 : (names.length + 1) * 16 ≤ 140737488355328 := by omega
  have hap2 : (dirs.length + 1) * 8 ≤ 140737488355328 := by omega
  have hset2 : (S.map slt).set q (.agg [.str ⟨#[]⟩, .int .i64 0]) = (S.set q ⟨⟨#[]⟩, 0⟩).map slt := by rw [List.map_set]; rfl
  have um := bv_mi
  have ui := bv_is
  rw [hI] at gw
  unfold s18 m18
  rw [hB, hI]
  cases d1 : keepS x.inos names dirs s with
  | false =>
    rw [d1] at e1
    simp only [Bool.false_eq_true, if_false]
    simp only [XG, L73_18, h73_18, go_sem, seval, bnd_ite, k1, q4, k2, hk2, hq, hS, gs, gpp, hne, tkS, tkP, hy2, imi, ims, il, isg, iss, iset, iqc, iqi, tI, bmi, bms, bl, hset, qc, qi, tQ, sg, ss, tB, is_set, e1, hw, tn, td, nc, ni, dc, di, pk, pk', wp, p0, p16, hk, hi, hset2, Int.natCast_nonneg, Bool.not_false, Bool.false_eq_true, if_false, if_true]
    first | done | rfl
  | true =>
    rw [d1] at e1
    simp only [if_true]
    cases d5 : decide (z.kind = 2) with
    | true =>
      have d6 : z.kind = 2 := by simpa using d5
      simp only [d6, if_true]
      rw [d6] at gw
      simp only [XG, L73_18, h73_18, go_sem, seval, bnd_ite, k1, q4, k2, hk2, hq, hS, gs, gpp, hne, tkS, tkP, hy2, imi, ims, il, isg, iss, iset, iqc, iqi, tI, bmi, bms, bl, hset, qc, qi, tQ, sg, ss, tB, is_set, e1, hw, tn, td, nc, ni, dc, di, pk, pk', wp, p0, p16, hk, hi, gw, wi, i0, i8, n8, na, da, nal, dal, hap1, hap2, hset2, Int.natCast_nonneg, Bool.not_false, Bool.not_true, Bool.false_eq_true, if_false, if_true]
      first | done | rfl
    | false =>
      have d6 : ¬ z.kind = 2 := by simpa using d5
      simp only [d6, if_false]
      simp only [XG, L73_18, h73_18, go_sem, seval, bnd_ite, k1, q4, k2, hk2, hq, hS, gs, gpp, hne, tkS, tkP, hy2, imi, ims, il, isg, iss, iset, iqc, iqi, tI, bmi, bms, bl, hset, qc, qi, tQ, sg, ss, tB, is_set, e1, hw, tn, td, nc, ni, dc, di, pk, pk', wp, p0, p16, hk, hi, gw, wi, i0, i8, n8, na, da, nal, dal, hap1, hap2, d5, hset2, Int.natCast_nonneg, Bool.not_false, Bool.not_true, Bool.false_eq_true, if_false, if_true]
      first | done | rfl
end Go.Proofs.Ytaaajjinpppgeaa

/- The sweep over names: the program's loop over the blocks of a directory. Own work; no condition. -/
set_option linter.unusedVariables false
set_option linter.unusedSimpArgs false
set_option linter.unusedSectionVars false
namespace Go.Proofs.Ytaaajjinpppgeaa
open Go Go.Abs
set_option maxRecDepth 100000
def s12 (x : Dsk) (ahead bs : List Int) (io : Int) (st : NmB) (j : Nat) : St :=
  ⟨[(2, .ptr 0 0 0), (3, .ptr 1 0 0), (4, .sl 2 0 ahead.length), (5, .sl 3 0 st.dirs.length), (6, .int .i64 io), (7, .sl 4 0 st.names.length), (8, .sl 5 0 bs.length), (31, .sl 5 0 bs.length), (32, .int .i64 bs.length), (33, .int .i64 (j : Nat))],
   [some (4, [.agg [.nil, .nil, .nil, .nil]]), some (4, [.agg [.own 1 (x.used.map bv), .own 1 (x.taken.map bv), .own 3 (x.inos.map inoO), .own 3 (st.blks.map blkO)]]), some (1, ahead.map iv), some (1, st.dirs.map iv), some (1, st.names.map sv), some (1, bs.map iv)]⟩
theorem st12 (x : Dsk) (hl : x.inos.length = 8) (ahead bs : List Int) (io : Int) (st : NmB) (hb : st.blks.length = 16) (hn : st.names.length ≤ 1000) (hd : st.dirs.length ≤ 1000) (j : Nat) (p : Int) (hp : bs[j]? = some p) (hp1 : 1 ≤ p) (hp2 : p ≤ 16) (hbl : bs.length ≤ 1000) (b : Blk) (hbk : st.blks[(p - 1).toNat]? = some b)
    (hS : b.slots.length = 4 ∨ b.slots.length = 0) (hin : ∀ s ∈ b.slots, s.name ≠ ⟨#[]⟩ → inside s.ino 1 8 = true) :
    XG TN 0 H74_12 L74_12 (s12 x ahead bs io st j) = some (.normal, s12 x ahead bs io (sweep x.inos st p) (j + 1)) := by
  obtain ⟨k, hk⟩ : ∃ k : Nat, (p - 1).toNat = k := ⟨_, rfl⟩
  have hk16 : k < 16 := by omega
  have hpk : p = (k : Int) + 1 := by omega
  have pk : (p + -1).toNat = k := by omega
  rw [hk] at hbk
  obtain ⟨⟨y, r2⟩, k1, kx, e, ke, l2, l3, l4, l5, l6, l7, l8, l31, l32, l33⟩ := lp16 x hl st.blks k hk16 hb b ahead bs p io (j : Nat) hpk b.slots hS hin st.names st.dirs hn hd
  simp only at kx ke
  subst kx; subst ke
  have hj := (List.getElem?_eq_some_iff.1 hp).1
  have j1 : (j : Int) < (bs.length : Int) := by omega
  have gp : (bs.map iv).getD j .undef = .int .i64 p := gD_map hp
  have wp := w_i64 (p - 1) (by omega)
  have wj := w_i64 ((j : Int) + 1) (by omega)
  have p0 : (0 : Int) ≤ p - 1 := by omega
  have p16 : p - 1 < 16 := by omega
  have gb : (st.blks.map blkO).getD k .undef = .agg [.bool b.dir, .own 2 (b.slots.map slt), .str b.text] := gD_map hbk
  have hout : ((b.slots.foldl (slStep x.inos) ⟨[], st.names, st.dirs⟩).out).length = b.slots.length := by
    have : ∀ (l : List Slt) (a : NmS), (l.foldl (slStep x.inos) a).out.length = a.out.length + l.length := by
      intro l
      induction l with
      | nil => intro a; rfl
      | cons s l ih => intro a; rw [List.foldl_cons, ih, (slStep_len x.inos a s).1, List.length_cons]; omega
    rw [this]; simp
  unfold sweep
  rw [hk, hbk]
  simp only
  generalize b.slots.foldl (slStep x.inos) ⟨[], st.names, st.dirs⟩ = R at *
  obtain ⟨Q, hQ⟩ : ∃ Q, (st.blks.set k { b with slots := R.out }).map blkO = Q := ⟨_, rfl⟩
  have hset : (st.blks.map blkO).set k (.agg [.bool b.dir, .own 2 (R.out.map slt), .str b.text]) = Q := by rw [← hQ, List.map_set]; rfl
  obtain ⟨B, hB⟩ : ∃ B, st.blks.map blkO = B := ⟨_, rfl⟩
  have bmi : ∀ g, mapIdL g B = B := fun g => by rw [← hB]; exact mi_map g blkO st.blks blkO_cool
  have bms : ∀ u, idsL u B = [] := fun u => by rw [← hB]; exact is_map u blkO st.blks blkO_cool
  have bl : B.length = 16 := by rw [← hB]; simp [hb]
  have sg : ∀ v : AV, (B.set k v).getD k .undef = v := fun v => by
    rw [List.getD, List.getElem?_set_self (by omega)]; rfl
  have ss : ∀ v w : AV, (B.set k v).set k w = B.set k w := fun v w => by rw [List.set_set]
  have tB : ∀ v : AV, (B.set k v).take 16 = B.set k v := fun v => List.take_of_length_le (by simp [bl])
  have tS : (b.slots.map slt).take b.slots.length = b.slots.map slt := List.take_of_length_le (by simp)
  have tR : (R.out.map slt).take b.slots.length = R.out.map slt := List.take_of_length_le (by simp [hout])
  unfold s12
  unfold s16 m16 at k1
  have hs0 : ((0 : Nat) : Int) = 0 := rfl
  rw [hB] at hset gb k1
  simp only [hs0] at k1
  simp only [hB]
  rw [hQ]
  have tQ : Q.take 16 = Q := List.take_of_length_le (by rw [← hQ]; simp [hb])
  simp only [XG, L74_12, h74_12, h74_16, go_sem, seval, bnd_ite, j1, hj, gp, wp, wj, p0, p16, pk, hk, hk16, gb, bmi, bms, bl, sg, ss, tB, is_set, tS, k1, l2, l3, l4, l5, l6, l7, l8, l31, l32, l33, hout, Nat.le_refl, tR, hset, tQ, Int.natCast_nonneg, if_true]
  first | done | rfl
end Go.Proofs.Ytaaajjinpppgeaa

/- The sweep over names: all blocks of a directory. Own work; no condition. -/
set_option linter.unusedVariables false
set_option linter.unusedSimpArgs false
set_option linter.unusedSectionVars false
namespace Go.Proofs.Ytaaajjinpppgeaa
open Go Go.Abs
set_option maxRecDepth 100000
def goodB (b : Blk) : Prop := (b.slots.length = 4 ∨ b.slots.length = 0) ∧ ∀ s ∈ b.slots, s.name ≠ ⟨#[]⟩ → inside s.ino 1 8 = true
theorem fold_len (inos : List Ino) : ∀ (l : List Slt) (a : NmS), (l.foldl (slStep inos) a).out.length = a.out.length + l.length ∧ (l.foldl (slStep inos) a).names.length ≤ a.names.length + l.length ∧ (l.foldl (slStep inos) a).dirs.length ≤ a.dirs.length + l.length
  | [], a => by simp
  | s :: l, a => by
    obtain ⟨h1, h2, h3⟩ := fold_len inos l (slStep inos a s)
    obtain ⟨g1, g2, g3⟩ := slStep_len inos a s
    rw [List.foldl_cons, List.length_cons]
    omega
theorem fold_good (inos : List Ino) : ∀ (l : List Slt) (a : NmS), (∀ s ∈ l, s.name ≠ ⟨#[]⟩ → inside s.ino 1 8 = true) → (∀ s ∈ a.out, s.name ≠ ⟨#[]⟩ → inside s.ino 1 8 = true) → ∀ s ∈ (l.foldl (slStep inos) a).out, s.name ≠ ⟨#[]⟩ → inside s.ino 1 8 = true
  | [], a, _, h => h
  | s :: l, a, hl, h => by
    refine fold_good inos l (slStep inos a s) (fun t ht => hl t (List.mem_cons_of_mem _ ht)) ?_
    have hs := hl s (List.mem_cons_self ..)
    unfold slStep
    intro t ht hne
    split at ht
    · rcases List.mem_append.1 ht with ht | ht
      · exact h t ht hne
      · rw [List.mem_singleton.1 ht] at hne ⊢; exact hs hne
    · split at ht
      · rcases List.mem_append.1 ht with ht | ht
        · exact h t ht hne
        · rw [List.mem_singleton.1 ht] at hne ⊢; exact hs hne
      · rcases List.mem_append.1 ht with ht | ht
        · exact h t ht hne
        · rw [List.mem_singleton.1 ht] at hne; exact absurd rfl hne
structure NmI (st : NmB) (n d : Nat) : Prop where
  len : st.blks.length = 16
  good : ∀ b ∈ st.blks, goodB b
  names : st.names.length ≤ n
  dirs : st.dirs.length ≤ d
theorem sweep_inv (inos : List Ino) {st : NmB} {n d : Nat} (h : NmI st n d) (p : Int) (hp1 : 1 ≤ p) (hp2 : p ≤ 16) : NmI (sweep inos st p) (n + 4) (d + 4) := by
  obtain ⟨h1, h2, h3, h4⟩ := h
  obtain ⟨b, hb⟩ := get_at (show (p - 1).toNat < st.blks.length by omega)
  have hg := h2 b (List.mem_of_getElem? hb)
  obtain ⟨f1, f2, f3⟩ := fold_len inos b.slots ⟨[], st.names, st.dirs⟩
  have f4 := fold_good inos b.slots ⟨[], st.names, st.dirs⟩ hg.2 (by simp)
  unfold sweep
  rw [hb]
  simp only at f1 f2 f3 ⊢
  simp only [List.length_nil, Nat.zero_add] at f1
  refine ⟨by simp [h1], fun x hx => ?_, ?_, ?_⟩
  · rcases List.mem_or_eq_of_mem_set hx with hx | rfl
    · exact h2 x hx
    · exact ⟨by simp only [f1]; exact hg.1, f4⟩
  · show (b.slots.foldl (slStep inos) ⟨[], st.names, st.dirs⟩).names.length ≤ _
    have := hg.1; omega
  · show (b.slots.foldl (slStep inos) ⟨[], st.names, st.dirs⟩).dirs.length ≤ _
    have := hg.1; omega
theorem lp12 (x : Dsk) (hl : x.inos.length = 8) (ahead bs : List Int) (io : Int) (st : NmB) (d : Nat) (hI : NmI st 0 d) (hd : d ≤ 500) (hbl : bs.length ≤ 16) (hbs : ∀ p ∈ bs, 1 ≤ p ∧ p ≤ 16) :
    ∃ r, XL TN 0 H74_12 L74_12 (s12 x ahead bs io st 0) = some r ∧ r.1 = .exit 2 ∧ NmI (bs.foldl (sweep x.inos) st) (4 * bs.length) (d + 4 * bs.length) ∧
      lookA r.2.env 2 = .ptr 0 0 0 ∧ lookA r.2.env 3 = .ptr 1 0 0 ∧ lookA r.2.env 4 = .sl 2 0 ahead.length ∧ lookA r.2.env 5 = .sl 3 0 (bs.foldl (sweep x.inos) st).dirs.length ∧ lookA r.2.env 6 = .int .i64 io ∧ lookA r.2.env 8 = .sl 5 0 bs.length ∧ r.2.mem = (s12 x ahead bs io (bs.foldl (sweep x.inos) st) 0).mem := by
  refine XL_each (T := TN) (b := 0) (hd := H74_12) (x := L74_12) bs (sweep x.inos) (fun j st => s12 x ahead bs io st j) (fun j st => NmI st (4 * j) (d + 4 * j))
    (fun st r => r.1 = .exit 2 ∧ NmI st (4 * bs.length) (d + 4 * bs.length) ∧ lookA r.2.env 2 = .ptr 0 0 0 ∧ lookA r.2.env 3 = .ptr 1 0 0 ∧ lookA r.2.env 4 = .sl 2 0 ahead.length ∧ lookA r.2.env 5 = .sl 3 0 st.dirs.length ∧ lookA r.2.env 6 = .int .i64 io ∧ lookA r.2.env 8 = .sl 5 0 bs.length ∧ r.2.mem = (s12 x ahead bs io st 0).mem) (fun j st p hp hj hI => ?_) (fun st hI => ?_) st (by simpa using hI)
  · obtain ⟨p1, p2⟩ := hbs p (List.mem_of_getElem? hp)
    obtain ⟨b, hb⟩ := get_at (show (p - 1).toNat < st.blks.length by have := hI.len; omega)
    have hg := hI.good b (List.mem_of_getElem? hb)
    have n1 := hI.names
    have n2 := hI.dirs
    refine ⟨st12 x hl ahead bs io st hI.len (by omega) (by omega) j p hp p1 p2 (by omega) b hb hg.1 hg.2, ?_⟩
    have := sweep_inv x.inos hI p p1 p2
    rw [show 4 * (j + 1) = 4 * j + 4 by omega, show d + (4 * j + 4) = d + 4 * j + 4 by omega]
    exact this
  · unfold s12
    simp only [XG, L74_12, h74_12, go_sem, seval, bnd_ite, Int.lt_irrefl, decide_false]
    exact .mk (by simp) ⟨rfl, hI, rfl, rfl, rfl, rfl, rfl, rfl, rfl⟩
end Go.Proofs.Ytaaajjinpppgeaa

/- The sweep over names: the slots of a block, as the reference sweeps them. Own work; no condition. -/
set_option linter.unusedVariables false
set_option linter.unusedSimpArgs false
set_option linter.unusedSectionVars false
namespace Go.Proofs.Ytaaajjinpppgeaa
open Go Go.Abs
set_option maxRecDepth 100000
theorem lp18 (x : Dsk) (hl : x.inos.length = 8) (blks : List Blk) (i : Nat) (hi : i < 8) (y : Ino) (hyi : x.inos[i]? = some y) (hy2 : y.ptrs.length = 2) (kk : Nat) (hk : kk < 16) (hb : blks.length = 16) (b : Blk) (hbd : b.dir = true) (p : Int) (hp : p = (kk : Int) + 1) (k : Nat) (hpk : y.ptrs[k]? = some p) (dirs seen : List Int) (names : List ByteArray)
    (S0 : List Slt) (hS : S0.length = 4) (hin : ∀ s ∈ S0, s.name ≠ ⟨#[]⟩ → inside s.ino 1 8 = true) (hn : names.length ≤ 1000) (hd : dirs.length ≤ 1000) :
    ∃ r, XL TN 0 H73_18 L73_18 (s18 x (x.inos.map inoO) (blks.map blkO) i y kk b.text k dirs seen names S0 0) = some r ∧ r.1 = .exit 4 ∧
      ∃ e, r.2 = ⟨e, m18 x ((x.inos.map inoO).set i (.agg [.int .i64 y.kind, .int .i64 y.links, .sl 9 0 2])) ((blks.map blkO).set kk (.agg [.bool true, .sl 10 0 4, .str b.text])) y b.text (S0.foldl (slStep x.inos) ⟨[], names, dirs⟩).dirs seen (S0.foldl (slStep x.inos) ⟨[], names, dirs⟩).names (S0.foldl (slStep x.inos) ⟨[], names, dirs⟩).out⟩ ∧
        lookA e 2 = .ptr 0 0 0 ∧ lookA e 3 = .ptr 1 0 0 ∧ lookA e 4 = .sl 2 0 (S0.foldl (slStep x.inos) ⟨[], names, dirs⟩).dirs.length ∧ lookA e 5 = .sl 3 0 seen.length ∧ lookA e 6 = .int .i64 (i : Nat) ∧ lookA e 7 = .ptr 4 0 0 ∧ lookA e 8 = .sl 5 0 (S0.foldl (slStep x.inos) ⟨[], names, dirs⟩).names.length ∧ lookA e 9 = .int .i64 (k : Nat) := by
  have hk2 : k < 2 := by have := (List.getElem?_eq_some_iff.1 hpk).1; omega
  have := XL_each (T := TN) (b := 0) (hd := H73_18) (x := L73_18) S0 (slStep x.inos) (fun q st => s18 x (x.inos.map inoO) (blks.map blkO) i y kk b.text k st.dirs seen st.names (st.out ++ S0.drop q) q) (fun q st => st.out.length = q ∧ st.names.length ≤ 1000 + q ∧ st.dirs.length ≤ 1000 + q)
    (fun st r => r.1 = .exit 4 ∧ ∃ e, r.2 = ⟨e, m18 x ((x.inos.map inoO).set i (.agg [.int .i64 y.kind, .int .i64 y.links, .sl 9 0 2])) ((blks.map blkO).set kk (.agg [.bool true, .sl 10 0 4, .str b.text])) y b.text st.dirs seen st.names st.out⟩ ∧
        lookA e 2 = .ptr 0 0 0 ∧ lookA e 3 = .ptr 1 0 0 ∧ lookA e 4 = .sl 2 0 st.dirs.length ∧ lookA e 5 = .sl 3 0 seen.length ∧ lookA e 6 = .int .i64 (i : Nat) ∧ lookA e 7 = .ptr 4 0 0 ∧ lookA e 8 = .sl 5 0 st.names.length ∧ lookA e 9 = .int .i64 (k : Nat)) (by
      intro q st s hs hq hI
      obtain ⟨i1, i2, i3⟩ := hI
      obtain ⟨g1, g2, g3⟩ := slStep_len x.inos st s
      refine ⟨?_, by omega, by omega, by omega⟩
      have hs' : (st.out ++ S0.drop q)[q]? = some s := by
        rw [List.getElem?_append_right (by omega), i1, Nat.sub_self, List.getElem?_drop]; exact hs
      have hdrop : S0.drop q = s :: S0.drop (q + 1) := by
        obtain ⟨hh, rfl⟩ := List.getElem?_eq_some_iff.1 hs
        exact List.drop_eq_getElem_cons hh
      have hlen : (st.out ++ S0.drop q).length = 4 := by simp; omega
      have happ : ∀ v : Slt, (st.out ++ S0.drop q).set q v = (st.out ++ [v]) ++ S0.drop (q + 1) := fun v => by
        rw [hdrop, List.set_append_right _ _ (by omega), i1, Nat.sub_self, List.append_assoc]; rfl
      have hadd : st.out ++ S0.drop q = (st.out ++ [s]) ++ S0.drop (q + 1) := by rw [hdrop, List.append_assoc]; rfl
      by_cases hne : s.name = ⟨#[]⟩
      · have e := st18e x hl blks i hi y hy2 kk hk hb b.text k hk2 st.dirs seen st.names (st.out ++ S0.drop q) hlen q s hs' (decide_eq_true hne)
        unfold slStep
        rw [if_pos hne, e]
        rw [hadd]
      · have hi2 := hin s (List.mem_of_getElem? hs) hne
        have hi' := hi2
        simp only [inside, Bool.and_eq_true, decide_eq_true_eq] at hi'
        obtain ⟨z, hz⟩ := get_at (show (s.ino - 1).toNat < x.inos.length by omega)
        have e := st18 x hl blks i hi y hyi hy2 kk hk hb b hbd p hp k hpk st.dirs seen st.names (st.out ++ S0.drop q) hlen q s hs' (decide_eq_false hne) (by omega) (by omega) z hi2 hz
        rw [e]
        have gz : x.inos.getD (s.ino - 1).toNat ⟨0, 0, []⟩ = z := by rw [List.getD, hz]; rfl
        unfold slStep
        rw [if_neg hne, gz]
        cases d1 : keepS x.inos st.names st.dirs s with
        | true => simp only [if_true]; rw [hadd]
        | false => simp only [Bool.false_eq_true, if_false]; rw [happ]; rfl) (by
      intro st hI
      obtain ⟨i1, i2, i3⟩ := hI
      have hd0 : S0.drop S0.length = [] := List.drop_length
      rw [hd0, List.append_nil, hS]
      unfold s18 m18
      have c4 : ¬ ((4 : Nat) : Int) < 4 := by omega
      simp only [XG, L73_18, h73_18, go_sem, seval, bnd_ite, c4, decide_false]
      exact .mk (by simp) ⟨rfl, _, rfl, rfl, rfl, rfl, rfl, rfl, rfl, rfl, rfl⟩) ⟨[], names, dirs⟩ ⟨rfl, by omega, by omega⟩
  simpa using this
end Go.Proofs.Ytaaajjinpppgeaa

/- The sweep over names: a pointer of a directory, as the reference sweeps it. Own work; no condition. -/
set_option linter.unusedVariables false
set_option linter.unusedSimpArgs false
set_option linter.unusedSectionVars false
namespace Go.Proofs.Ytaaajjinpppgeaa
open Go Go.Abs
set_option maxRecDepth 100000
theorem look_if (a0 a1 a2 : AV) (id off n : Nat) (p : Int) (m : Mem) : E TN 165 [.agg [a0, a1, a2, .sl id off n], .int .i64 p] (none :: m) = if n ≤ 1048576 ∧ (liveOf m id).isSome = true then (if 1 ≤ p ∧ p ≤ (n : Int) then lookR m off p (liveOf m id) else some (.tup [.agg [.bool false, .nil, .str ⟨#[]⟩], .bool false], [])) else none := by
  rw [q165]; rfl
theorem lookR_at {m : Mem} {off : Nat} {p : Int} {xs : List AV} {d : Bool} {i2 o2 n2 : Nat} {s : ByteArray} (h : xs[off + (p.toNat - 1)]? = some (.agg [.bool d, .sl i2 o2 n2, .str s])) :
    lookR m off p (some (3, xs)) = if (liveOf m i2).isSome = true then some (.tup [.agg [.bool d, .sl i2 o2 n2, .str s], .bool true], []) else none := by
  simp only [lookR, h]
def m12 (x : Dsk) (I B : List AV) (y : Ino) (dirs seen : List Int) (names : List ByteArray) : Mem :=
  [some (4, [.agg [.nil, .nil, .nil, .nil]]), some (4, [.agg [.own 1 (x.used.map bv), .own 1 (x.taken.map bv), .sl 6 0 8, .sl 7 0 16]]), some (1, dirs.map iv), some (1, seen.map iv), some (3, [.agg [.int .i64 y.kind, .int .i64 y.links, .sl 8 0 2]]), some (1, names.map sv),
    some (3, I), some (3, B), some (1, y.ptrs.map iv)]
def r12 (x : Dsk) (I : List AV) (i : Nat) (y : Ino) (k : Nat) (st : NmB) : St :=
  ⟨[(2, .ptr 0 0 0), (3, .ptr 1 0 0), (4, .sl 2 0 st.dirs.length), (5, .sl 3 0 st.seen.length), (6, .int .i64 (i : Nat)), (7, .ptr 4 0 0), (8, .sl 5 0 st.names.length), (9, .int .i64 (k : Nat))],
   m12 x (I.set i (.agg [.int .i64 y.kind, .int .i64 y.links, .sl 8 0 2])) (st.blks.map blkO) y st.dirs st.seen st.names⟩
theorem st12z (x : Dsk) (hl : x.inos.length = 8) (i : Nat) (hi : i < 8) (y : Ino) (hyi : x.inos[i]? = some y) (hy2 : y.ptrs.length = 2) (hyk : y.kind = 2) (k : Nat) (hpk : y.ptrs[k]? = some 0) (st : NmB) (hb : st.blks.length = 16) :
    XG TN 0 H73_12 L73_12 (r12 x (x.inos.map inoO) i y k st) = some (.normal, r12 x (x.inos.map inoO) i y (k + 1) st) := by
  have hk2 : k < 2 := by have := (List.getElem?_eq_some_iff.1 hpk).1; omega
  have k2 : (k : Int) < (2 : Int) := by omega
  have gpp : (y.ptrs.map iv).getD k .undef = .int .i64 0 := gD_map hpk
  have yk : decide (y.kind = 2) = true := by simpa using hyk
  have e1 : ¬ ((1 : Int) ≤ 0 ∧ (0 : Int) ≤ ((16 : Nat) : Int)) := by omega
  have e2 : (16 : Nat) ≤ 1048576 := by decide
  obtain ⟨I, hI⟩ : ∃ I, x.inos.map inoO = I := ⟨_, rfl⟩
  have imi : ∀ g, mapIdL g I = I := fun g => by rw [← hI]; exact mi_map g inoO x.inos inoO_cool
  have ims : ∀ u, idsL u I = [] := fun u => by rw [← hI]; exact is_map u inoO x.inos inoO_cool
  have il : I.length = 8 := by rw [← hI]; simp [hl]
  have isg : ∀ v : AV, (I.set i v).getD i .undef = v := fun v => by rw [List.getD, List.getElem?_set_self (by omega)]; rfl
  have iss : ∀ v w : AV, (I.set i v).set i w = I.set i w := fun v w => by rw [List.set_set]
  obtain ⟨B, hB⟩ : ∃ B, st.blks.map blkO = B := ⟨_, rfl⟩
  have bmi : ∀ g, mapIdL g B = B := fun g => by rw [← hB]; exact mi_map g blkO st.blks blkO_cool
  have bms : ∀ u, idsL u B = [] := fun u => by rw [← hB]; exact is_map u blkO st.blks blkO_cool
  have bl : B.length = 16 := by rw [← hB]; simp [hb]
  have wk := w_i64 ((k : Int) + 1) (by omega)
  have tu : (x.used.map bv).take x.used.length = x.used.map bv := List.take_of_length_le (by simp)
  have tt : (x.taken.map bv).take x.taken.length = x.taken.map bv := List.take_of_length_le (by simp)
  unfold r12 m12
  rw [hB, hI]
  simp only [XG, L73_12, h73_12, go_sem, seval, bnd_ite, look_if, e1, e2, Option.isSome_some, and_self, hk2, k2, hy2, gpp, yk, imi, ims, il, isg, iss, bmi, bms, bl, is_set, hi, wk, tu, tt, bv_mi, bv_is, iv_mi, iv_is, sv_mi, sv_is, Int.natCast_nonneg, Bool.not_false, Bool.not_true, Bool.false_eq_true, if_false, if_true]
  first | done | rfl
theorem st12n (x : Dsk) (hl : x.inos.length = 8) (i : Nat) (hi : i < 8) (y : Ino) (hyi : x.inos[i]? = some y) (hy2 : y.ptrs.length = 2) (hyk : y.kind = 2) (k : Nat) (p : Int) (hp1 : 1 ≤ p) (hp2 : p ≤ 16) (hpk : y.ptrs[k]? = some p) (st : NmB) (hb : st.blks.length = 16) (b : Blk) (hbk : st.blks[(p - 1).toNat]? = some b) (hd : b.dir = false) :
    XG TN 0 H73_12 L73_12 (r12 x (x.inos.map inoO) i y k st) = some (.normal, r12 x (x.inos.map inoO) i y (k + 1) st) := by
  have hk2 : k < 2 := by have := (List.getElem?_eq_some_iff.1 hpk).1; omega
  have k2 : (k : Int) < (2 : Int) := by omega
  have gpp : (y.ptrs.map iv).getD k .undef = .int .i64 p := gD_map hpk
  have yk : decide (y.kind = 2) = true := by simpa using hyk
  obtain ⟨kk, hkk⟩ : ∃ kk : Nat, (p - 1).toNat = kk := ⟨_, rfl⟩
  rw [hkk] at hbk
  have hk16 : kk < 16 := by omega
  have e1 : ((1 : Int) ≤ p ∧ p ≤ ((16 : Nat) : Int)) := by omega
  have e2 : (16 : Nat) ≤ 1048576 := by decide
  have p0 : (0 : Int) ≤ p + -1 := by omega
  have pk : (p + -1).toNat = kk := by omega
  obtain ⟨I, hI⟩ : ∃ I, x.inos.map inoO = I := ⟨_, rfl⟩
  have imi : ∀ g, mapIdL g I = I := fun g => by rw [← hI]; exact mi_map g inoO x.inos inoO_cool
  have ims : ∀ u, idsL u I = [] := fun u => by rw [← hI]; exact is_map u inoO x.inos inoO_cool
  have il : I.length = 8 := by rw [← hI]; simp [hl]
  have isg : ∀ v : AV, (I.set i v).getD i .undef = v := fun v => by rw [List.getD, List.getElem?_set_self (by omega)]; rfl
  have iss : ∀ v w : AV, (I.set i v).set i w = I.set i w := fun v w => by rw [List.set_set]
  have gb : (st.blks.map blkO).getD kk .undef = .agg [.bool b.dir, .own 2 (b.slots.map slt), .str b.text] := gD_map hbk
  have bself : (st.blks.map blkO).set kk (.agg [.bool b.dir, .own 2 (b.slots.map slt), .str b.text]) = st.blks.map blkO := set_self (by rw [List.getElem?_map, hbk]; rfl)
  obtain ⟨B, hB⟩ : ∃ B, st.blks.map blkO = B := ⟨_, rfl⟩
  rw [hB] at gb bself
  have bmi : ∀ g, mapIdL g B = B := fun g => by rw [← hB]; exact mi_map g blkO st.blks blkO_cool
  have bms : ∀ u, idsL u B = [] := fun u => by rw [← hB]; exact is_map u blkO st.blks blkO_cool
  have bl : B.length = 16 := by rw [← hB]; simp [hb]
  have sg : ∀ v : AV, (B.set kk v).getD kk .undef = v := fun v => by rw [List.getD, List.getElem?_set_self (by omega)]; rfl
  have ss : ∀ v w : AV, (B.set kk v).set kk w = B.set kk w := fun v w => by rw [List.set_set]
  have lr : ∀ (m : Mem) (d : Bool) (i2 o2 n2 : Nat) (s : ByteArray), lookR m 0 p (some (3, B.set kk (.agg [.bool d, .sl i2 o2 n2, .str s]))) = if (liveOf m i2).isSome = true then some (.tup [.agg [.bool d, .sl i2 o2 n2, .str s], .bool true], []) else none := fun m d i2 o2 n2 s =>
    lookR_at (by rw [show 0 + (p.toNat - 1) = kk by omega, List.getElem?_set_self (by omega)])
  have wk := w_i64 ((k : Int) + 1) (by omega)
  have tu : (x.used.map bv).take x.used.length = x.used.map bv := List.take_of_length_le (by simp)
  have tt : (x.taken.map bv).take x.taken.length = x.taken.map bv := List.take_of_length_le (by simp)
  have tkS : (b.slots.map slt).take b.slots.length = b.slots.map slt := List.take_of_length_le (by simp)
  have tsn : (st.seen.map iv).take st.seen.length = st.seen.map iv := List.take_of_length_le (by simp)
  have snc := iv_coR st.seen
  have sni := iv_ic st.seen
  unfold r12 m12
  rw [hB, hI]
  rw [hd] at gb bself
  simp only [XG, L73_12, h73_12, go_sem, seval, bnd_ite, look_if, lr, hp1, hp2, e2, p0, pk, Option.isSome_some, and_self, hk2, k2, hy2, gpp, yk, imi, ims, il, isg, iss, gb, bself, bmi, bms, bl, sg, ss, is_set, hi, hk16, wk, tu, tt, tkS, tsn, snc, sni, bv_mi, bv_is, iv_mi, iv_is, sv_mi, sv_is, Int.natCast_nonneg, Bool.not_false, Bool.not_true, Bool.false_eq_true, if_false, if_true]
  first | done | rfl
theorem st12h (x : Dsk) (hl : x.inos.length = 8) (i : Nat) (hi : i < 8) (y : Ino) (hyi : x.inos[i]? = some y) (hy2 : y.ptrs.length = 2) (hyk : y.kind = 2) (k : Nat) (p : Int) (hp1 : 1 ≤ p) (hp2 : p ≤ 16) (hpk : y.ptrs[k]? = some p) (st : NmB) (hb : st.blks.length = 16) (b : Blk) (hbk : st.blks[(p - 1).toNat]? = some b) (hd : b.dir = true) (hsn : st.seen.length ≤ 100000) (hs : p ∈ st.seen) :
    XG TN 0 H73_12 L73_12 (r12 x (x.inos.map inoO) i y k st) = some (.normal, r12 x (x.inos.map inoO) i y (k + 1) st) := by
  have hk2 : k < 2 := by have := (List.getElem?_eq_some_iff.1 hpk).1; omega
  have k2 : (k : Int) < (2 : Int) := by omega
  have gpp : (y.ptrs.map iv).getD k .undef = .int .i64 p := gD_map hpk
  have yk : decide (y.kind = 2) = true := by simpa using hyk
  obtain ⟨kk, hkk⟩ : ∃ kk : Nat, (p - 1).toNat = kk := ⟨_, rfl⟩
  rw [hkk] at hbk
  have hk16 : kk < 16 := by omega
  have e1 : ((1 : Int) ≤ p ∧ p ≤ ((16 : Nat) : Int)) := by omega
  have e2 : (16 : Nat) ≤ 1048576 := by decide
  have p0 : (0 : Int) ≤ p + -1 := by omega
  have pk : (p + -1).toNat = kk := by omega
  obtain ⟨I, hI⟩ : ∃ I, x.inos.map inoO = I := ⟨_, rfl⟩
  have imi : ∀ g, mapIdL g I = I := fun g => by rw [← hI]; exact mi_map g inoO x.inos inoO_cool
  have ims : ∀ u, idsL u I = [] := fun u => by rw [← hI]; exact is_map u inoO x.inos inoO_cool
  have il : I.length = 8 := by rw [← hI]; simp [hl]
  have isg : ∀ v : AV, (I.set i v).getD i .undef = v := fun v => by rw [List.getD, List.getElem?_set_self (by omega)]; rfl
  have iss : ∀ v w : AV, (I.set i v).set i w = I.set i w := fun v w => by rw [List.set_set]
  have gb : (st.blks.map blkO).getD kk .undef = .agg [.bool b.dir, .own 2 (b.slots.map slt), .str b.text] := gD_map hbk
  have bself : (st.blks.map blkO).set kk (.agg [.bool b.dir, .own 2 (b.slots.map slt), .str b.text]) = st.blks.map blkO := set_self (by rw [List.getElem?_map, hbk]; rfl)
  obtain ⟨B, hB⟩ : ∃ B, st.blks.map blkO = B := ⟨_, rfl⟩
  rw [hB] at gb bself
  have bmi : ∀ g, mapIdL g B = B := fun g => by rw [← hB]; exact mi_map g blkO st.blks blkO_cool
  have bms : ∀ u, idsL u B = [] := fun u => by rw [← hB]; exact is_map u blkO st.blks blkO_cool
  have bl : B.length = 16 := by rw [← hB]; simp [hb]
  have sg : ∀ v : AV, (B.set kk v).getD kk .undef = v := fun v => by rw [List.getD, List.getElem?_set_self (by omega)]; rfl
  have ss : ∀ v w : AV, (B.set kk v).set kk w = B.set kk w := fun v w => by rw [List.set_set]
  have lr : ∀ (m : Mem) (d : Bool) (i2 o2 n2 : Nat) (s : ByteArray), lookR m 0 p (some (3, B.set kk (.agg [.bool d, .sl i2 o2 n2, .str s]))) = if (liveOf m i2).isSome = true then some (.tup [.agg [.bool d, .sl i2 o2 n2, .str s], .bool true], []) else none := fun m d i2 o2 n2 s =>
    lookR_at (by rw [show 0 + (p.toNat - 1) = kk by omega, List.getElem?_set_self (by omega)])
  have wk := w_i64 ((k : Int) + 1) (by omega)
  have tu : (x.used.map bv).take x.used.length = x.used.map bv := List.take_of_length_le (by simp)
  have tt : (x.taken.map bv).take x.taken.length = x.taken.map bv := List.take_of_length_le (by simp)
  have tkS : (b.slots.map slt).take b.slots.length = b.slots.map slt := List.take_of_length_le (by simp)
  have tsn : (st.seen.map iv).take st.seen.length = st.seen.map iv := List.take_of_length_le (by simp)
  have snc := iv_coR st.seen
  have sni := iv_ic st.seen
  have e3 := n126 st.seen p (by unfold maxLen; omega)
  rw [decide_eq_true hs] at e3
  unfold r12 m12
  rw [hB, hI]
  rw [hd] at gb bself
  simp only [XG, L73_12, h73_12, go_sem, seval, bnd_ite, e3, look_if, lr, hp1, hp2, e2, p0, pk, Option.isSome_some, and_self, hk2, k2, hy2, gpp, yk, imi, ims, il, isg, iss, gb, bself, bmi, bms, bl, sg, ss, is_set, hi, hk16, wk, tu, tt, tkS, tsn, snc, sni, bv_mi, bv_is, iv_mi, iv_is, sv_mi, sv_is, Int.natCast_nonneg, Bool.not_false, Bool.not_true, Bool.false_eq_true, if_false, if_true]
  first | done | rfl
end Go.Proofs.Ytaaajjinpppgeaa

/- The sweep over names: a block, as the reference sweeps it. Own work; no condition. -/
set_option linter.unusedVariables false
set_option linter.unusedSimpArgs false
set_option linter.unusedSectionVars false
namespace Go.Proofs.Ytaaajjinpppgeaa
open Go Go.Abs
set_option maxRecDepth 100000
theorem st12s (x : Dsk) (hl : x.inos.length = 8) (i : Nat) (hi : i < 8) (y : Ino) (hyi : x.inos[i]? = some y) (hy2 : y.ptrs.length = 2) (hyk : y.kind = 2) (k : Nat) (p : Int) (hp1 : 1 ≤ p) (hp2 : p ≤ 16) (hpk : y.ptrs[k]? = some p) (st : NmB) (hb : st.blks.length = 16) (b : Blk) (hbk : st.blks[(p - 1).toNat]? = some b) (hd : b.dir = true) (hsn : st.seen.length ≤ 100000) (hs : p ∉ st.seen) (hgb : goodB b) (hS4 : b.slots.length = 4) (hn : st.names.length ≤ 1000) (hdl : st.dirs.length ≤ 1000) :
    XG TN 0 H73_12 L73_12 (r12 x (x.inos.map inoO) i y k st) = some (.normal, r12 x (x.inos.map inoO) i y (k + 1) (sweep x.inos st p)) := by
  have hk2 : k < 2 := by have := (List.getElem?_eq_some_iff.1 hpk).1; omega
  have k2 : (k : Int) < (2 : Int) := by omega
  have gpp : (y.ptrs.map iv).getD k .undef = .int .i64 p := gD_map hpk
  have yk : decide (y.kind = 2) = true := by simpa using hyk
  obtain ⟨kk, hkk⟩ : ∃ kk : Nat, (p - 1).toNat = kk := ⟨_, rfl⟩
  rw [hkk] at hbk
  have hk16 : kk < 16 := by omega
  have e1 : ((1 : Int) ≤ p ∧ p ≤ ((16 : Nat) : Int)) := by omega
  have e2 : (16 : Nat) ≤ 1048576 := by decide
  have p0 : (0 : Int) ≤ p + -1 := by omega
  have pk : (p + -1).toNat = kk := by omega
  obtain ⟨⟨yx, r2⟩, k1, kx, e, ke, l2, l3, l4, l5, l6, l7, l8, l9⟩ := lp18 x hl st.blks i hi y hyi hy2 kk hk16 hb b hd p (by omega) k hpk st.dirs (st.seen ++ [p]) st.names b.slots hS4 hgb.2 hn hdl
  simp only at kx ke
  subst kx; subst ke
  have hout := (fold_len x.inos b.slots ⟨[], st.names, st.dirs⟩).1
  simp only [List.length_nil, Nat.zero_add, hS4] at hout
  obtain ⟨I, hI⟩ : ∃ I, x.inos.map inoO = I := ⟨_, rfl⟩
  have imi : ∀ g, mapIdL g I = I := fun g => by rw [← hI]; exact mi_map g inoO x.inos inoO_cool
  have ims : ∀ u, idsL u I = [] := fun u => by rw [← hI]; exact is_map u inoO x.inos inoO_cool
  have il : I.length = 8 := by rw [← hI]; simp [hl]
  have isg : ∀ v : AV, (I.set i v).getD i .undef = v := fun v => by rw [List.getD, List.getElem?_set_self (by omega)]; rfl
  have iss : ∀ v w : AV, (I.set i v).set i w = I.set i w := fun v w => by rw [List.set_set]
  have gb : (st.blks.map blkO).getD kk .undef = .agg [.bool b.dir, .own 2 (b.slots.map slt), .str b.text] := gD_map hbk
  have bself : (st.blks.map blkO).set kk (.agg [.bool b.dir, .own 2 (b.slots.map slt), .str b.text]) = st.blks.map blkO := set_self (by rw [List.getElem?_map, hbk]; rfl)
  unfold sweep
  rw [hkk, hbk]
  simp only
  generalize b.slots.foldl (slStep x.inos) ⟨[], st.names, st.dirs⟩ = Z at *
  obtain ⟨Q, hQ⟩ : ∃ Q, (st.blks.set kk { b with slots := Z.out }).map blkO = Q := ⟨_, rfl⟩
  have hset : (st.blks.map blkO).set kk (.agg [.bool true, .own 2 (Z.out.map slt), .str b.text]) = Q := by rw [← hQ, List.map_set, ← hd]; rfl
  have tQ : Q.take 16 = Q := List.take_of_length_le (by rw [← hQ]; simp [hb])
  obtain ⟨B, hB⟩ : ∃ B, st.blks.map blkO = B := ⟨_, rfl⟩
  rw [hB] at gb bself hset k1
  rw [hI] at k1
  have bmi : ∀ g, mapIdL g B = B := fun g => by rw [← hB]; exact mi_map g blkO st.blks blkO_cool
  have bms : ∀ u, idsL u B = [] := fun u => by rw [← hB]; exact is_map u blkO st.blks blkO_cool
  have bl : B.length = 16 := by rw [← hB]; simp [hb]
  have sg : ∀ v : AV, (B.set kk v).getD kk .undef = v := fun v => by rw [List.getD, List.getElem?_set_self (by omega)]; rfl
  have ss : ∀ v w : AV, (B.set kk v).set kk w = B.set kk w := fun v w => by rw [List.set_set]
  have lr : ∀ (m : Mem) (d : Bool) (i2 o2 n2 : Nat) (s : ByteArray), lookR m 0 p (some (3, B.set kk (.agg [.bool d, .sl i2 o2 n2, .str s]))) = if (liveOf m i2).isSome = true then some (.tup [.agg [.bool d, .sl i2 o2 n2, .str s], .bool true], []) else none := fun m d i2 o2 n2 s =>
    lookR_at (by rw [show 0 + (p.toNat - 1) = kk by omega, List.getElem?_set_self (by omega)])
  have wk := w_i64 ((k : Int) + 1) (by omega)
  have tu : (x.used.map bv).take x.used.length = x.used.map bv := List.take_of_length_le (by simp)
  have tt : (x.taken.map bv).take x.taken.length = x.taken.map bv := List.take_of_length_le (by simp)
  have tkS : (b.slots.map slt).take b.slots.length = b.slots.map slt := List.take_of_length_le (by simp)
  have tsn : (st.seen.map iv).take st.seen.length = st.seen.map iv := List.take_of_length_le (by simp)
  have snc := iv_coR st.seen
  have sni := iv_ic st.seen
  have e3 := n126 st.seen p (by unfold maxLen; omega)
  rw [decide_eq_false hs] at e3
  have tR : (Z.out.map slt).take 4 = Z.out.map slt := List.take_of_length_le (by simp [hout])
  have h4 : (b.slots.map slt).take 4 = b.slots.map slt := List.take_of_length_le (by simp [hS4])
  have san : st.seen.map iv ++ [AV.int .i64 p] = (st.seen ++ [p]).map iv := by rw [List.map_append]; rfl
  have sal : (st.seen ++ [p]).length = st.seen.length + 1 := by simp
  have hap : (st.seen.length + 1) * 8 ≤ 140737488355328 := by omega
  have hs0 : ((0 : Nat) : Int) = 0 := rfl
  rw [hd] at gb
  unfold s18 m18 at k1
  simp only [hs0, sal] at k1
  unfold r12 m12
  rw [hI]
  simp only [hB, hQ]
  simp only [XG, L73_12, h73_12, h73_18, m18, go_sem, seval, bnd_ite, e3, look_if, lr, hp1, hp2, e2, p0, pk, Option.isSome_some, true_and, and_self, hk2, k2, hy2, gpp, yk, imi, ims, il, isg, iss, gb, bmi, bms, bl, sg, ss, is_set, hi, hk16, wk, tu, tt, tkS, tR, tsn, snc, sni, san, sal, hap, hset, tQ, hout, hS4, h4, k1, l2, l3, l4, l5, l6, l7, l8, l9, bv_mi, bv_is, iv_mi, iv_is, sv_mi, sv_is, Int.natCast_nonneg, Bool.not_false, Bool.not_true, Bool.false_eq_true, if_false, if_true]
  first | done | rfl
end Go.Proofs.Ytaaajjinpppgeaa

/- The sweep over names: the pointers of a directory, as the reference sweeps them. Own work; no condition. -/
set_option linter.unusedVariables false
set_option linter.unusedSimpArgs false
set_option linter.unusedSectionVars false
namespace Go.Proofs.Ytaaajjinpppgeaa
open Go Go.Abs
set_option maxRecDepth 100000
structure RmI (st : NmB) (n d s : Nat) : Prop where
  len : st.blks.length = 16
  good : ∀ b ∈ st.blks, goodB b
  four : ∀ b ∈ st.blks, b.dir = true → b.slots.length = 4
  names : st.names.length ≤ n
  dirs : st.dirs.length ≤ d
  seen : st.seen.length ≤ s
theorem RmI.mono {st : NmB} {n d s n' d' s' : Nat} (h : RmI st n d s) (hn : n ≤ n') (hd : d ≤ d') (hs : s ≤ s') : RmI st n' d' s' := ⟨h.len, h.good, h.four, by have := h.names; omega, by have := h.dirs; omega, by have := h.seen; omega⟩
theorem sweep_rm (inos : List Ino) {st : NmB} {n d s : Nat} (h : RmI st n d s) (p : Int) (hp1 : 1 ≤ p) (hp2 : p ≤ 16) : RmI (sweep inos st p) (n + 4) (d + 4) (s + 1) := by
  have k := sweep_inv inos (st := st) (n := n) (d := d) ⟨h.len, h.good, h.names, h.dirs⟩ p hp1 hp2
  refine ⟨k.len, k.good, ?_, k.names, k.dirs, ?_⟩
  · have hl := h.len
    obtain ⟨b, hb⟩ := get_at (show (p - 1).toNat < st.blks.length by omega)
    unfold sweep
    rw [hb]
    intro c hc hd
    have hf := (fold_len inos b.slots ⟨[], st.names, st.dirs⟩).1
    simp only [List.length_nil, Nat.zero_add] at hf
    rcases List.mem_or_eq_of_mem_set hc with hc | rfl
    · exact h.four c hc hd
    · show (b.slots.foldl (slStep inos) ⟨[], st.names, st.dirs⟩).out.length = 4
      rw [hf]; exact h.four b (List.mem_of_getElem? hb) hd
  · have := h.seen
    unfold sweep
    split <;> (simp only [List.length_append, List.length_singleton]; omega)
theorem stepR_rm (inos : List Ino) {st : NmB} {n d s : Nat} (h : RmI st n d s) (p : Int) (hp1 : 0 ≤ p) (hp2 : p ≤ 16) : RmI (stepR inos st p) (n + 4) (d + 4) (s + 1) := by
  unfold stepR
  split
  · split
    · rename_i hc
      exact sweep_rm inos h p (by omega) hp2
    · exact h.mono (by omega) (by omega) (by omega)
  · exact h.mono (by omega) (by omega) (by omega)
theorem st12r (x : Dsk) (hl : x.inos.length = 8) (i : Nat) (hi : i < 8) (y : Ino) (hyi : x.inos[i]? = some y) (hy2 : y.ptrs.length = 2) (hyk : y.kind = 2) (k : Nat) (p : Int) (hp1 : 0 ≤ p) (hp2 : p ≤ 16) (hpk : y.ptrs[k]? = some p) (st : NmB) (hI : RmI st 1000 1000 100000) :
    XG TN 0 H73_12 L73_12 (r12 x (x.inos.map inoO) i y k st) = some (.normal, r12 x (x.inos.map inoO) i y (k + 1) (stepR x.inos st p)) := by
  have hb := hI.len
  obtain ⟨b, hbk⟩ := get_at (show (p - 1).toNat < st.blks.length by omega)
  unfold stepR
  rw [hbk]
  simp only
  by_cases h0 : p = 0
  · subst h0
    rw [if_neg (fun h => by omega)]
    exact st12z x hl i hi y hyi hy2 hyk k hpk st hb
  · have hp : 1 ≤ p := by omega
    cases hd : b.dir with
    | false =>
      rw [if_neg (fun h => by cases h.2.1)]
      exact st12n x hl i hi y hyi hy2 hyk k p hp hp2 hpk st hb b hbk hd
    | true =>
      by_cases hs : p ∈ st.seen
      · rw [if_neg (fun h => h.2.2 hs)]
        exact st12h x hl i hi y hyi hy2 hyk k p hp hp2 hpk st hb b hbk hd hI.seen hs
      · rw [if_pos ⟨by omega, rfl, hs⟩]
        have hm := List.mem_of_getElem? hbk
        exact st12s x hl i hi y hyi hy2 hyk k p hp hp2 hpk st hb b hbk hd hI.seen hs (hI.good b hm) (hI.four b hm hd) hI.names hI.dirs
theorem lp12r (x : Dsk) (hl : x.inos.length = 8) (i : Nat) (hi : i < 8) (y : Ino) (hyi : x.inos[i]? = some y) (hy2 : y.ptrs.length = 2) (hyk : y.kind = 2) (hyp : ∀ p ∈ y.ptrs, 0 ≤ p ∧ p ≤ 16) (st : NmB) (d s : Nat) (hI : RmI st 0 d s) (hd : d ≤ 900) (hs : s ≤ 90000) :
    ∃ r, XL TN 0 H73_12 L73_12 (r12 x (x.inos.map inoO) i y 0 st) = some r ∧ r.1 = .exit 2 ∧ RmI (y.ptrs.foldl (stepR x.inos) st) 8 (d + 8) (s + 2) ∧
      lookA r.2.env 2 = .ptr 0 0 0 ∧ lookA r.2.env 3 = .ptr 1 0 0 ∧ lookA r.2.env 4 = .sl 2 0 (y.ptrs.foldl (stepR x.inos) st).dirs.length ∧ lookA r.2.env 5 = .sl 3 0 (y.ptrs.foldl (stepR x.inos) st).seen.length ∧ lookA r.2.env 6 = .int .i64 (i : Nat) ∧ r.2.mem = (r12 x (x.inos.map inoO) i y 0 (y.ptrs.foldl (stepR x.inos) st)).mem := by
  refine XL_each (T := TN) (b := 0) (hd := H73_12) (x := L73_12) y.ptrs (stepR x.inos) (fun k st => r12 x (x.inos.map inoO) i y k st) (fun k st => RmI st (4 * k) (d + 4 * k) (s + k))
    (fun st r => r.1 = .exit 2 ∧ RmI st 8 (d + 8) (s + 2) ∧ lookA r.2.env 2 = .ptr 0 0 0 ∧ lookA r.2.env 3 = .ptr 1 0 0 ∧ lookA r.2.env 4 = .sl 2 0 st.dirs.length ∧ lookA r.2.env 5 = .sl 3 0 st.seen.length ∧ lookA r.2.env 6 = .int .i64 (i : Nat) ∧ r.2.mem = (r12 x (x.inos.map inoO) i y 0 st).mem) (fun k st p hp hk hI => ?_) (fun st hI => ?_) st (by simpa using hI)
  · obtain ⟨p1, p2⟩ := hyp p (List.mem_of_getElem? hp)
    refine ⟨st12r x hl i hi y hyi hy2 hyk k p p1 p2 hp st (hI.mono (by omega) (by omega) (by omega)), ?_⟩
    have := stepR_rm x.inos hI p p1 p2
    exact this.mono (by omega) (by omega) (by omega)
  · rw [hy2] at hI ⊢
    unfold r12 m12
    have c2 : ¬ ((2 : Nat) : Int) < 2 := by omega
    simp only [XG, L73_12, h73_12, go_sem, seval, bnd_ite, hy2, c2, decide_false]
    exact .mk (by simp) ⟨rfl, hI.mono (by omega) (by omega) (by omega), rfl, rfl, rfl, rfl, rfl, rfl⟩
theorem lp12x (x : Dsk) (i : Nat) (y : Ino) (hy2 : y.ptrs.length = 2) (hyk : y.kind ≠ 2) (st : NmB) :
    ∃ r, XL TN 0 H73_12 L73_12 (r12 x (x.inos.map inoO) i y 0 st) = some r ∧ r.1 = .exit 2 ∧
      lookA r.2.env 2 = .ptr 0 0 0 ∧ lookA r.2.env 3 = .ptr 1 0 0 ∧ lookA r.2.env 4 = .sl 2 0 st.dirs.length ∧ lookA r.2.env 5 = .sl 3 0 st.seen.length ∧ lookA r.2.env 6 = .int .i64 (i : Nat) ∧ r.2.mem = (r12 x (x.inos.map inoO) i y 0 st).mem := by
  have yk : decide (y.kind = 2) = false := by simpa using hyk
  have key : Stops (XG TN 0 H73_12 L73_12 (r12 x (x.inos.map inoO) i y 0 st)) (fun r => r.1 = .exit 2 ∧
      lookA r.2.env 2 = .ptr 0 0 0 ∧ lookA r.2.env 3 = .ptr 1 0 0 ∧ lookA r.2.env 4 = .sl 2 0 st.dirs.length ∧ lookA r.2.env 5 = .sl 3 0 st.seen.length ∧ lookA r.2.env 6 = .int .i64 (i : Nat) ∧ r.2.mem = (r12 x (x.inos.map inoO) i y 0 st).mem) := by
    unfold r12 m12
    have c0 : ((0 : Nat) : Int) < 2 := by omega
    simp only [XG, L73_12, h73_12, go_sem, seval, bnd_ite, hy2, c0, yk, decide_true, Bool.and_false, Bool.false_eq_true, if_false]
    exact .mk (by simp) ⟨rfl, rfl, rfl, rfl, rfl, rfl, rfl⟩
  obtain ⟨r, h1, h2, h3⟩ := key
  exact ⟨r, XL_out h1 h2, h3⟩
end Go.Proofs.Ytaaajjinpppgeaa

/- The sweep over names: the program's loop over the inodes. Own work; no condition. -/
set_option linter.unusedVariables false
set_option linter.unusedSimpArgs false
set_option linter.unusedSectionVars false
namespace Go.Proofs.Ytaaajjinpppgeaa
open Go Go.Abs
set_option maxRecDepth 100000
def s7 (x : Dsk) (ahead : List Int) (st : NmB) (i : Nat) : St :=
  ⟨[(2, .ptr 0 0 0), (3, .ptr 1 0 0), (4, .sl 2 0 ahead.length), (5, .sl 3 0 st.dirs.length), (6, .int .i64 ((i : Int) + 1))],
   [some (4, [.agg [.nil, .nil, .nil, .nil]]), some (4, [.agg [.own 1 (x.used.map bv), .own 1 (x.taken.map bv), .own 3 (x.inos.map inoO), .own 3 (st.blks.map blkO)]]), some (1, ahead.map iv), some (1, st.dirs.map iv)]⟩
theorem st7 (x : Dsk) (hl : x.inos.length = 8) (ahead bs : List Int) (st : NmB) (d : Nat) (hI : NmI st 1000000 d) (hd : d ≤ 500) (i : Nat) (hi : i < 8) (ha : ahead.length ≤ 1000) (hsm : ({ x with blks := st.blks } : Dsk).sm)
    (hpl : (inoOf { x with blks := st.blks } ((i : Int) + 1)).ptrs.length ≤ 16) (hbs : dirB (inoOf { x with blks := st.blks } ((i : Int) + 1)) ahead = bs) (hbl : bs.length ≤ 16) (hbp : ∀ p ∈ bs, 1 ≤ p ∧ p ≤ 16) :
    XG TN 0 H74_7 L74_7 (s7 x ahead st i) = some (.normal, s7 x (ahead ++ bs) (bs.foldl (sweep x.inos) { st with names := [] }) (i + 1)) := by
  have c1 : decide ((i : Int) + 1 ≤ 8) = true := decide_eq_true (by omega)
  have e1 := e175 { x with blks := st.blks } hsm ((i : Int) + 1) ahead (by omega) (by omega)
  rw [hbs] at e1
  unfold dsk at e1
  simp only at e1
  obtain ⟨⟨y, e, m⟩, k1, kx, kI, l2, l3, l4, l5, l6, l8, km⟩ := lp12 x hl ahead bs ((i : Int) + 1) { st with names := [] } d ⟨hI.len, hI.good, by simp, hI.dirs⟩ hd hbl hbp
  simp only at kx l2 l3 l4 l5 l6 l8 km
  subst kx; subst km
  generalize bs.foldl (sweep x.inos) { st with names := [] } = R at *
  have wi := w_i64 ((i : Int) + 1 + 1) (by omega)
  have ei : ((i : Int) + 1 + 1) = (((i + 1 : Nat) : Int) + 1) := by omega
  have hs0 : ((0 : Nat) : Int) = 0 := rfl
  have ta : (ahead.map iv).take ahead.length = ahead.map iv := List.take_of_length_le (by simp)
  have tb : (bs.map iv).take bs.length = bs.map iv := List.take_of_length_le (by simp)
  have am : ahead.map iv ++ bs.map iv = (ahead ++ bs).map iv := List.map_append.symm
  have al : (ahead ++ bs).length = ahead.length + bs.length := List.length_append
  have nb : (bs.map iv).all (fun x => x.cells.all noOwnC) = true := no_map iv bs (fun _ => rfl)
  have ob : ∀ live, (bs.map iv).all (fun x => x.cells.all (okC live)) = true := fun live => by
    rw [List.all_eq_true]
    intro z hz
    obtain ⟨w, _, rfl⟩ := List.mem_map.1 hz
    rfl
  have hap : (ahead.length + bs.length) * 8 ≤ 140737488355328 := by omega
  unfold s7
  unfold s12 at k1
  simp only [hs0, List.length_nil, List.map_nil] at k1
  rw [← ei]
  simp only [XG, L74_7, h74_7, h74_12, go_sem, seval, bnd_ite, c1, e1, k1, l2, l3, l4, l5, l6, l8, wi, ta, tb, am, al, nb, ob, hap, if_true]
  first | done | rfl
end Go.Proofs.Ytaaajjinpppgeaa

/- The sweep over names: the program's way over all inodes. Own work; no condition. -/
set_option linter.unusedVariables false
set_option linter.unusedSimpArgs false
set_option linter.unusedSectionVars false
namespace Go.Proofs.Ytaaajjinpppgeaa
open Go Go.Abs
set_option maxRecDepth 100000
theorem dirFold (k : Int) (ahead : List Int) : ∀ (ps l : List Int), (ps.foldl (dirStep k ahead) l).length ≤ l.length + ps.length ∧ ∀ p ∈ ps.foldl (dirStep k ahead) l, p ∈ l ∨ (p ∈ ps ∧ p > 0)
  | [], l => ⟨Nat.le_refl _, fun p hp => .inl hp⟩
  | q :: ps, l => by
    obtain ⟨h1, h2⟩ := dirFold k ahead ps (dirStep k ahead l q)
    have g := dirStep_len (k := k) (ahead := ahead) (p := q) (Nat.le_refl l.length)
    rw [List.foldl_cons, List.length_cons]
    refine ⟨by omega, fun p hp => ?_⟩
    rcases h2 p hp with h | ⟨h, h3⟩
    · unfold dirStep at h
      split at h
      · rename_i hc
        rcases List.mem_append.1 h with h | h
        · exact .inl h
        · rw [List.mem_singleton.1 h]
          simp only [Bool.and_eq_true, decide_eq_true_eq] at hc
          exact .inr ⟨List.mem_cons_self .., hc.1.1.2⟩
      · exact .inl h
    · exact .inr ⟨List.mem_cons_of_mem _ h, h3⟩
def rowF (x : Dsk) (a : List Int × NmB) (i : Nat) : List Int × NmB :=
  (a.1 ++ dirB (inoOf x ((i : Int) + 1)) a.1, (dirB (inoOf x ((i : Int) + 1)) a.1).foldl (sweep x.inos) { a.2 with names := [] })
theorem NmI_mono {st : NmB} {n d n' d' : Nat} (h : NmI st n d) (hn : n ≤ n') (hd : d ≤ d') : NmI st n' d' := ⟨h.len, h.good, by have := h.names; omega, by have := h.dirs; omega⟩
theorem sweeps_inv (inos : List Ino) : ∀ (bs : List Int) {st : NmB} {n d : Nat}, NmI st n d → (∀ p ∈ bs, 1 ≤ p ∧ p ≤ 16) → NmI (bs.foldl (sweep inos) st) (n + 4 * bs.length) (d + 4 * bs.length)
  | [], _, _, _, h, _ => by simpa using h
  | p :: bs, st, n, d, h, hb => by
    obtain ⟨p1, p2⟩ := hb p (List.mem_cons_self ..)
    have := sweeps_inv inos bs (sweep_inv inos h p p1 p2) (fun q hq => hb q (List.mem_cons_of_mem _ hq))
    rw [List.foldl_cons, List.length_cons]
    exact NmI_mono this (by omega) (by omega)
theorem lp7 (x : Dsk) (h : x.sm) (hl : x.inos.length = 8) (hp : ∀ y ∈ x.inos, y.ptrs.length = 2 ∧ ∀ p ∈ y.ptrs, p ≤ 16) (hb : x.blks.length = 16) (hg : ∀ b ∈ x.blks, goodB b) :
    ∃ r, XL TN 0 H74_7 L74_7 (s7 x [] ⟨x.blks, [], [], []⟩ 0) = some r ∧ r.1 = .exit 0 ∧ lookA r.2.env 2 = .ptr 0 0 0 ∧ lookA r.2.env 3 = .ptr 1 0 0 ∧
      r.2.mem = (s7 x ((List.range 8).foldl (rowF x) ([], ⟨x.blks, [], [], []⟩)).1 ((List.range 8).foldl (rowF x) ([], ⟨x.blks, [], [], []⟩)).2 0).mem := by
  refine XL_each (T := TN) (b := 0) (hd := H74_7) (x := L74_7) (List.range 8) (rowF x) (fun i a => s7 x a.1 a.2 i) (fun i a => a.1.length ≤ 2 * i ∧ NmI a.2 1000000 (8 * i))
    (fun a r => r.1 = .exit 0 ∧ lookA r.2.env 2 = .ptr 0 0 0 ∧ lookA r.2.env 3 = .ptr 1 0 0 ∧ r.2.mem = (s7 x a.1 a.2 0).mem) (fun i a j hj hi hI => ?_) (fun a hI => ?_) ([], ⟨x.blks, [], [], []⟩) ⟨by simp, ⟨hb, hg, by simp, by simp⟩⟩
  · rw [List.length_range] at hi
    have hj' : j = i := by
      rw [List.getElem?_range hi] at hj
      cases hj; rfl
    subst hj'
    obtain ⟨h1, h2⟩ := hI
    obtain ⟨y, hy⟩ := get_at (show j < x.inos.length by omega)
    have hin : inoOf x ((j : Int) + 1) = y := by
      unfold inoOf
      rw [if_pos (by simp [inside]; omega), show ((j : Int) + 1 - 1).toNat = j by omega, List.getD, hy]; rfl
    obtain ⟨q1, q2⟩ := hp y (List.mem_of_getElem? hy)
    obtain ⟨d1, d2⟩ := dirFold y.kind a.1 y.ptrs []
    have hbs : ∀ p ∈ dirB y a.1, 1 ≤ p ∧ p ≤ 16 := fun p hpp => by
      rcases d2 p hpp with h | ⟨h, h3⟩
      · cases h
      · exact ⟨by omega, q2 p h⟩
    have hbl : (dirB y a.1).length ≤ 2 := by
      have : (dirB y a.1).length ≤ 0 + y.ptrs.length := d1
      omega
    have hsm : ({ x with blks := a.2.blks } : Dsk).sm := ⟨h.used, h.taken, h.inos, by have := h2.len; show a.2.blks.length ≤ _; omega, h.ino, fun b hb' => by
      have := (h2.good b hb').1
      unfold Blk.sm; omega⟩
    have e := st7 x hl a.1 (dirB y a.1) a.2 (8 * j) h2 (by omega) j (by omega) (by omega) hsm (by show (inoOf x ((j : Int) + 1)).ptrs.length ≤ 16; rw [hin]; omega) (by show dirB (inoOf x ((j : Int) + 1)) a.1 = _; rw [hin]) (by omega) hbs
    unfold rowF
    rw [hin]
    refine ⟨e, by simp only [List.length_append]; omega, ?_⟩
    have := sweeps_inv x.inos (dirB y a.1) (st := { a.2 with names := [] }) (n := 0) (d := 8 * j) ⟨h2.len, h2.good, by simp, h2.dirs⟩ hbs
    exact NmI_mono this (by omega) (by omega)
  · rw [List.length_range]
    have s8 : (((8 : Nat) : Int) + 1) = 9 := rfl
    have c9 : decide ((9 : Int) ≤ 8) = false := rfl
    unfold s7
    simp only [XG, L74_7, h74_7, go_sem, seval, bnd_ite, s8, c9, Bool.false_eq_true, if_false]
    exact .mk (by simp) ⟨rfl, rfl, rfl, rfl⟩
end Go.Proofs.Ytaaajjinpppgeaa

/- The sweep over names: what the program answers. Own work; no condition. -/
set_option linter.unusedVariables false
set_option linter.unusedSimpArgs false
set_option linter.unusedSectionVars false
namespace Go.Proofs.Ytaaajjinpppgeaa
open Go Go.Abs
set_option maxRecDepth 100000
theorem good_of {b : Blk} (h : blkOk b = true) : goodB b := by
  cases hd : b.dir with
  | false =>
    have := (blkOk_txt h hd).1
    exact ⟨.inr (by rw [this]; rfl), fun s hs => by rw [this] at hs; cases hs⟩
  | true =>
    obtain ⟨h1, _, h3⟩ := blkOk_dir h hd
    refine ⟨.inl h1, fun s hs hne => ?_⟩
    obtain ⟨i, hi⟩ := List.getElem?_of_mem hs
    have := h3 i s hi
    unfold slotOk bare at this
    simp only [Bool.or_eq_true, Bool.and_eq_true, decide_eq_true_eq] at this
    rcases this with h | h
    · exact absurd h.1 hne
    · exact h.1.2
noncomputable def mnB (x : Dsk) : List Blk := ((List.range 8).foldl (rowF x) ([], ⟨x.blks, [], [], []⟩)).2.blks
theorem e74 (x : Dsk) (h : x.sm) (hk : x.ok) : E TN 74 [dsk x] [] = some (dskO (if dskOk x then { x with blks := mnB x } else x), []) := by
  rw [E_eq t74 (Nat.le_of_ble_eq_true rfl)]
  have e1 : E TN 159 [dsk x] [] = some (dskO x, []) := by rw [eN rfl t159]; exact e159 x h
  have e2 : E TN 155 [dsk x] [] = some (.bool (dskOk x), []) := by rw [eN rfl t155]; exact e155 x hk
  have tk1 : (x.used.map bv).take x.used.length = x.used.map bv := List.take_of_length_le (by simp)
  have tk2 : (x.taken.map bv).take x.taken.length = x.taken.map bv := List.take_of_length_le (by simp)
  have tk3 : (x.inos.map inoO).take x.inos.length = x.inos.map inoO := List.take_of_length_le (by simp)
  have tk4 : (x.blks.map blkO).take x.blks.length = x.blks.map blkO := List.take_of_length_le (by simp)
  cases hok : dskOk x with
  | false =>
    rw [hok] at e2
    simp only [dsk, dskO] at e1 e2
    simp only [Bool.false_eq_true, if_false, dsk, dskO, F74, go_sem, seval, bnd_ite, e1, e2, Bool.not_false, if_true, tk1, tk2, tk3, tk4]
    first | done | rfl
  | true =>
    rw [hok] at e2
    have hD := dskOk_iff.1 hok
    obtain ⟨⟨y, e, m⟩, k1, kx, l2, l3, km⟩ := lp7 x h hD.inos (fun y hy => by
      have := inoOk_iff.1 (hD.ino y hy)
      exact ⟨this.two, fun p hp => (this.ptr p hp).2.1⟩) hD.blks (fun b hb => good_of (hD.blk b hb))
    simp only at kx l2 l3 km
    subst kx; subst km
    unfold mnB
    generalize (List.range 8).foldl (rowF x) ([], ⟨x.blks, [], [], []⟩) = R at *
    have tk5 : (R.2.blks.map blkO).take R.2.blks.length = R.2.blks.map blkO := List.take_of_length_le (by simp)
    have hs0 : ((0 : Nat) : Int) + 1 = 1 := rfl
    unfold s7 at k1
    simp only [hs0, List.length_nil, List.map_nil] at k1
    simp only [dsk, dskO] at e1 e2
    simp only [if_true, dsk, dskO, F74, h74_7, go_sem, seval, bnd_ite, e1, e2, k1, l2, l3, Bool.not_true, Bool.false_eq_true, if_false, tk1, tk2, tk3, tk4, tk5]
    first | done | rfl
end Go.Proofs.Ytaaajjinpppgeaa

/- The sweep over names: what the reference answers. Own work; no condition. -/
set_option linter.unusedVariables false
set_option linter.unusedSimpArgs false
set_option linter.unusedSectionVars false
namespace Go.Proofs.Ytaaajjinpppgeaa
open Go Go.Abs
set_option maxRecDepth 100000
def r7 (x : Dsk) (I : List AV) (st : NmB) (i : Nat) : St :=
  ⟨[(2, .ptr 0 0 0), (3, .ptr 1 0 0), (4, .sl 2 0 st.dirs.length), (5, .sl 3 0 st.seen.length), (6, .int .i64 (i : Nat))],
   [some (4, [.agg [.nil, .nil, .nil, .nil]]), some (4, [.agg [.own 1 (x.used.map bv), .own 1 (x.taken.map bv), .sl 4 0 8, .sl 5 0 16]]), some (1, st.dirs.map iv), some (1, st.seen.map iv), some (3, I), some (3, st.blks.map blkO)]⟩
theorem st7r (x : Dsk) (hl : x.inos.length = 8) (i : Nat) (y : Ino) (hyi : x.inos[i]? = some y) (hy2 : y.ptrs.length = 2) (hyp : ∀ p ∈ y.ptrs, 0 ≤ p ∧ p ≤ 16) (st : NmB) (n d s : Nat) (hI : RmI st n d s) (hd : d ≤ 900) (hs : s ≤ 90000) :
    XG TN 0 H73_7 L73_7 (r7 x (x.inos.map inoO) st i) = some (.normal, r7 x (x.inos.map inoO) (rowsR x.inos st y) (i + 1)) := by
  have hi : i < 8 := by have := (List.getElem?_eq_some_iff.1 hyi).1; omega
  have i1 : (i : Int) < (8 : Int) := by omega
  have hi' : i < x.inos.length := by omega
  have gi : (x.inos.map inoO).getD i .undef = .agg [.int .i64 y.kind, .int .i64 y.links, .own 1 (y.ptrs.map iv)] := gD_map hyi
  have iself : (x.inos.map inoO).set i (.agg [.int .i64 y.kind, .int .i64 y.links, .own 1 (y.ptrs.map iv)]) = x.inos.map inoO := set_self (by rw [List.getElem?_map, hyi]; rfl)
  have lp : ∃ Z : NmB, Z.dirs = (rowsR x.inos st y).dirs ∧ Z.seen = (rowsR x.inos st y).seen ∧ Z.blks = (rowsR x.inos st y).blks ∧ ∃ r, XL TN 0 H73_12 L73_12 (r12 x (x.inos.map inoO) i y 0 { st with names := [] }) = some r ∧ r.1 = .exit 2 ∧
      lookA r.2.env 2 = .ptr 0 0 0 ∧ lookA r.2.env 3 = .ptr 1 0 0 ∧ lookA r.2.env 4 = .sl 2 0 Z.dirs.length ∧ lookA r.2.env 5 = .sl 3 0 Z.seen.length ∧ lookA r.2.env 6 = .int .i64 (i : Nat) ∧ r.2.mem = (r12 x (x.inos.map inoO) i y 0 Z).mem := by
    unfold rowsR
    by_cases hk : y.kind = 2
    · rw [if_pos hk]
      obtain ⟨r, k1, k2, k3, k4, k5, k6, k7, k8, k9⟩ := lp12r x hl i hi y hyi hy2 hk hyp { st with names := [] } d s ⟨hI.len, hI.good, hI.four, Nat.le_refl _, hI.dirs, hI.seen⟩ hd hs
      exact ⟨_, rfl, rfl, rfl, r, k1, k2, k4, k5, k6, k7, k8, k9⟩
    · rw [if_neg hk]
      obtain ⟨r, k1, k2, k4, k5, k6, k7, k8, k9⟩ := lp12x x i y hy2 hk { st with names := [] }
      exact ⟨{ st with names := [] }, rfl, rfl, rfl, r, k1, k2, k4, k5, k6, k7, k8, k9⟩
  obtain ⟨Z, z1, z2, z3, ⟨yx, e, m⟩, k1, kx, l2, l3, l4, l5, l6, km⟩ := lp
  simp only at kx l2 l3 l4 l5 l6 km
  subst kx; subst km
  have wi := w_i64 ((i : Int) + 1) (by omega)
  obtain ⟨I, hI2⟩ : ∃ I, x.inos.map inoO = I := ⟨_, rfl⟩
  rw [hI2] at gi iself k1
  have imi : ∀ g, mapIdL g I = I := fun g => by rw [← hI2]; exact mi_map g inoO x.inos inoO_cool
  have ims : ∀ u, idsL u I = [] := fun u => by rw [← hI2]; exact is_map u inoO x.inos inoO_cool
  have il : I.length = 8 := by rw [← hI2]; simp [hl]
  have isg : ∀ v : AV, (I.set i v).getD i .undef = v := fun v => by rw [List.getD, List.getElem?_set_self (by omega)]; rfl
  have iss : ∀ v w : AV, (I.set i v).set i w = I.set i w := fun v w => by rw [List.set_set]
  have tP : (y.ptrs.map iv).take 2 = y.ptrs.map iv := List.take_of_length_le (by simp [hy2])
  have hs0 : ((0 : Nat) : Int) = 0 := rfl
  have bm1 := fun g => mi_map g blkO st.blks blkO_cool
  have bs1 := fun u => is_map u blkO st.blks blkO_cool
  have bm2 := fun g => mi_map g blkO Z.blks blkO_cool
  have bs2 := fun u => is_map u blkO Z.blks blkO_cool
  unfold r7
  rw [← z1, ← z2, ← z3]
  unfold r12 m12 at k1
  simp only [hs0, List.length_nil, List.map_nil] at k1
  rw [hI2]
  simp only [XG, L73_7, h73_7, h73_12, go_sem, seval, bnd_ite, i1, hi, gi, iself, imi, ims, il, isg, iss, is_set, hy2, tP, k1, l2, l3, l4, l5, l6, wi, bm1, bs1, bm2, bs2, bv_mi, bv_is, iv_mi, iv_is, sv_mi, sv_is, Int.add_zero, Int.natCast_nonneg, if_true]
  first | done | rfl
theorem rowsR_rm (x : Dsk) (y : Ino) (hy2 : y.ptrs.length = 2) (hyp : ∀ p ∈ y.ptrs, 0 ≤ p ∧ p ≤ 16) {st : NmB} {n d s : Nat} (hI : RmI st n d s) : RmI (rowsR x.inos st y) (n + 8) (d + 8) (s + 2) := by
  unfold rowsR
  split
  · match hq : y.ptrs, hy2 with
    | [p, q], _ =>
      rw [hq] at hyp
      have h1 := hyp p (by simp)
      have h2 := hyp q (by simp)
      have k := stepR_rm x.inos (stepR_rm x.inos (st := { st with names := [] }) (n := 0) ⟨hI.len, hI.good, hI.four, Nat.le_refl _, hI.dirs, hI.seen⟩ p h1.1 h1.2) q h2.1 h2.2
      exact k.mono (by omega) (by omega) (by omega)
  · exact hI.mono (by omega) (by omega) (by omega)
theorem lp7r (x : Dsk) (hl : x.inos.length = 8) (hp : ∀ y ∈ x.inos, y.ptrs.length = 2 ∧ ∀ p ∈ y.ptrs, 0 ≤ p ∧ p ≤ 16) (hb : x.blks.length = 16) (hg : ∀ b ∈ x.blks, goodB b) (h4 : ∀ b ∈ x.blks, b.dir = true → b.slots.length = 4) :
    ∃ r, XL TN 0 H73_7 L73_7 (r7 x (x.inos.map inoO) ⟨x.blks, [], [], []⟩ 0) = some r ∧ r.1 = .exit 0 ∧ lookA r.2.env 2 = .ptr 0 0 0 ∧ lookA r.2.env 3 = .ptr 1 0 0 ∧
      r.2.mem = (r7 x (x.inos.map inoO) (x.inos.foldl (rowsR x.inos) ⟨x.blks, [], [], []⟩) 0).mem ∧ (x.inos.foldl (rowsR x.inos) ⟨x.blks, [], [], []⟩).blks.length = 16 := by
  refine XL_each (T := TN) (b := 0) (hd := H73_7) (x := L73_7) x.inos (rowsR x.inos) (fun i st => r7 x (x.inos.map inoO) st i) (fun i st => RmI st (8 * i) (8 * i) (2 * i))
    (fun st r => r.1 = .exit 0 ∧ lookA r.2.env 2 = .ptr 0 0 0 ∧ lookA r.2.env 3 = .ptr 1 0 0 ∧ r.2.mem = (r7 x (x.inos.map inoO) st 0).mem ∧ st.blks.length = 16) (fun i st y hy hi hI => ?_) (fun st hI => ?_) ⟨x.blks, [], [], []⟩ ⟨hb, hg, h4, by simp, by simp, by simp⟩
  · obtain ⟨q1, q2⟩ := hp y (List.mem_of_getElem? hy)
    refine ⟨st7r x hl i y hy q1 q2 st _ _ _ hI (by omega) (by omega), ?_⟩
    exact (rowsR_rm x y q1 q2 hI).mono (by omega) (by omega) (by omega)
  · rw [hl]
    have s8 : ¬ (((8 : Nat) : Int)) < 8 := by omega
    have hlen := hI.len
    unfold r7
    simp only [XG, L73_7, h73_7, go_sem, seval, bnd_ite, s8, decide_false, Bool.false_eq_true, if_false]
    exact .mk (by simp) ⟨rfl, rfl, rfl, rfl, hlen⟩
theorem e73 (x : Dsk) (h : x.sm) (hk : x.ok) : E TN 73 [dsk x] [] = some (dskO (if dskOk x then { x with blks := (x.inos.foldl (rowsR x.inos) ⟨x.blks, [], [], []⟩).blks } else x), []) := by
  rw [E_eq t73 (Nat.le_of_ble_eq_true rfl)]
  have e1 : E TN 158 [dsk x] [] = some (dskO x, []) := by rw [eN rfl t158]; exact e158 x h
  have e2 : E TN 153 [dsk x] [] = some (.bool (dskOk x), []) := by rw [eN rfl t153]; exact e153 x hk
  have tk1 : (x.used.map bv).take x.used.length = x.used.map bv := List.take_of_length_le (by simp)
  have tk2 : (x.taken.map bv).take x.taken.length = x.taken.map bv := List.take_of_length_le (by simp)
  have tk3 : (x.inos.map inoO).take x.inos.length = x.inos.map inoO := List.take_of_length_le (by simp)
  have tk4 : (x.blks.map blkO).take x.blks.length = x.blks.map blkO := List.take_of_length_le (by simp)
  cases hok : dskOk x with
  | false =>
    rw [hok] at e2
    simp only [dsk, dskO] at e1 e2
    simp only [Bool.false_eq_true, if_false, dsk, dskO, F73, go_sem, seval, bnd_ite, e1, e2, Bool.not_false, if_true, tk1, tk2, tk3, tk4]
    first | done | rfl
  | true =>
    rw [hok] at e2
    have hD := dskOk_iff.1 hok
    have n8 := hD.inos
    have n16 := hD.blks
    obtain ⟨⟨y, e, m⟩, k1, kx, l2, l3, km, kl⟩ := lp7r x hD.inos (fun y hy => by
      have := inoOk_iff.1 (hD.ino y hy)
      exact ⟨this.two, fun p hp => ⟨(this.ptr p hp).1, (this.ptr p hp).2.1⟩⟩) hD.blks (fun b hb => good_of (hD.blk b hb)) (fun b hb hd => (blkOk_dir (hD.blk b hb) hd).1)
    simp only at kx l2 l3 km
    subst kx; subst km
    generalize x.inos.foldl (rowsR x.inos) ⟨x.blks, [], [], []⟩ = R at *
    have tk5 : (R.blks.map blkO).take 16 = R.blks.map blkO := List.take_of_length_le (by simp [kl])
    have tk6 : (x.inos.map inoO).take 8 = x.inos.map inoO := List.take_of_length_le (by simp [n8])
    have hs0 : ((0 : Nat) : Int) = 0 := rfl
    unfold r7 at k1
    simp only [hs0, List.length_nil, List.map_nil] at k1
    have bm2 := fun g => mi_map g blkO R.blks blkO_cool
    have bs2 := fun u => is_map u blkO R.blks blkO_cool
    have im2 := fun g => mi_map g inoO x.inos inoO_cool
    have is2 := fun u => is_map u inoO x.inos inoO_cool
    simp only [dsk, dskO] at e1 e2
    rw [if_pos rfl]
    simp only [dsk, dskO, F73, h73_7, r7, go_sem, seval, bnd_ite, e1, e2, k1, l2, l3, n8, n16, kl, bm2, bs2, im2, is2, Bool.not_true, Bool.false_eq_true, if_false, tk1, tk2, tk3, tk4, tk5, tk6]
    first | done | rfl
end Go.Proofs.Ytaaajjinpppgeaa

