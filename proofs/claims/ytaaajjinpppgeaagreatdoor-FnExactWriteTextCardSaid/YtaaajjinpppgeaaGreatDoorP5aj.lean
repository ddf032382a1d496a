/- Part 10 of the texts of a claim, joined by a program of ours (ZXb). No condition. -/
import Derived.Test.YtaaajjinpppgeaaGreatDoorP5ai
set_option linter.unusedVariables false
set_option linter.unusedSimpArgs false
set_option linter.unusedSectionVars false
namespace Go.Proofs.YtaaajjinpppgeaaGreatDoor
open Go Go.Abs
set_option maxRecDepth 100000
def mkIno (k : Int) (x : Ino) : Ino := ⟨k, k + 1, (List.range x.ptrs.length).map fun i => k + 1 + 1 + (i : Nat)⟩
def coIno (x : Ino) : Nat := 2 + x.ptrs.length
theorem costIno {l : List Ino} (hl : l.length ≤ 1048576) (hs : ∀ x ∈ l, x.sm) (i : Nat) : costL coIno (l.take i) ≤ 1099513724928 := by
  have h1 := costL_le (cost := coIno) (C := 1048578) (l := l.take i) (fun x hx => by have := hs x (List.mem_of_mem_take hx); unfold Ino.sm at this; unfold coIno; omega)
  have h2 : (l.take i).length ≤ l.length := by simp; omega
  have h3 : (l.take i).length * 1048578 ≤ 1048576 * 1048578 := Nat.mul_le_mul_right _ (by omega)
  omega
theorem e187 (l : List Ino) (k : Int) (h0 : 0 ≤ k) (hk : k ≤ 1152921504606846976) (hl : l.length ≤ 1048576) (hs : ∀ x ∈ l, x.sm) :
    E T 187 [.sl 0 0 l.length, .int .i64 k] [some (3, l.map inoO)] = some (.int .i64 (k + costL coIno l), [some (3, (mkL mkIno coIno k l).map inoO)]) := by
  rw [E_eq t187 (Nat.le_of_ble_eq_true rfl)]
  simp only [F187, h187_2, go_sem, seval, bnd_ite]
  refine (XL_inv (T := T) (b := 1) (hd := H187_2) (x := L187_2) (β := Unit) (fun i _ => ⟨[(0, .sl 0 0 l.length), (1, .int .i64 (k + (costL coIno (l.take i) : Nat))), (5, .int .i64 (i : Nat))], [some (3, (mkP mkIno coIno k l i).map inoO)]⟩)
    (fun i _ => True) l.length (fun r => r.1 = .exit 0 ∧ r.2.mem = [some (3, (mkL mkIno coIno k l).map inoO)] ∧ lookA r.2.env 1 = .int .i64 (k + (costL coIno l : Nat))) ?step ?last 0 () (by omega) trivial).elim ?main
  case step =>
    intro i _ hi _
    obtain ⟨p, hp⟩ := get_at hi
    have hi1 : (i : Int) < (l.length : Int) := by omega
    have hci := costIno hl hs i
    have hps := hs p (List.mem_of_getElem? hp)
    unfold Ino.sm at hps
    left
    refine ⟨(), ?_, trivial⟩
    have ms := mkP_set (st := mkIno) (cost := coIno) (k := k) hp
    have cs := costL_succ (cost := coIno) hp
    have gx : ((mkP mkIno coIno k l i).map inoO).getD i .undef = .agg [.int .i64 p.kind, .int .i64 p.links, .own 1 (p.ptrs.map iv)] := gD_map (mkP_get hp)
    generalize hR : mkP mkIno coIno k l i = R at *
    have hml : R.length = l.length := by rw [← hR]; exact mkP_len
    have hmi : i < (R.map inoO).length := by rw [List.length_map, hml]; exact hi
    generalize hK : k + (costL coIno (l.take i) : Int) = K at *
    have e1 := e190 p.ptrs (K + 1 + 1) (by omega) (by omega) hps
    have sm : (R.map inoO).set i (.agg [.int .i64 K, .int .i64 (K + 1), .own 1 (((List.range p.ptrs.length).map fun i => K + 1 + 1 + (i : Nat)).map iv)]) = (mkP mkIno coIno k l (i + 1)).map inoO := by rw [← ms]; exact set_map (f := inoO) (x := mkIno K p)
    have e2 : k + ((costL coIno (l.take (i + 1)) : Nat) : Int) = K + 1 + 1 + (p.ptrs.length : Int) := by rw [cs, coIno]; omega
    have it : ((i : Int) + 0).toNat = i := by omega
    have htk : (List.map iv ((List.range p.ptrs.length).map fun i => K + 1 + 1 + (i : Nat))).take p.ptrs.length = List.map iv ((List.range p.ptrs.length).map fun i => K + 1 + 1 + (i : Nat)) := List.take_of_length_le (by simp)
    simp only [XG, L187_2, h187_2, it, go_sem, seval, bnd_ite, hi1, hml, hi, gx, getD_set hmi, List.set_set, Int.natCast_nonneg, w_i64 ((i : Int) + 1) (by omega), w_i64 (K + 1) (by omega), w_i64 (K + 1 + 1) (by omega), e1, is_set, inoO_is, List.length_range, htk, sm]
    rw [e2]; rfl
  case last =>
    intro _ _
    have hml : (mkP mkIno coIno k l l.length).length = l.length := mkP_len
    simp only [XG, L187_2, h187_2, go_sem, seval, bnd_ite, hml, Int.lt_irrefl, decide_false]
    exact .mk (by simp) ⟨rfl, by rw [mkP_all], rfl⟩
  case main =>
  rintro ⟨x, e, m⟩ ⟨h1, h2, h3, h4, h5⟩
  have h0' : ((0 : Nat) : Int) = 0 := rfl
  simp only [mkP_0, List.take_zero, costL, h0', Int.add_zero] at h1
  simp only at h3 h4 h5; subst h3; subst h4
  simp only [h1, go_sem, seval, h5]
theorem e192 (l : List Ino) (k : Int) (h0 : 0 ≤ k) (hk : k ≤ 1152921504606846976) (hl : l.length ≤ 1048576) (hs : ∀ x ∈ l, x.sm) :
    E T 192 [.ro 3 ((mkL mkIno coIno k l).map ino), .int .i64 k] [] = some (.int .i64 (k + costL coIno l), []) := by
  rw [E_eq t192 (Nat.le_of_ble_eq_true rfl)]
  simp only [F192, h192_2, go_sem, seval, bnd_ite]
  generalize hL : mkL mkIno coIno k l = L
  have hln : L.length = l.length := by rw [← hL]; exact mkL_len
  refine (XL_inv (T := T) (b := 0) (hd := H192_2) (x := L192_2) (β := Unit) (fun i _ => ⟨[(0, .ro 3 (L.map ino)), (1, .int .i64 (k + (costL coIno (l.take i) : Nat))), (5, .int .i64 (i : Nat))], []⟩)
    (fun i _ => True) l.length (fun r => r.1 = .exit 0 ∧ lookA r.2.env 1 = .int .i64 (k + (costL coIno l : Nat))) ?step ?last 0 () (by omega) trivial).elim ?main
  case step =>
    intro i _ hi _
    obtain ⟨p, hp⟩ := get_at hi
    have hi1 : (i : Int) < (l.length : Int) := by omega
    have hci := costIno hl hs i
    have hps := hs p (List.mem_of_getElem? hp)
    unfold Ino.sm at hps
    left
    refine ⟨(), ?_, trivial⟩
    have cs := costL_succ (cost := coIno) hp
    have hat : L[i]? = some (mkIno (k + costL coIno (l.take i)) p) := by rw [← hL]; exact mkL_at hp
    generalize hK : k + (costL coIno (l.take i) : Int) = K at *
    have gx : (L.map ino).getD i .undef = .agg [.int .i64 K, .int .i64 (K + 1), .ro 1 (((List.range p.ptrs.length).map fun i => K + 1 + 1 + (i : Nat)).map iv)] := gD_map hat
    have e1 := e194 p.ptrs.length (K + 1 + 1) (by omega) (by omega) hps
    have e2 : k + ((costL coIno (l.take (i + 1)) : Nat) : Int) = K + 1 + 1 + (p.ptrs.length : Int) := by rw [cs, coIno]; omega
    have e3 : ¬ K + 1 + 1 + (p.ptrs.length : Int) < 0 := by omega
    generalize hM : ((List.range p.ptrs.length).map fun i => K + 1 + 1 + (i : Nat)) = M at *
    simp only [XG, L192_2, h192_2, go_sem, seval, bnd_ite, hi1, hln, hi, gx, e1, e3, decide_true, decide_false, Bool.not_true, Bool.false_eq_true, if_false, Int.natCast_nonneg, w_i64 ((i : Int) + 1) (by omega), w_i64 (K + 1) (by omega), w_i64 (K + 1 + 1) (by omega)]
    rw [e2]; rfl
  case last =>
    intro _ _
    simp only [XG, L192_2, h192_2, go_sem, seval, bnd_ite, hln, Int.lt_irrefl, decide_false]
    exact .mk (by simp) ⟨rfl, rfl⟩
  case main =>
  rintro ⟨x, e, m⟩ ⟨h1, h2, h3, h4⟩
  have hs : ((0 : Nat) : Int) = 0 := rfl
  simp only [List.take_zero, costL, hs, Int.add_zero] at h1
  simp only at h3 h4; subst h3
  simp only [h1, go_sem, seval, h4]
noncomputable def mkBlk (k : Int) (x : Blk) : Blk := ⟨mb k, mkL mkSlt (fun _ => 2) (k + 1) x.slots, mtext (k + 1 + costL (fun _ => 2) x.slots)⟩
def coBlk (x : Blk) : Nat := 2 + costL (fun _ => 2) x.slots
theorem costSlt {l : List Slt} (hl : l.length ≤ 1048576) : costL (fun _ => 2) l ≤ 2097152 := by
  have h1 := costL_le (cost := fun _ : Slt => 2) (C := 2) (l := l) (fun _ _ => Nat.le_refl _)
  omega
theorem costBlk {l : List Blk} (hl : l.length ≤ 1048576) (hs : ∀ x ∈ l, x.sm) (i : Nat) : costL coBlk (l.take i) ≤ 2199025352704 := by
  have h1 := costL_le (cost := coBlk) (C := 2097154) (l := l.take i) (fun x hx => by have := costSlt (hs x (List.mem_of_mem_take hx)); unfold coBlk; omega)
  have h2 : (l.take i).length ≤ l.length := by simp; omega
  have h3 : (l.take i).length * 2097154 ≤ 1048576 * 2097154 := Nat.mul_le_mul_right _ (by omega)
  omega
theorem e188 (l : List Blk) (k : Int) (h0 : 0 ≤ k) (hk : k ≤ 1125899906842624) (hl : l.length ≤ 1048576) (hs : ∀ x ∈ l, x.sm) :
    E T 188 [.sl 0 0 l.length, .int .i64 k] [some (3, l.map blkO)] = some (.int .i64 (k + costL coBlk l), [some (3, (mkL mkBlk coBlk k l).map blkO)]) := by
  rw [E_eq t188 (Nat.le_of_ble_eq_true rfl)]
  simp only [F188, h188_2, go_sem, seval, bnd_ite]
  refine (XL_inv (T := T) (b := 1) (hd := H188_2) (x := L188_2) (β := Unit) (fun i _ => ⟨[(0, .sl 0 0 l.length), (1, .int .i64 (k + (costL coBlk (l.take i) : Nat))), (5, .int .i64 (i : Nat))], [some (3, (mkP mkBlk coBlk k l i).map blkO)]⟩)
    (fun i _ => True) l.length (fun r => r.1 = .exit 0 ∧ r.2.mem = [some (3, (mkL mkBlk coBlk k l).map blkO)] ∧ lookA r.2.env 1 = .int .i64 (k + (costL coBlk l : Nat))) ?step ?last 0 () (by omega) trivial).elim ?main
  case step =>
    intro i _ hi _
    obtain ⟨p, hp⟩ := get_at hi
    have hi1 : (i : Int) < (l.length : Int) := by omega
    have hci := costBlk hl hs i
    have hps := hs p (List.mem_of_getElem? hp)
    unfold Blk.sm at hps
    have hcs := costSlt hps
    left
    refine ⟨(), ?_, trivial⟩
    have ms := mkP_set (st := mkBlk) (cost := coBlk) (k := k) hp
    have cs := costL_succ (cost := coBlk) hp
    have gx : ((mkP mkBlk coBlk k l i).map blkO).getD i .undef = .agg [.bool p.dir, .own 2 (p.slots.map slt), .str p.text] := gD_map (mkP_get hp)
    generalize hR : mkP mkBlk coBlk k l i = R at *
    have hml : R.length = l.length := by rw [← hR]; exact mkP_len
    have hmi : i < (R.map blkO).length := by rw [List.length_map, hml]; exact hi
    generalize hK : k + (costL coBlk (l.take i) : Int) = K at *
    have e1 := e238 p.slots (K + 1) (by omega) (by omega) hps
    have sm : (R.map blkO).set i (.agg [.bool (mb K), .own 2 ((mkL mkSlt (fun _ => 2) (K + 1) p.slots).map slt), .str (mtext (K + 1 + costL (fun _ => 2) p.slots))]) = (mkP mkBlk coBlk k l (i + 1)).map blkO := by rw [← ms]; exact set_map (f := blkO) (x := mkBlk K p)
    have e2 : k + ((costL coBlk (l.take (i + 1)) : Nat) : Int) = K + 1 + (costL (fun _ => 2) p.slots : Nat) + 1 := by rw [cs, coBlk]; omega
    generalize hS : costL (fun _ => 2) p.slots = S at *
    have e4 := e189 (K + 1 + S) (by omega) (by omega)
    have it : ((i : Int) + 0).toNat = i := by omega
    have hmk : (mkL mkSlt (fun _ => 2) (K + 1) p.slots).length = p.slots.length := mkL_len
    generalize hM : mkL mkSlt (fun _ => 2) (K + 1) p.slots = M at *
    have htk : (List.map slt M).take p.slots.length = List.map slt M := List.take_of_length_le (by simp [hmk])
    unfold mb at sm
    simp only [XG, L188_2, h188_2, it, go_sem, seval, bnd_ite, hi1, hml, hi, gx, getD_set hmi, List.set_set, Int.natCast_nonneg, w_i64 ((i : Int) + 1) (by omega), w_i64 (K + 1) (by omega), w_i64 (K + 1 + S + 1) (by omega), e1, e4, is_set, blkO_is, hmk, htk, sm]
    rw [e2]; rfl
  case last =>
    intro _ _
    have hml : (mkP mkBlk coBlk k l l.length).length = l.length := mkP_len
    simp only [XG, L188_2, h188_2, go_sem, seval, bnd_ite, hml, Int.lt_irrefl, decide_false]
    exact .mk (by simp) ⟨rfl, by rw [mkP_all], rfl⟩
  case main =>
  rintro ⟨x, e, m⟩ ⟨h1, h2, h3, h4, h5⟩
  have h0' : ((0 : Nat) : Int) = 0 := rfl
  simp only [mkP_0, List.take_zero, costL, h0', Int.add_zero] at h1
  simp only at h3 h4 h5; subst h3; subst h4
  simp only [h1, go_sem, seval, h5]
end Go.Proofs.YtaaajjinpppgeaaGreatDoor
namespace Go.Proofs.YtaaajjinpppgeaaGreatDoor
open Go Go.Abs
set_option maxRecDepth 100000
theorem e193 (l : List Blk) (k : Int) (h0 : 0 ≤ k) (hk : k ≤ 1125899906842624) (hl : l.length ≤ 1048576) (hs : ∀ x ∈ l, x.sm) :
    E T 193 [.ro 3 ((mkL mkBlk coBlk k l).map blk), .int .i64 k] [] = some (.int .i64 (k + costL coBlk l), []) := by
  rw [E_eq t193 (Nat.le_of_ble_eq_true rfl)]
  simp only [F193, h193_2, go_sem, seval, bnd_ite]
  generalize hL : mkL mkBlk coBlk k l = L
  have hln : L.length = l.length := by rw [← hL]; exact mkL_len
  refine (XL_inv (T := T) (b := 0) (hd := H193_2) (x := L193_2) (β := Unit) (fun i _ => ⟨[(0, .ro 3 (L.map blk)), (1, .int .i64 (k + (costL coBlk (l.take i) : Nat))), (5, .int .i64 (i : Nat))], []⟩)
    (fun i _ => True) l.length (fun r => r.1 = .exit 0 ∧ lookA r.2.env 1 = .int .i64 (k + (costL coBlk l : Nat))) ?step ?last 0 () (by omega) trivial).elim ?main
  case step =>
    intro i _ hi _
    obtain ⟨p, hp⟩ := get_at hi
    have hi1 : (i : Int) < (l.length : Int) := by omega
    have hci := costBlk hl hs i
    have hps := hs p (List.mem_of_getElem? hp)
    unfold Blk.sm at hps
    have hcs := costSlt hps
    left
    refine ⟨(), ?_, trivial⟩
    have cs := costL_succ (cost := coBlk) hp
    have hat : L[i]? = some (mkBlk (k + costL coBlk (l.take i)) p) := by rw [← hL]; exact mkL_at hp
    generalize hK : k + (costL coBlk (l.take i) : Int) = K at *
    have gx : (L.map blk).getD i .undef = .agg [.bool (mb K), .ro 2 ((mkL mkSlt (fun _ => 2) (K + 1) p.slots).map slt), .str (mtext (K + 1 + costL (fun _ => 2) p.slots))] := gD_map hat
    have e1 := e239 p.slots (K + 1) (by omega) (by omega) hps
    have e2 : k + ((costL coBlk (l.take (i + 1)) : Nat) : Int) = K + 1 + (costL (fun _ => 2) p.slots : Nat) + 1 := by rw [cs, coBlk]; omega
    generalize hS : costL (fun _ => 2) p.slots = S at *
    have e4 := e189 (K + 1 + S) (by omega) (by omega)
    have e3 : ¬ K + 1 + (S : Int) < 0 := by omega
    generalize hM : mkL mkSlt (fun _ => 2) (K + 1) p.slots = M at *
    unfold mb at gx
    simp only [XG, L193_2, h193_2, go_sem, seval, bnd_ite, hi1, hln, hi, gx, e1, e3, e4, bdec, bne_dec, decide_true, decide_false, Bool.not_true, Bool.false_eq_true, if_false, Int.natCast_nonneg, w_i64 ((i : Int) + 1) (by omega), w_i64 (K + 1) (by omega), w_i64 (K + 1 + S + 1) (by omega)]
    rw [e2]; rfl
  case last =>
    intro _ _
    simp only [XG, L193_2, h193_2, go_sem, seval, bnd_ite, hln, Int.lt_irrefl, decide_false]
    exact .mk (by simp) ⟨rfl, rfl⟩
  case main =>
  rintro ⟨x, e, m⟩ ⟨h1, h2, h3, h4⟩
  have hs : ((0 : Nat) : Int) = 0 := rfl
  simp only [List.take_zero, costL, hs, Int.add_zero] at h1
  simp only at h3 h4; subst h3
  simp only [h1, go_sem, seval, h4]
def mkB (k : Int) (n : Nat) : List Bool := (List.range n).map fun i => mb (k + (i : Nat))
theorem mkB_len (k : Int) (n : Nat) : (mkB k n).length = n := by simp [mkB]
theorem e104' (l : List Bool) (k : Int) (h0 : 0 ≤ k) (hk : k ≤ 4611686018427387904) (hl : l.length ≤ 1048576) :
    E T 104 [.sl 0 0 l.length, .int .i64 k] [some (1, l.map bv)] = some (.int .i64 (k + l.length), [some (1, (mkB k l.length).map bv)]) := e104 l k h0 hk hl
theorem e107' (n : Nat) (k : Int) (h0 : 0 ≤ k) (hk : k ≤ 4611686018427387904) (hl : n ≤ 1048576) :
    E T 107 [.ro 1 ((mkB k n).map bv), .int .i64 k] [] = some (.int .i64 (k + n), []) := e107 n k h0 hk hl
theorem e186 (a b : List Bool) (k : Int) (h0 : 0 ≤ k) (hk : k ≤ 1152921504606846976) (ha : a.length ≤ 1048576) (hb : b.length ≤ 1048576) :
    E T 186 [.agg [.sl 0 0 a.length, .sl 1 0 b.length], .int .i64 k] [some (1, a.map bv), some (1, b.map bv)] = some (.int .i64 (k + a.length + b.length), [some (1, (mkB k a.length).map bv), some (1, (mkB (k + a.length) b.length).map bv)]) := by
  rw [E_eq t186 (Nat.le_of_ble_eq_true rfl)]
  simp only [F186, go_sem, seval, bnd_ite, e104' a k h0 (by omega) ha, e104' b (k + a.length) (by omega) (by omega) hb]
theorem e191 (a b : Nat) (k : Int) (h0 : 0 ≤ k) (hk : k ≤ 1152921504606846976) (ha : a ≤ 1048576) (hb : b ≤ 1048576) :
    E T 191 [.agg [.ro 1 ((mkB k a).map bv), .ro 1 ((mkB (k + a) b).map bv)], .int .i64 k] [] = some (.int .i64 (k + a + b), []) := by
  rw [E_eq t191 (Nat.le_of_ble_eq_true rfl)]
  have n1 : ¬ k + (a : Int) < 0 := by omega
  have n2 : ¬ k + (a : Int) + (b : Int) < 0 := by omega
  simp only [F191, go_sem, seval, bnd_ite, e107' a k h0 (by omega) ha, e107' b (k + a) (by omega) (by omega) hb, n1, n2, if_false]
def coDsk (x : Dsk) : Nat := x.used.length + x.taken.length + costL coIno x.inos + costL coBlk x.blks
noncomputable def mkDsk (k : Int) (x : Dsk) : Dsk :=
  ⟨mkB k x.used.length, mkB (k + x.used.length) x.taken.length, mkL mkIno coIno (k + x.used.length + x.taken.length) x.inos, mkL mkBlk coBlk (k + x.used.length + x.taken.length + costL coIno x.inos) x.blks⟩
theorem coDsk_le {x : Dsk} (h : x.sm) : costL coIno x.inos ≤ 1099513724928 ∧ costL coBlk x.blks ≤ 2199025352704 := by
  have h1 := costIno h.inos h.ino x.inos.length
  have h2 := costBlk h.blks h.blk x.blks.length
  rw [List.take_length] at h1 h2
  exact ⟨h1, h2⟩
def dskR (x : Dsk) : Mem := [some (1, x.used.map bv), some (1, x.taken.map bv), some (3, x.inos.map inoO), some (3, x.blks.map blkO)]
theorem e103 (x : Dsk) (k : Int) (h0 : 0 ≤ k) (hk : k ≤ 562949953421312) (h : x.sm) :
    E T 103 [.agg [.sl 0 0 x.used.length, .sl 1 0 x.taken.length, .sl 2 0 x.inos.length, .sl 3 0 x.blks.length], .int .i64 k] (dskR x) = some (.int .i64 (k + coDsk x), dskR (mkDsk k x)) := by
  rw [E_eq t103 (Nat.le_of_ble_eq_true rfl)]
  obtain ⟨c1, c2⟩ := coDsk_le h
  have u1 := h.used
  have u2 := h.taken
  have e1 := e186 x.used x.taken k h0 (by omega) h.used h.taken
  have e2 := e187 x.inos (k + x.used.length + x.taken.length) (by omega) (by omega) h.inos h.ino
  have e3 := e188 x.blks (k + x.used.length + x.taken.length + costL coIno x.inos) (by omega) (by omega) h.blks h.blk
  have e4 : k + (coDsk x : Int) = k + x.used.length + x.taken.length + costL coIno x.inos + costL coBlk x.blks := by unfold coDsk; omega
  simp only [dskR, mkDsk, F103, go_sem, seval, bnd_ite, e1, e2, e3, e4]
theorem e106 (x : Dsk) (k : Int) (h0 : 0 ≤ k) (hk : k ≤ 562949953421312) (h : x.sm) : E T 106 [dsk (mkDsk k x), .int .i64 k] [] = some (.int .i64 (k + coDsk x), []) := by
  rw [E_eq t106 (Nat.le_of_ble_eq_true rfl)]
  obtain ⟨c1, c2⟩ := coDsk_le h
  have u1 := h.used
  have u2 := h.taken
  have e1 := e191 x.used.length x.taken.length k h0 (by omega) h.used h.taken
  have e2 := e192 x.inos (k + x.used.length + x.taken.length) (by omega) (by omega) h.inos h.ino
  have e3 := e193 x.blks (k + x.used.length + x.taken.length + costL coIno x.inos) (by omega) (by omega) h.blks h.blk
  have e4 : k + (coDsk x : Int) = k + x.used.length + x.taken.length + costL coIno x.inos + costL coBlk x.blks := by unfold coDsk; omega
  have n1 : ¬ k + (x.used.length : Int) + x.taken.length < 0 := by omega
  have n2 : ¬ k + (x.used.length : Int) + x.taken.length + costL coIno x.inos < 0 := by omega
  have n3 : ¬ k + (x.used.length : Int) + x.taken.length + costL coIno x.inos + costL coBlk x.blks < 0 := by omega
  simp only [dsk, mkDsk, F106, go_sem, seval, bnd_ite, e1, e2, e3, e4, n1, n2, n3, if_false]
end Go.Proofs.YtaaajjinpppgeaaGreatDoor
namespace Go.Proofs.YtaaajjinpppgeaaGreatDoor
open Go Go.Abs
set_option maxRecDepth 100000
noncomputable def mkDp (k : Int) (x : Dp) : Dp := ⟨k, k + 1, k + 1 + 1, k + 1 + 1 + 1, k + 1 + 1 + 1 + 1, k + 1 + 1 + 1 + 1 + 1, mtext (k + 1 + 1 + 1 + 1 + 1 + 1), mb (k + 1 + 1 + 1 + 1 + 1 + 1 + 1), mb (k + 1 + 1 + 1 + 1 + 1 + 1 + 1 + 1), k + 1 + 1 + 1 + 1 + 1 + 1 + 1 + 1 + 1, (List.range x.blocks.length).map fun i => k + 1 + 1 + 1 + 1 + 1 + 1 + 1 + 1 + 1 + 1 + (i : Nat)⟩
def coDp (x : Dp) : Nat := 10 + x.blocks.length
theorem costDp {l : List Dp} (hl : l.length ≤ 1048576) (hs : ∀ x ∈ l, x.sm) (i : Nat) : costL coDp (l.take i) ≤ 1099522113536 := by
  have h1 := costL_le (cost := coDp) (C := 1048586) (l := l.take i) (fun x hx => by have := hs x (List.mem_of_mem_take hx); unfold Dp.sm at this; unfold coDp; omega)
  have h2 : (l.take i).length ≤ l.length := by simp; omega
  have h3 : (l.take i).length * 1048586 ≤ 1048576 * 1048586 := Nat.mul_le_mul_right _ (by omega)
  omega
set_option maxHeartbeats 1000000 in
theorem e105 (l : List Dp) (k : Int) (h0 : 0 ≤ k) (hk : k ≤ 1125899906842624) (hl : l.length ≤ 1048576) (hs : ∀ x ∈ l, x.sm) :
    E T 105 [.sl 0 0 l.length, .int .i64 k] [some (11, l.map dpO)] = some (.int .i64 (k + costL coDp l), [some (11, (mkL mkDp coDp k l).map dpO)]) := by
  rw [E_eq t105 (Nat.le_of_ble_eq_true rfl)]
  simp only [F105, h105_2, go_sem, seval, bnd_ite]
  refine (XL_inv (T := T) (b := 1) (hd := H105_2) (x := L105_2) (β := Unit) (fun i _ => ⟨[(0, .sl 0 0 l.length), (1, .int .i64 (k + (costL coDp (l.take i) : Nat))), (5, .int .i64 (i : Nat))], [some (11, (mkP mkDp coDp k l i).map dpO)]⟩)
    (fun i _ => True) l.length (fun r => r.1 = .exit 0 ∧ r.2.mem = [some (11, (mkL mkDp coDp k l).map dpO)] ∧ lookA r.2.env 1 = .int .i64 (k + (costL coDp l : Nat))) ?step ?last 0 () (by omega) trivial).elim ?main
  case step =>
    intro i _ hi _
    obtain ⟨p, hp⟩ := get_at hi
    have hi1 : (i : Int) < (l.length : Int) := by omega
    have hci := costDp hl hs i
    have hps := hs p (List.mem_of_getElem? hp)
    unfold Dp.sm at hps
    left
    refine ⟨(), ?_, trivial⟩
    have ms := mkP_set (st := mkDp) (cost := coDp) (k := k) hp
    have cs := costL_succ (cost := coDp) hp
    have gx : ((mkP mkDp coDp k l i).map dpO).getD i .undef = .agg [.int .i64 p.id, .int .i64 p.kind, .int .i64 p.ino, .int .i64 p.ptr, .int .i64 p.block, .int .i64 p.slot, .str p.name, .bool p.bits, .bool p.other, .int .i64 p.after, .own 1 (p.blocks.map iv)] := gD_map (mkP_get hp)
    generalize hR : mkP mkDp coDp k l i = R at *
    have hml : R.length = l.length := by rw [← hR]; exact mkP_len
    have hmi : i < (R.map dpO).length := by rw [List.length_map, hml]; exact hi
    generalize hK : k + (costL coDp (l.take i) : Int) = K at *
    have e1 := e190 p.blocks (K + 1 + 1 + 1 + 1 + 1 + 1 + 1 + 1 + 1 + 1) (by omega) (by omega) hps
    have e4 := e189 (K + 1 + 1 + 1 + 1 + 1 + 1) (by omega) (by omega)
    have sm : (R.map dpO).set i (.agg [.int .i64 K, .int .i64 (K + 1), .int .i64 (K + 1 + 1), .int .i64 (K + 1 + 1 + 1), .int .i64 (K + 1 + 1 + 1 + 1), .int .i64 (K + 1 + 1 + 1 + 1 + 1), .str (mtext (K + 1 + 1 + 1 + 1 + 1 + 1)), .bool (mb (K + 1 + 1 + 1 + 1 + 1 + 1 + 1)), .bool (mb (K + 1 + 1 + 1 + 1 + 1 + 1 + 1 + 1)), .int .i64 (K + 1 + 1 + 1 + 1 + 1 + 1 + 1 + 1 + 1), .own 1 (((List.range p.blocks.length).map fun i => K + 1 + 1 + 1 + 1 + 1 + 1 + 1 + 1 + 1 + 1 + (i : Nat)).map iv)]) = (mkP mkDp coDp k l (i + 1)).map dpO := by rw [← ms]; exact set_map (f := dpO) (x := mkDp K p)
    have e2 : k + ((costL coDp (l.take (i + 1)) : Nat) : Int) = K + 1 + 1 + 1 + 1 + 1 + 1 + 1 + 1 + 1 + 1 + (p.blocks.length : Int) := by rw [cs, coDp]; omega
    have it : ((i : Int) + 0).toNat = i := by omega
    generalize hM : ((List.range p.blocks.length).map fun i => K + 1 + 1 + 1 + 1 + 1 + 1 + 1 + 1 + 1 + 1 + (i : Nat)) = M at *
    have hmk : M.length = p.blocks.length := by rw [← hM]; simp
    have htk : (List.map iv M).take p.blocks.length = List.map iv M := List.take_of_length_le (by simp [hmk])
    unfold mb at sm
    simp only [XG, L105_2, h105_2, it, go_sem, seval, bnd_ite, hi1, hml, hi, gx, getD_set hmi, List.set_set, Int.natCast_nonneg, w_i64 ((i : Int) + 1) (by omega), w_i64 (K + 1) (by omega), w_i64 (K + 1 + 1) (by omega), w_i64 (K + 1 + 1 + 1) (by omega), w_i64 (K + 1 + 1 + 1 + 1) (by omega), w_i64 (K + 1 + 1 + 1 + 1 + 1) (by omega), w_i64 (K + 1 + 1 + 1 + 1 + 1 + 1) (by omega), w_i64 (K + 1 + 1 + 1 + 1 + 1 + 1 + 1) (by omega), w_i64 (K + 1 + 1 + 1 + 1 + 1 + 1 + 1 + 1) (by omega), w_i64 (K + 1 + 1 + 1 + 1 + 1 + 1 + 1 + 1 + 1) (by omega), w_i64 (K + 1 + 1 + 1 + 1 + 1 + 1 + 1 + 1 + 1 + 1) (by omega), e1, e4, is_set, dpO_is, hmk, htk, sm]
    rw [e2]; rfl
  case last =>
    intro _ _
    have hml : (mkP mkDp coDp k l l.length).length = l.length := mkP_len
    simp only [XG, L105_2, h105_2, go_sem, seval, bnd_ite, hml, Int.lt_irrefl, decide_false]
    exact .mk (by simp) ⟨rfl, by rw [mkP_all], rfl⟩
  case main =>
  rintro ⟨x, e, m⟩ ⟨h1, h2, h3, h4, h5⟩
  have h0' : ((0 : Nat) : Int) = 0 := rfl
  simp only [mkP_0, List.take_zero, costL, h0', Int.add_zero] at h1
  simp only at h3 h4 h5; subst h3; subst h4
  simp only [h1, go_sem, seval, h5]
set_option maxHeartbeats 1000000 in
theorem e108 (l : List Dp) (k : Int) (h0 : 0 ≤ k) (hk : k ≤ 1125899906842624) (hl : l.length ≤ 1048576) (hs : ∀ x ∈ l, x.sm) :
    E T 108 [.ro 11 ((mkL mkDp coDp k l).map dp), .int .i64 k] [] = some (.int .i64 (k + costL coDp l), []) := by
  rw [E_eq t108 (Nat.le_of_ble_eq_true rfl)]
  simp only [F108, h108_2, go_sem, seval, bnd_ite]
  generalize hL : mkL mkDp coDp k l = L
  have hln : L.length = l.length := by rw [← hL]; exact mkL_len
  refine (XL_inv (T := T) (b := 0) (hd := H108_2) (x := L108_2) (β := Unit) (fun i _ => ⟨[(0, .ro 11 (L.map dp)), (1, .int .i64 (k + (costL coDp (l.take i) : Nat))), (5, .int .i64 (i : Nat))], []⟩)
    (fun i _ => True) l.length (fun r => r.1 = .exit 0 ∧ lookA r.2.env 1 = .int .i64 (k + (costL coDp l : Nat))) ?step ?last 0 () (by omega) trivial).elim ?main
  case step =>
    intro i _ hi _
    obtain ⟨p, hp⟩ := get_at hi
    have hi1 : (i : Int) < (l.length : Int) := by omega
    have hci := costDp hl hs i
    have hps := hs p (List.mem_of_getElem? hp)
    unfold Dp.sm at hps
    left
    refine ⟨(), ?_, trivial⟩
    have cs := costL_succ (cost := coDp) hp
    have hat : L[i]? = some (mkDp (k + costL coDp (l.take i)) p) := by rw [← hL]; exact mkL_at hp
    generalize hK : k + (costL coDp (l.take i) : Int) = K at *
    have gx : (L.map dp).getD i .undef = .agg [.int .i64 K, .int .i64 (K + 1), .int .i64 (K + 1 + 1), .int .i64 (K + 1 + 1 + 1), .int .i64 (K + 1 + 1 + 1 + 1), .int .i64 (K + 1 + 1 + 1 + 1 + 1), .str (mtext (K + 1 + 1 + 1 + 1 + 1 + 1)), .bool (mb (K + 1 + 1 + 1 + 1 + 1 + 1 + 1)), .bool (mb (K + 1 + 1 + 1 + 1 + 1 + 1 + 1 + 1)), .int .i64 (K + 1 + 1 + 1 + 1 + 1 + 1 + 1 + 1 + 1), .ro 1 (((List.range p.blocks.length).map fun i => K + 1 + 1 + 1 + 1 + 1 + 1 + 1 + 1 + 1 + 1 + (i : Nat)).map iv)] := gD_map hat
    have e1 := e194 p.blocks.length (K + 1 + 1 + 1 + 1 + 1 + 1 + 1 + 1 + 1 + 1) (by omega) (by omega) hps
    have e4 := e189 (K + 1 + 1 + 1 + 1 + 1 + 1) (by omega) (by omega)
    have e2 : k + ((costL coDp (l.take (i + 1)) : Nat) : Int) = K + 1 + 1 + 1 + 1 + 1 + 1 + 1 + 1 + 1 + 1 + (p.blocks.length : Int) := by rw [cs, coDp]; omega
    have e3 : ¬ K + 1 + 1 + 1 + 1 + 1 + 1 + 1 + 1 + 1 + 1 + (p.blocks.length : Int) < 0 := by omega
    generalize hM : ((List.range p.blocks.length).map fun i => K + 1 + 1 + 1 + 1 + 1 + 1 + 1 + 1 + 1 + 1 + (i : Nat)) = M at *
    unfold mb at gx
    simp only [XG, L108_2, h108_2, go_sem, seval, bnd_ite, hi1, hln, hi, gx, e1, e3, e4, bdec, bne_dec, decide_true, decide_false, Bool.not_true, Bool.false_eq_true, if_false, Int.natCast_nonneg, w_i64 ((i : Int) + 1) (by omega), w_i64 (K + 1) (by omega), w_i64 (K + 1 + 1) (by omega), w_i64 (K + 1 + 1 + 1) (by omega), w_i64 (K + 1 + 1 + 1 + 1) (by omega), w_i64 (K + 1 + 1 + 1 + 1 + 1) (by omega), w_i64 (K + 1 + 1 + 1 + 1 + 1 + 1) (by omega), w_i64 (K + 1 + 1 + 1 + 1 + 1 + 1 + 1) (by omega), w_i64 (K + 1 + 1 + 1 + 1 + 1 + 1 + 1 + 1) (by omega), w_i64 (K + 1 + 1 + 1 + 1 + 1 + 1 + 1 + 1 + 1) (by omega), w_i64 (K + 1 + 1 + 1 + 1 + 1 + 1 + 1 + 1 + 1 + 1) (by omega)]
    rw [e2]; rfl
  case last =>
    intro _ _
    simp only [XG, L108_2, h108_2, go_sem, seval, bnd_ite, hln, Int.lt_irrefl, decide_false]
    exact .mk (by simp) ⟨rfl, rfl⟩
  case main =>
  rintro ⟨x, e, m⟩ ⟨h1, h2, h3, h4⟩
  have hs : ((0 : Nat) : Int) = 0 := rfl
  simp only [List.take_zero, costL, hs, Int.add_zero] at h1
  simp only at h3 h4; subst h3
  simp only [h1, go_sem, seval, h4]
def coMm (x : Mm) : Nat := coDsk x.disk + x.dirty.length + costL coDp x.deps
noncomputable def mkMm (k : Int) (x : Mm) : Mm := ⟨mkDsk k x.disk, mkB (k + coDsk x.disk) x.dirty.length, mkL mkDp coDp (k + coDsk x.disk + x.dirty.length) x.deps, x.next⟩
def mmR (x : Mm) : Mem := dskR x.disk ++ [some (1, x.dirty.map bv), some (11, x.deps.map dpO)]
theorem coDsk_le' {x : Dsk} (h : x.sm) : coDsk x ≤ 4398046511104 := by
  obtain ⟨c1, c2⟩ := coDsk_le h
  have u1 := h.used
  have u2 := h.taken
  unfold coDsk; omega
theorem e29 (x : Mm) (k : Int) (h0 : 0 ≤ k) (hk : k ≤ 281474976710656) (h : x.sm) :
    E T 29 [.agg [.sl 0 0 x.disk.used.length, .sl 1 0 x.disk.taken.length, .sl 2 0 x.disk.inos.length, .sl 3 0 x.disk.blks.length, .sl 4 0 x.dirty.length, .sl 5 0 x.deps.length, .int .i64 x.next], .int .i64 k] (mmR x) = some (.int .i64 (k + coMm x), mmR (mkMm k x)) := by
  rw [E_eq t29 (Nat.le_of_ble_eq_true rfl)]
  have c1 := coDsk_le' h.disk
  have c2 := costDp h.deps h.dep x.deps.length
  rw [List.take_length] at c2
  have u1 := h.dirty
  have e1 := e103 x.disk k h0 (by omega) h.disk
  have e2 := e104' x.dirty (k + coDsk x.disk) (by omega) (by omega) h.dirty
  have e3 := e105 x.deps (k + coDsk x.disk + x.dirty.length) (by omega) (by omega) h.deps h.dep
  have e4 : k + (coMm x : Int) = k + coDsk x.disk + x.dirty.length + costL coDp x.deps := by unfold coMm; omega
  simp only [mmR, dskR, List.cons_append, List.nil_append] at e1 ⊢
  simp only [mkMm, F29, go_sem, seval, bnd_ite, e1, e2, e3, e4, mkDsk, mkB_len, mkL_len]
theorem e30 (x : Mm) (k : Int) (h0 : 0 ≤ k) (hk : k ≤ 281474976710656) (h : x.sm) : E T 30 [mm (mkMm k x), .int .i64 k] [] = some (.int .i64 (k + coMm x), []) := by
  rw [E_eq t30 (Nat.le_of_ble_eq_true rfl)]
  have c1 := coDsk_le' h.disk
  have c2 := costDp h.deps h.dep x.deps.length
  rw [List.take_length] at c2
  have u1 := h.dirty
  have e1 := e106 x.disk k h0 (by omega) h.disk
  have e2 := e107' x.dirty.length (k + coDsk x.disk) (by omega) (by omega) h.dirty
  have e3 := e108 x.deps (k + coDsk x.disk + x.dirty.length) (by omega) (by omega) h.deps h.dep
  have e4 : k + (coMm x : Int) = k + coDsk x.disk + x.dirty.length + costL coDp x.deps := by unfold coMm; omega
  have n1 : ¬ k + (coDsk x.disk : Int) < 0 := by omega
  have n2 : ¬ k + (coDsk x.disk : Int) + x.dirty.length < 0 := by omega
  have n3 : ¬ k + (coDsk x.disk : Int) + x.dirty.length + costL coDp x.deps < 0 := by omega
  unfold dsk at e1
  simp only [mm, mkMm, F30, go_sem, seval, bnd_ite, e1, e2, e3, e4, n1, n2, n3, if_false]
end Go.Proofs.YtaaajjinpppgeaaGreatDoor
namespace Go.Proofs.YtaaajjinpppgeaaGreatDoor
open Go Go.Abs
set_option maxRecDepth 100000
theorem ffree_le (l : List Bool) : ffree l = 0 ∨ (1 ≤ ffree l ∧ ffree l ≤ (l.length : Int)) := by
  unfold ffree
  cases hf : l.findIdx? (fun b => !b) with
  | none => exact .inl rfl
  | some i =>
    right
    have := (List.findIdx?_eq_some_iff_getElem.1 hf).1
    simp only; omega
def takeU (x : Mm) : Mm := if ffree x.disk.used = 0 then x else { x with disk := { x.disk with used := x.disk.used.set (ffree x.disk.used - 1).toNat true }, dirty := x.dirty.set 0 true }
theorem x42 (a b : AV) (mem : Mem) : E T 42 [a, b] mem = bnd (X T mem.length F42.body ⟨enumA 0 [a, b], mem⟩) (finE mem.length F42.results) := E_eq t42 (Nat.le_of_ble_eq_true rfl)
theorem x84 (a b : AV) (mem : Mem) : E T 84 [a, b] mem = bnd (X T mem.length F84.body ⟨enumA 0 [a, b], mem⟩) (finE mem.length F84.results) := E_eq t84 (Nat.le_of_ble_eq_true rfl)
theorem x97 (a b : AV) (mem : Mem) : E T 97 [a, b] mem = bnd (X T mem.length F97.body ⟨enumA 0 [a, b], mem⟩) (finE mem.length F97.results) := E_eq t97 (Nat.le_of_ble_eq_true rfl)
theorem setv (l : List Bool) (k : Nat) : (l.map bv).set k (.bool true) = (l.set k true).map bv := by rw [List.map_set]; rfl
theorem tkO {α : Type} {f : α → AV} {l : List α} : (l.map f).take l.length = l.map f := List.take_of_length_le (by simp)
theorem tkN {α : Type} {f : α → AV} {l : List α} {n : Nat} (h : l.length = n) : (l.map f).take n = l.map f := List.take_of_length_le (by rw [List.length_map, h]; exact Nat.le_refl _)
theorem e47 (x : Mm) (h : x.sm) : E T 47 [mm x] [] = some (.tup [mmO (takeU x), .int .i64 (ffree x.disk.used)], []) := by
  rw [E_eq t47 (Nat.le_of_ble_eq_true rfl)]
  have e1 := e34 x h
  have e2 := e115 x.disk.used h.disk.used
  have hl := h.disk.used
  have hd := h.dirty
  unfold mm mmO at e1
  unfold takeU
  rcases ffree_le x.disk.used with h0 | ⟨h1, h2⟩
  · rw [if_pos h0]
    rw [h0] at e2 ⊢
    simp only [mm, mmO, F47, go_sem, seval, bnd_ite, e1, e2, tkO, decide_true, if_true]
    first | done | rfl
  · rw [if_neg (by omega)]
    generalize ffree x.disk.used = p at *
    have c0 : decide (p = 0) = false := decide_eq_false (by omega)
    have c1 : 0 ≤ p - 1 := by omega
    have c2 : p - 1 < (x.disk.used.length : Int) := by omega
    have c3 : (p - 1).toNat < x.disk.used.length := by omega
    have w2 := w_i64 (p - 1) (by omega)
    obtain ⟨u, hu⟩ := get_at c3
    have gu : (x.disk.used.map bv).getD (p - 1).toNat .undef = .bool u := gD_map hu
    have sl : (x.disk.used.set (p - 1).toNat true).length = x.disk.used.length := by simp
    have tk2 : ((x.disk.used.set (p - 1).toNat true).map bv).take x.disk.used.length = (x.disk.used.set (p - 1).toNat true).map bv := List.take_of_length_le (by simp)
    have tk3 : ((x.dirty.set 0 true).map bv).take x.dirty.length = (x.dirty.set 0 true).map bv := List.take_of_length_le (by simp)
    by_cases cd : 0 < x.dirty.length
    · have cd1 : (0 : Int) < (x.dirty.length : Int) := by omega
      obtain ⟨v, hv⟩ := get_at cd
      have gv : (x.dirty.map bv).getD 0 .undef = .bool v := gD_map hv
      simp only [mm, mmO, F47, x42, F42, go_sem, seval, bnd_ite, e1, e2, c0, c1, c2, c3, w2, gu, gv, cd, cd1, setv, sl, tkO, tk2, tk3, decide_true, if_true, Bool.false_eq_true, if_false]
      first | done | rfl
    · have cd1 : ¬ (0 : Int) < (x.dirty.length : Int) := by omega
      have cn : x.dirty = [] := List.length_eq_zero_iff.1 (by omega)
      have sd : x.dirty.set 0 true = x.dirty := by rw [cn]; rfl
      rw [sd]
      simp only [mm, mmO, F47, x42, F42, go_sem, seval, bnd_ite, e1, e2, c0, c1, c2, c3, w2, gu, cd, cd1, setv, sl, tkO, tk2, decide_true, decide_false, if_true, Bool.false_eq_true, if_false]
      first | done | rfl
end Go.Proofs.YtaaajjinpppgeaaGreatDoor
namespace Go.Proofs.YtaaajjinpppgeaaGreatDoor
open Go Go.Abs
set_option maxRecDepth 100000
end Go.Proofs.YtaaajjinpppgeaaGreatDoor
namespace Go.Proofs.YtaaajjinpppgeaaGreatDoor
open Go Go.Abs
set_option maxRecDepth 100000
def may (x : Mm) : Bool := decide (x.deps.length < 40) && inside x.next 1 99999
theorem x138 (a b : AV) (mem : Mem) : E T 138 [a, b] mem = bnd (X T mem.length F138.body ⟨enumA 0 [a, b], mem⟩) (finE mem.length F138.results) := E_eq t138 (Nat.le_of_ble_eq_true rfl)
end Go.Proofs.YtaaajjinpppgeaaGreatDoor
namespace Go.Proofs.YtaaajjinpppgeaaGreatDoor
open Go Go.Abs
set_option maxRecDepth 100000
end Go.Proofs.YtaaajjinpppgeaaGreatDoor
namespace Go.Proofs.YtaaajjinpppgeaaGreatDoor
open Go Go.Abs
set_option maxRecDepth 100000
theorem e150 (a b : List Bool) : E T 150 [.agg [.ro 1 (a.map bv), .ro 1 (b.map bv)]] [] = some (.bool (decide (a.length = 16) && decide (b.length = 8)), []) := by
  rw [E_eq t150 (Nat.le_of_ble_eq_true rfl)]
  simp only [F150, go_sem, seval, bnd_ite]
  by_cases h1 : a.length = 16 <;> by_cases h2 : b.length = 8 <;> simp [h1, h2] <;> omega
theorem e165 (a b : List Bool) : E T 165 [.agg [.ro 1 (a.map bv), .ro 1 (b.map bv)]] [] = some (.bool (decide (a.length = 16) && decide (b.length = 8)), []) := by
  rw [E_eq t165 (Nat.le_of_ble_eq_true rfl)]
  simp only [F165, go_sem, seval, bnd_ite]
  by_cases h1 : a.length = 16 <;> by_cases h2 : b.length = 8 <;> simp [h1, h2] <;> omega
theorem e166 (x : Int) : E T 166 [.int .i64 x] [] = some (.bool (inside x 1 16), []) := by
  rw [E_eq t166 (Nat.le_of_ble_eq_true rfl)]
  simp only [F166, go_sem, seval, bnd_ite, e87i]
theorem e167 (x : Int) : E T 167 [.int .i64 x] [] = some (.bool (inside x 1 8), []) := by
  rw [E_eq t167 (Nat.le_of_ble_eq_true rfl)]
  simp only [F167, go_sem, seval, bnd_ite, e87i]
def sgn (c : UInt8) : Bool := inside c.toNat 97 122 || inside c.toNat 48 57
def nameOk (s : ByteArray) : Bool := s.data.toList.all sgn && inside s.size 1 6
theorem ba_len (s : ByteArray) : s.data.toList.length = s.size := Array.length_toList
theorem e119 (s : ByteArray) (hl : s.size ≤ maxLen) : E T 119 [.str s] [] = some (.bool (nameOk s), []) := by
  rw [E_eq t119 (Nat.le_of_ble_eq_true rfl)]
  have hn := ba_len s
  unfold maxLen at hl
  refine (XL_all (T := T) (b := 0) (hd := H119_2) (x := L119_2) s.data.toList sgn (fun i => ⟨[(0, .str s), (3, .int .i64 (i : Nat))], []⟩)
    (fun r => r.1 = .exit 0 ∧ lookA r.2.env 0 = .str s) (fun r => r.1 = .ret ∧ lookA r.2.env 2 = .bool false) ?step ?hit ?last).elim ?main
  case step =>
    intro i c hc hi hp _
    have hi1 : (i : Int) < (s.size : Int) := by omega
    have gc : s.data.toList.getD i 0 = c := by simp [List.getD, hc]
    simp only [XG, L119_2, h119_2, go_sem, seval, bnd_ite, hi1, Int.toNat_natCast, gc, Int.natCast_nonneg, w_i64 ((i : Int) + 1) (by omega)]
    have hf : ((decide ((c.toNat : Int) < 97) || decide (122 < (c.toNat : Int))) && (decide ((c.toNat : Int) < 48) || decide (57 < (c.toNat : Int)))) = false := by
      rw [← Bool.not_eq_true]; intro h
      simp only [sgn, inside, Bool.or_eq_true, Bool.and_eq_true, decide_eq_true_eq] at hp h
      omega
    rw [hf]; simp only [Bool.false_eq_true, if_false]
    rfl
  case hit =>
    intro i c hc hi hp _
    have hi1 : (i : Int) < (s.size : Int) := by omega
    have gc : s.data.toList.getD i 0 = c := by simp [List.getD, hc]
    have hf : ((decide ((c.toNat : Int) < 97) || decide (122 < (c.toNat : Int))) && (decide ((c.toNat : Int) < 48) || decide (57 < (c.toNat : Int)))) = true := by
      simp only [sgn, inside, Bool.or_eq_false_iff, Bool.and_eq_false_iff, decide_eq_false_iff_not] at hp
      simp only [Bool.or_eq_true, Bool.and_eq_true, decide_eq_true_eq]
      omega
    simp only [XG, L119_2, h119_2, go_sem, seval, bnd_ite, hi1, Int.toNat_natCast, gc, Int.natCast_nonneg, w_i64 ((i : Int) + 1) (by omega), hf, if_true]
    exact .mk (by simp) ⟨rfl, rfl⟩
  case last =>
    intro _
    simp only [XG, L119_2, h119_2, go_sem, seval, bnd_ite, hn, Int.lt_irrefl, decide_false]
    exact .mk (by simp) ⟨rfl, rfl⟩
  case main =>
  rintro ⟨y, e, m⟩ ⟨k1, k2⟩
  have hs : ((0 : Nat) : Int) = 0 := rfl
  simp only [hs] at k1
  unfold nameOk
  rcases k2 with ⟨h, k2, k3⟩ | ⟨h, k2, k3⟩ <;> simp only at k2 k3 <;> subst k2
  · simp only [F119, h119_2, go_sem, seval, bnd_ite, k1, k3, e46i, h, Bool.true_and]
  · simp only [F119, h119_2, go_sem, seval, bnd_ite, k1, k3, h, Bool.false_and]
theorem e169 (s : ByteArray) (hl : s.size ≤ maxLen) : E T 169 [.str s] [] = some (.bool (nameOk s), []) := by
  rw [E_eq t169 (Nat.le_of_ble_eq_true rfl)]
  have hn := ba_len s
  unfold maxLen at hl
  refine (XL_all (T := T) (b := 0) (hd := H169_2) (x := L169_2) s.data.toList sgn (fun i => ⟨[(0, .str s), (5, .int .i64 s.size), (6, .int .i64 (i : Nat))], []⟩)
    (fun r => r.1 = .exit 0 ∧ lookA r.2.env 0 = .str s) (fun r => r.1 = .ret ∧ lookA r.2.env 2 = .bool false) ?step ?hit ?last).elim ?main
  case step =>
    intro i c hc hi hp _
    have hi1 : (i : Int) < (s.size : Int) := by omega
    have gc : s.data.toList.getD i 0 = c := by simp [List.getD, hc]
    have hw : (c.toNat : Int) ≤ 255 := by have := c.toNat_lt; omega
    simp only [sgn] at hp
    have hf : (!inside (c.toNat : Int) 97 122 && !inside (c.toNat : Int) 48 57) = false := by
      rw [← Bool.not_or, hp]; rfl
    simp only [XG, L169_2, h169_2, go_sem, seval, bnd_ite, hi1, Int.toNat_natCast, gc, Int.natCast_nonneg, w_i64 (c.toNat : Int) (by omega), w_i64 ((i : Int) + 1) (by omega), e87i, hf, Bool.false_eq_true, if_false]
    rfl
  case hit =>
    intro i c hc hi hp _
    have hi1 : (i : Int) < (s.size : Int) := by omega
    have gc : s.data.toList.getD i 0 = c := by simp [List.getD, hc]
    have hw : (c.toNat : Int) ≤ 255 := by have := c.toNat_lt; omega
    simp only [sgn] at hp
    have hf : (!inside (c.toNat : Int) 97 122 && !inside (c.toNat : Int) 48 57) = true := by
      rw [← Bool.not_or, hp]; rfl
    simp only [XG, L169_2, h169_2, go_sem, seval, bnd_ite, hi1, Int.toNat_natCast, gc, Int.natCast_nonneg, w_i64 (c.toNat : Int) (by omega), w_i64 ((i : Int) + 1) (by omega), e87i, hf, if_true]
    exact .mk (by simp) ⟨rfl, rfl⟩
  case last =>
    intro _
    simp only [XG, L169_2, h169_2, go_sem, seval, bnd_ite, hn, Int.lt_irrefl, decide_false]
    exact .mk (by simp) ⟨rfl, rfl⟩
  case main =>
  rintro ⟨y, e, m⟩ ⟨k1, k2⟩
  have hs : ((0 : Nat) : Int) = 0 := rfl
  simp only [hs] at k1
  unfold nameOk
  rcases k2 with ⟨h, k2, k3⟩ | ⟨h, k2, k3⟩ <;> simp only at k2 k3 <;> subst k2
  · simp only [F169, h169_2, go_sem, seval, bnd_ite, k1, k3, e87i, h, Bool.true_and]
  · simp only [F169, h169_2, go_sem, seval, bnd_ite, k1, k3, h, Bool.false_and]
end Go.Proofs.YtaaajjinpppgeaaGreatDoor
namespace Go.Proofs.YtaaajjinpppgeaaGreatDoor
open Go Go.Abs
set_option maxRecDepth 100000
def ptrOk (k p : Int) : Bool := inside p 0 16 && !(decide (k = 0) && decide (p ≠ 0))
def inoOk (x : Ino) : Bool := x.ptrs.all (ptrOk x.kind) && (inside x.kind 0 2 && inside x.links 0 200 && decide (x.ptrs.length = 2) && (!decide (x.kind = 0) || decide (x.links = 0)))
theorem e163 (x : Ino) (hk : x.ok) : E T 163 [ino x] [] = some (.bool (inoOk x), []) := by
  rw [E_eq t163 (Nat.le_of_ble_eq_true rfl)]
  unfold Ino.ok maxLen at hk
  refine (XL_all (T := T) (b := 0) (hd := H163_2) (x := L163_2) x.ptrs (ptrOk x.kind) (fun i => ⟨[(1, .ptr 0 0 0), (6, .ro 1 (x.ptrs.map iv)), (7, .int .i64 x.ptrs.length), (8, .int .i64 (i : Nat))], [some (3, [.agg [.int .i64 x.kind, .int .i64 x.links, .ro 1 (x.ptrs.map iv)]])]⟩)
    (fun r => r.1 = .exit 0 ∧ lookA r.2.env 1 = .ptr 0 0 0 ∧ r.2.mem = [some (3, [.agg [.int .i64 x.kind, .int .i64 x.links, .ro 1 (x.ptrs.map iv)]])]) (fun r => r.1 = .ret ∧ lookA r.2.env 2 = .bool false) ?step ?hit ?last).elim ?main
  case step =>
    intro i p hp hi hP _
    have hi1 : (i : Int) < (x.ptrs.length : Int) := by omega
    have gp : (x.ptrs.map iv).getD i .undef = .int .i64 p := gD_map hp
    have hf : (!inside p 0 16 || !decide (p = 0) && decide (x.kind = 0)) = false := by
      simp only [ptrOk, Bool.and_eq_true, Bool.not_eq_true'] at hP
      rw [hP.1]; rw [Bool.and_comm]; simpa using hP.2
    simp only [XG, L163_2, h163_2, go_sem, seval, bnd_ite, hi1, gp, Int.natCast_nonneg, w_i64 ((i : Int) + 1) (by omega), e87i, hf, Bool.false_eq_true, if_false]
    rfl
  case hit =>
    intro i p hp hi hP _
    have hi1 : (i : Int) < (x.ptrs.length : Int) := by omega
    have gp : (x.ptrs.map iv).getD i .undef = .int .i64 p := gD_map hp
    have hf : (!inside p 0 16 || !decide (p = 0) && decide (x.kind = 0)) = true := by
      unfold ptrOk at hP
      cases h1 : inside p 0 16 with
      | false => rfl
      | true => rw [h1, Bool.true_and] at hP; rw [Bool.and_comm]; simpa using hP
    simp only [XG, L163_2, h163_2, go_sem, seval, bnd_ite, hi1, gp, Int.natCast_nonneg, w_i64 ((i : Int) + 1) (by omega), e87i, hf, if_true]
    exact .mk (by simp) ⟨rfl, rfl⟩
  case last =>
    intro _
    simp only [XG, L163_2, h163_2, go_sem, seval, bnd_ite, Int.lt_irrefl, decide_false]
    exact .mk (by simp) ⟨rfl, rfl, rfl⟩
  case main =>
  rintro ⟨y, e, m⟩ ⟨k1, k2⟩
  have hs : ((0 : Nat) : Int) = 0 := rfl
  simp only [hs] at k1
  unfold inoOk
  rcases k2 with ⟨h, k2, k3⟩ | ⟨h, k2, k3⟩ <;> simp only at k2 k3 <;> subst k2
  · obtain ⟨k3, rfl⟩ := k3
    simp only [ino, F163, h163_2, go_sem, seval, bnd_ite, k1, k3, e87i, h, Bool.true_and]
    have hl : decide ((x.ptrs.length : Int) = 2) = decide (x.ptrs.length = 2) := by congr 1; apply propext; omega
    rw [hl]
  · simp only [ino, F163, h163_2, go_sem, seval, bnd_ite, k1, k3, h, Bool.false_and]
theorem e151 (x : Ino) (hk : x.ok) : E T 151 [ino x] [] = some (.bool (inoOk x), []) := by
  rw [E_eq t151 (Nat.le_of_ble_eq_true rfl)]
  unfold Ino.ok maxLen at hk
  have hl : decide ((x.ptrs.length : Int) = 2) = decide (x.ptrs.length = 2) := by congr 1; apply propext; omega
  by_cases hc : (inside x.kind 0 2 && inside x.links 0 200 && decide (x.ptrs.length = 2)) = true
  case neg =>
    have hf : (!inside x.kind 0 2 || !inside x.links 0 200 || !decide (x.ptrs.length = 2)) = true := by
      rw [← Bool.not_and, ← Bool.not_and, Bool.eq_false_iff.2 hc]; rfl
    have hr : inoOk x = false := by
      have hc : (inside x.kind 0 2 && inside x.links 0 200 && decide (x.ptrs.length = 2)) = false := Bool.eq_false_iff.2 hc
      unfold inoOk; rw [hc]; simp
    simp only [ino, F151, h151_4, go_sem, seval, bnd_ite, e46i, hl, hf, hr, if_true]
  have hf : (!inside x.kind 0 2 || !inside x.links 0 200 || !decide (x.ptrs.length = 2)) = false := by
    rw [← Bool.not_and, ← Bool.not_and, hc]; rfl
  have h2 : x.ptrs.length = 2 := by simp only [Bool.and_eq_true, decide_eq_true_eq] at hc; exact hc.2
  refine (XL_all (T := T) (b := 0) (hd := H151_4) (x := L151_4) x.ptrs (ptrOk x.kind) (fun i => ⟨[(1, .ptr 0 0 0), (3, .int .i64 (i : Nat))], [some (3, [.agg [.int .i64 x.kind, .int .i64 x.links, .ro 1 (x.ptrs.map iv)]])]⟩)
    (fun r => r.1 = .exit 0 ∧ lookA r.2.env 1 = .ptr 0 0 0 ∧ r.2.mem = [some (3, [.agg [.int .i64 x.kind, .int .i64 x.links, .ro 1 (x.ptrs.map iv)]])]) (fun r => r.1 = .ret ∧ lookA r.2.env 2 = .bool false) ?step ?hit ?last).elim ?main
  case step =>
    intro i p hp hi hP _
    have hi1 : (i : Int) < (x.ptrs.length : Int) := by omega
    have hi2 : (i : Int) < 2 := by omega
    have gp : (x.ptrs.map iv).getD i .undef = .int .i64 p := gD_map hp
    have hf : (!inside p 0 16 || decide (x.kind = 0) && !decide (p = 0)) = false := by
      simp only [ptrOk, Bool.and_eq_true, Bool.not_eq_true'] at hP
      rw [hP.1]; simpa using hP.2
    simp only [XG, L151_4, h151_4, go_sem, seval, bnd_ite, hi1, hi2, gp, Int.natCast_nonneg, w_i64 ((i : Int) + 1) (by omega), e46i, hf, Bool.false_eq_true, if_false]
    rfl
  case hit =>
    intro i p hp hi hP _
    have hi1 : (i : Int) < (x.ptrs.length : Int) := by omega
    have hi2 : (i : Int) < 2 := by omega
    have gp : (x.ptrs.map iv).getD i .undef = .int .i64 p := gD_map hp
    have hf : (!inside p 0 16 || decide (x.kind = 0) && !decide (p = 0)) = true := by
      unfold ptrOk at hP
      cases h1 : inside p 0 16 with
      | false => rfl
      | true => rw [h1, Bool.true_and] at hP; simpa using hP
    simp only [XG, L151_4, h151_4, go_sem, seval, bnd_ite, hi1, hi2, gp, Int.natCast_nonneg, w_i64 ((i : Int) + 1) (by omega), e46i, hf, if_true]
    exact .mk (by simp) ⟨rfl, rfl⟩
  case last =>
    intro _
    have hi2 : ¬ (x.ptrs.length : Int) < 2 := by omega
    simp only [XG, L151_4, h151_4, go_sem, seval, bnd_ite, hi2, decide_false]
    exact .mk (by simp) ⟨rfl, rfl, rfl⟩
  case main =>
  rintro ⟨y, e, m⟩ ⟨k1, k2⟩
  have hs : ((0 : Nat) : Int) = 0 := rfl
  simp only [hs] at k1
  unfold inoOk
  rcases k2 with ⟨h, k2, k3⟩ | ⟨h, k2, k3⟩ <;> simp only at k2 k3 <;> subst k2
  · obtain ⟨k3, rfl⟩ := k3
    simp only [ino, F151, h151_4, go_sem, seval, bnd_ite, k1, k3, e46i, hl, hf, hc, h, Bool.true_and, Bool.false_eq_true, if_false]
  · simp only [ino, F151, h151_4, go_sem, seval, bnd_ite, k1, k3, e46i, hl, hf, hc, h, Bool.false_and, Bool.false_eq_true, if_false]
def slotOf (l : List Slt) (s : ByteArray) : Int := if s.size = 0 then -1 else (match l.findIdx? (fun x => decide (x.name = s)) with | some i => (i : Nat) | none => -1)
theorem e216 (x : Slt) (s : ByteArray) : E T 216 [slt x, .rop [.str s]] [] = some (.bool (decide (x.name = s)), []) := by
  rw [E_eq t216 (Nat.le_of_ble_eq_true rfl)]
  simp only [slt, F216, go_sem, seval, bnd_ite]
theorem e215 (l : List Slt) (s : ByteArray) (hl : l.length ≤ maxLen) : E T 215 [.ro 2 (l.map slt), .fn 216 [.rop [.str s]]] [] = some (.int .i64 (match l.findIdx? (fun x => decide (x.name = s)) with | some i => (i : Nat) | none => -1), []) := by
  rw [E_eq t215 (Nat.le_of_ble_eq_true rfl)]
  unfold maxLen at hl
  refine (XL_find (T := T) (b := 0) (hd := H215_2) (x := L215_2) l (fun x => decide (x.name = s)) (fun i => ⟨[(0, .ro 2 (l.map slt)), (1, .fn 216 [.rop [.str s]]), (7, .int .i64 l.length), (8, .int .i64 (i : Nat))], []⟩)
    (fun o r => match o with | some i => r.1 = .ret ∧ lookA r.2.env 4 = .int .i64 (i : Nat) | none => r.1 = .exit 0) ?step ?hit ?last).elim ?main
  case step =>
    intro i p hp hi hP _
    have hi1 : (i : Int) < (l.length : Int) := by omega
    have gp : (l.map slt).getD i .undef = .agg [.str p.name, .int .i64 p.ino] := gD_map hp
    have e1 := e216 p s
    unfold slt at e1
    simp only [XG, L215_2, h215_2, go_sem, seval, bnd_ite, hi1, gp, Int.natCast_nonneg, w_i64 ((i : Int) + 1) (by omega), e1, hP, Bool.false_eq_true, if_false]
    rfl
  case hit =>
    intro i p hp hi hP _
    have hi1 : (i : Int) < (l.length : Int) := by omega
    have gp : (l.map slt).getD i .undef = .agg [.str p.name, .int .i64 p.ino] := gD_map hp
    have e1 := e216 p s
    unfold slt at e1
    simp only [XG, L215_2, h215_2, go_sem, seval, bnd_ite, hi1, gp, Int.natCast_nonneg, w_i64 ((i : Int) + 1) (by omega), e1, hP, if_true]
    exact .mk (by simp) ⟨rfl, rfl⟩
  case last =>
    intro _
    simp only [XG, L215_2, h215_2, go_sem, seval, bnd_ite, Int.lt_irrefl, decide_false]
    exact .mk (by simp) rfl
  case main =>
  rintro ⟨y, e, m⟩ ⟨k1, k2⟩
  have hs : ((0 : Nat) : Int) = 0 := rfl
  simp only [hs] at k1
  split at k2
  · rename_i o i heq
    obtain ⟨k2, k3⟩ := k2
    simp only at k2 k3; subst k2
    simp only [F215, h215_2, go_sem, seval, bnd_ite, k1, k3, heq]
  · rename_i o heq
    simp only at k2; subst k2
    simp only [F215, h215_2, go_sem, seval, bnd_ite, k1, heq]
theorem e133 (x : Blk) (s : ByteArray) (hl : x.slots.length ≤ maxLen) : E T 133 [blk x, .str s] [] = some (.int .i64 (slotOf x.slots s), []) := by
  rw [E_eq t133 (Nat.le_of_ble_eq_true rfl)]
  have e1 := e215 x.slots s hl
  unfold slotOf
  by_cases h : s = ⟨#[]⟩
  · subst h
    simp only [blk, F133, go_sem, seval, bnd_ite, decide_true, if_true]
    rfl
  · have h2 : ¬ s.size = 0 := fun hh => h (by cases s with | mk a => congr 1; exact Array.eq_empty_of_size_eq_zero hh)
    simp only [blk, F133, go_sem, seval, bnd_ite, h, h2, e1, decide_false, if_false]
end Go.Proofs.YtaaajjinpppgeaaGreatDoor
namespace Go.Proofs.YtaaajjinpppgeaaGreatDoor
open Go Go.Abs
set_option maxRecDepth 100000
def bare (s : Slt) : Bool := decide (s.name = ⟨#[]⟩) && decide (s.ino = 0)
def newName (l : List Slt) (i : Nat) (s : Slt) : Bool := (l.take i).all fun q => !decide (q.name = s.name)
def slotOk (l : List Slt) (i : Nat) (s : Slt) : Bool := bare s || (nameOk s.name && inside s.ino 1 8 && newName l i s)
def blkOk (x : Blk) : Bool := if x.dir then x.slots.zipIdx.all (fun p => slotOk x.slots p.2 p.1) && (decide (x.slots.length = 4) && decide (x.text = ⟨#[]⟩)) else decide (x.slots.length = 0) && decide (x.text.size ≤ 16)
theorem zip_at {α : Type} {l : List α} {i : Nat} {p : α × Nat} (h : l.zipIdx[i]? = some p) : l[i]? = some p.1 ∧ p.2 = i := by
  rw [List.getElem?_zipIdx] at h
  cases e : l[i]? with
  | none => rw [e] at h; cases h
  | some x => rw [e] at h; simp at h; subst h; exact ⟨rfl, rfl⟩
theorem nameOk_ne {s : ByteArray} (h : nameOk s = true) : s.size ≠ 0 := by
  simp only [nameOk, inside, Bool.and_eq_true, decide_eq_true_eq] at h
  omega
theorem slotOf_at {l : List Slt} {i : Nat} {s : Slt} (h : l[i]? = some s) (hn : s.name.size ≠ 0) : slotOf l s.name = (i : Nat) ↔ newName l i s = true := by
  unfold slotOf newName
  rw [if_neg hn]
  obtain ⟨hi, rfl⟩ := List.getElem?_eq_some_iff.1 h
  cases e : l.findIdx? (fun x => decide (x.name = l[i].name)) with
  | none =>
    rw [find_none] at e
    have := e l[i] (List.getElem_mem hi)
    simp at this
  | some j =>
    rw [List.findIdx?_eq_some_iff_getElem] at e
    obtain ⟨hj, h1, h2⟩ := e
    simp only [decide_eq_true_eq] at h1
    constructor
    · intro hij
      have hij : ((j : Nat) : Int) = (i : Nat) := hij
      have : j = i := by omega
      subst this
      rw [List.all_eq_true]
      intro q hq
      obtain ⟨k, hk, rfl⟩ := List.mem_take_iff_getElem.1 hq
      have := h2 k (by omega)
      simpa using this
    · intro hall
      rw [List.all_eq_true] at hall
      by_cases c : j < i
      · have := hall l[j] (List.mem_take_iff_getElem.2 ⟨j, by omega, rfl⟩)
        simp [h1] at this
      · by_cases c2 : i < j
        · have := h2 i c2; simp at this
        · have : j = i := by omega
          rw [this]
theorem blk_nil {x : Blk} (h : x.dir = false) : blkOk x = (decide (x.slots.length = 0) && decide (x.text.size ≤ 16)) := by unfold blkOk; rw [h]; rfl
theorem e164 (x : Blk) (hk : x.ok) : E T 164 [blk x] [] = some (.bool (blkOk x), []) := by
  rw [E_eq t164 (Nat.le_of_ble_eq_true rfl)]
  obtain ⟨hk1, hk2, hk3⟩ := hk
  unfold maxLen at hk1
  cases hd : x.dir with
  | false =>
    rw [blk_nil hd]
    simp only [blk, F164, h164_4, go_sem, seval, bnd_ite, hd, Bool.not_false, if_true]
    by_cases h1 : x.slots.length = 0 <;> by_cases h2 : x.text.size ≤ 16 <;> simp [h1, h2] <;> omega
  | true =>
  refine (XL_all (T := T) (b := 0) (hd := H164_4) (x := L164_4) x.slots.zipIdx (fun p => slotOk x.slots p.2 p.1) (fun i => ⟨[(1, .ptr 0 0 0), (19, .ro 2 (x.slots.map slt)), (20, .int .i64 x.slots.length), (21, .int .i64 (i : Nat))], [some (3, [.agg [.bool true, .ro 2 (x.slots.map slt), .str x.text]])]⟩)
    (fun r => r.1 = .exit 0 ∧ lookA r.2.env 1 = .ptr 0 0 0 ∧ r.2.mem = [some (3, [.agg [.bool true, .ro 2 (x.slots.map slt), .str x.text]])]) (fun r => r.1 = .ret ∧ lookA r.2.env 2 = .bool false) ?step ?hit ?last).elim ?main
  case step =>
    rintro i ⟨s, j⟩ hp hi hP _
    obtain ⟨hp, hj⟩ := zip_at hp
    simp only at hp hj hP; subst hj
    rw [List.length_zipIdx] at hi
    have hi1 : (j : Int) < (x.slots.length : Int) := by omega
    have gp : (x.slots.map slt).getD j .undef = .agg [.str s.name, .int .i64 s.ino] := gD_map hp
    have hs := hk3 s (List.mem_of_getElem? hp)
    have e1 := e169 s.name hs
    have e2 := e133 x s.name hk1
    unfold blk at e2
    rw [hd] at e2
    simp only [slotOk] at hP
    cases hb : bare s with
    | true =>
      simp only [bare, Bool.and_eq_true, decide_eq_true_eq] at hb
      obtain ⟨b1, b2⟩ := hb
      simp only [XG, L164_4, h164_4, go_sem, seval, bnd_ite, hi1, gp, b1, b2, Int.natCast_nonneg, w_i64 ((j : Int) + 1) (by omega), e87i, decide_true, Bool.and_self, if_true]
      first | done | rfl
    | false =>
      rw [hb, Bool.false_or, Bool.and_eq_true, Bool.and_eq_true] at hP
      obtain ⟨⟨p1, p2⟩, p3⟩ := hP
      have p4 := (slotOf_at hp (nameOk_ne p1)).2 p3
      simp only [bare] at hb
      have e3 := e167 s.ino
      simp only [XG, L164_4, h164_4, go_sem, seval, bnd_ite, hi1, gp, e1, e2, e3, hb, p1, p2, p4, Int.natCast_nonneg, w_i64 ((j : Int) + 1) (by omega), decide_true, Bool.not_true, Bool.or_self, Bool.and_self, Bool.false_eq_true, if_false]
      first | done | rfl
  case hit =>
    rintro i ⟨s, j⟩ hp hi hP _
    obtain ⟨hp, hj⟩ := zip_at hp
    simp only at hp hj hP; subst hj
    rw [List.length_zipIdx] at hi
    have hi1 : (j : Int) < (x.slots.length : Int) := by omega
    have gp : (x.slots.map slt).getD j .undef = .agg [.str s.name, .int .i64 s.ino] := gD_map hp
    have hs := hk3 s (List.mem_of_getElem? hp)
    have e1 := e169 s.name hs
    have e2 := e133 x s.name hk1
    unfold blk at e2
    rw [hd] at e2
    have e3 := e167 s.ino
    simp only [slotOk, Bool.or_eq_false_iff] at hP
    obtain ⟨hb, hP⟩ := hP
    simp only [bare] at hb
    have hf : (!nameOk s.name || !inside s.ino 1 8 || !decide (slotOf x.slots s.name = (j : Nat))) = true := by
      cases p1 : nameOk s.name with
      | false => rfl
      | true =>
        have p4 := slotOf_at hp (nameOk_ne p1)
        rw [p1, Bool.true_and] at hP
        cases p2 : inside s.ino 1 8 with
        | false => rfl
        | true =>
          rw [p2, Bool.true_and] at hP
          have : ¬ slotOf x.slots s.name = (j : Nat) := fun h => by rw [p4.1 h] at hP; cases hP
          simp [this]
    simp only [XG, L164_4, h164_4, go_sem, seval, bnd_ite, hi1, gp, e1, e2, e3, hb, hf, Int.natCast_nonneg, w_i64 ((j : Int) + 1) (by omega), Bool.false_eq_true, if_false, if_true]
    exact .mk (by simp) ⟨rfl, rfl⟩
  case last =>
    intro _
    simp only [XG, L164_4, h164_4, go_sem, seval, bnd_ite, List.length_zipIdx, Int.lt_irrefl, decide_false]
    exact .mk (by simp) ⟨rfl, rfl, rfl⟩
  case main =>
  rintro ⟨y, e, m⟩ ⟨k1, k2⟩
  have hs : ((0 : Nat) : Int) = 0 := rfl
  simp only [hs] at k1
  unfold blkOk
  rw [hd, if_pos rfl]
  rcases k2 with ⟨h, k2, k3⟩ | ⟨h, k2, k3⟩ <;> simp only at k2 k3 <;> subst k2
  · obtain ⟨k3, rfl⟩ := k3
    have hl : decide ((x.slots.length : Int) = 4) = decide (x.slots.length = 4) := by congr 1; apply propext; omega
    simp only [blk, F164, h164_4, go_sem, seval, bnd_ite, hd, hl, k1, k3, h, Bool.true_and, Bool.not_true, Bool.false_eq_true, if_false]
  · simp only [blk, F164, h164_4, go_sem, seval, bnd_ite, hd, k1, k3, h, Bool.false_and, Bool.not_true, Bool.false_eq_true, if_false]
end Go.Proofs.YtaaajjinpppgeaaGreatDoor
namespace Go.Proofs.YtaaajjinpppgeaaGreatDoor
open Go Go.Abs
set_option maxRecDepth 100000
theorem in221 (x : Blk) (s : Slt) (j : Nat) (hj : j ≤ x.slots.length) (hl : x.slots.length ≤ 4) :
    ∃ r, XL T 0 H152_13 L152_13 ⟨[(1, .ptr 0 0 0), (3, .int .i64 j), (4, .ptr 1 0 0), (5, .int .i64 0)], [some (3, [.agg [.bool true, .ro 2 (x.slots.map slt), .str x.text]]), some (2, [.agg [.str s.name, .int .i64 s.ino]])]⟩ = some r ∧
      (newName x.slots j s = true ∧ (r.1 = .exit 2 ∧ lookA r.2.env 1 = .ptr 0 0 0 ∧ lookA r.2.env 3 = .int .i64 j ∧ lookA r.2.env 4 = .ptr 1 0 0 ∧ r.2.mem = [some (3, [.agg [.bool true, .ro 2 (x.slots.map slt), .str x.text]]), some (2, [.agg [.str s.name, .int .i64 s.ino]])]) ∨
       newName x.slots j s = false ∧ (r.1 = .ret ∧ lookA r.2.env 2 = .bool false)) := by
  have hlt : (x.slots.take j).length = j := by rw [List.length_take]; omega
  refine XL_all (x.slots.take j) (fun q => !decide (q.name = s.name)) (fun i => ⟨[(1, .ptr 0 0 0), (3, .int .i64 j), (4, .ptr 1 0 0), (5, .int .i64 (i : Nat))], [some (3, [.agg [.bool true, .ro 2 (x.slots.map slt), .str x.text]]), some (2, [.agg [.str s.name, .int .i64 s.ino]])]⟩)
    (fun r => r.1 = .exit 2 ∧ lookA r.2.env 1 = .ptr 0 0 0 ∧ lookA r.2.env 3 = .int .i64 j ∧ lookA r.2.env 4 = .ptr 1 0 0 ∧ r.2.mem = [some (3, [.agg [.bool true, .ro 2 (x.slots.map slt), .str x.text]]), some (2, [.agg [.str s.name, .int .i64 s.ino]])])
    (fun r => r.1 = .ret ∧ lookA r.2.env 2 = .bool false) ?step ?hit ?last
  case step =>
    intro i p hp hi hP _
    rw [hlt] at hi
    rw [List.getElem?_take_of_lt hi] at hp
    have hi1 : (i : Int) < (j : Int) := by omega
    have hi2 : (i : Int) < (x.slots.length : Int) := by omega
    have gp : (x.slots.map slt).getD i .undef = .agg [.str p.name, .int .i64 p.ino] := gD_map hp
    have hP : decide (p.name = s.name) = false := by simpa using hP
    simp only [XG, L152_13, h152_13, go_sem, seval, bnd_ite, hi1, hi2, gp, hP, Int.natCast_nonneg, w_i64 ((i : Int) + 1) (by omega), Bool.false_eq_true, if_false]
    first | done | rfl
  case hit =>
    intro i p hp hi hP _
    rw [hlt] at hi
    rw [List.getElem?_take_of_lt hi] at hp
    have hi1 : (i : Int) < (j : Int) := by omega
    have hi2 : (i : Int) < (x.slots.length : Int) := by omega
    have gp : (x.slots.map slt).getD i .undef = .agg [.str p.name, .int .i64 p.ino] := gD_map hp
    have hP : decide (p.name = s.name) = true := by simpa using hP
    simp only [XG, L152_13, h152_13, go_sem, seval, bnd_ite, hi1, hi2, gp, hP, Int.natCast_nonneg, w_i64 ((i : Int) + 1) (by omega), if_true]
    exact .mk (by simp) ⟨rfl, rfl⟩
  case last =>
    intro _
    simp only [XG, L152_13, h152_13, go_sem, seval, bnd_ite, hlt, Int.lt_irrefl, decide_false]
    exact .mk (by simp) ⟨rfl, rfl, rfl, rfl, rfl⟩
theorem e152 (x : Blk) (hk : x.ok) : E T 152 [blk x] [] = some (.bool (blkOk x), []) := by
  rw [E_eq t152 (Nat.le_of_ble_eq_true rfl)]
  obtain ⟨hk1, hk2, hk3⟩ := hk
  unfold maxLen at hk1
  cases hd : x.dir with
  | false =>
    rw [blk_nil hd]
    simp only [blk, F152, h152_6, go_sem, seval, bnd_ite, hd, Bool.not_false, if_true]
    by_cases h1 : x.slots.length = 0 <;> by_cases h2 : x.text.size ≤ 16 <;> simp [h1, h2] <;> omega
  | true =>
  have hl : decide ((x.slots.length : Int) = 4) = decide (x.slots.length = 4) := by congr 1; apply propext; omega
  by_cases hc : (decide (x.slots.length = 4) && decide (x.text = ⟨#[]⟩)) = true
  case neg =>
    have hf : (!decide (x.slots.length = 4) || !decide (x.text = ⟨#[]⟩)) = true := by
      rw [← Bool.not_and, Bool.eq_false_iff.2 hc]; rfl
    have hr : blkOk x = false := by
      unfold blkOk; rw [hd, if_pos rfl, Bool.eq_false_iff.2 hc, Bool.and_false]
    simp only [blk, F152, h152_6, go_sem, seval, bnd_ite, hd, hl, hf, hr, Bool.not_true, Bool.false_eq_true, if_true, if_false]
  have hf : (!decide (x.slots.length = 4) || !decide (x.text = ⟨#[]⟩)) = false := by
    rw [← Bool.not_and, hc]; rfl
  have h2 : x.slots.length = 4 := by simp only [Bool.and_eq_true, decide_eq_true_eq] at hc; exact hc.1
  refine (XL_all (T := T) (b := 0) (hd := H152_6) (x := L152_6) x.slots.zipIdx (fun p => slotOk x.slots p.2 p.1) (fun i => ⟨[(1, .ptr 0 0 0), (3, .int .i64 (i : Nat))], [some (3, [.agg [.bool true, .ro 2 (x.slots.map slt), .str x.text]])]⟩)
    (fun r => r.1 = .exit 0) (fun r => r.1 = .ret ∧ lookA r.2.env 2 = .bool false) ?step ?hit ?last).elim ?main
  case step =>
    rintro i ⟨s, j⟩ hp hi hP _
    obtain ⟨hp, hj⟩ := zip_at hp
    simp only at hp hj hP; subst hj
    rw [List.length_zipIdx] at hi
    have hi1 : (j : Int) < (x.slots.length : Int) := by omega
    have hi2 : (j : Int) < 4 := by omega
    have gp : (x.slots.map slt).getD j .undef = .agg [.str s.name, .int .i64 s.ino] := gD_map hp
    have hs := hk3 s (List.mem_of_getElem? hp)
    have e1 := e119 s.name hs
    simp only [slotOk] at hP
    cases hb : bare s with
    | true =>
      simp only [bare] at hb
      simp only [XG, L152_6, h152_6, go_sem, seval, bnd_ite, hi1, hi2, gp, hb, Int.natCast_nonneg, w_i64 ((j : Int) + 1) (by omega), if_true]
      first | done | rfl
    | false =>
      rw [hb, Bool.false_or, Bool.and_eq_true, Bool.and_eq_true] at hP
      obtain ⟨⟨p1, p2⟩, p3⟩ := hP
      simp only [bare] at hb
      obtain ⟨⟨y, e, m⟩, k1, k2⟩ := in221 x s j (by omega) (by omega)
      rcases k2 with ⟨h, kx, k3, k4, k5, km⟩ | ⟨h, _⟩
      · simp only at kx k3 k4 k5 km; subst kx; subst km
        simp only [XG, L152_6, h152_6, h152_13, go_sem, seval, bnd_ite, hi1, hi2, gp, e1, e46i, hb, p1, p2, k1, k3, k4, k5, Int.natCast_nonneg, w_i64 ((j : Int) + 1) (by omega), Bool.not_true, Bool.or_self, Bool.false_eq_true, if_false]
        first | done | rfl
      · rw [p3] at h; cases h
  case hit =>
    rintro i ⟨s, j⟩ hp hi hP _
    obtain ⟨hp, hj⟩ := zip_at hp
    simp only at hp hj hP; subst hj
    rw [List.length_zipIdx] at hi
    have hi1 : (j : Int) < (x.slots.length : Int) := by omega
    have hi2 : (j : Int) < 4 := by omega
    have gp : (x.slots.map slt).getD j .undef = .agg [.str s.name, .int .i64 s.ino] := gD_map hp
    have hs := hk3 s (List.mem_of_getElem? hp)
    have e1 := e119 s.name hs
    simp only [slotOk, Bool.or_eq_false_iff] at hP
    obtain ⟨hb, hP⟩ := hP
    simp only [bare] at hb
    cases hf : (!nameOk s.name || !inside s.ino 1 8) with
    | true =>
      simp only [XG, L152_6, h152_6, go_sem, seval, bnd_ite, hi1, hi2, gp, e1, e46i, hb, hf, Int.natCast_nonneg, w_i64 ((j : Int) + 1) (by omega), Bool.false_eq_true, if_false, if_true]
      exact .mk (by simp) ⟨rfl, rfl⟩
    | false =>
      obtain ⟨⟨y, e, m⟩, k1, k2⟩ := in221 x s j (by omega) (by omega)
      have p3 : newName x.slots j s = false := by
        rw [← Bool.not_and, Bool.not_eq_false'] at hf
        rw [hf, Bool.true_and] at hP; exact hP
      rcases k2 with ⟨h, _⟩ | ⟨h, kx, k3⟩
      · rw [p3] at h; cases h
      · simp only at kx k3; subst kx
        simp only [XG, L152_6, h152_6, h152_13, go_sem, seval, bnd_ite, hi1, hi2, gp, e1, e46i, hb, hf, k1, k3, Int.natCast_nonneg, w_i64 ((j : Int) + 1) (by omega), Bool.false_eq_true, if_false]
        exact .mk (by simp) ⟨rfl, k3⟩
  case last =>
    intro _
    have hi2 : ¬ (x.slots.length : Int) < 4 := by omega
    simp only [XG, L152_6, h152_6, go_sem, seval, bnd_ite, List.length_zipIdx, hi2, decide_false]
    exact .mk (by simp) rfl
  case main =>
  rintro ⟨y, e, m⟩ ⟨k1, k2⟩
  have hs : ((0 : Nat) : Int) = 0 := rfl
  simp only [hs] at k1
  unfold blkOk
  rw [hd, if_pos rfl, hc, Bool.and_true]
  rcases k2 with ⟨h, k2⟩ | ⟨h, k2, k3⟩ <;> simp only at k2 <;> subst k2
  · simp only [blk, F152, h152_6, go_sem, seval, bnd_ite, hd, hl, hf, k1, h, Bool.not_true, Bool.false_eq_true, if_false]
  · simp only at k3
    simp only [blk, F152, h152_6, go_sem, seval, bnd_ite, hd, hl, hf, k1, k3, h, Bool.not_true, Bool.false_eq_true, if_false]
def dskOk (x : Dsk) : Bool := x.inos.all inoOk && (x.blks.all blkOk && ((decide (x.used.length = 16) && decide (x.taken.length = 8)) && decide (x.inos.length = 8) && decide (x.blks.length = 16)))
end Go.Proofs.YtaaajjinpppgeaaGreatDoor
namespace Go.Proofs.YtaaajjinpppgeaaGreatDoor
open Go Go.Abs
set_option maxRecDepth 100000
def dskV (x : Dsk) : List AV := [.ro 1 (x.used.map bv), .ro 1 (x.taken.map bv), .ro 3 (x.inos.map ino), .ro 3 (x.blks.map blk)]
theorem in155a (x : Dsk) (hk : x.ok) : ∃ r, XL T 0 H86_2 L86_2 ⟨[(1, .ptr 0 0 0), (8, .ro 3 (x.inos.map ino)), (9, .int .i64 x.inos.length), (10, .int .i64 0)], [some (4, [.agg (dskV x)])]⟩ = some r ∧
    (x.inos.all inoOk = true ∧ (r.1 = .exit 0 ∧ lookA r.2.env 1 = .ptr 0 0 0 ∧ r.2.mem = [some (4, [.agg (dskV x)])]) ∨ x.inos.all inoOk = false ∧ (r.1 = .ret ∧ lookA r.2.env 2 = .bool false)) := by
  have hl := hk.inos
  unfold maxLen at hl
  refine XL_all x.inos inoOk (fun i => ⟨[(1, .ptr 0 0 0), (8, .ro 3 (x.inos.map ino)), (9, .int .i64 x.inos.length), (10, .int .i64 (i : Nat))], [some (4, [.agg (dskV x)])]⟩) (fun r => r.1 = .exit 0 ∧ lookA r.2.env 1 = .ptr 0 0 0 ∧ r.2.mem = [some (4, [.agg (dskV x)])]) (fun r => r.1 = .ret ∧ lookA r.2.env 2 = .bool false) ?step ?hit ?last
  case step =>
    intro i p hp hi hP _
    have hi1 : (i : Int) < (x.inos.length : Int) := by omega
    have gp : (x.inos.map ino).getD i .undef = .agg [.int .i64 p.kind, .int .i64 p.links, .ro 1 (p.ptrs.map iv)] := gD_map hp
    have e1 := e163 p (hk.ino p (List.mem_of_getElem? hp))
    unfold ino at e1
    unfold dskV
    simp only [XG, L86_2, h86_2, go_sem, seval, bnd_ite, hi1, gp, e1, hP, Int.natCast_nonneg, w_i64 ((i : Int) + 1) (by omega), Bool.not_true, Bool.false_eq_true, if_false]
    first | done | rfl
  case hit =>
    intro i p hp hi hP _
    have hi1 : (i : Int) < (x.inos.length : Int) := by omega
    have gp : (x.inos.map ino).getD i .undef = .agg [.int .i64 p.kind, .int .i64 p.links, .ro 1 (p.ptrs.map iv)] := gD_map hp
    have e1 := e163 p (hk.ino p (List.mem_of_getElem? hp))
    unfold ino at e1
    unfold dskV
    simp only [XG, L86_2, h86_2, go_sem, seval, bnd_ite, hi1, gp, e1, hP, Int.natCast_nonneg, w_i64 ((i : Int) + 1) (by omega), Bool.not_false, if_true]
    exact .mk (by simp) ⟨rfl, rfl⟩
  case last =>
    intro _
    unfold dskV
    simp only [XG, L86_2, h86_2, go_sem, seval, bnd_ite, Int.lt_irrefl, decide_false]
    exact .mk (by simp) ⟨rfl, rfl, rfl⟩
theorem in155b (x : Dsk) (hk : x.ok) : ∃ r, XL T 0 H86_9 L86_9 ⟨[(1, .ptr 0 0 0), (19, .ro 3 (x.blks.map blk)), (20, .int .i64 x.blks.length), (21, .int .i64 0)], [some (4, [.agg (dskV x)])]⟩ = some r ∧
    (x.blks.all blkOk = true ∧ (r.1 = .exit 2 ∧ lookA r.2.env 1 = .ptr 0 0 0 ∧ r.2.mem = [some (4, [.agg (dskV x)])]) ∨ x.blks.all blkOk = false ∧ (r.1 = .ret ∧ lookA r.2.env 2 = .bool false)) := by
  have hl := hk.blks
  unfold maxLen at hl
  refine XL_all x.blks blkOk (fun i => ⟨[(1, .ptr 0 0 0), (19, .ro 3 (x.blks.map blk)), (20, .int .i64 x.blks.length), (21, .int .i64 (i : Nat))], [some (4, [.agg (dskV x)])]⟩) (fun r => r.1 = .exit 2 ∧ lookA r.2.env 1 = .ptr 0 0 0 ∧ r.2.mem = [some (4, [.agg (dskV x)])]) (fun r => r.1 = .ret ∧ lookA r.2.env 2 = .bool false) ?step ?hit ?last
  case step =>
    intro i p hp hi hP _
    have hi1 : (i : Int) < (x.blks.length : Int) := by omega
    have gp : (x.blks.map blk).getD i .undef = .agg [.bool p.dir, .ro 2 (p.slots.map slt), .str p.text] := gD_map hp
    have e1 := e164 p (hk.blk p (List.mem_of_getElem? hp))
    unfold blk at e1
    unfold dskV
    simp only [XG, L86_9, h86_9, go_sem, seval, bnd_ite, hi1, gp, e1, hP, Int.natCast_nonneg, w_i64 ((i : Int) + 1) (by omega), Bool.not_true, Bool.false_eq_true, if_false]
    first | done | rfl
  case hit =>
    intro i p hp hi hP _
    have hi1 : (i : Int) < (x.blks.length : Int) := by omega
    have gp : (x.blks.map blk).getD i .undef = .agg [.bool p.dir, .ro 2 (p.slots.map slt), .str p.text] := gD_map hp
    have e1 := e164 p (hk.blk p (List.mem_of_getElem? hp))
    unfold blk at e1
    unfold dskV
    simp only [XG, L86_9, h86_9, go_sem, seval, bnd_ite, hi1, gp, e1, hP, Int.natCast_nonneg, w_i64 ((i : Int) + 1) (by omega), Bool.not_false, if_true]
    exact .mk (by simp) ⟨rfl, rfl⟩
  case last =>
    intro _
    unfold dskV
    simp only [XG, L86_9, h86_9, go_sem, seval, bnd_ite, Int.lt_irrefl, decide_false]
    exact .mk (by simp) ⟨rfl, rfl, rfl⟩
theorem e86 (x : Dsk) (hk : x.ok) : E T 86 [dsk x] [] = some (.bool (dskOk x), []) := by
  rw [E_eq t86 (Nat.le_of_ble_eq_true rfl)]
  have c1 : decide ((x.inos.length : Int) = 8) = decide (x.inos.length = 8) := by congr 1; apply propext; omega
  have c2 : decide ((x.blks.length : Int) = 16) = decide (x.blks.length = 16) := by congr 1; apply propext; omega
  obtain ⟨⟨y, e, m⟩, k1, k2⟩ := in155a x hk
  unfold dskOk
  unfold dskV at k1 k2
  rcases k2 with ⟨h, kx, k3, km⟩ | ⟨h, kx, k3⟩
  · simp only at kx k3 km; subst kx; subst km
    obtain ⟨⟨y, e', m⟩, k4, k5⟩ := in155b x hk
    unfold dskV at k4 k5
    rcases k5 with ⟨h', kx, k6, km⟩ | ⟨h', kx, k6⟩
    · simp only at kx k6 km; subst kx; subst km
      have e0 := e165 x.used x.taken
      simp only [dsk, F86, h86_2, h86_9, go_sem, seval, bnd_ite, k1, k3, k4, k6, h, h', c1, c2, e0, Bool.true_and]
    · simp only at kx k6; subst kx
      simp only [dsk, F86, h86_2, h86_9, go_sem, seval, bnd_ite, k1, k3, k4, k6, h, h', Bool.false_and, Bool.and_false]
  · simp only at kx k3; subst kx
    simp only [dsk, F86, h86_2, go_sem, seval, bnd_ite, k1, k3, h, Bool.false_and]
theorem in153a (x : Dsk) (hk : x.ok) : ∃ r, XL T 0 H73_4 L73_4 ⟨[(1, .ptr 0 0 0), (3, .int .i64 0)], [some (4, [.agg (dskV x)])]⟩ = some r ∧
    (x.inos.all inoOk = true ∧ (r.1 = .exit 0 ∧ lookA r.2.env 1 = .ptr 0 0 0 ∧ r.2.mem = [some (4, [.agg (dskV x)])]) ∨ x.inos.all inoOk = false ∧ (r.1 = .ret ∧ lookA r.2.env 2 = .bool false)) := by
  have hl := hk.inos
  unfold maxLen at hl
  refine XL_all x.inos inoOk (fun i => ⟨[(1, .ptr 0 0 0), (3, .int .i64 (i : Nat))], [some (4, [.agg (dskV x)])]⟩) (fun r => r.1 = .exit 0 ∧ lookA r.2.env 1 = .ptr 0 0 0 ∧ r.2.mem = [some (4, [.agg (dskV x)])]) (fun r => r.1 = .ret ∧ lookA r.2.env 2 = .bool false) ?step ?hit ?last
  case step =>
    intro i p hp hi hP _
    have hi1 : (i : Int) < (x.inos.length : Int) := by omega
    have gp : (x.inos.map ino).getD i .undef = .agg [.int .i64 p.kind, .int .i64 p.links, .ro 1 (p.ptrs.map iv)] := gD_map hp
    have e1 := e151 p (hk.ino p (List.mem_of_getElem? hp))
    unfold ino at e1
    unfold dskV
    simp only [XG, L73_4, h73_4, go_sem, seval, bnd_ite, hi1, gp, e1, hP, Int.natCast_nonneg, w_i64 ((i : Int) + 1) (by omega), Bool.not_true, Bool.false_eq_true, if_false]
    first | done | rfl
  case hit =>
    intro i p hp hi hP _
    have hi1 : (i : Int) < (x.inos.length : Int) := by omega
    have gp : (x.inos.map ino).getD i .undef = .agg [.int .i64 p.kind, .int .i64 p.links, .ro 1 (p.ptrs.map iv)] := gD_map hp
    have e1 := e151 p (hk.ino p (List.mem_of_getElem? hp))
    unfold ino at e1
    unfold dskV
    simp only [XG, L73_4, h73_4, go_sem, seval, bnd_ite, hi1, gp, e1, hP, Int.natCast_nonneg, w_i64 ((i : Int) + 1) (by omega), Bool.not_false, if_true]
    exact .mk (by simp) ⟨rfl, rfl⟩
  case last =>
    intro _
    unfold dskV
    simp only [XG, L73_4, h73_4, go_sem, seval, bnd_ite, Int.lt_irrefl, decide_false]
    exact .mk (by simp) ⟨rfl, rfl, rfl⟩
theorem in153b (x : Dsk) (hk : x.ok) : ∃ r, XL T 0 H73_10 L73_10 ⟨[(1, .ptr 0 0 0), (4, .int .i64 0)], [some (4, [.agg (dskV x)])]⟩ = some r ∧
    (x.blks.all blkOk = true ∧ (r.1 = .exit 2) ∨ x.blks.all blkOk = false ∧ (r.1 = .ret ∧ lookA r.2.env 2 = .bool false)) := by
  have hl := hk.blks
  unfold maxLen at hl
  refine XL_all x.blks blkOk (fun i => ⟨[(1, .ptr 0 0 0), (4, .int .i64 (i : Nat))], [some (4, [.agg (dskV x)])]⟩) (fun r => r.1 = .exit 2) (fun r => r.1 = .ret ∧ lookA r.2.env 2 = .bool false) ?step ?hit ?last
  case step =>
    intro i p hp hi hP _
    have hi1 : (i : Int) < (x.blks.length : Int) := by omega
    have gp : (x.blks.map blk).getD i .undef = .agg [.bool p.dir, .ro 2 (p.slots.map slt), .str p.text] := gD_map hp
    have e1 := e152 p (hk.blk p (List.mem_of_getElem? hp))
    unfold blk at e1
    unfold dskV
    simp only [XG, L73_10, h73_10, go_sem, seval, bnd_ite, hi1, gp, e1, hP, Int.natCast_nonneg, w_i64 ((i : Int) + 1) (by omega), Bool.not_true, Bool.false_eq_true, if_false]
    first | done | rfl
  case hit =>
    intro i p hp hi hP _
    have hi1 : (i : Int) < (x.blks.length : Int) := by omega
    have gp : (x.blks.map blk).getD i .undef = .agg [.bool p.dir, .ro 2 (p.slots.map slt), .str p.text] := gD_map hp
    have e1 := e152 p (hk.blk p (List.mem_of_getElem? hp))
    unfold blk at e1
    unfold dskV
    simp only [XG, L73_10, h73_10, go_sem, seval, bnd_ite, hi1, gp, e1, hP, Int.natCast_nonneg, w_i64 ((i : Int) + 1) (by omega), Bool.not_false, if_true]
    exact .mk (by simp) ⟨rfl, rfl⟩
  case last =>
    intro _
    unfold dskV
    simp only [XG, L73_10, h73_10, go_sem, seval, bnd_ite, Int.lt_irrefl, decide_false]
    exact .mk (by simp) rfl
theorem e73 (x : Dsk) (hk : x.ok) : E T 73 [dsk x] [] = some (.bool (dskOk x), []) := by
  rw [E_eq t73 (Nat.le_of_ble_eq_true rfl)]
  have c1 : decide ((x.inos.length : Int) = 8) = decide (x.inos.length = 8) := by congr 1; apply propext; omega
  have c2 : decide ((x.blks.length : Int) = 16) = decide (x.blks.length = 16) := by congr 1; apply propext; omega
  have e0 := e150 x.used x.taken
  by_cases hc : (((decide (x.used.length = 16) && decide (x.taken.length = 8)) && decide (x.inos.length = 8) && decide (x.blks.length = 16))) = true
  case neg =>
    have hr : dskOk x = false := by unfold dskOk; rw [Bool.eq_false_iff.2 hc, Bool.and_false, Bool.and_false]
    have hf : (!(decide (x.used.length = 16) && decide (x.taken.length = 8)) || !decide (x.inos.length = 8) || !decide (x.blks.length = 16)) = true := by
      rw [← Bool.not_and, ← Bool.not_and, Bool.eq_false_iff.2 hc]; rfl
    simp only [dsk, F73, h73_4, go_sem, seval, bnd_ite, e0, c1, c2, hf, hr, if_true]
  have hf : (!(decide (x.used.length = 16) && decide (x.taken.length = 8)) || !decide (x.inos.length = 8) || !decide (x.blks.length = 16)) = false := by
    rw [← Bool.not_and, ← Bool.not_and, hc]; rfl
  obtain ⟨⟨y, e, m⟩, k1, k2⟩ := in153a x hk
  unfold dskOk
  rw [hc, Bool.and_true]
  unfold dskV at k1 k2
  rcases k2 with ⟨h, kx, k3, km⟩ | ⟨h, kx, k3⟩
  · simp only at kx k3 km; subst kx; subst km
    obtain ⟨⟨y, e', m⟩, k4, k5⟩ := in153b x hk
    unfold dskV at k4
    rcases k5 with ⟨h', kx⟩ | ⟨h', kx, k6⟩
    · simp only at kx; subst kx
      simp only [dsk, F73, h73_4, h73_10, go_sem, seval, bnd_ite, k1, k3, k4, h, h', e0, c1, c2, hf, Bool.true_and, Bool.false_eq_true, if_false]
    · simp only at kx k6; subst kx
      simp only [dsk, F73, h73_4, h73_10, go_sem, seval, bnd_ite, k1, k3, k4, k6, h, h', e0, c1, c2, hf, Bool.and_false, Bool.false_eq_true, if_false]
  · simp only at kx k3; subst kx
    simp only [dsk, F73, h73_4, go_sem, seval, bnd_ite, k1, k3, h, e0, c1, c2, hf, Bool.false_and, Bool.false_eq_true, if_false]
end Go.Proofs.YtaaajjinpppgeaaGreatDoor
namespace Go.Proofs.YtaaajjinpppgeaaGreatDoor
open Go Go.Abs
set_option maxRecDepth 100000
def ino0 : Ino := ⟨0, 0, []⟩
theorem getD_at {α : Type} {l : List α} {i : Nat} {p z : α} (h : l[i]? = some p) : l.getD i z = p := by simp [List.getD, h]
theorem e59n (x : Dsk) (i : Int) (hc : inside i 1 x.inos.length = false) : E T 59 [dsk x, .int .i64 i] [] = some (ino ino0, []) := by
  rw [E_eqW t59 (Nat.le_of_ble_eq_true rfl)]
  simp only [dsk, F59, go_sem, seval, bnd_ite, e87i, hc, ino, ino0, List.map_nil]
theorem e59 (x : Dsk) (i : Int) (hl : x.inos.length ≤ 1048576) (hc : inside i 1 x.inos.length = true) (p : Ino) (hp : x.inos[(i - 1).toNat]? = some p) : E T 59 [dsk x, .int .i64 i] [] = some (ino p, []) := by
  rw [E_eqW t59 (Nat.le_of_ble_eq_true rfl)]
  have hc' := hc
  simp only [inside, Bool.and_eq_true, decide_eq_true_eq] at hc'
  have gp : (x.inos.map ino).getD (i - 1).toNat .undef = .agg [.int .i64 p.kind, .int .i64 p.links, .ro 1 (p.ptrs.map iv)] := gD_map hp
  have b1 : 0 ≤ i - 1 := by omega
  have b2 : i - 1 < (x.inos.length : Int) := by omega
  simp only [dsk, F59, go_sem, seval, bnd_ite, e87i, hc, gp, b1, b2, w_i64 (i - 1) (by omega), ino]
theorem e116 (x : Dsk) (i : Int) (hl : x.blks.length ≤ 1048576) (hc : inside i 1 x.blks.length = true) (p : Blk) (hp : x.blks[(i - 1).toNat]? = some p) : E T 116 [dsk x, .int .i64 i] [] = some (.tup [blk p, .bool true], []) := by
  rw [E_eqW t116 (Nat.le_of_ble_eq_true rfl)]
  have hc' := hc
  simp only [inside, Bool.and_eq_true, decide_eq_true_eq] at hc'
  have gp : (x.blks.map blk).getD (i - 1).toNat .undef = .agg [.bool p.dir, .ro 2 (p.slots.map slt), .str p.text] := gD_map hp
  have b1 : 0 ≤ i - 1 := by omega
  have b2 : i - 1 < (x.blks.length : Int) := by omega
  simp only [dsk, F116, go_sem, seval, bnd_ite, e46i, hc, gp, b1, b2, w_i64 (i - 1) (by omega), blk]
theorem e116n (x : Dsk) (i : Int) (hc : inside i 1 x.blks.length = false) : E T 116 [dsk x, .int .i64 i] [] = some (.tup [.agg [.bool false, .ro 2 [], .str ⟨#[]⟩], .bool false], []) := by
  rw [E_eqW t116 (Nat.le_of_ble_eq_true rfl)]
  simp only [dsk, F116, go_sem, seval, bnd_ite, e46i, hc]
end Go.Proofs.YtaaajjinpppgeaaGreatDoor
namespace Go.Proofs.YtaaajjinpppgeaaGreatDoor
open Go Go.Abs
set_option maxRecDepth 100000
def slt0 : Slt := ⟨⟨#[]⟩, 0⟩
def mmV (x : Mm) : List AV := [.ro 1 (x.disk.used.map bv), .ro 1 (x.disk.taken.map bv), .ro 3 (x.disk.inos.map ino), .ro 3 (x.disk.blks.map blk), .ro 1 (x.dirty.map bv), .ro 11 (x.deps.map dp), .int .i64 x.next]
def dpV (d : Dp) : List AV := [.int .i64 d.id, .int .i64 d.kind, .int .i64 d.ino, .int .i64 d.ptr, .int .i64 d.block, .int .i64 d.slot, .str d.name, .bool d.bits, .bool d.other, .int .i64 d.after, .ro 1 (d.blocks.map iv)]
structure DskOk (x : Dsk) : Prop where
  ino : ∀ p ∈ x.inos, inoOk p = true
  blk : ∀ p ∈ x.blks, blkOk p = true
  used : x.used.length = 16
  taken : x.taken.length = 8
  inos : x.inos.length = 8
  blks : x.blks.length = 16
theorem dskOk_iff {x : Dsk} : dskOk x = true ↔ DskOk x := by
  unfold dskOk
  simp only [Bool.and_eq_true, List.all_eq_true, decide_eq_true_eq]
  exact ⟨fun ⟨a, b, ⟨⟨c, d⟩, e⟩, f⟩ => ⟨a, b, c, d, e, f⟩, fun ⟨a, b, c, d, e, f⟩ => ⟨a, b, ⟨⟨c, d⟩, e⟩, f⟩⟩
structure InoOk (x : Ino) : Prop where
  kind : 0 ≤ x.kind ∧ x.kind ≤ 2
  links : 0 ≤ x.links ∧ x.links ≤ 200
  two : x.ptrs.length = 2
  ptr : ∀ p ∈ x.ptrs, 0 ≤ p ∧ p ≤ 16 ∧ (x.kind = 0 → p = 0)
  none : x.kind = 0 → x.links = 0
theorem inoOk_iff {x : Ino} : inoOk x = true ↔ InoOk x := by
  unfold inoOk ptrOk inside
  simp only [Bool.and_eq_true, List.all_eq_true, decide_eq_true_eq, Bool.not_eq_true', Bool.and_eq_false_iff, decide_eq_false_iff_not, Bool.or_eq_true]
  constructor
  · rintro ⟨a, ⟨⟨b, c⟩, d⟩, e⟩
    refine ⟨b, c, d, fun p hp => ?_, fun h => ?_⟩
    · have := a p hp; omega
    · omega
  · rintro ⟨b, c, d, a, e⟩
    refine ⟨fun p hp => ?_, ⟨⟨b, c⟩, d⟩, ?_⟩
    · have := a p hp; omega
    · omega
theorem blkOk_dir {x : Blk} (h : blkOk x = true) (hd : x.dir = true) : x.slots.length = 4 ∧ x.text = ⟨#[]⟩ ∧ ∀ (i : Nat) s, x.slots[i]? = some s → slotOk x.slots i s = true := by
  unfold blkOk at h
  rw [hd, if_pos rfl] at h
  simp only [Bool.and_eq_true, List.all_eq_true, decide_eq_true_eq] at h
  obtain ⟨h1, h2, h3⟩ := h
  refine ⟨h2, h3, fun i s hs => ?_⟩
  have := h1 (s, i) (List.mem_of_getElem? (i := i) (by rw [List.getElem?_zipIdx, hs]; simp))
  exact this
theorem e168 (d : Dp) : E T 168 [dp d] [] = some (.bool (decide (d.kind = 1) || decide (d.kind = 6)), []) := by
  rw [E_eq t168 (Nat.le_of_ble_eq_true rfl)]
  simp only [dp, F168, go_sem, seval, bnd_ite]
theorem e131 (d : Dp) : E T 131 [dp d] [] = some (.bool (decide (d.kind = 2) || decide (d.kind = 3)), []) := by
  rw [E_eq t131 (Nat.le_of_ble_eq_true rfl)]
  simp only [dp, F131, go_sem, seval, bnd_ite]
theorem e171 (d : Dp) (n : Int) : E T 171 [dp d, .rop [.int .i64 n]] [] = some (.bool (decide (d.id = n)), []) := by
  rw [E_eq t171 (Nat.le_of_ble_eq_true rfl)]
  simp only [dp, F171, go_sem, seval, bnd_ite]
def placeOf (l : List Dp) (n : Int) : Int := match l.findIdx? (fun d => decide (d.id = n)) with | some i => (i : Nat) | none => -1
theorem e170 (l : List Dp) (n : Int) (hl : l.length ≤ maxLen) : E T 170 [.ro 11 (l.map dp), .fn 171 [.rop [.int .i64 n]]] [] = some (.int .i64 (placeOf l n), []) := by
  rw [E_eq t170 (Nat.le_of_ble_eq_true rfl)]
  unfold maxLen at hl
  unfold placeOf
  refine (XL_find (T := T) (b := 0) (hd := H170_2) (x := L170_2) l (fun d => decide (d.id = n)) (fun i => ⟨[(0, .ro 11 (l.map dp)), (1, .fn 171 [.rop [.int .i64 n]]), (7, .int .i64 l.length), (8, .int .i64 (i : Nat))], []⟩)
    (fun o r => match o with | some i => r.1 = .ret ∧ lookA r.2.env 4 = .int .i64 (i : Nat) | none => r.1 = .exit 0) ?step ?hit ?last).elim ?main
  case step =>
    intro i d hp hi hP _
    have hi1 : (i : Int) < (l.length : Int) := by omega
    have gp : (l.map dp).getD i .undef = .agg (dpV d) := gD_map hp
    have e1 : E T 171 [.agg (dpV d), .rop [.int .i64 n]] [] = some (.bool (decide (d.id = n)), []) := e171 d n
    unfold dpV at gp e1
    simp only [XG, L170_2, h170_2, go_sem, seval, bnd_ite, hi1, gp, Int.natCast_nonneg, w_i64 ((i : Int) + 1) (by omega), e1, hP, Bool.false_eq_true, if_false]
    rfl
  case hit =>
    intro i d hp hi hP _
    have hi1 : (i : Int) < (l.length : Int) := by omega
    have gp : (l.map dp).getD i .undef = .agg (dpV d) := gD_map hp
    have e1 : E T 171 [.agg (dpV d), .rop [.int .i64 n]] [] = some (.bool (decide (d.id = n)), []) := e171 d n
    unfold dpV at gp e1
    simp only [XG, L170_2, h170_2, go_sem, seval, bnd_ite, hi1, gp, Int.natCast_nonneg, w_i64 ((i : Int) + 1) (by omega), e1, hP, if_true]
    exact .mk (by simp) ⟨rfl, rfl⟩
  case last =>
    intro _
    simp only [XG, L170_2, h170_2, go_sem, seval, bnd_ite, Int.lt_irrefl, decide_false]
    exact .mk (by simp) rfl
  case main =>
  rintro ⟨y, e, m⟩ ⟨k1, k2⟩
  have hs : ((0 : Nat) : Int) = 0 := rfl
  simp only [hs] at k1
  split at k2
  · rename_i o i heq
    obtain ⟨k2, k3⟩ := k2
    simp only at k2 k3; subst k2
    simp only [F170, h170_2, go_sem, seval, bnd_ite, k1, k3, heq]
  · rename_i o heq
    simp only at k2; subst k2
    simp only [F170, h170_2, go_sem, seval, bnd_ite, k1, heq]
theorem e89 (x : Mm) (n : Int) (hl : x.deps.length ≤ maxLen) : E T 89 [mm x, .int .i64 n] [] = some (.int .i64 (placeOf x.deps n), []) := by
  rw [E_eq t89 (Nat.le_of_ble_eq_true rfl)]
  have e1 := e170 x.deps n hl
  simp only [mm, F89, go_sem, seval, bnd_ite, e1]
def newId (l : List Dp) (i : Nat) (d : Dp) : Bool := (l.take i).all fun q => !decide (q.id = d.id)
theorem placeOf_at {l : List Dp} {i : Nat} {d : Dp} (h : l[i]? = some d) : placeOf l d.id = (i : Nat) ↔ newId l i d = true := by
  unfold placeOf newId
  obtain ⟨hi, rfl⟩ := List.getElem?_eq_some_iff.1 h
  cases e : l.findIdx? (fun x => decide (x.id = l[i].id)) with
  | none =>
    rw [find_none] at e
    have := e l[i] (List.getElem_mem hi)
    simp at this
  | some j =>
    rw [List.findIdx?_eq_some_iff_getElem] at e
    obtain ⟨hj, h1, h2⟩ := e
    simp only [decide_eq_true_eq] at h1
    constructor
    · intro hij
      have hij : ((j : Nat) : Int) = (i : Nat) := hij
      have : j = i := by omega
      subst this
      rw [List.all_eq_true]
      intro q hq
      obtain ⟨k, hk, rfl⟩ := List.mem_take_iff_getElem.1 hq
      have := h2 k (by omega)
      simpa using this
    · intro hall
      rw [List.all_eq_true] at hall
      by_cases c : j < i
      · have := hall l[j] (List.mem_take_iff_getElem.2 ⟨j, by omega, rfl⟩)
        simp [h1] at this
      · by_cases c2 : i < j
        · have := h2 i c2; simp at this
        · have : j = i := by omega
          rw [this]
def depBase (n : Int) (d : Dp) : Bool := inside d.id 1 (n - 1) && inside d.kind 1 6 && inside d.ino 1 8 && inside d.ptr 0 1 && inside d.block 0 16 && inside d.slot 0 3 && inside d.after 0 (n - 1)
def depBlocks (d : Dp) : Bool := d.blocks.all fun p => inside p 1 16
def blkAt (x : Dsk) (i : Int) : Blk := x.blks.getD (i - 1).toNat blk0
def inoAt (x : Dsk) (i : Int) : Ino := x.inos.getD (i - 1).toNat ino0
def depAt (x : Dsk) (d : Dp) : Bool :=
  if d.kind = 1 ∨ d.kind = 6 then decide (0 < d.block) && decide ((inoAt x d.ino).ptrs.getD d.ptr.toNat 0 = d.block)
  else if d.kind = 2 ∨ d.kind = 3 then decide (0 < d.block) && (blkAt x d.block).dir && decide (((blkAt x d.block).slots.getD d.slot.toNat slt0).ino = d.ino)
  else if d.kind = 4 then decide (0 < d.block) && (blkAt x d.block).dir && nameOk d.name
  else true
end Go.Proofs.YtaaajjinpppgeaaGreatDoor
namespace Go.Proofs.YtaaajjinpppgeaaGreatDoor
open Go Go.Abs
set_option maxRecDepth 100000
theorem blkAt_eq {x : Dsk} {i : Int} {p : Blk} (h : x.blks[(i - 1).toNat]? = some p) : blkAt x i = p := by unfold blkAt; rw [List.getD_eq_getElem?_getD, h]; rfl
theorem inoAt_eq {x : Dsk} {i : Int} {p : Ino} (h : x.inos[(i - 1).toNat]? = some p) : inoAt x i = p := by unfold inoAt; rw [List.getD_eq_getElem?_getD, h]; rfl
structure DepBase (n : Int) (d : Dp) : Prop where
  id : 1 ≤ d.id ∧ d.id ≤ n - 1
  kind : 1 ≤ d.kind ∧ d.kind ≤ 6
  ino : 1 ≤ d.ino ∧ d.ino ≤ 8
  ptr : 0 ≤ d.ptr ∧ d.ptr ≤ 1
  block : 0 ≤ d.block ∧ d.block ≤ 16
  slot : 0 ≤ d.slot ∧ d.slot ≤ 3
  after : 0 ≤ d.after ∧ d.after ≤ n - 1
theorem depBase_iff {n : Int} {d : Dp} : depBase n d = true ↔ DepBase n d := by
  unfold depBase inside
  simp only [Bool.and_eq_true, decide_eq_true_eq]
  exact ⟨fun ⟨⟨⟨⟨⟨⟨a, b⟩, c⟩, d⟩, e⟩, f⟩, g⟩ => ⟨a, b, c, d, e, f, g⟩, fun ⟨a, b, c, d, e, f, g⟩ => ⟨⟨⟨⟨⟨⟨a, b⟩, c⟩, d⟩, e⟩, f⟩, g⟩⟩
theorem in156 (x : Mm) (d : Dp) (hk : d.ok) : ∃ r, XL T 0 H88_2 L88_2 ⟨[(2, .ptr 0 0 0), (3, .ptr 1 0 0), (10, .ro 1 (d.blocks.map iv)), (11, .int .i64 d.blocks.length), (12, .int .i64 0)], [some (7, [.agg (mmV x)]), some (11, [.agg (dpV d)])]⟩ = some r ∧
    (depBlocks d = true ∧ (r.1 = .exit 0 ∧ lookA r.2.env 2 = .ptr 0 0 0 ∧ lookA r.2.env 3 = .ptr 1 0 0 ∧ r.2.mem = [some (7, [.agg (mmV x)]), some (11, [.agg (dpV d)])]) ∨ depBlocks d = false ∧ (r.1 = .ret ∧ lookA r.2.env 4 = .bool false)) := by
  have hl := hk.2
  unfold maxLen at hl
  refine XL_all d.blocks (fun p => inside p 1 16) (fun i => ⟨[(2, .ptr 0 0 0), (3, .ptr 1 0 0), (10, .ro 1 (d.blocks.map iv)), (11, .int .i64 d.blocks.length), (12, .int .i64 (i : Nat))], [some (7, [.agg (mmV x)]), some (11, [.agg (dpV d)])]⟩)
    (fun r => r.1 = .exit 0 ∧ lookA r.2.env 2 = .ptr 0 0 0 ∧ lookA r.2.env 3 = .ptr 1 0 0 ∧ r.2.mem = [some (7, [.agg (mmV x)]), some (11, [.agg (dpV d)])]) (fun r => r.1 = .ret ∧ lookA r.2.env 4 = .bool false) ?step ?hit ?last
  case step =>
    intro i p hp hi hP _
    have hi1 : (i : Int) < (d.blocks.length : Int) := by omega
    have gp : (d.blocks.map iv).getD i .undef = .int .i64 p := gD_map hp
    have e1 := e166 p
    unfold mmV dpV
    simp only [XG, L88_2, h88_2, go_sem, seval, bnd_ite, hi1, gp, e1, hP, Int.natCast_nonneg, w_i64 ((i : Int) + 1) (by omega), Bool.not_true, Bool.false_eq_true, if_false]
    first | done | rfl
  case hit =>
    intro i p hp hi hP _
    have hi1 : (i : Int) < (d.blocks.length : Int) := by omega
    have gp : (d.blocks.map iv).getD i .undef = .int .i64 p := gD_map hp
    have e1 := e166 p
    unfold mmV dpV
    simp only [XG, L88_2, h88_2, go_sem, seval, bnd_ite, hi1, gp, e1, hP, Int.natCast_nonneg, w_i64 ((i : Int) + 1) (by omega), Bool.not_false, if_true]
    exact .mk (by simp) ⟨rfl, rfl⟩
  case last =>
    intro _
    unfold mmV dpV
    simp only [XG, L88_2, h88_2, go_sem, seval, bnd_ite, Int.lt_irrefl, decide_false]
    exact .mk (by simp) ⟨rfl, rfl, rfl, rfl⟩
set_option maxHeartbeats 1000000 in
theorem e88 (x : Mm) (d : Dp) (hk : d.ok) (hx : x.ok) (hd : DskOk x.disk) (hn : 1 ≤ x.next ∧ x.next ≤ 100000) : E T 88 [mm x, dp d] [] = some (.bool (depBlocks d && (depBase x.next d && depAt x.disk d)), []) := by
  rw [E_eq t88 (Nat.le_of_ble_eq_true rfl)]
  obtain ⟨⟨y, e, m⟩, k1, k2⟩ := in156 x d hk
  unfold mmV dpV at k1 k2
  rcases k2 with ⟨hb, kx, k3, k4, km⟩ | ⟨hb, kx, k3⟩
  case inr =>
    simp only at kx k3; subst kx
    simp only [mm, dp, F88, h88_2, go_sem, seval, bnd_ite, k1, k3, hb, Bool.false_and]
  simp only at kx k3 k4 km; subst kx; subst km
  have w1 := w_i64 (x.next - 1) (by omega)
  have i7 := e167 d.ino
  rw [hb, Bool.true_and]
  by_cases hc : depBase x.next d = true
  case neg =>
    have hc : depBase x.next d = false := Bool.eq_false_iff.2 hc
    have hf : (!(inside d.id 1 (x.next - 1) && inside d.after 0 (x.next - 1)) || !inside d.kind 1 6 || !inside d.ino 1 8 || !inside d.ptr 0 1 || !inside d.block 0 16 || !inside d.slot 0 3) = true := by
      unfold depBase at hc
      rw [← Bool.not_and, ← Bool.not_and, ← Bool.not_and, ← Bool.not_and, ← Bool.not_and, Bool.not_eq_true', ← hc]
      cases inside d.id 1 (x.next - 1) <;> cases inside d.after 0 (x.next - 1) <;> simp
    simp only [mm, dp, F88, h88_2, go_sem, seval, bnd_ite, k1, k3, k4, w1, e87i, i7, hf, hc, if_true, Bool.false_and]
  have hf : (!(inside d.id 1 (x.next - 1) && inside d.after 0 (x.next - 1)) || !inside d.kind 1 6 || !inside d.ino 1 8 || !inside d.ptr 0 1 || !inside d.block 0 16 || !inside d.slot 0 3) = false := by
    have h2 := hc
    unfold depBase at h2
    simp only [Bool.and_eq_true] at h2
    obtain ⟨⟨⟨⟨⟨⟨a, b⟩, c⟩, dd⟩, ee⟩, f⟩, g⟩ := h2
    rw [a, b, c, dd, ee, f, g]; rfl
  have B := depBase_iff.1 hc
  obtain ⟨b1, b2, b3, b4, b5, b6, b7⟩ := B
  have n1 := hd.inos
  have n2 := hd.blks
  obtain ⟨p, hp⟩ := get_at (show (d.ino - 1).toNat < x.disk.inos.length by omega)
  have ip := e59 x.disk d.ino (by omega) (by simp [inside]; omega) p hp
  have hpo := inoOk_iff.1 (hd.ino p (List.mem_of_getElem? hp))
  have ptwo := hpo.two
  have q6 := e168 d
  have q7 := e131 d
  have qn := e169 d.name hk.1
  have ai := inoAt_eq hp
  have blkO : ∃ B : AV, E T 134 [dsk x.disk, .int .i64 d.block] [] = some (B, []) ∧ (B = .agg [.bool false, .ro 2 [], .str ⟨#[]⟩] ∧ d.block = 0 ∨ ∃ b : Blk, B = blk b ∧ 0 < d.block ∧ x.disk.blks[(d.block - 1).toNat]? = some b) := by
    by_cases c : d.block = 0
    · exact ⟨_, e134n x.disk d.block (by simp [inside, c]), .inl ⟨rfl, c⟩⟩
    · obtain ⟨b, hb⟩ := get_at (show (d.block - 1).toNat < x.disk.blks.length by omega)
      exact ⟨_, e134 x.disk d.block (by omega) (by simp [inside]; omega) b hb, .inr ⟨b, rfl, by omega, hb⟩⟩
  obtain ⟨p0, hp0⟩ := get_at (show d.ptr.toNat < p.ptrs.length by omega)
  have gp0 : (p.ptrs.map iv).getD d.ptr.toNat .undef = .int .i64 p0 := gD_map hp0
  have c4 : d.ptr < (p.ptrs.length : Int) := by omega
  have c6 : 0 ≤ d.ptr := by omega
  have gd0 : p.ptrs.getD d.ptr.toNat 0 = p0 := getD_at hp0
  rw [hc, Bool.true_and]
  unfold depAt
  rw [ai, gd0]
  rw [show ino p = .agg [.int .i64 p.kind, .int .i64 p.links, .ro 1 (p.ptrs.map iv)] from rfl] at ip
  unfold dsk at ip
  unfold dp at q6 q7
  obtain ⟨B, hB, hB2⟩ := blkO
  unfold dsk at hB
  rcases hB2 with ⟨rfl, h0⟩ | ⟨b, rfl, h0, hb0⟩
  · -- no block
    have hz : ¬ 0 < d.block := by omega
    by_cases t1 : d.kind = 1 ∨ d.kind = 6
    · have u1 : (decide (d.kind = 1) || decide (d.kind = 6)) = true := by simpa using t1
      simp only [mm, dp, F88, h88_2, go_sem, seval, bnd_ite, k1, k3, k4, w1, e87i, i7, hf, hB, q6, u1, hz, t1, if_true, Bool.false_and, decide_false, Bool.false_eq_true, if_false]
    have u1 : (decide (d.kind = 1) || decide (d.kind = 6)) = false := by simpa using t1
    by_cases t2 : d.kind = 2 ∨ d.kind = 3
    · have u2 : (decide (d.kind = 2) || decide (d.kind = 3)) = true := by simpa using t2
      simp only [mm, dp, F88, h88_2, go_sem, seval, bnd_ite, k1, k3, k4, w1, e87i, i7, hf, hB, q6, q7, u1, u2, hz, t1, t2, if_true, Bool.false_and, decide_false, Bool.false_eq_true, if_false]
    have u2 : (decide (d.kind = 2) || decide (d.kind = 3)) = false := by simpa using t2
    rw [if_neg t1, if_neg t2]
    by_cases t3 : d.kind = 4
    · rw [if_pos t3]
      have t3 : decide (d.kind = 4) = true := by simpa using t3
      simp only [mm, dp, F88, h88_2, go_sem, seval, bnd_ite, k1, k3, k4, w1, e87i, i7, hf, hB, q6, q7, u1, u2, hz, t1, t2, t3, if_true, Bool.false_and, decide_false, decide_true, Bool.false_eq_true, if_false]
    · simp only [mm, dp, F88, h88_2, go_sem, seval, bnd_ite, k1, k3, k4, w1, e87i, i7, hf, hB, q6, q7, u1, u2, hz, t1, t2, t3, if_true, Bool.false_and, decide_false, decide_true, Bool.false_eq_true, if_false]
  · have bo := hd.blk b (List.mem_of_getElem? hb0)
    rw [blkAt_eq hb0]
    rw [show blk b = .agg [.bool b.dir, .ro 2 (b.slots.map slt), .str b.text] from rfl] at hB
    by_cases t1 : d.kind = 1 ∨ d.kind = 6
    · have u1 : (decide (d.kind = 1) || decide (d.kind = 6)) = true := by simpa using t1
      simp only [mm, dp, F88, h88_2, go_sem, seval, bnd_ite, k1, k3, k4, w1, e87i, i7, hf, hB, ip, gp0, c4, c6, q6, u1, h0, t1, if_true, Bool.true_and, decide_true, Bool.false_eq_true, if_false]
    have u1 : (decide (d.kind = 1) || decide (d.kind = 6)) = false := by simpa using t1
    by_cases t2 : d.kind = 2 ∨ d.kind = 3
    · have u2 : (decide (d.kind = 2) || decide (d.kind = 3)) = true := by simpa using t2
      cases bd : b.dir with
      | false =>
        simp only [mm, dp, F88, h88_2, go_sem, seval, bnd_ite, k1, k3, k4, w1, e87i, i7, hf, hB, bd, q6, q7, u1, u2, h0, t1, t2, if_true, Bool.false_and, Bool.true_and, decide_false, decide_true, Bool.and_false, Bool.false_eq_true, if_false]
      | true =>
        obtain ⟨s4, _, sO⟩ := blkOk_dir bo bd
        obtain ⟨s, hs⟩ := get_at (show d.slot.toNat < b.slots.length by omega)
        have gs : (b.slots.map slt).getD d.slot.toNat .undef = .agg [.str s.name, .int .i64 s.ino] := gD_map hs
        have gs0 : b.slots.getD d.slot.toNat slt0 = s := getD_at hs
        have c7 : d.slot < (b.slots.length : Int) := by omega
        have c8 : 0 ≤ d.slot := by omega
        rw [gs0]
        have hso := sO _ s hs
        by_cases ne : s.name = ⟨#[]⟩
        · have : s.ino ≠ d.ino := by
            unfold slotOk bare at hso
            have nk : nameOk s.name = false := by rw [ne]; rfl
            rw [nk] at hso
            simp [ne] at hso
            omega
          simp only [mm, dp, F88, h88_2, go_sem, seval, bnd_ite, k1, k3, k4, w1, e87i, i7, hf, hB, bd, q6, q7, u1, u2, h0, t1, t2, gs, c7, c8, ne, this, if_true, Bool.false_and, Bool.true_and, decide_false, decide_true, Bool.not_true, Bool.and_false, Bool.and_self, Bool.false_eq_true, if_false]
        · simp only [mm, dp, F88, h88_2, go_sem, seval, bnd_ite, k1, k3, k4, w1, e87i, i7, hf, hB, bd, q6, q7, u1, u2, h0, t1, t2, gs, c7, c8, ne, if_true, Bool.false_and, Bool.true_and, decide_false, decide_true, Bool.not_false, Bool.and_self, Bool.false_eq_true, if_false]
    have u2 : (decide (d.kind = 2) || decide (d.kind = 3)) = false := by simpa using t2
    rw [if_neg t1, if_neg t2]
    by_cases t3 : d.kind = 4
    · rw [if_pos t3]
      have t3 : decide (d.kind = 4) = true := by simpa using t3
      simp only [mm, dp, F88, h88_2, go_sem, seval, bnd_ite, k1, k3, k4, w1, e87i, i7, hf, hB, q6, q7, qn, u1, u2, h0, t1, t2, t3, if_true, Bool.true_and, decide_true, Bool.false_eq_true, if_false]
    · simp only [mm, dp, F88, h88_2, go_sem, seval, bnd_ite, k1, k3, k4, w1, e87i, i7, hf, hB, q6, q7, u1, u2, h0, t1, t2, t3, if_true, Bool.false_and, decide_false, decide_true, Bool.false_eq_true, if_false]
end Go.Proofs.YtaaajjinpppgeaaGreatDoor
namespace Go.Proofs.YtaaajjinpppgeaaGreatDoor
open Go Go.Abs
set_option maxRecDepth 100000
theorem in154a (x : Mm) (d : Dp) (j : Nat) (hk : d.ok) : ∃ r, XL T 0 H112_5 L112_5 ⟨[(1, .int .i64 j), (2, .ptr 0 0 0), (5, .ptr 1 0 0), (6, .int .i64 0)], [some (7, [.agg (mmV x)]), some (11, [.agg (dpV d)])]⟩ = some r ∧
    (depBlocks d = true ∧ (r.1 = .exit 0 ∧ lookA r.2.env 1 = .int .i64 j ∧ lookA r.2.env 2 = .ptr 0 0 0 ∧ lookA r.2.env 5 = .ptr 1 0 0 ∧ r.2.mem = [some (7, [.agg (mmV x)]), some (11, [.agg (dpV d)])]) ∨ depBlocks d = false ∧ (r.1 = .ret ∧ lookA r.2.env 4 = .bool false)) := by
  have hl := hk.2
  unfold maxLen at hl
  refine XL_all d.blocks (fun p => inside p 1 16) (fun i => ⟨[(1, .int .i64 j), (2, .ptr 0 0 0), (5, .ptr 1 0 0), (6, .int .i64 (i : Nat))], [some (7, [.agg (mmV x)]), some (11, [.agg (dpV d)])]⟩)
    (fun r => r.1 = .exit 0 ∧ lookA r.2.env 1 = .int .i64 j ∧ lookA r.2.env 2 = .ptr 0 0 0 ∧ lookA r.2.env 5 = .ptr 1 0 0 ∧ r.2.mem = [some (7, [.agg (mmV x)]), some (11, [.agg (dpV d)])]) (fun r => r.1 = .ret ∧ lookA r.2.env 4 = .bool false) ?step ?hit ?last
  case step =>
    intro i p hp hi hP _
    have hi1 : (i : Int) < (d.blocks.length : Int) := by omega
    have gp : (d.blocks.map iv).getD i .undef = .int .i64 p := gD_map hp
    unfold mmV dpV
    simp only [XG, L112_5, h112_5, go_sem, seval, bnd_ite, hi1, gp, e46i, hP, Int.natCast_nonneg, w_i64 ((i : Int) + 1) (by omega), Bool.not_true, Bool.false_eq_true, if_false]
    first | done | rfl
  case hit =>
    intro i p hp hi hP _
    have hi1 : (i : Int) < (d.blocks.length : Int) := by omega
    have gp : (d.blocks.map iv).getD i .undef = .int .i64 p := gD_map hp
    unfold mmV dpV
    simp only [XG, L112_5, h112_5, go_sem, seval, bnd_ite, hi1, gp, e46i, hP, Int.natCast_nonneg, w_i64 ((i : Int) + 1) (by omega), Bool.not_false, if_true]
    exact .mk (by simp) ⟨rfl, rfl⟩
  case last =>
    intro _
    unfold mmV dpV
    simp only [XG, L112_5, h112_5, go_sem, seval, bnd_ite, Int.lt_irrefl, decide_false]
    exact .mk (by simp) ⟨rfl, rfl, rfl, rfl, rfl⟩
theorem in154b (x : Mm) (d : Dp) (j : Nat) (hj : j ≤ x.deps.length) (hl : x.deps.length ≤ 1048576) : ∃ r, XL T 0 H112_11 L112_11 ⟨[(1, .int .i64 j), (2, .ptr 0 0 0), (5, .ptr 1 0 0), (7, .int .i64 0)], [some (7, [.agg (mmV x)]), some (11, [.agg (dpV d)])]⟩ = some r ∧
    (newId x.deps j d = true ∧ (r.1 = .exit 2 ∧ lookA r.2.env 2 = .ptr 0 0 0 ∧ lookA r.2.env 5 = .ptr 1 0 0 ∧ r.2.mem = [some (7, [.agg (mmV x)]), some (11, [.agg (dpV d)])]) ∨ newId x.deps j d = false ∧ (r.1 = .ret ∧ lookA r.2.env 4 = .bool false)) := by
  have hlt : (x.deps.take j).length = j := by rw [List.length_take]; omega
  refine XL_all (x.deps.take j) (fun q => !decide (q.id = d.id)) (fun i => ⟨[(1, .int .i64 j), (2, .ptr 0 0 0), (5, .ptr 1 0 0), (7, .int .i64 (i : Nat))], [some (7, [.agg (mmV x)]), some (11, [.agg (dpV d)])]⟩)
    (fun r => r.1 = .exit 2 ∧ lookA r.2.env 2 = .ptr 0 0 0 ∧ lookA r.2.env 5 = .ptr 1 0 0 ∧ r.2.mem = [some (7, [.agg (mmV x)]), some (11, [.agg (dpV d)])]) (fun r => r.1 = .ret ∧ lookA r.2.env 4 = .bool false) ?step ?hit ?last
  case step =>
    intro i p hp hi hP _
    rw [hlt] at hi
    rw [List.getElem?_take_of_lt hi] at hp
    have hi1 : (i : Int) < (j : Int) := by omega
    have hi2 : (i : Int) < (x.deps.length : Int) := by omega
    have gp : (x.deps.map dp).getD i .undef = .agg (dpV p) := gD_map hp
    have hP : decide (p.id = d.id) = false := by simpa using hP
    unfold mmV dpV
    unfold dpV at gp
    simp only [XG, L112_11, h112_11, go_sem, seval, bnd_ite, hi1, hi2, gp, hP, Int.natCast_nonneg, w_i64 ((i : Int) + 1) (by omega), Bool.false_eq_true, if_false]
    first | done | rfl
  case hit =>
    intro i p hp hi hP _
    rw [hlt] at hi
    rw [List.getElem?_take_of_lt hi] at hp
    have hi1 : (i : Int) < (j : Int) := by omega
    have hi2 : (i : Int) < (x.deps.length : Int) := by omega
    have gp : (x.deps.map dp).getD i .undef = .agg (dpV p) := gD_map hp
    have hP : decide (p.id = d.id) = true := by simpa using hP
    unfold mmV dpV
    unfold dpV at gp
    simp only [XG, L112_11, h112_11, go_sem, seval, bnd_ite, hi1, hi2, gp, hP, Int.natCast_nonneg, w_i64 ((i : Int) + 1) (by omega), if_true]
    exact .mk (by simp) ⟨rfl, rfl⟩
  case last =>
    intro _
    unfold mmV dpV
    simp only [XG, L112_11, h112_11, go_sem, seval, bnd_ite, hlt, Int.lt_irrefl, decide_false]
    exact .mk (by simp) ⟨rfl, rfl, rfl, rfl⟩
set_option maxHeartbeats 1000000 in
theorem e112 (x : Mm) (j : Nat) (d : Dp) (hj : x.deps[j]? = some d) (hl : x.deps.length ≤ 1048576) (hx : x.ok) (hd : DskOk x.disk) (hn : 1 ≤ x.next ∧ x.next ≤ 100000) : E T 112 [mm x, .int .i64 j] [] = some (.bool (depBlocks d && (depBase x.next d && depAt x.disk d) && newId x.deps j d), []) := by
  rw [E_eq t112 (Nat.le_of_ble_eq_true rfl)]
  have hk := hx.dep d (List.mem_of_getElem? hj)
  have hjl := (List.getElem?_eq_some_iff.1 hj).1
  have gd : (x.deps.map dp).getD j .undef = .agg (dpV d) := gD_map hj
  unfold dpV at gd
  have j1 : (j : Int) < (x.deps.length : Int) := by omega
  have w1 := w_i64 (x.next - 1) (by omega)
  have j2 : (0 : Int) ≤ (j : Int) := Int.natCast_nonneg j
  by_cases hc : depBase x.next d = true
  case neg =>
    have hc : depBase x.next d = false := Bool.eq_false_iff.2 hc
    have hf : (!inside d.id 1 (x.next - 1) || !inside d.kind 1 6 || !inside d.ino 1 8 || !inside d.ptr 0 1 || !inside d.block 0 16 || !inside d.slot 0 3 || !inside d.after 0 (x.next - 1)) = true := by
      unfold depBase at hc
      rw [← Bool.not_and, ← Bool.not_and, ← Bool.not_and, ← Bool.not_and, ← Bool.not_and, ← Bool.not_and, hc]; rfl
    simp only [mm, F112, h112_5, go_sem, seval, bnd_ite, j1, j2, gd, w1, e46i, hf, hc, if_true, Bool.false_and, Bool.and_false]
  have hf : (!inside d.id 1 (x.next - 1) || !inside d.kind 1 6 || !inside d.ino 1 8 || !inside d.ptr 0 1 || !inside d.block 0 16 || !inside d.slot 0 3 || !inside d.after 0 (x.next - 1)) = false := by
    have h2 := hc
    unfold depBase at h2
    rw [← Bool.not_and, ← Bool.not_and, ← Bool.not_and, ← Bool.not_and, ← Bool.not_and, ← Bool.not_and, h2]; rfl
  rw [hc, Bool.true_and]
  obtain ⟨⟨y, e, m⟩, k1, k2⟩ := in154a x d j hk
  unfold mmV dpV at k1 k2
  rcases k2 with ⟨hb, kx, ki, k3, k4, km⟩ | ⟨hb, kx, k3⟩
  case inr =>
    simp only at kx k3; subst kx
    simp only [mm, F112, h112_5, go_sem, seval, bnd_ite, j1, j2, gd, w1, e46i, hf, k1, k3, hb, Bool.false_and, Bool.false_eq_true, if_false]
  simp only at kx ki k3 k4 km; subst kx; subst km
  obtain ⟨⟨y, e', m⟩, l1, l2⟩ := in154b x d j (by omega) hl
  unfold mmV dpV at l1 l2
  rcases l2 with ⟨hw, kx, l3, l4, km⟩ | ⟨hw, kx, l3⟩
  case inr =>
    simp only at kx l3; subst kx
    simp only [mm, F112, h112_5, h112_11, go_sem, seval, bnd_ite, j1, j2, gd, w1, e46i, hf, k1, ki, k3, k4, l1, l3, hb, hw, Bool.and_false, Bool.false_eq_true, if_false]
  simp only at kx l3 l4 km; subst kx; subst km
  rw [hb, hw, Bool.true_and, Bool.and_true]
  have B := depBase_iff.1 hc
  obtain ⟨b1, b2, b3, b4, b5, b6, b7⟩ := B
  have n1 := hd.inos
  have n2 := hd.blks
  obtain ⟨p, hp⟩ := get_at (show (d.ino - 1).toNat < x.disk.inos.length by omega)
  have gi : (x.disk.inos.map ino).getD (d.ino - 1).toNat .undef = .agg [.int .i64 p.kind, .int .i64 p.links, .ro 1 (p.ptrs.map iv)] := gD_map hp
  have i1 : 0 ≤ d.ino - 1 := by omega
  have i2 : d.ino - 1 < (x.disk.inos.length : Int) := by omega
  have w2 := w_i64 (d.ino - 1) (by omega)
  have w3 := w_i64 (d.block - 1) (by omega)
  have hpo := inoOk_iff.1 (hd.ino p (List.mem_of_getElem? hp))
  have ptwo := hpo.two
  have qn := e119 d.name hk.1
  have ai := inoAt_eq hp
  obtain ⟨p0, hp0⟩ := get_at (show d.ptr.toNat < p.ptrs.length by omega)
  have gp0 : (p.ptrs.map iv).getD d.ptr.toNat .undef = .int .i64 p0 := gD_map hp0
  have c4 : d.ptr < (p.ptrs.length : Int) := by omega
  have c6 : 0 ≤ d.ptr := by omega
  have gd0 : p.ptrs.getD d.ptr.toNat 0 = p0 := getD_at hp0
  unfold depAt
  rw [ai, gd0]
  by_cases h0 : 0 < d.block
  case neg =>
    by_cases t1 : d.kind = 1
    · have t : d.kind = 1 ∨ d.kind = 6 := .inl t1
      rw [if_pos t]
      have t1 : decide (d.kind = 1) = true := by simpa using t1
      simp only [mm, F112, h112_5, h112_11, go_sem, seval, bnd_ite, j1, j2, gd, w1, e46i, hf, k1, ki, k3, k4, l1, l3, l4, t1, h0, if_true, decide_false, Bool.false_and, Bool.false_eq_true, if_false]
    have d1 : decide (d.kind = 1) = false := by simpa using t1
    by_cases t2 : d.kind = 6
    · have t : d.kind = 1 ∨ d.kind = 6 := .inr t2
      rw [if_pos t]
      have t2 : decide (d.kind = 6) = true := by simpa using t2
      simp only [mm, F112, h112_5, h112_11, go_sem, seval, bnd_ite, j1, j2, gd, w1, e46i, hf, k1, ki, k3, k4, l1, l3, l4, d1, t2, h0, if_true, decide_false, Bool.false_and, Bool.false_eq_true, if_false]
    have d2 : decide (d.kind = 6) = false := by simpa using t2
    rw [if_neg (show ¬ (d.kind = 1 ∨ d.kind = 6) by omega)]
    by_cases t3 : d.kind = 2
    · rw [if_pos (.inl t3)]
      have t3 : decide (d.kind = 2) = true := by simpa using t3
      simp only [mm, F112, h112_5, h112_11, go_sem, seval, bnd_ite, j1, j2, gd, w1, e46i, hf, k1, ki, k3, k4, l1, l3, l4, d1, d2, t3, h0, if_true, decide_false, Bool.false_and, Bool.false_eq_true, if_false]
    have d3 : decide (d.kind = 2) = false := by simpa using t3
    by_cases t4 : d.kind = 3
    · rw [if_pos (.inr t4)]
      have t4 : decide (d.kind = 3) = true := by simpa using t4
      simp only [mm, F112, h112_5, h112_11, go_sem, seval, bnd_ite, j1, j2, gd, w1, e46i, hf, k1, ki, k3, k4, l1, l3, l4, d1, d2, d3, t4, h0, if_true, decide_false, Bool.false_and, Bool.false_eq_true, if_false]
    have d4 : decide (d.kind = 3) = false := by simpa using t4
    rw [if_neg (show ¬ (d.kind = 2 ∨ d.kind = 3) by omega)]
    by_cases t5 : d.kind = 4
    · rw [if_pos t5]
      have t5 : decide (d.kind = 4) = true := by simpa using t5
      simp only [mm, F112, h112_5, h112_11, go_sem, seval, bnd_ite, j1, j2, gd, w1, e46i, hf, k1, ki, k3, k4, l1, l3, l4, d1, d2, d3, d4, t5, h0, if_true, decide_false, Bool.false_and, Bool.false_eq_true, if_false]
    · rw [if_neg t5]
      have d5 : decide (d.kind = 4) = false := by simpa using t5
      simp only [mm, F112, h112_5, h112_11, go_sem, seval, bnd_ite, j1, j2, gd, w1, e46i, hf, k1, ki, k3, k4, l1, l3, l4, d1, d2, d3, d4, d5, h0, if_true, decide_false, Bool.false_and, Bool.false_eq_true, if_false]
  obtain ⟨b, hb0⟩ := get_at (show (d.block - 1).toNat < x.disk.blks.length by omega)
  have gb : (x.disk.blks.map blk).getD (d.block - 1).toNat .undef = .agg [.bool b.dir, .ro 2 (b.slots.map slt), .str b.text] := gD_map hb0
  have r1 : 0 ≤ d.block - 1 := by omega
  have r2 : d.block - 1 < (x.disk.blks.length : Int) := by omega
  have bo := hd.blk b (List.mem_of_getElem? hb0)
  rw [blkAt_eq hb0]
  by_cases t1 : d.kind = 1
  · have t : d.kind = 1 ∨ d.kind = 6 := .inl t1
    rw [if_pos t]
    have t1 : decide (d.kind = 1) = true := by simpa using t1
    simp only [mm, F112, h112_5, h112_11, go_sem, seval, bnd_ite, j1, j2, gd, w1, w2, gi, i1, i2, gp0, c4, c6, e46i, hf, k1, ki, k3, k4, l1, l3, l4, t1, h0, if_true, decide_true, Bool.true_and, Bool.false_eq_true, if_false]
  have d1 : decide (d.kind = 1) = false := by simpa using t1
  by_cases t2 : d.kind = 6
  · have t : d.kind = 1 ∨ d.kind = 6 := .inr t2
    rw [if_pos t]
    have t2 : decide (d.kind = 6) = true := by simpa using t2
    simp only [mm, F112, h112_5, h112_11, go_sem, seval, bnd_ite, j1, j2, gd, w1, w2, gi, i1, i2, gp0, c4, c6, e46i, hf, k1, ki, k3, k4, l1, l3, l4, d1, t2, h0, if_true, decide_true, Bool.true_and, Bool.false_eq_true, if_false]
  have d2 : decide (d.kind = 6) = false := by simpa using t2
  rw [if_neg (show ¬ (d.kind = 1 ∨ d.kind = 6) by omega)]
  have side : b.dir = true → ∃ s, b.slots[d.slot.toNat]? = some s := fun bd => by
    obtain ⟨s4, _, _⟩ := blkOk_dir bo bd
    exact get_at (by omega)
  have slen : b.dir = true → d.slot < (b.slots.length : Int) := fun bd => by
    obtain ⟨s4, _, _⟩ := blkOk_dir bo bd
    omega
  have c8 : 0 ≤ d.slot := by omega
  by_cases t3 : d.kind = 2
  · rw [if_pos (.inl t3)]
    have t3 : decide (d.kind = 2) = true := by simpa using t3
    cases bd : b.dir with
    | false => simp only [mm, F112, h112_5, h112_11, go_sem, seval, bnd_ite, j1, j2, gd, w1, w3, gb, r1, r2, bd, e46i, hf, k1, ki, k3, k4, l1, l3, l4, d1, d2, t3, h0, if_true, decide_true, Bool.true_and, Bool.false_and, Bool.and_false, Bool.false_eq_true, if_false]
    | true =>
      obtain ⟨s, hs⟩ := side bd
      have gs : (b.slots.map slt).getD d.slot.toNat .undef = .agg [.str s.name, .int .i64 s.ino] := gD_map hs
      have c7 := slen bd
      rw [show b.slots.getD d.slot.toNat slt0 = s from getD_at hs]
      simp only [mm, F112, h112_5, h112_11, go_sem, seval, bnd_ite, j1, j2, gd, w1, w3, gb, r1, r2, bd, gs, c7, c8, e46i, hf, k1, ki, k3, k4, l1, l3, l4, d1, d2, t3, h0, if_true, decide_true, Bool.true_and, Bool.false_and, Bool.and_false, Bool.false_eq_true, if_false]
  have d3 : decide (d.kind = 2) = false := by simpa using t3
  by_cases t4 : d.kind = 3
  · rw [if_pos (.inr t4)]
    have t4 : decide (d.kind = 3) = true := by simpa using t4
    cases bd : b.dir with
    | false => simp only [mm, F112, h112_5, h112_11, go_sem, seval, bnd_ite, j1, j2, gd, w1, w3, gb, r1, r2, bd, e46i, hf, k1, ki, k3, k4, l1, l3, l4, d1, d2, d3, t4, h0, if_true, decide_true, Bool.true_and, Bool.false_and, Bool.and_false, Bool.false_eq_true, if_false]
    | true =>
      obtain ⟨s, hs⟩ := side bd
      have gs : (b.slots.map slt).getD d.slot.toNat .undef = .agg [.str s.name, .int .i64 s.ino] := gD_map hs
      have c7 := slen bd
      rw [show b.slots.getD d.slot.toNat slt0 = s from getD_at hs]
      simp only [mm, F112, h112_5, h112_11, go_sem, seval, bnd_ite, j1, j2, gd, w1, w3, gb, r1, r2, bd, gs, c7, c8, e46i, hf, k1, ki, k3, k4, l1, l3, l4, d1, d2, d3, t4, h0, if_true, decide_true, Bool.true_and, Bool.false_and, Bool.and_false, Bool.false_eq_true, if_false]
  have d4 : decide (d.kind = 3) = false := by simpa using t4
  rw [if_neg (show ¬ (d.kind = 2 ∨ d.kind = 3) by omega)]
  by_cases t5 : d.kind = 4
  · rw [if_pos t5]
    have t5 : decide (d.kind = 4) = true := by simpa using t5
    simp only [mm, F112, h112_5, h112_11, go_sem, seval, bnd_ite, j1, j2, gd, w1, w3, gb, r1, r2, qn, e46i, hf, k1, ki, k3, k4, l1, l3, l4, d1, d2, d3, d4, t5, h0, if_true, decide_true, Bool.true_and, Bool.false_and, Bool.false_eq_true, if_false]
  · rw [if_neg t5]
    have d5 : decide (d.kind = 4) = false := by simpa using t5
    simp only [mm, F112, h112_5, h112_11, go_sem, seval, bnd_ite, j1, j2, gd, w1, e46i, hf, k1, ki, k3, k4, l1, l3, l4, d1, d2, d3, d4, d5, h0, if_true, decide_false, Bool.false_and, Bool.false_eq_true, if_false]
end Go.Proofs.YtaaajjinpppgeaaGreatDoor
namespace Go.Proofs.YtaaajjinpppgeaaGreatDoor
open Go Go.Abs
set_option maxRecDepth 100000
def depRight (x : Mm) (p : Dp × Nat) : Bool := depBlocks p.1 && (depBase x.next p.1 && depAt x.disk p.1) && newId x.deps p.2 p.1
def memHead (x : Mm) : Bool := dskOk x.disk && decide (x.dirty.length = 21) && decide (x.deps.length ≤ 40) && inside x.next 1 100000
def memOk (x : Mm) : Bool := memHead x && x.deps.zipIdx.all (depRight x)
theorem memHead_use {x : Mm} (h : memHead x = true) : DskOk x.disk ∧ x.dirty.length = 21 ∧ x.deps.length ≤ 40 ∧ 1 ≤ x.next ∧ x.next ≤ 100000 := by
  unfold memHead inside at h
  simp only [Bool.and_eq_true, decide_eq_true_eq, dskOk_iff] at h
  exact ⟨h.1.1.1, h.1.1.2, h.1.2, h.2⟩
theorem headN (x : Mm) : (!dskOk x.disk || !decide ((x.dirty.length : Int) = 21) || decide ((40 : Int) < x.deps.length) || !inside x.next 1 100000) = !memHead x := by
  unfold memHead
  have c1 : decide ((x.dirty.length : Int) = 21) = decide (x.dirty.length = 21) := by congr 1; apply propext; omega
  have c2 : decide ((40 : Int) < x.deps.length) = !decide (x.deps.length ≤ 40) := by
    by_cases h : x.deps.length ≤ 40
    · have : ¬ (40 : Int) < x.deps.length := by omega
      simp [h, this]
    · have : (40 : Int) < x.deps.length := by omega
      simp [h, this]
  rw [c1, c2, ← Bool.not_and, ← Bool.not_and, ← Bool.not_and]
theorem e36 (x : Mm) (hx : x.ok) : E T 36 [mm x] [] = some (.bool (memOk x), []) := by
  rw [E_eq t36 (Nat.le_of_ble_eq_true rfl)]
  have e0 := e73 x.disk hx.disk
  have hN := headN x
  unfold dsk at e0
  unfold memOk
  cases hh : memHead x with
  | false =>
    rw [hh] at hN
    simp only [mm, F36, h36_4, go_sem, seval, bnd_ite, e0, e46i, hN, if_true, Bool.not_false, Bool.false_and]
  | true =>
  rw [hh, Bool.not_true] at hN
  obtain ⟨hd, h1, h2, h3⟩ := memHead_use hh
  rw [Bool.true_and]
  refine (XL_all (T := T) (b := 0) (hd := H36_4) (x := L36_4) x.deps.zipIdx (depRight x) (fun i => ⟨[(1, .ptr 0 0 0), (3, .int .i64 (i : Nat))], [some (7, [.agg (mmV x)])]⟩)
    (fun r => r.1 = .exit 0) (fun r => r.1 = .ret ∧ lookA r.2.env 2 = .bool false) ?step ?hit ?last).elim ?main
  case step =>
    rintro i ⟨d, j⟩ hp hi hP _
    obtain ⟨hp, hj⟩ := zip_at hp
    simp only at hp hj; subst hj
    rw [List.length_zipIdx] at hi
    have hi1 : (j : Int) < (x.deps.length : Int) := by omega
    have e1 := e112 x j d hp (by omega) hx hd h3
    unfold depRight at hP
    rw [hP] at e1
    unfold mm at e1
    unfold mmV
    simp only [XG, L36_4, h36_4, go_sem, seval, bnd_ite, hi1, e1, Int.natCast_nonneg, w_i64 ((j : Int) + 1) (by omega), Bool.not_true, Bool.false_eq_true, if_false]
    first | done | rfl
  case hit =>
    rintro i ⟨d, j⟩ hp hi hP _
    obtain ⟨hp, hj⟩ := zip_at hp
    simp only at hp hj; subst hj
    rw [List.length_zipIdx] at hi
    have hi1 : (j : Int) < (x.deps.length : Int) := by omega
    have e1 := e112 x j d hp (by omega) hx hd h3
    unfold depRight at hP
    rw [hP] at e1
    unfold mm at e1
    unfold mmV
    simp only [XG, L36_4, h36_4, go_sem, seval, bnd_ite, hi1, e1, Int.natCast_nonneg, w_i64 ((j : Int) + 1) (by omega), Bool.not_false, if_true]
    exact .mk (by simp) ⟨rfl, rfl⟩
  case last =>
    intro _
    unfold mmV
    simp only [XG, L36_4, h36_4, go_sem, seval, bnd_ite, List.length_zipIdx, Int.lt_irrefl, decide_false]
    exact .mk (by simp) rfl
  case main =>
  rintro ⟨y, e, m⟩ ⟨k1, k2⟩
  have hs : ((0 : Nat) : Int) = 0 := rfl
  unfold mmV at k1
  simp only [hs] at k1
  rcases k2 with ⟨h, k2⟩ | ⟨h, k2, k3⟩ <;> simp only at k2 <;> subst k2
  · simp only [mm, F36, h36_4, go_sem, seval, bnd_ite, e0, e46i, hN, k1, h, Bool.false_eq_true, if_false]
  · simp only at k3
    simp only [mm, F36, h36_4, go_sem, seval, bnd_ite, e0, e46i, hN, k1, k3, h, Bool.false_eq_true, if_false]
theorem e24 (x : Mm) (hx : x.ok) : E T 24 [mm x] [] = some (.bool (memOk x), []) := by
  rw [E_eq t24 (Nat.le_of_ble_eq_true rfl)]
  have e0 := e86 x.disk hx.disk
  have hN := headN x
  unfold dsk at e0
  unfold memOk
  cases hh : memHead x with
  | false =>
    rw [hh] at hN
    simp only [mm, F24, h24_4, go_sem, seval, bnd_ite, e0, e87i, hN, if_true, Bool.not_false, Bool.false_and]
  | true =>
  rw [hh, Bool.not_true] at hN
  obtain ⟨hd, h1, h2, h3⟩ := memHead_use hh
  rw [Bool.true_and]
  refine (XL_all (T := T) (b := 0) (hd := H24_4) (x := L24_4) x.deps.zipIdx (depRight x) (fun i => ⟨[(1, .ptr 0 0 0), (28, .ro 11 (x.deps.map dp)), (29, .int .i64 x.deps.length), (30, .int .i64 (i : Nat))], [some (7, [.agg (mmV x)])]⟩)
    (fun r => r.1 = .exit 0) (fun r => r.1 = .ret ∧ lookA r.2.env 2 = .bool false) ?step ?hit ?last).elim ?main
  case step =>
    rintro i ⟨d, j⟩ hp hi hP _
    obtain ⟨hp, hj⟩ := zip_at hp
    simp only at hp hj; subst hj
    rw [List.length_zipIdx] at hi
    have hi1 : (j : Int) < (x.deps.length : Int) := by omega
    have gd : (x.deps.map dp).getD j .undef = .agg (dpV d) := gD_map hp
    have e1 : E T 88 [.agg (mmV x), .agg (dpV d)] [] = _ := e88 x d (hx.dep d (List.mem_of_getElem? hp)) hx hd h3
    have e2 := e89 x d.id hx.deps
    unfold depRight at hP
    rw [Bool.and_eq_true] at hP
    have e3 := (placeOf_at hp).2 hP.2
    rw [hP.1] at e1
    rw [e3] at e2
    unfold mm at e2
    unfold mmV dpV at e1
    unfold dpV at gd
    unfold mmV
    simp only [XG, L24_4, h24_4, go_sem, seval, bnd_ite, hi1, gd, e1, e2, Int.natCast_nonneg, w_i64 ((j : Int) + 1) (by omega), decide_true, Bool.not_true, Bool.or_self, Bool.false_eq_true, if_false]
    first | done | rfl
  case hit =>
    rintro i ⟨d, j⟩ hp hi hP _
    obtain ⟨hp, hj⟩ := zip_at hp
    simp only at hp hj; subst hj
    rw [List.length_zipIdx] at hi
    have hi1 : (j : Int) < (x.deps.length : Int) := by omega
    have gd : (x.deps.map dp).getD j .undef = .agg (dpV d) := gD_map hp
    have e1 : E T 88 [.agg (mmV x), .agg (dpV d)] [] = _ := e88 x d (hx.dep d (List.mem_of_getElem? hp)) hx hd h3
    have e2 := e89 x d.id hx.deps
    have hf : (!(depBlocks d && (depBase x.next d && depAt x.disk d)) || !decide (placeOf x.deps d.id = (j : Nat))) = true := by
      unfold depRight at hP
      have : decide (placeOf x.deps d.id = (j : Nat)) = newId x.deps j d := by
        have := placeOf_at hp
        cases h : newId x.deps j d with
        | true => simpa using this.2 h
        | false => simp only [decide_eq_false_iff_not]; intro hh; rw [this.1 hh] at h; cases h
      rw [this, ← Bool.not_and, hP]; rfl
    unfold mm at e2
    unfold mmV dpV at e1
    unfold dpV at gd
    unfold mmV
    simp only [XG, L24_4, h24_4, go_sem, seval, bnd_ite, hi1, gd, e1, e2, hf, Int.natCast_nonneg, w_i64 ((j : Int) + 1) (by omega), if_true]
    exact .mk (by simp) ⟨rfl, rfl⟩
  case last =>
    intro _
    unfold mmV
    simp only [XG, L24_4, h24_4, go_sem, seval, bnd_ite, List.length_zipIdx, Int.lt_irrefl, decide_false]
    exact .mk (by simp) rfl
  case main =>
  rintro ⟨y, e, m⟩ ⟨k1, k2⟩
  have hs : ((0 : Nat) : Int) = 0 := rfl
  unfold mmV at k1
  simp only [hs] at k1
  rcases k2 with ⟨h, k2⟩ | ⟨h, k2, k3⟩ <;> simp only at k2 <;> subst k2
  · simp only [mm, F24, h24_4, go_sem, seval, bnd_ite, e0, e87i, hN, k1, h, Bool.false_eq_true, if_false]
  · simp only at k3
    simp only [mm, F24, h24_4, go_sem, seval, bnd_ite, e0, e87i, hN, k1, k3, h, Bool.false_eq_true, if_false]
end Go.Proofs.YtaaajjinpppgeaaGreatDoor
namespace Go.Proofs.YtaaajjinpppgeaaGreatDoor
open Go Go.Abs
set_option maxRecDepth 100000
def inoOf (x : Dsk) (i : Int) : Ino := if inside i 1 x.inos.length then x.inos.getD (i - 1).toNat ino0 else ino0
def blkOf (x : Dsk) (p : Int) : Blk := if inside p 1 x.blks.length then x.blks.getD (p - 1).toNat blk0 else blk0
theorem inoOf_mem {x : Dsk} {i : Int} (h : inside i 1 x.inos.length = true) : x.inos[(i - 1).toNat]? = some (inoOf x i) := by
  have h2 := h
  simp only [inside, Bool.and_eq_true, decide_eq_true_eq] at h2
  obtain ⟨p, hp⟩ := get_at (show (i - 1).toNat < x.inos.length by omega)
  unfold inoOf; rw [if_pos h, getD_at hp]; exact hp
theorem blkOf_mem {x : Dsk} {i : Int} (h : inside i 1 x.blks.length = true) : x.blks[(i - 1).toNat]? = some (blkOf x i) := by
  have h2 := h
  simp only [inside, Bool.and_eq_true, decide_eq_true_eq] at h2
  obtain ⟨p, hp⟩ := get_at (show (i - 1).toNat < x.blks.length by omega)
  unfold blkOf; rw [if_pos h, getD_at hp]; exact hp
theorem e59u (x : Dsk) (h : x.sm) (i : Int) : E T 59 [dsk x, .int .i64 i] [] = some (ino (inoOf x i), []) := by
  cases hc : inside i 1 x.inos.length with
  | true => exact e59 x i h.inos hc _ (inoOf_mem hc)
  | false => rw [e59n x i hc]; unfold inoOf; rw [hc]; rfl
theorem e134u (x : Dsk) (h : x.sm) (i : Int) : E T 134 [dsk x, .int .i64 i] [] = some (blk (blkOf x i), []) := by
  cases hc : inside i 1 x.blks.length with
  | true => exact e134 x i h.blks hc _ (blkOf_mem hc)
  | false => rw [e134n x i hc]; unfold blkOf; rw [hc]; rfl
theorem e116u (x : Dsk) (h : x.sm) (i : Int) : E T 116 [dsk x, .int .i64 i] [] = some (.tup [blk (blkOf x i), .bool (inside i 1 x.blks.length)], []) := by
  cases hc : inside i 1 x.blks.length with
  | true => exact e116 x i h.blks hc _ (blkOf_mem hc)
  | false => rw [e116n x i hc]; unfold blkOf; rw [hc]; rfl
end Go.Proofs.YtaaajjinpppgeaaGreatDoor
