/- Marking inodes and blocks. Own work; no condition. -/
import Derived.Test.YtaaajjinpppgeaaGreatFo
import Derived.Test.YtaaajjinpppgeaaGreatKc
set_option linter.unusedVariables false
set_option linter.unusedSimpArgs false
set_option linter.unusedSectionVars false
namespace Go.Proofs.YtaaajjinpppgeaaGreat
open Go Go.Abs
set_option maxRecDepth 100000
def mkIno (k : Int) (x : Ino) : Ino := ⟨k, k + 1, (List.range x.ptrs.length).map fun i => k + 1 + 1 + (i : Nat)⟩
def coIno (x : Ino) : Nat := 2 + x.ptrs.length
theorem costIno {l : List Ino} (hl : l.length ≤ 1048576) (hs : ∀ x ∈ l, x.sm) (i : Nat) : costL coIno (l.take i) ≤ 1099513724928 := by
  have h1 := costL_le (cost := coIno) (C := 1048578) (l := l.take i) (fun x hx => by have := hs x (List.mem_of_mem_take hx); unfold Ino.sm at this; unfold coIno; omega)
  have h2 : (l.take i).length ≤ l.length := by simp; omega
  have h3 : (l.take i).length * 1048578 ≤ 1048576 * 1048578 := Nat.mul_le_mul_right _ (by omega)
  omega
theorem e94 (l : List Ino) (k : Int) (h0 : 0 ≤ k) (hk : k ≤ 1152921504606846976) (hl : l.length ≤ 1048576) (hs : ∀ x ∈ l, x.sm) :
    E T 94 [.sl 0 0 l.length, .int .i64 k] [some (3, l.map inoO)] = some (.int .i64 (k + costL coIno l), [some (3, (mkL mkIno coIno k l).map inoO)]) := by
  rw [E_eq t94 (Nat.le_of_ble_eq_true rfl)]
  simp only [F94, h94_2, go_sem, seval, bnd_ite]
  refine (XL_inv (T := T) (b := 1) (hd := H94_2) (x := L94_2) (β := Unit) (fun i _ => ⟨[(0, .sl 0 0 l.length), (1, .int .i64 (k + (costL coIno (l.take i) : Nat))), (5, .int .i64 (i : Nat))], [some (3, (mkP mkIno coIno k l i).map inoO)]⟩)
    (fun i _ => True) l.length (fun r => r.1 = .exit 0 ∧ r.2.mem = [some (3, (mkL mkIno coIno k l).map inoO)] ∧ lookA r.2.env 1 = .int .i64 (k + (costL coIno l : Nat))) ?step ?last 0 () (by omega) trivial).elim ?main
  case step =>
    intro i _ hi _
    obtain ⟨p, hp⟩ := get_at hi
    have hi1 : (i : Int) < (l.length : Int) := by omega
    have hci := costIno hl hs i
    have hps := hs p (List.mem_of_getElem? hp)
    unfold Ino.sm at hps
    left
    refine ⟨(), ?_, trivial⟩
    have ms := mkP_set (st := mkIno) (cost := coIno) (k := k) hp
    have cs := costL_succ (cost := coIno) hp
    have gx : ((mkP mkIno coIno k l i).map inoO).getD i .undef = .agg [.int .i64 p.kind, .int .i64 p.links, .own 1 (p.ptrs.map iv)] := gD_map (mkP_get hp)
    generalize hR : mkP mkIno coIno k l i = R at *
    have hml : R.length = l.length := by rw [← hR]; exact mkP_len
    have hmi : i < (R.map inoO).length := by rw [List.length_map, hml]; exact hi
    generalize hK : k + (costL coIno (l.take i) : Int) = K at *
    have e1 := e189 p.ptrs (K + 1 + 1) (by omega) (by omega) hps
    have sm : (R.map inoO).set i (.agg [.int .i64 K, .int .i64 (K + 1), .own 1 (((List.range p.ptrs.length).map fun i => K + 1 + 1 + (i : Nat)).map iv)]) = (mkP mkIno coIno k l (i + 1)).map inoO := by rw [← ms]; exact set_map (f := inoO) (x := mkIno K p)
    have e2 : k + ((costL coIno (l.take (i + 1)) : Nat) : Int) = K + 1 + 1 + (p.ptrs.length : Int) := by rw [cs, coIno]; omega
    have it : ((i : Int) + 0).toNat = i := by omega
    have htk : (List.map iv ((List.range p.ptrs.length).map fun i => K + 1 + 1 + (i : Nat))).take p.ptrs.length = List.map iv ((List.range p.ptrs.length).map fun i => K + 1 + 1 + (i : Nat)) := List.take_of_length_le (by simp)
    simp only [XG, L94_2, h94_2, it, go_sem, seval, bnd_ite, hi1, hml, hi, gx, getD_set hmi, List.set_set, Int.natCast_nonneg, w_i64 ((i : Int) + 1) (by omega), w_i64 (K + 1) (by omega), w_i64 (K + 1 + 1) (by omega), e1, is_set, inoO_is, List.length_range, htk, sm]
    rw [e2]; rfl
  case last =>
    intro _ _
    have hml : (mkP mkIno coIno k l l.length).length = l.length := mkP_len
    simp only [XG, L94_2, h94_2, go_sem, seval, bnd_ite, hml, Int.lt_irrefl, decide_false]
    exact .mk (by simp) ⟨rfl, by rw [mkP_all], rfl⟩
  case main =>
  rintro ⟨x, e, m⟩ ⟨h1, h2, h3, h4, h5⟩
  have h0' : ((0 : Nat) : Int) = 0 := rfl
  simp only [mkP_0, List.take_zero, costL, h0', Int.add_zero] at h1
  simp only at h3 h4 h5; subst h3; subst h4
  simp only [h1, go_sem, seval, h5]
theorem e97 (l : List Ino) (k : Int) (h0 : 0 ≤ k) (hk : k ≤ 1152921504606846976) (hl : l.length ≤ 1048576) (hs : ∀ x ∈ l, x.sm) :
    E T 97 [.ro 3 ((mkL mkIno coIno k l).map ino), .int .i64 k] [] = some (.int .i64 (k + costL coIno l), []) := by
  rw [E_eq t97 (Nat.le_of_ble_eq_true rfl)]
  simp only [F97, h97_2, go_sem, seval, bnd_ite]
  generalize hL : mkL mkIno coIno k l = L
  have hln : L.length = l.length := by rw [← hL]; exact mkL_len
  refine (XL_inv (T := T) (b := 0) (hd := H97_2) (x := L97_2) (β := Unit) (fun i _ => ⟨[(0, .ro 3 (L.map ino)), (1, .int .i64 (k + (costL coIno (l.take i) : Nat))), (5, .int .i64 (i : Nat))], []⟩)
    (fun i _ => True) l.length (fun r => r.1 = .exit 0 ∧ lookA r.2.env 1 = .int .i64 (k + (costL coIno l : Nat))) ?step ?last 0 () (by omega) trivial).elim ?main
  case step =>
    intro i _ hi _
    obtain ⟨p, hp⟩ := get_at hi
    have hi1 : (i : Int) < (l.length : Int) := by omega
    have hci := costIno hl hs i
    have hps := hs p (List.mem_of_getElem? hp)
    unfold Ino.sm at hps
    left
    refine ⟨(), ?_, trivial⟩
    have cs := costL_succ (cost := coIno) hp
    have hat : L[i]? = some (mkIno (k + costL coIno (l.take i)) p) := by rw [← hL]; exact mkL_at hp
    generalize hK : k + (costL coIno (l.take i) : Int) = K at *
    have gx : (L.map ino).getD i .undef = .agg [.int .i64 K, .int .i64 (K + 1), .ro 1 (((List.range p.ptrs.length).map fun i => K + 1 + 1 + (i : Nat)).map iv)] := gD_map hat
    have e1 := e191 p.ptrs.length (K + 1 + 1) (by omega) (by omega) hps
    have e2 : k + ((costL coIno (l.take (i + 1)) : Nat) : Int) = K + 1 + 1 + (p.ptrs.length : Int) := by rw [cs, coIno]; omega
    have e3 : ¬ K + 1 + 1 + (p.ptrs.length : Int) < 0 := by omega
    generalize hM : ((List.range p.ptrs.length).map fun i => K + 1 + 1 + (i : Nat)) = M at *
    simp only [XG, L97_2, h97_2, go_sem, seval, bnd_ite, hi1, hln, hi, gx, e1, e3, decide_true, decide_false, Bool.not_true, Bool.false_eq_true, if_false, Int.natCast_nonneg, w_i64 ((i : Int) + 1) (by omega), w_i64 (K + 1) (by omega), w_i64 (K + 1 + 1) (by omega)]
    rw [e2]; rfl
  case last =>
    intro _ _
    simp only [XG, L97_2, h97_2, go_sem, seval, bnd_ite, hln, Int.lt_irrefl, decide_false]
    exact .mk (by simp) ⟨rfl, rfl⟩
  case main =>
  rintro ⟨x, e, m⟩ ⟨h1, h2, h3, h4⟩
  have hs : ((0 : Nat) : Int) = 0 := rfl
  simp only [List.take_zero, costL, hs, Int.add_zero] at h1
  simp only at h3 h4; subst h3
  simp only [h1, go_sem, seval, h4]

noncomputable def mkBlk (k : Int) (x : Blk) : Blk := ⟨mb k, mkL mkSlt (fun _ => 2) (k + 1) x.slots, mtext (k + 1 + costL (fun _ => 2) x.slots)⟩
def coBlk (x : Blk) : Nat := 2 + costL (fun _ => 2) x.slots
theorem costSlt {l : List Slt} (hl : l.length ≤ 1048576) : costL (fun _ => 2) l ≤ 2097152 := by
  have h1 := costL_le (cost := fun _ : Slt => 2) (C := 2) (l := l) (fun _ _ => Nat.le_refl _)
  omega
theorem costBlk {l : List Blk} (hl : l.length ≤ 1048576) (hs : ∀ x ∈ l, x.sm) (i : Nat) : costL coBlk (l.take i) ≤ 2199025352704 := by
  have h1 := costL_le (cost := coBlk) (C := 2097154) (l := l.take i) (fun x hx => by have := costSlt (hs x (List.mem_of_mem_take hx)); unfold coBlk; omega)
  have h2 : (l.take i).length ≤ l.length := by simp; omega
  have h3 : (l.take i).length * 2097154 ≤ 1048576 * 2097154 := Nat.mul_le_mul_right _ (by omega)
  omega
theorem e95 (l : List Blk) (k : Int) (h0 : 0 ≤ k) (hk : k ≤ 1125899906842624) (hl : l.length ≤ 1048576) (hs : ∀ x ∈ l, x.sm) :
    E T 95 [.sl 0 0 l.length, .int .i64 k] [some (3, l.map blkO)] = some (.int .i64 (k + costL coBlk l), [some (3, (mkL mkBlk coBlk k l).map blkO)]) := by
  rw [E_eq t95 (Nat.le_of_ble_eq_true rfl)]
  simp only [F95, h95_2, go_sem, seval, bnd_ite]
  refine (XL_inv (T := T) (b := 1) (hd := H95_2) (x := L95_2) (β := Unit) (fun i _ => ⟨[(0, .sl 0 0 l.length), (1, .int .i64 (k + (costL coBlk (l.take i) : Nat))), (5, .int .i64 (i : Nat))], [some (3, (mkP mkBlk coBlk k l i).map blkO)]⟩)
    (fun i _ => True) l.length (fun r => r.1 = .exit 0 ∧ r.2.mem = [some (3, (mkL mkBlk coBlk k l).map blkO)] ∧ lookA r.2.env 1 = .int .i64 (k + (costL coBlk l : Nat))) ?step ?last 0 () (by omega) trivial).elim ?main
  case step =>
    intro i _ hi _
    obtain ⟨p, hp⟩ := get_at hi
    have hi1 : (i : Int) < (l.length : Int) := by omega
    have hci := costBlk hl hs i
    have hps := hs p (List.mem_of_getElem? hp)
    unfold Blk.sm at hps
    have hcs := costSlt hps
    left
    refine ⟨(), ?_, trivial⟩
    have ms := mkP_set (st := mkBlk) (cost := coBlk) (k := k) hp
    have cs := costL_succ (cost := coBlk) hp
    have gx : ((mkP mkBlk coBlk k l i).map blkO).getD i .undef = .agg [.bool p.dir, .own 2 (p.slots.map slt), .str p.text] := gD_map (mkP_get hp)
    generalize hR : mkP mkBlk coBlk k l i = R at *
    have hml : R.length = l.length := by rw [← hR]; exact mkP_len
    have hmi : i < (R.map blkO).length := by rw [List.length_map, hml]; exact hi
    generalize hK : k + (costL coBlk (l.take i) : Int) = K at *
    have e1 := e190 p.slots (K + 1) (by omega) (by omega) hps
    have sm : (R.map blkO).set i (.agg [.bool (mb K), .own 2 ((mkL mkSlt (fun _ => 2) (K + 1) p.slots).map slt), .str (mtext (K + 1 + costL (fun _ => 2) p.slots))]) = (mkP mkBlk coBlk k l (i + 1)).map blkO := by rw [← ms]; exact set_map (f := blkO) (x := mkBlk K p)
    have e2 : k + ((costL coBlk (l.take (i + 1)) : Nat) : Int) = K + 1 + (costL (fun _ => 2) p.slots : Nat) + 1 := by rw [cs, coBlk]; omega
    generalize hS : costL (fun _ => 2) p.slots = S at *
    have e4 := e162 (K + 1 + S) (by omega) (by omega)
    have it : ((i : Int) + 0).toNat = i := by omega
    have hmk : (mkL mkSlt (fun _ => 2) (K + 1) p.slots).length = p.slots.length := mkL_len
    generalize hM : mkL mkSlt (fun _ => 2) (K + 1) p.slots = M at *
    have htk : (List.map slt M).take p.slots.length = List.map slt M := List.take_of_length_le (by simp [hmk])
    unfold mb at sm
    simp only [XG, L95_2, h95_2, it, go_sem, seval, bnd_ite, hi1, hml, hi, gx, getD_set hmi, List.set_set, Int.natCast_nonneg, w_i64 ((i : Int) + 1) (by omega), w_i64 (K + 1) (by omega), w_i64 (K + 1 + S + 1) (by omega), e1, e4, is_set, blkO_is, hmk, htk, sm]
    rw [e2]; rfl
  case last =>
    intro _ _
    have hml : (mkP mkBlk coBlk k l l.length).length = l.length := mkP_len
    simp only [XG, L95_2, h95_2, go_sem, seval, bnd_ite, hml, Int.lt_irrefl, decide_false]
    exact .mk (by simp) ⟨rfl, by rw [mkP_all], rfl⟩
  case main =>
  rintro ⟨x, e, m⟩ ⟨h1, h2, h3, h4, h5⟩
  have h0' : ((0 : Nat) : Int) = 0 := rfl
  simp only [mkP_0, List.take_zero, costL, h0', Int.add_zero] at h1
  simp only at h3 h4 h5; subst h3; subst h4
  simp only [h1, go_sem, seval, h5]
end Go.Proofs.YtaaajjinpppgeaaGreat
