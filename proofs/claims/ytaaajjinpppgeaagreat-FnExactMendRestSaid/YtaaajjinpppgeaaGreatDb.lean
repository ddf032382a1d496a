/- Disks: copying. Own work; no condition. -/
import Derived.Test.YtaaajjinpppgeaaGreatDa
set_option linter.unusedVariables false
set_option linter.unusedSimpArgs false
set_option linter.unusedSectionVars false
namespace Go.Proofs.YtaaajjinpppgeaaGreat
open Go Go.Abs
set_option maxRecDepth 100000
theorem e233 (l : List Int) (hl : l.length ≤ 1048576) : E T 233 [.ro 1 (l.map iv)] [] = some (.own 1 (l.map iv), []) := by
  rw [E_eq t233 (Nat.le_of_ble_eq_true rfl)]
  simp only [F233, h233_3, go_sem, seval, bnd_ite]
  rw [if_pos ⟨by omega, by omega, by omega⟩]
  have key := XL_fold (T := T) (b := 0) (hd := H233_3) (x := L233_3) l (fun (_ : Unit) _ => ()) (fun i _ => ⟨[(0, .ro 1 (l.map iv)), (3, .sl 0 0 l.length), (4, .int .i64 (i : Nat))], [some (1, fill iv (.int .i64 0) l i)]⟩)
    (r := (.exit 0, ⟨[(11, .bool false), (10, .int .i64 l.length), (9, .ro 1 (l.map iv)), (8, .int .i64 l.length), (0, .ro 1 (l.map iv)), (3, .sl 0 0 l.length), (4, .int .i64 l.length)], [some (1, l.map iv)]⟩)) ?step () ?last
  case step =>
    intro i _ p hp hi
    have hi1 : (i : Int) < (l.length : Int) := by omega
    have fs : (fill iv (.int .i64 0) l i).set i (.int .i64 p) = _ := fill_set (f := iv) (z := .int .i64 0) hp
    simp only [XG, L233_3, h233_3, go_sem, seval, bnd_ite, hi1, gD_map hp, iv, Int.natCast_nonneg, w_i64 ((i : Int) + 1) (by omega), fill_len (Nat.le_of_lt hi), fill_get hi, hi,
      fill_mi _ iv_cool (z := .int .i64 0) rfl, fill_is _ iv_cool (z := .int .i64 0) rfl, is_set]
    rw [fs]; rfl
  case last =>
    refine XL_out ?_ (by simp)
    simp only [XG, L233_3, h233_3, go_sem, seval, bnd_ite, Int.lt_irrefl, decide_false, fill_all]
  have hir : ∀ u n, idsL u (List.replicate n (.int .i64 0 : AV)) = [] := fun u n => is_rep u n _ rfl
  have e0 : ((0 : Nat) : Int) = 0 := rfl
  rw [fill_0, e0] at key
  simp only [key, hir]
  simp only [go_sem, seval, tk_map, Nat.le_refl]
theorem e176 (l : List Bool) (hl : l.length ≤ 1048576) : E T 176 [.ro 1 (l.map bv)] [] = some (.own 1 (l.map bv), []) := by
  rw [E_eq t176 (Nat.le_of_ble_eq_true rfl)]
  simp only [F176, h176_3, go_sem, seval, bnd_ite]
  rw [if_pos ⟨by omega, by omega, by omega⟩]
  have key := XL_fold (T := T) (b := 0) (hd := H176_3) (x := L176_3) l (fun (_ : Unit) _ => ()) (fun i _ => ⟨[(0, .ro 1 (l.map bv)), (3, .sl 0 0 l.length), (4, .int .i64 (i : Nat))], [some (1, fill bv (.bool false) l i)]⟩)
    (r := (.exit 0, ⟨[(11, .bool false), (10, .int .i64 l.length), (9, .ro 1 (l.map bv)), (8, .int .i64 l.length), (0, .ro 1 (l.map bv)), (3, .sl 0 0 l.length), (4, .int .i64 l.length)], [some (1, l.map bv)]⟩)) ?step () ?last
  case step =>
    intro i _ p hp hi
    have hi1 : (i : Int) < (l.length : Int) := by omega
    have fs : (fill bv (.bool false) l i).set i (.bool p) = _ := fill_set (f := bv) (z := .bool false) hp
    simp only [XG, L176_3, h176_3, go_sem, seval, bnd_ite, hi1, gD_map hp, bv, Int.natCast_nonneg, w_i64 ((i : Int) + 1) (by omega), fill_len (Nat.le_of_lt hi), fill_get hi, hi,
      fill_mi _ bv_cool (z := .bool false) rfl, fill_is _ bv_cool (z := .bool false) rfl, is_set]
    rw [fs]; rfl
  case last =>
    refine XL_out ?_ (by simp)
    simp only [XG, L176_3, h176_3, go_sem, seval, bnd_ite, Int.lt_irrefl, decide_false, fill_all]
  have hir : ∀ u n, idsL u (List.replicate n (.bool false : AV)) = [] := fun u n => is_rep u n _ rfl
  have e0 : ((0 : Nat) : Int) = 0 := rfl
  rw [fill_0, e0] at key
  simp only [key, hir]
  simp only [go_sem, seval, tk_map, Nat.le_refl]

theorem e261 (x : Slt) : E T 261 [slt x] [] = some (slt x, []) := by
  rw [E_eq t261 (Nat.le_of_ble_eq_true rfl)]; simp only [slt, F261, go_sem, seval]
theorem t234 : T 234 = some (Fto 2 24 (.agg [.str ⟨#[]⟩, .int .i64 0]) 2 261) := tab Tryz.func234 (by kernel_rfl) rfl
theorem e234 (l : List Slt) (hl : l.length ≤ 1048576) : E T 234 [.ro 2 (l.map slt)] [] = some (.own 2 (l.map slt), []) :=
  gto (cs := fun x : Slt => [.str x.name, .int .i64 x.ino]) t234 (by omega) (fun _ => rfl) rfl (fun _ => rfl) (fun _ _ => rfl) (fun _ => rfl) (fun _ => rfl) rfl (fun _ _ => rfl) (fun _ => rfl) (fun x => e261 x) l hl
theorem e177 (x : Ino) (h : x.sm) : E T 177 [ino x] [] = some (inoO x, []) := by
  rw [E_eq t177 (Nat.le_of_ble_eq_true rfl)]; simp only [ino, inoO, F177, go_sem, seval, e233 x.ptrs h]
theorem e178 (x : Blk) (h : x.sm) : E T 178 [blk x] [] = some (blkO x, []) := by
  rw [E_eq t178 (Nat.le_of_ble_eq_true rfl)]; simp only [blk, blkO, F178, go_sem, seval, e234 x.slots h]
theorem t81 : T 81 = some (Fto 3 40 (.agg [.int .i64 0, .int .i64 0, .nil]) 3 177) := tab Tryz.func81 (by kernel_rfl) rfl
theorem e81 (l : List Ino) (hl : l.length ≤ 1048576) (hs : ∀ x ∈ l, x.sm) : E T 81 [.ro 3 (l.map ino)] [] = some (.own 3 (l.map inoO), []) := by
  rw [E_eq t81 (Nat.le_of_ble_eq_true rfl)]
  simp only [Fto, hto, go_sem, seval, bnd_ite]
  rw [if_pos ⟨by omega, by omega, by omega⟩]
  have key := XL_fold (T := T) (b := 0) (hd := Hto) (x := Lto 3 40 (.agg [.int .i64 0, .int .i64 0, .nil]) 3 177) l (fun (_ : Unit) _ => ()) (fun i _ => ⟨[(0, .ro 3 (l.map ino)), (3, .sl 0 0 l.length), (4, .int .i64 (i : Nat))], [some (3, fill inoO (.agg [.int .i64 0, .int .i64 0, .nil]) l i)]⟩)
    (r := (.exit 0, ⟨[(11, .bool false), (10, .int .i64 l.length), (9, .ro 3 (l.map ino)), (8, .int .i64 l.length), (0, .ro 3 (l.map ino)), (3, .sl 0 0 l.length), (4, .int .i64 l.length)], [some (3, l.map inoO)]⟩)) ?step () ?last
  case step =>
    intro i _ p hp hi
    have hi1 : (i : Int) < (l.length : Int) := by omega
    have fs : (fill inoO (.agg [.int .i64 0, .int .i64 0, .nil]) l i).set i (.agg [.int .i64 p.kind, .int .i64 p.links, .own 1 (p.ptrs.map iv)]) = _ := fill_set (f := inoO) (z := .agg [.int .i64 0, .int .i64 0, .nil]) hp
    have hc := e177 p (hs p (List.mem_of_getElem? hp))
    unfold ino inoO at hc
    simp only [XG, Lto, hto, go_sem, seval, bnd_ite, hi1, gD_map hp, ino, hc, Int.natCast_nonneg, w_i64 ((i : Int) + 1) (by omega), fill_len (Nat.le_of_lt hi), fill_get hi, hi,
      fill_mi _ inoO_cool (z := .agg [.int .i64 0, .int .i64 0, .nil]) rfl, fill_is _ inoO_cool (z := .agg [.int .i64 0, .int .i64 0, .nil]) rfl, is_set]
    rw [fs]; rfl
  case last =>
    refine XL_out ?_ (by simp)
    simp only [XG, Lto, hto, go_sem, seval, bnd_ite, Int.lt_irrefl, decide_false, fill_all]
  have hir : ∀ u n, idsL u (List.replicate n (.agg [.int .i64 0, .int .i64 0, .nil] : AV)) = [] := fun u n => is_rep u n _ rfl
  have e0 : ((0 : Nat) : Int) = 0 := rfl
  rw [fill_0, e0] at key
  simp only [key, hir]
  simp only [go_sem, seval, tk_map, Nat.le_refl]
theorem t82 : T 82 = some (Fto 3 48 (.agg [.bool false, .nil, .str ⟨#[]⟩]) 3 178) := tab Tryz.func82 (by kernel_rfl) rfl
theorem e82 (l : List Blk) (hl : l.length ≤ 1048576) (hs : ∀ x ∈ l, x.sm) : E T 82 [.ro 3 (l.map blk)] [] = some (.own 3 (l.map blkO), []) := by
  rw [E_eq t82 (Nat.le_of_ble_eq_true rfl)]
  simp only [Fto, hto, go_sem, seval, bnd_ite]
  rw [if_pos ⟨by omega, by omega, by omega⟩]
  have key := XL_fold (T := T) (b := 0) (hd := Hto) (x := Lto 3 48 (.agg [.bool false, .nil, .str ⟨#[]⟩]) 3 178) l (fun (_ : Unit) _ => ()) (fun i _ => ⟨[(0, .ro 3 (l.map blk)), (3, .sl 0 0 l.length), (4, .int .i64 (i : Nat))], [some (3, fill blkO (.agg [.bool false, .nil, .str ⟨#[]⟩]) l i)]⟩)
    (r := (.exit 0, ⟨[(11, .bool false), (10, .int .i64 l.length), (9, .ro 3 (l.map blk)), (8, .int .i64 l.length), (0, .ro 3 (l.map blk)), (3, .sl 0 0 l.length), (4, .int .i64 l.length)], [some (3, l.map blkO)]⟩)) ?step () ?last
  case step =>
    intro i _ p hp hi
    have hi1 : (i : Int) < (l.length : Int) := by omega
    have fs : (fill blkO (.agg [.bool false, .nil, .str ⟨#[]⟩]) l i).set i (.agg [.bool p.dir, .own 2 (p.slots.map slt), .str p.text]) = _ := fill_set (f := blkO) (z := .agg [.bool false, .nil, .str ⟨#[]⟩]) hp
    have hc := e178 p (hs p (List.mem_of_getElem? hp))
    unfold blk blkO at hc
    simp only [XG, Lto, hto, go_sem, seval, bnd_ite, hi1, gD_map hp, blk, hc, Int.natCast_nonneg, w_i64 ((i : Int) + 1) (by omega), fill_len (Nat.le_of_lt hi), fill_get hi, hi,
      fill_mi _ blkO_cool (z := .agg [.bool false, .nil, .str ⟨#[]⟩]) rfl, fill_is _ blkO_cool (z := .agg [.bool false, .nil, .str ⟨#[]⟩]) rfl, is_set]
    rw [fs]; rfl
  case last =>
    refine XL_out ?_ (by simp)
    simp only [XG, Lto, hto, go_sem, seval, bnd_ite, Int.lt_irrefl, decide_false, fill_all]
  have hir : ∀ u n, idsL u (List.replicate n (.agg [.bool false, .nil, .str ⟨#[]⟩] : AV)) = [] := fun u n => is_rep u n _ rfl
  have e0 : ((0 : Nat) : Int) = 0 := rfl
  rw [fill_0, e0] at key
  simp only [key, hir]
  simp only [go_sem, seval, tk_map, Nat.le_refl]
theorem e80 (a b : List Bool) (ha : a.length ≤ 1048576) (hb : b.length ≤ 1048576) : E T 80 [.agg [.ro 1 (a.map bv), .ro 1 (b.map bv)]] [] = some (.agg [.own 1 (a.map bv), .own 1 (b.map bv)], []) := by
  rw [E_eq t80 (Nat.le_of_ble_eq_true rfl)]; simp only [F80, go_sem, seval, e176 a ha, e176 b hb]
theorem e21 (x : Dsk) (h : x.sm) : E T 21 [dsk x] [] = some (dskO x, []) := by
  rw [E_eq t21 (Nat.le_of_ble_eq_true rfl)]; simp only [dsk, dskO, F21, go_sem, seval, e80 _ _ h.used h.taken, e81 _ h.inos h.ino, e82 _ h.blks h.blk]
end Go.Proofs.YtaaajjinpppgeaaGreat
