/- Memories: counting, copying, comparing. Own work; no condition. -/
import Derived.Test.YtaaajjinpppgeaaFm
import Derived.Test.YtaaajjinpppgeaaDc
set_option linter.unusedVariables false
set_option linter.unusedSimpArgs false
set_option linter.unusedSectionVars false
namespace Go.Proofs.Ytaaajjinpppgeaa
open Go Go.Abs
set_option maxRecDepth 100000
structure Dp where
  id : Int
  kind : Int
  ino : Int
  ptr : Int
  block : Int
  slot : Int
  name : ByteArray
  bits : Bool
  other : Bool
  after : Int
  blocks : List Int
  deriving DecidableEq
def dp (x : Dp) : AV := .agg [.int .i64 x.id, .int .i64 x.kind, .int .i64 x.ino, .int .i64 x.ptr, .int .i64 x.block, .int .i64 x.slot, .str x.name, .bool x.bits, .bool x.other, .int .i64 x.after, .ro 1 (x.blocks.map iv)]
def dpO (x : Dp) : AV := .agg [.int .i64 x.id, .int .i64 x.kind, .int .i64 x.ino, .int .i64 x.ptr, .int .i64 x.block, .int .i64 x.slot, .str x.name, .bool x.bits, .bool x.other, .int .i64 x.after, .own 1 (x.blocks.map iv)]
def Dp.ok (x : Dp) : Prop := x.name.size ≤ maxLen ∧ x.blocks.length ≤ maxLen
def Dp.sm (x : Dp) : Prop := x.blocks.length ≤ 1048576

theorem dp_cells (x : Dp) : (dp x).cells = [.int .i64 x.id, .int .i64 x.kind, .int .i64 x.ino, .int .i64 x.ptr, .int .i64 x.block, .int .i64 x.slot, .str x.name, .bool x.bits, .bool x.other, .int .i64 x.after, .ro 1 (x.blocks.map iv)] := rfl
theorem dp_cool (x : Dp) : coolX (dp x) = true := rfl
theorem dp_len (x : Dp) : (dp x).cells.length = 11 := rfl
theorem dp_mi (g : Bool → Nat → Nat → Nat → AV) (l : List Dp) : mapIdL g (l.map dp) = l.map dp := mi_map g dp l dp_cool
theorem dp_is (u : Bool → Nat → Nat → Nat → List Nat) (l : List Dp) : idsL u (l.map dp) = [] := is_map u dp l dp_cool
theorem dp_m1 (g : Bool → Nat → Nat → Nat → AV) (x : Dp) : mapId g (dp x) = dp x := ((cool_ids g (fun _ _ _ _ => []) (dp x)).2 (dp_cool x)).1
theorem dp_i1 (u : Bool → Nat → Nat → Nat → List Nat) (x : Dp) : idsV u (dp x) = [] := ((cool_ids (fun _ _ _ _ => .undef) u (dp x)).2 (dp_cool x)).2
theorem dp_coR (l : List Dp) : coolR 11 (l.map dp) = true := coR_map 11 dp l dp_len dp_cool
theorem dp_ice (x : Dp) : ice (dp x) = dp x := rfl
theorem dp_ic (l : List Dp) : iceL (l.map dp) = l.map dp := by rw [ice_m]; exact List.map_congr_left fun x _ => dp_ice x
theorem dp_no (x : Dp) : (dp x).cells.all noOwnC = true := rfl
theorem dp_noL (l : List Dp) : (l.map dp).all (fun x => x.cells.all noOwnC) = true := no_map dp l dp_no
attribute [go_sem] dp_mi dp_is dp_coR dp_ic dp_ice dp_noL

theorem dpO_cells (x : Dp) : (dpO x).cells = [.int .i64 x.id, .int .i64 x.kind, .int .i64 x.ino, .int .i64 x.ptr, .int .i64 x.block, .int .i64 x.slot, .str x.name, .bool x.bits, .bool x.other, .int .i64 x.after, .own 1 (x.blocks.map iv)] := rfl
theorem dpO_cool (x : Dp) : coolX (dpO x) = true := by simp only [dpO, go_sem, Bool.and_self]
theorem dpO_len (x : Dp) : (dpO x).cells.length = 11 := rfl
theorem dpO_mi (g : Bool → Nat → Nat → Nat → AV) (l : List Dp) : mapIdL g (l.map dpO) = l.map dpO := mi_map g dpO l dpO_cool
theorem dpO_is (u : Bool → Nat → Nat → Nat → List Nat) (l : List Dp) : idsL u (l.map dpO) = [] := is_map u dpO l dpO_cool
theorem dpO_m1 (g : Bool → Nat → Nat → Nat → AV) (x : Dp) : mapId g (dpO x) = dpO x := ((cool_ids g (fun _ _ _ _ => []) (dpO x)).2 (dpO_cool x)).1
theorem dpO_i1 (u : Bool → Nat → Nat → Nat → List Nat) (x : Dp) : idsV u (dpO x) = [] := ((cool_ids (fun _ _ _ _ => .undef) u (dpO x)).2 (dpO_cool x)).2
theorem dpO_coR (l : List Dp) : coolR 11 (l.map dpO) = true := coR_map 11 dpO l dpO_len dpO_cool
theorem dpO_ice (x : Dp) : ice (dpO x) = dp x := by simp only [dpO, dp, go_sem]
theorem dpO_ic (l : List Dp) : iceL (l.map dpO) = l.map dp := by rw [ice_m]; exact List.map_congr_left fun x _ => dpO_ice x
theorem dpO_rf (x : Dp) : (dpO x).roFree = true := by simp [dpO, AV.roFree, roFreeL, iv_rfL]
theorem dpO_rfL (l : List Dp) : roFreeL (l.map dpO) = true := rf_map dpO l dpO_rf
attribute [go_sem] dpO_mi dpO_is dpO_coR dpO_ic dpO_ice dpO_rfL
theorem dp_eq (a b : Dp) : a = b ↔ a.id = b.id ∧ a.kind = b.kind ∧ a.ino = b.ino ∧ a.ptr = b.ptr ∧ a.block = b.block ∧ a.slot = b.slot ∧ a.name = b.name ∧ a.bits = b.bits ∧ a.other = b.other ∧ a.after = b.after ∧ a.blocks = b.blocks := by cases a; cases b; simp
theorem e85 (x : Dp) (n : Int) (h0 : 0 ≤ n) (hn : n ≤ 1048576) (hl : x.ok) :
    ∃ r : Int, E T 85 [dp x, .int .i64 n] [] = some (.int .i64 r, []) ∧ -1 ≤ r ∧ r ≤ n ∧ (0 ≤ r → x.sm) := by
  rw [E_eq t85 (Nat.le_of_ble_eq_true rfl)]
  obtain ⟨hl1, hl2⟩ := hl
  unfold maxLen at hl1
  simp only [dp, F85, go_sem, seval, bnd_ite]
  rw [w_i64 (n - (x.name.size : Int)) (by omega)]
  by_cases c1 : n - (x.name.size : Int) < 0
  · rw [if_pos c1]; exact ⟨_, rfl, by omega, by omega, fun h => by omega⟩
  obtain ⟨r, h1, h2, h3, h4⟩ := e182 x.blocks (n - (x.name.size : Int)) (by omega) (by omega) hl2
  rw [if_neg c1]
  simp only [go_sem, seval, bnd_ite, h1]
  by_cases c2 : r < 0
  · rw [if_pos c2]; exact ⟨_, rfl, by omega, by omega, fun h => by omega⟩
  rw [if_neg c2]; exact ⟨_, rfl, by omega, by omega, fun h => h4 (by omega)⟩
theorem t135 : T 135 = some (Fsz 11 11 85) := tab Try.func135 (by kernel_rfl) rfl
theorem e135 (l : List Dp) (n : Int) (h0 : 0 ≤ n) (hn : n ≤ 1048576) (hl : l.length ≤ maxLen) (hok : ∀ x ∈ l, x.ok) :
    ∃ r : Int, E T 135 [.ro 11 (l.map dp), .int .i64 n] [] = some (.int .i64 r, []) ∧ -1 ≤ r ∧ r ≤ n ∧ (0 ≤ r → l.length ≤ 1048576 ∧ ∀ x ∈ l, x.sm) :=
  gsz (ok := Dp.ok) t135 (fun _ => rfl) (fun _ => Nat.le_refl _) (fun _ => rfl) (fun _ => rfl) (fun x r h h0 h1 => e85 x r h0 h1 h) l n h0 hn hl hok
theorem e87 (x : Dp) (h : x.sm) : E T 87 [dp x] [] = some (dpO x, []) := by
  rw [E_eq t87 (Nat.le_of_ble_eq_true rfl)]; simp only [dp, dpO, F87, go_sem, seval, e184 x.blocks h]
theorem t137 : T 137 = some (Fto 11 104 (.agg [.int .i64 0, .int .i64 0, .int .i64 0, .int .i64 0, .int .i64 0, .int .i64 0, .str ⟨#[]⟩, .bool false, .bool false, .int .i64 0, .nil]) 11 87) := tab Try.func137 (by kernel_rfl) rfl
theorem e137 (l : List Dp) (hl : l.length ≤ 1048576) (hs : ∀ x ∈ l, x.sm) : E T 137 [.ro 11 (l.map dp)] [] = some (.own 11 (l.map dpO), []) := by
  rw [E_eq t137 (Nat.le_of_ble_eq_true rfl)]
  simp only [Fto, hto, go_sem, seval, bnd_ite]
  rw [if_pos ⟨by omega, by omega, by omega⟩]
  have key := XL_fold (T := T) (b := 0) (hd := Hto) (x := Lto 11 104 (.agg [.int .i64 0, .int .i64 0, .int .i64 0, .int .i64 0, .int .i64 0, .int .i64 0, .str ⟨#[]⟩, .bool false, .bool false, .int .i64 0, .nil]) 11 87) l (fun (_ : Unit) _ => ()) (fun i _ => ⟨[(0, .ro 11 (l.map dp)), (3, .sl 0 0 l.length), (4, .int .i64 (i : Nat))], [some (11, fill dpO (.agg [.int .i64 0, .int .i64 0, .int .i64 0, .int .i64 0, .int .i64 0, .int .i64 0, .str ⟨#[]⟩, .bool false, .bool false, .int .i64 0, .nil]) l i)]⟩)
    (r := (.exit 0, ⟨[(11, .bool false), (10, .int .i64 l.length), (9, .ro 11 (l.map dp)), (8, .int .i64 l.length), (0, .ro 11 (l.map dp)), (3, .sl 0 0 l.length), (4, .int .i64 l.length)], [some (11, l.map dpO)]⟩)) ?step () ?last
  case step =>
    intro i _ p hp hi
    have hi1 : (i : Int) < (l.length : Int) := by omega
    have fs : (fill dpO (.agg [.int .i64 0, .int .i64 0, .int .i64 0, .int .i64 0, .int .i64 0, .int .i64 0, .str ⟨#[]⟩, .bool false, .bool false, .int .i64 0, .nil]) l i).set i (.agg [.int .i64 p.id, .int .i64 p.kind, .int .i64 p.ino, .int .i64 p.ptr, .int .i64 p.block, .int .i64 p.slot, .str p.name, .bool p.bits, .bool p.other, .int .i64 p.after, .own 1 (p.blocks.map iv)]) = _ := fill_set (f := dpO) (z := .agg [.int .i64 0, .int .i64 0, .int .i64 0, .int .i64 0, .int .i64 0, .int .i64 0, .str ⟨#[]⟩, .bool false, .bool false, .int .i64 0, .nil]) hp
    have hc := e87 p (hs p (List.mem_of_getElem? hp))
    unfold dp dpO at hc
    simp only [XG, Lto, hto, go_sem, seval, bnd_ite, hi1, gD_map hp, dp, hc, Int.natCast_nonneg, w_i64 ((i : Int) + 1) (by omega), fill_len (Nat.le_of_lt hi), fill_get hi, hi,
      fill_mi _ dpO_cool (z := .agg [.int .i64 0, .int .i64 0, .int .i64 0, .int .i64 0, .int .i64 0, .int .i64 0, .str ⟨#[]⟩, .bool false, .bool false, .int .i64 0, .nil]) rfl, fill_is _ dpO_cool (z := .agg [.int .i64 0, .int .i64 0, .int .i64 0, .int .i64 0, .int .i64 0, .int .i64 0, .str ⟨#[]⟩, .bool false, .bool false, .int .i64 0, .nil]) rfl, is_set]
    rw [fs]; rfl
  case last =>
    refine XL_out ?_ (by simp)
    simp only [XG, Lto, hto, go_sem, seval, bnd_ite, Int.lt_irrefl, decide_false, fill_all]
  have hir : ∀ u n, idsL u (List.replicate n (.agg [.int .i64 0, .int .i64 0, .int .i64 0, .int .i64 0, .int .i64 0, .int .i64 0, .str ⟨#[]⟩, .bool false, .bool false, .int .i64 0, .nil] : AV)) = [] := fun u n => is_rep u n _ rfl
  have e0 : ((0 : Nat) : Int) = 0 := rfl
  rw [fill_0, e0] at key
  simp only [key, hir]
  simp only [go_sem, seval, tk_map, Nat.le_refl]
theorem e89 (x y : Dp) (h : x.ok) : E T 89 [dp x, dp y] [] = some (.bool (decide (x = y)), []) := by
  rw [E_eq t89 (Nat.le_of_ble_eq_true rfl)]
  simp only [dp, F89, go_sem, seval, bnd_ite, bdec, bne_dec, dp_eq, e99 _ y.blocks h.2]
  by_cases h0 : x.id = y.id
  case neg => simp [h0]
  simp only [h0, decide_true, Bool.not_true, Bool.false_eq_true, if_false, true_and]
  by_cases h1 : x.kind = y.kind
  case neg => simp [h1]
  simp only [h1, decide_true, Bool.not_true, Bool.false_eq_true, if_false, true_and]
  by_cases h2 : x.ino = y.ino
  case neg => simp [h2]
  simp only [h2, decide_true, Bool.not_true, Bool.false_eq_true, if_false, true_and]
  by_cases h3 : x.ptr = y.ptr
  case neg => simp [h3]
  simp only [h3, decide_true, Bool.not_true, Bool.false_eq_true, if_false, true_and]
  by_cases h4 : x.block = y.block
  case neg => simp [h4]
  simp only [h4, decide_true, Bool.not_true, Bool.false_eq_true, if_false, true_and]
  by_cases h5 : x.slot = y.slot
  case neg => simp [h5]
  simp only [h5, decide_true, Bool.not_true, Bool.false_eq_true, if_false, true_and]
  by_cases h6 : x.name = y.name
  case neg => simp [h6]
  simp only [h6, decide_true, Bool.not_true, Bool.false_eq_true, if_false, true_and]
  by_cases h7 : x.bits = y.bits
  case neg => simp [h7]
  simp only [h7, decide_true, Bool.not_true, Bool.false_eq_true, if_false, true_and]
  by_cases h8 : x.other = y.other
  case neg => simp [h8]
  simp only [h8, decide_true, Bool.not_true, Bool.false_eq_true, if_false, true_and]
  by_cases h9 : x.after = y.after
  case neg => simp [h9]
  simp only [h9, decide_true, Bool.not_true, Bool.false_eq_true, if_false, true_and]
  by_cases hb : x.blocks = y.blocks <;> simp [hb]
theorem t140 : T 140 = some (Feq 11 11 89) := tab Try.func140 (by kernel_rfl) rfl
theorem e140 (xs ys : List Dp) (ha : xs.length ≤ maxLen) (hok : ∀ x ∈ xs, x.ok) : E T 140 [.ro 11 (xs.map dp), .ro 11 (ys.map dp)] [] = some (.bool (decide (xs = ys)), []) :=
  geq' (ok := Dp.ok) t140 (fun _ => rfl) (fun _ => Nat.le_refl _) (fun _ => rfl) (fun _ => rfl) (fun x y h => e89 x y h) xs ys ha hok
structure Mm where
  disk : Dsk
  dirty : List Bool
  deps : List Dp
  next : Int
  deriving DecidableEq
def mm (x : Mm) : AV := .agg [.ro 1 (x.disk.used.map bv), .ro 1 (x.disk.taken.map bv), .ro 3 (x.disk.inos.map ino), .ro 3 (x.disk.blks.map blk), .ro 1 (x.dirty.map bv), .ro 11 (x.deps.map dp), .int .i64 x.next]
def mmO (x : Mm) : AV := .agg [.own 1 (x.disk.used.map bv), .own 1 (x.disk.taken.map bv), .own 3 (x.disk.inos.map inoO), .own 3 (x.disk.blks.map blkO), .own 1 (x.dirty.map bv), .own 11 (x.deps.map dpO), .int .i64 x.next]
structure Mm.ok (x : Mm) : Prop where
  disk : x.disk.ok
  dirty : x.dirty.length ≤ maxLen
  deps : x.deps.length ≤ maxLen
  dep : ∀ y ∈ x.deps, y.ok
structure Mm.sm (x : Mm) : Prop where
  disk : x.disk.sm
  dirty : x.dirty.length ≤ 1048576
  deps : x.deps.length ≤ 1048576
  dep : ∀ y ∈ x.deps, y.sm
theorem e43 (x : Mm) (n : Int) (h0 : 0 ≤ n) (hn : n ≤ 1048576) (hk : x.ok) :
    ∃ r : Int, E T 43 [mm x, .int .i64 n] [] = some (.int .i64 r, []) ∧ -1 ≤ r ∧ r ≤ n ∧ (0 ≤ r → x.sm) := by
  rw [E_eq t43 (Nat.le_of_ble_eq_true rfl)]
  obtain ⟨r, h1, h2, h3, h4⟩ := e38 x.disk n h0 hn hk.disk
  unfold dsk at h1
  simp only [mm, F43, go_sem, seval, bnd_ite, h1]
  by_cases c1 : r < 0
  · rw [if_pos c1]; exact ⟨_, rfl, by omega, by omega, fun h => by omega⟩
  obtain ⟨r2, g1, g2, g3, g4⟩ := e134 x.dirty r (by omega) (by omega) hk.dirty
  rw [if_neg c1]
  simp only [go_sem, seval, bnd_ite, g1]
  by_cases c2 : r2 < 0
  · rw [if_pos c2]; exact ⟨_, rfl, by omega, by omega, fun h => by omega⟩
  obtain ⟨r3, f1, f2, f3, f4⟩ := e135 x.deps r2 (by omega) (by omega) hk.deps hk.dep
  rw [if_neg c2]
  simp only [go_sem, seval, bnd_ite, f1]
  by_cases c3 : r3 < 0
  · rw [if_pos c3]; exact ⟨_, rfl, by omega, by omega, fun h => by omega⟩
  rw [if_neg c3]; exact ⟨_, rfl, by omega, by omega, fun h => ⟨h4 (by omega), g4 (by omega), (f4 (by omega)).1, (f4 (by omega)).2⟩⟩
theorem e45 (x : Mm) (h : x.sm) : E T 45 [mm x] [] = some (mmO x, []) := by
  have c40 := e40 x.disk h.disk
  unfold dsk dskO at c40
  rw [E_eq t45 (Nat.le_of_ble_eq_true rfl)]; simp only [mm, mmO, F45, go_sem, seval, c40, e136 _ h.dirty, e137 _ h.deps h.dep]
theorem mm_eq (a b : Mm) : a = b ↔ a.disk = b.disk ∧ a.dirty = b.dirty ∧ a.deps = b.deps ∧ a.next = b.next := by cases a; cases b; simp
theorem e47 (x y : Mm) (h : x.ok) : E T 47 [mm x, mm y] [] = some (.bool (decide (x = y)), []) := by
  have c42 := e42 x.disk y.disk h.disk
  unfold dsk at c42
  rw [E_eq t47 (Nat.le_of_ble_eq_true rfl)]
  simp only [mm, F47, go_sem, seval, bnd_ite, c42, e139 _ y.dirty h.dirty, e140 _ y.deps h.deps h.dep, mm_eq]
  by_cases h1 : x.disk = y.disk <;> by_cases h2 : x.dirty = y.dirty <;> by_cases h3 : x.deps = y.deps <;> by_cases h4 : x.next = y.next <;> simp [h1, h2, h3, h4]
end Go.Proofs.Ytaaajjinpppgeaa
