/- Part 7 of the texts of a claim, joined by a program of ours (ZYa, Mn, Mo). No condition. -/
import Derived.Test.YtaaajjinpppgeaaDoorP4af
set_option linter.unusedVariables false
set_option linter.unusedSimpArgs false
set_option linter.unusedSectionVars false
namespace Go.Proofs.YtaaajjinpppgeaaDoor
open Go Go.Abs
set_option maxRecDepth 100000
def Heq : List Vw := [.tidy [0, 1, 5] [(0, none), (1, none), (5, none)]]
theorem heq (b : Nat) (s : St) : vwL b Heq s = vwL b [.tidy [0, 1, 5] [(0, none), (1, none), (5, none)]] s := rfl
section
variable {α : Type} [DecidableEq α] {enc : α → AV} {s n f k : Nat}
end
end Go.Proofs.YtaaajjinpppgeaaDoor
namespace Go.Proofs.YtaaajjinpppgeaaDoor
open Go Go.Abs
set_option maxRecDepth 100000
def iv (z : Int) : AV := .int .i64 z
def bv (b : Bool) : AV := .bool b
theorem iv_cool (x : Int) : coolX (iv x) = true := rfl
theorem iv_len (x : Int) : (iv x).cells.length = 1 := rfl
theorem iv_mi (g : Bool → Nat → Nat → Nat → AV) (l : List Int) : mapIdL g (l.map iv) = l.map iv := mi_map g iv l iv_cool
theorem iv_is (u : Bool → Nat → Nat → Nat → List Nat) (l : List Int) : idsL u (l.map iv) = [] := is_map u iv l iv_cool
theorem iv_coR (l : List Int) : coolR 1 (l.map iv) = true := coR_map 1 iv l iv_len iv_cool
theorem iv_ice (x : Int) : ice (iv x) = iv x := rfl
theorem iv_ic (l : List Int) : iceL (l.map iv) = l.map iv := by rw [ice_m]; exact List.map_congr_left fun x _ => iv_ice x
theorem iv_rf (x : Int) : (iv x).roFree = true := rfl
theorem iv_rfL (l : List Int) : roFreeL (l.map iv) = true := rf_map iv l iv_rf
theorem iv_no (x : Int) : (iv x).cells.all noOwnC = true := rfl
theorem iv_noL (l : List Int) : (l.map iv).all (fun x => x.cells.all noOwnC) = true := no_map iv l iv_no
attribute [go_sem] iv_mi iv_is iv_coR iv_ic iv_ice iv_rfL iv_noL
theorem bv_cool (x : Bool) : coolX (bv x) = true := rfl
theorem bv_len (x : Bool) : (bv x).cells.length = 1 := rfl
theorem bv_mi (g : Bool → Nat → Nat → Nat → AV) (l : List Bool) : mapIdL g (l.map bv) = l.map bv := mi_map g bv l bv_cool
theorem bv_is (u : Bool → Nat → Nat → Nat → List Nat) (l : List Bool) : idsL u (l.map bv) = [] := is_map u bv l bv_cool
theorem bv_coR (l : List Bool) : coolR 1 (l.map bv) = true := coR_map 1 bv l bv_len bv_cool
theorem bv_ice (x : Bool) : ice (bv x) = bv x := rfl
theorem bv_ic (l : List Bool) : iceL (l.map bv) = l.map bv := by rw [ice_m]; exact List.map_congr_left fun x _ => bv_ice x
theorem bv_rf (x : Bool) : (bv x).roFree = true := rfl
theorem bv_rfL (l : List Bool) : roFreeL (l.map bv) = true := rf_map bv l bv_rf
theorem bv_no (x : Bool) : (bv x).cells.all noOwnC = true := rfl
theorem bv_noL (l : List Bool) : (l.map bv).all (fun x => x.cells.all noOwnC) = true := no_map bv l bv_no
attribute [go_sem] bv_mi bv_is bv_coR bv_ic bv_ice bv_rfL bv_noL
structure Slt where
  name : ByteArray
  ino : Int
  deriving DecidableEq
def slt (x : Slt) : AV := .agg [.str x.name, .int .i64 x.ino]
def Slt.ok (x : Slt) : Prop := x.name.size ≤ maxLen
theorem slt_cool (x : Slt) : coolX (slt x) = true := rfl
theorem slt_len (x : Slt) : (slt x).cells.length = 2 := rfl
theorem slt_mi (g : Bool → Nat → Nat → Nat → AV) (l : List Slt) : mapIdL g (l.map slt) = l.map slt := mi_map g slt l slt_cool
theorem slt_is (u : Bool → Nat → Nat → Nat → List Nat) (l : List Slt) : idsL u (l.map slt) = [] := is_map u slt l slt_cool
theorem slt_coR (l : List Slt) : coolR 2 (l.map slt) = true := coR_map 2 slt l slt_len slt_cool
theorem slt_ice (x : Slt) : ice (slt x) = slt x := rfl
theorem slt_ic (l : List Slt) : iceL (l.map slt) = l.map slt := by rw [ice_m]; exact List.map_congr_left fun x _ => slt_ice x
theorem slt_rf (x : Slt) : (slt x).roFree = true := rfl
theorem slt_rfL (l : List Slt) : roFreeL (l.map slt) = true := rf_map slt l slt_rf
theorem slt_no (x : Slt) : (slt x).cells.all noOwnC = true := rfl
theorem slt_noL (l : List Slt) : (l.map slt).all (fun x => x.cells.all noOwnC) = true := no_map slt l slt_no
attribute [go_sem] slt_mi slt_is slt_coR slt_ic slt_ice slt_rfL slt_noL
structure Ino where
  kind : Int
  links : Int
  ptrs : List Int
  deriving DecidableEq
def ino (x : Ino) : AV := .agg [.int .i64 x.kind, .int .i64 x.links, .ro 1 (x.ptrs.map iv)]
def inoO (x : Ino) : AV := .agg [.int .i64 x.kind, .int .i64 x.links, .own 1 (x.ptrs.map iv)]
def Ino.ok (x : Ino) : Prop := x.ptrs.length ≤ maxLen
def Ino.sm (x : Ino) : Prop := x.ptrs.length ≤ 1048576
theorem ino_cool (x : Ino) : coolX (ino x) = true := rfl
theorem ino_len (x : Ino) : (ino x).cells.length = 3 := rfl
theorem ino_mi (g : Bool → Nat → Nat → Nat → AV) (l : List Ino) : mapIdL g (l.map ino) = l.map ino := mi_map g ino l ino_cool
theorem ino_is (u : Bool → Nat → Nat → Nat → List Nat) (l : List Ino) : idsL u (l.map ino) = [] := is_map u ino l ino_cool
theorem ino_coR (l : List Ino) : coolR 3 (l.map ino) = true := coR_map 3 ino l ino_len ino_cool
theorem ino_ice (x : Ino) : ice (ino x) = ino x := rfl
theorem ino_ic (l : List Ino) : iceL (l.map ino) = l.map ino := by rw [ice_m]; exact List.map_congr_left fun x _ => ino_ice x
theorem ino_no (x : Ino) : (ino x).cells.all noOwnC = true := rfl
theorem ino_noL (l : List Ino) : (l.map ino).all (fun x => x.cells.all noOwnC) = true := no_map ino l ino_no
attribute [go_sem] ino_mi ino_is ino_coR ino_ic ino_ice ino_noL
theorem inoO_cool (x : Ino) : coolX (inoO x) = true := by simp only [inoO, go_sem, Bool.and_self]
theorem inoO_len (x : Ino) : (inoO x).cells.length = 3 := rfl
theorem inoO_mi (g : Bool → Nat → Nat → Nat → AV) (l : List Ino) : mapIdL g (l.map inoO) = l.map inoO := mi_map g inoO l inoO_cool
theorem inoO_is (u : Bool → Nat → Nat → Nat → List Nat) (l : List Ino) : idsL u (l.map inoO) = [] := is_map u inoO l inoO_cool
theorem inoO_coR (l : List Ino) : coolR 3 (l.map inoO) = true := coR_map 3 inoO l inoO_len inoO_cool
theorem inoO_ice (x : Ino) : ice (inoO x) = ino x := by simp only [inoO, ino, go_sem]
theorem inoO_ic (l : List Ino) : iceL (l.map inoO) = l.map ino := by rw [ice_m]; exact List.map_congr_left fun x _ => inoO_ice x
theorem inoO_rf (x : Ino) : (inoO x).roFree = true := by simp [inoO, AV.roFree, roFreeL, iv_rfL]
theorem inoO_rfL (l : List Ino) : roFreeL (l.map inoO) = true := rf_map inoO l inoO_rf
attribute [go_sem] inoO_mi inoO_is inoO_coR inoO_ic inoO_ice inoO_rfL
structure Blk where
  dir : Bool
  slots : List Slt
  text : ByteArray
  deriving DecidableEq
def blk (x : Blk) : AV := .agg [.bool x.dir, .ro 2 (x.slots.map slt), .str x.text]
def blkO (x : Blk) : AV := .agg [.bool x.dir, .own 2 (x.slots.map slt), .str x.text]
def Blk.ok (x : Blk) : Prop := x.slots.length ≤ maxLen ∧ x.text.size ≤ maxLen ∧ ∀ s ∈ x.slots, s.ok
def Blk.sm (x : Blk) : Prop := x.slots.length ≤ 1048576
theorem blk_cool (x : Blk) : coolX (blk x) = true := rfl
theorem blk_len (x : Blk) : (blk x).cells.length = 3 := rfl
theorem blk_mi (g : Bool → Nat → Nat → Nat → AV) (l : List Blk) : mapIdL g (l.map blk) = l.map blk := mi_map g blk l blk_cool
theorem blk_is (u : Bool → Nat → Nat → Nat → List Nat) (l : List Blk) : idsL u (l.map blk) = [] := is_map u blk l blk_cool
theorem blk_coR (l : List Blk) : coolR 3 (l.map blk) = true := coR_map 3 blk l blk_len blk_cool
theorem blk_ice (x : Blk) : ice (blk x) = blk x := rfl
theorem blk_ic (l : List Blk) : iceL (l.map blk) = l.map blk := by rw [ice_m]; exact List.map_congr_left fun x _ => blk_ice x
theorem blk_no (x : Blk) : (blk x).cells.all noOwnC = true := rfl
theorem blk_noL (l : List Blk) : (l.map blk).all (fun x => x.cells.all noOwnC) = true := no_map blk l blk_no
attribute [go_sem] blk_mi blk_is blk_coR blk_ic blk_ice blk_noL
theorem blkO_cool (x : Blk) : coolX (blkO x) = true := by simp only [blkO, go_sem, Bool.and_self]
theorem blkO_len (x : Blk) : (blkO x).cells.length = 3 := rfl
theorem blkO_mi (g : Bool → Nat → Nat → Nat → AV) (l : List Blk) : mapIdL g (l.map blkO) = l.map blkO := mi_map g blkO l blkO_cool
theorem blkO_is (u : Bool → Nat → Nat → Nat → List Nat) (l : List Blk) : idsL u (l.map blkO) = [] := is_map u blkO l blkO_cool
theorem blkO_coR (l : List Blk) : coolR 3 (l.map blkO) = true := coR_map 3 blkO l blkO_len blkO_cool
theorem blkO_ice (x : Blk) : ice (blkO x) = blk x := by simp only [blkO, blk, go_sem]
theorem blkO_ic (l : List Blk) : iceL (l.map blkO) = l.map blk := by rw [ice_m]; exact List.map_congr_left fun x _ => blkO_ice x
theorem blkO_rf (x : Blk) : (blkO x).roFree = true := by simp [blkO, AV.roFree, roFreeL, slt_rfL]
theorem blkO_rfL (l : List Blk) : roFreeL (l.map blkO) = true := rf_map blkO l blkO_rf
attribute [go_sem] blkO_mi blkO_is blkO_coR blkO_ic blkO_ice blkO_rfL
structure Dsk where
  used : List Bool
  taken : List Bool
  inos : List Ino
  blks : List Blk
  deriving DecidableEq
def dsk (x : Dsk) : AV := .agg [.ro 1 (x.used.map bv), .ro 1 (x.taken.map bv), .ro 3 (x.inos.map ino), .ro 3 (x.blks.map blk)]
def dskO (x : Dsk) : AV := .agg [.own 1 (x.used.map bv), .own 1 (x.taken.map bv), .own 3 (x.inos.map inoO), .own 3 (x.blks.map blkO)]
structure Dsk.ok (x : Dsk) : Prop where
  used : x.used.length ≤ maxLen
  taken : x.taken.length ≤ maxLen
  inos : x.inos.length ≤ maxLen
  blks : x.blks.length ≤ maxLen
  ino : ∀ y ∈ x.inos, y.ok
  blk : ∀ y ∈ x.blks, y.ok
structure Dsk.sm (x : Dsk) : Prop where
  used : x.used.length ≤ 1048576
  taken : x.taken.length ≤ 1048576
  inos : x.inos.length ≤ 1048576
  blks : x.blks.length ≤ 1048576
  ino : ∀ y ∈ x.inos, y.sm
  blk : ∀ y ∈ x.blks, y.sm
end Go.Proofs.YtaaajjinpppgeaaDoor
namespace Go.Proofs.YtaaajjinpppgeaaDoor
open Go Go.Abs
set_option maxRecDepth 100000
structure Dp where
  id : Int
  kind : Int
  ino : Int
  ptr : Int
  block : Int
  slot : Int
  name : ByteArray
  bits : Bool
  other : Bool
  after : Int
  blocks : List Int
  deriving DecidableEq
def dp (x : Dp) : AV := .agg [.int .i64 x.id, .int .i64 x.kind, .int .i64 x.ino, .int .i64 x.ptr, .int .i64 x.block, .int .i64 x.slot, .str x.name, .bool x.bits, .bool x.other, .int .i64 x.after, .ro 1 (x.blocks.map iv)]
def dpO (x : Dp) : AV := .agg [.int .i64 x.id, .int .i64 x.kind, .int .i64 x.ino, .int .i64 x.ptr, .int .i64 x.block, .int .i64 x.slot, .str x.name, .bool x.bits, .bool x.other, .int .i64 x.after, .own 1 (x.blocks.map iv)]
def Dp.ok (x : Dp) : Prop := x.name.size ≤ maxLen ∧ x.blocks.length ≤ maxLen
def Dp.sm (x : Dp) : Prop := x.blocks.length ≤ 1048576
theorem dp_cool (x : Dp) : coolX (dp x) = true := rfl
theorem dp_len (x : Dp) : (dp x).cells.length = 11 := rfl
theorem dp_mi (g : Bool → Nat → Nat → Nat → AV) (l : List Dp) : mapIdL g (l.map dp) = l.map dp := mi_map g dp l dp_cool
theorem dp_is (u : Bool → Nat → Nat → Nat → List Nat) (l : List Dp) : idsL u (l.map dp) = [] := is_map u dp l dp_cool
theorem dp_coR (l : List Dp) : coolR 11 (l.map dp) = true := coR_map 11 dp l dp_len dp_cool
theorem dp_ice (x : Dp) : ice (dp x) = dp x := rfl
theorem dp_ic (l : List Dp) : iceL (l.map dp) = l.map dp := by rw [ice_m]; exact List.map_congr_left fun x _ => dp_ice x
theorem dp_no (x : Dp) : (dp x).cells.all noOwnC = true := rfl
theorem dp_noL (l : List Dp) : (l.map dp).all (fun x => x.cells.all noOwnC) = true := no_map dp l dp_no
attribute [go_sem] dp_mi dp_is dp_coR dp_ic dp_ice dp_noL
theorem dpO_cool (x : Dp) : coolX (dpO x) = true := by simp only [dpO, go_sem, Bool.and_self]
theorem dpO_len (x : Dp) : (dpO x).cells.length = 11 := rfl
theorem dpO_mi (g : Bool → Nat → Nat → Nat → AV) (l : List Dp) : mapIdL g (l.map dpO) = l.map dpO := mi_map g dpO l dpO_cool
theorem dpO_is (u : Bool → Nat → Nat → Nat → List Nat) (l : List Dp) : idsL u (l.map dpO) = [] := is_map u dpO l dpO_cool
theorem dpO_coR (l : List Dp) : coolR 11 (l.map dpO) = true := coR_map 11 dpO l dpO_len dpO_cool
theorem dpO_ice (x : Dp) : ice (dpO x) = dp x := by simp only [dpO, dp, go_sem]
theorem dpO_ic (l : List Dp) : iceL (l.map dpO) = l.map dp := by rw [ice_m]; exact List.map_congr_left fun x _ => dpO_ice x
theorem dpO_rf (x : Dp) : (dpO x).roFree = true := by simp [dpO, AV.roFree, roFreeL, iv_rfL]
theorem dpO_rfL (l : List Dp) : roFreeL (l.map dpO) = true := rf_map dpO l dpO_rf
attribute [go_sem] dpO_mi dpO_is dpO_coR dpO_ic dpO_ice dpO_rfL
structure Mm where
  disk : Dsk
  dirty : List Bool
  deps : List Dp
  next : Int
  deriving DecidableEq
def mm (x : Mm) : AV := .agg [.ro 1 (x.disk.used.map bv), .ro 1 (x.disk.taken.map bv), .ro 3 (x.disk.inos.map ino), .ro 3 (x.disk.blks.map blk), .ro 1 (x.dirty.map bv), .ro 11 (x.deps.map dp), .int .i64 x.next]
def mmO (x : Mm) : AV := .agg [.own 1 (x.disk.used.map bv), .own 1 (x.disk.taken.map bv), .own 3 (x.disk.inos.map inoO), .own 3 (x.disk.blks.map blkO), .own 1 (x.dirty.map bv), .own 11 (x.deps.map dpO), .int .i64 x.next]
structure Mm.ok (x : Mm) : Prop where
  disk : x.disk.ok
  dirty : x.dirty.length ≤ maxLen
  deps : x.deps.length ≤ maxLen
  dep : ∀ y ∈ x.deps, y.ok
structure Mm.sm (x : Mm) : Prop where
  disk : x.disk.sm
  dirty : x.dirty.length ≤ 1048576
  deps : x.deps.length ≤ 1048576
  dep : ∀ y ∈ x.deps, y.sm
end Go.Proofs.YtaaajjinpppgeaaDoor
namespace Go.Proofs.YtaaajjinpppgeaaDoor
open Go Go.Abs
set_option maxRecDepth 100000
def inside (x a b : Int) : Bool := decide (a ≤ x) && decide (x ≤ b)
theorem e48i (x a b : Int) : E T 48 [.int .i64 x, .int .i64 a, .int .i64 b] [] = some (.bool (inside x a b), []) := by
  rw [E_eq t48 (Nat.le_of_ble_eq_true rfl)]; simp only [F48, go_sem, seval]; rfl
theorem e99 (l : List Int) (hl : l.length ≤ 1048576) : E T 99 [.ro 1 (l.map iv)] [] = some (.own 1 (l.map iv), []) := by
  rw [E_eqW t99 (Nat.le_of_ble_eq_true rfl)]
  cases l with
  | nil => simp only [F99, go_sem, seval, bnd_ite]
  | cons x xs =>
    have e := iv_mi
    have h : (xs.length + 1) * 8 ≤ 140737488355328 := by simp only [List.length_cons] at hl; omega
    simp only [F99, iv, go_sem, seval, bnd_ite, h]
theorem e89 (x : Ino) (h : x.sm) : E T 89 [ino x] [] = some (inoO x, []) := by
  rw [E_eqW t89 (Nat.le_of_ble_eq_true rfl)]
  have e1 := e99 x.ptrs h
  have htk : (List.map iv x.ptrs).take x.ptrs.length = List.map iv x.ptrs := List.take_of_length_le (by simp)
  simp only [ino, F89, go_sem, seval, bnd_ite, e1, inoO, htk]
theorem e55 (x : Ino) (h : x.sm) : E T 55 [ino x] [] = some (inoO x, []) := by
  rw [E_eqW t55 (Nat.le_of_ble_eq_true rfl)]
  obtain ⟨a, b, l⟩ := x
  cases l with
  | nil => simp only [ino, F55, go_sem, seval, bnd_ite, inoO]
  | cons y ys =>
    have h : (ys.length + 1) * 8 ≤ 140737488355328 := by unfold Ino.sm at h; simp only [List.length_cons] at h; omega
    simp only [ino, F55, iv, go_sem, seval, bnd_ite, h, inoO]
end Go.Proofs.YtaaajjinpppgeaaDoor
namespace Go.Proofs.YtaaajjinpppgeaaDoor
open Go Go.Abs
set_option maxRecDepth 100000
def blk0 : Blk := ⟨false, [], ⟨#[]⟩⟩
theorem e90 (x : Blk) (h : x.sm) : E T 90 [blk x] [] = some (blkO x, []) := by
  rw [E_eqW t90 (Nat.le_of_ble_eq_true rfl)]
  obtain ⟨a, l, b⟩ := x
  cases l with
  | nil => simp only [blk, F90, go_sem, seval, bnd_ite, blkO]
  | cons y ys =>
    have h : (ys.length + 1) * 24 ≤ 140737488355328 := by unfold Blk.sm at h; simp only [List.length_cons] at h; omega
    simp only [blk, F90, slt, go_sem, seval, bnd_ite, h, blkO]
theorem e56 (x : Blk) (h : x.sm) : E T 56 [blk x] [] = some (blkO x, []) := by
  rw [E_eqW t56 (Nat.le_of_ble_eq_true rfl)]
  obtain ⟨a, l, b⟩ := x
  cases l with
  | nil => simp only [blk, F56, go_sem, seval, bnd_ite, blkO]
  | cons y ys =>
    have h : (ys.length + 1) * 24 ≤ 140737488355328 := by unfold Blk.sm at h; simp only [List.length_cons] at h; omega
    simp only [blk, F56, slt, go_sem, seval, bnd_ite, h, blkO]
theorem e46n (x : Dsk) (i : Int) (hc : inside i 1 x.blks.length = false) : E T 46 [dsk x, .int .i64 i] [] = some (blk blk0, []) := by
  rw [E_eqW t46 (Nat.le_of_ble_eq_true rfl)]
  simp only [dsk, F46, go_sem, seval, bnd_ite, e48i, hc, blk, blk0, List.map_nil]
theorem e46 (x : Dsk) (i : Int) (hl : x.blks.length ≤ 1048576) (hc : inside i 1 x.blks.length = true) (p : Blk) (hp : x.blks[(i - 1).toNat]? = some p) : E T 46 [dsk x, .int .i64 i] [] = some (blk p, []) := by
  rw [E_eqW t46 (Nat.le_of_ble_eq_true rfl)]
  have hc' := hc
  simp only [inside, Bool.and_eq_true, decide_eq_true_eq] at hc'
  have gp : (x.blks.map blk).getD (i - 1).toNat .undef = .agg [.bool p.dir, .ro 2 (p.slots.map slt), .str p.text] := gD_map hp
  have b1 : 0 ≤ i - 1 := by omega
  have b2 : i - 1 < (x.blks.length : Int) := by omega
  simp only [dsk, F46, go_sem, seval, bnd_ite, e48i, hc, gp, b1, b2, w_i64 (i - 1) (by omega), blk]
end Go.Proofs.YtaaajjinpppgeaaDoor
namespace Go.Proofs.YtaaajjinpppgeaaDoor
open Go Go.Abs
section
variable {T : FuncId → Option EF} {b : Nat} {hd : List Vw} {x : EC} {α β : Type}
theorem XL_each (l : List α) (f : β → α → β) (S : Nat → β → St) (I : Nat → β → Prop) (Q : β → AX × St → Prop)
    (step : ∀ i a p, l[i]? = some p → i < l.length → I i a → XG T b hd x (S i a) = some (.normal, S (i + 1) (f a p)) ∧ I (i + 1) (f a p))
    (last : ∀ a, I l.length a → Stops (XG T b hd x (S l.length a)) (Q a)) (a : β) (ha : I 0 a) : ∃ r, XL T b hd x (S 0 a) = some r ∧ Q (l.foldl f a) r := by
  have key : ∀ k i a, i + k = l.length → I i a → ∃ r, XL T b hd x (S i a) = some r ∧ Q ((l.drop i).foldl f a) r := by
    intro k
    induction k with
    | zero =>
      intro i a hi hI
      have : i = l.length := by omega
      subst this
      obtain ⟨r, h1, h2, h3⟩ := last a hI
      exact ⟨r, XL_out h1 h2, by simpa using h3⟩
    | succ k ih =>
      intro i a hi hI
      have hlt : i < l.length := by omega
      obtain ⟨h1, h2⟩ := step i a l[i] (by simp [hlt]) hlt hI
      obtain ⟨r, h3, h4⟩ := ih (i + 1) (f a l[i]) (by omega) h2
      refine ⟨r, by rw [XL_eq, h1]; exact h3, ?_⟩
      rw [List.drop_eq_getElem_cons hlt]; exact h4
  obtain ⟨r, h1, h2⟩ := key l.length 0 a (by omega) ha
  exact ⟨r, h1, by simpa using h2⟩
theorem XL_find (l : List α) (P : α → Bool) (S : Nat → St) (Q : Option Nat → AX × St → Prop)
    (step : ∀ i p, l[i]? = some p → i < l.length → P p = false → (∀ q ∈ l.take i, P q = false) → XG T b hd x (S i) = some (.normal, S (i + 1)))
    (hit : ∀ i p, l[i]? = some p → i < l.length → P p = true → (∀ q ∈ l.take i, P q = false) → Stops (XG T b hd x (S i)) (Q (some i)))
    (last : (∀ q ∈ l, P q = false) → Stops (XG T b hd x (S l.length)) (Q none)) : ∃ r, XL T b hd x (S 0) = some r ∧ Q (l.findIdx? P) r := by
  have key : ∀ k i, i + k = l.length → (∀ q ∈ l.take i, P q = false) → ∃ r, XL T b hd x (S i) = some r ∧ Q (((l.drop i).findIdx? P).map (· + i)) r := by
    intro k
    induction k with
    | zero =>
      intro i hi hp
      have : i = l.length := by omega
      subst this
      rw [List.take_length] at hp
      obtain ⟨r, h1, h2, h3⟩ := last hp
      exact ⟨r, XL_out h1 h2, by simpa using h3⟩
    | succ k ih =>
      intro i hi hp
      have hlt : i < l.length := by omega
      have hg : l[i]? = some l[i] := by simp [hlt]
      rw [List.drop_eq_getElem_cons hlt, List.findIdx?_cons]
      cases hP : P l[i] with
      | true =>
        obtain ⟨r, h1, h2, h3⟩ := hit i l[i] hg hlt hP hp
        exact ⟨r, XL_out h1 h2, by simpa [hP] using h3⟩
      | false =>
        have h1 := step i l[i] hg hlt hP hp
        obtain ⟨r, h3, h4⟩ := ih (i + 1) (by omega) (fun q hq => by
          rw [take_snoc hg, List.mem_append, List.mem_singleton] at hq
          rcases hq with hq | rfl
          · exact hp q hq
          · exact hP)
        refine ⟨r, by rw [XL_eq, h1]; exact h3, ?_⟩
        rw [if_neg (by simp)]
        have e : ((((l.drop (i + 1)).findIdx? P).map (· + 1)).map (· + i)) = ((l.drop (i + 1)).findIdx? P).map (· + (i + 1)) := by
          cases (l.drop (i + 1)).findIdx? P with
          | none => rfl
          | some n => simp only [Option.map_some]; congr 1; omega
        rw [e]; exact h4
  obtain ⟨r, h1, h2⟩ := key l.length 0 (by omega) (by simp)
  refine ⟨r, h1, ?_⟩
  have e : ((l.drop 0).findIdx? P).map (· + 0) = l.findIdx? P := by cases h : l.findIdx? P <;> simp [h]
  rw [e] at h2; exact h2
end
theorem XL_all {T : FuncId → Option EF} {b : Nat} {hd : List Vw} {x : EC} {α : Type} (l : List α) (P : α → Bool) (S : Nat → St) (Qx Qr : AX × St → Prop)
    (step : ∀ i p, l[i]? = some p → i < l.length → P p = true → (∀ q ∈ l.take i, P q = true) → XG T b hd x (S i) = some (.normal, S (i + 1)))
    (hit : ∀ i p, l[i]? = some p → i < l.length → P p = false → (∀ q ∈ l.take i, P q = true) → Stops (XG T b hd x (S i)) Qr)
    (last : (∀ q ∈ l, P q = true) → Stops (XG T b hd x (S l.length)) Qx) : ∃ r, XL T b hd x (S 0) = some r ∧ (l.all P = true ∧ Qx r ∨ l.all P = false ∧ Qr r) := by
  obtain ⟨r, h1, h2⟩ := XL_find (T := T) (b := b) (hd := hd) (x := x) l (fun p => !P p) S (fun o r => (o = none → Qx r) ∧ (o ≠ none → Qr r))
    (fun i p h1 h2 h3 h4 => step i p h1 h2 (by simpa using h3) (fun q hq => by simpa using h4 q hq))
    (fun i p h1 h2 h3 h4 => by
      obtain ⟨r, k1, k2, k3⟩ := hit i p h1 h2 (by simpa using h3) (fun q hq => by simpa using h4 q hq)
      exact ⟨r, k1, k2, by simp, fun _ => k3⟩)
    (fun h => by
      obtain ⟨r, k1, k2, k3⟩ := last (fun q hq => by simpa using h q hq)
      exact ⟨r, k1, k2, fun _ => k3, by simp⟩)
  refine ⟨r, h1, ?_⟩
  cases e : l.all P with
  | true => exact .inl ⟨rfl, h2.1 (by simpa using e)⟩
  | false => exact .inr ⟨rfl, h2.2 (by simpa using e)⟩
theorem find_none {α : Type} {l : List α} {P : α → Bool} : l.findIdx? P = none ↔ ∀ q ∈ l, P q = false := by simp
end Go.Proofs.YtaaajjinpppgeaaDoor
namespace Go.Proofs.YtaaajjinpppgeaaDoor
open Go Go.Abs
set_option maxRecDepth 100000
theorem e58 (l : List Bool) (hl : l.length ≤ 1048576) : E T 58 [.ro 1 (l.map bv)] [] = some (.own 1 (l.map bv), []) := by
  rw [E_eqW t58 (Nat.le_of_ble_eq_true rfl)]
  cases l with
  | nil => simp only [F58, go_sem, seval, bnd_ite]
  | cons x xs =>
    have h : (xs.length + 1) * 1 ≤ 140737488355328 := by simp only [List.length_cons] at hl; omega
    simp only [F58, bv, go_sem, seval, bnd_ite, h]
theorem e88 (a b : List Bool) (ha : a.length ≤ 1048576) (hb : b.length ≤ 1048576) : E T 88 [.agg [.ro 1 (a.map bv), .ro 1 (b.map bv)]] [] = some (.agg [.own 1 (a.map bv), .own 1 (b.map bv)], []) := by
  rw [E_eqW t88 (Nat.le_of_ble_eq_true rfl)]
  have e1 := e58 a ha
  have e2 := e58 b hb
  have t1 : (a.map bv).take a.length = a.map bv := List.take_of_length_le (by simp)
  have t2 : (b.map bv).take b.length = b.map bv := List.take_of_length_le (by simp)
  simp only [F88, go_sem, seval, bnd_ite, e1, e2, t1, t2]
theorem e54 (a b : List Bool) (ha : a.length ≤ 1048576) (hb : b.length ≤ 1048576) : E T 54 [.agg [.ro 1 (a.map bv), .ro 1 (b.map bv)]] [] = some (.agg [.own 1 (a.map bv), .own 1 (b.map bv)], []) := by
  rw [E_eqW t54 (Nat.le_of_ble_eq_true rfl)]
  cases a with
  | nil =>
    cases b with
    | nil => simp only [F54, go_sem, seval, bnd_ite]
    | cons y ys =>
      have h : (ys.length + 1) * 1 ≤ 140737488355328 := by simp only [List.length_cons] at hb; omega
      simp only [F54, bv, go_sem, seval, bnd_ite, h]
  | cons x xs =>
    have h1 : (xs.length + 1) * 1 ≤ 140737488355328 := by simp only [List.length_cons] at ha; omega
    cases b with
    | nil => simp only [F54, bv, go_sem, seval, bnd_ite, h1]
    | cons y ys =>
      have h : (ys.length + 1) * 1 ≤ 140737488355328 := by simp only [List.length_cons] at hb; omega
      simp only [F54, bv, go_sem, seval, bnd_ite, h, h1]
theorem take_map {α : Type} {f : α → AV} {l : List α} {i : Nat} {p : α} (hp : l[i]? = some p) : (l.take i).map f ++ [f p] = (l.take (i + 1)).map f := by rw [take_snoc hp, List.map_append]; rfl
theorem takes_len {α : Type} {f : α → AV} {l : List α} {i : Nat} (hi : i ≤ l.length) : ((l.take i).map f).length = i := by rw [List.length_map, List.length_take]; omega
theorem snoc_facts {α : Type} {f : α → AV} (hc : ∀ x, coolX (f x) = true) {l : List α} {i : Nat} {p : α} (hp : l[i]? = some p) :
    ∃ M, (l.take i).map f = M ∧ M.length = i ∧ (∀ g, mapIdL g M = M) ∧ (∀ u, idsL u M = []) ∧ M.take i = M ∧ M ++ [f p] = (l.take (i + 1)).map f := by
  have hi := (List.getElem?_eq_some_iff.1 hp).1
  have hl : ((l.take i).map f).length = i := takes_len (Nat.le_of_lt hi)
  exact ⟨_, rfl, hl, fun g => mi_map g f _ hc, fun u => is_map u f _ hc, List.take_of_length_le (by omega), take_map hp⟩
def cpBox (x : Dsk) : AV := .agg [.ro 1 (x.used.map bv), .ro 1 (x.taken.map bv), .ro 3 (x.inos.map ino), .ro 3 (x.blks.map blk)]
theorem in159a (x : Dsk) (h : x.sm) : ∃ r, XL T 0 H57_3 L57_3 ⟨[(1, .ptr 0 0 0), (2, .ptr 1 0 0), (3, .ptr 2 0 0), (13, .ro 3 (x.inos.map ino)), (14, .int .i64 x.inos.length), (15, .int .i64 0)],
      [some (4, [cpBox x]), some (4, [.agg [.nil, .nil, .nil, .nil]]), some (4, [.agg [.own 1 (x.used.map bv), .own 1 (x.taken.map bv), .sl 3 0 0, .nil]]), some (3, [])]⟩ = some r ∧
    (r.1 = .exit 0 ∧ lookA r.2.env 1 = .ptr 0 0 0 ∧ lookA r.2.env 2 = .ptr 1 0 0 ∧ lookA r.2.env 3 = .ptr 2 0 0 ∧
      r.2.mem = [some (4, [cpBox x]), some (4, [.agg [.nil, .nil, .nil, .nil]]), some (4, [.agg [.own 1 (x.used.map bv), .own 1 (x.taken.map bv), .sl 3 0 x.inos.length, .nil]]), some (3, x.inos.map inoO)]) := by
  have hl := h.inos
  refine XL_each x.inos (fun (_ : Unit) _ => ()) (fun i _ => ⟨[(1, .ptr 0 0 0), (2, .ptr 1 0 0), (3, .ptr 2 0 0), (13, .ro 3 (x.inos.map ino)), (14, .int .i64 x.inos.length), (15, .int .i64 (i : Nat))],
      [some (4, [cpBox x]), some (4, [.agg [.nil, .nil, .nil, .nil]]), some (4, [.agg [.own 1 (x.used.map bv), .own 1 (x.taken.map bv), .sl 3 0 i, .nil]]), some (3, (x.inos.take i).map inoO)]⟩) (fun _ _ => True)
    (fun _ r => r.1 = .exit 0 ∧ lookA r.2.env 1 = .ptr 0 0 0 ∧ lookA r.2.env 2 = .ptr 1 0 0 ∧ lookA r.2.env 3 = .ptr 2 0 0 ∧
      r.2.mem = [some (4, [cpBox x]), some (4, [.agg [.nil, .nil, .nil, .nil]]), some (4, [.agg [.own 1 (x.used.map bv), .own 1 (x.taken.map bv), .sl 3 0 x.inos.length, .nil]]), some (3, x.inos.map inoO)]) ?step ?last () trivial
  case step =>
    intro i _ p hp hi _
    refine ⟨?_, trivial⟩
    have hi1 : (i : Int) < (x.inos.length : Int) := by omega
    have gp : (x.inos.map ino).getD i .undef = .agg [.int .i64 p.kind, .int .i64 p.links, .ro 1 (p.ptrs.map iv)] := gD_map hp
    have e1 := e89 p (h.ino p (List.mem_of_getElem? hp))
    unfold ino inoO at e1
    obtain ⟨M, hM, ml, mi, ms, mt, ma⟩ := snoc_facts inoO_cool hp
    unfold inoO at ma
    have htk : (List.map iv p.ptrs).take p.ptrs.length = List.map iv p.ptrs := List.take_of_length_le (by simp)
    have hap : (i + 1) * 40 ≤ 140737488355328 := by omega
    unfold cpBox
    simp only [hM]
    simp only [XG, L57_3, h57_3, go_sem, seval, bnd_ite, hi1, gp, e1, htk, ml, mi, ms, mt, ma, hap, Int.natCast_nonneg, w_i64 ((i : Int) + 1) (by omega)]
    rfl
  case last =>
    intro _ _
    unfold cpBox
    simp only [XG, L57_3, h57_3, go_sem, seval, bnd_ite, Int.lt_irrefl, decide_false]
    exact .mk (by simp) ⟨rfl, rfl, rfl, rfl, rfl⟩
theorem in159b (x : Dsk) (h : x.sm) : ∃ r, XL T 0 H57_9 L57_9 ⟨[(2, .ptr 0 0 0), (3, .ptr 1 0 0), (28, .ro 3 (x.blks.map blk)), (29, .int .i64 x.blks.length), (30, .int .i64 0)],
      [some (4, [.agg [.nil, .nil, .nil, .nil]]), some (4, [.agg [.own 1 (x.used.map bv), .own 1 (x.taken.map bv), .own 3 (x.inos.map inoO), .sl 2 0 0]]), some (3, [])]⟩ = some r ∧
    (r.1 = .exit 2 ∧ lookA r.2.env 2 = .ptr 0 0 0 ∧ lookA r.2.env 3 = .ptr 1 0 0 ∧
      r.2.mem = [some (4, [.agg [.nil, .nil, .nil, .nil]]), some (4, [.agg [.own 1 (x.used.map bv), .own 1 (x.taken.map bv), .own 3 (x.inos.map inoO), .sl 2 0 x.blks.length]]), some (3, x.blks.map blkO)]) := by
  have hl := h.blks
  refine XL_each x.blks (fun (_ : Unit) _ => ()) (fun i _ => ⟨[(2, .ptr 0 0 0), (3, .ptr 1 0 0), (28, .ro 3 (x.blks.map blk)), (29, .int .i64 x.blks.length), (30, .int .i64 (i : Nat))],
      [some (4, [.agg [.nil, .nil, .nil, .nil]]), some (4, [.agg [.own 1 (x.used.map bv), .own 1 (x.taken.map bv), .own 3 (x.inos.map inoO), .sl 2 0 i]]), some (3, (x.blks.take i).map blkO)]⟩) (fun _ _ => True)
    (fun _ r => r.1 = .exit 2 ∧ lookA r.2.env 2 = .ptr 0 0 0 ∧ lookA r.2.env 3 = .ptr 1 0 0 ∧
      r.2.mem = [some (4, [.agg [.nil, .nil, .nil, .nil]]), some (4, [.agg [.own 1 (x.used.map bv), .own 1 (x.taken.map bv), .own 3 (x.inos.map inoO), .sl 2 0 x.blks.length]]), some (3, x.blks.map blkO)]) ?step ?last () trivial
  case step =>
    intro i _ p hp hi _
    refine ⟨?_, trivial⟩
    have hi1 : (i : Int) < (x.blks.length : Int) := by omega
    have gp : (x.blks.map blk).getD i .undef = .agg [.bool p.dir, .ro 2 (p.slots.map slt), .str p.text] := gD_map hp
    have e1 := e90 p (h.blk p (List.mem_of_getElem? hp))
    unfold blk blkO at e1
    obtain ⟨M, hM, ml, mi, ms, mt, ma⟩ := snoc_facts blkO_cool hp
    unfold blkO at ma
    have htk : (List.map slt p.slots).take p.slots.length = List.map slt p.slots := List.take_of_length_le (by simp)
    have hap : (i + 1) * 48 ≤ 140737488355328 := by omega
    simp only [hM]
    simp only [XG, L57_9, h57_9, go_sem, seval, bnd_ite, hi1, gp, e1, htk, ml, mi, ms, mt, ma, hap, Int.natCast_nonneg, w_i64 ((i : Int) + 1) (by omega)]
    rfl
  case last =>
    intro _ _
    simp only [XG, L57_9, h57_9, go_sem, seval, bnd_ite, Int.lt_irrefl, decide_false]
    exact .mk (by simp) ⟨rfl, rfl, rfl, rfl⟩
theorem e57 (x : Dsk) (h : x.sm) : E T 57 [dsk x] [] = some (dskO x, []) := by
  rw [E_eq t57 (Nat.le_of_ble_eq_true rfl)]
  have e1 := e88 x.used x.taken h.used h.taken
  obtain ⟨⟨y, e, m⟩, k1, kx, k2, k3, k4, km⟩ := in159a x h
  simp only at kx k2 k3 k4 km; subst kx; subst km
  obtain ⟨⟨y, e', m⟩, l1, lx, l2, l3, lm⟩ := in159b x h
  simp only at lx l2 l3 lm; subst lx; subst lm
  unfold cpBox at k1
  have t1 : (x.used.map bv).take x.used.length = x.used.map bv := List.take_of_length_le (by simp)
  have t2 : (x.taken.map bv).take x.taken.length = x.taken.map bv := List.take_of_length_le (by simp)
  have t3 : (x.inos.map inoO).take x.inos.length = x.inos.map inoO := List.take_of_length_le (by simp)
  have t4 : (x.blks.map blkO).take x.blks.length = x.blks.map blkO := List.take_of_length_le (by simp)
  simp only [dsk, F57, cpBox, h57_3, h57_9, go_sem, seval, bnd_ite, e1, k1, k2, k3, k4, l1, l2, l3, dskO, t1, t2, t3, t4]
theorem in158a (x : Dsk) (h : x.sm) : ∃ r, XL T 0 H25_3 L25_3 ⟨[(1, .ptr 0 0 0), (2, .ptr 1 0 0), (3, .ptr 2 0 0), (4, .int .i64 0)],
      [some (4, [cpBox x]), some (4, [.agg [.nil, .nil, .nil, .nil]]), some (4, [.agg [.own 1 (x.used.map bv), .own 1 (x.taken.map bv), .sl 3 0 0, .nil]]), some (3, [])]⟩ = some r ∧
    (r.1 = .exit 0 ∧ lookA r.2.env 1 = .ptr 0 0 0 ∧ lookA r.2.env 2 = .ptr 1 0 0 ∧ lookA r.2.env 3 = .ptr 2 0 0 ∧
      r.2.mem = [some (4, [cpBox x]), some (4, [.agg [.nil, .nil, .nil, .nil]]), some (4, [.agg [.own 1 (x.used.map bv), .own 1 (x.taken.map bv), .sl 3 0 x.inos.length, .nil]]), some (3, x.inos.map inoO)]) := by
  have hl := h.inos
  refine XL_each x.inos (fun (_ : Unit) _ => ()) (fun i _ => ⟨[(1, .ptr 0 0 0), (2, .ptr 1 0 0), (3, .ptr 2 0 0), (4, .int .i64 (i : Nat))],
      [some (4, [cpBox x]), some (4, [.agg [.nil, .nil, .nil, .nil]]), some (4, [.agg [.own 1 (x.used.map bv), .own 1 (x.taken.map bv), .sl 3 0 i, .nil]]), some (3, (x.inos.take i).map inoO)]⟩) (fun _ _ => True)
    (fun _ r => r.1 = .exit 0 ∧ lookA r.2.env 1 = .ptr 0 0 0 ∧ lookA r.2.env 2 = .ptr 1 0 0 ∧ lookA r.2.env 3 = .ptr 2 0 0 ∧
      r.2.mem = [some (4, [cpBox x]), some (4, [.agg [.nil, .nil, .nil, .nil]]), some (4, [.agg [.own 1 (x.used.map bv), .own 1 (x.taken.map bv), .sl 3 0 x.inos.length, .nil]]), some (3, x.inos.map inoO)]) ?step ?last () trivial
  case step =>
    intro i _ p hp hi _
    refine ⟨?_, trivial⟩
    have hi1 : (i : Int) < (x.inos.length : Int) := by omega
    have gp : (x.inos.map ino).getD i .undef = .agg [.int .i64 p.kind, .int .i64 p.links, .ro 1 (p.ptrs.map iv)] := gD_map hp
    have e1 := e55 p (h.ino p (List.mem_of_getElem? hp))
    unfold ino inoO at e1
    obtain ⟨M, hM, ml, mi, ms, mt, ma⟩ := snoc_facts inoO_cool hp
    unfold inoO at ma
    have htk : (List.map iv p.ptrs).take p.ptrs.length = List.map iv p.ptrs := List.take_of_length_le (by simp)
    have hap : (i + 1) * 40 ≤ 140737488355328 := by omega
    unfold cpBox
    simp only [hM]
    simp only [XG, L25_3, h25_3, go_sem, seval, bnd_ite, hi1, gp, e1, htk, ml, mi, ms, mt, ma, hap, Int.natCast_nonneg, w_i64 ((i : Int) + 1) (by omega)]
    rfl
  case last =>
    intro _ _
    unfold cpBox
    simp only [XG, L25_3, h25_3, go_sem, seval, bnd_ite, Int.lt_irrefl, decide_false]
    exact .mk (by simp) ⟨rfl, rfl, rfl, rfl, rfl⟩
theorem in158b (x : Dsk) (h : x.sm) : ∃ r, XL T 0 H25_8 L25_8 ⟨[(1, .ptr 0 0 0), (2, .ptr 1 0 0), (3, .ptr 2 0 0), (5, .int .i64 0)],
      [some (4, [cpBox x]), some (4, [.agg [.nil, .nil, .nil, .nil]]), some (4, [.agg [.own 1 (x.used.map bv), .own 1 (x.taken.map bv), .own 3 (x.inos.map inoO), .sl 3 0 0]]), some (3, [])]⟩ = some r ∧
    (r.1 = .exit 2 ∧ lookA r.2.env 2 = .ptr 1 0 0 ∧ lookA r.2.env 3 = .ptr 2 0 0 ∧
      r.2.mem = [some (4, [cpBox x]), some (4, [.agg [.nil, .nil, .nil, .nil]]), some (4, [.agg [.own 1 (x.used.map bv), .own 1 (x.taken.map bv), .own 3 (x.inos.map inoO), .sl 3 0 x.blks.length]]), some (3, x.blks.map blkO)]) := by
  have hl := h.blks
  refine XL_each x.blks (fun (_ : Unit) _ => ()) (fun i _ => ⟨[(1, .ptr 0 0 0), (2, .ptr 1 0 0), (3, .ptr 2 0 0), (5, .int .i64 (i : Nat))],
      [some (4, [cpBox x]), some (4, [.agg [.nil, .nil, .nil, .nil]]), some (4, [.agg [.own 1 (x.used.map bv), .own 1 (x.taken.map bv), .own 3 (x.inos.map inoO), .sl 3 0 i]]), some (3, (x.blks.take i).map blkO)]⟩) (fun _ _ => True)
    (fun _ r => r.1 = .exit 2 ∧ lookA r.2.env 2 = .ptr 1 0 0 ∧ lookA r.2.env 3 = .ptr 2 0 0 ∧
      r.2.mem = [some (4, [cpBox x]), some (4, [.agg [.nil, .nil, .nil, .nil]]), some (4, [.agg [.own 1 (x.used.map bv), .own 1 (x.taken.map bv), .own 3 (x.inos.map inoO), .sl 3 0 x.blks.length]]), some (3, x.blks.map blkO)]) ?step ?last () trivial
  case step =>
    intro i _ p hp hi _
    refine ⟨?_, trivial⟩
    have hi1 : (i : Int) < (x.blks.length : Int) := by omega
    have gp : (x.blks.map blk).getD i .undef = .agg [.bool p.dir, .ro 2 (p.slots.map slt), .str p.text] := gD_map hp
    have e1 := e56 p (h.blk p (List.mem_of_getElem? hp))
    unfold blk blkO at e1
    obtain ⟨M, hM, ml, mi, ms, mt, ma⟩ := snoc_facts blkO_cool hp
    unfold blkO at ma
    have htk : (List.map slt p.slots).take p.slots.length = List.map slt p.slots := List.take_of_length_le (by simp)
    have hap : (i + 1) * 48 ≤ 140737488355328 := by omega
    unfold cpBox
    simp only [hM]
    simp only [XG, L25_8, h25_8, go_sem, seval, bnd_ite, hi1, gp, e1, htk, ml, mi, ms, mt, ma, hap, Int.natCast_nonneg, w_i64 ((i : Int) + 1) (by omega)]
    rfl
  case last =>
    intro _ _
    unfold cpBox
    simp only [XG, L25_8, h25_8, go_sem, seval, bnd_ite, Int.lt_irrefl, decide_false]
    exact .mk (by simp) ⟨rfl, rfl, rfl, rfl⟩
theorem e25 (x : Dsk) (h : x.sm) : E T 25 [dsk x] [] = some (dskO x, []) := by
  rw [E_eq t25 (Nat.le_of_ble_eq_true rfl)]
  have e1 := e54 x.used x.taken h.used h.taken
  obtain ⟨⟨y, e, m⟩, k1, kx, k2, k3, k4, km⟩ := in158a x h
  simp only at kx k2 k3 k4 km; subst kx; subst km
  obtain ⟨⟨y, e', m⟩, l1, lx, l2, l3, lm⟩ := in158b x h
  simp only at lx l2 l3 lm; subst lx; subst lm
  unfold cpBox at k1 l1
  have t1 : (x.used.map bv).take x.used.length = x.used.map bv := List.take_of_length_le (by simp)
  have t2 : (x.taken.map bv).take x.taken.length = x.taken.map bv := List.take_of_length_le (by simp)
  have t3 : (x.inos.map inoO).take x.inos.length = x.inos.map inoO := List.take_of_length_le (by simp)
  have t4 : (x.blks.map blkO).take x.blks.length = x.blks.map blkO := List.take_of_length_le (by simp)
  simp only [dsk, F25, cpBox, h25_3, h25_8, go_sem, seval, bnd_ite, e1, k1, k2, k3, k4, l1, l2, l3, dskO, t1, t2, t3, t4]
end Go.Proofs.YtaaajjinpppgeaaDoor
namespace Go.Proofs.YtaaajjinpppgeaaDoor
open Go Go.Abs
set_option maxRecDepth 100000
def ffree (l : List Bool) : Int := match l.findIdx? (fun b => !b) with | some i => (i : Nat) + 1 | none => 0
theorem e34 (l : List Bool) (hl : l.length ≤ 1048576) : E T 34 [.ro 1 (l.map bv)] [] = some (.int .i64 (ffree l), []) := by
  rw [E_eq t34 (Nat.le_of_ble_eq_true rfl)]
  unfold ffree
  refine (XL_find (T := T) (b := 0) (hd := H34_2) (x := L34_2) l (fun b => !b) (fun i => ⟨[(5, .ro 1 (l.map bv)), (6, .int .i64 l.length), (7, .int .i64 (i : Nat))], []⟩)
    (fun o r => match o with | some i => r.1 = .ret ∧ lookA r.2.env 2 = .int .i64 ((i : Nat) + 1) | none => r.1 = .exit 0) ?step ?hit ?last).elim ?main
  case step =>
    intro i b hb hi hP _
    have k1 : (i : Int) < (l.length : Int) := by omega
    have gb : (l.map bv).getD i .undef = .bool b := gD_map hb
    have hw := w_i64 ((i : Int) + 1) (by omega)
    cases b with
    | false => cases hP
    | true =>
      simp only [XG, L34_2, h34_2, go_sem, seval, bnd_ite, k1, gb, hw, Int.natCast_nonneg, decide_true, Bool.not_true, Bool.false_eq_true, if_false]
      first | done | rfl
  case hit =>
    intro i b hb hi hP _
    have k1 : (i : Int) < (l.length : Int) := by omega
    have gb : (l.map bv).getD i .undef = .bool b := gD_map hb
    have hw := w_i64 ((i : Int) + 1) (by omega)
    cases b with
    | true => cases hP
    | false =>
      simp only [XG, L34_2, h34_2, go_sem, seval, bnd_ite, k1, gb, hw, Int.natCast_nonneg, decide_true, Bool.not_false, if_true]
      exact .mk (by simp) ⟨rfl, rfl⟩
  case last =>
    intro _
    simp only [XG, L34_2, h34_2, go_sem, seval, bnd_ite, Int.lt_irrefl, decide_false]
    exact .mk (by simp) rfl
  case main =>
  have hs0 : ((0 : Nat) : Int) = 0 := rfl
  rintro ⟨y, e, m⟩ ⟨k1, k2⟩
  rw [hs0] at k1
  cases hf : l.findIdx? (fun b => !b) with
  | none =>
    rw [hf] at k2; simp only at k2; subst k2
    simp only [F34, h34_2, go_sem, seval, bnd_ite, k1]
  | some i =>
    rw [hf] at k2; obtain ⟨kx, k2⟩ := k2; simp only at kx k2; subst kx
    simp only [F34, h34_2, go_sem, seval, bnd_ite, k1, k2]
theorem e91 (d : Dp) (h : d.sm) : E T 91 [dp d] [] = some (dpO d, []) := by
  rw [E_eq t91 (Nat.le_of_ble_eq_true rfl)]
  have e1 := e99 d.blocks h
  have tk : (d.blocks.map iv).take d.blocks.length = d.blocks.map iv := List.take_of_length_le (by simp)
  simp only [dp, dpO, F91, go_sem, seval, bnd_ite, e1, tk]
theorem e59 (l : List Dp) (hl : l.length ≤ 1048576) (hs : ∀ d ∈ l, d.sm) : E T 59 [.ro 11 (l.map dp)] [] = some (.own 11 (l.map dpO), []) := by
  rw [E_eqW t59 (Nat.le_of_ble_eq_true rfl)]
  refine (XL_each (T := T) (b := 0) (hd := H59_3) (x := L59_3) l (fun (_ : Unit) _ => ()) (fun i _ => ⟨[(3, .sl 0 0 i), (7, .ro 11 (l.map dp)), (8, .int .i64 l.length), (9, .int .i64 (i : Nat))], [some (11, (l.take i).map dpO)]⟩) (fun _ _ => True)
    (fun _ r => r.1 = .exit 0 ∧ lookA r.2.env 3 = .sl 0 0 l.length ∧ r.2.mem = [some (11, l.map dpO)]) ?step ?last () trivial).elim ?main
  case step =>
    intro i _ d hd hi _
    refine ⟨?_, trivial⟩
    have k1 : (i : Int) < (l.length : Int) := by omega
    have gd : (l.map dp).getD i .undef = .agg [.int .i64 d.id, .int .i64 d.kind, .int .i64 d.ino, .int .i64 d.ptr, .int .i64 d.block, .int .i64 d.slot, .str d.name, .bool d.bits, .bool d.other, .int .i64 d.after, .ro 1 (d.blocks.map iv)] := gD_map hd
    have e1 := e91 d (hs d (List.mem_of_getElem? hd))
    unfold dp dpO at e1
    obtain ⟨M, hM, ml, mi, ms, mt, ma⟩ := snoc_facts dpO_cool hd
    unfold dpO at ma
    have htk : (List.map iv d.blocks).take d.blocks.length = List.map iv d.blocks := List.take_of_length_le (by simp)
    have hap : (i + 1) * 104 ≤ 140737488355328 := by omega
    have hw := w_i64 ((i : Int) + 1) (by omega)
    simp only [hM]
    simp only [XG, L59_3, h59_3, go_sem, seval, bnd_ite, k1, gd, e1, htk, ml, mi, ms, mt, ma, hap, hw, Int.natCast_nonneg]
    first | done | rfl
  case last =>
    intro _ _
    simp only [XG, L59_3, h59_3, go_sem, seval, bnd_ite, Int.lt_irrefl, decide_false]
    exact .mk (by simp) ⟨rfl, rfl, by simp⟩
  case main =>
  have hs0 : ((0 : Nat) : Int) = 0 := rfl
  rintro ⟨y, e, m⟩ ⟨k1, kx, k2, km⟩
  simp only at kx k2 km; subst kx; subst km
  simp only [hs0, List.take_zero, List.map_nil] at k1
  have tk : (l.map dpO).take l.length = l.map dpO := List.take_of_length_le (by simp)
  simp only [F59, h59_3, go_sem, seval, bnd_ite, k1, k2, tk]
theorem e28 (x : Mm) (h : x.sm) : E T 28 [mm x] [] = some (mmO x, []) := by
  rw [E_eq t28 (Nat.le_of_ble_eq_true rfl)]
  have e1 := e57 x.disk h.disk
  have e2 := e58 x.dirty h.dirty
  have e3 := e59 x.deps h.deps h.dep
  unfold dsk dskO at e1
  have t1 : (x.disk.used.map bv).take x.disk.used.length = x.disk.used.map bv := List.take_of_length_le (by simp)
  have t2 : (x.disk.taken.map bv).take x.disk.taken.length = x.disk.taken.map bv := List.take_of_length_le (by simp)
  have t3 : (x.disk.inos.map inoO).take x.disk.inos.length = x.disk.inos.map inoO := List.take_of_length_le (by simp)
  have t4 : (x.disk.blks.map blkO).take x.disk.blks.length = x.disk.blks.map blkO := List.take_of_length_le (by simp)
  have t5 : (x.dirty.map bv).take x.dirty.length = x.dirty.map bv := List.take_of_length_le (by simp)
  have t6 : (x.deps.map dpO).take x.deps.length = x.deps.map dpO := List.take_of_length_le (by simp)
  simp only [mm, F28, go_sem, seval, bnd_ite, e1, e2, e3, t1, t2, t3, t4, t5, t6, mmO]
end Go.Proofs.YtaaajjinpppgeaaDoor
namespace Go.Proofs.YtaaajjinpppgeaaDoor
open Go Go.Abs
set_option maxRecDepth 100000
section
variable {α : Type} {f : Nat → α} {l : List α} {i : Nat}
end
end Go.Proofs.YtaaajjinpppgeaaDoor
namespace Go.Proofs.YtaaajjinpppgeaaDoor
open Go Go.Abs
set_option maxRecDepth 100000
theorem x37 (a b : AV) (mem : Mem) : E T 37 [a, b] mem = bnd (X T mem.length F37.body ⟨enumA 0 [a, b], mem⟩) (finE mem.length F37.results) := E_eq t37 (Nat.le_of_ble_eq_true rfl)
theorem x65 (a b : AV) (mem : Mem) : E T 65 [a, b] mem = bnd (X T mem.length F65.body ⟨enumA 0 [a, b], mem⟩) (finE mem.length F65.results) := E_eq t65 (Nat.le_of_ble_eq_true rfl)
theorem setv (l : List Bool) (k : Nat) : (l.map bv).set k (.bool true) = (l.set k true).map bv := by rw [List.map_set]; rfl
theorem tkO {α : Type} {f : α → AV} {l : List α} : (l.map f).take l.length = l.map f := List.take_of_length_le (by simp)
theorem tkN {α : Type} {f : α → AV} {l : List α} {n : Nat} (h : l.length = n) : (l.map f).take n = l.map f := List.take_of_length_le (by rw [List.length_map, h]; exact Nat.le_refl _)
end Go.Proofs.YtaaajjinpppgeaaDoor
namespace Go.Proofs.YtaaajjinpppgeaaDoor
open Go Go.Abs
set_option maxRecDepth 100000
end Go.Proofs.YtaaajjinpppgeaaDoor
namespace Go.Proofs.YtaaajjinpppgeaaDoor
open Go Go.Abs
set_option maxRecDepth 100000
def may (x : Mm) : Bool := decide (x.deps.length < 40) && inside x.next 1 99999
theorem x71 (a b : AV) (mem : Mem) : E T 71 [a, b] mem = bnd (X T mem.length F71.body ⟨enumA 0 [a, b], mem⟩) (finE mem.length F71.results) := E_eq t71 (Nat.le_of_ble_eq_true rfl)
end Go.Proofs.YtaaajjinpppgeaaDoor
namespace Go.Proofs.YtaaajjinpppgeaaDoor
open Go Go.Abs
set_option maxRecDepth 100000
theorem e77 (a b : List Bool) : E T 77 [.agg [.ro 1 (a.map bv), .ro 1 (b.map bv)]] [] = some (.bool (decide (a.length = 16) && decide (b.length = 8)), []) := by
  rw [E_eq t77 (Nat.le_of_ble_eq_true rfl)]
  simp only [F77, go_sem, seval, bnd_ite]
  by_cases h1 : a.length = 16 <;> by_cases h2 : b.length = 8 <;> simp [h1, h2] <;> omega
theorem e78 (x : Int) : E T 78 [.int .i64 x] [] = some (.bool (inside x 1 16), []) := by
  rw [E_eq t78 (Nat.le_of_ble_eq_true rfl)]
  simp only [F78, go_sem, seval, bnd_ite, e48i]
theorem e79 (x : Int) : E T 79 [.int .i64 x] [] = some (.bool (inside x 1 8), []) := by
  rw [E_eq t79 (Nat.le_of_ble_eq_true rfl)]
  simp only [F79, go_sem, seval, bnd_ite, e48i]
def sgn (c : UInt8) : Bool := inside c.toNat 97 122 || inside c.toNat 48 57
def nameOk (s : ByteArray) : Bool := s.data.toList.all sgn && inside s.size 1 6
theorem ba_len (s : ByteArray) : s.data.toList.length = s.size := Array.length_toList
theorem e23 (s : ByteArray) (hl : s.size ≤ maxLen) : E T 23 [.str s] [] = some (.bool (nameOk s), []) := by
  rw [E_eq t23 (Nat.le_of_ble_eq_true rfl)]
  have hn := ba_len s
  unfold maxLen at hl
  refine (XL_all (T := T) (b := 0) (hd := H23_2) (x := L23_2) s.data.toList sgn (fun i => ⟨[(0, .str s), (5, .int .i64 s.size), (6, .int .i64 (i : Nat))], []⟩)
    (fun r => r.1 = .exit 0 ∧ lookA r.2.env 0 = .str s) (fun r => r.1 = .ret ∧ lookA r.2.env 2 = .bool false) ?step ?hit ?last).elim ?main
  case step =>
    intro i c hc hi hp _
    have hi1 : (i : Int) < (s.size : Int) := by omega
    have gc : s.data.toList.getD i 0 = c := by simp [List.getD, hc]
    have hw : (c.toNat : Int) ≤ 255 := by have := c.toNat_lt; omega
    simp only [sgn] at hp
    have hf : (!inside (c.toNat : Int) 97 122 && !inside (c.toNat : Int) 48 57) = false := by
      rw [← Bool.not_or, hp]; rfl
    simp only [XG, L23_2, h23_2, go_sem, seval, bnd_ite, hi1, Int.toNat_natCast, gc, Int.natCast_nonneg, w_i64 (c.toNat : Int) (by omega), w_i64 ((i : Int) + 1) (by omega), e48i, hf, Bool.false_eq_true, if_false]
    rfl
  case hit =>
    intro i c hc hi hp _
    have hi1 : (i : Int) < (s.size : Int) := by omega
    have gc : s.data.toList.getD i 0 = c := by simp [List.getD, hc]
    have hw : (c.toNat : Int) ≤ 255 := by have := c.toNat_lt; omega
    simp only [sgn] at hp
    have hf : (!inside (c.toNat : Int) 97 122 && !inside (c.toNat : Int) 48 57) = true := by
      rw [← Bool.not_or, hp]; rfl
    simp only [XG, L23_2, h23_2, go_sem, seval, bnd_ite, hi1, Int.toNat_natCast, gc, Int.natCast_nonneg, w_i64 (c.toNat : Int) (by omega), w_i64 ((i : Int) + 1) (by omega), e48i, hf, if_true]
    exact .mk (by simp) ⟨rfl, rfl⟩
  case last =>
    intro _
    simp only [XG, L23_2, h23_2, go_sem, seval, bnd_ite, hn, Int.lt_irrefl, decide_false]
    exact .mk (by simp) ⟨rfl, rfl⟩
  case main =>
  rintro ⟨y, e, m⟩ ⟨k1, k2⟩
  have hs : ((0 : Nat) : Int) = 0 := rfl
  simp only [hs] at k1
  unfold nameOk
  rcases k2 with ⟨h, k2, k3⟩ | ⟨h, k2, k3⟩ <;> simp only at k2 k3 <;> subst k2
  · simp only [F23, h23_2, go_sem, seval, bnd_ite, k1, k3, e48i, h, Bool.true_and]
  · simp only [F23, h23_2, go_sem, seval, bnd_ite, k1, k3, h, Bool.false_and]
end Go.Proofs.YtaaajjinpppgeaaDoor
namespace Go.Proofs.YtaaajjinpppgeaaDoor
open Go Go.Abs
set_option maxRecDepth 100000
def ptrOk (k p : Int) : Bool := inside p 0 16 && !(decide (k = 0) && decide (p ≠ 0))
def inoOk (x : Ino) : Bool := x.ptrs.all (ptrOk x.kind) && (inside x.kind 0 2 && inside x.links 0 200 && decide (x.ptrs.length = 2) && (!decide (x.kind = 0) || decide (x.links = 0)))
theorem e75 (x : Ino) (hk : x.ok) : E T 75 [ino x] [] = some (.bool (inoOk x), []) := by
  rw [E_eq t75 (Nat.le_of_ble_eq_true rfl)]
  unfold Ino.ok maxLen at hk
  refine (XL_all (T := T) (b := 0) (hd := H75_2) (x := L75_2) x.ptrs (ptrOk x.kind) (fun i => ⟨[(1, .ptr 0 0 0), (6, .ro 1 (x.ptrs.map iv)), (7, .int .i64 x.ptrs.length), (8, .int .i64 (i : Nat))], [some (3, [.agg [.int .i64 x.kind, .int .i64 x.links, .ro 1 (x.ptrs.map iv)]])]⟩)
    (fun r => r.1 = .exit 0 ∧ lookA r.2.env 1 = .ptr 0 0 0 ∧ r.2.mem = [some (3, [.agg [.int .i64 x.kind, .int .i64 x.links, .ro 1 (x.ptrs.map iv)]])]) (fun r => r.1 = .ret ∧ lookA r.2.env 2 = .bool false) ?step ?hit ?last).elim ?main
  case step =>
    intro i p hp hi hP _
    have hi1 : (i : Int) < (x.ptrs.length : Int) := by omega
    have gp : (x.ptrs.map iv).getD i .undef = .int .i64 p := gD_map hp
    have hf : (!inside p 0 16 || !decide (p = 0) && decide (x.kind = 0)) = false := by
      simp only [ptrOk, Bool.and_eq_true, Bool.not_eq_true'] at hP
      rw [hP.1]; rw [Bool.and_comm]; simpa using hP.2
    simp only [XG, L75_2, h75_2, go_sem, seval, bnd_ite, hi1, gp, Int.natCast_nonneg, w_i64 ((i : Int) + 1) (by omega), e48i, hf, Bool.false_eq_true, if_false]
    rfl
  case hit =>
    intro i p hp hi hP _
    have hi1 : (i : Int) < (x.ptrs.length : Int) := by omega
    have gp : (x.ptrs.map iv).getD i .undef = .int .i64 p := gD_map hp
    have hf : (!inside p 0 16 || !decide (p = 0) && decide (x.kind = 0)) = true := by
      unfold ptrOk at hP
      cases h1 : inside p 0 16 with
      | false => rfl
      | true => rw [h1, Bool.true_and] at hP; rw [Bool.and_comm]; simpa using hP
    simp only [XG, L75_2, h75_2, go_sem, seval, bnd_ite, hi1, gp, Int.natCast_nonneg, w_i64 ((i : Int) + 1) (by omega), e48i, hf, if_true]
    exact .mk (by simp) ⟨rfl, rfl⟩
  case last =>
    intro _
    simp only [XG, L75_2, h75_2, go_sem, seval, bnd_ite, Int.lt_irrefl, decide_false]
    exact .mk (by simp) ⟨rfl, rfl, rfl⟩
  case main =>
  rintro ⟨y, e, m⟩ ⟨k1, k2⟩
  have hs : ((0 : Nat) : Int) = 0 := rfl
  simp only [hs] at k1
  unfold inoOk
  rcases k2 with ⟨h, k2, k3⟩ | ⟨h, k2, k3⟩ <;> simp only at k2 k3 <;> subst k2
  · obtain ⟨k3, rfl⟩ := k3
    simp only [ino, F75, h75_2, go_sem, seval, bnd_ite, k1, k3, e48i, h, Bool.true_and]
    have hl : decide ((x.ptrs.length : Int) = 2) = decide (x.ptrs.length = 2) := by congr 1; apply propext; omega
    rw [hl]
  · simp only [ino, F75, h75_2, go_sem, seval, bnd_ite, k1, k3, h, Bool.false_and]
def slotOf (l : List Slt) (s : ByteArray) : Int := if s.size = 0 then -1 else (match l.findIdx? (fun x => decide (x.name = s)) with | some i => (i : Nat) | none => -1)
theorem e101 (x : Slt) (s : ByteArray) : E T 101 [slt x, .rop [.str s]] [] = some (.bool (decide (x.name = s)), []) := by
  rw [E_eq t101 (Nat.le_of_ble_eq_true rfl)]
  simp only [slt, F101, go_sem, seval, bnd_ite]
theorem e100 (l : List Slt) (s : ByteArray) (hl : l.length ≤ maxLen) : E T 100 [.ro 2 (l.map slt), .fn 101 [.rop [.str s]]] [] = some (.int .i64 (match l.findIdx? (fun x => decide (x.name = s)) with | some i => (i : Nat) | none => -1), []) := by
  rw [E_eq t100 (Nat.le_of_ble_eq_true rfl)]
  unfold maxLen at hl
  refine (XL_find (T := T) (b := 0) (hd := H100_2) (x := L100_2) l (fun x => decide (x.name = s)) (fun i => ⟨[(0, .ro 2 (l.map slt)), (1, .fn 101 [.rop [.str s]]), (7, .int .i64 l.length), (8, .int .i64 (i : Nat))], []⟩)
    (fun o r => match o with | some i => r.1 = .ret ∧ lookA r.2.env 4 = .int .i64 (i : Nat) | none => r.1 = .exit 0) ?step ?hit ?last).elim ?main
  case step =>
    intro i p hp hi hP _
    have hi1 : (i : Int) < (l.length : Int) := by omega
    have gp : (l.map slt).getD i .undef = .agg [.str p.name, .int .i64 p.ino] := gD_map hp
    have e1 := e101 p s
    unfold slt at e1
    simp only [XG, L100_2, h100_2, go_sem, seval, bnd_ite, hi1, gp, Int.natCast_nonneg, w_i64 ((i : Int) + 1) (by omega), e1, hP, Bool.false_eq_true, if_false]
    rfl
  case hit =>
    intro i p hp hi hP _
    have hi1 : (i : Int) < (l.length : Int) := by omega
    have gp : (l.map slt).getD i .undef = .agg [.str p.name, .int .i64 p.ino] := gD_map hp
    have e1 := e101 p s
    unfold slt at e1
    simp only [XG, L100_2, h100_2, go_sem, seval, bnd_ite, hi1, gp, Int.natCast_nonneg, w_i64 ((i : Int) + 1) (by omega), e1, hP, if_true]
    exact .mk (by simp) ⟨rfl, rfl⟩
  case last =>
    intro _
    simp only [XG, L100_2, h100_2, go_sem, seval, bnd_ite, Int.lt_irrefl, decide_false]
    exact .mk (by simp) rfl
  case main =>
  rintro ⟨y, e, m⟩ ⟨k1, k2⟩
  have hs : ((0 : Nat) : Int) = 0 := rfl
  simp only [hs] at k1
  split at k2
  · rename_i o i heq
    obtain ⟨k2, k3⟩ := k2
    simp only at k2 k3; subst k2
    simp only [F100, h100_2, go_sem, seval, bnd_ite, k1, k3, heq]
  · rename_i o heq
    simp only at k2; subst k2
    simp only [F100, h100_2, go_sem, seval, bnd_ite, k1, heq]
theorem e92 (x : Blk) (s : ByteArray) (hl : x.slots.length ≤ maxLen) : E T 92 [blk x, .str s] [] = some (.int .i64 (slotOf x.slots s), []) := by
  rw [E_eq t92 (Nat.le_of_ble_eq_true rfl)]
  have e1 := e100 x.slots s hl
  unfold slotOf
  by_cases h : s = ⟨#[]⟩
  · subst h
    simp only [blk, F92, go_sem, seval, bnd_ite, decide_true, if_true]
    rfl
  · have h2 : ¬ s.size = 0 := fun hh => h (by cases s with | mk a => congr 1; exact Array.eq_empty_of_size_eq_zero hh)
    simp only [blk, F92, go_sem, seval, bnd_ite, h, h2, e1, decide_false, if_false]
end Go.Proofs.YtaaajjinpppgeaaDoor
namespace Go.Proofs.YtaaajjinpppgeaaDoor
open Go Go.Abs
set_option maxRecDepth 100000
def bare (s : Slt) : Bool := decide (s.name = ⟨#[]⟩) && decide (s.ino = 0)
def newName (l : List Slt) (i : Nat) (s : Slt) : Bool := (l.take i).all fun q => !decide (q.name = s.name)
def slotOk (l : List Slt) (i : Nat) (s : Slt) : Bool := bare s || (nameOk s.name && inside s.ino 1 8 && newName l i s)
def blkOk (x : Blk) : Bool := if x.dir then x.slots.zipIdx.all (fun p => slotOk x.slots p.2 p.1) && (decide (x.slots.length = 4) && decide (x.text = ⟨#[]⟩)) else decide (x.slots.length = 0) && decide (x.text.size ≤ 16)
theorem zip_at {α : Type} {l : List α} {i : Nat} {p : α × Nat} (h : l.zipIdx[i]? = some p) : l[i]? = some p.1 ∧ p.2 = i := by
  rw [List.getElem?_zipIdx] at h
  cases e : l[i]? with
  | none => rw [e] at h; cases h
  | some x => rw [e] at h; simp at h; subst h; exact ⟨rfl, rfl⟩
theorem nameOk_ne {s : ByteArray} (h : nameOk s = true) : s.size ≠ 0 := by
  simp only [nameOk, inside, Bool.and_eq_true, decide_eq_true_eq] at h
  omega
theorem slotOf_at {l : List Slt} {i : Nat} {s : Slt} (h : l[i]? = some s) (hn : s.name.size ≠ 0) : slotOf l s.name = (i : Nat) ↔ newName l i s = true := by
  unfold slotOf newName
  rw [if_neg hn]
  obtain ⟨hi, rfl⟩ := List.getElem?_eq_some_iff.1 h
  cases e : l.findIdx? (fun x => decide (x.name = l[i].name)) with
  | none =>
    rw [find_none] at e
    have := e l[i] (List.getElem_mem hi)
    simp at this
  | some j =>
    rw [List.findIdx?_eq_some_iff_getElem] at e
    obtain ⟨hj, h1, h2⟩ := e
    simp only [decide_eq_true_eq] at h1
    constructor
    · intro hij
      have hij : ((j : Nat) : Int) = (i : Nat) := hij
      have : j = i := by omega
      subst this
      rw [List.all_eq_true]
      intro q hq
      obtain ⟨k, hk, rfl⟩ := List.mem_take_iff_getElem.1 hq
      have := h2 k (by omega)
      simpa using this
    · intro hall
      rw [List.all_eq_true] at hall
      by_cases c : j < i
      · have := hall l[j] (List.mem_take_iff_getElem.2 ⟨j, by omega, rfl⟩)
        simp [h1] at this
      · by_cases c2 : i < j
        · have := h2 i c2; simp at this
        · have : j = i := by omega
          rw [this]
theorem blk_nil {x : Blk} (h : x.dir = false) : blkOk x = (decide (x.slots.length = 0) && decide (x.text.size ≤ 16)) := by unfold blkOk; rw [h]; rfl
theorem e76 (x : Blk) (hk : x.ok) : E T 76 [blk x] [] = some (.bool (blkOk x), []) := by
  rw [E_eq t76 (Nat.le_of_ble_eq_true rfl)]
  obtain ⟨hk1, hk2, hk3⟩ := hk
  unfold maxLen at hk1
  cases hd : x.dir with
  | false =>
    rw [blk_nil hd]
    simp only [blk, F76, h76_4, go_sem, seval, bnd_ite, hd, Bool.not_false, if_true]
    by_cases h1 : x.slots.length = 0 <;> by_cases h2 : x.text.size ≤ 16 <;> simp [h1, h2] <;> omega
  | true =>
  refine (XL_all (T := T) (b := 0) (hd := H76_4) (x := L76_4) x.slots.zipIdx (fun p => slotOk x.slots p.2 p.1) (fun i => ⟨[(1, .ptr 0 0 0), (19, .ro 2 (x.slots.map slt)), (20, .int .i64 x.slots.length), (21, .int .i64 (i : Nat))], [some (3, [.agg [.bool true, .ro 2 (x.slots.map slt), .str x.text]])]⟩)
    (fun r => r.1 = .exit 0 ∧ lookA r.2.env 1 = .ptr 0 0 0 ∧ r.2.mem = [some (3, [.agg [.bool true, .ro 2 (x.slots.map slt), .str x.text]])]) (fun r => r.1 = .ret ∧ lookA r.2.env 2 = .bool false) ?step ?hit ?last).elim ?main
  case step =>
    rintro i ⟨s, j⟩ hp hi hP _
    obtain ⟨hp, hj⟩ := zip_at hp
    simp only at hp hj hP; subst hj
    rw [List.length_zipIdx] at hi
    have hi1 : (j : Int) < (x.slots.length : Int) := by omega
    have gp : (x.slots.map slt).getD j .undef = .agg [.str s.name, .int .i64 s.ino] := gD_map hp
    have hs := hk3 s (List.mem_of_getElem? hp)
    have e1 := e23 s.name hs
    have e2 := e92 x s.name hk1
    unfold blk at e2
    rw [hd] at e2
    simp only [slotOk] at hP
    cases hb : bare s with
    | true =>
      simp only [bare, Bool.and_eq_true, decide_eq_true_eq] at hb
      obtain ⟨b1, b2⟩ := hb
      simp only [XG, L76_4, h76_4, go_sem, seval, bnd_ite, hi1, gp, b1, b2, Int.natCast_nonneg, w_i64 ((j : Int) + 1) (by omega), e48i, decide_true, Bool.and_self, if_true]
      first | done | rfl
    | false =>
      rw [hb, Bool.false_or, Bool.and_eq_true, Bool.and_eq_true] at hP
      obtain ⟨⟨p1, p2⟩, p3⟩ := hP
      have p4 := (slotOf_at hp (nameOk_ne p1)).2 p3
      simp only [bare] at hb
      have e3 := e79 s.ino
      simp only [XG, L76_4, h76_4, go_sem, seval, bnd_ite, hi1, gp, e1, e2, e3, hb, p1, p2, p4, Int.natCast_nonneg, w_i64 ((j : Int) + 1) (by omega), decide_true, Bool.not_true, Bool.or_self, Bool.and_self, Bool.false_eq_true, if_false]
      first | done | rfl
  case hit =>
    rintro i ⟨s, j⟩ hp hi hP _
    obtain ⟨hp, hj⟩ := zip_at hp
    simp only at hp hj hP; subst hj
    rw [List.length_zipIdx] at hi
    have hi1 : (j : Int) < (x.slots.length : Int) := by omega
    have gp : (x.slots.map slt).getD j .undef = .agg [.str s.name, .int .i64 s.ino] := gD_map hp
    have hs := hk3 s (List.mem_of_getElem? hp)
    have e1 := e23 s.name hs
    have e2 := e92 x s.name hk1
    unfold blk at e2
    rw [hd] at e2
    have e3 := e79 s.ino
    simp only [slotOk, Bool.or_eq_false_iff] at hP
    obtain ⟨hb, hP⟩ := hP
    simp only [bare] at hb
    have hf : (!nameOk s.name || !inside s.ino 1 8 || !decide (slotOf x.slots s.name = (j : Nat))) = true := by
      cases p1 : nameOk s.name with
      | false => rfl
      | true =>
        have p4 := slotOf_at hp (nameOk_ne p1)
        rw [p1, Bool.true_and] at hP
        cases p2 : inside s.ino 1 8 with
        | false => rfl
        | true =>
          rw [p2, Bool.true_and] at hP
          have : ¬ slotOf x.slots s.name = (j : Nat) := fun h => by rw [p4.1 h] at hP; cases hP
          simp [this]
    simp only [XG, L76_4, h76_4, go_sem, seval, bnd_ite, hi1, gp, e1, e2, e3, hb, hf, Int.natCast_nonneg, w_i64 ((j : Int) + 1) (by omega), Bool.false_eq_true, if_false, if_true]
    exact .mk (by simp) ⟨rfl, rfl⟩
  case last =>
    intro _
    simp only [XG, L76_4, h76_4, go_sem, seval, bnd_ite, List.length_zipIdx, Int.lt_irrefl, decide_false]
    exact .mk (by simp) ⟨rfl, rfl, rfl⟩
  case main =>
  rintro ⟨y, e, m⟩ ⟨k1, k2⟩
  have hs : ((0 : Nat) : Int) = 0 := rfl
  simp only [hs] at k1
  unfold blkOk
  rw [hd, if_pos rfl]
  rcases k2 with ⟨h, k2, k3⟩ | ⟨h, k2, k3⟩ <;> simp only at k2 k3 <;> subst k2
  · obtain ⟨k3, rfl⟩ := k3
    have hl : decide ((x.slots.length : Int) = 4) = decide (x.slots.length = 4) := by congr 1; apply propext; omega
    simp only [blk, F76, h76_4, go_sem, seval, bnd_ite, hd, hl, k1, k3, h, Bool.true_and, Bool.not_true, Bool.false_eq_true, if_false]
  · simp only [blk, F76, h76_4, go_sem, seval, bnd_ite, hd, k1, k3, h, Bool.false_and, Bool.not_true, Bool.false_eq_true, if_false]
end Go.Proofs.YtaaajjinpppgeaaDoor
namespace Go.Proofs.YtaaajjinpppgeaaDoor
open Go Go.Abs
set_option maxRecDepth 100000
def dskOk (x : Dsk) : Bool := x.inos.all inoOk && (x.blks.all blkOk && ((decide (x.used.length = 16) && decide (x.taken.length = 8)) && decide (x.inos.length = 8) && decide (x.blks.length = 16)))
end Go.Proofs.YtaaajjinpppgeaaDoor
namespace Go.Proofs.YtaaajjinpppgeaaDoor
open Go Go.Abs
set_option maxRecDepth 100000
def dskV (x : Dsk) : List AV := [.ro 1 (x.used.map bv), .ro 1 (x.taken.map bv), .ro 3 (x.inos.map ino), .ro 3 (x.blks.map blk)]
theorem in155a (x : Dsk) (hk : x.ok) : ∃ r, XL T 0 H47_2 L47_2 ⟨[(1, .ptr 0 0 0), (8, .ro 3 (x.inos.map ino)), (9, .int .i64 x.inos.length), (10, .int .i64 0)], [some (4, [.agg (dskV x)])]⟩ = some r ∧
    (x.inos.all inoOk = true ∧ (r.1 = .exit 0 ∧ lookA r.2.env 1 = .ptr 0 0 0 ∧ r.2.mem = [some (4, [.agg (dskV x)])]) ∨ x.inos.all inoOk = false ∧ (r.1 = .ret ∧ lookA r.2.env 2 = .bool false)) := by
  have hl := hk.inos
  unfold maxLen at hl
  refine XL_all x.inos inoOk (fun i => ⟨[(1, .ptr 0 0 0), (8, .ro 3 (x.inos.map ino)), (9, .int .i64 x.inos.length), (10, .int .i64 (i : Nat))], [some (4, [.agg (dskV x)])]⟩) (fun r => r.1 = .exit 0 ∧ lookA r.2.env 1 = .ptr 0 0 0 ∧ r.2.mem = [some (4, [.agg (dskV x)])]) (fun r => r.1 = .ret ∧ lookA r.2.env 2 = .bool false) ?step ?hit ?last
  case step =>
    intro i p hp hi hP _
    have hi1 : (i : Int) < (x.inos.length : Int) := by omega
    have gp : (x.inos.map ino).getD i .undef = .agg [.int .i64 p.kind, .int .i64 p.links, .ro 1 (p.ptrs.map iv)] := gD_map hp
    have e1 := e75 p (hk.ino p (List.mem_of_getElem? hp))
    unfold ino at e1
    unfold dskV
    simp only [XG, L47_2, h47_2, go_sem, seval, bnd_ite, hi1, gp, e1, hP, Int.natCast_nonneg, w_i64 ((i : Int) + 1) (by omega), Bool.not_true, Bool.false_eq_true, if_false]
    first | done | rfl
  case hit =>
    intro i p hp hi hP _
    have hi1 : (i : Int) < (x.inos.length : Int) := by omega
    have gp : (x.inos.map ino).getD i .undef = .agg [.int .i64 p.kind, .int .i64 p.links, .ro 1 (p.ptrs.map iv)] := gD_map hp
    have e1 := e75 p (hk.ino p (List.mem_of_getElem? hp))
    unfold ino at e1
    unfold dskV
    simp only [XG, L47_2, h47_2, go_sem, seval, bnd_ite, hi1, gp, e1, hP, Int.natCast_nonneg, w_i64 ((i : Int) + 1) (by omega), Bool.not_false, if_true]
    exact .mk (by simp) ⟨rfl, rfl⟩
  case last =>
    intro _
    unfold dskV
    simp only [XG, L47_2, h47_2, go_sem, seval, bnd_ite, Int.lt_irrefl, decide_false]
    exact .mk (by simp) ⟨rfl, rfl, rfl⟩
theorem in155b (x : Dsk) (hk : x.ok) : ∃ r, XL T 0 H47_9 L47_9 ⟨[(1, .ptr 0 0 0), (19, .ro 3 (x.blks.map blk)), (20, .int .i64 x.blks.length), (21, .int .i64 0)], [some (4, [.agg (dskV x)])]⟩ = some r ∧
    (x.blks.all blkOk = true ∧ (r.1 = .exit 2 ∧ lookA r.2.env 1 = .ptr 0 0 0 ∧ r.2.mem = [some (4, [.agg (dskV x)])]) ∨ x.blks.all blkOk = false ∧ (r.1 = .ret ∧ lookA r.2.env 2 = .bool false)) := by
  have hl := hk.blks
  unfold maxLen at hl
  refine XL_all x.blks blkOk (fun i => ⟨[(1, .ptr 0 0 0), (19, .ro 3 (x.blks.map blk)), (20, .int .i64 x.blks.length), (21, .int .i64 (i : Nat))], [some (4, [.agg (dskV x)])]⟩) (fun r => r.1 = .exit 2 ∧ lookA r.2.env 1 = .ptr 0 0 0 ∧ r.2.mem = [some (4, [.agg (dskV x)])]) (fun r => r.1 = .ret ∧ lookA r.2.env 2 = .bool false) ?step ?hit ?last
  case step =>
    intro i p hp hi hP _
    have hi1 : (i : Int) < (x.blks.length : Int) := by omega
    have gp : (x.blks.map blk).getD i .undef = .agg [.bool p.dir, .ro 2 (p.slots.map slt), .str p.text] := gD_map hp
    have e1 := e76 p (hk.blk p (List.mem_of_getElem? hp))
    unfold blk at e1
    unfold dskV
    simp only [XG, L47_9, h47_9, go_sem, seval, bnd_ite, hi1, gp, e1, hP, Int.natCast_nonneg, w_i64 ((i : Int) + 1) (by omega), Bool.not_true, Bool.false_eq_true, if_false]
    first | done | rfl
  case hit =>
    intro i p hp hi hP _
    have hi1 : (i : Int) < (x.blks.length : Int) := by omega
    have gp : (x.blks.map blk).getD i .undef = .agg [.bool p.dir, .ro 2 (p.slots.map slt), .str p.text] := gD_map hp
    have e1 := e76 p (hk.blk p (List.mem_of_getElem? hp))
    unfold blk at e1
    unfold dskV
    simp only [XG, L47_9, h47_9, go_sem, seval, bnd_ite, hi1, gp, e1, hP, Int.natCast_nonneg, w_i64 ((i : Int) + 1) (by omega), Bool.not_false, if_true]
    exact .mk (by simp) ⟨rfl, rfl⟩
  case last =>
    intro _
    unfold dskV
    simp only [XG, L47_9, h47_9, go_sem, seval, bnd_ite, Int.lt_irrefl, decide_false]
    exact .mk (by simp) ⟨rfl, rfl, rfl⟩
theorem e47 (x : Dsk) (hk : x.ok) : E T 47 [dsk x] [] = some (.bool (dskOk x), []) := by
  rw [E_eq t47 (Nat.le_of_ble_eq_true rfl)]
  have c1 : decide ((x.inos.length : Int) = 8) = decide (x.inos.length = 8) := by congr 1; apply propext; omega
  have c2 : decide ((x.blks.length : Int) = 16) = decide (x.blks.length = 16) := by congr 1; apply propext; omega
  obtain ⟨⟨y, e, m⟩, k1, k2⟩ := in155a x hk
  unfold dskOk
  unfold dskV at k1 k2
  rcases k2 with ⟨h, kx, k3, km⟩ | ⟨h, kx, k3⟩
  · simp only at kx k3 km; subst kx; subst km
    obtain ⟨⟨y, e', m⟩, k4, k5⟩ := in155b x hk
    unfold dskV at k4 k5
    rcases k5 with ⟨h', kx, k6, km⟩ | ⟨h', kx, k6⟩
    · simp only at kx k6 km; subst kx; subst km
      have e0 := e77 x.used x.taken
      simp only [dsk, F47, h47_2, h47_9, go_sem, seval, bnd_ite, k1, k3, k4, k6, h, h', c1, c2, e0, Bool.true_and]
    · simp only at kx k6; subst kx
      simp only [dsk, F47, h47_2, h47_9, go_sem, seval, bnd_ite, k1, k3, k4, k6, h, h', Bool.false_and, Bool.and_false]
  · simp only at kx k3; subst kx
    simp only [dsk, F47, h47_2, go_sem, seval, bnd_ite, k1, k3, h, Bool.false_and]
end Go.Proofs.YtaaajjinpppgeaaDoor
namespace Go.Proofs.YtaaajjinpppgeaaDoor
open Go Go.Abs
set_option maxRecDepth 100000
theorem e67 (xs : List Int) (y : Int) (ha : xs.length ≤ maxLen) : ∃ r : Int, E T 67 [.ro 1 (xs.map iv), .int .i64 y] [] = some (.int .i64 r, []) ∧ (0 ≤ r ↔ y ∈ xs) := by
  rw [E_eq t67 (Nat.le_of_ble_eq_true rfl)]
  simp only [F67, h67_2, go_sem, seval, bnd_ite]
  unfold maxLen at ha
  refine (XL_inv (T := T) (b := 0) (hd := H67_2) (x := L67_2) (β := Unit) (fun i _ => ⟨[(0, .ro 1 (xs.map iv)), (1, .int .i64 y), (7, .int .i64 xs.length), (8, .int .i64 (i : Nat))], []⟩)
    (fun i _ => y ∉ xs.take i) xs.length (fun r => (r.1 = .exit 0 ∧ y ∉ xs) ∨ (r.1 = .ret ∧ ∃ n : Nat, lookA r.2.env 4 = .int .i64 n ∧ y ∈ xs)) ?step ?last 0 () (by omega) (by simp)).elim ?main
  case step =>
    intro i _ hi hI
    obtain ⟨p, hp⟩ := get_at hi
    have hi1 : (i : Int) < (xs.length : Int) := by omega
    simp only [XG, L67_2, h67_2, go_sem, seval, bnd_ite, hi1, gD_map hp, iv, Int.natCast_nonneg, w_i64 ((i : Int) + 1) (by omega)]
    by_cases he : y = p
    · right
      simp only [he, decide_true, if_true]
      exact .mk (by simp) (.inr ⟨rfl, i, rfl, List.mem_of_getElem? hp⟩)
    · left
      simp only [he, decide_false, Bool.false_eq_true, if_false]
      exact ⟨(), rfl, by rw [take_snoc hp]; simp [hI, he]⟩
  case last =>
    intro _ hI
    rw [List.take_length] at hI
    simp only [XG, L67_2, h67_2, go_sem, seval, bnd_ite, Int.lt_irrefl, decide_false]
    exact .mk (by simp) (.inl ⟨rfl, hI⟩)
  case main =>
  rintro ⟨x, st⟩ ⟨h1, h2, h3⟩
  have hs : ((0 : Nat) : Int) = 0 := rfl
  rw [hs] at h1
  simp only [h1]
  obtain ⟨e, m⟩ := st
  rcases h3 with ⟨hx, h4⟩ | ⟨hx, n, h4, h5⟩
  · simp only at hx; subst hx
    simp only [go_sem, seval]; exact ⟨-1, rfl, by simp [h4]⟩
  · simp only at hx h4; subst hx
    simp only [go_sem, seval, h4]; exact ⟨n, rfl, by simp [h5]⟩
theorem e63 (xs : List Int) (y : Int) (ha : xs.length ≤ maxLen) : E T 63 [.ro 1 (xs.map iv), .int .i64 y] [] = some (.bool (decide (y ∈ xs)), []) := by
  rw [E_eq t63 (Nat.le_of_ble_eq_true rfl)]
  obtain ⟨r, h1, h2⟩ := e67 xs y ha
  simp only [F63, go_sem, seval, bnd_ite, h1, ← h2]
end Go.Proofs.YtaaajjinpppgeaaDoor
namespace Go.Proofs.YtaaajjinpppgeaaDoor
open Go Go.Abs
set_option maxRecDepth 100000
def ino0 : Ino := ⟨0, 0, []⟩
theorem getD_at {α : Type} {l : List α} {i : Nat} {p z : α} (h : l[i]? = some p) : l.getD i z = p := by simp [List.getD, h]
theorem e32n (x : Dsk) (i : Int) (hc : inside i 1 x.inos.length = false) : E T 32 [dsk x, .int .i64 i] [] = some (ino ino0, []) := by
  rw [E_eqW t32 (Nat.le_of_ble_eq_true rfl)]
  simp only [dsk, F32, go_sem, seval, bnd_ite, e48i, hc, ino, ino0, List.map_nil]
theorem e32 (x : Dsk) (i : Int) (hl : x.inos.length ≤ 1048576) (hc : inside i 1 x.inos.length = true) (p : Ino) (hp : x.inos[(i - 1).toNat]? = some p) : E T 32 [dsk x, .int .i64 i] [] = some (ino p, []) := by
  rw [E_eqW t32 (Nat.le_of_ble_eq_true rfl)]
  have hc' := hc
  simp only [inside, Bool.and_eq_true, decide_eq_true_eq] at hc'
  have gp : (x.inos.map ino).getD (i - 1).toNat .undef = .agg [.int .i64 p.kind, .int .i64 p.links, .ro 1 (p.ptrs.map iv)] := gD_map hp
  have b1 : 0 ≤ i - 1 := by omega
  have b2 : i - 1 < (x.inos.length : Int) := by omega
  simp only [dsk, F32, go_sem, seval, bnd_ite, e48i, hc, gp, b1, b2, w_i64 (i - 1) (by omega), ino]
end Go.Proofs.YtaaajjinpppgeaaDoor
namespace Go.Proofs.YtaaajjinpppgeaaDoor
open Go Go.Abs
set_option maxRecDepth 100000
def slt0 : Slt := ⟨⟨#[]⟩, 0⟩
def mmV (x : Mm) : List AV := [.ro 1 (x.disk.used.map bv), .ro 1 (x.disk.taken.map bv), .ro 3 (x.disk.inos.map ino), .ro 3 (x.disk.blks.map blk), .ro 1 (x.dirty.map bv), .ro 11 (x.deps.map dp), .int .i64 x.next]
def dpV (d : Dp) : List AV := [.int .i64 d.id, .int .i64 d.kind, .int .i64 d.ino, .int .i64 d.ptr, .int .i64 d.block, .int .i64 d.slot, .str d.name, .bool d.bits, .bool d.other, .int .i64 d.after, .ro 1 (d.blocks.map iv)]
structure DskOk (x : Dsk) : Prop where
  ino : ∀ p ∈ x.inos, inoOk p = true
  blk : ∀ p ∈ x.blks, blkOk p = true
  used : x.used.length = 16
  taken : x.taken.length = 8
  inos : x.inos.length = 8
  blks : x.blks.length = 16
theorem dskOk_iff {x : Dsk} : dskOk x = true ↔ DskOk x := by
  unfold dskOk
  simp only [Bool.and_eq_true, List.all_eq_true, decide_eq_true_eq]
  exact ⟨fun ⟨a, b, ⟨⟨c, d⟩, e⟩, f⟩ => ⟨a, b, c, d, e, f⟩, fun ⟨a, b, c, d, e, f⟩ => ⟨a, b, ⟨⟨c, d⟩, e⟩, f⟩⟩
structure InoOk (x : Ino) : Prop where
  kind : 0 ≤ x.kind ∧ x.kind ≤ 2
  links : 0 ≤ x.links ∧ x.links ≤ 200
  two : x.ptrs.length = 2
  ptr : ∀ p ∈ x.ptrs, 0 ≤ p ∧ p ≤ 16 ∧ (x.kind = 0 → p = 0)
  none : x.kind = 0 → x.links = 0
theorem inoOk_iff {x : Ino} : inoOk x = true ↔ InoOk x := by
  unfold inoOk ptrOk inside
  simp only [Bool.and_eq_true, List.all_eq_true, decide_eq_true_eq, Bool.not_eq_true', Bool.and_eq_false_iff, decide_eq_false_iff_not, Bool.or_eq_true]
  constructor
  · rintro ⟨a, ⟨⟨b, c⟩, d⟩, e⟩
    refine ⟨b, c, d, fun p hp => ?_, fun h => ?_⟩
    · have := a p hp; omega
    · omega
  · rintro ⟨b, c, d, a, e⟩
    refine ⟨fun p hp => ?_, ⟨⟨b, c⟩, d⟩, ?_⟩
    · have := a p hp; omega
    · omega
theorem blkOk_dir {x : Blk} (h : blkOk x = true) (hd : x.dir = true) : x.slots.length = 4 ∧ x.text = ⟨#[]⟩ ∧ ∀ (i : Nat) s, x.slots[i]? = some s → slotOk x.slots i s = true := by
  unfold blkOk at h
  rw [hd, if_pos rfl] at h
  simp only [Bool.and_eq_true, List.all_eq_true, decide_eq_true_eq] at h
  obtain ⟨h1, h2, h3⟩ := h
  refine ⟨h2, h3, fun i s hs => ?_⟩
  have := h1 (s, i) (List.mem_of_getElem? (i := i) (by rw [List.getElem?_zipIdx, hs]; simp))
  exact this
theorem e80 (d : Dp) : E T 80 [dp d] [] = some (.bool (decide (d.kind = 1) || decide (d.kind = 6)), []) := by
  rw [E_eq t80 (Nat.le_of_ble_eq_true rfl)]
  simp only [dp, F80, go_sem, seval, bnd_ite]
theorem e81 (d : Dp) : E T 81 [dp d] [] = some (.bool (decide (d.kind = 2) || decide (d.kind = 3)), []) := by
  rw [E_eq t81 (Nat.le_of_ble_eq_true rfl)]
  simp only [dp, F81, go_sem, seval, bnd_ite]
theorem e83 (d : Dp) (n : Int) : E T 83 [dp d, .rop [.int .i64 n]] [] = some (.bool (decide (d.id = n)), []) := by
  rw [E_eq t83 (Nat.le_of_ble_eq_true rfl)]
  simp only [dp, F83, go_sem, seval, bnd_ite]
def placeOf (l : List Dp) (n : Int) : Int := match l.findIdx? (fun d => decide (d.id = n)) with | some i => (i : Nat) | none => -1
theorem e82 (l : List Dp) (n : Int) (hl : l.length ≤ maxLen) : E T 82 [.ro 11 (l.map dp), .fn 83 [.rop [.int .i64 n]]] [] = some (.int .i64 (placeOf l n), []) := by
  rw [E_eq t82 (Nat.le_of_ble_eq_true rfl)]
  unfold maxLen at hl
  unfold placeOf
  refine (XL_find (T := T) (b := 0) (hd := H82_2) (x := L82_2) l (fun d => decide (d.id = n)) (fun i => ⟨[(0, .ro 11 (l.map dp)), (1, .fn 83 [.rop [.int .i64 n]]), (7, .int .i64 l.length), (8, .int .i64 (i : Nat))], []⟩)
    (fun o r => match o with | some i => r.1 = .ret ∧ lookA r.2.env 4 = .int .i64 (i : Nat) | none => r.1 = .exit 0) ?step ?hit ?last).elim ?main
  case step =>
    intro i d hp hi hP _
    have hi1 : (i : Int) < (l.length : Int) := by omega
    have gp : (l.map dp).getD i .undef = .agg (dpV d) := gD_map hp
    have e1 : E T 83 [.agg (dpV d), .rop [.int .i64 n]] [] = some (.bool (decide (d.id = n)), []) := e83 d n
    unfold dpV at gp e1
    simp only [XG, L82_2, h82_2, go_sem, seval, bnd_ite, hi1, gp, Int.natCast_nonneg, w_i64 ((i : Int) + 1) (by omega), e1, hP, Bool.false_eq_true, if_false]
    rfl
  case hit =>
    intro i d hp hi hP _
    have hi1 : (i : Int) < (l.length : Int) := by omega
    have gp : (l.map dp).getD i .undef = .agg (dpV d) := gD_map hp
    have e1 : E T 83 [.agg (dpV d), .rop [.int .i64 n]] [] = some (.bool (decide (d.id = n)), []) := e83 d n
    unfold dpV at gp e1
    simp only [XG, L82_2, h82_2, go_sem, seval, bnd_ite, hi1, gp, Int.natCast_nonneg, w_i64 ((i : Int) + 1) (by omega), e1, hP, if_true]
    exact .mk (by simp) ⟨rfl, rfl⟩
  case last =>
    intro _
    simp only [XG, L82_2, h82_2, go_sem, seval, bnd_ite, Int.lt_irrefl, decide_false]
    exact .mk (by simp) rfl
  case main =>
  rintro ⟨y, e, m⟩ ⟨k1, k2⟩
  have hs : ((0 : Nat) : Int) = 0 := rfl
  simp only [hs] at k1
  split at k2
  · rename_i o i heq
    obtain ⟨k2, k3⟩ := k2
    simp only at k2 k3; subst k2
    simp only [F82, h82_2, go_sem, seval, bnd_ite, k1, k3, heq]
  · rename_i o heq
    simp only at k2; subst k2
    simp only [F82, h82_2, go_sem, seval, bnd_ite, k1, heq]
theorem e50 (x : Mm) (n : Int) (hl : x.deps.length ≤ maxLen) : E T 50 [mm x, .int .i64 n] [] = some (.int .i64 (placeOf x.deps n), []) := by
  rw [E_eq t50 (Nat.le_of_ble_eq_true rfl)]
  have e1 := e82 x.deps n hl
  simp only [mm, F50, go_sem, seval, bnd_ite, e1]
def newId (l : List Dp) (i : Nat) (d : Dp) : Bool := (l.take i).all fun q => !decide (q.id = d.id)
theorem placeOf_at {l : List Dp} {i : Nat} {d : Dp} (h : l[i]? = some d) : placeOf l d.id = (i : Nat) ↔ newId l i d = true := by
  unfold placeOf newId
  obtain ⟨hi, rfl⟩ := List.getElem?_eq_some_iff.1 h
  cases e : l.findIdx? (fun x => decide (x.id = l[i].id)) with
  | none =>
    rw [find_none] at e
    have := e l[i] (List.getElem_mem hi)
    simp at this
  | some j =>
    rw [List.findIdx?_eq_some_iff_getElem] at e
    obtain ⟨hj, h1, h2⟩ := e
    simp only [decide_eq_true_eq] at h1
    constructor
    · intro hij
      have hij : ((j : Nat) : Int) = (i : Nat) := hij
      have : j = i := by omega
      subst this
      rw [List.all_eq_true]
      intro q hq
      obtain ⟨k, hk, rfl⟩ := List.mem_take_iff_getElem.1 hq
      have := h2 k (by omega)
      simpa using this
    · intro hall
      rw [List.all_eq_true] at hall
      by_cases c : j < i
      · have := hall l[j] (List.mem_take_iff_getElem.2 ⟨j, by omega, rfl⟩)
        simp [h1] at this
      · by_cases c2 : i < j
        · have := h2 i c2; simp at this
        · have : j = i := by omega
          rw [this]
def depBase (n : Int) (d : Dp) : Bool := inside d.id 1 (n - 1) && inside d.kind 1 6 && inside d.ino 1 8 && inside d.ptr 0 1 && inside d.block 0 16 && inside d.slot 0 3 && inside d.after 0 (n - 1)
def depBlocks (d : Dp) : Bool := d.blocks.all fun p => inside p 1 16
def blkAt (x : Dsk) (i : Int) : Blk := x.blks.getD (i - 1).toNat blk0
def inoAt (x : Dsk) (i : Int) : Ino := x.inos.getD (i - 1).toNat ino0
def depAt (x : Dsk) (d : Dp) : Bool :=
  if d.kind = 1 ∨ d.kind = 6 then decide (0 < d.block) && decide ((inoAt x d.ino).ptrs.getD d.ptr.toNat 0 = d.block)
  else if d.kind = 2 ∨ d.kind = 3 then decide (0 < d.block) && (blkAt x d.block).dir && decide (((blkAt x d.block).slots.getD d.slot.toNat slt0).ino = d.ino)
  else if d.kind = 4 then decide (0 < d.block) && (blkAt x d.block).dir && nameOk d.name
  else true
end Go.Proofs.YtaaajjinpppgeaaDoor
namespace Go.Proofs.YtaaajjinpppgeaaDoor
open Go Go.Abs
set_option maxRecDepth 100000
theorem blkAt_eq {x : Dsk} {i : Int} {p : Blk} (h : x.blks[(i - 1).toNat]? = some p) : blkAt x i = p := by unfold blkAt; rw [List.getD_eq_getElem?_getD, h]; rfl
theorem inoAt_eq {x : Dsk} {i : Int} {p : Ino} (h : x.inos[(i - 1).toNat]? = some p) : inoAt x i = p := by unfold inoAt; rw [List.getD_eq_getElem?_getD, h]; rfl
structure DepBase (n : Int) (d : Dp) : Prop where
  id : 1 ≤ d.id ∧ d.id ≤ n - 1
  kind : 1 ≤ d.kind ∧ d.kind ≤ 6
  ino : 1 ≤ d.ino ∧ d.ino ≤ 8
  ptr : 0 ≤ d.ptr ∧ d.ptr ≤ 1
  block : 0 ≤ d.block ∧ d.block ≤ 16
  slot : 0 ≤ d.slot ∧ d.slot ≤ 3
  after : 0 ≤ d.after ∧ d.after ≤ n - 1
theorem depBase_iff {n : Int} {d : Dp} : depBase n d = true ↔ DepBase n d := by
  unfold depBase inside
  simp only [Bool.and_eq_true, decide_eq_true_eq]
  exact ⟨fun ⟨⟨⟨⟨⟨⟨a, b⟩, c⟩, d⟩, e⟩, f⟩, g⟩ => ⟨a, b, c, d, e, f, g⟩, fun ⟨a, b, c, d, e, f, g⟩ => ⟨⟨⟨⟨⟨⟨a, b⟩, c⟩, d⟩, e⟩, f⟩, g⟩⟩
theorem in156 (x : Mm) (d : Dp) (hk : d.ok) : ∃ r, XL T 0 H49_2 L49_2 ⟨[(2, .ptr 0 0 0), (3, .ptr 1 0 0), (10, .ro 1 (d.blocks.map iv)), (11, .int .i64 d.blocks.length), (12, .int .i64 0)], [some (7, [.agg (mmV x)]), some (11, [.agg (dpV d)])]⟩ = some r ∧
    (depBlocks d = true ∧ (r.1 = .exit 0 ∧ lookA r.2.env 2 = .ptr 0 0 0 ∧ lookA r.2.env 3 = .ptr 1 0 0 ∧ r.2.mem = [some (7, [.agg (mmV x)]), some (11, [.agg (dpV d)])]) ∨ depBlocks d = false ∧ (r.1 = .ret ∧ lookA r.2.env 4 = .bool false)) := by
  have hl := hk.2
  unfold maxLen at hl
  refine XL_all d.blocks (fun p => inside p 1 16) (fun i => ⟨[(2, .ptr 0 0 0), (3, .ptr 1 0 0), (10, .ro 1 (d.blocks.map iv)), (11, .int .i64 d.blocks.length), (12, .int .i64 (i : Nat))], [some (7, [.agg (mmV x)]), some (11, [.agg (dpV d)])]⟩)
    (fun r => r.1 = .exit 0 ∧ lookA r.2.env 2 = .ptr 0 0 0 ∧ lookA r.2.env 3 = .ptr 1 0 0 ∧ r.2.mem = [some (7, [.agg (mmV x)]), some (11, [.agg (dpV d)])]) (fun r => r.1 = .ret ∧ lookA r.2.env 4 = .bool false) ?step ?hit ?last
  case step =>
    intro i p hp hi hP _
    have hi1 : (i : Int) < (d.blocks.length : Int) := by omega
    have gp : (d.blocks.map iv).getD i .undef = .int .i64 p := gD_map hp
    have e1 := e78 p
    unfold mmV dpV
    simp only [XG, L49_2, h49_2, go_sem, seval, bnd_ite, hi1, gp, e1, hP, Int.natCast_nonneg, w_i64 ((i : Int) + 1) (by omega), Bool.not_true, Bool.false_eq_true, if_false]
    first | done | rfl
  case hit =>
    intro i p hp hi hP _
    have hi1 : (i : Int) < (d.blocks.length : Int) := by omega
    have gp : (d.blocks.map iv).getD i .undef = .int .i64 p := gD_map hp
    have e1 := e78 p
    unfold mmV dpV
    simp only [XG, L49_2, h49_2, go_sem, seval, bnd_ite, hi1, gp, e1, hP, Int.natCast_nonneg, w_i64 ((i : Int) + 1) (by omega), Bool.not_false, if_true]
    exact .mk (by simp) ⟨rfl, rfl⟩
  case last =>
    intro _
    unfold mmV dpV
    simp only [XG, L49_2, h49_2, go_sem, seval, bnd_ite, Int.lt_irrefl, decide_false]
    exact .mk (by simp) ⟨rfl, rfl, rfl, rfl⟩
set_option maxHeartbeats 1000000 in
theorem e49 (x : Mm) (d : Dp) (hk : d.ok) (hx : x.ok) (hd : DskOk x.disk) (hn : 1 ≤ x.next ∧ x.next ≤ 100000) : E T 49 [mm x, dp d] [] = some (.bool (depBlocks d && (depBase x.next d && depAt x.disk d)), []) := by
  rw [E_eq t49 (Nat.le_of_ble_eq_true rfl)]
  obtain ⟨⟨y, e, m⟩, k1, k2⟩ := in156 x d hk
  unfold mmV dpV at k1 k2
  rcases k2 with ⟨hb, kx, k3, k4, km⟩ | ⟨hb, kx, k3⟩
  case inr =>
    simp only at kx k3; subst kx
    simp only [mm, dp, F49, h49_2, go_sem, seval, bnd_ite, k1, k3, hb, Bool.false_and]
  simp only at kx k3 k4 km; subst kx; subst km
  have w1 := w_i64 (x.next - 1) (by omega)
  have i7 := e79 d.ino
  rw [hb, Bool.true_and]
  by_cases hc : depBase x.next d = true
  case neg =>
    have hc : depBase x.next d = false := Bool.eq_false_iff.2 hc
    have hf : (!(inside d.id 1 (x.next - 1) && inside d.after 0 (x.next - 1)) || !inside d.kind 1 6 || !inside d.ino 1 8 || !inside d.ptr 0 1 || !inside d.block 0 16 || !inside d.slot 0 3) = true := by
      unfold depBase at hc
      rw [← Bool.not_and, ← Bool.not_and, ← Bool.not_and, ← Bool.not_and, ← Bool.not_and, Bool.not_eq_true', ← hc]
      cases inside d.id 1 (x.next - 1) <;> cases inside d.after 0 (x.next - 1) <;> simp
    simp only [mm, dp, F49, h49_2, go_sem, seval, bnd_ite, k1, k3, k4, w1, e48i, i7, hf, hc, if_true, Bool.false_and]
  have hf : (!(inside d.id 1 (x.next - 1) && inside d.after 0 (x.next - 1)) || !inside d.kind 1 6 || !inside d.ino 1 8 || !inside d.ptr 0 1 || !inside d.block 0 16 || !inside d.slot 0 3) = false := by
    have h2 := hc
    unfold depBase at h2
    simp only [Bool.and_eq_true] at h2
    obtain ⟨⟨⟨⟨⟨⟨a, b⟩, c⟩, dd⟩, ee⟩, f⟩, g⟩ := h2
    rw [a, b, c, dd, ee, f, g]; rfl
  have B := depBase_iff.1 hc
  obtain ⟨b1, b2, b3, b4, b5, b6, b7⟩ := B
  have n1 := hd.inos
  have n2 := hd.blks
  obtain ⟨p, hp⟩ := get_at (show (d.ino - 1).toNat < x.disk.inos.length by omega)
  have ip := e32 x.disk d.ino (by omega) (by simp [inside]; omega) p hp
  have hpo := inoOk_iff.1 (hd.ino p (List.mem_of_getElem? hp))
  have ptwo := hpo.two
  have q6 := e80 d
  have q7 := e81 d
  have qn := e23 d.name hk.1
  have ai := inoAt_eq hp
  have blkO : ∃ B : AV, E T 46 [dsk x.disk, .int .i64 d.block] [] = some (B, []) ∧ (B = .agg [.bool false, .ro 2 [], .str ⟨#[]⟩] ∧ d.block = 0 ∨ ∃ b : Blk, B = blk b ∧ 0 < d.block ∧ x.disk.blks[(d.block - 1).toNat]? = some b) := by
    by_cases c : d.block = 0
    · exact ⟨_, e46n x.disk d.block (by simp [inside, c]), .inl ⟨rfl, c⟩⟩
    · obtain ⟨b, hb⟩ := get_at (show (d.block - 1).toNat < x.disk.blks.length by omega)
      exact ⟨_, e46 x.disk d.block (by omega) (by simp [inside]; omega) b hb, .inr ⟨b, rfl, by omega, hb⟩⟩
  obtain ⟨p0, hp0⟩ := get_at (show d.ptr.toNat < p.ptrs.length by omega)
  have gp0 : (p.ptrs.map iv).getD d.ptr.toNat .undef = .int .i64 p0 := gD_map hp0
  have c4 : d.ptr < (p.ptrs.length : Int) := by omega
  have c6 : 0 ≤ d.ptr := by omega
  have gd0 : p.ptrs.getD d.ptr.toNat 0 = p0 := getD_at hp0
  rw [hc, Bool.true_and]
  unfold depAt
  rw [ai, gd0]
  rw [show ino p = .agg [.int .i64 p.kind, .int .i64 p.links, .ro 1 (p.ptrs.map iv)] from rfl] at ip
  unfold dsk at ip
  unfold dp at q6 q7
  obtain ⟨B, hB, hB2⟩ := blkO
  unfold dsk at hB
  rcases hB2 with ⟨rfl, h0⟩ | ⟨b, rfl, h0, hb0⟩
  · -- no block
    have hz : ¬ 0 < d.block := by omega
    by_cases t1 : d.kind = 1 ∨ d.kind = 6
    · have u1 : (decide (d.kind = 1) || decide (d.kind = 6)) = true := by simpa using t1
      simp only [mm, dp, F49, h49_2, go_sem, seval, bnd_ite, k1, k3, k4, w1, e48i, i7, hf, hB, q6, u1, hz, t1, if_true, Bool.false_and, decide_false, Bool.false_eq_true, if_false]
    have u1 : (decide (d.kind = 1) || decide (d.kind = 6)) = false := by simpa using t1
    by_cases t2 : d.kind = 2 ∨ d.kind = 3
    · have u2 : (decide (d.kind = 2) || decide (d.kind = 3)) = true := by simpa using t2
      simp only [mm, dp, F49, h49_2, go_sem, seval, bnd_ite, k1, k3, k4, w1, e48i, i7, hf, hB, q6, q7, u1, u2, hz, t1, t2, if_true, Bool.false_and, decide_false, Bool.false_eq_true, if_false]
    have u2 : (decide (d.kind = 2) || decide (d.kind = 3)) = false := by simpa using t2
    rw [if_neg t1, if_neg t2]
    by_cases t3 : d.kind = 4
    · rw [if_pos t3]
      have t3 : decide (d.kind = 4) = true := by simpa using t3
      simp only [mm, dp, F49, h49_2, go_sem, seval, bnd_ite, k1, k3, k4, w1, e48i, i7, hf, hB, q6, q7, u1, u2, hz, t1, t2, t3, if_true, Bool.false_and, decide_false, decide_true, Bool.false_eq_true, if_false]
    · simp only [mm, dp, F49, h49_2, go_sem, seval, bnd_ite, k1, k3, k4, w1, e48i, i7, hf, hB, q6, q7, u1, u2, hz, t1, t2, t3, if_true, Bool.false_and, decide_false, decide_true, Bool.false_eq_true, if_false]
  · have bo := hd.blk b (List.mem_of_getElem? hb0)
    rw [blkAt_eq hb0]
    rw [show blk b = .agg [.bool b.dir, .ro 2 (b.slots.map slt), .str b.text] from rfl] at hB
    by_cases t1 : d.kind = 1 ∨ d.kind = 6
    · have u1 : (decide (d.kind = 1) || decide (d.kind = 6)) = true := by simpa using t1
      simp only [mm, dp, F49, h49_2, go_sem, seval, bnd_ite, k1, k3, k4, w1, e48i, i7, hf, hB, ip, gp0, c4, c6, q6, u1, h0, t1, if_true, Bool.true_and, decide_true, Bool.false_eq_true, if_false]
    have u1 : (decide (d.kind = 1) || decide (d.kind = 6)) = false := by simpa using t1
    by_cases t2 : d.kind = 2 ∨ d.kind = 3
    · have u2 : (decide (d.kind = 2) || decide (d.kind = 3)) = true := by simpa using t2
      cases bd : b.dir with
      | false =>
        simp only [mm, dp, F49, h49_2, go_sem, seval, bnd_ite, k1, k3, k4, w1, e48i, i7, hf, hB, bd, q6, q7, u1, u2, h0, t1, t2, if_true, Bool.false_and, Bool.true_and, decide_false, decide_true, Bool.and_false, Bool.false_eq_true, if_false]
      | true =>
        obtain ⟨s4, _, sO⟩ := blkOk_dir bo bd
        obtain ⟨s, hs⟩ := get_at (show d.slot.toNat < b.slots.length by omega)
        have gs : (b.slots.map slt).getD d.slot.toNat .undef = .agg [.str s.name, .int .i64 s.ino] := gD_map hs
        have gs0 : b.slots.getD d.slot.toNat slt0 = s := getD_at hs
        have c7 : d.slot < (b.slots.length : Int) := by omega
        have c8 : 0 ≤ d.slot := by omega
        rw [gs0]
        have hso := sO _ s hs
        by_cases ne : s.name = ⟨#[]⟩
        · have : s.ino ≠ d.ino := by
            unfold slotOk bare at hso
            have nk : nameOk s.name = false := by rw [ne]; rfl
            rw [nk] at hso
            simp [ne] at hso
            omega
          simp only [mm, dp, F49, h49_2, go_sem, seval, bnd_ite, k1, k3, k4, w1, e48i, i7, hf, hB, bd, q6, q7, u1, u2, h0, t1, t2, gs, c7, c8, ne, this, if_true, Bool.false_and, Bool.true_and, decide_false, decide_true, Bool.not_true, Bool.and_false, Bool.and_self, Bool.false_eq_true, if_false]
        · simp only [mm, dp, F49, h49_2, go_sem, seval, bnd_ite, k1, k3, k4, w1, e48i, i7, hf, hB, bd, q6, q7, u1, u2, h0, t1, t2, gs, c7, c8, ne, if_true, Bool.false_and, Bool.true_and, decide_false, decide_true, Bool.not_false, Bool.and_self, Bool.false_eq_true, if_false]
    have u2 : (decide (d.kind = 2) || decide (d.kind = 3)) = false := by simpa using t2
    rw [if_neg t1, if_neg t2]
    by_cases t3 : d.kind = 4
    · rw [if_pos t3]
      have t3 : decide (d.kind = 4) = true := by simpa using t3
      simp only [mm, dp, F49, h49_2, go_sem, seval, bnd_ite, k1, k3, k4, w1, e48i, i7, hf, hB, q6, q7, qn, u1, u2, h0, t1, t2, t3, if_true, Bool.true_and, decide_true, Bool.false_eq_true, if_false]
    · simp only [mm, dp, F49, h49_2, go_sem, seval, bnd_ite, k1, k3, k4, w1, e48i, i7, hf, hB, q6, q7, u1, u2, h0, t1, t2, t3, if_true, Bool.false_and, decide_false, decide_true, Bool.false_eq_true, if_false]
end Go.Proofs.YtaaajjinpppgeaaDoor
namespace Go.Proofs.YtaaajjinpppgeaaDoor
open Go Go.Abs
set_option maxRecDepth 100000
def depRight (x : Mm) (p : Dp × Nat) : Bool := depBlocks p.1 && (depBase x.next p.1 && depAt x.disk p.1) && newId x.deps p.2 p.1
def memHead (x : Mm) : Bool := dskOk x.disk && decide (x.dirty.length = 21) && decide (x.deps.length ≤ 40) && inside x.next 1 100000
def memOk (x : Mm) : Bool := memHead x && x.deps.zipIdx.all (depRight x)
theorem memHead_use {x : Mm} (h : memHead x = true) : DskOk x.disk ∧ x.dirty.length = 21 ∧ x.deps.length ≤ 40 ∧ 1 ≤ x.next ∧ x.next ≤ 100000 := by
  unfold memHead inside at h
  simp only [Bool.and_eq_true, decide_eq_true_eq, dskOk_iff] at h
  exact ⟨h.1.1.1, h.1.1.2, h.1.2, h.2⟩
theorem headN (x : Mm) : (!dskOk x.disk || !decide ((x.dirty.length : Int) = 21) || decide ((40 : Int) < x.deps.length) || !inside x.next 1 100000) = !memHead x := by
  unfold memHead
  have c1 : decide ((x.dirty.length : Int) = 21) = decide (x.dirty.length = 21) := by congr 1; apply propext; omega
  have c2 : decide ((40 : Int) < x.deps.length) = !decide (x.deps.length ≤ 40) := by
    by_cases h : x.deps.length ≤ 40
    · have : ¬ (40 : Int) < x.deps.length := by omega
      simp [h, this]
    · have : (40 : Int) < x.deps.length := by omega
      simp [h, this]
  rw [c1, c2, ← Bool.not_and, ← Bool.not_and, ← Bool.not_and]
theorem e19 (x : Mm) (hx : x.ok) : E T 19 [mm x] [] = some (.bool (memOk x), []) := by
  rw [E_eq t19 (Nat.le_of_ble_eq_true rfl)]
  have e0 := e47 x.disk hx.disk
  have hN := headN x
  unfold dsk at e0
  unfold memOk
  cases hh : memHead x with
  | false =>
    rw [hh] at hN
    simp only [mm, F19, h19_4, go_sem, seval, bnd_ite, e0, e48i, hN, if_true, Bool.not_false, Bool.false_and]
  | true =>
  rw [hh, Bool.not_true] at hN
  obtain ⟨hd, h1, h2, h3⟩ := memHead_use hh
  rw [Bool.true_and]
  refine (XL_all (T := T) (b := 0) (hd := H19_4) (x := L19_4) x.deps.zipIdx (depRight x) (fun i => ⟨[(1, .ptr 0 0 0), (28, .ro 11 (x.deps.map dp)), (29, .int .i64 x.deps.length), (30, .int .i64 (i : Nat))], [some (7, [.agg (mmV x)])]⟩)
    (fun r => r.1 = .exit 0) (fun r => r.1 = .ret ∧ lookA r.2.env 2 = .bool false) ?step ?hit ?last).elim ?main
  case step =>
    rintro i ⟨d, j⟩ hp hi hP _
    obtain ⟨hp, hj⟩ := zip_at hp
    simp only at hp hj; subst hj
    rw [List.length_zipIdx] at hi
    have hi1 : (j : Int) < (x.deps.length : Int) := by omega
    have gd : (x.deps.map dp).getD j .undef = .agg (dpV d) := gD_map hp
    have e1 : E T 49 [.agg (mmV x), .agg (dpV d)] [] = _ := e49 x d (hx.dep d (List.mem_of_getElem? hp)) hx hd h3
    have e2 := e50 x d.id hx.deps
    unfold depRight at hP
    rw [Bool.and_eq_true] at hP
    have e3 := (placeOf_at hp).2 hP.2
    rw [hP.1] at e1
    rw [e3] at e2
    unfold mm at e2
    unfold mmV dpV at e1
    unfold dpV at gd
    unfold mmV
    simp only [XG, L19_4, h19_4, go_sem, seval, bnd_ite, hi1, gd, e1, e2, Int.natCast_nonneg, w_i64 ((j : Int) + 1) (by omega), decide_true, Bool.not_true, Bool.or_self, Bool.false_eq_true, if_false]
    first | done | rfl
  case hit =>
    rintro i ⟨d, j⟩ hp hi hP _
    obtain ⟨hp, hj⟩ := zip_at hp
    simp only at hp hj; subst hj
    rw [List.length_zipIdx] at hi
    have hi1 : (j : Int) < (x.deps.length : Int) := by omega
    have gd : (x.deps.map dp).getD j .undef = .agg (dpV d) := gD_map hp
    have e1 : E T 49 [.agg (mmV x), .agg (dpV d)] [] = _ := e49 x d (hx.dep d (List.mem_of_getElem? hp)) hx hd h3
    have e2 := e50 x d.id hx.deps
    have hf : (!(depBlocks d && (depBase x.next d && depAt x.disk d)) || !decide (placeOf x.deps d.id = (j : Nat))) = true := by
      unfold depRight at hP
      have : decide (placeOf x.deps d.id = (j : Nat)) = newId x.deps j d := by
        have := placeOf_at hp
        cases h : newId x.deps j d with
        | true => simpa using this.2 h
        | false => simp only [decide_eq_false_iff_not]; intro hh; rw [this.1 hh] at h; cases h
      rw [this, ← Bool.not_and, hP]; rfl
    unfold mm at e2
    unfold mmV dpV at e1
    unfold dpV at gd
    unfold mmV
    simp only [XG, L19_4, h19_4, go_sem, seval, bnd_ite, hi1, gd, e1, e2, hf, Int.natCast_nonneg, w_i64 ((j : Int) + 1) (by omega), if_true]
    exact .mk (by simp) ⟨rfl, rfl⟩
  case last =>
    intro _
    unfold mmV
    simp only [XG, L19_4, h19_4, go_sem, seval, bnd_ite, List.length_zipIdx, Int.lt_irrefl, decide_false]
    exact .mk (by simp) rfl
  case main =>
  rintro ⟨y, e, m⟩ ⟨k1, k2⟩
  have hs : ((0 : Nat) : Int) = 0 := rfl
  unfold mmV at k1
  simp only [hs] at k1
  rcases k2 with ⟨h, k2⟩ | ⟨h, k2, k3⟩ <;> simp only at k2 <;> subst k2
  · simp only [mm, F19, h19_4, go_sem, seval, bnd_ite, e0, e48i, hN, k1, h, Bool.false_eq_true, if_false]
  · simp only at k3
    simp only [mm, F19, h19_4, go_sem, seval, bnd_ite, e0, e48i, hN, k1, k3, h, Bool.false_eq_true, if_false]
end Go.Proofs.YtaaajjinpppgeaaDoor
namespace Go.Proofs.YtaaajjinpppgeaaDoor
open Go Go.Abs
set_option maxRecDepth 100000
def inoOf (x : Dsk) (i : Int) : Ino := if inside i 1 x.inos.length then x.inos.getD (i - 1).toNat ino0 else ino0
def blkOf (x : Dsk) (p : Int) : Blk := if inside p 1 x.blks.length then x.blks.getD (p - 1).toNat blk0 else blk0
theorem inoOf_mem {x : Dsk} {i : Int} (h : inside i 1 x.inos.length = true) : x.inos[(i - 1).toNat]? = some (inoOf x i) := by
  have h2 := h
  simp only [inside, Bool.and_eq_true, decide_eq_true_eq] at h2
  obtain ⟨p, hp⟩ := get_at (show (i - 1).toNat < x.inos.length by omega)
  unfold inoOf; rw [if_pos h, getD_at hp]; exact hp
theorem blkOf_mem {x : Dsk} {i : Int} (h : inside i 1 x.blks.length = true) : x.blks[(i - 1).toNat]? = some (blkOf x i) := by
  have h2 := h
  simp only [inside, Bool.and_eq_true, decide_eq_true_eq] at h2
  obtain ⟨p, hp⟩ := get_at (show (i - 1).toNat < x.blks.length by omega)
  unfold blkOf; rw [if_pos h, getD_at hp]; exact hp
theorem e32u (x : Dsk) (h : x.sm) (i : Int) : E T 32 [dsk x, .int .i64 i] [] = some (ino (inoOf x i), []) := by
  cases hc : inside i 1 x.inos.length with
  | true => exact e32 x i h.inos hc _ (inoOf_mem hc)
  | false => rw [e32n x i hc]; unfold inoOf; rw [hc]; rfl
theorem e46u (x : Dsk) (h : x.sm) (i : Int) : E T 46 [dsk x, .int .i64 i] [] = some (blk (blkOf x i), []) := by
  cases hc : inside i 1 x.blks.length with
  | true => exact e46 x i h.blks hc _ (blkOf_mem hc)
  | false => rw [e46n x i hc]; unfold blkOf; rw [hc]; rfl
end Go.Proofs.YtaaajjinpppgeaaDoor
namespace Go.Proofs.YtaaajjinpppgeaaDoor
open Go Go.Abs
set_option maxRecDepth 100000
theorem rowsOf {α : Type} {e : Shp} {enc : α → AV} {ok : α → Prop} (h : ∀ cs, Is e cs → ∃ x, e.elem cs = enc x ∧ ok x) : ∀ {css : List (List AV)}, (∀ cs ∈ css, Is e cs) → ∃ xs : List α, css.map e.elem = xs.map enc ∧ xs.length = css.length ∧ ∀ x ∈ xs, ok x := by
  intro css
  induction css with
  | nil => intro _; exact ⟨[], rfl, rfl, fun x hx => by cases hx⟩
  | cons cs css ih =>
    intro hc
    obtain ⟨x, h1, h2⟩ := h cs (hc cs (List.mem_cons_self ..))
    obtain ⟨xs, h3, h4, h5⟩ := ih (fun c hcc => hc c (List.mem_cons_of_mem _ hcc))
    exact ⟨x :: xs, by simp [h1, h3], by simp [h4], fun y hy => by rcases List.mem_cons.1 hy with rfl | hy; exact h2; exact h5 y hy⟩
theorem isSl {α : Type} {s : Nat} {e : Shp} {enc : α → AV} {ok : α → Prop} (h : ∀ cs, Is e cs → ∃ x, e.elem cs = enc x ∧ ok x) {cs : List AV} (hc : Is (.slice s e) cs) : ∃ xs : List α, cs = [.ro s (xs.map enc)] ∧ xs.length ≤ maxLen ∧ ∀ x ∈ xs, ok x := by
  cases hc with | slice h1 hl =>
  obtain ⟨xs, h3, h4, h5⟩ := rowsOf h h1
  exact ⟨xs, by rw [h3], by omega, h5⟩
def shS : Shp := .struct [.str, .int .i64]
def shB : Shp := .struct [.bool, .slice 2 shS, .str]
theorem isS (cs : List AV) (h : Is shS cs) : ∃ x : Slt, shS.elem cs = slt x ∧ x.ok := by
  cases h with | struct h =>
  cases h with | cons h1 h =>
  cases h with | cons h2 h =>
  cases h
  cases h1; cases h2
  exact ⟨⟨_, _⟩, rfl, by assumption⟩
theorem isB (cs : List AV) (h : Is shB cs) : ∃ x : Blk, shB.elem cs = blk x ∧ x.ok := by
  cases h with | struct h =>
  cases h with | cons h1 h =>
  cases h with | cons h2 h =>
  cases h with | cons h3 h =>
  cases h
  cases h1; cases h3
  obtain ⟨xs, rfl, h4, h5⟩ := isSl isS h2
  exact ⟨⟨_, xs, _⟩, rfl, h4, by assumption, h5⟩
end Go.Proofs.YtaaajjinpppgeaaDoor
namespace Go.Proofs.YtaaajjinpppgeaaDoor
open Go Go.Abs
set_option maxRecDepth 100000
end Go.Proofs.YtaaajjinpppgeaaDoor
namespace Go.Proofs.YtaaajjinpppgeaaDoor
open Go Go.Abs
set_option maxRecDepth 100000
def memNew (x : Dsk) : Mm := ⟨x, List.replicate 21 false, [], 1⟩
theorem e11 (x : Dsk) (h : x.sm) : E T 11 [dsk x] [] = some (mmO (memNew x), []) := by
  rw [E_eqW t11 (Nat.le_of_ble_eq_true rfl)]
  have e1 := e25 x h
  unfold dsk dskO at e1
  have t1 : (x.used.map bv).take x.used.length = x.used.map bv := List.take_of_length_le (by simp)
  have t2 : (x.taken.map bv).take x.taken.length = x.taken.map bv := List.take_of_length_le (by simp)
  have t3 : (x.inos.map inoO).take x.inos.length = x.inos.map inoO := List.take_of_length_le (by simp)
  have t4 : (x.blks.map blkO).take x.blks.length = x.blks.map blkO := List.take_of_length_le (by simp)
  simp only [dsk, F11, go_sem, seval, bnd_ite, e1, t1, t2, t3, t4, mmO, memNew, bv]
end Go.Proofs.YtaaajjinpppgeaaDoor
namespace Go.Proofs.YtaaajjinpppgeaaDoor
open Go Go.Abs
set_option maxRecDepth 100000
def ub (n : Int) : AV := .int .u8 (IntKind.u8.wrap n)
theorem ub_cool (n : Int) : coolX (ub n) = true := rfl
theorem ub_mi (g : Bool → Nat → Nat → Nat → AV) (l : List Int) : mapIdL g (l.map ub) = l.map ub := mi_map g ub l ub_cool
theorem ub_is (u : Bool → Nat → Nat → Nat → List Nat) (l : List Int) : idsL u (l.map ub) = [] := is_map u ub l ub_cool
attribute [go_sem] ub_mi ub_is
end Go.Proofs.YtaaajjinpppgeaaDoor
namespace Go.Proofs.YtaaajjinpppgeaaDoor
open Go Go.Abs
set_option maxRecDepth 100000
def sv (s : ByteArray) : AV := .str s
theorem sv_cool (x : ByteArray) : coolX (sv x) = true := rfl
theorem sv_len (x : ByteArray) : (sv x).cells.length = 1 := rfl
theorem sv_mi (g : Bool → Nat → Nat → Nat → AV) (l : List ByteArray) : mapIdL g (l.map sv) = l.map sv := mi_map g sv l sv_cool
theorem sv_is (u : Bool → Nat → Nat → Nat → List Nat) (l : List ByteArray) : idsL u (l.map sv) = [] := is_map u sv l sv_cool
theorem sv_coR (l : List ByteArray) : coolR 1 (l.map sv) = true := coR_map 1 sv l sv_len sv_cool
theorem sv_ice (x : ByteArray) : ice (sv x) = sv x := rfl
theorem sv_ic (l : List ByteArray) : iceL (l.map sv) = l.map sv := by rw [ice_m]; exact List.map_congr_left fun x _ => sv_ice x
theorem sv_rf (x : ByteArray) : (sv x).roFree = true := rfl
theorem sv_rfL (l : List ByteArray) : roFreeL (l.map sv) = true := rf_map sv l sv_rf
theorem sv_no (x : ByteArray) : (sv x).cells.all noOwnC = true := rfl
theorem sv_noL (l : List ByteArray) : (l.map sv).all (fun x => x.cells.all noOwnC) = true := no_map sv l sv_no
attribute [go_sem] sv_mi sv_is sv_coR sv_ic sv_ice sv_rfL sv_noL
end Go.Proofs.YtaaajjinpppgeaaDoor
namespace Go.Proofs.YtaaajjinpppgeaaDoor
open Go Go.Abs
set_option maxRecDepth 100000
def dvcSm (l : List ByteArray) : Prop := l.length ≤ 1048576
def dvcOk' (l : List ByteArray) : Prop := l.length ≤ maxLen ∧ ∀ x ∈ l, x.size ≤ maxLen
structure Fsy where
  mem : Mm
  units : List ByteArray
  deriving DecidableEq
structure Fsy.ok (x : Fsy) : Prop where
  mem : x.mem.ok
  dev : dvcOk' x.units
structure Fsy.sm (x : Fsy) : Prop where
  mem : x.mem.sm
  dev : dvcSm x.units
end Go.Proofs.YtaaajjinpppgeaaDoor
namespace Go.Proofs.YtaaajjinpppgeaaDoor
open Go Go.Abs
set_option maxRecDepth 100000
theorem e27k (k : Int) : E T 27 [.int .i64 k] [] = some (.agg [.int .i64 k, .int .i64 (if k = 0 then 0 else 1), .own 1 [.int .i64 0, .int .i64 0]], []) := by
  rw [E_eq t27 (Nat.le_of_ble_eq_true rfl)]
  by_cases h : k = 0
  · subst h; simp only [F27, go_sem, seval, bnd_ite]; try rfl
  · simp only [F27, go_sem, seval, bnd_ite, h, decide_false, if_false]; try rfl
theorem e38k (k : Int) : E T 38 [.int .i64 k] [] = some (.agg [.int .i64 k, .int .i64 (if k = 0 then 0 else 1), .own 1 [.int .i64 0, .int .i64 0]], []) := by
  rw [E_eq t38 (Nat.le_of_ble_eq_true rfl)]
  by_cases h : k = 0
  · subst h; simp only [F38, go_sem, seval, bnd_ite]; try rfl
  · simp only [F38, go_sem, seval, bnd_ite, h, decide_false, if_false]; try rfl
end Go.Proofs.YtaaajjinpppgeaaDoor
namespace Go.Proofs.YtaaajjinpppgeaaDoor
open Go Go.Abs
set_option maxRecDepth 100000
def inoN (k : Int) : Ino := ⟨k, if k = 0 then 0 else 1, [0, 0]⟩
def dskNew : Dsk := ⟨[false, false, false, false, false, false, false, false, false, false, false, false, false, false, false, false],
  [true, false, false, false, false, false, false, false], inoN 2 :: List.replicate 7 (inoN 0), List.replicate 16 blk0⟩
theorem e26 : E T 26 [] [] = some (.agg [.own 1 (dskNew.used.map bv), .own 1 (dskNew.taken.map bv)], []) := by
  rw [E_eq t26 (Nat.le_of_ble_eq_true rfl)]
  simp only [F26, dskNew, bv, go_sem, seval, bnd_ite]
theorem in193 : ∃ r, XL T 0 H12_3 L12_3 ⟨[(0, .ptr 0 0 0), (1, .ptr 1 0 0), (2, .int .i64 0)], [some (4, [.agg [.nil, .nil, .nil, .nil]]), some (4, [.agg [.own 1 (dskNew.used.map bv), .own 1 (dskNew.taken.map bv), .sl 2 0 0, .nil]]), some (3, [])]⟩ = some r ∧
    r.1 = .exit 0 ∧ lookA r.2.env 0 = .ptr 0 0 0 ∧ lookA r.2.env 1 = .ptr 1 0 0 ∧ r.2.mem = [some (4, [.agg [.nil, .nil, .nil, .nil]]), some (4, [.agg [.own 1 (dskNew.used.map bv), .own 1 (dskNew.taken.map bv), .sl 2 0 8, .nil]]), some (3, (List.replicate 8 (inoN 0)).map inoO)] := by
  have e1 := e27k 0
  rw [if_pos rfl] at e1
  generalize dskNew.used = U
  generalize dskNew.taken = W
  refine XL_each (List.replicate 8 (inoN 0)) (fun (_ : Unit) _ => ()) (fun i _ => ⟨[(0, .ptr 0 0 0), (1, .ptr 1 0 0), (2, .int .i64 (i : Nat))], [some (4, [.agg [.nil, .nil, .nil, .nil]]), some (4, [.agg [.own 1 (U.map bv), .own 1 (W.map bv), .sl 2 0 i, .nil]]), some (3, ((List.replicate 8 (inoN 0)).take i).map inoO)]⟩) (fun _ _ => True)
    (fun _ r => r.1 = .exit 0 ∧ lookA r.2.env 0 = .ptr 0 0 0 ∧ lookA r.2.env 1 = .ptr 1 0 0 ∧ r.2.mem = [some (4, [.agg [.nil, .nil, .nil, .nil]]), some (4, [.agg [.own 1 (U.map bv), .own 1 (W.map bv), .sl 2 0 8, .nil]]), some (3, (List.replicate 8 (inoN 0)).map inoO)]) ?step ?last () trivial
  case step =>
    intro i _ p hp hi _
    refine ⟨?_, trivial⟩
    have hi8 : i < 8 := by simpa using hi
    have hpe : p = inoN 0 := List.eq_of_mem_replicate (List.mem_of_getElem? hp)
    obtain ⟨M, hM, ml, mi, ms, mt, ma⟩ := snoc_facts inoO_cool hp
    rw [hpe] at ma
    have ma : M ++ [.agg [.int .i64 0, .int .i64 0, .own 1 [.int .i64 0, .int .i64 0]]] = ((List.replicate 8 (inoN 0)).take (i + 1)).map inoO := ma
    have k1 : (i : Int) < 8 := by omega
    have hap : (i + 1) * 40 ≤ 140737488355328 := by omega
    have hw := w_i64 ((i : Int) + 1) (by omega)
    generalize List.replicate 8 (inoN 0) = R at *
    simp only [hM]
    simp only [XG, L12_3, h12_3, go_sem, seval, bnd_ite, k1, e1, ml, mi, ms, mt, ma, hap, hw, Int.natCast_nonneg]
    first | done | rfl
  case last =>
    intro _ _
    have hR : (List.replicate 8 (inoN 0)).length = 8 := List.length_replicate
    rw [hR]
    generalize List.replicate 8 (inoN 0) = R at *
    have tR : (R.map inoO).take 8 = R.map inoO := List.take_of_length_le (by simp; omega)
    have k1 : ¬ ((8 : Nat) : Int) < 8 := by omega
    simp only [XG, L12_3, h12_3, go_sem, seval, bnd_ite, k1, decide_false]
    exact .mk (by simp) ⟨rfl, rfl, rfl, by rw [← List.map_take] at tR; simp only [tR]⟩
theorem e12 : E T 12 [] [] = some (dskO dskNew, []) := by
  rw [E_eqW t12 (Nat.le_of_ble_eq_true rfl)]
  have e1 := e26
  have e2 := e27k 2
  rw [if_neg (by decide)] at e2
  obtain ⟨⟨y, e, m⟩, q1, qx, q2, q3, qm⟩ := in193
  simp only at qx q2 q3 qm; subst qx; subst qm
  have hu : (dskNew.used.map bv).length = 16 := rfl
  have ht : (dskNew.taken.map bv).length = 8 := rfl
  have tu : (dskNew.used.map bv).take 16 = dskNew.used.map bv := rfl
  have tt : (dskNew.taken.map bv).take 8 = dskNew.taken.map bv := rfl
  have h1 : dskO dskNew = .agg [.own 1 (dskNew.used.map bv), .own 1 (dskNew.taken.map bv), .own 3 (dskNew.inos.map inoO), .own 3 (dskNew.blks.map blkO)] := rfl
  have h2 : dskNew.inos.map inoO = .agg [.int .i64 2, .int .i64 1, .own 1 [.int .i64 0, .int .i64 0]] :: (List.replicate 7 (inoN 0)).map inoO := rfl
  have h3 : dskNew.blks.map blkO = List.replicate 16 (.agg [.bool false, .own 2 [], .str ⟨#[]⟩]) := rfl
  have h4 : (List.replicate 8 (inoN 0)).map inoO = .agg [.int .i64 0, .int .i64 0, .own 1 [.int .i64 0, .int .i64 0]] :: (List.replicate 7 (inoN 0)).map inoO := rfl
  have h5 : ((List.replicate 7 (inoN 0)).map inoO).length = 7 := rfl
  have h6 : ((List.replicate 7 (inoN 0)).map inoO).take 7 = (List.replicate 7 (inoN 0)).map inoO := rfl
  rw [h1, h2, h3]
  rw [h4] at q1
  generalize (List.replicate 7 (inoN 0)) = R at *
  generalize dskNew.used = U at *
  generalize dskNew.taken = W at *
  simp only [List.length_map] at hu ht h5
  simp only [F12, h12_3, go_sem, seval, bnd_ite, e1, e2, q1, q2, q3, hu, ht, tu, tt, h5, h6]
  first | done | rfl
end Go.Proofs.YtaaajjinpppgeaaDoor
namespace Go.Proofs.YtaaajjinpppgeaaDoor
open Go Go.Abs
set_option maxRecDepth 100000
def dp0 : AV := .agg [.int .i64 0, .int .i64 0, .int .i64 0, .int .i64 0, .int .i64 0, .int .i64 0, .str ⟨#[]⟩, .bool false, .bool false, .int .i64 0, .nil]
theorem dp_eq (d : Dp) : dp d = .agg [.int .i64 d.id, .int .i64 d.kind, .int .i64 d.ino, .int .i64 d.ptr, .int .i64 d.block, .int .i64 d.slot, .str d.name, .bool d.bits, .bool d.other, .int .i64 d.after, .ro 1 (d.blocks.map iv)] := rfl
def onSlot (b s : Int) (d : Dp) : Bool := ((decide (d.kind = 2) || decide (d.kind = 3)) || decide (d.kind = 4)) && decide (d.block = b) && decide (d.slot = s)
def slotDep (x : Mm) (b s : Int) : AV := match x.deps.findIdx? (onSlot b s) with
  | some j => .tup [dp (x.deps.getD j ⟨0, 0, 0, 0, 0, 0, ⟨#[]⟩, false, false, 0, []⟩), .bool true]
  | none => .tup [dp0, .bool false]
theorem e102 (x : Mm) (h : x.sm) (b s : Int) : E T 102 [mm x, .int .i64 b, .int .i64 s] [] = some (slotDep x b s, []) := by
  rw [E_eq t102 (Nat.le_of_ble_eq_true rfl)]
  have hl := h.deps
  simp only [mm, F102, h102_2, go_sem, seval, bnd_ite]
  refine (XL_find (T := T) (b := 0) (hd := H102_2) (x := L102_2) x.deps (onSlot b s) (fun j => ⟨[(1, .int .i64 b), (2, .int .i64 s), (6, .ptr 0 0 0), (11, .ro 11 (x.deps.map dp)), (12, .int .i64 x.deps.length), (13, .int .i64 (j : Nat))], [some (11, [dp0])]⟩)
    (fun o r => match o with
      | some j => r.1 = .ret ∧ lookA r.2.env 6 = .ptr 0 0 0 ∧ lookA r.2.env 7 = .bool true ∧ ∃ c, r.2.mem = [some (11, [dp (x.deps.getD j ⟨0, 0, 0, 0, 0, 0, ⟨#[]⟩, false, false, 0, []⟩)]), c]
      | none => r.1 = .exit 0 ∧ lookA r.2.env 6 = .ptr 0 0 0 ∧ r.2.mem = [some (11, [dp0])]) ?step ?hit ?last).elim ?main
  case step =>
    intro j d hd hj hP _
    have j1 : (j : Int) < (x.deps.length : Int) := by omega
    have gd : (x.deps.map dp).getD j .undef = dp d := gD_map hd
    have e1 := e81 d
    have hw := w_i64 ((j : Int) + 1) (by omega)
    rw [dp_eq] at gd e1
    unfold dp0
    unfold onSlot at hP
    cases hk : (decide (d.kind = 2) || decide (d.kind = 3)) with
    | true =>
      rw [hk] at e1 hP
      cases hb : decide (d.block = b) with
      | false =>
        simp only [XG, L102_2, h102_2, go_sem, seval, bnd_ite, j1, gd, e1, hb, hw, Int.natCast_nonneg, decide_true, if_true, if_false, Bool.false_eq_true]
        first | done | rfl | trace_state
      | true =>
        rw [hb] at hP
        have hs : decide (d.slot = s) = false := by simpa using hP
        simp only [XG, L102_2, h102_2, go_sem, seval, bnd_ite, j1, gd, e1, hb, hs, hw, Int.natCast_nonneg, decide_true, if_true, if_false, Bool.false_eq_true]
        first | done | rfl | trace_state
    | false =>
      rw [hk] at e1 hP
      cases h4 : decide (d.kind = 4) with
      | false =>
        simp only [XG, L102_2, h102_2, go_sem, seval, bnd_ite, j1, gd, e1, h4, hw, Int.natCast_nonneg, decide_true, if_true, if_false, Bool.false_eq_true]
        first | done | rfl | trace_state
      | true =>
        rw [h4] at hP
        cases hb : decide (d.block = b) with
        | false =>
          simp only [XG, L102_2, h102_2, go_sem, seval, bnd_ite, j1, gd, e1, h4, hb, hw, Int.natCast_nonneg, decide_true, if_true, if_false, Bool.false_eq_true]
          first | done | rfl | trace_state
        | true =>
          rw [hb] at hP
          have hs : decide (d.slot = s) = false := by simpa using hP
          simp only [XG, L102_2, h102_2, go_sem, seval, bnd_ite, j1, gd, e1, h4, hb, hs, hw, Int.natCast_nonneg, decide_true, if_true, if_false, Bool.false_eq_true]
          first | done | rfl | trace_state
  case hit =>
    intro j d hd hj hP _
    have j1 : (j : Int) < (x.deps.length : Int) := by omega
    have gd : (x.deps.map dp).getD j .undef = dp d := gD_map hd
    have gx : ∀ z, x.deps.getD j z = d := fun z => getD_at hd
    have e1 := e81 d
    have hw := w_i64 ((j : Int) + 1) (by omega)
    simp only [gx, dp_eq d]
    rw [dp_eq] at gd e1
    unfold dp0
    unfold onSlot at hP
    simp only [Bool.and_eq_true] at hP
    cases hk : (decide (d.kind = 2) || decide (d.kind = 3)) with
    | true =>
      rw [hk] at e1
      simp only [XG, L102_2, h102_2, go_sem, seval, bnd_ite, j1, gd, e1, hP.1.2, hP.2, hw, Int.natCast_nonneg, decide_true, if_true, if_false, Bool.false_eq_true]
      first | exact .mk (by simp) ⟨rfl, rfl, rfl, _, rfl⟩ | trace_state
    | false =>
      have h4 : decide (d.kind = 4) = true := by have := hP.1.1; rw [hk] at this; simpa using this
      rw [hk] at e1
      simp only [XG, L102_2, h102_2, go_sem, seval, bnd_ite, j1, gd, e1, h4, hP.1.2, hP.2, hw, Int.natCast_nonneg, decide_true, if_true, if_false, Bool.false_eq_true]
      first | exact .mk (by simp) ⟨rfl, rfl, rfl, _, rfl⟩ | trace_state
  case last =>
    intro _
    unfold dp0
    simp only [XG, L102_2, h102_2, go_sem, seval, bnd_ite, Int.lt_irrefl, decide_false]
    exact .mk (by simp) ⟨rfl, rfl, rfl⟩
  case main =>
  rintro ⟨y, e, m⟩ ⟨k1, k2⟩
  have hs : ((0 : Nat) : Int) = 0 := rfl
  unfold dp0 at k1
  simp only [hs] at k1
  unfold slotDep
  cases hf : x.deps.findIdx? (onSlot b s) with
  | none =>
    rw [hf] at k2
    obtain ⟨q1, q2, q3⟩ := k2
    simp only at q1 q2 q3; subst q1; subst q3
    unfold dp0
    simp only [k1, go_sem, seval, bnd_ite, q2]
    first | done | rfl | trace_state
  | some j =>
    rw [hf] at k2
    obtain ⟨q1, q2, q3, c, q4⟩ := k2
    simp only at q1 q2 q3 q4; subst q1; subst q4
    dsimp only at k1 ⊢
    generalize x.deps.getD j ⟨0, 0, 0, 0, 0, 0, ⟨#[]⟩, false, false, 0, []⟩ = d at *
    rw [dp_eq d]
    simp only [k1, go_sem, seval, bnd_ite, q2, q3]
    first | done | rfl | trace_state
end Go.Proofs.YtaaajjinpppgeaaDoor
namespace Go.Proofs.YtaaajjinpppgeaaDoor
open Go Go.Abs
set_option maxRecDepth 100000
theorem inoOf_sm {x : Dsk} (h : x.sm) (i : Int) : (inoOf x i).sm := by
  cases hc : inside i 1 x.inos.length with
  | true => exact h.ino _ (List.mem_of_getElem? (inoOf_mem hc))
  | false => unfold inoOf; rw [hc]; exact (by decide : (0 : Nat) ≤ 1048576)
theorem blkOf_sm {x : Dsk} (h : x.sm) (i : Int) : (blkOf x i).sm := by
  cases hc : inside i 1 x.blks.length with
  | true => exact h.blk _ (List.mem_of_getElem? (blkOf_mem hc))
  | false => unfold blkOf; rw [hc]; exact (by decide : (0 : Nat) ≤ 1048576)
def depId (x : Mm) (b s : Int) : Int := match x.deps.findIdx? (onSlot b s) with
  | some j => (x.deps.getD j ⟨0, 0, 0, 0, 0, 0, ⟨#[]⟩, false, false, 0, []⟩).id
  | none => 0
theorem e93 (x : Mm) (h : x.sm) (b s : Int) : E T 93 [mm x, .int .i64 b, .int .i64 s] [] = some (.int .i64 (depId x b s), []) := by
  rw [E_eq t93 (Nat.le_of_ble_eq_true rfl)]
  have e1 := e102 x h b s
  unfold depId
  unfold slotDep dp0 at e1
  unfold mm at e1 ⊢
  cases hf : x.deps.findIdx? (onSlot b s) with
  | none =>
    rw [hf] at e1
    simp only at e1
    simp only [F93, go_sem, seval, bnd_ite, e1]
    first | done | rfl | trace_state
  | some j =>
    rw [hf] at e1
    dsimp only at e1 ⊢
    generalize x.deps.getD j ⟨0, 0, 0, 0, 0, 0, ⟨#[]⟩, false, false, 0, []⟩ = d at *
    rw [dp_eq d] at e1
    simp only [F93, go_sem, seval, bnd_ite, e1]
    first | done | rfl | trace_state
def freeAt (x : Mm) (p : Int) (i : Nat) : Bool := bare ((blkOf x.disk p).slots.getD i ⟨⟨#[]⟩, 0⟩) && decide (depId x p (i : Nat) = 0)
def freeIn (x : Mm) (p : Int) : Option Nat := (List.range (blkOf x.disk p).slots.length).findIdx? (freeAt x p)
def freeSlot (x : Mm) (dir : Int) : Int × Int := match (inoOf x.disk dir).ptrs.findIdx? (fun p => (freeIn x p).isSome) with
  | some j => ((inoOf x.disk dir).ptrs.getD j 0, (((freeIn x ((inoOf x.disk dir).ptrs.getD j 0)).getD 0 : Nat) : Int))
  | none => (0, 0)
def free4 (l : List Int) (k : Nat) (m : List AV) (p : Int) (o : Option Nat) (r : AX × St) : Prop := match o with
  | some i => r.1 = .ret ∧ lookA r.2.env 4 = .int .i64 p ∧ lookA r.2.env 5 = .int .i64 (i : Nat)
  | none => r.1 = .exit 2 ∧ lookA r.2.env 2 = .ptr 0 0 0 ∧ lookA r.2.env 14 = .ro 1 (l.map iv) ∧ lookA r.2.env 15 = .int .i64 l.length ∧ lookA r.2.env 16 = .int .i64 (k : Nat) ∧ r.2.mem = [some (7, m)]
theorem in64 (x : Mm) (h : x.sm) (l : List Int) (k : Nat) (p : Int) : ∃ r, XL T 0 H64_6 L64_6 ⟨[(2, .ptr 0 0 0), (7, .int .i64 p), (14, .ro 1 (l.map iv)), (15, .int .i64 l.length), (16, .int .i64 (k : Nat)), (24, .ro 2 ((blkOf x.disk p).slots.map slt)), (25, .int .i64 (blkOf x.disk p).slots.length), (26, .int .i64 0)], [some (7, [.agg (mmV x)])]⟩ = some r ∧
    free4 l k [.agg (mmV x)] p (freeIn x p) r := by
  have hb := blkOf_sm h.disk p
  unfold freeIn
  unfold Blk.sm at hb
  have hat : ∀ i, (blkOf x.disk p).slots[i]? = some ((blkOf x.disk p).slots.getD i ⟨⟨#[]⟩, 0⟩) ↔ i < (blkOf x.disk p).slots.length := fun i => by
    constructor
    · intro hh; exact (List.getElem?_eq_some_iff.1 hh).1
    · intro hh; simp [List.getD, hh]
  have hr : ∀ i j : Nat, (List.range (blkOf x.disk p).slots.length)[i]? = some j → j = i := fun i j hh => by
    obtain ⟨a, b⟩ := List.getElem?_eq_some_iff.1 hh
    simp at b; exact b.symm
  refine XL_find (T := T) (b := 0) (hd := H64_6) (x := L64_6) (List.range (blkOf x.disk p).slots.length) (freeAt x p) (fun i => ⟨[(2, .ptr 0 0 0), (7, .int .i64 p), (14, .ro 1 (l.map iv)), (15, .int .i64 l.length), (16, .int .i64 (k : Nat)), (24, .ro 2 ((blkOf x.disk p).slots.map slt)), (25, .int .i64 (blkOf x.disk p).slots.length), (26, .int .i64 (i : Nat))], [some (7, [.agg (mmV x)])]⟩)
    (free4 l k [.agg (mmV x)] p) ?step ?hit ?last
  case step =>
    intro i j hj hi hP _
    have := hr i j hj; subst this
    rw [List.length_range] at hi
    have i1 : (j : Int) < ((blkOf x.disk p).slots.length : Int) := by omega
    have gs : ((blkOf x.disk p).slots.map slt).getD j .undef = slt ((blkOf x.disk p).slots.getD j ⟨⟨#[]⟩, 0⟩) := gD_map ((hat j).2 hi)
    have e1 := e93 x h p (j : Nat)
    have hw := w_i64 ((j : Int) + 1) (by omega)
    unfold freeAt bare at hP
    generalize (blkOf x.disk p).slots.getD j ⟨⟨#[]⟩, 0⟩ = s at *
    rw [show slt s = .agg [.str s.name, .int .i64 s.ino] from rfl] at gs
    unfold mm at e1
    unfold mmV
    cases hs : (decide (s.name = ⟨#[]⟩) && decide (s.ino = 0)) with
    | false =>
      simp only [XG, L64_6, h64_6, go_sem, seval, bnd_ite, i1, gs, hs, hw, Int.natCast_nonneg, decide_true, if_true, if_false, Bool.false_eq_true]
      first | done | rfl | trace_state
    | true =>
      rw [hs, Bool.true_and] at hP
      simp only [XG, L64_6, h64_6, go_sem, seval, bnd_ite, i1, gs, hs, e1, hP, hw, Int.natCast_nonneg, decide_true, if_true, if_false, Bool.false_eq_true]
      first | done | rfl | trace_state
  case hit =>
    intro i j hj hi hP _
    have := hr i j hj; subst this
    rw [List.length_range] at hi
    have i1 : (j : Int) < ((blkOf x.disk p).slots.length : Int) := by omega
    have gs : ((blkOf x.disk p).slots.map slt).getD j .undef = slt ((blkOf x.disk p).slots.getD j ⟨⟨#[]⟩, 0⟩) := gD_map ((hat j).2 hi)
    have e1 := e93 x h p (j : Nat)
    unfold freeAt bare at hP
    generalize (blkOf x.disk p).slots.getD j ⟨⟨#[]⟩, 0⟩ = s at *
    rw [show slt s = .agg [.str s.name, .int .i64 s.ino] from rfl] at gs
    unfold mm at e1
    unfold mmV
    rw [Bool.and_eq_true] at hP
    have hs := hP.1
    have hq := hP.2
    simp only [XG, L64_6, h64_6, go_sem, seval, bnd_ite, i1, gs, hs, e1, hq, Int.natCast_nonneg, decide_true, if_true, if_false, Bool.false_eq_true]
    first | exact .mk (by simp) ⟨rfl, rfl, rfl⟩ | trace_state
  case last =>
    intro _
    rw [List.length_range]
    unfold mmV
    simp only [XG, L64_6, h64_6, go_sem, seval, bnd_ite, Int.lt_irrefl, decide_false]
    first | exact .mk (by simp) ⟨rfl, rfl, rfl, rfl, rfl, rfl⟩ | trace_state
theorem e64 (x : Mm) (h : x.sm) (dir : Int) : E T 64 [mm x, .int .i64 dir] [] = some (.tup [.int .i64 (freeSlot x dir).1, .int .i64 (freeSlot x dir).2], []) := by
  rw [E_eq t64 (Nat.le_of_ble_eq_true rfl)]
  have e1 := e32u x.disk h.disk dir
  have hp := inoOf_sm h.disk dir
  unfold freeSlot
  generalize inoOf x.disk dir = q at *
  obtain ⟨pk, pl, l⟩ := q
  unfold Ino.sm at hp
  simp only at hp
  rw [show ino ⟨pk, pl, l⟩ = .agg [.int .i64 pk, .int .i64 pl, .ro 1 (l.map iv)] from rfl] at e1
  unfold dsk at e1
  obtain ⟨⟨y, e, m⟩, k1, k2⟩ := XL_find (T := T) (b := 0) (hd := H64_2) (x := L64_2) l (fun p => (freeIn x p).isSome) (fun j => ⟨[(2, .ptr 0 0 0), (14, .ro 1 (l.map iv)), (15, .int .i64 l.length), (16, .int .i64 (j : Nat))], [some (7, [.agg (mmV x)])]⟩)
    (fun o r => match o with
      | some j => r.1 = .ret ∧ lookA r.2.env 4 = .int .i64 (l.getD j 0) ∧ lookA r.2.env 5 = .int .i64 (((freeIn x (l.getD j 0)).getD 0 : Nat) : Int)
      | none => r.1 = .exit 0 ∧ r.2.mem = [some (7, [.agg (mmV x)])])
    (by
      intro j p hq hj hP _
      have j1 : (j : Int) < (l.length : Int) := by omega
      have gq : (l.map iv).getD j .undef = .int .i64 p := gD_map hq
      have e2 := e46u x.disk h.disk p
      have hw := w_i64 ((j : Int) + 1) (by omega)
      obtain ⟨⟨y, e, m⟩, k1, k2⟩ := in64 x h l j p
      generalize freeIn x p = o at *
      cases o with
      | some i => simp at hP
      | none =>
        obtain ⟨a1, a2, a3, a4, a5, a6⟩ := k2
        simp only at a1 a2 a3 a4 a5 a6; subst a1; subst a6
        generalize blkOf x.disk p = b at *
        rw [show blk b = .agg [.bool b.dir, .ro 2 (b.slots.map slt), .str b.text] from rfl] at e2
        unfold dsk at e2
        unfold mmV at k1 ⊢
        simp only [XG, L64_2, h64_2, h64_6, go_sem, seval, bnd_ite, j1, gq, e2, k1, a2, a3, a4, a5, hw, Int.natCast_nonneg, decide_true, if_true, if_false, Bool.false_eq_true]
        first | done | rfl | trace_state)
    (by
      intro j p hq hj hP _
      have j1 : (j : Int) < (l.length : Int) := by omega
      have gq : (l.map iv).getD j .undef = .int .i64 p := gD_map hq
      have gl : l.getD j 0 = p := getD_at hq
      have e2 := e46u x.disk h.disk p
      obtain ⟨⟨y, e, m⟩, k1, k2⟩ := in64 x h l j p
      simp only [gl]
      generalize freeIn x p = o at *
      cases o with
      | none => simp at hP
      | some i =>
        obtain ⟨a1, a2, a3⟩ := k2
        simp only at a1 a2 a3; subst a1
        generalize blkOf x.disk p = b at *
        rw [show blk b = .agg [.bool b.dir, .ro 2 (b.slots.map slt), .str b.text] from rfl] at e2
        unfold dsk at e2
        unfold mmV at k1 ⊢
        simp only [XG, L64_2, h64_2, h64_6, go_sem, seval, bnd_ite, j1, gq, e2, k1, a2, a3, Int.natCast_nonneg, decide_true, if_true, if_false, Bool.false_eq_true]
        first | exact .mk (by simp) ⟨rfl, a2, a3⟩ | trace_state)
    (by
      intro _
      unfold mmV
      simp only [XG, L64_2, h64_2, go_sem, seval, bnd_ite, Int.lt_irrefl, decide_false]
      exact .mk (by simp) ⟨rfl, rfl⟩)
  have hs : ((0 : Nat) : Int) = 0 := rfl
  unfold mmV at k1
  simp only [hs] at k1
  unfold mm
  cases hf : l.findIdx? (fun p => (freeIn x p).isSome) with
  | none =>
    rw [hf] at k2
    obtain ⟨q1, q2⟩ := k2
    simp only at q1 q2; subst q1
    simp only [F64, h64_2, go_sem, seval, bnd_ite, e1, k1, q2]
    first | done | rfl | trace_state
  | some j =>
    rw [hf] at k2
    obtain ⟨q1, q2, q3⟩ := k2
    simp only at q1 q2 q3; subst q1
    simp only [F64, h64_2, go_sem, seval, bnd_ite, e1, k1, q2, q3]
    first | done | rfl | trace_state
end Go.Proofs.YtaaajjinpppgeaaDoor
