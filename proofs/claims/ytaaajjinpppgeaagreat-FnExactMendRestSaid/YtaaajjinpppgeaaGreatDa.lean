/- Disks: counting, copying, comparing. Own work; no condition. -/
import Derived.Test.YtaaajjinpppgeaaGreatFd
import Derived.Test.YtaaajjinpppgeaaGreatGs
set_option linter.unusedVariables false
set_option linter.unusedSimpArgs false
set_option linter.unusedSectionVars false
namespace Go.Proofs.YtaaajjinpppgeaaGreat
open Go Go.Abs
set_option maxRecDepth 100000
def iv (z : Int) : AV := .int .i64 z
def bv (b : Bool) : AV := .bool b

theorem iv_cells (x : Int) : (iv x).cells = [iv x] := rfl
theorem iv_cool (x : Int) : coolX (iv x) = true := rfl
theorem iv_len (x : Int) : (iv x).cells.length = 1 := rfl
theorem iv_mi (g : Bool → Nat → Nat → Nat → AV) (l : List Int) : mapIdL g (l.map iv) = l.map iv := mi_map g iv l iv_cool
theorem iv_is (u : Bool → Nat → Nat → Nat → List Nat) (l : List Int) : idsL u (l.map iv) = [] := is_map u iv l iv_cool
theorem iv_m1 (g : Bool → Nat → Nat → Nat → AV) (x : Int) : mapId g (iv x) = iv x := ((cool_ids g (fun _ _ _ _ => []) (iv x)).2 (iv_cool x)).1
theorem iv_i1 (u : Bool → Nat → Nat → Nat → List Nat) (x : Int) : idsV u (iv x) = [] := ((cool_ids (fun _ _ _ _ => .undef) u (iv x)).2 (iv_cool x)).2
theorem iv_coR (l : List Int) : coolR 1 (l.map iv) = true := coR_map 1 iv l iv_len iv_cool
theorem iv_ice (x : Int) : ice (iv x) = iv x := rfl
theorem iv_ic (l : List Int) : iceL (l.map iv) = l.map iv := by rw [ice_m]; exact List.map_congr_left fun x _ => iv_ice x
theorem iv_rf (x : Int) : (iv x).roFree = true := rfl
theorem iv_rfL (l : List Int) : roFreeL (l.map iv) = true := rf_map iv l iv_rf
theorem iv_no (x : Int) : (iv x).cells.all noOwnC = true := rfl
theorem iv_noL (l : List Int) : (l.map iv).all (fun x => x.cells.all noOwnC) = true := no_map iv l iv_no
attribute [go_sem] iv_mi iv_is iv_coR iv_ic iv_ice iv_rfL iv_noL

theorem bv_cells (x : Bool) : (bv x).cells = [bv x] := rfl
theorem bv_cool (x : Bool) : coolX (bv x) = true := rfl
theorem bv_len (x : Bool) : (bv x).cells.length = 1 := rfl
theorem bv_mi (g : Bool → Nat → Nat → Nat → AV) (l : List Bool) : mapIdL g (l.map bv) = l.map bv := mi_map g bv l bv_cool
theorem bv_is (u : Bool → Nat → Nat → Nat → List Nat) (l : List Bool) : idsL u (l.map bv) = [] := is_map u bv l bv_cool
theorem bv_m1 (g : Bool → Nat → Nat → Nat → AV) (x : Bool) : mapId g (bv x) = bv x := ((cool_ids g (fun _ _ _ _ => []) (bv x)).2 (bv_cool x)).1
theorem bv_i1 (u : Bool → Nat → Nat → Nat → List Nat) (x : Bool) : idsV u (bv x) = [] := ((cool_ids (fun _ _ _ _ => .undef) u (bv x)).2 (bv_cool x)).2
theorem bv_coR (l : List Bool) : coolR 1 (l.map bv) = true := coR_map 1 bv l bv_len bv_cool
theorem bv_ice (x : Bool) : ice (bv x) = bv x := rfl
theorem bv_ic (l : List Bool) : iceL (l.map bv) = l.map bv := by rw [ice_m]; exact List.map_congr_left fun x _ => bv_ice x
theorem bv_rf (x : Bool) : (bv x).roFree = true := rfl
theorem bv_rfL (l : List Bool) : roFreeL (l.map bv) = true := rf_map bv l bv_rf
theorem bv_no (x : Bool) : (bv x).cells.all noOwnC = true := rfl
theorem bv_noL (l : List Bool) : (l.map bv).all (fun x => x.cells.all noOwnC) = true := no_map bv l bv_no
attribute [go_sem] bv_mi bv_is bv_coR bv_ic bv_ice bv_rfL bv_noL

structure Slt where
  name : ByteArray
  ino : Int
  deriving DecidableEq
def slt (x : Slt) : AV := .agg [.str x.name, .int .i64 x.ino]
def Slt.ok (x : Slt) : Prop := x.name.size ≤ maxLen

theorem slt_cells (x : Slt) : (slt x).cells = [.str x.name, .int .i64 x.ino] := rfl
theorem slt_cool (x : Slt) : coolX (slt x) = true := rfl
theorem slt_len (x : Slt) : (slt x).cells.length = 2 := rfl
theorem slt_mi (g : Bool → Nat → Nat → Nat → AV) (l : List Slt) : mapIdL g (l.map slt) = l.map slt := mi_map g slt l slt_cool
theorem slt_is (u : Bool → Nat → Nat → Nat → List Nat) (l : List Slt) : idsL u (l.map slt) = [] := is_map u slt l slt_cool
theorem slt_m1 (g : Bool → Nat → Nat → Nat → AV) (x : Slt) : mapId g (slt x) = slt x := ((cool_ids g (fun _ _ _ _ => []) (slt x)).2 (slt_cool x)).1
theorem slt_i1 (u : Bool → Nat → Nat → Nat → List Nat) (x : Slt) : idsV u (slt x) = [] := ((cool_ids (fun _ _ _ _ => .undef) u (slt x)).2 (slt_cool x)).2
theorem slt_coR (l : List Slt) : coolR 2 (l.map slt) = true := coR_map 2 slt l slt_len slt_cool
theorem slt_ice (x : Slt) : ice (slt x) = slt x := rfl
theorem slt_ic (l : List Slt) : iceL (l.map slt) = l.map slt := by rw [ice_m]; exact List.map_congr_left fun x _ => slt_ice x
theorem slt_rf (x : Slt) : (slt x).roFree = true := rfl
theorem slt_rfL (l : List Slt) : roFreeL (l.map slt) = true := rf_map slt l slt_rf
theorem slt_no (x : Slt) : (slt x).cells.all noOwnC = true := rfl
theorem slt_noL (l : List Slt) : (l.map slt).all (fun x => x.cells.all noOwnC) = true := no_map slt l slt_no
attribute [go_sem] slt_mi slt_is slt_coR slt_ic slt_ice slt_rfL slt_noL

structure Ino where
  kind : Int
  links : Int
  ptrs : List Int
  deriving DecidableEq
def ino (x : Ino) : AV := .agg [.int .i64 x.kind, .int .i64 x.links, .ro 1 (x.ptrs.map iv)]
def inoO (x : Ino) : AV := .agg [.int .i64 x.kind, .int .i64 x.links, .own 1 (x.ptrs.map iv)]
def Ino.ok (x : Ino) : Prop := x.ptrs.length ≤ maxLen
def Ino.sm (x : Ino) : Prop := x.ptrs.length ≤ 1048576

theorem ino_cells (x : Ino) : (ino x).cells = [.int .i64 x.kind, .int .i64 x.links, .ro 1 (x.ptrs.map iv)] := rfl
theorem ino_cool (x : Ino) : coolX (ino x) = true := rfl
theorem ino_len (x : Ino) : (ino x).cells.length = 3 := rfl
theorem ino_mi (g : Bool → Nat → Nat → Nat → AV) (l : List Ino) : mapIdL g (l.map ino) = l.map ino := mi_map g ino l ino_cool
theorem ino_is (u : Bool → Nat → Nat → Nat → List Nat) (l : List Ino) : idsL u (l.map ino) = [] := is_map u ino l ino_cool
theorem ino_m1 (g : Bool → Nat → Nat → Nat → AV) (x : Ino) : mapId g (ino x) = ino x := ((cool_ids g (fun _ _ _ _ => []) (ino x)).2 (ino_cool x)).1
theorem ino_i1 (u : Bool → Nat → Nat → Nat → List Nat) (x : Ino) : idsV u (ino x) = [] := ((cool_ids (fun _ _ _ _ => .undef) u (ino x)).2 (ino_cool x)).2
theorem ino_coR (l : List Ino) : coolR 3 (l.map ino) = true := coR_map 3 ino l ino_len ino_cool
theorem ino_ice (x : Ino) : ice (ino x) = ino x := rfl
theorem ino_ic (l : List Ino) : iceL (l.map ino) = l.map ino := by rw [ice_m]; exact List.map_congr_left fun x _ => ino_ice x
theorem ino_no (x : Ino) : (ino x).cells.all noOwnC = true := rfl
theorem ino_noL (l : List Ino) : (l.map ino).all (fun x => x.cells.all noOwnC) = true := no_map ino l ino_no
attribute [go_sem] ino_mi ino_is ino_coR ino_ic ino_ice ino_noL

theorem inoO_cells (x : Ino) : (inoO x).cells = [.int .i64 x.kind, .int .i64 x.links, .own 1 (x.ptrs.map iv)] := rfl
theorem inoO_cool (x : Ino) : coolX (inoO x) = true := by simp only [inoO, go_sem, Bool.and_self]
theorem inoO_len (x : Ino) : (inoO x).cells.length = 3 := rfl
theorem inoO_mi (g : Bool → Nat → Nat → Nat → AV) (l : List Ino) : mapIdL g (l.map inoO) = l.map inoO := mi_map g inoO l inoO_cool
theorem inoO_is (u : Bool → Nat → Nat → Nat → List Nat) (l : List Ino) : idsL u (l.map inoO) = [] := is_map u inoO l inoO_cool
theorem inoO_m1 (g : Bool → Nat → Nat → Nat → AV) (x : Ino) : mapId g (inoO x) = inoO x := ((cool_ids g (fun _ _ _ _ => []) (inoO x)).2 (inoO_cool x)).1
theorem inoO_i1 (u : Bool → Nat → Nat → Nat → List Nat) (x : Ino) : idsV u (inoO x) = [] := ((cool_ids (fun _ _ _ _ => .undef) u (inoO x)).2 (inoO_cool x)).2
theorem inoO_coR (l : List Ino) : coolR 3 (l.map inoO) = true := coR_map 3 inoO l inoO_len inoO_cool
theorem inoO_ice (x : Ino) : ice (inoO x) = ino x := by simp only [inoO, ino, go_sem]
theorem inoO_ic (l : List Ino) : iceL (l.map inoO) = l.map ino := by rw [ice_m]; exact List.map_congr_left fun x _ => inoO_ice x
theorem inoO_rf (x : Ino) : (inoO x).roFree = true := by simp [inoO, AV.roFree, roFreeL, iv_rfL]
theorem inoO_rfL (l : List Ino) : roFreeL (l.map inoO) = true := rf_map inoO l inoO_rf
attribute [go_sem] inoO_mi inoO_is inoO_coR inoO_ic inoO_ice inoO_rfL

structure Blk where
  dir : Bool
  slots : List Slt
  text : ByteArray
  deriving DecidableEq
def blk (x : Blk) : AV := .agg [.bool x.dir, .ro 2 (x.slots.map slt), .str x.text]
def blkO (x : Blk) : AV := .agg [.bool x.dir, .own 2 (x.slots.map slt), .str x.text]
def Blk.ok (x : Blk) : Prop := x.slots.length ≤ maxLen ∧ x.text.size ≤ maxLen ∧ ∀ s ∈ x.slots, s.ok
def Blk.sm (x : Blk) : Prop := x.slots.length ≤ 1048576

theorem blk_cells (x : Blk) : (blk x).cells = [.bool x.dir, .ro 2 (x.slots.map slt), .str x.text] := rfl
theorem blk_cool (x : Blk) : coolX (blk x) = true := rfl
theorem blk_len (x : Blk) : (blk x).cells.length = 3 := rfl
theorem blk_mi (g : Bool → Nat → Nat → Nat → AV) (l : List Blk) : mapIdL g (l.map blk) = l.map blk := mi_map g blk l blk_cool
theorem blk_is (u : Bool → Nat → Nat → Nat → List Nat) (l : List Blk) : idsL u (l.map blk) = [] := is_map u blk l blk_cool
theorem blk_m1 (g : Bool → Nat → Nat → Nat → AV) (x : Blk) : mapId g (blk x) = blk x := ((cool_ids g (fun _ _ _ _ => []) (blk x)).2 (blk_cool x)).1
theorem blk_i1 (u : Bool → Nat → Nat → Nat → List Nat) (x : Blk) : idsV u (blk x) = [] := ((cool_ids (fun _ _ _ _ => .undef) u (blk x)).2 (blk_cool x)).2
theorem blk_coR (l : List Blk) : coolR 3 (l.map blk) = true := coR_map 3 blk l blk_len blk_cool
theorem blk_ice (x : Blk) : ice (blk x) = blk x := rfl
theorem blk_ic (l : List Blk) : iceL (l.map blk) = l.map blk := by rw [ice_m]; exact List.map_congr_left fun x _ => blk_ice x
theorem blk_no (x : Blk) : (blk x).cells.all noOwnC = true := rfl
theorem blk_noL (l : List Blk) : (l.map blk).all (fun x => x.cells.all noOwnC) = true := no_map blk l blk_no
attribute [go_sem] blk_mi blk_is blk_coR blk_ic blk_ice blk_noL

theorem blkO_cells (x : Blk) : (blkO x).cells = [.bool x.dir, .own 2 (x.slots.map slt), .str x.text] := rfl
theorem blkO_cool (x : Blk) : coolX (blkO x) = true := by simp only [blkO, go_sem, Bool.and_self]
theorem blkO_len (x : Blk) : (blkO x).cells.length = 3 := rfl
theorem blkO_mi (g : Bool → Nat → Nat → Nat → AV) (l : List Blk) : mapIdL g (l.map blkO) = l.map blkO := mi_map g blkO l blkO_cool
theorem blkO_is (u : Bool → Nat → Nat → Nat → List Nat) (l : List Blk) : idsL u (l.map blkO) = [] := is_map u blkO l blkO_cool
theorem blkO_m1 (g : Bool → Nat → Nat → Nat → AV) (x : Blk) : mapId g (blkO x) = blkO x := ((cool_ids g (fun _ _ _ _ => []) (blkO x)).2 (blkO_cool x)).1
theorem blkO_i1 (u : Bool → Nat → Nat → Nat → List Nat) (x : Blk) : idsV u (blkO x) = [] := ((cool_ids (fun _ _ _ _ => .undef) u (blkO x)).2 (blkO_cool x)).2
theorem blkO_coR (l : List Blk) : coolR 3 (l.map blkO) = true := coR_map 3 blkO l blkO_len blkO_cool
theorem blkO_ice (x : Blk) : ice (blkO x) = blk x := by simp only [blkO, blk, go_sem]
theorem blkO_ic (l : List Blk) : iceL (l.map blkO) = l.map blk := by rw [ice_m]; exact List.map_congr_left fun x _ => blkO_ice x
theorem blkO_rf (x : Blk) : (blkO x).roFree = true := by simp [blkO, AV.roFree, roFreeL, slt_rfL]
theorem blkO_rfL (l : List Blk) : roFreeL (l.map blkO) = true := rf_map blkO l blkO_rf
attribute [go_sem] blkO_mi blkO_is blkO_coR blkO_ic blkO_ice blkO_rfL

theorem slt_eq (a b : Slt) : a = b ↔ a.name = b.name ∧ a.ino = b.ino := by cases a; cases b; simp
theorem ino_eq (a b : Ino) : a = b ↔ a.kind = b.kind ∧ a.links = b.links ∧ a.ptrs = b.ptrs := by cases a; cases b; simp
theorem blk_eq (a b : Blk) : a = b ↔ a.dir = b.dir ∧ a.slots = b.slots ∧ a.text = b.text := by cases a; cases b; simp

/-! ### Counting -/
theorem e231 (l : List Int) (n : Int) (h0 : 0 ≤ n) (hn : n ≤ 1048576) (hl : l.length ≤ maxLen) :
    ∃ r : Int, E T 231 [.ro 1 (l.map iv), .int .i64 n] [] = some (.int .i64 r, []) ∧ -1 ≤ r ∧ r ≤ n ∧ (0 ≤ r → l.length ≤ 1048576) := by
  rw [E_eq t231 (Nat.le_of_ble_eq_true rfl)]
  simp only [F231, go_sem, seval, bnd_ite]
  unfold maxLen at hl
  rw [w_i64 (n - (l.length : Int)) (by omega)]
  by_cases c1 : n - (l.length : Int) < 0
  · rw [if_pos c1]; exact ⟨_, rfl, by omega, by omega, fun h => by omega⟩
  rw [if_neg c1]; exact ⟨_, rfl, by omega, by omega, fun h => by omega⟩
theorem e168 (l : List Bool) (n : Int) (h0 : 0 ≤ n) (hn : n ≤ 1048576) (hl : l.length ≤ maxLen) :
    ∃ r : Int, E T 168 [.ro 1 (l.map bv), .int .i64 n] [] = some (.int .i64 r, []) ∧ -1 ≤ r ∧ r ≤ n ∧ (0 ≤ r → l.length ≤ 1048576) := by
  rw [E_eq t168 (Nat.le_of_ble_eq_true rfl)]
  simp only [F168, go_sem, seval, bnd_ite]
  unfold maxLen at hl
  rw [w_i64 (n - (l.length : Int)) (by omega)]
  by_cases c1 : n - (l.length : Int) < 0
  · rw [if_pos c1]; exact ⟨_, rfl, by omega, by omega, fun h => by omega⟩
  rw [if_neg c1]; exact ⟨_, rfl, by omega, by omega, fun h => by omega⟩
theorem e169 (x : Ino) (n : Int) (h0 : 0 ≤ n) (hn : n ≤ 1048576) (hl : x.ok) :
    ∃ r : Int, E T 169 [ino x, .int .i64 n] [] = some (.int .i64 r, []) ∧ -1 ≤ r ∧ r ≤ n ∧ (0 ≤ r → x.sm) := by
  rw [E_eq t169 (Nat.le_of_ble_eq_true rfl)]
  obtain ⟨r, h1, h2, h3, h4⟩ := e231 x.ptrs n h0 hn hl
  simp only [ino, F169, go_sem, seval, bnd_ite, h1]
  by_cases c1 : r < 0
  · rw [if_pos c1]; exact ⟨_, rfl, by omega, by omega, fun h => by omega⟩
  rw [if_neg c1]; exact ⟨_, rfl, by omega, by omega, fun h => h4 (by omega)⟩
theorem e260 (x : Slt) (n : Int) (h0 : 0 ≤ n) (hn : n ≤ 1048576) (hl : x.ok) :
    ∃ r : Int, E T 260 [slt x, .int .i64 n] [] = some (.int .i64 r, []) ∧ -1 ≤ r ∧ r ≤ n ∧ (0 ≤ r → True) := by
  rw [E_eq t260 (Nat.le_of_ble_eq_true rfl)]
  unfold Slt.ok maxLen at hl
  simp only [slt, F260, go_sem, seval, bnd_ite]
  rw [w_i64 (n - (x.name.size : Int)) (by omega)]
  by_cases c1 : n - (x.name.size : Int) < 0
  · rw [if_pos c1]; exact ⟨_, rfl, by omega⟩
  rw [if_neg c1]; exact ⟨_, rfl, by omega⟩
theorem t232 : T 232 = some (Fsz 2 2 260) := tab Tryz.func232 (by kernel_rfl) rfl
theorem t72 : T 72 = some (Fsz 3 3 169) := tab Tryz.func72 (by kernel_rfl) rfl
theorem t73 : T 73 = some (Fsz 3 3 170) := tab Tryz.func73 (by kernel_rfl) rfl
theorem e232 (l : List Slt) (n : Int) (h0 : 0 ≤ n) (hn : n ≤ 1048576) (hl : l.length ≤ maxLen) (hok : ∀ x ∈ l, x.ok) :
    ∃ r : Int, E T 232 [.ro 2 (l.map slt), .int .i64 n] [] = some (.int .i64 r, []) ∧ -1 ≤ r ∧ r ≤ n ∧ (0 ≤ r → l.length ≤ 1048576 ∧ ∀ x ∈ l, True) :=
  gsz (ok := Slt.ok) t232 (fun _ => rfl) (fun _ => Nat.le_refl _) (fun _ => rfl) (fun _ => rfl) (fun x r h h0 h1 => e260 x r h0 h1 h) l n h0 hn hl hok
theorem e170 (x : Blk) (n : Int) (h0 : 0 ≤ n) (hn : n ≤ 1048576) (hl : x.ok) :
    ∃ r : Int, E T 170 [blk x, .int .i64 n] [] = some (.int .i64 r, []) ∧ -1 ≤ r ∧ r ≤ n ∧ (0 ≤ r → x.sm) := by
  rw [E_eq t170 (Nat.le_of_ble_eq_true rfl)]
  obtain ⟨hl1, hl2, hl3⟩ := hl
  obtain ⟨r, h1, h2, h3, h4⟩ := e232 x.slots n h0 hn hl1 hl3
  unfold maxLen at hl2
  simp only [blk, F170, go_sem, seval, bnd_ite, h1]
  by_cases c1 : r < 0
  · rw [if_pos c1]; exact ⟨_, rfl, by omega, by omega, fun h => by omega⟩
  rw [if_neg c1, w_i64 (r - (x.text.size : Int)) (by omega)]
  by_cases c2 : r - (x.text.size : Int) < 0
  · rw [if_pos c2]; exact ⟨_, rfl, by omega, by omega, fun h => by omega⟩
  rw [if_neg c2]; exact ⟨_, rfl, by omega, by omega, fun h => (h4 (by omega)).1⟩
theorem e72 (l : List Ino) (n : Int) (h0 : 0 ≤ n) (hn : n ≤ 1048576) (hl : l.length ≤ maxLen) (hok : ∀ x ∈ l, x.ok) :
    ∃ r : Int, E T 72 [.ro 3 (l.map ino), .int .i64 n] [] = some (.int .i64 r, []) ∧ -1 ≤ r ∧ r ≤ n ∧ (0 ≤ r → l.length ≤ 1048576 ∧ ∀ x ∈ l, x.sm) :=
  gsz (ok := Ino.ok) t72 (fun _ => rfl) (fun _ => Nat.le_refl _) (fun _ => rfl) (fun _ => rfl) (fun x r h h0 h1 => e169 x r h0 h1 h) l n h0 hn hl hok
theorem e73 (l : List Blk) (n : Int) (h0 : 0 ≤ n) (hn : n ≤ 1048576) (hl : l.length ≤ maxLen) (hok : ∀ x ∈ l, x.ok) :
    ∃ r : Int, E T 73 [.ro 3 (l.map blk), .int .i64 n] [] = some (.int .i64 r, []) ∧ -1 ≤ r ∧ r ≤ n ∧ (0 ≤ r → l.length ≤ 1048576 ∧ ∀ x ∈ l, x.sm) :=
  gsz (ok := Blk.ok) t73 (fun _ => rfl) (fun _ => Nat.le_refl _) (fun _ => rfl) (fun _ => rfl) (fun x r h h0 h1 => e170 x r h0 h1 h) l n h0 hn hl hok

structure Dsk where
  used : List Bool
  taken : List Bool
  inos : List Ino
  blks : List Blk
  deriving DecidableEq
def dsk (x : Dsk) : AV := .agg [.ro 1 (x.used.map bv), .ro 1 (x.taken.map bv), .ro 3 (x.inos.map ino), .ro 3 (x.blks.map blk)]
def dskO (x : Dsk) : AV := .agg [.own 1 (x.used.map bv), .own 1 (x.taken.map bv), .own 3 (x.inos.map inoO), .own 3 (x.blks.map blkO)]
structure Dsk.ok (x : Dsk) : Prop where
  used : x.used.length ≤ maxLen
  taken : x.taken.length ≤ maxLen
  inos : x.inos.length ≤ maxLen
  blks : x.blks.length ≤ maxLen
  ino : ∀ y ∈ x.inos, y.ok
  blk : ∀ y ∈ x.blks, y.ok
structure Dsk.sm (x : Dsk) : Prop where
  used : x.used.length ≤ 1048576
  taken : x.taken.length ≤ 1048576
  inos : x.inos.length ≤ 1048576
  blks : x.blks.length ≤ 1048576
  ino : ∀ y ∈ x.inos, y.sm
  blk : ∀ y ∈ x.blks, y.sm
theorem e71 (a b : List Bool) (n : Int) (h0 : 0 ≤ n) (hn : n ≤ 1048576) (ha : a.length ≤ maxLen) (hb : b.length ≤ maxLen) :
    ∃ r : Int, E T 71 [.agg [.ro 1 (a.map bv), .ro 1 (b.map bv)], .int .i64 n] [] = some (.int .i64 r, []) ∧ -1 ≤ r ∧ r ≤ n ∧ (0 ≤ r → a.length ≤ 1048576 ∧ b.length ≤ 1048576) := by
  rw [E_eq t71 (Nat.le_of_ble_eq_true rfl)]
  obtain ⟨r, h1, h2, h3, h4⟩ := e168 a n h0 hn ha
  simp only [F71, go_sem, seval, bnd_ite, h1]
  by_cases c1 : r < 0
  · rw [if_pos c1]; exact ⟨_, rfl, by omega, by omega, fun h => by omega⟩
  obtain ⟨r2, g1, g2, g3, g4⟩ := e168 b r (by omega) (by omega) hb
  rw [if_neg c1]
  simp only [go_sem, seval, bnd_ite, g1]
  by_cases c2 : r2 < 0
  · rw [if_pos c2]; exact ⟨_, rfl, by omega, by omega, fun h => by omega⟩
  rw [if_neg c2]; exact ⟨_, rfl, by omega, by omega, fun h => ⟨h4 (by omega), g4 (by omega)⟩⟩
theorem e19 (x : Dsk) (n : Int) (h0 : 0 ≤ n) (hn : n ≤ 1048576) (hk : x.ok) :
    ∃ r : Int, E T 19 [dsk x, .int .i64 n] [] = some (.int .i64 r, []) ∧ -1 ≤ r ∧ r ≤ n ∧ (0 ≤ r → x.sm) := by
  rw [E_eq t19 (Nat.le_of_ble_eq_true rfl)]
  obtain ⟨r, h1, h2, h3, h4⟩ := e71 x.used x.taken n h0 hn hk.used hk.taken
  simp only [dsk, F19, go_sem, seval, bnd_ite, h1]
  by_cases c1 : r < 0
  · rw [if_pos c1]; exact ⟨_, rfl, by omega, by omega, fun h => by omega⟩
  obtain ⟨r2, g1, g2, g3, g4⟩ := e72 x.inos r (by omega) (by omega) hk.inos hk.ino
  rw [if_neg c1]
  simp only [go_sem, seval, bnd_ite, g1]
  by_cases c2 : r2 < 0
  · rw [if_pos c2]; exact ⟨_, rfl, by omega, by omega, fun h => by omega⟩
  obtain ⟨r3, f1, f2, f3, f4⟩ := e73 x.blks r2 (by omega) (by omega) hk.blks hk.blk
  rw [if_neg c2]
  simp only [go_sem, seval, bnd_ite, f1]
  by_cases c3 : r3 < 0
  · rw [if_pos c3]; exact ⟨_, rfl, by omega, by omega, fun h => by omega⟩
  rw [if_neg c3]; exact ⟨_, rfl, by omega, by omega, fun h => ⟨(h4 (by omega)).1, (h4 (by omega)).2, (g4 (by omega)).1, (f4 (by omega)).1, (g4 (by omega)).2, (f4 (by omega)).2⟩⟩
end Go.Proofs.YtaaajjinpppgeaaGreat
