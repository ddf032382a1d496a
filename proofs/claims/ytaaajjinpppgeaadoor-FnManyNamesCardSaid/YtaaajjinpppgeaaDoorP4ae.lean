/- Part 5 of the texts of a claim, joined by a program of ours (Ty, Sl, Sx, Cf, Fd). No condition. -/
import Derived.Test.YtaaajjinpppgeaaDoorP4ad
import Derived.Test.YtaaajjinpppgeaaDoorProg
import Derived.KernelRfl
import Derived.Lib.SplitLaws
import Derived.Shelf.Strings.Split
import Derived.Shelf.Lays
import Derived.Shelf.RegionOpenPlain
import Derived.WalkKit
import Derived.Lib.IndexBytes
set_option linter.unusedVariables false
set_option linter.unusedSimpArgs false
set_option linter.unusedSectionVars false
namespace Go.Proofs.YtaaajjinpppgeaaDoor
open Go Go.Abs
def tt : Types := [
  (1, ⟨.func, 1, 8, .undef⟩),
  (2, ⟨(.int .i64), 1, 8, (.int .i64 0)⟩),
  (3, ⟨(.int .i64), 1, 8, (.int .i64 0)⟩),
  (4, ⟨.bool, 1, 1, (.bool false)⟩),
  (5, ⟨(.int .u8), 1, 1, (.int .u8 0)⟩),
  (6, ⟨(.int .u8), 1, 1, (.int .u8 0)⟩),
  (7, ⟨(.struct [(0, 2), (1, 3), (2, 4), (3, 6)]), 4, 24, (.agg [(.int .i64 0), (.int .i64 0), (.bool false), (.int .u8 0)])⟩),
  (8, ⟨(.struct [(0, 2), (1, 3), (2, 4), (3, 6)]), 4, 24, (.agg [(.int .i64 0), (.int .i64 0), (.bool false), (.int .u8 0)])⟩),
  (9, ⟨.str, 1, 16, (.str ⟨#[]⟩)⟩),
  (10, ⟨.str, 1, 16, (.str ⟨#[]⟩)⟩),
  (11, ⟨.str, 1, 16, (.str ⟨#[]⟩)⟩),
  (12, ⟨(.int .u64), 1, 8, (.int .u64 0)⟩),
  (13, ⟨(.struct [(0, 9), (1, 12)]), 2, 24, (.agg [(.str ⟨#[]⟩), (.int .u64 0)])⟩),
  (14, ⟨(.struct [(0, 9), (1, 12)]), 2, 24, (.agg [(.str ⟨#[]⟩), (.int .u64 0)])⟩),
  (15, ⟨.ptr, 1, 8, .undef⟩),
  (16, ⟨.ptr, 1, 8, .undef⟩),
  (17, ⟨.ptr, 1, 8, .undef⟩),
  (18, ⟨(.struct [(0, 17)]), 1, 8, (.agg [.undef])⟩),
  (19, ⟨(.struct [(0, 17)]), 1, 8, (.agg [.undef])⟩),
  (21, ⟨(.int .i32), 1, 4, (.int .i32 0)⟩),
  (22, ⟨(.slice 9), 1, 24, .nil⟩),
  (24, ⟨.func, 1, 8, .undef⟩),
  (25, ⟨.func, 1, 8, .undef⟩),
  (26, ⟨.func, 1, 8, .undef⟩),
  (27, ⟨.func, 1, 8, .undef⟩),
  (28, ⟨(.slice 5), 1, 24, .nil⟩),
  (29, ⟨.func, 1, 8, .undef⟩),
  (30, ⟨(.slice 4), 1, 24, .nil⟩),
  (31, ⟨(.struct [(0, 30), (1, 30)]), 2, 48, (.agg [.nil, .nil])⟩),
  (32, ⟨(.struct [(0, 30), (1, 30)]), 2, 48, (.agg [.nil, .nil])⟩),
  (33, ⟨(.slice 57), 1, 24, .nil⟩),
  (34, ⟨(.slice 79), 1, 24, .nil⟩),
  (35, ⟨(.struct [(0, 32), (2, 33), (3, 34)]), 4, 96, (.agg [.nil, .nil, .nil, .nil])⟩),
  (36, ⟨(.struct [(0, 32), (2, 33), (3, 34)]), 4, 96, (.agg [.nil, .nil, .nil, .nil])⟩),
  (37, ⟨(.slice 75), 1, 24, .nil⟩),
  (38, ⟨(.struct [(0, 36), (4, 30), (5, 37), (6, 3)]), 7, 152, (.agg [.nil, .nil, .nil, .nil, .nil, .nil, (.int .i64 0)])⟩),
  (39, ⟨(.struct [(0, 36), (4, 30), (5, 37), (6, 3)]), 7, 152, (.agg [.nil, .nil, .nil, .nil, .nil, .nil, (.int .i64 0)])⟩),
  (40, ⟨.func, 1, 8, .undef⟩),
  (41, ⟨.func, 1, 8, .undef⟩),
  (43, ⟨.func, 1, 8, .undef⟩),
  (44, ⟨.func, 1, 8, .undef⟩),
  (45, ⟨(.slice 3), 1, 24, .nil⟩),
  (46, ⟨.func, 1, 8, .undef⟩),
  (47, ⟨.func, 1, 8, .undef⟩),
  (48, ⟨.func, 1, 8, .undef⟩),
  (49, ⟨.func, 1, 8, .undef⟩),
  (50, ⟨.func, 1, 8, .undef⟩),
  (52, ⟨.func, 1, 8, .undef⟩),
  (53, ⟨.func, 1, 8, .undef⟩),
  (54, ⟨.func, 1, 8, .undef⟩),
  (55, ⟨.func, 1, 8, .undef⟩),
  (56, ⟨(.struct [(0, 3), (1, 3), (2, 45)]), 3, 40, (.agg [(.int .i64 0), (.int .i64 0), .nil])⟩),
  (57, ⟨(.struct [(0, 3), (1, 3), (2, 45)]), 3, 40, (.agg [(.int .i64 0), (.int .i64 0), .nil])⟩),
  (58, ⟨.func, 1, 8, .undef⟩),
  (59, ⟨.func, 1, 8, .undef⟩),
  (61, ⟨.func, 1, 8, .undef⟩),
  (62, ⟨.func, 1, 8, .undef⟩),
  (63, ⟨.func, 1, 8, .undef⟩),
  (64, ⟨.func, 1, 8, .undef⟩),
  (65, ⟨.func, 1, 8, .undef⟩),
  (66, ⟨.func, 1, 8, .undef⟩),
  (67, ⟨.func, 1, 8, .undef⟩),
  (68, ⟨.func, 1, 8, .undef⟩),
  (69, ⟨.ptr, 1, 8, .undef⟩),
  (70, ⟨.func, 1, 8, .undef⟩),
  (71, ⟨.func, 1, 8, .undef⟩),
  (72, ⟨.func, 1, 8, .undef⟩),
  (73, ⟨.func, 1, 8, .undef⟩),
  (74, ⟨(.struct [(0, 3), (1, 3), (2, 3), (3, 3), (4, 3), (5, 3), (6, 9), (7, 4), (8, 4), (9, 3), (10, 45)]), 11, 104, (.agg [(.int .i64 0), (.int .i64 0), (.int .i64 0), (.int .i64 0), (.int .i64 0), (.int .i64 0), (.str ⟨#[]⟩), (.bool false), (.bool false), (.int .i64 0), .nil])⟩),
  (75, ⟨(.struct [(0, 3), (1, 3), (2, 3), (3, 3), (4, 3), (5, 3), (6, 9), (7, 4), (8, 4), (9, 3), (10, 45)]), 11, 104, (.agg [(.int .i64 0), (.int .i64 0), (.int .i64 0), (.int .i64 0), (.int .i64 0), (.int .i64 0), (.str ⟨#[]⟩), (.bool false), (.bool false), (.int .i64 0), .nil])⟩),
  (76, ⟨.func, 1, 8, .undef⟩),
  (77, ⟨(.slice 82), 1, 24, .nil⟩),
  (78, ⟨(.struct [(0, 4), (1, 77), (2, 9)]), 3, 48, (.agg [(.bool false), .nil, (.str ⟨#[]⟩)])⟩),
  (79, ⟨(.struct [(0, 4), (1, 77), (2, 9)]), 3, 48, (.agg [(.bool false), .nil, (.str ⟨#[]⟩)])⟩),
  (80, ⟨.func, 1, 8, .undef⟩),
  (81, ⟨(.struct [(0, 9), (1, 3)]), 2, 24, (.agg [(.str ⟨#[]⟩), (.int .i64 0)])⟩),
  (82, ⟨(.struct [(0, 9), (1, 3)]), 2, 24, (.agg [(.str ⟨#[]⟩), (.int .i64 0)])⟩),
  (83, ⟨.func, 1, 8, .undef⟩),
  (84, ⟨.func, 1, 8, .undef⟩),
  (85, ⟨.func, 1, 8, .undef⟩),
  (86, ⟨.func, 1, 8, .undef⟩),
  (87, ⟨.func, 1, 8, .undef⟩),
  (88, ⟨.func, 1, 8, .undef⟩),
  (89, ⟨.func, 1, 8, .undef⟩),
  (90, ⟨.func, 1, 8, .undef⟩),
  (91, ⟨.func, 1, 8, .undef⟩),
  (92, ⟨.func, 1, 8, .undef⟩),
  (94, ⟨.func, 1, 8, .undef⟩),
  (95, ⟨.func, 1, 8, .undef⟩),
  (96, ⟨.func, 1, 8, .undef⟩),
  (97, ⟨.func, 1, 8, .undef⟩),
  (98, ⟨.func, 1, 8, .undef⟩),
  (99, ⟨.ptr, 1, 8, .undef⟩),
  (100, ⟨.func, 1, 8, .undef⟩),
  (101, ⟨.func, 1, 8, .undef⟩),
  (102, ⟨.func, 1, 8, .undef⟩),
  (103, ⟨.func, 1, 8, .undef⟩),
  (104, ⟨.func, 1, 8, .undef⟩),
  (105, ⟨.func, 1, 8, .undef⟩),
  (106, ⟨(.struct [(0, 28), (1, 3), (2, 3)]), 3, 40, (.agg [.nil, (.int .i64 0), (.int .i64 0)])⟩),
  (107, ⟨(.struct [(0, 28), (1, 3), (2, 3)]), 3, 40, (.agg [.nil, (.int .i64 0), (.int .i64 0)])⟩),
  (108, ⟨(.int .u64), 1, 8, (.int .u64 0)⟩),
  (109, ⟨.func, 1, 8, .undef⟩),
  (110, ⟨.func, 1, 8, .undef⟩),
  (111, ⟨.func, 1, 8, .undef⟩),
  (112, ⟨.func, 1, 8, .undef⟩),
  (113, ⟨.func, 1, 8, .undef⟩),
  (114, ⟨.func, 1, 8, .undef⟩),
  (115, ⟨.func, 1, 8, .undef⟩),
  (116, ⟨.func, 1, 8, .undef⟩),
  (117, ⟨.func, 1, 8, .undef⟩),
  (118, ⟨.func, 1, 8, .undef⟩),
  (119, ⟨.func, 1, 8, .undef⟩),
  (120, ⟨.func, 1, 8, .undef⟩),
  (121, ⟨.func, 1, 8, .undef⟩),
  (122, ⟨.func, 1, 8, .undef⟩),
  (123, ⟨.func, 1, 8, .undef⟩),
  (125, ⟨.func, 1, 8, .undef⟩),
  (126, ⟨.func, 1, 8, .undef⟩),
  (127, ⟨.func, 1, 8, .undef⟩),
  (128, ⟨.func, 1, 8, .undef⟩),
  (129, ⟨.func, 1, 8, .undef⟩),
  (131, ⟨.func, 1, 8, .undef⟩),
  (133, ⟨(.struct [(0, 5), (1, 5)]), 2, 2, (.agg [(.int .u8 0), (.int .u8 0)])⟩),
  (134, ⟨(.struct [(0, 5), (1, 5)]), 2, 2, (.agg [(.int .u8 0), (.int .u8 0)])⟩),
  (136, ⟨(.int .u32), 1, 4, (.int .u32 0)⟩),
  (138, ⟨.func, 1, 8, .undef⟩),
  (139, ⟨.func, 1, 8, .undef⟩),
  (140, ⟨(.struct [(0, 17), (1, 17), (2, 17), (3, 9)]), 4, 40, (.agg [.undef, .undef, .undef, (.str ⟨#[]⟩)])⟩),
  (141, ⟨(.struct [(0, 17), (1, 17), (2, 17), (3, 9)]), 4, 40, (.agg [.undef, .undef, .undef, (.str ⟨#[]⟩)])⟩),
  (143, ⟨(.struct [(0, 142)]), 0, 0, (.agg [])⟩),
  (144, ⟨(.struct [(0, 142)]), 0, 0, (.agg [])⟩),
  (145, ⟨.func, 1, 8, .undef⟩),
  (146, ⟨(.int .u8), 1, 1, (.int .u8 0)⟩),
  (147, ⟨(.int .u8), 1, 1, (.int .u8 0)⟩),
  (148, ⟨.func, 1, 8, .undef⟩),
  (149, ⟨.ptr, 1, 8, .undef⟩),
  (150, ⟨(.int .i32), 1, 4, (.int .i32 0)⟩),
  (151, ⟨(.int .i32), 1, 4, (.int .i32 0)⟩),
  (152, ⟨(.struct [(0, 12), (1, 12), (2, 136), (3, 146), (4, 5), (5, 5), (6, 147), (7, 148), (8, 149), (9, 150), (10, 151)]), 11, 48, (.agg [(.int .u64 0), (.int .u64 0), (.int .u32 0), (.int .u8 0), (.int .u8 0), (.int .u8 0), (.int .u8 0), .undef, .undef, (.int .i32 0), (.int .i32 0)])⟩),
  (153, ⟨(.struct [(0, 12), (1, 12), (2, 136), (3, 146), (4, 5), (5, 5), (6, 147), (7, 148), (8, 149), (9, 150), (10, 151)]), 11, 48, (.agg [(.int .u64 0), (.int .u64 0), (.int .u32 0), (.int .u8 0), (.int .u8 0), (.int .u8 0), (.int .u8 0), .undef, .undef, (.int .i32 0), (.int .i32 0)])⟩)]
theorem tt_rows : tt.map (fun r => tyOf Tryd.prog r.1) = tt.map (fun r => some r.2) := by kernel_rfl
theorem mixed : Tryd.prog.follows .mixedOrders = true := by kernel_rfl
end Go.Proofs.YtaaajjinpppgeaaDoor
namespace Go.Abs
open Go Go.Lib
def cutS (c : UInt8) : List UInt8 → List UInt8 → List (List UInt8)
  | cur, [] => [cur]
  | cur, b :: r => if b = c then cur :: cutS c [] r else cutS c (cur ++ [b]) r
def onto (x : List UInt8) : List (List UInt8) → List (List UInt8)
  | [] => []
  | p :: ps => (x ++ p) :: ps
theorem cutS_cur (c : UInt8) : ∀ (r cur : List UInt8), cutS c cur r = onto cur (cutS c [] r)
  | [], cur => by simp [cutS, onto]
  | b :: r, cur => by
    unfold cutS
    by_cases h : b = c
    · rw [if_pos h, if_pos h]; simp [onto]
    · rw [if_neg h, if_neg h, cutS_cur c r (cur ++ [b]), cutS_cur c r ([] ++ [b])]
      cases cutS c [] r <;> simp [onto]
theorem index_ne (b c : UInt8) (l : List UInt8) (h : b ≠ c) : index (b :: l) [c] = if index l [c] == -1 then -1 else index l [c] + 1 := by
  have hp : ([c] : List UInt8).isPrefixOf (b :: l) = false := by simp [List.isPrefixOf, Ne.symm h]
  rw [index, hp]; simp
theorem index_eq (c : UInt8) (l : List UInt8) : index (c :: l) [c] = ((0 : Nat) : Int) := by rw [index]; simp [List.isPrefixOf]
theorem splitK_ne (b c : UInt8) (l : List UInt8) (h : b ≠ c) (k : Nat) : splitK [c] 0 k (b :: l) = onto [b] (splitK [c] 0 k l) := by
  cases k with
  | zero => rfl
  | succ k =>
    unfold splitK
    rw [index_ne b c l h]
    by_cases hm : index l [c] = -1
    · simp [hm, onto]
    · have hge := index_ge l [c]
      obtain ⟨j, hj⟩ : ∃ j : Nat, index l [c] = j := ⟨(index l [c]).toNat, by omega⟩
      have n1 : ¬ ((j : Int) == -1) = true := by simp
      have n2 : ¬ ((j : Int) + 1 == -1) = true := by simp; omega
      have e1 : ((j : Int) + 1).toNat = j + 1 := by omega
      rw [hj, if_neg n1, if_neg n2, e1]
      simp [onto]
theorem split_cut (c : UInt8) : ∀ s : List UInt8, splitK [c] 0 (s.count c) s = cutS c [] s
  | [] => rfl
  | b :: l => by
    by_cases h : b = c
    · subst h
      rw [List.count_cons_self]
      unfold splitK cutS
      rw [index_eq, if_pos rfl]
      have : ¬ (((0 : Nat) : Int) == -1) = true := by decide
      rw [if_neg this]
      simp
      exact split_cut b l
    · rw [List.count_cons_of_ne (by simpa using h), splitK_ne b c l h, split_cut c l]
      rw [show cutS c [] (b :: l) = cutS c [b] l from by simp [cutS, h], cutS_cur c l [b]]
def pieces (c : UInt8) (s : List UInt8) : List ByteArray := (cutS c [] s).map fun l => ⟨l.toArray⟩
theorem split_pieces (c : UInt8) (s : ByteArray) : splitB ⟨#[c]⟩ 0 (countB s ⟨#[c]⟩) s = pieces c s.data.toList := by
  have h := splitB_data ⟨#[c]⟩ 0 (countB s ⟨#[c]⟩) s
  have e : countB s ⟨#[c]⟩ = s.data.toList.count c := by
    show count s.data.toList [c] = _
    exact count_one c _
  rw [e] at h ⊢
  rw [show (⟨#[c]⟩ : ByteArray).data.toList = [c] from rfl, split_cut] at h
  unfold pieces
  rw [← h, List.map_map]
  symm
  rw [List.map_congr_left (g := id) (fun x _ => ?_), List.map_id]
  cases x; rfl
end Go.Abs
namespace Go.Abs
open Go Go.RowKit Go.Lib
def splitO (args : List AV) (mem : Mem) : Option (AV × Mem) := match args, mem with
  | [.str s, .str ⟨⟨[c]⟩⟩], [] => cond (Nat.blt s.size 4294967281) (some (.own 1 ((pieces c s.data.toList).map AV.str), [])) none
  | _, _ => none
theorem relL_at {w : World} {m : IdMap} {d X : Nat → Prop} {xs : List AV} {vs : List Value} (h : RelL w m d X xs vs []) {k : Nat} {a : AV} (hk : xs[k]? = some a) : ∃ v, vs[k]? = some v ∧ RelV w m d X a v [] := by
  obtain ⟨u, G, h1, h2, h3⟩ := h.get hk
  have : G = [] := List.eq_nil_iff_forall_not_mem.2 fun x hx => by cases h3 x hx
  subst this
  exact ⟨u, h1, h2⟩
theorem strs_rel {w : World} {m : IdMap} {d X : Nat → Prop} : ∀ (l : List ByteArray), RelL w m d X (l.map AV.str) (l.map Value.string) []
  | [] => .nil
  | s :: l => .cons (F := []) (.str s) (strs_rel l)
theorem flat_strs : ∀ (l : List ByteArray), flat (l.map AV.str) = l.map AV.str
  | [] => rfl
  | s :: l => by show AV.cells (.str s) ++ flat (l.map _) = _; rw [flat_strs l]; rfl
theorem even_strs (l : List ByteArray) : Even 1 (l.map AV.str) := by
  intro x hx
  obtain ⟨z, _, rfl⟩ := List.mem_map.1 hx
  rfl
def Splits (P : Program) (f : FuncId) : Prop := ∀ (s : ByteArray) (c : UInt8) (w : World), s.size < 4294967281 →
  Calls P f #[.string s, .string ⟨#[c]⟩] w fun e w' => e = .returned (.slice (some ⟨w.heap.size, 0, none⟩) (countB s ⟨#[c]⟩ + 1) (countB s ⟨#[c]⟩ + 1)) ∧ ∃ ty, w' = w.alloc (.cells ((splitB ⟨#[c]⟩ 0 (countB s ⟨#[c]⟩) s).map Value.string).toArray ty)
theorem split_calls {P : Program} {f : FuncId} (hs : Splits P f) {s : ByteArray} {c : UInt8} (hl : s.size < 4294967281) : ACalls P f [.str s, .str ⟨#[c]⟩] (.own 1 ((pieces c s.data.toList).map AV.str)) := by
  intro Y w vs ha
  have hlen := ha.length
  match vs, hlen with
  | [v0, v1], _ =>
  obtain ⟨v0', e0, h0⟩ := relL_at ha (k := 0) rfl
  obtain ⟨v1', e1, h1⟩ := relL_at ha (k := 1) rfl
  cases e0; cases e1; cases h0; cases h1
  have hp := split_pieces c s
  have hn := splitB_all ⟨#[c]⟩ (Nat.le_refl 1) 0 _ s rfl
  rw [hp] at hn
  refine Calls.mono (hs s c w hl) ?_
  rintro e w' ⟨rfl, ty, rfl⟩
  rw [hp]
  show ∃ F : List Nat, _
  refine ⟨[w.heap.size], by simp, ?_, ?_, evo_alloc _ _ _⟩
  · intro b hb
    cases List.mem_singleton.1 hb
    exact ⟨Nat.le_refl _, by show _ < (w.heap.push _).size; simp⟩
  · have h2 := RelV.own (w := w.alloc (.cells ((pieces c s.data.toList).map Value.string).toArray ty)) (m := m0) (d := d0) (X := fun b => Y b ∨ b ∈ [w.heap.size]) (s := 1) (xs := (pieces c s.data.toList).map AV.str)
      (ys := (pieces c s.data.toList).map AV.str) (vs := (pieces c s.data.toList).map Value.string) (b := w.heap.size) (o := 0) (cap := (pieces c s.data.toList).length) (F := [])
      (by rw [List.length_map]; exact Nat.le_refl _) (even_strs _) ⟨_, ty, heap_alloc_same _ _, fun j v hj => by simpa using hj, by simp⟩ (flat_strs _) (strs_rel _)
    rw [List.length_map, hn] at h2
    exact h2
theorem split_orc {P : Program} {f : FuncId} {fn : Func} {c : Code} (hf : P.funcs[f]? = some fn) (hname : (fn.name == "runtime.NumGoroutine") = false) (hb : fn.body = some c) (hs : Splits P f) : OrcOk P f splitO where
  fn := ⟨fn, c, hf, hname, hb⟩
  pure := by
    intro args res h
    unfold splitO at h
    split at h
    case h_2 => cases h
    rename_i s c _
    cases hb : Nat.blt s.size 4294967281 with
    | false => rw [hb] at h; cases h
    | true =>
      rw [hb] at h; cases h
      exact split_calls hs (Nat.le_of_ble_eq_true hb)
  wr := by
    intro args mem res mem' h hx _
    unfold splitO at h
    split at h
    case h_2 => cases h
    rename_i s c _
    cases hb : Nat.blt s.size 4294967281 with
    | false => rw [hb] at h; cases h
    | true => rw [hb] at h; cases h; exact Bool.noConfusion (show false = true from hx)
  qt := by
    intro args mem res h
    unfold splitO at h
    split at h
    case h_2 => cases h
    rename_i e
    cases e
end Go.Abs
namespace Go.Abs
open Go Go.Proofs Go.Shelf Go.RowKit Go.Lib
section
variable {P : Program} {ρ : Ren}
set_option maxHeartbeats 1000000 in
theorem split_one (L : Lays.n146 P ρ) (hi9 : (P.info? (ρ.t 9)).map (fun i => (i.zero, i.size, i.bytes)) = some (some (.string ByteArray.empty), 1, 16)) : Splits P (ρ.f 146) := by
  intro s b w hs
  have hle := Lib.countB_le ⟨#[b]⟩ (Nat.le_refl 1) s.size s (Nat.le_refl _)
  have hlen := Lib.splitB_all ⟨#[b]⟩ (Nat.le_refl 1) 0 _ s rfl
  have c := Any.strings_genSplit_core { L with } hi9 s ⟨#[b]⟩ 0 (-1) (Lib.countB s ⟨#[b]⟩ + 1) w hs (Nat.le_refl 1) (Nat.zero_le _)
    (fun x k _ => (Any.strings_Index_one { L with } x b _).mono fun e w' ⟨he, hw⟩ => ⟨by rw [he, ← Lib.index_one] <;> rfl, hw⟩)
    ((Any.strings_Count_one { L with } s b w).mono fun e w' ⟨he, hw⟩ => ⟨by rw [he]; show _ = Ending.returned (Value.int .i64 ((Lib.count s.data.toList [b] : Nat) : Int)); rw [Lib.count_one]; rfl, hw⟩)
    (by decide) (by decide) (by rw [if_pos (by decide)]; omega)
  rw [Nat.add_sub_cancel, hlen] at c
  have e2 : Lib.cellsOf (Lib.splitB ⟨#[b]⟩ 0 (Lib.countB s ⟨#[b]⟩) s) (Lib.countB s ⟨#[b]⟩ + 1) = ((Lib.splitB ⟨#[b]⟩ 0 (Lib.countB s ⟨#[b]⟩) s).map Value.string).toArray := by rw [← hlen]; exact Lib.cellsOf_full _
  rw [e2] at c
  have t3 := L.t3; have t9 := L.t9; have t31 := L.t31
  have a3 := L.a3; have a9 := L.a9; have a31 := L.a31
  have z3 := L.z3; have v3 := L.v3; have z9 := L.z9; have v9 := L.v9; have z31 := L.z31; have v31 := L.v31
  have e221 : ∀ args w, (callFunc (ρ.f 221) args).run P w = .ok (.enter (ρ.f 221) args) w := enters_of L.f221 (by kernel_rfl) rfl
  go_enter L.f146, Body.n146_ntmps ρ
  go_wp2_with (go_at_fn (ρ.f 221); refine c.mono ?_; rintro e w' ⟨rfl, hw⟩; rw [hw])
  go_ret
  exact ⟨rfl, _, rfl⟩
end
end Go.Abs
namespace Go.Proofs
open Go.Shelf
def Tryd.lays146_ren : Go.Shelf.Ren := ⟨fun | 146 => 22 | 221 => 53 | 268 => 85 | 138 => 86 | 143 => 87 | 195 => 95 | 197 => 96 | 218 => 97 | 219 => 98 | 260 => 103 | 217 => 104 | 225 => 105 | 224 => 106 | 267 => 107 | 266 => 108 | 314 => 109 | n => n, fun | 9 => 9 | 31 => 22 | 3 => 3 | 4 => 4 | 0 => 0 | 105 => 124 | 21 => 21 | 5 => 5 | 46 => 108 | 119 => 132 | 139 => 135 | 138 => 134 | 146 => 137 | 51 => 136 | n => n, fun | 1 => 0 | 3 => 1 | 4 => 2 | n => n⟩
theorem Tryd.lays146 : Go.Proofs.Lays.n146 Tryd.prog Tryd.lays146_ren := {
  mixed := by kernel_rfl
  f138 := Tryd.func86.trans (congrArg some (by kernel_rfl))
  f143 := Tryd.func87.trans (congrArg some (by kernel_rfl))
  f146 := Tryd.func22.trans (congrArg some (by kernel_rfl))
  f195 := Tryd.func95.trans (congrArg some (by kernel_rfl))
  f197 := Tryd.func96.trans (congrArg some (by kernel_rfl))
  f217 := Tryd.func104.trans (congrArg some (by kernel_rfl))
  f218 := Tryd.func97.trans (congrArg some (by kernel_rfl))
  f219 := Tryd.func98.trans (congrArg some (by kernel_rfl))
  f221 := Tryd.func53.trans (congrArg some (by kernel_rfl))
  f224 := Tryd.func106.trans (congrArg some (by kernel_rfl))
  f225 := Tryd.func105.trans (congrArg some (by kernel_rfl))
  f260 := Tryd.func103.trans (congrArg some (by kernel_rfl))
  f266 := Tryd.func108.trans (congrArg some (by kernel_rfl))
  f267 := Tryd.func107.trans (congrArg some (by kernel_rfl))
  f268 := Tryd.func85.trans (congrArg some (by kernel_rfl))
  f314 := Tryd.func109.trans (congrArg some (by kernel_rfl))
  t0 := Tryd.underlying0
  a0 := Tryd.isAgg0
  z0 := Tryd.sizeOf0
  v0 := Tryd.zeroValue0
  t3 := Tryd.underlying3
  a3 := Tryd.isAgg3
  z3 := Tryd.sizeOf3
  v3 := Tryd.zeroValue3
  t4 := Tryd.underlying4
  a4 := Tryd.isAgg4
  z4 := Tryd.sizeOf4
  v4 := Tryd.zeroValue4
  t5 := Tryd.underlying5
  a5 := Tryd.isAgg5
  z5 := Tryd.sizeOf5
  v5 := Tryd.zeroValue5
  t9 := Tryd.underlying9
  a9 := Tryd.isAgg9
  z9 := Tryd.sizeOf9
  v9 := Tryd.zeroValue9
  t21 := Tryd.underlying21
  a21 := Tryd.isAgg21
  z21 := Tryd.sizeOf21
  v21 := Tryd.zeroValue21
  t31 := Tryd.underlying22
  a31 := Tryd.isAgg22
  z31 := Tryd.sizeOf22
  v31 := Tryd.zeroValue22
  t46 := Tryd.underlying108
  a46 := Tryd.isAgg108
  z46 := Tryd.sizeOf108
  v46 := Tryd.zeroValue108
  t51 := Tryd.underlying136
  a51 := Tryd.isAgg136
  z51 := Tryd.sizeOf136
  v51 := Tryd.zeroValue136
  t105 := Tryd.underlying124
  a105 := Tryd.isAgg124
  z105 := Tryd.sizeOf124
  v105 := Tryd.zeroValue124
  t119 := Tryd.underlying132
  a119 := Tryd.isAgg132
  z119 := Tryd.sizeOf132
  t138 := Tryd.underlying134
  a138 := Tryd.isAgg134
  z138 := Tryd.sizeOf134
  v138 := Tryd.zeroValue134
  t139 := Tryd.underlying135
  a139 := Tryd.isAgg135
  z139 := Tryd.sizeOf135
  v139 := Tryd.zeroValue135
  t146 := Tryd.underlying137
  a146 := Tryd.isAgg137
  z146 := Tryd.sizeOf137
  v146 := Tryd.zeroValue137
  g1 := by kernel_rfl
  g3 := by kernel_rfl
  g4 := by kernel_rfl }
end Go.Proofs
namespace Go.Proofs.YtaaajjinpppgeaaDoor
open Go Go.Abs
theorem splitOk : OrcOk Tryd.prog 22 splitO := split_orc Tryd.func22 rfl rfl (split_one Tryd.lays146 (by kernel_rfl))
end Go.Proofs.YtaaajjinpppgeaaDoor
namespace Go.Proofs.YtaaajjinpppgeaaDoor
open Go Go.Abs
def pures : List FuncId := (List.range 600).filter fun k => !([8, 30, 37, 39, 42, 43, 65, 66, 71] : List Nat).contains k
def hints : Hints := [(4, [(6, [.tidy [0, 3, 4, 5] [(0, none), (3, none), (4, none), (5, none)]]), (8, [.opn 3 none none 0 1, .opn 3 none none 1 1, .opn 3 none none 2 3, .opn 3 none none 3 3, .opn 3 none none 4 1, .opn 3 none none 5 11]), (16, [.tidy [3, 4, 8] [(3, none), (4, none), (8, none)]]), (18, [.opn 3 none none 0 1, .opn 3 none none 1 1, .opn 3 none none 2 3, .opn 3 none none 3 3]), (21, [.wide, .opn 3 none none 0 1, .opn 3 none none 1 1, .opn 3 none none 2 3, .opn 3 none none 3 3, .opn 3 none none 4 1, .opn 3 none none 5 11])]),
  (5, [(8, [.lay 4 1, .tidy [0, 4, 5, 6] [(0, none), (4, none), (5, none), (6, none)]])]),
  (6, [(8, [.tidy [6, 20, 21, 22] [(6, none), (20, none), (21, none), (22, none)]])]),
  (7, [(4, [.tidy [0, 1, 5] [(0, none), (1, none), (5, none)]])]),
  (8, [(2, [.tidy [0, 1, 5] [(0, none), (1, none), (5, none)]])]),
  (9, [(2, [.tidy [0, 1, 5] [(0, none), (1, none), (5, none)]])]),
  (12, [(3, [.opn 1 none none 2 3, .tidy [0, 1, 2] [(0, none), (1, none), (2, none), (1, some 2)]]), (9, [.opn 1 none none 0 1, .opn 1 none none 1 1, .opn 1 none none 2 3, .opn 1 none none 3 3])]),
  (13, [(20, [.opn 8 none none 5 11])]),
  (14, [(5, [.tidy [0, 3, 4] [(0, none), (3, none), (4, none)]])]),
  (15, [(5, [.lay 4 1, .tidy [3, 4, 5] [(3, none), (4, none), (5, none)]])]),
  (16, [(4, [.tidy [2, 3, 5] [(2, none), (3, none), (5, none)]]), (10, [.tidy [2, 3, 6] [(2, none), (3, none), (6, none)]])]),
  (18, [(6, [.lay 5 1, .tidy [2, 5, 20, 21, 22] [(2, none), (5, none), (20, none), (21, none), (22, none)]]), (10, [.lay 5 1, .tidy [2, 5, 20, 21, 22, 29, 30, 31] [(2, none), (5, none), (20, none), (21, none), (22, none), (29, none), (30, none), (31, none)]])]),
  (19, [(4, [.tidy [1, 28, 29, 30] [(1, none), (28, none), (29, none), (30, none)]])]),
  (20, [(2, [.tidy [0, 3] [(0, none), (3, none)]])]),
  (23, [(2, [.tidy [0, 5, 6] [(0, none), (5, none), (6, none)]])]),
  (24, [(4, [.tidy [0, 3] [(0, none), (3, none)]])]),
  (25, [(3, [.opn 3 none none 2 3, .tidy [1, 2, 3, 4] [(1, none), (2, none), (3, none), (4, none), (3, some 2)]]), (8, [.opn 3 none none 3 3, .tidy [1, 2, 3, 5] [(1, none), (2, none), (3, none), (5, none), (3, some 3)]]), (12, [.opn 3 none none 0 1, .opn 3 none none 1 1, .opn 3 none none 2 3, .opn 3 none none 3 3])]),
  (31, [(5, [.tidy [2, 5, 14, 15, 16] [(2, none), (5, none), (14, none), (15, none), (16, none)]])]),
  (34, [(2, [.tidy [5, 6, 7] [(5, none), (6, none), (7, none)]])]),
  (39, [(3, [.opn 0 (some 2) (some (1, -1)) 2 1]), (4, [.opn 0 (some 3) (some (9, -1)) 1 2]), (8, [.opn 0 none none 5 11])]),
  (41, [(3, [.tidy [0, 3, 4] [(0, none), (3, none), (4, none)]])]),
  (44, [(4, [.tidy [2, 3, 5] [(2, none), (3, none), (5, none)]]), (10, [.tidy [2, 3, 6] [(2, none), (3, none), (6, none)]])]),
  (45, [(4, [.tidy [0, 1, 5] [(0, none), (1, none), (5, none)]])]),
  (47, [(2, [.tidy [1, 8, 9, 10] [(1, none), (8, none), (9, none), (10, none)]]), (9, [.tidy [1, 19, 20, 21] [(1, none), (19, none), (20, none), (21, none)]])]),
  (49, [(2, [.tidy [2, 3, 10, 11, 12] [(2, none), (3, none), (10, none), (11, none), (12, none)]])]),
  (53, [(11, [.tidy [0, 1, 2, 3, 9, 10] [(0, none), (1, none), (2, none), (3, none), (9, none), (10, none)]])]),
  (57, [(3, [.opn 3 none none 2 3, .tidy [1, 2, 3, 13, 14, 15] [(1, none), (2, none), (3, none), (13, none), (14, none), (15, none), (3, some 2)]]), (9, [.opn 3 none none 3 3, .tidy [2, 3, 28, 29, 30] [(2, none), (3, none), (28, none), (29, none), (30, none), (3, some 3)]]), (14, [.opn 3 none none 0 1, .opn 3 none none 1 1, .opn 3 none none 2 3, .opn 3 none none 3 3])]),
  (59, [(3, [.lay 3 11, .tidy [3, 7, 8, 9] [(3, none), (7, none), (8, none), (9, none)]])]),
  (60, [(5, [.tidy [2, 3, 19, 20, 21] [(2, none), (3, none), (19, none), (20, none), (21, none)]])]),
  (64, [(2, [.tidy [2, 14, 15, 16] [(2, none), (14, none), (15, none), (16, none)]]), (6, [.tidy [2, 7, 14, 15, 16, 24, 25, 26] [(2, none), (7, none), (14, none), (15, none), (16, none), (24, none), (25, none), (26, none)]])]),
  (66, [(3, [.opn 0 (some 2) (some (1, -1)) 2 1])]),
  (67, [(2, [.tidy [0, 1, 7, 8] [(0, none), (1, none), (7, none), (8, none)]])]),
  (72, [(4, [.tidy [0, 1, 5] [(0, none), (1, none), (5, none)]])]),
  (73, [(4, [.tidy [2, 3, 5] [(2, none), (3, none), (5, none)]])]),
  (74, [(4, [.tidy [2, 3, 5] [(2, none), (3, none), (5, none)]])]),
  (75, [(2, [.tidy [1, 6, 7, 8] [(1, none), (6, none), (7, none), (8, none)]])]),
  (76, [(4, [.tidy [1, 19, 20, 21] [(1, none), (19, none), (20, none), (21, none)]])]),
  (82, [(2, [.tidy [0, 1, 7, 8] [(0, none), (1, none), (7, none), (8, none)]])]),
  (85, [(6, [.tidy [0, 1, 6, 7] [(0, none), (1, none), (6, none), (7, none)]])]),
  (86, [(6, [.tidy [0, 1, 5] [(0, none), (1, none), (5, none)]])]),
  (100, [(2, [.tidy [0, 1, 7, 8] [(0, none), (1, none), (7, none), (8, none)]])]),
  (102, [(2, [.tidy [1, 2, 6, 11, 12, 13] [(1, none), (2, none), (6, none), (11, none), (12, none), (13, none)]])]),
  (107, [(5, [.tidy [0, 1, 5, 6, 7, 8, 9] [(0, none), (1, none), (5, none), (6, none), (7, none), (8, none), (9, none)]]), (12, [.tidy [0, 1, 5, 6, 7, 8, 10] [(0, none), (1, none), (5, none), (6, none), (7, none), (8, none), (10, none)]])]),
  (109, [(3, [.tidy [0, 4, 5] [(0, none), (4, none), (5, none)]]), (9, [.tidy [4, 6, 7, 8] [(4, none), (6, none), (7, none), (8, none)]])])]
def wids : Wids := [(5, (.agg [.row 1 .one, .one])), (6, (.agg [.row 1 .one, .one])), (11, (.agg [.one, .one, .one, .one, .one, .row 11 .one, .one])), (12, (.agg [.row 1 .one, .row 1 .one, .row 3 .one, .row 3 (.agg [.one, .row 2 .one, .one])])), (18, (.row 1 .one)), (32, (.agg [.one, .one, .rrow 1])), (46, (.agg [.one, .rrow 2, .one])), (54, (.agg [.row 1 .one, .row 1 .one])), (55, (.agg [.one, .one, .row 1 .one])), (56, (.agg [.one, .row 2 .one, .one])), (58, (.row 1 .one)), (59, (.row 11 .one)), (88, (.agg [.row 1 .one, .row 1 .one])), (89, (.agg [.one, .one, .row 1 .one])), (90, (.agg [.one, .row 2 .one, .one])), (99, (.row 1 .one))]
def orcs : List (Nat × (List AV → Mem → Option (AV × Mem))) := [(22, splitO)]
noncomputable def T : FuncId → Option EF := orcT (tableOf Tryd.prog tt pures hints wids) orcs
theorem tab {f : FuncId} {fn : Func} {F : EF} (hf : Tryd.prog.funcs[f]? = some fn) (h : (match compileF Tryd.prog tt pures fn with | some A => annF (hintOf hints f) (widOf wids f) A | none => none) = some F) (ho : (orcs.all fun p => !(p.1 == f)) = true) : T f = some F := orcT_at (table_at' hf h) ho
theorem hTT : ∀ t U, tt.get t = some U → tyOf Tryd.prog t = some U := Types.ok tt_rows
theorem calls {f : FuncId} {args : List AV} {res : AV} (h : E T f args [] = some (res, [])) : ACalls Tryd.prog f args res := E_calls mixed hTT (orcT_ok (table_ok _ _ _ _ _) (fun p hp => by cases List.mem_singleton.1 hp; exact splitOk)) h
theorem get_at {α : Type} {l : List α} {i : Nat} (h : i < l.length) : ∃ x, l[i]? = some x := Go.Abs.get_at h
theorem t22 : T 22 = some ⟨.ret, [], 0, .one, some splitO⟩ := rfl
end Go.Proofs.YtaaajjinpppgeaaDoor
namespace Go.Proofs.YtaaajjinpppgeaaDoor
open Go Go.Abs
set_option maxRecDepth 100000
def F2 : EF := ⟨(.region [(.pc (.const (.fn 1 [])) [] (some 0) true)] false),[],1,.one,none⟩
theorem t2 : T 2 = some F2 := tab Tryd.func2 (by kernel_rfl) rfl
def F3 : EF := ⟨(.seq (.region [(.op .mv [(.const (.bool false))] (some 2) true)] false) (.seq (.seq (.region [(.op .mv [(.tmp 0)] (some 11) true),(.op .lenStr [(.tmp 11)] (some 12) true),(.op (.bin .gtr) [(.tmp 12),(.const (.int .i64 1048576))] (some 13) true)] false) (.cond (.tmp 13) (.seq (.region [(.op .mv [(.const (.bool true))] (some 2) true)] false) .ret) .skip)) (.seq (.region [(.op .mv [(.tmp 0)] (some 15) true),(.pc (.const (.fn 5 [])) [(.tmp 15)] (some 16) true),(.op .mv [(.tmp 16)] (some 14) true),(.op (.ext 0) [(.tmp 14)] (some 17) true),(.op (.ext 1) [(.tmp 14)] (some 18) true),(.op .mv [(.tmp 17)] (some 3) true),(.op .mv [(.tmp 18)] (some 4) true)] false) (.seq (.region [(.op .mv [(.tmp 0)] (some 20) true),(.pc (.const (.fn 6 [])) [(.tmp 20)] (some 21) true),(.op .mv [(.tmp 21)] (some 19) true),(.op (.ext 0) [(.tmp 19)] (some 22) true),(.op (.ext 1) [(.tmp 19)] (some 23) true),(.op .mv [(.tmp 22)] (some 5) true),(.op .mv [(.tmp 23)] (some 6) true)] false) (.seq (.seq (.region [(.op .mv [(.tmp 5)] (some 24) true),(.op .mv [(.tmp 3)] (some 25) true),(.pc (.const (.fn 7 [])) [(.tmp 24),(.tmp 25)] (some 26) true),(.op .not [(.tmp 26)] (some 27) true),(.op .mv [(.tmp 27)] (some 28) true),(.grp 28 false [(.op .mv [(.tmp 6)] (some 29) true),(.op .mv [(.tmp 4)] (some 30) true),(.op (.binB true) [(.tmp 29),(.tmp 30)] (some 31) true)] 31 32 true)] false) (.cond (.tmp 32) (.seq (.region [(.op .mv [(.const (.bool false))] (some 2) true)] false) .ret) .skip)) (.seq (.region [(.op .mv [(.const (.int .i64 1))] (some 7) true)] false) (.seq (.region [(.op .mv [(.tmp 5)] (some 33) true),(.op .mv [(.tmp 7)] (some 34) true),(.sc (.const (.fn 8 [])) [(.tmp 33),(.tmp 34)] (some 35) true),(.op .mv [(.tmp 35)] (some 7) true)] false) (.seq (.region [(.op .mv [(.const (.int .i64 1))] (some 8) true)] false) (.seq (.region [(.op .mv [(.tmp 5)] (some 36) true),(.op .mv [(.tmp 8)] (some 37) true),(.pc (.const (.fn 9 [])) [(.tmp 36),(.tmp 37)] (some 38) true),(.op .mv [(.tmp 38)] (some 8) true)] false) (.seq (.seq (.region [(.op .mv [(.tmp 8)] (some 39) true),(.op (.bin .lss) [(.tmp 39),(.const (.int .i64 0))] (some 40) true)] false) (.cond (.tmp 40) (.seq (.region [(.op .mv [(.const (.bool false))] (some 2) true)] false) .ret) .skip)) (.seq (.seq (.region [(.op .mv [(.tmp 8)] (some 41) true),(.op .mv [(.tmp 7)] (some 42) true),(.op (.bin .neq) [(.tmp 41),(.tmp 42)] (some 43) true)] false) (.cond (.tmp 43) (.seq (.region [(.op .mv [(.const (.bool false))] (some 2) true)] false) .ret) .skip)) (.seq (.region [(.op .mv [(.tmp 0)] (some 45) true),(.pc (.const (.fn 6 [])) [(.tmp 45)] (some 46) true),(.op .mv [(.tmp 46)] (some 44) true),(.op (.ext 0) [(.tmp 44)] (some 47) true),(.op (.ext 1) [(.tmp 44)] (some 48) true),(.op .mv [(.tmp 47)] (some 9) true),(.op .mv [(.tmp 48)] (some 10) true)] false) (.seq (.seq (.region [(.op .mv [(.tmp 9)] (some 49) true),(.op .mv [(.tmp 3)] (some 50) true),(.pc (.const (.fn 7 [])) [(.tmp 49),(.tmp 50)] (some 51) true),(.op .not [(.tmp 51)] (some 52) true),(.op .mv [(.tmp 52)] (some 53) true),(.grp 53 false [(.op .mv [(.tmp 10)] (some 54) true),(.op .mv [(.tmp 4)] (some 55) true),(.op (.binB true) [(.tmp 54),(.tmp 55)] (some 56) true)] 56 57 true)] false) (.cond (.tmp 57) (.seq (.region [(.op .mv [(.const (.bool false))] (some 2) true)] false) .ret) .skip)) (.seq (.region [(.op .mv [(.const (.int .i64 1))] (some 8) true)] false) (.seq (.region [(.op .mv [(.tmp 5)] (some 58) true),(.op .mv [(.tmp 8)] (some 59) true),(.pc (.const (.fn 9 [])) [(.tmp 58),(.tmp 59)] (some 60) true),(.op .mv [(.tmp 60)] (some 8) true)] false) (.seq (.seq (.region [(.op .mv [(.tmp 8)] (some 61) true),(.op (.bin .lss) [(.tmp 61),(.const (.int .i64 0))] (some 62) true)] false) (.cond (.tmp 62) (.seq (.region [(.op .mv [(.const (.bool false))] (some 2) true)] false) .ret) .skip)) (.seq (.seq (.region [(.op .mv [(.tmp 8)] (some 63) true),(.op .mv [(.tmp 7)] (some 64) true),(.op (.bin .neq) [(.tmp 63),(.tmp 64)] (some 65) true)] false) (.cond (.tmp 65) (.seq (.region [(.op .mv [(.const (.bool false))] (some 2) true)] false) .ret) .skip)) (.seq (.region [(.op .mv [(.const (.bool true))] (some 2) true)] false) .ret)))))))))))))))))),[(.tmp 2)],66,.one,none⟩
theorem t3 : T 3 = some F3 := tab Tryd.func3 (by kernel_rfl) rfl
def H4_6 : List Vw := [.tidy [0, 3, 4, 5] [(0, none), (3, none), (4, none), (5, none)]]
theorem h4_6 (b : Nat) (s : St) : vwL b H4_6 s = vwL b [.tidy [0, 3, 4, 5] [(0, none), (3, none), (4, none), (5, none)]] s := rfl
def L4_6 : EC := (.seq (.seq (.region [(.op .mv [(.tmp 5)] (some 13) true),(.op (.bin .lss) [(.tmp 13),(.const (.int .i64 8))] (some 14) true)] false) (.cond (.tmp 14) .skip (.exit 0))) (.seq (.block 1 (.seq (.view [.opn 3 none none 0 1,.opn 3 none none 1 1,.opn 3 none none 2 3,.opn 3 none none 3 3,.opn 3 none none 4 1,.opn 3 none none 5 11] (.region [(.op (.loadN 7) [(.tmp 3)] (some 18) false),(.op .mv [(.tmp 5)] (some 19) false),(.pc (.const (.fn 14 [])) [(.tmp 19)] (some 20) false),(.op (.bin .add) [(.const (.str ⟨#[47,102]⟩)),(.tmp 20)] (some 21) false),(.op .mv [(.tmp 0)] (some 22) false),(.pc (.const (.fn 15 [])) [(.tmp 22)] (some 23) false),(.op .mv [(.tmp 5)] (some 24) false),(.op (.iaddr 1) [(.tmp 23),(.tmp 24)] (some 25) false),(.op .load1 [(.tmp 25)] (some 26) false),(.op (.bin .rem) [(.tmp 26),(.const (.int .i64 2))] (some 27) false),(.op (.bin .add) [(.const (.int .i64 1)),(.tmp 27)] (some 28) false),(.pc (.const (.fn 13 [])) [(.tmp 18),(.tmp 21),(.tmp 28)] (some 29) false),(.op .mv [(.tmp 29)] (some 17) false),(.op (.ext 0) [(.tmp 17)] (some 30) false),(.op (.ext 1) [(.tmp 17)] (some 31) false),(.op (.alloc (.agg [.nil,.nil,.nil,.nil,.nil,.nil,(.int .i64 0)])) [] (some 6) false),(.op (.storeN 7) [(.tmp 6),(.tmp 30)] none true),(.op .mv [(.tmp 31)] (some 7) true)] true)) (.seq (.seq (.region [(.op .mv [(.tmp 7)] (some 32) true),(.op (.bin .neq) [(.tmp 32),(.const (.int .i64 0))] (some 33) true)] false) (.cond (.tmp 33) (.seq (.seq (.region [(.op .mv [(.tmp 7)] (some 34) true),(.op (.bin .neq) [(.tmp 34),(.const (.int .i64 4))] (some 35) true),(.op .mv [(.tmp 35)] (some 36) true),(.grp 36 false [(.op (.loadN 7) [(.tmp 6)] (some 37) true),(.op (.loadN 7) [(.tmp 3)] (some 38) true),(.pc (.const (.fn 16 [])) [(.tmp 37),(.tmp 38)] (some 39) true),(.op .not [(.tmp 39)] (some 40) true)] 40 41 true)] false) (.cond (.tmp 41) (.seq (.region [(.op .mv [(.const (.bool false))] (some 2) true)] false) .ret) .skip)) (.exit 1)) .skip)) (.seq (.region [(.op .mv [(.tmp 4)] (some 42) true),(.op (.bin .add) [(.tmp 42),(.const (.int .i64 1))] (some 43) true),(.op .mv [(.tmp 43)] (some 4) true)] false) (.region [(.op (.loadN 7) [(.tmp 6)] (some 44) true),(.op (.storeN 7) [(.tmp 3),(.tmp 44)] none true)] false))))) (.region [(.op .mv [(.tmp 5)] (some 15) true),(.op (.bin .add) [(.tmp 15),(.const (.int .i64 1))] (some 16) true),(.op .mv [(.tmp 16)] (some 5) true)] false)))
def H4_16 : List Vw := [.tidy [3, 4, 8] [(3, none), (4, none), (8, none)]]
theorem h4_16 (b : Nat) (s : St) : vwL b H4_16 s = vwL b [.tidy [3, 4, 8] [(3, none), (4, none), (8, none)]] s := rfl
def L4_16 : EC := (.seq (.seq (.region [(.op .mv [(.tmp 8)] (some 45) true),(.op .mv [(.tmp 4)] (some 46) true),(.op (.bin .lss) [(.tmp 45),(.tmp 46)] (some 47) true)] false) (.cond (.tmp 47) .skip (.exit 2))) (.seq (.block 3 (.seq (.view [.opn 3 none none 0 1,.opn 3 none none 1 1,.opn 3 none none 2 3,.opn 3 none none 3 3] (.region [(.op (.faddr 0) [(.tmp 3)] (some 50) false),(.op (.loadN 4) [(.tmp 50)] (some 51) false),(.op .mv [(.tmp 8)] (some 52) false),(.pc (.const (.fn 14 [])) [(.tmp 52)] (some 53) false),(.op (.bin .add) [(.const (.str ⟨#[47,102]⟩)),(.tmp 53)] (some 54) false),(.pc (.const (.fn 17 [])) [(.tmp 51),(.tmp 54)] (some 55) true),(.op .mv [(.tmp 8)] (some 56) false),(.op (.bin .add) [(.tmp 56),(.const (.int .i64 2))] (some 57) false),(.op (.bin .neq) [(.tmp 55),(.tmp 57)] (some 58) true)] true)) (.cond (.tmp 58) (.seq (.region [(.op .mv [(.const (.bool false))] (some 2) true)] false) .ret) .skip))) (.region [(.op .mv [(.tmp 8)] (some 48) true),(.op (.bin .add) [(.tmp 48),(.const (.int .i64 1))] (some 49) true),(.op .mv [(.tmp 49)] (some 8) true)] false)))
def F4 : EF := ⟨(.seq (.region [(.op .mv [(.const (.bool false))] (some 2) true)] false) (.seq (.seq (.region [(.op .mv [(.tmp 0)] (some 9) true),(.pc (.const (.fn 10 [])) [(.tmp 9)] (some 10) true)] false) (.cond (.tmp 10) (.seq (.region [(.op .mv [(.const (.bool true))] (some 2) true)] false) .ret) .skip)) (.seq (.region [(.pc (.const (.fn 12 [])) [] (some 11) true),(.pc (.const (.fn 11 [])) [(.tmp 11)] (some 12) true),(.op (.alloc (.agg [.nil,.nil,.nil,.nil,.nil,.nil,(.int .i64 0)])) [] (some 3) true),(.op (.storeN 7) [(.tmp 3),(.tmp 12)] none true)] false) (.seq (.region [(.op .mv [(.const (.int .i64 0))] (some 4) true)] false) (.seq (.seq (.region [(.op .mv [(.const (.int .i64 0))] (some 5) true)] false) (.block 0 (.loop H4_6 L4_6))) (.seq (.seq (.region [(.op .mv [(.const (.int .i64 0))] (some 8) true)] false) (.block 2 (.loop H4_16 L4_16))) (.seq (.view [.wide,.opn 3 none none 0 1,.opn 3 none none 1 1,.opn 3 none none 2 3,.opn 3 none none 3 3,.opn 3 none none 4 1,.opn 3 none none 5 11] (.region [(.op .mv [(.tmp 4)] (some 59) true),(.op (.bin .eql) [(.tmp 59),(.const (.int .i64 7))] (some 60) true),(.op .mv [(.tmp 60)] (some 61) true),(.grw 61 true [(.op (.faddr 0) [(.tmp 3)] (some 62) true),(.op (.loadN 4) [(.tmp 62)] (some 63) true),(.pc (.const (.fn 18 [])) [(.tmp 63),(.const (.int .i64 1))] (some 64) true),(.op .len [(.tmp 64)] (some 65) true),(.op .mv [(.tmp 4)] (some 66) true),(.op (.bin .eql) [(.tmp 65),(.tmp 66)] (some 67) true)] 67 68 true),(.op .mv [(.tmp 68)] (some 69) true),(.grw 69 true [(.op (.loadN 7) [(.tmp 3)] (some 70) true),(.pc (.const (.fn 19 [])) [(.tmp 70)] (some 71) true)] 71 72 true),(.op .mv [(.tmp 72)] (some 2) true)] false)) .ret))))))),[(.tmp 2)],73,.one,none⟩
theorem t4 : T 4 = some F4 := tab Tryd.func4 (by kernel_rfl) rfl
def H5_8 : List Vw := [.lay 4 1, .tidy [0, 4, 5, 6] [(0, none), (4, none), (5, none), (6, none)]]
def L5_8 : EC := (.seq (.seq (.region [(.op .mv [(.tmp 6)] (some 20) true),(.op .mv [(.tmp 0)] (some 21) true),(.op .lenStr [(.tmp 21)] (some 22) true),(.op (.bin .leq) [(.tmp 20),(.tmp 22)] (some 23) true)] false) (.cond (.tmp 23) .skip (.exit 0))) (.seq (.block 1 (.seq (.seq (.region [(.op .mv [(.tmp 6)] (some 26) true),(.op .mv [(.tmp 0)] (some 27) true),(.op .lenStr [(.tmp 27)] (some 28) true),(.op (.bin .lss) [(.tmp 26),(.tmp 28)] (some 29) true),(.op .mv [(.tmp 29)] (some 30) true),(.grp 30 true [(.op .mv [(.tmp 0)] (some 31) true),(.op .mv [(.tmp 6)] (some 32) true),(.op .idxStr [(.tmp 31),(.tmp 32)] (some 33) true),(.op (.bin .neq) [(.tmp 33),(.const (.int .u8 47))] (some 34) true)] 34 35 true)] false) (.cond (.tmp 35) (.exit 1) .skip)) (.seq (.seq (.region [(.op .mv [(.tmp 0)] (some 36) true),(.op .mv [(.tmp 5)] (some 37) true),(.op .mv [(.tmp 6)] (some 38) true),(.op (.sliceStr true true) [(.tmp 36),(.tmp 37),(.tmp 38)] (some 39) true),(.pc (.const (.fn 20 [])) [(.tmp 39)] (some 40) true),(.op .not [(.tmp 40)] (some 41) true)] false) (.cond (.tmp 41) (.seq (.region [(.op (.bslice 1 0 (.str ⟨#[]⟩) []) [] (some 42) true),(.op .mv [(.tmp 42)] (some 2) true),(.op .mv [(.const (.bool false))] (some 3) true)] false) .ret) .skip)) (.seq (.region [(.op .mv [(.tmp 4)] (some 43) true),(.op .mv [(.tmp 0)] (some 44) true),(.op .mv [(.tmp 5)] (some 45) true),(.op .mv [(.tmp 6)] (some 46) true),(.op (.sliceStr true true) [(.tmp 44),(.tmp 45),(.tmp 46)] (some 47) true),(.op (.bslice 1 1 (.str ⟨#[]⟩) [0]) [(.tmp 47)] (some 48) true),(.op (.append 1 16) [(.tmp 43),(.tmp 48)] (some 49) true),(.op .mv [(.tmp 49)] (some 4) true)] false) (.region [(.op .mv [(.tmp 6)] (some 50) true),(.op (.bin .add) [(.tmp 50),(.const (.int .i64 1))] (some 51) true),(.op .mv [(.tmp 51)] (some 5) true)] false))))) (.region [(.op .mv [(.tmp 6)] (some 24) true),(.op (.bin .add) [(.tmp 24),(.const (.int .i64 1))] (some 25) true),(.op .mv [(.tmp 25)] (some 6) true)] false)))
def F5 : EF := ⟨(.seq (.region [(.op .mv [(.const .nil)] (some 2) true),(.op .mv [(.const (.bool false))] (some 3) true)] false) (.seq (.region [(.op (.bslice 1 0 (.str ⟨#[]⟩) []) [] (some 7) true),(.op .mv [(.tmp 7)] (some 4) true)] false) (.seq (.seq (.region [(.op .mv [(.tmp 0)] (some 8) true),(.op .lenStr [(.tmp 8)] (some 9) true),(.op (.bin .eql) [(.tmp 9),(.const (.int .i64 0))] (some 10) true),(.op .mv [(.tmp 10)] (some 11) true),(.grp 11 false [(.op .mv [(.tmp 0)] (some 12) true),(.op .idxStr [(.tmp 12),(.const (.int .i64 0))] (some 13) true),(.op (.bin .neq) [(.tmp 13),(.const (.int .u8 47))] (some 14) true)] 14 15 true)] false) (.cond (.tmp 15) (.seq (.region [(.op .mv [(.tmp 4)] (some 16) true),(.op .mv [(.tmp 16)] (some 2) true),(.op .mv [(.const (.bool false))] (some 3) true)] false) .ret) .skip)) (.seq (.seq (.region [(.op .mv [(.tmp 0)] (some 17) true),(.op (.bin .eql) [(.tmp 17),(.const (.str ⟨#[47]⟩))] (some 18) true)] false) (.cond (.tmp 18) (.seq (.region [(.op .mv [(.tmp 4)] (some 19) true),(.op .mv [(.tmp 19)] (some 2) true),(.op .mv [(.const (.bool true))] (some 3) true)] false) .ret) .skip)) (.seq (.region [(.op .mv [(.const (.int .i64 1))] (some 5) true)] false) (.seq (.seq (.region [(.op .mv [(.const (.int .i64 1))] (some 6) true)] false) (.block 0 (.loop H5_8 L5_8))) (.seq (.seq (.region [(.op .mv [(.tmp 4)] (some 52) true),(.op .len [(.tmp 52)] (some 53) true),(.op (.bin .gtr) [(.tmp 53),(.const (.int .i64 4))] (some 54) true)] false) (.cond (.tmp 54) (.seq (.region [(.op (.bslice 1 0 (.str ⟨#[]⟩) []) [] (some 55) true),(.op .mv [(.tmp 55)] (some 2) true),(.op .mv [(.const (.bool false))] (some 3) true)] false) .ret) .skip)) (.seq (.region [(.op .mv [(.tmp 4)] (some 56) true),(.op .mv [(.tmp 56)] (some 2) true),(.op .mv [(.const (.bool true))] (some 3) true)] false) .ret)))))))),[(.tmp 2),(.tmp 3)],57,(.agg [.row 1 .one,.one]),none⟩
theorem t5 : T 5 = some F5 := tab Tryd.func5 (by kernel_rfl) rfl
def H6_8 : List Vw := [.tidy [6, 20, 21, 22] [(6, none), (20, none), (21, none), (22, none)]]
theorem h6_8 (b : Nat) (s : St) : vwL b H6_8 s = vwL b [.tidy [6, 20, 21, 22] [(6, none), (20, none), (21, none), (22, none)]] s := rfl
def L6_8 : EC := (.seq (.region [(.op (.bin .lss) [(.tmp 22),(.tmp 21)] (some 23) true)] false) (.seq (.cond (.tmp 23) .skip (.exit 0)) (.seq (.block 1 (.seq (.region [(.op (.iaddr 1) [(.tmp 20),(.tmp 22)] (some 24) true),(.op .load1 [(.tmp 24)] (some 25) true),(.op .mv [(.tmp 25)] (some 8) true)] false) (.seq (.region [(.op .mv [(.tmp 8)] (some 26) true),(.pc (.const (.fn 23 [])) [(.tmp 26)] (some 27) true),(.op .not [(.tmp 27)] (some 28) true)] false) (.cond (.tmp 28) (.seq (.region [(.op .mv [(.const .nil)] (some 2) true),(.op .mv [(.const (.bool false))] (some 3) true)] false) .ret) .skip)))) (.region [(.op (.bin .add) [(.tmp 22),(.const (.int .i64 1))] (some 29) true),(.op .mv [(.tmp 29)] (some 22) true)] false))))
def F6 : EF := ⟨(.seq (.region [(.op .mv [(.const .nil)] (some 2) true),(.op .mv [(.const (.bool false))] (some 3) true)] false) (.seq (.region [(.op .mv [(.tmp 0)] (some 10) true),(.pc (.const (.fn 21 [])) [(.tmp 10),(.const (.str ⟨#[47]⟩))] (some 11) true),(.op .mv [(.tmp 11)] (some 9) true),(.op (.ext 0) [(.tmp 9)] (some 12) true),(.op (.ext 1) [(.tmp 9)] (some 13) true),(.op .mv [(.tmp 12)] (some 4) true),(.op .mv [(.tmp 13)] (some 5) true)] false) (.seq (.seq (.region [(.op .mv [(.tmp 5)] (some 14) true),(.op .not [(.tmp 14)] (some 15) true)] false) (.cond (.tmp 15) (.seq (.region [(.op .mv [(.const .nil)] (some 2) true),(.op .mv [(.const (.bool false))] (some 3) true)] false) .ret) .skip)) (.seq (.seq (.region [(.op .mv [(.tmp 4)] (some 16) true),(.op (.bin .eql) [(.tmp 16),(.const (.str ⟨#[]⟩))] (some 17) true)] false) (.cond (.tmp 17) (.seq (.region [(.op .mv [(.const .nil)] (some 2) true),(.op .mv [(.const (.bool true))] (some 3) true)] false) .ret) .skip)) (.seq (.region [(.op .mv [(.tmp 4)] (some 18) true),(.pc (.const (.fn 22 [])) [(.tmp 18),(.const (.str ⟨#[47]⟩))] (some 19) true),(.op .mv [(.tmp 19)] (some 6) true)] false) (.seq (.seq (.region [(.op .mv [(.tmp 6)] (some 20) true),(.op .len [(.tmp 20)] (some 21) true),(.op .mv [(.const (.int .i64 0))] (some 22) true)] false) (.block 0 (.loop H6_8 L6_8))) (.seq (.seq (.region [(.op .mv [(.tmp 6)] (some 30) true),(.op .len [(.tmp 30)] (some 31) true),(.op (.bin .gtr) [(.tmp 31),(.const (.int .i64 4))] (some 32) true)] false) (.cond (.tmp 32) (.seq (.region [(.op .mv [(.const .nil)] (some 2) true),(.op .mv [(.const (.bool false))] (some 3) true)] false) .ret) .skip)) (.seq (.region [(.op .mv [(.tmp 6)] (some 33) true),(.op .mv [(.tmp 33)] (some 2) true),(.op .mv [(.const (.bool true))] (some 3) true)] false) .ret)))))))),[(.tmp 2),(.tmp 3)],34,(.agg [.row 1 .one,.one]),none⟩
theorem t6 : T 6 = some F6 := tab Tryd.func6 (by kernel_rfl) rfl
def F10 : EF := ⟨(.seq (.region [(.op .mv [(.const (.bool false))] (some 2) true)] false) (.seq (.region [(.op .mv [(.tmp 0)] (some 3) true),(.op .len [(.tmp 3)] (some 4) true),(.op (.bin .gtr) [(.tmp 4),(.const (.int .i64 1048576))] (some 5) true),(.op .mv [(.tmp 5)] (some 2) true)] false) .ret)),[(.tmp 2)],6,.one,none⟩
theorem t10 : T 10 = some F10 := tab Tryd.func10 (by kernel_rfl) rfl
def F11 : EF := ⟨(.seq (.region [(.op (.box 4) [(.tmp 0)] (some 1) true),(.op (.alloc (.agg [.nil,.nil,.nil,.nil,.nil,.nil,(.int .i64 0)])) [] (some 2) true)] false) (.seq (.region [(.op (.loadN 4) [(.tmp 1)] (some 3) false),(.pc (.const (.fn 25 [])) [(.tmp 3)] (some 4) false),(.op (.mkslice 1 1 (.bool false)) [(.const (.int .i64 21)),(.const (.int .i64 21))] (some 5) false),(.op (.build [.nil,.nil,.nil,.nil,.nil,.nil,(.int .i64 0)] [(0,4),(4,1),(6,1)]) [(.tmp 4),(.tmp 5),(.const (.int .i64 1))] (some 6) true),(.op (.storeN 7) [(.tmp 2),(.tmp 6)] none true)] true) .ret)),[(.cell 2 (.loadN 7))],7,(.agg [.one,.one,.one,.one,.one,.row 11 .one,.one]),none⟩
theorem t11 : T 11 = some F11 := tab Tryd.func11 (by kernel_rfl) rfl
def H12_3 : List Vw := [.opn 1 none none 2 3, .tidy [0, 1, 2] [(0, none), (1, none), (2, none), (1, some 2)]]
theorem h12_3 (b : Nat) (s : St) : vwL b H12_3 s = vwL b [.opn 1 none none 2 3, .tidy [0, 1, 2] [(0, none), (1, none), (2, none), (1, some 2)]] s := rfl
def L12_3 : EC := (.seq (.seq (.region [(.op .mv [(.tmp 2)] (some 5) true),(.op (.bin .lss) [(.tmp 5),(.const (.int .i64 8))] (some 6) true)] false) (.cond (.tmp 6) .skip (.exit 0))) (.seq (.block 1 (.region [(.op (.faddr 2) [(.tmp 1)] (some 9) false),(.op .load1 [(.tmp 9)] (some 10) false),(.pc (.const (.fn 27 [])) [(.const (.int .i64 0))] (some 11) false),(.op (.bslice 3 1 (.agg [(.int .i64 0),(.int .i64 0),.nil]) [0]) [(.tmp 11)] (some 12) false),(.op (.append 3 40) [(.tmp 10),(.tmp 12)] (some 13) true),(.op (.faddr 2) [(.tmp 1)] (some 14) true),(.op .store1 [(.tmp 14),(.tmp 13)] none true)] true)) (.region [(.op .mv [(.tmp 2)] (some 7) true),(.op (.bin .add) [(.tmp 7),(.const (.int .i64 1))] (some 8) true),(.op .mv [(.tmp 8)] (some 2) true)] false)))
def F12 : EF := ⟨(.seq (.region [(.op (.alloc (.agg [.nil,.nil,.nil,.nil])) [] (some 0) true)] false) (.seq (.region [(.pc (.const (.fn 26 [])) [] (some 3) true),(.op (.build [.nil,.nil,.nil,.nil] [(0,2)]) [(.tmp 3)] (some 4) true),(.op (.alloc (.agg [.nil,.nil,.nil,.nil])) [] (some 1) true),(.op (.storeN 4) [(.tmp 1),(.tmp 4)] none true)] false) (.seq (.seq (.region [(.op .mv [(.const (.int .i64 0))] (some 2) true)] false) (.block 0 (.loop H12_3 L12_3))) (.seq (.region [(.op (.faddr 2) [(.tmp 1)] (some 15) false),(.op .load1 [(.tmp 15)] (some 16) false),(.pc (.const (.fn 27 [])) [(.const (.int .i64 2))] (some 17) false),(.op (.iaddr 3) [(.tmp 16),(.const (.int .i64 0))] (some 18) true),(.op (.storeN 3) [(.tmp 18),(.tmp 17)] none true)] true) (.seq (.region [(.op (.mkslice 3 48 (.agg [(.bool false),.nil,(.str ⟨#[]⟩)])) [(.const (.int .i64 16)),(.const (.int .i64 16))] (some 19) true),(.op (.faddr 3) [(.tmp 1)] (some 20) true),(.op .store1 [(.tmp 20),(.tmp 19)] none true)] false) (.seq (.view [.opn 1 none none 0 1,.opn 1 none none 1 1,.opn 1 none none 2 3,.opn 1 none none 3 3] (.region [(.op (.loadN 4) [(.tmp 1)] (some 21) true),(.op (.storeN 4) [(.tmp 0),(.tmp 21)] none true)] false)) .ret)))))),[(.cell 0 (.loadN 4))],22,(.agg [.row 1 .one,.row 1 .one,.row 3 .one,.row 3 (.agg [.one,.row 2 .one,.one])]),none⟩
theorem t12 : T 12 = some F12 := tab Tryd.func12 (by kernel_rfl) rfl
def F13 : EF := ⟨(.seq (.region [(.op (.box 7) [(.tmp 0)] (some 3) true),(.op (.alloc (.agg [.nil,.nil,.nil,.nil,.nil,.nil,(.int .i64 0)])) [] (some 6) true),(.op .mv [(.const (.int .i64 0))] (some 7) true)] false) (.seq (.region [(.op (.loadN 7) [(.tmp 3)] (some 15) true),(.pc (.const (.fn 28 [])) [(.tmp 15)] (some 16) true),(.op (.alloc (.agg [.nil,.nil,.nil,.nil,.nil,.nil,(.int .i64 0)])) [] (some 8) true),(.op (.storeN 7) [(.tmp 8),(.tmp 16)] none true)] false) (.seq (.region [(.op .mv [(.tmp 1)] (some 18) true),(.pc (.const (.fn 29 [])) [(.tmp 18)] (some 19) true),(.op .mv [(.tmp 19)] (some 17) true),(.op (.ext 0) [(.tmp 17)] (some 20) true),(.op (.ext 1) [(.tmp 17)] (some 21) true),(.op .mv [(.tmp 20)] (some 9) true),(.op .mv [(.tmp 21)] (some 10) true)] false) (.seq (.seq (.region [(.op (.loadN 7) [(.tmp 3)] (some 22) true),(.pc (.const (.fn 19 [])) [(.tmp 22)] (some 23) true),(.op .not [(.tmp 23)] (some 24) true),(.op .mv [(.tmp 24)] (some 25) true),(.grp 25 false [(.op .mv [(.tmp 10)] (some 26) true),(.op .not [(.tmp 26)] (some 27) true)] 27 28 true),(.op .mv [(.tmp 28)] (some 29) true),(.grp 29 false [(.op .mv [(.tmp 2)] (some 30) true),(.op (.bin .neq) [(.tmp 30),(.const (.int .i64 1))] (some 31) true),(.op .mv [(.tmp 31)] (some 32) true),(.grp 32 true [(.op .mv [(.tmp 2)] (some 33) true),(.op (.bin .neq) [(.tmp 33),(.const (.int .i64 2))] (some 34) true)] 34 35 true)] 35 36 true)] false) (.cond (.tmp 36) (.seq (.region [(.op (.loadN 7) [(.tmp 8)] (some 37) true),(.op (.storeN 7) [(.tmp 6),(.tmp 37)] none true),(.op .mv [(.const (.int .i64 6))] (some 7) true)] false) .ret) .skip)) (.seq (.region [(.op .mv [(.tmp 9)] (some 39) true),(.sc (.const (.fn 30 [])) [(.tmp 39)] (some 40) true),(.op .mv [(.tmp 40)] (some 38) true),(.op (.ext 0) [(.tmp 38)] (some 41) true),(.op (.ext 1) [(.tmp 38)] (some 42) true),(.op .mv [(.tmp 41)] (some 11) true),(.op .mv [(.tmp 42)] (some 12) true)] false) (.seq (.region [(.op (.faddr 0) [(.tmp 3)] (some 43) true),(.op (.loadN 4) [(.tmp 43)] (some 44) true),(.op .mv [(.tmp 11)] (some 45) true),(.pc (.const (.fn 31 [])) [(.tmp 44),(.tmp 45)] (some 46) true),(.op .mv [(.tmp 46)] (some 13) true)] false) (.seq (.block 0 (.seq (.region [(.op (.faddr 0) [(.tmp 3)] (some 48) true),(.op (.loadN 4) [(.tmp 48)] (some 49) true),(.op .mv [(.tmp 9)] (some 50) true),(.pc (.const (.fn 31 [])) [(.tmp 49),(.tmp 50)] (some 51) true),(.op (.bin .gtr) [(.tmp 51),(.const (.int .i64 0))] (some 52) true),(.op .mv [(.tmp 52)] (some 47) true)] false) (.cond (.tmp 47) (.seq (.region [(.op (.loadN 7) [(.tmp 8)] (some 53) true),(.op (.storeN 7) [(.tmp 6),(.tmp 53)] none true),(.op .mv [(.const (.int .i64 2))] (some 7) true)] false) .ret) (.seq (.region [(.op .mv [(.tmp 13)] (some 55) true),(.op (.bin .eql) [(.tmp 55),(.const (.int .i64 0))] (some 56) true),(.op .mv [(.tmp 56)] (some 54) true)] false) (.cond (.tmp 54) (.seq (.region [(.op (.loadN 7) [(.tmp 8)] (some 57) true),(.op (.storeN 7) [(.tmp 6),(.tmp 57)] none true),(.op .mv [(.const (.int .i64 1))] (some 7) true)] false) .ret) (.seq (.region [(.op (.faddr 0) [(.tmp 3)] (some 59) true),(.op (.loadN 4) [(.tmp 59)] (some 60) true),(.op .mv [(.tmp 13)] (some 61) true),(.pc (.const (.fn 32 [])) [(.tmp 60),(.tmp 61)] (some 62) true),(.op (.field1 0) [(.tmp 62)] (some 63) true),(.op (.bin .neq) [(.tmp 63),(.const (.int .i64 2))] (some 64) true),(.op .mv [(.tmp 64)] (some 58) true)] false) (.cond (.tmp 58) (.seq (.region [(.op (.loadN 7) [(.tmp 8)] (some 65) true),(.op (.storeN 7) [(.tmp 6),(.tmp 65)] none true),(.op .mv [(.const (.int .i64 3))] (some 7) true)] false) .ret) (.seq (.region [(.op (.loadN 7) [(.tmp 3)] (some 67) true),(.op .mv [(.tmp 13)] (some 68) true),(.op .mv [(.tmp 12)] (some 69) true),(.pc (.const (.fn 33 [])) [(.tmp 67),(.tmp 68),(.tmp 69)] (some 70) true),(.op .mv [(.tmp 70)] (some 66) true)] false) (.cond (.tmp 66) (.seq (.region [(.op (.loadN 7) [(.tmp 8)] (some 71) true),(.op (.storeN 7) [(.tmp 6),(.tmp 71)] none true),(.op .mv [(.const (.int .i64 5))] (some 7) true)] false) .ret) (.seq (.region [(.op (.faddr 0) [(.tmp 3)] (some 73) true),(.op (.faddr 0) [(.tmp 73)] (some 74) true),(.op (.faddr 1) [(.tmp 74)] (some 75) true),(.op .load1 [(.tmp 75)] (some 76) true),(.pc (.const (.fn 34 [])) [(.tmp 76)] (some 77) true),(.op (.bin .eql) [(.tmp 77),(.const (.int .i64 0))] (some 78) true),(.op .mv [(.tmp 78)] (some 79) true),(.grp 79 false [(.op (.loadN 7) [(.tmp 3)] (some 80) true),(.op .mv [(.tmp 13)] (some 81) true),(.pc (.const (.fn 35 [])) [(.tmp 80),(.tmp 81)] (some 82) true),(.op .not [(.tmp 82)] (some 83) true)] 83 84 true),(.op .mv [(.tmp 84)] (some 85) true),(.grp 85 false [(.op (.loadN 7) [(.tmp 3)] (some 86) true),(.pc (.const (.fn 36 [])) [(.tmp 86)] (some 87) true)] 87 88 true),(.op .mv [(.tmp 88)] (some 72) true)] false) (.cond (.tmp 72) (.seq (.region [(.op (.loadN 7) [(.tmp 8)] (some 89) true),(.op (.storeN 7) [(.tmp 6),(.tmp 89)] none true),(.op .mv [(.const (.int .i64 4))] (some 7) true)] false) .ret) .skip))))))))))) (.seq (.region [(.op (.faddr 0) [(.tmp 8)] (some 90) true),(.op (.faddr 0) [(.tmp 90)] (some 91) true),(.op (.faddr 1) [(.tmp 91)] (some 92) true),(.op .load1 [(.tmp 92)] (some 93) true),(.sc (.const (.fn 37 [])) [(.tmp 8),(.tmp 93)] (some 94) true),(.op .mv [(.tmp 94)] (some 14) true)] false) (.seq (.region [(.op (.faddr 0) [(.tmp 8)] (some 95) false),(.op (.faddr 2) [(.tmp 95)] (some 96) false),(.op .load1 [(.tmp 96)] (some 97) false),(.op .mv [(.tmp 14)] (some 98) false),(.op (.bin .sub) [(.tmp 98),(.const (.int .i64 1))] (some 99) false),(.op .mv [(.tmp 2)] (some 100) false),(.pc (.const (.fn 38 [])) [(.tmp 100)] (some 101) false),(.op (.iaddr 3) [(.tmp 97),(.tmp 99)] (some 102) true),(.op (.storeN 3) [(.tmp 102),(.tmp 101)] none true)] true) (.seq (.region [(.op .mv [(.tmp 13)] (some 103) true),(.op .mv [(.tmp 12)] (some 104) true),(.op .mv [(.tmp 14)] (some 105) true),(.sc (.const (.fn 39 [])) [(.tmp 8),(.tmp 103),(.tmp 104),(.tmp 105)] (some 106) true)] false) (.seq (.view [.opn 8 none none 5 11] (.region [(.op (.loadN 7) [(.tmp 8)] (some 107) true),(.op (.storeN 7) [(.tmp 6),(.tmp 107)] none true),(.op .mv [(.const (.int .i64 0))] (some 7) true)] false)) .ret))))))))))),[(.cell 6 (.loadN 7)),(.tmp 7)],108,.one,none⟩
theorem t13 : T 13 = some F13 := tab Tryd.func13 (by kernel_rfl) rfl
def H14_5 : List Vw := [.tidy [0, 3, 4] [(0, none), (3, none), (4, none)]]
theorem h14_5 (b : Nat) (s : St) : vwL b H14_5 s = vwL b [.tidy [0, 3, 4] [(0, none), (3, none), (4, none)]] s := rfl
def L14_5 : EC := (.seq (.seq (.region [(.op .mv [(.tmp 0)] (some 10) true),(.op (.bin .neq) [(.tmp 10),(.const (.int .i64 0))] (some 11) true)] false) (.cond (.tmp 11) .skip (.exit 0))) (.block 1 (.seq (.region [(.op .mv [(.tmp 0)] (some 12) true),(.op (.bin .rem) [(.tmp 12),(.const (.int .i64 10))] (some 13) true),(.op .mv [(.tmp 13)] (some 5) true)] false) (.seq (.seq (.region [(.op .mv [(.tmp 5)] (some 14) true),(.op (.bin .lss) [(.tmp 14),(.const (.int .i64 0))] (some 15) true)] false) (.cond (.tmp 15) (.region [(.op .mv [(.tmp 5)] (some 16) true),(.op .neg [(.tmp 16)] (some 17) true),(.op .mv [(.tmp 17)] (some 5) true)] false) .skip)) (.seq (.region [(.op .mv [(.tmp 5)] (some 18) true),(.pc (.const (.fn 40 [])) [(.tmp 18)] (some 19) true),(.op (.bslice 1 1 (.int .u8 0) [0]) [(.tmp 19)] (some 20) true),(.op .b2s [(.tmp 20)] (some 21) true),(.op .mv [(.tmp 4)] (some 22) true),(.op (.bin .add) [(.tmp 21),(.tmp 22)] (some 23) true),(.op .mv [(.tmp 23)] (some 4) true)] false) (.region [(.op .mv [(.tmp 0)] (some 24) true),(.op (.bin .quo) [(.tmp 24),(.const (.int .i64 10))] (some 25) true),(.op .mv [(.tmp 25)] (some 0) true)] false))))))
def F14 : EF := ⟨(.seq (.region [(.op .mv [(.const (.str ⟨#[]⟩))] (some 2) true)] false) (.seq (.seq (.region [(.op .mv [(.tmp 0)] (some 6) true),(.op (.bin .eql) [(.tmp 6),(.const (.int .i64 0))] (some 7) true)] false) (.cond (.tmp 7) (.seq (.region [(.op .mv [(.const (.str ⟨#[48]⟩))] (some 2) true)] false) .ret) .skip)) (.seq (.region [(.op .mv [(.tmp 0)] (some 8) true),(.op (.bin .lss) [(.tmp 8),(.const (.int .i64 0))] (some 9) true),(.op .mv [(.tmp 9)] (some 3) true)] false) (.seq (.region [(.op .mv [(.const (.str ⟨#[]⟩))] (some 4) true)] false) (.seq (.block 0 (.loop H14_5 L14_5)) (.seq (.seq (.region [(.op .mv [(.tmp 3)] (some 26) true)] false) (.cond (.tmp 26) (.seq (.region [(.op .mv [(.tmp 4)] (some 27) true),(.op (.bin .add) [(.const (.str ⟨#[45]⟩)),(.tmp 27)] (some 28) true),(.op .mv [(.tmp 28)] (some 2) true)] false) .ret) .skip)) (.seq (.region [(.op .mv [(.tmp 4)] (some 29) true),(.op .mv [(.tmp 29)] (some 2) true)] false) .ret))))))),[(.tmp 2)],30,.one,none⟩
theorem t14 : T 14 = some F14 := tab Tryd.func14 (by kernel_rfl) rfl
def H15_5 : List Vw := [.lay 4 1, .tidy [3, 4, 5] [(3, none), (4, none), (5, none)]]
theorem h15_5 (b : Nat) (s : St) : vwL b H15_5 s = vwL b [.lay 4 1, .tidy [3, 4, 5] [(3, none), (4, none), (5, none)]] s := rfl
def L15_5 : EC := (.seq (.seq (.region [(.op .mv [(.tmp 5)] (some 11) true),(.op (.bin .lss) [(.tmp 11),(.const (.int .i64 12))] (some 12) true)] false) (.cond (.tmp 12) .skip (.exit 0))) (.seq (.block 1 (.region [(.op .mv [(.tmp 4)] (some 15) true),(.op .mv [(.tmp 3)] (some 16) true),(.sc (.const (.fn 43 [])) [(.tmp 16),(.const (.int .i64 10000))] (some 17) true),(.op (.bslice 1 1 (.int .i64 0) [0]) [(.tmp 17)] (some 18) true),(.op (.append 1 8) [(.tmp 15),(.tmp 18)] (some 19) true),(.op .mv [(.tmp 19)] (some 4) true)] false)) (.region [(.op .mv [(.tmp 5)] (some 13) true),(.op (.bin .add) [(.tmp 13),(.const (.int .i64 1))] (some 14) true),(.op .mv [(.tmp 14)] (some 5) true)] false)))
def F15 : EF := ⟨(.seq (.region [(.op .mv [(.const .nil)] (some 2) true)] false) (.seq (.region [(.op .mv [(.tmp 0)] (some 6) true),(.pc (.const (.fn 41 [])) [(.tmp 6)] (some 7) true),(.op .mv [(.tmp 7)] (some 3) true)] false) (.seq (.region [(.op .mv [(.tmp 3)] (some 8) true),(.sc (.const (.fn 42 [])) [(.tmp 8)] (some 9) true)] false) (.seq (.region [(.op (.bslice 1 0 (.int .i64 0) []) [] (some 10) true),(.op .mv [(.tmp 10)] (some 4) true)] false) (.seq (.seq (.region [(.op .mv [(.const (.int .i64 0))] (some 5) true)] false) (.block 0 (.loop H15_5 L15_5))) (.seq (.region [(.op .mv [(.tmp 4)] (some 20) true),(.op .mv [(.tmp 20)] (some 2) true)] false) .ret)))))),[(.tmp 2)],21,.one,none⟩
theorem t15 : T 15 = some F15 := tab Tryd.func15 (by kernel_rfl) rfl
def H16_4 : List Vw := [.tidy [2, 3, 5] [(2, none), (3, none), (5, none)]]
theorem h16_4 (b : Nat) (s : St) : vwL b H16_4 s = vwL b [.tidy [2, 3, 5] [(2, none), (3, none), (5, none)]] s := rfl
def L16_4 : EC := (.seq (.seq (.region [(.op .mv [(.tmp 5)] (some 40) true),(.op (.faddr 4) [(.tmp 2)] (some 41) true),(.op .load1 [(.tmp 41)] (some 42) true),(.op .len [(.tmp 42)] (some 43) true),(.op (.bin .lss) [(.tmp 40),(.tmp 43)] (some 44) true)] false) (.cond (.tmp 44) .skip (.exit 0))) (.seq (.block 1 (.seq (.region [(.op (.faddr 4) [(.tmp 2)] (some 47) false),(.op .load1 [(.tmp 47)] (some 48) false),(.op .mv [(.tmp 5)] (some 49) false),(.op (.iaddr 1) [(.tmp 48),(.tmp 49)] (some 50) false),(.op .load1 [(.tmp 50)] (some 51) false),(.op (.faddr 4) [(.tmp 3)] (some 52) false),(.op .load1 [(.tmp 52)] (some 53) false),(.op .mv [(.tmp 5)] (some 54) false),(.op (.iaddr 1) [(.tmp 53),(.tmp 54)] (some 55) false),(.op .load1 [(.tmp 55)] (some 56) false),(.op (.binB true) [(.tmp 51),(.tmp 56)] (some 57) true)] true) (.cond (.tmp 57) (.seq (.region [(.op .mv [(.const (.bool false))] (some 4) true)] false) .ret) .skip))) (.region [(.op .mv [(.tmp 5)] (some 45) true),(.op (.bin .add) [(.tmp 45),(.const (.int .i64 1))] (some 46) true),(.op .mv [(.tmp 46)] (some 5) true)] false)))
def H16_10 : List Vw := [.tidy [2, 3, 6] [(2, none), (3, none), (6, none)]]
theorem h16_10 (b : Nat) (s : St) : vwL b H16_10 s = vwL b [.tidy [2, 3, 6] [(2, none), (3, none), (6, none)]] s := rfl
def L16_10 : EC := (.seq (.seq (.region [(.op .mv [(.tmp 6)] (some 58) true),(.op (.faddr 5) [(.tmp 2)] (some 59) true),(.op .load1 [(.tmp 59)] (some 60) true),(.op .len [(.tmp 60)] (some 61) true),(.op (.bin .lss) [(.tmp 58),(.tmp 61)] (some 62) true)] false) (.cond (.tmp 62) .skip (.exit 2))) (.seq (.block 3 (.seq (.region [(.op (.faddr 5) [(.tmp 2)] (some 65) true),(.op .load1 [(.tmp 65)] (some 66) true),(.op .mv [(.tmp 6)] (some 67) true),(.op (.iaddr 11) [(.tmp 66),(.tmp 67)] (some 68) true),(.op (.loadN 11) [(.tmp 68)] (some 69) true),(.op (.alloc (.agg [(.int .i64 0),(.int .i64 0),(.int .i64 0),(.int .i64 0),(.int .i64 0),(.int .i64 0),(.str ⟨#[]⟩),(.bool false),(.bool false),(.int .i64 0),.nil])) [] (some 7) true),(.op (.storeN 11) [(.tmp 7),(.tmp 69)] none true)] false) (.seq (.region [(.op (.faddr 5) [(.tmp 3)] (some 70) true),(.op .load1 [(.tmp 70)] (some 71) true),(.op .mv [(.tmp 6)] (some 72) true),(.op (.iaddr 11) [(.tmp 71),(.tmp 72)] (some 73) true),(.op (.loadN 11) [(.tmp 73)] (some 74) true),(.op (.alloc (.agg [(.int .i64 0),(.int .i64 0),(.int .i64 0),(.int .i64 0),(.int .i64 0),(.int .i64 0),(.str ⟨#[]⟩),(.bool false),(.bool false),(.int .i64 0),.nil])) [] (some 8) true),(.op (.storeN 11) [(.tmp 8),(.tmp 74)] none true)] false) (.seq (.region [(.op (.faddr 0) [(.tmp 7)] (some 75) true),(.op .load1 [(.tmp 75)] (some 76) true),(.op (.faddr 0) [(.tmp 8)] (some 77) true),(.op .load1 [(.tmp 77)] (some 78) true),(.op (.bin .neq) [(.tmp 76),(.tmp 78)] (some 79) true),(.op .mv [(.tmp 79)] (some 80) true),(.grp 80 false [(.op (.faddr 1) [(.tmp 7)] (some 81) true),(.op .load1 [(.tmp 81)] (some 82) true),(.op (.faddr 1) [(.tmp 8)] (some 83) true),(.op .load1 [(.tmp 83)] (some 84) true),(.op (.bin .neq) [(.tmp 82),(.tmp 84)] (some 85) true)] 85 86 true),(.op .mv [(.tmp 86)] (some 87) true),(.grp 87 false [(.op (.faddr 2) [(.tmp 7)] (some 88) true),(.op .load1 [(.tmp 88)] (some 89) true),(.op (.faddr 2) [(.tmp 8)] (some 90) true),(.op .load1 [(.tmp 90)] (some 91) true),(.op (.bin .neq) [(.tmp 89),(.tmp 91)] (some 92) true)] 92 93 true),(.op .mv [(.tmp 93)] (some 94) true),(.grp 94 false [(.op (.faddr 3) [(.tmp 7)] (some 95) true),(.op .load1 [(.tmp 95)] (some 96) true),(.op (.faddr 3) [(.tmp 8)] (some 97) true),(.op .load1 [(.tmp 97)] (some 98) true),(.op (.bin .neq) [(.tmp 96),(.tmp 98)] (some 99) true)] 99 100 true),(.op .mv [(.tmp 100)] (some 101) true),(.grp 101 false [(.op (.faddr 4) [(.tmp 7)] (some 102) true),(.op .load1 [(.tmp 102)] (some 103) true),(.op (.faddr 4) [(.tmp 8)] (some 104) true),(.op .load1 [(.tmp 104)] (some 105) true),(.op (.bin .neq) [(.tmp 103),(.tmp 105)] (some 106) true)] 106 107 true),(.op .mv [(.tmp 107)] (some 108) true),(.grp 108 false [(.op (.faddr 5) [(.tmp 7)] (some 109) true),(.op .load1 [(.tmp 109)] (some 110) true),(.op (.faddr 5) [(.tmp 8)] (some 111) true),(.op .load1 [(.tmp 111)] (some 112) true),(.op (.bin .neq) [(.tmp 110),(.tmp 112)] (some 113) true)] 113 114 true),(.op .mv [(.tmp 114)] (some 115) true),(.grp 115 false [(.op (.faddr 6) [(.tmp 7)] (some 116) true),(.op .load1 [(.tmp 116)] (some 117) true),(.op (.faddr 6) [(.tmp 8)] (some 118) true),(.op .load1 [(.tmp 118)] (some 119) true),(.op (.bin .neq) [(.tmp 117),(.tmp 119)] (some 120) true)] 120 121 true),(.op .mv [(.tmp 121)] (some 122) true),(.grp 122 false [(.op (.faddr 7) [(.tmp 7)] (some 123) true),(.op .load1 [(.tmp 123)] (some 124) true),(.op (.faddr 7) [(.tmp 8)] (some 125) true),(.op .load1 [(.tmp 125)] (some 126) true),(.op (.binB true) [(.tmp 124),(.tmp 126)] (some 127) true)] 127 128 true),(.op .mv [(.tmp 128)] (some 129) true),(.grp 129 false [(.op (.faddr 8) [(.tmp 7)] (some 130) true),(.op .load1 [(.tmp 130)] (some 131) true),(.op (.faddr 8) [(.tmp 8)] (some 132) true),(.op .load1 [(.tmp 132)] (some 133) true),(.op (.binB true) [(.tmp 131),(.tmp 133)] (some 134) true)] 134 135 true),(.op .mv [(.tmp 135)] (some 136) true),(.grp 136 false [(.op (.faddr 9) [(.tmp 7)] (some 137) true),(.op .load1 [(.tmp 137)] (some 138) true),(.op (.faddr 9) [(.tmp 8)] (some 139) true),(.op .load1 [(.tmp 139)] (some 140) true),(.op (.bin .neq) [(.tmp 138),(.tmp 140)] (some 141) true)] 141 142 true),(.op .mv [(.tmp 142)] (some 143) true),(.grp 143 false [(.op (.faddr 10) [(.tmp 7)] (some 144) true),(.op .load1 [(.tmp 144)] (some 145) true),(.op (.faddr 10) [(.tmp 8)] (some 146) true),(.op .load1 [(.tmp 146)] (some 147) true),(.pc (.const (.fn 45 [])) [(.tmp 145),(.tmp 147)] (some 148) true),(.op .not [(.tmp 148)] (some 149) true)] 149 150 true)] false) (.cond (.tmp 150) (.seq (.region [(.op .mv [(.const (.bool false))] (some 4) true)] false) .ret) .skip))))) (.region [(.op .mv [(.tmp 6)] (some 63) true),(.op (.bin .add) [(.tmp 63),(.const (.int .i64 1))] (some 64) true),(.op .mv [(.tmp 64)] (some 6) true)] false)))
def F16 : EF := ⟨(.seq (.region [(.op (.box 7) [(.tmp 0)] (some 2) true),(.op (.box 7) [(.tmp 1)] (some 3) true),(.op .mv [(.const (.bool false))] (some 4) true)] false) (.seq (.seq (.region [(.op (.faddr 0) [(.tmp 2)] (some 9) true),(.op (.loadN 4) [(.tmp 9)] (some 10) true),(.op (.faddr 0) [(.tmp 3)] (some 11) true),(.op (.loadN 4) [(.tmp 11)] (some 12) true),(.pc (.const (.fn 44 [])) [(.tmp 10),(.tmp 12)] (some 13) true),(.op .not [(.tmp 13)] (some 14) true),(.op .mv [(.tmp 14)] (some 15) true),(.grp 15 false [(.op (.faddr 6) [(.tmp 2)] (some 16) true),(.op .load1 [(.tmp 16)] (some 17) true),(.op (.faddr 6) [(.tmp 3)] (some 18) true),(.op .load1 [(.tmp 18)] (some 19) true),(.op (.bin .neq) [(.tmp 17),(.tmp 19)] (some 20) true)] 20 21 true),(.op .mv [(.tmp 21)] (some 22) true),(.grp 22 false [(.op (.faddr 4) [(.tmp 2)] (some 23) true),(.op .load1 [(.tmp 23)] (some 24) true),(.op .len [(.tmp 24)] (some 25) true),(.op (.faddr 4) [(.tmp 3)] (some 26) true),(.op .load1 [(.tmp 26)] (some 27) true),(.op .len [(.tmp 27)] (some 28) true),(.op (.bin .neq) [(.tmp 25),(.tmp 28)] (some 29) true)] 29 30 true),(.op .mv [(.tmp 30)] (some 31) true),(.grp 31 false [(.op (.faddr 5) [(.tmp 2)] (some 32) true),(.op .load1 [(.tmp 32)] (some 33) true),(.op .len [(.tmp 33)] (some 34) true),(.op (.faddr 5) [(.tmp 3)] (some 35) true),(.op .load1 [(.tmp 35)] (some 36) true),(.op .len [(.tmp 36)] (some 37) true),(.op (.bin .neq) [(.tmp 34),(.tmp 37)] (some 38) true)] 38 39 true)] false) (.cond (.tmp 39) (.seq (.region [(.op .mv [(.const (.bool false))] (some 4) true)] false) .ret) .skip)) (.seq (.seq (.region [(.op .mv [(.const (.int .i64 0))] (some 5) true)] false) (.block 0 (.loop H16_4 L16_4))) (.seq (.seq (.region [(.op .mv [(.const (.int .i64 0))] (some 6) true)] false) (.block 2 (.loop H16_10 L16_10))) (.seq (.region [(.op .mv [(.const (.bool true))] (some 4) true)] false) .ret))))),[(.tmp 4)],151,.one,none⟩
theorem t16 : T 16 = some F16 := tab Tryd.func16 (by kernel_rfl) rfl
def F17 : EF := ⟨(.seq (.region [(.op (.box 4) [(.tmp 0)] (some 2) true),(.op .mv [(.const (.int .i64 0))] (some 4) true)] false) (.seq (.region [(.op .mv [(.tmp 1)] (some 8) true),(.pc (.const (.fn 6 [])) [(.tmp 8)] (some 9) true),(.op .mv [(.tmp 9)] (some 7) true),(.op (.ext 0) [(.tmp 7)] (some 10) true),(.op (.ext 1) [(.tmp 7)] (some 11) true),(.op .mv [(.tmp 10)] (some 5) true),(.op .mv [(.tmp 11)] (some 6) true)] false) (.seq (.seq (.region [(.op .mv [(.tmp 6)] (some 12) true),(.op .not [(.tmp 12)] (some 13) true)] false) (.cond (.tmp 13) (.seq (.region [(.op .mv [(.const (.int .i64 0))] (some 4) true)] false) .ret) .skip)) (.seq (.region [(.op (.loadN 4) [(.tmp 2)] (some 14) true),(.op .mv [(.tmp 5)] (some 15) true),(.pc (.const (.fn 31 [])) [(.tmp 14),(.tmp 15)] (some 16) true),(.op .mv [(.tmp 16)] (some 4) true)] false) .ret)))),[(.tmp 4)],17,.one,none⟩
theorem t17 : T 17 = some F17 := tab Tryd.func17 (by kernel_rfl) rfl
def H18_10 : List Vw := [.lay 5 1, .tidy [2, 5, 20, 21, 22, 29, 30, 31] [(2, none), (5, none), (20, none), (21, none), (22, none), (29, none), (30, none), (31, none)]]
theorem h18_10 (b : Nat) (s : St) : vwL b H18_10 s = vwL b [.lay 5 1, .tidy [2, 5, 20, 21, 22, 29, 30, 31] [(2, none), (5, none), (20, none), (21, none), (22, none), (29, none), (30, none), (31, none)]] s := rfl
def L18_10 : EC := (.seq (.region [(.op (.bin .lss) [(.tmp 31),(.tmp 30)] (some 32) true)] false) (.seq (.cond (.tmp 32) .skip (.exit 2)) (.seq (.block 3 (.seq (.region [(.op (.iaddr 2) [(.tmp 29),(.tmp 31)] (some 33) true),(.op (.loadN 2) [(.tmp 33)] (some 34) true),(.op (.alloc (.agg [(.str ⟨#[]⟩),(.int .i64 0)])) [] (some 10) true),(.op (.storeN 2) [(.tmp 10),(.tmp 34)] none true)] false) (.seq (.region [(.op (.faddr 0) [(.tmp 10)] (some 35) true),(.op .load1 [(.tmp 35)] (some 36) true),(.op (.bin .neq) [(.tmp 36),(.const (.str ⟨#[]⟩))] (some 37) true)] false) (.cond (.tmp 37) (.region [(.op .mv [(.tmp 5)] (some 38) true),(.op (.faddr 0) [(.tmp 10)] (some 39) true),(.op .load1 [(.tmp 39)] (some 40) true),(.op (.bslice 1 1 (.str ⟨#[]⟩) [0]) [(.tmp 40)] (some 41) true),(.op (.append 1 16) [(.tmp 38),(.tmp 41)] (some 42) true),(.op .mv [(.tmp 42)] (some 5) true)] false) .skip)))) (.region [(.op (.bin .add) [(.tmp 31),(.const (.int .i64 1))] (some 43) true),(.op .mv [(.tmp 43)] (some 31) true)] false))))
def H18_6 : List Vw := [.lay 5 1, .tidy [2, 5, 20, 21, 22] [(2, none), (5, none), (20, none), (21, none), (22, none)]]
theorem h18_6 (b : Nat) (s : St) : vwL b H18_6 s = vwL b [.lay 5 1, .tidy [2, 5, 20, 21, 22] [(2, none), (5, none), (20, none), (21, none), (22, none)]] s := rfl
def L18_6 : EC := (.seq (.region [(.op (.bin .lss) [(.tmp 22),(.tmp 21)] (some 23) true)] false) (.seq (.cond (.tmp 23) .skip (.exit 0)) (.seq (.block 1 (.seq (.region [(.op (.iaddr 1) [(.tmp 20),(.tmp 22)] (some 24) true),(.op .load1 [(.tmp 24)] (some 25) true),(.op .mv [(.tmp 25)] (some 8) true)] false) (.seq (.region [(.op (.loadN 4) [(.tmp 2)] (some 26) true),(.op .mv [(.tmp 8)] (some 27) true),(.pc (.const (.fn 46 [])) [(.tmp 26),(.tmp 27)] (some 28) true),(.op (.field1 1) [(.tmp 28)] (some 29) true),(.op .len [(.tmp 29)] (some 30) true),(.op .mv [(.const (.int .i64 0))] (some 31) true)] false) (.block 2 (.loop H18_10 L18_10))))) (.region [(.op (.bin .add) [(.tmp 22),(.const (.int .i64 1))] (some 44) true),(.op .mv [(.tmp 44)] (some 22) true)] false))))
def F18 : EF := ⟨(.seq (.region [(.op (.box 4) [(.tmp 0)] (some 2) true),(.op .mv [(.const .nil)] (some 4) true)] false) (.seq (.region [(.op (.bslice 1 0 (.str ⟨#[]⟩) []) [] (some 11) true),(.op .mv [(.tmp 11)] (some 5) true)] false) (.seq (.region [(.op (.loadN 4) [(.tmp 2)] (some 12) true),(.op .mv [(.tmp 1)] (some 13) true),(.pc (.const (.fn 32 [])) [(.tmp 12),(.tmp 13)] (some 14) true),(.op (.alloc (.agg [(.int .i64 0),(.int .i64 0),.nil])) [] (some 6) true),(.op (.storeN 3) [(.tmp 6),(.tmp 14)] none true)] false) (.seq (.seq (.region [(.op (.faddr 0) [(.tmp 6)] (some 15) true),(.op .load1 [(.tmp 15)] (some 16) true),(.op (.bin .neq) [(.tmp 16),(.const (.int .i64 2))] (some 17) true)] false) (.cond (.tmp 17) (.seq (.region [(.op .mv [(.tmp 5)] (some 18) true),(.op .mv [(.tmp 18)] (some 4) true)] false) .ret) .skip)) (.seq (.seq (.region [(.op (.faddr 2) [(.tmp 6)] (some 19) true),(.op .load1 [(.tmp 19)] (some 20) true),(.op .len [(.tmp 20)] (some 21) true),(.op .mv [(.const (.int .i64 0))] (some 22) true)] false) (.block 0 (.loop H18_6 L18_6))) (.seq (.region [(.op .mv [(.tmp 5)] (some 45) true),(.op .mv [(.tmp 45)] (some 4) true)] false) .ret)))))),[(.tmp 4)],46,(.row 1 .one),none⟩
theorem t18 : T 18 = some F18 := tab Tryd.func18 (by kernel_rfl) rfl
def H19_4 : List Vw := [.tidy [1, 28, 29, 30] [(1, none), (28, none), (29, none), (30, none)]]
theorem h19_4 (b : Nat) (s : St) : vwL b H19_4 s = vwL b [.tidy [1, 28, 29, 30] [(1, none), (28, none), (29, none), (30, none)]] s := rfl
def L19_4 : EC := (.seq (.region [(.op (.bin .lss) [(.tmp 30),(.tmp 29)] (some 31) true)] false) (.seq (.cond (.tmp 31) .skip (.exit 0)) (.seq (.block 1 (.seq (.region [(.op .mv [(.tmp 30)] (some 32) true),(.op (.iaddr 11) [(.tmp 28),(.tmp 30)] (some 33) true),(.op (.loadN 11) [(.tmp 33)] (some 34) true),(.op (.alloc (.agg [(.int .i64 0),(.int .i64 0),(.int .i64 0),(.int .i64 0),(.int .i64 0),(.int .i64 0),(.str ⟨#[]⟩),(.bool false),(.bool false),(.int .i64 0),.nil])) [] (some 4) true),(.op .mv [(.tmp 32)] (some 3) true),(.op (.storeN 11) [(.tmp 4),(.tmp 34)] none true)] false) (.seq (.region [(.op (.loadN 7) [(.tmp 1)] (some 35) true),(.op (.loadN 11) [(.tmp 4)] (some 36) true),(.pc (.const (.fn 49 [])) [(.tmp 35),(.tmp 36)] (some 37) true),(.op .not [(.tmp 37)] (some 38) true),(.op .mv [(.tmp 38)] (some 39) true),(.grp 39 false [(.op (.loadN 7) [(.tmp 1)] (some 40) true),(.op (.faddr 0) [(.tmp 4)] (some 41) true),(.op .load1 [(.tmp 41)] (some 42) true),(.pc (.const (.fn 50 [])) [(.tmp 40),(.tmp 42)] (some 43) true),(.op .mv [(.tmp 3)] (some 44) true),(.op (.bin .neq) [(.tmp 43),(.tmp 44)] (some 45) true)] 45 46 true)] false) (.cond (.tmp 46) (.seq (.region [(.op .mv [(.const (.bool false))] (some 2) true)] false) .ret) .skip)))) (.region [(.op (.bin .add) [(.tmp 30),(.const (.int .i64 1))] (some 47) true),(.op .mv [(.tmp 47)] (some 30) true)] false))))
def F19 : EF := ⟨(.seq (.region [(.op (.box 7) [(.tmp 0)] (some 1) true),(.op .mv [(.const (.bool false))] (some 2) true)] false) (.seq (.seq (.region [(.op (.faddr 0) [(.tmp 1)] (some 5) true),(.op (.loadN 4) [(.tmp 5)] (some 6) true),(.pc (.const (.fn 47 [])) [(.tmp 6)] (some 7) true),(.op .not [(.tmp 7)] (some 8) true),(.op .mv [(.tmp 8)] (some 9) true),(.grp 9 false [(.op (.faddr 4) [(.tmp 1)] (some 10) true),(.op .load1 [(.tmp 10)] (some 11) true),(.op .len [(.tmp 11)] (some 12) true),(.op (.bin .neq) [(.tmp 12),(.const (.int .i64 21))] (some 13) true)] 13 14 true),(.op .mv [(.tmp 14)] (some 15) true),(.grp 15 false [(.op (.faddr 5) [(.tmp 1)] (some 16) true),(.op .load1 [(.tmp 16)] (some 17) true),(.op .len [(.tmp 17)] (some 18) true),(.op (.bin .gtr) [(.tmp 18),(.const (.int .i64 40))] (some 19) true)] 19 20 true),(.op .mv [(.tmp 20)] (some 21) true),(.grp 21 false [(.op (.faddr 6) [(.tmp 1)] (some 22) true),(.op .load1 [(.tmp 22)] (some 23) true),(.pc (.const (.fn 48 [])) [(.tmp 23),(.const (.int .i64 1)),(.const (.int .i64 100000))] (some 24) true),(.op .not [(.tmp 24)] (some 25) true)] 25 26 true)] false) (.cond (.tmp 26) (.seq (.region [(.op .mv [(.const (.bool false))] (some 2) true)] false) .ret) .skip)) (.seq (.seq (.region [(.op (.faddr 5) [(.tmp 1)] (some 27) true),(.op .load1 [(.tmp 27)] (some 28) true),(.op .len [(.tmp 28)] (some 29) true),(.op .mv [(.const (.int .i64 0))] (some 30) true)] false) (.block 0 (.loop H19_4 L19_4))) (.seq (.region [(.op .mv [(.const (.bool true))] (some 2) true)] false) .ret)))),[(.tmp 2)],48,.one,none⟩
theorem t19 : T 19 = some F19 := tab Tryd.func19 (by kernel_rfl) rfl
def F21 : EF := ⟨(.seq (.region [(.op .mv [(.const (.str ⟨#[]⟩))] (some 4) true),(.op .mv [(.const (.bool false))] (some 5) true)] false) (.seq (.region [(.op .mv [(.tmp 0)] (some 6) true),(.op .mv [(.tmp 1)] (some 7) true),(.pc (.const (.fn 52 [])) [(.tmp 6),(.tmp 7)] (some 8) true),(.op (.ext 0) [(.tmp 8)] (some 9) true),(.op (.ext 1) [(.tmp 8)] (some 10) true),(.op .mv [(.tmp 9)] (some 4) true),(.op .mv [(.tmp 10)] (some 5) true)] false) .ret)),[(.tmp 4),(.tmp 5)],11,.one,none⟩
theorem t21 : T 21 = some F21 := tab Tryd.func21 (by kernel_rfl) rfl
def H23_2 : List Vw := [.tidy [0, 5, 6] [(0, none), (5, none), (6, none)]]
theorem h23_2 (b : Nat) (s : St) : vwL b H23_2 s = vwL b [.tidy [0, 5, 6] [(0, none), (5, none), (6, none)]] s := rfl
def L23_2 : EC := (.seq (.region [(.op (.bin .lss) [(.tmp 6),(.tmp 5)] (some 7) true)] false) (.seq (.cond (.tmp 7) .skip (.exit 0)) (.seq (.block 1 (.seq (.region [(.op .mv [(.tmp 6)] (some 8) true),(.op .mv [(.tmp 8)] (some 3) true)] false) (.seq (.region [(.op .mv [(.tmp 0)] (some 9) true),(.op .mv [(.tmp 3)] (some 10) true),(.op .idxStr [(.tmp 9),(.tmp 10)] (some 11) true),(.op (.conv .i64) [(.tmp 11)] (some 12) true),(.pc (.const (.fn 48 [])) [(.tmp 12),(.const (.int .i64 97)),(.const (.int .i64 122))] (some 13) true),(.op .not [(.tmp 13)] (some 14) true),(.op .mv [(.tmp 14)] (some 15) true),(.grp 15 true [(.op .mv [(.tmp 0)] (some 16) true),(.op .mv [(.tmp 3)] (some 17) true),(.op .idxStr [(.tmp 16),(.tmp 17)] (some 18) true),(.op (.conv .i64) [(.tmp 18)] (some 19) true),(.pc (.const (.fn 48 [])) [(.tmp 19),(.const (.int .i64 48)),(.const (.int .i64 57))] (some 20) true),(.op .not [(.tmp 20)] (some 21) true)] 21 22 true)] false) (.cond (.tmp 22) (.seq (.region [(.op .mv [(.const (.bool false))] (some 2) true)] false) .ret) .skip)))) (.region [(.op (.bin .add) [(.tmp 6),(.const (.int .i64 1))] (some 23) true),(.op .mv [(.tmp 23)] (some 6) true)] false))))
def F23 : EF := ⟨(.seq (.region [(.op .mv [(.const (.bool false))] (some 2) true)] false) (.seq (.seq (.region [(.op .mv [(.tmp 0)] (some 4) true),(.op .lenStr [(.tmp 4)] (some 5) true),(.op .mv [(.const (.int .i64 0))] (some 6) true)] false) (.block 0 (.loop H23_2 L23_2))) (.seq (.region [(.op .mv [(.tmp 0)] (some 24) true),(.op .lenStr [(.tmp 24)] (some 25) true),(.pc (.const (.fn 48 [])) [(.tmp 25),(.const (.int .i64 1)),(.const (.int .i64 6))] (some 26) true),(.op .mv [(.tmp 26)] (some 2) true)] false) .ret))),[(.tmp 2)],27,.one,none⟩
theorem t23 : T 23 = some F23 := tab Tryd.func23 (by kernel_rfl) rfl
def H25_3 : List Vw := [.opn 3 none none 2 3, .tidy [1, 2, 3, 4] [(1, none), (2, none), (3, none), (4, none), (3, some 2)]]
theorem h25_3 (b : Nat) (s : St) : vwL b H25_3 s = vwL b [.opn 3 none none 2 3, .tidy [1, 2, 3, 4] [(1, none), (2, none), (3, none), (4, none), (3, some 2)]] s := rfl
def L25_3 : EC := (.seq (.seq (.region [(.op .mv [(.tmp 4)] (some 10) true),(.op (.faddr 2) [(.tmp 1)] (some 11) true),(.op .load1 [(.tmp 11)] (some 12) true),(.op .len [(.tmp 12)] (some 13) true),(.op (.bin .lss) [(.tmp 10),(.tmp 13)] (some 14) true)] false) (.cond (.tmp 14) .skip (.exit 0))) (.seq (.block 1 (.region [(.op (.faddr 2) [(.tmp 3)] (some 17) false),(.op .load1 [(.tmp 17)] (some 18) false),(.op (.faddr 2) [(.tmp 1)] (some 19) false),(.op .load1 [(.tmp 19)] (some 20) false),(.op .mv [(.tmp 4)] (some 21) false),(.op (.iaddr 3) [(.tmp 20),(.tmp 21)] (some 22) false),(.op (.loadN 3) [(.tmp 22)] (some 23) false),(.pc (.const (.fn 55 [])) [(.tmp 23)] (some 24) false),(.op (.bslice 3 1 (.agg [(.int .i64 0),(.int .i64 0),.nil]) [0]) [(.tmp 24)] (some 25) false),(.op (.append 3 40) [(.tmp 18),(.tmp 25)] (some 26) true),(.op (.faddr 2) [(.tmp 3)] (some 27) true),(.op .store1 [(.tmp 27),(.tmp 26)] none true)] true)) (.region [(.op .mv [(.tmp 4)] (some 15) true),(.op (.bin .add) [(.tmp 15),(.const (.int .i64 1))] (some 16) true),(.op .mv [(.tmp 16)] (some 4) true)] false)))
def H25_8 : List Vw := [.opn 3 none none 3 3, .tidy [1, 2, 3, 5] [(1, none), (2, none), (3, none), (5, none), (3, some 3)]]
theorem h25_8 (b : Nat) (s : St) : vwL b H25_8 s = vwL b [.opn 3 none none 3 3, .tidy [1, 2, 3, 5] [(1, none), (2, none), (3, none), (5, none), (3, some 3)]] s := rfl
def L25_8 : EC := (.seq (.seq (.region [(.op .mv [(.tmp 5)] (some 28) true),(.op (.faddr 3) [(.tmp 1)] (some 29) true),(.op .load1 [(.tmp 29)] (some 30) true),(.op .len [(.tmp 30)] (some 31) true),(.op (.bin .lss) [(.tmp 28),(.tmp 31)] (some 32) true)] false) (.cond (.tmp 32) .skip (.exit 2))) (.seq (.block 3 (.region [(.op (.faddr 3) [(.tmp 3)] (some 35) false),(.op .load1 [(.tmp 35)] (some 36) false),(.op (.faddr 3) [(.tmp 1)] (some 37) false),(.op .load1 [(.tmp 37)] (some 38) false),(.op .mv [(.tmp 5)] (some 39) false),(.op (.iaddr 3) [(.tmp 38),(.tmp 39)] (some 40) false),(.op (.loadN 3) [(.tmp 40)] (some 41) false),(.pc (.const (.fn 56 [])) [(.tmp 41)] (some 42) false),(.op (.bslice 3 1 (.agg [(.bool false),.nil,(.str ⟨#[]⟩)]) [0]) [(.tmp 42)] (some 43) false),(.op (.append 3 48) [(.tmp 36),(.tmp 43)] (some 44) true),(.op (.faddr 3) [(.tmp 3)] (some 45) true),(.op .store1 [(.tmp 45),(.tmp 44)] none true)] true)) (.region [(.op .mv [(.tmp 5)] (some 33) true),(.op (.bin .add) [(.tmp 33),(.const (.int .i64 1))] (some 34) true),(.op .mv [(.tmp 34)] (some 5) true)] false)))
def F25 : EF := ⟨(.seq (.region [(.op (.box 4) [(.tmp 0)] (some 1) true),(.op (.alloc (.agg [.nil,.nil,.nil,.nil])) [] (some 2) true)] false) (.seq (.region [(.op (.faddr 0) [(.tmp 1)] (some 6) true),(.op (.loadN 2) [(.tmp 6)] (some 7) true),(.pc (.const (.fn 54 [])) [(.tmp 7)] (some 8) true),(.op (.build [.nil,.nil,.nil,.nil] [(0,2)]) [(.tmp 8)] (some 9) true),(.op (.alloc (.agg [.nil,.nil,.nil,.nil])) [] (some 3) true),(.op (.storeN 4) [(.tmp 3),(.tmp 9)] none true)] false) (.seq (.seq (.region [(.op .mv [(.const (.int .i64 0))] (some 4) true)] false) (.block 0 (.loop H25_3 L25_3))) (.seq (.seq (.region [(.op .mv [(.const (.int .i64 0))] (some 5) true)] false) (.block 2 (.loop H25_8 L25_8))) (.seq (.view [.opn 3 none none 0 1,.opn 3 none none 1 1,.opn 3 none none 2 3,.opn 3 none none 3 3] (.region [(.op (.loadN 4) [(.tmp 3)] (some 46) true),(.op (.storeN 4) [(.tmp 2),(.tmp 46)] none true)] false)) .ret))))),[(.cell 2 (.loadN 4))],47,.one,none⟩
theorem t25 : T 25 = some F25 := tab Tryd.func25 (by kernel_rfl) rfl
def F26 : EF := ⟨(.seq (.region [(.op (.alloc (.agg [.nil,.nil])) [] (some 0) true)] false) (.seq (.region [(.op (.mkslice 1 1 (.bool false)) [(.const (.int .i64 16)),(.const (.int .i64 16))] (some 2) false),(.op (.mkslice 1 1 (.bool false)) [(.const (.int .i64 8)),(.const (.int .i64 8))] (some 3) false),(.op (.build [.nil,.nil] [(0,1),(1,1)]) [(.tmp 2),(.tmp 3)] (some 4) false),(.op (.alloc (.agg [.nil,.nil])) [] (some 1) false),(.op (.storeN 2) [(.tmp 1),(.tmp 4)] none true)] true) (.seq (.region [(.op (.faddr 1) [(.tmp 1)] (some 5) true),(.op .load1 [(.tmp 5)] (some 6) true),(.op (.iaddr 1) [(.tmp 6),(.const (.int .i64 0))] (some 7) true),(.op .store1 [(.tmp 7),(.const (.bool true))] none true)] false) (.seq (.region [(.op (.loadN 2) [(.tmp 1)] (some 8) true),(.op (.storeN 2) [(.tmp 0),(.tmp 8)] none true)] false) .ret)))),[(.cell 0 (.loadN 2))],9,.one,none⟩
theorem t26 : T 26 = some F26 := tab Tryd.func26 (by kernel_rfl) rfl
def F27 : EF := ⟨(.seq (.region [(.op (.alloc (.agg [(.int .i64 0),(.int .i64 0),.nil])) [] (some 2) true)] false) (.seq (.region [(.op .mv [(.tmp 0)] (some 4) true),(.op (.mkslice 1 8 (.int .i64 0)) [(.const (.int .i64 2)),(.const (.int .i64 2))] (some 5) true),(.op (.build [(.int .i64 0),(.int .i64 0),.nil] [(0,1),(1,1),(2,1)]) [(.tmp 4),(.const (.int .i64 1)),(.tmp 5)] (some 6) true),(.op (.alloc (.agg [(.int .i64 0),(.int .i64 0),.nil])) [] (some 3) true),(.op (.storeN 3) [(.tmp 3),(.tmp 6)] none true)] false) (.seq (.seq (.region [(.op .mv [(.tmp 0)] (some 7) true),(.op (.bin .eql) [(.tmp 7),(.const (.int .i64 0))] (some 8) true)] false) (.cond (.tmp 8) (.region [(.op (.faddr 1) [(.tmp 3)] (some 9) true),(.op .store1 [(.tmp 9),(.const (.int .i64 0))] none true)] false) .skip)) (.seq (.region [(.op (.loadN 3) [(.tmp 3)] (some 10) true),(.op (.storeN 3) [(.tmp 2),(.tmp 10)] none true)] false) .ret)))),[(.cell 2 (.loadN 3))],11,.one,none⟩
theorem t27 : T 27 = some F27 := tab Tryd.func27 (by kernel_rfl) rfl
def F28 : EF := ⟨(.seq (.region [(.op (.box 7) [(.tmp 0)] (some 1) true),(.op (.alloc (.agg [.nil,.nil,.nil,.nil,.nil,.nil,(.int .i64 0)])) [] (some 2) true)] false) (.seq (.region [(.op (.faddr 0) [(.tmp 1)] (some 3) false),(.op (.loadN 4) [(.tmp 3)] (some 4) false),(.pc (.const (.fn 57 [])) [(.tmp 4)] (some 5) false),(.op (.faddr 4) [(.tmp 1)] (some 6) false),(.op .load1 [(.tmp 6)] (some 7) false),(.pc (.const (.fn 58 [])) [(.tmp 7)] (some 8) false),(.op (.faddr 5) [(.tmp 1)] (some 9) false),(.op .load1 [(.tmp 9)] (some 10) false),(.pc (.const (.fn 59 [])) [(.tmp 10)] (some 11) false),(.op (.faddr 6) [(.tmp 1)] (some 12) false),(.op .load1 [(.tmp 12)] (some 13) false),(.op (.build [.nil,.nil,.nil,.nil,.nil,.nil,(.int .i64 0)] [(0,4),(4,1),(5,1),(6,1)]) [(.tmp 5),(.tmp 8),(.tmp 11),(.tmp 13)] (some 14) true),(.op (.storeN 7) [(.tmp 2),(.tmp 14)] none true)] true) .ret)),[(.cell 2 (.loadN 7))],15,.one,none⟩
theorem t28 : T 28 = some F28 := tab Tryd.func28 (by kernel_rfl) rfl
def F29 : EF := ⟨(.seq (.region [(.op .mv [(.const .nil)] (some 2) true),(.op .mv [(.const (.bool false))] (some 3) true)] false) (.seq (.region [(.op .mv [(.tmp 0)] (some 7) true),(.pc (.const (.fn 6 [])) [(.tmp 7)] (some 8) true),(.op .mv [(.tmp 8)] (some 6) true),(.op (.ext 0) [(.tmp 6)] (some 9) true),(.op (.ext 1) [(.tmp 6)] (some 10) true),(.op .mv [(.tmp 9)] (some 4) true),(.op .mv [(.tmp 10)] (some 5) true)] false) (.seq (.region [(.op .mv [(.tmp 4)] (some 11) true),(.op .mv [(.tmp 5)] (some 12) true),(.op .mv [(.tmp 12)] (some 13) true),(.grp 13 true [(.op .mv [(.tmp 4)] (some 14) true),(.op .len [(.tmp 14)] (some 15) true),(.op (.bin .gtr) [(.tmp 15),(.const (.int .i64 0))] (some 16) true)] 16 17 true),(.op .mv [(.tmp 11)] (some 2) true),(.op .mv [(.tmp 17)] (some 3) true)] false) .ret))),[(.tmp 2),(.tmp 3)],18,.one,none⟩
theorem t29 : T 29 = some F29 := tab Tryd.func29 (by kernel_rfl) rfl
def F30 : EF := ⟨(.seq (.region [(.op .mv [(.const .nil)] (some 2) true),(.op .mv [(.const (.str ⟨#[]⟩))] (some 3) true)] false) (.seq (.region [(.op .mv [(.tmp 0)] (some 5) true),(.op .len [(.tmp 5)] (some 6) true),(.op (.bin .sub) [(.tmp 6),(.const (.int .i64 1))] (some 7) true),(.op .mv [(.tmp 7)] (some 4) true)] false) (.seq (.region [(.op .mv [(.tmp 0)] (some 8) false),(.op .mv [(.tmp 4)] (some 9) false),(.op (.slice 1 false true) [(.tmp 8),(.tmp 9)] (some 10) false),(.op .mv [(.tmp 0)] (some 11) false),(.op .mv [(.tmp 4)] (some 12) false),(.op (.iaddr 1) [(.tmp 11),(.tmp 12)] (some 13) false),(.op .load1 [(.tmp 13)] (some 14) false),(.op .mv [(.tmp 10)] (some 2) false),(.op .mv [(.tmp 14)] (some 3) true)] true) .ret))),[(.tmp 2),(.tmp 3)],15,.one,none⟩
theorem t30 : T 30 = some F30 := tab Tryd.func30 (by kernel_rfl) rfl
def H31_5 : List Vw := [.tidy [2, 5, 14, 15, 16] [(2, none), (5, none), (14, none), (15, none), (16, none)]]
theorem h31_5 (b : Nat) (s : St) : vwL b H31_5 s = vwL b [.tidy [2, 5, 14, 15, 16] [(2, none), (5, none), (14, none), (15, none), (16, none)]] s := rfl
def L31_5 : EC := (.seq (.region [(.op (.bin .lss) [(.tmp 16),(.tmp 15)] (some 17) true)] false) (.seq (.cond (.tmp 17) .skip (.exit 0)) (.seq (.block 1 (.seq (.region [(.op (.iaddr 1) [(.tmp 14),(.tmp 16)] (some 18) true),(.op .load1 [(.tmp 18)] (some 19) true),(.op .mv [(.tmp 19)] (some 7) true)] false) (.seq (.region [(.op (.loadN 4) [(.tmp 2)] (some 21) true),(.op .mv [(.tmp 5)] (some 22) true),(.op .mv [(.tmp 7)] (some 23) true),(.pc (.const (.fn 60 [])) [(.tmp 21),(.tmp 22),(.tmp 23)] (some 24) true),(.op .mv [(.tmp 24)] (some 20) true),(.op (.ext 0) [(.tmp 20)] (some 25) true),(.op (.ext 1) [(.tmp 20)] (some 26) true),(.op .mv [(.tmp 25)] (some 8) true),(.op .mv [(.tmp 26)] (some 9) true)] false) (.seq (.seq (.region [(.op .mv [(.tmp 8)] (some 27) true),(.op (.bin .eql) [(.tmp 27),(.const (.int .i64 0))] (some 28) true)] false) (.cond (.tmp 28) (.seq (.region [(.op .mv [(.const (.int .i64 0))] (some 4) true)] false) .ret) .skip)) (.region [(.op (.faddr 3) [(.tmp 2)] (some 29) true),(.op .load1 [(.tmp 29)] (some 30) true),(.op .mv [(.tmp 8)] (some 31) true),(.op (.bin .sub) [(.tmp 31),(.const (.int .i64 1))] (some 32) true),(.op (.iaddr 3) [(.tmp 30),(.tmp 32)] (some 33) true),(.op (.faddr 1) [(.tmp 33)] (some 34) true),(.op .load1 [(.tmp 34)] (some 35) true),(.op .mv [(.tmp 9)] (some 36) true),(.op (.iaddr 2) [(.tmp 35),(.tmp 36)] (some 37) true),(.op (.faddr 1) [(.tmp 37)] (some 38) true),(.op .load1 [(.tmp 38)] (some 39) true),(.op .mv [(.tmp 39)] (some 5) true)] false))))) (.region [(.op (.bin .add) [(.tmp 16),(.const (.int .i64 1))] (some 40) true),(.op .mv [(.tmp 40)] (some 16) true)] false))))
def F31 : EF := ⟨(.seq (.region [(.op (.box 4) [(.tmp 0)] (some 2) true),(.op .mv [(.const (.int .i64 0))] (some 4) true)] false) (.seq (.region [(.op .mv [(.const (.int .i64 1))] (some 5) true)] false) (.seq (.seq (.region [(.op (.faddr 2) [(.tmp 2)] (some 10) true),(.op .load1 [(.tmp 10)] (some 11) true),(.op .len [(.tmp 11)] (some 12) true),(.op (.bin .eql) [(.tmp 12),(.const (.int .i64 0))] (some 13) true)] false) (.cond (.tmp 13) (.seq (.region [(.op .mv [(.const (.int .i64 0))] (some 4) true)] false) .ret) .skip)) (.seq (.seq (.region [(.op .mv [(.tmp 1)] (some 14) true),(.op .len [(.tmp 14)] (some 15) true),(.op .mv [(.const (.int .i64 0))] (some 16) true)] false) (.block 0 (.loop H31_5 L31_5))) (.seq (.region [(.op .mv [(.tmp 5)] (some 41) true),(.op .mv [(.tmp 41)] (some 4) true)] false) .ret))))),[(.tmp 4)],42,.one,none⟩
theorem t31 : T 31 = some F31 := tab Tryd.func31 (by kernel_rfl) rfl
def F32 : EF := ⟨(.seq (.region [(.op (.box 4) [(.tmp 0)] (some 2) true),(.op (.alloc (.agg [(.int .i64 0),(.int .i64 0),.nil])) [] (some 4) true)] false) (.seq (.seq (.region [(.op .mv [(.tmp 1)] (some 5) true),(.op (.faddr 2) [(.tmp 2)] (some 6) true),(.op .load1 [(.tmp 6)] (some 7) true),(.op .len [(.tmp 7)] (some 8) true),(.pc (.const (.fn 48 [])) [(.tmp 5),(.const (.int .i64 1)),(.tmp 8)] (some 9) true),(.op .not [(.tmp 9)] (some 10) true)] false) (.cond (.tmp 10) (.seq (.region [(.op (.build [(.int .i64 0),(.int .i64 0),.nil] []) [] (some 11) true),(.op (.storeN 3) [(.tmp 4),(.tmp 11)] none true)] false) .ret) .skip)) (.seq (.region [(.op (.faddr 2) [(.tmp 2)] (some 12) true),(.op .load1 [(.tmp 12)] (some 13) true),(.op .mv [(.tmp 1)] (some 14) true),(.op (.bin .sub) [(.tmp 14),(.const (.int .i64 1))] (some 15) true),(.op (.iaddr 3) [(.tmp 13),(.tmp 15)] (some 16) true),(.op (.loadN 3) [(.tmp 16)] (some 17) true),(.op (.storeN 3) [(.tmp 4),(.tmp 17)] none true)] false) .ret))),[(.cell 4 (.loadN 3))],18,(.agg [.one,.one,.rrow 1]),none⟩
theorem t32 : T 32 = some F32 := tab Tryd.func32 (by kernel_rfl) rfl
def F33 : EF := ⟨(.seq (.region [(.op (.box 7) [(.tmp 0)] (some 3) true),(.op (.box 1) [(.tmp 2)] (some 5) true),(.op .mv [(.const (.bool false))] (some 6) true)] false) (.seq (.region [(.op (.faddr 0) [(.tmp 3)] (some 8) true),(.op (.loadN 4) [(.tmp 8)] (some 9) true),(.op .mv [(.tmp 1)] (some 10) true),(.pc (.const (.fn 32 [])) [(.tmp 9),(.tmp 10)] (some 11) true),(.op (.alloc (.agg [(.int .i64 0),(.int .i64 0),.nil])) [] (some 7) true),(.op (.storeN 3) [(.tmp 7),(.tmp 11)] none true)] false) (.seq (.region [(.op (.faddr 5) [(.tmp 3)] (some 12) true),(.op .load1 [(.tmp 12)] (some 13) true),(.op (.mkfn 62) [(.tmp 7),(.tmp 5)] (some 14) true),(.pc (.const (.fn 61 [])) [(.tmp 13),(.tmp 14)] (some 15) true),(.op .mv [(.tmp 15)] (some 6) true)] false) .ret))),[(.tmp 6)],16,.one,none⟩
theorem t33 : T 33 = some F33 := tab Tryd.func33 (by kernel_rfl) rfl
def H34_2 : List Vw := [.tidy [5, 6, 7] [(5, none), (6, none), (7, none)]]
theorem h34_2 (b : Nat) (s : St) : vwL b H34_2 s = vwL b [.tidy [5, 6, 7] [(5, none), (6, none), (7, none)]] s := rfl
def L34_2 : EC := (.seq (.region [(.op (.bin .lss) [(.tmp 7),(.tmp 6)] (some 8) true)] false) (.seq (.cond (.tmp 8) .skip (.exit 0)) (.seq (.block 1 (.seq (.region [(.op .mv [(.tmp 7)] (some 9) true),(.op (.iaddr 1) [(.tmp 5),(.tmp 7)] (some 10) true),(.op .load1 [(.tmp 10)] (some 11) true),(.op .mv [(.tmp 9)] (some 3) true),(.op .mv [(.tmp 11)] (some 4) true)] false) (.seq (.region [(.op .mv [(.tmp 4)] (some 12) true),(.op .not [(.tmp 12)] (some 13) true)] false) (.cond (.tmp 13) (.seq (.region [(.op .mv [(.tmp 3)] (some 14) true),(.op (.bin .add) [(.tmp 14),(.const (.int .i64 1))] (some 15) true),(.op .mv [(.tmp 15)] (some 2) true)] false) .ret) .skip)))) (.region [(.op (.bin .add) [(.tmp 7),(.const (.int .i64 1))] (some 16) true),(.op .mv [(.tmp 16)] (some 7) true)] false))))
def F34 : EF := ⟨(.seq (.region [(.op .mv [(.const (.int .i64 0))] (some 2) true)] false) (.seq (.seq (.region [(.op .mv [(.tmp 0)] (some 5) true),(.op .len [(.tmp 5)] (some 6) true),(.op .mv [(.const (.int .i64 0))] (some 7) true)] false) (.block 0 (.loop H34_2 L34_2))) (.seq (.region [(.op .mv [(.const (.int .i64 0))] (some 2) true)] false) .ret))),[(.tmp 2)],17,.one,none⟩
theorem t34 : T 34 = some F34 := tab Tryd.func34 (by kernel_rfl) rfl
def F35 : EF := ⟨(.seq (.region [(.op (.box 7) [(.tmp 0)] (some 2) true),(.op .mv [(.const (.bool false))] (some 4) true)] false) (.seq (.region [(.op (.loadN 7) [(.tmp 2)] (some 8) true),(.op .mv [(.tmp 1)] (some 9) true),(.pc (.const (.fn 64 [])) [(.tmp 8),(.tmp 9)] (some 10) true),(.op .mv [(.tmp 10)] (some 7) true),(.op (.ext 0) [(.tmp 7)] (some 11) true),(.op (.ext 1) [(.tmp 7)] (some 12) true),(.op .mv [(.tmp 11)] (some 5) true),(.op .mv [(.tmp 12)] (some 6) true)] false) (.seq (.region [(.op .mv [(.tmp 5)] (some 13) true),(.op (.bin .gtr) [(.tmp 13),(.const (.int .i64 0))] (some 14) true),(.op .mv [(.tmp 14)] (some 15) true),(.grp 15 false [(.op (.faddr 0) [(.tmp 2)] (some 16) true),(.op (.loadN 4) [(.tmp 16)] (some 17) true),(.op .mv [(.tmp 1)] (some 18) true),(.pc (.const (.fn 32 [])) [(.tmp 17),(.tmp 18)] (some 19) true),(.op (.field1 2) [(.tmp 19)] (some 20) true),(.pc (.const (.fn 63 [])) [(.tmp 20),(.const (.int .i64 0))] (some 21) true),(.op .mv [(.tmp 21)] (some 22) true),(.grp 22 true [(.op (.faddr 0) [(.tmp 2)] (some 23) true),(.op (.faddr 0) [(.tmp 23)] (some 24) true),(.op (.faddr 0) [(.tmp 24)] (some 25) true),(.op .load1 [(.tmp 25)] (some 26) true),(.pc (.const (.fn 34 [])) [(.tmp 26)] (some 27) true),(.op (.bin .gtr) [(.tmp 27),(.const (.int .i64 0))] (some 28) true)] 28 29 true)] 29 30 true),(.op .mv [(.tmp 30)] (some 4) true)] false) .ret))),[(.tmp 4)],31,.one,none⟩
theorem t35 : T 35 = some F35 := tab Tryd.func35 (by kernel_rfl) rfl
def F36 : EF := ⟨(.seq (.region [(.op (.box 7) [(.tmp 0)] (some 1) true),(.op .mv [(.const (.bool false))] (some 2) true)] false) (.seq (.region [(.op (.faddr 5) [(.tmp 1)] (some 3) true),(.op .load1 [(.tmp 3)] (some 4) true),(.op .len [(.tmp 4)] (some 5) true),(.op (.bin .gtr) [(.tmp 5),(.const (.int .i64 32))] (some 6) true),(.op .mv [(.tmp 6)] (some 7) true),(.grp 7 false [(.op (.faddr 6) [(.tmp 1)] (some 8) true),(.op .load1 [(.tmp 8)] (some 9) true),(.op (.bin .gtr) [(.tmp 9),(.const (.int .i64 99000))] (some 10) true)] 10 11 true),(.op .mv [(.tmp 11)] (some 2) true)] false) .ret)),[(.tmp 2)],12,.one,none⟩
theorem t36 : T 36 = some F36 := tab Tryd.func36 (by kernel_rfl) rfl
end Go.Proofs.YtaaajjinpppgeaaDoor
