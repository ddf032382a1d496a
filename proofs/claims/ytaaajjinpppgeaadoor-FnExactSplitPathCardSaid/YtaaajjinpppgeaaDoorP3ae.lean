/- The last part of the texts of a claim, joined by a program of ours; at its end stands the row: the law returns true for every input, and leaves it as it was. No condition. -/
import Derived.Test.YtaaajjinpppgeaaDoorP3ad
import Derived.Test.YtaaajjinpppgeaaDoorProg
import Derived.KernelRfl
import Derived.Lib.SplitLaws
import Derived.Shelf.Strings.Split
import Derived.Shelf.Lays
import Derived.Shelf.RegionOpenPlain
import Derived.WalkKit
import Derived.Lib.IndexBytes
import GoSem.ClaimOpenFrom
import GoSem.ClaimJoined
import Derived.JoinedOf
import Derived.ProofKit
import Derived.Test.YtaaajjinpppgeaaDoorRows
import Derived.Test.YtaaajjinpppgeaaDoorCards
import Derived.Test.YtaaajjinpppgeaaDoorTie
import Derived.OpenShut
import Derived.LaidMore
import Derived.Lay
import Derived.SevenTiedAt
import Derived.Stop.Joined
set_option linter.unusedVariables false
set_option linter.unusedSimpArgs false
set_option linter.unusedSectionVars false
namespace Go.Proofs.YtaaajjinpppgeaaDoor
open Go Go.Abs
def tt : Types := [
  (1, ⟨.func, 1, 8, .undef⟩),
  (2, ⟨(.int .i64), 1, 8, (.int .i64 0)⟩),
  (3, ⟨(.int .i64), 1, 8, (.int .i64 0)⟩),
  (4, ⟨.bool, 1, 1, (.bool false)⟩),
  (5, ⟨(.int .u8), 1, 1, (.int .u8 0)⟩),
  (6, ⟨(.int .u8), 1, 1, (.int .u8 0)⟩),
  (7, ⟨(.struct [(0, 2), (1, 3), (2, 4), (3, 6)]), 4, 24, (.agg [(.int .i64 0), (.int .i64 0), (.bool false), (.int .u8 0)])⟩),
  (8, ⟨(.struct [(0, 2), (1, 3), (2, 4), (3, 6)]), 4, 24, (.agg [(.int .i64 0), (.int .i64 0), (.bool false), (.int .u8 0)])⟩),
  (9, ⟨.str, 1, 16, (.str ⟨#[]⟩)⟩),
  (10, ⟨.str, 1, 16, (.str ⟨#[]⟩)⟩),
  (11, ⟨.str, 1, 16, (.str ⟨#[]⟩)⟩),
  (12, ⟨(.int .u64), 1, 8, (.int .u64 0)⟩),
  (13, ⟨(.struct [(0, 9), (1, 12)]), 2, 24, (.agg [(.str ⟨#[]⟩), (.int .u64 0)])⟩),
  (14, ⟨(.struct [(0, 9), (1, 12)]), 2, 24, (.agg [(.str ⟨#[]⟩), (.int .u64 0)])⟩),
  (15, ⟨.ptr, 1, 8, .undef⟩),
  (16, ⟨.ptr, 1, 8, .undef⟩),
  (17, ⟨.ptr, 1, 8, .undef⟩),
  (18, ⟨(.struct [(0, 17)]), 1, 8, (.agg [.undef])⟩),
  (19, ⟨(.struct [(0, 17)]), 1, 8, (.agg [.undef])⟩),
  (21, ⟨(.int .i32), 1, 4, (.int .i32 0)⟩),
  (22, ⟨(.slice 9), 1, 24, .nil⟩),
  (24, ⟨.func, 1, 8, .undef⟩),
  (25, ⟨.func, 1, 8, .undef⟩),
  (26, ⟨.func, 1, 8, .undef⟩),
  (27, ⟨.func, 1, 8, .undef⟩),
  (28, ⟨(.slice 5), 1, 24, .nil⟩),
  (29, ⟨.func, 1, 8, .undef⟩),
  (30, ⟨(.slice 4), 1, 24, .nil⟩),
  (31, ⟨(.struct [(0, 30), (1, 30)]), 2, 48, (.agg [.nil, .nil])⟩),
  (32, ⟨(.struct [(0, 30), (1, 30)]), 2, 48, (.agg [.nil, .nil])⟩),
  (33, ⟨(.slice 57), 1, 24, .nil⟩),
  (34, ⟨(.slice 79), 1, 24, .nil⟩),
  (35, ⟨(.struct [(0, 32), (2, 33), (3, 34)]), 4, 96, (.agg [.nil, .nil, .nil, .nil])⟩),
  (36, ⟨(.struct [(0, 32), (2, 33), (3, 34)]), 4, 96, (.agg [.nil, .nil, .nil, .nil])⟩),
  (37, ⟨(.slice 75), 1, 24, .nil⟩),
  (38, ⟨(.struct [(0, 36), (4, 30), (5, 37), (6, 3)]), 7, 152, (.agg [.nil, .nil, .nil, .nil, .nil, .nil, (.int .i64 0)])⟩),
  (39, ⟨(.struct [(0, 36), (4, 30), (5, 37), (6, 3)]), 7, 152, (.agg [.nil, .nil, .nil, .nil, .nil, .nil, (.int .i64 0)])⟩),
  (40, ⟨.func, 1, 8, .undef⟩),
  (41, ⟨.func, 1, 8, .undef⟩),
  (43, ⟨.func, 1, 8, .undef⟩),
  (44, ⟨.func, 1, 8, .undef⟩),
  (45, ⟨(.slice 3), 1, 24, .nil⟩),
  (46, ⟨.func, 1, 8, .undef⟩),
  (47, ⟨.func, 1, 8, .undef⟩),
  (48, ⟨.func, 1, 8, .undef⟩),
  (49, ⟨.func, 1, 8, .undef⟩),
  (50, ⟨.func, 1, 8, .undef⟩),
  (52, ⟨.func, 1, 8, .undef⟩),
  (53, ⟨.func, 1, 8, .undef⟩),
  (54, ⟨.func, 1, 8, .undef⟩),
  (55, ⟨.func, 1, 8, .undef⟩),
  (56, ⟨(.struct [(0, 3), (1, 3), (2, 45)]), 3, 40, (.agg [(.int .i64 0), (.int .i64 0), .nil])⟩),
  (57, ⟨(.struct [(0, 3), (1, 3), (2, 45)]), 3, 40, (.agg [(.int .i64 0), (.int .i64 0), .nil])⟩),
  (58, ⟨.func, 1, 8, .undef⟩),
  (59, ⟨.func, 1, 8, .undef⟩),
  (61, ⟨.func, 1, 8, .undef⟩),
  (62, ⟨.func, 1, 8, .undef⟩),
  (63, ⟨.func, 1, 8, .undef⟩),
  (64, ⟨.func, 1, 8, .undef⟩),
  (65, ⟨.func, 1, 8, .undef⟩),
  (66, ⟨.func, 1, 8, .undef⟩),
  (67, ⟨.func, 1, 8, .undef⟩),
  (68, ⟨.func, 1, 8, .undef⟩),
  (69, ⟨.ptr, 1, 8, .undef⟩),
  (70, ⟨.func, 1, 8, .undef⟩),
  (71, ⟨.func, 1, 8, .undef⟩),
  (72, ⟨.func, 1, 8, .undef⟩),
  (73, ⟨.func, 1, 8, .undef⟩),
  (74, ⟨(.struct [(0, 3), (1, 3), (2, 3), (3, 3), (4, 3), (5, 3), (6, 9), (7, 4), (8, 4), (9, 3), (10, 45)]), 11, 104, (.agg [(.int .i64 0), (.int .i64 0), (.int .i64 0), (.int .i64 0), (.int .i64 0), (.int .i64 0), (.str ⟨#[]⟩), (.bool false), (.bool false), (.int .i64 0), .nil])⟩),
  (75, ⟨(.struct [(0, 3), (1, 3), (2, 3), (3, 3), (4, 3), (5, 3), (6, 9), (7, 4), (8, 4), (9, 3), (10, 45)]), 11, 104, (.agg [(.int .i64 0), (.int .i64 0), (.int .i64 0), (.int .i64 0), (.int .i64 0), (.int .i64 0), (.str ⟨#[]⟩), (.bool false), (.bool false), (.int .i64 0), .nil])⟩),
  (76, ⟨.func, 1, 8, .undef⟩),
  (77, ⟨(.slice 82), 1, 24, .nil⟩),
  (78, ⟨(.struct [(0, 4), (1, 77), (2, 9)]), 3, 48, (.agg [(.bool false), .nil, (.str ⟨#[]⟩)])⟩),
  (79, ⟨(.struct [(0, 4), (1, 77), (2, 9)]), 3, 48, (.agg [(.bool false), .nil, (.str ⟨#[]⟩)])⟩),
  (80, ⟨.func, 1, 8, .undef⟩),
  (81, ⟨(.struct [(0, 9), (1, 3)]), 2, 24, (.agg [(.str ⟨#[]⟩), (.int .i64 0)])⟩),
  (82, ⟨(.struct [(0, 9), (1, 3)]), 2, 24, (.agg [(.str ⟨#[]⟩), (.int .i64 0)])⟩),
  (83, ⟨.func, 1, 8, .undef⟩),
  (84, ⟨.func, 1, 8, .undef⟩),
  (85, ⟨.func, 1, 8, .undef⟩),
  (86, ⟨.func, 1, 8, .undef⟩),
  (87, ⟨.func, 1, 8, .undef⟩),
  (88, ⟨.func, 1, 8, .undef⟩),
  (89, ⟨.func, 1, 8, .undef⟩),
  (90, ⟨.func, 1, 8, .undef⟩),
  (91, ⟨.func, 1, 8, .undef⟩),
  (92, ⟨.func, 1, 8, .undef⟩),
  (94, ⟨.func, 1, 8, .undef⟩),
  (95, ⟨.func, 1, 8, .undef⟩),
  (96, ⟨.func, 1, 8, .undef⟩),
  (97, ⟨.func, 1, 8, .undef⟩),
  (98, ⟨.func, 1, 8, .undef⟩),
  (99, ⟨.ptr, 1, 8, .undef⟩),
  (100, ⟨.func, 1, 8, .undef⟩),
  (101, ⟨.func, 1, 8, .undef⟩),
  (102, ⟨.func, 1, 8, .undef⟩),
  (103, ⟨.func, 1, 8, .undef⟩),
  (104, ⟨.func, 1, 8, .undef⟩),
  (105, ⟨.func, 1, 8, .undef⟩),
  (106, ⟨(.struct [(0, 28), (1, 3), (2, 3)]), 3, 40, (.agg [.nil, (.int .i64 0), (.int .i64 0)])⟩),
  (107, ⟨(.struct [(0, 28), (1, 3), (2, 3)]), 3, 40, (.agg [.nil, (.int .i64 0), (.int .i64 0)])⟩),
  (108, ⟨(.int .u64), 1, 8, (.int .u64 0)⟩),
  (109, ⟨.func, 1, 8, .undef⟩),
  (110, ⟨.func, 1, 8, .undef⟩),
  (111, ⟨.func, 1, 8, .undef⟩),
  (112, ⟨.func, 1, 8, .undef⟩),
  (113, ⟨.func, 1, 8, .undef⟩),
  (114, ⟨.func, 1, 8, .undef⟩),
  (115, ⟨.func, 1, 8, .undef⟩),
  (116, ⟨.func, 1, 8, .undef⟩),
  (117, ⟨.func, 1, 8, .undef⟩),
  (118, ⟨.func, 1, 8, .undef⟩),
  (119, ⟨.func, 1, 8, .undef⟩),
  (120, ⟨.func, 1, 8, .undef⟩),
  (121, ⟨.func, 1, 8, .undef⟩),
  (122, ⟨.func, 1, 8, .undef⟩),
  (123, ⟨.func, 1, 8, .undef⟩),
  (125, ⟨.func, 1, 8, .undef⟩),
  (126, ⟨.func, 1, 8, .undef⟩),
  (127, ⟨.func, 1, 8, .undef⟩),
  (128, ⟨.func, 1, 8, .undef⟩),
  (129, ⟨.func, 1, 8, .undef⟩),
  (131, ⟨.func, 1, 8, .undef⟩),
  (133, ⟨(.struct [(0, 5), (1, 5)]), 2, 2, (.agg [(.int .u8 0), (.int .u8 0)])⟩),
  (134, ⟨(.struct [(0, 5), (1, 5)]), 2, 2, (.agg [(.int .u8 0), (.int .u8 0)])⟩),
  (136, ⟨(.int .u32), 1, 4, (.int .u32 0)⟩),
  (138, ⟨.func, 1, 8, .undef⟩),
  (139, ⟨.func, 1, 8, .undef⟩),
  (140, ⟨(.struct [(0, 17), (1, 17), (2, 17), (3, 9)]), 4, 40, (.agg [.undef, .undef, .undef, (.str ⟨#[]⟩)])⟩),
  (141, ⟨(.struct [(0, 17), (1, 17), (2, 17), (3, 9)]), 4, 40, (.agg [.undef, .undef, .undef, (.str ⟨#[]⟩)])⟩),
  (143, ⟨(.struct [(0, 142)]), 0, 0, (.agg [])⟩),
  (144, ⟨(.struct [(0, 142)]), 0, 0, (.agg [])⟩),
  (145, ⟨.func, 1, 8, .undef⟩),
  (146, ⟨(.int .u8), 1, 1, (.int .u8 0)⟩),
  (147, ⟨(.int .u8), 1, 1, (.int .u8 0)⟩),
  (148, ⟨.func, 1, 8, .undef⟩),
  (149, ⟨.ptr, 1, 8, .undef⟩),
  (150, ⟨(.int .i32), 1, 4, (.int .i32 0)⟩),
  (151, ⟨(.int .i32), 1, 4, (.int .i32 0)⟩),
  (152, ⟨(.struct [(0, 12), (1, 12), (2, 136), (3, 146), (4, 5), (5, 5), (6, 147), (7, 148), (8, 149), (9, 150), (10, 151)]), 11, 48, (.agg [(.int .u64 0), (.int .u64 0), (.int .u32 0), (.int .u8 0), (.int .u8 0), (.int .u8 0), (.int .u8 0), .undef, .undef, (.int .i32 0), (.int .i32 0)])⟩),
  (153, ⟨(.struct [(0, 12), (1, 12), (2, 136), (3, 146), (4, 5), (5, 5), (6, 147), (7, 148), (8, 149), (9, 150), (10, 151)]), 11, 48, (.agg [(.int .u64 0), (.int .u64 0), (.int .u32 0), (.int .u8 0), (.int .u8 0), (.int .u8 0), (.int .u8 0), .undef, .undef, (.int .i32 0), (.int .i32 0)])⟩)]
theorem tt_rows : tt.map (fun r => tyOf Tryd.prog r.1) = tt.map (fun r => some r.2) := by kernel_rfl
theorem mixed : Tryd.prog.follows .mixedOrders = true := by kernel_rfl
end Go.Proofs.YtaaajjinpppgeaaDoor
namespace Go.Abs
open Go Go.Lib
def cutS (c : UInt8) : List UInt8 → List UInt8 → List (List UInt8)
  | cur, [] => [cur]
  | cur, b :: r => if b = c then cur :: cutS c [] r else cutS c (cur ++ [b]) r
def onto (x : List UInt8) : List (List UInt8) → List (List UInt8)
  | [] => []
  | p :: ps => (x ++ p) :: ps
theorem cutS_cur (c : UInt8) : ∀ (r cur : List UInt8), cutS c cur r = onto cur (cutS c [] r)
  | [], cur => by simp [cutS, onto]
  | b :: r, cur => by
    unfold cutS
    by_cases h : b = c
    · rw [if_pos h, if_pos h]; simp [onto]
    · rw [if_neg h, if_neg h, cutS_cur c r (cur ++ [b]), cutS_cur c r ([] ++ [b])]
      cases cutS c [] r <;> simp [onto]
theorem index_ne (b c : UInt8) (l : List UInt8) (h : b ≠ c) : index (b :: l) [c] = if index l [c] == -1 then -1 else index l [c] + 1 := by
  have hp : ([c] : List UInt8).isPrefixOf (b :: l) = false := by simp [List.isPrefixOf, Ne.symm h]
  rw [index, hp]; simp
theorem index_eq (c : UInt8) (l : List UInt8) : index (c :: l) [c] = ((0 : Nat) : Int) := by rw [index]; simp [List.isPrefixOf]
theorem splitK_ne (b c : UInt8) (l : List UInt8) (h : b ≠ c) (k : Nat) : splitK [c] 0 k (b :: l) = onto [b] (splitK [c] 0 k l) := by
  cases k with
  | zero => rfl
  | succ k =>
    unfold splitK
    rw [index_ne b c l h]
    by_cases hm : index l [c] = -1
    · simp [hm, onto]
    · have hge := index_ge l [c]
      obtain ⟨j, hj⟩ : ∃ j : Nat, index l [c] = j := ⟨(index l [c]).toNat, by omega⟩
      have n1 : ¬ ((j : Int) == -1) = true := by simp
      have n2 : ¬ ((j : Int) + 1 == -1) = true := by simp; omega
      have e1 : ((j : Int) + 1).toNat = j + 1 := by omega
      rw [hj, if_neg n1, if_neg n2, e1]
      simp [onto]
theorem split_cut (c : UInt8) : ∀ s : List UInt8, splitK [c] 0 (s.count c) s = cutS c [] s
  | [] => rfl
  | b :: l => by
    by_cases h : b = c
    · subst h
      rw [List.count_cons_self]
      unfold splitK cutS
      rw [index_eq, if_pos rfl]
      have : ¬ (((0 : Nat) : Int) == -1) = true := by decide
      rw [if_neg this]
      simp
      exact split_cut b l
    · rw [List.count_cons_of_ne (by simpa using h), splitK_ne b c l h, split_cut c l]
      rw [show cutS c [] (b :: l) = cutS c [b] l from by simp [cutS, h], cutS_cur c l [b]]
def pieces (c : UInt8) (s : List UInt8) : List ByteArray := (cutS c [] s).map fun l => ⟨l.toArray⟩
theorem split_pieces (c : UInt8) (s : ByteArray) : splitB ⟨#[c]⟩ 0 (countB s ⟨#[c]⟩) s = pieces c s.data.toList := by
  have h := splitB_data ⟨#[c]⟩ 0 (countB s ⟨#[c]⟩) s
  have e : countB s ⟨#[c]⟩ = s.data.toList.count c := by
    show count s.data.toList [c] = _
    exact count_one c _
  rw [e] at h ⊢
  rw [show (⟨#[c]⟩ : ByteArray).data.toList = [c] from rfl, split_cut] at h
  unfold pieces
  rw [← h, List.map_map]
  symm
  rw [List.map_congr_left (g := id) (fun x _ => ?_), List.map_id]
  cases x; rfl
end Go.Abs
namespace Go.Abs
open Go Go.RowKit Go.Lib
def splitO (args : List AV) (mem : Mem) : Option (AV × Mem) := match args, mem with
  | [.str s, .str ⟨⟨[c]⟩⟩], [] => cond (Nat.blt s.size 4294967281) (some (.own 1 ((pieces c s.data.toList).map AV.str), [])) none
  | _, _ => none
theorem relL_at {w : World} {m : IdMap} {d X : Nat → Prop} {xs : List AV} {vs : List Value} (h : RelL w m d X xs vs []) {k : Nat} {a : AV} (hk : xs[k]? = some a) : ∃ v, vs[k]? = some v ∧ RelV w m d X a v [] := by
  obtain ⟨u, G, h1, h2, h3⟩ := h.get hk
  have : G = [] := List.eq_nil_iff_forall_not_mem.2 fun x hx => by cases h3 x hx
  subst this
  exact ⟨u, h1, h2⟩
theorem strs_rel {w : World} {m : IdMap} {d X : Nat → Prop} : ∀ (l : List ByteArray), RelL w m d X (l.map AV.str) (l.map Value.string) []
  | [] => .nil
  | s :: l => .cons (F := []) (.str s) (strs_rel l)
theorem flat_strs : ∀ (l : List ByteArray), flat (l.map AV.str) = l.map AV.str
  | [] => rfl
  | s :: l => by show AV.cells (.str s) ++ flat (l.map _) = _; rw [flat_strs l]; rfl
theorem even_strs (l : List ByteArray) : Even 1 (l.map AV.str) := by
  intro x hx
  obtain ⟨z, _, rfl⟩ := List.mem_map.1 hx
  rfl
def Splits (P : Program) (f : FuncId) : Prop := ∀ (s : ByteArray) (c : UInt8) (w : World), s.size < 4294967281 →
  Calls P f #[.string s, .string ⟨#[c]⟩] w fun e w' => e = .returned (.slice (some ⟨w.heap.size, 0, none⟩) (countB s ⟨#[c]⟩ + 1) (countB s ⟨#[c]⟩ + 1)) ∧ ∃ ty, w' = w.alloc (.cells ((splitB ⟨#[c]⟩ 0 (countB s ⟨#[c]⟩) s).map Value.string).toArray ty)
theorem split_calls {P : Program} {f : FuncId} (hs : Splits P f) {s : ByteArray} {c : UInt8} (hl : s.size < 4294967281) : ACalls P f [.str s, .str ⟨#[c]⟩] (.own 1 ((pieces c s.data.toList).map AV.str)) := by
  intro Y w vs ha
  have hlen := ha.length
  match vs, hlen with
  | [v0, v1], _ =>
  obtain ⟨v0', e0, h0⟩ := relL_at ha (k := 0) rfl
  obtain ⟨v1', e1, h1⟩ := relL_at ha (k := 1) rfl
  cases e0; cases e1; cases h0; cases h1
  have hp := split_pieces c s
  have hn := splitB_all ⟨#[c]⟩ (Nat.le_refl 1) 0 _ s rfl
  rw [hp] at hn
  refine Calls.mono (hs s c w hl) ?_
  rintro e w' ⟨rfl, ty, rfl⟩
  rw [hp]
  show ∃ F : List Nat, _
  refine ⟨[w.heap.size], by simp, ?_, ?_, evo_alloc _ _ _⟩
  · intro b hb
    cases List.mem_singleton.1 hb
    exact ⟨Nat.le_refl _, by show _ < (w.heap.push _).size; simp⟩
  · have h2 := RelV.own (w := w.alloc (.cells ((pieces c s.data.toList).map Value.string).toArray ty)) (m := m0) (d := d0) (X := fun b => Y b ∨ b ∈ [w.heap.size]) (s := 1) (xs := (pieces c s.data.toList).map AV.str)
      (ys := (pieces c s.data.toList).map AV.str) (vs := (pieces c s.data.toList).map Value.string) (b := w.heap.size) (o := 0) (cap := (pieces c s.data.toList).length) (F := [])
      (by rw [List.length_map]; exact Nat.le_refl _) (even_strs _) ⟨_, ty, heap_alloc_same _ _, fun j v hj => by simpa using hj, by simp⟩ (flat_strs _) (strs_rel _)
    rw [List.length_map, hn] at h2
    exact h2
theorem split_orc {P : Program} {f : FuncId} {fn : Func} {c : Code} (hf : P.funcs[f]? = some fn) (hname : (fn.name == "runtime.NumGoroutine") = false) (hb : fn.body = some c) (hs : Splits P f) : OrcOk P f splitO where
  fn := ⟨fn, c, hf, hname, hb⟩
  pure := by
    intro args res h
    unfold splitO at h
    split at h
    case h_2 => cases h
    rename_i s c _
    cases hb : Nat.blt s.size 4294967281 with
    | false => rw [hb] at h; cases h
    | true =>
      rw [hb] at h; cases h
      exact split_calls hs (Nat.le_of_ble_eq_true hb)
  wr := by
    intro args mem res mem' h hx _
    unfold splitO at h
    split at h
    case h_2 => cases h
    rename_i s c _
    cases hb : Nat.blt s.size 4294967281 with
    | false => rw [hb] at h; cases h
    | true => rw [hb] at h; cases h; exact Bool.noConfusion (show false = true from hx)
  qt := by
    intro args mem res h
    unfold splitO at h
    split at h
    case h_2 => cases h
    rename_i e
    cases e
end Go.Abs
namespace Go.Abs
open Go Go.Proofs Go.Shelf Go.RowKit Go.Lib
section
variable {P : Program} {ρ : Ren}
set_option maxHeartbeats 1000000 in
theorem split_one (L : Lays.n146 P ρ) (hi9 : (P.info? (ρ.t 9)).map (fun i => (i.zero, i.size, i.bytes)) = some (some (.string ByteArray.empty), 1, 16)) : Splits P (ρ.f 146) := by
  intro s b w hs
  have hle := Lib.countB_le ⟨#[b]⟩ (Nat.le_refl 1) s.size s (Nat.le_refl _)
  have hlen := Lib.splitB_all ⟨#[b]⟩ (Nat.le_refl 1) 0 _ s rfl
  have c := Any.strings_genSplit_core { L with } hi9 s ⟨#[b]⟩ 0 (-1) (Lib.countB s ⟨#[b]⟩ + 1) w hs (Nat.le_refl 1) (Nat.zero_le _)
    (fun x k _ => (Any.strings_Index_one { L with } x b _).mono fun e w' ⟨he, hw⟩ => ⟨by rw [he, ← Lib.index_one] <;> rfl, hw⟩)
    ((Any.strings_Count_one { L with } s b w).mono fun e w' ⟨he, hw⟩ => ⟨by rw [he]; show _ = Ending.returned (Value.int .i64 ((Lib.count s.data.toList [b] : Nat) : Int)); rw [Lib.count_one]; rfl, hw⟩)
    (by decide) (by decide) (by rw [if_pos (by decide)]; omega)
  rw [Nat.add_sub_cancel, hlen] at c
  have e2 : Lib.cellsOf (Lib.splitB ⟨#[b]⟩ 0 (Lib.countB s ⟨#[b]⟩) s) (Lib.countB s ⟨#[b]⟩ + 1) = ((Lib.splitB ⟨#[b]⟩ 0 (Lib.countB s ⟨#[b]⟩) s).map Value.string).toArray := by rw [← hlen]; exact Lib.cellsOf_full _
  rw [e2] at c
  have t3 := L.t3; have t9 := L.t9; have t31 := L.t31
  have a3 := L.a3; have a9 := L.a9; have a31 := L.a31
  have z3 := L.z3; have v3 := L.v3; have z9 := L.z9; have v9 := L.v9; have z31 := L.z31; have v31 := L.v31
  have e221 : ∀ args w, (callFunc (ρ.f 221) args).run P w = .ok (.enter (ρ.f 221) args) w := enters_of L.f221 (by kernel_rfl) rfl
  go_enter L.f146, Body.n146_ntmps ρ
  go_wp2_with (go_at_fn (ρ.f 221); refine c.mono ?_; rintro e w' ⟨rfl, hw⟩; rw [hw])
  go_ret
  exact ⟨rfl, _, rfl⟩
end
end Go.Abs
namespace Go.Proofs
open Go.Shelf
def Tryd.lays146_ren : Go.Shelf.Ren := ⟨fun | 146 => 22 | 221 => 53 | 268 => 85 | 138 => 86 | 143 => 87 | 195 => 95 | 197 => 96 | 218 => 97 | 219 => 98 | 260 => 103 | 217 => 104 | 225 => 105 | 224 => 106 | 267 => 107 | 266 => 108 | 314 => 109 | n => n, fun | 9 => 9 | 31 => 22 | 3 => 3 | 4 => 4 | 0 => 0 | 105 => 124 | 21 => 21 | 5 => 5 | 46 => 108 | 119 => 132 | 139 => 135 | 138 => 134 | 146 => 137 | 51 => 136 | n => n, fun | 1 => 0 | 3 => 1 | 4 => 2 | n => n⟩
theorem Tryd.lays146 : Go.Proofs.Lays.n146 Tryd.prog Tryd.lays146_ren := {
  mixed := by kernel_rfl
  f138 := Tryd.func86.trans (congrArg some (by kernel_rfl))
  f143 := Tryd.func87.trans (congrArg some (by kernel_rfl))
  f146 := Tryd.func22.trans (congrArg some (by kernel_rfl))
  f195 := Tryd.func95.trans (congrArg some (by kernel_rfl))
  f197 := Tryd.func96.trans (congrArg some (by kernel_rfl))
  f217 := Tryd.func104.trans (congrArg some (by kernel_rfl))
  f218 := Tryd.func97.trans (congrArg some (by kernel_rfl))
  f219 := Tryd.func98.trans (congrArg some (by kernel_rfl))
  f221 := Tryd.func53.trans (congrArg some (by kernel_rfl))
  f224 := Tryd.func106.trans (congrArg some (by kernel_rfl))
  f225 := Tryd.func105.trans (congrArg some (by kernel_rfl))
  f260 := Tryd.func103.trans (congrArg some (by kernel_rfl))
  f266 := Tryd.func108.trans (congrArg some (by kernel_rfl))
  f267 := Tryd.func107.trans (congrArg some (by kernel_rfl))
  f268 := Tryd.func85.trans (congrArg some (by kernel_rfl))
  f314 := Tryd.func109.trans (congrArg some (by kernel_rfl))
  t0 := Tryd.underlying0
  a0 := Tryd.isAgg0
  z0 := Tryd.sizeOf0
  v0 := Tryd.zeroValue0
  t3 := Tryd.underlying3
  a3 := Tryd.isAgg3
  z3 := Tryd.sizeOf3
  v3 := Tryd.zeroValue3
  t4 := Tryd.underlying4
  a4 := Tryd.isAgg4
  z4 := Tryd.sizeOf4
  v4 := Tryd.zeroValue4
  t5 := Tryd.underlying5
  a5 := Tryd.isAgg5
  z5 := Tryd.sizeOf5
  v5 := Tryd.zeroValue5
  t9 := Tryd.underlying9
  a9 := Tryd.isAgg9
  z9 := Tryd.sizeOf9
  v9 := Tryd.zeroValue9
  t21 := Tryd.underlying21
  a21 := Tryd.isAgg21
  z21 := Tryd.sizeOf21
  v21 := Tryd.zeroValue21
  t31 := Tryd.underlying22
  a31 := Tryd.isAgg22
  z31 := Tryd.sizeOf22
  v31 := Tryd.zeroValue22
  t46 := Tryd.underlying108
  a46 := Tryd.isAgg108
  z46 := Tryd.sizeOf108
  v46 := Tryd.zeroValue108
  t51 := Tryd.underlying136
  a51 := Tryd.isAgg136
  z51 := Tryd.sizeOf136
  v51 := Tryd.zeroValue136
  t105 := Tryd.underlying124
  a105 := Tryd.isAgg124
  z105 := Tryd.sizeOf124
  v105 := Tryd.zeroValue124
  t119 := Tryd.underlying132
  a119 := Tryd.isAgg132
  z119 := Tryd.sizeOf132
  t138 := Tryd.underlying134
  a138 := Tryd.isAgg134
  z138 := Tryd.sizeOf134
  v138 := Tryd.zeroValue134
  t139 := Tryd.underlying135
  a139 := Tryd.isAgg135
  z139 := Tryd.sizeOf135
  v139 := Tryd.zeroValue135
  t146 := Tryd.underlying137
  a146 := Tryd.isAgg137
  z146 := Tryd.sizeOf137
  v146 := Tryd.zeroValue137
  g1 := by kernel_rfl
  g3 := by kernel_rfl
  g4 := by kernel_rfl }
end Go.Proofs
namespace Go.Proofs.YtaaajjinpppgeaaDoor
open Go Go.Abs
theorem splitOk : OrcOk Tryd.prog 22 splitO := split_orc Tryd.func22 rfl rfl (split_one Tryd.lays146 (by kernel_rfl))
end Go.Proofs.YtaaajjinpppgeaaDoor
namespace Go.Proofs.YtaaajjinpppgeaaDoor
open Go Go.Abs
def pures : List FuncId := (List.range 600).filter fun k => !([8, 37, 39, 65, 66, 71, 30] : List Nat).contains k
def hints : Hints := [(4, [(6, [.tidy [0, 3, 4, 5] [(0, none), (3, none), (4, none), (5, none)]]), (16, [.tidy [3, 4, 8] [(3, none), (4, none), (8, none)]])]),
  (5, [(8, [.lay 4 1, .tidy [0, 4, 5, 6] [(0, none), (4, none), (5, none), (6, none)]])]),
  (6, [(8, [.tidy [6, 20, 21, 22] [(6, none), (20, none), (21, none), (22, none)]])]),
  (7, [(4, [.tidy [0, 1, 5] [(0, none), (1, none), (5, none)]])]),
  (8, [(2, [.tidy [0, 1, 5] [(0, none), (1, none), (5, none)]])]),
  (9, [(2, [.tidy [0, 1, 5] [(0, none), (1, none), (5, none)]])]),
  (12, [(3, [.tidy [0, 1, 2] [(0, none), (1, none), (2, none)]])]),
  (15, [(5, [.tidy [3, 4, 5] [(3, none), (4, none), (5, none)]])]),
  (16, [(4, [.tidy [2, 3, 5] [(2, none), (3, none), (5, none)]]), (10, [.tidy [2, 3, 6] [(2, none), (3, none), (6, none)]])]),
  (18, [(6, [.tidy [2, 5, 20, 21, 22] [(2, none), (5, none), (20, none), (21, none), (22, none)]]), (10, [.tidy [2, 5, 20, 21, 22, 29, 30, 31] [(2, none), (5, none), (20, none), (21, none), (22, none), (29, none), (30, none), (31, none)]])]),
  (19, [(4, [.tidy [1, 28, 29, 30] [(1, none), (28, none), (29, none), (30, none)]])]),
  (20, [(2, [.tidy [0, 3] [(0, none), (3, none)]])]),
  (23, [(2, [.tidy [0, 5, 6] [(0, none), (5, none), (6, none)]])]),
  (24, [(4, [.tidy [0, 3] [(0, none), (3, none)]])]),
  (25, [(3, [.tidy [1, 2, 3, 4] [(1, none), (2, none), (3, none), (4, none)]]), (8, [.tidy [1, 2, 3, 5] [(1, none), (2, none), (3, none), (5, none)]])]),
  (31, [(5, [.tidy [2, 5, 14, 15, 16] [(2, none), (5, none), (14, none), (15, none), (16, none)]])]),
  (34, [(2, [.tidy [5, 6, 7] [(5, none), (6, none), (7, none)]])]),
  (41, [(3, [.tidy [0, 3, 4] [(0, none), (3, none), (4, none)]])]),
  (44, [(4, [.tidy [2, 3, 5] [(2, none), (3, none), (5, none)]]), (10, [.tidy [2, 3, 6] [(2, none), (3, none), (6, none)]])]),
  (45, [(4, [.tidy [0, 1, 5] [(0, none), (1, none), (5, none)]])]),
  (47, [(2, [.tidy [1, 8, 9, 10] [(1, none), (8, none), (9, none), (10, none)]]), (9, [.tidy [1, 19, 20, 21] [(1, none), (19, none), (20, none), (21, none)]])]),
  (49, [(2, [.tidy [2, 3, 10, 11, 12] [(2, none), (3, none), (10, none), (11, none), (12, none)]])]),
  (53, [(11, [.tidy [0, 1, 2, 3, 9, 10] [(0, none), (1, none), (2, none), (3, none), (9, none), (10, none)]])]),
  (57, [(3, [.tidy [1, 2, 3, 13, 14, 15] [(1, none), (2, none), (3, none), (13, none), (14, none), (15, none)]]), (9, [.tidy [2, 3, 28, 29, 30] [(2, none), (3, none), (28, none), (29, none), (30, none)]])]),
  (59, [(3, [.tidy [3, 7, 8, 9] [(3, none), (7, none), (8, none), (9, none)]])]),
  (60, [(5, [.tidy [2, 3, 19, 20, 21] [(2, none), (3, none), (19, none), (20, none), (21, none)]])]),
  (64, [(2, [.tidy [2, 14, 15, 16] [(2, none), (14, none), (15, none), (16, none)]]), (6, [.tidy [2, 7, 14, 15, 16, 24, 25, 26] [(2, none), (7, none), (14, none), (15, none), (16, none), (24, none), (25, none), (26, none)]])]),
  (67, [(2, [.tidy [0, 1, 7, 8] [(0, none), (1, none), (7, none), (8, none)]])]),
  (72, [(4, [.tidy [0, 1, 5] [(0, none), (1, none), (5, none)]])]),
  (73, [(4, [.tidy [2, 3, 5] [(2, none), (3, none), (5, none)]])]),
  (74, [(4, [.tidy [2, 3, 5] [(2, none), (3, none), (5, none)]])]),
  (75, [(2, [.tidy [1, 6, 7, 8] [(1, none), (6, none), (7, none), (8, none)]])]),
  (76, [(4, [.tidy [1, 19, 20, 21] [(1, none), (19, none), (20, none), (21, none)]])]),
  (82, [(2, [.tidy [0, 1, 7, 8] [(0, none), (1, none), (7, none), (8, none)]])]),
  (85, [(6, [.tidy [0, 1, 6, 7] [(0, none), (1, none), (6, none), (7, none)]])]),
  (86, [(6, [.tidy [0, 1, 5] [(0, none), (1, none), (5, none)]])]),
  (100, [(2, [.tidy [0, 1, 7, 8] [(0, none), (1, none), (7, none), (8, none)]])]),
  (102, [(2, [.tidy [1, 2, 6, 11, 12, 13] [(1, none), (2, none), (6, none), (11, none), (12, none), (13, none)]])]),
  (107, [(5, [.tidy [0, 1, 5, 6, 7, 8, 9] [(0, none), (1, none), (5, none), (6, none), (7, none), (8, none), (9, none)]]), (12, [.tidy [0, 1, 5, 6, 7, 8, 10] [(0, none), (1, none), (5, none), (6, none), (7, none), (8, none), (10, none)]])]),
  (109, [(3, [.tidy [0, 4, 5] [(0, none), (4, none), (5, none)]]), (9, [.tidy [4, 6, 7, 8] [(4, none), (6, none), (7, none), (8, none)]])])]
def wids : Wids := [(5, (.agg [.row 1 .one, .one])), (6, (.agg [.row 1 .one, .one]))]
def orcs : List (Nat × (List AV → Mem → Option (AV × Mem))) := [(22, splitO)]
noncomputable def T : FuncId → Option EF := orcT (tableOf Tryd.prog tt pures hints wids) orcs
theorem tab {f : FuncId} {fn : Func} {F : EF} (hf : Tryd.prog.funcs[f]? = some fn) (h : (match compileF Tryd.prog tt pures fn with | some A => annF (hintOf hints f) (widOf wids f) A | none => none) = some F) (ho : (orcs.all fun p => !(p.1 == f)) = true) : T f = some F := orcT_at (table_at' hf h) ho
theorem hTT : ∀ t U, tt.get t = some U → tyOf Tryd.prog t = some U := Types.ok tt_rows
theorem calls {f : FuncId} {args : List AV} {res : AV} (h : E T f args [] = some (res, [])) : ACalls Tryd.prog f args res := E_calls mixed hTT (orcT_ok (table_ok _ _ _ _ _) (fun p hp => by cases List.mem_singleton.1 hp; exact splitOk)) h
theorem get_at {α : Type} {l : List α} {i : Nat} (h : i < l.length) : ∃ x, l[i]? = some x := Go.Abs.get_at h
theorem t22 : T 22 = some ⟨.ret, [], 0, .one, some splitO⟩ := rfl
end Go.Proofs.YtaaajjinpppgeaaDoor
namespace Go.Proofs.YtaaajjinpppgeaaDoor
open Go Go.Abs
set_option maxRecDepth 100000
def F3 : EF := ⟨(.seq (.region [(.op .mv [(.const (.bool false))] (some 2) true)] false) (.seq (.seq (.region [(.op .mv [(.tmp 0)] (some 11) true),(.op .lenStr [(.tmp 11)] (some 12) true),(.op (.bin .gtr) [(.tmp 12),(.const (.int .i64 1048576))] (some 13) true)] false) (.cond (.tmp 13) (.seq (.region [(.op .mv [(.const (.bool true))] (some 2) true)] false) .ret) .skip)) (.seq (.region [(.op .mv [(.tmp 0)] (some 15) true),(.pc (.const (.fn 5 [])) [(.tmp 15)] (some 16) true),(.op .mv [(.tmp 16)] (some 14) true),(.op (.ext 0) [(.tmp 14)] (some 17) true),(.op (.ext 1) [(.tmp 14)] (some 18) true),(.op .mv [(.tmp 17)] (some 3) true),(.op .mv [(.tmp 18)] (some 4) true)] false) (.seq (.region [(.op .mv [(.tmp 0)] (some 20) true),(.pc (.const (.fn 6 [])) [(.tmp 20)] (some 21) true),(.op .mv [(.tmp 21)] (some 19) true),(.op (.ext 0) [(.tmp 19)] (some 22) true),(.op (.ext 1) [(.tmp 19)] (some 23) true),(.op .mv [(.tmp 22)] (some 5) true),(.op .mv [(.tmp 23)] (some 6) true)] false) (.seq (.seq (.region [(.op .mv [(.tmp 5)] (some 24) true),(.op .mv [(.tmp 3)] (some 25) true),(.pc (.const (.fn 7 [])) [(.tmp 24),(.tmp 25)] (some 26) true),(.op .not [(.tmp 26)] (some 27) true),(.op .mv [(.tmp 27)] (some 28) true),(.grp 28 false [(.op .mv [(.tmp 6)] (some 29) true),(.op .mv [(.tmp 4)] (some 30) true),(.op (.binB true) [(.tmp 29),(.tmp 30)] (some 31) true)] 31 32 true)] false) (.cond (.tmp 32) (.seq (.region [(.op .mv [(.const (.bool false))] (some 2) true)] false) .ret) .skip)) (.seq (.region [(.op .mv [(.const (.int .i64 1))] (some 7) true)] false) (.seq (.region [(.op .mv [(.tmp 5)] (some 33) true),(.op .mv [(.tmp 7)] (some 34) true),(.sc (.const (.fn 8 [])) [(.tmp 33),(.tmp 34)] (some 35) true),(.op .mv [(.tmp 35)] (some 7) true)] false) (.seq (.region [(.op .mv [(.const (.int .i64 1))] (some 8) true)] false) (.seq (.region [(.op .mv [(.tmp 5)] (some 36) true),(.op .mv [(.tmp 8)] (some 37) true),(.pc (.const (.fn 9 [])) [(.tmp 36),(.tmp 37)] (some 38) true),(.op .mv [(.tmp 38)] (some 8) true)] false) (.seq (.seq (.region [(.op .mv [(.tmp 8)] (some 39) true),(.op (.bin .lss) [(.tmp 39),(.const (.int .i64 0))] (some 40) true)] false) (.cond (.tmp 40) (.seq (.region [(.op .mv [(.const (.bool false))] (some 2) true)] false) .ret) .skip)) (.seq (.seq (.region [(.op .mv [(.tmp 8)] (some 41) true),(.op .mv [(.tmp 7)] (some 42) true),(.op (.bin .neq) [(.tmp 41),(.tmp 42)] (some 43) true)] false) (.cond (.tmp 43) (.seq (.region [(.op .mv [(.const (.bool false))] (some 2) true)] false) .ret) .skip)) (.seq (.region [(.op .mv [(.tmp 0)] (some 45) true),(.pc (.const (.fn 6 [])) [(.tmp 45)] (some 46) true),(.op .mv [(.tmp 46)] (some 44) true),(.op (.ext 0) [(.tmp 44)] (some 47) true),(.op (.ext 1) [(.tmp 44)] (some 48) true),(.op .mv [(.tmp 47)] (some 9) true),(.op .mv [(.tmp 48)] (some 10) true)] false) (.seq (.seq (.region [(.op .mv [(.tmp 9)] (some 49) true),(.op .mv [(.tmp 3)] (some 50) true),(.pc (.const (.fn 7 [])) [(.tmp 49),(.tmp 50)] (some 51) true),(.op .not [(.tmp 51)] (some 52) true),(.op .mv [(.tmp 52)] (some 53) true),(.grp 53 false [(.op .mv [(.tmp 10)] (some 54) true),(.op .mv [(.tmp 4)] (some 55) true),(.op (.binB true) [(.tmp 54),(.tmp 55)] (some 56) true)] 56 57 true)] false) (.cond (.tmp 57) (.seq (.region [(.op .mv [(.const (.bool false))] (some 2) true)] false) .ret) .skip)) (.seq (.region [(.op .mv [(.const (.int .i64 1))] (some 8) true)] false) (.seq (.region [(.op .mv [(.tmp 5)] (some 58) true),(.op .mv [(.tmp 8)] (some 59) true),(.pc (.const (.fn 9 [])) [(.tmp 58),(.tmp 59)] (some 60) true),(.op .mv [(.tmp 60)] (some 8) true)] false) (.seq (.seq (.region [(.op .mv [(.tmp 8)] (some 61) true),(.op (.bin .lss) [(.tmp 61),(.const (.int .i64 0))] (some 62) true)] false) (.cond (.tmp 62) (.seq (.region [(.op .mv [(.const (.bool false))] (some 2) true)] false) .ret) .skip)) (.seq (.seq (.region [(.op .mv [(.tmp 8)] (some 63) true),(.op .mv [(.tmp 7)] (some 64) true),(.op (.bin .neq) [(.tmp 63),(.tmp 64)] (some 65) true)] false) (.cond (.tmp 65) (.seq (.region [(.op .mv [(.const (.bool false))] (some 2) true)] false) .ret) .skip)) (.seq (.region [(.op .mv [(.const (.bool true))] (some 2) true)] false) .ret)))))))))))))))))),[(.tmp 2)],66,.one,none⟩
theorem t3 : T 3 = some F3 := tab Tryd.func3 (by kernel_rfl) rfl
def H5_8 : List Vw := [.lay 4 1, .tidy [0, 4, 5, 6] [(0, none), (4, none), (5, none), (6, none)]]
theorem h5_8 (b : Nat) (s : St) : vwL b H5_8 s = vwL b [.lay 4 1, .tidy [0, 4, 5, 6] [(0, none), (4, none), (5, none), (6, none)]] s := rfl
def L5_8 : EC := (.seq (.seq (.region [(.op .mv [(.tmp 6)] (some 20) true),(.op .mv [(.tmp 0)] (some 21) true),(.op .lenStr [(.tmp 21)] (some 22) true),(.op (.bin .leq) [(.tmp 20),(.tmp 22)] (some 23) true)] false) (.cond (.tmp 23) .skip (.exit 0))) (.seq (.block 1 (.seq (.seq (.region [(.op .mv [(.tmp 6)] (some 26) true),(.op .mv [(.tmp 0)] (some 27) true),(.op .lenStr [(.tmp 27)] (some 28) true),(.op (.bin .lss) [(.tmp 26),(.tmp 28)] (some 29) true),(.op .mv [(.tmp 29)] (some 30) true),(.grp 30 true [(.op .mv [(.tmp 0)] (some 31) true),(.op .mv [(.tmp 6)] (some 32) true),(.op .idxStr [(.tmp 31),(.tmp 32)] (some 33) true),(.op (.bin .neq) [(.tmp 33),(.const (.int .u8 47))] (some 34) true)] 34 35 true)] false) (.cond (.tmp 35) (.exit 1) .skip)) (.seq (.seq (.region [(.op .mv [(.tmp 0)] (some 36) true),(.op .mv [(.tmp 5)] (some 37) true),(.op .mv [(.tmp 6)] (some 38) true),(.op (.sliceStr true true) [(.tmp 36),(.tmp 37),(.tmp 38)] (some 39) true),(.pc (.const (.fn 20 [])) [(.tmp 39)] (some 40) true),(.op .not [(.tmp 40)] (some 41) true)] false) (.cond (.tmp 41) (.seq (.region [(.op (.bslice 1 0 (.str ⟨#[]⟩) []) [] (some 42) true),(.op .mv [(.tmp 42)] (some 2) true),(.op .mv [(.const (.bool false))] (some 3) true)] false) .ret) .skip)) (.seq (.region [(.op .mv [(.tmp 4)] (some 43) true),(.op .mv [(.tmp 0)] (some 44) true),(.op .mv [(.tmp 5)] (some 45) true),(.op .mv [(.tmp 6)] (some 46) true),(.op (.sliceStr true true) [(.tmp 44),(.tmp 45),(.tmp 46)] (some 47) true),(.op (.bslice 1 1 (.str ⟨#[]⟩) [0]) [(.tmp 47)] (some 48) true),(.op (.append 1 16) [(.tmp 43),(.tmp 48)] (some 49) true),(.op .mv [(.tmp 49)] (some 4) true)] false) (.region [(.op .mv [(.tmp 6)] (some 50) true),(.op (.bin .add) [(.tmp 50),(.const (.int .i64 1))] (some 51) true),(.op .mv [(.tmp 51)] (some 5) true)] false))))) (.region [(.op .mv [(.tmp 6)] (some 24) true),(.op (.bin .add) [(.tmp 24),(.const (.int .i64 1))] (some 25) true),(.op .mv [(.tmp 25)] (some 6) true)] false)))
def F5 : EF := ⟨(.seq (.region [(.op .mv [(.const .nil)] (some 2) true),(.op .mv [(.const (.bool false))] (some 3) true)] false) (.seq (.region [(.op (.bslice 1 0 (.str ⟨#[]⟩) []) [] (some 7) true),(.op .mv [(.tmp 7)] (some 4) true)] false) (.seq (.seq (.region [(.op .mv [(.tmp 0)] (some 8) true),(.op .lenStr [(.tmp 8)] (some 9) true),(.op (.bin .eql) [(.tmp 9),(.const (.int .i64 0))] (some 10) true),(.op .mv [(.tmp 10)] (some 11) true),(.grp 11 false [(.op .mv [(.tmp 0)] (some 12) true),(.op .idxStr [(.tmp 12),(.const (.int .i64 0))] (some 13) true),(.op (.bin .neq) [(.tmp 13),(.const (.int .u8 47))] (some 14) true)] 14 15 true)] false) (.cond (.tmp 15) (.seq (.region [(.op .mv [(.tmp 4)] (some 16) true),(.op .mv [(.tmp 16)] (some 2) true),(.op .mv [(.const (.bool false))] (some 3) true)] false) .ret) .skip)) (.seq (.seq (.region [(.op .mv [(.tmp 0)] (some 17) true),(.op (.bin .eql) [(.tmp 17),(.const (.str ⟨#[47]⟩))] (some 18) true)] false) (.cond (.tmp 18) (.seq (.region [(.op .mv [(.tmp 4)] (some 19) true),(.op .mv [(.tmp 19)] (some 2) true),(.op .mv [(.const (.bool true))] (some 3) true)] false) .ret) .skip)) (.seq (.region [(.op .mv [(.const (.int .i64 1))] (some 5) true)] false) (.seq (.seq (.region [(.op .mv [(.const (.int .i64 1))] (some 6) true)] false) (.block 0 (.loop H5_8 L5_8))) (.seq (.seq (.region [(.op .mv [(.tmp 4)] (some 52) true),(.op .len [(.tmp 52)] (some 53) true),(.op (.bin .gtr) [(.tmp 53),(.const (.int .i64 4))] (some 54) true)] false) (.cond (.tmp 54) (.seq (.region [(.op (.bslice 1 0 (.str ⟨#[]⟩) []) [] (some 55) true),(.op .mv [(.tmp 55)] (some 2) true),(.op .mv [(.const (.bool false))] (some 3) true)] false) .ret) .skip)) (.seq (.region [(.op .mv [(.tmp 4)] (some 56) true),(.op .mv [(.tmp 56)] (some 2) true),(.op .mv [(.const (.bool true))] (some 3) true)] false) .ret)))))))),[(.tmp 2),(.tmp 3)],57,(.agg [.row 1 .one,.one]),none⟩
theorem t5 : T 5 = some F5 := tab Tryd.func5 (by kernel_rfl) rfl
def H6_8 : List Vw := [.tidy [6, 20, 21, 22] [(6, none), (20, none), (21, none), (22, none)]]
theorem h6_8 (b : Nat) (s : St) : vwL b H6_8 s = vwL b [.tidy [6, 20, 21, 22] [(6, none), (20, none), (21, none), (22, none)]] s := rfl
def L6_8 : EC := (.seq (.region [(.op (.bin .lss) [(.tmp 22),(.tmp 21)] (some 23) true)] false) (.seq (.cond (.tmp 23) .skip (.exit 0)) (.seq (.block 1 (.seq (.region [(.op (.iaddr 1) [(.tmp 20),(.tmp 22)] (some 24) true),(.op .load1 [(.tmp 24)] (some 25) true),(.op .mv [(.tmp 25)] (some 8) true)] false) (.seq (.region [(.op .mv [(.tmp 8)] (some 26) true),(.pc (.const (.fn 23 [])) [(.tmp 26)] (some 27) true),(.op .not [(.tmp 27)] (some 28) true)] false) (.cond (.tmp 28) (.seq (.region [(.op .mv [(.const .nil)] (some 2) true),(.op .mv [(.const (.bool false))] (some 3) true)] false) .ret) .skip)))) (.region [(.op (.bin .add) [(.tmp 22),(.const (.int .i64 1))] (some 29) true),(.op .mv [(.tmp 29)] (some 22) true)] false))))
def F6 : EF := ⟨(.seq (.region [(.op .mv [(.const .nil)] (some 2) true),(.op .mv [(.const (.bool false))] (some 3) true)] false) (.seq (.region [(.op .mv [(.tmp 0)] (some 10) true),(.pc (.const (.fn 21 [])) [(.tmp 10),(.const (.str ⟨#[47]⟩))] (some 11) true),(.op .mv [(.tmp 11)] (some 9) true),(.op (.ext 0) [(.tmp 9)] (some 12) true),(.op (.ext 1) [(.tmp 9)] (some 13) true),(.op .mv [(.tmp 12)] (some 4) true),(.op .mv [(.tmp 13)] (some 5) true)] false) (.seq (.seq (.region [(.op .mv [(.tmp 5)] (some 14) true),(.op .not [(.tmp 14)] (some 15) true)] false) (.cond (.tmp 15) (.seq (.region [(.op .mv [(.const .nil)] (some 2) true),(.op .mv [(.const (.bool false))] (some 3) true)] false) .ret) .skip)) (.seq (.seq (.region [(.op .mv [(.tmp 4)] (some 16) true),(.op (.bin .eql) [(.tmp 16),(.const (.str ⟨#[]⟩))] (some 17) true)] false) (.cond (.tmp 17) (.seq (.region [(.op .mv [(.const .nil)] (some 2) true),(.op .mv [(.const (.bool true))] (some 3) true)] false) .ret) .skip)) (.seq (.region [(.op .mv [(.tmp 4)] (some 18) true),(.pc (.const (.fn 22 [])) [(.tmp 18),(.const (.str ⟨#[47]⟩))] (some 19) true),(.op .mv [(.tmp 19)] (some 6) true)] false) (.seq (.seq (.region [(.op .mv [(.tmp 6)] (some 20) true),(.op .len [(.tmp 20)] (some 21) true),(.op .mv [(.const (.int .i64 0))] (some 22) true)] false) (.block 0 (.loop H6_8 L6_8))) (.seq (.seq (.region [(.op .mv [(.tmp 6)] (some 30) true),(.op .len [(.tmp 30)] (some 31) true),(.op (.bin .gtr) [(.tmp 31),(.const (.int .i64 4))] (some 32) true)] false) (.cond (.tmp 32) (.seq (.region [(.op .mv [(.const .nil)] (some 2) true),(.op .mv [(.const (.bool false))] (some 3) true)] false) .ret) .skip)) (.seq (.region [(.op .mv [(.tmp 6)] (some 33) true),(.op .mv [(.tmp 33)] (some 2) true),(.op .mv [(.const (.bool true))] (some 3) true)] false) .ret)))))))),[(.tmp 2),(.tmp 3)],34,(.agg [.row 1 .one,.one]),none⟩
theorem t6 : T 6 = some F6 := tab Tryd.func6 (by kernel_rfl) rfl
def H7_4 : List Vw := [.tidy [0, 1, 5] [(0, none), (1, none), (5, none)]]
theorem h7_4 (b : Nat) (s : St) : vwL b H7_4 s = vwL b [.tidy [0, 1, 5] [(0, none), (1, none), (5, none)]] s := rfl
def L7_4 : EC := (.seq (.seq (.region [(.op .mv [(.tmp 5)] (some 11) true),(.op .mv [(.tmp 0)] (some 12) true),(.op .len [(.tmp 12)] (some 13) true),(.op (.bin .lss) [(.tmp 11),(.tmp 13)] (some 14) true)] false) (.cond (.tmp 14) .skip (.exit 0))) (.seq (.block 1 (.seq (.region [(.op .mv [(.tmp 0)] (some 17) false),(.op .mv [(.tmp 5)] (some 18) false),(.op (.iaddr 1) [(.tmp 17),(.tmp 18)] (some 19) false),(.op .load1 [(.tmp 19)] (some 20) false),(.op .mv [(.tmp 1)] (some 21) false),(.op .mv [(.tmp 5)] (some 22) false),(.op (.iaddr 1) [(.tmp 21),(.tmp 22)] (some 23) false),(.op .load1 [(.tmp 23)] (some 24) false),(.op (.bin .neq) [(.tmp 20),(.tmp 24)] (some 25) true)] true) (.cond (.tmp 25) (.seq (.region [(.op .mv [(.const (.bool false))] (some 4) true)] false) .ret) .skip))) (.region [(.op .mv [(.tmp 5)] (some 15) true),(.op (.bin .add) [(.tmp 15),(.const (.int .i64 1))] (some 16) true),(.op .mv [(.tmp 16)] (some 5) true)] false)))
def F7 : EF := ⟨(.seq (.region [(.op .mv [(.const (.bool false))] (some 4) true)] false) (.seq (.seq (.region [(.op .mv [(.tmp 0)] (some 6) true),(.op .len [(.tmp 6)] (some 7) true),(.op .mv [(.tmp 1)] (some 8) true),(.op .len [(.tmp 8)] (some 9) true),(.op (.bin .neq) [(.tmp 7),(.tmp 9)] (some 10) true)] false) (.cond (.tmp 10) (.seq (.region [(.op .mv [(.const (.bool false))] (some 4) true)] false) .ret) .skip)) (.seq (.seq (.region [(.op .mv [(.const (.int .i64 0))] (some 5) true)] false) (.block 0 (.loop H7_4 L7_4))) (.seq (.region [(.op .mv [(.const (.bool true))] (some 4) true)] false) .ret)))),[(.tmp 4)],26,.one,none⟩
theorem t7 : T 7 = some F7 := tab Tryd.func7 (by kernel_rfl) rfl
def H8_2 : List Vw := [.tidy [0, 1, 5] [(0, none), (1, none), (5, none)]]
theorem h8_2 (b : Nat) (s : St) : vwL b H8_2 s = vwL b [.tidy [0, 1, 5] [(0, none), (1, none), (5, none)]] s := rfl
def L8_2 : EC := (.seq (.seq (.region [(.op .mv [(.tmp 5)] (some 6) true),(.op .mv [(.tmp 0)] (some 7) true),(.op .len [(.tmp 7)] (some 8) true),(.op (.bin .lss) [(.tmp 6),(.tmp 8)] (some 9) true)] false) (.cond (.tmp 9) .skip (.exit 0))) (.seq (.block 1 (.seq (.region [(.op .mv [(.tmp 0)] (some 12) true),(.op .mv [(.tmp 5)] (some 13) true),(.op .mv [(.tmp 1)] (some 14) true),(.pc (.const (.fn 24 [])) [(.tmp 14)] (some 15) true),(.op (.iaddr 1) [(.tmp 12),(.tmp 13)] (some 16) true),(.op .store1 [(.tmp 16),(.tmp 15)] none true)] false) (.region [(.op .mv [(.tmp 1)] (some 17) true),(.op (.bin .add) [(.tmp 17),(.const (.int .i64 1))] (some 18) true),(.op .mv [(.tmp 18)] (some 1) true)] false))) (.region [(.op .mv [(.tmp 5)] (some 10) true),(.op (.bin .add) [(.tmp 10),(.const (.int .i64 1))] (some 11) true),(.op .mv [(.tmp 11)] (some 5) true)] false)))
def F8 : EF := ⟨(.seq (.region [(.op .mv [(.const (.int .i64 0))] (some 4) true)] false) (.seq (.seq (.region [(.op .mv [(.const (.int .i64 0))] (some 5) true)] false) (.block 0 (.loop H8_2 L8_2))) (.seq (.region [(.op .mv [(.tmp 1)] (some 19) true),(.op .mv [(.tmp 19)] (some 4) true)] false) .ret))),[(.tmp 4)],20,.one,none⟩
theorem t8 : T 8 = some F8 := tab Tryd.func8 (by kernel_rfl) rfl
def H9_2 : List Vw := [.tidy [0, 1, 5] [(0, none), (1, none), (5, none)]]
theorem h9_2 (b : Nat) (s : St) : vwL b H9_2 s = vwL b [.tidy [0, 1, 5] [(0, none), (1, none), (5, none)]] s := rfl
def L9_2 : EC := (.seq (.seq (.region [(.op .mv [(.tmp 5)] (some 6) true),(.op .mv [(.tmp 0)] (some 7) true),(.op .len [(.tmp 7)] (some 8) true),(.op (.bin .lss) [(.tmp 6),(.tmp 8)] (some 9) true)] false) (.cond (.tmp 9) .skip (.exit 0))) (.seq (.block 1 (.seq (.seq (.region [(.op .mv [(.tmp 0)] (some 12) false),(.op .mv [(.tmp 5)] (some 13) false),(.op (.iaddr 1) [(.tmp 12),(.tmp 13)] (some 14) false),(.op .load1 [(.tmp 14)] (some 15) false),(.op .mv [(.tmp 1)] (some 16) false),(.pc (.const (.fn 24 [])) [(.tmp 16)] (some 17) false),(.op (.bin .neq) [(.tmp 15),(.tmp 17)] (some 18) true)] true) (.cond (.tmp 18) (.seq (.region [(.op .mv [(.const (.int .i64 (-1)))] (some 4) true)] false) .ret) .skip)) (.region [(.op .mv [(.tmp 1)] (some 19) true),(.op (.bin .add) [(.tmp 19),(.const (.int .i64 1))] (some 20) true),(.op .mv [(.tmp 20)] (some 1) true)] false))) (.region [(.op .mv [(.tmp 5)] (some 10) true),(.op (.bin .add) [(.tmp 10),(.const (.int .i64 1))] (some 11) true),(.op .mv [(.tmp 11)] (some 5) true)] false)))
def F9 : EF := ⟨(.seq (.region [(.op .mv [(.const (.int .i64 0))] (some 4) true)] false) (.seq (.seq (.region [(.op .mv [(.const (.int .i64 0))] (some 5) true)] false) (.block 0 (.loop H9_2 L9_2))) (.seq (.region [(.op .mv [(.tmp 1)] (some 21) true),(.op .mv [(.tmp 21)] (some 4) true)] false) .ret))),[(.tmp 4)],22,.one,none⟩
theorem t9 : T 9 = some F9 := tab Tryd.func9 (by kernel_rfl) rfl
def H20_2 : List Vw := [.tidy [0, 3] [(0, none), (3, none)]]
theorem h20_2 (b : Nat) (s : St) : vwL b H20_2 s = vwL b [.tidy [0, 3] [(0, none), (3, none)]] s := rfl
def L20_2 : EC := (.seq (.seq (.region [(.op .mv [(.tmp 3)] (some 4) true),(.op .mv [(.tmp 0)] (some 5) true),(.op .lenStr [(.tmp 5)] (some 6) true),(.op (.bin .lss) [(.tmp 4),(.tmp 6)] (some 7) true)] false) (.cond (.tmp 7) .skip (.exit 0))) (.seq (.block 1 (.seq (.region [(.op .mv [(.tmp 0)] (some 10) true),(.op .mv [(.tmp 3)] (some 11) true),(.op .idxStr [(.tmp 10),(.tmp 11)] (some 12) true),(.op (.bin .lss) [(.tmp 12),(.const (.int .u8 97))] (some 13) true),(.op .mv [(.tmp 13)] (some 14) true),(.grp 14 false [(.op .mv [(.tmp 0)] (some 15) true),(.op .mv [(.tmp 3)] (some 16) true),(.op .idxStr [(.tmp 15),(.tmp 16)] (some 17) true),(.op (.bin .gtr) [(.tmp 17),(.const (.int .u8 122))] (some 18) true)] 18 19 true),(.op .mv [(.tmp 19)] (some 20) true),(.grp 20 true [(.op .mv [(.tmp 0)] (some 21) true),(.op .mv [(.tmp 3)] (some 22) true),(.op .idxStr [(.tmp 21),(.tmp 22)] (some 23) true),(.op (.bin .lss) [(.tmp 23),(.const (.int .u8 48))] (some 24) true),(.op .mv [(.tmp 24)] (some 25) true),(.grp 25 false [(.op .mv [(.tmp 0)] (some 26) true),(.op .mv [(.tmp 3)] (some 27) true),(.op .idxStr [(.tmp 26),(.tmp 27)] (some 28) true),(.op (.bin .gtr) [(.tmp 28),(.const (.int .u8 57))] (some 29) true)] 29 30 true)] 30 31 true)] false) (.cond (.tmp 31) (.seq (.region [(.op .mv [(.const (.bool false))] (some 2) true)] false) .ret) .skip))) (.region [(.op .mv [(.tmp 3)] (some 8) true),(.op (.bin .add) [(.tmp 8),(.const (.int .i64 1))] (some 9) true),(.op .mv [(.tmp 9)] (some 3) true)] false)))
def F20 : EF := ⟨(.seq (.region [(.op .mv [(.const (.bool false))] (some 2) true)] false) (.seq (.seq (.region [(.op .mv [(.const (.int .i64 0))] (some 3) true)] false) (.block 0 (.loop H20_2 L20_2))) (.seq (.region [(.op .mv [(.tmp 0)] (some 32) true),(.op .lenStr [(.tmp 32)] (some 33) true),(.pc (.const (.fn 51 [])) [(.tmp 33),(.const (.int .i64 1)),(.const (.int .i64 6))] (some 34) true),(.op .mv [(.tmp 34)] (some 2) true)] false) .ret))),[(.tmp 2)],35,.one,none⟩
theorem t20 : T 20 = some F20 := tab Tryd.func20 (by kernel_rfl) rfl
def F21 : EF := ⟨(.seq (.region [(.op .mv [(.const (.str ⟨#[]⟩))] (some 4) true),(.op .mv [(.const (.bool false))] (some 5) true)] false) (.seq (.region [(.op .mv [(.tmp 0)] (some 6) true),(.op .mv [(.tmp 1)] (some 7) true),(.pc (.const (.fn 52 [])) [(.tmp 6),(.tmp 7)] (some 8) true),(.op (.ext 0) [(.tmp 8)] (some 9) true),(.op (.ext 1) [(.tmp 8)] (some 10) true),(.op .mv [(.tmp 9)] (some 4) true),(.op .mv [(.tmp 10)] (some 5) true)] false) .ret)),[(.tmp 4),(.tmp 5)],11,.one,none⟩
theorem t21 : T 21 = some F21 := tab Tryd.func21 (by kernel_rfl) rfl
def H23_2 : List Vw := [.tidy [0, 5, 6] [(0, none), (5, none), (6, none)]]
theorem h23_2 (b : Nat) (s : St) : vwL b H23_2 s = vwL b [.tidy [0, 5, 6] [(0, none), (5, none), (6, none)]] s := rfl
def L23_2 : EC := (.seq (.region [(.op (.bin .lss) [(.tmp 6),(.tmp 5)] (some 7) true)] false) (.seq (.cond (.tmp 7) .skip (.exit 0)) (.seq (.block 1 (.seq (.region [(.op .mv [(.tmp 6)] (some 8) true),(.op .mv [(.tmp 8)] (some 3) true)] false) (.seq (.region [(.op .mv [(.tmp 0)] (some 9) true),(.op .mv [(.tmp 3)] (some 10) true),(.op .idxStr [(.tmp 9),(.tmp 10)] (some 11) true),(.op (.conv .i64) [(.tmp 11)] (some 12) true),(.pc (.const (.fn 48 [])) [(.tmp 12),(.const (.int .i64 97)),(.const (.int .i64 122))] (some 13) true),(.op .not [(.tmp 13)] (some 14) true),(.op .mv [(.tmp 14)] (some 15) true),(.grp 15 true [(.op .mv [(.tmp 0)] (some 16) true),(.op .mv [(.tmp 3)] (some 17) true),(.op .idxStr [(.tmp 16),(.tmp 17)] (some 18) true),(.op (.conv .i64) [(.tmp 18)] (some 19) true),(.pc (.const (.fn 48 [])) [(.tmp 19),(.const (.int .i64 48)),(.const (.int .i64 57))] (some 20) true),(.op .not [(.tmp 20)] (some 21) true)] 21 22 true)] false) (.cond (.tmp 22) (.seq (.region [(.op .mv [(.const (.bool false))] (some 2) true)] false) .ret) .skip)))) (.region [(.op (.bin .add) [(.tmp 6),(.const (.int .i64 1))] (some 23) true),(.op .mv [(.tmp 23)] (some 6) true)] false))))
def F23 : EF := ⟨(.seq (.region [(.op .mv [(.const (.bool false))] (some 2) true)] false) (.seq (.seq (.region [(.op .mv [(.tmp 0)] (some 4) true),(.op .lenStr [(.tmp 4)] (some 5) true),(.op .mv [(.const (.int .i64 0))] (some 6) true)] false) (.block 0 (.loop H23_2 L23_2))) (.seq (.region [(.op .mv [(.tmp 0)] (some 24) true),(.op .lenStr [(.tmp 24)] (some 25) true),(.pc (.const (.fn 48 [])) [(.tmp 25),(.const (.int .i64 1)),(.const (.int .i64 6))] (some 26) true),(.op .mv [(.tmp 26)] (some 2) true)] false) .ret))),[(.tmp 2)],27,.one,none⟩
theorem t23 : T 23 = some F23 := tab Tryd.func23 (by kernel_rfl) rfl
def H24_4 : List Vw := [.tidy [0, 3] [(0, none), (3, none)]]
theorem h24_4 (b : Nat) (s : St) : vwL b H24_4 s = vwL b [.tidy [0, 3] [(0, none), (3, none)]] s := rfl
def L24_4 : EC := (.seq (.seq (.region [(.op .mv [(.tmp 0)] (some 6) true),(.op (.bin .gtr) [(.tmp 6),(.const (.int .i64 0))] (some 7) true)] false) (.cond (.tmp 7) .skip (.exit 0))) (.block 1 (.seq (.region [(.op .mv [(.tmp 0)] (some 8) true),(.op (.bin .rem) [(.tmp 8),(.const (.int .i64 10))] (some 9) true),(.op (.bin .add) [(.const (.int .i64 48)),(.tmp 9)] (some 10) true),(.op (.conv .u8) [(.tmp 10)] (some 11) true),(.op (.bslice 1 1 (.int .u8 0) [0]) [(.tmp 11)] (some 12) true),(.op .b2s [(.tmp 12)] (some 13) true),(.op .mv [(.tmp 3)] (some 14) true),(.op (.bin .add) [(.tmp 13),(.tmp 14)] (some 15) true),(.op .mv [(.tmp 15)] (some 3) true)] false) (.region [(.op .mv [(.tmp 0)] (some 16) true),(.op (.bin .quo) [(.tmp 16),(.const (.int .i64 10))] (some 17) true),(.op .mv [(.tmp 17)] (some 0) true)] false))))
def F24 : EF := ⟨(.seq (.region [(.op .mv [(.const (.str ⟨#[]⟩))] (some 2) true)] false) (.seq (.seq (.region [(.op .mv [(.tmp 0)] (some 4) true),(.op (.bin .leq) [(.tmp 4),(.const (.int .i64 0))] (some 5) true)] false) (.cond (.tmp 5) (.seq (.region [(.op .mv [(.const (.str ⟨#[109,48]⟩))] (some 2) true)] false) .ret) .skip)) (.seq (.region [(.op .mv [(.const (.str ⟨#[]⟩))] (some 3) true)] false) (.seq (.block 0 (.loop H24_4 L24_4)) (.seq (.region [(.op .mv [(.tmp 3)] (some 18) true),(.op (.bin .add) [(.const (.str ⟨#[109]⟩)),(.tmp 18)] (some 19) true),(.op .mv [(.tmp 19)] (some 2) true)] false) .ret))))),[(.tmp 2)],20,.one,none⟩
theorem t24 : T 24 = some F24 := tab Tryd.func24 (by kernel_rfl) rfl
def F48 : EF := ⟨(.seq (.region [(.op .mv [(.const (.bool false))] (some 6) true)] false) (.seq (.region [(.op .mv [(.tmp 0)] (some 7) true),(.op .mv [(.tmp 1)] (some 8) true),(.op (.bin .geq) [(.tmp 7),(.tmp 8)] (some 9) true),(.op .mv [(.tmp 9)] (some 10) true),(.grp 10 true [(.op .mv [(.tmp 0)] (some 11) true),(.op .mv [(.tmp 2)] (some 12) true),(.op (.bin .leq) [(.tmp 11),(.tmp 12)] (some 13) true)] 13 14 true),(.op .mv [(.tmp 14)] (some 6) true)] false) .ret)),[(.tmp 6)],15,.one,none⟩
theorem t48 : T 48 = some F48 := tab Tryd.func48 (by kernel_rfl) rfl
def F51 : EF := ⟨(.seq (.region [(.op .mv [(.const (.bool false))] (some 6) true)] false) (.seq (.region [(.op .mv [(.tmp 0)] (some 7) true),(.op .mv [(.tmp 1)] (some 8) true),(.op (.bin .geq) [(.tmp 7),(.tmp 8)] (some 9) true),(.op .mv [(.tmp 9)] (some 10) true),(.grp 10 true [(.op .mv [(.tmp 0)] (some 11) true),(.op .mv [(.tmp 2)] (some 12) true),(.op (.bin .leq) [(.tmp 11),(.tmp 12)] (some 13) true)] 13 14 true),(.op .mv [(.tmp 14)] (some 6) true)] false) .ret)),[(.tmp 6)],15,.one,none⟩
theorem t51 : T 51 = some F51 := tab Tryd.func51 (by kernel_rfl) rfl
def F52 : EF := ⟨(.seq (.region [(.op .mv [(.const (.str ⟨#[]⟩))] (some 4) true),(.op .mv [(.const (.bool false))] (some 5) true)] false) (.seq (.seq (.region [(.op .mv [(.tmp 0)] (some 6) true),(.op .mv [(.tmp 1)] (some 7) true),(.pc (.const (.fn 84 [])) [(.tmp 6),(.tmp 7)] (some 8) true),(.op .not [(.tmp 8)] (some 9) true)] false) (.cond (.tmp 9) (.seq (.region [(.op .mv [(.tmp 0)] (some 10) true),(.op .mv [(.tmp 10)] (some 4) true),(.op .mv [(.const (.bool false))] (some 5) true)] false) .ret) .skip)) (.seq (.region [(.op .mv [(.tmp 0)] (some 11) true),(.op .mv [(.tmp 1)] (some 12) true),(.op .lenStr [(.tmp 12)] (some 13) true),(.op (.sliceStr true false) [(.tmp 11),(.tmp 13)] (some 14) true),(.op .mv [(.tmp 14)] (some 4) true),(.op .mv [(.const (.bool true))] (some 5) true)] false) .ret))),[(.tmp 4),(.tmp 5)],15,.one,none⟩
theorem t52 : T 52 = some F52 := tab Tryd.func52 (by kernel_rfl) rfl
def F84 : EF := ⟨(.seq (.region [(.op .mv [(.const (.bool false))] (some 4) true)] false) (.seq (.region [(.op .mv [(.tmp 0)] (some 5) true),(.op .lenStr [(.tmp 5)] (some 6) true),(.op .mv [(.tmp 1)] (some 7) true),(.op .lenStr [(.tmp 7)] (some 8) true),(.op (.bin .geq) [(.tmp 6),(.tmp 8)] (some 9) true),(.op .mv [(.tmp 9)] (some 10) true),(.grp 10 true [(.op .mv [(.tmp 0)] (some 11) true),(.op .mv [(.tmp 1)] (some 12) true),(.op .lenStr [(.tmp 12)] (some 13) true),(.op (.sliceStr false true) [(.tmp 11),(.tmp 13)] (some 14) true),(.op .mv [(.tmp 1)] (some 15) true),(.op (.bin .eql) [(.tmp 14),(.tmp 15)] (some 16) true)] 16 17 true),(.op .mv [(.tmp 17)] (some 4) true)] false) .ret)),[(.tmp 4)],18,.one,none⟩
theorem t84 : T 84 = some F84 := tab Tryd.func84 (by kernel_rfl) rfl
end Go.Proofs.YtaaajjinpppgeaaDoor
namespace Go.Proofs.YtaaajjinpppgeaaDoor
open Go Go.Abs
set_option maxRecDepth 100000
def iv (z : Int) : AV := .int .i64 z
def bv (b : Bool) : AV := .bool b
theorem iv_cool (x : Int) : coolX (iv x) = true := rfl
theorem iv_len (x : Int) : (iv x).cells.length = 1 := rfl
theorem iv_mi (g : Bool → Nat → Nat → Nat → AV) (l : List Int) : mapIdL g (l.map iv) = l.map iv := mi_map g iv l iv_cool
theorem iv_is (u : Bool → Nat → Nat → Nat → List Nat) (l : List Int) : idsL u (l.map iv) = [] := is_map u iv l iv_cool
theorem iv_coR (l : List Int) : coolR 1 (l.map iv) = true := coR_map 1 iv l iv_len iv_cool
theorem iv_ice (x : Int) : ice (iv x) = iv x := rfl
theorem iv_ic (l : List Int) : iceL (l.map iv) = l.map iv := by rw [ice_m]; exact List.map_congr_left fun x _ => iv_ice x
theorem iv_rf (x : Int) : (iv x).roFree = true := rfl
theorem iv_rfL (l : List Int) : roFreeL (l.map iv) = true := rf_map iv l iv_rf
theorem iv_no (x : Int) : (iv x).cells.all noOwnC = true := rfl
theorem iv_noL (l : List Int) : (l.map iv).all (fun x => x.cells.all noOwnC) = true := no_map iv l iv_no
attribute [go_sem] iv_mi iv_is iv_coR iv_ic iv_ice iv_rfL iv_noL
theorem bv_cool (x : Bool) : coolX (bv x) = true := rfl
theorem bv_len (x : Bool) : (bv x).cells.length = 1 := rfl
theorem bv_mi (g : Bool → Nat → Nat → Nat → AV) (l : List Bool) : mapIdL g (l.map bv) = l.map bv := mi_map g bv l bv_cool
theorem bv_is (u : Bool → Nat → Nat → Nat → List Nat) (l : List Bool) : idsL u (l.map bv) = [] := is_map u bv l bv_cool
theorem bv_coR (l : List Bool) : coolR 1 (l.map bv) = true := coR_map 1 bv l bv_len bv_cool
theorem bv_ice (x : Bool) : ice (bv x) = bv x := rfl
theorem bv_ic (l : List Bool) : iceL (l.map bv) = l.map bv := by rw [ice_m]; exact List.map_congr_left fun x _ => bv_ice x
theorem bv_rf (x : Bool) : (bv x).roFree = true := rfl
theorem bv_rfL (l : List Bool) : roFreeL (l.map bv) = true := rf_map bv l bv_rf
theorem bv_no (x : Bool) : (bv x).cells.all noOwnC = true := rfl
theorem bv_noL (l : List Bool) : (l.map bv).all (fun x => x.cells.all noOwnC) = true := no_map bv l bv_no
attribute [go_sem] bv_mi bv_is bv_coR bv_ic bv_ice bv_rfL bv_noL
structure Slt where
  name : ByteArray
  ino : Int
  deriving DecidableEq
def slt (x : Slt) : AV := .agg [.str x.name, .int .i64 x.ino]
theorem slt_cool (x : Slt) : coolX (slt x) = true := rfl
theorem slt_len (x : Slt) : (slt x).cells.length = 2 := rfl
theorem slt_mi (g : Bool → Nat → Nat → Nat → AV) (l : List Slt) : mapIdL g (l.map slt) = l.map slt := mi_map g slt l slt_cool
theorem slt_is (u : Bool → Nat → Nat → Nat → List Nat) (l : List Slt) : idsL u (l.map slt) = [] := is_map u slt l slt_cool
theorem slt_coR (l : List Slt) : coolR 2 (l.map slt) = true := coR_map 2 slt l slt_len slt_cool
theorem slt_ice (x : Slt) : ice (slt x) = slt x := rfl
theorem slt_ic (l : List Slt) : iceL (l.map slt) = l.map slt := by rw [ice_m]; exact List.map_congr_left fun x _ => slt_ice x
theorem slt_rf (x : Slt) : (slt x).roFree = true := rfl
theorem slt_rfL (l : List Slt) : roFreeL (l.map slt) = true := rf_map slt l slt_rf
theorem slt_no (x : Slt) : (slt x).cells.all noOwnC = true := rfl
theorem slt_noL (l : List Slt) : (l.map slt).all (fun x => x.cells.all noOwnC) = true := no_map slt l slt_no
attribute [go_sem] slt_mi slt_is slt_coR slt_ic slt_ice slt_rfL slt_noL
structure Ino where
  kind : Int
  links : Int
  ptrs : List Int
  deriving DecidableEq
def ino (x : Ino) : AV := .agg [.int .i64 x.kind, .int .i64 x.links, .ro 1 (x.ptrs.map iv)]
def inoO (x : Ino) : AV := .agg [.int .i64 x.kind, .int .i64 x.links, .own 1 (x.ptrs.map iv)]
def Ino.sm (x : Ino) : Prop := x.ptrs.length ≤ 1048576
theorem ino_cool (x : Ino) : coolX (ino x) = true := rfl
theorem ino_len (x : Ino) : (ino x).cells.length = 3 := rfl
theorem ino_mi (g : Bool → Nat → Nat → Nat → AV) (l : List Ino) : mapIdL g (l.map ino) = l.map ino := mi_map g ino l ino_cool
theorem ino_is (u : Bool → Nat → Nat → Nat → List Nat) (l : List Ino) : idsL u (l.map ino) = [] := is_map u ino l ino_cool
theorem ino_coR (l : List Ino) : coolR 3 (l.map ino) = true := coR_map 3 ino l ino_len ino_cool
theorem ino_ice (x : Ino) : ice (ino x) = ino x := rfl
theorem ino_ic (l : List Ino) : iceL (l.map ino) = l.map ino := by rw [ice_m]; exact List.map_congr_left fun x _ => ino_ice x
theorem ino_no (x : Ino) : (ino x).cells.all noOwnC = true := rfl
theorem ino_noL (l : List Ino) : (l.map ino).all (fun x => x.cells.all noOwnC) = true := no_map ino l ino_no
attribute [go_sem] ino_mi ino_is ino_coR ino_ic ino_ice ino_noL
theorem inoO_cool (x : Ino) : coolX (inoO x) = true := by simp only [inoO, go_sem, Bool.and_self]
theorem inoO_len (x : Ino) : (inoO x).cells.length = 3 := rfl
theorem inoO_mi (g : Bool → Nat → Nat → Nat → AV) (l : List Ino) : mapIdL g (l.map inoO) = l.map inoO := mi_map g inoO l inoO_cool
theorem inoO_is (u : Bool → Nat → Nat → Nat → List Nat) (l : List Ino) : idsL u (l.map inoO) = [] := is_map u inoO l inoO_cool
theorem inoO_coR (l : List Ino) : coolR 3 (l.map inoO) = true := coR_map 3 inoO l inoO_len inoO_cool
theorem inoO_ice (x : Ino) : ice (inoO x) = ino x := by simp only [inoO, ino, go_sem]
theorem inoO_ic (l : List Ino) : iceL (l.map inoO) = l.map ino := by rw [ice_m]; exact List.map_congr_left fun x _ => inoO_ice x
theorem inoO_rf (x : Ino) : (inoO x).roFree = true := by simp [inoO, AV.roFree, roFreeL, iv_rfL]
theorem inoO_rfL (l : List Ino) : roFreeL (l.map inoO) = true := rf_map inoO l inoO_rf
attribute [go_sem] inoO_mi inoO_is inoO_coR inoO_ic inoO_ice inoO_rfL
structure Blk where
  dir : Bool
  slots : List Slt
  text : ByteArray
  deriving DecidableEq
def blk (x : Blk) : AV := .agg [.bool x.dir, .ro 2 (x.slots.map slt), .str x.text]
def blkO (x : Blk) : AV := .agg [.bool x.dir, .own 2 (x.slots.map slt), .str x.text]
def Blk.sm (x : Blk) : Prop := x.slots.length ≤ 1048576
theorem blk_cool (x : Blk) : coolX (blk x) = true := rfl
theorem blk_len (x : Blk) : (blk x).cells.length = 3 := rfl
theorem blk_mi (g : Bool → Nat → Nat → Nat → AV) (l : List Blk) : mapIdL g (l.map blk) = l.map blk := mi_map g blk l blk_cool
theorem blk_is (u : Bool → Nat → Nat → Nat → List Nat) (l : List Blk) : idsL u (l.map blk) = [] := is_map u blk l blk_cool
theorem blk_coR (l : List Blk) : coolR 3 (l.map blk) = true := coR_map 3 blk l blk_len blk_cool
theorem blk_ice (x : Blk) : ice (blk x) = blk x := rfl
theorem blk_ic (l : List Blk) : iceL (l.map blk) = l.map blk := by rw [ice_m]; exact List.map_congr_left fun x _ => blk_ice x
theorem blk_no (x : Blk) : (blk x).cells.all noOwnC = true := rfl
theorem blk_noL (l : List Blk) : (l.map blk).all (fun x => x.cells.all noOwnC) = true := no_map blk l blk_no
attribute [go_sem] blk_mi blk_is blk_coR blk_ic blk_ice blk_noL
theorem blkO_cool (x : Blk) : coolX (blkO x) = true := by simp only [blkO, go_sem, Bool.and_self]
theorem blkO_len (x : Blk) : (blkO x).cells.length = 3 := rfl
theorem blkO_mi (g : Bool → Nat → Nat → Nat → AV) (l : List Blk) : mapIdL g (l.map blkO) = l.map blkO := mi_map g blkO l blkO_cool
theorem blkO_is (u : Bool → Nat → Nat → Nat → List Nat) (l : List Blk) : idsL u (l.map blkO) = [] := is_map u blkO l blkO_cool
theorem blkO_coR (l : List Blk) : coolR 3 (l.map blkO) = true := coR_map 3 blkO l blkO_len blkO_cool
theorem blkO_ice (x : Blk) : ice (blkO x) = blk x := by simp only [blkO, blk, go_sem]
theorem blkO_ic (l : List Blk) : iceL (l.map blkO) = l.map blk := by rw [ice_m]; exact List.map_congr_left fun x _ => blkO_ice x
theorem blkO_rf (x : Blk) : (blkO x).roFree = true := by simp [blkO, AV.roFree, roFreeL, slt_rfL]
theorem blkO_rfL (l : List Blk) : roFreeL (l.map blkO) = true := rf_map blkO l blkO_rf
attribute [go_sem] blkO_mi blkO_is blkO_coR blkO_ic blkO_ice blkO_rfL
structure Dsk where
  used : List Bool
  taken : List Bool
  inos : List Ino
  blks : List Blk
  deriving DecidableEq
structure Dsk.sm (x : Dsk) : Prop where
  used : x.used.length ≤ 1048576
  taken : x.taken.length ≤ 1048576
  inos : x.inos.length ≤ 1048576
  blks : x.blks.length ≤ 1048576
  ino : ∀ y ∈ x.inos, y.sm
  blk : ∀ y ∈ x.blks, y.sm
end Go.Proofs.YtaaajjinpppgeaaDoor
namespace Go.Proofs.YtaaajjinpppgeaaDoor
open Go Go.Abs
set_option maxRecDepth 100000
theorem bdec (x y : Bool) : (x == y) = decide (x = y) := by cases x <;> cases y <;> rfl
theorem bne_dec (x y : Bool) : (x != y) = !decide (x = y) := by cases x <;> cases y <;> rfl
section
variable {s n f k : Nat}
end
end Go.Proofs.YtaaajjinpppgeaaDoor
namespace Go.Proofs.YtaaajjinpppgeaaDoor
open Go Go.Abs
set_option maxRecDepth 100000
structure Dp where
  id : Int
  kind : Int
  ino : Int
  ptr : Int
  block : Int
  slot : Int
  name : ByteArray
  bits : Bool
  other : Bool
  after : Int
  blocks : List Int
  deriving DecidableEq
def dp (x : Dp) : AV := .agg [.int .i64 x.id, .int .i64 x.kind, .int .i64 x.ino, .int .i64 x.ptr, .int .i64 x.block, .int .i64 x.slot, .str x.name, .bool x.bits, .bool x.other, .int .i64 x.after, .ro 1 (x.blocks.map iv)]
def dpO (x : Dp) : AV := .agg [.int .i64 x.id, .int .i64 x.kind, .int .i64 x.ino, .int .i64 x.ptr, .int .i64 x.block, .int .i64 x.slot, .str x.name, .bool x.bits, .bool x.other, .int .i64 x.after, .own 1 (x.blocks.map iv)]
def Dp.sm (x : Dp) : Prop := x.blocks.length ≤ 1048576
theorem dp_cool (x : Dp) : coolX (dp x) = true := rfl
theorem dp_len (x : Dp) : (dp x).cells.length = 11 := rfl
theorem dp_mi (g : Bool → Nat → Nat → Nat → AV) (l : List Dp) : mapIdL g (l.map dp) = l.map dp := mi_map g dp l dp_cool
theorem dp_is (u : Bool → Nat → Nat → Nat → List Nat) (l : List Dp) : idsL u (l.map dp) = [] := is_map u dp l dp_cool
theorem dp_coR (l : List Dp) : coolR 11 (l.map dp) = true := coR_map 11 dp l dp_len dp_cool
theorem dp_ice (x : Dp) : ice (dp x) = dp x := rfl
theorem dp_ic (l : List Dp) : iceL (l.map dp) = l.map dp := by rw [ice_m]; exact List.map_congr_left fun x _ => dp_ice x
theorem dp_no (x : Dp) : (dp x).cells.all noOwnC = true := rfl
theorem dp_noL (l : List Dp) : (l.map dp).all (fun x => x.cells.all noOwnC) = true := no_map dp l dp_no
attribute [go_sem] dp_mi dp_is dp_coR dp_ic dp_ice dp_noL
theorem dpO_cool (x : Dp) : coolX (dpO x) = true := by simp only [dpO, go_sem, Bool.and_self]
theorem dpO_len (x : Dp) : (dpO x).cells.length = 11 := rfl
theorem dpO_mi (g : Bool → Nat → Nat → Nat → AV) (l : List Dp) : mapIdL g (l.map dpO) = l.map dpO := mi_map g dpO l dpO_cool
theorem dpO_is (u : Bool → Nat → Nat → Nat → List Nat) (l : List Dp) : idsL u (l.map dpO) = [] := is_map u dpO l dpO_cool
theorem dpO_coR (l : List Dp) : coolR 11 (l.map dpO) = true := coR_map 11 dpO l dpO_len dpO_cool
theorem dpO_ice (x : Dp) : ice (dpO x) = dp x := by simp only [dpO, dp, go_sem]
theorem dpO_ic (l : List Dp) : iceL (l.map dpO) = l.map dp := by rw [ice_m]; exact List.map_congr_left fun x _ => dpO_ice x
theorem dpO_rf (x : Dp) : (dpO x).roFree = true := by simp [dpO, AV.roFree, roFreeL, iv_rfL]
theorem dpO_rfL (l : List Dp) : roFreeL (l.map dpO) = true := rf_map dpO l dpO_rf
attribute [go_sem] dpO_mi dpO_is dpO_coR dpO_ic dpO_ice dpO_rfL
structure Mm where
  disk : Dsk
  dirty : List Bool
  deps : List Dp
  next : Int
  deriving DecidableEq
structure Mm.sm (x : Mm) : Prop where
  disk : x.disk.sm
  dirty : x.dirty.length ≤ 1048576
  deps : x.deps.length ≤ 1048576
  dep : ∀ y ∈ x.deps, y.sm
end Go.Proofs.YtaaajjinpppgeaaDoor
namespace Go.Proofs.YtaaajjinpppgeaaDoor
open Go Go.Abs
set_option maxRecDepth 100000
def inside (x a b : Int) : Bool := decide (a ≤ x) && decide (x ≤ b)
theorem e51i (x a b : Int) : E T 51 [.int .i64 x, .int .i64 a, .int .i64 b] [] = some (.bool (inside x a b), []) := by
  rw [E_eq t51 (Nat.le_of_ble_eq_true rfl)]; simp only [F51, go_sem, seval]; rfl
theorem e48i (x a b : Int) : E T 48 [.int .i64 x, .int .i64 a, .int .i64 b] [] = some (.bool (inside x a b), []) := by
  rw [E_eq t48 (Nat.le_of_ble_eq_true rfl)]; simp only [F48, go_sem, seval]; rfl
end Go.Proofs.YtaaajjinpppgeaaDoor
namespace Go.Proofs.YtaaajjinpppgeaaDoor
open Go Go.Abs
section
variable {T : FuncId → Option EF} {b : Nat} {hd : List Vw} {x : EC} {α β : Type}
theorem XL_find (l : List α) (P : α → Bool) (S : Nat → St) (Q : Option Nat → AX × St → Prop)
    (step : ∀ i p, l[i]? = some p → i < l.length → P p = false → (∀ q ∈ l.take i, P q = false) → XG T b hd x (S i) = some (.normal, S (i + 1)))
    (hit : ∀ i p, l[i]? = some p → i < l.length → P p = true → (∀ q ∈ l.take i, P q = false) → Stops (XG T b hd x (S i)) (Q (some i)))
    (last : (∀ q ∈ l, P q = false) → Stops (XG T b hd x (S l.length)) (Q none)) : ∃ r, XL T b hd x (S 0) = some r ∧ Q (l.findIdx? P) r := by
  have key : ∀ k i, i + k = l.length → (∀ q ∈ l.take i, P q = false) → ∃ r, XL T b hd x (S i) = some r ∧ Q (((l.drop i).findIdx? P).map (· + i)) r := by
    intro k
    induction k with
    | zero =>
      intro i hi hp
      have : i = l.length := by omega
      subst this
      rw [List.take_length] at hp
      obtain ⟨r, h1, h2, h3⟩ := last hp
      exact ⟨r, XL_out h1 h2, by simpa using h3⟩
    | succ k ih =>
      intro i hi hp
      have hlt : i < l.length := by omega
      have hg : l[i]? = some l[i] := by simp [hlt]
      rw [List.drop_eq_getElem_cons hlt, List.findIdx?_cons]
      cases hP : P l[i] with
      | true =>
        obtain ⟨r, h1, h2, h3⟩ := hit i l[i] hg hlt hP hp
        exact ⟨r, XL_out h1 h2, by simpa [hP] using h3⟩
      | false =>
        have h1 := step i l[i] hg hlt hP hp
        obtain ⟨r, h3, h4⟩ := ih (i + 1) (by omega) (fun q hq => by
          rw [take_snoc hg, List.mem_append, List.mem_singleton] at hq
          rcases hq with hq | rfl
          · exact hp q hq
          · exact hP)
        refine ⟨r, by rw [XL_eq, h1]; exact h3, ?_⟩
        rw [if_neg (by simp)]
        have e : ((((l.drop (i + 1)).findIdx? P).map (· + 1)).map (· + i)) = ((l.drop (i + 1)).findIdx? P).map (· + (i + 1)) := by
          cases (l.drop (i + 1)).findIdx? P with
          | none => rfl
          | some n => simp only [Option.map_some]; congr 1; omega
        rw [e]; exact h4
  obtain ⟨r, h1, h2⟩ := key l.length 0 (by omega) (by simp)
  refine ⟨r, h1, ?_⟩
  have e : ((l.drop 0).findIdx? P).map (· + 0) = l.findIdx? P := by cases h : l.findIdx? P <;> simp [h]
  rw [e] at h2; exact h2
end
theorem XL_all {T : FuncId → Option EF} {b : Nat} {hd : List Vw} {x : EC} {α : Type} (l : List α) (P : α → Bool) (S : Nat → St) (Qx Qr : AX × St → Prop)
    (step : ∀ i p, l[i]? = some p → i < l.length → P p = true → (∀ q ∈ l.take i, P q = true) → XG T b hd x (S i) = some (.normal, S (i + 1)))
    (hit : ∀ i p, l[i]? = some p → i < l.length → P p = false → (∀ q ∈ l.take i, P q = true) → Stops (XG T b hd x (S i)) Qr)
    (last : (∀ q ∈ l, P q = true) → Stops (XG T b hd x (S l.length)) Qx) : ∃ r, XL T b hd x (S 0) = some r ∧ (l.all P = true ∧ Qx r ∨ l.all P = false ∧ Qr r) := by
  obtain ⟨r, h1, h2⟩ := XL_find (T := T) (b := b) (hd := hd) (x := x) l (fun p => !P p) S (fun o r => (o = none → Qx r) ∧ (o ≠ none → Qr r))
    (fun i p h1 h2 h3 h4 => step i p h1 h2 (by simpa using h3) (fun q hq => by simpa using h4 q hq))
    (fun i p h1 h2 h3 h4 => by
      obtain ⟨r, k1, k2, k3⟩ := hit i p h1 h2 (by simpa using h3) (fun q hq => by simpa using h4 q hq)
      exact ⟨r, k1, k2, by simp, fun _ => k3⟩)
    (fun h => by
      obtain ⟨r, k1, k2, k3⟩ := last (fun q hq => by simpa using h q hq)
      exact ⟨r, k1, k2, fun _ => k3, by simp⟩)
  refine ⟨r, h1, ?_⟩
  cases e : l.all P with
  | true => exact .inl ⟨rfl, h2.1 (by simpa using e)⟩
  | false => exact .inr ⟨rfl, h2.2 (by simpa using e)⟩
end Go.Proofs.YtaaajjinpppgeaaDoor
namespace Go.Proofs.YtaaajjinpppgeaaDoor
open Go Go.Abs
set_option maxRecDepth 100000
def sgn (c : UInt8) : Bool := inside c.toNat 97 122 || inside c.toNat 48 57
def nameOk (s : ByteArray) : Bool := s.data.toList.all sgn && inside s.size 1 6
theorem ba_len (s : ByteArray) : s.data.toList.length = s.size := Array.length_toList
theorem e20 (s : ByteArray) (hl : s.size ≤ maxLen) : E T 20 [.str s] [] = some (.bool (nameOk s), []) := by
  rw [E_eq t20 (Nat.le_of_ble_eq_true rfl)]
  have hn := ba_len s
  unfold maxLen at hl
  refine (XL_all (T := T) (b := 0) (hd := H20_2) (x := L20_2) s.data.toList sgn (fun i => ⟨[(0, .str s), (3, .int .i64 (i : Nat))], []⟩)
    (fun r => r.1 = .exit 0 ∧ lookA r.2.env 0 = .str s) (fun r => r.1 = .ret ∧ lookA r.2.env 2 = .bool false) ?step ?hit ?last).elim ?main
  case step =>
    intro i c hc hi hp _
    have hi1 : (i : Int) < (s.size : Int) := by omega
    have gc : s.data.toList.getD i 0 = c := by simp [List.getD, hc]
    simp only [XG, L20_2, h20_2, go_sem, seval, bnd_ite, hi1, Int.toNat_natCast, gc, Int.natCast_nonneg, w_i64 ((i : Int) + 1) (by omega)]
    have hf : ((decide ((c.toNat : Int) < 97) || decide (122 < (c.toNat : Int))) && (decide ((c.toNat : Int) < 48) || decide (57 < (c.toNat : Int)))) = false := by
      rw [← Bool.not_eq_true]; intro h
      simp only [sgn, inside, Bool.or_eq_true, Bool.and_eq_true, decide_eq_true_eq] at hp h
      omega
    rw [hf]; simp only [Bool.false_eq_true, if_false]
    rfl
  case hit =>
    intro i c hc hi hp _
    have hi1 : (i : Int) < (s.size : Int) := by omega
    have gc : s.data.toList.getD i 0 = c := by simp [List.getD, hc]
    have hf : ((decide ((c.toNat : Int) < 97) || decide (122 < (c.toNat : Int))) && (decide ((c.toNat : Int) < 48) || decide (57 < (c.toNat : Int)))) = true := by
      simp only [sgn, inside, Bool.or_eq_false_iff, Bool.and_eq_false_iff, decide_eq_false_iff_not] at hp
      simp only [Bool.or_eq_true, Bool.and_eq_true, decide_eq_true_eq]
      omega
    simp only [XG, L20_2, h20_2, go_sem, seval, bnd_ite, hi1, Int.toNat_natCast, gc, Int.natCast_nonneg, w_i64 ((i : Int) + 1) (by omega), hf, if_true]
    exact .mk (by simp) ⟨rfl, rfl⟩
  case last =>
    intro _
    simp only [XG, L20_2, h20_2, go_sem, seval, bnd_ite, hn, Int.lt_irrefl, decide_false]
    exact .mk (by simp) ⟨rfl, rfl⟩
  case main =>
  rintro ⟨y, e, m⟩ ⟨k1, k2⟩
  have hs : ((0 : Nat) : Int) = 0 := rfl
  simp only [hs] at k1
  unfold nameOk
  rcases k2 with ⟨h, k2, k3⟩ | ⟨h, k2, k3⟩ <;> simp only at k2 k3 <;> subst k2
  · simp only [F20, h20_2, go_sem, seval, bnd_ite, k1, k3, e51i, h, Bool.true_and]
  · simp only [F20, h20_2, go_sem, seval, bnd_ite, k1, k3, h, Bool.false_and]
theorem e23 (s : ByteArray) (hl : s.size ≤ maxLen) : E T 23 [.str s] [] = some (.bool (nameOk s), []) := by
  rw [E_eq t23 (Nat.le_of_ble_eq_true rfl)]
  have hn := ba_len s
  unfold maxLen at hl
  refine (XL_all (T := T) (b := 0) (hd := H23_2) (x := L23_2) s.data.toList sgn (fun i => ⟨[(0, .str s), (5, .int .i64 s.size), (6, .int .i64 (i : Nat))], []⟩)
    (fun r => r.1 = .exit 0 ∧ lookA r.2.env 0 = .str s) (fun r => r.1 = .ret ∧ lookA r.2.env 2 = .bool false) ?step ?hit ?last).elim ?main
  case step =>
    intro i c hc hi hp _
    have hi1 : (i : Int) < (s.size : Int) := by omega
    have gc : s.data.toList.getD i 0 = c := by simp [List.getD, hc]
    have hw : (c.toNat : Int) ≤ 255 := by have := c.toNat_lt; omega
    simp only [sgn] at hp
    have hf : (!inside (c.toNat : Int) 97 122 && !inside (c.toNat : Int) 48 57) = false := by
      rw [← Bool.not_or, hp]; rfl
    simp only [XG, L23_2, h23_2, go_sem, seval, bnd_ite, hi1, Int.toNat_natCast, gc, Int.natCast_nonneg, w_i64 (c.toNat : Int) (by omega), w_i64 ((i : Int) + 1) (by omega), e48i, hf, Bool.false_eq_true, if_false]
    rfl
  case hit =>
    intro i c hc hi hp _
    have hi1 : (i : Int) < (s.size : Int) := by omega
    have gc : s.data.toList.getD i 0 = c := by simp [List.getD, hc]
    have hw : (c.toNat : Int) ≤ 255 := by have := c.toNat_lt; omega
    simp only [sgn] at hp
    have hf : (!inside (c.toNat : Int) 97 122 && !inside (c.toNat : Int) 48 57) = true := by
      rw [← Bool.not_or, hp]; rfl
    simp only [XG, L23_2, h23_2, go_sem, seval, bnd_ite, hi1, Int.toNat_natCast, gc, Int.natCast_nonneg, w_i64 (c.toNat : Int) (by omega), w_i64 ((i : Int) + 1) (by omega), e48i, hf, if_true]
    exact .mk (by simp) ⟨rfl, rfl⟩
  case last =>
    intro _
    simp only [XG, L23_2, h23_2, go_sem, seval, bnd_ite, hn, Int.lt_irrefl, decide_false]
    exact .mk (by simp) ⟨rfl, rfl⟩
  case main =>
  rintro ⟨y, e, m⟩ ⟨k1, k2⟩
  have hs : ((0 : Nat) : Int) = 0 := rfl
  simp only [hs] at k1
  unfold nameOk
  rcases k2 with ⟨h, k2, k3⟩ | ⟨h, k2, k3⟩ <;> simp only at k2 k3 <;> subst k2
  · simp only [F23, h23_2, go_sem, seval, bnd_ite, k1, k3, e48i, h, Bool.true_and]
  · simp only [F23, h23_2, go_sem, seval, bnd_ite, k1, k3, h, Bool.false_and]
end Go.Proofs.YtaaajjinpppgeaaDoor
namespace Go.Proofs.YtaaajjinpppgeaaDoor
open Go Go.Abs
set_option maxRecDepth 100000
def marks {α : Type} (f : Nat → α) (l : List α) (i : Nat) : List α := (List.range i).map f ++ l.drop i
section
variable {α : Type} {f : Nat → α} {l : List α} {i : Nat}
theorem marks_0 : marks f l 0 = l := by simp [marks]
theorem marks_all : marks f l l.length = (List.range l.length).map f := by simp [marks]
theorem marks_len (h : i ≤ l.length) : (marks f l i).length = l.length := by simp [marks]; omega
theorem marks_get {x : α} (h : l[i]? = some x) : (marks f l i)[i]? = some x := by
  unfold marks
  rw [List.getElem?_append_right (by simp)]
  simp [h]
theorem marks_set (h : i < l.length) : (marks f l i).set i (f i) = marks f l (i + 1) := by
  unfold marks
  rw [List.set_append_right _ _ (by simp)]
  have e : i - ((List.range i).map f).length = 0 := by simp
  rw [e, List.drop_eq_getElem_cons h, List.set_cons_zero, List.range_succ, List.map_append, List.append_assoc]
  rfl
end
theorem set_map {α : Type} {f : α → AV} {l : List α} {i : Nat} {x : α} : (l.map f).set i (f x) = (l.set i x).map f := by rw [List.map_set]
theorem range_at {α : Type} (f : Nat → α) {n i : Nat} (h : i < n) : ((List.range n).map f)[i]? = some (f i) := by simp [h]
end Go.Proofs.YtaaajjinpppgeaaDoor
namespace Go.Proofs.YtaaajjinpppgeaaDoor
open Go Go.Abs
set_option maxRecDepth 100000
theorem e24' (k : Int) (h0 : 0 ≤ k) (hk : k ≤ 4611686018427387904) : ∃ s, E T 24 [.int .i64 k] [] = some (.str s, []) := by
  rw [E_eq t24 (Nat.le_of_ble_eq_true rfl)]
  simp only [F24, h24_4, go_sem, seval, bnd_ite]
  by_cases c1 : k ≤ 0
  · rw [if_pos c1]; exact ⟨_, rfl⟩
  rw [if_neg c1]
  refine (XL_inv (T := T) (b := 0) (hd := H24_4) (x := L24_4) (β := Int × ByteArray) (fun i a => ⟨[(0, .int .i64 a.1), (3, .str a.2)], []⟩)
    (fun i a => 0 ≤ a.1 ∧ a.1 + i ≤ k ∧ a.2.size ≤ i) k.toNat (fun r => r.1 = .exit 0 ∧ ∃ s : ByteArray, lookA r.2.env 3 = .str s ∧ (s.size : Int) ≤ k) ?step ?last 0 (k, ⟨#[]⟩) (by omega) ⟨h0, by simp, Nat.le_refl 0⟩).elim ?main
  case step =>
    intro i a hi ⟨hI1, hI2, hI3⟩
    by_cases hp : 0 < a.1
    · left
      have hq : a.1.tdiv 10 = a.1 / 10 := Int.tdiv_eq_ediv_of_nonneg hI1
      simp only [XG, L24_4, h24_4, go_sem, seval, bnd_ite, hp, decide_true, hq, w_i64 (a.1 / 10) (by omega)]
      have sz : ∀ c : UInt8, (⟨#[c]⟩ : ByteArray).size = 1 := fun _ => rfl
      rw [if_pos (by first | (rw [sz]; omega) | (simp only [List.size_toArray, List.length_cons, List.length_nil]; omega))]
      exact ⟨(_, _), rfl, by show 0 ≤ a.1 / 10; omega, by show a.1 / 10 + ((i + 1 : Nat) : Int) ≤ k; omega, by rw [ByteArray.size_append, sz]; omega⟩
    · right
      simp only [XG, L24_4, h24_4, go_sem, seval, bnd_ite, hp, decide_false, Bool.false_eq_true, if_false]
      exact .mk (by simp) ⟨rfl, a.2, rfl, by omega⟩
  case last =>
    intro a ⟨hI1, hI2, hI3⟩
    have hp : ¬ 0 < a.1 := by omega
    simp only [XG, L24_4, h24_4, go_sem, seval, bnd_ite, hp, decide_false, Bool.false_eq_true, if_false]
    exact .mk (by simp) ⟨rfl, a.2, rfl, by omega⟩
  case main =>
  rintro ⟨x, e, m⟩ ⟨h1, h2, h3, s, h4, h5⟩
  simp only at h1 h3 h4; subst h3
  have sz : ∀ c : UInt8, (⟨#[c]⟩ : ByteArray).size = 1 := fun _ => rfl
  simp only [h1, go_sem, seval, h4]
  rw [if_pos (by first | (rw [sz]; omega) | (simp only [List.size_toArray, List.length_cons, List.length_nil]; omega))]
  simp only [go_sem, seval]
  exact ⟨_, rfl⟩
noncomputable def mtext (k : Int) : ByteArray := match E T 24 [.int .i64 k] [] with
  | some (.str s, _) => s
  | _ => ⟨#[]⟩
theorem e24 (k : Int) (h0 : 0 ≤ k) (hk : k ≤ 4611686018427387904) : E T 24 [.int .i64 k] [] = some (.str (mtext k), []) := by
  obtain ⟨s, h⟩ := e24' k h0 hk
  unfold mtext; rw [h]
end Go.Proofs.YtaaajjinpppgeaaDoor
namespace Go.Proofs.YtaaajjinpppgeaaDoor
open Go Go.Abs
set_option maxRecDepth 100000
def ub (n : Int) : AV := .int .u8 (IntKind.u8.wrap n)
theorem ub_cool (n : Int) : coolX (ub n) = true := rfl
theorem ub_mi (g : Bool → Nat → Nat → Nat → AV) (l : List Int) : mapIdL g (l.map ub) = l.map ub := mi_map g ub l ub_cool
theorem ub_is (u : Bool → Nat → Nat → Nat → List Nat) (l : List Int) : idsL u (l.map ub) = [] := is_map u ub l ub_cool
attribute [go_sem] ub_mi ub_is
end Go.Proofs.YtaaajjinpppgeaaDoor
namespace Go.Proofs.YtaaajjinpppgeaaDoor
open Go Go.Abs
set_option maxRecDepth 100000
def sv (s : ByteArray) : AV := .str s
theorem sv_cool (x : ByteArray) : coolX (sv x) = true := rfl
theorem sv_len (x : ByteArray) : (sv x).cells.length = 1 := rfl
theorem sv_mi (g : Bool → Nat → Nat → Nat → AV) (l : List ByteArray) : mapIdL g (l.map sv) = l.map sv := mi_map g sv l sv_cool
theorem sv_is (u : Bool → Nat → Nat → Nat → List Nat) (l : List ByteArray) : idsL u (l.map sv) = [] := is_map u sv l sv_cool
theorem sv_coR (l : List ByteArray) : coolR 1 (l.map sv) = true := coR_map 1 sv l sv_len sv_cool
theorem sv_ice (x : ByteArray) : ice (sv x) = sv x := rfl
theorem sv_ic (l : List ByteArray) : iceL (l.map sv) = l.map sv := by rw [ice_m]; exact List.map_congr_left fun x _ => sv_ice x
theorem sv_rf (x : ByteArray) : (sv x).roFree = true := rfl
theorem sv_rfL (l : List ByteArray) : roFreeL (l.map sv) = true := rf_map sv l sv_rf
theorem sv_no (x : ByteArray) : (sv x).cells.all noOwnC = true := rfl
theorem sv_noL (l : List ByteArray) : (l.map sv).all (fun x => x.cells.all noOwnC) = true := no_map sv l sv_no
attribute [go_sem] sv_mi sv_is sv_coR sv_ic sv_ice sv_rfL sv_noL
theorem e7 (xs ys : List ByteArray) (ha : xs.length ≤ maxLen) : E T 7 [.ro 1 (xs.map sv), .ro 1 (ys.map sv)] [] = some (.bool (decide (xs = ys)), []) := by
  rw [E_eq t7 (Nat.le_of_ble_eq_true rfl)]
  simp only [F7, h7_4, go_sem, seval, bnd_ite]
  unfold maxLen at ha
  by_cases hl : xs.length = ys.length
  case neg =>
    have : xs ≠ ys := fun e => hl (by rw [e])
    simp [this, show ¬ (xs.length : Int) = ys.length by omega]
  refine (XL_inv (T := T) (b := 0) (hd := H7_4) (x := L7_4) (β := Unit) (fun i _ => ⟨[(0, .ro 1 (xs.map sv)), (1, .ro 1 (ys.map sv)), (5, .int .i64 (i : Nat))], []⟩)
    (fun i _ => xs.take i = ys.take i) xs.length (fun r => (r.1 = .exit 0 ∧ xs = ys) ∨ (r.1 = .ret ∧ lookA r.2.env 4 = .bool false ∧ xs ≠ ys)) ?step ?last 0 () (by omega) rfl).elim ?main
  case step =>
    intro i _ hi hI
    obtain ⟨p, hp⟩ := get_at hi
    obtain ⟨q, hq⟩ := get_at (show i < ys.length by omega)
    have hi1 : (i : Int) < (xs.length : Int) := by omega
    have hi2 : (i : Int) < (ys.length : Int) := by omega
    simp only [XG, L7_4, h7_4, go_sem, seval, bnd_ite, hi1, hi2, gD_map hp, gD_map hq, sv, bdec, bne_dec, Int.natCast_nonneg, w_i64 ((i : Int) + 1) (by omega)]
    by_cases he : p = q
    · left
      subst he
      exact ⟨(), by simp, by rw [take_eq_snoc hp hq]; exact ⟨hI, rfl⟩⟩
    · right
      have hne : xs ≠ ys := fun e => he (by rw [e] at hp; rw [hp] at hq; exact Option.some.inj hq)
      simp only [he, decide_false, Bool.not_false, if_true]
      exact .mk (by simp) (.inr ⟨rfl, rfl, hne⟩)
  case last =>
    intro _ hI
    have e : xs = ys := by rw [List.take_length] at hI; rw [hI, hl, List.take_length]
    simp only [XG, L7_4, h7_4, go_sem, seval, bnd_ite, Int.lt_irrefl, decide_false]
    exact .mk (by simp) (.inl ⟨rfl, e⟩)
  case main =>
  rintro ⟨x, st⟩ ⟨h1, h2, h3⟩
  have hs : (0 : Int) = ((0 : Nat) : Int) := rfl
  simp only [hl, decide_true, Bool.not_true, Bool.false_eq_true, if_false]
  rw [hs, h1]
  obtain ⟨e, m⟩ := st
  rcases h3 with ⟨hx, h4⟩ | ⟨hx, h4, h5⟩
  · simp only at hx; subst hx; subst h4
    simp only [go_sem, seval]; simp
  · simp only at hx h4; subst hx
    simp only [go_sem, seval, h4]; simp [h5]
end Go.Proofs.YtaaajjinpppgeaaDoor
namespace Go.Proofs.YtaaajjinpppgeaaDoor
open Go Go.Abs
set_option maxRecDepth 100000
def dvcSm (l : List ByteArray) : Prop := l.length ≤ 1048576
structure Fsy where
  mem : Mm
  units : List ByteArray
  deriving DecidableEq
structure Fsy.sm (x : Fsy) : Prop where
  mem : x.mem.sm
  dev : dvcSm x.units
end Go.Proofs.YtaaajjinpppgeaaDoor
namespace Go.Proofs.YtaaajjinpppgeaaDoor
open Go Go.Abs
set_option maxRecDepth 100000
noncomputable def mkT (k : Int) (n : Nat) : List ByteArray := (List.range n).map fun i => mtext (k + (i : Nat))
theorem mkT_len (k : Int) (n : Nat) : (mkT k n).length = n := by simp [mkT]
theorem e8 (l : List ByteArray) (k : Int) (h0 : 0 ≤ k) (hk : k ≤ 281474976710656) (hl : l.length ≤ 1048576) :
    E T 8 [.sl 0 0 l.length, .int .i64 k] [some (1, l.map sv)] = some (.int .i64 (k + l.length), [some (1, (mkT k l.length).map sv)]) := by
  rw [E_eq t8 (Nat.le_of_ble_eq_true rfl)]
  unfold mkT
  simp only [F8, h8_2, go_sem, seval, bnd_ite]
  refine (XL_inv (T := T) (b := 1) (hd := H8_2) (x := L8_2) (β := Unit) (fun i _ => ⟨[(0, .sl 0 0 l.length), (1, .int .i64 (k + (i : Nat))), (5, .int .i64 (i : Nat))], [some (1, (marks (fun i => mtext (k + (i : Nat))) l i).map sv)]⟩)
    (fun i _ => True) l.length (fun r => r.1 = .exit 0 ∧ r.2.mem = [some (1, (marks (fun i => mtext (k + (i : Nat))) l l.length).map sv)] ∧ lookA r.2.env 1 = .int .i64 (k + l.length)) ?step ?last 0 () (by omega) trivial).elim ?main
  case step =>
    intro i _ hi _
    obtain ⟨p, hp⟩ := get_at hi
    have hi1 : (i : Int) < (l.length : Int) := by omega
    left
    refine ⟨(), ?_, trivial⟩
    have ms := marks_set (f := fun i => mtext (k + (i : Nat))) hi
    have e1 := e24 (k + (i : Nat)) (by omega) (by omega)
    have sm : ∀ m : List ByteArray, (m.map sv).set i (AV.str (mtext (k + (i : Nat)))) = (m.set i (mtext (k + (i : Nat)))).map sv := fun m => set_map (f := sv)
    have hml : (marks (fun i => mtext (k + (i : Nat))) l i).length = l.length := marks_len (by omega)
    have gx : ((marks (fun i => mtext (k + (i : Nat))) l i).map sv).getD i .undef = AV.str p := gD_map (marks_get hp)
    simp only [XG, L8_2, h8_2, go_sem, seval, bnd_ite, hi1, hml, hi, gx, e1, Int.natCast_nonneg, w_i64 ((i : Int) + 1) (by omega), w_i64 (k + (i : Int) + 1) (by omega), sm, ms]
    rw [Int.add_assoc]; rfl
  case last =>
    intro _ _
    have hml : (marks (fun i => mtext (k + (i : Nat))) l l.length).length = l.length := marks_len (by omega)
    simp only [XG, L8_2, h8_2, go_sem, seval, bnd_ite, hml, Int.lt_irrefl, decide_false]
    exact .mk (by simp) ⟨rfl, rfl, rfl⟩
  case main =>
  rintro ⟨x, e, m⟩ ⟨h1, h2, h3, h4, h5⟩
  have hs : ((0 : Nat) : Int) = 0 := rfl
  rw [marks_0, hs, Int.add_zero] at h1
  simp only at h3 h4 h5; subst h3; subst h4
  simp only [h1, go_sem, seval, h5, marks_all]
theorem e9 (n : Nat) (k : Int) (h0 : 0 ≤ k) (hk : k ≤ 281474976710656) (hl : n ≤ 1048576) :
    E T 9 [.ro 1 ((mkT k n).map sv), .int .i64 k] [] = some (.int .i64 (k + n), []) := by
  rw [E_eq t9 (Nat.le_of_ble_eq_true rfl)]
  unfold mkT
  simp only [F9, h9_2, go_sem, seval, bnd_ite]
  generalize hL : ((List.range n).map fun i => mtext (k + (i : Nat))) = L
  have hln : L.length = n := by rw [← hL]; simp
  refine (XL_inv (T := T) (b := 0) (hd := H9_2) (x := L9_2) (β := Unit) (fun i _ => ⟨[(0, .ro 1 (L.map sv)), (1, .int .i64 (k + (i : Nat))), (5, .int .i64 (i : Nat))], []⟩)
    (fun i _ => True) n (fun r => r.1 = .exit 0 ∧ lookA r.2.env 1 = .int .i64 (k + n)) ?step ?last 0 () (by omega) trivial).elim ?main
  case step =>
    intro i _ hi _
    have hi1 : (i : Int) < (n : Int) := by omega
    have hat : L[i]? = some (mtext (k + (i : Nat))) := by rw [← hL]; exact range_at _ hi
    have e1 := e24 (k + (i : Nat)) (by omega) (by omega)
    left
    refine ⟨(), ?_, trivial⟩
    simp only [XG, L9_2, h9_2, go_sem, seval, bnd_ite, hln, hi1, hi, gD_map hat, sv, e1, decide_true, Bool.not_true, Bool.false_eq_true, if_false, Int.natCast_nonneg, w_i64 ((i : Int) + 1) (by omega), w_i64 (k + (i : Int) + 1) (by omega)]
    rw [Int.add_assoc]; rfl
  case last =>
    intro _ _
    simp only [XG, L9_2, h9_2, go_sem, seval, bnd_ite, hln, Int.lt_irrefl, decide_false]
    exact .mk (by simp) ⟨rfl, rfl⟩
  case main =>
  rintro ⟨x, e, m⟩ ⟨h1, h2, h3, h4⟩
  have hs : ((0 : Nat) : Int) = 0 := rfl
  rw [hs, Int.add_zero] at h1
  simp only at h3 h4; subst h3
  simp only [h1, go_sem, seval, h4]
end Go.Proofs.YtaaajjinpppgeaaDoor
namespace Go.Proofs.YtaaajjinpppgeaaDoor
open Go Go.Abs
set_option maxRecDepth 100000
theorem XL_to {T : FuncId → Option EF} {b : Nat} {hd : List Vw} {x : EC} {β γ : Type} (S : β → St) (I : β → Prop) (μ : β → Nat) (G : β → γ) (Q : γ → AX × St → Prop)
    (h : ∀ a, I a → (∃ a', XG T b hd x (S a) = some (.normal, S a') ∧ I a' ∧ μ a' < μ a ∧ G a' = G a) ∨ Stops (XG T b hd x (S a)) (Q (G a))) : ∀ a, I a → ∃ r, XL T b hd x (S a) = some r ∧ Q (G a) r := by
  have key : ∀ n a, μ a ≤ n → I a → ∃ r, XL T b hd x (S a) = some r ∧ Q (G a) r := by
    intro n
    induction n with
    | zero =>
      intro a hn ha
      rcases h a ha with ⟨a', _, _, h3, _⟩ | ⟨r, h1, h2, h3⟩
      · omega
      · exact ⟨r, XL_out h1 h2, h3⟩
    | succ n ih =>
      intro a hn ha
      rcases h a ha with ⟨a', h1, h2, h3, h4⟩ | ⟨r, h1, h2, h3⟩
      · obtain ⟨r, k1, k2⟩ := ih a' (by omega) h2
        refine ⟨r, ?_, h4 ▸ k2⟩
        rw [XL_eq, h1]; exact k1
      · exact ⟨r, XL_out h1 h2, h3⟩
  exact fun a => key (μ a) a (Nat.le_refl _)
def ba (l : List UInt8) : ByteArray := ⟨l.toArray⟩
theorem ba_ex (p : ByteArray) (i j : Nat) : p.extract i j = ba ((p.data.toList.take j).drop i) := by
  have h : (p.extract i j).data.toList = (p.data.toList.take j).drop i := by
    rw [ByteArray.data_extract, Array.toList_extract, List.extract_eq_drop_take', List.drop_take]
  unfold ba
  rw [← h]
def scanL (L : List UInt8) (a : Nat × Nat × List ByteArray) : Option (List ByteArray) :=
  if a.1 ≤ L.length then (if ((cutS 47 ((L.take a.1).drop a.2.1) (L.drop a.1)).map ba).all nameOk = true then some (a.2.2 ++ (cutS 47 ((L.take a.1).drop a.2.1) (L.drop a.1)).map ba) else none) else some a.2.2
theorem take_next {L : List UInt8} {i g : Nat} {b : UInt8} (h : L[i]? = some b) (hg : g ≤ i) : (L.take (i + 1)).drop g = (L.take i).drop g ++ [b] := by
  have hi := (List.getElem?_eq_some_iff.1 h).1
  rw [List.take_add_one, h, List.drop_append_of_le_length (by rw [List.length_take]; omega)]
  rfl
theorem drop_here {L : List UInt8} {i : Nat} {b : UInt8} (h : L[i]? = some b) : L.drop i = b :: L.drop (i + 1) := by
  obtain ⟨hi, rfl⟩ := List.getElem?_eq_some_iff.1 h
  exact List.drop_eq_getElem_cons hi
theorem scan_on {L : List UInt8} {i g : Nat} {b : UInt8} {o : List ByteArray} (h : L[i]? = some b) (hb : b ≠ 47) (hg : g ≤ i) : scanL L (i + 1, g, o) = scanL L (i, g, o) := by
  have hi := (List.getElem?_eq_some_iff.1 h).1
  unfold scanL
  rw [if_pos (show i + 1 ≤ L.length by omega), if_pos (show i ≤ L.length by omega)]
  simp only [take_next h hg, drop_here h, cutS, if_neg hb]
theorem scan_cut {L : List UInt8} {i g : Nat} {o : List ByteArray} (h : L[i]? = some 47) (hk : nameOk (ba ((L.take i).drop g)) = true) : scanL L (i + 1, i + 1, o ++ [ba ((L.take i).drop g)]) = scanL L (i, g, o) := by
  have hi := (List.getElem?_eq_some_iff.1 h).1
  unfold scanL
  rw [if_pos (show i + 1 ≤ L.length by omega), if_pos (show i ≤ L.length by omega)]
  have hd : (L.take (i + 1)).drop (i + 1) = [] := List.drop_eq_nil_of_le (by rw [List.length_take]; omega)
  simp only [drop_here h, cutS, if_pos, hd, List.map_cons, List.all_cons, hk, Bool.true_and, List.append_assoc, List.singleton_append]
theorem scan_bad {L : List UInt8} {i g : Nat} {o : List ByteArray} (h : L[i]? = some 47) (hk : nameOk (ba ((L.take i).drop g)) = false) : scanL L (i, g, o) = none := by
  have hi := (List.getElem?_eq_some_iff.1 h).1
  unfold scanL
  rw [if_pos (show i ≤ L.length by omega)]
  simp only [drop_here h, cutS, if_pos, List.map_cons, List.all_cons, hk, Bool.false_and, Bool.false_eq_true, if_false]
theorem scan_end {L : List UInt8} {g : Nat} {o : List ByteArray} (hk : nameOk (ba (L.drop g)) = true) : scanL L (L.length, g, o) = some (o ++ [ba (L.drop g)]) := by
  unfold scanL
  simp only [Nat.le_refl, if_true, List.take_length, List.drop_length, cutS, List.map_cons, List.map_nil, List.all_cons, List.all_nil, hk, Bool.true_and]
theorem scan_out {L : List UInt8} {g : Nat} {o : List ByteArray} : scanL L (L.length + 1, g, o) = some o := by
  unfold scanL
  rw [if_neg (by show ¬ L.length + 1 ≤ L.length; omega)]
theorem scan_last {L : List UInt8} {g : Nat} {o : List ByteArray} (hk : nameOk (ba (L.drop g)) = false) : scanL L (L.length, g, o) = none := by
  unfold scanL
  simp only [Nat.le_refl, if_true, List.take_length, List.drop_length, cutS, List.map_cons, List.map_nil, List.all_cons, List.all_nil, hk, Bool.false_and, Bool.false_eq_true, if_false]
def namesOf (p : ByteArray) : Option (List ByteArray) := match p.data.toList with
  | [] => none
  | b :: r => if b = 47 then (if r = [] then some [] else if (pieces 47 r).all nameOk && decide ((pieces 47 r).length ≤ 4) then some (pieces 47 r) else none) else none
theorem sz_ba (L : List UInt8) : (ba L).size = L.length := by simp [ba, ByteArray.size]
theorem ex_ba (L : List UInt8) (i j : Nat) : (ba L).extract i j = ba ((L.take j).drop i) := by
  have := ba_ex (ba L) i j
  simpa [ba] using this
theorem ba_inj {a b : List UInt8} : ba a = ba b ↔ a = b := by
  constructor
  · intro h; have := congrArg (fun x : ByteArray => x.data.toList) h; simpa [ba] using this
  · intro h; rw [h]
theorem ba_of (s : ByteArray) : s = ba s.data.toList := by cases s; rfl
theorem ba_l (L : List UInt8) : (ba L).data.toList = L := by simp [ba]
theorem sl_ba : (⟨#[47]⟩ : ByteArray) = ba [47] := rfl
theorem ba_nil (r : List UInt8) : (ba r = ⟨#[]⟩) = (r = []) := propext (ba_inj (b := []))
theorem sl_sz : (⟨#[47]⟩ : ByteArray).size = 1 := rfl
def starts (L : List UInt8) : Bool := match L with
  | [] => false
  | b :: _ => decide (b = 47)
theorem e84 (L : List UInt8) (hl : L.length ≤ maxLen) : E T 84 [.str (ba L), .str ⟨#[47]⟩] [] = some (.bool (starts L), []) := by
  rw [E_eq t84 (Nat.le_of_ble_eq_true rfl)]
  unfold maxLen at hl
  cases L with
  | nil =>
    simp only [F84, go_sem, seval, bnd_ite, sz_ba, sl_sz]
    first | done | rfl
  | cons b r =>
    have h1 : (1 : Int) ≤ ((r.length + 1 : Nat) : Int) := by omega
    simp only [F84, go_sem, seval, bnd_ite, sz_ba, sl_sz, List.length_cons, ex_ba, sl_ba, ba_inj]
    rw [if_pos (by omega), if_pos (by omega)]
    simp [starts]
theorem e52 (L : List UInt8) (hl : L.length ≤ maxLen) : E T 52 [.str (ba L), .str ⟨#[47]⟩] [] = some (.tup [.str (if starts L = true then ba (L.drop 1) else ba L), .bool (starts L)], []) := by
  rw [E_eq t52 (Nat.le_of_ble_eq_true rfl)]
  have h := e84 L hl
  unfold maxLen at hl
  simp only [F52, go_sem, seval, bnd_ite, h, sz_ba, sl_sz]
  cases hs : starts L with
  | false => simp
  | true =>
    have h1 : 1 ≤ L.length := by cases L with | nil => simp [starts] at hs | cons b r => simp
    simp only [Bool.not_true, Bool.false_eq_true, if_false, if_true]
    rw [if_pos (by omega), ex_ba, List.take_of_length_le (by first | exact Nat.le_refl _ | omega)]
    first | done | rfl
theorem e21 (L : List UInt8) (hl : L.length ≤ maxLen) : E T 21 [.str (ba L), .str ⟨#[47]⟩] [] = some (.tup [.str (if starts L = true then ba (L.drop 1) else ba L), .bool (starts L)], []) := by
  rw [E_eq t21 (Nat.le_of_ble_eq_true rfl)]
  simp only [F21, go_sem, seval, bnd_ite, e52 L hl]
theorem e22 (r : List UInt8) (h : r.length ≤ 1048576) : E T 22 [.str (ba r), .str ⟨#[47]⟩] [] = some (.own 1 ((pieces 47 r).map sv), []) := by
  rw [E_orc (T := T) (f := 22) (F := ⟨.ret, [], 0, .one, some splitO⟩) (g := splitO) t22 rfl]
  show cond (Nat.blt (ba r).size 4294967281) (some ((AV.own 1 ((pieces 47 (ba r).data.toList).map AV.str) : AV), ([] : Mem))) none = _
  rw [sz_ba, ba_l, show Nat.blt r.length 4294967281 = true by rw [Nat.blt_eq]; omega]
  rfl
theorem cut_le (c : UInt8) : ∀ (r cur : List UInt8), ∀ x ∈ cutS c cur r, x.length ≤ cur.length + r.length
  | [], cur, x, h => by simp [cutS] at h; subst h; simp
  | b :: r, cur, x, h => by
    unfold cutS at h
    split at h
    · rcases List.mem_cons.1 h with rfl | h
      · simp
      · have := cut_le c r [] x h; simp at this ⊢; omega
    · have := cut_le c r (cur ++ [b]) x h; simp at this ⊢; omega
theorem pieces_le {r : List UInt8} {q : ByteArray} (h : q ∈ pieces 47 r) : q.size ≤ r.length := by
  obtain ⟨x, hx, rfl⟩ := List.mem_map.1 h
  have := cut_le 47 r [] x hx
  simpa [ByteArray.size] using this
theorem cut_len (c : UInt8) : ∀ (r cur : List UInt8), (cutS c cur r).length ≤ r.length + 1
  | [], cur => by simp [cutS]
  | b :: r, cur => by
    unfold cutS
    split
    · have := cut_len c r []; simp; omega
    · have := cut_len c r (cur ++ [b]); simp; omega
theorem pieces_len (r : List UInt8) : (pieces 47 r).length ≤ r.length + 1 := by
  unfold pieces; rw [List.length_map]; exact cut_len 47 r []
def outN (o : Option (List ByteArray)) : AV := .tup [.own 1 ((o.getD []).map sv), .bool o.isSome]
theorem e6 (p : ByteArray) (hl : p.size ≤ 1048576) : E T 6 [.str p] [] = some (outN (namesOf p), []) := by
  rw [ba_of p] at hl ⊢
  unfold namesOf
  rw [ba_l]
  rw [sz_ba] at hl
  generalize p.data.toList = L at *
  rw [E_eqW t6 (Nat.le_of_ble_eq_true rfl)]
  have h1 := e21 L (by unfold maxLen; omega)
  cases L with
  | nil =>
    simp only [F6, go_sem, seval, bnd_ite, h1, starts]
    first | done | rfl
  | cons b r =>
    by_cases hb : b = 47
    case neg =>
      simp only [F6, go_sem, seval, bnd_ite, h1, starts, hb, decide_false, if_false]
      first | done | rfl
    case pos =>
    subst hb
    simp only [List.length_cons] at hl
    have h2 := e22 r (by omega)
    have h1' : E T 21 [.str (ba (47 :: r)), .str ⟨#[47]⟩] [] = some (.tup [.str (ba r), .bool true], []) := h1
    simp only [F6, h6_8, go_sem, seval, bnd_ite, h1', h2, ba_nil, if_true]
    by_cases hr : r = []
    · subst hr
      simp only [go_sem, seval, if_true]
      first | done | rfl
    rw [if_neg (by simpa using hr)]
    simp only [hr, if_false, go_sem, seval, bnd_ite]
    have hpl := pieces_len r
    have hps : ∀ q ∈ pieces 47 r, q.size ≤ r.length := fun q hq => pieces_le hq
    generalize pieces 47 r = l at *
    obtain ⟨⟨y, e, m⟩, k1, k2⟩ := XL_all (T := T) (b := 0) (hd := H6_8) (x := L6_8) l nameOk (fun i => ⟨[(6, .sl 0 0 l.length), (20, .sl 0 0 l.length), (21, .int .i64 l.length), (22, .int .i64 (i : Nat))], [some (1, l.map sv)]⟩)
      (fun r => r.1 = .exit 0 ∧ lookA r.2.env 6 = .sl 0 0 l.length ∧ r.2.mem = [some (1, l.map sv)]) (fun r => r.1 = .ret ∧ lookA r.2.env 2 = .nil ∧ lookA r.2.env 3 = .bool false ∧ r.2.mem = [some (1, l.map sv)])
      (by
        intro i q hq hi hp _
        have hi1 : (i : Int) < (l.length : Int) := by omega
        have hz := hps q (List.mem_of_getElem? hq)
        have e1 := e23 q (by unfold maxLen; omega)
        simp only [XG, L6_8, h6_8, go_sem, seval, bnd_ite, hi1, hi, gD_map hq, sv, e1, hp, Int.natCast_nonneg, w_i64 ((i : Int) + 1) (by omega)]
        first | done | rfl)
      (by
        intro i q hq hi hp _
        have hi1 : (i : Int) < (l.length : Int) := by omega
        have hz := hps q (List.mem_of_getElem? hq)
        have e1 := e23 q (by unfold maxLen; omega)
        simp only [XG, L6_8, h6_8, go_sem, seval, bnd_ite, hi1, hi, gD_map hq, sv, e1, hp, Int.natCast_nonneg, w_i64 ((i : Int) + 1) (by omega)]
        exact .mk (by simp) ⟨rfl, rfl, rfl, rfl⟩)
      (by
        intro _
        simp only [XG, L6_8, h6_8, go_sem, seval, bnd_ite, Int.lt_irrefl, decide_false]
        exact .mk (by simp) ⟨rfl, rfl, rfl⟩)
    have hs : ((0 : Nat) : Int) = 0 := rfl
    simp only [hs] at k1
    rcases k2 with ⟨h, q1, q2, q3⟩ | ⟨h, q1, q2, q3, q4⟩ <;> simp only at q1 q2 q3 <;> subst q1
    · subst q3
      simp only [k1, h, go_sem, seval, bnd_ite, q2, Bool.true_and]
      by_cases h4 : l.length ≤ 4
      · have h4' : ¬ (4 : Int) < (l.length : Int) := by omega
        simp only [h4, h4', decide_true, decide_false, if_true, go_sem, seval, bnd_ite, q2]
        first | done | rfl
      · have h4' : (4 : Int) < (l.length : Int) := by omega
        simp only [h4, h4', decide_true, decide_false, if_true, go_sem, seval, bnd_ite, q2]
        first | done | rfl
    · simp only at q4; subst q4
      simp only [k1, h, go_sem, seval, bnd_ite, q2, q3, Bool.false_and]
      first | done | rfl
theorem u8_47 (c : UInt8) : ((c.toNat : Int) = 47) = (c = 47) := by
  apply propext
  constructor
  · intro h
    have : c.toNat = 47 := by omega
    exact UInt8.toNat_inj.1 (this.trans rfl)
  · rintro rfl; rfl
def stS (L : List UInt8) (a : Nat × Nat × List ByteArray) : St := ⟨[(0, .str (ba L)), (4, .sl 0 0 a.2.2.length), (5, .int .i64 (a.2.1 : Nat)), (6, .int .i64 (a.1 : Nat))], [some (1, a.2.2.map sv)]⟩
def okS (L : List UInt8) (a : Nat × Nat × List ByteArray) : Prop := a.2.1 ≤ a.1 ∧ a.1 ≤ L.length + 1 ∧ a.2.2.length ≤ a.1
def endS (g : Option (List ByteArray)) (r : AX × St) : Prop :=
  (r.1 = .exit 0 ∧ ∃ o, g = some o ∧ lookA r.2.env 4 = .sl 0 0 o.length ∧ r.2.mem = [some (1, o.map sv)]) ∨ (r.1 = .ret ∧ g = none ∧ lookA r.2.env 2 = .nil ∧ lookA r.2.env 3 = .bool false ∧ ∃ o : List ByteArray, r.2.mem = [some (1, o.map sv)])
theorem loop5 (L : List UInt8) (hl : L.length ≤ 1048576) (a : Nat × Nat × List ByteArray) (ha : okS L a) : ∃ r, XL T 0 H5_8 L5_8 (stS L a) = some r ∧ endS (scanL L a) r := by
  refine XL_to (T := T) (b := 0) (hd := H5_8) (x := L5_8) (stS L) (okS L) (fun a => L.length + 2 - a.1) (scanL L) endS ?_ a ha
  rintro ⟨i, g, o⟩ ⟨hg, hi, ho⟩
  simp only at hg hi ho
  have wi := w_i64 ((i : Int) + 1) (by omega)
  have hsz : ((ba L).size : Int) = L.length := by rw [sz_ba]
  by_cases h1 : i ≤ L.length
  case neg =>
    right
    have e1 : ¬ (i : Int) ≤ (L.length : Int) := by omega
    have ei : i = L.length + 1 := by omega
    subst ei
    rw [scan_out]
    simp only [XG, L5_8, h5_8, stS, go_sem, seval, bnd_ite, hsz, e1, decide_false]
    exact .mk (by simp) (.inl ⟨rfl, o, rfl, rfl, rfl⟩)
  case pos =>
  have e1 : (i : Int) ≤ (L.length : Int) := by omega
  by_cases h2 : i < L.length
  case pos =>
    obtain ⟨b, hb⟩ := get_at h2
    have e2 : (i : Int) < (L.length : Int) := by omega
    have gc : L.getD i 0 = b := by simp [List.getD, hb]
    by_cases h3 : b = 47
    case neg =>
      left
      refine ⟨(i + 1, g, o), ?_, ⟨by simp; omega, by simp; omega, by simp; omega⟩, by simp; omega, scan_on hb h3 hg⟩
      simp only [XG, L5_8, h5_8, stS, go_sem, seval, bnd_ite, hsz, e1, e2, sz_ba, ba_l, Int.toNat_natCast, gc, u8_47, h3, Int.natCast_nonneg, wi, decide_true, decide_false, Bool.not_false, if_true]
      first | done | rfl
    case pos =>
      subst h3
      have hx := ex_ba L g i
      have hq : (ba ((L.take i).drop g)).size ≤ maxLen := by rw [sz_ba]; unfold maxLen; simp; omega
      have en := e20 (ba ((L.take i).drop g)) hq
      have pr : L.length + 2 - (i + 1) < L.length + 2 - i := by omega
      cases hk : nameOk (ba ((L.take i).drop g)) with
      | true =>
        left
        refine ⟨(i + 1, i + 1, o ++ [ba ((L.take i).drop g)]), ?_, ⟨by simp, by simp; omega, by simp; omega⟩, pr, scan_cut hb hk⟩
        rw [hk] at en
        simp only [XG, L5_8, h5_8, stS, go_sem, seval, bnd_ite, hsz, e1, e2, sz_ba, ba_l, Int.toNat_natCast, gc, u8_47, hx, en, Int.natCast_nonneg, wi, decide_true, decide_false, Bool.not_true, if_true]
        rw [if_pos (by omega), if_pos (by omega), if_pos (by omega), List.map_append]
        first | done | rfl
      | false =>
        right
        rw [scan_bad hb hk]
        rw [hk] at en
        simp only [XG, L5_8, h5_8, stS, go_sem, seval, bnd_ite, hsz, e1, e2, sz_ba, ba_l, Int.toNat_natCast, gc, u8_47, hx, en, Int.natCast_nonneg, wi, decide_true, decide_false, Bool.not_true, if_true]
        rw [if_pos (by omega)]
        exact .mk (by simp) (.inr ⟨rfl, rfl, rfl, rfl, o, rfl⟩)
  case neg =>
    have ei : i = L.length := by omega
    subst ei
    have hx := ex_ba L g L.length
    rw [List.take_length] at hx
    have e2 : ¬ (L.length : Int) < (L.length : Int) := by omega
    have hq : (ba (L.drop g)).size ≤ maxLen := by rw [sz_ba]; unfold maxLen; simp; omega
    have en := e20 (ba (L.drop g)) hq
    have pr : L.length + 2 - (L.length + 1) < L.length + 2 - L.length := by omega
    cases hk : nameOk (ba (L.drop g)) with
    | true =>
      left
      refine ⟨(L.length + 1, L.length + 1, o ++ [ba (L.drop g)]), ?_, ⟨by simp, by simp, by simp; omega⟩, pr, by rw [scan_out, scan_end hk]⟩
      rw [hk] at en
      simp only [XG, L5_8, h5_8, stS, go_sem, seval, bnd_ite, hsz, e1, e2, sz_ba, ba_l, Int.toNat_natCast, hx, en, Int.natCast_nonneg, wi, decide_true, decide_false, Bool.not_true, if_true, Bool.false_eq_true, if_false]
      rw [if_pos (by omega), if_pos (by omega), if_pos (by omega), List.map_append]
      first | done | rfl
    | false =>
      right
      rw [scan_last hk]
      rw [hk] at en
      simp only [XG, L5_8, h5_8, stS, go_sem, seval, bnd_ite, hsz, e1, e2, sz_ba, ba_l, Int.toNat_natCast, hx, en, Int.natCast_nonneg, wi, decide_true, decide_false, Bool.not_true, if_true, Bool.false_eq_true, if_false]
      rw [if_pos (by omega)]
      exact .mk (by simp) (.inr ⟨rfl, rfl, rfl, rfl, o, rfl⟩)
theorem scan_all (b : UInt8) (r : List UInt8) : scanL (b :: r) (1, 1, []) = if (pieces 47 r).all nameOk = true then some (pieces 47 r) else none := by
  unfold scanL
  rw [if_pos (by simp)]
  simp only [List.take_succ_cons, List.take_zero, List.drop_succ_cons, List.drop_nil, List.drop_zero, List.nil_append]
  rfl
theorem e5 (p : ByteArray) (hl : p.size ≤ 1048576) : E T 5 [.str p] [] = some (outN (namesOf p), []) := by
  rw [ba_of p] at hl ⊢
  unfold namesOf
  rw [ba_l]
  rw [sz_ba] at hl
  generalize p.data.toList = L at *
  rw [E_eqW t5 (Nat.le_of_ble_eq_true rfl)]
  cases L with
  | nil =>
    simp only [F5, go_sem, seval, bnd_ite, sz_ba]
    first | done | rfl | trace_state
  | cons b r =>
    have hz : ((ba (b :: r)).size : Int) = (r.length : Int) + 1 := by rw [sz_ba]; simp
    have h0 : ¬ ((r.length : Int) + 1 = 0) := by omega
    have hp : (0 : Int) < (r.length : Int) + 1 := by omega
    have gc : (b :: r).getD 0 0 = b := rfl
    have g0 : (b :: r).getD (0 : Int).toNat 0 = b := rfl
    by_cases hb : b = 47
    case neg =>
      simp only [F5, go_sem, seval, bnd_ite, hz, h0, hp, ba_l, g0, u8_47, hb, decide_false, decide_true, Bool.not_false, if_true, if_false, Bool.or_true]
      first | done | rfl | trace_state
    case pos =>
    subst hb
    simp only [List.length_cons] at hl
    simp only [F5, h5_8, go_sem, seval, bnd_ite, hz, h0, hp, ba_l, g0, u8_47, decide_false, decide_true, Bool.not_true, if_true, if_false, sl_ba, ba_inj, List.cons.injEq, true_and]
    by_cases hr : r = []
    · subst hr
      simp only [go_sem, seval, if_true]
      first | done | rfl | trace_state
    simp only [hr, decide_false, if_false, go_sem, seval, bnd_ite]
    obtain ⟨⟨y, e, m⟩, k1, k2⟩ := loop5 (47 :: r) (by simp; omega) (1, 1, []) ⟨by simp, by simp, by simp⟩
    rw [scan_all] at k2
    have k1' : XL T 0 H5_8 L5_8 ⟨[(0, .str (ba (47 :: r))), (4, .sl 0 0 0), (5, .int .i64 1), (6, .int .i64 1)], [some (1, [])]⟩ = some (y, ⟨e, m⟩) := k1
    rcases k2 with ⟨q1, o, q2, q3, q4⟩ | ⟨q1, q2, q3, q4, o, q5⟩ <;> simp only at q1
    · subst q1
      simp only at q3 q4
      subst q4
      have hall : (pieces 47 r).all nameOk = true := by
        cases h : (pieces 47 r).all nameOk with
        | true => rfl
        | false => rw [h] at q2; simp at q2
      rw [hall] at q2 ⊢
      obtain rfl := Option.some.inj (by simpa using q2)
      generalize pieces 47 r = l at *
      simp only [k1', go_sem, seval, bnd_ite, q3, Bool.true_and]
      by_cases h4 : l.length ≤ 4
      · have h4' : ¬ (4 : Int) < (l.length : Int) := by omega
        simp only [h4, h4', decide_true, decide_false, if_true, go_sem, seval, bnd_ite, q3]
        first | done | rfl | trace_state
      · have h4' : (4 : Int) < (l.length : Int) := by omega
        simp only [h4, h4', decide_true, decide_false, if_true, go_sem, seval, bnd_ite, q3]
        first | done | rfl | trace_state
    · subst q1
      simp only at q3 q4 q5
      subst q5
      have hall : (pieces 47 r).all nameOk = false := by
        cases h : (pieces 47 r).all nameOk with
        | false => rfl
        | true => rw [h] at q2; simp at q2
      simp only [k1', hall, go_sem, seval, bnd_ite, q3, q4, Bool.false_and]
      first | done | rfl | trace_state
theorem names_len (p : ByteArray) : ((namesOf p).getD []).length ≤ 4 := by
  unfold namesOf
  split
  · simp
  · rename_i b r _
    split
    · split
      · simp
      · split
        · rename_i h; simp at h; simpa using h.2
        · simp
    · simp
theorem e3 (p : ByteArray) (hw : p.size ≤ maxLen) : E T 3 [.str p] [] = some (.bool true, []) := by
  rw [E_eq t3 (Nat.le_of_ble_eq_true rfl)]
  unfold maxLen at hw
  by_cases hb : (1048576 : Int) < (p.size : Int)
  · simp only [F3, go_sem, seval, bnd_ite, hb, decide_true, if_true]
    first | done | rfl | trace_state
  have hl : p.size ≤ 1048576 := by omega
  have h5 := e5 p hl
  have h6 := e6 p hl
  have hn := names_len p
  unfold outN at h5 h6
  generalize (namesOf p).getD [] = l at *
  generalize (namesOf p).isSome = b at *
  have hlm : l.length ≤ maxLen := by unfold maxLen; omega
  have h7 := e7 l l hlm
  have h8 := e8 l 1 (by omega) (by omega) (by omega)
  have h9 := e9 l.length 1 (by omega) (by omega) (by omega)
  have q1 : ¬ ((1 : Int) + (l.length : Int) < 0) := by omega
  have hm : (mkT 1 l.length).length = l.length := mkT_len _ _
  have hbb : (!(b == b)) = false := by cases b <;> rfl
  generalize mkT 1 l.length = M at *
  have ht1 : List.take l.length (List.map sv M) = List.map sv M := List.take_of_length_le (by rw [List.length_map, hm]; exact Nat.le_refl _)
  have ht2 : List.take l.length (List.map sv l) = List.map sv l := List.take_of_length_le (by rw [List.length_map]; exact Nat.le_refl _)
  have q2 : (1 : Int) + (l.length : Int) = 1 + (l.length : Int) := rfl
  simp only [decide_true] at h7
  simp only [F3, go_sem, seval, bnd_ite, hb, h5, h6, h7, h8, h9, q1, hm, hbb, ht1, ht2, Nat.le_refl, decide_true, decide_false, Bool.not_true, Bool.false_eq_true, if_true, if_false]
  first | done | rfl | trace_state
end Go.Proofs.YtaaajjinpppgeaaDoor
namespace Go.Proofs.YtaaajjinpppgeaaDoor
open Go Go.Abs
def shFnExactSplitPath : List Shp := [.str]
theorem isFnExactSplitPath {avs : List AV} (h : IsAs shFnExactSplitPath avs) : E T 3 avs [] = some (.bool true, []) := by
  cases h with | cons h1 h =>
  cases h
  obtain ⟨cs, h1, rfl⟩ := h1
  cases h1 with | str hw =>
  exact e3 _ hw
end Go.Proofs.YtaaajjinpppgeaaDoor
namespace Go.Abs
open Go
def wAcc : List Char → List Char → List (List Char) → List (List Char)
  | [], cur, acc => (cur.reverse :: acc).reverse
  | c :: r, cur, acc => if c.toNat = 32 then wAcc r [] (cur.reverse :: acc) else wAcc r (c :: cur) acc
def joinW (cur : List Char) : List (List Char) → List (List Char)
  | w :: ws => (cur ++ w) :: ws
  | [] => [cur]
theorem ws_c (c : Char) (r : List Char) : wordsSigns (c :: r) = if c.toNat = 32 then [] :: wordsSigns r else joinW [c] (wordsSigns r) := by
  by_cases h : c.toNat = 32
  · rw [if_pos h]
    have : c = Char.ofNat 32 := by
      apply Char.ext
      apply UInt32.toNat_inj.1
      exact h
    subst this; rfl
  · rw [if_neg h]
    rw [wordsSigns.eq_3 _ _ (fun e => h (by rw [e]; rfl))]
    cases wordsSigns r <;> rfl
theorem ws_ne (l : List Char) : wordsSigns l ≠ [] := by
  cases l with
  | nil => simp [wordsSigns]
  | cons c r =>
    rw [ws_c]
    split
    · simp
    · cases wordsSigns r <;> simp [joinW]
theorem wAcc_eq : ∀ (l cur : List Char) (acc : List (List Char)), wAcc l cur acc = acc.reverse ++ joinW cur.reverse (wordsSigns l) := by
  intro l
  induction l with
  | nil => intro cur acc; simp [wAcc, wordsSigns, joinW]
  | cons c r ih =>
    intro cur acc
    simp only [wAcc]
    rw [ws_c]
    by_cases h : c.toNat = 32
    · rw [if_pos h, if_pos h, ih]
      cases hr : wordsSigns r with
      | nil => exact absurd hr (ws_ne r)
      | cons w ws => simp [joinW]
    · rw [if_neg h, if_neg h, ih]
      cases wordsSigns r <;> simp [joinW]
theorem words_eq (l : List Char) : wordsSigns l = wAcc l [] [] := by
  rw [wAcc_eq]
  have := ws_ne l
  cases h : wordsSigns l with
  | nil => exact absurd h this
  | cons w ws => simp [joinW]
theorem strip_cut (r : List (List Char)) : stripLifts liftWords ("cut".toList :: r) = ([], "cut".toList :: r) := by kernel_rfl
theorem lifts_of {P : Program} {r : List (List Char)} (h : behindMainWord (wordsSigns P.initOrder.toList) = "cut".toList :: r) : P.headLifts = [] := by
  unfold Program.headLifts
  rw [h, strip_cut]; kernel_rfl
theorem liftsFinal_of {P : Program} {r : List (List Char)} (h : behindMainWord (wordsSigns P.initOrder.toList) = "cut".toList :: r) : P.liftsFinal = false := by
  unfold Program.liftsFinal
  rw [h, lifts_of h]; kernel_rfl
theorem make_of {P : Program} {r : List (List Char)} (h : behindMainWord (wordsSigns P.initOrder.toList) = "cut".toList :: r) : P.make = some .cut := by
  unfold Program.make
  rw [h]; kernel_rfl
theorem mayEnter_of {P : Program} {r : List (List Char)} (h : behindMainWord (wordsSigns P.initOrder.toList) = "cut".toList :: r) (h1 : P.laysLater = false) (h2 : P.bearsReflect = false) (h3 : P.doorFits [] = true) : P.mayEnter = true := by
  unfold Program.mayEnter
  rw [h]
  simp only [strip_cut, h1, h2, h3]
  kernel_rfl
open Go.RowKit in
theorem facts_of {P : Program} {f : FuncId} {fn : Func} {s : ChangeSpec} {c : OpenClaim} (a1 : c.wf (OpenSpec.ofChange s) = true) (a2 : laidOutB P = true) (a3 : mapsRowed P = true)
    (a4 : fn.params.all (P.readableRec ·) = true) (a5 : namedTie P c.named s.vars = true) (a6 : (c.stops == []) = true) (a7 : (P.stops == []) = true) (a8 : (c.knobs == []) = true) (a9 : (P.stopKnobs == []) = true)
    (a10 : (c.inPlace == P.inPlace f) = true) (a11 : (c.unfollowed == P.unfollowed f) = true) (a12 : (c.recurses == P.recurses f) = true) (a13 : (c.named == P.varsNamed f) = true)
    (a14 : (c.maps == (fn.params.toList ++ s.plain.varTypes P).any (P.mapsRec ·)) = true) (a15 : (c.ifaces == (fn.params.toList ++ s.plain.varTypes P).any (P.ifacesRec ·)) = true) (a16 : (c.mapsOut == P.mapsAmong fn.resultTypes.toList) = true)
    (a17 : (c.loops == (fn.params.toList ++ s.plain.varTypes P).any (P.loopsFrom ·)) = true) (a18 : (c.wideKeys == (fn.params.toList ++ s.plain.varTypes P ++ fn.resultTypes.toList).any (P.wideKeysFrom ·)) = true)
    (a19 : s.vars.all (P.varReadable ·) = true) (a20 : fn.resultTypes.all (fun t => P.readableRec t && decide (t < P.types.size)) = true) (a21 : (c.ifacesOut == fn.resultTypes.toList.any (P.ifacesRec ·)) = true)
    (a22 : (c.loopsOut == fn.resultTypes.toList.any (P.loopsFrom ·)) = true) (a23 : (c.plainKeys == P.plainKeys) = true) (a24 : c.shortTexts.isNone = true) (a25 : P.stopsHeard = true) (a26 : P.mayEnter = true)
    (a27 : (c.lifted == P.liftsFinal) = true) (a28 : (P.make == some c.make) = true)
    (a29 : c.domain.isEmpty = true) (a29' : c.kinds = []) (a30 : (c.pinned == c.pinnedBy) = true)
    (a31 : (c.veiled == (fn.params.toList ++ s.plain.varTypes P ++ fn.resultTypes.toList).any (P.veiledRec ·)) = true) (a32 : c.veiledFits P fn.params.toList (fn.params.toList ++ s.plain.varTypes P ++ fn.resultTypes.toList) = true) :
    joinedFacts P f fn s c = true := by
  unfold joinedFacts
  rw [a1, a2, a3, a4, a5, a6, a7, a8, a9, a10, a11, a12, a13, a14, a15, a16, a17, a18, a19, a20, a21, a22, a23, a24, a25, a26, a27, a28, a29, a29', a30, a31, a32]
  rfl
end Go.Abs
namespace Go.Proofs.YtaaajjinpppgeaaDoor
open Go Go.RowKit
set_option maxRecDepth 100000
def headSigns : List Char := [.ofNat 104,.ofNat 97,.ofNat 114,.ofNat 110,.ofNat 101,.ofNat 115,.ofNat 115,.ofNat 32,.ofNat 100,.ofNat 98,.ofNat 51,.ofNat 97,.ofNat 54,.ofNat 49,.ofNat 100,.ofNat 56,.ofNat 56,.ofNat 98,.ofNat 52,.ofNat 52,.ofNat 99,.ofNat 53,.ofNat 53,.ofNat 49,.ofNat 98,.ofNat 98,.ofNat 99,.ofNat 57,.ofNat 98,.ofNat 55,.ofNat 53,.ofNat 48,.ofNat 51,.ofNat 54,.ofNat 50,.ofNat 51,.ofNat 48,.ofNat 100,.ofNat 97,.ofNat 97,.ofNat 48,.ofNat 51,.ofNat 53,.ofNat 98,.ofNat 98,.ofNat 56,.ofNat 48,.ofNat 101,.ofNat 48,.ofNat 99,.ofNat 57,.ofNat 101,.ofNat 101,.ofNat 56,.ofNat 48,.ofNat 100,.ofNat 54,.ofNat 52,.ofNat 53,.ofNat 97,.ofNat 54,.ofNat 54,.ofNat 97,.ofNat 56,.ofNat 99,.ofNat 99,.ofNat 53,.ofNat 98,.ofNat 97,.ofNat 100,.ofNat 54,.ofNat 102,.ofNat 32,.ofNat 99,.ofNat 117,.ofNat 116,.ofNat 32,.ofNat 97,.ofNat 116,.ofNat 32,.ofNat 108,.ofNat 111,.ofNat 111,.ofNat 112,.ofNat 46,.ofNat 101,.ofNat 120,.ofNat 97,.ofNat 109,.ofNat 112,.ofNat 108,.ofNat 101,.ofNat 47,.ofNat 103,.ofNat 48,.ofNat 48,.ofNat 50,.ofNat 51,.ofNat 53,.ofNat 47,.ofNat 108,.ofNat 97,.ofNat 119,.ofNat 115,.ofNat 46,.ofNat 70,.ofNat 110,.ofNat 69,.ofNat 120,.ofNat 97,.ofNat 99,.ofNat 116,.ofNat 83,.ofNat 112,.ofNat 108,.ofNat 105,.ofNat 116,.ofNat 80,.ofNat 97,.ofNat 116,.ofNat 104,.ofNat 32,.ofNat 108,.ofNat 111,.ofNat 111,.ofNat 112,.ofNat 46,.ofNat 101,.ofNat 120,.ofNat 97,.ofNat 109,.ofNat 112,.ofNat 108,.ofNat 101,.ofNat 47,.ofNat 103,.ofNat 48,.ofNat 48,.ofNat 50,.ofNat 51,.ofNat 53,.ofNat 47,.ofNat 108,.ofNat 97,.ofNat 119,.ofNat 115,.ofNat 46,.ofNat 70,.ofNat 110,.ofNat 77,.ofNat 97,.ofNat 110,.ofNat 121,.ofNat 78,.ofNat 97,.ofNat 109,.ofNat 101,.ofNat 115]
theorem head_text : Tryd.prog.initOrder = String.ofList headSigns := by kernel_rfl
theorem head_words : wordsSigns Tryd.prog.initOrder.toList = Go.Abs.wAcc headSigns [] [] := by
  rw [head_text, String.toList_ofList, Go.Abs.words_eq]
theorem head_behind : behindMainWord (wordsSigns Tryd.prog.initOrder.toList) = "cut".toList :: (Go.Abs.wAcc headSigns [] []).drop 3 := by
  rw [head_words]; kernel_rfl
theorem f_lays : Tryd.prog.laysLater = false := by kernel_rfl
theorem f_refl : Tryd.prog.bearsReflect = false := by kernel_rfl
theorem f_door : Tryd.prog.doorFits [] = true := by kernel_rfl
theorem f_mayEnter : Tryd.prog.mayEnter = true := Go.Abs.mayEnter_of head_behind f_lays f_refl f_door
theorem f_liftsFinal : Tryd.prog.liftsFinal = false := Go.Abs.liftsFinal_of head_behind
theorem f_make : Tryd.prog.make = some .cut := Go.Abs.make_of head_behind
theorem laidOut : laidOutB Tryd.prog = true := by kernel_rfl
theorem f_maps : mapsRowed Tryd.prog = true := by kernel_rfl
theorem f_stops : (Tryd.prog.stops == []) = true := by kernel_rfl
theorem f_knobs : (Tryd.prog.stopKnobs == []) = true := by kernel_rfl
theorem f_plain : (true == Tryd.prog.plainKeys) = true := by kernel_rfl
theorem f_heard : Tryd.prog.stopsHeard = true := by kernel_rfl
theorem own : ownKnob Tryd.prog.godebug = none := by kernel_rfl
end Go.Proofs.YtaaajjinpppgeaaDoor
namespace Go.Proofs.YtaaajjinpppgeaaDoor
open Go Go.Abs Go.ChangeShapes Go.WideShapes Go.ChangeAt Go.RowKit
set_option maxRecDepth 100000 in
theorem liftedFnExactSplitPath (os : Os) (started : os.Started) (H : Type) (enc : TypeId × Value → H) :
    ReturnsInHanded {} Tryd.checked os 3 .any (fun w args => (Rows.fnExactSplitPathSpec.pre enc Tryd.prog Tryd.f3 Rows.fnExactSplitPathRow.domain false w args ∧ laidMetH Tryd.prog Rows.fnExactSplitPathRow.laid w) ∧ sizedMet enc Tryd.prog Tryd.f3 (OpenSpec.ofChange Rows.fnExactSplitPathSpec) false w args)
      (Rows.fnExactSplitPathSpec.post enc Tryd.prog Tryd.f3 false true false false) := by
  refine returnsInHanded_of_change_and (C := Tryd.checked) (X := fun w _ => laidMetH Tryd.prog Rows.fnExactSplitPathRow.laid w) (fun _ _ _ hh h => h.of_heap hh) own started (by kernel_rfl) Tryd.func3
    (ChangeSpec.witness_shaped (enc := enc) (C := Tryd.checked) (os := os) (X := fun w _ => laidMetH Tryd.prog Rows.fnExactSplitPathRow.laid w) false (World.laidAll Tryd.prog os Rows.fnExactSplitPathRow.laid) #[.string ⟨#[]⟩] 8 (World.laidAll_os _ _ _)
      (World.shaped_of_ZipB (by kernel_rfl) (by kernel_rfl)) (by kernel_rfl) (by kernel_rfl) (by kernel_rfl)
      (by rw [MakeChecks.laidMetH_plain _ _ _ (by kernel_rfl)]; exact laidMet_laidAll _ (by kernel_rfl) (by kernel_rfl))) ?_
  intro W base args ds gs before hval hW _ _ _ _
  obtain ⟨p, q, hA, hV, e, _, _⟩ := id hW
  refine (row_calls (P := Tryd.prog) (W := W) (n := 12) (shps := shFnExactSplitPath) (fun avs h => calls (isFnExactSplitPath h)) (ts := Tryd.f3.params.toList) (by kernel_rfl) (fun j t v h1 h2 => hval j t v (by simpa using h1) h2) hA).mono fun e W' ⟨he, hb⟩ => ?_
  refine ⟨_, he, row_post (tb := Tryd.f3.resultTypes.toList.headD 0) laidOut ?_ rfl (by kernel_rfl) (by kernel_rfl) ?_ hW hb⟩
  · exact List.all_eq_true.1 (show Tryd.f3.params.toList.all (fun t => Tryd.prog.readableRec t && decide (t < Tryd.prog.types.size)) = true by kernel_rfl) |> fun h t ht => by simpa using h t ht
  · have hl := trod_len hA
    match ds, hl with
    | [d0], _ => rfl
set_option maxHeartbeats 4000000 in
theorem factsFnExactSplitPath : joinedFacts Tryd.prog 3 Tryd.f3 Rows.fnExactSplitPathSpec Rows.fnExactSplitPathRow = true :=
  facts_of (by kernel_rfl) laidOut f_maps (by kernel_rfl) (by kernel_rfl) rfl f_stops rfl f_knobs (by as_aux_lemma => kernel_rfl) (by as_aux_lemma => kernel_rfl) (by as_aux_lemma => kernel_rfl) (by as_aux_lemma => kernel_rfl)
    (by kernel_rfl) (by kernel_rfl) (by kernel_rfl) (by kernel_rfl) (by kernel_rfl) rfl (by kernel_rfl) (by kernel_rfl) (by kernel_rfl) f_plain rfl f_heard f_mayEnter (by rw [f_liftsFinal]; rfl) (by rw [f_make]; rfl) rfl rfl rfl (by kernel_rfl) (by kernel_rfl)
theorem wrapFnExactSplitPath : Tryd.f3.isWrapper Tryd.prog Rows.fnExactSplitPathRow.wrapper Rows.fnExactSplitPathRow.mainSum := by
  unfold Func.isWrapper; rw [if_neg (by decide +kernel)]; exact ⟨rfl, rfl⟩
set_option maxHeartbeats 4000000 in
theorem overFnExactSplitPath : Rows.fnExactSplitPathRow.holds Tryd.pinned (OpenSpec.ofChange Rows.fnExactSplitPathSpec) :=
  OpenClaim.holds_of_wide 3 Tryd.f3 rfl rfl rfl rfl rfl rfl rfl ⟨rfl, rfl, rfl, rfl, rfl⟩ rfl rfl rfl rfl rfl (by as_aux_lemma => kernel_rfl) Tryd.func3 factsFnExactSplitPath
    (by as_aux_lemma => exact of_decide_eq_true (by kernel_rfl)) wrapFnExactSplitPath
    (fun os started H enc _ => liftedFnExactSplitPath os started H enc)
theorem FnExactSplitPath_holds : Rows.FnExactSplitPathCardSaid :=
  Claim7.holds_tied_plain_at .later [] [.data, .pinned] true (true, "db3a61d88b44c551bbc9b75036230daa035bb80e0c9ee80d645a66a8cc5bad6f") false overFnExactSplitPath (fun _ h => by cases h) (by kernel_rfl) (fun _ h => by cases h) fnExactSplitPath_row_tie rfl ⟨rfl, rfl⟩ (by kernel_rfl) rfl
    (fun f fn hf hfn => by
      obtain rfl : f = 3 := Option.some.inj ((show Tryd.prog.funcNamed Rows.fnExactSplitPathRow.func = some 3 by kernel_rfl).symm.trans hf) |>.symm
      obtain rfl : fn = Tryd.f3 := (Option.some.inj (Tryd.func3.symm.trans hfn)).symm
      exact ⟨by kernel_rfl, fun j t ht => by
        have hm : t ∈ Tryd.f3.params.toList := by simpa using Array.mem_of_getElem? ht
        have hall : (Tryd.f3.params.toList.all fun u => !Tryd.prog.wantsStandIn u) = true := by kernel_rfl
        exact (show Tryd.prog.wantsStandIn t = false by simpa using List.all_eq_true.1 hall t hm)⟩)
    (by kernel_rfl)
end Go.Proofs.YtaaajjinpppgeaaDoor
