/- Part 2 of the texts of a claim, joined by a program of ours (Ds, Fm, Ma, Fx, Ax, Lk, Nf, Fu, Fr, Ft, Fq, Ia, Lp, Oa, Ob). No condition. -/
import Derived.Test.YtaaajjinpppgeaaJ13a
import Derived.Test.YtaaajjinpppgeaaA4
import Derived.WalkKit
import Derived.Laws.Cells
import Derived.Laws.ResultCell
import Derived.ProofKit
set_option linter.unusedVariables false
set_option linter.unusedSimpArgs false
set_option linter.unusedSectionVars false
/- The shapes of disks; Shared answers true for each. Own work; no condition. -/
set_option linter.unusedVariables false
set_option linter.unusedSimpArgs false
set_option linter.unusedSectionVars false
namespace Go.Proofs.Ytaaajjinpppgeaa
open Go Go.Abs
set_option maxRecDepth 100000
/-- A row of a shape is a row of things of a kind. -/
theorem rowsOf {α : Type} {e : Shp} {enc : α → AV} {ok : α → Prop} (h : ∀ cs, Is e cs → ∃ x, e.elem cs = enc x ∧ ok x) : ∀ {css : List (List AV)}, (∀ cs ∈ css, Is e cs) → ∃ xs : List α, css.map e.elem = xs.map enc ∧ xs.length = css.length ∧ ∀ x ∈ xs, ok x := by
  intro css
  induction css with
  | nil => intro _; exact ⟨[], rfl, rfl, fun x hx => by cases hx⟩
  | cons cs css ih =>
    intro hc
    obtain ⟨x, h1, h2⟩ := h cs (hc cs (List.mem_cons_self ..))
    obtain ⟨xs, h3, h4, h5⟩ := ih (fun c hcc => hc c (List.mem_cons_of_mem _ hcc))
    exact ⟨x :: xs, by simp [h1, h3], by simp [h4], fun y hy => by rcases List.mem_cons.1 hy with rfl | hy; exact h2; exact h5 y hy⟩
theorem isSl {α : Type} {s : Nat} {e : Shp} {enc : α → AV} {ok : α → Prop} (h : ∀ cs, Is e cs → ∃ x, e.elem cs = enc x ∧ ok x) {cs : List AV} (hc : Is (.slice s e) cs) : ∃ xs : List α, cs = [.ro s (xs.map enc)] ∧ xs.length ≤ maxLen ∧ ∀ x ∈ xs, ok x := by
  cases hc with | slice h1 hl =>
  obtain ⟨xs, h3, h4, h5⟩ := rowsOf h h1
  exact ⟨xs, by rw [h3], by omega, h5⟩
theorem isIv (cs : List AV) (h : Is (.int .i64) cs) : ∃ x : Int, (Shp.int .i64).elem cs = iv x ∧ True := by cases h; exact ⟨_, rfl, trivial⟩
theorem isBv (cs : List AV) (h : Is .bool cs) : ∃ x : Bool, Shp.bool.elem cs = bv x ∧ True := by cases h; exact ⟨_, rfl, trivial⟩
def shS : Shp := .struct [.str, .int .i64]
def shI : Shp := .struct [.int .i64, .int .i64, .slice 1 (.int .i64)]
def shB : Shp := .struct [.bool, .slice 2 shS, .str]
def shT : Shp := .struct [.slice 1 .bool, .slice 1 .bool]
def shD : Shp := .struct [shT, .slice 3 shI, .slice 3 shB]
theorem isS (cs : List AV) (h : Is shS cs) : ∃ x : Slt, shS.elem cs = slt x ∧ x.ok := by
  cases h with | struct h =>
  cases h with | cons h1 h =>
  cases h with | cons h2 h =>
  cases h
  cases h1; cases h2
  exact ⟨⟨_, _⟩, rfl, by assumption⟩
theorem isI (cs : List AV) (h : Is shI cs) : ∃ x : Ino, shI.elem cs = ino x ∧ x.ok := by
  cases h with | struct h =>
  cases h with | cons h1 h =>
  cases h with | cons h2 h =>
  cases h with | cons h3 h =>
  cases h
  cases h1; cases h2
  obtain ⟨xs, rfl, h4, _⟩ := isSl isIv h3
  exact ⟨⟨_, _, xs⟩, rfl, h4⟩
theorem isB (cs : List AV) (h : Is shB cs) : ∃ x : Blk, shB.elem cs = blk x ∧ x.ok := by
  cases h with | struct h =>
  cases h with | cons h1 h =>
  cases h with | cons h2 h =>
  cases h with | cons h3 h =>
  cases h
  cases h1; cases h3
  obtain ⟨xs, rfl, h4, h5⟩ := isSl isS h2
  exact ⟨⟨_, xs, _⟩, rfl, h4, by assumption, h5⟩
theorem isT (cs : List AV) (h : Is shT cs) : ∃ a b : List Bool, cs = [.ro 1 (a.map bv), .ro 1 (b.map bv)] ∧ a.length ≤ maxLen ∧ b.length ≤ maxLen := by
  cases h with | struct h =>
  cases h with | cons h1 h =>
  cases h with | cons h2 h =>
  cases h
  obtain ⟨a, rfl, a1, _⟩ := isSl isBv h1
  obtain ⟨b, rfl, b1, _⟩ := isSl isBv h2
  exact ⟨a, b, rfl, a1, b1⟩
theorem isDc (cs : List AV) (h : Is shD cs) : ∃ x : Dsk, .agg cs = dsk x ∧ x.ok := by
  cases h with | struct h =>
  cases h with | cons h1 h =>
  cases h with | cons h2 h =>
  cases h with | cons h3 h =>
  cases h
  obtain ⟨a, b, rfl, a1, b1⟩ := isT _ h1
  obtain ⟨c, rfl, c1, c2⟩ := isSl isI h2
  obtain ⟨d, rfl, d1, d2⟩ := isSl isB h3
  exact ⟨⟨a, b, c, d⟩, rfl, ⟨a1, b1, c1, d1, c2, d2⟩⟩
theorem isD {av : AV} (h : IsA shD av) : ∃ x : Dsk, av = dsk x ∧ x.ok := by
  obtain ⟨cs, h, rfl⟩ := h
  exact isDc cs h
end Go.Proofs.Ytaaajjinpppgeaa

/- The code of some functions, as the evaluator reads it (printed by a program of ours), checked against the program. Own work; no condition. -/
set_option linter.unusedVariables false
set_option linter.unusedSimpArgs false
set_option linter.unusedSectionVars false
namespace Go.Proofs.Ytaaajjinpppgeaa
open Go Go.Abs
set_option maxRecDepth 100000
-- laws.FnExactSettled
-- laws.szMem
-- spec.Settled
-- laws.toMem
-- impl.Settled
def F46 : EF := ⟨(.seq (.region [(.op (.box 7) [(.tmp 0)] (some 1) true), (.op .mv [(.const (.bool false))] (some 2) true)] false) (.seq (.region [(.op (.faddr 4) [(.tmp 1)] (some 3) true), (.op .load1 [(.tmp 3)] (some 4) true), (.pc (.const (.fn 138 [])) [(.tmp 4), (.const (.bool true))] (some 5) true), (.op .not [(.tmp 5)] (some 6) true), (.op .mv [(.tmp 6)] (some 7) true), (.grp 7 true [(.op (.faddr 5) [(.tmp 1)] (some 8) true), (.op .load1 [(.tmp 8)] (some 9) true), (.op .len [(.tmp 9)] (some 10) true), (.op (.bin .eql) [(.tmp 10), (.const (.int .i64 0))] (some 11) true)] 11 12 true), (.op .mv [(.tmp 12)] (some 2) true)] false) .ret)), [(.tmp 2)], 13, .one, none⟩
theorem t46 : T 46 = some F46 := tab Try.func46 (by kernel_rfl) rfl
-- laws.eqMem
-- laws.szDep
-- laws.toDep
-- laws.eqDep
-- slices.Contains[[]bool,bool]
-- slices.Index[[]bool,bool]
end Go.Proofs.Ytaaajjinpppgeaa

/- Memories: counting, copying, comparing. Own work; no condition. -/
set_option linter.unusedVariables false
set_option linter.unusedSimpArgs false
set_option linter.unusedSectionVars false
namespace Go.Proofs.Ytaaajjinpppgeaa
open Go Go.Abs
set_option maxRecDepth 100000
structure Dp where
  id : Int
  kind : Int
  ino : Int
  ptr : Int
  block : Int
  slot : Int
  name : ByteArray
  bits : Bool
  other : Bool
  after : Int
  blocks : List Int
  deriving DecidableEq
def dp (x : Dp) : AV := .agg [.int .i64 x.id, .int .i64 x.kind, .int .i64 x.ino, .int .i64 x.ptr, .int .i64 x.block, .int .i64 x.slot, .str x.name, .bool x.bits, .bool x.other, .int .i64 x.after, .ro 1 (x.blocks.map iv)]
def dpO (x : Dp) : AV := .agg [.int .i64 x.id, .int .i64 x.kind, .int .i64 x.ino, .int .i64 x.ptr, .int .i64 x.block, .int .i64 x.slot, .str x.name, .bool x.bits, .bool x.other, .int .i64 x.after, .own 1 (x.blocks.map iv)]
def Dp.ok (x : Dp) : Prop := x.name.size ≤ maxLen ∧ x.blocks.length ≤ maxLen
def Dp.sm (x : Dp) : Prop := x.blocks.length ≤ 1048576

theorem dp_cool (x : Dp) : coolX (dp x) = true := rfl
theorem dp_len (x : Dp) : (dp x).cells.length = 11 := rfl
theorem dp_mi (g : Bool → Nat → Nat → Nat → AV) (l : List Dp) : mapIdL g (l.map dp) = l.map dp := mi_map g dp l dp_cool
theorem dp_is (u : Bool → Nat → Nat → Nat → List Nat) (l : List Dp) : idsL u (l.map dp) = [] := is_map u dp l dp_cool
theorem dp_coR (l : List Dp) : coolR 11 (l.map dp) = true := coR_map 11 dp l dp_len dp_cool
theorem dp_ice (x : Dp) : ice (dp x) = dp x := rfl
theorem dp_ic (l : List Dp) : iceL (l.map dp) = l.map dp := by rw [ice_m]; exact List.map_congr_left fun x _ => dp_ice x
theorem dp_no (x : Dp) : (dp x).cells.all noOwnC = true := rfl
theorem dp_noL (l : List Dp) : (l.map dp).all (fun x => x.cells.all noOwnC) = true := no_map dp l dp_no
attribute [go_sem] dp_mi dp_is dp_coR dp_ic dp_ice dp_noL

theorem dpO_cool (x : Dp) : coolX (dpO x) = true := by simp only [dpO, go_sem, Bool.and_self]
theorem dpO_len (x : Dp) : (dpO x).cells.length = 11 := rfl
theorem dpO_mi (g : Bool → Nat → Nat → Nat → AV) (l : List Dp) : mapIdL g (l.map dpO) = l.map dpO := mi_map g dpO l dpO_cool
theorem dpO_is (u : Bool → Nat → Nat → Nat → List Nat) (l : List Dp) : idsL u (l.map dpO) = [] := is_map u dpO l dpO_cool
theorem dpO_coR (l : List Dp) : coolR 11 (l.map dpO) = true := coR_map 11 dpO l dpO_len dpO_cool
theorem dpO_ice (x : Dp) : ice (dpO x) = dp x := by simp only [dpO, dp, go_sem]
theorem dpO_ic (l : List Dp) : iceL (l.map dpO) = l.map dp := by rw [ice_m]; exact List.map_congr_left fun x _ => dpO_ice x
theorem dpO_rf (x : Dp) : (dpO x).roFree = true := by simp [dpO, AV.roFree, roFreeL, iv_rfL]
theorem dpO_rfL (l : List Dp) : roFreeL (l.map dpO) = true := rf_map dpO l dpO_rf
attribute [go_sem] dpO_mi dpO_is dpO_coR dpO_ic dpO_ice dpO_rfL
structure Mm where
  disk : Dsk
  dirty : List Bool
  deps : List Dp
  next : Int
  deriving DecidableEq
structure Mm.ok (x : Mm) : Prop where
  disk : x.disk.ok
  dirty : x.dirty.length ≤ maxLen
  deps : x.deps.length ≤ maxLen
  dep : ∀ y ∈ x.deps, y.ok
structure Mm.sm (x : Mm) : Prop where
  disk : x.disk.sm
  dirty : x.dirty.length ≤ 1048576
  deps : x.deps.length ≤ 1048576
  dep : ∀ y ∈ x.deps, y.sm
end Go.Proofs.Ytaaajjinpppgeaa

/- The code of some functions, as the evaluator reads it (printed by a program of ours), checked against the program. Own work; no condition. -/
set_option linter.unusedVariables false
set_option linter.unusedSimpArgs false
set_option linter.unusedSectionVars false
namespace Go.Proofs.Ytaaajjinpppgeaa
open Go Go.Abs
set_option maxRecDepth 100000
-- spec.MendPointers
-- impl.MendPointers
-- spec.l11Block
def F165 : EF := ⟨(.seq (.region [(.op (.box 4) [(.tmp 0)] (some 2) true), (.op (.alloc (.agg [(.bool false), .nil, (.str ⟨#[]⟩)])) [] (some 4) true), (.op .mv [(.const (.bool false))] (some 5) true)] false) (.seq (.seq (.region [(.op .mv [(.tmp 1)] (some 6) true), (.op (.faddr 3) [(.tmp 2)] (some 7) true), (.op .load1 [(.tmp 7)] (some 8) true), (.op .len [(.tmp 8)] (some 9) true), (.pc (.const (.fn 116 [])) [(.tmp 6), (.const (.int .i64 1)), (.tmp 9)] (some 10) true), (.op .not [(.tmp 10)] (some 11) true)] false) (.cond (.tmp 11) (.seq (.region [(.op (.build [(.bool false), .nil, (.str ⟨#[]⟩)] []) [] (some 12) true), (.op (.storeN 3) [(.tmp 4), (.tmp 12)] none true), (.op .mv [(.const (.bool false))] (some 5) true)] false) .ret) .skip)) (.seq (.region [(.op (.faddr 3) [(.tmp 2)] (some 13) true), (.op .load1 [(.tmp 13)] (some 14) true), (.op .mv [(.tmp 1)] (some 15) true), (.op (.bin .sub) [(.tmp 15), (.const (.int .i64 1))] (some 16) true), (.op (.iaddr 3) [(.tmp 14), (.tmp 16)] (some 17) true), (.op (.loadN 3) [(.tmp 17)] (some 18) true), (.op (.storeN 3) [(.tmp 4), (.tmp 18)] none true), (.op .mv [(.const (.bool true))] (some 5) true)] false) .ret))), [(.cell 4 (.loadN 3)), (.tmp 5)], 19, (.agg [(.agg [.one, .rrow 2, .one]), .one]), none⟩
theorem t165 : T 165 = some F165 := tab Try.func165 (by kernel_rfl) rfl
-- laws.FnExactMendPointers
end Go.Proofs.Ytaaajjinpppgeaa

/- A table laid over another: some functions read anew, all others known from the first table. Own work; no condition. -/
namespace Go.Abs
open Go Go.RowKit
set_option linter.unusedVariables false

section
variable {P : Program} {TT : Types} {pures pures' : List FuncId} {T : FuncId → Option EF}
/-- What a table tells of one of its functions, is known of it. -/
theorem orc_of_E (hm : P.follows .mixedOrders = true) (hTT : ∀ t U, TT.get t = some U → tyOf P t = some U) (hT : TOk P TT pures T) {f : FuncId} {F : EF} (hF : T f = some F) : OrcOk P f (E T f) where
  fn := by
    rcases hT f F hF with ⟨_, fn, hfn, hc, _⟩ | ⟨g, _, hg⟩
    · obtain ⟨c, hb, hname, _⟩ := compileF_spec hc
      exact ⟨fn, c, hfn, hname, hb⟩
    · exact hg.fn
  pure := fun args res h => E_calls hm hTT hT h
  qt := fun args mem res h => by
    obtain ⟨n, hn⟩ := lim_some h
    exact (runF_calls hm hTT hT n).2.2 f args mem res hn
  wr := fun args mem res mem' h hcl hln => by
    obtain ⟨n, hn⟩ := lim_some h
    exact (runF_calls hm hTT hT n).2.1 f args mem res mem' hn hcl hln
/-- The functions of S as S reads them, all others as T tells. -/
noncomputable def ovl (S T : FuncId → Option EF) : FuncId → Option EF := fun f => match S f with
  | some F => some F
  | none => match T f with
    | some _ => some ⟨.ret, [], 0, .one, some (E T f)⟩
    | none => none
theorem ovl_ok (hm : P.follows .mixedOrders = true) (hTT : ∀ t U, TT.get t = some U → tyOf P t = some U) (hT : TOk P TT pures T) {S : FuncId → Option EF} (hS : TOk P TT pures' S) : TOk P TT pures' (ovl S T) := by
  intro f F h
  unfold ovl at h
  split at h
  · rename_i F' hF'
    cases h
    exact hS f _ hF'
  · split at h
    · rename_i F' hF'
      cases h
      exact .inr ⟨E T f, rfl, orc_of_E hm hTT hT hF'⟩
    · cases h
theorem ovl_own {S T : FuncId → Option EF} {f : FuncId} {F : EF} (h : S f = some F) : ovl S T f = some F := by unfold ovl; rw [h]
theorem ovl_E {S T : FuncId → Option EF} {f : FuncId} {F : EF} (hS : S f = none) (h : T f = some F) (args : List AV) (mem : Mem) : E (ovl S T) f args mem = E T f args mem := by
  have e : ovl S T f = some ⟨.ret, [], 0, .one, some (E T f)⟩ := by unfold ovl; rw [hS, h]
  exact E_orc e rfl
/-- A table cut down to some functions. -/
def only' (ks : List FuncId) (S : FuncId → Option EF) : FuncId → Option EF := fun f => if ks.contains f then S f else none
theorem only_ok {ks : List FuncId} {S : FuncId → Option EF} (hS : TOk P TT pures S) : TOk P TT pures (only' ks S) := by
  intro f F h
  unfold only' at h
  split at h
  · exact hS f F h
  · cases h
end
end Go.Abs

/- A block by its number, out of a store: what a call hands back is the store's own row. Own work; no condition. -/
set_option linter.unusedVariables false
set_option linter.unusedSimpArgs false
set_option linter.unusedSectionVars false
namespace Go.Proofs.Ytaaajjinpppgeaa
open Go Go.Proofs Go.RowKit Go.Abs
set_option maxRecDepth 100000
theorem lv73 {W : World} {b o : Nat} {vs : List Value} (hn : vs.length = 3) (hc : CellsAt W b o vs) : (loadVar 73 ⟨b, o, none⟩).run Try.prog W = .ok (.agg vs.toArray) W := by
  have a73 : (Go.isAgg 73).run Try.prog W = .ok true W := by kernel_rfl
  have z73 : (Go.sizeOf 73).run Try.prog W = .ok 3 W := by kernel_rfl
  have hl := run_loadCells_list (P := Try.prog) W ⟨b, o, none⟩ vs hc.cells
  rw [hn] at hl
  simp [loadVar, Sem.run_bind, a73, z73, hl]
theorem ret165 {R : Ending → World → Prop} {w : World} {X : Obj} {c0 c1 c2 : Value} {bv : Bool} {tmps : Array Value} (h4 : tmps.getD 4 undef = .pointer (some ⟨w.heap.size + 1, 0, none⟩)) (h5 : tmps.getD 5 undef = .bool bv)
    (hR : R (.returned (.tuple #[.agg #[c0, c1, c2], .bool bv])) ((w.alloc X).alloc (.cells #[c0, c1, c2] 73))) : bodyPost Try.prog Try.f165 R .ret { tmps := tmps, defers := [] } ((w.alloc X).alloc (.cells #[c0, c1, c2] 73)) := by
  refine bodyPost_ret ?_ rfl hR
  rw [results_cell_tmp (u := 5) (p := 4) (ty := 73) (by kernel_rfl)]
  have hs : (w.alloc X).heap.size = w.heap.size + 1 := by show (w.heap.push X).size = _; simp
  have e := lv73 (W := (w.alloc X).alloc (.cells #[c0, c1, c2] 73)) (b := w.heap.size + 1) (o := 0) (vs := [c0, c1, c2]) rfl
    ⟨#[c0, c1, c2], 73, (0, 0), by rw [← hs]; exact heap_alloc_same _ _, fun j v hj => by simpa using hj⟩
  rw [h4, h5]
  show Result.andThen ((asAddr (.pointer (some ⟨w.heap.size + 1, 0, none⟩))).run Try.prog _) _ = _
  have ha : (asAddr (.pointer (some ⟨w.heap.size + 1, 0, none⟩))).run Try.prog ((w.alloc X).alloc (.cells #[c0, c1, c2] 73)) = .ok ⟨w.heap.size + 1, 0, none⟩ ((w.alloc X).alloc (.cells #[c0, c1, c2] 73)) := rfl
  rw [ha]
  show Result.andThen ((loadVar 73 ⟨w.heap.size + 1, 0, none⟩).run Try.prog _) _ = _
  rw [e]; rfl
theorem look165 (u t i : Value) (b o cap n : Nat) (w : World) (p : Int) (h1 : 1 ≤ p) (h2 : p ≤ (n : Int)) (hn : n ≤ 1048576) (d : Bool) (A : Option Addr) (l k : Nat) (s : ByteArray) (hb : b < w.heap.size)
   (hc0 : w.cell? ⟨b, o + (p.toNat - 1) * 3, none⟩ = some (.bool d)) (hc1 : w.cell? ⟨b, o + (p.toNat - 1) * 3 + 1, none⟩ = some (.slice A l k)) (hc2 : w.cell? ⟨b, o + (p.toNat - 1) * 3 + 2, none⟩ = some (.string s)) :
    Calls Try.prog 165 #[.agg #[u, t, i, .slice (some ⟨b, o, none⟩) n cap], .int .i64 p] w fun e w' => e = .returned (.tuple #[.agg #[.bool d, .slice A l k, .string s], .bool true]) ∧ ∃ x y, w' = (w.alloc x).alloc y := by
  go_enter Try.func165, Try.ntmps165
  go_wp2
  exact ret165 rfl rfl ⟨rfl, _, _, rfl⟩
theorem look165a (u t i : Value) (n cap : Nat) (w : World) (p : Int) (h1 : p < 1) (hn : n ≤ 1048576) (A : Option Addr) :
    Calls Try.prog 165 #[.agg #[u, t, i, .slice A n cap], .int .i64 p] w fun e w' => e = .returned (.tuple #[.agg #[.bool false, .slice none 0 0, .string ⟨#[]⟩], .bool false]) ∧ ∃ x y, w' = (w.alloc x).alloc y := by
  go_enter Try.func165, Try.ntmps165
  go_wp2
  exact ret165 rfl rfl ⟨rfl, _, _, rfl⟩
theorem look165b (u t i : Value) (n cap : Nat) (w : World) (p : Int) (h1 : 1 ≤ p) (h2 : (n : Int) < p) (hn : n ≤ 1048576) (A : Option Addr) :
    Calls Try.prog 165 #[.agg #[u, t, i, .slice A n cap], .int .i64 p] w fun e w' => e = .returned (.tuple #[.agg #[.bool false, .slice none 0 0, .string ⟨#[]⟩], .bool false]) ∧ ∃ x y, w' = (w.alloc x).alloc y := by
  have h3 : ¬ p ≤ (n : Int) := by omega
  go_enter Try.func165, Try.ntmps165
  go_wp2
  exact ret165 rfl rfl ⟨rfl, _, _, rfl⟩
theorem rel_nil {w : World} {m : IdMap} {d X : Nat → Prop} {xs : List AV} {vs : List Value} (h : RelL w m d X xs vs []) {k : Nat} {a : AV} (hk : xs[k]? = some a) : ∃ v, vs[k]? = some v ∧ RelV w m d X a v [] := by
  obtain ⟨u, G, h1, h2, h3⟩ := h.get hk
  have : G = [] := List.eq_nil_iff_forall_not_mem.2 fun x hx => by cases h3 x hx
  subst this
  exact ⟨u, h1, h2⟩
def lookR (m : Mem) (off : Nat) (p : Int) : Option (Nat × List AV) → Option (AV × Mem)
  | some (3, xs) => match xs[off + (p.toNat - 1)]? with
    | some (.agg [.bool d, .sl i2 o2 n2, .str s]) => if (liveOf m i2).isSome = true then some (.tup [.agg [.bool d, .sl i2 o2 n2, .str s], .bool true], []) else none
    | _ => none
  | _ => none
def lookQ : List AV → Mem → Option (AV × Mem)
  | [.agg [_, _, _, .sl id off n], .int .i64 p], m => if n ≤ 1048576 ∧ (liveOf m id).isSome = true then
      (if 1 ≤ p ∧ p ≤ (n : Int) then lookR m off p (liveOf m id) else some (.tup [.agg [.bool false, .nil, .str ⟨#[]⟩], .bool false], [])) else none
  | _, _ => none
noncomputable def lookO : List AV → Mem → Option (AV × Mem)
  | args, none :: m => lookQ args m
  | args, m => E T 165 args m
theorem lookR_len {m : Mem} {off : Nat} {p : Int} {r : Option (Nat × List AV)} {v : AV} {m' : Mem} (h : lookR m off p r = some (v, m')) : m' = [] := by
  unfold lookR at h
  split at h
  · split at h
    · split at h
      · cases h; rfl
      · cases h
    · cases h
  · cases h
theorem lookQ_len {args : List AV} {m : Mem} {v : AV} {m' : Mem} (h : lookQ args m = some (v, m')) : m' = [] := by
  unfold lookQ at h
  split at h
  · split at h
    · split at h
      · exact lookR_len h
      · cases h; rfl
    · cases h
  · cases h
theorem orc165 : OrcOk Try.prog 165 (E T 165) := orc_of_E mixed hTT (orcT_ok (table_ok _ _ _ _ _) (fun p hp => by cases List.mem_singleton.1 hp; exact sortOk)) t165
theorem look_ok {args : List AV} {m : Mem} {res : AV} (h : lookQ args m = some (res, [])) : QCall Try.prog 165 args m res := by
  intro Y w0 F0 live d M Fs w vs hx hr ha
  unfold lookQ at h
  split at h
  case h_2 => cases h
  rename_i a0 a1 a2 id off n p
  split at h
  case isFalse => cases h
  rename_i hc
  obtain ⟨hn, hl⟩ := hc
  obtain ⟨⟨sz, xs⟩, hid⟩ := Option.isSome_iff_exists.1 hl
  have hlive := hx id (sz, xs) hid
  -- the arguments
  have hlen0 := ha.length
  match vs, hlen0 with
  | [va, vb], _ =>
  obtain ⟨va', ea, ha1⟩ := rel_nil ha (k := 0) rfl
  obtain ⟨vb', eb, hb1⟩ := rel_nil ha (k := 1) rfl
  cases ea; cases eb
  cases hb1
  obtain ⟨us, rfl, hq1⟩ : ∃ us : List Value, va = .agg us.toArray ∧ RelL w M d (XOf Y M Fs) [a0, a1, a2, .sl id off n] us [] := by
    cases ha1 with | agg q => exact ⟨_, rfl, q⟩
  have hlen := hq1.length
  match us, hlen with
  | [v0, v1, v2, v3], _ =>
  obtain ⟨v3', e3, h3⟩ := rel_nil hq1 (k := 3) rfl
  cases e3
  have evo2 : ∀ x y : Obj, Evo (fun _ => False) w ((w.alloc x).alloc y) := fun x y => (evo_alloc _ w x).trans (evo_alloc _ _ y) (fun _ _ h => h)
  obtain ⟨fn, c, hfn, hname, hb⟩ := orc165.fn
  refine .of_calls hfn hname hb ?_
  split at h
  case isFalse =>
    rename_i hp
    cases h
    have v3s : ∃ A cap, v3 = .slice A n cap := by
      cases h3 with
      | sl hm hcap hcc => exact ⟨_, _, rfl⟩
      | sl0 A => exact ⟨A, 0, rfl⟩
      | slDead v hd => have := hr.ddom id hd; rw [hlive] at this; cases this
    obtain ⟨A, cap, rfl⟩ := v3s
    have key : Calls Try.prog 165 #[.agg #[v0, v1, v2, .slice A n cap], .int .i64 p] w fun e w' => e = .returned (.tuple #[.agg #[.bool false, .slice none 0 0, .string ⟨#[]⟩], .bool false]) ∧ ∃ x y, w' = (w.alloc x).alloc y := by
      by_cases h1 : 1 ≤ p
      · exact look165b v0 v1 v2 n cap w p h1 (by omega) hn A
      · exact look165a v0 v1 v2 n cap w p (by omega) hn A
    refine Calls.mono key ?_
    rintro e w' ⟨rfl, x, y, rfl⟩
    refine ⟨evo2 x y, ?_⟩
    exact .tup (F := []) (.cons (F := []) (.agg (.cons (F := []) (.bool false) (.cons (F := []) (.nil none) (.cons (F := []) (.str _) .nil)))) (.cons (F := []) (.bool false) .nil))
  case isTrue =>
    rename_i hp
    rw [hid] at h
    unfold lookR at h
    split at h
    case h_2 => cases h
    rename_i xs' hxx
    cases hxx
    split at h
    case h_2 => cases h
    rename_i dd i2 o2 n2 s hxs
    split at h
    case isFalse => cases h
    rename_i h2l
    cases h
    obtain ⟨y2, hy2⟩ := Option.isSome_iff_exists.1 h2l
    have hlive2 := hx i2 y2 hy2
    cases h3 with
    | sl0 A => exfalso; omega
    | slDead v hd => have := hr.ddom id hd; rw [hlive] at this; cases this
    | sl hm hcap hcc =>
      rename_i b o s' cap _ _
      obtain ⟨e1, he, us, hex, hrl⟩ := hr.cells id 3 xs b o s' hlive hm
      subst e1
      have hi := (List.getElem?_eq_some_iff.1 hxs).1
      obtain ⟨G, hG, hrow⟩ := row_cells he hrl hi
      have hg : xs.getD (off + (p.toNat - 1)) .undef = .agg [.bool dd, .sl i2 o2 n2, .str s] := by rw [List.getD, hxs]; rfl
      rw [hg] at hrow
      have hlen := hrow.length
      obtain ⟨u0, u1, u2, hu⟩ : ∃ u0 u1 u2, (us.drop ((off + (p.toNat - 1)) * 3)).take 3 = [u0, u1, u2] := by
        match hq : (us.drop ((off + (p.toNat - 1)) * 3)).take 3, hlen with
        | [u0, u1, u2], _ => exact ⟨u0, u1, u2, rfl⟩
      rw [hu] at hrow
      have at_ : ∀ j v, [u0, u1, u2][j]? = some v → us[(off + (p.toNat - 1)) * 3 + j]? = some v := by
        intro j v hj
        rw [← hu, List.getElem?_take] at hj
        split at hj
        · rwa [List.getElem?_drop] at hj
        · cases hj
      have hbl := hex.lt
      have cl : ∀ j v, [u0, u1, u2][j]? = some v → w.cell? ⟨b, o + off * 3 + (p.toNat - 1) * 3 + j, none⟩ = some v := by
        intro j v hj
        have := hex.at.cell (at_ j v hj)
        rw [show o + off * 3 + (p.toNat - 1) * 3 + j = o + ((off + (p.toNat - 1)) * 3 + j) by rw [Nat.add_mul]; omega]
        exact this
      cases hrow with
      | cons r0 t =>
      cases t with
      | cons r1 t =>
      cases t with
      | cons r2 t =>
      cases t
      cases r0
      cases r2
      have u1s : ∃ A l k, u1 = .slice A l k ∧ RelV w M d (XOf Y M Fs) (.sl i2 o2 n2) (.slice A l k) [] := by
        cases r1 with
        | sl hm2 hcap2 hcc2 => exact ⟨_, _, _, rfl, .sl hm2 hcap2 hcc2⟩
        | sl0 A => exact ⟨A, 0, 0, rfl, .sl0 A⟩
        | slDead v hd => have := hr.ddom i2 hd; rw [hlive2] at this; cases this
      obtain ⟨A, l, k, rfl, r1'⟩ := u1s
      have key := look165 v0 v1 v2 b (o + off * 3) cap n w p hp.1 hp.2 hn dd A l k s hbl (cl 0 _ rfl) (cl 1 _ rfl) (cl 2 _ rfl)
      refine Calls.mono key ?_
      rintro e w' ⟨rfl, x, y, rfl⟩
      refine ⟨evo2 x y, ?_⟩
      obtain ⟨_, C⟩ := hr.aside (evo2 x y)
      have r1'' := RelV.carry C r1' (fun b hb => by cases hb)
      exact .tup (F := []) (.cons (F := []) (.agg (.cons (F := []) (.bool dd) (.cons (F := []) r1'' (.cons (F := []) (.str s) .nil)))) (.cons (F := []) (.bool true) .nil))
theorem lookOk : OrcOk Try.prog 165 lookO where
  fn := orc165.fn
  pure := fun args res h => calls h
  qt := fun args mem res h => look_ok h
  wr := fun args mem res mem' h hcl hln => by
    cases mem with
    | nil => exact orc165.wr args [] res mem' h hcl hln
    | cons r m => cases r with
      | none =>
        have := lookQ_len (show lookQ args m = some (res, mem') from h)
        subst this
        cases hln
      | some sx => exact orc165.wr args (some sx :: m) res mem' h hcl hln
end Go.Proofs.Ytaaajjinpppgeaa

/- A second table: the sweep over names. Own work; no condition. -/
set_option linter.unusedVariables false
set_option linter.unusedSimpArgs false
set_option linter.unusedSectionVars false
namespace Go.Proofs.Ytaaajjinpppgeaa
open Go Go.Abs
set_option maxRecDepth 100000
def puresN : List FuncId := (List.range 600).filter fun k => !([51, 52, 57, 63, 90, 100, 104, 112, 145, 146, 151, 160, 161, 162, 196, 251, 186, 187, 190, 245, 189, 191, 204, 246, 261, 266, 267, 268, 269, 270, 271, 273, 274, 284, 285, 286, 287, 288, 289, 290, 291, 296, 298, 299, 305, 306, 308, 309, 242, 165] : List Nat).contains k
def hintsN : Hints := [(73, [(7, [.lay 4 1, .lay 5 1, .tidy [2, 3, 4, 5, 6] [(2, none), (3, none), (4, none), (5, none), (6, none), (3, some 2), (3, some 3)]]), (9, [.opn 3 (some 2) (some (6, 0)) 2 1]), (12, [.lay 4 1, .lay 5 1, .lay 8 1, .tidy [2, 3, 4, 5, 6, 7, 8, 9] [(2, none), (3, none), (4, none), (5, none), (6, none), (7, none), (8, none), (9, none), (3, some 2), (3, some 3), (7, some 2)]]), (14, [.opn 3 none none 0 1, .opn 3 none none 1 1, .opx 3 (some 3) 7 (some 2) 9 (-1) 1 2]), (18, [.lay 4 1, .lay 5 1, .lay 8 1, .tidy [2, 3, 4, 5, 6, 7, 8, 9, 10, 12] [(2, none), (3, none), (4, none), (5, none), (6, none), (7, none), (8, none), (9, none), (10, none), (12, none), (3, some 2), (3, some 3), (7, some 2), (10, some 1)]]), (21, [.opn 3 none none 0 1, .opn 3 none none 1 1]), (29, [.opn 3 none none 0 1, .opn 3 none none 1 1])]),
  (74, [(7, [.lay 4 1, .lay 5 1, .tidy [2, 3, 4, 5, 6] [(2, none), (3, none), (4, none), (5, none), (6, none)]]), (10, [.opn 3 none none 0 1, .opn 3 none none 1 1, .opn 3 none none 2 3, .opn 3 none none 3 3]), (12, [.lay 7 1, .tidy [2, 3, 4, 5, 6, 7, 8, 31, 32, 33] [(2, none), (3, none), (4, none), (5, none), (6, none), (7, none), (8, none), (31, none), (32, none), (33, none)]]), (15, [.opn 3 none none 3 3, .opn 3 (some 3) (some (10,-1)) 1 2]), (16, [.opn 3 none none 3 3, .opn 3 (some 3) (some (10,-1)) 1 2, .tidy [2, 3, 4, 5, 6, 7, 8, 10, 31, 32, 33, 43, 44, 45] [(2, none), (3, none), (4, none), (5, none), (6, none), (7, none), (8, none), (10, none), (31, none), (32, none), (33, none), (43, none), (44, none), (45, none)]]), (20, [.opn 3 none none 0 1, .opn 3 none none 1 1, .opn 3 none none 2 3, .opn 3 none none 3 3]), (22, [.opn 3 none none 3 3]), (30, [.opn 3 none none 0 1, .opn 3 none none 1 1, .opn 3 none none 2 3, .opn 3 none none 3 3])]),
  (174, [(4, [.tidy [2, 5, 9] [(2, none), (5, none), (9, none)]])]),
  (175, [(4, [.lay 7 1, .tidy [2, 7, 8, 16, 17, 18] [(2, none), (7, none), (8, none), (16, none), (17, none), (18, none)]])])]
def widsN : Wids := [(175, (.row 1 .one))]
noncomputable def SN : FuncId → Option EF := only' [13, 73, 74, 174, 175] (tableOf Try.prog tt puresN hintsN widsN)
noncomputable def SQ : FuncId → Option EF := orcT SN [(165, lookO)]
noncomputable def TN : FuncId → Option EF := ovl SQ T
theorem q165 (args : List AV) (mem : Mem) : E TN 165 args mem = lookO args mem := E_orc (F := ⟨.ret, [], 0, .one, some lookO⟩) (ovl_own rfl) rfl
theorem tabN {f : FuncId} {fn : Func} {F : EF} (hk : ([13, 73, 74, 174, 175] : List Nat).contains f = true) (hf : Try.prog.funcs[f]? = some fn) (h : (match compileF Try.prog tt puresN fn with | some A => annF (hintOf hintsN f) (widOf widsN f) A | none => none) = some F) : TN f = some F := ovl_own (orcT_at (by unfold SN only'; rw [if_pos hk]; exact table_at' hf h) (by have := hk; simp at this; rcases this with rfl | rfl | rfl | rfl | rfl <;> rfl))
theorem callsN {f : FuncId} {args : List AV} {res : AV} (h : E TN f args [] = some (res, [])) : ACalls Try.prog f args res := E_calls mixed hTT (ovl_ok mixed hTT (orcT_ok (table_ok _ _ _ _ _) (fun p hp => by cases List.mem_singleton.1 hp; exact sortOk)) (orcT_ok (only_ok (table_ok _ _ _ _ _)) (fun p hp => by cases List.mem_singleton.1 hp; exact lookOk))) h
theorem eN {f : FuncId} {F : EF} (hk : ([13, 73, 74, 174, 175, 165] : List Nat).contains f = false) (h : T f = some F) (args : List AV) (mem : Mem) : E TN f args mem = E T f args mem := ovl_E (by unfold SQ; simp only [orcT]; rw [if_neg (by rintro rfl; cases hk)]; unfold SN only'; rw [if_neg (fun hh => by simp at hh; rcases hh with rfl | rfl | rfl | rfl | rfl <;> cases hk)]) h args mem
-- laws.FnExactMendNames
def F13 : EF := ⟨(.seq (.region [(.op (.box 4) [(.tmp 0)] (some 1) true), (.op .mv [(.const (.bool false))] (some 2) true)] false) (.seq (.region [(.op .mv [(.const (.int .i64 1048576))] (some 3) true)] false) (.seq (.region [(.op (.loadN 4) [(.tmp 1)] (some 11) true), (.op .mv [(.tmp 3)] (some 12) true), (.pc (.const (.fn 38 [])) [(.tmp 11), (.tmp 12)] (some 13) true), (.op .mv [(.tmp 13)] (some 3) true)] false) (.seq (.seq (.region [(.op .mv [(.tmp 3)] (some 14) true), (.op (.bin .lss) [(.tmp 14), (.const (.int .i64 0))] (some 15) true)] false) (.cond (.tmp 15) (.seq (.region [(.op .mv [(.const (.bool true))] (some 2) true)] false) .ret) .skip)) (.seq (.region [(.op (.loadN 4) [(.tmp 1)] (some 16) true), (.pc (.const (.fn 40 [])) [(.tmp 16)] (some 17) true), (.pc (.const (.fn 73 [])) [(.tmp 17)] (some 18) true), (.op (.alloc (.agg [.nil, .nil, .nil, .nil])) [] (some 4) true), (.op (.storeN 4) [(.tmp 4), (.tmp 18)] none true)] false) (.seq (.region [(.op (.loadN 4) [(.tmp 1)] (some 19) true), (.pc (.const (.fn 40 [])) [(.tmp 19)] (some 20) true), (.op (.alloc (.agg [.nil, .nil, .nil, .nil])) [] (some 5) true), (.op (.storeN 4) [(.tmp 5), (.tmp 20)] none true)] false) (.seq (.region [(.op (.loadN 4) [(.tmp 5)] (some 21) true), (.pc (.const (.fn 74 [])) [(.tmp 21)] (some 22) true), (.op (.alloc (.agg [.nil, .nil, .nil, .nil])) [] (some 6) true), (.op (.storeN 4) [(.tmp 6), (.tmp 22)] none true)] false) (.seq (.seq (.region [(.op (.loadN 4) [(.tmp 6)] (some 23) true), (.op (.loadN 4) [(.tmp 4)] (some 24) true), (.pc (.const (.fn 42 [])) [(.tmp 23), (.tmp 24)] (some 25) true), (.op .not [(.tmp 25)] (some 26) true)] false) (.cond (.tmp 26) (.seq (.region [(.op .mv [(.const (.bool false))] (some 2) true)] false) .ret) .skip)) (.seq (.seq (.region [(.op (.loadN 4) [(.tmp 5)] (some 27) false), (.op (.loadN 4) [(.tmp 1)] (some 28) false), (.pc (.const (.fn 40 [])) [(.tmp 28)] (some 29) false), (.pc (.const (.fn 42 [])) [(.tmp 27), (.tmp 29)] (some 30) true), (.op .not [(.tmp 30)] (some 31) true)] true) (.cond (.tmp 31) (.seq (.region [(.op .mv [(.const (.bool false))] (some 2) true)] false) .ret) .skip)) (.seq (.region [(.op .mv [(.const (.int .i64 1))] (some 7) true)] false) (.seq (.region [(.op (.loadN 4) [(.tmp 5)] (some 32) true), (.op .mv [(.tmp 7)] (some 33) true), (.sc (.const (.fn 63 [])) [(.tmp 32), (.tmp 33)] (some 34) true), (.op .mv [(.tmp 34)] (some 7) true)] false) (.seq (.seq (.region [(.op .mv [(.tmp 7)] (some 35) true), (.op (.bin .lss) [(.tmp 35), (.const (.int .i64 0))] (some 36) true), (.op .mv [(.tmp 36)] (some 37) true), (.grp 37 false [(.op (.loadN 4) [(.tmp 6)] (some 38) true), (.op (.loadN 4) [(.tmp 4)] (some 39) true), (.pc (.const (.fn 42 [])) [(.tmp 38), (.tmp 39)] (some 40) true), (.op .not [(.tmp 40)] (some 41) true)] 41 42 true)] false) (.cond (.tmp 42) (.seq (.region [(.op .mv [(.const (.bool false))] (some 2) true)] false) .ret) .skip)) (.seq (.region [(.op .mv [(.const (.int .i64 1))] (some 8) true)] false) (.seq (.region [(.op (.loadN 4) [(.tmp 6)] (some 43) true), (.op .mv [(.tmp 8)] (some 44) true), (.sc (.const (.fn 63 [])) [(.tmp 43), (.tmp 44)] (some 45) true), (.op .mv [(.tmp 45)] (some 8) true)] false) (.seq (.region [(.op .mv [(.const (.int .i64 1))] (some 9) true)] false) (.seq (.region [(.op (.loadN 4) [(.tmp 6)] (some 46) true), (.op .mv [(.tmp 9)] (some 47) true), (.pc (.const (.fn 67 [])) [(.tmp 46), (.tmp 47)] (some 48) true), (.op .mv [(.tmp 48)] (some 9) true)] false) (.seq (.seq (.region [(.op .mv [(.tmp 9)] (some 49) true), (.op (.bin .lss) [(.tmp 49), (.const (.int .i64 0))] (some 50) true)] false) (.cond (.tmp 50) (.seq (.region [(.op .mv [(.const (.bool false))] (some 2) true)] false) .ret) .skip)) (.seq (.seq (.region [(.op .mv [(.tmp 9)] (some 51) true), (.op .mv [(.tmp 8)] (some 52) true), (.op (.bin .neq) [(.tmp 51), (.tmp 52)] (some 53) true)] false) (.cond (.tmp 53) (.seq (.region [(.op .mv [(.const (.bool false))] (some 2) true)] false) .ret) .skip)) (.seq (.region [(.op (.loadN 4) [(.tmp 1)] (some 54) true), (.pc (.const (.fn 40 [])) [(.tmp 54)] (some 55) true), (.pc (.const (.fn 74 [])) [(.tmp 55)] (some 56) true), (.op (.alloc (.agg [.nil, .nil, .nil, .nil])) [] (some 10) true), (.op (.storeN 4) [(.tmp 10), (.tmp 56)] none true)] false) (.seq (.seq (.region [(.op (.loadN 4) [(.tmp 10)] (some 57) true), (.op (.loadN 4) [(.tmp 4)] (some 58) true), (.pc (.const (.fn 42 [])) [(.tmp 57), (.tmp 58)] (some 59) true), (.op .not [(.tmp 59)] (some 60) true)] false) (.cond (.tmp 60) (.seq (.region [(.op .mv [(.const (.bool false))] (some 2) true)] false) .ret) .skip)) (.seq (.region [(.op .mv [(.const (.int .i64 1))] (some 9) true)] false) (.seq (.region [(.op (.loadN 4) [(.tmp 6)] (some 61) true), (.op .mv [(.tmp 9)] (some 62) true), (.pc (.const (.fn 67 [])) [(.tmp 61), (.tmp 62)] (some 63) true), (.op .mv [(.tmp 63)] (some 9) true)] false) (.seq (.seq (.region [(.op .mv [(.tmp 9)] (some 64) true), (.op (.bin .lss) [(.tmp 64), (.const (.int .i64 0))] (some 65) true)] false) (.cond (.tmp 65) (.seq (.region [(.op .mv [(.const (.bool false))] (some 2) true)] false) .ret) .skip)) (.seq (.seq (.region [(.op .mv [(.tmp 9)] (some 66) true), (.op .mv [(.tmp 8)] (some 67) true), (.op (.bin .neq) [(.tmp 66), (.tmp 67)] (some 68) true)] false) (.cond (.tmp 68) (.seq (.region [(.op .mv [(.const (.bool false))] (some 2) true)] false) .ret) .skip)) (.seq (.region [(.op .mv [(.const (.bool true))] (some 2) true)] false) .ret))))))))))))))))))))))))), [(.tmp 2)], 69, .one, none⟩
theorem t13 : TN 13 = some F13 := tabN rfl Try.func13 (by kernel_rfl)
def H73_18 : List Vw := [.lay 4 1, .lay 5 1, .lay 8 1, .tidy [2, 3, 4, 5, 6, 7, 8, 9, 10, 12] [(2, none), (3, none), (4, none), (5, none), (6, none), (7, none), (8, none), (9, none), (10, none), (12, none), (3, some 2), (3, some 3), (7, some 2), (10, some 1)]]
theorem h73_18 (b : Nat) (s : St) : vwL b H73_18 s = vwL b [.lay 4 1, .lay 5 1, .lay 8 1, .tidy [2, 3, 4, 5, 6, 7, 8, 9, 10, 12] [(2, none), (3, none), (4, none), (5, none), (6, none), (7, none), (8, none), (9, none), (10, none), (12, none), (3, some 2), (3, some 3), (7, some 2), (10, some 1)]] s := rfl
def L73_18 : EC := (.seq (.seq (.region [(.op .mv [(.tmp 12)] (some 80) true), (.op (.faddr 1) [(.tmp 10)] (some 81) true), (.op .load1 [(.tmp 81)] (some 82) true), (.op .len [(.tmp 82)] (some 83) true), (.op (.bin .lss) [(.tmp 80), (.tmp 83)] (some 84) true)] false) (.cond (.tmp 84) .skip (.exit 4))) (.seq (.block 5 (.seq (.seq (.region [(.op (.faddr 1) [(.tmp 10)] (some 87) true), (.op .load1 [(.tmp 87)] (some 88) true), (.op .mv [(.tmp 12)] (some 89) true), (.op (.iaddr 2) [(.tmp 88), (.tmp 89)] (some 90) true), (.op (.faddr 0) [(.tmp 90)] (some 91) true), (.op .load1 [(.tmp 91)] (some 92) true), (.op (.bin .eql) [(.tmp 92), (.const (.str ⟨#[]⟩))] (some 93) true)] false) (.cond (.tmp 93) (.exit 5) .skip)) (.seq (.seq (.view [.opn 3 none none 0 1, .opn 3 none none 1 1] (.region [(.op (.loadN 4) [(.tmp 3)] (some 94) false), (.op (.faddr 1) [(.tmp 10)] (some 95) false), (.op .load1 [(.tmp 95)] (some 96) false), (.op .mv [(.tmp 12)] (some 97) false), (.op (.iaddr 2) [(.tmp 96), (.tmp 97)] (some 98) false), (.op (.loadN 2) [(.tmp 98)] (some 99) false), (.op .mv [(.tmp 8)] (some 100) false), (.op .mv [(.tmp 4)] (some 101) false), (.pc (.const (.fn 174 [])) [(.tmp 94), (.tmp 99), (.tmp 100), (.tmp 101)] (some 102) true), (.op .not [(.tmp 102)] (some 103) true)] true)) (.cond (.tmp 103) (.seq (.region [(.op (.faddr 3) [(.tmp 3)] (some 104) false), (.op .load1 [(.tmp 104)] (some 105) false), (.op (.faddr 2) [(.tmp 7)] (some 106) false), (.op .load1 [(.tmp 106)] (some 107) false), (.op .mv [(.tmp 9)] (some 108) false), (.op (.iaddr 1) [(.tmp 107), (.tmp 108)] (some 109) false), (.op .load1 [(.tmp 109)] (some 110) false), (.op (.bin .sub) [(.tmp 110), (.const (.int .i64 1))] (some 111) false), (.op (.iaddr 3) [(.tmp 105), (.tmp 111)] (some 112) false), (.op (.faddr 1) [(.tmp 112)] (some 113) false), (.op .load1 [(.tmp 113)] (some 114) false), (.op .mv [(.tmp 12)] (some 115) false), (.op (.build [(.str ⟨#[]⟩), (.int .i64 0)] []) [] (some 116) false), (.op (.iaddr 2) [(.tmp 114), (.tmp 115)] (some 117) true), (.op (.storeN 2) [(.tmp 117), (.tmp 116)] none true)] true) (.exit 5)) .skip)) (.seq (.region [(.op .mv [(.tmp 8)] (some 118) true), (.op (.faddr 1) [(.tmp 10)] (some 119) true), (.op .load1 [(.tmp 119)] (some 120) true), (.op .mv [(.tmp 12)] (some 121) true), (.op (.iaddr 2) [(.tmp 120), (.tmp 121)] (some 122) true), (.op (.faddr 0) [(.tmp 122)] (some 123) true), (.op .load1 [(.tmp 123)] (some 124) true), (.op (.bslice 1 1 (.str ⟨#[]⟩) [0]) [(.tmp 124)] (some 125) true), (.op (.append 1 16) [(.tmp 118), (.tmp 125)] (some 126) true), (.op .mv [(.tmp 126)] (some 8) true)] false) (.seq (.region [(.op (.faddr 2) [(.tmp 3)] (some 127) false), (.op .load1 [(.tmp 127)] (some 128) false), (.op (.faddr 1) [(.tmp 10)] (some 129) false), (.op .load1 [(.tmp 129)] (some 130) false), (.op .mv [(.tmp 12)] (some 131) false), (.op (.iaddr 2) [(.tmp 130), (.tmp 131)] (some 132) false), (.op (.faddr 1) [(.tmp 132)] (some 133) false), (.op .load1 [(.tmp 133)] (some 134) false), (.op (.bin .sub) [(.tmp 134), (.const (.int .i64 1))] (some 135) false), (.op (.iaddr 3) [(.tmp 128), (.tmp 135)] (some 136) true), (.op (.faddr 0) [(.tmp 136)] (some 137) true), (.op .load1 [(.tmp 137)] (some 138) true), (.op (.bin .eql) [(.tmp 138), (.const (.int .i64 2))] (some 139) true)] true) (.cond (.tmp 139) (.region [(.op .mv [(.tmp 4)] (some 140) true), (.op (.faddr 1) [(.tmp 10)] (some 141) true), (.op .load1 [(.tmp 141)] (some 142) true), (.op .mv [(.tmp 12)] (some 143) true), (.op (.iaddr 2) [(.tmp 142), (.tmp 143)] (some 144) true), (.op (.faddr 1) [(.tmp 144)] (some 145) true), (.op .load1 [(.tmp 145)] (some 146) true), (.op (.bslice 1 1 (.int .i64 0) [0]) [(.tmp 146)] (some 147) true), (.op (.append 1 8) [(.tmp 140), (.tmp 147)] (some 148) true), (.op .mv [(.tmp 148)] (some 4) true)] false) .skip)))))) (.region [(.op .mv [(.tmp 12)] (some 85) true), (.op (.bin .add) [(.tmp 85), (.const (.int .i64 1))] (some 86) true), (.op .mv [(.tmp 86)] (some 12) true)] false)))
def H73_12 : List Vw := [.lay 4 1, .lay 5 1, .lay 8 1, .tidy [2, 3, 4, 5, 6, 7, 8, 9] [(2, none), (3, none), (4, none), (5, none), (6, none), (7, none), (8, none), (9, none), (3, some 2), (3, some 3), (7, some 2)]]
theorem h73_12 (b : Nat) (s : St) : vwL b H73_12 s = vwL b [.lay 4 1, .lay 5 1, .lay 8 1, .tidy [2, 3, 4, 5, 6, 7, 8, 9] [(2, none), (3, none), (4, none), (5, none), (6, none), (7, none), (8, none), (9, none), (3, some 2), (3, some 3), (7, some 2)]] s := rfl
def L73_12 : EC := (.seq (.seq (.region [(.op .mv [(.tmp 9)] (some 34) true), (.op (.faddr 2) [(.tmp 7)] (some 35) true), (.op .load1 [(.tmp 35)] (some 36) true), (.op .len [(.tmp 36)] (some 37) true), (.op (.bin .lss) [(.tmp 34), (.tmp 37)] (some 38) true), (.op .mv [(.tmp 38)] (some 39) true), (.grp 39 true [(.op (.faddr 0) [(.tmp 7)] (some 40) true), (.op .load1 [(.tmp 40)] (some 41) true), (.op (.bin .eql) [(.tmp 41), (.const (.int .i64 2))] (some 42) true)] 42 43 true)] false) (.cond (.tmp 43) .skip (.exit 2))) (.seq (.block 3 (.seq (.view [.opn 3 none none 0 1, .opn 3 none none 1 1, .opx 3 (some 3) 7 (some 2) 9 (-1) 1 2] (.region [(.op (.loadN 4) [(.tmp 3)] (some 47) false), (.op (.faddr 2) [(.tmp 7)] (some 48) false), (.op .load1 [(.tmp 48)] (some 49) false), (.op .mv [(.tmp 9)] (some 50) false), (.op (.iaddr 1) [(.tmp 49), (.tmp 50)] (some 51) false), (.op .load1 [(.tmp 51)] (some 52) false), (.sc (.const (.fn 165 [])) [(.tmp 47), (.tmp 52)] (some 53) false), (.op .mv [(.tmp 53)] (some 46) false), (.op (.ext 0) [(.tmp 46)] (some 54) false), (.op (.ext 1) [(.tmp 46)] (some 55) false), (.op (.alloc (.agg [(.bool false), .nil, (.str ⟨#[]⟩)])) [] (some 10) false), (.op (.storeN 3) [(.tmp 10), (.tmp 54)] none true), (.op .mv [(.tmp 55)] (some 11) true)] true)) (.seq (.seq (.region [(.op .mv [(.tmp 11)] (some 56) true), (.op .not [(.tmp 56)] (some 57) true), (.op .mv [(.tmp 57)] (some 58) true), (.grp 58 false [(.op (.faddr 0) [(.tmp 10)] (some 59) true), (.op .load1 [(.tmp 59)] (some 60) true), (.op .not [(.tmp 60)] (some 61) true)] 61 62 true), (.op .mv [(.tmp 62)] (some 63) true), (.grp 63 false [(.op .mv [(.tmp 5)] (some 64) true), (.op (.faddr 2) [(.tmp 7)] (some 65) true), (.op .load1 [(.tmp 65)] (some 66) true), (.op .mv [(.tmp 9)] (some 67) true), (.op (.iaddr 1) [(.tmp 66), (.tmp 67)] (some 68) true), (.op .load1 [(.tmp 68)] (some 69) true), (.pc (.const (.fn 126 [])) [(.tmp 64), (.tmp 69)] (some 70) true)] 70 71 true)] false) (.cond (.tmp 71) (.exit 3) .skip)) (.seq (.region [(.op .mv [(.tmp 5)] (some 72) true), (.op (.faddr 2) [(.tmp 7)] (some 73) true), (.op .load1 [(.tmp 73)] (some 74) true), (.op .mv [(.tmp 9)] (some 75) true), (.op (.iaddr 1) [(.tmp 74), (.tmp 75)] (some 76) true), (.op .load1 [(.tmp 76)] (some 77) true), (.op (.bslice 1 1 (.int .i64 0) [0]) [(.tmp 77)] (some 78) true), (.op (.append 1 8) [(.tmp 72), (.tmp 78)] (some 79) true), (.op .mv [(.tmp 79)] (some 5) true)] false) (.seq (.region [(.op .mv [(.const (.int .i64 0))] (some 12) true)] false) (.block 4 (.loop H73_18 L73_18))))))) (.region [(.op .mv [(.tmp 9)] (some 44) true), (.op (.bin .add) [(.tmp 44), (.const (.int .i64 1))] (some 45) true), (.op .mv [(.tmp 45)] (some 9) true)] false)))
def H73_7 : List Vw := [.lay 4 1, .lay 5 1, .tidy [2, 3, 4, 5, 6] [(2, none), (3, none), (4, none), (5, none), (6, none), (3, some 2), (3, some 3)]]
theorem h73_7 (b : Nat) (s : St) : vwL b H73_7 s = vwL b [.lay 4 1, .lay 5 1, .tidy [2, 3, 4, 5, 6] [(2, none), (3, none), (4, none), (5, none), (6, none), (3, some 2), (3, some 3)]] s := rfl
def L73_7 : EC := (.seq (.seq (.region [(.op .mv [(.tmp 6)] (some 21) true), (.op (.faddr 2) [(.tmp 3)] (some 22) true), (.op .load1 [(.tmp 22)] (some 23) true), (.op .len [(.tmp 23)] (some 24) true), (.op (.bin .lss) [(.tmp 21), (.tmp 24)] (some 25) true)] false) (.cond (.tmp 25) .skip (.exit 0))) (.seq (.block 1 (.seq (.view [.opn 3 (some 2) (some (6, 0)) 2 1] (.region [(.op (.faddr 2) [(.tmp 3)] (some 28) true), (.op .load1 [(.tmp 28)] (some 29) true), (.op .mv [(.tmp 6)] (some 30) true), (.op (.iaddr 3) [(.tmp 29), (.tmp 30)] (some 31) true), (.op (.loadN 3) [(.tmp 31)] (some 32) true), (.op (.alloc (.agg [(.int .i64 0), (.int .i64 0), .nil])) [] (some 7) true), (.op (.storeN 3) [(.tmp 7), (.tmp 32)] none true)] false)) (.seq (.region [(.op (.bslice 1 0 (.str ⟨#[]⟩) []) [] (some 33) true), (.op .mv [(.tmp 33)] (some 8) true)] false) (.seq (.region [(.op .mv [(.const (.int .i64 0))] (some 9) true)] false) (.block 2 (.loop H73_12 L73_12)))))) (.region [(.op .mv [(.tmp 6)] (some 26) true), (.op (.bin .add) [(.tmp 26), (.const (.int .i64 1))] (some 27) true), (.op .mv [(.tmp 27)] (some 6) true)] false)))
-- spec.MendNames
def F73 : EF := ⟨(.seq (.region [(.op (.box 4) [(.tmp 0)] (some 1) true), (.op (.alloc (.agg [.nil, .nil, .nil, .nil])) [] (some 2) true)] false) (.seq (.region [(.op (.loadN 4) [(.tmp 1)] (some 13) true), (.pc (.const (.fn 158 [])) [(.tmp 13)] (some 14) true), (.op (.alloc (.agg [.nil, .nil, .nil, .nil])) [] (some 3) true), (.op (.storeN 4) [(.tmp 3), (.tmp 14)] none true)] false) (.seq (.seq (.region [(.op (.loadN 4) [(.tmp 1)] (some 15) true), (.pc (.const (.fn 153 [])) [(.tmp 15)] (some 16) true), (.op .not [(.tmp 16)] (some 17) true)] false) (.cond (.tmp 17) (.seq (.region [(.op (.loadN 4) [(.tmp 3)] (some 18) true), (.op (.storeN 4) [(.tmp 2), (.tmp 18)] none true)] false) .ret) .skip)) (.seq (.region [(.op (.bslice 1 0 (.int .i64 0) []) [] (some 19) true), (.op .mv [(.tmp 19)] (some 4) true)] false) (.seq (.region [(.op (.bslice 1 0 (.int .i64 0) []) [] (some 20) true), (.op .mv [(.tmp 20)] (some 5) true)] false) (.seq (.seq (.region [(.op .mv [(.const (.int .i64 0))] (some 6) true)] false) (.block 0 (.loop H73_7 L73_7))) (.seq (.view [.opn 3 none none 0 1, .opn 3 none none 1 1] (.region [(.op (.loadN 4) [(.tmp 3)] (some 149) true), (.op (.storeN 4) [(.tmp 2), (.tmp 149)] none true)] false)) .ret))))))), [(.cell 2 (.loadN 4))], 150, .one, none⟩
theorem t73 : TN 73 = some F73 := tabN rfl Try.func73 (by kernel_rfl)
def H74_16 : List Vw := [.opn 3 none none 3 3, .opn 3 (some 3) (some (10,-1)) 1 2, .tidy [2, 3, 4, 5, 6, 7, 8, 10, 31, 32, 33, 43, 44, 45] [(2, none), (3, none), (4, none), (5, none), (6, none), (7, none), (8, none), (10, none), (31, none), (32, none), (33, none), (43, none), (44, none), (45, none)]]
theorem h74_16 (b : Nat) (s : St) : vwL b H74_16 s = vwL b [.opn 3 none none 3 3, .opn 3 (some 3) (some (10,-1)) 1 2, .tidy [2, 3, 4, 5, 6, 7, 8, 10, 31, 32, 33, 43, 44, 45] [(2, none), (3, none), (4, none), (5, none), (6, none), (7, none), (8, none), (10, none), (31, none), (32, none), (33, none), (43, none), (44, none), (45, none)]] s := rfl
def L74_16 : EC := (.seq (.region [(.op (.bin .lss) [(.tmp 45), (.tmp 44)] (some 46) true)] false) (.seq (.cond (.tmp 46) .skip (.exit 4)) (.seq (.block 5 (.seq (.region [(.op .mv [(.tmp 45)] (some 47) true), (.op (.iaddr 2) [(.tmp 43), (.tmp 45)] (some 48) true), (.op (.loadN 2) [(.tmp 48)] (some 49) true), (.op (.alloc (.agg [(.str ⟨#[]⟩), (.int .i64 0)])) [] (some 12) true), (.op .mv [(.tmp 47)] (some 11) true), (.op (.storeN 2) [(.tmp 12), (.tmp 49)] none true)] false) (.seq (.seq (.region [(.op (.faddr 0) [(.tmp 12)] (some 50) true), (.op .load1 [(.tmp 50)] (some 51) true), (.op (.bin .eql) [(.tmp 51), (.const (.str ⟨#[]⟩))] (some 52) true)] false) (.cond (.tmp 52) (.exit 5) .skip)) (.seq (.view [.opn 3 none none 0 1, .opn 3 none none 1 1, .opn 3 none none 2 3, .opn 3 none none 3 3] (.region [(.op (.loadN 4) [(.tmp 3)] (some 53) true), (.op (.faddr 1) [(.tmp 12)] (some 54) true), (.op .load1 [(.tmp 54)] (some 55) true), (.pc (.const (.fn 176 [])) [(.tmp 53), (.tmp 55)] (some 56) true), (.op (.field1 0) [(.tmp 56)] (some 57) true), (.op .mv [(.tmp 57)] (some 13) true)] false)) (.seq (.seq (.region [(.op .mv [(.tmp 13)] (some 58) true), (.op (.bin .eql) [(.tmp 58), (.const (.int .i64 0))] (some 59) true), (.op .mv [(.tmp 59)] (some 60) true), (.grp 60 false [(.op (.faddr 1) [(.tmp 12)] (some 61) true), (.op .load1 [(.tmp 61)] (some 62) true), (.op (.bin .eql) [(.tmp 62), (.const (.int .i64 1))] (some 63) true)] 63 64 true), (.op .mv [(.tmp 64)] (some 65) true), (.grp 65 false [(.op .mv [(.tmp 7)] (some 66) true), (.op (.faddr 0) [(.tmp 12)] (some 67) true), (.op .load1 [(.tmp 67)] (some 68) true), (.pc (.const (.fn 177 [])) [(.tmp 66), (.tmp 68)] (some 69) true)] 69 70 true), (.op .mv [(.tmp 70)] (some 71) true), (.grp 71 false [(.op .mv [(.tmp 5)] (some 72) true), (.op (.faddr 1) [(.tmp 12)] (some 73) true), (.op .load1 [(.tmp 73)] (some 74) true), (.pc (.const (.fn 130 [])) [(.tmp 72), (.tmp 74)] (some 75) true)] 75 76 true)] false) (.cond (.tmp 76) (.seq (.view [.opn 3 none none 3 3] (.region [(.op (.faddr 3) [(.tmp 3)] (some 77) true), (.op .load1 [(.tmp 77)] (some 78) true), (.op .mv [(.tmp 10)] (some 79) true), (.op (.bin .sub) [(.tmp 79), (.const (.int .i64 1))] (some 80) true), (.op (.iaddr 3) [(.tmp 78), (.tmp 80)] (some 81) true), (.op (.faddr 1) [(.tmp 81)] (some 82) true), (.op .load1 [(.tmp 82)] (some 83) true), (.op .mv [(.tmp 11)] (some 84) true), (.op (.build [(.str ⟨#[]⟩), (.int .i64 0)] []) [] (some 85) true), (.op (.iaddr 2) [(.tmp 83), (.tmp 84)] (some 86) true), (.op (.storeN 2) [(.tmp 86), (.tmp 85)] none true)] false)) (.exit 5)) .skip)) (.seq (.region [(.op .mv [(.tmp 7)] (some 87) true), (.op (.faddr 0) [(.tmp 12)] (some 88) true), (.op .load1 [(.tmp 88)] (some 89) true), (.op (.bslice 1 1 (.str ⟨#[]⟩) [0]) [(.tmp 89)] (some 90) true), (.op (.append 1 16) [(.tmp 87), (.tmp 90)] (some 91) true), (.op .mv [(.tmp 91)] (some 7) true)] false) (.seq (.region [(.op .mv [(.tmp 13)] (some 92) true), (.op (.bin .eql) [(.tmp 92), (.const (.int .i64 2))] (some 93) true)] false) (.cond (.tmp 93) (.region [(.op .mv [(.tmp 5)] (some 94) true), (.op (.faddr 1) [(.tmp 12)] (some 95) true), (.op .load1 [(.tmp 95)] (some 96) true), (.op (.bslice 1 1 (.int .i64 0) [0]) [(.tmp 96)] (some 97) true), (.op (.append 1 8) [(.tmp 94), (.tmp 97)] (some 98) true), (.op .mv [(.tmp 98)] (some 5) true)] false) .skip)))))))) (.region [(.op (.bin .add) [(.tmp 45), (.const (.int .i64 1))] (some 99) true), (.op .mv [(.tmp 99)] (some 45) true)] false))))
def H74_12 : List Vw := [.lay 7 1, .tidy [2, 3, 4, 5, 6, 7, 8, 31, 32, 33] [(2, none), (3, none), (4, none), (5, none), (6, none), (7, none), (8, none), (31, none), (32, none), (33, none)]]
theorem h74_12 (b : Nat) (s : St) : vwL b H74_12 s = vwL b [.lay 7 1, .tidy [2, 3, 4, 5, 6, 7, 8, 31, 32, 33] [(2, none), (3, none), (4, none), (5, none), (6, none), (7, none), (8, none), (31, none), (32, none), (33, none)]] s := rfl
def L74_12 : EC := (.seq (.region [(.op (.bin .lss) [(.tmp 33), (.tmp 32)] (some 34) true)] false) (.seq (.cond (.tmp 34) .skip (.exit 2)) (.seq (.block 3 (.seq (.region [(.op (.iaddr 1) [(.tmp 31), (.tmp 33)] (some 35) true), (.op .load1 [(.tmp 35)] (some 36) true), (.op .mv [(.tmp 36)] (some 10) true)] false) (.seq (.view [.opn 3 none none 3 3, .opn 3 (some 3) (some (10,-1)) 1 2] (.region [(.op (.faddr 3) [(.tmp 3)] (some 37) true), (.op .load1 [(.tmp 37)] (some 38) true), (.op .mv [(.tmp 10)] (some 39) true), (.op (.bin .sub) [(.tmp 39), (.const (.int .i64 1))] (some 40) true), (.op (.iaddr 3) [(.tmp 38), (.tmp 40)] (some 41) true), (.op (.faddr 1) [(.tmp 41)] (some 42) true), (.op .load1 [(.tmp 42)] (some 43) true), (.op .len [(.tmp 43)] (some 44) true), (.op .mv [(.const (.int .i64 0))] (some 45) true)] false)) (.block 4 (.loop H74_16 L74_16))))) (.region [(.op (.bin .add) [(.tmp 33), (.const (.int .i64 1))] (some 100) true), (.op .mv [(.tmp 100)] (some 33) true)] false))))
def H74_7 : List Vw := [.lay 4 1, .lay 5 1, .tidy [2, 3, 4, 5, 6] [(2, none), (3, none), (4, none), (5, none), (6, none)]]
theorem h74_7 (b : Nat) (s : St) : vwL b H74_7 s = vwL b [.lay 4 1, .lay 5 1, .tidy [2, 3, 4, 5, 6] [(2, none), (3, none), (4, none), (5, none), (6, none)]] s := rfl
def L74_7 : EC := (.seq (.seq (.region [(.op .mv [(.tmp 6)] (some 22) true), (.op (.bin .leq) [(.tmp 22), (.const (.int .i64 8))] (some 23) true)] false) (.cond (.tmp 23) .skip (.exit 0))) (.seq (.block 1 (.seq (.region [(.op (.bslice 1 0 (.str ⟨#[]⟩) []) [] (some 26) true), (.op .mv [(.tmp 26)] (some 7) true)] false) (.seq (.view [.opn 3 none none 0 1, .opn 3 none none 1 1, .opn 3 none none 2 3, .opn 3 none none 3 3] (.region [(.op (.loadN 4) [(.tmp 3)] (some 27) true), (.op .mv [(.tmp 6)] (some 28) true), (.op .mv [(.tmp 4)] (some 29) true), (.pc (.const (.fn 175 [])) [(.tmp 27), (.tmp 28), (.tmp 29)] (some 30) true), (.op .mv [(.tmp 30)] (some 8) true)] false)) (.seq (.seq (.region [(.op .mv [(.tmp 8)] (some 31) true), (.op .len [(.tmp 31)] (some 32) true), (.op .mv [(.const (.int .i64 0))] (some 33) true)] false) (.block 2 (.loop H74_12 L74_12))) (.region [(.op .mv [(.tmp 4)] (some 101) true), (.op .mv [(.tmp 8)] (some 102) true), (.op (.append 1 8) [(.tmp 101), (.tmp 102)] (some 103) true), (.op .mv [(.tmp 103)] (some 4) true)] false))))) (.region [(.op .mv [(.tmp 6)] (some 24) true), (.op (.bin .add) [(.tmp 24), (.const (.int .i64 1))] (some 25) true), (.op .mv [(.tmp 25)] (some 6) true)] false)))
-- impl.MendNames
def F74 : EF := ⟨(.seq (.region [(.op (.box 4) [(.tmp 0)] (some 1) true), (.op (.alloc (.agg [.nil, .nil, .nil, .nil])) [] (some 2) true)] false) (.seq (.region [(.op (.loadN 4) [(.tmp 1)] (some 14) true), (.pc (.const (.fn 159 [])) [(.tmp 14)] (some 15) true), (.op (.alloc (.agg [.nil, .nil, .nil, .nil])) [] (some 3) true), (.op (.storeN 4) [(.tmp 3), (.tmp 15)] none true)] false) (.seq (.seq (.region [(.op (.loadN 4) [(.tmp 1)] (some 16) true), (.pc (.const (.fn 155 [])) [(.tmp 16)] (some 17) true), (.op .not [(.tmp 17)] (some 18) true)] false) (.cond (.tmp 18) (.seq (.region [(.op (.loadN 4) [(.tmp 3)] (some 19) true), (.op (.storeN 4) [(.tmp 2), (.tmp 19)] none true)] false) .ret) .skip)) (.seq (.region [(.op (.bslice 1 0 (.int .i64 0) []) [] (some 20) true), (.op .mv [(.tmp 20)] (some 4) true)] false) (.seq (.region [(.op (.bslice 1 0 (.int .i64 0) []) [] (some 21) true), (.op .mv [(.tmp 21)] (some 5) true)] false) (.seq (.seq (.region [(.op .mv [(.const (.int .i64 1))] (some 6) true)] false) (.block 0 (.loop H74_7 L74_7))) (.seq (.view [.opn 3 none none 0 1, .opn 3 none none 1 1, .opn 3 none none 2 3, .opn 3 none none 3 3] (.region [(.op (.loadN 4) [(.tmp 3)] (some 104) true), (.op (.storeN 4) [(.tmp 2), (.tmp 104)] none true)] false)) .ret))))))), [(.cell 2 (.loadN 4))], 105, .one, none⟩
theorem t74 : TN 74 = some F74 := tabN rfl Try.func74 (by kernel_rfl)
def H174_4 : List Vw := [.tidy [2, 5, 9] [(2, none), (5, none), (9, none)]]
theorem h174_4 (b : Nat) (s : St) : vwL b H174_4 s = vwL b [.tidy [2, 5, 9] [(2, none), (5, none), (9, none)]] s := rfl
def L174_4 : EC := (.seq (.seq (.region [(.op .mv [(.tmp 9)] (some 30) true), (.op .mv [(.tmp 2)] (some 31) true), (.op .len [(.tmp 31)] (some 32) true), (.op (.bin .lss) [(.tmp 30), (.tmp 32)] (some 33) true)] false) (.cond (.tmp 33) .skip (.exit 0))) (.seq (.block 1 (.seq (.region [(.op .mv [(.tmp 2)] (some 36) false), (.op .mv [(.tmp 9)] (some 37) false), (.op (.iaddr 1) [(.tmp 36), (.tmp 37)] (some 38) false), (.op .load1 [(.tmp 38)] (some 39) false), (.op (.faddr 0) [(.tmp 5)] (some 40) false), (.op .load1 [(.tmp 40)] (some 41) false), (.op (.bin .eql) [(.tmp 39), (.tmp 41)] (some 42) true)] true) (.cond (.tmp 42) (.seq (.region [(.op .mv [(.const (.bool false))] (some 8) true)] false) .ret) .skip))) (.region [(.op .mv [(.tmp 9)] (some 34) true), (.op (.bin .add) [(.tmp 34), (.const (.int .i64 1))] (some 35) true), (.op .mv [(.tmp 35)] (some 9) true)] false)))
-- spec.l16Keep
def F174 : EF := ⟨(.seq (.region [(.op (.box 4) [(.tmp 0)] (some 4) true), (.op (.box 2) [(.tmp 1)] (some 5) true), (.op .mv [(.const (.bool false))] (some 8) true)] false) (.seq (.seq (.region [(.op (.faddr 1) [(.tmp 5)] (some 10) true), (.op .load1 [(.tmp 10)] (some 11) true), (.op (.bin .eql) [(.tmp 11), (.const (.int .i64 1))] (some 12) true), (.op .mv [(.tmp 12)] (some 13) true), (.grp 13 false [(.op (.faddr 2) [(.tmp 4)] (some 14) true), (.op .load1 [(.tmp 14)] (some 15) true), (.op (.faddr 1) [(.tmp 5)] (some 16) true), (.op .load1 [(.tmp 16)] (some 17) true), (.op (.bin .sub) [(.tmp 17), (.const (.int .i64 1))] (some 18) true), (.op (.iaddr 3) [(.tmp 15), (.tmp 18)] (some 19) true), (.op (.faddr 0) [(.tmp 19)] (some 20) true), (.op .load1 [(.tmp 20)] (some 21) true), (.op (.bin .eql) [(.tmp 21), (.const (.int .i64 0))] (some 22) true)] 22 23 true), (.op .mv [(.tmp 23)] (some 24) true), (.grp 24 false [(.op .mv [(.tmp 3)] (some 25) true), (.op (.faddr 1) [(.tmp 5)] (some 26) true), (.op .load1 [(.tmp 26)] (some 27) true), (.pc (.const (.fn 126 [])) [(.tmp 25), (.tmp 27)] (some 28) true)] 28 29 true)] false) (.cond (.tmp 29) (.seq (.region [(.op .mv [(.const (.bool false))] (some 8) true)] false) .ret) .skip)) (.seq (.seq (.region [(.op .mv [(.const (.int .i64 0))] (some 9) true)] false) (.block 0 (.loop H174_4 L174_4))) (.seq (.region [(.op .mv [(.const (.bool true))] (some 8) true)] false) .ret)))), [(.tmp 8)], 43, .one, none⟩
theorem t174 : TN 174 = some F174 := tabN rfl Try.func174 (by kernel_rfl)
def H175_4 : List Vw := [.lay 7 1, .tidy [2, 7, 8, 16, 17, 18] [(2, none), (7, none), (8, none), (16, none), (17, none), (18, none)]]
theorem h175_4 (b : Nat) (s : St) : vwL b H175_4 s = vwL b [.lay 7 1, .tidy [2, 7, 8, 16, 17, 18] [(2, none), (7, none), (8, none), (16, none), (17, none), (18, none)]] s := rfl
def L175_4 : EC := (.seq (.region [(.op (.bin .lss) [(.tmp 18), (.tmp 17)] (some 19) true)] false) (.seq (.cond (.tmp 19) .skip (.exit 0)) (.seq (.block 1 (.seq (.region [(.op (.iaddr 1) [(.tmp 16), (.tmp 18)] (some 20) true), (.op .load1 [(.tmp 20)] (some 21) true), (.op .mv [(.tmp 21)] (some 10) true)] false) (.seq (.region [(.op (.faddr 0) [(.tmp 8)] (some 22) true), (.op .load1 [(.tmp 22)] (some 23) true), (.op (.bin .eql) [(.tmp 23), (.const (.int .i64 2))] (some 24) true), (.op .mv [(.tmp 24)] (some 25) true), (.grp 25 true [(.op .mv [(.tmp 10)] (some 26) true), (.op (.bin .gtr) [(.tmp 26), (.const (.int .i64 0))] (some 27) true)] 27 28 true), (.op .mv [(.tmp 28)] (some 29) true), (.grp 29 true [(.op .mv [(.tmp 2)] (some 30) true), (.op .mv [(.tmp 10)] (some 31) true), (.pc (.const (.fn 130 [])) [(.tmp 30), (.tmp 31)] (some 32) true), (.op .not [(.tmp 32)] (some 33) true)] 33 34 true), (.op .mv [(.tmp 34)] (some 35) true), (.grp 35 true [(.op .mv [(.tmp 7)] (some 36) true), (.op .mv [(.tmp 10)] (some 37) true), (.pc (.const (.fn 130 [])) [(.tmp 36), (.tmp 37)] (some 38) true), (.op .not [(.tmp 38)] (some 39) true)] 39 40 true)] false) (.cond (.tmp 40) (.region [(.op .mv [(.tmp 7)] (some 41) true), (.op .mv [(.tmp 10)] (some 42) true), (.op (.bslice 1 1 (.int .i64 0) [0]) [(.tmp 42)] (some 43) true), (.op (.append 1 8) [(.tmp 41), (.tmp 43)] (some 44) true), (.op .mv [(.tmp 44)] (some 7) true)] false) .skip)))) (.region [(.op (.bin .add) [(.tmp 18), (.const (.int .i64 1))] (some 45) true), (.op .mv [(.tmp 45)] (some 18) true)] false))))
-- impl.dirBlocks
def F175 : EF := ⟨(.seq (.region [(.op (.box 4) [(.tmp 0)] (some 3) true), (.op .mv [(.const .nil)] (some 6) true)] false) (.seq (.region [(.op (.bslice 1 0 (.int .i64 0) []) [] (some 11) true), (.op .mv [(.tmp 11)] (some 7) true)] false) (.seq (.region [(.op (.loadN 4) [(.tmp 3)] (some 12) true), (.op .mv [(.tmp 1)] (some 13) true), (.pc (.const (.fn 176 [])) [(.tmp 12), (.tmp 13)] (some 14) true), (.op (.alloc (.agg [(.int .i64 0), (.int .i64 0), .nil])) [] (some 8) true), (.op (.storeN 3) [(.tmp 8), (.tmp 14)] none true)] false) (.seq (.seq (.region [(.op (.faddr 2) [(.tmp 8)] (some 15) true), (.op .load1 [(.tmp 15)] (some 16) true), (.op .len [(.tmp 16)] (some 17) true), (.op .mv [(.const (.int .i64 0))] (some 18) true)] false) (.block 0 (.loop H175_4 L175_4))) (.seq (.region [(.op .mv [(.tmp 7)] (some 46) true), (.op .mv [(.tmp 46)] (some 6) true)] false) .ret))))), [(.tmp 6)], 47, (.row 1 .one), none⟩
theorem t175 : TN 175 = some F175 := tabN rfl Try.func175 (by kernel_rfl)
end Go.Proofs.Ytaaajjinpppgeaa

/- The code of some functions, as the evaluator reads it (printed by a program of ours), checked against the program. Own work; no condition. -/
set_option linter.unusedVariables false
set_option linter.unusedSimpArgs false
set_option linter.unusedSectionVars false
namespace Go.Proofs.Ytaaajjinpppgeaa
open Go Go.Abs
set_option maxRecDepth 100000
-- spec.l08Dep
-- impl.depOk
-- impl.depPlace
-- impl.inodeAt
def F176 : EF := ⟨(.seq (.region [(.op (.box 4) [(.tmp 0)] (some 2) true), (.op (.alloc (.agg [(.int .i64 0), (.int .i64 0), .nil])) [] (some 4) true)] false) (.seq (.seq (.region [(.op .mv [(.tmp 1)] (some 5) true), (.op (.faddr 2) [(.tmp 2)] (some 6) true), (.op .load1 [(.tmp 6)] (some 7) true), (.op .len [(.tmp 7)] (some 8) true), (.pc (.const (.fn 117 [])) [(.tmp 5), (.const (.int .i64 1)), (.tmp 8)] (some 9) true), (.op .not [(.tmp 9)] (some 10) true)] false) (.cond (.tmp 10) (.seq (.region [(.op (.build [(.int .i64 0), (.int .i64 0), .nil] []) [] (some 11) true), (.op (.storeN 3) [(.tmp 4), (.tmp 11)] none true)] false) .ret) .skip)) (.seq (.region [(.op (.faddr 2) [(.tmp 2)] (some 12) true), (.op .load1 [(.tmp 12)] (some 13) true), (.op .mv [(.tmp 1)] (some 14) true), (.op (.bin .sub) [(.tmp 14), (.const (.int .i64 1))] (some 15) true), (.op (.iaddr 3) [(.tmp 13), (.tmp 15)] (some 16) true), (.op (.loadN 3) [(.tmp 16)] (some 17) true), (.op (.storeN 3) [(.tmp 4), (.tmp 17)] none true)] false) .ret))), [(.cell 4 (.loadN 3))], 18, (.agg [.one, .one, .rrow 1]), none⟩
theorem t176 : T 176 = some F176 := tab Try.func176 (by kernel_rfl) rfl
-- impl.isPtrDep
def F228 : EF := ⟨(.seq (.region [(.op (.box 11) [(.tmp 0)] (some 1) true), (.op .mv [(.const (.bool false))] (some 2) true)] false) (.seq (.region [(.op (.faddr 1) [(.tmp 1)] (some 3) true), (.op .load1 [(.tmp 3)] (some 4) true), (.op (.bin .eql) [(.tmp 4), (.const (.int .i64 1))] (some 5) true), (.op .mv [(.tmp 5)] (some 6) true), (.grp 6 false [(.op (.faddr 1) [(.tmp 1)] (some 7) true), (.op .load1 [(.tmp 7)] (some 8) true), (.op (.bin .eql) [(.tmp 8), (.const (.int .i64 6))] (some 9) true)] 9 10 true), (.op .mv [(.tmp 10)] (some 2) true)] false) .ret)), [(.tmp 2)], 11, .one, none⟩
theorem t228 : T 228 = some F228 := tab Try.func228 (by kernel_rfl) rfl
-- impl.isNameDep
def F229 : EF := ⟨(.seq (.region [(.op (.box 11) [(.tmp 0)] (some 1) true), (.op .mv [(.const (.bool false))] (some 2) true)] false) (.seq (.region [(.op (.faddr 1) [(.tmp 1)] (some 3) true), (.op .load1 [(.tmp 3)] (some 4) true), (.op (.bin .eql) [(.tmp 4), (.const (.int .i64 2))] (some 5) true), (.op .mv [(.tmp 5)] (some 6) true), (.grp 6 false [(.op (.faddr 1) [(.tmp 1)] (some 7) true), (.op .load1 [(.tmp 7)] (some 8) true), (.op (.bin .eql) [(.tmp 8), (.const (.int .i64 3))] (some 9) true)] 9 10 true), (.op .mv [(.tmp 10)] (some 2) true)] false) .ret)), [(.tmp 2)], 11, .one, none⟩
theorem t229 : T 229 = some F229 := tab Try.func229 (by kernel_rfl) rfl
-- slices.IndexFunc[[]impl.Dep,impl.Dep]
-- impl.depPlace$1
-- spec.MemOk
-- impl.MemOk
-- laws.FnExactMemOk
def F9 : EF := ⟨(.seq (.region [(.op (.box 7) [(.tmp 0)] (some 1) true), (.op .mv [(.const (.bool false))] (some 2) true)] false) (.seq (.region [(.op .mv [(.const (.int .i64 1048576))] (some 3) true)] false) (.seq (.region [(.op (.loadN 7) [(.tmp 1)] (some 7) true), (.op .mv [(.tmp 3)] (some 8) true), (.pc (.const (.fn 43 [])) [(.tmp 7), (.tmp 8)] (some 9) true), (.op .mv [(.tmp 9)] (some 3) true)] false) (.seq (.seq (.region [(.op .mv [(.tmp 3)] (some 10) true), (.op (.bin .lss) [(.tmp 10), (.const (.int .i64 0))] (some 11) true)] false) (.cond (.tmp 11) (.seq (.region [(.op .mv [(.const (.bool true))] (some 2) true)] false) .ret) .skip)) (.seq (.region [(.op (.loadN 7) [(.tmp 1)] (some 12) true), (.pc (.const (.fn 45 [])) [(.tmp 12)] (some 13) true), (.pc (.const (.fn 59 [])) [(.tmp 13)] (some 14) true), (.op .mv [(.tmp 14)] (some 4) true)] false) (.seq (.region [(.op (.loadN 7) [(.tmp 1)] (some 15) true), (.pc (.const (.fn 45 [])) [(.tmp 15)] (some 16) true), (.op (.alloc (.agg [.nil, .nil, .nil, .nil, .nil, .nil, (.int .i64 0)])) [] (some 5) true), (.op (.storeN 7) [(.tmp 5), (.tmp 16)] none true)] false) (.seq (.region [(.op (.loadN 7) [(.tmp 5)] (some 17) true), (.pc (.const (.fn 60 [])) [(.tmp 17)] (some 18) true), (.op .mv [(.tmp 18)] (some 6) true)] false) (.seq (.seq (.region [(.op .mv [(.tmp 6)] (some 19) true), (.op .mv [(.tmp 4)] (some 20) true), (.op (.binB true) [(.tmp 19), (.tmp 20)] (some 21) true)] false) (.cond (.tmp 21) (.seq (.region [(.op .mv [(.const (.bool false))] (some 2) true)] false) .ret) .skip)) (.seq (.seq (.region [(.op (.loadN 7) [(.tmp 5)] (some 22) false), (.op (.loadN 7) [(.tmp 1)] (some 23) false), (.pc (.const (.fn 45 [])) [(.tmp 23)] (some 24) false), (.pc (.const (.fn 47 [])) [(.tmp 22), (.tmp 24)] (some 25) true), (.op .not [(.tmp 25)] (some 26) true)] true) (.cond (.tmp 26) (.seq (.region [(.op .mv [(.const (.bool false))] (some 2) true)] false) .ret) .skip)) (.seq (.region [(.op .mv [(.const (.bool true))] (some 2) true)] false) .ret)))))))))), [(.tmp 2)], 27, .one, none⟩
theorem t9 : T 9 = some F9 := tab Try.func9 (by kernel_rfl) rfl
end Go.Proofs.Ytaaajjinpppgeaa

/- The code of some functions, as the evaluator reads it (printed by a program of ours), checked against the program. Own work; no condition. -/
set_option linter.unusedVariables false
set_option linter.unusedSimpArgs false
set_option linter.unusedSectionVars false
namespace Go.Proofs.Ytaaajjinpppgeaa
open Go Go.Abs
set_option maxRecDepth 100000
-- laws.FnExactImageBlock
-- spec.ImageBlock
-- impl.ImageBlock
-- spec.l04Copy
def F147 : EF := ⟨(.seq (.region [(.op (.box 3) [(.tmp 0)] (some 1) true), (.op (.alloc (.agg [(.bool false), .nil, (.str ⟨#[]⟩)])) [] (some 2) true)] false) (.seq (.region [(.op (.bslice 2 0 (.agg [(.str ⟨#[]⟩), (.int .i64 0)]) []) [] (some 3) true), (.op (.faddr 1) [(.tmp 1)] (some 4) true), (.op .load1 [(.tmp 4)] (some 5) true), (.op (.append 2 24) [(.tmp 3), (.tmp 5)] (some 6) true), (.op (.faddr 1) [(.tmp 1)] (some 7) true), (.op .store1 [(.tmp 7), (.tmp 6)] none true)] false) (.seq (.region [(.op (.loadN 3) [(.tmp 1)] (some 8) true), (.op (.storeN 3) [(.tmp 2), (.tmp 8)] none true)] false) .ret))), [(.cell 2 (.loadN 3))], 9, (.agg [.one, .row 2 .one, .one]), none⟩
theorem t147 : T 147 = some F147 := tab Try.func147 (by kernel_rfl) rfl
-- impl.copyBlock
def F148 : EF := ⟨(.seq (.region [(.op (.box 3) [(.tmp 0)] (some 1) true), (.op (.alloc (.agg [(.bool false), .nil, (.str ⟨#[]⟩)])) [] (some 2) true)] false) (.seq (.region [(.op (.bslice 2 0 (.agg [(.str ⟨#[]⟩), (.int .i64 0)]) []) [] (some 3) true), (.op (.faddr 1) [(.tmp 1)] (some 4) true), (.op .load1 [(.tmp 4)] (some 5) true), (.op (.append 2 24) [(.tmp 3), (.tmp 5)] (some 6) true), (.op (.faddr 1) [(.tmp 1)] (some 7) true), (.op .store1 [(.tmp 7), (.tmp 6)] none true)] false) (.seq (.region [(.op (.loadN 3) [(.tmp 1)] (some 8) true), (.op (.storeN 3) [(.tmp 2), (.tmp 8)] none true)] false) .ret))), [(.cell 2 (.loadN 3))], 9, (.agg [.one, .row 2 .one, .one]), none⟩
theorem t148 : T 148 = some F148 := tab Try.func148 (by kernel_rfl) rfl
-- impl.blockAt
end Go.Proofs.Ytaaajjinpppgeaa

/- The code of some functions, as the evaluator reads it (printed by a program of ours), checked against the program. Own work; no condition. -/
set_option linter.unusedVariables false
set_option linter.unusedSimpArgs false
set_option linter.unusedSectionVars false
namespace Go.Proofs.Ytaaajjinpppgeaa
open Go Go.Abs
set_option maxRecDepth 100000
-- spec.BitsOk
def F219 : EF := ⟨(.seq (.region [(.op (.box 2) [(.tmp 0)] (some 1) true), (.op .mv [(.const (.bool false))] (some 2) true)] false) (.seq (.region [(.op (.faddr 0) [(.tmp 1)] (some 3) true), (.op .load1 [(.tmp 3)] (some 4) true), (.op .len [(.tmp 4)] (some 5) true), (.op (.bin .eql) [(.tmp 5), (.const (.int .i64 16))] (some 6) true), (.op .mv [(.tmp 6)] (some 7) true), (.grp 7 true [(.op (.faddr 1) [(.tmp 1)] (some 8) true), (.op .load1 [(.tmp 8)] (some 9) true), (.op .len [(.tmp 9)] (some 10) true), (.op (.bin .eql) [(.tmp 10), (.const (.int .i64 8))] (some 11) true)] 11 12 true), (.op .mv [(.tmp 12)] (some 2) true)] false) .ret)), [(.tmp 2)], 13, .one, none⟩
theorem t219 : T 219 = some F219 := tab Try.func219 (by kernel_rfl) rfl
def H220_4 : List Vw := [.tidy [1, 3] [(1, none), (3, none)]]
theorem h220_4 (b : Nat) (s : St) : vwL b H220_4 s = vwL b [.tidy [1, 3] [(1, none), (3, none)]] s := rfl
def L220_4 : EC := (.seq (.seq (.region [(.op .mv [(.tmp 3)] (some 20) true), (.op (.bin .lss) [(.tmp 20), (.const (.int .i64 2))] (some 21) true)] false) (.cond (.tmp 21) .skip (.exit 0))) (.seq (.block 1 (.seq (.region [(.op (.faddr 2) [(.tmp 1)] (some 24) true), (.op .load1 [(.tmp 24)] (some 25) true), (.op .mv [(.tmp 3)] (some 26) true), (.op (.iaddr 1) [(.tmp 25), (.tmp 26)] (some 27) true), (.op .load1 [(.tmp 27)] (some 28) true), (.pc (.const (.fn 116 [])) [(.tmp 28), (.const (.int .i64 0)), (.const (.int .i64 16))] (some 29) true), (.op .not [(.tmp 29)] (some 30) true), (.op .mv [(.tmp 30)] (some 31) true), (.grp 31 false [(.op (.faddr 0) [(.tmp 1)] (some 32) true), (.op .load1 [(.tmp 32)] (some 33) true), (.op (.bin .eql) [(.tmp 33), (.const (.int .i64 0))] (some 34) true), (.op .mv [(.tmp 34)] (some 35) true), (.grp 35 true [(.op (.faddr 2) [(.tmp 1)] (some 36) true), (.op .load1 [(.tmp 36)] (some 37) true), (.op .mv [(.tmp 3)] (some 38) true), (.op (.iaddr 1) [(.tmp 37), (.tmp 38)] (some 39) true), (.op .load1 [(.tmp 39)] (some 40) true), (.op (.bin .neq) [(.tmp 40), (.const (.int .i64 0))] (some 41) true)] 41 42 true)] 42 43 true)] false) (.cond (.tmp 43) (.seq (.region [(.op .mv [(.const (.bool false))] (some 2) true)] false) .ret) .skip))) (.region [(.op .mv [(.tmp 3)] (some 22) true), (.op (.bin .add) [(.tmp 22), (.const (.int .i64 1))] (some 23) true), (.op .mv [(.tmp 23)] (some 3) true)] false)))
-- spec.InodeOk
def F220 : EF := ⟨(.seq (.region [(.op (.box 3) [(.tmp 0)] (some 1) true), (.op .mv [(.const (.bool false))] (some 2) true)] false) (.seq (.seq (.region [(.op (.faddr 0) [(.tmp 1)] (some 4) true), (.op .load1 [(.tmp 4)] (some 5) true), (.pc (.const (.fn 116 [])) [(.tmp 5), (.const (.int .i64 0)), (.const (.int .i64 2))] (some 6) true), (.op .not [(.tmp 6)] (some 7) true), (.op .mv [(.tmp 7)] (some 8) true), (.grp 8 false [(.op (.faddr 1) [(.tmp 1)] (some 9) true), (.op .load1 [(.tmp 9)] (some 10) true), (.pc (.const (.fn 116 [])) [(.tmp 10), (.const (.int .i64 0)), (.const (.int .i64 200))] (some 11) true), (.op .not [(.tmp 11)] (some 12) true)] 12 13 true), (.op .mv [(.tmp 13)] (some 14) true), (.grp 14 false [(.op (.faddr 2) [(.tmp 1)] (some 15) true), (.op .load1 [(.tmp 15)] (some 16) true), (.op .len [(.tmp 16)] (some 17) true), (.op (.bin .neq) [(.tmp 17), (.const (.int .i64 2))] (some 18) true)] 18 19 true)] false) (.cond (.tmp 19) (.seq (.region [(.op .mv [(.const (.bool false))] (some 2) true)] false) .ret) .skip)) (.seq (.seq (.region [(.op .mv [(.const (.int .i64 0))] (some 3) true)] false) (.block 0 (.loop H220_4 L220_4))) (.seq (.region [(.op (.faddr 0) [(.tmp 1)] (some 44) true), (.op .load1 [(.tmp 44)] (some 45) true), (.op (.bin .neq) [(.tmp 45), (.const (.int .i64 0))] (some 46) true), (.op .mv [(.tmp 46)] (some 47) true), (.grp 47 false [(.op (.faddr 1) [(.tmp 1)] (some 48) true), (.op .load1 [(.tmp 48)] (some 49) true), (.op (.bin .eql) [(.tmp 49), (.const (.int .i64 0))] (some 50) true)] 50 51 true), (.op .mv [(.tmp 51)] (some 2) true)] false) .ret)))), [(.tmp 2)], 52, .one, none⟩
theorem t220 : T 220 = some F220 := tab Try.func220 (by kernel_rfl) rfl
def H221_13 : List Vw := [.tidy [1, 3, 4, 5] [(1, none), (3, none), (4, none), (5, none)]]
theorem h221_13 (b : Nat) (s : St) : vwL b H221_13 s = vwL b [.tidy [1, 3, 4, 5] [(1, none), (3, none), (4, none), (5, none)]] s := rfl
def L221_13 : EC := (.seq (.seq (.region [(.op .mv [(.tmp 5)] (some 55) true), (.op .mv [(.tmp 3)] (some 56) true), (.op (.bin .lss) [(.tmp 55), (.tmp 56)] (some 57) true)] false) (.cond (.tmp 57) .skip (.exit 2))) (.seq (.block 3 (.seq (.region [(.op (.faddr 1) [(.tmp 1)] (some 60) false), (.op .load1 [(.tmp 60)] (some 61) false), (.op .mv [(.tmp 5)] (some 62) false), (.op (.iaddr 2) [(.tmp 61), (.tmp 62)] (some 63) false), (.op (.faddr 0) [(.tmp 63)] (some 64) false), (.op .load1 [(.tmp 64)] (some 65) false), (.op (.faddr 0) [(.tmp 4)] (some 66) false), (.op .load1 [(.tmp 66)] (some 67) false), (.op (.bin .eql) [(.tmp 65), (.tmp 67)] (some 68) true)] true) (.cond (.tmp 68) (.seq (.region [(.op .mv [(.const (.bool false))] (some 2) true)] false) .ret) .skip))) (.region [(.op .mv [(.tmp 5)] (some 58) true), (.op (.bin .add) [(.tmp 58), (.const (.int .i64 1))] (some 59) true), (.op .mv [(.tmp 59)] (some 5) true)] false)))
def H221_6 : List Vw := [.tidy [1, 3] [(1, none), (3, none)]]
theorem h221_6 (b : Nat) (s : St) : vwL b H221_6 s = vwL b [.tidy [1, 3] [(1, none), (3, none)]] s := rfl
def L221_6 : EC := (.seq (.seq (.region [(.op .mv [(.tmp 3)] (some 28) true), (.op (.bin .lss) [(.tmp 28), (.const (.int .i64 4))] (some 29) true)] false) (.cond (.tmp 29) .skip (.exit 0))) (.seq (.block 1 (.seq (.region [(.op (.faddr 1) [(.tmp 1)] (some 32) true), (.op .load1 [(.tmp 32)] (some 33) true), (.op .mv [(.tmp 3)] (some 34) true), (.op (.iaddr 2) [(.tmp 33), (.tmp 34)] (some 35) true), (.op (.loadN 2) [(.tmp 35)] (some 36) true), (.op (.alloc (.agg [(.str ⟨#[]⟩), (.int .i64 0)])) [] (some 4) true), (.op (.storeN 2) [(.tmp 4), (.tmp 36)] none true)] false) (.seq (.seq (.region [(.op (.faddr 0) [(.tmp 4)] (some 37) true), (.op .load1 [(.tmp 37)] (some 38) true), (.op (.bin .eql) [(.tmp 38), (.const (.str ⟨#[]⟩))] (some 39) true), (.op .mv [(.tmp 39)] (some 40) true), (.grp 40 true [(.op (.faddr 1) [(.tmp 4)] (some 41) true), (.op .load1 [(.tmp 41)] (some 42) true), (.op (.bin .eql) [(.tmp 42), (.const (.int .i64 0))] (some 43) true)] 43 44 true)] false) (.cond (.tmp 44) (.exit 1) .skip)) (.seq (.seq (.region [(.op (.faddr 0) [(.tmp 4)] (some 45) true), (.op .load1 [(.tmp 45)] (some 46) true), (.pc (.const (.fn 222 [])) [(.tmp 46)] (some 47) true), (.op .not [(.tmp 47)] (some 48) true), (.op .mv [(.tmp 48)] (some 49) true), (.grp 49 false [(.op (.faddr 1) [(.tmp 4)] (some 50) true), (.op .load1 [(.tmp 50)] (some 51) true), (.pc (.const (.fn 116 [])) [(.tmp 51), (.const (.int .i64 1)), (.const (.int .i64 8))] (some 52) true), (.op .not [(.tmp 52)] (some 53) true)] 53 54 true)] false) (.cond (.tmp 54) (.seq (.region [(.op .mv [(.const (.bool false))] (some 2) true)] false) .ret) .skip)) (.seq (.region [(.op .mv [(.const (.int .i64 0))] (some 5) true)] false) (.block 2 (.loop H221_13 L221_13))))))) (.region [(.op .mv [(.tmp 3)] (some 30) true), (.op (.bin .add) [(.tmp 30), (.const (.int .i64 1))] (some 31) true), (.op .mv [(.tmp 31)] (some 3) true)] false)))
-- spec.BlockOk
def F221 : EF := ⟨(.seq (.region [(.op (.box 3) [(.tmp 0)] (some 1) true), (.op .mv [(.const (.bool false))] (some 2) true)] false) (.seq (.seq (.region [(.op (.faddr 0) [(.tmp 1)] (some 6) true), (.op .load1 [(.tmp 6)] (some 7) true), (.op .not [(.tmp 7)] (some 8) true)] false) (.cond (.tmp 8) (.seq (.region [(.op (.faddr 1) [(.tmp 1)] (some 9) true), (.op .load1 [(.tmp 9)] (some 10) true), (.op .len [(.tmp 10)] (some 11) true), (.op (.bin .eql) [(.tmp 11), (.const (.int .i64 0))] (some 12) true), (.op .mv [(.tmp 12)] (some 13) true), (.grp 13 true [(.op (.faddr 2) [(.tmp 1)] (some 14) true), (.op .load1 [(.tmp 14)] (some 15) true), (.op .lenStr [(.tmp 15)] (some 16) true), (.op (.bin .leq) [(.tmp 16), (.const (.int .i64 16))] (some 17) true)] 17 18 true), (.op .mv [(.tmp 18)] (some 2) true)] false) .ret) .skip)) (.seq (.seq (.region [(.op (.faddr 1) [(.tmp 1)] (some 19) true), (.op .load1 [(.tmp 19)] (some 20) true), (.op .len [(.tmp 20)] (some 21) true), (.op (.bin .neq) [(.tmp 21), (.const (.int .i64 4))] (some 22) true), (.op .mv [(.tmp 22)] (some 23) true), (.grp 23 false [(.op (.faddr 2) [(.tmp 1)] (some 24) true), (.op .load1 [(.tmp 24)] (some 25) true), (.op (.bin .neq) [(.tmp 25), (.const (.str ⟨#[]⟩))] (some 26) true)] 26 27 true)] false) (.cond (.tmp 27) (.seq (.region [(.op .mv [(.const (.bool false))] (some 2) true)] false) .ret) .skip)) (.seq (.seq (.region [(.op .mv [(.const (.int .i64 0))] (some 3) true)] false) (.block 0 (.loop H221_6 L221_6))) (.seq (.region [(.op .mv [(.const (.bool true))] (some 2) true)] false) .ret))))), [(.tmp 2)], 69, .one, none⟩
theorem t221 : T 221 = some F221 := tab Try.func221 (by kernel_rfl) rfl
def H222_2 : List Vw := [.tidy [0, 3] [(0, none), (3, none)]]
theorem h222_2 (b : Nat) (s : St) : vwL b H222_2 s = vwL b [.tidy [0, 3] [(0, none), (3, none)]] s := rfl
def L222_2 : EC := (.seq (.seq (.region [(.op .mv [(.tmp 3)] (some 4) true), (.op .mv [(.tmp 0)] (some 5) true), (.op .lenStr [(.tmp 5)] (some 6) true), (.op (.bin .lss) [(.tmp 4), (.tmp 6)] (some 7) true)] false) (.cond (.tmp 7) .skip (.exit 0))) (.seq (.block 1 (.seq (.region [(.op .mv [(.tmp 0)] (some 10) true), (.op .mv [(.tmp 3)] (some 11) true), (.op .idxStr [(.tmp 10), (.tmp 11)] (some 12) true), (.op (.bin .lss) [(.tmp 12), (.const (.int .u8 97))] (some 13) true), (.op .mv [(.tmp 13)] (some 14) true), (.grp 14 false [(.op .mv [(.tmp 0)] (some 15) true), (.op .mv [(.tmp 3)] (some 16) true), (.op .idxStr [(.tmp 15), (.tmp 16)] (some 17) true), (.op (.bin .gtr) [(.tmp 17), (.const (.int .u8 122))] (some 18) true)] 18 19 true), (.op .mv [(.tmp 19)] (some 20) true), (.grp 20 true [(.op .mv [(.tmp 0)] (some 21) true), (.op .mv [(.tmp 3)] (some 22) true), (.op .idxStr [(.tmp 21), (.tmp 22)] (some 23) true), (.op (.bin .lss) [(.tmp 23), (.const (.int .u8 48))] (some 24) true), (.op .mv [(.tmp 24)] (some 25) true), (.grp 25 false [(.op .mv [(.tmp 0)] (some 26) true), (.op .mv [(.tmp 3)] (some 27) true), (.op .idxStr [(.tmp 26), (.tmp 27)] (some 28) true), (.op (.bin .gtr) [(.tmp 28), (.const (.int .u8 57))] (some 29) true)] 29 30 true)] 30 31 true)] false) (.cond (.tmp 31) (.seq (.region [(.op .mv [(.const (.bool false))] (some 2) true)] false) .ret) .skip))) (.region [(.op .mv [(.tmp 3)] (some 8) true), (.op (.bin .add) [(.tmp 8), (.const (.int .i64 1))] (some 9) true), (.op .mv [(.tmp 9)] (some 3) true)] false)))
-- spec.NameOk
def F222 : EF := ⟨(.seq (.region [(.op .mv [(.const (.bool false))] (some 2) true)] false) (.seq (.seq (.region [(.op .mv [(.const (.int .i64 0))] (some 3) true)] false) (.block 0 (.loop H222_2 L222_2))) (.seq (.region [(.op .mv [(.tmp 0)] (some 32) true), (.op .lenStr [(.tmp 32)] (some 33) true), (.pc (.const (.fn 116 [])) [(.tmp 33), (.const (.int .i64 1)), (.const (.int .i64 6))] (some 34) true), (.op .mv [(.tmp 34)] (some 2) true)] false) .ret))), [(.tmp 2)], 35, .one, none⟩
theorem t222 : T 222 = some F222 := tab Try.func222 (by kernel_rfl) rfl
def H223_2 : List Vw := [.tidy [1, 6, 7, 8] [(1, none), (6, none), (7, none), (8, none)]]
theorem h223_2 (b : Nat) (s : St) : vwL b H223_2 s = vwL b [.tidy [1, 6, 7, 8] [(1, none), (6, none), (7, none), (8, none)]] s := rfl
def L223_2 : EC := (.seq (.region [(.op (.bin .lss) [(.tmp 8), (.tmp 7)] (some 9) true)] false) (.seq (.cond (.tmp 9) .skip (.exit 0)) (.seq (.block 1 (.seq (.region [(.op (.iaddr 1) [(.tmp 6), (.tmp 8)] (some 10) true), (.op .load1 [(.tmp 10)] (some 11) true), (.op .mv [(.tmp 11)] (some 4) true)] false) (.seq (.region [(.op .mv [(.tmp 4)] (some 12) true), (.pc (.const (.fn 117 [])) [(.tmp 12), (.const (.int .i64 0)), (.const (.int .i64 16))] (some 13) true), (.op .not [(.tmp 13)] (some 14) true), (.op .mv [(.tmp 14)] (some 15) true), (.grp 15 false [(.op .mv [(.tmp 4)] (some 16) true), (.op (.bin .neq) [(.tmp 16), (.const (.int .i64 0))] (some 17) true), (.op .mv [(.tmp 17)] (some 18) true), (.grp 18 true [(.op (.faddr 0) [(.tmp 1)] (some 19) true), (.op .load1 [(.tmp 19)] (some 20) true), (.op (.bin .eql) [(.tmp 20), (.const (.int .i64 0))] (some 21) true)] 21 22 true)] 22 23 true)] false) (.cond (.tmp 23) (.seq (.region [(.op .mv [(.const (.bool false))] (some 2) true)] false) .ret) .skip)))) (.region [(.op (.bin .add) [(.tmp 8), (.const (.int .i64 1))] (some 24) true), (.op .mv [(.tmp 24)] (some 8) true)] false))))
-- impl.InodeOk
def F223 : EF := ⟨(.seq (.region [(.op (.box 3) [(.tmp 0)] (some 1) true), (.op .mv [(.const (.bool false))] (some 2) true)] false) (.seq (.seq (.region [(.op (.faddr 2) [(.tmp 1)] (some 5) true), (.op .load1 [(.tmp 5)] (some 6) true), (.op .len [(.tmp 6)] (some 7) true), (.op .mv [(.const (.int .i64 0))] (some 8) true)] false) (.block 0 (.loop H223_2 L223_2))) (.seq (.region [(.op (.faddr 0) [(.tmp 1)] (some 25) true), (.op .load1 [(.tmp 25)] (some 26) true), (.pc (.const (.fn 117 [])) [(.tmp 26), (.const (.int .i64 0)), (.const (.int .i64 2))] (some 27) true), (.op .mv [(.tmp 27)] (some 28) true), (.grp 28 true [(.op (.faddr 1) [(.tmp 1)] (some 29) true), (.op .load1 [(.tmp 29)] (some 30) true), (.pc (.const (.fn 117 [])) [(.tmp 30), (.const (.int .i64 0)), (.const (.int .i64 200))] (some 31) true)] 31 32 true), (.op .mv [(.tmp 32)] (some 33) true), (.grp 33 true [(.op (.faddr 2) [(.tmp 1)] (some 34) true), (.op .load1 [(.tmp 34)] (some 35) true), (.op .len [(.tmp 35)] (some 36) true), (.op (.bin .eql) [(.tmp 36), (.const (.int .i64 2))] (some 37) true)] 37 38 true), (.op .mv [(.tmp 38)] (some 39) true), (.grp 39 true [(.op (.faddr 0) [(.tmp 1)] (some 40) true), (.op .load1 [(.tmp 40)] (some 41) true), (.op (.bin .neq) [(.tmp 41), (.const (.int .i64 0))] (some 42) true), (.op .mv [(.tmp 42)] (some 43) true), (.grp 43 false [(.op (.faddr 1) [(.tmp 1)] (some 44) true), (.op .load1 [(.tmp 44)] (some 45) true), (.op (.bin .eql) [(.tmp 45), (.const (.int .i64 0))] (some 46) true)] 46 47 true)] 47 48 true), (.op .mv [(.tmp 48)] (some 2) true)] false) .ret))), [(.tmp 2)], 49, .one, none⟩
theorem t223 : T 223 = some F223 := tab Try.func223 (by kernel_rfl) rfl
def H224_4 : List Vw := [.tidy [1, 19, 20, 21] [(1, none), (19, none), (20, none), (21, none)]]
theorem h224_4 (b : Nat) (s : St) : vwL b H224_4 s = vwL b [.tidy [1, 19, 20, 21] [(1, none), (19, none), (20, none), (21, none)]] s := rfl
def L224_4 : EC := (.seq (.region [(.op (.bin .lss) [(.tmp 21), (.tmp 20)] (some 22) true)] false) (.seq (.cond (.tmp 22) .skip (.exit 0)) (.seq (.block 1 (.seq (.region [(.op .mv [(.tmp 21)] (some 23) true), (.op (.iaddr 2) [(.tmp 19), (.tmp 21)] (some 24) true), (.op (.loadN 2) [(.tmp 24)] (some 25) true), (.op (.alloc (.agg [(.str ⟨#[]⟩), (.int .i64 0)])) [] (some 4) true), (.op .mv [(.tmp 23)] (some 3) true), (.op (.storeN 2) [(.tmp 4), (.tmp 25)] none true)] false) (.seq (.seq (.region [(.op (.loadN 2) [(.tmp 4)] (some 26) true), (.op (.build [(.str ⟨#[]⟩), (.int .i64 0)] []) [] (some 27) true), (.op (.eqs false [2, 1]) [(.tmp 26), (.tmp 27)] (some 28) true)] false) (.cond (.tmp 28) (.exit 1) .skip)) (.seq (.region [(.op (.faddr 0) [(.tmp 4)] (some 29) true), (.op .load1 [(.tmp 29)] (some 30) true), (.pc (.const (.fn 230 [])) [(.tmp 30)] (some 31) true), (.op .not [(.tmp 31)] (some 32) true), (.op .mv [(.tmp 32)] (some 33) true), (.grp 33 false [(.op (.faddr 1) [(.tmp 4)] (some 34) true), (.op .load1 [(.tmp 34)] (some 35) true), (.pc (.const (.fn 227 [])) [(.tmp 35)] (some 36) true), (.op .not [(.tmp 36)] (some 37) true)] 37 38 true), (.op .mv [(.tmp 38)] (some 39) true), (.grp 39 false [(.op (.loadN 3) [(.tmp 1)] (some 40) true), (.op (.faddr 0) [(.tmp 4)] (some 41) true), (.op .load1 [(.tmp 41)] (some 42) true), (.pc (.const (.fn 265 [])) [(.tmp 40), (.tmp 42)] (some 43) true), (.op .mv [(.tmp 3)] (some 44) true), (.op (.bin .neq) [(.tmp 43), (.tmp 44)] (some 45) true)] 45 46 true)] false) (.cond (.tmp 46) (.seq (.region [(.op .mv [(.const (.bool false))] (some 2) true)] false) .ret) .skip))))) (.region [(.op (.bin .add) [(.tmp 21), (.const (.int .i64 1))] (some 47) true), (.op .mv [(.tmp 47)] (some 21) true)] false))))
-- impl.BlockOk
def F224 : EF := ⟨(.seq (.region [(.op (.box 3) [(.tmp 0)] (some 1) true), (.op .mv [(.const (.bool false))] (some 2) true)] false) (.seq (.seq (.region [(.op (.faddr 0) [(.tmp 1)] (some 5) true), (.op .load1 [(.tmp 5)] (some 6) true), (.op .not [(.tmp 6)] (some 7) true)] false) (.cond (.tmp 7) (.seq (.region [(.op (.faddr 1) [(.tmp 1)] (some 8) true), (.op .load1 [(.tmp 8)] (some 9) true), (.op .len [(.tmp 9)] (some 10) true), (.op (.bin .eql) [(.tmp 10), (.const (.int .i64 0))] (some 11) true), (.op .mv [(.tmp 11)] (some 12) true), (.grp 12 true [(.op (.faddr 2) [(.tmp 1)] (some 13) true), (.op .load1 [(.tmp 13)] (some 14) true), (.op .lenStr [(.tmp 14)] (some 15) true), (.op (.bin .leq) [(.tmp 15), (.const (.int .i64 16))] (some 16) true)] 16 17 true), (.op .mv [(.tmp 17)] (some 2) true)] false) .ret) .skip)) (.seq (.seq (.region [(.op (.faddr 1) [(.tmp 1)] (some 18) true), (.op .load1 [(.tmp 18)] (some 19) true), (.op .len [(.tmp 19)] (some 20) true), (.op .mv [(.const (.int .i64 0))] (some 21) true)] false) (.block 0 (.loop H224_4 L224_4))) (.seq (.region [(.op (.faddr 1) [(.tmp 1)] (some 48) true), (.op .load1 [(.tmp 48)] (some 49) true), (.op .len [(.tmp 49)] (some 50) true), (.op (.bin .eql) [(.tmp 50), (.const (.int .i64 4))] (some 51) true), (.op .mv [(.tmp 51)] (some 52) true), (.grp 52 true [(.op (.faddr 2) [(.tmp 1)] (some 53) true), (.op .load1 [(.tmp 53)] (some 54) true), (.op (.bin .eql) [(.tmp 54), (.const (.str ⟨#[]⟩))] (some 55) true)] 55 56 true), (.op .mv [(.tmp 56)] (some 2) true)] false) .ret)))), [(.tmp 2)], 57, .one, none⟩
theorem t224 : T 224 = some F224 := tab Try.func224 (by kernel_rfl) rfl
-- impl.BitsOk
def F225 : EF := ⟨(.seq (.region [(.op (.box 2) [(.tmp 0)] (some 1) true), (.op .mv [(.const (.bool false))] (some 2) true)] false) (.seq (.region [(.op (.faddr 0) [(.tmp 1)] (some 3) true), (.op .load1 [(.tmp 3)] (some 4) true), (.op .len [(.tmp 4)] (some 5) true), (.op (.bin .eql) [(.tmp 5), (.const (.int .i64 16))] (some 6) true), (.op .mv [(.tmp 6)] (some 7) true), (.grp 7 true [(.op (.faddr 1) [(.tmp 1)] (some 8) true), (.op .load1 [(.tmp 8)] (some 9) true), (.op .len [(.tmp 9)] (some 10) true), (.op (.bin .eql) [(.tmp 10), (.const (.int .i64 8))] (some 11) true)] 11 12 true), (.op .mv [(.tmp 12)] (some 2) true)] false) .ret)), [(.tmp 2)], 13, .one, none⟩
theorem t225 : T 225 = some F225 := tab Try.func225 (by kernel_rfl) rfl
-- impl.isBlock
-- impl.isIno
def F227 : EF := ⟨(.seq (.region [(.op .mv [(.const (.bool false))] (some 2) true)] false) (.seq (.region [(.op .mv [(.tmp 0)] (some 3) true), (.pc (.const (.fn 117 [])) [(.tmp 3), (.const (.int .i64 1)), (.const (.int .i64 8))] (some 4) true), (.op .mv [(.tmp 4)] (some 2) true)] false) .ret)), [(.tmp 2)], 5, .one, none⟩
theorem t227 : T 227 = some F227 := tab Try.func227 (by kernel_rfl) rfl
def H230_2 : List Vw := [.tidy [0, 5, 6] [(0, none), (5, none), (6, none)]]
theorem h230_2 (b : Nat) (s : St) : vwL b H230_2 s = vwL b [.tidy [0, 5, 6] [(0, none), (5, none), (6, none)]] s := rfl
def L230_2 : EC := (.seq (.region [(.op (.bin .lss) [(.tmp 6), (.tmp 5)] (some 7) true)] false) (.seq (.cond (.tmp 7) .skip (.exit 0)) (.seq (.block 1 (.seq (.region [(.op .mv [(.tmp 6)] (some 8) true), (.op .mv [(.tmp 8)] (some 3) true)] false) (.seq (.region [(.op .mv [(.tmp 0)] (some 9) true), (.op .mv [(.tmp 3)] (some 10) true), (.op .idxStr [(.tmp 9), (.tmp 10)] (some 11) true), (.op (.conv .i64) [(.tmp 11)] (some 12) true), (.pc (.const (.fn 117 [])) [(.tmp 12), (.const (.int .i64 97)), (.const (.int .i64 122))] (some 13) true), (.op .not [(.tmp 13)] (some 14) true), (.op .mv [(.tmp 14)] (some 15) true), (.grp 15 true [(.op .mv [(.tmp 0)] (some 16) true), (.op .mv [(.tmp 3)] (some 17) true), (.op .idxStr [(.tmp 16), (.tmp 17)] (some 18) true), (.op (.conv .i64) [(.tmp 18)] (some 19) true), (.pc (.const (.fn 117 [])) [(.tmp 19), (.const (.int .i64 48)), (.const (.int .i64 57))] (some 20) true), (.op .not [(.tmp 20)] (some 21) true)] 21 22 true)] false) (.cond (.tmp 22) (.seq (.region [(.op .mv [(.const (.bool false))] (some 2) true)] false) .ret) .skip)))) (.region [(.op (.bin .add) [(.tmp 6), (.const (.int .i64 1))] (some 23) true), (.op .mv [(.tmp 23)] (some 6) true)] false))))
-- impl.NameOk
def F230 : EF := ⟨(.seq (.region [(.op .mv [(.const (.bool false))] (some 2) true)] false) (.seq (.seq (.region [(.op .mv [(.tmp 0)] (some 4) true), (.op .lenStr [(.tmp 4)] (some 5) true), (.op .mv [(.const (.int .i64 0))] (some 6) true)] false) (.block 0 (.loop H230_2 L230_2))) (.seq (.region [(.op .mv [(.tmp 0)] (some 24) true), (.op .lenStr [(.tmp 24)] (some 25) true), (.pc (.const (.fn 117 [])) [(.tmp 25), (.const (.int .i64 1)), (.const (.int .i64 6))] (some 26) true), (.op .mv [(.tmp 26)] (some 2) true)] false) .ret))), [(.tmp 2)], 27, .one, none⟩
theorem t230 : T 230 = some F230 := tab Try.func230 (by kernel_rfl) rfl
-- impl.SlotOf
def F265 : EF := ⟨(.seq (.region [(.op (.box 3) [(.tmp 0)] (some 2) true), (.op (.box 1) [(.tmp 1)] (some 3) true), (.op .mv [(.const (.int .i64 0))] (some 4) true)] false) (.seq (.seq (.region [(.op .load1 [(.tmp 3)] (some 5) true), (.op (.bin .eql) [(.tmp 5), (.const (.str ⟨#[]⟩))] (some 6) true)] false) (.cond (.tmp 6) (.seq (.region [(.op .mv [(.const (.int .i64 (-1)))] (some 4) true)] false) .ret) .skip)) (.seq (.region [(.op (.faddr 1) [(.tmp 2)] (some 7) true), (.op .load1 [(.tmp 7)] (some 8) true), (.op (.mkfn 295) [(.tmp 3)] (some 9) true), (.pc (.const (.fn 294 [])) [(.tmp 8), (.tmp 9)] (some 10) true), (.op .mv [(.tmp 10)] (some 4) true)] false) .ret))), [(.tmp 4)], 11, .one, none⟩
theorem t265 : T 265 = some F265 := tab Try.func265 (by kernel_rfl) rfl
def H294_2 : List Vw := [.tidy [0, 1, 7, 8] [(0, none), (1, none), (7, none), (8, none)]]
theorem h294_2 (b : Nat) (s : St) : vwL b H294_2 s = vwL b [.tidy [0, 1, 7, 8] [(0, none), (1, none), (7, none), (8, none)]] s := rfl
def L294_2 : EC := (.seq (.region [(.op (.bin .lss) [(.tmp 8), (.tmp 7)] (some 9) true)] false) (.seq (.cond (.tmp 9) .skip (.exit 0)) (.seq (.block 1 (.seq (.region [(.op .mv [(.tmp 8)] (some 10) true), (.op .mv [(.tmp 10)] (some 5) true)] false) (.seq (.region [(.op .mv [(.tmp 1)] (some 11) true), (.op .mv [(.tmp 0)] (some 12) true), (.op .mv [(.tmp 5)] (some 13) true), (.op (.iaddr 2) [(.tmp 12), (.tmp 13)] (some 14) true), (.op (.loadN 2) [(.tmp 14)] (some 15) true), (.pc (.tmp 11) [(.tmp 15)] (some 16) true)] false) (.cond (.tmp 16) (.seq (.region [(.op .mv [(.tmp 5)] (some 17) true), (.op .mv [(.tmp 17)] (some 4) true)] false) .ret) .skip)))) (.region [(.op (.bin .add) [(.tmp 8), (.const (.int .i64 1))] (some 18) true), (.op .mv [(.tmp 18)] (some 8) true)] false))))
-- slices.IndexFunc[[]impl.Slot,impl.Slot]
def F294 : EF := ⟨(.seq (.region [(.op .mv [(.const (.int .i64 0))] (some 4) true)] false) (.seq (.seq (.region [(.op .mv [(.tmp 0)] (some 6) true), (.op .len [(.tmp 6)] (some 7) true), (.op .mv [(.const (.int .i64 0))] (some 8) true)] false) (.block 0 (.loop H294_2 L294_2))) (.seq (.region [(.op .mv [(.const (.int .i64 (-1)))] (some 4) true)] false) .ret))), [(.tmp 4)], 19, .one, none⟩
theorem t294 : T 294 = some F294 := tab Try.func294 (by kernel_rfl) rfl
-- impl.SlotOf$1
def F295 : EF := ⟨(.seq (.region [(.op (.box 2) [(.tmp 0)] (some 2) true), (.op .mv [(.const (.bool false))] (some 3) true)] false) (.seq (.region [(.op (.faddr 0) [(.tmp 2)] (some 4) true), (.op .load1 [(.tmp 4)] (some 5) true), (.op .load1 [(.tmp 1)] (some 6) true), (.op (.bin .eql) [(.tmp 5), (.tmp 6)] (some 7) true), (.op .mv [(.tmp 7)] (some 3) true)] false) .ret)), [(.tmp 3)], 8, .one, none⟩
theorem t295 : T 295 = some F295 := tab Try.func295 (by kernel_rfl) rfl
def H153_4 : List Vw := [.tidy [1, 3] [(1, none), (3, none)]]
theorem h153_4 (b : Nat) (s : St) : vwL b H153_4 s = vwL b [.tidy [1, 3] [(1, none), (3, none)]] s := rfl
def L153_4 : EC := (.seq (.seq (.region [(.op .mv [(.tmp 3)] (some 21) true), (.op (.faddr 2) [(.tmp 1)] (some 22) true), (.op .load1 [(.tmp 22)] (some 23) true), (.op .len [(.tmp 23)] (some 24) true), (.op (.bin .lss) [(.tmp 21), (.tmp 24)] (some 25) true)] false) (.cond (.tmp 25) .skip (.exit 0))) (.seq (.block 1 (.seq (.region [(.op (.faddr 2) [(.tmp 1)] (some 28) true), (.op .load1 [(.tmp 28)] (some 29) true), (.op .mv [(.tmp 3)] (some 30) true), (.op (.iaddr 3) [(.tmp 29), (.tmp 30)] (some 31) true), (.op (.loadN 3) [(.tmp 31)] (some 32) true), (.pc (.const (.fn 220 [])) [(.tmp 32)] (some 33) true), (.op .not [(.tmp 33)] (some 34) true)] false) (.cond (.tmp 34) (.seq (.region [(.op .mv [(.const (.bool false))] (some 2) true)] false) .ret) .skip))) (.region [(.op .mv [(.tmp 3)] (some 26) true), (.op (.bin .add) [(.tmp 26), (.const (.int .i64 1))] (some 27) true), (.op .mv [(.tmp 27)] (some 3) true)] false)))
def H153_10 : List Vw := [.tidy [1, 4] [(1, none), (4, none)]]
theorem h153_10 (b : Nat) (s : St) : vwL b H153_10 s = vwL b [.tidy [1, 4] [(1, none), (4, none)]] s := rfl
def L153_10 : EC := (.seq (.seq (.region [(.op .mv [(.tmp 4)] (some 35) true), (.op (.faddr 3) [(.tmp 1)] (some 36) true), (.op .load1 [(.tmp 36)] (some 37) true), (.op .len [(.tmp 37)] (some 38) true), (.op (.bin .lss) [(.tmp 35), (.tmp 38)] (some 39) true)] false) (.cond (.tmp 39) .skip (.exit 2))) (.seq (.block 3 (.seq (.region [(.op (.faddr 3) [(.tmp 1)] (some 42) true), (.op .load1 [(.tmp 42)] (some 43) true), (.op .mv [(.tmp 4)] (some 44) true), (.op (.iaddr 3) [(.tmp 43), (.tmp 44)] (some 45) true), (.op (.loadN 3) [(.tmp 45)] (some 46) true), (.pc (.const (.fn 221 [])) [(.tmp 46)] (some 47) true), (.op .not [(.tmp 47)] (some 48) true)] false) (.cond (.tmp 48) (.seq (.region [(.op .mv [(.const (.bool false))] (some 2) true)] false) .ret) .skip))) (.region [(.op .mv [(.tmp 4)] (some 40) true), (.op (.bin .add) [(.tmp 40), (.const (.int .i64 1))] (some 41) true), (.op .mv [(.tmp 41)] (some 4) true)] false)))
-- spec.DiskOk
def F153 : EF := ⟨(.seq (.region [(.op (.box 4) [(.tmp 0)] (some 1) true), (.op .mv [(.const (.bool false))] (some 2) true)] false) (.seq (.seq (.region [(.op (.faddr 0) [(.tmp 1)] (some 5) true), (.op (.loadN 2) [(.tmp 5)] (some 6) true), (.pc (.const (.fn 219 [])) [(.tmp 6)] (some 7) true), (.op .not [(.tmp 7)] (some 8) true), (.op .mv [(.tmp 8)] (some 9) true), (.grp 9 false [(.op (.faddr 2) [(.tmp 1)] (some 10) true), (.op .load1 [(.tmp 10)] (some 11) true), (.op .len [(.tmp 11)] (some 12) true), (.op (.bin .neq) [(.tmp 12), (.const (.int .i64 8))] (some 13) true)] 13 14 true), (.op .mv [(.tmp 14)] (some 15) true), (.grp 15 false [(.op (.faddr 3) [(.tmp 1)] (some 16) true), (.op .load1 [(.tmp 16)] (some 17) true), (.op .len [(.tmp 17)] (some 18) true), (.op (.bin .neq) [(.tmp 18), (.const (.int .i64 16))] (some 19) true)] 19 20 true)] false) (.cond (.tmp 20) (.seq (.region [(.op .mv [(.const (.bool false))] (some 2) true)] false) .ret) .skip)) (.seq (.seq (.region [(.op .mv [(.const (.int .i64 0))] (some 3) true)] false) (.block 0 (.loop H153_4 L153_4))) (.seq (.seq (.region [(.op .mv [(.const (.int .i64 0))] (some 4) true)] false) (.block 2 (.loop H153_10 L153_10))) (.seq (.region [(.op .mv [(.const (.bool true))] (some 2) true)] false) .ret))))), [(.tmp 2)], 49, .one, none⟩
theorem t153 : T 153 = some F153 := tab Try.func153 (by kernel_rfl) rfl
def H155_2 : List Vw := [.tidy [1, 8, 9, 10] [(1, none), (8, none), (9, none), (10, none)]]
theorem h155_2 (b : Nat) (s : St) : vwL b H155_2 s = vwL b [.tidy [1, 8, 9, 10] [(1, none), (8, none), (9, none), (10, none)]] s := rfl
def L155_2 : EC := (.seq (.region [(.op (.bin .lss) [(.tmp 10), (.tmp 9)] (some 11) true)] false) (.seq (.cond (.tmp 11) .skip (.exit 0)) (.seq (.block 1 (.seq (.region [(.op (.iaddr 3) [(.tmp 8), (.tmp 10)] (some 12) true), (.op (.loadN 3) [(.tmp 12)] (some 13) true), (.op (.alloc (.agg [(.int .i64 0), (.int .i64 0), .nil])) [] (some 4) true), (.op (.storeN 3) [(.tmp 4), (.tmp 13)] none true)] false) (.seq (.region [(.op (.loadN 3) [(.tmp 4)] (some 14) true), (.pc (.const (.fn 223 [])) [(.tmp 14)] (some 15) true), (.op .not [(.tmp 15)] (some 16) true)] false) (.cond (.tmp 16) (.seq (.region [(.op .mv [(.const (.bool false))] (some 2) true)] false) .ret) .skip)))) (.region [(.op (.bin .add) [(.tmp 10), (.const (.int .i64 1))] (some 17) true), (.op .mv [(.tmp 17)] (some 10) true)] false))))
def H155_9 : List Vw := [.tidy [1, 19, 20, 21] [(1, none), (19, none), (20, none), (21, none)]]
theorem h155_9 (b : Nat) (s : St) : vwL b H155_9 s = vwL b [.tidy [1, 19, 20, 21] [(1, none), (19, none), (20, none), (21, none)]] s := rfl
def L155_9 : EC := (.seq (.region [(.op (.bin .lss) [(.tmp 21), (.tmp 20)] (some 22) true)] false) (.seq (.cond (.tmp 22) .skip (.exit 2)) (.seq (.block 3 (.seq (.region [(.op (.iaddr 3) [(.tmp 19), (.tmp 21)] (some 23) true), (.op (.loadN 3) [(.tmp 23)] (some 24) true), (.op (.alloc (.agg [(.bool false), .nil, (.str ⟨#[]⟩)])) [] (some 6) true), (.op (.storeN 3) [(.tmp 6), (.tmp 24)] none true)] false) (.seq (.region [(.op (.loadN 3) [(.tmp 6)] (some 25) true), (.pc (.const (.fn 224 [])) [(.tmp 25)] (some 26) true), (.op .not [(.tmp 26)] (some 27) true)] false) (.cond (.tmp 27) (.seq (.region [(.op .mv [(.const (.bool false))] (some 2) true)] false) .ret) .skip)))) (.region [(.op (.bin .add) [(.tmp 21), (.const (.int .i64 1))] (some 28) true), (.op .mv [(.tmp 28)] (some 21) true)] false))))
-- impl.DiskOk
def F155 : EF := ⟨(.seq (.region [(.op (.box 4) [(.tmp 0)] (some 1) true), (.op .mv [(.const (.bool false))] (some 2) true)] false) (.seq (.seq (.region [(.op (.faddr 2) [(.tmp 1)] (some 7) true), (.op .load1 [(.tmp 7)] (some 8) true), (.op .len [(.tmp 8)] (some 9) true), (.op .mv [(.const (.int .i64 0))] (some 10) true)] false) (.block 0 (.loop H155_2 L155_2))) (.seq (.seq (.region [(.op (.faddr 3) [(.tmp 1)] (some 18) true), (.op .load1 [(.tmp 18)] (some 19) true), (.op .len [(.tmp 19)] (some 20) true), (.op .mv [(.const (.int .i64 0))] (some 21) true)] false) (.block 2 (.loop H155_9 L155_9))) (.seq (.region [(.op (.faddr 0) [(.tmp 1)] (some 29) true), (.op (.loadN 2) [(.tmp 29)] (some 30) true), (.pc (.const (.fn 225 [])) [(.tmp 30)] (some 31) true), (.op .mv [(.tmp 31)] (some 32) true), (.grp 32 true [(.op (.faddr 2) [(.tmp 1)] (some 33) true), (.op .load1 [(.tmp 33)] (some 34) true), (.op .len [(.tmp 34)] (some 35) true), (.op (.bin .eql) [(.tmp 35), (.const (.int .i64 8))] (some 36) true)] 36 37 true), (.op .mv [(.tmp 37)] (some 38) true), (.grp 38 true [(.op (.faddr 3) [(.tmp 1)] (some 39) true), (.op .load1 [(.tmp 39)] (some 40) true), (.op .len [(.tmp 40)] (some 41) true), (.op (.bin .eql) [(.tmp 41), (.const (.int .i64 16))] (some 42) true)] 42 43 true), (.op .mv [(.tmp 43)] (some 2) true)] false) .ret)))), [(.tmp 2)], 44, .one, none⟩
theorem t155 : T 155 = some F155 := tab Try.func155 (by kernel_rfl) rfl
end Go.Proofs.Ytaaajjinpppgeaa

/- The code of some functions, as the evaluator reads it (printed by a program of ours), checked against the program. Own work; no condition. -/
set_option linter.unusedVariables false
set_option linter.unusedSimpArgs false
set_option linter.unusedSectionVars false
namespace Go.Proofs.Ytaaajjinpppgeaa
open Go Go.Abs
set_option maxRecDepth 100000
-- laws.FnExactImageInode
-- spec.ImageInode
-- impl.ImageInode
-- spec.l01In
def F116 : EF := ⟨(.seq (.region [(.op .mv [(.const (.bool false))] (some 6) true)] false) (.seq (.region [(.op .mv [(.tmp 0)] (some 7) true), (.op .mv [(.tmp 1)] (some 8) true), (.op (.bin .geq) [(.tmp 7), (.tmp 8)] (some 9) true), (.op .mv [(.tmp 9)] (some 10) true), (.grp 10 true [(.op .mv [(.tmp 0)] (some 11) true), (.op .mv [(.tmp 2)] (some 12) true), (.op (.bin .leq) [(.tmp 11), (.tmp 12)] (some 13) true)] 13 14 true), (.op .mv [(.tmp 14)] (some 6) true)] false) .ret)), [(.tmp 6)], 15, .one, none⟩
theorem t116 : T 116 = some F116 := tab Try.func116 (by kernel_rfl) rfl
-- impl.within
def F117 : EF := ⟨(.seq (.region [(.op .mv [(.const (.bool false))] (some 6) true)] false) (.seq (.region [(.op .mv [(.tmp 0)] (some 7) true), (.op .mv [(.tmp 1)] (some 8) true), (.op (.bin .geq) [(.tmp 7), (.tmp 8)] (some 9) true), (.op .mv [(.tmp 9)] (some 10) true), (.grp 10 true [(.op .mv [(.tmp 0)] (some 11) true), (.op .mv [(.tmp 2)] (some 12) true), (.op (.bin .leq) [(.tmp 11), (.tmp 12)] (some 13) true)] 13 14 true), (.op .mv [(.tmp 14)] (some 6) true)] false) .ret)), [(.tmp 6)], 15, .one, none⟩
theorem t117 : T 117 = some F117 := tab Try.func117 (by kernel_rfl) rfl
-- spec.InodeNew
-- spec.l03Copy
def F142 : EF := ⟨(.seq (.region [(.op (.box 3) [(.tmp 0)] (some 1) true), (.op (.alloc (.agg [(.int .i64 0), (.int .i64 0), .nil])) [] (some 2) true)] false) (.seq (.region [(.op (.bslice 1 0 (.int .i64 0) []) [] (some 3) true), (.op (.faddr 2) [(.tmp 1)] (some 4) true), (.op .load1 [(.tmp 4)] (some 5) true), (.op (.append 1 8) [(.tmp 3), (.tmp 5)] (some 6) true), (.op (.faddr 2) [(.tmp 1)] (some 7) true), (.op .store1 [(.tmp 7), (.tmp 6)] none true)] false) (.seq (.region [(.op (.loadN 3) [(.tmp 1)] (some 8) true), (.op (.storeN 3) [(.tmp 2), (.tmp 8)] none true)] false) .ret))), [(.cell 2 (.loadN 3))], 9, (.agg [.one, .one, .row 1 .one]), none⟩
theorem t142 : T 142 = some F142 := tab Try.func142 (by kernel_rfl) rfl
-- impl.InodeNew
-- impl.copyInode
def F144 : EF := ⟨(.seq (.region [(.op (.box 3) [(.tmp 0)] (some 1) true), (.op (.alloc (.agg [(.int .i64 0), (.int .i64 0), .nil])) [] (some 2) true)] false) (.seq (.region [(.op (.faddr 2) [(.tmp 1)] (some 3) true), (.op .load1 [(.tmp 3)] (some 4) true), (.pc (.const (.fn 217 [])) [(.tmp 4)] (some 5) true), (.op (.faddr 2) [(.tmp 1)] (some 6) true), (.op .store1 [(.tmp 6), (.tmp 5)] none true)] false) (.seq (.region [(.op (.loadN 3) [(.tmp 1)] (some 7) true), (.op (.storeN 3) [(.tmp 2), (.tmp 7)] none true)] false) .ret))), [(.cell 2 (.loadN 3))], 8, (.agg [.one, .one, .row 1 .one]), none⟩
theorem t144 : T 144 = some F144 := tab Try.func144 (by kernel_rfl) rfl
-- impl.copyInts
def F217 : EF := ⟨(.seq (.region [(.op .mv [(.const .nil)] (some 2) true)] false) (.seq (.region [(.op (.bslice 1 0 (.int .i64 0) []) [] (some 3) true), (.op .mv [(.tmp 0)] (some 4) true), (.op (.append 1 8) [(.tmp 3), (.tmp 4)] (some 5) true), (.op .mv [(.tmp 5)] (some 2) true)] false) .ret)), [(.tmp 2)], 6, (.row 1 .one), none⟩
theorem t217 : T 217 = some F217 := tab Try.func217 (by kernel_rfl) rfl
end Go.Proofs.Ytaaajjinpppgeaa

/- ImageInode: what is written of an inode. Own work; no condition. -/
set_option linter.unusedVariables false
set_option linter.unusedSimpArgs false
set_option linter.unusedSectionVars false
namespace Go.Proofs.Ytaaajjinpppgeaa
open Go Go.Abs
set_option maxRecDepth 100000
def inside (x a b : Int) : Bool := decide (a ≤ x) && decide (x ≤ b)
theorem e116i (x a b : Int) : E T 116 [.int .i64 x, .int .i64 a, .int .i64 b] [] = some (.bool (inside x a b), []) := by
  rw [E_eq t116 (Nat.le_of_ble_eq_true rfl)]; simp only [F116, go_sem, seval]; rfl
theorem e117i (x a b : Int) : E T 117 [.int .i64 x, .int .i64 a, .int .i64 b] [] = some (.bool (inside x a b), []) := by
  rw [E_eq t117 (Nat.le_of_ble_eq_true rfl)]; simp only [F117, go_sem, seval]; rfl
theorem e217 (l : List Int) (hl : l.length ≤ 1048576) : E T 217 [.ro 1 (l.map iv)] [] = some (.own 1 (l.map iv), []) := by
  rw [E_eqW t217 (Nat.le_of_ble_eq_true rfl)]
  cases l with
  | nil => simp only [F217, go_sem, seval, bnd_ite]
  | cons x xs =>
    have e := iv_mi
    have h : (xs.length + 1) * 8 ≤ 140737488355328 := by simp only [List.length_cons] at hl; omega
    simp only [F217, iv, go_sem, seval, bnd_ite, h]
theorem e144 (x : Ino) (h : x.sm) : E T 144 [ino x] [] = some (inoO x, []) := by
  rw [E_eqW t144 (Nat.le_of_ble_eq_true rfl)]
  have e1 := e217 x.ptrs h
  have htk : (List.map iv x.ptrs).take x.ptrs.length = List.map iv x.ptrs := List.take_of_length_le (by simp)
  simp only [ino, F144, go_sem, seval, bnd_ite, e1, inoO, htk]
theorem e142 (x : Ino) (h : x.sm) : E T 142 [ino x] [] = some (inoO x, []) := by
  rw [E_eqW t142 (Nat.le_of_ble_eq_true rfl)]
  obtain ⟨a, b, l⟩ := x
  cases l with
  | nil => simp only [ino, F142, go_sem, seval, bnd_ite, inoO]
  | cons y ys =>
    have h : (ys.length + 1) * 8 ≤ 140737488355328 := by unfold Ino.sm at h; simp only [List.length_cons] at h; omega
    simp only [ino, F142, iv, go_sem, seval, bnd_ite, h, inoO]
end Go.Proofs.Ytaaajjinpppgeaa

/- Loops over a row: what is carried, what is looked for. Own work; no condition. -/
set_option linter.unusedVariables false
set_option linter.unusedSimpArgs false
set_option linter.unusedSectionVars false
namespace Go.Proofs.Ytaaajjinpppgeaa
open Go Go.Abs
section
variable {T : FuncId → Option EF} {b : Nat} {hd : List Vw} {x : EC} {α β : Type}
/-- A loop over a row that turns what is carried, and leaves behind the last one. -/
theorem XL_each (l : List α) (f : β → α → β) (S : Nat → β → St) (I : Nat → β → Prop) (Q : β → AX × St → Prop)
    (step : ∀ i a p, l[i]? = some p → i < l.length → I i a → XG T b hd x (S i a) = some (.normal, S (i + 1) (f a p)) ∧ I (i + 1) (f a p))
    (last : ∀ a, I l.length a → Stops (XG T b hd x (S l.length a)) (Q a)) (a : β) (ha : I 0 a) : ∃ r, XL T b hd x (S 0 a) = some r ∧ Q (l.foldl f a) r := by
  have key : ∀ k i a, i + k = l.length → I i a → ∃ r, XL T b hd x (S i a) = some r ∧ Q ((l.drop i).foldl f a) r := by
    intro k
    induction k with
    | zero =>
      intro i a hi hI
      have : i = l.length := by omega
      subst this
      obtain ⟨r, h1, h2, h3⟩ := last a hI
      exact ⟨r, XL_out h1 h2, by simpa using h3⟩
    | succ k ih =>
      intro i a hi hI
      have hlt : i < l.length := by omega
      obtain ⟨h1, h2⟩ := step i a l[i] (by simp [hlt]) hlt hI
      obtain ⟨r, h3, h4⟩ := ih (i + 1) (f a l[i]) (by omega) h2
      refine ⟨r, by rw [XL_eq, h1]; exact h3, ?_⟩
      rw [List.drop_eq_getElem_cons hlt]; exact h4
  obtain ⟨r, h1, h2⟩ := key l.length 0 a (by omega) ha
  exact ⟨r, h1, by simpa using h2⟩
/-- A loop over a row that looks for the first one that fits. -/
theorem XL_find (l : List α) (P : α → Bool) (S : Nat → St) (Q : Option Nat → AX × St → Prop)
    (step : ∀ i p, l[i]? = some p → i < l.length → P p = false → (∀ q ∈ l.take i, P q = false) → XG T b hd x (S i) = some (.normal, S (i + 1)))
    (hit : ∀ i p, l[i]? = some p → i < l.length → P p = true → (∀ q ∈ l.take i, P q = false) → Stops (XG T b hd x (S i)) (Q (some i)))
    (last : (∀ q ∈ l, P q = false) → Stops (XG T b hd x (S l.length)) (Q none)) : ∃ r, XL T b hd x (S 0) = some r ∧ Q (l.findIdx? P) r := by
  have key : ∀ k i, i + k = l.length → (∀ q ∈ l.take i, P q = false) → ∃ r, XL T b hd x (S i) = some r ∧ Q (((l.drop i).findIdx? P).map (· + i)) r := by
    intro k
    induction k with
    | zero =>
      intro i hi hp
      have : i = l.length := by omega
      subst this
      rw [List.take_length] at hp
      obtain ⟨r, h1, h2, h3⟩ := last hp
      exact ⟨r, XL_out h1 h2, by simpa using h3⟩
    | succ k ih =>
      intro i hi hp
      have hlt : i < l.length := by omega
      have hg : l[i]? = some l[i] := by simp [hlt]
      rw [List.drop_eq_getElem_cons hlt, List.findIdx?_cons]
      cases hP : P l[i] with
      | true =>
        obtain ⟨r, h1, h2, h3⟩ := hit i l[i] hg hlt hP hp
        exact ⟨r, XL_out h1 h2, by simpa [hP] using h3⟩
      | false =>
        have h1 := step i l[i] hg hlt hP hp
        obtain ⟨r, h3, h4⟩ := ih (i + 1) (by omega) (fun q hq => by
          rw [take_snoc hg, List.mem_append, List.mem_singleton] at hq
          rcases hq with hq | rfl
          · exact hp q hq
          · exact hP)
        refine ⟨r, by rw [XL_eq, h1]; exact h3, ?_⟩
        rw [if_neg (by simp)]
        have e : ((((l.drop (i + 1)).findIdx? P).map (· + 1)).map (· + i)) = ((l.drop (i + 1)).findIdx? P).map (· + (i + 1)) := by
          cases (l.drop (i + 1)).findIdx? P with
          | none => rfl
          | some n => simp only [Option.map_some]; congr 1; omega
        rw [e]; exact h4
  obtain ⟨r, h1, h2⟩ := key l.length 0 (by omega) (by simp)
  refine ⟨r, h1, ?_⟩
  have e : ((l.drop 0).findIdx? P).map (· + 0) = l.findIdx? P := by cases h : l.findIdx? P <;> simp [h]
  rw [e] at h2; exact h2
end
/-- A loop over a row that looks whether all are right. -/
theorem XL_all {T : FuncId → Option EF} {b : Nat} {hd : List Vw} {x : EC} {α : Type} (l : List α) (P : α → Bool) (S : Nat → St) (Qx Qr : AX × St → Prop)
    (step : ∀ i p, l[i]? = some p → i < l.length → P p = true → (∀ q ∈ l.take i, P q = true) → XG T b hd x (S i) = some (.normal, S (i + 1)))
    (hit : ∀ i p, l[i]? = some p → i < l.length → P p = false → (∀ q ∈ l.take i, P q = true) → Stops (XG T b hd x (S i)) Qr)
    (last : (∀ q ∈ l, P q = true) → Stops (XG T b hd x (S l.length)) Qx) : ∃ r, XL T b hd x (S 0) = some r ∧ (l.all P = true ∧ Qx r ∨ l.all P = false ∧ Qr r) := by
  obtain ⟨r, h1, h2⟩ := XL_find (T := T) (b := b) (hd := hd) (x := x) l (fun p => !P p) S (fun o r => (o = none → Qx r) ∧ (o ≠ none → Qr r))
    (fun i p h1 h2 h3 h4 => step i p h1 h2 (by simpa using h3) (fun q hq => by simpa using h4 q hq))
    (fun i p h1 h2 h3 h4 => by
      obtain ⟨r, k1, k2, k3⟩ := hit i p h1 h2 (by simpa using h3) (fun q hq => by simpa using h4 q hq)
      exact ⟨r, k1, k2, by simp, fun _ => k3⟩)
    (fun h => by
      obtain ⟨r, k1, k2, k3⟩ := last (fun q hq => by simpa using h q hq)
      exact ⟨r, k1, k2, fun _ => k3, by simp⟩)
  refine ⟨r, h1, ?_⟩
  cases e : l.all P with
  | true => exact .inl ⟨rfl, h2.1 (by simpa using e)⟩
  | false => exact .inr ⟨rfl, h2.2 (by simpa using e)⟩
theorem find_none {α : Type} {l : List α} {P : α → Bool} : l.findIdx? P = none ↔ ∀ q ∈ l, P q = false := by simp
end Go.Proofs.Ytaaajjinpppgeaa

/- What is right: names, inodes. Own work; no condition. -/
set_option linter.unusedVariables false
set_option linter.unusedSimpArgs false
set_option linter.unusedSectionVars false
namespace Go.Proofs.Ytaaajjinpppgeaa
open Go Go.Abs
set_option maxRecDepth 100000
theorem e219 (a b : List Bool) : E T 219 [.agg [.ro 1 (a.map bv), .ro 1 (b.map bv)]] [] = some (.bool (decide (a.length = 16) && decide (b.length = 8)), []) := by
  rw [E_eq t219 (Nat.le_of_ble_eq_true rfl)]
  simp only [F219, go_sem, seval, bnd_ite]
  by_cases h1 : a.length = 16 <;> by_cases h2 : b.length = 8 <;> simp [h1, h2] <;> omega
theorem e225 (a b : List Bool) : E T 225 [.agg [.ro 1 (a.map bv), .ro 1 (b.map bv)]] [] = some (.bool (decide (a.length = 16) && decide (b.length = 8)), []) := by
  rw [E_eq t225 (Nat.le_of_ble_eq_true rfl)]
  simp only [F225, go_sem, seval, bnd_ite]
  by_cases h1 : a.length = 16 <;> by_cases h2 : b.length = 8 <;> simp [h1, h2] <;> omega
theorem e227 (x : Int) : E T 227 [.int .i64 x] [] = some (.bool (inside x 1 8), []) := by
  rw [E_eq t227 (Nat.le_of_ble_eq_true rfl)]
  simp only [F227, go_sem, seval, bnd_ite, e117i]
/-- A sign of a name. -/
def sgn (c : UInt8) : Bool := inside c.toNat 97 122 || inside c.toNat 48 57
def nameOk (s : ByteArray) : Bool := s.data.toList.all sgn && inside s.size 1 6
theorem ba_len (s : ByteArray) : s.data.toList.length = s.size := Array.length_toList
theorem e222 (s : ByteArray) (hl : s.size ≤ maxLen) : E T 222 [.str s] [] = some (.bool (nameOk s), []) := by
  rw [E_eq t222 (Nat.le_of_ble_eq_true rfl)]
  have hn := ba_len s
  unfold maxLen at hl
  refine (XL_all (T := T) (b := 0) (hd := H222_2) (x := L222_2) s.data.toList sgn (fun i => ⟨[(0, .str s), (3, .int .i64 (i : Nat))], []⟩)
    (fun r => r.1 = .exit 0 ∧ lookA r.2.env 0 = .str s) (fun r => r.1 = .ret ∧ lookA r.2.env 2 = .bool false) ?step ?hit ?last).elim ?main
  case step =>
    intro i c hc hi hp _
    have hi1 : (i : Int) < (s.size : Int) := by omega
    have gc : s.data.toList.getD i 0 = c := by simp [List.getD, hc]
    simp only [XG, L222_2, h222_2, go_sem, seval, bnd_ite, hi1, Int.toNat_natCast, gc, Int.natCast_nonneg, w_i64 ((i : Int) + 1) (by omega)]
    have hf : ((decide ((c.toNat : Int) < 97) || decide (122 < (c.toNat : Int))) && (decide ((c.toNat : Int) < 48) || decide (57 < (c.toNat : Int)))) = false := by
      rw [← Bool.not_eq_true]; intro h
      simp only [sgn, inside, Bool.or_eq_true, Bool.and_eq_true, decide_eq_true_eq] at hp h
      omega
    rw [hf]; simp only [Bool.false_eq_true, if_false]
    rfl
  case hit =>
    intro i c hc hi hp _
    have hi1 : (i : Int) < (s.size : Int) := by omega
    have gc : s.data.toList.getD i 0 = c := by simp [List.getD, hc]
    have hf : ((decide ((c.toNat : Int) < 97) || decide (122 < (c.toNat : Int))) && (decide ((c.toNat : Int) < 48) || decide (57 < (c.toNat : Int)))) = true := by
      simp only [sgn, inside, Bool.or_eq_false_iff, Bool.and_eq_false_iff, decide_eq_false_iff_not] at hp
      simp only [Bool.or_eq_true, Bool.and_eq_true, decide_eq_true_eq]
      omega
    simp only [XG, L222_2, h222_2, go_sem, seval, bnd_ite, hi1, Int.toNat_natCast, gc, Int.natCast_nonneg, w_i64 ((i : Int) + 1) (by omega), hf, if_true]
    exact .mk (by simp) ⟨rfl, rfl⟩
  case last =>
    intro _
    simp only [XG, L222_2, h222_2, go_sem, seval, bnd_ite, hn, Int.lt_irrefl, decide_false]
    exact .mk (by simp) ⟨rfl, rfl⟩
  case main =>
  rintro ⟨y, e, m⟩ ⟨k1, k2⟩
  have hs : ((0 : Nat) : Int) = 0 := rfl
  simp only [hs] at k1
  unfold nameOk
  rcases k2 with ⟨h, k2, k3⟩ | ⟨h, k2, k3⟩ <;> simp only at k2 k3 <;> subst k2
  · simp only [F222, h222_2, go_sem, seval, bnd_ite, k1, k3, e116i, h, Bool.true_and]
  · simp only [F222, h222_2, go_sem, seval, bnd_ite, k1, k3, h, Bool.false_and]
theorem e230 (s : ByteArray) (hl : s.size ≤ maxLen) : E T 230 [.str s] [] = some (.bool (nameOk s), []) := by
  rw [E_eq t230 (Nat.le_of_ble_eq_true rfl)]
  have hn := ba_len s
  unfold maxLen at hl
  refine (XL_all (T := T) (b := 0) (hd := H230_2) (x := L230_2) s.data.toList sgn (fun i => ⟨[(0, .str s), (5, .int .i64 s.size), (6, .int .i64 (i : Nat))], []⟩)
    (fun r => r.1 = .exit 0 ∧ lookA r.2.env 0 = .str s) (fun r => r.1 = .ret ∧ lookA r.2.env 2 = .bool false) ?step ?hit ?last).elim ?main
  case step =>
    intro i c hc hi hp _
    have hi1 : (i : Int) < (s.size : Int) := by omega
    have gc : s.data.toList.getD i 0 = c := by simp [List.getD, hc]
    have hw : (c.toNat : Int) ≤ 255 := by have := c.toNat_lt; omega
    simp only [sgn] at hp
    have hf : (!inside (c.toNat : Int) 97 122 && !inside (c.toNat : Int) 48 57) = false := by
      rw [← Bool.not_or, hp]; rfl
    simp only [XG, L230_2, h230_2, go_sem, seval, bnd_ite, hi1, Int.toNat_natCast, gc, Int.natCast_nonneg, w_i64 (c.toNat : Int) (by omega), w_i64 ((i : Int) + 1) (by omega), e117i, hf, Bool.false_eq_true, if_false]
    rfl
  case hit =>
    intro i c hc hi hp _
    have hi1 : (i : Int) < (s.size : Int) := by omega
    have gc : s.data.toList.getD i 0 = c := by simp [List.getD, hc]
    have hw : (c.toNat : Int) ≤ 255 := by have := c.toNat_lt; omega
    simp only [sgn] at hp
    have hf : (!inside (c.toNat : Int) 97 122 && !inside (c.toNat : Int) 48 57) = true := by
      rw [← Bool.not_or, hp]; rfl
    simp only [XG, L230_2, h230_2, go_sem, seval, bnd_ite, hi1, Int.toNat_natCast, gc, Int.natCast_nonneg, w_i64 (c.toNat : Int) (by omega), w_i64 ((i : Int) + 1) (by omega), e117i, hf, if_true]
    exact .mk (by simp) ⟨rfl, rfl⟩
  case last =>
    intro _
    simp only [XG, L230_2, h230_2, go_sem, seval, bnd_ite, hn, Int.lt_irrefl, decide_false]
    exact .mk (by simp) ⟨rfl, rfl⟩
  case main =>
  rintro ⟨y, e, m⟩ ⟨k1, k2⟩
  have hs : ((0 : Nat) : Int) = 0 := rfl
  simp only [hs] at k1
  unfold nameOk
  rcases k2 with ⟨h, k2, k3⟩ | ⟨h, k2, k3⟩ <;> simp only at k2 k3 <;> subst k2
  · simp only [F230, h230_2, go_sem, seval, bnd_ite, k1, k3, e117i, h, Bool.true_and]
  · simp only [F230, h230_2, go_sem, seval, bnd_ite, k1, k3, h, Bool.false_and]
end Go.Proofs.Ytaaajjinpppgeaa

/- What is right: inodes; the place of a name. Own work; no condition. -/
set_option linter.unusedVariables false
set_option linter.unusedSimpArgs false
set_option linter.unusedSectionVars false
namespace Go.Proofs.Ytaaajjinpppgeaa
open Go Go.Abs
set_option maxRecDepth 100000
def ptrOk (k p : Int) : Bool := inside p 0 16 && !(decide (k = 0) && decide (p ≠ 0))
def inoOk (x : Ino) : Bool := x.ptrs.all (ptrOk x.kind) && (inside x.kind 0 2 && inside x.links 0 200 && decide (x.ptrs.length = 2) && (!decide (x.kind = 0) || decide (x.links = 0)))
theorem e223 (x : Ino) (hk : x.ok) : E T 223 [ino x] [] = some (.bool (inoOk x), []) := by
  rw [E_eq t223 (Nat.le_of_ble_eq_true rfl)]
  unfold Ino.ok maxLen at hk
  refine (XL_all (T := T) (b := 0) (hd := H223_2) (x := L223_2) x.ptrs (ptrOk x.kind) (fun i => ⟨[(1, .ptr 0 0 0), (6, .ro 1 (x.ptrs.map iv)), (7, .int .i64 x.ptrs.length), (8, .int .i64 (i : Nat))], [some (3, [.agg [.int .i64 x.kind, .int .i64 x.links, .ro 1 (x.ptrs.map iv)]])]⟩)
    (fun r => r.1 = .exit 0 ∧ lookA r.2.env 1 = .ptr 0 0 0 ∧ r.2.mem = [some (3, [.agg [.int .i64 x.kind, .int .i64 x.links, .ro 1 (x.ptrs.map iv)]])]) (fun r => r.1 = .ret ∧ lookA r.2.env 2 = .bool false) ?step ?hit ?last).elim ?main
  case step =>
    intro i p hp hi hP _
    have hi1 : (i : Int) < (x.ptrs.length : Int) := by omega
    have gp : (x.ptrs.map iv).getD i .undef = .int .i64 p := gD_map hp
    have hf : (!inside p 0 16 || !decide (p = 0) && decide (x.kind = 0)) = false := by
      simp only [ptrOk, Bool.and_eq_true, Bool.not_eq_true'] at hP
      rw [hP.1]; rw [Bool.and_comm]; simpa using hP.2
    simp only [XG, L223_2, h223_2, go_sem, seval, bnd_ite, hi1, gp, Int.natCast_nonneg, w_i64 ((i : Int) + 1) (by omega), e117i, hf, Bool.false_eq_true, if_false]
    rfl
  case hit =>
    intro i p hp hi hP _
    have hi1 : (i : Int) < (x.ptrs.length : Int) := by omega
    have gp : (x.ptrs.map iv).getD i .undef = .int .i64 p := gD_map hp
    have hf : (!inside p 0 16 || !decide (p = 0) && decide (x.kind = 0)) = true := by
      unfold ptrOk at hP
      cases h1 : inside p 0 16 with
      | false => rfl
      | true => rw [h1, Bool.true_and] at hP; rw [Bool.and_comm]; simpa using hP
    simp only [XG, L223_2, h223_2, go_sem, seval, bnd_ite, hi1, gp, Int.natCast_nonneg, w_i64 ((i : Int) + 1) (by omega), e117i, hf, if_true]
    exact .mk (by simp) ⟨rfl, rfl⟩
  case last =>
    intro _
    simp only [XG, L223_2, h223_2, go_sem, seval, bnd_ite, Int.lt_irrefl, decide_false]
    exact .mk (by simp) ⟨rfl, rfl, rfl⟩
  case main =>
  rintro ⟨y, e, m⟩ ⟨k1, k2⟩
  have hs : ((0 : Nat) : Int) = 0 := rfl
  simp only [hs] at k1
  unfold inoOk
  rcases k2 with ⟨h, k2, k3⟩ | ⟨h, k2, k3⟩ <;> simp only at k2 k3 <;> subst k2
  · obtain ⟨k3, rfl⟩ := k3
    simp only [ino, F223, h223_2, go_sem, seval, bnd_ite, k1, k3, e117i, h, Bool.true_and]
    have hl : decide ((x.ptrs.length : Int) = 2) = decide (x.ptrs.length = 2) := by congr 1; apply propext; omega
    rw [hl]
  · simp only [ino, F223, h223_2, go_sem, seval, bnd_ite, k1, k3, h, Bool.false_and]
theorem e220 (x : Ino) (hk : x.ok) : E T 220 [ino x] [] = some (.bool (inoOk x), []) := by
  rw [E_eq t220 (Nat.le_of_ble_eq_true rfl)]
  unfold Ino.ok maxLen at hk
  have hl : decide ((x.ptrs.length : Int) = 2) = decide (x.ptrs.length = 2) := by congr 1; apply propext; omega
  by_cases hc : (inside x.kind 0 2 && inside x.links 0 200 && decide (x.ptrs.length = 2)) = true
  case neg =>
    have hf : (!inside x.kind 0 2 || !inside x.links 0 200 || !decide (x.ptrs.length = 2)) = true := by
      rw [← Bool.not_and, ← Bool.not_and, Bool.eq_false_iff.2 hc]; rfl
    have hr : inoOk x = false := by
      have hc : (inside x.kind 0 2 && inside x.links 0 200 && decide (x.ptrs.length = 2)) = false := Bool.eq_false_iff.2 hc
      unfold inoOk; rw [hc]; simp
    simp only [ino, F220, h220_4, go_sem, seval, bnd_ite, e116i, hl, hf, hr, if_true]
  have hf : (!inside x.kind 0 2 || !inside x.links 0 200 || !decide (x.ptrs.length = 2)) = false := by
    rw [← Bool.not_and, ← Bool.not_and, hc]; rfl
  have h2 : x.ptrs.length = 2 := by simp only [Bool.and_eq_true, decide_eq_true_eq] at hc; exact hc.2
  refine (XL_all (T := T) (b := 0) (hd := H220_4) (x := L220_4) x.ptrs (ptrOk x.kind) (fun i => ⟨[(1, .ptr 0 0 0), (3, .int .i64 (i : Nat))], [some (3, [.agg [.int .i64 x.kind, .int .i64 x.links, .ro 1 (x.ptrs.map iv)]])]⟩)
    (fun r => r.1 = .exit 0 ∧ lookA r.2.env 1 = .ptr 0 0 0 ∧ r.2.mem = [some (3, [.agg [.int .i64 x.kind, .int .i64 x.links, .ro 1 (x.ptrs.map iv)]])]) (fun r => r.1 = .ret ∧ lookA r.2.env 2 = .bool false) ?step ?hit ?last).elim ?main
  case step =>
    intro i p hp hi hP _
    have hi1 : (i : Int) < (x.ptrs.length : Int) := by omega
    have hi2 : (i : Int) < 2 := by omega
    have gp : (x.ptrs.map iv).getD i .undef = .int .i64 p := gD_map hp
    have hf : (!inside p 0 16 || decide (x.kind = 0) && !decide (p = 0)) = false := by
      simp only [ptrOk, Bool.and_eq_true, Bool.not_eq_true'] at hP
      rw [hP.1]; simpa using hP.2
    simp only [XG, L220_4, h220_4, go_sem, seval, bnd_ite, hi1, hi2, gp, Int.natCast_nonneg, w_i64 ((i : Int) + 1) (by omega), e116i, hf, Bool.false_eq_true, if_false]
    rfl
  case hit =>
    intro i p hp hi hP _
    have hi1 : (i : Int) < (x.ptrs.length : Int) := by omega
    have hi2 : (i : Int) < 2 := by omega
    have gp : (x.ptrs.map iv).getD i .undef = .int .i64 p := gD_map hp
    have hf : (!inside p 0 16 || decide (x.kind = 0) && !decide (p = 0)) = true := by
      unfold ptrOk at hP
      cases h1 : inside p 0 16 with
      | false => rfl
      | true => rw [h1, Bool.true_and] at hP; simpa using hP
    simp only [XG, L220_4, h220_4, go_sem, seval, bnd_ite, hi1, hi2, gp, Int.natCast_nonneg, w_i64 ((i : Int) + 1) (by omega), e116i, hf, if_true]
    exact .mk (by simp) ⟨rfl, rfl⟩
  case last =>
    intro _
    have hi2 : ¬ (x.ptrs.length : Int) < 2 := by omega
    simp only [XG, L220_4, h220_4, go_sem, seval, bnd_ite, hi2, decide_false]
    exact .mk (by simp) ⟨rfl, rfl, rfl⟩
  case main =>
  rintro ⟨y, e, m⟩ ⟨k1, k2⟩
  have hs : ((0 : Nat) : Int) = 0 := rfl
  simp only [hs] at k1
  unfold inoOk
  rcases k2 with ⟨h, k2, k3⟩ | ⟨h, k2, k3⟩ <;> simp only at k2 k3 <;> subst k2
  · obtain ⟨k3, rfl⟩ := k3
    simp only [ino, F220, h220_4, go_sem, seval, bnd_ite, k1, k3, e116i, hl, hf, hc, h, Bool.true_and, Bool.false_eq_true, if_false]
  · simp only [ino, F220, h220_4, go_sem, seval, bnd_ite, k1, k3, e116i, hl, hf, hc, h, Bool.false_and, Bool.false_eq_true, if_false]
/-- The place of a name in a row of slots: -1 where it is not there. -/
def slotOf (l : List Slt) (s : ByteArray) : Int := if s.size = 0 then -1 else (match l.findIdx? (fun x => decide (x.name = s)) with | some i => (i : Nat) | none => -1)
theorem e295 (x : Slt) (s : ByteArray) : E T 295 [slt x, .rop [.str s]] [] = some (.bool (decide (x.name = s)), []) := by
  rw [E_eq t295 (Nat.le_of_ble_eq_true rfl)]
  simp only [slt, F295, go_sem, seval, bnd_ite]
theorem e294 (l : List Slt) (s : ByteArray) (hl : l.length ≤ maxLen) : E T 294 [.ro 2 (l.map slt), .fn 295 [.rop [.str s]]] [] = some (.int .i64 (match l.findIdx? (fun x => decide (x.name = s)) with | some i => (i : Nat) | none => -1), []) := by
  rw [E_eq t294 (Nat.le_of_ble_eq_true rfl)]
  unfold maxLen at hl
  refine (XL_find (T := T) (b := 0) (hd := H294_2) (x := L294_2) l (fun x => decide (x.name = s)) (fun i => ⟨[(0, .ro 2 (l.map slt)), (1, .fn 295 [.rop [.str s]]), (7, .int .i64 l.length), (8, .int .i64 (i : Nat))], []⟩)
    (fun o r => match o with | some i => r.1 = .ret ∧ lookA r.2.env 4 = .int .i64 (i : Nat) | none => r.1 = .exit 0) ?step ?hit ?last).elim ?main
  case step =>
    intro i p hp hi hP _
    have hi1 : (i : Int) < (l.length : Int) := by omega
    have gp : (l.map slt).getD i .undef = .agg [.str p.name, .int .i64 p.ino] := gD_map hp
    have e1 := e295 p s
    unfold slt at e1
    simp only [XG, L294_2, h294_2, go_sem, seval, bnd_ite, hi1, gp, Int.natCast_nonneg, w_i64 ((i : Int) + 1) (by omega), e1, hP, Bool.false_eq_true, if_false]
    rfl
  case hit =>
    intro i p hp hi hP _
    have hi1 : (i : Int) < (l.length : Int) := by omega
    have gp : (l.map slt).getD i .undef = .agg [.str p.name, .int .i64 p.ino] := gD_map hp
    have e1 := e295 p s
    unfold slt at e1
    simp only [XG, L294_2, h294_2, go_sem, seval, bnd_ite, hi1, gp, Int.natCast_nonneg, w_i64 ((i : Int) + 1) (by omega), e1, hP, if_true]
    exact .mk (by simp) ⟨rfl, rfl⟩
  case last =>
    intro _
    simp only [XG, L294_2, h294_2, go_sem, seval, bnd_ite, Int.lt_irrefl, decide_false]
    exact .mk (by simp) rfl
  case main =>
  rintro ⟨y, e, m⟩ ⟨k1, k2⟩
  have hs : ((0 : Nat) : Int) = 0 := rfl
  simp only [hs] at k1
  split at k2
  · rename_i o i heq
    obtain ⟨k2, k3⟩ := k2
    simp only at k2 k3; subst k2
    simp only [F294, h294_2, go_sem, seval, bnd_ite, k1, k3, heq]
  · rename_i o heq
    simp only at k2; subst k2
    simp only [F294, h294_2, go_sem, seval, bnd_ite, k1, heq]
theorem e265 (x : Blk) (s : ByteArray) (hl : x.slots.length ≤ maxLen) : E T 265 [blk x, .str s] [] = some (.int .i64 (slotOf x.slots s), []) := by
  rw [E_eq t265 (Nat.le_of_ble_eq_true rfl)]
  have e1 := e294 x.slots s hl
  unfold slotOf
  by_cases h : s = ⟨#[]⟩
  · subst h
    simp only [blk, F265, go_sem, seval, bnd_ite, decide_true, if_true]
    rfl
  · have h2 : ¬ s.size = 0 := fun hh => h (by cases s with | mk a => congr 1; exact Array.eq_empty_of_size_eq_zero hh)
    simp only [blk, F265, go_sem, seval, bnd_ite, h, h2, e1, decide_false, if_false]
end Go.Proofs.Ytaaajjinpppgeaa

