/- Part 8 of the texts of a claim, joined by a program of ours (Lq, Sl, Sx, Rn, Bu, Mo). No condition. -/
import Derived.Test.YtaaajjinpppgeaaGreatDoorP4ag
import Derived.WalkKit
import Derived.Laws.Cells
import Derived.Laws.ResultCell
import Derived.ProofKit
import Derived.Lib.SplitLaws
import Derived.Shelf.Strings.Split
import Derived.Shelf.Lays
import Derived.Shelf.RegionOpenPlain
import Derived.Lib.IndexBytes
import Derived.Test.YtaaajjinpppgeaaGreatDoorProg
set_option linter.unusedVariables false
set_option linter.unusedSimpArgs false
set_option linter.unusedSectionVars false
namespace Go.Proofs.YtaaajjinpppgeaaGreatDoor
open Go Go.Proofs Go.RowKit Go.Abs
set_option maxRecDepth 100000
theorem lv73 {W : World} {b o : Nat} {vs : List Value} (hn : vs.length = 3) (hc : CellsAt W b o vs) : (loadVar 64 ⟨b, o, none⟩).run Tryz.prog W = .ok (.agg vs.toArray) W := by
  have a73 : (Go.isAgg 64).run Tryz.prog W = .ok true W := by kernel_rfl
  have z73 : (Go.sizeOf 64).run Tryz.prog W = .ok 3 W := by kernel_rfl
  have hl := run_loadCells_list (P := Tryz.prog) W ⟨b, o, none⟩ vs hc.cells
  rw [hn] at hl
  simp [loadVar, Sem.run_bind, a73, z73, hl]
theorem ret116 {R : Ending → World → Prop} {w : World} {X : Obj} {c0 c1 c2 : Value} {bv : Bool} {tmps : Array Value} (h4 : tmps.getD 4 undef = .pointer (some ⟨w.heap.size + 1, 0, none⟩)) (h5 : tmps.getD 5 undef = .bool bv)
    (hR : R (.returned (.tuple #[.agg #[c0, c1, c2], .bool bv])) ((w.alloc X).alloc (.cells #[c0, c1, c2] 64))) : bodyPost Tryz.prog Tryz.f116 R .ret { tmps := tmps, defers := [] } ((w.alloc X).alloc (.cells #[c0, c1, c2] 64)) := by
  refine bodyPost_ret ?_ rfl hR
  rw [results_cell_tmp (u := 5) (p := 4) (ty := 64) (by kernel_rfl)]
  have hs : (w.alloc X).heap.size = w.heap.size + 1 := by show (w.heap.push X).size = _; simp
  have e := lv73 (W := (w.alloc X).alloc (.cells #[c0, c1, c2] 64)) (b := w.heap.size + 1) (o := 0) (vs := [c0, c1, c2]) rfl
    ⟨#[c0, c1, c2], 64, (0, 0), by rw [← hs]; exact heap_alloc_same _ _, fun j v hj => by simpa using hj⟩
  rw [h4, h5]
  show Result.andThen ((asAddr (.pointer (some ⟨w.heap.size + 1, 0, none⟩))).run Tryz.prog _) _ = _
  have ha : (asAddr (.pointer (some ⟨w.heap.size + 1, 0, none⟩))).run Tryz.prog ((w.alloc X).alloc (.cells #[c0, c1, c2] 64)) = .ok ⟨w.heap.size + 1, 0, none⟩ ((w.alloc X).alloc (.cells #[c0, c1, c2] 64)) := rfl
  rw [ha]
  show Result.andThen ((loadVar 64 ⟨w.heap.size + 1, 0, none⟩).run Tryz.prog _) _ = _
  rw [e]; rfl
theorem look116 (u t i : Value) (b o cap n : Nat) (w : World) (p : Int) (h1 : 1 ≤ p) (h2 : p ≤ (n : Int)) (hn : n ≤ 1048576) (d : Bool) (A : Option Addr) (l k : Nat) (s : ByteArray) (hb : b < w.heap.size)
   (hc0 : w.cell? ⟨b, o + (p.toNat - 1) * 3, none⟩ = some (.bool d)) (hc1 : w.cell? ⟨b, o + (p.toNat - 1) * 3 + 1, none⟩ = some (.slice A l k)) (hc2 : w.cell? ⟨b, o + (p.toNat - 1) * 3 + 2, none⟩ = some (.string s)) :
    Calls Tryz.prog 116 #[.agg #[u, t, i, .slice (some ⟨b, o, none⟩) n cap], .int .i64 p] w fun e w' => e = .returned (.tuple #[.agg #[.bool d, .slice A l k, .string s], .bool true]) ∧ ∃ x y, w' = (w.alloc x).alloc y := by
  go_enter Tryz.func116, Tryz.ntmps116
  go_wp2
  exact ret116 rfl rfl ⟨rfl, _, _, rfl⟩
theorem look116a (u t i : Value) (n cap : Nat) (w : World) (p : Int) (h1 : p < 1) (hn : n ≤ 1048576) (A : Option Addr) :
    Calls Tryz.prog 116 #[.agg #[u, t, i, .slice A n cap], .int .i64 p] w fun e w' => e = .returned (.tuple #[.agg #[.bool false, .slice none 0 0, .string ⟨#[]⟩], .bool false]) ∧ ∃ x y, w' = (w.alloc x).alloc y := by
  go_enter Tryz.func116, Tryz.ntmps116
  go_wp2
  exact ret116 rfl rfl ⟨rfl, _, _, rfl⟩
theorem look116b (u t i : Value) (n cap : Nat) (w : World) (p : Int) (h1 : 1 ≤ p) (h2 : (n : Int) < p) (hn : n ≤ 1048576) (A : Option Addr) :
    Calls Tryz.prog 116 #[.agg #[u, t, i, .slice A n cap], .int .i64 p] w fun e w' => e = .returned (.tuple #[.agg #[.bool false, .slice none 0 0, .string ⟨#[]⟩], .bool false]) ∧ ∃ x y, w' = (w.alloc x).alloc y := by
  have h3 : ¬ p ≤ (n : Int) := by omega
  go_enter Tryz.func116, Tryz.ntmps116
  go_wp2
  exact ret116 rfl rfl ⟨rfl, _, _, rfl⟩
theorem rel_nil {w : World} {m : IdMap} {d X : Nat → Prop} {xs : List AV} {vs : List Value} (h : RelL w m d X xs vs []) {k : Nat} {a : AV} (hk : xs[k]? = some a) : ∃ v, vs[k]? = some v ∧ RelV w m d X a v [] := by
  obtain ⟨u, G, h1, h2, h3⟩ := h.get hk
  have : G = [] := List.eq_nil_iff_forall_not_mem.2 fun x hx => by cases h3 x hx
  subst this
  exact ⟨u, h1, h2⟩
def slX (m : Mem) : AV → Bool
  | .sl i _ _ => (nthR m i).isSome
  | .nil => true
  | .ro _ _ => true
  | _ => false
def nope : AV × Mem := (.tup [.agg [.bool false, .nil, .str ⟨#[]⟩], .bool false], [])
def lookX (m : Mem) : Option AV → Option (AV × Mem)
  | some (.agg [.bool d, x, .str s]) => cond (slX m x) (some (.tup [.agg [.bool d, x, .str s], .bool true], [])) none
  | _ => none
def lookS (m : Mem) (off n : Nat) (p : Int) : Option (Nat × List AV) → Option (AV × Mem)
  | some (3, xs) => cond (ltI p 1 || ltI (n : Nat) p) (some nope) (lookX m (nthA xs (off + (p.toNat - 1))))
  | _ => none
def lookB (m : Mem) (p : Int) : AV → Option (AV × Mem)
  | .sl id off n => cond (Nat.ble n 1048576) (lookS m off n p (nthR m id)) none
  | .ro 3 xs => cond (Nat.ble xs.length 1048576) (cond (ltI p 1 || ltI (xs.length : Nat) p) (some nope) (lookX m (nthA xs (p.toNat - 1)))) none
  | _ => none
def lookQ : List AV → Mem → Option (AV × Mem)
  | [.agg [_, _, _, bl], .int .i64 p], m => lookB m p bl
  | _, _ => none
def lookO : List AV → Mem → Option (AV × Mem)
  | args, none :: m => lookQ args m
  | _, _ => none
theorem slice_of {Y : Nat → Prop} {w0 : World} {F0 : List Nat} {live : Live} {d : Nat → Prop} {M : IdMap} {Fs : Nat → List Nat} {w : World} {m : Mem} (hx : Ext (liveOf m) live) (hr : RelW Y w0 F0 live d M Fs w) {x : AV} {u : Value}
    (hs : slX m x = true) (h : RelV w M d (XOf Y M Fs) x u []) : ∃ A l k, u = .slice A l k := by
  cases x <;> simp only [slX, Bool.false_eq_true] at hs
  · cases h; exact ⟨_, _, _, rfl⟩
  · cases h; exact ⟨_, _, _, rfl⟩
  · rename_i i o n
    rw [nthR_eq] at hs
    obtain ⟨y, hy⟩ := Option.isSome_iff_exists.1 hs
    have hlive := hx i y hy
    cases h with
    | sl hm2 hcap2 hcc2 => exact ⟨_, _, _, rfl⟩
    | sl0 A => exact ⟨A, 0, 0, rfl⟩
    | slDead v hd => have := hr.ddom i hd; rw [hlive] at this; cases this
theorem row_look {M : IdMap} {d X : Nat → Prop} {w : World} {xs : List AV} {us : List Value} {F : List Nat} (he : Even 3 xs) (hrl : RelL w M d X (flat xs) us F) {k : Nat} {dd : Bool} {x : AV} {s : ByteArray} (hk : nthA xs k = some (.agg [.bool dd, x, .str s]))
    (hxx : ∀ u G, RelV w M d X x u G → G = []) :
    ∃ u1, us[k * 3]? = some (.bool dd) ∧ us[k * 3 + 1]? = some u1 ∧ us[k * 3 + 2]? = some (.string s) ∧ RelV w M d X x u1 [] := by
  obtain ⟨hi, hg⟩ := nthA_eq _ _ _ hk
  obtain ⟨G, hG, hrow⟩ := row_cells he hrl hi
  rw [hg] at hrow
  have hlen := hrow.length
  obtain ⟨u0, u1, u2, hu⟩ : ∃ u0 u1 u2, (us.drop (k * 3)).take 3 = [u0, u1, u2] := by
    match hq : (us.drop (k * 3)).take 3, hlen with
    | [u0, u1, u2], _ => exact ⟨u0, u1, u2, rfl⟩
  rw [hu] at hrow
  have at_ : ∀ j v, [u0, u1, u2][j]? = some v → us[k * 3 + j]? = some v := by
    intro j v hj
    rw [← hu, List.getElem?_take] at hj
    split at hj
    · rwa [List.getElem?_drop] at hj
    · cases hj
  cases hrow with
  | cons r0 t =>
  cases t with
  | cons r1 t =>
  cases t with
  | cons r2 t =>
  cases t
  cases r0
  cases r2
  have := hxx _ _ r1
  subst this
  exact ⟨u1, at_ 0 _ rfl, at_ 1 _ rfl, at_ 2 _ rfl, r1⟩
theorem slX_nil {M : IdMap} {d X : Nat → Prop} {w : World} {m : Mem} {x : AV} (hs : slX m x = true) {u : Value} {G : List Nat} (h : RelV w M d X x u G) : G = [] := by
  cases x <;> simp only [slX, Bool.false_eq_true] at hs <;> cases h <;> rfl
theorem lookX_eq {m : Mem} {o : Option AV} {res : AV} {m' : Mem} (h : lookX m o = some (res, m')) : ∃ dd x s, o = some (.agg [.bool dd, x, .str s]) ∧ slX m x = true ∧ res = .tup [.agg [.bool dd, x, .str s], .bool true] := by
  unfold lookX at h
  split at h
  · rename_i dd x s
    cases hs : slX m x with
    | false => rw [hs] at h; cases h
    | true => rw [hs] at h; cases h; exact ⟨_, _, _, rfl, hs, rfl⟩
  · cases h
theorem fn116 : ∃ fn c, Tryz.prog.funcs[116]? = some fn ∧ (fn.name == "runtime.NumGoroutine") = false ∧ fn.body = some c := by
  exact ⟨Tryz.f116, _, Tryz.func116, by kernel_rfl, rfl⟩
theorem look_ok {args : List AV} {m : Mem} {res : AV} (h : lookQ args m = some (res, [])) : QCall Tryz.prog 116 args m res := by
  intro Y w0 F0 live d M Fs w vs hx hr ha
  unfold lookQ at h
  split at h
  case h_2 => cases h
  rename_i a0 a1 a2 bl p
  have hlen0 := ha.length
  match vs, hlen0 with
  | [va, vb], _ =>
  obtain ⟨va', ea, ha1⟩ := rel_nil ha (k := 0) rfl
  obtain ⟨vb', eb, hb1⟩ := rel_nil ha (k := 1) rfl
  cases ea; cases eb
  cases hb1
  obtain ⟨us, rfl, hq1⟩ : ∃ us : List Value, va = .agg us.toArray ∧ RelL w M d (XOf Y M Fs) [a0, a1, a2, bl] us [] := by
    cases ha1 with | agg q => exact ⟨_, rfl, q⟩
  have hlen := hq1.length
  match us, hlen with
  | [v0, v1, v2, v3], _ =>
  obtain ⟨v3', e3, h3⟩ := rel_nil hq1 (k := 3) rfl
  cases e3
  have evo2 : ∀ x y : Obj, Evo (fun _ => False) w ((w.alloc x).alloc y) := fun x y => (evo_alloc _ w x).trans (evo_alloc _ _ y) (fun _ _ h => h)
  obtain ⟨fn, c, hfn, hname, hb⟩ := fn116
  refine .of_calls hfn hname hb ?_
  have no : ∀ (A : Option Addr) (n cap : Nat), v3 = .slice A n cap → n ≤ 1048576 → (p < 1 ∨ (n : Int) < p) → res = nope.1 → Calls Tryz.prog 116 #[.agg #[v0, v1, v2, v3], .int .i64 p] w fun e w' => ∃ v, e = .returned v ∧ Evo (fun _ => False) w w' ∧ R Y w' M d Fs res v := by
    intro A n cap e hn hp hres
    subst e
    subst hres
    have key : Calls Tryz.prog 116 #[.agg #[v0, v1, v2, .slice A n cap], .int .i64 p] w fun e w' => e = .returned (.tuple #[.agg #[.bool false, .slice none 0 0, .string ⟨#[]⟩], .bool false]) ∧ ∃ x y, w' = (w.alloc x).alloc y := by
      by_cases h1 : 1 ≤ p
      · exact look116b v0 v1 v2 n cap w p h1 (by omega) hn A
      · exact look116a v0 v1 v2 n cap w p (by omega) hn A
    refine Calls.mono key ?_
    rintro e w' ⟨rfl, x, y, rfl⟩
    refine ⟨_, rfl, evo2 x y, ?_⟩
    exact .tup (F := []) (.cons (F := []) (.agg (.cons (F := []) (.bool false) (.cons (F := []) (.nil none) (.cons (F := []) (.str _) .nil)))) (.cons (F := []) (.bool false) .nil))
  have yes : ∀ (b o n cap : Nat) (dd : Bool) (x : AV) (s : ByteArray) (u1 : Value), v3 = .slice (some ⟨b, o, none⟩) n cap → n ≤ 1048576 → 1 ≤ p → p ≤ (n : Int) → b < w.heap.size → slX m x = true → RelV w M d (XOf Y M Fs) x u1 [] →
      w.cell? ⟨b, o + (p.toNat - 1) * 3, none⟩ = some (.bool dd) → w.cell? ⟨b, o + (p.toNat - 1) * 3 + 1, none⟩ = some u1 → w.cell? ⟨b, o + (p.toNat - 1) * 3 + 2, none⟩ = some (.string s) →
      res = .tup [.agg [.bool dd, x, .str s], .bool true] → Calls Tryz.prog 116 #[.agg #[v0, v1, v2, v3], .int .i64 p] w fun e w' => ∃ v, e = .returned v ∧ Evo (fun _ => False) w w' ∧ R Y w' M d Fs res v := by
    intro b o n cap dd x s u1 e hn hp1 hp2 hbl hs r1 c0 c1 c2 hres
    subst e
    subst hres
    obtain ⟨A, l, k, rfl⟩ := slice_of hx hr hs r1
    refine Calls.mono (look116 v0 v1 v2 b o cap n w p hp1 hp2 hn dd A l k s hbl c0 c1 c2) ?_
    rintro e w' ⟨rfl, x', y, rfl⟩
    refine ⟨_, rfl, evo2 x' y, ?_⟩
    obtain ⟨_, C⟩ := hr.aside (evo2 x' y)
    have r1'' := RelV.carry C r1 (fun b hb => by cases hb)
    exact .tup (F := []) (.cons (F := []) (.agg (.cons (F := []) (.bool dd) (.cons (F := []) r1'' (.cons (F := []) (.str s) .nil)))) (.cons (F := []) (.bool true) .nil))
  clear ha hlen0 hlen hq1 ha1
  unfold lookB at h
  split at h
  case h_3 => cases h
  case h_1 =>
    rename_i id off n _ _
    cases hn : Nat.ble n 1048576 with
    | false => rw [hn] at h; cases h
    | true =>
      rw [hn, cond_true] at h
      have hn := Nat.le_of_ble_eq_true hn
      unfold lookS at h
      split at h
      case h_2 => cases h
      rename_i xs hid
      rw [nthR_eq] at hid
      have hlive := hx id (3, xs) hid
      cases hp : (ltI p 1 || ltI (n : Nat) p) with
      | true =>
        rw [hp, cond_true] at h
        cases h
        rw [ltI_eq, ltI_eq, Bool.or_eq_true, decide_eq_true_eq, decide_eq_true_eq] at hp
        have v3s : ∃ A cap, v3 = .slice A n cap := by
          cases h3 with
          | sl hm hcap hcc => exact ⟨_, _, rfl⟩
          | sl0 A => exact ⟨A, 0, rfl⟩
          | slDead v hd => have := hr.ddom id hd; rw [hlive] at this; cases this
        obtain ⟨A, cap, e⟩ := v3s
        refine Calls.mono (no A n cap e hn hp rfl) ?_
        rintro e w' ⟨v, rfl, h1, h2⟩
        exact ⟨h1, h2⟩
      | false =>
        rw [hp, cond_false] at h
        rw [ltI_eq, ltI_eq, Bool.or_eq_false_iff, decide_eq_false_iff_not, decide_eq_false_iff_not] at hp
        obtain ⟨dd, x, s, hk, hs, rfl⟩ := lookX_eq h
        cases h3 with
        | sl0 A => exfalso; omega
        | slDead v hd => have := hr.ddom id hd; rw [hlive] at this; cases this
        | sl hm hcap hcc =>
          rename_i b o s' cap _ _
          obtain ⟨e1, he, us, hex, hrl⟩ := hr.cells id 3 xs b o s' hlive hm
          subst e1
          obtain ⟨u1, d0, d1, d2, r1⟩ := row_look he hrl hk (fun u G h => slX_nil hs h)
          have ad : ∀ j, o + ((off + (p.toNat - 1)) * 3 + j) = o + off * 3 + (p.toNat - 1) * 3 + j := fun j => by rw [Nat.add_mul]; omega
          have c0 := hex.at.cell d0
          have c1 := hex.at.cell d1
          have c2 := hex.at.cell d2
          rw [show o + (off + (p.toNat - 1)) * 3 = o + off * 3 + (p.toNat - 1) * 3 by rw [Nat.add_mul]; omega] at c0
          rw [ad] at c1 c2
          refine Calls.mono (yes b (o + off * 3) n cap dd x s u1 rfl hn (by omega) (by omega) hex.lt hs r1 c0 c1 c2 rfl) ?_
          rintro e w' ⟨v, rfl, h1, h2⟩
          exact ⟨h1, h2⟩
  case h_2 =>
    rename_i xs _ _
    cases hn : Nat.ble xs.length 1048576 with
    | false => rw [hn] at h; cases h
    | true =>
      rw [hn, cond_true] at h
      have hn := Nat.le_of_ble_eq_true hn
      cases h3 with
      | ro hnn he hc hf hcl hrl =>
        subst hf
        rename_i us A cap _ _ 
        cases hp : (ltI p 1 || ltI (xs.length : Nat) p) with
        | true =>
          rw [hp, cond_true] at h
          cases h
          rw [ltI_eq, ltI_eq, Bool.or_eq_true, decide_eq_true_eq, decide_eq_true_eq] at hp
          refine Calls.mono (no A _ cap rfl hn hp rfl) ?_
          rintro e w' ⟨v, rfl, h1, h2⟩
          exact ⟨h1, h2⟩
        | false =>
          rw [hp, cond_false] at h
          rw [ltI_eq, ltI_eq, Bool.or_eq_false_iff, decide_eq_false_iff_not, decide_eq_false_iff_not] at hp
          obtain ⟨dd, x, s, hk, hs, rfl⟩ := lookX_eq h
          obtain ⟨u1, d0, d1, d2, r1⟩ := row_look he hrl hk (fun u G h => slX_nil hs h)
          rcases hc with hc | ⟨b, o, rfl, hX, hbl, hca⟩
          · subst hc; cases d0
          · have c0 := hca.cell d0
            have c1 := hca.cell d1
            have c2 := hca.cell d2
            rw [← Nat.add_assoc] at c1 c2
            refine Calls.mono (yes b o _ cap dd x s u1 rfl hn (by omega) (by omega) hbl hs r1 c0 c1 c2 rfl) ?_
            rintro e w' ⟨v, rfl, h1, h2⟩
            exact ⟨h1, h2⟩
theorem lookQ_len {args : List AV} {m : Mem} {v : AV} {m' : Mem} (h : lookQ args m = some (v, m')) : m' = [] := by
  have hX : ∀ {o : Option AV}, lookX m o = some (v, m') → m' = [] := by
    intro o h
    unfold lookX at h
    split at h
    · rename_i dd x s
      cases hs : slX m x with
      | false => rw [hs] at h; cases h
      | true => rw [hs] at h; cases h; rfl
    · cases h
  have hc : ∀ {b : Bool} {o : Option AV}, cond b (some nope) (lookX m o) = some (v, m') → m' = [] := by
    intro b o h
    cases b with
    | true => cases h; rfl
    | false => exact hX h
  unfold lookQ at h
  split at h
  · rename_i bl p
    unfold lookB at h
    split at h
    · rename_i id off n
      cases hn : Nat.ble n 1048576 with
      | false => rw [hn] at h; cases h
      | true =>
        rw [hn, cond_true] at h
        unfold lookS at h
        split at h
        · exact hc h
        · cases h
    · rename_i xs
      cases hn : Nat.ble xs.length 1048576 with
      | false => rw [hn] at h; cases h
      | true => rw [hn, cond_true] at h; exact hc h
    · cases h
  · cases h
theorem lookOk : OrcOk Tryz.prog 116 lookO where
  fn := fn116
  pure := fun args res h => by cases h
  qt := fun args mem res h => look_ok h
  wr := fun args mem res mem' h hcl hln => by
    cases mem with
    | nil => cases h
    | cons r m => cases r with
      | none =>
        have := lookQ_len (show lookQ args m = some (res, mem') from h)
        subst this
        cases hln
      | some sx => cases h
end Go.Proofs.YtaaajjinpppgeaaGreatDoor
namespace Go.Abs
open Go Go.Lib
def cutS (c : UInt8) : List UInt8 → List UInt8 → List (List UInt8)
  | cur, [] => [cur]
  | cur, b :: r => if b = c then cur :: cutS c [] r else cutS c (cur ++ [b]) r
def onto (x : List UInt8) : List (List UInt8) → List (List UInt8)
  | [] => []
  | p :: ps => (x ++ p) :: ps
theorem cutS_cur (c : UInt8) : ∀ (r cur : List UInt8), cutS c cur r = onto cur (cutS c [] r)
  | [], cur => by simp [cutS, onto]
  | b :: r, cur => by
    unfold cutS
    by_cases h : b = c
    · rw [if_pos h, if_pos h]; simp [onto]
    · rw [if_neg h, if_neg h, cutS_cur c r (cur ++ [b]), cutS_cur c r ([] ++ [b])]
      cases cutS c [] r <;> simp [onto]
theorem index_ne (b c : UInt8) (l : List UInt8) (h : b ≠ c) : index (b :: l) [c] = if index l [c] == -1 then -1 else index l [c] + 1 := by
  have hp : ([c] : List UInt8).isPrefixOf (b :: l) = false := by simp [List.isPrefixOf, Ne.symm h]
  rw [index, hp]; simp
theorem index_eq (c : UInt8) (l : List UInt8) : index (c :: l) [c] = ((0 : Nat) : Int) := by rw [index]; simp [List.isPrefixOf]
theorem splitK_ne (b c : UInt8) (l : List UInt8) (h : b ≠ c) (k : Nat) : splitK [c] 0 k (b :: l) = onto [b] (splitK [c] 0 k l) := by
  cases k with
  | zero => rfl
  | succ k =>
    unfold splitK
    rw [index_ne b c l h]
    by_cases hm : index l [c] = -1
    · simp [hm, onto]
    · have hge := index_ge l [c]
      obtain ⟨j, hj⟩ : ∃ j : Nat, index l [c] = j := ⟨(index l [c]).toNat, by omega⟩
      have n1 : ¬ ((j : Int) == -1) = true := by simp
      have n2 : ¬ ((j : Int) + 1 == -1) = true := by simp; omega
      have e1 : ((j : Int) + 1).toNat = j + 1 := by omega
      rw [hj, if_neg n1, if_neg n2, e1]
      simp [onto]
theorem split_cut (c : UInt8) : ∀ s : List UInt8, splitK [c] 0 (s.count c) s = cutS c [] s
  | [] => rfl
  | b :: l => by
    by_cases h : b = c
    · subst h
      rw [List.count_cons_self]
      unfold splitK cutS
      rw [index_eq, if_pos rfl]
      have : ¬ (((0 : Nat) : Int) == -1) = true := by decide
      rw [if_neg this]
      simp
      exact split_cut b l
    · rw [List.count_cons_of_ne (by simpa using h), splitK_ne b c l h, split_cut c l]
      rw [show cutS c [] (b :: l) = cutS c [b] l from by simp [cutS, h], cutS_cur c l [b]]
def pieces (c : UInt8) (s : List UInt8) : List ByteArray := (cutS c [] s).map fun l => ⟨l.toArray⟩
theorem split_pieces (c : UInt8) (s : ByteArray) : splitB ⟨#[c]⟩ 0 (countB s ⟨#[c]⟩) s = pieces c s.data.toList := by
  have h := splitB_data ⟨#[c]⟩ 0 (countB s ⟨#[c]⟩) s
  have e : countB s ⟨#[c]⟩ = s.data.toList.count c := by
    show count s.data.toList [c] = _
    exact count_one c _
  rw [e] at h ⊢
  rw [show (⟨#[c]⟩ : ByteArray).data.toList = [c] from rfl, split_cut] at h
  unfold pieces
  rw [← h, List.map_map]
  symm
  rw [List.map_congr_left (g := id) (fun x _ => ?_), List.map_id]
  cases x; rfl
end Go.Abs
namespace Go.Abs
open Go Go.RowKit Go.Lib
def splitO (args : List AV) (mem : Mem) : Option (AV × Mem) := match args, mem with
  | [.str s, .str ⟨⟨[c]⟩⟩], [] => cond (Nat.blt s.size 4294967281) (some (.own 1 ((pieces c s.data.toList).map AV.str), [])) none
  | _, _ => none
theorem relL_at {w : World} {m : IdMap} {d X : Nat → Prop} {xs : List AV} {vs : List Value} (h : RelL w m d X xs vs []) {k : Nat} {a : AV} (hk : xs[k]? = some a) : ∃ v, vs[k]? = some v ∧ RelV w m d X a v [] := by
  obtain ⟨u, G, h1, h2, h3⟩ := h.get hk
  have : G = [] := List.eq_nil_iff_forall_not_mem.2 fun x hx => by cases h3 x hx
  subst this
  exact ⟨u, h1, h2⟩
theorem strs_rel {w : World} {m : IdMap} {d X : Nat → Prop} : ∀ (l : List ByteArray), RelL w m d X (l.map AV.str) (l.map Value.string) []
  | [] => .nil
  | s :: l => .cons (F := []) (.str s) (strs_rel l)
theorem flat_strs : ∀ (l : List ByteArray), flat (l.map AV.str) = l.map AV.str
  | [] => rfl
  | s :: l => by show AV.cells (.str s) ++ flat (l.map _) = _; rw [flat_strs l]; rfl
theorem even_strs (l : List ByteArray) : Even 1 (l.map AV.str) := by
  intro x hx
  obtain ⟨z, _, rfl⟩ := List.mem_map.1 hx
  rfl
def Splits (P : Program) (f : FuncId) : Prop := ∀ (s : ByteArray) (c : UInt8) (w : World), s.size < 4294967281 →
  Calls P f #[.string s, .string ⟨#[c]⟩] w fun e w' => e = .returned (.slice (some ⟨w.heap.size, 0, none⟩) (countB s ⟨#[c]⟩ + 1) (countB s ⟨#[c]⟩ + 1)) ∧ ∃ ty, w' = w.alloc (.cells ((splitB ⟨#[c]⟩ 0 (countB s ⟨#[c]⟩) s).map Value.string).toArray ty)
theorem split_calls {P : Program} {f : FuncId} (hs : Splits P f) {s : ByteArray} {c : UInt8} (hl : s.size < 4294967281) : ACalls P f [.str s, .str ⟨#[c]⟩] (.own 1 ((pieces c s.data.toList).map AV.str)) := by
  intro Y w vs ha
  have hlen := ha.length
  match vs, hlen with
  | [v0, v1], _ =>
  obtain ⟨v0', e0, h0⟩ := relL_at ha (k := 0) rfl
  obtain ⟨v1', e1, h1⟩ := relL_at ha (k := 1) rfl
  cases e0; cases e1; cases h0; cases h1
  have hp := split_pieces c s
  have hn := splitB_all ⟨#[c]⟩ (Nat.le_refl 1) 0 _ s rfl
  rw [hp] at hn
  refine Calls.mono (hs s c w hl) ?_
  rintro e w' ⟨rfl, ty, rfl⟩
  rw [hp]
  show ∃ F : List Nat, _
  refine ⟨[w.heap.size], by simp, ?_, ?_, evo_alloc _ _ _⟩
  · intro b hb
    cases List.mem_singleton.1 hb
    exact ⟨Nat.le_refl _, by show _ < (w.heap.push _).size; simp⟩
  · have h2 := RelV.own (w := w.alloc (.cells ((pieces c s.data.toList).map Value.string).toArray ty)) (m := m0) (d := d0) (X := fun b => Y b ∨ b ∈ [w.heap.size]) (s := 1) (xs := (pieces c s.data.toList).map AV.str)
      (ys := (pieces c s.data.toList).map AV.str) (vs := (pieces c s.data.toList).map Value.string) (b := w.heap.size) (o := 0) (cap := (pieces c s.data.toList).length) (F := [])
      (by rw [List.length_map]; exact Nat.le_refl _) (even_strs _) ⟨_, ty, heap_alloc_same _ _, fun j v hj => by simpa using hj, by simp⟩ (flat_strs _) (strs_rel _)
    rw [List.length_map, hn] at h2
    exact h2
theorem split_orc {P : Program} {f : FuncId} {fn : Func} {c : Code} (hf : P.funcs[f]? = some fn) (hname : (fn.name == "runtime.NumGoroutine") = false) (hb : fn.body = some c) (hs : Splits P f) : OrcOk P f splitO where
  fn := ⟨fn, c, hf, hname, hb⟩
  pure := by
    intro args res h
    unfold splitO at h
    split at h
    case h_2 => cases h
    rename_i s c _
    cases hb : Nat.blt s.size 4294967281 with
    | false => rw [hb] at h; cases h
    | true =>
      rw [hb] at h; cases h
      exact split_calls hs (Nat.le_of_ble_eq_true hb)
  wr := by
    intro args mem res mem' h hx _
    unfold splitO at h
    split at h
    case h_2 => cases h
    rename_i s c _
    cases hb : Nat.blt s.size 4294967281 with
    | false => rw [hb] at h; cases h
    | true => rw [hb] at h; cases h; exact Bool.noConfusion (show false = true from hx)
  qt := by
    intro args mem res h
    unfold splitO at h
    split at h
    case h_2 => cases h
    rename_i e
    cases e
end Go.Abs
namespace Go.Abs
open Go Go.Proofs Go.Shelf Go.RowKit Go.Lib
section
variable {P : Program} {ρ : Ren}
set_option maxHeartbeats 1000000 in
theorem split_one (L : Lays.n146 P ρ) (hi9 : (P.info? (ρ.t 9)).map (fun i => (i.zero, i.size, i.bytes)) = some (some (.string ByteArray.empty), 1, 16)) : Splits P (ρ.f 146) := by
  intro s b w hs
  have hle := Lib.countB_le ⟨#[b]⟩ (Nat.le_refl 1) s.size s (Nat.le_refl _)
  have hlen := Lib.splitB_all ⟨#[b]⟩ (Nat.le_refl 1) 0 _ s rfl
  have c := Any.strings_genSplit_core { L with } hi9 s ⟨#[b]⟩ 0 (-1) (Lib.countB s ⟨#[b]⟩ + 1) w hs (Nat.le_refl 1) (Nat.zero_le _)
    (fun x k _ => (Any.strings_Index_one { L with } x b _).mono fun e w' ⟨he, hw⟩ => ⟨by rw [he, ← Lib.index_one] <;> rfl, hw⟩)
    ((Any.strings_Count_one { L with } s b w).mono fun e w' ⟨he, hw⟩ => ⟨by rw [he]; show _ = Ending.returned (Value.int .i64 ((Lib.count s.data.toList [b] : Nat) : Int)); rw [Lib.count_one]; rfl, hw⟩)
    (by decide) (by decide) (by rw [if_pos (by decide)]; omega)
  rw [Nat.add_sub_cancel, hlen] at c
  have e2 : Lib.cellsOf (Lib.splitB ⟨#[b]⟩ 0 (Lib.countB s ⟨#[b]⟩) s) (Lib.countB s ⟨#[b]⟩ + 1) = ((Lib.splitB ⟨#[b]⟩ 0 (Lib.countB s ⟨#[b]⟩) s).map Value.string).toArray := by rw [← hlen]; exact Lib.cellsOf_full _
  rw [e2] at c
  have t3 := L.t3; have t9 := L.t9; have t31 := L.t31
  have a3 := L.a3; have a9 := L.a9; have a31 := L.a31
  have z3 := L.z3; have v3 := L.v3; have z9 := L.z9; have v9 := L.v9; have z31 := L.z31; have v31 := L.v31
  have e221 : ∀ args w, (callFunc (ρ.f 221) args).run P w = .ok (.enter (ρ.f 221) args) w := enters_of L.f221 (by kernel_rfl) rfl
  go_enter L.f146, Body.n146_ntmps ρ
  go_wp2_with (go_at_fn (ρ.f 221); refine c.mono ?_; rintro e w' ⟨rfl, hw⟩; rw [hw])
  go_ret
  exact ⟨rfl, _, rfl⟩
end
end Go.Abs
namespace Go.Proofs
open Go.Shelf
def Tryz.lays146_ren : Go.Shelf.Ren := ⟨fun | 146 => 181 | 221 => 234 | 268 => 252 | 138 => 253 | 143 => 254 | 195 => 259 | 197 => 260 | 218 => 261 | 219 => 262 | 260 => 264 | 217 => 265 | 225 => 266 | 224 => 267 | 267 => 268 | 266 => 269 | 314 => 270 | n => n, fun | 9 => 9 | 31 => 34 | 3 => 3 | 4 => 4 | 0 => 0 | 105 => 254 | 21 => 21 | 5 => 5 | 46 => 157 | 119 => 258 | 139 => 261 | 138 => 260 | 146 => 263 | 51 => 262 | n => n, fun | 1 => 0 | 3 => 1 | 4 => 2 | n => n⟩
theorem Tryz.lays146 : Go.Proofs.Lays.n146 Tryz.prog Tryz.lays146_ren := {
  mixed := by kernel_rfl
  f138 := Tryz.func253.trans (congrArg some (by kernel_rfl))
  f143 := Tryz.func254.trans (congrArg some (by kernel_rfl))
  f146 := Tryz.func181.trans (congrArg some (by kernel_rfl))
  f195 := Tryz.func259.trans (congrArg some (by kernel_rfl))
  f197 := Tryz.func260.trans (congrArg some (by kernel_rfl))
  f217 := Tryz.func265.trans (congrArg some (by kernel_rfl))
  f218 := Tryz.func261.trans (congrArg some (by kernel_rfl))
  f219 := Tryz.func262.trans (congrArg some (by kernel_rfl))
  f221 := Tryz.func234.trans (congrArg some (by kernel_rfl))
  f224 := Tryz.func267.trans (congrArg some (by kernel_rfl))
  f225 := Tryz.func266.trans (congrArg some (by kernel_rfl))
  f260 := Tryz.func264.trans (congrArg some (by kernel_rfl))
  f266 := Tryz.func269.trans (congrArg some (by kernel_rfl))
  f267 := Tryz.func268.trans (congrArg some (by kernel_rfl))
  f268 := Tryz.func252.trans (congrArg some (by kernel_rfl))
  f314 := Tryz.func270.trans (congrArg some (by kernel_rfl))
  t0 := Tryz.underlying0
  a0 := Tryz.isAgg0
  z0 := Tryz.sizeOf0
  v0 := Tryz.zeroValue0
  t3 := Tryz.underlying3
  a3 := Tryz.isAgg3
  z3 := Tryz.sizeOf3
  v3 := Tryz.zeroValue3
  t4 := Tryz.underlying4
  a4 := Tryz.isAgg4
  z4 := Tryz.sizeOf4
  v4 := Tryz.zeroValue4
  t5 := Tryz.underlying5
  a5 := Tryz.isAgg5
  z5 := Tryz.sizeOf5
  v5 := Tryz.zeroValue5
  t9 := Tryz.underlying9
  a9 := Tryz.isAgg9
  z9 := Tryz.sizeOf9
  v9 := Tryz.zeroValue9
  t21 := Tryz.underlying21
  a21 := Tryz.isAgg21
  z21 := Tryz.sizeOf21
  v21 := Tryz.zeroValue21
  t31 := Tryz.underlying34
  a31 := Tryz.isAgg34
  z31 := Tryz.sizeOf34
  v31 := Tryz.zeroValue34
  t46 := Tryz.underlying157
  a46 := Tryz.isAgg157
  z46 := Tryz.sizeOf157
  v46 := Tryz.zeroValue157
  t51 := Tryz.underlying262
  a51 := Tryz.isAgg262
  z51 := Tryz.sizeOf262
  v51 := Tryz.zeroValue262
  t105 := Tryz.underlying254
  a105 := Tryz.isAgg254
  z105 := Tryz.sizeOf254
  v105 := Tryz.zeroValue254
  t119 := Tryz.underlying258
  a119 := Tryz.isAgg258
  z119 := Tryz.sizeOf258
  t138 := Tryz.underlying260
  a138 := Tryz.isAgg260
  z138 := Tryz.sizeOf260
  v138 := Tryz.zeroValue260
  t139 := Tryz.underlying261
  a139 := Tryz.isAgg261
  z139 := Tryz.sizeOf261
  v139 := Tryz.zeroValue261
  t146 := Tryz.underlying263
  a146 := Tryz.isAgg263
  z146 := Tryz.sizeOf263
  v146 := Tryz.zeroValue263
  g1 := by kernel_rfl
  g3 := by kernel_rfl
  g4 := by kernel_rfl }
end Go.Proofs
namespace Go.Proofs.YtaaajjinpppgeaaGreatDoor
open Go Go.Abs
theorem splitOk : OrcOk Tryz.prog 181 splitO := split_orc Tryz.func181 rfl rfl (split_one Tryz.lays146 (by kernel_rfl))
end Go.Proofs.YtaaajjinpppgeaaGreatDoor
namespace Go.Abs
open Go Go.RowKit
section
variable {T : FuncId → Option EF}
def RunC (T : FuncId → Option EF) (b : Nat) (ec : EC) (s : CS) (y : AX) (s' : CS) : Prop := ∀ env, Agree env s.tr → ∃ N env', evC (runF T N) b N ec ⟨env, s.mem⟩ = some (y, ⟨env', s'.mem⟩) ∧ Agree env' s'.tr
def RunR (T : FuncId → Option EF) (q : Bool) (l : List EI) (s s' : CS) : Prop := ∀ env, Agree env s.tr → ∃ N env', evR (runF T N) q l ⟨env, s.mem⟩ = some ⟨env', s'.mem⟩ ∧ Agree env' s'.tr
def RunI (T : FuncId → Option EF) (q : Bool) (x : EI) (s s' : CS) : Prop := ∀ env, Agree env s.tr → ∃ N env', evI (runF T N) q x ⟨env, s.mem⟩ = some ⟨env', s'.mem⟩ ∧ Agree env' s'.tr
variable {b fuel : Nat} {s s1 s2 s' : CS} {x1 x2 ec : EC} {y z : AX} {q : Bool}
theorem RunC.of {call : CallF} (hc : Comes T call) (h : cvC call fuel ec s = some (y, s')) : RunC T b ec s y s' := fun env ha => cvC_ok hc ec h ha
theorem RunR.of {call : CallF} {l : List EI} (hc : Comes T call) (h : cvR call q l s = some s') : RunR T q l s s' := fun env ha => cvR_ok hc l h ha
theorem RunC.seq (h1 : RunC T b x1 s .normal s1) (h2 : RunC T b x2 s1 z s2) : RunC T b (.seq x1 x2) s z s2 := by
  intro env ha
  obtain ⟨N1, e1, h3, h4⟩ := h1 env ha
  obtain ⟨N2, e2, h7, h8⟩ := h2 e1 h4
  refine ⟨max N1 N2, e2, ?_, h8⟩
  simp only [evC]
  rw [evC_up (Nat.le_max_left N1 N2) h3]
  exact evC_up (Nat.le_max_right N1 N2) h7
theorem RunC.stop (h1 : RunC T b x1 s z s1) (hz : z ≠ .normal) : RunC T b (.seq x1 x2) s z s1 := by
  intro env ha
  obtain ⟨N1, e1, h3, h4⟩ := h1 env ha
  refine ⟨N1, e1, ?_, h4⟩
  simp only [evC]
  rw [h3, bnd_some, nxt_other hz]
theorem RunR.append {l1 l2 : List EI} (h1 : RunR T q l1 s s1) (h2 : RunR T q l2 s1 s2) : RunR T q (l1 ++ l2) s s2 := by
  induction l1 generalizing s with
  | nil =>
    intro env ha
    obtain ⟨N1, e1, h3, h4⟩ := h1 env ha
    obtain ⟨N2, e2, h5, h6⟩ := h2 e1 h4
    refine ⟨N2, e2, ?_, h6⟩
    simp only [evR] at h3
    have h3 := Option.some.inj h3
    rw [List.nil_append, h3]; exact h5
  | cons x l1 ih =>
    intro env ha
    obtain ⟨N1, e1, h3, h4⟩ := h1 env ha
    obtain ⟨N2, e2, h7, h8⟩ := h2 e1 h4
    refine ⟨max N1 N2, e2, ?_, h8⟩
    have app : ∀ (l : List EI) (c : CallF) (s : St), evR c q (l ++ l2) s = bnd (evR c q l s) (evR c q l2) := by
      intro l c
      induction l with
      | nil => intro s; simp only [List.nil_append, evR, bnd_some]
      | cons y l ih2 =>
        intro s
        simp only [List.cons_append, evR]
        cases evI c q y s with
        | none => rfl
        | some s => simp only [bnd_some]; exact ih2 s
    rw [app, evR_mono (runF_le (Nat.le_max_left N1 N2)) _ h3, bnd_some]
    exact evR_mono (runF_le (Nat.le_max_right N1 N2)) _ h7
theorem RunC.block {id : Nat} {x : EC} (h1 : RunC T b x s y s') : RunC T b (.block id x) s (outBC id (y, s')).1 s' := by
  intro env ha
  obtain ⟨N1, e1, h3, h4⟩ := h1 env ha
  refine ⟨N1, e1, ?_, h4⟩
  simp only [evC]
  rw [h3, bnd_some]
  cases y with
  | normal => rfl
  | ret => rfl
  | exit i =>
    simp only [outB, outBC]
    split <;> rfl
theorem RunC.tail {call : CallF} (hc : Comes T call) {rs : List RV} {r : AV × Mem} (h : bnd (cvC call fuel ec s) (finC b rs) = some r) : ∃ y s', RunC T b ec s y s' ∧ finC b rs (y, s') = some r := by
  obtain ⟨⟨y, s'⟩, h1, h2⟩ := bnd_eq h
  exact ⟨y, s', .of hc h1, h2⟩
theorem RunC.skip : RunC T b .skip s .normal s := fun env ha => ⟨0, env, rfl, ha⟩
theorem RunC.ret : RunC T b .ret s .ret s := fun env ha => ⟨0, env, rfl, ha⟩
theorem RunC.view {v : List Vw} (h : vwC v s = some s1) (h2 : RunC T b ec s1 y s') : RunC T b (.view v ec) s y s' := by
  intro env ha
  obtain ⟨h3, h4⟩ := vwC_ok (b := b) (env := env) h
  obtain ⟨N, e1, h5, h6⟩ := h2 env (by rw [h3]; exact ha)
  exact ⟨N, e1, by simp only [evC]; rw [h4, bnd_some]; exact h5, h6⟩
theorem RunC.region {l : List EI} {d : Bool} (h : RunR T false l s s') : RunC T b (.region l d) s .normal s' := by
  intro env ha
  obtain ⟨N, e1, h3, h4⟩ := h env ha
  exact ⟨N, e1, by simp only [evC]; rw [h3]; rfl, h4⟩
theorem RunR.nil : RunR T q [] s s := fun env ha => ⟨0, env, by simp only [evR], ha⟩
theorem RunR.cons {x : EI} {xs : List EI} (h1 : RunI T q x s s1) (h2 : RunR T q xs s1 s2) : RunR T q (x :: xs) s s2 := by
  intro env ha
  obtain ⟨N1, e1, h3, h4⟩ := h1 env ha
  obtain ⟨N2, e2, h5, h6⟩ := h2 e1 h4
  refine ⟨max N1 N2, e2, ?_, h6⟩
  simp only [evR]
  rw [evI_mono (runF_le (Nat.le_max_left N1 N2)) x h3, bnd_some]
  exact evR_mono (runF_le (Nat.le_max_right N1 N2)) xs h5
theorem RunI.of {call : CallF} {x : EI} (hc : Comes T call) (h : cvI call q x s = some s') : RunI T q x s s' := fun env ha => cvI_ok hc x h ha
theorem RunI.pc {f : FuncId} {os : List Opd} {dst : Option Nat} {solo : Bool} {args : List AV} {r : AV} {v : AV × Option Mem} (ha : os.map (getC s.tr) = args) (hd : args.all isDef = true) (hc : args.all AV.closed = true)
    (hE : E T f args [] = some (r, [])) (ho : pcOut s.mem false (some (r, [])) = some v) (hs : stpC q s dst v = some s') : RunI T q (.pc (.const (.fn f [])) os dst solo) s s' := by
  intro env hag
  obtain ⟨N, hN⟩ := lim_some hE
  obtain ⟨env', h3, h4⟩ := stpC_ok hag hs
  refine ⟨N, env', ?_, h4⟩
  simp only [evI]
  rw [getsC_eq hag, ha]
  have e : pcE (runF T N) s.mem args (getOpd (St.get ⟨env, s.mem⟩) (.const (.fn f []))) = some v := by
    show (if args.all isDef = true then pcF (runF T N) s.mem f (args ++ []) else none) = some v
    rw [if_pos hd, List.append_nil]
    unfold pcF
    rw [if_pos hc, hN]; exact ho
  rw [e]; exact h3
def retC (rs : List RV) (b : Nat) : AX × CS → Option (AV × Mem)
  | (.ret, s) => finC b rs (.ret, s)
  | _ => none
theorem cv_seq {call : CallF} {x y : EC} {s s' : CS} (h : cvC call fuel (.seq x y) s = some (.normal, s')) : ∃ s1, cvC call fuel x s = some (.normal, s1) ∧ cvC call fuel y s1 = some (.normal, s') := by
  simp only [cvC] at h
  obtain ⟨⟨y1, s1⟩, h1, h2⟩ := bnd_eq h
  rcases nxt_some h2 with ⟨h3, h4⟩ | ⟨h3, h4⟩
  · simp only at h3 h4; subst h3; exact ⟨s1, h1, h4⟩
  · cases h4; exact absurd rfl h3
theorem RunC.tailR {call : CallF} (hc : Comes T call) {rs : List RV} {r : AV × Mem} (h : bnd (cvC call fuel ec s) (retC rs b) = some r) : ∃ s', RunC T b ec s .ret s' ∧ finC b rs (.ret, s') = some r := by
  obtain ⟨⟨y, s'⟩, h1, h2⟩ := bnd_eq h
  cases y with
  | ret => exact ⟨s', .of hc h1, h2⟩
  | _ => cases h2
theorem RunC.fin {f : FuncId} {F : EF} {args : List AV} {r : AV × Mem} (hF : T f = some F) (ho : F.orc = none) (hw : F.ful = .one) (hn : (Nat.ble args.length F.ntmps && Nat.blt args.length 4000) = true)
    (h : RunC T 0 F.body ⟨trA 0 args .lf, []⟩ y s') (hf : finC 0 F.results (y, s') = some r) : E T f args [] = some r := by
  simp only [Bool.and_eq_true, Nat.ble_eq, Nat.blt_eq] at hn
  obtain ⟨N, env, h3, h4⟩ := h _ (trA_agree hn.2)
  have hB : runB (runF T N) N F args [] = some r := by
    unfold runB
    rw [if_pos hn.1]
    show bnd (evC (runF T N) 0 N F.body ⟨enumA 0 args, []⟩) _ = _
    rw [h3, bnd_some]
    exact finC_ok h4 hf
  have hr : runF T (N + 1) f args [] = some r := by
    obtain ⟨u, m⟩ := r
    simp only [runF, hF, ho, orcE, hB, finW, hw, wid]
  exact lim_eq (E_mono T f args []) hr
theorem TblOk.orcT {k : Nat} {g : List AV → Mem → Option (AV × Mem)} : ∀ {tbl : List (Nat × CF)}, TblOk T tbl → (tbl.all fun p => match p.2 with | .own _ => !(p.1 == k) | .orc _ => false) = true → TblOk (orcT T [(k, g)]) tbl := by
  intro tbl
  induction tbl with
  | nil => intro _ _; trivial
  | cons p tbl ih =>
    intro h ha
    obtain ⟨f, c⟩ := p
    rw [List.all_cons, Bool.and_eq_true] at ha
    cases c with
    | orc g' => exact absurd ha.1 (by simp)
    | own F =>
      refine ⟨⟨orcT_at h.1.1 ?_, h.1.2⟩, ih h.2 ha.2⟩
      have := ha.1
      simp only [Bool.not_eq_true', beq_eq_false_iff_ne] at this
      simp only [List.all_cons, List.all_nil, Bool.and_true, Bool.not_eq_true', beq_eq_false_iff_ne]
      exact fun e => this e.symm
end
def sqL : EC → EC
  | .seq a _ => a
  | c => c
def sqR : EC → EC
  | .seq _ b => b
  | c => c
end Go.Abs
namespace Go.Proofs.YtaaajjinpppgeaaGreatDoor
open Go Go.Abs
set_option maxRecDepth 100000
noncomputable def TB1 : FuncId → Option EF := orcT TBt [(116, lookO)]
noncomputable def TB : FuncId → Option EF := orcT TB1 [(181, splitO)]
theorem hTB : ∀ t U, tt.get t = some U → tyOf Tryz.prog t = some U := Types.ok tt_rows
theorem okTB : TOk Tryz.prog tt puresBt TB := orcT_ok (orcT_ok (table_ok _ _ _ _ _) (fun p hp => by cases List.mem_singleton.1 hp; exact lookOk)) (fun p hp => by cases List.mem_singleton.1 hp; exact splitOk)
theorem callsB {f : FuncId} {args : List AV} {res : AV} (h : E TB f args [] = some (res, [])) : ACalls Tryz.prog f args res := E_calls mixed hTB okTB h
theorem tB1 {f : FuncId} {F : EF} (h : TBt f = some F) (hf : (f == 116) = false) : TB1 f = some F := orcT_at h (by simp only [List.all_cons, List.all_nil, Bool.and_true]; rw [show (116 == f) = (f == 116) from Bool.eq_iff_iff.2 ⟨fun h => by simpa using (by simpa using h : 116 = f).symm, fun h => by simpa using (by simpa using h : f = 116).symm⟩, hf]; rfl)
theorem tB2 {f : FuncId} {F : EF} (h : TB1 f = some F) (hf : (f == 181) = false) : TB f = some F := orcT_at h (by simp only [List.all_cons, List.all_nil, Bool.and_true]; rw [show (181 == f) = (f == 181) from Bool.eq_iff_iff.2 ⟨fun h => by simpa using (by simpa using h : 181 = f).symm, fun h => by simpa using (by simpa using h : f = 181).symm⟩, hf]; rfl)
theorem tB {f : FuncId} {F : EF} (h : TBt f = some F) (hf : (f == 116 || f == 181) = false) : TB f = some F := by
  rw [Bool.or_eq_false_iff] at hf
  exact tB2 (tB1 h hf.1) hf.2
theorem at116 : TB 116 = some ⟨.ret, [], 0, .one, some lookO⟩ := by
  unfold TB orcT
  rw [if_neg (by decide)]
  show orcT TB1 [] 116 = _
  unfold orcT TB1 orcT
  rw [if_pos rfl]
theorem at181 : TB 181 = some ⟨.ret, [], 0, .one, some splitO⟩ := by
  unfold TB orcT
  rw [if_pos rfl]
def tblB : List (Nat × CF) := (181, .orc splitO) :: (116, .orc lookO) :: tblBt
theorem tblB_ok : TblOk TB tblB :=
  ⟨fun args mem v h => by rw [E_orc (T := TB) (f := 181) (F := ⟨.ret, [], 0, .one, some splitO⟩) (g := splitO) at181 rfl]; exact h,
   fun args mem v h => by rw [E_orc (T := TB) (f := 116) (F := ⟨.ret, [], 0, .one, some lookO⟩) (g := lookO) at116 rfl]; exact h,
   TblOk.orcT (TblOk.orcT tblBt_ok (by kernel_rfl)) (by kernel_rfl)⟩
theorem cB : Go.Abs.Comes TB (crun tblB 5000 60) := crun_comes tblB_ok _ _
end Go.Proofs.YtaaajjinpppgeaaGreatDoor
namespace Go.Abs
open Go Go.RowKit
mutual
def eqA : AV → AV → Bool
  | .undef, y => match y with | .undef => true | _ => false
  | .one, y => match y with | .one => true | _ => false
  | .bool a, y => match y with | .bool b => a == b | _ => false
  | .int k a, y => match y with | .int k' b => decide (k = k') && eqI a b | _ => false
  | .str a, y => match y with | .str b => a.data.toList == b.data.toList | _ => false
  | .nil, y => match y with | .nil => true | _ => false
  | .ro s l, y => match y with | .ro s' l' => Nat.beq s s' && eqL l l' | _ => false
  | .rop l, y => match y with | .rop l' => eqL l l' | _ => false
  | .fn f l, y => match y with | .fn f' l' => Nat.beq f f' && eqL l l' | _ => false
  | .tup l, y => match y with | .tup l' => eqL l l' | _ => false
  | .agg l, y => match y with | .agg l' => eqL l l' | _ => false
  | .sl i o n, y => match y with | .sl i' o' n' => Nat.beq i i' && Nat.beq o o' && Nat.beq n n' | _ => false
  | .ptr i o n, y => match y with | .ptr i' o' n' => Nat.beq i i' && Nat.beq o o' && Nat.beq n n' | _ => false
  | .own s l, y => match y with | .own s' l' => Nat.beq s s' && eqL l l' | _ => false
  | .box x, y => match y with | .box x' => eqA x x' | _ => false
def eqL : List AV → List AV → Bool
  | [], m => match m with | [] => true | _ => false
  | x :: l, m => match m with | y :: m => eqA x y && eqL l m | [] => false
end
theorem str_of_list {a b : ByteArray} (h : (a.data.toList == b.data.toList) = true) : a = b := by
  have h := eq_of_beq h
  obtain ⟨⟨a⟩⟩ := a
  obtain ⟨⟨b⟩⟩ := b
  simp only at h
  rw [h]
mutual
theorem eqA_ok : ∀ (a b : AV), eqA a b = true → a = b
  | .undef, b, h => by cases b <;> simp [eqA] at h <;> rfl
  | .one, b, h => by cases b <;> simp [eqA] at h <;> rfl
  | .bool a, b, h => by cases b <;> simp [eqA] at h; rw [h]
  | .int k a, b, h => by
    cases b <;> simp only [eqA, Bool.false_eq_true] at h
    rw [Bool.and_eq_true, decide_eq_true_eq, eqI_eq, beq_iff_eq] at h
    rw [h.1, h.2]
  | .str a, b, h => by
    cases b <;> simp only [eqA, Bool.false_eq_true] at h
    rw [str_of_list h]
  | .nil, b, h => by cases b <;> simp [eqA] at h <;> rfl
  | .ro s l, b, h => by
    cases b <;> simp only [eqA, Bool.false_eq_true] at h
    rw [Bool.and_eq_true, Nat.beq_eq] at h
    rw [h.1, eqL_ok l _ h.2]
  | .rop l, b, h => by
    cases b <;> simp only [eqA, Bool.false_eq_true] at h
    rw [eqL_ok l _ h]
  | .fn f l, b, h => by
    cases b <;> simp only [eqA, Bool.false_eq_true] at h
    rw [Bool.and_eq_true] at h
    rw [Nat.eq_of_beq_eq_true h.1, eqL_ok l _ h.2]
  | .tup l, b, h => by
    cases b <;> simp only [eqA, Bool.false_eq_true] at h
    rw [eqL_ok l _ h]
  | .agg l, b, h => by
    cases b <;> simp only [eqA, Bool.false_eq_true] at h
    rw [eqL_ok l _ h]
  | .sl i o n, b, h => by
    cases b <;> simp only [eqA, Bool.false_eq_true] at h
    rw [Bool.and_eq_true, Bool.and_eq_true] at h
    rw [Nat.eq_of_beq_eq_true h.1.1, Nat.eq_of_beq_eq_true h.1.2, Nat.eq_of_beq_eq_true h.2]
  | .ptr i o n, b, h => by
    cases b <;> simp only [eqA, Bool.false_eq_true] at h
    rw [Bool.and_eq_true, Bool.and_eq_true] at h
    rw [Nat.eq_of_beq_eq_true h.1.1, Nat.eq_of_beq_eq_true h.1.2, Nat.eq_of_beq_eq_true h.2]
  | .own s l, b, h => by
    cases b <;> simp only [eqA, Bool.false_eq_true] at h
    rw [Bool.and_eq_true] at h
    rw [Nat.eq_of_beq_eq_true h.1, eqL_ok l _ h.2]
  | .box x, b, h => by
    cases b <;> simp only [eqA, Bool.false_eq_true] at h
    rw [eqA_ok x _ h]
theorem eqL_ok : ∀ (a b : List AV), eqL a b = true → a = b
  | [], b, h => by cases b <;> simp [eqL] at h; rfl
  | x :: l, b, h => by
    cases b with
    | nil => simp [eqL] at h
    | cons y m =>
      simp only [eqL, Bool.and_eq_true] at h
      rw [eqA_ok x y h.1, eqL_ok l m h.2]
end
def memoG : List (List AV × AV) → List AV → Mem → Option (AV × Mem)
  | [], _, _ => none
  | (a, r) :: l, args, mem => cond (eqL a args) (match mem with | [] => some (r, []) | _ => none) (memoG l args mem)
theorem memo_ok {T : FuncId → Option EF} {f : FuncId} : ∀ {l : List (List AV × AV)}, (∀ p ∈ l, E T f p.1 [] = some (p.2, [])) → ∀ args mem v, memoG l args mem = some v → E T f args mem = some v := by
  intro l
  induction l with
  | nil => intro _ args mem v h; cases h
  | cons p l ih =>
    obtain ⟨a, r⟩ := p
    intro hl args mem v h
    simp only [memoG] at h
    cases he : eqL a args with
    | true =>
      rw [he, cond_true] at h
      have := eqL_ok _ _ he
      subst this
      cases mem with
      | nil => cases h; exact hl (a, r) (List.mem_cons_self ..)
      | cons x m => cases h
    | false =>
      rw [he, cond_false] at h
      exact ih (fun p hp => hl p (List.mem_cons_of_mem _ hp)) args mem v h
end Go.Abs
