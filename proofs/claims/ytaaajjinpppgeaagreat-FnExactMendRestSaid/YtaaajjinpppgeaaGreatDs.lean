/- The shapes of disks; Shared answers true for each. Own work; no condition. -/
import Derived.Test.YtaaajjinpppgeaaGreatDc
set_option linter.unusedVariables false
set_option linter.unusedSimpArgs false
set_option linter.unusedSectionVars false
namespace Go.Proofs.YtaaajjinpppgeaaGreat
open Go Go.Abs
set_option maxRecDepth 100000
/-- A row of a shape is a row of things of a kind. -/
theorem rowsOf {α : Type} {e : Shp} {enc : α → AV} {ok : α → Prop} (h : ∀ cs, Is e cs → ∃ x, e.elem cs = enc x ∧ ok x) : ∀ {css : List (List AV)}, (∀ cs ∈ css, Is e cs) → ∃ xs : List α, css.map e.elem = xs.map enc ∧ xs.length = css.length ∧ ∀ x ∈ xs, ok x := by
  intro css
  induction css with
  | nil => intro _; exact ⟨[], rfl, rfl, fun x hx => by cases hx⟩
  | cons cs css ih =>
    intro hc
    obtain ⟨x, h1, h2⟩ := h cs (hc cs (List.mem_cons_self ..))
    obtain ⟨xs, h3, h4, h5⟩ := ih (fun c hcc => hc c (List.mem_cons_of_mem _ hcc))
    exact ⟨x :: xs, by simp [h1, h3], by simp [h4], fun y hy => by rcases List.mem_cons.1 hy with rfl | hy; exact h2; exact h5 y hy⟩
theorem isSl {α : Type} {s : Nat} {e : Shp} {enc : α → AV} {ok : α → Prop} (h : ∀ cs, Is e cs → ∃ x, e.elem cs = enc x ∧ ok x) {cs : List AV} (hc : Is (.slice s e) cs) : ∃ xs : List α, cs = [.ro s (xs.map enc)] ∧ xs.length ≤ maxLen ∧ ∀ x ∈ xs, ok x := by
  cases hc with | slice h1 hl =>
  obtain ⟨xs, h3, h4, h5⟩ := rowsOf h h1
  exact ⟨xs, by rw [h3], by omega, h5⟩
theorem isIv (cs : List AV) (h : Is (.int .i64) cs) : ∃ x : Int, (Shp.int .i64).elem cs = iv x ∧ True := by cases h; exact ⟨_, rfl, trivial⟩
theorem isBv (cs : List AV) (h : Is .bool cs) : ∃ x : Bool, Shp.bool.elem cs = bv x ∧ True := by cases h; exact ⟨_, rfl, trivial⟩
def shS : Shp := .struct [.str, .int .i64]
def shI : Shp := .struct [.int .i64, .int .i64, .slice 1 (.int .i64)]
def shB : Shp := .struct [.bool, .slice 2 shS, .str]
def shT : Shp := .struct [.slice 1 .bool, .slice 1 .bool]
def shD : Shp := .struct [shT, .slice 3 shI, .slice 3 shB]
theorem isS (cs : List AV) (h : Is shS cs) : ∃ x : Slt, shS.elem cs = slt x ∧ x.ok := by
  cases h with | struct h =>
  cases h with | cons h1 h =>
  cases h with | cons h2 h =>
  cases h
  cases h1; cases h2
  exact ⟨⟨_, _⟩, rfl, by assumption⟩
theorem isI (cs : List AV) (h : Is shI cs) : ∃ x : Ino, shI.elem cs = ino x ∧ x.ok := by
  cases h with | struct h =>
  cases h with | cons h1 h =>
  cases h with | cons h2 h =>
  cases h with | cons h3 h =>
  cases h
  cases h1; cases h2
  obtain ⟨xs, rfl, h4, _⟩ := isSl isIv h3
  exact ⟨⟨_, _, xs⟩, rfl, h4⟩
theorem isB (cs : List AV) (h : Is shB cs) : ∃ x : Blk, shB.elem cs = blk x ∧ x.ok := by
  cases h with | struct h =>
  cases h with | cons h1 h =>
  cases h with | cons h2 h =>
  cases h with | cons h3 h =>
  cases h
  cases h1; cases h3
  obtain ⟨xs, rfl, h4, h5⟩ := isSl isS h2
  exact ⟨⟨_, xs, _⟩, rfl, h4, by assumption, h5⟩
theorem isT (cs : List AV) (h : Is shT cs) : ∃ a b : List Bool, cs = [.ro 1 (a.map bv), .ro 1 (b.map bv)] ∧ a.length ≤ maxLen ∧ b.length ≤ maxLen := by
  cases h with | struct h =>
  cases h with | cons h1 h =>
  cases h with | cons h2 h =>
  cases h
  obtain ⟨a, rfl, a1, _⟩ := isSl isBv h1
  obtain ⟨b, rfl, b1, _⟩ := isSl isBv h2
  exact ⟨a, b, rfl, a1, b1⟩
theorem isDc (cs : List AV) (h : Is shD cs) : ∃ x : Dsk, .agg cs = dsk x ∧ x.ok := by
  cases h with | struct h =>
  cases h with | cons h1 h =>
  cases h with | cons h2 h =>
  cases h with | cons h3 h =>
  cases h
  obtain ⟨a, b, rfl, a1, b1⟩ := isT _ h1
  obtain ⟨c, rfl, c1, c2⟩ := isSl isI h2
  obtain ⟨d, rfl, d1, d2⟩ := isSl isB h3
  exact ⟨⟨a, b, c, d⟩, rfl, ⟨a1, b1, c1, d1, c2, d2⟩⟩
theorem isD {av : AV} (h : IsA shD av) : ∃ x : Dsk, av = dsk x ∧ x.ok := by
  obtain ⟨cs, h, rfl⟩ := h
  exact isDc cs h
end Go.Proofs.YtaaajjinpppgeaaGreat
