/- Inodes and blocks by their numbers; the slots with a name of a directory. Own work; no condition. -/
import Derived.Test.YtaaajjinpppgeaaGreatLz
set_option linter.unusedVariables false
set_option linter.unusedSimpArgs false
set_option linter.unusedSectionVars false
namespace Go.Proofs.YtaaajjinpppgeaaGreat
open Go Go.Abs
set_option maxRecDepth 100000
def inoOf (x : Dsk) (i : Int) : Ino := if inside i 1 x.inos.length then x.inos.getD (i - 1).toNat ino0 else ino0
def blkOf (x : Dsk) (p : Int) : Blk := if inside p 1 x.blks.length then x.blks.getD (p - 1).toNat blk0 else blk0
theorem inoOf_mem {x : Dsk} {i : Int} (h : inside i 1 x.inos.length = true) : x.inos[(i - 1).toNat]? = some (inoOf x i) := by
  have h2 := h
  simp only [inside, Bool.and_eq_true, decide_eq_true_eq] at h2
  obtain ⟨p, hp⟩ := get_at (show (i - 1).toNat < x.inos.length by omega)
  unfold inoOf; rw [if_pos h, getD_at hp]; exact hp
theorem blkOf_mem {x : Dsk} {i : Int} (h : inside i 1 x.blks.length = true) : x.blks[(i - 1).toNat]? = some (blkOf x i) := by
  have h2 := h
  simp only [inside, Bool.and_eq_true, decide_eq_true_eq] at h2
  obtain ⟨p, hp⟩ := get_at (show (i - 1).toNat < x.blks.length by omega)
  unfold blkOf; rw [if_pos h, getD_at hp]; exact hp
theorem inoOf_sm {x : Dsk} (h : x.sm) (i : Int) : (inoOf x i).sm := by
  cases hc : inside i 1 x.inos.length with
  | true => exact h.ino _ (List.mem_of_getElem? (inoOf_mem hc))
  | false => unfold inoOf; rw [hc]; exact (by decide : (0 : Nat) ≤ 1048576)
theorem blkOf_sm {x : Dsk} (h : x.sm) (i : Int) : (blkOf x i).sm := by
  cases hc : inside i 1 x.blks.length with
  | true => exact h.blk _ (List.mem_of_getElem? (blkOf_mem hc))
  | false => unfold blkOf; rw [hc]; exact (by decide : (0 : Nat) ≤ 1048576)
theorem e143u (x : Dsk) (h : x.sm) (i : Int) : E T 143 [dsk x, .int .i64 i] [] = some (ino (inoOf x i), []) := by
  cases hc : inside i 1 x.inos.length with
  | true => exact e143 x i h.inos hc _ (inoOf_mem hc)
  | false => rw [e143n x i hc]; unfold inoOf; rw [hc]; rfl
theorem e111u (x : Dsk) (h : x.sm) (i : Int) : E T 111 [dsk x, .int .i64 i] [] = some (blk (blkOf x i), []) := by
  cases hc : inside i 1 x.blks.length with
  | true => exact e111 x i h.blks hc _ (blkOf_mem hc)
  | false => rw [e111n x i hc]; unfold blkOf; rw [hc]; rfl
theorem e193u (x : Dsk) (h : x.sm) (i : Int) : E T 193 [dsk x, .int .i64 i] [] = some (.tup [blk (blkOf x i), .bool (inside i 1 x.blks.length)], []) := by
  cases hc : inside i 1 x.blks.length with
  | true => exact e193 x i h.blks hc _ (blkOf_mem hc)
  | false => rw [e193n x i hc]; unfold blkOf; rw [hc]; rfl
def hasName (s : Slt) : Bool := !decide (s.name = ⟨#[]⟩)
def namedOf (b : Blk) : List Slt := if b.dir then b.slots.filter hasName else []
def slotsAt (x : Dsk) (i : Int) : List Slt := if (inoOf x i).kind = 2 then (inoOf x i).ptrs.flatMap fun p => namedOf (blkOf x p) else []
theorem namedOf_len {x : Dsk} (h : x.sm) (p : Int) : (namedOf (blkOf x p)).length ≤ 1048576 := by
  have h1 := blkOf_sm h p
  unfold namedOf; split
  · exact Nat.le_trans (List.length_filter_le ..) h1
  · simp
theorem flat_len {x : Dsk} (h : x.sm) (l : List Int) : (l.flatMap fun p => namedOf (blkOf x p)).length ≤ l.length * 1048576 := by
  induction l with
  | nil => simp
  | cons p l ih =>
    have := namedOf_len h p
    simp only [List.flatMap_cons, List.length_append, List.length_cons]; omega
def ptrsN (x : Dsk) (i : Int) : Nat := (inoOf x i).ptrs.length
theorem slotsAt_len {x : Dsk} (h : x.sm) (i : Int) : (slotsAt x i).length ≤ ptrsN x i * 1048576 := by
  unfold slotsAt; split
  · exact flat_len h _
  · simp
end Go.Proofs.YtaaajjinpppgeaaGreat
