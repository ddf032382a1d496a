/- The shapes of memories. Own work; no condition. -/
import Derived.Test.YtaaajjinpppgeaaDs
import Derived.Test.YtaaajjinpppgeaaMa
set_option linter.unusedVariables false
set_option linter.unusedSimpArgs false
set_option linter.unusedSectionVars false
namespace Go.Proofs.Ytaaajjinpppgeaa
open Go Go.Abs
set_option maxRecDepth 100000
def shP : Shp := .struct [.int .i64, .int .i64, .int .i64, .int .i64, .int .i64, .int .i64, .str, .bool, .bool, .int .i64, .slice 1 (.int .i64)]
def shM : Shp := .struct [shD, .slice 1 .bool, .slice 11 shP, .int .i64]
theorem isP (cs : List AV) (h : Is shP cs) : ∃ x : Dp, shP.elem cs = dp x ∧ x.ok := by
  cases h with | struct h =>
  cases h with | cons h1 h =>
  cases h with | cons h2 h =>
  cases h with | cons h3 h =>
  cases h with | cons h4 h =>
  cases h with | cons h5 h =>
  cases h with | cons h6 h =>
  cases h with | cons h7 h =>
  cases h with | cons h8 h =>
  cases h with | cons h9 h =>
  cases h with | cons h10 h =>
  cases h with | cons h11 h =>
  cases h
  cases h1; cases h2; cases h3; cases h4; cases h5; cases h6; cases h7; cases h8; cases h9; cases h10
  obtain ⟨xs, rfl, h4, _⟩ := isSl isIv h11
  exact ⟨⟨_, _, _, _, _, _, _, _, _, _, xs⟩, rfl, by assumption, h4⟩
theorem dsk_inj {cs : List AV} {x : Dsk} (h : AV.agg cs = dsk x) : cs = [.ro 1 (x.used.map bv), .ro 1 (x.taken.map bv), .ro 3 (x.inos.map ino), .ro 3 (x.blks.map blk)] := by
  unfold dsk at h; injection h
theorem isMc (cs : List AV) (h : Is shM cs) : ∃ x : Mm, .agg cs = mm x ∧ x.ok := by
  cases h with | struct h =>
  cases h with | cons h1 h =>
  cases h with | cons h2 h =>
  cases h with | cons h3 h =>
  cases h with | cons h4 h =>
  cases h
  obtain ⟨d, h5, h6⟩ := isDc _ h1
  have h5 := dsk_inj h5
  subst h5
  obtain ⟨a, rfl, a1, _⟩ := isSl isBv h2
  obtain ⟨b, rfl, b1, b2⟩ := isSl isP h3
  cases h4
  exact ⟨⟨d, a, b, _⟩, rfl, ⟨h6, a1, b1, b2⟩⟩
theorem isM {av : AV} (h : IsA shM av) : ∃ x : Mm, av = mm x ∧ x.ok := by
  obtain ⟨cs, h, rfl⟩ := h
  exact isMc cs h
end Go.Proofs.Ytaaajjinpppgeaa
