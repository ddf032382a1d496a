/- The shapes of devices and file systems. Own work; no condition. -/
import Derived.Test.YtaaajjinpppgeaaMs
import Derived.Test.YtaaajjinpppgeaaVb
set_option linter.unusedVariables false
set_option linter.unusedSimpArgs false
set_option linter.unusedSectionVars false
namespace Go.Proofs.Ytaaajjinpppgeaa
open Go Go.Abs
set_option maxRecDepth 100000
def shV : Shp := .struct [.slice 1 .str]
def shF : Shp := .struct [shM, shV]
theorem isSv (cs : List AV) (h : Is .str cs) : ∃ x : ByteArray, Shp.str.elem cs = sv x ∧ x.size ≤ maxLen := by
  cases h; exact ⟨_, rfl, by assumption⟩
theorem isVc (cs : List AV) (h : Is shV cs) : ∃ x : List ByteArray, .agg cs = dvc x ∧ dvcOk' x := by
  cases h with | struct h =>
  cases h with | cons h1 h =>
  cases h
  obtain ⟨a, rfl, a1, a2⟩ := isSl isSv h1
  exact ⟨a, rfl, a1, a2⟩
theorem isV {av : AV} (h : IsA shV av) : ∃ x : List ByteArray, av = dvc x ∧ dvcOk' x := by
  obtain ⟨cs, h, rfl⟩ := h
  exact isVc cs h
theorem isF {av : AV} (h : IsA shF av) : ∃ x : Fsy, av = fsy x ∧ x.ok := by
  obtain ⟨cs, h, rfl⟩ := h
  cases h with | struct h =>
  cases h with | cons h1 h =>
  cases h with | cons h2 h =>
  cases h
  obtain ⟨m, h5, h6⟩ := isMc _ h1
  obtain ⟨v, h7, h8⟩ := isVc _ h2
  unfold mm at h5; injection h5 with h5; subst h5
  unfold dvc at h7; injection h7 with h7; subst h7
  exact ⟨⟨m, v⟩, rfl, ⟨h6, h8⟩⟩
end Go.Proofs.Ytaaajjinpppgeaa
