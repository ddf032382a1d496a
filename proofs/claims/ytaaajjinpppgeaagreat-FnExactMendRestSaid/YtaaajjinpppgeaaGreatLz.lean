/- Inodes and blocks of a disk by their numbers, where they are. Own work; no condition. -/
import Derived.Test.YtaaajjinpppgeaaGreatFu
import Derived.Test.YtaaajjinpppgeaaGreatFx
import Derived.Test.YtaaajjinpppgeaaGreatJa
import Derived.Test.YtaaajjinpppgeaaGreatDd
import Derived.Test.YtaaajjinpppgeaaGreatLp
set_option linter.unusedVariables false
set_option linter.unusedSimpArgs false
set_option linter.unusedSectionVars false
namespace Go.Proofs.YtaaajjinpppgeaaGreat
open Go Go.Abs
set_option maxRecDepth 100000
def ino0 : Ino := ⟨0, 0, []⟩
theorem getD_at {α : Type} {l : List α} {i : Nat} {p z : α} (h : l[i]? = some p) : l.getD i z = p := by simp [List.getD, h]
theorem e143n (x : Dsk) (i : Int) (hc : inside i 1 x.inos.length = false) : E T 143 [dsk x, .int .i64 i] [] = some (ino ino0, []) := by
  rw [E_eqW t143 (Nat.le_of_ble_eq_true rfl)]
  simp only [dsk, F143, go_sem, seval, bnd_ite, e105i, hc, ino, ino0, List.map_nil]
theorem e143 (x : Dsk) (i : Int) (hl : x.inos.length ≤ 1048576) (hc : inside i 1 x.inos.length = true) (p : Ino) (hp : x.inos[(i - 1).toNat]? = some p) : E T 143 [dsk x, .int .i64 i] [] = some (ino p, []) := by
  rw [E_eqW t143 (Nat.le_of_ble_eq_true rfl)]
  have hc' := hc
  simp only [inside, Bool.and_eq_true, decide_eq_true_eq] at hc'
  have gp : (x.inos.map ino).getD (i - 1).toNat .undef = .agg [.int .i64 p.kind, .int .i64 p.links, .ro 1 (p.ptrs.map iv)] := gD_map hp
  have b1 : 0 ≤ i - 1 := by omega
  have b2 : i - 1 < (x.inos.length : Int) := by omega
  simp only [dsk, F143, go_sem, seval, bnd_ite, e105i, hc, gp, b1, b2, w_i64 (i - 1) (by omega), ino]
theorem e193 (x : Dsk) (i : Int) (hl : x.blks.length ≤ 1048576) (hc : inside i 1 x.blks.length = true) (p : Blk) (hp : x.blks[(i - 1).toNat]? = some p) : E T 193 [dsk x, .int .i64 i] [] = some (.tup [blk p, .bool true], []) := by
  rw [E_eqW t193 (Nat.le_of_ble_eq_true rfl)]
  have hc' := hc
  simp only [inside, Bool.and_eq_true, decide_eq_true_eq] at hc'
  have gp : (x.blks.map blk).getD (i - 1).toNat .undef = .agg [.bool p.dir, .ro 2 (p.slots.map slt), .str p.text] := gD_map hp
  have b1 : 0 ≤ i - 1 := by omega
  have b2 : i - 1 < (x.blks.length : Int) := by omega
  simp only [dsk, F193, go_sem, seval, bnd_ite, e108i, hc, gp, b1, b2, w_i64 (i - 1) (by omega), blk]
theorem e193n (x : Dsk) (i : Int) (hc : inside i 1 x.blks.length = false) : E T 193 [dsk x, .int .i64 i] [] = some (.tup [.agg [.bool false, .ro 2 [], .str ⟨#[]⟩], .bool false], []) := by
  rw [E_eqW t193 (Nat.le_of_ble_eq_true rfl)]
  simp only [dsk, F193, go_sem, seval, bnd_ite, e108i, hc]
end Go.Proofs.YtaaajjinpppgeaaGreat
