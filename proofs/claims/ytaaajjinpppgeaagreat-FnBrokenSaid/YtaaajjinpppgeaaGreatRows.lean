/-
  No cell of these rows narrows 'for every input' (looked for: loops, veiled, ifaces, maps, wideKeys, modest, calm, conditions, laid).
  DERIVED. THE GIVEN ROWS OF THIS SEAT. 7 by the template 'for every input the law returns true; each argument reads behind the call as it read before'; 0 by the template 'total and deterministic' (their statements: YtaaajjinpppgeaaGreatTotals.lean).
  GIVEN WITH THE SEED: the statements are not yours to turn. If you find one false, say at which input.
  Laid BY PROGRAM, IN A SANDBOX (cutbox-rows.mjs): the forced cells as the released guide's own fill.sh prints them over the translation d070ca5d81f40fee… (all of the seat's roots in one cut). By AI agents, Wed Nov 11 2026. No macro, syntax, notation, axiom, sorry.
-/
import Derived.Test.YtaaajjinpppgeaaGreatChecked
import GoSem.Claim
import GoSem.ClaimJoined
import GoSem.ClaimMapViews
import Derived.JoinedTies
import Derived.KernelRfl
namespace Go.Proofs.YtaaajjinpppgeaaGreat
/- THE CELL 'sum', in the pinned program and in every row, IS THE sha256 OF THE DUMP (.gsa) THAT YtaaajjinpppgeaaGreatProg.lean LOADS. Nothing in Lean hashes anything: it is a label: what it is worth is what the hold of that sum in a sandbox is worth. -/
noncomputable def Tryz.pinned : Pinned := { name := "ytaaajjinpppgeaagreat", sum := "d070ca5d81f40fee902a85c3515d70e805b064bc3a970102a4ff6c1aec4cc650", checked := Tryz.checked }
namespace Rows
def none {H : Type} : Left H := { results := [], args := [] }

/-- 'laws.FnExactMounted': WHATEVER THE INPUT: true; the input reads as it did. -/
def fnExactMountedSpec : ChangeSpec := { name := "fnExactMounted", fn := fun _ => fun
  | [d] => { results := [.lit (.bool true)], args := [d] }
  | _ => none }
def fnExactMountedRow : OpenClaim := { program := "ytaaajjinpppgeaagreat", sum := "d070ca5d81f40fee902a85c3515d70e805b064bc3a970102a4ff6c1aec4cc650", func := "loop.example/g00235/laws.FnExactMounted", spec := "fnExactMounted", unfollowed := true, recurses := true, apart := false }
def FnExactMountedSaid : Prop := fnExactMountedRow.holds Tryz.pinned (OpenSpec.ofChange fnExactMountedSpec)

/-- ITS FALSE NEIGHBOUR: 'it returns false'. Refute it at one input. -/
def fnExactMountedWrong : ChangeSpec := { name := "fnExactMounted", fn := fun _ => fun
  | [d] => { results := [.lit (.bool false)], args := [d] }
  | _ => none }
def FnExactMountedWrongFalsely : Prop := fnExactMountedRow.holds Tryz.pinned (OpenSpec.ofChange fnExactMountedWrong)

/-- 'laws.FnExactMendRest': WHATEVER THE INPUT: true; the input reads as it did. -/
def fnExactMendRestSpec : ChangeSpec := { name := "fnExactMendRest", fn := fun _ => fun
  | [d] => { results := [.lit (.bool true)], args := [d] }
  | _ => none }
def fnExactMendRestRow : OpenClaim := { program := "ytaaajjinpppgeaagreat", sum := "d070ca5d81f40fee902a85c3515d70e805b064bc3a970102a4ff6c1aec4cc650", func := "loop.example/g00235/laws.FnExactMendRest", spec := "fnExactMendRest", unfollowed := true, recurses := true, apart := false }
def FnExactMendRestSaid : Prop := fnExactMendRestRow.holds Tryz.pinned (OpenSpec.ofChange fnExactMendRestSpec)

/-- ITS FALSE NEIGHBOUR: 'it returns false'. Refute it at one input. -/
def fnExactMendRestWrong : ChangeSpec := { name := "fnExactMendRest", fn := fun _ => fun
  | [d] => { results := [.lit (.bool false)], args := [d] }
  | _ => none }
def FnExactMendRestWrongFalsely : Prop := fnExactMendRestRow.holds Tryz.pinned (OpenSpec.ofChange fnExactMendRestWrong)

/-- 'laws.FnExactMendAll': WHATEVER THE INPUT: true; the input reads as it did. -/
def fnExactMendAllSpec : ChangeSpec := { name := "fnExactMendAll", fn := fun _ => fun
  | [d] => { results := [.lit (.bool true)], args := [d] }
  | _ => none }
def fnExactMendAllRow : OpenClaim := { program := "ytaaajjinpppgeaagreat", sum := "d070ca5d81f40fee902a85c3515d70e805b064bc3a970102a4ff6c1aec4cc650", func := "loop.example/g00235/laws.FnExactMendAll", spec := "fnExactMendAll", unfollowed := true, recurses := true, apart := false }
def FnExactMendAllSaid : Prop := fnExactMendAllRow.holds Tryz.pinned (OpenSpec.ofChange fnExactMendAllSpec)

/-- ITS FALSE NEIGHBOUR: 'it returns false'. Refute it at one input. -/
def fnExactMendAllWrong : ChangeSpec := { name := "fnExactMendAll", fn := fun _ => fun
  | [d] => { results := [.lit (.bool false)], args := [d] }
  | _ => none }
def FnExactMendAllWrongFalsely : Prop := fnExactMendAllRow.holds Tryz.pinned (OpenSpec.ofChange fnExactMendAllWrong)

/-- 'laws.FnImages': WHATEVER THE INPUT: true; the input reads as it did. -/
def fnImagesSpec : ChangeSpec := { name := "fnImages", fn := fun _ => fun
  | [d] => { results := [.lit (.bool true)], args := [d] }
  | _ => none }
def fnImagesRow : OpenClaim := { program := "ytaaajjinpppgeaagreat", sum := "d070ca5d81f40fee902a85c3515d70e805b064bc3a970102a4ff6c1aec4cc650", func := "loop.example/g00235/laws.FnImages", spec := "fnImages", recurses := true, apart := false }
def FnImagesSaid : Prop := fnImagesRow.holds Tryz.pinned (OpenSpec.ofChange fnImagesSpec)

/-- ITS FALSE NEIGHBOUR: 'it returns false'. Refute it at one input. -/
def fnImagesWrong : ChangeSpec := { name := "fnImages", fn := fun _ => fun
  | [d] => { results := [.lit (.bool false)], args := [d] }
  | _ => none }
def FnImagesWrongFalsely : Prop := fnImagesRow.holds Tryz.pinned (OpenSpec.ofChange fnImagesWrong)

/-- 'laws.FnUnitWrites': WHATEVER THE INPUT: true; the input reads as it did. -/
def fnUnitWritesSpec : ChangeSpec := { name := "fnUnitWrites", fn := fun _ => fun
  | [d] => { results := [.lit (.bool true)], args := [d] }
  | _ => none }
def fnUnitWritesRow : OpenClaim := { program := "ytaaajjinpppgeaagreat", sum := "d070ca5d81f40fee902a85c3515d70e805b064bc3a970102a4ff6c1aec4cc650", func := "loop.example/g00235/laws.FnUnitWrites", spec := "fnUnitWrites", recurses := true, apart := false }
def FnUnitWritesSaid : Prop := fnUnitWritesRow.holds Tryz.pinned (OpenSpec.ofChange fnUnitWritesSpec)

/-- ITS FALSE NEIGHBOUR: 'it returns false'. Refute it at one input. -/
def fnUnitWritesWrong : ChangeSpec := { name := "fnUnitWrites", fn := fun _ => fun
  | [d] => { results := [.lit (.bool false)], args := [d] }
  | _ => none }
def FnUnitWritesWrongFalsely : Prop := fnUnitWritesRow.holds Tryz.pinned (OpenSpec.ofChange fnUnitWritesWrong)

/-- 'laws.FnTakes': WHATEVER THE INPUT: true; the input reads as it did. -/
def fnTakesSpec : ChangeSpec := { name := "fnTakes", fn := fun _ => fun
  | [d] => { results := [.lit (.bool true)], args := [d] }
  | _ => none }
def fnTakesRow : OpenClaim := { program := "ytaaajjinpppgeaagreat", sum := "d070ca5d81f40fee902a85c3515d70e805b064bc3a970102a4ff6c1aec4cc650", func := "loop.example/g00235/laws.FnTakes", spec := "fnTakes", unfollowed := true, recurses := true, apart := false }
def FnTakesSaid : Prop := fnTakesRow.holds Tryz.pinned (OpenSpec.ofChange fnTakesSpec)

/-- ITS FALSE NEIGHBOUR: 'it returns false'. Refute it at one input. -/
def fnTakesWrong : ChangeSpec := { name := "fnTakes", fn := fun _ => fun
  | [d] => { results := [.lit (.bool false)], args := [d] }
  | _ => none }
def FnTakesWrongFalsely : Prop := fnTakesRow.holds Tryz.pinned (OpenSpec.ofChange fnTakesWrong)

/-- 'laws.FnBroken': WHATEVER THE INPUT: true; the input reads as it did. -/
def fnBrokenSpec : ChangeSpec := { name := "fnBroken", fn := fun _ => fun
  | [d] => { results := [.lit (.bool true)], args := [d] }
  | _ => none }
def fnBrokenRow : OpenClaim := { program := "ytaaajjinpppgeaagreat", sum := "d070ca5d81f40fee902a85c3515d70e805b064bc3a970102a4ff6c1aec4cc650", func := "loop.example/g00235/laws.FnBroken", spec := "fnBroken", unfollowed := true, recurses := true, apart := false }
def FnBrokenSaid : Prop := fnBrokenRow.holds Tryz.pinned (OpenSpec.ofChange fnBrokenSpec)

/-- ITS FALSE NEIGHBOUR: 'it returns false'. Refute it at one input. -/
def fnBrokenWrong : ChangeSpec := { name := "fnBroken", fn := fun _ => fun
  | [d] => { results := [.lit (.bool false)], args := [d] }
  | _ => none }
def FnBrokenWrongFalsely : Prop := fnBrokenRow.holds Tryz.pinned (OpenSpec.ofChange fnBrokenWrong)

/- THE SECOND FORM. 'bulk': how many values and letters a reading holds, each counted each time it is reached (what is shared counts as often as it is met; a slice's spare places count too). A statement '..UptoSaid' is the law's where the arguments, and the package variables that the reading takes, are together of bulk at most 1048576: NARROWER than '..Said'. Prove '..Said' where nothing that the law and all that it calls make is longer than what came in: it says more and counts as full. Else prove '..UptoSaid'. A law counts once. -/
mutual
def uptoBulk {H : Type} : DataW H → Nat
  | .lit (.string bytes) => bytes.length + 1
  | .lit _ => 1
  | .nil => 1
  | .ptr d => uptoBulk d + 1
  | .slice elems spare => uptoBulkAll elems + uptoBulkAll spare + 1
  | .agg parts => uptoBulkAll parts + 1
  | .iface _ d => uptoBulk d + 1
  | .map entries => uptoBulkEntries entries + 1
  | .held _ => 1
def uptoBulkAll {H : Type} : List (DataW H) → Nat
  | [] => 0
  | d :: r => uptoBulk d + uptoBulkAll r
def uptoBulkEntries {H : Type} : List (Lit × DataW H) → Nat
  | [] => 0
  | x :: r => uptoBulkEntry x + uptoBulkEntries r
def uptoBulkEntry {H : Type} : Lit × DataW H → Nat
  | (.string bytes, d) => bytes.length + uptoBulk d + 1
  | (_, d) => uptoBulk d + 1
 end
def uptoSmall : (H : Type) → List (DataW H) → Bool := fun _ ds => decide (uptoBulkAll ds ≤ 1048576)
def OpenSpec.upto (s : _root_.Go.ChangeSpec) : _root_.Go.OpenSpec := { _root_.Go.OpenSpec.ofChange s with cond := some uptoSmall }

/-- 'laws.FnExactMounted', WHERE WHAT IT READS IS OF BULK AT MOST 1048576: true; the input reads as it did. -/
def fnExactMountedUptoRow : OpenClaim := { program := "ytaaajjinpppgeaagreat", sum := "d070ca5d81f40fee902a85c3515d70e805b064bc3a970102a4ff6c1aec4cc650", func := "loop.example/g00235/laws.FnExactMounted", spec := "fnExactMounted", unfollowed := true, recurses := true, apart := false, narrowed := true }
def FnExactMountedUptoSaid : Prop := fnExactMountedUptoRow.holds Tryz.pinned (OpenSpec.upto fnExactMountedSpec)

/-- 'laws.FnExactMendRest', WHERE WHAT IT READS IS OF BULK AT MOST 1048576: true; the input reads as it did. -/
def fnExactMendRestUptoRow : OpenClaim := { program := "ytaaajjinpppgeaagreat", sum := "d070ca5d81f40fee902a85c3515d70e805b064bc3a970102a4ff6c1aec4cc650", func := "loop.example/g00235/laws.FnExactMendRest", spec := "fnExactMendRest", unfollowed := true, recurses := true, apart := false, narrowed := true }
def FnExactMendRestUptoSaid : Prop := fnExactMendRestUptoRow.holds Tryz.pinned (OpenSpec.upto fnExactMendRestSpec)

/-- 'laws.FnExactMendAll', WHERE WHAT IT READS IS OF BULK AT MOST 1048576: true; the input reads as it did. -/
def fnExactMendAllUptoRow : OpenClaim := { program := "ytaaajjinpppgeaagreat", sum := "d070ca5d81f40fee902a85c3515d70e805b064bc3a970102a4ff6c1aec4cc650", func := "loop.example/g00235/laws.FnExactMendAll", spec := "fnExactMendAll", unfollowed := true, recurses := true, apart := false, narrowed := true }
def FnExactMendAllUptoSaid : Prop := fnExactMendAllUptoRow.holds Tryz.pinned (OpenSpec.upto fnExactMendAllSpec)

/-- 'laws.FnImages', WHERE WHAT IT READS IS OF BULK AT MOST 1048576: true; the input reads as it did. -/
def fnImagesUptoRow : OpenClaim := { program := "ytaaajjinpppgeaagreat", sum := "d070ca5d81f40fee902a85c3515d70e805b064bc3a970102a4ff6c1aec4cc650", func := "loop.example/g00235/laws.FnImages", spec := "fnImages", recurses := true, apart := false, narrowed := true }
def FnImagesUptoSaid : Prop := fnImagesUptoRow.holds Tryz.pinned (OpenSpec.upto fnImagesSpec)

/-- 'laws.FnUnitWrites', WHERE WHAT IT READS IS OF BULK AT MOST 1048576: true; the input reads as it did. -/
def fnUnitWritesUptoRow : OpenClaim := { program := "ytaaajjinpppgeaagreat", sum := "d070ca5d81f40fee902a85c3515d70e805b064bc3a970102a4ff6c1aec4cc650", func := "loop.example/g00235/laws.FnUnitWrites", spec := "fnUnitWrites", recurses := true, apart := false, narrowed := true }
def FnUnitWritesUptoSaid : Prop := fnUnitWritesUptoRow.holds Tryz.pinned (OpenSpec.upto fnUnitWritesSpec)

/-- 'laws.FnTakes', WHERE WHAT IT READS IS OF BULK AT MOST 1048576: true; the input reads as it did. -/
def fnTakesUptoRow : OpenClaim := { program := "ytaaajjinpppgeaagreat", sum := "d070ca5d81f40fee902a85c3515d70e805b064bc3a970102a4ff6c1aec4cc650", func := "loop.example/g00235/laws.FnTakes", spec := "fnTakes", unfollowed := true, recurses := true, apart := false, narrowed := true }
def FnTakesUptoSaid : Prop := fnTakesUptoRow.holds Tryz.pinned (OpenSpec.upto fnTakesSpec)

/-- 'laws.FnBroken', WHERE WHAT IT READS IS OF BULK AT MOST 1048576: true; the input reads as it did. -/
def fnBrokenUptoRow : OpenClaim := { program := "ytaaajjinpppgeaagreat", sum := "d070ca5d81f40fee902a85c3515d70e805b064bc3a970102a4ff6c1aec4cc650", func := "loop.example/g00235/laws.FnBroken", spec := "fnBroken", unfollowed := true, recurses := true, apart := false, narrowed := true }
def FnBrokenUptoSaid : Prop := fnBrokenUptoRow.holds Tryz.pinned (OpenSpec.upto fnBrokenSpec)

end Rows
end Go.Proofs.YtaaajjinpppgeaaGreat
