/-
  No cell of these rows narrows 'for every input' (looked for: loops, veiled, ifaces, maps, wideKeys, modest, calm, conditions, laid).
  DERIVED. THE GIVEN ROWS OF THIS SEAT. 26 by the template 'for every input the law returns true; each argument reads behind the call as it read before'; 0 by the template 'total and deterministic' (their statements: YtaaajjinpppgeaaTotals.lean).
  GIVEN WITH THE SEED: the statements are not yours to turn. If you find one false, say at which input.
  Laid BY PROGRAM, IN A SANDBOX (cutbox-rows.mjs): the forced cells as the released guide's own fill.sh prints them over the translation 48183477cf5ffbd4… (all of the seat's roots in one cut). By AI agents, Wed Nov 11 2026. No macro, syntax, notation, axiom, sorry.
-/
import Derived.Test.YtaaajjinpppgeaaChecked
import GoSem.Claim
import GoSem.ClaimJoined
import GoSem.ClaimMapViews
import Derived.JoinedTies
import Derived.KernelRfl
namespace Go.Proofs.Ytaaajjinpppgeaa
/- THE CELL 'sum', in the pinned program and in every row, IS THE sha256 OF THE DUMP (.gsa) THAT YtaaajjinpppgeaaProg.lean LOADS. Nothing in Lean hashes anything: it is a label: what it is worth is what the hold of that sum in a sandbox is worth. -/
noncomputable def Try.pinned : Pinned := { name := "ytaaajjinpppgeaa", sum := "48183477cf5ffbd40802d7fcd6c73f9491fa2e0c4ee8b965c03d808914c90a88", checked := Try.checked }
namespace Rows
def none {H : Type} : Left H := { results := [], args := [] }

/-- 'laws.FnExactEventOk': WHATEVER THE INPUT: true; the input reads as it did. -/
def fnExactEventOkSpec : ChangeSpec := { name := "fnExactEventOk", fn := fun _ => fun
  | [d] => { results := [.lit (.bool true)], args := [d] }
  | _ => none }
def fnExactEventOkRow : OpenClaim := { program := "ytaaajjinpppgeaa", sum := "48183477cf5ffbd40802d7fcd6c73f9491fa2e0c4ee8b965c03d808914c90a88", func := "loop.example/g00235/laws.FnExactEventOk", spec := "fnExactEventOk", apart := false }
def FnExactEventOkSaid : Prop := fnExactEventOkRow.holds Try.pinned (OpenSpec.ofChange fnExactEventOkSpec)

/-- ITS FALSE NEIGHBOUR: 'it returns false'. Refute it at one input. -/
def fnExactEventOkWrong : ChangeSpec := { name := "fnExactEventOk", fn := fun _ => fun
  | [d] => { results := [.lit (.bool false)], args := [d] }
  | _ => none }
def FnExactEventOkWrongFalsely : Prop := fnExactEventOkRow.holds Try.pinned (OpenSpec.ofChange fnExactEventOkWrong)

/-- 'laws.FnExactSameTree': WHATEVER THE INPUT: true; the input reads as it did. -/
def fnExactSameTreeSpec : ChangeSpec := { name := "fnExactSameTree", fn := fun _ => fun
  | [d1, d2] => { results := [.lit (.bool true)], args := [d1, d2] }
  | _ => none }
def fnExactSameTreeRow : OpenClaim := { program := "ytaaajjinpppgeaa", sum := "48183477cf5ffbd40802d7fcd6c73f9491fa2e0c4ee8b965c03d808914c90a88", func := "loop.example/g00235/laws.FnExactSameTree", spec := "fnExactSameTree", apart := false }
def FnExactSameTreeSaid : Prop := fnExactSameTreeRow.holds Try.pinned (OpenSpec.ofChange fnExactSameTreeSpec)

/-- ITS FALSE NEIGHBOUR: 'it returns false'. Refute it at one input. -/
def fnExactSameTreeWrong : ChangeSpec := { name := "fnExactSameTree", fn := fun _ => fun
  | [d1, d2] => { results := [.lit (.bool false)], args := [d1, d2] }
  | _ => none }
def FnExactSameTreeWrongFalsely : Prop := fnExactSameTreeRow.holds Try.pinned (OpenSpec.ofChange fnExactSameTreeWrong)

/-- 'laws.FnExactShared': WHATEVER THE INPUT: true; the input reads as it did. -/
def fnExactSharedSpec : ChangeSpec := { name := "fnExactShared", fn := fun _ => fun
  | [d] => { results := [.lit (.bool true)], args := [d] }
  | _ => none }
def fnExactSharedRow : OpenClaim := { program := "ytaaajjinpppgeaa", sum := "48183477cf5ffbd40802d7fcd6c73f9491fa2e0c4ee8b965c03d808914c90a88", func := "loop.example/g00235/laws.FnExactShared", spec := "fnExactShared", apart := false }
def FnExactSharedSaid : Prop := fnExactSharedRow.holds Try.pinned (OpenSpec.ofChange fnExactSharedSpec)

/-- ITS FALSE NEIGHBOUR: 'it returns false'. Refute it at one input. -/
def fnExactSharedWrong : ChangeSpec := { name := "fnExactShared", fn := fun _ => fun
  | [d] => { results := [.lit (.bool false)], args := [d] }
  | _ => none }
def FnExactSharedWrongFalsely : Prop := fnExactSharedRow.holds Try.pinned (OpenSpec.ofChange fnExactSharedWrong)

/-- 'laws.FnExactSettled': WHATEVER THE INPUT: true; the input reads as it did. -/
def fnExactSettledSpec : ChangeSpec := { name := "fnExactSettled", fn := fun _ => fun
  | [d] => { results := [.lit (.bool true)], args := [d] }
  | _ => none }
def fnExactSettledRow : OpenClaim := { program := "ytaaajjinpppgeaa", sum := "48183477cf5ffbd40802d7fcd6c73f9491fa2e0c4ee8b965c03d808914c90a88", func := "loop.example/g00235/laws.FnExactSettled", spec := "fnExactSettled", apart := false }
def FnExactSettledSaid : Prop := fnExactSettledRow.holds Try.pinned (OpenSpec.ofChange fnExactSettledSpec)

/-- ITS FALSE NEIGHBOUR: 'it returns false'. Refute it at one input. -/
def fnExactSettledWrong : ChangeSpec := { name := "fnExactSettled", fn := fun _ => fun
  | [d] => { results := [.lit (.bool false)], args := [d] }
  | _ => none }
def FnExactSettledWrongFalsely : Prop := fnExactSettledRow.holds Try.pinned (OpenSpec.ofChange fnExactSettledWrong)

/-- 'laws.FnExactImageInode': WHATEVER THE INPUT: true; the input reads as it did. -/
def fnExactImageInodeSpec : ChangeSpec := { name := "fnExactImageInode", fn := fun _ => fun
  | [d1, d2] => { results := [.lit (.bool true)], args := [d1, d2] }
  | _ => none }
def fnExactImageInodeRow : OpenClaim := { program := "ytaaajjinpppgeaa", sum := "48183477cf5ffbd40802d7fcd6c73f9491fa2e0c4ee8b965c03d808914c90a88", func := "loop.example/g00235/laws.FnExactImageInode", spec := "fnExactImageInode", apart := false }
def FnExactImageInodeSaid : Prop := fnExactImageInodeRow.holds Try.pinned (OpenSpec.ofChange fnExactImageInodeSpec)

/-- ITS FALSE NEIGHBOUR: 'it returns false'. Refute it at one input. -/
def fnExactImageInodeWrong : ChangeSpec := { name := "fnExactImageInode", fn := fun _ => fun
  | [d1, d2] => { results := [.lit (.bool false)], args := [d1, d2] }
  | _ => none }
def FnExactImageInodeWrongFalsely : Prop := fnExactImageInodeRow.holds Try.pinned (OpenSpec.ofChange fnExactImageInodeWrong)

/-- 'laws.FnExactImageBlock': WHATEVER THE INPUT: true; the input reads as it did. -/
def fnExactImageBlockSpec : ChangeSpec := { name := "fnExactImageBlock", fn := fun _ => fun
  | [d1, d2] => { results := [.lit (.bool true)], args := [d1, d2] }
  | _ => none }
def fnExactImageBlockRow : OpenClaim := { program := "ytaaajjinpppgeaa", sum := "48183477cf5ffbd40802d7fcd6c73f9491fa2e0c4ee8b965c03d808914c90a88", func := "loop.example/g00235/laws.FnExactImageBlock", spec := "fnExactImageBlock", apart := false }
def FnExactImageBlockSaid : Prop := fnExactImageBlockRow.holds Try.pinned (OpenSpec.ofChange fnExactImageBlockSpec)

/-- ITS FALSE NEIGHBOUR: 'it returns false'. Refute it at one input. -/
def fnExactImageBlockWrong : ChangeSpec := { name := "fnExactImageBlock", fn := fun _ => fun
  | [d1, d2] => { results := [.lit (.bool false)], args := [d1, d2] }
  | _ => none }
def FnExactImageBlockWrongFalsely : Prop := fnExactImageBlockRow.holds Try.pinned (OpenSpec.ofChange fnExactImageBlockWrong)

/-- 'laws.FnExactMemOk': WHATEVER THE INPUT: true; the input reads as it did. -/
def fnExactMemOkSpec : ChangeSpec := { name := "fnExactMemOk", fn := fun _ => fun
  | [d] => { results := [.lit (.bool true)], args := [d] }
  | _ => none }
def fnExactMemOkRow : OpenClaim := { program := "ytaaajjinpppgeaa", sum := "48183477cf5ffbd40802d7fcd6c73f9491fa2e0c4ee8b965c03d808914c90a88", func := "loop.example/g00235/laws.FnExactMemOk", spec := "fnExactMemOk", unfollowed := true, recurses := true, apart := false }
def FnExactMemOkSaid : Prop := fnExactMemOkRow.holds Try.pinned (OpenSpec.ofChange fnExactMemOkSpec)

/-- ITS FALSE NEIGHBOUR: 'it returns false'. Refute it at one input. -/
def fnExactMemOkWrong : ChangeSpec := { name := "fnExactMemOk", fn := fun _ => fun
  | [d] => { results := [.lit (.bool false)], args := [d] }
  | _ => none }
def FnExactMemOkWrongFalsely : Prop := fnExactMemOkRow.holds Try.pinned (OpenSpec.ofChange fnExactMemOkWrong)

/-- 'laws.FnExactMemNew': WHATEVER THE INPUT: true; the input reads as it did. -/
def fnExactMemNewSpec : ChangeSpec := { name := "fnExactMemNew", fn := fun _ => fun
  | [d] => { results := [.lit (.bool true)], args := [d] }
  | _ => none }
def fnExactMemNewRow : OpenClaim := { program := "ytaaajjinpppgeaa", sum := "48183477cf5ffbd40802d7fcd6c73f9491fa2e0c4ee8b965c03d808914c90a88", func := "loop.example/g00235/laws.FnExactMemNew", spec := "fnExactMemNew", apart := false }
def FnExactMemNewSaid : Prop := fnExactMemNewRow.holds Try.pinned (OpenSpec.ofChange fnExactMemNewSpec)

/-- ITS FALSE NEIGHBOUR: 'it returns false'. Refute it at one input. -/
def fnExactMemNewWrong : ChangeSpec := { name := "fnExactMemNew", fn := fun _ => fun
  | [d] => { results := [.lit (.bool false)], args := [d] }
  | _ => none }
def FnExactMemNewWrongFalsely : Prop := fnExactMemNewRow.holds Try.pinned (OpenSpec.ofChange fnExactMemNewWrong)

/-- 'laws.FnExactMendPointers': WHATEVER THE INPUT: true; the input reads as it did. -/
def fnExactMendPointersSpec : ChangeSpec := { name := "fnExactMendPointers", fn := fun _ => fun
  | [d] => { results := [.lit (.bool true)], args := [d] }
  | _ => none }
def fnExactMendPointersRow : OpenClaim := { program := "ytaaajjinpppgeaa", sum := "48183477cf5ffbd40802d7fcd6c73f9491fa2e0c4ee8b965c03d808914c90a88", func := "loop.example/g00235/laws.FnExactMendPointers", spec := "fnExactMendPointers", unfollowed := true, recurses := true, apart := false }
def FnExactMendPointersSaid : Prop := fnExactMendPointersRow.holds Try.pinned (OpenSpec.ofChange fnExactMendPointersSpec)

/-- ITS FALSE NEIGHBOUR: 'it returns false'. Refute it at one input. -/
def fnExactMendPointersWrong : ChangeSpec := { name := "fnExactMendPointers", fn := fun _ => fun
  | [d] => { results := [.lit (.bool false)], args := [d] }
  | _ => none }
def FnExactMendPointersWrongFalsely : Prop := fnExactMendPointersRow.holds Try.pinned (OpenSpec.ofChange fnExactMendPointersWrong)

/-- 'laws.FnExactFsOk': WHATEVER THE INPUT: true; the input reads as it did. -/
def fnExactFsOkSpec : ChangeSpec := { name := "fnExactFsOk", fn := fun _ => fun
  | [d] => { results := [.lit (.bool true)], args := [d] }
  | _ => none }
def fnExactFsOkRow : OpenClaim := { program := "ytaaajjinpppgeaa", sum := "48183477cf5ffbd40802d7fcd6c73f9491fa2e0c4ee8b965c03d808914c90a88", func := "loop.example/g00235/laws.FnExactFsOk", spec := "fnExactFsOk", unfollowed := true, recurses := true, apart := false }
def FnExactFsOkSaid : Prop := fnExactFsOkRow.holds Try.pinned (OpenSpec.ofChange fnExactFsOkSpec)

/-- ITS FALSE NEIGHBOUR: 'it returns false'. Refute it at one input. -/
def fnExactFsOkWrong : ChangeSpec := { name := "fnExactFsOk", fn := fun _ => fun
  | [d] => { results := [.lit (.bool false)], args := [d] }
  | _ => none }
def FnExactFsOkWrongFalsely : Prop := fnExactFsOkRow.holds Try.pinned (OpenSpec.ofChange fnExactFsOkWrong)

/-- 'laws.FnExactMendNames': WHATEVER THE INPUT: true; the input reads as it did. -/
def fnExactMendNamesSpec : ChangeSpec := { name := "fnExactMendNames", fn := fun _ => fun
  | [d] => { results := [.lit (.bool true)], args := [d] }
  | _ => none }
def fnExactMendNamesRow : OpenClaim := { program := "ytaaajjinpppgeaa", sum := "48183477cf5ffbd40802d7fcd6c73f9491fa2e0c4ee8b965c03d808914c90a88", func := "loop.example/g00235/laws.FnExactMendNames", spec := "fnExactMendNames", unfollowed := true, recurses := true, apart := false }
def FnExactMendNamesSaid : Prop := fnExactMendNamesRow.holds Try.pinned (OpenSpec.ofChange fnExactMendNamesSpec)

/-- ITS FALSE NEIGHBOUR: 'it returns false'. Refute it at one input. -/
def fnExactMendNamesWrong : ChangeSpec := { name := "fnExactMendNames", fn := fun _ => fun
  | [d] => { results := [.lit (.bool false)], args := [d] }
  | _ => none }
def FnExactMendNamesWrongFalsely : Prop := fnExactMendNamesRow.holds Try.pinned (OpenSpec.ofChange fnExactMendNamesWrong)

/-- 'laws.FnExactDangling': WHATEVER THE INPUT: true; the input reads as it did. -/
def fnExactDanglingSpec : ChangeSpec := { name := "fnExactDangling", fn := fun _ => fun
  | [d] => { results := [.lit (.bool true)], args := [d] }
  | _ => none }
def fnExactDanglingRow : OpenClaim := { program := "ytaaajjinpppgeaa", sum := "48183477cf5ffbd40802d7fcd6c73f9491fa2e0c4ee8b965c03d808914c90a88", func := "loop.example/g00235/laws.FnExactDangling", spec := "fnExactDangling", recurses := true, apart := false }
def FnExactDanglingSaid : Prop := fnExactDanglingRow.holds Try.pinned (OpenSpec.ofChange fnExactDanglingSpec)

/-- ITS FALSE NEIGHBOUR: 'it returns false'. Refute it at one input. -/
def fnExactDanglingWrong : ChangeSpec := { name := "fnExactDangling", fn := fun _ => fun
  | [d] => { results := [.lit (.bool false)], args := [d] }
  | _ => none }
def FnExactDanglingWrongFalsely : Prop := fnExactDanglingRow.holds Try.pinned (OpenSpec.ofChange fnExactDanglingWrong)

/-- 'laws.FnExactLinksOf': WHATEVER THE INPUT: true; the input reads as it did. -/
def fnExactLinksOfSpec : ChangeSpec := { name := "fnExactLinksOf", fn := fun _ => fun
  | [d1, d2] => { results := [.lit (.bool true)], args := [d1, d2] }
  | _ => none }
def fnExactLinksOfRow : OpenClaim := { program := "ytaaajjinpppgeaa", sum := "48183477cf5ffbd40802d7fcd6c73f9491fa2e0c4ee8b965c03d808914c90a88", func := "loop.example/g00235/laws.FnExactLinksOf", spec := "fnExactLinksOf", recurses := true, apart := false }
def FnExactLinksOfSaid : Prop := fnExactLinksOfRow.holds Try.pinned (OpenSpec.ofChange fnExactLinksOfSpec)

/-- ITS FALSE NEIGHBOUR: 'it returns false'. Refute it at one input. -/
def fnExactLinksOfWrong : ChangeSpec := { name := "fnExactLinksOf", fn := fun _ => fun
  | [d1, d2] => { results := [.lit (.bool false)], args := [d1, d2] }
  | _ => none }
def FnExactLinksOfWrongFalsely : Prop := fnExactLinksOfRow.holds Try.pinned (OpenSpec.ofChange fnExactLinksOfWrong)

/-- 'laws.FnExactWrongKind': WHATEVER THE INPUT: true; the input reads as it did. -/
def fnExactWrongKindSpec : ChangeSpec := { name := "fnExactWrongKind", fn := fun _ => fun
  | [d] => { results := [.lit (.bool true)], args := [d] }
  | _ => none }
def fnExactWrongKindRow : OpenClaim := { program := "ytaaajjinpppgeaa", sum := "48183477cf5ffbd40802d7fcd6c73f9491fa2e0c4ee8b965c03d808914c90a88", func := "loop.example/g00235/laws.FnExactWrongKind", spec := "fnExactWrongKind", recurses := true, apart := false }
def FnExactWrongKindSaid : Prop := fnExactWrongKindRow.holds Try.pinned (OpenSpec.ofChange fnExactWrongKindSpec)

/-- ITS FALSE NEIGHBOUR: 'it returns false'. Refute it at one input. -/
def fnExactWrongKindWrong : ChangeSpec := { name := "fnExactWrongKind", fn := fun _ => fun
  | [d] => { results := [.lit (.bool false)], args := [d] }
  | _ => none }
def FnExactWrongKindWrongFalsely : Prop := fnExactWrongKindRow.holds Try.pinned (OpenSpec.ofChange fnExactWrongKindWrong)

/-- 'laws.FnExactShort': WHATEVER THE INPUT: true; the input reads as it did. -/
def fnExactShortSpec : ChangeSpec := { name := "fnExactShort", fn := fun _ => fun
  | [d] => { results := [.lit (.bool true)], args := [d] }
  | _ => none }
def fnExactShortRow : OpenClaim := { program := "ytaaajjinpppgeaa", sum := "48183477cf5ffbd40802d7fcd6c73f9491fa2e0c4ee8b965c03d808914c90a88", func := "loop.example/g00235/laws.FnExactShort", spec := "fnExactShort", recurses := true, apart := false }
def FnExactShortSaid : Prop := fnExactShortRow.holds Try.pinned (OpenSpec.ofChange fnExactShortSpec)

/-- ITS FALSE NEIGHBOUR: 'it returns false'. Refute it at one input. -/
def fnExactShortWrong : ChangeSpec := { name := "fnExactShort", fn := fun _ => fun
  | [d] => { results := [.lit (.bool false)], args := [d] }
  | _ => none }
def FnExactShortWrongFalsely : Prop := fnExactShortRow.holds Try.pinned (OpenSpec.ofChange fnExactShortWrong)

/-- 'laws.FnExactUnmarked': WHATEVER THE INPUT: true; the input reads as it did. -/
def fnExactUnmarkedSpec : ChangeSpec := { name := "fnExactUnmarked", fn := fun _ => fun
  | [d] => { results := [.lit (.bool true)], args := [d] }
  | _ => none }
def fnExactUnmarkedRow : OpenClaim := { program := "ytaaajjinpppgeaa", sum := "48183477cf5ffbd40802d7fcd6c73f9491fa2e0c4ee8b965c03d808914c90a88", func := "loop.example/g00235/laws.FnExactUnmarked", spec := "fnExactUnmarked", recurses := true, apart := false }
def FnExactUnmarkedSaid : Prop := fnExactUnmarkedRow.holds Try.pinned (OpenSpec.ofChange fnExactUnmarkedSpec)

/-- ITS FALSE NEIGHBOUR: 'it returns false'. Refute it at one input. -/
def fnExactUnmarkedWrong : ChangeSpec := { name := "fnExactUnmarked", fn := fun _ => fun
  | [d] => { results := [.lit (.bool false)], args := [d] }
  | _ => none }
def FnExactUnmarkedWrongFalsely : Prop := fnExactUnmarkedRow.holds Try.pinned (OpenSpec.ofChange fnExactUnmarkedWrong)

/-- 'laws.FnExactPutDep': WHATEVER THE INPUT: true; the input reads as it did. -/
def fnExactPutDepSpec : ChangeSpec := { name := "fnExactPutDep", fn := fun _ => fun
  | [d1, d2] => { results := [.lit (.bool true)], args := [d1, d2] }
  | _ => none }
def fnExactPutDepRow : OpenClaim := { program := "ytaaajjinpppgeaa", sum := "48183477cf5ffbd40802d7fcd6c73f9491fa2e0c4ee8b965c03d808914c90a88", func := "loop.example/g00235/laws.FnExactPutDep", spec := "fnExactPutDep", apart := false }
def FnExactPutDepSaid : Prop := fnExactPutDepRow.holds Try.pinned (OpenSpec.ofChange fnExactPutDepSpec)

/-- ITS FALSE NEIGHBOUR: 'it returns false'. Refute it at one input. -/
def fnExactPutDepWrong : ChangeSpec := { name := "fnExactPutDep", fn := fun _ => fun
  | [d1, d2] => { results := [.lit (.bool false)], args := [d1, d2] }
  | _ => none }
def FnExactPutDepWrongFalsely : Prop := fnExactPutDepRow.holds Try.pinned (OpenSpec.ofChange fnExactPutDepWrong)

/-- 'laws.FnExactDropDep': WHATEVER THE INPUT: true; the input reads as it did. -/
def fnExactDropDepSpec : ChangeSpec := { name := "fnExactDropDep", fn := fun _ => fun
  | [d1, d2] => { results := [.lit (.bool true)], args := [d1, d2] }
  | _ => none }
def fnExactDropDepRow : OpenClaim := { program := "ytaaajjinpppgeaa", sum := "48183477cf5ffbd40802d7fcd6c73f9491fa2e0c4ee8b965c03d808914c90a88", func := "loop.example/g00235/laws.FnExactDropDep", spec := "fnExactDropDep", unfollowed := true, recurses := true, apart := false }
def FnExactDropDepSaid : Prop := fnExactDropDepRow.holds Try.pinned (OpenSpec.ofChange fnExactDropDepSpec)

/-- ITS FALSE NEIGHBOUR: 'it returns false'. Refute it at one input. -/
def fnExactDropDepWrong : ChangeSpec := { name := "fnExactDropDep", fn := fun _ => fun
  | [d1, d2] => { results := [.lit (.bool false)], args := [d1, d2] }
  | _ => none }
def FnExactDropDepWrongFalsely : Prop := fnExactDropDepRow.holds Try.pinned (OpenSpec.ofChange fnExactDropDepWrong)

/-- 'laws.FnExactTakeBlock': WHATEVER THE INPUT: true; the input reads as it did. -/
def fnExactTakeBlockSpec : ChangeSpec := { name := "fnExactTakeBlock", fn := fun _ => fun
  | [d] => { results := [.lit (.bool true)], args := [d] }
  | _ => none }
def fnExactTakeBlockRow : OpenClaim := { program := "ytaaajjinpppgeaa", sum := "48183477cf5ffbd40802d7fcd6c73f9491fa2e0c4ee8b965c03d808914c90a88", func := "loop.example/g00235/laws.FnExactTakeBlock", spec := "fnExactTakeBlock", apart := false }
def FnExactTakeBlockSaid : Prop := fnExactTakeBlockRow.holds Try.pinned (OpenSpec.ofChange fnExactTakeBlockSpec)

/-- ITS FALSE NEIGHBOUR: 'it returns false'. Refute it at one input. -/
def fnExactTakeBlockWrong : ChangeSpec := { name := "fnExactTakeBlock", fn := fun _ => fun
  | [d] => { results := [.lit (.bool false)], args := [d] }
  | _ => none }
def FnExactTakeBlockWrongFalsely : Prop := fnExactTakeBlockRow.holds Try.pinned (OpenSpec.ofChange fnExactTakeBlockWrong)

/-- 'laws.FnExactTakeIno': WHATEVER THE INPUT: true; the input reads as it did. -/
def fnExactTakeInoSpec : ChangeSpec := { name := "fnExactTakeIno", fn := fun _ => fun
  | [d] => { results := [.lit (.bool true)], args := [d] }
  | _ => none }
def fnExactTakeInoRow : OpenClaim := { program := "ytaaajjinpppgeaa", sum := "48183477cf5ffbd40802d7fcd6c73f9491fa2e0c4ee8b965c03d808914c90a88", func := "loop.example/g00235/laws.FnExactTakeIno", spec := "fnExactTakeIno", apart := false }
def FnExactTakeInoSaid : Prop := fnExactTakeInoRow.holds Try.pinned (OpenSpec.ofChange fnExactTakeInoSpec)

/-- ITS FALSE NEIGHBOUR: 'it returns false'. Refute it at one input. -/
def fnExactTakeInoWrong : ChangeSpec := { name := "fnExactTakeIno", fn := fun _ => fun
  | [d] => { results := [.lit (.bool false)], args := [d] }
  | _ => none }
def FnExactTakeInoWrongFalsely : Prop := fnExactTakeInoRow.holds Try.pinned (OpenSpec.ofChange fnExactTakeInoWrong)

/-- 'laws.FnExactReached': WHATEVER THE INPUT: true; the input reads as it did. -/
def fnExactReachedSpec : ChangeSpec := { name := "fnExactReached", fn := fun _ => fun
  | [d] => { results := [.lit (.bool true)], args := [d] }
  | _ => none }
def fnExactReachedRow : OpenClaim := { program := "ytaaajjinpppgeaa", sum := "48183477cf5ffbd40802d7fcd6c73f9491fa2e0c4ee8b965c03d808914c90a88", func := "loop.example/g00235/laws.FnExactReached", spec := "fnExactReached", recurses := true, apart := false }
def FnExactReachedSaid : Prop := fnExactReachedRow.holds Try.pinned (OpenSpec.ofChange fnExactReachedSpec)

/-- ITS FALSE NEIGHBOUR: 'it returns false'. Refute it at one input. -/
def fnExactReachedWrong : ChangeSpec := { name := "fnExactReached", fn := fun _ => fun
  | [d] => { results := [.lit (.bool false)], args := [d] }
  | _ => none }
def FnExactReachedWrongFalsely : Prop := fnExactReachedRow.holds Try.pinned (OpenSpec.ofChange fnExactReachedWrong)

/-- 'laws.FnExactFsNew': WHATEVER THE INPUT: true; the input reads as it did. -/
def fnExactFsNewSpec : ChangeSpec := { name := "fnExactFsNew", fn := fun _ => fun
  | [] => { results := [.lit (.bool true)], args := [] }
  | _ => none }
def fnExactFsNewRow : OpenClaim := { program := "ytaaajjinpppgeaa", sum := "48183477cf5ffbd40802d7fcd6c73f9491fa2e0c4ee8b965c03d808914c90a88", func := "loop.example/g00235/laws.FnExactFsNew", spec := "fnExactFsNew", unfollowed := true, recurses := true, apart := false }
def FnExactFsNewSaid : Prop := fnExactFsNewRow.holds Try.pinned (OpenSpec.ofChange fnExactFsNewSpec)

/-- ITS FALSE NEIGHBOUR: 'it returns false'. Refute it at one input. -/
def fnExactFsNewWrong : ChangeSpec := { name := "fnExactFsNew", fn := fun _ => fun
  | [] => { results := [.lit (.bool false)], args := [] }
  | _ => none }
def FnExactFsNewWrongFalsely : Prop := fnExactFsNewRow.holds Try.pinned (OpenSpec.ofChange fnExactFsNewWrong)

/-- 'laws.FnExactImageUnit': WHATEVER THE INPUT: true; the input reads as it did. -/
def fnExactImageUnitSpec : ChangeSpec := { name := "fnExactImageUnit", fn := fun _ => fun
  | [d1, d2] => { results := [.lit (.bool true)], args := [d1, d2] }
  | _ => none }
def fnExactImageUnitRow : OpenClaim := { program := "ytaaajjinpppgeaa", sum := "48183477cf5ffbd40802d7fcd6c73f9491fa2e0c4ee8b965c03d808914c90a88", func := "loop.example/g00235/laws.FnExactImageUnit", spec := "fnExactImageUnit", unfollowed := true, recurses := true, apart := false }
def FnExactImageUnitSaid : Prop := fnExactImageUnitRow.holds Try.pinned (OpenSpec.ofChange fnExactImageUnitSpec)

/-- ITS FALSE NEIGHBOUR: 'it returns false'. Refute it at one input. -/
def fnExactImageUnitWrong : ChangeSpec := { name := "fnExactImageUnit", fn := fun _ => fun
  | [d1, d2] => { results := [.lit (.bool false)], args := [d1, d2] }
  | _ => none }
def FnExactImageUnitWrongFalsely : Prop := fnExactImageUnitRow.holds Try.pinned (OpenSpec.ofChange fnExactImageUnitWrong)

/-- 'laws.FnExactSafeDisk': WHATEVER THE INPUT: true; the input reads as it did. -/
def fnExactSafeDiskSpec : ChangeSpec := { name := "fnExactSafeDisk", fn := fun _ => fun
  | [d] => { results := [.lit (.bool true)], args := [d] }
  | _ => none }
def fnExactSafeDiskRow : OpenClaim := { program := "ytaaajjinpppgeaa", sum := "48183477cf5ffbd40802d7fcd6c73f9491fa2e0c4ee8b965c03d808914c90a88", func := "loop.example/g00235/laws.FnExactSafeDisk", spec := "fnExactSafeDisk", unfollowed := true, recurses := true, apart := false }
def FnExactSafeDiskSaid : Prop := fnExactSafeDiskRow.holds Try.pinned (OpenSpec.ofChange fnExactSafeDiskSpec)

/-- ITS FALSE NEIGHBOUR: 'it returns false'. Refute it at one input. -/
def fnExactSafeDiskWrong : ChangeSpec := { name := "fnExactSafeDisk", fn := fun _ => fun
  | [d] => { results := [.lit (.bool false)], args := [d] }
  | _ => none }
def FnExactSafeDiskWrongFalsely : Prop := fnExactSafeDiskRow.holds Try.pinned (OpenSpec.ofChange fnExactSafeDiskWrong)

/-- 'laws.FnExactTreeOf': WHATEVER THE INPUT: true; the input reads as it did. -/
def fnExactTreeOfSpec : ChangeSpec := { name := "fnExactTreeOf", fn := fun _ => fun
  | [d] => { results := [.lit (.bool true)], args := [d] }
  | _ => none }
def fnExactTreeOfRow : OpenClaim := { program := "ytaaajjinpppgeaa", sum := "48183477cf5ffbd40802d7fcd6c73f9491fa2e0c4ee8b965c03d808914c90a88", func := "loop.example/g00235/laws.FnExactTreeOf", spec := "fnExactTreeOf", unfollowed := true, recurses := true, apart := false }
def FnExactTreeOfSaid : Prop := fnExactTreeOfRow.holds Try.pinned (OpenSpec.ofChange fnExactTreeOfSpec)

/-- ITS FALSE NEIGHBOUR: 'it returns false'. Refute it at one input. -/
def fnExactTreeOfWrong : ChangeSpec := { name := "fnExactTreeOf", fn := fun _ => fun
  | [d] => { results := [.lit (.bool false)], args := [d] }
  | _ => none }
def FnExactTreeOfWrongFalsely : Prop := fnExactTreeOfRow.holds Try.pinned (OpenSpec.ofChange fnExactTreeOfWrong)

/-- 'laws.FnExactExactDisk': WHATEVER THE INPUT: true; the input reads as it did. -/
def fnExactExactDiskSpec : ChangeSpec := { name := "fnExactExactDisk", fn := fun _ => fun
  | [d] => { results := [.lit (.bool true)], args := [d] }
  | _ => none }
def fnExactExactDiskRow : OpenClaim := { program := "ytaaajjinpppgeaa", sum := "48183477cf5ffbd40802d7fcd6c73f9491fa2e0c4ee8b965c03d808914c90a88", func := "loop.example/g00235/laws.FnExactExactDisk", spec := "fnExactExactDisk", unfollowed := true, recurses := true, apart := false }
def FnExactExactDiskSaid : Prop := fnExactExactDiskRow.holds Try.pinned (OpenSpec.ofChange fnExactExactDiskSpec)

/-- ITS FALSE NEIGHBOUR: 'it returns false'. Refute it at one input. -/
def fnExactExactDiskWrong : ChangeSpec := { name := "fnExactExactDisk", fn := fun _ => fun
  | [d] => { results := [.lit (.bool false)], args := [d] }
  | _ => none }
def FnExactExactDiskWrongFalsely : Prop := fnExactExactDiskRow.holds Try.pinned (OpenSpec.ofChange fnExactExactDiskWrong)

/- THE SECOND FORM. 'bulk': how many values and letters a reading holds, each counted each time it is reached (what is shared counts as often as it is met; a slice's spare places count too). A statement '..UptoSaid' is the law's where the arguments, and the package variables that the reading takes, are together of bulk at most 1048576: NARROWER than '..Said'. Prove '..Said' where nothing that the law and all that it calls make is longer than what came in: it says more and counts as full. Else prove '..UptoSaid'. A law counts once. -/
mutual
def uptoBulk {H : Type} : DataW H → Nat
  | .lit (.string bytes) => bytes.length + 1
  | .lit _ => 1
  | .nil => 1
  | .ptr d => uptoBulk d + 1
  | .slice elems spare => uptoBulkAll elems + uptoBulkAll spare + 1
  | .agg parts => uptoBulkAll parts + 1
  | .iface _ d => uptoBulk d + 1
  | .map entries => uptoBulkEntries entries + 1
  | .held _ => 1
def uptoBulkAll {H : Type} : List (DataW H) → Nat
  | [] => 0
  | d :: r => uptoBulk d + uptoBulkAll r
def uptoBulkEntries {H : Type} : List (Lit × DataW H) → Nat
  | [] => 0
  | x :: r => uptoBulkEntry x + uptoBulkEntries r
def uptoBulkEntry {H : Type} : Lit × DataW H → Nat
  | (.string bytes, d) => bytes.length + uptoBulk d + 1
  | (_, d) => uptoBulk d + 1
 end
def uptoSmall : (H : Type) → List (DataW H) → Bool := fun _ ds => decide (uptoBulkAll ds ≤ 1048576)
def OpenSpec.upto (s : _root_.Go.ChangeSpec) : _root_.Go.OpenSpec := { _root_.Go.OpenSpec.ofChange s with cond := some uptoSmall }

/-- 'laws.FnExactEventOk', WHERE WHAT IT READS IS OF BULK AT MOST 1048576: true; the input reads as it did. -/
def fnExactEventOkUptoRow : OpenClaim := { program := "ytaaajjinpppgeaa", sum := "48183477cf5ffbd40802d7fcd6c73f9491fa2e0c4ee8b965c03d808914c90a88", func := "loop.example/g00235/laws.FnExactEventOk", spec := "fnExactEventOk", apart := false, narrowed := true }
def FnExactEventOkUptoSaid : Prop := fnExactEventOkUptoRow.holds Try.pinned (OpenSpec.upto fnExactEventOkSpec)

/-- 'laws.FnExactSameTree', WHERE WHAT IT READS IS OF BULK AT MOST 1048576: true; the input reads as it did. -/
def fnExactSameTreeUptoRow : OpenClaim := { program := "ytaaajjinpppgeaa", sum := "48183477cf5ffbd40802d7fcd6c73f9491fa2e0c4ee8b965c03d808914c90a88", func := "loop.example/g00235/laws.FnExactSameTree", spec := "fnExactSameTree", apart := false, narrowed := true }
def FnExactSameTreeUptoSaid : Prop := fnExactSameTreeUptoRow.holds Try.pinned (OpenSpec.upto fnExactSameTreeSpec)

/-- 'laws.FnExactShared', WHERE WHAT IT READS IS OF BULK AT MOST 1048576: true; the input reads as it did. -/
def fnExactSharedUptoRow : OpenClaim := { program := "ytaaajjinpppgeaa", sum := "48183477cf5ffbd40802d7fcd6c73f9491fa2e0c4ee8b965c03d808914c90a88", func := "loop.example/g00235/laws.FnExactShared", spec := "fnExactShared", apart := false, narrowed := true }
def FnExactSharedUptoSaid : Prop := fnExactSharedUptoRow.holds Try.pinned (OpenSpec.upto fnExactSharedSpec)

/-- 'laws.FnExactSettled', WHERE WHAT IT READS IS OF BULK AT MOST 1048576: true; the input reads as it did. -/
def fnExactSettledUptoRow : OpenClaim := { program := "ytaaajjinpppgeaa", sum := "48183477cf5ffbd40802d7fcd6c73f9491fa2e0c4ee8b965c03d808914c90a88", func := "loop.example/g00235/laws.FnExactSettled", spec := "fnExactSettled", apart := false, narrowed := true }
def FnExactSettledUptoSaid : Prop := fnExactSettledUptoRow.holds Try.pinned (OpenSpec.upto fnExactSettledSpec)

/-- 'laws.FnExactImageInode', WHERE WHAT IT READS IS OF BULK AT MOST 1048576: true; the input reads as it did. -/
def fnExactImageInodeUptoRow : OpenClaim := { program := "ytaaajjinpppgeaa", sum := "48183477cf5ffbd40802d7fcd6c73f9491fa2e0c4ee8b965c03d808914c90a88", func := "loop.example/g00235/laws.FnExactImageInode", spec := "fnExactImageInode", apart := false, narrowed := true }
def FnExactImageInodeUptoSaid : Prop := fnExactImageInodeUptoRow.holds Try.pinned (OpenSpec.upto fnExactImageInodeSpec)

/-- 'laws.FnExactImageBlock', WHERE WHAT IT READS IS OF BULK AT MOST 1048576: true; the input reads as it did. -/
def fnExactImageBlockUptoRow : OpenClaim := { program := "ytaaajjinpppgeaa", sum := "48183477cf5ffbd40802d7fcd6c73f9491fa2e0c4ee8b965c03d808914c90a88", func := "loop.example/g00235/laws.FnExactImageBlock", spec := "fnExactImageBlock", apart := false, narrowed := true }
def FnExactImageBlockUptoSaid : Prop := fnExactImageBlockUptoRow.holds Try.pinned (OpenSpec.upto fnExactImageBlockSpec)

/-- 'laws.FnExactMemOk', WHERE WHAT IT READS IS OF BULK AT MOST 1048576: true; the input reads as it did. -/
def fnExactMemOkUptoRow : OpenClaim := { program := "ytaaajjinpppgeaa", sum := "48183477cf5ffbd40802d7fcd6c73f9491fa2e0c4ee8b965c03d808914c90a88", func := "loop.example/g00235/laws.FnExactMemOk", spec := "fnExactMemOk", unfollowed := true, recurses := true, apart := false, narrowed := true }
def FnExactMemOkUptoSaid : Prop := fnExactMemOkUptoRow.holds Try.pinned (OpenSpec.upto fnExactMemOkSpec)

/-- 'laws.FnExactMemNew', WHERE WHAT IT READS IS OF BULK AT MOST 1048576: true; the input reads as it did. -/
def fnExactMemNewUptoRow : OpenClaim := { program := "ytaaajjinpppgeaa", sum := "48183477cf5ffbd40802d7fcd6c73f9491fa2e0c4ee8b965c03d808914c90a88", func := "loop.example/g00235/laws.FnExactMemNew", spec := "fnExactMemNew", apart := false, narrowed := true }
def FnExactMemNewUptoSaid : Prop := fnExactMemNewUptoRow.holds Try.pinned (OpenSpec.upto fnExactMemNewSpec)

/-- 'laws.FnExactMendPointers', WHERE WHAT IT READS IS OF BULK AT MOST 1048576: true; the input reads as it did. -/
def fnExactMendPointersUptoRow : OpenClaim := { program := "ytaaajjinpppgeaa", sum := "48183477cf5ffbd40802d7fcd6c73f9491fa2e0c4ee8b965c03d808914c90a88", func := "loop.example/g00235/laws.FnExactMendPointers", spec := "fnExactMendPointers", unfollowed := true, recurses := true, apart := false, narrowed := true }
def FnExactMendPointersUptoSaid : Prop := fnExactMendPointersUptoRow.holds Try.pinned (OpenSpec.upto fnExactMendPointersSpec)

/-- 'laws.FnExactFsOk', WHERE WHAT IT READS IS OF BULK AT MOST 1048576: true; the input reads as it did. -/
def fnExactFsOkUptoRow : OpenClaim := { program := "ytaaajjinpppgeaa", sum := "48183477cf5ffbd40802d7fcd6c73f9491fa2e0c4ee8b965c03d808914c90a88", func := "loop.example/g00235/laws.FnExactFsOk", spec := "fnExactFsOk", unfollowed := true, recurses := true, apart := false, narrowed := true }
def FnExactFsOkUptoSaid : Prop := fnExactFsOkUptoRow.holds Try.pinned (OpenSpec.upto fnExactFsOkSpec)

/-- 'laws.FnExactMendNames', WHERE WHAT IT READS IS OF BULK AT MOST 1048576: true; the input reads as it did. -/
def fnExactMendNamesUptoRow : OpenClaim := { program := "ytaaajjinpppgeaa", sum := "48183477cf5ffbd40802d7fcd6c73f9491fa2e0c4ee8b965c03d808914c90a88", func := "loop.example/g00235/laws.FnExactMendNames", spec := "fnExactMendNames", unfollowed := true, recurses := true, apart := false, narrowed := true }
def FnExactMendNamesUptoSaid : Prop := fnExactMendNamesUptoRow.holds Try.pinned (OpenSpec.upto fnExactMendNamesSpec)

/-- 'laws.FnExactDangling', WHERE WHAT IT READS IS OF BULK AT MOST 1048576: true; the input reads as it did. -/
def fnExactDanglingUptoRow : OpenClaim := { program := "ytaaajjinpppgeaa", sum := "48183477cf5ffbd40802d7fcd6c73f9491fa2e0c4ee8b965c03d808914c90a88", func := "loop.example/g00235/laws.FnExactDangling", spec := "fnExactDangling", recurses := true, apart := false, narrowed := true }
def FnExactDanglingUptoSaid : Prop := fnExactDanglingUptoRow.holds Try.pinned (OpenSpec.upto fnExactDanglingSpec)

/-- 'laws.FnExactLinksOf', WHERE WHAT IT READS IS OF BULK AT MOST 1048576: true; the input reads as it did. -/
def fnExactLinksOfUptoRow : OpenClaim := { program := "ytaaajjinpppgeaa", sum := "48183477cf5ffbd40802d7fcd6c73f9491fa2e0c4ee8b965c03d808914c90a88", func := "loop.example/g00235/laws.FnExactLinksOf", spec := "fnExactLinksOf", recurses := true, apart := false, narrowed := true }
def FnExactLinksOfUptoSaid : Prop := fnExactLinksOfUptoRow.holds Try.pinned (OpenSpec.upto fnExactLinksOfSpec)

/-- 'laws.FnExactWrongKind', WHERE WHAT IT READS IS OF BULK AT MOST 1048576: true; the input reads as it did. -/
def fnExactWrongKindUptoRow : OpenClaim := { program := "ytaaajjinpppgeaa", sum := "48183477cf5ffbd40802d7fcd6c73f9491fa2e0c4ee8b965c03d808914c90a88", func := "loop.example/g00235/laws.FnExactWrongKind", spec := "fnExactWrongKind", recurses := true, apart := false, narrowed := true }
def FnExactWrongKindUptoSaid : Prop := fnExactWrongKindUptoRow.holds Try.pinned (OpenSpec.upto fnExactWrongKindSpec)

/-- 'laws.FnExactShort', WHERE WHAT IT READS IS OF BULK AT MOST 1048576: true; the input reads as it did. -/
def fnExactShortUptoRow : OpenClaim := { program := "ytaaajjinpppgeaa", sum := "48183477cf5ffbd40802d7fcd6c73f9491fa2e0c4ee8b965c03d808914c90a88", func := "loop.example/g00235/laws.FnExactShort", spec := "fnExactShort", recurses := true, apart := false, narrowed := true }
def FnExactShortUptoSaid : Prop := fnExactShortUptoRow.holds Try.pinned (OpenSpec.upto fnExactShortSpec)

/-- 'laws.FnExactUnmarked', WHERE WHAT IT READS IS OF BULK AT MOST 1048576: true; the input reads as it did. -/
def fnExactUnmarkedUptoRow : OpenClaim := { program := "ytaaajjinpppgeaa", sum := "48183477cf5ffbd40802d7fcd6c73f9491fa2e0c4ee8b965c03d808914c90a88", func := "loop.example/g00235/laws.FnExactUnmarked", spec := "fnExactUnmarked", recurses := true, apart := false, narrowed := true }
def FnExactUnmarkedUptoSaid : Prop := fnExactUnmarkedUptoRow.holds Try.pinned (OpenSpec.upto fnExactUnmarkedSpec)

/-- 'laws.FnExactPutDep', WHERE WHAT IT READS IS OF BULK AT MOST 1048576: true; the input reads as it did. -/
def fnExactPutDepUptoRow : OpenClaim := { program := "ytaaajjinpppgeaa", sum := "48183477cf5ffbd40802d7fcd6c73f9491fa2e0c4ee8b965c03d808914c90a88", func := "loop.example/g00235/laws.FnExactPutDep", spec := "fnExactPutDep", apart := false, narrowed := true }
def FnExactPutDepUptoSaid : Prop := fnExactPutDepUptoRow.holds Try.pinned (OpenSpec.upto fnExactPutDepSpec)

/-- 'laws.FnExactDropDep', WHERE WHAT IT READS IS OF BULK AT MOST 1048576: true; the input reads as it did. -/
def fnExactDropDepUptoRow : OpenClaim := { program := "ytaaajjinpppgeaa", sum := "48183477cf5ffbd40802d7fcd6c73f9491fa2e0c4ee8b965c03d808914c90a88", func := "loop.example/g00235/laws.FnExactDropDep", spec := "fnExactDropDep", unfollowed := true, recurses := true, apart := false, narrowed := true }
def FnExactDropDepUptoSaid : Prop := fnExactDropDepUptoRow.holds Try.pinned (OpenSpec.upto fnExactDropDepSpec)

/-- 'laws.FnExactTakeBlock', WHERE WHAT IT READS IS OF BULK AT MOST 1048576: true; the input reads as it did. -/
def fnExactTakeBlockUptoRow : OpenClaim := { program := "ytaaajjinpppgeaa", sum := "48183477cf5ffbd40802d7fcd6c73f9491fa2e0c4ee8b965c03d808914c90a88", func := "loop.example/g00235/laws.FnExactTakeBlock", spec := "fnExactTakeBlock", apart := false, narrowed := true }
def FnExactTakeBlockUptoSaid : Prop := fnExactTakeBlockUptoRow.holds Try.pinned (OpenSpec.upto fnExactTakeBlockSpec)

/-- 'laws.FnExactTakeIno', WHERE WHAT IT READS IS OF BULK AT MOST 1048576: true; the input reads as it did. -/
def fnExactTakeInoUptoRow : OpenClaim := { program := "ytaaajjinpppgeaa", sum := "48183477cf5ffbd40802d7fcd6c73f9491fa2e0c4ee8b965c03d808914c90a88", func := "loop.example/g00235/laws.FnExactTakeIno", spec := "fnExactTakeIno", apart := false, narrowed := true }
def FnExactTakeInoUptoSaid : Prop := fnExactTakeInoUptoRow.holds Try.pinned (OpenSpec.upto fnExactTakeInoSpec)

/-- 'laws.FnExactReached', WHERE WHAT IT READS IS OF BULK AT MOST 1048576: true; the input reads as it did. -/
def fnExactReachedUptoRow : OpenClaim := { program := "ytaaajjinpppgeaa", sum := "48183477cf5ffbd40802d7fcd6c73f9491fa2e0c4ee8b965c03d808914c90a88", func := "loop.example/g00235/laws.FnExactReached", spec := "fnExactReached", recurses := true, apart := false, narrowed := true }
def FnExactReachedUptoSaid : Prop := fnExactReachedUptoRow.holds Try.pinned (OpenSpec.upto fnExactReachedSpec)

/-- 'laws.FnExactFsNew', WHERE WHAT IT READS IS OF BULK AT MOST 1048576: true; the input reads as it did. -/
def fnExactFsNewUptoRow : OpenClaim := { program := "ytaaajjinpppgeaa", sum := "48183477cf5ffbd40802d7fcd6c73f9491fa2e0c4ee8b965c03d808914c90a88", func := "loop.example/g00235/laws.FnExactFsNew", spec := "fnExactFsNew", unfollowed := true, recurses := true, apart := false, narrowed := true }
def FnExactFsNewUptoSaid : Prop := fnExactFsNewUptoRow.holds Try.pinned (OpenSpec.upto fnExactFsNewSpec)

/-- 'laws.FnExactImageUnit', WHERE WHAT IT READS IS OF BULK AT MOST 1048576: true; the input reads as it did. -/
def fnExactImageUnitUptoRow : OpenClaim := { program := "ytaaajjinpppgeaa", sum := "48183477cf5ffbd40802d7fcd6c73f9491fa2e0c4ee8b965c03d808914c90a88", func := "loop.example/g00235/laws.FnExactImageUnit", spec := "fnExactImageUnit", unfollowed := true, recurses := true, apart := false, narrowed := true }
def FnExactImageUnitUptoSaid : Prop := fnExactImageUnitUptoRow.holds Try.pinned (OpenSpec.upto fnExactImageUnitSpec)

/-- 'laws.FnExactSafeDisk', WHERE WHAT IT READS IS OF BULK AT MOST 1048576: true; the input reads as it did. -/
def fnExactSafeDiskUptoRow : OpenClaim := { program := "ytaaajjinpppgeaa", sum := "48183477cf5ffbd40802d7fcd6c73f9491fa2e0c4ee8b965c03d808914c90a88", func := "loop.example/g00235/laws.FnExactSafeDisk", spec := "fnExactSafeDisk", unfollowed := true, recurses := true, apart := false, narrowed := true }
def FnExactSafeDiskUptoSaid : Prop := fnExactSafeDiskUptoRow.holds Try.pinned (OpenSpec.upto fnExactSafeDiskSpec)

/-- 'laws.FnExactTreeOf', WHERE WHAT IT READS IS OF BULK AT MOST 1048576: true; the input reads as it did. -/
def fnExactTreeOfUptoRow : OpenClaim := { program := "ytaaajjinpppgeaa", sum := "48183477cf5ffbd40802d7fcd6c73f9491fa2e0c4ee8b965c03d808914c90a88", func := "loop.example/g00235/laws.FnExactTreeOf", spec := "fnExactTreeOf", unfollowed := true, recurses := true, apart := false, narrowed := true }
def FnExactTreeOfUptoSaid : Prop := fnExactTreeOfUptoRow.holds Try.pinned (OpenSpec.upto fnExactTreeOfSpec)

/-- 'laws.FnExactExactDisk', WHERE WHAT IT READS IS OF BULK AT MOST 1048576: true; the input reads as it did. -/
def fnExactExactDiskUptoRow : OpenClaim := { program := "ytaaajjinpppgeaa", sum := "48183477cf5ffbd40802d7fcd6c73f9491fa2e0c4ee8b965c03d808914c90a88", func := "loop.example/g00235/laws.FnExactExactDisk", spec := "fnExactExactDisk", unfollowed := true, recurses := true, apart := false, narrowed := true }
def FnExactExactDiskUptoSaid : Prop := fnExactExactDiskUptoRow.holds Try.pinned (OpenSpec.upto fnExactExactDiskSpec)

end Rows
end Go.Proofs.Ytaaajjinpppgeaa
