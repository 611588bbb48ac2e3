/-
  No cell of these rows narrows 'for every input' (looked for: loops, veiled, ifaces, maps, wideKeys, modest, calm, conditions, laid).
  DERIVED. THE GIVEN ROWS OF THIS SEAT. 14 by the template 'for every input the law returns true; each argument reads behind the call as it read before'; 0 by the template 'total and deterministic' (their statements: YtbojjjiggppnaaaGreatTotals.lean).
  GIVEN WITH THE SEED: the statements are not yours to turn. If you find one false, say at which input.
  Laid BY PROGRAM, IN A SANDBOX (cutbox-rows.mjs): the forced cells as the released guide's own fill.sh prints them over the translation 7e67490667419413… (all of the seat's roots in one cut). By AI agents, Wed Nov 11 2026. No macro, syntax, notation, axiom, sorry.
-/
import Derived.Test.YtbojjjiggppnaaaGreatChecked
import GoSem.Claim
import GoSem.ClaimJoined
import GoSem.ClaimMapViews
import Derived.JoinedTies
import Derived.KernelRfl
namespace Go.Proofs.YtbojjjiggppnaaaGreat
/- THE CELL 'sum', in the pinned program and in every row, IS THE sha256 OF THE DUMP (.gsa) THAT YtbojjjiggppnaaaGreatProg.lean LOADS. Nothing in Lean hashes anything: it is a label: what it is worth is what the hold of that sum in a sandbox is worth. -/
noncomputable def Tryz.pinned : Pinned := { name := "ytbojjjiggppnaaagreat", sum := "7e67490667419413aaffec4a1fa765a35334ac3983c495c62fe3157daaf22519", checked := Tryz.checked }
namespace Rows
def none {H : Type} : Left H := { results := [], args := [] }

/-- 'wicketgatelaw15.AttachGrows': WHATEVER THE INPUT: true; the input reads as it did. -/
def attachGrowsSpec : ChangeSpec := { name := "attachGrows", fn := fun _ => fun
  | [d1, d2] => { results := [.lit (.bool true)], args := [d1, d2] }
  | _ => none }
def attachGrowsRow : OpenClaim := { program := "ytbojjjiggppnaaagreat", sum := "7e67490667419413aaffec4a1fa765a35334ac3983c495c62fe3157daaf22519", func := "wicketgate/wicketgatelaw15.AttachGrows", spec := "attachGrows", inPlace := ["slices.overlaps[wicketgate/api.Guard]", "slices.overlaps[wicketgate/api.Node]"], unfollowed := true, recurses := true, apart := false }
def AttachGrowsSaid : Prop := attachGrowsRow.holds Tryz.pinned (OpenSpec.ofChange attachGrowsSpec)

/-- ITS FALSE NEIGHBOUR: 'it returns false'. Refute it at one input. -/
def attachGrowsWrong : ChangeSpec := { name := "attachGrows", fn := fun _ => fun
  | [d1, d2] => { results := [.lit (.bool false)], args := [d1, d2] }
  | _ => none }
def AttachGrowsWrongFalsely : Prop := attachGrowsRow.holds Tryz.pinned (OpenSpec.ofChange attachGrowsWrong)

/-- 'wicketgatelaw15.AttachSync': WHATEVER THE INPUT: true; the input reads as it did. -/
def attachSyncSpec : ChangeSpec := { name := "attachSync", fn := fun _ => fun
  | [d1, d2, d3] => { results := [.lit (.bool true)], args := [d1, d2, d3] }
  | _ => none }
def attachSyncRow : OpenClaim := { program := "ytbojjjiggppnaaagreat", sum := "7e67490667419413aaffec4a1fa765a35334ac3983c495c62fe3157daaf22519", func := "wicketgate/wicketgatelaw15.AttachSync", spec := "attachSync", inPlace := ["slices.overlaps[wicketgate/api.Guard]", "slices.overlaps[wicketgate/api.Node]"], unfollowed := true, recurses := true, apart := false }
def AttachSyncSaid : Prop := attachSyncRow.holds Tryz.pinned (OpenSpec.ofChange attachSyncSpec)

/-- ITS FALSE NEIGHBOUR: 'it returns false'. Refute it at one input. -/
def attachSyncWrong : ChangeSpec := { name := "attachSync", fn := fun _ => fun
  | [d1, d2, d3] => { results := [.lit (.bool false)], args := [d1, d2, d3] }
  | _ => none }
def AttachSyncWrongFalsely : Prop := attachSyncRow.holds Tryz.pinned (OpenSpec.ofChange attachSyncWrong)

/-- 'wicketgatelaw09.ChainAdds': WHATEVER THE INPUT: true; the input reads as it did. -/
def chainAddsSpec : ChangeSpec := { name := "chainAdds", fn := fun _ => fun
  | [d1, d2, d3] => { results := [.lit (.bool true)], args := [d1, d2, d3] }
  | _ => none }
def chainAddsRow : OpenClaim := { program := "ytbojjjiggppnaaagreat", sum := "7e67490667419413aaffec4a1fa765a35334ac3983c495c62fe3157daaf22519", func := "wicketgate/wicketgatelaw09.ChainAdds", spec := "chainAdds", inPlace := ["slices.overlaps[wicketgate/api.Node]"], unfollowed := true, recurses := true, apart := false }
def ChainAddsSaid : Prop := chainAddsRow.holds Tryz.pinned (OpenSpec.ofChange chainAddsSpec)

/-- ITS FALSE NEIGHBOUR: 'it returns false'. Refute it at one input. -/
def chainAddsWrong : ChangeSpec := { name := "chainAdds", fn := fun _ => fun
  | [d1, d2, d3] => { results := [.lit (.bool false)], args := [d1, d2, d3] }
  | _ => none }
def ChainAddsWrongFalsely : Prop := chainAddsRow.holds Tryz.pinned (OpenSpec.ofChange chainAddsWrong)

/-- 'wicketgatelaw09.ChainCounts': WHATEVER THE INPUT: true; the input reads as it did. -/
def chainCountsSpec : ChangeSpec := { name := "chainCounts", fn := fun _ => fun
  | [d1, d2] => { results := [.lit (.bool true)], args := [d1, d2] }
  | _ => none }
def chainCountsRow : OpenClaim := { program := "ytbojjjiggppnaaagreat", sum := "7e67490667419413aaffec4a1fa765a35334ac3983c495c62fe3157daaf22519", func := "wicketgate/wicketgatelaw09.ChainCounts", spec := "chainCounts", inPlace := ["slices.overlaps[wicketgate/api.Node]"], unfollowed := true, recurses := true, apart := false }
def ChainCountsSaid : Prop := chainCountsRow.holds Tryz.pinned (OpenSpec.ofChange chainCountsSpec)

/-- ITS FALSE NEIGHBOUR: 'it returns false'. Refute it at one input. -/
def chainCountsWrong : ChangeSpec := { name := "chainCounts", fn := fun _ => fun
  | [d1, d2] => { results := [.lit (.bool false)], args := [d1, d2] }
  | _ => none }
def ChainCountsWrongFalsely : Prop := chainCountsRow.holds Tryz.pinned (OpenSpec.ofChange chainCountsWrong)

/-- 'wicketgatelaw09.ChainOwned': WHATEVER THE INPUT: true; the input reads as it did. -/
def chainOwnedSpec : ChangeSpec := { name := "chainOwned", fn := fun _ => fun
  | [d] => { results := [.lit (.bool true)], args := [d] }
  | _ => none }
def chainOwnedRow : OpenClaim := { program := "ytbojjjiggppnaaagreat", sum := "7e67490667419413aaffec4a1fa765a35334ac3983c495c62fe3157daaf22519", func := "wicketgate/wicketgatelaw09.ChainOwned", spec := "chainOwned", inPlace := ["slices.overlaps[wicketgate/api.Node]"], unfollowed := true, recurses := true, apart := false }
def ChainOwnedSaid : Prop := chainOwnedRow.holds Tryz.pinned (OpenSpec.ofChange chainOwnedSpec)

/-- ITS FALSE NEIGHBOUR: 'it returns false'. Refute it at one input. -/
def chainOwnedWrong : ChangeSpec := { name := "chainOwned", fn := fun _ => fun
  | [d] => { results := [.lit (.bool false)], args := [d] }
  | _ => none }
def ChainOwnedWrongFalsely : Prop := chainOwnedRow.holds Tryz.pinned (OpenSpec.ofChange chainOwnedWrong)

/-- 'wicketgatelaw09.ChainTighter': WHATEVER THE INPUT: true; the input reads as it did. -/
def chainTighterSpec : ChangeSpec := { name := "chainTighter", fn := fun _ => fun
  | [d1, d2, d3] => { results := [.lit (.bool true)], args := [d1, d2, d3] }
  | _ => none }
def chainTighterRow : OpenClaim := { program := "ytbojjjiggppnaaagreat", sum := "7e67490667419413aaffec4a1fa765a35334ac3983c495c62fe3157daaf22519", func := "wicketgate/wicketgatelaw09.ChainTighter", spec := "chainTighter", inPlace := ["slices.overlaps[wicketgate/api.Node]"], unfollowed := true, recurses := true, apart := false }
def ChainTighterSaid : Prop := chainTighterRow.holds Tryz.pinned (OpenSpec.ofChange chainTighterSpec)

/-- ITS FALSE NEIGHBOUR: 'it returns false'. Refute it at one input. -/
def chainTighterWrong : ChangeSpec := { name := "chainTighter", fn := fun _ => fun
  | [d1, d2, d3] => { results := [.lit (.bool false)], args := [d1, d2, d3] }
  | _ => none }
def ChainTighterWrongFalsely : Prop := chainTighterRow.holds Tryz.pinned (OpenSpec.ofChange chainTighterWrong)

/-- 'wicketgatelaw09.ChainBack': WHATEVER THE INPUT: true; the input reads as it did. -/
def chainBackSpec : ChangeSpec := { name := "chainBack", fn := fun _ => fun
  | [d1, d2, d3] => { results := [.lit (.bool true)], args := [d1, d2, d3] }
  | _ => none }
def chainBackRow : OpenClaim := { program := "ytbojjjiggppnaaagreat", sum := "7e67490667419413aaffec4a1fa765a35334ac3983c495c62fe3157daaf22519", func := "wicketgate/wicketgatelaw09.ChainBack", spec := "chainBack", inPlace := ["slices.overlaps[wicketgate/api.Node]"], unfollowed := true, recurses := true, apart := false }
def ChainBackSaid : Prop := chainBackRow.holds Tryz.pinned (OpenSpec.ofChange chainBackSpec)

/-- ITS FALSE NEIGHBOUR: 'it returns false'. Refute it at one input. -/
def chainBackWrong : ChangeSpec := { name := "chainBack", fn := fun _ => fun
  | [d1, d2, d3] => { results := [.lit (.bool false)], args := [d1, d2, d3] }
  | _ => none }
def ChainBackWrongFalsely : Prop := chainBackRow.holds Tryz.pinned (OpenSpec.ofChange chainBackWrong)

/-- 'wicketgatelaw09.ChainTells': WHATEVER THE INPUT: true; the input reads as it did. -/
def chainTellsSpec : ChangeSpec := { name := "chainTells", fn := fun _ => fun
  | [d1, d2, d3] => { results := [.lit (.bool true)], args := [d1, d2, d3] }
  | _ => none }
def chainTellsRow : OpenClaim := { program := "ytbojjjiggppnaaagreat", sum := "7e67490667419413aaffec4a1fa765a35334ac3983c495c62fe3157daaf22519", func := "wicketgate/wicketgatelaw09.ChainTells", spec := "chainTells", inPlace := ["slices.overlaps[wicketgate/api.Node]"], unfollowed := true, recurses := true, apart := false }
def ChainTellsSaid : Prop := chainTellsRow.holds Tryz.pinned (OpenSpec.ofChange chainTellsSpec)

/-- ITS FALSE NEIGHBOUR: 'it returns false'. Refute it at one input. -/
def chainTellsWrong : ChangeSpec := { name := "chainTells", fn := fun _ => fun
  | [d1, d2, d3] => { results := [.lit (.bool false)], args := [d1, d2, d3] }
  | _ => none }
def ChainTellsWrongFalsely : Prop := chainTellsRow.holds Tryz.pinned (OpenSpec.ofChange chainTellsWrong)

/-- 'wicketgatelaw15.AttachSays': WHATEVER THE INPUT: true; the input reads as it did. -/
def attachSaysSpec : ChangeSpec := { name := "attachSays", fn := fun _ => fun
  | [d1, d2, d3] => { results := [.lit (.bool true)], args := [d1, d2, d3] }
  | _ => none }
def attachSaysRow : OpenClaim := { program := "ytbojjjiggppnaaagreat", sum := "7e67490667419413aaffec4a1fa765a35334ac3983c495c62fe3157daaf22519", func := "wicketgate/wicketgatelaw15.AttachSays", spec := "attachSays", inPlace := ["slices.overlaps[wicketgate/api.Guard]", "slices.overlaps[wicketgate/api.Node]"], unfollowed := true, recurses := true, apart := false }
def AttachSaysSaid : Prop := attachSaysRow.holds Tryz.pinned (OpenSpec.ofChange attachSaysSpec)

/-- ITS FALSE NEIGHBOUR: 'it returns false'. Refute it at one input. -/
def attachSaysWrong : ChangeSpec := { name := "attachSays", fn := fun _ => fun
  | [d1, d2, d3] => { results := [.lit (.bool false)], args := [d1, d2, d3] }
  | _ => none }
def AttachSaysWrongFalsely : Prop := attachSaysRow.holds Tryz.pinned (OpenSpec.ofChange attachSaysWrong)

/-- 'wicketgatelaw15.AttachPuts': WHATEVER THE INPUT: true; the input reads as it did. -/
def attachPutsSpec : ChangeSpec := { name := "attachPuts", fn := fun _ => fun
  | [d1, d2, d3] => { results := [.lit (.bool true)], args := [d1, d2, d3] }
  | _ => none }
def attachPutsRow : OpenClaim := { program := "ytbojjjiggppnaaagreat", sum := "7e67490667419413aaffec4a1fa765a35334ac3983c495c62fe3157daaf22519", func := "wicketgate/wicketgatelaw15.AttachPuts", spec := "attachPuts", inPlace := ["slices.overlaps[wicketgate/api.Guard]", "slices.overlaps[wicketgate/api.Node]"], unfollowed := true, recurses := true, apart := false }
def AttachPutsSaid : Prop := attachPutsRow.holds Tryz.pinned (OpenSpec.ofChange attachPutsSpec)

/-- ITS FALSE NEIGHBOUR: 'it returns false'. Refute it at one input. -/
def attachPutsWrong : ChangeSpec := { name := "attachPuts", fn := fun _ => fun
  | [d1, d2, d3] => { results := [.lit (.bool false)], args := [d1, d2, d3] }
  | _ => none }
def AttachPutsWrongFalsely : Prop := attachPutsRow.holds Tryz.pinned (OpenSpec.ofChange attachPutsWrong)

/-- 'wicketgatelaw15.AttachMoves': WHATEVER THE INPUT: true; the input reads as it did. -/
def attachMovesSpec : ChangeSpec := { name := "attachMoves", fn := fun _ => fun
  | [d1, d2, d3] => { results := [.lit (.bool true)], args := [d1, d2, d3] }
  | _ => none }
def attachMovesRow : OpenClaim := { program := "ytbojjjiggppnaaagreat", sum := "7e67490667419413aaffec4a1fa765a35334ac3983c495c62fe3157daaf22519", func := "wicketgate/wicketgatelaw15.AttachMoves", spec := "attachMoves", inPlace := ["slices.overlaps[wicketgate/api.Guard]", "slices.overlaps[wicketgate/api.Node]"], unfollowed := true, recurses := true, apart := false }
def AttachMovesSaid : Prop := attachMovesRow.holds Tryz.pinned (OpenSpec.ofChange attachMovesSpec)

/-- ITS FALSE NEIGHBOUR: 'it returns false'. Refute it at one input. -/
def attachMovesWrong : ChangeSpec := { name := "attachMoves", fn := fun _ => fun
  | [d1, d2, d3] => { results := [.lit (.bool false)], args := [d1, d2, d3] }
  | _ => none }
def AttachMovesWrongFalsely : Prop := attachMovesRow.holds Tryz.pinned (OpenSpec.ofChange attachMovesWrong)

/-- 'wicketgatelaw15.AttachSets': WHATEVER THE INPUT: true; the input reads as it did. -/
def attachSetsSpec : ChangeSpec := { name := "attachSets", fn := fun _ => fun
  | [d1, d2, d3] => { results := [.lit (.bool true)], args := [d1, d2, d3] }
  | _ => none }
def attachSetsRow : OpenClaim := { program := "ytbojjjiggppnaaagreat", sum := "7e67490667419413aaffec4a1fa765a35334ac3983c495c62fe3157daaf22519", func := "wicketgate/wicketgatelaw15.AttachSets", spec := "attachSets", inPlace := ["slices.overlaps[wicketgate/api.Guard]", "slices.overlaps[wicketgate/api.Node]"], unfollowed := true, recurses := true, apart := false }
def AttachSetsSaid : Prop := attachSetsRow.holds Tryz.pinned (OpenSpec.ofChange attachSetsSpec)

/-- ITS FALSE NEIGHBOUR: 'it returns false'. Refute it at one input. -/
def attachSetsWrong : ChangeSpec := { name := "attachSets", fn := fun _ => fun
  | [d1, d2, d3] => { results := [.lit (.bool false)], args := [d1, d2, d3] }
  | _ => none }
def AttachSetsWrongFalsely : Prop := attachSetsRow.holds Tryz.pinned (OpenSpec.ofChange attachSetsWrong)

/-- 'wicketgatelaw15.AttachPrepares': WHATEVER THE INPUT: true; the input reads as it did. -/
def attachPreparesSpec : ChangeSpec := { name := "attachPrepares", fn := fun _ => fun
  | [d1, d2, d3] => { results := [.lit (.bool true)], args := [d1, d2, d3] }
  | _ => none }
def attachPreparesRow : OpenClaim := { program := "ytbojjjiggppnaaagreat", sum := "7e67490667419413aaffec4a1fa765a35334ac3983c495c62fe3157daaf22519", func := "wicketgate/wicketgatelaw15.AttachPrepares", spec := "attachPrepares", inPlace := ["slices.overlaps[wicketgate/api.Guard]", "slices.overlaps[wicketgate/api.Node]"], unfollowed := true, recurses := true, apart := false }
def AttachPreparesSaid : Prop := attachPreparesRow.holds Tryz.pinned (OpenSpec.ofChange attachPreparesSpec)

/-- ITS FALSE NEIGHBOUR: 'it returns false'. Refute it at one input. -/
def attachPreparesWrong : ChangeSpec := { name := "attachPrepares", fn := fun _ => fun
  | [d1, d2, d3] => { results := [.lit (.bool false)], args := [d1, d2, d3] }
  | _ => none }
def AttachPreparesWrongFalsely : Prop := attachPreparesRow.holds Tryz.pinned (OpenSpec.ofChange attachPreparesWrong)

/-- 'wicketgatelaw15.AttachCounts': WHATEVER THE INPUT: true; the input reads as it did. -/
def attachCountsSpec : ChangeSpec := { name := "attachCounts", fn := fun _ => fun
  | [d] => { results := [.lit (.bool true)], args := [d] }
  | _ => none }
def attachCountsRow : OpenClaim := { program := "ytbojjjiggppnaaagreat", sum := "7e67490667419413aaffec4a1fa765a35334ac3983c495c62fe3157daaf22519", func := "wicketgate/wicketgatelaw15.AttachCounts", spec := "attachCounts", inPlace := ["slices.overlaps[wicketgate/api.Guard]", "slices.overlaps[wicketgate/api.Node]"], unfollowed := true, recurses := true, apart := false }
def AttachCountsSaid : Prop := attachCountsRow.holds Tryz.pinned (OpenSpec.ofChange attachCountsSpec)

/-- ITS FALSE NEIGHBOUR: 'it returns false'. Refute it at one input. -/
def attachCountsWrong : ChangeSpec := { name := "attachCounts", fn := fun _ => fun
  | [d] => { results := [.lit (.bool false)], args := [d] }
  | _ => none }
def AttachCountsWrongFalsely : Prop := attachCountsRow.holds Tryz.pinned (OpenSpec.ofChange attachCountsWrong)

/- THE SECOND FORM. 'bulk': how many values and letters a reading holds, each counted each time it is reached (what is shared counts as often as it is met; a slice's spare places count too). A statement '..UptoSaid' is the law's where the arguments, and the package variables that the reading takes, are together of bulk at most 1048576: NARROWER than '..Said'. Prove '..Said' where nothing that the law and all that it calls make is longer than what came in: it says more and counts as full. Else prove '..UptoSaid'. A law counts once. -/
mutual
def uptoBulk {H : Type} : DataW H → Nat
  | .lit (.string bytes) => bytes.length + 1
  | .lit _ => 1
  | .nil => 1
  | .ptr d => uptoBulk d + 1
  | .slice elems spare => uptoBulkAll elems + uptoBulkAll spare + 1
  | .agg parts => uptoBulkAll parts + 1
  | .iface _ d => uptoBulk d + 1
  | .map entries => uptoBulkEntries entries + 1
  | .held _ => 1
def uptoBulkAll {H : Type} : List (DataW H) → Nat
  | [] => 0
  | d :: r => uptoBulk d + uptoBulkAll r
def uptoBulkEntries {H : Type} : List (Lit × DataW H) → Nat
  | [] => 0
  | x :: r => uptoBulkEntry x + uptoBulkEntries r
def uptoBulkEntry {H : Type} : Lit × DataW H → Nat
  | (.string bytes, d) => bytes.length + uptoBulk d + 1
  | (_, d) => uptoBulk d + 1
 end
def uptoSmall : (H : Type) → List (DataW H) → Bool := fun _ ds => decide (uptoBulkAll ds ≤ 1048576)
def OpenSpec.upto (s : _root_.Go.ChangeSpec) : _root_.Go.OpenSpec := { _root_.Go.OpenSpec.ofChange s with cond := some uptoSmall }

/-- 'wicketgatelaw15.AttachGrows', WHERE WHAT IT READS IS OF BULK AT MOST 1048576: true; the input reads as it did. -/
def attachGrowsUptoRow : OpenClaim := { program := "ytbojjjiggppnaaagreat", sum := "7e67490667419413aaffec4a1fa765a35334ac3983c495c62fe3157daaf22519", func := "wicketgate/wicketgatelaw15.AttachGrows", spec := "attachGrows", inPlace := ["slices.overlaps[wicketgate/api.Guard]", "slices.overlaps[wicketgate/api.Node]"], unfollowed := true, recurses := true, apart := false, narrowed := true }
def AttachGrowsUptoSaid : Prop := attachGrowsUptoRow.holds Tryz.pinned (OpenSpec.upto attachGrowsSpec)

/-- 'wicketgatelaw15.AttachSync', WHERE WHAT IT READS IS OF BULK AT MOST 1048576: true; the input reads as it did. -/
def attachSyncUptoRow : OpenClaim := { program := "ytbojjjiggppnaaagreat", sum := "7e67490667419413aaffec4a1fa765a35334ac3983c495c62fe3157daaf22519", func := "wicketgate/wicketgatelaw15.AttachSync", spec := "attachSync", inPlace := ["slices.overlaps[wicketgate/api.Guard]", "slices.overlaps[wicketgate/api.Node]"], unfollowed := true, recurses := true, apart := false, narrowed := true }
def AttachSyncUptoSaid : Prop := attachSyncUptoRow.holds Tryz.pinned (OpenSpec.upto attachSyncSpec)

/-- 'wicketgatelaw09.ChainAdds', WHERE WHAT IT READS IS OF BULK AT MOST 1048576: true; the input reads as it did. -/
def chainAddsUptoRow : OpenClaim := { program := "ytbojjjiggppnaaagreat", sum := "7e67490667419413aaffec4a1fa765a35334ac3983c495c62fe3157daaf22519", func := "wicketgate/wicketgatelaw09.ChainAdds", spec := "chainAdds", inPlace := ["slices.overlaps[wicketgate/api.Node]"], unfollowed := true, recurses := true, apart := false, narrowed := true }
def ChainAddsUptoSaid : Prop := chainAddsUptoRow.holds Tryz.pinned (OpenSpec.upto chainAddsSpec)

/-- 'wicketgatelaw09.ChainCounts', WHERE WHAT IT READS IS OF BULK AT MOST 1048576: true; the input reads as it did. -/
def chainCountsUptoRow : OpenClaim := { program := "ytbojjjiggppnaaagreat", sum := "7e67490667419413aaffec4a1fa765a35334ac3983c495c62fe3157daaf22519", func := "wicketgate/wicketgatelaw09.ChainCounts", spec := "chainCounts", inPlace := ["slices.overlaps[wicketgate/api.Node]"], unfollowed := true, recurses := true, apart := false, narrowed := true }
def ChainCountsUptoSaid : Prop := chainCountsUptoRow.holds Tryz.pinned (OpenSpec.upto chainCountsSpec)

/-- 'wicketgatelaw09.ChainOwned', WHERE WHAT IT READS IS OF BULK AT MOST 1048576: true; the input reads as it did. -/
def chainOwnedUptoRow : OpenClaim := { program := "ytbojjjiggppnaaagreat", sum := "7e67490667419413aaffec4a1fa765a35334ac3983c495c62fe3157daaf22519", func := "wicketgate/wicketgatelaw09.ChainOwned", spec := "chainOwned", inPlace := ["slices.overlaps[wicketgate/api.Node]"], unfollowed := true, recurses := true, apart := false, narrowed := true }
def ChainOwnedUptoSaid : Prop := chainOwnedUptoRow.holds Tryz.pinned (OpenSpec.upto chainOwnedSpec)

/-- 'wicketgatelaw09.ChainTighter', WHERE WHAT IT READS IS OF BULK AT MOST 1048576: true; the input reads as it did. -/
def chainTighterUptoRow : OpenClaim := { program := "ytbojjjiggppnaaagreat", sum := "7e67490667419413aaffec4a1fa765a35334ac3983c495c62fe3157daaf22519", func := "wicketgate/wicketgatelaw09.ChainTighter", spec := "chainTighter", inPlace := ["slices.overlaps[wicketgate/api.Node]"], unfollowed := true, recurses := true, apart := false, narrowed := true }
def ChainTighterUptoSaid : Prop := chainTighterUptoRow.holds Tryz.pinned (OpenSpec.upto chainTighterSpec)

/-- 'wicketgatelaw09.ChainBack', WHERE WHAT IT READS IS OF BULK AT MOST 1048576: true; the input reads as it did. -/
def chainBackUptoRow : OpenClaim := { program := "ytbojjjiggppnaaagreat", sum := "7e67490667419413aaffec4a1fa765a35334ac3983c495c62fe3157daaf22519", func := "wicketgate/wicketgatelaw09.ChainBack", spec := "chainBack", inPlace := ["slices.overlaps[wicketgate/api.Node]"], unfollowed := true, recurses := true, apart := false, narrowed := true }
def ChainBackUptoSaid : Prop := chainBackUptoRow.holds Tryz.pinned (OpenSpec.upto chainBackSpec)

/-- 'wicketgatelaw09.ChainTells', WHERE WHAT IT READS IS OF BULK AT MOST 1048576: true; the input reads as it did. -/
def chainTellsUptoRow : OpenClaim := { program := "ytbojjjiggppnaaagreat", sum := "7e67490667419413aaffec4a1fa765a35334ac3983c495c62fe3157daaf22519", func := "wicketgate/wicketgatelaw09.ChainTells", spec := "chainTells", inPlace := ["slices.overlaps[wicketgate/api.Node]"], unfollowed := true, recurses := true, apart := false, narrowed := true }
def ChainTellsUptoSaid : Prop := chainTellsUptoRow.holds Tryz.pinned (OpenSpec.upto chainTellsSpec)

/-- 'wicketgatelaw15.AttachSays', WHERE WHAT IT READS IS OF BULK AT MOST 1048576: true; the input reads as it did. -/
def attachSaysUptoRow : OpenClaim := { program := "ytbojjjiggppnaaagreat", sum := "7e67490667419413aaffec4a1fa765a35334ac3983c495c62fe3157daaf22519", func := "wicketgate/wicketgatelaw15.AttachSays", spec := "attachSays", inPlace := ["slices.overlaps[wicketgate/api.Guard]", "slices.overlaps[wicketgate/api.Node]"], unfollowed := true, recurses := true, apart := false, narrowed := true }
def AttachSaysUptoSaid : Prop := attachSaysUptoRow.holds Tryz.pinned (OpenSpec.upto attachSaysSpec)

/-- 'wicketgatelaw15.AttachPuts', WHERE WHAT IT READS IS OF BULK AT MOST 1048576: true; the input reads as it did. -/
def attachPutsUptoRow : OpenClaim := { program := "ytbojjjiggppnaaagreat", sum := "7e67490667419413aaffec4a1fa765a35334ac3983c495c62fe3157daaf22519", func := "wicketgate/wicketgatelaw15.AttachPuts", spec := "attachPuts", inPlace := ["slices.overlaps[wicketgate/api.Guard]", "slices.overlaps[wicketgate/api.Node]"], unfollowed := true, recurses := true, apart := false, narrowed := true }
def AttachPutsUptoSaid : Prop := attachPutsUptoRow.holds Tryz.pinned (OpenSpec.upto attachPutsSpec)

/-- 'wicketgatelaw15.AttachMoves', WHERE WHAT IT READS IS OF BULK AT MOST 1048576: true; the input reads as it did. -/
def attachMovesUptoRow : OpenClaim := { program := "ytbojjjiggppnaaagreat", sum := "7e67490667419413aaffec4a1fa765a35334ac3983c495c62fe3157daaf22519", func := "wicketgate/wicketgatelaw15.AttachMoves", spec := "attachMoves", inPlace := ["slices.overlaps[wicketgate/api.Guard]", "slices.overlaps[wicketgate/api.Node]"], unfollowed := true, recurses := true, apart := false, narrowed := true }
def AttachMovesUptoSaid : Prop := attachMovesUptoRow.holds Tryz.pinned (OpenSpec.upto attachMovesSpec)

/-- 'wicketgatelaw15.AttachSets', WHERE WHAT IT READS IS OF BULK AT MOST 1048576: true; the input reads as it did. -/
def attachSetsUptoRow : OpenClaim := { program := "ytbojjjiggppnaaagreat", sum := "7e67490667419413aaffec4a1fa765a35334ac3983c495c62fe3157daaf22519", func := "wicketgate/wicketgatelaw15.AttachSets", spec := "attachSets", inPlace := ["slices.overlaps[wicketgate/api.Guard]", "slices.overlaps[wicketgate/api.Node]"], unfollowed := true, recurses := true, apart := false, narrowed := true }
def AttachSetsUptoSaid : Prop := attachSetsUptoRow.holds Tryz.pinned (OpenSpec.upto attachSetsSpec)

/-- 'wicketgatelaw15.AttachPrepares', WHERE WHAT IT READS IS OF BULK AT MOST 1048576: true; the input reads as it did. -/
def attachPreparesUptoRow : OpenClaim := { program := "ytbojjjiggppnaaagreat", sum := "7e67490667419413aaffec4a1fa765a35334ac3983c495c62fe3157daaf22519", func := "wicketgate/wicketgatelaw15.AttachPrepares", spec := "attachPrepares", inPlace := ["slices.overlaps[wicketgate/api.Guard]", "slices.overlaps[wicketgate/api.Node]"], unfollowed := true, recurses := true, apart := false, narrowed := true }
def AttachPreparesUptoSaid : Prop := attachPreparesUptoRow.holds Tryz.pinned (OpenSpec.upto attachPreparesSpec)

/-- 'wicketgatelaw15.AttachCounts', WHERE WHAT IT READS IS OF BULK AT MOST 1048576: true; the input reads as it did. -/
def attachCountsUptoRow : OpenClaim := { program := "ytbojjjiggppnaaagreat", sum := "7e67490667419413aaffec4a1fa765a35334ac3983c495c62fe3157daaf22519", func := "wicketgate/wicketgatelaw15.AttachCounts", spec := "attachCounts", inPlace := ["slices.overlaps[wicketgate/api.Guard]", "slices.overlaps[wicketgate/api.Node]"], unfollowed := true, recurses := true, apart := false, narrowed := true }
def AttachCountsUptoSaid : Prop := attachCountsUptoRow.holds Tryz.pinned (OpenSpec.upto attachCountsSpec)

end Rows
end Go.Proofs.YtbojjjiggppnaaaGreat
