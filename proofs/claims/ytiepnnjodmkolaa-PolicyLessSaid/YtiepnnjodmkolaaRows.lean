/-
  No cell of these rows narrows 'for every input' (looked for: loops, veiled, ifaces, maps, wideKeys, modest, calm, conditions, laid).
  DERIVED. THE GIVEN ROWS OF THIS SEAT. 7 by the template 'for every input the law returns true; each argument reads behind the call as it read before'; 0 by the template 'total and deterministic' (their statements: YtiepnnjodmkolaaTotals.lean).
  GIVEN WITH THE SEED: the statements are not yours to turn. If you find one false, say at which input.
  Laid BY PROGRAM, IN A SANDBOX (cutbox-rows.mjs): the forced cells as the released guide's own fill.sh prints them over the translation afd5de71df2569fc… (all of the seat's roots in one cut). By AI agents, Wed Nov 11 2026. No macro, syntax, notation, axiom, sorry.
-/
import Derived.Test.YtiepnnjodmkolaaChecked
import GoSem.Claim
import GoSem.ClaimJoined
import GoSem.ClaimMapViews
import Derived.JoinedTies
import Derived.KernelRfl
namespace Go.Proofs.Ytiepnnjodmkolaa
/- THE CELL 'sum', in the pinned program and in every row, IS THE sha256 OF THE DUMP (.gsa) THAT YtiepnnjodmkolaaProg.lean LOADS. Nothing in Lean hashes anything: it is a label: what it is worth is what the hold of that sum in a sandbox is worth. -/
noncomputable def Try.pinned : Pinned := { name := "ytiepnnjodmkolaa", sum := "afd5de71df2569fc9f5352f52e0cb9de26df54f7b3de523d99235ba8ea4eeb6f", checked := Try.checked }
namespace Rows
def none {H : Type} : Left H := { results := [], args := [] }

/-- 'wicketgatelaw23.PolicyPrograms': WHATEVER THE INPUT: true; the input reads as it did. -/
def policyProgramsSpec : ChangeSpec := { name := "policyPrograms", fn := fun _ => fun
  | [d] => { results := [.lit (.bool true)], args := [d] }
  | _ => none }
def policyProgramsRow : OpenClaim := { program := "ytiepnnjodmkolaa", sum := "afd5de71df2569fc9f5352f52e0cb9de26df54f7b3de523d99235ba8ea4eeb6f", func := "wicketgate/wicketgatelaw23.PolicyPrograms", spec := "policyPrograms", unfollowed := true, recurses := true, apart := false }
def PolicyProgramsSaid : Prop := policyProgramsRow.holds Try.pinned (OpenSpec.ofChange policyProgramsSpec)

/-- ITS FALSE NEIGHBOUR: 'it returns false'. Refute it at one input. -/
def policyProgramsWrong : ChangeSpec := { name := "policyPrograms", fn := fun _ => fun
  | [d] => { results := [.lit (.bool false)], args := [d] }
  | _ => none }
def PolicyProgramsWrongFalsely : Prop := policyProgramsRow.holds Try.pinned (OpenSpec.ofChange policyProgramsWrong)

/-- 'wicketgatelaw23.PolicyLast': WHATEVER THE INPUT: true; the input reads as it did. -/
def policyLastSpec : ChangeSpec := { name := "policyLast", fn := fun _ => fun
  | [d1, d2] => { results := [.lit (.bool true)], args := [d1, d2] }
  | _ => none }
def policyLastRow : OpenClaim := { program := "ytiepnnjodmkolaa", sum := "afd5de71df2569fc9f5352f52e0cb9de26df54f7b3de523d99235ba8ea4eeb6f", func := "wicketgate/wicketgatelaw23.PolicyLast", spec := "policyLast", unfollowed := true, recurses := true, apart := false }
def PolicyLastSaid : Prop := policyLastRow.holds Try.pinned (OpenSpec.ofChange policyLastSpec)

/-- ITS FALSE NEIGHBOUR: 'it returns false'. Refute it at one input. -/
def policyLastWrong : ChangeSpec := { name := "policyLast", fn := fun _ => fun
  | [d1, d2] => { results := [.lit (.bool false)], args := [d1, d2] }
  | _ => none }
def PolicyLastWrongFalsely : Prop := policyLastRow.holds Try.pinned (OpenSpec.ofChange policyLastWrong)

/-- 'wicketgatelaw23.PolicySays': WHATEVER THE INPUT: true; the input reads as it did. -/
def policySaysSpec : ChangeSpec := { name := "policySays", fn := fun _ => fun
  | [d1, d2] => { results := [.lit (.bool true)], args := [d1, d2] }
  | _ => none }
def policySaysRow : OpenClaim := { program := "ytiepnnjodmkolaa", sum := "afd5de71df2569fc9f5352f52e0cb9de26df54f7b3de523d99235ba8ea4eeb6f", func := "wicketgate/wicketgatelaw23.PolicySays", spec := "policySays", unfollowed := true, recurses := true, apart := false }
def PolicySaysSaid : Prop := policySaysRow.holds Try.pinned (OpenSpec.ofChange policySaysSpec)

/-- ITS FALSE NEIGHBOUR: 'it returns false'. Refute it at one input. -/
def policySaysWrong : ChangeSpec := { name := "policySays", fn := fun _ => fun
  | [d1, d2] => { results := [.lit (.bool false)], args := [d1, d2] }
  | _ => none }
def PolicySaysWrongFalsely : Prop := policySaysRow.holds Try.pinned (OpenSpec.ofChange policySaysWrong)

/-- 'wicketgatelaw23.PolicyAhead': WHATEVER THE INPUT: true; the input reads as it did. -/
def policyAheadSpec : ChangeSpec := { name := "policyAhead", fn := fun _ => fun
  | [d1, d2, d3] => { results := [.lit (.bool true)], args := [d1, d2, d3] }
  | _ => none }
def policyAheadRow : OpenClaim := { program := "ytiepnnjodmkolaa", sum := "afd5de71df2569fc9f5352f52e0cb9de26df54f7b3de523d99235ba8ea4eeb6f", func := "wicketgate/wicketgatelaw23.PolicyAhead", spec := "policyAhead", unfollowed := true, recurses := true, apart := false }
def PolicyAheadSaid : Prop := policyAheadRow.holds Try.pinned (OpenSpec.ofChange policyAheadSpec)

/-- ITS FALSE NEIGHBOUR: 'it returns false'. Refute it at one input. -/
def policyAheadWrong : ChangeSpec := { name := "policyAhead", fn := fun _ => fun
  | [d1, d2, d3] => { results := [.lit (.bool false)], args := [d1, d2, d3] }
  | _ => none }
def PolicyAheadWrongFalsely : Prop := policyAheadRow.holds Try.pinned (OpenSpec.ofChange policyAheadWrong)

/-- 'wicketgatelaw23.PolicyRight': WHATEVER THE INPUT: true; the input reads as it did. -/
def policyRightSpec : ChangeSpec := { name := "policyRight", fn := fun _ => fun
  | [d1, d2] => { results := [.lit (.bool true)], args := [d1, d2] }
  | _ => none }
def policyRightRow : OpenClaim := { program := "ytiepnnjodmkolaa", sum := "afd5de71df2569fc9f5352f52e0cb9de26df54f7b3de523d99235ba8ea4eeb6f", func := "wicketgate/wicketgatelaw23.PolicyRight", spec := "policyRight", unfollowed := true, recurses := true, apart := false }
def PolicyRightSaid : Prop := policyRightRow.holds Try.pinned (OpenSpec.ofChange policyRightSpec)

/-- ITS FALSE NEIGHBOUR: 'it returns false'. Refute it at one input. -/
def policyRightWrong : ChangeSpec := { name := "policyRight", fn := fun _ => fun
  | [d1, d2] => { results := [.lit (.bool false)], args := [d1, d2] }
  | _ => none }
def PolicyRightWrongFalsely : Prop := policyRightRow.holds Try.pinned (OpenSpec.ofChange policyRightWrong)

/-- 'wicketgatelaw23.PolicyShadows': WHATEVER THE INPUT: true; the input reads as it did. -/
def policyShadowsSpec : ChangeSpec := { name := "policyShadows", fn := fun _ => fun
  | [d1, d2] => { results := [.lit (.bool true)], args := [d1, d2] }
  | _ => none }
def policyShadowsRow : OpenClaim := { program := "ytiepnnjodmkolaa", sum := "afd5de71df2569fc9f5352f52e0cb9de26df54f7b3de523d99235ba8ea4eeb6f", func := "wicketgate/wicketgatelaw23.PolicyShadows", spec := "policyShadows", unfollowed := true, recurses := true, apart := false }
def PolicyShadowsSaid : Prop := policyShadowsRow.holds Try.pinned (OpenSpec.ofChange policyShadowsSpec)

/-- ITS FALSE NEIGHBOUR: 'it returns false'. Refute it at one input. -/
def policyShadowsWrong : ChangeSpec := { name := "policyShadows", fn := fun _ => fun
  | [d1, d2] => { results := [.lit (.bool false)], args := [d1, d2] }
  | _ => none }
def PolicyShadowsWrongFalsely : Prop := policyShadowsRow.holds Try.pinned (OpenSpec.ofChange policyShadowsWrong)

/-- 'wicketgatelaw23.PolicyLess': WHATEVER THE INPUT: true; the input reads as it did. -/
def policyLessSpec : ChangeSpec := { name := "policyLess", fn := fun _ => fun
  | [d1, d2] => { results := [.lit (.bool true)], args := [d1, d2] }
  | _ => none }
def policyLessRow : OpenClaim := { program := "ytiepnnjodmkolaa", sum := "afd5de71df2569fc9f5352f52e0cb9de26df54f7b3de523d99235ba8ea4eeb6f", func := "wicketgate/wicketgatelaw23.PolicyLess", spec := "policyLess", unfollowed := true, recurses := true, apart := false }
def PolicyLessSaid : Prop := policyLessRow.holds Try.pinned (OpenSpec.ofChange policyLessSpec)

/-- ITS FALSE NEIGHBOUR: 'it returns false'. Refute it at one input. -/
def policyLessWrong : ChangeSpec := { name := "policyLess", fn := fun _ => fun
  | [d1, d2] => { results := [.lit (.bool false)], args := [d1, d2] }
  | _ => none }
def PolicyLessWrongFalsely : Prop := policyLessRow.holds Try.pinned (OpenSpec.ofChange policyLessWrong)

/- THE SECOND FORM. 'bulk': how many values and letters a reading holds, each counted each time it is reached (what is shared counts as often as it is met; a slice's spare places count too). A statement '..UptoSaid' is the law's where the arguments, and the package variables that the reading takes, are together of bulk at most 1048576: NARROWER than '..Said'. Prove '..Said' where nothing that the law and all that it calls make is longer than what came in: it says more and counts as full. Else prove '..UptoSaid'. A law counts once. -/
mutual
def uptoBulk {H : Type} : DataW H → Nat
  | .lit (.string bytes) => bytes.length + 1
  | .lit _ => 1
  | .nil => 1
  | .ptr d => uptoBulk d + 1
  | .slice elems spare => uptoBulkAll elems + uptoBulkAll spare + 1
  | .agg parts => uptoBulkAll parts + 1
  | .iface _ d => uptoBulk d + 1
  | .map entries => uptoBulkEntries entries + 1
  | .held _ => 1
def uptoBulkAll {H : Type} : List (DataW H) → Nat
  | [] => 0
  | d :: r => uptoBulk d + uptoBulkAll r
def uptoBulkEntries {H : Type} : List (Lit × DataW H) → Nat
  | [] => 0
  | x :: r => uptoBulkEntry x + uptoBulkEntries r
def uptoBulkEntry {H : Type} : Lit × DataW H → Nat
  | (.string bytes, d) => bytes.length + uptoBulk d + 1
  | (_, d) => uptoBulk d + 1
 end
def uptoSmall : (H : Type) → List (DataW H) → Bool := fun _ ds => decide (uptoBulkAll ds ≤ 1048576)
def OpenSpec.upto (s : _root_.Go.ChangeSpec) : _root_.Go.OpenSpec := { _root_.Go.OpenSpec.ofChange s with cond := some uptoSmall }

/-- 'wicketgatelaw23.PolicyPrograms', WHERE WHAT IT READS IS OF BULK AT MOST 1048576: true; the input reads as it did. -/
def policyProgramsUptoRow : OpenClaim := { program := "ytiepnnjodmkolaa", sum := "afd5de71df2569fc9f5352f52e0cb9de26df54f7b3de523d99235ba8ea4eeb6f", func := "wicketgate/wicketgatelaw23.PolicyPrograms", spec := "policyPrograms", unfollowed := true, recurses := true, apart := false, narrowed := true }
def PolicyProgramsUptoSaid : Prop := policyProgramsUptoRow.holds Try.pinned (OpenSpec.upto policyProgramsSpec)

/-- 'wicketgatelaw23.PolicyLast', WHERE WHAT IT READS IS OF BULK AT MOST 1048576: true; the input reads as it did. -/
def policyLastUptoRow : OpenClaim := { program := "ytiepnnjodmkolaa", sum := "afd5de71df2569fc9f5352f52e0cb9de26df54f7b3de523d99235ba8ea4eeb6f", func := "wicketgate/wicketgatelaw23.PolicyLast", spec := "policyLast", unfollowed := true, recurses := true, apart := false, narrowed := true }
def PolicyLastUptoSaid : Prop := policyLastUptoRow.holds Try.pinned (OpenSpec.upto policyLastSpec)

/-- 'wicketgatelaw23.PolicySays', WHERE WHAT IT READS IS OF BULK AT MOST 1048576: true; the input reads as it did. -/
def policySaysUptoRow : OpenClaim := { program := "ytiepnnjodmkolaa", sum := "afd5de71df2569fc9f5352f52e0cb9de26df54f7b3de523d99235ba8ea4eeb6f", func := "wicketgate/wicketgatelaw23.PolicySays", spec := "policySays", unfollowed := true, recurses := true, apart := false, narrowed := true }
def PolicySaysUptoSaid : Prop := policySaysUptoRow.holds Try.pinned (OpenSpec.upto policySaysSpec)

/-- 'wicketgatelaw23.PolicyAhead', WHERE WHAT IT READS IS OF BULK AT MOST 1048576: true; the input reads as it did. -/
def policyAheadUptoRow : OpenClaim := { program := "ytiepnnjodmkolaa", sum := "afd5de71df2569fc9f5352f52e0cb9de26df54f7b3de523d99235ba8ea4eeb6f", func := "wicketgate/wicketgatelaw23.PolicyAhead", spec := "policyAhead", unfollowed := true, recurses := true, apart := false, narrowed := true }
def PolicyAheadUptoSaid : Prop := policyAheadUptoRow.holds Try.pinned (OpenSpec.upto policyAheadSpec)

/-- 'wicketgatelaw23.PolicyRight', WHERE WHAT IT READS IS OF BULK AT MOST 1048576: true; the input reads as it did. -/
def policyRightUptoRow : OpenClaim := { program := "ytiepnnjodmkolaa", sum := "afd5de71df2569fc9f5352f52e0cb9de26df54f7b3de523d99235ba8ea4eeb6f", func := "wicketgate/wicketgatelaw23.PolicyRight", spec := "policyRight", unfollowed := true, recurses := true, apart := false, narrowed := true }
def PolicyRightUptoSaid : Prop := policyRightUptoRow.holds Try.pinned (OpenSpec.upto policyRightSpec)

/-- 'wicketgatelaw23.PolicyShadows', WHERE WHAT IT READS IS OF BULK AT MOST 1048576: true; the input reads as it did. -/
def policyShadowsUptoRow : OpenClaim := { program := "ytiepnnjodmkolaa", sum := "afd5de71df2569fc9f5352f52e0cb9de26df54f7b3de523d99235ba8ea4eeb6f", func := "wicketgate/wicketgatelaw23.PolicyShadows", spec := "policyShadows", unfollowed := true, recurses := true, apart := false, narrowed := true }
def PolicyShadowsUptoSaid : Prop := policyShadowsUptoRow.holds Try.pinned (OpenSpec.upto policyShadowsSpec)

/-- 'wicketgatelaw23.PolicyLess', WHERE WHAT IT READS IS OF BULK AT MOST 1048576: true; the input reads as it did. -/
def policyLessUptoRow : OpenClaim := { program := "ytiepnnjodmkolaa", sum := "afd5de71df2569fc9f5352f52e0cb9de26df54f7b3de523d99235ba8ea4eeb6f", func := "wicketgate/wicketgatelaw23.PolicyLess", spec := "policyLess", unfollowed := true, recurses := true, apart := false, narrowed := true }
def PolicyLessUptoSaid : Prop := policyLessUptoRow.holds Try.pinned (OpenSpec.upto policyLessSpec)

end Rows
end Go.Proofs.Ytiepnnjodmkolaa
