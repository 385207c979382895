/-
  No cell of these rows narrows 'for every input' (looked for: loops, veiled, ifaces, maps, wideKeys, modest, calm, conditions, laid).
  DERIVED. THE GIVEN ROWS OF THIS SEAT. 4 by the template 'for every input the law returns true; each argument reads behind the call as it read before'; 0 by the template 'total and deterministic' (their statements: YtgepelnaibjllaaTotals.lean).
  GIVEN WITH THE SEED: the statements are not yours to turn. If you find one false, say at which input.
  Laid BY PROGRAM, IN A SANDBOX (cutbox-rows.mjs): the forced cells as the released guide's own fill.sh prints them over the translation 11a33cc7c4c20533… (all of the seat's roots in one cut). By AI agents, Wed Nov 11 2026. No macro, syntax, notation, axiom, sorry.
-/
import Derived.Test.YtgepelnaibjllaaChecked
import GoSem.Claim
import GoSem.ClaimJoined
import GoSem.ClaimMapViews
import Derived.JoinedTies
import Derived.KernelRfl
namespace Go.Proofs.Ytgepelnaibjllaa
/- THE CELL 'sum', in the pinned program and in every row, IS THE sha256 OF THE DUMP (.gsa) THAT YtgepelnaibjllaaProg.lean LOADS. Nothing in Lean hashes anything: it is a label: what it is worth is what the hold of that sum in a sandbox is worth. -/
noncomputable def Try.pinned : Pinned := { name := "ytgepelnaibjllaa", sum := "11a33cc7c4c205332c41924854cda321662f1e198f3e04820457b06ada6eadfa", checked := Try.checked }
namespace Rows
def none {H : Type} : Left H := { results := [], args := [] }

/-- 'cellaretlaw32.PlanParts': WHATEVER THE INPUT: true; the input reads as it did. -/
def planPartsSpec : ChangeSpec := { name := "planParts", fn := fun _ => fun
  | [d] => { results := [.lit (.bool true)], args := [d] }
  | _ => none }
def planPartsRow : OpenClaim := { program := "ytgepelnaibjllaa", sum := "11a33cc7c4c205332c41924854cda321662f1e198f3e04820457b06ada6eadfa", func := "cellaret/cellaretlaw32.PlanParts", spec := "planParts", unfollowed := true, recurses := true, apart := false }
def PlanPartsSaid : Prop := planPartsRow.holds Try.pinned (OpenSpec.ofChange planPartsSpec)

/-- ITS FALSE NEIGHBOUR: 'it returns false'. Refute it at one input. -/
def planPartsWrong : ChangeSpec := { name := "planParts", fn := fun _ => fun
  | [d] => { results := [.lit (.bool false)], args := [d] }
  | _ => none }
def PlanPartsWrongFalsely : Prop := planPartsRow.holds Try.pinned (OpenSpec.ofChange planPartsWrong)

/-- 'cellaretlaw32.PlanOf': WHATEVER THE INPUT: true; the input reads as it did. -/
def planOfSpec : ChangeSpec := { name := "planOf", fn := fun _ => fun
  | [d] => { results := [.lit (.bool true)], args := [d] }
  | _ => none }
def planOfRow : OpenClaim := { program := "ytgepelnaibjllaa", sum := "11a33cc7c4c205332c41924854cda321662f1e198f3e04820457b06ada6eadfa", func := "cellaret/cellaretlaw32.PlanOf", spec := "planOf", unfollowed := true, recurses := true, apart := false }
def PlanOfSaid : Prop := planOfRow.holds Try.pinned (OpenSpec.ofChange planOfSpec)

/-- ITS FALSE NEIGHBOUR: 'it returns false'. Refute it at one input. -/
def planOfWrong : ChangeSpec := { name := "planOf", fn := fun _ => fun
  | [d] => { results := [.lit (.bool false)], args := [d] }
  | _ => none }
def PlanOfWrongFalsely : Prop := planOfRow.holds Try.pinned (OpenSpec.ofChange planOfWrong)

/-- 'cellaretlaw32.PlanApplies': WHATEVER THE INPUT: true; the input reads as it did. -/
def planAppliesSpec : ChangeSpec := { name := "planApplies", fn := fun _ => fun
  | [d1, d2, d3] => { results := [.lit (.bool true)], args := [d1, d2, d3] }
  | _ => none }
def planAppliesRow : OpenClaim := { program := "ytgepelnaibjllaa", sum := "11a33cc7c4c205332c41924854cda321662f1e198f3e04820457b06ada6eadfa", func := "cellaret/cellaretlaw32.PlanApplies", spec := "planApplies", unfollowed := true, recurses := true, apart := false }
def PlanAppliesSaid : Prop := planAppliesRow.holds Try.pinned (OpenSpec.ofChange planAppliesSpec)

/-- ITS FALSE NEIGHBOUR: 'it returns false'. Refute it at one input. -/
def planAppliesWrong : ChangeSpec := { name := "planApplies", fn := fun _ => fun
  | [d1, d2, d3] => { results := [.lit (.bool false)], args := [d1, d2, d3] }
  | _ => none }
def PlanAppliesWrongFalsely : Prop := planAppliesRow.holds Try.pinned (OpenSpec.ofChange planAppliesWrong)

/-- 'cellaretlaw32.PlanAlike': WHATEVER THE INPUT: true; the input reads as it did. -/
def planAlikeSpec : ChangeSpec := { name := "planAlike", fn := fun _ => fun
  | [d1, d2, d3] => { results := [.lit (.bool true)], args := [d1, d2, d3] }
  | _ => none }
def planAlikeRow : OpenClaim := { program := "ytgepelnaibjllaa", sum := "11a33cc7c4c205332c41924854cda321662f1e198f3e04820457b06ada6eadfa", func := "cellaret/cellaretlaw32.PlanAlike", spec := "planAlike", unfollowed := true, recurses := true, apart := false }
def PlanAlikeSaid : Prop := planAlikeRow.holds Try.pinned (OpenSpec.ofChange planAlikeSpec)

/-- ITS FALSE NEIGHBOUR: 'it returns false'. Refute it at one input. -/
def planAlikeWrong : ChangeSpec := { name := "planAlike", fn := fun _ => fun
  | [d1, d2, d3] => { results := [.lit (.bool false)], args := [d1, d2, d3] }
  | _ => none }
def PlanAlikeWrongFalsely : Prop := planAlikeRow.holds Try.pinned (OpenSpec.ofChange planAlikeWrong)

/- THE SECOND FORM. 'bulk': how many values and letters a reading holds, each counted each time it is reached (what is shared counts as often as it is met; a slice's spare places count too). A statement '..UptoSaid' is the law's where the arguments, and the package variables that the reading takes, are together of bulk at most 1048576: NARROWER than '..Said'. Prove '..Said' where nothing that the law and all that it calls make is longer than what came in: it says more and counts as full. Else prove '..UptoSaid'. A law counts once. -/
mutual
def uptoBulk {H : Type} : DataW H → Nat
  | .lit (.string bytes) => bytes.length + 1
  | .lit _ => 1
  | .nil => 1
  | .ptr d => uptoBulk d + 1
  | .slice elems spare => uptoBulkAll elems + uptoBulkAll spare + 1
  | .agg parts => uptoBulkAll parts + 1
  | .iface _ d => uptoBulk d + 1
  | .map entries => uptoBulkEntries entries + 1
  | .held _ => 1
def uptoBulkAll {H : Type} : List (DataW H) → Nat
  | [] => 0
  | d :: r => uptoBulk d + uptoBulkAll r
def uptoBulkEntries {H : Type} : List (Lit × DataW H) → Nat
  | [] => 0
  | x :: r => uptoBulkEntry x + uptoBulkEntries r
def uptoBulkEntry {H : Type} : Lit × DataW H → Nat
  | (.string bytes, d) => bytes.length + uptoBulk d + 1
  | (_, d) => uptoBulk d + 1
 end
def uptoSmall : (H : Type) → List (DataW H) → Bool := fun _ ds => decide (uptoBulkAll ds ≤ 1048576)
def OpenSpec.upto (s : _root_.Go.ChangeSpec) : _root_.Go.OpenSpec := { _root_.Go.OpenSpec.ofChange s with cond := some uptoSmall }

/-- 'cellaretlaw32.PlanParts', WHERE WHAT IT READS IS OF BULK AT MOST 1048576: true; the input reads as it did. -/
def planPartsUptoRow : OpenClaim := { program := "ytgepelnaibjllaa", sum := "11a33cc7c4c205332c41924854cda321662f1e198f3e04820457b06ada6eadfa", func := "cellaret/cellaretlaw32.PlanParts", spec := "planParts", unfollowed := true, recurses := true, apart := false, narrowed := true }
def PlanPartsUptoSaid : Prop := planPartsUptoRow.holds Try.pinned (OpenSpec.upto planPartsSpec)

/-- 'cellaretlaw32.PlanOf', WHERE WHAT IT READS IS OF BULK AT MOST 1048576: true; the input reads as it did. -/
def planOfUptoRow : OpenClaim := { program := "ytgepelnaibjllaa", sum := "11a33cc7c4c205332c41924854cda321662f1e198f3e04820457b06ada6eadfa", func := "cellaret/cellaretlaw32.PlanOf", spec := "planOf", unfollowed := true, recurses := true, apart := false, narrowed := true }
def PlanOfUptoSaid : Prop := planOfUptoRow.holds Try.pinned (OpenSpec.upto planOfSpec)

/-- 'cellaretlaw32.PlanApplies', WHERE WHAT IT READS IS OF BULK AT MOST 1048576: true; the input reads as it did. -/
def planAppliesUptoRow : OpenClaim := { program := "ytgepelnaibjllaa", sum := "11a33cc7c4c205332c41924854cda321662f1e198f3e04820457b06ada6eadfa", func := "cellaret/cellaretlaw32.PlanApplies", spec := "planApplies", unfollowed := true, recurses := true, apart := false, narrowed := true }
def PlanAppliesUptoSaid : Prop := planAppliesUptoRow.holds Try.pinned (OpenSpec.upto planAppliesSpec)

/-- 'cellaretlaw32.PlanAlike', WHERE WHAT IT READS IS OF BULK AT MOST 1048576: true; the input reads as it did. -/
def planAlikeUptoRow : OpenClaim := { program := "ytgepelnaibjllaa", sum := "11a33cc7c4c205332c41924854cda321662f1e198f3e04820457b06ada6eadfa", func := "cellaret/cellaretlaw32.PlanAlike", spec := "planAlike", unfollowed := true, recurses := true, apart := false, narrowed := true }
def PlanAlikeUptoSaid : Prop := planAlikeUptoRow.holds Try.pinned (OpenSpec.upto planAlikeSpec)

end Rows
end Go.Proofs.Ytgepelnaibjllaa
