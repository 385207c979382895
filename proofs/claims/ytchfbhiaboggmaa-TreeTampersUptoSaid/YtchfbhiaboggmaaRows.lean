/-
  No cell of these rows narrows 'for every input' (looked for: loops, veiled, ifaces, maps, wideKeys, modest, calm, conditions, laid).
  DERIVED. THE GIVEN ROWS OF THIS SEAT. 4 by the template 'for every input the law returns true; each argument reads behind the call as it read before'; 0 by the template 'total and deterministic' (their statements: YtchfbhiaboggmaaTotals.lean).
  GIVEN WITH THE SEED: the statements are not yours to turn. If you find one false, say at which input.
  Laid BY PROGRAM, IN A SANDBOX (cutbox-rows.mjs): the forced cells as the released guide's own fill.sh prints them over the translation 8f00c7a0465411e4… (all of the seat's roots in one cut). By AI agents, Wed Nov 11 2026. No macro, syntax, notation, axiom, sorry.
-/
import Derived.Test.YtchfbhiaboggmaaChecked
import GoSem.Claim
import GoSem.ClaimJoined
import GoSem.ClaimMapViews
import Derived.JoinedTies
import Derived.KernelRfl
namespace Go.Proofs.Ytchfbhiaboggmaa
/- THE CELL 'sum', in the pinned program and in every row, IS THE sha256 OF THE DUMP (.gsa) THAT YtchfbhiaboggmaaProg.lean LOADS. Nothing in Lean hashes anything: it is a label: what it is worth is what the hold of that sum in a sandbox is worth. -/
noncomputable def Try.pinned : Pinned := { name := "ytchfbhiaboggmaa", sum := "8f00c7a0465411e4d8b0050e2b9f1fdd11e82877b6c11271ce785ac63e33467c", checked := Try.checked }
namespace Rows
def none {H : Type} : Left H := { results := [], args := [] }

/-- 'cellaretlaw18.TreeNone': WHATEVER THE INPUT: true; the input reads as it did. -/
def treeNoneSpec : ChangeSpec := { name := "treeNone", fn := fun _ => fun
  | [d1, d2, d3] => { results := [.lit (.bool true)], args := [d1, d2, d3] }
  | _ => none }
def treeNoneRow : OpenClaim := { program := "ytchfbhiaboggmaa", sum := "8f00c7a0465411e4d8b0050e2b9f1fdd11e82877b6c11271ce785ac63e33467c", func := "cellaret/cellaretlaw18.TreeNone", spec := "treeNone", unfollowed := true, recurses := true, plainKeys := false, apart := false }
def TreeNoneSaid : Prop := treeNoneRow.holds Try.pinned (OpenSpec.ofChange treeNoneSpec)

/-- ITS FALSE NEIGHBOUR: 'it returns false'. Refute it at one input. -/
def treeNoneWrong : ChangeSpec := { name := "treeNone", fn := fun _ => fun
  | [d1, d2, d3] => { results := [.lit (.bool false)], args := [d1, d2, d3] }
  | _ => none }
def TreeNoneWrongFalsely : Prop := treeNoneRow.holds Try.pinned (OpenSpec.ofChange treeNoneWrong)

/-- 'cellaretlaw18.TreeTold': WHATEVER THE INPUT: true; the input reads as it did. -/
def treeToldSpec : ChangeSpec := { name := "treeTold", fn := fun _ => fun
  | [d] => { results := [.lit (.bool true)], args := [d] }
  | _ => none }
def treeToldRow : OpenClaim := { program := "ytchfbhiaboggmaa", sum := "8f00c7a0465411e4d8b0050e2b9f1fdd11e82877b6c11271ce785ac63e33467c", func := "cellaret/cellaretlaw18.TreeTold", spec := "treeTold", unfollowed := true, recurses := true, plainKeys := false, apart := false }
def TreeToldSaid : Prop := treeToldRow.holds Try.pinned (OpenSpec.ofChange treeToldSpec)

/-- ITS FALSE NEIGHBOUR: 'it returns false'. Refute it at one input. -/
def treeToldWrong : ChangeSpec := { name := "treeTold", fn := fun _ => fun
  | [d] => { results := [.lit (.bool false)], args := [d] }
  | _ => none }
def TreeToldWrongFalsely : Prop := treeToldRow.holds Try.pinned (OpenSpec.ofChange treeToldWrong)

/-- 'cellaretlaw18.TreeDoes': WHATEVER THE INPUT: true; the input reads as it did. -/
def treeDoesSpec : ChangeSpec := { name := "treeDoes", fn := fun _ => fun
  | [d1, d2] => { results := [.lit (.bool true)], args := [d1, d2] }
  | _ => none }
def treeDoesRow : OpenClaim := { program := "ytchfbhiaboggmaa", sum := "8f00c7a0465411e4d8b0050e2b9f1fdd11e82877b6c11271ce785ac63e33467c", func := "cellaret/cellaretlaw18.TreeDoes", spec := "treeDoes", unfollowed := true, recurses := true, plainKeys := false, apart := false }
def TreeDoesSaid : Prop := treeDoesRow.holds Try.pinned (OpenSpec.ofChange treeDoesSpec)

/-- ITS FALSE NEIGHBOUR: 'it returns false'. Refute it at one input. -/
def treeDoesWrong : ChangeSpec := { name := "treeDoes", fn := fun _ => fun
  | [d1, d2] => { results := [.lit (.bool false)], args := [d1, d2] }
  | _ => none }
def TreeDoesWrongFalsely : Prop := treeDoesRow.holds Try.pinned (OpenSpec.ofChange treeDoesWrong)

/-- 'cellaretlaw18.TreeTampers': WHATEVER THE INPUT: true; the input reads as it did. -/
def treeTampersSpec : ChangeSpec := { name := "treeTampers", fn := fun _ => fun
  | [d1, d2, d3] => { results := [.lit (.bool true)], args := [d1, d2, d3] }
  | _ => none }
def treeTampersRow : OpenClaim := { program := "ytchfbhiaboggmaa", sum := "8f00c7a0465411e4d8b0050e2b9f1fdd11e82877b6c11271ce785ac63e33467c", func := "cellaret/cellaretlaw18.TreeTampers", spec := "treeTampers", unfollowed := true, recurses := true, plainKeys := false, apart := false }
def TreeTampersSaid : Prop := treeTampersRow.holds Try.pinned (OpenSpec.ofChange treeTampersSpec)

/-- ITS FALSE NEIGHBOUR: 'it returns false'. Refute it at one input. -/
def treeTampersWrong : ChangeSpec := { name := "treeTampers", fn := fun _ => fun
  | [d1, d2, d3] => { results := [.lit (.bool false)], args := [d1, d2, d3] }
  | _ => none }
def TreeTampersWrongFalsely : Prop := treeTampersRow.holds Try.pinned (OpenSpec.ofChange treeTampersWrong)

/- THE SECOND FORM. 'bulk': how many values and letters a reading holds, each counted each time it is reached (what is shared counts as often as it is met; a slice's spare places count too). A statement '..UptoSaid' is the law's where the arguments, and the package variables that the reading takes, are together of bulk at most 1048576: NARROWER than '..Said'. Prove '..Said' where nothing that the law and all that it calls make is longer than what came in: it says more and counts as full. Else prove '..UptoSaid'. A law counts once. -/
mutual
def uptoBulk {H : Type} : DataW H → Nat
  | .lit (.string bytes) => bytes.length + 1
  | .lit _ => 1
  | .nil => 1
  | .ptr d => uptoBulk d + 1
  | .slice elems spare => uptoBulkAll elems + uptoBulkAll spare + 1
  | .agg parts => uptoBulkAll parts + 1
  | .iface _ d => uptoBulk d + 1
  | .map entries => uptoBulkEntries entries + 1
  | .held _ => 1
def uptoBulkAll {H : Type} : List (DataW H) → Nat
  | [] => 0
  | d :: r => uptoBulk d + uptoBulkAll r
def uptoBulkEntries {H : Type} : List (Lit × DataW H) → Nat
  | [] => 0
  | x :: r => uptoBulkEntry x + uptoBulkEntries r
def uptoBulkEntry {H : Type} : Lit × DataW H → Nat
  | (.string bytes, d) => bytes.length + uptoBulk d + 1
  | (_, d) => uptoBulk d + 1
 end
def uptoSmall : (H : Type) → List (DataW H) → Bool := fun _ ds => decide (uptoBulkAll ds ≤ 1048576)
def OpenSpec.upto (s : _root_.Go.ChangeSpec) : _root_.Go.OpenSpec := { _root_.Go.OpenSpec.ofChange s with cond := some uptoSmall }

/-- 'cellaretlaw18.TreeNone', WHERE WHAT IT READS IS OF BULK AT MOST 1048576: true; the input reads as it did. -/
def treeNoneUptoRow : OpenClaim := { program := "ytchfbhiaboggmaa", sum := "8f00c7a0465411e4d8b0050e2b9f1fdd11e82877b6c11271ce785ac63e33467c", func := "cellaret/cellaretlaw18.TreeNone", spec := "treeNone", unfollowed := true, recurses := true, plainKeys := false, apart := false, narrowed := true }
def TreeNoneUptoSaid : Prop := treeNoneUptoRow.holds Try.pinned (OpenSpec.upto treeNoneSpec)

/-- 'cellaretlaw18.TreeTold', WHERE WHAT IT READS IS OF BULK AT MOST 1048576: true; the input reads as it did. -/
def treeToldUptoRow : OpenClaim := { program := "ytchfbhiaboggmaa", sum := "8f00c7a0465411e4d8b0050e2b9f1fdd11e82877b6c11271ce785ac63e33467c", func := "cellaret/cellaretlaw18.TreeTold", spec := "treeTold", unfollowed := true, recurses := true, plainKeys := false, apart := false, narrowed := true }
def TreeToldUptoSaid : Prop := treeToldUptoRow.holds Try.pinned (OpenSpec.upto treeToldSpec)

/-- 'cellaretlaw18.TreeDoes', WHERE WHAT IT READS IS OF BULK AT MOST 1048576: true; the input reads as it did. -/
def treeDoesUptoRow : OpenClaim := { program := "ytchfbhiaboggmaa", sum := "8f00c7a0465411e4d8b0050e2b9f1fdd11e82877b6c11271ce785ac63e33467c", func := "cellaret/cellaretlaw18.TreeDoes", spec := "treeDoes", unfollowed := true, recurses := true, plainKeys := false, apart := false, narrowed := true }
def TreeDoesUptoSaid : Prop := treeDoesUptoRow.holds Try.pinned (OpenSpec.upto treeDoesSpec)

/-- 'cellaretlaw18.TreeTampers', WHERE WHAT IT READS IS OF BULK AT MOST 1048576: true; the input reads as it did. -/
def treeTampersUptoRow : OpenClaim := { program := "ytchfbhiaboggmaa", sum := "8f00c7a0465411e4d8b0050e2b9f1fdd11e82877b6c11271ce785ac63e33467c", func := "cellaret/cellaretlaw18.TreeTampers", spec := "treeTampers", unfollowed := true, recurses := true, plainKeys := false, apart := false, narrowed := true }
def TreeTampersUptoSaid : Prop := treeTampersUptoRow.holds Try.pinned (OpenSpec.upto treeTampersSpec)

end Rows
end Go.Proofs.Ytchfbhiaboggmaa
