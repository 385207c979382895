/-
  No cell of these rows narrows 'for every input' (looked for: loops, veiled, ifaces, maps, wideKeys, modest, calm, conditions, laid).
  DERIVED. THE GIVEN ROWS OF THIS SEAT. 4 by the template 'for every input the law returns true; each argument reads behind the call as it read before'; 0 by the template 'total and deterministic' (their statements: YtdpmildhhcdohaaTotals.lean).
  GIVEN WITH THE SEED: the statements are not yours to turn. If you find one false, say at which input.
  Laid BY PROGRAM, IN A SANDBOX (cutbox-rows.mjs): the forced cells as the released guide's own fill.sh prints them over the translation fff37212d229ade5… (all of the seat's roots in one cut). By AI agents, Wed Nov 11 2026. No macro, syntax, notation, axiom, sorry.
-/
import Derived.Test.YtdpmildhhcdohaaChecked
import GoSem.Claim
import GoSem.ClaimJoined
import GoSem.ClaimMapViews
import Derived.JoinedTies
import Derived.KernelRfl
namespace Go.Proofs.Ytdpmildhhcdohaa
/- THE CELL 'sum', in the pinned program and in every row, IS THE sha256 OF THE DUMP (.gsa) THAT YtdpmildhhcdohaaProg.lean LOADS. Nothing in Lean hashes anything: it is a label: what it is worth is what the hold of that sum in a sandbox is worth. -/
noncomputable def Try.pinned : Pinned := { name := "ytdpmildhhcdohaa", sum := "fff37212d229ade564000acf6af27071d526cae32f0c4399c6a639ca1761c440", checked := Try.checked }
namespace Rows
def none {H : Type} : Left H := { results := [], args := [] }

/-- 'cellaretlaw16.OverDoes': WHATEVER THE INPUT: true; the input reads as it did. -/
def overDoesSpec : ChangeSpec := { name := "overDoes", fn := fun _ => fun
  | [d] => { results := [.lit (.bool true)], args := [d] }
  | _ => none }
def overDoesRow : OpenClaim := { program := "ytdpmildhhcdohaa", sum := "fff37212d229ade564000acf6af27071d526cae32f0c4399c6a639ca1761c440", func := "cellaret/cellaretlaw16.OverDoes", spec := "overDoes", unfollowed := true, recurses := true, apart := false }
def OverDoesSaid : Prop := overDoesRow.holds Try.pinned (OpenSpec.ofChange overDoesSpec)

/-- ITS FALSE NEIGHBOUR: 'it returns false'. Refute it at one input. -/
def overDoesWrong : ChangeSpec := { name := "overDoes", fn := fun _ => fun
  | [d] => { results := [.lit (.bool false)], args := [d] }
  | _ => none }
def OverDoesWrongFalsely : Prop := overDoesRow.holds Try.pinned (OpenSpec.ofChange overDoesWrong)

/-- 'cellaretlaw16.OverApart': WHATEVER THE INPUT: true; the input reads as it did. -/
def overApartSpec : ChangeSpec := { name := "overApart", fn := fun _ => fun
  | [d1, d2] => { results := [.lit (.bool true)], args := [d1, d2] }
  | _ => none }
def overApartRow : OpenClaim := { program := "ytdpmildhhcdohaa", sum := "fff37212d229ade564000acf6af27071d526cae32f0c4399c6a639ca1761c440", func := "cellaret/cellaretlaw16.OverApart", spec := "overApart", unfollowed := true, recurses := true, apart := false }
def OverApartSaid : Prop := overApartRow.holds Try.pinned (OpenSpec.ofChange overApartSpec)

/-- ITS FALSE NEIGHBOUR: 'it returns false'. Refute it at one input. -/
def overApartWrong : ChangeSpec := { name := "overApart", fn := fun _ => fun
  | [d1, d2] => { results := [.lit (.bool false)], args := [d1, d2] }
  | _ => none }
def OverApartWrongFalsely : Prop := overApartRow.holds Try.pinned (OpenSpec.ofChange overApartWrong)

/-- 'cellaretlaw16.OverBoth': WHATEVER THE INPUT: true; the input reads as it did. -/
def overBothSpec : ChangeSpec := { name := "overBoth", fn := fun _ => fun
  | [d1, d2] => { results := [.lit (.bool true)], args := [d1, d2] }
  | _ => none }
def overBothRow : OpenClaim := { program := "ytdpmildhhcdohaa", sum := "fff37212d229ade564000acf6af27071d526cae32f0c4399c6a639ca1761c440", func := "cellaret/cellaretlaw16.OverBoth", spec := "overBoth", unfollowed := true, recurses := true, apart := false }
def OverBothSaid : Prop := overBothRow.holds Try.pinned (OpenSpec.ofChange overBothSpec)

/-- ITS FALSE NEIGHBOUR: 'it returns false'. Refute it at one input. -/
def overBothWrong : ChangeSpec := { name := "overBoth", fn := fun _ => fun
  | [d1, d2] => { results := [.lit (.bool false)], args := [d1, d2] }
  | _ => none }
def OverBothWrongFalsely : Prop := overBothRow.holds Try.pinned (OpenSpec.ofChange overBothWrong)

/-- 'cellaretlaw16.OverNone': WHATEVER THE INPUT: true; the input reads as it did. -/
def overNoneSpec : ChangeSpec := { name := "overNone", fn := fun _ => fun
  | [d] => { results := [.lit (.bool true)], args := [d] }
  | _ => none }
def overNoneRow : OpenClaim := { program := "ytdpmildhhcdohaa", sum := "fff37212d229ade564000acf6af27071d526cae32f0c4399c6a639ca1761c440", func := "cellaret/cellaretlaw16.OverNone", spec := "overNone", unfollowed := true, recurses := true, apart := false }
def OverNoneSaid : Prop := overNoneRow.holds Try.pinned (OpenSpec.ofChange overNoneSpec)

/-- ITS FALSE NEIGHBOUR: 'it returns false'. Refute it at one input. -/
def overNoneWrong : ChangeSpec := { name := "overNone", fn := fun _ => fun
  | [d] => { results := [.lit (.bool false)], args := [d] }
  | _ => none }
def OverNoneWrongFalsely : Prop := overNoneRow.holds Try.pinned (OpenSpec.ofChange overNoneWrong)

/- THE SECOND FORM. 'bulk': how many values and letters a reading holds, each counted each time it is reached (what is shared counts as often as it is met; a slice's spare places count too). A statement '..UptoSaid' is the law's where the arguments, and the package variables that the reading takes, are together of bulk at most 1048576: NARROWER than '..Said'. Prove '..Said' where nothing that the law and all that it calls make is longer than what came in: it says more and counts as full. Else prove '..UptoSaid'. A law counts once. -/
mutual
def uptoBulk {H : Type} : DataW H → Nat
  | .lit (.string bytes) => bytes.length + 1
  | .lit _ => 1
  | .nil => 1
  | .ptr d => uptoBulk d + 1
  | .slice elems spare => uptoBulkAll elems + uptoBulkAll spare + 1
  | .agg parts => uptoBulkAll parts + 1
  | .iface _ d => uptoBulk d + 1
  | .map entries => uptoBulkEntries entries + 1
  | .held _ => 1
def uptoBulkAll {H : Type} : List (DataW H) → Nat
  | [] => 0
  | d :: r => uptoBulk d + uptoBulkAll r
def uptoBulkEntries {H : Type} : List (Lit × DataW H) → Nat
  | [] => 0
  | x :: r => uptoBulkEntry x + uptoBulkEntries r
def uptoBulkEntry {H : Type} : Lit × DataW H → Nat
  | (.string bytes, d) => bytes.length + uptoBulk d + 1
  | (_, d) => uptoBulk d + 1
 end
def uptoSmall : (H : Type) → List (DataW H) → Bool := fun _ ds => decide (uptoBulkAll ds ≤ 1048576)
def OpenSpec.upto (s : _root_.Go.ChangeSpec) : _root_.Go.OpenSpec := { _root_.Go.OpenSpec.ofChange s with cond := some uptoSmall }

/-- 'cellaretlaw16.OverDoes', WHERE WHAT IT READS IS OF BULK AT MOST 1048576: true; the input reads as it did. -/
def overDoesUptoRow : OpenClaim := { program := "ytdpmildhhcdohaa", sum := "fff37212d229ade564000acf6af27071d526cae32f0c4399c6a639ca1761c440", func := "cellaret/cellaretlaw16.OverDoes", spec := "overDoes", unfollowed := true, recurses := true, apart := false, narrowed := true }
def OverDoesUptoSaid : Prop := overDoesUptoRow.holds Try.pinned (OpenSpec.upto overDoesSpec)

/-- 'cellaretlaw16.OverApart', WHERE WHAT IT READS IS OF BULK AT MOST 1048576: true; the input reads as it did. -/
def overApartUptoRow : OpenClaim := { program := "ytdpmildhhcdohaa", sum := "fff37212d229ade564000acf6af27071d526cae32f0c4399c6a639ca1761c440", func := "cellaret/cellaretlaw16.OverApart", spec := "overApart", unfollowed := true, recurses := true, apart := false, narrowed := true }
def OverApartUptoSaid : Prop := overApartUptoRow.holds Try.pinned (OpenSpec.upto overApartSpec)

/-- 'cellaretlaw16.OverBoth', WHERE WHAT IT READS IS OF BULK AT MOST 1048576: true; the input reads as it did. -/
def overBothUptoRow : OpenClaim := { program := "ytdpmildhhcdohaa", sum := "fff37212d229ade564000acf6af27071d526cae32f0c4399c6a639ca1761c440", func := "cellaret/cellaretlaw16.OverBoth", spec := "overBoth", unfollowed := true, recurses := true, apart := false, narrowed := true }
def OverBothUptoSaid : Prop := overBothUptoRow.holds Try.pinned (OpenSpec.upto overBothSpec)

/-- 'cellaretlaw16.OverNone', WHERE WHAT IT READS IS OF BULK AT MOST 1048576: true; the input reads as it did. -/
def overNoneUptoRow : OpenClaim := { program := "ytdpmildhhcdohaa", sum := "fff37212d229ade564000acf6af27071d526cae32f0c4399c6a639ca1761c440", func := "cellaret/cellaretlaw16.OverNone", spec := "overNone", unfollowed := true, recurses := true, apart := false, narrowed := true }
def OverNoneUptoSaid : Prop := overNoneUptoRow.holds Try.pinned (OpenSpec.upto overNoneSpec)

end Rows
end Go.Proofs.Ytdpmildhhcdohaa
