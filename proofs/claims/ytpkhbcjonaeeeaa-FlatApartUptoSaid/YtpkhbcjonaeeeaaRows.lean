/-
  No cell of these rows narrows 'for every input' (looked for: loops, veiled, ifaces, maps, wideKeys, modest, calm, conditions, laid).
  DERIVED. THE GIVEN ROWS OF THIS SEAT. 4 by the template 'for every input the law returns true; each argument reads behind the call as it read before'; 0 by the template 'total and deterministic' (their statements: YtpkhbcjonaeeeaaTotals.lean).
  GIVEN WITH THE SEED: the statements are not yours to turn. If you find one false, say at which input.
  Laid BY PROGRAM, IN A SANDBOX (cutbox-rows.mjs): the forced cells as the released guide's own fill.sh prints them over the translation 66dba93d83b8a9b4… (all of the seat's roots in one cut). By AI agents, Wed Nov 11 2026. No macro, syntax, notation, axiom, sorry.
-/
import Derived.Test.YtpkhbcjonaeeeaaChecked
import GoSem.Claim
import GoSem.ClaimJoined
import GoSem.ClaimMapViews
import Derived.JoinedTies
import Derived.KernelRfl
namespace Go.Proofs.Ytpkhbcjonaeeeaa
/- THE CELL 'sum', in the pinned program and in every row, IS THE sha256 OF THE DUMP (.gsa) THAT YtpkhbcjonaeeeaaProg.lean LOADS. Nothing in Lean hashes anything: it is a label: what it is worth is what the hold of that sum in a sandbox is worth. -/
noncomputable def Try.pinned : Pinned := { name := "ytpkhbcjonaeeeaa", sum := "66dba93d83b8a9b4f36e45a1c83317526dfd20d5b4797e14d7fba39734ee63dc", checked := Try.checked }
namespace Rows
def none {H : Type} : Left H := { results := [], args := [] }

/-- 'cellaretlaw26.FlatOne': WHATEVER THE INPUT: true; the input reads as it did. -/
def flatOneSpec : ChangeSpec := { name := "flatOne", fn := fun _ => fun
  | [d1, d2] => { results := [.lit (.bool true)], args := [d1, d2] }
  | _ => none }
def flatOneRow : OpenClaim := { program := "ytpkhbcjonaeeeaa", sum := "66dba93d83b8a9b4f36e45a1c83317526dfd20d5b4797e14d7fba39734ee63dc", func := "cellaret/cellaretlaw26.FlatOne", spec := "flatOne", inPlace := ["internal/abi.NoEscape", "internal/bytealg.MakeNoZero"], unfollowed := true, recurses := true, apart := false }
def FlatOneSaid : Prop := flatOneRow.holds Try.pinned (OpenSpec.ofChange flatOneSpec)

/-- ITS FALSE NEIGHBOUR: 'it returns false'. Refute it at one input. -/
def flatOneWrong : ChangeSpec := { name := "flatOne", fn := fun _ => fun
  | [d1, d2] => { results := [.lit (.bool false)], args := [d1, d2] }
  | _ => none }
def FlatOneWrongFalsely : Prop := flatOneRow.holds Try.pinned (OpenSpec.ofChange flatOneWrong)

/-- 'cellaretlaw26.FlatAll': WHATEVER THE INPUT: true; the input reads as it did. -/
def flatAllSpec : ChangeSpec := { name := "flatAll", fn := fun _ => fun
  | [d] => { results := [.lit (.bool true)], args := [d] }
  | _ => none }
def flatAllRow : OpenClaim := { program := "ytpkhbcjonaeeeaa", sum := "66dba93d83b8a9b4f36e45a1c83317526dfd20d5b4797e14d7fba39734ee63dc", func := "cellaret/cellaretlaw26.FlatAll", spec := "flatAll", inPlace := ["internal/abi.NoEscape", "internal/bytealg.MakeNoZero"], unfollowed := true, recurses := true, apart := false }
def FlatAllSaid : Prop := flatAllRow.holds Try.pinned (OpenSpec.ofChange flatAllSpec)

/-- ITS FALSE NEIGHBOUR: 'it returns false'. Refute it at one input. -/
def flatAllWrong : ChangeSpec := { name := "flatAll", fn := fun _ => fun
  | [d] => { results := [.lit (.bool false)], args := [d] }
  | _ => none }
def FlatAllWrongFalsely : Prop := flatAllRow.holds Try.pinned (OpenSpec.ofChange flatAllWrong)

/-- 'cellaretlaw26.FlatDoes': WHATEVER THE INPUT: true; the input reads as it did. -/
def flatDoesSpec : ChangeSpec := { name := "flatDoes", fn := fun _ => fun
  | [d1, d2] => { results := [.lit (.bool true)], args := [d1, d2] }
  | _ => none }
def flatDoesRow : OpenClaim := { program := "ytpkhbcjonaeeeaa", sum := "66dba93d83b8a9b4f36e45a1c83317526dfd20d5b4797e14d7fba39734ee63dc", func := "cellaret/cellaretlaw26.FlatDoes", spec := "flatDoes", inPlace := ["internal/abi.NoEscape", "internal/bytealg.MakeNoZero"], unfollowed := true, recurses := true, apart := false }
def FlatDoesSaid : Prop := flatDoesRow.holds Try.pinned (OpenSpec.ofChange flatDoesSpec)

/-- ITS FALSE NEIGHBOUR: 'it returns false'. Refute it at one input. -/
def flatDoesWrong : ChangeSpec := { name := "flatDoes", fn := fun _ => fun
  | [d1, d2] => { results := [.lit (.bool false)], args := [d1, d2] }
  | _ => none }
def FlatDoesWrongFalsely : Prop := flatDoesRow.holds Try.pinned (OpenSpec.ofChange flatDoesWrong)

/-- 'cellaretlaw26.FlatApart': WHATEVER THE INPUT: true; the input reads as it did. -/
def flatApartSpec : ChangeSpec := { name := "flatApart", fn := fun _ => fun
  | [d1, d2, d3] => { results := [.lit (.bool true)], args := [d1, d2, d3] }
  | _ => none }
def flatApartRow : OpenClaim := { program := "ytpkhbcjonaeeeaa", sum := "66dba93d83b8a9b4f36e45a1c83317526dfd20d5b4797e14d7fba39734ee63dc", func := "cellaret/cellaretlaw26.FlatApart", spec := "flatApart", inPlace := ["internal/abi.NoEscape", "internal/bytealg.MakeNoZero"], unfollowed := true, recurses := true, apart := false }
def FlatApartSaid : Prop := flatApartRow.holds Try.pinned (OpenSpec.ofChange flatApartSpec)

/-- ITS FALSE NEIGHBOUR: 'it returns false'. Refute it at one input. -/
def flatApartWrong : ChangeSpec := { name := "flatApart", fn := fun _ => fun
  | [d1, d2, d3] => { results := [.lit (.bool false)], args := [d1, d2, d3] }
  | _ => none }
def FlatApartWrongFalsely : Prop := flatApartRow.holds Try.pinned (OpenSpec.ofChange flatApartWrong)

/- THE SECOND FORM. 'bulk': how many values and letters a reading holds, each counted each time it is reached (what is shared counts as often as it is met; a slice's spare places count too). A statement '..UptoSaid' is the law's where the arguments, and the package variables that the reading takes, are together of bulk at most 1048576: NARROWER than '..Said'. Prove '..Said' where nothing that the law and all that it calls make is longer than what came in: it says more and counts as full. Else prove '..UptoSaid'. A law counts once. -/
mutual
def uptoBulk {H : Type} : DataW H → Nat
  | .lit (.string bytes) => bytes.length + 1
  | .lit _ => 1
  | .nil => 1
  | .ptr d => uptoBulk d + 1
  | .slice elems spare => uptoBulkAll elems + uptoBulkAll spare + 1
  | .agg parts => uptoBulkAll parts + 1
  | .iface _ d => uptoBulk d + 1
  | .map entries => uptoBulkEntries entries + 1
  | .held _ => 1
def uptoBulkAll {H : Type} : List (DataW H) → Nat
  | [] => 0
  | d :: r => uptoBulk d + uptoBulkAll r
def uptoBulkEntries {H : Type} : List (Lit × DataW H) → Nat
  | [] => 0
  | x :: r => uptoBulkEntry x + uptoBulkEntries r
def uptoBulkEntry {H : Type} : Lit × DataW H → Nat
  | (.string bytes, d) => bytes.length + uptoBulk d + 1
  | (_, d) => uptoBulk d + 1
 end
def uptoSmall : (H : Type) → List (DataW H) → Bool := fun _ ds => decide (uptoBulkAll ds ≤ 1048576)
def OpenSpec.upto (s : _root_.Go.ChangeSpec) : _root_.Go.OpenSpec := { _root_.Go.OpenSpec.ofChange s with cond := some uptoSmall }

/-- 'cellaretlaw26.FlatOne', WHERE WHAT IT READS IS OF BULK AT MOST 1048576: true; the input reads as it did. -/
def flatOneUptoRow : OpenClaim := { program := "ytpkhbcjonaeeeaa", sum := "66dba93d83b8a9b4f36e45a1c83317526dfd20d5b4797e14d7fba39734ee63dc", func := "cellaret/cellaretlaw26.FlatOne", spec := "flatOne", inPlace := ["internal/abi.NoEscape", "internal/bytealg.MakeNoZero"], unfollowed := true, recurses := true, apart := false, narrowed := true }
def FlatOneUptoSaid : Prop := flatOneUptoRow.holds Try.pinned (OpenSpec.upto flatOneSpec)

/-- 'cellaretlaw26.FlatAll', WHERE WHAT IT READS IS OF BULK AT MOST 1048576: true; the input reads as it did. -/
def flatAllUptoRow : OpenClaim := { program := "ytpkhbcjonaeeeaa", sum := "66dba93d83b8a9b4f36e45a1c83317526dfd20d5b4797e14d7fba39734ee63dc", func := "cellaret/cellaretlaw26.FlatAll", spec := "flatAll", inPlace := ["internal/abi.NoEscape", "internal/bytealg.MakeNoZero"], unfollowed := true, recurses := true, apart := false, narrowed := true }
def FlatAllUptoSaid : Prop := flatAllUptoRow.holds Try.pinned (OpenSpec.upto flatAllSpec)

/-- 'cellaretlaw26.FlatDoes', WHERE WHAT IT READS IS OF BULK AT MOST 1048576: true; the input reads as it did. -/
def flatDoesUptoRow : OpenClaim := { program := "ytpkhbcjonaeeeaa", sum := "66dba93d83b8a9b4f36e45a1c83317526dfd20d5b4797e14d7fba39734ee63dc", func := "cellaret/cellaretlaw26.FlatDoes", spec := "flatDoes", inPlace := ["internal/abi.NoEscape", "internal/bytealg.MakeNoZero"], unfollowed := true, recurses := true, apart := false, narrowed := true }
def FlatDoesUptoSaid : Prop := flatDoesUptoRow.holds Try.pinned (OpenSpec.upto flatDoesSpec)

/-- 'cellaretlaw26.FlatApart', WHERE WHAT IT READS IS OF BULK AT MOST 1048576: true; the input reads as it did. -/
def flatApartUptoRow : OpenClaim := { program := "ytpkhbcjonaeeeaa", sum := "66dba93d83b8a9b4f36e45a1c83317526dfd20d5b4797e14d7fba39734ee63dc", func := "cellaret/cellaretlaw26.FlatApart", spec := "flatApart", inPlace := ["internal/abi.NoEscape", "internal/bytealg.MakeNoZero"], unfollowed := true, recurses := true, apart := false, narrowed := true }
def FlatApartUptoSaid : Prop := flatApartUptoRow.holds Try.pinned (OpenSpec.upto flatApartSpec)

end Rows
end Go.Proofs.Ytpkhbcjonaeeeaa
