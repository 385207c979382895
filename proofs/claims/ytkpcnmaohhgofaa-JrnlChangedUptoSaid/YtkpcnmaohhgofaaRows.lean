/-
  No cell of these rows narrows 'for every input' (looked for: loops, veiled, ifaces, maps, wideKeys, modest, calm, conditions, laid).
  DERIVED. THE GIVEN ROWS OF THIS SEAT. 5 by the template 'for every input the law returns true; each argument reads behind the call as it read before'; 0 by the template 'total and deterministic' (their statements: YtkpcnmaohhgofaaTotals.lean).
  GIVEN WITH THE SEED: the statements are not yours to turn. If you find one false, say at which input.
  Laid BY PROGRAM, IN A SANDBOX (cutbox-rows.mjs): the forced cells as the released guide's own fill.sh prints them over the translation fd1337a162ce9714… (all of the seat's roots in one cut). By AI agents, Wed Nov 11 2026. No macro, syntax, notation, axiom, sorry.
-/
import Derived.Test.YtkpcnmaohhgofaaChecked
import GoSem.Claim
import GoSem.ClaimJoined
import GoSem.ClaimMapViews
import Derived.JoinedTies
import Derived.KernelRfl
namespace Go.Proofs.Ytkpcnmaohhgofaa
/- THE CELL 'sum', in the pinned program and in every row, IS THE sha256 OF THE DUMP (.gsa) THAT YtkpcnmaohhgofaaProg.lean LOADS. Nothing in Lean hashes anything: it is a label: what it is worth is what the hold of that sum in a sandbox is worth. -/
noncomputable def Try.pinned : Pinned := { name := "ytkpcnmaohhgofaa", sum := "fd1337a162ce9714bcff0b6a82cd0f8376b3d18d104c5b5efd5c50d6eb7ea082", checked := Try.checked }
namespace Rows
def none {H : Type} : Left H := { results := [], args := [] }

/-- 'cellaretlaw15.JrnlAppends': WHATEVER THE INPUT: true; the input reads as it did. -/
def jrnlAppendsSpec : ChangeSpec := { name := "jrnlAppends", fn := fun _ => fun
  | [d] => { results := [.lit (.bool true)], args := [d] }
  | _ => none }
def jrnlAppendsRow : OpenClaim := { program := "ytkpcnmaohhgofaa", sum := "fd1337a162ce9714bcff0b6a82cd0f8376b3d18d104c5b5efd5c50d6eb7ea082", func := "cellaret/cellaretlaw15.JrnlAppends", spec := "jrnlAppends", inPlace := ["internal/abi.NoEscape", "internal/bytealg.MakeNoZero"], unfollowed := true, recurses := true, plainKeys := false, apart := false }
def JrnlAppendsSaid : Prop := jrnlAppendsRow.holds Try.pinned (OpenSpec.ofChange jrnlAppendsSpec)

/-- ITS FALSE NEIGHBOUR: 'it returns false'. Refute it at one input. -/
def jrnlAppendsWrong : ChangeSpec := { name := "jrnlAppends", fn := fun _ => fun
  | [d] => { results := [.lit (.bool false)], args := [d] }
  | _ => none }
def JrnlAppendsWrongFalsely : Prop := jrnlAppendsRow.holds Try.pinned (OpenSpec.ofChange jrnlAppendsWrong)

/-- 'cellaretlaw15.JrnlNone': WHATEVER THE INPUT: true; the input reads as it did. -/
def jrnlNoneSpec : ChangeSpec := { name := "jrnlNone", fn := fun _ => fun
  | [d] => { results := [.lit (.bool true)], args := [d] }
  | _ => none }
def jrnlNoneRow : OpenClaim := { program := "ytkpcnmaohhgofaa", sum := "fd1337a162ce9714bcff0b6a82cd0f8376b3d18d104c5b5efd5c50d6eb7ea082", func := "cellaret/cellaretlaw15.JrnlNone", spec := "jrnlNone", inPlace := ["internal/abi.NoEscape", "internal/bytealg.MakeNoZero"], unfollowed := true, recurses := true, plainKeys := false, apart := false }
def JrnlNoneSaid : Prop := jrnlNoneRow.holds Try.pinned (OpenSpec.ofChange jrnlNoneSpec)

/-- ITS FALSE NEIGHBOUR: 'it returns false'. Refute it at one input. -/
def jrnlNoneWrong : ChangeSpec := { name := "jrnlNone", fn := fun _ => fun
  | [d] => { results := [.lit (.bool false)], args := [d] }
  | _ => none }
def JrnlNoneWrongFalsely : Prop := jrnlNoneRow.holds Try.pinned (OpenSpec.ofChange jrnlNoneWrong)

/-- 'cellaretlaw15.JrnlFaults': WHATEVER THE INPUT: true; the input reads as it did. -/
def jrnlFaultsSpec : ChangeSpec := { name := "jrnlFaults", fn := fun _ => fun
  | [d1, d2] => { results := [.lit (.bool true)], args := [d1, d2] }
  | _ => none }
def jrnlFaultsRow : OpenClaim := { program := "ytkpcnmaohhgofaa", sum := "fd1337a162ce9714bcff0b6a82cd0f8376b3d18d104c5b5efd5c50d6eb7ea082", func := "cellaret/cellaretlaw15.JrnlFaults", spec := "jrnlFaults", inPlace := ["internal/abi.NoEscape", "internal/bytealg.MakeNoZero"], unfollowed := true, recurses := true, plainKeys := false, apart := false }
def JrnlFaultsSaid : Prop := jrnlFaultsRow.holds Try.pinned (OpenSpec.ofChange jrnlFaultsSpec)

/-- ITS FALSE NEIGHBOUR: 'it returns false'. Refute it at one input. -/
def jrnlFaultsWrong : ChangeSpec := { name := "jrnlFaults", fn := fun _ => fun
  | [d1, d2] => { results := [.lit (.bool false)], args := [d1, d2] }
  | _ => none }
def JrnlFaultsWrongFalsely : Prop := jrnlFaultsRow.holds Try.pinned (OpenSpec.ofChange jrnlFaultsWrong)

/-- 'cellaretlaw15.JrnlLoads': WHATEVER THE INPUT: true; the input reads as it did. -/
def jrnlLoadsSpec : ChangeSpec := { name := "jrnlLoads", fn := fun _ => fun
  | [d1, d2, d3] => { results := [.lit (.bool true)], args := [d1, d2, d3] }
  | _ => none }
def jrnlLoadsRow : OpenClaim := { program := "ytkpcnmaohhgofaa", sum := "fd1337a162ce9714bcff0b6a82cd0f8376b3d18d104c5b5efd5c50d6eb7ea082", func := "cellaret/cellaretlaw15.JrnlLoads", spec := "jrnlLoads", inPlace := ["internal/abi.NoEscape", "internal/bytealg.MakeNoZero"], unfollowed := true, recurses := true, plainKeys := false, apart := false }
def JrnlLoadsSaid : Prop := jrnlLoadsRow.holds Try.pinned (OpenSpec.ofChange jrnlLoadsSpec)

/-- ITS FALSE NEIGHBOUR: 'it returns false'. Refute it at one input. -/
def jrnlLoadsWrong : ChangeSpec := { name := "jrnlLoads", fn := fun _ => fun
  | [d1, d2, d3] => { results := [.lit (.bool false)], args := [d1, d2, d3] }
  | _ => none }
def JrnlLoadsWrongFalsely : Prop := jrnlLoadsRow.holds Try.pinned (OpenSpec.ofChange jrnlLoadsWrong)

/-- 'cellaretlaw15.JrnlChanged': WHATEVER THE INPUT: true; the input reads as it did. -/
def jrnlChangedSpec : ChangeSpec := { name := "jrnlChanged", fn := fun _ => fun
  | [d1, d2, d3] => { results := [.lit (.bool true)], args := [d1, d2, d3] }
  | _ => none }
def jrnlChangedRow : OpenClaim := { program := "ytkpcnmaohhgofaa", sum := "fd1337a162ce9714bcff0b6a82cd0f8376b3d18d104c5b5efd5c50d6eb7ea082", func := "cellaret/cellaretlaw15.JrnlChanged", spec := "jrnlChanged", inPlace := ["internal/abi.NoEscape", "internal/bytealg.MakeNoZero"], unfollowed := true, recurses := true, plainKeys := false, apart := false }
def JrnlChangedSaid : Prop := jrnlChangedRow.holds Try.pinned (OpenSpec.ofChange jrnlChangedSpec)

/-- ITS FALSE NEIGHBOUR: 'it returns false'. Refute it at one input. -/
def jrnlChangedWrong : ChangeSpec := { name := "jrnlChanged", fn := fun _ => fun
  | [d1, d2, d3] => { results := [.lit (.bool false)], args := [d1, d2, d3] }
  | _ => none }
def JrnlChangedWrongFalsely : Prop := jrnlChangedRow.holds Try.pinned (OpenSpec.ofChange jrnlChangedWrong)

/- THE SECOND FORM. 'bulk': how many values and letters a reading holds, each counted each time it is reached (what is shared counts as often as it is met; a slice's spare places count too). A statement '..UptoSaid' is the law's where the arguments, and the package variables that the reading takes, are together of bulk at most 1048576: NARROWER than '..Said'. Prove '..Said' where nothing that the law and all that it calls make is longer than what came in: it says more and counts as full. Else prove '..UptoSaid'. A law counts once. -/
mutual
def uptoBulk {H : Type} : DataW H → Nat
  | .lit (.string bytes) => bytes.length + 1
  | .lit _ => 1
  | .nil => 1
  | .ptr d => uptoBulk d + 1
  | .slice elems spare => uptoBulkAll elems + uptoBulkAll spare + 1
  | .agg parts => uptoBulkAll parts + 1
  | .iface _ d => uptoBulk d + 1
  | .map entries => uptoBulkEntries entries + 1
  | .held _ => 1
def uptoBulkAll {H : Type} : List (DataW H) → Nat
  | [] => 0
  | d :: r => uptoBulk d + uptoBulkAll r
def uptoBulkEntries {H : Type} : List (Lit × DataW H) → Nat
  | [] => 0
  | x :: r => uptoBulkEntry x + uptoBulkEntries r
def uptoBulkEntry {H : Type} : Lit × DataW H → Nat
  | (.string bytes, d) => bytes.length + uptoBulk d + 1
  | (_, d) => uptoBulk d + 1
 end
def uptoSmall : (H : Type) → List (DataW H) → Bool := fun _ ds => decide (uptoBulkAll ds ≤ 1048576)
def OpenSpec.upto (s : _root_.Go.ChangeSpec) : _root_.Go.OpenSpec := { _root_.Go.OpenSpec.ofChange s with cond := some uptoSmall }

/-- 'cellaretlaw15.JrnlAppends', WHERE WHAT IT READS IS OF BULK AT MOST 1048576: true; the input reads as it did. -/
def jrnlAppendsUptoRow : OpenClaim := { program := "ytkpcnmaohhgofaa", sum := "fd1337a162ce9714bcff0b6a82cd0f8376b3d18d104c5b5efd5c50d6eb7ea082", func := "cellaret/cellaretlaw15.JrnlAppends", spec := "jrnlAppends", inPlace := ["internal/abi.NoEscape", "internal/bytealg.MakeNoZero"], unfollowed := true, recurses := true, plainKeys := false, apart := false, narrowed := true }
def JrnlAppendsUptoSaid : Prop := jrnlAppendsUptoRow.holds Try.pinned (OpenSpec.upto jrnlAppendsSpec)

/-- 'cellaretlaw15.JrnlNone', WHERE WHAT IT READS IS OF BULK AT MOST 1048576: true; the input reads as it did. -/
def jrnlNoneUptoRow : OpenClaim := { program := "ytkpcnmaohhgofaa", sum := "fd1337a162ce9714bcff0b6a82cd0f8376b3d18d104c5b5efd5c50d6eb7ea082", func := "cellaret/cellaretlaw15.JrnlNone", spec := "jrnlNone", inPlace := ["internal/abi.NoEscape", "internal/bytealg.MakeNoZero"], unfollowed := true, recurses := true, plainKeys := false, apart := false, narrowed := true }
def JrnlNoneUptoSaid : Prop := jrnlNoneUptoRow.holds Try.pinned (OpenSpec.upto jrnlNoneSpec)

/-- 'cellaretlaw15.JrnlFaults', WHERE WHAT IT READS IS OF BULK AT MOST 1048576: true; the input reads as it did. -/
def jrnlFaultsUptoRow : OpenClaim := { program := "ytkpcnmaohhgofaa", sum := "fd1337a162ce9714bcff0b6a82cd0f8376b3d18d104c5b5efd5c50d6eb7ea082", func := "cellaret/cellaretlaw15.JrnlFaults", spec := "jrnlFaults", inPlace := ["internal/abi.NoEscape", "internal/bytealg.MakeNoZero"], unfollowed := true, recurses := true, plainKeys := false, apart := false, narrowed := true }
def JrnlFaultsUptoSaid : Prop := jrnlFaultsUptoRow.holds Try.pinned (OpenSpec.upto jrnlFaultsSpec)

/-- 'cellaretlaw15.JrnlLoads', WHERE WHAT IT READS IS OF BULK AT MOST 1048576: true; the input reads as it did. -/
def jrnlLoadsUptoRow : OpenClaim := { program := "ytkpcnmaohhgofaa", sum := "fd1337a162ce9714bcff0b6a82cd0f8376b3d18d104c5b5efd5c50d6eb7ea082", func := "cellaret/cellaretlaw15.JrnlLoads", spec := "jrnlLoads", inPlace := ["internal/abi.NoEscape", "internal/bytealg.MakeNoZero"], unfollowed := true, recurses := true, plainKeys := false, apart := false, narrowed := true }
def JrnlLoadsUptoSaid : Prop := jrnlLoadsUptoRow.holds Try.pinned (OpenSpec.upto jrnlLoadsSpec)

/-- 'cellaretlaw15.JrnlChanged', WHERE WHAT IT READS IS OF BULK AT MOST 1048576: true; the input reads as it did. -/
def jrnlChangedUptoRow : OpenClaim := { program := "ytkpcnmaohhgofaa", sum := "fd1337a162ce9714bcff0b6a82cd0f8376b3d18d104c5b5efd5c50d6eb7ea082", func := "cellaret/cellaretlaw15.JrnlChanged", spec := "jrnlChanged", inPlace := ["internal/abi.NoEscape", "internal/bytealg.MakeNoZero"], unfollowed := true, recurses := true, plainKeys := false, apart := false, narrowed := true }
def JrnlChangedUptoSaid : Prop := jrnlChangedUptoRow.holds Try.pinned (OpenSpec.upto jrnlChangedSpec)

end Rows
end Go.Proofs.Ytkpcnmaohhgofaa
