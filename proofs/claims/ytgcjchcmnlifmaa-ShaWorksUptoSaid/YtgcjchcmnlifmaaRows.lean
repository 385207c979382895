/-
  No cell of these rows narrows 'for every input' (looked for: loops, veiled, ifaces, maps, wideKeys, modest, calm, conditions, laid).
  DERIVED. THE GIVEN ROWS OF THIS SEAT. 18 by the template 'for every input the law returns true; each argument reads behind the call as it read before'; 0 by the template 'total and deterministic' (their statements: YtgcjchcmnlifmaaTotals.lean).
  GIVEN WITH THE SEED: the statements are not yours to turn. If you find one false, say at which input.
  Laid BY PROGRAM, IN A SANDBOX (cutbox-rows.mjs): the forced cells as the released guide's own fill.sh prints them over the translation f1240bab36468dc5… (all of the seat's roots in one cut). By AI agents, Wed Nov 11 2026. No macro, syntax, notation, axiom, sorry.
-/
import Derived.Test.YtgcjchcmnlifmaaChecked
import GoSem.Claim
import GoSem.ClaimJoined
import GoSem.ClaimMapViews
import Derived.JoinedTies
import Derived.KernelRfl
namespace Go.Proofs.Ytgcjchcmnlifmaa
/- THE CELL 'sum', in the pinned program and in every row, IS THE sha256 OF THE DUMP (.gsa) THAT YtgcjchcmnlifmaaProg.lean LOADS. Nothing in Lean hashes anything: it is a label: what it is worth is what the hold of that sum in a sandbox is worth. -/
noncomputable def Try.pinned : Pinned := { name := "ytgcjchcmnlifmaa", sum := "f1240bab36468dc58aa032b6aa45bdf49d457cee65b422e75c15357e39999f2e", checked := Try.checked }
namespace Rows
def none {H : Type} : Left H := { results := [], args := [] }

/-- 'cellaretlaw03.ShaParts': WHATEVER THE INPUT: true; the input reads as it did. -/
def shaPartsSpec : ChangeSpec := { name := "shaParts", fn := fun _ => fun
  | [d] => { results := [.lit (.bool true)], args := [d] }
  | _ => none }
def shaPartsRow : OpenClaim := { program := "ytgcjchcmnlifmaa", sum := "f1240bab36468dc58aa032b6aa45bdf49d457cee65b422e75c15357e39999f2e", func := "cellaret/cellaretlaw03.ShaParts", spec := "shaParts", unfollowed := true, recurses := true, plainKeys := false, apart := false }
def ShaPartsSaid : Prop := shaPartsRow.holds Try.pinned (OpenSpec.ofChange shaPartsSpec)

/-- ITS FALSE NEIGHBOUR: 'it returns false'. Refute it at one input. -/
def shaPartsWrong : ChangeSpec := { name := "shaParts", fn := fun _ => fun
  | [d] => { results := [.lit (.bool false)], args := [d] }
  | _ => none }
def ShaPartsWrongFalsely : Prop := shaPartsRow.holds Try.pinned (OpenSpec.ofChange shaPartsWrong)

/-- 'cellaretlaw03.ShaHex': WHATEVER THE INPUT: true; the input reads as it did. -/
def shaHexSpec : ChangeSpec := { name := "shaHex", fn := fun _ => fun
  | [d] => { results := [.lit (.bool true)], args := [d] }
  | _ => none }
def shaHexRow : OpenClaim := { program := "ytgcjchcmnlifmaa", sum := "f1240bab36468dc58aa032b6aa45bdf49d457cee65b422e75c15357e39999f2e", func := "cellaret/cellaretlaw03.ShaHex", spec := "shaHex", unfollowed := true, recurses := true, plainKeys := false, apart := false }
def ShaHexSaid : Prop := shaHexRow.holds Try.pinned (OpenSpec.ofChange shaHexSpec)

/-- ITS FALSE NEIGHBOUR: 'it returns false'. Refute it at one input. -/
def shaHexWrong : ChangeSpec := { name := "shaHex", fn := fun _ => fun
  | [d] => { results := [.lit (.bool false)], args := [d] }
  | _ => none }
def ShaHexWrongFalsely : Prop := shaHexRow.holds Try.pinned (OpenSpec.ofChange shaHexWrong)

/-- 'cellaretlaw03.ShaSums': WHATEVER THE INPUT: true; the input reads as it did. -/
def shaSumsSpec : ChangeSpec := { name := "shaSums", fn := fun _ => fun
  | [d] => { results := [.lit (.bool true)], args := [d] }
  | _ => none }
def shaSumsRow : OpenClaim := { program := "ytgcjchcmnlifmaa", sum := "f1240bab36468dc58aa032b6aa45bdf49d457cee65b422e75c15357e39999f2e", func := "cellaret/cellaretlaw03.ShaSums", spec := "shaSums", unfollowed := true, recurses := true, plainKeys := false, apart := false }
def ShaSumsSaid : Prop := shaSumsRow.holds Try.pinned (OpenSpec.ofChange shaSumsSpec)

/-- ITS FALSE NEIGHBOUR: 'it returns false'. Refute it at one input. -/
def shaSumsWrong : ChangeSpec := { name := "shaSums", fn := fun _ => fun
  | [d] => { results := [.lit (.bool false)], args := [d] }
  | _ => none }
def ShaSumsWrongFalsely : Prop := shaSumsRow.holds Try.pinned (OpenSpec.ofChange shaSumsWrong)

/-- 'cellaretlaw03.ShaWorks': WHATEVER THE INPUT: true; the input reads as it did. -/
def shaWorksSpec : ChangeSpec := { name := "shaWorks", fn := fun _ => fun
  | [d1, d2] => { results := [.lit (.bool true)], args := [d1, d2] }
  | _ => none }
def shaWorksRow : OpenClaim := { program := "ytgcjchcmnlifmaa", sum := "f1240bab36468dc58aa032b6aa45bdf49d457cee65b422e75c15357e39999f2e", func := "cellaret/cellaretlaw03.ShaWorks", spec := "shaWorks", unfollowed := true, recurses := true, plainKeys := false, apart := false }
def ShaWorksSaid : Prop := shaWorksRow.holds Try.pinned (OpenSpec.ofChange shaWorksSpec)

/-- ITS FALSE NEIGHBOUR: 'it returns false'. Refute it at one input. -/
def shaWorksWrong : ChangeSpec := { name := "shaWorks", fn := fun _ => fun
  | [d1, d2] => { results := [.lit (.bool false)], args := [d1, d2] }
  | _ => none }
def ShaWorksWrongFalsely : Prop := shaWorksRow.holds Try.pinned (OpenSpec.ofChange shaWorksWrong)

/-- 'cellaretlaw03.ShaConstants': WHATEVER THE INPUT: true; the input reads as it did. -/
def shaConstantsSpec : ChangeSpec := { name := "shaConstants", fn := fun _ => fun
  | [d] => { results := [.lit (.bool true)], args := [d] }
  | _ => none }
def shaConstantsRow : OpenClaim := { program := "ytgcjchcmnlifmaa", sum := "f1240bab36468dc58aa032b6aa45bdf49d457cee65b422e75c15357e39999f2e", func := "cellaret/cellaretlaw03.ShaConstants", spec := "shaConstants", unfollowed := true, recurses := true, plainKeys := false, apart := false }
def ShaConstantsSaid : Prop := shaConstantsRow.holds Try.pinned (OpenSpec.ofChange shaConstantsSpec)

/-- ITS FALSE NEIGHBOUR: 'it returns false'. Refute it at one input. -/
def shaConstantsWrong : ChangeSpec := { name := "shaConstants", fn := fun _ => fun
  | [d] => { results := [.lit (.bool false)], args := [d] }
  | _ => none }
def ShaConstantsWrongFalsely : Prop := shaConstantsRow.holds Try.pinned (OpenSpec.ofChange shaConstantsWrong)

/-- 'cellaretlaw06.OraclePairs': WHATEVER THE INPUT: true; the input reads as it did. -/
def oraclePairsSpec : ChangeSpec := { name := "oraclePairs", fn := fun _ => fun
  | [d1, d2] => { results := [.lit (.bool true)], args := [d1, d2] }
  | _ => none }
def oraclePairsRow : OpenClaim := { program := "ytgcjchcmnlifmaa", sum := "f1240bab36468dc58aa032b6aa45bdf49d457cee65b422e75c15357e39999f2e", func := "cellaret/cellaretlaw06.OraclePairs", spec := "oraclePairs", unfollowed := true, recurses := true, plainKeys := false, apart := false }
def OraclePairsSaid : Prop := oraclePairsRow.holds Try.pinned (OpenSpec.ofChange oraclePairsSpec)

/-- ITS FALSE NEIGHBOUR: 'it returns false'. Refute it at one input. -/
def oraclePairsWrong : ChangeSpec := { name := "oraclePairs", fn := fun _ => fun
  | [d1, d2] => { results := [.lit (.bool false)], args := [d1, d2] }
  | _ => none }
def OraclePairsWrongFalsely : Prop := oraclePairsRow.holds Try.pinned (OpenSpec.ofChange oraclePairsWrong)

/-- 'cellaretlaw17.NodeSums': WHATEVER THE INPUT: true; the input reads as it did. -/
def nodeSumsSpec : ChangeSpec := { name := "nodeSums", fn := fun _ => fun
  | [d] => { results := [.lit (.bool true)], args := [d] }
  | _ => none }
def nodeSumsRow : OpenClaim := { program := "ytgcjchcmnlifmaa", sum := "f1240bab36468dc58aa032b6aa45bdf49d457cee65b422e75c15357e39999f2e", func := "cellaret/cellaretlaw17.NodeSums", spec := "nodeSums", unfollowed := true, recurses := true, plainKeys := false, apart := false }
def NodeSumsSaid : Prop := nodeSumsRow.holds Try.pinned (OpenSpec.ofChange nodeSumsSpec)

/-- ITS FALSE NEIGHBOUR: 'it returns false'. Refute it at one input. -/
def nodeSumsWrong : ChangeSpec := { name := "nodeSums", fn := fun _ => fun
  | [d] => { results := [.lit (.bool false)], args := [d] }
  | _ => none }
def NodeSumsWrongFalsely : Prop := nodeSumsRow.holds Try.pinned (OpenSpec.ofChange nodeSumsWrong)

/-- 'cellaretlaw17.NodePaths': WHATEVER THE INPUT: true; the input reads as it did. -/
def nodePathsSpec : ChangeSpec := { name := "nodePaths", fn := fun _ => fun
  | [d1, d2, d3] => { results := [.lit (.bool true)], args := [d1, d2, d3] }
  | _ => none }
def nodePathsRow : OpenClaim := { program := "ytgcjchcmnlifmaa", sum := "f1240bab36468dc58aa032b6aa45bdf49d457cee65b422e75c15357e39999f2e", func := "cellaret/cellaretlaw17.NodePaths", spec := "nodePaths", unfollowed := true, recurses := true, plainKeys := false, apart := false }
def NodePathsSaid : Prop := nodePathsRow.holds Try.pinned (OpenSpec.ofChange nodePathsSpec)

/-- ITS FALSE NEIGHBOUR: 'it returns false'. Refute it at one input. -/
def nodePathsWrong : ChangeSpec := { name := "nodePaths", fn := fun _ => fun
  | [d1, d2, d3] => { results := [.lit (.bool false)], args := [d1, d2, d3] }
  | _ => none }
def NodePathsWrongFalsely : Prop := nodePathsRow.holds Try.pinned (OpenSpec.ofChange nodePathsWrong)

/-- 'cellaretlaw14.ChainNexts': WHATEVER THE INPUT: true; the input reads as it did. -/
def chainNextsSpec : ChangeSpec := { name := "chainNexts", fn := fun _ => fun
  | [d1, d2, d3] => { results := [.lit (.bool true)], args := [d1, d2, d3] }
  | _ => none }
def chainNextsRow : OpenClaim := { program := "ytgcjchcmnlifmaa", sum := "f1240bab36468dc58aa032b6aa45bdf49d457cee65b422e75c15357e39999f2e", func := "cellaret/cellaretlaw14.ChainNexts", spec := "chainNexts", unfollowed := true, recurses := true, plainKeys := false, apart := false }
def ChainNextsSaid : Prop := chainNextsRow.holds Try.pinned (OpenSpec.ofChange chainNextsSpec)

/-- ITS FALSE NEIGHBOUR: 'it returns false'. Refute it at one input. -/
def chainNextsWrong : ChangeSpec := { name := "chainNexts", fn := fun _ => fun
  | [d1, d2, d3] => { results := [.lit (.bool false)], args := [d1, d2, d3] }
  | _ => none }
def ChainNextsWrongFalsely : Prop := chainNextsRow.holds Try.pinned (OpenSpec.ofChange chainNextsWrong)

/-- 'cellaretlaw14.ChainSums': WHATEVER THE INPUT: true; the input reads as it did. -/
def chainSumsSpec : ChangeSpec := { name := "chainSums", fn := fun _ => fun
  | [d] => { results := [.lit (.bool true)], args := [d] }
  | _ => none }
def chainSumsRow : OpenClaim := { program := "ytgcjchcmnlifmaa", sum := "f1240bab36468dc58aa032b6aa45bdf49d457cee65b422e75c15357e39999f2e", func := "cellaret/cellaretlaw14.ChainSums", spec := "chainSums", unfollowed := true, recurses := true, plainKeys := false, apart := false }
def ChainSumsSaid : Prop := chainSumsRow.holds Try.pinned (OpenSpec.ofChange chainSumsSpec)

/-- ITS FALSE NEIGHBOUR: 'it returns false'. Refute it at one input. -/
def chainSumsWrong : ChangeSpec := { name := "chainSums", fn := fun _ => fun
  | [d] => { results := [.lit (.bool false)], args := [d] }
  | _ => none }
def ChainSumsWrongFalsely : Prop := chainSumsRow.holds Try.pinned (OpenSpec.ofChange chainSumsWrong)

/-- 'cellaretlaw06.OracleTells': WHATEVER THE INPUT: true; the input reads as it did. -/
def oracleTellsSpec : ChangeSpec := { name := "oracleTells", fn := fun _ => fun
  | [d] => { results := [.lit (.bool true)], args := [d] }
  | _ => none }
def oracleTellsRow : OpenClaim := { program := "ytgcjchcmnlifmaa", sum := "f1240bab36468dc58aa032b6aa45bdf49d457cee65b422e75c15357e39999f2e", func := "cellaret/cellaretlaw06.OracleTells", spec := "oracleTells", unfollowed := true, recurses := true, plainKeys := false, apart := false }
def OracleTellsSaid : Prop := oracleTellsRow.holds Try.pinned (OpenSpec.ofChange oracleTellsSpec)

/-- ITS FALSE NEIGHBOUR: 'it returns false'. Refute it at one input. -/
def oracleTellsWrong : ChangeSpec := { name := "oracleTells", fn := fun _ => fun
  | [d] => { results := [.lit (.bool false)], args := [d] }
  | _ => none }
def OracleTellsWrongFalsely : Prop := oracleTellsRow.holds Try.pinned (OpenSpec.ofChange oracleTellsWrong)

/-- 'cellaretlaw17.NodeRoots': WHATEVER THE INPUT: true; the input reads as it did. -/
def nodeRootsSpec : ChangeSpec := { name := "nodeRoots", fn := fun _ => fun
  | [d] => { results := [.lit (.bool true)], args := [d] }
  | _ => none }
def nodeRootsRow : OpenClaim := { program := "ytgcjchcmnlifmaa", sum := "f1240bab36468dc58aa032b6aa45bdf49d457cee65b422e75c15357e39999f2e", func := "cellaret/cellaretlaw17.NodeRoots", spec := "nodeRoots", unfollowed := true, recurses := true, plainKeys := false, apart := false }
def NodeRootsSaid : Prop := nodeRootsRow.holds Try.pinned (OpenSpec.ofChange nodeRootsSpec)

/-- ITS FALSE NEIGHBOUR: 'it returns false'. Refute it at one input. -/
def nodeRootsWrong : ChangeSpec := { name := "nodeRoots", fn := fun _ => fun
  | [d] => { results := [.lit (.bool false)], args := [d] }
  | _ => none }
def NodeRootsWrongFalsely : Prop := nodeRootsRow.holds Try.pinned (OpenSpec.ofChange nodeRootsWrong)

/-- 'cellaretlaw17.NodeSplits': WHATEVER THE INPUT: true; the input reads as it did. -/
def nodeSplitsSpec : ChangeSpec := { name := "nodeSplits", fn := fun _ => fun
  | [d1, d2, d3] => { results := [.lit (.bool true)], args := [d1, d2, d3] }
  | _ => none }
def nodeSplitsRow : OpenClaim := { program := "ytgcjchcmnlifmaa", sum := "f1240bab36468dc58aa032b6aa45bdf49d457cee65b422e75c15357e39999f2e", func := "cellaret/cellaretlaw17.NodeSplits", spec := "nodeSplits", unfollowed := true, recurses := true, plainKeys := false, apart := false }
def NodeSplitsSaid : Prop := nodeSplitsRow.holds Try.pinned (OpenSpec.ofChange nodeSplitsSpec)

/-- ITS FALSE NEIGHBOUR: 'it returns false'. Refute it at one input. -/
def nodeSplitsWrong : ChangeSpec := { name := "nodeSplits", fn := fun _ => fun
  | [d1, d2, d3] => { results := [.lit (.bool false)], args := [d1, d2, d3] }
  | _ => none }
def NodeSplitsWrongFalsely : Prop := nodeSplitsRow.holds Try.pinned (OpenSpec.ofChange nodeSplitsWrong)

/-- 'cellaretlaw06.OracleKeeps': WHATEVER THE INPUT: true; the input reads as it did. -/
def oracleKeepsSpec : ChangeSpec := { name := "oracleKeeps", fn := fun _ => fun
  | [d] => { results := [.lit (.bool true)], args := [d] }
  | _ => none }
def oracleKeepsRow : OpenClaim := { program := "ytgcjchcmnlifmaa", sum := "f1240bab36468dc58aa032b6aa45bdf49d457cee65b422e75c15357e39999f2e", func := "cellaret/cellaretlaw06.OracleKeeps", spec := "oracleKeeps", unfollowed := true, recurses := true, plainKeys := false, apart := false }
def OracleKeepsSaid : Prop := oracleKeepsRow.holds Try.pinned (OpenSpec.ofChange oracleKeepsSpec)

/-- ITS FALSE NEIGHBOUR: 'it returns false'. Refute it at one input. -/
def oracleKeepsWrong : ChangeSpec := { name := "oracleKeeps", fn := fun _ => fun
  | [d] => { results := [.lit (.bool false)], args := [d] }
  | _ => none }
def OracleKeepsWrongFalsely : Prop := oracleKeepsRow.holds Try.pinned (OpenSpec.ofChange oracleKeepsWrong)

/-- 'cellaretlaw06.OracleNone': WHATEVER THE INPUT: true; the input reads as it did. -/
def oracleNoneSpec : ChangeSpec := { name := "oracleNone", fn := fun _ => fun
  | [d1, d2] => { results := [.lit (.bool true)], args := [d1, d2] }
  | _ => none }
def oracleNoneRow : OpenClaim := { program := "ytgcjchcmnlifmaa", sum := "f1240bab36468dc58aa032b6aa45bdf49d457cee65b422e75c15357e39999f2e", func := "cellaret/cellaretlaw06.OracleNone", spec := "oracleNone", unfollowed := true, recurses := true, plainKeys := false, apart := false }
def OracleNoneSaid : Prop := oracleNoneRow.holds Try.pinned (OpenSpec.ofChange oracleNoneSpec)

/-- ITS FALSE NEIGHBOUR: 'it returns false'. Refute it at one input. -/
def oracleNoneWrong : ChangeSpec := { name := "oracleNone", fn := fun _ => fun
  | [d1, d2] => { results := [.lit (.bool false)], args := [d1, d2] }
  | _ => none }
def OracleNoneWrongFalsely : Prop := oracleNoneRow.holds Try.pinned (OpenSpec.ofChange oracleNoneWrong)

/-- 'cellaretlaw14.ChainApart': WHATEVER THE INPUT: true; the input reads as it did. -/
def chainApartSpec : ChangeSpec := { name := "chainApart", fn := fun _ => fun
  | [d] => { results := [.lit (.bool true)], args := [d] }
  | _ => none }
def chainApartRow : OpenClaim := { program := "ytgcjchcmnlifmaa", sum := "f1240bab36468dc58aa032b6aa45bdf49d457cee65b422e75c15357e39999f2e", func := "cellaret/cellaretlaw14.ChainApart", spec := "chainApart", unfollowed := true, recurses := true, plainKeys := false, apart := false }
def ChainApartSaid : Prop := chainApartRow.holds Try.pinned (OpenSpec.ofChange chainApartSpec)

/-- ITS FALSE NEIGHBOUR: 'it returns false'. Refute it at one input. -/
def chainApartWrong : ChangeSpec := { name := "chainApart", fn := fun _ => fun
  | [d] => { results := [.lit (.bool false)], args := [d] }
  | _ => none }
def ChainApartWrongFalsely : Prop := chainApartRow.holds Try.pinned (OpenSpec.ofChange chainApartWrong)

/-- 'cellaretlaw17.NodeBares': WHATEVER THE INPUT: true; the input reads as it did. -/
def nodeBaresSpec : ChangeSpec := { name := "nodeBares", fn := fun _ => fun
  | [d] => { results := [.lit (.bool true)], args := [d] }
  | _ => none }
def nodeBaresRow : OpenClaim := { program := "ytgcjchcmnlifmaa", sum := "f1240bab36468dc58aa032b6aa45bdf49d457cee65b422e75c15357e39999f2e", func := "cellaret/cellaretlaw17.NodeBares", spec := "nodeBares", unfollowed := true, recurses := true, plainKeys := false, apart := false }
def NodeBaresSaid : Prop := nodeBaresRow.holds Try.pinned (OpenSpec.ofChange nodeBaresSpec)

/-- ITS FALSE NEIGHBOUR: 'it returns false'. Refute it at one input. -/
def nodeBaresWrong : ChangeSpec := { name := "nodeBares", fn := fun _ => fun
  | [d] => { results := [.lit (.bool false)], args := [d] }
  | _ => none }
def NodeBaresWrongFalsely : Prop := nodeBaresRow.holds Try.pinned (OpenSpec.ofChange nodeBaresWrong)

/-- 'cellaretlaw17.NodeApart': WHATEVER THE INPUT: true; the input reads as it did. -/
def nodeApartSpec : ChangeSpec := { name := "nodeApart", fn := fun _ => fun
  | [d1, d2] => { results := [.lit (.bool true)], args := [d1, d2] }
  | _ => none }
def nodeApartRow : OpenClaim := { program := "ytgcjchcmnlifmaa", sum := "f1240bab36468dc58aa032b6aa45bdf49d457cee65b422e75c15357e39999f2e", func := "cellaret/cellaretlaw17.NodeApart", spec := "nodeApart", unfollowed := true, recurses := true, plainKeys := false, apart := false }
def NodeApartSaid : Prop := nodeApartRow.holds Try.pinned (OpenSpec.ofChange nodeApartSpec)

/-- ITS FALSE NEIGHBOUR: 'it returns false'. Refute it at one input. -/
def nodeApartWrong : ChangeSpec := { name := "nodeApart", fn := fun _ => fun
  | [d1, d2] => { results := [.lit (.bool false)], args := [d1, d2] }
  | _ => none }
def NodeApartWrongFalsely : Prop := nodeApartRow.holds Try.pinned (OpenSpec.ofChange nodeApartWrong)

/- THE SECOND FORM. 'bulk': how many values and letters a reading holds, each counted each time it is reached (what is shared counts as often as it is met; a slice's spare places count too). A statement '..UptoSaid' is the law's where the arguments, and the package variables that the reading takes, are together of bulk at most 1048576: NARROWER than '..Said'. Prove '..Said' where nothing that the law and all that it calls make is longer than what came in: it says more and counts as full. Else prove '..UptoSaid'. A law counts once. -/
mutual
def uptoBulk {H : Type} : DataW H → Nat
  | .lit (.string bytes) => bytes.length + 1
  | .lit _ => 1
  | .nil => 1
  | .ptr d => uptoBulk d + 1
  | .slice elems spare => uptoBulkAll elems + uptoBulkAll spare + 1
  | .agg parts => uptoBulkAll parts + 1
  | .iface _ d => uptoBulk d + 1
  | .map entries => uptoBulkEntries entries + 1
  | .held _ => 1
def uptoBulkAll {H : Type} : List (DataW H) → Nat
  | [] => 0
  | d :: r => uptoBulk d + uptoBulkAll r
def uptoBulkEntries {H : Type} : List (Lit × DataW H) → Nat
  | [] => 0
  | x :: r => uptoBulkEntry x + uptoBulkEntries r
def uptoBulkEntry {H : Type} : Lit × DataW H → Nat
  | (.string bytes, d) => bytes.length + uptoBulk d + 1
  | (_, d) => uptoBulk d + 1
 end
def uptoSmall : (H : Type) → List (DataW H) → Bool := fun _ ds => decide (uptoBulkAll ds ≤ 1048576)
def OpenSpec.upto (s : _root_.Go.ChangeSpec) : _root_.Go.OpenSpec := { _root_.Go.OpenSpec.ofChange s with cond := some uptoSmall }

/-- 'cellaretlaw03.ShaParts', WHERE WHAT IT READS IS OF BULK AT MOST 1048576: true; the input reads as it did. -/
def shaPartsUptoRow : OpenClaim := { program := "ytgcjchcmnlifmaa", sum := "f1240bab36468dc58aa032b6aa45bdf49d457cee65b422e75c15357e39999f2e", func := "cellaret/cellaretlaw03.ShaParts", spec := "shaParts", unfollowed := true, recurses := true, plainKeys := false, apart := false, narrowed := true }
def ShaPartsUptoSaid : Prop := shaPartsUptoRow.holds Try.pinned (OpenSpec.upto shaPartsSpec)

/-- 'cellaretlaw03.ShaHex', WHERE WHAT IT READS IS OF BULK AT MOST 1048576: true; the input reads as it did. -/
def shaHexUptoRow : OpenClaim := { program := "ytgcjchcmnlifmaa", sum := "f1240bab36468dc58aa032b6aa45bdf49d457cee65b422e75c15357e39999f2e", func := "cellaret/cellaretlaw03.ShaHex", spec := "shaHex", unfollowed := true, recurses := true, plainKeys := false, apart := false, narrowed := true }
def ShaHexUptoSaid : Prop := shaHexUptoRow.holds Try.pinned (OpenSpec.upto shaHexSpec)

/-- 'cellaretlaw03.ShaSums', WHERE WHAT IT READS IS OF BULK AT MOST 1048576: true; the input reads as it did. -/
def shaSumsUptoRow : OpenClaim := { program := "ytgcjchcmnlifmaa", sum := "f1240bab36468dc58aa032b6aa45bdf49d457cee65b422e75c15357e39999f2e", func := "cellaret/cellaretlaw03.ShaSums", spec := "shaSums", unfollowed := true, recurses := true, plainKeys := false, apart := false, narrowed := true }
def ShaSumsUptoSaid : Prop := shaSumsUptoRow.holds Try.pinned (OpenSpec.upto shaSumsSpec)

/-- 'cellaretlaw03.ShaWorks', WHERE WHAT IT READS IS OF BULK AT MOST 1048576: true; the input reads as it did. -/
def shaWorksUptoRow : OpenClaim := { program := "ytgcjchcmnlifmaa", sum := "f1240bab36468dc58aa032b6aa45bdf49d457cee65b422e75c15357e39999f2e", func := "cellaret/cellaretlaw03.ShaWorks", spec := "shaWorks", unfollowed := true, recurses := true, plainKeys := false, apart := false, narrowed := true }
def ShaWorksUptoSaid : Prop := shaWorksUptoRow.holds Try.pinned (OpenSpec.upto shaWorksSpec)

/-- 'cellaretlaw03.ShaConstants', WHERE WHAT IT READS IS OF BULK AT MOST 1048576: true; the input reads as it did. -/
def shaConstantsUptoRow : OpenClaim := { program := "ytgcjchcmnlifmaa", sum := "f1240bab36468dc58aa032b6aa45bdf49d457cee65b422e75c15357e39999f2e", func := "cellaret/cellaretlaw03.ShaConstants", spec := "shaConstants", unfollowed := true, recurses := true, plainKeys := false, apart := false, narrowed := true }
def ShaConstantsUptoSaid : Prop := shaConstantsUptoRow.holds Try.pinned (OpenSpec.upto shaConstantsSpec)

/-- 'cellaretlaw06.OraclePairs', WHERE WHAT IT READS IS OF BULK AT MOST 1048576: true; the input reads as it did. -/
def oraclePairsUptoRow : OpenClaim := { program := "ytgcjchcmnlifmaa", sum := "f1240bab36468dc58aa032b6aa45bdf49d457cee65b422e75c15357e39999f2e", func := "cellaret/cellaretlaw06.OraclePairs", spec := "oraclePairs", unfollowed := true, recurses := true, plainKeys := false, apart := false, narrowed := true }
def OraclePairsUptoSaid : Prop := oraclePairsUptoRow.holds Try.pinned (OpenSpec.upto oraclePairsSpec)

/-- 'cellaretlaw17.NodeSums', WHERE WHAT IT READS IS OF BULK AT MOST 1048576: true; the input reads as it did. -/
def nodeSumsUptoRow : OpenClaim := { program := "ytgcjchcmnlifmaa", sum := "f1240bab36468dc58aa032b6aa45bdf49d457cee65b422e75c15357e39999f2e", func := "cellaret/cellaretlaw17.NodeSums", spec := "nodeSums", unfollowed := true, recurses := true, plainKeys := false, apart := false, narrowed := true }
def NodeSumsUptoSaid : Prop := nodeSumsUptoRow.holds Try.pinned (OpenSpec.upto nodeSumsSpec)

/-- 'cellaretlaw17.NodePaths', WHERE WHAT IT READS IS OF BULK AT MOST 1048576: true; the input reads as it did. -/
def nodePathsUptoRow : OpenClaim := { program := "ytgcjchcmnlifmaa", sum := "f1240bab36468dc58aa032b6aa45bdf49d457cee65b422e75c15357e39999f2e", func := "cellaret/cellaretlaw17.NodePaths", spec := "nodePaths", unfollowed := true, recurses := true, plainKeys := false, apart := false, narrowed := true }
def NodePathsUptoSaid : Prop := nodePathsUptoRow.holds Try.pinned (OpenSpec.upto nodePathsSpec)

/-- 'cellaretlaw14.ChainNexts', WHERE WHAT IT READS IS OF BULK AT MOST 1048576: true; the input reads as it did. -/
def chainNextsUptoRow : OpenClaim := { program := "ytgcjchcmnlifmaa", sum := "f1240bab36468dc58aa032b6aa45bdf49d457cee65b422e75c15357e39999f2e", func := "cellaret/cellaretlaw14.ChainNexts", spec := "chainNexts", unfollowed := true, recurses := true, plainKeys := false, apart := false, narrowed := true }
def ChainNextsUptoSaid : Prop := chainNextsUptoRow.holds Try.pinned (OpenSpec.upto chainNextsSpec)

/-- 'cellaretlaw14.ChainSums', WHERE WHAT IT READS IS OF BULK AT MOST 1048576: true; the input reads as it did. -/
def chainSumsUptoRow : OpenClaim := { program := "ytgcjchcmnlifmaa", sum := "f1240bab36468dc58aa032b6aa45bdf49d457cee65b422e75c15357e39999f2e", func := "cellaret/cellaretlaw14.ChainSums", spec := "chainSums", unfollowed := true, recurses := true, plainKeys := false, apart := false, narrowed := true }
def ChainSumsUptoSaid : Prop := chainSumsUptoRow.holds Try.pinned (OpenSpec.upto chainSumsSpec)

/-- 'cellaretlaw06.OracleTells', WHERE WHAT IT READS IS OF BULK AT MOST 1048576: true; the input reads as it did. -/
def oracleTellsUptoRow : OpenClaim := { program := "ytgcjchcmnlifmaa", sum := "f1240bab36468dc58aa032b6aa45bdf49d457cee65b422e75c15357e39999f2e", func := "cellaret/cellaretlaw06.OracleTells", spec := "oracleTells", unfollowed := true, recurses := true, plainKeys := false, apart := false, narrowed := true }
def OracleTellsUptoSaid : Prop := oracleTellsUptoRow.holds Try.pinned (OpenSpec.upto oracleTellsSpec)

/-- 'cellaretlaw17.NodeRoots', WHERE WHAT IT READS IS OF BULK AT MOST 1048576: true; the input reads as it did. -/
def nodeRootsUptoRow : OpenClaim := { program := "ytgcjchcmnlifmaa", sum := "f1240bab36468dc58aa032b6aa45bdf49d457cee65b422e75c15357e39999f2e", func := "cellaret/cellaretlaw17.NodeRoots", spec := "nodeRoots", unfollowed := true, recurses := true, plainKeys := false, apart := false, narrowed := true }
def NodeRootsUptoSaid : Prop := nodeRootsUptoRow.holds Try.pinned (OpenSpec.upto nodeRootsSpec)

/-- 'cellaretlaw17.NodeSplits', WHERE WHAT IT READS IS OF BULK AT MOST 1048576: true; the input reads as it did. -/
def nodeSplitsUptoRow : OpenClaim := { program := "ytgcjchcmnlifmaa", sum := "f1240bab36468dc58aa032b6aa45bdf49d457cee65b422e75c15357e39999f2e", func := "cellaret/cellaretlaw17.NodeSplits", spec := "nodeSplits", unfollowed := true, recurses := true, plainKeys := false, apart := false, narrowed := true }
def NodeSplitsUptoSaid : Prop := nodeSplitsUptoRow.holds Try.pinned (OpenSpec.upto nodeSplitsSpec)

/-- 'cellaretlaw06.OracleKeeps', WHERE WHAT IT READS IS OF BULK AT MOST 1048576: true; the input reads as it did. -/
def oracleKeepsUptoRow : OpenClaim := { program := "ytgcjchcmnlifmaa", sum := "f1240bab36468dc58aa032b6aa45bdf49d457cee65b422e75c15357e39999f2e", func := "cellaret/cellaretlaw06.OracleKeeps", spec := "oracleKeeps", unfollowed := true, recurses := true, plainKeys := false, apart := false, narrowed := true }
def OracleKeepsUptoSaid : Prop := oracleKeepsUptoRow.holds Try.pinned (OpenSpec.upto oracleKeepsSpec)

/-- 'cellaretlaw06.OracleNone', WHERE WHAT IT READS IS OF BULK AT MOST 1048576: true; the input reads as it did. -/
def oracleNoneUptoRow : OpenClaim := { program := "ytgcjchcmnlifmaa", sum := "f1240bab36468dc58aa032b6aa45bdf49d457cee65b422e75c15357e39999f2e", func := "cellaret/cellaretlaw06.OracleNone", spec := "oracleNone", unfollowed := true, recurses := true, plainKeys := false, apart := false, narrowed := true }
def OracleNoneUptoSaid : Prop := oracleNoneUptoRow.holds Try.pinned (OpenSpec.upto oracleNoneSpec)

/-- 'cellaretlaw14.ChainApart', WHERE WHAT IT READS IS OF BULK AT MOST 1048576: true; the input reads as it did. -/
def chainApartUptoRow : OpenClaim := { program := "ytgcjchcmnlifmaa", sum := "f1240bab36468dc58aa032b6aa45bdf49d457cee65b422e75c15357e39999f2e", func := "cellaret/cellaretlaw14.ChainApart", spec := "chainApart", unfollowed := true, recurses := true, plainKeys := false, apart := false, narrowed := true }
def ChainApartUptoSaid : Prop := chainApartUptoRow.holds Try.pinned (OpenSpec.upto chainApartSpec)

/-- 'cellaretlaw17.NodeBares', WHERE WHAT IT READS IS OF BULK AT MOST 1048576: true; the input reads as it did. -/
def nodeBaresUptoRow : OpenClaim := { program := "ytgcjchcmnlifmaa", sum := "f1240bab36468dc58aa032b6aa45bdf49d457cee65b422e75c15357e39999f2e", func := "cellaret/cellaretlaw17.NodeBares", spec := "nodeBares", unfollowed := true, recurses := true, plainKeys := false, apart := false, narrowed := true }
def NodeBaresUptoSaid : Prop := nodeBaresUptoRow.holds Try.pinned (OpenSpec.upto nodeBaresSpec)

/-- 'cellaretlaw17.NodeApart', WHERE WHAT IT READS IS OF BULK AT MOST 1048576: true; the input reads as it did. -/
def nodeApartUptoRow : OpenClaim := { program := "ytgcjchcmnlifmaa", sum := "f1240bab36468dc58aa032b6aa45bdf49d457cee65b422e75c15357e39999f2e", func := "cellaret/cellaretlaw17.NodeApart", spec := "nodeApart", unfollowed := true, recurses := true, plainKeys := false, apart := false, narrowed := true }
def NodeApartUptoSaid : Prop := nodeApartUptoRow.holds Try.pinned (OpenSpec.upto nodeApartSpec)

end Rows
end Go.Proofs.Ytgcjchcmnlifmaa
