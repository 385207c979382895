/- A text of this proof. -/
import Derived.Test.YtgcjchcmnlifmaaRows
import Derived.KernelRfl
import Derived.Test.YtgcjchcmnlifmaaSha
import Derived.Test.YtgcjchcmnlifmaaNodeB
import Derived.Test.YtgcjchcmnlifmaaAbsE

/- The functions of this seat come to what is told of them: each one's code is what its printed text says (checked by the kernel), and the text is proved. Conditions: none. -/
namespace Go.Proofs.Ytgcjchcmnlifmaa.own
open Go Go.Abs Go.Sh
theorem mixed : Try.prog.follows .mixedOrders = true := by kernel_rfl
def l0 : List (Nat × Bool × Abs.Spec) := []
theorem ok0 : SpecsOk Try.prog (spOf l0) := SpecsOk.nil
def sha_Words.cuts : Cuts := fun k => match k with | _ => none
theorem sha_Words.eq (H : AHeap) (K : AVal → AHeap → Prop) : evFn Try.prog (spOf l0) sha_Words.cuts Try.f34 [] H K = sha_Words.w H K := by kernel_rfl
theorem sha_Words.fn : FnOk Try.prog 34 S_sha_Words := fn_ok0 ok0 mixed (T := sha_Words.cuts) Try.func34 (enters_of Try.func34 (by kernel_rfl) (by kernel_rfl)) sha_Words.ok sha_Words.eq
def l1 : List (Nat × Bool × Abs.Spec) := (34, true, S_sha_Words) :: l0
theorem ok1 : SpecsOk Try.prog (spOf l1) := SpecsOk.cons ok0 sha_Words.fn (fun _ args H r H' h => sha_Words.quiet h)
def sha_constants.cuts : Cuts := fun k => match k with | _ => none
theorem sha_constants.eq (H : AHeap) (K : AVal → AHeap → Prop) : evFn Try.prog (spOf l1) sha_constants.cuts Try.f79 [] H K = sha_constants.w H K := by kernel_rfl
theorem sha_constants.fn : FnOk Try.prog 79 S_sha_constants := fn_ok0 ok1 mixed (T := sha_constants.cuts) Try.func79 (enters_of Try.func79 (by kernel_rfl) (by kernel_rfl)) sha_constants.ok sha_constants.eq
def l2 : List (Nat × Bool × Abs.Spec) := (79, true, S_sha_constants) :: l1
theorem ok2 : SpecsOk Try.prog (spOf l2) := SpecsOk.cons ok1 sha_constants.fn (fun _ args H r H' h => sha_constants.quiet h)
def sha_work.cuts : Cuts := fun k => match k with | 3 => some ⟨[26], [], [(.exit 0)]⟩ | 8 => some ⟨[7], [], [(.exit 2)]⟩ | 17 => some ⟨[13, 14, 15, 16, 17, 18, 19, 20, 133], [13, 14, 15, 16, 17, 18, 19, 20], [(.exit 4)]⟩ | _ => none
theorem sha_work.eq (x0 x1 : AVal) (H : AHeap) (K : AVal → AHeap → Prop) : evFn Try.prog (spOf l2) sha_work.cuts Try.f69 [x0, x1] H K = sha_work.w x0 x1 H K := by kernel_rfl
theorem sha_work.fn : FnOk Try.prog 69 S_sha_work := fn_ok2 ok2 mixed (T := sha_work.cuts) Try.func69 (enters_of Try.func69 (by kernel_rfl) (by kernel_rfl)) sha_work.ok sha_work.eq
def l3 : List (Nat × Bool × Abs.Spec) := (69, true, S_sha_work) :: l2
theorem ok3 : SpecsOk Try.prog (spOf l3) := SpecsOk.cons ok2 sha_work.fn (fun _ args H r H' h => sha_work.quiet h)
def sha_tail.cuts : Cuts := fun k => match k with | 2 => some ⟨[3], [3], [(.exit 0)]⟩ | 6 => some ⟨[3, 5], [3], [(.exit 2)]⟩ | _ => none
theorem sha_tail.eq (x0 : AVal) (H : AHeap) (K : AVal → AHeap → Prop) : evFn Try.prog (spOf l3) sha_tail.cuts Try.f70 [x0] H K = sha_tail.w x0 H K := by kernel_rfl
theorem sha_tail.fn : FnOk Try.prog 70 S_sha_tail := fn_ok1 ok3 mixed (T := sha_tail.cuts) Try.func70 (enters_of Try.func70 (by kernel_rfl) (by kernel_rfl)) sha_tail.ok sha_tail.eq
def l4 : List (Nat × Bool × Abs.Spec) := (70, true, S_sha_tail) :: l3
theorem ok4 : SpecsOk Try.prog (spOf l4) := SpecsOk.cons ok3 sha_tail.fn (fun _ args H r H' h => sha_tail.quiet h)
def sha_digest.cuts : Cuts := fun k => match k with | 3 => some ⟨[7], [], [(.exit 0)]⟩ | _ => none
theorem sha_digest.eq (x0 : AVal) (H : AHeap) (K : AVal → AHeap → Prop) : evFn Try.prog (spOf l4) sha_digest.cuts Try.f72 [x0] H K = sha_digest.w x0 H K := by kernel_rfl
theorem sha_digest.fn : FnOk Try.prog 72 S_sha_digest := fn_ok1 ok4 mixed (T := sha_digest.cuts) Try.func72 (enters_of Try.func72 (by kernel_rfl) (by kernel_rfl)) sha_digest.ok sha_digest.eq
def l5 : List (Nat × Bool × Abs.Spec) := (72, true, S_sha_digest) :: l4
theorem ok5 : SpecsOk Try.prog (spOf l5) := SpecsOk.cons ok4 sha_digest.fn (fun _ args H r H' h => sha_digest.quiet h)
def sha_Sum.cuts : Cuts := fun k => match k with | 3 => some ⟨[0], [0], [(.exit 0)]⟩ | 7 => some ⟨[0], [], [(.exit 2)]⟩ | _ => none
theorem sha_Sum.eq (x0 : AVal) (H : AHeap) (K : AVal → AHeap → Prop) : evFn Try.prog (spOf l5) sha_Sum.cuts Try.f24 [x0] H K = sha_Sum.w x0 H K := by kernel_rfl
theorem sha_Sum.fn : FnOk Try.prog 24 S_sha_Sum := fn_ok1 ok5 mixed (T := sha_Sum.cuts) Try.func24 (enters_of Try.func24 (by kernel_rfl) (by kernel_rfl)) sha_Sum.ok sha_Sum.eq
def l6 : List (Nat × Bool × Abs.Spec) := (24, true, S_sha_Sum) :: l5
theorem ok6 : SpecsOk Try.prog (spOf l6) := SpecsOk.cons ok5 sha_Sum.fn (fun _ args H r H' h => sha_Sum.quiet h)
def oracle_New.cuts : Cuts := fun k => match k with | _ => none
theorem oracle_New.eq (H : AHeap) (K : AVal → AHeap → Prop) : evFn Try.prog (spOf l6) oracle_New.cuts Try.f41 [] H K = oracle_New.w H K := by kernel_rfl
theorem oracle_New.fn : FnOk Try.prog 41 S_oracle_New := fn_ok0E ok6 mixed (T := oracle_New.cuts) Try.func41 (enters_of Try.func41 (by kernel_rfl) (by kernel_rfl)) oracle_New.ok oracle_New.eq
def l7 : List (Nat × Bool × Abs.Spec) := (41, true, S_oracle_New) :: l6
theorem ok7 : SpecsOk Try.prog (spOf l7) := SpecsOk.cons ok6 oracle_New.fn (fun _ args H r H' h => oracle_New.quiet h)
def oracle_Oracle_Sum.cuts : Cuts := fun k => match k with | 1000004 => some ⟨[], [], [.normal]⟩ | _ => none
theorem oracle_Oracle_Sum.eq (x0 x1 : AVal) (H : AHeap) (K : AVal → AHeap → Prop) : evFn Try.prog (spOf l7) oracle_Oracle_Sum.cuts Try.f52 [x0, x1] H K = oracle_Oracle_Sum.w x0 x1 H K := by kernel_rfl
theorem oracle_Oracle_Sum.fn : FnOk Try.prog 52 S_oracle_Oracle_Sum := fn_ok2 ok7 mixed (T := oracle_Oracle_Sum.cuts) Try.func52 (enters_of Try.func52 (by kernel_rfl) (by kernel_rfl)) oracle_Oracle_Sum.ok oracle_Oracle_Sum.eq
def l8 : List (Nat × Bool × Abs.Spec) := (52, false, S_oracle_Oracle_Sum) :: l7
theorem ok8 : SpecsOk Try.prog (spOf l8) := SpecsOk.cons ok7 oracle_Oracle_Sum.fn (fun h => by cases h)
def cellaretref01_Zeros.cuts : Cuts := fun k => match k with | _ => none
theorem cellaretref01_Zeros.eq (x0 : AVal) (H : AHeap) (K : AVal → AHeap → Prop) : evFn Try.prog (spOf l8) cellaretref01_Zeros.cuts Try.f67 [x0] H K = cellaretref01_Zeros.w x0 H K := by kernel_rfl
theorem cellaretref01_Zeros.fn : FnOk Try.prog 67 S_cellaretref01_Zeros := fn_ok1 ok8 mixed (T := cellaretref01_Zeros.cuts) Try.func67 (enters_of Try.func67 (by kernel_rfl) (by kernel_rfl)) cellaretref01_Zeros.ok cellaretref01_Zeros.eq
def l9 : List (Nat × Bool × Abs.Spec) := (67, true, S_cellaretref01_Zeros) :: l8
theorem ok9 : SpecsOk Try.prog (spOf l9) := SpecsOk.cons ok8 cellaretref01_Zeros.fn (fun _ args H r H' h => cellaretref01_Zeros.quiet h)
def cellaretref01_Ints.cuts : Cuts := fun k => match k with | 4 => some ⟨[5], [4], [(.exit 0), .ret]⟩ | _ => none
theorem cellaretref01_Ints.eq (x0 x1 : AVal) (H : AHeap) (K : AVal → AHeap → Prop) : evFn Try.prog (spOf l9) cellaretref01_Ints.cuts Try.f81 [x0, x1] H K = cellaretref01_Ints.w x0 x1 H K := by kernel_rfl
theorem cellaretref01_Ints.fn : FnOk Try.prog 81 S_cellaretref01_Ints := fn_ok2 ok9 mixed (T := cellaretref01_Ints.cuts) Try.func81 (enters_of Try.func81 (by kernel_rfl) (by kernel_rfl)) cellaretref01_Ints.ok cellaretref01_Ints.eq
def l10 : List (Nat × Bool × Abs.Spec) := (81, true, S_cellaretref01_Ints) :: l9
theorem ok10 : SpecsOk Try.prog (spOf l10) := SpecsOk.cons ok9 cellaretref01_Ints.fn (fun _ args H r H' h => cellaretref01_Ints.quiet h)
def node_Path.cuts : Cuts := fun k => match k with | 1000001 => some ⟨[], [2, 3], [.normal, .ret]⟩ | 5 => some ⟨[4, 5], [4], [(.exit 0)]⟩ | _ => none
theorem node_Path.eq (x0 : AVal) (H : AHeap) (K : AVal → AHeap → Prop) : evFn Try.prog (spOf l10) node_Path.cuts Try.f43 [x0] H K = node_Path.w x0 H K := by kernel_rfl
theorem node_Path.fn : FnOk Try.prog 43 S_node_Path := fn_ok1 ok10 mixed (T := node_Path.cuts) Try.func43 (enters_of Try.func43 (by kernel_rfl) (by kernel_rfl)) node_Path.ok node_Path.eq
def l11 : List (Nat × Bool × Abs.Spec) := (43, true, S_node_Path) :: l10
theorem ok11 : SpecsOk Try.prog (spOf l11) := SpecsOk.cons ok10 node_Path.fn (fun _ args H r H' h => node_Path.quiet h)
def node_Side.cuts : Cuts := fun k => match k with | 1000001 => some ⟨[], [4, 5], [.normal, .ret]⟩ | 4 => some ⟨[6], [4, 5], [(.exit 0), .ret]⟩ | _ => none
theorem node_Side.eq (x0 x1 : AVal) (H : AHeap) (K : AVal → AHeap → Prop) : evFn Try.prog (spOf l11) node_Side.cuts Try.f44 [x0, x1] H K = node_Side.w x0 x1 H K := by kernel_rfl
theorem node_Side.fn : FnOk Try.prog 44 S_node_Side := fn_ok2 ok11 mixed (T := node_Side.cuts) Try.func44 (enters_of Try.func44 (by kernel_rfl) (by kernel_rfl)) node_Side.ok node_Side.eq
def l12 : List (Nat × Bool × Abs.Spec) := (44, true, S_node_Side) :: l11
theorem ok12 : SpecsOk Try.prog (spOf l12) := SpecsOk.cons ok11 node_Side.fn (fun _ args H r H' h => node_Side.quiet h)
def node_Below.cuts : Cuts := fun k => match k with | 1000001 => some ⟨[], [4, 5, 6], [.normal, .ret]⟩ | _ => none
theorem node_Below.eq (x0 x1 : AVal) (H : AHeap) (K : AVal → AHeap → Prop) : evFn Try.prog (spOf l12) node_Below.cuts Try.f45 [x0, x1] H K = node_Below.w x0 x1 H K := by kernel_rfl
theorem node_Below.fn : FnOk Try.prog 45 S_node_Below := fn_ok2 ok12 mixed (T := node_Below.cuts) Try.func45 (enters_of Try.func45 (by kernel_rfl) (by kernel_rfl)) node_Below.ok node_Below.eq
def l13 : List (Nat × Bool × Abs.Spec) := (45, true, S_node_Below) :: l12
theorem ok13 : SpecsOk Try.prog (spOf l13) := SpecsOk.cons ok12 node_Below.fn (fun _ args H r H' h => node_Below.quiet h)
def node_sum.cuts : Cuts := fun k => match k with | _ => none
theorem node_sum.eq (x0 x1 : AVal) (H : AHeap) (K : AVal → AHeap → Prop) : evFn Try.prog (spOf l13) node_sum.cuts Try.f82 [x0, x1] H K = node_sum.w x0 x1 H K := by kernel_rfl
theorem node_sum.fn : FnOk Try.prog 82 S_node_sum := fn_ok2 ok13 mixed (T := node_sum.cuts) Try.func82 (enters_of Try.func82 (by kernel_rfl) (by kernel_rfl)) node_sum.ok node_sum.eq
def l14 : List (Nat × Bool × Abs.Spec) := (82, false, S_node_sum) :: l13
theorem ok14 : SpecsOk Try.prog (spOf l14) := SpecsOk.cons ok13 node_sum.fn (fun h => by cases h)
def node_Leaf.cuts : Cuts := fun k => match k with | _ => none
theorem node_Leaf.eq (x0 x1 : AVal) (H : AHeap) (K : AVal → AHeap → Prop) : evFn Try.prog (spOf l14) node_Leaf.cuts Try.f40 [x0, x1] H K = node_Leaf.w x0 x1 H K := by kernel_rfl
theorem node_Leaf.fn : FnOk Try.prog 40 S_node_Leaf := fn_ok2 ok14 mixed (T := node_Leaf.cuts) Try.func40 (enters_of Try.func40 (by kernel_rfl) (by kernel_rfl)) node_Leaf.ok node_Leaf.eq
def l15 : List (Nat × Bool × Abs.Spec) := (40, false, S_node_Leaf) :: l14
theorem ok15 : SpecsOk Try.prog (spOf l15) := SpecsOk.cons ok14 node_Leaf.fn (fun h => by cases h)
def node_Node.cuts : Cuts := fun k => match k with | _ => none
theorem node_Node.eq (x0 x1 : AVal) (H : AHeap) (K : AVal → AHeap → Prop) : evFn Try.prog (spOf l15) node_Node.cuts Try.f42 [x0, x1] H K = node_Node.w x0 x1 H K := by kernel_rfl
theorem node_Node.fn : FnOk Try.prog 42 S_node_Node := fn_ok2 ok15 mixed (T := node_Node.cuts) Try.func42 (enters_of Try.func42 (by kernel_rfl) (by kernel_rfl)) node_Node.ok node_Node.eq
def l16 : List (Nat × Bool × Abs.Spec) := (42, false, S_node_Node) :: l15
theorem ok16 : SpecsOk Try.prog (spOf l16) := SpecsOk.cons ok15 node_Node.fn (fun h => by cases h)
def node_may.cuts : Cuts := fun k => match k with | _ => none
theorem node_may.eq (x0 x1 : AVal) (H : AHeap) (K : AVal → AHeap → Prop) : evFn Try.prog (spOf l16) node_may.cuts Try.f88 [x0, x1] H K = node_may.w x0 x1 H K := by kernel_rfl
theorem node_may.fn : FnOk Try.prog 88 S_node_may := fn_ok2 ok16 mixed (T := node_may.cuts) Try.func88 (enters_of Try.func88 (by kernel_rfl) (by kernel_rfl)) node_may.ok node_may.eq
def l17 : List (Nat × Bool × Abs.Spec) := (88, true, S_node_may) :: l16
theorem ok17 : SpecsOk Try.prog (spOf l17) := SpecsOk.cons ok16 node_may.fn (fun _ args H r H' h => node_may.quiet h)
def node_Split.cuts : Cuts := fun k => match k with | _ => none
theorem node_Split.eq (x0 x1 : AVal) (H : AHeap) (K : AVal → AHeap → Prop) : evFn Try.prog (spOf l17) node_Split.cuts Try.f57 [x0, x1] H K = node_Split.w x0 x1 H K := by kernel_rfl
theorem node_Split.fn : FnOk Try.prog 57 S_node_Split := fn_ok2 ok17 mixed (T := node_Split.cuts) Try.func57 (enters_of Try.func57 (by kernel_rfl) (by kernel_rfl)) node_Split.ok node_Split.eq
def l18 : List (Nat × Bool × Abs.Spec) := (57, true, S_node_Split) :: l17
theorem ok18 : SpecsOk Try.prog (spOf l18) := SpecsOk.cons ok17 node_Split.fn (fun _ args H r H' h => node_Split.quiet h)
def node_With.cuts : Cuts := fun k => match k with | _ => none
theorem node_With.eq (x0 x1 x2 : AVal) (H : AHeap) (K : AVal → AHeap → Prop) : evFn Try.prog (spOf l18) node_With.cuts Try.f58 [x0, x1, x2] H K = node_With.w x0 x1 x2 H K := by kernel_rfl
theorem node_With.fn : FnOk Try.prog 58 S_node_With := fn_ok3 ok18 mixed (T := node_With.cuts) Try.func58 (enters_of Try.func58 (by kernel_rfl) (by kernel_rfl)) node_With.ok node_With.eq
def l19 : List (Nat × Bool × Abs.Spec) := (58, true, S_node_With) :: l18
theorem ok19 : SpecsOk Try.prog (spOf l19) := SpecsOk.cons ok18 node_With.fn (fun _ args H r H' h => node_With.quiet h)
def cellaretlaw17_awake.cuts : Cuts := fun k => match k with | _ => none
theorem cellaretlaw17_awake.eq (H : AHeap) (K : AVal → AHeap → Prop) : evFn Try.prog (spOf l19) cellaretlaw17_awake.cuts Try.f39 [] H K = cellaretlaw17_awake.w H K := by kernel_rfl
theorem cellaretlaw17_awake.fn : FnOk Try.prog 39 S_cellaretlaw17_awake := fn_ok0 ok19 mixed (T := cellaretlaw17_awake.cuts) Try.func39 (enters_of Try.func39 (by kernel_rfl) (by kernel_rfl)) cellaretlaw17_awake.ok cellaretlaw17_awake.eq
def l20 : List (Nat × Bool × Abs.Spec) := (39, true, S_cellaretlaw17_awake) :: l19
theorem ok20 : SpecsOk Try.prog (spOf l20) := SpecsOk.cons ok19 cellaretlaw17_awake.fn (fun _ args H r H' h => cellaretlaw17_awake.quiet h)
def cellaretlaw17_NodePaths.cuts : Cuts := fun k => match k with | 2000004 => some ⟨[], [14], [.normal]⟩ | 1000005 => some ⟨[], [6], [.normal, .ret]⟩ | 1000007 => some ⟨[], [6], [.normal, .ret]⟩ | 1000011 => some ⟨[], [6], [.normal, .ret]⟩ | 1000013 => some ⟨[], [6], [.normal, .ret]⟩ | 17 => some ⟨[16, 17], [6, 16], [(.exit 0), .ret]⟩ | 1000021 => some ⟨[], [6], [.normal, .ret]⟩ | _ => none
theorem cellaretlaw17_NodePaths.eq (x0 x1 x2 : AVal) (H : AHeap) (K : AVal → AHeap → Prop) : evFn Try.prog (spOf l20) cellaretlaw17_NodePaths.cuts Try.f10 [x0, x1, x2] H K = cellaretlaw17_NodePaths.w x0 x1 x2 H K := by kernel_rfl
theorem cellaretlaw17_NodePaths.fn : FnOk Try.prog 10 S_cellaretlaw17_NodePaths := fn_ok3 ok20 mixed (T := cellaretlaw17_NodePaths.cuts) Try.func10 (enters_of Try.func10 (by kernel_rfl) (by kernel_rfl)) cellaretlaw17_NodePaths.ok cellaretlaw17_NodePaths.eq
def l21 : List (Nat × Bool × Abs.Spec) := (10, true, S_cellaretlaw17_NodePaths) :: l20
theorem ok21 : SpecsOk Try.prog (spOf l21) := SpecsOk.cons ok20 cellaretlaw17_NodePaths.fn (fun _ args H r H' h => cellaretlaw17_NodePaths.quiet h)
def cellaretlaw17_NodeSplits.cuts : Cuts := fun k => match k with | _ => none
theorem cellaretlaw17_NodeSplits.eq (x0 x1 x2 : AVal) (H : AHeap) (K : AVal → AHeap → Prop) : evFn Try.prog (spOf l21) cellaretlaw17_NodeSplits.cuts Try.f15 [x0, x1, x2] H K = cellaretlaw17_NodeSplits.w x0 x1 x2 H K := by kernel_rfl
theorem cellaretlaw17_NodeSplits.fn : FnOk Try.prog 15 S_cellaretlaw17_NodeSplits := fn_ok3 ok21 mixed (T := cellaretlaw17_NodeSplits.cuts) Try.func15 (enters_of Try.func15 (by kernel_rfl) (by kernel_rfl)) cellaretlaw17_NodeSplits.ok cellaretlaw17_NodeSplits.eq
def l22 : List (Nat × Bool × Abs.Spec) := (15, true, S_cellaretlaw17_NodeSplits) :: l21
theorem ok22 : SpecsOk Try.prog (spOf l22) := SpecsOk.cons ok21 cellaretlaw17_NodeSplits.fn (fun _ args H r H' h => cellaretlaw17_NodeSplits.quiet h)
def cellaretlaw17_NodeSums.cuts : Cuts := fun k => match k with | _ => none
theorem cellaretlaw17_NodeSums.eq (x0 : AVal) (H : AHeap) (K : AVal → AHeap → Prop) : evFn Try.prog (spOf l22) cellaretlaw17_NodeSums.cuts Try.f9 [x0] H K = cellaretlaw17_NodeSums.w x0 H K := by kernel_rfl
theorem cellaretlaw17_NodeSums.fn : FnOk Try.prog 9 S_cellaretlaw17_NodeSums := fn_ok1 ok22 mixed (T := cellaretlaw17_NodeSums.cuts) Try.func9 (enters_of Try.func9 (by kernel_rfl) (by kernel_rfl)) cellaretlaw17_NodeSums.ok cellaretlaw17_NodeSums.eq
def l23 : List (Nat × Bool × Abs.Spec) := (9, true, S_cellaretlaw17_NodeSums) :: l22
theorem ok23 : SpecsOk Try.prog (spOf l23) := SpecsOk.cons ok22 cellaretlaw17_NodeSums.fn (fun _ args H r H' h => cellaretlaw17_NodeSums.quiet h)
end Go.Proofs.Ytgcjchcmnlifmaa.own
