/- A text of this proof. -/
import Derived.Test.YtchfbhiaboggmaaRows
import Derived.KernelRfl
import Derived.Test.YtchfbhiaboggmaaTrN
import Derived.Test.YtchfbhiaboggmaaBar
import Derived.Test.YtchfbhiaboggmaaNod
import Derived.Test.YtchfbhiaboggmaaChain
import Derived.Test.YtchfbhiaboggmaaAbsE
import Derived.Test.YtchfbhiaboggmaaAbsF
import Derived.Test.YtchfbhiaboggmaaAbsH
import Derived.Test.YtchfbhiaboggmaaS18

/- The functions of this seat come to what is told of them: each one's code is what its printed text says (checked by the kernel), and the text is proved. Conditions: none. -/
namespace Go.Proofs.Ytchfbhiaboggmaa.own
open Go Go.Abs Go.Sh
theorem mixed : Try.prog.follows .mixedOrders = true := by kernel_rfl
def l0 : List (Nat × Bool × Abs.Spec) := []
theorem ok0 : SpecsOk Try.prog (spOf l0) := SpecsOk.nil
def cellaretref01_Zeros.cuts : Cuts := fun k => match k with | _ => none
theorem cellaretref01_Zeros.eq (x0 : AVal) (H : AHeap) (K : AVal → AHeap → Prop) : evFn Try.prog (spOf l0) cellaretref01_Zeros.cuts Try.f52 [x0] H K = cellaretref01_Zeros.w x0 H K := by kernel_rfl
theorem cellaretref01_Zeros.fn : FnOk Try.prog 52 S_cellaretref01_Zeros := fn_ok1 ok0 mixed (T := cellaretref01_Zeros.cuts) Try.func52 (Abs.enters_of Try.func52 (by kernel_rfl) (by kernel_rfl)) cellaretref01_Zeros.ok cellaretref01_Zeros.eq
def l1 : List (Nat × Bool × Abs.Spec) := (52, true, S_cellaretref01_Zeros) :: l0
theorem ok1 : SpecsOk Try.prog (spOf l1) := SpecsOk.cons ok0 cellaretref01_Zeros.fn (fun _ _ _ _ _ h => cellaretref01_Zeros.quiet h)
def cellaretref01_Full.cuts : Cuts := fun k => match k with | _ => none
theorem cellaretref01_Full.eq (x0 x1 : AVal) (H : AHeap) (K : AVal → AHeap → Prop) : evFn Try.prog (spOf l1) cellaretref01_Full.cuts Try.f25 [x0, x1] H K = cellaretref01_Full.w x0 x1 H K := by kernel_rfl
theorem cellaretref01_Full.fn : FnOk Try.prog 25 S_cellaretref01_Full := fn_ok2 ok1 mixed (T := cellaretref01_Full.cuts) Try.func25 (Abs.enters_of Try.func25 (by kernel_rfl) (by kernel_rfl)) cellaretref01_Full.ok cellaretref01_Full.eq
def l2 : List (Nat × Bool × Abs.Spec) := (25, true, S_cellaretref01_Full) :: l1
theorem ok2 : SpecsOk Try.prog (spOf l2) := SpecsOk.cons ok1 cellaretref01_Full.fn (fun _ _ _ _ _ h => cellaretref01_Full.quiet h)
def sha_Words.cuts : Cuts := fun k => match k with | _ => none
theorem sha_Words.eq (H : AHeap) (K : AVal → AHeap → Prop) : evFn Try.prog (spOf l2) sha_Words.cuts Try.f71 [] H K = sha_Words.w H K := by kernel_rfl
theorem sha_Words.fn : FnOk Try.prog 71 S_sha_Words := fn_ok0 ok2 mixed (T := sha_Words.cuts) Try.func71 (Abs.enters_of Try.func71 (by kernel_rfl) (by kernel_rfl)) sha_Words.ok sha_Words.eq
def l3 : List (Nat × Bool × Abs.Spec) := (71, true, S_sha_Words) :: l2
theorem ok3 : SpecsOk Try.prog (spOf l3) := SpecsOk.cons ok2 sha_Words.fn (fun _ _ _ _ _ h => sha_Words.quiet h)
def sha_constants.cuts : Cuts := fun k => match k with | _ => none
theorem sha_constants.eq (H : AHeap) (K : AVal → AHeap → Prop) : evFn Try.prog (spOf l3) sha_constants.cuts Try.f87 [] H K = sha_constants.w H K := by kernel_rfl
theorem sha_constants.fn : FnOk Try.prog 87 S_sha_constants := fn_ok0 ok3 mixed (T := sha_constants.cuts) Try.func87 (Abs.enters_of Try.func87 (by kernel_rfl) (by kernel_rfl)) sha_constants.ok sha_constants.eq
def l4 : List (Nat × Bool × Abs.Spec) := (87, true, S_sha_constants) :: l3
theorem ok4 : SpecsOk Try.prog (spOf l4) := SpecsOk.cons ok3 sha_constants.fn (fun _ _ _ _ _ h => sha_constants.quiet h)
def sha_work.cuts : Cuts := fun k => match k with | 3 => some ⟨[26], [], [(.exit 0)]⟩ | 8 => some ⟨[7], [], [(.exit 2)]⟩ | 17 => some ⟨[13, 14, 15, 16, 17, 18, 19, 20, 133], [13, 14, 15, 16, 17, 18, 19, 20], [(.exit 4)]⟩ | _ => none
theorem sha_work.eq (x0 x1 : AVal) (H : AHeap) (K : AVal → AHeap → Prop) : evFn Try.prog (spOf l4) sha_work.cuts Try.f72 [x0, x1] H K = sha_work.w x0 x1 H K := by kernel_rfl
theorem sha_work.fn : FnOk Try.prog 72 S_sha_work := fn_ok2 ok4 mixed (T := sha_work.cuts) Try.func72 (Abs.enters_of Try.func72 (by kernel_rfl) (by kernel_rfl)) sha_work.ok sha_work.eq
def l5 : List (Nat × Bool × Abs.Spec) := (72, true, S_sha_work) :: l4
theorem ok5 : SpecsOk Try.prog (spOf l5) := SpecsOk.cons ok4 sha_work.fn (fun _ _ _ _ _ h => sha_work.quiet h)
def sha_tail.cuts : Cuts := fun k => match k with | 2 => some ⟨[3], [3], [(.exit 0)]⟩ | 6 => some ⟨[3, 5], [3], [(.exit 2)]⟩ | _ => none
theorem sha_tail.eq (x0 : AVal) (H : AHeap) (K : AVal → AHeap → Prop) : evFn Try.prog (spOf l5) sha_tail.cuts Try.f73 [x0] H K = sha_tail.w x0 H K := by kernel_rfl
theorem sha_tail.fn : FnOk Try.prog 73 S_sha_tail := fn_ok1 ok5 mixed (T := sha_tail.cuts) Try.func73 (Abs.enters_of Try.func73 (by kernel_rfl) (by kernel_rfl)) sha_tail.ok sha_tail.eq
def l6 : List (Nat × Bool × Abs.Spec) := (73, true, S_sha_tail) :: l5
theorem ok6 : SpecsOk Try.prog (spOf l6) := SpecsOk.cons ok5 sha_tail.fn (fun _ _ _ _ _ h => sha_tail.quiet h)
def sha_digest.cuts : Cuts := fun k => match k with | 3 => some ⟨[7], [], [(.exit 0)]⟩ | _ => none
theorem sha_digest.eq (x0 : AVal) (H : AHeap) (K : AVal → AHeap → Prop) : evFn Try.prog (spOf l6) sha_digest.cuts Try.f74 [x0] H K = sha_digest.w x0 H K := by kernel_rfl
theorem sha_digest.fn : FnOk Try.prog 74 S_sha_digest := fn_ok1 ok6 mixed (T := sha_digest.cuts) Try.func74 (Abs.enters_of Try.func74 (by kernel_rfl) (by kernel_rfl)) sha_digest.ok sha_digest.eq
def l7 : List (Nat × Bool × Abs.Spec) := (74, true, S_sha_digest) :: l6
theorem ok7 : SpecsOk Try.prog (spOf l7) := SpecsOk.cons ok6 sha_digest.fn (fun _ _ _ _ _ h => sha_digest.quiet h)
def sha_Sum.cuts : Cuts := fun k => match k with | 3 => some ⟨[0], [0], [(.exit 0)]⟩ | 7 => some ⟨[0], [], [(.exit 2)]⟩ | _ => none
theorem sha_Sum.eq (x0 : AVal) (H : AHeap) (K : AVal → AHeap → Prop) : evFn Try.prog (spOf l7) sha_Sum.cuts Try.f48 [x0] H K = sha_Sum.w x0 H K := by kernel_rfl
theorem sha_Sum.fn : FnOk Try.prog 48 S_sha_Sum := fn_ok1 ok7 mixed (T := sha_Sum.cuts) Try.func48 (Abs.enters_of Try.func48 (by kernel_rfl) (by kernel_rfl)) sha_Sum.ok sha_Sum.eq
def l8 : List (Nat × Bool × Abs.Spec) := (48, true, S_sha_Sum) :: l7
theorem ok8 : SpecsOk Try.prog (spOf l8) := SpecsOk.cons ok7 sha_Sum.fn (fun _ _ _ _ _ h => sha_Sum.quiet h)
def oracle_New.cuts : Cuts := fun k => match k with | _ => none
theorem oracle_New.eq (H : AHeap) (K : AVal → AHeap → Prop) : evFn Try.prog (spOf l8) oracle_New.cuts Try.f40 [] H K = oracle_New.w H K := by kernel_rfl
theorem oracle_New.fn : FnOk Try.prog 40 S_oracle_New := fn_ok0E ok8 mixed (T := oracle_New.cuts) Try.func40 (Abs.enters_of Try.func40 (by kernel_rfl) (by kernel_rfl)) oracle_New.ok oracle_New.eq
def l9 : List (Nat × Bool × Abs.Spec) := (40, true, S_oracle_New) :: l8
theorem ok9 : SpecsOk Try.prog (spOf l9) := SpecsOk.cons ok8 oracle_New.fn (fun _ _ _ _ _ h => oracle_New.quiet h)
def oracle_Oracle_Sum.cuts : Cuts := fun k => match k with | 1000004 => some ⟨[], [], [.normal]⟩ | _ => none
theorem oracle_Oracle_Sum.eq (x0 x1 : AVal) (H : AHeap) (K : AVal → AHeap → Prop) : evFn Try.prog (spOf l9) oracle_Oracle_Sum.cuts Try.f82 [x0, x1] H K = oracle_Oracle_Sum.w x0 x1 H K := by kernel_rfl
theorem oracle_Oracle_Sum.fn : FnOk Try.prog 82 S_oracle_Oracle_Sum := fn_ok2 ok9 mixed (T := oracle_Oracle_Sum.cuts) Try.func82 (Abs.enters_of Try.func82 (by kernel_rfl) (by kernel_rfl)) oracle_Oracle_Sum.ok oracle_Oracle_Sum.eq
def l10 : List (Nat × Bool × Abs.Spec) := (82, false, S_oracle_Oracle_Sum) :: l9
theorem ok10 : SpecsOk Try.prog (spOf l10) := SpecsOk.cons ok9 oracle_Oracle_Sum.fn (fun h => by cases h)
def node_Path.cuts : Cuts := fun k => match k with | 1000001 => some ⟨[], [2, 3], [.normal, .ret]⟩ | 5 => some ⟨[4, 5], [4], [(.exit 0)]⟩ | _ => none
theorem node_Path.eq (x0 : AVal) (H : AHeap) (K : AVal → AHeap → Prop) : evFn Try.prog (spOf l10) node_Path.cuts Try.f54 [x0] H K = node_Path.w x0 H K := by kernel_rfl
theorem node_Path.fn : FnOk Try.prog 54 S_node_Path := fn_ok1 ok10 mixed (T := node_Path.cuts) Try.func54 (Abs.enters_of Try.func54 (by kernel_rfl) (by kernel_rfl)) node_Path.ok node_Path.eq
def l11 : List (Nat × Bool × Abs.Spec) := (54, true, S_node_Path) :: l10
theorem ok11 : SpecsOk Try.prog (spOf l11) := SpecsOk.cons ok10 node_Path.fn (fun _ _ _ _ _ h => node_Path.quiet h)
def node_Side.cuts : Cuts := fun k => match k with | 1000001 => some ⟨[], [4, 5], [.normal, .ret]⟩ | 4 => some ⟨[6], [4, 5], [(.exit 0), .ret]⟩ | _ => none
theorem node_Side.eq (x0 x1 : AVal) (H : AHeap) (K : AVal → AHeap → Prop) : evFn Try.prog (spOf l11) node_Side.cuts Try.f56 [x0, x1] H K = node_Side.w x0 x1 H K := by kernel_rfl
theorem node_Side.fn : FnOk Try.prog 56 S_node_Side := fn_ok2 ok11 mixed (T := node_Side.cuts) Try.func56 (Abs.enters_of Try.func56 (by kernel_rfl) (by kernel_rfl)) node_Side.ok node_Side.eq
def l12 : List (Nat × Bool × Abs.Spec) := (56, true, S_node_Side) :: l11
theorem ok12 : SpecsOk Try.prog (spOf l12) := SpecsOk.cons ok11 node_Side.fn (fun _ _ _ _ _ h => node_Side.quiet h)
def node_sum.cuts : Cuts := fun k => match k with | _ => none
theorem node_sum.eq (x0 x1 : AVal) (H : AHeap) (K : AVal → AHeap → Prop) : evFn Try.prog (spOf l12) node_sum.cuts Try.f59 [x0, x1] H K = node_sum.w x0 x1 H K := by kernel_rfl
theorem node_sum.fn : FnOk Try.prog 59 S_node_sum := fn_ok2 ok12 mixed (T := node_sum.cuts) Try.func59 (Abs.enters_of Try.func59 (by kernel_rfl) (by kernel_rfl)) node_sum.ok node_sum.eq
def l13 : List (Nat × Bool × Abs.Spec) := (59, false, S_node_sum) :: l12
theorem ok13 : SpecsOk Try.prog (spOf l13) := SpecsOk.cons ok12 node_sum.fn (fun h => by cases h)
def node_Leaf.cuts : Cuts := fun k => match k with | _ => none
theorem node_Leaf.eq (x0 x1 : AVal) (H : AHeap) (K : AVal → AHeap → Prop) : evFn Try.prog (spOf l13) node_Leaf.cuts Try.f33 [x0, x1] H K = node_Leaf.w x0 x1 H K := by kernel_rfl
theorem node_Leaf.fn : FnOk Try.prog 33 S_node_Leaf := fn_ok2 ok13 mixed (T := node_Leaf.cuts) Try.func33 (Abs.enters_of Try.func33 (by kernel_rfl) (by kernel_rfl)) node_Leaf.ok node_Leaf.eq
def l14 : List (Nat × Bool × Abs.Spec) := (33, false, S_node_Leaf) :: l13
theorem ok14 : SpecsOk Try.prog (spOf l14) := SpecsOk.cons ok13 node_Leaf.fn (fun h => by cases h)
def node_Node.cuts : Cuts := fun k => match k with | _ => none
theorem node_Node.eq (x0 x1 : AVal) (H : AHeap) (K : AVal → AHeap → Prop) : evFn Try.prog (spOf l14) node_Node.cuts Try.f62 [x0, x1] H K = node_Node.w x0 x1 H K := by kernel_rfl
theorem node_Node.fn : FnOk Try.prog 62 S_node_Node := fn_ok2 ok14 mixed (T := node_Node.cuts) Try.func62 (Abs.enters_of Try.func62 (by kernel_rfl) (by kernel_rfl)) node_Node.ok node_Node.eq
def l15 : List (Nat × Bool × Abs.Spec) := (62, false, S_node_Node) :: l14
theorem ok15 : SpecsOk Try.prog (spOf l15) := SpecsOk.cons ok14 node_Node.fn (fun h => by cases h)
def node_may.cuts : Cuts := fun k => match k with | _ => none
theorem node_may.eq (x0 x1 : AVal) (H : AHeap) (K : AVal → AHeap → Prop) : evFn Try.prog (spOf l15) node_may.cuts Try.f79 [x0, x1] H K = node_may.w x0 x1 H K := by kernel_rfl
theorem node_may.fn : FnOk Try.prog 79 S_node_may := fn_ok2 ok15 mixed (T := node_may.cuts) Try.func79 (Abs.enters_of Try.func79 (by kernel_rfl) (by kernel_rfl)) node_may.ok node_may.eq
def l16 : List (Nat × Bool × Abs.Spec) := (79, true, S_node_may) :: l15
theorem ok16 : SpecsOk Try.prog (spOf l16) := SpecsOk.cons ok15 node_may.fn (fun _ _ _ _ _ h => node_may.quiet h)
def node_Split.cuts : Cuts := fun k => match k with | _ => none
theorem node_Split.eq (x0 x1 : AVal) (H : AHeap) (K : AVal → AHeap → Prop) : evFn Try.prog (spOf l16) node_Split.cuts Try.f57 [x0, x1] H K = node_Split.w x0 x1 H K := by kernel_rfl
theorem node_Split.fn : FnOk Try.prog 57 S_node_Split := fn_ok2 ok16 mixed (T := node_Split.cuts) Try.func57 (Abs.enters_of Try.func57 (by kernel_rfl) (by kernel_rfl)) node_Split.ok node_Split.eq
def l17 : List (Nat × Bool × Abs.Spec) := (57, true, S_node_Split) :: l16
theorem ok17 : SpecsOk Try.prog (spOf l17) := SpecsOk.cons ok16 node_Split.fn (fun _ _ _ _ _ h => node_Split.quiet h)
def node_With.cuts : Cuts := fun k => match k with | _ => none
theorem node_With.eq (x0 x1 x2 : AVal) (H : AHeap) (K : AVal → AHeap → Prop) : evFn Try.prog (spOf l17) node_With.cuts Try.f60 [x0, x1, x2] H K = node_With.w x0 x1 x2 H K := by kernel_rfl
theorem node_With.fn : FnOk Try.prog 60 S_node_With := fn_ok3 ok17 mixed (T := node_With.cuts) Try.func60 (Abs.enters_of Try.func60 (by kernel_rfl) (by kernel_rfl)) node_With.ok node_With.eq
def l18 : List (Nat × Bool × Abs.Spec) := (60, true, S_node_With) :: l17
theorem ok18 : SpecsOk Try.prog (spOf l18) := SpecsOk.cons ok17 node_With.fn (fun _ _ _ _ _ h => node_With.quiet h)
def node_bare.cuts : Cuts := fun k => match k with | 4 => some ⟨[5, 17], [5], [(.exit 0)]⟩ | _ => none
theorem node_bare.eq (x0 x1 : AVal) (H : AHeap) (K : AVal → AHeap → Prop) : evFn Try.prog (spOf l18) node_bare.cuts Try.f63 [x0, x1] H K = node_bare.w x0 x1 H K := by kernel_rfl
theorem node_bare.fn : FnOk Try.prog 63 S_node_bare := fn_ok2 ok18 mixed (T := node_bare.cuts) Try.func63 (Abs.enters_of Try.func63 (by kernel_rfl) (by kernel_rfl)) node_bare.ok node_bare.eq
def l19 : List (Nat × Bool × Abs.Spec) := (63, false, S_node_bare) :: l18
theorem ok19 : SpecsOk Try.prog (spOf l19) := SpecsOk.cons ok18 node_bare.fn (fun h => by cases h)
def node_Bare.cuts : Cuts := fun k => match k with | 1000001 => some ⟨[], [4, 6], [.normal, .ret]⟩ | 1000005 => some ⟨[], [], [.normal]⟩ | _ => none
theorem node_Bare.eq (x0 x1 : AVal) (H : AHeap) (K : AVal → AHeap → Prop) : evFn Try.prog (spOf l19) node_Bare.cuts Try.f41 [x0, x1] H K = node_Bare.w x0 x1 H K := by kernel_rfl
theorem node_Bare.fn : FnOk Try.prog 41 S_node_Bare := fn_ok2 ok19 mixed (T := node_Bare.cuts) Try.func41 (Abs.enters_of Try.func41 (by kernel_rfl) (by kernel_rfl)) node_Bare.ok node_Bare.eq
def l20 : List (Nat × Bool × Abs.Spec) := (41, false, S_node_Bare) :: l19
theorem ok20 : SpecsOk Try.prog (spOf l20) := SpecsOk.cons ok19 node_Bare.fn (fun h => by cases h)
def node_High.cuts : Cuts := fun k => match k with | 1000001 => some ⟨[], [2, 3], [.normal, .ret]⟩ | 4 => some ⟨[0, 4], [4], [(.exit 0)]⟩ | _ => none
theorem node_High.eq (x0 : AVal) (H : AHeap) (K : AVal → AHeap → Prop) : evFn Try.prog (spOf l20) node_High.cuts Try.f42 [x0] H K = node_High.w x0 H K := by kernel_rfl
theorem node_High.fn : FnOk Try.prog 42 S_node_High := fn_ok1 ok20 mixed (T := node_High.cuts) Try.func42 (Abs.enters_of Try.func42 (by kernel_rfl) (by kernel_rfl)) node_High.ok node_High.eq
def l21 : List (Nat × Bool × Abs.Spec) := (42, false, S_node_High) :: l20
theorem ok21 : SpecsOk Try.prog (spOf l21) := SpecsOk.cons ok20 node_High.fn (fun h => by cases h)
def dev_New.cuts : Cuts := fun k => match k with | 1000001 => some ⟨[], [2, 3], [.normal, .ret]⟩ | 6 => some ⟨[17], [], [(.exit 0)]⟩ | _ => none
theorem dev_New.eq (x0 : AVal) (H : AHeap) (K : AVal → AHeap → Prop) : evFn Try.prog (spOf l21) dev_New.cuts Try.f37 [x0] H K = dev_New.w x0 H K := by kernel_rfl
theorem dev_New.fn : FnOk Try.prog 37 S_dev_New := fn_ok1E ok21 mixed (T := dev_New.cuts) Try.func37 (Abs.enters_of Try.func37 (by kernel_rfl) (by kernel_rfl)) dev_New.ok dev_New.eq
def l22 : List (Nat × Bool × Abs.Spec) := (37, true, S_dev_New) :: l21
theorem ok22 : SpecsOk Try.prog (spOf l22) := SpecsOk.cons ok21 dev_New.fn (fun _ _ _ _ _ h => dev_New.quiet h)
def dev_Dev_may.cuts : Cuts := fun k => match k with | _ => none
theorem dev_Dev_may.eq (x0 x1 x2 : AVal) (H : AHeap) (K : AVal → AHeap → Prop) : evFn Try.prog (spOf l22) dev_Dev_may.cuts Try.f76 [x0, x1, x2] H K = dev_Dev_may.w x0 x1 x2 H K := by kernel_rfl
theorem dev_Dev_may.fn : FnOk Try.prog 76 S_dev_Dev_may := fn_ok3E ok22 mixed (T := dev_Dev_may.cuts) Try.func76 (Abs.enters_of Try.func76 (by kernel_rfl) (by kernel_rfl)) dev_Dev_may.ok dev_Dev_may.eq
def l23 : List (Nat × Bool × Abs.Spec) := (76, true, S_dev_Dev_may) :: l22
theorem ok23 : SpecsOk Try.prog (spOf l23) := SpecsOk.cons ok22 dev_Dev_may.fn (fun _ _ _ _ _ h => dev_Dev_may.quiet h)
def dev_Dev_Read.cuts : Cuts := fun k => match k with | _ => none
theorem dev_Dev_Read.eq (x0 x1 : AVal) (H : AHeap) (K : AVal → AHeap → Prop) : evFn Try.prog (spOf l23) dev_Dev_Read.cuts Try.f81 [x0, x1] H K = dev_Dev_Read.w x0 x1 H K := by kernel_rfl
theorem dev_Dev_Read.fn : FnOk Try.prog 81 S_dev_Dev_Read := fn_ok2E ok23 mixed (T := dev_Dev_Read.cuts) Try.func81 (Abs.enters_of Try.func81 (by kernel_rfl) (by kernel_rfl)) dev_Dev_Read.ok dev_Dev_Read.eq
def l24 : List (Nat × Bool × Abs.Spec) := (81, true, S_dev_Dev_Read) :: l23
theorem ok24 : SpecsOk Try.prog (spOf l24) := SpecsOk.cons ok23 dev_Dev_Read.fn (fun _ _ _ _ _ h => dev_Dev_Read.quiet h)
def dev_Dev_Write.cuts : Cuts := fun k => match k with | _ => none
theorem dev_Dev_Write.eq (x0 x1 x2 : AVal) (H : AHeap) (K : AVal → AHeap → Prop) : evFn Try.prog (spOf l24) dev_Dev_Write.cuts Try.f66 [x0, x1, x2] H K = dev_Dev_Write.w x0 x1 x2 H K := by kernel_rfl
theorem dev_Dev_Write.fn : FnOk Try.prog 66 S_dev_Dev_Write := fn_ok3E ok24 mixed (T := dev_Dev_Write.cuts) Try.func66 (Abs.enters_of Try.func66 (by kernel_rfl) (by kernel_rfl)) dev_Dev_Write.ok dev_Dev_Write.eq
def l25 : List (Nat × Bool × Abs.Spec) := (66, false, S_dev_Dev_Write) :: l24
theorem ok25 : SpecsOk Try.prog (spOf l25) := SpecsOk.cons ok24 dev_Dev_Write.fn (fun h => by cases h)
def dev_Dev_Tamper.cuts : Cuts := fun k => match k with | _ => none
theorem dev_Dev_Tamper.eq (x0 x1 x2 : AVal) (H : AHeap) (K : AVal → AHeap → Prop) : evFn Try.prog (spOf l25) dev_Dev_Tamper.cuts Try.f51 [x0, x1, x2] H K = dev_Dev_Tamper.w x0 x1 x2 H K := by kernel_rfl
theorem dev_Dev_Tamper.fn : FnOk Try.prog 51 S_dev_Dev_Tamper := fn_ok3E ok25 mixed (T := dev_Dev_Tamper.cuts) Try.func51 (Abs.enters_of Try.func51 (by kernel_rfl) (by kernel_rfl)) dev_Dev_Tamper.ok dev_Dev_Tamper.eq
def l26 : List (Nat × Bool × Abs.Spec) := (51, false, S_dev_Dev_Tamper) :: l25
theorem ok26 : SpecsOk Try.prog (spOf l26) := SpecsOk.cons ok25 dev_Dev_Tamper.fn (fun h => by cases h)
def rig_New.cuts : Cuts := fun k => match k with | 3 => some ⟨[7], [], [(.exit 0)]⟩ | _ => none
theorem rig_New.eq (H : AHeap) (K : AVal → AHeap → Prop) : evFn Try.prog (spOf l26) rig_New.cuts Try.f11 [] H K = rig_New.w H K := by kernel_rfl
theorem rig_New.fn : FnOk Try.prog 11 S_rig_New := fn_ok0E ok26 mixed (T := rig_New.cuts) Try.func11 (Abs.enters_of Try.func11 (by kernel_rfl) (by kernel_rfl)) rig_New.ok rig_New.eq
def l27 : List (Nat × Bool × Abs.Spec) := (11, true, S_rig_New) :: l26
theorem ok27 : SpecsOk Try.prog (spOf l27) := SpecsOk.cons ok26 rig_New.fn (fun _ _ _ _ _ h => rig_New.quiet h)
def rig_Rig_may.cuts : Cuts := fun k => match k with | _ => none
theorem rig_Rig_may.eq (x0 x1 x2 : AVal) (H : AHeap) (K : AVal → AHeap → Prop) : evFn Try.prog (spOf l27) rig_Rig_may.cuts Try.f50 [x0, x1, x2] H K = rig_Rig_may.w x0 x1 x2 H K := by kernel_rfl
theorem rig_Rig_may.fn : FnOk Try.prog 50 S_rig_Rig_may := fn_ok3E ok27 mixed (T := rig_Rig_may.cuts) Try.func50 (Abs.enters_of Try.func50 (by kernel_rfl) (by kernel_rfl)) rig_Rig_may.ok rig_Rig_may.eq
def l28 : List (Nat × Bool × Abs.Spec) := (50, true, S_rig_Rig_may) :: l27
theorem ok28 : SpecsOk Try.prog (spOf l28) := SpecsOk.cons ok27 rig_Rig_may.fn (fun _ _ _ _ _ h => rig_Rig_may.quiet h)
def rig_comes.cuts : Cuts := fun k => match k with | _ => none
theorem rig_comes.eq (x0 : AVal) (H : AHeap) (K : AVal → AHeap → Prop) : evFn Try.prog (spOf l28) rig_comes.cuts Try.f83 [x0] H K = rig_comes.w x0 H K := by kernel_rfl
theorem rig_comes.fn : FnOk Try.prog 83 S_rig_comes := fn_ok1E ok28 mixed (T := rig_comes.cuts) Try.func83 (Abs.enters_of Try.func83 (by kernel_rfl) (by kernel_rfl)) rig_comes.ok rig_comes.eq
def l29 : List (Nat × Bool × Abs.Spec) := (83, false, S_rig_comes) :: l28
theorem ok29 : SpecsOk Try.prog (spOf l29) := SpecsOk.cons ok28 rig_comes.fn (fun h => by cases h)
def rig_Rig_Read_1.cuts : Cuts := fun k => match k with | _ => none
theorem rig_Rig_Read_1.eq (x0 x1 x2 x3 : AVal) (H : AHeap) (K : AVal → AHeap → Prop) : evFn Try.prog (spOf l29) rig_Rig_Read_1.cuts Try.f80 [x0, x1, x2, x3] H K = rig_Rig_Read_1.w x0 x1 x2 x3 H K := by kernel_rfl
theorem rig_Rig_Read_1.fn : FnOk Try.prog 80 S_rig_Rig_Read_1 := fn_ok4E ok29 mixed (T := rig_Rig_Read_1.cuts) Try.func80 (Abs.enters_of Try.func80 (by kernel_rfl) (by kernel_rfl)) rig_Rig_Read_1.ok rig_Rig_Read_1.eq
def l30 : List (Nat × Bool × Abs.Spec) := (80, false, S_rig_Rig_Read_1) :: l29
theorem ok30 : SpecsOk Try.prog (spOf l30) := SpecsOk.cons ok29 rig_Rig_Read_1.fn (fun h => by cases h)
def rig_Rig_Write_1.cuts : Cuts := fun k => match k with | _ => none
theorem rig_Rig_Write_1.eq (x0 x1 x2 x3 : AVal) (H : AHeap) (K : AVal → AHeap → Prop) : evFn Try.prog (spOf l30) rig_Rig_Write_1.cuts Try.f65 [x0, x1, x2, x3] H K = rig_Rig_Write_1.w x0 x1 x2 x3 H K := by kernel_rfl
theorem rig_Rig_Write_1.fn : FnOk Try.prog 65 S_rig_Rig_Write_1 := fn_ok4E ok30 mixed (T := rig_Rig_Write_1.cuts) Try.func65 (Abs.enters_of Try.func65 (by kernel_rfl) (by kernel_rfl)) rig_Rig_Write_1.ok rig_Rig_Write_1.eq
def l31 : List (Nat × Bool × Abs.Spec) := (65, false, S_rig_Rig_Write_1) :: l30
theorem ok31 : SpecsOk Try.prog (spOf l31) := SpecsOk.cons ok30 rig_Rig_Write_1.fn (fun h => by cases h)
def rig_Rig_step.cuts : Cuts := fun k => match k with | 1000004 => some ⟨[], [], [.normal]⟩ | _ => none
theorem rig_Rig_step.eq (x0 x1 : AVal) (H : AHeap) (K : AVal → AHeap → Prop) : evFn Try.prog (spOf l31) rig_Rig_step.cuts Try.f64 [x0, x1] H K = rig_Rig_step.w (callP (spOf l31)) x0 x1 H K := by kernel_rfl
theorem rig_Rig_step.le : CallsT.le rigCP (callP (spOf l31)) := by
  intro f a H r H' h
  rcases h with h | h | h | h | h
  all_goals first
    | (obtain ⟨cap, rfl, h⟩ := h; exact h)
    | (obtain ⟨hn, cap, rfl, h⟩ := h; first | exact h | exact absurd rfl hn)
theorem rig_Rig_step.fn : FnOk Try.prog 64 S_rig_Rig_step := fn_ok2E ok31 mixed (T := rig_Rig_step.cuts) Try.func64 (Abs.enters_of Try.func64 (by kernel_rfl) (by kernel_rfl)) (rig_Rig_step.okC rig_Rig_step.le) rig_Rig_step.eq
def l32 : List (Nat × Bool × Abs.Spec) := (64, false, S_rig_Rig_step) :: l31
theorem ok32 : SpecsOk Try.prog (spOf l32) := SpecsOk.cons ok31 rig_Rig_step.fn (fun h => by cases h)
def rig_Rig_Read.cuts : Cuts := fun k => match k with | _ => none
theorem rig_Rig_Read.eq (x0 x1 x2 : AVal) (H : AHeap) (K : AVal → AHeap → Prop) : evFn Try.prog (spOf l32) rig_Rig_Read.cuts Try.f58 [x0, x1, x2] H K = rig_Rig_Read.w x0 x1 x2 H K := by kernel_rfl
theorem rig_Rig_Read.fn : FnOk Try.prog 58 S_rig_Rig_Read := fn_ok3E ok32 mixed (T := rig_Rig_Read.cuts) Try.func58 (Abs.enters_of Try.func58 (by kernel_rfl) (by kernel_rfl)) rig_Rig_Read.ok rig_Rig_Read.eq
def l33 : List (Nat × Bool × Abs.Spec) := (58, false, S_rig_Rig_Read) :: l32
theorem ok33 : SpecsOk Try.prog (spOf l33) := SpecsOk.cons ok32 rig_Rig_Read.fn (fun h => by cases h)
def rig_Rig_Write.cuts : Cuts := fun k => match k with | _ => none
theorem rig_Rig_Write.eq (x0 x1 x2 x3 : AVal) (H : AHeap) (K : AVal → AHeap → Prop) : evFn Try.prog (spOf l33) rig_Rig_Write.cuts Try.f43 [x0, x1, x2, x3] H K = rig_Rig_Write.w x0 x1 x2 x3 H K := by kernel_rfl
theorem rig_Rig_Write.fn : FnOk Try.prog 43 S_rig_Rig_Write := fn_ok4E ok33 mixed (T := rig_Rig_Write.cuts) Try.func43 (Abs.enters_of Try.func43 (by kernel_rfl) (by kernel_rfl)) rig_Rig_Write.ok rig_Rig_Write.eq
def l34 : List (Nat × Bool × Abs.Spec) := (43, false, S_rig_Rig_Write) :: l33
theorem ok34 : SpecsOk Try.prog (spOf l34) := SpecsOk.cons ok33 rig_Rig_Write.fn (fun h => by cases h)
theorem slices_SortFunc_api_Put_api_Put.fn : FnOk Try.prog 68 S_slices_SortFunc_api_Put_api_Put := Try.sort_fn
def l35 : List (Nat × Bool × Abs.Spec) := (68, false, S_slices_SortFunc_api_Put_api_Put) :: l34
theorem ok35 : SpecsOk Try.prog (spOf l35) := SpecsOk.cons ok34 slices_SortFunc_api_Put_api_Put.fn (fun h => by cases h)
def over_New.cuts : Cuts := fun k => match k with | _ => none
theorem over_New.eq (H : AHeap) (K : AVal → AHeap → Prop) : evFn Try.prog (spOf l35) over_New.cuts Try.f36 [] H K = over_New.w H K := by kernel_rfl
theorem over_New.fn : FnOk Try.prog 36 S_over_New := fn_ok0E ok35 mixed (T := over_New.cuts) Try.func36 (Abs.enters_of Try.func36 (by kernel_rfl) (by kernel_rfl)) over_New.ok over_New.eq
def l36 : List (Nat × Bool × Abs.Spec) := (36, true, S_over_New) :: l35
theorem ok36 : SpecsOk Try.prog (spOf l36) := SpecsOk.cons ok35 over_New.fn (fun _ _ _ _ _ h => over_New.quiet h)
def over_Sheet_Set.cuts : Cuts := fun k => match k with | 1000003 => some ⟨[], [], [.normal]⟩ | _ => none
theorem over_Sheet_Set.eq (x0 x1 x2 : AVal) (H : AHeap) (K : AVal → AHeap → Prop) : evFn Try.prog (spOf l36) over_Sheet_Set.cuts Try.f39 [x0, x1, x2] H K = over_Sheet_Set.w x0 x1 x2 H K := by kernel_rfl
theorem over_Sheet_Set.fn : FnOk Try.prog 39 S_over_Sheet_Set := fn_ok3E ok36 mixed (T := over_Sheet_Set.cuts) Try.func39 (Abs.enters_of Try.func39 (by kernel_rfl) (by kernel_rfl)) over_Sheet_Set.ok over_Sheet_Set.eq
def l37 : List (Nat × Bool × Abs.Spec) := (39, false, S_over_Sheet_Set) :: l36
theorem ok37 : SpecsOk Try.prog (spOf l37) := SpecsOk.cons ok36 over_Sheet_Set.fn (fun h => by cases h)
def over_Sheet_Get.cuts : Cuts := fun k => match k with | _ => none
theorem over_Sheet_Get.eq (x0 x1 : AVal) (H : AHeap) (K : AVal → AHeap → Prop) : evFn Try.prog (spOf l37) over_Sheet_Get.cuts Try.f30 [x0, x1] H K = over_Sheet_Get.w x0 x1 H K := by kernel_rfl
theorem over_Sheet_Get.fn : FnOk Try.prog 30 S_over_Sheet_Get := fn_ok2E ok37 mixed (T := over_Sheet_Get.cuts) Try.func30 (Abs.enters_of Try.func30 (by kernel_rfl) (by kernel_rfl)) over_Sheet_Get.ok over_Sheet_Get.eq
def l38 : List (Nat × Bool × Abs.Spec) := (30, true, S_over_Sheet_Get) :: l37
theorem ok38 : SpecsOk Try.prog (spOf l38) := SpecsOk.cons ok37 over_Sheet_Get.fn (fun _ _ _ _ _ h => over_Sheet_Get.quiet h)
def over_Sheet_Clear.cuts : Cuts := fun k => match k with | _ => none
theorem over_Sheet_Clear.eq (x0 : AVal) (H : AHeap) (K : AVal → AHeap → Prop) : evFn Try.prog (spOf l38) over_Sheet_Clear.cuts Try.f35 [x0] H K = over_Sheet_Clear.w x0 H K := by kernel_rfl
theorem over_Sheet_Clear.fn : FnOk Try.prog 35 S_over_Sheet_Clear := fn_ok1E ok38 mixed (T := over_Sheet_Clear.cuts) Try.func35 (Abs.enters_of Try.func35 (by kernel_rfl) (by kernel_rfl)) over_Sheet_Clear.ok over_Sheet_Clear.eq
def l39 : List (Nat × Bool × Abs.Spec) := (35, false, S_over_Sheet_Clear) :: l38
theorem ok39 : SpecsOk Try.prog (spOf l39) := SpecsOk.cons ok38 over_Sheet_Clear.fn (fun h => by cases h)
def over_Sheet_Puts.cuts : Cuts := fun k => match k with | 5 => some ⟨[3], [3], [(.exit 0)]⟩ | _ => none
theorem over_Sheet_Puts.eq (x0 : AVal) (H : AHeap) (K : AVal → AHeap → Prop) : evFn Try.prog (spOf l39) over_Sheet_Puts.cuts Try.f46 [x0] H K = over_Sheet_Puts.w x0 H K := by kernel_rfl
theorem over_Sheet_Puts.fn : FnOk Try.prog 46 S_over_Sheet_Puts := fn_ok1 ok39 mixed (T := over_Sheet_Puts.cuts) Try.func46 (Abs.enters_of Try.func46 (by kernel_rfl) (by kernel_rfl)) over_Sheet_Puts.ok over_Sheet_Puts.eq
def l40 : List (Nat × Bool × Abs.Spec) := (46, true, S_over_Sheet_Puts) :: l39
theorem ok40 : SpecsOk Try.prog (spOf l40) := SpecsOk.cons ok39 over_Sheet_Puts.fn (fun _ _ _ _ _ h => over_Sheet_Puts.quiet h)
def geom_NodeAt.cuts : Cuts := fun k => match k with | 1000001 => some ⟨[], [2, 3], [.normal, .ret]⟩ | _ => none
theorem geom_NodeAt.eq (x0 : AVal) (H : AHeap) (K : AVal → AHeap → Prop) : evFn Try.prog (spOf l40) geom_NodeAt.cuts Try.f61 [x0] H K = geom_NodeAt.w x0 H K := by kernel_rfl
theorem geom_NodeAt.fn : FnOk Try.prog 61 S_geom_NodeAt := fn_ok1E ok40 mixed (T := geom_NodeAt.cuts) Try.func61 (Abs.enters_of Try.func61 (by kernel_rfl) (by kernel_rfl)) geom_NodeAt.ok geom_NodeAt.eq
def l41 : List (Nat × Bool × Abs.Spec) := (61, true, S_geom_NodeAt) :: l40
theorem ok41 : SpecsOk Try.prog (spOf l41) := SpecsOk.cons ok40 geom_NodeAt.fn (fun _ _ _ _ _ h => geom_NodeAt.quiet h)
def geom_LeafAt.cuts : Cuts := fun k => match k with | 1000001 => some ⟨[], [2, 3], [.normal, .ret]⟩ | _ => none
theorem geom_LeafAt.eq (x0 : AVal) (H : AHeap) (K : AVal → AHeap → Prop) : evFn Try.prog (spOf l41) geom_LeafAt.cuts Try.f29 [x0] H K = geom_LeafAt.w x0 H K := by kernel_rfl
theorem geom_LeafAt.fn : FnOk Try.prog 29 S_geom_LeafAt := fn_ok1E ok41 mixed (T := geom_LeafAt.cuts) Try.func29 (Abs.enters_of Try.func29 (by kernel_rfl) (by kernel_rfl)) geom_LeafAt.ok geom_LeafAt.eq
def l42 : List (Nat × Bool × Abs.Spec) := (29, true, S_geom_LeafAt) :: l41
theorem ok42 : SpecsOk Try.prog (spOf l42) := SpecsOk.cons ok41 geom_LeafAt.fn (fun _ _ _ _ _ h => geom_LeafAt.quiet h)
def tree_bare.cuts : Cuts := fun k => match k with | _ => none
theorem tree_bare.eq (H : AHeap) (K : AVal → AHeap → Prop) : evFn Try.prog (spOf l42) tree_bare.cuts Try.f34 [] H K = tree_bare.w H K := by kernel_rfl
theorem tree_bare.fn : FnOk Try.prog 34 S_tree_bare := fn_ok0E ok42 mixed (T := tree_bare.cuts) Try.func34 (Abs.enters_of Try.func34 (by kernel_rfl) (by kernel_rfl)) tree_bare.ok tree_bare.eq
def l43 : List (Nat × Bool × Abs.Spec) := (34, true, S_tree_bare) :: l42
theorem ok43 : SpecsOk Try.prog (spOf l43) := SpecsOk.cons ok42 tree_bare.fn (fun _ _ _ _ _ h => tree_bare.quiet h)
def tree_New.cuts : Cuts := fun k => match k with | _ => none
theorem tree_New.eq (x0 x1 x2 x3 : AVal) (H : AHeap) (K : AVal → AHeap → Prop) : evFn Try.prog (spOf l43) tree_New.cuts Try.f10 [x0, x1, x2, x3] H K = tree_New.w x0 x1 x2 x3 H K := by kernel_rfl
theorem tree_New.fn : FnOk Try.prog 10 S_tree_New := fn_ok4E ok43 mixed (T := tree_New.cuts) Try.func10 (Abs.enters_of Try.func10 (by kernel_rfl) (by kernel_rfl)) tree_New.ok tree_New.eq
def l44 : List (Nat × Bool × Abs.Spec) := (10, true, S_tree_New) :: l43
theorem ok44 : SpecsOk Try.prog (spOf l44) := SpecsOk.cons ok43 tree_New.fn (fun _ _ _ _ _ h => tree_New.quiet h)
def tree_Tree_node_1.cuts : Cuts := fun k => match k with | _ => none
theorem tree_Tree_node_1.eq (x0 x1 : AVal) (H : AHeap) (K : AVal → AHeap → Prop) : evFn Try.prog (spOf l44) tree_Tree_node_1.cuts Try.f78 [x0, x1] H K = tree_Tree_node_1.w x0 x1 H K := by kernel_rfl
theorem tree_Tree_node_1.fn : FnOk Try.prog 78 S_tree_Tree_node_1 := fn_ok2E ok44 mixed (T := tree_Tree_node_1.cuts) Try.func78 (Abs.enters_of Try.func78 (by kernel_rfl) (by kernel_rfl)) tree_Tree_node_1.ok tree_Tree_node_1.eq
def l45 : List (Nat × Bool × Abs.Spec) := (78, false, S_tree_Tree_node_1) :: l44
theorem ok45 : SpecsOk Try.prog (spOf l45) := SpecsOk.cons ok44 tree_Tree_node_1.fn (fun h => by cases h)
def tree_Tree_Get_1.cuts : Cuts := fun k => match k with | _ => none
theorem tree_Tree_Get_1.eq (x0 x1 : AVal) (H : AHeap) (K : AVal → AHeap → Prop) : evFn Try.prog (spOf l45) tree_Tree_Get_1.cuts Try.f32 [x0, x1] H K = tree_Tree_Get_1.w x0 x1 H K := by kernel_rfl
theorem tree_Tree_Get_1.fn : FnOk Try.prog 32 S_tree_Tree_Get_1 := fn_ok2E ok45 mixed (T := tree_Tree_Get_1.cuts) Try.func32 (Abs.enters_of Try.func32 (by kernel_rfl) (by kernel_rfl)) tree_Tree_Get_1.ok tree_Tree_Get_1.eq
def l46 : List (Nat × Bool × Abs.Spec) := (32, false, S_tree_Tree_Get_1) :: l45
theorem ok46 : SpecsOk Try.prog (spOf l46) := SpecsOk.cons ok45 tree_Tree_Get_1.fn (fun h => by cases h)
def tree_Tree_read.cuts : Cuts := fun k => match k with | _ => none
theorem tree_Tree_read.eq (x0 x1 x2 x3 : AVal) (H : AHeap) (K : AVal → AHeap → Prop) : evFn Try.prog (spOf l46) tree_Tree_read.cuts Try.f31 [x0, x1, x2, x3] H K = tree_Tree_read.w (callP (spOf l46)) x0 x1 x2 x3 H K := by kernel_rfl
theorem tree_Tree_read.le : CallsT.le treeCP (callP (spOf l46)) := by
  intro f a H r H' h
  rcases h with h | h
  all_goals first
    | (obtain ⟨cap, rfl, h⟩ := h; exact h)
    | (obtain ⟨hn, cap, rfl, h⟩ := h; first | exact h | exact absurd rfl hn)
theorem tree_Tree_read.fn : FnOk Try.prog 31 S_tree_Tree_read := fn_ok4E ok46 mixed (T := tree_Tree_read.cuts) Try.func31 (Abs.enters_of Try.func31 (by kernel_rfl) (by kernel_rfl)) (tree_Tree_read.okC tree_Tree_read.le) tree_Tree_read.eq
def l47 : List (Nat × Bool × Abs.Spec) := (31, false, S_tree_Tree_read) :: l46
theorem ok47 : SpecsOk Try.prog (spOf l47) := SpecsOk.cons ok46 tree_Tree_read.fn (fun h => by cases h)
def tree_Tree_node.cuts : Cuts := fun k => match k with | 1000006 => some ⟨[], [], [.normal]⟩ | _ => none
theorem tree_Tree_node.eq (x0 x1 x2 : AVal) (H : AHeap) (K : AVal → AHeap → Prop) : evFn Try.prog (spOf l47) tree_Tree_node.cuts Try.f55 [x0, x1, x2] H K = tree_Tree_node.w x0 x1 x2 H K := by kernel_rfl
theorem tree_Tree_node.fn : FnOk Try.prog 55 S_tree_Tree_node := fn_ok3E ok47 mixed (T := tree_Tree_node.cuts) Try.func55 (Abs.enters_of Try.func55 (by kernel_rfl) (by kernel_rfl)) tree_Tree_node.ok tree_Tree_node.eq
def l48 : List (Nat × Bool × Abs.Spec) := (55, false, S_tree_Tree_node) :: l47
theorem ok48 : SpecsOk Try.prog (spOf l48) := SpecsOk.cons ok47 tree_Tree_node.fn (fun h => by cases h)
def tree_Tree_down.cuts : Cuts := fun k => match k with | 9 => some ⟨[7, 10], [7], [(.exit 0)]⟩ | 2000011 => some ⟨[], [7], [.normal]⟩ | 10000011 => some ⟨[1, 10], [0, 2, 3, 4, 5, 6, 7, 8, 9, 10, 1, 11, 12, 13, 14, 15, 16], []⟩ | _ => none
theorem tree_Tree_down.eq (x0 x1 : AVal) (H : AHeap) (K : AVal → AHeap → Prop) : evFn Try.prog (spOf l48) tree_Tree_down.cuts Try.f28 [x0, x1] H K = tree_Tree_down.w x0 x1 H K := by kernel_rfl
theorem tree_Tree_down.fn : FnOk Try.prog 28 S_tree_Tree_down := fn_ok2E ok48 mixed (T := tree_Tree_down.cuts) Try.func28 (Abs.enters_of Try.func28 (by kernel_rfl) (by kernel_rfl)) tree_Tree_down.ok tree_Tree_down.eq
def l49 : List (Nat × Bool × Abs.Spec) := (28, false, S_tree_Tree_down) :: l48
theorem ok49 : SpecsOk Try.prog (spOf l49) := SpecsOk.cons ok48 tree_Tree_down.fn (fun h => by cases h)
def tree_Tree_Get.cuts : Cuts := fun k => match k with | 1000006 => some ⟨[], [8, 11], [.normal]⟩ | 1000008 => some ⟨[], [4, 5, 6], [.normal, .ret]⟩ | _ => none
theorem tree_Tree_Get.eq (x0 x1 : AVal) (H : AHeap) (K : AVal → AHeap → Prop) : evFn Try.prog (spOf l49) tree_Tree_Get.cuts Try.f7 [x0, x1] H K = tree_Tree_Get.w x0 x1 H K := by kernel_rfl
theorem tree_Tree_Get.fn : FnOk Try.prog 7 S_tree_Tree_Get := fn_ok2E ok49 mixed (T := tree_Tree_Get.cuts) Try.func7 (Abs.enters_of Try.func7 (by kernel_rfl) (by kernel_rfl)) tree_Tree_Get.ok tree_Tree_Get.eq
def l50 : List (Nat × Bool × Abs.Spec) := (7, false, S_tree_Tree_Get) :: l49
theorem ok50 : SpecsOk Try.prog (spOf l50) := SpecsOk.cons ok49 tree_Tree_Get.fn (fun h => by cases h)
def tree_Tree_change.cuts : Cuts := fun k => match k with | 3 => some ⟨[25], [], [(.exit 0)]⟩ | _ => none
theorem tree_Tree_change.eq (x0 x1 x2 x3 : AVal) (H : AHeap) (K : AVal → AHeap → Prop) : evFn Try.prog (spOf l50) tree_Tree_change.cuts Try.f38 [x0, x1, x2, x3] H K = tree_Tree_change.w x0 x1 x2 x3 H K := by kernel_rfl
theorem tree_Tree_change.fn : FnOk Try.prog 38 S_tree_Tree_change := fn_ok4E ok50 mixed (T := tree_Tree_change.cuts) Try.func38 (Abs.enters_of Try.func38 (by kernel_rfl) (by kernel_rfl)) tree_Tree_change.ok tree_Tree_change.eq
def l51 : List (Nat × Bool × Abs.Spec) := (38, false, S_tree_Tree_change) :: l50
theorem ok51 : SpecsOk Try.prog (spOf l51) := SpecsOk.cons ok50 tree_Tree_change.fn (fun h => by cases h)
def tree_Tree_Put.cuts : Cuts := fun k => match k with | _ => none
theorem tree_Tree_Put.eq (x0 x1 x2 : AVal) (H : AHeap) (K : AVal → AHeap → Prop) : evFn Try.prog (spOf l51) tree_Tree_Put.cuts Try.f13 [x0, x1, x2] H K = tree_Tree_Put.w x0 x1 x2 H K := by kernel_rfl
theorem tree_Tree_Put.fn : FnOk Try.prog 13 S_tree_Tree_Put := fn_ok3E ok51 mixed (T := tree_Tree_Put.cuts) Try.func13 (Abs.enters_of Try.func13 (by kernel_rfl) (by kernel_rfl)) tree_Tree_Put.ok tree_Tree_Put.eq
def l52 : List (Nat × Bool × Abs.Spec) := (13, false, S_tree_Tree_Put) :: l51
theorem ok52 : SpecsOk Try.prog (spOf l52) := SpecsOk.cons ok51 tree_Tree_Put.fn (fun h => by cases h)
def tree_Tree_Clear.cuts : Cuts := fun k => match k with | _ => none
theorem tree_Tree_Clear.eq (x0 x1 : AVal) (H : AHeap) (K : AVal → AHeap → Prop) : evFn Try.prog (spOf l52) tree_Tree_Clear.cuts Try.f14 [x0, x1] H K = tree_Tree_Clear.w x0 x1 H K := by kernel_rfl
theorem tree_Tree_Clear.fn : FnOk Try.prog 14 S_tree_Tree_Clear := fn_ok2E ok52 mixed (T := tree_Tree_Clear.cuts) Try.func14 (Abs.enters_of Try.func14 (by kernel_rfl) (by kernel_rfl)) tree_Tree_Clear.ok tree_Tree_Clear.eq
def l53 : List (Nat × Bool × Abs.Spec) := (14, false, S_tree_Tree_Clear) :: l52
theorem ok53 : SpecsOk Try.prog (spOf l53) := SpecsOk.cons ok52 tree_Tree_Clear.fn (fun h => by cases h)
def tree_Tree_Root.cuts : Cuts := fun k => match k with | _ => none
theorem tree_Tree_Root.eq (x0 : AVal) (H : AHeap) (K : AVal → AHeap → Prop) : evFn Try.prog (spOf l53) tree_Tree_Root.cuts Try.f15 [x0] H K = tree_Tree_Root.w x0 H K := by kernel_rfl
theorem tree_Tree_Root.fn : FnOk Try.prog 15 S_tree_Tree_Root := fn_ok1E ok53 mixed (T := tree_Tree_Root.cuts) Try.func15 (Abs.enters_of Try.func15 (by kernel_rfl) (by kernel_rfl)) tree_Tree_Root.ok tree_Tree_Root.eq
def l54 : List (Nat × Bool × Abs.Spec) := (15, true, S_tree_Tree_Root) :: l53
theorem ok54 : SpecsOk Try.prog (spOf l54) := SpecsOk.cons ok53 tree_Tree_Root.fn (fun _ _ _ _ _ h => tree_Tree_Root.quiet h)
def tree_Tree_Sheet.cuts : Cuts := fun k => match k with | _ => none
theorem tree_Tree_Sheet.eq (x0 : AVal) (H : AHeap) (K : AVal → AHeap → Prop) : evFn Try.prog (spOf l54) tree_Tree_Sheet.cuts Try.f16 [x0] H K = tree_Tree_Sheet.w x0 H K := by kernel_rfl
theorem tree_Tree_Sheet.fn : FnOk Try.prog 16 S_tree_Tree_Sheet := fn_ok1E ok54 mixed (T := tree_Tree_Sheet.cuts) Try.func16 (Abs.enters_of Try.func16 (by kernel_rfl) (by kernel_rfl)) tree_Tree_Sheet.ok tree_Tree_Sheet.eq
def l55 : List (Nat × Bool × Abs.Spec) := (16, true, S_tree_Tree_Sheet) :: l54
theorem ok55 : SpecsOk Try.prog (spOf l55) := SpecsOk.cons ok54 tree_Tree_Sheet.fn (fun _ _ _ _ _ h => tree_Tree_Sheet.quiet h)
def tree_Tree_Done.cuts : Cuts := fun k => match k with | _ => none
theorem tree_Tree_Done.eq (x0 : AVal) (H : AHeap) (K : AVal → AHeap → Prop) : evFn Try.prog (spOf l55) tree_Tree_Done.cuts Try.f8 [x0] H K = tree_Tree_Done.w x0 H K := by kernel_rfl
theorem tree_Tree_Done.fn : FnOk Try.prog 8 S_tree_Tree_Done := fn_ok1E ok55 mixed (T := tree_Tree_Done.cuts) Try.func8 (Abs.enters_of Try.func8 (by kernel_rfl) (by kernel_rfl)) tree_Tree_Done.ok tree_Tree_Done.eq
def l56 : List (Nat × Bool × Abs.Spec) := (8, false, S_tree_Tree_Done) :: l55
theorem ok56 : SpecsOk Try.prog (spOf l56) := SpecsOk.cons ok55 tree_Tree_Done.fn (fun h => by cases h)
def tree_Tree_Forget.cuts : Cuts := fun k => match k with | _ => none
theorem tree_Tree_Forget.eq (x0 : AVal) (H : AHeap) (K : AVal → AHeap → Prop) : evFn Try.prog (spOf l56) tree_Tree_Forget.cuts Try.f9 [x0] H K = tree_Tree_Forget.w x0 H K := by kernel_rfl
theorem tree_Tree_Forget.fn : FnOk Try.prog 9 S_tree_Tree_Forget := fn_ok1E ok56 mixed (T := tree_Tree_Forget.cuts) Try.func9 (Abs.enters_of Try.func9 (by kernel_rfl) (by kernel_rfl)) tree_Tree_Forget.ok tree_Tree_Forget.eq
def l57 : List (Nat × Bool × Abs.Spec) := (9, false, S_tree_Tree_Forget) :: l56
theorem ok57 : SpecsOk Try.prog (spOf l57) := SpecsOk.cons ok56 tree_Tree_Forget.fn (fun h => by cases h)
def tree_Tree_Known.cuts : Cuts := fun k => match k with | _ => none
theorem tree_Tree_Known.eq (x0 : AVal) (H : AHeap) (K : AVal → AHeap → Prop) : evFn Try.prog (spOf l57) tree_Tree_Known.cuts Try.f17 [x0] H K = tree_Tree_Known.w x0 H K := by kernel_rfl
theorem tree_Tree_Known.fn : FnOk Try.prog 17 S_tree_Tree_Known := fn_ok1E ok57 mixed (T := tree_Tree_Known.cuts) Try.func17 (Abs.enters_of Try.func17 (by kernel_rfl) (by kernel_rfl)) tree_Tree_Known.ok tree_Tree_Known.eq
def l58 : List (Nat × Bool × Abs.Spec) := (17, true, S_tree_Tree_Known) :: l57
theorem ok58 : SpecsOk Try.prog (spOf l58) := SpecsOk.cons ok57 tree_Tree_Known.fn (fun _ _ _ _ _ h => tree_Tree_Known.quiet h)
def cellaretlaw18_Made.cuts : Cuts := fun k => match k with | 5 => some ⟨[12], [2, 3, 4], [(.exit 0), .ret]⟩ | _ => none
theorem cellaretlaw18_Made.eq (x0 : AVal) (H : AHeap) (K : AVal → AHeap → Prop) : evFn Try.prog (spOf l58) cellaretlaw18_Made.cuts Try.f18 [x0] H K = cellaretlaw18_Made.w x0 H K := by kernel_rfl
theorem cellaretlaw18_Made.fn : FnOk Try.prog 18 S_cellaretlaw18_Made := fn_ok1E ok58 mixed (T := cellaretlaw18_Made.cuts) Try.func18 (Abs.enters_of Try.func18 (by kernel_rfl) (by kernel_rfl)) cellaretlaw18_Made.ok cellaretlaw18_Made.eq
def l59 : List (Nat × Bool × Abs.Spec) := (18, true, S_cellaretlaw18_Made) :: l58
theorem ok59 : SpecsOk Try.prog (spOf l59) := SpecsOk.cons ok58 cellaretlaw18_Made.fn (fun _ _ _ _ _ h => cellaretlaw18_Made.quiet h)
def cellaretlaw18_Write.cuts : Cuts := fun k => match k with | 3 => some ⟨[8], [6], [(.exit 0), .ret]⟩ | _ => none
theorem cellaretlaw18_Write.eq (x0 x1 x2 : AVal) (H : AHeap) (K : AVal → AHeap → Prop) : evFn Try.prog (spOf l59) cellaretlaw18_Write.cuts Try.f21 [x0, x1, x2] H K = cellaretlaw18_Write.w x0 x1 x2 H K := by kernel_rfl
theorem cellaretlaw18_Write.fn : FnOk Try.prog 21 S_cellaretlaw18_Write := fn_ok3E ok59 mixed (T := cellaretlaw18_Write.cuts) Try.func21 (Abs.enters_of Try.func21 (by kernel_rfl) (by kernel_rfl)) cellaretlaw18_Write.ok cellaretlaw18_Write.eq
def l60 : List (Nat × Bool × Abs.Spec) := (21, false, S_cellaretlaw18_Write) :: l59
theorem ok60 : SpecsOk Try.prog (spOf l60) := SpecsOk.cons ok59 cellaretlaw18_Write.fn (fun h => by cases h)
def cellaretlaw18_awake.cuts : Cuts := fun k => match k with | _ => none
theorem cellaretlaw18_awake.eq (H : AHeap) (K : AVal → AHeap → Prop) : evFn Try.prog (spOf l60) cellaretlaw18_awake.cuts Try.f12 [] H K = cellaretlaw18_awake.w H K := by kernel_rfl
theorem cellaretlaw18_awake.fn : FnOk Try.prog 12 S_cellaretlaw18_awake := fn_ok0E ok60 mixed (T := cellaretlaw18_awake.cuts) Try.func12 (Abs.enters_of Try.func12 (by kernel_rfl) (by kernel_rfl)) cellaretlaw18_awake.ok cellaretlaw18_awake.eq
def l61 : List (Nat × Bool × Abs.Spec) := (12, true, S_cellaretlaw18_awake) :: l60
theorem ok61 : SpecsOk Try.prog (spOf l61) := SpecsOk.cons ok60 cellaretlaw18_awake.fn (fun _ _ _ _ _ h => cellaretlaw18_awake.quiet h)
def cellaretref16_At.cuts : Cuts := fun k => match k with | 2 => some ⟨[5], [4], [(.exit 0), .ret]⟩ | _ => none
theorem cellaretref16_At.eq (x0 x1 : AVal) (H : AHeap) (K : AVal → AHeap → Prop) : evFn Try.prog (spOf l61) cellaretref16_At.cuts Try.f26 [x0, x1] H K = cellaretref16_At.w x0 x1 H K := by kernel_rfl
theorem cellaretref16_At.fn : FnOk Try.prog 26 S_cellaretref16_At := fn_ok2E ok61 mixed (T := cellaretref16_At.cuts) Try.func26 (Abs.enters_of Try.func26 (by kernel_rfl) (by kernel_rfl)) cellaretref16_At.ok cellaretref16_At.eq
def l62 : List (Nat × Bool × Abs.Spec) := (26, true, S_cellaretref16_At) :: l61
theorem ok62 : SpecsOk Try.prog (spOf l62) := SpecsOk.cons ok61 cellaretref16_At.fn (fun _ _ _ _ _ h => cellaretref16_At.quiet h)
def cellaretref16_Drop.cuts : Cuts := fun k => match k with | 3 => some ⟨[5, 6], [5], [(.exit 0)]⟩ | _ => none
theorem cellaretref16_Drop.eq (x0 x1 : AVal) (H : AHeap) (K : AVal → AHeap → Prop) : evFn Try.prog (spOf l62) cellaretref16_Drop.cuts Try.f45 [x0, x1] H K = cellaretref16_Drop.w x0 x1 H K := by kernel_rfl
theorem cellaretref16_Drop.fn : FnOk Try.prog 45 S_cellaretref16_Drop := fn_ok2E ok62 mixed (T := cellaretref16_Drop.cuts) Try.func45 (Abs.enters_of Try.func45 (by kernel_rfl) (by kernel_rfl)) cellaretref16_Drop.ok cellaretref16_Drop.eq
def l63 : List (Nat × Bool × Abs.Spec) := (45, true, S_cellaretref16_Drop) :: l62
theorem ok63 : SpecsOk Try.prog (spOf l63) := SpecsOk.cons ok62 cellaretref16_Drop.fn (fun _ _ _ _ _ h => cellaretref16_Drop.quiet h)
def cellaretref16_Set.cuts : Cuts := fun k => match k with | 3 => some ⟨[5], [5], [(.exit 0)]⟩ | 1000003 => some ⟨[], [], [(.exit 0), .normal]⟩ | _ => none
theorem cellaretref16_Set.eq (x0 x1 : AVal) (H : AHeap) (K : AVal → AHeap → Prop) : evFn Try.prog (spOf l63) cellaretref16_Set.cuts Try.f67 [x0, x1] H K = cellaretref16_Set.w x0 x1 H K := by kernel_rfl
theorem cellaretref16_Set.fn : FnOk Try.prog 67 S_cellaretref16_Set := fn_ok2E ok63 mixed (T := cellaretref16_Set.cuts) Try.func67 (Abs.enters_of Try.func67 (by kernel_rfl) (by kernel_rfl)) cellaretref16_Set.ok cellaretref16_Set.eq
def l64 : List (Nat × Bool × Abs.Spec) := (67, true, S_cellaretref16_Set) :: l63
theorem ok64 : SpecsOk Try.prog (spOf l64) := SpecsOk.cons ok63 cellaretref16_Set.fn (fun _ _ _ _ _ h => cellaretref16_Set.quiet h)
def cellaretlaw18_short.cuts : Cuts := fun k => match k with | _ => none
theorem cellaretlaw18_short.eq (x0 : AVal) (H : AHeap) (K : AVal → AHeap → Prop) : evFn Try.prog (spOf l64) cellaretlaw18_short.cuts Try.f19 [x0] H K = cellaretlaw18_short.w x0 H K := by kernel_rfl
theorem cellaretlaw18_short.fn : FnOk Try.prog 19 S_cellaretlaw18_short := fn_ok1E ok64 mixed (T := cellaretlaw18_short.cuts) Try.func19 (Abs.enters_of Try.func19 (by kernel_rfl) (by kernel_rfl)) cellaretlaw18_short.ok cellaretlaw18_short.eq
def l65 : List (Nat × Bool × Abs.Spec) := (19, true, S_cellaretlaw18_short) :: l64
theorem ok65 : SpecsOk Try.prog (spOf l65) := SpecsOk.cons ok64 cellaretlaw18_short.fn (fun _ _ _ _ _ h => cellaretlaw18_short.quiet h)
def cellaretlaw18_set.cuts : Cuts := fun k => match k with | _ => none
theorem cellaretlaw18_set.eq (x0 x1 x2 : AVal) (H : AHeap) (K : AVal → AHeap → Prop) : evFn Try.prog (spOf l65) cellaretlaw18_set.cuts Try.f44 [x0, x1, x2] H K = cellaretlaw18_set.w x0 x1 x2 H K := by kernel_rfl
theorem cellaretlaw18_set.fn : FnOk Try.prog 44 S_cellaretlaw18_set := fn_ok3E ok65 mixed (T := cellaretlaw18_set.cuts) Try.func44 (Abs.enters_of Try.func44 (by kernel_rfl) (by kernel_rfl)) cellaretlaw18_set.ok cellaretlaw18_set.eq
def l66 : List (Nat × Bool × Abs.Spec) := (44, false, S_cellaretlaw18_set) :: l65
theorem ok66 : SpecsOk Try.prog (spOf l66) := SpecsOk.cons ok65 cellaretlaw18_set.fn (fun h => by cases h)
def cellaretlaw18_do.cuts : Cuts := fun k => match k with | 2000001 => some ⟨[], [12], [.normal]⟩ | 1000003 => some ⟨[], [13], [.normal]⟩ | 1000006 => some ⟨[], [44], [.normal]⟩ | _ => none
theorem cellaretlaw18_do.eq (x0 x1 x2 x3 x4 : AVal) (H : AHeap) (K : AVal → AHeap → Prop) : evFn Try.prog (spOf l66) cellaretlaw18_do.cuts Try.f20 [x0, x1, x2, x3, x4] H K = cellaretlaw18_do.w x0 x1 x2 x3 x4 H K := by kernel_rfl
theorem cellaretlaw18_do.fn : FnOk Try.prog 20 S_cellaretlaw18_do := fn_ok5E ok66 mixed (T := cellaretlaw18_do.cuts) Try.func20 (Abs.enters_of Try.func20 (by kernel_rfl) (by kernel_rfl)) cellaretlaw18_do.ok cellaretlaw18_do.eq
def l67 : List (Nat × Bool × Abs.Spec) := (20, false, S_cellaretlaw18_do) :: l66
theorem ok67 : SpecsOk Try.prog (spOf l67) := SpecsOk.cons ok66 cellaretlaw18_do.fn (fun h => by cases h)
def oracle_Pair_1.cuts : Cuts := fun k => match k with | 2 => some ⟨[7], [4], [(.exit 0), .ret]⟩ | _ => none
theorem oracle_Pair_1.eq (x0 x1 x2 : AVal) (H : AHeap) (K : AVal → AHeap → Prop) : evFn Try.prog (spOf l67) oracle_Pair_1.cuts Try.f77 [x0, x1, x2] H K = oracle_Pair_1.w x0 x1 x2 H K := by kernel_rfl
theorem oracle_Pair_1.fn : FnOk Try.prog 77 S_oracle_Pair_1 := fn_ok3 ok67 mixed (T := oracle_Pair_1.cuts) Try.func77 (Abs.enters_of Try.func77 (by kernel_rfl) (by kernel_rfl)) oracle_Pair_1.ok oracle_Pair_1.eq
def l68 : List (Nat × Bool × Abs.Spec) := (77, true, S_oracle_Pair_1) :: l67
theorem ok68 : SpecsOk Try.prog (spOf l68) := SpecsOk.cons ok67 oracle_Pair_1.fn (fun _ _ _ _ _ h => oracle_Pair_1.quiet h)
def oracle_Pair.cuts : Cuts := fun k => match k with | 4 => some ⟨[18], [4, 5, 6], [(.exit 0), .ret]⟩ | _ => none
theorem oracle_Pair.eq (x0 x1 : AVal) (H : AHeap) (K : AVal → AHeap → Prop) : evFn Try.prog (spOf l68) oracle_Pair.cuts Try.f53 [x0, x1] H K = oracle_Pair.w x0 x1 H K := by kernel_rfl
theorem oracle_Pair.fn : FnOk Try.prog 53 S_oracle_Pair := fn_ok2 ok68 mixed (T := oracle_Pair.cuts) Try.func53 (Abs.enters_of Try.func53 (by kernel_rfl) (by kernel_rfl)) oracle_Pair.ok oracle_Pair.eq
def l69 : List (Nat × Bool × Abs.Spec) := (53, true, S_oracle_Pair) :: l68
theorem ok69 : SpecsOk Try.prog (spOf l69) := SpecsOk.cons ok68 oracle_Pair.fn (fun _ _ _ _ _ h => oracle_Pair.quiet h)
def oracle_Oracle_Collide.cuts : Cuts := fun k => match k with | 6 => some ⟨[6, 24], [6], [(.exit 0)]⟩ | 2000008 => some ⟨[], [6], [.normal]⟩ | 16 => some ⟨[9, 10, 46], [9, 10], [(.exit 2)]⟩ | 10000018 => some ⟨[4, 7], [0, 1, 2, 3, 5, 6, 7, 4, 8, 9, 10, 11], []⟩ | 30000018 => some ⟨[7, 8], [0, 1, 2, 3, 4, 5, 6, 8, 7, 9, 10, 11], []⟩ | _ => none
theorem oracle_Oracle_Collide.eq (x0 : AVal) (H : AHeap) (K : AVal → AHeap → Prop) : evFn Try.prog (spOf l69) oracle_Oracle_Collide.cuts Try.f27 [x0] H K = oracle_Oracle_Collide.w x0 H K := by kernel_rfl
theorem oracle_Oracle_Collide.fn : FnOk Try.prog 27 S_oracle_Oracle_Collide := fn_ok1 ok69 mixed (T := oracle_Oracle_Collide.cuts) Try.func27 (Abs.enters_of Try.func27 (by kernel_rfl) (by kernel_rfl)) oracle_Oracle_Collide.ok oracle_Oracle_Collide.eq
def l70 : List (Nat × Bool × Abs.Spec) := (27, true, S_oracle_Oracle_Collide) :: l69
theorem ok70 : SpecsOk Try.prog (spOf l70) := SpecsOk.cons ok69 oracle_Oracle_Collide.fn (fun _ _ _ _ _ h => oracle_Oracle_Collide.quiet h)
def rig_Rig_Tamper.cuts : Cuts := fun k => match k with | _ => none
theorem rig_Rig_Tamper.eq (x0 x1 x2 x3 : AVal) (H : AHeap) (K : AVal → AHeap → Prop) : evFn Try.prog (spOf l70) rig_Rig_Tamper.cuts Try.f24 [x0, x1, x2, x3] H K = rig_Rig_Tamper.w x0 x1 x2 x3 H K := by kernel_rfl
theorem rig_Rig_Tamper.fn : FnOk Try.prog 24 S_rig_Rig_Tamper := fn_ok4E ok70 mixed (T := rig_Rig_Tamper.cuts) Try.func24 (Abs.enters_of Try.func24 (by kernel_rfl) (by kernel_rfl)) rig_Rig_Tamper.ok rig_Rig_Tamper.eq
def l71 : List (Nat × Bool × Abs.Spec) := (24, false, S_rig_Rig_Tamper) :: l70
theorem ok71 : SpecsOk Try.prog (spOf l71) := SpecsOk.cons ok70 rig_Rig_Tamper.fn (fun h => by cases h)
def cellaretlaw18_TreeTampers.cuts : Cuts := fun k => match k with | 1000002 => some ⟨[], [6], [.normal, .ret]⟩ | 6 => some ⟨[10, 11], [10], [(.exit 0)]⟩ | 1000006 => some ⟨[], [], [(.exit 0), .normal]⟩ | 1000012 => some ⟨[], [6], [.normal, .ret]⟩ | 15 => some ⟨[14], [6], [(.exit 2), .ret]⟩ | 1000015 => some ⟨[], [], [(.exit 2), .normal]⟩ | 1000017 => some ⟨[], [], [.normal]⟩ | 2000022 => some ⟨[], [20], [.normal]⟩ | 1000023 => some ⟨[], [], [(.exit 3), .normal]⟩ | _ => none
theorem cellaretlaw18_TreeTampers.eq (x0 x1 x2 : AVal) (H : AHeap) (K : AVal → AHeap → Prop) : evFn Try.prog (spOf l71) cellaretlaw18_TreeTampers.cuts Try.f6 [x0, x1, x2] H K = cellaretlaw18_TreeTampers.w x0 x1 x2 H K := by kernel_rfl
theorem cellaretlaw18_TreeTampers.fn : FnOk Try.prog 6 S_cellaretlaw18_TreeTampers := fn_ok3 ok71 mixed (T := cellaretlaw18_TreeTampers.cuts) Try.func6 (Abs.enters_of Try.func6 (by kernel_rfl) (by kernel_rfl)) cellaretlaw18_TreeTampers.ok cellaretlaw18_TreeTampers.eq
end Go.Proofs.Ytchfbhiaboggmaa.own
