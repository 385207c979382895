/- A text of this proof. -/
import Derived.Test.YtkpcnmaohhgofaaRows
import Derived.KernelRfl
import Derived.Test.YtkpcnmaohhgofaaJrB
import Derived.Test.YtkpcnmaohhgofaaChain
import Derived.Test.YtkpcnmaohhgofaaAbsE
import Derived.Test.YtkpcnmaohhgofaaAbsF
import Derived.Test.YtkpcnmaohhgofaaAbsH
import Derived.Test.YtkpcnmaohhgofaaS15

/- The functions of this seat come to what is told of them: each one's code is what its printed text says (checked by the kernel), and the text is proved. Conditions: none. -/
namespace Go.Proofs.Ytkpcnmaohhgofaa.own
open Go Go.Abs Go.Sh
theorem mixed : Try.prog.follows .mixedOrders = true := by kernel_rfl
def l0 : List (Nat × Bool × Abs.Spec) := []
theorem ok0 : SpecsOk Try.prog (spOf l0) := SpecsOk.nil
theorem strings_Join.fn : FnOk Try.prog 72 S_strings_Join := join_fn (Abs.enters_of Try.func72 (by kernel_rfl) (by kernel_rfl)) Try.strings_Join_none Try.strings_Join
def l1 : List (Nat × Bool × Abs.Spec) := (72, true, S_strings_Join) :: l0
theorem ok1 : SpecsOk Try.prog (spOf l1) := SpecsOk.cons ok0 strings_Join.fn (fun _ _ _ _ _ h => strings_Join_quiet h)
def cellaretref01_Zeros.cuts : Cuts := fun k => match k with | _ => none
theorem cellaretref01_Zeros.eq (x0 : AVal) (H : AHeap) (K : AVal → AHeap → Prop) : evFn Try.prog (spOf l1) cellaretref01_Zeros.cuts Try.f25 [x0] H K = cellaretref01_Zeros.w x0 H K := by kernel_rfl
theorem cellaretref01_Zeros.fn : FnOk Try.prog 25 S_cellaretref01_Zeros := fn_ok1 ok1 mixed (T := cellaretref01_Zeros.cuts) Try.func25 (Abs.enters_of Try.func25 (by kernel_rfl) (by kernel_rfl)) cellaretref01_Zeros.ok cellaretref01_Zeros.eq
def l2 : List (Nat × Bool × Abs.Spec) := (25, true, S_cellaretref01_Zeros) :: l1
theorem ok2 : SpecsOk Try.prog (spOf l2) := SpecsOk.cons ok1 cellaretref01_Zeros.fn (fun _ _ _ _ _ h => cellaretref01_Zeros.quiet h)
def cellaretref01_Full.cuts : Cuts := fun k => match k with | _ => none
theorem cellaretref01_Full.eq (x0 x1 : AVal) (H : AHeap) (K : AVal → AHeap → Prop) : evFn Try.prog (spOf l2) cellaretref01_Full.cuts Try.f22 [x0, x1] H K = cellaretref01_Full.w x0 x1 H K := by kernel_rfl
theorem cellaretref01_Full.fn : FnOk Try.prog 22 S_cellaretref01_Full := fn_ok2 ok2 mixed (T := cellaretref01_Full.cuts) Try.func22 (Abs.enters_of Try.func22 (by kernel_rfl) (by kernel_rfl)) cellaretref01_Full.ok cellaretref01_Full.eq
def l3 : List (Nat × Bool × Abs.Spec) := (22, true, S_cellaretref01_Full) :: l2
theorem ok3 : SpecsOk Try.prog (spOf l3) := SpecsOk.cons ok2 cellaretref01_Full.fn (fun _ _ _ _ _ h => cellaretref01_Full.quiet h)
def sha_Words.cuts : Cuts := fun k => match k with | _ => none
theorem sha_Words.eq (H : AHeap) (K : AVal → AHeap → Prop) : evFn Try.prog (spOf l3) sha_Words.cuts Try.f39 [] H K = sha_Words.w H K := by kernel_rfl
theorem sha_Words.fn : FnOk Try.prog 39 S_sha_Words := fn_ok0 ok3 mixed (T := sha_Words.cuts) Try.func39 (Abs.enters_of Try.func39 (by kernel_rfl) (by kernel_rfl)) sha_Words.ok sha_Words.eq
def l4 : List (Nat × Bool × Abs.Spec) := (39, true, S_sha_Words) :: l3
theorem ok4 : SpecsOk Try.prog (spOf l4) := SpecsOk.cons ok3 sha_Words.fn (fun _ _ _ _ _ h => sha_Words.quiet h)
def sha_constants.cuts : Cuts := fun k => match k with | _ => none
theorem sha_constants.eq (H : AHeap) (K : AVal → AHeap → Prop) : evFn Try.prog (spOf l4) sha_constants.cuts Try.f55 [] H K = sha_constants.w H K := by kernel_rfl
theorem sha_constants.fn : FnOk Try.prog 55 S_sha_constants := fn_ok0 ok4 mixed (T := sha_constants.cuts) Try.func55 (Abs.enters_of Try.func55 (by kernel_rfl) (by kernel_rfl)) sha_constants.ok sha_constants.eq
def l5 : List (Nat × Bool × Abs.Spec) := (55, true, S_sha_constants) :: l4
theorem ok5 : SpecsOk Try.prog (spOf l5) := SpecsOk.cons ok4 sha_constants.fn (fun _ _ _ _ _ h => sha_constants.quiet h)
def sha_work.cuts : Cuts := fun k => match k with | 3 => some ⟨[26], [], [(.exit 0)]⟩ | 8 => some ⟨[7], [], [(.exit 2)]⟩ | 17 => some ⟨[13, 14, 15, 16, 17, 18, 19, 20, 133], [13, 14, 15, 16, 17, 18, 19, 20], [(.exit 4)]⟩ | _ => none
theorem sha_work.eq (x0 x1 : AVal) (H : AHeap) (K : AVal → AHeap → Prop) : evFn Try.prog (spOf l5) sha_work.cuts Try.f40 [x0, x1] H K = sha_work.w x0 x1 H K := by kernel_rfl
theorem sha_work.fn : FnOk Try.prog 40 S_sha_work := fn_ok2 ok5 mixed (T := sha_work.cuts) Try.func40 (Abs.enters_of Try.func40 (by kernel_rfl) (by kernel_rfl)) sha_work.ok sha_work.eq
def l6 : List (Nat × Bool × Abs.Spec) := (40, true, S_sha_work) :: l5
theorem ok6 : SpecsOk Try.prog (spOf l6) := SpecsOk.cons ok5 sha_work.fn (fun _ _ _ _ _ h => sha_work.quiet h)
def sha_tail.cuts : Cuts := fun k => match k with | 2 => some ⟨[3], [3], [(.exit 0)]⟩ | 6 => some ⟨[3, 5], [3], [(.exit 2)]⟩ | _ => none
theorem sha_tail.eq (x0 : AVal) (H : AHeap) (K : AVal → AHeap → Prop) : evFn Try.prog (spOf l6) sha_tail.cuts Try.f41 [x0] H K = sha_tail.w x0 H K := by kernel_rfl
theorem sha_tail.fn : FnOk Try.prog 41 S_sha_tail := fn_ok1 ok6 mixed (T := sha_tail.cuts) Try.func41 (Abs.enters_of Try.func41 (by kernel_rfl) (by kernel_rfl)) sha_tail.ok sha_tail.eq
def l7 : List (Nat × Bool × Abs.Spec) := (41, true, S_sha_tail) :: l6
theorem ok7 : SpecsOk Try.prog (spOf l7) := SpecsOk.cons ok6 sha_tail.fn (fun _ _ _ _ _ h => sha_tail.quiet h)
def sha_digest.cuts : Cuts := fun k => match k with | 3 => some ⟨[7], [], [(.exit 0)]⟩ | _ => none
theorem sha_digest.eq (x0 : AVal) (H : AHeap) (K : AVal → AHeap → Prop) : evFn Try.prog (spOf l7) sha_digest.cuts Try.f42 [x0] H K = sha_digest.w x0 H K := by kernel_rfl
theorem sha_digest.fn : FnOk Try.prog 42 S_sha_digest := fn_ok1 ok7 mixed (T := sha_digest.cuts) Try.func42 (Abs.enters_of Try.func42 (by kernel_rfl) (by kernel_rfl)) sha_digest.ok sha_digest.eq
def l8 : List (Nat × Bool × Abs.Spec) := (42, true, S_sha_digest) :: l7
theorem ok8 : SpecsOk Try.prog (spOf l8) := SpecsOk.cons ok7 sha_digest.fn (fun _ _ _ _ _ h => sha_digest.quiet h)
def sha_Sum.cuts : Cuts := fun k => match k with | 3 => some ⟨[0], [0], [(.exit 0)]⟩ | 7 => some ⟨[0], [], [(.exit 2)]⟩ | _ => none
theorem sha_Sum.eq (x0 : AVal) (H : AHeap) (K : AVal → AHeap → Prop) : evFn Try.prog (spOf l8) sha_Sum.cuts Try.f16 [x0] H K = sha_Sum.w x0 H K := by kernel_rfl
theorem sha_Sum.fn : FnOk Try.prog 16 S_sha_Sum := fn_ok1 ok8 mixed (T := sha_Sum.cuts) Try.func16 (Abs.enters_of Try.func16 (by kernel_rfl) (by kernel_rfl)) sha_Sum.ok sha_Sum.eq
def l9 : List (Nat × Bool × Abs.Spec) := (16, true, S_sha_Sum) :: l8
theorem ok9 : SpecsOk Try.prog (spOf l9) := SpecsOk.cons ok8 sha_Sum.fn (fun _ _ _ _ _ h => sha_Sum.quiet h)
def oracle_New.cuts : Cuts := fun k => match k with | _ => none
theorem oracle_New.eq (H : AHeap) (K : AVal → AHeap → Prop) : evFn Try.prog (spOf l9) oracle_New.cuts Try.f13 [] H K = oracle_New.w H K := by kernel_rfl
theorem oracle_New.fn : FnOk Try.prog 13 S_oracle_New := fn_ok0E ok9 mixed (T := oracle_New.cuts) Try.func13 (Abs.enters_of Try.func13 (by kernel_rfl) (by kernel_rfl)) oracle_New.ok oracle_New.eq
def l10 : List (Nat × Bool × Abs.Spec) := (13, true, S_oracle_New) :: l9
theorem ok10 : SpecsOk Try.prog (spOf l10) := SpecsOk.cons ok9 oracle_New.fn (fun _ _ _ _ _ h => oracle_New.quiet h)
def oracle_Oracle_Sum.cuts : Cuts := fun k => match k with | 1000004 => some ⟨[], [], [.normal]⟩ | _ => none
theorem oracle_Oracle_Sum.eq (x0 x1 : AVal) (H : AHeap) (K : AVal → AHeap → Prop) : evFn Try.prog (spOf l10) oracle_Oracle_Sum.cuts Try.f70 [x0, x1] H K = oracle_Oracle_Sum.w x0 x1 H K := by kernel_rfl
theorem oracle_Oracle_Sum.fn : FnOk Try.prog 70 S_oracle_Oracle_Sum := fn_ok2 ok10 mixed (T := oracle_Oracle_Sum.cuts) Try.func70 (Abs.enters_of Try.func70 (by kernel_rfl) (by kernel_rfl)) oracle_Oracle_Sum.ok oracle_Oracle_Sum.eq
def l11 : List (Nat × Bool × Abs.Spec) := (70, false, S_oracle_Oracle_Sum) :: l10
theorem ok11 : SpecsOk Try.prog (spOf l11) := SpecsOk.cons ok10 oracle_Oracle_Sum.fn (fun h => by cases h)
def oracle_Pair_1.cuts : Cuts := fun k => match k with | 2 => some ⟨[7], [4], [(.exit 0), .ret]⟩ | _ => none
theorem oracle_Pair_1.eq (x0 x1 x2 : AVal) (H : AHeap) (K : AVal → AHeap → Prop) : evFn Try.prog (spOf l11) oracle_Pair_1.cuts Try.f68 [x0, x1, x2] H K = oracle_Pair_1.w x0 x1 x2 H K := by kernel_rfl
theorem oracle_Pair_1.fn : FnOk Try.prog 68 S_oracle_Pair_1 := fn_ok3 ok11 mixed (T := oracle_Pair_1.cuts) Try.func68 (Abs.enters_of Try.func68 (by kernel_rfl) (by kernel_rfl)) oracle_Pair_1.ok oracle_Pair_1.eq
def l12 : List (Nat × Bool × Abs.Spec) := (68, true, S_oracle_Pair_1) :: l11
theorem ok12 : SpecsOk Try.prog (spOf l12) := SpecsOk.cons ok11 oracle_Pair_1.fn (fun _ _ _ _ _ h => oracle_Pair_1.quiet h)
def oracle_Pair.cuts : Cuts := fun k => match k with | 4 => some ⟨[18], [4, 5, 6], [(.exit 0), .ret]⟩ | _ => none
theorem oracle_Pair.eq (x0 x1 : AVal) (H : AHeap) (K : AVal → AHeap → Prop) : evFn Try.prog (spOf l12) oracle_Pair.cuts Try.f52 [x0, x1] H K = oracle_Pair.w x0 x1 H K := by kernel_rfl
theorem oracle_Pair.fn : FnOk Try.prog 52 S_oracle_Pair := fn_ok2 ok12 mixed (T := oracle_Pair.cuts) Try.func52 (Abs.enters_of Try.func52 (by kernel_rfl) (by kernel_rfl)) oracle_Pair.ok oracle_Pair.eq
def l13 : List (Nat × Bool × Abs.Spec) := (52, true, S_oracle_Pair) :: l12
theorem ok13 : SpecsOk Try.prog (spOf l13) := SpecsOk.cons ok12 oracle_Pair.fn (fun _ _ _ _ _ h => oracle_Pair.quiet h)
def oracle_Oracle_Collide.cuts : Cuts := fun k => match k with | 6 => some ⟨[6, 24], [6], [(.exit 0)]⟩ | 2000008 => some ⟨[], [6], [.normal]⟩ | 16 => some ⟨[9, 10, 46], [9, 10], [(.exit 2)]⟩ | 10000018 => some ⟨[4, 7], [0, 1, 2, 3, 5, 6, 7, 4, 8, 9, 10, 11], []⟩ | 30000018 => some ⟨[7, 8], [0, 1, 2, 3, 4, 5, 6, 8, 7, 9, 10, 11], []⟩ | _ => none
theorem oracle_Oracle_Collide.eq (x0 : AVal) (H : AHeap) (K : AVal → AHeap → Prop) : evFn Try.prog (spOf l13) oracle_Oracle_Collide.cuts Try.f32 [x0] H K = oracle_Oracle_Collide.w x0 H K := by kernel_rfl
theorem oracle_Oracle_Collide.fn : FnOk Try.prog 32 S_oracle_Oracle_Collide := fn_ok1 ok13 mixed (T := oracle_Oracle_Collide.cuts) Try.func32 (Abs.enters_of Try.func32 (by kernel_rfl) (by kernel_rfl)) oracle_Oracle_Collide.ok oracle_Oracle_Collide.eq
def l14 : List (Nat × Bool × Abs.Spec) := (32, true, S_oracle_Oracle_Collide) :: l13
theorem ok14 : SpecsOk Try.prog (spOf l14) := SpecsOk.cons ok13 oracle_Oracle_Collide.fn (fun _ _ _ _ _ h => oracle_Oracle_Collide.quiet h)
def chain_sum.cuts : Cuts := fun k => match k with | _ => none
theorem chain_sum.eq (x0 x1 : AVal) (H : AHeap) (K : AVal → AHeap → Prop) : evFn Try.prog (spOf l14) chain_sum.cuts Try.f58 [x0, x1] H K = chain_sum.w x0 x1 H K := by kernel_rfl
theorem chain_sum.fn : FnOk Try.prog 58 S_chain_sum := fn_ok2 ok14 mixed (T := chain_sum.cuts) Try.func58 (Abs.enters_of Try.func58 (by kernel_rfl) (by kernel_rfl)) chain_sum.ok chain_sum.eq
def l15 : List (Nat × Bool × Abs.Spec) := (58, false, S_chain_sum) :: l14
theorem ok15 : SpecsOk Try.prog (spOf l15) := SpecsOk.cons ok14 chain_sum.fn (fun h => by cases h)
def chain_Start_1.cuts : Cuts := fun k => match k with | _ => none
theorem chain_Start_1.eq (x0 : AVal) (H : AHeap) (K : AVal → AHeap → Prop) : evFn Try.prog (spOf l15) chain_Start_1.cuts Try.f57 [x0] H K = chain_Start_1.w x0 H K := by kernel_rfl
theorem chain_Start_1.fn : FnOk Try.prog 57 S_chain_Start_1 := fn_ok1 ok15 mixed (T := chain_Start_1.cuts) Try.func57 (Abs.enters_of Try.func57 (by kernel_rfl) (by kernel_rfl)) chain_Start_1.ok chain_Start_1.eq
def l16 : List (Nat × Bool × Abs.Spec) := (57, true, S_chain_Start_1) :: l15
theorem ok16 : SpecsOk Try.prog (spOf l16) := SpecsOk.cons ok15 chain_Start_1.fn (fun _ _ _ _ _ h => chain_Start_1.quiet h)
def chain_Start.cuts : Cuts := fun k => match k with | _ => none
theorem chain_Start.eq (x0 x1 x2 x3 : AVal) (H : AHeap) (K : AVal → AHeap → Prop) : evFn Try.prog (spOf l16) chain_Start.cuts Try.f44 [x0, x1, x2, x3] H K = chain_Start.w x0 x1 x2 x3 H K := by kernel_rfl
theorem chain_Start.fn : FnOk Try.prog 44 S_chain_Start := fn_ok4 ok16 mixed (T := chain_Start.cuts) Try.func44 (Abs.enters_of Try.func44 (by kernel_rfl) (by kernel_rfl)) chain_Start.ok chain_Start.eq
def l17 : List (Nat × Bool × Abs.Spec) := (44, false, S_chain_Start) :: l16
theorem ok17 : SpecsOk Try.prog (spOf l17) := SpecsOk.cons ok16 chain_Start.fn (fun h => by cases h)
def chain_Next_1.cuts : Cuts := fun k => match k with | _ => none
theorem chain_Next_1.eq (x0 x1 : AVal) (H : AHeap) (K : AVal → AHeap → Prop) : evFn Try.prog (spOf l17) chain_Next_1.cuts Try.f77 [x0, x1] H K = chain_Next_1.w x0 x1 H K := by kernel_rfl
theorem chain_Next_1.fn : FnOk Try.prog 77 S_chain_Next_1 := fn_ok2E ok17 mixed (T := chain_Next_1.cuts) Try.func77 (Abs.enters_of Try.func77 (by kernel_rfl) (by kernel_rfl)) chain_Next_1.ok chain_Next_1.eq
def l18 : List (Nat × Bool × Abs.Spec) := (77, false, S_chain_Next_1) :: l17
theorem ok18 : SpecsOk Try.prog (spOf l18) := SpecsOk.cons ok17 chain_Next_1.fn (fun h => by cases h)
def chain_Next.cuts : Cuts := fun k => match k with | 1000001 => some ⟨[], [7], [.normal, .ret]⟩ | 6 => some ⟨[28], [7], [(.exit 0), .ret]⟩ | _ => none
theorem chain_Next.eq (x0 x1 x2 : AVal) (H : AHeap) (K : AVal → AHeap → Prop) : evFn Try.prog (spOf l18) chain_Next.cuts Try.f65 [x0, x1, x2] H K = chain_Next.w x0 x1 x2 H K := by kernel_rfl
theorem chain_Next.fn : FnOk Try.prog 65 S_chain_Next := fn_ok3 ok18 mixed (T := chain_Next.cuts) Try.func65 (Abs.enters_of Try.func65 (by kernel_rfl) (by kernel_rfl)) chain_Next.ok chain_Next.eq
def l19 : List (Nat × Bool × Abs.Spec) := (65, false, S_chain_Next) :: l18
theorem ok19 : SpecsOk Try.prog (spOf l19) := SpecsOk.cons ok18 chain_Next.fn (fun h => by cases h)
def be_Put.cuts : Cuts := fun k => match k with | 7 => some ⟨[32], [], [(.exit 1)]⟩ | _ => none
theorem be_Put.eq (x0 x1 : AVal) (H : AHeap) (K : AVal → AHeap → Prop) : evFn Try.prog (spOf l19) be_Put.cuts Try.f60 [x0, x1] H K = be_Put.w x0 x1 H K := by kernel_rfl
theorem be_Put.fn : FnOk Try.prog 60 S_be_Put := fn_ok2E ok19 mixed (T := be_Put.cuts) Try.func60 (Abs.enters_of Try.func60 (by kernel_rfl) (by kernel_rfl)) be_Put.ok be_Put.eq
def l20 : List (Nat × Bool × Abs.Spec) := (60, true, S_be_Put) :: l19
theorem ok20 : SpecsOk Try.prog (spOf l20) := SpecsOk.cons ok19 be_Put.fn (fun _ _ _ _ _ h => be_Put.quiet h)
def be_Get.cuts : Cuts := fun k => match k with | 9 => some ⟨[4, 24], [4], [(.exit 1)]⟩ | _ => none
theorem be_Get.eq (x0 : AVal) (H : AHeap) (K : AVal → AHeap → Prop) : evFn Try.prog (spOf l20) be_Get.cuts Try.f80 [x0] H K = be_Get.w x0 H K := by kernel_rfl
theorem be_Get.fn : FnOk Try.prog 80 S_be_Get := fn_ok1E ok20 mixed (T := be_Get.cuts) Try.func80 (Abs.enters_of Try.func80 (by kernel_rfl) (by kernel_rfl)) be_Get.ok be_Get.eq
def l21 : List (Nat × Bool × Abs.Spec) := (80, true, S_be_Get) :: l20
theorem ok21 : SpecsOk Try.prog (spOf l21) := SpecsOk.cons ok20 be_Get.fn (fun _ _ _ _ _ h => be_Get.quiet h)
def be_Pad.cuts : Cuts := fun k => match k with | _ => none
theorem be_Pad.eq (x0 x1 : AVal) (H : AHeap) (K : AVal → AHeap → Prop) : evFn Try.prog (spOf l21) be_Pad.cuts Try.f71 [x0, x1] H K = be_Pad.w x0 x1 H K := by kernel_rfl
theorem be_Pad.fn : FnOk Try.prog 71 S_be_Pad := fn_ok2E ok21 mixed (T := be_Pad.cuts) Try.func71 (Abs.enters_of Try.func71 (by kernel_rfl) (by kernel_rfl)) be_Pad.ok be_Pad.eq
def l22 : List (Nat × Bool × Abs.Spec) := (71, true, S_be_Pad) :: l21
theorem ok22 : SpecsOk Try.prog (spOf l22) := SpecsOk.cons ok21 be_Pad.fn (fun _ _ _ _ _ h => be_Pad.quiet h)
def be_Row_1.cuts : Cuts := fun k => match k with | _ => none
theorem be_Row_1.eq (x0 x1 x2 : AVal) (H : AHeap) (K : AVal → AHeap → Prop) : evFn Try.prog (spOf l22) be_Row_1.cuts Try.f73 [x0, x1, x2] H K = be_Row_1.w x0 x1 x2 H K := by kernel_rfl
theorem be_Row_1.fn : FnOk Try.prog 73 S_be_Row_1 := fn_ok3E ok22 mixed (T := be_Row_1.cuts) Try.func73 (Abs.enters_of Try.func73 (by kernel_rfl) (by kernel_rfl)) be_Row_1.ok be_Row_1.eq
def l23 : List (Nat × Bool × Abs.Spec) := (73, false, S_be_Row_1) :: l22
theorem ok23 : SpecsOk Try.prog (spOf l23) := SpecsOk.cons ok22 be_Row_1.fn (fun h => by cases h)
def be_Row.cuts : Cuts := fun k => match k with | 1000003 => some ⟨[], [4, 5], [.normal, .ret]⟩ | 8 => some ⟨[23], [4, 5], [(.exit 0), .ret]⟩ | _ => none
theorem be_Row.eq (x0 x1 : AVal) (H : AHeap) (K : AVal → AHeap → Prop) : evFn Try.prog (spOf l23) be_Row.cuts Try.f62 [x0, x1] H K = be_Row.w x0 x1 H K := by kernel_rfl
theorem be_Row.fn : FnOk Try.prog 62 S_be_Row := fn_ok2E ok23 mixed (T := be_Row.cuts) Try.func62 (Abs.enters_of Try.func62 (by kernel_rfl) (by kernel_rfl)) be_Row.ok be_Row.eq
def l24 : List (Nat × Bool × Abs.Spec) := (62, true, S_be_Row) :: l23
theorem ok24 : SpecsOk Try.prog (spOf l24) := SpecsOk.cons ok23 be_Row.fn (fun _ _ _ _ _ h => be_Row.quiet h)
def cellaretref01_Put.cuts : Cuts := fun k => match k with | 1000001 => some ⟨[], [4, 5], [.normal, .ret]⟩ | 7 => some ⟨[0, 6, 7], [0, 6], [(.exit 0)]⟩ | _ => none
theorem cellaretref01_Put.eq (x0 x1 : AVal) (H : AHeap) (K : AVal → AHeap → Prop) : evFn Try.prog (spOf l24) cellaretref01_Put.cuts Try.f56 [x0, x1] H K = cellaretref01_Put.w x0 x1 H K := by kernel_rfl
theorem cellaretref01_Put.fn : FnOk Try.prog 56 S_cellaretref01_Put := fn_ok2E ok24 mixed (T := cellaretref01_Put.cuts) Try.func56 (Abs.enters_of Try.func56 (by kernel_rfl) (by kernel_rfl)) cellaretref01_Put.ok cellaretref01_Put.eq
def l25 : List (Nat × Bool × Abs.Spec) := (56, true, S_cellaretref01_Put) :: l24
theorem ok25 : SpecsOk Try.prog (spOf l25) := SpecsOk.cons ok24 cellaretref01_Put.fn (fun _ _ _ _ _ h => cellaretref01_Put.quiet h)
def cellaretref01_N.cuts : Cuts := fun k => match k with | _ => none
theorem cellaretref01_N.eq (x0 x1 : AVal) (H : AHeap) (K : AVal → AHeap → Prop) : evFn Try.prog (spOf l25) cellaretref01_N.cuts Try.f43 [x0, x1] H K = cellaretref01_N.w x0 x1 H K := by kernel_rfl
theorem cellaretref01_N.fn : FnOk Try.prog 43 S_cellaretref01_N := fn_ok2E ok25 mixed (T := cellaretref01_N.cuts) Try.func43 (Abs.enters_of Try.func43 (by kernel_rfl) (by kernel_rfl)) cellaretref01_N.ok cellaretref01_N.eq
def l26 : List (Nat × Bool × Abs.Spec) := (43, true, S_cellaretref01_N) :: l25
theorem ok26 : SpecsOk Try.prog (spOf l26) := SpecsOk.cons ok25 cellaretref01_N.fn (fun _ _ _ _ _ h => cellaretref01_N.quiet h)
def slices_Equal_string_string.cuts : Cuts := fun k => match k with | 4 => some ⟨[13], [4], [(.exit 0), .ret]⟩ | _ => none
theorem slices_Equal_string_string.eq (x0 x1 : AVal) (H : AHeap) (K : AVal → AHeap → Prop) : evFn Try.prog (spOf l26) slices_Equal_string_string.cuts Try.f81 [x0, x1] H K = slices_Equal_string_string.w x0 x1 H K := by kernel_rfl
theorem slices_Equal_string_string.fn : FnOk Try.prog 81 S_slices_Equal_string_string := fn_ok2E ok26 mixed (T := slices_Equal_string_string.cuts) Try.func81 (Abs.enters_of Try.func81 (by kernel_rfl) (by kernel_rfl)) slices_Equal_string_string.ok slices_Equal_string_string.eq
def l27 : List (Nat × Bool × Abs.Spec) := (81, true, S_slices_Equal_string_string) :: l26
theorem ok27 : SpecsOk Try.prog (spOf l27) := SpecsOk.cons ok26 slices_Equal_string_string.fn (fun _ _ _ _ _ h => slices_Equal_string_string.quiet h)
def record_Check.cuts : Cuts := fun k => match k with | 1000003 => some ⟨[], [2], [.normal, .ret]⟩ | 7 => some ⟨[3, 21], [2], [(.exit 0), .ret]⟩ | 1000009 => some ⟨[], [2], [.normal, .ret]⟩ | _ => none
theorem record_Check.eq (x0 : AVal) (H : AHeap) (K : AVal → AHeap → Prop) : evFn Try.prog (spOf l27) record_Check.cuts Try.f59 [x0] H K = record_Check.w x0 H K := by kernel_rfl
theorem record_Check.fn : FnOk Try.prog 59 S_record_Check := fn_ok1E ok27 mixed (T := record_Check.cuts) Try.func59 (Abs.enters_of Try.func59 (by kernel_rfl) (by kernel_rfl)) record_Check.ok record_Check.eq
def l28 : List (Nat × Bool × Abs.Spec) := (59, true, S_record_Check) :: l27
theorem ok28 : SpecsOk Try.prog (spOf l28) := SpecsOk.cons ok27 record_Check.fn (fun _ _ _ _ _ h => record_Check.quiet h)
def record_Length.cuts : Cuts := fun k => match k with | 1000001 => some ⟨[], [2], [.normal, .ret]⟩ | _ => none
theorem record_Length.eq (x0 : AVal) (H : AHeap) (K : AVal → AHeap → Prop) : evFn Try.prog (spOf l28) record_Length.cuts Try.f50 [x0] H K = record_Length.w x0 H K := by kernel_rfl
theorem record_Length.fn : FnOk Try.prog 50 S_record_Length := fn_ok1E ok28 mixed (T := record_Length.cuts) Try.func50 (Abs.enters_of Try.func50 (by kernel_rfl) (by kernel_rfl)) record_Length.ok record_Length.eq
def l29 : List (Nat × Bool × Abs.Spec) := (50, true, S_record_Length) :: l28
theorem ok29 : SpecsOk Try.prog (spOf l29) := SpecsOk.cons ok28 record_Length.fn (fun _ _ _ _ _ h => record_Length.quiet h)
def record_block.cuts : Cuts := fun k => match k with | _ => none
theorem record_block.eq (x0 : AVal) (H : AHeap) (K : AVal → AHeap → Prop) : evFn Try.prog (spOf l29) record_block.cuts Try.f61 [x0] H K = record_block.w x0 H K := by kernel_rfl
theorem record_block.fn : FnOk Try.prog 61 S_record_block := fn_ok1E ok29 mixed (T := record_block.cuts) Try.func61 (Abs.enters_of Try.func61 (by kernel_rfl) (by kernel_rfl)) record_block.ok record_block.eq
def l30 : List (Nat × Bool × Abs.Spec) := (61, true, S_record_block) :: l29
theorem ok30 : SpecsOk Try.prog (spOf l30) := SpecsOk.cons ok29 record_block.fn (fun _ _ _ _ _ h => record_block.quiet h)
def record_Lay.cuts : Cuts := fun k => match k with | 9 => some ⟨[10, 47], [10], [(.exit 0)]⟩ | 13 => some ⟨[9, 10], [9], [(.exit 2)]⟩ | 19 => some ⟨[9, 83], [9], [(.exit 4)]⟩ | _ => none
theorem record_Lay.eq (x0 : AVal) (H : AHeap) (K : AVal → AHeap → Prop) : evFn Try.prog (spOf l30) record_Lay.cuts Try.f45 [x0] H K = record_Lay.w x0 H K := by kernel_rfl
theorem record_Lay.fn : FnOk Try.prog 45 S_record_Lay := fn_ok1E ok30 mixed (T := record_Lay.cuts) Try.func45 (Abs.enters_of Try.func45 (by kernel_rfl) (by kernel_rfl)) record_Lay.ok record_Lay.eq
def l31 : List (Nat × Bool × Abs.Spec) := (45, true, S_record_Lay) :: l30
theorem ok31 : SpecsOk Try.prog (spOf l31) := SpecsOk.cons ok30 record_Lay.fn (fun _ _ _ _ _ h => record_Lay.quiet h)
def record_first.cuts : Cuts := fun k => match k with | 1000001 => some ⟨[], [4], [.normal, .ret]⟩ | _ => none
theorem record_first.eq (x0 x1 : AVal) (H : AHeap) (K : AVal → AHeap → Prop) : evFn Try.prog (spOf l31) record_first.cuts Try.f78 [x0, x1] H K = record_first.w x0 x1 H K := by kernel_rfl
theorem record_first.fn : FnOk Try.prog 78 S_record_first := fn_ok2E ok31 mixed (T := record_first.cuts) Try.func78 (Abs.enters_of Try.func78 (by kernel_rfl) (by kernel_rfl)) record_first.ok record_first.eq
def l32 : List (Nat × Bool × Abs.Spec) := (78, false, S_record_first) :: l31
theorem ok32 : SpecsOk Try.prog (spOf l32) := SpecsOk.cons ok31 record_first.fn (fun h => by cases h)
def record_Parse_1.cuts : Cuts := fun k => match k with | _ => none
theorem record_Parse_1.eq (x0 x1 x2 x3 : AVal) (H : AHeap) (K : AVal → AHeap → Prop) : evFn Try.prog (spOf l32) record_Parse_1.cuts Try.f79 [x0, x1, x2, x3] H K = record_Parse_1.w x0 x1 x2 x3 H K := by kernel_rfl
theorem record_Parse_1.fn : FnOk Try.prog 79 S_record_Parse_1 := fn_ok4E ok32 mixed (T := record_Parse_1.cuts) Try.func79 (Abs.enters_of Try.func79 (by kernel_rfl) (by kernel_rfl)) record_Parse_1.ok record_Parse_1.eq
def l33 : List (Nat × Bool × Abs.Spec) := (79, false, S_record_Parse_1) :: l32
theorem ok33 : SpecsOk Try.prog (spOf l33) := SpecsOk.cons ok32 record_Parse_1.fn (fun h => by cases h)
def record_Parse.cuts : Cuts := fun k => match k with | 13 => some ⟨[36], [3, 4], [(.exit 0), .ret]⟩ | 1000019 => some ⟨[], [3, 4], [.normal, .ret]⟩ | _ => none
theorem record_Parse.eq (x0 : AVal) (H : AHeap) (K : AVal → AHeap → Prop) : evFn Try.prog (spOf l33) record_Parse.cuts Try.f67 [x0] H K = record_Parse.w x0 H K := by kernel_rfl
theorem record_Parse.fn : FnOk Try.prog 67 S_record_Parse := fn_ok1E ok33 mixed (T := record_Parse.cuts) Try.func67 (Abs.enters_of Try.func67 (by kernel_rfl) (by kernel_rfl)) record_Parse.ok record_Parse.eq
def l34 : List (Nat × Bool × Abs.Spec) := (67, true, S_record_Parse) :: l33
theorem ok34 : SpecsOk Try.prog (spOf l34) := SpecsOk.cons ok33 record_Parse.fn (fun _ _ _ _ _ h => record_Parse.quiet h)
def record_All.cuts : Cuts := fun k => match k with | 2 => some ⟨[0, 4], [2, 3, 4], [(.exit 0), .ret]⟩ | _ => none
theorem record_All.eq (x0 : AVal) (H : AHeap) (K : AVal → AHeap → Prop) : evFn Try.prog (spOf l34) record_All.cuts Try.f49 [x0] H K = record_All.w x0 H K := by kernel_rfl
theorem record_All.fn : FnOk Try.prog 49 S_record_All := fn_ok1E ok34 mixed (T := record_All.cuts) Try.func49 (Abs.enters_of Try.func49 (by kernel_rfl) (by kernel_rfl)) record_All.ok record_All.eq
def l35 : List (Nat × Bool × Abs.Spec) := (49, true, S_record_All) :: l34
theorem ok35 : SpecsOk Try.prog (spOf l35) := SpecsOk.cons ok34 record_All.fn (fun _ _ _ _ _ h => record_All.quiet h)
def cellaretref13_Right.cuts : Cuts := fun k => match k with | 1000001 => some ⟨[], [2], [.normal, .ret]⟩ | 4 => some ⟨[3], [2], [(.exit 0), .ret]⟩ | _ => none
theorem cellaretref13_Right.eq (x0 : AVal) (H : AHeap) (K : AVal → AHeap → Prop) : evFn Try.prog (spOf l35) cellaretref13_Right.cuts Try.f29 [x0] H K = cellaretref13_Right.w x0 H K := by kernel_rfl
theorem cellaretref13_Right.fn : FnOk Try.prog 29 S_cellaretref13_Right := fn_ok1E ok35 mixed (T := cellaretref13_Right.cuts) Try.func29 (Abs.enters_of Try.func29 (by kernel_rfl) (by kernel_rfl)) cellaretref13_Right.ok cellaretref13_Right.eq
def l36 : List (Nat × Bool × Abs.Spec) := (29, true, S_cellaretref13_Right) :: l35
theorem ok36 : SpecsOk Try.prog (spOf l36) := SpecsOk.cons ok35 cellaretref13_Right.fn (fun _ _ _ _ _ h => cellaretref13_Right.quiet h)
def cellaretref13_Lay.cuts : Cuts := fun k => match k with | 3 => some ⟨[3, 4], [3], [(.exit 0)]⟩ | 7 => some ⟨[5, 6], [5], [(.exit 2)]⟩ | 1000007 => some ⟨[], [], [(.exit 2), .normal]⟩ | 12 => some ⟨[3, 7], [3], [(.exit 4)]⟩ | _ => none
theorem cellaretref13_Lay.eq (x0 : AVal) (H : AHeap) (K : AVal → AHeap → Prop) : evFn Try.prog (spOf l36) cellaretref13_Lay.cuts Try.f17 [x0] H K = cellaretref13_Lay.w x0 H K := by kernel_rfl
theorem cellaretref13_Lay.fn : FnOk Try.prog 17 S_cellaretref13_Lay := fn_ok1E ok36 mixed (T := cellaretref13_Lay.cuts) Try.func17 (Abs.enters_of Try.func17 (by kernel_rfl) (by kernel_rfl)) cellaretref13_Lay.ok cellaretref13_Lay.eq
def l37 : List (Nat × Bool × Abs.Spec) := (17, true, S_cellaretref13_Lay) :: l36
theorem ok37 : SpecsOk Try.prog (spOf l37) := SpecsOk.cons ok36 cellaretref13_Lay.fn (fun _ _ _ _ _ h => cellaretref13_Lay.quiet h)
def cellaretref13_Same.cuts : Cuts := fun k => match k with | 1000001 => some ⟨[], [4], [.normal, .ret]⟩ | 4 => some ⟨[5], [4], [(.exit 0), .ret]⟩ | _ => none
theorem cellaretref13_Same.eq (x0 x1 : AVal) (H : AHeap) (K : AVal → AHeap → Prop) : evFn Try.prog (spOf l37) cellaretref13_Same.cuts Try.f31 [x0, x1] H K = cellaretref13_Same.w x0 x1 H K := by kernel_rfl
theorem cellaretref13_Same.fn : FnOk Try.prog 31 S_cellaretref13_Same := fn_ok2E ok37 mixed (T := cellaretref13_Same.cuts) Try.func31 (Abs.enters_of Try.func31 (by kernel_rfl) (by kernel_rfl)) cellaretref13_Same.ok cellaretref13_Same.eq
def l38 : List (Nat × Bool × Abs.Spec) := (31, true, S_cellaretref13_Same) :: l37
theorem ok38 : SpecsOk Try.prog (spOf l38) := SpecsOk.cons ok37 cellaretref13_Same.fn (fun _ _ _ _ _ h => cellaretref13_Same.quiet h)
def dev_New.cuts : Cuts := fun k => match k with | 1000001 => some ⟨[], [2, 3], [.normal, .ret]⟩ | 6 => some ⟨[17], [], [(.exit 0)]⟩ | _ => none
theorem dev_New.eq (x0 : AVal) (H : AHeap) (K : AVal → AHeap → Prop) : evFn Try.prog (spOf l38) dev_New.cuts Try.f34 [x0] H K = dev_New.w x0 H K := by kernel_rfl
theorem dev_New.fn : FnOk Try.prog 34 S_dev_New := fn_ok1E ok38 mixed (T := dev_New.cuts) Try.func34 (Abs.enters_of Try.func34 (by kernel_rfl) (by kernel_rfl)) dev_New.ok dev_New.eq
def l39 : List (Nat × Bool × Abs.Spec) := (34, true, S_dev_New) :: l38
theorem ok39 : SpecsOk Try.prog (spOf l39) := SpecsOk.cons ok38 dev_New.fn (fun _ _ _ _ _ h => dev_New.quiet h)
def dev_Dev_may.cuts : Cuts := fun k => match k with | _ => none
theorem dev_Dev_may.eq (x0 x1 x2 : AVal) (H : AHeap) (K : AVal → AHeap → Prop) : evFn Try.prog (spOf l39) dev_Dev_may.cuts Try.f69 [x0, x1, x2] H K = dev_Dev_may.w x0 x1 x2 H K := by kernel_rfl
theorem dev_Dev_may.fn : FnOk Try.prog 69 S_dev_Dev_may := fn_ok3E ok39 mixed (T := dev_Dev_may.cuts) Try.func69 (Abs.enters_of Try.func69 (by kernel_rfl) (by kernel_rfl)) dev_Dev_may.ok dev_Dev_may.eq
def l40 : List (Nat × Bool × Abs.Spec) := (69, true, S_dev_Dev_may) :: l39
theorem ok40 : SpecsOk Try.prog (spOf l40) := SpecsOk.cons ok39 dev_Dev_may.fn (fun _ _ _ _ _ h => dev_Dev_may.quiet h)
def dev_Dev_Read.cuts : Cuts := fun k => match k with | _ => none
theorem dev_Dev_Read.eq (x0 x1 : AVal) (H : AHeap) (K : AVal → AHeap → Prop) : evFn Try.prog (spOf l40) dev_Dev_Read.cuts Try.f38 [x0, x1] H K = dev_Dev_Read.w x0 x1 H K := by kernel_rfl
theorem dev_Dev_Read.fn : FnOk Try.prog 38 S_dev_Dev_Read := fn_ok2E ok40 mixed (T := dev_Dev_Read.cuts) Try.func38 (Abs.enters_of Try.func38 (by kernel_rfl) (by kernel_rfl)) dev_Dev_Read.ok dev_Dev_Read.eq
def l41 : List (Nat × Bool × Abs.Spec) := (38, true, S_dev_Dev_Read) :: l40
theorem ok41 : SpecsOk Try.prog (spOf l41) := SpecsOk.cons ok40 dev_Dev_Read.fn (fun _ _ _ _ _ h => dev_Dev_Read.quiet h)
def dev_Dev_Write.cuts : Cuts := fun k => match k with | _ => none
theorem dev_Dev_Write.eq (x0 x1 x2 : AVal) (H : AHeap) (K : AVal → AHeap → Prop) : evFn Try.prog (spOf l41) dev_Dev_Write.cuts Try.f75 [x0, x1, x2] H K = dev_Dev_Write.w x0 x1 x2 H K := by kernel_rfl
theorem dev_Dev_Write.fn : FnOk Try.prog 75 S_dev_Dev_Write := fn_ok3E ok41 mixed (T := dev_Dev_Write.cuts) Try.func75 (Abs.enters_of Try.func75 (by kernel_rfl) (by kernel_rfl)) dev_Dev_Write.ok dev_Dev_Write.eq
def l42 : List (Nat × Bool × Abs.Spec) := (75, false, S_dev_Dev_Write) :: l41
theorem ok42 : SpecsOk Try.prog (spOf l42) := SpecsOk.cons ok41 dev_Dev_Write.fn (fun h => by cases h)
def dev_Dev_Tamper.cuts : Cuts := fun k => match k with | _ => none
theorem dev_Dev_Tamper.eq (x0 x1 x2 : AVal) (H : AHeap) (K : AVal → AHeap → Prop) : evFn Try.prog (spOf l42) dev_Dev_Tamper.cuts Try.f53 [x0, x1, x2] H K = dev_Dev_Tamper.w x0 x1 x2 H K := by kernel_rfl
theorem dev_Dev_Tamper.fn : FnOk Try.prog 53 S_dev_Dev_Tamper := fn_ok3E ok42 mixed (T := dev_Dev_Tamper.cuts) Try.func53 (Abs.enters_of Try.func53 (by kernel_rfl) (by kernel_rfl)) dev_Dev_Tamper.ok dev_Dev_Tamper.eq
def l43 : List (Nat × Bool × Abs.Spec) := (53, false, S_dev_Dev_Tamper) :: l42
theorem ok43 : SpecsOk Try.prog (spOf l43) := SpecsOk.cons ok42 dev_Dev_Tamper.fn (fun h => by cases h)
def rig_New.cuts : Cuts := fun k => match k with | 3 => some ⟨[7], [], [(.exit 0)]⟩ | _ => none
theorem rig_New.eq (H : AHeap) (K : AVal → AHeap → Prop) : evFn Try.prog (spOf l43) rig_New.cuts Try.f10 [] H K = rig_New.w H K := by kernel_rfl
theorem rig_New.fn : FnOk Try.prog 10 S_rig_New := fn_ok0E ok43 mixed (T := rig_New.cuts) Try.func10 (Abs.enters_of Try.func10 (by kernel_rfl) (by kernel_rfl)) rig_New.ok rig_New.eq
def l44 : List (Nat × Bool × Abs.Spec) := (10, true, S_rig_New) :: l43
theorem ok44 : SpecsOk Try.prog (spOf l44) := SpecsOk.cons ok43 rig_New.fn (fun _ _ _ _ _ h => rig_New.quiet h)
def rig_Rig_may.cuts : Cuts := fun k => match k with | _ => none
theorem rig_Rig_may.eq (x0 x1 x2 : AVal) (H : AHeap) (K : AVal → AHeap → Prop) : evFn Try.prog (spOf l44) rig_Rig_may.cuts Try.f35 [x0, x1, x2] H K = rig_Rig_may.w x0 x1 x2 H K := by kernel_rfl
theorem rig_Rig_may.fn : FnOk Try.prog 35 S_rig_Rig_may := fn_ok3E ok44 mixed (T := rig_Rig_may.cuts) Try.func35 (Abs.enters_of Try.func35 (by kernel_rfl) (by kernel_rfl)) rig_Rig_may.ok rig_Rig_may.eq
def l45 : List (Nat × Bool × Abs.Spec) := (35, true, S_rig_Rig_may) :: l44
theorem ok45 : SpecsOk Try.prog (spOf l45) := SpecsOk.cons ok44 rig_Rig_may.fn (fun _ _ _ _ _ h => rig_Rig_may.quiet h)
def rig_comes.cuts : Cuts := fun k => match k with | _ => none
theorem rig_comes.eq (x0 : AVal) (H : AHeap) (K : AVal → AHeap → Prop) : evFn Try.prog (spOf l45) rig_comes.cuts Try.f54 [x0] H K = rig_comes.w x0 H K := by kernel_rfl
theorem rig_comes.fn : FnOk Try.prog 54 S_rig_comes := fn_ok1E ok45 mixed (T := rig_comes.cuts) Try.func54 (Abs.enters_of Try.func54 (by kernel_rfl) (by kernel_rfl)) rig_comes.ok rig_comes.eq
def l46 : List (Nat × Bool × Abs.Spec) := (54, false, S_rig_comes) :: l45
theorem ok46 : SpecsOk Try.prog (spOf l46) := SpecsOk.cons ok45 rig_comes.fn (fun h => by cases h)
def rig_Rig_Read_1.cuts : Cuts := fun k => match k with | _ => none
theorem rig_Rig_Read_1.eq (x0 x1 x2 x3 : AVal) (H : AHeap) (K : AVal → AHeap → Prop) : evFn Try.prog (spOf l46) rig_Rig_Read_1.cuts Try.f37 [x0, x1, x2, x3] H K = rig_Rig_Read_1.w x0 x1 x2 x3 H K := by kernel_rfl
theorem rig_Rig_Read_1.fn : FnOk Try.prog 37 S_rig_Rig_Read_1 := fn_ok4E ok46 mixed (T := rig_Rig_Read_1.cuts) Try.func37 (Abs.enters_of Try.func37 (by kernel_rfl) (by kernel_rfl)) rig_Rig_Read_1.ok rig_Rig_Read_1.eq
def l47 : List (Nat × Bool × Abs.Spec) := (37, false, S_rig_Rig_Read_1) :: l46
theorem ok47 : SpecsOk Try.prog (spOf l47) := SpecsOk.cons ok46 rig_Rig_Read_1.fn (fun h => by cases h)
def rig_Rig_Write_1.cuts : Cuts := fun k => match k with | _ => none
theorem rig_Rig_Write_1.eq (x0 x1 x2 x3 : AVal) (H : AHeap) (K : AVal → AHeap → Prop) : evFn Try.prog (spOf l47) rig_Rig_Write_1.cuts Try.f74 [x0, x1, x2, x3] H K = rig_Rig_Write_1.w x0 x1 x2 x3 H K := by kernel_rfl
theorem rig_Rig_Write_1.fn : FnOk Try.prog 74 S_rig_Rig_Write_1 := fn_ok4E ok47 mixed (T := rig_Rig_Write_1.cuts) Try.func74 (Abs.enters_of Try.func74 (by kernel_rfl) (by kernel_rfl)) rig_Rig_Write_1.ok rig_Rig_Write_1.eq
def l48 : List (Nat × Bool × Abs.Spec) := (74, false, S_rig_Rig_Write_1) :: l47
theorem ok48 : SpecsOk Try.prog (spOf l48) := SpecsOk.cons ok47 rig_Rig_Write_1.fn (fun h => by cases h)
def rig_Rig_step.cuts : Cuts := fun k => match k with | 1000004 => some ⟨[], [], [.normal]⟩ | _ => none
theorem rig_Rig_step.eq (x0 x1 : AVal) (H : AHeap) (K : AVal → AHeap → Prop) : evFn Try.prog (spOf l48) rig_Rig_step.cuts Try.f36 [x0, x1] H K = rig_Rig_step.w (callP (spOf l48)) x0 x1 H K := by kernel_rfl
theorem rig_Rig_step.le : CallsT.le rigCP (callP (spOf l48)) := by
  intro f a H r H' h
  rcases h with h | h | h | h | h
  all_goals first
    | (obtain ⟨cap, rfl, h⟩ := h; exact h)
    | (obtain ⟨hn, cap, rfl, h⟩ := h; first | exact h | exact absurd rfl hn)
theorem rig_Rig_step.fn : FnOk Try.prog 36 S_rig_Rig_step := fn_ok2E ok48 mixed (T := rig_Rig_step.cuts) Try.func36 (Abs.enters_of Try.func36 (by kernel_rfl) (by kernel_rfl)) (rig_Rig_step.okC rig_Rig_step.le) rig_Rig_step.eq
def l49 : List (Nat × Bool × Abs.Spec) := (36, false, S_rig_Rig_step) :: l48
theorem ok49 : SpecsOk Try.prog (spOf l49) := SpecsOk.cons ok48 rig_Rig_step.fn (fun h => by cases h)
def rig_Rig_Read.cuts : Cuts := fun k => match k with | _ => none
theorem rig_Rig_Read.eq (x0 x1 x2 : AVal) (H : AHeap) (K : AVal → AHeap → Prop) : evFn Try.prog (spOf l49) rig_Rig_Read.cuts Try.f15 [x0, x1, x2] H K = rig_Rig_Read.w x0 x1 x2 H K := by kernel_rfl
theorem rig_Rig_Read.fn : FnOk Try.prog 15 S_rig_Rig_Read := fn_ok3E ok49 mixed (T := rig_Rig_Read.cuts) Try.func15 (Abs.enters_of Try.func15 (by kernel_rfl) (by kernel_rfl)) rig_Rig_Read.ok rig_Rig_Read.eq
def l50 : List (Nat × Bool × Abs.Spec) := (15, false, S_rig_Rig_Read) :: l49
theorem ok50 : SpecsOk Try.prog (spOf l50) := SpecsOk.cons ok49 rig_Rig_Read.fn (fun h => by cases h)
def rig_Rig_Write.cuts : Cuts := fun k => match k with | _ => none
theorem rig_Rig_Write.eq (x0 x1 x2 x3 : AVal) (H : AHeap) (K : AVal → AHeap → Prop) : evFn Try.prog (spOf l50) rig_Rig_Write.cuts Try.f63 [x0, x1, x2, x3] H K = rig_Rig_Write.w x0 x1 x2 x3 H K := by kernel_rfl
theorem rig_Rig_Write.fn : FnOk Try.prog 63 S_rig_Rig_Write := fn_ok4E ok50 mixed (T := rig_Rig_Write.cuts) Try.func63 (Abs.enters_of Try.func63 (by kernel_rfl) (by kernel_rfl)) rig_Rig_Write.ok rig_Rig_Write.eq
def l51 : List (Nat × Bool × Abs.Spec) := (63, false, S_rig_Rig_Write) :: l50
theorem ok51 : SpecsOk Try.prog (spOf l51) := SpecsOk.cons ok50 rig_Rig_Write.fn (fun h => by cases h)
def rig_Rig_Tamper.cuts : Cuts := fun k => match k with | _ => none
theorem rig_Rig_Tamper.eq (x0 x1 x2 x3 : AVal) (H : AHeap) (K : AVal → AHeap → Prop) : evFn Try.prog (spOf l51) rig_Rig_Tamper.cuts Try.f33 [x0, x1, x2, x3] H K = rig_Rig_Tamper.w x0 x1 x2 x3 H K := by kernel_rfl
theorem rig_Rig_Tamper.fn : FnOk Try.prog 33 S_rig_Rig_Tamper := fn_ok4E ok51 mixed (T := rig_Rig_Tamper.cuts) Try.func33 (Abs.enters_of Try.func33 (by kernel_rfl) (by kernel_rfl)) rig_Rig_Tamper.ok rig_Rig_Tamper.eq
def l52 : List (Nat × Bool × Abs.Spec) := (33, false, S_rig_Rig_Tamper) :: l51
theorem ok52 : SpecsOk Try.prog (spOf l52) := SpecsOk.cons ok51 rig_Rig_Tamper.fn (fun h => by cases h)
def rig_right.cuts : Cuts := fun k => match k with | _ => none
theorem rig_right.eq (x0 : AVal) (H : AHeap) (K : AVal → AHeap → Prop) : evFn Try.prog (spOf l52) rig_right.cuts Try.f51 [x0] H K = rig_right.w x0 H K := by kernel_rfl
theorem rig_right.fn : FnOk Try.prog 51 S_rig_right := fn_ok1E ok52 mixed (T := rig_right.cuts) Try.func51 (Abs.enters_of Try.func51 (by kernel_rfl) (by kernel_rfl)) rig_right.ok rig_right.eq
def l53 : List (Nat × Bool × Abs.Spec) := (51, true, S_rig_right) :: l52
theorem ok53 : SpecsOk Try.prog (spOf l53) := SpecsOk.cons ok52 rig_right.fn (fun _ _ _ _ _ h => rig_right.quiet h)
def geom_AreaAt.cuts : Cuts := fun k => match k with | 1000001 => some ⟨[], [4, 5], [.normal, .ret]⟩ | _ => none
theorem geom_AreaAt.eq (x0 x1 : AVal) (H : AHeap) (K : AVal → AHeap → Prop) : evFn Try.prog (spOf l53) geom_AreaAt.cuts Try.f76 [x0, x1] H K = geom_AreaAt.w x0 x1 H K := by kernel_rfl
theorem geom_AreaAt.fn : FnOk Try.prog 76 S_geom_AreaAt := fn_ok2E ok53 mixed (T := geom_AreaAt.cuts) Try.func76 (Abs.enters_of Try.func76 (by kernel_rfl) (by kernel_rfl)) geom_AreaAt.ok geom_AreaAt.eq
def l54 : List (Nat × Bool × Abs.Spec) := (76, true, S_geom_AreaAt) :: l53
theorem ok54 : SpecsOk Try.prog (spOf l54) := SpecsOk.cons ok53 geom_AreaAt.fn (fun _ _ _ _ _ h => geom_AreaAt.quiet h)
def jrnl_Where_block.cuts : Cuts := fun k => match k with | _ => none
theorem jrnl_Where_block.eq (x0 x1 : AVal) (H : AHeap) (K : AVal → AHeap → Prop) : evFn Try.prog (spOf l54) jrnl_Where_block.cuts Try.f64 [x0, x1] H K = jrnl_Where_block.w x0 x1 H K := by kernel_rfl
theorem jrnl_Where_block.fn : FnOk Try.prog 64 S_jrnl_Where_block := fn_ok2E ok54 mixed (T := jrnl_Where_block.cuts) Try.func64 (Abs.enters_of Try.func64 (by kernel_rfl) (by kernel_rfl)) jrnl_Where_block.ok jrnl_Where_block.eq
def l55 : List (Nat × Bool × Abs.Spec) := (64, true, S_jrnl_Where_block) :: l54
theorem ok55 : SpecsOk Try.prog (spOf l55) := SpecsOk.cons ok54 jrnl_Where_block.fn (fun _ _ _ _ _ h => jrnl_Where_block.quiet h)
def jrnl_Journal_Anchor.cuts : Cuts := fun k => match k with | _ => none
theorem jrnl_Journal_Anchor.eq (x0 : AVal) (H : AHeap) (K : AVal → AHeap → Prop) : evFn Try.prog (spOf l55) jrnl_Journal_Anchor.cuts Try.f18 [x0] H K = jrnl_Journal_Anchor.w x0 H K := by kernel_rfl
theorem jrnl_Journal_Anchor.fn : FnOk Try.prog 18 S_jrnl_Journal_Anchor := fn_ok1E ok55 mixed (T := jrnl_Journal_Anchor.cuts) Try.func18 (Abs.enters_of Try.func18 (by kernel_rfl) (by kernel_rfl)) jrnl_Journal_Anchor.ok jrnl_Journal_Anchor.eq
def l56 : List (Nat × Bool × Abs.Spec) := (18, true, S_jrnl_Journal_Anchor) :: l55
theorem ok56 : SpecsOk Try.prog (spOf l56) := SpecsOk.cons ok55 jrnl_Journal_Anchor.fn (fun _ _ _ _ _ h => jrnl_Journal_Anchor.quiet h)
def jrnl_Journal_Seq.cuts : Cuts := fun k => match k with | _ => none
theorem jrnl_Journal_Seq.eq (x0 : AVal) (H : AHeap) (K : AVal → AHeap → Prop) : evFn Try.prog (spOf l56) jrnl_Journal_Seq.cuts Try.f19 [x0] H K = jrnl_Journal_Seq.w x0 H K := by kernel_rfl
theorem jrnl_Journal_Seq.fn : FnOk Try.prog 19 S_jrnl_Journal_Seq := fn_ok1E ok56 mixed (T := jrnl_Journal_Seq.cuts) Try.func19 (Abs.enters_of Try.func19 (by kernel_rfl) (by kernel_rfl)) jrnl_Journal_Seq.ok jrnl_Journal_Seq.eq
def l57 : List (Nat × Bool × Abs.Spec) := (19, true, S_jrnl_Journal_Seq) :: l56
theorem ok57 : SpecsOk Try.prog (spOf l57) := SpecsOk.cons ok56 jrnl_Journal_Seq.fn (fun _ _ _ _ _ h => jrnl_Journal_Seq.quiet h)
def jrnl_Journal_Root.cuts : Cuts := fun k => match k with | _ => none
theorem jrnl_Journal_Root.eq (x0 : AVal) (H : AHeap) (K : AVal → AHeap → Prop) : evFn Try.prog (spOf l57) jrnl_Journal_Root.cuts Try.f20 [x0] H K = jrnl_Journal_Root.w x0 H K := by kernel_rfl
theorem jrnl_Journal_Root.fn : FnOk Try.prog 20 S_jrnl_Journal_Root := fn_ok1E ok57 mixed (T := jrnl_Journal_Root.cuts) Try.func20 (Abs.enters_of Try.func20 (by kernel_rfl) (by kernel_rfl)) jrnl_Journal_Root.ok jrnl_Journal_Root.eq
def l58 : List (Nat × Bool × Abs.Spec) := (20, true, S_jrnl_Journal_Root) :: l57
theorem ok58 : SpecsOk Try.prog (spOf l58) := SpecsOk.cons ok57 jrnl_Journal_Root.fn (fun _ _ _ _ _ h => jrnl_Journal_Root.quiet h)
def jrnl_Journal_Used.cuts : Cuts := fun k => match k with | _ => none
theorem jrnl_Journal_Used.eq (x0 : AVal) (H : AHeap) (K : AVal → AHeap → Prop) : evFn Try.prog (spOf l58) jrnl_Journal_Used.cuts Try.f21 [x0] H K = jrnl_Journal_Used.w x0 H K := by kernel_rfl
theorem jrnl_Journal_Used.fn : FnOk Try.prog 21 S_jrnl_Journal_Used := fn_ok1E ok58 mixed (T := jrnl_Journal_Used.cuts) Try.func21 (Abs.enters_of Try.func21 (by kernel_rfl) (by kernel_rfl)) jrnl_Journal_Used.ok jrnl_Journal_Used.eq
def l59 : List (Nat × Bool × Abs.Spec) := (21, true, S_jrnl_Journal_Used) :: l58
theorem ok59 : SpecsOk Try.prog (spOf l59) := SpecsOk.cons ok58 jrnl_Journal_Used.fn (fun _ _ _ _ _ h => jrnl_Journal_Used.quiet h)
def jrnl_Journal_Area.cuts : Cuts := fun k => match k with | _ => none
theorem jrnl_Journal_Area.eq (x0 : AVal) (H : AHeap) (K : AVal → AHeap → Prop) : evFn Try.prog (spOf l59) jrnl_Journal_Area.cuts Try.f28 [x0] H K = jrnl_Journal_Area.w x0 H K := by kernel_rfl
theorem jrnl_Journal_Area.fn : FnOk Try.prog 28 S_jrnl_Journal_Area := fn_ok1E ok59 mixed (T := jrnl_Journal_Area.cuts) Try.func28 (Abs.enters_of Try.func28 (by kernel_rfl) (by kernel_rfl)) jrnl_Journal_Area.ok jrnl_Journal_Area.eq
def l60 : List (Nat × Bool × Abs.Spec) := (28, true, S_jrnl_Journal_Area) :: l59
theorem ok60 : SpecsOk Try.prog (spOf l60) := SpecsOk.cons ok59 jrnl_Journal_Area.fn (fun _ _ _ _ _ h => jrnl_Journal_Area.quiet h)
def jrnl_Journal_Room.cuts : Cuts := fun k => match k with | _ => none
theorem jrnl_Journal_Room.eq (x0 x1 : AVal) (H : AHeap) (K : AVal → AHeap → Prop) : evFn Try.prog (spOf l60) jrnl_Journal_Room.cuts Try.f27 [x0, x1] H K = jrnl_Journal_Room.w x0 x1 H K := by kernel_rfl
theorem jrnl_Journal_Room.fn : FnOk Try.prog 27 S_jrnl_Journal_Room := fn_ok2E ok60 mixed (T := jrnl_Journal_Room.cuts) Try.func27 (Abs.enters_of Try.func27 (by kernel_rfl) (by kernel_rfl)) jrnl_Journal_Room.ok jrnl_Journal_Room.eq
def l61 : List (Nat × Bool × Abs.Spec) := (27, true, S_jrnl_Journal_Room) :: l60
theorem ok61 : SpecsOk Try.prog (spOf l61) := SpecsOk.cons ok60 jrnl_Journal_Room.fn (fun _ _ _ _ _ h => jrnl_Journal_Room.quiet h)
def jrnl_Journal_write.cuts : Cuts := fun k => match k with | 3 => some ⟨[16], [4], [(.exit 0), .ret]⟩ | _ => none
theorem jrnl_Journal_write.eq (x0 x1 : AVal) (H : AHeap) (K : AVal → AHeap → Prop) : evFn Try.prog (spOf l61) jrnl_Journal_write.cuts Try.f46 [x0, x1] H K = jrnl_Journal_write.w x0 x1 H K := by kernel_rfl
theorem jrnl_Journal_write.fn : FnOk Try.prog 46 S_jrnl_Journal_write := fn_ok2E ok61 mixed (T := jrnl_Journal_write.cuts) Try.func46 (Abs.enters_of Try.func46 (by kernel_rfl) (by kernel_rfl)) jrnl_Journal_write.ok jrnl_Journal_write.eq
def l62 : List (Nat × Bool × Abs.Spec) := (46, false, S_jrnl_Journal_write) :: l61
theorem ok62 : SpecsOk Try.prog (spOf l62) := SpecsOk.cons ok61 jrnl_Journal_write.fn (fun h => by cases h)
def jrnl_Journal_add.cuts : Cuts := fun k => match k with | 10000003 => some ⟨[5, 8], [0, 1, 2, 3, 4, 6, 7, 8, 5, 9, 10, 11], []⟩ | _ => none
theorem jrnl_Journal_add.eq (x0 x1 x2 : AVal) (H : AHeap) (K : AVal → AHeap → Prop) : evFn Try.prog (spOf l62) jrnl_Journal_add.cuts Try.f47 [x0, x1, x2] H K = jrnl_Journal_add.w x0 x1 x2 H K := by kernel_rfl
theorem jrnl_Journal_add.fn : FnOk Try.prog 47 S_jrnl_Journal_add := fn_ok3E ok62 mixed (T := jrnl_Journal_add.cuts) Try.func47 (Abs.enters_of Try.func47 (by kernel_rfl) (by kernel_rfl)) jrnl_Journal_add.ok jrnl_Journal_add.eq
def l63 : List (Nat × Bool × Abs.Spec) := (47, false, S_jrnl_Journal_add) :: l62
theorem ok63 : SpecsOk Try.prog (spOf l63) := SpecsOk.cons ok62 jrnl_Journal_add.fn (fun h => by cases h)
def jrnl_Journal_read_1.cuts : Cuts := fun k => match k with | _ => none
theorem jrnl_Journal_read_1.eq (x0 x1 x2 : AVal) (H : AHeap) (K : AVal → AHeap → Prop) : evFn Try.prog (spOf l63) jrnl_Journal_read_1.cuts Try.f66 [x0, x1, x2] H K = jrnl_Journal_read_1.w x0 x1 x2 H K := by kernel_rfl
theorem jrnl_Journal_read_1.fn : FnOk Try.prog 66 S_jrnl_Journal_read_1 := fn_ok3E ok63 mixed (T := jrnl_Journal_read_1.cuts) Try.func66 (Abs.enters_of Try.func66 (by kernel_rfl) (by kernel_rfl)) jrnl_Journal_read_1.ok jrnl_Journal_read_1.eq
def l64 : List (Nat × Bool × Abs.Spec) := (66, false, S_jrnl_Journal_read_1) :: l63
theorem ok64 : SpecsOk Try.prog (spOf l64) := SpecsOk.cons ok63 jrnl_Journal_read_1.fn (fun h => by cases h)
def jrnl_Journal_read.cuts : Cuts := fun k => match k with | 4 => some ⟨[12], [4, 5], [(.exit 0), .ret]⟩ | _ => none
theorem jrnl_Journal_read.eq (x0 x1 : AVal) (H : AHeap) (K : AVal → AHeap → Prop) : evFn Try.prog (spOf l64) jrnl_Journal_read.cuts Try.f48 [x0, x1] H K = jrnl_Journal_read.w x0 x1 H K := by kernel_rfl
theorem jrnl_Journal_read.fn : FnOk Try.prog 48 S_jrnl_Journal_read := fn_ok2E ok64 mixed (T := jrnl_Journal_read.cuts) Try.func48 (Abs.enters_of Try.func48 (by kernel_rfl) (by kernel_rfl)) jrnl_Journal_read.ok jrnl_Journal_read.eq
def l65 : List (Nat × Bool × Abs.Spec) := (48, false, S_jrnl_Journal_read) :: l64
theorem ok65 : SpecsOk Try.prog (spOf l65) := SpecsOk.cons ok64 jrnl_Journal_read.fn (fun h => by cases h)
def jrnl_Begin.cuts : Cuts := fun k => match k with | _ => none
theorem jrnl_Begin.eq (x0 x1 x2 x3 : AVal) (H : AHeap) (K : AVal → AHeap → Prop) : evFn Try.prog (spOf l65) jrnl_Begin.cuts Try.f23 [x0, x1, x2, x3] H K = jrnl_Begin.w x0 x1 x2 x3 H K := by kernel_rfl
theorem jrnl_Begin.fn : FnOk Try.prog 23 S_jrnl_Begin := fn_ok4E ok65 mixed (T := jrnl_Begin.cuts) Try.func23 (Abs.enters_of Try.func23 (by kernel_rfl) (by kernel_rfl)) jrnl_Begin.ok jrnl_Begin.eq
def l66 : List (Nat × Bool × Abs.Spec) := (23, false, S_jrnl_Begin) :: l65
theorem ok66 : SpecsOk Try.prog (spOf l66) := SpecsOk.cons ok65 jrnl_Begin.fn (fun h => by cases h)
def jrnl_Load.cuts : Cuts := fun k => match k with | 1000015 => some ⟨[], [], [(.goto 0), .normal]⟩ | 17 => some ⟨[13, 81], [], [(.exit 1), (.goto 0)]⟩ | 1000019 => some ⟨[], [], [(.goto 0), .normal]⟩ | _ => none
theorem jrnl_Load.eq (x0 x1 x2 x3 x4 : AVal) (H : AHeap) (K : AVal → AHeap → Prop) : evFn Try.prog (spOf l66) jrnl_Load.cuts Try.f24 [x0, x1, x2, x3, x4] H K = jrnl_Load.w x0 x1 x2 x3 x4 H K := by kernel_rfl
theorem jrnl_Load.fn : FnOk Try.prog 24 S_jrnl_Load := fn_ok5E ok66 mixed (T := jrnl_Load.cuts) Try.func24 (Abs.enters_of Try.func24 (by kernel_rfl) (by kernel_rfl)) jrnl_Load.ok jrnl_Load.eq
def l67 : List (Nat × Bool × Abs.Spec) := (24, false, S_jrnl_Load) :: l66
theorem ok67 : SpecsOk Try.prog (spOf l67) := SpecsOk.cons ok66 jrnl_Load.fn (fun h => by cases h)
def jrnl_Journal_Append.cuts : Cuts := fun k => match k with | _ => none
theorem jrnl_Journal_Append.eq (x0 x1 : AVal) (H : AHeap) (K : AVal → AHeap → Prop) : evFn Try.prog (spOf l67) jrnl_Journal_Append.cuts Try.f26 [x0, x1] H K = jrnl_Journal_Append.w x0 x1 H K := by kernel_rfl
theorem jrnl_Journal_Append.fn : FnOk Try.prog 26 S_jrnl_Journal_Append := fn_ok2E ok67 mixed (T := jrnl_Journal_Append.cuts) Try.func26 (Abs.enters_of Try.func26 (by kernel_rfl) (by kernel_rfl)) jrnl_Journal_Append.ok jrnl_Journal_Append.eq
def l68 : List (Nat × Bool × Abs.Spec) := (26, false, S_jrnl_Journal_Append) :: l67
theorem ok68 : SpecsOk Try.prog (spOf l68) := SpecsOk.cons ok67 jrnl_Journal_Append.fn (fun h => by cases h)
def cellaretlaw15_where.cuts : Cuts := fun k => match k with | _ => none
theorem cellaretlaw15_where.eq (x0 x1 : AVal) (H : AHeap) (K : AVal → AHeap → Prop) : evFn Try.prog (spOf l68) cellaretlaw15_where.cuts Try.f11 [x0, x1] H K = cellaretlaw15_where.w x0 x1 H K := by kernel_rfl
theorem cellaretlaw15_where.fn : FnOk Try.prog 11 S_cellaretlaw15_where := fn_ok2E ok68 mixed (T := cellaretlaw15_where.cuts) Try.func11 (Abs.enters_of Try.func11 (by kernel_rfl) (by kernel_rfl)) cellaretlaw15_where.ok cellaretlaw15_where.eq
def l69 : List (Nat × Bool × Abs.Spec) := (11, true, S_cellaretlaw15_where) :: l68
theorem ok69 : SpecsOk Try.prog (spOf l69) := SpecsOk.cons ok68 cellaretlaw15_where.fn (fun _ _ _ _ _ h => cellaretlaw15_where.quiet h)
def cellaretlaw15_light.cuts : Cuts := fun k => match k with | 2 => some ⟨[3], [2], [(.exit 0), .ret]⟩ | 1000002 => some ⟨[], [], [(.exit 0), .normal]⟩ | 7 => some ⟨[4], [2], [(.exit 2), .ret]⟩ | _ => none
theorem cellaretlaw15_light.eq (x0 : AVal) (H : AHeap) (K : AVal → AHeap → Prop) : evFn Try.prog (spOf l69) cellaretlaw15_light.cuts Try.f8 [x0] H K = cellaretlaw15_light.w x0 H K := by kernel_rfl
theorem cellaretlaw15_light.fn : FnOk Try.prog 8 S_cellaretlaw15_light := fn_ok1E ok69 mixed (T := cellaretlaw15_light.cuts) Try.func8 (Abs.enters_of Try.func8 (by kernel_rfl) (by kernel_rfl)) cellaretlaw15_light.ok cellaretlaw15_light.eq
def l70 : List (Nat × Bool × Abs.Spec) := (8, true, S_cellaretlaw15_light) :: l69
theorem ok70 : SpecsOk Try.prog (spOf l70) := SpecsOk.cons ok69 cellaretlaw15_light.fn (fun _ _ _ _ _ h => cellaretlaw15_light.quiet h)
def cellaretlaw15_awake.cuts : Cuts := fun k => match k with | 1000004 => some ⟨[], [0], [.normal, .ret]⟩ | _ => none
theorem cellaretlaw15_awake.eq (H : AHeap) (K : AVal → AHeap → Prop) : evFn Try.prog (spOf l70) cellaretlaw15_awake.cuts Try.f9 [] H K = cellaretlaw15_awake.w H K := by kernel_rfl
theorem cellaretlaw15_awake.fn : FnOk Try.prog 9 S_cellaretlaw15_awake := fn_ok0E ok70 mixed (T := cellaretlaw15_awake.cuts) Try.func9 (Abs.enters_of Try.func9 (by kernel_rfl) (by kernel_rfl)) cellaretlaw15_awake.ok cellaretlaw15_awake.eq
def l71 : List (Nat × Bool × Abs.Spec) := (9, true, S_cellaretlaw15_awake) :: l70
theorem ok71 : SpecsOk Try.prog (spOf l71) := SpecsOk.cons ok70 cellaretlaw15_awake.fn (fun _ _ _ _ _ h => cellaretlaw15_awake.quiet h)
def cellaretlaw15_grown.cuts : Cuts := fun k => match k with | 1000003 => some ⟨[], [10, 11, 12], [.normal, .ret]⟩ | 1000005 => some ⟨[], [10, 11, 12], [.normal, .ret]⟩ | 10 => some ⟨[15, 16, 17], [10, 11, 12, 15, 16], [(.exit 0), .ret]⟩ | 1000010 => some ⟨[], [], [(.exit 0), .normal]⟩ | 1000013 => some ⟨[], [], [.normal]⟩ | 1000024 => some ⟨[], [10, 11, 12], [.normal, .ret]⟩ | _ => none
theorem cellaretlaw15_grown.eq (x0 x1 x2 x3 x4 : AVal) (H : AHeap) (K : AVal → AHeap → Prop) : evFn Try.prog (spOf l71) cellaretlaw15_grown.cuts Try.f12 [x0, x1, x2, x3, x4] H K = cellaretlaw15_grown.w x0 x1 x2 x3 x4 H K := by kernel_rfl
theorem cellaretlaw15_grown.fn : FnOk Try.prog 12 S_cellaretlaw15_grown := fn_ok5E ok71 mixed (T := cellaretlaw15_grown.cuts) Try.func12 (Abs.enters_of Try.func12 (by kernel_rfl) (by kernel_rfl)) cellaretlaw15_grown.ok cellaretlaw15_grown.eq
def l72 : List (Nat × Bool × Abs.Spec) := (12, false, S_cellaretlaw15_grown) :: l71
theorem ok72 : SpecsOk Try.prog (spOf l72) := SpecsOk.cons ok71 cellaretlaw15_grown.fn (fun h => by cases h)
def cellaretlaw15_JrnlChanged.cuts : Cuts := fun k => match k with | 1000001 => some ⟨[], [6], [.normal, .ret]⟩ | 1000006 => some ⟨[], [6], [.normal, .ret]⟩ | 16 => some ⟨[16, 17], [16], [(.exit 0)]⟩ | 1000016 => some ⟨[], [], [(.exit 0), .normal]⟩ | _ => none
theorem cellaretlaw15_JrnlChanged.eq (x0 x1 x2 : AVal) (H : AHeap) (K : AVal → AHeap → Prop) : evFn Try.prog (spOf l72) cellaretlaw15_JrnlChanged.cuts Try.f7 [x0, x1, x2] H K = cellaretlaw15_JrnlChanged.w x0 x1 x2 H K := by kernel_rfl
theorem cellaretlaw15_JrnlChanged.fn : FnOk Try.prog 7 S_cellaretlaw15_JrnlChanged := fn_ok3 ok72 mixed (T := cellaretlaw15_JrnlChanged.cuts) Try.func7 (Abs.enters_of Try.func7 (by kernel_rfl) (by kernel_rfl)) cellaretlaw15_JrnlChanged.ok cellaretlaw15_JrnlChanged.eq
end Go.Proofs.Ytkpcnmaohhgofaa.own
