/- The functions of this seat come to what is told of them: each one's code is what its printed text says (checked by the kernel), and the text is proved. Conditions: none. -/
import Derived.Test.YtgcjchcmnlifmaaRows
import Derived.KernelRfl
import Derived.Test.YtgcjchcmnlifmaaShaP10
import Derived.Test.YtgcjchcmnlifmaaAbs30
import Derived.Test.YtgcjchcmnlifmaaAbs31
namespace Go.Proofs.Ytgcjchcmnlifmaa.own
open Go Go.Abs Go.Sh
theorem mixed : Try.prog.follows .mixedOrders = true := by kernel_rfl
def l0 : List (Nat × Bool × Abs.Spec) := []
theorem ok0 : SpecsOk Try.prog (spOf l0) := SpecsOk.nil
def sha_Words.cuts : Cuts := fun k => match k with | _ => none
theorem sha_Words.eq (H : AHeap) (K : AVal → AHeap → Prop) : evFn Try.prog (spOf l0) sha_Words.cuts Try.f34 [] H K = sha_Words.w H K := by kernel_rfl
theorem sha_Words.fn : FnOk Try.prog 34 S_sha_Words := fn_ok0 ok0 mixed (T := sha_Words.cuts) Try.func34 (enters_of Try.func34 (by kernel_rfl) (by kernel_rfl)) sha_Words.ok sha_Words.eq
def l1 : List (Nat × Bool × Abs.Spec) := (34, true, S_sha_Words) :: l0
theorem ok1 : SpecsOk Try.prog (spOf l1) := SpecsOk.cons ok0 sha_Words.fn (fun _ args H r H' h => sha_Words.quiet h)
def sha_constants.cuts : Cuts := fun k => match k with | _ => none
theorem sha_constants.eq (H : AHeap) (K : AVal → AHeap → Prop) : evFn Try.prog (spOf l1) sha_constants.cuts Try.f79 [] H K = sha_constants.w H K := by kernel_rfl
theorem sha_constants.fn : FnOk Try.prog 79 S_sha_constants := fn_ok0 ok1 mixed (T := sha_constants.cuts) Try.func79 (enters_of Try.func79 (by kernel_rfl) (by kernel_rfl)) sha_constants.ok sha_constants.eq
def l2 : List (Nat × Bool × Abs.Spec) := (79, true, S_sha_constants) :: l1
theorem ok2 : SpecsOk Try.prog (spOf l2) := SpecsOk.cons ok1 sha_constants.fn (fun _ args H r H' h => sha_constants.quiet h)
def sha_work.cuts : Cuts := fun k => match k with | 3 => some ⟨[26], [], [(.exit 0)]⟩ | 8 => some ⟨[7], [], [(.exit 2)]⟩ | 17 => some ⟨[13, 14, 15, 16, 17, 18, 19, 20, 133], [13, 14, 15, 16, 17, 18, 19, 20], [(.exit 4)]⟩ | _ => none
theorem sha_work.eq (x0 x1 : AVal) (H : AHeap) (K : AVal → AHeap → Prop) : evFn Try.prog (spOf l2) sha_work.cuts Try.f69 [x0, x1] H K = sha_work.w x0 x1 H K := by kernel_rfl
theorem sha_work.fn : FnOk Try.prog 69 S_sha_work := fn_ok2 ok2 mixed (T := sha_work.cuts) Try.func69 (enters_of Try.func69 (by kernel_rfl) (by kernel_rfl)) sha_work.ok sha_work.eq
def l3 : List (Nat × Bool × Abs.Spec) := (69, true, S_sha_work) :: l2
theorem ok3 : SpecsOk Try.prog (spOf l3) := SpecsOk.cons ok2 sha_work.fn (fun _ args H r H' h => sha_work.quiet h)
def sha_tail.cuts : Cuts := fun k => match k with | 2 => some ⟨[3], [3], [(.exit 0)]⟩ | 6 => some ⟨[3, 5], [3], [(.exit 2)]⟩ | _ => none
theorem sha_tail.eq (x0 : AVal) (H : AHeap) (K : AVal → AHeap → Prop) : evFn Try.prog (spOf l3) sha_tail.cuts Try.f70 [x0] H K = sha_tail.w x0 H K := by kernel_rfl
theorem sha_tail.fn : FnOk Try.prog 70 S_sha_tail := fn_ok1 ok3 mixed (T := sha_tail.cuts) Try.func70 (enters_of Try.func70 (by kernel_rfl) (by kernel_rfl)) sha_tail.ok sha_tail.eq
def l4 : List (Nat × Bool × Abs.Spec) := (70, true, S_sha_tail) :: l3
theorem ok4 : SpecsOk Try.prog (spOf l4) := SpecsOk.cons ok3 sha_tail.fn (fun _ args H r H' h => sha_tail.quiet h)
def sha_digest.cuts : Cuts := fun k => match k with | 3 => some ⟨[7], [], [(.exit 0)]⟩ | _ => none
theorem sha_digest.eq (x0 : AVal) (H : AHeap) (K : AVal → AHeap → Prop) : evFn Try.prog (spOf l4) sha_digest.cuts Try.f72 [x0] H K = sha_digest.w x0 H K := by kernel_rfl
theorem sha_digest.fn : FnOk Try.prog 72 S_sha_digest := fn_ok1 ok4 mixed (T := sha_digest.cuts) Try.func72 (enters_of Try.func72 (by kernel_rfl) (by kernel_rfl)) sha_digest.ok sha_digest.eq
def l5 : List (Nat × Bool × Abs.Spec) := (72, true, S_sha_digest) :: l4
theorem ok5 : SpecsOk Try.prog (spOf l5) := SpecsOk.cons ok4 sha_digest.fn (fun _ args H r H' h => sha_digest.quiet h)
def sha_Sum.cuts : Cuts := fun k => match k with | 3 => some ⟨[0], [0], [(.exit 0)]⟩ | 7 => some ⟨[0], [], [(.exit 2)]⟩ | _ => none
theorem sha_Sum.eq (x0 : AVal) (H : AHeap) (K : AVal → AHeap → Prop) : evFn Try.prog (spOf l5) sha_Sum.cuts Try.f24 [x0] H K = sha_Sum.w x0 H K := by kernel_rfl
theorem sha_Sum.fn : FnOk Try.prog 24 S_sha_Sum := fn_ok1 ok5 mixed (T := sha_Sum.cuts) Try.func24 (enters_of Try.func24 (by kernel_rfl) (by kernel_rfl)) sha_Sum.ok sha_Sum.eq
def l6 : List (Nat × Bool × Abs.Spec) := (24, true, S_sha_Sum) :: l5
theorem ok6 : SpecsOk Try.prog (spOf l6) := SpecsOk.cons ok5 sha_Sum.fn (fun _ args H r H' h => sha_Sum.quiet h)
def sha_Hex.cuts : Cuts := fun k => match k with | 3 => some ⟨[3, 7], [3], [(.exit 0)]⟩ | _ => none
theorem sha_Hex.eq (x0 : AVal) (H : AHeap) (K : AVal → AHeap → Prop) : evFn Try.prog (spOf l6) sha_Hex.cuts Try.f26 [x0] H K = sha_Hex.w x0 H K := by kernel_rfl
theorem sha_Hex.fn : FnOk Try.prog 26 S_sha_Hex := fn_ok1 ok6 mixed (T := sha_Hex.cuts) Try.func26 (enters_of Try.func26 (by kernel_rfl) (by kernel_rfl)) sha_Hex.ok sha_Hex.eq
def l7 : List (Nat × Bool × Abs.Spec) := (26, true, S_sha_Hex) :: l6
theorem ok7 : SpecsOk Try.prog (spOf l7) := SpecsOk.cons ok6 sha_Hex.fn (fun _ args H r H' h => sha_Hex.quiet h)
def sha_New.cuts : Cuts := fun k => match k with | _ => none
theorem sha_New.eq (H : AHeap) (K : AVal → AHeap → Prop) : evFn Try.prog (spOf l7) sha_New.cuts Try.f21 [] H K = sha_New.w H K := by kernel_rfl
theorem sha_New.fn : FnOk Try.prog 21 S_sha_New := fn_ok0 ok7 mixed (T := sha_New.cuts) Try.func21 (enters_of Try.func21 (by kernel_rfl) (by kernel_rfl)) sha_New.ok sha_New.eq
def l8 : List (Nat × Bool × Abs.Spec) := (21, true, S_sha_New) :: l7
theorem ok8 : SpecsOk Try.prog (spOf l8) := SpecsOk.cons ok7 sha_New.fn (fun _ args H r H' h => sha_New.quiet h)
def sha_Hasher_Digest_1.cuts : Cuts := fun k => match k with | _ => none
theorem sha_Hasher_Digest_1.eq (x0 x1 : AVal) (H : AHeap) (K : AVal → AHeap → Prop) : evFn Try.prog (spOf l8) sha_Hasher_Digest_1.cuts Try.f71 [x0, x1] H K = sha_Hasher_Digest_1.w x0 x1 H K := by kernel_rfl
theorem sha_Hasher_Digest_1.fn : FnOk Try.prog 71 S_sha_Hasher_Digest_1 := fn_ok2E ok8 mixed (T := sha_Hasher_Digest_1.cuts) Try.func71 (enters_of Try.func71 (by kernel_rfl) (by kernel_rfl)) sha_Hasher_Digest_1.ok sha_Hasher_Digest_1.eq
def l9 : List (Nat × Bool × Abs.Spec) := (71, false, S_sha_Hasher_Digest_1) :: l8
theorem ok9 : SpecsOk Try.prog (spOf l9) := SpecsOk.cons ok8 sha_Hasher_Digest_1.fn (fun h => by cases h)
def sha_Hasher_Digest.cuts : Cuts := fun k => match k with | 6 => some ⟨[], [], [(.exit 0)]⟩ | _ => none
theorem sha_Hasher_Digest.eq (x0 : AVal) (H : AHeap) (K : AVal → AHeap → Prop) : evFn Try.prog (spOf l9) sha_Hasher_Digest.cuts Try.f23 [x0] H K = sha_Hasher_Digest.w x0 H K := by kernel_rfl
theorem sha_Hasher_Digest.fn : FnOk Try.prog 23 S_sha_Hasher_Digest := fn_ok1 ok9 mixed (T := sha_Hasher_Digest.cuts) Try.func23 (enters_of Try.func23 (by kernel_rfl) (by kernel_rfl)) sha_Hasher_Digest.ok sha_Hasher_Digest.eq
def l10 : List (Nat × Bool × Abs.Spec) := (23, true, S_sha_Hasher_Digest) :: l9
theorem ok10 : SpecsOk Try.prog (spOf l10) := SpecsOk.cons ok9 sha_Hasher_Digest.fn (fun _ args H r H' h => sha_Hasher_Digest.quiet h)
def sha_Hasher_Add.cuts : Cuts := fun k => match k with | 5 => some ⟨[5], [5], [(.exit 0)]⟩ | _ => none
theorem sha_Hasher_Add.eq (x0 x1 : AVal) (H : AHeap) (K : AVal → AHeap → Prop) : evFn Try.prog (spOf l10) sha_Hasher_Add.cuts Try.f22 [x0, x1] H K = sha_Hasher_Add.w x0 x1 H K := by kernel_rfl
theorem sha_Hasher_Add.fn : FnOk Try.prog 22 S_sha_Hasher_Add := fn_ok2 ok10 mixed (T := sha_Hasher_Add.cuts) Try.func22 (enters_of Try.func22 (by kernel_rfl) (by kernel_rfl)) sha_Hasher_Add.ok sha_Hasher_Add.eq
def l11 : List (Nat × Bool × Abs.Spec) := (22, false, S_sha_Hasher_Add) :: l10
theorem ok11 : SpecsOk Try.prog (spOf l11) := SpecsOk.cons ok10 sha_Hasher_Add.fn (fun h => by cases h)
def cellaretlaw03_awake.cuts : Cuts := fun k => match k with | _ => none
theorem cellaretlaw03_awake.eq (H : AHeap) (K : AVal → AHeap → Prop) : evFn Try.prog (spOf l11) cellaretlaw03_awake.cuts Try.f25 [] H K = cellaretlaw03_awake.w H K := by kernel_rfl
theorem cellaretlaw03_awake.fn : FnOk Try.prog 25 S_cellaretlaw03_awake := fn_ok0 ok11 mixed (T := cellaretlaw03_awake.cuts) Try.func25 (enters_of Try.func25 (by kernel_rfl) (by kernel_rfl)) cellaretlaw03_awake.ok cellaretlaw03_awake.eq
def l12 : List (Nat × Bool × Abs.Spec) := (25, true, S_cellaretlaw03_awake) :: l11
theorem ok12 : SpecsOk Try.prog (spOf l12) := SpecsOk.cons ok11 cellaretlaw03_awake.fn (fun _ args H r H' h => cellaretlaw03_awake.quiet h)
def cellaretlaw03_ShaHex.cuts : Cuts := fun k => match k with | 5 => some ⟨[4], [2], [(.exit 0), .ret]⟩ | 9 => some ⟨[5, 6], [2, 5], [(.exit 2), .ret]⟩ | 1000012 => some ⟨[], [7], [.normal]⟩ | 1000014 => some ⟨[], [2], [.normal, .ret]⟩ | _ => none
theorem cellaretlaw03_ShaHex.eq (x0 : AVal) (H : AHeap) (K : AVal → AHeap → Prop) : evFn Try.prog (spOf l12) cellaretlaw03_ShaHex.cuts Try.f4 [x0] H K = cellaretlaw03_ShaHex.w x0 H K := by kernel_rfl
theorem cellaretlaw03_ShaHex.fn : FnOk Try.prog 4 S_cellaretlaw03_ShaHex := fn_ok1 ok12 mixed (T := cellaretlaw03_ShaHex.cuts) Try.func4 (enters_of Try.func4 (by kernel_rfl) (by kernel_rfl)) cellaretlaw03_ShaHex.ok cellaretlaw03_ShaHex.eq
def l13 : List (Nat × Bool × Abs.Spec) := (4, true, S_cellaretlaw03_ShaHex) :: l12
theorem ok13 : SpecsOk Try.prog (spOf l13) := SpecsOk.cons ok12 cellaretlaw03_ShaHex.fn (fun _ args H r H' h => cellaretlaw03_ShaHex.quiet h)
def cellaretlaw03_ShaParts.cuts : Cuts := fun k => match k with | 4 => some ⟨[4, 5], [2, 4], [(.exit 0), .ret]⟩ | 1000004 => some ⟨[], [], [(.exit 0), .normal]⟩ | _ => none
theorem cellaretlaw03_ShaParts.eq (x0 : AVal) (H : AHeap) (K : AVal → AHeap → Prop) : evFn Try.prog (spOf l13) cellaretlaw03_ShaParts.cuts Try.f3 [x0] H K = cellaretlaw03_ShaParts.w x0 H K := by kernel_rfl
theorem cellaretlaw03_ShaParts.fn : FnOk Try.prog 3 S_cellaretlaw03_ShaParts := fn_ok1 ok13 mixed (T := cellaretlaw03_ShaParts.cuts) Try.func3 (enters_of Try.func3 (by kernel_rfl) (by kernel_rfl)) cellaretlaw03_ShaParts.ok cellaretlaw03_ShaParts.eq
def l14 : List (Nat × Bool × Abs.Spec) := (3, true, S_cellaretlaw03_ShaParts) :: l13
theorem ok14 : SpecsOk Try.prog (spOf l14) := SpecsOk.cons ok13 cellaretlaw03_ShaParts.fn (fun _ args H r H' h => cellaretlaw03_ShaParts.quiet h)
end Go.Proofs.Ytgcjchcmnlifmaa.own
