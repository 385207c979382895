/- A text of this proof. -/
import Derived.Test.YtknlbannbkphfaaRows
import Derived.KernelRfl
import Derived.Test.YtknlbannbkphfaaDev
import Derived.Test.YtknlbannbkphfaaAbsE

/- The functions of this seat come to what is told of them: each one's code is what its printed text says (checked by the kernel), and the text is proved. Conditions: none. -/
namespace Go.Proofs.Ytknlbannbkphfaa.own
open Go Go.Abs Go.Sh
theorem mixed : Try.prog.follows .mixedOrders = true := by kernel_rfl
theorem bulk_mem {H : Type} {d : DataW H} : ∀ {l : List (DataW H)}, d ∈ l → Rows.uptoBulk d ≤ Rows.uptoBulkAll l
  | x :: l, h => by
    simp only [Rows.uptoBulkAll]
    rcases List.mem_cons.1 h with rfl | h
    · omega
    · have := bulk_mem h; omega
  | [], h => (by cases h)
theorem bulk_str {H : Type} {s : List UInt8} {elems spare ds : List (DataW H)} (hk : Rows.uptoSmall H ds = true) (h : DataW.slice elems spare ∈ ds) (k : DataW.lit (.string s) ∈ elems) : s.length ≤ 1048576 := by
  have h1 := bulk_mem h
  have h2 := bulk_mem k
  have h3 := of_decide_eq_true hk
  simp only [Rows.uptoBulk] at h1 h2
  omega
def l0 : List (Nat × Bool × Abs.Spec) := []
theorem ok0 : SpecsOk Try.prog (spOf l0) := SpecsOk.nil
def cellaretref01_Zeros.cuts : Cuts := fun k => match k with | _ => none
theorem cellaretref01_Zeros.eq (x0 : AVal) (H : AHeap) (K : AVal → AHeap → Prop) : evFn Try.prog (spOf l0) cellaretref01_Zeros.cuts Try.f23 [x0] H K = cellaretref01_Zeros.w x0 H K := by kernel_rfl
theorem cellaretref01_Zeros.fn : FnOk Try.prog 23 S_cellaretref01_Zeros := fn_ok1 ok0 mixed (T := cellaretref01_Zeros.cuts) Try.func23 (enters_of Try.func23 (by kernel_rfl) (by kernel_rfl)) cellaretref01_Zeros.ok cellaretref01_Zeros.eq
def l1 : List (Nat × Bool × Abs.Spec) := (23, true, S_cellaretref01_Zeros) :: l0
theorem ok1 : SpecsOk Try.prog (spOf l1) := SpecsOk.cons ok0 cellaretref01_Zeros.fn (fun _ args H r H' h => cellaretref01_Zeros.quiet h)
def cellaretref01_Full.cuts : Cuts := fun k => match k with | _ => none
theorem cellaretref01_Full.eq (x0 x1 : AVal) (H : AHeap) (K : AVal → AHeap → Prop) : evFn Try.prog (spOf l1) cellaretref01_Full.cuts Try.f19 [x0, x1] H K = cellaretref01_Full.w x0 x1 H K := by kernel_rfl
theorem cellaretref01_Full.fn : FnOk Try.prog 19 S_cellaretref01_Full := fn_ok2 ok1 mixed (T := cellaretref01_Full.cuts) Try.func19 (enters_of Try.func19 (by kernel_rfl) (by kernel_rfl)) cellaretref01_Full.ok cellaretref01_Full.eq
def l2 : List (Nat × Bool × Abs.Spec) := (19, true, S_cellaretref01_Full) :: l1
theorem ok2 : SpecsOk Try.prog (spOf l2) := SpecsOk.cons ok1 cellaretref01_Full.fn (fun _ args H r H' h => cellaretref01_Full.quiet h)
def cellaretref01_Ints.cuts : Cuts := fun k => match k with | 4 => some ⟨[5], [4], [(.exit 0), .ret]⟩ | _ => none
theorem cellaretref01_Ints.eq (x0 x1 : AVal) (H : AHeap) (K : AVal → AHeap → Prop) : evFn Try.prog (spOf l2) cellaretref01_Ints.cuts Try.f20 [x0, x1] H K = cellaretref01_Ints.w x0 x1 H K := by kernel_rfl
theorem cellaretref01_Ints.fn : FnOk Try.prog 20 S_cellaretref01_Ints := fn_ok2 ok2 mixed (T := cellaretref01_Ints.cuts) Try.func20 (enters_of Try.func20 (by kernel_rfl) (by kernel_rfl)) cellaretref01_Ints.ok cellaretref01_Ints.eq
def l3 : List (Nat × Bool × Abs.Spec) := (20, true, S_cellaretref01_Ints) :: l2
theorem ok3 : SpecsOk Try.prog (spOf l3) := SpecsOk.cons ok2 cellaretref01_Ints.fn (fun _ args H r H' h => cellaretref01_Ints.quiet h)
def dev_New.cuts : Cuts := fun k => match k with | 1000001 => some ⟨[], [2, 3], [.normal, .ret]⟩ | 6 => some ⟨[17], [], [(.exit 0)]⟩ | _ => none
theorem dev_New.eq (x0 : AVal) (H : AHeap) (K : AVal → AHeap → Prop) : evFn Try.prog (spOf l3) dev_New.cuts Try.f18 [x0] H K = dev_New.w x0 H K := by kernel_rfl
theorem dev_New.fn : FnOk Try.prog 18 S_dev_New := fn_ok1E ok3 mixed (T := dev_New.cuts) Try.func18 (enters_of Try.func18 (by kernel_rfl) (by kernel_rfl)) dev_New.ok dev_New.eq
def l4 : List (Nat × Bool × Abs.Spec) := (18, true, S_dev_New) :: l3
theorem ok4 : SpecsOk Try.prog (spOf l4) := SpecsOk.cons ok3 dev_New.fn (fun _ args H r H' h => dev_New.quiet h)
def dev_Of.cuts : Cuts := fun k => match k with | 7 => some ⟨[27], [], [(.exit 0)]⟩ | _ => none
theorem dev_Of.eq (x0 : AVal) (H : AHeap) (K : AVal → AHeap → Prop) : evFn Try.prog (spOf l4) dev_Of.cuts Try.f17 [x0] H K = dev_Of.w x0 H K := by kernel_rfl
theorem dev_Of.fn : FnOk Try.prog 17 S_dev_Of := fn_ok1E ok4 mixed (T := dev_Of.cuts) Try.func17 (enters_of Try.func17 (by kernel_rfl) (by kernel_rfl)) dev_Of.ok dev_Of.eq
def l5 : List (Nat × Bool × Abs.Spec) := (17, true, S_dev_Of) :: l4
theorem ok5 : SpecsOk Try.prog (spOf l5) := SpecsOk.cons ok4 dev_Of.fn (fun _ args H r H' h => dev_Of.quiet h)
def dev_Dev_may.cuts : Cuts := fun k => match k with | _ => none
theorem dev_Dev_may.eq (x0 x1 x2 : AVal) (H : AHeap) (K : AVal → AHeap → Prop) : evFn Try.prog (spOf l5) dev_Dev_may.cuts Try.f21 [x0, x1, x2] H K = dev_Dev_may.w x0 x1 x2 H K := by kernel_rfl
theorem dev_Dev_may.fn : FnOk Try.prog 21 S_dev_Dev_may := fn_ok3E ok5 mixed (T := dev_Dev_may.cuts) Try.func21 (enters_of Try.func21 (by kernel_rfl) (by kernel_rfl)) dev_Dev_may.ok dev_Dev_may.eq
def l6 : List (Nat × Bool × Abs.Spec) := (21, true, S_dev_Dev_may) :: l5
theorem ok6 : SpecsOk Try.prog (spOf l6) := SpecsOk.cons ok5 dev_Dev_may.fn (fun _ args H r H' h => dev_Dev_may.quiet h)
def dev_Dev_Read.cuts : Cuts := fun k => match k with | _ => none
theorem dev_Dev_Read.eq (x0 x1 : AVal) (H : AHeap) (K : AVal → AHeap → Prop) : evFn Try.prog (spOf l6) dev_Dev_Read.cuts Try.f7 [x0, x1] H K = dev_Dev_Read.w x0 x1 H K := by kernel_rfl
theorem dev_Dev_Read.fn : FnOk Try.prog 7 S_dev_Dev_Read := fn_ok2E ok6 mixed (T := dev_Dev_Read.cuts) Try.func7 (enters_of Try.func7 (by kernel_rfl) (by kernel_rfl)) dev_Dev_Read.ok dev_Dev_Read.eq
def l7 : List (Nat × Bool × Abs.Spec) := (7, true, S_dev_Dev_Read) :: l6
theorem ok7 : SpecsOk Try.prog (spOf l7) := SpecsOk.cons ok6 dev_Dev_Read.fn (fun _ args H r H' h => dev_Dev_Read.quiet h)
def dev_Dev_Write.cuts : Cuts := fun k => match k with | _ => none
theorem dev_Dev_Write.eq (x0 x1 x2 : AVal) (H : AHeap) (K : AVal → AHeap → Prop) : evFn Try.prog (spOf l7) dev_Dev_Write.cuts Try.f8 [x0, x1, x2] H K = dev_Dev_Write.w x0 x1 x2 H K := by kernel_rfl
theorem dev_Dev_Write.fn : FnOk Try.prog 8 S_dev_Dev_Write := fn_ok3E ok7 mixed (T := dev_Dev_Write.cuts) Try.func8 (enters_of Try.func8 (by kernel_rfl) (by kernel_rfl)) dev_Dev_Write.ok dev_Dev_Write.eq
def l8 : List (Nat × Bool × Abs.Spec) := (8, false, S_dev_Dev_Write) :: l7
theorem ok8 : SpecsOk Try.prog (spOf l8) := SpecsOk.cons ok7 dev_Dev_Write.fn (fun h => by cases h)
def dev_Dev_Flush.cuts : Cuts := fun k => match k with | 4 => some ⟨[12], [], [(.exit 0)]⟩ | _ => none
theorem dev_Dev_Flush.eq (x0 : AVal) (H : AHeap) (K : AVal → AHeap → Prop) : evFn Try.prog (spOf l8) dev_Dev_Flush.cuts Try.f10 [x0] H K = dev_Dev_Flush.w x0 H K := by kernel_rfl
theorem dev_Dev_Flush.fn : FnOk Try.prog 10 S_dev_Dev_Flush := fn_ok1E ok8 mixed (T := dev_Dev_Flush.cuts) Try.func10 (enters_of Try.func10 (by kernel_rfl) (by kernel_rfl)) dev_Dev_Flush.ok dev_Dev_Flush.eq
def l9 : List (Nat × Bool × Abs.Spec) := (10, false, S_dev_Dev_Flush) :: l8
theorem ok9 : SpecsOk Try.prog (spOf l9) := SpecsOk.cons ok8 dev_Dev_Flush.fn (fun h => by cases h)
def dev_Dev_Tamper.cuts : Cuts := fun k => match k with | _ => none
theorem dev_Dev_Tamper.eq (x0 x1 x2 : AVal) (H : AHeap) (K : AVal → AHeap → Prop) : evFn Try.prog (spOf l9) dev_Dev_Tamper.cuts Try.f11 [x0, x1, x2] H K = dev_Dev_Tamper.w x0 x1 x2 H K := by kernel_rfl
theorem dev_Dev_Tamper.fn : FnOk Try.prog 11 S_dev_Dev_Tamper := fn_ok3E ok9 mixed (T := dev_Dev_Tamper.cuts) Try.func11 (enters_of Try.func11 (by kernel_rfl) (by kernel_rfl)) dev_Dev_Tamper.ok dev_Dev_Tamper.eq
def l10 : List (Nat × Bool × Abs.Spec) := (11, false, S_dev_Dev_Tamper) :: l9
theorem ok10 : SpecsOk Try.prog (spOf l10) := SpecsOk.cons ok9 dev_Dev_Tamper.fn (fun h => by cases h)
def dev_Dev_Crash_1.cuts : Cuts := fun k => match k with | _ => none
theorem dev_Dev_Crash_1.eq (x0 x1 x2 x3 : AVal) (H : AHeap) (K : AVal → AHeap → Prop) : evFn Try.prog (spOf l10) dev_Dev_Crash_1.cuts Try.f22 [x0, x1, x2, x3] H K = dev_Dev_Crash_1.w x0 x1 x2 x3 H K := by kernel_rfl
theorem dev_Dev_Crash_1.fn : FnOk Try.prog 22 S_dev_Dev_Crash_1 := fn_ok4E ok10 mixed (T := dev_Dev_Crash_1.cuts) Try.func22 (enters_of Try.func22 (by kernel_rfl) (by kernel_rfl)) dev_Dev_Crash_1.ok dev_Dev_Crash_1.eq
def l11 : List (Nat × Bool × Abs.Spec) := (22, true, S_dev_Dev_Crash_1) :: l10
theorem ok11 : SpecsOk Try.prog (spOf l11) := SpecsOk.cons ok10 dev_Dev_Crash_1.fn (fun _ args H r H' h => dev_Dev_Crash_1.quiet h)
def dev_Dev_Crash.cuts : Cuts := fun k => match k with | 6 => some ⟨[21], [], [(.exit 0)]⟩ | _ => none
theorem dev_Dev_Crash.eq (x0 x1 : AVal) (H : AHeap) (K : AVal → AHeap → Prop) : evFn Try.prog (spOf l11) dev_Dev_Crash.cuts Try.f12 [x0, x1] H K = dev_Dev_Crash.w x0 x1 H K := by kernel_rfl
theorem dev_Dev_Crash.fn : FnOk Try.prog 12 S_dev_Dev_Crash := fn_ok2E ok11 mixed (T := dev_Dev_Crash.cuts) Try.func12 (enters_of Try.func12 (by kernel_rfl) (by kernel_rfl)) dev_Dev_Crash.ok dev_Dev_Crash.eq
def l12 : List (Nat × Bool × Abs.Spec) := (12, false, S_dev_Dev_Crash) :: l11
theorem ok12 : SpecsOk Try.prog (spOf l12) := SpecsOk.cons ok11 dev_Dev_Crash.fn (fun h => by cases h)
def dev_Dev_Unsafe.cuts : Cuts := fun k => match k with | 5 => some ⟨[3, 14], [3], [(.exit 0)]⟩ | _ => none
theorem dev_Dev_Unsafe.eq (x0 : AVal) (H : AHeap) (K : AVal → AHeap → Prop) : evFn Try.prog (spOf l12) dev_Dev_Unsafe.cuts Try.f13 [x0] H K = dev_Dev_Unsafe.w x0 H K := by kernel_rfl
theorem dev_Dev_Unsafe.fn : FnOk Try.prog 13 S_dev_Dev_Unsafe := fn_ok1E ok12 mixed (T := dev_Dev_Unsafe.cuts) Try.func13 (enters_of Try.func13 (by kernel_rfl) (by kernel_rfl)) dev_Dev_Unsafe.ok dev_Dev_Unsafe.eq
def l13 : List (Nat × Bool × Abs.Spec) := (13, true, S_dev_Dev_Unsafe) :: l12
theorem ok13 : SpecsOk Try.prog (spOf l13) := SpecsOk.cons ok12 dev_Dev_Unsafe.fn (fun _ args H r H' h => dev_Dev_Unsafe.quiet h)
def dev_Dev_Blocks.cuts : Cuts := fun k => match k with | _ => none
theorem dev_Dev_Blocks.eq (x0 : AVal) (H : AHeap) (K : AVal → AHeap → Prop) : evFn Try.prog (spOf l13) dev_Dev_Blocks.cuts Try.f14 [x0] H K = dev_Dev_Blocks.w x0 H K := by kernel_rfl
theorem dev_Dev_Blocks.fn : FnOk Try.prog 14 S_dev_Dev_Blocks := fn_ok1E ok13 mixed (T := dev_Dev_Blocks.cuts) Try.func14 (enters_of Try.func14 (by kernel_rfl) (by kernel_rfl)) dev_Dev_Blocks.ok dev_Dev_Blocks.eq
def l14 : List (Nat × Bool × Abs.Spec) := (14, true, S_dev_Dev_Blocks) :: l13
theorem ok14 : SpecsOk Try.prog (spOf l14) := SpecsOk.cons ok13 dev_Dev_Blocks.fn (fun _ args H r H' h => dev_Dev_Blocks.quiet h)
def dev_Dev_Image.cuts : Cuts := fun k => match k with | 5 => some ⟨[3, 13], [3], [(.exit 0)]⟩ | _ => none
theorem dev_Dev_Image.eq (x0 : AVal) (H : AHeap) (K : AVal → AHeap → Prop) : evFn Try.prog (spOf l14) dev_Dev_Image.cuts Try.f15 [x0] H K = dev_Dev_Image.w x0 H K := by kernel_rfl
theorem dev_Dev_Image.fn : FnOk Try.prog 15 S_dev_Dev_Image := fn_ok1E ok14 mixed (T := dev_Dev_Image.cuts) Try.func15 (enters_of Try.func15 (by kernel_rfl) (by kernel_rfl)) dev_Dev_Image.ok dev_Dev_Image.eq
def l15 : List (Nat × Bool × Abs.Spec) := (15, true, S_dev_Dev_Image) :: l14
theorem ok15 : SpecsOk Try.prog (spOf l15) := SpecsOk.cons ok14 dev_Dev_Image.fn (fun _ args H r H' h => dev_Dev_Image.quiet h)
def dev_Dev_Copy.cuts : Cuts := fun k => match k with | _ => none
theorem dev_Dev_Copy.eq (x0 : AVal) (H : AHeap) (K : AVal → AHeap → Prop) : evFn Try.prog (spOf l15) dev_Dev_Copy.cuts Try.f16 [x0] H K = dev_Dev_Copy.w x0 H K := by kernel_rfl
theorem dev_Dev_Copy.fn : FnOk Try.prog 16 S_dev_Dev_Copy := fn_ok1E ok15 mixed (T := dev_Dev_Copy.cuts) Try.func16 (enters_of Try.func16 (by kernel_rfl) (by kernel_rfl)) dev_Dev_Copy.ok dev_Dev_Copy.eq
def l16 : List (Nat × Bool × Abs.Spec) := (16, true, S_dev_Dev_Copy) :: l15
theorem ok16 : SpecsOk Try.prog (spOf l16) := SpecsOk.cons ok15 dev_Dev_Copy.fn (fun _ args H r H' h => dev_Dev_Copy.quiet h)
def cellaretlaw10_few.cuts : Cuts := fun k => match k with | _ => none
theorem cellaretlaw10_few.eq (x0 : AVal) (H : AHeap) (K : AVal → AHeap → Prop) : evFn Try.prog (spOf l16) cellaretlaw10_few.cuts Try.f5 [x0] H K = cellaretlaw10_few.w x0 H K := by kernel_rfl
theorem cellaretlaw10_few.fn : FnOk Try.prog 5 S_cellaretlaw10_few := fn_ok1E ok16 mixed (T := cellaretlaw10_few.cuts) Try.func5 (enters_of Try.func5 (by kernel_rfl) (by kernel_rfl)) cellaretlaw10_few.ok cellaretlaw10_few.eq
def l17 : List (Nat × Bool × Abs.Spec) := (5, true, S_cellaretlaw10_few) :: l16
theorem ok17 : SpecsOk Try.prog (spOf l17) := SpecsOk.cons ok16 cellaretlaw10_few.fn (fun _ args H r H' h => cellaretlaw10_few.quiet h)
def cellaretlaw10_text.cuts : Cuts := fun k => match k with | 1000001 => some ⟨[], [2], [.normal, .ret]⟩ | _ => none
theorem cellaretlaw10_text.eq (x0 : AVal) (H : AHeap) (K : AVal → AHeap → Prop) : evFn Try.prog (spOf l17) cellaretlaw10_text.cuts Try.f9 [x0] H K = cellaretlaw10_text.w x0 H K := by kernel_rfl
theorem cellaretlaw10_text.fn : FnOk Try.prog 9 S_cellaretlaw10_text := fn_ok1E ok17 mixed (T := cellaretlaw10_text.cuts) Try.func9 (enters_of Try.func9 (by kernel_rfl) (by kernel_rfl)) cellaretlaw10_text.ok cellaretlaw10_text.eq
def l18 : List (Nat × Bool × Abs.Spec) := (9, true, S_cellaretlaw10_text) :: l17
theorem ok18 : SpecsOk Try.prog (spOf l18) := SpecsOk.cons ok17 cellaretlaw10_text.fn (fun _ args H r H' h => cellaretlaw10_text.quiet h)
def cellaretlaw10_awake.cuts : Cuts := fun k => match k with | 1000002 => some ⟨[], [0], [.normal, .ret]⟩ | _ => none
theorem cellaretlaw10_awake.eq (H : AHeap) (K : AVal → AHeap → Prop) : evFn Try.prog (spOf l18) cellaretlaw10_awake.cuts Try.f6 [] H K = cellaretlaw10_awake.w H K := by kernel_rfl
theorem cellaretlaw10_awake.fn : FnOk Try.prog 6 S_cellaretlaw10_awake := fn_ok0E ok18 mixed (T := cellaretlaw10_awake.cuts) Try.func6 (enters_of Try.func6 (by kernel_rfl) (by kernel_rfl)) cellaretlaw10_awake.ok cellaretlaw10_awake.eq
def l19 : List (Nat × Bool × Abs.Spec) := (6, true, S_cellaretlaw10_awake) :: l18
theorem ok19 : SpecsOk Try.prog (spOf l19) := SpecsOk.cons ok18 cellaretlaw10_awake.fn (fun _ args H r H' h => cellaretlaw10_awake.quiet h)
def cellaretlaw10_DevNone.cuts : Cuts := fun k => match k with | _ => none
theorem cellaretlaw10_DevNone.eq (x0 : AVal) (H : AHeap) (K : AVal → AHeap → Prop) : evFn Try.prog (spOf l19) cellaretlaw10_DevNone.cuts Try.f3 [x0] H K = cellaretlaw10_DevNone.w x0 H K := by kernel_rfl
theorem cellaretlaw10_DevNone.fn : FnOk Try.prog 3 S_cellaretlaw10_DevNone := fn_ok1E ok19 mixed (T := cellaretlaw10_DevNone.cuts) Try.func3 (enters_of Try.func3 (by kernel_rfl) (by kernel_rfl)) cellaretlaw10_DevNone.ok cellaretlaw10_DevNone.eq
def l20 : List (Nat × Bool × Abs.Spec) := (3, false, S_cellaretlaw10_DevNone) :: l19
theorem ok20 : SpecsOk Try.prog (spOf l20) := SpecsOk.cons ok19 cellaretlaw10_DevNone.fn (fun h => by cases h)
def cellaretlaw10_DevImages.cuts : Cuts := fun k => match k with | 1000010 => some ⟨[], [4], [.normal, .ret]⟩ | _ => none
theorem cellaretlaw10_DevImages.eq (x0 x1 : AVal) (H : AHeap) (K : AVal → AHeap → Prop) : evFn Try.prog (spOf l20) cellaretlaw10_DevImages.cuts Try.f4 [x0, x1] H K = cellaretlaw10_DevImages.w x0 x1 H K := by kernel_rfl
theorem cellaretlaw10_DevImages.fn : FnOk Try.prog 4 S_cellaretlaw10_DevImages := fn_ok2E ok20 mixed (T := cellaretlaw10_DevImages.cuts) Try.func4 (enters_of Try.func4 (by kernel_rfl) (by kernel_rfl)) cellaretlaw10_DevImages.ok cellaretlaw10_DevImages.eq
def l21 : List (Nat × Bool × Abs.Spec) := (4, false, S_cellaretlaw10_DevImages) :: l20
theorem ok21 : SpecsOk Try.prog (spOf l21) := SpecsOk.cons ok20 cellaretlaw10_DevImages.fn (fun h => by cases h)
end Go.Proofs.Ytknlbannbkphfaa.own
