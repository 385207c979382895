/- A text of this proof. -/
import Derived.Test.YtmmjdmfodeickaaRows
import Derived.KernelRfl
import Derived.Test.YtmmjdmfodeickaaRigB
import Derived.Test.YtmmjdmfodeickaaAbsE
import Derived.Test.YtmmjdmfodeickaaAbsF
import Derived.Test.YtmmjdmfodeickaaAbsH

/- The functions of this seat come to what is told of them: each one's code is what its printed text says (checked by the kernel), and the text is proved. Conditions: none. -/
namespace Go.Proofs.Ytmmjdmfodeickaa.own
open Go Go.Abs Go.Sh
theorem mixed : Try.prog.follows .mixedOrders = true := by kernel_rfl
theorem bulk_mem {H : Type} {d : DataW H} : ∀ {l : List (DataW H)}, d ∈ l → Rows.uptoBulk d ≤ Rows.uptoBulkAll l
  | x :: l, h => by
    simp only [Rows.uptoBulkAll]
    rcases List.mem_cons.1 h with rfl | h
    · omega
    · have := bulk_mem h; omega
  | [], h => (by cases h)
theorem bulk_str {H : Type} {s : List UInt8} {elems spare ds : List (DataW H)} (hk : Rows.uptoSmall H ds = true) (h : DataW.slice elems spare ∈ ds) (k : DataW.lit (.string s) ∈ elems) : s.length ≤ 1048576 := by
  have h1 := bulk_mem h
  have h2 := bulk_mem k
  have h3 := of_decide_eq_true hk
  simp only [Rows.uptoBulk] at h1 h2
  omega
def l0 : List (Nat × Bool × Abs.Spec) := []
theorem ok0 : SpecsOk Try.prog (spOf l0) := SpecsOk.nil
def cellaretref01_Zeros.cuts : Cuts := fun k => match k with | _ => none
theorem cellaretref01_Zeros.eq (x0 : AVal) (H : AHeap) (K : AVal → AHeap → Prop) : evFn Try.prog (spOf l0) cellaretref01_Zeros.cuts Try.f7 [x0] H K = cellaretref01_Zeros.w x0 H K := by kernel_rfl
theorem cellaretref01_Zeros.fn : FnOk Try.prog 7 S_cellaretref01_Zeros := fn_ok1 ok0 mixed (T := cellaretref01_Zeros.cuts) Try.func7 (Abs.enters_of Try.func7 (by kernel_rfl) (by kernel_rfl)) cellaretref01_Zeros.ok cellaretref01_Zeros.eq
def l1 : List (Nat × Bool × Abs.Spec) := (7, true, S_cellaretref01_Zeros) :: l0
theorem ok1 : SpecsOk Try.prog (spOf l1) := SpecsOk.cons ok0 cellaretref01_Zeros.fn (fun _ _ _ _ _ h => cellaretref01_Zeros.quiet h)
def cellaretref01_Full.cuts : Cuts := fun k => match k with | _ => none
theorem cellaretref01_Full.eq (x0 x1 : AVal) (H : AHeap) (K : AVal → AHeap → Prop) : evFn Try.prog (spOf l1) cellaretref01_Full.cuts Try.f27 [x0, x1] H K = cellaretref01_Full.w x0 x1 H K := by kernel_rfl
theorem cellaretref01_Full.fn : FnOk Try.prog 27 S_cellaretref01_Full := fn_ok2 ok1 mixed (T := cellaretref01_Full.cuts) Try.func27 (Abs.enters_of Try.func27 (by kernel_rfl) (by kernel_rfl)) cellaretref01_Full.ok cellaretref01_Full.eq
def l2 : List (Nat × Bool × Abs.Spec) := (27, true, S_cellaretref01_Full) :: l1
theorem ok2 : SpecsOk Try.prog (spOf l2) := SpecsOk.cons ok1 cellaretref01_Full.fn (fun _ _ _ _ _ h => cellaretref01_Full.quiet h)
def dev_New.cuts : Cuts := fun k => match k with | 1000001 => some ⟨[], [2, 3], [.normal, .ret]⟩ | 6 => some ⟨[17], [], [(.exit 0)]⟩ | _ => none
theorem dev_New.eq (x0 : AVal) (H : AHeap) (K : AVal → AHeap → Prop) : evFn Try.prog (spOf l2) dev_New.cuts Try.f26 [x0] H K = dev_New.w x0 H K := by kernel_rfl
theorem dev_New.fn : FnOk Try.prog 26 S_dev_New := fn_ok1E ok2 mixed (T := dev_New.cuts) Try.func26 (Abs.enters_of Try.func26 (by kernel_rfl) (by kernel_rfl)) dev_New.ok dev_New.eq
def l3 : List (Nat × Bool × Abs.Spec) := (26, true, S_dev_New) :: l2
theorem ok3 : SpecsOk Try.prog (spOf l3) := SpecsOk.cons ok2 dev_New.fn (fun _ _ _ _ _ h => dev_New.quiet h)
def dev_Dev_may.cuts : Cuts := fun k => match k with | _ => none
theorem dev_Dev_may.eq (x0 x1 x2 : AVal) (H : AHeap) (K : AVal → AHeap → Prop) : evFn Try.prog (spOf l3) dev_Dev_may.cuts Try.f58 [x0, x1, x2] H K = dev_Dev_may.w x0 x1 x2 H K := by kernel_rfl
theorem dev_Dev_may.fn : FnOk Try.prog 58 S_dev_Dev_may := fn_ok3E ok3 mixed (T := dev_Dev_may.cuts) Try.func58 (Abs.enters_of Try.func58 (by kernel_rfl) (by kernel_rfl)) dev_Dev_may.ok dev_Dev_may.eq
def l4 : List (Nat × Bool × Abs.Spec) := (58, true, S_dev_Dev_may) :: l3
theorem ok4 : SpecsOk Try.prog (spOf l4) := SpecsOk.cons ok3 dev_Dev_may.fn (fun _ _ _ _ _ h => dev_Dev_may.quiet h)
def dev_Dev_Read.cuts : Cuts := fun k => match k with | _ => none
theorem dev_Dev_Read.eq (x0 x1 : AVal) (H : AHeap) (K : AVal → AHeap → Prop) : evFn Try.prog (spOf l4) dev_Dev_Read.cuts Try.f44 [x0, x1] H K = dev_Dev_Read.w x0 x1 H K := by kernel_rfl
theorem dev_Dev_Read.fn : FnOk Try.prog 44 S_dev_Dev_Read := fn_ok2E ok4 mixed (T := dev_Dev_Read.cuts) Try.func44 (Abs.enters_of Try.func44 (by kernel_rfl) (by kernel_rfl)) dev_Dev_Read.ok dev_Dev_Read.eq
def l5 : List (Nat × Bool × Abs.Spec) := (44, true, S_dev_Dev_Read) :: l4
theorem ok5 : SpecsOk Try.prog (spOf l5) := SpecsOk.cons ok4 dev_Dev_Read.fn (fun _ _ _ _ _ h => dev_Dev_Read.quiet h)
def dev_Dev_Write.cuts : Cuts := fun k => match k with | _ => none
theorem dev_Dev_Write.eq (x0 x1 x2 : AVal) (H : AHeap) (K : AVal → AHeap → Prop) : evFn Try.prog (spOf l5) dev_Dev_Write.cuts Try.f46 [x0, x1, x2] H K = dev_Dev_Write.w x0 x1 x2 H K := by kernel_rfl
theorem dev_Dev_Write.fn : FnOk Try.prog 46 S_dev_Dev_Write := fn_ok3E ok5 mixed (T := dev_Dev_Write.cuts) Try.func46 (Abs.enters_of Try.func46 (by kernel_rfl) (by kernel_rfl)) dev_Dev_Write.ok dev_Dev_Write.eq
def l6 : List (Nat × Bool × Abs.Spec) := (46, false, S_dev_Dev_Write) :: l5
theorem ok6 : SpecsOk Try.prog (spOf l6) := SpecsOk.cons ok5 dev_Dev_Write.fn (fun h => by cases h)
def dev_Dev_Flush.cuts : Cuts := fun k => match k with | 4 => some ⟨[12], [], [(.exit 0)]⟩ | _ => none
theorem dev_Dev_Flush.eq (x0 : AVal) (H : AHeap) (K : AVal → AHeap → Prop) : evFn Try.prog (spOf l6) dev_Dev_Flush.cuts Try.f47 [x0] H K = dev_Dev_Flush.w x0 H K := by kernel_rfl
theorem dev_Dev_Flush.fn : FnOk Try.prog 47 S_dev_Dev_Flush := fn_ok1E ok6 mixed (T := dev_Dev_Flush.cuts) Try.func47 (Abs.enters_of Try.func47 (by kernel_rfl) (by kernel_rfl)) dev_Dev_Flush.ok dev_Dev_Flush.eq
def l7 : List (Nat × Bool × Abs.Spec) := (47, false, S_dev_Dev_Flush) :: l6
theorem ok7 : SpecsOk Try.prog (spOf l7) := SpecsOk.cons ok6 dev_Dev_Flush.fn (fun h => by cases h)
def dev_Dev_Tamper.cuts : Cuts := fun k => match k with | _ => none
theorem dev_Dev_Tamper.eq (x0 x1 x2 : AVal) (H : AHeap) (K : AVal → AHeap → Prop) : evFn Try.prog (spOf l7) dev_Dev_Tamper.cuts Try.f48 [x0, x1, x2] H K = dev_Dev_Tamper.w x0 x1 x2 H K := by kernel_rfl
theorem dev_Dev_Tamper.fn : FnOk Try.prog 48 S_dev_Dev_Tamper := fn_ok3E ok7 mixed (T := dev_Dev_Tamper.cuts) Try.func48 (Abs.enters_of Try.func48 (by kernel_rfl) (by kernel_rfl)) dev_Dev_Tamper.ok dev_Dev_Tamper.eq
def l8 : List (Nat × Bool × Abs.Spec) := (48, false, S_dev_Dev_Tamper) :: l7
theorem ok8 : SpecsOk Try.prog (spOf l8) := SpecsOk.cons ok7 dev_Dev_Tamper.fn (fun h => by cases h)
def dev_Dev_Crash_1.cuts : Cuts := fun k => match k with | _ => none
theorem dev_Dev_Crash_1.eq (x0 x1 x2 x3 : AVal) (H : AHeap) (K : AVal → AHeap → Prop) : evFn Try.prog (spOf l8) dev_Dev_Crash_1.cuts Try.f57 [x0, x1, x2, x3] H K = dev_Dev_Crash_1.w x0 x1 x2 x3 H K := by kernel_rfl
theorem dev_Dev_Crash_1.fn : FnOk Try.prog 57 S_dev_Dev_Crash_1 := fn_ok4E ok8 mixed (T := dev_Dev_Crash_1.cuts) Try.func57 (Abs.enters_of Try.func57 (by kernel_rfl) (by kernel_rfl)) dev_Dev_Crash_1.ok dev_Dev_Crash_1.eq
def l9 : List (Nat × Bool × Abs.Spec) := (57, true, S_dev_Dev_Crash_1) :: l8
theorem ok9 : SpecsOk Try.prog (spOf l9) := SpecsOk.cons ok8 dev_Dev_Crash_1.fn (fun _ _ _ _ _ h => dev_Dev_Crash_1.quiet h)
def dev_Dev_Crash.cuts : Cuts := fun k => match k with | 6 => some ⟨[21], [], [(.exit 0)]⟩ | _ => none
theorem dev_Dev_Crash.eq (x0 x1 : AVal) (H : AHeap) (K : AVal → AHeap → Prop) : evFn Try.prog (spOf l9) dev_Dev_Crash.cuts Try.f41 [x0, x1] H K = dev_Dev_Crash.w x0 x1 H K := by kernel_rfl
theorem dev_Dev_Crash.fn : FnOk Try.prog 41 S_dev_Dev_Crash := fn_ok2E ok9 mixed (T := dev_Dev_Crash.cuts) Try.func41 (Abs.enters_of Try.func41 (by kernel_rfl) (by kernel_rfl)) dev_Dev_Crash.ok dev_Dev_Crash.eq
def l10 : List (Nat × Bool × Abs.Spec) := (41, false, S_dev_Dev_Crash) :: l9
theorem ok10 : SpecsOk Try.prog (spOf l10) := SpecsOk.cons ok9 dev_Dev_Crash.fn (fun h => by cases h)
def dev_Dev_Copy.cuts : Cuts := fun k => match k with | _ => none
theorem dev_Dev_Copy.eq (x0 : AVal) (H : AHeap) (K : AVal → AHeap → Prop) : evFn Try.prog (spOf l10) dev_Dev_Copy.cuts Try.f50 [x0] H K = dev_Dev_Copy.w x0 H K := by kernel_rfl
theorem dev_Dev_Copy.fn : FnOk Try.prog 50 S_dev_Dev_Copy := fn_ok1E ok10 mixed (T := dev_Dev_Copy.cuts) Try.func50 (Abs.enters_of Try.func50 (by kernel_rfl) (by kernel_rfl)) dev_Dev_Copy.ok dev_Dev_Copy.eq
def l11 : List (Nat × Bool × Abs.Spec) := (50, true, S_dev_Dev_Copy) :: l10
theorem ok11 : SpecsOk Try.prog (spOf l11) := SpecsOk.cons ok10 dev_Dev_Copy.fn (fun _ _ _ _ _ h => dev_Dev_Copy.quiet h)
def rig_New.cuts : Cuts := fun k => match k with | 3 => some ⟨[7], [], [(.exit 0)]⟩ | _ => none
theorem rig_New.eq (H : AHeap) (K : AVal → AHeap → Prop) : evFn Try.prog (spOf l11) rig_New.cuts Try.f5 [] H K = rig_New.w H K := by kernel_rfl
theorem rig_New.fn : FnOk Try.prog 5 S_rig_New := fn_ok0E ok11 mixed (T := rig_New.cuts) Try.func5 (Abs.enters_of Try.func5 (by kernel_rfl) (by kernel_rfl)) rig_New.ok rig_New.eq
def l12 : List (Nat × Bool × Abs.Spec) := (5, true, S_rig_New) :: l11
theorem ok12 : SpecsOk Try.prog (spOf l12) := SpecsOk.cons ok11 rig_New.fn (fun _ _ _ _ _ h => rig_New.quiet h)
def rig_Rig_may.cuts : Cuts := fun k => match k with | _ => none
theorem rig_Rig_may.eq (x0 x1 x2 : AVal) (H : AHeap) (K : AVal → AHeap → Prop) : evFn Try.prog (spOf l12) rig_Rig_may.cuts Try.f42 [x0, x1, x2] H K = rig_Rig_may.w x0 x1 x2 H K := by kernel_rfl
theorem rig_Rig_may.fn : FnOk Try.prog 42 S_rig_Rig_may := fn_ok3E ok12 mixed (T := rig_Rig_may.cuts) Try.func42 (Abs.enters_of Try.func42 (by kernel_rfl) (by kernel_rfl)) rig_Rig_may.ok rig_Rig_may.eq
def l13 : List (Nat × Bool × Abs.Spec) := (42, true, S_rig_Rig_may) :: l12
theorem ok13 : SpecsOk Try.prog (spOf l13) := SpecsOk.cons ok12 rig_Rig_may.fn (fun _ _ _ _ _ h => rig_Rig_may.quiet h)
def rig_comes.cuts : Cuts := fun k => match k with | _ => none
theorem rig_comes.eq (x0 : AVal) (H : AHeap) (K : AVal → AHeap → Prop) : evFn Try.prog (spOf l13) rig_comes.cuts Try.f51 [x0] H K = rig_comes.w x0 H K := by kernel_rfl
theorem rig_comes.fn : FnOk Try.prog 51 S_rig_comes := fn_ok1E ok13 mixed (T := rig_comes.cuts) Try.func51 (Abs.enters_of Try.func51 (by kernel_rfl) (by kernel_rfl)) rig_comes.ok rig_comes.eq
def l14 : List (Nat × Bool × Abs.Spec) := (51, false, S_rig_comes) :: l13
theorem ok14 : SpecsOk Try.prog (spOf l14) := SpecsOk.cons ok13 rig_comes.fn (fun h => by cases h)
def rig_Rig_Read_1.cuts : Cuts := fun k => match k with | _ => none
theorem rig_Rig_Read_1.eq (x0 x1 x2 x3 : AVal) (H : AHeap) (K : AVal → AHeap → Prop) : evFn Try.prog (spOf l14) rig_Rig_Read_1.cuts Try.f43 [x0, x1, x2, x3] H K = rig_Rig_Read_1.w x0 x1 x2 x3 H K := by kernel_rfl
theorem rig_Rig_Read_1.fn : FnOk Try.prog 43 S_rig_Rig_Read_1 := fn_ok4E ok14 mixed (T := rig_Rig_Read_1.cuts) Try.func43 (Abs.enters_of Try.func43 (by kernel_rfl) (by kernel_rfl)) rig_Rig_Read_1.ok rig_Rig_Read_1.eq
def l15 : List (Nat × Bool × Abs.Spec) := (43, false, S_rig_Rig_Read_1) :: l14
theorem ok15 : SpecsOk Try.prog (spOf l15) := SpecsOk.cons ok14 rig_Rig_Read_1.fn (fun h => by cases h)
def rig_Rig_Write_1.cuts : Cuts := fun k => match k with | _ => none
theorem rig_Rig_Write_1.eq (x0 x1 x2 x3 : AVal) (H : AHeap) (K : AVal → AHeap → Prop) : evFn Try.prog (spOf l15) rig_Rig_Write_1.cuts Try.f45 [x0, x1, x2, x3] H K = rig_Rig_Write_1.w x0 x1 x2 x3 H K := by kernel_rfl
theorem rig_Rig_Write_1.fn : FnOk Try.prog 45 S_rig_Rig_Write_1 := fn_ok4E ok15 mixed (T := rig_Rig_Write_1.cuts) Try.func45 (Abs.enters_of Try.func45 (by kernel_rfl) (by kernel_rfl)) rig_Rig_Write_1.ok rig_Rig_Write_1.eq
def l16 : List (Nat × Bool × Abs.Spec) := (45, false, S_rig_Rig_Write_1) :: l15
theorem ok16 : SpecsOk Try.prog (spOf l16) := SpecsOk.cons ok15 rig_Rig_Write_1.fn (fun h => by cases h)
def rig_Rig_Reg_1.cuts : Cuts := fun k => match k with | _ => none
theorem rig_Rig_Reg_1.eq (H : AHeap) (K : AVal → AHeap → Prop) : evFn Try.prog (spOf l16) rig_Rig_Reg_1.cuts Try.f40 [] H K = rig_Rig_Reg_1.w H K := by kernel_rfl
theorem rig_Rig_Reg_1.fn : FnOk Try.prog 40 S_rig_Rig_Reg_1 := fn_ok0E ok16 mixed (T := rig_Rig_Reg_1.cuts) Try.func40 (Abs.enters_of Try.func40 (by kernel_rfl) (by kernel_rfl)) rig_Rig_Reg_1.ok rig_Rig_Reg_1.eq
def l17 : List (Nat × Bool × Abs.Spec) := (40, true, S_rig_Rig_Reg_1) :: l16
theorem ok17 : SpecsOk Try.prog (spOf l17) := SpecsOk.cons ok16 rig_Rig_Reg_1.fn (fun _ _ _ _ _ h => rig_Rig_Reg_1.quiet h)
def rig_Rig_SetReg_1.cuts : Cuts := fun k => match k with | _ => none
theorem rig_Rig_SetReg_1.eq (x0 x1 : AVal) (H : AHeap) (K : AVal → AHeap → Prop) : evFn Try.prog (spOf l17) rig_Rig_SetReg_1.cuts Try.f30 [x0, x1] H K = rig_Rig_SetReg_1.w x0 x1 H K := by kernel_rfl
theorem rig_Rig_SetReg_1.fn : FnOk Try.prog 30 S_rig_Rig_SetReg_1 := fn_ok2E ok17 mixed (T := rig_Rig_SetReg_1.cuts) Try.func30 (Abs.enters_of Try.func30 (by kernel_rfl) (by kernel_rfl)) rig_Rig_SetReg_1.ok rig_Rig_SetReg_1.eq
def l18 : List (Nat × Bool × Abs.Spec) := (30, false, S_rig_Rig_SetReg_1) :: l17
theorem ok18 : SpecsOk Try.prog (spOf l18) := SpecsOk.cons ok17 rig_Rig_SetReg_1.fn (fun h => by cases h)
def rig_Rig_step.cuts : Cuts := fun k => match k with | 1000004 => some ⟨[], [], [.normal]⟩ | _ => none
theorem rig_Rig_step.eq (x0 x1 : AVal) (H : AHeap) (K : AVal → AHeap → Prop) : evFn Try.prog (spOf l18) rig_Rig_step.cuts Try.f29 [x0, x1] H K = rig_Rig_step.w (callP (spOf l18)) x0 x1 H K := by kernel_rfl
theorem rig_Rig_step.le : CallsT.le rigCP (callP (spOf l18)) := by
  intro f a H r H' h
  rcases h with ⟨cap, rfl, h⟩ | ⟨cap, rfl, h⟩ | ⟨cap, rfl, h⟩ | ⟨cap, rfl, h⟩ | ⟨cap, rfl, h⟩ <;> exact h
theorem rig_Rig_step.fn : FnOk Try.prog 29 S_rig_Rig_step := fn_ok2E ok18 mixed (T := rig_Rig_step.cuts) Try.func29 (Abs.enters_of Try.func29 (by kernel_rfl) (by kernel_rfl)) (rig_Rig_step.okC rig_Rig_step.le) rig_Rig_step.eq
def l19 : List (Nat × Bool × Abs.Spec) := (29, false, S_rig_Rig_step) :: l18
theorem ok19 : SpecsOk Try.prog (spOf l19) := SpecsOk.cons ok18 rig_Rig_step.fn (fun h => by cases h)
def rig_Rig_Read.cuts : Cuts := fun k => match k with | _ => none
theorem rig_Rig_Read.eq (x0 x1 x2 : AVal) (H : AHeap) (K : AVal → AHeap → Prop) : evFn Try.prog (spOf l19) rig_Rig_Read.cuts Try.f15 [x0, x1, x2] H K = rig_Rig_Read.w x0 x1 x2 H K := by kernel_rfl
theorem rig_Rig_Read.fn : FnOk Try.prog 15 S_rig_Rig_Read := fn_ok3E ok19 mixed (T := rig_Rig_Read.cuts) Try.func15 (Abs.enters_of Try.func15 (by kernel_rfl) (by kernel_rfl)) rig_Rig_Read.ok rig_Rig_Read.eq
def l20 : List (Nat × Bool × Abs.Spec) := (15, false, S_rig_Rig_Read) :: l19
theorem ok20 : SpecsOk Try.prog (spOf l20) := SpecsOk.cons ok19 rig_Rig_Read.fn (fun h => by cases h)
def rig_Rig_Write.cuts : Cuts := fun k => match k with | _ => none
theorem rig_Rig_Write.eq (x0 x1 x2 x3 : AVal) (H : AHeap) (K : AVal → AHeap → Prop) : evFn Try.prog (spOf l20) rig_Rig_Write.cuts Try.f17 [x0, x1, x2, x3] H K = rig_Rig_Write.w x0 x1 x2 x3 H K := by kernel_rfl
theorem rig_Rig_Write.fn : FnOk Try.prog 17 S_rig_Rig_Write := fn_ok4E ok20 mixed (T := rig_Rig_Write.cuts) Try.func17 (Abs.enters_of Try.func17 (by kernel_rfl) (by kernel_rfl)) rig_Rig_Write.ok rig_Rig_Write.eq
def l21 : List (Nat × Bool × Abs.Spec) := (17, false, S_rig_Rig_Write) :: l20
theorem ok21 : SpecsOk Try.prog (spOf l21) := SpecsOk.cons ok20 rig_Rig_Write.fn (fun h => by cases h)
def rig_Rig_Flush.cuts : Cuts := fun k => match k with | _ => none
theorem rig_Rig_Flush.eq (x0 x1 : AVal) (H : AHeap) (K : AVal → AHeap → Prop) : evFn Try.prog (spOf l21) rig_Rig_Flush.cuts Try.f18 [x0, x1] H K = rig_Rig_Flush.w x0 x1 H K := by kernel_rfl
theorem rig_Rig_Flush.fn : FnOk Try.prog 18 S_rig_Rig_Flush := fn_ok2E ok21 mixed (T := rig_Rig_Flush.cuts) Try.func18 (Abs.enters_of Try.func18 (by kernel_rfl) (by kernel_rfl)) rig_Rig_Flush.ok rig_Rig_Flush.eq
def l22 : List (Nat × Bool × Abs.Spec) := (18, false, S_rig_Rig_Flush) :: l21
theorem ok22 : SpecsOk Try.prog (spOf l22) := SpecsOk.cons ok21 rig_Rig_Flush.fn (fun h => by cases h)
def rig_Rig_Reg.cuts : Cuts := fun k => match k with | _ => none
theorem rig_Rig_Reg.eq (x0 : AVal) (H : AHeap) (K : AVal → AHeap → Prop) : evFn Try.prog (spOf l22) rig_Rig_Reg.cuts Try.f13 [x0] H K = rig_Rig_Reg.w x0 H K := by kernel_rfl
theorem rig_Rig_Reg.fn : FnOk Try.prog 13 S_rig_Rig_Reg := fn_ok1E ok22 mixed (T := rig_Rig_Reg.cuts) Try.func13 (Abs.enters_of Try.func13 (by kernel_rfl) (by kernel_rfl)) rig_Rig_Reg.ok rig_Rig_Reg.eq
def l23 : List (Nat × Bool × Abs.Spec) := (13, false, S_rig_Rig_Reg) :: l22
theorem ok23 : SpecsOk Try.prog (spOf l23) := SpecsOk.cons ok22 rig_Rig_Reg.fn (fun h => by cases h)
def rig_Rig_SetReg.cuts : Cuts := fun k => match k with | _ => none
theorem rig_Rig_SetReg.eq (x0 x1 : AVal) (H : AHeap) (K : AVal → AHeap → Prop) : evFn Try.prog (spOf l23) rig_Rig_SetReg.cuts Try.f11 [x0, x1] H K = rig_Rig_SetReg.w x0 x1 H K := by kernel_rfl
theorem rig_Rig_SetReg.fn : FnOk Try.prog 11 S_rig_Rig_SetReg := fn_ok2E ok23 mixed (T := rig_Rig_SetReg.cuts) Try.func11 (Abs.enters_of Try.func11 (by kernel_rfl) (by kernel_rfl)) rig_Rig_SetReg.ok rig_Rig_SetReg.eq
def l24 : List (Nat × Bool × Abs.Spec) := (11, false, S_rig_Rig_SetReg) :: l23
theorem ok24 : SpecsOk Try.prog (spOf l24) := SpecsOk.cons ok23 rig_Rig_SetReg.fn (fun h => by cases h)
def rig_Rig_Tamper.cuts : Cuts := fun k => match k with | _ => none
theorem rig_Rig_Tamper.eq (x0 x1 x2 x3 : AVal) (H : AHeap) (K : AVal → AHeap → Prop) : evFn Try.prog (spOf l24) rig_Rig_Tamper.cuts Try.f19 [x0, x1, x2, x3] H K = rig_Rig_Tamper.w x0 x1 x2 x3 H K := by kernel_rfl
theorem rig_Rig_Tamper.fn : FnOk Try.prog 19 S_rig_Rig_Tamper := fn_ok4E ok24 mixed (T := rig_Rig_Tamper.cuts) Try.func19 (Abs.enters_of Try.func19 (by kernel_rfl) (by kernel_rfl)) rig_Rig_Tamper.ok rig_Rig_Tamper.eq
def l25 : List (Nat × Bool × Abs.Spec) := (19, false, S_rig_Rig_Tamper) :: l24
theorem ok25 : SpecsOk Try.prog (spOf l25) := SpecsOk.cons ok24 rig_Rig_Tamper.fn (fun h => by cases h)
def rig_right.cuts : Cuts := fun k => match k with | _ => none
theorem rig_right.eq (x0 : AVal) (H : AHeap) (K : AVal → AHeap → Prop) : evFn Try.prog (spOf l25) rig_right.cuts Try.f49 [x0] H K = rig_right.w x0 H K := by kernel_rfl
theorem rig_right.fn : FnOk Try.prog 49 S_rig_right := fn_ok1E ok25 mixed (T := rig_right.cuts) Try.func49 (Abs.enters_of Try.func49 (by kernel_rfl) (by kernel_rfl)) rig_right.ok rig_right.eq
def l26 : List (Nat × Bool × Abs.Spec) := (49, true, S_rig_right) :: l25
theorem ok26 : SpecsOk Try.prog (spOf l26) := SpecsOk.cons ok25 rig_right.fn (fun _ _ _ _ _ h => rig_right.quiet h)
def rig_Rig_Later.cuts : Cuts := fun k => match k with | _ => none
theorem rig_Rig_Later.eq (x0 x1 x2 x3 x4 : AVal) (H : AHeap) (K : AVal → AHeap → Prop) : evFn Try.prog (spOf l26) rig_Rig_Later.cuts Try.f20 [x0, x1, x2, x3, x4] H K = rig_Rig_Later.w x0 x1 x2 x3 x4 H K := by kernel_rfl
theorem rig_Rig_Later.fn : FnOk Try.prog 20 S_rig_Rig_Later := fn_ok5E ok26 mixed (T := rig_Rig_Later.cuts) Try.func20 (Abs.enters_of Try.func20 (by kernel_rfl) (by kernel_rfl)) rig_Rig_Later.ok rig_Rig_Later.eq
def l27 : List (Nat × Bool × Abs.Spec) := (20, false, S_rig_Rig_Later) :: l26
theorem ok27 : SpecsOk Try.prog (spOf l27) := SpecsOk.cons ok26 rig_Rig_Later.fn (fun h => by cases h)
def rig_Rig_Arm.cuts : Cuts := fun k => match k with | _ => none
theorem rig_Rig_Arm.eq (x0 x1 : AVal) (H : AHeap) (K : AVal → AHeap → Prop) : evFn Try.prog (spOf l27) rig_Rig_Arm.cuts Try.f21 [x0, x1] H K = rig_Rig_Arm.w x0 x1 H K := by kernel_rfl
theorem rig_Rig_Arm.fn : FnOk Try.prog 21 S_rig_Rig_Arm := fn_ok2E ok27 mixed (T := rig_Rig_Arm.cuts) Try.func21 (Abs.enters_of Try.func21 (by kernel_rfl) (by kernel_rfl)) rig_Rig_Arm.ok rig_Rig_Arm.eq
def l28 : List (Nat × Bool × Abs.Spec) := (21, false, S_rig_Rig_Arm) :: l27
theorem ok28 : SpecsOk Try.prog (spOf l28) := SpecsOk.cons ok27 rig_Rig_Arm.fn (fun h => by cases h)
def rig_Rig_Fault.cuts : Cuts := fun k => match k with | _ => none
theorem rig_Rig_Fault.eq (x0 x1 : AVal) (H : AHeap) (K : AVal → AHeap → Prop) : evFn Try.prog (spOf l28) rig_Rig_Fault.cuts Try.f22 [x0, x1] H K = rig_Rig_Fault.w x0 x1 H K := by kernel_rfl
theorem rig_Rig_Fault.fn : FnOk Try.prog 22 S_rig_Rig_Fault := fn_ok2E ok28 mixed (T := rig_Rig_Fault.cuts) Try.func22 (Abs.enters_of Try.func22 (by kernel_rfl) (by kernel_rfl)) rig_Rig_Fault.ok rig_Rig_Fault.eq
def l29 : List (Nat × Bool × Abs.Spec) := (22, false, S_rig_Rig_Fault) :: l28
theorem ok29 : SpecsOk Try.prog (spOf l29) := SpecsOk.cons ok28 rig_Rig_Fault.fn (fun h => by cases h)
def rig_Rig_Crash.cuts : Cuts := fun k => match k with | _ => none
theorem rig_Rig_Crash.eq (x0 x1 x2 : AVal) (H : AHeap) (K : AVal → AHeap → Prop) : evFn Try.prog (spOf l29) rig_Rig_Crash.cuts Try.f14 [x0, x1, x2] H K = rig_Rig_Crash.w x0 x1 x2 H K := by kernel_rfl
theorem rig_Rig_Crash.fn : FnOk Try.prog 14 S_rig_Rig_Crash := fn_ok3E ok29 mixed (T := rig_Rig_Crash.cuts) Try.func14 (Abs.enters_of Try.func14 (by kernel_rfl) (by kernel_rfl)) rig_Rig_Crash.ok rig_Rig_Crash.eq
def l30 : List (Nat × Bool × Abs.Spec) := (14, false, S_rig_Rig_Crash) :: l29
theorem ok30 : SpecsOk Try.prog (spOf l30) := SpecsOk.cons ok29 rig_Rig_Crash.fn (fun h => by cases h)
def rig_Rig_Down.cuts : Cuts := fun k => match k with | _ => none
theorem rig_Rig_Down.eq (x0 : AVal) (H : AHeap) (K : AVal → AHeap → Prop) : evFn Try.prog (spOf l30) rig_Rig_Down.cuts Try.f23 [x0] H K = rig_Rig_Down.w x0 H K := by kernel_rfl
theorem rig_Rig_Down.fn : FnOk Try.prog 23 S_rig_Rig_Down := fn_ok1E ok30 mixed (T := rig_Rig_Down.cuts) Try.func23 (Abs.enters_of Try.func23 (by kernel_rfl) (by kernel_rfl)) rig_Rig_Down.ok rig_Rig_Down.eq
def l31 : List (Nat × Bool × Abs.Spec) := (23, true, S_rig_Rig_Down) :: l30
theorem ok31 : SpecsOk Try.prog (spOf l31) := SpecsOk.cons ok30 rig_Rig_Down.fn (fun _ _ _ _ _ h => rig_Rig_Down.quiet h)
def rig_Rig_Calls.cuts : Cuts := fun k => match k with | _ => none
theorem rig_Rig_Calls.eq (x0 : AVal) (H : AHeap) (K : AVal → AHeap → Prop) : evFn Try.prog (spOf l31) rig_Rig_Calls.cuts Try.f24 [x0] H K = rig_Rig_Calls.w x0 H K := by kernel_rfl
theorem rig_Rig_Calls.fn : FnOk Try.prog 24 S_rig_Rig_Calls := fn_ok1E ok31 mixed (T := rig_Rig_Calls.cuts) Try.func24 (Abs.enters_of Try.func24 (by kernel_rfl) (by kernel_rfl)) rig_Rig_Calls.ok rig_Rig_Calls.eq
def l32 : List (Nat × Bool × Abs.Spec) := (24, true, S_rig_Rig_Calls) :: l31
theorem ok32 : SpecsOk Try.prog (spOf l32) := SpecsOk.cons ok31 rig_Rig_Calls.fn (fun _ _ _ _ _ h => rig_Rig_Calls.quiet h)
def rig_Rig_Dev.cuts : Cuts := fun k => match k with | _ => none
theorem rig_Rig_Dev.eq (x0 x1 : AVal) (H : AHeap) (K : AVal → AHeap → Prop) : evFn Try.prog (spOf l32) rig_Rig_Dev.cuts Try.f16 [x0, x1] H K = rig_Rig_Dev.w x0 x1 H K := by kernel_rfl
theorem rig_Rig_Dev.fn : FnOk Try.prog 16 S_rig_Rig_Dev := fn_ok2E ok32 mixed (T := rig_Rig_Dev.cuts) Try.func16 (Abs.enters_of Try.func16 (by kernel_rfl) (by kernel_rfl)) rig_Rig_Dev.ok rig_Rig_Dev.eq
def l33 : List (Nat × Bool × Abs.Spec) := (16, true, S_rig_Rig_Dev) :: l32
theorem ok33 : SpecsOk Try.prog (spOf l33) := SpecsOk.cons ok32 rig_Rig_Dev.fn (fun _ _ _ _ _ h => rig_Rig_Dev.quiet h)
def rig_Rig_Copy.cuts : Cuts := fun k => match k with | 5 => some ⟨[15], [], [(.exit 0)]⟩ | _ => none
theorem rig_Rig_Copy.eq (x0 : AVal) (H : AHeap) (K : AVal → AHeap → Prop) : evFn Try.prog (spOf l33) rig_Rig_Copy.cuts Try.f25 [x0] H K = rig_Rig_Copy.w x0 H K := by kernel_rfl
theorem rig_Rig_Copy.fn : FnOk Try.prog 25 S_rig_Rig_Copy := fn_ok1E ok33 mixed (T := rig_Rig_Copy.cuts) Try.func25 (Abs.enters_of Try.func25 (by kernel_rfl) (by kernel_rfl)) rig_Rig_Copy.ok rig_Rig_Copy.eq
def l34 : List (Nat × Bool × Abs.Spec) := (25, true, S_rig_Rig_Copy) :: l33
theorem ok34 : SpecsOk Try.prog (spOf l34) := SpecsOk.cons ok33 rig_Rig_Copy.fn (fun _ _ _ _ _ h => rig_Rig_Copy.quiet h)
def cellaretref10_New.cuts : Cuts := fun k => match k with | 3 => some ⟨[4], [], [(.exit 0)]⟩ | _ => none
theorem cellaretref10_New.eq (x0 : AVal) (H : AHeap) (K : AVal → AHeap → Prop) : evFn Try.prog (spOf l34) cellaretref10_New.cuts Try.f28 [x0] H K = cellaretref10_New.w x0 H K := by kernel_rfl
theorem cellaretref10_New.fn : FnOk Try.prog 28 S_cellaretref10_New := fn_ok1E ok34 mixed (T := cellaretref10_New.cuts) Try.func28 (Abs.enters_of Try.func28 (by kernel_rfl) (by kernel_rfl)) cellaretref10_New.ok cellaretref10_New.eq
def l35 : List (Nat × Bool × Abs.Spec) := (28, true, S_cellaretref10_New) :: l34
theorem ok35 : SpecsOk Try.prog (spOf l35) := SpecsOk.cons ok34 cellaretref10_New.fn (fun _ _ _ _ _ h => cellaretref10_New.quiet h)
def cellaretref10_put.cuts : Cuts := fun k => match k with | _ => none
theorem cellaretref10_put.eq (x0 x1 x2 : AVal) (H : AHeap) (K : AVal → AHeap → Prop) : evFn Try.prog (spOf l35) cellaretref10_put.cuts Try.f55 [x0, x1, x2] H K = cellaretref10_put.w x0 x1 x2 H K := by kernel_rfl
theorem cellaretref10_put.fn : FnOk Try.prog 55 S_cellaretref10_put := fn_ok3E ok35 mixed (T := cellaretref10_put.cuts) Try.func55 (Abs.enters_of Try.func55 (by kernel_rfl) (by kernel_rfl)) cellaretref10_put.ok cellaretref10_put.eq
def l36 : List (Nat × Bool × Abs.Spec) := (55, true, S_cellaretref10_put) :: l35
theorem ok36 : SpecsOk Try.prog (spOf l36) := SpecsOk.cons ok35 cellaretref10_put.fn (fun _ _ _ _ _ h => cellaretref10_put.quiet h)
def cellaretref10_mark.cuts : Cuts := fun k => match k with | _ => none
theorem cellaretref10_mark.eq (x0 x1 x2 : AVal) (H : AHeap) (K : AVal → AHeap → Prop) : evFn Try.prog (spOf l36) cellaretref10_mark.cuts Try.f59 [x0, x1, x2] H K = cellaretref10_mark.w x0 x1 x2 H K := by kernel_rfl
theorem cellaretref10_mark.fn : FnOk Try.prog 59 S_cellaretref10_mark := fn_ok3E ok36 mixed (T := cellaretref10_mark.cuts) Try.func59 (Abs.enters_of Try.func59 (by kernel_rfl) (by kernel_rfl)) cellaretref10_mark.ok cellaretref10_mark.eq
def l37 : List (Nat × Bool × Abs.Spec) := (59, true, S_cellaretref10_mark) :: l36
theorem ok37 : SpecsOk Try.prog (spOf l37) := SpecsOk.cons ok36 cellaretref10_mark.fn (fun _ _ _ _ _ h => cellaretref10_mark.quiet h)
def cellaretref10_Dev_Write.cuts : Cuts := fun k => match k with | _ => none
theorem cellaretref10_Dev_Write.eq (x0 x1 x2 : AVal) (H : AHeap) (K : AVal → AHeap → Prop) : evFn Try.prog (spOf l37) cellaretref10_Dev_Write.cuts Try.f52 [x0, x1, x2] H K = cellaretref10_Dev_Write.w x0 x1 x2 H K := by kernel_rfl
theorem cellaretref10_Dev_Write.fn : FnOk Try.prog 52 S_cellaretref10_Dev_Write := fn_ok3E ok37 mixed (T := cellaretref10_Dev_Write.cuts) Try.func52 (Abs.enters_of Try.func52 (by kernel_rfl) (by kernel_rfl)) cellaretref10_Dev_Write.ok cellaretref10_Dev_Write.eq
def l38 : List (Nat × Bool × Abs.Spec) := (52, false, S_cellaretref10_Dev_Write) :: l37
theorem ok38 : SpecsOk Try.prog (spOf l38) := SpecsOk.cons ok37 cellaretref10_Dev_Write.fn (fun h => by cases h)
def cellaretref10_Dev_Flush.cuts : Cuts := fun k => match k with | _ => none
theorem cellaretref10_Dev_Flush.eq (x0 : AVal) (H : AHeap) (K : AVal → AHeap → Prop) : evFn Try.prog (spOf l38) cellaretref10_Dev_Flush.cuts Try.f33 [x0] H K = cellaretref10_Dev_Flush.w x0 H K := by kernel_rfl
theorem cellaretref10_Dev_Flush.fn : FnOk Try.prog 33 S_cellaretref10_Dev_Flush := fn_ok1E ok38 mixed (T := cellaretref10_Dev_Flush.cuts) Try.func33 (Abs.enters_of Try.func33 (by kernel_rfl) (by kernel_rfl)) cellaretref10_Dev_Flush.ok cellaretref10_Dev_Flush.eq
def l39 : List (Nat × Bool × Abs.Spec) := (33, false, S_cellaretref10_Dev_Flush) :: l38
theorem ok39 : SpecsOk Try.prog (spOf l39) := SpecsOk.cons ok38 cellaretref10_Dev_Flush.fn (fun h => by cases h)
def cellaretref10_Dev_Tamper.cuts : Cuts := fun k => match k with | _ => none
theorem cellaretref10_Dev_Tamper.eq (x0 x1 x2 : AVal) (H : AHeap) (K : AVal → AHeap → Prop) : evFn Try.prog (spOf l39) cellaretref10_Dev_Tamper.cuts Try.f36 [x0, x1, x2] H K = cellaretref10_Dev_Tamper.w x0 x1 x2 H K := by kernel_rfl
theorem cellaretref10_Dev_Tamper.fn : FnOk Try.prog 36 S_cellaretref10_Dev_Tamper := fn_ok3E ok39 mixed (T := cellaretref10_Dev_Tamper.cuts) Try.func36 (Abs.enters_of Try.func36 (by kernel_rfl) (by kernel_rfl)) cellaretref10_Dev_Tamper.ok cellaretref10_Dev_Tamper.eq
def l40 : List (Nat × Bool × Abs.Spec) := (36, false, S_cellaretref10_Dev_Tamper) :: l39
theorem ok40 : SpecsOk Try.prog (spOf l40) := SpecsOk.cons ok39 cellaretref10_Dev_Tamper.fn (fun h => by cases h)
def cellaretref10_Dev_Crash.cuts : Cuts := fun k => match k with | 1000002 => some ⟨[], [4], [.normal]⟩ | 1000004 => some ⟨[], [4], [.normal]⟩ | 8 => some ⟨[5, 6], [5], [(.exit 0)]⟩ | 1000008 => some ⟨[], [], [(.exit 0), .normal]⟩ | 1000012 => some ⟨[], [7], [.normal]⟩ | _ => none
theorem cellaretref10_Dev_Crash.eq (x0 x1 : AVal) (H : AHeap) (K : AVal → AHeap → Prop) : evFn Try.prog (spOf l40) cellaretref10_Dev_Crash.cuts Try.f56 [x0, x1] H K = cellaretref10_Dev_Crash.w x0 x1 H K := by kernel_rfl
theorem cellaretref10_Dev_Crash.fn : FnOk Try.prog 56 S_cellaretref10_Dev_Crash := fn_ok2E ok40 mixed (T := cellaretref10_Dev_Crash.cuts) Try.func56 (Abs.enters_of Try.func56 (by kernel_rfl) (by kernel_rfl)) cellaretref10_Dev_Crash.ok cellaretref10_Dev_Crash.eq
def l41 : List (Nat × Bool × Abs.Spec) := (56, false, S_cellaretref10_Dev_Crash) :: l40
theorem ok41 : SpecsOk Try.prog (spOf l41) := SpecsOk.cons ok40 cellaretref10_Dev_Crash.fn (fun h => by cases h)
def cellaretref12_New.cuts : Cuts := fun k => match k with | _ => none
theorem cellaretref12_New.eq (H : AHeap) (K : AVal → AHeap → Prop) : evFn Try.prog (spOf l41) cellaretref12_New.cuts Try.f8 [] H K = cellaretref12_New.w H K := by kernel_rfl
theorem cellaretref12_New.fn : FnOk Try.prog 8 S_cellaretref12_New := fn_ok0E ok41 mixed (T := cellaretref12_New.cuts) Try.func8 (Abs.enters_of Try.func8 (by kernel_rfl) (by kernel_rfl)) cellaretref12_New.ok cellaretref12_New.eq
def l42 : List (Nat × Bool × Abs.Spec) := (8, true, S_cellaretref12_New) :: l41
theorem ok42 : SpecsOk Try.prog (spOf l42) := SpecsOk.cons ok41 cellaretref12_New.fn (fun _ _ _ _ _ h => cellaretref12_New.quiet h)
def cellaretref12_less.cuts : Cuts := fun k => match k with | _ => none
theorem cellaretref12_less.eq (x0 : AVal) (H : AHeap) (K : AVal → AHeap → Prop) : evFn Try.prog (spOf l42) cellaretref12_less.cuts Try.f53 [x0] H K = cellaretref12_less.w x0 H K := by kernel_rfl
theorem cellaretref12_less.fn : FnOk Try.prog 53 S_cellaretref12_less := fn_ok1E ok42 mixed (T := cellaretref12_less.cuts) Try.func53 (Abs.enters_of Try.func53 (by kernel_rfl) (by kernel_rfl)) cellaretref12_less.ok cellaretref12_less.eq
def l43 : List (Nat × Bool × Abs.Spec) := (53, true, S_cellaretref12_less) :: l42
theorem ok43 : SpecsOk Try.prog (spOf l43) := SpecsOk.cons ok42 cellaretref12_less.fn (fun _ _ _ _ _ h => cellaretref12_less.quiet h)
def cellaretref12_Rig_Step.cuts : Cuts := fun k => match k with | 1000004 => some ⟨[], [], [.normal]⟩ | 1000007 => some ⟨[], [3], [.normal]⟩ | 1000009 => some ⟨[], [3], [.normal]⟩ | _ => none
theorem cellaretref12_Rig_Step.eq (x0 : AVal) (H : AHeap) (K : AVal → AHeap → Prop) : evFn Try.prog (spOf l43) cellaretref12_Rig_Step.cuts Try.f32 [x0] H K = cellaretref12_Rig_Step.w x0 H K := by kernel_rfl
theorem cellaretref12_Rig_Step.fn : FnOk Try.prog 32 S_cellaretref12_Rig_Step := fn_ok1E ok43 mixed (T := cellaretref12_Rig_Step.cuts) Try.func32 (Abs.enters_of Try.func32 (by kernel_rfl) (by kernel_rfl)) cellaretref12_Rig_Step.ok cellaretref12_Rig_Step.eq
def l44 : List (Nat × Bool × Abs.Spec) := (32, false, S_cellaretref12_Rig_Step) :: l43
theorem ok44 : SpecsOk Try.prog (spOf l44) := SpecsOk.cons ok43 cellaretref12_Rig_Step.fn (fun h => by cases h)
def cellaretref12_Rig_Crash.cuts : Cuts := fun k => match k with | _ => none
theorem cellaretref12_Rig_Crash.eq (x0 x1 x2 : AVal) (H : AHeap) (K : AVal → AHeap → Prop) : evFn Try.prog (spOf l44) cellaretref12_Rig_Crash.cuts Try.f38 [x0, x1, x2] H K = cellaretref12_Rig_Crash.w x0 x1 x2 H K := by kernel_rfl
theorem cellaretref12_Rig_Crash.fn : FnOk Try.prog 38 S_cellaretref12_Rig_Crash := fn_ok3E ok44 mixed (T := cellaretref12_Rig_Crash.cuts) Try.func38 (Abs.enters_of Try.func38 (by kernel_rfl) (by kernel_rfl)) cellaretref12_Rig_Crash.ok cellaretref12_Rig_Crash.eq
def l45 : List (Nat × Bool × Abs.Spec) := (38, false, S_cellaretref12_Rig_Crash) :: l44
theorem ok45 : SpecsOk Try.prog (spOf l45) := SpecsOk.cons ok44 cellaretref12_Rig_Crash.fn (fun h => by cases h)
def cellaretlaw12_few.cuts : Cuts := fun k => match k with | _ => none
theorem cellaretlaw12_few.eq (x0 : AVal) (H : AHeap) (K : AVal → AHeap → Prop) : evFn Try.prog (spOf l45) cellaretlaw12_few.cuts Try.f9 [x0] H K = cellaretlaw12_few.w x0 H K := by kernel_rfl
theorem cellaretlaw12_few.fn : FnOk Try.prog 9 S_cellaretlaw12_few := fn_ok1E ok45 mixed (T := cellaretlaw12_few.cuts) Try.func9 (Abs.enters_of Try.func9 (by kernel_rfl) (by kernel_rfl)) cellaretlaw12_few.ok cellaretlaw12_few.eq
def l46 : List (Nat × Bool × Abs.Spec) := (9, true, S_cellaretlaw12_few) :: l45
theorem ok46 : SpecsOk Try.prog (spOf l46) := SpecsOk.cons ok45 cellaretlaw12_few.fn (fun _ _ _ _ _ h => cellaretlaw12_few.quiet h)
def cellaretlaw12_text.cuts : Cuts := fun k => match k with | 1000001 => some ⟨[], [4], [.normal, .ret]⟩ | _ => none
theorem cellaretlaw12_text.eq (x0 x1 : AVal) (H : AHeap) (K : AVal → AHeap → Prop) : evFn Try.prog (spOf l46) cellaretlaw12_text.cuts Try.f10 [x0, x1] H K = cellaretlaw12_text.w x0 x1 H K := by kernel_rfl
theorem cellaretlaw12_text.fn : FnOk Try.prog 10 S_cellaretlaw12_text := fn_ok2E ok46 mixed (T := cellaretlaw12_text.cuts) Try.func10 (Abs.enters_of Try.func10 (by kernel_rfl) (by kernel_rfl)) cellaretlaw12_text.ok cellaretlaw12_text.eq
def l47 : List (Nat × Bool × Abs.Spec) := (10, true, S_cellaretlaw12_text) :: l46
theorem ok47 : SpecsOk Try.prog (spOf l47) := SpecsOk.cons ok46 cellaretlaw12_text.fn (fun _ _ _ _ _ h => cellaretlaw12_text.quiet h)
def cellaretlaw12_may.cuts : Cuts := fun k => match k with | 1000001 => some ⟨[], [2], [.normal, .ret]⟩ | 1000003 => some ⟨[], [2], [.normal, .ret]⟩ | _ => none
theorem cellaretlaw12_may.eq (x0 : AVal) (H : AHeap) (K : AVal → AHeap → Prop) : evFn Try.prog (spOf l47) cellaretlaw12_may.cuts Try.f54 [x0] H K = cellaretlaw12_may.w x0 H K := by kernel_rfl
theorem cellaretlaw12_may.fn : FnOk Try.prog 54 S_cellaretlaw12_may := fn_ok1E ok47 mixed (T := cellaretlaw12_may.cuts) Try.func54 (Abs.enters_of Try.func54 (by kernel_rfl) (by kernel_rfl)) cellaretlaw12_may.ok cellaretlaw12_may.eq
def l48 : List (Nat × Bool × Abs.Spec) := (54, true, S_cellaretlaw12_may) :: l47
theorem ok48 : SpecsOk Try.prog (spOf l48) := SpecsOk.cons ok47 cellaretlaw12_may.fn (fun _ _ _ _ _ h => cellaretlaw12_may.quiet h)
def cellaretlaw12_block.cuts : Cuts := fun k => match k with | 1000002 => some ⟨[], [4], [.normal, .ret]⟩ | _ => none
theorem cellaretlaw12_block.eq (x0 x1 : AVal) (H : AHeap) (K : AVal → AHeap → Prop) : evFn Try.prog (spOf l48) cellaretlaw12_block.cuts Try.f35 [x0, x1] H K = cellaretlaw12_block.w x0 x1 H K := by kernel_rfl
theorem cellaretlaw12_block.fn : FnOk Try.prog 35 S_cellaretlaw12_block := fn_ok2E ok48 mixed (T := cellaretlaw12_block.cuts) Try.func35 (Abs.enters_of Try.func35 (by kernel_rfl) (by kernel_rfl)) cellaretlaw12_block.ok cellaretlaw12_block.eq
def l49 : List (Nat × Bool × Abs.Spec) := (35, true, S_cellaretlaw12_block) :: l48
theorem ok49 : SpecsOk Try.prog (spOf l49) := SpecsOk.cons ok48 cellaretlaw12_block.fn (fun _ _ _ _ _ h => cellaretlaw12_block.quiet h)
def cellaretlaw12_awake.cuts : Cuts := fun k => match k with | 1000003 => some ⟨[], [0], [.normal, .ret]⟩ | _ => none
theorem cellaretlaw12_awake.eq (H : AHeap) (K : AVal → AHeap → Prop) : evFn Try.prog (spOf l49) cellaretlaw12_awake.cuts Try.f6 [] H K = cellaretlaw12_awake.w H K := by kernel_rfl
theorem cellaretlaw12_awake.fn : FnOk Try.prog 6 S_cellaretlaw12_awake := fn_ok0E ok49 mixed (T := cellaretlaw12_awake.cuts) Try.func6 (Abs.enters_of Try.func6 (by kernel_rfl) (by kernel_rfl)) cellaretlaw12_awake.ok cellaretlaw12_awake.eq
def l50 : List (Nat × Bool × Abs.Spec) := (6, true, S_cellaretlaw12_awake) :: l49
theorem ok50 : SpecsOk Try.prog (spOf l50) := SpecsOk.cons ok49 cellaretlaw12_awake.fn (fun _ _ _ _ _ h => cellaretlaw12_awake.quiet h)
def cellaretlaw12_writes.cuts : Cuts := fun k => match k with | 1000007 => some ⟨[], [], [.normal]⟩ | _ => none
theorem cellaretlaw12_writes.eq (x0 x1 x2 : AVal) (H : AHeap) (K : AVal → AHeap → Prop) : evFn Try.prog (spOf l50) cellaretlaw12_writes.cuts Try.f31 [x0, x1, x2] H K = cellaretlaw12_writes.w x0 x1 x2 H K := by kernel_rfl
theorem cellaretlaw12_writes.fn : FnOk Try.prog 31 S_cellaretlaw12_writes := fn_ok3E ok50 mixed (T := cellaretlaw12_writes.cuts) Try.func31 (Abs.enters_of Try.func31 (by kernel_rfl) (by kernel_rfl)) cellaretlaw12_writes.ok cellaretlaw12_writes.eq
def l51 : List (Nat × Bool × Abs.Spec) := (31, false, S_cellaretlaw12_writes) :: l50
theorem ok51 : SpecsOk Try.prog (spOf l51) := SpecsOk.cons ok50 cellaretlaw12_writes.fn (fun h => by cases h)
def cellaretlaw12_reads.cuts : Cuts := fun k => match k with | _ => none
theorem cellaretlaw12_reads.eq (x0 x1 x2 : AVal) (H : AHeap) (K : AVal → AHeap → Prop) : evFn Try.prog (spOf l51) cellaretlaw12_reads.cuts Try.f39 [x0, x1, x2] H K = cellaretlaw12_reads.w x0 x1 x2 H K := by kernel_rfl
theorem cellaretlaw12_reads.fn : FnOk Try.prog 39 S_cellaretlaw12_reads := fn_ok3E ok51 mixed (T := cellaretlaw12_reads.cuts) Try.func39 (Abs.enters_of Try.func39 (by kernel_rfl) (by kernel_rfl)) cellaretlaw12_reads.ok cellaretlaw12_reads.eq
def l52 : List (Nat × Bool × Abs.Spec) := (39, false, S_cellaretlaw12_reads) :: l51
theorem ok52 : SpecsOk Try.prog (spOf l52) := SpecsOk.cons ok51 cellaretlaw12_reads.fn (fun h => by cases h)
def cellaretlaw12_regs.cuts : Cuts := fun k => match k with | 1000012 => some ⟨[], [], [.normal]⟩ | _ => none
theorem cellaretlaw12_regs.eq (x0 x1 x2 : AVal) (H : AHeap) (K : AVal → AHeap → Prop) : evFn Try.prog (spOf l52) cellaretlaw12_regs.cuts Try.f34 [x0, x1, x2] H K = cellaretlaw12_regs.w x0 x1 x2 H K := by kernel_rfl
theorem cellaretlaw12_regs.fn : FnOk Try.prog 34 S_cellaretlaw12_regs := fn_ok3E ok52 mixed (T := cellaretlaw12_regs.cuts) Try.func34 (Abs.enters_of Try.func34 (by kernel_rfl) (by kernel_rfl)) cellaretlaw12_regs.ok cellaretlaw12_regs.eq
def l53 : List (Nat × Bool × Abs.Spec) := (34, false, S_cellaretlaw12_regs) :: l52
theorem ok53 : SpecsOk Try.prog (spOf l53) := SpecsOk.cons ok52 cellaretlaw12_regs.fn (fun h => by cases h)
def cellaretlaw12_comes.cuts : Cuts := fun k => match k with | 2000001 => some ⟨[], [7], [.normal]⟩ | 1000003 => some ⟨[], [8], [.normal]⟩ | 1000008 => some ⟨[], [8], [.normal]⟩ | 1000010 => some ⟨[], [], [.normal]⟩ | 1000016 => some ⟨[], [], [.normal]⟩ | 1000019 => some ⟨[], [], [.normal]⟩ | _ => none
theorem cellaretlaw12_comes.eq (x0 x1 x2 : AVal) (H : AHeap) (K : AVal → AHeap → Prop) : evFn Try.prog (spOf l53) cellaretlaw12_comes.cuts Try.f37 [x0, x1, x2] H K = cellaretlaw12_comes.w x0 x1 x2 H K := by kernel_rfl
theorem cellaretlaw12_comes.fn : FnOk Try.prog 37 S_cellaretlaw12_comes := fn_ok3E ok53 mixed (T := cellaretlaw12_comes.cuts) Try.func37 (Abs.enters_of Try.func37 (by kernel_rfl) (by kernel_rfl)) cellaretlaw12_comes.ok cellaretlaw12_comes.eq
def l54 : List (Nat × Bool × Abs.Spec) := (37, false, S_cellaretlaw12_comes) :: l53
theorem ok54 : SpecsOk Try.prog (spOf l54) := SpecsOk.cons ok53 cellaretlaw12_comes.fn (fun h => by cases h)
def cellaretlaw12_do.cuts : Cuts := fun k => match k with | 1000002 => some ⟨[], [13], [.normal]⟩ | 1000008 => some ⟨[], [6], [.normal, .ret]⟩ | 1000011 => some ⟨[], [], [.normal]⟩ | 1000014 => some ⟨[], [52], [.normal]⟩ | 1000020 => some ⟨[], [], [.normal]⟩ | 1000023 => some ⟨[], [88], [.normal]⟩ | _ => none
theorem cellaretlaw12_do.eq (x0 x1 x2 : AVal) (H : AHeap) (K : AVal → AHeap → Prop) : evFn Try.prog (spOf l54) cellaretlaw12_do.cuts Try.f12 [x0, x1, x2] H K = cellaretlaw12_do.w x0 x1 x2 H K := by kernel_rfl
theorem cellaretlaw12_do.fn : FnOk Try.prog 12 S_cellaretlaw12_do := fn_ok3E ok54 mixed (T := cellaretlaw12_do.cuts) Try.func12 (Abs.enters_of Try.func12 (by kernel_rfl) (by kernel_rfl)) cellaretlaw12_do.ok cellaretlaw12_do.eq
def l55 : List (Nat × Bool × Abs.Spec) := (12, false, S_cellaretlaw12_do) :: l54
theorem ok55 : SpecsOk Try.prog (spOf l55) := SpecsOk.cons ok54 cellaretlaw12_do.fn (fun h => by cases h)
def cellaretlaw12_RigNone.cuts : Cuts := fun k => match k with | _ => none
theorem cellaretlaw12_RigNone.eq (x0 : AVal) (H : AHeap) (K : AVal → AHeap → Prop) : evFn Try.prog (spOf l55) cellaretlaw12_RigNone.cuts Try.f4 [x0] H K = cellaretlaw12_RigNone.w x0 H K := by kernel_rfl
theorem cellaretlaw12_RigNone.fn : FnOk Try.prog 4 S_cellaretlaw12_RigNone := fn_ok1 ok55 mixed (T := cellaretlaw12_RigNone.cuts) Try.func4 (Abs.enters_of Try.func4 (by kernel_rfl) (by kernel_rfl)) cellaretlaw12_RigNone.ok cellaretlaw12_RigNone.eq
def l56 : List (Nat × Bool × Abs.Spec) := (4, false, S_cellaretlaw12_RigNone) :: l55
theorem ok56 : SpecsOk Try.prog (spOf l56) := SpecsOk.cons ok55 cellaretlaw12_RigNone.fn (fun h => by cases h)
def cellaretlaw12_RigWhole.cuts : Cuts := fun k => match k with | 1000002 => some ⟨[], [2], [.normal, .ret]⟩ | 7 => some ⟨[4, 6], [2, 4], [(.exit 0), .ret]⟩ | 1000007 => some ⟨[], [], [(.exit 0), .normal]⟩ | 1000010 => some ⟨[], [4], [.normal]⟩ | _ => none
theorem cellaretlaw12_RigWhole.eq (x0 : AVal) (H : AHeap) (K : AVal → AHeap → Prop) : evFn Try.prog (spOf l56) cellaretlaw12_RigWhole.cuts Try.f3 [x0] H K = cellaretlaw12_RigWhole.w x0 H K := by kernel_rfl
theorem cellaretlaw12_RigWhole.fn : FnOk Try.prog 3 S_cellaretlaw12_RigWhole := fn_ok1 ok56 mixed (T := cellaretlaw12_RigWhole.cuts) Try.func3 (Abs.enters_of Try.func3 (by kernel_rfl) (by kernel_rfl)) cellaretlaw12_RigWhole.ok cellaretlaw12_RigWhole.eq
def l57 : List (Nat × Bool × Abs.Spec) := (3, false, S_cellaretlaw12_RigWhole) :: l56
theorem ok57 : SpecsOk Try.prog (spOf l57) := SpecsOk.cons ok56 cellaretlaw12_RigWhole.fn (fun h => by cases h)
end Go.Proofs.Ytmmjdmfodeickaa.own
