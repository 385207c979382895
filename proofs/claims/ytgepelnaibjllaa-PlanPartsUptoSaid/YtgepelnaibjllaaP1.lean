/- A text of this proof. -/
import Derived.Test.YtgepelnaibjllaaRows
import Derived.KernelRfl
import Derived.Test.YtgepelnaibjllaaPlan
import Derived.Test.YtgepelnaibjllaaS32

/- The functions of this seat come to what is told of them: each one's code is what its printed text says (checked by the kernel), and the text is proved. Conditions: none. -/
namespace Go.Proofs.Ytgepelnaibjllaa.own
open Go Go.Abs Go.Sh
theorem mixed : Try.prog.follows .mixedOrders = true := by kernel_rfl
theorem bulk_mem {H : Type} {d : DataW H} : ∀ {l : List (DataW H)}, d ∈ l → Rows.uptoBulk d ≤ Rows.uptoBulkAll l
  | x :: l, h => by
    simp only [Rows.uptoBulkAll]
    rcases List.mem_cons.1 h with rfl | h
    · omega
    · have := bulk_mem h; omega
  | [], h => (by cases h)
theorem bulk_str {H : Type} {s : List UInt8} {elems spare ds : List (DataW H)} (hk : Rows.uptoSmall H ds = true) (h : DataW.slice elems spare ∈ ds) (k : DataW.lit (.string s) ∈ elems) : s.length ≤ 1048576 := by
  have h1 := bulk_mem h
  have h2 := bulk_mem k
  have h3 := of_decide_eq_true hk
  simp only [Rows.uptoBulk] at h1 h2
  omega
def l0 : List (Nat × Bool × Abs.Spec) := []
theorem ok0 : SpecsOk Try.prog (spOf l0) := SpecsOk.nil
theorem slices_SortFunc_api_Put_api_Put.fn : FnOk Try.prog 25 S_sortPuts26 := Try.sort_fn
def l1 : List (Nat × Bool × Abs.Spec) := (25, false, S_sortPuts26) :: l0
theorem ok1 : SpecsOk Try.prog (spOf l1) := SpecsOk.cons ok0 slices_SortFunc_api_Put_api_Put.fn (fun h => by cases h)
def cellaretref01_Zeros.cuts : Cuts := fun k => match k with | _ => none
theorem cellaretref01_Zeros.eq (x0 : AVal) (H : AHeap) (K : AVal → AHeap → Prop) : evFn Try.prog (spOf l1) cellaretref01_Zeros.cuts Try.f31 [x0] H K = cellaretref01_Zeros.w x0 H K := by kernel_rfl
theorem cellaretref01_Zeros.fn : FnOk Try.prog 31 S_cellaretref01_Zeros := fn_ok1 ok1 mixed (T := cellaretref01_Zeros.cuts) Try.func31 (Abs.enters_of Try.func31 (by kernel_rfl) (by kernel_rfl)) cellaretref01_Zeros.ok cellaretref01_Zeros.eq
def l2 : List (Nat × Bool × Abs.Spec) := (31, true, S_cellaretref01_Zeros) :: l1
theorem ok2 : SpecsOk Try.prog (spOf l2) := SpecsOk.cons ok1 cellaretref01_Zeros.fn (fun _ _ _ _ _ h => cellaretref01_Zeros.quiet h)
def cellaretref01_Full.cuts : Cuts := fun k => match k with | _ => none
theorem cellaretref01_Full.eq (x0 x1 : AVal) (H : AHeap) (K : AVal → AHeap → Prop) : evFn Try.prog (spOf l2) cellaretref01_Full.cuts Try.f23 [x0, x1] H K = cellaretref01_Full.w x0 x1 H K := by kernel_rfl
theorem cellaretref01_Full.fn : FnOk Try.prog 23 S_cellaretref01_Full := fn_ok2 ok2 mixed (T := cellaretref01_Full.cuts) Try.func23 (Abs.enters_of Try.func23 (by kernel_rfl) (by kernel_rfl)) cellaretref01_Full.ok cellaretref01_Full.eq
def l3 : List (Nat × Bool × Abs.Spec) := (23, true, S_cellaretref01_Full) :: l2
theorem ok3 : SpecsOk Try.prog (spOf l3) := SpecsOk.cons ok2 cellaretref01_Full.fn (fun _ _ _ _ _ h => cellaretref01_Full.quiet h)
def cellaretref01_Ints.cuts : Cuts := fun k => match k with | 4 => some ⟨[5], [4], [(.exit 0), .ret]⟩ | _ => none
theorem cellaretref01_Ints.eq (x0 x1 : AVal) (H : AHeap) (K : AVal → AHeap → Prop) : evFn Try.prog (spOf l3) cellaretref01_Ints.cuts Try.f22 [x0, x1] H K = cellaretref01_Ints.w x0 x1 H K := by kernel_rfl
theorem cellaretref01_Ints.fn : FnOk Try.prog 22 S_cellaretref01_Ints := fn_ok2 ok3 mixed (T := cellaretref01_Ints.cuts) Try.func22 (Abs.enters_of Try.func22 (by kernel_rfl) (by kernel_rfl)) cellaretref01_Ints.ok cellaretref01_Ints.eq
def l4 : List (Nat × Bool × Abs.Spec) := (22, true, S_cellaretref01_Ints) :: l3
theorem ok4 : SpecsOk Try.prog (spOf l4) := SpecsOk.cons ok3 cellaretref01_Ints.fn (fun _ _ _ _ _ h => cellaretref01_Ints.quiet h)
def cellaretref16_Drop.cuts : Cuts := fun k => match k with | 3 => some ⟨[5, 6], [5], [(.exit 0)]⟩ | _ => none
theorem cellaretref16_Drop.eq (x0 x1 : AVal) (H : AHeap) (K : AVal → AHeap → Prop) : evFn Try.prog (spOf l4) cellaretref16_Drop.cuts Try.f32 [x0, x1] H K = cellaretref16_Drop.w x0 x1 H K := by kernel_rfl
theorem cellaretref16_Drop.fn : FnOk Try.prog 32 S_cellaretref16_Drop := fn_ok2E ok4 mixed (T := cellaretref16_Drop.cuts) Try.func32 (Abs.enters_of Try.func32 (by kernel_rfl) (by kernel_rfl)) cellaretref16_Drop.ok cellaretref16_Drop.eq
def l5 : List (Nat × Bool × Abs.Spec) := (32, true, S_cellaretref16_Drop) :: l4
theorem ok5 : SpecsOk Try.prog (spOf l5) := SpecsOk.cons ok4 cellaretref16_Drop.fn (fun _ _ _ _ _ h => cellaretref16_Drop.quiet h)
def cellaretref16_Set.cuts : Cuts := fun k => match k with | 3 => some ⟨[5], [5], [(.exit 0)]⟩ | 1000003 => some ⟨[], [], [(.exit 0), .normal]⟩ | _ => none
theorem cellaretref16_Set.eq (x0 x1 : AVal) (H : AHeap) (K : AVal → AHeap → Prop) : evFn Try.prog (spOf l5) cellaretref16_Set.cuts Try.f24 [x0, x1] H K = cellaretref16_Set.w x0 x1 H K := by kernel_rfl
theorem cellaretref16_Set.fn : FnOk Try.prog 24 S_cellaretref16_Set := fn_ok2E ok5 mixed (T := cellaretref16_Set.cuts) Try.func24 (Abs.enters_of Try.func24 (by kernel_rfl) (by kernel_rfl)) cellaretref16_Set.ok cellaretref16_Set.eq
def l6 : List (Nat × Bool × Abs.Spec) := (24, true, S_cellaretref16_Set) :: l5
theorem ok6 : SpecsOk Try.prog (spOf l6) := SpecsOk.cons ok5 cellaretref16_Set.fn (fun _ _ _ _ _ h => cellaretref16_Set.quiet h)
def cellaretref16_Same.cuts : Cuts := fun k => match k with | 4 => some ⟨[5], [4], [(.exit 0), .ret]⟩ | _ => none
theorem cellaretref16_Same.eq (x0 x1 : AVal) (H : AHeap) (K : AVal → AHeap → Prop) : evFn Try.prog (spOf l6) cellaretref16_Same.cuts Try.f11 [x0, x1] H K = cellaretref16_Same.w x0 x1 H K := by kernel_rfl
theorem cellaretref16_Same.fn : FnOk Try.prog 11 S_cellaretref16_Same := fn_ok2E ok6 mixed (T := cellaretref16_Same.cuts) Try.func11 (Abs.enters_of Try.func11 (by kernel_rfl) (by kernel_rfl)) cellaretref16_Same.ok cellaretref16_Same.eq
def l7 : List (Nat × Bool × Abs.Spec) := (11, true, S_cellaretref16_Same) :: l6
theorem ok7 : SpecsOk Try.prog (spOf l7) := SpecsOk.cons ok6 cellaretref16_Same.fn (fun _ _ _ _ _ h => cellaretref16_Same.quiet h)
def record_Check.cuts : Cuts := fun k => match k with | 1000003 => some ⟨[], [2], [.normal, .ret]⟩ | 7 => some ⟨[3, 21], [2], [(.exit 0), .ret]⟩ | 1000009 => some ⟨[], [2], [.normal, .ret]⟩ | _ => none
theorem record_Check.eq (x0 : AVal) (H : AHeap) (K : AVal → AHeap → Prop) : evFn Try.prog (spOf l7) record_Check.cuts Try.f28 [x0] H K = record_Check.w x0 H K := by kernel_rfl
theorem record_Check.fn : FnOk Try.prog 28 S_record_Check := fn_ok1E ok7 mixed (T := record_Check.cuts) Try.func28 (Abs.enters_of Try.func28 (by kernel_rfl) (by kernel_rfl)) record_Check.ok record_Check.eq
def l8 : List (Nat × Bool × Abs.Spec) := (28, true, S_record_Check) :: l7
theorem ok8 : SpecsOk Try.prog (spOf l8) := SpecsOk.cons ok7 record_Check.fn (fun _ _ _ _ _ h => record_Check.quiet h)
def cellaretref13_Right.cuts : Cuts := fun k => match k with | 1000001 => some ⟨[], [2], [.normal, .ret]⟩ | 4 => some ⟨[3], [2], [(.exit 0), .ret]⟩ | _ => none
theorem cellaretref13_Right.eq (x0 : AVal) (H : AHeap) (K : AVal → AHeap → Prop) : evFn Try.prog (spOf l8) cellaretref13_Right.cuts Try.f15 [x0] H K = cellaretref13_Right.w x0 H K := by kernel_rfl
theorem cellaretref13_Right.fn : FnOk Try.prog 15 S_cellaretref13_Right := fn_ok1E ok8 mixed (T := cellaretref13_Right.cuts) Try.func15 (Abs.enters_of Try.func15 (by kernel_rfl) (by kernel_rfl)) cellaretref13_Right.ok cellaretref13_Right.eq
def l9 : List (Nat × Bool × Abs.Spec) := (15, true, S_cellaretref13_Right) :: l8
theorem ok9 : SpecsOk Try.prog (spOf l9) := SpecsOk.cons ok8 cellaretref13_Right.fn (fun _ _ _ _ _ h => cellaretref13_Right.quiet h)
def plan_Behind.cuts : Cuts := fun k => match k with | 3 => some ⟨[18], [], [(.exit 0)]⟩ | 6 => some ⟨[24], [], [(.exit 2)]⟩ | 14 => some ⟨[10], [10], [(.exit 4)]⟩ | _ => none
theorem plan_Behind.eq (x0 x1 : AVal) (H : AHeap) (K : AVal → AHeap → Prop) : evFn Try.prog (spOf l9) plan_Behind.cuts Try.f12 [x0, x1] H K = plan_Behind.w x0 x1 H K := by kernel_rfl
theorem plan_Behind.fn : FnOk Try.prog 12 S_plan_Behind := fn_ok2 ok9 mixed (T := plan_Behind.cuts) Try.func12 (Abs.enters_of Try.func12 (by kernel_rfl) (by kernel_rfl)) plan_Behind.ok plan_Behind.eq
def l10 : List (Nat × Bool × Abs.Spec) := (12, true, S_plan_Behind) :: l9
theorem ok10 : SpecsOk Try.prog (spOf l10) := SpecsOk.cons ok9 plan_Behind.fn (fun _ _ _ _ _ h => plan_Behind.quiet h)
def plan_right.cuts : Cuts := fun k => match k with | 4 => some ⟨[12], [4], [(.exit 0), .ret]⟩ | _ => none
theorem plan_right.eq (x0 x1 : AVal) (H : AHeap) (K : AVal → AHeap → Prop) : evFn Try.prog (spOf l10) plan_right.cuts Try.f29 [x0, x1] H K = plan_right.w x0 x1 H K := by kernel_rfl
theorem plan_right.fn : FnOk Try.prog 29 S_plan_right := fn_ok2E ok10 mixed (T := plan_right.cuts) Try.func29 (Abs.enters_of Try.func29 (by kernel_rfl) (by kernel_rfl)) plan_right.ok plan_right.eq
def l11 : List (Nat × Bool × Abs.Spec) := (29, true, S_plan_right) :: l10
theorem ok11 : SpecsOk Try.prog (spOf l11) := SpecsOk.cons ok10 plan_right.fn (fun _ _ _ _ _ h => plan_right.quiet h)
def plan_Apply_1.cuts : Cuts := fun k => match k with | _ => none
theorem plan_Apply_1.eq (x0 x1 : AVal) (H : AHeap) (K : AVal → AHeap → Prop) : evFn Try.prog (spOf l11) plan_Apply_1.cuts Try.f30 [x0, x1] H K = plan_Apply_1.w x0 x1 H K := by kernel_rfl
theorem plan_Apply_1.fn : FnOk Try.prog 30 S_plan_Apply_1 := fn_ok2E ok11 mixed (T := plan_Apply_1.cuts) Try.func30 (Abs.enters_of Try.func30 (by kernel_rfl) (by kernel_rfl)) plan_Apply_1.ok plan_Apply_1.eq
def l12 : List (Nat × Bool × Abs.Spec) := (30, false, S_plan_Apply_1) :: l11
theorem ok12 : SpecsOk Try.prog (spOf l12) := SpecsOk.cons ok11 plan_Apply_1.fn (fun h => by cases h)
def plan_Apply.cuts : Cuts := fun k => match k with | 7 => some ⟨[22], [], [(.exit 0)]⟩ | _ => none
theorem plan_Apply.eq (x0 x1 : AVal) (H : AHeap) (K : AVal → AHeap → Prop) : evFn Try.prog (spOf l12) plan_Apply.cuts Try.f18 [x0, x1] H K = plan_Apply.w x0 x1 H K := by kernel_rfl
theorem plan_Apply.fn : FnOk Try.prog 18 S_plan_Apply := fn_ok2E ok12 mixed (T := plan_Apply.cuts) Try.func18 (Abs.enters_of Try.func18 (by kernel_rfl) (by kernel_rfl)) plan_Apply.ok plan_Apply.eq
def l13 : List (Nat × Bool × Abs.Spec) := (18, true, S_plan_Apply) :: l12
theorem ok13 : SpecsOk Try.prog (spOf l13) := SpecsOk.cons ok12 plan_Apply.fn (fun _ _ _ _ _ h => plan_Apply.quiet h)
def plan_Missing.cuts : Cuts := fun k => match k with | 6 => some ⟨[7, 18], [7], [(.exit 0)]⟩ | _ => none
theorem plan_Missing.eq (x0 x1 : AVal) (H : AHeap) (K : AVal → AHeap → Prop) : evFn Try.prog (spOf l13) plan_Missing.cuts Try.f19 [x0, x1] H K = plan_Missing.w x0 x1 H K := by kernel_rfl
theorem plan_Missing.fn : FnOk Try.prog 19 S_plan_Missing := fn_ok2E ok13 mixed (T := plan_Missing.cuts) Try.func19 (Abs.enters_of Try.func19 (by kernel_rfl) (by kernel_rfl)) plan_Missing.ok plan_Missing.eq
def l14 : List (Nat × Bool × Abs.Spec) := (19, true, S_plan_Missing) :: l13
theorem ok14 : SpecsOk Try.prog (spOf l14) := SpecsOk.cons ok13 plan_Missing.fn (fun _ _ _ _ _ h => plan_Missing.quiet h)
def plan_Of.cuts : Cuts := fun k => match k with | 2 => some ⟨[12], [2, 3], [(.exit 0), .ret]⟩ | 10 => some ⟨[7, 24], [7], [(.exit 2)]⟩ | _ => none
theorem plan_Of.eq (x0 : AVal) (H : AHeap) (K : AVal → AHeap → Prop) : evFn Try.prog (spOf l14) plan_Of.cuts Try.f13 [x0] H K = plan_Of.w x0 H K := by kernel_rfl
theorem plan_Of.fn : FnOk Try.prog 13 S_plan_Of := fn_ok1E ok14 mixed (T := plan_Of.cuts) Try.func13 (Abs.enters_of Try.func13 (by kernel_rfl) (by kernel_rfl)) plan_Of.ok plan_Of.eq
def l15 : List (Nat × Bool × Abs.Spec) := (13, true, S_plan_Of) :: l14
theorem ok15 : SpecsOk Try.prog (spOf l15) := SpecsOk.cons ok14 plan_Of.fn (fun _ _ _ _ _ h => plan_Of.quiet h)
def plan_Root.cuts : Cuts := fun k => match k with | _ => none
theorem plan_Root.eq (x0 : AVal) (H : AHeap) (K : AVal → AHeap → Prop) : evFn Try.prog (spOf l15) plan_Root.cuts Try.f14 [x0] H K = plan_Root.w x0 H K := by kernel_rfl
theorem plan_Root.fn : FnOk Try.prog 14 S_plan_Root := fn_ok1E ok15 mixed (T := plan_Root.cuts) Try.func14 (Abs.enters_of Try.func14 (by kernel_rfl) (by kernel_rfl)) plan_Root.ok plan_Root.eq
def l16 : List (Nat × Bool × Abs.Spec) := (14, true, S_plan_Root) :: l15
theorem ok16 : SpecsOk Try.prog (spOf l16) := SpecsOk.cons ok15 plan_Root.fn (fun _ _ _ _ _ h => plan_Root.quiet h)
def cellaretlaw32_light.cuts : Cuts := fun k => match k with | 2 => some ⟨[3], [2], [(.exit 0), .ret]⟩ | 1000002 => some ⟨[], [], [(.exit 0), .normal]⟩ | _ => none
theorem cellaretlaw32_light.eq (x0 : AVal) (H : AHeap) (K : AVal → AHeap → Prop) : evFn Try.prog (spOf l16) cellaretlaw32_light.cuts Try.f8 [x0] H K = cellaretlaw32_light.w x0 H K := by kernel_rfl
theorem cellaretlaw32_light.fn : FnOk Try.prog 8 S_cellaretlaw32_light := fn_ok1E ok16 mixed (T := cellaretlaw32_light.cuts) Try.func8 (Abs.enters_of Try.func8 (by kernel_rfl) (by kernel_rfl)) cellaretlaw32_light.ok cellaretlaw32_light.eq
def l17 : List (Nat × Bool × Abs.Spec) := (8, true, S_cellaretlaw32_light) :: l16
theorem ok17 : SpecsOk Try.prog (spOf l17) := SpecsOk.cons ok16 cellaretlaw32_light.fn (fun _ _ _ _ _ h => cellaretlaw32_light.quiet h)
def cellaretlaw32_few.cuts : Cuts := fun k => match k with | 2 => some ⟨[3], [2], [(.exit 0), .ret]⟩ | 1000002 => some ⟨[], [], [(.exit 0), .normal]⟩ | _ => none
theorem cellaretlaw32_few.eq (x0 : AVal) (H : AHeap) (K : AVal → AHeap → Prop) : evFn Try.prog (spOf l17) cellaretlaw32_few.cuts Try.f7 [x0] H K = cellaretlaw32_few.w x0 H K := by kernel_rfl
theorem cellaretlaw32_few.fn : FnOk Try.prog 7 S_cellaretlaw32_few := fn_ok1E ok17 mixed (T := cellaretlaw32_few.cuts) Try.func7 (Abs.enters_of Try.func7 (by kernel_rfl) (by kernel_rfl)) cellaretlaw32_few.ok cellaretlaw32_few.eq
def l18 : List (Nat × Bool × Abs.Spec) := (7, true, S_cellaretlaw32_few) :: l17
theorem ok18 : SpecsOk Try.prog (spOf l18) := SpecsOk.cons ok17 cellaretlaw32_few.fn (fun _ _ _ _ _ h => cellaretlaw32_few.quiet h)
def cellaretlaw32_image.cuts : Cuts := fun k => match k with | 1000001 => some ⟨[], [0], [.normal]⟩ | _ => none
theorem cellaretlaw32_image.eq (x0 x1 : AVal) (H : AHeap) (K : AVal → AHeap → Prop) : evFn Try.prog (spOf l18) cellaretlaw32_image.cuts Try.f17 [x0, x1] H K = cellaretlaw32_image.w x0 x1 H K := by kernel_rfl
theorem cellaretlaw32_image.fn : FnOk Try.prog 17 S_cellaretlaw32_image := fn_ok2E ok18 mixed (T := cellaretlaw32_image.cuts) Try.func17 (Abs.enters_of Try.func17 (by kernel_rfl) (by kernel_rfl)) cellaretlaw32_image.ok cellaretlaw32_image.eq
def l19 : List (Nat × Bool × Abs.Spec) := (17, true, S_cellaretlaw32_image) :: l18
theorem ok19 : SpecsOk Try.prog (spOf l19) := SpecsOk.cons ok18 cellaretlaw32_image.fn (fun _ _ _ _ _ h => cellaretlaw32_image.quiet h)
def cellaretref32_Right.cuts : Cuts := fun k => match k with | 4 => some ⟨[5], [4], [(.exit 0), .ret]⟩ | 1000006 => some ⟨[], [4], [.normal, .ret]⟩ | _ => none
theorem cellaretref32_Right.eq (x0 x1 : AVal) (H : AHeap) (K : AVal → AHeap → Prop) : evFn Try.prog (spOf l19) cellaretref32_Right.cuts Try.f20 [x0, x1] H K = cellaretref32_Right.w x0 x1 H K := by kernel_rfl
theorem cellaretref32_Right.fn : FnOk Try.prog 20 S_cellaretref32_Right := fn_ok2E ok19 mixed (T := cellaretref32_Right.cuts) Try.func20 (Abs.enters_of Try.func20 (by kernel_rfl) (by kernel_rfl)) cellaretref32_Right.ok cellaretref32_Right.eq
def l20 : List (Nat × Bool × Abs.Spec) := (20, true, S_cellaretref32_Right) :: l19
theorem ok20 : SpecsOk Try.prog (spOf l20) := SpecsOk.cons ok19 cellaretref32_Right.fn (fun _ _ _ _ _ h => cellaretref32_Right.quiet h)
def cellaretref32_Apply.cuts : Cuts := fun k => match k with | 2 => some ⟨[0, 5], [0], [(.exit 0)]⟩ | _ => none
theorem cellaretref32_Apply.eq (x0 x1 : AVal) (H : AHeap) (K : AVal → AHeap → Prop) : evFn Try.prog (spOf l20) cellaretref32_Apply.cuts Try.f21 [x0, x1] H K = cellaretref32_Apply.w x0 x1 H K := by kernel_rfl
theorem cellaretref32_Apply.fn : FnOk Try.prog 21 S_cellaretref32_Apply := fn_ok2E ok20 mixed (T := cellaretref32_Apply.cuts) Try.func21 (Abs.enters_of Try.func21 (by kernel_rfl) (by kernel_rfl)) cellaretref32_Apply.ok cellaretref32_Apply.eq
def l21 : List (Nat × Bool × Abs.Spec) := (21, true, S_cellaretref32_Apply) :: l20
theorem ok21 : SpecsOk Try.prog (spOf l21) := SpecsOk.cons ok20 cellaretref32_Apply.fn (fun _ _ _ _ _ h => cellaretref32_Apply.quiet h)
def cellaretref32_All.cuts : Cuts := fun k => match k with | 3 => some ⟨[3, 4], [3], [(.exit 0)]⟩ | _ => none
theorem cellaretref32_All.eq (x0 : AVal) (H : AHeap) (K : AVal → AHeap → Prop) : evFn Try.prog (spOf l21) cellaretref32_All.cuts Try.f16 [x0] H K = cellaretref32_All.w x0 H K := by kernel_rfl
theorem cellaretref32_All.fn : FnOk Try.prog 16 S_cellaretref32_All := fn_ok1E ok21 mixed (T := cellaretref32_All.cuts) Try.func16 (Abs.enters_of Try.func16 (by kernel_rfl) (by kernel_rfl)) cellaretref32_All.ok cellaretref32_All.eq
def l22 : List (Nat × Bool × Abs.Spec) := (16, true, S_cellaretref32_All) :: l21
theorem ok22 : SpecsOk Try.prog (spOf l22) := SpecsOk.cons ok21 cellaretref32_All.fn (fun _ _ _ _ _ h => cellaretref32_All.quiet h)
def cellaretref32_Of.cuts : Cuts := fun k => match k with | 3 => some ⟨[3, 4], [3], [(.exit 0)]⟩ | _ => none
theorem cellaretref32_Of.eq (x0 : AVal) (H : AHeap) (K : AVal → AHeap → Prop) : evFn Try.prog (spOf l22) cellaretref32_Of.cuts Try.f10 [x0] H K = cellaretref32_Of.w x0 H K := by kernel_rfl
theorem cellaretref32_Of.fn : FnOk Try.prog 10 S_cellaretref32_Of := fn_ok1E ok22 mixed (T := cellaretref32_Of.cuts) Try.func10 (Abs.enters_of Try.func10 (by kernel_rfl) (by kernel_rfl)) cellaretref32_Of.ok cellaretref32_Of.eq
def l23 : List (Nat × Bool × Abs.Spec) := (10, true, S_cellaretref32_Of) :: l22
theorem ok23 : SpecsOk Try.prog (spOf l23) := SpecsOk.cons ok22 cellaretref32_Of.fn (fun _ _ _ _ _ h => cellaretref32_Of.quiet h)
def cellaretlaw32_awake.cuts : Cuts := fun k => match k with | _ => none
theorem cellaretlaw32_awake.eq (H : AHeap) (K : AVal → AHeap → Prop) : evFn Try.prog (spOf l23) cellaretlaw32_awake.cuts Try.f9 [] H K = cellaretlaw32_awake.w H K := by kernel_rfl
theorem cellaretlaw32_awake.fn : FnOk Try.prog 9 S_cellaretlaw32_awake := fn_ok0E ok23 mixed (T := cellaretlaw32_awake.cuts) Try.func9 (Abs.enters_of Try.func9 (by kernel_rfl) (by kernel_rfl)) cellaretlaw32_awake.ok cellaretlaw32_awake.eq
def l24 : List (Nat × Bool × Abs.Spec) := (9, true, S_cellaretlaw32_awake) :: l23
theorem ok24 : SpecsOk Try.prog (spOf l24) := SpecsOk.cons ok23 cellaretlaw32_awake.fn (fun _ _ _ _ _ h => cellaretlaw32_awake.quiet h)
def cellaretlaw32_PlanOf.cuts : Cuts := fun k => match k with | 1000005 => some ⟨[], [2], [.normal, .ret]⟩ | 8 => some ⟨[7], [2], [(.exit 0), .ret]⟩ | 1000011 => some ⟨[], [8], [.normal]⟩ | _ => none
theorem cellaretlaw32_PlanOf.eq (x0 : AVal) (H : AHeap) (K : AVal → AHeap → Prop) : evFn Try.prog (spOf l24) cellaretlaw32_PlanOf.cuts Try.f4 [x0] H K = cellaretlaw32_PlanOf.w x0 H K := by kernel_rfl
theorem cellaretlaw32_PlanOf.fn : FnOk Try.prog 4 S_cellaretlaw32_PlanOf := fn_ok1E ok24 mixed (T := cellaretlaw32_PlanOf.cuts) Try.func4 (Abs.enters_of Try.func4 (by kernel_rfl) (by kernel_rfl)) cellaretlaw32_PlanOf.ok cellaretlaw32_PlanOf.eq
def l25 : List (Nat × Bool × Abs.Spec) := (4, false, S_cellaretlaw32_PlanOf) :: l24
theorem ok25 : SpecsOk Try.prog (spOf l25) := SpecsOk.cons ok24 cellaretlaw32_PlanOf.fn (fun h => by cases h)
def cellaretlaw32_PlanApplies.cuts : Cuts := fun k => match k with | 11 => some ⟨[13, 14], [13], [(.exit 0)]⟩ | _ => none
theorem cellaretlaw32_PlanApplies.eq (x0 x1 x2 : AVal) (H : AHeap) (K : AVal → AHeap → Prop) : evFn Try.prog (spOf l25) cellaretlaw32_PlanApplies.cuts Try.f5 [x0, x1, x2] H K = cellaretlaw32_PlanApplies.w x0 x1 x2 H K := by kernel_rfl
theorem cellaretlaw32_PlanApplies.fn : FnOk Try.prog 5 S_cellaretlaw32_PlanApplies := fn_ok3E ok25 mixed (T := cellaretlaw32_PlanApplies.cuts) Try.func5 (Abs.enters_of Try.func5 (by kernel_rfl) (by kernel_rfl)) cellaretlaw32_PlanApplies.ok cellaretlaw32_PlanApplies.eq
def l26 : List (Nat × Bool × Abs.Spec) := (5, false, S_cellaretlaw32_PlanApplies) :: l25
theorem ok26 : SpecsOk Try.prog (spOf l26) := SpecsOk.cons ok25 cellaretlaw32_PlanApplies.fn (fun h => by cases h)
def cellaretlaw32_PlanAlike.cuts : Cuts := fun k => match k with | 1000008 => some ⟨[], [6], [.normal, .ret]⟩ | 14 => some ⟨[16, 17], [16], [(.exit 0)]⟩ | 1000014 => some ⟨[], [], [(.exit 0), .normal]⟩ | _ => none
theorem cellaretlaw32_PlanAlike.eq (x0 x1 x2 : AVal) (H : AHeap) (K : AVal → AHeap → Prop) : evFn Try.prog (spOf l26) cellaretlaw32_PlanAlike.cuts Try.f6 [x0, x1, x2] H K = cellaretlaw32_PlanAlike.w x0 x1 x2 H K := by kernel_rfl
theorem cellaretlaw32_PlanAlike.fn : FnOk Try.prog 6 S_cellaretlaw32_PlanAlike := fn_ok3E ok26 mixed (T := cellaretlaw32_PlanAlike.cuts) Try.func6 (Abs.enters_of Try.func6 (by kernel_rfl) (by kernel_rfl)) cellaretlaw32_PlanAlike.ok cellaretlaw32_PlanAlike.eq
def l27 : List (Nat × Bool × Abs.Spec) := (6, false, S_cellaretlaw32_PlanAlike) :: l26
theorem ok27 : SpecsOk Try.prog (spOf l27) := SpecsOk.cons ok26 cellaretlaw32_PlanAlike.fn (fun h => by cases h)
def cellaretlaw32_PlanParts.cuts : Cuts := fun k => match k with | 1000002 => some ⟨[], [2], [.normal, .ret]⟩ | _ => none
theorem cellaretlaw32_PlanParts.eq (x0 : AVal) (H : AHeap) (K : AVal → AHeap → Prop) : evFn Try.prog (spOf l27) cellaretlaw32_PlanParts.cuts Try.f3 [x0] H K = cellaretlaw32_PlanParts.w x0 H K := by kernel_rfl
theorem cellaretlaw32_PlanParts.fn : FnOk Try.prog 3 S_cellaretlaw32_PlanParts := fn_ok1E ok27 mixed (T := cellaretlaw32_PlanParts.cuts) Try.func3 (Abs.enters_of Try.func3 (by kernel_rfl) (by kernel_rfl)) cellaretlaw32_PlanParts.ok cellaretlaw32_PlanParts.eq
def l28 : List (Nat × Bool × Abs.Spec) := (3, false, S_cellaretlaw32_PlanParts) :: l27
theorem ok28 : SpecsOk Try.prog (spOf l28) := SpecsOk.cons ok27 cellaretlaw32_PlanParts.fn (fun h => by cases h)
end Go.Proofs.Ytgepelnaibjllaa.own
