/- A text of this proof. -/
import Derived.Test.YtdpmildhhcdohaaRows
import Derived.KernelRfl
import Derived.Test.YtdpmildhhcdohaaOver
import Derived.Test.YtdpmildhhcdohaaAbsE
import Derived.Test.YtdpmildhhcdohaaAbsF
import Derived.Test.YtdpmildhhcdohaaS16

/- The functions of this seat come to what is told of them: each one's code is what its printed text says (checked by the kernel), and the text is proved. Conditions: none. -/
namespace Go.Proofs.Ytdpmildhhcdohaa.own
open Go Go.Abs Go.Sh
theorem mixed : Try.prog.follows .mixedOrders = true := by kernel_rfl
theorem bulk_mem {H : Type} {d : DataW H} : ∀ {l : List (DataW H)}, d ∈ l → Rows.uptoBulk d ≤ Rows.uptoBulkAll l
  | x :: l, h => by
    simp only [Rows.uptoBulkAll]
    rcases List.mem_cons.1 h with rfl | h
    · omega
    · have := bulk_mem h; omega
  | [], h => (by cases h)
theorem bulk_str {H : Type} {s : List UInt8} {elems spare ds : List (DataW H)} (hk : Rows.uptoSmall H ds = true) (h : DataW.slice elems spare ∈ ds) (k : DataW.lit (.string s) ∈ elems) : s.length ≤ 1048576 := by
  have h1 := bulk_mem h
  have h2 := bulk_mem k
  have h3 := of_decide_eq_true hk
  simp only [Rows.uptoBulk] at h1 h2
  omega
def l0 : List (Nat × Bool × Abs.Spec) := []
theorem ok0 : SpecsOk Try.prog (spOf l0) := SpecsOk.nil
theorem slices_SortFunc_api_Put_api_Put.fn : FnOk Try.prog 22 S_slices_SortFunc_api_Put_api_Put := Try.sort_fn
def l1 : List (Nat × Bool × Abs.Spec) := (22, false, S_slices_SortFunc_api_Put_api_Put) :: l0
theorem ok1 : SpecsOk Try.prog (spOf l1) := SpecsOk.cons ok0 slices_SortFunc_api_Put_api_Put.fn (fun h => by cases h)
def over_New.cuts : Cuts := fun k => match k with | _ => none
theorem over_New.eq (H : AHeap) (K : AVal → AHeap → Prop) : evFn Try.prog (spOf l1) over_New.cuts Try.f7 [] H K = over_New.w H K := by kernel_rfl
theorem over_New.fn : FnOk Try.prog 7 S_over_New := fn_ok0E ok1 mixed (T := over_New.cuts) Try.func7 (Abs.enters_of Try.func7 (by kernel_rfl) (by kernel_rfl)) over_New.ok over_New.eq
def l2 : List (Nat × Bool × Abs.Spec) := (7, true, S_over_New) :: l1
theorem ok2 : SpecsOk Try.prog (spOf l2) := SpecsOk.cons ok1 over_New.fn (fun _ _ _ _ _ h => over_New.quiet h)
def over_Sheet_Set.cuts : Cuts := fun k => match k with | 1000003 => some ⟨[], [], [.normal]⟩ | _ => none
theorem over_Sheet_Set.eq (x0 x1 x2 : AVal) (H : AHeap) (K : AVal → AHeap → Prop) : evFn Try.prog (spOf l2) over_Sheet_Set.cuts Try.f14 [x0, x1, x2] H K = over_Sheet_Set.w x0 x1 x2 H K := by kernel_rfl
theorem over_Sheet_Set.fn : FnOk Try.prog 14 S_over_Sheet_Set := fn_ok3E ok2 mixed (T := over_Sheet_Set.cuts) Try.func14 (Abs.enters_of Try.func14 (by kernel_rfl) (by kernel_rfl)) over_Sheet_Set.ok over_Sheet_Set.eq
def l3 : List (Nat × Bool × Abs.Spec) := (14, false, S_over_Sheet_Set) :: l2
theorem ok3 : SpecsOk Try.prog (spOf l3) := SpecsOk.cons ok2 over_Sheet_Set.fn (fun h => by cases h)
def over_Sheet_Get.cuts : Cuts := fun k => match k with | _ => none
theorem over_Sheet_Get.eq (x0 x1 : AVal) (H : AHeap) (K : AVal → AHeap → Prop) : evFn Try.prog (spOf l3) over_Sheet_Get.cuts Try.f18 [x0, x1] H K = over_Sheet_Get.w x0 x1 H K := by kernel_rfl
theorem over_Sheet_Get.fn : FnOk Try.prog 18 S_over_Sheet_Get := fn_ok2E ok3 mixed (T := over_Sheet_Get.cuts) Try.func18 (Abs.enters_of Try.func18 (by kernel_rfl) (by kernel_rfl)) over_Sheet_Get.ok over_Sheet_Get.eq
def l4 : List (Nat × Bool × Abs.Spec) := (18, true, S_over_Sheet_Get) :: l3
theorem ok4 : SpecsOk Try.prog (spOf l4) := SpecsOk.cons ok3 over_Sheet_Get.fn (fun _ _ _ _ _ h => over_Sheet_Get.quiet h)
def over_Sheet_Drop.cuts : Cuts := fun k => match k with | 1000002 => some ⟨[], [], [.normal]⟩ | _ => none
theorem over_Sheet_Drop.eq (x0 x1 : AVal) (H : AHeap) (K : AVal → AHeap → Prop) : evFn Try.prog (spOf l4) over_Sheet_Drop.cuts Try.f19 [x0, x1] H K = over_Sheet_Drop.w x0 x1 H K := by kernel_rfl
theorem over_Sheet_Drop.fn : FnOk Try.prog 19 S_over_Sheet_Drop := fn_ok2E ok4 mixed (T := over_Sheet_Drop.cuts) Try.func19 (Abs.enters_of Try.func19 (by kernel_rfl) (by kernel_rfl)) over_Sheet_Drop.ok over_Sheet_Drop.eq
def l5 : List (Nat × Bool × Abs.Spec) := (19, false, S_over_Sheet_Drop) :: l4
theorem ok5 : SpecsOk Try.prog (spOf l5) := SpecsOk.cons ok4 over_Sheet_Drop.fn (fun h => by cases h)
def over_Sheet_Len.cuts : Cuts := fun k => match k with | _ => none
theorem over_Sheet_Len.eq (x0 : AVal) (H : AHeap) (K : AVal → AHeap → Prop) : evFn Try.prog (spOf l5) over_Sheet_Len.cuts Try.f11 [x0] H K = over_Sheet_Len.w x0 H K := by kernel_rfl
theorem over_Sheet_Len.fn : FnOk Try.prog 11 S_over_Sheet_Len := fn_ok1E ok5 mixed (T := over_Sheet_Len.cuts) Try.func11 (Abs.enters_of Try.func11 (by kernel_rfl) (by kernel_rfl)) over_Sheet_Len.ok over_Sheet_Len.eq
def l6 : List (Nat × Bool × Abs.Spec) := (11, true, S_over_Sheet_Len) :: l5
theorem ok6 : SpecsOk Try.prog (spOf l6) := SpecsOk.cons ok5 over_Sheet_Len.fn (fun _ _ _ _ _ h => over_Sheet_Len.quiet h)
def over_Sheet_Clear.cuts : Cuts := fun k => match k with | _ => none
theorem over_Sheet_Clear.eq (x0 : AVal) (H : AHeap) (K : AVal → AHeap → Prop) : evFn Try.prog (spOf l6) over_Sheet_Clear.cuts Try.f17 [x0] H K = over_Sheet_Clear.w x0 H K := by kernel_rfl
theorem over_Sheet_Clear.fn : FnOk Try.prog 17 S_over_Sheet_Clear := fn_ok1E ok6 mixed (T := over_Sheet_Clear.cuts) Try.func17 (Abs.enters_of Try.func17 (by kernel_rfl) (by kernel_rfl)) over_Sheet_Clear.ok over_Sheet_Clear.eq
def l7 : List (Nat × Bool × Abs.Spec) := (17, false, S_over_Sheet_Clear) :: l6
theorem ok7 : SpecsOk Try.prog (spOf l7) := SpecsOk.cons ok6 over_Sheet_Clear.fn (fun h => by cases h)
def over_Sheet_Puts.cuts : Cuts := fun k => match k with | 5 => some ⟨[3], [3], [(.exit 0)]⟩ | _ => none
theorem over_Sheet_Puts.eq (x0 : AVal) (H : AHeap) (K : AVal → AHeap → Prop) : evFn Try.prog (spOf l7) over_Sheet_Puts.cuts Try.f10 [x0] H K = over_Sheet_Puts.w x0 H K := by kernel_rfl
theorem over_Sheet_Puts.fn : FnOk Try.prog 10 S_over_Sheet_Puts := fn_ok1 ok7 mixed (T := over_Sheet_Puts.cuts) Try.func10 (Abs.enters_of Try.func10 (by kernel_rfl) (by kernel_rfl)) over_Sheet_Puts.ok over_Sheet_Puts.eq
def l8 : List (Nat × Bool × Abs.Spec) := (10, true, S_over_Sheet_Puts) :: l7
theorem ok8 : SpecsOk Try.prog (spOf l8) := SpecsOk.cons ok7 over_Sheet_Puts.fn (fun _ _ _ _ _ h => over_Sheet_Puts.quiet h)
def over_Sheet_Copy.cuts : Cuts := fun k => match k with | 3 => some ⟨[10], [], [(.exit 0)]⟩ | _ => none
theorem over_Sheet_Copy.eq (x0 : AVal) (H : AHeap) (K : AVal → AHeap → Prop) : evFn Try.prog (spOf l8) over_Sheet_Copy.cuts Try.f13 [x0] H K = over_Sheet_Copy.w x0 H K := by kernel_rfl
theorem over_Sheet_Copy.fn : FnOk Try.prog 13 S_over_Sheet_Copy := fn_ok1E ok8 mixed (T := over_Sheet_Copy.cuts) Try.func13 (Abs.enters_of Try.func13 (by kernel_rfl) (by kernel_rfl)) over_Sheet_Copy.ok over_Sheet_Copy.eq
def l9 : List (Nat × Bool × Abs.Spec) := (13, true, S_over_Sheet_Copy) :: l8
theorem ok9 : SpecsOk Try.prog (spOf l9) := SpecsOk.cons ok8 over_Sheet_Copy.fn (fun _ _ _ _ _ h => over_Sheet_Copy.quiet h)
def over_Sheet_Over.cuts : Cuts := fun k => match k with | 3 => some ⟨[13], [], [(.exit 0)]⟩ | _ => none
theorem over_Sheet_Over.eq (x0 x1 : AVal) (H : AHeap) (K : AVal → AHeap → Prop) : evFn Try.prog (spOf l9) over_Sheet_Over.cuts Try.f16 [x0, x1] H K = over_Sheet_Over.w x0 x1 H K := by kernel_rfl
theorem over_Sheet_Over.fn : FnOk Try.prog 16 S_over_Sheet_Over := fn_ok2E ok9 mixed (T := over_Sheet_Over.cuts) Try.func16 (Abs.enters_of Try.func16 (by kernel_rfl) (by kernel_rfl)) over_Sheet_Over.ok over_Sheet_Over.eq
def l10 : List (Nat × Bool × Abs.Spec) := (16, true, S_over_Sheet_Over) :: l9
theorem ok10 : SpecsOk Try.prog (spOf l10) := SpecsOk.cons ok9 over_Sheet_Over.fn (fun _ _ _ _ _ h => over_Sheet_Over.quiet h)
def cellaretref16_At.cuts : Cuts := fun k => match k with | 2 => some ⟨[5], [4], [(.exit 0), .ret]⟩ | _ => none
theorem cellaretref16_At.eq (x0 x1 : AVal) (H : AHeap) (K : AVal → AHeap → Prop) : evFn Try.prog (spOf l10) cellaretref16_At.cuts Try.f20 [x0, x1] H K = cellaretref16_At.w x0 x1 H K := by kernel_rfl
theorem cellaretref16_At.fn : FnOk Try.prog 20 S_cellaretref16_At := fn_ok2E ok10 mixed (T := cellaretref16_At.cuts) Try.func20 (Abs.enters_of Try.func20 (by kernel_rfl) (by kernel_rfl)) cellaretref16_At.ok cellaretref16_At.eq
def l11 : List (Nat × Bool × Abs.Spec) := (20, true, S_cellaretref16_At) :: l10
theorem ok11 : SpecsOk Try.prog (spOf l11) := SpecsOk.cons ok10 cellaretref16_At.fn (fun _ _ _ _ _ h => cellaretref16_At.quiet h)
def cellaretref16_Drop.cuts : Cuts := fun k => match k with | 3 => some ⟨[5, 6], [5], [(.exit 0)]⟩ | _ => none
theorem cellaretref16_Drop.eq (x0 x1 : AVal) (H : AHeap) (K : AVal → AHeap → Prop) : evFn Try.prog (spOf l11) cellaretref16_Drop.cuts Try.f21 [x0, x1] H K = cellaretref16_Drop.w x0 x1 H K := by kernel_rfl
theorem cellaretref16_Drop.fn : FnOk Try.prog 21 S_cellaretref16_Drop := fn_ok2E ok11 mixed (T := cellaretref16_Drop.cuts) Try.func21 (Abs.enters_of Try.func21 (by kernel_rfl) (by kernel_rfl)) cellaretref16_Drop.ok cellaretref16_Drop.eq
def l12 : List (Nat × Bool × Abs.Spec) := (21, true, S_cellaretref16_Drop) :: l11
theorem ok12 : SpecsOk Try.prog (spOf l12) := SpecsOk.cons ok11 cellaretref16_Drop.fn (fun _ _ _ _ _ h => cellaretref16_Drop.quiet h)
def cellaretref16_Set.cuts : Cuts := fun k => match k with | 3 => some ⟨[5], [5], [(.exit 0)]⟩ | 1000003 => some ⟨[], [], [(.exit 0), .normal]⟩ | _ => none
theorem cellaretref16_Set.eq (x0 x1 : AVal) (H : AHeap) (K : AVal → AHeap → Prop) : evFn Try.prog (spOf l12) cellaretref16_Set.cuts Try.f15 [x0, x1] H K = cellaretref16_Set.w x0 x1 H K := by kernel_rfl
theorem cellaretref16_Set.fn : FnOk Try.prog 15 S_cellaretref16_Set := fn_ok2E ok12 mixed (T := cellaretref16_Set.cuts) Try.func15 (Abs.enters_of Try.func15 (by kernel_rfl) (by kernel_rfl)) cellaretref16_Set.ok cellaretref16_Set.eq
def l13 : List (Nat × Bool × Abs.Spec) := (15, true, S_cellaretref16_Set) :: l12
theorem ok13 : SpecsOk Try.prog (spOf l13) := SpecsOk.cons ok12 cellaretref16_Set.fn (fun _ _ _ _ _ h => cellaretref16_Set.quiet h)
def cellaretref16_Same.cuts : Cuts := fun k => match k with | 4 => some ⟨[5], [4], [(.exit 0), .ret]⟩ | _ => none
theorem cellaretref16_Same.eq (x0 x1 : AVal) (H : AHeap) (K : AVal → AHeap → Prop) : evFn Try.prog (spOf l13) cellaretref16_Same.cuts Try.f9 [x0, x1] H K = cellaretref16_Same.w x0 x1 H K := by kernel_rfl
theorem cellaretref16_Same.fn : FnOk Try.prog 9 S_cellaretref16_Same := fn_ok2E ok13 mixed (T := cellaretref16_Same.cuts) Try.func9 (Abs.enters_of Try.func9 (by kernel_rfl) (by kernel_rfl)) cellaretref16_Same.ok cellaretref16_Same.eq
def l14 : List (Nat × Bool × Abs.Spec) := (9, true, S_cellaretref16_Same) :: l13
theorem ok14 : SpecsOk Try.prog (spOf l14) := SpecsOk.cons ok13 cellaretref16_Same.fn (fun _ _ _ _ _ h => cellaretref16_Same.quiet h)
def cellaretlaw16_awake.cuts : Cuts := fun k => match k with | 1000002 => some ⟨[], [0], [.normal, .ret]⟩ | _ => none
theorem cellaretlaw16_awake.eq (H : AHeap) (K : AVal → AHeap → Prop) : evFn Try.prog (spOf l14) cellaretlaw16_awake.cuts Try.f12 [] H K = cellaretlaw16_awake.w H K := by kernel_rfl
theorem cellaretlaw16_awake.fn : FnOk Try.prog 12 S_cellaretlaw16_awake := fn_ok0E ok14 mixed (T := cellaretlaw16_awake.cuts) Try.func12 (Abs.enters_of Try.func12 (by kernel_rfl) (by kernel_rfl)) cellaretlaw16_awake.ok cellaretlaw16_awake.eq
def l15 : List (Nat × Bool × Abs.Spec) := (12, true, S_cellaretlaw16_awake) :: l14
theorem ok15 : SpecsOk Try.prog (spOf l15) := SpecsOk.cons ok14 cellaretlaw16_awake.fn (fun _ _ _ _ _ h => cellaretlaw16_awake.quiet h)
def cellaretlaw16_do.cuts : Cuts := fun k => match k with | 1000003 => some ⟨[], [18], [.normal]⟩ | _ => none
theorem cellaretlaw16_do.eq (x0 x1 x2 : AVal) (H : AHeap) (K : AVal → AHeap → Prop) : evFn Try.prog (spOf l15) cellaretlaw16_do.cuts Try.f8 [x0, x1, x2] H K = cellaretlaw16_do.w x0 x1 x2 H K := by kernel_rfl
theorem cellaretlaw16_do.fn : FnOk Try.prog 8 S_cellaretlaw16_do := fn_ok3E ok15 mixed (T := cellaretlaw16_do.cuts) Try.func8 (Abs.enters_of Try.func8 (by kernel_rfl) (by kernel_rfl)) cellaretlaw16_do.ok cellaretlaw16_do.eq
def l16 : List (Nat × Bool × Abs.Spec) := (8, false, S_cellaretlaw16_do) :: l15
theorem ok16 : SpecsOk Try.prog (spOf l16) := SpecsOk.cons ok15 cellaretlaw16_do.fn (fun h => by cases h)
def cellaretlaw16_OverDoes.cuts : Cuts := fun k => match k with | 4 => some ⟨[4, 5], [2], [(.exit 0), .ret]⟩ | 1000004 => some ⟨[], [], [(.exit 0), .normal]⟩ | _ => none
theorem cellaretlaw16_OverDoes.eq (x0 : AVal) (H : AHeap) (K : AVal → AHeap → Prop) : evFn Try.prog (spOf l16) cellaretlaw16_OverDoes.cuts Try.f3 [x0] H K = cellaretlaw16_OverDoes.w x0 H K := by kernel_rfl
theorem cellaretlaw16_OverDoes.fn : FnOk Try.prog 3 S_cellaretlaw16_OverDoes := fn_ok1E ok16 mixed (T := cellaretlaw16_OverDoes.cuts) Try.func3 (Abs.enters_of Try.func3 (by kernel_rfl) (by kernel_rfl)) cellaretlaw16_OverDoes.ok cellaretlaw16_OverDoes.eq
def l17 : List (Nat × Bool × Abs.Spec) := (3, false, S_cellaretlaw16_OverDoes) :: l16
theorem ok17 : SpecsOk Try.prog (spOf l17) := SpecsOk.cons ok16 cellaretlaw16_OverDoes.fn (fun h => by cases h)
def cellaretlaw16_OverApart.cuts : Cuts := fun k => match k with | 4 => some ⟨[6, 7], [6], [(.exit 0)]⟩ | 1000004 => some ⟨[], [], [(.exit 0), .normal]⟩ | 10 => some ⟨[6, 9, 10], [6, 9], [(.exit 2)]⟩ | 1000010 => some ⟨[], [], [(.exit 2), .normal]⟩ | _ => none
theorem cellaretlaw16_OverApart.eq (x0 x1 : AVal) (H : AHeap) (K : AVal → AHeap → Prop) : evFn Try.prog (spOf l17) cellaretlaw16_OverApart.cuts Try.f4 [x0, x1] H K = cellaretlaw16_OverApart.w x0 x1 H K := by kernel_rfl
theorem cellaretlaw16_OverApart.fn : FnOk Try.prog 4 S_cellaretlaw16_OverApart := fn_ok2E ok17 mixed (T := cellaretlaw16_OverApart.cuts) Try.func4 (Abs.enters_of Try.func4 (by kernel_rfl) (by kernel_rfl)) cellaretlaw16_OverApart.ok cellaretlaw16_OverApart.eq
def l18 : List (Nat × Bool × Abs.Spec) := (4, false, S_cellaretlaw16_OverApart) :: l17
theorem ok18 : SpecsOk Try.prog (spOf l18) := SpecsOk.cons ok17 cellaretlaw16_OverApart.fn (fun h => by cases h)
def cellaretlaw16_OverBoth.cuts : Cuts := fun k => match k with | 4 => some ⟨[8, 9, 10], [8, 9], [(.exit 0)]⟩ | 1000004 => some ⟨[], [], [(.exit 0), .normal]⟩ | 10 => some ⟨[7, 11], [7], [(.exit 2)]⟩ | 1000010 => some ⟨[], [], [(.exit 2), .normal]⟩ | 15 => some ⟨[9, 12], [9], [(.exit 4)]⟩ | 1000019 => some ⟨[], [4], [.normal, .ret]⟩ | _ => none
theorem cellaretlaw16_OverBoth.eq (x0 x1 : AVal) (H : AHeap) (K : AVal → AHeap → Prop) : evFn Try.prog (spOf l18) cellaretlaw16_OverBoth.cuts Try.f5 [x0, x1] H K = cellaretlaw16_OverBoth.w x0 x1 H K := by kernel_rfl
theorem cellaretlaw16_OverBoth.fn : FnOk Try.prog 5 S_cellaretlaw16_OverBoth := fn_ok2E ok18 mixed (T := cellaretlaw16_OverBoth.cuts) Try.func5 (Abs.enters_of Try.func5 (by kernel_rfl) (by kernel_rfl)) cellaretlaw16_OverBoth.ok cellaretlaw16_OverBoth.eq
def l19 : List (Nat × Bool × Abs.Spec) := (5, false, S_cellaretlaw16_OverBoth) :: l18
theorem ok19 : SpecsOk Try.prog (spOf l19) := SpecsOk.cons ok18 cellaretlaw16_OverBoth.fn (fun h => by cases h)
def cellaretlaw16_OverNone.cuts : Cuts := fun k => match k with | _ => none
theorem cellaretlaw16_OverNone.eq (x0 : AVal) (H : AHeap) (K : AVal → AHeap → Prop) : evFn Try.prog (spOf l19) cellaretlaw16_OverNone.cuts Try.f6 [x0] H K = cellaretlaw16_OverNone.w x0 H K := by kernel_rfl
theorem cellaretlaw16_OverNone.fn : FnOk Try.prog 6 S_cellaretlaw16_OverNone := fn_ok1E ok19 mixed (T := cellaretlaw16_OverNone.cuts) Try.func6 (Abs.enters_of Try.func6 (by kernel_rfl) (by kernel_rfl)) cellaretlaw16_OverNone.ok cellaretlaw16_OverNone.eq
def l20 : List (Nat × Bool × Abs.Spec) := (6, false, S_cellaretlaw16_OverNone) :: l19
theorem ok20 : SpecsOk Try.prog (spOf l20) := SpecsOk.cons ok19 cellaretlaw16_OverNone.fn (fun h => by cases h)
end Go.Proofs.Ytdpmildhhcdohaa.own
