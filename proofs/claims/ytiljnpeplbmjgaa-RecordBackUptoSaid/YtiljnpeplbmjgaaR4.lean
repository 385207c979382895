/- A text of this proof. -/
import Derived.Test.YtiljnpeplbmjgaaRows
import Derived.KernelRfl
import Derived.Test.YtiljnpeplbmjgaaRecB
import Derived.Test.YtiljnpeplbmjgaaAbsE
import Derived.Test.YtiljnpeplbmjgaaS13

/- The functions of this seat come to what is told of them: each one's code is what its printed text says (checked by the kernel), and the text is proved. Conditions: none. -/
namespace Go.Proofs.Ytiljnpeplbmjgaa.own
open Go Go.Abs Go.Sh
theorem mixed : Try.prog.follows .mixedOrders = true := by kernel_rfl
theorem bulk_mem {H : Type} {d : DataW H} : ∀ {l : List (DataW H)}, d ∈ l → Rows.uptoBulk d ≤ Rows.uptoBulkAll l
  | x :: l, h => by
    simp only [Rows.uptoBulkAll]
    rcases List.mem_cons.1 h with rfl | h
    · omega
    · have := bulk_mem h; omega
  | [], h => (by cases h)
theorem bulk_str {H : Type} {s : List UInt8} {elems spare ds : List (DataW H)} (hk : Rows.uptoSmall H ds = true) (h : DataW.slice elems spare ∈ ds) (k : DataW.lit (.string s) ∈ elems) : s.length ≤ 1048576 := by
  have h1 := bulk_mem h
  have h2 := bulk_mem k
  have h3 := of_decide_eq_true hk
  simp only [Rows.uptoBulk] at h1 h2
  omega
def l0 : List (Nat × Bool × Abs.Spec) := []
theorem ok0 : SpecsOk Try.prog (spOf l0) := SpecsOk.nil
theorem strings_Join.fn : FnOk Try.prog 34 S_strings_Join := join_fn (Abs.enters_of Try.func34 (by kernel_rfl) (by kernel_rfl)) Try.strings_Join_none Try.strings_Join
def l1 : List (Nat × Bool × Abs.Spec) := (34, true, S_strings_Join) :: l0
theorem ok1 : SpecsOk Try.prog (spOf l1) := SpecsOk.cons ok0 strings_Join.fn (fun _ _ _ _ _ h => strings_Join_quiet h)
def cellaretref01_Zeros.cuts : Cuts := fun k => match k with | _ => none
theorem cellaretref01_Zeros.eq (x0 : AVal) (H : AHeap) (K : AVal → AHeap → Prop) : evFn Try.prog (spOf l1) cellaretref01_Zeros.cuts Try.f26 [x0] H K = cellaretref01_Zeros.w x0 H K := by kernel_rfl
theorem cellaretref01_Zeros.fn : FnOk Try.prog 26 S_cellaretref01_Zeros := fn_ok1 ok1 mixed (T := cellaretref01_Zeros.cuts) Try.func26 (Abs.enters_of Try.func26 (by kernel_rfl) (by kernel_rfl)) cellaretref01_Zeros.ok cellaretref01_Zeros.eq
def l2 : List (Nat × Bool × Abs.Spec) := (26, true, S_cellaretref01_Zeros) :: l1
theorem ok2 : SpecsOk Try.prog (spOf l2) := SpecsOk.cons ok1 cellaretref01_Zeros.fn (fun _ _ _ _ _ h => cellaretref01_Zeros.quiet h)
def cellaretref01_Full.cuts : Cuts := fun k => match k with | _ => none
theorem cellaretref01_Full.eq (x0 x1 : AVal) (H : AHeap) (K : AVal → AHeap → Prop) : evFn Try.prog (spOf l2) cellaretref01_Full.cuts Try.f21 [x0, x1] H K = cellaretref01_Full.w x0 x1 H K := by kernel_rfl
theorem cellaretref01_Full.fn : FnOk Try.prog 21 S_cellaretref01_Full := fn_ok2 ok2 mixed (T := cellaretref01_Full.cuts) Try.func21 (Abs.enters_of Try.func21 (by kernel_rfl) (by kernel_rfl)) cellaretref01_Full.ok cellaretref01_Full.eq
def l3 : List (Nat × Bool × Abs.Spec) := (21, true, S_cellaretref01_Full) :: l2
theorem ok3 : SpecsOk Try.prog (spOf l3) := SpecsOk.cons ok2 cellaretref01_Full.fn (fun _ _ _ _ _ h => cellaretref01_Full.quiet h)
def be_Put.cuts : Cuts := fun k => match k with | 7 => some ⟨[32], [], [(.exit 1)]⟩ | _ => none
theorem be_Put.eq (x0 x1 : AVal) (H : AHeap) (K : AVal → AHeap → Prop) : evFn Try.prog (spOf l3) be_Put.cuts Try.f22 [x0, x1] H K = be_Put.w x0 x1 H K := by kernel_rfl
theorem be_Put.fn : FnOk Try.prog 22 S_be_Put := fn_ok2E ok3 mixed (T := be_Put.cuts) Try.func22 (Abs.enters_of Try.func22 (by kernel_rfl) (by kernel_rfl)) be_Put.ok be_Put.eq
def l4 : List (Nat × Bool × Abs.Spec) := (22, true, S_be_Put) :: l3
theorem ok4 : SpecsOk Try.prog (spOf l4) := SpecsOk.cons ok3 be_Put.fn (fun _ _ _ _ _ h => be_Put.quiet h)
def be_Get.cuts : Cuts := fun k => match k with | 9 => some ⟨[4, 24], [4], [(.exit 1)]⟩ | _ => none
theorem be_Get.eq (x0 : AVal) (H : AHeap) (K : AVal → AHeap → Prop) : evFn Try.prog (spOf l4) be_Get.cuts Try.f30 [x0] H K = be_Get.w x0 H K := by kernel_rfl
theorem be_Get.fn : FnOk Try.prog 30 S_be_Get := fn_ok1E ok4 mixed (T := be_Get.cuts) Try.func30 (Abs.enters_of Try.func30 (by kernel_rfl) (by kernel_rfl)) be_Get.ok be_Get.eq
def l5 : List (Nat × Bool × Abs.Spec) := (30, true, S_be_Get) :: l4
theorem ok5 : SpecsOk Try.prog (spOf l5) := SpecsOk.cons ok4 be_Get.fn (fun _ _ _ _ _ h => be_Get.quiet h)
def be_Pad.cuts : Cuts := fun k => match k with | _ => none
theorem be_Pad.eq (x0 x1 : AVal) (H : AHeap) (K : AVal → AHeap → Prop) : evFn Try.prog (spOf l5) be_Pad.cuts Try.f33 [x0, x1] H K = be_Pad.w x0 x1 H K := by kernel_rfl
theorem be_Pad.fn : FnOk Try.prog 33 S_be_Pad := fn_ok2E ok5 mixed (T := be_Pad.cuts) Try.func33 (Abs.enters_of Try.func33 (by kernel_rfl) (by kernel_rfl)) be_Pad.ok be_Pad.eq
def l6 : List (Nat × Bool × Abs.Spec) := (33, true, S_be_Pad) :: l5
theorem ok6 : SpecsOk Try.prog (spOf l6) := SpecsOk.cons ok5 be_Pad.fn (fun _ _ _ _ _ h => be_Pad.quiet h)
def be_Row_1.cuts : Cuts := fun k => match k with | _ => none
theorem be_Row_1.eq (x0 x1 x2 : AVal) (H : AHeap) (K : AVal → AHeap → Prop) : evFn Try.prog (spOf l6) be_Row_1.cuts Try.f35 [x0, x1, x2] H K = be_Row_1.w x0 x1 x2 H K := by kernel_rfl
theorem be_Row_1.fn : FnOk Try.prog 35 S_be_Row_1 := fn_ok3E ok6 mixed (T := be_Row_1.cuts) Try.func35 (Abs.enters_of Try.func35 (by kernel_rfl) (by kernel_rfl)) be_Row_1.ok be_Row_1.eq
def l7 : List (Nat × Bool × Abs.Spec) := (35, false, S_be_Row_1) :: l6
theorem ok7 : SpecsOk Try.prog (spOf l7) := SpecsOk.cons ok6 be_Row_1.fn (fun h => by cases h)
def be_Row.cuts : Cuts := fun k => match k with | 1000003 => some ⟨[], [4, 5], [.normal, .ret]⟩ | 8 => some ⟨[23], [4, 5], [(.exit 0), .ret]⟩ | _ => none
theorem be_Row.eq (x0 x1 : AVal) (H : AHeap) (K : AVal → AHeap → Prop) : evFn Try.prog (spOf l7) be_Row.cuts Try.f24 [x0, x1] H K = be_Row.w x0 x1 H K := by kernel_rfl
theorem be_Row.fn : FnOk Try.prog 24 S_be_Row := fn_ok2E ok7 mixed (T := be_Row.cuts) Try.func24 (Abs.enters_of Try.func24 (by kernel_rfl) (by kernel_rfl)) be_Row.ok be_Row.eq
def l8 : List (Nat × Bool × Abs.Spec) := (24, true, S_be_Row) :: l7
theorem ok8 : SpecsOk Try.prog (spOf l8) := SpecsOk.cons ok7 be_Row.fn (fun _ _ _ _ _ h => be_Row.quiet h)
def cellaretref01_Put.cuts : Cuts := fun k => match k with | 1000001 => some ⟨[], [4, 5], [.normal, .ret]⟩ | 7 => some ⟨[0, 6, 7], [0, 6], [(.exit 0)]⟩ | _ => none
theorem cellaretref01_Put.eq (x0 x1 : AVal) (H : AHeap) (K : AVal → AHeap → Prop) : evFn Try.prog (spOf l8) cellaretref01_Put.cuts Try.f36 [x0, x1] H K = cellaretref01_Put.w x0 x1 H K := by kernel_rfl
theorem cellaretref01_Put.fn : FnOk Try.prog 36 S_cellaretref01_Put := fn_ok2E ok8 mixed (T := cellaretref01_Put.cuts) Try.func36 (Abs.enters_of Try.func36 (by kernel_rfl) (by kernel_rfl)) cellaretref01_Put.ok cellaretref01_Put.eq
def l9 : List (Nat × Bool × Abs.Spec) := (36, true, S_cellaretref01_Put) :: l8
theorem ok9 : SpecsOk Try.prog (spOf l9) := SpecsOk.cons ok8 cellaretref01_Put.fn (fun _ _ _ _ _ h => cellaretref01_Put.quiet h)
def cellaretref01_N.cuts : Cuts := fun k => match k with | _ => none
theorem cellaretref01_N.eq (x0 x1 : AVal) (H : AHeap) (K : AVal → AHeap → Prop) : evFn Try.prog (spOf l9) cellaretref01_N.cuts Try.f25 [x0, x1] H K = cellaretref01_N.w x0 x1 H K := by kernel_rfl
theorem cellaretref01_N.fn : FnOk Try.prog 25 S_cellaretref01_N := fn_ok2E ok9 mixed (T := cellaretref01_N.cuts) Try.func25 (Abs.enters_of Try.func25 (by kernel_rfl) (by kernel_rfl)) cellaretref01_N.ok cellaretref01_N.eq
def l10 : List (Nat × Bool × Abs.Spec) := (25, true, S_cellaretref01_N) :: l9
theorem ok10 : SpecsOk Try.prog (spOf l10) := SpecsOk.cons ok9 cellaretref01_N.fn (fun _ _ _ _ _ h => cellaretref01_N.quiet h)
def cellaretref01_Get.cuts : Cuts := fun k => match k with | 1000005 => some ⟨[], [2, 3], [.normal, .ret]⟩ | 9 => some ⟨[4, 5], [4], [(.exit 0)]⟩ | _ => none
theorem cellaretref01_Get.eq (x0 : AVal) (H : AHeap) (K : AVal → AHeap → Prop) : evFn Try.prog (spOf l10) cellaretref01_Get.cuts Try.f32 [x0] H K = cellaretref01_Get.w x0 H K := by kernel_rfl
theorem cellaretref01_Get.fn : FnOk Try.prog 32 S_cellaretref01_Get := fn_ok1E ok10 mixed (T := cellaretref01_Get.cuts) Try.func32 (Abs.enters_of Try.func32 (by kernel_rfl) (by kernel_rfl)) cellaretref01_Get.ok cellaretref01_Get.eq
def l11 : List (Nat × Bool × Abs.Spec) := (32, true, S_cellaretref01_Get) :: l10
theorem ok11 : SpecsOk Try.prog (spOf l11) := SpecsOk.cons ok10 cellaretref01_Get.fn (fun _ _ _ _ _ h => cellaretref01_Get.quiet h)
def cellaretref01_Same.cuts : Cuts := fun k => match k with | 4 => some ⟨[5], [4], [(.exit 0), .ret]⟩ | _ => none
theorem cellaretref01_Same.eq (x0 x1 : AVal) (H : AHeap) (K : AVal → AHeap → Prop) : evFn Try.prog (spOf l11) cellaretref01_Same.cuts Try.f13 [x0, x1] H K = cellaretref01_Same.w x0 x1 H K := by kernel_rfl
theorem cellaretref01_Same.fn : FnOk Try.prog 13 S_cellaretref01_Same := fn_ok2E ok11 mixed (T := cellaretref01_Same.cuts) Try.func13 (Abs.enters_of Try.func13 (by kernel_rfl) (by kernel_rfl)) cellaretref01_Same.ok cellaretref01_Same.eq
def l12 : List (Nat × Bool × Abs.Spec) := (13, true, S_cellaretref01_Same) :: l11
theorem ok12 : SpecsOk Try.prog (spOf l12) := SpecsOk.cons ok11 cellaretref01_Same.fn (fun _ _ _ _ _ h => cellaretref01_Same.quiet h)
def slices_Equal_string_string.cuts : Cuts := fun k => match k with | 4 => some ⟨[13], [4], [(.exit 0), .ret]⟩ | _ => none
theorem slices_Equal_string_string.eq (x0 x1 : AVal) (H : AHeap) (K : AVal → AHeap → Prop) : evFn Try.prog (spOf l12) slices_Equal_string_string.cuts Try.f31 [x0, x1] H K = slices_Equal_string_string.w x0 x1 H K := by kernel_rfl
theorem slices_Equal_string_string.fn : FnOk Try.prog 31 S_slices_Equal_string_string := fn_ok2E ok12 mixed (T := slices_Equal_string_string.cuts) Try.func31 (Abs.enters_of Try.func31 (by kernel_rfl) (by kernel_rfl)) slices_Equal_string_string.ok slices_Equal_string_string.eq
def l13 : List (Nat × Bool × Abs.Spec) := (31, true, S_slices_Equal_string_string) :: l12
theorem ok13 : SpecsOk Try.prog (spOf l13) := SpecsOk.cons ok12 slices_Equal_string_string.fn (fun _ _ _ _ _ h => slices_Equal_string_string.quiet h)
def slices_Equal_api_Put_api_Put.cuts : Cuts := fun k => match k with | 4 => some ⟨[13], [4], [(.exit 0), .ret]⟩ | _ => none
theorem slices_Equal_api_Put_api_Put.eq (x0 x1 : AVal) (H : AHeap) (K : AVal → AHeap → Prop) : evFn Try.prog (spOf l13) slices_Equal_api_Put_api_Put.cuts Try.f27 [x0, x1] H K = slices_Equal_api_Put_api_Put.w x0 x1 H K := by kernel_rfl
theorem slices_Equal_api_Put_api_Put.fn : FnOk Try.prog 27 S_slices_Equal_api_Put_api_Put := fn_ok2E ok13 mixed (T := slices_Equal_api_Put_api_Put.cuts) Try.func27 (Abs.enters_of Try.func27 (by kernel_rfl) (by kernel_rfl)) slices_Equal_api_Put_api_Put.ok slices_Equal_api_Put_api_Put.eq
def l14 : List (Nat × Bool × Abs.Spec) := (27, true, S_slices_Equal_api_Put_api_Put) :: l13
theorem ok14 : SpecsOk Try.prog (spOf l14) := SpecsOk.cons ok13 slices_Equal_api_Put_api_Put.fn (fun _ _ _ _ _ h => slices_Equal_api_Put_api_Put.quiet h)
def record_Check.cuts : Cuts := fun k => match k with | 1000003 => some ⟨[], [2], [.normal, .ret]⟩ | 7 => some ⟨[3, 21], [2], [(.exit 0), .ret]⟩ | 1000009 => some ⟨[], [2], [.normal, .ret]⟩ | _ => none
theorem record_Check.eq (x0 : AVal) (H : AHeap) (K : AVal → AHeap → Prop) : evFn Try.prog (spOf l14) record_Check.cuts Try.f10 [x0] H K = record_Check.w x0 H K := by kernel_rfl
theorem record_Check.fn : FnOk Try.prog 10 S_record_Check := fn_ok1E ok14 mixed (T := record_Check.cuts) Try.func10 (Abs.enters_of Try.func10 (by kernel_rfl) (by kernel_rfl)) record_Check.ok record_Check.eq
def l15 : List (Nat × Bool × Abs.Spec) := (10, true, S_record_Check) :: l14
theorem ok15 : SpecsOk Try.prog (spOf l15) := SpecsOk.cons ok14 record_Check.fn (fun _ _ _ _ _ h => record_Check.quiet h)
def record_Length.cuts : Cuts := fun k => match k with | 1000001 => some ⟨[], [2], [.normal, .ret]⟩ | _ => none
theorem record_Length.eq (x0 : AVal) (H : AHeap) (K : AVal → AHeap → Prop) : evFn Try.prog (spOf l15) record_Length.cuts Try.f11 [x0] H K = record_Length.w x0 H K := by kernel_rfl
theorem record_Length.fn : FnOk Try.prog 11 S_record_Length := fn_ok1E ok15 mixed (T := record_Length.cuts) Try.func11 (Abs.enters_of Try.func11 (by kernel_rfl) (by kernel_rfl)) record_Length.ok record_Length.eq
def l16 : List (Nat × Bool × Abs.Spec) := (11, true, S_record_Length) :: l15
theorem ok16 : SpecsOk Try.prog (spOf l16) := SpecsOk.cons ok15 record_Length.fn (fun _ _ _ _ _ h => record_Length.quiet h)
def record_block.cuts : Cuts := fun k => match k with | _ => none
theorem record_block.eq (x0 : AVal) (H : AHeap) (K : AVal → AHeap → Prop) : evFn Try.prog (spOf l16) record_block.cuts Try.f23 [x0] H K = record_block.w x0 H K := by kernel_rfl
theorem record_block.fn : FnOk Try.prog 23 S_record_block := fn_ok1E ok16 mixed (T := record_block.cuts) Try.func23 (Abs.enters_of Try.func23 (by kernel_rfl) (by kernel_rfl)) record_block.ok record_block.eq
def l17 : List (Nat × Bool × Abs.Spec) := (23, true, S_record_block) :: l16
theorem ok17 : SpecsOk Try.prog (spOf l17) := SpecsOk.cons ok16 record_block.fn (fun _ _ _ _ _ h => record_block.quiet h)
def record_Lay.cuts : Cuts := fun k => match k with | 9 => some ⟨[10, 47], [10], [(.exit 0)]⟩ | 13 => some ⟨[9, 10], [9], [(.exit 2)]⟩ | 19 => some ⟨[9, 83], [9], [(.exit 4)]⟩ | _ => none
theorem record_Lay.eq (x0 : AVal) (H : AHeap) (K : AVal → AHeap → Prop) : evFn Try.prog (spOf l17) record_Lay.cuts Try.f9 [x0] H K = record_Lay.w x0 H K := by kernel_rfl
theorem record_Lay.fn : FnOk Try.prog 9 S_record_Lay := fn_ok1E ok17 mixed (T := record_Lay.cuts) Try.func9 (Abs.enters_of Try.func9 (by kernel_rfl) (by kernel_rfl)) record_Lay.ok record_Lay.eq
def l18 : List (Nat × Bool × Abs.Spec) := (9, true, S_record_Lay) :: l17
theorem ok18 : SpecsOk Try.prog (spOf l18) := SpecsOk.cons ok17 record_Lay.fn (fun _ _ _ _ _ h => record_Lay.quiet h)
def record_first.cuts : Cuts := fun k => match k with | 1000001 => some ⟨[], [4], [.normal, .ret]⟩ | _ => none
theorem record_first.eq (x0 x1 : AVal) (H : AHeap) (K : AVal → AHeap → Prop) : evFn Try.prog (spOf l18) record_first.cuts Try.f28 [x0, x1] H K = record_first.w x0 x1 H K := by kernel_rfl
theorem record_first.fn : FnOk Try.prog 28 S_record_first := fn_ok2E ok18 mixed (T := record_first.cuts) Try.func28 (Abs.enters_of Try.func28 (by kernel_rfl) (by kernel_rfl)) record_first.ok record_first.eq
def l19 : List (Nat × Bool × Abs.Spec) := (28, false, S_record_first) :: l18
theorem ok19 : SpecsOk Try.prog (spOf l19) := SpecsOk.cons ok18 record_first.fn (fun h => by cases h)
def record_Parse_1.cuts : Cuts := fun k => match k with | _ => none
theorem record_Parse_1.eq (x0 x1 x2 x3 : AVal) (H : AHeap) (K : AVal → AHeap → Prop) : evFn Try.prog (spOf l19) record_Parse_1.cuts Try.f29 [x0, x1, x2, x3] H K = record_Parse_1.w x0 x1 x2 x3 H K := by kernel_rfl
theorem record_Parse_1.fn : FnOk Try.prog 29 S_record_Parse_1 := fn_ok4E ok19 mixed (T := record_Parse_1.cuts) Try.func29 (Abs.enters_of Try.func29 (by kernel_rfl) (by kernel_rfl)) record_Parse_1.ok record_Parse_1.eq
def l20 : List (Nat × Bool × Abs.Spec) := (29, false, S_record_Parse_1) :: l19
theorem ok20 : SpecsOk Try.prog (spOf l20) := SpecsOk.cons ok19 record_Parse_1.fn (fun h => by cases h)
def record_Parse.cuts : Cuts := fun k => match k with | 13 => some ⟨[36], [3, 4], [(.exit 0), .ret]⟩ | 1000019 => some ⟨[], [3, 4], [.normal, .ret]⟩ | _ => none
theorem record_Parse.eq (x0 : AVal) (H : AHeap) (K : AVal → AHeap → Prop) : evFn Try.prog (spOf l20) record_Parse.cuts Try.f18 [x0] H K = record_Parse.w x0 H K := by kernel_rfl
theorem record_Parse.fn : FnOk Try.prog 18 S_record_Parse := fn_ok1E ok20 mixed (T := record_Parse.cuts) Try.func18 (Abs.enters_of Try.func18 (by kernel_rfl) (by kernel_rfl)) record_Parse.ok record_Parse.eq
def l21 : List (Nat × Bool × Abs.Spec) := (18, true, S_record_Parse) :: l20
theorem ok21 : SpecsOk Try.prog (spOf l21) := SpecsOk.cons ok20 record_Parse.fn (fun _ _ _ _ _ h => record_Parse.quiet h)
def record_All.cuts : Cuts := fun k => match k with | 2 => some ⟨[0, 4], [2, 3, 4], [(.exit 0), .ret]⟩ | _ => none
theorem record_All.eq (x0 : AVal) (H : AHeap) (K : AVal → AHeap → Prop) : evFn Try.prog (spOf l21) record_All.cuts Try.f20 [x0] H K = record_All.w x0 H K := by kernel_rfl
theorem record_All.fn : FnOk Try.prog 20 S_record_All := fn_ok1E ok21 mixed (T := record_All.cuts) Try.func20 (Abs.enters_of Try.func20 (by kernel_rfl) (by kernel_rfl)) record_All.ok record_All.eq
def l22 : List (Nat × Bool × Abs.Spec) := (20, true, S_record_All) :: l21
theorem ok22 : SpecsOk Try.prog (spOf l22) := SpecsOk.cons ok21 record_All.fn (fun _ _ _ _ _ h => record_All.quiet h)
def record_Same.cuts : Cuts := fun k => match k with | _ => none
theorem record_Same.eq (x0 x1 : AVal) (H : AHeap) (K : AVal → AHeap → Prop) : evFn Try.prog (spOf l22) record_Same.cuts Try.f16 [x0, x1] H K = record_Same.w x0 x1 H K := by kernel_rfl
theorem record_Same.fn : FnOk Try.prog 16 S_record_Same := fn_ok2E ok22 mixed (T := record_Same.cuts) Try.func16 (Abs.enters_of Try.func16 (by kernel_rfl) (by kernel_rfl)) record_Same.ok record_Same.eq
def l23 : List (Nat × Bool × Abs.Spec) := (16, true, S_record_Same) :: l22
theorem ok23 : SpecsOk Try.prog (spOf l23) := SpecsOk.cons ok22 record_Same.fn (fun _ _ _ _ _ h => record_Same.quiet h)
def cellaretref13_Right.cuts : Cuts := fun k => match k with | 1000001 => some ⟨[], [2], [.normal, .ret]⟩ | 4 => some ⟨[3], [2], [(.exit 0), .ret]⟩ | _ => none
theorem cellaretref13_Right.eq (x0 : AVal) (H : AHeap) (K : AVal → AHeap → Prop) : evFn Try.prog (spOf l23) cellaretref13_Right.cuts Try.f12 [x0] H K = cellaretref13_Right.w x0 H K := by kernel_rfl
theorem cellaretref13_Right.fn : FnOk Try.prog 12 S_cellaretref13_Right := fn_ok1E ok23 mixed (T := cellaretref13_Right.cuts) Try.func12 (Abs.enters_of Try.func12 (by kernel_rfl) (by kernel_rfl)) cellaretref13_Right.ok cellaretref13_Right.eq
def l24 : List (Nat × Bool × Abs.Spec) := (12, true, S_cellaretref13_Right) :: l23
theorem ok24 : SpecsOk Try.prog (spOf l24) := SpecsOk.cons ok23 cellaretref13_Right.fn (fun _ _ _ _ _ h => cellaretref13_Right.quiet h)
def cellaretref13_Lay.cuts : Cuts := fun k => match k with | 3 => some ⟨[3, 4], [3], [(.exit 0)]⟩ | 7 => some ⟨[5, 6], [5], [(.exit 2)]⟩ | 1000007 => some ⟨[], [], [(.exit 2), .normal]⟩ | 12 => some ⟨[3, 7], [3], [(.exit 4)]⟩ | _ => none
theorem cellaretref13_Lay.eq (x0 : AVal) (H : AHeap) (K : AVal → AHeap → Prop) : evFn Try.prog (spOf l24) cellaretref13_Lay.cuts Try.f14 [x0] H K = cellaretref13_Lay.w x0 H K := by kernel_rfl
theorem cellaretref13_Lay.fn : FnOk Try.prog 14 S_cellaretref13_Lay := fn_ok1E ok24 mixed (T := cellaretref13_Lay.cuts) Try.func14 (Abs.enters_of Try.func14 (by kernel_rfl) (by kernel_rfl)) cellaretref13_Lay.ok cellaretref13_Lay.eq
def l25 : List (Nat × Bool × Abs.Spec) := (14, true, S_cellaretref13_Lay) :: l24
theorem ok25 : SpecsOk Try.prog (spOf l25) := SpecsOk.cons ok24 cellaretref13_Lay.fn (fun _ _ _ _ _ h => cellaretref13_Lay.quiet h)
def cellaretref13_Parse.cuts : Cuts := fun k => match k with | 1000004 => some ⟨[], [3, 4], [.normal, .ret]⟩ | 10 => some ⟨[7], [7], [(.exit 0)]⟩ | 18 => some ⟨[11], [], [(.exit 2)]⟩ | 22 => some ⟨[12], [3, 4], [(.exit 4), .ret]⟩ | 1000029 => some ⟨[], [3, 4], [.normal, .ret]⟩ | _ => none
theorem cellaretref13_Parse.eq (x0 : AVal) (H : AHeap) (K : AVal → AHeap → Prop) : evFn Try.prog (spOf l25) cellaretref13_Parse.cuts Try.f19 [x0] H K = cellaretref13_Parse.w x0 H K := by kernel_rfl
theorem cellaretref13_Parse.fn : FnOk Try.prog 19 S_cellaretref13_Parse := fn_ok1E ok25 mixed (T := cellaretref13_Parse.cuts) Try.func19 (Abs.enters_of Try.func19 (by kernel_rfl) (by kernel_rfl)) cellaretref13_Parse.ok cellaretref13_Parse.eq
def l26 : List (Nat × Bool × Abs.Spec) := (19, true, S_cellaretref13_Parse) :: l25
theorem ok26 : SpecsOk Try.prog (spOf l26) := SpecsOk.cons ok25 cellaretref13_Parse.fn (fun _ _ _ _ _ h => cellaretref13_Parse.quiet h)
def cellaretref13_Same.cuts : Cuts := fun k => match k with | 1000001 => some ⟨[], [4], [.normal, .ret]⟩ | 4 => some ⟨[5], [4], [(.exit 0), .ret]⟩ | _ => none
theorem cellaretref13_Same.eq (x0 x1 : AVal) (H : AHeap) (K : AVal → AHeap → Prop) : evFn Try.prog (spOf l26) cellaretref13_Same.cuts Try.f17 [x0, x1] H K = cellaretref13_Same.w x0 x1 H K := by kernel_rfl
theorem cellaretref13_Same.fn : FnOk Try.prog 17 S_cellaretref13_Same := fn_ok2E ok26 mixed (T := cellaretref13_Same.cuts) Try.func17 (Abs.enters_of Try.func17 (by kernel_rfl) (by kernel_rfl)) cellaretref13_Same.ok cellaretref13_Same.eq
def l27 : List (Nat × Bool × Abs.Spec) := (17, true, S_cellaretref13_Same) :: l26
theorem ok27 : SpecsOk Try.prog (spOf l27) := SpecsOk.cons ok26 cellaretref13_Same.fn (fun _ _ _ _ _ h => cellaretref13_Same.quiet h)
def cellaretlaw13_light.cuts : Cuts := fun k => match k with | 2 => some ⟨[3], [2], [(.exit 0), .ret]⟩ | 1000002 => some ⟨[], [], [(.exit 0), .normal]⟩ | _ => none
theorem cellaretlaw13_light.eq (x0 : AVal) (H : AHeap) (K : AVal → AHeap → Prop) : evFn Try.prog (spOf l27) cellaretlaw13_light.cuts Try.f7 [x0] H K = cellaretlaw13_light.w x0 H K := by kernel_rfl
theorem cellaretlaw13_light.fn : FnOk Try.prog 7 S_cellaretlaw13_light := fn_ok1E ok27 mixed (T := cellaretlaw13_light.cuts) Try.func7 (Abs.enters_of Try.func7 (by kernel_rfl) (by kernel_rfl)) cellaretlaw13_light.ok cellaretlaw13_light.eq
def l28 : List (Nat × Bool × Abs.Spec) := (7, true, S_cellaretlaw13_light) :: l27
theorem ok28 : SpecsOk Try.prog (spOf l28) := SpecsOk.cons ok27 cellaretlaw13_light.fn (fun _ _ _ _ _ h => cellaretlaw13_light.quiet h)
def cellaretlaw13_awake.cuts : Cuts := fun k => match k with | _ => none
theorem cellaretlaw13_awake.eq (H : AHeap) (K : AVal → AHeap → Prop) : evFn Try.prog (spOf l28) cellaretlaw13_awake.cuts Try.f8 [] H K = cellaretlaw13_awake.w H K := by kernel_rfl
theorem cellaretlaw13_awake.fn : FnOk Try.prog 8 S_cellaretlaw13_awake := fn_ok0E ok28 mixed (T := cellaretlaw13_awake.cuts) Try.func8 (Abs.enters_of Try.func8 (by kernel_rfl) (by kernel_rfl)) cellaretlaw13_awake.ok cellaretlaw13_awake.eq
def l29 : List (Nat × Bool × Abs.Spec) := (8, true, S_cellaretlaw13_awake) :: l28
theorem ok29 : SpecsOk Try.prog (spOf l29) := SpecsOk.cons ok28 cellaretlaw13_awake.fn (fun _ _ _ _ _ h => cellaretlaw13_awake.quiet h)
def cellaretlaw13_short.cuts : Cuts := fun k => match k with | 2 => some ⟨[3], [2], [(.exit 0), .ret]⟩ | 1000002 => some ⟨[], [], [(.exit 0), .normal]⟩ | _ => none
theorem cellaretlaw13_short.eq (x0 : AVal) (H : AHeap) (K : AVal → AHeap → Prop) : evFn Try.prog (spOf l29) cellaretlaw13_short.cuts Try.f15 [x0] H K = cellaretlaw13_short.w x0 H K := by kernel_rfl
theorem cellaretlaw13_short.fn : FnOk Try.prog 15 S_cellaretlaw13_short := fn_ok1E ok29 mixed (T := cellaretlaw13_short.cuts) Try.func15 (Abs.enters_of Try.func15 (by kernel_rfl) (by kernel_rfl)) cellaretlaw13_short.ok cellaretlaw13_short.eq
def l30 : List (Nat × Bool × Abs.Spec) := (15, true, S_cellaretlaw13_short) :: l29
theorem ok30 : SpecsOk Try.prog (spOf l30) := SpecsOk.cons ok29 cellaretlaw13_short.fn (fun _ _ _ _ _ h => cellaretlaw13_short.quiet h)
def cellaretlaw13_RecordBack.cuts : Cuts := fun k => match k with | 1000001 => some ⟨[], [6], [.normal, .ret]⟩ | 1000005 => some ⟨[], [6], [.normal, .ret]⟩ | _ => none
theorem cellaretlaw13_RecordBack.eq (x0 x1 x2 : AVal) (H : AHeap) (K : AVal → AHeap → Prop) : evFn Try.prog (spOf l30) cellaretlaw13_RecordBack.cuts Try.f6 [x0, x1, x2] H K = cellaretlaw13_RecordBack.w x0 x1 x2 H K := by kernel_rfl
theorem cellaretlaw13_RecordBack.fn : FnOk Try.prog 6 S_cellaretlaw13_RecordBack := fn_ok3E ok30 mixed (T := cellaretlaw13_RecordBack.cuts) Try.func6 (Abs.enters_of Try.func6 (by kernel_rfl) (by kernel_rfl)) cellaretlaw13_RecordBack.ok cellaretlaw13_RecordBack.eq
def l31 : List (Nat × Bool × Abs.Spec) := (6, true, S_cellaretlaw13_RecordBack) :: l30
theorem ok31 : SpecsOk Try.prog (spOf l31) := SpecsOk.cons ok30 cellaretlaw13_RecordBack.fn (fun _ _ _ _ _ h => cellaretlaw13_RecordBack.quiet h)
end Go.Proofs.Ytiljnpeplbmjgaa.own
