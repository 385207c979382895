/- A text of this proof. -/
import Derived.Test.YtpkhbcjonaeeeaaRows
import Derived.KernelRfl
import Derived.Test.YtpkhbcjonaeeeaaFlatB
import Derived.Test.YtpkhbcjonaeeeaaS26

/- The functions of this seat come to what is told of them: each one's code is what its printed text says (checked by the kernel), and the text is proved. Conditions: none. -/
namespace Go.Proofs.Ytpkhbcjonaeeeaa.own
open Go Go.Abs Go.Sh
theorem mixed : Try.prog.follows .mixedOrders = true := by kernel_rfl
theorem bulk_mem {H : Type} {d : DataW H} : ∀ {l : List (DataW H)}, d ∈ l → Rows.uptoBulk d ≤ Rows.uptoBulkAll l
  | x :: l, h => by
    simp only [Rows.uptoBulkAll]
    rcases List.mem_cons.1 h with rfl | h
    · omega
    · have := bulk_mem h; omega
  | [], h => (by cases h)
theorem bulk_str {H : Type} {s : List UInt8} {elems spare ds : List (DataW H)} (hk : Rows.uptoSmall H ds = true) (h : DataW.slice elems spare ∈ ds) (k : DataW.lit (.string s) ∈ elems) : s.length ≤ 1048576 := by
  have h1 := bulk_mem h
  have h2 := bulk_mem k
  have h3 := of_decide_eq_true hk
  simp only [Rows.uptoBulk] at h1 h2
  omega
def l0 : List (Nat × Bool × Abs.Spec) := []
theorem ok0 : SpecsOk Try.prog (spOf l0) := SpecsOk.nil
theorem strings_Join.fn : FnOk Try.prog 41 S_strings_Join := join_fn (Abs.enters_of Try.func41 (by kernel_rfl) (by kernel_rfl)) Try.strings_Join_none Try.strings_Join
def l1 : List (Nat × Bool × Abs.Spec) := (41, true, S_strings_Join) :: l0
theorem ok1 : SpecsOk Try.prog (spOf l1) := SpecsOk.cons ok0 strings_Join.fn (fun _ _ _ _ _ h => strings_Join_quiet h)
def cellaretref01_Zeros.cuts : Cuts := fun k => match k with | _ => none
theorem cellaretref01_Zeros.eq (x0 : AVal) (H : AHeap) (K : AVal → AHeap → Prop) : evFn Try.prog (spOf l1) cellaretref01_Zeros.cuts Try.f9 [x0] H K = cellaretref01_Zeros.w x0 H K := by kernel_rfl
theorem cellaretref01_Zeros.fn : FnOk Try.prog 9 S_cellaretref01_Zeros := fn_ok1 ok1 mixed (T := cellaretref01_Zeros.cuts) Try.func9 (Abs.enters_of Try.func9 (by kernel_rfl) (by kernel_rfl)) cellaretref01_Zeros.ok cellaretref01_Zeros.eq
def l2 : List (Nat × Bool × Abs.Spec) := (9, true, S_cellaretref01_Zeros) :: l1
theorem ok2 : SpecsOk Try.prog (spOf l2) := SpecsOk.cons ok1 cellaretref01_Zeros.fn (fun _ _ _ _ _ h => cellaretref01_Zeros.quiet h)
def cellaretref01_Full.cuts : Cuts := fun k => match k with | _ => none
theorem cellaretref01_Full.eq (x0 x1 : AVal) (H : AHeap) (K : AVal → AHeap → Prop) : evFn Try.prog (spOf l2) cellaretref01_Full.cuts Try.f19 [x0, x1] H K = cellaretref01_Full.w x0 x1 H K := by kernel_rfl
theorem cellaretref01_Full.fn : FnOk Try.prog 19 S_cellaretref01_Full := fn_ok2 ok2 mixed (T := cellaretref01_Full.cuts) Try.func19 (Abs.enters_of Try.func19 (by kernel_rfl) (by kernel_rfl)) cellaretref01_Full.ok cellaretref01_Full.eq
def l3 : List (Nat × Bool × Abs.Spec) := (19, true, S_cellaretref01_Full) :: l2
theorem ok3 : SpecsOk Try.prog (spOf l3) := SpecsOk.cons ok2 cellaretref01_Full.fn (fun _ _ _ _ _ h => cellaretref01_Full.quiet h)
def flat_Flat_may.cuts : Cuts := fun k => match k with | _ => none
theorem flat_Flat_may.eq (x0 x1 x2 : AVal) (H : AHeap) (K : AVal → AHeap → Prop) : evFn Try.prog (spOf l3) flat_Flat_may.cuts Try.f28 [x0, x1, x2] H K = flat_Flat_may.w x0 x1 x2 H K := by kernel_rfl
theorem flat_Flat_may.fn : FnOk Try.prog 28 S_flat_Flat_may := fn_ok3E ok3 mixed (T := flat_Flat_may.cuts) Try.func28 (Abs.enters_of Try.func28 (by kernel_rfl) (by kernel_rfl)) flat_Flat_may.ok flat_Flat_may.eq
def l4 : List (Nat × Bool × Abs.Spec) := (28, true, S_flat_Flat_may) :: l3
theorem ok4 : SpecsOk Try.prog (spOf l4) := SpecsOk.cons ok3 flat_Flat_may.fn (fun _ _ _ _ _ h => flat_Flat_may.quiet h)
def flat_Flat_data.cuts : Cuts := fun k => match k with | 1000001 => some ⟨[], [6], [.normal, .ret]⟩ | _ => none
theorem flat_Flat_data.eq (x0 x1 x2 : AVal) (H : AHeap) (K : AVal → AHeap → Prop) : evFn Try.prog (spOf l4) flat_Flat_data.cuts Try.f24 [x0, x1, x2] H K = flat_Flat_data.w x0 x1 x2 H K := by kernel_rfl
theorem flat_Flat_data.fn : FnOk Try.prog 24 S_flat_Flat_data := fn_ok3E ok4 mixed (T := flat_Flat_data.cuts) Try.func24 (Abs.enters_of Try.func24 (by kernel_rfl) (by kernel_rfl)) flat_Flat_data.ok flat_Flat_data.eq
def l5 : List (Nat × Bool × Abs.Spec) := (24, true, S_flat_Flat_data) :: l4
theorem ok5 : SpecsOk Try.prog (spOf l5) := SpecsOk.cons ok4 flat_Flat_data.fn (fun _ _ _ _ _ h => flat_Flat_data.quiet h)
def flat_chain_last.cuts : Cuts := fun k => match k with | _ => none
theorem flat_chain_last.eq (x0 : AVal) (H : AHeap) (K : AVal → AHeap → Prop) : evFn Try.prog (spOf l5) flat_chain_last.cuts Try.f26 [x0] H K = flat_chain_last.w x0 H K := by kernel_rfl
theorem flat_chain_last.fn : FnOk Try.prog 26 S_flat_chain_last := fn_ok1E ok5 mixed (T := flat_chain_last.cuts) Try.func26 (Abs.enters_of Try.func26 (by kernel_rfl) (by kernel_rfl)) flat_chain_last.ok flat_chain_last.eq
def l6 : List (Nat × Bool × Abs.Spec) := (26, true, S_flat_chain_last) :: l5
theorem ok6 : SpecsOk Try.prog (spOf l6) := SpecsOk.cons ok5 flat_chain_last.fn (fun _ _ _ _ _ h => flat_chain_last.quiet h)
def slices_Clone_flat_state_string.cuts : Cuts := fun k => match k with | _ => none
theorem slices_Clone_flat_state_string.eq (x0 : AVal) (H : AHeap) (K : AVal → AHeap → Prop) : evFn Try.prog (spOf l6) slices_Clone_flat_state_string.cuts Try.f40 [x0] H K = slices_Clone_flat_state_string.w x0 H K := by kernel_rfl
theorem slices_Clone_flat_state_string.fn : FnOk Try.prog 40 S_slices_Clone_flat_state_string := fn_ok1E ok6 mixed (T := slices_Clone_flat_state_string.cuts) Try.func40 (Abs.enters_of Try.func40 (by kernel_rfl) (by kernel_rfl)) slices_Clone_flat_state_string.ok slices_Clone_flat_state_string.eq
def l7 : List (Nat × Bool × Abs.Spec) := (40, true, S_slices_Clone_flat_state_string) :: l6
theorem ok7 : SpecsOk Try.prog (spOf l7) := SpecsOk.cons ok6 slices_Clone_flat_state_string.fn (fun _ _ _ _ _ h => slices_Clone_flat_state_string.quiet h)
def slices_Clone_flat_chain_flat_chain.cuts : Cuts := fun k => match k with | _ => none
theorem slices_Clone_flat_chain_flat_chain.eq (x0 : AVal) (H : AHeap) (K : AVal → AHeap → Prop) : evFn Try.prog (spOf l7) slices_Clone_flat_chain_flat_chain.cuts Try.f32 [x0] H K = slices_Clone_flat_chain_flat_chain.w x0 H K := by kernel_rfl
theorem slices_Clone_flat_chain_flat_chain.fn : FnOk Try.prog 32 S_slices_Clone_flat_chain_flat_chain := fn_ok1E ok7 mixed (T := slices_Clone_flat_chain_flat_chain.cuts) Try.func32 (Abs.enters_of Try.func32 (by kernel_rfl) (by kernel_rfl)) slices_Clone_flat_chain_flat_chain.ok slices_Clone_flat_chain_flat_chain.eq
def l8 : List (Nat × Bool × Abs.Spec) := (32, true, S_slices_Clone_flat_chain_flat_chain) :: l7
theorem ok8 : SpecsOk Try.prog (spOf l8) := SpecsOk.cons ok7 slices_Clone_flat_chain_flat_chain.fn (fun _ _ _ _ _ h => slices_Clone_flat_chain_flat_chain.quiet h)
def slices_Equal_flat_state_string.cuts : Cuts := fun k => match k with | 4 => some ⟨[13], [4], [(.exit 0), .ret]⟩ | _ => none
theorem slices_Equal_flat_state_string.eq (x0 x1 : AVal) (H : AHeap) (K : AVal → AHeap → Prop) : evFn Try.prog (spOf l8) slices_Equal_flat_state_string.cuts Try.f42 [x0, x1] H K = slices_Equal_flat_state_string.w x0 x1 H K := by kernel_rfl
theorem slices_Equal_flat_state_string.fn : FnOk Try.prog 42 S_slices_Equal_flat_state_string := fn_ok2E ok8 mixed (T := slices_Equal_flat_state_string.cuts) Try.func42 (Abs.enters_of Try.func42 (by kernel_rfl) (by kernel_rfl)) slices_Equal_flat_state_string.ok slices_Equal_flat_state_string.eq
def l9 : List (Nat × Bool × Abs.Spec) := (42, true, S_slices_Equal_flat_state_string) :: l8
theorem ok9 : SpecsOk Try.prog (spOf l9) := SpecsOk.cons ok8 slices_Equal_flat_state_string.fn (fun _ _ _ _ _ h => slices_Equal_flat_state_string.quiet h)
def flat_state_same.cuts : Cuts := fun k => match k with | _ => none
theorem flat_state_same.eq (x0 x1 : AVal) (H : AHeap) (K : AVal → AHeap → Prop) : evFn Try.prog (spOf l9) flat_state_same.cuts Try.f31 [x0, x1] H K = flat_state_same.w x0 x1 H K := by kernel_rfl
theorem flat_state_same.fn : FnOk Try.prog 31 S_flat_state_same := fn_ok2E ok9 mixed (T := flat_state_same.cuts) Try.func31 (Abs.enters_of Try.func31 (by kernel_rfl) (by kernel_rfl)) flat_state_same.ok flat_state_same.eq
def l10 : List (Nat × Bool × Abs.Spec) := (31, true, S_flat_state_same) :: l9
theorem ok10 : SpecsOk Try.prog (spOf l10) := SpecsOk.cons ok9 flat_state_same.fn (fun _ _ _ _ _ h => flat_state_same.quiet h)
def flat_state_with.cuts : Cuts := fun k => match k with | 3 => some ⟨[8], [], [(.exit 0)]⟩ | _ => none
theorem flat_state_with.eq (x0 x1 x2 : AVal) (H : AHeap) (K : AVal → AHeap → Prop) : evFn Try.prog (spOf l10) flat_state_with.cuts Try.f27 [x0, x1, x2] H K = flat_state_with.w x0 x1 x2 H K := by kernel_rfl
theorem flat_state_with.fn : FnOk Try.prog 27 S_flat_state_with := fn_ok3E ok10 mixed (T := flat_state_with.cuts) Try.func27 (Abs.enters_of Try.func27 (by kernel_rfl) (by kernel_rfl)) flat_state_with.ok flat_state_with.eq
def l11 : List (Nat × Bool × Abs.Spec) := (27, true, S_flat_state_with) :: l10
theorem ok11 : SpecsOk Try.prog (spOf l11) := SpecsOk.cons ok10 flat_state_with.fn (fun _ _ _ _ _ h => flat_state_with.quiet h)
def flat_state_part.cuts : Cuts := fun k => match k with | _ => none
theorem flat_state_part.eq (x0 x1 x2 : AVal) (H : AHeap) (K : AVal → AHeap → Prop) : evFn Try.prog (spOf l11) flat_state_part.cuts Try.f29 [x0, x1, x2] H K = flat_state_part.w x0 x1 x2 H K := by kernel_rfl
theorem flat_state_part.fn : FnOk Try.prog 29 S_flat_state_part := fn_ok3E ok11 mixed (T := flat_state_part.cuts) Try.func29 (Abs.enters_of Try.func29 (by kernel_rfl) (by kernel_rfl)) flat_state_part.ok flat_state_part.eq
def l12 : List (Nat × Bool × Abs.Spec) := (29, true, S_flat_state_part) :: l11
theorem ok12 : SpecsOk Try.prog (spOf l12) := SpecsOk.cons ok11 flat_state_part.fn (fun _ _ _ _ _ h => flat_state_part.quiet h)
def flat_Flat_Write_1.cuts : Cuts := fun k => match k with | _ => none
theorem flat_Flat_Write_1.eq (x0 x1 x2 : AVal) (H : AHeap) (K : AVal → AHeap → Prop) : evFn Try.prog (spOf l12) flat_Flat_Write_1.cuts Try.f25 [x0, x1, x2] H K = flat_Flat_Write_1.w x0 x1 x2 H K := by kernel_rfl
theorem flat_Flat_Write_1.fn : FnOk Try.prog 25 S_flat_Flat_Write_1 := fn_ok3E ok12 mixed (T := flat_Flat_Write_1.cuts) Try.func25 (Abs.enters_of Try.func25 (by kernel_rfl) (by kernel_rfl)) flat_Flat_Write_1.ok flat_Flat_Write_1.eq
def l13 : List (Nat × Bool × Abs.Spec) := (25, true, S_flat_Flat_Write_1) :: l12
theorem ok13 : SpecsOk Try.prog (spOf l13) := SpecsOk.cons ok12 flat_Flat_Write_1.fn (fun _ _ _ _ _ h => flat_Flat_Write_1.quiet h)
def flat_Flat_Write.cuts : Cuts := fun k => match k with | 6 => some ⟨[24], [], [(.exit 0)]⟩ | 10000008 => some ⟨[3, 7], [0, 1, 2, 4, 5, 6, 7, 3, 8, 9], []⟩ | _ => none
theorem flat_Flat_Write.eq (x0 x1 x2 : AVal) (H : AHeap) (K : AVal → AHeap → Prop) : evFn Try.prog (spOf l13) flat_Flat_Write.cuts Try.f11 [x0, x1, x2] H K = flat_Flat_Write.w x0 x1 x2 H K := by kernel_rfl
theorem flat_Flat_Write.fn : FnOk Try.prog 11 S_flat_Flat_Write := fn_ok3E ok13 mixed (T := flat_Flat_Write.cuts) Try.func11 (Abs.enters_of Try.func11 (by kernel_rfl) (by kernel_rfl)) flat_Flat_Write.ok flat_Flat_Write.eq
def l14 : List (Nat × Bool × Abs.Spec) := (11, false, S_flat_Flat_Write) :: l13
theorem ok14 : SpecsOk Try.prog (spOf l14) := SpecsOk.cons ok13 flat_Flat_Write.fn (fun h => by cases h)
def flat_Flat_Discard.cuts : Cuts := fun k => match k with | _ => none
theorem flat_Flat_Discard.eq (x0 x1 x2 : AVal) (H : AHeap) (K : AVal → AHeap → Prop) : evFn Try.prog (spOf l14) flat_Flat_Discard.cuts Try.f12 [x0, x1, x2] H K = flat_Flat_Discard.w x0 x1 x2 H K := by kernel_rfl
theorem flat_Flat_Discard.fn : FnOk Try.prog 12 S_flat_Flat_Discard := fn_ok3E ok14 mixed (T := flat_Flat_Discard.cuts) Try.func12 (Abs.enters_of Try.func12 (by kernel_rfl) (by kernel_rfl)) flat_Flat_Discard.ok flat_Flat_Discard.eq
def l15 : List (Nat × Bool × Abs.Spec) := (12, false, S_flat_Flat_Discard) :: l14
theorem ok15 : SpecsOk Try.prog (spOf l15) := SpecsOk.cons ok14 flat_Flat_Discard.fn (fun h => by cases h)
def flat_Flat_Read.cuts : Cuts := fun k => match k with | 6 => some ⟨[34], [6, 7], [(.exit 0), .ret]⟩ | _ => none
theorem flat_Flat_Read.eq (x0 x1 x2 : AVal) (H : AHeap) (K : AVal → AHeap → Prop) : evFn Try.prog (spOf l15) flat_Flat_Read.cuts Try.f15 [x0, x1, x2] H K = flat_Flat_Read.w x0 x1 x2 H K := by kernel_rfl
theorem flat_Flat_Read.fn : FnOk Try.prog 15 S_flat_Flat_Read := fn_ok3E ok15 mixed (T := flat_Flat_Read.cuts) Try.func15 (Abs.enters_of Try.func15 (by kernel_rfl) (by kernel_rfl)) flat_Flat_Read.ok flat_Flat_Read.eq
def l16 : List (Nat × Bool × Abs.Spec) := (15, true, S_flat_Flat_Read) :: l15
theorem ok16 : SpecsOk Try.prog (spOf l16) := SpecsOk.cons ok15 flat_Flat_Read.fn (fun _ _ _ _ _ h => flat_Flat_Read.quiet h)
def flat_Flat_Saw.cuts : Cuts := fun k => match k with | 5 => some ⟨[7, 20], [7], [(.exit 0)]⟩ | 1000010 => some ⟨[], [], [.normal]⟩ | _ => none
theorem flat_Flat_Saw.eq (x0 x1 x2 : AVal) (H : AHeap) (K : AVal → AHeap → Prop) : evFn Try.prog (spOf l16) flat_Flat_Saw.cuts Try.f13 [x0, x1, x2] H K = flat_Flat_Saw.w x0 x1 x2 H K := by kernel_rfl
theorem flat_Flat_Saw.fn : FnOk Try.prog 13 S_flat_Flat_Saw := fn_ok3E ok16 mixed (T := flat_Flat_Saw.cuts) Try.func13 (Abs.enters_of Try.func13 (by kernel_rfl) (by kernel_rfl)) flat_Flat_Saw.ok flat_Flat_Saw.eq
def l17 : List (Nat × Bool × Abs.Spec) := (13, false, S_flat_Flat_Saw) :: l16
theorem ok17 : SpecsOk Try.prog (spOf l17) := SpecsOk.cons ok16 flat_Flat_Saw.fn (fun h => by cases h)
def flat_Flat_Safe.cuts : Cuts := fun k => match k with | 2 => some ⟨[11], [], [(.exit 0)]⟩ | _ => none
theorem flat_Flat_Safe.eq (x0 : AVal) (H : AHeap) (K : AVal → AHeap → Prop) : evFn Try.prog (spOf l17) flat_Flat_Safe.cuts Try.f14 [x0] H K = flat_Flat_Safe.w x0 H K := by kernel_rfl
theorem flat_Flat_Safe.fn : FnOk Try.prog 14 S_flat_Flat_Safe := fn_ok1E ok17 mixed (T := flat_Flat_Safe.cuts) Try.func14 (Abs.enters_of Try.func14 (by kernel_rfl) (by kernel_rfl)) flat_Flat_Safe.ok flat_Flat_Safe.eq
def l18 : List (Nat × Bool × Abs.Spec) := (14, false, S_flat_Flat_Safe) :: l17
theorem ok18 : SpecsOk Try.prog (spOf l18) := SpecsOk.cons ok17 flat_Flat_Safe.fn (fun h => by cases h)
def flat_Flat_Crash_1.cuts : Cuts := fun k => match k with | 4 => some ⟨[5, 12], [5], [(.exit 0)]⟩ | _ => none
theorem flat_Flat_Crash_1.eq (x0 x1 : AVal) (H : AHeap) (K : AVal → AHeap → Prop) : evFn Try.prog (spOf l18) flat_Flat_Crash_1.cuts Try.f30 [x0, x1] H K = flat_Flat_Crash_1.w x0 x1 H K := by kernel_rfl
theorem flat_Flat_Crash_1.fn : FnOk Try.prog 30 S_flat_Flat_Crash_1 := fn_ok2E ok18 mixed (T := flat_Flat_Crash_1.cuts) Try.func30 (Abs.enters_of Try.func30 (by kernel_rfl) (by kernel_rfl)) flat_Flat_Crash_1.ok flat_Flat_Crash_1.eq
def l19 : List (Nat × Bool × Abs.Spec) := (30, true, S_flat_Flat_Crash_1) :: l18
theorem ok19 : SpecsOk Try.prog (spOf l19) := SpecsOk.cons ok18 flat_Flat_Crash_1.fn (fun _ _ _ _ _ h => flat_Flat_Crash_1.quiet h)
def flat_Flat_Crash.cuts : Cuts := fun k => match k with | 4 => some ⟨[16], [], [(.exit 0)]⟩ | 7 => some ⟨[22], [], [(.exit 2)]⟩ | _ => none
theorem flat_Flat_Crash.eq (x0 : AVal) (H : AHeap) (K : AVal → AHeap → Prop) : evFn Try.prog (spOf l19) flat_Flat_Crash.cuts Try.f17 [x0] H K = flat_Flat_Crash.w x0 H K := by kernel_rfl
theorem flat_Flat_Crash.fn : FnOk Try.prog 17 S_flat_Flat_Crash := fn_ok1E ok19 mixed (T := flat_Flat_Crash.cuts) Try.func17 (Abs.enters_of Try.func17 (by kernel_rfl) (by kernel_rfl)) flat_Flat_Crash.ok flat_Flat_Crash.eq
def l20 : List (Nat × Bool × Abs.Spec) := (17, false, S_flat_Flat_Crash) :: l19
theorem ok20 : SpecsOk Try.prog (spOf l20) := SpecsOk.cons ok19 flat_Flat_Crash.fn (fun h => by cases h)
def flat_Flat_Worlds.cuts : Cuts := fun k => match k with | _ => none
theorem flat_Flat_Worlds.eq (x0 : AVal) (H : AHeap) (K : AVal → AHeap → Prop) : evFn Try.prog (spOf l20) flat_Flat_Worlds.cuts Try.f16 [x0] H K = flat_Flat_Worlds.w x0 H K := by kernel_rfl
theorem flat_Flat_Worlds.fn : FnOk Try.prog 16 S_flat_Flat_Worlds := fn_ok1E ok20 mixed (T := flat_Flat_Worlds.cuts) Try.func16 (Abs.enters_of Try.func16 (by kernel_rfl) (by kernel_rfl)) flat_Flat_Worlds.ok flat_Flat_Worlds.eq
def l21 : List (Nat × Bool × Abs.Spec) := (16, true, S_flat_Flat_Worlds) :: l20
theorem ok21 : SpecsOk Try.prog (spOf l21) := SpecsOk.cons ok20 flat_Flat_Worlds.fn (fun _ _ _ _ _ h => flat_Flat_Worlds.quiet h)
def flat_Flat_States.cuts : Cuts := fun k => match k with | 5 => some ⟨[3, 14], [3], [(.exit 0)]⟩ | _ => none
theorem flat_Flat_States.eq (x0 : AVal) (H : AHeap) (K : AVal → AHeap → Prop) : evFn Try.prog (spOf l21) flat_Flat_States.cuts Try.f22 [x0] H K = flat_Flat_States.w x0 H K := by kernel_rfl
theorem flat_Flat_States.fn : FnOk Try.prog 22 S_flat_Flat_States := fn_ok1E ok21 mixed (T := flat_Flat_States.cuts) Try.func22 (Abs.enters_of Try.func22 (by kernel_rfl) (by kernel_rfl)) flat_Flat_States.ok flat_Flat_States.eq
def l22 : List (Nat × Bool × Abs.Spec) := (22, true, S_flat_Flat_States) :: l21
theorem ok22 : SpecsOk Try.prog (spOf l22) := SpecsOk.cons ok21 flat_Flat_States.fn (fun _ _ _ _ _ h => flat_Flat_States.quiet h)
def flat_Flat_Copy.cuts : Cuts := fun k => match k with | _ => none
theorem flat_Flat_Copy.eq (x0 : AVal) (H : AHeap) (K : AVal → AHeap → Prop) : evFn Try.prog (spOf l22) flat_Flat_Copy.cuts Try.f18 [x0] H K = flat_Flat_Copy.w x0 H K := by kernel_rfl
theorem flat_Flat_Copy.fn : FnOk Try.prog 18 S_flat_Flat_Copy := fn_ok1E ok22 mixed (T := flat_Flat_Copy.cuts) Try.func18 (Abs.enters_of Try.func18 (by kernel_rfl) (by kernel_rfl)) flat_Flat_Copy.ok flat_Flat_Copy.eq
def l23 : List (Nat × Bool × Abs.Spec) := (18, true, S_flat_Flat_Copy) :: l22
theorem ok23 : SpecsOk Try.prog (spOf l23) := SpecsOk.cons ok22 flat_Flat_Copy.fn (fun _ _ _ _ _ h => flat_Flat_Copy.quiet h)
def flat_New.cuts : Cuts := fun k => match k with | 1000001 => some ⟨[], [2, 3], [.normal, .ret]⟩ | 5 => some ⟨[16], [], [(.exit 0)]⟩ | _ => none
theorem flat_New.eq (x0 : AVal) (H : AHeap) (K : AVal → AHeap → Prop) : evFn Try.prog (spOf l23) flat_New.cuts Try.f7 [x0] H K = flat_New.w x0 H K := by kernel_rfl
theorem flat_New.fn : FnOk Try.prog 7 S_flat_New := fn_ok1E ok23 mixed (T := flat_New.cuts) Try.func7 (Abs.enters_of Try.func7 (by kernel_rfl) (by kernel_rfl)) flat_New.ok flat_New.eq
def l24 : List (Nat × Bool × Abs.Spec) := (7, true, S_flat_New) :: l23
theorem ok24 : SpecsOk Try.prog (spOf l24) := SpecsOk.cons ok23 flat_New.fn (fun _ _ _ _ _ h => flat_New.quiet h)
def cellaretref26_New.cuts : Cuts := fun k => match k with | _ => none
theorem cellaretref26_New.eq (x0 : AVal) (H : AHeap) (K : AVal → AHeap → Prop) : evFn Try.prog (spOf l24) cellaretref26_New.cuts Try.f20 [x0] H K = cellaretref26_New.w x0 H K := by kernel_rfl
theorem cellaretref26_New.fn : FnOk Try.prog 20 S_cellaretref26_New := fn_ok1E ok24 mixed (T := cellaretref26_New.cuts) Try.func20 (Abs.enters_of Try.func20 (by kernel_rfl) (by kernel_rfl)) cellaretref26_New.ok cellaretref26_New.eq
def l25 : List (Nat × Bool × Abs.Spec) := (20, true, S_cellaretref26_New) :: l24
theorem ok25 : SpecsOk Try.prog (spOf l25) := SpecsOk.cons ok24 cellaretref26_New.fn (fun _ _ _ _ _ h => cellaretref26_New.quiet h)
def cellaretref26_Flat_May.cuts : Cuts := fun k => match k with | 1000003 => some ⟨[], [6], [.normal, .ret]⟩ | _ => none
theorem cellaretref26_Flat_May.eq (x0 x1 x2 : AVal) (H : AHeap) (K : AVal → AHeap → Prop) : evFn Try.prog (spOf l25) cellaretref26_Flat_May.cuts Try.f35 [x0, x1, x2] H K = cellaretref26_Flat_May.w x0 x1 x2 H K := by kernel_rfl
theorem cellaretref26_Flat_May.fn : FnOk Try.prog 35 S_cellaretref26_Flat_May := fn_ok3E ok25 mixed (T := cellaretref26_Flat_May.cuts) Try.func35 (Abs.enters_of Try.func35 (by kernel_rfl) (by kernel_rfl)) cellaretref26_Flat_May.ok cellaretref26_Flat_May.eq
def l26 : List (Nat × Bool × Abs.Spec) := (35, true, S_cellaretref26_Flat_May) :: l25
theorem ok26 : SpecsOk Try.prog (spOf l26) := SpecsOk.cons ok25 cellaretref26_Flat_May.fn (fun _ _ _ _ _ h => cellaretref26_Flat_May.quiet h)
def cellaretref26_Flat_Data.cuts : Cuts := fun k => match k with | 1000001 => some ⟨[], [6], [.normal, .ret]⟩ | _ => none
theorem cellaretref26_Flat_Data.eq (x0 x1 x2 : AVal) (H : AHeap) (K : AVal → AHeap → Prop) : evFn Try.prog (spOf l26) cellaretref26_Flat_Data.cuts Try.f33 [x0, x1, x2] H K = cellaretref26_Flat_Data.w x0 x1 x2 H K := by kernel_rfl
theorem cellaretref26_Flat_Data.fn : FnOk Try.prog 33 S_cellaretref26_Flat_Data := fn_ok3E ok26 mixed (T := cellaretref26_Flat_Data.cuts) Try.func33 (Abs.enters_of Try.func33 (by kernel_rfl) (by kernel_rfl)) cellaretref26_Flat_Data.ok cellaretref26_Flat_Data.eq
def l27 : List (Nat × Bool × Abs.Spec) := (33, true, S_cellaretref26_Flat_Data) :: l26
theorem ok27 : SpecsOk Try.prog (spOf l27) := SpecsOk.cons ok26 cellaretref26_Flat_Data.fn (fun _ _ _ _ _ h => cellaretref26_Flat_Data.quiet h)
def cellaretref26_Chain_Last.cuts : Cuts := fun k => match k with | _ => none
theorem cellaretref26_Chain_Last.eq (x0 : AVal) (H : AHeap) (K : AVal → AHeap → Prop) : evFn Try.prog (spOf l27) cellaretref26_Chain_Last.cuts Try.f43 [x0] H K = cellaretref26_Chain_Last.w x0 H K := by kernel_rfl
theorem cellaretref26_Chain_Last.fn : FnOk Try.prog 43 S_cellaretref26_Chain_Last := fn_ok1E ok27 mixed (T := cellaretref26_Chain_Last.cuts) Try.func43 (Abs.enters_of Try.func43 (by kernel_rfl) (by kernel_rfl)) cellaretref26_Chain_Last.ok cellaretref26_Chain_Last.eq
def l28 : List (Nat × Bool × Abs.Spec) := (43, true, S_cellaretref26_Chain_Last) :: l27
theorem ok28 : SpecsOk Try.prog (spOf l28) := SpecsOk.cons ok27 cellaretref26_Chain_Last.fn (fun _ _ _ _ _ h => cellaretref26_Chain_Last.quiet h)
def cellaretref26_Flat_Write.cuts : Cuts := fun k => match k with | 2 => some ⟨[6, 7], [6], [(.exit 0)]⟩ | _ => none
theorem cellaretref26_Flat_Write.eq (x0 x1 x2 : AVal) (H : AHeap) (K : AVal → AHeap → Prop) : evFn Try.prog (spOf l28) cellaretref26_Flat_Write.cuts Try.f34 [x0, x1, x2] H K = cellaretref26_Flat_Write.w x0 x1 x2 H K := by kernel_rfl
theorem cellaretref26_Flat_Write.fn : FnOk Try.prog 34 S_cellaretref26_Flat_Write := fn_ok3E ok28 mixed (T := cellaretref26_Flat_Write.cuts) Try.func34 (Abs.enters_of Try.func34 (by kernel_rfl) (by kernel_rfl)) cellaretref26_Flat_Write.ok cellaretref26_Flat_Write.eq
def l29 : List (Nat × Bool × Abs.Spec) := (34, false, S_cellaretref26_Flat_Write) :: l28
theorem ok29 : SpecsOk Try.prog (spOf l29) := SpecsOk.cons ok28 cellaretref26_Flat_Write.fn (fun h => by cases h)
def cellaretref26_Flat_Saw.cuts : Cuts := fun k => match k with | 3 => some ⟨[7, 8], [7], [(.exit 0)]⟩ | _ => none
theorem cellaretref26_Flat_Saw.eq (x0 x1 x2 : AVal) (H : AHeap) (K : AVal → AHeap → Prop) : evFn Try.prog (spOf l29) cellaretref26_Flat_Saw.cuts Try.f36 [x0, x1, x2] H K = cellaretref26_Flat_Saw.w x0 x1 x2 H K := by kernel_rfl
theorem cellaretref26_Flat_Saw.fn : FnOk Try.prog 36 S_cellaretref26_Flat_Saw := fn_ok3E ok29 mixed (T := cellaretref26_Flat_Saw.cuts) Try.func36 (Abs.enters_of Try.func36 (by kernel_rfl) (by kernel_rfl)) cellaretref26_Flat_Saw.ok cellaretref26_Flat_Saw.eq
def l30 : List (Nat × Bool × Abs.Spec) := (36, false, S_cellaretref26_Flat_Saw) :: l29
theorem ok30 : SpecsOk Try.prog (spOf l30) := SpecsOk.cons ok29 cellaretref26_Flat_Saw.fn (fun h => by cases h)
def cellaretref26_Flat_Safe.cuts : Cuts := fun k => match k with | 2 => some ⟨[2, 3], [2], [(.exit 0)]⟩ | _ => none
theorem cellaretref26_Flat_Safe.eq (x0 : AVal) (H : AHeap) (K : AVal → AHeap → Prop) : evFn Try.prog (spOf l30) cellaretref26_Flat_Safe.cuts Try.f37 [x0] H K = cellaretref26_Flat_Safe.w x0 H K := by kernel_rfl
theorem cellaretref26_Flat_Safe.fn : FnOk Try.prog 37 S_cellaretref26_Flat_Safe := fn_ok1E ok30 mixed (T := cellaretref26_Flat_Safe.cuts) Try.func37 (Abs.enters_of Try.func37 (by kernel_rfl) (by kernel_rfl)) cellaretref26_Flat_Safe.ok cellaretref26_Flat_Safe.eq
def l31 : List (Nat × Bool × Abs.Spec) := (37, false, S_cellaretref26_Flat_Safe) :: l30
theorem ok31 : SpecsOk Try.prog (spOf l31) := SpecsOk.cons ok30 cellaretref26_Flat_Safe.fn (fun h => by cases h)
def cellaretref26_Flat_Crash.cuts : Cuts := fun k => match k with | 2 => some ⟨[2, 3], [2], [(.exit 0)]⟩ | 5 => some ⟨[2, 4], [2], [(.exit 2)]⟩ | 10 => some ⟨[6, 7], [6], [(.exit 4)]⟩ | 17 => some ⟨[8, 9], [8], [(.exit 6)]⟩ | _ => none
theorem cellaretref26_Flat_Crash.eq (x0 : AVal) (H : AHeap) (K : AVal → AHeap → Prop) : evFn Try.prog (spOf l31) cellaretref26_Flat_Crash.cuts Try.f38 [x0] H K = cellaretref26_Flat_Crash.w x0 H K := by kernel_rfl
theorem cellaretref26_Flat_Crash.fn : FnOk Try.prog 38 S_cellaretref26_Flat_Crash := fn_ok1E ok31 mixed (T := cellaretref26_Flat_Crash.cuts) Try.func38 (Abs.enters_of Try.func38 (by kernel_rfl) (by kernel_rfl)) cellaretref26_Flat_Crash.ok cellaretref26_Flat_Crash.eq
def l32 : List (Nat × Bool × Abs.Spec) := (38, false, S_cellaretref26_Flat_Crash) :: l31
theorem ok32 : SpecsOk Try.prog (spOf l32) := SpecsOk.cons ok31 cellaretref26_Flat_Crash.fn (fun h => by cases h)
def cellaretref26_Flat_Read.cuts : Cuts := fun k => match k with | 3 => some ⟨[9], [6, 7], [(.exit 0), .ret]⟩ | _ => none
theorem cellaretref26_Flat_Read.eq (x0 x1 x2 : AVal) (H : AHeap) (K : AVal → AHeap → Prop) : evFn Try.prog (spOf l32) cellaretref26_Flat_Read.cuts Try.f39 [x0, x1, x2] H K = cellaretref26_Flat_Read.w x0 x1 x2 H K := by kernel_rfl
theorem cellaretref26_Flat_Read.fn : FnOk Try.prog 39 S_cellaretref26_Flat_Read := fn_ok3E ok32 mixed (T := cellaretref26_Flat_Read.cuts) Try.func39 (Abs.enters_of Try.func39 (by kernel_rfl) (by kernel_rfl)) cellaretref26_Flat_Read.ok cellaretref26_Flat_Read.eq
def l33 : List (Nat × Bool × Abs.Spec) := (39, true, S_cellaretref26_Flat_Read) :: l32
theorem ok33 : SpecsOk Try.prog (spOf l33) := SpecsOk.cons ok32 cellaretref26_Flat_Read.fn (fun _ _ _ _ _ h => cellaretref26_Flat_Read.quiet h)
def cellaretref26_Flat_States.cuts : Cuts := fun k => match k with | 3 => some ⟨[3, 4], [3], [(.exit 0)]⟩ | _ => none
theorem cellaretref26_Flat_States.eq (x0 : AVal) (H : AHeap) (K : AVal → AHeap → Prop) : evFn Try.prog (spOf l33) cellaretref26_Flat_States.cuts Try.f23 [x0] H K = cellaretref26_Flat_States.w x0 H K := by kernel_rfl
theorem cellaretref26_Flat_States.fn : FnOk Try.prog 23 S_cellaretref26_Flat_States := fn_ok1E ok33 mixed (T := cellaretref26_Flat_States.cuts) Try.func23 (Abs.enters_of Try.func23 (by kernel_rfl) (by kernel_rfl)) cellaretref26_Flat_States.ok cellaretref26_Flat_States.eq
def l34 : List (Nat × Bool × Abs.Spec) := (23, true, S_cellaretref26_Flat_States) :: l33
theorem ok34 : SpecsOk Try.prog (spOf l34) := SpecsOk.cons ok33 cellaretref26_Flat_States.fn (fun _ _ _ _ _ h => cellaretref26_Flat_States.quiet h)
def cellaretlaw26_data.cuts : Cuts := fun k => match k with | 4 => some ⟨[5], [], [(.exit 0)]⟩ | 1000007 => some ⟨[], [4], [.normal]⟩ | _ => none
theorem cellaretlaw26_data.eq (x0 : AVal) (H : AHeap) (K : AVal → AHeap → Prop) : evFn Try.prog (spOf l34) cellaretlaw26_data.cuts Try.f10 [x0] H K = cellaretlaw26_data.w x0 H K := by kernel_rfl
theorem cellaretlaw26_data.fn : FnOk Try.prog 10 S_cellaretlaw26_data := fn_ok1E ok34 mixed (T := cellaretlaw26_data.cuts) Try.func10 (Abs.enters_of Try.func10 (by kernel_rfl) (by kernel_rfl)) cellaretlaw26_data.ok cellaretlaw26_data.eq
def l35 : List (Nat × Bool × Abs.Spec) := (10, true, S_cellaretlaw26_data) :: l34
theorem ok35 : SpecsOk Try.prog (spOf l35) := SpecsOk.cons ok34 cellaretlaw26_data.fn (fun _ _ _ _ _ h => cellaretlaw26_data.quiet h)
def cellaretlaw26_awake.cuts : Cuts := fun k => match k with | 1000003 => some ⟨[], [0], [.normal, .ret]⟩ | _ => none
theorem cellaretlaw26_awake.eq (H : AHeap) (K : AVal → AHeap → Prop) : evFn Try.prog (spOf l35) cellaretlaw26_awake.cuts Try.f8 [] H K = cellaretlaw26_awake.w H K := by kernel_rfl
theorem cellaretlaw26_awake.fn : FnOk Try.prog 8 S_cellaretlaw26_awake := fn_ok0E ok35 mixed (T := cellaretlaw26_awake.cuts) Try.func8 (Abs.enters_of Try.func8 (by kernel_rfl) (by kernel_rfl)) cellaretlaw26_awake.ok cellaretlaw26_awake.eq
def l36 : List (Nat × Bool × Abs.Spec) := (8, true, S_cellaretlaw26_awake) :: l35
theorem ok36 : SpecsOk Try.prog (spOf l36) := SpecsOk.cons ok35 cellaretlaw26_awake.fn (fun _ _ _ _ _ h => cellaretlaw26_awake.quiet h)
def cellaretlaw26_do.cuts : Cuts := fun k => match k with | 1000004 => some ⟨[], [24], [.normal]⟩ | 1000007 => some ⟨[], [], [.normal]⟩ | 1000012 => some ⟨[], [], [.normal]⟩ | 10000018 => some ⟨[4, 7], [0, 1, 2, 3, 5, 6, 7, 4, 8, 9, 10, 11], []⟩ | _ => none
theorem cellaretlaw26_do.eq (x0 x1 x2 : AVal) (H : AHeap) (K : AVal → AHeap → Prop) : evFn Try.prog (spOf l36) cellaretlaw26_do.cuts Try.f21 [x0, x1, x2] H K = cellaretlaw26_do.w x0 x1 x2 H K := by kernel_rfl
theorem cellaretlaw26_do.fn : FnOk Try.prog 21 S_cellaretlaw26_do := fn_ok3E ok36 mixed (T := cellaretlaw26_do.cuts) Try.func21 (Abs.enters_of Try.func21 (by kernel_rfl) (by kernel_rfl)) cellaretlaw26_do.ok cellaretlaw26_do.eq
def l37 : List (Nat × Bool × Abs.Spec) := (21, false, S_cellaretlaw26_do) :: l36
theorem ok37 : SpecsOk Try.prog (spOf l37) := SpecsOk.cons ok36 cellaretlaw26_do.fn (fun h => by cases h)
def cellaretlaw26_FlatDoes.cuts : Cuts := fun k => match k with | 1000002 => some ⟨[], [4], [.normal, .ret]⟩ | 1000005 => some ⟨[], [4], [.normal, .ret]⟩ | 8 => some ⟨[8], [4], [(.exit 0), .ret]⟩ | 1000008 => some ⟨[], [], [(.exit 0), .normal]⟩ | _ => none
theorem cellaretlaw26_FlatDoes.eq (x0 x1 : AVal) (H : AHeap) (K : AVal → AHeap → Prop) : evFn Try.prog (spOf l37) cellaretlaw26_FlatDoes.cuts Try.f5 [x0, x1] H K = cellaretlaw26_FlatDoes.w x0 x1 H K := by kernel_rfl
theorem cellaretlaw26_FlatDoes.fn : FnOk Try.prog 5 S_cellaretlaw26_FlatDoes := fn_ok2E ok37 mixed (T := cellaretlaw26_FlatDoes.cuts) Try.func5 (Abs.enters_of Try.func5 (by kernel_rfl) (by kernel_rfl)) cellaretlaw26_FlatDoes.ok cellaretlaw26_FlatDoes.eq
def l38 : List (Nat × Bool × Abs.Spec) := (5, false, S_cellaretlaw26_FlatDoes) :: l37
theorem ok38 : SpecsOk Try.prog (spOf l38) := SpecsOk.cons ok37 cellaretlaw26_FlatDoes.fn (fun h => by cases h)
def cellaretlaw26_FlatOne.cuts : Cuts := fun k => match k with | 1000003 => some ⟨[], [4], [.normal, .ret]⟩ | 7 => some ⟨[8, 9], [4], [(.exit 0), .ret]⟩ | 1000007 => some ⟨[], [], [(.exit 0), .normal]⟩ | 1000012 => some ⟨[], [54], [.normal]⟩ | _ => none
theorem cellaretlaw26_FlatOne.eq (x0 x1 : AVal) (H : AHeap) (K : AVal → AHeap → Prop) : evFn Try.prog (spOf l38) cellaretlaw26_FlatOne.cuts Try.f3 [x0, x1] H K = cellaretlaw26_FlatOne.w x0 x1 H K := by kernel_rfl
theorem cellaretlaw26_FlatOne.fn : FnOk Try.prog 3 S_cellaretlaw26_FlatOne := fn_ok2E ok38 mixed (T := cellaretlaw26_FlatOne.cuts) Try.func3 (Abs.enters_of Try.func3 (by kernel_rfl) (by kernel_rfl)) cellaretlaw26_FlatOne.ok cellaretlaw26_FlatOne.eq
def l39 : List (Nat × Bool × Abs.Spec) := (3, false, S_cellaretlaw26_FlatOne) :: l38
theorem ok39 : SpecsOk Try.prog (spOf l39) := SpecsOk.cons ok38 cellaretlaw26_FlatOne.fn (fun h => by cases h)
def cellaretlaw26_FlatAll.cuts : Cuts := fun k => match k with | 1000004 => some ⟨[], [2], [.normal, .ret]⟩ | 9 => some ⟨[10, 11, 12], [11], [(.exit 0)]⟩ | 1000009 => some ⟨[], [], [(.exit 0), .normal]⟩ | 1000013 => some ⟨[], [10, 11], [.normal]⟩ | 1000021 => some ⟨[], [2], [.normal, .ret]⟩ | 1000023 => some ⟨[], [6], [.normal]⟩ | 1000026 => some ⟨[], [16], [.normal]⟩ | 30 => some ⟨[17, 18], [17], [(.exit 2)]⟩ | _ => none
theorem cellaretlaw26_FlatAll.eq (x0 : AVal) (H : AHeap) (K : AVal → AHeap → Prop) : evFn Try.prog (spOf l39) cellaretlaw26_FlatAll.cuts Try.f4 [x0] H K = cellaretlaw26_FlatAll.w x0 H K := by kernel_rfl
theorem cellaretlaw26_FlatAll.fn : FnOk Try.prog 4 S_cellaretlaw26_FlatAll := fn_ok1E ok39 mixed (T := cellaretlaw26_FlatAll.cuts) Try.func4 (Abs.enters_of Try.func4 (by kernel_rfl) (by kernel_rfl)) cellaretlaw26_FlatAll.ok cellaretlaw26_FlatAll.eq
def l40 : List (Nat × Bool × Abs.Spec) := (4, false, S_cellaretlaw26_FlatAll) :: l39
theorem ok40 : SpecsOk Try.prog (spOf l40) := SpecsOk.cons ok39 cellaretlaw26_FlatAll.fn (fun h => by cases h)
def cellaretlaw26_FlatApart.cuts : Cuts := fun k => match k with | 1000003 => some ⟨[], [6], [.normal, .ret]⟩ | 6 => some ⟨[10], [], [(.exit 0)]⟩ | 1000006 => some ⟨[], [], [(.exit 0), .normal]⟩ | 12 => some ⟨[13], [6], [(.exit 2), .ret]⟩ | 1000012 => some ⟨[], [], [(.exit 2), .normal]⟩ | _ => none
theorem cellaretlaw26_FlatApart.eq (x0 x1 x2 : AVal) (H : AHeap) (K : AVal → AHeap → Prop) : evFn Try.prog (spOf l40) cellaretlaw26_FlatApart.cuts Try.f6 [x0, x1, x2] H K = cellaretlaw26_FlatApart.w x0 x1 x2 H K := by kernel_rfl
theorem cellaretlaw26_FlatApart.fn : FnOk Try.prog 6 S_cellaretlaw26_FlatApart := fn_ok3E ok40 mixed (T := cellaretlaw26_FlatApart.cuts) Try.func6 (Abs.enters_of Try.func6 (by kernel_rfl) (by kernel_rfl)) cellaretlaw26_FlatApart.ok cellaretlaw26_FlatApart.eq
def l41 : List (Nat × Bool × Abs.Spec) := (6, false, S_cellaretlaw26_FlatApart) :: l40
theorem ok41 : SpecsOk Try.prog (spOf l41) := SpecsOk.cons ok40 cellaretlaw26_FlatApart.fn (fun h => by cases h)
end Go.Proofs.Ytpkhbcjonaeeeaa.own
