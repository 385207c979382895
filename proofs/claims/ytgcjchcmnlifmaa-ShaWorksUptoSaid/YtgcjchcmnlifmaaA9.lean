/- A text of this proof. -/
import Derived.Test.YtgcjchcmnlifmaaRows
import Derived.KernelRfl
import Derived.Test.YtgcjchcmnlifmaaSha
import Derived.Test.YtgcjchcmnlifmaaRef
import Derived.Test.YtgcjchcmnlifmaaAbsE

/- The functions of this seat come to what is told of them: each one's code is what its printed text says (checked by the kernel), and the text is proved. Conditions: none. -/
namespace Go.Proofs.Ytgcjchcmnlifmaa.own
open Go Go.Abs Go.Sh
theorem mixed : Try.prog.follows .mixedOrders = true := by kernel_rfl
theorem bulk_mem {H : Type} {d : DataW H} : ∀ {l : List (DataW H)}, d ∈ l → Rows.uptoBulk d ≤ Rows.uptoBulkAll l
  | x :: l, h => by
    simp only [Rows.uptoBulkAll]
    rcases List.mem_cons.1 h with rfl | h
    · omega
    · have := bulk_mem h; omega
  | [], h => (by cases h)
theorem bulk_str {H : Type} {s : List UInt8} {elems spare ds : List (DataW H)} (hk : Rows.uptoSmall H ds = true) (h : DataW.slice elems spare ∈ ds) (k : DataW.lit (.string s) ∈ elems) : s.length ≤ 1048576 := by
  have h1 := bulk_mem h
  have h2 := bulk_mem k
  have h3 := of_decide_eq_true hk
  simp only [Rows.uptoBulk] at h1 h2
  omega
def l0 : List (Nat × Bool × Abs.Spec) := []
theorem ok0 : SpecsOk Try.prog (spOf l0) := SpecsOk.nil
def sha_Words.cuts : Cuts := fun k => match k with | _ => none
theorem sha_Words.eq (H : AHeap) (K : AVal → AHeap → Prop) : evFn Try.prog (spOf l0) sha_Words.cuts Try.f34 [] H K = sha_Words.w H K := by kernel_rfl
theorem sha_Words.fn : FnOk Try.prog 34 S_sha_Words := fn_ok0 ok0 mixed (T := sha_Words.cuts) Try.func34 (enters_of Try.func34 (by kernel_rfl) (by kernel_rfl)) sha_Words.ok sha_Words.eq
def l1 : List (Nat × Bool × Abs.Spec) := (34, true, S_sha_Words) :: l0
theorem ok1 : SpecsOk Try.prog (spOf l1) := SpecsOk.cons ok0 sha_Words.fn (fun _ _ _ _ _ h => sha_Words.quiet h)
def sha_constants.cuts : Cuts := fun k => match k with | _ => none
theorem sha_constants.eq (H : AHeap) (K : AVal → AHeap → Prop) : evFn Try.prog (spOf l1) sha_constants.cuts Try.f79 [] H K = sha_constants.w H K := by kernel_rfl
theorem sha_constants.fn : FnOk Try.prog 79 S_sha_constants := fn_ok0 ok1 mixed (T := sha_constants.cuts) Try.func79 (enters_of Try.func79 (by kernel_rfl) (by kernel_rfl)) sha_constants.ok sha_constants.eq
def l2 : List (Nat × Bool × Abs.Spec) := (79, true, S_sha_constants) :: l1
theorem ok2 : SpecsOk Try.prog (spOf l2) := SpecsOk.cons ok1 sha_constants.fn (fun _ _ _ _ _ h => sha_constants.quiet h)
def sha_Constant.cuts : Cuts := fun k => match k with | 1000002 => some ⟨[], [2, 3], [.normal, .ret]⟩ | _ => none
theorem sha_Constant.eq (x0 : AVal) (H : AHeap) (K : AVal → AHeap → Prop) : evFn Try.prog (spOf l2) sha_Constant.cuts Try.f33 [x0] H K = sha_Constant.w x0 H K := by kernel_rfl
theorem sha_Constant.fn : FnOk Try.prog 33 S_sha_Constant := fn_ok1 ok2 mixed (T := sha_Constant.cuts) Try.func33 (enters_of Try.func33 (by kernel_rfl) (by kernel_rfl)) sha_Constant.ok sha_Constant.eq
def l3 : List (Nat × Bool × Abs.Spec) := (33, true, S_sha_Constant) :: l2
theorem ok3 : SpecsOk Try.prog (spOf l3) := SpecsOk.cons ok2 sha_Constant.fn (fun _ _ _ _ _ h => sha_Constant.quiet h)
def sha_work.cuts : Cuts := fun k => match k with | 3 => some ⟨[26], [], [(.exit 0)]⟩ | 8 => some ⟨[7], [], [(.exit 2)]⟩ | 17 => some ⟨[13, 14, 15, 16, 17, 18, 19, 20, 133], [13, 14, 15, 16, 17, 18, 19, 20], [(.exit 4)]⟩ | _ => none
theorem sha_work.eq (x0 x1 : AVal) (H : AHeap) (K : AVal → AHeap → Prop) : evFn Try.prog (spOf l3) sha_work.cuts Try.f69 [x0, x1] H K = sha_work.w x0 x1 H K := by kernel_rfl
theorem sha_work.fn : FnOk Try.prog 69 S_sha_work := fn_ok2 ok3 mixed (T := sha_work.cuts) Try.func69 (enters_of Try.func69 (by kernel_rfl) (by kernel_rfl)) sha_work.ok sha_work.eq
def l4 : List (Nat × Bool × Abs.Spec) := (69, true, S_sha_work) :: l3
theorem ok4 : SpecsOk Try.prog (spOf l4) := SpecsOk.cons ok3 sha_work.fn (fun _ _ _ _ _ h => sha_work.quiet h)
def sha_Work.cuts : Cuts := fun k => match k with | _ => none
theorem sha_Work.eq (x0 x1 : AVal) (H : AHeap) (K : AVal → AHeap → Prop) : evFn Try.prog (spOf l4) sha_Work.cuts Try.f30 [x0, x1] H K = sha_Work.w x0 x1 H K := by kernel_rfl
theorem sha_Work.fn : FnOk Try.prog 30 S_sha_Work := fn_ok2 ok4 mixed (T := sha_Work.cuts) Try.func30 (enters_of Try.func30 (by kernel_rfl) (by kernel_rfl)) sha_Work.ok sha_Work.eq
def l5 : List (Nat × Bool × Abs.Spec) := (30, true, S_sha_Work) :: l4
theorem ok5 : SpecsOk Try.prog (spOf l5) := SpecsOk.cons ok4 sha_Work.fn (fun _ _ _ _ _ h => sha_Work.quiet h)
def sha_tail.cuts : Cuts := fun k => match k with | 2 => some ⟨[3], [3], [(.exit 0)]⟩ | 6 => some ⟨[3, 5], [3], [(.exit 2)]⟩ | _ => none
theorem sha_tail.eq (x0 : AVal) (H : AHeap) (K : AVal → AHeap → Prop) : evFn Try.prog (spOf l5) sha_tail.cuts Try.f70 [x0] H K = sha_tail.w x0 H K := by kernel_rfl
theorem sha_tail.fn : FnOk Try.prog 70 S_sha_tail := fn_ok1 ok5 mixed (T := sha_tail.cuts) Try.func70 (enters_of Try.func70 (by kernel_rfl) (by kernel_rfl)) sha_tail.ok sha_tail.eq
def l6 : List (Nat × Bool × Abs.Spec) := (70, true, S_sha_tail) :: l5
theorem ok6 : SpecsOk Try.prog (spOf l6) := SpecsOk.cons ok5 sha_tail.fn (fun _ _ _ _ _ h => sha_tail.quiet h)
def sha_Pad.cuts : Cuts := fun k => match k with | _ => none
theorem sha_Pad.eq (x0 : AVal) (H : AHeap) (K : AVal → AHeap → Prop) : evFn Try.prog (spOf l6) sha_Pad.cuts Try.f28 [x0] H K = sha_Pad.w x0 H K := by kernel_rfl
theorem sha_Pad.fn : FnOk Try.prog 28 S_sha_Pad := fn_ok1 ok6 mixed (T := sha_Pad.cuts) Try.func28 (enters_of Try.func28 (by kernel_rfl) (by kernel_rfl)) sha_Pad.ok sha_Pad.eq
def l7 : List (Nat × Bool × Abs.Spec) := (28, true, S_sha_Pad) :: l6
theorem ok7 : SpecsOk Try.prog (spOf l7) := SpecsOk.cons ok6 sha_Pad.fn (fun _ _ _ _ _ h => sha_Pad.quiet h)
def sha_digest.cuts : Cuts := fun k => match k with | 3 => some ⟨[7], [], [(.exit 0)]⟩ | _ => none
theorem sha_digest.eq (x0 : AVal) (H : AHeap) (K : AVal → AHeap → Prop) : evFn Try.prog (spOf l7) sha_digest.cuts Try.f72 [x0] H K = sha_digest.w x0 H K := by kernel_rfl
theorem sha_digest.fn : FnOk Try.prog 72 S_sha_digest := fn_ok1 ok7 mixed (T := sha_digest.cuts) Try.func72 (enters_of Try.func72 (by kernel_rfl) (by kernel_rfl)) sha_digest.ok sha_digest.eq
def l8 : List (Nat × Bool × Abs.Spec) := (72, true, S_sha_digest) :: l7
theorem ok8 : SpecsOk Try.prog (spOf l8) := SpecsOk.cons ok7 sha_digest.fn (fun _ _ _ _ _ h => sha_digest.quiet h)
def sha_Sum.cuts : Cuts := fun k => match k with | 3 => some ⟨[0], [0], [(.exit 0)]⟩ | 7 => some ⟨[0], [], [(.exit 2)]⟩ | _ => none
theorem sha_Sum.eq (x0 : AVal) (H : AHeap) (K : AVal → AHeap → Prop) : evFn Try.prog (spOf l8) sha_Sum.cuts Try.f24 [x0] H K = sha_Sum.w x0 H K := by kernel_rfl
theorem sha_Sum.fn : FnOk Try.prog 24 S_sha_Sum := fn_ok1 ok8 mixed (T := sha_Sum.cuts) Try.func24 (enters_of Try.func24 (by kernel_rfl) (by kernel_rfl)) sha_Sum.ok sha_Sum.eq
def l9 : List (Nat × Bool × Abs.Spec) := (24, true, S_sha_Sum) :: l8
theorem ok9 : SpecsOk Try.prog (spOf l9) := SpecsOk.cons ok8 sha_Sum.fn (fun _ _ _ _ _ h => sha_Sum.quiet h)
def sha_Hex.cuts : Cuts := fun k => match k with | 3 => some ⟨[3, 7], [3], [(.exit 0)]⟩ | _ => none
theorem sha_Hex.eq (x0 : AVal) (H : AHeap) (K : AVal → AHeap → Prop) : evFn Try.prog (spOf l9) sha_Hex.cuts Try.f26 [x0] H K = sha_Hex.w x0 H K := by kernel_rfl
theorem sha_Hex.fn : FnOk Try.prog 26 S_sha_Hex := fn_ok1 ok9 mixed (T := sha_Hex.cuts) Try.func26 (enters_of Try.func26 (by kernel_rfl) (by kernel_rfl)) sha_Hex.ok sha_Hex.eq
def l10 : List (Nat × Bool × Abs.Spec) := (26, true, S_sha_Hex) :: l9
theorem ok10 : SpecsOk Try.prog (spOf l10) := SpecsOk.cons ok9 sha_Hex.fn (fun _ _ _ _ _ h => sha_Hex.quiet h)
def sha_New.cuts : Cuts := fun k => match k with | _ => none
theorem sha_New.eq (H : AHeap) (K : AVal → AHeap → Prop) : evFn Try.prog (spOf l10) sha_New.cuts Try.f21 [] H K = sha_New.w H K := by kernel_rfl
theorem sha_New.fn : FnOk Try.prog 21 S_sha_New := fn_ok0 ok10 mixed (T := sha_New.cuts) Try.func21 (enters_of Try.func21 (by kernel_rfl) (by kernel_rfl)) sha_New.ok sha_New.eq
def l11 : List (Nat × Bool × Abs.Spec) := (21, true, S_sha_New) :: l10
theorem ok11 : SpecsOk Try.prog (spOf l11) := SpecsOk.cons ok10 sha_New.fn (fun _ _ _ _ _ h => sha_New.quiet h)
def sha_Hasher_Digest_1.cuts : Cuts := fun k => match k with | _ => none
theorem sha_Hasher_Digest_1.eq (x0 x1 : AVal) (H : AHeap) (K : AVal → AHeap → Prop) : evFn Try.prog (spOf l11) sha_Hasher_Digest_1.cuts Try.f71 [x0, x1] H K = sha_Hasher_Digest_1.w x0 x1 H K := by kernel_rfl
theorem sha_Hasher_Digest_1.fn : FnOk Try.prog 71 S_sha_Hasher_Digest_1 := fn_ok2E ok11 mixed (T := sha_Hasher_Digest_1.cuts) Try.func71 (enters_of Try.func71 (by kernel_rfl) (by kernel_rfl)) sha_Hasher_Digest_1.ok sha_Hasher_Digest_1.eq
def l12 : List (Nat × Bool × Abs.Spec) := (71, false, S_sha_Hasher_Digest_1) :: l11
theorem ok12 : SpecsOk Try.prog (spOf l12) := SpecsOk.cons ok11 sha_Hasher_Digest_1.fn (fun h => by cases h)
def sha_Hasher_Digest.cuts : Cuts := fun k => match k with | 6 => some ⟨[], [], [(.exit 0)]⟩ | _ => none
theorem sha_Hasher_Digest.eq (x0 : AVal) (H : AHeap) (K : AVal → AHeap → Prop) : evFn Try.prog (spOf l12) sha_Hasher_Digest.cuts Try.f23 [x0] H K = sha_Hasher_Digest.w x0 H K := by kernel_rfl
theorem sha_Hasher_Digest.fn : FnOk Try.prog 23 S_sha_Hasher_Digest := fn_ok1 ok12 mixed (T := sha_Hasher_Digest.cuts) Try.func23 (enters_of Try.func23 (by kernel_rfl) (by kernel_rfl)) sha_Hasher_Digest.ok sha_Hasher_Digest.eq
def l13 : List (Nat × Bool × Abs.Spec) := (23, true, S_sha_Hasher_Digest) :: l12
theorem ok13 : SpecsOk Try.prog (spOf l13) := SpecsOk.cons ok12 sha_Hasher_Digest.fn (fun _ _ _ _ _ h => sha_Hasher_Digest.quiet h)
def sha_Hasher_Add.cuts : Cuts := fun k => match k with | 5 => some ⟨[5], [5], [(.exit 0)]⟩ | _ => none
theorem sha_Hasher_Add.eq (x0 x1 : AVal) (H : AHeap) (K : AVal → AHeap → Prop) : evFn Try.prog (spOf l13) sha_Hasher_Add.cuts Try.f22 [x0, x1] H K = sha_Hasher_Add.w x0 x1 H K := by kernel_rfl
theorem sha_Hasher_Add.fn : FnOk Try.prog 22 S_sha_Hasher_Add := fn_ok2 ok13 mixed (T := sha_Hasher_Add.cuts) Try.func22 (enters_of Try.func22 (by kernel_rfl) (by kernel_rfl)) sha_Hasher_Add.ok sha_Hasher_Add.eq
def l14 : List (Nat × Bool × Abs.Spec) := (22, false, S_sha_Hasher_Add) :: l13
theorem ok14 : SpecsOk Try.prog (spOf l14) := SpecsOk.cons ok13 sha_Hasher_Add.fn (fun h => by cases h)
def cellaretlaw03_awake.cuts : Cuts := fun k => match k with | _ => none
theorem cellaretlaw03_awake.eq (H : AHeap) (K : AVal → AHeap → Prop) : evFn Try.prog (spOf l14) cellaretlaw03_awake.cuts Try.f25 [] H K = cellaretlaw03_awake.w H K := by kernel_rfl
theorem cellaretlaw03_awake.fn : FnOk Try.prog 25 S_cellaretlaw03_awake := fn_ok0 ok14 mixed (T := cellaretlaw03_awake.cuts) Try.func25 (enters_of Try.func25 (by kernel_rfl) (by kernel_rfl)) cellaretlaw03_awake.ok cellaretlaw03_awake.eq
def l15 : List (Nat × Bool × Abs.Spec) := (25, true, S_cellaretlaw03_awake) :: l14
theorem ok15 : SpecsOk Try.prog (spOf l15) := SpecsOk.cons ok14 cellaretlaw03_awake.fn (fun _ _ _ _ _ h => cellaretlaw03_awake.quiet h)
def cellaretref03_Add.cuts : Cuts := fun k => match k with | _ => none
theorem cellaretref03_Add.eq (x0 x1 : AVal) (H : AHeap) (K : AVal → AHeap → Prop) : evFn Try.prog (spOf l15) cellaretref03_Add.cuts Try.f73 [x0, x1] H K = cellaretref03_Add.w x0 x1 H K := by kernel_rfl
theorem cellaretref03_Add.fn : FnOk Try.prog 73 S_cellaretref03_Add := fn_ok2E ok15 mixed (T := cellaretref03_Add.cuts) Try.func73 (enters_of Try.func73 (by kernel_rfl) (by kernel_rfl)) cellaretref03_Add.ok cellaretref03_Add.eq
def l16 : List (Nat × Bool × Abs.Spec) := (73, true, S_cellaretref03_Add) :: l15
theorem ok16 : SpecsOk Try.prog (spOf l16) := SpecsOk.cons ok15 cellaretref03_Add.fn (fun _ _ _ _ _ h => cellaretref03_Add.quiet h)
def cellaretref03_bits.cuts : Cuts := fun k => match k with | 3 => some ⟨[0, 4], [], [(.exit 0)]⟩ | _ => none
theorem cellaretref03_bits.eq (x0 : AVal) (H : AHeap) (K : AVal → AHeap → Prop) : evFn Try.prog (spOf l16) cellaretref03_bits.cuts Try.f93 [x0] H K = cellaretref03_bits.w x0 H K := by kernel_rfl
theorem cellaretref03_bits.fn : FnOk Try.prog 93 S_cellaretref03_bits := fn_ok1E ok16 mixed (T := cellaretref03_bits.cuts) Try.func93 (enters_of Try.func93 (by kernel_rfl) (by kernel_rfl)) cellaretref03_bits.ok cellaretref03_bits.eq
def l17 : List (Nat × Bool × Abs.Spec) := (93, true, S_cellaretref03_bits) :: l16
theorem ok17 : SpecsOk Try.prog (spOf l17) := SpecsOk.cons ok16 cellaretref03_bits.fn (fun _ _ _ _ _ h => cellaretref03_bits.quiet h)
def cellaretref03_num.cuts : Cuts := fun k => match k with | 3 => some ⟨[3, 4], [3], [(.exit 0)]⟩ | _ => none
theorem cellaretref03_num.eq (x0 : AVal) (H : AHeap) (K : AVal → AHeap → Prop) : evFn Try.prog (spOf l17) cellaretref03_num.cuts Try.f94 [x0] H K = cellaretref03_num.w x0 H K := by kernel_rfl
theorem cellaretref03_num.fn : FnOk Try.prog 94 S_cellaretref03_num := fn_ok1E ok17 mixed (T := cellaretref03_num.cuts) Try.func94 (enters_of Try.func94 (by kernel_rfl) (by kernel_rfl)) cellaretref03_num.ok cellaretref03_num.eq
def l18 : List (Nat × Bool × Abs.Spec) := (94, true, S_cellaretref03_num) :: l17
theorem ok18 : SpecsOk Try.prog (spOf l18) := SpecsOk.cons ok17 cellaretref03_num.fn (fun _ _ _ _ _ h => cellaretref03_num.quiet h)
def cellaretref03_three.cuts : Cuts := fun k => match k with | 4 => some ⟨[9], [], [(.exit 0)]⟩ | 1000007 => some ⟨[], [10], [.normal]⟩ | _ => none
theorem cellaretref03_three.eq (x0 x1 x2 : AVal) (H : AHeap) (K : AVal → AHeap → Prop) : evFn Try.prog (spOf l18) cellaretref03_three.cuts Try.f74 [x0, x1, x2] H K = cellaretref03_three.w x0 x1 x2 H K := by kernel_rfl
theorem cellaretref03_three.fn : FnOk Try.prog 74 S_cellaretref03_three := fn_ok3E ok18 mixed (T := cellaretref03_three.cuts) Try.func74 (enters_of Try.func74 (by kernel_rfl) (by kernel_rfl)) cellaretref03_three.ok cellaretref03_three.eq
def l19 : List (Nat × Bool × Abs.Spec) := (74, true, S_cellaretref03_three) :: l18
theorem ok19 : SpecsOk Try.prog (spOf l19) := SpecsOk.cons ok18 cellaretref03_three.fn (fun _ _ _ _ _ h => cellaretref03_three.quiet h)
def cellaretref03_pick.cuts : Cuts := fun k => match k with | 5 => some ⟨[10], [], [(.exit 0)]⟩ | _ => none
theorem cellaretref03_pick.eq (x0 x1 x2 : AVal) (H : AHeap) (K : AVal → AHeap → Prop) : evFn Try.prog (spOf l19) cellaretref03_pick.cuts Try.f75 [x0, x1, x2] H K = cellaretref03_pick.w x0 x1 x2 H K := by kernel_rfl
theorem cellaretref03_pick.fn : FnOk Try.prog 75 S_cellaretref03_pick := fn_ok3E ok19 mixed (T := cellaretref03_pick.cuts) Try.func75 (enters_of Try.func75 (by kernel_rfl) (by kernel_rfl)) cellaretref03_pick.ok cellaretref03_pick.eq
def l20 : List (Nat × Bool × Abs.Spec) := (75, true, S_cellaretref03_pick) :: l19
theorem ok20 : SpecsOk Try.prog (spOf l20) := SpecsOk.cons ok19 cellaretref03_pick.fn (fun _ _ _ _ _ h => cellaretref03_pick.quiet h)
def cellaretref03_most.cuts : Cuts := fun k => match k with | 5 => some ⟨[10], [], [(.exit 0)]⟩ | _ => none
theorem cellaretref03_most.eq (x0 x1 x2 : AVal) (H : AHeap) (K : AVal → AHeap → Prop) : evFn Try.prog (spOf l20) cellaretref03_most.cuts Try.f76 [x0, x1, x2] H K = cellaretref03_most.w x0 x1 x2 H K := by kernel_rfl
theorem cellaretref03_most.fn : FnOk Try.prog 76 S_cellaretref03_most := fn_ok3E ok20 mixed (T := cellaretref03_most.cuts) Try.func76 (enters_of Try.func76 (by kernel_rfl) (by kernel_rfl)) cellaretref03_most.ok cellaretref03_most.eq
def l21 : List (Nat × Bool × Abs.Spec) := (76, true, S_cellaretref03_most) :: l20
theorem ok21 : SpecsOk Try.prog (spOf l21) := SpecsOk.cons ok20 cellaretref03_most.fn (fun _ _ _ _ _ h => cellaretref03_most.quiet h)
def cellaretref03_First.cuts : Cuts := fun k => match k with | _ => none
theorem cellaretref03_First.eq (H : AHeap) (K : AVal → AHeap → Prop) : evFn Try.prog (spOf l21) cellaretref03_First.cuts Try.f35 [] H K = cellaretref03_First.w H K := by kernel_rfl
theorem cellaretref03_First.fn : FnOk Try.prog 35 S_cellaretref03_First := fn_ok0E ok21 mixed (T := cellaretref03_First.cuts) Try.func35 (enters_of Try.func35 (by kernel_rfl) (by kernel_rfl)) cellaretref03_First.ok cellaretref03_First.eq
def l22 : List (Nat × Bool × Abs.Spec) := (35, true, S_cellaretref03_First) :: l21
theorem ok22 : SpecsOk Try.prog (spOf l22) := SpecsOk.cons ok21 cellaretref03_First.fn (fun _ _ _ _ _ h => cellaretref03_First.quiet h)
def cellaretref03_times.cuts : Cuts := fun k => match k with | 3 => some ⟨[6], [], [(.exit 0)]⟩ | 7 => some ⟨[7, 8], [7], [(.exit 2)]⟩ | _ => none
theorem cellaretref03_times.eq (x0 x1 : AVal) (H : AHeap) (K : AVal → AHeap → Prop) : evFn Try.prog (spOf l22) cellaretref03_times.cuts Try.f96 [x0, x1] H K = cellaretref03_times.w x0 x1 H K := by kernel_rfl
theorem cellaretref03_times.fn : FnOk Try.prog 96 S_cellaretref03_times := fn_ok2E ok22 mixed (T := cellaretref03_times.cuts) Try.func96 (enters_of Try.func96 (by kernel_rfl) (by kernel_rfl)) cellaretref03_times.ok cellaretref03_times.eq
def l23 : List (Nat × Bool × Abs.Spec) := (96, true, S_cellaretref03_times) :: l22
theorem ok23 : SpecsOk Try.prog (spOf l23) := SpecsOk.cons ok22 cellaretref03_times.fn (fun _ _ _ _ _ h => cellaretref03_times.quiet h)
def cellaretref03_digits.cuts : Cuts := fun k => match k with | _ => none
theorem cellaretref03_digits.eq (x0 : AVal) (H : AHeap) (K : AVal → AHeap → Prop) : evFn Try.prog (spOf l23) cellaretref03_digits.cuts Try.f95 [x0] H K = cellaretref03_digits.w x0 H K := by kernel_rfl
theorem cellaretref03_digits.fn : FnOk Try.prog 95 S_cellaretref03_digits := fn_ok1E ok23 mixed (T := cellaretref03_digits.cuts) Try.func95 (enters_of Try.func95 (by kernel_rfl) (by kernel_rfl)) cellaretref03_digits.ok cellaretref03_digits.eq
def l24 : List (Nat × Bool × Abs.Spec) := (95, true, S_cellaretref03_digits) :: l23
theorem ok24 : SpecsOk Try.prog (spOf l24) := SpecsOk.cons ok23 cellaretref03_digits.fn (fun _ _ _ _ _ h => cellaretref03_digits.quiet h)
def cellaretref03_Below.cuts : Cuts := fun k => match k with | 6 => some ⟨[8], [4], [(.exit 0), .ret]⟩ | _ => none
theorem cellaretref03_Below.eq (x0 x1 : AVal) (H : AHeap) (K : AVal → AHeap → Prop) : evFn Try.prog (spOf l24) cellaretref03_Below.cuts Try.f78 [x0, x1] H K = cellaretref03_Below.w x0 x1 H K := by kernel_rfl
theorem cellaretref03_Below.fn : FnOk Try.prog 78 S_cellaretref03_Below := fn_ok2E ok24 mixed (T := cellaretref03_Below.cuts) Try.func78 (enters_of Try.func78 (by kernel_rfl) (by kernel_rfl)) cellaretref03_Below.ok cellaretref03_Below.eq
def l25 : List (Nat × Bool × Abs.Spec) := (78, true, S_cellaretref03_Below) :: l24
theorem ok25 : SpecsOk Try.prog (spOf l25) := SpecsOk.cons ok24 cellaretref03_Below.fn (fun _ _ _ _ _ h => cellaretref03_Below.quiet h)
def cellaretref03_Prime.cuts : Cuts := fun k => match k with | 2 => some ⟨[3], [2], [(.exit 0), .ret]⟩ | _ => none
theorem cellaretref03_Prime.eq (x0 : AVal) (H : AHeap) (K : AVal → AHeap → Prop) : evFn Try.prog (spOf l25) cellaretref03_Prime.cuts Try.f77 [x0] H K = cellaretref03_Prime.w x0 H K := by kernel_rfl
theorem cellaretref03_Prime.fn : FnOk Try.prog 77 S_cellaretref03_Prime := fn_ok1E ok25 mixed (T := cellaretref03_Prime.cuts) Try.func77 (enters_of Try.func77 (by kernel_rfl) (by kernel_rfl)) cellaretref03_Prime.ok cellaretref03_Prime.eq
def l26 : List (Nat × Bool × Abs.Spec) := (77, true, S_cellaretref03_Prime) :: l25
theorem ok26 : SpecsOk Try.prog (spOf l26) := SpecsOk.cons ok25 cellaretref03_Prime.fn (fun _ _ _ _ _ h => cellaretref03_Prime.quiet h)
def cellaretref03_Constants.cuts : Cuts := fun k => match k with | 3 => some ⟨[1, 2], [1], [(.exit 0)]⟩ | 8 => some ⟨[3, 4], [3], [(.exit 2)]⟩ | 1000009 => some ⟨[], [3], [.normal]⟩ | _ => none
theorem cellaretref03_Constants.eq (H : AHeap) (K : AVal → AHeap → Prop) : evFn Try.prog (spOf l26) cellaretref03_Constants.cuts Try.f32 [] H K = cellaretref03_Constants.w H K := by kernel_rfl
theorem cellaretref03_Constants.fn : FnOk Try.prog 32 S_cellaretref03_Constants := fn_ok0E ok26 mixed (T := cellaretref03_Constants.cuts) Try.func32 (enters_of Try.func32 (by kernel_rfl) (by kernel_rfl)) cellaretref03_Constants.ok cellaretref03_Constants.eq
def l27 : List (Nat × Bool × Abs.Spec) := (32, true, S_cellaretref03_Constants) :: l26
theorem ok27 : SpecsOk Try.prog (spOf l27) := SpecsOk.cons ok26 cellaretref03_Constants.fn (fun _ _ _ _ _ h => cellaretref03_Constants.quiet h)
def cellaretref03_Block.cuts : Cuts := fun k => match k with | 3 => some ⟨[7, 8], [7], [(.exit 0)]⟩ | 12 => some ⟨[10, 11], [10], [(.exit 2)]⟩ | 21 => some ⟨[14, 15], [14], [(.exit 4)]⟩ | _ => none
theorem cellaretref03_Block.eq (x0 x1 x2 : AVal) (H : AHeap) (K : AVal → AHeap → Prop) : evFn Try.prog (spOf l27) cellaretref03_Block.cuts Try.f31 [x0, x1, x2] H K = cellaretref03_Block.w x0 x1 x2 H K := by kernel_rfl
theorem cellaretref03_Block.fn : FnOk Try.prog 31 S_cellaretref03_Block := fn_ok3E ok27 mixed (T := cellaretref03_Block.cuts) Try.func31 (enters_of Try.func31 (by kernel_rfl) (by kernel_rfl)) cellaretref03_Block.ok cellaretref03_Block.eq
def l28 : List (Nat × Bool × Abs.Spec) := (31, true, S_cellaretref03_Block) :: l27
theorem ok28 : SpecsOk Try.prog (spOf l28) := SpecsOk.cons ok27 cellaretref03_Block.fn (fun _ _ _ _ _ h => cellaretref03_Block.quiet h)
def cellaretref03_Padded.cuts : Cuts := fun k => match k with | 3 => some ⟨[0], [0], [(.exit 0)]⟩ | 7 => some ⟨[3, 4, 5], [4], [(.exit 2)]⟩ | _ => none
theorem cellaretref03_Padded.eq (x0 : AVal) (H : AHeap) (K : AVal → AHeap → Prop) : evFn Try.prog (spOf l28) cellaretref03_Padded.cuts Try.f29 [x0] H K = cellaretref03_Padded.w x0 H K := by kernel_rfl
theorem cellaretref03_Padded.fn : FnOk Try.prog 29 S_cellaretref03_Padded := fn_ok1E ok28 mixed (T := cellaretref03_Padded.cuts) Try.func29 (enters_of Try.func29 (by kernel_rfl) (by kernel_rfl)) cellaretref03_Padded.ok cellaretref03_Padded.eq
def l29 : List (Nat × Bool × Abs.Spec) := (29, true, S_cellaretref03_Padded) :: l28
theorem ok29 : SpecsOk Try.prog (spOf l29) := SpecsOk.cons ok28 cellaretref03_Padded.fn (fun _ _ _ _ _ h => cellaretref03_Padded.quiet h)
def cellaretref03_Sum.cuts : Cuts := fun k => match k with | 4 => some ⟨[0, 4], [4], [(.exit 0)]⟩ | 9 => some ⟨[6], [], [(.exit 2)]⟩ | 13 => some ⟨[7, 8], [7], [(.exit 4)]⟩ | _ => none
theorem cellaretref03_Sum.eq (x0 : AVal) (H : AHeap) (K : AVal → AHeap → Prop) : evFn Try.prog (spOf l29) cellaretref03_Sum.cuts Try.f27 [x0] H K = cellaretref03_Sum.w x0 H K := by kernel_rfl
theorem cellaretref03_Sum.fn : FnOk Try.prog 27 S_cellaretref03_Sum := fn_ok1E ok29 mixed (T := cellaretref03_Sum.cuts) Try.func27 (enters_of Try.func27 (by kernel_rfl) (by kernel_rfl)) cellaretref03_Sum.ok cellaretref03_Sum.eq
def l30 : List (Nat × Bool × Abs.Spec) := (27, true, S_cellaretref03_Sum) :: l29
theorem ok30 : SpecsOk Try.prog (spOf l30) := SpecsOk.cons ok29 cellaretref03_Sum.fn (fun _ _ _ _ _ h => cellaretref03_Sum.quiet h)
def cellaretlaw03_ShaConstants.cuts : Cuts := fun k => match k with | 4 => some ⟨[7], [2], [(.exit 0), .ret]⟩ | 1000004 => some ⟨[], [], [(.exit 0), .normal]⟩ | 1000008 => some ⟨[], [2], [.normal, .ret]⟩ | _ => none
theorem cellaretlaw03_ShaConstants.eq (x0 : AVal) (H : AHeap) (K : AVal → AHeap → Prop) : evFn Try.prog (spOf l30) cellaretlaw03_ShaConstants.cuts Try.f7 [x0] H K = cellaretlaw03_ShaConstants.w x0 H K := by kernel_rfl
theorem cellaretlaw03_ShaConstants.fn : FnOk Try.prog 7 S_cellaretlaw03_ShaConstants := fn_ok1E ok30 mixed (T := cellaretlaw03_ShaConstants.cuts) Try.func7 (enters_of Try.func7 (by kernel_rfl) (by kernel_rfl)) cellaretlaw03_ShaConstants.ok cellaretlaw03_ShaConstants.eq
def l31 : List (Nat × Bool × Abs.Spec) := (7, false, S_cellaretlaw03_ShaConstants) :: l30
theorem ok31 : SpecsOk Try.prog (spOf l31) := SpecsOk.cons ok30 cellaretlaw03_ShaConstants.fn (fun h => by cases h)
def cellaretlaw03_ShaWorks.cuts : Cuts := fun k => match k with | 6 => some ⟨[7, 8], [7], [(.exit 0)]⟩ | 11 => some ⟨[10], [4], [(.exit 2), .ret]⟩ | _ => none
theorem cellaretlaw03_ShaWorks.eq (x0 x1 : AVal) (H : AHeap) (K : AVal → AHeap → Prop) : evFn Try.prog (spOf l31) cellaretlaw03_ShaWorks.cuts Try.f6 [x0, x1] H K = cellaretlaw03_ShaWorks.w x0 x1 H K := by kernel_rfl
theorem cellaretlaw03_ShaWorks.fn : FnOk Try.prog 6 S_cellaretlaw03_ShaWorks := fn_ok2E ok31 mixed (T := cellaretlaw03_ShaWorks.cuts) Try.func6 (enters_of Try.func6 (by kernel_rfl) (by kernel_rfl)) cellaretlaw03_ShaWorks.ok cellaretlaw03_ShaWorks.eq
def l32 : List (Nat × Bool × Abs.Spec) := (6, false, S_cellaretlaw03_ShaWorks) :: l31
theorem ok32 : SpecsOk Try.prog (spOf l32) := SpecsOk.cons ok31 cellaretlaw03_ShaWorks.fn (fun h => by cases h)
def cellaretlaw03_ShaSums.cuts : Cuts := fun k => match k with | _ => none
theorem cellaretlaw03_ShaSums.eq (x0 : AVal) (H : AHeap) (K : AVal → AHeap → Prop) : evFn Try.prog (spOf l32) cellaretlaw03_ShaSums.cuts Try.f5 [x0] H K = cellaretlaw03_ShaSums.w x0 H K := by kernel_rfl
theorem cellaretlaw03_ShaSums.fn : FnOk Try.prog 5 S_cellaretlaw03_ShaSums := fn_ok1E ok32 mixed (T := cellaretlaw03_ShaSums.cuts) Try.func5 (enters_of Try.func5 (by kernel_rfl) (by kernel_rfl)) cellaretlaw03_ShaSums.ok cellaretlaw03_ShaSums.eq
def l33 : List (Nat × Bool × Abs.Spec) := (5, false, S_cellaretlaw03_ShaSums) :: l32
theorem ok33 : SpecsOk Try.prog (spOf l33) := SpecsOk.cons ok32 cellaretlaw03_ShaSums.fn (fun h => by cases h)
end Go.Proofs.Ytgcjchcmnlifmaa.own
