/- A text of this proof. -/
import Derived.Test.YtfmnhklpjjokbaaRows
import Derived.KernelRfl
import Derived.Test.YtfmnhklpjjokbaaSha
import Derived.Test.YtfmnhklpjjokbaaPair
import Derived.Test.YtfmnhklpjjokbaaKeep
import Derived.Test.YtfmnhklpjjokbaaAbsE
import Derived.Test.YtfmnhklpjjokbaaAbsF

/- The functions of this seat come to what is told of them: each one's code is what its printed text says (checked by the kernel), and the text is proved. Conditions: none. -/
namespace Go.Proofs.Ytfmnhklpjjokbaa.own
open Go Go.Abs Go.Sh
theorem mixed : Try.prog.follows .mixedOrders = true := by kernel_rfl
theorem bulk_mem {H : Type} {d : DataW H} : ∀ {l : List (DataW H)}, d ∈ l → Rows.uptoBulk d ≤ Rows.uptoBulkAll l
  | x :: l, h => by
    simp only [Rows.uptoBulkAll]
    rcases List.mem_cons.1 h with rfl | h
    · omega
    · have := bulk_mem h; omega
  | [], h => (by cases h)
theorem bulk_str {H : Type} {s : List UInt8} {elems spare ds : List (DataW H)} (hk : Rows.uptoSmall H ds = true) (h : DataW.slice elems spare ∈ ds) (k : DataW.lit (.string s) ∈ elems) : s.length ≤ 1048576 := by
  have h1 := bulk_mem h
  have h2 := bulk_mem k
  have h3 := of_decide_eq_true hk
  simp only [Rows.uptoBulk] at h1 h2
  omega
def l0 : List (Nat × Bool × Abs.Spec) := []
theorem ok0 : SpecsOk Try.prog (spOf l0) := SpecsOk.nil
def sha_Words.cuts : Cuts := fun k => match k with | _ => none
theorem sha_Words.eq (H : AHeap) (K : AVal → AHeap → Prop) : evFn Try.prog (spOf l0) sha_Words.cuts Try.f16 [] H K = sha_Words.w H K := by kernel_rfl
theorem sha_Words.fn : FnOk Try.prog 16 S_sha_Words := fn_ok0 ok0 mixed (T := sha_Words.cuts) Try.func16 (Abs.enters_of Try.func16 (by kernel_rfl) (by kernel_rfl)) sha_Words.ok sha_Words.eq
def l1 : List (Nat × Bool × Abs.Spec) := (16, true, S_sha_Words) :: l0
theorem ok1 : SpecsOk Try.prog (spOf l1) := SpecsOk.cons ok0 sha_Words.fn (fun _ _ _ _ _ h => sha_Words.quiet h)
def sha_constants.cuts : Cuts := fun k => match k with | _ => none
theorem sha_constants.eq (H : AHeap) (K : AVal → AHeap → Prop) : evFn Try.prog (spOf l1) sha_constants.cuts Try.f21 [] H K = sha_constants.w H K := by kernel_rfl
theorem sha_constants.fn : FnOk Try.prog 21 S_sha_constants := fn_ok0 ok1 mixed (T := sha_constants.cuts) Try.func21 (Abs.enters_of Try.func21 (by kernel_rfl) (by kernel_rfl)) sha_constants.ok sha_constants.eq
def l2 : List (Nat × Bool × Abs.Spec) := (21, true, S_sha_constants) :: l1
theorem ok2 : SpecsOk Try.prog (spOf l2) := SpecsOk.cons ok1 sha_constants.fn (fun _ _ _ _ _ h => sha_constants.quiet h)
def sha_work.cuts : Cuts := fun k => match k with | 3 => some ⟨[26], [], [(.exit 0)]⟩ | 8 => some ⟨[7], [], [(.exit 2)]⟩ | 17 => some ⟨[13, 14, 15, 16, 17, 18, 19, 20, 133], [13, 14, 15, 16, 17, 18, 19, 20], [(.exit 4)]⟩ | _ => none
theorem sha_work.eq (x0 x1 : AVal) (H : AHeap) (K : AVal → AHeap → Prop) : evFn Try.prog (spOf l2) sha_work.cuts Try.f17 [x0, x1] H K = sha_work.w x0 x1 H K := by kernel_rfl
theorem sha_work.fn : FnOk Try.prog 17 S_sha_work := fn_ok2 ok2 mixed (T := sha_work.cuts) Try.func17 (Abs.enters_of Try.func17 (by kernel_rfl) (by kernel_rfl)) sha_work.ok sha_work.eq
def l3 : List (Nat × Bool × Abs.Spec) := (17, true, S_sha_work) :: l2
theorem ok3 : SpecsOk Try.prog (spOf l3) := SpecsOk.cons ok2 sha_work.fn (fun _ _ _ _ _ h => sha_work.quiet h)
def sha_tail.cuts : Cuts := fun k => match k with | 2 => some ⟨[3], [3], [(.exit 0)]⟩ | 6 => some ⟨[3, 5], [3], [(.exit 2)]⟩ | _ => none
theorem sha_tail.eq (x0 : AVal) (H : AHeap) (K : AVal → AHeap → Prop) : evFn Try.prog (spOf l3) sha_tail.cuts Try.f18 [x0] H K = sha_tail.w x0 H K := by kernel_rfl
theorem sha_tail.fn : FnOk Try.prog 18 S_sha_tail := fn_ok1 ok3 mixed (T := sha_tail.cuts) Try.func18 (Abs.enters_of Try.func18 (by kernel_rfl) (by kernel_rfl)) sha_tail.ok sha_tail.eq
def l4 : List (Nat × Bool × Abs.Spec) := (18, true, S_sha_tail) :: l3
theorem ok4 : SpecsOk Try.prog (spOf l4) := SpecsOk.cons ok3 sha_tail.fn (fun _ _ _ _ _ h => sha_tail.quiet h)
def sha_digest.cuts : Cuts := fun k => match k with | 3 => some ⟨[7], [], [(.exit 0)]⟩ | _ => none
theorem sha_digest.eq (x0 : AVal) (H : AHeap) (K : AVal → AHeap → Prop) : evFn Try.prog (spOf l4) sha_digest.cuts Try.f19 [x0] H K = sha_digest.w x0 H K := by kernel_rfl
theorem sha_digest.fn : FnOk Try.prog 19 S_sha_digest := fn_ok1 ok4 mixed (T := sha_digest.cuts) Try.func19 (Abs.enters_of Try.func19 (by kernel_rfl) (by kernel_rfl)) sha_digest.ok sha_digest.eq
def l5 : List (Nat × Bool × Abs.Spec) := (19, true, S_sha_digest) :: l4
theorem ok5 : SpecsOk Try.prog (spOf l5) := SpecsOk.cons ok4 sha_digest.fn (fun _ _ _ _ _ h => sha_digest.quiet h)
def sha_Sum.cuts : Cuts := fun k => match k with | 3 => some ⟨[0], [0], [(.exit 0)]⟩ | 7 => some ⟨[0], [], [(.exit 2)]⟩ | _ => none
theorem sha_Sum.eq (x0 : AVal) (H : AHeap) (K : AVal → AHeap → Prop) : evFn Try.prog (spOf l5) sha_Sum.cuts Try.f9 [x0] H K = sha_Sum.w x0 H K := by kernel_rfl
theorem sha_Sum.fn : FnOk Try.prog 9 S_sha_Sum := fn_ok1 ok5 mixed (T := sha_Sum.cuts) Try.func9 (Abs.enters_of Try.func9 (by kernel_rfl) (by kernel_rfl)) sha_Sum.ok sha_Sum.eq
def l6 : List (Nat × Bool × Abs.Spec) := (9, true, S_sha_Sum) :: l5
theorem ok6 : SpecsOk Try.prog (spOf l6) := SpecsOk.cons ok5 sha_Sum.fn (fun _ _ _ _ _ h => sha_Sum.quiet h)
def okeep_New.cuts : Cuts := fun k => match k with | _ => none
theorem okeep_New.eq (H : AHeap) (K : AVal → AHeap → Prop) : evFn Try.prog (spOf l6) okeep_New.cuts Try.f4 [] H K = okeep_New.w H K := by kernel_rfl
theorem okeep_New.fn : FnOk Try.prog 4 S_okeep_New := fn_ok0E ok6 mixed (T := okeep_New.cuts) Try.func4 (Abs.enters_of Try.func4 (by kernel_rfl) (by kernel_rfl)) okeep_New.ok okeep_New.eq
def l7 : List (Nat × Bool × Abs.Spec) := (4, true, S_okeep_New) :: l6
theorem ok7 : SpecsOk Try.prog (spOf l7) := SpecsOk.cons ok6 okeep_New.fn (fun _ _ _ _ _ h => okeep_New.quiet h)
def okeep_Sum.cuts : Cuts := fun k => match k with | 1000004 => some ⟨[], [], [.normal]⟩ | _ => none
theorem okeep_Sum.eq (x0 x1 : AVal) (H : AHeap) (K : AVal → AHeap → Prop) : evFn Try.prog (spOf l7) okeep_Sum.cuts Try.f8 [x0, x1] H K = okeep_Sum.w x0 x1 H K := by kernel_rfl
theorem okeep_Sum.fn : FnOk Try.prog 8 S_okeep_Sum := fn_ok2E ok7 mixed (T := okeep_Sum.cuts) Try.func8 (Abs.enters_of Try.func8 (by kernel_rfl) (by kernel_rfl)) okeep_Sum.ok okeep_Sum.eq
def l8 : List (Nat × Bool × Abs.Spec) := (8, false, S_okeep_Sum) :: l7
theorem ok8 : SpecsOk Try.prog (spOf l8) := SpecsOk.cons ok7 okeep_Sum.fn (fun h => by cases h)
def okeep_Len.cuts : Cuts := fun k => match k with | _ => none
theorem okeep_Len.eq (x0 : AVal) (H : AHeap) (K : AVal → AHeap → Prop) : evFn Try.prog (spOf l8) okeep_Len.cuts Try.f10 [x0] H K = okeep_Len.w x0 H K := by kernel_rfl
theorem okeep_Len.fn : FnOk Try.prog 10 S_okeep_Len := fn_ok1E ok8 mixed (T := okeep_Len.cuts) Try.func10 (Abs.enters_of Try.func10 (by kernel_rfl) (by kernel_rfl)) okeep_Len.ok okeep_Len.eq
def l9 : List (Nat × Bool × Abs.Spec) := (10, true, S_okeep_Len) :: l8
theorem ok9 : SpecsOk Try.prog (spOf l9) := SpecsOk.cons ok8 okeep_Len.fn (fun _ _ _ _ _ h => okeep_Len.quiet h)
def okeep_Input.cuts : Cuts := fun k => match k with | _ => none
theorem okeep_Input.eq (x0 x1 : AVal) (H : AHeap) (K : AVal → AHeap → Prop) : evFn Try.prog (spOf l9) okeep_Input.cuts Try.f11 [x0, x1] H K = okeep_Input.w x0 x1 H K := by kernel_rfl
theorem okeep_Input.fn : FnOk Try.prog 11 S_okeep_Input := fn_ok2E ok9 mixed (T := okeep_Input.cuts) Try.func11 (Abs.enters_of Try.func11 (by kernel_rfl) (by kernel_rfl)) okeep_Input.ok okeep_Input.eq
def l10 : List (Nat × Bool × Abs.Spec) := (11, true, S_okeep_Input) :: l9
theorem ok10 : SpecsOk Try.prog (spOf l10) := SpecsOk.cons ok9 okeep_Input.fn (fun _ _ _ _ _ h => okeep_Input.quiet h)
def okeep_Forget_1.cuts : Cuts := fun k => match k with | _ => none
theorem okeep_Forget_1.eq (x0 x1 : AVal) (H : AHeap) (K : AVal → AHeap → Prop) : evFn Try.prog (spOf l10) okeep_Forget_1.cuts Try.f14 [x0, x1] H K = okeep_Forget_1.w x0 x1 H K := by kernel_rfl
theorem okeep_Forget_1.fn : FnOk Try.prog 14 S_okeep_Forget_1 := fn_ok2E ok10 mixed (T := okeep_Forget_1.cuts) Try.func14 (Abs.enters_of Try.func14 (by kernel_rfl) (by kernel_rfl)) okeep_Forget_1.ok okeep_Forget_1.eq
def l11 : List (Nat × Bool × Abs.Spec) := (14, true, S_okeep_Forget_1) :: l10
theorem ok11 : SpecsOk Try.prog (spOf l11) := SpecsOk.cons ok10 okeep_Forget_1.fn (fun _ _ _ _ _ h => okeep_Forget_1.quiet h)
def okeep_Index.cuts : Cuts := fun k => match k with | 2 => some ⟨[8], [4], [(.exit 0), .ret]⟩ | _ => none
theorem okeep_Index.eq (x0 x1 : AVal) (H : AHeap) (K : AVal → AHeap → Prop) : evFn Try.prog (spOf l11) okeep_Index.cuts Try.f13 [x0, x1] H K = okeep_Index.w (callP (spOf l11)) x0 x1 H K := by kernel_rfl
theorem okeep_Index.le : CallsT.le keepCP (callP (spOf l11)) := by
  intro f a H r H' h
  first
    | (obtain ⟨cap, rfl, h⟩ := h; exact h)
    | (rcases h with ⟨cap, rfl, h⟩ | ⟨cap, rfl, h⟩ <;> exact h)
    | (rcases h with ⟨cap, rfl, h⟩ | ⟨cap, rfl, h⟩ | ⟨cap, rfl, h⟩ <;> exact h)
    | (rcases h with ⟨cap, rfl, h⟩ | ⟨cap, rfl, h⟩ | ⟨cap, rfl, h⟩ | ⟨cap, rfl, h⟩ <;> exact h)
    | (rcases h with ⟨cap, rfl, h⟩ | ⟨cap, rfl, h⟩ | ⟨cap, rfl, h⟩ | ⟨cap, rfl, h⟩ | ⟨cap, rfl, h⟩ <;> exact h)
theorem okeep_Index.fn : FnOk Try.prog 13 S_okeep_Index := fn_ok2E ok11 mixed (T := okeep_Index.cuts) Try.func13 (Abs.enters_of Try.func13 (by kernel_rfl) (by kernel_rfl)) (okeep_Index.okC okeep_Index.le) okeep_Index.eq
def l12 : List (Nat × Bool × Abs.Spec) := (13, true, S_okeep_Index) :: l11
theorem ok12 : SpecsOk Try.prog (spOf l12) := SpecsOk.cons ok11 okeep_Index.fn (fun _ _ _ _ _ h => okeep_Index.quiet h)
def okeep_Delete.cuts : Cuts := fun k => match k with | _ => none
theorem okeep_Delete.eq (x0 x1 x2 : AVal) (H : AHeap) (K : AVal → AHeap → Prop) : evFn Try.prog (spOf l12) okeep_Delete.cuts Try.f15 [x0, x1, x2] H K = okeep_Delete.w x0 x1 x2 H K := by kernel_rfl
theorem okeep_Delete.fn : FnOk Try.prog 15 S_okeep_Delete := fn_ok3E ok12 mixed (T := okeep_Delete.cuts) Try.func15 (Abs.enters_of Try.func15 (by kernel_rfl) (by kernel_rfl)) okeep_Delete.ok okeep_Delete.eq
def l13 : List (Nat × Bool × Abs.Spec) := (15, false, S_okeep_Delete) :: l12
theorem ok13 : SpecsOk Try.prog (spOf l13) := SpecsOk.cons ok12 okeep_Delete.fn (fun h => by cases h)
def okeep_Forget.cuts : Cuts := fun k => match k with | _ => none
theorem okeep_Forget.eq (x0 x1 : AVal) (H : AHeap) (K : AVal → AHeap → Prop) : evFn Try.prog (spOf l13) okeep_Forget.cuts Try.f6 [x0, x1] H K = okeep_Forget.w x0 x1 H K := by kernel_rfl
theorem okeep_Forget.fn : FnOk Try.prog 6 S_okeep_Forget := fn_ok2E ok13 mixed (T := okeep_Forget.cuts) Try.func6 (Abs.enters_of Try.func6 (by kernel_rfl) (by kernel_rfl)) okeep_Forget.ok okeep_Forget.eq
def l14 : List (Nat × Bool × Abs.Spec) := (6, false, S_okeep_Forget) :: l13
theorem ok14 : SpecsOk Try.prog (spOf l14) := SpecsOk.cons ok13 okeep_Forget.fn (fun h => by cases h)
def cellaretref06_Keep.cuts : Cuts := fun k => match k with | 2 => some ⟨[5], [4], [(.exit 0), .ret]⟩ | _ => none
theorem cellaretref06_Keep.eq (x0 x1 : AVal) (H : AHeap) (K : AVal → AHeap → Prop) : evFn Try.prog (spOf l14) cellaretref06_Keep.cuts Try.f7 [x0, x1] H K = cellaretref06_Keep.w x0 x1 H K := by kernel_rfl
theorem cellaretref06_Keep.fn : FnOk Try.prog 7 S_cellaretref06_Keep := fn_ok2E ok14 mixed (T := cellaretref06_Keep.cuts) Try.func7 (Abs.enters_of Try.func7 (by kernel_rfl) (by kernel_rfl)) cellaretref06_Keep.ok cellaretref06_Keep.eq
def l15 : List (Nat × Bool × Abs.Spec) := (7, false, S_cellaretref06_Keep) :: l14
theorem ok15 : SpecsOk Try.prog (spOf l15) := SpecsOk.cons ok14 cellaretref06_Keep.fn (fun h => by cases h)
def cellaretref06_Forget.cuts : Cuts := fun k => match k with | 4 => some ⟨[6, 7, 8], [6, 7], [(.exit 0)]⟩ | _ => none
theorem cellaretref06_Forget.eq (x0 x1 : AVal) (H : AHeap) (K : AVal → AHeap → Prop) : evFn Try.prog (spOf l15) cellaretref06_Forget.cuts Try.f5 [x0, x1] H K = cellaretref06_Forget.w x0 x1 H K := by kernel_rfl
theorem cellaretref06_Forget.fn : FnOk Try.prog 5 S_cellaretref06_Forget := fn_ok2E ok15 mixed (T := cellaretref06_Forget.cuts) Try.func5 (Abs.enters_of Try.func5 (by kernel_rfl) (by kernel_rfl)) cellaretref06_Forget.ok cellaretref06_Forget.eq
def l16 : List (Nat × Bool × Abs.Spec) := (5, false, S_cellaretref06_Forget) :: l15
theorem ok16 : SpecsOk Try.prog (spOf l16) := SpecsOk.cons ok15 cellaretref06_Forget.fn (fun h => by cases h)
def oracle_Pair_1.cuts : Cuts := fun k => match k with | 2 => some ⟨[7], [4], [(.exit 0), .ret]⟩ | _ => none
theorem oracle_Pair_1.eq (x0 x1 x2 : AVal) (H : AHeap) (K : AVal → AHeap → Prop) : evFn Try.prog (spOf l16) oracle_Pair_1.cuts Try.f22 [x0, x1, x2] H K = oracle_Pair_1.w x0 x1 x2 H K := by kernel_rfl
theorem oracle_Pair_1.fn : FnOk Try.prog 22 S_oracle_Pair_1 := fn_ok3 ok16 mixed (T := oracle_Pair_1.cuts) Try.func22 (Abs.enters_of Try.func22 (by kernel_rfl) (by kernel_rfl)) oracle_Pair_1.ok oracle_Pair_1.eq
def l17 : List (Nat × Bool × Abs.Spec) := (22, true, S_oracle_Pair_1) :: l16
theorem ok17 : SpecsOk Try.prog (spOf l17) := SpecsOk.cons ok16 oracle_Pair_1.fn (fun _ _ _ _ _ h => oracle_Pair_1.quiet h)
def oracle_Pair.cuts : Cuts := fun k => match k with | 4 => some ⟨[18], [4, 5, 6], [(.exit 0), .ret]⟩ | _ => none
theorem oracle_Pair.eq (x0 x1 : AVal) (H : AHeap) (K : AVal → AHeap → Prop) : evFn Try.prog (spOf l17) oracle_Pair.cuts Try.f20 [x0, x1] H K = oracle_Pair.w x0 x1 H K := by kernel_rfl
theorem oracle_Pair.fn : FnOk Try.prog 20 S_oracle_Pair := fn_ok2 ok17 mixed (T := oracle_Pair.cuts) Try.func20 (Abs.enters_of Try.func20 (by kernel_rfl) (by kernel_rfl)) oracle_Pair.ok oracle_Pair.eq
def l18 : List (Nat × Bool × Abs.Spec) := (20, true, S_oracle_Pair) :: l17
theorem ok18 : SpecsOk Try.prog (spOf l18) := SpecsOk.cons ok17 oracle_Pair.fn (fun _ _ _ _ _ h => oracle_Pair.quiet h)
def okeep_awake.cuts : Cuts := fun k => match k with | 1000002 => some ⟨[], [0], [.normal, .ret]⟩ | _ => none
theorem okeep_awake.eq (H : AHeap) (K : AVal → AHeap → Prop) : evFn Try.prog (spOf l18) okeep_awake.cuts Try.f12 [] H K = okeep_awake.w H K := by kernel_rfl
theorem okeep_awake.fn : FnOk Try.prog 12 S_okeep_awake := fn_ok0E ok18 mixed (T := okeep_awake.cuts) Try.func12 (Abs.enters_of Try.func12 (by kernel_rfl) (by kernel_rfl)) okeep_awake.ok okeep_awake.eq
def l19 : List (Nat × Bool × Abs.Spec) := (12, true, S_okeep_awake) :: l18
theorem ok19 : SpecsOk Try.prog (spOf l19) := SpecsOk.cons ok18 okeep_awake.fn (fun _ _ _ _ _ h => okeep_awake.quiet h)
def cellaretlaw06_OracleKeeps.cuts : Cuts := fun k => match k with | 4 => some ⟨[4, 5], [2], [(.exit 0), .ret]⟩ | 1000004 => some ⟨[], [], [(.exit 0), .normal]⟩ | 1000008 => some ⟨[], [2, 4], [.normal, .ret]⟩ | 10000015 => some ⟨[3, 5], [0, 1, 2, 4, 5, 3, 6, 7], []⟩ | 20 => some ⟨[9], [2], [(.exit 2), .ret]⟩ | _ => none
theorem cellaretlaw06_OracleKeeps.eq (x0 : AVal) (H : AHeap) (K : AVal → AHeap → Prop) : evFn Try.prog (spOf l19) cellaretlaw06_OracleKeeps.cuts Try.f3 [x0] H K = cellaretlaw06_OracleKeeps.w x0 H K := by kernel_rfl
theorem cellaretlaw06_OracleKeeps.fn : FnOk Try.prog 3 S_cellaretlaw06_OracleKeeps := fn_ok1 ok19 mixed (T := cellaretlaw06_OracleKeeps.cuts) Try.func3 (Abs.enters_of Try.func3 (by kernel_rfl) (by kernel_rfl)) cellaretlaw06_OracleKeeps.ok cellaretlaw06_OracleKeeps.eq
def l20 : List (Nat × Bool × Abs.Spec) := (3, false, S_cellaretlaw06_OracleKeeps) :: l19
theorem ok20 : SpecsOk Try.prog (spOf l20) := SpecsOk.cons ok19 cellaretlaw06_OracleKeeps.fn (fun h => by cases h)
end Go.Proofs.Ytfmnhklpjjokbaa.own
