/- A text of this proof. -/
import Derived.Test.YtgcjchcmnlifmaaRows
import Derived.KernelRfl
import Derived.Test.YtgcjchcmnlifmaaSha
import Derived.Test.YtgcjchcmnlifmaaCol
import Derived.Test.YtgcjchcmnlifmaaAbsE

/- The functions of this seat come to what is told of them: each one's code is what its printed text says (checked by the kernel), and the text is proved. Conditions: none. -/
namespace Go.Proofs.Ytgcjchcmnlifmaa.own
open Go Go.Abs Go.Sh
theorem mixed : Try.prog.follows .mixedOrders = true := by kernel_rfl
theorem bulk_mem {H : Type} {d : DataW H} : ∀ {l : List (DataW H)}, d ∈ l → Rows.uptoBulk d ≤ Rows.uptoBulkAll l
  | x :: l, h => by
    simp only [Rows.uptoBulkAll]
    rcases List.mem_cons.1 h with rfl | h
    · omega
    · have := bulk_mem h; omega
  | [], h => (by cases h)
theorem bulk_str {H : Type} {s : List UInt8} {elems spare ds : List (DataW H)} (hk : Rows.uptoSmall H ds = true) (h : DataW.slice elems spare ∈ ds) (k : DataW.lit (.string s) ∈ elems) : s.length ≤ 1048576 := by
  have h1 := bulk_mem h
  have h2 := bulk_mem k
  have h3 := of_decide_eq_true hk
  simp only [Rows.uptoBulk] at h1 h2
  omega
def l0 : List (Nat × Bool × Abs.Spec) := []
theorem ok0 : SpecsOk Try.prog (spOf l0) := SpecsOk.nil
def sha_Words.cuts : Cuts := fun k => match k with | _ => none
theorem sha_Words.eq (H : AHeap) (K : AVal → AHeap → Prop) : evFn Try.prog (spOf l0) sha_Words.cuts Try.f34 [] H K = sha_Words.w H K := by kernel_rfl
theorem sha_Words.fn : FnOk Try.prog 34 S_sha_Words := fn_ok0 ok0 mixed (T := sha_Words.cuts) Try.func34 (enters_of Try.func34 (by kernel_rfl) (by kernel_rfl)) sha_Words.ok sha_Words.eq
def l1 : List (Nat × Bool × Abs.Spec) := (34, true, S_sha_Words) :: l0
theorem ok1 : SpecsOk Try.prog (spOf l1) := SpecsOk.cons ok0 sha_Words.fn (fun _ args H r H' h => sha_Words.quiet h)
def sha_constants.cuts : Cuts := fun k => match k with | _ => none
theorem sha_constants.eq (H : AHeap) (K : AVal → AHeap → Prop) : evFn Try.prog (spOf l1) sha_constants.cuts Try.f79 [] H K = sha_constants.w H K := by kernel_rfl
theorem sha_constants.fn : FnOk Try.prog 79 S_sha_constants := fn_ok0 ok1 mixed (T := sha_constants.cuts) Try.func79 (enters_of Try.func79 (by kernel_rfl) (by kernel_rfl)) sha_constants.ok sha_constants.eq
def l2 : List (Nat × Bool × Abs.Spec) := (79, true, S_sha_constants) :: l1
theorem ok2 : SpecsOk Try.prog (spOf l2) := SpecsOk.cons ok1 sha_constants.fn (fun _ args H r H' h => sha_constants.quiet h)
def sha_work.cuts : Cuts := fun k => match k with | 3 => some ⟨[26], [], [(.exit 0)]⟩ | 8 => some ⟨[7], [], [(.exit 2)]⟩ | 17 => some ⟨[13, 14, 15, 16, 17, 18, 19, 20, 133], [13, 14, 15, 16, 17, 18, 19, 20], [(.exit 4)]⟩ | _ => none
theorem sha_work.eq (x0 x1 : AVal) (H : AHeap) (K : AVal → AHeap → Prop) : evFn Try.prog (spOf l2) sha_work.cuts Try.f69 [x0, x1] H K = sha_work.w x0 x1 H K := by kernel_rfl
theorem sha_work.fn : FnOk Try.prog 69 S_sha_work := fn_ok2 ok2 mixed (T := sha_work.cuts) Try.func69 (enters_of Try.func69 (by kernel_rfl) (by kernel_rfl)) sha_work.ok sha_work.eq
def l3 : List (Nat × Bool × Abs.Spec) := (69, true, S_sha_work) :: l2
theorem ok3 : SpecsOk Try.prog (spOf l3) := SpecsOk.cons ok2 sha_work.fn (fun _ args H r H' h => sha_work.quiet h)
def sha_tail.cuts : Cuts := fun k => match k with | 2 => some ⟨[3], [3], [(.exit 0)]⟩ | 6 => some ⟨[3, 5], [3], [(.exit 2)]⟩ | _ => none
theorem sha_tail.eq (x0 : AVal) (H : AHeap) (K : AVal → AHeap → Prop) : evFn Try.prog (spOf l3) sha_tail.cuts Try.f70 [x0] H K = sha_tail.w x0 H K := by kernel_rfl
theorem sha_tail.fn : FnOk Try.prog 70 S_sha_tail := fn_ok1 ok3 mixed (T := sha_tail.cuts) Try.func70 (enters_of Try.func70 (by kernel_rfl) (by kernel_rfl)) sha_tail.ok sha_tail.eq
def l4 : List (Nat × Bool × Abs.Spec) := (70, true, S_sha_tail) :: l3
theorem ok4 : SpecsOk Try.prog (spOf l4) := SpecsOk.cons ok3 sha_tail.fn (fun _ args H r H' h => sha_tail.quiet h)
def sha_digest.cuts : Cuts := fun k => match k with | 3 => some ⟨[7], [], [(.exit 0)]⟩ | _ => none
theorem sha_digest.eq (x0 : AVal) (H : AHeap) (K : AVal → AHeap → Prop) : evFn Try.prog (spOf l4) sha_digest.cuts Try.f72 [x0] H K = sha_digest.w x0 H K := by kernel_rfl
theorem sha_digest.fn : FnOk Try.prog 72 S_sha_digest := fn_ok1 ok4 mixed (T := sha_digest.cuts) Try.func72 (enters_of Try.func72 (by kernel_rfl) (by kernel_rfl)) sha_digest.ok sha_digest.eq
def l5 : List (Nat × Bool × Abs.Spec) := (72, true, S_sha_digest) :: l4
theorem ok5 : SpecsOk Try.prog (spOf l5) := SpecsOk.cons ok4 sha_digest.fn (fun _ args H r H' h => sha_digest.quiet h)
def sha_Sum.cuts : Cuts := fun k => match k with | 3 => some ⟨[0], [0], [(.exit 0)]⟩ | 7 => some ⟨[0], [], [(.exit 2)]⟩ | _ => none
theorem sha_Sum.eq (x0 : AVal) (H : AHeap) (K : AVal → AHeap → Prop) : evFn Try.prog (spOf l5) sha_Sum.cuts Try.f24 [x0] H K = sha_Sum.w x0 H K := by kernel_rfl
theorem sha_Sum.fn : FnOk Try.prog 24 S_sha_Sum := fn_ok1 ok5 mixed (T := sha_Sum.cuts) Try.func24 (enters_of Try.func24 (by kernel_rfl) (by kernel_rfl)) sha_Sum.ok sha_Sum.eq
def l6 : List (Nat × Bool × Abs.Spec) := (24, true, S_sha_Sum) :: l5
theorem ok6 : SpecsOk Try.prog (spOf l6) := SpecsOk.cons ok5 sha_Sum.fn (fun _ args H r H' h => sha_Sum.quiet h)
def oracle_New.cuts : Cuts := fun k => match k with | _ => none
theorem oracle_New.eq (H : AHeap) (K : AVal → AHeap → Prop) : evFn Try.prog (spOf l6) oracle_New.cuts Try.f41 [] H K = oracle_New.w H K := by kernel_rfl
theorem oracle_New.fn : FnOk Try.prog 41 S_oracle_New := fn_ok0E ok6 mixed (T := oracle_New.cuts) Try.func41 (enters_of Try.func41 (by kernel_rfl) (by kernel_rfl)) oracle_New.ok oracle_New.eq
def l7 : List (Nat × Bool × Abs.Spec) := (41, true, S_oracle_New) :: l6
theorem ok7 : SpecsOk Try.prog (spOf l7) := SpecsOk.cons ok6 oracle_New.fn (fun _ args H r H' h => oracle_New.quiet h)
def oracle_Oracle_Sum.cuts : Cuts := fun k => match k with | 1000004 => some ⟨[], [], [.normal]⟩ | _ => none
theorem oracle_Oracle_Sum.eq (x0 x1 : AVal) (H : AHeap) (K : AVal → AHeap → Prop) : evFn Try.prog (spOf l7) oracle_Oracle_Sum.cuts Try.f52 [x0, x1] H K = oracle_Oracle_Sum.w x0 x1 H K := by kernel_rfl
theorem oracle_Oracle_Sum.fn : FnOk Try.prog 52 S_oracle_Oracle_Sum := fn_ok2 ok7 mixed (T := oracle_Oracle_Sum.cuts) Try.func52 (enters_of Try.func52 (by kernel_rfl) (by kernel_rfl)) oracle_Oracle_Sum.ok oracle_Oracle_Sum.eq
def l8 : List (Nat × Bool × Abs.Spec) := (52, false, S_oracle_Oracle_Sum) :: l7
theorem ok8 : SpecsOk Try.prog (spOf l8) := SpecsOk.cons ok7 oracle_Oracle_Sum.fn (fun h => by cases h)
def oracle_Oracle_Len.cuts : Cuts := fun k => match k with | _ => none
theorem oracle_Oracle_Len.eq (x0 : AVal) (H : AHeap) (K : AVal → AHeap → Prop) : evFn Try.prog (spOf l8) oracle_Oracle_Len.cuts Try.f62 [x0] H K = oracle_Oracle_Len.w x0 H K := by kernel_rfl
theorem oracle_Oracle_Len.fn : FnOk Try.prog 62 S_oracle_Oracle_Len := fn_ok1 ok8 mixed (T := oracle_Oracle_Len.cuts) Try.func62 (enters_of Try.func62 (by kernel_rfl) (by kernel_rfl)) oracle_Oracle_Len.ok oracle_Oracle_Len.eq
def l9 : List (Nat × Bool × Abs.Spec) := (62, true, S_oracle_Oracle_Len) :: l8
theorem ok9 : SpecsOk Try.prog (spOf l9) := SpecsOk.cons ok8 oracle_Oracle_Len.fn (fun _ args H r H' h => oracle_Oracle_Len.quiet h)
def oracle_Oracle_Input.cuts : Cuts := fun k => match k with | _ => none
theorem oracle_Oracle_Input.eq (x0 x1 : AVal) (H : AHeap) (K : AVal → AHeap → Prop) : evFn Try.prog (spOf l9) oracle_Oracle_Input.cuts Try.f63 [x0, x1] H K = oracle_Oracle_Input.w x0 x1 H K := by kernel_rfl
theorem oracle_Oracle_Input.fn : FnOk Try.prog 63 S_oracle_Oracle_Input := fn_ok2 ok9 mixed (T := oracle_Oracle_Input.cuts) Try.func63 (enters_of Try.func63 (by kernel_rfl) (by kernel_rfl)) oracle_Oracle_Input.ok oracle_Oracle_Input.eq
def l10 : List (Nat × Bool × Abs.Spec) := (63, true, S_oracle_Oracle_Input) :: l9
theorem ok10 : SpecsOk Try.prog (spOf l10) := SpecsOk.cons ok9 oracle_Oracle_Input.fn (fun _ args H r H' h => oracle_Oracle_Input.quiet h)
def oracle_Pair_1.cuts : Cuts := fun k => match k with | 2 => some ⟨[7], [4], [(.exit 0), .ret]⟩ | _ => none
theorem oracle_Pair_1.eq (x0 x1 x2 : AVal) (H : AHeap) (K : AVal → AHeap → Prop) : evFn Try.prog (spOf l10) oracle_Pair_1.cuts Try.f80 [x0, x1, x2] H K = oracle_Pair_1.w x0 x1 x2 H K := by kernel_rfl
theorem oracle_Pair_1.fn : FnOk Try.prog 80 S_oracle_Pair_1 := fn_ok3 ok10 mixed (T := oracle_Pair_1.cuts) Try.func80 (enters_of Try.func80 (by kernel_rfl) (by kernel_rfl)) oracle_Pair_1.ok oracle_Pair_1.eq
def l11 : List (Nat × Bool × Abs.Spec) := (80, true, S_oracle_Pair_1) :: l10
theorem ok11 : SpecsOk Try.prog (spOf l11) := SpecsOk.cons ok10 oracle_Pair_1.fn (fun _ args H r H' h => oracle_Pair_1.quiet h)
def oracle_Pair.cuts : Cuts := fun k => match k with | 4 => some ⟨[18], [4, 5, 6], [(.exit 0), .ret]⟩ | _ => none
theorem oracle_Pair.eq (x0 x1 : AVal) (H : AHeap) (K : AVal → AHeap → Prop) : evFn Try.prog (spOf l11) oracle_Pair.cuts Try.f36 [x0, x1] H K = oracle_Pair.w x0 x1 H K := by kernel_rfl
theorem oracle_Pair.fn : FnOk Try.prog 36 S_oracle_Pair := fn_ok2 ok11 mixed (T := oracle_Pair.cuts) Try.func36 (enters_of Try.func36 (by kernel_rfl) (by kernel_rfl)) oracle_Pair.ok oracle_Pair.eq
def l12 : List (Nat × Bool × Abs.Spec) := (36, true, S_oracle_Pair) :: l11
theorem ok12 : SpecsOk Try.prog (spOf l12) := SpecsOk.cons ok11 oracle_Pair.fn (fun _ args H r H' h => oracle_Pair.quiet h)
def oracle_Oracle_Collide.cuts : Cuts := fun k => match k with | 6 => some ⟨[6, 24], [6], [(.exit 0)]⟩ | 2000008 => some ⟨[], [6], [.normal]⟩ | 16 => some ⟨[9, 10, 46], [9, 10], [(.exit 2)]⟩ | 10000018 => some ⟨[4, 7], [0, 1, 2, 3, 5, 6, 7, 4, 8, 9, 10, 11], []⟩ | 30000018 => some ⟨[7, 8], [0, 1, 2, 3, 4, 5, 6, 8, 7, 9, 10, 11], []⟩ | _ => none
theorem oracle_Oracle_Collide.eq (x0 : AVal) (H : AHeap) (K : AVal → AHeap → Prop) : evFn Try.prog (spOf l12) oracle_Oracle_Collide.cuts Try.f53 [x0] H K = oracle_Oracle_Collide.w x0 H K := by kernel_rfl
theorem oracle_Oracle_Collide.fn : FnOk Try.prog 53 S_oracle_Oracle_Collide := fn_ok1 ok12 mixed (T := oracle_Oracle_Collide.cuts) Try.func53 (enters_of Try.func53 (by kernel_rfl) (by kernel_rfl)) oracle_Oracle_Collide.ok oracle_Oracle_Collide.eq
def l13 : List (Nat × Bool × Abs.Spec) := (53, true, S_oracle_Oracle_Collide) :: l12
theorem ok13 : SpecsOk Try.prog (spOf l13) := SpecsOk.cons ok12 oracle_Oracle_Collide.fn (fun _ args H r H' h => oracle_Oracle_Collide.quiet h)
def cellaretlaw06_awake.cuts : Cuts := fun k => match k with | 1000002 => some ⟨[], [0], [.normal, .ret]⟩ | _ => none
theorem cellaretlaw06_awake.eq (H : AHeap) (K : AVal → AHeap → Prop) : evFn Try.prog (spOf l13) cellaretlaw06_awake.cuts Try.f38 [] H K = cellaretlaw06_awake.w H K := by kernel_rfl
theorem cellaretlaw06_awake.fn : FnOk Try.prog 38 S_cellaretlaw06_awake := fn_ok0 ok13 mixed (T := cellaretlaw06_awake.cuts) Try.func38 (enters_of Try.func38 (by kernel_rfl) (by kernel_rfl)) cellaretlaw06_awake.ok cellaretlaw06_awake.eq
def l14 : List (Nat × Bool × Abs.Spec) := (38, true, S_cellaretlaw06_awake) :: l13
theorem ok14 : SpecsOk Try.prog (spOf l14) := SpecsOk.cons ok13 cellaretlaw06_awake.fn (fun _ args H r H' h => cellaretlaw06_awake.quiet h)
def cellaretlaw06_OracleTells.cuts : Cuts := fun k => match k with | 4 => some ⟨[4, 5], [4], [(.exit 0)]⟩ | 1000004 => some ⟨[], [], [(.exit 0), .normal]⟩ | 13 => some ⟨[9, 10], [9], [(.exit 2)]⟩ | 19 => some ⟨[11], [2], [(.exit 4), .ret]⟩ | 22 => some ⟨[12], [2], [(.exit 6), .ret]⟩ | _ => none
theorem cellaretlaw06_OracleTells.eq (x0 : AVal) (H : AHeap) (K : AVal → AHeap → Prop) : evFn Try.prog (spOf l14) cellaretlaw06_OracleTells.cuts Try.f13 [x0] H K = cellaretlaw06_OracleTells.w x0 H K := by kernel_rfl
theorem cellaretlaw06_OracleTells.fn : FnOk Try.prog 13 S_cellaretlaw06_OracleTells := fn_ok1 ok14 mixed (T := cellaretlaw06_OracleTells.cuts) Try.func13 (enters_of Try.func13 (by kernel_rfl) (by kernel_rfl)) cellaretlaw06_OracleTells.ok cellaretlaw06_OracleTells.eq
def l15 : List (Nat × Bool × Abs.Spec) := (13, true, S_cellaretlaw06_OracleTells) :: l14
theorem ok15 : SpecsOk Try.prog (spOf l15) := SpecsOk.cons ok14 cellaretlaw06_OracleTells.fn (fun _ args H r H' h => cellaretlaw06_OracleTells.quiet h)
end Go.Proofs.Ytgcjchcmnlifmaa.own
