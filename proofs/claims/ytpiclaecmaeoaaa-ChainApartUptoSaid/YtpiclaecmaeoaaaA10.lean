/- A text of this proof. -/
import Derived.Test.YtpiclaecmaeoaaaRows
import Derived.KernelRfl
import Derived.Test.YtpiclaecmaeoaaaSha
import Derived.Test.YtpiclaecmaeoaaaApa

/- The functions of this seat come to what is told of them: each one's code is what its printed text says (checked by the kernel), and the text is proved. Conditions: none. -/
namespace Go.Proofs.Ytpiclaecmaeoaaa.own
open Go Go.Abs Go.Sh
theorem mixed : Try.prog.follows .mixedOrders = true := by kernel_rfl
theorem bulk_mem {H : Type} {d : DataW H} : ∀ {l : List (DataW H)}, d ∈ l → Rows.uptoBulk d ≤ Rows.uptoBulkAll l
  | x :: l, h => by
    simp only [Rows.uptoBulkAll]
    rcases List.mem_cons.1 h with rfl | h
    · omega
    · have := bulk_mem h; omega
  | [], h => (by cases h)
theorem bulk_str {H : Type} {s : List UInt8} {elems spare ds : List (DataW H)} (hk : Rows.uptoSmall H ds = true) (h : DataW.slice elems spare ∈ ds) (k : DataW.lit (.string s) ∈ elems) : s.length ≤ 1048576 := by
  have h1 := bulk_mem h
  have h2 := bulk_mem k
  have h3 := of_decide_eq_true hk
  simp only [Rows.uptoBulk] at h1 h2
  omega
def l0 : List (Nat × Bool × Abs.Spec) := []
theorem ok0 : SpecsOk Try.prog (spOf l0) := SpecsOk.nil
def sha_Words.cuts : Cuts := fun k => match k with | _ => none
theorem sha_Words.eq (H : AHeap) (K : AVal → AHeap → Prop) : evFn Try.prog (spOf l0) sha_Words.cuts Try.f19 [] H K = sha_Words.w H K := by kernel_rfl
theorem sha_Words.fn : FnOk Try.prog 19 S_sha_Words := fn_ok0 ok0 mixed (T := sha_Words.cuts) Try.func19 (Abs.enters_of Try.func19 (by kernel_rfl) (by kernel_rfl)) sha_Words.ok sha_Words.eq
def l1 : List (Nat × Bool × Abs.Spec) := (19, true, S_sha_Words) :: l0
theorem ok1 : SpecsOk Try.prog (spOf l1) := SpecsOk.cons ok0 sha_Words.fn (fun _ _ _ _ _ h => sha_Words.quiet h)
def sha_constants.cuts : Cuts := fun k => match k with | _ => none
theorem sha_constants.eq (H : AHeap) (K : AVal → AHeap → Prop) : evFn Try.prog (spOf l1) sha_constants.cuts Try.f25 [] H K = sha_constants.w H K := by kernel_rfl
theorem sha_constants.fn : FnOk Try.prog 25 S_sha_constants := fn_ok0 ok1 mixed (T := sha_constants.cuts) Try.func25 (Abs.enters_of Try.func25 (by kernel_rfl) (by kernel_rfl)) sha_constants.ok sha_constants.eq
def l2 : List (Nat × Bool × Abs.Spec) := (25, true, S_sha_constants) :: l1
theorem ok2 : SpecsOk Try.prog (spOf l2) := SpecsOk.cons ok1 sha_constants.fn (fun _ _ _ _ _ h => sha_constants.quiet h)
def sha_work.cuts : Cuts := fun k => match k with | 3 => some ⟨[26], [], [(.exit 0)]⟩ | 8 => some ⟨[7], [], [(.exit 2)]⟩ | 17 => some ⟨[13, 14, 15, 16, 17, 18, 19, 20, 133], [13, 14, 15, 16, 17, 18, 19, 20], [(.exit 4)]⟩ | _ => none
theorem sha_work.eq (x0 x1 : AVal) (H : AHeap) (K : AVal → AHeap → Prop) : evFn Try.prog (spOf l2) sha_work.cuts Try.f20 [x0, x1] H K = sha_work.w x0 x1 H K := by kernel_rfl
theorem sha_work.fn : FnOk Try.prog 20 S_sha_work := fn_ok2 ok2 mixed (T := sha_work.cuts) Try.func20 (Abs.enters_of Try.func20 (by kernel_rfl) (by kernel_rfl)) sha_work.ok sha_work.eq
def l3 : List (Nat × Bool × Abs.Spec) := (20, true, S_sha_work) :: l2
theorem ok3 : SpecsOk Try.prog (spOf l3) := SpecsOk.cons ok2 sha_work.fn (fun _ _ _ _ _ h => sha_work.quiet h)
def sha_tail.cuts : Cuts := fun k => match k with | 2 => some ⟨[3], [3], [(.exit 0)]⟩ | 6 => some ⟨[3, 5], [3], [(.exit 2)]⟩ | _ => none
theorem sha_tail.eq (x0 : AVal) (H : AHeap) (K : AVal → AHeap → Prop) : evFn Try.prog (spOf l3) sha_tail.cuts Try.f21 [x0] H K = sha_tail.w x0 H K := by kernel_rfl
theorem sha_tail.fn : FnOk Try.prog 21 S_sha_tail := fn_ok1 ok3 mixed (T := sha_tail.cuts) Try.func21 (Abs.enters_of Try.func21 (by kernel_rfl) (by kernel_rfl)) sha_tail.ok sha_tail.eq
def l4 : List (Nat × Bool × Abs.Spec) := (21, true, S_sha_tail) :: l3
theorem ok4 : SpecsOk Try.prog (spOf l4) := SpecsOk.cons ok3 sha_tail.fn (fun _ _ _ _ _ h => sha_tail.quiet h)
def sha_digest.cuts : Cuts := fun k => match k with | 3 => some ⟨[7], [], [(.exit 0)]⟩ | _ => none
theorem sha_digest.eq (x0 : AVal) (H : AHeap) (K : AVal → AHeap → Prop) : evFn Try.prog (spOf l4) sha_digest.cuts Try.f22 [x0] H K = sha_digest.w x0 H K := by kernel_rfl
theorem sha_digest.fn : FnOk Try.prog 22 S_sha_digest := fn_ok1 ok4 mixed (T := sha_digest.cuts) Try.func22 (Abs.enters_of Try.func22 (by kernel_rfl) (by kernel_rfl)) sha_digest.ok sha_digest.eq
def l5 : List (Nat × Bool × Abs.Spec) := (22, true, S_sha_digest) :: l4
theorem ok5 : SpecsOk Try.prog (spOf l5) := SpecsOk.cons ok4 sha_digest.fn (fun _ _ _ _ _ h => sha_digest.quiet h)
def sha_Sum.cuts : Cuts := fun k => match k with | 3 => some ⟨[0], [0], [(.exit 0)]⟩ | 7 => some ⟨[0], [], [(.exit 2)]⟩ | _ => none
theorem sha_Sum.eq (x0 : AVal) (H : AHeap) (K : AVal → AHeap → Prop) : evFn Try.prog (spOf l5) sha_Sum.cuts Try.f12 [x0] H K = sha_Sum.w x0 H K := by kernel_rfl
theorem sha_Sum.fn : FnOk Try.prog 12 S_sha_Sum := fn_ok1 ok5 mixed (T := sha_Sum.cuts) Try.func12 (Abs.enters_of Try.func12 (by kernel_rfl) (by kernel_rfl)) sha_Sum.ok sha_Sum.eq
def l6 : List (Nat × Bool × Abs.Spec) := (12, true, S_sha_Sum) :: l5
theorem ok6 : SpecsOk Try.prog (spOf l6) := SpecsOk.cons ok5 sha_Sum.fn (fun _ _ _ _ _ h => sha_Sum.quiet h)
def oracle_New.cuts : Cuts := fun k => match k with | _ => none
theorem oracle_New.eq (H : AHeap) (K : AVal → AHeap → Prop) : evFn Try.prog (spOf l6) oracle_New.cuts Try.f5 [] H K = oracle_New.w H K := by kernel_rfl
theorem oracle_New.fn : FnOk Try.prog 5 S_oracle_New := fn_ok0E ok6 mixed (T := oracle_New.cuts) Try.func5 (Abs.enters_of Try.func5 (by kernel_rfl) (by kernel_rfl)) oracle_New.ok oracle_New.eq
def l7 : List (Nat × Bool × Abs.Spec) := (5, true, S_oracle_New) :: l6
theorem ok7 : SpecsOk Try.prog (spOf l7) := SpecsOk.cons ok6 oracle_New.fn (fun _ _ _ _ _ h => oracle_New.quiet h)
def oracle_Oracle_Sum.cuts : Cuts := fun k => match k with | 1000004 => some ⟨[], [], [.normal]⟩ | _ => none
theorem oracle_Oracle_Sum.eq (x0 x1 : AVal) (H : AHeap) (K : AVal → AHeap → Prop) : evFn Try.prog (spOf l7) oracle_Oracle_Sum.cuts Try.f23 [x0, x1] H K = oracle_Oracle_Sum.w x0 x1 H K := by kernel_rfl
theorem oracle_Oracle_Sum.fn : FnOk Try.prog 23 S_oracle_Oracle_Sum := fn_ok2 ok7 mixed (T := oracle_Oracle_Sum.cuts) Try.func23 (Abs.enters_of Try.func23 (by kernel_rfl) (by kernel_rfl)) oracle_Oracle_Sum.ok oracle_Oracle_Sum.eq
def l8 : List (Nat × Bool × Abs.Spec) := (23, false, S_oracle_Oracle_Sum) :: l7
theorem ok8 : SpecsOk Try.prog (spOf l8) := SpecsOk.cons ok7 oracle_Oracle_Sum.fn (fun h => by cases h)
def oracle_Oracle_Len.cuts : Cuts := fun k => match k with | _ => none
theorem oracle_Oracle_Len.eq (x0 : AVal) (H : AHeap) (K : AVal → AHeap → Prop) : evFn Try.prog (spOf l8) oracle_Oracle_Len.cuts Try.f13 [x0] H K = oracle_Oracle_Len.w x0 H K := by kernel_rfl
theorem oracle_Oracle_Len.fn : FnOk Try.prog 13 S_oracle_Oracle_Len := fn_ok1 ok8 mixed (T := oracle_Oracle_Len.cuts) Try.func13 (Abs.enters_of Try.func13 (by kernel_rfl) (by kernel_rfl)) oracle_Oracle_Len.ok oracle_Oracle_Len.eq
def l9 : List (Nat × Bool × Abs.Spec) := (13, true, S_oracle_Oracle_Len) :: l8
theorem ok9 : SpecsOk Try.prog (spOf l9) := SpecsOk.cons ok8 oracle_Oracle_Len.fn (fun _ _ _ _ _ h => oracle_Oracle_Len.quiet h)
def oracle_Pair_1.cuts : Cuts := fun k => match k with | 2 => some ⟨[7], [4], [(.exit 0), .ret]⟩ | _ => none
theorem oracle_Pair_1.eq (x0 x1 x2 : AVal) (H : AHeap) (K : AVal → AHeap → Prop) : evFn Try.prog (spOf l9) oracle_Pair_1.cuts Try.f24 [x0, x1, x2] H K = oracle_Pair_1.w x0 x1 x2 H K := by kernel_rfl
theorem oracle_Pair_1.fn : FnOk Try.prog 24 S_oracle_Pair_1 := fn_ok3 ok9 mixed (T := oracle_Pair_1.cuts) Try.func24 (Abs.enters_of Try.func24 (by kernel_rfl) (by kernel_rfl)) oracle_Pair_1.ok oracle_Pair_1.eq
def l10 : List (Nat × Bool × Abs.Spec) := (24, true, S_oracle_Pair_1) :: l9
theorem ok10 : SpecsOk Try.prog (spOf l10) := SpecsOk.cons ok9 oracle_Pair_1.fn (fun _ _ _ _ _ h => oracle_Pair_1.quiet h)
def oracle_Pair.cuts : Cuts := fun k => match k with | 4 => some ⟨[18], [4, 5, 6], [(.exit 0), .ret]⟩ | _ => none
theorem oracle_Pair.eq (x0 x1 : AVal) (H : AHeap) (K : AVal → AHeap → Prop) : evFn Try.prog (spOf l10) oracle_Pair.cuts Try.f16 [x0, x1] H K = oracle_Pair.w x0 x1 H K := by kernel_rfl
theorem oracle_Pair.fn : FnOk Try.prog 16 S_oracle_Pair := fn_ok2 ok10 mixed (T := oracle_Pair.cuts) Try.func16 (Abs.enters_of Try.func16 (by kernel_rfl) (by kernel_rfl)) oracle_Pair.ok oracle_Pair.eq
def l11 : List (Nat × Bool × Abs.Spec) := (16, true, S_oracle_Pair) :: l10
theorem ok11 : SpecsOk Try.prog (spOf l11) := SpecsOk.cons ok10 oracle_Pair.fn (fun _ _ _ _ _ h => oracle_Pair.quiet h)
def oracle_Oracle_Collide.cuts : Cuts := fun k => match k with | 6 => some ⟨[6, 24], [6], [(.exit 0)]⟩ | 2000008 => some ⟨[], [6], [.normal]⟩ | 16 => some ⟨[9, 10, 46], [9, 10], [(.exit 2)]⟩ | 10000018 => some ⟨[4, 7], [0, 1, 2, 3, 5, 6, 7, 4, 8, 9, 10, 11], []⟩ | 30000018 => some ⟨[7, 8], [0, 1, 2, 3, 4, 5, 6, 8, 7, 9, 10, 11], []⟩ | _ => none
theorem oracle_Oracle_Collide.eq (x0 : AVal) (H : AHeap) (K : AVal → AHeap → Prop) : evFn Try.prog (spOf l11) oracle_Oracle_Collide.cuts Try.f8 [x0] H K = oracle_Oracle_Collide.w x0 H K := by kernel_rfl
theorem oracle_Oracle_Collide.fn : FnOk Try.prog 8 S_oracle_Oracle_Collide := fn_ok1 ok11 mixed (T := oracle_Oracle_Collide.cuts) Try.func8 (Abs.enters_of Try.func8 (by kernel_rfl) (by kernel_rfl)) oracle_Oracle_Collide.ok oracle_Oracle_Collide.eq
def l12 : List (Nat × Bool × Abs.Spec) := (8, true, S_oracle_Oracle_Collide) :: l11
theorem ok12 : SpecsOk Try.prog (spOf l12) := SpecsOk.cons ok11 oracle_Oracle_Collide.fn (fun _ _ _ _ _ h => oracle_Oracle_Collide.quiet h)
def cellaretref01_Zeros.cuts : Cuts := fun k => match k with | _ => none
theorem cellaretref01_Zeros.eq (x0 : AVal) (H : AHeap) (K : AVal → AHeap → Prop) : evFn Try.prog (spOf l12) cellaretref01_Zeros.cuts Try.f17 [x0] H K = cellaretref01_Zeros.w x0 H K := by kernel_rfl
theorem cellaretref01_Zeros.fn : FnOk Try.prog 17 S_cellaretref01_Zeros := fn_ok1 ok12 mixed (T := cellaretref01_Zeros.cuts) Try.func17 (Abs.enters_of Try.func17 (by kernel_rfl) (by kernel_rfl)) cellaretref01_Zeros.ok cellaretref01_Zeros.eq
def l13 : List (Nat × Bool × Abs.Spec) := (17, true, S_cellaretref01_Zeros) :: l12
theorem ok13 : SpecsOk Try.prog (spOf l13) := SpecsOk.cons ok12 cellaretref01_Zeros.fn (fun _ _ _ _ _ h => cellaretref01_Zeros.quiet h)
def cellaretref01_Full.cuts : Cuts := fun k => match k with | _ => none
theorem cellaretref01_Full.eq (x0 x1 : AVal) (H : AHeap) (K : AVal → AHeap → Prop) : evFn Try.prog (spOf l13) cellaretref01_Full.cuts Try.f10 [x0, x1] H K = cellaretref01_Full.w x0 x1 H K := by kernel_rfl
theorem cellaretref01_Full.fn : FnOk Try.prog 10 S_cellaretref01_Full := fn_ok2 ok13 mixed (T := cellaretref01_Full.cuts) Try.func10 (Abs.enters_of Try.func10 (by kernel_rfl) (by kernel_rfl)) cellaretref01_Full.ok cellaretref01_Full.eq
def l14 : List (Nat × Bool × Abs.Spec) := (10, true, S_cellaretref01_Full) :: l13
theorem ok14 : SpecsOk Try.prog (spOf l14) := SpecsOk.cons ok13 cellaretref01_Full.fn (fun _ _ _ _ _ h => cellaretref01_Full.quiet h)
def cellaretref01_Same.cuts : Cuts := fun k => match k with | 4 => some ⟨[5], [4], [(.exit 0), .ret]⟩ | _ => none
theorem cellaretref01_Same.eq (x0 x1 : AVal) (H : AHeap) (K : AVal → AHeap → Prop) : evFn Try.prog (spOf l14) cellaretref01_Same.cuts Try.f7 [x0, x1] H K = cellaretref01_Same.w x0 x1 H K := by kernel_rfl
theorem cellaretref01_Same.fn : FnOk Try.prog 7 S_cellaretref01_Same := fn_ok2E ok14 mixed (T := cellaretref01_Same.cuts) Try.func7 (Abs.enters_of Try.func7 (by kernel_rfl) (by kernel_rfl)) cellaretref01_Same.ok cellaretref01_Same.eq
def l15 : List (Nat × Bool × Abs.Spec) := (7, true, S_cellaretref01_Same) :: l14
theorem ok15 : SpecsOk Try.prog (spOf l15) := SpecsOk.cons ok14 cellaretref01_Same.fn (fun _ _ _ _ _ h => cellaretref01_Same.quiet h)
def chain_sum.cuts : Cuts := fun k => match k with | _ => none
theorem chain_sum.eq (x0 x1 : AVal) (H : AHeap) (K : AVal → AHeap → Prop) : evFn Try.prog (spOf l15) chain_sum.cuts Try.f15 [x0, x1] H K = chain_sum.w x0 x1 H K := by kernel_rfl
theorem chain_sum.fn : FnOk Try.prog 15 S_chain_sum := fn_ok2 ok15 mixed (T := chain_sum.cuts) Try.func15 (Abs.enters_of Try.func15 (by kernel_rfl) (by kernel_rfl)) chain_sum.ok chain_sum.eq
def l16 : List (Nat × Bool × Abs.Spec) := (15, false, S_chain_sum) :: l15
theorem ok16 : SpecsOk Try.prog (spOf l16) := SpecsOk.cons ok15 chain_sum.fn (fun h => by cases h)
def chain_Start_1.cuts : Cuts := fun k => match k with | _ => none
theorem chain_Start_1.eq (x0 : AVal) (H : AHeap) (K : AVal → AHeap → Prop) : evFn Try.prog (spOf l16) chain_Start_1.cuts Try.f18 [x0] H K = chain_Start_1.w x0 H K := by kernel_rfl
theorem chain_Start_1.fn : FnOk Try.prog 18 S_chain_Start_1 := fn_ok1 ok16 mixed (T := chain_Start_1.cuts) Try.func18 (Abs.enters_of Try.func18 (by kernel_rfl) (by kernel_rfl)) chain_Start_1.ok chain_Start_1.eq
def l17 : List (Nat × Bool × Abs.Spec) := (18, true, S_chain_Start_1) :: l16
theorem ok17 : SpecsOk Try.prog (spOf l17) := SpecsOk.cons ok16 chain_Start_1.fn (fun _ _ _ _ _ h => chain_Start_1.quiet h)
def chain_Start.cuts : Cuts := fun k => match k with | _ => none
theorem chain_Start.eq (x0 x1 x2 x3 : AVal) (H : AHeap) (K : AVal → AHeap → Prop) : evFn Try.prog (spOf l17) chain_Start.cuts Try.f11 [x0, x1, x2, x3] H K = chain_Start.w x0 x1 x2 x3 H K := by kernel_rfl
theorem chain_Start.fn : FnOk Try.prog 11 S_chain_Start := fn_ok4 ok17 mixed (T := chain_Start.cuts) Try.func11 (Abs.enters_of Try.func11 (by kernel_rfl) (by kernel_rfl)) chain_Start.ok chain_Start.eq
def l18 : List (Nat × Bool × Abs.Spec) := (11, false, S_chain_Start) :: l17
theorem ok18 : SpecsOk Try.prog (spOf l18) := SpecsOk.cons ok17 chain_Start.fn (fun h => by cases h)
def chain_Next_1.cuts : Cuts := fun k => match k with | _ => none
theorem chain_Next_1.eq (x0 x1 : AVal) (H : AHeap) (K : AVal → AHeap → Prop) : evFn Try.prog (spOf l18) chain_Next_1.cuts Try.f14 [x0, x1] H K = chain_Next_1.w x0 x1 H K := by kernel_rfl
theorem chain_Next_1.fn : FnOk Try.prog 14 S_chain_Next_1 := fn_ok2E ok18 mixed (T := chain_Next_1.cuts) Try.func14 (Abs.enters_of Try.func14 (by kernel_rfl) (by kernel_rfl)) chain_Next_1.ok chain_Next_1.eq
def l19 : List (Nat × Bool × Abs.Spec) := (14, false, S_chain_Next_1) :: l18
theorem ok19 : SpecsOk Try.prog (spOf l19) := SpecsOk.cons ok18 chain_Next_1.fn (fun h => by cases h)
def chain_Next.cuts : Cuts := fun k => match k with | 1000001 => some ⟨[], [7], [.normal, .ret]⟩ | 6 => some ⟨[28], [7], [(.exit 0), .ret]⟩ | _ => none
theorem chain_Next.eq (x0 x1 x2 : AVal) (H : AHeap) (K : AVal → AHeap → Prop) : evFn Try.prog (spOf l19) chain_Next.cuts Try.f6 [x0, x1, x2] H K = chain_Next.w x0 x1 x2 H K := by kernel_rfl
theorem chain_Next.fn : FnOk Try.prog 6 S_chain_Next := fn_ok3 ok19 mixed (T := chain_Next.cuts) Try.func6 (Abs.enters_of Try.func6 (by kernel_rfl) (by kernel_rfl)) chain_Next.ok chain_Next.eq
def l20 : List (Nat × Bool × Abs.Spec) := (6, false, S_chain_Next) :: l19
theorem ok20 : SpecsOk Try.prog (spOf l20) := SpecsOk.cons ok19 chain_Next.fn (fun h => by cases h)
def chain_Along.cuts : Cuts := fun k => match k with | 2 => some ⟨[14], [7], [(.exit 0), .ret]⟩ | _ => none
theorem chain_Along.eq (x0 x1 x2 : AVal) (H : AHeap) (K : AVal → AHeap → Prop) : evFn Try.prog (spOf l20) chain_Along.cuts Try.f9 [x0, x1, x2] H K = chain_Along.w x0 x1 x2 H K := by kernel_rfl
theorem chain_Along.fn : FnOk Try.prog 9 S_chain_Along := fn_ok3 ok20 mixed (T := chain_Along.cuts) Try.func9 (Abs.enters_of Try.func9 (by kernel_rfl) (by kernel_rfl)) chain_Along.ok chain_Along.eq
def l21 : List (Nat × Bool × Abs.Spec) := (9, false, S_chain_Along) :: l20
theorem ok21 : SpecsOk Try.prog (spOf l21) := SpecsOk.cons ok20 chain_Along.fn (fun h => by cases h)
def cellaretlaw14_awake.cuts : Cuts := fun k => match k with | _ => none
theorem cellaretlaw14_awake.eq (H : AHeap) (K : AVal → AHeap → Prop) : evFn Try.prog (spOf l21) cellaretlaw14_awake.cuts Try.f4 [] H K = cellaretlaw14_awake.w H K := by kernel_rfl
theorem cellaretlaw14_awake.fn : FnOk Try.prog 4 S_cellaretlaw14_awake := fn_ok0 ok21 mixed (T := cellaretlaw14_awake.cuts) Try.func4 (Abs.enters_of Try.func4 (by kernel_rfl) (by kernel_rfl)) cellaretlaw14_awake.ok cellaretlaw14_awake.eq
def l22 : List (Nat × Bool × Abs.Spec) := (4, true, S_cellaretlaw14_awake) :: l21
theorem ok22 : SpecsOk Try.prog (spOf l22) := SpecsOk.cons ok21 cellaretlaw14_awake.fn (fun _ _ _ _ _ h => cellaretlaw14_awake.quiet h)
def cellaretlaw14_ChainApart.cuts : Cuts := fun k => match k with | 2000001 => some ⟨[], [3, 4, 5, 6, 7], [.normal]⟩ | 10000001 => some ⟨[3, 11], [0, 1, 2, 4, 5, 6, 7, 8, 9, 10, 11, 3, 12, 13, 14, 15], []⟩ | 20000001 => some ⟨[5, 11], [0, 1, 2, 3, 4, 6, 7, 8, 9, 10, 11, 5, 12, 13, 14, 15], []⟩ | 40000001 => some ⟨[7, 11], [0, 1, 2, 3, 4, 5, 6, 8, 9, 10, 11, 7, 12, 13, 14, 15], []⟩ | 80000001 => some ⟨[9, 11], [0, 1, 2, 3, 4, 5, 6, 7, 8, 10, 11, 9, 12, 13, 14, 15], []⟩ | 90000001 => some ⟨[8, 10], [0, 1, 2, 3, 4, 5, 6, 7, 9, 10, 8, 11, 12, 13, 14, 15], []⟩ | 50000001 => some ⟨[6, 10], [0, 1, 2, 3, 4, 5, 7, 8, 9, 10, 6, 11, 12, 13, 14, 15], []⟩ | 100000001 => some ⟨[8, 10], [0, 1, 2, 3, 4, 5, 6, 7, 9, 10, 8, 11, 12, 13, 14, 15], []⟩ | 110000001 => some ⟨[7, 9], [0, 1, 2, 3, 4, 5, 6, 8, 9, 7, 10, 11, 12, 13, 14, 15], []⟩ | 30000001 => some ⟨[4, 10], [0, 1, 2, 3, 5, 6, 7, 8, 9, 10, 4, 11, 12, 13, 14, 15], []⟩ | 60000001 => some ⟨[6, 10], [0, 1, 2, 3, 4, 5, 7, 8, 9, 10, 6, 11, 12, 13, 14, 15], []⟩ | 120000001 => some ⟨[8, 10], [0, 1, 2, 3, 4, 5, 6, 7, 9, 10, 8, 11, 12, 13, 14, 15], []⟩ | 130000001 => some ⟨[7, 9], [0, 1, 2, 3, 4, 5, 6, 8, 9, 7, 10, 11, 12, 13, 14, 15], []⟩ | 70000001 => some ⟨[5, 9], [0, 1, 2, 3, 4, 6, 7, 8, 9, 5, 10, 11, 12, 13, 14, 15], []⟩ | 140000001 => some ⟨[7, 9], [0, 1, 2, 3, 4, 5, 6, 8, 9, 7, 10, 11, 12, 13, 14, 15], []⟩ | 150000001 => some ⟨[6, 8], [0, 1, 2, 3, 4, 5, 7, 8, 6, 9, 10, 11, 12, 13, 14, 15], []⟩ | 1000002 => some ⟨[], [2], [.normal, .ret]⟩ | 1000007 => some ⟨[], [2], [.normal, .ret]⟩ | 1000011 => some ⟨[], [2], [.normal, .ret]⟩ | 17 => some ⟨[20, 21], [20], [(.exit 0)]⟩ | 1000017 => some ⟨[], [], [(.exit 0), .normal]⟩ | 1000020 => some ⟨[], [2], [.normal, .ret]⟩ | _ => none
theorem cellaretlaw14_ChainApart.eq (x0 : AVal) (H : AHeap) (K : AVal → AHeap → Prop) : evFn Try.prog (spOf l22) cellaretlaw14_ChainApart.cuts Try.f3 [x0] H K = cellaretlaw14_ChainApart.w x0 H K := by kernel_rfl
theorem cellaretlaw14_ChainApart.fn : FnOk Try.prog 3 S_cellaretlaw14_ChainApart := fn_ok1 ok22 mixed (T := cellaretlaw14_ChainApart.cuts) Try.func3 (Abs.enters_of Try.func3 (by kernel_rfl) (by kernel_rfl)) cellaretlaw14_ChainApart.ok cellaretlaw14_ChainApart.eq
def l23 : List (Nat × Bool × Abs.Spec) := (3, false, S_cellaretlaw14_ChainApart) :: l22
theorem ok23 : SpecsOk Try.prog (spOf l23) := SpecsOk.cons ok22 cellaretlaw14_ChainApart.fn (fun h => by cases h)
end Go.Proofs.Ytpiclaecmaeoaaa.own
