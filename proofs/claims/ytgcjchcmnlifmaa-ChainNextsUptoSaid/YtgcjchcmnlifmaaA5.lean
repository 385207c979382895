/- A text of this proof. -/
import Derived.Test.YtgcjchcmnlifmaaRows
import Derived.KernelRfl
import Derived.Test.YtgcjchcmnlifmaaSha
import Derived.Test.YtgcjchcmnlifmaaChainC
import Derived.Test.YtgcjchcmnlifmaaChain

/- The functions of this seat come to what is told of them: each one's code is what its printed text says (checked by the kernel), and the text is proved. Conditions: none. -/
namespace Go.Proofs.Ytgcjchcmnlifmaa.own
open Go Go.Abs Go.Sh
theorem mixed : Try.prog.follows .mixedOrders = true := by kernel_rfl
theorem bulk_mem {H : Type} {d : DataW H} : ∀ {l : List (DataW H)}, d ∈ l → Rows.uptoBulk d ≤ Rows.uptoBulkAll l
  | x :: l, h => by
    simp only [Rows.uptoBulkAll]
    rcases List.mem_cons.1 h with rfl | h
    · omega
    · have := bulk_mem h; omega
  | [], h => (by cases h)
theorem bulk_str {H : Type} {s : List UInt8} {elems spare ds : List (DataW H)} (hk : Rows.uptoSmall H ds = true) (h : DataW.slice elems spare ∈ ds) (k : DataW.lit (.string s) ∈ elems) : s.length ≤ 1048576 := by
  have h1 := bulk_mem h
  have h2 := bulk_mem k
  have h3 := of_decide_eq_true hk
  simp only [Rows.uptoBulk] at h1 h2
  omega
def l0 : List (Nat × Bool × Abs.Spec) := []
theorem ok0 : SpecsOk Try.prog (spOf l0) := SpecsOk.nil
def sha_Words.cuts : Cuts := fun k => match k with | _ => none
theorem sha_Words.eq (H : AHeap) (K : AVal → AHeap → Prop) : evFn Try.prog (spOf l0) sha_Words.cuts Try.f34 [] H K = sha_Words.w H K := by kernel_rfl
theorem sha_Words.fn : FnOk Try.prog 34 S_sha_Words := fn_ok0 ok0 mixed (T := sha_Words.cuts) Try.func34 (enters_of Try.func34 (by kernel_rfl) (by kernel_rfl)) sha_Words.ok sha_Words.eq
def l1 : List (Nat × Bool × Abs.Spec) := (34, true, S_sha_Words) :: l0
theorem ok1 : SpecsOk Try.prog (spOf l1) := SpecsOk.cons ok0 sha_Words.fn (fun _ args H r H' h => sha_Words.quiet h)
def sha_constants.cuts : Cuts := fun k => match k with | _ => none
theorem sha_constants.eq (H : AHeap) (K : AVal → AHeap → Prop) : evFn Try.prog (spOf l1) sha_constants.cuts Try.f79 [] H K = sha_constants.w H K := by kernel_rfl
theorem sha_constants.fn : FnOk Try.prog 79 S_sha_constants := fn_ok0 ok1 mixed (T := sha_constants.cuts) Try.func79 (enters_of Try.func79 (by kernel_rfl) (by kernel_rfl)) sha_constants.ok sha_constants.eq
def l2 : List (Nat × Bool × Abs.Spec) := (79, true, S_sha_constants) :: l1
theorem ok2 : SpecsOk Try.prog (spOf l2) := SpecsOk.cons ok1 sha_constants.fn (fun _ args H r H' h => sha_constants.quiet h)
def sha_work.cuts : Cuts := fun k => match k with | 3 => some ⟨[26], [], [(.exit 0)]⟩ | 8 => some ⟨[7], [], [(.exit 2)]⟩ | 17 => some ⟨[13, 14, 15, 16, 17, 18, 19, 20, 133], [13, 14, 15, 16, 17, 18, 19, 20], [(.exit 4)]⟩ | _ => none
theorem sha_work.eq (x0 x1 : AVal) (H : AHeap) (K : AVal → AHeap → Prop) : evFn Try.prog (spOf l2) sha_work.cuts Try.f69 [x0, x1] H K = sha_work.w x0 x1 H K := by kernel_rfl
theorem sha_work.fn : FnOk Try.prog 69 S_sha_work := fn_ok2 ok2 mixed (T := sha_work.cuts) Try.func69 (enters_of Try.func69 (by kernel_rfl) (by kernel_rfl)) sha_work.ok sha_work.eq
def l3 : List (Nat × Bool × Abs.Spec) := (69, true, S_sha_work) :: l2
theorem ok3 : SpecsOk Try.prog (spOf l3) := SpecsOk.cons ok2 sha_work.fn (fun _ args H r H' h => sha_work.quiet h)
def sha_tail.cuts : Cuts := fun k => match k with | 2 => some ⟨[3], [3], [(.exit 0)]⟩ | 6 => some ⟨[3, 5], [3], [(.exit 2)]⟩ | _ => none
theorem sha_tail.eq (x0 : AVal) (H : AHeap) (K : AVal → AHeap → Prop) : evFn Try.prog (spOf l3) sha_tail.cuts Try.f70 [x0] H K = sha_tail.w x0 H K := by kernel_rfl
theorem sha_tail.fn : FnOk Try.prog 70 S_sha_tail := fn_ok1 ok3 mixed (T := sha_tail.cuts) Try.func70 (enters_of Try.func70 (by kernel_rfl) (by kernel_rfl)) sha_tail.ok sha_tail.eq
def l4 : List (Nat × Bool × Abs.Spec) := (70, true, S_sha_tail) :: l3
theorem ok4 : SpecsOk Try.prog (spOf l4) := SpecsOk.cons ok3 sha_tail.fn (fun _ args H r H' h => sha_tail.quiet h)
def sha_digest.cuts : Cuts := fun k => match k with | 3 => some ⟨[7], [], [(.exit 0)]⟩ | _ => none
theorem sha_digest.eq (x0 : AVal) (H : AHeap) (K : AVal → AHeap → Prop) : evFn Try.prog (spOf l4) sha_digest.cuts Try.f72 [x0] H K = sha_digest.w x0 H K := by kernel_rfl
theorem sha_digest.fn : FnOk Try.prog 72 S_sha_digest := fn_ok1 ok4 mixed (T := sha_digest.cuts) Try.func72 (enters_of Try.func72 (by kernel_rfl) (by kernel_rfl)) sha_digest.ok sha_digest.eq
def l5 : List (Nat × Bool × Abs.Spec) := (72, true, S_sha_digest) :: l4
theorem ok5 : SpecsOk Try.prog (spOf l5) := SpecsOk.cons ok4 sha_digest.fn (fun _ args H r H' h => sha_digest.quiet h)
def sha_Sum.cuts : Cuts := fun k => match k with | 3 => some ⟨[0], [0], [(.exit 0)]⟩ | 7 => some ⟨[0], [], [(.exit 2)]⟩ | _ => none
theorem sha_Sum.eq (x0 : AVal) (H : AHeap) (K : AVal → AHeap → Prop) : evFn Try.prog (spOf l5) sha_Sum.cuts Try.f24 [x0] H K = sha_Sum.w x0 H K := by kernel_rfl
theorem sha_Sum.fn : FnOk Try.prog 24 S_sha_Sum := fn_ok1 ok5 mixed (T := sha_Sum.cuts) Try.func24 (enters_of Try.func24 (by kernel_rfl) (by kernel_rfl)) sha_Sum.ok sha_Sum.eq
def l6 : List (Nat × Bool × Abs.Spec) := (24, true, S_sha_Sum) :: l5
theorem ok6 : SpecsOk Try.prog (spOf l6) := SpecsOk.cons ok5 sha_Sum.fn (fun _ args H r H' h => sha_Sum.quiet h)
def oracle_New.cuts : Cuts := fun k => match k with | _ => none
theorem oracle_New.eq (H : AHeap) (K : AVal → AHeap → Prop) : evFn Try.prog (spOf l6) oracle_New.cuts Try.f41 [] H K = oracle_New.w H K := by kernel_rfl
theorem oracle_New.fn : FnOk Try.prog 41 S_oracle_New := fn_ok0E ok6 mixed (T := oracle_New.cuts) Try.func41 (enters_of Try.func41 (by kernel_rfl) (by kernel_rfl)) oracle_New.ok oracle_New.eq
def l7 : List (Nat × Bool × Abs.Spec) := (41, true, S_oracle_New) :: l6
theorem ok7 : SpecsOk Try.prog (spOf l7) := SpecsOk.cons ok6 oracle_New.fn (fun _ args H r H' h => oracle_New.quiet h)
def oracle_Oracle_Sum.cuts : Cuts := fun k => match k with | 1000004 => some ⟨[], [], [.normal]⟩ | _ => none
theorem oracle_Oracle_Sum.eq (x0 x1 : AVal) (H : AHeap) (K : AVal → AHeap → Prop) : evFn Try.prog (spOf l7) oracle_Oracle_Sum.cuts Try.f52 [x0, x1] H K = oracle_Oracle_Sum.w x0 x1 H K := by kernel_rfl
theorem oracle_Oracle_Sum.fn : FnOk Try.prog 52 S_oracle_Oracle_Sum := fn_ok2 ok7 mixed (T := oracle_Oracle_Sum.cuts) Try.func52 (enters_of Try.func52 (by kernel_rfl) (by kernel_rfl)) oracle_Oracle_Sum.ok oracle_Oracle_Sum.eq
def l8 : List (Nat × Bool × Abs.Spec) := (52, false, S_oracle_Oracle_Sum) :: l7
theorem ok8 : SpecsOk Try.prog (spOf l8) := SpecsOk.cons ok7 oracle_Oracle_Sum.fn (fun h => by cases h)
def oracle_Oracle_Len.cuts : Cuts := fun k => match k with | _ => none
theorem oracle_Oracle_Len.eq (x0 : AVal) (H : AHeap) (K : AVal → AHeap → Prop) : evFn Try.prog (spOf l8) oracle_Oracle_Len.cuts Try.f62 [x0] H K = oracle_Oracle_Len.w x0 H K := by kernel_rfl
theorem oracle_Oracle_Len.fn : FnOk Try.prog 62 S_oracle_Oracle_Len := fn_ok1 ok8 mixed (T := oracle_Oracle_Len.cuts) Try.func62 (enters_of Try.func62 (by kernel_rfl) (by kernel_rfl)) oracle_Oracle_Len.ok oracle_Oracle_Len.eq
def l9 : List (Nat × Bool × Abs.Spec) := (62, true, S_oracle_Oracle_Len) :: l8
theorem ok9 : SpecsOk Try.prog (spOf l9) := SpecsOk.cons ok8 oracle_Oracle_Len.fn (fun _ args H r H' h => oracle_Oracle_Len.quiet h)
def cellaretref01_Zeros.cuts : Cuts := fun k => match k with | _ => none
theorem cellaretref01_Zeros.eq (x0 : AVal) (H : AHeap) (K : AVal → AHeap → Prop) : evFn Try.prog (spOf l9) cellaretref01_Zeros.cuts Try.f67 [x0] H K = cellaretref01_Zeros.w x0 H K := by kernel_rfl
theorem cellaretref01_Zeros.fn : FnOk Try.prog 67 S_cellaretref01_Zeros := fn_ok1 ok9 mixed (T := cellaretref01_Zeros.cuts) Try.func67 (enters_of Try.func67 (by kernel_rfl) (by kernel_rfl)) cellaretref01_Zeros.ok cellaretref01_Zeros.eq
def l10 : List (Nat × Bool × Abs.Spec) := (67, true, S_cellaretref01_Zeros) :: l9
theorem ok10 : SpecsOk Try.prog (spOf l10) := SpecsOk.cons ok9 cellaretref01_Zeros.fn (fun _ args H r H' h => cellaretref01_Zeros.quiet h)
def cellaretref01_Full.cuts : Cuts := fun k => match k with | _ => none
theorem cellaretref01_Full.eq (x0 x1 : AVal) (H : AHeap) (K : AVal → AHeap → Prop) : evFn Try.prog (spOf l10) cellaretref01_Full.cuts Try.f83 [x0, x1] H K = cellaretref01_Full.w x0 x1 H K := by kernel_rfl
theorem cellaretref01_Full.fn : FnOk Try.prog 83 S_cellaretref01_Full := fn_ok2 ok10 mixed (T := cellaretref01_Full.cuts) Try.func83 (enters_of Try.func83 (by kernel_rfl) (by kernel_rfl)) cellaretref01_Full.ok cellaretref01_Full.eq
def l11 : List (Nat × Bool × Abs.Spec) := (83, true, S_cellaretref01_Full) :: l10
theorem ok11 : SpecsOk Try.prog (spOf l11) := SpecsOk.cons ok10 cellaretref01_Full.fn (fun _ args H r H' h => cellaretref01_Full.quiet h)
def chain_sum.cuts : Cuts := fun k => match k with | _ => none
theorem chain_sum.eq (x0 x1 : AVal) (H : AHeap) (K : AVal → AHeap → Prop) : evFn Try.prog (spOf l11) chain_sum.cuts Try.f85 [x0, x1] H K = chain_sum.w x0 x1 H K := by kernel_rfl
theorem chain_sum.fn : FnOk Try.prog 85 S_chain_sum := fn_ok2 ok11 mixed (T := chain_sum.cuts) Try.func85 (enters_of Try.func85 (by kernel_rfl) (by kernel_rfl)) chain_sum.ok chain_sum.eq
def l12 : List (Nat × Bool × Abs.Spec) := (85, false, S_chain_sum) :: l11
theorem ok12 : SpecsOk Try.prog (spOf l12) := SpecsOk.cons ok11 chain_sum.fn (fun h => by cases h)
def chain_Start_1.cuts : Cuts := fun k => match k with | _ => none
theorem chain_Start_1.eq (x0 : AVal) (H : AHeap) (K : AVal → AHeap → Prop) : evFn Try.prog (spOf l12) chain_Start_1.cuts Try.f86 [x0] H K = chain_Start_1.w x0 H K := by kernel_rfl
theorem chain_Start_1.fn : FnOk Try.prog 86 S_chain_Start_1 := fn_ok1 ok12 mixed (T := chain_Start_1.cuts) Try.func86 (enters_of Try.func86 (by kernel_rfl) (by kernel_rfl)) chain_Start_1.ok chain_Start_1.eq
def l13 : List (Nat × Bool × Abs.Spec) := (86, true, S_chain_Start_1) :: l12
theorem ok13 : SpecsOk Try.prog (spOf l13) := SpecsOk.cons ok12 chain_Start_1.fn (fun _ args H r H' h => chain_Start_1.quiet h)
def chain_Start.cuts : Cuts := fun k => match k with | _ => none
theorem chain_Start.eq (x0 x1 x2 x3 : AVal) (H : AHeap) (K : AVal → AHeap → Prop) : evFn Try.prog (spOf l13) chain_Start.cuts Try.f50 [x0, x1, x2, x3] H K = chain_Start.w x0 x1 x2 x3 H K := by kernel_rfl
theorem chain_Start.fn : FnOk Try.prog 50 S_chain_Start := fn_ok4 ok13 mixed (T := chain_Start.cuts) Try.func50 (enters_of Try.func50 (by kernel_rfl) (by kernel_rfl)) chain_Start.ok chain_Start.eq
def l14 : List (Nat × Bool × Abs.Spec) := (50, false, S_chain_Start) :: l13
theorem ok14 : SpecsOk Try.prog (spOf l14) := SpecsOk.cons ok13 chain_Start.fn (fun h => by cases h)
def chain_Check.cuts : Cuts := fun k => match k with | _ => none
theorem chain_Check.eq (x0 x1 : AVal) (H : AHeap) (K : AVal → AHeap → Prop) : evFn Try.prog (spOf l14) chain_Check.cuts Try.f51 [x0, x1] H K = chain_Check.w x0 x1 H K := by kernel_rfl
theorem chain_Check.fn : FnOk Try.prog 51 S_chain_Check := fn_ok2 ok14 mixed (T := chain_Check.cuts) Try.func51 (enters_of Try.func51 (by kernel_rfl) (by kernel_rfl)) chain_Check.ok chain_Check.eq
def l15 : List (Nat × Bool × Abs.Spec) := (51, false, S_chain_Check) :: l14
theorem ok15 : SpecsOk Try.prog (spOf l15) := SpecsOk.cons ok14 chain_Check.fn (fun h => by cases h)
def chain_Next_1.cuts : Cuts := fun k => match k with | _ => none
theorem chain_Next_1.eq (x0 x1 : AVal) (H : AHeap) (K : AVal → AHeap → Prop) : evFn Try.prog (spOf l15) chain_Next_1.cuts Try.f84 [x0, x1] H K = chain_Next_1.w x0 x1 H K := by kernel_rfl
theorem chain_Next_1.fn : FnOk Try.prog 84 S_chain_Next_1 := fn_ok2E ok15 mixed (T := chain_Next_1.cuts) Try.func84 (enters_of Try.func84 (by kernel_rfl) (by kernel_rfl)) chain_Next_1.ok chain_Next_1.eq
def l16 : List (Nat × Bool × Abs.Spec) := (84, false, S_chain_Next_1) :: l15
theorem ok16 : SpecsOk Try.prog (spOf l16) := SpecsOk.cons ok15 chain_Next_1.fn (fun h => by cases h)
def chain_Next.cuts : Cuts := fun k => match k with | 1000001 => some ⟨[], [7], [.normal, .ret]⟩ | 6 => some ⟨[28], [7], [(.exit 0), .ret]⟩ | _ => none
theorem chain_Next.eq (x0 x1 x2 : AVal) (H : AHeap) (K : AVal → AHeap → Prop) : evFn Try.prog (spOf l16) chain_Next.cuts Try.f47 [x0, x1, x2] H K = chain_Next.w x0 x1 x2 H K := by kernel_rfl
theorem chain_Next.fn : FnOk Try.prog 47 S_chain_Next := fn_ok3 ok16 mixed (T := chain_Next.cuts) Try.func47 (enters_of Try.func47 (by kernel_rfl) (by kernel_rfl)) chain_Next.ok chain_Next.eq
def l17 : List (Nat × Bool × Abs.Spec) := (47, false, S_chain_Next) :: l16
theorem ok17 : SpecsOk Try.prog (spOf l17) := SpecsOk.cons ok16 chain_Next.fn (fun h => by cases h)
def chain_Along.cuts : Cuts := fun k => match k with | 2 => some ⟨[14], [7], [(.exit 0), .ret]⟩ | _ => none
theorem chain_Along.eq (x0 x1 x2 : AVal) (H : AHeap) (K : AVal → AHeap → Prop) : evFn Try.prog (spOf l17) chain_Along.cuts Try.f48 [x0, x1, x2] H K = chain_Along.w x0 x1 x2 H K := by kernel_rfl
theorem chain_Along.fn : FnOk Try.prog 48 S_chain_Along := fn_ok3 ok17 mixed (T := chain_Along.cuts) Try.func48 (enters_of Try.func48 (by kernel_rfl) (by kernel_rfl)) chain_Along.ok chain_Along.eq
def l18 : List (Nat × Bool × Abs.Spec) := (48, false, S_chain_Along) :: l17
theorem ok18 : SpecsOk Try.prog (spOf l18) := SpecsOk.cons ok17 chain_Along.fn (fun h => by cases h)
def cellaretlaw14_awake.cuts : Cuts := fun k => match k with | _ => none
theorem cellaretlaw14_awake.eq (H : AHeap) (K : AVal → AHeap → Prop) : evFn Try.prog (spOf l18) cellaretlaw14_awake.cuts Try.f46 [] H K = cellaretlaw14_awake.w H K := by kernel_rfl
theorem cellaretlaw14_awake.fn : FnOk Try.prog 46 S_cellaretlaw14_awake := fn_ok0 ok18 mixed (T := cellaretlaw14_awake.cuts) Try.func46 (enters_of Try.func46 (by kernel_rfl) (by kernel_rfl)) cellaretlaw14_awake.ok cellaretlaw14_awake.eq
def l19 : List (Nat × Bool × Abs.Spec) := (46, true, S_cellaretlaw14_awake) :: l18
theorem ok19 : SpecsOk Try.prog (spOf l19) := SpecsOk.cons ok18 cellaretlaw14_awake.fn (fun _ args H r H' h => cellaretlaw14_awake.quiet h)
def cellaretlaw14_next.cuts : Cuts := fun k => match k with | 1000001 => some ⟨[], [5], [.normal, .ret]⟩ | 5 => some ⟨[6, 7], [5, 6], [(.exit 0), .ret]⟩ | _ => none
theorem cellaretlaw14_next.eq (x0 x1 : AVal) (H : AHeap) (K : AVal → AHeap → Prop) : evFn Try.prog (spOf l19) cellaretlaw14_next.cuts Try.f49 [x0, x1] H K = cellaretlaw14_next.w x0 x1 H K := by kernel_rfl
theorem cellaretlaw14_next.fn : FnOk Try.prog 49 S_cellaretlaw14_next := fn_ok2 ok19 mixed (T := cellaretlaw14_next.cuts) Try.func49 (enters_of Try.func49 (by kernel_rfl) (by kernel_rfl)) cellaretlaw14_next.ok cellaretlaw14_next.eq
def l20 : List (Nat × Bool × Abs.Spec) := (49, true, S_cellaretlaw14_next) :: l19
theorem ok20 : SpecsOk Try.prog (spOf l20) := SpecsOk.cons ok19 cellaretlaw14_next.fn (fun _ args H r H' h => cellaretlaw14_next.quiet h)
def cellaretlaw14_ChainNexts.cuts : Cuts := fun k => match k with | 1000001 => some ⟨[], [6], [.normal, .ret]⟩ | 2000003 => some ⟨[], [7, 8], [.normal]⟩ | 10000003 => some ⟨[3, 7], [0, 1, 2, 7, 3, 4, 5, 6, 8, 9], []⟩ | 1000007 => some ⟨[], [6], [.normal, .ret]⟩ | 1000009 => some ⟨[], [14], [.normal]⟩ | _ => none
theorem cellaretlaw14_ChainNexts.eq (x0 x1 x2 : AVal) (H : AHeap) (K : AVal → AHeap → Prop) : evFn Try.prog (spOf l20) cellaretlaw14_ChainNexts.cuts Try.f11 [x0, x1, x2] H K = cellaretlaw14_ChainNexts.w x0 x1 x2 H K := by kernel_rfl
theorem cellaretlaw14_ChainNexts.fn : FnOk Try.prog 11 S_cellaretlaw14_ChainNexts := fn_ok3 ok20 mixed (T := cellaretlaw14_ChainNexts.cuts) Try.func11 (enters_of Try.func11 (by kernel_rfl) (by kernel_rfl)) cellaretlaw14_ChainNexts.ok cellaretlaw14_ChainNexts.eq
def l21 : List (Nat × Bool × Abs.Spec) := (11, true, S_cellaretlaw14_ChainNexts) :: l20
theorem ok21 : SpecsOk Try.prog (spOf l21) := SpecsOk.cons ok20 cellaretlaw14_ChainNexts.fn (fun _ args H r H' h => cellaretlaw14_ChainNexts.quiet h)
end Go.Proofs.Ytgcjchcmnlifmaa.own
