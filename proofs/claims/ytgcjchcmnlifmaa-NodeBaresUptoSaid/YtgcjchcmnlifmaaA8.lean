/- A text of this proof. -/
import Derived.Test.YtgcjchcmnlifmaaRows
import Derived.KernelRfl
import Derived.Test.YtgcjchcmnlifmaaSha
import Derived.Test.YtgcjchcmnlifmaaBar
import Derived.Test.YtgcjchcmnlifmaaChain
import Derived.Test.YtgcjchcmnlifmaaAbsE

/- The functions of this seat come to what is told of them: each one's code is what its printed text says (checked by the kernel), and the text is proved. Conditions: none. -/
namespace Go.Proofs.Ytgcjchcmnlifmaa.own
open Go Go.Abs Go.Sh
theorem mixed : Try.prog.follows .mixedOrders = true := by kernel_rfl
theorem bulk_mem {H : Type} {d : DataW H} : ∀ {l : List (DataW H)}, d ∈ l → Rows.uptoBulk d ≤ Rows.uptoBulkAll l
  | x :: l, h => by
    simp only [Rows.uptoBulkAll]
    rcases List.mem_cons.1 h with rfl | h
    · omega
    · have := bulk_mem h; omega
  | [], h => (by cases h)
theorem bulk_str {H : Type} {s : List UInt8} {elems spare ds : List (DataW H)} (hk : Rows.uptoSmall H ds = true) (h : DataW.slice elems spare ∈ ds) (k : DataW.lit (.string s) ∈ elems) : s.length ≤ 1048576 := by
  have h1 := bulk_mem h
  have h2 := bulk_mem k
  have h3 := of_decide_eq_true hk
  simp only [Rows.uptoBulk] at h1 h2
  omega
def l0 : List (Nat × Bool × Abs.Spec) := []
theorem ok0 : SpecsOk Try.prog (spOf l0) := SpecsOk.nil
def sha_Words.cuts : Cuts := fun k => match k with | _ => none
theorem sha_Words.eq (H : AHeap) (K : AVal → AHeap → Prop) : evFn Try.prog (spOf l0) sha_Words.cuts Try.f34 [] H K = sha_Words.w H K := by kernel_rfl
theorem sha_Words.fn : FnOk Try.prog 34 S_sha_Words := fn_ok0 ok0 mixed (T := sha_Words.cuts) Try.func34 (enters_of Try.func34 (by kernel_rfl) (by kernel_rfl)) sha_Words.ok sha_Words.eq
def l1 : List (Nat × Bool × Abs.Spec) := (34, true, S_sha_Words) :: l0
theorem ok1 : SpecsOk Try.prog (spOf l1) := SpecsOk.cons ok0 sha_Words.fn (fun _ args H r H' h => sha_Words.quiet h)
def sha_constants.cuts : Cuts := fun k => match k with | _ => none
theorem sha_constants.eq (H : AHeap) (K : AVal → AHeap → Prop) : evFn Try.prog (spOf l1) sha_constants.cuts Try.f79 [] H K = sha_constants.w H K := by kernel_rfl
theorem sha_constants.fn : FnOk Try.prog 79 S_sha_constants := fn_ok0 ok1 mixed (T := sha_constants.cuts) Try.func79 (enters_of Try.func79 (by kernel_rfl) (by kernel_rfl)) sha_constants.ok sha_constants.eq
def l2 : List (Nat × Bool × Abs.Spec) := (79, true, S_sha_constants) :: l1
theorem ok2 : SpecsOk Try.prog (spOf l2) := SpecsOk.cons ok1 sha_constants.fn (fun _ args H r H' h => sha_constants.quiet h)
def sha_work.cuts : Cuts := fun k => match k with | 3 => some ⟨[26], [], [(.exit 0)]⟩ | 8 => some ⟨[7], [], [(.exit 2)]⟩ | 17 => some ⟨[13, 14, 15, 16, 17, 18, 19, 20, 133], [13, 14, 15, 16, 17, 18, 19, 20], [(.exit 4)]⟩ | _ => none
theorem sha_work.eq (x0 x1 : AVal) (H : AHeap) (K : AVal → AHeap → Prop) : evFn Try.prog (spOf l2) sha_work.cuts Try.f69 [x0, x1] H K = sha_work.w x0 x1 H K := by kernel_rfl
theorem sha_work.fn : FnOk Try.prog 69 S_sha_work := fn_ok2 ok2 mixed (T := sha_work.cuts) Try.func69 (enters_of Try.func69 (by kernel_rfl) (by kernel_rfl)) sha_work.ok sha_work.eq
def l3 : List (Nat × Bool × Abs.Spec) := (69, true, S_sha_work) :: l2
theorem ok3 : SpecsOk Try.prog (spOf l3) := SpecsOk.cons ok2 sha_work.fn (fun _ args H r H' h => sha_work.quiet h)
def sha_tail.cuts : Cuts := fun k => match k with | 2 => some ⟨[3], [3], [(.exit 0)]⟩ | 6 => some ⟨[3, 5], [3], [(.exit 2)]⟩ | _ => none
theorem sha_tail.eq (x0 : AVal) (H : AHeap) (K : AVal → AHeap → Prop) : evFn Try.prog (spOf l3) sha_tail.cuts Try.f70 [x0] H K = sha_tail.w x0 H K := by kernel_rfl
theorem sha_tail.fn : FnOk Try.prog 70 S_sha_tail := fn_ok1 ok3 mixed (T := sha_tail.cuts) Try.func70 (enters_of Try.func70 (by kernel_rfl) (by kernel_rfl)) sha_tail.ok sha_tail.eq
def l4 : List (Nat × Bool × Abs.Spec) := (70, true, S_sha_tail) :: l3
theorem ok4 : SpecsOk Try.prog (spOf l4) := SpecsOk.cons ok3 sha_tail.fn (fun _ args H r H' h => sha_tail.quiet h)
def sha_digest.cuts : Cuts := fun k => match k with | 3 => some ⟨[7], [], [(.exit 0)]⟩ | _ => none
theorem sha_digest.eq (x0 : AVal) (H : AHeap) (K : AVal → AHeap → Prop) : evFn Try.prog (spOf l4) sha_digest.cuts Try.f72 [x0] H K = sha_digest.w x0 H K := by kernel_rfl
theorem sha_digest.fn : FnOk Try.prog 72 S_sha_digest := fn_ok1 ok4 mixed (T := sha_digest.cuts) Try.func72 (enters_of Try.func72 (by kernel_rfl) (by kernel_rfl)) sha_digest.ok sha_digest.eq
def l5 : List (Nat × Bool × Abs.Spec) := (72, true, S_sha_digest) :: l4
theorem ok5 : SpecsOk Try.prog (spOf l5) := SpecsOk.cons ok4 sha_digest.fn (fun _ args H r H' h => sha_digest.quiet h)
def sha_Sum.cuts : Cuts := fun k => match k with | 3 => some ⟨[0], [0], [(.exit 0)]⟩ | 7 => some ⟨[0], [], [(.exit 2)]⟩ | _ => none
theorem sha_Sum.eq (x0 : AVal) (H : AHeap) (K : AVal → AHeap → Prop) : evFn Try.prog (spOf l5) sha_Sum.cuts Try.f24 [x0] H K = sha_Sum.w x0 H K := by kernel_rfl
theorem sha_Sum.fn : FnOk Try.prog 24 S_sha_Sum := fn_ok1 ok5 mixed (T := sha_Sum.cuts) Try.func24 (enters_of Try.func24 (by kernel_rfl) (by kernel_rfl)) sha_Sum.ok sha_Sum.eq
def l6 : List (Nat × Bool × Abs.Spec) := (24, true, S_sha_Sum) :: l5
theorem ok6 : SpecsOk Try.prog (spOf l6) := SpecsOk.cons ok5 sha_Sum.fn (fun _ args H r H' h => sha_Sum.quiet h)
def oracle_New.cuts : Cuts := fun k => match k with | _ => none
theorem oracle_New.eq (H : AHeap) (K : AVal → AHeap → Prop) : evFn Try.prog (spOf l6) oracle_New.cuts Try.f41 [] H K = oracle_New.w H K := by kernel_rfl
theorem oracle_New.fn : FnOk Try.prog 41 S_oracle_New := fn_ok0E ok6 mixed (T := oracle_New.cuts) Try.func41 (enters_of Try.func41 (by kernel_rfl) (by kernel_rfl)) oracle_New.ok oracle_New.eq
def l7 : List (Nat × Bool × Abs.Spec) := (41, true, S_oracle_New) :: l6
theorem ok7 : SpecsOk Try.prog (spOf l7) := SpecsOk.cons ok6 oracle_New.fn (fun _ args H r H' h => oracle_New.quiet h)
def oracle_Oracle_Sum.cuts : Cuts := fun k => match k with | 1000004 => some ⟨[], [], [.normal]⟩ | _ => none
theorem oracle_Oracle_Sum.eq (x0 x1 : AVal) (H : AHeap) (K : AVal → AHeap → Prop) : evFn Try.prog (spOf l7) oracle_Oracle_Sum.cuts Try.f52 [x0, x1] H K = oracle_Oracle_Sum.w x0 x1 H K := by kernel_rfl
theorem oracle_Oracle_Sum.fn : FnOk Try.prog 52 S_oracle_Oracle_Sum := fn_ok2 ok7 mixed (T := oracle_Oracle_Sum.cuts) Try.func52 (enters_of Try.func52 (by kernel_rfl) (by kernel_rfl)) oracle_Oracle_Sum.ok oracle_Oracle_Sum.eq
def l8 : List (Nat × Bool × Abs.Spec) := (52, false, S_oracle_Oracle_Sum) :: l7
theorem ok8 : SpecsOk Try.prog (spOf l8) := SpecsOk.cons ok7 oracle_Oracle_Sum.fn (fun h => by cases h)
def cellaretref01_Zeros.cuts : Cuts := fun k => match k with | _ => none
theorem cellaretref01_Zeros.eq (x0 : AVal) (H : AHeap) (K : AVal → AHeap → Prop) : evFn Try.prog (spOf l8) cellaretref01_Zeros.cuts Try.f67 [x0] H K = cellaretref01_Zeros.w x0 H K := by kernel_rfl
theorem cellaretref01_Zeros.fn : FnOk Try.prog 67 S_cellaretref01_Zeros := fn_ok1 ok8 mixed (T := cellaretref01_Zeros.cuts) Try.func67 (enters_of Try.func67 (by kernel_rfl) (by kernel_rfl)) cellaretref01_Zeros.ok cellaretref01_Zeros.eq
def l9 : List (Nat × Bool × Abs.Spec) := (67, true, S_cellaretref01_Zeros) :: l8
theorem ok9 : SpecsOk Try.prog (spOf l9) := SpecsOk.cons ok8 cellaretref01_Zeros.fn (fun _ args H r H' h => cellaretref01_Zeros.quiet h)
def cellaretref01_Ints.cuts : Cuts := fun k => match k with | 4 => some ⟨[5], [4], [(.exit 0), .ret]⟩ | _ => none
theorem cellaretref01_Ints.eq (x0 x1 : AVal) (H : AHeap) (K : AVal → AHeap → Prop) : evFn Try.prog (spOf l9) cellaretref01_Ints.cuts Try.f81 [x0, x1] H K = cellaretref01_Ints.w x0 x1 H K := by kernel_rfl
theorem cellaretref01_Ints.fn : FnOk Try.prog 81 S_cellaretref01_Ints := fn_ok2 ok9 mixed (T := cellaretref01_Ints.cuts) Try.func81 (enters_of Try.func81 (by kernel_rfl) (by kernel_rfl)) cellaretref01_Ints.ok cellaretref01_Ints.eq
def l10 : List (Nat × Bool × Abs.Spec) := (81, true, S_cellaretref01_Ints) :: l9
theorem ok10 : SpecsOk Try.prog (spOf l10) := SpecsOk.cons ok9 cellaretref01_Ints.fn (fun _ args H r H' h => cellaretref01_Ints.quiet h)
def node_Path.cuts : Cuts := fun k => match k with | 1000001 => some ⟨[], [2, 3], [.normal, .ret]⟩ | 5 => some ⟨[4, 5], [4], [(.exit 0)]⟩ | _ => none
theorem node_Path.eq (x0 : AVal) (H : AHeap) (K : AVal → AHeap → Prop) : evFn Try.prog (spOf l10) node_Path.cuts Try.f43 [x0] H K = node_Path.w x0 H K := by kernel_rfl
theorem node_Path.fn : FnOk Try.prog 43 S_node_Path := fn_ok1 ok10 mixed (T := node_Path.cuts) Try.func43 (enters_of Try.func43 (by kernel_rfl) (by kernel_rfl)) node_Path.ok node_Path.eq
def l11 : List (Nat × Bool × Abs.Spec) := (43, true, S_node_Path) :: l10
theorem ok11 : SpecsOk Try.prog (spOf l11) := SpecsOk.cons ok10 node_Path.fn (fun _ args H r H' h => node_Path.quiet h)
def node_Side.cuts : Cuts := fun k => match k with | 1000001 => some ⟨[], [4, 5], [.normal, .ret]⟩ | 4 => some ⟨[6], [4, 5], [(.exit 0), .ret]⟩ | _ => none
theorem node_Side.eq (x0 x1 : AVal) (H : AHeap) (K : AVal → AHeap → Prop) : evFn Try.prog (spOf l11) node_Side.cuts Try.f44 [x0, x1] H K = node_Side.w x0 x1 H K := by kernel_rfl
theorem node_Side.fn : FnOk Try.prog 44 S_node_Side := fn_ok2 ok11 mixed (T := node_Side.cuts) Try.func44 (enters_of Try.func44 (by kernel_rfl) (by kernel_rfl)) node_Side.ok node_Side.eq
def l12 : List (Nat × Bool × Abs.Spec) := (44, true, S_node_Side) :: l11
theorem ok12 : SpecsOk Try.prog (spOf l12) := SpecsOk.cons ok11 node_Side.fn (fun _ args H r H' h => node_Side.quiet h)
def node_sum.cuts : Cuts := fun k => match k with | _ => none
theorem node_sum.eq (x0 x1 : AVal) (H : AHeap) (K : AVal → AHeap → Prop) : evFn Try.prog (spOf l12) node_sum.cuts Try.f82 [x0, x1] H K = node_sum.w x0 x1 H K := by kernel_rfl
theorem node_sum.fn : FnOk Try.prog 82 S_node_sum := fn_ok2 ok12 mixed (T := node_sum.cuts) Try.func82 (enters_of Try.func82 (by kernel_rfl) (by kernel_rfl)) node_sum.ok node_sum.eq
def l13 : List (Nat × Bool × Abs.Spec) := (82, false, S_node_sum) :: l12
theorem ok13 : SpecsOk Try.prog (spOf l13) := SpecsOk.cons ok12 node_sum.fn (fun h => by cases h)
def node_Leaf.cuts : Cuts := fun k => match k with | _ => none
theorem node_Leaf.eq (x0 x1 : AVal) (H : AHeap) (K : AVal → AHeap → Prop) : evFn Try.prog (spOf l13) node_Leaf.cuts Try.f40 [x0, x1] H K = node_Leaf.w x0 x1 H K := by kernel_rfl
theorem node_Leaf.fn : FnOk Try.prog 40 S_node_Leaf := fn_ok2 ok13 mixed (T := node_Leaf.cuts) Try.func40 (enters_of Try.func40 (by kernel_rfl) (by kernel_rfl)) node_Leaf.ok node_Leaf.eq
def l14 : List (Nat × Bool × Abs.Spec) := (40, false, S_node_Leaf) :: l13
theorem ok14 : SpecsOk Try.prog (spOf l14) := SpecsOk.cons ok13 node_Leaf.fn (fun h => by cases h)
def node_Node.cuts : Cuts := fun k => match k with | _ => none
theorem node_Node.eq (x0 x1 : AVal) (H : AHeap) (K : AVal → AHeap → Prop) : evFn Try.prog (spOf l14) node_Node.cuts Try.f42 [x0, x1] H K = node_Node.w x0 x1 H K := by kernel_rfl
theorem node_Node.fn : FnOk Try.prog 42 S_node_Node := fn_ok2 ok14 mixed (T := node_Node.cuts) Try.func42 (enters_of Try.func42 (by kernel_rfl) (by kernel_rfl)) node_Node.ok node_Node.eq
def l15 : List (Nat × Bool × Abs.Spec) := (42, false, S_node_Node) :: l14
theorem ok15 : SpecsOk Try.prog (spOf l15) := SpecsOk.cons ok14 node_Node.fn (fun h => by cases h)
def cellaretlaw17_awake.cuts : Cuts := fun k => match k with | _ => none
theorem cellaretlaw17_awake.eq (H : AHeap) (K : AVal → AHeap → Prop) : evFn Try.prog (spOf l15) cellaretlaw17_awake.cuts Try.f39 [] H K = cellaretlaw17_awake.w H K := by kernel_rfl
theorem cellaretlaw17_awake.fn : FnOk Try.prog 39 S_cellaretlaw17_awake := fn_ok0 ok15 mixed (T := cellaretlaw17_awake.cuts) Try.func39 (enters_of Try.func39 (by kernel_rfl) (by kernel_rfl)) cellaretlaw17_awake.ok cellaretlaw17_awake.eq
def l16 : List (Nat × Bool × Abs.Spec) := (39, true, S_cellaretlaw17_awake) :: l15
theorem ok16 : SpecsOk Try.prog (spOf l16) := SpecsOk.cons ok15 cellaretlaw17_awake.fn (fun _ args H r H' h => cellaretlaw17_awake.quiet h)
def node_Root_1.cuts : Cuts := fun k => match k with | 2000001 => some ⟨[], [6], [.normal]⟩ | 10000001 => some ⟨[6, 10], [0, 1, 2, 3, 4, 5, 10, 6, 7, 8, 9, 11, 12], []⟩ | _ => none
theorem node_Root_1.eq (x0 x1 x2 : AVal) (H : AHeap) (K : AVal → AHeap → Prop) : evFn Try.prog (spOf l16) node_Root_1.cuts Try.f87 [x0, x1, x2] H K = node_Root_1.w x0 x1 x2 H K := by kernel_rfl
theorem node_Root_1.fn : FnOk Try.prog 87 S_node_Root_1 := fn_ok3 ok16 mixed (T := node_Root_1.cuts) Try.func87 (enters_of Try.func87 (by kernel_rfl) (by kernel_rfl)) node_Root_1.ok node_Root_1.eq
def l17 : List (Nat × Bool × Abs.Spec) := (87, false, S_node_Root_1) :: l16
theorem ok17 : SpecsOk Try.prog (spOf l17) := SpecsOk.cons ok16 node_Root_1.fn (fun h => by cases h)
def node_Root.cuts : Cuts := fun k => match k with | 5 => some ⟨[7], [7], [(.exit 0)]⟩ | 7 => some ⟨[22], [], [(.exit 2)]⟩ | _ => none
theorem node_Root.eq (x0 x1 : AVal) (H : AHeap) (K : AVal → AHeap → Prop) : evFn Try.prog (spOf l17) node_Root.cuts Try.f54 [x0, x1] H K = node_Root.w x0 x1 H K := by kernel_rfl
theorem node_Root.fn : FnOk Try.prog 54 S_node_Root := fn_ok2 ok17 mixed (T := node_Root.cuts) Try.func54 (enters_of Try.func54 (by kernel_rfl) (by kernel_rfl)) node_Root.ok node_Root.eq
def l18 : List (Nat × Bool × Abs.Spec) := (54, false, S_node_Root) :: l17
theorem ok18 : SpecsOk Try.prog (spOf l18) := SpecsOk.cons ok17 node_Root.fn (fun h => by cases h)
def cellaretlaw17_root.cuts : Cuts := fun k => match k with | _ => none
def l19 : List (Nat × Bool × Abs.Spec) := (56, true, S_root_none) :: l18
theorem ok19 : SpecsOk Try.prog (spOf l19) := SpecsOk.cons ok18 (fn_none (enters_of Try.func56 (by kernel_rfl) (by kernel_rfl))) (fun _ args H r H' h => h.elim)
theorem cellaretlaw17_root.eq0 (x0 : AVal) (H : AHeap) (K : AVal → AHeap → Prop) : evFn Try.prog (spOf l19) cellaretlaw17_root.cuts Try.f56 [x0] H K = cellaretlaw17_root.w S_root_none x0 H K := by kernel_rfl
theorem cellaretlaw17_root.fn0 : FnOk Try.prog 56 (S_root_at 0) := fn_ok1 ok19 mixed (T := cellaretlaw17_root.cuts) Try.func56 (enters_of Try.func56 (by kernel_rfl) (by kernel_rfl)) (root_ok0 S_root_none) cellaretlaw17_root.eq0
def l20 : List (Nat × Bool × Abs.Spec) := (56, true, S_root_at 0) :: l19
theorem ok20 : SpecsOk Try.prog (spOf l20) := SpecsOk.cons ok19 cellaretlaw17_root.fn0 (fun _ args H r H' h => root_quiet 0 h)
theorem cellaretlaw17_root.eq1 (x0 : AVal) (H : AHeap) (K : AVal → AHeap → Prop) : evFn Try.prog (spOf l20) cellaretlaw17_root.cuts Try.f56 [x0] H K = cellaretlaw17_root.w (S_root_at 0) x0 H K := by kernel_rfl
theorem cellaretlaw17_root.fn1 : FnOk Try.prog 56 (S_root_at 1) := fn_ok1 ok20 mixed (T := cellaretlaw17_root.cuts) Try.func56 (enters_of Try.func56 (by kernel_rfl) (by kernel_rfl)) (root_okS 0) cellaretlaw17_root.eq1
def l21 : List (Nat × Bool × Abs.Spec) := (56, true, S_root_at 1) :: l20
theorem ok21 : SpecsOk Try.prog (spOf l21) := SpecsOk.cons ok20 cellaretlaw17_root.fn1 (fun _ args H r H' h => root_quiet 1 h)
theorem cellaretlaw17_root.eq2 (x0 : AVal) (H : AHeap) (K : AVal → AHeap → Prop) : evFn Try.prog (spOf l21) cellaretlaw17_root.cuts Try.f56 [x0] H K = cellaretlaw17_root.w (S_root_at 1) x0 H K := by kernel_rfl
theorem cellaretlaw17_root.fn2 : FnOk Try.prog 56 (S_root_at 2) := fn_ok1 ok21 mixed (T := cellaretlaw17_root.cuts) Try.func56 (enters_of Try.func56 (by kernel_rfl) (by kernel_rfl)) (root_okS 1) cellaretlaw17_root.eq2
def l22 : List (Nat × Bool × Abs.Spec) := (56, true, S_root_at 2) :: l21
theorem ok22 : SpecsOk Try.prog (spOf l22) := SpecsOk.cons ok21 cellaretlaw17_root.fn2 (fun _ args H r H' h => root_quiet 2 h)
theorem cellaretlaw17_root.eq3 (x0 : AVal) (H : AHeap) (K : AVal → AHeap → Prop) : evFn Try.prog (spOf l22) cellaretlaw17_root.cuts Try.f56 [x0] H K = cellaretlaw17_root.w (S_root_at 2) x0 H K := by kernel_rfl
theorem cellaretlaw17_root.fn3 : FnOk Try.prog 56 (S_root_at 3) := fn_ok1 ok22 mixed (T := cellaretlaw17_root.cuts) Try.func56 (enters_of Try.func56 (by kernel_rfl) (by kernel_rfl)) (root_okS 2) cellaretlaw17_root.eq3
def l23 : List (Nat × Bool × Abs.Spec) := (56, true, S_root_at 3) :: l22
theorem ok23 : SpecsOk Try.prog (spOf l23) := SpecsOk.cons ok22 cellaretlaw17_root.fn3 (fun _ args H r H' h => root_quiet 3 h)
theorem cellaretlaw17_root.eq4 (x0 : AVal) (H : AHeap) (K : AVal → AHeap → Prop) : evFn Try.prog (spOf l23) cellaretlaw17_root.cuts Try.f56 [x0] H K = cellaretlaw17_root.w (S_root_at 3) x0 H K := by kernel_rfl
theorem cellaretlaw17_root.fn4 : FnOk Try.prog 56 (S_root_at 4) := fn_ok1 ok23 mixed (T := cellaretlaw17_root.cuts) Try.func56 (enters_of Try.func56 (by kernel_rfl) (by kernel_rfl)) (root_okS 3) cellaretlaw17_root.eq4
def l24 : List (Nat × Bool × Abs.Spec) := (56, true, S_root_at 4) :: l23
theorem ok24 : SpecsOk Try.prog (spOf l24) := SpecsOk.cons ok23 cellaretlaw17_root.fn4 (fun _ args H r H' h => root_quiet 4 h)
theorem cellaretlaw17_root.eq5 (x0 : AVal) (H : AHeap) (K : AVal → AHeap → Prop) : evFn Try.prog (spOf l24) cellaretlaw17_root.cuts Try.f56 [x0] H K = cellaretlaw17_root.w (S_root_at 4) x0 H K := by kernel_rfl
theorem cellaretlaw17_root.fn5 : FnOk Try.prog 56 (S_root_at 5) := fn_ok1 ok24 mixed (T := cellaretlaw17_root.cuts) Try.func56 (enters_of Try.func56 (by kernel_rfl) (by kernel_rfl)) (root_okS 4) cellaretlaw17_root.eq5
def l25 : List (Nat × Bool × Abs.Spec) := (56, true, S_root_at 5) :: l24
theorem ok25 : SpecsOk Try.prog (spOf l25) := SpecsOk.cons ok24 cellaretlaw17_root.fn5 (fun _ args H r H' h => root_quiet 5 h)
theorem cellaretlaw17_root.eq6 (x0 : AVal) (H : AHeap) (K : AVal → AHeap → Prop) : evFn Try.prog (spOf l25) cellaretlaw17_root.cuts Try.f56 [x0] H K = cellaretlaw17_root.w (S_root_at 5) x0 H K := by kernel_rfl
theorem cellaretlaw17_root.fn6 : FnOk Try.prog 56 (S_root_at 6) := fn_ok1 ok25 mixed (T := cellaretlaw17_root.cuts) Try.func56 (enters_of Try.func56 (by kernel_rfl) (by kernel_rfl)) (root_okS 5) cellaretlaw17_root.eq6
def l26 : List (Nat × Bool × Abs.Spec) := (56, true, S_root_at 6) :: l25
theorem ok26 : SpecsOk Try.prog (spOf l26) := SpecsOk.cons ok25 cellaretlaw17_root.fn6 (fun _ args H r H' h => root_quiet 6 h)
def cellaretlaw17_Sums.cuts : Cuts := fun k => match k with | 3 => some ⟨[3, 4], [3], [(.exit 0)]⟩ | _ => none
theorem cellaretlaw17_Sums.eq (x0 : AVal) (H : AHeap) (K : AVal → AHeap → Prop) : evFn Try.prog (spOf l26) cellaretlaw17_Sums.cuts Try.f55 [x0] H K = cellaretlaw17_Sums.w x0 H K := by kernel_rfl
theorem cellaretlaw17_Sums.fn : FnOk Try.prog 55 S_cellaretlaw17_Sums := fn_ok1 ok26 mixed (T := cellaretlaw17_Sums.cuts) Try.func55 (enters_of Try.func55 (by kernel_rfl) (by kernel_rfl)) cellaretlaw17_Sums.ok cellaretlaw17_Sums.eq
def l27 : List (Nat × Bool × Abs.Spec) := (55, true, S_cellaretlaw17_Sums) :: l26
theorem ok27 : SpecsOk Try.prog (spOf l27) := SpecsOk.cons ok26 cellaretlaw17_Sums.fn (fun _ args H r H' h => cellaretlaw17_Sums.quiet h)
def node_bare.cuts : Cuts := fun k => match k with | 4 => some ⟨[5, 17], [5], [(.exit 0)]⟩ | _ => none
theorem node_bare.eq (x0 x1 : AVal) (H : AHeap) (K : AVal → AHeap → Prop) : evFn Try.prog (spOf l27) node_bare.cuts Try.f92 [x0, x1] H K = node_bare.w x0 x1 H K := by kernel_rfl
theorem node_bare.fn : FnOk Try.prog 92 S_node_bare := fn_ok2 ok27 mixed (T := node_bare.cuts) Try.func92 (enters_of Try.func92 (by kernel_rfl) (by kernel_rfl)) node_bare.ok node_bare.eq
def l28 : List (Nat × Bool × Abs.Spec) := (92, false, S_node_bare) :: l27
theorem ok28 : SpecsOk Try.prog (spOf l28) := SpecsOk.cons ok27 node_bare.fn (fun h => by cases h)
def node_Bare.cuts : Cuts := fun k => match k with | 1000001 => some ⟨[], [4, 6], [.normal, .ret]⟩ | 1000005 => some ⟨[], [], [.normal]⟩ | _ => none
theorem node_Bare.eq (x0 x1 : AVal) (H : AHeap) (K : AVal → AHeap → Prop) : evFn Try.prog (spOf l28) node_Bare.cuts Try.f65 [x0, x1] H K = node_Bare.w x0 x1 H K := by kernel_rfl
theorem node_Bare.fn : FnOk Try.prog 65 S_node_Bare := fn_ok2 ok28 mixed (T := node_Bare.cuts) Try.func65 (enters_of Try.func65 (by kernel_rfl) (by kernel_rfl)) node_Bare.ok node_Bare.eq
def l29 : List (Nat × Bool × Abs.Spec) := (65, false, S_node_Bare) :: l28
theorem ok29 : SpecsOk Try.prog (spOf l29) := SpecsOk.cons ok28 node_Bare.fn (fun h => by cases h)
def node_High.cuts : Cuts := fun k => match k with | 1000001 => some ⟨[], [2, 3], [.normal, .ret]⟩ | 4 => some ⟨[0, 4], [4], [(.exit 0)]⟩ | _ => none
theorem node_High.eq (x0 : AVal) (H : AHeap) (K : AVal → AHeap → Prop) : evFn Try.prog (spOf l29) node_High.cuts Try.f66 [x0] H K = node_High.w x0 H K := by kernel_rfl
theorem node_High.fn : FnOk Try.prog 66 S_node_High := fn_ok1 ok29 mixed (T := node_High.cuts) Try.func66 (enters_of Try.func66 (by kernel_rfl) (by kernel_rfl)) node_High.ok node_High.eq
def l30 : List (Nat × Bool × Abs.Spec) := (66, false, S_node_High) :: l29
theorem ok30 : SpecsOk Try.prog (spOf l30) := SpecsOk.cons ok29 node_High.fn (fun h => by cases h)
def node_Same.cuts : Cuts := fun k => match k with | _ => none
theorem node_Same.eq (x0 x1 x2 : AVal) (H : AHeap) (K : AVal → AHeap → Prop) : evFn Try.prog (spOf l30) node_Same.cuts Try.f68 [x0, x1, x2] H K = node_Same.w x0 x1 x2 H K := by kernel_rfl
theorem node_Same.fn : FnOk Try.prog 68 S_node_Same := fn_ok3 ok30 mixed (T := node_Same.cuts) Try.func68 (enters_of Try.func68 (by kernel_rfl) (by kernel_rfl)) node_Same.ok node_Same.eq
def l31 : List (Nat × Bool × Abs.Spec) := (68, false, S_node_Same) :: l30
theorem ok31 : SpecsOk Try.prog (spOf l31) := SpecsOk.cons ok30 node_Same.fn (fun h => by cases h)
def cellaretlaw17_NodeBares.cuts : Cuts := fun k => match k with | 1000004 => some ⟨[], [2], [.normal, .ret]⟩ | 9 => some ⟨[12, 14], [12], [(.exit 0)]⟩ | 1000015 => some ⟨[], [2], [.normal, .ret]⟩ | 2000017 => some ⟨[], [15], [.normal]⟩ | 1000018 => some ⟨[], [15], [.normal]⟩ | 1000022 => some ⟨[], [2], [.normal, .ret]⟩ | 26 => some ⟨[16, 17], [16], [(.exit 2)]⟩ | _ => none
theorem cellaretlaw17_NodeBares.eq (x0 : AVal) (H : AHeap) (K : AVal → AHeap → Prop) : evFn Try.prog (spOf l31) cellaretlaw17_NodeBares.cuts Try.f19 [x0] H K = cellaretlaw17_NodeBares.w x0 H K := by kernel_rfl
theorem cellaretlaw17_NodeBares.fn : FnOk Try.prog 19 S_cellaretlaw17_NodeBares := fn_ok1 ok31 mixed (T := cellaretlaw17_NodeBares.cuts) Try.func19 (enters_of Try.func19 (by kernel_rfl) (by kernel_rfl)) cellaretlaw17_NodeBares.ok cellaretlaw17_NodeBares.eq
def l32 : List (Nat × Bool × Abs.Spec) := (19, true, S_cellaretlaw17_NodeBares) :: l31
theorem ok32 : SpecsOk Try.prog (spOf l32) := SpecsOk.cons ok31 cellaretlaw17_NodeBares.fn (fun _ args H r H' h => cellaretlaw17_NodeBares.quiet h)
end Go.Proofs.Ytgcjchcmnlifmaa.own
