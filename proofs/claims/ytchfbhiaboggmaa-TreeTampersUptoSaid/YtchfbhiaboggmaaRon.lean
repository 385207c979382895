/- A text of this proof. -/
import Derived.Test.YtchfbhiaboggmaaAbsE

/- Numbers and texts of the document: zeros, rows of numbers, texts filled up. -/
namespace Go.Sh
open Go Go.Abs
def strs (l : List (List UInt8)) : List AVal := l.map .str
open Go Go.Abs

def zs (n : Nat) : List UInt8 := List.replicate n 0
def S_cellaretref01_Zeros : Abs.Spec := fun args H r H' => ∃ n : Nat, args = [.int .i64 n] ∧ n ≤ 1048576 ∧ r = .str (zs n) ∧ H' = H
def ints (l : List Int) : List AVal := l.map fun n => .int .i64 n
def full (s : List UInt8) (n : Nat) : List UInt8 := if n ≤ s.length then s else s ++ zs (n - s.length)
def S_cellaretref01_Full : Abs.Spec := fun args H r H' => ∃ (s : List UInt8) (n : Nat), args = [.str s, .int .i64 n] ∧ n ≤ 1048576 ∧ r = .str (full s n) ∧ H' = H
def cellaretref01_Zeros.w (x0 : AVal) (H : AHeap) (K : AVal → AHeap → Prop) : Prop :=
 hb (aMakeSlice H 1 [.int .u8 0] x0 x0) fun v1 H2 =>
 vb (aBytes2Str H2 v1) fun v3 =>
 fin .ret [.v (v3)] H2 K
def cellaretref01_Full.w (x0 : AVal) (x1 : AVal) (H : AHeap) (K : AVal → AHeap → Prop) : Prop :=
 vb (lenSt x0) fun v1 =>
 vb (aBin .geq v1 x1) fun v2 =>
 isB v2 fun b3 => cond b3
 (fin .ret [.v (x0)] H K)
 (vb (lenSt x0) fun v4 =>
 vb (aBin .sub x1 v4) fun v5 =>
 cb (S_cellaretref01_Zeros [v5] H) fun v6 H7 =>
 vb (aBin .add x0 v6) fun v8 =>
 fin .ret [.v (v8)] H7 K)
theorem bytesOf_zeros (n : Nat) : bytesOf (fillCells n [.int .u8 0]) = some (zs n) := by
  have : fillCells n [AVal.int .u8 0] = (zs n).map ofByte := by
    unfold fillCells zs
    rw [List.map_replicate]
    induction n with
    | zero => rfl
    | succ n ih => simp only [List.replicate_succ, List.flatten_cons, ih]; rfl
  rw [this, bytesOf_map]
theorem cellaretref01_Zeros.ok (args : List AVal) (H : AHeap) (r : AVal) (H' : AHeap) (h : S_cellaretref01_Zeros args H r H') : ∃ x0, args = [x0] ∧ cellaretref01_Zeros.w x0 H fun r1 H1 => Weak H r1 H1 r H' := by
  obtain ⟨n, rfl, hn, rfl, rfl⟩ := h
  refine ⟨_, rfl, ?_⟩
  unfold cellaretref01_Zeros.w
  refine hb_i (if_pos ⟨by omega, by omega, by omega, by omega⟩) ?_
  refine vb_i (v := .str (zs n)) ?_ ?_
  · simp only [aBytes2Str, Int.toNat_natCast]
    rw [rd_of (r := ⟨H'.length, 0, 0⟩) (app_get0 _ _) rfl (fun _ => by simp [fillCells])]
    have hl : (fillCells n [AVal.int .u8 0]).length = n := by simp [fillCells]
    simp only [List.drop_zero, List.take_of_length_le (Nat.le_of_eq hl), bytesOf_zeros]
  · exact fin_ret (vs := [.str (zs n)]) (rvs_v (rvs_nil _)) (Weak.plain rfl (pre_app _ _))
theorem zs_len (n : Nat) : (zs n).length = n := List.length_replicate
theorem cellaretref01_Full.ok (args : List AVal) (H : AHeap) (r : AVal) (H' : AHeap) (h : S_cellaretref01_Full args H r H') : ∃ x0 x1, args = [x0, x1] ∧ cellaretref01_Full.w x0 x1 H fun r1 H1 => Weak H r1 H1 r H' := by
  obtain ⟨s, n, rfl, hn, rfl, rfl⟩ := h
  refine ⟨_, _, rfl, ?_⟩
  unfold cellaretref01_Full.w full
  repeat with_reducible first
  | refine vb_i (geq64 _ _ _) ?_
  | refine vb_i (e_lenSt _) ?_
  by_cases h1 : n ≤ s.length
  · rw [if_pos h1]
    repeat with_reducible (refine isB_ct ?_ ?_; (· first | omega | rfl | assumption | trivial))
    exact fin_ret (vs := [.str s]) (rvs_v (rvs_nil _)) (Weak.plain rfl (List.prefix_refl _))
  · rw [if_neg h1]
    repeat with_reducible first
    | (refine isB_cf ?_ ?_; (· first | omega | assumption))
    | (refine vb_i (sub64 ?_ ?_) ?_; (· omega); (· omega))
    | refine vb_i (e_lenSt _) ?_
    have e : ((n : Int) - s.length) = ((n - s.length : Nat) : Int) := by omega
    rw [e]
    refine cb_i _ _ ⟨n - s.length, rfl, by omega, rfl, rfl⟩ ?_
    have := zs_len (n - s.length)
    repeat with_reducible (refine vb_i (adds ?_) ?_; (· first | omega | (simp only [List.length_cons, List.length_nil, List.length_append]; omega)))
    exact fin_ret (vs := [.str (s ++ zs (n - s.length))]) (rvs_v (rvs_nil _)) (Weak.plain rfl (List.prefix_refl _))
theorem pre_eq {H H' : AHeap} (h : H' = H) : H <+: H' := by rw [h]; exact List.prefix_refl _
theorem cellaretref01_Zeros.quiet {args : List AVal} {H : AHeap} {r : AVal} {H' : AHeap} (h : S_cellaretref01_Zeros args H r H') : H <+: H' := by
  obtain ⟨_, _, _, _, h⟩ := h; exact pre_eq h
theorem cellaretref01_Full.quiet {args : List AVal} {H : AHeap} {r : AVal} {H' : AHeap} (h : S_cellaretref01_Full args H r H') : H <+: H' := by
  obtain ⟨_, _, _, _, _, h⟩ := h; exact pre_eq h
end Go.Sh
