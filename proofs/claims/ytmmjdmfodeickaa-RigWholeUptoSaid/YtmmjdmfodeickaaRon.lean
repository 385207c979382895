/- A text of this proof. -/
import Derived.Test.YtmmjdmfodeickaaAbsE

/- Numbers and texts of the document: zeros, rows of numbers, texts filled up. -/
namespace Go.Sh
open Go Go.Abs

def zs (n : Nat) : List UInt8 := List.replicate n 0
def S_cellaretref01_Zeros : Abs.Spec := fun args H r H' => ∃ n : Nat, args = [.int .i64 n] ∧ n ≤ 1048576 ∧ r = .str (zs n) ∧ H' = H
def ints (l : List Int) : List AVal := l.map fun n => .int .i64 n
def S_cellaretref01_Ints : Abs.Spec := fun args H r H' => ∃ (a b : AVal) (l k : List Int), args = [a, b] ∧ View H a 1 l.length (ints l) ∧ View H b 1 k.length (ints k) ∧ l.length ≤ 4611686018427387904 ∧ r = .bool (decide (l = k)) ∧ H' = H
def full (s : List UInt8) (n : Nat) : List UInt8 := if n ≤ s.length then s else s ++ zs (n - s.length)
def S_cellaretref01_Full : Abs.Spec := fun args H r H' => ∃ (s : List UInt8) (n : Nat), args = [.str s, .int .i64 n] ∧ n ≤ 1048576 ∧ r = .str (full s n) ∧ H' = H
def cellaretref01_Zeros.w (x0 : AVal) (H : AHeap) (K : AVal → AHeap → Prop) : Prop :=
  hb (aMakeSlice H 1 [.int .u8 0] x0 x0) fun v1 H2 =>
  vb (aBytes2Str H2 v1) fun v3 =>
  fin .ret [.v (v3)] H2 K
def cellaretref01_Ints.L4.b (x0 : AVal) (x1 : AVal) (x5_4 : AVal) (H5 : AHeap) (Kn6 : List AVal → AHeap → Prop) (Ke7 : AExit → List AVal → AHeap → Prop) : Prop :=
  vb (lenSl x0) fun v8 =>
  vb (aBin .lss x5_4 v8) fun v9 =>
  isB v9 fun b10 => cond b10
    (vb (aIndexAddr 1 x0 x5_4) fun v11 =>
    vb (aLoad H5 false 1 v11) fun v12 =>
    vb (aIndexAddr 1 x1 x5_4) fun v13 =>
    vb (aLoad H5 false 1 v13) fun v14 =>
    vb (aBin .neq v12 v14) fun v15 =>
    isB v15 fun b16 => cond b16
      (Ke7 .ret [.bool false] H5)
      (vb (aBin .add x5_4 (.int .i64 1)) fun v17 =>
      Kn6 [v17] H5))
    (Ke7 (.exit 0) [.undef] H5)
def cellaretref01_Ints.L4 (x0 : AVal) (x1 : AVal) : Body := fun vs H Kn Ke => cellaretref01_Ints.L4.b x0 x1 (vs.getD 0 .undef) H Kn Ke
def cellaretref01_Ints.w (x0 : AVal) (x1 : AVal) (H : AHeap) (K : AVal → AHeap → Prop) : Prop :=
  vb (lenSl x0) fun v1 =>
  vb (lenSl x1) fun v2 =>
  vb (aBin .neq v1 v2) fun v3 =>
  isB v3 fun b4 => cond b4
    (fin .ret [.v (.bool false)] H K)
    (LoopP (cellaretref01_Ints.L4 x0 x1) [.int .i64 0] H fun e18 vs19 H20 =>
      onE e18 (.exit 0)
        (fin .ret [.v (.bool true)] H20 K)
      (onE e18 .ret
        (fin .ret [.v (vs19.getD 0 .undef)] H20 K)
      (False)))
def cellaretref01_Full.w (x0 : AVal) (x1 : AVal) (H : AHeap) (K : AVal → AHeap → Prop) : Prop :=
  vb (lenSt x0) fun v1 =>
  vb (aBin .geq v1 x1) fun v2 =>
  isB v2 fun b3 => cond b3
    (fin .ret [.v (x0)] H K)
    (vb (lenSt x0) fun v4 =>
    vb (aBin .sub x1 v4) fun v5 =>
    cb (S_cellaretref01_Zeros [v5] H) fun v6 H7 =>
    vb (aBin .add x0 v6) fun v8 =>
    fin .ret [.v (v8)] H7 K)
theorem bytesOf_zeros (n : Nat) : bytesOf (fillCells n [.int .u8 0]) = some (zs n) := by
  have : fillCells n [AVal.int .u8 0] = (zs n).map ofByte := by
    unfold fillCells zs
    rw [List.map_replicate]
    induction n with
    | zero => rfl
    | succ n ih => simp only [List.replicate_succ, List.flatten_cons, ih]; rfl
  rw [this, bytesOf_map]
theorem cellaretref01_Zeros.ok (args : List AVal) (H : AHeap) (r : AVal) (H' : AHeap) (h : S_cellaretref01_Zeros args H r H') : ∃ x0, args = [x0] ∧ cellaretref01_Zeros.w x0 H fun r1 H1 => Weak H r1 H1 r H' := by
  obtain ⟨n, rfl, hn, rfl, rfl⟩ := h
  refine ⟨_, rfl, ?_⟩
  unfold cellaretref01_Zeros.w
  refine hb_i (if_pos ⟨by omega, by omega, by omega, by omega⟩) ?_
  refine vb_i (v := .str (zs n)) ?_ ?_
  · simp only [aBytes2Str, Int.toNat_natCast]
    rw [rd_of (r := ⟨H'.length, 0, 0⟩) (app_get0 _ _) rfl (fun _ => by simp [fillCells])]
    have hl : (fillCells n [AVal.int .u8 0]).length = n := by simp [fillCells]
    simp only [List.drop_zero, List.take_of_length_le (Nat.le_of_eq hl), bytesOf_zeros]
  · exact fin_ret (vs := [.str (zs n)]) (rvs_v (rvs_nil _)) (Weak.plain rfl (pre_app _ _))
theorem ints_len (l : List Int) : (ints l).length = l.length := List.length_map _
theorem list_eq_of {l k : List Int} (hl : l.length = k.length) (h : ∀ i, i < l.length → l.getD i 0 = k.getD i 0) : l = k := by
  apply List.ext_getElem hl
  intro i h1 h2
  have := h i h1
  simpa [List.getD_eq_getElem?_getD, h1, h2] using this
theorem cellaretref01_Ints.ok (args : List AVal) (H : AHeap) (r : AVal) (H' : AHeap) (h : S_cellaretref01_Ints args H r H') : ∃ x0 x1, args = [x0, x1] ∧ cellaretref01_Ints.w x0 x1 H fun r1 H1 => Weak H r1 H1 r H' := by
  obtain ⟨a, b, l, k, rfl, ha, hb, hmax, rfl, rfl⟩ := h
  refine ⟨_, _, rfl, ?_⟩
  unfold cellaretref01_Ints.w
  simp only [lenSl_view ha, lenSl_view hb, ev]
  refine isB_d (fun h1 => ?_) (fun h1 => ?_)
  · rw [cond_true]
    refine fin_ret (vs := [.bool false]) (rvs_v (rvs_nil _)) ?_
    have : l ≠ k := fun e => h1 (by rw [e])
    rw [decide_eq_false this]
    exact Weak.plain rfl (List.prefix_refl _)
  · rw [cond_false]
    have hlk : l.length = k.length := by omega
    refine LoopP.ruleG (α := Nat) (fun i => [.int .i64 i]) (fun i B => B = H' ∧ i ≤ l.length ∧ ∀ j, j < i → l.getD j 0 = k.getD j 0) (fun i => l.length - i) 0 rfl ⟨rfl, Nat.zero_le _, fun j hj => by omega⟩ ?_
    rintro i B Kn ⟨rfl, hi, he⟩ hn
    unfold cellaretref01_Ints.L4 cellaretref01_Ints.L4.b
    simp only [List.getD_cons_zero, lenSl_view ha, ev]
    refine isB_d (fun h2 => ?_) (fun h2 => ?_)
    · rw [cond_true]
      obtain ⟨q, q1, q2⟩ := ha.at1 (k := (i : Int)) (kd := .i64) (by omega) (by omega) (List.prefix_refl _)
      obtain ⟨p, p1, p2⟩ := hb.at1 (k := (i : Int)) (kd := .i64) (by omega) (by omega) (List.prefix_refl _)
      rw [Int.toNat_natCast] at q2 p2
      have e1 : (ints l).getD i .undef = .int .i64 (l.getD i 0) := map_ints (by omega)
      have e2 : (ints k).getD i .undef = .int .i64 (k.getD i 0) := map_ints (by omega)
      rw [e1] at q2
      rw [e2] at p2
      simp only [q1, q2, p1, p2, ev]
      refine isB_d (fun h3 => ?_) (fun h3 => ?_)
      · simp only [cond_true, ev]
        refine fin_ret (vs := [.bool false]) (rvs_v (rvs_nil _)) ?_
        have : l ≠ k := fun e => h3 (by rw [e])
        rw [decide_eq_false this]
        exact Weak.plain rfl (List.prefix_refl _)
      · rw [cond_false]
        simp (disch := first | omega | fail) only [ev]
        exact hn (i + 1) _ ⟨rfl, by omega, fun j hj => by
          by_cases e : j = i
          · subst e; omega
          · exact he j (by omega)⟩ (by omega)
    · simp only [cond_false, ev]
      refine fin_ret (vs := [.bool true]) (rvs_v (rvs_nil _)) ?_
      rw [decide_eq_true (list_eq_of hlk fun j hj => he j (by omega))]
      exact Weak.plain rfl (List.prefix_refl _)
theorem zs_len (n : Nat) : (zs n).length = n := List.length_replicate
theorem cellaretref01_Full.ok (args : List AVal) (H : AHeap) (r : AVal) (H' : AHeap) (h : S_cellaretref01_Full args H r H') : ∃ x0 x1, args = [x0, x1] ∧ cellaretref01_Full.w x0 x1 H fun r1 H1 => Weak H r1 H1 r H' := by
  obtain ⟨s, n, rfl, hn, rfl, rfl⟩ := h
  refine ⟨_, _, rfl, ?_⟩
  unfold cellaretref01_Full.w full
  repeat with_reducible first
  | refine vb_i (geq64 _ _ _) ?_
  | refine vb_i (e_lenSt _) ?_
  by_cases h1 : n ≤ s.length
  · rw [if_pos h1]
    repeat with_reducible (refine isB_ct ?_ ?_; (· first | omega | rfl | assumption | trivial))
    exact fin_ret (vs := [.str s]) (rvs_v (rvs_nil _)) (Weak.plain rfl (List.prefix_refl _))
  · rw [if_neg h1]
    repeat with_reducible first
    | (refine isB_cf ?_ ?_; (· first | omega | assumption))
    | (refine vb_i (sub64 ?_ ?_) ?_; (· omega); (· omega))
    | refine vb_i (e_lenSt _) ?_
    have e : ((n : Int) - s.length) = ((n - s.length : Nat) : Int) := by omega
    rw [e]
    refine cb_i _ _ ⟨n - s.length, rfl, by omega, rfl, rfl⟩ ?_
    have := zs_len (n - s.length)
    repeat with_reducible (refine vb_i (adds ?_) ?_; (· first | omega | (simp only [List.length_cons, List.length_nil, List.length_append]; omega)))
    exact fin_ret (vs := [.str (s ++ zs (n - s.length))]) (rvs_v (rvs_nil _)) (Weak.plain rfl (List.prefix_refl _))
theorem full_len {s : List UInt8} {n : Nat} (h : s.length ≤ n) : (full s n).length = n := by
  unfold full; split
  · omega
  · simp [zs]; omega
theorem pre_eq {H H' : AHeap} (h : H' = H) : H <+: H' := by rw [h]; exact List.prefix_refl _
theorem cellaretref01_Zeros.quiet {args : List AVal} {H : AHeap} {r : AVal} {H' : AHeap} (h : S_cellaretref01_Zeros args H r H') : H <+: H' := by
  obtain ⟨_, _, _, _, h⟩ := h; exact pre_eq h
theorem cellaretref01_Ints.quiet {args : List AVal} {H : AHeap} {r : AVal} {H' : AHeap} (h : S_cellaretref01_Ints args H r H') : H <+: H' := by
  obtain ⟨_, _, _, _, _, _, _, _, _, h⟩ := h; exact pre_eq h
theorem cellaretref01_Full.quiet {args : List AVal} {H : AHeap} {r : AVal} {H' : AHeap} (h : S_cellaretref01_Full args H r H') : H <+: H' := by
  obtain ⟨_, _, _, _, _, h⟩ := h; exact pre_eq h
end Go.Sh
