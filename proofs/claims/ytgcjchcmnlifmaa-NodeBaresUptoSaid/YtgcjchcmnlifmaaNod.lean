/- One text of these: Nod0, NodW1, NodP1, NodP2, NodP3, NodQ. -/
import Derived.Test.YtgcjchcmnlifmaaCol

/- Roots over leaves. -/
namespace Go.Sh
open Go Go.Abs

def nodeT (a b : D32) : List UInt8 := 1 :: (a.1 ++ b.1)
def nodeD (a b : D32) : D32 := ⟨sum (nodeT a b), sum_len _⟩
theorem nodeT_len (a b : D32) : (nodeT a b).length = 65 := by simp [nodeT, a.2, b.2]
/-- The j-th sum, k levels above the leaves. -/
def val (dd : List D32) : Nat → Nat → D32
  | 0, j => dd.getD j d0
  | k + 1, j => nodeD (val dd k (2 * j)) (val dd k (2 * j + 1))
/-- How wide a level is. -/
def wd (k : Nat) : Nat := 2 ^ (6 - k)
theorem wd_step {k : Nat} (h : k < 6) : wd k = 2 * wd (k + 1) := by
  unfold wd
  rw [show 6 - k = (6 - (k + 1)) + 1 by omega, Nat.pow_succ, Nat.mul_comm]
theorem wd_pos (k : Nat) : 0 < wd k := Nat.pow_pos (by decide)
theorem wd_le (k : Nat) : wd k ≤ 64 := by
  have := Nat.pow_le_pow_right (n := 2) (by decide) (show 6 - k ≤ 6 by omega)
  exact this
theorem wd_six : wd 6 = 1 := rfl
theorem wd_zero : wd 0 = 64 := rfl
def lvT (dd : List D32) (k n : Nat) : List (List UInt8) := (List.range n).map fun j => nodeT (val dd k (2 * j)) (val dd k (2 * j + 1))
theorem lvT_len (dd : List D32) (k n : Nat) : (lvT dd k n).length = n := by simp [lvT]
theorem lvT_step (dd : List D32) (k n : Nat) : lvT dd k (n + 1) = lvT dd k n ++ [nodeT (val dd k (2 * n)) (val dd k (2 * n + 1))] := by simp [lvT, List.range_succ]
/-- What is summed up to a level, in order. -/
def rootT (dd : List D32) : Nat → List (List UInt8)
  | 0 => []
  | k + 1 => rootT dd k ++ lvT dd k (wd (k + 1))
theorem rootT_len (dd : List D32) : ∀ k, k ≤ 6 → (rootT dd k).length + wd k = 64
  | 0, _ => rfl
  | k + 1, h => by
    have := rootT_len dd k (by omega)
    have := wd_step (k := k) (by omega)
    simp only [rootT, List.length_append, lvT_len]; omega
theorem rootT_all (dd : List D32) : (rootT dd 6).length = 63 := by have := rootT_len dd 6 (Nat.le_refl _); rw [wd_six] at this; omega

structure RtArgs (H : AHeap) (o x : AVal) (dd : List D32) : Prop where
  v : View H x 32 dd.length (dcells dd)
  hl : dd.length ≤ 9223372036854775807
  o : o = .nilp ∨ ∃ i v, o = .ptr ⟨i, v, 0⟩
def S_node_Root_1 : Abs.Spec := fun args H r H' => ∃ (o : AVal) (a b : D32) (j : Nat), args = [.agg (a.1.map ofByte), .agg (b.1.map ofByte), .ptr ⟨j, 0, 0⟩] ∧ H[j]? = some (.cells 0 .exact [o]) ∧ r = .agg ((nodeD a b).1.map ofByte) ∧ Osums H o [nodeT a b] H'
def S_node_Root : Abs.Spec := fun args H r H' => ∃ (o x : AVal) (dd : List D32), args = [o, x] ∧ RtArgs H o x dd ∧
  ((dd.length ≠ 64 ∧ r = .tup [zero32, .int .i64 6] ∧ H' = H) ∨ (dd.length = 64 ∧ r = .tup [.agg ((val dd 6 0).1.map ofByte), .int .i64 0] ∧ Osums H o (rootT dd 6) H'))

def bareD : D32 := ⟨sum (0 :: zs 64), sum_len _⟩
def sums64 (dd : List D32) : List D32 := (List.range 64).map fun i => if i < dd.length then dd.getD i d0 else bareD
theorem sums64_len (dd : List D32) : (sums64 dd).length = 64 := by simp [sums64]
theorem sums64_full {dd : List D32} (h : dd.length = 64) : sums64 dd = dd := by
  apply List.ext_getElem?
  intro i
  by_cases hi : i < 64
  · simp only [sums64, List.getElem?_map, List.getElem?_range hi, Option.map_some, h, if_pos hi, List.getD_eq_getElem?_getD]
    rw [List.getElem?_eq_getElem (by omega)]; rfl
  · rw [List.getElem?_eq_none (by rw [sums64_len]; omega), List.getElem?_eq_none (by omega)]
def S_cellaretlaw17_Sums : Abs.Spec := fun args H r H' => ∃ x dd, args = [x] ∧ View H x 32 dd.length (dcells dd) ∧ dd.length ≤ 9223372036854775807 ∧ r = .slice ⟨H.length, 0, 0⟩ 64 (.op 32) ∧ H' = H ++ [.cells 0 .opn (dcells (sums64 dd))]
/-- The root, over so many levels. -/
def S_root_at (m : Nat) : Abs.Spec := fun args H r H' => ∃ x dd, args = [x] ∧ View H x 32 dd.length (dcells dd) ∧ dd.length = 2 ^ m ∧ m ≤ 6 ∧ r = .agg ((val dd m 0).1.map ofByte) ∧ H' = H
def S_cellaretlaw17_root : Abs.Spec := S_root_at 6
def S_root_none : Abs.Spec := fun _ _ _ _ => False
def S_cellaretlaw17_NodeRoots : Abs.Spec := fun args H r H' => ∃ x dd, args = [x] ∧ View H x 32 dd.length (dcells dd) ∧ dd.length ≤ 9223372036854775807 ∧ r = .bool true ∧ H' = H
def S_cellaretlaw17_NodeApart : Abs.Spec := fun args H r H' => ∃ x y dd ee, args = [x, y] ∧ View H x 32 dd.length (dcells dd) ∧ dd.length ≤ 9223372036854775807 ∧ View H y 32 ee.length (dcells ee) ∧ ee.length ≤ 9223372036854775807 ∧ r = .bool true ∧ H' = H

theorem val_shift (dd : List D32) (c : Nat) : ∀ k j, val (dd.drop (c * 2 ^ k)) k j = val dd k (j + c)
  | 0, j => by
    simp only [val, Nat.pow_zero, Nat.mul_one, List.getD_eq_getElem?_getD, List.getElem?_drop]
    rw [Nat.add_comm]
  | k + 1, j => by
    simp only [val]
    have e : c * 2 ^ (k + 1) = (2 * c) * 2 ^ k := by rw [Nat.pow_succ]; rw [Nat.mul_comm 2 c, Nat.mul_assoc, Nat.mul_comm 2]
    rw [e, val_shift dd (2 * c) k, val_shift dd (2 * c) k]
    congr 1 <;> congr 1 <;> omega
theorem val_take (dd : List D32) (n : Nat) : ∀ k j, (j + 1) * 2 ^ k ≤ n → val (dd.take n) k j = val dd k j
  | 0, j, h => by
    simp only [val, List.getD_eq_getElem?_getD]
    rw [List.getElem?_take_of_lt (by omega)]
  | k + 1, j, h => by
    have e : (j + 1) * 2 ^ (k + 1) = (2 * j + 1 + 1) * 2 ^ k := by rw [Nat.pow_succ, Nat.mul_comm (2 ^ k) 2, ← Nat.mul_assoc]; congr 1; omega
    rw [e] at h
    have h2 : (2 * j + 1) * 2 ^ k ≤ n := Nat.le_trans (Nat.mul_le_mul_right _ (by omega)) h
    simp only [val]
    rw [val_take dd n k (2 * j) h2, val_take dd n k (2 * j + 1) h]

theorem dcells_len (bl : List D32) : (dcells bl).length = bl.length * 32 := by
  induction bl with
  | nil => rfl
  | cons d bl ih => simp only [dcells, List.map_cons, List.flatten_cons, List.length_append, dcell_len] at *; rw [ih, List.length_cons]; omega
/-- One sum among many is read, is written. -/
theorem dig_load {C : AHeap} {q v : Nat} {kd : Kd} {bl : List D32} (h : C[q]? = some (.cells v kd (dcells bl))) {k : Nat} (hk : k < bl.length) : aLoad C true 32 (.ptr ⟨q, v, 0 + k * 32⟩) = some (.agg ((bl.getD k d0).1.map ofByte)) := by
  have hl := dcells_len bl
  have hkk : k * 32 + 32 ≤ bl.length * 32 := by omega
  rw [Nat.zero_add, e_loadAgg h (by omega)]
  have hg : bl[k]? = some (bl.getD k d0) := by simp [List.getD_eq_getElem?_getD, List.getElem?_eq_getElem hk]
  have := flat_drop (o := 0) (n := 32) dcell_len hg (by decide)
  simp only [Nat.add_zero, List.drop_zero] at this
  simp only [dcells]
  rw [this, List.take_of_length_le (by rw [dcell_len]; exact Nat.le_refl _)]
  rfl
theorem splice_mid {α : Type} (A B C xs : List α) (h : B.length = xs.length) : splice (A ++ (B ++ C)) A.length xs = A ++ (xs ++ C) := by
  unfold splice
  rw [List.take_left, ← h, ← List.drop_drop, List.drop_left, List.drop_left, List.append_assoc]
theorem dcells_app (a b : List D32) : dcells (a ++ b) = dcells a ++ dcells b := by simp [dcells]
theorem splice_d {bl : List D32} {k : Nat} (hk : k < bl.length) (d : D32) : splice (dcells bl) (k * 32) (dcell d) = dcells (bl.set k d) := by
  have e1 : bl = bl.take k ++ (bl[k] :: bl.drop (k + 1)) := by rw [← List.drop_eq_getElem_cons hk, List.take_append_drop]
  have e2 : bl.set k d = bl.take k ++ (d :: bl.drop (k + 1)) := by rw [List.set_eq_take_append_cons_drop, if_pos hk]
  have c : ∀ (x : D32) (l : List D32), dcells (x :: l) = dcell x ++ dcells l := fun _ _ => rfl
  have hl : (dcells (bl.take k)).length = k * 32 := by rw [dcells_len, List.length_take, Nat.min_eq_left (Nat.le_of_lt hk)]
  rw [e2, dcells_app, c, ← hl]
  conv => lhs; arg 1; rw [e1, dcells_app, c]
  exact splice_mid _ _ _ _ (by rw [dcell_len, dcell_len])
theorem dig_store {C : AHeap} {q v : Nat} {bl : List D32} {kd : Kd} (h : C[q]? = some (.cells v kd (dcells bl))) (hkd : kd ≠ .ro) {k : Nat} (hk : k < bl.length) (d : D32) : aStore C 32 (.ptr ⟨q, v, 0 + k * 32⟩) (.agg (d.1.map ofByte)) = some (C.set q (.cells v kd (dcells (bl.set k d)))) := by
  have hl := dcells_len bl
  have hkk : k * 32 + 32 ≤ bl.length * 32 := by omega
  rw [Nat.zero_add, e_store (x := .agg (d.1.map ofByte)) h hkd (by simp [AVal.cells, d.2]) (by omega) (cells_byte _)]
  have := splice_d hk d
  rw [show (AVal.agg (d.1.map ofByte)).cells = dcell d from rfl, this]
end Go.Sh

/- What Go functions come to over abstract values, printed by a program (wtext.py). -/
namespace Go.Sh
open Go Go.Abs

def node_Root_1.w (x0 : AVal) (x1 : AVal) (x2 : AVal) (H : AHeap) (K : AVal → AHeap → Prop) : Prop :=
  hb (aBox H x0) fun v1 H2 =>
  hb (aBox H2 x1) fun v3 H4 =>
  hb (aAlloc H4 (List.replicate 32 (.int .u8 0))) fun v5 H6 =>
  JoinP (fun Kj7 => (vb (aLoad H6 false 1 x2) fun v8 =>
      vb (aSliceArr 32 1 v1 none none none) fun v9 =>
      vb (aBytes2Str H6 v9) fun v10 =>
      vb (aSliceArr 32 1 v3 none none none) fun v11 =>
      vb (aBytes2Str H6 v11) fun v12 =>
      vb (aBin .add v10 v12) fun v13 =>
      cb (S_node_Node [v8, v13] H6) fun v14 H15 =>
      vb (aExtract v14 0) fun v16 =>
      vb (aExtract v14 1) fun v17 =>
      hb (aAlloc H15 (List.replicate 32 (.int .u8 0))) fun v18 H19 =>
      sb (aStore H19 32 v18 v16) fun H20 =>
      Kj7 .normal [v18] H20) ∧
    (vb (aLoad H6 false 1 x2) fun v21 =>
      vb (aSliceArr 32 1 v1 none none none) fun v22 =>
      vb (aBytes2Str H6 v22) fun v23 =>
      vb (aSliceArr 32 1 v3 none none none) fun v24 =>
      vb (aBytes2Str H6 v24) fun v25 =>
      vb (aBin .add v23 v25) fun v26 =>
      hb (aAlloc H6 (List.replicate 32 (.int .u8 0))) fun v27 H28 =>
      cb (S_node_Node [v21, v26] H28) fun v29 H30 =>
      vb (aExtract v29 0) fun v31 =>
      vb (aExtract v29 1) fun v32 =>
      sb (aStore H30 32 v27 v31) fun H33 =>
      Kj7 .normal [v27] H33))
  (fun e34 vs35 H36 =>
    onE e34 .normal
      (vb (aLoad H36 true 32 (vs35.getD 0 .undef)) fun v37 =>
      sb (aStore H36 32 v5 v37) fun H38 =>
      fin .ret [.c true 32 (v5)] H38 K)
    (False))

def node_Root.L7.b (v19 : AVal) (x7_5 : AVal) (v1 : AVal) (x22_7 : AVal) (H20 : AHeap) (Kn21 : List AVal → AHeap → Prop) (Ke22 : AExit → List AVal → AHeap → Prop) : Prop :=
  vb (aBin .lss x22_7 v19) fun v23 =>
  isB v23 fun b24 => cond b24
    (vb (aBin .mul (.int .i64 2) x22_7) fun v25 =>
    vb (aIndexAddr 32 x7_5 v25) fun v26 =>
    vb (aLoad H20 true 32 v26) fun v27 =>
    vb (aBin .mul (.int .i64 2) x22_7) fun v28 =>
    vb (aBin .add v28 (.int .i64 1)) fun v29 =>
    vb (aIndexAddr 32 x7_5 v29) fun v30 =>
    vb (aLoad H20 true 32 v30) fun v31 =>
    cb (S_node_Root_1 [v27, v31, v1] H20) fun v32 H33 =>
    vb (aIndexAddr 32 x7_5 x22_7) fun v34 =>
    sb (aStore H33 32 v34 v32) fun H35 =>
    vb (aBin .add x22_7 (.int .i64 1)) fun v36 =>
    Kn21 [v36] H35)
    (Ke22 (.exit 2) [] H20)

def node_Root.L7 (v19 : AVal) (x7_5 : AVal) (v1 : AVal) : Body := fun vs H Kn Ke => node_Root.L7.b v19 x7_5 v1 (vs.getD 0 .undef) H Kn Ke

def node_Root.L5.b (v1 : AVal) (x7_5 : AVal) (H12 : AHeap) (Kn13 : List AVal → AHeap → Prop) (Ke14 : AExit → List AVal → AHeap → Prop) : Prop :=
  vb (lenSl x7_5) fun v15 =>
  vb (aBin .gtr v15 (.int .i64 1)) fun v16 =>
  isB v16 fun b17 => cond b17
    (vb (lenSl x7_5) fun v18 =>
    vb (aBin .quo v18 (.int .i64 2)) fun v19 =>
    LoopP (node_Root.L7 v19 x7_5 v1) [.int .i64 0] H12 fun e37 vs38 H39 =>
      onE e37 (.exit 2)
        (vb (lenSl x7_5) fun v40 =>
        vb (aBin .quo v40 (.int .i64 2)) fun v41 =>
        vb (aSlice H39 32 x7_5 none (some v41) none) fun v42 =>
        Kn13 [v42] H39)
      (False))
    (Ke14 (.exit 0) [x7_5] H12)

def node_Root.L5 (v1 : AVal) : Body := fun vs H Kn Ke => node_Root.L5.b v1 (vs.getD 0 .undef) H Kn Ke

def node_Root.w (x0 : AVal) (x1 : AVal) (H : AHeap) (K : AVal → AHeap → Prop) : Prop :=
  hb (aBox H x0) fun v1 H2 =>
  hb (aAlloc H2 (List.replicate 32 (.int .u8 0))) fun v3 H4 =>
  vb (lenSl x1) fun v5 =>
  vb (aBin .neq v5 (.int .i64 64)) fun v6 =>
  isB v6 fun b7 => cond b7
    (vb (aBuild (List.replicate 32 (.int .u8 0)) (fun k => some (k * 1, 1)) []) fun v8 =>
    sb (aStore H4 32 v3 v8) fun H9 =>
    fin .ret [.c true 32 (v3), .v (.int .i64 6)] H9 K)
    (hb (aAppendS H4 32 32 .nils x1) fun v10 H11 =>
    LoopP (node_Root.L5 v1) [v10] H11 fun e43 vs44 H45 =>
      onE e43 (.exit 0)
        (vb (aIndexAddr 32 (vs44.getD 0 .undef) (.int .i64 0)) fun v46 =>
        vb (aLoad H45 true 32 v46) fun v47 =>
        sb (aStore H45 32 v3 v47) fun H48 =>
        fin .ret [.c true 32 (v3), .v (.int .i64 0)] H48 K)
      (False))

def cellaretlaw17_root.w (S : Abs.Spec) (x0 : AVal) (H : AHeap) (K : AVal → AHeap → Prop) : Prop :=
  hb (aAlloc H (List.replicate 32 (.int .u8 0))) fun v1 H2 =>
  vb (lenSl x0) fun v3 =>
  vb (aBin .eql v3 (.int .i64 1)) fun v4 =>
  isB v4 fun b5 => cond b5
    (vb (aIndexAddr 32 x0 (.int .i64 0)) fun v6 =>
    vb (aLoad H2 true 32 v6) fun v7 =>
    sb (aStore H2 32 v1 v7) fun H8 =>
    fin .ret [.c true 32 (v1)] H8 K)
    (vb (lenSl x0) fun v9 =>
    vb (aBin .quo v9 (.int .i64 2)) fun v10 =>
    vb (aSlice H2 32 x0 none (some v10) none) fun v11 =>
    cb (S [v11] H2) fun v12 H13 =>
    vb (aSlice H13 32 x0 (some v10) none none) fun v14 =>
    cb (S [v14] H13) fun v15 H16 =>
    hb (aAlloc H16 (List.replicate 32 (.int .u8 0))) fun v17 H18 =>
    hb (aAlloc H18 (List.replicate 32 (.int .u8 0))) fun v19 H20 =>
    sb (aStore H20 32 v17 v12) fun H21 =>
    sb (aStore H21 32 v19 v15) fun H22 =>
    vb (aSliceArr 32 1 v17 none none none) fun v23 =>
    vb (aBytes2Str H22 v23) fun v24 =>
    vb (aBin .add (.str [1]) v24) fun v25 =>
    vb (aSliceArr 32 1 v19 none none none) fun v26 =>
    vb (aBytes2Str H22 v26) fun v27 =>
    vb (aBin .add v25 v27) fun v28 =>
    cb (S_sha_Sum [v28] H22) fun v29 H30 =>
    sb (aStore H30 32 v1 v29) fun H31 =>
    fin .ret [.c true 32 (v1)] H31 K)

def cellaretlaw17_Sums.L3.b (x0 : AVal) (x3_3 : AVal) (x4_3 : AVal) (H1 : AHeap) (Kn2 : List AVal → AHeap → Prop) (Ke3 : AExit → List AVal → AHeap → Prop) : Prop :=
  vb (aBin .lss x4_3 (.int .i64 64)) fun v4 =>
  isB v4 fun b5 => cond b5
    (vb (lenSl x0) fun v6 =>
    vb (aBin .lss x4_3 v6) fun v7 =>
    isB v7 fun b8 => cond b8
      (vb (aIndexAddr 32 x0 x4_3) fun v9 =>
      vb (aLoad H1 true 32 v9) fun v10 =>
      hb (aBuildSlice H1 32 (List.replicate 32 (.int .u8 0)) 1 [(0, v10)]) fun v11 H12 =>
      hb (aAppendS H12 32 32 x3_3 v11) fun v13 H14 =>
      vb (aBin .add x4_3 (.int .i64 1)) fun v15 =>
      Kn2 [v13, v15] H14)
      (cb (S_cellaretref01_Zeros [.int .i64 64] H1) fun v16 H17 =>
      vb (aBin .add (.str [0]) v16) fun v18 =>
      cb (S_sha_Sum [v18] H17) fun v19 H20 =>
      hb (aBuildSlice H20 32 (List.replicate 32 (.int .u8 0)) 1 [(0, v19)]) fun v21 H22 =>
      hb (aAppendS H22 32 32 x3_3 v21) fun v23 H24 =>
      vb (aBin .add x4_3 (.int .i64 1)) fun v25 =>
      Kn2 [v23, v25] H24))
    (Ke3 (.exit 0) [x3_3] H1)

def cellaretlaw17_Sums.L3 (x0 : AVal) : Body := fun vs H Kn Ke => cellaretlaw17_Sums.L3.b x0 (vs.getD 0 .undef) (vs.getD 1 .undef) H Kn Ke

def cellaretlaw17_Sums.w (x0 : AVal) (H : AHeap) (K : AVal → AHeap → Prop) : Prop :=
  LoopP (cellaretlaw17_Sums.L3 x0) [.nils, .int .i64 0] H fun e26 vs27 H28 =>
    onE e26 (.exit 0)
      (fin .ret [.v (vs27.getD 0 .undef)] H28 K)
    (False)

def cellaretlaw17_NodeRoots.w (x0 : AVal) (H : AHeap) (K : AVal → AHeap → Prop) : Prop :=
  JoinP (fun Kj1 => vb (lenSl x0) fun v2 =>
    vb (aBin .gtr v2 (.int .i64 70)) fun v3 =>
    isB v3 fun b4 => cond b4
      (vb (aSlice H 32 x0 none (some (.int .i64 70)) none) fun v5 =>
      Kj1 .normal [v5] H)
      (Kj1 .normal [x0] H))
  (fun e6 vs7 H8 =>
    onE e6 .normal
      (cb (S_cellaretlaw17_Sums [vs7.getD 0 .undef] H8) fun v9 H10 =>
      cb (S_node_Root [.nilp, v9] H10) fun v11 H12 =>
      vb (aExtract v11 0) fun v13 =>
      vb (aExtract v11 1) fun v14 =>
      hb (aAlloc H12 (List.replicate 32 (.int .u8 0))) fun v15 H16 =>
      sb (aStore H16 32 v15 v13) fun H17 =>
      cb (S_oracle_New [] H17) fun v18 H19 =>
      cb (S_node_Root [v18, vs7.getD 0 .undef] H19) fun v20 H21 =>
      vb (aExtract v20 0) fun v22 =>
      vb (aExtract v20 1) fun v23 =>
      hb (aAlloc H21 (List.replicate 32 (.int .u8 0))) fun v24 H25 =>
      sb (aStore H25 32 v24 v22) fun H26 =>
      JoinP (fun Kj27 => vb (aBin .neq v14 (.int .i64 0)) fun v28 =>
        isB v28 fun b29 => cond b29
          (Kj27 .ret [.bool false] H26)
          (vb (aLoad H26 true 32 v15) fun v30 =>
          cb (S_cellaretlaw17_Sums [vs7.getD 0 .undef] H26) fun v31 H32 =>
              cb (S_cellaretlaw17_root [v31] H32) fun v33 H34 =>
                vb (aEql true (.agg (List.replicate 32 .int)) H34 v30 v33) fun v35 =>
                  isB v35 fun b36 => cond b36
                    (Kj27 .ret [.bool false] H34)
                    (Kj27 .normal [.bool false] H34)))
      (fun e37 vs38 H39 =>
        onE e37 .normal
          (vb (lenSl (vs7.getD 0 .undef)) fun v40 =>
          vb (aBin .neq v40 (.int .i64 64)) fun v41 =>
          isB v41 fun b42 => cond b42
            (cb (S_cellaretlaw17_awake [] H39) fun v43 H44 =>
            isB v43 fun b45 => cond b45
              (vb (aLoad H44 true 32 v24) fun v46 =>
              vb (aBuild (List.replicate 32 (.int .u8 0)) (fun k => some (k * 1, 1)) []) fun v47 =>
                vb (aEql false (.agg (List.replicate 32 .int)) H44 v46 v47) fun v48 =>
                  isB v48 fun b49 => cond b49
                    (vb (aBin .eql v23 (.int .i64 6)) fun v50 =>
                      fin .ret [.v (v50)] H44 K)
                    (fin .ret [.v (.bool false)] H44 K))
              (fin .ret [.v (.bool false)] H44 K))
            (cb (S_cellaretlaw17_awake [] H39) fun v51 H52 =>
            isB v51 fun b53 => cond b53
              (vb (aBin .eql v23 (.int .i64 0)) fun v54 =>
                isB v54 fun b55 => cond b55
                  (vb (aLoad H52 true 32 v24) fun v56 =>
                  vb (aLoad H52 true 32 v15) fun v57 =>
                    vb (aEql false (.agg (List.replicate 32 .int)) H52 v56 v57) fun v58 =>
                      fin .ret [.v (v58)] H52 K)
                  (fin .ret [.v (.bool false)] H52 K))
              (fin .ret [.v (.bool false)] H52 K)))
        (onE e37 .ret
          (fin .ret [.v (vs38.getD 0 .undef)] H39 K)
        (False))))
    (False))

def cellaretlaw17_NodeApart.L9.b (v3 : AVal) (v5 : AVal) (x12_9 : AVal) (x13_9 : AVal) (H29 : AHeap) (Kn30 : List AVal → AHeap → Prop) (Ke31 : AExit → List AVal → AHeap → Prop) : Prop :=
  vb (aBin .lss x13_9 (.int .i64 64)) fun v32 =>
  isB v32 fun b33 => cond b33
    (isB x12_9 fun b34 => cond b34
      (vb (aIndexAddr 32 v3 x13_9) fun v35 =>
          vb (aLoad H29 true 32 v35) fun v36 =>
            vb (aIndexAddr 32 v5 x13_9) fun v37 =>
                  vb (aLoad H29 true 32 v37) fun v38 =>
                    vb (aEql false (.agg (List.replicate 32 .int)) H29 v36 v38) fun v39 =>
                      vb (aBin .add x13_9 (.int .i64 1)) fun v40 =>
                      Kn30 [v39, v40] H29)
      (vb (aBin .add x13_9 (.int .i64 1)) fun v41 =>
                      Kn30 [.bool false, v41] H29))
    (Ke31 (.exit 0) [x12_9] H29)

def cellaretlaw17_NodeApart.L9 (v3 : AVal) (v5 : AVal) : Body := fun vs H Kn Ke => cellaretlaw17_NodeApart.L9.b v3 v5 (vs.getD 0 .undef) (vs.getD 1 .undef) H Kn Ke

def cellaretlaw17_NodeApart.w (x0 : AVal) (x1 : AVal) (H : AHeap) (K : AVal → AHeap → Prop) : Prop :=
  cb (S_oracle_New [] H) fun v1 H2 =>
  cb (S_cellaretlaw17_Sums [x0] H2) fun v3 H4 =>
  cb (S_cellaretlaw17_Sums [x1] H4) fun v5 H6 =>
  cb (S_node_Root [v1, v3] H6) fun v7 H8 =>
  vb (aExtract v7 0) fun v9 =>
  vb (aExtract v7 1) fun v10 =>
  hb (aAlloc H8 (List.replicate 32 (.int .u8 0))) fun v11 H12 =>
  sb (aStore H12 32 v11 v9) fun H13 =>
  cb (S_node_Root [v1, v5] H13) fun v14 H15 =>
  vb (aExtract v14 0) fun v16 =>
  vb (aExtract v14 1) fun v17 =>
  hb (aAlloc H15 (List.replicate 32 (.int .u8 0))) fun v18 H19 =>
  sb (aStore H19 32 v18 v16) fun H20 =>
  JoinP (fun Kj21 => vb (aBin .neq v10 (.int .i64 0)) fun v22 =>
    isB v22 fun b23 => cond b23
      (Kj21 .ret [.bool false] H20)
      (vb (aBin .neq v17 (.int .i64 0)) fun v24 =>
        isB v24 fun b25 => cond b25
          (Kj21 .ret [.bool false] H20)
          (Kj21 .normal [.bool false] H20)))
  (fun e26 vs27 H28 =>
    onE e26 .normal
      (LoopP (cellaretlaw17_NodeApart.L9 v3 v5) [.bool true, .int .i64 0] H28 fun e42 vs43 H44 =>
        onE e42 (.exit 0)
          (JoinP (fun Kj45 => isB (vs43.getD 0 .undef) fun b46 => cond b46
              (cb (S_cellaretlaw17_awake [] H44) fun v47 H48 =>
                  isB v47 fun b49 => cond b49
                    (vb (aUn .not (vs43.getD 0 .undef)) fun v50 =>
                      isB v50 fun b51 => cond b51
                          (Kj45 .ret [.bool true] H48)
                          (vb (aLoad H48 true 32 v11) fun v52 =>
                          vb (aLoad H48 true 32 v18) fun v53 =>
                            vb (aEql false (.agg (List.replicate 32 .int)) H48 v52 v53) fun v54 =>
                              Kj45 .ret [v54] H48))
                    (Kj45 .ret [.bool false] H48))
              (vb (aLoad H44 true 32 v11) fun v55 =>
              vb (aLoad H44 true 32 v18) fun v56 =>
                vb (aEql true (.agg (List.replicate 32 .int)) H44 v55 v56) fun v57 =>
                  isB v57 fun b58 => cond b58
                    (cb (S_cellaretlaw17_awake [] H44) fun v59 H60 =>
                    isB v59 fun b61 => cond b61
                      (vb (aUn .not (vs43.getD 0 .undef)) fun v62 =>
                        isB v62 fun b63 => cond b63
                            (Kj45 .ret [.bool true] H60)
                            (vb (aLoad H60 true 32 v11) fun v64 =>
                            vb (aLoad H60 true 32 v18) fun v65 =>
                              vb (aEql false (.agg (List.replicate 32 .int)) H60 v64 v65) fun v66 =>
                                Kj45 .ret [v66] H60))
                      (Kj45 .ret [.bool false] H60))
                    (Kj45 .normal [vs27.getD 0 .undef] H44)))
          (fun e67 vs68 H69 =>
            onE e67 .normal
              (cb (S_oracle_Oracle_Collide [v1] H69) fun v70 H71 =>
              vb (aExtract v70 0) fun v72 =>
              vb (aExtract v70 1) fun v73 =>
              vb (aExtract v70 2) fun v74 =>
              cb (S_cellaretlaw17_awake [] H71) fun v75 H76 =>
              isB v75 fun b77 => cond b77
                (fin .ret [.v (v74)] H76 K)
                (fin .ret [.v (.bool false)] H76 K))
            (onE e67 .ret
              (fin .ret [.v (vs68.getD 0 .undef)] H69 K)
            (False))))
        (False))
    (onE e26 .ret
      (fin .ret [.v (vs27.getD 0 .undef)] H28 K)
    (False)))

end Go.Sh

/- Roots over leaves: the program's. -/
namespace Go.Sh
open Go Go.Abs

theorem node_Root_1.ok (args : List AVal) (H : AHeap) (r : AVal) (H' : AHeap) (h : S_node_Root_1 args H r H') : ∃ x0 x1 x2, args = [x0, x1, x2] ∧ node_Root_1.w x0 x1 x2 H fun r1 H1 => Weak H r1 H1 r H' := by
  obtain ⟨o, a, b, j, rfl, hj, rfl, h⟩ := h
  refine ⟨_, _, _, rfl, ?_⟩
  unfold node_Root_1.w
  have hcl : ∀ l : List UInt8, (AVal.agg (l.map ofByte)).cells = l.map ofByte := fun _ => rfl
  have hsl := sum_len (nodeT a b)
  have hab : (a.1 ++ b.1).length = 64 := by simp [a.2, b.2]
  refine hb_i (e_box rfl) ?_
  rw [hcl]
  refine hb_i (e_box rfl) ?_
  rw [hcl]
  have pA : H <+: (H ++ [AObj.cells 0 .exact (a.1.map ofByte)]) ++ [AObj.cells 0 .exact (b.1.map ofByte)] := (pre_app _ _).trans (pre_app _ _)
  have g1 : ((H ++ [AObj.cells 0 .exact (a.1.map ofByte)]) ++ [AObj.cells 0 .exact (b.1.map ofByte)])[H.length]? = some (.cells 0 .exact (a.1.map ofByte)) := by rw [pre_get (pre_app _ _) (by simp), app_get0]; rfl
  have g2 : ((H ++ [AObj.cells 0 .exact (a.1.map ofByte)]) ++ [AObj.cells 0 .exact (b.1.map ofByte)])[(H ++ [AObj.cells 0 .exact (a.1.map ofByte)]).length]? = some (.cells 0 .exact (b.1.map ofByte)) := by rw [app_get0]; rfl
  have r0 := Run.push (Run.push (Run.start h) [AObj.cells 0 .exact (a.1.map ofByte)]) [AObj.cells 0 .exact (b.1.map ofByte)]
  generalize hq2 : (H ++ [AObj.cells 0 .exact (a.1.map ofByte)]).length = q2 at *
  generalize hA : (H ++ [AObj.cells 0 .exact (a.1.map ofByte)]) ++ [AObj.cells 0 .exact (b.1.map ofByte)] = A at *
  repeat with_reducible refine hb_i (e_alloc _ _) ?_
  have r1 := (Run.push r0 [AObj.cells 0 .exact (List.replicate 32 (.int .u8 0))]).weaken (own' := fun k => k = A.length) fun k hk => .inr (by simp; omega)
  have pB : A <+: A ++ [AObj.cells 0 .exact (List.replicate 32 (.int .u8 0))] := pre_app _ _
  have gz : (A ++ [AObj.cells 0 .exact (List.replicate 32 (.int .u8 0))])[A.length]? = some (.cells 0 .exact (List.replicate 32 (.int .u8 0))) := by rw [app_get0]; rfl
  have gj : (A ++ [AObj.cells 0 .exact (List.replicate 32 (.int .u8 0))])[j]? = some (.cells 0 .exact [o]) := by rw [pre_get (pA.trans pB) (lt_of_some hj)]; exact hj
  have g1' := (pre_get pB (lt_of_some g1)).trans g1
  have g2' := (pre_get pB (lt_of_some g2)).trans g2
  clear r0
  generalize A ++ [AObj.cells 0 .exact (List.replicate 32 (.int .u8 0))] = B at *
  refine JoinP.mk (fun e vs D => e = .normal ∧ ∃ p, vs = [.ptr ⟨p, 0, 0⟩] ∧ D[p]? = some (.cells 0 .exact ((nodeD a b).1.map ofByte)) ∧ D[A.length]? = some (.cells 0 .exact (List.replicate 32 (.int .u8 0))) ∧ Run H o [nodeT a b] H' D (fun k => k = A.length) [nodeT a b]) ⟨?_, ?_⟩ ?_
  · refine vb_i (e_load1 gj (by simp)) ?_
    refine vb_i (sliceArr_all _ _ _ _) (vb_i (arr_str g1' a.2) (vb_i (sliceArr_all _ _ _ _) (vb_i (arr_str g2' b.2) ?_)))
    refine vb_i (adds (by simp [a.2, b.2])) ?_
    obtain ⟨C2, hO, r2, hle, hk2⟩ := Run.call r1 (ts := [nodeT a b]) (by simp) (by simp [nodeT_len])
    refine cb_i _ _ ⟨o, a.1 ++ b.1, rfl, .inr ⟨hab, rfl, hO⟩⟩ ?_
    repeat with_reducible first
    | refine vb_i e_ext0 ?_
    | refine vb_i e_ext1 ?_
    | refine hb_i (e_alloc _ _) ?_
    with_reducible refine sb_i (store_new List.length_replicate (by rw [List.length_map]; exact sum_len _) (cells_byte _)) ?_
    refine ⟨rfl, _, rfl, by rw [app_get0]; rfl, ?_, ?_⟩
    · have := (hk2 A.length rfl).trans gz
      rw [pre_get (pre_app _ _) (lt_of_some this)]; exact this
    · exact Run.weaken (Run.push r2 _) fun k hk => .inl hk
  · refine vb_i (e_load1 gj (by simp)) ?_
    refine vb_i (sliceArr_all _ _ _ _) (vb_i (arr_str g1' a.2) (vb_i (sliceArr_all _ _ _ _) (vb_i (arr_str g2' b.2) ?_)))
    refine vb_i (adds (by simp [a.2, b.2])) ?_
    repeat with_reducible refine hb_i (e_alloc _ _) ?_
    obtain ⟨C2, hO, r2, hle, hk2⟩ := Run.call (Run.push r1 [AObj.cells 0 .exact (List.replicate 32 (.int .u8 0))]) (ts := [nodeT a b]) (by simp) (by simp [nodeT_len])
    refine cb_i _ _ ⟨o, a.1 ++ b.1, rfl, .inr ⟨hab, rfl, hO⟩⟩ ?_
    have hAB := lt_of_some gz
    have gn : C2[B.length]? = some (.cells 0 .exact (List.replicate 32 (.int .u8 0))) := by rw [hk2 _ (.inr (by simp)), app_get0]; rfl
    have gA : C2[A.length]? = some (.cells 0 .exact (List.replicate 32 (.int .u8 0))) := by rw [hk2 _ (.inl rfl), pre_get (pre_app _ _) hAB]; exact gz
    repeat with_reducible first
    | refine vb_i e_ext0 ?_
    | refine vb_i e_ext1 ?_
    with_reducible refine sb_i (store32 gn List.length_replicate (by rw [List.length_map]; exact sum_len _) (cells_byte _)) ?_
    refine ⟨rfl, _, rfl, by rw [List.getElem?_set_self (lt_of_some gn)]; rfl, by rw [List.getElem?_set_ne (by omega)]; exact gA, ?_⟩
    exact Run.weaken (Run.set r2 (.inr (by simp)) _) fun k hk => .inl hk
  · rintro _ _ D ⟨rfl, p, rfl, d1, d2, r3⟩
    repeat with_reducible refine onE_i ?_
    try simp only [evB]
    refine vb_i (e_loadAll d1 (by rw [List.length_map]; exact hsl)) ?_
    refine sb_i (store32 d2 List.length_replicate (by rw [List.length_map]; exact hsl) (cells_byte _)) ?_
    refine fin_ret (vs := [.agg ((nodeD a b).1.map ofByte)]) (rvs_c (e_loadAll (by rw [List.getElem?_set_self (lt_of_some d2)]) (by rw [List.length_map]; exact hsl)) (rvs_nil _)) ?_
    exact Run.fin (Run.set r3 rfl _) (agg_plain (bytes_plain _))

theorem set_getD {bl : List D32} {i j : Nat} {d : D32} (hi : i < bl.length) : (bl.set i d).getD j d0 = if i = j then d else bl.getD j d0 := by
  simp only [List.getD_eq_getElem?_getD, List.getElem?_set]
  by_cases e : i = j
  · subst e; simp [hi]
  · simp [e]

theorem node_Root.ok (args : List AVal) (H : AHeap) (r : AVal) (H' : AHeap) (h : S_node_Root args H r H') : ∃ x0 x1, args = [x0, x1] ∧ node_Root.w x0 x1 H fun r1 H1 => Weak H r1 H1 r H' := by
  obtain ⟨o, x, dd, rfl, hA, h⟩ := h
  refine ⟨_, _, rfl, ?_⟩
  unfold node_Root.w
  have hv := hA.v
  have hl := hA.hl
  have hod : o.defd = true ∧ o.cells = [o] := by
    rcases hA.o with rfl | ⟨i, v, rfl⟩ <;> exact ⟨rfl, rfl⟩
  refine hb_i (e_box hod.1) ?_
  rw [hod.2]
  repeat with_reducible first
  | refine vb_i (neq64 _ _ _) ?_
  | refine vb_i (lenSl_view (by assumption)) ?_
  | refine hb_i (e_alloc _ _) ?_
  rcases h with ⟨hn, rfl, rfl⟩ | ⟨hn, rfl, h⟩
  · repeat with_reducible (refine isB_ct ?_ ?_; (· first | omega | rfl | assumption | trivial))
    refine vb_i zero32_build ?_
    unfold zero32
    with_reducible refine sb_i (store_new List.length_replicate List.length_replicate (cells_rep _ _ _)) ?_
    refine fin_ret (vs := [.agg (List.replicate 32 (.int .u8 0)), .int .i64 6]) (rvs_c (load_new List.length_replicate) (rvs_v (rvs_nil _))) ?_
    exact Weak.any (ren_pair (agg_plain zero32_plain) (ren_p rfl)) ((pre_app _ _).trans (pre_app _ _))
  · have pA : H <+: (H ++ [AObj.cells 0 .exact [o]]) ++ [AObj.cells 0 .exact (List.replicate 32 (.int .u8 0))] := (pre_app _ _).trans (pre_app _ _)
    repeat with_reducible (refine isB_cf ?_ ?_; (· first | omega | assumption))
    refine append_nils (hv.pre pA) (by simp only [room]; omega) (by simp only [room]; omega) (fun e => by omega) fun _ => ?_
    have e0 : ((H ++ [AObj.cells 0 .exact [o]]) ++ [AObj.cells 0 .exact (List.replicate 32 (.int .u8 0))]) ++ [AObj.cells 0 .opn (dcells dd)] = H ++ [AObj.cells 0 .exact [o], AObj.cells 0 .exact (List.replicate 32 (.int .u8 0)), AObj.cells 0 .opn (dcells dd)] := by simp
    have hl1 : (H ++ [AObj.cells 0 .exact [o]]).length = H.length + 1 := by simp
    have hl2 : ((H ++ [AObj.cells 0 .exact [o]]) ++ [AObj.cells 0 .exact (List.replicate 32 (.int .u8 0))]).length = H.length + 2 := by simp
    rw [e0, hl1, hl2, hn]
    have r0 := (Run.push (Run.start h) [AObj.cells 0 .exact [o], AObj.cells 0 .exact (List.replicate 32 (.int .u8 0)), AObj.cells 0 .opn (dcells dd)]).weaken (own' := fun k => H.length ≤ k ∧ k < H.length + 3) fun k hk => .inr (by simp; omega)
    have hall := rootT_all dd
    refine LoopP.ruleG (α := Nat) (fun k => [.slice ⟨H.length + 2, 0, 0⟩ (wd k) (.op 32)])
      (fun k C => k ≤ 6 ∧ Run H o (rootT dd 6) H' C (fun k => H.length ≤ k ∧ k < H.length + 3) (rootT dd k) ∧ C[H.length]? = some (.cells 0 .exact [o]) ∧ C[H.length + 1]? = some (.cells 0 .exact (List.replicate 32 (.int .u8 0))) ∧
        ∃ bl, bl.length = 64 ∧ C[H.length + 2]? = some (.cells 0 .opn (dcells bl)) ∧ ∀ j, j < wd k → bl.getD j d0 = val dd k j) (fun k => 6 - k) 0 rfl
      ⟨Nat.zero_le _, r0, by rw [app_get0]; rfl, by rw [app_get]; rfl, dd, hn, by rw [app_get]; rfl, fun j _ => rfl⟩ ?_
    rintro k C Kn ⟨hk, run, c0, c1, bl, hbl, c2, hval⟩ hn2
    unfold node_Root.L5 node_Root.L5.b
    try simp only [evB]
    have hwp := wd_pos k
    have hwl := wd_le k
    by_cases hk6 : k < 6
    · have hst := wd_step hk6
      have hmp := wd_pos (k + 1)
      have hdl := rootT_len dd k hk
      generalize hm : wd (k + 1) = m at *
      rw [hst]
      refine vb_i (e_lenSl _ _ _) ?_
      repeat with_reducible first
      | (refine isB_ct ?_ ?_; (· first | omega | rfl | assumption | trivial))
      | refine vb_i (gtr64 _ _ _) ?_
      | (refine vb_i (quo64 ?_ ?_ ?_) ?_; (· omega); (· omega); (· omega))
      | refine vb_i (e_lenSl _ _ _) ?_
      have hq2 : ((2 * m : Nat) : Int) / 2 = (m : Int) := by omega
      rw [hq2]
      refine LoopP.ruleG (α := Nat) (fun i => [.int .i64 i])
        (fun i C => i ≤ m ∧ Run H o (rootT dd 6) H' C (fun k => H.length ≤ k ∧ k < H.length + 3) (rootT dd k ++ lvT dd k i) ∧ C[H.length]? = some (.cells 0 .exact [o]) ∧ C[H.length + 1]? = some (.cells 0 .exact (List.replicate 32 (.int .u8 0))) ∧
          ∃ bl, bl.length = 64 ∧ C[H.length + 2]? = some (.cells 0 .opn (dcells bl)) ∧ (∀ j, j < i → bl.getD j d0 = val dd (k + 1) j) ∧ ∀ j, i ≤ j → j < 2 * m → bl.getD j d0 = val dd k j) (fun i => m - i) 0 rfl
        ⟨Nat.zero_le _, by simpa [lvT] using run, c0, c1, bl, hbl, c2, fun j hj => by omega, fun j _ hj => hval j (by omega)⟩ ?_
      clear run c0 c1 c2 hval hbl
      rintro i C Kn2 ⟨hi, run, c0, c1, bl, hbl, c2, hv1, hv2⟩ hn3
      unfold node_Root.L7 node_Root.L7.b
      try simp only [evB]
      by_cases him : i < m
      · repeat with_reducible first
        | (refine isB_ct ?_ ?_; (· first | omega | rfl | assumption | trivial))
        | refine vb_i (lss64 _ _ _) ?_
        | (refine vb_i (mul64 ?_ ?_) ?_; (· omega); (· omega))
        have e1 : (2 * (i : Int)) = ((2 * i : Nat) : Int) := by omega
        rw [e1]
        refine vb_i (e_idxAddr (by omega) (by omega)) ?_
        rw [Int.toNat_natCast]
        refine vb_i (dig_load c2 (by omega)) ?_
        repeat with_reducible first
        | (refine vb_i (add64 ?_ ?_) ?_; (· omega); (· omega))
        | (refine vb_i (mul64 ?_ ?_) ?_; (· omega); (· omega))
        have e2 : (((2 * i : Nat) : Int) + 1) = ((2 * i + 1 : Nat) : Int) := by omega
        rw [e1, e2]
        refine vb_i (e_idxAddr (by omega) (by omega)) ?_
        rw [Int.toNat_natCast]
        refine vb_i (dig_load c2 (by omega)) ?_
        rw [hv2 (2 * i) (by omega) (by omega), hv2 (2 * i + 1) (by omega) (by omega)]
        obtain ⟨C2, hO, run2, hle, hk2⟩ := Run.call run (ts := [nodeT (val dd k (2 * i)) (val dd k (2 * i + 1))]) (by rw [List.length_append, lvT_len, hall]; simp; omega) (by simp [nodeT_len])
        refine cb_i _ _ ⟨o, _, _, _, rfl, c0, rfl, hO⟩ ?_
        refine vb_i (e_idxAddr (by omega) (by omega)) ?_
        rw [Int.toNat_natCast]
        have k0 := (hk2 H.length ⟨by omega, by omega⟩).trans c0
        have k1 := (hk2 (H.length + 1) ⟨by omega, by omega⟩).trans c1
        have k2 := (hk2 (H.length + 2) ⟨by omega, by omega⟩).trans c2
        refine sb_i (dig_store k2 (by decide) (by omega) _) ?_
        repeat with_reducible (refine vb_i (add64 ?_ ?_) ?_; (· omega); (· omega))
        refine hn3 (i + 1) _ ⟨by omega, ?_, by rw [List.getElem?_set_ne (by omega)]; exact k0, by rw [List.getElem?_set_ne (by omega)]; exact k1, bl.set i (nodeD (val dd k (2 * i)) (val dd k (2 * i + 1))), by rw [List.length_set]; exact hbl, by rw [List.getElem?_set_self (lt_of_some k2)], ?_, ?_⟩ (by omega)
        · rw [lvT_step, ← List.append_assoc]
          exact Run.set run2 ⟨by omega, by omega⟩ _
        · intro j hj
          rw [set_getD (by omega)]
          by_cases e : i = j
          · subst e; rw [if_pos rfl]; rfl
          · rw [if_neg e]; exact hv1 j (by omega)
        · intro j hj1 hj2
          rw [set_getD (by omega), if_neg (by omega)]
          exact hv2 j (by omega) hj2
      · have hie : i = m := by omega
        subst hie
        repeat with_reducible first
        | (refine isB_cf ?_ ?_; (· first | omega | assumption))
        | refine onE_i ?_
        | refine vb_i (lss64 _ _ _) ?_
        | (refine vb_i (quo64 ?_ ?_ ?_) ?_; (· omega); (· omega); (· omega))
        | refine vb_i (e_lenSl _ _ _) ?_
        try simp only [evB]
        skip
        rw [hq2]
        refine vb_i (v := .slice ⟨H.length + 2, 0, 0⟩ i (.op 32)) ?_ ?_
        · simp only [aSlice, bnd_none, bnd, Int.natCast_nonneg, if_true, Int.toNat_natCast, verOf_some c2]
          rw [if_pos ⟨by trivial, by trivial, Nat.zero_le _, by omega⟩]
          simp
        rw [← hm]
        refine hn2 (k + 1) _ ⟨by omega, ?_, c0, c1, bl, hbl, c2, fun j hj => hv1 j (by omega)⟩ (by omega)
        simp only [rootT, hm]
        exact run
    · have hke : k = 6 := by omega
      subst hke
      rw [wd_six] at hval ⊢
      refine vb_i (e_lenSl _ _ _) ?_
      repeat with_reducible first
      | (refine isB_cf ?_ ?_; (· first | omega | assumption))
      | refine onE_i ?_
      | refine vb_i (gtr64 _ _ _) ?_
      try simp only [evB]
      refine vb_i (e_idxAddr (by omega) (by omega)) ?_
      refine vb_i (dig_load (k := 0) c2 (by omega)) ?_
      rw [hval 0 (by decide)]
      refine sb_i (store32 c1 List.length_replicate (by rw [List.length_map]; exact (val dd 6 0).2) (cells_byte _)) ?_
      refine fin_ret (vs := [.agg ((val dd 6 0).1.map ofByte), .int .i64 0]) (rvs_c (e_loadAll (by rw [List.getElem?_set_self (lt_of_some c1)]) (by rw [List.length_map]; exact (val dd 6 0).2)) (rvs_v (rvs_nil _))) ?_
      exact Run.fin (Run.set run ⟨by omega, by omega⟩ _) (ren_pair (agg_plain (bytes_plain _)) (ren_p rfl))
end Go.Sh

/- Roots over leaves: the law's own. -/
namespace Go.Sh
open Go Go.Abs

theorem dcells_take (dd : List D32) (n : Nat) : (dcells dd).take (n * 32) = dcells (dd.take n) := by
  by_cases h : n ≤ dd.length
  · conv => lhs; rw [← List.take_append_drop n dd]
    rw [dcells_app, List.take_append_of_le_length (by rw [dcells_len, List.length_take]; omega), List.take_of_length_le (by rw [dcells_len, List.length_take]; omega)]
  · rw [List.take_of_length_le (by rw [dcells_len]; omega), List.take_of_length_le (by omega)]
theorem dcells_drop (dd : List D32) (n : Nat) : (dcells dd).drop (n * 32) = dcells (dd.drop n) := by
  by_cases h : n ≤ dd.length
  · conv => lhs; rw [← List.take_append_drop n dd]
    have hl : (dcells (dd.take n)).length = n * 32 := by rw [dcells_len, List.length_take, Nat.min_eq_left h]
    rw [dcells_app, List.drop_append_of_le_length (by omega), List.drop_of_length_le (by omega), List.nil_append]
  · rw [List.drop_of_length_le (by rw [dcells_len]; omega), List.drop_of_length_le (by omega)]; rfl

theorem root_ok0 (S : Abs.Spec) (args : List AVal) (H : AHeap) (r : AVal) (H' : AHeap) (h : S_root_at 0 args H r H') : ∃ x0, args = [x0] ∧ cellaretlaw17_root.w S x0 H fun r1 H1 => Weak H r1 H1 r H' := by
  obtain ⟨x, dd, rfl, hv, hl, _, rfl, rfl⟩ := h
  refine ⟨_, rfl, ?_⟩
  unfold cellaretlaw17_root.w
  rw [Nat.pow_zero] at hl
  have hd := (val dd 0 0).2
  repeat with_reducible first
  | (refine isB_ct ?_ ?_; (· first | omega | rfl | assumption | trivial))
  | refine vb_i (eql64 _ _ _) ?_
  | refine vb_i (lenSl_view (by assumption)) ?_
  | refine hb_i (e_alloc _ _) ?_
  obtain ⟨q, q1, q2⟩ := digs_at hv (k := 0) (by omega) (pre_app H' [AObj.cells 0 .exact (List.replicate 32 (.int .u8 0))])
  refine vb_i q1 (vb_i q2 ?_)
  with_reducible refine sb_i (store_new List.length_replicate (by rw [List.length_map]; exact (dd.getD 0 d0).2) (cells_byte _)) ?_
  refine fin_ret (vs := [.agg ((val dd 0 0).1.map ofByte)]) (rvs_c (load_new (by rw [List.length_map]; exact hd)) (rvs_nil _)) ?_
  exact Weak.any (agg_plain (bytes_plain _)) (pre_app _ _)

theorem root_okS (m : Nat) (args : List AVal) (H : AHeap) (r : AVal) (H' : AHeap) (h : S_root_at (m + 1) args H r H') : ∃ x0, args = [x0] ∧ cellaretlaw17_root.w (S_root_at m) x0 H fun r1 H1 => Weak H r1 H1 r H' := by
  obtain ⟨x, dd, rfl, hv, hl, hm, rfl, rfl⟩ := h
  refine ⟨_, rfl, ?_⟩
  unfold cellaretlaw17_root.w
  have hp : 0 < 2 ^ m := Nat.pow_pos (by decide)
  have hp6 : 2 ^ m ≤ 64 := by
    have := Nat.pow_le_pow_right (n := 2) (by decide) (show m ≤ 6 by omega)
    exact this
  rw [Nat.pow_succ] at hl
  have hvT := val_take dd (2 ^ m) m 0 (by omega)
  have hvD := val_shift dd 1 m 0
  rw [Nat.one_mul, Nat.zero_add] at hvD
  have hval : val dd (m + 1) 0 = nodeD (val dd m 0) (val dd m 1) := rfl
  generalize hn : 2 ^ m = n at *
  repeat with_reducible first
  | (refine isB_cf ?_ ?_; (· first | omega | assumption))
  | refine vb_i (eql64 _ _ _) ?_
  | (refine vb_i (quo64 ?_ ?_ ?_) ?_; (· omega); (· omega); (· omega))
  | refine vb_i (lenSl_view (by assumption)) ?_
  | refine hb_i (e_alloc _ _) ?_
  have hq : (dd.length : Int) / 2 = (n : Int) := by omega
  rw [hq]
  have hv1 := hv.pre (pre_app H' [AObj.cells 0 .exact (List.replicate 32 (.int .u8 0))])
  have gz : (H' ++ [AObj.cells 0 .exact (List.replicate 32 (.int .u8 0))])[H'.length]? = some (.cells 0 .exact (List.replicate 32 (.int .u8 0))) := by rw [app_get0]; rfl
  have pz : H' <+: H' ++ [AObj.cells 0 .exact (List.replicate 32 (.int .u8 0))] := pre_app _ _
  generalize H' ++ [AObj.cells 0 .exact (List.replicate 32 (.int .u8 0))] = B at *
  obtain ⟨x1, e1, e2, _⟩ := slice_view (l := none) (h := some (.int .i64 (n : Int))) (lo := 0) (hi := n) hv1 rfl (by rw [bnd_int (by omega), Int.toNat_natCast]) (Nat.zero_le _) (by omega)
  obtain ⟨x2, e3, e4, _⟩ := slice_view (l := some (.int .i64 (n : Int))) (h := none) (lo := n) (hi := dd.length) hv1 (by rw [bnd_int (by omega), Int.toNat_natCast]) rfl (by omega) (Nat.le_refl _)
  refine vb_i e1 ?_
  rw [Nat.zero_mul, List.drop_zero, Nat.sub_zero, dcells_take] at e2
  rw [dcells_drop, dcells_take] at e4
  have ht : (dd.take n).length = n := by rw [List.length_take]; omega
  have hd : ((dd.drop n).take (dd.length - n)).length = n := by rw [List.length_take, List.length_drop]; omega
  have hdd : (dd.drop n).take (dd.length - n) = dd.drop n := List.take_of_length_le (by rw [List.length_drop]; exact Nat.le_refl _)
  rw [hdd] at e4 hd
  have hnn : dd.length - n = n := by omega
  rw [hnn] at e4
  refine cb_i _ _ ⟨x1, dd.take n, rfl, by rw [ht]; exact e2, by rw [ht, hn], by omega, rfl, rfl⟩ ?_
  refine vb_i e3 ?_
  refine cb_i _ _ ⟨x2, dd.drop n, rfl, by rw [hd]; exact e4, by rw [hd, hn], by omega, rfl, rfl⟩ ?_
  rw [hvT, hvD, hval]
  generalize val dd m 0 = a
  generalize val dd m 1 = b
  have hsl := sum_len (nodeT a b)
  repeat with_reducible refine hb_i (e_alloc _ _) ?_
  have ga : (B ++ [AObj.cells 0 .exact (List.replicate 32 (.int .u8 0))] ++ [AObj.cells 0 .exact (List.replicate 32 (.int .u8 0))])[B.length]? = some (.cells 0 .exact (List.replicate 32 (.int .u8 0))) := by rw [pre_get (pre_app _ _) (by simp), app_get0]; rfl
  with_reducible refine sb_i (store32 ga List.length_replicate (by rw [List.length_map]; exact a.2) (cells_byte _)) ?_
  have es : (B ++ [AObj.cells 0 .exact (List.replicate 32 (.int .u8 0))] ++ [AObj.cells 0 .exact (List.replicate 32 (.int .u8 0))]).set B.length (.cells 0 .exact (a.1.map ofByte)) = (B ++ [AObj.cells 0 .exact (a.1.map ofByte)]) ++ [AObj.cells 0 .exact (List.replicate 32 (.int .u8 0))] := by
    rw [List.set_append_left _ _ (by simp), app_set0]; rfl
  rw [es]
  have hl1 : (B ++ [AObj.cells 0 .exact (List.replicate 32 (.int .u8 0))]).length = (B ++ [AObj.cells 0 .exact (a.1.map ofByte)]).length := by simp
  rw [hl1]
  with_reducible refine sb_i (store_new List.length_replicate (by rw [List.length_map]; exact b.2) (cells_byte _)) ?_
  have h1 : ((B ++ [AObj.cells 0 .exact (a.1.map ofByte)]) ++ [AObj.cells 0 .exact (b.1.map ofByte)])[B.length]? = some (.cells 0 .exact (a.1.map ofByte)) := by rw [pre_get (pre_app _ _) (by simp), app_get0]; rfl
  have h2 : ((B ++ [AObj.cells 0 .exact (a.1.map ofByte)]) ++ [AObj.cells 0 .exact (b.1.map ofByte)])[(B ++ [AObj.cells 0 .exact (a.1.map ofByte)]).length]? = some (.cells 0 .exact (b.1.map ofByte)) := by rw [app_get0]; rfl
  have hz : ((B ++ [AObj.cells 0 .exact (a.1.map ofByte)]) ++ [AObj.cells 0 .exact (b.1.map ofByte)])[H'.length]? = some (.cells 0 .exact (List.replicate 32 (.int .u8 0))) := by rw [pre_get ((pre_app _ _).trans (pre_app _ _)) (lt_of_some gz)]; exact gz
  have pD : H' <+: (B ++ [AObj.cells 0 .exact (a.1.map ofByte)]) ++ [AObj.cells 0 .exact (b.1.map ofByte)] := pz.trans ((pre_app _ _).trans (pre_app _ _))
  refine vb_i (sliceArr_all _ _ _ _) (vb_i (arr_str h1 a.2) ?_)
  refine vb_i (adds (by simp [a.2])) ?_
  refine vb_i (sliceArr_all _ _ _ _) (vb_i (arr_str h2 b.2) ?_)
  refine vb_i (adds (by simp [a.2, b.2])) ?_
  refine cb_i _ _ ⟨nodeT a b, rfl, by rw [nodeT_len]; decide, rfl, rfl⟩ ?_
  refine sb_i (store32 hz List.length_replicate (by rw [List.length_map]; exact hsl) (cells_byte _)) ?_
  refine fin_ret (vs := [.agg ((nodeD a b).1.map ofByte)]) (rvs_c (e_loadAll (v := 0) (kd := .exact) (by rw [List.getElem?_set_self (lt_of_some hz)]; rfl) (by rw [List.length_map]; exact hsl)) (rvs_nil _)) ?_
  exact Weak.any (agg_plain (bytes_plain _)) (pre_set pD (Nat.le_refl _) _)

theorem sums64_step (dd : List D32) {i : Nat} (h : i < 64) : (sums64 dd).take (i + 1) = (sums64 dd).take i ++ [if i < dd.length then dd.getD i d0 else bareD] := by
  rw [List.take_add_one]
  congr 1
  simp [sums64, List.getElem?_range h]

theorem cellaretlaw17_Sums.ok (args : List AVal) (H : AHeap) (r : AVal) (H' : AHeap) (h : S_cellaretlaw17_Sums args H r H') : ∃ x0, args = [x0] ∧ cellaretlaw17_Sums.w x0 H fun r1 H1 => Weak H r1 H1 r H' := by
  obtain ⟨x, dd, rfl, hv, hl, rfl, rfl⟩ := h
  refine ⟨_, rfl, ?_⟩
  unfold cellaretlaw17_Sums.w
  refine LoopP.ruleG (α := Nat × AVal) (fun k => [k.2, .int .i64 k.1])
    (fun k C => k.1 ≤ 64 ∧ H <+: C ∧ OwnO C k.2 32 k.1 (dcells ((sums64 dd).take k.1)) ∧ ∀ a, slId k.2 = some a → H.length ≤ a) (fun k => 64 - k.1) (0, .nils) rfl
    ⟨Nat.zero_le _, List.prefix_refl _, OwnO.nils _ _, fun _ h => by cases h⟩ ?_
  rintro ⟨i, sv⟩ C Kn ⟨hi, pC, ow, hid⟩ hn
  simp only at hi pC ow hid
  unfold cellaretlaw17_Sums.L3 cellaretlaw17_Sums.L3.b
  try simp only [evB]
  have nxt : ∀ (d : D32) (sv' : AVal) (B : AHeap), i < 64 → d = (if i < dd.length then dd.getD i d0 else bareD) → OwnO B sv' 32 (i + 1) (dcells ((sums64 dd).take i) ++ d.1.map ofByte) → Keeps C sv B → (slId sv' = slId sv ∨ (sv = .nils ∧ slId sv' = some (C.length + 1))) → Kn [sv', .int .i64 ((i : Int) + 1)] B := by
    rintro d sv' B hi4 rfl o2 kk ii
    refine hn (i + 1, sv') B ⟨by simp only; omega, kk.pre pC hid, ?_, ?_⟩ (by simp only; omega)
    · simp only
      rw [sums64_step dd hi4, dcells_app]
      simpa [dcells, dcell] using o2
    · intro a ha
      have := pC.length_le
      rcases ii with e | ⟨_, e⟩
      · exact hid a (e ▸ ha)
      · simp only at ha; rw [e] at ha; cases ha; omega
  by_cases hi4 : i < 64
  · by_cases hid2 : i < dd.length
    · obtain ⟨q, q1, q2⟩ := digs_at hv hid2 pC
      repeat with_reducible first
      | (refine isB_ct ?_ ?_; (· first | omega | rfl | assumption | trivial))
      | refine vb_i (lss64 _ _ _) ?_
      | refine vb_i (lenSl_view (by assumption)) ?_
      refine vb_i q1 (vb_i q2 ?_)
      refine pushON ow (by decide) (by rw [List.length_map]; exact (dd.getD i d0).2) List.length_replicate (cells_byte _) (by simp only [room]; omega) (by simp only [room]; omega) fun sv' B o2 kk ii => ?_
      repeat with_reducible (refine vb_i (add64 ?_ ?_) ?_; (· omega); (· omega))
      exact nxt _ sv' B hi4 (by rw [if_pos hid2]) o2 kk ii
    · repeat with_reducible first
      | (refine isB_ct ?_ ?_; (· first | omega | rfl | assumption | trivial))
      | (refine isB_cf ?_ ?_; (· first | omega | assumption))
      | refine vb_i (lss64 _ _ _) ?_
      | refine vb_i (lenSl_view (by assumption)) ?_
      refine cb_i _ _ ⟨64, rfl, by decide, rfl, rfl⟩ ?_
      have hb : bareD.1 = sum (0 :: zs 64) := by unfold bareD; with_reducible rfl
      have hzl := zs_len 64
      generalize zs 64 = z at *
      refine vb_i (adds (by rw [hzl]; decide)) ?_
      rw [show ([0] ++ z : List UInt8) = 0 :: z from List.singleton_append]
      refine cb_i _ _ ⟨_, rfl, by rw [List.length_cons, hzl]; decide, rfl, rfl⟩ ?_
      rw [← hb]
      clear hb
      generalize bareD = bd at *
      refine pushON ow (by decide) (by rw [List.length_map]; exact bd.2) List.length_replicate (cells_byte _) (by simp only [room]; omega) (by simp only [room]; omega) fun sv' B o2 kk ii => ?_
      repeat with_reducible (refine vb_i (add64 ?_ ?_) ?_; (· omega); (· omega))
      exact nxt bd sv' B hi4 (by rw [if_neg hid2]) o2 kk ii
  · have hie : i = 64 := by omega
    subst hie
    repeat with_reducible first
    | (refine isB_cf ?_ ?_; (· first | omega | assumption))
    | refine onE_i ?_
    | refine vb_i (lss64 _ _ _) ?_
    try simp only [evB]
    have ht : (sums64 dd).take 64 = sums64 dd := List.take_of_length_le (by rw [sums64_len]; exact Nat.le_refl _)
    rw [ht] at ow
    refine fin_ret (vs := [sv]) (rvs_v (rvs_nil _)) ?_
    refine ow.weak (by decide) ?_ pC hid fun ρ σ N _ h => h
    intro x hx
    simp only [dcells, List.mem_flatten, List.mem_map] at hx
    obtain ⟨l, ⟨d, _, rfl⟩, hx⟩ := hx
    exact bytes_plain _ x hx
end Go.Sh

/- Roots over leaves: the law. -/
namespace Go.Sh
open Go Go.Abs

def rootV (dd : List D32) : List UInt8 := if dd.length = 64 then (val dd 6 0).1 else zs 32
def rootE (dd : List D32) : Int := if dd.length = 64 then 0 else 6
theorem rootV_len (dd : List D32) : (rootV dd).length = 32 := by
  unfold rootV; split
  · exact (val dd 6 0).2
  · exact zs32_len
theorem rootT_short (dd : List D32) : ∀ k, ∀ s ∈ rootT dd k, s.length = 65
  | 0, s, h => by cases h
  | k + 1, s, h => by
    rcases List.mem_append.1 h with h | h
    · exact rootT_short dd k s h
    · simp only [lvT, List.mem_map] at h
      obtain ⟨j, _, rfl⟩ := h
      exact nodeT_len _ _
theorem root_spec {C C2 : AHeap} {o x : AVal} {dd : List D32} (hA : RtArgs C o x dd) (h : (dd.length ≠ 64 ∧ C2 = C) ∨ (dd.length = 64 ∧ Osums C o (rootT dd 6) C2)) :
    S_node_Root [o, x] C (.tup [.agg ((rootV dd).map ofByte), .int .i64 (rootE dd)]) C2 := by
  refine ⟨o, x, dd, rfl, hA, ?_⟩
  rcases h with ⟨h, rfl⟩ | ⟨h, h2⟩
  · exact .inl ⟨h, by rw [rootV, rootE, if_neg h, if_neg h, zero32_zs], rfl⟩
  · exact .inr ⟨h, by rw [rootV, rootE, if_pos h, if_pos h], h2⟩
theorem RunN.Root {A C : AHeap} {own : Nat → Prop} {T : List (List UInt8)} (h : RunN A C own T) (hT : T.length ≤ 1000) {x : AVal} {dd : List D32} (hv : View C x 32 dd.length (dcells dd)) (hl : dd.length ≤ 9223372036854775807) :
    ∃ C2 T2, S_node_Root [.ptr ⟨A.length + 1, 0, 0⟩, x] C (.tup [.agg ((rootV dd).map ofByte), .int .i64 (rootE dd)]) C2 ∧ RunN A C2 own T2 ∧ T2.length ≤ T.length + 63 ∧ (∀ k, own k → C2[k]? = C[k]?) ∧ (dd.length = 64 → T2 = keepTs T (rootT dd 6)) := by
  by_cases h64 : dd.length = 64
  · obtain ⟨C2, hO, hr, _, hk⟩ := h.call (ss := rootT dd 6) (by rw [rootT_all]; omega) (fun s hs => by rw [rootT_short dd 6 s hs]; decide)
    refine ⟨C2, _, root_spec ⟨hv, hl, .inr ⟨_, _, rfl⟩⟩ (.inr ⟨h64, hO⟩), hr, ?_, hk, fun _ => rfl⟩
    have := (keepTs_len (rootT dd 6) T).2
    rw [rootT_all] at this; omega
  · exact ⟨C, T, root_spec ⟨hv, hl, .inr ⟨_, _, rfl⟩⟩ (.inl ⟨h64, rfl⟩), h, by omega, fun _ _ => rfl, fun e => absurd e h64⟩
theorem sums_view (B : AHeap) (dd : List D32) : View (B ++ [AObj.cells 0 .opn (dcells (sums64 dd))]) (.slice ⟨B.length, 0, 0⟩ 64 (.op 32)) 32 (sums64 dd).length (dcells (sums64 dd)) := by
  have hl := sums64_len dd
  rw [hl]
  refine ⟨by rw [dcells_len, hl], .inr ⟨B.length, 0, 0, _, _, _, rfl, by rw [app_get0]; rfl, fun _ => by rw [dcells_len, hl]; omega, ?_, rfl⟩⟩
  rw [List.drop_zero, List.take_of_length_le (by rw [dcells_len, hl]; exact Nat.le_refl _)]

theorem cellaretlaw17_NodeRoots.ok (args : List AVal) (H : AHeap) (r : AVal) (H' : AHeap) (h : S_cellaretlaw17_NodeRoots args H r H') : ∃ x0, args = [x0] ∧ cellaretlaw17_NodeRoots.w x0 H fun r1 H1 => Weak H r1 H1 r H' := by
  obtain ⟨x, dd, rfl, hv, hl, rfl, rfl⟩ := h
  refine ⟨_, rfl, ?_⟩
  unfold cellaretlaw17_NodeRoots.w
  refine JoinP.mk (fun e vs B => B = H' ∧ e = .normal ∧ ∃ x' ee, vs = [x'] ∧ View H' x' 32 ee.length (dcells ee) ∧ ee.length ≤ 70) ?_ ?_
  · repeat with_reducible first
    | refine vb_i (gtr64 _ _ _) ?_
    | refine vb_i (lenSl_view (by assumption)) ?_
    refine isB_c (fun h1 => ?_) (fun h1 => ?_)
    · obtain ⟨x', e1, e2, _⟩ := slice_view (l := none) (h := some (.int .i64 70)) (lo := 0) (hi := 70) hv rfl (by rw [bnd_int (by decide)]; rfl) (by decide) (by omega)
      refine vb_i e1 ?_
      rw [Nat.zero_mul, List.drop_zero, Nat.sub_zero, dcells_take] at e2
      have ht : (dd.take 70).length = 70 := by rw [List.length_take]; omega
      exact ⟨rfl, rfl, x', dd.take 70, rfl, by rw [ht]; exact e2, by omega⟩
    · exact ⟨rfl, rfl, x, dd, rfl, hv, by omega⟩
  rintro _ _ B ⟨rfl, rfl, x', ee, rfl, hv', hl'⟩
  clear hv hl dd x
  repeat with_reducible refine onE_i ?_
  try simp only [evB]
  refine cb_i _ _ ⟨x', ee, rfl, hv', by omega, rfl, rfl⟩ ?_
  have h64 := sums64_len ee
  refine cb_i _ _ (root_spec (o := .nilp) ⟨sums_view B ee, by omega, .inl rfl⟩ (.inr ⟨h64, .inl ⟨rfl, rfl⟩⟩)) ?_
  have hr1 := rootV_len (sums64 ee)
  have hE1 : rootE (sums64 ee) = 0 := by unfold rootE; rw [if_pos h64]
  rw [hE1]
  repeat with_reducible first
  | refine vb_i e_ext0 ?_
  | refine vb_i e_ext1 ?_
  | refine hb_i (e_alloc _ _) ?_
  with_reducible refine sb_i (store_new List.length_replicate (by rw [List.length_map]; exact hr1) (cells_byte _)) ?_
  have pC : B <+: (B ++ [AObj.cells 0 .opn (dcells (sums64 ee))]) ++ [AObj.cells 0 .exact ((rootV (sums64 ee)).map ofByte)] := (pre_app _ _).trans (pre_app _ _)
  have g1 : ((B ++ [AObj.cells 0 .opn (dcells (sums64 ee))]) ++ [AObj.cells 0 .exact ((rootV (sums64 ee)).map ofByte)])[(B ++ [AObj.cells 0 .opn (dcells (sums64 ee))]).length]? = some (.cells 0 .exact ((rootV (sums64 ee)).map ofByte)) := by rw [app_get0]; rfl
  generalize (B ++ [AObj.cells 0 .opn (dcells (sums64 ee))]).length = k1 at *
  generalize (B ++ [AObj.cells 0 .opn (dcells (sums64 ee))]) ++ [AObj.cells 0 .exact ((rootV (sums64 ee)).map ofByte)] = C at *
  refine cb_i _ _ ⟨rfl, rfl, rfl⟩ ?_
  obtain ⟨C2, T2, hS, r2, _, _, _⟩ := (RunN.start C).Root (by simp) (hv'.pre (pC.trans (pre_newO C))) (by omega)
  refine cb_i _ _ hS ?_
  have hr2 := rootV_len ee
  repeat with_reducible first
  | refine vb_i e_ext0 ?_
  | refine vb_i e_ext1 ?_
  | refine hb_i (e_alloc _ _) ?_
  with_reducible refine sb_i (store_new List.length_replicate (by rw [List.length_map]; exact hr2) (cells_byte _)) ?_
  have pD : C <+: C2 ++ [AObj.cells 0 .exact ((rootV ee).map ofByte)] := r2.pre.trans (pre_app _ _)
  have d1 : (C2 ++ [AObj.cells 0 .exact ((rootV ee).map ofByte)])[k1]? = some (.cells 0 .exact ((rootV (sums64 ee)).map ofByte)) := by rw [pre_get pD (lt_of_some g1)]; exact g1
  have d2 : (C2 ++ [AObj.cells 0 .exact ((rootV ee).map ofByte)])[C2.length]? = some (.cells 0 .exact ((rootV ee).map ofByte)) := by rw [app_get0]; rfl
  generalize C2.length = k2 at *
  generalize C2 ++ [AObj.cells 0 .exact ((rootV ee).map ofByte)] = D at *
  refine JoinP.mk (fun e vs E => e = .normal ∧ D <+: E) ?_ ?_
  · repeat with_reducible first
    | (refine isB_cf ?_ ?_; (· first | omega | assumption))
    | refine vb_i (neq64 _ _ _) ?_
    refine vb_i (e_loadAll d1 (by rw [List.length_map]; exact hr1)) ?_
    refine cb_i _ _ ⟨x', ee, rfl, hv'.pre (pC.trans pD), by omega, rfl, rfl⟩ ?_
    refine cb_i _ _ ⟨_, sums64 ee, rfl, sums_view D ee, h64, Nat.le_refl _, rfl, rfl⟩ ?_
    have hV : rootV (sums64 ee) = (val (sums64 ee) 6 0).1 := by unfold rootV; rw [if_pos h64]
    rw [hV]
    refine vb_i (e_neBytes (val (sums64 ee) 6 0).2 (val (sums64 ee) 6 0).2) ?_
    with_reducible refine isB_cf ?_ ?_
    · exact not_not_intro rfl
    exact ⟨rfl, pre_app _ _⟩
  · rintro _ vs E ⟨rfl, pE⟩
    have q1 : E[k1]? = some (.cells 0 .exact ((rootV (sums64 ee)).map ofByte)) := by rw [pre_get pE (lt_of_some d1)]; exact d1
    have q2 : E[k2]? = some (.cells 0 .exact ((rootV ee).map ofByte)) := by rw [pre_get pE (lt_of_some d2)]; exact d2
    have pF := (pC.trans pD).trans pE
    repeat with_reducible first
    | refine onE_i ?_
    | refine vb_i (neq64 _ _ _) ?_
    | refine vb_i (lenSl_view (by assumption)) ?_
    try simp only [evB]
    by_cases he : ee.length = 64
    · have hEE : rootE ee = 0 := by unfold rootE; rw [if_pos he]
      have hsm := sums64_full he
      rw [hsm] at q1
      rw [hEE]
      repeat with_reducible (refine isB_cf ?_ ?_; (· first | omega | assumption))
      refine cb_i _ _ ⟨rfl, rfl, rfl⟩ ?_
      repeat with_reducible first
      | refine isB_T ?_
      | (refine isB_ct ?_ ?_; (· first | omega | rfl | assumption | trivial))
      | refine vb_i (eql64 _ _ _) ?_
      refine vb_i (e_loadAll q2 (by rw [List.length_map]; exact hr2)) ?_
      refine vb_i (e_loadAll q1 (by rw [List.length_map]; exact hr2)) ?_
      refine vb_i (e_eqBytes hr2 hr2) ?_
      exact fin_bool (by simp) pF
    · have hEE : rootE ee = 6 := by unfold rootE; rw [if_neg he]
      have hVV : rootV ee = zs 32 := by unfold rootV; rw [if_neg he]
      rw [hEE]
      rw [hVV] at q2 hr2
      repeat with_reducible (refine isB_ct ?_ ?_; (· first | omega | rfl | assumption | trivial))
      refine cb_i _ _ ⟨rfl, rfl, rfl⟩ ?_
      repeat with_reducible refine isB_T ?_
      refine vb_i (e_loadAll q2 (by rw [List.length_map]; exact hr2)) ?_
      with_reducible refine vb_i build_zs ?_
      refine vb_i (e_eqBytes hr2 hr2) ?_
      repeat with_reducible first
      | (refine isB_ct ?_ ?_; (· first | omega | rfl | assumption | trivial))
      | refine vb_i (eql64 _ _ _) ?_
      exact fin_bool rfl pF

/-- Equal roots come of equal leaves, where no two unlike texts have one sum. -/
theorem val_inj {T : List (List UInt8)} (hT : pairs T (sums T) T.length = none) {x y : List D32} (hx : ∀ s ∈ rootT x 6, s ∈ T) (hy : ∀ s ∈ rootT y 6, s ∈ T) :
    ∀ k, k ≤ 6 → ∀ j, j < wd k → val x k j = val y k j → ∀ i, i < 2 ^ k → x.getD (j * 2 ^ k + i) d0 = y.getD (j * 2 ^ k + i) d0
  | 0, _, j, _, h, i, hi => by
    have : i = 0 := by simpa using hi
    subst this
    simpa [val] using h
  | k + 1, hk, j, hj, h, i, hi => by
    have mem : ∀ (z : List D32) (k : Nat), k + 1 ≤ 6 → ∀ j, j < wd (k + 1) → nodeT (val z k (2 * j)) (val z k (2 * j + 1)) ∈ rootT z 6 := by
      intro z k hk j hj
      have up : ∀ m, k + 1 + m ≤ 6 → nodeT (val z k (2 * j)) (val z k (2 * j + 1)) ∈ rootT z (k + 1 + m) := by
        intro m
        induction m with
        | zero =>
          intro _
          simp only [Nat.add_zero, rootT, List.mem_append]
          exact .inr (List.mem_map.2 ⟨j, List.mem_range.2 hj, rfl⟩)
        | succ m ih =>
          intro hm
          rw [show k + 1 + (m + 1) = (k + 1 + m) + 1 by omega]
          simp only [rootT, List.mem_append]
          exact .inl (ih (by omega))
      have := up (6 - (k + 1)) (by omega)
      rwa [show k + 1 + (6 - (k + 1)) = 6 by omega] at this
    have hs := wd_step (k := k) (by omega)
    have hsum : sum (nodeT (val x k (2 * j)) (val x k (2 * j + 1))) = sum (nodeT (val y k (2 * j)) (val y k (2 * j + 1))) := congrArg Subtype.val h
    have hte : nodeT (val x k (2 * j)) (val x k (2 * j + 1)) = nodeT (val y k (2 * j)) (val y k (2 * j + 1)) := Classical.byContradiction fun hne =>
      no_clash hT (hx _ (mem x k hk j hj)) (hy _ (mem y k hk j hj)) hne hsum
    simp only [nodeT, List.cons.injEq, true_and] at hte
    have ha := List.append_inj hte (by rw [(val x k (2 * j)).2, (val y k (2 * j)).2])
    have e1 : val x k (2 * j) = val y k (2 * j) := Subtype.ext ha.1
    have e2 : val x k (2 * j + 1) = val y k (2 * j + 1) := Subtype.ext ha.2
    have hp : 2 ^ (k + 1) = 2 ^ k + 2 ^ k := by rw [Nat.pow_succ]; omega
    by_cases hi2 : i < 2 ^ k
    · have := val_inj hT hx hy k (by omega) (2 * j) (by omega) e1 i hi2
      have e : j * 2 ^ (k + 1) = 2 * j * 2 ^ k := by rw [hp, Nat.mul_add]; rw [Nat.mul_assoc]; omega
      rw [e]; exact this
    · have := val_inj hT hx hy k (by omega) (2 * j + 1) (by omega) e2 (i - 2 ^ k) (by omega)
      have e : j * 2 ^ (k + 1) + i = (2 * j + 1) * 2 ^ k + (i - 2 ^ k) := by
        rw [hp, Nat.mul_add, Nat.add_mul, Nat.mul_assoc, Nat.one_mul]; omega
      rw [e]; exact this

theorem cellaretlaw17_NodeApart.ok (args : List AVal) (H : AHeap) (r : AVal) (H' : AHeap) (h : S_cellaretlaw17_NodeApart args H r H') : ∃ x0 x1, args = [x0, x1] ∧ cellaretlaw17_NodeApart.w x0 x1 H fun r1 H1 => Weak H r1 H1 r H' := by
  obtain ⟨x, y, dd, ee, rfl, hv, hl, hw, hm, rfl, rfl⟩ := h
  refine ⟨_, _, rfl, ?_⟩
  unfold cellaretlaw17_NodeApart.w
  have hX64 := sums64_len dd
  have hY64 := sums64_len ee
  have hEX : rootE (sums64 dd) = 0 := by unfold rootE; rw [if_pos hX64]
  have hEY : rootE (sums64 ee) = 0 := by unfold rootE; rw [if_pos hY64]
  have hVX : rootV (sums64 dd) = (val (sums64 dd) 6 0).1 := by unfold rootV; rw [if_pos hX64]
  have hVY : rootV (sums64 ee) = (val (sums64 ee) 6 0).1 := by unfold rootV; rw [if_pos hY64]
  have hlX := rootV_len (sums64 dd)
  have hlY := rootV_len (sums64 ee)
  refine cb_i _ _ ⟨rfl, rfl, rfl⟩ ?_
  have r0 := RunN.start H'
  refine cb_i _ _ ⟨x, dd, rfl, hv.pre r0.pre, hl, rfl, rfl⟩ ?_
  have r1 := r0.push (.cells 0 .opn (dcells (sums64 dd)))
  refine cb_i _ _ ⟨y, ee, rfl, hw.pre r1.pre, hm, rfl, rfl⟩ ?_
  have r2 := r1.push (.cells 0 .opn (dcells (sums64 ee)))
  have vX := (sums_view (newO H') dd).pre (pre_app _ [AObj.cells 0 .opn (dcells (sums64 ee))])
  have vY := sums_view (newO H' ++ [AObj.cells 0 .opn (dcells (sums64 dd))]) ee
  clear r0 r1
  generalize hN : (newO H' ++ [AObj.cells 0 .opn (dcells (sums64 dd))]).length = kY at *
  generalize hN2 : (newO H').length = kX at *
  generalize newO H' ++ [AObj.cells 0 .opn (dcells (sums64 dd))] ++ [AObj.cells 0 .opn (dcells (sums64 ee))] = B at *
  generalize hXX : sums64 dd = X at *
  generalize hYY : sums64 ee = Y at *
  obtain ⟨C2, T2, hS, r3, hT2, hk3, hTT2⟩ := r2.Root (by simp) vX (by omega)
  have hTT2 := hTT2 hX64
  refine cb_i _ _ hS ?_
  rw [hEX]
  repeat with_reducible first
  | refine vb_i e_ext0 ?_
  | refine vb_i e_ext1 ?_
  | refine hb_i (e_alloc _ _) ?_
  with_reducible refine sb_i (store_new List.length_replicate (by rw [List.length_map]; exact hlX) (cells_byte _)) ?_
  have r4 := r3.push (.cells 0 .exact ((rootV X).map ofByte))
  have a1 : (C2 ++ [AObj.cells 0 .exact ((rootV X).map ofByte)])[C2.length]? = some (.cells 0 .exact ((rootV X).map ofByte)) := by rw [app_get0]; rfl
  have vX2 := (View.at vX fun k hk _ => by simp only [slId, Option.some.injEq] at hk; subst hk; exact hk3 _ (.inl (.inr rfl))).pre (pre_app C2 [AObj.cells 0 .exact ((rootV X).map ofByte)])
  have vY2 := (View.at vY fun k hk _ => by simp only [slId, Option.some.injEq] at hk; subst hk; exact hk3 _ (.inr rfl)).pre (pre_app C2 [AObj.cells 0 .exact ((rootV X).map ofByte)])
  simp only [List.length_nil] at hT2
  obtain ⟨C3, T3, hS3, r5, hT3, hk5, hTT3⟩ := r4.Root (by omega) vY2 (by omega)
  have hTT3 := hTT3 hY64
  refine cb_i _ _ hS3 ?_
  rw [hEY]
  repeat with_reducible first
  | refine vb_i e_ext0 ?_
  | refine vb_i e_ext1 ?_
  | refine hb_i (e_alloc _ _) ?_
  with_reducible refine sb_i (store_new List.length_replicate (by rw [List.length_map]; exact hlY) (cells_byte _)) ?_
  have r6 := r5.push (.cells 0 .exact ((rootV Y).map ofByte))
  have a2 : (C3 ++ [AObj.cells 0 .exact ((rootV Y).map ofByte)])[C3.length]? = some (.cells 0 .exact ((rootV Y).map ofByte)) := by rw [app_get0]; rfl
  have a3 := (hk5 _ (.inr rfl)).trans a1
  have a4 : (C3 ++ [AObj.cells 0 .exact ((rootV Y).map ofByte)])[C2.length]? = some (.cells 0 .exact ((rootV X).map ofByte)) := by rw [pre_get (pre_app _ _) (lt_of_some a3)]; exact a3
  have vX3 := (View.at vX2 fun k hk _ => by simp only [slId, Option.some.injEq] at hk; subst hk; exact hk5 _ (.inl (.inl (.inr rfl)))).pre (pre_app C3 [AObj.cells 0 .exact ((rootV Y).map ofByte)])
  have vY3 := (View.at vY2 fun k hk _ => by simp only [slId, Option.some.injEq] at hk; subst hk; exact hk5 _ (.inl (.inr rfl))).pre (pre_app C3 [AObj.cells 0 .exact ((rootV Y).map ofByte)])
  have pD := r6.pre
  obtain ⟨mv, lv, rep⟩ := r6.rep
  clear hS hS3 hk3 hk5 r2 r3 r4 r5 r6 vX vY vX2 vY2 a1 a3
  generalize C2.length = k1 at *
  generalize C3.length = k2 at *
  generalize C3 ++ [AObj.cells 0 .exact ((rootV Y).map ofByte)] = D at *
  refine JoinP.mk (fun e vs E => e = .normal ∧ E = D) ?_ ?_
  · repeat with_reducible first
    | (refine isB_cf ?_ ?_; (· first | omega | assumption))
    | refine vb_i (neq64 _ _ _) ?_
    exact ⟨rfl, rfl⟩
  rintro _ vs E ⟨rfl, rfl⟩
  repeat with_reducible refine onE_i ?_
  refine LoopP.ruleG (α := Nat × Bool) (fun k => [.bool k.2, .int .i64 k.1]) (fun k F => k.1 ≤ 64 ∧ F = E ∧ (k.2 = true ↔ ∀ j, j < k.1 → X.getD j d0 = Y.getD j d0)) (fun k => 64 - k.1) (0, true) rfl
    ⟨Nat.zero_le _, rfl, fun _ _ h => absurd h (Nat.not_lt_zero _), fun _ => rfl⟩ ?_
  rintro ⟨i, b⟩ F Kn ⟨hi, rfl, hb⟩ hn
  simp only at hi hb
  unfold cellaretlaw17_NodeApart.L9 cellaretlaw17_NodeApart.L9.b
  try simp only [evB]
  by_cases hi4 : i < 64
  · cases b with
    | true =>
      obtain ⟨q, q1, q2⟩ := digs_at vX3 (show i < X.length by omega) (List.prefix_refl _)
      obtain ⟨u, u1, u2⟩ := digs_at vY3 (show i < Y.length by omega) (List.prefix_refl _)
      repeat with_reducible first
      | refine isB_T ?_
      | (refine isB_ct ?_ ?_; (· first | omega | rfl | assumption | trivial))
      | refine vb_i (lss64 _ _ _) ?_
      refine vb_i q1 (vb_i q2 (vb_i u1 (vb_i u2 ?_)))
      refine vb_i (e_eqBytes (X.getD i d0).2 (Y.getD i d0).2) ?_
      repeat with_reducible (refine vb_i (add64 ?_ ?_) ?_; (· omega); (· omega))
      refine hn (i + 1, decide ((X.getD i d0).1 = (Y.getD i d0).1)) _ ⟨by simp only; omega, rfl, ?_⟩ (by simp only; omega)
      simp only [decide_eq_true_eq]
      constructor
      · intro h j hj
        by_cases e : j = i
        · subst e; exact Subtype.ext h
        · exact hb.1 rfl j (by omega)
      · intro h; exact congrArg Subtype.val (h i (by omega))
    | false =>
      repeat with_reducible first
      | refine isB_F ?_
      | (refine isB_ct ?_ ?_; (· first | omega | rfl | assumption | trivial))
      | refine vb_i (lss64 _ _ _) ?_
      | (refine vb_i (add64 ?_ ?_) ?_; (· omega); (· omega))
      refine hn (i + 1, false) _ ⟨by simp only; omega, rfl, ?_⟩ (by simp only; omega)
      constructor
      · intro h; cases h
      · intro h
        have := hb.2 fun j hj => h j (by omega)
        cases this
  · have hie : i = 64 := by omega
    subst hie
    repeat with_reducible first
    | (refine isB_cf ?_ ?_; (· first | omega | assumption))
    | refine onE_i ?_
    | refine vb_i (lss64 _ _ _) ?_
    try simp only [evB]
    refine JoinP.mk (fun e vs G => G = F ∧ ((e = .ret ∧ vs = [.bool true]) ∨ (e = .normal ∧ b = false ∧ rootV X = rootV Y))) ?_ ?_
    · cases b with
      | true =>
        have hXY : X = Y := by
          apply List.ext_getElem?
          intro j
          by_cases hj : j < 64
          · have := hb.1 rfl j hj
            rw [List.getD_eq_getElem?_getD, List.getD_eq_getElem?_getD, List.getElem?_eq_getElem (by omega), List.getElem?_eq_getElem (by omega)] at this
            rw [List.getElem?_eq_getElem (by omega), List.getElem?_eq_getElem (by omega)]
            exact congrArg some this
          · rw [List.getElem?_eq_none (by omega), List.getElem?_eq_none (by omega)]
        rw [← hXY] at a2
        repeat with_reducible refine isB_T ?_
        refine cb_i _ _ ⟨rfl, rfl, rfl⟩ ?_
        repeat with_reducible first
        | refine isB_T ?_
        | refine vb_i (e_not _) ?_
        refine vb_i (e_loadAll a4 (by rw [List.length_map]; exact hlX)) ?_
        refine vb_i (e_loadAll a2 (by rw [List.length_map]; exact hlX)) ?_
        refine vb_i (e_eqBytes hlX hlX) ?_
        exact ⟨rfl, .inl ⟨rfl, by simp⟩⟩
      | false =>
        repeat with_reducible refine isB_F ?_
        refine vb_i (e_loadAll a4 (by rw [List.length_map]; exact hlX)) ?_
        refine vb_i (e_loadAll a2 (by rw [List.length_map]; exact hlY)) ?_
        refine vb_i (e_neBytes hlX hlY) ?_
        refine isB_c (fun h1 => ?_) (fun h1 => ?_)
        · refine cb_i _ _ ⟨rfl, rfl, rfl⟩ ?_
          repeat with_reducible first
          | refine isB_T ?_
          | refine vb_i (e_not _) ?_
          exact ⟨rfl, .inl ⟨rfl, rfl⟩⟩
        · exact ⟨rfl, .inr ⟨rfl, rfl, Classical.not_not.1 h1⟩⟩
    · rintro _ vs G ⟨rfl, ⟨rfl, rfl⟩ | ⟨rfl, rfl, hVV⟩⟩
      · repeat with_reducible first
        | refine onE_i ?_
        | (refine onE_s ?_ ?_; (· decide))
        try simp only [evB]
        exact fin_bool rfl pD
      · repeat with_reducible refine onE_i ?_
        refine cb_i _ _ ⟨_, rfl, rfl, .inr ⟨_, _, _, _, _, _, rfl, rep, by omega, rfl⟩⟩ ?_
        have hmin : min T3.length (sums T3).length = T3.length := by rw [sums_len]; exact Nat.min_self _
        have hne : pairs T3 (sums T3) T3.length ≠ none := fun hp => by
          have hv0 : val X 6 0 = val Y 6 0 := Subtype.ext (by rw [← hVX, ← hVY]; exact hVV)
          have m2 := keepTs_mem (rootT X 6) []
          have m3 := keepTs_mem (rootT Y 6) T2
          have := val_inj hp (fun s hs => by rw [hTT3]; exact (m3 s).2 (.inl (by rw [hTT2]; exact (m2 s).2 (.inr hs)))) (fun s hs => by rw [hTT3]; exact (m3 s).2 (.inr hs)) 6 (Nat.le_refl _) 0 (by rw [wd_six]; decide) hv0
          have hbb := hb.2 fun j hj => by have := this j (by simpa using hj); simpa using this
          cases hbb
        cases hp : pairs T3 (sums T3) T3.length with
        | none => exact absurd hp hne
        | some ij =>
          obtain ⟨a, c⟩ := ij
          have hcr : collideR T3 = [.str (T3.getD a []), .str (T3.getD c []), .bool true] := by simp only [collideR, hmin, hp]
          rw [hcr]
          repeat with_reducible first
          | refine vb_i e_ext0 ?_
          | refine vb_i e_ext1 ?_
          | refine vb_i e_ext2 ?_
          refine cb_i _ _ ⟨rfl, rfl, rfl⟩ ?_
          repeat with_reducible refine isB_T ?_
          exact fin_bool rfl pD
end Go.Sh

/- Functions that leave what was there as it was. -/
namespace Go.Sh
open Go Go.Abs

theorem fn_none {P : Program} {f : FuncId} (h : ∀ (args : Array Value) (w : World), (callFunc f args).run P w = .ok (.enter f args) w) : FnOk P f S_root_none := ⟨h, fun _ _ _ _ h => h.elim⟩
theorem root_quiet (m : Nat) {args : List AVal} {H : AHeap} {r : AVal} {H' : AHeap} (h : S_root_at m args H r H') : H <+: H' := by
  unfold S_root_at at h; grind [pre_app, pre_of_eq, newO]
theorem cellaretlaw17_Sums.quiet {args : List AVal} {H : AHeap} {r : AVal} {H' : AHeap} (h : S_cellaretlaw17_Sums args H r H') : H <+: H' := by
  obtain ⟨_, _, _, _, _, _, rfl⟩ := h; exact pre_app _ _
theorem cellaretlaw17_NodeRoots.quiet {args : List AVal} {H : AHeap} {r : AVal} {H' : AHeap} (h : S_cellaretlaw17_NodeRoots args H r H') : H <+: H' := by
  unfold S_cellaretlaw17_NodeRoots at h; grind [pre_app, pre_of_eq, newO]
theorem cellaretlaw17_NodeApart.quiet {args : List AVal} {H : AHeap} {r : AVal} {H' : AHeap} (h : S_cellaretlaw17_NodeApart args H r H') : H <+: H' := by
  unfold S_cellaretlaw17_NodeApart at h; grind [pre_app, pre_of_eq, newO]
end Go.Sh
