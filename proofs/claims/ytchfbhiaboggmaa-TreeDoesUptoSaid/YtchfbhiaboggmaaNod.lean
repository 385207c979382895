/- One text of these: Nod0, NodW1, NodP1, NodP2, NodP3, NodQ. -/
import Derived.Test.YtchfbhiaboggmaaCol

/- Roots over leaves. -/
namespace Go.Sh
open Go Go.Abs

def nodeT (a b : D32) : List UInt8 := 1 :: (a.1 ++ b.1)
def nodeD (a b : D32) : D32 := ⟨sum (nodeT a b), sum_len _⟩
theorem nodeT_len (a b : D32) : (nodeT a b).length = 65 := by simp [nodeT, a.2, b.2]
/-- The j-th sum, k levels above the leaves. -/
def val (dd : List D32) : Nat → Nat → D32
  | 0, j => dd.getD j d0
  | k + 1, j => nodeD (val dd k (2 * j)) (val dd k (2 * j + 1))
/-- How wide a level is. -/
def wd (k : Nat) : Nat := 2 ^ (6 - k)
theorem wd_step {k : Nat} (h : k < 6) : wd k = 2 * wd (k + 1) := by
  unfold wd
  rw [show 6 - k = (6 - (k + 1)) + 1 by omega, Nat.pow_succ, Nat.mul_comm]
theorem wd_pos (k : Nat) : 0 < wd k := Nat.pow_pos (by decide)
theorem wd_le (k : Nat) : wd k ≤ 64 := by
  have := Nat.pow_le_pow_right (n := 2) (by decide) (show 6 - k ≤ 6 by omega)
  exact this
theorem wd_six : wd 6 = 1 := rfl
def lvT (dd : List D32) (k n : Nat) : List (List UInt8) := (List.range n).map fun j => nodeT (val dd k (2 * j)) (val dd k (2 * j + 1))
theorem lvT_len (dd : List D32) (k n : Nat) : (lvT dd k n).length = n := by simp [lvT]
theorem lvT_step (dd : List D32) (k n : Nat) : lvT dd k (n + 1) = lvT dd k n ++ [nodeT (val dd k (2 * n)) (val dd k (2 * n + 1))] := by simp [lvT, List.range_succ]
/-- What is summed up to a level, in order. -/
def rootT (dd : List D32) : Nat → List (List UInt8)
  | 0 => []
  | k + 1 => rootT dd k ++ lvT dd k (wd (k + 1))
theorem rootT_len (dd : List D32) : ∀ k, k ≤ 6 → (rootT dd k).length + wd k = 64
  | 0, _ => rfl
  | k + 1, h => by
    have := rootT_len dd k (by omega)
    have := wd_step (k := k) (by omega)
    simp only [rootT, List.length_append, lvT_len]; omega
theorem rootT_all (dd : List D32) : (rootT dd 6).length = 63 := by have := rootT_len dd 6 (Nat.le_refl _); rw [wd_six] at this; omega

structure RtArgs (H : AHeap) (o x : AVal) (dd : List D32) : Prop where
  v : View H x 32 dd.length (dcells dd)
  hl : dd.length ≤ 9223372036854775807
  o : o = .nilp ∨ ∃ i v, o = .ptr ⟨i, v, 0⟩
def S_node_Root_1 : Abs.Spec := fun args H r H' => ∃ (o : AVal) (a b : D32) (j : Nat), args = [.agg (a.1.map ofByte), .agg (b.1.map ofByte), .ptr ⟨j, 0, 0⟩] ∧ H[j]? = some (.cells 0 .exact [o]) ∧ r = .agg ((nodeD a b).1.map ofByte) ∧ Osums H o [nodeT a b] H'
def S_node_Root : Abs.Spec := fun args H r H' => ∃ (o x : AVal) (dd : List D32), args = [o, x] ∧ RtArgs H o x dd ∧
  ((dd.length ≠ 64 ∧ r = .tup [zero32, .int .i64 6] ∧ H' = H) ∨ (dd.length = 64 ∧ r = .tup [.agg ((val dd 6 0).1.map ofByte), .int .i64 0] ∧ Osums H o (rootT dd 6) H'))

def bareD : D32 := ⟨sum (0 :: zs 64), sum_len _⟩
def sums64 (dd : List D32) : List D32 := (List.range 64).map fun i => if i < dd.length then dd.getD i d0 else bareD
theorem sums64_len (dd : List D32) : (sums64 dd).length = 64 := by simp [sums64]
def S_cellaretlaw17_Sums : Abs.Spec := fun args H r H' => ∃ x dd, args = [x] ∧ View H x 32 dd.length (dcells dd) ∧ dd.length ≤ 9223372036854775807 ∧ r = .slice ⟨H.length, 0, 0⟩ 64 (.op 32) ∧ H' = H ++ [.cells 0 .opn (dcells (sums64 dd))]
theorem dcells_len (bl : List D32) : (dcells bl).length = bl.length * 32 := by
  induction bl with
  | nil => rfl
  | cons d bl ih => simp only [dcells, List.map_cons, List.flatten_cons, List.length_append, dcell_len] at *; rw [ih, List.length_cons]; omega
/-- One sum among many is read, is written. -/
theorem dig_load {C : AHeap} {q v : Nat} {kd : Kd} {bl : List D32} (h : C[q]? = some (.cells v kd (dcells bl))) {k : Nat} (hk : k < bl.length) : aLoad C true 32 (.ptr ⟨q, v, 0 + k * 32⟩) = some (.agg ((bl.getD k d0).1.map ofByte)) := by
  have hl := dcells_len bl
  have hkk : k * 32 + 32 ≤ bl.length * 32 := by omega
  rw [Nat.zero_add, e_loadAgg h (by omega)]
  have hg : bl[k]? = some (bl.getD k d0) := by simp [List.getD_eq_getElem?_getD, List.getElem?_eq_getElem hk]
  have := flat_drop (o := 0) (n := 32) dcell_len hg (by decide)
  simp only [Nat.add_zero, List.drop_zero] at this
  simp only [dcells]
  rw [this, List.take_of_length_le (by rw [dcell_len]; exact Nat.le_refl _)]
  rfl
theorem splice_mid {α : Type} (A B C xs : List α) (h : B.length = xs.length) : splice (A ++ (B ++ C)) A.length xs = A ++ (xs ++ C) := by
  unfold splice
  rw [List.take_left, ← h, ← List.drop_drop, List.drop_left, List.drop_left, List.append_assoc]
theorem dcells_app (a b : List D32) : dcells (a ++ b) = dcells a ++ dcells b := by simp [dcells]
theorem splice_d {bl : List D32} {k : Nat} (hk : k < bl.length) (d : D32) : splice (dcells bl) (k * 32) (dcell d) = dcells (bl.set k d) := by
  have e1 : bl = bl.take k ++ (bl[k] :: bl.drop (k + 1)) := by rw [← List.drop_eq_getElem_cons hk, List.take_append_drop]
  have e2 : bl.set k d = bl.take k ++ (d :: bl.drop (k + 1)) := by rw [List.set_eq_take_append_cons_drop, if_pos hk]
  have c : ∀ (x : D32) (l : List D32), dcells (x :: l) = dcell x ++ dcells l := fun _ _ => rfl
  have hl : (dcells (bl.take k)).length = k * 32 := by rw [dcells_len, List.length_take, Nat.min_eq_left (Nat.le_of_lt hk)]
  rw [e2, dcells_app, c, ← hl]
  conv => lhs; arg 1; rw [e1, dcells_app, c]
  exact splice_mid _ _ _ _ (by rw [dcell_len, dcell_len])
theorem dig_store {C : AHeap} {q v : Nat} {bl : List D32} {kd : Kd} (h : C[q]? = some (.cells v kd (dcells bl))) (hkd : kd ≠ .ro) {k : Nat} (hk : k < bl.length) (d : D32) : aStore C 32 (.ptr ⟨q, v, 0 + k * 32⟩) (.agg (d.1.map ofByte)) = some (C.set q (.cells v kd (dcells (bl.set k d)))) := by
  have hl := dcells_len bl
  have hkk : k * 32 + 32 ≤ bl.length * 32 := by omega
  rw [Nat.zero_add, e_store (x := .agg (d.1.map ofByte)) h hkd (by simp [AVal.cells, d.2]) (by omega) (cells_byte _)]
  have := splice_d hk d
  rw [show (AVal.agg (d.1.map ofByte)).cells = dcell d from rfl, this]
end Go.Sh

/- What Go functions come to over abstract values, printed by a program (wtext.py). -/
namespace Go.Sh
open Go Go.Abs

def node_Root_1.w (x0 : AVal) (x1 : AVal) (x2 : AVal) (H : AHeap) (K : AVal → AHeap → Prop) : Prop :=
 hb (aBox H x0) fun v1 H2 =>
 hb (aBox H2 x1) fun v3 H4 =>
 hb (aAlloc H4 (List.replicate 32 (.int .u8 0))) fun v5 H6 =>
 JoinP (fun Kj7 => (vb (aLoad H6 false 1 x2) fun v8 =>
 vb (aSliceArr 32 1 v1 none none none) fun v9 =>
 vb (aBytes2Str H6 v9) fun v10 =>
 vb (aSliceArr 32 1 v3 none none none) fun v11 =>
 vb (aBytes2Str H6 v11) fun v12 =>
 vb (aBin .add v10 v12) fun v13 =>
 cb (S_node_Node [v8, v13] H6) fun v14 H15 =>
 vb (aExtract v14 0) fun v16 =>
 vb (aExtract v14 1) fun v17 =>
 hb (aAlloc H15 (List.replicate 32 (.int .u8 0))) fun v18 H19 =>
 sb (aStore H19 32 v18 v16) fun H20 =>
 Kj7 .normal [v18] H20) ∧
 (vb (aLoad H6 false 1 x2) fun v21 =>
 vb (aSliceArr 32 1 v1 none none none) fun v22 =>
 vb (aBytes2Str H6 v22) fun v23 =>
 vb (aSliceArr 32 1 v3 none none none) fun v24 =>
 vb (aBytes2Str H6 v24) fun v25 =>
 vb (aBin .add v23 v25) fun v26 =>
 hb (aAlloc H6 (List.replicate 32 (.int .u8 0))) fun v27 H28 =>
 cb (S_node_Node [v21, v26] H28) fun v29 H30 =>
 vb (aExtract v29 0) fun v31 =>
 vb (aExtract v29 1) fun v32 =>
 sb (aStore H30 32 v27 v31) fun H33 =>
 Kj7 .normal [v27] H33))
 (fun e34 vs35 H36 =>
 onE e34 .normal
 (vb (aLoad H36 true 32 (vs35.getD 0 .undef)) fun v37 =>
 sb (aStore H36 32 v5 v37) fun H38 =>
 fin .ret [.c true 32 (v5)] H38 K)
 (False))

def node_Root.L7.b (v19 : AVal) (x7_5 : AVal) (v1 : AVal) (x22_7 : AVal) (H20 : AHeap) (Kn21 : List AVal → AHeap → Prop) (Ke22 : AExit → List AVal → AHeap → Prop) : Prop :=
 vb (aBin .lss x22_7 v19) fun v23 =>
 isB v23 fun b24 => cond b24
 (vb (aBin .mul (.int .i64 2) x22_7) fun v25 =>
 vb (aIndexAddr 32 x7_5 v25) fun v26 =>
 vb (aLoad H20 true 32 v26) fun v27 =>
 vb (aBin .mul (.int .i64 2) x22_7) fun v28 =>
 vb (aBin .add v28 (.int .i64 1)) fun v29 =>
 vb (aIndexAddr 32 x7_5 v29) fun v30 =>
 vb (aLoad H20 true 32 v30) fun v31 =>
 cb (S_node_Root_1 [v27, v31, v1] H20) fun v32 H33 =>
 vb (aIndexAddr 32 x7_5 x22_7) fun v34 =>
 sb (aStore H33 32 v34 v32) fun H35 =>
 vb (aBin .add x22_7 (.int .i64 1)) fun v36 =>
 Kn21 [v36] H35)
 (Ke22 (.exit 2) [] H20)

def node_Root.L7 (v19 : AVal) (x7_5 : AVal) (v1 : AVal) : Body := fun vs H Kn Ke => node_Root.L7.b v19 x7_5 v1 (vs.getD 0 .undef) H Kn Ke

def node_Root.L5.b (v1 : AVal) (x7_5 : AVal) (H12 : AHeap) (Kn13 : List AVal → AHeap → Prop) (Ke14 : AExit → List AVal → AHeap → Prop) : Prop :=
 vb (lenSl x7_5) fun v15 =>
 vb (aBin .gtr v15 (.int .i64 1)) fun v16 =>
 isB v16 fun b17 => cond b17
 (vb (lenSl x7_5) fun v18 =>
 vb (aBin .quo v18 (.int .i64 2)) fun v19 =>
 LoopP (node_Root.L7 v19 x7_5 v1) [.int .i64 0] H12 fun e37 vs38 H39 =>
 onE e37 (.exit 2)
 (vb (lenSl x7_5) fun v40 =>
 vb (aBin .quo v40 (.int .i64 2)) fun v41 =>
 vb (aSlice H39 32 x7_5 none (some v41) none) fun v42 =>
 Kn13 [v42] H39)
 (False))
 (Ke14 (.exit 0) [x7_5] H12)

def node_Root.L5 (v1 : AVal) : Body := fun vs H Kn Ke => node_Root.L5.b v1 (vs.getD 0 .undef) H Kn Ke

def node_Root.w (x0 : AVal) (x1 : AVal) (H : AHeap) (K : AVal → AHeap → Prop) : Prop :=
 hb (aBox H x0) fun v1 H2 =>
 hb (aAlloc H2 (List.replicate 32 (.int .u8 0))) fun v3 H4 =>
 vb (lenSl x1) fun v5 =>
 vb (aBin .neq v5 (.int .i64 64)) fun v6 =>
 isB v6 fun b7 => cond b7
 (vb (aBuild (List.replicate 32 (.int .u8 0)) (fun k => some (k * 1, 1)) []) fun v8 =>
 sb (aStore H4 32 v3 v8) fun H9 =>
 fin .ret [.c true 32 (v3), .v (.int .i64 6)] H9 K)
 (hb (aAppendS H4 32 32 .nils x1) fun v10 H11 =>
 LoopP (node_Root.L5 v1) [v10] H11 fun e43 vs44 H45 =>
 onE e43 (.exit 0)
 (vb (aIndexAddr 32 (vs44.getD 0 .undef) (.int .i64 0)) fun v46 =>
 vb (aLoad H45 true 32 v46) fun v47 =>
 sb (aStore H45 32 v3 v47) fun H48 =>
 fin .ret [.c true 32 (v3), .v (.int .i64 0)] H48 K)
 (False))

def cellaretlaw17_Sums.L3.b (x0 : AVal) (x3_3 : AVal) (x4_3 : AVal) (H1 : AHeap) (Kn2 : List AVal → AHeap → Prop) (Ke3 : AExit → List AVal → AHeap → Prop) : Prop :=
 vb (aBin .lss x4_3 (.int .i64 64)) fun v4 =>
 isB v4 fun b5 => cond b5
 (vb (lenSl x0) fun v6 =>
 vb (aBin .lss x4_3 v6) fun v7 =>
 isB v7 fun b8 => cond b8
 (vb (aIndexAddr 32 x0 x4_3) fun v9 =>
 vb (aLoad H1 true 32 v9) fun v10 =>
 hb (aBuildSlice H1 32 (List.replicate 32 (.int .u8 0)) 1 [(0, v10)]) fun v11 H12 =>
 hb (aAppendS H12 32 32 x3_3 v11) fun v13 H14 =>
 vb (aBin .add x4_3 (.int .i64 1)) fun v15 =>
 Kn2 [v13, v15] H14)
 (cb (S_cellaretref01_Zeros [.int .i64 64] H1) fun v16 H17 =>
 vb (aBin .add (.str [0]) v16) fun v18 =>
 cb (S_sha_Sum [v18] H17) fun v19 H20 =>
 hb (aBuildSlice H20 32 (List.replicate 32 (.int .u8 0)) 1 [(0, v19)]) fun v21 H22 =>
 hb (aAppendS H22 32 32 x3_3 v21) fun v23 H24 =>
 vb (aBin .add x4_3 (.int .i64 1)) fun v25 =>
 Kn2 [v23, v25] H24))
 (Ke3 (.exit 0) [x3_3] H1)

def cellaretlaw17_Sums.L3 (x0 : AVal) : Body := fun vs H Kn Ke => cellaretlaw17_Sums.L3.b x0 (vs.getD 0 .undef) (vs.getD 1 .undef) H Kn Ke

def cellaretlaw17_Sums.w (x0 : AVal) (H : AHeap) (K : AVal → AHeap → Prop) : Prop :=
 LoopP (cellaretlaw17_Sums.L3 x0) [.nils, .int .i64 0] H fun e26 vs27 H28 =>
 onE e26 (.exit 0)
 (fin .ret [.v (vs27.getD 0 .undef)] H28 K)
 (False)

end Go.Sh

/- Roots over leaves: the program's. -/
namespace Go.Sh
open Go Go.Abs

theorem node_Root_1.ok (args : List AVal) (H : AHeap) (r : AVal) (H' : AHeap) (h : S_node_Root_1 args H r H') : ∃ x0 x1 x2, args = [x0, x1, x2] ∧ node_Root_1.w x0 x1 x2 H fun r1 H1 => Weak H r1 H1 r H' := by
  obtain ⟨o, a, b, j, rfl, hj, rfl, h⟩ := h
  refine ⟨_, _, _, rfl, ?_⟩
  unfold node_Root_1.w
  have hcl : ∀ l : List UInt8, (AVal.agg (l.map ofByte)).cells = l.map ofByte := fun _ => rfl
  have hsl := sum_len (nodeT a b)
  have hab : (a.1 ++ b.1).length = 64 := by simp [a.2, b.2]
  refine hb_i (e_box rfl) ?_
  rw [hcl]
  refine hb_i (e_box rfl) ?_
  rw [hcl]
  have pA : H <+: (H ++ [AObj.cells 0 .exact (a.1.map ofByte)]) ++ [AObj.cells 0 .exact (b.1.map ofByte)] := (pre_app _ _).trans (pre_app _ _)
  have g1 : ((H ++ [AObj.cells 0 .exact (a.1.map ofByte)]) ++ [AObj.cells 0 .exact (b.1.map ofByte)])[H.length]? = some (.cells 0 .exact (a.1.map ofByte)) := by rw [pre_get (pre_app _ _) (by simp), app_get0]; rfl
  have g2 : ((H ++ [AObj.cells 0 .exact (a.1.map ofByte)]) ++ [AObj.cells 0 .exact (b.1.map ofByte)])[(H ++ [AObj.cells 0 .exact (a.1.map ofByte)]).length]? = some (.cells 0 .exact (b.1.map ofByte)) := by rw [app_get0]; rfl
  have r0 := Run.push (Run.push (Run.start h) [AObj.cells 0 .exact (a.1.map ofByte)]) [AObj.cells 0 .exact (b.1.map ofByte)]
  generalize hq2 : (H ++ [AObj.cells 0 .exact (a.1.map ofByte)]).length = q2 at *
  generalize hA : (H ++ [AObj.cells 0 .exact (a.1.map ofByte)]) ++ [AObj.cells 0 .exact (b.1.map ofByte)] = A at *
  repeat with_reducible refine hb_i (e_alloc _ _) ?_
  have r1 := (Run.push r0 [AObj.cells 0 .exact (List.replicate 32 (.int .u8 0))]).weaken (own' := fun k => k = A.length) fun k hk => .inr (by simp; omega)
  have pB : A <+: A ++ [AObj.cells 0 .exact (List.replicate 32 (.int .u8 0))] := pre_app _ _
  have gz : (A ++ [AObj.cells 0 .exact (List.replicate 32 (.int .u8 0))])[A.length]? = some (.cells 0 .exact (List.replicate 32 (.int .u8 0))) := by rw [app_get0]; rfl
  have gj : (A ++ [AObj.cells 0 .exact (List.replicate 32 (.int .u8 0))])[j]? = some (.cells 0 .exact [o]) := by rw [pre_get (pA.trans pB) (lt_of_some hj)]; exact hj
  have g1' := (pre_get pB (lt_of_some g1)).trans g1
  have g2' := (pre_get pB (lt_of_some g2)).trans g2
  clear r0
  generalize A ++ [AObj.cells 0 .exact (List.replicate 32 (.int .u8 0))] = B at *
  refine JoinP.mk (fun e vs D => e = .normal ∧ ∃ p, vs = [.ptr ⟨p, 0, 0⟩] ∧ D[p]? = some (.cells 0 .exact ((nodeD a b).1.map ofByte)) ∧ D[A.length]? = some (.cells 0 .exact (List.replicate 32 (.int .u8 0))) ∧ Run H o [nodeT a b] H' D (fun k => k = A.length) [nodeT a b]) ⟨?_, ?_⟩ ?_
  · refine vb_i (e_load1 gj (by simp)) ?_
    refine vb_i (sliceArr_all _ _ _ _) (vb_i (arr_str g1' a.2) (vb_i (sliceArr_all _ _ _ _) (vb_i (arr_str g2' b.2) ?_)))
    refine vb_i (adds (by simp [a.2, b.2])) ?_
    obtain ⟨C2, hO, r2, hle, hk2⟩ := Run.call r1 (ts := [nodeT a b]) (by simp) (by simp [nodeT_len])
    refine cb_i _ _ ⟨o, a.1 ++ b.1, rfl, .inr ⟨hab, rfl, hO⟩⟩ ?_
    repeat with_reducible first
    | refine vb_i e_ext0 ?_
    | refine vb_i e_ext1 ?_
    | refine hb_i (e_alloc _ _) ?_
    with_reducible refine sb_i (store_new List.length_replicate (by rw [List.length_map]; exact sum_len _) (cells_byte _)) ?_
    refine ⟨rfl, _, rfl, by rw [app_get0]; rfl, ?_, ?_⟩
    · have := (hk2 A.length rfl).trans gz
      rw [pre_get (pre_app _ _) (lt_of_some this)]; exact this
    · exact Run.weaken (Run.push r2 _) fun k hk => .inl hk
  · refine vb_i (e_load1 gj (by simp)) ?_
    refine vb_i (sliceArr_all _ _ _ _) (vb_i (arr_str g1' a.2) (vb_i (sliceArr_all _ _ _ _) (vb_i (arr_str g2' b.2) ?_)))
    refine vb_i (adds (by simp [a.2, b.2])) ?_
    repeat with_reducible refine hb_i (e_alloc _ _) ?_
    obtain ⟨C2, hO, r2, hle, hk2⟩ := Run.call (Run.push r1 [AObj.cells 0 .exact (List.replicate 32 (.int .u8 0))]) (ts := [nodeT a b]) (by simp) (by simp [nodeT_len])
    refine cb_i _ _ ⟨o, a.1 ++ b.1, rfl, .inr ⟨hab, rfl, hO⟩⟩ ?_
    have hAB := lt_of_some gz
    have gn : C2[B.length]? = some (.cells 0 .exact (List.replicate 32 (.int .u8 0))) := by rw [hk2 _ (.inr (by simp)), app_get0]; rfl
    have gA : C2[A.length]? = some (.cells 0 .exact (List.replicate 32 (.int .u8 0))) := by rw [hk2 _ (.inl rfl), pre_get (pre_app _ _) hAB]; exact gz
    repeat with_reducible first
    | refine vb_i e_ext0 ?_
    | refine vb_i e_ext1 ?_
    with_reducible refine sb_i (store32 gn List.length_replicate (by rw [List.length_map]; exact sum_len _) (cells_byte _)) ?_
    refine ⟨rfl, _, rfl, by rw [List.getElem?_set_self (lt_of_some gn)]; rfl, by rw [List.getElem?_set_ne (by omega)]; exact gA, ?_⟩
    exact Run.weaken (Run.set r2 (.inr (by simp)) _) fun k hk => .inl hk
  · rintro _ _ D ⟨rfl, p, rfl, d1, d2, r3⟩
    repeat with_reducible refine onE_i ?_
    try simp only [evB]
    refine vb_i (e_loadAll d1 (by rw [List.length_map]; exact hsl)) ?_
    refine sb_i (store32 d2 List.length_replicate (by rw [List.length_map]; exact hsl) (cells_byte _)) ?_
    refine fin_ret (vs := [.agg ((nodeD a b).1.map ofByte)]) (rvs_c (e_loadAll (by rw [List.getElem?_set_self (lt_of_some d2)]) (by rw [List.length_map]; exact hsl)) (rvs_nil _)) ?_
    exact Run.fin (Run.set r3 rfl _) (agg_plain (bytes_plain _))

theorem set_getD {bl : List D32} {i j : Nat} {d : D32} (hi : i < bl.length) : (bl.set i d).getD j d0 = if i = j then d else bl.getD j d0 := by
  simp only [List.getD_eq_getElem?_getD, List.getElem?_set]
  by_cases e : i = j
  · subst e; simp [hi]
  · simp [e]

theorem node_Root.ok (args : List AVal) (H : AHeap) (r : AVal) (H' : AHeap) (h : S_node_Root args H r H') : ∃ x0 x1, args = [x0, x1] ∧ node_Root.w x0 x1 H fun r1 H1 => Weak H r1 H1 r H' := by
  obtain ⟨o, x, dd, rfl, hA, h⟩ := h
  refine ⟨_, _, rfl, ?_⟩
  unfold node_Root.w
  have hv := hA.v
  have hl := hA.hl
  have hod : o.defd = true ∧ o.cells = [o] := by
    rcases hA.o with rfl | ⟨i, v, rfl⟩ <;> exact ⟨rfl, rfl⟩
  refine hb_i (e_box hod.1) ?_
  rw [hod.2]
  repeat with_reducible first
  | refine vb_i (neq64 _ _ _) ?_
  | refine vb_i (lenSl_view (by assumption)) ?_
  | refine hb_i (e_alloc _ _) ?_
  rcases h with ⟨hn, rfl, rfl⟩ | ⟨hn, rfl, h⟩
  · repeat with_reducible (refine isB_ct ?_ ?_; (· first | omega | rfl | assumption | trivial))
    refine vb_i zero32_build ?_
    unfold zero32
    with_reducible refine sb_i (store_new List.length_replicate List.length_replicate (cells_rep _ _ _)) ?_
    refine fin_ret (vs := [.agg (List.replicate 32 (.int .u8 0)), .int .i64 6]) (rvs_c (load_new List.length_replicate) (rvs_v (rvs_nil _))) ?_
    exact Weak.any (ren_pair (agg_plain zero32_plain) (ren_p rfl)) ((pre_app _ _).trans (pre_app _ _))
  · have pA : H <+: (H ++ [AObj.cells 0 .exact [o]]) ++ [AObj.cells 0 .exact (List.replicate 32 (.int .u8 0))] := (pre_app _ _).trans (pre_app _ _)
    repeat with_reducible (refine isB_cf ?_ ?_; (· first | omega | assumption))
    refine append_nils (hv.pre pA) (by simp only [room]; omega) (by simp only [room]; omega) (fun e => by omega) fun _ => ?_
    have e0 : ((H ++ [AObj.cells 0 .exact [o]]) ++ [AObj.cells 0 .exact (List.replicate 32 (.int .u8 0))]) ++ [AObj.cells 0 .opn (dcells dd)] = H ++ [AObj.cells 0 .exact [o], AObj.cells 0 .exact (List.replicate 32 (.int .u8 0)), AObj.cells 0 .opn (dcells dd)] := by simp
    have hl1 : (H ++ [AObj.cells 0 .exact [o]]).length = H.length + 1 := by simp
    have hl2 : ((H ++ [AObj.cells 0 .exact [o]]) ++ [AObj.cells 0 .exact (List.replicate 32 (.int .u8 0))]).length = H.length + 2 := by simp
    rw [e0, hl1, hl2, hn]
    have r0 := (Run.push (Run.start h) [AObj.cells 0 .exact [o], AObj.cells 0 .exact (List.replicate 32 (.int .u8 0)), AObj.cells 0 .opn (dcells dd)]).weaken (own' := fun k => H.length ≤ k ∧ k < H.length + 3) fun k hk => .inr (by simp; omega)
    have hall := rootT_all dd
    refine LoopP.ruleG (α := Nat) (fun k => [.slice ⟨H.length + 2, 0, 0⟩ (wd k) (.op 32)])
      (fun k C => k ≤ 6 ∧ Run H o (rootT dd 6) H' C (fun k => H.length ≤ k ∧ k < H.length + 3) (rootT dd k) ∧ C[H.length]? = some (.cells 0 .exact [o]) ∧ C[H.length + 1]? = some (.cells 0 .exact (List.replicate 32 (.int .u8 0))) ∧
        ∃ bl, bl.length = 64 ∧ C[H.length + 2]? = some (.cells 0 .opn (dcells bl)) ∧ ∀ j, j < wd k → bl.getD j d0 = val dd k j) (fun k => 6 - k) 0 rfl
      ⟨Nat.zero_le _, r0, by rw [app_get0]; rfl, by rw [app_get]; rfl, dd, hn, by rw [app_get]; rfl, fun j _ => rfl⟩ ?_
    rintro k C Kn ⟨hk, run, c0, c1, bl, hbl, c2, hval⟩ hn2
    unfold node_Root.L5 node_Root.L5.b
    try simp only [evB]
    have hwp := wd_pos k
    have hwl := wd_le k
    by_cases hk6 : k < 6
    · have hst := wd_step hk6
      have hmp := wd_pos (k + 1)
      have hdl := rootT_len dd k hk
      generalize hm : wd (k + 1) = m at *
      rw [hst]
      refine vb_i (e_lenSl _ _ _) ?_
      repeat with_reducible first
      | (refine isB_ct ?_ ?_; (· first | omega | rfl | assumption | trivial))
      | refine vb_i (gtr64 _ _ _) ?_
      | (refine vb_i (quo64 ?_ ?_ ?_) ?_; (· omega); (· omega); (· omega))
      | refine vb_i (e_lenSl _ _ _) ?_
      have hq2 : ((2 * m : Nat) : Int) / 2 = (m : Int) := by omega
      rw [hq2]
      refine LoopP.ruleG (α := Nat) (fun i => [.int .i64 i])
        (fun i C => i ≤ m ∧ Run H o (rootT dd 6) H' C (fun k => H.length ≤ k ∧ k < H.length + 3) (rootT dd k ++ lvT dd k i) ∧ C[H.length]? = some (.cells 0 .exact [o]) ∧ C[H.length + 1]? = some (.cells 0 .exact (List.replicate 32 (.int .u8 0))) ∧
          ∃ bl, bl.length = 64 ∧ C[H.length + 2]? = some (.cells 0 .opn (dcells bl)) ∧ (∀ j, j < i → bl.getD j d0 = val dd (k + 1) j) ∧ ∀ j, i ≤ j → j < 2 * m → bl.getD j d0 = val dd k j) (fun i => m - i) 0 rfl
        ⟨Nat.zero_le _, by simpa [lvT] using run, c0, c1, bl, hbl, c2, fun j hj => by omega, fun j _ hj => hval j (by omega)⟩ ?_
      clear run c0 c1 c2 hval hbl
      rintro i C Kn2 ⟨hi, run, c0, c1, bl, hbl, c2, hv1, hv2⟩ hn3
      unfold node_Root.L7 node_Root.L7.b
      try simp only [evB]
      by_cases him : i < m
      · repeat with_reducible first
        | (refine isB_ct ?_ ?_; (· first | omega | rfl | assumption | trivial))
        | refine vb_i (lss64 _ _ _) ?_
        | (refine vb_i (mul64 ?_ ?_) ?_; (· omega); (· omega))
        have e1 : (2 * (i : Int)) = ((2 * i : Nat) : Int) := by omega
        rw [e1]
        refine vb_i (e_idxAddr (by omega) (by omega)) ?_
        rw [Int.toNat_natCast]
        refine vb_i (dig_load c2 (by omega)) ?_
        repeat with_reducible first
        | (refine vb_i (add64 ?_ ?_) ?_; (· omega); (· omega))
        | (refine vb_i (mul64 ?_ ?_) ?_; (· omega); (· omega))
        have e2 : (((2 * i : Nat) : Int) + 1) = ((2 * i + 1 : Nat) : Int) := by omega
        rw [e1, e2]
        refine vb_i (e_idxAddr (by omega) (by omega)) ?_
        rw [Int.toNat_natCast]
        refine vb_i (dig_load c2 (by omega)) ?_
        rw [hv2 (2 * i) (by omega) (by omega), hv2 (2 * i + 1) (by omega) (by omega)]
        obtain ⟨C2, hO, run2, hle, hk2⟩ := Run.call run (ts := [nodeT (val dd k (2 * i)) (val dd k (2 * i + 1))]) (by rw [List.length_append, lvT_len, hall]; simp; omega) (by simp [nodeT_len])
        refine cb_i _ _ ⟨o, _, _, _, rfl, c0, rfl, hO⟩ ?_
        refine vb_i (e_idxAddr (by omega) (by omega)) ?_
        rw [Int.toNat_natCast]
        have k0 := (hk2 H.length ⟨by omega, by omega⟩).trans c0
        have k1 := (hk2 (H.length + 1) ⟨by omega, by omega⟩).trans c1
        have k2 := (hk2 (H.length + 2) ⟨by omega, by omega⟩).trans c2
        refine sb_i (dig_store k2 (by decide) (by omega) _) ?_
        repeat with_reducible (refine vb_i (add64 ?_ ?_) ?_; (· omega); (· omega))
        refine hn3 (i + 1) _ ⟨by omega, ?_, by rw [List.getElem?_set_ne (by omega)]; exact k0, by rw [List.getElem?_set_ne (by omega)]; exact k1, bl.set i (nodeD (val dd k (2 * i)) (val dd k (2 * i + 1))), by rw [List.length_set]; exact hbl, by rw [List.getElem?_set_self (lt_of_some k2)], ?_, ?_⟩ (by omega)
        · rw [lvT_step, ← List.append_assoc]
          exact Run.set run2 ⟨by omega, by omega⟩ _
        · intro j hj
          rw [set_getD (by omega)]
          by_cases e : i = j
          · subst e; rw [if_pos rfl]; rfl
          · rw [if_neg e]; exact hv1 j (by omega)
        · intro j hj1 hj2
          rw [set_getD (by omega), if_neg (by omega)]
          exact hv2 j (by omega) hj2
      · have hie : i = m := by omega
        subst hie
        repeat with_reducible first
        | (refine isB_cf ?_ ?_; (· first | omega | assumption))
        | refine onE_i ?_
        | refine vb_i (lss64 _ _ _) ?_
        | (refine vb_i (quo64 ?_ ?_ ?_) ?_; (· omega); (· omega); (· omega))
        | refine vb_i (e_lenSl _ _ _) ?_
        try simp only [evB]
        skip
        rw [hq2]
        refine vb_i (v := .slice ⟨H.length + 2, 0, 0⟩ i (.op 32)) ?_ ?_
        · simp only [aSlice, bnd_none, bnd, Int.natCast_nonneg, if_true, Int.toNat_natCast, verOf_some c2]
          rw [if_pos ⟨by trivial, by trivial, Nat.zero_le _, by omega⟩]
          simp
        rw [← hm]
        refine hn2 (k + 1) _ ⟨by omega, ?_, c0, c1, bl, hbl, c2, fun j hj => hv1 j (by omega)⟩ (by omega)
        simp only [rootT, hm]
        exact run
    · have hke : k = 6 := by omega
      subst hke
      rw [wd_six] at hval ⊢
      refine vb_i (e_lenSl _ _ _) ?_
      repeat with_reducible first
      | (refine isB_cf ?_ ?_; (· first | omega | assumption))
      | refine onE_i ?_
      | refine vb_i (gtr64 _ _ _) ?_
      try simp only [evB]
      refine vb_i (e_idxAddr (by omega) (by omega)) ?_
      refine vb_i (dig_load (k := 0) c2 (by omega)) ?_
      rw [hval 0 (by decide)]
      refine sb_i (store32 c1 List.length_replicate (by rw [List.length_map]; exact (val dd 6 0).2) (cells_byte _)) ?_
      refine fin_ret (vs := [.agg ((val dd 6 0).1.map ofByte), .int .i64 0]) (rvs_c (e_loadAll (by rw [List.getElem?_set_self (lt_of_some c1)]) (by rw [List.length_map]; exact (val dd 6 0).2)) (rvs_v (rvs_nil _))) ?_
      exact Run.fin (Run.set run ⟨by omega, by omega⟩ _) (ren_pair (agg_plain (bytes_plain _)) (ren_p rfl))
end Go.Sh

/- Roots over leaves: the law's own. -/
namespace Go.Sh
open Go Go.Abs

theorem sums64_step (dd : List D32) {i : Nat} (h : i < 64) : (sums64 dd).take (i + 1) = (sums64 dd).take i ++ [if i < dd.length then dd.getD i d0 else bareD] := by
  rw [List.take_add_one]
  congr 1
  simp [sums64, List.getElem?_range h]

theorem cellaretlaw17_Sums.ok (args : List AVal) (H : AHeap) (r : AVal) (H' : AHeap) (h : S_cellaretlaw17_Sums args H r H') : ∃ x0, args = [x0] ∧ cellaretlaw17_Sums.w x0 H fun r1 H1 => Weak H r1 H1 r H' := by
  obtain ⟨x, dd, rfl, hv, hl, rfl, rfl⟩ := h
  refine ⟨_, rfl, ?_⟩
  unfold cellaretlaw17_Sums.w
  refine LoopP.ruleG (α := Nat × AVal) (fun k => [k.2, .int .i64 k.1])
    (fun k C => k.1 ≤ 64 ∧ H <+: C ∧ OwnO C k.2 32 k.1 (dcells ((sums64 dd).take k.1)) ∧ ∀ a, slId k.2 = some a → H.length ≤ a) (fun k => 64 - k.1) (0, .nils) rfl
    ⟨Nat.zero_le _, List.prefix_refl _, OwnO.nils _ _, fun _ h => by cases h⟩ ?_
  rintro ⟨i, sv⟩ C Kn ⟨hi, pC, ow, hid⟩ hn
  simp only at hi pC ow hid
  unfold cellaretlaw17_Sums.L3 cellaretlaw17_Sums.L3.b
  try simp only [evB]
  have nxt : ∀ (d : D32) (sv' : AVal) (B : AHeap), i < 64 → d = (if i < dd.length then dd.getD i d0 else bareD) → OwnO B sv' 32 (i + 1) (dcells ((sums64 dd).take i) ++ d.1.map ofByte) → Keeps C sv B → (slId sv' = slId sv ∨ (sv = .nils ∧ slId sv' = some (C.length + 1))) → Kn [sv', .int .i64 ((i : Int) + 1)] B := by
    rintro d sv' B hi4 rfl o2 kk ii
    refine hn (i + 1, sv') B ⟨by simp only; omega, kk.pre pC hid, ?_, ?_⟩ (by simp only; omega)
    · simp only
      rw [sums64_step dd hi4, dcells_app]
      simpa [dcells, dcell] using o2
    · intro a ha
      have := pC.length_le
      rcases ii with e | ⟨_, e⟩
      · exact hid a (e ▸ ha)
      · simp only at ha; rw [e] at ha; cases ha; omega
  by_cases hi4 : i < 64
  · by_cases hid2 : i < dd.length
    · obtain ⟨q, q1, q2⟩ := digs_at hv hid2 pC
      repeat with_reducible first
      | (refine isB_ct ?_ ?_; (· first | omega | rfl | assumption | trivial))
      | refine vb_i (lss64 _ _ _) ?_
      | refine vb_i (lenSl_view (by assumption)) ?_
      refine vb_i q1 (vb_i q2 ?_)
      refine pushON ow (by decide) (by rw [List.length_map]; exact (dd.getD i d0).2) List.length_replicate (cells_byte _) (by simp only [room]; omega) (by simp only [room]; omega) fun sv' B o2 kk ii => ?_
      repeat with_reducible (refine vb_i (add64 ?_ ?_) ?_; (· omega); (· omega))
      exact nxt _ sv' B hi4 (by rw [if_pos hid2]) o2 kk ii
    · repeat with_reducible first
      | (refine isB_ct ?_ ?_; (· first | omega | rfl | assumption | trivial))
      | (refine isB_cf ?_ ?_; (· first | omega | assumption))
      | refine vb_i (lss64 _ _ _) ?_
      | refine vb_i (lenSl_view (by assumption)) ?_
      refine cb_i _ _ ⟨64, rfl, by decide, rfl, rfl⟩ ?_
      have hb : bareD.1 = sum (0 :: zs 64) := by unfold bareD; with_reducible rfl
      have hzl := zs_len 64
      generalize zs 64 = z at *
      refine vb_i (adds (by rw [hzl]; decide)) ?_
      rw [show ([0] ++ z : List UInt8) = 0 :: z from List.singleton_append]
      refine cb_i _ _ ⟨_, rfl, by rw [List.length_cons, hzl]; decide, rfl, rfl⟩ ?_
      rw [← hb]
      clear hb
      generalize bareD = bd at *
      refine pushON ow (by decide) (by rw [List.length_map]; exact bd.2) List.length_replicate (cells_byte _) (by simp only [room]; omega) (by simp only [room]; omega) fun sv' B o2 kk ii => ?_
      repeat with_reducible (refine vb_i (add64 ?_ ?_) ?_; (· omega); (· omega))
      exact nxt bd sv' B hi4 (by rw [if_neg hid2]) o2 kk ii
  · have hie : i = 64 := by omega
    subst hie
    repeat with_reducible first
    | (refine isB_cf ?_ ?_; (· first | omega | assumption))
    | refine onE_i ?_
    | refine vb_i (lss64 _ _ _) ?_
    try simp only [evB]
    have ht : (sums64 dd).take 64 = sums64 dd := List.take_of_length_le (by rw [sums64_len]; exact Nat.le_refl _)
    rw [ht] at ow
    refine fin_ret (vs := [sv]) (rvs_v (rvs_nil _)) ?_
    refine ow.weak (by decide) ?_ pC hid fun ρ σ N _ h => h
    intro x hx
    simp only [dcells, List.mem_flatten, List.mem_map] at hx
    obtain ⟨l, ⟨d, _, rfl⟩, hx⟩ := hx
    exact bytes_plain _ x hx
end Go.Sh

/- Roots over leaves: the law. -/
namespace Go.Sh
open Go Go.Abs

def rootV (dd : List D32) : List UInt8 := if dd.length = 64 then (val dd 6 0).1 else zs 32
def rootE (dd : List D32) : Int := if dd.length = 64 then 0 else 6
theorem rootV_len (dd : List D32) : (rootV dd).length = 32 := by
  unfold rootV; split
  · exact (val dd 6 0).2
  · exact zs32_len
theorem root_spec {C C2 : AHeap} {o x : AVal} {dd : List D32} (hA : RtArgs C o x dd) (h : (dd.length ≠ 64 ∧ C2 = C) ∨ (dd.length = 64 ∧ Osums C o (rootT dd 6) C2)) :
    S_node_Root [o, x] C (.tup [.agg ((rootV dd).map ofByte), .int .i64 (rootE dd)]) C2 := by
  refine ⟨o, x, dd, rfl, hA, ?_⟩
  rcases h with ⟨h, rfl⟩ | ⟨h, h2⟩
  · exact .inl ⟨h, by rw [rootV, rootE, if_neg h, if_neg h, zero32_zs], rfl⟩
  · exact .inr ⟨h, by rw [rootV, rootE, if_pos h, if_pos h], h2⟩
end Go.Sh

/- Functions that leave what was there as it was. -/
namespace Go.Sh
open Go Go.Abs

theorem cellaretlaw17_Sums.quiet {args : List AVal} {H : AHeap} {r : AVal} {H' : AHeap} (h : S_cellaretlaw17_Sums args H r H') : H <+: H' := by
  obtain ⟨_, _, _, _, _, _, rfl⟩ := h; exact pre_app _ _
end Go.Sh
