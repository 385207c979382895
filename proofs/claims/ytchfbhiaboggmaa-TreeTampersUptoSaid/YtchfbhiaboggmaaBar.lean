/- One text of these: Bar0, BarW1, BarP1, BarP2, BarQ. -/
import Derived.Test.YtchfbhiaboggmaaNod
import Derived.Test.YtchfbhiaboggmaaChain

/- Trees of bare leaves. -/
namespace Go.Sh
open Go Go.Abs

def bd : Nat → D32
  | 0 => bareD
  | k + 1 => nodeD (bd k) (bd k)
/-- The block so many levels above bare leaves. -/
def bw : Nat → List UInt8
  | 0 => zs 64
  | k + 1 => (bd k).1 ++ (bd k).1
theorem bw_len (k : Nat) : (bw k).length = 64 := by
  cases k with
  | zero => exact zs_len 64
  | succ k => simp [bw, (bd k).2]
theorem bw0 : bw 0 = zs 64 := by unfold bw; with_reducible rfl
theorem bd0 : (bd 0).1 = sum (0 :: bw 0) := by rw [bw0]; unfold bd bareD; with_reducible rfl
theorem bdS (k : Nat) : (bd (k + 1)).1 = sum (1 :: bw (k + 1)) := rfl
theorem bwS (k : Nat) : bw (k + 1) = (bd k).1 ++ (bd k).1 := rfl
def bareT (h : Nat) : List (List UInt8) := (0 :: bw 0) :: (List.range h).map fun i => 1 :: bw (i + 1)
theorem bareT_len (h : Nat) : (bareT h).length = h + 1 := by simp [bareT]
theorem bareT_step (h : Nat) : bareT (h + 1) = bareT h ++ [1 :: bw (h + 1)] := by simp [bareT, List.range_succ]
def BareT (h : Nat) : List (List UInt8) := bareT h ++ [1 :: bw h] ++ if h = 0 then [0 :: bw 0] else []
theorem BareT_short (h : Nat) : ∀ s ∈ BareT h, s.length = 65 := by
  intro s hs
  simp only [BareT, bareT, List.mem_append, List.mem_cons, List.mem_map, List.not_mem_nil, or_false] at hs
  rcases hs with ((rfl | ⟨i, _, rfl⟩) | rfl) | hs
  · simp [bw_len]
  · simp [bw_len]
  · simp [bw_len]
  · split at hs
    · simp at hs; subst hs; simp [bw_len]
    · cases hs
theorem bareT_short (h : Nat) : ∀ s ∈ bareT h, s.length = 65 := fun s hs => BareT_short h s (by simp only [BareT, List.mem_append]; exact .inl (.inl hs))
def S_node_bare : Abs.Spec := fun args H r H' => ∃ (o : AVal) (h : Nat), args = [o, .int .i64 h] ∧ h ≤ 6 ∧ r = .str (bw h) ∧ Osums H o (bareT h) H'
def S_node_Bare : Abs.Spec := fun args H r H' => ∃ (o : AVal) (h : Int), args = [o, .int .i64 h] ∧
  (((h < 0 ∨ 6 < h) ∧ r = .tup [.str [], zero32, .int .i64 3] ∧ H' = H) ∨ ∃ k : Nat, h = k ∧ k ≤ 6 ∧ r = .tup [.str (bw k), .agg ((bd k).1.map ofByte), .int .i64 0] ∧ Osums H o (BareT k) H')
def hops (n : Nat) : Nat := Nat.log2 (n + 1)
theorem hops0 : hops 0 = 0 := by decide
theorem hopsS {n : Nat} (h : 0 < n) : hops n = hops ((n - 1) / 2) + 1 := by
  unfold hops
  conv => lhs; rw [Nat.log2_def]
  rw [if_pos (by omega)]
  congr 2; omega
def highR (n : Int) : List AVal := if n < 0 ∨ 63 ≤ n then [.int .i64 0, .int .i64 3] else [.int .i64 (6 - hops n.toNat), .int .i64 0]
def S_node_High : Abs.Spec := fun args H r H' => ∃ n : Int, args = [.int .i64 n] ∧ r = .tup (highR n) ∧ H' = H
def sameR (dd ee : List D32) : Prop := (dd.length = 64 ∧ ee.length = 64) ∧ (val dd 6 0).1 = (val ee 6 0).1
instance (dd ee : List D32) : Decidable (sameR dd ee) := by unfold sameR; infer_instance
theorem val_bare : ∀ k, k ≤ 6 → ∀ j, j < wd k → val (sums64 []) k j = bd k
  | 0, _, j, hj => by
    simp only [val, bd]
    rw [List.getD_eq_getElem?_getD, sums64, List.getElem?_map, List.getElem?_range (by simpa [wd] using hj)]
    simp
  | k + 1, hk, j, hj => by
    have hs := wd_step (k := k) (by omega)
    simp only [val, bd]
    rw [val_bare k (by omega) (2 * j) (by omega), val_bare k (by omega) (2 * j + 1) (by omega)]
theorem zs_cells : (zs 64).map ofByte = List.replicate 64 (.int .u8 0) := by simp [zs, ofByte]
theorem make64 (H : AHeap) : aMakeSlice H 1 [.int .u8 0] (.int .i64 64) (.int .i64 64) = some (.slice ⟨H.length, 0, 0⟩ 64 (.ex 64), H ++ [.cells 0 .exact ((bw 0).map ofByte)]) := by
  rw [bw0, zs_cells]
  simp [aMakeSlice, fillCells]
end Go.Sh

/- What Go functions come to over abstract values, printed by a program (wtext.py). -/
namespace Go.Sh
open Go Go.Abs

def node_bare.L4.b (x1 : AVal) (v8 : AVal) (x0 : AVal) (x5_4 : AVal) (x17_4 : AVal) (H11 : AHeap) (Kn12 : List AVal → AHeap → Prop) (Ke13 : AExit → List AVal → AHeap → Prop) : Prop :=
 vb (aBin .lss x17_4 x1) fun v14 =>
 isB v14 fun b15 => cond b15
 (vb (aSliceArr 32 1 v8 none none none) fun v16 =>
 vb (aBytes2Str H11 v16) fun v17 =>
 vb (aSliceArr 32 1 v8 none none none) fun v18 =>
 vb (aBytes2Str H11 v18) fun v19 =>
 vb (aBin .add v17 v19) fun v20 =>
 cb (S_node_Node [x0, v20] H11) fun v21 H22 =>
 vb (aExtract v21 0) fun v23 =>
 vb (aExtract v21 1) fun v24 =>
 sb (aStore H22 32 v8 v23) fun H25 =>
 vb (aBin .add x17_4 (.int .i64 1)) fun v26 =>
 Kn12 [v20, v26] H25)
 (Ke13 (.exit 0) [x5_4] H11)

def node_bare.L4 (x1 : AVal) (v8 : AVal) (x0 : AVal) : Body := fun vs H Kn Ke => node_bare.L4.b x1 v8 x0 (vs.getD 0 .undef) (vs.getD 1 .undef) H Kn Ke

def node_bare.w (x0 : AVal) (x1 : AVal) (H : AHeap) (K : AVal → AHeap → Prop) : Prop :=
 hb (aMakeSlice H 1 [.int .u8 0] (.int .i64 64) (.int .i64 64)) fun v1 H2 =>
 vb (aBytes2Str H2 v1) fun v3 =>
 cb (S_node_Leaf [x0, v3] H2) fun v4 H5 =>
 vb (aExtract v4 0) fun v6 =>
 vb (aExtract v4 1) fun v7 =>
 hb (aAlloc H5 (List.replicate 32 (.int .u8 0))) fun v8 H9 =>
 sb (aStore H9 32 v8 v6) fun H10 =>
 LoopP (node_bare.L4 x1 v8 x0) [v3, .int .i64 0] H10 fun e27 vs28 H29 =>
 onE e27 (.exit 0)
 (fin .ret [.v (vs28.getD 0 .undef)] H29 K)
 (False)

def node_Bare.w (x0 : AVal) (x1 : AVal) (H : AHeap) (K : AVal → AHeap → Prop) : Prop :=
 hb (aAlloc H (List.replicate 32 (.int .u8 0))) fun v1 H2 =>
 JoinP (fun Kj3 => vb (aBin .lss x1 (.int .i64 0)) fun v4 =>
 isB v4 fun b5 => cond b5
 (vb (aBuild (List.replicate 32 (.int .u8 0)) (fun k => some (k * 1, 1)) []) fun v6 =>
 sb (aStore H2 32 v1 v6) fun H7 =>
 Kj3 .ret [.str [], .int .i64 3] H7)
 (vb (aBin .gtr x1 (.int .i64 6)) fun v8 =>
 isB v8 fun b9 => cond b9
 (vb (aBuild (List.replicate 32 (.int .u8 0)) (fun k => some (k * 1, 1)) []) fun v10 =>
 sb (aStore H2 32 v1 v10) fun H11 =>
 Kj3 .ret [.str [], .int .i64 3] H11)
 (Kj3 .normal [.str [], .int .i64 0] H2)))
 (fun e12 vs13 H14 =>
 onE e12 .normal
 (cb (S_node_bare [x0, x1] H14) fun v15 H16 =>
 cb (S_node_Node [x0, v15] H16) fun v17 H18 =>
 vb (aExtract v17 0) fun v19 =>
 vb (aExtract v17 1) fun v20 =>
 hb (aAlloc H18 (List.replicate 32 (.int .u8 0))) fun v21 H22 =>
 sb (aStore H22 32 v21 v19) fun H23 =>
 JoinP (fun Kj24 => vb (aBin .eql x1 (.int .i64 0)) fun v25 =>
 isB v25 fun b26 => cond b26
 (cb (S_node_Leaf [x0, v15] H23) fun v27 H28 =>
 vb (aExtract v27 0) fun v29 =>
 vb (aExtract v27 1) fun v30 =>
 sb (aStore H28 32 v21 v29) fun H31 =>
 Kj24 .normal [] H31)
 (Kj24 .normal [] H23))
 (fun e32 vs33 H34 =>
 onE e32 .normal
 (vb (aLoad H34 true 32 v21) fun v35 =>
 sb (aStore H34 32 v1 v35) fun H36 =>
 fin .ret [.v (v15), .c true 32 (v1), .v (.int .i64 0)] H36 K)
 (False)))
 (onE e12 .ret
 (fin .ret [.v (vs13.getD 0 .undef), .c true 32 (v1), .v (vs13.getD 1 .undef)] H14 K)
 (False)))

def node_High.L4.b (x0_4 : AVal) (x4_4 : AVal) (H9 : AHeap) (Kn10 : List AVal → AHeap → Prop) (Ke11 : AExit → List AVal → AHeap → Prop) : Prop :=
 vb (aBin .gtr x0_4 (.int .i64 0)) fun v12 =>
 isB v12 fun b13 => cond b13
 (vb (aBin .sub x0_4 (.int .i64 1)) fun v14 =>
 vb (aBin .quo v14 (.int .i64 2)) fun v15 =>
 vb (aBin .sub x4_4 (.int .i64 1)) fun v16 =>
 Kn10 [v15, v16] H9)
 (Ke11 (.exit 0) [x4_4] H9)

def node_High.L4 : Body := fun vs H Kn Ke => node_High.L4.b (vs.getD 0 .undef) (vs.getD 1 .undef) H Kn Ke

def node_High.w (x0 : AVal) (H : AHeap) (K : AVal → AHeap → Prop) : Prop :=
 JoinP (fun Kj1 => vb (aBin .lss x0 (.int .i64 0)) fun v2 =>
 isB v2 fun b3 => cond b3
 (Kj1 .ret [.int .i64 0, .int .i64 3] H)
 (vb (aBin .geq x0 (.int .i64 63)) fun v4 =>
 isB v4 fun b5 => cond b5
 (Kj1 .ret [.int .i64 0, .int .i64 3] H)
 (Kj1 .normal [.int .i64 0, .int .i64 0] H)))
 (fun e6 vs7 H8 =>
 onE e6 .normal
 (LoopP node_High.L4 [x0, .int .i64 6] H8 fun e17 vs18 H19 =>
 onE e17 (.exit 0)
 (fin .ret [.v (vs18.getD 0 .undef), .v (.int .i64 0)] H19 K)
 (False))
 (onE e6 .ret
 (fin .ret [.v (vs7.getD 0 .undef), .v (vs7.getD 1 .undef)] H8 K)
 (False)))

end Go.Sh

/- Trees of bare leaves: the program's. -/
namespace Go.Sh
open Go Go.Abs

theorem node_bare.ok (args : List AVal) (H : AHeap) (r : AVal) (H' : AHeap) (h : S_node_bare args H r H') : ∃ x0 x1, args = [x0, x1] ∧ node_bare.w x0 x1 H fun r1 H1 => Weak H r1 H1 r H' := by
  obtain ⟨o, n, rfl, hn, rfl, hO⟩ := h
  refine ⟨_, _, rfl, ?_⟩
  unfold node_bare.w
  refine hb_i (make64 H) ?_
  have r0 := Run.push (Run.start hO) [AObj.cells 0 .exact ((bw 0).map ofByte)]
  have hb0 := bw_len 0
  have hd0 := bd0
  refine vb_i (bytes_str (view_ex (n := 64) (app_get0 _ _) (by rw [List.length_map, hb0]))) ?_
  have hbl := bareT_len n
  obtain ⟨C1, hO1, r1, hle1, _⟩ := Run.call r0 (ts := [0 :: bw 0]) (by rw [hbl]; simp) (by simp [hb0])
  refine cb_i _ _ ⟨o, bw 0, rfl, .inr ⟨hb0, rfl, hO1⟩⟩ ?_
  rw [← hd0]
  repeat with_reducible first
  | refine isB_T ?_
  | refine isB_F ?_
  | (refine isB_ct ?_ ?_; (· first | omega | rfl | assumption | trivial))
  | (refine isB_cf ?_ ?_; (· first | omega | assumption))
  | refine onE_i ?_
  | (refine onE_s ?_ ?_; (· decide))
  | refine vb_i e_ext0 ?_
  | refine vb_i e_ext1 ?_
  | refine vb_i e_ext2 ?_
  | refine vb_i (lss64 _ _ _) ?_
  | refine vb_i (leq64 _ _ _) ?_
  | refine vb_i (gtr64 _ _ _) ?_
  | refine vb_i (geq64 _ _ _) ?_
  | refine vb_i (eql64 _ _ _) ?_
  | refine vb_i (neq64 _ _ _) ?_
  | refine vb_i (eqls _ _) ?_
  | refine vb_i (neqs _ _) ?_
  | (refine vb_i (add64 ?_ ?_) ?_; (· omega); (· omega))
  | (refine vb_i (sub64 ?_ ?_) ?_; (· omega); (· omega))
  | (refine vb_i (mul64 ?_ ?_) ?_; (· omega); (· omega))
  | (refine vb_i (quo64 ?_ ?_ ?_) ?_; (· omega); (· omega); (· omega))
  | (refine vb_i (rem64 ?_ ?_) ?_; (· omega); (· omega))
  | refine vb_i (e_lenSt _) ?_
  | refine vb_i (e_lenSl _ _ _) ?_
  | refine vb_i e_lenNil ?_
  | refine vb_i (lenSl_view (by assumption)) ?_
  | refine vb_i (e_ptrNil _ _) ?_
  | refine vb_i (e_ptrNilN _ _) ?_
  | refine vb_i (e_nilNil _) ?_
  | refine vb_i (e_nilNilN _) ?_
  | refine vb_i (e_pickT _ _) ?_
  | refine vb_i (e_pickF _ _) ?_
  | refine vb_i e_notd ?_
  | refine vb_i e_boolNe ?_
  | refine vb_i e_boolEq ?_
  | refine vb_i (e_not _) ?_
  | refine vb_i (e_nilCheck _) ?_
  | refine vb_i (e_fieldAddr _ _) ?_
  | refine hb_i (e_alloc _ _) ?_
  | (refine vb_i (adds ?_) ?_; (· first | omega | (simp only [List.length_cons, List.length_nil, List.length_append]; omega)))
  with_reducible refine sb_i (store_new List.length_replicate (by rw [List.length_map]; exact (bd 0).2) (cells_byte _)) ?_
  have r2 := (Run.push r1 [AObj.cells 0 .exact ((bd 0).1.map ofByte)]).weaken (own' := fun k => k = C1.length) fun k hk => .inr (by simp; omega)
  have gd : (C1 ++ [AObj.cells 0 .exact ((bd 0).1.map ofByte)])[C1.length]? = some (.cells 0 .exact ((bd 0).1.map ofByte)) := by rw [app_get0]; rfl
  generalize C1 ++ [AObj.cells 0 .exact ((bd 0).1.map ofByte)] = B at *
  generalize C1.length = kd at *
  refine LoopP.ruleG (α := Nat) (fun i => [.str (bw i), .int .i64 i]) (fun i C => i ≤ n ∧ C[kd]? = some (.cells 0 .exact ((bd i).1.map ofByte)) ∧ Run H o (bareT n) H' C (fun k => k = kd) (bareT i)) (fun i => n - i) 0 rfl
    ⟨Nat.zero_le _, gd, r2⟩ ?_
  clear r0 r1 r2 gd hle1 hO1 hd0 hb0
  rintro i C Kn ⟨hi, g, run⟩ hk
  unfold node_bare.L4 node_bare.L4.b
  try simp only [evB]
  by_cases hin : i < n
  · have hbi := (bd i).2
    repeat with_reducible first
    | refine isB_T ?_
    | refine isB_F ?_
    | (refine isB_ct ?_ ?_; (· first | omega | rfl | assumption | trivial))
    | (refine isB_cf ?_ ?_; (· first | omega | assumption))
    | refine onE_i ?_
    | (refine onE_s ?_ ?_; (· decide))
    | refine vb_i e_ext0 ?_
    | refine vb_i e_ext1 ?_
    | refine vb_i e_ext2 ?_
    | refine vb_i (lss64 _ _ _) ?_
    | refine vb_i (leq64 _ _ _) ?_
    | refine vb_i (gtr64 _ _ _) ?_
    | refine vb_i (geq64 _ _ _) ?_
    | refine vb_i (eql64 _ _ _) ?_
    | refine vb_i (neq64 _ _ _) ?_
    | refine vb_i (eqls _ _) ?_
    | refine vb_i (neqs _ _) ?_
    | (refine vb_i (add64 ?_ ?_) ?_; (· omega); (· omega))
    | (refine vb_i (sub64 ?_ ?_) ?_; (· omega); (· omega))
    | (refine vb_i (mul64 ?_ ?_) ?_; (· omega); (· omega))
    | (refine vb_i (quo64 ?_ ?_ ?_) ?_; (· omega); (· omega); (· omega))
    | (refine vb_i (rem64 ?_ ?_) ?_; (· omega); (· omega))
    | refine vb_i (e_lenSt _) ?_
    | refine vb_i (e_lenSl _ _ _) ?_
    | refine vb_i e_lenNil ?_
    | refine vb_i (lenSl_view (by assumption)) ?_
    | refine vb_i (e_ptrNil _ _) ?_
    | refine vb_i (e_ptrNilN _ _) ?_
    | refine vb_i (e_nilNil _) ?_
    | refine vb_i (e_nilNilN _) ?_
    | refine vb_i (e_pickT _ _) ?_
    | refine vb_i (e_pickF _ _) ?_
    | refine vb_i e_notd ?_
    | refine vb_i e_boolNe ?_
    | refine vb_i e_boolEq ?_
    | refine vb_i (e_not _) ?_
    | refine vb_i (e_nilCheck _) ?_
    | refine vb_i (e_fieldAddr _ _) ?_
    | refine hb_i (e_alloc _ _) ?_
    | (refine vb_i (adds ?_) ?_; (· first | omega | (simp only [List.length_cons, List.length_nil, List.length_append]; omega)))
    refine vb_i (sliceArr_all _ _ _ _) (vb_i (arr_str g hbi) (vb_i (sliceArr_all _ _ _ _) (vb_i (arr_str g hbi) ?_)))
    refine vb_i (adds (by rw [hbi]; decide)) ?_
    rw [← bwS]
    have hb1 := bw_len (i + 1)
    obtain ⟨C2, hO2, run2, hle, hk2⟩ := Run.call run (ts := [1 :: bw (i + 1)]) (by rw [hbl, bareT_len]; simp; omega) (by simp [hb1])
    refine cb_i _ _ ⟨o, bw (i + 1), rfl, .inr ⟨hb1, rfl, hO2⟩⟩ ?_
    rw [← bdS]
    have g2 := (hk2 kd rfl).trans g
    repeat with_reducible first
    | refine isB_T ?_
    | refine isB_F ?_
    | (refine isB_ct ?_ ?_; (· first | omega | rfl | assumption | trivial))
    | (refine isB_cf ?_ ?_; (· first | omega | assumption))
    | refine onE_i ?_
    | (refine onE_s ?_ ?_; (· decide))
    | refine vb_i e_ext0 ?_
    | refine vb_i e_ext1 ?_
    | refine vb_i e_ext2 ?_
    | refine vb_i (lss64 _ _ _) ?_
    | refine vb_i (leq64 _ _ _) ?_
    | refine vb_i (gtr64 _ _ _) ?_
    | refine vb_i (geq64 _ _ _) ?_
    | refine vb_i (eql64 _ _ _) ?_
    | refine vb_i (neq64 _ _ _) ?_
    | refine vb_i (eqls _ _) ?_
    | refine vb_i (neqs _ _) ?_
    | (refine vb_i (add64 ?_ ?_) ?_; (· omega); (· omega))
    | (refine vb_i (sub64 ?_ ?_) ?_; (· omega); (· omega))
    | (refine vb_i (mul64 ?_ ?_) ?_; (· omega); (· omega))
    | (refine vb_i (quo64 ?_ ?_ ?_) ?_; (· omega); (· omega); (· omega))
    | (refine vb_i (rem64 ?_ ?_) ?_; (· omega); (· omega))
    | refine vb_i (e_lenSt _) ?_
    | refine vb_i (e_lenSl _ _ _) ?_
    | refine vb_i e_lenNil ?_
    | refine vb_i (lenSl_view (by assumption)) ?_
    | refine vb_i (e_ptrNil _ _) ?_
    | refine vb_i (e_ptrNilN _ _) ?_
    | refine vb_i (e_nilNil _) ?_
    | refine vb_i (e_nilNilN _) ?_
    | refine vb_i (e_pickT _ _) ?_
    | refine vb_i (e_pickF _ _) ?_
    | refine vb_i e_notd ?_
    | refine vb_i e_boolNe ?_
    | refine vb_i e_boolEq ?_
    | refine vb_i (e_not _) ?_
    | refine vb_i (e_nilCheck _) ?_
    | refine vb_i (e_fieldAddr _ _) ?_
    | refine hb_i (e_alloc _ _) ?_
    | (refine vb_i (adds ?_) ?_; (· first | omega | (simp only [List.length_cons, List.length_nil, List.length_append]; omega)))
    with_reducible refine sb_i (store32 g2 (by rw [List.length_map]; exact hbi) (by rw [List.length_map]; exact (bd (i + 1)).2) (cells_byte _)) ?_
    repeat with_reducible first
    | refine isB_T ?_
    | refine isB_F ?_
    | (refine isB_ct ?_ ?_; (· first | omega | rfl | assumption | trivial))
    | (refine isB_cf ?_ ?_; (· first | omega | assumption))
    | refine onE_i ?_
    | (refine onE_s ?_ ?_; (· decide))
    | refine vb_i e_ext0 ?_
    | refine vb_i e_ext1 ?_
    | refine vb_i e_ext2 ?_
    | refine vb_i (lss64 _ _ _) ?_
    | refine vb_i (leq64 _ _ _) ?_
    | refine vb_i (gtr64 _ _ _) ?_
    | refine vb_i (geq64 _ _ _) ?_
    | refine vb_i (eql64 _ _ _) ?_
    | refine vb_i (neq64 _ _ _) ?_
    | refine vb_i (eqls _ _) ?_
    | refine vb_i (neqs _ _) ?_
    | (refine vb_i (add64 ?_ ?_) ?_; (· omega); (· omega))
    | (refine vb_i (sub64 ?_ ?_) ?_; (· omega); (· omega))
    | (refine vb_i (mul64 ?_ ?_) ?_; (· omega); (· omega))
    | (refine vb_i (quo64 ?_ ?_ ?_) ?_; (· omega); (· omega); (· omega))
    | (refine vb_i (rem64 ?_ ?_) ?_; (· omega); (· omega))
    | refine vb_i (e_lenSt _) ?_
    | refine vb_i (e_lenSl _ _ _) ?_
    | refine vb_i e_lenNil ?_
    | refine vb_i (lenSl_view (by assumption)) ?_
    | refine vb_i (e_ptrNil _ _) ?_
    | refine vb_i (e_ptrNilN _ _) ?_
    | refine vb_i (e_nilNil _) ?_
    | refine vb_i (e_nilNilN _) ?_
    | refine vb_i (e_pickT _ _) ?_
    | refine vb_i (e_pickF _ _) ?_
    | refine vb_i e_notd ?_
    | refine vb_i e_boolNe ?_
    | refine vb_i e_boolEq ?_
    | refine vb_i (e_not _) ?_
    | refine vb_i (e_nilCheck _) ?_
    | refine vb_i (e_fieldAddr _ _) ?_
    | refine hb_i (e_alloc _ _) ?_
    | (refine vb_i (adds ?_) ?_; (· first | omega | (simp only [List.length_cons, List.length_nil, List.length_append]; omega)))
    refine hk (i + 1) _ ⟨by omega, by rw [List.getElem?_set_self (lt_of_some g2)], ?_⟩ (by omega)
    rw [bareT_step]
    exact Run.set run2 rfl _
  · have hie : i = n := by omega
    subst hie
    repeat with_reducible first
    | refine isB_T ?_
    | refine isB_F ?_
    | (refine isB_ct ?_ ?_; (· first | omega | rfl | assumption | trivial))
    | (refine isB_cf ?_ ?_; (· first | omega | assumption))
    | refine onE_i ?_
    | (refine onE_s ?_ ?_; (· decide))
    | refine vb_i e_ext0 ?_
    | refine vb_i e_ext1 ?_
    | refine vb_i e_ext2 ?_
    | refine vb_i (lss64 _ _ _) ?_
    | refine vb_i (leq64 _ _ _) ?_
    | refine vb_i (gtr64 _ _ _) ?_
    | refine vb_i (geq64 _ _ _) ?_
    | refine vb_i (eql64 _ _ _) ?_
    | refine vb_i (neq64 _ _ _) ?_
    | refine vb_i (eqls _ _) ?_
    | refine vb_i (neqs _ _) ?_
    | (refine vb_i (add64 ?_ ?_) ?_; (· omega); (· omega))
    | (refine vb_i (sub64 ?_ ?_) ?_; (· omega); (· omega))
    | (refine vb_i (mul64 ?_ ?_) ?_; (· omega); (· omega))
    | (refine vb_i (quo64 ?_ ?_ ?_) ?_; (· omega); (· omega); (· omega))
    | (refine vb_i (rem64 ?_ ?_) ?_; (· omega); (· omega))
    | refine vb_i (e_lenSt _) ?_
    | refine vb_i (e_lenSl _ _ _) ?_
    | refine vb_i e_lenNil ?_
    | refine vb_i (lenSl_view (by assumption)) ?_
    | refine vb_i (e_ptrNil _ _) ?_
    | refine vb_i (e_ptrNilN _ _) ?_
    | refine vb_i (e_nilNil _) ?_
    | refine vb_i (e_nilNilN _) ?_
    | refine vb_i (e_pickT _ _) ?_
    | refine vb_i (e_pickF _ _) ?_
    | refine vb_i e_notd ?_
    | refine vb_i e_boolNe ?_
    | refine vb_i e_boolEq ?_
    | refine vb_i (e_not _) ?_
    | refine vb_i (e_nilCheck _) ?_
    | refine vb_i (e_fieldAddr _ _) ?_
    | refine hb_i (e_alloc _ _) ?_
    | (refine vb_i (adds ?_) ?_; (· first | omega | (simp only [List.length_cons, List.length_nil, List.length_append]; omega)))
    try simp only [evB]
    refine fin_ret (vs := [.str (bw i)]) (rvs_v (rvs_nil _)) ?_
    exact Run.fin run (ren_p rfl)

theorem node_Bare.ok (args : List AVal) (H : AHeap) (r : AVal) (H' : AHeap) (h : S_node_Bare args H r H') : ∃ x0 x1, args = [x0, x1] ∧ node_Bare.w x0 x1 H fun r1 H1 => Weak H r1 H1 r H' := by
  obtain ⟨o, n, rfl, h⟩ := h
  refine ⟨_, _, rfl, ?_⟩
  unfold node_Bare.w
  repeat with_reducible first
  | refine isB_T ?_
  | refine isB_F ?_
  | (refine isB_ct ?_ ?_; (· first | omega | rfl | assumption | trivial))
  | (refine isB_cf ?_ ?_; (· first | omega | assumption))
  | refine onE_i ?_
  | (refine onE_s ?_ ?_; (· decide))
  | refine vb_i e_ext0 ?_
  | refine vb_i e_ext1 ?_
  | refine vb_i e_ext2 ?_
  | refine vb_i (lss64 _ _ _) ?_
  | refine vb_i (leq64 _ _ _) ?_
  | refine vb_i (gtr64 _ _ _) ?_
  | refine vb_i (geq64 _ _ _) ?_
  | refine vb_i (eql64 _ _ _) ?_
  | refine vb_i (neq64 _ _ _) ?_
  | refine vb_i (eqls _ _) ?_
  | refine vb_i (neqs _ _) ?_
  | (refine vb_i (add64 ?_ ?_) ?_; (· omega); (· omega))
  | (refine vb_i (sub64 ?_ ?_) ?_; (· omega); (· omega))
  | (refine vb_i (mul64 ?_ ?_) ?_; (· omega); (· omega))
  | (refine vb_i (quo64 ?_ ?_ ?_) ?_; (· omega); (· omega); (· omega))
  | (refine vb_i (rem64 ?_ ?_) ?_; (· omega); (· omega))
  | refine vb_i (e_lenSt _) ?_
  | refine vb_i (e_lenSl _ _ _) ?_
  | refine vb_i e_lenNil ?_
  | refine vb_i (lenSl_view (by assumption)) ?_
  | refine vb_i (e_ptrNil _ _) ?_
  | refine vb_i (e_ptrNilN _ _) ?_
  | refine vb_i (e_nilNil _) ?_
  | refine vb_i (e_nilNilN _) ?_
  | refine vb_i (e_pickT _ _) ?_
  | refine vb_i (e_pickF _ _) ?_
  | refine vb_i e_notd ?_
  | refine vb_i e_boolNe ?_
  | refine vb_i e_boolEq ?_
  | refine vb_i (e_not _) ?_
  | refine vb_i (e_nilCheck _) ?_
  | refine vb_i (e_fieldAddr _ _) ?_
  | refine hb_i (e_alloc _ _) ?_
  | (refine vb_i (adds ?_) ?_; (· first | omega | (simp only [List.length_cons, List.length_nil, List.length_append]; omega)))
  refine JoinP.mk (fun e vs B => B = H ++ [AObj.cells 0 .exact (List.replicate 32 (.int .u8 0))] ∧ ((e = .ret ∧ vs = [.str [], .int .i64 3] ∧ (n < 0 ∨ 6 < n)) ∨ (e = .normal ∧ ¬ (n < 0 ∨ 6 < n)))) ?_ ?_
  · repeat with_reducible first
    | refine isB_T ?_
    | refine isB_F ?_
    | (refine isB_ct ?_ ?_; (· first | omega | rfl | assumption | trivial))
    | (refine isB_cf ?_ ?_; (· first | omega | assumption))
    | refine onE_i ?_
    | (refine onE_s ?_ ?_; (· decide))
    | refine vb_i e_ext0 ?_
    | refine vb_i e_ext1 ?_
    | refine vb_i e_ext2 ?_
    | refine vb_i (lss64 _ _ _) ?_
    | refine vb_i (leq64 _ _ _) ?_
    | refine vb_i (gtr64 _ _ _) ?_
    | refine vb_i (geq64 _ _ _) ?_
    | refine vb_i (eql64 _ _ _) ?_
    | refine vb_i (neq64 _ _ _) ?_
    | refine vb_i (eqls _ _) ?_
    | refine vb_i (neqs _ _) ?_
    | (refine vb_i (add64 ?_ ?_) ?_; (· omega); (· omega))
    | (refine vb_i (sub64 ?_ ?_) ?_; (· omega); (· omega))
    | (refine vb_i (mul64 ?_ ?_) ?_; (· omega); (· omega))
    | (refine vb_i (quo64 ?_ ?_ ?_) ?_; (· omega); (· omega); (· omega))
    | (refine vb_i (rem64 ?_ ?_) ?_; (· omega); (· omega))
    | refine vb_i (e_lenSt _) ?_
    | refine vb_i (e_lenSl _ _ _) ?_
    | refine vb_i e_lenNil ?_
    | refine vb_i (lenSl_view (by assumption)) ?_
    | refine vb_i (e_ptrNil _ _) ?_
    | refine vb_i (e_ptrNilN _ _) ?_
    | refine vb_i (e_nilNil _) ?_
    | refine vb_i (e_nilNilN _) ?_
    | refine vb_i (e_pickT _ _) ?_
    | refine vb_i (e_pickF _ _) ?_
    | refine vb_i e_notd ?_
    | refine vb_i e_boolNe ?_
    | refine vb_i e_boolEq ?_
    | refine vb_i (e_not _) ?_
    | refine vb_i (e_nilCheck _) ?_
    | refine vb_i (e_fieldAddr _ _) ?_
    | refine hb_i (e_alloc _ _) ?_
    | (refine vb_i (adds ?_) ?_; (· first | omega | (simp only [List.length_cons, List.length_nil, List.length_append]; omega)))
    refine isB_c (fun h1 => ?_) (fun h1 => ?_)
    · refine vb_i zero32_build ?_
      unfold zero32
      with_reducible refine sb_i (store_new List.length_replicate List.length_replicate (cells_rep _ _ _)) ?_
      exact ⟨rfl, .inl ⟨rfl, rfl, .inl h1⟩⟩
    · repeat with_reducible first
      | refine isB_T ?_
      | refine isB_F ?_
      | (refine isB_ct ?_ ?_; (· first | omega | rfl | assumption | trivial))
      | (refine isB_cf ?_ ?_; (· first | omega | assumption))
      | refine onE_i ?_
      | (refine onE_s ?_ ?_; (· decide))
      | refine vb_i e_ext0 ?_
      | refine vb_i e_ext1 ?_
      | refine vb_i e_ext2 ?_
      | refine vb_i (lss64 _ _ _) ?_
      | refine vb_i (leq64 _ _ _) ?_
      | refine vb_i (gtr64 _ _ _) ?_
      | refine vb_i (geq64 _ _ _) ?_
      | refine vb_i (eql64 _ _ _) ?_
      | refine vb_i (neq64 _ _ _) ?_
      | refine vb_i (eqls _ _) ?_
      | refine vb_i (neqs _ _) ?_
      | (refine vb_i (add64 ?_ ?_) ?_; (· omega); (· omega))
      | (refine vb_i (sub64 ?_ ?_) ?_; (· omega); (· omega))
      | (refine vb_i (mul64 ?_ ?_) ?_; (· omega); (· omega))
      | (refine vb_i (quo64 ?_ ?_ ?_) ?_; (· omega); (· omega); (· omega))
      | (refine vb_i (rem64 ?_ ?_) ?_; (· omega); (· omega))
      | refine vb_i (e_lenSt _) ?_
      | refine vb_i (e_lenSl _ _ _) ?_
      | refine vb_i e_lenNil ?_
      | refine vb_i (lenSl_view (by assumption)) ?_
      | refine vb_i (e_ptrNil _ _) ?_
      | refine vb_i (e_ptrNilN _ _) ?_
      | refine vb_i (e_nilNil _) ?_
      | refine vb_i (e_nilNilN _) ?_
      | refine vb_i (e_pickT _ _) ?_
      | refine vb_i (e_pickF _ _) ?_
      | refine vb_i e_notd ?_
      | refine vb_i e_boolNe ?_
      | refine vb_i e_boolEq ?_
      | refine vb_i (e_not _) ?_
      | refine vb_i (e_nilCheck _) ?_
      | refine vb_i (e_fieldAddr _ _) ?_
      | refine hb_i (e_alloc _ _) ?_
      | (refine vb_i (adds ?_) ?_; (· first | omega | (simp only [List.length_cons, List.length_nil, List.length_append]; omega)))
      refine isB_c (fun h2 => ?_) (fun h2 => ?_)
      · refine vb_i zero32_build ?_
        unfold zero32
        with_reducible refine sb_i (store_new List.length_replicate List.length_replicate (cells_rep _ _ _)) ?_
        exact ⟨rfl, .inl ⟨rfl, rfl, .inr (by omega)⟩⟩
      · exact ⟨rfl, .inr ⟨rfl, by omega⟩⟩
  rintro _ vs B ⟨rfl, ⟨rfl, rfl, hn⟩ | ⟨rfl, hn⟩⟩
  · rcases h with ⟨_, rfl, rfl⟩ | ⟨k, rfl, hk, _⟩
    · repeat with_reducible first
      | refine isB_T ?_
      | refine isB_F ?_
      | (refine isB_ct ?_ ?_; (· first | omega | rfl | assumption | trivial))
      | (refine isB_cf ?_ ?_; (· first | omega | assumption))
      | refine onE_i ?_
      | (refine onE_s ?_ ?_; (· decide))
      | refine vb_i e_ext0 ?_
      | refine vb_i e_ext1 ?_
      | refine vb_i e_ext2 ?_
      | refine vb_i (lss64 _ _ _) ?_
      | refine vb_i (leq64 _ _ _) ?_
      | refine vb_i (gtr64 _ _ _) ?_
      | refine vb_i (geq64 _ _ _) ?_
      | refine vb_i (eql64 _ _ _) ?_
      | refine vb_i (neq64 _ _ _) ?_
      | refine vb_i (eqls _ _) ?_
      | refine vb_i (neqs _ _) ?_
      | (refine vb_i (add64 ?_ ?_) ?_; (· omega); (· omega))
      | (refine vb_i (sub64 ?_ ?_) ?_; (· omega); (· omega))
      | (refine vb_i (mul64 ?_ ?_) ?_; (· omega); (· omega))
      | (refine vb_i (quo64 ?_ ?_ ?_) ?_; (· omega); (· omega); (· omega))
      | (refine vb_i (rem64 ?_ ?_) ?_; (· omega); (· omega))
      | refine vb_i (e_lenSt _) ?_
      | refine vb_i (e_lenSl _ _ _) ?_
      | refine vb_i e_lenNil ?_
      | refine vb_i (lenSl_view (by assumption)) ?_
      | refine vb_i (e_ptrNil _ _) ?_
      | refine vb_i (e_ptrNilN _ _) ?_
      | refine vb_i (e_nilNil _) ?_
      | refine vb_i (e_nilNilN _) ?_
      | refine vb_i (e_pickT _ _) ?_
      | refine vb_i (e_pickF _ _) ?_
      | refine vb_i e_notd ?_
      | refine vb_i e_boolNe ?_
      | refine vb_i e_boolEq ?_
      | refine vb_i (e_not _) ?_
      | refine vb_i (e_nilCheck _) ?_
      | refine vb_i (e_fieldAddr _ _) ?_
      | refine hb_i (e_alloc _ _) ?_
      | (refine vb_i (adds ?_) ?_; (· first | omega | (simp only [List.length_cons, List.length_nil, List.length_append]; omega)))
      try simp only [evB]
      refine fin_ret (vs := [.str [], .agg (List.replicate 32 (.int .u8 0)), .int .i64 3]) (rvs_v (rvs_c (load_new List.length_replicate) (rvs_v (rvs_nil _)))) ?_
      exact Weak.any (ren_trip (ren_p rfl) (agg_plain zero32_plain) (ren_p rfl)) (pre_app _ _)
    · omega
  · rcases h with ⟨hb, _⟩ | ⟨k, rfl, hk, rfl, hO⟩
    · exact absurd hb hn
    · have r0 := (Run.push (Run.start hO) [AObj.cells 0 .exact (List.replicate 32 (.int .u8 0))]).weaken (own' := fun q => q = H.length) fun q hq => .inr (by simp; omega)
      have gz : (H ++ [AObj.cells 0 .exact (List.replicate 32 (.int .u8 0))])[H.length]? = some (.cells 0 .exact (List.replicate 32 (.int .u8 0))) := by rw [app_get0]; rfl
      generalize H ++ [AObj.cells 0 .exact (List.replicate 32 (.int .u8 0))] = B at *
      have hbl := bareT_len k
      have hBl : (bareT k).length + 1 ≤ (BareT k).length := by simp [BareT]
      have hbk := bw_len k
      have hb0 := bw_len 0
      repeat with_reducible first
      | refine isB_T ?_
      | refine isB_F ?_
      | (refine isB_ct ?_ ?_; (· first | omega | rfl | assumption | trivial))
      | (refine isB_cf ?_ ?_; (· first | omega | assumption))
      | refine onE_i ?_
      | (refine onE_s ?_ ?_; (· decide))
      | refine vb_i e_ext0 ?_
      | refine vb_i e_ext1 ?_
      | refine vb_i e_ext2 ?_
      | refine vb_i (lss64 _ _ _) ?_
      | refine vb_i (leq64 _ _ _) ?_
      | refine vb_i (gtr64 _ _ _) ?_
      | refine vb_i (geq64 _ _ _) ?_
      | refine vb_i (eql64 _ _ _) ?_
      | refine vb_i (neq64 _ _ _) ?_
      | refine vb_i (eqls _ _) ?_
      | refine vb_i (neqs _ _) ?_
      | (refine vb_i (add64 ?_ ?_) ?_; (· omega); (· omega))
      | (refine vb_i (sub64 ?_ ?_) ?_; (· omega); (· omega))
      | (refine vb_i (mul64 ?_ ?_) ?_; (· omega); (· omega))
      | (refine vb_i (quo64 ?_ ?_ ?_) ?_; (· omega); (· omega); (· omega))
      | (refine vb_i (rem64 ?_ ?_) ?_; (· omega); (· omega))
      | refine vb_i (e_lenSt _) ?_
      | refine vb_i (e_lenSl _ _ _) ?_
      | refine vb_i e_lenNil ?_
      | refine vb_i (lenSl_view (by assumption)) ?_
      | refine vb_i (e_ptrNil _ _) ?_
      | refine vb_i (e_ptrNilN _ _) ?_
      | refine vb_i (e_nilNil _) ?_
      | refine vb_i (e_nilNilN _) ?_
      | refine vb_i (e_pickT _ _) ?_
      | refine vb_i (e_pickF _ _) ?_
      | refine vb_i e_notd ?_
      | refine vb_i e_boolNe ?_
      | refine vb_i e_boolEq ?_
      | refine vb_i (e_not _) ?_
      | refine vb_i (e_nilCheck _) ?_
      | refine vb_i (e_fieldAddr _ _) ?_
      | refine hb_i (e_alloc _ _) ?_
      | (refine vb_i (adds ?_) ?_; (· first | omega | (simp only [List.length_cons, List.length_nil, List.length_append]; omega)))
      obtain ⟨C1, hO1, r1, hle1, hk1⟩ := Run.call r0 (ts := bareT k) (by simp only [List.length_nil]; omega) (fun s hs => by rw [bareT_short k s hs]; decide)
      refine cb_i _ _ ⟨o, k, rfl, hk, rfl, hO1⟩ ?_
      obtain ⟨C2, hO2, r2, hle2, hk2⟩ := Run.call r1 (ts := [1 :: bw k]) (by simp only [List.length_append, List.length_nil, List.length_cons]; omega) (by simp [hbk])
      refine cb_i _ _ ⟨o, bw k, rfl, .inr ⟨hbk, rfl, hO2⟩⟩ ?_
      have hsl := sum_len (1 :: bw k)
      repeat with_reducible first
      | refine isB_T ?_
      | refine isB_F ?_
      | (refine isB_ct ?_ ?_; (· first | omega | rfl | assumption | trivial))
      | (refine isB_cf ?_ ?_; (· first | omega | assumption))
      | refine onE_i ?_
      | (refine onE_s ?_ ?_; (· decide))
      | refine vb_i e_ext0 ?_
      | refine vb_i e_ext1 ?_
      | refine vb_i e_ext2 ?_
      | refine vb_i (lss64 _ _ _) ?_
      | refine vb_i (leq64 _ _ _) ?_
      | refine vb_i (gtr64 _ _ _) ?_
      | refine vb_i (geq64 _ _ _) ?_
      | refine vb_i (eql64 _ _ _) ?_
      | refine vb_i (neq64 _ _ _) ?_
      | refine vb_i (eqls _ _) ?_
      | refine vb_i (neqs _ _) ?_
      | (refine vb_i (add64 ?_ ?_) ?_; (· omega); (· omega))
      | (refine vb_i (sub64 ?_ ?_) ?_; (· omega); (· omega))
      | (refine vb_i (mul64 ?_ ?_) ?_; (· omega); (· omega))
      | (refine vb_i (quo64 ?_ ?_ ?_) ?_; (· omega); (· omega); (· omega))
      | (refine vb_i (rem64 ?_ ?_) ?_; (· omega); (· omega))
      | refine vb_i (e_lenSt _) ?_
      | refine vb_i (e_lenSl _ _ _) ?_
      | refine vb_i e_lenNil ?_
      | refine vb_i (lenSl_view (by assumption)) ?_
      | refine vb_i (e_ptrNil _ _) ?_
      | refine vb_i (e_ptrNilN _ _) ?_
      | refine vb_i (e_nilNil _) ?_
      | refine vb_i (e_nilNilN _) ?_
      | refine vb_i (e_pickT _ _) ?_
      | refine vb_i (e_pickF _ _) ?_
      | refine vb_i e_notd ?_
      | refine vb_i e_boolNe ?_
      | refine vb_i e_boolEq ?_
      | refine vb_i (e_not _) ?_
      | refine vb_i (e_nilCheck _) ?_
      | refine vb_i (e_fieldAddr _ _) ?_
      | refine hb_i (e_alloc _ _) ?_
      | (refine vb_i (adds ?_) ?_; (· first | omega | (simp only [List.length_cons, List.length_nil, List.length_append]; omega)))
      with_reducible refine sb_i (store_new List.length_replicate (by rw [List.length_map]; exact hsl) (cells_byte _)) ?_
      have gz2 := (hk2 _ rfl).trans ((hk1 _ rfl).trans gz)
      have r3 := Run.push r2 [AObj.cells 0 .exact ((sum (1 :: bw k)).map ofByte)]
      have gn : (C2 ++ [AObj.cells 0 .exact ((sum (1 :: bw k)).map ofByte)])[C2.length]? = some (.cells 0 .exact ((sum (1 :: bw k)).map ofByte)) := by rw [app_get0]; rfl
      have gz3 : (C2 ++ [AObj.cells 0 .exact ((sum (1 :: bw k)).map ofByte)])[H.length]? = some (.cells 0 .exact (List.replicate 32 (.int .u8 0))) := by rw [pre_get (pre_app _ _) (lt_of_some gz2)]; exact gz2
      have hHC := lt_of_some gz2
      refine JoinP.mk (fun e vs D => e = .normal ∧ D[C2.length]? = some (.cells 0 .exact ((bd k).1.map ofByte)) ∧ D[H.length]? = some (.cells 0 .exact (List.replicate 32 (.int .u8 0))) ∧ Run H o (BareT k) H' D (fun q => q = H.length) (BareT k)) ?_ ?_
      · by_cases hk0 : k = 0
        · subst hk0
          repeat with_reducible first
          | refine isB_T ?_
          | refine isB_F ?_
          | (refine isB_ct ?_ ?_; (· first | omega | rfl | assumption | trivial))
          | (refine isB_cf ?_ ?_; (· first | omega | assumption))
          | refine onE_i ?_
          | (refine onE_s ?_ ?_; (· decide))
          | refine vb_i e_ext0 ?_
          | refine vb_i e_ext1 ?_
          | refine vb_i e_ext2 ?_
          | refine vb_i (lss64 _ _ _) ?_
          | refine vb_i (leq64 _ _ _) ?_
          | refine vb_i (gtr64 _ _ _) ?_
          | refine vb_i (geq64 _ _ _) ?_
          | refine vb_i (eql64 _ _ _) ?_
          | refine vb_i (neq64 _ _ _) ?_
          | refine vb_i (eqls _ _) ?_
          | refine vb_i (neqs _ _) ?_
          | (refine vb_i (add64 ?_ ?_) ?_; (· omega); (· omega))
          | (refine vb_i (sub64 ?_ ?_) ?_; (· omega); (· omega))
          | (refine vb_i (mul64 ?_ ?_) ?_; (· omega); (· omega))
          | (refine vb_i (quo64 ?_ ?_ ?_) ?_; (· omega); (· omega); (· omega))
          | (refine vb_i (rem64 ?_ ?_) ?_; (· omega); (· omega))
          | refine vb_i (e_lenSt _) ?_
          | refine vb_i (e_lenSl _ _ _) ?_
          | refine vb_i e_lenNil ?_
          | refine vb_i (lenSl_view (by assumption)) ?_
          | refine vb_i (e_ptrNil _ _) ?_
          | refine vb_i (e_ptrNilN _ _) ?_
          | refine vb_i (e_nilNil _) ?_
          | refine vb_i (e_nilNilN _) ?_
          | refine vb_i (e_pickT _ _) ?_
          | refine vb_i (e_pickF _ _) ?_
          | refine vb_i e_notd ?_
          | refine vb_i e_boolNe ?_
          | refine vb_i e_boolEq ?_
          | refine vb_i (e_not _) ?_
          | refine vb_i (e_nilCheck _) ?_
          | refine vb_i (e_fieldAddr _ _) ?_
          | refine hb_i (e_alloc _ _) ?_
          | (refine vb_i (adds ?_) ?_; (· first | omega | (simp only [List.length_cons, List.length_nil, List.length_append]; omega)))
          obtain ⟨C3, hO3, r4, hle3, hk3⟩ := Run.call r3 (ts := [0 :: bw 0]) (by simp [BareT]) (by simp [hb0])
          refine cb_i _ _ ⟨o, bw 0, rfl, .inr ⟨hb0, rfl, hO3⟩⟩ ?_
          rw [← bd0]
          have g4 := (hk3 _ (.inr ⟨Nat.le_refl _, by simp⟩)).trans gn
          have gz4 := (hk3 _ (.inl rfl)).trans gz3
          repeat with_reducible first
          | refine isB_T ?_
          | refine isB_F ?_
          | (refine isB_ct ?_ ?_; (· first | omega | rfl | assumption | trivial))
          | (refine isB_cf ?_ ?_; (· first | omega | assumption))
          | refine onE_i ?_
          | (refine onE_s ?_ ?_; (· decide))
          | refine vb_i e_ext0 ?_
          | refine vb_i e_ext1 ?_
          | refine vb_i e_ext2 ?_
          | refine vb_i (lss64 _ _ _) ?_
          | refine vb_i (leq64 _ _ _) ?_
          | refine vb_i (gtr64 _ _ _) ?_
          | refine vb_i (geq64 _ _ _) ?_
          | refine vb_i (eql64 _ _ _) ?_
          | refine vb_i (neq64 _ _ _) ?_
          | refine vb_i (eqls _ _) ?_
          | refine vb_i (neqs _ _) ?_
          | (refine vb_i (add64 ?_ ?_) ?_; (· omega); (· omega))
          | (refine vb_i (sub64 ?_ ?_) ?_; (· omega); (· omega))
          | (refine vb_i (mul64 ?_ ?_) ?_; (· omega); (· omega))
          | (refine vb_i (quo64 ?_ ?_ ?_) ?_; (· omega); (· omega); (· omega))
          | (refine vb_i (rem64 ?_ ?_) ?_; (· omega); (· omega))
          | refine vb_i (e_lenSt _) ?_
          | refine vb_i (e_lenSl _ _ _) ?_
          | refine vb_i e_lenNil ?_
          | refine vb_i (lenSl_view (by assumption)) ?_
          | refine vb_i (e_ptrNil _ _) ?_
          | refine vb_i (e_ptrNilN _ _) ?_
          | refine vb_i (e_nilNil _) ?_
          | refine vb_i (e_nilNilN _) ?_
          | refine vb_i (e_pickT _ _) ?_
          | refine vb_i (e_pickF _ _) ?_
          | refine vb_i e_notd ?_
          | refine vb_i e_boolNe ?_
          | refine vb_i e_boolEq ?_
          | refine vb_i (e_not _) ?_
          | refine vb_i (e_nilCheck _) ?_
          | refine vb_i (e_fieldAddr _ _) ?_
          | refine hb_i (e_alloc _ _) ?_
          | (refine vb_i (adds ?_) ?_; (· first | omega | (simp only [List.length_cons, List.length_nil, List.length_append]; omega)))
          with_reducible refine sb_i (store32 g4 (by rw [List.length_map]; exact hsl) (by rw [List.length_map]; exact (bd 0).2) (cells_byte _)) ?_
          refine ⟨rfl, by rw [List.getElem?_set_self (lt_of_some g4)], by rw [List.getElem?_set_ne (by omega)]; exact gz4, ?_⟩
          have e1 : BareT 0 = [] ++ bareT 0 ++ [1 :: bw 0] ++ [0 :: bw 0] := by simp [BareT]
          rw [e1]
          rw [e1] at r4
          exact Run.weaken (Run.set r4 (.inr ⟨Nat.le_refl _, by simp⟩) _) fun q hq => .inl hq
        · repeat with_reducible first
          | refine isB_T ?_
          | refine isB_F ?_
          | (refine isB_ct ?_ ?_; (· first | omega | rfl | assumption | trivial))
          | (refine isB_cf ?_ ?_; (· first | omega | assumption))
          | refine onE_i ?_
          | (refine onE_s ?_ ?_; (· decide))
          | refine vb_i e_ext0 ?_
          | refine vb_i e_ext1 ?_
          | refine vb_i e_ext2 ?_
          | refine vb_i (lss64 _ _ _) ?_
          | refine vb_i (leq64 _ _ _) ?_
          | refine vb_i (gtr64 _ _ _) ?_
          | refine vb_i (geq64 _ _ _) ?_
          | refine vb_i (eql64 _ _ _) ?_
          | refine vb_i (neq64 _ _ _) ?_
          | refine vb_i (eqls _ _) ?_
          | refine vb_i (neqs _ _) ?_
          | (refine vb_i (add64 ?_ ?_) ?_; (· omega); (· omega))
          | (refine vb_i (sub64 ?_ ?_) ?_; (· omega); (· omega))
          | (refine vb_i (mul64 ?_ ?_) ?_; (· omega); (· omega))
          | (refine vb_i (quo64 ?_ ?_ ?_) ?_; (· omega); (· omega); (· omega))
          | (refine vb_i (rem64 ?_ ?_) ?_; (· omega); (· omega))
          | refine vb_i (e_lenSt _) ?_
          | refine vb_i (e_lenSl _ _ _) ?_
          | refine vb_i e_lenNil ?_
          | refine vb_i (lenSl_view (by assumption)) ?_
          | refine vb_i (e_ptrNil _ _) ?_
          | refine vb_i (e_ptrNilN _ _) ?_
          | refine vb_i (e_nilNil _) ?_
          | refine vb_i (e_nilNilN _) ?_
          | refine vb_i (e_pickT _ _) ?_
          | refine vb_i (e_pickF _ _) ?_
          | refine vb_i e_notd ?_
          | refine vb_i e_boolNe ?_
          | refine vb_i e_boolEq ?_
          | refine vb_i (e_not _) ?_
          | refine vb_i (e_nilCheck _) ?_
          | refine vb_i (e_fieldAddr _ _) ?_
          | refine hb_i (e_alloc _ _) ?_
          | (refine vb_i (adds ?_) ?_; (· first | omega | (simp only [List.length_cons, List.length_nil, List.length_append]; omega)))
          obtain ⟨m, rfl⟩ : ∃ m, k = m + 1 := ⟨k - 1, by omega⟩
          have e1 : BareT (m + 1) = [] ++ bareT (m + 1) ++ [1 :: bw (m + 1)] := by simp [BareT]
          rw [← e1] at r3
          exact ⟨rfl, gn, gz3, Run.weaken r3 fun q hq => .inl hq⟩
      · rintro _ vs D ⟨rfl, d1, d2, r5⟩
        repeat with_reducible first
        | refine isB_T ?_
        | refine isB_F ?_
        | (refine isB_ct ?_ ?_; (· first | omega | rfl | assumption | trivial))
        | (refine isB_cf ?_ ?_; (· first | omega | assumption))
        | refine onE_i ?_
        | (refine onE_s ?_ ?_; (· decide))
        | refine vb_i e_ext0 ?_
        | refine vb_i e_ext1 ?_
        | refine vb_i e_ext2 ?_
        | refine vb_i (lss64 _ _ _) ?_
        | refine vb_i (leq64 _ _ _) ?_
        | refine vb_i (gtr64 _ _ _) ?_
        | refine vb_i (geq64 _ _ _) ?_
        | refine vb_i (eql64 _ _ _) ?_
        | refine vb_i (neq64 _ _ _) ?_
        | refine vb_i (eqls _ _) ?_
        | refine vb_i (neqs _ _) ?_
        | (refine vb_i (add64 ?_ ?_) ?_; (· omega); (· omega))
        | (refine vb_i (sub64 ?_ ?_) ?_; (· omega); (· omega))
        | (refine vb_i (mul64 ?_ ?_) ?_; (· omega); (· omega))
        | (refine vb_i (quo64 ?_ ?_ ?_) ?_; (· omega); (· omega); (· omega))
        | (refine vb_i (rem64 ?_ ?_) ?_; (· omega); (· omega))
        | refine vb_i (e_lenSt _) ?_
        | refine vb_i (e_lenSl _ _ _) ?_
        | refine vb_i e_lenNil ?_
        | refine vb_i (lenSl_view (by assumption)) ?_
        | refine vb_i (e_ptrNil _ _) ?_
        | refine vb_i (e_ptrNilN _ _) ?_
        | refine vb_i (e_nilNil _) ?_
        | refine vb_i (e_nilNilN _) ?_
        | refine vb_i (e_pickT _ _) ?_
        | refine vb_i (e_pickF _ _) ?_
        | refine vb_i e_notd ?_
        | refine vb_i e_boolNe ?_
        | refine vb_i e_boolEq ?_
        | refine vb_i (e_not _) ?_
        | refine vb_i (e_nilCheck _) ?_
        | refine vb_i (e_fieldAddr _ _) ?_
        | refine hb_i (e_alloc _ _) ?_
        | (refine vb_i (adds ?_) ?_; (· first | omega | (simp only [List.length_cons, List.length_nil, List.length_append]; omega)))
        refine vb_i (e_loadAll d1 (by rw [List.length_map]; exact (bd k).2)) ?_
        refine sb_i (store32 d2 List.length_replicate (by rw [List.length_map]; exact (bd k).2) (cells_byte _)) ?_
        refine fin_ret (vs := [.str (bw k), .agg ((bd k).1.map ofByte), .int .i64 0]) (rvs_v (rvs_c (e_loadAll (by rw [List.getElem?_set_self (lt_of_some d2)]) (by rw [List.length_map]; exact (bd k).2)) (rvs_v (rvs_nil _)))) ?_
        exact Run.fin (Run.set r5 rfl _) (ren_trip (ren_p rfl) (agg_plain (bytes_plain _)) (ren_p rfl))

theorem node_High.ok (args : List AVal) (H : AHeap) (r : AVal) (H' : AHeap) (h : S_node_High args H r H') : ∃ x0, args = [x0] ∧ node_High.w x0 H fun r1 H1 => Weak H r1 H1 r H' := by
  obtain ⟨n, rfl, rfl, rfl⟩ := h
  refine ⟨_, rfl, ?_⟩
  unfold node_High.w
  refine JoinP.mk (fun e vs B => B = H' ∧ ((e = .ret ∧ vs = [.int .i64 0, .int .i64 3] ∧ (n < 0 ∨ 63 ≤ n)) ∨ (e = .normal ∧ ¬ (n < 0 ∨ 63 ≤ n)))) ?_ ?_
  · repeat with_reducible first
    | refine isB_T ?_
    | refine isB_F ?_
    | (refine isB_ct ?_ ?_; (· first | omega | rfl | assumption | trivial))
    | (refine isB_cf ?_ ?_; (· first | omega | assumption))
    | refine onE_i ?_
    | (refine onE_s ?_ ?_; (· decide))
    | refine vb_i e_ext0 ?_
    | refine vb_i e_ext1 ?_
    | refine vb_i e_ext2 ?_
    | refine vb_i (lss64 _ _ _) ?_
    | refine vb_i (leq64 _ _ _) ?_
    | refine vb_i (gtr64 _ _ _) ?_
    | refine vb_i (geq64 _ _ _) ?_
    | refine vb_i (eql64 _ _ _) ?_
    | refine vb_i (neq64 _ _ _) ?_
    | refine vb_i (eqls _ _) ?_
    | refine vb_i (neqs _ _) ?_
    | (refine vb_i (add64 ?_ ?_) ?_; (· omega); (· omega))
    | (refine vb_i (sub64 ?_ ?_) ?_; (· omega); (· omega))
    | (refine vb_i (mul64 ?_ ?_) ?_; (· omega); (· omega))
    | (refine vb_i (quo64 ?_ ?_ ?_) ?_; (· omega); (· omega); (· omega))
    | (refine vb_i (rem64 ?_ ?_) ?_; (· omega); (· omega))
    | refine vb_i (e_lenSt _) ?_
    | refine vb_i (e_lenSl _ _ _) ?_
    | refine vb_i e_lenNil ?_
    | refine vb_i (lenSl_view (by assumption)) ?_
    | refine vb_i (e_ptrNil _ _) ?_
    | refine vb_i (e_ptrNilN _ _) ?_
    | refine vb_i (e_nilNil _) ?_
    | refine vb_i (e_nilNilN _) ?_
    | refine vb_i (e_pickT _ _) ?_
    | refine vb_i (e_pickF _ _) ?_
    | refine vb_i e_notd ?_
    | refine vb_i e_boolNe ?_
    | refine vb_i e_boolEq ?_
    | refine vb_i (e_not _) ?_
    | refine vb_i (e_nilCheck _) ?_
    | refine vb_i (e_fieldAddr _ _) ?_
    | refine hb_i (e_alloc _ _) ?_
    | (refine vb_i (adds ?_) ?_; (· first | omega | (simp only [List.length_cons, List.length_nil, List.length_append]; omega)))
    refine isB_c (fun h1 => ?_) (fun h1 => ?_)
    · exact ⟨rfl, .inl ⟨rfl, rfl, .inl h1⟩⟩
    · repeat with_reducible first
      | refine isB_T ?_
      | refine isB_F ?_
      | (refine isB_ct ?_ ?_; (· first | omega | rfl | assumption | trivial))
      | (refine isB_cf ?_ ?_; (· first | omega | assumption))
      | refine onE_i ?_
      | (refine onE_s ?_ ?_; (· decide))
      | refine vb_i e_ext0 ?_
      | refine vb_i e_ext1 ?_
      | refine vb_i e_ext2 ?_
      | refine vb_i (lss64 _ _ _) ?_
      | refine vb_i (leq64 _ _ _) ?_
      | refine vb_i (gtr64 _ _ _) ?_
      | refine vb_i (geq64 _ _ _) ?_
      | refine vb_i (eql64 _ _ _) ?_
      | refine vb_i (neq64 _ _ _) ?_
      | refine vb_i (eqls _ _) ?_
      | refine vb_i (neqs _ _) ?_
      | (refine vb_i (add64 ?_ ?_) ?_; (· omega); (· omega))
      | (refine vb_i (sub64 ?_ ?_) ?_; (· omega); (· omega))
      | (refine vb_i (mul64 ?_ ?_) ?_; (· omega); (· omega))
      | (refine vb_i (quo64 ?_ ?_ ?_) ?_; (· omega); (· omega); (· omega))
      | (refine vb_i (rem64 ?_ ?_) ?_; (· omega); (· omega))
      | refine vb_i (e_lenSt _) ?_
      | refine vb_i (e_lenSl _ _ _) ?_
      | refine vb_i e_lenNil ?_
      | refine vb_i (lenSl_view (by assumption)) ?_
      | refine vb_i (e_ptrNil _ _) ?_
      | refine vb_i (e_ptrNilN _ _) ?_
      | refine vb_i (e_nilNil _) ?_
      | refine vb_i (e_nilNilN _) ?_
      | refine vb_i (e_pickT _ _) ?_
      | refine vb_i (e_pickF _ _) ?_
      | refine vb_i e_notd ?_
      | refine vb_i e_boolNe ?_
      | refine vb_i e_boolEq ?_
      | refine vb_i (e_not _) ?_
      | refine vb_i (e_nilCheck _) ?_
      | refine vb_i (e_fieldAddr _ _) ?_
      | refine hb_i (e_alloc _ _) ?_
      | (refine vb_i (adds ?_) ?_; (· first | omega | (simp only [List.length_cons, List.length_nil, List.length_append]; omega)))
      refine isB_c (fun h2 => ?_) (fun h2 => ?_)
      · exact ⟨rfl, .inl ⟨rfl, rfl, .inr (by omega)⟩⟩
      · exact ⟨rfl, .inr ⟨rfl, by omega⟩⟩
  rintro _ vs B ⟨rfl, ⟨rfl, rfl, hn⟩ | ⟨rfl, hn⟩⟩
  · repeat with_reducible first
    | refine isB_T ?_
    | refine isB_F ?_
    | (refine isB_ct ?_ ?_; (· first | omega | rfl | assumption | trivial))
    | (refine isB_cf ?_ ?_; (· first | omega | assumption))
    | refine onE_i ?_
    | (refine onE_s ?_ ?_; (· decide))
    | refine vb_i e_ext0 ?_
    | refine vb_i e_ext1 ?_
    | refine vb_i e_ext2 ?_
    | refine vb_i (lss64 _ _ _) ?_
    | refine vb_i (leq64 _ _ _) ?_
    | refine vb_i (gtr64 _ _ _) ?_
    | refine vb_i (geq64 _ _ _) ?_
    | refine vb_i (eql64 _ _ _) ?_
    | refine vb_i (neq64 _ _ _) ?_
    | refine vb_i (eqls _ _) ?_
    | refine vb_i (neqs _ _) ?_
    | (refine vb_i (add64 ?_ ?_) ?_; (· omega); (· omega))
    | (refine vb_i (sub64 ?_ ?_) ?_; (· omega); (· omega))
    | (refine vb_i (mul64 ?_ ?_) ?_; (· omega); (· omega))
    | (refine vb_i (quo64 ?_ ?_ ?_) ?_; (· omega); (· omega); (· omega))
    | (refine vb_i (rem64 ?_ ?_) ?_; (· omega); (· omega))
    | refine vb_i (e_lenSt _) ?_
    | refine vb_i (e_lenSl _ _ _) ?_
    | refine vb_i e_lenNil ?_
    | refine vb_i (lenSl_view (by assumption)) ?_
    | refine vb_i (e_ptrNil _ _) ?_
    | refine vb_i (e_ptrNilN _ _) ?_
    | refine vb_i (e_nilNil _) ?_
    | refine vb_i (e_nilNilN _) ?_
    | refine vb_i (e_pickT _ _) ?_
    | refine vb_i (e_pickF _ _) ?_
    | refine vb_i e_notd ?_
    | refine vb_i e_boolNe ?_
    | refine vb_i e_boolEq ?_
    | refine vb_i (e_not _) ?_
    | refine vb_i (e_nilCheck _) ?_
    | refine vb_i (e_fieldAddr _ _) ?_
    | refine hb_i (e_alloc _ _) ?_
    | (refine vb_i (adds ?_) ?_; (· first | omega | (simp only [List.length_cons, List.length_nil, List.length_append]; omega)))
    try simp only [evB]
    have hR : highR n = [.int .i64 0, .int .i64 3] := if_pos hn
    rw [hR]
    exact fin_ret (vs := [.int .i64 0, .int .i64 3]) (rvs_v (rvs_v (rvs_nil _))) (Weak.refl (ren_pair (ren_p rfl) (ren_p rfl)))
  · have hR : highR n = [.int .i64 (6 - hops n.toNat), .int .i64 0] := if_neg hn
    obtain ⟨k, rfl⟩ : ∃ k : Nat, n = k := ⟨n.toNat, by omega⟩
    rw [hR, Int.toNat_natCast]
    repeat with_reducible first
    | refine isB_T ?_
    | refine isB_F ?_
    | (refine isB_ct ?_ ?_; (· first | omega | rfl | assumption | trivial))
    | (refine isB_cf ?_ ?_; (· first | omega | assumption))
    | refine onE_i ?_
    | (refine onE_s ?_ ?_; (· decide))
    | refine vb_i e_ext0 ?_
    | refine vb_i e_ext1 ?_
    | refine vb_i e_ext2 ?_
    | refine vb_i (lss64 _ _ _) ?_
    | refine vb_i (leq64 _ _ _) ?_
    | refine vb_i (gtr64 _ _ _) ?_
    | refine vb_i (geq64 _ _ _) ?_
    | refine vb_i (eql64 _ _ _) ?_
    | refine vb_i (neq64 _ _ _) ?_
    | refine vb_i (eqls _ _) ?_
    | refine vb_i (neqs _ _) ?_
    | (refine vb_i (add64 ?_ ?_) ?_; (· omega); (· omega))
    | (refine vb_i (sub64 ?_ ?_) ?_; (· omega); (· omega))
    | (refine vb_i (mul64 ?_ ?_) ?_; (· omega); (· omega))
    | (refine vb_i (quo64 ?_ ?_ ?_) ?_; (· omega); (· omega); (· omega))
    | (refine vb_i (rem64 ?_ ?_) ?_; (· omega); (· omega))
    | refine vb_i (e_lenSt _) ?_
    | refine vb_i (e_lenSl _ _ _) ?_
    | refine vb_i e_lenNil ?_
    | refine vb_i (lenSl_view (by assumption)) ?_
    | refine vb_i (e_ptrNil _ _) ?_
    | refine vb_i (e_ptrNilN _ _) ?_
    | refine vb_i (e_nilNil _) ?_
    | refine vb_i (e_nilNilN _) ?_
    | refine vb_i (e_pickT _ _) ?_
    | refine vb_i (e_pickF _ _) ?_
    | refine vb_i e_notd ?_
    | refine vb_i e_boolNe ?_
    | refine vb_i e_boolEq ?_
    | refine vb_i (e_not _) ?_
    | refine vb_i (e_nilCheck _) ?_
    | refine vb_i (e_fieldAddr _ _) ?_
    | refine hb_i (e_alloc _ _) ?_
    | (refine vb_i (adds ?_) ?_; (· first | omega | (simp only [List.length_cons, List.length_nil, List.length_append]; omega)))
    refine LoopP.ruleG (α := Nat) (fun j => [.int .i64 j, .int .i64 (6 - hops k + hops j)]) (fun j C => j ≤ k ∧ C = B) (fun j => j) k (by simp) ⟨Nat.le_refl _, rfl⟩ ?_
    rintro j C Kn ⟨hj, rfl⟩ hk
    unfold node_High.L4 node_High.L4.b
    try simp only [evB]
    have hh : ∀ q, q ≤ 62 → hops q ≤ 5 := by decide
    have hhk := hh k (by omega)
    have hhj := hh j (by omega)
    by_cases hj0 : 0 < j
    · have hS := hopsS hj0
      repeat with_reducible first
      | refine isB_T ?_
      | refine isB_F ?_
      | (refine isB_ct ?_ ?_; (· first | omega | rfl | assumption | trivial))
      | (refine isB_cf ?_ ?_; (· first | omega | assumption))
      | refine onE_i ?_
      | (refine onE_s ?_ ?_; (· decide))
      | refine vb_i e_ext0 ?_
      | refine vb_i e_ext1 ?_
      | refine vb_i e_ext2 ?_
      | refine vb_i (lss64 _ _ _) ?_
      | refine vb_i (leq64 _ _ _) ?_
      | refine vb_i (gtr64 _ _ _) ?_
      | refine vb_i (geq64 _ _ _) ?_
      | refine vb_i (eql64 _ _ _) ?_
      | refine vb_i (neq64 _ _ _) ?_
      | refine vb_i (eqls _ _) ?_
      | refine vb_i (neqs _ _) ?_
      | (refine vb_i (add64 ?_ ?_) ?_; (· omega); (· omega))
      | (refine vb_i (sub64 ?_ ?_) ?_; (· omega); (· omega))
      | (refine vb_i (mul64 ?_ ?_) ?_; (· omega); (· omega))
      | (refine vb_i (quo64 ?_ ?_ ?_) ?_; (· omega); (· omega); (· omega))
      | (refine vb_i (rem64 ?_ ?_) ?_; (· omega); (· omega))
      | refine vb_i (e_lenSt _) ?_
      | refine vb_i (e_lenSl _ _ _) ?_
      | refine vb_i e_lenNil ?_
      | refine vb_i (lenSl_view (by assumption)) ?_
      | refine vb_i (e_ptrNil _ _) ?_
      | refine vb_i (e_ptrNilN _ _) ?_
      | refine vb_i (e_nilNil _) ?_
      | refine vb_i (e_nilNilN _) ?_
      | refine vb_i (e_pickT _ _) ?_
      | refine vb_i (e_pickF _ _) ?_
      | refine vb_i e_notd ?_
      | refine vb_i e_boolNe ?_
      | refine vb_i e_boolEq ?_
      | refine vb_i (e_not _) ?_
      | refine vb_i (e_nilCheck _) ?_
      | refine vb_i (e_fieldAddr _ _) ?_
      | refine hb_i (e_alloc _ _) ?_
      | (refine vb_i (adds ?_) ?_; (· first | omega | (simp only [List.length_cons, List.length_nil, List.length_append]; omega)))
      have e1 : ((j : Int) - 1) / 2 = (((j - 1) / 2 : Nat) : Int) := by omega
      have e2 : (6 : Int) - hops k + hops j - 1 = 6 - hops k + hops ((j - 1) / 2) := by rw [hS]; push_cast; omega
      rw [e1, e2]
      exact hk ((j - 1) / 2) _ ⟨by omega, rfl⟩ (by omega)
    · have : j = 0 := by omega
      subst this
      repeat with_reducible first
      | refine isB_T ?_
      | refine isB_F ?_
      | (refine isB_ct ?_ ?_; (· first | omega | rfl | assumption | trivial))
      | (refine isB_cf ?_ ?_; (· first | omega | assumption))
      | refine onE_i ?_
      | (refine onE_s ?_ ?_; (· decide))
      | refine vb_i e_ext0 ?_
      | refine vb_i e_ext1 ?_
      | refine vb_i e_ext2 ?_
      | refine vb_i (lss64 _ _ _) ?_
      | refine vb_i (leq64 _ _ _) ?_
      | refine vb_i (gtr64 _ _ _) ?_
      | refine vb_i (geq64 _ _ _) ?_
      | refine vb_i (eql64 _ _ _) ?_
      | refine vb_i (neq64 _ _ _) ?_
      | refine vb_i (eqls _ _) ?_
      | refine vb_i (neqs _ _) ?_
      | (refine vb_i (add64 ?_ ?_) ?_; (· omega); (· omega))
      | (refine vb_i (sub64 ?_ ?_) ?_; (· omega); (· omega))
      | (refine vb_i (mul64 ?_ ?_) ?_; (· omega); (· omega))
      | (refine vb_i (quo64 ?_ ?_ ?_) ?_; (· omega); (· omega); (· omega))
      | (refine vb_i (rem64 ?_ ?_) ?_; (· omega); (· omega))
      | refine vb_i (e_lenSt _) ?_
      | refine vb_i (e_lenSl _ _ _) ?_
      | refine vb_i e_lenNil ?_
      | refine vb_i (lenSl_view (by assumption)) ?_
      | refine vb_i (e_ptrNil _ _) ?_
      | refine vb_i (e_ptrNilN _ _) ?_
      | refine vb_i (e_nilNil _) ?_
      | refine vb_i (e_nilNilN _) ?_
      | refine vb_i (e_pickT _ _) ?_
      | refine vb_i (e_pickF _ _) ?_
      | refine vb_i e_notd ?_
      | refine vb_i e_boolNe ?_
      | refine vb_i e_boolEq ?_
      | refine vb_i (e_not _) ?_
      | refine vb_i (e_nilCheck _) ?_
      | refine vb_i (e_fieldAddr _ _) ?_
      | refine hb_i (e_alloc _ _) ?_
      | (refine vb_i (adds ?_) ?_; (· first | omega | (simp only [List.length_cons, List.length_nil, List.length_append]; omega)))
      try simp only [evB]
      have e3 : (6 : Int) - hops k + hops 0 = 6 - hops k := by rw [hops0]; simp
      rw [e3]
      exact fin_ret (vs := [.int .i64 (6 - hops k), .int .i64 0]) (rvs_v (rvs_v (rvs_nil _))) (Weak.refl (ren_pair (ren_p rfl) (ren_p rfl)))

end Go.Sh

/- Trees of bare leaves: the law. -/
namespace Go.Sh
open Go Go.Abs

end Go.Sh

/- Functions that leave what was there as it was. -/
namespace Go.Sh
open Go Go.Abs

end Go.Sh
