/- One text of these: Bar0, BarW1, BarP1, BarP2, BarQ. -/
import Derived.Test.YtgcjchcmnlifmaaNod
import Derived.Test.YtgcjchcmnlifmaaChain

/- Trees of bare leaves. -/
namespace Go.Sh
open Go Go.Abs

def bd : Nat → D32
  | 0 => bareD
  | k + 1 => nodeD (bd k) (bd k)
/-- The block so many levels above bare leaves. -/
def bw : Nat → List UInt8
  | 0 => zs 64
  | k + 1 => (bd k).1 ++ (bd k).1
theorem bw_len (k : Nat) : (bw k).length = 64 := by
  cases k with
  | zero => exact zs_len 64
  | succ k => simp [bw, (bd k).2]
theorem bw0 : bw 0 = zs 64 := by unfold bw; with_reducible rfl
theorem bd0 : (bd 0).1 = sum (0 :: bw 0) := by rw [bw0]; unfold bd bareD; with_reducible rfl
theorem bdS (k : Nat) : (bd (k + 1)).1 = sum (1 :: bw (k + 1)) := rfl
theorem bwS (k : Nat) : bw (k + 1) = (bd k).1 ++ (bd k).1 := rfl
def bareT (h : Nat) : List (List UInt8) := (0 :: bw 0) :: (List.range h).map fun i => 1 :: bw (i + 1)
theorem bareT_len (h : Nat) : (bareT h).length = h + 1 := by simp [bareT]
theorem bareT_step (h : Nat) : bareT (h + 1) = bareT h ++ [1 :: bw (h + 1)] := by simp [bareT, List.range_succ]
def BareT (h : Nat) : List (List UInt8) := bareT h ++ [1 :: bw h] ++ if h = 0 then [0 :: bw 0] else []
theorem BareT_short (h : Nat) : ∀ s ∈ BareT h, s.length = 65 := by
  intro s hs
  simp only [BareT, bareT, List.mem_append, List.mem_cons, List.mem_map, List.not_mem_nil, or_false] at hs
  rcases hs with ((rfl | ⟨i, _, rfl⟩) | rfl) | hs
  · simp [bw_len]
  · simp [bw_len]
  · simp [bw_len]
  · split at hs
    · simp at hs; subst hs; simp [bw_len]
    · cases hs
theorem bareT_short (h : Nat) : ∀ s ∈ bareT h, s.length = 65 := fun s hs => BareT_short h s (by simp only [BareT, List.mem_append]; exact .inl (.inl hs))
def S_node_bare : Abs.Spec := fun args H r H' => ∃ (o : AVal) (h : Nat), args = [o, .int .i64 h] ∧ h ≤ 6 ∧ r = .str (bw h) ∧ Osums H o (bareT h) H'
def S_node_Bare : Abs.Spec := fun args H r H' => ∃ (o : AVal) (h : Int), args = [o, .int .i64 h] ∧
  (((h < 0 ∨ 6 < h) ∧ r = .tup [.str [], zero32, .int .i64 3] ∧ H' = H) ∨ ∃ k : Nat, h = k ∧ k ≤ 6 ∧ r = .tup [.str (bw k), .agg ((bd k).1.map ofByte), .int .i64 0] ∧ Osums H o (BareT k) H')
def hops (n : Nat) : Nat := Nat.log2 (n + 1)
theorem hops0 : hops 0 = 0 := by decide
theorem hopsS {n : Nat} (h : 0 < n) : hops n = hops ((n - 1) / 2) + 1 := by
  unfold hops
  conv => lhs; rw [Nat.log2_def]
  rw [if_pos (by omega)]
  congr 2; omega
def highR (n : Int) : List AVal := if n < 0 ∨ 63 ≤ n then [.int .i64 0, .int .i64 3] else [.int .i64 (6 - hops n.toNat), .int .i64 0]
def S_node_High : Abs.Spec := fun args H r H' => ∃ n : Int, args = [.int .i64 n] ∧ r = .tup (highR n) ∧ H' = H
def sameR (dd ee : List D32) : Prop := (dd.length = 64 ∧ ee.length = 64) ∧ (val dd 6 0).1 = (val ee 6 0).1
instance (dd ee : List D32) : Decidable (sameR dd ee) := by unfold sameR; infer_instance
/-- Of no oracle. -/
def S_node_Same : Abs.Spec := fun args H r H' => ∃ (x y : AVal) (dd ee : List D32), args = [.nilp, x, y] ∧ RtArgs H .nilp x dd ∧ RtArgs H .nilp y ee ∧ r = .bool (decide (sameR dd ee)) ∧ H' = H
def S_cellaretlaw17_NodeBares : Abs.Spec := fun args H r H' => ∃ (h n : Int) (x y : AVal) (dd ee : List D32), args = [.agg [.int .i64 h, .int .i64 n, x, y]] ∧ View H x 32 dd.length (dcells dd) ∧ dd.length ≤ 9223372036854775807 ∧ View H y 32 ee.length (dcells ee) ∧ ee.length ≤ 9223372036854775807 ∧ r = .bool true ∧ H' = H
theorem val_bare : ∀ k, k ≤ 6 → ∀ j, j < wd k → val (sums64 []) k j = bd k
  | 0, _, j, hj => by
    simp only [val, bd]
    rw [List.getD_eq_getElem?_getD, sums64, List.getElem?_map, List.getElem?_range (by simpa [wd] using hj)]
    simp
  | k + 1, hk, j, hj => by
    have hs := wd_step (k := k) (by omega)
    simp only [val, bd]
    rw [val_bare k (by omega) (2 * j) (by omega), val_bare k (by omega) (2 * j + 1) (by omega)]
theorem zs_cells : (zs 64).map ofByte = List.replicate 64 (.int .u8 0) := by simp [zs, ofByte]
theorem make64 (H : AHeap) : aMakeSlice H 1 [.int .u8 0] (.int .i64 64) (.int .i64 64) = some (.slice ⟨H.length, 0, 0⟩ 64 (.ex 64), H ++ [.cells 0 .exact ((bw 0).map ofByte)]) := by
  rw [bw0, zs_cells]
  simp [aMakeSlice, fillCells]
end Go.Sh

/- What Go functions come to over abstract values, printed by a program (wtext.py). -/
namespace Go.Sh
open Go Go.Abs

def node_bare.L4.b (x1 : AVal) (v8 : AVal) (x0 : AVal) (x5_4 : AVal) (x17_4 : AVal) (H11 : AHeap) (Kn12 : List AVal → AHeap → Prop) (Ke13 : AExit → List AVal → AHeap → Prop) : Prop :=
  vb (aBin .lss x17_4 x1) fun v14 =>
  isB v14 fun b15 => cond b15
    (vb (aSliceArr 32 1 v8 none none none) fun v16 =>
    vb (aBytes2Str H11 v16) fun v17 =>
    vb (aSliceArr 32 1 v8 none none none) fun v18 =>
    vb (aBytes2Str H11 v18) fun v19 =>
    vb (aBin .add v17 v19) fun v20 =>
    cb (S_node_Node [x0, v20] H11) fun v21 H22 =>
    vb (aExtract v21 0) fun v23 =>
    vb (aExtract v21 1) fun v24 =>
    sb (aStore H22 32 v8 v23) fun H25 =>
    vb (aBin .add x17_4 (.int .i64 1)) fun v26 =>
    Kn12 [v20, v26] H25)
    (Ke13 (.exit 0) [x5_4] H11)

def node_bare.L4 (x1 : AVal) (v8 : AVal) (x0 : AVal) : Body := fun vs H Kn Ke => node_bare.L4.b x1 v8 x0 (vs.getD 0 .undef) (vs.getD 1 .undef) H Kn Ke

def node_bare.w (x0 : AVal) (x1 : AVal) (H : AHeap) (K : AVal → AHeap → Prop) : Prop :=
  hb (aMakeSlice H 1 [.int .u8 0] (.int .i64 64) (.int .i64 64)) fun v1 H2 =>
  vb (aBytes2Str H2 v1) fun v3 =>
  cb (S_node_Leaf [x0, v3] H2) fun v4 H5 =>
  vb (aExtract v4 0) fun v6 =>
  vb (aExtract v4 1) fun v7 =>
  hb (aAlloc H5 (List.replicate 32 (.int .u8 0))) fun v8 H9 =>
  sb (aStore H9 32 v8 v6) fun H10 =>
  LoopP (node_bare.L4 x1 v8 x0) [v3, .int .i64 0] H10 fun e27 vs28 H29 =>
    onE e27 (.exit 0)
      (fin .ret [.v (vs28.getD 0 .undef)] H29 K)
    (False)

def node_Bare.w (x0 : AVal) (x1 : AVal) (H : AHeap) (K : AVal → AHeap → Prop) : Prop :=
  hb (aAlloc H (List.replicate 32 (.int .u8 0))) fun v1 H2 =>
  JoinP (fun Kj3 => vb (aBin .lss x1 (.int .i64 0)) fun v4 =>
    isB v4 fun b5 => cond b5
      (vb (aBuild (List.replicate 32 (.int .u8 0)) (fun k => some (k * 1, 1)) []) fun v6 =>
        sb (aStore H2 32 v1 v6) fun H7 =>
        Kj3 .ret [.str [], .int .i64 3] H7)
      (vb (aBin .gtr x1 (.int .i64 6)) fun v8 =>
        isB v8 fun b9 => cond b9
          (vb (aBuild (List.replicate 32 (.int .u8 0)) (fun k => some (k * 1, 1)) []) fun v10 =>
          sb (aStore H2 32 v1 v10) fun H11 =>
          Kj3 .ret [.str [], .int .i64 3] H11)
          (Kj3 .normal [.str [], .int .i64 0] H2)))
  (fun e12 vs13 H14 =>
    onE e12 .normal
      (cb (S_node_bare [x0, x1] H14) fun v15 H16 =>
      cb (S_node_Node [x0, v15] H16) fun v17 H18 =>
      vb (aExtract v17 0) fun v19 =>
      vb (aExtract v17 1) fun v20 =>
      hb (aAlloc H18 (List.replicate 32 (.int .u8 0))) fun v21 H22 =>
      sb (aStore H22 32 v21 v19) fun H23 =>
      JoinP (fun Kj24 => vb (aBin .eql x1 (.int .i64 0)) fun v25 =>
        isB v25 fun b26 => cond b26
          (cb (S_node_Leaf [x0, v15] H23) fun v27 H28 =>
          vb (aExtract v27 0) fun v29 =>
          vb (aExtract v27 1) fun v30 =>
          sb (aStore H28 32 v21 v29) fun H31 =>
          Kj24 .normal [] H31)
          (Kj24 .normal [] H23))
      (fun e32 vs33 H34 =>
        onE e32 .normal
          (vb (aLoad H34 true 32 v21) fun v35 =>
          sb (aStore H34 32 v1 v35) fun H36 =>
          fin .ret [.v (v15), .c true 32 (v1), .v (.int .i64 0)] H36 K)
        (False)))
    (onE e12 .ret
      (fin .ret [.v (vs13.getD 0 .undef), .c true 32 (v1), .v (vs13.getD 1 .undef)] H14 K)
    (False)))

def node_High.L4.b (x0_4 : AVal) (x4_4 : AVal) (H9 : AHeap) (Kn10 : List AVal → AHeap → Prop) (Ke11 : AExit → List AVal → AHeap → Prop) : Prop :=
  vb (aBin .gtr x0_4 (.int .i64 0)) fun v12 =>
  isB v12 fun b13 => cond b13
    (vb (aBin .sub x0_4 (.int .i64 1)) fun v14 =>
    vb (aBin .quo v14 (.int .i64 2)) fun v15 =>
    vb (aBin .sub x4_4 (.int .i64 1)) fun v16 =>
    Kn10 [v15, v16] H9)
    (Ke11 (.exit 0) [x4_4] H9)

def node_High.L4 : Body := fun vs H Kn Ke => node_High.L4.b (vs.getD 0 .undef) (vs.getD 1 .undef) H Kn Ke

def node_High.w (x0 : AVal) (H : AHeap) (K : AVal → AHeap → Prop) : Prop :=
  JoinP (fun Kj1 => vb (aBin .lss x0 (.int .i64 0)) fun v2 =>
    isB v2 fun b3 => cond b3
      (Kj1 .ret [.int .i64 0, .int .i64 3] H)
      (vb (aBin .geq x0 (.int .i64 63)) fun v4 =>
        isB v4 fun b5 => cond b5
          (Kj1 .ret [.int .i64 0, .int .i64 3] H)
          (Kj1 .normal [.int .i64 0, .int .i64 0] H)))
  (fun e6 vs7 H8 =>
    onE e6 .normal
      (LoopP node_High.L4 [x0, .int .i64 6] H8 fun e17 vs18 H19 =>
        onE e17 (.exit 0)
          (fin .ret [.v (vs18.getD 0 .undef), .v (.int .i64 0)] H19 K)
        (False))
    (onE e6 .ret
      (fin .ret [.v (vs7.getD 0 .undef), .v (vs7.getD 1 .undef)] H8 K)
    (False)))

def node_Same.w (x0 : AVal) (x1 : AVal) (x2 : AVal) (H : AHeap) (K : AVal → AHeap → Prop) : Prop :=
  cb (S_node_Root [x0, x1] H) fun v1 H2 =>
  vb (aExtract v1 0) fun v3 =>
  vb (aExtract v1 1) fun v4 =>
  hb (aAlloc H2 (List.replicate 32 (.int .u8 0))) fun v5 H6 =>
  sb (aStore H6 32 v5 v3) fun H7 =>
  cb (S_node_Root [x0, x2] H7) fun v8 H9 =>
  vb (aExtract v8 0) fun v10 =>
  vb (aExtract v8 1) fun v11 =>
  hb (aAlloc H9 (List.replicate 32 (.int .u8 0))) fun v12 H13 =>
  sb (aStore H13 32 v12 v10) fun H14 =>
  vb (aBin .eql v4 (.int .i64 0)) fun v15 =>
  isB v15 fun b16 => cond b16
    (vb (aBin .eql v11 (.int .i64 0)) fun v17 =>
      isB v17 fun b18 => cond b18
        (vb (aLoad H14 true 32 v5) fun v19 =>
        vb (aLoad H14 true 32 v12) fun v20 =>
          vb (aEql false (.agg (List.replicate 32 .int)) H14 v19 v20) fun v21 =>
            fin .ret [.v (v21)] H14 K)
        (fin .ret [.v (.bool false)] H14 K))
    (fin .ret [.v (.bool false)] H14 K)

def cellaretlaw17_NodeBares.L9.b (v4 : AVal) (v53 : AVal) (x12_9 : AVal) (x14_9 : AVal) (H56 : AHeap) (Kn57 : List AVal → AHeap → Prop) (Ke58 : AExit → List AVal → AHeap → Prop) : Prop :=
  vb (aBin .lss x14_9 v4) fun v59 =>
  isB v59 fun b60 => cond b60
    (vb (aSliceArr 32 1 v53 none none none) fun v61 =>
    vb (aBytes2Str H56 v61) fun v62 =>
    vb (aSliceArr 32 1 v53 none none none) fun v63 =>
    vb (aBytes2Str H56 v63) fun v64 =>
    vb (aBin .add v62 v64) fun v65 =>
    vb (aBin .add (.str [1]) v65) fun v66 =>
    cb (S_sha_Sum [v66] H56) fun v67 H68 =>
    sb (aStore H68 32 v53 v67) fun H69 =>
    vb (aBin .add x14_9 (.int .i64 1)) fun v70 =>
    Kn57 [v65, v70] H69)
    (Ke58 (.exit 0) [x12_9] H56)

def cellaretlaw17_NodeBares.L9 (v4 : AVal) (v53 : AVal) : Body := fun vs H Kn Ke => cellaretlaw17_NodeBares.L9.b v4 v53 (vs.getD 0 .undef) (vs.getD 1 .undef) H Kn Ke

def cellaretlaw17_NodeBares.L26.b (x16_26 : AVal) (x17_26 : AVal) (H151 : AHeap) (Kn152 : List AVal → AHeap → Prop) (Ke153 : AExit → List AVal → AHeap → Prop) : Prop :=
  vb (aBin .gtr x17_26 (.int .i64 0)) fun v154 =>
  isB v154 fun b155 => cond b155
    (vb (aBin .sub x17_26 (.int .i64 1)) fun v156 =>
    vb (aBin .quo v156 (.int .i64 2)) fun v157 =>
    vb (aBin .sub x16_26 (.int .i64 1)) fun v158 =>
    Kn152 [v158, v157] H151)
    (Ke153 (.exit 2) [x16_26] H151)

def cellaretlaw17_NodeBares.L26 : Body := fun vs H Kn Ke => cellaretlaw17_NodeBares.L26.b (vs.getD 0 .undef) (vs.getD 1 .undef) H Kn Ke

def cellaretlaw17_NodeBares.w (x0 : AVal) (H : AHeap) (K : AVal → AHeap → Prop) : Prop :=
  hb (aBox H x0) fun v1 H2 =>
  vb (aFieldAddr 0 v1) fun v3 =>
  vb (aLoad H2 false 1 v3) fun v4 =>
  vb (aFieldAddr 1 v1) fun v5 =>
  vb (aLoad H2 false 1 v5) fun v6 =>
  vb (aFieldAddr 2 v1) fun v7 =>
  vb (aLoad H2 false 1 v7) fun v8 =>
  vb (aFieldAddr 3 v1) fun v9 =>
  vb (aLoad H2 false 1 v9) fun v10 =>
  cb (S_oracle_New [] H2) fun v11 H12 =>
  cb (S_node_Bare [v11, v4] H12) fun v13 H14 =>
  vb (aExtract v13 0) fun v15 =>
  vb (aExtract v13 1) fun v16 =>
  vb (aExtract v13 2) fun v17 =>
  hb (aAlloc H14 (List.replicate 32 (.int .u8 0))) fun v18 H19 =>
  sb (aStore H19 32 v18 v16) fun H20 =>
  cb (S_node_High [v6] H20) fun v21 H22 =>
  vb (aExtract v21 0) fun v23 =>
  vb (aExtract v21 1) fun v24 =>
  JoinP (fun Kj25 => vb (aBin .lss v4 (.int .i64 0)) fun v26 =>
    isB v26 fun b27 => cond b27
      (vb (aBin .neq v15 (.str [])) fun v28 =>
        isB v28 fun b29 => cond b29
          (Kj25 .ret [.bool false] H22)
          (vb (aLoad H22 true 32 v18) fun v30 =>
          vb (aBuild (List.replicate 32 (.int .u8 0)) (fun k => some (k * 1, 1)) []) fun v31 =>
            vb (aEql true (.agg (List.replicate 32 .int)) H22 v30 v31) fun v32 =>
              isB v32 fun b33 => cond b33
                (Kj25 .ret [.bool false] H22)
                (vb (aBin .neq v17 (.int .i64 3)) fun v34 =>
                  isB v34 fun b35 => cond b35
                    (Kj25 .ret [.bool false] H22)
                    (Kj25 .normal [.bool false] H22))))
      (vb (aBin .gtr v4 (.int .i64 6)) fun v36 =>
        isB v36 fun b37 => cond b37
          (vb (aBin .neq v15 (.str [])) fun v38 =>
          isB v38 fun b39 => cond b39
            (Kj25 .ret [.bool false] H22)
            (vb (aLoad H22 true 32 v18) fun v40 =>
            vb (aBuild (List.replicate 32 (.int .u8 0)) (fun k => some (k * 1, 1)) []) fun v41 =>
              vb (aEql true (.agg (List.replicate 32 .int)) H22 v40 v41) fun v42 =>
                isB v42 fun b43 => cond b43
                  (Kj25 .ret [.bool false] H22)
                  (vb (aBin .neq v17 (.int .i64 3)) fun v44 =>
                    isB v44 fun b45 => cond b45
                      (Kj25 .ret [.bool false] H22)
                      (Kj25 .normal [.bool false] H22))))
          (cb (S_cellaretref01_Zeros [.int .i64 64] H22) fun v46 H47 =>
          cb (S_cellaretref01_Zeros [.int .i64 64] H47) fun v48 H49 =>
          vb (aBin .add (.str [0]) v48) fun v50 =>
          cb (S_sha_Sum [v50] H49) fun v51 H52 =>
          hb (aAlloc H52 (List.replicate 32 (.int .u8 0))) fun v53 H54 =>
          sb (aStore H54 32 v53 v51) fun H55 =>
          LoopP (cellaretlaw17_NodeBares.L9 v4 v53) [v46, .int .i64 0] H55 fun e71 vs72 H73 =>
            onE e71 (.exit 0)
              (vb (aBin .neq v15 (vs72.getD 0 .undef)) fun v74 =>
              isB v74 fun b75 => cond b75
                (Kj25 .ret [.bool false] H73)
                (vb (aLoad H73 true 32 v18) fun v76 =>
                vb (aLoad H73 true 32 v53) fun v77 =>
                  vb (aEql true (.agg (List.replicate 32 .int)) H73 v76 v77) fun v78 =>
                    isB v78 fun b79 => cond b79
                      (Kj25 .ret [.bool false] H73)
                      (vb (aBin .neq v17 (.int .i64 0)) fun v80 =>
                        isB v80 fun b81 => cond b81
                          (Kj25 .ret [.bool false] H73)
                          (vb (aBin .eql v4 (.int .i64 6)) fun v82 =>
                            isB v82 fun b83 => cond b83
                                (vb (aLoad H73 true 32 v18) fun v84 =>
                                cb (S_cellaretlaw17_Sums [.nils] H73) fun v85 H86 =>
                                  cb (S_cellaretlaw17_root [v85] H86) fun v87 H88 =>
                                    vb (aEql true (.agg (List.replicate 32 .int)) H88 v84 v87) fun v89 =>
                                      isB v89 fun b90 => cond b90
                                          (Kj25 .ret [.bool false] H88)
                                          (Kj25 .normal [.bool false] H88))
                                (Kj25 .normal [.bool false] H73)))))
            (False))))
  (fun e91 vs92 H93 =>
    onE e91 .normal
      (JoinP (fun Kj94 => vb (lenSl v8) fun v95 =>
        vb (aBin .gtr v95 (.int .i64 70)) fun v96 =>
        isB v96 fun b97 => cond b97
          (cb (S_cellaretlaw17_awake [] H93) fun v98 H99 =>
              Kj94 .ret [v98] H99)
          (vb (lenSl v10) fun v100 =>
            vb (aBin .gtr v100 (.int .i64 70)) fun v101 =>
              isB v101 fun b102 => cond b102
                (cb (S_cellaretlaw17_awake [] H93) fun v103 H104 =>
                Kj94 .ret [v103] H104)
                (Kj94 .normal [vs92.getD 0 .undef] H93)))
      (fun e105 vs106 H107 =>
        onE e105 .normal
          (JoinP (fun Kj108 => vb (lenSl v8) fun v109 =>
            vb (aBin .eql v109 (.int .i64 64)) fun v110 =>
            isB v110 fun b111 => cond b111
              (vb (lenSl v10) fun v112 =>
                vb (aBin .eql v112 (.int .i64 64)) fun v113 =>
                  Kj108 .normal [v113] H107)
              (Kj108 .normal [.bool false] H107))
          (fun e114 vs115 H116 =>
            onE e114 .normal
              (JoinP (fun Kj117 => isB (vs115.getD 0 .undef) fun b118 => cond b118
                  (cb (S_cellaretlaw17_root [v8] H116) fun v119 H120 =>
                  cb (S_cellaretlaw17_root [v10] H120) fun v121 H122 =>
                  vb (aEql false (.agg (List.replicate 32 .int)) H122 v119 v121) fun v123 =>
                  Kj117 .normal [v123] H122)
                  (Kj117 .normal [vs115.getD 0 .undef] H116))
              (fun e124 vs125 H126 =>
                onE e124 .normal
                  (cb (S_node_Same [.nilp, v8, v10] H126) fun v127 H128 =>
                  vb (aEql true .bool H128 v127 (vs125.getD 0 .undef)) fun v129 =>
                  isB v129 fun b130 => cond b130
                    (fin .ret [.v (.bool false)] H128 K)
                    (JoinP (fun Kj131 => vb (aBin .lss v6 (.int .i64 0)) fun v132 =>
                      isB v132 fun b133 => cond b133
                        (cb (S_cellaretlaw17_awake [] H128) fun v134 H135 =>
                          isB v134 fun b136 => cond b136
                            (vb (aBin .eql v23 (.int .i64 0)) fun v137 =>
                              isB v137 fun b138 => cond b138
                                (vb (aBin .eql v24 (.int .i64 3)) fun v139 =>
                                  Kj131 .ret [v139] H135)
                                (Kj131 .ret [.bool false] H135))
                            (Kj131 .ret [.bool false] H135))
                        (vb (aBin .gtr v6 (.int .i64 62)) fun v140 =>
                          isB v140 fun b141 => cond b141
                            (cb (S_cellaretlaw17_awake [] H128) fun v142 H143 =>
                            isB v142 fun b144 => cond b144
                              (vb (aBin .eql v23 (.int .i64 0)) fun v145 =>
                                isB v145 fun b146 => cond b146
                                  (vb (aBin .eql v24 (.int .i64 3)) fun v147 =>
                                    Kj131 .ret [v147] H143)
                                  (Kj131 .ret [.bool false] H143))
                              (Kj131 .ret [.bool false] H143))
                            (Kj131 .normal [vs106.getD 0 .undef] H128)))
                    (fun e148 vs149 H150 =>
                      onE e148 .normal
                        (LoopP cellaretlaw17_NodeBares.L26 [.int .i64 6, v6] H150 fun e159 vs160 H161 =>
                          onE e159 (.exit 2)
                            (cb (S_cellaretlaw17_awake [] H161) fun v162 H163 =>
                            isB v162 fun b164 => cond b164
                              (vb (aBin .eql v24 (.int .i64 0)) fun v165 =>
                                isB v165 fun b166 => cond b166
                                  (vb (aBin .eql v23 (vs160.getD 0 .undef)) fun v167 =>
                                      fin .ret [.v (v167)] H163 K)
                                  (fin .ret [.v (.bool false)] H163 K))
                              (fin .ret [.v (.bool false)] H163 K))
                          (False))
                      (onE e148 .ret
                        (fin .ret [.v (vs149.getD 0 .undef)] H150 K)
                      (False)))))
                (False)))
            (False)))
        (onE e105 .ret
          (fin .ret [.v (vs106.getD 0 .undef)] H107 K)
        (False))))
    (onE e91 .ret
      (fin .ret [.v (vs92.getD 0 .undef)] H93 K)
    (False)))

end Go.Sh

/- Trees of bare leaves: the program's. -/
namespace Go.Sh
open Go Go.Abs

theorem node_bare.ok (args : List AVal) (H : AHeap) (r : AVal) (H' : AHeap) (h : S_node_bare args H r H') : ∃ x0 x1, args = [x0, x1] ∧ node_bare.w x0 x1 H fun r1 H1 => Weak H r1 H1 r H' := by
  obtain ⟨o, n, rfl, hn, rfl, hO⟩ := h
  refine ⟨_, _, rfl, ?_⟩
  unfold node_bare.w
  refine hb_i (make64 H) ?_
  have r0 := Run.push (Run.start hO) [AObj.cells 0 .exact ((bw 0).map ofByte)]
  have hb0 := bw_len 0
  have hd0 := bd0
  refine vb_i (bytes_str (view_ex (n := 64) (app_get0 _ _) (by rw [List.length_map, hb0]))) ?_
  have hbl := bareT_len n
  obtain ⟨C1, hO1, r1, hle1, _⟩ := Run.call r0 (ts := [0 :: bw 0]) (by rw [hbl]; simp) (by simp [hb0])
  refine cb_i _ _ ⟨o, bw 0, rfl, .inr ⟨hb0, rfl, hO1⟩⟩ ?_
  rw [← hd0]
  repeat with_reducible first
  | refine isB_T ?_
  | refine isB_F ?_
  | (refine isB_ct ?_ ?_; (· first | omega | rfl | assumption | trivial))
  | (refine isB_cf ?_ ?_; (· first | omega | assumption))
  | refine onE_i ?_
  | (refine onE_s ?_ ?_; (· decide))
  | refine vb_i e_ext0 ?_
  | refine vb_i e_ext1 ?_
  | refine vb_i e_ext2 ?_
  | refine vb_i (lss64 _ _ _) ?_
  | refine vb_i (leq64 _ _ _) ?_
  | refine vb_i (gtr64 _ _ _) ?_
  | refine vb_i (geq64 _ _ _) ?_
  | refine vb_i (eql64 _ _ _) ?_
  | refine vb_i (neq64 _ _ _) ?_
  | refine vb_i (eqls _ _) ?_
  | refine vb_i (neqs _ _) ?_
  | (refine vb_i (add64 ?_ ?_) ?_; (· omega); (· omega))
  | (refine vb_i (sub64 ?_ ?_) ?_; (· omega); (· omega))
  | (refine vb_i (mul64 ?_ ?_) ?_; (· omega); (· omega))
  | (refine vb_i (quo64 ?_ ?_ ?_) ?_; (· omega); (· omega); (· omega))
  | (refine vb_i (rem64 ?_ ?_) ?_; (· omega); (· omega))
  | refine vb_i (e_lenSt _) ?_
  | refine vb_i (e_lenSl _ _ _) ?_
  | refine vb_i e_lenNil ?_
  | refine vb_i (lenSl_view (by assumption)) ?_
  | refine vb_i (e_ptrNil _ _) ?_
  | refine vb_i (e_ptrNilN _ _) ?_
  | refine vb_i (e_nilNil _) ?_
  | refine vb_i (e_nilNilN _) ?_
  | refine vb_i (e_pickT _ _) ?_
  | refine vb_i (e_pickF _ _) ?_
  | refine vb_i e_notd ?_
  | refine vb_i e_boolNe ?_
  | refine vb_i e_boolEq ?_
  | refine vb_i (e_not _) ?_
  | refine vb_i (e_nilCheck _) ?_
  | refine vb_i (e_fieldAddr _ _) ?_
  | refine hb_i (e_alloc _ _) ?_
  | (refine vb_i (adds ?_) ?_; (· first | omega | (simp only [List.length_cons, List.length_nil, List.length_append]; omega)))
  with_reducible refine sb_i (store_new List.length_replicate (by rw [List.length_map]; exact (bd 0).2) (cells_byte _)) ?_
  have r2 := (Run.push r1 [AObj.cells 0 .exact ((bd 0).1.map ofByte)]).weaken (own' := fun k => k = C1.length) fun k hk => .inr (by simp; omega)
  have gd : (C1 ++ [AObj.cells 0 .exact ((bd 0).1.map ofByte)])[C1.length]? = some (.cells 0 .exact ((bd 0).1.map ofByte)) := by rw [app_get0]; rfl
  generalize C1 ++ [AObj.cells 0 .exact ((bd 0).1.map ofByte)] = B at *
  generalize C1.length = kd at *
  refine LoopP.ruleG (α := Nat) (fun i => [.str (bw i), .int .i64 i]) (fun i C => i ≤ n ∧ C[kd]? = some (.cells 0 .exact ((bd i).1.map ofByte)) ∧ Run H o (bareT n) H' C (fun k => k = kd) (bareT i)) (fun i => n - i) 0 rfl
    ⟨Nat.zero_le _, gd, r2⟩ ?_
  clear r0 r1 r2 gd hle1 hO1 hd0 hb0
  rintro i C Kn ⟨hi, g, run⟩ hk
  unfold node_bare.L4 node_bare.L4.b
  try simp only [evB]
  by_cases hin : i < n
  · have hbi := (bd i).2
    repeat with_reducible first
    | refine isB_T ?_
    | refine isB_F ?_
    | (refine isB_ct ?_ ?_; (· first | omega | rfl | assumption | trivial))
    | (refine isB_cf ?_ ?_; (· first | omega | assumption))
    | refine onE_i ?_
    | (refine onE_s ?_ ?_; (· decide))
    | refine vb_i e_ext0 ?_
    | refine vb_i e_ext1 ?_
    | refine vb_i e_ext2 ?_
    | refine vb_i (lss64 _ _ _) ?_
    | refine vb_i (leq64 _ _ _) ?_
    | refine vb_i (gtr64 _ _ _) ?_
    | refine vb_i (geq64 _ _ _) ?_
    | refine vb_i (eql64 _ _ _) ?_
    | refine vb_i (neq64 _ _ _) ?_
    | refine vb_i (eqls _ _) ?_
    | refine vb_i (neqs _ _) ?_
    | (refine vb_i (add64 ?_ ?_) ?_; (· omega); (· omega))
    | (refine vb_i (sub64 ?_ ?_) ?_; (· omega); (· omega))
    | (refine vb_i (mul64 ?_ ?_) ?_; (· omega); (· omega))
    | (refine vb_i (quo64 ?_ ?_ ?_) ?_; (· omega); (· omega); (· omega))
    | (refine vb_i (rem64 ?_ ?_) ?_; (· omega); (· omega))
    | refine vb_i (e_lenSt _) ?_
    | refine vb_i (e_lenSl _ _ _) ?_
    | refine vb_i e_lenNil ?_
    | refine vb_i (lenSl_view (by assumption)) ?_
    | refine vb_i (e_ptrNil _ _) ?_
    | refine vb_i (e_ptrNilN _ _) ?_
    | refine vb_i (e_nilNil _) ?_
    | refine vb_i (e_nilNilN _) ?_
    | refine vb_i (e_pickT _ _) ?_
    | refine vb_i (e_pickF _ _) ?_
    | refine vb_i e_notd ?_
    | refine vb_i e_boolNe ?_
    | refine vb_i e_boolEq ?_
    | refine vb_i (e_not _) ?_
    | refine vb_i (e_nilCheck _) ?_
    | refine vb_i (e_fieldAddr _ _) ?_
    | refine hb_i (e_alloc _ _) ?_
    | (refine vb_i (adds ?_) ?_; (· first | omega | (simp only [List.length_cons, List.length_nil, List.length_append]; omega)))
    refine vb_i (sliceArr_all _ _ _ _) (vb_i (arr_str g hbi) (vb_i (sliceArr_all _ _ _ _) (vb_i (arr_str g hbi) ?_)))
    refine vb_i (adds (by rw [hbi]; decide)) ?_
    rw [← bwS]
    have hb1 := bw_len (i + 1)
    obtain ⟨C2, hO2, run2, hle, hk2⟩ := Run.call run (ts := [1 :: bw (i + 1)]) (by rw [hbl, bareT_len]; simp; omega) (by simp [hb1])
    refine cb_i _ _ ⟨o, bw (i + 1), rfl, .inr ⟨hb1, rfl, hO2⟩⟩ ?_
    rw [← bdS]
    have g2 := (hk2 kd rfl).trans g
    repeat with_reducible first
    | refine isB_T ?_
    | refine isB_F ?_
    | (refine isB_ct ?_ ?_; (· first | omega | rfl | assumption | trivial))
    | (refine isB_cf ?_ ?_; (· first | omega | assumption))
    | refine onE_i ?_
    | (refine onE_s ?_ ?_; (· decide))
    | refine vb_i e_ext0 ?_
    | refine vb_i e_ext1 ?_
    | refine vb_i e_ext2 ?_
    | refine vb_i (lss64 _ _ _) ?_
    | refine vb_i (leq64 _ _ _) ?_
    | refine vb_i (gtr64 _ _ _) ?_
    | refine vb_i (geq64 _ _ _) ?_
    | refine vb_i (eql64 _ _ _) ?_
    | refine vb_i (neq64 _ _ _) ?_
    | refine vb_i (eqls _ _) ?_
    | refine vb_i (neqs _ _) ?_
    | (refine vb_i (add64 ?_ ?_) ?_; (· omega); (· omega))
    | (refine vb_i (sub64 ?_ ?_) ?_; (· omega); (· omega))
    | (refine vb_i (mul64 ?_ ?_) ?_; (· omega); (· omega))
    | (refine vb_i (quo64 ?_ ?_ ?_) ?_; (· omega); (· omega); (· omega))
    | (refine vb_i (rem64 ?_ ?_) ?_; (· omega); (· omega))
    | refine vb_i (e_lenSt _) ?_
    | refine vb_i (e_lenSl _ _ _) ?_
    | refine vb_i e_lenNil ?_
    | refine vb_i (lenSl_view (by assumption)) ?_
    | refine vb_i (e_ptrNil _ _) ?_
    | refine vb_i (e_ptrNilN _ _) ?_
    | refine vb_i (e_nilNil _) ?_
    | refine vb_i (e_nilNilN _) ?_
    | refine vb_i (e_pickT _ _) ?_
    | refine vb_i (e_pickF _ _) ?_
    | refine vb_i e_notd ?_
    | refine vb_i e_boolNe ?_
    | refine vb_i e_boolEq ?_
    | refine vb_i (e_not _) ?_
    | refine vb_i (e_nilCheck _) ?_
    | refine vb_i (e_fieldAddr _ _) ?_
    | refine hb_i (e_alloc _ _) ?_
    | (refine vb_i (adds ?_) ?_; (· first | omega | (simp only [List.length_cons, List.length_nil, List.length_append]; omega)))
    with_reducible refine sb_i (store32 g2 (by rw [List.length_map]; exact hbi) (by rw [List.length_map]; exact (bd (i + 1)).2) (cells_byte _)) ?_
    repeat with_reducible first
    | refine isB_T ?_
    | refine isB_F ?_
    | (refine isB_ct ?_ ?_; (· first | omega | rfl | assumption | trivial))
    | (refine isB_cf ?_ ?_; (· first | omega | assumption))
    | refine onE_i ?_
    | (refine onE_s ?_ ?_; (· decide))
    | refine vb_i e_ext0 ?_
    | refine vb_i e_ext1 ?_
    | refine vb_i e_ext2 ?_
    | refine vb_i (lss64 _ _ _) ?_
    | refine vb_i (leq64 _ _ _) ?_
    | refine vb_i (gtr64 _ _ _) ?_
    | refine vb_i (geq64 _ _ _) ?_
    | refine vb_i (eql64 _ _ _) ?_
    | refine vb_i (neq64 _ _ _) ?_
    | refine vb_i (eqls _ _) ?_
    | refine vb_i (neqs _ _) ?_
    | (refine vb_i (add64 ?_ ?_) ?_; (· omega); (· omega))
    | (refine vb_i (sub64 ?_ ?_) ?_; (· omega); (· omega))
    | (refine vb_i (mul64 ?_ ?_) ?_; (· omega); (· omega))
    | (refine vb_i (quo64 ?_ ?_ ?_) ?_; (· omega); (· omega); (· omega))
    | (refine vb_i (rem64 ?_ ?_) ?_; (· omega); (· omega))
    | refine vb_i (e_lenSt _) ?_
    | refine vb_i (e_lenSl _ _ _) ?_
    | refine vb_i e_lenNil ?_
    | refine vb_i (lenSl_view (by assumption)) ?_
    | refine vb_i (e_ptrNil _ _) ?_
    | refine vb_i (e_ptrNilN _ _) ?_
    | refine vb_i (e_nilNil _) ?_
    | refine vb_i (e_nilNilN _) ?_
    | refine vb_i (e_pickT _ _) ?_
    | refine vb_i (e_pickF _ _) ?_
    | refine vb_i e_notd ?_
    | refine vb_i e_boolNe ?_
    | refine vb_i e_boolEq ?_
    | refine vb_i (e_not _) ?_
    | refine vb_i (e_nilCheck _) ?_
    | refine vb_i (e_fieldAddr _ _) ?_
    | refine hb_i (e_alloc _ _) ?_
    | (refine vb_i (adds ?_) ?_; (· first | omega | (simp only [List.length_cons, List.length_nil, List.length_append]; omega)))
    refine hk (i + 1) _ ⟨by omega, by rw [List.getElem?_set_self (lt_of_some g2)], ?_⟩ (by omega)
    rw [bareT_step]
    exact Run.set run2 rfl _
  · have hie : i = n := by omega
    subst hie
    repeat with_reducible first
    | refine isB_T ?_
    | refine isB_F ?_
    | (refine isB_ct ?_ ?_; (· first | omega | rfl | assumption | trivial))
    | (refine isB_cf ?_ ?_; (· first | omega | assumption))
    | refine onE_i ?_
    | (refine onE_s ?_ ?_; (· decide))
    | refine vb_i e_ext0 ?_
    | refine vb_i e_ext1 ?_
    | refine vb_i e_ext2 ?_
    | refine vb_i (lss64 _ _ _) ?_
    | refine vb_i (leq64 _ _ _) ?_
    | refine vb_i (gtr64 _ _ _) ?_
    | refine vb_i (geq64 _ _ _) ?_
    | refine vb_i (eql64 _ _ _) ?_
    | refine vb_i (neq64 _ _ _) ?_
    | refine vb_i (eqls _ _) ?_
    | refine vb_i (neqs _ _) ?_
    | (refine vb_i (add64 ?_ ?_) ?_; (· omega); (· omega))
    | (refine vb_i (sub64 ?_ ?_) ?_; (· omega); (· omega))
    | (refine vb_i (mul64 ?_ ?_) ?_; (· omega); (· omega))
    | (refine vb_i (quo64 ?_ ?_ ?_) ?_; (· omega); (· omega); (· omega))
    | (refine vb_i (rem64 ?_ ?_) ?_; (· omega); (· omega))
    | refine vb_i (e_lenSt _) ?_
    | refine vb_i (e_lenSl _ _ _) ?_
    | refine vb_i e_lenNil ?_
    | refine vb_i (lenSl_view (by assumption)) ?_
    | refine vb_i (e_ptrNil _ _) ?_
    | refine vb_i (e_ptrNilN _ _) ?_
    | refine vb_i (e_nilNil _) ?_
    | refine vb_i (e_nilNilN _) ?_
    | refine vb_i (e_pickT _ _) ?_
    | refine vb_i (e_pickF _ _) ?_
    | refine vb_i e_notd ?_
    | refine vb_i e_boolNe ?_
    | refine vb_i e_boolEq ?_
    | refine vb_i (e_not _) ?_
    | refine vb_i (e_nilCheck _) ?_
    | refine vb_i (e_fieldAddr _ _) ?_
    | refine hb_i (e_alloc _ _) ?_
    | (refine vb_i (adds ?_) ?_; (· first | omega | (simp only [List.length_cons, List.length_nil, List.length_append]; omega)))
    try simp only [evB]
    refine fin_ret (vs := [.str (bw i)]) (rvs_v (rvs_nil _)) ?_
    exact Run.fin run (ren_p rfl)

theorem node_Bare.ok (args : List AVal) (H : AHeap) (r : AVal) (H' : AHeap) (h : S_node_Bare args H r H') : ∃ x0 x1, args = [x0, x1] ∧ node_Bare.w x0 x1 H fun r1 H1 => Weak H r1 H1 r H' := by
  obtain ⟨o, n, rfl, h⟩ := h
  refine ⟨_, _, rfl, ?_⟩
  unfold node_Bare.w
  repeat with_reducible first
  | refine isB_T ?_
  | refine isB_F ?_
  | (refine isB_ct ?_ ?_; (· first | omega | rfl | assumption | trivial))
  | (refine isB_cf ?_ ?_; (· first | omega | assumption))
  | refine onE_i ?_
  | (refine onE_s ?_ ?_; (· decide))
  | refine vb_i e_ext0 ?_
  | refine vb_i e_ext1 ?_
  | refine vb_i e_ext2 ?_
  | refine vb_i (lss64 _ _ _) ?_
  | refine vb_i (leq64 _ _ _) ?_
  | refine vb_i (gtr64 _ _ _) ?_
  | refine vb_i (geq64 _ _ _) ?_
  | refine vb_i (eql64 _ _ _) ?_
  | refine vb_i (neq64 _ _ _) ?_
  | refine vb_i (eqls _ _) ?_
  | refine vb_i (neqs _ _) ?_
  | (refine vb_i (add64 ?_ ?_) ?_; (· omega); (· omega))
  | (refine vb_i (sub64 ?_ ?_) ?_; (· omega); (· omega))
  | (refine vb_i (mul64 ?_ ?_) ?_; (· omega); (· omega))
  | (refine vb_i (quo64 ?_ ?_ ?_) ?_; (· omega); (· omega); (· omega))
  | (refine vb_i (rem64 ?_ ?_) ?_; (· omega); (· omega))
  | refine vb_i (e_lenSt _) ?_
  | refine vb_i (e_lenSl _ _ _) ?_
  | refine vb_i e_lenNil ?_
  | refine vb_i (lenSl_view (by assumption)) ?_
  | refine vb_i (e_ptrNil _ _) ?_
  | refine vb_i (e_ptrNilN _ _) ?_
  | refine vb_i (e_nilNil _) ?_
  | refine vb_i (e_nilNilN _) ?_
  | refine vb_i (e_pickT _ _) ?_
  | refine vb_i (e_pickF _ _) ?_
  | refine vb_i e_notd ?_
  | refine vb_i e_boolNe ?_
  | refine vb_i e_boolEq ?_
  | refine vb_i (e_not _) ?_
  | refine vb_i (e_nilCheck _) ?_
  | refine vb_i (e_fieldAddr _ _) ?_
  | refine hb_i (e_alloc _ _) ?_
  | (refine vb_i (adds ?_) ?_; (· first | omega | (simp only [List.length_cons, List.length_nil, List.length_append]; omega)))
  refine JoinP.mk (fun e vs B => B = H ++ [AObj.cells 0 .exact (List.replicate 32 (.int .u8 0))] ∧ ((e = .ret ∧ vs = [.str [], .int .i64 3] ∧ (n < 0 ∨ 6 < n)) ∨ (e = .normal ∧ ¬ (n < 0 ∨ 6 < n)))) ?_ ?_
  · repeat with_reducible first
    | refine isB_T ?_
    | refine isB_F ?_
    | (refine isB_ct ?_ ?_; (· first | omega | rfl | assumption | trivial))
    | (refine isB_cf ?_ ?_; (· first | omega | assumption))
    | refine onE_i ?_
    | (refine onE_s ?_ ?_; (· decide))
    | refine vb_i e_ext0 ?_
    | refine vb_i e_ext1 ?_
    | refine vb_i e_ext2 ?_
    | refine vb_i (lss64 _ _ _) ?_
    | refine vb_i (leq64 _ _ _) ?_
    | refine vb_i (gtr64 _ _ _) ?_
    | refine vb_i (geq64 _ _ _) ?_
    | refine vb_i (eql64 _ _ _) ?_
    | refine vb_i (neq64 _ _ _) ?_
    | refine vb_i (eqls _ _) ?_
    | refine vb_i (neqs _ _) ?_
    | (refine vb_i (add64 ?_ ?_) ?_; (· omega); (· omega))
    | (refine vb_i (sub64 ?_ ?_) ?_; (· omega); (· omega))
    | (refine vb_i (mul64 ?_ ?_) ?_; (· omega); (· omega))
    | (refine vb_i (quo64 ?_ ?_ ?_) ?_; (· omega); (· omega); (· omega))
    | (refine vb_i (rem64 ?_ ?_) ?_; (· omega); (· omega))
    | refine vb_i (e_lenSt _) ?_
    | refine vb_i (e_lenSl _ _ _) ?_
    | refine vb_i e_lenNil ?_
    | refine vb_i (lenSl_view (by assumption)) ?_
    | refine vb_i (e_ptrNil _ _) ?_
    | refine vb_i (e_ptrNilN _ _) ?_
    | refine vb_i (e_nilNil _) ?_
    | refine vb_i (e_nilNilN _) ?_
    | refine vb_i (e_pickT _ _) ?_
    | refine vb_i (e_pickF _ _) ?_
    | refine vb_i e_notd ?_
    | refine vb_i e_boolNe ?_
    | refine vb_i e_boolEq ?_
    | refine vb_i (e_not _) ?_
    | refine vb_i (e_nilCheck _) ?_
    | refine vb_i (e_fieldAddr _ _) ?_
    | refine hb_i (e_alloc _ _) ?_
    | (refine vb_i (adds ?_) ?_; (· first | omega | (simp only [List.length_cons, List.length_nil, List.length_append]; omega)))
    refine isB_c (fun h1 => ?_) (fun h1 => ?_)
    · refine vb_i zero32_build ?_
      unfold zero32
      with_reducible refine sb_i (store_new List.length_replicate List.length_replicate (cells_rep _ _ _)) ?_
      exact ⟨rfl, .inl ⟨rfl, rfl, .inl h1⟩⟩
    · repeat with_reducible first
      | refine isB_T ?_
      | refine isB_F ?_
      | (refine isB_ct ?_ ?_; (· first | omega | rfl | assumption | trivial))
      | (refine isB_cf ?_ ?_; (· first | omega | assumption))
      | refine onE_i ?_
      | (refine onE_s ?_ ?_; (· decide))
      | refine vb_i e_ext0 ?_
      | refine vb_i e_ext1 ?_
      | refine vb_i e_ext2 ?_
      | refine vb_i (lss64 _ _ _) ?_
      | refine vb_i (leq64 _ _ _) ?_
      | refine vb_i (gtr64 _ _ _) ?_
      | refine vb_i (geq64 _ _ _) ?_
      | refine vb_i (eql64 _ _ _) ?_
      | refine vb_i (neq64 _ _ _) ?_
      | refine vb_i (eqls _ _) ?_
      | refine vb_i (neqs _ _) ?_
      | (refine vb_i (add64 ?_ ?_) ?_; (· omega); (· omega))
      | (refine vb_i (sub64 ?_ ?_) ?_; (· omega); (· omega))
      | (refine vb_i (mul64 ?_ ?_) ?_; (· omega); (· omega))
      | (refine vb_i (quo64 ?_ ?_ ?_) ?_; (· omega); (· omega); (· omega))
      | (refine vb_i (rem64 ?_ ?_) ?_; (· omega); (· omega))
      | refine vb_i (e_lenSt _) ?_
      | refine vb_i (e_lenSl _ _ _) ?_
      | refine vb_i e_lenNil ?_
      | refine vb_i (lenSl_view (by assumption)) ?_
      | refine vb_i (e_ptrNil _ _) ?_
      | refine vb_i (e_ptrNilN _ _) ?_
      | refine vb_i (e_nilNil _) ?_
      | refine vb_i (e_nilNilN _) ?_
      | refine vb_i (e_pickT _ _) ?_
      | refine vb_i (e_pickF _ _) ?_
      | refine vb_i e_notd ?_
      | refine vb_i e_boolNe ?_
      | refine vb_i e_boolEq ?_
      | refine vb_i (e_not _) ?_
      | refine vb_i (e_nilCheck _) ?_
      | refine vb_i (e_fieldAddr _ _) ?_
      | refine hb_i (e_alloc _ _) ?_
      | (refine vb_i (adds ?_) ?_; (· first | omega | (simp only [List.length_cons, List.length_nil, List.length_append]; omega)))
      refine isB_c (fun h2 => ?_) (fun h2 => ?_)
      · refine vb_i zero32_build ?_
        unfold zero32
        with_reducible refine sb_i (store_new List.length_replicate List.length_replicate (cells_rep _ _ _)) ?_
        exact ⟨rfl, .inl ⟨rfl, rfl, .inr (by omega)⟩⟩
      · exact ⟨rfl, .inr ⟨rfl, by omega⟩⟩
  rintro _ vs B ⟨rfl, ⟨rfl, rfl, hn⟩ | ⟨rfl, hn⟩⟩
  · rcases h with ⟨_, rfl, rfl⟩ | ⟨k, rfl, hk, _⟩
    · repeat with_reducible first
      | refine isB_T ?_
      | refine isB_F ?_
      | (refine isB_ct ?_ ?_; (· first | omega | rfl | assumption | trivial))
      | (refine isB_cf ?_ ?_; (· first | omega | assumption))
      | refine onE_i ?_
      | (refine onE_s ?_ ?_; (· decide))
      | refine vb_i e_ext0 ?_
      | refine vb_i e_ext1 ?_
      | refine vb_i e_ext2 ?_
      | refine vb_i (lss64 _ _ _) ?_
      | refine vb_i (leq64 _ _ _) ?_
      | refine vb_i (gtr64 _ _ _) ?_
      | refine vb_i (geq64 _ _ _) ?_
      | refine vb_i (eql64 _ _ _) ?_
      | refine vb_i (neq64 _ _ _) ?_
      | refine vb_i (eqls _ _) ?_
      | refine vb_i (neqs _ _) ?_
      | (refine vb_i (add64 ?_ ?_) ?_; (· omega); (· omega))
      | (refine vb_i (sub64 ?_ ?_) ?_; (· omega); (· omega))
      | (refine vb_i (mul64 ?_ ?_) ?_; (· omega); (· omega))
      | (refine vb_i (quo64 ?_ ?_ ?_) ?_; (· omega); (· omega); (· omega))
      | (refine vb_i (rem64 ?_ ?_) ?_; (· omega); (· omega))
      | refine vb_i (e_lenSt _) ?_
      | refine vb_i (e_lenSl _ _ _) ?_
      | refine vb_i e_lenNil ?_
      | refine vb_i (lenSl_view (by assumption)) ?_
      | refine vb_i (e_ptrNil _ _) ?_
      | refine vb_i (e_ptrNilN _ _) ?_
      | refine vb_i (e_nilNil _) ?_
      | refine vb_i (e_nilNilN _) ?_
      | refine vb_i (e_pickT _ _) ?_
      | refine vb_i (e_pickF _ _) ?_
      | refine vb_i e_notd ?_
      | refine vb_i e_boolNe ?_
      | refine vb_i e_boolEq ?_
      | refine vb_i (e_not _) ?_
      | refine vb_i (e_nilCheck _) ?_
      | refine vb_i (e_fieldAddr _ _) ?_
      | refine hb_i (e_alloc _ _) ?_
      | (refine vb_i (adds ?_) ?_; (· first | omega | (simp only [List.length_cons, List.length_nil, List.length_append]; omega)))
      try simp only [evB]
      refine fin_ret (vs := [.str [], .agg (List.replicate 32 (.int .u8 0)), .int .i64 3]) (rvs_v (rvs_c (load_new List.length_replicate) (rvs_v (rvs_nil _)))) ?_
      exact Weak.any (ren_trip (ren_p rfl) (agg_plain zero32_plain) (ren_p rfl)) (pre_app _ _)
    · omega
  · rcases h with ⟨hb, _⟩ | ⟨k, rfl, hk, rfl, hO⟩
    · exact absurd hb hn
    · have r0 := (Run.push (Run.start hO) [AObj.cells 0 .exact (List.replicate 32 (.int .u8 0))]).weaken (own' := fun q => q = H.length) fun q hq => .inr (by simp; omega)
      have gz : (H ++ [AObj.cells 0 .exact (List.replicate 32 (.int .u8 0))])[H.length]? = some (.cells 0 .exact (List.replicate 32 (.int .u8 0))) := by rw [app_get0]; rfl
      generalize H ++ [AObj.cells 0 .exact (List.replicate 32 (.int .u8 0))] = B at *
      have hbl := bareT_len k
      have hBl : (bareT k).length + 1 ≤ (BareT k).length := by simp [BareT]
      have hbk := bw_len k
      have hb0 := bw_len 0
      repeat with_reducible first
      | refine isB_T ?_
      | refine isB_F ?_
      | (refine isB_ct ?_ ?_; (· first | omega | rfl | assumption | trivial))
      | (refine isB_cf ?_ ?_; (· first | omega | assumption))
      | refine onE_i ?_
      | (refine onE_s ?_ ?_; (· decide))
      | refine vb_i e_ext0 ?_
      | refine vb_i e_ext1 ?_
      | refine vb_i e_ext2 ?_
      | refine vb_i (lss64 _ _ _) ?_
      | refine vb_i (leq64 _ _ _) ?_
      | refine vb_i (gtr64 _ _ _) ?_
      | refine vb_i (geq64 _ _ _) ?_
      | refine vb_i (eql64 _ _ _) ?_
      | refine vb_i (neq64 _ _ _) ?_
      | refine vb_i (eqls _ _) ?_
      | refine vb_i (neqs _ _) ?_
      | (refine vb_i (add64 ?_ ?_) ?_; (· omega); (· omega))
      | (refine vb_i (sub64 ?_ ?_) ?_; (· omega); (· omega))
      | (refine vb_i (mul64 ?_ ?_) ?_; (· omega); (· omega))
      | (refine vb_i (quo64 ?_ ?_ ?_) ?_; (· omega); (· omega); (· omega))
      | (refine vb_i (rem64 ?_ ?_) ?_; (· omega); (· omega))
      | refine vb_i (e_lenSt _) ?_
      | refine vb_i (e_lenSl _ _ _) ?_
      | refine vb_i e_lenNil ?_
      | refine vb_i (lenSl_view (by assumption)) ?_
      | refine vb_i (e_ptrNil _ _) ?_
      | refine vb_i (e_ptrNilN _ _) ?_
      | refine vb_i (e_nilNil _) ?_
      | refine vb_i (e_nilNilN _) ?_
      | refine vb_i (e_pickT _ _) ?_
      | refine vb_i (e_pickF _ _) ?_
      | refine vb_i e_notd ?_
      | refine vb_i e_boolNe ?_
      | refine vb_i e_boolEq ?_
      | refine vb_i (e_not _) ?_
      | refine vb_i (e_nilCheck _) ?_
      | refine vb_i (e_fieldAddr _ _) ?_
      | refine hb_i (e_alloc _ _) ?_
      | (refine vb_i (adds ?_) ?_; (· first | omega | (simp only [List.length_cons, List.length_nil, List.length_append]; omega)))
      obtain ⟨C1, hO1, r1, hle1, hk1⟩ := Run.call r0 (ts := bareT k) (by simp only [List.length_nil]; omega) (fun s hs => by rw [bareT_short k s hs]; decide)
      refine cb_i _ _ ⟨o, k, rfl, hk, rfl, hO1⟩ ?_
      obtain ⟨C2, hO2, r2, hle2, hk2⟩ := Run.call r1 (ts := [1 :: bw k]) (by simp only [List.length_append, List.length_nil, List.length_cons]; omega) (by simp [hbk])
      refine cb_i _ _ ⟨o, bw k, rfl, .inr ⟨hbk, rfl, hO2⟩⟩ ?_
      have hsl := sum_len (1 :: bw k)
      repeat with_reducible first
      | refine isB_T ?_
      | refine isB_F ?_
      | (refine isB_ct ?_ ?_; (· first | omega | rfl | assumption | trivial))
      | (refine isB_cf ?_ ?_; (· first | omega | assumption))
      | refine onE_i ?_
      | (refine onE_s ?_ ?_; (· decide))
      | refine vb_i e_ext0 ?_
      | refine vb_i e_ext1 ?_
      | refine vb_i e_ext2 ?_
      | refine vb_i (lss64 _ _ _) ?_
      | refine vb_i (leq64 _ _ _) ?_
      | refine vb_i (gtr64 _ _ _) ?_
      | refine vb_i (geq64 _ _ _) ?_
      | refine vb_i (eql64 _ _ _) ?_
      | refine vb_i (neq64 _ _ _) ?_
      | refine vb_i (eqls _ _) ?_
      | refine vb_i (neqs _ _) ?_
      | (refine vb_i (add64 ?_ ?_) ?_; (· omega); (· omega))
      | (refine vb_i (sub64 ?_ ?_) ?_; (· omega); (· omega))
      | (refine vb_i (mul64 ?_ ?_) ?_; (· omega); (· omega))
      | (refine vb_i (quo64 ?_ ?_ ?_) ?_; (· omega); (· omega); (· omega))
      | (refine vb_i (rem64 ?_ ?_) ?_; (· omega); (· omega))
      | refine vb_i (e_lenSt _) ?_
      | refine vb_i (e_lenSl _ _ _) ?_
      | refine vb_i e_lenNil ?_
      | refine vb_i (lenSl_view (by assumption)) ?_
      | refine vb_i (e_ptrNil _ _) ?_
      | refine vb_i (e_ptrNilN _ _) ?_
      | refine vb_i (e_nilNil _) ?_
      | refine vb_i (e_nilNilN _) ?_
      | refine vb_i (e_pickT _ _) ?_
      | refine vb_i (e_pickF _ _) ?_
      | refine vb_i e_notd ?_
      | refine vb_i e_boolNe ?_
      | refine vb_i e_boolEq ?_
      | refine vb_i (e_not _) ?_
      | refine vb_i (e_nilCheck _) ?_
      | refine vb_i (e_fieldAddr _ _) ?_
      | refine hb_i (e_alloc _ _) ?_
      | (refine vb_i (adds ?_) ?_; (· first | omega | (simp only [List.length_cons, List.length_nil, List.length_append]; omega)))
      with_reducible refine sb_i (store_new List.length_replicate (by rw [List.length_map]; exact hsl) (cells_byte _)) ?_
      have gz2 := (hk2 _ rfl).trans ((hk1 _ rfl).trans gz)
      have r3 := Run.push r2 [AObj.cells 0 .exact ((sum (1 :: bw k)).map ofByte)]
      have gn : (C2 ++ [AObj.cells 0 .exact ((sum (1 :: bw k)).map ofByte)])[C2.length]? = some (.cells 0 .exact ((sum (1 :: bw k)).map ofByte)) := by rw [app_get0]; rfl
      have gz3 : (C2 ++ [AObj.cells 0 .exact ((sum (1 :: bw k)).map ofByte)])[H.length]? = some (.cells 0 .exact (List.replicate 32 (.int .u8 0))) := by rw [pre_get (pre_app _ _) (lt_of_some gz2)]; exact gz2
      have hHC := lt_of_some gz2
      refine JoinP.mk (fun e vs D => e = .normal ∧ D[C2.length]? = some (.cells 0 .exact ((bd k).1.map ofByte)) ∧ D[H.length]? = some (.cells 0 .exact (List.replicate 32 (.int .u8 0))) ∧ Run H o (BareT k) H' D (fun q => q = H.length) (BareT k)) ?_ ?_
      · by_cases hk0 : k = 0
        · subst hk0
          repeat with_reducible first
          | refine isB_T ?_
          | refine isB_F ?_
          | (refine isB_ct ?_ ?_; (· first | omega | rfl | assumption | trivial))
          | (refine isB_cf ?_ ?_; (· first | omega | assumption))
          | refine onE_i ?_
          | (refine onE_s ?_ ?_; (· decide))
          | refine vb_i e_ext0 ?_
          | refine vb_i e_ext1 ?_
          | refine vb_i e_ext2 ?_
          | refine vb_i (lss64 _ _ _) ?_
          | refine vb_i (leq64 _ _ _) ?_
          | refine vb_i (gtr64 _ _ _) ?_
          | refine vb_i (geq64 _ _ _) ?_
          | refine vb_i (eql64 _ _ _) ?_
          | refine vb_i (neq64 _ _ _) ?_
          | refine vb_i (eqls _ _) ?_
          | refine vb_i (neqs _ _) ?_
          | (refine vb_i (add64 ?_ ?_) ?_; (· omega); (· omega))
          | (refine vb_i (sub64 ?_ ?_) ?_; (· omega); (· omega))
          | (refine vb_i (mul64 ?_ ?_) ?_; (· omega); (· omega))
          | (refine vb_i (quo64 ?_ ?_ ?_) ?_; (· omega); (· omega); (· omega))
          | (refine vb_i (rem64 ?_ ?_) ?_; (· omega); (· omega))
          | refine vb_i (e_lenSt _) ?_
          | refine vb_i (e_lenSl _ _ _) ?_
          | refine vb_i e_lenNil ?_
          | refine vb_i (lenSl_view (by assumption)) ?_
          | refine vb_i (e_ptrNil _ _) ?_
          | refine vb_i (e_ptrNilN _ _) ?_
          | refine vb_i (e_nilNil _) ?_
          | refine vb_i (e_nilNilN _) ?_
          | refine vb_i (e_pickT _ _) ?_
          | refine vb_i (e_pickF _ _) ?_
          | refine vb_i e_notd ?_
          | refine vb_i e_boolNe ?_
          | refine vb_i e_boolEq ?_
          | refine vb_i (e_not _) ?_
          | refine vb_i (e_nilCheck _) ?_
          | refine vb_i (e_fieldAddr _ _) ?_
          | refine hb_i (e_alloc _ _) ?_
          | (refine vb_i (adds ?_) ?_; (· first | omega | (simp only [List.length_cons, List.length_nil, List.length_append]; omega)))
          obtain ⟨C3, hO3, r4, hle3, hk3⟩ := Run.call r3 (ts := [0 :: bw 0]) (by simp [BareT]) (by simp [hb0])
          refine cb_i _ _ ⟨o, bw 0, rfl, .inr ⟨hb0, rfl, hO3⟩⟩ ?_
          rw [← bd0]
          have g4 := (hk3 _ (.inr ⟨Nat.le_refl _, by simp⟩)).trans gn
          have gz4 := (hk3 _ (.inl rfl)).trans gz3
          repeat with_reducible first
          | refine isB_T ?_
          | refine isB_F ?_
          | (refine isB_ct ?_ ?_; (· first | omega | rfl | assumption | trivial))
          | (refine isB_cf ?_ ?_; (· first | omega | assumption))
          | refine onE_i ?_
          | (refine onE_s ?_ ?_; (· decide))
          | refine vb_i e_ext0 ?_
          | refine vb_i e_ext1 ?_
          | refine vb_i e_ext2 ?_
          | refine vb_i (lss64 _ _ _) ?_
          | refine vb_i (leq64 _ _ _) ?_
          | refine vb_i (gtr64 _ _ _) ?_
          | refine vb_i (geq64 _ _ _) ?_
          | refine vb_i (eql64 _ _ _) ?_
          | refine vb_i (neq64 _ _ _) ?_
          | refine vb_i (eqls _ _) ?_
          | refine vb_i (neqs _ _) ?_
          | (refine vb_i (add64 ?_ ?_) ?_; (· omega); (· omega))
          | (refine vb_i (sub64 ?_ ?_) ?_; (· omega); (· omega))
          | (refine vb_i (mul64 ?_ ?_) ?_; (· omega); (· omega))
          | (refine vb_i (quo64 ?_ ?_ ?_) ?_; (· omega); (· omega); (· omega))
          | (refine vb_i (rem64 ?_ ?_) ?_; (· omega); (· omega))
          | refine vb_i (e_lenSt _) ?_
          | refine vb_i (e_lenSl _ _ _) ?_
          | refine vb_i e_lenNil ?_
          | refine vb_i (lenSl_view (by assumption)) ?_
          | refine vb_i (e_ptrNil _ _) ?_
          | refine vb_i (e_ptrNilN _ _) ?_
          | refine vb_i (e_nilNil _) ?_
          | refine vb_i (e_nilNilN _) ?_
          | refine vb_i (e_pickT _ _) ?_
          | refine vb_i (e_pickF _ _) ?_
          | refine vb_i e_notd ?_
          | refine vb_i e_boolNe ?_
          | refine vb_i e_boolEq ?_
          | refine vb_i (e_not _) ?_
          | refine vb_i (e_nilCheck _) ?_
          | refine vb_i (e_fieldAddr _ _) ?_
          | refine hb_i (e_alloc _ _) ?_
          | (refine vb_i (adds ?_) ?_; (· first | omega | (simp only [List.length_cons, List.length_nil, List.length_append]; omega)))
          with_reducible refine sb_i (store32 g4 (by rw [List.length_map]; exact hsl) (by rw [List.length_map]; exact (bd 0).2) (cells_byte _)) ?_
          refine ⟨rfl, by rw [List.getElem?_set_self (lt_of_some g4)], by rw [List.getElem?_set_ne (by omega)]; exact gz4, ?_⟩
          have e1 : BareT 0 = [] ++ bareT 0 ++ [1 :: bw 0] ++ [0 :: bw 0] := by simp [BareT]
          rw [e1]
          rw [e1] at r4
          exact Run.weaken (Run.set r4 (.inr ⟨Nat.le_refl _, by simp⟩) _) fun q hq => .inl hq
        · repeat with_reducible first
          | refine isB_T ?_
          | refine isB_F ?_
          | (refine isB_ct ?_ ?_; (· first | omega | rfl | assumption | trivial))
          | (refine isB_cf ?_ ?_; (· first | omega | assumption))
          | refine onE_i ?_
          | (refine onE_s ?_ ?_; (· decide))
          | refine vb_i e_ext0 ?_
          | refine vb_i e_ext1 ?_
          | refine vb_i e_ext2 ?_
          | refine vb_i (lss64 _ _ _) ?_
          | refine vb_i (leq64 _ _ _) ?_
          | refine vb_i (gtr64 _ _ _) ?_
          | refine vb_i (geq64 _ _ _) ?_
          | refine vb_i (eql64 _ _ _) ?_
          | refine vb_i (neq64 _ _ _) ?_
          | refine vb_i (eqls _ _) ?_
          | refine vb_i (neqs _ _) ?_
          | (refine vb_i (add64 ?_ ?_) ?_; (· omega); (· omega))
          | (refine vb_i (sub64 ?_ ?_) ?_; (· omega); (· omega))
          | (refine vb_i (mul64 ?_ ?_) ?_; (· omega); (· omega))
          | (refine vb_i (quo64 ?_ ?_ ?_) ?_; (· omega); (· omega); (· omega))
          | (refine vb_i (rem64 ?_ ?_) ?_; (· omega); (· omega))
          | refine vb_i (e_lenSt _) ?_
          | refine vb_i (e_lenSl _ _ _) ?_
          | refine vb_i e_lenNil ?_
          | refine vb_i (lenSl_view (by assumption)) ?_
          | refine vb_i (e_ptrNil _ _) ?_
          | refine vb_i (e_ptrNilN _ _) ?_
          | refine vb_i (e_nilNil _) ?_
          | refine vb_i (e_nilNilN _) ?_
          | refine vb_i (e_pickT _ _) ?_
          | refine vb_i (e_pickF _ _) ?_
          | refine vb_i e_notd ?_
          | refine vb_i e_boolNe ?_
          | refine vb_i e_boolEq ?_
          | refine vb_i (e_not _) ?_
          | refine vb_i (e_nilCheck _) ?_
          | refine vb_i (e_fieldAddr _ _) ?_
          | refine hb_i (e_alloc _ _) ?_
          | (refine vb_i (adds ?_) ?_; (· first | omega | (simp only [List.length_cons, List.length_nil, List.length_append]; omega)))
          obtain ⟨m, rfl⟩ : ∃ m, k = m + 1 := ⟨k - 1, by omega⟩
          have e1 : BareT (m + 1) = [] ++ bareT (m + 1) ++ [1 :: bw (m + 1)] := by simp [BareT]
          rw [← e1] at r3
          exact ⟨rfl, gn, gz3, Run.weaken r3 fun q hq => .inl hq⟩
      · rintro _ vs D ⟨rfl, d1, d2, r5⟩
        repeat with_reducible first
        | refine isB_T ?_
        | refine isB_F ?_
        | (refine isB_ct ?_ ?_; (· first | omega | rfl | assumption | trivial))
        | (refine isB_cf ?_ ?_; (· first | omega | assumption))
        | refine onE_i ?_
        | (refine onE_s ?_ ?_; (· decide))
        | refine vb_i e_ext0 ?_
        | refine vb_i e_ext1 ?_
        | refine vb_i e_ext2 ?_
        | refine vb_i (lss64 _ _ _) ?_
        | refine vb_i (leq64 _ _ _) ?_
        | refine vb_i (gtr64 _ _ _) ?_
        | refine vb_i (geq64 _ _ _) ?_
        | refine vb_i (eql64 _ _ _) ?_
        | refine vb_i (neq64 _ _ _) ?_
        | refine vb_i (eqls _ _) ?_
        | refine vb_i (neqs _ _) ?_
        | (refine vb_i (add64 ?_ ?_) ?_; (· omega); (· omega))
        | (refine vb_i (sub64 ?_ ?_) ?_; (· omega); (· omega))
        | (refine vb_i (mul64 ?_ ?_) ?_; (· omega); (· omega))
        | (refine vb_i (quo64 ?_ ?_ ?_) ?_; (· omega); (· omega); (· omega))
        | (refine vb_i (rem64 ?_ ?_) ?_; (· omega); (· omega))
        | refine vb_i (e_lenSt _) ?_
        | refine vb_i (e_lenSl _ _ _) ?_
        | refine vb_i e_lenNil ?_
        | refine vb_i (lenSl_view (by assumption)) ?_
        | refine vb_i (e_ptrNil _ _) ?_
        | refine vb_i (e_ptrNilN _ _) ?_
        | refine vb_i (e_nilNil _) ?_
        | refine vb_i (e_nilNilN _) ?_
        | refine vb_i (e_pickT _ _) ?_
        | refine vb_i (e_pickF _ _) ?_
        | refine vb_i e_notd ?_
        | refine vb_i e_boolNe ?_
        | refine vb_i e_boolEq ?_
        | refine vb_i (e_not _) ?_
        | refine vb_i (e_nilCheck _) ?_
        | refine vb_i (e_fieldAddr _ _) ?_
        | refine hb_i (e_alloc _ _) ?_
        | (refine vb_i (adds ?_) ?_; (· first | omega | (simp only [List.length_cons, List.length_nil, List.length_append]; omega)))
        refine vb_i (e_loadAll d1 (by rw [List.length_map]; exact (bd k).2)) ?_
        refine sb_i (store32 d2 List.length_replicate (by rw [List.length_map]; exact (bd k).2) (cells_byte _)) ?_
        refine fin_ret (vs := [.str (bw k), .agg ((bd k).1.map ofByte), .int .i64 0]) (rvs_v (rvs_c (e_loadAll (by rw [List.getElem?_set_self (lt_of_some d2)]) (by rw [List.length_map]; exact (bd k).2)) (rvs_v (rvs_nil _)))) ?_
        exact Run.fin (Run.set r5 rfl _) (ren_trip (ren_p rfl) (agg_plain (bytes_plain _)) (ren_p rfl))

theorem node_High.ok (args : List AVal) (H : AHeap) (r : AVal) (H' : AHeap) (h : S_node_High args H r H') : ∃ x0, args = [x0] ∧ node_High.w x0 H fun r1 H1 => Weak H r1 H1 r H' := by
  obtain ⟨n, rfl, rfl, rfl⟩ := h
  refine ⟨_, rfl, ?_⟩
  unfold node_High.w
  refine JoinP.mk (fun e vs B => B = H' ∧ ((e = .ret ∧ vs = [.int .i64 0, .int .i64 3] ∧ (n < 0 ∨ 63 ≤ n)) ∨ (e = .normal ∧ ¬ (n < 0 ∨ 63 ≤ n)))) ?_ ?_
  · repeat with_reducible first
    | refine isB_T ?_
    | refine isB_F ?_
    | (refine isB_ct ?_ ?_; (· first | omega | rfl | assumption | trivial))
    | (refine isB_cf ?_ ?_; (· first | omega | assumption))
    | refine onE_i ?_
    | (refine onE_s ?_ ?_; (· decide))
    | refine vb_i e_ext0 ?_
    | refine vb_i e_ext1 ?_
    | refine vb_i e_ext2 ?_
    | refine vb_i (lss64 _ _ _) ?_
    | refine vb_i (leq64 _ _ _) ?_
    | refine vb_i (gtr64 _ _ _) ?_
    | refine vb_i (geq64 _ _ _) ?_
    | refine vb_i (eql64 _ _ _) ?_
    | refine vb_i (neq64 _ _ _) ?_
    | refine vb_i (eqls _ _) ?_
    | refine vb_i (neqs _ _) ?_
    | (refine vb_i (add64 ?_ ?_) ?_; (· omega); (· omega))
    | (refine vb_i (sub64 ?_ ?_) ?_; (· omega); (· omega))
    | (refine vb_i (mul64 ?_ ?_) ?_; (· omega); (· omega))
    | (refine vb_i (quo64 ?_ ?_ ?_) ?_; (· omega); (· omega); (· omega))
    | (refine vb_i (rem64 ?_ ?_) ?_; (· omega); (· omega))
    | refine vb_i (e_lenSt _) ?_
    | refine vb_i (e_lenSl _ _ _) ?_
    | refine vb_i e_lenNil ?_
    | refine vb_i (lenSl_view (by assumption)) ?_
    | refine vb_i (e_ptrNil _ _) ?_
    | refine vb_i (e_ptrNilN _ _) ?_
    | refine vb_i (e_nilNil _) ?_
    | refine vb_i (e_nilNilN _) ?_
    | refine vb_i (e_pickT _ _) ?_
    | refine vb_i (e_pickF _ _) ?_
    | refine vb_i e_notd ?_
    | refine vb_i e_boolNe ?_
    | refine vb_i e_boolEq ?_
    | refine vb_i (e_not _) ?_
    | refine vb_i (e_nilCheck _) ?_
    | refine vb_i (e_fieldAddr _ _) ?_
    | refine hb_i (e_alloc _ _) ?_
    | (refine vb_i (adds ?_) ?_; (· first | omega | (simp only [List.length_cons, List.length_nil, List.length_append]; omega)))
    refine isB_c (fun h1 => ?_) (fun h1 => ?_)
    · exact ⟨rfl, .inl ⟨rfl, rfl, .inl h1⟩⟩
    · repeat with_reducible first
      | refine isB_T ?_
      | refine isB_F ?_
      | (refine isB_ct ?_ ?_; (· first | omega | rfl | assumption | trivial))
      | (refine isB_cf ?_ ?_; (· first | omega | assumption))
      | refine onE_i ?_
      | (refine onE_s ?_ ?_; (· decide))
      | refine vb_i e_ext0 ?_
      | refine vb_i e_ext1 ?_
      | refine vb_i e_ext2 ?_
      | refine vb_i (lss64 _ _ _) ?_
      | refine vb_i (leq64 _ _ _) ?_
      | refine vb_i (gtr64 _ _ _) ?_
      | refine vb_i (geq64 _ _ _) ?_
      | refine vb_i (eql64 _ _ _) ?_
      | refine vb_i (neq64 _ _ _) ?_
      | refine vb_i (eqls _ _) ?_
      | refine vb_i (neqs _ _) ?_
      | (refine vb_i (add64 ?_ ?_) ?_; (· omega); (· omega))
      | (refine vb_i (sub64 ?_ ?_) ?_; (· omega); (· omega))
      | (refine vb_i (mul64 ?_ ?_) ?_; (· omega); (· omega))
      | (refine vb_i (quo64 ?_ ?_ ?_) ?_; (· omega); (· omega); (· omega))
      | (refine vb_i (rem64 ?_ ?_) ?_; (· omega); (· omega))
      | refine vb_i (e_lenSt _) ?_
      | refine vb_i (e_lenSl _ _ _) ?_
      | refine vb_i e_lenNil ?_
      | refine vb_i (lenSl_view (by assumption)) ?_
      | refine vb_i (e_ptrNil _ _) ?_
      | refine vb_i (e_ptrNilN _ _) ?_
      | refine vb_i (e_nilNil _) ?_
      | refine vb_i (e_nilNilN _) ?_
      | refine vb_i (e_pickT _ _) ?_
      | refine vb_i (e_pickF _ _) ?_
      | refine vb_i e_notd ?_
      | refine vb_i e_boolNe ?_
      | refine vb_i e_boolEq ?_
      | refine vb_i (e_not _) ?_
      | refine vb_i (e_nilCheck _) ?_
      | refine vb_i (e_fieldAddr _ _) ?_
      | refine hb_i (e_alloc _ _) ?_
      | (refine vb_i (adds ?_) ?_; (· first | omega | (simp only [List.length_cons, List.length_nil, List.length_append]; omega)))
      refine isB_c (fun h2 => ?_) (fun h2 => ?_)
      · exact ⟨rfl, .inl ⟨rfl, rfl, .inr (by omega)⟩⟩
      · exact ⟨rfl, .inr ⟨rfl, by omega⟩⟩
  rintro _ vs B ⟨rfl, ⟨rfl, rfl, hn⟩ | ⟨rfl, hn⟩⟩
  · repeat with_reducible first
    | refine isB_T ?_
    | refine isB_F ?_
    | (refine isB_ct ?_ ?_; (· first | omega | rfl | assumption | trivial))
    | (refine isB_cf ?_ ?_; (· first | omega | assumption))
    | refine onE_i ?_
    | (refine onE_s ?_ ?_; (· decide))
    | refine vb_i e_ext0 ?_
    | refine vb_i e_ext1 ?_
    | refine vb_i e_ext2 ?_
    | refine vb_i (lss64 _ _ _) ?_
    | refine vb_i (leq64 _ _ _) ?_
    | refine vb_i (gtr64 _ _ _) ?_
    | refine vb_i (geq64 _ _ _) ?_
    | refine vb_i (eql64 _ _ _) ?_
    | refine vb_i (neq64 _ _ _) ?_
    | refine vb_i (eqls _ _) ?_
    | refine vb_i (neqs _ _) ?_
    | (refine vb_i (add64 ?_ ?_) ?_; (· omega); (· omega))
    | (refine vb_i (sub64 ?_ ?_) ?_; (· omega); (· omega))
    | (refine vb_i (mul64 ?_ ?_) ?_; (· omega); (· omega))
    | (refine vb_i (quo64 ?_ ?_ ?_) ?_; (· omega); (· omega); (· omega))
    | (refine vb_i (rem64 ?_ ?_) ?_; (· omega); (· omega))
    | refine vb_i (e_lenSt _) ?_
    | refine vb_i (e_lenSl _ _ _) ?_
    | refine vb_i e_lenNil ?_
    | refine vb_i (lenSl_view (by assumption)) ?_
    | refine vb_i (e_ptrNil _ _) ?_
    | refine vb_i (e_ptrNilN _ _) ?_
    | refine vb_i (e_nilNil _) ?_
    | refine vb_i (e_nilNilN _) ?_
    | refine vb_i (e_pickT _ _) ?_
    | refine vb_i (e_pickF _ _) ?_
    | refine vb_i e_notd ?_
    | refine vb_i e_boolNe ?_
    | refine vb_i e_boolEq ?_
    | refine vb_i (e_not _) ?_
    | refine vb_i (e_nilCheck _) ?_
    | refine vb_i (e_fieldAddr _ _) ?_
    | refine hb_i (e_alloc _ _) ?_
    | (refine vb_i (adds ?_) ?_; (· first | omega | (simp only [List.length_cons, List.length_nil, List.length_append]; omega)))
    try simp only [evB]
    have hR : highR n = [.int .i64 0, .int .i64 3] := if_pos hn
    rw [hR]
    exact fin_ret (vs := [.int .i64 0, .int .i64 3]) (rvs_v (rvs_v (rvs_nil _))) (Weak.refl (ren_pair (ren_p rfl) (ren_p rfl)))
  · have hR : highR n = [.int .i64 (6 - hops n.toNat), .int .i64 0] := if_neg hn
    obtain ⟨k, rfl⟩ : ∃ k : Nat, n = k := ⟨n.toNat, by omega⟩
    rw [hR, Int.toNat_natCast]
    repeat with_reducible first
    | refine isB_T ?_
    | refine isB_F ?_
    | (refine isB_ct ?_ ?_; (· first | omega | rfl | assumption | trivial))
    | (refine isB_cf ?_ ?_; (· first | omega | assumption))
    | refine onE_i ?_
    | (refine onE_s ?_ ?_; (· decide))
    | refine vb_i e_ext0 ?_
    | refine vb_i e_ext1 ?_
    | refine vb_i e_ext2 ?_
    | refine vb_i (lss64 _ _ _) ?_
    | refine vb_i (leq64 _ _ _) ?_
    | refine vb_i (gtr64 _ _ _) ?_
    | refine vb_i (geq64 _ _ _) ?_
    | refine vb_i (eql64 _ _ _) ?_
    | refine vb_i (neq64 _ _ _) ?_
    | refine vb_i (eqls _ _) ?_
    | refine vb_i (neqs _ _) ?_
    | (refine vb_i (add64 ?_ ?_) ?_; (· omega); (· omega))
    | (refine vb_i (sub64 ?_ ?_) ?_; (· omega); (· omega))
    | (refine vb_i (mul64 ?_ ?_) ?_; (· omega); (· omega))
    | (refine vb_i (quo64 ?_ ?_ ?_) ?_; (· omega); (· omega); (· omega))
    | (refine vb_i (rem64 ?_ ?_) ?_; (· omega); (· omega))
    | refine vb_i (e_lenSt _) ?_
    | refine vb_i (e_lenSl _ _ _) ?_
    | refine vb_i e_lenNil ?_
    | refine vb_i (lenSl_view (by assumption)) ?_
    | refine vb_i (e_ptrNil _ _) ?_
    | refine vb_i (e_ptrNilN _ _) ?_
    | refine vb_i (e_nilNil _) ?_
    | refine vb_i (e_nilNilN _) ?_
    | refine vb_i (e_pickT _ _) ?_
    | refine vb_i (e_pickF _ _) ?_
    | refine vb_i e_notd ?_
    | refine vb_i e_boolNe ?_
    | refine vb_i e_boolEq ?_
    | refine vb_i (e_not _) ?_
    | refine vb_i (e_nilCheck _) ?_
    | refine vb_i (e_fieldAddr _ _) ?_
    | refine hb_i (e_alloc _ _) ?_
    | (refine vb_i (adds ?_) ?_; (· first | omega | (simp only [List.length_cons, List.length_nil, List.length_append]; omega)))
    refine LoopP.ruleG (α := Nat) (fun j => [.int .i64 j, .int .i64 (6 - hops k + hops j)]) (fun j C => j ≤ k ∧ C = B) (fun j => j) k (by simp) ⟨Nat.le_refl _, rfl⟩ ?_
    rintro j C Kn ⟨hj, rfl⟩ hk
    unfold node_High.L4 node_High.L4.b
    try simp only [evB]
    have hh : ∀ q, q ≤ 62 → hops q ≤ 5 := by decide
    have hhk := hh k (by omega)
    have hhj := hh j (by omega)
    by_cases hj0 : 0 < j
    · have hS := hopsS hj0
      repeat with_reducible first
      | refine isB_T ?_
      | refine isB_F ?_
      | (refine isB_ct ?_ ?_; (· first | omega | rfl | assumption | trivial))
      | (refine isB_cf ?_ ?_; (· first | omega | assumption))
      | refine onE_i ?_
      | (refine onE_s ?_ ?_; (· decide))
      | refine vb_i e_ext0 ?_
      | refine vb_i e_ext1 ?_
      | refine vb_i e_ext2 ?_
      | refine vb_i (lss64 _ _ _) ?_
      | refine vb_i (leq64 _ _ _) ?_
      | refine vb_i (gtr64 _ _ _) ?_
      | refine vb_i (geq64 _ _ _) ?_
      | refine vb_i (eql64 _ _ _) ?_
      | refine vb_i (neq64 _ _ _) ?_
      | refine vb_i (eqls _ _) ?_
      | refine vb_i (neqs _ _) ?_
      | (refine vb_i (add64 ?_ ?_) ?_; (· omega); (· omega))
      | (refine vb_i (sub64 ?_ ?_) ?_; (· omega); (· omega))
      | (refine vb_i (mul64 ?_ ?_) ?_; (· omega); (· omega))
      | (refine vb_i (quo64 ?_ ?_ ?_) ?_; (· omega); (· omega); (· omega))
      | (refine vb_i (rem64 ?_ ?_) ?_; (· omega); (· omega))
      | refine vb_i (e_lenSt _) ?_
      | refine vb_i (e_lenSl _ _ _) ?_
      | refine vb_i e_lenNil ?_
      | refine vb_i (lenSl_view (by assumption)) ?_
      | refine vb_i (e_ptrNil _ _) ?_
      | refine vb_i (e_ptrNilN _ _) ?_
      | refine vb_i (e_nilNil _) ?_
      | refine vb_i (e_nilNilN _) ?_
      | refine vb_i (e_pickT _ _) ?_
      | refine vb_i (e_pickF _ _) ?_
      | refine vb_i e_notd ?_
      | refine vb_i e_boolNe ?_
      | refine vb_i e_boolEq ?_
      | refine vb_i (e_not _) ?_
      | refine vb_i (e_nilCheck _) ?_
      | refine vb_i (e_fieldAddr _ _) ?_
      | refine hb_i (e_alloc _ _) ?_
      | (refine vb_i (adds ?_) ?_; (· first | omega | (simp only [List.length_cons, List.length_nil, List.length_append]; omega)))
      have e1 : ((j : Int) - 1) / 2 = (((j - 1) / 2 : Nat) : Int) := by omega
      have e2 : (6 : Int) - hops k + hops j - 1 = 6 - hops k + hops ((j - 1) / 2) := by rw [hS]; push_cast; omega
      rw [e1, e2]
      exact hk ((j - 1) / 2) _ ⟨by omega, rfl⟩ (by omega)
    · have : j = 0 := by omega
      subst this
      repeat with_reducible first
      | refine isB_T ?_
      | refine isB_F ?_
      | (refine isB_ct ?_ ?_; (· first | omega | rfl | assumption | trivial))
      | (refine isB_cf ?_ ?_; (· first | omega | assumption))
      | refine onE_i ?_
      | (refine onE_s ?_ ?_; (· decide))
      | refine vb_i e_ext0 ?_
      | refine vb_i e_ext1 ?_
      | refine vb_i e_ext2 ?_
      | refine vb_i (lss64 _ _ _) ?_
      | refine vb_i (leq64 _ _ _) ?_
      | refine vb_i (gtr64 _ _ _) ?_
      | refine vb_i (geq64 _ _ _) ?_
      | refine vb_i (eql64 _ _ _) ?_
      | refine vb_i (neq64 _ _ _) ?_
      | refine vb_i (eqls _ _) ?_
      | refine vb_i (neqs _ _) ?_
      | (refine vb_i (add64 ?_ ?_) ?_; (· omega); (· omega))
      | (refine vb_i (sub64 ?_ ?_) ?_; (· omega); (· omega))
      | (refine vb_i (mul64 ?_ ?_) ?_; (· omega); (· omega))
      | (refine vb_i (quo64 ?_ ?_ ?_) ?_; (· omega); (· omega); (· omega))
      | (refine vb_i (rem64 ?_ ?_) ?_; (· omega); (· omega))
      | refine vb_i (e_lenSt _) ?_
      | refine vb_i (e_lenSl _ _ _) ?_
      | refine vb_i e_lenNil ?_
      | refine vb_i (lenSl_view (by assumption)) ?_
      | refine vb_i (e_ptrNil _ _) ?_
      | refine vb_i (e_ptrNilN _ _) ?_
      | refine vb_i (e_nilNil _) ?_
      | refine vb_i (e_nilNilN _) ?_
      | refine vb_i (e_pickT _ _) ?_
      | refine vb_i (e_pickF _ _) ?_
      | refine vb_i e_notd ?_
      | refine vb_i e_boolNe ?_
      | refine vb_i e_boolEq ?_
      | refine vb_i (e_not _) ?_
      | refine vb_i (e_nilCheck _) ?_
      | refine vb_i (e_fieldAddr _ _) ?_
      | refine hb_i (e_alloc _ _) ?_
      | (refine vb_i (adds ?_) ?_; (· first | omega | (simp only [List.length_cons, List.length_nil, List.length_append]; omega)))
      try simp only [evB]
      have e3 : (6 : Int) - hops k + hops 0 = 6 - hops k := by rw [hops0]; simp
      rw [e3]
      exact fin_ret (vs := [.int .i64 (6 - hops k), .int .i64 0]) (rvs_v (rvs_v (rvs_nil _))) (Weak.refl (ren_pair (ren_p rfl) (ren_p rfl)))

theorem node_Same.ok (args : List AVal) (H : AHeap) (r : AVal) (H' : AHeap) (h : S_node_Same args H r H') : ∃ x0 x1 x2, args = [x0, x1, x2] ∧ node_Same.w x0 x1 x2 H fun r1 H1 => Weak H r1 H1 r H' := by
  obtain ⟨x, y, dd, ee, rfl, hA, hB, rfl, rfl⟩ := h
  refine ⟨_, _, _, rfl, ?_⟩
  unfold node_Same.w
  have two : ∀ (z : AVal) (gg : List D32) (C : AHeap), RtArgs C .nilp z gg → S_node_Root [.nilp, z] C (.tup [.agg ((rootV gg).map ofByte), .int .i64 (rootE gg)]) C := fun z gg C hz => by
    by_cases h64 : gg.length = 64
    · exact root_spec hz (.inr ⟨h64, .inl ⟨rfl, rfl⟩⟩)
    · exact root_spec hz (.inl ⟨h64, rfl⟩)
  refine cb_i _ _ (two x dd H' hA) ?_
  have h1 := rootV_len dd
  have h2 := rootV_len ee
  repeat with_reducible first
  | refine isB_T ?_
  | refine isB_F ?_
  | (refine isB_ct ?_ ?_; (· first | omega | rfl | assumption | trivial))
  | (refine isB_cf ?_ ?_; (· first | omega | assumption))
  | refine onE_i ?_
  | (refine onE_s ?_ ?_; (· decide))
  | refine vb_i e_ext0 ?_
  | refine vb_i e_ext1 ?_
  | refine vb_i e_ext2 ?_
  | refine vb_i (lss64 _ _ _) ?_
  | refine vb_i (leq64 _ _ _) ?_
  | refine vb_i (gtr64 _ _ _) ?_
  | refine vb_i (geq64 _ _ _) ?_
  | refine vb_i (eql64 _ _ _) ?_
  | refine vb_i (neq64 _ _ _) ?_
  | refine vb_i (eqls _ _) ?_
  | refine vb_i (neqs _ _) ?_
  | (refine vb_i (add64 ?_ ?_) ?_; (· omega); (· omega))
  | (refine vb_i (sub64 ?_ ?_) ?_; (· omega); (· omega))
  | (refine vb_i (mul64 ?_ ?_) ?_; (· omega); (· omega))
  | (refine vb_i (quo64 ?_ ?_ ?_) ?_; (· omega); (· omega); (· omega))
  | (refine vb_i (rem64 ?_ ?_) ?_; (· omega); (· omega))
  | refine vb_i (e_lenSt _) ?_
  | refine vb_i (e_lenSl _ _ _) ?_
  | refine vb_i e_lenNil ?_
  | refine vb_i (lenSl_view (by assumption)) ?_
  | refine vb_i (e_ptrNil _ _) ?_
  | refine vb_i (e_ptrNilN _ _) ?_
  | refine vb_i (e_nilNil _) ?_
  | refine vb_i (e_nilNilN _) ?_
  | refine vb_i (e_pickT _ _) ?_
  | refine vb_i (e_pickF _ _) ?_
  | refine vb_i e_notd ?_
  | refine vb_i e_boolNe ?_
  | refine vb_i e_boolEq ?_
  | refine vb_i (e_not _) ?_
  | refine vb_i (e_nilCheck _) ?_
  | refine vb_i (e_fieldAddr _ _) ?_
  | refine hb_i (e_alloc _ _) ?_
  | (refine vb_i (adds ?_) ?_; (· first | omega | (simp only [List.length_cons, List.length_nil, List.length_append]; omega)))
  with_reducible refine sb_i (store_new List.length_replicate (by rw [List.length_map]; exact h1) (cells_byte _)) ?_
  have pB : H' <+: H' ++ [AObj.cells 0 .exact ((rootV dd).map ofByte)] := pre_app _ _
  have g1 : (H' ++ [AObj.cells 0 .exact ((rootV dd).map ofByte)])[H'.length]? = some (.cells 0 .exact ((rootV dd).map ofByte)) := by rw [app_get0]; rfl
  generalize H' ++ [AObj.cells 0 .exact ((rootV dd).map ofByte)] = B at *
  refine cb_i _ _ (two y ee B ⟨hB.v.pre pB, hB.hl, hB.o⟩) ?_
  repeat with_reducible first
  | refine isB_T ?_
  | refine isB_F ?_
  | (refine isB_ct ?_ ?_; (· first | omega | rfl | assumption | trivial))
  | (refine isB_cf ?_ ?_; (· first | omega | assumption))
  | refine onE_i ?_
  | (refine onE_s ?_ ?_; (· decide))
  | refine vb_i e_ext0 ?_
  | refine vb_i e_ext1 ?_
  | refine vb_i e_ext2 ?_
  | refine vb_i (lss64 _ _ _) ?_
  | refine vb_i (leq64 _ _ _) ?_
  | refine vb_i (gtr64 _ _ _) ?_
  | refine vb_i (geq64 _ _ _) ?_
  | refine vb_i (eql64 _ _ _) ?_
  | refine vb_i (neq64 _ _ _) ?_
  | refine vb_i (eqls _ _) ?_
  | refine vb_i (neqs _ _) ?_
  | (refine vb_i (add64 ?_ ?_) ?_; (· omega); (· omega))
  | (refine vb_i (sub64 ?_ ?_) ?_; (· omega); (· omega))
  | (refine vb_i (mul64 ?_ ?_) ?_; (· omega); (· omega))
  | (refine vb_i (quo64 ?_ ?_ ?_) ?_; (· omega); (· omega); (· omega))
  | (refine vb_i (rem64 ?_ ?_) ?_; (· omega); (· omega))
  | refine vb_i (e_lenSt _) ?_
  | refine vb_i (e_lenSl _ _ _) ?_
  | refine vb_i e_lenNil ?_
  | refine vb_i (lenSl_view (by assumption)) ?_
  | refine vb_i (e_ptrNil _ _) ?_
  | refine vb_i (e_ptrNilN _ _) ?_
  | refine vb_i (e_nilNil _) ?_
  | refine vb_i (e_nilNilN _) ?_
  | refine vb_i (e_pickT _ _) ?_
  | refine vb_i (e_pickF _ _) ?_
  | refine vb_i e_notd ?_
  | refine vb_i e_boolNe ?_
  | refine vb_i e_boolEq ?_
  | refine vb_i (e_not _) ?_
  | refine vb_i (e_nilCheck _) ?_
  | refine vb_i (e_fieldAddr _ _) ?_
  | refine hb_i (e_alloc _ _) ?_
  | (refine vb_i (adds ?_) ?_; (· first | omega | (simp only [List.length_cons, List.length_nil, List.length_append]; omega)))
  with_reducible refine sb_i (store_new List.length_replicate (by rw [List.length_map]; exact h2) (cells_byte _)) ?_
  have pC : H' <+: B ++ [AObj.cells 0 .exact ((rootV ee).map ofByte)] := pB.trans (pre_app _ _)
  by_cases e1 : dd.length = 64
  · have hE : rootE dd = 0 := by unfold rootE; rw [if_pos e1]
    by_cases e2 : ee.length = 64
    · have hF : rootE ee = 0 := by unfold rootE; rw [if_pos e2]
      have hV : rootV dd = (val dd 6 0).1 := by unfold rootV; rw [if_pos e1]
      have hW : rootV ee = (val ee 6 0).1 := by unfold rootV; rw [if_pos e2]
      rw [hE, hF]
      repeat with_reducible first
      | refine isB_T ?_
      | refine isB_F ?_
      | (refine isB_ct ?_ ?_; (· first | omega | rfl | assumption | trivial))
      | (refine isB_cf ?_ ?_; (· first | omega | assumption))
      | refine onE_i ?_
      | (refine onE_s ?_ ?_; (· decide))
      | refine vb_i e_ext0 ?_
      | refine vb_i e_ext1 ?_
      | refine vb_i e_ext2 ?_
      | refine vb_i (lss64 _ _ _) ?_
      | refine vb_i (leq64 _ _ _) ?_
      | refine vb_i (gtr64 _ _ _) ?_
      | refine vb_i (geq64 _ _ _) ?_
      | refine vb_i (eql64 _ _ _) ?_
      | refine vb_i (neq64 _ _ _) ?_
      | refine vb_i (eqls _ _) ?_
      | refine vb_i (neqs _ _) ?_
      | (refine vb_i (add64 ?_ ?_) ?_; (· omega); (· omega))
      | (refine vb_i (sub64 ?_ ?_) ?_; (· omega); (· omega))
      | (refine vb_i (mul64 ?_ ?_) ?_; (· omega); (· omega))
      | (refine vb_i (quo64 ?_ ?_ ?_) ?_; (· omega); (· omega); (· omega))
      | (refine vb_i (rem64 ?_ ?_) ?_; (· omega); (· omega))
      | refine vb_i (e_lenSt _) ?_
      | refine vb_i (e_lenSl _ _ _) ?_
      | refine vb_i e_lenNil ?_
      | refine vb_i (lenSl_view (by assumption)) ?_
      | refine vb_i (e_ptrNil _ _) ?_
      | refine vb_i (e_ptrNilN _ _) ?_
      | refine vb_i (e_nilNil _) ?_
      | refine vb_i (e_nilNilN _) ?_
      | refine vb_i (e_pickT _ _) ?_
      | refine vb_i (e_pickF _ _) ?_
      | refine vb_i e_notd ?_
      | refine vb_i e_boolNe ?_
      | refine vb_i e_boolEq ?_
      | refine vb_i (e_not _) ?_
      | refine vb_i (e_nilCheck _) ?_
      | refine vb_i (e_fieldAddr _ _) ?_
      | refine hb_i (e_alloc _ _) ?_
      | (refine vb_i (adds ?_) ?_; (· first | omega | (simp only [List.length_cons, List.length_nil, List.length_append]; omega)))
      refine vb_i (e_loadAll (by rw [pre_get (pre_app _ _) (lt_of_some g1)]; exact g1) (by rw [List.length_map]; exact h1)) ?_
      refine vb_i (load_new (by rw [List.length_map]; exact h2)) ?_
      refine vb_i (e_eqBytes h1 h2) ?_
      have : decide (sameR dd ee) = decide (rootV dd = rootV ee) := by
        apply decide_eq_decide.2
        unfold sameR
        rw [hV, hW]
        exact ⟨fun h => h.2, fun h => ⟨⟨e1, e2⟩, h⟩⟩
      rw [this]
      exact fin_ret (vs := [.bool (decide (rootV dd = rootV ee))]) (rvs_v (rvs_nil _)) (Weak.any (ren_p rfl) pC)
    · have hF : rootE ee = 6 := by unfold rootE; rw [if_neg e2]
      rw [hE, hF]
      repeat with_reducible first
      | refine isB_T ?_
      | refine isB_F ?_
      | (refine isB_ct ?_ ?_; (· first | omega | rfl | assumption | trivial))
      | (refine isB_cf ?_ ?_; (· first | omega | assumption))
      | refine onE_i ?_
      | (refine onE_s ?_ ?_; (· decide))
      | refine vb_i e_ext0 ?_
      | refine vb_i e_ext1 ?_
      | refine vb_i e_ext2 ?_
      | refine vb_i (lss64 _ _ _) ?_
      | refine vb_i (leq64 _ _ _) ?_
      | refine vb_i (gtr64 _ _ _) ?_
      | refine vb_i (geq64 _ _ _) ?_
      | refine vb_i (eql64 _ _ _) ?_
      | refine vb_i (neq64 _ _ _) ?_
      | refine vb_i (eqls _ _) ?_
      | refine vb_i (neqs _ _) ?_
      | (refine vb_i (add64 ?_ ?_) ?_; (· omega); (· omega))
      | (refine vb_i (sub64 ?_ ?_) ?_; (· omega); (· omega))
      | (refine vb_i (mul64 ?_ ?_) ?_; (· omega); (· omega))
      | (refine vb_i (quo64 ?_ ?_ ?_) ?_; (· omega); (· omega); (· omega))
      | (refine vb_i (rem64 ?_ ?_) ?_; (· omega); (· omega))
      | refine vb_i (e_lenSt _) ?_
      | refine vb_i (e_lenSl _ _ _) ?_
      | refine vb_i e_lenNil ?_
      | refine vb_i (lenSl_view (by assumption)) ?_
      | refine vb_i (e_ptrNil _ _) ?_
      | refine vb_i (e_ptrNilN _ _) ?_
      | refine vb_i (e_nilNil _) ?_
      | refine vb_i (e_nilNilN _) ?_
      | refine vb_i (e_pickT _ _) ?_
      | refine vb_i (e_pickF _ _) ?_
      | refine vb_i e_notd ?_
      | refine vb_i e_boolNe ?_
      | refine vb_i e_boolEq ?_
      | refine vb_i (e_not _) ?_
      | refine vb_i (e_nilCheck _) ?_
      | refine vb_i (e_fieldAddr _ _) ?_
      | refine hb_i (e_alloc _ _) ?_
      | (refine vb_i (adds ?_) ?_; (· first | omega | (simp only [List.length_cons, List.length_nil, List.length_append]; omega)))
      have : decide (sameR dd ee) = false := decide_eq_false fun h => e2 h.1.2
      rw [this]
      exact fin_ret (vs := [.bool false]) (rvs_v (rvs_nil _)) (Weak.any (ren_p rfl) pC)
  · have hE : rootE dd = 6 := by unfold rootE; rw [if_neg e1]
    rw [hE]
    repeat with_reducible first
    | refine isB_T ?_
    | refine isB_F ?_
    | (refine isB_ct ?_ ?_; (· first | omega | rfl | assumption | trivial))
    | (refine isB_cf ?_ ?_; (· first | omega | assumption))
    | refine onE_i ?_
    | (refine onE_s ?_ ?_; (· decide))
    | refine vb_i e_ext0 ?_
    | refine vb_i e_ext1 ?_
    | refine vb_i e_ext2 ?_
    | refine vb_i (lss64 _ _ _) ?_
    | refine vb_i (leq64 _ _ _) ?_
    | refine vb_i (gtr64 _ _ _) ?_
    | refine vb_i (geq64 _ _ _) ?_
    | refine vb_i (eql64 _ _ _) ?_
    | refine vb_i (neq64 _ _ _) ?_
    | refine vb_i (eqls _ _) ?_
    | refine vb_i (neqs _ _) ?_
    | (refine vb_i (add64 ?_ ?_) ?_; (· omega); (· omega))
    | (refine vb_i (sub64 ?_ ?_) ?_; (· omega); (· omega))
    | (refine vb_i (mul64 ?_ ?_) ?_; (· omega); (· omega))
    | (refine vb_i (quo64 ?_ ?_ ?_) ?_; (· omega); (· omega); (· omega))
    | (refine vb_i (rem64 ?_ ?_) ?_; (· omega); (· omega))
    | refine vb_i (e_lenSt _) ?_
    | refine vb_i (e_lenSl _ _ _) ?_
    | refine vb_i e_lenNil ?_
    | refine vb_i (lenSl_view (by assumption)) ?_
    | refine vb_i (e_ptrNil _ _) ?_
    | refine vb_i (e_ptrNilN _ _) ?_
    | refine vb_i (e_nilNil _) ?_
    | refine vb_i (e_nilNilN _) ?_
    | refine vb_i (e_pickT _ _) ?_
    | refine vb_i (e_pickF _ _) ?_
    | refine vb_i e_notd ?_
    | refine vb_i e_boolNe ?_
    | refine vb_i e_boolEq ?_
    | refine vb_i (e_not _) ?_
    | refine vb_i (e_nilCheck _) ?_
    | refine vb_i (e_fieldAddr _ _) ?_
    | refine hb_i (e_alloc _ _) ?_
    | (refine vb_i (adds ?_) ?_; (· first | omega | (simp only [List.length_cons, List.length_nil, List.length_append]; omega)))
    have : decide (sameR dd ee) = false := decide_eq_false fun h => e1 h.1.1
    rw [this]
    exact fin_ret (vs := [.bool false]) (rvs_v (rvs_nil _)) (Weak.any (ren_p rfl) pC)
end Go.Sh

/- Trees of bare leaves: the law. -/
namespace Go.Sh
open Go Go.Abs

theorem four_defd {B C : AHeap} {x y : AVal} {es n m : Nat} {cs ds : List AVal} (h : View B x es n cs) (k : View C y es m ds) (a b : Int) : (AVal.agg [.int .i64 a, .int .i64 b, x, y]).defd = true := by
  rcases slice_cells h with rfl | ⟨_, _, _, rfl⟩ <;> rcases slice_cells k with rfl | ⟨_, _, _, rfl⟩ <;> rfl

theorem cellaretlaw17_NodeBares.ok (args : List AVal) (H : AHeap) (r : AVal) (H' : AHeap) (h : S_cellaretlaw17_NodeBares args H r H') : ∃ x0, args = [x0] ∧ cellaretlaw17_NodeBares.w x0 H fun r1 H1 => Weak H r1 H1 r H' := by
  obtain ⟨hh, n, x, y, dd, ee, rfl, hv, hl, hw, hm, rfl, rfl⟩ := h
  refine ⟨_, rfl, ?_⟩
  unfold cellaretlaw17_NodeBares.w
  have hcl : (AVal.agg [.int .i64 hh, .int .i64 n, x, y]).cells = [.int .i64 hh, .int .i64 n, x, y] := rfl
  refine hb_i (e_box (four_defd hv hw hh n)) ?_
  rw [hcl]
  have g0 : (H' ++ [AObj.cells 0 .exact [.int .i64 hh, .int .i64 n, x, y]])[H'.length]? = some (.cells 0 .exact [.int .i64 hh, .int .i64 n, x, y]) := by rw [app_get0]; rfl
  have p0 : H' <+: H' ++ [AObj.cells 0 .exact [.int .i64 hh, .int .i64 n, x, y]] := pre_app _ _
  generalize H' ++ [AObj.cells 0 .exact [.int .i64 hh, .int .i64 n, x, y]] = A at *
  repeat with_reducible first
  | refine isB_T ?_
  | refine isB_F ?_
  | (refine isB_ct ?_ ?_; (· first | omega | rfl | assumption | trivial))
  | (refine isB_cf ?_ ?_; (· first | omega | assumption))
  | refine onE_i ?_
  | (refine onE_s ?_ ?_; (· decide))
  | refine vb_i e_ext0 ?_
  | refine vb_i e_ext1 ?_
  | refine vb_i e_ext2 ?_
  | refine vb_i (lss64 _ _ _) ?_
  | refine vb_i (leq64 _ _ _) ?_
  | refine vb_i (gtr64 _ _ _) ?_
  | refine vb_i (geq64 _ _ _) ?_
  | refine vb_i (eql64 _ _ _) ?_
  | refine vb_i (neq64 _ _ _) ?_
  | refine vb_i (eqls _ _) ?_
  | refine vb_i (neqs _ _) ?_
  | (refine vb_i (add64 ?_ ?_) ?_; (· omega); (· omega))
  | (refine vb_i (sub64 ?_ ?_) ?_; (· omega); (· omega))
  | (refine vb_i (mul64 ?_ ?_) ?_; (· omega); (· omega))
  | (refine vb_i (quo64 ?_ ?_ ?_) ?_; (· omega); (· omega); (· omega))
  | (refine vb_i (rem64 ?_ ?_) ?_; (· omega); (· omega))
  | refine vb_i (e_lenSt _) ?_
  | refine vb_i (e_lenSl _ _ _) ?_
  | refine vb_i e_lenNil ?_
  | refine vb_i (lenSl_view (by assumption)) ?_
  | refine vb_i (e_ptrNil _ _) ?_
  | refine vb_i (e_ptrNilN _ _) ?_
  | refine vb_i (e_nilNil _) ?_
  | refine vb_i (e_nilNilN _) ?_
  | refine vb_i (e_pickT _ _) ?_
  | refine vb_i (e_pickF _ _) ?_
  | refine vb_i e_notd ?_
  | refine vb_i e_boolNe ?_
  | refine vb_i e_boolEq ?_
  | refine vb_i (e_not _) ?_
  | refine vb_i (e_nilCheck _) ?_
  | refine vb_i (e_fieldAddr _ _) ?_
  | refine hb_i (e_alloc _ _) ?_
  | (refine vb_i (adds ?_) ?_; (· first | omega | (simp only [List.length_cons, List.length_nil, List.length_append]; omega)))
  refine vb_i (v := .int .i64 hh) (e_load1 g0 (by simp)) ?_
  repeat with_reducible first
  | refine isB_T ?_
  | refine isB_F ?_
  | (refine isB_ct ?_ ?_; (· first | omega | rfl | assumption | trivial))
  | (refine isB_cf ?_ ?_; (· first | omega | assumption))
  | refine onE_i ?_
  | (refine onE_s ?_ ?_; (· decide))
  | refine vb_i e_ext0 ?_
  | refine vb_i e_ext1 ?_
  | refine vb_i e_ext2 ?_
  | refine vb_i (lss64 _ _ _) ?_
  | refine vb_i (leq64 _ _ _) ?_
  | refine vb_i (gtr64 _ _ _) ?_
  | refine vb_i (geq64 _ _ _) ?_
  | refine vb_i (eql64 _ _ _) ?_
  | refine vb_i (neq64 _ _ _) ?_
  | refine vb_i (eqls _ _) ?_
  | refine vb_i (neqs _ _) ?_
  | (refine vb_i (add64 ?_ ?_) ?_; (· omega); (· omega))
  | (refine vb_i (sub64 ?_ ?_) ?_; (· omega); (· omega))
  | (refine vb_i (mul64 ?_ ?_) ?_; (· omega); (· omega))
  | (refine vb_i (quo64 ?_ ?_ ?_) ?_; (· omega); (· omega); (· omega))
  | (refine vb_i (rem64 ?_ ?_) ?_; (· omega); (· omega))
  | refine vb_i (e_lenSt _) ?_
  | refine vb_i (e_lenSl _ _ _) ?_
  | refine vb_i e_lenNil ?_
  | refine vb_i (lenSl_view (by assumption)) ?_
  | refine vb_i (e_ptrNil _ _) ?_
  | refine vb_i (e_ptrNilN _ _) ?_
  | refine vb_i (e_nilNil _) ?_
  | refine vb_i (e_nilNilN _) ?_
  | refine vb_i (e_pickT _ _) ?_
  | refine vb_i (e_pickF _ _) ?_
  | refine vb_i e_notd ?_
  | refine vb_i e_boolNe ?_
  | refine vb_i e_boolEq ?_
  | refine vb_i (e_not _) ?_
  | refine vb_i (e_nilCheck _) ?_
  | refine vb_i (e_fieldAddr _ _) ?_
  | refine hb_i (e_alloc _ _) ?_
  | (refine vb_i (adds ?_) ?_; (· first | omega | (simp only [List.length_cons, List.length_nil, List.length_append]; omega)))
  refine vb_i (v := .int .i64 n) (e_load1 g0 (by simp)) ?_
  repeat with_reducible first
  | refine isB_T ?_
  | refine isB_F ?_
  | (refine isB_ct ?_ ?_; (· first | omega | rfl | assumption | trivial))
  | (refine isB_cf ?_ ?_; (· first | omega | assumption))
  | refine onE_i ?_
  | (refine onE_s ?_ ?_; (· decide))
  | refine vb_i e_ext0 ?_
  | refine vb_i e_ext1 ?_
  | refine vb_i e_ext2 ?_
  | refine vb_i (lss64 _ _ _) ?_
  | refine vb_i (leq64 _ _ _) ?_
  | refine vb_i (gtr64 _ _ _) ?_
  | refine vb_i (geq64 _ _ _) ?_
  | refine vb_i (eql64 _ _ _) ?_
  | refine vb_i (neq64 _ _ _) ?_
  | refine vb_i (eqls _ _) ?_
  | refine vb_i (neqs _ _) ?_
  | (refine vb_i (add64 ?_ ?_) ?_; (· omega); (· omega))
  | (refine vb_i (sub64 ?_ ?_) ?_; (· omega); (· omega))
  | (refine vb_i (mul64 ?_ ?_) ?_; (· omega); (· omega))
  | (refine vb_i (quo64 ?_ ?_ ?_) ?_; (· omega); (· omega); (· omega))
  | (refine vb_i (rem64 ?_ ?_) ?_; (· omega); (· omega))
  | refine vb_i (e_lenSt _) ?_
  | refine vb_i (e_lenSl _ _ _) ?_
  | refine vb_i e_lenNil ?_
  | refine vb_i (lenSl_view (by assumption)) ?_
  | refine vb_i (e_ptrNil _ _) ?_
  | refine vb_i (e_ptrNilN _ _) ?_
  | refine vb_i (e_nilNil _) ?_
  | refine vb_i (e_nilNilN _) ?_
  | refine vb_i (e_pickT _ _) ?_
  | refine vb_i (e_pickF _ _) ?_
  | refine vb_i e_notd ?_
  | refine vb_i e_boolNe ?_
  | refine vb_i e_boolEq ?_
  | refine vb_i (e_not _) ?_
  | refine vb_i (e_nilCheck _) ?_
  | refine vb_i (e_fieldAddr _ _) ?_
  | refine hb_i (e_alloc _ _) ?_
  | (refine vb_i (adds ?_) ?_; (· first | omega | (simp only [List.length_cons, List.length_nil, List.length_append]; omega)))
  refine vb_i (v := x) (e_load1 g0 (by simp)) ?_
  repeat with_reducible first
  | refine isB_T ?_
  | refine isB_F ?_
  | (refine isB_ct ?_ ?_; (· first | omega | rfl | assumption | trivial))
  | (refine isB_cf ?_ ?_; (· first | omega | assumption))
  | refine onE_i ?_
  | (refine onE_s ?_ ?_; (· decide))
  | refine vb_i e_ext0 ?_
  | refine vb_i e_ext1 ?_
  | refine vb_i e_ext2 ?_
  | refine vb_i (lss64 _ _ _) ?_
  | refine vb_i (leq64 _ _ _) ?_
  | refine vb_i (gtr64 _ _ _) ?_
  | refine vb_i (geq64 _ _ _) ?_
  | refine vb_i (eql64 _ _ _) ?_
  | refine vb_i (neq64 _ _ _) ?_
  | refine vb_i (eqls _ _) ?_
  | refine vb_i (neqs _ _) ?_
  | (refine vb_i (add64 ?_ ?_) ?_; (· omega); (· omega))
  | (refine vb_i (sub64 ?_ ?_) ?_; (· omega); (· omega))
  | (refine vb_i (mul64 ?_ ?_) ?_; (· omega); (· omega))
  | (refine vb_i (quo64 ?_ ?_ ?_) ?_; (· omega); (· omega); (· omega))
  | (refine vb_i (rem64 ?_ ?_) ?_; (· omega); (· omega))
  | refine vb_i (e_lenSt _) ?_
  | refine vb_i (e_lenSl _ _ _) ?_
  | refine vb_i e_lenNil ?_
  | refine vb_i (lenSl_view (by assumption)) ?_
  | refine vb_i (e_ptrNil _ _) ?_
  | refine vb_i (e_ptrNilN _ _) ?_
  | refine vb_i (e_nilNil _) ?_
  | refine vb_i (e_nilNilN _) ?_
  | refine vb_i (e_pickT _ _) ?_
  | refine vb_i (e_pickF _ _) ?_
  | refine vb_i e_notd ?_
  | refine vb_i e_boolNe ?_
  | refine vb_i e_boolEq ?_
  | refine vb_i (e_not _) ?_
  | refine vb_i (e_nilCheck _) ?_
  | refine vb_i (e_fieldAddr _ _) ?_
  | refine hb_i (e_alloc _ _) ?_
  | (refine vb_i (adds ?_) ?_; (· first | omega | (simp only [List.length_cons, List.length_nil, List.length_append]; omega)))
  refine vb_i (v := y) (e_load1 g0 (by simp)) ?_
  clear g0 hcl
  refine cb_i _ _ ⟨rfl, rfl, rfl⟩ ?_
  have hB : ∃ C2 bs dv e, S_node_Bare [.ptr ⟨A.length + 1, 0, 0⟩, .int .i64 hh] (newO A) (.tup [.str bs, .agg (dv.map ofByte), .int .i64 e]) C2 ∧ A <+: C2 ∧ dv.length = 32 ∧
      (((hh < 0 ∨ 6 < hh) ∧ bs = [] ∧ dv = zs 32 ∧ e = 3) ∨ ∃ k : Nat, hh = k ∧ k ≤ 6 ∧ bs = bw k ∧ dv = (bd k).1 ∧ e = 0) := by
    by_cases hbad : hh < 0 ∨ 6 < hh
    · exact ⟨newO A, [], zs 32, 3, ⟨_, hh, rfl, .inl ⟨hbad, by rw [zero32_zs], rfl⟩⟩, pre_newO A, zs32_len, .inl ⟨hbad, rfl, rfl, rfl⟩⟩
    · obtain ⟨k, rfl⟩ : ∃ k : Nat, hh = k := ⟨hh.toNat, by omega⟩
      obtain ⟨C2, hO, r2, _, _⟩ := (RunN.start A).call (ss := BareT k) (by
        have : (BareT k).length ≤ k + 3 := by simp only [BareT, List.length_append, bareT_len]; split <;> simp
        simp; omega) (fun s hs => by rw [BareT_short k s hs]; decide)
      exact ⟨C2, bw k, (bd k).1, 0, ⟨_, _, rfl, .inr ⟨k, rfl, by omega, rfl, hO⟩⟩, r2.pre, (bd k).2, .inr ⟨k, rfl, by omega, rfl, rfl, rfl⟩⟩
  obtain ⟨C2, bs, dv, e, hS, pC, hdv, hcase⟩ := hB
  refine cb_i _ _ hS ?_
  repeat with_reducible first
  | refine isB_T ?_
  | refine isB_F ?_
  | (refine isB_ct ?_ ?_; (· first | omega | rfl | assumption | trivial))
  | (refine isB_cf ?_ ?_; (· first | omega | assumption))
  | refine onE_i ?_
  | (refine onE_s ?_ ?_; (· decide))
  | refine vb_i e_ext0 ?_
  | refine vb_i e_ext1 ?_
  | refine vb_i e_ext2 ?_
  | refine vb_i (lss64 _ _ _) ?_
  | refine vb_i (leq64 _ _ _) ?_
  | refine vb_i (gtr64 _ _ _) ?_
  | refine vb_i (geq64 _ _ _) ?_
  | refine vb_i (eql64 _ _ _) ?_
  | refine vb_i (neq64 _ _ _) ?_
  | refine vb_i (eqls _ _) ?_
  | refine vb_i (neqs _ _) ?_
  | (refine vb_i (add64 ?_ ?_) ?_; (· omega); (· omega))
  | (refine vb_i (sub64 ?_ ?_) ?_; (· omega); (· omega))
  | (refine vb_i (mul64 ?_ ?_) ?_; (· omega); (· omega))
  | (refine vb_i (quo64 ?_ ?_ ?_) ?_; (· omega); (· omega); (· omega))
  | (refine vb_i (rem64 ?_ ?_) ?_; (· omega); (· omega))
  | refine vb_i (e_lenSt _) ?_
  | refine vb_i (e_lenSl _ _ _) ?_
  | refine vb_i e_lenNil ?_
  | refine vb_i (lenSl_view (by assumption)) ?_
  | refine vb_i (e_ptrNil _ _) ?_
  | refine vb_i (e_ptrNilN _ _) ?_
  | refine vb_i (e_nilNil _) ?_
  | refine vb_i (e_nilNilN _) ?_
  | refine vb_i (e_pickT _ _) ?_
  | refine vb_i (e_pickF _ _) ?_
  | refine vb_i e_notd ?_
  | refine vb_i e_boolNe ?_
  | refine vb_i e_boolEq ?_
  | refine vb_i (e_not _) ?_
  | refine vb_i (e_nilCheck _) ?_
  | refine vb_i (e_fieldAddr _ _) ?_
  | refine hb_i (e_alloc _ _) ?_
  | (refine vb_i (adds ?_) ?_; (· first | omega | (simp only [List.length_cons, List.length_nil, List.length_append]; omega)))
  with_reducible refine sb_i (store_new List.length_replicate (by rw [List.length_map]; exact hdv) (cells_byte _)) ?_
  have pD : A <+: C2 ++ [AObj.cells 0 .exact (dv.map ofByte)] := pC.trans (pre_app _ _)
  have gD : (C2 ++ [AObj.cells 0 .exact (dv.map ofByte)])[C2.length]? = some (.cells 0 .exact (dv.map ofByte)) := by rw [app_get0]; rfl
  clear hS
  generalize C2.length = kd at *
  generalize C2 ++ [AObj.cells 0 .exact (dv.map ofByte)] = D at *
  refine cb_i _ _ ⟨n, rfl, rfl, rfl⟩ ?_
  have hHi : ∃ a b : Int, highR n = [.int .i64 a, .int .i64 b] ∧ (((n < 0 ∨ 63 ≤ n) ∧ a = 0 ∧ b = 3) ∨ (¬ (n < 0 ∨ 63 ≤ n) ∧ a = 6 - hops n.toNat ∧ b = 0)) := by
    by_cases hn : n < 0 ∨ 63 ≤ n
    · exact ⟨0, 3, if_pos hn, .inl ⟨hn, rfl, rfl⟩⟩
    · exact ⟨_, 0, if_neg hn, .inr ⟨hn, rfl, rfl⟩⟩
  obtain ⟨a, b, hR, hab⟩ := hHi
  rw [hR]
  clear hR
  repeat with_reducible first
  | refine isB_T ?_
  | refine isB_F ?_
  | (refine isB_ct ?_ ?_; (· first | omega | rfl | assumption | trivial))
  | (refine isB_cf ?_ ?_; (· first | omega | assumption))
  | refine onE_i ?_
  | (refine onE_s ?_ ?_; (· decide))
  | refine vb_i e_ext0 ?_
  | refine vb_i e_ext1 ?_
  | refine vb_i e_ext2 ?_
  | refine vb_i (lss64 _ _ _) ?_
  | refine vb_i (leq64 _ _ _) ?_
  | refine vb_i (gtr64 _ _ _) ?_
  | refine vb_i (geq64 _ _ _) ?_
  | refine vb_i (eql64 _ _ _) ?_
  | refine vb_i (neq64 _ _ _) ?_
  | refine vb_i (eqls _ _) ?_
  | refine vb_i (neqs _ _) ?_
  | (refine vb_i (add64 ?_ ?_) ?_; (· omega); (· omega))
  | (refine vb_i (sub64 ?_ ?_) ?_; (· omega); (· omega))
  | (refine vb_i (mul64 ?_ ?_) ?_; (· omega); (· omega))
  | (refine vb_i (quo64 ?_ ?_ ?_) ?_; (· omega); (· omega); (· omega))
  | (refine vb_i (rem64 ?_ ?_) ?_; (· omega); (· omega))
  | refine vb_i (e_lenSt _) ?_
  | refine vb_i (e_lenSl _ _ _) ?_
  | refine vb_i e_lenNil ?_
  | refine vb_i (lenSl_view (by assumption)) ?_
  | refine vb_i (e_ptrNil _ _) ?_
  | refine vb_i (e_ptrNilN _ _) ?_
  | refine vb_i (e_nilNil _) ?_
  | refine vb_i (e_nilNilN _) ?_
  | refine vb_i (e_pickT _ _) ?_
  | refine vb_i (e_pickF _ _) ?_
  | refine vb_i e_notd ?_
  | refine vb_i e_boolNe ?_
  | refine vb_i e_boolEq ?_
  | refine vb_i (e_not _) ?_
  | refine vb_i (e_nilCheck _) ?_
  | refine vb_i (e_fieldAddr _ _) ?_
  | refine hb_i (e_alloc _ _) ?_
  | (refine vb_i (adds ?_) ?_; (· first | omega | (simp only [List.length_cons, List.length_nil, List.length_append]; omega)))
  refine JoinP.mk (fun e vs E => e = .normal ∧ vs = [.bool false] ∧ D <+: E) ?_ ?_
  · rcases hcase with ⟨hbad, rfl, rfl, rfl⟩ | ⟨k, rfl, hk, rfl, rfl, rfl⟩
    · by_cases hneg : hh < 0
      · repeat with_reducible first
        | refine isB_T ?_
        | refine isB_F ?_
        | (refine isB_ct ?_ ?_; (· first | omega | rfl | assumption | trivial))
        | (refine isB_cf ?_ ?_; (· first | omega | assumption))
        | refine onE_i ?_
        | (refine onE_s ?_ ?_; (· decide))
        | refine vb_i e_ext0 ?_
        | refine vb_i e_ext1 ?_
        | refine vb_i e_ext2 ?_
        | refine vb_i (lss64 _ _ _) ?_
        | refine vb_i (leq64 _ _ _) ?_
        | refine vb_i (gtr64 _ _ _) ?_
        | refine vb_i (geq64 _ _ _) ?_
        | refine vb_i (eql64 _ _ _) ?_
        | refine vb_i (neq64 _ _ _) ?_
        | refine vb_i (eqls _ _) ?_
        | refine vb_i (neqs _ _) ?_
        | (refine vb_i (add64 ?_ ?_) ?_; (· omega); (· omega))
        | (refine vb_i (sub64 ?_ ?_) ?_; (· omega); (· omega))
        | (refine vb_i (mul64 ?_ ?_) ?_; (· omega); (· omega))
        | (refine vb_i (quo64 ?_ ?_ ?_) ?_; (· omega); (· omega); (· omega))
        | (refine vb_i (rem64 ?_ ?_) ?_; (· omega); (· omega))
        | refine vb_i (e_lenSt _) ?_
        | refine vb_i (e_lenSl _ _ _) ?_
        | refine vb_i e_lenNil ?_
        | refine vb_i (lenSl_view (by assumption)) ?_
        | refine vb_i (e_ptrNil _ _) ?_
        | refine vb_i (e_ptrNilN _ _) ?_
        | refine vb_i (e_nilNil _) ?_
        | refine vb_i (e_nilNilN _) ?_
        | refine vb_i (e_pickT _ _) ?_
        | refine vb_i (e_pickF _ _) ?_
        | refine vb_i e_notd ?_
        | refine vb_i e_boolNe ?_
        | refine vb_i e_boolEq ?_
        | refine vb_i (e_not _) ?_
        | refine vb_i (e_nilCheck _) ?_
        | refine vb_i (e_fieldAddr _ _) ?_
        | refine hb_i (e_alloc _ _) ?_
        | (refine vb_i (adds ?_) ?_; (· first | omega | (simp only [List.length_cons, List.length_nil, List.length_append]; omega)))
        refine vb_i (e_loadAll gD (by rw [List.length_map]; exact hdv)) ?_
        with_reducible refine vb_i build_zs ?_
        refine vb_i (e_neBytes hdv hdv) ?_
        with_reducible refine isB_cf ?_ ?_
        · exact not_not_intro rfl
        repeat with_reducible first
        | refine isB_T ?_
        | refine isB_F ?_
        | (refine isB_ct ?_ ?_; (· first | omega | rfl | assumption | trivial))
        | (refine isB_cf ?_ ?_; (· first | omega | assumption))
        | refine onE_i ?_
        | (refine onE_s ?_ ?_; (· decide))
        | refine vb_i e_ext0 ?_
        | refine vb_i e_ext1 ?_
        | refine vb_i e_ext2 ?_
        | refine vb_i (lss64 _ _ _) ?_
        | refine vb_i (leq64 _ _ _) ?_
        | refine vb_i (gtr64 _ _ _) ?_
        | refine vb_i (geq64 _ _ _) ?_
        | refine vb_i (eql64 _ _ _) ?_
        | refine vb_i (neq64 _ _ _) ?_
        | refine vb_i (eqls _ _) ?_
        | refine vb_i (neqs _ _) ?_
        | (refine vb_i (add64 ?_ ?_) ?_; (· omega); (· omega))
        | (refine vb_i (sub64 ?_ ?_) ?_; (· omega); (· omega))
        | (refine vb_i (mul64 ?_ ?_) ?_; (· omega); (· omega))
        | (refine vb_i (quo64 ?_ ?_ ?_) ?_; (· omega); (· omega); (· omega))
        | (refine vb_i (rem64 ?_ ?_) ?_; (· omega); (· omega))
        | refine vb_i (e_lenSt _) ?_
        | refine vb_i (e_lenSl _ _ _) ?_
        | refine vb_i e_lenNil ?_
        | refine vb_i (lenSl_view (by assumption)) ?_
        | refine vb_i (e_ptrNil _ _) ?_
        | refine vb_i (e_ptrNilN _ _) ?_
        | refine vb_i (e_nilNil _) ?_
        | refine vb_i (e_nilNilN _) ?_
        | refine vb_i (e_pickT _ _) ?_
        | refine vb_i (e_pickF _ _) ?_
        | refine vb_i e_notd ?_
        | refine vb_i e_boolNe ?_
        | refine vb_i e_boolEq ?_
        | refine vb_i (e_not _) ?_
        | refine vb_i (e_nilCheck _) ?_
        | refine vb_i (e_fieldAddr _ _) ?_
        | refine hb_i (e_alloc _ _) ?_
        | (refine vb_i (adds ?_) ?_; (· first | omega | (simp only [List.length_cons, List.length_nil, List.length_append]; omega)))
        exact ⟨rfl, rfl, List.prefix_refl _⟩
      · repeat with_reducible first
        | refine isB_T ?_
        | refine isB_F ?_
        | (refine isB_ct ?_ ?_; (· first | omega | rfl | assumption | trivial))
        | (refine isB_cf ?_ ?_; (· first | omega | assumption))
        | refine onE_i ?_
        | (refine onE_s ?_ ?_; (· decide))
        | refine vb_i e_ext0 ?_
        | refine vb_i e_ext1 ?_
        | refine vb_i e_ext2 ?_
        | refine vb_i (lss64 _ _ _) ?_
        | refine vb_i (leq64 _ _ _) ?_
        | refine vb_i (gtr64 _ _ _) ?_
        | refine vb_i (geq64 _ _ _) ?_
        | refine vb_i (eql64 _ _ _) ?_
        | refine vb_i (neq64 _ _ _) ?_
        | refine vb_i (eqls _ _) ?_
        | refine vb_i (neqs _ _) ?_
        | (refine vb_i (add64 ?_ ?_) ?_; (· omega); (· omega))
        | (refine vb_i (sub64 ?_ ?_) ?_; (· omega); (· omega))
        | (refine vb_i (mul64 ?_ ?_) ?_; (· omega); (· omega))
        | (refine vb_i (quo64 ?_ ?_ ?_) ?_; (· omega); (· omega); (· omega))
        | (refine vb_i (rem64 ?_ ?_) ?_; (· omega); (· omega))
        | refine vb_i (e_lenSt _) ?_
        | refine vb_i (e_lenSl _ _ _) ?_
        | refine vb_i e_lenNil ?_
        | refine vb_i (lenSl_view (by assumption)) ?_
        | refine vb_i (e_ptrNil _ _) ?_
        | refine vb_i (e_ptrNilN _ _) ?_
        | refine vb_i (e_nilNil _) ?_
        | refine vb_i (e_nilNilN _) ?_
        | refine vb_i (e_pickT _ _) ?_
        | refine vb_i (e_pickF _ _) ?_
        | refine vb_i e_notd ?_
        | refine vb_i e_boolNe ?_
        | refine vb_i e_boolEq ?_
        | refine vb_i (e_not _) ?_
        | refine vb_i (e_nilCheck _) ?_
        | refine vb_i (e_fieldAddr _ _) ?_
        | refine hb_i (e_alloc _ _) ?_
        | (refine vb_i (adds ?_) ?_; (· first | omega | (simp only [List.length_cons, List.length_nil, List.length_append]; omega)))
        refine vb_i (e_loadAll gD (by rw [List.length_map]; exact hdv)) ?_
        with_reducible refine vb_i build_zs ?_
        refine vb_i (e_neBytes hdv hdv) ?_
        with_reducible refine isB_cf ?_ ?_
        · exact not_not_intro rfl
        repeat with_reducible first
        | refine isB_T ?_
        | refine isB_F ?_
        | (refine isB_ct ?_ ?_; (· first | omega | rfl | assumption | trivial))
        | (refine isB_cf ?_ ?_; (· first | omega | assumption))
        | refine onE_i ?_
        | (refine onE_s ?_ ?_; (· decide))
        | refine vb_i e_ext0 ?_
        | refine vb_i e_ext1 ?_
        | refine vb_i e_ext2 ?_
        | refine vb_i (lss64 _ _ _) ?_
        | refine vb_i (leq64 _ _ _) ?_
        | refine vb_i (gtr64 _ _ _) ?_
        | refine vb_i (geq64 _ _ _) ?_
        | refine vb_i (eql64 _ _ _) ?_
        | refine vb_i (neq64 _ _ _) ?_
        | refine vb_i (eqls _ _) ?_
        | refine vb_i (neqs _ _) ?_
        | (refine vb_i (add64 ?_ ?_) ?_; (· omega); (· omega))
        | (refine vb_i (sub64 ?_ ?_) ?_; (· omega); (· omega))
        | (refine vb_i (mul64 ?_ ?_) ?_; (· omega); (· omega))
        | (refine vb_i (quo64 ?_ ?_ ?_) ?_; (· omega); (· omega); (· omega))
        | (refine vb_i (rem64 ?_ ?_) ?_; (· omega); (· omega))
        | refine vb_i (e_lenSt _) ?_
        | refine vb_i (e_lenSl _ _ _) ?_
        | refine vb_i e_lenNil ?_
        | refine vb_i (lenSl_view (by assumption)) ?_
        | refine vb_i (e_ptrNil _ _) ?_
        | refine vb_i (e_ptrNilN _ _) ?_
        | refine vb_i (e_nilNil _) ?_
        | refine vb_i (e_nilNilN _) ?_
        | refine vb_i (e_pickT _ _) ?_
        | refine vb_i (e_pickF _ _) ?_
        | refine vb_i e_notd ?_
        | refine vb_i e_boolNe ?_
        | refine vb_i e_boolEq ?_
        | refine vb_i (e_not _) ?_
        | refine vb_i (e_nilCheck _) ?_
        | refine vb_i (e_fieldAddr _ _) ?_
        | refine hb_i (e_alloc _ _) ?_
        | (refine vb_i (adds ?_) ?_; (· first | omega | (simp only [List.length_cons, List.length_nil, List.length_append]; omega)))
        exact ⟨rfl, rfl, List.prefix_refl _⟩
    · repeat with_reducible first
      | refine isB_T ?_
      | refine isB_F ?_
      | (refine isB_ct ?_ ?_; (· first | omega | rfl | assumption | trivial))
      | (refine isB_cf ?_ ?_; (· first | omega | assumption))
      | refine onE_i ?_
      | (refine onE_s ?_ ?_; (· decide))
      | refine vb_i e_ext0 ?_
      | refine vb_i e_ext1 ?_
      | refine vb_i e_ext2 ?_
      | refine vb_i (lss64 _ _ _) ?_
      | refine vb_i (leq64 _ _ _) ?_
      | refine vb_i (gtr64 _ _ _) ?_
      | refine vb_i (geq64 _ _ _) ?_
      | refine vb_i (eql64 _ _ _) ?_
      | refine vb_i (neq64 _ _ _) ?_
      | refine vb_i (eqls _ _) ?_
      | refine vb_i (neqs _ _) ?_
      | (refine vb_i (add64 ?_ ?_) ?_; (· omega); (· omega))
      | (refine vb_i (sub64 ?_ ?_) ?_; (· omega); (· omega))
      | (refine vb_i (mul64 ?_ ?_) ?_; (· omega); (· omega))
      | (refine vb_i (quo64 ?_ ?_ ?_) ?_; (· omega); (· omega); (· omega))
      | (refine vb_i (rem64 ?_ ?_) ?_; (· omega); (· omega))
      | refine vb_i (e_lenSt _) ?_
      | refine vb_i (e_lenSl _ _ _) ?_
      | refine vb_i e_lenNil ?_
      | refine vb_i (lenSl_view (by assumption)) ?_
      | refine vb_i (e_ptrNil _ _) ?_
      | refine vb_i (e_ptrNilN _ _) ?_
      | refine vb_i (e_nilNil _) ?_
      | refine vb_i (e_nilNilN _) ?_
      | refine vb_i (e_pickT _ _) ?_
      | refine vb_i (e_pickF _ _) ?_
      | refine vb_i e_notd ?_
      | refine vb_i e_boolNe ?_
      | refine vb_i e_boolEq ?_
      | refine vb_i (e_not _) ?_
      | refine vb_i (e_nilCheck _) ?_
      | refine vb_i (e_fieldAddr _ _) ?_
      | refine hb_i (e_alloc _ _) ?_
      | (refine vb_i (adds ?_) ?_; (· first | omega | (simp only [List.length_cons, List.length_nil, List.length_append]; omega)))
      have hb0 := bw_len 0
      refine cb_i (.str (bw 0)) _ ⟨64, rfl, by decide, by rw [bw0], rfl⟩ ?_
      refine cb_i (.str (bw 0)) _ ⟨64, rfl, by decide, by rw [bw0], rfl⟩ ?_
      refine vb_i (adds (by rw [hb0]; decide)) ?_
      rw [show ([0] ++ bw 0 : List UInt8) = 0 :: bw 0 from List.singleton_append]
      refine cb_i (.agg ((bd 0).1.map ofByte)) _ ⟨0 :: bw 0, rfl, by rw [List.length_cons, hb0]; decide, by rw [bd0], rfl⟩ ?_
      clear hb0
      repeat with_reducible first
      | refine isB_T ?_
      | refine isB_F ?_
      | (refine isB_ct ?_ ?_; (· first | omega | rfl | assumption | trivial))
      | (refine isB_cf ?_ ?_; (· first | omega | assumption))
      | refine onE_i ?_
      | (refine onE_s ?_ ?_; (· decide))
      | refine vb_i e_ext0 ?_
      | refine vb_i e_ext1 ?_
      | refine vb_i e_ext2 ?_
      | refine vb_i (lss64 _ _ _) ?_
      | refine vb_i (leq64 _ _ _) ?_
      | refine vb_i (gtr64 _ _ _) ?_
      | refine vb_i (geq64 _ _ _) ?_
      | refine vb_i (eql64 _ _ _) ?_
      | refine vb_i (neq64 _ _ _) ?_
      | refine vb_i (eqls _ _) ?_
      | refine vb_i (neqs _ _) ?_
      | (refine vb_i (add64 ?_ ?_) ?_; (· omega); (· omega))
      | (refine vb_i (sub64 ?_ ?_) ?_; (· omega); (· omega))
      | (refine vb_i (mul64 ?_ ?_) ?_; (· omega); (· omega))
      | (refine vb_i (quo64 ?_ ?_ ?_) ?_; (· omega); (· omega); (· omega))
      | (refine vb_i (rem64 ?_ ?_) ?_; (· omega); (· omega))
      | refine vb_i (e_lenSt _) ?_
      | refine vb_i (e_lenSl _ _ _) ?_
      | refine vb_i e_lenNil ?_
      | refine vb_i (lenSl_view (by assumption)) ?_
      | refine vb_i (e_ptrNil _ _) ?_
      | refine vb_i (e_ptrNilN _ _) ?_
      | refine vb_i (e_nilNil _) ?_
      | refine vb_i (e_nilNilN _) ?_
      | refine vb_i (e_pickT _ _) ?_
      | refine vb_i (e_pickF _ _) ?_
      | refine vb_i e_notd ?_
      | refine vb_i e_boolNe ?_
      | refine vb_i e_boolEq ?_
      | refine vb_i (e_not _) ?_
      | refine vb_i (e_nilCheck _) ?_
      | refine vb_i (e_fieldAddr _ _) ?_
      | refine hb_i (e_alloc _ _) ?_
      | (refine vb_i (adds ?_) ?_; (· first | omega | (simp only [List.length_cons, List.length_nil, List.length_append]; omega)))
      with_reducible refine sb_i (store_new List.length_replicate (by rw [List.length_map]; exact (bd 0).2) (cells_byte _)) ?_
      refine LoopP.ruleG (α := Nat) (fun i => [.str (bw i), .int .i64 i]) (fun i C => i ≤ k ∧ C[D.length]? = some (.cells 0 .exact ((bd i).1.map ofByte)) ∧ D <+: C) (fun i => k - i) 0 rfl
        ⟨Nat.zero_le _, by rw [app_get0]; rfl, pre_app _ _⟩ ?_
      rintro i C Kn ⟨hi, g, pE⟩ hnx
      unfold cellaretlaw17_NodeBares.L9 cellaretlaw17_NodeBares.L9.b
      try simp only [evB]
      by_cases hik : i < k
      · have hbi := (bd i).2
        repeat with_reducible first
        | refine isB_T ?_
        | refine isB_F ?_
        | (refine isB_ct ?_ ?_; (· first | omega | rfl | assumption | trivial))
        | (refine isB_cf ?_ ?_; (· first | omega | assumption))
        | refine onE_i ?_
        | (refine onE_s ?_ ?_; (· decide))
        | refine vb_i e_ext0 ?_
        | refine vb_i e_ext1 ?_
        | refine vb_i e_ext2 ?_
        | refine vb_i (lss64 _ _ _) ?_
        | refine vb_i (leq64 _ _ _) ?_
        | refine vb_i (gtr64 _ _ _) ?_
        | refine vb_i (geq64 _ _ _) ?_
        | refine vb_i (eql64 _ _ _) ?_
        | refine vb_i (neq64 _ _ _) ?_
        | refine vb_i (eqls _ _) ?_
        | refine vb_i (neqs _ _) ?_
        | (refine vb_i (add64 ?_ ?_) ?_; (· omega); (· omega))
        | (refine vb_i (sub64 ?_ ?_) ?_; (· omega); (· omega))
        | (refine vb_i (mul64 ?_ ?_) ?_; (· omega); (· omega))
        | (refine vb_i (quo64 ?_ ?_ ?_) ?_; (· omega); (· omega); (· omega))
        | (refine vb_i (rem64 ?_ ?_) ?_; (· omega); (· omega))
        | refine vb_i (e_lenSt _) ?_
        | refine vb_i (e_lenSl _ _ _) ?_
        | refine vb_i e_lenNil ?_
        | refine vb_i (lenSl_view (by assumption)) ?_
        | refine vb_i (e_ptrNil _ _) ?_
        | refine vb_i (e_ptrNilN _ _) ?_
        | refine vb_i (e_nilNil _) ?_
        | refine vb_i (e_nilNilN _) ?_
        | refine vb_i (e_pickT _ _) ?_
        | refine vb_i (e_pickF _ _) ?_
        | refine vb_i e_notd ?_
        | refine vb_i e_boolNe ?_
        | refine vb_i e_boolEq ?_
        | refine vb_i (e_not _) ?_
        | refine vb_i (e_nilCheck _) ?_
        | refine vb_i (e_fieldAddr _ _) ?_
        | refine hb_i (e_alloc _ _) ?_
        | (refine vb_i (adds ?_) ?_; (· first | omega | (simp only [List.length_cons, List.length_nil, List.length_append]; omega)))
        refine vb_i (sliceArr_all _ _ _ _) (vb_i (arr_str g hbi) (vb_i (sliceArr_all _ _ _ _) (vb_i (arr_str g hbi) ?_)))
        refine vb_i (adds (by rw [hbi]; decide)) ?_
        rw [← bwS]
        have hb1 := bw_len (i + 1)
        refine vb_i (adds (by rw [hb1]; decide)) ?_
        rw [show ([1] ++ bw (i + 1) : List UInt8) = 1 :: bw (i + 1) from List.singleton_append]
        refine cb_i (.agg ((bd (i + 1)).1.map ofByte)) _ ⟨1 :: bw (i + 1), rfl, by rw [List.length_cons, hb1]; decide, by rw [bdS], rfl⟩ ?_
        with_reducible refine sb_i (store32 g (by rw [List.length_map]; exact hbi) (by rw [List.length_map]; exact (bd (i + 1)).2) (cells_byte _)) ?_
        repeat with_reducible first
        | refine isB_T ?_
        | refine isB_F ?_
        | (refine isB_ct ?_ ?_; (· first | omega | rfl | assumption | trivial))
        | (refine isB_cf ?_ ?_; (· first | omega | assumption))
        | refine onE_i ?_
        | (refine onE_s ?_ ?_; (· decide))
        | refine vb_i e_ext0 ?_
        | refine vb_i e_ext1 ?_
        | refine vb_i e_ext2 ?_
        | refine vb_i (lss64 _ _ _) ?_
        | refine vb_i (leq64 _ _ _) ?_
        | refine vb_i (gtr64 _ _ _) ?_
        | refine vb_i (geq64 _ _ _) ?_
        | refine vb_i (eql64 _ _ _) ?_
        | refine vb_i (neq64 _ _ _) ?_
        | refine vb_i (eqls _ _) ?_
        | refine vb_i (neqs _ _) ?_
        | (refine vb_i (add64 ?_ ?_) ?_; (· omega); (· omega))
        | (refine vb_i (sub64 ?_ ?_) ?_; (· omega); (· omega))
        | (refine vb_i (mul64 ?_ ?_) ?_; (· omega); (· omega))
        | (refine vb_i (quo64 ?_ ?_ ?_) ?_; (· omega); (· omega); (· omega))
        | (refine vb_i (rem64 ?_ ?_) ?_; (· omega); (· omega))
        | refine vb_i (e_lenSt _) ?_
        | refine vb_i (e_lenSl _ _ _) ?_
        | refine vb_i e_lenNil ?_
        | refine vb_i (lenSl_view (by assumption)) ?_
        | refine vb_i (e_ptrNil _ _) ?_
        | refine vb_i (e_ptrNilN _ _) ?_
        | refine vb_i (e_nilNil _) ?_
        | refine vb_i (e_nilNilN _) ?_
        | refine vb_i (e_pickT _ _) ?_
        | refine vb_i (e_pickF _ _) ?_
        | refine vb_i e_notd ?_
        | refine vb_i e_boolNe ?_
        | refine vb_i e_boolEq ?_
        | refine vb_i (e_not _) ?_
        | refine vb_i (e_nilCheck _) ?_
        | refine vb_i (e_fieldAddr _ _) ?_
        | refine hb_i (e_alloc _ _) ?_
        | (refine vb_i (adds ?_) ?_; (· first | omega | (simp only [List.length_cons, List.length_nil, List.length_append]; omega)))
        exact hnx (i + 1) _ ⟨by omega, by rw [List.getElem?_set_self (lt_of_some g)], pre_set pE (Nat.le_refl _) _⟩ (by omega)
      · have hie : i = k := by omega
        subst hie
        have hbi := (bd i).2
        have gd2 : C[kd]? = some (.cells 0 .exact ((bd i).1.map ofByte)) := by rw [pre_get pE (lt_of_some gD)]; exact gD
        repeat with_reducible first
        | refine isB_T ?_
        | refine isB_F ?_
        | (refine isB_ct ?_ ?_; (· first | omega | rfl | assumption | trivial))
        | (refine isB_cf ?_ ?_; (· first | omega | assumption))
        | refine onE_i ?_
        | (refine onE_s ?_ ?_; (· decide))
        | refine vb_i e_ext0 ?_
        | refine vb_i e_ext1 ?_
        | refine vb_i e_ext2 ?_
        | refine vb_i (lss64 _ _ _) ?_
        | refine vb_i (leq64 _ _ _) ?_
        | refine vb_i (gtr64 _ _ _) ?_
        | refine vb_i (geq64 _ _ _) ?_
        | refine vb_i (eql64 _ _ _) ?_
        | refine vb_i (neq64 _ _ _) ?_
        | refine vb_i (eqls _ _) ?_
        | refine vb_i (neqs _ _) ?_
        | (refine vb_i (add64 ?_ ?_) ?_; (· omega); (· omega))
        | (refine vb_i (sub64 ?_ ?_) ?_; (· omega); (· omega))
        | (refine vb_i (mul64 ?_ ?_) ?_; (· omega); (· omega))
        | (refine vb_i (quo64 ?_ ?_ ?_) ?_; (· omega); (· omega); (· omega))
        | (refine vb_i (rem64 ?_ ?_) ?_; (· omega); (· omega))
        | refine vb_i (e_lenSt _) ?_
        | refine vb_i (e_lenSl _ _ _) ?_
        | refine vb_i e_lenNil ?_
        | refine vb_i (lenSl_view (by assumption)) ?_
        | refine vb_i (e_ptrNil _ _) ?_
        | refine vb_i (e_ptrNilN _ _) ?_
        | refine vb_i (e_nilNil _) ?_
        | refine vb_i (e_nilNilN _) ?_
        | refine vb_i (e_pickT _ _) ?_
        | refine vb_i (e_pickF _ _) ?_
        | refine vb_i e_notd ?_
        | refine vb_i e_boolNe ?_
        | refine vb_i e_boolEq ?_
        | refine vb_i (e_not _) ?_
        | refine vb_i (e_nilCheck _) ?_
        | refine vb_i (e_fieldAddr _ _) ?_
        | refine hb_i (e_alloc _ _) ?_
        | (refine vb_i (adds ?_) ?_; (· first | omega | (simp only [List.length_cons, List.length_nil, List.length_append]; omega)))
        try simp only [evB]
        with_reducible refine isB_cf ?_ ?_
        · exact not_not_intro rfl
        refine vb_i (e_loadAll gd2 (by rw [List.length_map]; exact hbi)) ?_
        refine vb_i (e_loadAll g (by rw [List.length_map]; exact hbi)) ?_
        refine vb_i (e_neBytes hbi hbi) ?_
        with_reducible refine isB_cf ?_ ?_
        · exact not_not_intro rfl
        repeat with_reducible first
        | refine isB_T ?_
        | refine isB_F ?_
        | (refine isB_ct ?_ ?_; (· first | omega | rfl | assumption | trivial))
        | (refine isB_cf ?_ ?_; (· first | omega | assumption))
        | refine onE_i ?_
        | (refine onE_s ?_ ?_; (· decide))
        | refine vb_i e_ext0 ?_
        | refine vb_i e_ext1 ?_
        | refine vb_i e_ext2 ?_
        | refine vb_i (lss64 _ _ _) ?_
        | refine vb_i (leq64 _ _ _) ?_
        | refine vb_i (gtr64 _ _ _) ?_
        | refine vb_i (geq64 _ _ _) ?_
        | refine vb_i (eql64 _ _ _) ?_
        | refine vb_i (neq64 _ _ _) ?_
        | refine vb_i (eqls _ _) ?_
        | refine vb_i (neqs _ _) ?_
        | (refine vb_i (add64 ?_ ?_) ?_; (· omega); (· omega))
        | (refine vb_i (sub64 ?_ ?_) ?_; (· omega); (· omega))
        | (refine vb_i (mul64 ?_ ?_) ?_; (· omega); (· omega))
        | (refine vb_i (quo64 ?_ ?_ ?_) ?_; (· omega); (· omega); (· omega))
        | (refine vb_i (rem64 ?_ ?_) ?_; (· omega); (· omega))
        | refine vb_i (e_lenSt _) ?_
        | refine vb_i (e_lenSl _ _ _) ?_
        | refine vb_i e_lenNil ?_
        | refine vb_i (lenSl_view (by assumption)) ?_
        | refine vb_i (e_ptrNil _ _) ?_
        | refine vb_i (e_ptrNilN _ _) ?_
        | refine vb_i (e_nilNil _) ?_
        | refine vb_i (e_nilNilN _) ?_
        | refine vb_i (e_pickT _ _) ?_
        | refine vb_i (e_pickF _ _) ?_
        | refine vb_i e_notd ?_
        | refine vb_i e_boolNe ?_
        | refine vb_i e_boolEq ?_
        | refine vb_i (e_not _) ?_
        | refine vb_i (e_nilCheck _) ?_
        | refine vb_i (e_fieldAddr _ _) ?_
        | refine hb_i (e_alloc _ _) ?_
        | (refine vb_i (adds ?_) ?_; (· first | omega | (simp only [List.length_cons, List.length_nil, List.length_append]; omega)))
        refine isB_c (fun h6 => ?_) (fun h6 => ?_)
        · obtain rfl : i = 6 := by omega
          refine vb_i (e_loadAll gd2 (by rw [List.length_map]; exact hbi)) ?_
          refine cb_i _ _ ⟨.nils, [], rfl, ⟨rfl, .inl ⟨rfl, rfl⟩⟩, by decide, rfl, rfl⟩ ?_
          have hvb := val_bare 6 (Nat.le_refl _) 0 (wd_pos 6)
          refine cb_i (.agg ((bd 6).1.map ofByte)) _ ⟨_, sums64 [], rfl, sums_view C [], sums64_len [], Nat.le_refl _, congrArg (fun d : D32 => AVal.agg (d.1.map ofByte)) hvb.symm, rfl⟩ ?_
          clear hvb
          generalize bd 6 = z at *
          refine vb_i (e_neBytes hbi hbi) ?_
          with_reducible refine isB_cf ?_ ?_
          · exact not_not_intro rfl
          exact ⟨by trivial, by trivial, pE.trans (pre_app _ _)⟩
        · exact ⟨by trivial, by trivial, pE⟩
  rintro _ _ E ⟨rfl, rfl, pE⟩
  have pF : H' <+: E := p0.trans (pD.trans pE)
  have hvE := hv.pre pF
  have hwE := hw.pre pF
  clear hcase gD pC pD pE p0
  repeat with_reducible first
  | refine isB_T ?_
  | refine isB_F ?_
  | (refine isB_ct ?_ ?_; (· first | omega | rfl | assumption | trivial))
  | (refine isB_cf ?_ ?_; (· first | omega | assumption))
  | refine onE_i ?_
  | (refine onE_s ?_ ?_; (· decide))
  | refine vb_i e_ext0 ?_
  | refine vb_i e_ext1 ?_
  | refine vb_i e_ext2 ?_
  | refine vb_i (lss64 _ _ _) ?_
  | refine vb_i (leq64 _ _ _) ?_
  | refine vb_i (gtr64 _ _ _) ?_
  | refine vb_i (geq64 _ _ _) ?_
  | refine vb_i (eql64 _ _ _) ?_
  | refine vb_i (neq64 _ _ _) ?_
  | refine vb_i (eqls _ _) ?_
  | refine vb_i (neqs _ _) ?_
  | (refine vb_i (add64 ?_ ?_) ?_; (· omega); (· omega))
  | (refine vb_i (sub64 ?_ ?_) ?_; (· omega); (· omega))
  | (refine vb_i (mul64 ?_ ?_) ?_; (· omega); (· omega))
  | (refine vb_i (quo64 ?_ ?_ ?_) ?_; (· omega); (· omega); (· omega))
  | (refine vb_i (rem64 ?_ ?_) ?_; (· omega); (· omega))
  | refine vb_i (e_lenSt _) ?_
  | refine vb_i (e_lenSl _ _ _) ?_
  | refine vb_i e_lenNil ?_
  | refine vb_i (lenSl_view (by assumption)) ?_
  | refine vb_i (e_ptrNil _ _) ?_
  | refine vb_i (e_ptrNilN _ _) ?_
  | refine vb_i (e_nilNil _) ?_
  | refine vb_i (e_nilNilN _) ?_
  | refine vb_i (e_pickT _ _) ?_
  | refine vb_i (e_pickF _ _) ?_
  | refine vb_i e_notd ?_
  | refine vb_i e_boolNe ?_
  | refine vb_i e_boolEq ?_
  | refine vb_i (e_not _) ?_
  | refine vb_i (e_nilCheck _) ?_
  | refine vb_i (e_fieldAddr _ _) ?_
  | refine hb_i (e_alloc _ _) ?_
  | (refine vb_i (adds ?_) ?_; (· first | omega | (simp only [List.length_cons, List.length_nil, List.length_append]; omega)))
  try simp only [evB]
  refine JoinP.mk (fun e vs G => G = E ∧ ((e = .ret ∧ vs = [.bool true]) ∨ (e = .normal ∧ vs = [.bool false]))) ?_ ?_
  · refine vb_i (lenSl_view hvE) ?_
    repeat with_reducible first
    | refine isB_T ?_
    | refine isB_F ?_
    | (refine isB_ct ?_ ?_; (· first | omega | rfl | assumption | trivial))
    | (refine isB_cf ?_ ?_; (· first | omega | assumption))
    | refine onE_i ?_
    | (refine onE_s ?_ ?_; (· decide))
    | refine vb_i e_ext0 ?_
    | refine vb_i e_ext1 ?_
    | refine vb_i e_ext2 ?_
    | refine vb_i (lss64 _ _ _) ?_
    | refine vb_i (leq64 _ _ _) ?_
    | refine vb_i (gtr64 _ _ _) ?_
    | refine vb_i (geq64 _ _ _) ?_
    | refine vb_i (eql64 _ _ _) ?_
    | refine vb_i (neq64 _ _ _) ?_
    | refine vb_i (eqls _ _) ?_
    | refine vb_i (neqs _ _) ?_
    | (refine vb_i (add64 ?_ ?_) ?_; (· omega); (· omega))
    | (refine vb_i (sub64 ?_ ?_) ?_; (· omega); (· omega))
    | (refine vb_i (mul64 ?_ ?_) ?_; (· omega); (· omega))
    | (refine vb_i (quo64 ?_ ?_ ?_) ?_; (· omega); (· omega); (· omega))
    | (refine vb_i (rem64 ?_ ?_) ?_; (· omega); (· omega))
    | refine vb_i (e_lenSt _) ?_
    | refine vb_i (e_lenSl _ _ _) ?_
    | refine vb_i e_lenNil ?_
    | refine vb_i (lenSl_view (by assumption)) ?_
    | refine vb_i (e_ptrNil _ _) ?_
    | refine vb_i (e_ptrNilN _ _) ?_
    | refine vb_i (e_nilNil _) ?_
    | refine vb_i (e_nilNilN _) ?_
    | refine vb_i (e_pickT _ _) ?_
    | refine vb_i (e_pickF _ _) ?_
    | refine vb_i e_notd ?_
    | refine vb_i e_boolNe ?_
    | refine vb_i e_boolEq ?_
    | refine vb_i (e_not _) ?_
    | refine vb_i (e_nilCheck _) ?_
    | refine vb_i (e_fieldAddr _ _) ?_
    | refine hb_i (e_alloc _ _) ?_
    | (refine vb_i (adds ?_) ?_; (· first | omega | (simp only [List.length_cons, List.length_nil, List.length_append]; omega)))
    refine isB_c (fun h1 => ?_) (fun h1 => ?_)
    · refine cb_i _ _ ⟨rfl, rfl, rfl⟩ ?_
      exact ⟨rfl, .inl ⟨rfl, rfl⟩⟩
    · refine vb_i (lenSl_view hwE) ?_
      repeat with_reducible first
      | refine isB_T ?_
      | refine isB_F ?_
      | (refine isB_ct ?_ ?_; (· first | omega | rfl | assumption | trivial))
      | (refine isB_cf ?_ ?_; (· first | omega | assumption))
      | refine onE_i ?_
      | (refine onE_s ?_ ?_; (· decide))
      | refine vb_i e_ext0 ?_
      | refine vb_i e_ext1 ?_
      | refine vb_i e_ext2 ?_
      | refine vb_i (lss64 _ _ _) ?_
      | refine vb_i (leq64 _ _ _) ?_
      | refine vb_i (gtr64 _ _ _) ?_
      | refine vb_i (geq64 _ _ _) ?_
      | refine vb_i (eql64 _ _ _) ?_
      | refine vb_i (neq64 _ _ _) ?_
      | refine vb_i (eqls _ _) ?_
      | refine vb_i (neqs _ _) ?_
      | (refine vb_i (add64 ?_ ?_) ?_; (· omega); (· omega))
      | (refine vb_i (sub64 ?_ ?_) ?_; (· omega); (· omega))
      | (refine vb_i (mul64 ?_ ?_) ?_; (· omega); (· omega))
      | (refine vb_i (quo64 ?_ ?_ ?_) ?_; (· omega); (· omega); (· omega))
      | (refine vb_i (rem64 ?_ ?_) ?_; (· omega); (· omega))
      | refine vb_i (e_lenSt _) ?_
      | refine vb_i (e_lenSl _ _ _) ?_
      | refine vb_i e_lenNil ?_
      | refine vb_i (lenSl_view (by assumption)) ?_
      | refine vb_i (e_ptrNil _ _) ?_
      | refine vb_i (e_ptrNilN _ _) ?_
      | refine vb_i (e_nilNil _) ?_
      | refine vb_i (e_nilNilN _) ?_
      | refine vb_i (e_pickT _ _) ?_
      | refine vb_i (e_pickF _ _) ?_
      | refine vb_i e_notd ?_
      | refine vb_i e_boolNe ?_
      | refine vb_i e_boolEq ?_
      | refine vb_i (e_not _) ?_
      | refine vb_i (e_nilCheck _) ?_
      | refine vb_i (e_fieldAddr _ _) ?_
      | refine hb_i (e_alloc _ _) ?_
      | (refine vb_i (adds ?_) ?_; (· first | omega | (simp only [List.length_cons, List.length_nil, List.length_append]; omega)))
      refine isB_c (fun h2 => ?_) (fun h2 => ?_)
      · refine cb_i _ _ ⟨rfl, rfl, rfl⟩ ?_
        exact ⟨rfl, .inl ⟨rfl, rfl⟩⟩
      · exact ⟨rfl, .inr ⟨rfl, rfl⟩⟩
  rintro _ _ G ⟨rfl, ⟨rfl, rfl⟩ | ⟨rfl, rfl⟩⟩
  · repeat with_reducible first
    | refine isB_T ?_
    | refine isB_F ?_
    | (refine isB_ct ?_ ?_; (· first | omega | rfl | assumption | trivial))
    | (refine isB_cf ?_ ?_; (· first | omega | assumption))
    | refine onE_i ?_
    | (refine onE_s ?_ ?_; (· decide))
    | refine vb_i e_ext0 ?_
    | refine vb_i e_ext1 ?_
    | refine vb_i e_ext2 ?_
    | refine vb_i (lss64 _ _ _) ?_
    | refine vb_i (leq64 _ _ _) ?_
    | refine vb_i (gtr64 _ _ _) ?_
    | refine vb_i (geq64 _ _ _) ?_
    | refine vb_i (eql64 _ _ _) ?_
    | refine vb_i (neq64 _ _ _) ?_
    | refine vb_i (eqls _ _) ?_
    | refine vb_i (neqs _ _) ?_
    | (refine vb_i (add64 ?_ ?_) ?_; (· omega); (· omega))
    | (refine vb_i (sub64 ?_ ?_) ?_; (· omega); (· omega))
    | (refine vb_i (mul64 ?_ ?_) ?_; (· omega); (· omega))
    | (refine vb_i (quo64 ?_ ?_ ?_) ?_; (· omega); (· omega); (· omega))
    | (refine vb_i (rem64 ?_ ?_) ?_; (· omega); (· omega))
    | refine vb_i (e_lenSt _) ?_
    | refine vb_i (e_lenSl _ _ _) ?_
    | refine vb_i e_lenNil ?_
    | refine vb_i (lenSl_view (by assumption)) ?_
    | refine vb_i (e_ptrNil _ _) ?_
    | refine vb_i (e_ptrNilN _ _) ?_
    | refine vb_i (e_nilNil _) ?_
    | refine vb_i (e_nilNilN _) ?_
    | refine vb_i (e_pickT _ _) ?_
    | refine vb_i (e_pickF _ _) ?_
    | refine vb_i e_notd ?_
    | refine vb_i e_boolNe ?_
    | refine vb_i e_boolEq ?_
    | refine vb_i (e_not _) ?_
    | refine vb_i (e_nilCheck _) ?_
    | refine vb_i (e_fieldAddr _ _) ?_
    | refine hb_i (e_alloc _ _) ?_
    | (refine vb_i (adds ?_) ?_; (· first | omega | (simp only [List.length_cons, List.length_nil, List.length_append]; omega)))
    try simp only [evB]
    exact fin_bool rfl pF
  repeat with_reducible first
  | refine isB_T ?_
  | refine isB_F ?_
  | (refine isB_ct ?_ ?_; (· first | omega | rfl | assumption | trivial))
  | (refine isB_cf ?_ ?_; (· first | omega | assumption))
  | refine onE_i ?_
  | (refine onE_s ?_ ?_; (· decide))
  | refine vb_i e_ext0 ?_
  | refine vb_i e_ext1 ?_
  | refine vb_i e_ext2 ?_
  | refine vb_i (lss64 _ _ _) ?_
  | refine vb_i (leq64 _ _ _) ?_
  | refine vb_i (gtr64 _ _ _) ?_
  | refine vb_i (geq64 _ _ _) ?_
  | refine vb_i (eql64 _ _ _) ?_
  | refine vb_i (neq64 _ _ _) ?_
  | refine vb_i (eqls _ _) ?_
  | refine vb_i (neqs _ _) ?_
  | (refine vb_i (add64 ?_ ?_) ?_; (· omega); (· omega))
  | (refine vb_i (sub64 ?_ ?_) ?_; (· omega); (· omega))
  | (refine vb_i (mul64 ?_ ?_) ?_; (· omega); (· omega))
  | (refine vb_i (quo64 ?_ ?_ ?_) ?_; (· omega); (· omega); (· omega))
  | (refine vb_i (rem64 ?_ ?_) ?_; (· omega); (· omega))
  | refine vb_i (e_lenSt _) ?_
  | refine vb_i (e_lenSl _ _ _) ?_
  | refine vb_i e_lenNil ?_
  | refine vb_i (lenSl_view (by assumption)) ?_
  | refine vb_i (e_ptrNil _ _) ?_
  | refine vb_i (e_ptrNilN _ _) ?_
  | refine vb_i (e_nilNil _) ?_
  | refine vb_i (e_nilNilN _) ?_
  | refine vb_i (e_pickT _ _) ?_
  | refine vb_i (e_pickF _ _) ?_
  | refine vb_i e_notd ?_
  | refine vb_i e_boolNe ?_
  | refine vb_i e_boolEq ?_
  | refine vb_i (e_not _) ?_
  | refine vb_i (e_nilCheck _) ?_
  | refine vb_i (e_fieldAddr _ _) ?_
  | refine hb_i (e_alloc _ _) ?_
  | (refine vb_i (adds ?_) ?_; (· first | omega | (simp only [List.length_cons, List.length_nil, List.length_append]; omega)))
  refine JoinP.mk (fun e vs J => J = G ∧ e = .normal ∧ vs = [.bool (decide (dd.length = 64 ∧ ee.length = 64))]) ?_ ?_
  · refine vb_i (lenSl_view hvE) ?_
    by_cases e1 : dd.length = 64
    · repeat with_reducible first
      | refine isB_T ?_
      | refine isB_F ?_
      | (refine isB_ct ?_ ?_; (· first | omega | rfl | assumption | trivial))
      | (refine isB_cf ?_ ?_; (· first | omega | assumption))
      | refine onE_i ?_
      | (refine onE_s ?_ ?_; (· decide))
      | refine vb_i e_ext0 ?_
      | refine vb_i e_ext1 ?_
      | refine vb_i e_ext2 ?_
      | refine vb_i (lss64 _ _ _) ?_
      | refine vb_i (leq64 _ _ _) ?_
      | refine vb_i (gtr64 _ _ _) ?_
      | refine vb_i (geq64 _ _ _) ?_
      | refine vb_i (eql64 _ _ _) ?_
      | refine vb_i (neq64 _ _ _) ?_
      | refine vb_i (eqls _ _) ?_
      | refine vb_i (neqs _ _) ?_
      | (refine vb_i (add64 ?_ ?_) ?_; (· omega); (· omega))
      | (refine vb_i (sub64 ?_ ?_) ?_; (· omega); (· omega))
      | (refine vb_i (mul64 ?_ ?_) ?_; (· omega); (· omega))
      | (refine vb_i (quo64 ?_ ?_ ?_) ?_; (· omega); (· omega); (· omega))
      | (refine vb_i (rem64 ?_ ?_) ?_; (· omega); (· omega))
      | refine vb_i (e_lenSt _) ?_
      | refine vb_i (e_lenSl _ _ _) ?_
      | refine vb_i e_lenNil ?_
      | refine vb_i (lenSl_view (by assumption)) ?_
      | refine vb_i (e_ptrNil _ _) ?_
      | refine vb_i (e_ptrNilN _ _) ?_
      | refine vb_i (e_nilNil _) ?_
      | refine vb_i (e_nilNilN _) ?_
      | refine vb_i (e_pickT _ _) ?_
      | refine vb_i (e_pickF _ _) ?_
      | refine vb_i e_notd ?_
      | refine vb_i e_boolNe ?_
      | refine vb_i e_boolEq ?_
      | refine vb_i (e_not _) ?_
      | refine vb_i (e_nilCheck _) ?_
      | refine vb_i (e_fieldAddr _ _) ?_
      | refine hb_i (e_alloc _ _) ?_
      | (refine vb_i (adds ?_) ?_; (· first | omega | (simp only [List.length_cons, List.length_nil, List.length_append]; omega)))
      refine ⟨rfl, rfl, ?_⟩
      congr 2
      exact decide_eq_decide.2 ⟨fun h => ⟨e1, by omega⟩, fun h => by have := h.2; omega⟩
    · repeat with_reducible first
      | refine isB_T ?_
      | refine isB_F ?_
      | (refine isB_ct ?_ ?_; (· first | omega | rfl | assumption | trivial))
      | (refine isB_cf ?_ ?_; (· first | omega | assumption))
      | refine onE_i ?_
      | (refine onE_s ?_ ?_; (· decide))
      | refine vb_i e_ext0 ?_
      | refine vb_i e_ext1 ?_
      | refine vb_i e_ext2 ?_
      | refine vb_i (lss64 _ _ _) ?_
      | refine vb_i (leq64 _ _ _) ?_
      | refine vb_i (gtr64 _ _ _) ?_
      | refine vb_i (geq64 _ _ _) ?_
      | refine vb_i (eql64 _ _ _) ?_
      | refine vb_i (neq64 _ _ _) ?_
      | refine vb_i (eqls _ _) ?_
      | refine vb_i (neqs _ _) ?_
      | (refine vb_i (add64 ?_ ?_) ?_; (· omega); (· omega))
      | (refine vb_i (sub64 ?_ ?_) ?_; (· omega); (· omega))
      | (refine vb_i (mul64 ?_ ?_) ?_; (· omega); (· omega))
      | (refine vb_i (quo64 ?_ ?_ ?_) ?_; (· omega); (· omega); (· omega))
      | (refine vb_i (rem64 ?_ ?_) ?_; (· omega); (· omega))
      | refine vb_i (e_lenSt _) ?_
      | refine vb_i (e_lenSl _ _ _) ?_
      | refine vb_i e_lenNil ?_
      | refine vb_i (lenSl_view (by assumption)) ?_
      | refine vb_i (e_ptrNil _ _) ?_
      | refine vb_i (e_ptrNilN _ _) ?_
      | refine vb_i (e_nilNil _) ?_
      | refine vb_i (e_nilNilN _) ?_
      | refine vb_i (e_pickT _ _) ?_
      | refine vb_i (e_pickF _ _) ?_
      | refine vb_i e_notd ?_
      | refine vb_i e_boolNe ?_
      | refine vb_i e_boolEq ?_
      | refine vb_i (e_not _) ?_
      | refine vb_i (e_nilCheck _) ?_
      | refine vb_i (e_fieldAddr _ _) ?_
      | refine hb_i (e_alloc _ _) ?_
      | (refine vb_i (adds ?_) ?_; (· first | omega | (simp only [List.length_cons, List.length_nil, List.length_append]; omega)))
      exact ⟨rfl, rfl, by rw [decide_eq_false fun h => e1 h.1]⟩
  rintro _ _ J ⟨rfl, rfl, rfl⟩
  repeat with_reducible first
  | refine isB_T ?_
  | refine isB_F ?_
  | (refine isB_ct ?_ ?_; (· first | omega | rfl | assumption | trivial))
  | (refine isB_cf ?_ ?_; (· first | omega | assumption))
  | refine onE_i ?_
  | (refine onE_s ?_ ?_; (· decide))
  | refine vb_i e_ext0 ?_
  | refine vb_i e_ext1 ?_
  | refine vb_i e_ext2 ?_
  | refine vb_i (lss64 _ _ _) ?_
  | refine vb_i (leq64 _ _ _) ?_
  | refine vb_i (gtr64 _ _ _) ?_
  | refine vb_i (geq64 _ _ _) ?_
  | refine vb_i (eql64 _ _ _) ?_
  | refine vb_i (neq64 _ _ _) ?_
  | refine vb_i (eqls _ _) ?_
  | refine vb_i (neqs _ _) ?_
  | (refine vb_i (add64 ?_ ?_) ?_; (· omega); (· omega))
  | (refine vb_i (sub64 ?_ ?_) ?_; (· omega); (· omega))
  | (refine vb_i (mul64 ?_ ?_) ?_; (· omega); (· omega))
  | (refine vb_i (quo64 ?_ ?_ ?_) ?_; (· omega); (· omega); (· omega))
  | (refine vb_i (rem64 ?_ ?_) ?_; (· omega); (· omega))
  | refine vb_i (e_lenSt _) ?_
  | refine vb_i (e_lenSl _ _ _) ?_
  | refine vb_i e_lenNil ?_
  | refine vb_i (lenSl_view (by assumption)) ?_
  | refine vb_i (e_ptrNil _ _) ?_
  | refine vb_i (e_ptrNilN _ _) ?_
  | refine vb_i (e_nilNil _) ?_
  | refine vb_i (e_nilNilN _) ?_
  | refine vb_i (e_pickT _ _) ?_
  | refine vb_i (e_pickF _ _) ?_
  | refine vb_i e_notd ?_
  | refine vb_i e_boolNe ?_
  | refine vb_i e_boolEq ?_
  | refine vb_i (e_not _) ?_
  | refine vb_i (e_nilCheck _) ?_
  | refine vb_i (e_fieldAddr _ _) ?_
  | refine hb_i (e_alloc _ _) ?_
  | (refine vb_i (adds ?_) ?_; (· first | omega | (simp only [List.length_cons, List.length_nil, List.length_append]; omega)))
  try simp only [evB]
  refine JoinP.mk (fun e vs Q => Q = J ∧ e = .normal ∧ vs = [.bool (decide (sameR dd ee))]) ?_ ?_
  · refine isB_c (fun h1 => ?_) (fun h1 => ?_)
    · refine cb_i _ _ ⟨_, dd, rfl, hvE, h1.1, Nat.le_refl _, rfl, rfl⟩ ?_
      refine cb_i _ _ ⟨_, ee, rfl, hwE, h1.2, Nat.le_refl _, rfl, rfl⟩ ?_
      refine vb_i (e_eqBytes (val dd 6 0).2 (val ee 6 0).2) ?_
      refine ⟨rfl, rfl, ?_⟩
      congr 2
      exact decide_eq_decide.2 ⟨fun h => ⟨h1, h⟩, fun h => h.2⟩
    · refine ⟨rfl, rfl, ?_⟩
      rw [decide_eq_false h1, decide_eq_false fun h => h1 h.1]
  rintro _ _ Q ⟨rfl, rfl, rfl⟩
  repeat with_reducible first
  | refine isB_T ?_
  | refine isB_F ?_
  | (refine isB_ct ?_ ?_; (· first | omega | rfl | assumption | trivial))
  | (refine isB_cf ?_ ?_; (· first | omega | assumption))
  | refine onE_i ?_
  | (refine onE_s ?_ ?_; (· decide))
  | refine vb_i e_ext0 ?_
  | refine vb_i e_ext1 ?_
  | refine vb_i e_ext2 ?_
  | refine vb_i (lss64 _ _ _) ?_
  | refine vb_i (leq64 _ _ _) ?_
  | refine vb_i (gtr64 _ _ _) ?_
  | refine vb_i (geq64 _ _ _) ?_
  | refine vb_i (eql64 _ _ _) ?_
  | refine vb_i (neq64 _ _ _) ?_
  | refine vb_i (eqls _ _) ?_
  | refine vb_i (neqs _ _) ?_
  | (refine vb_i (add64 ?_ ?_) ?_; (· omega); (· omega))
  | (refine vb_i (sub64 ?_ ?_) ?_; (· omega); (· omega))
  | (refine vb_i (mul64 ?_ ?_) ?_; (· omega); (· omega))
  | (refine vb_i (quo64 ?_ ?_ ?_) ?_; (· omega); (· omega); (· omega))
  | (refine vb_i (rem64 ?_ ?_) ?_; (· omega); (· omega))
  | refine vb_i (e_lenSt _) ?_
  | refine vb_i (e_lenSl _ _ _) ?_
  | refine vb_i e_lenNil ?_
  | refine vb_i (lenSl_view (by assumption)) ?_
  | refine vb_i (e_ptrNil _ _) ?_
  | refine vb_i (e_ptrNilN _ _) ?_
  | refine vb_i (e_nilNil _) ?_
  | refine vb_i (e_nilNilN _) ?_
  | refine vb_i (e_pickT _ _) ?_
  | refine vb_i (e_pickF _ _) ?_
  | refine vb_i e_notd ?_
  | refine vb_i e_boolNe ?_
  | refine vb_i e_boolEq ?_
  | refine vb_i (e_not _) ?_
  | refine vb_i (e_nilCheck _) ?_
  | refine vb_i (e_fieldAddr _ _) ?_
  | refine hb_i (e_alloc _ _) ?_
  | (refine vb_i (adds ?_) ?_; (· first | omega | (simp only [List.length_cons, List.length_nil, List.length_append]; omega)))
  try simp only [evB]
  refine cb_i _ _ ⟨x, y, dd, ee, rfl, ⟨hvE, hl, .inl rfl⟩, ⟨hwE, hm, .inl rfl⟩, rfl, rfl⟩ ?_
  refine vb_i e_boolNe ?_
  with_reducible refine isB_cf ?_ ?_
  · exact not_not_intro Iff.rfl
  refine JoinP.mk (fun e vs P => P = Q ∧ ((e = .ret ∧ vs = [.bool true]) ∨ (e = .normal ∧ ¬ (n < 0 ∨ 63 ≤ n)))) ?_ ?_
  · repeat with_reducible first
    | refine isB_T ?_
    | refine isB_F ?_
    | (refine isB_ct ?_ ?_; (· first | omega | rfl | assumption | trivial))
    | (refine isB_cf ?_ ?_; (· first | omega | assumption))
    | refine onE_i ?_
    | (refine onE_s ?_ ?_; (· decide))
    | refine vb_i e_ext0 ?_
    | refine vb_i e_ext1 ?_
    | refine vb_i e_ext2 ?_
    | refine vb_i (lss64 _ _ _) ?_
    | refine vb_i (leq64 _ _ _) ?_
    | refine vb_i (gtr64 _ _ _) ?_
    | refine vb_i (geq64 _ _ _) ?_
    | refine vb_i (eql64 _ _ _) ?_
    | refine vb_i (neq64 _ _ _) ?_
    | refine vb_i (eqls _ _) ?_
    | refine vb_i (neqs _ _) ?_
    | (refine vb_i (add64 ?_ ?_) ?_; (· omega); (· omega))
    | (refine vb_i (sub64 ?_ ?_) ?_; (· omega); (· omega))
    | (refine vb_i (mul64 ?_ ?_) ?_; (· omega); (· omega))
    | (refine vb_i (quo64 ?_ ?_ ?_) ?_; (· omega); (· omega); (· omega))
    | (refine vb_i (rem64 ?_ ?_) ?_; (· omega); (· omega))
    | refine vb_i (e_lenSt _) ?_
    | refine vb_i (e_lenSl _ _ _) ?_
    | refine vb_i e_lenNil ?_
    | refine vb_i (lenSl_view (by assumption)) ?_
    | refine vb_i (e_ptrNil _ _) ?_
    | refine vb_i (e_ptrNilN _ _) ?_
    | refine vb_i (e_nilNil _) ?_
    | refine vb_i (e_nilNilN _) ?_
    | refine vb_i (e_pickT _ _) ?_
    | refine vb_i (e_pickF _ _) ?_
    | refine vb_i e_notd ?_
    | refine vb_i e_boolNe ?_
    | refine vb_i e_boolEq ?_
    | refine vb_i (e_not _) ?_
    | refine vb_i (e_nilCheck _) ?_
    | refine vb_i (e_fieldAddr _ _) ?_
    | refine hb_i (e_alloc _ _) ?_
    | (refine vb_i (adds ?_) ?_; (· first | omega | (simp only [List.length_cons, List.length_nil, List.length_append]; omega)))
    refine isB_c (fun h1 => ?_) (fun h1 => ?_)
    · rcases hab with ⟨_, rfl, rfl⟩ | ⟨h2, _⟩
      · refine cb_i _ _ ⟨rfl, rfl, rfl⟩ ?_
        repeat with_reducible first
        | refine isB_T ?_
        | refine isB_F ?_
        | (refine isB_ct ?_ ?_; (· first | omega | rfl | assumption | trivial))
        | (refine isB_cf ?_ ?_; (· first | omega | assumption))
        | refine onE_i ?_
        | (refine onE_s ?_ ?_; (· decide))
        | refine vb_i e_ext0 ?_
        | refine vb_i e_ext1 ?_
        | refine vb_i e_ext2 ?_
        | refine vb_i (lss64 _ _ _) ?_
        | refine vb_i (leq64 _ _ _) ?_
        | refine vb_i (gtr64 _ _ _) ?_
        | refine vb_i (geq64 _ _ _) ?_
        | refine vb_i (eql64 _ _ _) ?_
        | refine vb_i (neq64 _ _ _) ?_
        | refine vb_i (eqls _ _) ?_
        | refine vb_i (neqs _ _) ?_
        | (refine vb_i (add64 ?_ ?_) ?_; (· omega); (· omega))
        | (refine vb_i (sub64 ?_ ?_) ?_; (· omega); (· omega))
        | (refine vb_i (mul64 ?_ ?_) ?_; (· omega); (· omega))
        | (refine vb_i (quo64 ?_ ?_ ?_) ?_; (· omega); (· omega); (· omega))
        | (refine vb_i (rem64 ?_ ?_) ?_; (· omega); (· omega))
        | refine vb_i (e_lenSt _) ?_
        | refine vb_i (e_lenSl _ _ _) ?_
        | refine vb_i e_lenNil ?_
        | refine vb_i (lenSl_view (by assumption)) ?_
        | refine vb_i (e_ptrNil _ _) ?_
        | refine vb_i (e_ptrNilN _ _) ?_
        | refine vb_i (e_nilNil _) ?_
        | refine vb_i (e_nilNilN _) ?_
        | refine vb_i (e_pickT _ _) ?_
        | refine vb_i (e_pickF _ _) ?_
        | refine vb_i e_notd ?_
        | refine vb_i e_boolNe ?_
        | refine vb_i e_boolEq ?_
        | refine vb_i (e_not _) ?_
        | refine vb_i (e_nilCheck _) ?_
        | refine vb_i (e_fieldAddr _ _) ?_
        | refine hb_i (e_alloc _ _) ?_
        | (refine vb_i (adds ?_) ?_; (· first | omega | (simp only [List.length_cons, List.length_nil, List.length_append]; omega)))
        exact ⟨rfl, .inl ⟨rfl, rfl⟩⟩
      · omega
    · repeat with_reducible first
      | refine isB_T ?_
      | refine isB_F ?_
      | (refine isB_ct ?_ ?_; (· first | omega | rfl | assumption | trivial))
      | (refine isB_cf ?_ ?_; (· first | omega | assumption))
      | refine onE_i ?_
      | (refine onE_s ?_ ?_; (· decide))
      | refine vb_i e_ext0 ?_
      | refine vb_i e_ext1 ?_
      | refine vb_i e_ext2 ?_
      | refine vb_i (lss64 _ _ _) ?_
      | refine vb_i (leq64 _ _ _) ?_
      | refine vb_i (gtr64 _ _ _) ?_
      | refine vb_i (geq64 _ _ _) ?_
      | refine vb_i (eql64 _ _ _) ?_
      | refine vb_i (neq64 _ _ _) ?_
      | refine vb_i (eqls _ _) ?_
      | refine vb_i (neqs _ _) ?_
      | (refine vb_i (add64 ?_ ?_) ?_; (· omega); (· omega))
      | (refine vb_i (sub64 ?_ ?_) ?_; (· omega); (· omega))
      | (refine vb_i (mul64 ?_ ?_) ?_; (· omega); (· omega))
      | (refine vb_i (quo64 ?_ ?_ ?_) ?_; (· omega); (· omega); (· omega))
      | (refine vb_i (rem64 ?_ ?_) ?_; (· omega); (· omega))
      | refine vb_i (e_lenSt _) ?_
      | refine vb_i (e_lenSl _ _ _) ?_
      | refine vb_i e_lenNil ?_
      | refine vb_i (lenSl_view (by assumption)) ?_
      | refine vb_i (e_ptrNil _ _) ?_
      | refine vb_i (e_ptrNilN _ _) ?_
      | refine vb_i (e_nilNil _) ?_
      | refine vb_i (e_nilNilN _) ?_
      | refine vb_i (e_pickT _ _) ?_
      | refine vb_i (e_pickF _ _) ?_
      | refine vb_i e_notd ?_
      | refine vb_i e_boolNe ?_
      | refine vb_i e_boolEq ?_
      | refine vb_i (e_not _) ?_
      | refine vb_i (e_nilCheck _) ?_
      | refine vb_i (e_fieldAddr _ _) ?_
      | refine hb_i (e_alloc _ _) ?_
      | (refine vb_i (adds ?_) ?_; (· first | omega | (simp only [List.length_cons, List.length_nil, List.length_append]; omega)))
      refine isB_c (fun h3 => ?_) (fun h3 => ?_)
      · rcases hab with ⟨_, rfl, rfl⟩ | ⟨h2, _⟩
        · refine cb_i _ _ ⟨rfl, rfl, rfl⟩ ?_
          repeat with_reducible first
          | refine isB_T ?_
          | refine isB_F ?_
          | (refine isB_ct ?_ ?_; (· first | omega | rfl | assumption | trivial))
          | (refine isB_cf ?_ ?_; (· first | omega | assumption))
          | refine onE_i ?_
          | (refine onE_s ?_ ?_; (· decide))
          | refine vb_i e_ext0 ?_
          | refine vb_i e_ext1 ?_
          | refine vb_i e_ext2 ?_
          | refine vb_i (lss64 _ _ _) ?_
          | refine vb_i (leq64 _ _ _) ?_
          | refine vb_i (gtr64 _ _ _) ?_
          | refine vb_i (geq64 _ _ _) ?_
          | refine vb_i (eql64 _ _ _) ?_
          | refine vb_i (neq64 _ _ _) ?_
          | refine vb_i (eqls _ _) ?_
          | refine vb_i (neqs _ _) ?_
          | (refine vb_i (add64 ?_ ?_) ?_; (· omega); (· omega))
          | (refine vb_i (sub64 ?_ ?_) ?_; (· omega); (· omega))
          | (refine vb_i (mul64 ?_ ?_) ?_; (· omega); (· omega))
          | (refine vb_i (quo64 ?_ ?_ ?_) ?_; (· omega); (· omega); (· omega))
          | (refine vb_i (rem64 ?_ ?_) ?_; (· omega); (· omega))
          | refine vb_i (e_lenSt _) ?_
          | refine vb_i (e_lenSl _ _ _) ?_
          | refine vb_i e_lenNil ?_
          | refine vb_i (lenSl_view (by assumption)) ?_
          | refine vb_i (e_ptrNil _ _) ?_
          | refine vb_i (e_ptrNilN _ _) ?_
          | refine vb_i (e_nilNil _) ?_
          | refine vb_i (e_nilNilN _) ?_
          | refine vb_i (e_pickT _ _) ?_
          | refine vb_i (e_pickF _ _) ?_
          | refine vb_i e_notd ?_
          | refine vb_i e_boolNe ?_
          | refine vb_i e_boolEq ?_
          | refine vb_i (e_not _) ?_
          | refine vb_i (e_nilCheck _) ?_
          | refine vb_i (e_fieldAddr _ _) ?_
          | refine hb_i (e_alloc _ _) ?_
          | (refine vb_i (adds ?_) ?_; (· first | omega | (simp only [List.length_cons, List.length_nil, List.length_append]; omega)))
          exact ⟨rfl, .inl ⟨rfl, rfl⟩⟩
        · omega
      · exact ⟨rfl, .inr ⟨rfl, by omega⟩⟩
  rintro _ vs P ⟨rfl, ⟨rfl, rfl⟩ | ⟨rfl, hn⟩⟩
  · repeat with_reducible first
    | refine isB_T ?_
    | refine isB_F ?_
    | (refine isB_ct ?_ ?_; (· first | omega | rfl | assumption | trivial))
    | (refine isB_cf ?_ ?_; (· first | omega | assumption))
    | refine onE_i ?_
    | (refine onE_s ?_ ?_; (· decide))
    | refine vb_i e_ext0 ?_
    | refine vb_i e_ext1 ?_
    | refine vb_i e_ext2 ?_
    | refine vb_i (lss64 _ _ _) ?_
    | refine vb_i (leq64 _ _ _) ?_
    | refine vb_i (gtr64 _ _ _) ?_
    | refine vb_i (geq64 _ _ _) ?_
    | refine vb_i (eql64 _ _ _) ?_
    | refine vb_i (neq64 _ _ _) ?_
    | refine vb_i (eqls _ _) ?_
    | refine vb_i (neqs _ _) ?_
    | (refine vb_i (add64 ?_ ?_) ?_; (· omega); (· omega))
    | (refine vb_i (sub64 ?_ ?_) ?_; (· omega); (· omega))
    | (refine vb_i (mul64 ?_ ?_) ?_; (· omega); (· omega))
    | (refine vb_i (quo64 ?_ ?_ ?_) ?_; (· omega); (· omega); (· omega))
    | (refine vb_i (rem64 ?_ ?_) ?_; (· omega); (· omega))
    | refine vb_i (e_lenSt _) ?_
    | refine vb_i (e_lenSl _ _ _) ?_
    | refine vb_i e_lenNil ?_
    | refine vb_i (lenSl_view (by assumption)) ?_
    | refine vb_i (e_ptrNil _ _) ?_
    | refine vb_i (e_ptrNilN _ _) ?_
    | refine vb_i (e_nilNil _) ?_
    | refine vb_i (e_nilNilN _) ?_
    | refine vb_i (e_pickT _ _) ?_
    | refine vb_i (e_pickF _ _) ?_
    | refine vb_i e_notd ?_
    | refine vb_i e_boolNe ?_
    | refine vb_i e_boolEq ?_
    | refine vb_i (e_not _) ?_
    | refine vb_i (e_nilCheck _) ?_
    | refine vb_i (e_fieldAddr _ _) ?_
    | refine hb_i (e_alloc _ _) ?_
    | (refine vb_i (adds ?_) ?_; (· first | omega | (simp only [List.length_cons, List.length_nil, List.length_append]; omega)))
    try simp only [evB]
    exact fin_bool rfl pF
  rcases hab with ⟨h2, _⟩ | ⟨_, rfl, rfl⟩
  · exact absurd h2 hn
  obtain ⟨k, rfl⟩ : ∃ k : Nat, n = k := ⟨n.toNat, by omega⟩
  rw [Int.toNat_natCast]
  repeat with_reducible first
  | refine isB_T ?_
  | refine isB_F ?_
  | (refine isB_ct ?_ ?_; (· first | omega | rfl | assumption | trivial))
  | (refine isB_cf ?_ ?_; (· first | omega | assumption))
  | refine onE_i ?_
  | (refine onE_s ?_ ?_; (· decide))
  | refine vb_i e_ext0 ?_
  | refine vb_i e_ext1 ?_
  | refine vb_i e_ext2 ?_
  | refine vb_i (lss64 _ _ _) ?_
  | refine vb_i (leq64 _ _ _) ?_
  | refine vb_i (gtr64 _ _ _) ?_
  | refine vb_i (geq64 _ _ _) ?_
  | refine vb_i (eql64 _ _ _) ?_
  | refine vb_i (neq64 _ _ _) ?_
  | refine vb_i (eqls _ _) ?_
  | refine vb_i (neqs _ _) ?_
  | (refine vb_i (add64 ?_ ?_) ?_; (· omega); (· omega))
  | (refine vb_i (sub64 ?_ ?_) ?_; (· omega); (· omega))
  | (refine vb_i (mul64 ?_ ?_) ?_; (· omega); (· omega))
  | (refine vb_i (quo64 ?_ ?_ ?_) ?_; (· omega); (· omega); (· omega))
  | (refine vb_i (rem64 ?_ ?_) ?_; (· omega); (· omega))
  | refine vb_i (e_lenSt _) ?_
  | refine vb_i (e_lenSl _ _ _) ?_
  | refine vb_i e_lenNil ?_
  | refine vb_i (lenSl_view (by assumption)) ?_
  | refine vb_i (e_ptrNil _ _) ?_
  | refine vb_i (e_ptrNilN _ _) ?_
  | refine vb_i (e_nilNil _) ?_
  | refine vb_i (e_nilNilN _) ?_
  | refine vb_i (e_pickT _ _) ?_
  | refine vb_i (e_pickF _ _) ?_
  | refine vb_i e_notd ?_
  | refine vb_i e_boolNe ?_
  | refine vb_i e_boolEq ?_
  | refine vb_i (e_not _) ?_
  | refine vb_i (e_nilCheck _) ?_
  | refine vb_i (e_fieldAddr _ _) ?_
  | refine hb_i (e_alloc _ _) ?_
  | (refine vb_i (adds ?_) ?_; (· first | omega | (simp only [List.length_cons, List.length_nil, List.length_append]; omega)))
  refine LoopP.ruleG (α := Nat) (fun j => [.int .i64 (6 - hops k + hops j), .int .i64 j]) (fun j C => j ≤ k ∧ C = P) (fun j => j) k (by simp) ⟨Nat.le_refl _, rfl⟩ ?_
  rintro j C Kn ⟨hj, rfl⟩ hk
  unfold cellaretlaw17_NodeBares.L26 cellaretlaw17_NodeBares.L26.b
  try simp only [evB]
  have hh5 : ∀ q, q ≤ 62 → hops q ≤ 5 := by decide
  have hhk := hh5 k (by omega)
  have hhj := hh5 j (by omega)
  by_cases hj0 : 0 < j
  · have hS := hopsS hj0
    repeat with_reducible first
    | refine isB_T ?_
    | refine isB_F ?_
    | (refine isB_ct ?_ ?_; (· first | omega | rfl | assumption | trivial))
    | (refine isB_cf ?_ ?_; (· first | omega | assumption))
    | refine onE_i ?_
    | (refine onE_s ?_ ?_; (· decide))
    | refine vb_i e_ext0 ?_
    | refine vb_i e_ext1 ?_
    | refine vb_i e_ext2 ?_
    | refine vb_i (lss64 _ _ _) ?_
    | refine vb_i (leq64 _ _ _) ?_
    | refine vb_i (gtr64 _ _ _) ?_
    | refine vb_i (geq64 _ _ _) ?_
    | refine vb_i (eql64 _ _ _) ?_
    | refine vb_i (neq64 _ _ _) ?_
    | refine vb_i (eqls _ _) ?_
    | refine vb_i (neqs _ _) ?_
    | (refine vb_i (add64 ?_ ?_) ?_; (· omega); (· omega))
    | (refine vb_i (sub64 ?_ ?_) ?_; (· omega); (· omega))
    | (refine vb_i (mul64 ?_ ?_) ?_; (· omega); (· omega))
    | (refine vb_i (quo64 ?_ ?_ ?_) ?_; (· omega); (· omega); (· omega))
    | (refine vb_i (rem64 ?_ ?_) ?_; (· omega); (· omega))
    | refine vb_i (e_lenSt _) ?_
    | refine vb_i (e_lenSl _ _ _) ?_
    | refine vb_i e_lenNil ?_
    | refine vb_i (lenSl_view (by assumption)) ?_
    | refine vb_i (e_ptrNil _ _) ?_
    | refine vb_i (e_ptrNilN _ _) ?_
    | refine vb_i (e_nilNil _) ?_
    | refine vb_i (e_nilNilN _) ?_
    | refine vb_i (e_pickT _ _) ?_
    | refine vb_i (e_pickF _ _) ?_
    | refine vb_i e_notd ?_
    | refine vb_i e_boolNe ?_
    | refine vb_i e_boolEq ?_
    | refine vb_i (e_not _) ?_
    | refine vb_i (e_nilCheck _) ?_
    | refine vb_i (e_fieldAddr _ _) ?_
    | refine hb_i (e_alloc _ _) ?_
    | (refine vb_i (adds ?_) ?_; (· first | omega | (simp only [List.length_cons, List.length_nil, List.length_append]; omega)))
    have e1 : ((j : Int) - 1) / 2 = (((j - 1) / 2 : Nat) : Int) := by omega
    have e2 : (6 : Int) - hops k + hops j - 1 = 6 - hops k + hops ((j - 1) / 2) := by rw [hS]; push_cast; omega
    rw [e1, e2]
    exact hk ((j - 1) / 2) _ ⟨by omega, rfl⟩ (by omega)
  · have : j = 0 := by omega
    subst this
    repeat with_reducible first
    | refine isB_T ?_
    | refine isB_F ?_
    | (refine isB_ct ?_ ?_; (· first | omega | rfl | assumption | trivial))
    | (refine isB_cf ?_ ?_; (· first | omega | assumption))
    | refine onE_i ?_
    | (refine onE_s ?_ ?_; (· decide))
    | refine vb_i e_ext0 ?_
    | refine vb_i e_ext1 ?_
    | refine vb_i e_ext2 ?_
    | refine vb_i (lss64 _ _ _) ?_
    | refine vb_i (leq64 _ _ _) ?_
    | refine vb_i (gtr64 _ _ _) ?_
    | refine vb_i (geq64 _ _ _) ?_
    | refine vb_i (eql64 _ _ _) ?_
    | refine vb_i (neq64 _ _ _) ?_
    | refine vb_i (eqls _ _) ?_
    | refine vb_i (neqs _ _) ?_
    | (refine vb_i (add64 ?_ ?_) ?_; (· omega); (· omega))
    | (refine vb_i (sub64 ?_ ?_) ?_; (· omega); (· omega))
    | (refine vb_i (mul64 ?_ ?_) ?_; (· omega); (· omega))
    | (refine vb_i (quo64 ?_ ?_ ?_) ?_; (· omega); (· omega); (· omega))
    | (refine vb_i (rem64 ?_ ?_) ?_; (· omega); (· omega))
    | refine vb_i (e_lenSt _) ?_
    | refine vb_i (e_lenSl _ _ _) ?_
    | refine vb_i e_lenNil ?_
    | refine vb_i (lenSl_view (by assumption)) ?_
    | refine vb_i (e_ptrNil _ _) ?_
    | refine vb_i (e_ptrNilN _ _) ?_
    | refine vb_i (e_nilNil _) ?_
    | refine vb_i (e_nilNilN _) ?_
    | refine vb_i (e_pickT _ _) ?_
    | refine vb_i (e_pickF _ _) ?_
    | refine vb_i e_notd ?_
    | refine vb_i e_boolNe ?_
    | refine vb_i e_boolEq ?_
    | refine vb_i (e_not _) ?_
    | refine vb_i (e_nilCheck _) ?_
    | refine vb_i (e_fieldAddr _ _) ?_
    | refine hb_i (e_alloc _ _) ?_
    | (refine vb_i (adds ?_) ?_; (· first | omega | (simp only [List.length_cons, List.length_nil, List.length_append]; omega)))
    try simp only [evB]
    have e3 : (6 : Int) - hops k + hops 0 = 6 - hops k := by rw [hops0]; simp
    rw [e3]
    refine cb_i _ _ ⟨rfl, rfl, rfl⟩ ?_
    repeat with_reducible first
    | refine isB_T ?_
    | refine isB_F ?_
    | (refine isB_ct ?_ ?_; (· first | omega | rfl | assumption | trivial))
    | (refine isB_cf ?_ ?_; (· first | omega | assumption))
    | refine onE_i ?_
    | (refine onE_s ?_ ?_; (· decide))
    | refine vb_i e_ext0 ?_
    | refine vb_i e_ext1 ?_
    | refine vb_i e_ext2 ?_
    | refine vb_i (lss64 _ _ _) ?_
    | refine vb_i (leq64 _ _ _) ?_
    | refine vb_i (gtr64 _ _ _) ?_
    | refine vb_i (geq64 _ _ _) ?_
    | refine vb_i (eql64 _ _ _) ?_
    | refine vb_i (neq64 _ _ _) ?_
    | refine vb_i (eqls _ _) ?_
    | refine vb_i (neqs _ _) ?_
    | (refine vb_i (add64 ?_ ?_) ?_; (· omega); (· omega))
    | (refine vb_i (sub64 ?_ ?_) ?_; (· omega); (· omega))
    | (refine vb_i (mul64 ?_ ?_) ?_; (· omega); (· omega))
    | (refine vb_i (quo64 ?_ ?_ ?_) ?_; (· omega); (· omega); (· omega))
    | (refine vb_i (rem64 ?_ ?_) ?_; (· omega); (· omega))
    | refine vb_i (e_lenSt _) ?_
    | refine vb_i (e_lenSl _ _ _) ?_
    | refine vb_i e_lenNil ?_
    | refine vb_i (lenSl_view (by assumption)) ?_
    | refine vb_i (e_ptrNil _ _) ?_
    | refine vb_i (e_ptrNilN _ _) ?_
    | refine vb_i (e_nilNil _) ?_
    | refine vb_i (e_nilNilN _) ?_
    | refine vb_i (e_pickT _ _) ?_
    | refine vb_i (e_pickF _ _) ?_
    | refine vb_i e_notd ?_
    | refine vb_i e_boolNe ?_
    | refine vb_i e_boolEq ?_
    | refine vb_i (e_not _) ?_
    | refine vb_i (e_nilCheck _) ?_
    | refine vb_i (e_fieldAddr _ _) ?_
    | refine hb_i (e_alloc _ _) ?_
    | (refine vb_i (adds ?_) ?_; (· first | omega | (simp only [List.length_cons, List.length_nil, List.length_append]; omega)))
    exact fin_bool (by simp) pF
end Go.Sh

/- Functions that leave what was there as it was. -/
namespace Go.Sh
open Go Go.Abs

theorem cellaretlaw17_NodeBares.quiet {args : List AVal} {H : AHeap} {r : AVal} {H' : AHeap} (h : S_cellaretlaw17_NodeBares args H r H') : H <+: H' := by
  obtain ⟨_, _, _, _, _, _, _, _, _, _, _, _, rfl⟩ := h
  exact List.prefix_refl _
end Go.Sh
