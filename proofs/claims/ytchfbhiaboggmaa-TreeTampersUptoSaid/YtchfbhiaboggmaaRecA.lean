/- One text of these: RecW1, Rec0, RecP1, RecP2, RecP3, RecM, RecP4, RecP5. -/
import Derived.Test.YtchfbhiaboggmaaAbsF
import Derived.Test.YtchfbhiaboggmaaRon

/- What Go functions come to over abstract values, printed by a program (wx.py); of each function its own text is what is told of it. -/
namespace Go.Sh
open Go Go.Abs

def be_Put.L7.b (x1 : AVal) (x0 : AVal) (v13 : AVal) (x32_7 : AVal) (H15 : AHeap) (Kn16 : List AVal → AHeap → Prop) (Ke17 : AExit → List AVal → AHeap → Prop) : Prop :=
 vb (aBin .lss x32_7 x1) fun v18 =>
 isB v18 fun b19 => cond b19
 (vb (aBin .sub x1 (.int .i64 1)) fun v20 =>
 vb (aBin .sub v20 x32_7) fun v21 =>
 vb (aBin .mul (.int .i64 8) x32_7) fun v22 =>
 vb (aBin .shr x0 v22) fun v23 =>
 vb (aInt2 .u8 v23) fun v24 =>
 vb (aIndexAddr 1 v13 v21) fun v25 =>
 sb (aStore H15 1 v25 v24) fun H26 =>
 vb (aBin .add x32_7 (.int .i64 1)) fun v27 =>
 Kn16 [v27] H26)
 (Ke17 (.exit 1) [] H15)

def be_Put.L7 (x1 : AVal) (x0 : AVal) (v13 : AVal) : Body := fun vs H Kn Ke => be_Put.L7.b x1 x0 v13 (vs.getD 0 .undef) H Kn Ke

def be_Put.w (x0 : AVal) (x1 : AVal) (H : AHeap) (K : AVal → AHeap → Prop) : Prop :=
 vb (aBin .lss x1 (.int .i64 1)) fun v1 =>
 isB v1 fun b2 => cond b2
 (fin .ret [.v (.str []), .v (.int .i64 2)] H K)
 (vb (aBin .gtr x1 (.int .i64 8)) fun v3 =>
 isB v3 fun b4 => cond b4
 (fin .ret [.v (.str []), .v (.int .i64 2)] H K)
 (vb (aBin .lss x0 (.int .i64 0)) fun v5 =>
 isB v5 fun b6 => cond b6
 (fin .ret [.v (.str []), .v (.int .i64 3)] H K)
 (vb (aBin .lss x1 (.int .i64 8)) fun v7 =>
 isB v7 fun b8 => cond b8
 (vb (aBin .mul (.int .i64 8) x1) fun v9 =>
 vb (aBin .shr x0 v9) fun v10 =>
 vb (aBin .gtr v10 (.int .i64 0)) fun v11 =>
 isB v11 fun b12 => cond b12
 (fin .ret [.v (.str []), .v (.int .i64 3)] H K)
 (hb (aMakeSlice H 1 [.int .u8 0] x1 x1) fun v13 H14 =>
 LoopP (be_Put.L7 x1 x0 v13) [.int .i64 0] H14 fun e28 vs29 H30 =>
 onE e28 (.exit 1)
 (vb (aBytes2Str H30 v13) fun v31 =>
 fin .ret [.v (v31), .v (.int .i64 0)] H30 K)
 (False)))
 (hb (aMakeSlice H 1 [.int .u8 0] x1 x1) fun v32 H33 =>
 LoopP (be_Put.L7 x1 x0 v32) [.int .i64 0] H33 fun e47 vs48 H49 =>
 onE e47 (.exit 1)
 (vb (aBytes2Str H49 v32) fun v50 =>
 fin .ret [.v (v50), .v (.int .i64 0)] H49 K)
 (False)))))

def S_be_Put : Abs.Spec := fun args H r H' => ∃ x0 x1 : AVal, args = [x0, x1] ∧ (be_Put.w x0 x1 H fun r1 H1 => r1 = r ∧ H1 = H') ∧ H <+: H'
def be_Pad.w (x0 : AVal) (x1 : AVal) (H : AHeap) (K : AVal → AHeap → Prop) : Prop :=
 vb (aBin .lss x1 (.int .i64 0)) fun v1 =>
 isB v1 fun b2 => cond b2
 (fin .ret [.v (.str []), .v (.int .i64 2)] H K)
 (vb (aBin .gtr x1 (.int .i64 4096)) fun v3 =>
 isB v3 fun b4 => cond b4
 (fin .ret [.v (.str []), .v (.int .i64 2)] H K)
 (vb (lenSt x0) fun v5 =>
 vb (aBin .gtr v5 x1) fun v6 =>
 isB v6 fun b7 => cond b7
 (fin .ret [.v (.str []), .v (.int .i64 4)] H K)
 (vb (lenSt x0) fun v8 =>
 vb (aBin .sub x1 v8) fun v9 =>
 hb (aMakeSlice H 1 [.int .u8 0] v9 v9) fun v10 H11 =>
 vb (aBytes2Str H11 v10) fun v12 =>
 vb (aBin .add x0 v12) fun v13 =>
 fin .ret [.v (v13), .v (.int .i64 0)] H11 K)))

def S_be_Pad : Abs.Spec := fun args H r H' => ∃ x0 x1 : AVal, args = [x0, x1] ∧ (be_Pad.w x0 x1 H fun r1 H1 => r1 = r ∧ H1 = H') ∧ H <+: H'
def be_Row_1.w (x0 : AVal) (x1 : AVal) (x2 : AVal) (H : AHeap) (K : AVal → AHeap → Prop) : Prop :=
 vb (aLoad H false 1 x1) fun v1 =>
 cb (S_be_Put [x0, v1] H) fun v2 H3 =>
 vb (aExtract v2 0) fun v4 =>
 vb (aExtract v2 1) fun v5 =>
 vb (aLoad H3 false 1 x2) fun v6 =>
 hb (aAppend H3 1 1 v6 v4) fun v7 H8 =>
 sb (aStore H8 1 x2 v7) fun H9 =>
 fin .ret [.v (v5)] H9 K

def S_be_Row_1 : Abs.Spec := fun args H r H' => ∃ x0 x1 x2 : AVal, args = [x0, x1, x2] ∧ (be_Row_1.w x0 x1 x2 H fun r1 H1 => r1 = r ∧ H1 = H')
def be_Row.L8.b (v18 : AVal) (x1 : AVal) (v1 : AVal) (v16 : AVal) (x23_8 : AVal) (H19 : AHeap) (Kn20 : List AVal → AHeap → Prop) (Ke21 : AExit → List AVal → AHeap → Prop) : Prop :=
 vb (aBin .lss x23_8 v18) fun v22 =>
 isB v22 fun b23 => cond b23
 (vb (aIndexAddr 1 x1 x23_8) fun v24 =>
 vb (aLoad H19 false 1 v24) fun v25 =>
 cb (S_be_Row_1 [v25, v1, v16] H19) fun v26 H27 =>
 vb (aBin .neq v26 (.int .i64 0)) fun v28 =>
 isB v28 fun b29 => cond b29
 (Ke21 .ret [.str [], v26] H27)
 (vb (aBin .add x23_8 (.int .i64 1)) fun v30 =>
 Kn20 [v30] H27))
 (Ke21 (.exit 0) [.undef, .undef] H19)

def be_Row.L8 (v18 : AVal) (x1 : AVal) (v1 : AVal) (v16 : AVal) : Body := fun vs H Kn Ke => be_Row.L8.b v18 x1 v1 v16 (vs.getD 0 .undef) H Kn Ke

def be_Row.w (x0 : AVal) (x1 : AVal) (H : AHeap) (K : AVal → AHeap → Prop) : Prop :=
 hb (aBox H x0) fun v1 H2 =>
 vb (lenSl x1) fun v3 =>
 vb (aBin .gtr v3 (.int .i64 512)) fun v4 =>
 isB v4 fun b5 => cond b5
 (fin .ret [.v (.str []), .v (.int .i64 4)] H2 K)
 (JoinP (fun Kj6 => vb (aLoad H2 false 1 v1) fun v7 =>
 vb (aBin .lss v7 (.int .i64 1)) fun v8 =>
 isB v8 fun b9 => cond b9
 (Kj6 .ret [.str [], .int .i64 2] H2)
 (vb (aLoad H2 false 1 v1) fun v10 =>
 vb (aBin .gtr v10 (.int .i64 8)) fun v11 =>
 isB v11 fun b12 => cond b12
 (Kj6 .ret [.str [], .int .i64 2] H2)
 (Kj6 .normal [.str [], .int .i64 0] H2)))
 (fun e13 vs14 H15 =>
 onE e13 .normal
 (hb (aAlloc H15 [.nils]) fun v16 H17 =>
 vb (lenSl x1) fun v18 =>
 LoopP (be_Row.L8 v18 x1 v1 v16) [.int .i64 0] H17 fun e31 vs32 H33 =>
 onE e31 (.exit 0)
 (vb (aLoad H33 false 1 v16) fun v34 =>
 vb (aBytes2Str H33 v34) fun v35 =>
 fin .ret [.v (v35), .v (.int .i64 0)] H33 K)
 (onE e31 .ret
 (fin .ret [.v (vs32.getD 0 .undef), .v (vs32.getD 1 .undef)] H33 K)
 (False)))
 (onE e13 .ret
 (fin .ret [.v (vs14.getD 0 .undef), .v (vs14.getD 1 .undef)] H15 K)
 (False))))

def S_be_Row : Abs.Spec := fun args H r H' => ∃ x0 x1 : AVal, args = [x0, x1] ∧ (be_Row.w x0 x1 H fun r1 H1 => r1 = r ∧ H1 = H') ∧ H <+: H'
def record_Check.L7.b (v22 : AVal) (v21 : AVal) (x3_7 : AVal) (x21_7 : AVal) (H23 : AHeap) (Kn24 : List AVal → AHeap → Prop) (Ke25 : AExit → List AVal → AHeap → Prop) : Prop :=
 vb (aBin .lss x21_7 v22) fun v26 =>
 isB v26 fun b27 => cond b27
 (vb (aIndexAddr 2 v21 x21_7) fun v28 =>
 vb (aLoad H23 true 2 v28) fun v29 =>
 hb (aAlloc H23 [.int .i64 0, .str []]) fun v30 H31 =>
 sb (aStore H31 2 v30 v29) fun H32 =>
 JoinP (fun Kj33 => vb (aFieldAddr 0 v30) fun v34 =>
 vb (aLoad H32 false 1 v34) fun v35 =>
 vb (aBin .leq v35 x3_7) fun v36 =>
 isB v36 fun b37 => cond b37
 (Kj33 .ret [.int .i64 2] H32)
 (vb (aFieldAddr 0 v30) fun v38 =>
 vb (aLoad H32 false 1 v38) fun v39 =>
 vb (aBin .geq v39 (.int .i64 288)) fun v40 =>
 isB v40 fun b41 => cond b41
 (Kj33 .ret [.int .i64 2] H32)
 (vb (aFieldAddr 1 v30) fun v42 =>
 vb (aLoad H32 false 1 v42) fun v43 =>
 vb (lenSt v43) fun v44 =>
 vb (aBin .neq v44 (.int .i64 64)) fun v45 =>
 isB v45 fun b46 => cond b46
 (Kj33 .ret [.int .i64 2] H32)
 (Kj33 .normal [.undef] H32))))
 (fun e47 vs48 H49 =>
 onE e47 .normal
 (vb (aFieldAddr 0 v30) fun v50 =>
 vb (aLoad H49 false 1 v50) fun v51 =>
 vb (aBin .add x21_7 (.int .i64 1)) fun v52 =>
 Kn24 [v51, v52] H49)
 (onE e47 .ret
 (Ke25 .ret [vs48.getD 0 .undef] H49)
 (False))))
 (Ke25 (.exit 0) [.undef] H23)

def record_Check.L7 (v22 : AVal) (v21 : AVal) : Body := fun vs H Kn Ke => record_Check.L7.b v22 v21 (vs.getD 0 .undef) (vs.getD 1 .undef) H Kn Ke

def record_Check.w (x0 : AVal) (H : AHeap) (K : AVal → AHeap → Prop) : Prop :=
 hb (aBox H x0) fun v1 H2 =>
 vb (aFieldAddr 33 v1) fun v3 =>
 vb (aLoad H2 false 1 v3) fun v4 =>
 vb (lenSl v4) fun v5 =>
 vb (aBin .gtr v5 (.int .i64 64)) fun v6 =>
 isB v6 fun b7 => cond b7
 (fin .ret [.v (.int .i64 4)] H2 K)
 (JoinP (fun Kj8 => vb (aFieldAddr 0 v1) fun v9 =>
 vb (aLoad H2 false 1 v9) fun v10 =>
 vb (aBin .lss v10 (.int .i64 0)) fun v11 =>
 isB v11 fun b12 => cond b12
 (Kj8 .ret [.int .i64 2] H2)
 (vb (aFieldAddr 0 v1) fun v13 =>
 vb (aLoad H2 false 1 v13) fun v14 =>
 vb (aBin .gtr v14 (.int .i64 4294967295)) fun v15 =>
 isB v15 fun b16 => cond b16
 (Kj8 .ret [.int .i64 2] H2)
 (Kj8 .normal [.int .i64 0] H2)))
 (fun e17 vs18 H19 =>
 onE e17 .normal
 (vb (aFieldAddr 33 v1) fun v20 =>
 vb (aLoad H19 false 1 v20) fun v21 =>
 vb (lenSl v21) fun v22 =>
 LoopP (record_Check.L7 v22 v21) [.int .i64 160, .int .i64 0] H19 fun e53 vs54 H55 =>
 onE e53 (.exit 0)
 (fin .ret [.v (.int .i64 0)] H55 K)
 (onE e53 .ret
 (fin .ret [.v (vs54.getD 0 .undef)] H55 K)
 (False)))
 (onE e17 .ret
 (fin .ret [.v (vs18.getD 0 .undef)] H19 K)
 (False))))

def S_record_Check : Abs.Spec := fun args H r H' => ∃ x0 : AVal, args = [x0] ∧ (record_Check.w x0 H fun r1 H1 => r1 = r ∧ H1 = H') ∧ H <+: H'
def record_Length.w (x0 : AVal) (H : AHeap) (K : AVal → AHeap → Prop) : Prop :=
 JoinP (fun Kj1 => vb (aBin .lss x0 (.int .i64 0)) fun v2 =>
 isB v2 fun b3 => cond b3
 (Kj1 .ret [.int .i64 0] H)
 (vb (aBin .gtr x0 (.int .i64 64)) fun v4 =>
 isB v4 fun b5 => cond b5
 (Kj1 .ret [.int .i64 0] H)
 (Kj1 .normal [.int .i64 0] H)))
 (fun e6 vs7 H8 =>
 onE e6 .normal
 (vb (aBin .add x0 (.int .i64 32)) fun v9 =>
 vb (aBin .sub v9 (.int .i64 1)) fun v10 =>
 vb (aBin .quo v10 (.int .i64 32)) fun v11 =>
 vb (aBin .add (.int .i64 1) v11) fun v12 =>
 vb (aBin .add v12 x0) fun v13 =>
 fin .ret [.v (v13)] H8 K)
 (onE e6 .ret
 (fin .ret [.v (vs7.getD 0 .undef)] H8 K)
 (False)))

def S_record_Length : Abs.Spec := fun args H r H' => ∃ x0 : AVal, args = [x0] ∧ (record_Length.w x0 H fun r1 H1 => r1 = r ∧ H1 = H') ∧ H <+: H'
def record_block.w (x0 : AVal) (H : AHeap) (K : AVal → AHeap → Prop) : Prop :=
 cb (S_strings_Join [x0, .str []] H) fun v1 H2 =>
 cb (S_be_Pad [v1, .int .i64 64] H2) fun v3 H4 =>
 vb (aExtract v3 0) fun v5 =>
 vb (aExtract v3 1) fun v6 =>
 fin .ret [.v (v5)] H4 K

def S_record_block : Abs.Spec := fun args H r H' => ∃ x0 : AVal, args = [x0] ∧ (record_block.w x0 H fun r1 H1 => r1 = r ∧ H1 = H') ∧ H <+: H'
def record_Lay.L9.b (v32 : AVal) (v31 : AVal) (x10_9 : AVal) (x47_9 : AVal) (H33 : AHeap) (Kn34 : List AVal → AHeap → Prop) (Ke35 : AExit → List AVal → AHeap → Prop) : Prop :=
 vb (aBin .lss x47_9 v32) fun v36 =>
 isB v36 fun b37 => cond b37
 (vb (aIndexAddr 2 v31 x47_9) fun v38 =>
 vb (aLoad H33 true 2 v38) fun v39 =>
 hb (aAlloc H33 [.int .i64 0, .str []]) fun v40 H41 =>
 sb (aStore H41 2 v40 v39) fun H42 =>
 vb (aFieldAddr 0 v40) fun v43 =>
 vb (aLoad H42 false 1 v43) fun v44 =>
 hb (aBuildSlice H42 1 [.int .i64 0] 1 [(0, v44)]) fun v45 H46 =>
 hb (aAppendS H46 1 8 x10_9 v45) fun v47 H48 =>
 vb (aBin .add x47_9 (.int .i64 1)) fun v49 =>
 Kn34 [v47, v49] H48)
 (Ke35 (.exit 0) [x10_9] H33)

def record_Lay.L9 (v32 : AVal) (v31 : AVal) : Body := fun vs H Kn Ke => record_Lay.L9.b v32 v31 (vs.getD 0 .undef) (vs.getD 1 .undef) H Kn Ke

def record_Lay.L13.b (x9_13 : AVal) (x10_13 : AVal) (H53 : AHeap) (Kn54 : List AVal → AHeap → Prop) (Ke55 : AExit → List AVal → AHeap → Prop) : Prop :=
 vb (lenSl x10_13) fun v56 =>
 vb (aBin .gtr v56 (.int .i64 0)) fun v57 =>
 isB v57 fun b58 => cond b58
 (vb (lenSl x10_13) fun v59 =>
 vb (aFold aMin2 v59 [.int .i64 32]) fun v60 =>
 vb (aSlice H53 1 x10_13 none (some v60) (some v60)) fun v61 =>
 cb (S_be_Row [.int .i64 2, v61] H53) fun v62 H63 =>
 vb (aExtract v62 0) fun v64 =>
 vb (aExtract v62 1) fun v65 =>
 hb (aBuildSlice H63 1 [.str []] 1 [(0, v64)]) fun v66 H67 =>
 cb (S_record_block [v66] H67) fun v68 H69 =>
 hb (aBuildSlice H69 1 [.str []] 1 [(0, v68)]) fun v70 H71 =>
 hb (aAppendS H71 1 16 x9_13 v70) fun v72 H73 =>
 vb (aSlice H73 1 x10_13 (some v60) none none) fun v74 =>
 Kn54 [v72, v74] H73)
 (Ke55 (.exit 2) [x9_13] H53)

def record_Lay.L13 : Body := fun vs H Kn Ke => record_Lay.L13.b (vs.getD 0 .undef) (vs.getD 1 .undef) H Kn Ke

def record_Lay.L19.b (v80 : AVal) (v79 : AVal) (x9_19 : AVal) (x83_19 : AVal) (H81 : AHeap) (Kn82 : List AVal → AHeap → Prop) (Ke83 : AExit → List AVal → AHeap → Prop) : Prop :=
 vb (aBin .lss x83_19 v80) fun v84 =>
 isB v84 fun b85 => cond b85
 (vb (aIndexAddr 2 v79 x83_19) fun v86 =>
 vb (aLoad H81 true 2 v86) fun v87 =>
 hb (aAlloc H81 [.int .i64 0, .str []]) fun v88 H89 =>
 sb (aStore H89 2 v88 v87) fun H90 =>
 vb (aFieldAddr 1 v88) fun v91 =>
 vb (aLoad H90 false 1 v91) fun v92 =>
 hb (aBuildSlice H90 1 [.str []] 1 [(0, v92)]) fun v93 H94 =>
 hb (aAppendS H94 1 16 x9_19 v93) fun v95 H96 =>
 vb (aBin .add x83_19 (.int .i64 1)) fun v97 =>
 Kn82 [v95, v97] H96)
 (Ke83 (.exit 4) [x9_19] H81)

def record_Lay.L19 (v80 : AVal) (v79 : AVal) : Body := fun vs H Kn Ke => record_Lay.L19.b v80 v79 (vs.getD 0 .undef) (vs.getD 1 .undef) H Kn Ke

def record_Lay.w (x0 : AVal) (H : AHeap) (K : AVal → AHeap → Prop) : Prop :=
 hb (aBox H x0) fun v1 H2 =>
 vb (aLoad H2 true 34 v1) fun v3 =>
 cb (S_record_Check [v3] H2) fun v4 H5 =>
 vb (aBin .neq v4 (.int .i64 0)) fun v6 =>
 isB v6 fun b7 => cond b7
 (fin .ret [.v (.nils), .v (v4)] H5 K)
 (vb (aFieldAddr 0 v1) fun v8 =>
 vb (aLoad H5 false 1 v8) fun v9 =>
 cb (S_be_Put [v9, .int .i64 4] H5) fun v10 H11 =>
 vb (aExtract v10 0) fun v12 =>
 vb (aExtract v10 1) fun v13 =>
 vb (aFieldAddr 33 v1) fun v14 =>
 vb (aLoad H11 false 1 v14) fun v15 =>
 vb (lenSl v15) fun v16 =>
 cb (S_be_Put [v16, .int .i64 2] H11) fun v17 H18 =>
 vb (aExtract v17 0) fun v19 =>
 vb (aExtract v17 1) fun v20 =>
 vb (aFieldAddr 1 v1) fun v21 =>
 vb (aSliceArr 32 1 v21 none none none) fun v22 =>
 vb (aBytes2Str H18 v22) fun v23 =>
 hb (aBuildSlice H18 1 [.str []] 4 [(0, .str [114, 99]), (1, v12), (2, v19), (3, v23)]) fun v24 H25 =>
 cb (S_record_block [v24] H25) fun v26 H27 =>
 hb (aBuildSlice H27 1 [.str []] 1 [(0, v26)]) fun v28 H29 =>
 vb (aFieldAddr 33 v1) fun v30 =>
 vb (aLoad H29 false 1 v30) fun v31 =>
 vb (lenSl v31) fun v32 =>
 LoopP (record_Lay.L9 v32 v31) [.nils, .int .i64 0] H29 fun e50 vs51 H52 =>
 onE e50 (.exit 0)
 (LoopP record_Lay.L13 [v28, vs51.getD 0 .undef] H52 fun e75 vs76 H77 =>
 onE e75 (.exit 2)
 (vb (aFieldAddr 33 v1) fun v78 =>
 vb (aLoad H77 false 1 v78) fun v79 =>
 vb (lenSl v79) fun v80 =>
 LoopP (record_Lay.L19 v80 v79) [vs76.getD 0 .undef, .int .i64 0] H77 fun e98 vs99 H100 =>
 onE e98 (.exit 4)
 (fin .ret [.v (vs99.getD 0 .undef), .v (.int .i64 0)] H100 K)
 (False))
 (False))
 (False))

def S_record_Lay : Abs.Spec := fun args H r H' => ∃ x0 : AVal, args = [x0] ∧ (record_Lay.w x0 H fun r1 H1 => r1 = r ∧ H1 = H') ∧ H <+: H'
end Go.Sh

/- Records: what the program and the document say of them, in plain Lean. -/
namespace Go.Sh
open Go Go.Abs

/-- A number's so many last bytes, the greatest first. -/
def beB (w n : Nat) : List UInt8 := (List.range w).map fun i => UInt8.ofNat (n / 2 ^ (8 * (w - 1 - i)))
/-- The number of a row of bytes. -/
def numB (s : List UInt8) : Nat := s.foldl (fun n b => n * 256 + b.toNat) 0
end Go.Sh

/- Numbers as bytes: the program's, the document's. -/
namespace Go.Sh
open Go Go.Abs

section
variable {B : AHeap}
end
end Go.Sh

/- Numbers in rows; the document's numbers. -/
namespace Go.Sh
open Go Go.Abs

section
variable {H0 B : AHeap} {own : Nat → Prop} {R : List Part}
end
end Go.Sh

/- The document's numbers; the same texts? -/
namespace Go.Sh
open Go Go.Abs

section
variable {B : AHeap}
theorem view_row {B : AHeap} {i n : Nat} {kd : Kd} {cs : List AVal} (h : B[i]? = some (.cells 0 kd cs)) (hl : cs.length = n) : View B (.slice ⟨i, 0, 0⟩ n (.ex n)) 1 n cs :=
  ⟨by omega, .inr ⟨i, 0, 0, _, kd, cs, rfl, h, fun _ => by omega, by simp [← hl], Nat.le_refl _⟩⟩
end
end Go.Sh

/- Records over abstract values. -/
namespace Go.Sh
open Go Go.Abs

structure Pt where
  pos : Int
  b : List UInt8
  deriving DecidableEq
structure Rcd where
  seq : Int
  root : List UInt8
  puts : List Pt
  deriving DecidableEq
section
variable {H : AHeap} {K : AVal → Prop} {i v m : Nat} {kd : Kd} {q : Rcd} {x : AVal}
end
end Go.Sh

/- Are two records the same? -/
namespace Go.Sh
open Go Go.Abs

section
variable {B : AHeap}
end
end Go.Sh

/- May a record be? -/
namespace Go.Sh
open Go Go.Abs

def okP (last : Int) (p : Pt) : Prop := last < p.pos ∧ p.pos < 288 ∧ p.b.length = 64
instance (last : Int) (p : Pt) : Decidable (okP last p) := by unfold okP; infer_instance
def okF : Int → List Pt → Bool
  | _, [] => true
  | last, p :: l => decide (okP last p) && okF p.pos l
def okSeq (q : Rcd) : Prop := 0 ≤ q.seq ∧ q.seq ≤ 4294967295
instance (q : Rcd) : Decidable (okSeq q) := by unfold okSeq; infer_instance
def goodR (q : Rcd) : Bool := decide (okSeq q) && okF 160 q.puts
def lengthR (n : Int) : Int := if n < 0 ∨ 64 < n then 0 else 1 + (n + 31) / 32 + n
section
variable {B : AHeap}
end
end Go.Sh
