/- What Go functions come to over abstract values, printed by a program (wtext.py). -/
import Derived.Test.YtgcjchcmnlifmaaSha1
namespace Go.Sh
open Go Go.Abs

def sha_Hex.L3.b (v3 : AVal) (x3_3 : AVal) (x7_3 : AVal) (H4 : AHeap) (Kn5 : List AVal → AHeap → Prop) (Ke6 : AExit → List AVal → AHeap → Prop) : Prop :=
  vb (aBin .lss x7_3 (.int .i64 32)) fun v7 =>
  isB v7 fun b8 => cond b8
    (vb (aIndexArr 32 false 1 v3 x7_3) fun v9 =>
    vb (aBin .shr v9 (.int .u64 4)) fun v10 =>
    vb (aIndexStr (.str [48, 49, 50, 51, 52, 53, 54, 55, 56, 57, 97, 98, 99, 100, 101, 102]) v10) fun v11 =>
    vb (aBin .and v9 (.int .u8 15)) fun v12 =>
    vb (aIndexStr (.str [48, 49, 50, 51, 52, 53, 54, 55, 56, 57, 97, 98, 99, 100, 101, 102]) v12) fun v13 =>
    hb (aBuildSlice H4 1 [.int .u8 0] 2 [(0, v11), (1, v13)]) fun v14 H15 =>
    hb (aAppendS H15 1 1 x3_3 v14) fun v16 H17 =>
    vb (aBin .add x7_3 (.int .i64 1)) fun v18 =>
    Kn5 [v16, v18] H17)
    (Ke6 (.exit 0) [x3_3] H4)

def sha_Hex.L3 (v3 : AVal) : Body := fun vs H Kn Ke => sha_Hex.L3.b v3 (vs.getD 0 .undef) (vs.getD 1 .undef) H Kn Ke

def sha_Hex.w (x0 : AVal) (H : AHeap) (K : AVal → AHeap → Prop) : Prop :=
  hb (aBox H x0) fun v1 H2 =>
  vb (aLoad H2 true 32 v1) fun v3 =>
  LoopP (sha_Hex.L3 v3) [.nils, .int .i64 0] H2 fun e19 vs20 H21 =>
    onE e19 (.exit 0)
      (vb (aBytes2Str H21 (vs20.getD 0 .undef)) fun v22 =>
      fin .ret [.v (v22)] H21 K)
    (False)

def sha_New.w (H : AHeap) (K : AVal → AHeap → Prop) : Prop :=
  cb (S_sha_Words [] H) fun v1 H2 =>
  vb (aBuild [.int .u32 0, .int .u32 0, .int .u32 0, .int .u32 0, .int .u32 0, .int .u32 0, .int .u32 0, .int .u32 0, .nils, .int .i64 0] (fun k => ([(0, 8), (8, 1), (9, 1)] : List (Nat × Nat))[k]?) [(0, v1)]) fun v3 =>
  hb (aBox H2 v3) fun v4 H5 =>
  fin .ret [.v (v4)] H5 K

def sha_Hasher_Add.L5.b (x0 : AVal) (x5_5 : AVal) (H25 : AHeap) (Kn26 : List AVal → AHeap → Prop) (Ke27 : AExit → List AVal → AHeap → Prop) : Prop :=
  vb (lenSl x5_5) fun v28 =>
  vb (aBin .geq v28 (.int .i64 64)) fun v29 =>
  isB v29 fun b30 => cond b30
    (vb (aNilCheck x0) fun v31 =>
    vb (aFieldAddr 0 v31) fun v32 =>
    vb (aLoad H25 true 8 v32) fun v33 =>
    vb (aSlice H25 1 x5_5 none (some (.int .i64 64)) (some (.int .i64 64))) fun v34 =>
    vb (aBytes2Str H25 v34) fun v35 =>
    cb (S_sha_work [v33, v35] H25) fun v36 H37 =>
    vb (aNilCheck x0) fun v38 =>
    vb (aFieldAddr 0 v38) fun v39 =>
    sb (aStore H37 8 v39 v36) fun H40 =>
    vb (aSlice H40 1 x5_5 (some (.int .i64 64)) none none) fun v41 =>
    Kn26 [v41] H40)
    (Ke27 (.exit 0) [x5_5] H25)

def sha_Hasher_Add.L5 (x0 : AVal) : Body := fun vs H Kn Ke => sha_Hasher_Add.L5.b x0 (vs.getD 0 .undef) H Kn Ke

def sha_Hasher_Add.w (x0 : AVal) (x1 : AVal) (H : AHeap) (K : AVal → AHeap → Prop) : Prop :=
  vb (aEql false .ptr H x0 .nilp) fun v1 =>
  isB v1 fun b2 => cond b2
    (fin .ret [.v (.nilp)] H K)
    (vb (aNilCheck x0) fun v3 =>
    vb (aFieldAddr 9 v3) fun v4 =>
    vb (aLoad H false 1 v4) fun v5 =>
    vb (lenSt x1) fun v6 =>
    vb (aBin .add v5 v6) fun v7 =>
    vb (aNilCheck x0) fun v8 =>
    vb (aFieldAddr 9 v8) fun v9 =>
    sb (aStore H 1 v9 v7) fun H10 =>
    vb (aNilCheck x0) fun v11 =>
    vb (aFieldAddr 8 v11) fun v12 =>
    vb (aLoad H10 false 1 v12) fun v13 =>
    vb (aNilCheck x0) fun v14 =>
    vb (aFieldAddr 8 v14) fun v15 =>
    vb (aLoad H10 false 1 v15) fun v16 =>
    vb (lenSl v16) fun v17 =>
    vb (aNilCheck x0) fun v18 =>
    vb (aFieldAddr 8 v18) fun v19 =>
    vb (aLoad H10 false 1 v19) fun v20 =>
    vb (lenSl v20) fun v21 =>
    vb (aSlice H10 1 v13 none (some v17) (some v21)) fun v22 =>
    hb (aAppend H10 1 1 v22 x1) fun v23 H24 =>
    LoopP (sha_Hasher_Add.L5 x0) [v23] H24 fun e42 vs43 H44 =>
      onE e42 (.exit 0)
        (hb (aAppendS H44 1 1 .nils (vs43.getD 0 .undef)) fun v45 H46 =>
        vb (aNilCheck x0) fun v47 =>
        vb (aFieldAddr 8 v47) fun v48 =>
        sb (aStore H46 1 v48 v45) fun H49 =>
        fin .ret [.v (x0)] H49 K)
      (False))

def sha_Hasher_Digest_1.w (x0 : AVal) (x1 : AVal) (H : AHeap) (K : AVal → AHeap → Prop) : Prop :=
  vb (aLoad H true 8 x0) fun v1 =>
  vb (aLoad H false 1 x1) fun v2 =>
  vb (aSliceStr v2 none (some (.int .i64 64))) fun v3 =>
  cb (S_sha_work [v1, v3] H) fun v4 H5 =>
  sb (aStore H5 8 x0 v4) fun H6 =>
  vb (aLoad H6 false 1 x1) fun v7 =>
  vb (aSliceStr v7 (some (.int .i64 64)) none) fun v8 =>
  sb (aStore H6 1 x1 v8) fun H9 =>
  fin .normal [] H9 K

def sha_Hasher_Digest.L6.b (v18 : AVal) (v24 : AVal) (H27 : AHeap) (Kn28 : List AVal → AHeap → Prop) (Ke29 : AExit → List AVal → AHeap → Prop) : Prop :=
  vb (aLoad H27 false 1 v18) fun v30 =>
  vb (lenSt v30) fun v31 =>
  vb (aBin .gtr v31 (.int .i64 0)) fun v32 =>
  isB v32 fun b33 => cond b33
    (cb (S_sha_Hasher_Digest_1 [v24, v18] H27) fun v34 H35 =>
    Kn28 [] H35)
    (Ke29 (.exit 0) [] H27)

def sha_Hasher_Digest.L6 (v18 : AVal) (v24 : AVal) : Body := fun vs H Kn Ke => sha_Hasher_Digest.L6.b v18 v24 H Kn Ke

def sha_Hasher_Digest.w (x0 : AVal) (H : AHeap) (K : AVal → AHeap → Prop) : Prop :=
  hb (aAlloc H (List.replicate 32 (.int .u8 0))) fun v1 H2 =>
  vb (aEql false .ptr H2 x0 .nilp) fun v3 =>
  isB v3 fun b4 => cond b4
    (cb (S_sha_Sum [.str []] H2) fun v5 H6 =>
    sb (aStore H6 32 v1 v5) fun H7 =>
    fin .ret [.c true 32 (v1)] H7 K)
    (vb (aNilCheck x0) fun v8 =>
    vb (aFieldAddr 8 v8) fun v9 =>
    vb (aLoad H2 false 1 v9) fun v10 =>
    vb (aBytes2Str H2 v10) fun v11 =>
    vb (aNilCheck x0) fun v12 =>
    vb (aFieldAddr 9 v12) fun v13 =>
    vb (aLoad H2 false 1 v13) fun v14 =>
    cb (S_sha_tail [v14] H2) fun v15 H16 =>
    vb (aBin .add v11 v15) fun v17 =>
    hb (aAlloc H16 [.str []]) fun v18 H19 =>
    sb (aStore H19 1 v18 v17) fun H20 =>
    vb (aNilCheck x0) fun v21 =>
    vb (aFieldAddr 0 v21) fun v22 =>
    vb (aLoad H20 true 8 v22) fun v23 =>
    hb (aAlloc H20 (List.replicate 8 (.int .u32 0))) fun v24 H25 =>
    sb (aStore H25 8 v24 v23) fun H26 =>
    LoopP (sha_Hasher_Digest.L6 v18 v24) [] H26 fun e36 vs37 H38 =>
      onE e36 (.exit 0)
        (vb (aLoad H38 true 8 v24) fun v39 =>
        cb (S_sha_digest [v39] H38) fun v40 H41 =>
        sb (aStore H41 32 v1 v40) fun H42 =>
        fin .ret [.c true 32 (v1)] H42 K)
      (False))

def sha_Pad.w (x0 : AVal) (H : AHeap) (K : AVal → AHeap → Prop) : Prop :=
  vb (lenSt x0) fun v1 =>
  cb (S_sha_tail [v1] H) fun v2 H3 =>
  vb (aBin .add x0 v2) fun v4 =>
  fin .ret [.v (v4)] H3 K

def sha_Work.w (x0 : AVal) (x1 : AVal) (H : AHeap) (K : AVal → AHeap → Prop) : Prop :=
  hb (aBox H x0) fun v1 H2 =>
  hb (aAlloc H2 (List.replicate 8 (.int .u32 0))) fun v3 H4 =>
  vb (lenSt x1) fun v5 =>
  vb (aBin .neq v5 (.int .i64 64)) fun v6 =>
  isB v6 fun b7 => cond b7
    (vb (aBuild (List.replicate 8 (.int .u32 0)) (fun k => some (k * 1, 1)) []) fun v8 =>
    sb (aStore H4 8 v3 v8) fun H9 =>
    fin .ret [.c true 8 (v3), .v (.int .i64 6)] H9 K)
    (vb (aLoad H4 true 8 v1) fun v10 =>
    cb (S_sha_work [v10, x1] H4) fun v11 H12 =>
    sb (aStore H12 8 v3 v11) fun H13 =>
    fin .ret [.c true 8 (v3), .v (.int .i64 0)] H13 K)

def sha_Constant.w (x0 : AVal) (H : AHeap) (K : AVal → AHeap → Prop) : Prop :=
  cb (S_sha_constants [] H) fun v1 H2 =>
  hb (aAlloc H2 (List.replicate 64 (.int .u32 0))) fun v3 H4 =>
  sb (aStore H4 64 v3 v1) fun H5 =>
  JoinP (fun Kj6 => vb (aBin .lss x0 (.int .i64 0)) fun v7 =>
    isB v7 fun b8 => cond b8
      (vb (aPick (.bool true) (.bool true) .undef) fun v9 =>
        isB v9 fun b10 => cond b10
          (Kj6 .ret [.int .u32 0, .int .i64 3] H5)
          (Kj6 .normal [.int .u32 0, .int .i64 0] H5))
      (vb (aBin .geq x0 (.int .i64 64)) fun v11 =>
        vb (aPick (.bool false) (.bool true) v11) fun v12 =>
        isB v12 fun b13 => cond b13
          (Kj6 .ret [.int .u32 0, .int .i64 3] H5)
          (Kj6 .normal [.int .u32 0, .int .i64 0] H5)))
  (fun e14 vs15 H16 =>
    onE e14 .normal
      (vb (aIndexAddrArr 64 1 v3 x0) fun v17 =>
      vb (aLoad H16 false 1 v17) fun v18 =>
      fin .ret [.v (v18), .v (.int .i64 0)] H16 K)
    (onE e14 .ret
      (fin .ret [.v (vs15.getD 0 .undef), .v (vs15.getD 1 .undef)] H16 K)
    (False)))

def cellaretlaw03_awake.w (H : AHeap) (K : AVal → AHeap → Prop) : Prop :=
  cb (S_sha_Sum [.str [97, 98, 99]] H) fun v1 H2 =>
  cb (S_sha_Hex [v1] H2) fun v3 H4 =>
  vb (aBin .eql v3 (.str [98, 97, 55, 56, 49, 54, 98, 102, 56, 102, 48, 49, 99, 102, 101, 97, 52, 49, 52, 49, 52, 48, 100, 101, 53, 100, 97, 101, 50, 50, 50, 51, 98, 48, 48, 51, 54, 49, 97, 51, 57, 54, 49, 55, 55, 97, 57, 99, 98, 52, 49, 48, 102, 102, 54, 49, 102, 50, 48, 48, 49, 53, 97, 100])) fun v5 =>
  isB v5 fun b6 => cond b6
    (cb (S_sha_New [] H4) fun v7 H8 =>
    cb (S_sha_Hasher_Add [v7, .str [97]] H8) fun v9 H10 =>
      cb (S_sha_Hasher_Add [v9, .str [98, 99]] H10) fun v11 H12 =>
        cb (S_sha_Hasher_Digest [v11] H12) fun v13 H14 =>
          cb (S_sha_Sum [.str [97, 98, 99]] H14) fun v15 H16 =>
            vb (aEql false (.agg (List.replicate 32 .int)) H16 v13 v15) fun v17 =>
              vb (aPick (.bool true) v17 (.bool false)) fun v18 =>
              fin .ret [.v (v18)] H16 K)
    (vb (aPick (.bool false) .undef (.bool false)) fun v19 =>
              fin .ret [.v (v19)] H4 K)

def cellaretlaw03_ShaHex.L9.b (x4_5 : AVal) (v4 : AVal) (x5_9 : AVal) (x6_9 : AVal) (H14 : AHeap) (Kn15 : List AVal → AHeap → Prop) (Ke16 : AExit → List AVal → AHeap → Prop) : Prop :=
  vb (aBin .lss x6_9 (.int .i64 2)) fun v17 =>
  isB v17 fun b18 => cond b18
    (vb (aBin .mul (.int .i64 2) x4_5) fun v19 =>
    vb (aBin .add v19 x6_9) fun v20 =>
    vb (aIndexStr v4 v20) fun v21 =>
    vb (aInt2 .i64 v21) fun v22 =>
    JoinP (fun Kj23 => vb (aBin .geq v22 (.int .i64 97)) fun v24 =>
      isB v24 fun b25 => cond b25
        (vb (aBin .leq v22 (.int .i64 102)) fun v26 =>
          vb (aPick (.bool true) v26 (.bool false)) fun v27 =>
          isB v27 fun b28 => cond b28
            (vb (aBin .sub v22 (.int .i64 39)) fun v29 =>
            Kj23 .normal [v29] H14)
            (Kj23 .normal [v22] H14))
        (vb (aPick (.bool false) .undef (.bool false)) fun v30 =>
          isB v30 fun b31 => cond b31
            (vb (aBin .sub v22 (.int .i64 39)) fun v32 =>
            Kj23 .normal [v32] H14)
            (Kj23 .normal [v22] H14)))
    (fun e33 vs34 H35 =>
      onE e33 .normal
        (JoinP (fun Kj36 => vb (aBin .lss (vs34.getD 0 .undef) (.int .i64 48)) fun v37 =>
          isB v37 fun b38 => cond b38
            (vb (aPick (.bool true) (.bool true) .undef) fun v39 =>
              isB v39 fun b40 => cond b40
                (Kj36 .ret [.bool false] H35)
                (Kj36 .normal [.undef] H35))
            (vb (aBin .gtr (vs34.getD 0 .undef) (.int .i64 63)) fun v41 =>
              vb (aPick (.bool false) (.bool true) v41) fun v42 =>
              isB v42 fun b43 => cond b43
                (Kj36 .ret [.bool false] H35)
                (Kj36 .normal [.undef] H35)))
        (fun e44 vs45 H46 =>
          onE e44 .normal
            (vb (aBin .mul (.int .i64 16) x5_9) fun v47 =>
            vb (aBin .add v47 (vs34.getD 0 .undef)) fun v48 =>
            vb (aBin .sub v48 (.int .i64 48)) fun v49 =>
            vb (aBin .add x6_9 (.int .i64 1)) fun v50 =>
            Kn15 [v49, v50] H46)
          (onE e44 .ret
            (Ke16 .ret [vs45.getD 0 .undef, x5_9] H46)
          (False))))
      (False)))
    (Ke16 (.exit 2) [.undef, x5_9] H14)

def cellaretlaw03_ShaHex.L9 (x4_5 : AVal) (v4 : AVal) : Body := fun vs H Kn Ke => cellaretlaw03_ShaHex.L9.b x4_5 v4 (vs.getD 0 .undef) (vs.getD 1 .undef) H Kn Ke

def cellaretlaw03_ShaHex.L5.b (v4 : AVal) (v1 : AVal) (x4_5 : AVal) (H9 : AHeap) (Kn10 : List AVal → AHeap → Prop) (Ke11 : AExit → List AVal → AHeap → Prop) : Prop :=
  vb (aBin .lss x4_5 (.int .i64 32)) fun v12 =>
  isB v12 fun b13 => cond b13
    (LoopP (cellaretlaw03_ShaHex.L9 x4_5 v4) [.int .i64 0, .int .i64 0] H9 fun e51 vs52 H53 =>
      onE e51 (.exit 2)
        (vb (aIndexAddrArr 32 1 v1 x4_5) fun v54 =>
        vb (aLoad H53 false 1 v54) fun v55 =>
        vb (aInt2 .i64 v55) fun v56 =>
        vb (aBin .neq (vs52.getD 1 .undef) v56) fun v57 =>
        isB v57 fun b58 => cond b58
          (Ke11 .ret [.bool false] H53)
          (vb (aBin .add x4_5 (.int .i64 1)) fun v59 =>
          Kn10 [v59] H53))
      (onE e51 .ret
        (Ke11 .ret [vs52.getD 0 .undef] H53)
      (False)))
    (Ke11 (.exit 0) [.undef] H9)

def cellaretlaw03_ShaHex.L5 (v4 : AVal) (v1 : AVal) : Body := fun vs H Kn Ke => cellaretlaw03_ShaHex.L5.b v4 v1 (vs.getD 0 .undef) H Kn Ke

def cellaretlaw03_ShaHex.w (x0 : AVal) (H : AHeap) (K : AVal → AHeap → Prop) : Prop :=
  hb (aBox H x0) fun v1 H2 =>
  vb (aLoad H2 true 32 v1) fun v3 =>
  cb (S_sha_Hex [v3] H2) fun v4 H5 =>
  vb (lenSt v4) fun v6 =>
  vb (aBin .neq v6 (.int .i64 64)) fun v7 =>
  isB v7 fun b8 => cond b8
    (fin .ret [.v (.bool false)] H5 K)
    (LoopP (cellaretlaw03_ShaHex.L5 v4 v1) [.int .i64 0] H5 fun e60 vs61 H62 =>
      onE e60 (.exit 0)
        (cb (S_cellaretlaw03_awake [] H62) fun v63 H64 =>
        isB v63 fun b65 => cond b65
          (cb (S_sha_Hasher_Add [.nilp, v4] H64) fun v66 H67 =>
              vb (aEql false .ptr H67 v66 .nilp) fun v68 =>
                vb (aPick (.bool true) v68 (.bool false)) fun v69 =>
                isB v69 fun b70 => cond b70
                  (cb (S_sha_Hasher_Digest [.nilp] H67) fun v71 H72 =>
                    cb (S_sha_Sum [.str []] H72) fun v73 H74 =>
                      vb (aEql false (.agg (List.replicate 32 .int)) H74 v71 v73) fun v75 =>
                        vb (aPick (.bool true) v75 (.bool false)) fun v76 =>
                        fin .ret [.v (v76)] H74 K)
                  (vb (aPick (.bool false) .undef (.bool false)) fun v77 =>
                        fin .ret [.v (v77)] H67 K))
          (vb (aPick (.bool false) .undef (.bool false)) fun v78 =>
                isB v78 fun b79 => cond b79
                  (cb (S_sha_Hasher_Digest [.nilp] H64) fun v80 H81 =>
                    cb (S_sha_Sum [.str []] H81) fun v82 H83 =>
                      vb (aEql false (.agg (List.replicate 32 .int)) H83 v80 v82) fun v84 =>
                        vb (aPick (.bool true) v84 (.bool false)) fun v85 =>
                        fin .ret [.v (v85)] H83 K)
                  (vb (aPick (.bool false) .undef (.bool false)) fun v86 =>
                        fin .ret [.v (v86)] H64 K)))
      (onE e60 .ret
        (fin .ret [.v (vs61.getD 0 .undef)] H62 K)
      (False)))

def cellaretlaw03_ShaParts.L4.b (x0 : AVal) (v1 : AVal) (x4_4 : AVal) (x5_4 : AVal) (H3 : AHeap) (Kn4 : List AVal → AHeap → Prop) (Ke5 : AExit → List AVal → AHeap → Prop) : Prop :=
  JoinP (fun Kj6 => vb (lenSl x0) fun v7 =>
    vb (aBin .lss x5_4 v7) fun v8 =>
    isB v8 fun b9 => cond b9
      (vb (aBin .lss x5_4 (.int .i64 20)) fun v10 =>
        vb (aPick (.bool true) v10 (.bool false)) fun v11 =>
        isB v11 fun b12 => cond b12
          (Kj6 .normal [] H3)
          (Kj6 (.exit 0) [] H3))
      (vb (aPick (.bool false) .undef (.bool false)) fun v13 =>
        isB v13 fun b14 => cond b14
          (Kj6 .normal [] H3)
          (Kj6 (.exit 0) [] H3)))
  (fun e15 vs16 H17 =>
    onE e15 (.exit 0)
      (Ke5 (.exit 0) [.undef, x4_4] H17)
    (onE e15 .normal
      (vb (aIndexAddr 1 x0 x5_4) fun v18 =>
      vb (aLoad H17 false 1 v18) fun v19 =>
      vb (lenSt v19) fun v20 =>
      vb (aBin .gtr v20 (.int .i64 500)) fun v21 =>
      isB v21 fun b22 => cond b22
        (vb (aBin .add x5_4 (.int .i64 1)) fun v23 =>
        Kn4 [x4_4, v23] H17)
        (vb (aIndexAddr 1 x0 x5_4) fun v24 =>
        vb (aLoad H17 false 1 v24) fun v25 =>
        vb (aBin .add x4_4 v25) fun v26 =>
        vb (aIndexAddr 1 x0 x5_4) fun v27 =>
        vb (aLoad H17 false 1 v27) fun v28 =>
        cb (S_sha_Hasher_Add [v1, v28] H17) fun v29 H30 =>
        vb (aEql true .ptr H30 v29 v1) fun v31 =>
        isB v31 fun b32 => cond b32
          (vb (aPick (.bool true) (.bool true) .undef) fun v33 =>
                  isB v33 fun b34 => cond b34
                    (Ke5 .ret [.bool false, v26] H30)
                    (vb (aBin .add x5_4 (.int .i64 1)) fun v35 =>
                    Kn4 [v26, v35] H30))
          (cb (S_sha_Hasher_Digest [v1] H30) fun v36 H37 =>
            cb (S_sha_Sum [v26] H37) fun v38 H39 =>
                vb (aEql true (.agg (List.replicate 32 .int)) H39 v36 v38) fun v40 =>
                  vb (aPick (.bool false) (.bool true) v40) fun v41 =>
                  isB v41 fun b42 => cond b42
                    (Ke5 .ret [.bool false, v26] H39)
                    (vb (aBin .add x5_4 (.int .i64 1)) fun v43 =>
                    Kn4 [v26, v43] H39))))
    (False)))

def cellaretlaw03_ShaParts.L4 (x0 : AVal) (v1 : AVal) : Body := fun vs H Kn Ke => cellaretlaw03_ShaParts.L4.b x0 v1 (vs.getD 0 .undef) (vs.getD 1 .undef) H Kn Ke

def cellaretlaw03_ShaParts.w (x0 : AVal) (H : AHeap) (K : AVal → AHeap → Prop) : Prop :=
  cb (S_sha_New [] H) fun v1 H2 =>
  LoopP (cellaretlaw03_ShaParts.L4 x0 v1) [.str [], .int .i64 0] H2 fun e44 vs45 H46 =>
    onE e44 (.exit 0)
      (cb (S_cellaretlaw03_awake [] H46) fun v47 H48 =>
      isB v47 fun b49 => cond b49
        (cb (S_sha_Hasher_Digest [v1] H48) fun v50 H51 =>
          cb (S_sha_Sum [vs45.getD 1 .undef] H51) fun v52 H53 =>
              vb (aEql false (.agg (List.replicate 32 .int)) H53 v50 v52) fun v54 =>
                vb (aPick (.bool true) v54 (.bool false)) fun v55 =>
                fin .ret [.v (v55)] H53 K)
        (vb (aPick (.bool false) .undef (.bool false)) fun v56 =>
                fin .ret [.v (v56)] H48 K))
    (onE e44 .ret
      (fin .ret [.v (vs45.getD 0 .undef)] H46 K)
    (False))

end Go.Sh
