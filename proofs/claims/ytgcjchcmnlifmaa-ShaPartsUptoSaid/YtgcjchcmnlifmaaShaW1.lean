/- What Go functions come to over abstract values, printed by a program (wtext.py). -/
import Derived.Test.YtgcjchcmnlifmaaSha0
namespace Go.Sh
open Go Go.Abs

def sha_Words.w (H : AHeap) (K : AVal → AHeap → Prop) : Prop :=
  hb (aAlloc H (List.replicate 8 (.int .u32 0))) fun v1 H2 =>
  vb (aBuild (List.replicate 8 (.int .u32 0)) (fun k => some (k * 1, 1)) [(0, .int .u32 1779033703), (1, .int .u32 3144134277), (2, .int .u32 1013904242), (3, .int .u32 2773480762), (4, .int .u32 1359893119), (5, .int .u32 2600822924), (6, .int .u32 528734635), (7, .int .u32 1541459225)]) fun v3 =>
  sb (aStore H2 8 v1 v3) fun H4 =>
  fin .ret [.c true 8 (v1)] H4 K

def sha_constants.w (H : AHeap) (K : AVal → AHeap → Prop) : Prop :=
  hb (aAlloc H (List.replicate 64 (.int .u32 0))) fun v1 H2 =>
  vb (aBuild (List.replicate 64 (.int .u32 0)) (fun k => some (k * 1, 1)) [(0, .int .u32 1116352408), (1, .int .u32 1899447441), (2, .int .u32 3049323471), (3, .int .u32 3921009573), (4, .int .u32 961987163), (5, .int .u32 1508970993), (6, .int .u32 2453635748), (7, .int .u32 2870763221), (8, .int .u32 3624381080), (9, .int .u32 310598401), (10, .int .u32 607225278), (11, .int .u32 1426881987), (12, .int .u32 1925078388), (13, .int .u32 2162078206), (14, .int .u32 2614888103), (15, .int .u32 3248222580), (16, .int .u32 3835390401), (17, .int .u32 4022224774), (18, .int .u32 264347078), (19, .int .u32 604807628), (20, .int .u32 770255983), (21, .int .u32 1249150122), (22, .int .u32 1555081692), (23, .int .u32 1996064986), (24, .int .u32 2554220882), (25, .int .u32 2821834349), (26, .int .u32 2952996808), (27, .int .u32 3210313671), (28, .int .u32 3336571891), (29, .int .u32 3584528711), (30, .int .u32 113926993), (31, .int .u32 338241895), (32, .int .u32 666307205), (33, .int .u32 773529912), (34, .int .u32 1294757372), (35, .int .u32 1396182291), (36, .int .u32 1695183700), (37, .int .u32 1986661051), (38, .int .u32 2177026350), (39, .int .u32 2456956037), (40, .int .u32 2730485921), (41, .int .u32 2820302411), (42, .int .u32 3259730800), (43, .int .u32 3345764771), (44, .int .u32 3516065817), (45, .int .u32 3600352804), (46, .int .u32 4094571909), (47, .int .u32 275423344), (48, .int .u32 430227734), (49, .int .u32 506948616), (50, .int .u32 659060556), (51, .int .u32 883997877), (52, .int .u32 958139571), (53, .int .u32 1322822218), (54, .int .u32 1537002063), (55, .int .u32 1747873779), (56, .int .u32 1955562222), (57, .int .u32 2024104815), (58, .int .u32 2227730452), (59, .int .u32 2361852424), (60, .int .u32 2428436474), (61, .int .u32 2756734187), (62, .int .u32 3204031479), (63, .int .u32 3329325298)]) fun v3 =>
  sb (aStore H2 64 v1 v3) fun H4 =>
  fin .ret [.c true 64 (v1)] H4 K

def sha_work.L3.b (x1 : AVal) (v5 : AVal) (x26_3 : AVal) (H7 : AHeap) (Kn8 : List AVal → AHeap → Prop) (Ke9 : AExit → List AVal → AHeap → Prop) : Prop :=
  vb (aBin .lss x26_3 (.int .i64 16)) fun v10 =>
  isB v10 fun b11 => cond b11
    (vb (aBin .mul (.int .i64 4) x26_3) fun v12 =>
    vb (aIndexStr x1 v12) fun v13 =>
    vb (aInt2 .u32 v13) fun v14 =>
    vb (aBin .shl v14 (.int .u64 24)) fun v15 =>
    vb (aBin .mul (.int .i64 4) x26_3) fun v16 =>
    vb (aBin .add v16 (.int .i64 1)) fun v17 =>
    vb (aIndexStr x1 v17) fun v18 =>
    vb (aInt2 .u32 v18) fun v19 =>
    vb (aBin .shl v19 (.int .u64 16)) fun v20 =>
    vb (aBin .or v15 v20) fun v21 =>
    vb (aBin .mul (.int .i64 4) x26_3) fun v22 =>
    vb (aBin .add v22 (.int .i64 2)) fun v23 =>
    vb (aIndexStr x1 v23) fun v24 =>
    vb (aInt2 .u32 v24) fun v25 =>
    vb (aBin .shl v25 (.int .u64 8)) fun v26 =>
    vb (aBin .or v21 v26) fun v27 =>
    vb (aBin .mul (.int .i64 4) x26_3) fun v28 =>
    vb (aBin .add v28 (.int .i64 3)) fun v29 =>
    vb (aIndexStr x1 v29) fun v30 =>
    vb (aInt2 .u32 v30) fun v31 =>
    vb (aBin .or v27 v31) fun v32 =>
    vb (aIndexAddrArr 64 1 v5 x26_3) fun v33 =>
    sb (aStore H7 1 v33 v32) fun H34 =>
    vb (aBin .add x26_3 (.int .i64 1)) fun v35 =>
    Kn8 [v35] H34)
    (Ke9 (.exit 0) [] H7)

def sha_work.L3 (x1 : AVal) (v5 : AVal) : Body := fun vs H Kn Ke => sha_work.L3.b x1 v5 (vs.getD 0 .undef) H Kn Ke

def sha_work.L8.b (v5 : AVal) (x7_8 : AVal) (H39 : AHeap) (Kn40 : List AVal → AHeap → Prop) (Ke41 : AExit → List AVal → AHeap → Prop) : Prop :=
  vb (aBin .lss x7_8 (.int .i64 64)) fun v42 =>
  isB v42 fun b43 => cond b43
    (vb (aBin .sub x7_8 (.int .i64 15)) fun v44 =>
    vb (aIndexAddrArr 64 1 v5 v44) fun v45 =>
    vb (aLoad H39 false 1 v45) fun v46 =>
    vb (aBin .sub x7_8 (.int .i64 2)) fun v47 =>
    vb (aIndexAddrArr 64 1 v5 v47) fun v48 =>
    vb (aLoad H39 false 1 v48) fun v49 =>
    vb (aBin .shr v46 (.int .u64 7)) fun v50 =>
    vb (aBin .shl v46 (.int .u64 25)) fun v51 =>
    vb (aBin .or v50 v51) fun v52 =>
    vb (aBin .shr v46 (.int .u64 18)) fun v53 =>
    vb (aBin .shl v46 (.int .u64 14)) fun v54 =>
    vb (aBin .or v53 v54) fun v55 =>
    vb (aBin .xor v52 v55) fun v56 =>
    vb (aBin .shr v46 (.int .u64 3)) fun v57 =>
    vb (aBin .xor v56 v57) fun v58 =>
    vb (aBin .shr v49 (.int .u64 17)) fun v59 =>
    vb (aBin .shl v49 (.int .u64 15)) fun v60 =>
    vb (aBin .or v59 v60) fun v61 =>
    vb (aBin .shr v49 (.int .u64 19)) fun v62 =>
    vb (aBin .shl v49 (.int .u64 13)) fun v63 =>
    vb (aBin .or v62 v63) fun v64 =>
    vb (aBin .xor v61 v64) fun v65 =>
    vb (aBin .shr v49 (.int .u64 10)) fun v66 =>
    vb (aBin .xor v65 v66) fun v67 =>
    vb (aBin .sub x7_8 (.int .i64 16)) fun v68 =>
    vb (aIndexAddrArr 64 1 v5 v68) fun v69 =>
    vb (aLoad H39 false 1 v69) fun v70 =>
    vb (aBin .add v70 v58) fun v71 =>
    vb (aBin .sub x7_8 (.int .i64 7)) fun v72 =>
    vb (aIndexAddrArr 64 1 v5 v72) fun v73 =>
    vb (aLoad H39 false 1 v73) fun v74 =>
    vb (aBin .add v71 v74) fun v75 =>
    vb (aBin .add v75 v67) fun v76 =>
    vb (aIndexAddrArr 64 1 v5 x7_8) fun v77 =>
    sb (aStore H39 1 v77 v76) fun H78 =>
    vb (aBin .add x7_8 (.int .i64 1)) fun v79 =>
    Kn40 [v79] H78)
    (Ke41 (.exit 2) [] H39)

def sha_work.L8 (v5 : AVal) : Body := fun vs H Kn Ke => sha_work.L8.b v5 (vs.getD 0 .undef) H Kn Ke

def sha_work.L17.b (v85 : AVal) (v5 : AVal) (x13_17 : AVal) (x14_17 : AVal) (x15_17 : AVal) (x16_17 : AVal) (x17_17 : AVal) (x18_17 : AVal) (x19_17 : AVal) (x20_17 : AVal) (x133_17 : AVal) (H104 : AHeap) (Kn105 : List AVal → AHeap → Prop) (Ke106 : AExit → List AVal → AHeap → Prop) : Prop :=
  vb (aBin .lss x133_17 (.int .i64 64)) fun v107 =>
  isB v107 fun b108 => cond b108
    (vb (aBin .shr x17_17 (.int .u64 6)) fun v109 =>
    vb (aBin .shl x17_17 (.int .u64 26)) fun v110 =>
    vb (aBin .or v109 v110) fun v111 =>
    vb (aBin .shr x17_17 (.int .u64 11)) fun v112 =>
    vb (aBin .shl x17_17 (.int .u64 21)) fun v113 =>
    vb (aBin .or v112 v113) fun v114 =>
    vb (aBin .xor v111 v114) fun v115 =>
    vb (aBin .shr x17_17 (.int .u64 25)) fun v116 =>
    vb (aBin .shl x17_17 (.int .u64 7)) fun v117 =>
    vb (aBin .or v116 v117) fun v118 =>
    vb (aBin .xor v115 v118) fun v119 =>
    vb (aBin .add x20_17 v119) fun v120 =>
    vb (aBin .and x17_17 x18_17) fun v121 =>
    vb (aUn .xor x17_17) fun v122 =>
    vb (aBin .and v122 x19_17) fun v123 =>
    vb (aBin .xor v121 v123) fun v124 =>
    vb (aBin .add v120 v124) fun v125 =>
    vb (aIndexAddrArr 64 1 v85 x133_17) fun v126 =>
    vb (aLoad H104 false 1 v126) fun v127 =>
    vb (aBin .add v125 v127) fun v128 =>
    vb (aIndexAddrArr 64 1 v5 x133_17) fun v129 =>
    vb (aLoad H104 false 1 v129) fun v130 =>
    vb (aBin .add v128 v130) fun v131 =>
    vb (aBin .shr x13_17 (.int .u64 2)) fun v132 =>
    vb (aBin .shl x13_17 (.int .u64 30)) fun v133 =>
    vb (aBin .or v132 v133) fun v134 =>
    vb (aBin .shr x13_17 (.int .u64 13)) fun v135 =>
    vb (aBin .shl x13_17 (.int .u64 19)) fun v136 =>
    vb (aBin .or v135 v136) fun v137 =>
    vb (aBin .xor v134 v137) fun v138 =>
    vb (aBin .shr x13_17 (.int .u64 22)) fun v139 =>
    vb (aBin .shl x13_17 (.int .u64 10)) fun v140 =>
    vb (aBin .or v139 v140) fun v141 =>
    vb (aBin .xor v138 v141) fun v142 =>
    vb (aBin .and x13_17 x14_17) fun v143 =>
    vb (aBin .and x13_17 x15_17) fun v144 =>
    vb (aBin .xor v143 v144) fun v145 =>
    vb (aBin .and x14_17 x15_17) fun v146 =>
    vb (aBin .xor v145 v146) fun v147 =>
    vb (aBin .add v142 v147) fun v148 =>
    vb (aBin .add x16_17 v131) fun v149 =>
    vb (aBin .add v131 v148) fun v150 =>
    vb (aBin .add x133_17 (.int .i64 1)) fun v151 =>
    Kn105 [v150, x13_17, x14_17, x15_17, v149, x17_17, x18_17, x19_17, v151] H104)
    (Ke106 (.exit 4) [x13_17, x14_17, x15_17, x16_17, x17_17, x18_17, x19_17, x20_17] H104)

def sha_work.L17 (v85 : AVal) (v5 : AVal) : Body := fun vs H Kn Ke => sha_work.L17.b v85 v5 (vs.getD 0 .undef) (vs.getD 1 .undef) (vs.getD 2 .undef) (vs.getD 3 .undef) (vs.getD 4 .undef) (vs.getD 5 .undef) (vs.getD 6 .undef) (vs.getD 7 .undef) (vs.getD 8 .undef) H Kn Ke

def sha_work.w (x0 : AVal) (x1 : AVal) (H : AHeap) (K : AVal → AHeap → Prop) : Prop :=
  hb (aBox H x0) fun v1 H2 =>
  hb (aAlloc H2 (List.replicate 8 (.int .u32 0))) fun v3 H4 =>
  hb (aAlloc H4 (List.replicate 64 (.int .u32 0))) fun v5 H6 =>
  LoopP (sha_work.L3 x1 v5) [.int .i64 0] H6 fun e36 vs37 H38 =>
    onE e36 (.exit 0)
      (LoopP (sha_work.L8 v5) [.int .i64 16] H38 fun e80 vs81 H82 =>
        onE e80 (.exit 2)
          (cb (S_sha_constants [] H82) fun v83 H84 =>
          hb (aAlloc H84 (List.replicate 64 (.int .u32 0))) fun v85 H86 =>
          sb (aStore H86 64 v85 v83) fun H87 =>
          vb (aIndexAddrArr 8 1 v1 (.int .i64 0)) fun v88 =>
          vb (aLoad H87 false 1 v88) fun v89 =>
          vb (aIndexAddrArr 8 1 v1 (.int .i64 1)) fun v90 =>
          vb (aLoad H87 false 1 v90) fun v91 =>
          vb (aIndexAddrArr 8 1 v1 (.int .i64 2)) fun v92 =>
          vb (aLoad H87 false 1 v92) fun v93 =>
          vb (aIndexAddrArr 8 1 v1 (.int .i64 3)) fun v94 =>
          vb (aLoad H87 false 1 v94) fun v95 =>
          vb (aIndexAddrArr 8 1 v1 (.int .i64 4)) fun v96 =>
          vb (aLoad H87 false 1 v96) fun v97 =>
          vb (aIndexAddrArr 8 1 v1 (.int .i64 5)) fun v98 =>
          vb (aLoad H87 false 1 v98) fun v99 =>
          vb (aIndexAddrArr 8 1 v1 (.int .i64 6)) fun v100 =>
          vb (aLoad H87 false 1 v100) fun v101 =>
          vb (aIndexAddrArr 8 1 v1 (.int .i64 7)) fun v102 =>
          vb (aLoad H87 false 1 v102) fun v103 =>
          LoopP (sha_work.L17 v85 v5) [v89, v91, v93, v95, v97, v99, v101, v103, .int .i64 0] H87 fun e152 vs153 H154 =>
            onE e152 (.exit 4)
              (vb (aIndexAddrArr 8 1 v1 (.int .i64 0)) fun v155 =>
              vb (aLoad H154 false 1 v155) fun v156 =>
              vb (aBin .add v156 (vs153.getD 0 .undef)) fun v157 =>
              vb (aIndexAddrArr 8 1 v1 (.int .i64 1)) fun v158 =>
              vb (aLoad H154 false 1 v158) fun v159 =>
              vb (aBin .add v159 (vs153.getD 1 .undef)) fun v160 =>
              vb (aIndexAddrArr 8 1 v1 (.int .i64 2)) fun v161 =>
              vb (aLoad H154 false 1 v161) fun v162 =>
              vb (aBin .add v162 (vs153.getD 2 .undef)) fun v163 =>
              vb (aIndexAddrArr 8 1 v1 (.int .i64 3)) fun v164 =>
              vb (aLoad H154 false 1 v164) fun v165 =>
              vb (aBin .add v165 (vs153.getD 3 .undef)) fun v166 =>
              vb (aIndexAddrArr 8 1 v1 (.int .i64 4)) fun v167 =>
              vb (aLoad H154 false 1 v167) fun v168 =>
              vb (aBin .add v168 (vs153.getD 4 .undef)) fun v169 =>
              vb (aIndexAddrArr 8 1 v1 (.int .i64 5)) fun v170 =>
              vb (aLoad H154 false 1 v170) fun v171 =>
              vb (aBin .add v171 (vs153.getD 5 .undef)) fun v172 =>
              vb (aIndexAddrArr 8 1 v1 (.int .i64 6)) fun v173 =>
              vb (aLoad H154 false 1 v173) fun v174 =>
              vb (aBin .add v174 (vs153.getD 6 .undef)) fun v175 =>
              vb (aIndexAddrArr 8 1 v1 (.int .i64 7)) fun v176 =>
              vb (aLoad H154 false 1 v176) fun v177 =>
              vb (aBin .add v177 (vs153.getD 7 .undef)) fun v178 =>
              vb (aBuild (List.replicate 8 (.int .u32 0)) (fun k => some (k * 1, 1)) [(0, v157), (1, v160), (2, v163), (3, v166), (4, v169), (5, v172), (6, v175), (7, v178)]) fun v179 =>
              sb (aStore H154 8 v3 v179) fun H180 =>
              fin .ret [.c true 8 (v3)] H180 K)
            (False))
        (False))
    (False)

def sha_tail.L2.b (x0 : AVal) (x3_2 : AVal) (H3 : AHeap) (Kn4 : List AVal → AHeap → Prop) (Ke5 : AExit → List AVal → AHeap → Prop) : Prop :=
  vb (lenSl x3_2) fun v6 =>
  vb (aBin .add x0 v6) fun v7 =>
  vb (aBin .rem v7 (.int .i64 64)) fun v8 =>
  vb (aBin .neq v8 (.int .i64 56)) fun v9 =>
  isB v9 fun b10 => cond b10
    (hb (aBuildSlice H3 1 [.int .u8 0] 1 [(0, .int .u8 0)]) fun v11 H12 =>
    hb (aAppendS H12 1 1 x3_2 v11) fun v13 H14 =>
    Kn4 [v13] H14)
    (Ke5 (.exit 0) [x3_2] H3)

def sha_tail.L2 (x0 : AVal) : Body := fun vs H Kn Ke => sha_tail.L2.b x0 (vs.getD 0 .undef) H Kn Ke

def sha_tail.L6.b (v19 : AVal) (x3_6 : AVal) (x5_6 : AVal) (H20 : AHeap) (Kn21 : List AVal → AHeap → Prop) (Ke22 : AExit → List AVal → AHeap → Prop) : Prop :=
  vb (aBin .geq x5_6 (.int .i64 0)) fun v23 =>
  isB v23 fun b24 => cond b24
    (vb (aBin .shr v19 x5_6) fun v25 =>
    vb (aInt2 .u8 v25) fun v26 =>
    hb (aBuildSlice H20 1 [.int .u8 0] 1 [(0, v26)]) fun v27 H28 =>
    hb (aAppendS H28 1 1 x3_6 v27) fun v29 H30 =>
    vb (aBin .sub x5_6 (.int .i64 8)) fun v31 =>
    Kn21 [v29, v31] H30)
    (Ke22 (.exit 2) [x3_6] H20)

def sha_tail.L6 (v19 : AVal) : Body := fun vs H Kn Ke => sha_tail.L6.b v19 (vs.getD 0 .undef) (vs.getD 1 .undef) H Kn Ke

def sha_tail.w (x0 : AVal) (H : AHeap) (K : AVal → AHeap → Prop) : Prop :=
  hb (aBuildSlice H 1 [.int .u8 0] 1 [(0, .int .u8 128)]) fun v1 H2 =>
  LoopP (sha_tail.L2 x0) [v1] H2 fun e15 vs16 H17 =>
    onE e15 (.exit 0)
      (vb (aInt2 .u64 x0) fun v18 =>
      vb (aBin .mul v18 (.int .u64 8)) fun v19 =>
      LoopP (sha_tail.L6 v19) [vs16.getD 0 .undef, .int .i64 56] H17 fun e32 vs33 H34 =>
        onE e32 (.exit 2)
          (vb (aBytes2Str H34 (vs33.getD 0 .undef)) fun v35 =>
          fin .ret [.v (v35)] H34 K)
        (False))
    (False)

def sha_digest.L3.b (v7 : AVal) (v5 : AVal) (x7_3 : AVal) (H8 : AHeap) (Kn9 : List AVal → AHeap → Prop) (Ke10 : AExit → List AVal → AHeap → Prop) : Prop :=
  vb (aBin .lss x7_3 (.int .i64 8)) fun v11 =>
  isB v11 fun b12 => cond b12
    (vb (aIndexArr 8 false 1 v7 x7_3) fun v13 =>
    vb (aBin .mul (.int .i64 4) x7_3) fun v14 =>
    vb (aBin .mul (.int .i64 4) x7_3) fun v15 =>
    vb (aBin .add v15 (.int .i64 1)) fun v16 =>
    vb (aBin .mul (.int .i64 4) x7_3) fun v17 =>
    vb (aBin .add v17 (.int .i64 2)) fun v18 =>
    vb (aBin .mul (.int .i64 4) x7_3) fun v19 =>
    vb (aBin .add v19 (.int .i64 3)) fun v20 =>
    vb (aBin .shr v13 (.int .u64 24)) fun v21 =>
    vb (aInt2 .u8 v21) fun v22 =>
    vb (aBin .shr v13 (.int .u64 16)) fun v23 =>
    vb (aInt2 .u8 v23) fun v24 =>
    vb (aBin .shr v13 (.int .u64 8)) fun v25 =>
    vb (aInt2 .u8 v25) fun v26 =>
    vb (aInt2 .u8 v13) fun v27 =>
    vb (aIndexAddrArr 32 1 v5 v14) fun v28 =>
    sb (aStore H8 1 v28 v22) fun H29 =>
    vb (aIndexAddrArr 32 1 v5 v16) fun v30 =>
    sb (aStore H29 1 v30 v24) fun H31 =>
    vb (aIndexAddrArr 32 1 v5 v18) fun v32 =>
    sb (aStore H31 1 v32 v26) fun H33 =>
    vb (aIndexAddrArr 32 1 v5 v20) fun v34 =>
    sb (aStore H33 1 v34 v27) fun H35 =>
    vb (aBin .add x7_3 (.int .i64 1)) fun v36 =>
    Kn9 [v36] H35)
    (Ke10 (.exit 0) [] H8)

def sha_digest.L3 (v7 : AVal) (v5 : AVal) : Body := fun vs H Kn Ke => sha_digest.L3.b v7 v5 (vs.getD 0 .undef) H Kn Ke

def sha_digest.w (x0 : AVal) (H : AHeap) (K : AVal → AHeap → Prop) : Prop :=
  hb (aBox H x0) fun v1 H2 =>
  hb (aAlloc H2 (List.replicate 32 (.int .u8 0))) fun v3 H4 =>
  hb (aAlloc H4 (List.replicate 32 (.int .u8 0))) fun v5 H6 =>
  vb (aLoad H6 true 8 v1) fun v7 =>
  LoopP (sha_digest.L3 v7 v5) [.int .i64 0] H6 fun e37 vs38 H39 =>
    onE e37 (.exit 0)
      (vb (aLoad H39 true 32 v5) fun v40 =>
      sb (aStore H39 32 v3 v40) fun H41 =>
      fin .ret [.c true 32 (v3)] H41 K)
    (False)

def sha_Sum.L3.b (v5 : AVal) (x0_3 : AVal) (H9 : AHeap) (Kn10 : List AVal → AHeap → Prop) (Ke11 : AExit → List AVal → AHeap → Prop) : Prop :=
  vb (lenSt x0_3) fun v12 =>
  vb (aBin .geq v12 (.int .i64 64)) fun v13 =>
  isB v13 fun b14 => cond b14
    (vb (aLoad H9 true 8 v5) fun v15 =>
    vb (aSliceStr x0_3 none (some (.int .i64 64))) fun v16 =>
    cb (S_sha_work [v15, v16] H9) fun v17 H18 =>
    sb (aStore H18 8 v5 v17) fun H19 =>
    vb (aSliceStr x0_3 (some (.int .i64 64)) none) fun v20 =>
    Kn10 [v20] H19)
    (Ke11 (.exit 0) [x0_3] H9)

def sha_Sum.L3 (v5 : AVal) : Body := fun vs H Kn Ke => sha_Sum.L3.b v5 (vs.getD 0 .undef) H Kn Ke

def sha_Sum.L7.b (v5 : AVal) (x0_7 : AVal) (H27 : AHeap) (Kn28 : List AVal → AHeap → Prop) (Ke29 : AExit → List AVal → AHeap → Prop) : Prop :=
  vb (lenSt x0_7) fun v30 =>
  vb (aBin .gtr v30 (.int .i64 0)) fun v31 =>
  isB v31 fun b32 => cond b32
    (vb (aLoad H27 true 8 v5) fun v33 =>
    vb (aSliceStr x0_7 none (some (.int .i64 64))) fun v34 =>
    cb (S_sha_work [v33, v34] H27) fun v35 H36 =>
    sb (aStore H36 8 v5 v35) fun H37 =>
    vb (aSliceStr x0_7 (some (.int .i64 64)) none) fun v38 =>
    Kn28 [v38] H37)
    (Ke29 (.exit 2) [] H27)

def sha_Sum.L7 (v5 : AVal) : Body := fun vs H Kn Ke => sha_Sum.L7.b v5 (vs.getD 0 .undef) H Kn Ke

def sha_Sum.w (x0 : AVal) (H : AHeap) (K : AVal → AHeap → Prop) : Prop :=
  hb (aAlloc H (List.replicate 32 (.int .u8 0))) fun v1 H2 =>
  cb (S_sha_Words [] H2) fun v3 H4 =>
  hb (aAlloc H4 (List.replicate 8 (.int .u32 0))) fun v5 H6 =>
  sb (aStore H6 8 v5 v3) fun H7 =>
  vb (lenSt x0) fun v8 =>
  LoopP (sha_Sum.L3 v5) [x0] H7 fun e21 vs22 H23 =>
    onE e21 (.exit 0)
      (cb (S_sha_tail [v8] H23) fun v24 H25 =>
      vb (aBin .add (vs22.getD 0 .undef) v24) fun v26 =>
      LoopP (sha_Sum.L7 v5) [v26] H25 fun e39 vs40 H41 =>
        onE e39 (.exit 2)
          (vb (aLoad H41 true 8 v5) fun v42 =>
          cb (S_sha_digest [v42] H41) fun v43 H44 =>
          sb (aStore H44 32 v1 v43) fun H45 =>
          fin .ret [.c true 32 (v1)] H45 K)
        (False))
    (False)

end Go.Sh
