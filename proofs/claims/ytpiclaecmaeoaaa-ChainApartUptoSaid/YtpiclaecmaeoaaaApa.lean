/- One text of these: ApaW1, ApaP1, ApaP2, ApaA. -/
import Derived.Test.YtpiclaecmaeoaaaChain
import Derived.Test.YtpiclaecmaeoaaaCol
import Derived.Test.YtpiclaecmaeoaaaAbsF
import Derived.Test.YtpiclaecmaeoaaaAbsE

/- What Go functions come to over abstract values, printed by a program (wx.py); of each function its own text is what is told of it. -/
namespace Go.Sh
open Go Go.Abs

def cellaretref01_Same.L4.b (x0 : AVal) (x1 : AVal) (x5_4 : AVal) (H5 : AHeap) (Kn6 : List AVal → AHeap → Prop) (Ke7 : AExit → List AVal → AHeap → Prop) : Prop :=
  vb (lenSl x0) fun v8 =>
  vb (aBin .lss x5_4 v8) fun v9 =>
  isB v9 fun b10 => cond b10
    (vb (aIndexAddr 1 x0 x5_4) fun v11 =>
    vb (aLoad H5 false 1 v11) fun v12 =>
    vb (aIndexAddr 1 x1 x5_4) fun v13 =>
    vb (aLoad H5 false 1 v13) fun v14 =>
    vb (aBin .neq v12 v14) fun v15 =>
    isB v15 fun b16 => cond b16
      (Ke7 .ret [.bool false] H5)
      (vb (aBin .add x5_4 (.int .i64 1)) fun v17 =>
      Kn6 [v17] H5))
    (Ke7 (.exit 0) [.undef] H5)

def cellaretref01_Same.L4 (x0 : AVal) (x1 : AVal) : Body := fun vs H Kn Ke => cellaretref01_Same.L4.b x0 x1 (vs.getD 0 .undef) H Kn Ke

def cellaretref01_Same.w (x0 : AVal) (x1 : AVal) (H : AHeap) (K : AVal → AHeap → Prop) : Prop :=
  vb (lenSl x0) fun v1 =>
  vb (lenSl x1) fun v2 =>
  vb (aBin .neq v1 v2) fun v3 =>
  isB v3 fun b4 => cond b4
    (fin .ret [.v (.bool false)] H K)
    (LoopP (cellaretref01_Same.L4 x0 x1) [.int .i64 0] H fun e18 vs19 H20 =>
      onE e18 (.exit 0)
        (fin .ret [.v (.bool true)] H20 K)
      (onE e18 .ret
        (fin .ret [.v (vs19.getD 0 .undef)] H20 K)
      (False)))

def S_cellaretref01_Same : Abs.Spec := fun args H r H' => ∃ x0 x1 : AVal, args = [x0, x1] ∧ (cellaretref01_Same.w x0 x1 H fun r1 H1 => r1 = r ∧ H1 = H') ∧ H <+: H'
theorem cellaretref01_Same.ok (args : List AVal) (H : AHeap) (r : AVal) (H' : AHeap) (h : S_cellaretref01_Same args H r H') : ∃ x0 x1 : AVal, args = [x0, x1] ∧ cellaretref01_Same.w x0 x1 H fun r1 H1 => r1 = r ∧ H1 = H' := by
  obtain ⟨x0, x1, h1, h2, _⟩ := h
  exact ⟨x0, x1, h1, h2⟩
theorem cellaretref01_Same.quiet {args : List AVal} {H : AHeap} {r : AVal} {H' : AHeap} (h : S_cellaretref01_Same args H r H') : H <+: H' := by
  obtain ⟨_, _, _, _, h⟩ := h
  exact h
set_option maxRecDepth 100000 in
theorem cellaretref01_Same.ex (x0 x1 : AVal) (H : AHeap) : Ex fun K : AVal × AHeap → Prop => cellaretref01_Same.w x0 x1 H fun r H => K (r, H) := by
  unfold cellaretref01_Same.w
  repeat with_reducible first
    | exact Ex.pt _
    | exact Ex.fin
    | exact Ex.no
    | refine Ex.vb fun _ => ?_
    | refine Ex.hb fun _ _ => ?_
    | refine Ex.sb fun _ => ?_
    | refine Ex.cb fun _ _ => ?_
    | refine Ex.isB fun _ => ?_
    | refine Ex.cond ?_ ?_
    | refine Ex.onE ?_ ?_
    | refine Ex.join ?_ fun _ _ _ => ?_
    | refine Ex.loop (fun _ _ => ?_) fun _ _ _ => ?_
    | (unfold cellaretref01_Same.L4; unfold cellaretref01_Same.L4.b)

theorem cellaretref01_Same.out {x0 x1 : AVal} {H : AHeap} {Q : AVal → AHeap → Prop} (h : cellaretref01_Same.w x0 x1 H fun r H' => (H <+: H') ∧ Q r H') : ∃ r H', S_cellaretref01_Same [x0, x1] H r H' ∧ Q r H' := by
  obtain ⟨r, H', h1, h2⟩ := (cellaretref01_Same.ex x0 x1 H).out h
  exact ⟨r, H', ⟨_, _, rfl, h1, h2.1⟩, h2.2⟩

def cellaretlaw14_ChainApart.L17.b (vs213 : List AVal) (x20_17 : AVal) (x21_17 : AVal) (H301 : AHeap) (Kn302 : List AVal → AHeap → Prop) (Ke303 : AExit → List AVal → AHeap → Prop) : Prop :=
  JoinP (fun Kj304 => vb (lenSl (vs213.getD 3 .undef)) fun v305 =>
    vb (aBin .lss x21_17 v305) fun v306 =>
    isB v306 fun b307 => cond b307
      (vb (lenSl (vs213.getD 4 .undef)) fun v308 =>
          vb (aBin .lss x21_17 v308) fun v309 =>
            isB v309 fun b310 => cond b310
              (Kj304 .normal [] H301)
              (Kj304 (.exit 0) [] H301))
      (Kj304 (.exit 0) [] H301))
  (fun e311 vs312 H313 =>
    onE e311 (.exit 0)
      (Ke303 (.exit 0) [x20_17] H313)
    (onE e311 .normal
      (isB x20_17 fun b314 => cond b314
        (vb (aIndexAddr 1 (vs213.getD 3 .undef) x21_17) fun v315 =>
            vb (aLoad H313 false 1 v315) fun v316 =>
              vb (aIndexAddr 1 (vs213.getD 4 .undef) x21_17) fun v317 =>
                    vb (aLoad H313 false 1 v317) fun v318 =>
                      cb (S_cellaretref01_Same [v316, v318] H313) fun v319 H320 =>
                        vb (aBin .add x21_17 (.int .i64 1)) fun v321 =>
                        Kn302 [v319, v321] H320)
        (vb (aBin .add x21_17 (.int .i64 1)) fun v322 =>
                        Kn302 [.bool false, v322] H313))
    (False)))

def cellaretlaw14_ChainApart.L17 (vs213 : List AVal) : Body := fun vs H Kn Ke => cellaretlaw14_ChainApart.L17.b vs213 (vs.getD 0 .undef) (vs.getD 1 .undef) H Kn Ke

def cellaretlaw14_ChainApart.w (x0 : AVal) (H : AHeap) (K : AVal → AHeap → Prop) : Prop :=
  hb (aBox H x0) fun v1 H2 =>
  JoinP (fun Kj3 => ((((vb (aFieldAddr 0 v1) fun v4 =>
            vb (aLoad H2 true 32 v4) fun v5 =>
            vb (aFieldAddr 32 v1) fun v6 =>
            vb (aLoad H2 false 1 v6) fun v7 =>
            vb (aFieldAddr 33 v1) fun v8 =>
            vb (aLoad H2 false 1 v8) fun v9 =>
            vb (aFieldAddr 34 v1) fun v10 =>
            vb (aLoad H2 false 1 v10) fun v11 =>
            vb (aFieldAddr 35 v1) fun v12 =>
            vb (aLoad H2 false 1 v12) fun v13 =>
            hb (aAlloc H2 (List.replicate 32 (.int .u8 0))) fun v14 H15 =>
            sb (aStore H15 32 v14 v5) fun H16 =>
            Kj3 .normal [v14, v7, v9, v11, v13] H16) ∧
          (vb (aFieldAddr 0 v1) fun v17 =>
            vb (aLoad H2 true 32 v17) fun v18 =>
            vb (aFieldAddr 32 v1) fun v19 =>
            vb (aLoad H2 false 1 v19) fun v20 =>
            vb (aFieldAddr 33 v1) fun v21 =>
            vb (aLoad H2 false 1 v21) fun v22 =>
            vb (aFieldAddr 34 v1) fun v23 =>
            vb (aLoad H2 false 1 v23) fun v24 =>
            vb (aFieldAddr 35 v1) fun v25 =>
            hb (aAlloc H2 (List.replicate 32 (.int .u8 0))) fun v26 H27 =>
            sb (aStore H27 32 v26 v18) fun H28 =>
            vb (aLoad H28 false 1 v25) fun v29 =>
            Kj3 .normal [v26, v20, v22, v24, v29] H28)) ∧
        ((vb (aFieldAddr 0 v1) fun v30 =>
            vb (aLoad H2 true 32 v30) fun v31 =>
            vb (aFieldAddr 32 v1) fun v32 =>
            vb (aLoad H2 false 1 v32) fun v33 =>
            vb (aFieldAddr 33 v1) fun v34 =>
            vb (aLoad H2 false 1 v34) fun v35 =>
            vb (aFieldAddr 34 v1) fun v36 =>
            vb (aFieldAddr 35 v1) fun v37 =>
            vb (aLoad H2 false 1 v37) fun v38 =>
            hb (aAlloc H2 (List.replicate 32 (.int .u8 0))) fun v39 H40 =>
            sb (aStore H40 32 v39 v31) fun H41 =>
            vb (aLoad H41 false 1 v36) fun v42 =>
            Kj3 .normal [v39, v33, v35, v42, v38] H41) ∧
          (vb (aFieldAddr 0 v1) fun v43 =>
            vb (aLoad H2 true 32 v43) fun v44 =>
            vb (aFieldAddr 32 v1) fun v45 =>
            vb (aLoad H2 false 1 v45) fun v46 =>
            vb (aFieldAddr 33 v1) fun v47 =>
            vb (aLoad H2 false 1 v47) fun v48 =>
            vb (aFieldAddr 34 v1) fun v49 =>
            vb (aFieldAddr 35 v1) fun v50 =>
            hb (aAlloc H2 (List.replicate 32 (.int .u8 0))) fun v51 H52 =>
            sb (aStore H52 32 v51 v44) fun H53 =>
            vb (aLoad H53 false 1 v50) fun v54 =>
            vb (aLoad H53 false 1 v49) fun v55 =>
            Kj3 .normal [v51, v46, v48, v55, v54] H53))) ∧
      (((vb (aFieldAddr 0 v1) fun v56 =>
            vb (aLoad H2 true 32 v56) fun v57 =>
            vb (aFieldAddr 32 v1) fun v58 =>
            vb (aLoad H2 false 1 v58) fun v59 =>
            vb (aFieldAddr 33 v1) fun v60 =>
            vb (aFieldAddr 34 v1) fun v61 =>
            vb (aLoad H2 false 1 v61) fun v62 =>
            vb (aFieldAddr 35 v1) fun v63 =>
            vb (aLoad H2 false 1 v63) fun v64 =>
            hb (aAlloc H2 (List.replicate 32 (.int .u8 0))) fun v65 H66 =>
            sb (aStore H66 32 v65 v57) fun H67 =>
            vb (aLoad H67 false 1 v60) fun v68 =>
            Kj3 .normal [v65, v59, v68, v62, v64] H67) ∧
          (vb (aFieldAddr 0 v1) fun v69 =>
            vb (aLoad H2 true 32 v69) fun v70 =>
            vb (aFieldAddr 32 v1) fun v71 =>
            vb (aLoad H2 false 1 v71) fun v72 =>
            vb (aFieldAddr 33 v1) fun v73 =>
            vb (aFieldAddr 34 v1) fun v74 =>
            vb (aLoad H2 false 1 v74) fun v75 =>
            vb (aFieldAddr 35 v1) fun v76 =>
            hb (aAlloc H2 (List.replicate 32 (.int .u8 0))) fun v77 H78 =>
            sb (aStore H78 32 v77 v70) fun H79 =>
            vb (aLoad H79 false 1 v76) fun v80 =>
            vb (aLoad H79 false 1 v73) fun v81 =>
            Kj3 .normal [v77, v72, v81, v75, v80] H79)) ∧
        ((vb (aFieldAddr 0 v1) fun v82 =>
            vb (aLoad H2 true 32 v82) fun v83 =>
            vb (aFieldAddr 32 v1) fun v84 =>
            vb (aLoad H2 false 1 v84) fun v85 =>
            vb (aFieldAddr 33 v1) fun v86 =>
            vb (aFieldAddr 34 v1) fun v87 =>
            vb (aFieldAddr 35 v1) fun v88 =>
            vb (aLoad H2 false 1 v88) fun v89 =>
            hb (aAlloc H2 (List.replicate 32 (.int .u8 0))) fun v90 H91 =>
            sb (aStore H91 32 v90 v83) fun H92 =>
            vb (aLoad H92 false 1 v87) fun v93 =>
            vb (aLoad H92 false 1 v86) fun v94 =>
            Kj3 .normal [v90, v85, v94, v93, v89] H92) ∧
          (vb (aFieldAddr 0 v1) fun v95 =>
            vb (aLoad H2 true 32 v95) fun v96 =>
            vb (aFieldAddr 32 v1) fun v97 =>
            vb (aLoad H2 false 1 v97) fun v98 =>
            vb (aFieldAddr 33 v1) fun v99 =>
            vb (aFieldAddr 34 v1) fun v100 =>
            vb (aFieldAddr 35 v1) fun v101 =>
            hb (aAlloc H2 (List.replicate 32 (.int .u8 0))) fun v102 H103 =>
            sb (aStore H103 32 v102 v96) fun H104 =>
            vb (aLoad H104 false 1 v101) fun v105 =>
            vb (aLoad H104 false 1 v100) fun v106 =>
            vb (aLoad H104 false 1 v99) fun v107 =>
            Kj3 .normal [v102, v98, v107, v106, v105] H104)))) ∧
    ((((vb (aFieldAddr 0 v1) fun v108 =>
            vb (aLoad H2 true 32 v108) fun v109 =>
            vb (aFieldAddr 32 v1) fun v110 =>
            vb (aFieldAddr 33 v1) fun v111 =>
            vb (aLoad H2 false 1 v111) fun v112 =>
            vb (aFieldAddr 34 v1) fun v113 =>
            vb (aLoad H2 false 1 v113) fun v114 =>
            vb (aFieldAddr 35 v1) fun v115 =>
            vb (aLoad H2 false 1 v115) fun v116 =>
            hb (aAlloc H2 (List.replicate 32 (.int .u8 0))) fun v117 H118 =>
            sb (aStore H118 32 v117 v109) fun H119 =>
            vb (aLoad H119 false 1 v110) fun v120 =>
            Kj3 .normal [v117, v120, v112, v114, v116] H119) ∧
          (vb (aFieldAddr 0 v1) fun v121 =>
            vb (aLoad H2 true 32 v121) fun v122 =>
            vb (aFieldAddr 32 v1) fun v123 =>
            vb (aFieldAddr 33 v1) fun v124 =>
            vb (aLoad H2 false 1 v124) fun v125 =>
            vb (aFieldAddr 34 v1) fun v126 =>
            vb (aLoad H2 false 1 v126) fun v127 =>
            vb (aFieldAddr 35 v1) fun v128 =>
            hb (aAlloc H2 (List.replicate 32 (.int .u8 0))) fun v129 H130 =>
            sb (aStore H130 32 v129 v122) fun H131 =>
            vb (aLoad H131 false 1 v128) fun v132 =>
            vb (aLoad H131 false 1 v123) fun v133 =>
            Kj3 .normal [v129, v133, v125, v127, v132] H131)) ∧
        ((vb (aFieldAddr 0 v1) fun v134 =>
            vb (aLoad H2 true 32 v134) fun v135 =>
            vb (aFieldAddr 32 v1) fun v136 =>
            vb (aFieldAddr 33 v1) fun v137 =>
            vb (aLoad H2 false 1 v137) fun v138 =>
            vb (aFieldAddr 34 v1) fun v139 =>
            vb (aFieldAddr 35 v1) fun v140 =>
            vb (aLoad H2 false 1 v140) fun v141 =>
            hb (aAlloc H2 (List.replicate 32 (.int .u8 0))) fun v142 H143 =>
            sb (aStore H143 32 v142 v135) fun H144 =>
            vb (aLoad H144 false 1 v139) fun v145 =>
            vb (aLoad H144 false 1 v136) fun v146 =>
            Kj3 .normal [v142, v146, v138, v145, v141] H144) ∧
          (vb (aFieldAddr 0 v1) fun v147 =>
            vb (aLoad H2 true 32 v147) fun v148 =>
            vb (aFieldAddr 32 v1) fun v149 =>
            vb (aFieldAddr 33 v1) fun v150 =>
            vb (aLoad H2 false 1 v150) fun v151 =>
            vb (aFieldAddr 34 v1) fun v152 =>
            vb (aFieldAddr 35 v1) fun v153 =>
            hb (aAlloc H2 (List.replicate 32 (.int .u8 0))) fun v154 H155 =>
            sb (aStore H155 32 v154 v148) fun H156 =>
            vb (aLoad H156 false 1 v153) fun v157 =>
            vb (aLoad H156 false 1 v152) fun v158 =>
            vb (aLoad H156 false 1 v149) fun v159 =>
            Kj3 .normal [v154, v159, v151, v158, v157] H156))) ∧
      (((vb (aFieldAddr 0 v1) fun v160 =>
            vb (aLoad H2 true 32 v160) fun v161 =>
            vb (aFieldAddr 32 v1) fun v162 =>
            vb (aFieldAddr 33 v1) fun v163 =>
            vb (aFieldAddr 34 v1) fun v164 =>
            vb (aLoad H2 false 1 v164) fun v165 =>
            vb (aFieldAddr 35 v1) fun v166 =>
            vb (aLoad H2 false 1 v166) fun v167 =>
            hb (aAlloc H2 (List.replicate 32 (.int .u8 0))) fun v168 H169 =>
            sb (aStore H169 32 v168 v161) fun H170 =>
            vb (aLoad H170 false 1 v163) fun v171 =>
            vb (aLoad H170 false 1 v162) fun v172 =>
            Kj3 .normal [v168, v172, v171, v165, v167] H170) ∧
          (vb (aFieldAddr 0 v1) fun v173 =>
            vb (aLoad H2 true 32 v173) fun v174 =>
            vb (aFieldAddr 32 v1) fun v175 =>
            vb (aFieldAddr 33 v1) fun v176 =>
            vb (aFieldAddr 34 v1) fun v177 =>
            vb (aLoad H2 false 1 v177) fun v178 =>
            vb (aFieldAddr 35 v1) fun v179 =>
            hb (aAlloc H2 (List.replicate 32 (.int .u8 0))) fun v180 H181 =>
            sb (aStore H181 32 v180 v174) fun H182 =>
            vb (aLoad H182 false 1 v179) fun v183 =>
            vb (aLoad H182 false 1 v176) fun v184 =>
            vb (aLoad H182 false 1 v175) fun v185 =>
            Kj3 .normal [v180, v185, v184, v178, v183] H182)) ∧
        ((vb (aFieldAddr 0 v1) fun v186 =>
            vb (aLoad H2 true 32 v186) fun v187 =>
            vb (aFieldAddr 32 v1) fun v188 =>
            vb (aFieldAddr 33 v1) fun v189 =>
            vb (aFieldAddr 34 v1) fun v190 =>
            vb (aFieldAddr 35 v1) fun v191 =>
            vb (aLoad H2 false 1 v191) fun v192 =>
            hb (aAlloc H2 (List.replicate 32 (.int .u8 0))) fun v193 H194 =>
            sb (aStore H194 32 v193 v187) fun H195 =>
            vb (aLoad H195 false 1 v190) fun v196 =>
            vb (aLoad H195 false 1 v189) fun v197 =>
            vb (aLoad H195 false 1 v188) fun v198 =>
            Kj3 .normal [v193, v198, v197, v196, v192] H195) ∧
          (vb (aFieldAddr 0 v1) fun v199 =>
            vb (aLoad H2 true 32 v199) fun v200 =>
            vb (aFieldAddr 32 v1) fun v201 =>
            vb (aFieldAddr 33 v1) fun v202 =>
            vb (aFieldAddr 34 v1) fun v203 =>
            vb (aFieldAddr 35 v1) fun v204 =>
            hb (aAlloc H2 (List.replicate 32 (.int .u8 0))) fun v205 H206 =>
            sb (aStore H206 32 v205 v200) fun H207 =>
            vb (aLoad H207 false 1 v204) fun v208 =>
            vb (aLoad H207 false 1 v203) fun v209 =>
            vb (aLoad H207 false 1 v202) fun v210 =>
            vb (aLoad H207 false 1 v201) fun v211 =>
            Kj3 .normal [v205, v211, v210, v209, v208] H207)))))
  (fun e212 vs213 H214 =>
    onE e212 .normal
      (JoinP (fun Kj215 => vb (lenSl (vs213.getD 1 .undef)) fun v216 =>
        vb (aBin .gtr v216 (.int .i64 100)) fun v217 =>
        isB v217 fun b218 => cond b218
          (cb (S_cellaretlaw14_awake [] H214) fun v219 H220 =>
              Kj215 .ret [v219] H220)
          (vb (lenSl (vs213.getD 2 .undef)) fun v221 =>
            vb (aBin .gtr v221 (.int .i64 100)) fun v222 =>
              isB v222 fun b223 => cond b223
                (cb (S_cellaretlaw14_awake [] H214) fun v224 H225 =>
                Kj215 .ret [v224] H225)
                (Kj215 .normal [.bool false] H214)))
      (fun e226 vs227 H228 =>
        onE e226 .normal
          (cb (S_oracle_New [] H228) fun v229 H230 =>
          vb (aLoad H230 true 32 (vs213.getD 0 .undef)) fun v231 =>
          cb (S_chain_Next [v229, v231, vs213.getD 1 .undef] H230) fun v232 H233 =>
          vb (aExtract v232 0) fun v234 =>
          vb (aExtract v232 1) fun v235 =>
          hb (aAlloc H233 (List.replicate 32 (.int .u8 0))) fun v236 H237 =>
          sb (aStore H237 32 v236 v234) fun H238 =>
          vb (aLoad H238 true 32 (vs213.getD 0 .undef)) fun v239 =>
          cb (S_chain_Next [v229, v239, vs213.getD 2 .undef] H238) fun v240 H241 =>
          vb (aExtract v240 0) fun v242 =>
          vb (aExtract v240 1) fun v243 =>
          hb (aAlloc H241 (List.replicate 32 (.int .u8 0))) fun v244 H245 =>
          sb (aStore H245 32 v244 v242) fun H246 =>
          JoinP (fun Kj247 => vb (aBin .eql v235 (.int .i64 0)) fun v248 =>
            isB v248 fun b249 => cond b249
              (vb (aBin .eql v243 (.int .i64 0)) fun v250 =>
                isB v250 fun b251 => cond b251
                  (vb (aLoad H246 true 32 v236) fun v252 =>
                  vb (aLoad H246 true 32 v244) fun v253 =>
                    vb (aEql false (.agg (List.replicate 32 .int)) H246 v252 v253) fun v254 =>
                      isB v254 fun b255 => cond b255
                        (cb (S_cellaretref01_Same [vs213.getD 1 .undef, vs213.getD 2 .undef] H246) fun v256 H257 =>
                            vb (aUn .not v256) fun v258 =>
                              isB v258 fun b259 => cond b259
                                (cb (S_oracle_Oracle_Collide [v229] H257) fun v260 H261 =>
                                vb (aExtract v260 0) fun v262 =>
                                vb (aExtract v260 1) fun v263 =>
                                vb (aExtract v260 2) fun v264 =>
                                vb (aUn .not v264) fun v265 =>
                                isB v265 fun b266 => cond b266
                                  (Kj247 .ret [.bool false] H261)
                                  (Kj247 .normal [vs227.getD 0 .undef] H261))
                                (Kj247 .normal [vs227.getD 0 .undef] H257))
                        (Kj247 .normal [vs227.getD 0 .undef] H246))
                  (Kj247 .normal [vs227.getD 0 .undef] H246))
              (Kj247 .normal [vs227.getD 0 .undef] H246))
          (fun e267 vs268 H269 =>
            onE e267 .normal
              (JoinP (fun Kj270 => vb (lenSl (vs213.getD 3 .undef)) fun v271 =>
                vb (aBin .gtr v271 (.int .i64 6)) fun v272 =>
                isB v272 fun b273 => cond b273
                  (cb (S_cellaretlaw14_awake [] H269) fun v274 H275 =>
                          Kj270 .ret [v274] H275)
                  (vb (lenSl (vs213.getD 3 .undef)) fun v276 =>
                    vb (lenSl (vs213.getD 4 .undef)) fun v277 =>
                        vb (aBin .neq v276 v277) fun v278 =>
                          isB v278 fun b279 => cond b279
                            (cb (S_cellaretlaw14_awake [] H269) fun v280 H281 =>
                            Kj270 .ret [v280] H281)
                            (Kj270 .normal [vs268.getD 0 .undef] H269)))
              (fun e282 vs283 H284 =>
                onE e282 .normal
                  (vb (aLoad H284 true 32 (vs213.getD 0 .undef)) fun v285 =>
                  cb (S_chain_Along [v229, v285, vs213.getD 3 .undef] H284) fun v286 H287 =>
                  vb (aExtract v286 0) fun v288 =>
                  vb (aExtract v286 1) fun v289 =>
                  hb (aAlloc H287 (List.replicate 32 (.int .u8 0))) fun v290 H291 =>
                  sb (aStore H291 32 v290 v288) fun H292 =>
                  vb (aLoad H292 true 32 (vs213.getD 0 .undef)) fun v293 =>
                  cb (S_chain_Along [v229, v293, vs213.getD 4 .undef] H292) fun v294 H295 =>
                  vb (aExtract v294 0) fun v296 =>
                  vb (aExtract v294 1) fun v297 =>
                  hb (aAlloc H295 (List.replicate 32 (.int .u8 0))) fun v298 H299 =>
                  sb (aStore H299 32 v298 v296) fun H300 =>
                  LoopP (cellaretlaw14_ChainApart.L17 vs213) [.bool true, .int .i64 0] H300 fun e323 vs324 H325 =>
                    onE e323 (.exit 0)
                      (JoinP (fun Kj326 => vb (aBin .neq v289 (.int .i64 0)) fun v327 =>
                        isB v327 fun b328 => cond b328
                          (cb (S_cellaretlaw14_awake [] H325) fun v329 H330 =>
                                    Kj326 .ret [v329] H330)
                          (vb (aBin .neq v297 (.int .i64 0)) fun v331 =>
                            isB v331 fun b332 => cond b332
                              (cb (S_cellaretlaw14_awake [] H325) fun v333 H334 =>
                                    Kj326 .ret [v333] H334)
                              (vb (aLoad H325 true 32 v290) fun v335 =>
                              vb (aLoad H325 true 32 v298) fun v336 =>
                                vb (aEql true (.agg (List.replicate 32 .int)) H325 v335 v336) fun v337 =>
                                  isB v337 fun b338 => cond b338
                                    (cb (S_cellaretlaw14_awake [] H325) fun v339 H340 =>
                                    Kj326 .ret [v339] H340)
                                    (isB (vs324.getD 0 .undef) fun b341 => cond b341
                                      (cb (S_cellaretlaw14_awake [] H325) fun v342 H343 =>
                                      Kj326 .ret [v342] H343)
                                      (Kj326 .normal [vs283.getD 0 .undef] H325)))))
                      (fun e344 vs345 H346 =>
                        onE e344 .normal
                          (cb (S_oracle_Oracle_Collide [v229] H346) fun v347 H348 =>
                          vb (aExtract v347 0) fun v349 =>
                          vb (aExtract v347 1) fun v350 =>
                          vb (aExtract v347 2) fun v351 =>
                          cb (S_cellaretlaw14_awake [] H348) fun v352 H353 =>
                          isB v352 fun b354 => cond b354
                            (fin .ret [.v (v351)] H353 K)
                            (fin .ret [.v (.bool false)] H353 K))
                        (onE e344 .ret
                          (fin .ret [.v (vs345.getD 0 .undef)] H346 K)
                        (False))))
                    (False))
                (onE e282 .ret
                  (fin .ret [.v (vs283.getD 0 .undef)] H284 K)
                (False))))
            (onE e267 .ret
              (fin .ret [.v (vs268.getD 0 .undef)] H269 K)
            (False))))
        (onE e226 .ret
          (fin .ret [.v (vs227.getD 0 .undef)] H228 K)
        (False))))
    (False))

end Go.Sh

/- Unlike rows have unlike anchors, or two texts have one sum. -/
namespace Go.Sh
open Go Go.Abs

theorem ld1 {H : AHeap} {i v off m : Nat} {kd : Kd} {cs : List AVal} {x : AVal} {K : AVal → Prop} (h : H[i]? = some (.cells v kd cs)) (hx : cs[off]? = some x) (k : K x) : vb (aLoad H false m (.ptr ⟨i, v, off⟩)) K := by
  have hl := (List.getElem?_eq_some_iff.1 hx).1
  exact vb_i (by rw [e_load1 h hl, List.getD_eq_getElem?_getD, hx]; rfl) k
theorem same_vwN {B : AHeap} {x y : AVal} {l k : List (List UInt8)} (hv : VwN B x l.length (strs l)) (hw : VwN B y k.length (strs k)) (hl : l.length ≤ 9223372036854775807) :
    S_cellaretref01_Same [x, y] B (.bool (decide (l = k))) B := by
  refine ⟨_, _, rfl, ?_, List.prefix_refl _⟩
  unfold cellaretref01_Same.w
  refine vb_lenN hv ?_
  refine vb_lenN hw ?_
  refine vb_i (neq64 _ _ _) ?_
  refine isB_c (fun h1 => ?_) (fun h1 => ?_)
  · rw [decide_eq_false (fun e => h1 (by rw [e]))]
    exact fin_ret (rvs_v (rvs_nil _)) ⟨rfl, rfl⟩
  have hlk : l.length = k.length := by omega
  refine LoopP.ruleG (α := Nat) (fun j => [.int .i64 (j : Int)]) (fun j D => (j ≤ l.length ∧ l.take j = k.take j) ∧ D = B) (fun j => l.length - j) 0 (by simp) ⟨⟨Nat.zero_le _, rfl⟩, rfl⟩ ?_
  rintro j D Kn ⟨⟨hj, ht⟩, rfl⟩ hn
  unfold cellaretref01_Same.L4 cellaretref01_Same.L4.b
  try simp only [evB]
  refine vb_lenN hv ?_
  refine vb_i (lss64 _ _ _) ?_
  refine isB_c (fun h2 => ?_) (fun h2 => ?_)
  · have hjl : j < l.length := by omega
    have hjk : j < k.length := by omega
    obtain ⟨q, q1, q2⟩ := (hv.at (by omega)).at1 (k := (j : Int)) (kd := .i64) (by omega) (by omega) (List.prefix_refl _)
    obtain ⟨u, u1, u2⟩ := (hw.at (by omega)).at1 (k := (j : Int)) (kd := .i64) (by omega) (by omega) (List.prefix_refl _)
    have gl : (strs l).getD (j : Int).toNat .undef = .str l[j] := by simp [strs, List.getD_eq_getElem?_getD, List.getElem?_eq_getElem hjl]
    have gk : (strs k).getD (j : Int).toNat .undef = .str k[j] := by simp [strs, List.getD_eq_getElem?_getD, List.getElem?_eq_getElem hjk]
    rw [gl] at q2
    rw [gk] at u2
    refine vb_i q1 (vb_i q2 (vb_i u1 (vb_i u2 ?_)))
    refine vb_i (neqs _ _) ?_
    refine isB_c (fun h3 => ?_) (fun h3 => ?_)
    · rw [decide_eq_false (fun e => h3 (by subst e; rfl))]
      refine onE_s (by decide) ?_
      refine onE_i ?_
      try simp only [evB]
      exact fin_ret (rvs_v (rvs_nil _)) ⟨rfl, rfl⟩
    · refine vb_i (add64 (by omega) (by omega)) ?_
      refine hn (j + 1) _ ⟨⟨by omega, ?_⟩, rfl⟩ (by omega)
      rw [List.take_add_one, List.take_add_one, List.getElem?_eq_getElem hjl, List.getElem?_eq_getElem hjk, ht, Classical.not_not.1 h3]
  · obtain rfl : j = l.length := by omega
    have e : l = k := by rw [List.take_length, hlk, List.take_length] at ht; exact ht
    rw [decide_eq_true e]
    refine onE_i ?_
    exact fin_ret (rvs_v (rvs_nil _)) ⟨rfl, rfl⟩
/-! ### Rows that go along -/
theorem flat64 : ∀ {l m : List (List UInt8)}, (∀ s ∈ l, s.length = 64) → (∀ s ∈ m, s.length = 64) → l.flatten = m.flatten → l = m
  | [], [], _, _, _ => rfl
  | [], b :: m, _, hm, h => by
    have h1 := hm b List.mem_cons_self
    have := congrArg List.length h
    rw [List.flatten_cons, List.length_append, h1, List.flatten_nil, List.length_nil] at this
    omega
  | a :: l, [], hl, _, h => by
    have h1 := hl a List.mem_cons_self
    have := congrArg List.length h
    rw [List.flatten_cons, List.length_append, h1, List.flatten_nil, List.length_nil] at this
    omega
  | a :: l, b :: m, hl, hm, h => by
    have h1 := hl a List.mem_cons_self
    have h2 := hm b List.mem_cons_self
    rw [List.flatten_cons, List.flatten_cons] at h
    obtain ⟨e1, e2⟩ := List.append_inj h (h1.trans h2.symm)
    rw [e1, flat64 (fun s hs => hl s (List.mem_cons_of_mem _ hs)) (fun s hs => hm s (List.mem_cons_of_mem _ hs)) e2]
theorem next_inj {a b : List UInt8} {l m : List (List UInt8)} (ha : a.length = 32) (hb : b.length = 32) (hl : good l) (hm : good m) (h : nextT a l = nextT b m) : a = b ∧ l = m := by
  unfold nextT at h
  rw [List.append_assoc, List.append_assoc] at h
  have h := List.append_cancel_left h
  obtain ⟨e1, e2⟩ := List.append_inj h (ha.trans hb.symm)
  exact ⟨e1, flat64 hl.2.2 hm.2.2 e2⟩
theorem next_apart {T : List (List UInt8)} (hT : pairs T (sums T) T.length = none) {a b : List UInt8} {l m : List (List UInt8)} (ha : a.length = 32) (hb : b.length = 32) (hl : good l) (hm : good m)
    (hA : nextT a l ∈ T) (hB : nextT b m ∈ T) (h : sum (nextT a l) = sum (nextT b m)) : a = b ∧ l = m :=
  next_inj ha hb hl hm (Classical.byContradiction fun hne => no_clash hT hA hB hne h)
theorem along_apart {T : List (List UInt8)} (hT : pairs T (sums T) T.length = none) : ∀ (rs ss : List (List (List UInt8))) (a b c : List UInt8), a.length = 32 → b.length = 32 → rs.length = ss.length →
    alongR a rs = some c → alongR b ss = some c → (∀ t ∈ alongT a rs, t ∈ T) → (∀ t ∈ alongT b ss, t ∈ T) → a = b ∧ rs = ss
  | [], [], a, b, c, _, _, _, h1, h2, _, _ => by
    simp only [alongR, Option.some.injEq] at h1 h2
    exact ⟨h1.trans h2.symm, rfl⟩
  | l :: rs, m :: ss, a, b, c, ha, hb, hl, h1, h2, t1, t2 => by
    by_cases g1 : good l
    · by_cases g2 : good m
      · simp only [alongR, alongT, if_pos g1, if_pos g2] at h1 h2 t1 t2
        obtain ⟨e1, e2⟩ := along_apart hT rs ss _ _ c (sum_len _) (sum_len _) (by simpa using hl) h1 h2 (fun t h => t1 t (List.mem_cons_of_mem _ h)) (fun t h => t2 t (List.mem_cons_of_mem _ h))
        obtain ⟨e3, e4⟩ := next_apart hT ha hb g1 g2 (t1 _ List.mem_cons_self) (t2 _ List.mem_cons_self) e1
        exact ⟨e3, by rw [e4, e2]⟩
      · simp [alongR, g2] at h2
    · simp [alongR, g1] at h1
  | [], _ :: _, _, _, _, _, _, hl, _, _, _, _ => by simp at hl
  | _ :: _, [], _, _, _, _, _, hl, _, _, _, _ => by simp at hl
def alongV (a : List UInt8) (rs : List (List (List UInt8))) : List UInt8 := (alongR a rs).getD (zs 32)
def alongE (a : List UInt8) (rs : List (List (List UInt8))) : Int := if (alongR a rs).isSome then 0 else 6
theorem alongV_len {a : List UInt8} (ha : a.length = 32) (rs : List (List (List UInt8))) : (alongV a rs).length = 32 := by
  unfold alongV
  cases h : alongR a rs with
  | none => exact zs32_len
  | some b => exact alongR_len ha h
theorem along_val (a : List UInt8) (rs : List (List (List UInt8))) : (match alongR a rs with | some b => AVal.tup [.agg (b.map ofByte), .int .i64 0] | none => .tup [zero32, .int .i64 6]) = .tup [.agg ((alongV a rs).map ofByte), .int .i64 (alongE a rs)] := by
  unfold alongV alongE
  cases h : alongR a rs with
  | none => simp [zero32_zs]
  | some b => simp
theorem alongT_len : ∀ (rs : List (List (List UInt8))) (a : List UInt8), (alongT a rs).length ≤ rs.length
  | [], _ => Nat.le_refl _
  | l :: rs, a => by
    simp only [alongT]
    split
    · simp only [List.length_cons]; have := alongT_len rs (sum (nextT a l)); omega
    · simp
theorem alongT_short : ∀ (rs : List (List (List UInt8))) (a : List UInt8), a.length = 32 → ∀ s ∈ alongT a rs, s.length ≤ 1099511627776
  | [], _, _, s, h => by cases h
  | l :: rs, a, ha, s, h => by
    simp only [alongT] at h
    split at h
    · rename_i hg
      rcases List.mem_cons.1 h with rfl | h
      · exact good_short ha hg
      · exact alongT_short rs _ (sum_len _) s h
    · cases h
/-- Rows of rows that came in. -/
structure RowsAt (H : AHeap) (u : AVal) (us : List AVal) (rs : List (List (List UInt8))) : Prop where
  v : View H u 1 rs.length us
  hl : rs.length ≤ 1048576
  each : ∀ i, i < rs.length → NArgs H (us.getD i .undef) (rs.getD i [])
theorem RowsAt.pre {H K : AHeap} {u : AVal} {us : List AVal} {rs : List (List (List UInt8))} (h : RowsAt H u us rs) (p : H <+: K) : RowsAt K u us rs := ⟨h.v.pre p, h.hl, fun i hi => (h.each i hi).pre p⟩
section
variable {A C : AHeap} {own : Nat → Prop} {T : List (List UInt8)}
theorem RunN.old (h : RunN A C own T) {k : Nat} (hk : k < A.length) : Untouched C (.ptr ⟨A.length + 1, 0, 0⟩) k := by
  obtain ⟨h0, mv, lv, h1, h2⟩ := h
  intro i v m lv' e hc
  cases e
  rw [h1.rep.cell] at hc
  cases hc
  refine ⟨by omega, by omega, fun e => ?_⟩
  rcases h1.new rfl with rfl | ⟨q, w, rfl, hq⟩
  · cases e
  · rw [newO_len] at hq
    simp only [slId, Option.some.injEq] at e
    omega
theorem view_id {B : AHeap} {x : AVal} {es n k : Nat} {cs : List AVal} (h : View B x es n cs) (hk : slId x = some k) : k < B.length := by
  rcases h.2 with ⟨rfl, _⟩ | ⟨i, v, off, c, kd, cs', rfl, h2, _⟩
  · cases hk
  · cases hk; exact lt_of_some h2
theorem RunN.Next2 (h : RunN A C own T) (hT : T.length ≤ 1000000) {a : List UInt8} {l : List (List UInt8)} {x : AVal} (ha : a.length = 32) (hN : NArgs C x l) :
    ∃ C2, S_chain_Next [.ptr ⟨A.length + 1, 0, 0⟩, .agg (a.map ofByte), x] C (.tup [.agg ((nextV a l).map ofByte), .int .i64 (nextE l)]) C2 ∧ RunN A C2 own (keepTs T (if good l then [nextT a l] else [])) ∧ ∀ k, own k → C2[k]? = C[k]? := by
  by_cases hg : good l
  · obtain ⟨C2, hO, hr, _, hk⟩ := h.call (ss := [nextT a l]) (by simp; omega) (by simpa using good_short ha hg)
    refine ⟨C2, ⟨_, x, a, l, rfl, ha, hN, .inr ⟨hg, by rw [nextV, nextE, if_pos hg, if_pos hg], hO⟩⟩, by rw [if_pos hg]; exact hr, hk⟩
  · exact ⟨C, ⟨_, x, a, l, rfl, ha, hN, .inl ⟨hg, by rw [nextV, nextE, if_neg hg, if_neg hg, zero32_zs], rfl⟩⟩, by rw [if_neg hg]; exact h, fun _ _ => rfl⟩
theorem RunN.Along (h : RunN A C own T) (hT : T.length ≤ 1000000) {a : List UInt8} {u : AVal} {us : List AVal} {rs : List (List (List UInt8))} (ha : a.length = 32) (hR : RowsAt A u us rs) :
    ∃ C2, S_chain_Along [.ptr ⟨A.length + 1, 0, 0⟩, .agg (a.map ofByte), u] C (.tup [.agg ((alongV a rs).map ofByte), .int .i64 (alongE a rs)]) C2 ∧ RunN A C2 own (keepTs T (alongT a rs)) ∧ ∀ k, own k → C2[k]? = C[k]? := by
  have hl := alongT_len rs a
  have hl2 := hR.hl
  obtain ⟨C2, hO, hr, _, hk⟩ := h.call (ss := alongT a rs) (by omega) (alongT_short rs a ha)
  have hR2 := hR.pre h.pre
  refine ⟨C2, ⟨_, u, a, us, rs, rfl, ha, ⟨hR2.v, hR2.hl, hR2.each, fun k hk => h.old (view_id hR.v hk), fun i k hi h0 hk => h.old (view_id ((hR.each i hi).v.at h0) hk)⟩, (along_val a rs).symm, hO⟩, hr, hk⟩
end
end Go.Sh

/- Unlike rows have unlike anchors: the law. -/
namespace Go.Sh
open Go Go.Abs

def S_cellaretlaw14_ChainApart : Abs.Spec := fun args H r H' => ∃ (a : List UInt8) (x y u w : AVal) (l m : List (List UInt8)) (us ws : List AVal) (rs ss : List (List (List UInt8))),
  args = [.agg (a.map ofByte ++ [x, y, u, w])] ∧ a.length = 32 ∧ NArgs H x l ∧ NArgs H y m ∧ RowsAt H u us rs ∧ RowsAt H w ws ss ∧ r = .bool true ∧ H' = H
theorem cell_at {a : List UInt8} (ha : a.length = 32) (l : List AVal) (i : Nat) : (a.map ofByte ++ l)[0 + (32 + i)]? = l[i]? := by
  rw [List.getElem?_append_right (by simp; omega)]
  congr 1
  simp; omega
theorem collide_true {T : List (List UInt8)} (h : pairs T (sums T) T.length ≠ none) : ∃ s t, collideR T = [.str s, .str t, .bool true] := by
  have hmin : min T.length (sums T).length = T.length := by rw [sums_len]; exact Nat.min_self _
  cases hp : pairs T (sums T) T.length with
  | none => exact absurd hp h
  | some ij =>
    obtain ⟨a, c⟩ := ij
    exact ⟨T.getD a [], T.getD c [], by simp only [collideR, hmin, hp]⟩
theorem collide_some (T : List (List UInt8)) : ∃ s t b, collideR T = [.str s, .str t, .bool b] := by
  unfold collideR
  split
  · exact ⟨_, _, _, rfl⟩
  · exact ⟨_, _, _, rfl⟩
set_option maxHeartbeats 1000000 in
theorem cellaretlaw14_ChainApart.ok (args : List AVal) (H : AHeap) (r : AVal) (H' : AHeap) (h : S_cellaretlaw14_ChainApart args H r H') : ∃ x0, args = [x0] ∧ cellaretlaw14_ChainApart.w x0 H fun r1 H1 => Weak H r1 H1 r H' := by
  obtain ⟨a, x, y, u, w, l, m, us, ws, rs, ss, rfl, ha, hx, hy, hu, hw, rfl, rfl⟩ := h
  refine ⟨_, rfl, ?_⟩
  unfold cellaretlaw14_ChainApart.w
  have ham : (a.map ofByte).length = 32 := by rw [List.length_map]; exact ha
  refine hb_i (e_box rfl) ?_
  have hcl : (AVal.agg (a.map ofByte ++ [x, y, u, w])).cells = a.map ofByte ++ [x, y, u, w] := rfl
  rw [hcl]
  have gA : (H' ++ [AObj.cells 0 .exact (a.map ofByte ++ [x, y, u, w])])[H'.length]? = some (.cells 0 .exact (a.map ofByte ++ [x, y, u, w])) := by rw [app_get0]; rfl
  have p0 : H' <+: H' ++ [AObj.cells 0 .exact (a.map ofByte ++ [x, y, u, w])] := pre_app _ _
  have hlen : (a.map ofByte ++ [x, y, u, w]).length = 36 := by simp [ha]
  have h0 : ((a.map ofByte ++ [x, y, u, w]).drop (0 + 0)).take 32 = a.map ofByte := by rw [List.drop_zero, List.take_left' ham]
  have c32 : (a.map ofByte ++ [x, y, u, w])[0 + 32]? = some x := cell_at ha _ 0
  have c33 : (a.map ofByte ++ [x, y, u, w])[0 + 33]? = some y := cell_at ha _ 1
  have c34 : (a.map ofByte ++ [x, y, u, w])[0 + 34]? = some u := cell_at ha _ 2
  have c35 : (a.map ofByte ++ [x, y, u, w])[0 + 35]? = some w := cell_at ha _ 3
  generalize a.map ofByte ++ [x, y, u, w] = cs at *
  generalize hA : H' ++ [AObj.cells 0 .exact cs] = A at *
  have hld : aLoad A true 32 (.ptr ⟨H'.length, 0, 0 + 0⟩) = some (.agg (a.map ofByte)) := by rw [e_loadAgg gA (by omega), h0]
  have gG : (A ++ [AObj.cells 0 .exact (a.map ofByte)])[H'.length]? = some (.cells 0 .exact cs) := by rw [pre_get (pre_app _ _) (lt_of_some gA)]; exact gA
  refine JoinP.mk (fun e vs B => e = .normal ∧ vs = [.ptr ⟨A.length, 0, 0⟩, x, y, u, w] ∧ B = A ++ [AObj.cells 0 .exact (a.map ofByte)]) ?_ ?_
  · refine ⟨⟨⟨⟨?_, ?_⟩, ⟨?_, ?_⟩⟩, ⟨⟨?_, ?_⟩, ⟨?_, ?_⟩⟩⟩, ⟨⟨⟨?_, ?_⟩, ⟨?_, ?_⟩⟩, ⟨⟨?_, ?_⟩, ⟨?_, ?_⟩⟩⟩⟩
    · repeat first
        | refine vb_i (e_fieldAddr _ _) ?_
        | refine vb_i hld ?_
        | refine ld1 gA c32 ?_
        | refine ld1 gA c33 ?_
        | refine ld1 gA c34 ?_
        | refine ld1 gA c35 ?_
      refine hb_i (e_alloc _ _) ?_
      with_reducible refine sb_i (store_new List.length_replicate (by rw [List.length_map]; exact ha) (cells_byte _)) ?_
      repeat first
        | refine ld1 gG c32 ?_
        | refine ld1 gG c33 ?_
        | refine ld1 gG c34 ?_
        | refine ld1 gG c35 ?_
      exact ⟨rfl, rfl, rfl⟩
    · repeat first
        | refine vb_i (e_fieldAddr _ _) ?_
        | refine vb_i hld ?_
        | refine ld1 gA c32 ?_
        | refine ld1 gA c33 ?_
        | refine ld1 gA c34 ?_
        | refine ld1 gA c35 ?_
      refine hb_i (e_alloc _ _) ?_
      with_reducible refine sb_i (store_new List.length_replicate (by rw [List.length_map]; exact ha) (cells_byte _)) ?_
      repeat first
        | refine ld1 gG c32 ?_
        | refine ld1 gG c33 ?_
        | refine ld1 gG c34 ?_
        | refine ld1 gG c35 ?_
      exact ⟨rfl, rfl, rfl⟩
    · repeat first
        | refine vb_i (e_fieldAddr _ _) ?_
        | refine vb_i hld ?_
        | refine ld1 gA c32 ?_
        | refine ld1 gA c33 ?_
        | refine ld1 gA c34 ?_
        | refine ld1 gA c35 ?_
      refine hb_i (e_alloc _ _) ?_
      with_reducible refine sb_i (store_new List.length_replicate (by rw [List.length_map]; exact ha) (cells_byte _)) ?_
      repeat first
        | refine ld1 gG c32 ?_
        | refine ld1 gG c33 ?_
        | refine ld1 gG c34 ?_
        | refine ld1 gG c35 ?_
      exact ⟨rfl, rfl, rfl⟩
    · repeat first
        | refine vb_i (e_fieldAddr _ _) ?_
        | refine vb_i hld ?_
        | refine ld1 gA c32 ?_
        | refine ld1 gA c33 ?_
        | refine ld1 gA c34 ?_
        | refine ld1 gA c35 ?_
      refine hb_i (e_alloc _ _) ?_
      with_reducible refine sb_i (store_new List.length_replicate (by rw [List.length_map]; exact ha) (cells_byte _)) ?_
      repeat first
        | refine ld1 gG c32 ?_
        | refine ld1 gG c33 ?_
        | refine ld1 gG c34 ?_
        | refine ld1 gG c35 ?_
      exact ⟨rfl, rfl, rfl⟩
    · repeat first
        | refine vb_i (e_fieldAddr _ _) ?_
        | refine vb_i hld ?_
        | refine ld1 gA c32 ?_
        | refine ld1 gA c33 ?_
        | refine ld1 gA c34 ?_
        | refine ld1 gA c35 ?_
      refine hb_i (e_alloc _ _) ?_
      with_reducible refine sb_i (store_new List.length_replicate (by rw [List.length_map]; exact ha) (cells_byte _)) ?_
      repeat first
        | refine ld1 gG c32 ?_
        | refine ld1 gG c33 ?_
        | refine ld1 gG c34 ?_
        | refine ld1 gG c35 ?_
      exact ⟨rfl, rfl, rfl⟩
    · repeat first
        | refine vb_i (e_fieldAddr _ _) ?_
        | refine vb_i hld ?_
        | refine ld1 gA c32 ?_
        | refine ld1 gA c33 ?_
        | refine ld1 gA c34 ?_
        | refine ld1 gA c35 ?_
      refine hb_i (e_alloc _ _) ?_
      with_reducible refine sb_i (store_new List.length_replicate (by rw [List.length_map]; exact ha) (cells_byte _)) ?_
      repeat first
        | refine ld1 gG c32 ?_
        | refine ld1 gG c33 ?_
        | refine ld1 gG c34 ?_
        | refine ld1 gG c35 ?_
      exact ⟨rfl, rfl, rfl⟩
    · repeat first
        | refine vb_i (e_fieldAddr _ _) ?_
        | refine vb_i hld ?_
        | refine ld1 gA c32 ?_
        | refine ld1 gA c33 ?_
        | refine ld1 gA c34 ?_
        | refine ld1 gA c35 ?_
      refine hb_i (e_alloc _ _) ?_
      with_reducible refine sb_i (store_new List.length_replicate (by rw [List.length_map]; exact ha) (cells_byte _)) ?_
      repeat first
        | refine ld1 gG c32 ?_
        | refine ld1 gG c33 ?_
        | refine ld1 gG c34 ?_
        | refine ld1 gG c35 ?_
      exact ⟨rfl, rfl, rfl⟩
    · repeat first
        | refine vb_i (e_fieldAddr _ _) ?_
        | refine vb_i hld ?_
        | refine ld1 gA c32 ?_
        | refine ld1 gA c33 ?_
        | refine ld1 gA c34 ?_
        | refine ld1 gA c35 ?_
      refine hb_i (e_alloc _ _) ?_
      with_reducible refine sb_i (store_new List.length_replicate (by rw [List.length_map]; exact ha) (cells_byte _)) ?_
      repeat first
        | refine ld1 gG c32 ?_
        | refine ld1 gG c33 ?_
        | refine ld1 gG c34 ?_
        | refine ld1 gG c35 ?_
      exact ⟨rfl, rfl, rfl⟩
    · repeat first
        | refine vb_i (e_fieldAddr _ _) ?_
        | refine vb_i hld ?_
        | refine ld1 gA c32 ?_
        | refine ld1 gA c33 ?_
        | refine ld1 gA c34 ?_
        | refine ld1 gA c35 ?_
      refine hb_i (e_alloc _ _) ?_
      with_reducible refine sb_i (store_new List.length_replicate (by rw [List.length_map]; exact ha) (cells_byte _)) ?_
      repeat first
        | refine ld1 gG c32 ?_
        | refine ld1 gG c33 ?_
        | refine ld1 gG c34 ?_
        | refine ld1 gG c35 ?_
      exact ⟨rfl, rfl, rfl⟩
    · repeat first
        | refine vb_i (e_fieldAddr _ _) ?_
        | refine vb_i hld ?_
        | refine ld1 gA c32 ?_
        | refine ld1 gA c33 ?_
        | refine ld1 gA c34 ?_
        | refine ld1 gA c35 ?_
      refine hb_i (e_alloc _ _) ?_
      with_reducible refine sb_i (store_new List.length_replicate (by rw [List.length_map]; exact ha) (cells_byte _)) ?_
      repeat first
        | refine ld1 gG c32 ?_
        | refine ld1 gG c33 ?_
        | refine ld1 gG c34 ?_
        | refine ld1 gG c35 ?_
      exact ⟨rfl, rfl, rfl⟩
    · repeat first
        | refine vb_i (e_fieldAddr _ _) ?_
        | refine vb_i hld ?_
        | refine ld1 gA c32 ?_
        | refine ld1 gA c33 ?_
        | refine ld1 gA c34 ?_
        | refine ld1 gA c35 ?_
      refine hb_i (e_alloc _ _) ?_
      with_reducible refine sb_i (store_new List.length_replicate (by rw [List.length_map]; exact ha) (cells_byte _)) ?_
      repeat first
        | refine ld1 gG c32 ?_
        | refine ld1 gG c33 ?_
        | refine ld1 gG c34 ?_
        | refine ld1 gG c35 ?_
      exact ⟨rfl, rfl, rfl⟩
    · repeat first
        | refine vb_i (e_fieldAddr _ _) ?_
        | refine vb_i hld ?_
        | refine ld1 gA c32 ?_
        | refine ld1 gA c33 ?_
        | refine ld1 gA c34 ?_
        | refine ld1 gA c35 ?_
      refine hb_i (e_alloc _ _) ?_
      with_reducible refine sb_i (store_new List.length_replicate (by rw [List.length_map]; exact ha) (cells_byte _)) ?_
      repeat first
        | refine ld1 gG c32 ?_
        | refine ld1 gG c33 ?_
        | refine ld1 gG c34 ?_
        | refine ld1 gG c35 ?_
      exact ⟨rfl, rfl, rfl⟩
    · repeat first
        | refine vb_i (e_fieldAddr _ _) ?_
        | refine vb_i hld ?_
        | refine ld1 gA c32 ?_
        | refine ld1 gA c33 ?_
        | refine ld1 gA c34 ?_
        | refine ld1 gA c35 ?_
      refine hb_i (e_alloc _ _) ?_
      with_reducible refine sb_i (store_new List.length_replicate (by rw [List.length_map]; exact ha) (cells_byte _)) ?_
      repeat first
        | refine ld1 gG c32 ?_
        | refine ld1 gG c33 ?_
        | refine ld1 gG c34 ?_
        | refine ld1 gG c35 ?_
      exact ⟨rfl, rfl, rfl⟩
    · repeat first
        | refine vb_i (e_fieldAddr _ _) ?_
        | refine vb_i hld ?_
        | refine ld1 gA c32 ?_
        | refine ld1 gA c33 ?_
        | refine ld1 gA c34 ?_
        | refine ld1 gA c35 ?_
      refine hb_i (e_alloc _ _) ?_
      with_reducible refine sb_i (store_new List.length_replicate (by rw [List.length_map]; exact ha) (cells_byte _)) ?_
      repeat first
        | refine ld1 gG c32 ?_
        | refine ld1 gG c33 ?_
        | refine ld1 gG c34 ?_
        | refine ld1 gG c35 ?_
      exact ⟨rfl, rfl, rfl⟩
    · repeat first
        | refine vb_i (e_fieldAddr _ _) ?_
        | refine vb_i hld ?_
        | refine ld1 gA c32 ?_
        | refine ld1 gA c33 ?_
        | refine ld1 gA c34 ?_
        | refine ld1 gA c35 ?_
      refine hb_i (e_alloc _ _) ?_
      with_reducible refine sb_i (store_new List.length_replicate (by rw [List.length_map]; exact ha) (cells_byte _)) ?_
      repeat first
        | refine ld1 gG c32 ?_
        | refine ld1 gG c33 ?_
        | refine ld1 gG c34 ?_
        | refine ld1 gG c35 ?_
      exact ⟨rfl, rfl, rfl⟩
    · repeat first
        | refine vb_i (e_fieldAddr _ _) ?_
        | refine vb_i hld ?_
        | refine ld1 gA c32 ?_
        | refine ld1 gA c33 ?_
        | refine ld1 gA c34 ?_
        | refine ld1 gA c35 ?_
      refine hb_i (e_alloc _ _) ?_
      with_reducible refine sb_i (store_new List.length_replicate (by rw [List.length_map]; exact ha) (cells_byte _)) ?_
      repeat first
        | refine ld1 gG c32 ?_
        | refine ld1 gG c33 ?_
        | refine ld1 gG c34 ?_
        | refine ld1 gG c35 ?_
      exact ⟨rfl, rfl, rfl⟩
  rintro _ _ B ⟨rfl, rfl, hB⟩
  rw [onE_same]
  try simp only [evB]
  have p1 : H' <+: B := by rw [hB]; exact p0.trans (pre_app _ _)
  have gB : B[A.length]? = some (.cells 0 .exact (a.map ofByte)) := by rw [hB, app_get0]; rfl
  clear gA gG c32 c33 c34 c35 h0 hld hlen hcl hA hB p0
  generalize A.length = k0 at *
  refine JoinP.mk (fun e vs E => B = E ∧ ((e = .ret ∧ vs = [.bool true]) ∨ (e = .normal ∧ vs = [.bool false] ∧ l.length ≤ 100 ∧ m.length ≤ 100))) ?_ ?_
  · refine vb_lenN hx.v ?_
    refine vb_i (gtr64 _ _ _) ?_
    refine isB_c (fun h1 => ?_) (fun h1 => ?_)
    · refine cb_i _ _ ⟨rfl, rfl, rfl⟩ ?_
      exact ⟨rfl, .inl ⟨rfl, rfl⟩⟩
    · refine vb_lenN hy.v ?_
      refine vb_i (gtr64 _ _ _) ?_
      refine isB_c (fun h2 => ?_) (fun h2 => ?_)
      · refine cb_i _ _ ⟨rfl, rfl, rfl⟩ ?_
        exact ⟨rfl, .inl ⟨rfl, rfl⟩⟩
      · exact ⟨rfl, .inr ⟨rfl, rfl, by omega, by omega⟩⟩
  rintro _ _ _ ⟨rfl, ⟨rfl, rfl⟩ | ⟨rfl, rfl, hl, hm⟩⟩
  · refine onE_s (by decide) ?_
    refine onE_i ?_
    try simp only [evB]
    exact fin_bool rfl p1
  rw [onE_same]
  try simp only [evB]
  refine cb_i _ _ ⟨rfl, rfl, rfl⟩ ?_
  have r0 := RunN.start B
  have gN : (newO B)[k0]? = some (.cells 0 .exact (a.map ofByte)) := by rw [pre_get (pre_newO B) (lt_of_some gB)]; exact gB
  refine vb_i (e_loadAll gN ham) ?_
  have vl := nextV_len a l
  have vm := nextV_len a m
  obtain ⟨C1, hS1, r1, _⟩ := r0.Next2 (by simp) ha (hx.pre (p1.trans (pre_newO B)))
  refine cb_i _ _ hS1 ?_
  refine vb_i e_ext0 ?_
  refine vb_i e_ext1 ?_
  refine hb_i (e_alloc _ _) ?_
  with_reducible refine sb_i (store_new List.length_replicate (by rw [List.length_map]; exact vl) (cells_byte _)) ?_
  have r2 := r1.push (.cells 0 .exact ((nextV a l).map ofByte))
  have g1 : (C1 ++ [AObj.cells 0 .exact ((nextV a l).map ofByte)])[C1.length]? = some (.cells 0 .exact ((nextV a l).map ofByte)) := by rw [app_get0]; rfl
  refine vb_i (e_loadAll (by rw [pre_get r2.pre (lt_of_some gB)]; exact gB) ham) ?_
  have hT1 := (keepTs_len (if good l then [nextT a l] else []) []).2
  have hT1' : (if good l then [nextT a l] else []).length ≤ 1 := by split <;> simp
  simp only [List.length_nil] at hT1
  obtain ⟨C2, hS2, r3, hk3⟩ := r2.Next2 (by omega) ha (hy.pre (p1.trans r2.pre))
  have hT2 := (keepTs_len (if good m then [nextT a m] else []) (keepTs [] (if good l then [nextT a l] else []))).2
  have hT2' : (if good m then [nextT a m] else []).length ≤ 1 := by split <;> simp
  refine cb_i _ _ hS2 ?_
  refine vb_i e_ext0 ?_
  refine vb_i e_ext1 ?_
  refine hb_i (e_alloc _ _) ?_
  with_reducible refine sb_i (store_new List.length_replicate (by rw [List.length_map]; exact vm) (cells_byte _)) ?_
  have r4 := r3.push (.cells 0 .exact ((nextV a m).map ofByte))
  have g2 : (C2 ++ [AObj.cells 0 .exact ((nextV a m).map ofByte)])[C2.length]? = some (.cells 0 .exact ((nextV a m).map ofByte)) := by rw [app_get0]; rfl
  have g3 : (C2 ++ [AObj.cells 0 .exact ((nextV a m).map ofByte)])[C1.length]? = some (.cells 0 .exact ((nextV a l).map ofByte)) := by
    have := hk3 _ (.inr rfl)
    rw [pre_get (pre_app _ _) (lt_of_some (this.trans g1)), this]; exact g1
  clear hS1 hS2 r1 r2 r3 hk3 g1 gN
  generalize C1.length = k1 at *
  generalize C2.length = k2 at *
  generalize C2 ++ [AObj.cells 0 .exact ((nextV a m).map ofByte)] = D at *
  have memT : ∀ t, t ∈ keepTs (keepTs [] (if good l then [nextT a l] else [])) (if good m then [nextT a m] else []) ↔ (good l ∧ t = nextT a l) ∨ (good m ∧ t = nextT a m) := by
    intro t
    rw [keepTs_mem, keepTs_mem]
    by_cases g1 : good l <;> by_cases g2 : good m <;> simp [g1, g2]
  generalize keepTs (keepTs [] (if good l then [nextT a l] else [])) (if good m then [nextT a m] else []) = T at *
  obtain ⟨mv, lv, rep⟩ := r4.rep
  refine JoinP.mk (fun e vs E => e = .normal ∧ vs = [.bool false] ∧ D = E) ?_ ?_
  · refine vb_i (eql64 _ _ _) ?_
    refine isB_c (fun h1 => ?_) (fun h1 => ?_)
    rotate_left
    · exact ⟨rfl, rfl, rfl⟩
    refine vb_i (eql64 _ _ _) ?_
    refine isB_c (fun h2 => ?_) (fun h2 => ?_)
    rotate_left
    · exact ⟨rfl, rfl, rfl⟩
    refine vb_i (e_loadAll g3 (by rw [List.length_map]; exact vl)) ?_
    refine vb_i (e_loadAll g2 (by rw [List.length_map]; exact vm)) ?_
    refine vb_i (e_eqBytes vl vm) ?_
    refine isB_c (fun h3 => ?_) (fun h3 => ?_)
    rotate_left
    · exact ⟨rfl, rfl, rfl⟩
    refine cb_i _ _ (same_vwN (hx.pre (p1.trans r4.pre)).v (hy.pre (p1.trans r4.pre)).v (by omega)) ?_
    refine vb_i e_notd ?_
    refine isB_c (fun h4 => ?_) (fun h4 => ?_)
    rotate_left
    · exact ⟨rfl, rfl, rfl⟩
    refine cb_i _ _ ⟨_, rfl, rfl, .inr ⟨_, _, _, _, _, _, rfl, rep, by omega, rfl⟩⟩ ?_
    have gl : good l := by
      unfold nextE at h1; split at h1
      · assumption
      · cases h1
    have gm : good m := by
      unfold nextE at h2; split at h2
      · assumption
      · cases h2
    have hne : pairs T (sums T) T.length ≠ none := fun hp => by
      rw [nextV, nextV, if_pos gl, if_pos gm] at h3
      exact h4 (next_apart hp ha ha gl gm ((memT _).2 (.inl ⟨gl, rfl⟩)) ((memT _).2 (.inr ⟨gm, rfl⟩)) h3).2
    obtain ⟨s, t, hcr⟩ := collide_true hne
    rw [hcr]
    refine vb_i e_ext0 ?_
    refine vb_i e_ext1 ?_
    refine vb_i e_ext2 ?_
    refine vb_i (e_not _) ?_
    refine isB_Fa rfl ?_
    exact ⟨rfl, rfl, rfl⟩
  rintro _ _ _ ⟨rfl, rfl, rfl⟩
  rw [onE_same]
  try simp only [evB]
  refine JoinP.mk (fun e vs E => D = E ∧ ((e = .ret ∧ vs = [.bool true]) ∨ (e = .normal ∧ vs = [.bool false] ∧ rs.length ≤ 6 ∧ rs.length = ss.length))) ?_ ?_
  · refine vb_len hu.v ?_
    refine vb_i (gtr64 _ _ _) ?_
    refine isB_c (fun h1 => ?_) (fun h1 => ?_)
    · refine cb_i _ _ ⟨rfl, rfl, rfl⟩ ?_
      exact ⟨rfl, .inl ⟨rfl, rfl⟩⟩
    · refine vb_len hu.v ?_
      refine vb_len hw.v ?_
      refine vb_i (neq64 _ _ _) ?_
      refine isB_c (fun h2 => ?_) (fun h2 => ?_)
      · refine cb_i _ _ ⟨rfl, rfl, rfl⟩ ?_
        exact ⟨rfl, .inl ⟨rfl, rfl⟩⟩
      · exact ⟨rfl, .inr ⟨rfl, rfl, by omega, by omega⟩⟩
  rintro _ _ _ ⟨rfl, ⟨rfl, rfl⟩ | ⟨rfl, rfl, hr6, hrs⟩⟩
  · refine onE_s (by decide) ?_
    refine onE_i ?_
    try simp only [evB]
    exact fin_bool rfl (p1.trans r4.pre)
  rw [onE_same]
  try simp only [evB]
  have hu' : RowsAt B u us rs := hu.pre p1
  have hw' : RowsAt B w ws ss := hw.pre p1
  have wl := alongV_len ha rs
  have wm := alongV_len ha ss
  refine vb_i (e_loadAll (by rw [pre_get r4.pre (lt_of_some gB)]; exact gB) ham) ?_
  clear rep
  obtain ⟨C3, hS3, r5, _⟩ := r4.Along (by omega) ha hu'
  refine cb_i _ _ hS3 ?_
  refine vb_i e_ext0 ?_
  refine vb_i e_ext1 ?_
  refine hb_i (e_alloc _ _) ?_
  with_reducible refine sb_i (store_new List.length_replicate (by rw [List.length_map]; exact wl) (cells_byte _)) ?_
  have r6 := r5.push (.cells 0 .exact ((alongV a rs).map ofByte))
  have g4 : (C3 ++ [AObj.cells 0 .exact ((alongV a rs).map ofByte)])[C3.length]? = some (.cells 0 .exact ((alongV a rs).map ofByte)) := by rw [app_get0]; rfl
  refine vb_i (e_loadAll (by rw [pre_get r6.pre (lt_of_some gB)]; exact gB) ham) ?_
  have hT3 := (keepTs_len (alongT a rs) T).2
  have hT3' := alongT_len rs a
  obtain ⟨C4, hS4, r7, hk7⟩ := r6.Along (by omega) ha hw'
  have hT4 := (keepTs_len (alongT a ss) (keepTs T (alongT a rs))).2
  have hT4' := alongT_len ss a
  refine cb_i _ _ hS4 ?_
  refine vb_i e_ext0 ?_
  refine vb_i e_ext1 ?_
  refine hb_i (e_alloc _ _) ?_
  with_reducible refine sb_i (store_new List.length_replicate (by rw [List.length_map]; exact wm) (cells_byte _)) ?_
  have r8 := r7.push (.cells 0 .exact ((alongV a ss).map ofByte))
  have g5 : (C4 ++ [AObj.cells 0 .exact ((alongV a ss).map ofByte)])[C4.length]? = some (.cells 0 .exact ((alongV a ss).map ofByte)) := by rw [app_get0]; rfl
  have g6 : (C4 ++ [AObj.cells 0 .exact ((alongV a ss).map ofByte)])[C3.length]? = some (.cells 0 .exact ((alongV a rs).map ofByte)) := by
    have := hk7 _ (.inr rfl)
    rw [pre_get (pre_app _ _) (lt_of_some (this.trans g4)), this]; exact g4
  clear hS3 hS4 r5 r6 r7 hk7 g4
  generalize C3.length = k3 at *
  generalize C4.length = k4 at *
  generalize C4 ++ [AObj.cells 0 .exact ((alongV a ss).map ofByte)] = F at *
  have m1 : ∀ t ∈ alongT a rs, t ∈ keepTs (keepTs T (alongT a rs)) (alongT a ss) := fun t h => by rw [keepTs_mem, keepTs_mem]; exact .inl (.inr h)
  have m2 : ∀ t ∈ alongT a ss, t ∈ keepTs (keepTs T (alongT a rs)) (alongT a ss) := fun t h => by rw [keepTs_mem]; exact .inr h
  obtain ⟨mv, lv, rep⟩ := r8.rep
  generalize keepTs (keepTs T (alongT a rs)) (alongT a ss) = T2 at *
  have p8 := p1.trans r8.pre
  have hu8 := hu.pre p8
  have hw8 := hw.pre p8
  refine LoopP.ruleG (α := Nat) (fun i => [.bool (decide (rs.take i = ss.take i)), .int .i64 (i : Int)]) (fun i G => i ≤ rs.length ∧ F = G) (fun i => rs.length - i) 0 (by simp) ⟨Nat.zero_le _, rfl⟩ ?_
  rintro i _ Kn ⟨hi, rfl⟩ hn
  unfold cellaretlaw14_ChainApart.L17 cellaretlaw14_ChainApart.L17.b
  try simp only [evB]
  refine JoinP.mk (fun e vs G => F = G ∧ ((e = .normal ∧ i < rs.length) ∨ (e = .exit 0 ∧ i = rs.length))) ?_ ?_
  · refine vb_len hu8.v ?_
    refine vb_i (lss64 _ _ _) ?_
    refine isB_c (fun h1 => ?_) (fun h1 => ?_)
    · refine vb_len hw8.v ?_
      refine vb_i (lss64 _ _ _) ?_
      refine isB_ct (by omega) ?_
      exact ⟨rfl, .inl ⟨rfl, by omega⟩⟩
    · exact ⟨rfl, .inr ⟨rfl, by omega⟩⟩
  rintro _ _ _ ⟨rfl, ⟨rfl, hil⟩ | ⟨rfl, rfl⟩⟩
  · refine onE_s (by decide) ?_
    refine onE_i ?_
    have hil2 : i < ss.length := by omega
    have gr : rs[i]? = some (rs.getD i []) := by rw [List.getD_eq_getElem?_getD, List.getElem?_eq_getElem hil]; rfl
    have gs : ss[i]? = some (ss.getD i []) := by rw [List.getD_eq_getElem?_getD, List.getElem?_eq_getElem hil2]; rfl
    have tr : rs.take (i + 1) = rs.take i ++ [rs.getD i []] := by rw [List.take_add_one, gr]; rfl
    have ts : ss.take (i + 1) = ss.take i ++ [ss.getD i []] := by rw [List.take_add_one, gs]; rfl
    have tl : (rs.take i).length = (ss.take i).length := by rw [List.length_take, List.length_take]; omega
    by_cases h5 : rs.take i = ss.take i
    · rw [decide_eq_true h5]
      refine isB_Tr rfl ?_
      obtain ⟨q, q1, q2⟩ := hu8.v.at1 (k := (i : Int)) (kd := .i64) (by omega) (by omega) (List.prefix_refl _)
      obtain ⟨z, z1, z2⟩ := hw8.v.at1 (k := (i : Int)) (kd := .i64) (by omega) (by omega) (List.prefix_refl _)
      rw [Int.toNat_natCast] at q2 z2
      refine vb_i q1 (vb_i q2 (vb_i z1 (vb_i z2 ?_)))
      refine cb_i _ _ (same_vwN (hu8.each i hil).v (hw8.each i hil2).v (hu8.each i hil).hl) ?_
      refine vb_i (add64 (by omega) (by omega)) ?_
      have := hn (i + 1) F ⟨by omega, rfl⟩ (by omega)
      have e : decide (rs.take (i + 1) = ss.take (i + 1)) = decide (rs.getD i [] = ss.getD i []) := by
        rw [tr, ts, h5]
        exact decide_eq_decide.2 ⟨fun h => by have := List.append_cancel_left h; simpa using this, fun h => by rw [h]⟩
      rw [e] at this
      exact this
    · rw [decide_eq_false h5]
      refine isB_Fa rfl ?_
      refine vb_i (add64 (by omega) (by omega)) ?_
      have := hn (i + 1) F ⟨by omega, rfl⟩ (by omega)
      have e : decide (rs.take (i + 1) = ss.take (i + 1)) = false := decide_eq_false (fun h => by
        rw [tr, ts] at h
        exact h5 (List.append_inj h tl).1)
      rw [e] at this
      exact this
  clear hn
  rw [List.take_length, hrs, List.take_length]
  refine onE_i ?_
  try simp only [evB]
  refine JoinP.mk (fun e vs G => F = G ∧ ((e = .ret ∧ vs = [.bool true]) ∨ (e = .normal ∧ alongE a rs = 0 ∧ alongE a ss = 0 ∧ alongV a rs = alongV a ss ∧ rs ≠ ss))) ?_ ?_
  · refine vb_i (neq64 _ _ _) ?_
    refine isB_c (fun h1 => ?_) (fun h1 => ?_)
    · refine cb_i _ _ ⟨rfl, rfl, rfl⟩ ?_
      exact ⟨rfl, .inl ⟨rfl, rfl⟩⟩
    refine vb_i (neq64 _ _ _) ?_
    refine isB_c (fun h2 => ?_) (fun h2 => ?_)
    · refine cb_i _ _ ⟨rfl, rfl, rfl⟩ ?_
      exact ⟨rfl, .inl ⟨rfl, rfl⟩⟩
    refine vb_i (e_loadAll g6 (by rw [List.length_map]; exact wl)) ?_
    refine vb_i (e_loadAll g5 (by rw [List.length_map]; exact wm)) ?_
    refine vb_i (e_neBytes wl wm) ?_
    refine isB_c (fun h3 => ?_) (fun h3 => ?_)
    · refine cb_i _ _ ⟨rfl, rfl, rfl⟩ ?_
      exact ⟨rfl, .inl ⟨rfl, rfl⟩⟩
    refine isB_c (fun h4 => ?_) (fun h4 => ?_)
    · refine cb_i _ _ ⟨rfl, rfl, rfl⟩ ?_
      exact ⟨rfl, .inl ⟨rfl, rfl⟩⟩
    exact ⟨rfl, .inr ⟨rfl, by omega, by omega, Classical.not_not.1 h3, h4⟩⟩
  rintro _ _ _ ⟨rfl, ⟨rfl, rfl⟩ | ⟨rfl, hE1, hE2, hV, hne⟩⟩
  · refine onE_s (by decide) ?_
    refine onE_i ?_
    try simp only [evB]
    exact fin_bool rfl p8
  rw [onE_same]
  refine cb_i _ _ ⟨_, rfl, rfl, .inr ⟨_, _, _, _, _, _, rfl, rep, by omega, rfl⟩⟩ ?_
  have hne2 : pairs T2 (sums T2) T2.length ≠ none := fun hp => by
    unfold alongE at hE1 hE2
    unfold alongV at hV
    cases h1 : alongR a rs with
    | none => rw [h1] at hE1; cases hE1
    | some b =>
      cases h2 : alongR a ss with
      | none => rw [h2] at hE2; cases hE2
      | some c =>
        rw [h1, h2] at hV
        simp only [Option.getD_some] at hV
        subst hV
        exact hne (along_apart hp rs ss a a b ha ha hrs h1 h2 m1 m2).2
  obtain ⟨s, t, hcr⟩ := collide_true hne2
  rw [hcr]
  refine vb_i e_ext0 ?_
  refine vb_i e_ext1 ?_
  refine vb_i e_ext2 ?_
  refine cb_i _ _ ⟨rfl, rfl, rfl⟩ ?_
  refine isB_Tr rfl ?_
  exact fin_bool rfl p8
end Go.Sh

/- Rows of rows that come in. -/
namespace Go.Sh
open Go Go.Abs
section
variable {H : Type} {P : Program} {B : AHeap} {top : Bool} {F : DataW H → Nat}
theorem row_in (hS : ∀ elems spare d, d ∈ elems → F d ≤ F (.slice elems spare)) (hL : ∀ s, s.length ≤ F (.lit (.string s))) {t e : TypeId} {cs : List AVal} {d : DataW H} (ht : P.underlying t = some (.slice e)) (he : P.underlying e = some .string) (hc1 : P.cellsOf e = 1)
    (h : Arg P B top t cs d) : ∃ a l, cs = [a] ∧ (F d ≤ 1048576 → NArgs B a l) := by
  rcases Arg.slice_inv ht h with ⟨h1, h2⟩ | ⟨_, i, h1, h2⟩ | ⟨i, off, len, cap, cs', elems, spare, h1, rfl, hb, hc, hm, hel, hs, hl, ha⟩
  · exact ⟨_, [], h1, fun _ => ⟨.inl ⟨rfl, .inl ⟨rfl, rfl⟩⟩, by simp, by simp⟩⟩
  · exact ⟨_, [], h1, fun _ => ⟨.inr ⟨rfl, rfl, _, _, rfl⟩, by simp, by simp⟩⟩
  · have hA : Arg P B true t [.slice ⟨i, 1, off⟩ len (.ex cap)] (.slice elems spare) := .slice ht hb hc hm hel hs hl ha
    obtain ⟨l, v1, v2, v3⟩ := hA.viewR (fun s => [.str s]) (fun s d => d = .lit (.string s)) (fun _ => by rw [hc1]; rfl) ht (fun cs d h => by obtain ⟨s, hs, hd, _⟩ := Arg.str_inv he h; exact ⟨s, hs, hd⟩)
    rw [hc1, flatten_one AVal.str] at v1
    refine ⟨_, l, h1, fun hb => ⟨.inl v1, Nat.le_trans v2 (by decide), fun s hs => ?_⟩⟩
    obtain ⟨k, hkk⟩ := List.getElem?_of_mem hs
    rcases v3 with rfl | ⟨elems', spare', e, v3⟩
    · cases hs
    · cases e
      obtain ⟨y, hy, rfl⟩ := v3 k s hkk
      have h1 := hS elems spare _ (List.mem_of_getElem? hy)
      have h2 := hL s
      omega
theorem rows_in (hS : ∀ elems spare d, d ∈ elems → F d ≤ F (.slice elems spare)) (hL : ∀ s, s.length ≤ F (.lit (.string s))) (hN : ∀ elems spare, elems.length ≤ F (.slice elems spare)) {t e g : TypeId} {a : AVal} {d : DataW H}
    (ht : P.underlying t = some (.slice e)) (he : P.underlying e = some (.slice g)) (hg : P.underlying g = some .string) (hce : P.cellsOf e = 1) (hcg : P.cellsOf g = 1) (h : Arg P B true t [a] d) (hb : F d ≤ 1048576) : ∃ us rs, RowsAt B a us rs := by
  obtain ⟨l, v1, _, v3⟩ := h.viewR (fun b : AVal × List (List UInt8) => [b.1]) (fun b d => F d ≤ 1048576 → NArgs B b.1 b.2) (fun _ => by rw [hce]; rfl) ht (fun cs d h => by
    obtain ⟨a, l, rfl, k⟩ := row_in hS hL he hg hcg h
    exact ⟨(a, l), rfl, k⟩)
  rw [hce, flatten_one (fun b : AVal × List (List UInt8) => b.1)] at v1
  have hall : ∀ (k : Nat) b, l[k]? = some b → NArgs B b.1 b.2 := by
    intro k b hkb
    rcases v3 with rfl | ⟨elems, spare, rfl, v3⟩
    · simp at hkb
    · obtain ⟨y, hy, hR⟩ := v3 k b hkb
      have := hS elems spare _ (List.mem_of_getElem? hy)
      exact hR (by omega)
  have hlen : l.length ≤ 1048576 := by
    rcases v3 with rfl | ⟨elems, spare, rfl, v3⟩
    · simp
    · have h1 := hN elems spare
      rcases Nat.eq_zero_or_pos l.length with h0 | h0
      · omega
      · obtain ⟨y, hy, _⟩ := v3 (l.length - 1) _ (List.getElem?_eq_getElem (by omega))
        have := (List.getElem?_eq_some_iff.1 hy).1
        omega
  refine ⟨l.map (·.1), l.map (·.2), by simpa using v1, by simpa using hlen, fun i hi => ?_⟩
  rw [List.length_map] at hi
  have := hall i _ (List.getElem?_eq_getElem hi)
  simpa [List.getD_eq_getElem?_getD, List.getElem?_eq_getElem hi] using this
end
end Go.Sh
