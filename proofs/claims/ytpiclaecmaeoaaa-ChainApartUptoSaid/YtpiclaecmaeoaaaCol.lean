/- One text of these: Col0, ColW1, ColP1, ColP2, ColQ. -/
import Derived.Test.YtpiclaecmaeoaaaPair
import Derived.Test.YtpiclaecmaeoaaaChain

/- Collisions among what was summed. -/
namespace Go.Sh
open Go Go.Abs

/-- Maps whose keys are sums. -/
def dents (ks : List (List UInt8)) : List (AVal × AVal) := ks.map fun d => (.agg (d.map ofByte), .bool true)
theorem u8_all (d : List UInt8) : (d.map ofByte).all isU8 = true := by
  rw [List.all_eq_true]; intro x hx
  obtain ⟨b, _, rfl⟩ := List.mem_map.1 hx; rfl
theorem keyOk_d {d : List UInt8} (hd : d.length = 32) : keyOk (.arr 32) (.agg (d.map ofByte)) = true := by
  simp only [keyOk, u8_all, List.length_map, hd, Bool.and_true]; rfl
theorem keyEq_d {d e : List UInt8} (hd : d.length = 32) (he : e.length = 32) : keyEq (.arr 32) (.agg (d.map ofByte)) (.agg (e.map ofByte)) = some (decide (d = e)) := by
  simp only [keyEq, eqCells_byte 32 d e hd he]
theorem find_d {d : List UInt8} (hd : d.length = 32) : ∀ (ks : List (List UInt8)) (i : Nat), (∀ e ∈ ks, e.length = 32) →
    (d ∉ ks ∧ findKey (.arr 32) (.agg (d.map ofByte)) (dents ks) i = some none) ∨ (d ∈ ks ∧ ∃ j, ks[j]? = some d ∧ findKey (.arr 32) (.agg (d.map ofByte)) (dents ks) i = some (some (i + j, .bool true)))
  | [], i, _ => .inl ⟨by simp, rfl⟩
  | e :: ks, i, h => by
    have he := h e List.mem_cons_self
    by_cases e1 : d = e
    · subst e1
      exact .inr ⟨List.mem_cons_self, 0, rfl, by simp [dents, findKey, keyEq_d hd hd]⟩
    · rcases find_d hd ks (i + 1) fun x hx => h x (List.mem_cons_of_mem _ hx) with ⟨h1, h2⟩ | ⟨h1, j, h2, h3⟩
      · refine .inl ⟨fun hm => ?_, ?_⟩
        · rcases List.mem_cons.1 hm with h | h
          · exact e1 h
          · exact h1 h
        · simp only [dents] at h2
          simp only [dents, List.map_cons, findKey, keyEq_d hd he, e1, decide_false, h2]
      · refine .inr ⟨List.mem_cons_of_mem _ h1, j + 1, by simpa using h2, ?_⟩
        simp only [dents] at h3
        simp only [dents, List.map_cons, findKey, keyEq_d hd he, e1, decide_false, h3]
        rw [Nat.add_assoc, Nat.add_comm 1 j]
theorem look_d {C : AHeap} {m w : Nat} {ks : List (List UInt8)} (h : C[m]? = some (.map w (dents ks))) (hk : ∀ e ∈ ks, e.length = 32) {d : List UInt8} (hd : d.length = 32) :
    aLookup C (.arr 32) (.bool false) false (.map m) (.agg (d.map ofByte)) = some (.bool (decide (d ∈ ks))) := by
  simp only [aLookup, keyOk_d hd, cond_true, h]
  rcases find_d hd ks 0 hk with ⟨h1, h2⟩ | ⟨h1, j, _, h2⟩
  · rw [h2]; simp [h1, lookupOut]
  · rw [h2]; simp [h1, lookupOut]
theorem one_str' (H : AHeap) (s : List UInt8) : aBuildSlice H 1 [.str []] 1 [(0, .str s)] = some (.slice ⟨H.length, 0, 0⟩ 1 (.ex 1), H ++ [.cells 0 .exact [.str s]]) := rfl
def insK (ks : List (List UInt8)) (d : List UInt8) : List (List UInt8) := if d ∈ ks then ks else ks ++ [d]
theorem put_d {C : AHeap} {m w : Nat} {ks : List (List UInt8)} (h : C[m]? = some (.map w (dents ks))) (hk : ∀ e ∈ ks, e.length = 32) {d : List UInt8} (hd : d.length = 32) :
    aMapUpdate C (.arr 32) (.map m) (.agg (d.map ofByte)) (.bool true) = some (C.set m (.map (w + 1) (dents (insK ks d)))) := by
  simp only [aMapUpdate, keyOk_d hd, cond_true, h]
  rcases find_d hd ks 0 hk with ⟨h1, h2⟩ | ⟨h1, j, h3, h2⟩
  · rw [h2]; simp [insK, h1, dents]
  · rw [h2]
    simp only [Nat.zero_add, insK, h1, if_true]
    congr 4
    have : (dents ks)[j]? = some (.agg (d.map ofByte), .bool true) := by simp [dents, h3]
    apply List.ext_getElem?
    intro k
    by_cases e : j = k
    · subst e
      rw [List.getElem?_set_self (List.getElem?_eq_some_iff.1 this).1, this]
    · rw [List.getElem?_set_ne e]
theorem insK_mem {ks : List (List UInt8)} {d e : List UInt8} : e ∈ insK ks d ↔ e ∈ ks ∨ e = d := by
  unfold insK; split
  · rename_i h
    constructor
    · exact .inl
    · rintro (h1 | rfl)
      · exact h1
      · exact h
  · simp

theorem sums_get {T : List (List UInt8)} {i : Nat} (h : i < T.length) : ((sums T).getD i d0).1 = sum (T.getD i []) := by
  simp [sums, sumD, List.getD_eq_getElem?_getD, List.getElem?_eq_getElem h]
theorem sums_len (T : List (List UInt8)) : (sums T).length = T.length := by simp [sums]
/-- What pairs tells. -/
theorem pairs_inv {l : List (List UInt8)} {dd : List D32} : ∀ {n i k : Nat}, pairs l dd n = some (i, k) → i < k ∧ k < n ∧ like l dd i k = true
  | n + 1, i, k, h => by
    unfold pairs at h
    split at h
    · rename_i p hp
      cases h
      obtain ⟨h1, h2, h3⟩ := pairs_inv hp
      exact ⟨h1, by omega, h3⟩
    · simp only [Option.map_eq_some_iff, Prod.mk.injEq] at h
      obtain ⟨j, hj, rfl, rfl⟩ := h
      have := List.find?_some hj
      have hm := List.mem_of_find?_eq_some hj
      exact ⟨by simpa using hm, by omega, this⟩
theorem pairs_no {l : List (List UInt8)} {dd : List D32} : ∀ {n : Nat}, pairs l dd n = none → ∀ i k, i < k → k < n → like l dd i k = false
  | n + 1, h, i, k, hik, hk => by
    unfold pairs at h
    split at h
    · cases h
    · rename_i hp
      by_cases e : k = n
      · subst e
        have : ahead l dd k = none := by simpa using h
        unfold ahead at this
        rw [List.find?_eq_none] at this
        have := this i (by simpa using hik)
        simpa using this
      · exact pairs_no hp i k hik (by omega)
def S_cellaretlaw06_OracleTells : Abs.Spec := fun args H r H' => ∃ x l, args = [x] ∧ View H x 1 l.length (strs l) ∧ l.length ≤ 9223372036854775807 ∧ r = .bool true ∧ H' = H
end Go.Sh

/- What Go functions come to over abstract values, printed by a program (wtext.py). -/
namespace Go.Sh
open Go Go.Abs

def oracle_Oracle_Collide.L6.b (v8 : AVal) (v7 : AVal) (v3 : AVal) (x6_6 : AVal) (x24_6 : AVal) (H9 : AHeap) (Kn10 : List AVal → AHeap → Prop) (Ke11 : AExit → List AVal → AHeap → Prop) : Prop :=
  vb (aBin .lss x24_6 v8) fun v12 =>
  isB v12 fun b13 => cond b13
    (vb (aIndexAddr 33 v7 x24_6) fun v14 =>
    vb (aLoad H9 true 33 v14) fun v15 =>
    hb (aAlloc H9 [.str [], .int .u8 0, .int .u8 0, .int .u8 0, .int .u8 0, .int .u8 0, .int .u8 0, .int .u8 0, .int .u8 0, .int .u8 0, .int .u8 0, .int .u8 0, .int .u8 0, .int .u8 0, .int .u8 0, .int .u8 0, .int .u8 0, .int .u8 0, .int .u8 0, .int .u8 0, .int .u8 0, .int .u8 0, .int .u8 0, .int .u8 0, .int .u8 0, .int .u8 0, .int .u8 0, .int .u8 0, .int .u8 0, .int .u8 0, .int .u8 0, .int .u8 0, .int .u8 0]) fun v16 H17 =>
    sb (aStore H17 33 v16 v15) fun H18 =>
    JoinP (fun Kj19 => isB x6_6 fun b20 => cond b20
        (Kj19 .normal [.bool true] H18)
        (vb (aFieldAddr 1 v16) fun v21 =>
          vb (aLoad H18 true 32 v21) fun v22 =>
            vb (aLookup H18 (.arr 32) (.bool false) false v3 v22) fun v23 =>
              Kj19 .normal [v23] H18))
    (fun e24 vs25 H26 =>
      onE e24 .normal
        (vb (aFieldAddr 1 v16) fun v27 =>
        vb (aLoad H26 true 32 v27) fun v28 =>
        sb (aMapUpdate H26 (.arr 32) v3 v28 (.bool true)) fun H29 =>
        vb (aBin .add x24_6 (.int .i64 1)) fun v30 =>
        Kn10 [vs25.getD 0 .undef, v30] H29)
      (False)))
    (Ke11 (.exit 0) [x6_6] H9)

def oracle_Oracle_Collide.L6 (v8 : AVal) (v7 : AVal) (v3 : AVal) : Body := fun vs H Kn Ke => oracle_Oracle_Collide.L6.b v8 v7 v3 (vs.getD 0 .undef) (vs.getD 1 .undef) H Kn Ke

def oracle_Oracle_Collide.L16.b (v39 : AVal) (v38 : AVal) (x9_16 : AVal) (x10_16 : AVal) (x46_16 : AVal) (H40 : AHeap) (Kn41 : List AVal → AHeap → Prop) (Ke42 : AExit → List AVal → AHeap → Prop) : Prop :=
  vb (aBin .lss x46_16 v39) fun v43 =>
  isB v43 fun b44 => cond b44
    (vb (aIndexAddr 33 v38 x46_16) fun v45 =>
    vb (aLoad H40 true 33 v45) fun v46 =>
    hb (aAlloc H40 [.str [], .int .u8 0, .int .u8 0, .int .u8 0, .int .u8 0, .int .u8 0, .int .u8 0, .int .u8 0, .int .u8 0, .int .u8 0, .int .u8 0, .int .u8 0, .int .u8 0, .int .u8 0, .int .u8 0, .int .u8 0, .int .u8 0, .int .u8 0, .int .u8 0, .int .u8 0, .int .u8 0, .int .u8 0, .int .u8 0, .int .u8 0, .int .u8 0, .int .u8 0, .int .u8 0, .int .u8 0, .int .u8 0, .int .u8 0, .int .u8 0, .int .u8 0, .int .u8 0]) fun v47 H48 =>
    sb (aStore H48 33 v47 v46) fun H49 =>
    (vb (aFieldAddr 0 v47) fun v50 =>
      vb (aLoad H49 false 1 v50) fun v51 =>
      hb (aBuildSlice H49 1 [.str []] 1 [(0, v51)]) fun v52 H53 =>
      hb (aAppendS H53 1 16 x9_16 v52) fun v54 H55 =>
      vb (aFieldAddr 1 v47) fun v56 =>
      vb (aLoad H55 true 32 v56) fun v57 =>
      hb (aBuildSlice H55 32 (List.replicate 32 (.int .u8 0)) 1 [(0, v57)]) fun v58 H59 =>
      hb (aAppendS H59 32 32 x10_16 v58) fun v60 H61 =>
      vb (aBin .add x46_16 (.int .i64 1)) fun v62 =>
      Kn41 [v54, v60, v62] H61) ∧
    ((vb (aFieldAddr 0 v47) fun v63 =>
        vb (aLoad H49 false 1 v63) fun v64 =>
        hb (aBuildSlice H49 1 [.str []] 1 [(0, v64)]) fun v65 H66 =>
        vb (aFieldAddr 1 v47) fun v67 =>
        vb (aLoad H66 true 32 v67) fun v68 =>
        hb (aAppendS H66 1 16 x9_16 v65) fun v69 H70 =>
        hb (aBuildSlice H70 32 (List.replicate 32 (.int .u8 0)) 1 [(0, v68)]) fun v71 H72 =>
        hb (aAppendS H72 32 32 x10_16 v71) fun v73 H74 =>
        vb (aBin .add x46_16 (.int .i64 1)) fun v75 =>
        Kn41 [v69, v73, v75] H74) ∧
      (vb (aFieldAddr 0 v47) fun v76 =>
        vb (aLoad H49 false 1 v76) fun v77 =>
        hb (aBuildSlice H49 1 [.str []] 1 [(0, v77)]) fun v78 H79 =>
        vb (aFieldAddr 1 v47) fun v80 =>
        vb (aLoad H79 true 32 v80) fun v81 =>
        hb (aBuildSlice H79 32 (List.replicate 32 (.int .u8 0)) 1 [(0, v81)]) fun v82 H83 =>
        hb (aAppendS H83 1 16 x9_16 v78) fun v84 H85 =>
        hb (aAppendS H85 32 32 x10_16 v82) fun v86 H87 =>
        vb (aBin .add x46_16 (.int .i64 1)) fun v88 =>
        Kn41 [v84, v86, v88] H87)))
    (Ke42 (.exit 2) [x9_16, x10_16] H40)

def oracle_Oracle_Collide.L16 (v39 : AVal) (v38 : AVal) : Body := fun vs H Kn Ke => oracle_Oracle_Collide.L16.b v39 v38 (vs.getD 0 .undef) (vs.getD 1 .undef) (vs.getD 2 .undef) H Kn Ke

def oracle_Oracle_Collide.w (x0 : AVal) (H : AHeap) (K : AVal → AHeap → Prop) : Prop :=
  vb (aEql false .ptr H x0 .nilp) fun v1 =>
  isB v1 fun b2 => cond b2
    (fin .ret [.v (.str []), .v (.str []), .v (.bool false)] H K)
    (hb (aMakeMap H) fun v3 H4 =>
    vb (aNilCheck x0) fun v5 =>
    vb (aFieldAddr 0 v5) fun v6 =>
    vb (aLoad H4 false 1 v6) fun v7 =>
    vb (lenSl v7) fun v8 =>
    LoopP (oracle_Oracle_Collide.L6 v8 v7 v3) [.bool false, .int .i64 0] H4 fun e31 vs32 H33 =>
      onE e31 (.exit 0)
        (vb (aUn .not (vs32.getD 0 .undef)) fun v34 =>
        isB v34 fun b35 => cond b35
          (fin .ret [.v (.str []), .v (.str []), .v (.bool false)] H33 K)
          (vb (aNilCheck x0) fun v36 =>
          vb (aFieldAddr 0 v36) fun v37 =>
          vb (aLoad H33 false 1 v37) fun v38 =>
          vb (lenSl v38) fun v39 =>
          LoopP (oracle_Oracle_Collide.L16 v39 v38) [.nils, .nils, .int .i64 0] H33 fun e89 vs90 H91 =>
            onE e89 (.exit 2)
              (cb (S_oracle_Pair [vs90.getD 0 .undef, vs90.getD 1 .undef] H91) fun v92 H93 =>
              vb (aExtract v92 0) fun v94 =>
              vb (aExtract v92 1) fun v95 =>
              vb (aExtract v92 2) fun v96 =>
              vb (aUn .not v96) fun v97 =>
              isB v97 fun b98 => cond b98
                (fin .ret [.v (.str []), .v (.str []), .v (.bool false)] H93 K)
                (vb (aIndexAddr 1 (vs90.getD 0 .undef) v94) fun v99 =>
                vb (aLoad H93 false 1 v99) fun v100 =>
                vb (aIndexAddr 1 (vs90.getD 0 .undef) v95) fun v101 =>
                vb (aLoad H93 false 1 v101) fun v102 =>
                fin .ret [.v (v100), .v (v102), .v (.bool true)] H93 K))
            (False)))
      (False))

def cellaretlaw06_OracleTells.L4.b (x0 : AVal) (v1 : AVal) (x4_4 : AVal) (x5_4 : AVal) (H3 : AHeap) (Kn4 : List AVal → AHeap → Prop) (Ke5 : AExit → List AVal → AHeap → Prop) : Prop :=
  JoinP (fun Kj6 => vb (lenSl x0) fun v7 =>
    vb (aBin .lss x5_4 v7) fun v8 =>
    isB v8 fun b9 => cond b9
      (vb (aBin .lss x5_4 (.int .i64 40)) fun v10 =>
        isB v10 fun b11 => cond b11
          (Kj6 .normal [] H3)
          (Kj6 (.exit 0) [] H3))
      (Kj6 (.exit 0) [] H3))
  (fun e12 vs13 H14 =>
    onE e12 (.exit 0)
      (Ke5 (.exit 0) [x4_4] H14)
    (onE e12 .normal
      (vb (aIndexAddr 1 x0 x5_4) fun v15 =>
      vb (aLoad H14 false 1 v15) fun v16 =>
      vb (lenSt v16) fun v17 =>
      vb (aBin .leq v17 (.int .i64 300)) fun v18 =>
      isB v18 fun b19 => cond b19
        (vb (aIndexAddr 1 x0 x5_4) fun v20 =>
        vb (aLoad H14 false 1 v20) fun v21 =>
        cb (S_oracle_Oracle_Sum [v1, v21] H14) fun v22 H23 =>
        vb (aIndexAddr 1 x0 x5_4) fun v24 =>
        vb (aLoad H23 false 1 v24) fun v25 =>
        hb (aBuildSlice H23 1 [.str []] 1 [(0, v25)]) fun v26 H27 =>
        hb (aAppendS H27 1 16 x4_4 v26) fun v28 H29 =>
        vb (aBin .add x5_4 (.int .i64 1)) fun v30 =>
        Kn4 [v28, v30] H29)
        (vb (aBin .add x5_4 (.int .i64 1)) fun v31 =>
        Kn4 [x4_4, v31] H14))
    (False)))

def cellaretlaw06_OracleTells.L4 (x0 : AVal) (v1 : AVal) : Body := fun vs H Kn Ke => cellaretlaw06_OracleTells.L4.b x0 v1 (vs.getD 0 .undef) (vs.getD 1 .undef) H Kn Ke

def cellaretlaw06_OracleTells.L13.b (vs33 : List AVal) (v37 : AVal) (v38 : AVal) (x9_13 : AVal) (x10_13 : AVal) (H41 : AHeap) (Kn42 : List AVal → AHeap → Prop) (Ke43 : AExit → List AVal → AHeap → Prop) : Prop :=
  vb (lenSl (vs33.getD 0 .undef)) fun v44 =>
  vb (aBin .lss x10_13 v44) fun v45 =>
  isB v45 fun b46 => cond b46
    (vb (aIndexAddr 1 (vs33.getD 0 .undef) x10_13) fun v47 =>
    vb (aLoad H41 false 1 v47) fun v48 =>
    vb (aBin .eql v48 v37) fun v49 =>
    isB v49 fun b50 => cond b50
      (vb (aBin .add x9_13 (.int .i64 1)) fun v51 =>
                vb (aBin .add x10_13 (.int .i64 1)) fun v52 =>
                Kn42 [v51, v52] H41)
      (vb (aIndexAddr 1 (vs33.getD 0 .undef) x10_13) fun v53 =>
          vb (aLoad H41 false 1 v53) fun v54 =>
            vb (aBin .eql v54 v38) fun v55 =>
                isB v55 fun b56 => cond b56
                  (vb (aBin .add x9_13 (.int .i64 1)) fun v57 =>
                  vb (aBin .add x10_13 (.int .i64 1)) fun v58 =>
                  Kn42 [v57, v58] H41)
                  (vb (aBin .add x10_13 (.int .i64 1)) fun v59 =>
                  Kn42 [x9_13, v59] H41)))
    (Ke43 (.exit 2) [x9_13] H41)

def cellaretlaw06_OracleTells.L13 (vs33 : List AVal) (v37 : AVal) (v38 : AVal) : Body := fun vs H Kn Ke => cellaretlaw06_OracleTells.L13.b vs33 v37 v38 (vs.getD 0 .undef) (vs.getD 1 .undef) H Kn Ke

def cellaretlaw06_OracleTells.L22.b (x11_19 : AVal) (vs33 : List AVal) (x12_22 : AVal) (H81 : AHeap) (Kn82 : List AVal → AHeap → Prop) (Ke83 : AExit → List AVal → AHeap → Prop) : Prop :=
  vb (aBin .lss x12_22 x11_19) fun v84 =>
  isB v84 fun b85 => cond b85
    (vb (aIndexAddr 1 (vs33.getD 0 .undef) x11_19) fun v86 =>
    vb (aLoad H81 false 1 v86) fun v87 =>
    vb (aIndexAddr 1 (vs33.getD 0 .undef) x12_22) fun v88 =>
    vb (aLoad H81 false 1 v88) fun v89 =>
    vb (aBin .neq v87 v89) fun v90 =>
    isB v90 fun b91 => cond b91
      (vb (aIndexAddr 1 (vs33.getD 0 .undef) x11_19) fun v92 =>
          vb (aLoad H81 false 1 v92) fun v93 =>
            cb (S_sha_Sum [v93] H81) fun v94 H95 =>
              vb (aIndexAddr 1 (vs33.getD 0 .undef) x12_22) fun v96 =>
                    vb (aLoad H95 false 1 v96) fun v97 =>
                      cb (S_sha_Sum [v97] H95) fun v98 H99 =>
                        vb (aEql false (.agg (List.replicate 32 .int)) H99 v94 v98) fun v100 =>
                          isB v100 fun b101 => cond b101
                            (Ke83 .ret [.bool false] H99)
                            (vb (aBin .add x12_22 (.int .i64 1)) fun v102 =>
                            Kn82 [v102] H99))
      (vb (aBin .add x12_22 (.int .i64 1)) fun v103 =>
                          Kn82 [v103] H81))
    (Ke83 (.exit 6) [.undef] H81)

def cellaretlaw06_OracleTells.L22 (x11_19 : AVal) (vs33 : List AVal) : Body := fun vs H Kn Ke => cellaretlaw06_OracleTells.L22.b x11_19 vs33 (vs.getD 0 .undef) H Kn Ke

def cellaretlaw06_OracleTells.L19.b (vs33 : List AVal) (x11_19 : AVal) (H75 : AHeap) (Kn76 : List AVal → AHeap → Prop) (Ke77 : AExit → List AVal → AHeap → Prop) : Prop :=
  vb (lenSl (vs33.getD 0 .undef)) fun v78 =>
  vb (aBin .lss x11_19 v78) fun v79 =>
  isB v79 fun b80 => cond b80
    (LoopP (cellaretlaw06_OracleTells.L22 x11_19 vs33) [.int .i64 0] H75 fun e104 vs105 H106 =>
      onE e104 (.exit 6)
        (vb (aBin .add x11_19 (.int .i64 1)) fun v107 =>
        Kn76 [v107] H106)
      (onE e104 .ret
        (Ke77 .ret [vs105.getD 0 .undef] H106)
      (False)))
    (Ke77 (.exit 4) [.undef] H75)

def cellaretlaw06_OracleTells.L19 (vs33 : List AVal) : Body := fun vs H Kn Ke => cellaretlaw06_OracleTells.L19.b vs33 (vs.getD 0 .undef) H Kn Ke

def cellaretlaw06_OracleTells.w (x0 : AVal) (H : AHeap) (K : AVal → AHeap → Prop) : Prop :=
  cb (S_oracle_New [] H) fun v1 H2 =>
  LoopP (cellaretlaw06_OracleTells.L4 x0 v1) [.nils, .int .i64 0] H2 fun e32 vs33 H34 =>
    onE e32 (.exit 0)
      (cb (S_oracle_Oracle_Collide [v1] H34) fun v35 H36 =>
      vb (aExtract v35 0) fun v37 =>
      vb (aExtract v35 1) fun v38 =>
      vb (aExtract v35 2) fun v39 =>
      isB v39 fun b40 => cond b40
        (LoopP (cellaretlaw06_OracleTells.L13 vs33 v37 v38) [.int .i64 0, .int .i64 0] H36 fun e60 vs61 H62 =>
          onE e60 (.exit 2)
            (cb (S_cellaretlaw06_awake [] H62) fun v63 H64 =>
            isB v63 fun b65 => cond b65
              (vb (aBin .neq v37 v38) fun v66 =>
                  isB v66 fun b67 => cond b67
                    (cb (S_sha_Sum [v37] H64) fun v68 H69 =>
                      cb (S_sha_Sum [v38] H69) fun v70 H71 =>
                          vb (aEql false (.agg (List.replicate 32 .int)) H71 v68 v70) fun v72 =>
                            isB v72 fun b73 => cond b73
                              (vb (aBin .geq (vs61.getD 0 .undef) (.int .i64 2)) fun v74 =>
                                fin .ret [.v (v74)] H71 K)
                              (fin .ret [.v (.bool false)] H71 K))
                    (fin .ret [.v (.bool false)] H64 K))
              (fin .ret [.v (.bool false)] H64 K))
          (False))
        (LoopP (cellaretlaw06_OracleTells.L19 vs33) [.int .i64 0] H36 fun e108 vs109 H110 =>
          onE e108 (.exit 4)
            (cb (S_cellaretlaw06_awake [] H110) fun v111 H112 =>
            isB v111 fun b113 => cond b113
              (vb (aBin .add v37 v38) fun v114 =>
                  vb (aBin .eql v114 (.str [])) fun v115 =>
                    fin .ret [.v (v115)] H112 K)
              (fin .ret [.v (.bool false)] H112 K))
          (onE e108 .ret
            (fin .ret [.v (vs109.getD 0 .undef)] H110 K)
          (False))))
    (False)

end Go.Sh

/- What Collide tells. -/
namespace Go.Sh
open Go Go.Abs

/-- Two of the first i have one sum. -/
def dup (T : List (List UInt8)) (i : Nat) : Prop := ∃ k, k < i ∧ ∃ j, j < k ∧ sum (T.getD j []) = sum (T.getD k [])
theorem row33 : ([.str [], .int .u8 0, .int .u8 0, .int .u8 0, .int .u8 0, .int .u8 0, .int .u8 0, .int .u8 0, .int .u8 0, .int .u8 0, .int .u8 0, .int .u8 0, .int .u8 0, .int .u8 0, .int .u8 0, .int .u8 0, .int .u8 0, .int .u8 0, .int .u8 0, .int .u8 0, .int .u8 0, .int .u8 0, .int .u8 0, .int .u8 0, .int .u8 0, .int .u8 0, .int .u8 0, .int .u8 0, .int .u8 0, .int .u8 0, .int .u8 0, .int .u8 0, .int .u8 0] : List AVal).length = 33 := rfl
/-- An input of an oracle is read. -/
theorem inp_at {B B' : AHeap} {x : AVal} {T : List (List UInt8)} (h : View B x 33 T.length (ocells T)) {k : Nat} (hk : k < T.length) (p : B <+: B') :
    ∃ q, aIndexAddr 33 x (.int .i64 k) = some q ∧ aLoad B' true 33 q = some (.agg (ocell (T.getD k []))) := by
  obtain ⟨q, h1, h2⟩ := h.atN (k := (k : Int)) (kd := .i64) (by omega) (by omega) p
  rw [Int.toNat_natCast] at h2
  refine ⟨q, h1, ?_⟩
  rw [h2]
  have hg : T[k]? = some (T.getD k []) := by simp [List.getD_eq_getElem?_getD, List.getElem?_eq_getElem hk]
  have := flat_drop (o := 0) (n := 33) ocell_len hg (by decide)
  simp only [Nat.add_zero, List.drop_zero] at this
  simp only [ocells]
  rw [this, List.take_of_length_le (by rw [ocell_len]; exact Nat.le_refl _)]
theorem inp_d {C : AHeap} {q : Nat} {s : List UInt8} (h : C[q]? = some (.cells 0 .exact (ocell s))) : aLoad C true 32 (.ptr ⟨q, 0, 0 + 1⟩) = some (.agg ((sum s).map ofByte)) := by
  rw [e_loadAgg h (by rw [ocell_len]; decide)]
  simp only [ocell, Nat.zero_add, List.drop_succ_cons, List.drop_zero]
  rw [List.take_of_length_le (by simp [sum_len])]
theorem inp_s {C : AHeap} {q n : Nat} {s : List UInt8} (h : C[q]? = some (.cells 0 .exact (ocell s))) : aLoad C false n (.ptr ⟨q, 0, 0 + 0⟩) = some (.str s) := by
  rw [e_load1 h (by simp [ocell])]; rfl
theorem _root_.Go.Abs.OwnO.keep {B B' : AHeap} {sv t : AVal} {es n : Nat} {cs : List AVal} (h : OwnO B sv es n cs) (k : Keeps B t B') (hne : ∀ i, slId sv = some i → slId t ≠ some i) : OwnO B' sv es n cs := by
  refine ⟨h.1, ?_⟩
  rcases h.2 with h1 | ⟨j, v, rfl, h2⟩
  · exact .inl h1
  · exact .inr ⟨j, v, rfl, by rw [k.get j (lt_of_some h2) (hne j rfl)]; exact h2⟩
theorem _root_.Go.Abs.OwnO.lt {B : AHeap} {sv : AVal} {es n : Nat} {cs : List AVal} (h : OwnO B sv es n cs) {i : Nat} (hi : slId sv = some i) : i < B.length := h.own.lt hi
theorem take_map {α β : Type} {f : α → β} {l : List α} {i : Nat} {x : α} (h : l[i]? = some x) : (l.take (i + 1)).map f = (l.take i).map f ++ [f x] := by
  rw [List.take_add_one, List.map_append, h]; rfl

/-- The two slices that Collide makes. -/
structure Two (H C : AHeap) (T : List (List UInt8)) (i : Nat) (x y : AVal) : Prop where
  p : H <+: C
  ox : OwnO C x 1 i (strs (T.take i))
  oy : OwnO C y 32 i (dcells (sums (T.take i)))
  xi : ∀ a, slId x = some a → H.length ≤ a
  yi : ∀ a, slId y = some a → H.length ≤ a
  ne : ∀ a, slId x = some a → slId y ≠ some a
theorem Two.pre {H C D : AHeap} {T : List (List UInt8)} {i : Nat} {x y : AVal} (h : Two H C T i x y) (p : C <+: D) : Two H D T i x y :=
  ⟨h.p.trans p, h.ox.pre p, h.oy.pre p, h.xi, h.yi, h.ne⟩
/-- Both have grown. -/
theorem Two.grow {H C D E : AHeap} {T : List (List UInt8)} {i : Nat} {x y x' y' : AVal} (h : Two H C T i x y) {s : List UInt8} (hs : T[i]? = some s)
    (x1 : OwnO D x' 1 (i + 1) (strs (T.take i) ++ [.str s])) (k1 : Keeps C x D) (i1 : slId x' = slId x ∨ ∃ q, slId x' = some q ∧ C.length ≤ q)
    (y1 : OwnO E y' 32 (i + 1) (dcells (sums (T.take i)) ++ (sum s).map ofByte)) (k2 : Keeps D y E) (i2 : slId y' = slId y ∨ ∃ q, slId y' = some q ∧ D.length ≤ q) : Two H E T (i + 1) x' y' := by
  have hCl := h.p.length_le
  have hk1 := k1.len
  have xyne : ∀ a, slId x' = some a → slId y ≠ some a := fun a ha e => by
    rcases i1 with q | ⟨q, q1, q2⟩
    · exact h.ne a (q ▸ ha) e
    · rw [q1] at ha; cases ha
      have := h.oy.lt e; omega
  refine ⟨k2.pre (k1.pre h.p h.xi) h.yi, ?_, ?_, ?_, ?_, ?_⟩
  · have : strs (T.take (i + 1)) = strs (T.take i) ++ [.str s] := take_map hs
    rw [this]
    exact x1.keep k2 xyne
  · have : dcells (sums (T.take (i + 1))) = dcells (sums (T.take i)) ++ (sum s).map ofByte := by
      simp only [dcells, sums]
      rw [take_map hs, List.map_append, List.flatten_append]
      simp [dcell, sumD]
    rw [this]; exact y1
  · intro a ha
    rcases i1 with q | ⟨q, q1, q2⟩
    · exact h.xi a (q ▸ ha)
    · rw [q1] at ha; cases ha; omega
  · intro a ha
    rcases i2 with q | ⟨q, q1, q2⟩
    · exact h.yi a (q ▸ ha)
    · rw [q1] at ha; cases ha; omega
  · intro a ha e
    rcases i2 with q | ⟨q, q1, q2⟩
    · exact xyne a ha (q ▸ e)
    · rw [q1] at e; cases e
      have := x1.lt ha; omega

theorem oracle_Oracle_Collide.ok (args : List AVal) (H : AHeap) (r : AVal) (H' : AHeap) (h : S_oracle_Oracle_Collide args H r H') : ∃ x0, args = [x0] ∧ oracle_Oracle_Collide.w x0 H fun r1 H1 => Weak H r1 H1 r H' := by
  obtain ⟨o, rfl, rfl, h⟩ := h
  refine ⟨_, rfl, ?_⟩
  unfold oracle_Oracle_Collide.w
  rcases h with ⟨rfl, rfl⟩ | ⟨i, v, m, mv, lv, T, rfl, hr, hT, rfl⟩
  · repeat with_reducible first
    | refine isB_T ?_
    | refine vb_i (e_nilNil _) ?_
    exact fin_ret (vs := [.str [], .str [], .bool false]) (rvs_v (rvs_v (rvs_v (rvs_nil _)))) (Weak.refl (tup_plain (plain_cons rfl (plain_cons rfl (plain_cons rfl plain_nil)))))
  · repeat with_reducible first
    | refine isB_F ?_
    | refine vb_i (e_ptrNil _ _) ?_
    refine hb_i (v := .map H'.length) (H := H' ++ [.map 0 []]) rfl ?_
    have pM : H' <+: H' ++ [AObj.map 0 []] := pre_app _ _
    repeat with_reducible first
    | refine vb_i (e_nilCheck _) ?_
    | refine vb_i (e_fieldAddr _ _) ?_
    refine vb_i (v := lv) (e_load1 (hr.pre pM).cell (by simp)) ?_
    have hv := hr.view
    repeat with_reducible refine vb_i (lenSl_view (by assumption)) ?_
    refine LoopP.ruleG (α := Nat × Bool) (fun k => [.bool k.2, .int .i64 k.1])
      (fun k C => k.1 ≤ T.length ∧ H' <+: C ∧ (k.2 = true ↔ dup T k.1) ∧ ∃ w ks, C[H'.length]? = some (.map w (dents ks)) ∧ (∀ e ∈ ks, e.length = 32) ∧ ∀ d, d ∈ ks ↔ ∃ j, j < k.1 ∧ sum (T.getD j []) = d) (fun k => T.length - k.1) (0, false) rfl
      ⟨Nat.zero_le _, pM, ⟨fun h => (by cases h), fun ⟨_, h, _⟩ => (by simp only at h; omega)⟩, 0, [], by rw [app_get0]; rfl, fun e he => (by cases he), fun d => ⟨fun h => (by cases h), fun ⟨_, h, _⟩ => (by simp only at h; omega)⟩⟩ ?_
    rintro ⟨k, b⟩ C Kn ⟨hk, pC, hb, w, ks, hm, hks, hmem⟩ hn
    simp only at hk hb hmem
    unfold oracle_Oracle_Collide.L6 oracle_Oracle_Collide.L6.b
    try simp only [evB]
    by_cases hkl : k < T.length
    · obtain ⟨q, q1, q2⟩ := inp_at hv hkl pC
      have hsl := sum_len (T.getD k [])
      repeat with_reducible first
      | (refine isB_ct ?_ ?_; (· first | omega | rfl | assumption | trivial))
      | refine vb_i (lss64 _ _ _) ?_
      refine vb_i q1 (vb_i q2 ?_)
      repeat with_reducible refine hb_i (e_alloc _ _) ?_
      with_reducible refine sb_i (store_new row33 (ocell_len _) (ocell_cell _)) ?_
      have pD : C <+: C ++ [AObj.cells 0 .exact (ocell (T.getD k []))] := pre_app _ _
      have gD : (C ++ [AObj.cells 0 .exact (ocell (T.getD k []))])[C.length]? = some (.cells 0 .exact (ocell (T.getD k []))) := by rw [app_get0]; rfl
      have hmD : (C ++ [AObj.cells 0 .exact (ocell (T.getD k []))])[H'.length]? = some (.map w (dents ks)) := by rw [pre_get pD (lt_of_some hm)]; exact hm
      have hCm := lt_of_some hm
      refine JoinP.mk (fun e vs D => D = C ++ [AObj.cells 0 .exact (ocell (T.getD k []))] ∧ e = .normal ∧ ∃ b2 : Bool, vs = [.bool b2] ∧ (b2 = true ↔ dup T (k + 1))) ?_ ?_
      · have step : dup T (k + 1) ↔ dup T k ∨ sum (T.getD k []) ∈ ks := by
          rw [hmem]
          constructor
          · rintro ⟨x, hx, j, hj, he⟩
            by_cases e : x = k
            · subst e; exact .inr ⟨j, hj, he⟩
            · exact .inl ⟨x, by omega, j, hj, he⟩
          · rintro (⟨x, hx, j, hj, he⟩ | ⟨j, hj, he⟩)
            · exact ⟨x, by omega, j, hj, he⟩
            · exact ⟨k, by omega, j, hj, he⟩
        cases b with
        | true =>
          repeat with_reducible refine isB_T ?_
          exact ⟨rfl, rfl, true, rfl, fun _ => step.2 (.inl (hb.1 rfl)), fun _ => rfl⟩
        | false =>
          repeat with_reducible first
          | refine isB_F ?_
          | refine vb_i (e_fieldAddr _ _) ?_
          refine vb_i (inp_d gD) ?_
          refine vb_i (look_d hmD hks hsl) ?_
          refine ⟨rfl, rfl, _, rfl, ?_⟩
          rw [step]
          simp only [decide_eq_true_eq]
          exact ⟨.inr, fun h => h.resolve_left fun h => by have := hb.2 h; cases this⟩
      · rintro _ _ D ⟨rfl, rfl, b2, rfl, hb2⟩
        repeat with_reducible first
        | refine onE_i ?_
        | refine vb_i (e_fieldAddr _ _) ?_
        refine vb_i (inp_d gD) ?_
        refine sb_i (put_d hmD hks hsl) ?_
        repeat with_reducible (refine vb_i (add64 ?_ ?_) ?_; (· omega); (· omega))
        refine hn (k + 1, b2) _ ⟨by simp only; omega, ?_, hb2, w + 1, insK ks (sum (T.getD k [])), by rw [List.getElem?_set_self (lt_of_some hmD)], ?_, ?_⟩ (by simp only; omega)
        · exact pre_set (pC.trans pD) (Nat.le_refl _) _
        · intro e he
          rcases insK_mem.1 he with he | rfl
          · exact hks e he
          · exact hsl
        · intro d
          rw [insK_mem, hmem]
          constructor
          · rintro (⟨j, hj, he⟩ | rfl)
            · exact ⟨j, by simp only; omega, he⟩
            · exact ⟨k, by simp only; omega, rfl⟩
          · rintro ⟨j, hj, he⟩
            simp only at hj
            by_cases e : j = k
            · subst e; exact .inr he.symm
            · exact .inl ⟨j, by omega, he⟩
    · have hke : k = T.length := by omega
      subst hke
      repeat with_reducible first
      | (refine isB_cf ?_ ?_; (· first | omega | assumption))
      | refine onE_i ?_
      | refine vb_i (lss64 _ _ _) ?_
      | refine vb_i (e_not _) ?_
      try simp only [evB]
      have hln := sums_len T
      have hmin : min T.length (sums T).length = T.length := by rw [hln]; exact Nat.min_self _
      cases b with
      | false =>
        have hno : pairs T (sums T) T.length = none := by
          cases hp : pairs T (sums T) T.length with
          | none => rfl
          | some p =>
            obtain ⟨x, y⟩ := p
            obtain ⟨h1, h2, h3⟩ := pairs_inv hp
            have : dup T T.length := ⟨y, h2, x, h1, by
              simp only [like, Bool.and_eq_true, decide_eq_true_eq] at h3
              have := h3.1
              rwa [sums_get (by omega), sums_get h2] at this⟩
            have := hb.2 this
            cases this
        have hcr : collideR T = [.str [], .str [], .bool false] := by simp only [collideR, hmin, hno]
        rw [hcr]
        skip
        exact fin_ret (vs := [.str [], .str [], .bool false]) (rvs_v (rvs_v (rvs_v (rvs_nil _)))) (Weak.any (tup_plain (plain_cons rfl (plain_cons rfl (plain_cons rfl plain_nil)))) pC)
      | true =>
        clear hb hm hks hmem
        skip
        refine vb_i (v := lv) (e_load1 (hr.pre pC).cell (by simp)) ?_
        repeat with_reducible refine vb_i (lenSl_view (by assumption)) ?_
        refine LoopP.ruleG (α := Nat × AVal × AVal) (fun k => [k.2.1, k.2.2, .int .i64 k.1])
          (fun k D => k.1 ≤ T.length ∧ Two H' D T k.1 k.2.1 k.2.2) (fun k => T.length - k.1) (0, .nils, .nils) rfl
          ⟨Nat.zero_le _, pC, OwnO.nils _ _, OwnO.nils _ _, fun _ h => (by cases h), fun _ h => (by cases h), fun _ h => (by cases h)⟩ ?_
        rintro ⟨k, x, y⟩ D Kn2 ⟨hk2, tw⟩ hn2
        simp only at hk2 tw
        unfold oracle_Oracle_Collide.L16 oracle_Oracle_Collide.L16.b
        try simp only [evB]
        by_cases hkl2 : k < T.length
        · obtain ⟨q, q1, q2⟩ := inp_at hv hkl2 tw.p
          have hsl := sum_len (T.getD k [])
          have hs : T[k]? = some (T.getD k []) := by simp [List.getD_eq_getElem?_getD, List.getElem?_eq_getElem hkl2]
          generalize T.getD k [] = s at *
          repeat with_reducible first
          | (refine isB_ct ?_ ?_; (· first | omega | rfl | assumption | trivial))
          | refine vb_i (lss64 _ _ _) ?_
          refine vb_i q1 (vb_i q2 ?_)
          repeat with_reducible refine hb_i (e_alloc _ _) ?_
          with_reducible refine sb_i (store_new row33 (ocell_len _) (ocell_cell _)) ?_
          have pD : D <+: D ++ [AObj.cells 0 .exact (ocell s)] := pre_app _ _
          have gD : (D ++ [AObj.cells 0 .exact (ocell s)])[D.length]? = some (.cells 0 .exact (ocell s)) := by rw [app_get0]; rfl
          have twD := tw.pre pD
          have hDx : ∀ a, slId x = some a → a < D.length := fun a ha => tw.ox.lt ha
          generalize hDD : D ++ [AObj.cells 0 .exact (ocell s)] = D1 at *
          have hD1 : D.length < D1.length := by rw [← hDD]; simp
          have nxt : ∀ (x' y' : AVal) (E : AHeap), Two H' E T (k + 1) x' y' → Kn2 [x', y', .int .i64 ((k : Int) + 1)] E := fun x' y' E t2 => hn2 (k + 1, x', y') E ⟨by simp only; omega, t2⟩ (by simp only; omega)
          refine ⟨?_, ?_, ?_⟩
          · repeat with_reducible refine vb_i (e_fieldAddr _ _) ?_
            refine vb_i (inp_s gD) ?_
            refine pushO1 twD.ox rfl (by simp only [room]; omega) (by simp only [room]; omega) fun x' E ox kx ix => ?_
            have gE : E[D.length]? = some (.cells 0 .exact (ocell s)) := by
              rw [kx.get _ (by omega) fun e => by have := hDx _ e; omega]; exact gD
            repeat with_reducible refine vb_i (e_fieldAddr _ _) ?_
            refine vb_i (inp_d gE) ?_
            have yE := twD.oy.keep kx fun a ha e => twD.ne a e ha
            refine pushON yE (by decide) (by rw [List.length_map]; exact hsl) List.length_replicate (cells_byte _) (by simp only [room]; omega) (by simp only [room]; omega) fun y' F oy ky iy => ?_
            repeat with_reducible (refine vb_i (add64 ?_ ?_) ?_; (· omega); (· omega))
            refine nxt x' y' F (twD.grow hs ox kx ?_ oy ky ?_)
            · rcases ix with e | ⟨_, e⟩
              · exact .inl e
              · exact .inr ⟨_, e, by omega⟩
            · rcases iy with e | ⟨_, e⟩
              · exact .inl e
              · exact .inr ⟨_, e, by omega⟩
          · repeat with_reducible refine vb_i (e_fieldAddr _ _) ?_
            refine vb_i (inp_s gD) ?_
            refine hb_i (one_str' _ _) ?_
            have g1 : (D1 ++ [AObj.cells 0 .exact [.str s]])[D.length]? = some (.cells 0 .exact (ocell s)) := by rw [pre_get (pre_app _ _) (by omega)]; exact gD
            have tw1 := twD.pre (pre_app D1 [AObj.cells 0 .exact [.str s]])
            repeat with_reducible refine vb_i (e_fieldAddr _ _) ?_
            refine vb_i (inp_d g1) ?_
            refine pushO tw1.ox (by decide) (by decide) (xs := [.str s]) (by rw [app_get0]; rfl) rfl rfl (by simp only [room]; omega) (by simp only [room]; omega) fun x' E ox kx ix => ?_
            have yE := tw1.oy.keep kx fun a ha e => tw1.ne a e ha
            refine pushON yE (by decide) (by rw [List.length_map]; exact hsl) List.length_replicate (cells_byte _) (by simp only [room]; omega) (by simp only [room]; omega) fun y' F oy ky iy => ?_
            repeat with_reducible (refine vb_i (add64 ?_ ?_) ?_; (· omega); (· omega))
            refine nxt x' y' F (tw1.grow hs ox kx ?_ oy ky ?_)
            · rcases ix with e | ⟨_, e⟩
              · exact .inl e
              · exact .inr ⟨_, e, by omega⟩
            · rcases iy with e | ⟨_, e⟩
              · exact .inl e
              · exact .inr ⟨_, e, by omega⟩
          · repeat with_reducible refine vb_i (e_fieldAddr _ _) ?_
            refine vb_i (inp_s gD) ?_
            refine hb_i (one_str' _ _) ?_
            have g1 : (D1 ++ [AObj.cells 0 .exact [.str s]])[D.length]? = some (.cells 0 .exact (ocell s)) := by rw [pre_get (pre_app _ _) (by omega)]; exact gD
            repeat with_reducible refine vb_i (e_fieldAddr _ _) ?_
            refine vb_i (inp_d g1) ?_
            refine hb_i (buildSlice_one (by rw [List.length_map]; exact hsl) List.length_replicate) ?_
            have p2 : D1 <+: (D1 ++ [AObj.cells 0 .exact [.str s]]) ++ [AObj.cells 0 .exact ((sum s).map ofByte)] := (pre_app _ _).trans (pre_app _ _)
            have tw2 := twD.pre p2
            have r1 : ((D1 ++ [AObj.cells 0 .exact [.str s]]) ++ [AObj.cells 0 .exact ((sum s).map ofByte)])[D1.length]? = some (.cells 0 .exact [.str s]) := by rw [pre_get (pre_app _ _) (by simp), app_get0]; rfl
            have r2 : ((D1 ++ [AObj.cells 0 .exact [.str s]]) ++ [AObj.cells 0 .exact ((sum s).map ofByte)])[(D1 ++ [AObj.cells 0 .exact [AVal.str s]]).length]? = some (.cells 0 .exact ((sum s).map ofByte)) := by rw [app_get0]; rfl
            refine pushO tw2.ox (by decide) (by decide) r1 rfl rfl (by simp only [room]; omega) (by simp only [room]; omega) fun x' E ox kx ix => ?_
            have yE := tw2.oy.keep kx fun a ha e => tw2.ne a e ha
            have r3 : E[(D1 ++ [AObj.cells 0 .exact [AVal.str s]]).length]? = some (.cells 0 .exact ((sum s).map ofByte)) := by
              rw [kx.get _ (by simp) fun e => by have := hDx _ e; simp at this; omega]; exact r2
            refine pushO yE (by decide) (by decide) r3 (by rw [List.length_map, hsl]) (cells_byte _) (by simp only [room]; omega) (by simp only [room]; omega) fun y' F oy ky iy => ?_
            repeat with_reducible (refine vb_i (add64 ?_ ?_) ?_; (· omega); (· omega))
            refine nxt x' y' F (tw2.grow hs ox kx ?_ oy ky ?_)
            · rcases ix with e | ⟨_, e⟩
              · exact .inl e
              · exact .inr ⟨_, e, by omega⟩
            · rcases iy with e | ⟨_, e⟩
              · exact .inl e
              · exact .inr ⟨_, e, by omega⟩
        · have hke : k = T.length := by omega
          subst hke
          repeat with_reducible first
          | (refine isB_cf ?_ ?_; (· first | omega | assumption))
          | refine onE_i ?_
          | refine vb_i (lss64 _ _ _) ?_
          try simp only [evB]
          have vx := tw.ox.view
          have vy := tw.oy.view
          rw [List.take_length] at vx vy
          have hPA : PArgs D x y T (sums T) := ⟨vx, by rw [hln]; exact vy, by omega, by rw [hln]; omega⟩
          refine cb_i _ _ ⟨x, y, T, sums T, rfl, hPA, rfl, rfl⟩ ?_
          cases hp : pairs T (sums T) T.length with
          | none =>
            have hcr : collideR T = [.str [], .str [], .bool false] := by simp only [collideR, hmin, hp]
            have hpr : pairR T (sums T) = [.int .i64 0, .int .i64 0, .bool false] := by simp only [pairR, hmin, hp]
            rw [hcr, hpr]
            repeat with_reducible first
            | refine vb_i e_ext0 ?_
            | refine vb_i e_ext1 ?_
            | refine vb_i e_ext2 ?_
            | refine vb_i (e_not _) ?_
            exact fin_ret (vs := [.str [], .str [], .bool false]) (rvs_v (rvs_v (rvs_v (rvs_nil _)))) (Weak.any (tup_plain (plain_cons rfl (plain_cons rfl (plain_cons rfl plain_nil)))) tw.p)
          | some ij =>
            obtain ⟨a, c⟩ := ij
            obtain ⟨h1, h2, h3⟩ := pairs_inv hp
            have hcr : collideR T = [.str (T.getD a []), .str (T.getD c []), .bool true] := by simp only [collideR, hmin, hp]
            have hpr : pairR T (sums T) = [.int .i64 a, .int .i64 c, .bool true] := by simp only [pairR, hmin, hp]
            rw [hcr, hpr]
            repeat with_reducible first
            | refine vb_i e_ext0 ?_
            | refine vb_i e_ext1 ?_
            | refine vb_i e_ext2 ?_
            | refine vb_i (e_not _) ?_
            obtain ⟨u1, u2, u3⟩ := strs_at vx (show a < T.length by omega) (List.prefix_refl _)
            obtain ⟨u4, u5, u6⟩ := strs_at vx h2 (List.prefix_refl _)
            refine vb_i u2 (vb_i u3 (vb_i u5 (vb_i u6 ?_)))
            exact fin_ret (vs := [.str (T.getD a []), .str (T.getD c []), .bool true]) (rvs_v (rvs_v (rvs_v (rvs_nil _)))) (Weak.any (tup_plain (plain_cons rfl (plain_cons rfl (plain_cons rfl plain_nil)))) tw.p)
end Go.Sh

/- What is told has one sum. -/
namespace Go.Sh
open Go Go.Abs

theorem OInv.change {H : AHeap} {i v m mv : Nat} {lv : AVal} {T : List (List UInt8)} {C D : AHeap} {mv' : Nat} {lv' : AVal} {T' : List (List UInt8)} (h : OInv H i v m mv lv T C mv' lv' T') (hl : C.length ≤ D.length)
    (hk : ∀ k, k < C.length → (k < H.length ∨ slId lv' = some k) → D[k]? = C[k]?) : OInv H i v m mv lv T D mv' lv' T' := by
  have hi := lt_of_some h.src.cell
  have hm := lt_of_some h.src.mp
  have hC := h.len
  refine ⟨h.src, ⟨by rw [hk i (by omega) (.inl hi)]; exact h.rep.cell, by rw [hk m (by omega) (.inl hm)]; exact h.rep.mp, ?_, h.rep.nd, h.rep.short⟩, h.mvE, h.le, by omega, fun k h0 h1 h2 h3 => by rw [hk k (by omega) (.inl h0)]; exact h.keep k h0 h1 h2 h3, h.same, h.old, h.new⟩
  rcases h.rep.lst with h1 | ⟨j, u, rfl, h2, h3⟩
  · exact .inl h1
  · exact .inr ⟨j, u, rfl, by rw [hk j (lt_of_some h2) (.inr rfl)]; exact h2, h3⟩
theorem RunN.grow {A C D : AHeap} {own own' : Nat → Prop} {T : List (List UInt8)} (h : RunN A C own T) (hl : C.length ≤ D.length) (hk : ∀ k, k < C.length → ¬ own k → D[k]? = C[k]?)
    (ho : ∀ k, own' k → own k ∨ (C.length ≤ k ∧ k < D.length)) : RunN A D own' T := by
  have hCl := h.len
  obtain ⟨h0, mv, lv, h1, h2⟩ := h
  refine ⟨fun k hk' => ?_, mv, lv, h1.change hl fun k hkl hc => hk k hkl fun hown => ?_, fun k hk' e => ?_⟩
  · rcases ho k hk' with h | h
    · have := h0 k h; omega
    · omega
  · rcases hc with hc | hc
    · rw [newO_len] at hc
      have := h0 k hown; omega
    · exact h2 k hown hc
  · rcases ho k hk' with h | h
    · exact h2 k h e
    · have := h1.rep.slt e; omega
theorem _root_.Go.Abs.OwnO.at {B B' : AHeap} {sv : AVal} {es n : Nat} {cs : List AVal} (h : OwnO B sv es n cs) (k : ∀ i, slId sv = some i → B'[i]? = B[i]?) : OwnO B' sv es n cs := by
  refine ⟨h.1, ?_⟩
  rcases h.2 with h1 | ⟨j, v, rfl, h2⟩
  · exact .inl h1
  · exact .inr ⟨j, v, rfl, by rw [k j rfl]; exact h2⟩

theorem count_two {a b : List UInt8} (hab : a ≠ b) : ∀ {l : List (List UInt8)}, a ∈ l → b ∈ l → 2 ≤ l.countP fun x => decide (x = a ∨ x = b)
  | x :: l, ha, hb => by
    have one : ∀ c, c ∈ l → (c = a ∨ c = b) → 1 ≤ l.countP fun x => decide (x = a ∨ x = b) := fun c hc h => List.countP_pos_iff.2 ⟨c, hc, by simpa using h⟩
    rw [List.countP_cons]
    by_cases e1 : x = a
    · subst e1
      have := one b ((List.mem_cons.1 hb).resolve_left (Ne.symm hab)) (.inr rfl)
      rw [if_pos (by simp)]; omega
    · by_cases e2 : x = b
      · subst e2
        have := one a ((List.mem_cons.1 ha).resolve_left hab) (.inl rfl)
        rw [if_pos (by simp)]; omega
      · have := count_two hab ((List.mem_cons.1 ha).resolve_left (Ne.symm e1)) ((List.mem_cons.1 hb).resolve_left (Ne.symm e2))
        omega

/-- Nothing is told: no two unlike ones have one sum. -/
theorem no_clash {T : List (List UInt8)} (h : pairs T (sums T) T.length = none) {a b : List UInt8} (ha : a ∈ T) (hb : b ∈ T) (hab : a ≠ b) : sum a ≠ sum b := by
  intro he
  obtain ⟨i, hi, rfl⟩ := List.getElem_of_mem ha
  obtain ⟨k, hk, rfl⟩ := List.getElem_of_mem hb
  have g : ∀ j (hj : j < T.length), T.getD j [] = T[j] := fun j hj => by simp [List.getD_eq_getElem?_getD, List.getElem?_eq_getElem hj]
  have key : ∀ x y (hx : x < T.length) (hy : y < T.length), x < y → T[x] ≠ T[y] → sum T[x] = sum T[y] → False := by
    intro x y hx hy hxy hne hs
    have := pairs_no h x y hxy hy
    simp only [like, sums_get hx, sums_get hy, g x hx, g y hy, hs, hne, decide_true, ne_eq, not_false_eq_true, Bool.and_self, Bool.true_eq_false] at this
  rcases Nat.lt_trichotomy i k with h1 | h1 | h1
  · exact key i k hi hk h1 hab he
  · subst h1; exact hab rfl
  · exact key k i hk hi h1 (Ne.symm hab) he.symm

theorem keepTs_push (ms : List (List UInt8)) (s : List UInt8) : keepTs [] (ms ++ [s]) = keepTs (keepTs [] ms) [s] := keepTs_app ms [s] []

theorem cellaretlaw06_OracleTells.ok (args : List AVal) (H : AHeap) (r : AVal) (H' : AHeap) (h : S_cellaretlaw06_OracleTells args H r H') : ∃ x0, args = [x0] ∧ cellaretlaw06_OracleTells.w x0 H fun r1 H1 => Weak H r1 H1 r H' := by
  obtain ⟨x, l, rfl, hv, hl, rfl, rfl⟩ := h
  refine ⟨_, rfl, ?_⟩
  unfold cellaretlaw06_OracleTells.w
  refine cb_i _ _ ⟨rfl, rfl, rfl⟩ ?_
  refine LoopP.ruleG (α := Nat × AVal × List (List UInt8)) (fun k => [k.2.1, .int .i64 k.1])
    (fun k C => k.1 ≤ l.length ∧ k.1 ≤ 40 ∧ RunN H' C (fun q => slId k.2.1 = some q) (keepTs [] k.2.2) ∧ OwnO C k.2.1 1 k.2.2.length (strs k.2.2) ∧ k.2.2.length ≤ k.1 ∧ ∀ s ∈ k.2.2, s.length ≤ 300) (fun k => 40 - k.1) (0, .nils, []) rfl
    ⟨Nat.zero_le _, Nat.zero_le _, (RunN.start H').grow (Nat.le_refl _) (fun _ _ _ => rfl) (fun _ h => by cases h), OwnO.nils _ _, Nat.le_refl _, fun _ h => by cases h⟩ ?_
  rintro ⟨k, mvl, ms⟩ C Kn ⟨hk1, hk2, run, om, hml, hms⟩ hn
  simp only at hk1 hk2 run om hml hms
  unfold cellaretlaw06_OracleTells.L4 cellaretlaw06_OracleTells.L4.b
  try simp only [evB]
  refine JoinP.mk (fun e vs D => D = C ∧ ((e = .normal ∧ k < l.length ∧ k < 40) ∨ e = .exit 0)) ?_ ?_
  · repeat with_reducible first
    | refine vb_i (lss64 _ _ _) ?_
    | refine vb_i (lenSl_view (by assumption)) ?_
    refine isB_c (fun h1 => ?_) (fun h1 => ?_)
    · repeat with_reducible refine vb_i (lss64 _ _ _) ?_
      refine isB_c (fun h2 => ?_) (fun h2 => ?_)
      · exact ⟨rfl, .inl ⟨rfl, by omega, by omega⟩⟩
      · exact ⟨rfl, .inr rfl⟩
    · exact ⟨rfl, .inr rfl⟩
  rintro _ vs D ⟨rfl, ⟨rfl, hkl, hk40⟩ | rfl⟩
  · obtain ⟨q, q1, q2⟩ := strs_at hv hkl run.pre
    repeat with_reducible first
    | refine onE_i ?_
    | (refine onE_s ?_ ?_; (· decide))
    refine vb_i q1 (vb_i q2 ?_)
    repeat with_reducible first
    | refine vb_i (leq64 _ _ _) ?_
    | refine vb_i (e_lenSt _) ?_
    refine isB_c (fun h1 => ?_) (fun h1 => ?_)
    · have hs300 : (l.getD k []).length ≤ 300 := by omega
      generalize l.getD k [] = s at *
      skip
      refine vb_i q1 (vb_i q2 ?_)
      have hT := keepTs_len ms []
      simp only [List.length_nil, Nat.zero_add] at hT
      obtain ⟨C2, hO, run2, hle, hk'⟩ := run.call (ss := [s]) (by simp; omega) (by simp; omega)
      refine cb_i _ _ ⟨_, s, rfl, by omega, rfl, hO⟩ ?_
      obtain ⟨q', q1', q2'⟩ := strs_at hv hkl run2.pre
      rw [q1] at q1'; cases q1'
      have q3 : aLoad C2 false 1 q = some (.str s) := by
        obtain ⟨L, hL⟩ := run.pre
        obtain ⟨L2, hL2⟩ := run2.pre
        have := strs_at hv hkl run.pre
        obtain ⟨u1, u2, u3⟩ := this
        rw [q1] at u2; cases u2
        rw [q2] at u3; cases u3
        exact q2'
      refine vb_i q1 (vb_i q3 ?_)
      have om2 := om.at hk'
      refine pushO1 om2 rfl (by simp only [room]; omega) (by simp only [room]; omega) fun mv' E oE kE iE => ?_
      repeat with_reducible (refine vb_i (add64 ?_ ?_) ?_; (· omega); (· omega))
      have hE : C2.length ≤ E.length := kE.len
      refine hn (k + 1, mv', ms ++ [s]) E ⟨by simp only; omega, by simp only; omega, ?_, ?_, by simp; omega, ?_⟩ (by simp only; omega)
      · simp only
        rw [keepTs_push]
        refine run2.grow hE (fun j hj hno => kE.get j hj hno) fun j hj => ?_
        rcases iE with e | ⟨_, e⟩
        · exact .inl (e ▸ hj)
        · right
          rw [e] at hj; cases hj
          have := oE.lt e
          exact ⟨by omega, this⟩
      · have e1 : strs (ms ++ [s]) = strs ms ++ [.str s] := by simp [strs]
        rw [e1, List.length_append]; exact oE
      · intro t ht
        rcases List.mem_append.1 ht with ht | ht
        · exact hms t ht
        · simp at ht; subst ht; exact hs300
    · repeat with_reducible (refine vb_i (add64 ?_ ?_) ?_; (· omega); (· omega))
      exact hn (k + 1, mvl, ms) _ ⟨by simp only; omega, by simp only; omega, run, om, by simp only; omega, hms⟩ (by simp only; omega)
  · repeat with_reducible refine onE_i ?_
    try simp only [evB]
    clear hn
    have pD := run.pre
    obtain ⟨mv, lv, rep⟩ := run.rep
    have hT := keepTs_len ms []
    simp only [List.length_nil, Nat.zero_add] at hT
    have hmem := keepTs_mem ms []
    generalize keepTs [] ms = T at *
    have hln := sums_len T
    have hmin : min T.length (sums T).length = T.length := by rw [hln]; exact Nat.min_self _
    have vm := om.view
    refine cb_i _ _ ⟨_, rfl, rfl, .inr ⟨_, _, _, _, _, _, rfl, rep, by omega, rfl⟩⟩ ?_
    have inM : ∀ t, t ∈ T → t ∈ ms := fun t ht => by
      rcases (hmem t).1 ht with h | h
      · cases h
      · exact h
    have inT : ∀ t, t ∈ ms → t ∈ T := fun t ht => (hmem t).2 (.inr ht)
    cases hp : pairs T (sums T) T.length with
    | none =>
      have hcr : collideR T = [.str [], .str [], .bool false] := by simp only [collideR, hmin, hp]
      rw [hcr]
      repeat with_reducible first
      | refine isB_F ?_
      | refine vb_i e_ext0 ?_
      | refine vb_i e_ext1 ?_
      | refine vb_i e_ext2 ?_
      refine LoopP.ruleG (α := Nat) (fun k => [.int .i64 k]) (fun k E => k ≤ ms.length ∧ E = D) (fun k => ms.length - k) 0 rfl ⟨Nat.zero_le _, rfl⟩ ?_
      rintro i E Kn ⟨hi, rfl⟩ hn
      unfold cellaretlaw06_OracleTells.L19 cellaretlaw06_OracleTells.L19.b
      try simp only [evB]
      by_cases hil : i < ms.length
      · refine vb_i (lenSl_view vm) ?_
        repeat with_reducible first
        | (refine isB_ct ?_ ?_; (· first | omega | rfl | assumption | trivial))
        | refine vb_i (lss64 _ _ _) ?_
        refine LoopP.ruleG (α := Nat) (fun k => [.int .i64 k]) (fun k F => k ≤ i ∧ F = E) (fun k => i - k) 0 rfl ⟨Nat.zero_le _, rfl⟩ ?_
        rintro j F Kn2 ⟨hj, rfl⟩ hn2
        unfold cellaretlaw06_OracleTells.L22 cellaretlaw06_OracleTells.L22.b
        try simp only [evB]
        by_cases hji : j < i
        · obtain ⟨u, u1, u2⟩ := strs_at vm hil (List.prefix_refl _)
          obtain ⟨v, v1, v2⟩ := strs_at vm (show j < ms.length by omega) (List.prefix_refl _)
          have hA := getD_mem hil
          have hB := getD_mem (show j < ms.length by omega)
          repeat with_reducible first
          | (refine isB_ct ?_ ?_; (· first | omega | rfl | assumption | trivial))
          | refine vb_i (lss64 _ _ _) ?_
          refine vb_i u1 (vb_i u2 (vb_i v1 (vb_i v2 ?_)))
          refine vb_i (neqs _ _) ?_
          refine isB_c (fun h1 => ?_) (fun h1 => ?_)
          · have hS := no_clash hp (inT _ hA) (inT _ hB) h1
            refine vb_i u1 (vb_i u2 ?_)
            refine cb_i _ _ ⟨_, rfl, by have := hms _ hA; omega, rfl, rfl⟩ ?_
            refine vb_i v1 (vb_i v2 ?_)
            refine cb_i _ _ ⟨_, rfl, by have := hms _ hB; omega, rfl, rfl⟩ ?_
            refine vb_i (e_eqBytes (sum_len _) (sum_len _)) ?_
            with_reducible refine isB_cf hS ?_
            repeat with_reducible (refine vb_i (add64 ?_ ?_) ?_; (· omega); (· omega))
            exact hn2 (j + 1) _ ⟨by omega, rfl⟩ (by omega)
          · repeat with_reducible (refine vb_i (add64 ?_ ?_) ?_; (· omega); (· omega))
            exact hn2 (j + 1) _ ⟨by omega, rfl⟩ (by omega)
        · repeat with_reducible first
          | (refine isB_cf ?_ ?_; (· first | omega | assumption))
          | refine onE_i ?_
          | refine vb_i (lss64 _ _ _) ?_
          | (refine vb_i (add64 ?_ ?_) ?_; (· omega); (· omega))
          try simp only [evB]
          exact hn (i + 1) _ ⟨by omega, rfl⟩ (by omega)
      · refine vb_i (lenSl_view vm) ?_
        repeat with_reducible first
        | (refine isB_cf ?_ ?_; (· first | omega | assumption))
        | refine onE_i ?_
        | refine vb_i (lss64 _ _ _) ?_
        try simp only [evB]
        refine cb_i _ _ ⟨rfl, rfl, rfl⟩ ?_
        repeat with_reducible first
        | refine isB_T ?_
        | refine vb_i (eqls _ _) ?_
        | (refine vb_i (adds ?_) ?_; (· first | omega | (simp only [List.length_cons, List.length_nil, List.length_append]; omega)))
        exact fin_bool rfl pD
    | some ij =>
      obtain ⟨a, c⟩ := ij
      obtain ⟨h1, h2, h3⟩ := pairs_inv hp
      have hcr : collideR T = [.str (T.getD a []), .str (T.getD c []), .bool true] := by simp only [collideR, hmin, hp]
      rw [hcr]
      have hA := getD_mem (show a < T.length by omega)
      have hB := getD_mem h2
      simp only [like, sums_get (show a < T.length by omega), sums_get h2, Bool.and_eq_true, decide_eq_true_eq] at h3
      obtain ⟨hs, hab⟩ := h3
      have hcnt := count_two hab (inM _ hA) (inM _ hB)
      have hA3 := hms _ (inM _ hA)
      have hB3 := hms _ (inM _ hB)
      generalize T.getD a [] = s at *
      generalize T.getD c [] = t at *
      repeat with_reducible first
      | refine isB_T ?_
      | refine vb_i e_ext0 ?_
      | refine vb_i e_ext1 ?_
      | refine vb_i e_ext2 ?_
      refine LoopP.ruleG (α := Nat) (fun k => [.int .i64 ((ms.take k).countP fun x => decide (x = s ∨ x = t) : Nat), .int .i64 k]) (fun k E => k ≤ ms.length ∧ E = D) (fun k => ms.length - k) 0 rfl ⟨Nat.zero_le _, rfl⟩ ?_
      rintro i E Kn ⟨hi, rfl⟩ hn
      unfold cellaretlaw06_OracleTells.L13 cellaretlaw06_OracleTells.L13.b
      try simp only [evB]
      by_cases hil : i < ms.length
      · obtain ⟨u, u1, u2⟩ := strs_at vm hil (List.prefix_refl _)
        have hge : ms[i]? = some (ms.getD i []) := by simp [List.getD_eq_getElem?_getD, List.getElem?_eq_getElem hil]
        have hstep : (ms.take (i + 1)).countP (fun x => decide (x = s ∨ x = t)) = (ms.take i).countP (fun x => decide (x = s ∨ x = t)) + if ms.getD i [] = s ∨ ms.getD i [] = t then 1 else 0 := by
          rw [List.take_add_one, hge, List.countP_append]
          simp [List.countP_cons]
        have hcl : (ms.take i).countP (fun x => decide (x = s ∨ x = t)) ≤ i := by
          have := List.countP_le_length (l := ms.take i) (p := fun x => decide (x = s ∨ x = t))
          rw [List.length_take] at this; omega
        have hn' := hn (i + 1) _ ⟨by omega, rfl⟩ (by omega)
        rw [hstep] at hn'
        generalize (ms.take i).countP (fun x => decide (x = s ∨ x = t)) = cnt at *
        refine vb_i (lenSl_view vm) ?_
        repeat with_reducible first
        | (refine isB_ct ?_ ?_; (· first | omega | rfl | assumption | trivial))
        | refine vb_i (lss64 _ _ _) ?_
        refine vb_i u1 (vb_i u2 ?_)
        refine vb_i (eqls _ _) ?_
        refine isB_c (fun e1 => ?_) (fun e1 => ?_)
        · rw [if_pos (.inl e1)] at hn'
          repeat with_reducible (refine vb_i (add64 ?_ ?_) ?_; (· omega); (· omega))
          exact hn'
        · refine vb_i u1 (vb_i u2 ?_)
          refine vb_i (eqls _ _) ?_
          refine isB_c (fun e2 => ?_) (fun e2 => ?_)
          · rw [if_pos (.inr e2)] at hn'
            repeat with_reducible (refine vb_i (add64 ?_ ?_) ?_; (· omega); (· omega))
            exact hn'
          · rw [if_neg (by rintro (h | h); exact e1 h; exact e2 h)] at hn'
            repeat with_reducible (refine vb_i (add64 ?_ ?_) ?_; (· omega); (· omega))
            exact hn'
      · have hie : i = ms.length := by omega
        subst hie
        rw [List.take_length]
        refine vb_i (lenSl_view vm) ?_
        repeat with_reducible first
        | (refine isB_cf ?_ ?_; (· first | omega | assumption))
        | refine onE_i ?_
        | refine vb_i (lss64 _ _ _) ?_
        try simp only [evB]
        refine cb_i _ _ ⟨rfl, rfl, rfl⟩ ?_
        refine isB_T ?_
        refine vb_i (neqs _ _) ?_
        with_reducible refine isB_ct hab ?_
        refine cb_i _ _ ⟨_, rfl, by omega, rfl, rfl⟩ ?_
        refine cb_i _ _ ⟨_, rfl, by omega, rfl, rfl⟩ ?_
        refine vb_i (e_eqBytes (sum_len _) (sum_len _)) ?_
        with_reducible refine isB_ct hs ?_
        repeat with_reducible refine vb_i (geq64 _ _ _) ?_
        exact fin_bool (congrArg AVal.bool (decide_eq_true (by omega))) pD
end Go.Sh

/- Functions that leave what was there as it was. -/
namespace Go.Sh
open Go Go.Abs

theorem cellaretlaw06_OracleTells.quiet {args : List AVal} {H : AHeap} {r : AVal} {H' : AHeap} (h : S_cellaretlaw06_OracleTells args H r H') : H <+: H' := by
  unfold S_cellaretlaw06_OracleTells at h; grind [pre_app, pre_of_eq, newO]
end Go.Sh
