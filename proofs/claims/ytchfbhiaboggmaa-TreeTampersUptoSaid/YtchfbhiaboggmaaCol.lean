/- One text of these: Col0, ColW1, ColP1, ColP2, ColQ. -/
import Derived.Test.YtchfbhiaboggmaaPair
import Derived.Test.YtchfbhiaboggmaaChain

/- Collisions among what was summed. -/
namespace Go.Sh
open Go Go.Abs

/-- Maps whose keys are sums. -/
def dents (ks : List (List UInt8)) : List (AVal × AVal) := ks.map fun d => (.agg (d.map ofByte), .bool true)
theorem u8_all (d : List UInt8) : (d.map ofByte).all isU8 = true := by
  rw [List.all_eq_true]; intro x hx
  obtain ⟨b, _, rfl⟩ := List.mem_map.1 hx; rfl
theorem keyOk_d {d : List UInt8} (hd : d.length = 32) : keyOk (.arr 32) (.agg (d.map ofByte)) = true := by
  simp only [keyOk, u8_all, List.length_map, hd, Bool.and_true]; rfl
theorem keyEq_d {d e : List UInt8} (hd : d.length = 32) (he : e.length = 32) : keyEq (.arr 32) (.agg (d.map ofByte)) (.agg (e.map ofByte)) = some (decide (d = e)) := by
  simp only [keyEq, eqCells_byte 32 d e hd he]
theorem find_d {d : List UInt8} (hd : d.length = 32) : ∀ (ks : List (List UInt8)) (i : Nat), (∀ e ∈ ks, e.length = 32) →
    (d ∉ ks ∧ findKey (.arr 32) (.agg (d.map ofByte)) (dents ks) i = some none) ∨ (d ∈ ks ∧ ∃ j, ks[j]? = some d ∧ findKey (.arr 32) (.agg (d.map ofByte)) (dents ks) i = some (some (i + j, .bool true)))
  | [], i, _ => .inl ⟨by simp, rfl⟩
  | e :: ks, i, h => by
    have he := h e List.mem_cons_self
    by_cases e1 : d = e
    · subst e1
      exact .inr ⟨List.mem_cons_self, 0, rfl, by simp [dents, findKey, keyEq_d hd hd]⟩
    · rcases find_d hd ks (i + 1) fun x hx => h x (List.mem_cons_of_mem _ hx) with ⟨h1, h2⟩ | ⟨h1, j, h2, h3⟩
      · refine .inl ⟨fun hm => ?_, ?_⟩
        · rcases List.mem_cons.1 hm with h | h
          · exact e1 h
          · exact h1 h
        · simp only [dents] at h2
          simp only [dents, List.map_cons, findKey, keyEq_d hd he, e1, decide_false, h2]
      · refine .inr ⟨List.mem_cons_of_mem _ h1, j + 1, by simpa using h2, ?_⟩
        simp only [dents] at h3
        simp only [dents, List.map_cons, findKey, keyEq_d hd he, e1, decide_false, h3]
        rw [Nat.add_assoc, Nat.add_comm 1 j]
theorem look_d {C : AHeap} {m w : Nat} {ks : List (List UInt8)} (h : C[m]? = some (.map w (dents ks))) (hk : ∀ e ∈ ks, e.length = 32) {d : List UInt8} (hd : d.length = 32) :
    aLookup C (.arr 32) (.bool false) false (.map m) (.agg (d.map ofByte)) = some (.bool (decide (d ∈ ks))) := by
  simp only [aLookup, keyOk_d hd, cond_true, h]
  rcases find_d hd ks 0 hk with ⟨h1, h2⟩ | ⟨h1, j, _, h2⟩
  · rw [h2]; simp [h1, lookupOut]
  · rw [h2]; simp [h1, lookupOut]
theorem one_str' (H : AHeap) (s : List UInt8) : aBuildSlice H 1 [.str []] 1 [(0, .str s)] = some (.slice ⟨H.length, 0, 0⟩ 1 (.ex 1), H ++ [.cells 0 .exact [.str s]]) := rfl
def insK (ks : List (List UInt8)) (d : List UInt8) : List (List UInt8) := if d ∈ ks then ks else ks ++ [d]
theorem put_d {C : AHeap} {m w : Nat} {ks : List (List UInt8)} (h : C[m]? = some (.map w (dents ks))) (hk : ∀ e ∈ ks, e.length = 32) {d : List UInt8} (hd : d.length = 32) :
    aMapUpdate C (.arr 32) (.map m) (.agg (d.map ofByte)) (.bool true) = some (C.set m (.map (w + 1) (dents (insK ks d)))) := by
  simp only [aMapUpdate, keyOk_d hd, cond_true, h]
  rcases find_d hd ks 0 hk with ⟨h1, h2⟩ | ⟨h1, j, h3, h2⟩
  · rw [h2]; simp [insK, h1, dents]
  · rw [h2]
    simp only [Nat.zero_add, insK, h1, if_true]
    congr 4
    have : (dents ks)[j]? = some (.agg (d.map ofByte), .bool true) := by simp [dents, h3]
    apply List.ext_getElem?
    intro k
    by_cases e : j = k
    · subst e
      rw [List.getElem?_set_self (List.getElem?_eq_some_iff.1 this).1, this]
    · rw [List.getElem?_set_ne e]
theorem insK_mem {ks : List (List UInt8)} {d e : List UInt8} : e ∈ insK ks d ↔ e ∈ ks ∨ e = d := by
  unfold insK; split
  · rename_i h
    constructor
    · exact .inl
    · rintro (h1 | rfl)
      · exact h1
      · exact h
  · simp

theorem sums_get {T : List (List UInt8)} {i : Nat} (h : i < T.length) : ((sums T).getD i d0).1 = sum (T.getD i []) := by
  simp [sums, sumD, List.getD_eq_getElem?_getD, List.getElem?_eq_getElem h]
theorem sums_len (T : List (List UInt8)) : (sums T).length = T.length := by simp [sums]
/-- What pairs tells. -/
theorem pairs_inv {l : List (List UInt8)} {dd : List D32} : ∀ {n i k : Nat}, pairs l dd n = some (i, k) → i < k ∧ k < n ∧ like l dd i k = true
  | n + 1, i, k, h => by
    unfold pairs at h
    split at h
    · rename_i p hp
      cases h
      obtain ⟨h1, h2, h3⟩ := pairs_inv hp
      exact ⟨h1, by omega, h3⟩
    · simp only [Option.map_eq_some_iff, Prod.mk.injEq] at h
      obtain ⟨j, hj, rfl, rfl⟩ := h
      have := List.find?_some hj
      have hm := List.mem_of_find?_eq_some hj
      exact ⟨by simpa using hm, by omega, this⟩
theorem pairs_no {l : List (List UInt8)} {dd : List D32} : ∀ {n : Nat}, pairs l dd n = none → ∀ i k, i < k → k < n → like l dd i k = false
  | n + 1, h, i, k, hik, hk => by
    unfold pairs at h
    split at h
    · cases h
    · rename_i hp
      by_cases e : k = n
      · subst e
        have : ahead l dd k = none := by simpa using h
        unfold ahead at this
        rw [List.find?_eq_none] at this
        have := this i (by simpa using hik)
        simpa using this
      · exact pairs_no hp i k hik (by omega)
end Go.Sh

/- What Go functions come to over abstract values, printed by a program (wtext.py). -/
namespace Go.Sh
open Go Go.Abs

def oracle_Oracle_Collide.L6.b (v8 : AVal) (v7 : AVal) (v3 : AVal) (x6_6 : AVal) (x24_6 : AVal) (H9 : AHeap) (Kn10 : List AVal → AHeap → Prop) (Ke11 : AExit → List AVal → AHeap → Prop) : Prop :=
 vb (aBin .lss x24_6 v8) fun v12 =>
 isB v12 fun b13 => cond b13
 (vb (aIndexAddr 33 v7 x24_6) fun v14 =>
 vb (aLoad H9 true 33 v14) fun v15 =>
 hb (aAlloc H9 [.str [], .int .u8 0, .int .u8 0, .int .u8 0, .int .u8 0, .int .u8 0, .int .u8 0, .int .u8 0, .int .u8 0, .int .u8 0, .int .u8 0, .int .u8 0, .int .u8 0, .int .u8 0, .int .u8 0, .int .u8 0, .int .u8 0, .int .u8 0, .int .u8 0, .int .u8 0, .int .u8 0, .int .u8 0, .int .u8 0, .int .u8 0, .int .u8 0, .int .u8 0, .int .u8 0, .int .u8 0, .int .u8 0, .int .u8 0, .int .u8 0, .int .u8 0, .int .u8 0]) fun v16 H17 =>
 sb (aStore H17 33 v16 v15) fun H18 =>
 JoinP (fun Kj19 => isB x6_6 fun b20 => cond b20
 (Kj19 .normal [.bool true] H18)
 (vb (aFieldAddr 1 v16) fun v21 =>
 vb (aLoad H18 true 32 v21) fun v22 =>
 vb (aLookup H18 (.arr 32) (.bool false) false v3 v22) fun v23 =>
 Kj19 .normal [v23] H18))
 (fun e24 vs25 H26 =>
 onE e24 .normal
 (vb (aFieldAddr 1 v16) fun v27 =>
 vb (aLoad H26 true 32 v27) fun v28 =>
 sb (aMapUpdate H26 (.arr 32) v3 v28 (.bool true)) fun H29 =>
 vb (aBin .add x24_6 (.int .i64 1)) fun v30 =>
 Kn10 [vs25.getD 0 .undef, v30] H29)
 (False)))
 (Ke11 (.exit 0) [x6_6] H9)

def oracle_Oracle_Collide.L6 (v8 : AVal) (v7 : AVal) (v3 : AVal) : Body := fun vs H Kn Ke => oracle_Oracle_Collide.L6.b v8 v7 v3 (vs.getD 0 .undef) (vs.getD 1 .undef) H Kn Ke

def oracle_Oracle_Collide.L16.b (v39 : AVal) (v38 : AVal) (x9_16 : AVal) (x10_16 : AVal) (x46_16 : AVal) (H40 : AHeap) (Kn41 : List AVal → AHeap → Prop) (Ke42 : AExit → List AVal → AHeap → Prop) : Prop :=
 vb (aBin .lss x46_16 v39) fun v43 =>
 isB v43 fun b44 => cond b44
 (vb (aIndexAddr 33 v38 x46_16) fun v45 =>
 vb (aLoad H40 true 33 v45) fun v46 =>
 hb (aAlloc H40 [.str [], .int .u8 0, .int .u8 0, .int .u8 0, .int .u8 0, .int .u8 0, .int .u8 0, .int .u8 0, .int .u8 0, .int .u8 0, .int .u8 0, .int .u8 0, .int .u8 0, .int .u8 0, .int .u8 0, .int .u8 0, .int .u8 0, .int .u8 0, .int .u8 0, .int .u8 0, .int .u8 0, .int .u8 0, .int .u8 0, .int .u8 0, .int .u8 0, .int .u8 0, .int .u8 0, .int .u8 0, .int .u8 0, .int .u8 0, .int .u8 0, .int .u8 0, .int .u8 0]) fun v47 H48 =>
 sb (aStore H48 33 v47 v46) fun H49 =>
 (vb (aFieldAddr 0 v47) fun v50 =>
 vb (aLoad H49 false 1 v50) fun v51 =>
 hb (aBuildSlice H49 1 [.str []] 1 [(0, v51)]) fun v52 H53 =>
 hb (aAppendS H53 1 16 x9_16 v52) fun v54 H55 =>
 vb (aFieldAddr 1 v47) fun v56 =>
 vb (aLoad H55 true 32 v56) fun v57 =>
 hb (aBuildSlice H55 32 (List.replicate 32 (.int .u8 0)) 1 [(0, v57)]) fun v58 H59 =>
 hb (aAppendS H59 32 32 x10_16 v58) fun v60 H61 =>
 vb (aBin .add x46_16 (.int .i64 1)) fun v62 =>
 Kn41 [v54, v60, v62] H61) ∧
 ((vb (aFieldAddr 0 v47) fun v63 =>
 vb (aLoad H49 false 1 v63) fun v64 =>
 hb (aBuildSlice H49 1 [.str []] 1 [(0, v64)]) fun v65 H66 =>
 vb (aFieldAddr 1 v47) fun v67 =>
 vb (aLoad H66 true 32 v67) fun v68 =>
 hb (aAppendS H66 1 16 x9_16 v65) fun v69 H70 =>
 hb (aBuildSlice H70 32 (List.replicate 32 (.int .u8 0)) 1 [(0, v68)]) fun v71 H72 =>
 hb (aAppendS H72 32 32 x10_16 v71) fun v73 H74 =>
 vb (aBin .add x46_16 (.int .i64 1)) fun v75 =>
 Kn41 [v69, v73, v75] H74) ∧
 (vb (aFieldAddr 0 v47) fun v76 =>
 vb (aLoad H49 false 1 v76) fun v77 =>
 hb (aBuildSlice H49 1 [.str []] 1 [(0, v77)]) fun v78 H79 =>
 vb (aFieldAddr 1 v47) fun v80 =>
 vb (aLoad H79 true 32 v80) fun v81 =>
 hb (aBuildSlice H79 32 (List.replicate 32 (.int .u8 0)) 1 [(0, v81)]) fun v82 H83 =>
 hb (aAppendS H83 1 16 x9_16 v78) fun v84 H85 =>
 hb (aAppendS H85 32 32 x10_16 v82) fun v86 H87 =>
 vb (aBin .add x46_16 (.int .i64 1)) fun v88 =>
 Kn41 [v84, v86, v88] H87)))
 (Ke42 (.exit 2) [x9_16, x10_16] H40)

def oracle_Oracle_Collide.L16 (v39 : AVal) (v38 : AVal) : Body := fun vs H Kn Ke => oracle_Oracle_Collide.L16.b v39 v38 (vs.getD 0 .undef) (vs.getD 1 .undef) (vs.getD 2 .undef) H Kn Ke

def oracle_Oracle_Collide.w (x0 : AVal) (H : AHeap) (K : AVal → AHeap → Prop) : Prop :=
 vb (aEql false .ptr H x0 .nilp) fun v1 =>
 isB v1 fun b2 => cond b2
 (fin .ret [.v (.str []), .v (.str []), .v (.bool false)] H K)
 (hb (aMakeMap H) fun v3 H4 =>
 vb (aNilCheck x0) fun v5 =>
 vb (aFieldAddr 0 v5) fun v6 =>
 vb (aLoad H4 false 1 v6) fun v7 =>
 vb (lenSl v7) fun v8 =>
 LoopP (oracle_Oracle_Collide.L6 v8 v7 v3) [.bool false, .int .i64 0] H4 fun e31 vs32 H33 =>
 onE e31 (.exit 0)
 (vb (aUn .not (vs32.getD 0 .undef)) fun v34 =>
 isB v34 fun b35 => cond b35
 (fin .ret [.v (.str []), .v (.str []), .v (.bool false)] H33 K)
 (vb (aNilCheck x0) fun v36 =>
 vb (aFieldAddr 0 v36) fun v37 =>
 vb (aLoad H33 false 1 v37) fun v38 =>
 vb (lenSl v38) fun v39 =>
 LoopP (oracle_Oracle_Collide.L16 v39 v38) [.nils, .nils, .int .i64 0] H33 fun e89 vs90 H91 =>
 onE e89 (.exit 2)
 (cb (S_oracle_Pair [vs90.getD 0 .undef, vs90.getD 1 .undef] H91) fun v92 H93 =>
 vb (aExtract v92 0) fun v94 =>
 vb (aExtract v92 1) fun v95 =>
 vb (aExtract v92 2) fun v96 =>
 vb (aUn .not v96) fun v97 =>
 isB v97 fun b98 => cond b98
 (fin .ret [.v (.str []), .v (.str []), .v (.bool false)] H93 K)
 (vb (aIndexAddr 1 (vs90.getD 0 .undef) v94) fun v99 =>
 vb (aLoad H93 false 1 v99) fun v100 =>
 vb (aIndexAddr 1 (vs90.getD 0 .undef) v95) fun v101 =>
 vb (aLoad H93 false 1 v101) fun v102 =>
 fin .ret [.v (v100), .v (v102), .v (.bool true)] H93 K))
 (False)))
 (False))

end Go.Sh

/- What Collide tells. -/
namespace Go.Sh
open Go Go.Abs

/-- Two of the first i have one sum. -/
def dup (T : List (List UInt8)) (i : Nat) : Prop := ∃ k, k < i ∧ ∃ j, j < k ∧ sum (T.getD j []) = sum (T.getD k [])
theorem row33 : ([.str [], .int .u8 0, .int .u8 0, .int .u8 0, .int .u8 0, .int .u8 0, .int .u8 0, .int .u8 0, .int .u8 0, .int .u8 0, .int .u8 0, .int .u8 0, .int .u8 0, .int .u8 0, .int .u8 0, .int .u8 0, .int .u8 0, .int .u8 0, .int .u8 0, .int .u8 0, .int .u8 0, .int .u8 0, .int .u8 0, .int .u8 0, .int .u8 0, .int .u8 0, .int .u8 0, .int .u8 0, .int .u8 0, .int .u8 0, .int .u8 0, .int .u8 0, .int .u8 0] : List AVal).length = 33 := rfl
/-- An input of an oracle is read. -/
theorem inp_at {B B' : AHeap} {x : AVal} {T : List (List UInt8)} (h : View B x 33 T.length (ocells T)) {k : Nat} (hk : k < T.length) (p : B <+: B') :
    ∃ q, aIndexAddr 33 x (.int .i64 k) = some q ∧ aLoad B' true 33 q = some (.agg (ocell (T.getD k []))) := by
  obtain ⟨q, h1, h2⟩ := h.atN (k := (k : Int)) (kd := .i64) (by omega) (by omega) p
  rw [Int.toNat_natCast] at h2
  refine ⟨q, h1, ?_⟩
  rw [h2]
  have hg : T[k]? = some (T.getD k []) := by simp [List.getD_eq_getElem?_getD, List.getElem?_eq_getElem hk]
  have := flat_drop (o := 0) (n := 33) ocell_len hg (by decide)
  simp only [Nat.add_zero, List.drop_zero] at this
  simp only [ocells]
  rw [this, List.take_of_length_le (by rw [ocell_len]; exact Nat.le_refl _)]
theorem inp_d {C : AHeap} {q : Nat} {s : List UInt8} (h : C[q]? = some (.cells 0 .exact (ocell s))) : aLoad C true 32 (.ptr ⟨q, 0, 0 + 1⟩) = some (.agg ((sum s).map ofByte)) := by
  rw [e_loadAgg h (by rw [ocell_len]; decide)]
  simp only [ocell, Nat.zero_add, List.drop_succ_cons, List.drop_zero]
  rw [List.take_of_length_le (by simp [sum_len])]
theorem inp_s {C : AHeap} {q n : Nat} {s : List UInt8} (h : C[q]? = some (.cells 0 .exact (ocell s))) : aLoad C false n (.ptr ⟨q, 0, 0 + 0⟩) = some (.str s) := by
  rw [e_load1 h (by simp [ocell])]; rfl
theorem _root_.Go.Abs.OwnO.keep {B B' : AHeap} {sv t : AVal} {es n : Nat} {cs : List AVal} (h : OwnO B sv es n cs) (k : Keeps B t B') (hne : ∀ i, slId sv = some i → slId t ≠ some i) : OwnO B' sv es n cs := by
  refine ⟨h.1, ?_⟩
  rcases h.2 with h1 | ⟨j, v, rfl, h2⟩
  · exact .inl h1
  · exact .inr ⟨j, v, rfl, by rw [k.get j (lt_of_some h2) (hne j rfl)]; exact h2⟩
theorem _root_.Go.Abs.OwnO.lt {B : AHeap} {sv : AVal} {es n : Nat} {cs : List AVal} (h : OwnO B sv es n cs) {i : Nat} (hi : slId sv = some i) : i < B.length := h.own.lt hi
theorem take_map {α β : Type} {f : α → β} {l : List α} {i : Nat} {x : α} (h : l[i]? = some x) : (l.take (i + 1)).map f = (l.take i).map f ++ [f x] := by
  rw [List.take_add_one, List.map_append, h]; rfl

/-- The two slices that Collide makes. -/
structure Two (H C : AHeap) (T : List (List UInt8)) (i : Nat) (x y : AVal) : Prop where
  p : H <+: C
  ox : OwnO C x 1 i (strs (T.take i))
  oy : OwnO C y 32 i (dcells (sums (T.take i)))
  xi : ∀ a, slId x = some a → H.length ≤ a
  yi : ∀ a, slId y = some a → H.length ≤ a
  ne : ∀ a, slId x = some a → slId y ≠ some a
theorem Two.pre {H C D : AHeap} {T : List (List UInt8)} {i : Nat} {x y : AVal} (h : Two H C T i x y) (p : C <+: D) : Two H D T i x y :=
  ⟨h.p.trans p, h.ox.pre p, h.oy.pre p, h.xi, h.yi, h.ne⟩
/-- Both have grown. -/
theorem Two.grow {H C D E : AHeap} {T : List (List UInt8)} {i : Nat} {x y x' y' : AVal} (h : Two H C T i x y) {s : List UInt8} (hs : T[i]? = some s)
    (x1 : OwnO D x' 1 (i + 1) (strs (T.take i) ++ [.str s])) (k1 : Keeps C x D) (i1 : slId x' = slId x ∨ ∃ q, slId x' = some q ∧ C.length ≤ q)
    (y1 : OwnO E y' 32 (i + 1) (dcells (sums (T.take i)) ++ (sum s).map ofByte)) (k2 : Keeps D y E) (i2 : slId y' = slId y ∨ ∃ q, slId y' = some q ∧ D.length ≤ q) : Two H E T (i + 1) x' y' := by
  have hCl := h.p.length_le
  have hk1 := k1.len
  have xyne : ∀ a, slId x' = some a → slId y ≠ some a := fun a ha e => by
    rcases i1 with q | ⟨q, q1, q2⟩
    · exact h.ne a (q ▸ ha) e
    · rw [q1] at ha; cases ha
      have := h.oy.lt e; omega
  refine ⟨k2.pre (k1.pre h.p h.xi) h.yi, ?_, ?_, ?_, ?_, ?_⟩
  · have : strs (T.take (i + 1)) = strs (T.take i) ++ [.str s] := take_map hs
    rw [this]
    exact x1.keep k2 xyne
  · have : dcells (sums (T.take (i + 1))) = dcells (sums (T.take i)) ++ (sum s).map ofByte := by
      simp only [dcells, sums]
      rw [take_map hs, List.map_append, List.flatten_append]
      simp [dcell, sumD]
    rw [this]; exact y1
  · intro a ha
    rcases i1 with q | ⟨q, q1, q2⟩
    · exact h.xi a (q ▸ ha)
    · rw [q1] at ha; cases ha; omega
  · intro a ha
    rcases i2 with q | ⟨q, q1, q2⟩
    · exact h.yi a (q ▸ ha)
    · rw [q1] at ha; cases ha; omega
  · intro a ha e
    rcases i2 with q | ⟨q, q1, q2⟩
    · exact xyne a ha (q ▸ e)
    · rw [q1] at e; cases e
      have := x1.lt ha; omega

theorem oracle_Oracle_Collide.ok (args : List AVal) (H : AHeap) (r : AVal) (H' : AHeap) (h : S_oracle_Oracle_Collide args H r H') : ∃ x0, args = [x0] ∧ oracle_Oracle_Collide.w x0 H fun r1 H1 => Weak H r1 H1 r H' := by
  obtain ⟨o, rfl, rfl, h⟩ := h
  refine ⟨_, rfl, ?_⟩
  unfold oracle_Oracle_Collide.w
  rcases h with ⟨rfl, rfl⟩ | ⟨i, v, m, mv, lv, T, rfl, hr, hT, rfl⟩
  · repeat with_reducible first
    | refine isB_T ?_
    | refine vb_i (e_nilNil _) ?_
    exact fin_ret (vs := [.str [], .str [], .bool false]) (rvs_v (rvs_v (rvs_v (rvs_nil _)))) (Weak.refl (tup_plain (plain_cons rfl (plain_cons rfl (plain_cons rfl plain_nil)))))
  · repeat with_reducible first
    | refine isB_F ?_
    | refine vb_i (e_ptrNil _ _) ?_
    refine hb_i (v := .map H'.length) (H := H' ++ [.map 0 []]) rfl ?_
    have pM : H' <+: H' ++ [AObj.map 0 []] := pre_app _ _
    repeat with_reducible first
    | refine vb_i (e_nilCheck _) ?_
    | refine vb_i (e_fieldAddr _ _) ?_
    refine vb_i (v := lv) (e_load1 (hr.pre pM).cell (by simp)) ?_
    have hv := hr.view
    repeat with_reducible refine vb_i (lenSl_view (by assumption)) ?_
    refine LoopP.ruleG (α := Nat × Bool) (fun k => [.bool k.2, .int .i64 k.1])
      (fun k C => k.1 ≤ T.length ∧ H' <+: C ∧ (k.2 = true ↔ dup T k.1) ∧ ∃ w ks, C[H'.length]? = some (.map w (dents ks)) ∧ (∀ e ∈ ks, e.length = 32) ∧ ∀ d, d ∈ ks ↔ ∃ j, j < k.1 ∧ sum (T.getD j []) = d) (fun k => T.length - k.1) (0, false) rfl
      ⟨Nat.zero_le _, pM, ⟨fun h => (by cases h), fun ⟨_, h, _⟩ => (by simp only at h; omega)⟩, 0, [], by rw [app_get0]; rfl, fun e he => (by cases he), fun d => ⟨fun h => (by cases h), fun ⟨_, h, _⟩ => (by simp only at h; omega)⟩⟩ ?_
    rintro ⟨k, b⟩ C Kn ⟨hk, pC, hb, w, ks, hm, hks, hmem⟩ hn
    simp only at hk hb hmem
    unfold oracle_Oracle_Collide.L6 oracle_Oracle_Collide.L6.b
    try simp only [evB]
    by_cases hkl : k < T.length
    · obtain ⟨q, q1, q2⟩ := inp_at hv hkl pC
      have hsl := sum_len (T.getD k [])
      repeat with_reducible first
      | (refine isB_ct ?_ ?_; (· first | omega | rfl | assumption | trivial))
      | refine vb_i (lss64 _ _ _) ?_
      refine vb_i q1 (vb_i q2 ?_)
      repeat with_reducible refine hb_i (e_alloc _ _) ?_
      with_reducible refine sb_i (store_new row33 (ocell_len _) (ocell_cell _)) ?_
      have pD : C <+: C ++ [AObj.cells 0 .exact (ocell (T.getD k []))] := pre_app _ _
      have gD : (C ++ [AObj.cells 0 .exact (ocell (T.getD k []))])[C.length]? = some (.cells 0 .exact (ocell (T.getD k []))) := by rw [app_get0]; rfl
      have hmD : (C ++ [AObj.cells 0 .exact (ocell (T.getD k []))])[H'.length]? = some (.map w (dents ks)) := by rw [pre_get pD (lt_of_some hm)]; exact hm
      have hCm := lt_of_some hm
      refine JoinP.mk (fun e vs D => D = C ++ [AObj.cells 0 .exact (ocell (T.getD k []))] ∧ e = .normal ∧ ∃ b2 : Bool, vs = [.bool b2] ∧ (b2 = true ↔ dup T (k + 1))) ?_ ?_
      · have step : dup T (k + 1) ↔ dup T k ∨ sum (T.getD k []) ∈ ks := by
          rw [hmem]
          constructor
          · rintro ⟨x, hx, j, hj, he⟩
            by_cases e : x = k
            · subst e; exact .inr ⟨j, hj, he⟩
            · exact .inl ⟨x, by omega, j, hj, he⟩
          · rintro (⟨x, hx, j, hj, he⟩ | ⟨j, hj, he⟩)
            · exact ⟨x, by omega, j, hj, he⟩
            · exact ⟨k, by omega, j, hj, he⟩
        cases b with
        | true =>
          repeat with_reducible refine isB_T ?_
          exact ⟨rfl, rfl, true, rfl, fun _ => step.2 (.inl (hb.1 rfl)), fun _ => rfl⟩
        | false =>
          repeat with_reducible first
          | refine isB_F ?_
          | refine vb_i (e_fieldAddr _ _) ?_
          refine vb_i (inp_d gD) ?_
          refine vb_i (look_d hmD hks hsl) ?_
          refine ⟨rfl, rfl, _, rfl, ?_⟩
          rw [step]
          simp only [decide_eq_true_eq]
          exact ⟨.inr, fun h => h.resolve_left fun h => by have := hb.2 h; cases this⟩
      · rintro _ _ D ⟨rfl, rfl, b2, rfl, hb2⟩
        repeat with_reducible first
        | refine onE_i ?_
        | refine vb_i (e_fieldAddr _ _) ?_
        refine vb_i (inp_d gD) ?_
        refine sb_i (put_d hmD hks hsl) ?_
        repeat with_reducible (refine vb_i (add64 ?_ ?_) ?_; (· omega); (· omega))
        refine hn (k + 1, b2) _ ⟨by simp only; omega, ?_, hb2, w + 1, insK ks (sum (T.getD k [])), by rw [List.getElem?_set_self (lt_of_some hmD)], ?_, ?_⟩ (by simp only; omega)
        · exact pre_set (pC.trans pD) (Nat.le_refl _) _
        · intro e he
          rcases insK_mem.1 he with he | rfl
          · exact hks e he
          · exact hsl
        · intro d
          rw [insK_mem, hmem]
          constructor
          · rintro (⟨j, hj, he⟩ | rfl)
            · exact ⟨j, by simp only; omega, he⟩
            · exact ⟨k, by simp only; omega, rfl⟩
          · rintro ⟨j, hj, he⟩
            simp only at hj
            by_cases e : j = k
            · subst e; exact .inr he.symm
            · exact .inl ⟨j, by omega, he⟩
    · have hke : k = T.length := by omega
      subst hke
      repeat with_reducible first
      | (refine isB_cf ?_ ?_; (· first | omega | assumption))
      | refine onE_i ?_
      | refine vb_i (lss64 _ _ _) ?_
      | refine vb_i (e_not _) ?_
      try simp only [evB]
      have hln := sums_len T
      have hmin : min T.length (sums T).length = T.length := by rw [hln]; exact Nat.min_self _
      cases b with
      | false =>
        have hno : pairs T (sums T) T.length = none := by
          cases hp : pairs T (sums T) T.length with
          | none => rfl
          | some p =>
            obtain ⟨x, y⟩ := p
            obtain ⟨h1, h2, h3⟩ := pairs_inv hp
            have : dup T T.length := ⟨y, h2, x, h1, by
              simp only [like, Bool.and_eq_true, decide_eq_true_eq] at h3
              have := h3.1
              rwa [sums_get (by omega), sums_get h2] at this⟩
            have := hb.2 this
            cases this
        have hcr : collideR T = [.str [], .str [], .bool false] := by simp only [collideR, hmin, hno]
        rw [hcr]
        skip
        exact fin_ret (vs := [.str [], .str [], .bool false]) (rvs_v (rvs_v (rvs_v (rvs_nil _)))) (Weak.any (tup_plain (plain_cons rfl (plain_cons rfl (plain_cons rfl plain_nil)))) pC)
      | true =>
        clear hb hm hks hmem
        skip
        refine vb_i (v := lv) (e_load1 (hr.pre pC).cell (by simp)) ?_
        repeat with_reducible refine vb_i (lenSl_view (by assumption)) ?_
        refine LoopP.ruleG (α := Nat × AVal × AVal) (fun k => [k.2.1, k.2.2, .int .i64 k.1])
          (fun k D => k.1 ≤ T.length ∧ Two H' D T k.1 k.2.1 k.2.2) (fun k => T.length - k.1) (0, .nils, .nils) rfl
          ⟨Nat.zero_le _, pC, OwnO.nils _ _, OwnO.nils _ _, fun _ h => (by cases h), fun _ h => (by cases h), fun _ h => (by cases h)⟩ ?_
        rintro ⟨k, x, y⟩ D Kn2 ⟨hk2, tw⟩ hn2
        simp only at hk2 tw
        unfold oracle_Oracle_Collide.L16 oracle_Oracle_Collide.L16.b
        try simp only [evB]
        by_cases hkl2 : k < T.length
        · obtain ⟨q, q1, q2⟩ := inp_at hv hkl2 tw.p
          have hsl := sum_len (T.getD k [])
          have hs : T[k]? = some (T.getD k []) := by simp [List.getD_eq_getElem?_getD, List.getElem?_eq_getElem hkl2]
          generalize T.getD k [] = s at *
          repeat with_reducible first
          | (refine isB_ct ?_ ?_; (· first | omega | rfl | assumption | trivial))
          | refine vb_i (lss64 _ _ _) ?_
          refine vb_i q1 (vb_i q2 ?_)
          repeat with_reducible refine hb_i (e_alloc _ _) ?_
          with_reducible refine sb_i (store_new row33 (ocell_len _) (ocell_cell _)) ?_
          have pD : D <+: D ++ [AObj.cells 0 .exact (ocell s)] := pre_app _ _
          have gD : (D ++ [AObj.cells 0 .exact (ocell s)])[D.length]? = some (.cells 0 .exact (ocell s)) := by rw [app_get0]; rfl
          have twD := tw.pre pD
          have hDx : ∀ a, slId x = some a → a < D.length := fun a ha => tw.ox.lt ha
          generalize hDD : D ++ [AObj.cells 0 .exact (ocell s)] = D1 at *
          have hD1 : D.length < D1.length := by rw [← hDD]; simp
          have nxt : ∀ (x' y' : AVal) (E : AHeap), Two H' E T (k + 1) x' y' → Kn2 [x', y', .int .i64 ((k : Int) + 1)] E := fun x' y' E t2 => hn2 (k + 1, x', y') E ⟨by simp only; omega, t2⟩ (by simp only; omega)
          refine ⟨?_, ?_, ?_⟩
          · repeat with_reducible refine vb_i (e_fieldAddr _ _) ?_
            refine vb_i (inp_s gD) ?_
            refine pushO1 twD.ox rfl (by simp only [room]; omega) (by simp only [room]; omega) fun x' E ox kx ix => ?_
            have gE : E[D.length]? = some (.cells 0 .exact (ocell s)) := by
              rw [kx.get _ (by omega) fun e => by have := hDx _ e; omega]; exact gD
            repeat with_reducible refine vb_i (e_fieldAddr _ _) ?_
            refine vb_i (inp_d gE) ?_
            have yE := twD.oy.keep kx fun a ha e => twD.ne a e ha
            refine pushON yE (by decide) (by rw [List.length_map]; exact hsl) List.length_replicate (cells_byte _) (by simp only [room]; omega) (by simp only [room]; omega) fun y' F oy ky iy => ?_
            repeat with_reducible (refine vb_i (add64 ?_ ?_) ?_; (· omega); (· omega))
            refine nxt x' y' F (twD.grow hs ox kx ?_ oy ky ?_)
            · rcases ix with e | ⟨_, e⟩
              · exact .inl e
              · exact .inr ⟨_, e, by omega⟩
            · rcases iy with e | ⟨_, e⟩
              · exact .inl e
              · exact .inr ⟨_, e, by omega⟩
          · repeat with_reducible refine vb_i (e_fieldAddr _ _) ?_
            refine vb_i (inp_s gD) ?_
            refine hb_i (one_str' _ _) ?_
            have g1 : (D1 ++ [AObj.cells 0 .exact [.str s]])[D.length]? = some (.cells 0 .exact (ocell s)) := by rw [pre_get (pre_app _ _) (by omega)]; exact gD
            have tw1 := twD.pre (pre_app D1 [AObj.cells 0 .exact [.str s]])
            repeat with_reducible refine vb_i (e_fieldAddr _ _) ?_
            refine vb_i (inp_d g1) ?_
            refine pushO tw1.ox (by decide) (by decide) (xs := [.str s]) (by rw [app_get0]; rfl) rfl rfl (by simp only [room]; omega) (by simp only [room]; omega) fun x' E ox kx ix => ?_
            have yE := tw1.oy.keep kx fun a ha e => tw1.ne a e ha
            refine pushON yE (by decide) (by rw [List.length_map]; exact hsl) List.length_replicate (cells_byte _) (by simp only [room]; omega) (by simp only [room]; omega) fun y' F oy ky iy => ?_
            repeat with_reducible (refine vb_i (add64 ?_ ?_) ?_; (· omega); (· omega))
            refine nxt x' y' F (tw1.grow hs ox kx ?_ oy ky ?_)
            · rcases ix with e | ⟨_, e⟩
              · exact .inl e
              · exact .inr ⟨_, e, by omega⟩
            · rcases iy with e | ⟨_, e⟩
              · exact .inl e
              · exact .inr ⟨_, e, by omega⟩
          · repeat with_reducible refine vb_i (e_fieldAddr _ _) ?_
            refine vb_i (inp_s gD) ?_
            refine hb_i (one_str' _ _) ?_
            have g1 : (D1 ++ [AObj.cells 0 .exact [.str s]])[D.length]? = some (.cells 0 .exact (ocell s)) := by rw [pre_get (pre_app _ _) (by omega)]; exact gD
            repeat with_reducible refine vb_i (e_fieldAddr _ _) ?_
            refine vb_i (inp_d g1) ?_
            refine hb_i (buildSlice_one (by rw [List.length_map]; exact hsl) List.length_replicate) ?_
            have p2 : D1 <+: (D1 ++ [AObj.cells 0 .exact [.str s]]) ++ [AObj.cells 0 .exact ((sum s).map ofByte)] := (pre_app _ _).trans (pre_app _ _)
            have tw2 := twD.pre p2
            have r1 : ((D1 ++ [AObj.cells 0 .exact [.str s]]) ++ [AObj.cells 0 .exact ((sum s).map ofByte)])[D1.length]? = some (.cells 0 .exact [.str s]) := by rw [pre_get (pre_app _ _) (by simp), app_get0]; rfl
            have r2 : ((D1 ++ [AObj.cells 0 .exact [.str s]]) ++ [AObj.cells 0 .exact ((sum s).map ofByte)])[(D1 ++ [AObj.cells 0 .exact [AVal.str s]]).length]? = some (.cells 0 .exact ((sum s).map ofByte)) := by rw [app_get0]; rfl
            refine pushO tw2.ox (by decide) (by decide) r1 rfl rfl (by simp only [room]; omega) (by simp only [room]; omega) fun x' E ox kx ix => ?_
            have yE := tw2.oy.keep kx fun a ha e => tw2.ne a e ha
            have r3 : E[(D1 ++ [AObj.cells 0 .exact [AVal.str s]]).length]? = some (.cells 0 .exact ((sum s).map ofByte)) := by
              rw [kx.get _ (by simp) fun e => by have := hDx _ e; simp at this; omega]; exact r2
            refine pushO yE (by decide) (by decide) r3 (by rw [List.length_map, hsl]) (cells_byte _) (by simp only [room]; omega) (by simp only [room]; omega) fun y' F oy ky iy => ?_
            repeat with_reducible (refine vb_i (add64 ?_ ?_) ?_; (· omega); (· omega))
            refine nxt x' y' F (tw2.grow hs ox kx ?_ oy ky ?_)
            · rcases ix with e | ⟨_, e⟩
              · exact .inl e
              · exact .inr ⟨_, e, by omega⟩
            · rcases iy with e | ⟨_, e⟩
              · exact .inl e
              · exact .inr ⟨_, e, by omega⟩
        · have hke : k = T.length := by omega
          subst hke
          repeat with_reducible first
          | (refine isB_cf ?_ ?_; (· first | omega | assumption))
          | refine onE_i ?_
          | refine vb_i (lss64 _ _ _) ?_
          try simp only [evB]
          have vx := tw.ox.view
          have vy := tw.oy.view
          rw [List.take_length] at vx vy
          have hPA : PArgs D x y T (sums T) := ⟨vx, by rw [hln]; exact vy, by omega, by rw [hln]; omega⟩
          refine cb_i _ _ ⟨x, y, T, sums T, rfl, hPA, rfl, rfl⟩ ?_
          cases hp : pairs T (sums T) T.length with
          | none =>
            have hcr : collideR T = [.str [], .str [], .bool false] := by simp only [collideR, hmin, hp]
            have hpr : pairR T (sums T) = [.int .i64 0, .int .i64 0, .bool false] := by simp only [pairR, hmin, hp]
            rw [hcr, hpr]
            repeat with_reducible first
            | refine vb_i e_ext0 ?_
            | refine vb_i e_ext1 ?_
            | refine vb_i e_ext2 ?_
            | refine vb_i (e_not _) ?_
            exact fin_ret (vs := [.str [], .str [], .bool false]) (rvs_v (rvs_v (rvs_v (rvs_nil _)))) (Weak.any (tup_plain (plain_cons rfl (plain_cons rfl (plain_cons rfl plain_nil)))) tw.p)
          | some ij =>
            obtain ⟨a, c⟩ := ij
            obtain ⟨h1, h2, h3⟩ := pairs_inv hp
            have hcr : collideR T = [.str (T.getD a []), .str (T.getD c []), .bool true] := by simp only [collideR, hmin, hp]
            have hpr : pairR T (sums T) = [.int .i64 a, .int .i64 c, .bool true] := by simp only [pairR, hmin, hp]
            rw [hcr, hpr]
            repeat with_reducible first
            | refine vb_i e_ext0 ?_
            | refine vb_i e_ext1 ?_
            | refine vb_i e_ext2 ?_
            | refine vb_i (e_not _) ?_
            obtain ⟨u1, u2, u3⟩ := strs_at vx (show a < T.length by omega) (List.prefix_refl _)
            obtain ⟨u4, u5, u6⟩ := strs_at vx h2 (List.prefix_refl _)
            refine vb_i u2 (vb_i u3 (vb_i u5 (vb_i u6 ?_)))
            exact fin_ret (vs := [.str (T.getD a []), .str (T.getD c []), .bool true]) (rvs_v (rvs_v (rvs_v (rvs_nil _)))) (Weak.any (tup_plain (plain_cons rfl (plain_cons rfl (plain_cons rfl plain_nil)))) tw.p)
end Go.Sh

/- What is told has one sum. -/
namespace Go.Sh
open Go Go.Abs

/-- Nothing is told: no two unlike ones have one sum. -/
theorem no_clash {T : List (List UInt8)} (h : pairs T (sums T) T.length = none) {a b : List UInt8} (ha : a ∈ T) (hb : b ∈ T) (hab : a ≠ b) : sum a ≠ sum b := by
  intro he
  obtain ⟨i, hi, rfl⟩ := List.getElem_of_mem ha
  obtain ⟨k, hk, rfl⟩ := List.getElem_of_mem hb
  have g : ∀ j (hj : j < T.length), T.getD j [] = T[j] := fun j hj => by simp [List.getD_eq_getElem?_getD, List.getElem?_eq_getElem hj]
  have key : ∀ x y (hx : x < T.length) (hy : y < T.length), x < y → T[x] ≠ T[y] → sum T[x] = sum T[y] → False := by
    intro x y hx hy hxy hne hs
    have := pairs_no h x y hxy hy
    simp only [like, sums_get hx, sums_get hy, g x hx, g y hy, hs, hne, decide_true, ne_eq, not_false_eq_true, Bool.and_self, Bool.true_eq_false] at this
  rcases Nat.lt_trichotomy i k with h1 | h1 | h1
  · exact key i k hi hk h1 hab he
  · subst h1; exact hab rfl
  · exact key k i hk hi h1 (Ne.symm hab) he.symm

end Go.Sh

/- Functions that leave what was there as it was. -/
namespace Go.Sh
open Go Go.Abs

end Go.Sh
